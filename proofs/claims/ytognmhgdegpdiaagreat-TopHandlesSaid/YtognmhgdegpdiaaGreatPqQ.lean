import Derived.Test.YtognmhgdegpdiaaGreatPqJM
import Derived.Test.YtognmhgdegpdiaaGreatPqOP
import Derived.Test.YtognmhgdegpdiaaGreatHpR
/- Queues as plain data: what Delete and Decrease do. -/
namespace Go.Proofs.YtognmhgdegpdiaaGreat
open Go.RowKit
set_option linter.unusedVariables false
set_option linter.unusedSimpArgs false
set_option maxRecDepth 100000
section
variable {Q : QS} {L L' : List HR} {D : List (Int × Int)} {h : HR} {r : IR} {key : Int}
theorem QInv.nodeOf (q : QInv Q (h :: L) D) (hr : r ∈ h.I) : ∃ x ∈ h.N, Q.s.f x 6 = r.cell := by
  have := (q.it h (by simp)).mem_iff.2 (List.mem_map.2 ⟨r, hr, rfl⟩)
  obtain ⟨x, hx, e⟩ := List.mem_map.1 this
  exact ⟨x, hx, e⟩
theorem perm_head {α : Type} {r : α} {l : List α} (h : r ∈ l) : ∃ l', l.Perm (r :: l') := by
  obtain ⟨a, b, rfl⟩ := List.append_of_mem h
  exact ⟨a ++ b, List.perm_middle⟩
set_option maxHeartbeats 1000000 in
theorem QInv.cut (q : QInv Q (h :: L) D) (hw : Q.si.WF) (hr : r ∈ h.I) :
    ∃ I' M, h.I.Perm (r :: I') ∧ RemQ Q.sh Q.si Q.f Q.F Q.s.begin_ h.at_ h.x r.at_ ⟨r.gen, true, ⟨r.cell, h.at_, h.x.gen⟩⟩ r.key r.ser ∧ ∀ (vf fi : Value) (u : Nat),
      QInv { Q with vf := vf, fi := fi, s := ((Ar.kcut h.x.v.a Q.s.begin_ h.x.v.b r.cell).1.give r.cell).2.tick u, sh := Q.sh.setAt h.at_ h.x ⟨h.x.v.a, (Ar.kcut h.x.v.a Q.s.begin_ h.x.v.b r.cell).2, h.x.v.c - 1⟩, si := Q.si.giveAt r.at_ ⟨r.gen, true, ⟨r.cell, h.at_, h.x.gen⟩⟩ ⟨0, 0, 0⟩, f := upd Q.f r.cell none, F := upd Q.F ((r.at_ : Int), r.gen) none }
        (⟨h.at_, ⟨h.x.gen, h.x.taken, ⟨h.x.v.a, (Ar.kcut h.x.v.a Q.s.begin_ h.x.v.b r.cell).2, h.x.v.c - 1⟩⟩, M, I'⟩ :: L) (((r.at_ : Int), r.gen) :: D) := by
  have hk := (q.H.hp h.hp (by simp)).1
  obtain ⟨b1, b2, b3, b4⟩ := q.hs h (by simp)
  have hnl := q.nlen (h := h) (by simp)
  have h300 := q.itm
  have hnn := q.nn
  have hcnt := q.count_le hw
  obtain ⟨n, hnN, e6'⟩ := q.nodeOf hr
  have e6 : Q.s.begin_.f n 6 = r.cell := e6'
  obtain ⟨M, c4, c5, c6, c7, c8, c9, c10⟩ := Heaps.cut (k := h.x.v.a) (r := h.x.v.b) (N := h.N) (L := L.map HR.hp) (x := n) q.H.begin_ (by show Q.s.n ≤ 1000; omega) (by omega) hnN
  obtain ⟨I', hp⟩ := perm_head hr
  have ok := q.is h (by simp) r hr
  rw [e6] at c4 c5 c6 c7 c8 c9 c10
  obtain ⟨g1, g2, g3, g4⟩ := c5.give
  have hrL : r ∈ itemsL (h :: L) := mem_itemsL (by simp) hr
  have hpos : 0 < h.I.length := List.length_pos_of_mem hr
  have hIL : (itemsL (h :: L)).Perm (r :: (I' ++ itemsL L)) := by rw [itemsL_cons]; exact hp.append_right _
  have hatd : ((r :: (I' ++ itemsL L)).map IR.at_).Nodup := (hIL.map _).nodup_iff.1 q.ind
  have hced : ((r :: (I' ++ itemsL L)).map IR.cell).Nodup := (hIL.map _).nodup_iff.1 q.cells_nd
  have hplt := (List.getElem?_eq_some_iff.1 ok.pl).1
  have hold : ∀ (f f' : HR), f ∈ h :: L → f'.at_ = f.at_ → f'.x.gen = f.x.gen → ∀ t ∈ f.I, t ∈ I' ++ itemsL L → ∀ Q' : QS, Q'.si = Q.si.giveAt r.at_ ⟨r.gen, true, ⟨r.cell, h.at_, h.x.gen⟩⟩ ⟨0, 0, 0⟩ → Q'.f = upd Q.f r.cell none → Q'.F = upd Q.F ((r.at_ : Int), r.gen) none → (∀ c j, j = 7 ∨ j = 8 → Q'.s.f c j = Q.s.f c j) → Q'.serial = Q.serial → ItemOk Q' f' t := by
    intro f f' hf e1 e2 t ht hti Q' g1 g2 g3 g4 g5
    have ok' := q.is f hf t ht
    have h1 : t.at_ ≠ r.at_ := nodup_cons_map hatd hti
    have h2 : t.cell ≠ r.cell := nodup_cons_map hced hti
    have h3 : ((t.at_ : Int), t.gen) ≠ ((r.at_ : Int), r.gen) := fun e => h1 (by simp only [Prod.mk.injEq] at e; omega)
    refine ⟨?_, ok'.g1, by rw [g2, upd_other _ _ h2]; exact ok'.fc, by rw [g3, upd_other _ _ h3]; exact ok'.fe, ?_, ?_, ok'.s0, by rw [g5]; exact ok'.s1⟩
    · rw [g1, e1, e2, ← ok'.pl]; simp [PSt.giveAt, Ne.symm h1]
    · rw [g4 _ _ (.inl rfl)]; exact ok'.k7
    · rw [g4 _ _ (.inr rfl)]; exact ok'.k8
  have hcc : ∀ (vf fi : Value) (u : Nat) (c : Int) (j : Int), j = 7 ∨ j = 8 → (((Ar.kcut h.x.v.a Q.s.begin_ h.x.v.b r.cell).1.give r.cell).2.tick u).f c j = Q.s.f c j := fun vf fi u c j hj => by
    show ((Ar.kcut h.x.v.a Q.s.begin_ h.x.v.b r.cell).1.give r.cell).2.f c j = _
    rw [g3]
    rcases hj with e | e
    · rw [e]; exact (c6 c).1
    · rw [e]; exact (c6 c).2
  have hlenM : h.N.length = M.length + 1 := by
    have := c7.length_eq
    rw [List.length_cons, List.length_map, List.length_map] at this
    exact this.symm
  refine ⟨I', M, hp, ⟨b1, b2, b3, hk, by rw [b4]; omega, c5.ok, c4, ok.pl, rfl, ok.g1, rfl, rfl, q.co, q.ref_in hw (by simp) hr, ok.fe⟩, fun vf fi u => ⟨g1.tick u, fun f hf => ?_, q.hnd, fun f hf => ?_, fun f hf t ht => ?_, ?_, ?_, ?_, ?_, fun c hcn => ?_, q.co.give_ _ _ _, fun j x hx => ?_, q.mst, q.hmst, ?_, q.itm, q.sr, q.mp, fun d hd => ?_⟩⟩
  · rcases List.mem_cons.1 hf with e | hf
    · rw [e]
      have hlt2 := (List.getElem?_eq_some_iff.1 b1).1
      refine ⟨by simp [PSt.setAt, hlt2], b2, b3, ?_⟩
      show h.x.v.c - 1 = ((M.length : Nat) : Int)
      rw [b4, hlenM]; omega
    · have := q.hs f (by simp [hf])
      exact ⟨by rw [← this.1]; simp [PSt.setAt, Ne.symm (q.otherAt hf)], this.2⟩
  · rcases List.mem_cons.1 hf with e | hf
    · rw [e]
      show (M.map fun n => ((Ar.kcut h.x.v.a Q.s.begin_ h.x.v.b r.cell).1.give r.cell).2.f n 6).Perm (I'.map IR.cell)
      rw [List.map_congr_left fun x _ => g3 x 6]
      have h1 := (c7.trans (q.it h (by simp))).trans (hp.map IR.cell)
      simp only [List.map_cons] at h1
      exact h1.cons_inv
    · have h1 := q.it f (by simp [hf])
      show (f.N.map fun n => ((Ar.kcut h.x.v.a Q.s.begin_ h.x.v.b r.cell).1.give r.cell).2.f n 6).Perm _
      have e9 : (f.N.map fun n => ((Ar.kcut h.x.v.a Q.s.begin_ h.x.v.b r.cell).1.give r.cell).2.f n 6) = f.N.map fun n => Q.s.f n 6 := List.map_congr_left fun x hx => (g3 x 6).trans (c8 x (mem_nodesL (List.mem_map.2 ⟨f, hf, rfl⟩) hx))
      rw [e9]
      exact h1
  · rcases List.mem_cons.1 hf with e | hf
    · rw [e] at ht ⊢
      refine hold h _ (by simp) ?_ ?_ t (hp.mem_iff.2 (List.mem_cons_of_mem _ ht)) (List.mem_append.2 (.inl ht)) _ ?_ ?_ ?_ (hcc vf fi u) ?_ <;> rfl
    · refine hold f f (by simp [hf]) rfl rfl t ht (List.mem_append.2 (.inr (mem_itemsL hf ht))) _ ?_ ?_ ?_ (hcc vf fi u) ?_ <;> rfl
  · rw [itemsL_cons]; rw [List.map_cons, List.nodup_cons] at hatd; exact hatd.2
  · rw [itemsL_cons]
    have := (hIL.map IR.ser).nodup_iff.1 q.snd_
    rw [List.map_cons, List.nodup_cons] at this
    exact this.2
  · have h1 := q.cn
    rw [hIL.length_eq] at h1
    rw [itemsL_cons]
    simp only [PSt.giveAt, List.length_set, List.length_append, List.length_cons, List.length_nil] at h1 ⊢
    omega
  · have := q.hcn
    simpa [PSt.setAt] using this
  · by_cases e : c = r.cell
    · have hcn' : upd Q.f r.cell none c ≠ none := hcn
      rw [e, upd_same] at hcn'
      exact absurd rfl hcn'
    · obtain ⟨t, ht, e2⟩ := q.fz c (by have hcc' : upd Q.f r.cell none c ≠ none := hcn; rwa [upd_other _ _ e] at hcc')
      rcases List.mem_cons.1 (hIL.mem_iff.1 ht) with e3 | e3
      · exact absurd (by rw [← e2, e3]) e
      · exact ⟨t, e3, e2⟩
  · by_cases hj : r.at_ = j
    · subst hj
      have hx' : (Q.si.l.set r.at_ ⟨r.gen, false, ⟨0, 0, 0⟩⟩)[r.at_]? = some x := hx
      rw [List.getElem?_set_self hplt] at hx'
      cases hx'
      have := q.gens _ _ ok.pl
      exact this
    · have hx' : (Q.si.l.set r.at_ ⟨r.gen, false, ⟨0, 0, 0⟩⟩)[j]? = some x := hx
      rw [List.getElem?_set_ne hj] at hx'
      exact q.gens j x hx'
  · show (((Ar.kcut h.x.v.a Q.s.begin_ h.x.v.b r.cell).1.give r.cell).2.n : Int) = _
    rw [g4, c9]; exact q.nn
  · have key : ∀ (j : Nat) (x : Pl V3), Q.si.l[j]? = some x → ∃ y : Pl V3, (Q.si.l.set r.at_ ⟨r.gen, false, ⟨0, 0, 0⟩⟩)[j]? = some y ∧ y.gen = x.gen ∧ (x.taken = false → y.taken = false) := fun j x hx => by
      by_cases hj : r.at_ = j
      · subst hj
        rw [ok.pl] at hx
        cases hx
        exact ⟨_, List.getElem?_set_self hplt, rfl, fun _ => rfl⟩
      · exact ⟨x, by rw [List.getElem?_set_ne hj]; exact hx, rfl, fun e => e⟩
    rcases List.mem_cons.1 hd with e | hd
    · rw [e]
      exact ⟨r.at_, ⟨r.gen, false, ⟨0, 0, 0⟩⟩, rfl, List.getElem?_set_self hplt, ok.g1, Int.le_refl _, .inr rfl⟩
    · obtain ⟨j, x, e1, e2, e3, e4, e5⟩ := q.dd d hd
      obtain ⟨y, y1, y2, y3⟩ := key j x e2
      exact ⟨j, y, e1, y1, e3, by rw [y2]; exact e4, by rw [y2]; exact e5.imp id y3⟩
set_option maxHeartbeats 1000000 in
theorem QInv.lower (q : QInv Q (h :: L) D) (hw : Q.si.WF) (hr : r ∈ h.I) (hkey : key ≤ r.key) :
    ∃ I', h.I.Perm (r :: I') ∧ DecQ Q.sh Q.si Q.F Q.s.begin_ Q.ne h.at_ h.x r.at_ ⟨r.gen, true, ⟨r.cell, h.at_, h.x.gen⟩⟩ r.key r.ser key ∧ SB Q.s.begin_ (Ar.kfall h.x.v.a (Q.s.begin_.put r.cell 7 key) h.x.v.b r.cell).1 ∧ ∀ (u : Nat),
      QInv { Q with s := (Ar.kfall h.x.v.a (Q.s.begin_.put r.cell 7 key) h.x.v.b r.cell).1.tick u, sh := Q.sh.setAt h.at_ h.x ⟨h.x.v.a, (Ar.kfall h.x.v.a (Q.s.begin_.put r.cell 7 key) h.x.v.b r.cell).2, h.x.v.c⟩, F := upd Q.F ((r.at_ : Int), r.gen) (some (key, r.ser)) }
        (⟨h.at_, ⟨h.x.gen, h.x.taken, ⟨h.x.v.a, (Ar.kfall h.x.v.a (Q.s.begin_.put r.cell 7 key) h.x.v.b r.cell).2, h.x.v.c⟩⟩, h.N, ⟨r.at_, r.gen, r.cell, key, r.ser⟩ :: I'⟩ :: L) D := by
  have hk := (q.H.hp h.hp (by simp)).1
  obtain ⟨b1, b2, b3, b4⟩ := q.hs h (by simp)
  obtain ⟨n, hnN, e6'⟩ := q.nodeOf hr
  have e6 : Q.s.begin_.f n 6 = r.cell := e6'
  have ok := q.is h (by simp) r hr
  have hk7 : Q.s.begin_.f r.cell 7 = r.key := ok.k7
  obtain ⟨c5, c4, c6, c7, c8, c9, c10⟩ := Heaps.fall (k := h.x.v.a) (r := h.x.v.b) (N := h.N) (L := L.map HR.hp) (x := n) (key := key) q.H.begin_ hnN (by rw [e6, hk7]; exact hkey)
  obtain ⟨I', hp⟩ := perm_head hr
  rw [e6] at c4 c5 c6 c7 c8 c9 c10
  have hIL : (itemsL (h :: L)).Perm (r :: (I' ++ itemsL L)) := by rw [itemsL_cons]; exact hp.append_right _
  have hatd : ((r :: (I' ++ itemsL L)).map IR.at_).Nodup := (hIL.map _).nodup_iff.1 q.ind
  have hced : ((r :: (I' ++ itemsL L)).map IR.cell).Nodup := (hIL.map _).nodup_iff.1 q.cells_nd
  have hhas : Q.s.begin_.has r.cell = true := q.begin_.H.has (q.begin_.tot (mem_itemsL (by simp) hr))
  have hmp := q.mp
  have hsr := q.sr
  have hold : ∀ (f f' : HR), f ∈ h :: L → f'.at_ = f.at_ → f'.x.gen = f.x.gen → ∀ t ∈ f.I, t ∈ I' ++ itemsL L → ∀ Q' : QS, Q'.si = Q.si → Q'.f = Q.f → Q'.F = upd Q.F ((r.at_ : Int), r.gen) (some (key, r.ser)) → (∀ c, c ≠ r.cell → Q'.s.f c 7 = Q.s.f c 7 ∧ Q'.s.f c 8 = Q.s.f c 8) → Q'.serial = Q.serial → ItemOk Q' f' t := by
    intro f f' hf e1 e2 t ht hti Q' g1 g2 g3 g4 g5
    have ok' := q.is f hf t ht
    have h1 : t.at_ ≠ r.at_ := nodup_cons_map hatd hti
    have h2 : t.cell ≠ r.cell := nodup_cons_map hced hti
    have h3 : ((t.at_ : Int), t.gen) ≠ ((r.at_ : Int), r.gen) := fun e => h1 (by simp only [Prod.mk.injEq] at e; omega)
    exact ⟨by rw [g1, e1, e2]; exact ok'.pl, ok'.g1, by rw [g2]; exact ok'.fc, by rw [g3, upd_other _ _ h3]; exact ok'.fe, (g4 _ h2).1.trans ok'.k7, (g4 _ h2).2.trans ok'.k8, ok'.s0, by rw [g5]; exact ok'.s1⟩
  have hcc : ∀ (u : Nat) (c : Int), c ≠ r.cell → ((Ar.kfall h.x.v.a (Q.s.begin_.put r.cell 7 key) h.x.v.b r.cell).1.tick u).f c 7 = Q.s.f c 7 ∧ ((Ar.kfall h.x.v.a (Q.s.begin_.put r.cell 7 key) h.x.v.b r.cell).1.tick u).f c 8 = Q.s.f c 8 := fun u c hc =>
    ⟨(c6 c).1.trans (by rw [if_neg hc]; rfl), (c6 c).2⟩
  refine ⟨I', hp, ⟨b1, b2, b3, hk, c4, by rw [Ar.get_f hhas, hk7]; omega, ok.pl, rfl, ok.g1, rfl, rfl, q.ref_in hw (by simp) hr, ok.fe, hkey, by omega⟩, c10, fun u => ⟨c5.tick u, fun f hf => ?_, q.hnd, fun f hf => ?_, fun f hf t ht => ?_, ?_, ?_, ?_, ?_, fun c hcn => ?_, q.co, q.gens, q.mst, q.hmst, ?_, q.itm, q.sr, q.mp, q.dd⟩⟩
  · rcases List.mem_cons.1 hf with e | hf
    · rw [e]
      have hlt2 := (List.getElem?_eq_some_iff.1 b1).1
      exact ⟨by simp [PSt.setAt, hlt2], b2, b3, b4⟩
    · have := q.hs f (by simp [hf])
      exact ⟨by rw [← this.1]; simp [PSt.setAt, Ne.symm (q.otherAt hf)], this.2⟩
  · rcases List.mem_cons.1 hf with e | hf
    · rw [e]
      exact (c7.trans (q.it h (by simp))).trans (hp.map IR.cell)
    · have h1 := q.it f (by simp [hf])
      show (f.N.map fun n => (Ar.kfall h.x.v.a (Q.s.begin_.put r.cell 7 key) h.x.v.b r.cell).1.f n 6).Perm _
      have e9 : (f.N.map fun n => (Ar.kfall h.x.v.a (Q.s.begin_.put r.cell 7 key) h.x.v.b r.cell).1.f n 6) = f.N.map fun n => Q.s.f n 6 := List.map_congr_left fun x hx => c8 x (mem_nodesL (List.mem_map.2 ⟨f, hf, rfl⟩) hx)
      rw [e9]
      exact h1
  · rcases List.mem_cons.1 hf with e | hf
    · rw [e] at ht ⊢
      rcases List.mem_cons.1 ht with e2 | ht
      · rw [e2]
        exact ⟨ok.pl, ok.g1, ok.fc, upd_same _ _ _, (c6 r.cell).1.trans (if_pos rfl), (c6 r.cell).2.trans ok.k8, ok.s0, ok.s1⟩
      · refine hold h _ (by simp) ?_ ?_ t (hp.mem_iff.2 (List.mem_cons_of_mem _ ht)) (List.mem_append.2 (.inl ht)) _ ?_ ?_ ?_ (hcc u) ?_ <;> rfl
    · refine hold f f (by simp [hf]) rfl rfl t ht (List.mem_append.2 (.inr (mem_itemsL hf ht))) _ ?_ ?_ ?_ (hcc u) ?_ <;> rfl
  · exact hatd
  · exact (hIL.map IR.ser).nodup_iff.1 q.snd_
  · have h1 := q.cn
    rw [hIL.length_eq] at h1
    exact h1
  · have := q.hcn
    simpa [PSt.setAt] using this
  · obtain ⟨t, ht, e2⟩ := q.fz c hcn
    rcases List.mem_cons.1 (hIL.mem_iff.1 ht) with e3 | e3
    · exact ⟨⟨r.at_, r.gen, r.cell, key, r.ser⟩, List.mem_cons_self, by rw [← e2, e3]⟩
    · exact ⟨t, List.mem_cons_of_mem _ e3, e2⟩
  · show (((Ar.kfall h.x.v.a (Q.s.begin_.put r.cell 7 key) h.x.v.b r.cell).1.n : Nat) : Int) = _
    rw [c9]; exact q.nn
theorem QInv.dead (q : QInv Q L D) {d : Int × Int} (hd : d ∈ D) (hw : Q.si.WF) : Q.si.look d.1 d.2 = 23 ∧ (in64 d.1 ∧ in64 d.2) := by
  have h1 := q.dd d hd
  refine ⟨look_dead h1, ?_⟩
  obtain ⟨i, x, e1, e2, e3, e4, _⟩ := h1
  have h2 := (List.getElem?_eq_some_iff.1 e2).1
  have h3 := hw.le
  have h4 := q.mst
  have h5 := q.itm
  have h6 := q.gens _ _ e2
  have h7 := q.sr
  unfold in64
  omega
end
section
variable {B : Nat} {w0 w : World} {C : List Ent} {m : QM} {Q : QS} {L : List HR} {D : List (Int × Int)} {h : HR} {r : IR}
theorem q_remove (kd ha hg oa og key : Int) (q : QInv Q (h :: L) D) (hr : r ∈ h.I) (l : Led B w0 w (Q.es m ++ C)) :
    Calls Tryz.prog 11 #[.pointer (some ⟨m.q, 0, none⟩), .agg #[.int .i64 6, .int .i64 kd, .int .i64 ha, .int .i64 hg, .int .i64 oa, .int .i64 og, .int .i64 (r.at_ : Int), .int .i64 r.gen, .int .i64 key]] w fun e w' =>
      ∃ (Q' : QS) (h' : HR), e = .returned (.agg #[.int .i64 0, .int .i64 0, .int .i64 0, .int .i64 0, .int .i64 0, .int .i64 r.key, .int .i64 r.ser, .int .i64 0]) ∧ Led B w0 w' (Q'.es m ++ C) ∧ QInv Q' (h' :: L) (((r.at_ : Int), r.gen) :: D) ∧
        h'.at_ = h.at_ ∧ h'.x.gen = h.x.gen ∧ h'.x.v.a = h.x.v.a ∧ h.I.Perm (r :: h'.I) ∧ Q'.serial = Q.serial ∧ Q'.items = Q.items := by
  have hw := QS.wfi l
  obtain ⟨I', M, c1, c3, c5⟩ := q.cut hw hr
  refine Calls.mono (do_remove kd ha hg oa og key h.at_ h.x r.at_ ⟨r.gen, true, ⟨r.cell, h.at_, h.x.gen⟩⟩ r.key r.ser c3 q.begun l) ?_
  rintro e w' ⟨vf', fi', u, rfl, l'⟩
  refine ⟨_, _, rfl, ?_, c5 vf' fi' u, rfl, rfl, rfl, c1, rfl, rfl⟩
  exact l'
theorem q_lower (kd ha hg oa og key : Int) (q : QInv Q (h :: L) D) (hr : r ∈ h.I) (hk : key ≤ r.key) (l : Led B w0 w (Q.es m ++ C)) :
    Calls Tryz.prog 11 #[.pointer (some ⟨m.q, 0, none⟩), .agg #[.int .i64 5, .int .i64 kd, .int .i64 ha, .int .i64 hg, .int .i64 oa, .int .i64 og, .int .i64 (r.at_ : Int), .int .i64 r.gen, .int .i64 key]] w fun e w' =>
      ∃ (Q' : QS) (h' : HR) (I' : List IR), e = .returned (.agg #[.int .i64 0, .int .i64 0, .int .i64 0, .int .i64 0, .int .i64 0, .int .i64 key, .int .i64 r.ser, .int .i64 0]) ∧ Led B w0 w' (Q'.es m ++ C) ∧ QInv Q' (h' :: L) D ∧
        h'.at_ = h.at_ ∧ h'.x.gen = h.x.gen ∧ h'.x.v.a = h.x.v.a ∧ h.I.Perm (r :: I') ∧ h'.I = ⟨r.at_, r.gen, r.cell, key, r.ser⟩ :: I' ∧ Q'.serial = Q.serial ∧ Q'.items = Q.items ∧ Stp Q Q' (Ar.kfallB h.x.v.a (Q.s.begin_.put r.cell 7 key) h.x.v.b r.cell + 2) := by
  have hw := QS.wfi l
  obtain ⟨I', c1, c3, c4, c5⟩ := q.lower hw hr hk
  refine Calls.mono (do_dec kd ha hg oa og key h.at_ h.x r.at_ ⟨r.gen, true, ⟨r.cell, h.at_, h.x.gen⟩⟩ r.key r.ser c3 q.begun l) ?_
  rintro e w' ⟨u, rfl, hu, l'⟩
  refine ⟨_, _, I', rfl, ?_, c5 u, rfl, rfl, rfl, c1, rfl, rfl, rfl, stp_of c4 rfl hu⟩
  exact l'
theorem q_rem_dead (kd ha hg oa og key : Int) (q : QInv Q L D) {d : Int × Int} (hd : d ∈ D) (l : Led B w0 w (Q.es m ++ C)) :
    Calls Tryz.prog 11 #[.pointer (some ⟨m.q, 0, none⟩), .agg #[.int .i64 6, .int .i64 kd, .int .i64 ha, .int .i64 hg, .int .i64 oa, .int .i64 og, .int .i64 d.1, .int .i64 d.2, .int .i64 key]] w fun e w' =>
      ∃ Q' : QS, e = .returned (.agg #[.int .i64 23, .int .i64 0, .int .i64 0, .int .i64 0, .int .i64 0, .int .i64 0, .int .i64 0, .int .i64 0]) ∧ Led B w0 w' (Q'.es m ++ C) ∧ QInv Q' L D ∧ Q'.serial = Q.serial ∧ Q'.items = Q.items := by
  obtain ⟨h1, h2⟩ := q.dead hd (QS.wfi l)
  refine Calls.mono (do_rem_dead kd ha hg oa og d.1 d.2 key h1 q.begun l) ?_
  rintro e w' ⟨rfl, l'⟩
  exact ⟨{ Q with s := Q.s.begin_ }, rfl, l', q.begin_, rfl, rfl⟩
theorem q_dec_dead (kd ha hg oa og key : Int) (q : QInv Q L D) {d : Int × Int} (hd : d ∈ D) (l : Led B w0 w (Q.es m ++ C)) :
    Calls Tryz.prog 11 #[.pointer (some ⟨m.q, 0, none⟩), .agg #[.int .i64 5, .int .i64 kd, .int .i64 ha, .int .i64 hg, .int .i64 oa, .int .i64 og, .int .i64 d.1, .int .i64 d.2, .int .i64 key]] w fun e w' =>
      ∃ Q' : QS, e = .returned (.agg #[.int .i64 23, .int .i64 0, .int .i64 0, .int .i64 0, .int .i64 0, .int .i64 0, .int .i64 0, .int .i64 0]) ∧ Led B w0 w' (Q'.es m ++ C) ∧ QInv Q' L D ∧ Q'.serial = Q.serial ∧ Q'.items = Q.items := by
  obtain ⟨h1, h2⟩ := q.dead hd (QS.wfi l)
  refine Calls.mono (do_dec_dead kd ha hg oa og d.1 d.2 key h1 h2 q.begun l) ?_
  rintro e w' ⟨rfl, l'⟩
  exact ⟨{ Q with s := Q.s.begin_ }, rfl, l', q.begin_, rfl, rfl⟩
end
end Go.Proofs.YtognmhgdegpdiaaGreat
