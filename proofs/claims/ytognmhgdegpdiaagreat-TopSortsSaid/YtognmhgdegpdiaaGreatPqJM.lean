import Derived.Test.YtognmhgdegpdiaaGreatPqHI
section
/- Queues as plain data: heaps, their items. -/
namespace Go.Proofs.YtognmhgdegpdiaaGreat
open Go.RowKit
set_option linter.unusedVariables false
set_option linter.unusedSimpArgs false
structure IR where
  at_ : Nat
  gen : Int
  cell : Int
  key : Int
  ser : Int
structure HR where
  at_ : Nat
  x : Pl V3
  N : List Int
  I : List IR
def HR.hp (h : HR) : HP := ⟨h.x.v.a, h.x.v.b, h.N⟩
def itemsL (L : List HR) : List IR := L.flatMap HR.I
structure QS where
  vf : Value
  lh : Value
  fh : Value
  li : Value
  fi : Value
  n : Nat
  ne : Nat
  s : Ar
  sh : PSt V3
  si : PSt V3
  f : Int → Option (Int × Int)
  F : (Int × Int) → Option (Int × Int)
  items : Int
  serial : Int
def QS.es (Q : QS) (m : QM) : List Ent := m.es Q.vf Q.lh Q.fh Q.li Q.fi Q.n Q.ne Q.s Q.sh Q.si Q.f Q.F Q.items Q.serial
structure ItemOk (Q : QS) (h : HR) (r : IR) : Prop where
  pl : Q.si.l[r.at_]? = some ⟨r.gen, true, ⟨r.cell, h.at_, h.x.gen⟩⟩
  g1 : 1 ≤ r.gen
  fc : Q.f r.cell = some ((r.at_ : Int), r.gen)
  fe : Q.F ((r.at_ : Int), r.gen) = some (r.key, r.ser)
  k7 : Q.s.f r.cell 7 = r.key
  k8 : Q.s.f r.cell 8 = r.ser
  s0 : 0 ≤ r.ser
  s1 : r.ser < Q.serial
structure QInv (Q : QS) (L : List HR) (D : List (Int × Int)) : Prop where
  H : Heaps Q.s (L.map HR.hp) []
  hs : ∀ h ∈ L, Q.sh.l[h.at_]? = some h.x ∧ h.x.taken = true ∧ 1 ≤ h.x.gen ∧ h.x.v.c = h.N.length
  hnd : (L.map HR.at_).Nodup
  it : ∀ h ∈ L, (h.N.map fun n => Q.s.f n 6).Perm (h.I.map IR.cell)
  is : ∀ h ∈ L, ∀ r ∈ h.I, ItemOk Q h r
  ind : ((itemsL L).map IR.at_).Nodup
  snd_ : ((itemsL L).map IR.ser).Nodup
  cn : (Q.si.l.length : Int) - Q.si.free.length = (itemsL L).length
  hcn : (Q.sh.l.length : Int) - Q.sh.free.length = L.length
  fz : ∀ c, Q.f c ≠ none → ∃ r ∈ itemsL L, r.cell = c
  co : CellsOk Q.si
  gens : ∀ (i : Nat) (x : Pl V3), Q.si.l[i]? = some x → 0 ≤ x.gen ∧ x.gen ≤ Q.serial
  mst : (Q.si.most : Int) = Q.items
  hmst : Q.sh.most = 64
  nn : (Q.s.n : Int) = 2 * Q.items
  itm : 1 ≤ Q.items ∧ Q.items ≤ 300
  sr : 0 ≤ Q.serial ∧ Q.serial ≤ 5000
  mp : (Q.n : Int) ≤ Q.serial ∧ (Q.ne : Int) ≤ Q.serial
  dd : ∀ d ∈ D, ∃ (i : Nat) (x : Pl V3), d.1 = i ∧ Q.si.l[i]? = some x ∧ 1 ≤ d.2 ∧ d.2 ≤ x.gen ∧ (d.2 < x.gen ∨ x.taken = false)
theorem itemsL_cons (h : HR) (L : List HR) : itemsL (h :: L) = h.I ++ itemsL L := rfl
theorem mem_itemsL {L : List HR} {h : HR} (hh : h ∈ L) {r : IR} (hr : r ∈ h.I) : r ∈ itemsL L := List.mem_flatMap.2 ⟨h, hh, hr⟩
section
variable {Q : QS} {L L' : List HR} {D : List (Int × Int)} {h : HR} {r : IR}
theorem QInv.perm (q : QInv Q L D) (hp : L.Perm L') : QInv Q L' D := by
  have hi : (itemsL L).Perm (itemsL L') := hp.flatMap_right _
  exact ⟨q.H.perm (hp.map _), fun h hh => q.hs h (hp.mem_iff.2 hh), (hp.map _).nodup_iff.1 q.hnd, fun h hh => q.it h (hp.mem_iff.2 hh), fun h hh => q.is h (hp.mem_iff.2 hh), (hi.map _).nodup_iff.1 q.ind, (hi.map _).nodup_iff.1 q.snd_, by rw [← hi.length_eq]; exact q.cn, by rw [← hp.length_eq]; exact q.hcn,
    fun c hc => (q.fz c hc).imp fun r hr => ⟨hi.mem_iff.1 hr.1, hr.2⟩, q.co, q.gens, q.mst, q.hmst, q.nn, q.itm, q.sr, q.mp, q.dd⟩
theorem QInv.cells : ∀ {L : List HR}, (∀ h ∈ L, (h.N.map fun n => Q.s.f n 6).Perm (h.I.map IR.cell)) → ((nodesL (L.map HR.hp)).map fun n => Q.s.f n 6).Perm ((itemsL L).map IR.cell)
  | [], _ => List.Perm.refl _
  | h :: L, hh => by
    rw [List.map_cons, nodesL_cons, itemsL_cons, List.map_append, List.map_append]
    exact (hh h (by simp)).append (QInv.cells fun g hg => hh g (by simp [hg]))
theorem QInv.cells_nd (q : QInv Q L D) : ((itemsL L).map IR.cell).Nodup := (QInv.cells q.it).nodup_iff.1 q.H.apart.2.1
theorem QInv.len (q : QInv Q L D) : (nodesL (L.map HR.hp)).length = (itemsL L).length := by
  have := (QInv.cells q.it).length_eq
  rwa [List.length_map, List.length_map] at this
theorem QInv.tot (q : QInv Q L D) (hr : r ∈ itemsL L) : r.cell ∈ totL Q.s (L.map HR.hp) [] := by
  have h1 : r.cell ∈ (nodesL (L.map HR.hp)).map fun n => Q.s.f n 6 := (QInv.cells q.it).mem_iff.2 (List.mem_map.2 ⟨r, hr, rfl⟩)
  obtain ⟨n, hn, e⟩ := List.mem_map.1 h1
  rw [← e]
  exact mem_tot_item hn
theorem QInv.nlen (q : QInv Q L D) (hh : h ∈ L) : h.N.length = h.I.length ∧ h.I.length ≤ (itemsL L).length := by
  have h1 := (q.it h hh).length_eq
  rw [List.length_map, List.length_map] at h1
  obtain ⟨a, b, rfl⟩ := List.append_of_mem hh
  refine ⟨h1, ?_⟩
  unfold itemsL
  rw [List.flatMap_append, List.flatMap_cons, List.length_append, List.length_append]
  omega
theorem QInv.count_le (q : QInv Q L D) (hw : Q.si.WF) : ((itemsL L).length : Int) ≤ Q.items := by
  have h1 := q.cn
  have h2 := hw.le
  have h3 := q.mst
  omega
theorem take_new {s s' : PSt V3} {v : V3} {a g : Int} (hw : s.WF) (hg : ∀ (i : Nat) (x : Pl V3), s.l[i]? = some x → 0 ≤ x.gen ∧ x.gen ≤ 1000000) (h : TakeR s v a g true s') :
    ∃ i : Nat, a = i ∧ s'.l[i]? = some ⟨g, true, v⟩ ∧ (∀ j, j ≠ i → s'.l[j]? = s.l[j]?) ∧ (∀ x, s.l[i]? = some x → x.taken = false ∧ g = x.gen + 1) ∧ (s.l[i]? = none → g = 1) ∧ (s'.l.length : Int) - s'.free.length = (s.l.length : Int) - s.free.length + 1 ∧ s'.most = s.most := by
  rcases h with ⟨_, _, _, _, h, _⟩ | ⟨h1, h2, rfl, rfl, _, rfl⟩ | ⟨i, fs, x, h1, hx, rfl, rfl, _, rfl⟩
  · cases h
  · refine ⟨s.l.length, rfl, by simp [PSt.fresh], fun j hj => ?_, fun x hx => ?_, fun _ => rfl, ?_, rfl⟩
    · simp only [PSt.fresh]
      by_cases h : j < s.l.length
      · rw [List.getElem?_append_left h]
      · rw [List.getElem?_eq_none (by simp; omega), List.getElem?_eq_none (by omega)]
    · have := (List.getElem?_eq_some_iff.1 hx).1; omega
    · simp only [PSt.fresh, List.length_append, List.length_singleton]; omega
  · have hlt := (List.getElem?_eq_some_iff.1 hx).1
    have h2 := hg i x hx
    have hwr : wrap64 (x.gen + 1) = x.gen + 1 := by unfold wrap64; omega
    refine ⟨i, rfl, by simp [PSt.retake, hlt], fun j hj => by simp [PSt.retake, Ne.symm hj], fun y hy => ?_, fun hn => ?_, ?_, rfl⟩
    · rw [hx] at hy
      cases hy
      obtain ⟨z, hz, hzt⟩ := (hw.free i).1 (by rw [h1]; simp)
      rw [hx] at hz
      cases hz
      exact ⟨hzt, hwr⟩
    · rw [hx] at hn; cases hn
    · simp only [PSt.retake, List.length_set, h1, List.length_append, List.length_singleton]; omega
theorem QInv.ins_room (q : QInv Q (h :: L) D) (hw : Q.si.WF) (hc : ((itemsL (h :: L)).length : Int) < Q.items) (key : Int) :
    Q.s.begin_.take.2.1 = true ∧ Heaps (Q.s.begin_.newItem key Q.serial) ((h :: L).map HR.hp) [Q.s.begin_.take.1] ∧ (Q.s.begin_.newItem key Q.serial).take.2.1 = true ∧ (Q.s.begin_.newItem key Q.serial).n = Q.s.n ∧
      (Q.s.begin_.newItem key Q.serial).f Q.s.begin_.take.1 7 = key ∧ (Q.s.begin_.newItem key Q.serial).f Q.s.begin_.take.1 8 = Q.serial ∧ (∀ c, c ≠ Q.s.begin_.take.1 → ∀ j, (Q.s.begin_.newItem key Q.serial).f c j = Q.s.f c j) ∧ Q.s.begin_.take.1 ∉ totL Q.s ((h :: L).map HR.hp) [] := by
  have hl := q.len
  have hn := q.nn
  have t1 : Q.s.begin_.take.2.1 = true := q.H.begin_.room (by rw [hl]; show _ < Q.s.n; simp; omega)
  obtain ⟨a1, a2, a3, a4, a5, a6⟩ := q.H.begin_.newItem key Q.serial t1
  exact ⟨t1, a1, a1.room (by rw [hl, a6]; show _ < Q.s.n; simp; omega), a6, a2, a3, a4, a5⟩
theorem QInv.ins_pre (q : QInv Q (h :: L) D) (hw : Q.si.WF) (hc : ((itemsL (h :: L)).length : Int) < Q.items) (key : Int) (hser : Q.serial ≤ 4999) :
    InsPre Q.sh Q.si Q.f Q.s.begin_ Q.n Q.ne Q.items Q.serial key h.at_ h.x := by
  obtain ⟨t1, a1, t2, a6, a2, a3, a4, a5⟩ := q.ins_room hw hc key
  obtain ⟨b1, b2, b3, b4⟩ := q.hs h (by simp)
  have hl := q.nlen (h := h) (by simp)
  have h300 := q.itm
  obtain ⟨c1, c2, _⟩ := Heaps.push (k := h.x.v.a) (r := h.x.v.b) (N := h.N) (L := L.map HR.hp) a1 t2 (by omega)
  have hk := (q.H.hp h.hp (by simp)).1
  have hcn := q.cn
  have hm := q.mst
  have hwl := hw.le
  have hs := q.sr
  have hmp := q.mp
  refine ⟨b1, b2, b3, hk, by rw [b4]; omega, ⟨hs.1, by omega⟩, by omega, q.H.begin_.ok, t1, c2, by omega, ?_, fun i x hx => by have := q.gens i x hx; omega, by omega, by omega⟩
  cases hf : Q.f Q.s.begin_.take.1 with
  | none => rfl
  | some z =>
    obtain ⟨r, hr, e⟩ := q.fz _ (by rw [hf]; simp)
    exact absurd (e ▸ q.tot hr) a5
end
end Go.Proofs.YtognmhgdegpdiaaGreat
end
section
/- Queues as plain data: what Insert, FindMin, DeleteMin, Make do. -/
namespace Go.Proofs.YtognmhgdegpdiaaGreat
open Go.RowKit
set_option linter.unusedVariables false
set_option linter.unusedSimpArgs false
section
variable {Q : QS} {L L' : List HR} {D : List (Int × Int)} {h : HR} {r : IR}
theorem QInv.otherAt (q : QInv Q (h :: L) D) {g : HR} (hg : g ∈ L) : g.at_ ≠ h.at_ := fun e => by
  have := q.hnd
  rw [List.map_cons, List.nodup_cons] at this
  exact this.1 (e ▸ List.mem_map.2 ⟨g, hg, rfl⟩)
theorem nodup_cons_map {α β : Type} {f : α → β} {r : α} {l : List α} (h : ((r :: l).map f).Nodup) {t : α} (ht : t ∈ l) : f t ≠ f r := fun e => by
  rw [List.map_cons, List.nodup_cons] at h
  exact h.1 (e ▸ List.mem_map.2 ⟨t, ht, rfl⟩)
set_option maxHeartbeats 1000000 in
theorem QInv.ins_post (q : QInv Q (h :: L) D) (hw : Q.si.WF) (hc : ((itemsL (h :: L)).length : Int) < Q.items) (key : Int) (hser : Q.serial ≤ 4999) {si' : PSt V3} {a g : Int} {n' : Nat}
    (hT : TakeR Q.si ⟨Q.s.begin_.take.1, h.at_, h.x.gen⟩ a g true si') (hn' : n' ≤ Q.n + 1) (vf li fi : Value) (u : Nat) :
    ∃ (i : Nat) (n0 : Int), a = i ∧ 1 ≤ g ∧ (a, g) ∉ D ∧ (∀ t ∈ itemsL (h :: L), t.at_ ≠ i) ∧
      QInv { Q with vf := vf, li := li, fi := fi, n := n', ne := Q.ne + 1, s := (Ar.kpush h.x.v.a (Q.s.begin_.newItem key Q.serial) h.x.v.b Q.s.begin_.take.1).1.tick u, sh := Q.sh.setAt h.at_ h.x ⟨h.x.v.a, (Ar.kpush h.x.v.a (Q.s.begin_.newItem key Q.serial) h.x.v.b Q.s.begin_.take.1).2, h.x.v.c + 1⟩, si := si', f := upd Q.f Q.s.begin_.take.1 (some (a, g)), F := upd Q.F (a, g) (some (key, Q.serial)), serial := Q.serial + 1 }
        (⟨h.at_, ⟨h.x.gen, h.x.taken, ⟨h.x.v.a, (Ar.kpush h.x.v.a (Q.s.begin_.newItem key Q.serial) h.x.v.b Q.s.begin_.take.1).2, h.x.v.c + 1⟩⟩, n0 :: h.N, ⟨i, g, Q.s.begin_.take.1, key, Q.serial⟩ :: h.I⟩ :: L) D ∧
      SB Q.s.begin_ (Ar.kpush h.x.v.a (Q.s.begin_.newItem key Q.serial) h.x.v.b Q.s.begin_.take.1).1 := by
  obtain ⟨t1, a1, t2, a6, a2, a3, a4, a5⟩ := q.ins_room hw hc key
  obtain ⟨b1, b2, b3, b4⟩ := q.hs h (by simp)
  have hl := q.nlen (h := h) (by simp)
  have h300 := q.itm
  obtain ⟨c1, c2, c3, c4, c5, c6, c7, c8⟩ := Heaps.push (k := h.x.v.a) (r := h.x.v.b) (N := h.N) (L := L.map HR.hp) a1 t2 (by have := q.cn; have := q.mst; have := hw.le; omega)
  obtain ⟨i, rfl, d2, d3, d4, d5, d6, d7⟩ := take_new hw (fun i x hx => by have := q.gens i x hx; have := q.sr; omega) hT
  have hg1 : 1 ≤ g := by
    cases hx : Q.si.l[i]? with
    | none => rw [d5 hx]; exact Int.le_refl 1
    | some x => have := (d4 x hx).2; have := q.gens i x hx; omega
  have hgs : 0 ≤ g ∧ g ≤ Q.serial + 1 := by
    have := q.sr
    cases hx : Q.si.l[i]? with
    | none => rw [d5 hx]; omega
    | some x => have := (d4 x hx).2; have := q.gens i x hx; omega
  have hat : ∀ f ∈ h :: L, ∀ t ∈ f.I, t.at_ ≠ i := fun f hf t ht e => by
    have h1 := (q.is f hf t ht).pl
    rw [e] at h1
    have := (d4 _ h1).1
    cases this
  have hati : ∀ t ∈ itemsL (h :: L), t.at_ ≠ i := fun t ht => by
    obtain ⟨f, hf, ht⟩ := List.mem_flatMap.1 ht
    exact hat f hf t ht
  have hcell : ∀ t ∈ itemsL (h :: L), t.cell ≠ Q.s.begin_.take.1 := fun t ht e => a5 (e ▸ q.tot ht)
  have htot : ∀ x ∈ totL Q.s ((h :: L).map HR.hp) [], x ≠ Q.s.begin_.take.1 := fun x hx e => a5 (e ▸ hx)
  have hnode : ∀ x ∈ nodesL ((h :: L).map HR.hp), (Q.s.begin_.newItem key Q.serial).f x 6 = Q.s.f x 6 := fun x hx => a4 x (htot x (mem_tot_node hx)) 6
  have hc0 : Q.s.begin_.take.1 ≠ (Q.s.begin_.newItem key Q.serial).take.1 := fun e => c7 (e ▸ mem_tot_e (by simp))
  have hcn : ∀ t ∈ itemsL (h :: L), t.cell ≠ (Q.s.begin_.newItem key Q.serial).take.1 := fun t ht e => c7 (by
    rw [← e]
    have h1 := q.tot ht
    unfold totL at h1 ⊢
    rcases List.mem_append.1 h1 with h2 | h2
    · exact List.mem_append.2 (.inl h2)
    · rcases List.mem_append.1 h2 with h3 | h3
      · refine List.mem_append.2 (.inr (List.mem_append.2 (.inl ?_)))
        obtain ⟨n, hn, e2⟩ := List.mem_map.1 h3
        exact List.mem_map.2 ⟨n, hn, by rw [← e2]; exact hnode n hn⟩
      · cases h3)
  have hdd : ∀ d ∈ D, ∃ (j : Nat) (x : Pl V3), d.1 = j ∧ si'.l[j]? = some x ∧ 1 ≤ d.2 ∧ d.2 ≤ x.gen ∧ (d.2 < x.gen ∨ x.taken = false) := fun d hd => by
    obtain ⟨j, x, e1, e2, e3, e4, e5⟩ := q.dd d hd
    by_cases hj : j = i
    · subst hj
      have := (d4 x e2).2
      exact ⟨j, _, e1, d2, e3, by show d.2 ≤ g; omega, .inl (by show d.2 < g; omega)⟩
    · exact ⟨j, x, e1, (d3 j hj).trans e2, e3, e4, e5⟩
  have hnD : ((i : Int), g) ∉ D := fun hd => by
    obtain ⟨j, x, e1, e2, e3, e4, e5⟩ := hdd _ hd
    have e1' : (i : Int) = j := e1
    have : j = i := by omega
    subst this
    rw [d2] at e2
    cases e2
    rcases e5 with e | e
    · exact absurd e (by show ¬ g < g; omega)
    · cases e
  have hold : ∀ (f f' : HR), f ∈ h :: L → f'.at_ = f.at_ → f'.x.gen = f.x.gen → ∀ t ∈ f.I, ∀ Q' : QS, Q'.si = si' → Q'.f = upd Q.f Q.s.begin_.take.1 (some ((i : Int), g)) → Q'.F = upd Q.F ((i : Int), g) (some (key, Q.serial)) → Q'.s = (Ar.kpush h.x.v.a (Q.s.begin_.newItem key Q.serial) h.x.v.b Q.s.begin_.take.1).1.tick u → Q'.serial = Q.serial + 1 → ItemOk Q' f' t := by
    intro f f' hf e1 e2 t ht Q' g1 g2 g3 g4 g5
    have ok := q.is f hf t ht
    have hti := mem_itemsL hf ht
    have h1 := hcell t hti
    have h2 := hcn t hti
    have h3 : ((t.at_ : Int), t.gen) ≠ ((i : Int), g) := fun e => hati t hti (by simp only [Prod.mk.injEq] at e; omega)
    refine ⟨by rw [g1, d3 _ (hati t hti), e1, e2]; exact ok.pl, ok.g1, by rw [g2, upd_other _ _ h1]; exact ok.fc, by rw [g3, upd_other _ _ h3]; exact ok.fe, ?_, ?_, ok.s0, by rw [g5]; have := ok.s1; omega⟩
    · rw [g4]; exact (c3 t.cell h2).1.trans ((a4 _ h1 7).trans ok.k7)
    · rw [g4]; exact (c3 t.cell h2).2.trans ((a4 _ h1 8).trans ok.k8)
  refine ⟨i, (Q.s.begin_.newItem key Q.serial).take.1, rfl, hg1, hnD, hati, ⟨c1.tick u, fun f hf => ?_, q.hnd, fun f hf => ?_, fun f hf t ht => ?_, ?_, ?_, ?_, ?_, fun c hcc => ?_, ?_, fun j x hx => ?_, by rw [d7]; exact q.mst, q.hmst, ?_, q.itm, ?_, ?_, hdd⟩, (newItem_sb _ _ _).trans c8⟩
  · rcases List.mem_cons.1 hf with e | hf
    · rw [e]
      have hlt := (List.getElem?_eq_some_iff.1 b1).1
      exact ⟨by simp [PSt.setAt, hlt], b2, b3, by rw [b4]; simp⟩
    · have := q.hs f (by simp [hf])
      exact ⟨by rw [← this.1]; simp [PSt.setAt, Ne.symm (q.otherAt hf)], this.2⟩
  · rcases List.mem_cons.1 hf with e | hf
    · rw [e]
      refine c4.trans (List.Perm.cons _ ?_)
      rw [List.map_congr_left fun x hx => hnode x (by rw [List.map_cons, nodesL_cons]; exact List.mem_append.2 (.inl hx))]
      exact q.it h (by simp)
    · have h1 := q.it f (by simp [hf])
      rw [List.map_congr_left fun x hx => ?_]
      · exact h1
      · have hx2 : x ∈ nodesL (L.map HR.hp) := mem_nodesL (List.mem_map.2 ⟨f, hf, rfl⟩) hx
        exact (c5 x hx2).trans (hnode x (by rw [List.map_cons, nodesL_cons]; exact List.mem_append.2 (.inr hx2)))
  · rcases List.mem_cons.1 hf with e | hf
    · rw [e] at ht ⊢
      rcases List.mem_cons.1 ht with e2 | ht
      · rw [e2]
        exact ⟨d2, hg1, upd_same _ _ _, upd_same _ _ _, (c3 _ hc0).1.trans a2, (c3 _ hc0).2.trans a3, q.sr.1, by show Q.serial < Q.serial + 1; omega⟩
      · refine hold h _ (by simp) ?_ ?_ t ht _ ?_ ?_ ?_ ?_ ?_ <;> rfl
    · refine hold f f (by simp [hf]) rfl rfl t ht _ ?_ ?_ ?_ ?_ ?_ <;> rfl
  · rw [itemsL_cons]
    show (i :: ((itemsL (h :: L)).map IR.at_)).Nodup
    exact List.nodup_cons.2 ⟨fun e => by obtain ⟨t, ht, e⟩ := List.mem_map.1 e; exact hati t ht e, q.ind⟩
  · show (Q.serial :: ((itemsL (h :: L)).map IR.ser)).Nodup
    refine List.nodup_cons.2 ⟨fun e => ?_, q.snd_⟩
    obtain ⟨t, ht, e⟩ := List.mem_map.1 e
    obtain ⟨f, hf, ht⟩ := List.mem_flatMap.1 ht
    have := (q.is f hf t ht).s1
    omega
  · rw [d6, q.cn]
    show _ = (((itemsL (h :: L)).length + 1 : Nat) : Int)
    omega
  · have := q.hcn
    simpa [PSt.setAt] using this
  · by_cases e : c = Q.s.begin_.take.1
    · exact ⟨⟨i, g, Q.s.begin_.take.1, key, Q.serial⟩, List.mem_cons_self, e.symm⟩
    · obtain ⟨t, ht, e2⟩ := q.fz c (by have hcc' : upd Q.f Q.s.begin_.take.1 (some ((i : Int), g)) c ≠ none := hcc; rwa [upd_other _ _ e] at hcc')
      exact ⟨t, List.mem_cons_of_mem _ ht, e2⟩
  · intro j x hx hxt
    by_cases hj : j = i
    · subst hj
      rw [d2] at hx
      cases hx
      have h1 := (Ar.take_law q.H.begin_.ok t1).n0
      have h2 := q.H.ok.nm
      have h3 : Q.s.begin_.n = Q.s.n := rfl
      show in64 Q.s.begin_.take.1
      unfold in64
      omega
    · exact q.co j x ((d3 j hj).symm.trans hx) hxt
  · by_cases hj : j = i
    · subst hj
      rw [d2] at hx
      cases hx
      exact hgs
    · have := q.gens j x ((d3 j hj).symm.trans hx)
      exact ⟨this.1, by show x.gen ≤ Q.serial + 1; omega⟩
  · show (((Ar.kpush h.x.v.a (Q.s.begin_.newItem key Q.serial) h.x.v.b Q.s.begin_.take.1).1.n : Nat) : Int) = _
    rw [c6, a6]; exact q.nn
  · have := q.sr
    show 0 ≤ Q.serial + 1 ∧ Q.serial + 1 ≤ 5000
    omega
  · have := q.mp
    show (n' : Int) ≤ Q.serial + 1 ∧ ((Q.ne + 1 : Nat) : Int) ≤ Q.serial + 1
    omega
end
end Go.Proofs.YtognmhgdegpdiaaGreat
end
section
/- Queues as plain data: what FindMin, DeleteMin, Make do; the first state. -/
namespace Go.Proofs.YtognmhgdegpdiaaGreat
open Go.RowKit
set_option linter.unusedVariables false
set_option linter.unusedSimpArgs false
theorem CellsOk.give_ {s : PSt V3} (h : CellsOk s) (i : Nat) (x : Pl V3) (z : V3) : CellsOk (s.giveAt i x z) := fun k y hy ht => by
  simp only [PSt.giveAt] at hy
  by_cases hk : i = k
  · subst hk
    rw [List.getElem?_set] at hy
    split at hy
    · split at hy
      · injection hy with hy
        subst hy
        cases ht
      · cases hy
    · exact h _ y hy ht
  · rw [List.getElem?_set_ne hk] at hy
    exact h k y hy ht
section
variable {Q : QS} {L L' : List HR} {D : List (Int × Int)} {h : HR} {r : IR}
def IR.lt (r t : IR) : Prop := r.key < t.key ∨ (r.key = t.key ∧ r.ser < t.ser)
theorem QInv.leastOf (q : QInv Q (h :: L) D) {n : Int} (hn : n ∈ h.N) (hl : ∀ m ∈ h.N, m ≠ n → lt3 (Q.s.iv n) (Q.s.iv m)) :
    ∃ r I', h.I.Perm (r :: I') ∧ r.cell = Q.s.f n 6 ∧ ∀ t ∈ I', r.lt t := by
  have hit := q.it h (by simp)
  have h1 : Q.s.f n 6 ∈ h.I.map IR.cell := hit.mem_iff.1 (List.mem_map.2 ⟨n, hn, rfl⟩)
  obtain ⟨r, hr, e⟩ := List.mem_map.1 h1
  obtain ⟨a, b, hI⟩ := List.append_of_mem hr
  have hp : h.I.Perm (r :: (a ++ b)) := by rw [hI]; exact List.perm_middle
  have hsub : ∀ t ∈ a ++ b, t ∈ h.I := fun t ht => hp.mem_iff.2 (by simp [List.mem_append.1 ht])
  refine ⟨r, a ++ b, hp, e, fun t ht => ?_⟩
  have hti := hsub t ht
  have hcd : ((r :: (a ++ b)).map IR.cell).Nodup := (hp.map _).nodup_iff.1 (by
    have := q.cells_nd
    rw [itemsL_cons, List.map_append, List.nodup_append] at this
    exact this.1)
  have hsd : ((r :: (a ++ b)).map IR.ser).Nodup := (hp.map _).nodup_iff.1 (by
    have := q.snd_
    rw [itemsL_cons, List.map_append, List.nodup_append] at this
    exact this.1)
  have hct : t.cell ≠ r.cell := nodup_cons_map hcd ht
  have hst : t.ser ≠ r.ser := nodup_cons_map hsd ht
  obtain ⟨n', hn', e'⟩ := List.mem_map.1 (hit.mem_iff.2 (List.mem_map.2 ⟨t, hti, rfl⟩) : t.cell ∈ h.N.map fun n => Q.s.f n 6)
  have hlt := hl n' hn' fun e2 => hct (by rw [← e', e2, e])
  have o1 := q.is h (by simp) r hr
  have o2 := q.is h (by simp) t hti
  unfold lt3 Ar.iv at hlt
  simp only at hlt
  rw [← e, e', o1.k7, o1.k8, o2.k7, o2.k8] at hlt
  unfold IR.lt
  omega
theorem QInv.root (q : QInv Q (h :: L) D) (hne : h.I ≠ []) : h.x.v.b ≠ -1 := fun e => by
  have h1 := (q.H.hp h.hp (by simp)).2
  have h2 : h.hp.r = -1 := e
  rw [h2] at h1
  have h3 : h.N = [] := h1.empty
  have h4 := (q.nlen (h := h) (by simp)).1
  rw [h3] at h4
  exact hne (List.length_eq_zero_iff.1 h4.symm)
theorem QInv.ref_in (q : QInv Q L D) (hw : Q.si.WF) (hh : h ∈ L) (hr : r ∈ h.I) : in64 (r.at_ : Int) ∧ in64 r.gen := by
  have ok := q.is h hh r hr
  have h1 := (List.getElem?_eq_some_iff.1 ok.pl).1
  have h2 := hw.le
  have h3 := q.mst
  have h4 := q.itm
  have h5 := q.gens _ _ ok.pl
  have h6 := q.sr
  unfold in64
  simp only at h5
  omega
theorem QInv.tick (q : QInv Q L D) (vf : Value) (u : Nat) : QInv { Q with vf := vf, s := Q.s.begin_.tick u } L D :=
  ⟨q.H.begin_.tick u, q.hs, q.hnd, q.it, fun h hh r hr => ⟨(q.is h hh r hr).pl, (q.is h hh r hr).g1, (q.is h hh r hr).fc, (q.is h hh r hr).fe, (q.is h hh r hr).k7, (q.is h hh r hr).k8, (q.is h hh r hr).s0, (q.is h hh r hr).s1⟩, q.ind, q.snd_, q.cn, q.hcn, q.fz, q.co, q.gens, q.mst, q.hmst, q.nn, q.itm, q.sr, q.mp, q.dd⟩
theorem QInv.begin_ (q : QInv Q L D) : QInv { Q with s := Q.s.begin_ } L D :=
  ⟨q.H.begin_, q.hs, q.hnd, q.it, fun h hh r hr => ⟨(q.is h hh r hr).pl, (q.is h hh r hr).g1, (q.is h hh r hr).fc, (q.is h hh r hr).fe, (q.is h hh r hr).k7, (q.is h hh r hr).k8, (q.is h hh r hr).s0, (q.is h hh r hr).s1⟩, q.ind, q.snd_, q.cn, q.hcn, q.fz, q.co, q.gens, q.mst, q.hmst, q.nn, q.itm, q.sr, q.mp, q.dd⟩
theorem QInv.min (q : QInv Q (h :: L) D) (hw : Q.si.WF) (hne : h.I ≠ []) :
    ∃ r I', h.I.Perm (r :: I') ∧ (∀ t ∈ I', r.lt t) ∧ Ar.kmin h.x.v.a Q.s.begin_ h.x.v.b = r.cell ∧ in64 r.cell ∧ Q.f r.cell = some ((r.at_ : Int), r.gen) ∧ (in64 (r.at_ : Int) ∧ in64 r.gen) ∧ Q.F ((r.at_ : Int), r.gen) = some (r.key, r.ser) ∧ (1 ≤ h.x.v.a ∧ h.x.v.a ≤ 5) ∧ h.x.v.c ≠ 0 ∧ Q.s.n ≤ 65536 := by
  have hk := (q.begin_.H.hp h.hp (by simp))
  obtain ⟨n, hn, e, hl⟩ := hk.2.min (q.root hne)
  obtain ⟨r, I', hp, hc, hlt⟩ := q.leastOf hn hl
  have hr : r ∈ h.I := hp.mem_iff.2 (by simp)
  have ok := q.is h (by simp) r hr
  have h4 := (q.nlen (h := h) (by simp)).1
  have h5 := (q.hs h (by simp)).2.2.2
  refine ⟨r, I', hp, hlt, e.trans hc.symm, q.co _ _ ok.pl rfl, ok.fc, q.ref_in hw (by simp) hr, ok.fe, hk.1, ?_, q.H.ok.nm⟩
  have := List.length_pos_iff.2 hne
  omega
set_option maxHeartbeats 1000000 in
theorem QInv.pop (q : QInv Q (h :: L) D) (hw : Q.si.WF) (hne : h.I ≠ []) :
    ∃ r I' M, h.I.Perm (r :: I') ∧ (∀ t ∈ I', r.lt t) ∧ PopQ Q.sh Q.si Q.f Q.F Q.s.begin_ h.at_ h.x r.at_ ⟨r.gen, true, ⟨r.cell, h.at_, h.x.gen⟩⟩ r.key r.ser ∧ SB Q.s.begin_ ((Ar.kpop h.x.v.a Q.s.begin_ h.x.v.b).1.give r.cell).2 ∧ ∀ (vf fi : Value) (u : Nat),
      QInv { Q with vf := vf, fi := fi, s := ((Ar.kpop h.x.v.a Q.s.begin_ h.x.v.b).1.give r.cell).2.tick u, sh := Q.sh.setAt h.at_ h.x ⟨h.x.v.a, (Ar.kpop h.x.v.a Q.s.begin_ h.x.v.b).2.1, h.x.v.c - 1⟩, si := Q.si.giveAt r.at_ ⟨r.gen, true, ⟨r.cell, h.at_, h.x.gen⟩⟩ ⟨0, 0, 0⟩, f := upd Q.f r.cell none, F := upd Q.F ((r.at_ : Int), r.gen) none }
        (⟨h.at_, ⟨h.x.gen, h.x.taken, ⟨h.x.v.a, (Ar.kpop h.x.v.a Q.s.begin_ h.x.v.b).2.1, h.x.v.c - 1⟩⟩, M, I'⟩ :: L) (((r.at_ : Int), r.gen) :: D) := by
  have hk := (q.H.hp h.hp (by simp)).1
  obtain ⟨b1, b2, b3, b4⟩ := q.hs h (by simp)
  have hnl := q.nlen (h := h) (by simp)
  have h300 := q.itm
  have hnn := q.nn
  have hcnt := q.count_le hw
  obtain ⟨n, M, c1, c2, c3, c4, c5, c6, c7, c8, c9, c10⟩ := Heaps.pop (k := h.x.v.a) (r := h.x.v.b) (N := h.N) (L := L.map HR.hp) q.H.begin_ (by show Q.s.n ≤ 1000; omega) (by omega) (q.root hne)
  have hnN : n ∈ h.N := c1.mem_iff.2 (by simp)
  obtain ⟨r, I', hp, hc, hlt⟩ := q.leastOf hnN c2
  have hr : r ∈ h.I := hp.mem_iff.2 (by simp)
  have ok := q.is h (by simp) r hr
  have e6 : Q.s.begin_.f n 6 = r.cell := hc.symm
  rw [e6] at c3 c5
  obtain ⟨g1, g2, g3, g4⟩ := c5.give
  have hrL : r ∈ itemsL (h :: L) := mem_itemsL (by simp) hr
  have hpos := List.length_pos_iff.2 hne
  have hIL : (itemsL (h :: L)).Perm (r :: (I' ++ itemsL L)) := by rw [itemsL_cons]; exact hp.append_right _
  have hatd : ((r :: (I' ++ itemsL L)).map IR.at_).Nodup := (hIL.map _).nodup_iff.1 q.ind
  have hced : ((r :: (I' ++ itemsL L)).map IR.cell).Nodup := (hIL.map _).nodup_iff.1 q.cells_nd
  have hplt := (List.getElem?_eq_some_iff.1 ok.pl).1
  have hold : ∀ (f f' : HR), f ∈ h :: L → f'.at_ = f.at_ → f'.x.gen = f.x.gen → ∀ t ∈ f.I, t ∈ I' ++ itemsL L → ∀ Q' : QS, Q'.si = Q.si.giveAt r.at_ ⟨r.gen, true, ⟨r.cell, h.at_, h.x.gen⟩⟩ ⟨0, 0, 0⟩ → Q'.f = upd Q.f r.cell none → Q'.F = upd Q.F ((r.at_ : Int), r.gen) none → (∀ c j, j = 7 ∨ j = 8 → Q'.s.f c j = Q.s.f c j) → Q'.serial = Q.serial → ItemOk Q' f' t := by
    intro f f' hf e1 e2 t ht hti Q' g1 g2 g3 g4 g5
    have ok' := q.is f hf t ht
    have h1 : t.at_ ≠ r.at_ := nodup_cons_map hatd hti
    have h2 : t.cell ≠ r.cell := nodup_cons_map hced hti
    have h3 : ((t.at_ : Int), t.gen) ≠ ((r.at_ : Int), r.gen) := fun e => h1 (by simp only [Prod.mk.injEq] at e; omega)
    refine ⟨?_, ok'.g1, by rw [g2, upd_other _ _ h2]; exact ok'.fc, by rw [g3, upd_other _ _ h3]; exact ok'.fe, ?_, ?_, ok'.s0, by rw [g5]; exact ok'.s1⟩
    · rw [g1, e1, e2, ← ok'.pl]; simp [PSt.giveAt, Ne.symm h1]
    · rw [g4 _ _ (.inl rfl)]; exact ok'.k7
    · rw [g4 _ _ (.inr rfl)]; exact ok'.k8
  have hcc : ∀ (vf fi : Value) (u : Nat) (c : Int) (j : Int), j = 7 ∨ j = 8 → (((Ar.kpop h.x.v.a Q.s.begin_ h.x.v.b).1.give r.cell).2.tick u).f c j = Q.s.f c j := fun vf fi u c j hj => by
    show ((Ar.kpop h.x.v.a Q.s.begin_ h.x.v.b).1.give r.cell).2.f c j = _
    rw [g3]
    rcases hj with e | e
    · rw [e]; exact (c6 c).1
    · rw [e]; exact (c6 c).2
  refine ⟨r, I', M, hp, hlt, ⟨b1, b2, b3, hk, by rw [b4]; omega, c5.ok, c4, c3, ok.fc, ok.pl, rfl, ok.g1, q.co, q.ref_in hw (by simp) hr, ok.fe⟩, c10.trans (give_sb _ _), fun vf fi u => ⟨g1.tick u, fun f hf => ?_, q.hnd, fun f hf => ?_, fun f hf t ht => ?_, ?_, ?_, ?_, ?_, fun c hcn => ?_, q.co.give_ _ _ _, fun j x hx => ?_, q.mst, q.hmst, ?_, q.itm, q.sr, q.mp, fun d hd => ?_⟩⟩
  · rcases List.mem_cons.1 hf with e | hf
    · rw [e]
      have hlt2 := (List.getElem?_eq_some_iff.1 b1).1
      have h3 := c1.length_eq
      refine ⟨by simp [PSt.setAt, hlt2], b2, b3, ?_⟩
      show h.x.v.c - 1 = ((M.length : Nat) : Int)
      rw [b4, h3, List.length_cons]; omega
    · have := q.hs f (by simp [hf])
      exact ⟨by rw [← this.1]; simp [PSt.setAt, Ne.symm (q.otherAt hf)], this.2⟩
  · rcases List.mem_cons.1 hf with e | hf
    · rw [e]
      show (M.map fun n => ((Ar.kpop h.x.v.a Q.s.begin_ h.x.v.b).1.give r.cell).2.f n 6).Perm (I'.map IR.cell)
      rw [List.map_congr_left fun x _ => g3 x 6]
      refine c7.trans ?_
      have h1 := ((c1.map fun n => Q.s.f n 6).symm.trans (q.it h (by simp))).trans (hp.map IR.cell)
      simp only [List.map_cons] at h1
      rw [hc] at h1
      exact h1.cons_inv
    · have h1 := q.it f (by simp [hf])
      show (f.N.map fun n => ((Ar.kpop h.x.v.a Q.s.begin_ h.x.v.b).1.give r.cell).2.f n 6).Perm _
      have e9 : (f.N.map fun n => ((Ar.kpop h.x.v.a Q.s.begin_ h.x.v.b).1.give r.cell).2.f n 6) = f.N.map fun n => Q.s.f n 6 := List.map_congr_left fun x hx => (g3 x 6).trans (c8 x (mem_nodesL (List.mem_map.2 ⟨f, hf, rfl⟩) hx))
      rw [e9]
      exact h1
  · rcases List.mem_cons.1 hf with e | hf
    · rw [e] at ht ⊢
      refine hold h _ (by simp) ?_ ?_ t (hp.mem_iff.2 (List.mem_cons_of_mem _ ht)) (List.mem_append.2 (.inl ht)) _ ?_ ?_ ?_ (hcc vf fi u) ?_ <;> rfl
    · refine hold f f (by simp [hf]) rfl rfl t ht (List.mem_append.2 (.inr (mem_itemsL hf ht))) _ ?_ ?_ ?_ (hcc vf fi u) ?_ <;> rfl
  · rw [itemsL_cons]; rw [List.map_cons, List.nodup_cons] at hatd; exact hatd.2
  · rw [itemsL_cons]
    have := (hIL.map IR.ser).nodup_iff.1 q.snd_
    rw [List.map_cons, List.nodup_cons] at this
    exact this.2
  · have h1 := q.cn
    rw [hIL.length_eq] at h1
    rw [itemsL_cons]
    simp only [PSt.giveAt, List.length_set, List.length_append, List.length_cons, List.length_nil] at h1 ⊢
    omega
  · have := q.hcn
    simpa [PSt.setAt] using this
  · by_cases e : c = r.cell
    · have hcn' : upd Q.f r.cell none c ≠ none := hcn
      rw [e, upd_same] at hcn'
      exact absurd rfl hcn'
    · obtain ⟨t, ht, e2⟩ := q.fz c (by have hcc' : upd Q.f r.cell none c ≠ none := hcn; rwa [upd_other _ _ e] at hcc')
      rcases List.mem_cons.1 (hIL.mem_iff.1 ht) with e3 | e3
      · exact absurd (by rw [← e2, e3]) e
      · exact ⟨t, e3, e2⟩
  · by_cases hj : r.at_ = j
    · subst hj
      have hx' : (Q.si.l.set r.at_ ⟨r.gen, false, ⟨0, 0, 0⟩⟩)[r.at_]? = some x := hx
      rw [List.getElem?_set_self hplt] at hx'
      cases hx'
      have := q.gens _ _ ok.pl
      exact this
    · have hx' : (Q.si.l.set r.at_ ⟨r.gen, false, ⟨0, 0, 0⟩⟩)[j]? = some x := hx
      rw [List.getElem?_set_ne hj] at hx'
      exact q.gens j x hx'
  · show (((Ar.kpop h.x.v.a Q.s.begin_ h.x.v.b).1.give r.cell).2.n : Int) = _
    rw [g4, c9]; exact q.nn
  · have key : ∀ (j : Nat) (x : Pl V3), Q.si.l[j]? = some x → ∃ y : Pl V3, (Q.si.l.set r.at_ ⟨r.gen, false, ⟨0, 0, 0⟩⟩)[j]? = some y ∧ y.gen = x.gen ∧ (x.taken = false → y.taken = false) := fun j x hx => by
      by_cases hj : r.at_ = j
      · subst hj
        rw [ok.pl] at hx
        cases hx
        exact ⟨_, List.getElem?_set_self hplt, rfl, fun _ => rfl⟩
      · exact ⟨x, by rw [List.getElem?_set_ne hj]; exact hx, rfl, fun e => e⟩
    rcases List.mem_cons.1 hd with e | hd
    · rw [e]
      exact ⟨r.at_, ⟨r.gen, false, ⟨0, 0, 0⟩⟩, rfl, List.getElem?_set_self hplt, ok.g1, Int.le_refl _, .inr rfl⟩
    · obtain ⟨j, x, e1, e2, e3, e4, e5⟩ := q.dd d hd
      obtain ⟨y, y1, y2, y3⟩ := key j x e2
      exact ⟨j, y, e1, y1, e3, by rw [y2]; exact e4, by rw [y2]; exact e5.imp id y3⟩
theorem QInv.make (q : QInv Q L D) (hw : Q.sh.WF) {k a g : Int} (hk : 1 ≤ k ∧ k ≤ 5) (hgs : ∀ (i : Nat) (x : Pl V3), Q.sh.l[i]? = some x → 0 ≤ x.gen ∧ x.gen ≤ 1000000) {sh' : PSt V3} (hT : TakeR Q.sh ⟨k, -1, 0⟩ a g true sh') (lh fh : Value) :
    ∃ i : Nat, a = i ∧ 1 ≤ g ∧ (∀ h ∈ L, h.at_ ≠ i) ∧ QInv { Q with lh := lh, fh := fh, s := Q.s.begin_, sh := sh' } (⟨i, ⟨g, true, ⟨k, -1, 0⟩⟩, [], []⟩ :: L) D ∧ (Q.sh.free = [] → sh'.free = [] ∧ sh'.l.length = Q.sh.l.length + 1 ∧ g = 1 ∧ ∀ (j : Nat) (x : Pl V3), sh'.l[j]? = some x → (∃ y, Q.sh.l[j]? = some y ∧ y = x) ∨ x.gen = 1) := by
  obtain ⟨i, rfl, d2, d3, d4, d5, d6, d7⟩ := take_new hw hgs hT
  have hg1 : 1 ≤ g := by
    cases hx : Q.sh.l[i]? with
    | none => rw [d5 hx]; exact Int.le_refl 1
    | some x => have := (d4 x hx).2; have := hgs i x hx; omega
  have hat : ∀ h ∈ L, h.at_ ≠ i := fun h hh e => by
    have h1 := q.hs h hh
    rw [e] at h1
    have := (d4 _ h1.1).1
    rw [h1.2.1] at this
    cases this
  have qb := q.begin_
  refine ⟨i, rfl, hg1, hat, ⟨qb.H.make hk, fun h hh => ?_, List.nodup_cons.2 ⟨fun e => by obtain ⟨h, hh, e⟩ := List.mem_map.1 e; exact hat h hh e, q.hnd⟩, fun h hh => ?_, fun h hh r hr => ?_, q.ind, q.snd_, q.cn, ?_, q.fz, q.co, q.gens, q.mst, d7.trans q.hmst, q.nn, q.itm, q.sr, q.mp, q.dd⟩, fun hf => ?_⟩
  · rcases List.mem_cons.1 hh with e | hh
    · rw [e]; exact ⟨d2, rfl, hg1, rfl⟩
    · have := q.hs h hh
      exact ⟨(d3 _ (hat h hh)).trans this.1, this.2⟩
  · rcases List.mem_cons.1 hh with e | hh
    · rw [e]; exact List.Perm.refl _
    · exact q.it h hh
  · rcases List.mem_cons.1 hh with e | hh
    · rw [e] at hr; cases hr
    · have := qb.is h hh r hr
      exact ⟨this.pl, this.g1, this.fc, this.fe, this.k7, this.k8, this.s0, this.s1⟩
  · rw [d6, q.hcn]; simp
  · rcases hT with ⟨_, _, _, _, h, _⟩ | ⟨h1, h2, h3, h4, _, rfl⟩ | ⟨j, fs, x, h1, _⟩
    · cases h
    · refine ⟨h1, by simp [PSt.fresh], h4, fun j x hx => ?_⟩
      have hx' : (Q.sh.l ++ [⟨1, true, ⟨k, -1, 0⟩⟩])[j]? = some x := hx
      by_cases hj : j < Q.sh.l.length
      · rw [List.getElem?_append_left hj] at hx'; exact .inl ⟨x, hx', rfl⟩
      · rw [List.getElem?_append_right (by omega)] at hx'
        have := List.mem_of_getElem? hx'
        simp only [List.mem_singleton] at this
        exact .inr (by rw [this])
    · rw [hf] at h1; simp at h1
def QS.start (k : Int) : QS := ⟨.slice none 0 0, .slice none 0 0, .slice none 0 0, .slice none 0 0, .slice none 0 0, 0, 0, ar0 (2 * k).toNat, ⟨64, [], []⟩, ⟨k.toNat, [], []⟩, fun _ => none, fun _ => none, k, 0⟩
theorem QInv.start {k : Int} (h1 : 1 ≤ k) (h2 : k ≤ 300) : QInv (QS.start k) [] [] :=
  ⟨Heaps.none (ar0_ok (by omega) (by omega)) (fun c => by show -1 ≤ (0 : Int) ∧ (0 : Int) ≤ 70000; omega) fun _ => rfl, by simp, by simp, by simp, by simp, by simp [itemsL], by simp [itemsL], by simp [QS.start, itemsL], by simp [QS.start], fun c hc => absurd rfl hc, fun i x hx => by simp [QS.start] at hx, fun i x hx => by simp [QS.start] at hx,
    by show ((k.toNat : Nat) : Int) = k; omega, rfl, by show (((2 * k).toNat : Nat) : Int) = 2 * k; omega, ⟨h1, h2⟩, ⟨Int.le_refl 0, by show (0 : Int) ≤ 5000; omega⟩, ⟨Int.le_refl 0, Int.le_refl 0⟩, by simp⟩
end
end Go.Proofs.YtognmhgdegpdiaaGreat
end
section
/- Queues: what each call does, told of the heaps and their items. -/
namespace Go.Proofs.YtognmhgdegpdiaaGreat
open Go.RowKit
set_option linter.unusedVariables false
set_option linter.unusedSimpArgs false
set_option maxRecDepth 100000
section
variable {B : Nat} {w0 w : World} {C : List Ent} {m : QM} {Q : QS} {L : List HR} {D : List (Int × Int)} {h : HR}
theorem QS.wfi (l : Led B w0 w (Q.es m ++ C)) : Q.si.WF := (slotItems (QM.toS l)).wf
theorem QS.wfh (l : Led B w0 w (Q.es m ++ C)) : Q.sh.WF := (slotHeaps (QM.toS l)).wf
theorem QInv.begun (q : QInv Q L D) : Q.s.begun ≤ Q.s.steps := q.H.ok.bg
def Stp (Q Q' : QS) (b : Nat) : Prop := Q'.s.begun = Q.s.steps ∧ Q.s.steps ≤ Q'.s.steps ∧ Q'.s.steps ≤ Q.s.steps + b
theorem stp_of {Q Q' : QS} {s1 : Ar} {u b : Nat} (h : SB Q.s.begin_ s1) (e : Q'.s = s1.tick u) (hu : u ≤ b) : Stp Q Q' b := by
  unfold Stp
  rw [e]
  obtain ⟨h1, h2⟩ := h
  have h3 : Q.s.begin_.steps = Q.s.steps := rfl
  have h4 : Q.s.begin_.begun = Q.s.steps := rfl
  show s1.begun = Q.s.steps ∧ Q.s.steps ≤ s1.steps + u ∧ s1.steps + u ≤ Q.s.steps + b
  omega
theorem q_insert (kd oa og ia ig key : Int) (q : QInv Q (h :: L) D) (hc : ((itemsL (h :: L)).length : Int) < Q.items) (hser : Q.serial ≤ 4999) (l : Led B w0 w (Q.es m ++ C)) :
    Calls Tryz.prog 11 #[.pointer (some ⟨m.q, 0, none⟩), .agg #[.int .i64 2, .int .i64 kd, .int .i64 (h.at_ : Int), .int .i64 h.x.gen, .int .i64 oa, .int .i64 og, .int .i64 ia, .int .i64 ig, .int .i64 key]] w fun e w' =>
      ∃ (Q' : QS) (h' : HR) (i : Nat) (g c : Int), e = .returned (.agg #[.int .i64 0, .int .i64 0, .int .i64 0, .int .i64 (i : Int), .int .i64 g, .int .i64 key, .int .i64 Q.serial, .int .i64 0]) ∧ Led B w0 w' (Q'.es m ++ C) ∧ QInv Q' (h' :: L) D ∧
        h'.at_ = h.at_ ∧ h'.x.gen = h.x.gen ∧ h'.x.v.a = h.x.v.a ∧ h'.I = ⟨i, g, c, key, Q.serial⟩ :: h.I ∧ Q'.serial = Q.serial + 1 ∧ Q'.items = Q.items ∧ 1 ≤ g ∧ ((i : Int), g) ∉ D ∧ (∀ t ∈ itemsL (h :: L), t.at_ ≠ i) ∧ Stp Q Q' (3 + Ar.kpushB h.x.v.a (Q.s.begin_.newItem key Q.serial) h.x.v.b Q.s.begin_.take.1) := by
  have hw := QS.wfi l
  refine Calls.mono (do_insert kd oa og ia ig key h.at_ h.x (q.ins_pre hw hc key hser) q.begun l) ?_
  rintro e w' ⟨vf', li', fi', n', si', a, g, u, rfl, hT, hu, hn', l'⟩
  obtain ⟨i, n0, rfl, h1, h2, h3, h4, h5⟩ := q.ins_post hw hc key hser hT hn' vf' li' fi' u
  refine ⟨_, _, i, g, _, rfl, ?_, h4, rfl, rfl, rfl, rfl, rfl, rfl, h1, h2, h3, stp_of h5 rfl hu⟩
  exact l'
theorem q_findmin (kd oa og ia ig key : Int) (q : QInv Q (h :: L) D) (hne : h.I ≠ []) (l : Led B w0 w (Q.es m ++ C)) :
    Calls Tryz.prog 11 #[.pointer (some ⟨m.q, 0, none⟩), .agg #[.int .i64 3, .int .i64 kd, .int .i64 (h.at_ : Int), .int .i64 h.x.gen, .int .i64 oa, .int .i64 og, .int .i64 ia, .int .i64 ig, .int .i64 key]] w fun e w' =>
      ∃ (Q' : QS) (r : IR) (I' : List IR), e = .returned (.agg #[.int .i64 0, .int .i64 0, .int .i64 0, .int .i64 (r.at_ : Int), .int .i64 r.gen, .int .i64 r.key, .int .i64 r.ser, .int .i64 0]) ∧ Led B w0 w' (Q'.es m ++ C) ∧ QInv Q' (h :: L) D ∧ h.I.Perm (r :: I') ∧ (∀ t ∈ I', r.lt t) ∧ Q'.serial = Q.serial ∧ Q'.items = Q.items := by
  have hw := QS.wfi l
  obtain ⟨b1, b2, b3, b4⟩ := q.hs h (by simp)
  obtain ⟨r, I', c1, c2, c3, c4, c5, c6, c7, c8, c9, c10⟩ := q.min hw hne
  refine Calls.mono (do_findmin kd oa og ia ig key h.at_ h.x b1 b2 b3 c8 c9 c10 (r.at_ : Int) r.gen r.key r.ser (by rw [c3]; exact c4) (by rw [c3]; exact c5) c6 c7 q.begun l) ?_
  rintro e w' ⟨u, rfl, l'⟩
  exact ⟨{ Q with s := Q.s.begin_.tick u }, r, I', rfl, l', q.tick Q.vf u, c1, c2, rfl, rfl⟩
theorem q_pop (kd oa og ia ig key : Int) (q : QInv Q (h :: L) D) (hne : h.I ≠ []) (l : Led B w0 w (Q.es m ++ C)) :
    Calls Tryz.prog 11 #[.pointer (some ⟨m.q, 0, none⟩), .agg #[.int .i64 4, .int .i64 kd, .int .i64 (h.at_ : Int), .int .i64 h.x.gen, .int .i64 oa, .int .i64 og, .int .i64 ia, .int .i64 ig, .int .i64 key]] w fun e w' =>
      ∃ (Q' : QS) (h' : HR) (r : IR), e = .returned (.agg #[.int .i64 0, .int .i64 0, .int .i64 0, .int .i64 (r.at_ : Int), .int .i64 r.gen, .int .i64 r.key, .int .i64 r.ser, .int .i64 0]) ∧ Led B w0 w' (Q'.es m ++ C) ∧ QInv Q' (h' :: L) (((r.at_ : Int), r.gen) :: D) ∧
        h'.at_ = h.at_ ∧ h'.x.gen = h.x.gen ∧ h'.x.v.a = h.x.v.a ∧ h.I.Perm (r :: h'.I) ∧ (∀ t ∈ h'.I, r.lt t) ∧ Q'.serial = Q.serial ∧ Q'.items = Q.items ∧ Stp Q Q' (Ar.kpopB h.x.v.a Q.s.begin_ h.x.v.b + 1) := by
  have hw := QS.wfi l
  obtain ⟨r, I', M, c1, c2, c3, c4, c5⟩ := q.pop hw hne
  refine Calls.mono (do_popmin kd oa og ia ig key h.at_ h.x r.at_ _ r.key r.ser c3 q.begun l) ?_
  rintro e w' ⟨vf', fi', u, rfl, hu, l'⟩
  refine ⟨_, _, r, rfl, ?_, c5 vf' fi' u, rfl, rfl, rfl, c1, c2, rfl, rfl, stp_of c4 rfl hu⟩
  exact l'
theorem q_make (k ha hg oa og ia ig key : Int) (q : QInv Q L D) (hk : 1 ≤ k ∧ k ≤ 5) (hl : L.length < 64) (hgs : ∀ (i : Nat) (x : Pl V3), Q.sh.l[i]? = some x → 0 ≤ x.gen ∧ x.gen ≤ 1000000) (l : Led B w0 w (Q.es m ++ C)) :
    Calls Tryz.prog 11 #[.pointer (some ⟨m.q, 0, none⟩), .agg #[.int .i64 1, .int .i64 k, .int .i64 ha, .int .i64 hg, .int .i64 oa, .int .i64 og, .int .i64 ia, .int .i64 ig, .int .i64 key]] w fun e w' =>
      ∃ (Q' : QS) (i : Nat) (g : Int), e = .returned (.agg #[.int .i64 0, .int .i64 (i : Int), .int .i64 g, .int .i64 0, .int .i64 0, .int .i64 0, .int .i64 0, .int .i64 0]) ∧ Led B w0 w' (Q'.es m ++ C) ∧ QInv Q' (⟨i, ⟨g, true, ⟨k, -1, 0⟩⟩, [], []⟩ :: L) D ∧ 1 ≤ g ∧ (∀ h ∈ L, h.at_ ≠ i) ∧ Q'.serial = Q.serial ∧ Q'.items = Q.items ∧
        (Q.sh.free = [] → Q'.sh.free = [] ∧ Q'.sh.l.length = Q.sh.l.length + 1 ∧ ∀ (j : Nat) (x : Pl V3), Q'.sh.l[j]? = some x → (∃ y, Q.sh.l[j]? = some y ∧ y = x) ∨ x.gen = 1) ∧ Stp Q Q' 0 := by
  have hw := QS.wfh l
  refine Calls.mono (do_make k ha hg oa og ia ig key hk (by have := q.hcn; have := q.hmst; omega) hw.le q.begun l) ?_
  rintro e w' ⟨a, g, lh', fh', sh', rfl, hT, l'⟩
  obtain ⟨i, rfl, h1, h2, h3, h4⟩ := q.make hw hk hgs hT lh' fh'
  refine ⟨_, i, g, rfl, ?_, h3, h1, h2, rfl, rfl, fun hf => by have := h4 hf; exact ⟨this.1, this.2.1, this.2.2.2⟩, stp_of ⟨rfl, rfl⟩ rfl (Nat.le_refl 0)⟩
  exact l'
theorem q_new (k : Int) (h1 : 1 ≤ k) (h2 : k ≤ 300) (l : Led B w0 w C) :
    Calls Tryz.prog 27 #[.int .i64 k] w fun e w' => ∃ m : QM, e = .returned (.tuple #[.pointer (some ⟨m.q, 0, none⟩), .int .i64 0]) ∧ Led B w0 w' ((QS.start k).es m ++ C) := pq_new k h1 (by omega) l
theorem q_live (q : QInv Q L D) (l : Led B w0 w (Q.es m ++ C)) :
    Calls Tryz.prog 12 #[.pointer (some ⟨m.q, 0, none⟩)] w fun e w' => e = .returned (.int .i64 ((itemsL L).length : Int)) ∧ Led B w0 w' (Q.es m ++ C) := by
  have hcn := q.cn
  refine Calls.mono (pq_live l) ?_
  rintro e w' ⟨rfl, l'⟩
  exact ⟨by rw [hcn], l'⟩
end
end Go.Proofs.YtognmhgdegpdiaaGreat
end
