import Derived.Test.YtognmhgdegpdiaaGreatTab
import Derived.Test.YtognmhgdegpdiaaGreatRows
section
/- Pools as plain data: places with lives, and which of them are free. -/
namespace Go.Proofs.YtognmhgdegpdiaaGreat
open Go.RowKit
structure Pl (α : Type) where
  gen : Int
  taken : Bool
  v : α
structure PSt (α : Type) where
  most : Nat
  l : List (Pl α)
  free : List Nat
variable {α : Type}
structure PSt.WF (s : PSt α) : Prop where
  le : s.l.length ≤ s.most
  most : s.most ≤ 65536
  nodup : s.free.Nodup
  free : ∀ i, i ∈ s.free ↔ ∃ x, s.l[i]? = some x ∧ x.taken = false
theorem nodup_lt_length : ∀ (n : Nat) (l : List Nat), l.Nodup → (∀ x ∈ l, x < n) → l.length ≤ n := by
  intro n
  induction n with
  | zero =>
    intro l _ h
    cases l with
    | nil => simp
    | cons a l => exact absurd (h a (by simp)) (by omega)
  | succ n ih =>
    intro l hn h
    by_cases hm : n ∈ l
    · have h1 := ih (l.erase n) (hn.erase n) (fun x hx => by
        have h2 := (List.Nodup.mem_erase_iff hn).1 hx
        have h3 := h x h2.2
        have h4 := h2.1
        omega)
      rw [List.length_erase_of_mem hm] at h1
      omega
    · have := ih l hn (fun x hx => by
        have h3 := h x hx
        have h4 : x ≠ n := fun e => hm (e ▸ hx)
        omega)
      omega
theorem PSt.WF.free_le {s : PSt α} (h : s.WF) : s.free.length ≤ s.l.length :=
  nodup_lt_length _ _ h.nodup fun i hi => by
    obtain ⟨x, hx, _⟩ := (h.free i).1 hi
    exact (List.getElem?_eq_some_iff.1 hx).1
theorem PSt.WF.empty (n : Nat) (hn : n ≤ 65536) : PSt.WF (α := α) ⟨n, [], []⟩ := ⟨by simp, hn, by simp, by simp⟩
def PSt.look (s : PSt α) (at_ gen : Int) : Int :=
  if at_ < 0 ∨ (s.l.length : Int) ≤ at_ ∨ gen < 1 then 22 else
  match s.l[at_.toNat]? with
  | none => 22
  | some x => if x.gen < gen then 22 else if gen < x.gen ∨ x.taken = false then 23 else 0
theorem PSt.look_zero {s : PSt α} {at_ gen : Int} (h : s.look at_ gen = 0) : ∃ (i : Nat) (x : Pl α), at_ = i ∧ s.l[i]? = some x ∧ gen = x.gen ∧ x.taken = true ∧ 1 ≤ gen := by
  unfold PSt.look at h
  split at h
  · cases h
  · rename_i h1
    split at h
    · cases h
    · rename_i x hx
      split at h
      · cases h
      · split at h
        · cases h
        · rename_i h2 h3
          refine ⟨at_.toNat, x, by omega, hx, by omega, ?_, by omega⟩
          cases hb : x.taken with
          | true => rfl
          | false => exact absurd (.inr hb) h3
def PSt.retake (s : PSt α) (at_ : Nat) (fs : List Nat) (x : Pl α) (v : α) : PSt α := { s with l := s.l.set at_ ⟨wrap64 (x.gen + 1), true, v⟩, free := fs }
def PSt.fresh (s : PSt α) (v : α) : PSt α := { s with l := s.l ++ [⟨1, true, v⟩] }
def PSt.giveAt (s : PSt α) (at_ : Nat) (x : Pl α) (z : α) : PSt α := { s with l := s.l.set at_ ⟨x.gen, false, z⟩, free := s.free ++ [at_] }
def PSt.setAt (s : PSt α) (at_ : Nat) (x : Pl α) (v : α) : PSt α := { s with l := s.l.set at_ ⟨x.gen, x.taken, v⟩ }
theorem PSt.WF.retake {s : PSt α} (h : s.WF) {at_ : Nat} {fs : List Nat} {x : Pl α} (v : α) (hf : s.free = fs ++ [at_]) (hx : s.l[at_]? = some x) : (s.retake at_ fs x v).WF := by
  have hlt : at_ < s.l.length := (List.getElem?_eq_some_iff.1 hx).1
  have hn := h.nodup
  rw [hf, List.nodup_append] at hn
  refine ⟨by simpa [PSt.retake] using h.le, h.most, hn.1, fun i => ?_⟩
  simp only [PSt.retake]
  have hi := h.free i
  rw [hf] at hi
  by_cases hie : i = at_
  · subst hie
    rw [List.getElem?_set_self hlt]
    constructor
    · intro hm
      exact absurd rfl (hn.2.2 i hm i (by simp))
    · rintro ⟨y, hy, hy2⟩
      injection hy with hy
      subst hy
      cases hy2
  · rw [List.getElem?_set_ne (fun e => hie e.symm), ← hi]
    simp [hie]
theorem PSt.WF.fresh {s : PSt α} (h : s.WF) (v : α) (hlt : s.l.length < s.most) : (s.fresh v).WF := by
  refine ⟨by simp [PSt.fresh]; omega, h.most, h.nodup, fun i => ?_⟩
  simp only [PSt.fresh]
  rw [h.free i]
  constructor
  · rintro ⟨x, hx, ht⟩
    exact ⟨x, by rw [List.getElem?_append_left (List.getElem?_eq_some_iff.1 hx).1]; exact hx, ht⟩
  · rintro ⟨x, hx, ht⟩
    rcases Nat.lt_or_ge i s.l.length with hi | hi
    · rw [List.getElem?_append_left hi] at hx
      exact ⟨x, hx, ht⟩
    · rw [List.getElem?_append_right hi] at hx
      have := (List.getElem?_eq_some_iff.1 hx).1
      simp at this
      have e : i - s.l.length = 0 := by omega
      rw [e] at hx
      simp at hx
      subst hx
      cases ht
theorem PSt.WF.giveAt {s : PSt α} (h : s.WF) {at_ : Nat} {x : Pl α} (z : α) (hx : s.l[at_]? = some x) (ht : x.taken = true) : (s.giveAt at_ x z).WF := by
  have hlt : at_ < s.l.length := (List.getElem?_eq_some_iff.1 hx).1
  have hnot : at_ ∉ s.free := fun hm => by
    obtain ⟨y, hy, hy2⟩ := (h.free at_).1 hm
    rw [hx] at hy
    injection hy with hy
    subst hy
    rw [ht] at hy2
    cases hy2
  refine ⟨by simpa [PSt.giveAt] using h.le, h.most, ?_, fun i => ?_⟩
  · simp only [PSt.giveAt]
    rw [List.nodup_append]
    exact ⟨h.nodup, by simp, fun a ha b hb => by simp at hb; subst hb; exact fun e => hnot (e ▸ ha)⟩
  · simp only [PSt.giveAt]
    by_cases hie : i = at_
    · subst hie
      rw [List.getElem?_set_self hlt]
      simp
    · rw [List.getElem?_set_ne (fun e => hie e.symm), ← h.free i]
      simp [hie]
theorem PSt.WF.setAt {s : PSt α} (h : s.WF) {at_ : Nat} {x : Pl α} (v : α) (hx : s.l[at_]? = some x) : (s.setAt at_ x v).WF := by
  have hlt : at_ < s.l.length := (List.getElem?_eq_some_iff.1 hx).1
  refine ⟨by simpa [PSt.setAt] using h.le, h.most, h.nodup, fun i => ?_⟩
  simp only [PSt.setAt]
  by_cases hie : i = at_
  · subst hie
    rw [List.getElem?_set_self hlt, h.free i, hx]
    simp
  · rw [List.getElem?_set_ne (fun e => hie e.symm)]
    exact h.free i
theorem PSt.WF.free_lt {s : PSt α} (h : s.WF) {i : Nat} (hi : i ∈ s.free) : ∃ x, s.l[i]? = some x ∧ x.taken = false := (h.free i).1 hi
def Pl.cells (enc : α → List Value) (x : Pl α) : List Value := .int .i64 x.gen :: .bool x.taken :: enc x.v
structure PoolIs (w : World) (T TP TI sz : Nat) (enc : α → List Value) (p : Nat) (lv fv : Value) (s : PSt α) : Prop where
  blk : Blk w p T #[.int .i64 s.most, lv, fv]
  tab : TabIs w 0 TP sz lv (s.l.map (Pl.cells enc))
  free : TabIs w 0 TI 1 fv (s.free.map fun (i : Nat) => [Value.int .i64 (i : Int)])
  wf : s.WF
def poolFp (p : Nat) (lv fv : Value) : List Nat := p :: (lv.ownBlock.toList ++ fv.ownBlock.toList)
theorem mem_poolFp {p : Nat} {lv fv : Value} {x : Nat} : x ∈ poolFp p lv fv ↔ x = p ∨ x ∈ lv.ownBlock.toList ∨ x ∈ fv.ownBlock.toList := by simp [poolFp]
section
variable {w w' : World} {T TP TI sz : Nat} {enc : α → List Value} {p : Nat} {lv fv : Value} {s : PSt α}
theorem PoolIs.chg {fp : List Nat} (h : PoolIs w T TP TI sz enc p lv fv s) (hc : Chg fp w w') (hd : Apart (poolFp p lv fv) fp) : PoolIs w' T TP TI sz enc p lv fv s :=
  ⟨h.blk.chg hc (hd p (by simp [poolFp])), h.tab.chg hc (fun x hx => hd x (mem_poolFp.2 (.inr (.inl hx)))), h.free.chg hc (fun x hx => hd x (mem_poolFp.2 (.inr (.inr hx)))), h.wf⟩
theorem PoolIs.later (h : PoolIs w T TP TI sz enc p lv fv s) (hb : Below w.heap.size w w') : PoolIs w' T TP TI sz enc p lv fv s := h.chg (Chg.of_below hb []) (by simp [Apart])
theorem PoolIs.alloc (h : PoolIs w T TP TI sz enc p lv fv s) (o : Obj) : PoolIs (w.alloc o) T TP TI sz enc p lv fv s := h.later ((Below.refl _ _).alloc (Nat.le_refl _) _)
theorem PoolIs.drewN (h : PoolIs w T TP TI sz enc p lv fv s) (k : Nat) : PoolIs (w.drewN k) T TP TI sz enc p lv fv s := ⟨h.blk, h.tab, h.free, h.wf⟩
theorem PoolIs.lt (h : PoolIs w T TP TI sz enc p lv fv s) : ∀ x, x ∈ poolFp p lv fv → x < w.heap.size := fun x hx => by
  rcases mem_poolFp.1 hx with rfl | hx | hx
  · exact h.blk.lt
  · exact (h.tab.lt x hx).2
  · exact (h.free.lt x hx).2
theorem PoolIs.lform (h : PoolIs w T TP TI sz enc p lv fv s) : ∃ A c, lv = .slice A s.l.length c ∧ s.l.length ≤ c ∧ (0 < s.l.length → ∃ g, A = some ⟨g, 0, none⟩ ∧ g < w.heap.size) := by
  obtain ⟨A, c, h1, h2, h3⟩ := h.tab.form
  rw [List.length_map] at h1 h2 h3
  exact ⟨A, c, h1, h2, fun hn => by obtain ⟨g, hg, hl, _⟩ := h3 hn; exact ⟨g, hg, hl⟩⟩
theorem PoolIs.fform (h : PoolIs w T TP TI sz enc p lv fv s) : ∃ A c, fv = .slice A s.free.length c ∧ s.free.length ≤ c ∧ (0 < s.free.length → ∃ g, A = some ⟨g, 0, none⟩ ∧ g < w.heap.size) := by
  obtain ⟨A, c, h1, h2, h3⟩ := h.free.form
  rw [List.length_map] at h1 h2 h3
  exact ⟨A, c, h1, h2, fun hn => by obtain ⟨g, hg, hl, _⟩ := h3 hn; exact ⟨g, hg, hl⟩⟩
end
structure PP (w W : World) (T TP TI sz : Nat) (p m : Nat) (fp0 : List Nat) (lc fc lv fv : Value) (L F : List (List Value)) : Prop where
  blk : Blk W p T #[.int .i64 m, lc, fc]
  tab : TabIs W 0 TP sz lv L
  free : TabIs W 0 TI 1 fv F
  chg : Chg fp0 w W
  fresh : Fresh fp0 (poolFp p lv fv) w
  t1 : T ≠ TP
  t2 : T ≠ TI
  t3 : TP ≠ TI
section
variable {w W W' : World} {T TP TI sz : Nat} {p m : Nat} {fp0 : List Nat} {lc fc lv fv : Value} {L F : List (List Value)} {enc : α → List Value} {s : PSt α}
theorem PP.start (h : PoolIs w T TP TI sz enc p lv fv s) (t1 : T ≠ TP) (t2 : T ≠ TI) (t3 : TP ≠ TI) : PP w w T TP TI sz p s.most (poolFp p lv fv) lv fv lv fv (s.l.map (Pl.cells enc)) (s.free.map fun (i : Nat) => [Value.int .i64 (i : Int)]) :=
  ⟨h.blk, h.tab, h.free, Chg.refl _ _, Fresh.refl _ _, t1, t2, t3⟩
theorem PP.later (h : PP w W T TP TI sz p m fp0 lc fc lv fv L F) (hb : Below W.heap.size W W') : PP w W' T TP TI sz p m fp0 lc fc lv fv L F :=
  ⟨h.blk.chg (Chg.of_below hb []) (by simp), h.tab.later hb, h.free.later hb, h.chg.trans (Chg.of_below hb _), h.fresh, h.t1, h.t2, h.t3⟩
theorem PP.alloc (h : PP w W T TP TI sz p m fp0 lc fc lv fv L F) (o : Obj) : PP w (W.alloc o) T TP TI sz p m fp0 lc fc lv fv L F := h.later ((Below.refl _ _).alloc (Nat.le_refl _) _)
theorem PP.drewN (h : PP w W T TP TI sz p m fp0 lc fc lv fv L F) (k : Nat) : PP w (W.drewN k) T TP TI sz p m fp0 lc fc lv fv L F := ⟨h.blk, h.tab, h.free, h.chg.drewN k, h.fresh, h.t1, h.t2, h.t3⟩
theorem PP.setTab {g n c : Nat} (h : PP w W T TP TI sz p m fp0 lc fc (.slice (some ⟨g, 0, none⟩) n c) fv L F) {i j : Nat} {r : List Value} (u : Value) (hi : L[i]? = some r) (hj : j < sz) :
    PP w (W.setCell ⟨g, i * sz + j, none⟩ u) T TP TI sz p m fp0 lc fc (.slice (some ⟨g, 0, none⟩) n c) fv (L.set i (r.set j u)) F := by
  refine ⟨h.blk.far (p := ⟨g, i * sz + j, none⟩) (fun e => h.tab.ne_blk h.blk h.t1.symm (by simp [Value.ownBlock, e])) _, h.tab.set u hi hj, h.free.far (p := ⟨g, i * sz + j, none⟩) (fun e => h.tab.ne_tab h.free h.t3 g (by simp [Value.ownBlock]) (by simp [e])) _, h.chg.setCell (p := ⟨g, i * sz + j, none⟩) ?_ _, h.fresh, h.t1, h.t2, h.t3⟩
  exact h.fresh g (mem_poolFp.2 (.inr (.inl (by simp [Value.ownBlock]))))
theorem PP.setL (h : PP w W T TP TI sz p m fp0 lc fc lv fv L F) : PP w (W.setCell ⟨p, 1, none⟩ lv) T TP TI sz p m fp0 lv fc lv fv L F :=
  ⟨by have := h.blk.set_ 1 lv; simpa using this, h.tab.far (p := ⟨p, 1, none⟩) (h.tab.ne_blk h.blk h.t1.symm) _, h.free.far (p := ⟨p, 1, none⟩) (h.free.ne_blk h.blk h.t2.symm) _, h.chg.setCell (p := ⟨p, 1, none⟩) (h.fresh p (by simp [poolFp])) _, h.fresh, h.t1, h.t2, h.t3⟩
theorem PP.setF (h : PP w W T TP TI sz p m fp0 lc fc lv fv L F) : PP w (W.setCell ⟨p, 2, none⟩ fv) T TP TI sz p m fp0 lc fv lv fv L F :=
  ⟨by have := h.blk.set_ 2 fv; simpa using this, h.tab.far (p := ⟨p, 2, none⟩) (h.tab.ne_blk h.blk h.t1.symm) _, h.free.far (p := ⟨p, 2, none⟩) (h.free.ne_blk h.blk h.t2.symm) _, h.chg.setCell (p := ⟨p, 2, none⟩) (h.fresh p (by simp [poolFp])) _, h.fresh, h.t1, h.t2, h.t3⟩
theorem PP.pushL (h : PP w W T TP TI sz p m fp0 lc fc lv fv L F) {lv' : Value} {r : List Value} (ht : TabIs W' 0 TP sz lv' (L ++ [r])) (hc : Chg lv.ownBlock.toList W W') (hf : Fresh lv.ownBlock.toList lv'.ownBlock.toList W) :
    PP w W' T TP TI sz p m fp0 lc fc lv' fv (L ++ [r]) F := by
  have hsub : ∀ x, x ∈ lv.ownBlock.toList → x ∈ fp0 ∨ w.heap.size ≤ x := fun x hx => h.fresh x (mem_poolFp.2 (.inr (.inl hx)))
  refine ⟨h.blk.chg hc (fun hm => h.tab.ne_blk h.blk h.t1.symm (by simpa using hm)), ht, h.free.chg hc (fun x hx hm => h.tab.ne_tab h.free h.t3 x hm hx), h.chg.then hc hsub, fun x hx => ?_, h.t1, h.t2, h.t3⟩
  rcases mem_poolFp.1 hx with rfl | hx | hx
  · exact h.fresh x (by simp [poolFp])
  · rcases hf x hx with h1 | h1
    · exact hsub x h1
    · exact .inr (Nat.le_trans h.chg.size h1)
  · exact h.fresh x (mem_poolFp.2 (.inr (.inr hx)))
theorem PP.pushF (h : PP w W T TP TI sz p m fp0 lc fc lv fv L F) {fv' : Value} {r : List Value} (ht : TabIs W' 0 TI 1 fv' (F ++ [r])) (hc : Chg fv.ownBlock.toList W W') (hf : Fresh fv.ownBlock.toList fv'.ownBlock.toList W) :
    PP w W' T TP TI sz p m fp0 lc fc lv fv' L (F ++ [r]) := by
  have hsub : ∀ x, x ∈ fv.ownBlock.toList → x ∈ fp0 ∨ w.heap.size ≤ x := fun x hx => h.fresh x (mem_poolFp.2 (.inr (.inr hx)))
  refine ⟨h.blk.chg hc (fun hm => h.free.ne_blk h.blk h.t2.symm (by simpa using hm)), h.tab.chg hc (fun x hx hm => h.tab.ne_tab h.free h.t3 x hx hm), ht, h.chg.then hc hsub, fun x hx => ?_, h.t1, h.t2, h.t3⟩
  rcases mem_poolFp.1 hx with rfl | hx | hx
  · exact h.fresh x (by simp [poolFp])
  · exact h.fresh x (mem_poolFp.2 (.inr (.inl hx)))
  · rcases hf x hx with h1 | h1
    · exact hsub x h1
    · exact .inr (Nat.le_trans h.chg.size h1)
theorem PP.popF {A : Option Addr} {c : Nat} {r : List Value} (h : PP w W T TP TI sz p m fp0 lc fc lv (.slice A (F.length + 1) c) L (F ++ [r])) : PP w W T TP TI sz p m fp0 lc fc lv (.slice A F.length c) L F := by
  refine ⟨h.blk, h.tab, h.free.pop, h.chg, fun x hx => h.fresh x ?_, h.t1, h.t2, h.t3⟩
  rcases mem_poolFp.1 hx with rfl | hx | hx
  · simp [poolFp]
  · exact mem_poolFp.2 (.inr (.inl hx))
  · refine mem_poolFp.2 (.inr (.inr ?_))
    cases A with
    | none => simp [Value.ownBlock] at hx
    | some a => simpa [Value.ownBlock] using hx
theorem PP.beside (h : PP w W T TP TI sz p m fp0 lc fc lv fv L F) {q : Addr} (hw : w.heap.size ≤ q.block) (n1 : p ≠ q.block) (n2 : lv.ownBlock ≠ some q.block) (n3 : fv.ownBlock ≠ some q.block) (u : Value) : PP w (W.setCell q u) T TP TI sz p m fp0 lc fc lv fv L F :=
  ⟨h.blk.far n1 _, h.tab.far n2 _, h.free.far n3 _, h.chg.setCell (.inr hw) _, h.fresh, h.t1, h.t2, h.t3⟩
theorem PP.put {g n c : Nat} {i j : Nat} {r : List Value} (h : PP w W T TP TI sz p m fp0 lc fc (.slice (some ⟨g, 0, none⟩) n c) fv (L.set i r) F) (u : Value) (hi : i < L.length) (hj : j < sz) :
    PP w (W.setCell ⟨g, i * sz + j, none⟩ u) T TP TI sz p m fp0 lc fc (.slice (some ⟨g, 0, none⟩) n c) fv (L.set i (r.set j u)) F := by
  have h1 := h.setTab (i := i) (j := j) (r := r) u (List.getElem?_set_self hi) hj
  rw [List.set_set] at h1
  exact h1
theorem PP.done (h : PP w W T TP TI sz p s.most fp0 lv fv lv fv (s.l.map (Pl.cells enc)) (s.free.map fun (i : Nat) => [Value.int .i64 (i : Int)])) (hwf : s.WF) :
    PoolIs W T TP TI sz enc p lv fv s ∧ Chg fp0 w W ∧ Fresh fp0 (poolFp p lv fv) w := ⟨⟨h.blk, h.tab, h.free, hwf⟩, h.chg, h.fresh⟩
end
end Go.Proofs.YtognmhgdegpdiaaGreat
end
section
/- Closed facts that all pools share. -/
namespace Go.Proofs.YtognmhgdegpdiaaGreat
open Go.RowKit
set_option maxRecDepth 100000
theorem info_int_ : (Tryz.prog.info? 3).map (fun i => (i.zero, i.size, i.bytes)) = some (some (.int .i64 0), 1, 8) := by kernel_rfl
theorem info_ref_ : (Tryz.prog.info? 34).map (fun i => (i.zero, i.size, i.bytes)) = some (some (.agg #[.int .i64 0, .int .i64 0]), 2, 16) := by kernel_rfl
theorem step_push_drew {P : Program} {W : World} {ops : Array Oper} {o : Oper} {a : Act} {K : Act → World → Prop} {Q : Exit → Act → World → Prop} {E : Prop} (hgd : o.guard = none) (s x : Operand) (t : TypeId)
    (ho : o.op = .call { callee := .builtin .append, args := #[s, x], argTypes := #[t, t] })
    (base : Nat) (e : TypeId) (z : Value) (size bytes : Nat) (ht : P.underlying t = some (.slice e)) (hinfo : (P.info? e).map (fun i => (i.zero, i.size, i.bytes)) = some (some z, size, bytes)) (hzs : z.cells.size = size) (hsz : 0 < size)
    (v : Value) (L : List (List Value)) (cs : Array Value) (hs : a.eval s = v) (hown : TabIs W base e size v L) (hx : a.eval x = .slice (some ⟨W.heap.size, 0, none⟩) 1 1) (hl : cs.size = size) (h1 : ∀ u ∈ cs.toList, u.oneCell' = true)
    (hn : L.length ≤ 1000000000) (hb : bytes ≤ 1000) (hbase : base ≤ W.heap.size)
    (h : ∀ v' w', TabIs w' base e size v' (L ++ [cs.toList]) → Chg v.ownBlock.toList (W.drewN 1) w' → Fresh v.ownBlock.toList v'.ownBlock.toList (W.drewN 1) → K (a.put o.dst v') w') :
    if Region.wanted o (yielded ops a.tmps) = true then Oper.wp P o a (W.alloc (.cells cs e)).drew K Q else E :=
  step_push (W := W.drewN 1) hgd s x t ho base e z size bytes ht hinfo hzs hsz v L cs hs (hown.drewN 1) hx hl h1 hn hb hbase h
end Go.Proofs.YtognmhgdegpdiaaGreat
end
section
/- What pools of structs have: numbers side by side. -/
namespace Go.Proofs.YtognmhgdegpdiaaGreat
open Go.RowKit
structure V3 where
  a : Int
  b : Int
  c : Int
structure V5 where
  a : Int
  b : Int
  c : Int
  d : Int
  e : Int
section
variable {α : Type} (z : α) (s : PSt α)
def GetR (a g : Int) (v : α) (e0 : Int) : Prop := (e0 ≠ 0 ∧ s.look a g = e0 ∧ v = z) ∨ (∃ (i : Nat) (x : Pl α), a = i ∧ g = x.gen ∧ s.l[i]? = some x ∧ x.taken = true ∧ 1 ≤ x.gen ∧ e0 = 0 ∧ v = x.v)
def GiveR (a g : Int) (v : α) (e0 : Int) (s' : PSt α) : Prop := (e0 ≠ 0 ∧ s.look a g = e0 ∧ v = z ∧ s' = s) ∨ (∃ (i : Nat) (x : Pl α), a = i ∧ g = x.gen ∧ s.l[i]? = some x ∧ x.taken = true ∧ 1 ≤ x.gen ∧ e0 = 0 ∧ v = x.v ∧ s' = s.giveAt i x z)
def TakeR (v : α) (a g : Int) (ok : Bool) (s' : PSt α) : Prop :=
  (s.free = [] ∧ s.most ≤ s.l.length ∧ a = 0 ∧ g = 0 ∧ ok = false ∧ s' = s) ∨ (s.free = [] ∧ s.l.length < s.most ∧ a = s.l.length ∧ g = 1 ∧ ok = true ∧ s' = s.fresh v) ∨
  (∃ (i : Nat) (fs : List Nat) (x : Pl α), s.free = fs ++ [i] ∧ s.l[i]? = some x ∧ a = i ∧ g = wrap64 (x.gen + 1) ∧ ok = true ∧ s' = s.retake i fs x v)
end
theorem cell_drew1 (W : World) (a : Addr) : W.drew.cell? a = W.cell? a := rfl
theorem cell_far {W : World} {p q : Addr} (h : p.block ≠ q.block) (u : Value) : (W.setCell p u).cell? q = W.cell? q := World.cell?_of_block (Below.heap_setCell W p u q.block (fun e => h e.symm))
theorem row_set {α : Type} {L : List α} {i : Nat} {r : α} (h : L[i]? = some r) : L.set i r = L := by
  obtain ⟨hi, rfl⟩ := List.getElem?_eq_some_iff.1 h
  exact List.set_getElem_self hi
theorem letW {P G : World → Prop} {W : World} (hp : P W) (h : ∀ W, P W → G W) : G W := h W hp
end Go.Proofs.YtognmhgdegpdiaaGreat
end
