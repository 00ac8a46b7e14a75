/- The statements on tables of jobs against a plain list: jobs that move, in the plain list. -/
import Derived.Test.YtjabofofofddbaaJobsPlayB
namespace Go.Proofs.Ytjabofofofddbaa
open Go.RowKit
set_option linter.unusedVariables false
set_option linter.unusedSimpArgs false
set_option maxRecDepth 100000

def mStep (a b : Int) (r : PSt Int) (st : List V5 × Nat) (rf : Int × Int) : List V5 × Nat := match r.l[rf.1.toNat]? with
  | some y => match st.1[y.v.toNat]? with
    | some v => if v.a = a then (st.1.set y.v.toNat ⟨b, v.b, v.c, v.d, v.e⟩, st.2 + 1) else st
    | none => st
  | none => st
theorem JInv.mstep {k : Nat} {all : List V5} {s : PSt V5} {r : PSt Int} {f : Int × Int → Option (Int × Int)} (h : JInv k all s r f) {a b : Int} (hb : 0 ≤ b ∧ b ≤ 2) {i : Nat} {x : Pl V5} (hx : s.l[i]? = some x) (ht : x.taken = true) (c : Nat) :
    JInv k (mStep a b r (all, c) ((i : Int), x.gen)).1 (moveStep a b (s, c) ((i : Int), x.gen)).1 r f ∧ (mStep a b r (all, c) ((i : Int), x.gen)).2 = (moveStep a b (s, c) ((i : Int), x.gen)).2 := by
  obtain ⟨y, hy, eg, et, ev⟩ := h.sim.get hx
  obtain ⟨hu0, hu⟩ := ev ht
  simp only [mStep, moveStep, Int.toNat_natCast, hx, hy, hu]
  by_cases hq : x.v.a = a
  · rw [if_pos hq, if_pos hq]
    refine ⟨?_, rfl⟩
    have hqs := h.qs x.v (h.vals hx ht)
    have hfx := (h.f (x.v.d, x.v.e) ((i : Int), x.gen)).2 ⟨i, x, hx, ht, rfl, rfl⟩
    have h2 := h.set (v := ⟨b, x.v.b, x.v.c, x.v.d, x.v.e⟩) hx hy ht ⟨hb, hqs.2⟩ (fun z hz => by
      simp only at hz
      rw [hfx] at hz
      injection hz with hz
      subst hz
      exact ⟨rfl, rfl⟩)
    have hff : upd (upd f (x.v.d, x.v.e) none) (x.v.d, x.v.e) (some ((i : Int), x.gen)) = f := by
      funext key
      by_cases hk : key = (x.v.d, x.v.e)
      · subst hk; rw [upd_same, hfx]
      · rw [upd_other _ _ hk, upd_other _ _ hk]
    simp only at h2
    rw [hff] at h2
    exact h2
  · rw [if_neg hq, if_neg hq]
    exact ⟨h, rfl⟩
set_option maxHeartbeats 2000000 in
theorem fill_5 (z u c d e f g : Value) (hu : u.cells = #[c, d, e, f, g]) : Instr.fill (fun i => some (i * 5, 5)) ((Array.range (1 * 5)).map (z.cells[· % z.cells.size]!)) [(0, u)] = some #[c, d, e, f, g] := by
  simp only [Instr.fill, hu]
  rw [if_neg (by simp)]
  congr 1
  apply Array.ext
  · simp
  · intro i h1 h2
    have : i = 0 ∨ i = 1 ∨ i = 2 ∨ i = 3 ∨ i = 4 := by simp at h2; omega
    rcases this with rfl | rfl | rfl | rfl | rfl <;> simp
theorem one_job (v : V5) : ∀ u ∈ (#[.int .i64 v.a, .int .i64 v.b, .int .i64 v.c, .int .i64 v.d, .int .i64 v.e] : Array Value).toList, u.oneCell' = true := by simp [Value.oneCell']
theorem tab_one2 {w : World} {g : Nat} {e : TypeId} {cs : Array Value} {sz : Nat} (h : Blk w g e cs) (hl : cs.size = sz) (hm : sz ≤ 1000) : TabIs w 0 e sz (.slice (some ⟨g, 0, none⟩) 1 1) [cs.toList] := by
  refine ⟨cs.toList, ⟨by simp [hl], .inr ⟨g, 1, cs, rfl, Nat.zero_le _, h, Nat.le_refl _, by unfold maxLen; omega, by simp [hl], by rw [List.take_of_length_le (by simp [hl])]⟩⟩, by simp [hl], ?_⟩
  intro i c hi j u hj
  have : i = 0 := by have := (List.getElem?_eq_some_iff.1 hi).1; simpa using this
  subst this
  simp at hi
  subst hi
  simpa using hj

section
variable {B : Nat} {w0 w : World} {A C : List Ent} {g n c u : Nat} {L : List V5} {v0 : V5}
theorem tab_row (L : List V5) {u : Nat} {v0 : V5} (hi : L[u]? = some v0) : (rowsV L)[u]? = some [.int .i64 v0.a, .int .i64 v0.b, .int .i64 v0.c, .int .i64 v0.d, .int .i64 v0.e] := by rw [rowsV, List.getElem?_map, hi]; rfl
/-- A job is stored into the list. -/
theorem led_row5 (h : Led B w0 w (A ++ tabE 80 5 (.slice (some ⟨g, 0, none⟩) n c) (rowsV L) :: C)) (hi : L[u]? = some v0) (v : V5) :
    Led B w0 (((((w.setCell ⟨g, u * 5, none⟩ (.int .i64 v.a)).setCell ⟨g, u * 5 + 1, none⟩ (.int .i64 v.b)).setCell ⟨g, u * 5 + 2, none⟩ (.int .i64 v.c)).setCell ⟨g, u * 5 + 3, none⟩ (.int .i64 v.d)).setCell ⟨g, u * 5 + 4, none⟩ (.int .i64 v.e)) (A ++ tabE 80 5 (.slice (some ⟨g, 0, none⟩) n c) (rowsV (L.set u v)) :: C) := by
  have hT : TabIs w 0 80 5 (.slice (some ⟨g, 0, none⟩) n c) (rowsV L) := h.mem
  have hul : u < (rowsV L).length := by rw [rowsV_len]; exact (List.getElem?_eq_some_iff.1 hi).1
  have h1 := hT.set (j := 0) (.int .i64 v.a) (tab_row L hi) (by decide)
  have h2 := h1.set (j := 1) (.int .i64 v.b) (List.getElem?_set_self hul) (by decide)
  rw [List.set_set] at h2
  have h3 := h2.set (j := 2) (.int .i64 v.c) (List.getElem?_set_self hul) (by decide)
  rw [List.set_set] at h3
  have h4 := h3.set (j := 3) (.int .i64 v.d) (List.getElem?_set_self hul) (by decide)
  rw [List.set_set] at h4
  have h5 := h4.set (j := 4) (.int .i64 v.e) (List.getElem?_set_self hul) (by decide)
  rw [List.set_set] at h5
  have hg : ∀ (a b : World) (q : Nat) (x : Value), Chg [g] a b → Chg [g] a (b.setCell ⟨g, q, none⟩ x) := fun a b q x hc => hc.setCell (p := ⟨g, q, none⟩) (.inl (by simp)) x
  have hc := hg w _ (u * 5 + 4) (.int .i64 v.e) (hg w _ (u * 5 + 3) (.int .i64 v.d) (hg w _ (u * 5 + 2) (.int .i64 v.c) (hg w _ (u * 5 + 1) (.int .i64 v.b) (hg w _ (u * 5) (.int .i64 v.a) (Chg.refl [g] w)))))
  refine h.mid _ hc ?_ (Fresh.refl _ _)
  show TabIs _ 0 _ 5 _ (rowsV (L.set u v))
  rw [rowsV, List.map_set]
  exact h5
/-- A job of the list is put into another queue. -/
theorem led_row1 (h : Led B w0 w (A ++ tabE 80 5 (.slice (some ⟨g, 0, none⟩) n c) (rowsV L) :: C)) (hi : L[u]? = some v0) (q : Int) :
    Led B w0 (w.setCell ⟨g, u * 5, none⟩ (.int .i64 q)) (A ++ tabE 80 5 (.slice (some ⟨g, 0, none⟩) n c) (rowsV (L.set u ⟨q, v0.b, v0.c, v0.d, v0.e⟩)) :: C) := by
  have hT : TabIs w 0 80 5 (.slice (some ⟨g, 0, none⟩) n c) (rowsV L) := h.mem
  have h1 := hT.set (j := 0) (.int .i64 q) (tab_row L hi) (by decide)
  refine h.mid _ ((Chg.refl _ _).setCell (p := ⟨g, u * 5, none⟩) (.inl (by simp [tabE, Value.ownBlock])) _) ?_ (Fresh.refl _ _)
  show TabIs _ 0 _ 5 _ (rowsV (L.set u _))
  rw [rowsV, List.map_set]
  exact h1
end
section
variable {B t p b n m : Nat} {lv fv gv iv vv bv : Value} {s : PSt V5} {r : PSt Int} {f : Int × Int → Option (Int × Int)} {w0 w : World}
theorem play_rot {A C : List Ent} (h : Led B w0 w (playEs t p b n m lv fv gv iv vv bv s r f (A ++ C))) : Led B w0 w (playEs t p b n m lv fv gv iv vv bv s r f (C ++ A)) :=
  h.perm ((List.perm_append_comm.append_left _).append_left _)
theorem play_fin {X1 X2 X3 T1 T2 : Ent} {q : List Ent} (he : q = [T1, T2]) (h : Led B w0 w (playEs t p b n m lv fv gv iv vv bv s r f [X1, X2, X3] ++ q)) : Led B w0 w (playEs t p b n m lv fv gv iv vv bv s r f [T1, T2, X1]) := by
  subst he
  have h1 : Led B w0 w (playEs t p b n m lv fv gv iv vv bv s r f ([X1, X2, X3] ++ [T1, T2])) := by
    unfold playEs at h ⊢
    rw [List.append_assoc, List.append_assoc] at h
    exact h
  have h2 := play_rot h1
  unfold playEs at h2 ⊢
  exact h2.sub (List.Sublist.append (List.Sublist.refl _) (List.Sublist.append (List.Sublist.refl _) (((List.sublist_append_left [X1] [X2, X3]).append_left [T1, T2]))))
end
end Go.Proofs.Ytjabofofofddbaa
