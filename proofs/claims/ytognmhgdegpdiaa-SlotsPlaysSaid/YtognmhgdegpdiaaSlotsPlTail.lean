import Derived.Test.YtognmhgdegpdiaaSlotsPlFG
/- Handles against plain pools: the end of a round: agree. -/
namespace Go.Proofs.Ytognmhgdegpdiaa
open Go.RowKit
set_option linter.unusedVariables false
set_option linter.unusedSimpArgs false
set_option maxRecDepth 100000

/-- A round is done, but for its count. -/
structure AtDone (Z : PB) (k : Nat) (X : PM) (hs is_ : Value) (HS IS : List (Int × Int)) (a : Act) (w : World) : Prop where
  fr : Fr Z X k hs is_ a
  k1 : k < 80
  k2 : k < Z.n1
  h1 : 1 ≤ HS.length
  h2 : HS.length ≤ k + 2
  i1 : 1 ≤ IS.length
  i2 : IS.length ≤ k + 2
  inv : PInv (k + 1) X
  led : Led Z.w0.heap.size Z.w0 w (X.mem ++ [tabE 27 2 hs (rowsR HS), tabE 27 2 is_ (rowsR IS)])
theorem AtEnd.done {Z : PB} {X : PM} {D : HD} {a : Act} {w : World} (h : AtEnd Z X D a w) : AtDone Z D.k X D.hs D.is_ D.HS D.IS a w :=
  ⟨h.fr, h.k1, h.k2, h.h1, h.h2, h.i1, h.i2, h.inv, h.led.sub (List.Sublist.append (List.Sublist.refl _) (List.sublist_append_left _ _))⟩
set_option maxHeartbeats 16000000 in
theorem pl_tail (Z : PB) (X : PM) (D : HD) (a : Act) (w : World) (Q : Exit → Act → World → Prop) (h : AtEnd Z X D a w) (hN : ∀ X hs is_ HS IS a w, AtDone Z D.k X hs is_ HS IS a w → Q .normal a w) :
    PlayWp [1, 1, 1, 1, 0, 1, 0, 0, 1, 0, 0, 1, 1, 1, 1, 1, 1, 1, 1] Q a w := by
  have hsz := h.fr.size
  have hde := h.fr.defers
  have v1 := h.fr.s1
  have v5 := h.fr.s5
  have v6 := h.fr.s6
  have v7 := h.fr.s7
  have v8 := h.fr.s8
  have v9 := h.fr.s9
  have v10 := h.s10
  have v11 := h.s11
  have v13 := h.s13
  have hI := Lib.hid h.inv
  have L := Lib.hid h.led
  have HN := Lib.hid hN
  have k1 := h.k1
  have k2 := h.k2
  have h1 := h.h1
  have h2 := h.h2
  have i1 := h.i1
  have i2 := h.i2
  have hce := Lib.hid h.ce
  clear h hN
  obtain ⟨fs, hfs, rfl⟩ := frame_open a hsz hde
  clear hsz hde
  replace v1 := hfs _ _ v1
  replace v5 := hfs _ _ v5
  replace v6 := hfs _ _ v6
  replace v7 := hfs _ _ v7
  replace v8 := hfs _ _ v8
  replace v9 := hfs _ _ v9
  replace v10 := hfs _ _ v10
  replace v11 := hfs _ _ v11
  replace v13 := hfs _ _ v13
  clear hfs
  simp only [v1, v5, v6, v7, v8, v9, v10, v11, v13]
  clear v1 v5 v6 v7 v8 v9 v10 v11 v13
  unfold PlayWp
  conv => arg 2; whnf
  have bd := within_bd D.ce 0 40 (by omega)
  have hce2 := hce.out
  unfold in64 at hce2
  obtain ⟨cc, hcc⟩ : ∃ c, within D.ce 0 40 = c := ⟨_, rfl⟩
  rw [hcc] at bd
  have HCC := Lib.hid hcc
  clear hcc
  have hc64 : in64 cc := by unfold in64; omega
  have HF : Hid (∀ W, Led Z.w0.heap.size Z.w0 W (X.mem ++ D.es) → W.cell? ⟨D.hb, 0, none⟩ = some (.int .i64 D.h0) ∧ W.cell? ⟨D.hb, 1, none⟩ = some (.int .i64 D.h1) ∧ W.cell? ⟨D.cb, 0, none⟩ = some (.int .i64 D.c0) ∧ W.cell? ⟨D.cb, 1, none⟩ = some (.int .i64 D.c1) ∧ W.cell? ⟨D.xb, 5, none⟩ = some (.int .i64 D.ce)) := Lib.hid fun W hl => ⟨(hdH hl).cell 0, (hdH hl).cell 1, (hdC hl).cell 0, (hdC hl).cell 1, (hdAsk hl).cell 5⟩
  have HS : Hid (∀ W, Chg [] w W → W.cell? ⟨D.hb, 0, none⟩ = some (.int .i64 D.h0) ∧ W.cell? ⟨D.hb, 1, none⟩ = some (.int .i64 D.h1) ∧ W.cell? ⟨D.cb, 0, none⟩ = some (.int .i64 D.c0) ∧ W.cell? ⟨D.cb, 1, none⟩ = some (.int .i64 D.c1) ∧ W.cell? ⟨D.xb, 5, none⟩ = some (.int .i64 D.ce)) := Lib.hid fun W hW => HF.out W (L.out.later (hW.below (by simp) (Nat.le_refl _)))
  go_upto_region 89 with fail
  go_region_held3 (fun wx => wx.cell? ⟨D.hb, 0, none⟩ = some (.int .i64 D.h0) ∧ wx.cell? ⟨D.hb, 1, none⟩ = some (.int .i64 D.h1) ∧ wx.cell? ⟨D.cb, 0, none⟩ = some (.int .i64 D.c0) ∧ wx.cell? ⟨D.cb, 1, none⟩ = some (.int .i64 D.c1) ∧ wx.cell? ⟨D.xb, 5, none⟩ = some (.int .i64 D.ce)) (first | (refine HS.out _ ?_; (repeat' first | with_reducible exact Chg.refl _ _ | with_reducible refine Chg.drew ?_ | with_reducible refine Chg.drewN ?_ _ | with_reducible refine Chg.alloc ?_ _ | with_reducible refine Chg.setCell ?_ ?_ _ | (left; simp; done) | (right; exact Nat.le_refl _) | (right; dsimp only; omega)); done) | (refine HS2.out _ ?_; (repeat' first | with_reducible exact Chg.refl _ _ | with_reducible refine Chg.drew ?_ | with_reducible refine Chg.drewN ?_ _ | with_reducible refine Chg.alloc ?_ _ | with_reducible refine Chg.setCell ?_ ?_ _ | (left; simp; done) | (right; exact Nat.le_refl _) | (right; dsimp only; omega)); done)) (first | (go_at_call 10; refine Calls.mono (within_any D.ce 0 40 _ (by omega) (by omega) (by omega) (by omega) (by omega)) ?_; rw [HCC.out]; rintro e w3 ⟨rfl, rfl⟩) | (go_at_call 43; refine Calls.mono (pl_agree Z.w0.heap.size (D.k + 1) X D.h0 D.h1 D.c0 D.c1 cc Z.w0 _ _ hI.out hc64 L.out.drew) ?_; rintro e w4 ⟨rfl, q1⟩; have S4 := Lib.hid q1; have HS2 : Hid (∀ W, Chg [] w4 W → W.cell? ⟨D.hb, 0, none⟩ = some (.int .i64 D.h0) ∧ W.cell? ⟨D.hb, 1, none⟩ = some (.int .i64 D.h1) ∧ W.cell? ⟨D.cb, 0, none⟩ = some (.int .i64 D.c0) ∧ W.cell? ⟨D.cb, 1, none⟩ = some (.int .i64 D.c1) ∧ W.cell? ⟨D.xb, 5, none⟩ = some (.int .i64 D.ce)) := Lib.hid (fun W hW => HF.out W (S4.out.later (hW.below (by simp) (Nat.le_refl _)))); clear q1))
  go_wp2_with fail
  exact HN.out X D.hs D.is_ D.HS D.IS _ _ ⟨⟨rfl, rfl, rfl, rfl, rfl, rfl, rfl, rfl⟩, k1, k2, h1, h2, i1, i2, hI.out, S4.out.sub (List.Sublist.append (List.Sublist.refl _) (List.sublist_append_left _ _))⟩
end Go.Proofs.Ytognmhgdegpdiaa
