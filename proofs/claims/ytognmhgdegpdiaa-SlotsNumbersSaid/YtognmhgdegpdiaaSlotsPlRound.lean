import Derived.Test.YtognmhgdegpdiaaSlotsPlSw
import Derived.Test.YtognmhgdegpdiaaSlotsPlTail
/- Handles against plain pools: a round from its handles on. -/
namespace Go.Proofs.Ytognmhgdegpdiaa
open Go.RowKit
set_option linter.unusedVariables false
set_option linter.unusedSimpArgs false
set_option maxRecDepth 100000
/-- The handles are there. -/
structure AtH (Z : PB) (X : PM) (D : HD) (a : Act) (w : World) : Prop where
  fr : Fr Z X D.k D.hs D.is_ a
  s10 : Sl a 10 (.pointer (some ⟨D.xb, 0, none⟩))
  s11 : Sl a 11 (.pointer (some ⟨D.hb, 0, none⟩))
  s12 : Sl a 12 (.pointer (some ⟨D.ob, 0, none⟩))
  s13 : Sl a 13 (.pointer (some ⟨D.cb, 0, none⟩))
  k1 : D.k < 80
  k2 : D.k < Z.n1
  h1 : 1 ≤ D.HS.length
  h2 : D.HS.length ≤ D.k + 1
  i1 : 1 ≤ D.IS.length
  i2 : D.IS.length ≤ D.k + 1
  inv : PInv D.k X
  kk : in64 D.kk
  ce : in64 D.ce
  led : Led Z.w0.heap.size Z.w0 w (X.mem ++ D.es)
set_option maxHeartbeats 16000000 in
theorem pl_round2 (Z : PB) (X : PM) (D : HD) (a : Act) (w : World) (Q : Exit → Act → World → Prop) (h : AtH Z X D a w) (hPan : ∀ c (a : Act) d v w, Q (.panic c) (a.put d v) w → Q (.panic c) a w)
    (hN : ∀ X hs is_ HS IS a w, AtDone Z D.k X hs is_ HS IS a w → Q .normal a w) (hE : ∀ X hs is_ HS IS a w, AtDone Z D.k X hs is_ HS IS a w → Q (.exit 1) a w) : PlayWp [1, 1, 1, 1, 0, 1, 0, 0, 1, 0, 0, 1, 1, 1] Q a w := by
  have HPan := Lib.hid hPan
  clear hPan
  have hsz := h.fr.size
  have hde := h.fr.defers
  have v1 := h.fr.s1
  have v5 := h.fr.s5
  have v6 := h.fr.s6
  have v7 := h.fr.s7
  have v8 := h.fr.s8
  have v9 := h.fr.s9
  have v10 := h.s10
  have v11 := h.s11
  have v12 := h.s12
  have v13 := h.s13
  have hI := Lib.hid h.inv
  have L := Lib.hid h.led
  have HN := Lib.hid hN
  have HE := Lib.hid hE
  have k1 := h.k1
  have k2 := h.k2
  have h1 := h.h1
  have h2 := h.h2
  have i1 := h.i1
  have i2 := h.i2
  have hce := Lib.hid h.ce
  have hkk := Lib.hid h.kk
  clear h hN hE
  obtain ⟨fs, hfs, rfl⟩ := frame_open a hsz hde
  clear hsz hde
  replace v1 := hfs _ _ v1
  replace v5 := hfs _ _ v5
  replace v6 := hfs _ _ v6
  replace v7 := hfs _ _ v7
  replace v8 := hfs _ _ v8
  replace v9 := hfs _ _ v9
  replace v10 := hfs _ _ v10
  replace v11 := hfs _ _ v11
  replace v12 := hfs _ _ v12
  replace v13 := hfs _ _ v13
  clear hfs
  simp only [v1, v5, v6, v7, v8, v9, v10, v11, v12, v13]
  clear v1 v5 v6 v7 v8 v9 v10 v11 v12 v13
  unfold PlayWp
  conv => arg 2; whnf
  have z1 := h1
  have z2 := h2
  clear h1 h2
  apply wp_seq_k
  intro K hK
  go_cut [] from 96 to 103 (fun wx => ∃ (h0 h1 c0 c1 : Int), Hid (Led Z.w0.heap.size Z.w0 wx (X.mem ++ { D with h0 := h0, h1 := h1, c0 := c0, c1 := c1 }.es)))
  case first =>
    have ra := hdAsk L.out
    have x0 := ra.cell 0; have fx0 := ra.frozen 0; have x1 := ra.cell 1; have fx1 := ra.frozen 1; have x2 := ra.cell 2; have fx2 := ra.frozen 2; have x3 := ra.cell 3; have fx3 := ra.frozen 3; have x4 := ra.cell 4; have fx4 := ra.frozen 4; have x5 := ra.cell 5; have fx5 := ra.frozen 5; have x6 := ra.cell 6; have fx6 := ra.frozen 6; have x7 := ra.cell 7; have fx7 := ra.frozen 7; simp only [List.getElem?_toArray, List.getElem?_cons_zero, List.getElem?_cons_succ] at x0 x1 x2 x3 x4 x5 x6 x7
    clear ra
    obtain ⟨q9, hq9⟩ : ∃ q : Bool, (D.io.tmod 9 == 8) = q := ⟨_, rfl⟩
    cases q9 with
    | true =>
      go_upto_region 12 with fail
      have hA1 : D.xb ≠ D.hb := fun e => L.out.apart 23 24 rfl rfl (by decide) D.xb (by simp [blkE, HD.ask]) (by simp [blkE, e])
      have hA2 : D.xb ≠ D.cb := fun e => L.out.apart 23 26 rfl rfl (by decide) D.xb (by simp [blkE, HD.ask]) (by simp [blkE, e])
      have hA3 : D.hb ≠ D.cb := fun e => L.out.apart 24 26 rfl rfl (by decide) D.hb (by simp [blkE]) (by simp [blkE, e])
      have hA4 := hA3.symm
      have hA5 := hA1.symm
      have hA6 := hA2.symm
      have lx := (hdAsk L.out).lt
      have rh := hdH L.out
      have rc := hdC L.out
      have s0 := rh.cell 0; have fs0 := rh.frozen 0; have s1 := rh.cell 1; have fs1 := rh.frozen 1; simp only [List.getElem?_toArray, List.getElem?_cons_zero, List.getElem?_cons_succ] at s0 s1
      have t0 := rc.cell 0; have ft0 := rc.frozen 0; have t1 := rc.cell 1; have ft1 := rc.frozen 1; simp only [List.getElem?_toArray, List.getElem?_cons_zero, List.getElem?_cons_succ] at t0 t1
      have lh := rh.lt
      have lc := rc.lt
      clear rh rc
      have HS : Hid (∀ W, Chg [D.hb, D.cb] w W → W.cell? ⟨D.xb, 6, none⟩ = some (.int .i64 D.ra) ∧ W.cell? ⟨D.xb, 7, none⟩ = some (.int .i64 D.rg)) := Lib.hid fun W hW => ⟨(hW.cell (p := ⟨D.xb, 6, none⟩) lx (by simp [hA1, hA2])).trans x6, (hW.cell (p := ⟨D.xb, 7, none⟩) lx (by simp [hA1, hA2])).trans x7⟩
      have hl1 : Led Z.w0.heap.size Z.w0 w.drew ((X.mem ++ (D.tabs ++ [D.ask])) ++ blkE D.hb 27 #[.int .i64 D.h0, .int .i64 D.h1] :: [blkE D.ob 27 #[.int .i64 D.o0, .int .i64 D.o1], blkE D.cb 27 #[.int .i64 D.c0, .int .i64 D.c1]]) := by have := L.out.drew; simpa [HD.es, List.append_assoc] using this
      have hl2 := led_store2 (y0 := .int .i64 D.ra) (y1 := .int .i64 D.rg) hl1
      have hl3 : Led Z.w0.heap.size Z.w0 ((w.drew.setCell ⟨D.hb, 0, none⟩ (.int .i64 D.ra)).setCell ⟨D.hb, 1, none⟩ (.int .i64 D.rg)) ((X.mem ++ (D.tabs ++ [D.ask]) ++ [blkE D.hb 27 #[.int .i64 D.ra, .int .i64 D.rg], blkE D.ob 27 #[.int .i64 D.o0, .int .i64 D.o1]]) ++ blkE D.cb 27 #[.int .i64 D.c0, .int .i64 D.c1] :: []) := by simpa [List.append_assoc] using hl2
      have hl4 := led_store2 (y0 := .int .i64 D.ra) (y1 := .int .i64 D.rg) hl3
      have S9 : Hid (Led Z.w0.heap.size Z.w0 ((((w.drew.setCell ⟨D.hb, 0, none⟩ (.int .i64 D.ra)).setCell ⟨D.hb, 1, none⟩ (.int .i64 D.rg)).setCell ⟨D.cb, 0, none⟩ (.int .i64 D.ra)).setCell ⟨D.cb, 1, none⟩ (.int .i64 D.rg)) (X.mem ++ { D with h0 := D.ra, h1 := D.rg, c0 := D.ra, c1 := D.rg }.es)) := Lib.hid (by have := hl4; simpa [HD.es, HD.tabs, HD.ask, List.append_assoc] using this)
      clear hl1 hl2 hl3 hl4
      go_region_held3 (fun wx => wx.cell? ⟨D.xb, 6, none⟩ = some (.int .i64 D.ra) ∧ wx.cell? ⟨D.xb, 7, none⟩ = some (.int .i64 D.rg)) ((refine HS.out _ ?_; (repeat' first | with_reducible exact Chg.refl _ _ | with_reducible refine Chg.drew ?_ | with_reducible refine Chg.drewN ?_ _ | with_reducible refine Chg.alloc ?_ _ | with_reducible refine Chg.setCell ?_ ?_ _ | (left; simp; done) | (right; exact Nat.le_refl _) | (right; dsimp only; omega)); done)) (fail)
      go_wp2_with fail
      go_meet
      case rel => exact ⟨D.ra, D.rg, D.ra, D.rg, S9⟩
    | false =>
      go_wp2_with fail
      go_meet
      case rel => exact ⟨D.h0, D.h1, D.c0, D.c1, L⟩
  case rest =>
    clear L
    obtain ⟨h0, h1, c0, c1, L⟩ := hcut
    obtain ⟨b1, b2, b3, b4, b5, b6, b7, b8⟩ := pm_small hI.out L.out
    go_upto_region 13 with fail
    have HF : Hid (∀ W, Led Z.w0.heap.size Z.w0 W (X.mem ++ { D with h0 := h0, h1 := h1, c0 := c0, c1 := c1 }.es) → W.cell? ⟨X.m, 0, none⟩ = some (.pointer (some ⟨X.mh, 0, none⟩)) ∧ W.cell? ⟨D.hb, 0, none⟩ = some (.int .i64 h0) ∧ W.cell? ⟨D.hb, 1, none⟩ = some (.int .i64 h1)) := Lib.hid fun W hl => ⟨pm0 hl, (hdH hl).cell 0, (hdH hl).cell 1⟩
    have HS : Hid (∀ W, Chg [] wc W → W.cell? ⟨X.m, 0, none⟩ = some (.pointer (some ⟨X.mh, 0, none⟩)) ∧ W.cell? ⟨D.hb, 0, none⟩ = some (.int .i64 h0) ∧ W.cell? ⟨D.hb, 1, none⟩ = some (.int .i64 h1)) := Lib.hid fun W hW => HF.out W (L.out.later (hW.below (by simp) (Nat.le_refl _)))
    go_region_held3 (fun wx => wx.cell? ⟨X.m, 0, none⟩ = some (.pointer (some ⟨X.mh, 0, none⟩)) ∧ wx.cell? ⟨D.hb, 0, none⟩ = some (.int .i64 h0) ∧ wx.cell? ⟨D.hb, 1, none⟩ = some (.int .i64 h1)) (first | (refine HS.out _ ?_; (repeat' first | with_reducible exact Chg.refl _ _ | with_reducible refine Chg.drew ?_ | with_reducible refine Chg.drewN ?_ _ | with_reducible refine Chg.alloc ?_ _ | with_reducible refine Chg.setCell ?_ ?_ _ | (left; simp; done) | (right; exact Nat.le_refl _) | (right; dsimp only; omega)); done) | (refine HS2.out _ ?_; (repeat' first | with_reducible exact Chg.refl _ _ | with_reducible refine Chg.drew ?_ | with_reducible refine Chg.drewN ?_ _ | with_reducible refine Chg.alloc ?_ _ | with_reducible refine Chg.setCell ?_ ?_ _ | (left; simp; done) | (right; exact Nat.le_refl _) | (right; dsimp only; omega)); done)) ((go_at_call 37; refine Calls.mono (ref_get Z.w0.heap.size X.mh X.hg X.hi X.hv X.hb X.rh Z.w0 _ _ h0 h1 (PM.toH.1 L.out.drew) b4) ?_; rintro e w13 ⟨u13, e13, rfl, q1, q2⟩; have G13 := Lib.hid q1; have S13 := Lib.hid (L.out.drew.later q2); have HS2 : Hid (∀ W, Chg [] w13 W → W.cell? ⟨X.m, 0, none⟩ = some (.pointer (some ⟨X.mh, 0, none⟩)) ∧ W.cell? ⟨D.hb, 0, none⟩ = some (.int .i64 h0) ∧ W.cell? ⟨D.hb, 1, none⟩ = some (.int .i64 h1)) := Lib.hid (fun W hW => HF.out W (S13.out.later (hW.below (by simp) (Nat.le_refl _)))); clear q1 q2))
    clear HF HS HS2
    go_upto_region 14 with fail
    have HF : Hid (∀ W, Led Z.w0.heap.size Z.w0 W (X.mem ++ { D with h0 := h0, h1 := h1, c0 := c0, c1 := c1 }.es) → W.cell? ⟨X.m, 0, none⟩ = some (.pointer (some ⟨X.mh, 0, none⟩)) ∧ W.cell? ⟨D.ob, 0, none⟩ = some (.int .i64 D.o0) ∧ W.cell? ⟨D.ob, 1, none⟩ = some (.int .i64 D.o1)) := Lib.hid fun W hl => ⟨pm0 hl, (hdO hl).cell 0, (hdO hl).cell 1⟩
    have HS : Hid (∀ W, Chg [] w13 W → W.cell? ⟨X.m, 0, none⟩ = some (.pointer (some ⟨X.mh, 0, none⟩)) ∧ W.cell? ⟨D.ob, 0, none⟩ = some (.int .i64 D.o0) ∧ W.cell? ⟨D.ob, 1, none⟩ = some (.int .i64 D.o1)) := Lib.hid fun W hW => HF.out W (S13.out.later (hW.below (by simp) (Nat.le_refl _)))
    go_region_held3 (fun wx => wx.cell? ⟨X.m, 0, none⟩ = some (.pointer (some ⟨X.mh, 0, none⟩)) ∧ wx.cell? ⟨D.ob, 0, none⟩ = some (.int .i64 D.o0) ∧ wx.cell? ⟨D.ob, 1, none⟩ = some (.int .i64 D.o1)) (first | (refine HS.out _ ?_; (repeat' first | with_reducible exact Chg.refl _ _ | with_reducible refine Chg.drew ?_ | with_reducible refine Chg.drewN ?_ _ | with_reducible refine Chg.alloc ?_ _ | with_reducible refine Chg.setCell ?_ ?_ _ | (left; simp; done) | (right; exact Nat.le_refl _) | (right; dsimp only; omega)); done) | (refine HS2.out _ ?_; (repeat' first | with_reducible exact Chg.refl _ _ | with_reducible refine Chg.drew ?_ | with_reducible refine Chg.drewN ?_ _ | with_reducible refine Chg.alloc ?_ _ | with_reducible refine Chg.setCell ?_ ?_ _ | (left; simp; done) | (right; exact Nat.le_refl _) | (right; dsimp only; omega)); done)) ((go_at_call 37; refine Calls.mono (ref_get Z.w0.heap.size X.mh X.hg X.hi X.hv X.hb X.rh Z.w0 _ _ D.o0 D.o1 (PM.toH.1 S13.out.drew) b4) ?_; rintro e w14 ⟨u14, e14, rfl, q1, q2⟩; have G14 := Lib.hid q1; have S14 := Lib.hid (S13.out.drew.later q2); have HS2 : Hid (∀ W, Chg [] w14 W → W.cell? ⟨X.m, 0, none⟩ = some (.pointer (some ⟨X.mh, 0, none⟩)) ∧ W.cell? ⟨D.ob, 0, none⟩ = some (.int .i64 D.o0) ∧ W.cell? ⟨D.ob, 1, none⟩ = some (.int .i64 D.o1)) := Lib.hid (fun W hW => HF.out W (S14.out.later (hW.below (by simp) (Nat.le_refl _)))); clear q1 q2))
    clear HF HS HS2
    go_upto_region 15 with fail
    have HF : Hid (∀ W, Led Z.w0.heap.size Z.w0 W (X.mem ++ { D with h0 := h0, h1 := h1, c0 := c0, c1 := c1 }.es) → W.cell? ⟨X.m, 1, none⟩ = some (.pointer (some ⟨X.mi, 0, none⟩)) ∧ W.cell? ⟨D.cb, 0, none⟩ = some (.int .i64 c0) ∧ W.cell? ⟨D.cb, 1, none⟩ = some (.int .i64 c1)) := Lib.hid fun W hl => ⟨pm1 hl, (hdC hl).cell 0, (hdC hl).cell 1⟩
    have HS : Hid (∀ W, Chg [] w14 W → W.cell? ⟨X.m, 1, none⟩ = some (.pointer (some ⟨X.mi, 0, none⟩)) ∧ W.cell? ⟨D.cb, 0, none⟩ = some (.int .i64 c0) ∧ W.cell? ⟨D.cb, 1, none⟩ = some (.int .i64 c1)) := Lib.hid fun W hW => HF.out W (S14.out.later (hW.below (by simp) (Nat.le_refl _)))
    go_region_held3 (fun wx => wx.cell? ⟨X.m, 1, none⟩ = some (.pointer (some ⟨X.mi, 0, none⟩)) ∧ wx.cell? ⟨D.cb, 0, none⟩ = some (.int .i64 c0) ∧ wx.cell? ⟨D.cb, 1, none⟩ = some (.int .i64 c1)) (first | (refine HS.out _ ?_; (repeat' first | with_reducible exact Chg.refl _ _ | with_reducible refine Chg.drew ?_ | with_reducible refine Chg.drewN ?_ _ | with_reducible refine Chg.alloc ?_ _ | with_reducible refine Chg.setCell ?_ ?_ _ | (left; simp; done) | (right; exact Nat.le_refl _) | (right; dsimp only; omega)); done) | (refine HS2.out _ ?_; (repeat' first | with_reducible exact Chg.refl _ _ | with_reducible refine Chg.drew ?_ | with_reducible refine Chg.drewN ?_ _ | with_reducible refine Chg.alloc ?_ _ | with_reducible refine Chg.setCell ?_ ?_ _ | (left; simp; done) | (right; exact Nat.le_refl _) | (right; dsimp only; omega)); done)) ((go_at_call 37; refine Calls.mono (ref_get Z.w0.heap.size X.mi X.ig X.ii X.iv X.ib X.ri Z.w0 _ _ c0 c1 (PM.toI.1 S14.out.drew) b1) ?_; rintro e w15 ⟨u15, e15, rfl, q1, q2⟩; have G15 := Lib.hid q1; have S15 := Lib.hid (S14.out.drew.later q2); have HS2 : Hid (∀ W, Chg [] w15 W → W.cell? ⟨X.m, 1, none⟩ = some (.pointer (some ⟨X.mi, 0, none⟩)) ∧ W.cell? ⟨D.cb, 0, none⟩ = some (.int .i64 c0) ∧ W.cell? ⟨D.cb, 1, none⟩ = some (.int .i64 c1)) := Lib.hid (fun W hW => HF.out W (S15.out.later (hW.below (by simp) (Nat.le_refl _)))); clear q1 q2))
    clear HF HS HS2
    clear L S13 S14
    have ra := hdAsk S15.out
    have x0 := ra.cell 0; have fx0 := ra.frozen 0; have x1 := ra.cell 1; have fx1 := ra.frozen 1; have x2 := ra.cell 2; have fx2 := ra.frozen 2; have x3 := ra.cell 3; have fx3 := ra.frozen 3; have x4 := ra.cell 4; have fx4 := ra.frozen 4; have x5 := ra.cell 5; have fx5 := ra.frozen 5; have x6 := ra.cell 6; have fx6 := ra.frozen 6; have x7 := ra.cell 7; have fx7 := ra.frozen 7; simp only [List.getElem?_toArray, List.getElem?_cons_zero, List.getElem?_cons_succ] at x0 x1 x2 x3 x4 x5 x6 x7
    clear ra
    go_upto_block 2 with fail
    skip
    refine pl_switch Z X { D with h0 := h0, h1 := h1, c0 := c0, c1 := c1, a := u13, e := e13, b := u14, f := e14, j := u15, g := e15 } _ w15 _ ⟨⟨rfl, rfl, rfl, rfl, rfl, rfl, rfl, rfl⟩, rfl, rfl, rfl, rfl, rfl, rfl, rfl, rfl, rfl, rfl, rfl, k1, k2, z1, z2, i1, i2, hI.out, G13.out, G14.out, G15.out, hkk.out, hce.out, S15.out⟩ (fun c a d v w h => HPan.out c a d v w h) ?_ ?_
    · intro X5 D5 a5 w5 hk5 h5
      simp only [Exit.then]
      rename_i K2 hK2
      refine hK2 _ _ ?_
      exact pl_tail Z X5 D5 a5 w5 Q h5 (fun X hs is_ HS IS a w h => HN.out X hs is_ HS IS a w (by have e : D5.k = D.k := hk5; rw [e] at h; exact h))
    · intro X5 D5 a5 w5 hk5 h5
      simp only [Exit.then]
      exact HE.out _ _ _ _ _ _ _ (by have e : D5.k = D.k := hk5; have h6 := h5.done; rw [e] at h6; exact h6)
end Go.Proofs.Ytognmhgdegpdiaa
