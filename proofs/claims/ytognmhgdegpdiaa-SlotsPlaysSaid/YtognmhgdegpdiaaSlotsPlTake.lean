import Derived.Test.YtognmhgdegpdiaaSlotsPlFG
/- Handles against plain pools: Take. -/
namespace Go.Proofs.Ytognmhgdegpdiaa
open Go.RowKit
set_option linter.unusedVariables false
set_option linter.unusedSimpArgs false
set_option maxRecDepth 100000

set_option maxHeartbeats 16000000 in
theorem pl_take (Z : PB) (X : PM) (D : HD) (a : Act) (w : World) (Q : Exit → Act → World → Prop) (h : AtSw Z X D a w)  (hN : ∀ X' D' a w, D'.k = D.k → AtEnd Z X' D' a w → Q .normal a w) (hE : ∀ X' D' a w, D'.k = D.k → AtEnd Z X' D' a w → Q (.exit 1) a w) :
    PlayWp (p2 ++ [0, 1, 1, 1, 1, 1, 0]) Q a w := by
  have hsz := h.fr.size
  have hde := h.fr.defers
  have v1 := h.fr.s1
  have v5 := h.fr.s5
  have v6 := h.fr.s6
  have v7 := h.fr.s7
  have v8 := h.fr.s8
  have v9 := h.fr.s9
  have v10 := h.s10
  have v11 := h.s11
  have v12 := h.s12
  have v13 := h.s13
  have v14 := h.s14
  have v15 := h.s15
  have v16 := h.s16
  have v17 := h.s17
  have v18 := h.s18
  have v19 := h.s19
  have v132 := h.s132
  have hI := Lib.hid h.inv
  have hGH := Lib.hid h.gh
  have hGO := Lib.hid h.go
  have hGI := Lib.hid h.gi
  have L := Lib.hid h.led
  have HN := Lib.hid hN
  have HE := Lib.hid hE
  have k1 := h.k1
  have k2 := h.k2
  have h1 := h.h1
  have h2 := h.h2
  have i1 := h.i1
  have i2 := h.i2
  have hce := Lib.hid h.ce
  have hkk := Lib.hid h.kk
  clear h hN hE
  obtain ⟨fs, hfs, rfl⟩ := frame_open a hsz hde
  clear hsz hde
  replace v1 := hfs _ _ v1
  replace v5 := hfs _ _ v5
  replace v6 := hfs _ _ v6
  replace v7 := hfs _ _ v7
  replace v8 := hfs _ _ v8
  replace v9 := hfs _ _ v9
  replace v10 := hfs _ _ v10
  replace v11 := hfs _ _ v11
  replace v12 := hfs _ _ v12
  replace v13 := hfs _ _ v13
  replace v14 := hfs _ _ v14
  replace v15 := hfs _ _ v15
  replace v16 := hfs _ _ v16
  replace v17 := hfs _ _ v17
  replace v18 := hfs _ _ v18
  replace v19 := hfs _ _ v19
  replace v132 := hfs _ _ v132
  clear hfs
  simp only [v1, v5, v6, v7, v8, v9, v10, v11, v12, v13, v14, v15, v16, v17, v18, v19, v132]
  clear v1 v5 v6 v7 v8 v9 v10 v11 v12 v13 v14 v15 v16 v17 v18 v19 v132
  unfold PlayWp
  conv => arg 2; whnf
  have rb := hdC L.out
  have t0 := rb.cell 0; have ft0 := rb.frozen 0; have t1 := rb.cell 1; have ft1 := rb.frozen 1; simp only [List.getElem?_toArray, List.getElem?_cons_zero, List.getElem?_cons_succ] at t0 t1
  clear rb
  go_wp2_with fail
  refine Calls.mono (slots_take Z.w0.heap.size X.t X.ph X.pi X.b X.n X.lh X.fh X.li X.fi X.sh X.si X.f Z.w0 w _ D.c0 D.c1 hI.out.cells_ok (PM.toS.1 L.out)) ?_
  rintro e w2 ⟨v, e0, fi', si', rfl, q1, q2⟩
  obtain ⟨rfl, hbad, hgood⟩ := hI.out.take_ hGI.out q1
  have HB := Lib.hid hbad
  have HG := Lib.hid hgood
  by_cases he : D.g = 0
  · rw [if_pos he] at q2
    have S2 := Lib.hid ((PM.toS (X := { X with fi := fi', si := si', f := upd X.f v.a none })).2 q2)
    obtain ⟨q, hq, hlt, hcl, hinv⟩ := HG.out he
    have HINV := Lib.hid hinv
    obtain ⟨Ac, cc, hvc, hcc, hAc⟩ := int_form (pmC S2.out)
    obtain ⟨gc, hgc, _⟩ := hAc (by simp only; omega)
    simp only at hvc hcc
    rw [hgc] at hvc
    have m6 := pm6 S2.out
    have hTC := pmC S2.out
    simp only [hvc] at m6 hTC
    have y0 := int_cell hTC hcl
    have s1 : (0 : Int) ≤ (q : Int) := by omega
    have s2 : (q : Int) < X.cl.length := by omega
    clear q1 q2 hbad hgood hinv HB HG hTC hAc t0 t1 ft0 ft1
    rw [hq, he]
    go_upto_region 56 with fail
    have HF : Hid (∀ W, Led Z.w0.heap.size Z.w0 W ({ X with fi := fi', si := si', f := upd X.f v.a none }.mem ++ D.es) → W.cell? ⟨X.m, 1, none⟩ = some (.pointer (some ⟨X.mi, 0, none⟩)) ∧ W.cell? ⟨D.cb, 0, none⟩ = some (.int .i64 D.c0) ∧ W.cell? ⟨D.cb, 1, none⟩ = some (.int .i64 D.c1)) := Lib.hid fun W hl => have b := hdC hl; have m := pm1 hl; ⟨m, b.cell 0, b.cell 1⟩
    have HS : Hid (∀ W, Chg [] w2 W → W.cell? ⟨X.m, 1, none⟩ = some (.pointer (some ⟨X.mi, 0, none⟩)) ∧ W.cell? ⟨D.cb, 0, none⟩ = some (.int .i64 D.c0) ∧ W.cell? ⟨D.cb, 1, none⟩ = some (.int .i64 D.c1)) := Lib.hid fun W hW => HF.out W (S2.out.later (hW.below (by simp) (Nat.le_refl _)))
    obtain ⟨b1, b2, _⟩ := pm_small hI.out L.out
    go_region_held3 (fun wx => wx.cell? ⟨X.m, 1, none⟩ = some (.pointer (some ⟨X.mi, 0, none⟩)) ∧ wx.cell? ⟨D.cb, 0, none⟩ = some (.int .i64 D.c0) ∧ wx.cell? ⟨D.cb, 1, none⟩ = some (.int .i64 D.c1)) (first | (refine HS.out _ ?_; (repeat' first | with_reducible exact Chg.refl _ _ | with_reducible refine Chg.drew ?_ | with_reducible refine Chg.drewN ?_ _ | with_reducible refine Chg.alloc ?_ _ | with_reducible refine Chg.setCell ?_ ?_ _ | (left; simp; done) | (right; exact Nat.le_refl _) | (right; dsimp only; omega)); done) | (refine HS2.out _ ?_; (repeat' first | with_reducible exact Chg.refl _ _ | with_reducible refine Chg.drew ?_ | with_reducible refine Chg.drewN ?_ _ | with_reducible refine Chg.alloc ?_ _ | with_reducible refine Chg.setCell ?_ ?_ _ | (left; simp; done) | (right; exact Nat.le_refl _) | (right; dsimp only; omega)); done)) ((go_at_call 41; refine Calls.mono (ref_give Z.w0.heap.size X.mi X.ig X.ii X.iv X.ib X.ri Z.w0 _ _ D.c0 D.c1 ((PM.toI (X := { X with fi := fi', si := si', f := upd X.f v.a none })).1 S2.out.drew) b1 b2) ?_; rintro e w3 ⟨u3, e3, ib3, r3, rfl, q1, q2⟩; have S3 := Lib.hid ((PM.toI (X := { { X with fi := fi', si := si', f := upd X.f v.a none } with ib := ib3, ri := r3 })).2 q2); have Q3 := Lib.hid q1; have HS2 : Hid (∀ W, Chg [] w3 W → W.cell? ⟨X.m, 1, none⟩ = some (.pointer (some ⟨X.mi, 0, none⟩)) ∧ W.cell? ⟨D.cb, 0, none⟩ = some (.int .i64 D.c0) ∧ W.cell? ⟨D.cb, 1, none⟩ = some (.int .i64 D.c1)) := Lib.hid (fun W hW => have hl := S3.out.later (hW.below (by simp) (Nat.le_refl _)); have b := hdC hl; have m := pm1 hl; ⟨m, b.cell 0, b.cell 1⟩); clear q1 q2))
    go_wp2_with fail
    exact HN.out { X with fi := fi', ib := ib3, si := si', ri := r3, f := upd X.f v.a none } D _ _ rfl ⟨⟨rfl, rfl, rfl, rfl, rfl, rfl, rfl, rfl⟩, rfl, rfl, rfl, k1, k2, h1, by omega, i1, by omega, (HINV.out _ _ _ fi' ib3 Q3.out).mono, hce.out, S3.out⟩
  · rw [if_neg he] at q2
    obtain ⟨rfl, hr⟩ := HB.out he
    have S2 := Lib.hid ((PM.toS (X := { X with fi := fi', si := X.si, f := X.f })).2 q2)
    have HR := Lib.hid hr
    have hd : (D.g == 0) = false := by rw [beq_eq_false_iff_ne]; exact he
    clear q1 q2 hbad hgood hr HB HG t0 t1 ft0 ft1
    go_upto_region 56 with fail
    have HF : Hid (∀ W, Led Z.w0.heap.size Z.w0 W ({ X with fi := fi', si := X.si, f := X.f }.mem ++ D.es) → W.cell? ⟨X.m, 1, none⟩ = some (.pointer (some ⟨X.mi, 0, none⟩)) ∧ W.cell? ⟨D.cb, 0, none⟩ = some (.int .i64 D.c0) ∧ W.cell? ⟨D.cb, 1, none⟩ = some (.int .i64 D.c1)) := Lib.hid fun W hl => have b := hdC hl; have m := pm1 hl; ⟨m, b.cell 0, b.cell 1⟩
    have HS : Hid (∀ W, Chg [] w2 W → W.cell? ⟨X.m, 1, none⟩ = some (.pointer (some ⟨X.mi, 0, none⟩)) ∧ W.cell? ⟨D.cb, 0, none⟩ = some (.int .i64 D.c0) ∧ W.cell? ⟨D.cb, 1, none⟩ = some (.int .i64 D.c1)) := Lib.hid fun W hW => HF.out W (S2.out.later (hW.below (by simp) (Nat.le_refl _)))
    obtain ⟨b1, b2, _⟩ := pm_small hI.out L.out
    go_region_held3 (fun wx => wx.cell? ⟨X.m, 1, none⟩ = some (.pointer (some ⟨X.mi, 0, none⟩)) ∧ wx.cell? ⟨D.cb, 0, none⟩ = some (.int .i64 D.c0) ∧ wx.cell? ⟨D.cb, 1, none⟩ = some (.int .i64 D.c1)) (first | (refine HS.out _ ?_; (repeat' first | with_reducible exact Chg.refl _ _ | with_reducible refine Chg.drew ?_ | with_reducible refine Chg.drewN ?_ _ | with_reducible refine Chg.alloc ?_ _ | with_reducible refine Chg.setCell ?_ ?_ _ | (left; simp; done) | (right; exact Nat.le_refl _) | (right; dsimp only; omega)); done) | (refine HS2.out _ ?_; (repeat' first | with_reducible exact Chg.refl _ _ | with_reducible refine Chg.drew ?_ | with_reducible refine Chg.drewN ?_ _ | with_reducible refine Chg.alloc ?_ _ | with_reducible refine Chg.setCell ?_ ?_ _ | (left; simp; done) | (right; exact Nat.le_refl _) | (right; dsimp only; omega)); done)) ((go_at_call 41; refine Calls.mono (ref_give Z.w0.heap.size X.mi X.ig X.ii X.iv X.ib X.ri Z.w0 _ _ D.c0 D.c1 ((PM.toI (X := { X with fi := fi', si := X.si, f := X.f })).1 S2.out.drew) b1 b2) ?_; rintro e w3 ⟨u3, e3, ib3, r3, rfl, q1, q2⟩; have S3 := Lib.hid ((PM.toI (X := { { X with fi := fi', si := X.si, f := X.f } with ib := ib3, ri := r3 })).2 q2); have Q3 := Lib.hid q1; have HS2 : Hid (∀ W, Chg [] w3 W → W.cell? ⟨X.m, 1, none⟩ = some (.pointer (some ⟨X.mi, 0, none⟩)) ∧ W.cell? ⟨D.cb, 0, none⟩ = some (.int .i64 D.c0) ∧ W.cell? ⟨D.cb, 1, none⟩ = some (.int .i64 D.c1)) := Lib.hid (fun W hW => have hl := S3.out.later (hW.below (by simp) (Nat.le_refl _)); have b := hdC hl; have m := pm1 hl; ⟨m, b.cell 0, b.cell 1⟩); clear q1 q2))
    obtain rfl := HR.out _ _ _ Q3.out
    go_wp2_with fail
    exact HN.out { X with fi := fi', ib := ib3 } D _ _ rfl ⟨⟨rfl, rfl, rfl, rfl, rfl, rfl, rfl, rfl⟩, rfl, rfl, rfl, k1, k2, h1, by omega, i1, by omega, (show PInv _ _ from ⟨hI.out.mono.simH, hI.out.mono.simI, hI.out.mono.lrt, hI.out.mono.lnn, hI.out.mono.lrf, hI.out.mono.lin, hI.out.mono.lkd, hI.out.mono.lcl, hI.out.mono.nk, hI.out.mono.ref, hI.out.mono.own, hI.out.mono.map, hI.out.mono.gens, hI.out.mono.cells⟩), hce.out, S3.out⟩
end Go.Proofs.Ytognmhgdegpdiaa
