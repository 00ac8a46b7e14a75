import Derived.Test.YtognmhgdegpdiaaSlotsPlH
/- Handles against plain pools: End. -/
namespace Go.Proofs.Ytognmhgdegpdiaa
open Go.RowKit
set_option linter.unusedVariables false
set_option linter.unusedSimpArgs false
set_option maxRecDepth 100000

set_option maxHeartbeats 16000000 in
theorem pl_end (Z : PB) (X : PM) (D : HD) (a : Act) (w : World) (Q : Exit → Act → World → Prop) (h : AtSw Z X D a w)  (hN : ∀ X' D' a w, D'.k = D.k → AtEnd Z X' D' a w → Q .normal a w) (hE : ∀ X' D' a w, D'.k = D.k → AtEnd Z X' D' a w → Q (.exit 1) a w) :
    PlayWp (p2 ++ [0, 1, 1, 1, 1, 1, 1, 1, 1, 1, 0]) Q a w := by
  have hsz := h.fr.size
  have hde := h.fr.defers
  have v1 := h.fr.s1
  have v5 := h.fr.s5
  have v6 := h.fr.s6
  have v7 := h.fr.s7
  have v8 := h.fr.s8
  have v9 := h.fr.s9
  have v10 := h.s10
  have v11 := h.s11
  have v12 := h.s12
  have v13 := h.s13
  have v14 := h.s14
  have v15 := h.s15
  have v16 := h.s16
  have v17 := h.s17
  have v18 := h.s18
  have v19 := h.s19
  have v132 := h.s132
  have hI := Lib.hid h.inv
  have hGH := Lib.hid h.gh
  have hGO := Lib.hid h.go
  have hGI := Lib.hid h.gi
  have L := Lib.hid h.led
  have HN := Lib.hid hN
  have HE := Lib.hid hE
  have k1 := h.k1
  have k2 := h.k2
  have h1 := h.h1
  have h2 := h.h2
  have i1 := h.i1
  have i2 := h.i2
  have hce := Lib.hid h.ce
  have hkk := Lib.hid h.kk
  clear h hN hE
  obtain ⟨fs, hfs, rfl⟩ := frame_open a hsz hde
  clear hsz hde
  replace v1 := hfs _ _ v1
  replace v5 := hfs _ _ v5
  replace v6 := hfs _ _ v6
  replace v7 := hfs _ _ v7
  replace v8 := hfs _ _ v8
  replace v9 := hfs _ _ v9
  replace v10 := hfs _ _ v10
  replace v11 := hfs _ _ v11
  replace v12 := hfs _ _ v12
  replace v13 := hfs _ _ v13
  replace v14 := hfs _ _ v14
  replace v15 := hfs _ _ v15
  replace v16 := hfs _ _ v16
  replace v17 := hfs _ _ v17
  replace v18 := hfs _ _ v18
  replace v19 := hfs _ _ v19
  replace v132 := hfs _ _ v132
  clear hfs
  simp only [v1, v5, v6, v7, v8, v9, v10, v11, v12, v13, v14, v15, v16, v17, v18, v19, v132]
  clear v1 v5 v6 v7 v8 v9 v10 v11 v12 v13 v14 v15 v16 v17 v18 v19 v132
  unfold PlayWp
  conv => arg 2; whnf
  have rb := hdH L.out
  have t0 := rb.cell 0; have ft0 := rb.frozen 0; have t1 := rb.cell 1; have ft1 := rb.frozen 1; simp only [List.getElem?_toArray, List.getElem?_cons_zero, List.getElem?_cons_succ] at t0 t1
  clear rb
  go_wp2_with fail
  refine Calls.mono (slots_end Z.w0.heap.size X.t X.ph X.pi X.b X.n X.lh X.fh X.li X.fi X.sh X.si X.f Z.w0 w _ D.h0 D.h1 hI.out.gens_ok hI.out.cells_ok (PM.toS.1 L.out)) ?_
  rintro e w2 ⟨e0, fh', fi', sh', si', f', rfl, q1, q2⟩
  obtain ⟨rfl, hbad, hgood⟩ := hI.out.end_ hGH.out q1
  have S2 := Lib.hid ((PM.toS (X := { X with fh := fh', fi := fi', sh := sh', si := si', f := f' })).2 q2)
  have HB := Lib.hid hbad
  have HG := Lib.hid hgood
  clear q1 q2 hbad hgood t0 t1 ft0 ft1
  by_cases he : D.e = 0
  · obtain ⟨n, T, hu, hth, hTl, hs1, hf1, hlast⟩ := HG.out he
    have HLAST := Lib.hid hlast
    have HTL := Lib.hid hTl
    have HS1 := Lib.hid hs1
    have HF1 := Lib.hid hf1
    obtain ⟨b1, b2, b3, b4, b5, _⟩ := pm_small hI.out L.out
    have HW := Lib.hid (hI.out.simI.wf (pmWF L.out).2)
    have HC := Lib.hid (pl_there0 Z.w0.heap.size { X with fh := fh', fi := fi', sh := sh', si := si', f := f' } (n : Int) Z.w0 w2 D.es b1 (fun j y hy ht => by obtain ⟨x, q, a, _, _, _, hg, hq, _, hin, _⟩ := hI.out.item_r hy ht; exact ⟨q, a, hg, hq, hin⟩) S2.out)
    have hth2 : thereQ { X with fh := fh', fi := fi', sh := sh', si := si', f := f' } (n : Int) (allTo X.ri.l X.ri.l.length) = T := hth
    simp only [hth2] at HC
    have hle : T.length ≤ X.ri.l.length := by rw [← hth]; exact Nat.le_trans (thereQ_le _ _ _) (allTo_le _ _)
    clear hlast hTl hs1 hf1 hth hth2 HB HG S2
    rw [he, hu]
    go_wp2_with fail
    refine Calls.mono HC.out ?_
    rintro e w3 ⟨v, rfl, q1⟩
    have hTT : TabIs w3 0 27 2 v (rowsR T) := q1.at_ 21 rfl
    obtain ⟨At, ct, rfl, hct, hAt⟩ := hTT.form
    obtain ⟨nt, hnt⟩ : ∃ n, T.length = n := ⟨_, rfl⟩
    have hrl : (rowsR T).length = nt := by rw [rowsR, List.length_map, hnt]
    rw [hrl] at hct hAt q1 ⊢
    have S3 : Hid (Led Z.w0.heap.size Z.w0 w3 ({ X with fh := fh', fi := fi', sh := sh', si := si', f := f', ib := X.ib, ri := X.ri }.mem ++ tabE 27 2 (.slice At nt ct) (rowsR T) :: D.es)) := Lib.hid q1
    have HNT := Lib.hid hnt
    clear q1 hTT HC
    have hrlen : X.ri.l.length = X.ri.l.length := rfl
    have P0 : Hid (PInv D.k { X with si := (endS X T 0).1, f := (endS X T 0).2, ri := X.ri }) := Lib.hid (hI.out.vals rfl)
    go_wp2_with fail
    go_loopw [39] (fun i wx => ∃ (q : Nat) (rj : PSt Int) (ib : Value), q ≤ nt ∧ i = .int .i64 q ∧ rj.l.length ≤ 65536 ∧ Hid rj.WF ∧ Hid (PInv D.k { X with si := (endS X T q).1, f := (endS X T q).2, ri := rj }) ∧ Hid (Led Z.w0.heap.size Z.w0 wx ({ X with fh := fh', fi := fi', sh := sh', si := si', f := f', ib := ib, ri := rj }.mem ++ tabE 27 2 (.slice At nt ct) (rowsR T) :: D.es))) (fun i _ => nt - (intOf i).toNat)
    case atStart => exact ⟨0, X.ri, X.ib, by omega, rfl, b1, HW, P0, S3⟩
    case round =>
      clear S3 P0 HW
      obtain ⟨q, rj, ib, hq, rfl, hrj, HW, PJ, S⟩ := hrel
      by_cases hlt : q < nt
      · obtain ⟨r, hr⟩ : ∃ r, T[q]? = some r := ⟨_, List.getElem?_eq_getElem (by omega)⟩
        have HR := Lib.hid hr
        clear hr
        obtain ⟨gt, rfl, hgt0, _⟩ := hAt (by omega)
        have s1 : (0 : Int) ≤ (q : Int) := by omega
        have s2 : (q : Int) < nt := by omega
        have hfr : rj.free.length ≤ 65536 := Nat.le_trans HW.out.free_le hrj
        go_upto_region 82 with fail
        have HS : Hid (∀ W, Chg [] wr W → W.cell? ⟨X.m, 1, none⟩ = some (.pointer (some ⟨X.mi, 0, none⟩)) ∧ W.cell? ⟨gt, q * 2, none⟩ = some (.int .i64 r.1) ∧ W.cell? ⟨gt, q * 2 + 1, none⟩ = some (.int .i64 r.2)) := Lib.hid fun W hW => have hl := S.out.later (hW.below (by simp) (Nat.le_refl _)); have hT := (show TabIs W 0 27 2 (.slice (some ⟨gt, 0, none⟩) nt ct) (rowsR T) from hl.at_ 21 rfl); have m := pm1 hl; ⟨m, hT.cell (j := 0) (r := [.int .i64 r.1, .int .i64 r.2]) (by rw [rowsR, List.getElem?_map, HR.out]; rfl) rfl, hT.cell (j := 1) (r := [.int .i64 r.1, .int .i64 r.2]) (by rw [rowsR, List.getElem?_map, HR.out]; rfl) rfl⟩
        go_region_held3 (fun wx => wx.cell? ⟨X.m, 1, none⟩ = some (.pointer (some ⟨X.mi, 0, none⟩)) ∧ wx.cell? ⟨gt, q * 2, none⟩ = some (.int .i64 r.1) ∧ wx.cell? ⟨gt, q * 2 + 1, none⟩ = some (.int .i64 r.2)) (first | (refine HS.out _ ?_; (repeat' first | with_reducible exact Chg.refl _ _ | with_reducible refine Chg.drew ?_ | with_reducible refine Chg.drewN ?_ _ | with_reducible refine Chg.alloc ?_ _ | with_reducible refine Chg.setCell ?_ ?_ _ | (left; simp; done) | (right; exact Nat.le_refl _) | (right; dsimp only; omega)); done) | (refine HS2.out _ ?_; (repeat' first | with_reducible exact Chg.refl _ _ | with_reducible refine Chg.drew ?_ | with_reducible refine Chg.drewN ?_ _ | with_reducible refine Chg.alloc ?_ _ | with_reducible refine Chg.setCell ?_ ?_ _ | (left; simp; done) | (right; exact Nat.le_refl _) | (right; dsimp only; omega)); done)) ((go_at_call 41; refine Calls.mono (ref_give Z.w0.heap.size X.mi X.ig X.ii X.iv ib rj Z.w0 _ _ r.1 r.2 ((PM.toI (X := { X with fh := fh', fi := fi', sh := sh', si := si', f := f', ib := ib, ri := rj })).1 S.out.drew) hrj hfr) ?_; rintro e w4 ⟨u4, e4, ib4, r4, rfl, q1, q2⟩; have S4 := Lib.hid ((PM.toI (X := { X with fh := fh', fi := fi', sh := sh', si := si', f := f', ib := ib4, ri := r4 })).2 q2); have E4 := Lib.hid (PJ.out.end_step HTL.out HR.out HW.out q1 X.ib); have HS2 : Hid (∀ W, Chg [] w4 W → W.cell? ⟨X.m, 1, none⟩ = some (.pointer (some ⟨X.mi, 0, none⟩)) ∧ W.cell? ⟨gt, q * 2, none⟩ = some (.int .i64 r.1) ∧ W.cell? ⟨gt, q * 2 + 1, none⟩ = some (.int .i64 r.2)) := Lib.hid (fun W hW => have hl := S4.out.later (hW.below (by simp) (Nat.le_refl _)); have hT := (show TabIs W 0 27 2 (.slice (some ⟨gt, 0, none⟩) nt ct) (rowsR T) from hl.at_ 21 rfl); have m := pm1 hl; ⟨m, hT.cell (j := 0) (r := [.int .i64 r.1, .int .i64 r.2]) (by rw [rowsR, List.getElem?_map, HR.out]; rfl) rfl, hT.cell (j := 1) (r := [.int .i64 r.1, .int .i64 r.2]) (by rw [rowsR, List.getElem?_map, HR.out]; rfl) rfl⟩); clear q1 q2))
        obtain ⟨e41, e42, e43⟩ := E4.out
        have E41 := Lib.hid e41
        have E42 := Lib.hid e42
        clear e41 e42 E4 PJ HW S HS HS2
        go_wp2_with fail
        go_roundw
        case rel => exact ⟨q + 1, r4, ib4, by omega, by go_num, by omega, E42, E41, S4⟩
        case measure => simp [intOf]; omega
      · obtain rfl : q = nt := by omega
        have PJ2 := PJ.out
        unfold endS at PJ2
        rw [List.take_of_length_le (by omega), ← HS1.out, ← HF1.out] at PJ2
        have PE := Lib.hid PJ2
        clear PJ2 PJ
        have S5 := Lib.hid (led_drop (A := { X with fh := fh', fi := fi', sh := sh', si := si', f := f', ib := ib, ri := rj }.mem) S.out)
        clear S
        go_upto_region 83 with fail
        generalize wr = w5 at S5 ⊢
        have HS : Hid (∀ W, Chg [] w5 W → W.cell? ⟨X.m, 0, none⟩ = some (.pointer (some ⟨X.mh, 0, none⟩)) ∧ W.cell? ⟨D.hb, 0, none⟩ = some (.int .i64 D.h0) ∧ W.cell? ⟨D.hb, 1, none⟩ = some (.int .i64 D.h1)) := Lib.hid fun W hW => have hl := S5.out.later (hW.below (by simp) (Nat.le_refl _)); have b := hdH hl; have m := pm0 hl; ⟨m, b.cell 0, b.cell 1⟩
        go_region_held3 (fun wx => wx.cell? ⟨X.m, 0, none⟩ = some (.pointer (some ⟨X.mh, 0, none⟩)) ∧ wx.cell? ⟨D.hb, 0, none⟩ = some (.int .i64 D.h0) ∧ wx.cell? ⟨D.hb, 1, none⟩ = some (.int .i64 D.h1)) (first | (refine HS.out _ ?_; (repeat' first | with_reducible exact Chg.refl _ _ | with_reducible refine Chg.drew ?_ | with_reducible refine Chg.drewN ?_ _ | with_reducible refine Chg.alloc ?_ _ | with_reducible refine Chg.setCell ?_ ?_ _ | (left; simp; done) | (right; exact Nat.le_refl _) | (right; dsimp only; omega)); done) | (refine HS2.out _ ?_; (repeat' first | with_reducible exact Chg.refl _ _ | with_reducible refine Chg.drew ?_ | with_reducible refine Chg.drewN ?_ _ | with_reducible refine Chg.alloc ?_ _ | with_reducible refine Chg.setCell ?_ ?_ _ | (left; simp; done) | (right; exact Nat.le_refl _) | (right; dsimp only; omega)); done)) ((go_at_call 41; refine Calls.mono (ref_give Z.w0.heap.size X.mh X.hg X.hi X.hv X.hb X.rh Z.w0 _ _ D.h0 D.h1 ((PM.toH (X := { X with fh := fh', fi := fi', sh := sh', si := si', f := f', ib := ib, ri := rj })).1 S5.out.drew) b4 b5) ?_; rintro e w6 ⟨u3, e3, hb3, r3, rfl, q1, q2⟩; have S7 := Lib.hid ((PM.toH (X := { X with fh := fh', fi := fi', sh := sh', si := si', f := f', ib := ib, ri := rj, hb := hb3, rh := r3 })).2 q2); have Q3 := Lib.hid q1; have HS2 : Hid (∀ W, Chg [] w6 W → W.cell? ⟨X.m, 0, none⟩ = some (.pointer (some ⟨X.mh, 0, none⟩)) ∧ W.cell? ⟨D.hb, 0, none⟩ = some (.int .i64 D.h0) ∧ W.cell? ⟨D.hb, 1, none⟩ = some (.int .i64 D.h1)) := Lib.hid (fun W hW => have hl := S7.out.later (hW.below (by simp) (Nat.le_refl _)); have b := hdH hl; have m := pm0 hl; ⟨m, b.cell 0, b.cell 1⟩); clear q1 q2))
        have HINV := Lib.hid ((HLAST.out rj _ _ r3 PE.out Q3.out).mono.vals (X' := { X with fh := fh', fi := fi', sh := sh', si := si', f := f', ib := ib, ri := rj, hb := hb3, rh := r3 }) rfl)
        go_wp2_with fail
        exact HN.out { X with fh := fh', fi := fi', sh := sh', si := si', f := f', ib := ib, ri := rj, hb := hb3, rh := r3 } D _ _ rfl ⟨⟨rfl, rfl, rfl, rfl, rfl, rfl, rfl, rfl⟩, rfl, rfl, rfl, k1, k2, h1, by omega, i1, by omega, HINV.out, hce.out, S7.out⟩
  · have hd : (D.e == 0) = false := by rw [beq_eq_false_iff_ne]; exact he
    obtain ⟨rfl, rfl, rfl⟩ := HB.out he
    have HINV := Lib.hid (hI.out.mono.vals (X' := { X with fh := fh', fi := fi' }) rfl)
    go_wp2_with fail
    exact HN.out { X with fh := fh', fi := fi' } D _ _ rfl ⟨⟨rfl, rfl, rfl, rfl, rfl, rfl, rfl, rfl⟩, rfl, rfl, rfl, k1, k2, h1, by omega, i1, by omega, HINV.out, hce.out, S2.out⟩
end Go.Proofs.Ytognmhgdegpdiaa
