import Derived.Test.YtognmhgdegpdiaaSlotsPlFG
/- Handles against plain pools: Root. -/
namespace Go.Proofs.Ytognmhgdegpdiaa
open Go.RowKit
set_option linter.unusedVariables false
set_option linter.unusedSimpArgs false
set_option maxRecDepth 100000

set_option maxHeartbeats 16000000 in
theorem pl_root (Z : PB) (X : PM) (D : HD) (a : Act) (w : World) (Q : Exit → Act → World → Prop) (h : AtSw Z X D a w)  (hN : ∀ X' D' a w, D'.k = D.k → AtEnd Z X' D' a w → Q .normal a w) (hE : ∀ X' D' a w, D'.k = D.k → AtEnd Z X' D' a w → Q (.exit 1) a w) :
    PlayWp (p2 ++ [0, 1, 1, 1, 1, 1, 1, 1, 1, 1, 1, 1, 0]) Q a w := by
  have hsz := h.fr.size
  have hde := h.fr.defers
  have v1 := h.fr.s1
  have v5 := h.fr.s5
  have v6 := h.fr.s6
  have v7 := h.fr.s7
  have v8 := h.fr.s8
  have v9 := h.fr.s9
  have v10 := h.s10
  have v11 := h.s11
  have v12 := h.s12
  have v13 := h.s13
  have v14 := h.s14
  have v15 := h.s15
  have v16 := h.s16
  have v17 := h.s17
  have v18 := h.s18
  have v19 := h.s19
  have v132 := h.s132
  have hI := Lib.hid h.inv
  have hGH := Lib.hid h.gh
  have hGO := Lib.hid h.go
  have hGI := Lib.hid h.gi
  have L := Lib.hid h.led
  have HN := Lib.hid hN
  have HE := Lib.hid hE
  have k1 := h.k1
  have k2 := h.k2
  have h1 := h.h1
  have h2 := h.h2
  have i1 := h.i1
  have i2 := h.i2
  have hce := Lib.hid h.ce
  have hkk := Lib.hid h.kk
  clear h hN hE
  obtain ⟨fs, hfs, rfl⟩ := frame_open a hsz hde
  clear hsz hde
  replace v1 := hfs _ _ v1
  replace v5 := hfs _ _ v5
  replace v6 := hfs _ _ v6
  replace v7 := hfs _ _ v7
  replace v8 := hfs _ _ v8
  replace v9 := hfs _ _ v9
  replace v10 := hfs _ _ v10
  replace v11 := hfs _ _ v11
  replace v12 := hfs _ _ v12
  replace v13 := hfs _ _ v13
  replace v14 := hfs _ _ v14
  replace v15 := hfs _ _ v15
  replace v16 := hfs _ _ v16
  replace v17 := hfs _ _ v17
  replace v18 := hfs _ _ v18
  replace v19 := hfs _ _ v19
  replace v132 := hfs _ _ v132
  clear hfs
  simp only [v1, v5, v6, v7, v8, v9, v10, v11, v12, v13, v14, v15, v16, v17, v18, v19, v132]
  clear v1 v5 v6 v7 v8 v9 v10 v11 v12 v13 v14 v15 v16 v17 v18 v19 v132
  unfold PlayWp
  conv => arg 2; whnf
  have rb := hdH L.out
  have t0 := rb.cell 0; have ft0 := rb.frozen 0; have t1 := rb.cell 1; have ft1 := rb.frozen 1; simp only [List.getElem?_toArray, List.getElem?_cons_zero, List.getElem?_cons_succ] at t0 t1
  have ra := hdAsk L.out
  have x0 := ra.cell 0; have fx0 := ra.frozen 0; have x1 := ra.cell 1; have fx1 := ra.frozen 1; have x2 := ra.cell 2; have fx2 := ra.frozen 2; have x3 := ra.cell 3; have fx3 := ra.frozen 3; have x4 := ra.cell 4; have fx4 := ra.frozen 4; have x5 := ra.cell 5; have fx5 := ra.frozen 5; have x6 := ra.cell 6; have fx6 := ra.frozen 6; have x7 := ra.cell 7; have fx7 := ra.frozen 7; simp only [List.getElem?_toArray, List.getElem?_cons_zero, List.getElem?_cons_succ] at x0 x1 x2 x3 x4 x5 x6 x7
  clear ra rb
  go_wp2_with fail
  refine Calls.mono (slots_root Z.w0.heap.size X.t X.ph X.pi X.b X.n X.lh X.fh X.li X.fi X.sh X.si X.f Z.w0 w _ D.h0 D.h1 D.ce D.kk (PM.toS.1 L.out)) ?_
  rintro e w2 ⟨e0, sh', rfl, q1, q2⟩
  obtain ⟨rfl, hbad, hgood⟩ := hI.out.root_ hGH.out q1
  have S2 := Lib.hid ((PM.toS (X := { X with sh := sh' })).2 q2)
  have HB := Lib.hid hbad
  have HG := Lib.hid hgood
  clear q1 q2 hbad hgood t0 t1 ft0 ft1 x0 x1 x2 x3 x4 x5 x6 x7 fx0 fx1 fx2 fx3 fx4 fx5 fx6 fx7
  by_cases he : D.e = 0
  · obtain ⟨q, hq, hlt, hinv⟩ := HG.out he
    obtain ⟨Ar, cr, hvr, hcr, hAr⟩ := int_form (pmR S2.out)
    obtain ⟨An, cn, hvn, hcn, hAn⟩ := int_form (pmN S2.out)
    have hlr := hI.out.lrt
    have hln := hI.out.lnn
    obtain ⟨gr, hgr, hgr0⟩ := hAr (by simp only; omega)
    obtain ⟨gn, hgn, hgn0⟩ := hAn (by simp only; omega)
    simp only at hvr hvn hcr hcn
    rw [hgr] at hvr
    rw [hgn] at hvn
    obtain ⟨rq, hrq⟩ : ∃ z, X.rt[q]? = some z := ⟨_, List.getElem?_eq_getElem (by omega)⟩
    obtain ⟨nq, hnq⟩ : ∃ z, X.nn[q]? = some z := ⟨_, List.getElem?_eq_getElem (by omega)⟩
    have hTR := pmR S2.out
    have hTN := pmN S2.out
    simp only [hvr] at hTR
    simp only [hvn] at hTN
    have y0 := int_cell hTR hrq
    have fy0 := hTR.frozen q
    have z0 := int_cell hTN hnq
    have fz0 := hTN.frozen q
    have hA1 : gr ≠ gn := fun e => S2.out.apart 16 17 rfl rfl (by decide) gr (by simp [tabE, hvr, Value.ownBlock]) (by simp [tabE, hvn, Value.ownBlock, e])
    have hA2 : X.m ≠ gr := fun e => S2.out.apart 14 16 rfl rfl (by decide) X.m (by simp [blkE]) (by simp [tabE, hvr, Value.ownBlock, e])
    have hA3 : X.m ≠ gn := fun e => S2.out.apart 14 17 rfl rfl (by decide) X.m (by simp [blkE]) (by simp [tabE, hvn, Value.ownBlock, e])
    have hA4 : D.xb ≠ gr := fun e => S2.out.apart 23 16 rfl rfl (by decide) D.xb (by simp [blkE, HD.ask]) (by simp [tabE, hvr, Value.ownBlock, e])
    have hA5 : D.xb ≠ gn := fun e => S2.out.apart 23 17 rfl rfl (by decide) D.xb (by simp [blkE, HD.ask]) (by simp [tabE, hvn, Value.ownBlock, e])
    have hA6 := hA1.symm
    have lm := (pmBlk S2.out).lt
    have lx := (hdAsk S2.out).lt
    have c3 := pm3 S2.out
    have c4 := pm4 S2.out
    have ra := hdAsk S2.out
    simp only [hvr] at c3
    simp only [hvn] at c4
    have HS : Hid (∀ W, Chg [gr, gn] w2 W → W.cell? ⟨X.m, 3, none⟩ = some (.slice (some ⟨gr, 0, none⟩) X.rt.length cr) ∧ W.cell? ⟨X.m, 4, none⟩ = some (.slice (some ⟨gn, 0, none⟩) X.nn.length cn) ∧ W.cell? ⟨D.xb, 5, none⟩ = some (.int .i64 D.ce) ∧ W.cell? ⟨D.xb, 1, none⟩ = some (.int .i64 D.kk)) :=
      Lib.hid fun W hW => ⟨(hW.cell (p := ⟨X.m, 3, none⟩) lm (by simp [hA2, hA3])).trans c3, (hW.cell (p := ⟨X.m, 4, none⟩) lm (by simp [hA2, hA3])).trans c4, (hW.cell (p := ⟨D.xb, 5, none⟩) lx (by simp [hA4, hA5])).trans (ra.cell 5), (hW.cell (p := ⟨D.xb, 1, none⟩) lx (by simp [hA4, hA5])).trans (ra.cell 1)⟩
    have s1 : (0 : Int) ≤ (q : Int) := by omega
    have s2 : (q : Int) < X.rt.length := by omega
    have s3 : (q : Int) < X.nn.length := by omega
    have S3 := Lib.hid (led_int_at (led_int_at S2.out.drew (i := 16) rfl hvr hrq D.ce) (i := 17) rfl hvn hnq D.kk)
    have HINV := Lib.hid hinv.mono
    clear hTR hTN c3 c4 ra hinv HG HB hAr hAn hrq hnq
    rw [hq, he]
    go_upto_region 88 with fail
    go_region_held3 (fun wx => wx.cell? ⟨X.m, 3, none⟩ = some (.slice (some ⟨gr, 0, none⟩) X.rt.length cr) ∧ wx.cell? ⟨X.m, 4, none⟩ = some (.slice (some ⟨gn, 0, none⟩) X.nn.length cn) ∧ wx.cell? ⟨D.xb, 5, none⟩ = some (.int .i64 D.ce) ∧ wx.cell? ⟨D.xb, 1, none⟩ = some (.int .i64 D.kk)) ((refine HS.out _ ?_; (repeat' first | with_reducible exact Chg.refl _ _ | with_reducible refine Chg.drew ?_ | with_reducible refine Chg.drewN ?_ _ | with_reducible refine Chg.alloc ?_ _ | with_reducible refine Chg.setCell ?_ ?_ _ | (left; simp; done) | (right; exact Nat.le_refl _) | (right; dsimp only; omega)); done)) (fail)
    exact HN.out { X with sh := sh', rt := X.rt.set q D.ce, nn := X.nn.set q D.kk } D _ _ rfl ⟨⟨rfl, rfl, rfl, rfl, rfl, rfl, rfl, rfl⟩, rfl, rfl, rfl, k1, k2, h1, by omega, i1, by omega, HINV.out, hce.out, S3.out⟩
  · have hd : (D.e == 0) = false := by rw [beq_eq_false_iff_ne]; exact he
    obtain rfl := HB.out he
    have HINV := Lib.hid hI.out.mono
    go_wp2_with fail
    exact HN.out X D _ _ rfl ⟨⟨rfl, rfl, rfl, rfl, rfl, rfl, rfl, rfl⟩, rfl, rfl, rfl, k1, k2, h1, by omega, i1, by omega, HINV.out, hce.out, S2.out⟩
end Go.Proofs.Ytognmhgdegpdiaa
