import Derived.Test.YtognmhgdegpdiaaSlotsPlMake
import Derived.Test.YtognmhgdegpdiaaSlotsPlPut
import Derived.Test.YtognmhgdegpdiaaSlotsPlTake
import Derived.Test.YtognmhgdegpdiaaSlotsPlJoin
import Derived.Test.YtognmhgdegpdiaaSlotsPlEnd
import Derived.Test.YtognmhgdegpdiaaSlotsPlRoot
/- Handles against plain pools: the switch. -/
namespace Go.Proofs.Ytognmhgdegpdiaa
open Go.RowKit
set_option linter.unusedVariables false
set_option linter.unusedSimpArgs false
set_option maxRecDepth 100000
set_option maxHeartbeats 16000000 in
theorem pl_switch (Z : PB) (X : PM) (D : HD) (a : Act) (w : World) (Q : Exit → Act → World → Prop) (h : AtSw Z X D a w) (hPan : ∀ c (a : Act) d v w, Q (.panic c) (a.put d v) w → Q (.panic c) a w)
    (hN : ∀ X' D' a w, D'.k = D.k → AtEnd Z X' D' a w → Q .normal a w) (hE : ∀ X' D' a w, D'.k = D.k → AtEnd Z X' D' a w → Q (.exit 1) a w) : PlayWp p2 Q a w := by
  have HPan := Lib.hid hPan
  clear hPan
  have hsz := h.fr.size
  have hde := h.fr.defers
  have v1 := h.fr.s1
  have v5 := h.fr.s5
  have v6 := h.fr.s6
  have v7 := h.fr.s7
  have v8 := h.fr.s8
  have v9 := h.fr.s9
  have v10 := h.s10
  have v11 := h.s11
  have v12 := h.s12
  have v13 := h.s13
  have v14 := h.s14
  have v15 := h.s15
  have v16 := h.s16
  have v17 := h.s17
  have v18 := h.s18
  have v19 := h.s19
  have v132 := h.s132
  have hI := Lib.hid h.inv
  have hGH := Lib.hid h.gh
  have hGO := Lib.hid h.go
  have hGI := Lib.hid h.gi
  have L := Lib.hid h.led
  have HN := Lib.hid hN
  have HE := Lib.hid hE
  have k1 := h.k1
  have k2 := h.k2
  have h1 := h.h1
  have h2 := h.h2
  have i1 := h.i1
  have i2 := h.i2
  have hce := Lib.hid h.ce
  have hkk := Lib.hid h.kk
  clear h hN hE
  obtain ⟨fs, hfs, rfl⟩ := frame_open a hsz hde
  clear hsz hde
  replace v1 := hfs _ _ v1
  replace v5 := hfs _ _ v5
  replace v6 := hfs _ _ v6
  replace v7 := hfs _ _ v7
  replace v8 := hfs _ _ v8
  replace v9 := hfs _ _ v9
  replace v10 := hfs _ _ v10
  replace v11 := hfs _ _ v11
  replace v12 := hfs _ _ v12
  replace v13 := hfs _ _ v13
  replace v14 := hfs _ _ v14
  replace v15 := hfs _ _ v15
  replace v16 := hfs _ _ v16
  replace v17 := hfs _ _ v17
  replace v18 := hfs _ _ v18
  replace v19 := hfs _ _ v19
  replace v132 := hfs _ _ v132
  clear hfs
  simp only [v1, v5, v6, v7, v8, v9, v10, v11, v12, v13, v14, v15, v16, v17, v18, v19, v132]
  clear v1 v5 v6 v7 v8 v9 v10 v11 v12 v13 v14 v15 v16 v17 v18 v19 v132
  unfold PlayWp
  conv => arg 2; whnf
  by_cases hkd : D.kd = 0
  · simp only [hkd]
    go_upto_if 133 with fail
    refine wp_cond_true rfl ?_
    go_upto_if 133 with fail
    refine wp_cond_true rfl ?_
    exact pl_make Z X D _ _ _ ⟨⟨rfl, rfl, rfl, rfl, rfl, rfl, rfl, rfl⟩, rfl, rfl, rfl, rfl, rfl, rfl, rfl, rfl, rfl, rfl, (show Sl _ 132 _ from by rw [hkd]; rfl), k1, k2, h1, h2, i1, i2, hI.out, hGH.out, hGO.out, hGI.out, hkk.out, hce.out, L.out⟩ (fun c a d v w h => HPan.out c a d v w h) (fun X5 D5 a w hk h => HN.out X5 D5 a w hk h) (fun X5 D5 a w hk h => by show Exit.inBlock 2 Q (.exit 1) a w; simp only [Exit.inBlock]; exact HE.out X5 D5 a w hk h)
  by_cases hkd0 : D.kd = 1
  · have hkd := hkd0
    simp only [hkd]
    go_upto_if 133 with fail
    refine wp_cond_false rfl ?_
    go_upto_if 133 with fail
    refine wp_cond_true rfl ?_
    exact pl_make Z X D _ _ _ ⟨⟨rfl, rfl, rfl, rfl, rfl, rfl, rfl, rfl⟩, rfl, rfl, rfl, rfl, rfl, rfl, rfl, rfl, rfl, rfl, (show Sl _ 132 _ from by rw [hkd]; rfl), k1, k2, h1, h2, i1, i2, hI.out, hGH.out, hGO.out, hGI.out, hkk.out, hce.out, L.out⟩ (fun c a d v w h => HPan.out c a d v w h) (fun X5 D5 a w hk h => HN.out X5 D5 a w hk h) (fun X5 D5 a w hk h => by show Exit.inBlock 2 Q (.exit 1) a w; simp only [Exit.inBlock]; exact HE.out X5 D5 a w hk h)
  by_cases hkd2 : D.kd = 2
  · have hkd := hkd2
    simp only [hkd]
    go_upto_if 231 with fail
    refine wp_cond_true rfl ?_
    go_upto_if 231 with fail
    refine wp_cond_true rfl ?_
    exact pl_put Z X D _ _ _ ⟨⟨rfl, rfl, rfl, rfl, rfl, rfl, rfl, rfl⟩, rfl, rfl, rfl, rfl, rfl, rfl, rfl, rfl, rfl, rfl, (show Sl _ 132 _ from by rw [hkd]; rfl), k1, k2, h1, h2, i1, i2, hI.out, hGH.out, hGO.out, hGI.out, hkk.out, hce.out, L.out⟩ (fun c a d v w h => HPan.out c a d v w h) (fun X5 D5 a w hk h => HN.out X5 D5 a w hk h) (fun X5 D5 a w hk h => by show Exit.inBlock 2 Q (.exit 1) a w; simp only [Exit.inBlock]; exact HE.out X5 D5 a w hk h)
  by_cases hkd3 : D.kd = 3
  · have hkd := hkd3
    simp only [hkd]
    go_upto_if 231 with fail
    refine wp_cond_false rfl ?_
    go_upto_if 231 with fail
    refine wp_cond_true rfl ?_
    go_upto_if 231 with fail
    refine wp_cond_true rfl ?_
    exact pl_put Z X D _ _ _ ⟨⟨rfl, rfl, rfl, rfl, rfl, rfl, rfl, rfl⟩, rfl, rfl, rfl, rfl, rfl, rfl, rfl, rfl, rfl, rfl, (show Sl _ 132 _ from by rw [hkd]; rfl), k1, k2, h1, h2, i1, i2, hI.out, hGH.out, hGO.out, hGI.out, hkk.out, hce.out, L.out⟩ (fun c a d v w h => HPan.out c a d v w h) (fun X5 D5 a w hk h => HN.out X5 D5 a w hk h) (fun X5 D5 a w hk h => by show Exit.inBlock 2 Q (.exit 1) a w; simp only [Exit.inBlock]; exact HE.out X5 D5 a w hk h)
  by_cases hkd4 : D.kd = 4
  · have hkd := hkd4
    simp only [hkd]
    go_upto_if 231 with fail
    refine wp_cond_false rfl ?_
    go_upto_if 231 with fail
    refine wp_cond_false rfl ?_
    go_upto_if 231 with fail
    refine wp_cond_true rfl ?_
    exact pl_put Z X D _ _ _ ⟨⟨rfl, rfl, rfl, rfl, rfl, rfl, rfl, rfl⟩, rfl, rfl, rfl, rfl, rfl, rfl, rfl, rfl, rfl, rfl, (show Sl _ 132 _ from by rw [hkd]; rfl), k1, k2, h1, h2, i1, i2, hI.out, hGH.out, hGO.out, hGI.out, hkk.out, hce.out, L.out⟩ (fun c a d v w h => HPan.out c a d v w h) (fun X5 D5 a w hk h => HN.out X5 D5 a w hk h) (fun X5 D5 a w hk h => by show Exit.inBlock 2 Q (.exit 1) a w; simp only [Exit.inBlock]; exact HE.out X5 D5 a w hk h)
  by_cases hkd5 : D.kd = 5
  · have hkd := hkd5
    simp only [hkd]
    go_upto_if 321 with fail
    refine wp_cond_true rfl ?_
    exact pl_take Z X D _ _ _ ⟨⟨rfl, rfl, rfl, rfl, rfl, rfl, rfl, rfl⟩, rfl, rfl, rfl, rfl, rfl, rfl, rfl, rfl, rfl, rfl, (show Sl _ 132 _ from by rw [hkd]; rfl), k1, k2, h1, h2, i1, i2, hI.out, hGH.out, hGO.out, hGI.out, hkk.out, hce.out, L.out⟩ (fun X5 D5 a w hk h => HN.out X5 D5 a w hk h) (fun X5 D5 a w hk h => by show Exit.inBlock 2 Q (.exit 1) a w; simp only [Exit.inBlock]; exact HE.out X5 D5 a w hk h)
  by_cases hkd6 : D.kd = 6
  · have hkd := hkd6
    simp only [hkd]
    go_upto_if 353 with fail
    refine wp_cond_true rfl ?_
    exact pl_join Z X D _ _ _ ⟨⟨rfl, rfl, rfl, rfl, rfl, rfl, rfl, rfl⟩, rfl, rfl, rfl, rfl, rfl, rfl, rfl, rfl, rfl, rfl, (show Sl _ 132 _ from by rw [hkd]; rfl), k1, k2, h1, h2, i1, i2, hI.out, hGH.out, hGO.out, hGI.out, hkk.out, hce.out, L.out⟩ (fun X5 D5 a w hk h => HN.out X5 D5 a w hk h) (fun X5 D5 a w hk h => by show Exit.inBlock 2 Q (.exit 1) a w; simp only [Exit.inBlock]; exact HE.out X5 D5 a w hk h)
  by_cases hkd7 : D.kd = 7
  · have hkd := hkd7
    simp only [hkd]
    go_upto_if 424 with fail
    refine wp_cond_true rfl ?_
    exact pl_end Z X D _ _ _ ⟨⟨rfl, rfl, rfl, rfl, rfl, rfl, rfl, rfl⟩, rfl, rfl, rfl, rfl, rfl, rfl, rfl, rfl, rfl, rfl, (show Sl _ 132 _ from by rw [hkd]; rfl), k1, k2, h1, h2, i1, i2, hI.out, hGH.out, hGO.out, hGI.out, hkk.out, hce.out, L.out⟩ (fun X5 D5 a w hk h => HN.out X5 D5 a w hk h) (fun X5 D5 a w hk h => by show Exit.inBlock 2 Q (.exit 1) a w; simp only [Exit.inBlock]; exact HE.out X5 D5 a w hk h)
  by_cases hkd8 : D.kd = 8
  · have hkd := hkd8
    simp only [hkd]
    go_upto_if 457 with fail
    refine wp_cond_true rfl ?_
    exact pl_root Z X D _ _ _ ⟨⟨rfl, rfl, rfl, rfl, rfl, rfl, rfl, rfl⟩, rfl, rfl, rfl, rfl, rfl, rfl, rfl, rfl, rfl, rfl, (show Sl _ 132 _ from by rw [hkd]; rfl), k1, k2, h1, h2, i1, i2, hI.out, hGH.out, hGO.out, hGI.out, hkk.out, hce.out, L.out⟩ (fun X5 D5 a w hk h => HN.out X5 D5 a w hk h) (fun X5 D5 a w hk h => by show Exit.inBlock 2 Q (.exit 1) a w; simp only [Exit.inBlock]; exact HE.out X5 D5 a w hk h)
  have d0 : (D.kd == 0) = false := by rw [beq_eq_false_iff_ne]; omega
  have d1 : (D.kd == 1) = false := by rw [beq_eq_false_iff_ne]; omega
  have d2 : (D.kd == 2) = false := by rw [beq_eq_false_iff_ne]; omega
  have d3 : (D.kd == 3) = false := by rw [beq_eq_false_iff_ne]; omega
  have d4 : (D.kd == 4) = false := by rw [beq_eq_false_iff_ne]; omega
  have d5 : (D.kd == 5) = false := by rw [beq_eq_false_iff_ne]; omega
  have d6 : (D.kd == 6) = false := by rw [beq_eq_false_iff_ne]; omega
  have d7 : (D.kd == 7) = false := by rw [beq_eq_false_iff_ne]; omega
  have d8 : (D.kd == 8) = false := by rw [beq_eq_false_iff_ne]; omega
  go_wp2_with fail
  exact HN.out X D _ _ rfl ⟨⟨rfl, rfl, rfl, rfl, rfl, rfl, rfl, rfl⟩, rfl, rfl, rfl, k1, k2, h1, by omega, i1, by omega, hI.out.mono, hce.out, L.out⟩
end Go.Proofs.Ytognmhgdegpdiaa
