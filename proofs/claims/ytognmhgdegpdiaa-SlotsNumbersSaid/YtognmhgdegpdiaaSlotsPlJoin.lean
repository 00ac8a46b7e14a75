import Derived.Test.YtognmhgdegpdiaaSlotsPlFG
/- Handles against plain pools: Join. -/
namespace Go.Proofs.Ytognmhgdegpdiaa
open Go.RowKit
set_option linter.unusedVariables false
set_option linter.unusedSimpArgs false
set_option maxRecDepth 100000

set_option maxHeartbeats 16000000 in
theorem pl_join (Z : PB) (X : PM) (D : HD) (a : Act) (w : World) (Q : Exit → Act → World → Prop) (h : AtSw Z X D a w)  (hN : ∀ X' D' a w, D'.k = D.k → AtEnd Z X' D' a w → Q .normal a w) (hE : ∀ X' D' a w, D'.k = D.k → AtEnd Z X' D' a w → Q (.exit 1) a w) :
    PlayWp (p2 ++ [0, 1, 1, 1, 1, 1, 1, 1, 0]) Q a w := by
  have hsz := h.fr.size
  have hde := h.fr.defers
  have v1 := h.fr.s1
  have v5 := h.fr.s5
  have v6 := h.fr.s6
  have v7 := h.fr.s7
  have v8 := h.fr.s8
  have v9 := h.fr.s9
  have v10 := h.s10
  have v11 := h.s11
  have v12 := h.s12
  have v13 := h.s13
  have v14 := h.s14
  have v15 := h.s15
  have v16 := h.s16
  have v17 := h.s17
  have v18 := h.s18
  have v19 := h.s19
  have v132 := h.s132
  have hI := Lib.hid h.inv
  have hGH := Lib.hid h.gh
  have hGO := Lib.hid h.go
  have hGI := Lib.hid h.gi
  have L := Lib.hid h.led
  have HN := Lib.hid hN
  have HE := Lib.hid hE
  have k1 := h.k1
  have k2 := h.k2
  have h1 := h.h1
  have h2 := h.h2
  have i1 := h.i1
  have i2 := h.i2
  have hce := Lib.hid h.ce
  have hkk := Lib.hid h.kk
  clear h hN hE
  obtain ⟨fs, hfs, rfl⟩ := frame_open a hsz hde
  clear hsz hde
  replace v1 := hfs _ _ v1
  replace v5 := hfs _ _ v5
  replace v6 := hfs _ _ v6
  replace v7 := hfs _ _ v7
  replace v8 := hfs _ _ v8
  replace v9 := hfs _ _ v9
  replace v10 := hfs _ _ v10
  replace v11 := hfs _ _ v11
  replace v12 := hfs _ _ v12
  replace v13 := hfs _ _ v13
  replace v14 := hfs _ _ v14
  replace v15 := hfs _ _ v15
  replace v16 := hfs _ _ v16
  replace v17 := hfs _ _ v17
  replace v18 := hfs _ _ v18
  replace v19 := hfs _ _ v19
  replace v132 := hfs _ _ v132
  clear hfs
  simp only [v1, v5, v6, v7, v8, v9, v10, v11, v12, v13, v14, v15, v16, v17, v18, v19, v132]
  clear v1 v5 v6 v7 v8 v9 v10 v11 v12 v13 v14 v15 v16 v17 v18 v19 v132
  unfold PlayWp
  conv => arg 2; whnf
  have L0 := L
  by_cases he : D.e = 0
  · by_cases hf : D.f = 0
    · have hGH2 := hGH.out
      have hGO2 := hGO.out
      rw [he] at hGH2
      rw [hf] at hGO2
      obtain ⟨i, n, x, y, -, -, -, -, -, -, -, ha, hn, hk⟩ := hI.out.heap_at hGH2
      obtain ⟨i2, n2, x2, y2, -, -, -, -, -, -, -, hb, hn2, hk2⟩ := hI.out.heap_at hGO2
      generalize x.v.a = c at hk
      generalize x2.v.a = c2 at hk2
      clear hGH2 hGO2
      rw [he, hf, ha, hb]
      by_cases hnn : n = n2
      · have hd : ((n : Int) == (n2 : Int)) = true := by simp [hnn]
        go_wp2_with fail
        go_quiet (fail)
        have S2 := Lib.hid (L.out.drewN nq)
        go_upto_region 65 with fail
        generalize w.drewN nq = w2 at S2 ⊢
        clear L
        have rb := hdH S2.out
        have t0 := rb.cell 0; have ft0 := rb.frozen 0; have t1 := rb.cell 1; have ft1 := rb.frozen 1; simp only [List.getElem?_toArray, List.getElem?_cons_zero, List.getElem?_cons_succ] at t0 t1
        have ro := hdO S2.out
        have s0 := ro.cell 0; have fs0 := ro.frozen 0; have s1 := ro.cell 1; have fs1 := ro.frozen 1; simp only [List.getElem?_toArray, List.getElem?_cons_zero, List.getElem?_cons_succ] at s0 s1
        clear rb ro
        go_wp2_with fail
        refine Calls.mono (slots_join Z.w0.heap.size X.t X.ph X.pi X.b X.n X.lh X.fh X.li X.fi X.sh X.si X.f Z.w0 _ _ D.h0 D.h1 D.o0 D.o1 hI.out.gens_ok (PM.toS.1 S2.out)) ?_
        rintro e w3 ⟨e0, fh', sh', si', rfl, q1, q2⟩
        have J := Lib.hid (hI.out.join_ hGH.out hGO.out q1)
        clear q1 t0 t1 ft0 ft1 s0 s1 fs0 fs1
        rcases J.out with ⟨j1, j2, rfl, rfl⟩ | ⟨j1, j2, j3, rfl, rfl⟩ | ⟨j1, j2, n3, n4, c3, c4, j3, j4, j5, j6, j7, j8, ⟨j9, j10, rfl, rfl⟩ | ⟨j9, j11, j10, rfl, rfl⟩ | ⟨j9, j11, j10, j12⟩⟩
        · exact absurd he j1
        · exact absurd hf j2
        · subst j10
          have S3 := Lib.hid ((PM.toS (X := { X with fh := fh' })).2 q2)
          clear q2
          have HINV := Lib.hid (hI.out.mono.vals (X' := { X with fh := fh' }) rfl)
          go_wp2_with fail
          exact HN.out { X with fh := fh' } D _ _ rfl ⟨⟨rfl, rfl, rfl, rfl, rfl, rfl, rfl, rfl⟩, rfl, rfl, rfl, k1, k2, h1, by omega, i1, by omega, HINV.out, hce.out, S3.out⟩
        · exact absurd (by omega) j9
        · exact absurd (by omega) j9
      · have hd : ((n : Int) == (n2 : Int)) = false := by rw [beq_eq_false_iff_ne]; omega
        obtain ⟨Ak, ck, hvk, hck, hAk⟩ := int_form (pmK L.out)
        obtain ⟨gk, hgk, _⟩ := hAk (by omega)
        rw [hgk] at hvk
        have m2 := pm2 L.out
        have hTK := pmK L.out
        rw [hvk] at m2 hTK
        have y0 := int_cell hTK hk
        have y1 := int_cell hTK hk2
        have z1 : (0 : Int) ≤ (n : Int) := by omega
        have z2 : (n : Int) < X.kd.length := by omega
        have z3 : (0 : Int) ≤ (n2 : Int) := by omega
        have z4 : (n2 : Int) < X.kd.length := by omega
        clear hTK hAk
        by_cases hcc : c = c2
        · have hd2 : (c == c2) = true := by simp [hcc]
          go_wp2_with fail
          go_quiet (fail)
          have S2 := Lib.hid (L.out.drewN nq)
          go_upto_region 65 with fail
          generalize w.drewN nq = w2 at S2 ⊢
          clear L
          clear y0 y1 m2
          have rb := hdH S2.out
          have t0 := rb.cell 0; have ft0 := rb.frozen 0; have t1 := rb.cell 1; have ft1 := rb.frozen 1; simp only [List.getElem?_toArray, List.getElem?_cons_zero, List.getElem?_cons_succ] at t0 t1
          have ro := hdO S2.out
          have s0 := ro.cell 0; have fs0 := ro.frozen 0; have s1 := ro.cell 1; have fs1 := ro.frozen 1; simp only [List.getElem?_toArray, List.getElem?_cons_zero, List.getElem?_cons_succ] at s0 s1
          clear rb ro
          go_wp2_with fail
          refine Calls.mono (slots_join Z.w0.heap.size X.t X.ph X.pi X.b X.n X.lh X.fh X.li X.fi X.sh X.si X.f Z.w0 _ _ D.h0 D.h1 D.o0 D.o1 hI.out.gens_ok (PM.toS.1 S2.out)) ?_
          rintro e w3 ⟨e0, fh', sh', si', rfl, q1, q2⟩
          have J := Lib.hid (hI.out.join_ hGH.out hGO.out q1)
          clear q1 t0 t1 ft0 ft1 s0 s1 fs0 fs1
          rcases J.out with ⟨j1, j2, rfl, rfl⟩ | ⟨j1, j2, j3, rfl, rfl⟩ | ⟨j1, j2, n3, n4, c3, c4, j3, j4, j5, j6, j7, j8, ⟨j9, j10, rfl, rfl⟩ | ⟨j9, j11, j10, rfl, rfl⟩ | ⟨j9, j11, j10, j12⟩⟩
          · exact absurd he j1
          · exact absurd hf j2
          · exact absurd (by omega) hnn
          · exact absurd (by rw [show n3 = n by omega, hk] at j7; rw [show n4 = n2 by omega, hk2] at j8; injection j7 with j7; injection j8 with j8; omega) j11
          · subst j10
            rw [ha, hb] at j12
            have HINV2 := Lib.hid (fun u3 e3 r3 (hb3 : Value) (hq : RGiveR X.rh D.o0 D.o1 u3 e3 r3) => (j12 u3 e3 r3 fh' hb3 hq).mono)
            have S3 : Hid (Led Z.w0.heap.size Z.w0 w3 ({ X with fh := fh', sh := sh', si := si', inn := ((joinL (n : Int) (n2 : Int) X.inn).take 0 ++ X.inn.drop 0) }.mem ++ D.es)) := Lib.hid (by rw [List.take_zero, List.drop_zero, List.nil_append]; exact (PM.toS (X := { X with fh := fh', sh := sh', si := si' })).2 q2)
            clear q2
            obtain ⟨Ai, ci, hvi, hci, hAi⟩ := int_form (pmI L0.out)
            have HJ := Lib.hid j12
            clear j12 J
            have hlM : (joinL (n : Int) (n2 : Int) X.inn).length = X.inn.length := by simp [joinL]
            have c7 := pm7 S3.out
            simp only [hvi] at c7
            have hlk := hI.out.lcl
            have hli := hI.out.lin
            go_wp2_with fail
            go_loopw [37] (fun i wx => ∃ q : Nat, q ≤ X.inn.length ∧ i = .int .i64 q ∧ Hid (Led Z.w0.heap.size Z.w0 wx ({ X with fh := fh', sh := sh', si := si', inn := ((joinL (n : Int) (n2 : Int) X.inn).take q ++ X.inn.drop q) }.mem ++ D.es))) (fun i _ => X.inn.length - (intOf i).toNat)
            case atStart => exact ⟨0, by omega, rfl, S3⟩
            case round =>
              clear S3 c7
              obtain ⟨q, hq, rfl, S⟩ := hrel
              have c7 := pm7 S.out
              simp only [hvi] at c7
              by_cases hlt : q < X.inn.length
              · obtain ⟨gi, hgi, _⟩ := hAi (by omega)
                rw [hgi] at hvi c7
                obtain ⟨m0, hm0⟩ : ∃ z, X.inn[q]? = some z := ⟨_, List.getElem?_eq_getElem hlt⟩
                have hat := (turnI_at hlM hlt).trans hm0
                have hM : (joinL (n : Int) (n2 : Int) X.inn)[q]? = some (if m0 = (n2 : Int) then (n : Int) else m0) := by unfold joinL; rw [List.getElem?_map, hm0]; rfl
                have hTI := pmI S.out
                simp only [hvi] at hTI
                have y0 := int_cell hTI hat
                have fy0 := hTI.frozen q
                have ly0 := (hTI.lt gi (by simp [Value.ownBlock])).2
                have z1 : (0 : Int) ≤ (q : Int) := by omega
                have z2 : (q : Int) < X.inn.length := by omega
                clear hTI
                by_cases hmb : m0 = (n2 : Int)
                · have hb : (m0 == (n2 : Int)) = true := by simp [hmb]
                  rw [if_pos hmb] at hM
                  have S5 := led_int_at S.out (i := 20) rfl hvi hat (n : Int)
                  rw [turnI_set hlM hlt hM] at S5
                  have S6 : Hid (Led Z.w0.heap.size Z.w0 _ ({ X with fh := fh', sh := sh', si := si', inn := ((joinL (n : Int) (n2 : Int) X.inn).take (q + 1) ++ X.inn.drop (q + 1)) }.mem ++ D.es)) := Lib.hid S5
                  clear S5 S hat hM
                  go_wp2_with fail
                  go_roundw
                  case rel => exact ⟨q + 1, by omega, by go_num, S6⟩
                  case measure => simp [intOf]; omega
                · have hb : (m0 == (n2 : Int)) = false := by rw [beq_eq_false_iff_ne]; exact hmb
                  rw [if_neg hmb] at hM
                  have hsame := turnI_same hlM hlt hM hm0
                  rw [hsame] at S
                  clear hat hsame
                  go_wp2_with fail
                  go_roundw
                  case rel => exact ⟨q + 1, by omega, by go_num, S⟩
                  case measure => simp [intOf]; omega
              · obtain rfl : q = X.inn.length := by omega
                rw [List.take_of_length_le (by omega), List.drop_of_length_le (by omega), List.append_nil] at S
                go_upto_region 73 with fail
                generalize wr = w5 at S c7 ⊢
                have HS : Hid (∀ W, Chg [] w5 W → W.cell? ⟨X.m, 0, none⟩ = some (.pointer (some ⟨X.mh, 0, none⟩)) ∧ W.cell? ⟨D.ob, 0, none⟩ = some (.int .i64 D.o0) ∧ W.cell? ⟨D.ob, 1, none⟩ = some (.int .i64 D.o1)) := Lib.hid fun W hW => have hl := S.out.later (hW.below (by simp) (Nat.le_refl _)); have b := hdO hl; have m := pm0 hl; ⟨m, b.cell 0, b.cell 1⟩
                obtain ⟨_, _, _, b1, b2, _⟩ := pm_small hI.out L0.out
                go_region_held3 (fun wx => wx.cell? ⟨X.m, 0, none⟩ = some (.pointer (some ⟨X.mh, 0, none⟩)) ∧ wx.cell? ⟨D.ob, 0, none⟩ = some (.int .i64 D.o0) ∧ wx.cell? ⟨D.ob, 1, none⟩ = some (.int .i64 D.o1)) (first | (refine HS.out _ ?_; (repeat' first | with_reducible exact Chg.refl _ _ | with_reducible refine Chg.drew ?_ | with_reducible refine Chg.drewN ?_ _ | with_reducible refine Chg.alloc ?_ _ | with_reducible refine Chg.setCell ?_ ?_ _ | (left; simp; done) | (right; exact Nat.le_refl _) | (right; dsimp only; omega)); done) | (refine HS2.out _ ?_; (repeat' first | with_reducible exact Chg.refl _ _ | with_reducible refine Chg.drew ?_ | with_reducible refine Chg.drewN ?_ _ | with_reducible refine Chg.alloc ?_ _ | with_reducible refine Chg.setCell ?_ ?_ _ | (left; simp; done) | (right; exact Nat.le_refl _) | (right; dsimp only; omega)); done)) ((go_at_call 41; refine Calls.mono (ref_give Z.w0.heap.size X.mh X.hg X.hi X.hv X.hb X.rh Z.w0 _ _ D.o0 D.o1 ((PM.toH (X := { X with fh := fh', sh := sh', si := si', inn := joinL (n : Int) (n2 : Int) X.inn })).1 S.out.drew) b1 b2) ?_; rintro e w6 ⟨u3, e3, hb3, r3, rfl, q1, q2⟩; have S7 := Lib.hid ((PM.toH (X := { { X with fh := fh', sh := sh', si := si', inn := joinL (n : Int) (n2 : Int) X.inn } with hb := hb3, rh := r3 })).2 q2); have Q3 := Lib.hid q1; have HS2 : Hid (∀ W, Chg [] w6 W → W.cell? ⟨X.m, 0, none⟩ = some (.pointer (some ⟨X.mh, 0, none⟩)) ∧ W.cell? ⟨D.ob, 0, none⟩ = some (.int .i64 D.o0) ∧ W.cell? ⟨D.ob, 1, none⟩ = some (.int .i64 D.o1)) := Lib.hid (fun W hW => have hl := S7.out.later (hW.below (by simp) (Nat.le_refl _)); have b := hdO hl; have m := pm0 hl; ⟨m, b.cell 0, b.cell 1⟩); clear q1 q2))
                go_wp2_with fail
                exact HN.out { X with fh := fh', hb := hb3, sh := sh', rh := r3, si := si', inn := joinL (n : Int) (n2 : Int) X.inn } D _ _ rfl ⟨⟨rfl, rfl, rfl, rfl, rfl, rfl, rfl, rfl⟩, rfl, rfl, rfl, k1, k2, h1, by omega, i1, by omega, (HINV2.out _ _ _ hb3 Q3.out), hce.out, S7.out⟩
        · have hd2 : (c == c2) = false := by rw [beq_eq_false_iff_ne]; exact hcc
          go_wp2_with fail
          go_quiet (fail)
          have S2 := Lib.hid (L.out.drewN nq)
          go_upto_region 65 with fail
          generalize w.drewN nq = w2 at S2 ⊢
          clear L
          clear y0 y1 m2
          have rb := hdH S2.out
          have t0 := rb.cell 0; have ft0 := rb.frozen 0; have t1 := rb.cell 1; have ft1 := rb.frozen 1; simp only [List.getElem?_toArray, List.getElem?_cons_zero, List.getElem?_cons_succ] at t0 t1
          have ro := hdO S2.out
          have s0 := ro.cell 0; have fs0 := ro.frozen 0; have s1 := ro.cell 1; have fs1 := ro.frozen 1; simp only [List.getElem?_toArray, List.getElem?_cons_zero, List.getElem?_cons_succ] at s0 s1
          clear rb ro
          go_wp2_with fail
          refine Calls.mono (slots_join Z.w0.heap.size X.t X.ph X.pi X.b X.n X.lh X.fh X.li X.fi X.sh X.si X.f Z.w0 _ _ D.h0 D.h1 D.o0 D.o1 hI.out.gens_ok (PM.toS.1 S2.out)) ?_
          rintro e w3 ⟨e0, fh', sh', si', rfl, q1, q2⟩
          have J := Lib.hid (hI.out.join_ hGH.out hGO.out q1)
          clear q1 t0 t1 ft0 ft1 s0 s1 fs0 fs1
          rcases J.out with ⟨j1, j2, rfl, rfl⟩ | ⟨j1, j2, j3, rfl, rfl⟩ | ⟨j1, j2, n3, n4, c3, c4, j3, j4, j5, j6, j7, j8, ⟨j9, j10, rfl, rfl⟩ | ⟨j9, j11, j10, rfl, rfl⟩ | ⟨j9, j11, j10, j12⟩⟩
          · exact absurd he j1
          · exact absurd hf j2
          · exact absurd (by omega) hnn
          · subst j10
            have S3 := Lib.hid ((PM.toS (X := { X with fh := fh' })).2 q2)
            clear q2
            have HINV := Lib.hid (hI.out.mono.vals (X' := { X with fh := fh' }) rfl)
            go_wp2_with fail
            exact HN.out { X with fh := fh' } D _ _ rfl ⟨⟨rfl, rfl, rfl, rfl, rfl, rfl, rfl, rfl⟩, rfl, rfl, rfl, k1, k2, h1, by omega, i1, by omega, HINV.out, hce.out, S3.out⟩
          · exact absurd (by rw [show n3 = n by omega, hk] at j7; rw [show n4 = n2 by omega, hk2] at j8; injection j7 with j7; injection j8 with j8; omega) hcc
    · have hd : (D.f == 0) = false := by rw [beq_eq_false_iff_ne]; exact hf
      rw [he]
      go_wp2_with fail
      go_quiet (fail)
      have S2 := Lib.hid (L.out.drewN nq)
      go_upto_region 65 with fail
      generalize w.drewN nq = w2 at S2 ⊢
      clear L
      have rb := hdH S2.out
      have t0 := rb.cell 0; have ft0 := rb.frozen 0; have t1 := rb.cell 1; have ft1 := rb.frozen 1; simp only [List.getElem?_toArray, List.getElem?_cons_zero, List.getElem?_cons_succ] at t0 t1
      have ro := hdO S2.out
      have s0 := ro.cell 0; have fs0 := ro.frozen 0; have s1 := ro.cell 1; have fs1 := ro.frozen 1; simp only [List.getElem?_toArray, List.getElem?_cons_zero, List.getElem?_cons_succ] at s0 s1
      clear rb ro
      go_wp2_with fail
      refine Calls.mono (slots_join Z.w0.heap.size X.t X.ph X.pi X.b X.n X.lh X.fh X.li X.fi X.sh X.si X.f Z.w0 _ _ D.h0 D.h1 D.o0 D.o1 hI.out.gens_ok (PM.toS.1 S2.out)) ?_
      rintro e w3 ⟨e0, fh', sh', si', rfl, q1, q2⟩
      have J := Lib.hid (hI.out.join_ hGH.out hGO.out q1)
      clear q1 t0 t1 ft0 ft1 s0 s1 fs0 fs1
      rcases J.out with ⟨j1, j2, rfl, rfl⟩ | ⟨j1, j2, j3, rfl, rfl⟩ | ⟨j1, j2, n3, n4, c3, c4, j3, j4, j5, j6, j7, j8, ⟨j9, j10, rfl, rfl⟩ | ⟨j9, j11, j10, rfl, rfl⟩ | ⟨j9, j11, j10, j12⟩⟩
      · exact absurd he j1
      · subst j3
        have S3 := Lib.hid ((PM.toS (X := { X with fh := fh' })).2 q2)
        clear q2
        have HINV := Lib.hid (hI.out.mono.vals (X' := { X with fh := fh' }) rfl)
        go_wp2_with fail
        exact HN.out { X with fh := fh' } D _ _ rfl ⟨⟨rfl, rfl, rfl, rfl, rfl, rfl, rfl, rfl⟩, rfl, rfl, rfl, k1, k2, h1, by omega, i1, by omega, HINV.out, hce.out, S3.out⟩
      · exact absurd j2 hf
      · exact absurd j2 hf
      · exact absurd j2 hf
  · have hd : (D.e == 0) = false := by rw [beq_eq_false_iff_ne]; exact he
    go_wp2_with fail
    go_quiet (fail)
    have S2 := Lib.hid (L.out.drewN nq)
    go_upto_region 65 with fail
    generalize w.drewN nq = w2 at S2 ⊢
    clear L
    have rb := hdH S2.out
    have t0 := rb.cell 0; have ft0 := rb.frozen 0; have t1 := rb.cell 1; have ft1 := rb.frozen 1; simp only [List.getElem?_toArray, List.getElem?_cons_zero, List.getElem?_cons_succ] at t0 t1
    have ro := hdO S2.out
    have s0 := ro.cell 0; have fs0 := ro.frozen 0; have s1 := ro.cell 1; have fs1 := ro.frozen 1; simp only [List.getElem?_toArray, List.getElem?_cons_zero, List.getElem?_cons_succ] at s0 s1
    clear rb ro
    go_wp2_with fail
    refine Calls.mono (slots_join Z.w0.heap.size X.t X.ph X.pi X.b X.n X.lh X.fh X.li X.fi X.sh X.si X.f Z.w0 _ _ D.h0 D.h1 D.o0 D.o1 hI.out.gens_ok (PM.toS.1 S2.out)) ?_
    rintro e w3 ⟨e0, fh', sh', si', rfl, q1, q2⟩
    have J := Lib.hid (hI.out.join_ hGH.out hGO.out q1)
    clear q1 t0 t1 ft0 ft1 s0 s1 fs0 fs1
    rcases J.out with ⟨j1, j2, rfl, rfl⟩ | ⟨j1, j2, j3, rfl, rfl⟩ | ⟨j1, j2, n3, n4, c3, c4, j3, j4, j5, j6, j7, j8, ⟨j9, j10, rfl, rfl⟩ | ⟨j9, j11, j10, rfl, rfl⟩ | ⟨j9, j11, j10, j12⟩⟩
    · subst j2
      have S3 := Lib.hid ((PM.toS (X := { X with fh := fh' })).2 q2)
      clear q2
      have HINV := Lib.hid (hI.out.mono.vals (X' := { X with fh := fh' }) rfl)
      go_wp2_with fail
      exact HN.out { X with fh := fh' } D _ _ rfl ⟨⟨rfl, rfl, rfl, rfl, rfl, rfl, rfl, rfl⟩, rfl, rfl, rfl, k1, k2, h1, by omega, i1, by omega, HINV.out, hce.out, S3.out⟩
    · exact absurd j1 he
    · exact absurd j1 he
    · exact absurd j1 he
    · exact absurd j1 he
end Go.Proofs.Ytognmhgdegpdiaa
