import Derived.Test.YtognmhgdegpdiaaSlotsPlR50
/- Handles against plain pools: Put. -/
namespace Go.Proofs.Ytognmhgdegpdiaa
open Go.RowKit
set_option linter.unusedVariables false
set_option linter.unusedSimpArgs false
set_option maxRecDepth 100000

set_option maxHeartbeats 16000000 in
theorem pl_put (Z : PB) (X : PM) (D : HD) (a : Act) (w : World) (Q : Exit → Act → World → Prop) (h : AtSw Z X D a w) (hPan : ∀ c (a : Act) d v w, Q (.panic c) (a.put d v) w → Q (.panic c) a w) (hN : ∀ X' D' a w, D'.k = D.k → AtEnd Z X' D' a w → Q .normal a w) (hE : ∀ X' D' a w, D'.k = D.k → AtEnd Z X' D' a w → Q (.exit 1) a w) :
    PlayWp (p2 ++ [0, 1, 1, 1, 0]) Q a w := by
  have HPan := Lib.hid hPan
  clear hPan
  have hsz := h.fr.size
  have hde := h.fr.defers
  have v1 := h.fr.s1
  have v5 := h.fr.s5
  have v6 := h.fr.s6
  have v7 := h.fr.s7
  have v8 := h.fr.s8
  have v9 := h.fr.s9
  have v10 := h.s10
  have v11 := h.s11
  have v12 := h.s12
  have v13 := h.s13
  have v14 := h.s14
  have v15 := h.s15
  have v16 := h.s16
  have v17 := h.s17
  have v18 := h.s18
  have v19 := h.s19
  have v132 := h.s132
  have hI := Lib.hid h.inv
  have hGH := Lib.hid h.gh
  have hGO := Lib.hid h.go
  have hGI := Lib.hid h.gi
  have L := Lib.hid h.led
  have HN := Lib.hid hN
  have HE := Lib.hid hE
  have k1 := h.k1
  have k2 := h.k2
  have h1 := h.h1
  have h2 := h.h2
  have i1 := h.i1
  have i2 := h.i2
  have hce := Lib.hid h.ce
  have hkk := Lib.hid h.kk
  clear h hN hE
  obtain ⟨fs, hfs, rfl⟩ := frame_open a hsz hde
  clear hsz hde
  replace v1 := hfs _ _ v1
  replace v5 := hfs _ _ v5
  replace v6 := hfs _ _ v6
  replace v7 := hfs _ _ v7
  replace v8 := hfs _ _ v8
  replace v9 := hfs _ _ v9
  replace v10 := hfs _ _ v10
  replace v11 := hfs _ _ v11
  replace v12 := hfs _ _ v12
  replace v13 := hfs _ _ v13
  replace v14 := hfs _ _ v14
  replace v15 := hfs _ _ v15
  replace v16 := hfs _ _ v16
  replace v17 := hfs _ _ v17
  replace v18 := hfs _ _ v18
  replace v19 := hfs _ _ v19
  replace v132 := hfs _ _ v132
  clear hfs
  simp only [v1, v5, v6, v7, v8, v9, v10, v11, v12, v13, v14, v15, v16, v17, v18, v19, v132]
  clear v1 v5 v6 v7 v8 v9 v10 v11 v12 v13 v14 v15 v16 v17 v18 v19 v132
  unfold PlayWp
  conv => arg 2; whnf
  have ra := hdAsk L.out
  have x0 := ra.cell 0; have fx0 := ra.frozen 0; have x1 := ra.cell 1; have fx1 := ra.frozen 1; have x2 := ra.cell 2; have fx2 := ra.frozen 2; have x3 := ra.cell 3; have fx3 := ra.frozen 3; have x4 := ra.cell 4; have fx4 := ra.frozen 4; have x5 := ra.cell 5; have fx5 := ra.frozen 5; have x6 := ra.cell 6; have fx6 := ra.frozen 6; have x7 := ra.cell 7; have fx7 := ra.frozen 7; simp only [List.getElem?_toArray, List.getElem?_cons_zero, List.getElem?_cons_succ] at x0 x1 x2 x3 x4 x5 x6 x7
  clear ra
  have bd := within_bd D.ce 0 40 (by omega)
  have hce2 := hce.out
  unfold in64 at hce2
  go_wp2_with fail
  refine Calls.mono (within_any D.ce 0 40 _ (by omega) (by omega) (by omega) (by omega) (by omega)) ?_
  generalize within D.ce 0 40 = cc at bd ⊢
  rintro e wq ⟨rfl, rfl⟩
  clear hce2 x0 x1 x2 x3 x4 x5 x6 x7 fx0 fx1 fx2 fx3 fx4 fx5 fx6 fx7
  have rb := hdH L.out
  have t0 := rb.cell 0; have ft0 := rb.frozen 0; have t1 := rb.cell 1; have ft1 := rb.frozen 1; simp only [List.getElem?_toArray, List.getElem?_cons_zero, List.getElem?_cons_succ] at t0 t1
  clear rb
  have hnk := hI.out.nk
  go_wp2_with fail
  refine Calls.mono (slots_put Z.w0.heap.size X.t X.ph X.pi X.b X.n X.lh X.fh X.li X.fi X.sh X.si X.f Z.w0 w _ D.h0 D.h1 cc (by unfold in64; omega) (by omega) (PM.toS.1 L.out)) ?_
  rintro e w2 ⟨u, v, e0, li', fi', si', f', n', rfl, q1, hn', q3⟩
  have P1 := Lib.hid (hI.out.put_ hGH.out q1)
  have S3 := Lib.hid (led_end (M := { X with n := n', li := li', fi := fi', si := si', f := f' }.mem) (E := D.es) (T := 27) (cs := #[.int .i64 u, .int .i64 v]) ((PM.toS (X := { X with n := n', li := li', fi := fi', si := si', f := f' })).2 q3))
  clear q1 q3 t0 t1 ft0 ft1
  go_upto_region 35 with fail
  generalize w2.alloc (.cells #[.int .i64 u, .int .i64 v] 27) = w3 at S3 ⊢
  generalize w2.heap.size = b26 at S3 ⊢
  have rq := ref_neq
  obtain ⟨b1, b2, b3, b4, b5, b6, b7, b8⟩ := pm_small hI.out L.out
  have hWF := pmWF L.out
  have HWS := Lib.hid hWF.2
  have HWR := Lib.hid (hI.out.simI.wf hWF.2)
  have hall : (allTo X.ri.l X.ri.l.length).length + X.si.free.length = X.si.l.length := by rw [hI.out.simI.all]; exact hWF.2.all_len
  have hlm := hWF.2.le
  have hmost := hI.out.simI.most
  clear hWF
  obtain ⟨y, hy⟩ : ∃ y, (X.f cc).getD (0, 0) = y := ⟨_, rfl⟩
  obtain ⟨qb, hqb⟩ : ∃ q, (X.f cc).isSome = q := ⟨_, rfl⟩
  have HA := Lib.hid (pl_atM Z.w0.heap.size D.k X cc Z.w0 w3 ({ X with n := n', li := li', fi := fi', si := si', f := f' }.S ++ (D.es ++ [blkE b26 27 #[.int .i64 u, .int .i64 v]])) b1 hI.out ((PM.modS (X := { X with n := n', li := li', fi := fi', si := si', f := f' })).1 S3.out))
  rw [hy, hqb] at HA
  clear hy
  go_wp2_with fail
  refine Calls.mono HA.out ?_
  rintro e w4 ⟨rfl, q1⟩
  have S4 := Lib.hid (q1.alloc (.cells #[.int .i64 y.1, .int .i64 y.2] 27))
  clear q1 HA S3
  go_upto_region 37 with fail
  generalize w4.alloc (.cells #[.int .i64 y.1, .int .i64 y.2] 27) = w4a at S4 ⊢
  obtain ⟨na, hna⟩ : ∃ n, (allTo X.ri.l X.ri.l.length).length = n := ⟨_, rfl⟩
  rw [hna] at hall
  have HT : Hid (∀ W, Led Z.w0.heap.size Z.w0 W (X.mod ++ ({ X with n := n', li := li', fi := fi', si := si', f := f' }.S ++ (D.es ++ [blkE b26 27 #[.int .i64 u, .int .i64 v]]))) → Calls Try.prog 40 #[.pointer (some ⟨X.m, 0, none⟩), .int .i64 (-1)] W fun e w' => ∃ A c, e = .returned (.slice A na c) ∧ na ≤ c ∧ Led Z.w0.heap.size Z.w0 w' (X.mod ++ ({ X with n := n', li := li', fi := fi', si := si', f := f' }.S ++ (D.es ++ [blkE b26 27 #[.int .i64 u, .int .i64 v]])))) := by
    refine Lib.hid fun W h => ?_
    refine Calls.mono (pl_thereM Z.w0.heap.size X (-1) Z.w0 W _ b1 (fun j y hy ht => by obtain ⟨x, q, a, _, _, _, hg, hq, _, hin, _⟩ := hI.out.item_r hy ht; exact ⟨q, a, hg, hq, hin⟩) h) ?_
    rintro e w' ⟨v5, rfl, q1⟩
    rw [there_any] at q1
    have hTT : TabIs w' 0 27 2 v5 (rowsR (allTo X.ri.l X.ri.l.length)) := q1.at_ 17 rfl
    obtain ⟨At, ct, rfl, hct, _⟩ := hTT.form
    have hrl : (rowsR (allTo X.ri.l X.ri.l.length)).length = na := by rw [rowsR, List.length_map, hna]
    rw [hrl] at hct ⊢
    exact ⟨At, ct, rfl, hct, led_drop (A := X.mod) q1⟩
  have HF7 : Hid (∀ W, Led Z.w0.heap.size Z.w0 W (X.mod ++ ({ X with n := n', li := li', fi := fi', si := si', f := f' }.S ++ (D.es ++ [blkE b26 27 #[.int .i64 u, .int .i64 v]]))) → W.cell? ⟨X.m, 1, none⟩ = some (.pointer (some ⟨X.mi, 0, none⟩)) ∧ W.cell? ⟨X.mi, 0, none⟩ = some (.int .i64 X.ri.most)) := Lib.hid fun W h => ⟨md1 h, by have := (show Blk W X.mi 82 #[.int .i64 X.ri.most, X.ig, X.ii, X.iv, X.ib] from h.at_ 0 rfl).cell 0; simpa using this⟩
  have HS : Hid (∀ W, Chg [] w4a W → W.cell? ⟨X.m, 1, none⟩ = some (.pointer (some ⟨X.mi, 0, none⟩)) ∧ W.cell? ⟨X.mi, 0, none⟩ = some (.int .i64 X.ri.most)) := Lib.hid fun W hW => HF7.out W (S4.out.later (hW.below (by simp) (Nat.le_refl _)))
  go_region_held3 (fun wx => wx.cell? ⟨X.m, 1, none⟩ = some (.pointer (some ⟨X.mi, 0, none⟩)) ∧ wx.cell? ⟨X.mi, 0, none⟩ = some (.int .i64 X.ri.most)) (first | (refine HS.out _ ?_; (repeat' first | with_reducible exact Chg.refl _ _ | with_reducible refine Chg.drew ?_ | with_reducible refine Chg.drewN ?_ _ | with_reducible refine Chg.alloc ?_ _ | with_reducible refine Chg.setCell ?_ ?_ _ | (left; simp; done) | (right; exact Nat.le_refl _) | (right; dsimp only; omega)); done) | (refine HS2.out _ ?_; (repeat' first | with_reducible exact Chg.refl _ _ | with_reducible refine Chg.drew ?_ | with_reducible refine Chg.drewN ?_ _ | with_reducible refine Chg.alloc ?_ _ | with_reducible refine Chg.setCell ?_ ?_ _ | (left; simp; done) | (right; exact Nat.le_refl _) | (right; dsimp only; omega)); done)) ((go_at_call 40; refine Calls.mono (HT.out _ S4.out.drew) ?_; rintro e w5 ⟨At, ct, rfl, hct, q1⟩; have S5m := Lib.hid q1; have HS2 : Hid (∀ W, Chg [] w5 W → W.cell? ⟨X.m, 1, none⟩ = some (.pointer (some ⟨X.mi, 0, none⟩)) ∧ W.cell? ⟨X.mi, 0, none⟩ = some (.int .i64 X.ri.most)) := Lib.hid (fun W hW => HF7.out W (S5m.out.later (hW.below (by simp) (Nat.le_refl _)))); clear q1))
  have S5 : Hid (Led Z.w0.heap.size Z.w0 w5 ({ X with n := n', li := li', fi := fi', si := si', f := f' }.mem ++ (D.es ++ [blkE b26 27 #[.int .i64 u, .int .i64 v]]))) := Lib.hid ((PM.modS (X := { X with n := n', li := li', fi := fi', si := si', f := f' })).2 S5m.out)
  clear HS HS2 HT HF7 S4 S5m
  rcases P1.out with ⟨p1, rfl, rfl, rfl, rfl, rfl⟩ | ⟨p1, p2, rfl, rfl, rfl, rfl, rfl⟩ | ⟨p1, p2, p3, rfl, rfl, rfl, rfl, rfl⟩ | ⟨p1, p2, p3, rfl, p4, p5, i, n, xh, yh, ph0, ph1, phx, pht, phy, pha⟩
  · have hd : (D.e == 0) = false := by rw [beq_eq_false_iff_ne]; exact p1
    have hre : refEq 0 0 0 0 = true := refEq_true.2 ⟨rfl, rfl⟩
    have rb : Blk w5 b26 27 #[.int .i64 0, .int .i64 0] := S5.out.at_ 27 rfl
    have s0 := rb.cell 0; have fs0 := rb.frozen 0; have s1 := rb.cell 1; have fs1 := rb.frozen 1; simp only [List.getElem?_toArray, List.getElem?_cons_zero, List.getElem?_cons_succ] at s0 s1
    clear rb
    have HINV := Lib.hid ((hI.out.n' hn').vals (X' := { X with n := n', li := li', fi := fi', si := X.si, f := X.f }) rfl)
    go_wp2_with fail
    exact HE.out { X with n := n', li := li', fi := fi', si := X.si, f := X.f } D _ _ rfl ⟨⟨rfl, rfl, rfl, rfl, rfl, rfl, rfl, rfl⟩, rfl, rfl, rfl, k1, k2, h1, by omega, i1, by omega, HINV.out, hce.out, led_front S5.out⟩
  · rw [p1]
    have hd1 : decide ((X.ri.most : Int) ≤ (na : Int)) = true := by simp; omega
    have hre : refEq 0 0 0 0 = true := refEq_true.2 ⟨rfl, rfl⟩
    have rb : Blk w5 b26 27 #[.int .i64 0, .int .i64 0] := S5.out.at_ 27 rfl
    have s0 := rb.cell 0; have fs0 := rb.frozen 0; have s1 := rb.cell 1; have fs1 := rb.frozen 1; simp only [List.getElem?_toArray, List.getElem?_cons_zero, List.getElem?_cons_succ] at s0 s1
    clear rb
    have HINV := Lib.hid ((hI.out.n' hn').vals (X' := { X with n := n', li := li', fi := fi', si := X.si, f := X.f }) rfl)
    go_wp2_with fail
    exact HE.out { X with n := n', li := li', fi := fi', si := X.si, f := X.f } D _ _ rfl ⟨⟨rfl, rfl, rfl, rfl, rfl, rfl, rfl, rfl⟩, rfl, rfl, rfl, k1, k2, h1, by omega, i1, by omega, HINV.out, hce.out, led_front S5.out⟩
  · rw [p1]
    have hd1 : decide ((X.ri.most : Int) ≤ (na : Int)) = false := by simp; omega
    obtain rfl : qb = true := by rw [← hqb]; exact p3
    have hre : refEq 0 0 0 0 = true := refEq_true.2 ⟨rfl, rfl⟩
    have rb : Blk w5 b26 27 #[.int .i64 0, .int .i64 0] := S5.out.at_ 27 rfl
    have s0 := rb.cell 0; have fs0 := rb.frozen 0; have s1 := rb.cell 1; have fs1 := rb.frozen 1; simp only [List.getElem?_toArray, List.getElem?_cons_zero, List.getElem?_cons_succ] at s0 s1
    clear rb
    have HINV := Lib.hid ((hI.out.n' hn').vals (X' := { X with n := n', li := li', fi := fi', si := X.si, f := X.f }) rfl)
    go_wp2_with fail
    exact HE.out { X with n := n', li := li', fi := fi', si := X.si, f := X.f } D _ _ rfl ⟨⟨rfl, rfl, rfl, rfl, rfl, rfl, rfl, rfl⟩, rfl, rfl, rfl, k1, k2, h1, by omega, i1, by omega, HINV.out, hce.out, led_front S5.out⟩
  · rw [p1]
    have hd1 : decide ((X.ri.most : Int) ≤ (na : Int)) = false := by simp; omega
    obtain rfl : qb = false := by rw [← hqb, p3]; rfl
    have HP3 := Lib.hid p3
    have HP4 := Lib.hid p4
    have HP5 := Lib.hid p5
    have H0 := Lib.hid ph0
    have H1 := Lib.hid ph1
    have HX := Lib.hid phx
    have HXT := Lib.hid pht
    have HY := Lib.hid phy
    have HA := Lib.hid pha
    clear p3 p4 p5 ph0 ph1 phx pht phy pha P1 hqb
    obtain ⟨Ac, cc2, hvc, hcc, hAc⟩ := int_form (pmC L.out)
    go_upto_region 47 with fail
    have hd1n : decide (X.ri.most ≤ na) = false := by simp; omega
    simp only [hd1n]
    go_cut [31, 32, 33] from 281 to 293 (fun _ s32 s33 wx => ∃ (bx : Nat) (a2 g2 : Int) (ok : Bool) (ig' ii' iv' ib' : Value) (ri' : PSt Int), s32 = .pointer (some ⟨bx, 0, none⟩) ∧ s33 = .bool ok ∧ TakeR X.ri (X.cl.length : Int) a2 g2 ok ri' ∧ Hid (Led Z.w0.heap.size Z.w0 wx ({ X with n := n', li := li', fi := fi', si := si', f := f', ig := ig', ii := ii', iv := iv', ib := ib', ri := ri' }.mem ++ (D.es ++ [blkE b26 27 #[.int .i64 u, .int .i64 v], blkE bx 27 #[.int .i64 a2, .int .i64 g2]]))))
    case first =>
      have H3 : Hid (Led Z.w0.heap.size Z.w0 (w5.alloc (.cells #[.int .i64 0, .int .i64 0] 27)) ({ X with n := n', li := li', fi := fi', si := si', f := f' }.mem ++ (D.es ++ [blkE b26 27 #[.int .i64 u, .int .i64 v], blkE w5.heap.size 27 #[.int .i64 0, .int .i64 0]]))) := Lib.hid (by have := led_end (M := { X with n := n', li := li', fi := fi', si := si', f := f' }.mem) (E := D.es ++ [blkE b26 27 #[.int .i64 u, .int .i64 v]]) (T := 27) (cs := #[.int .i64 0, .int .i64 0]) S5.out; simpa [List.append_assoc] using this)
      have lm := (pmBlk S5.out).lt
      simp only at lm
      have HS : Hid (∀ W, Chg [] w5 W → W.cell? ⟨X.m, 1, none⟩ = some (.pointer (some ⟨X.mi, 0, none⟩)) ∧ W.cell? ⟨X.m, 6, none⟩ = some (.slice Ac X.cl.length cc2)) := Lib.hid fun W hW => by
        have hl := S5.out.later (hW.below (by simp) (Nat.le_refl _))
        have m1 := pm1 hl
        have m6 := pm6 hl
        simp only [hvc] at m6
        exact ⟨m1, m6⟩
      go_region_held3 (fun wx => wx.cell? ⟨X.m, 1, none⟩ = some (.pointer (some ⟨X.mi, 0, none⟩)) ∧ wx.cell? ⟨X.m, 6, none⟩ = some (.slice Ac X.cl.length cc2)) (first | (refine HS.out _ ?_; (repeat' first | with_reducible exact Chg.refl _ _ | with_reducible refine Chg.drew ?_ | with_reducible refine Chg.drewN ?_ _ | with_reducible refine Chg.alloc ?_ _ | with_reducible refine Chg.setCell ?_ ?_ _ | (left; simp; done) | (right; exact Nat.le_refl _) | (right; dsimp only; omega)); done) | (refine HS2.out _ ?_; (repeat' first | with_reducible exact Chg.refl _ _ | with_reducible refine Chg.drew ?_ | with_reducible refine Chg.drewN ?_ _ | with_reducible refine Chg.alloc ?_ _ | with_reducible refine Chg.setCell ?_ ?_ _ | (left; simp; done) | (right; exact Nat.le_refl _) | (right; dsimp only; omega)); done)) (first | (go_at_call 38; refine Calls.mono (ref_take Z.w0.heap.size X.mi X.ig X.ii X.iv X.ib X.ri Z.w0 _ _ (X.cl.length : Int) ((PM.toI (X := { X with n := n', li := li', fi := fi', si := si', f := f' })).1 S5.out.drew) b1 b2 b3 b7) ?_; rintro e w6 ⟨a2, g2, ok, ig', ii', iv', ib', ri', rfl, q1, q2⟩; have S6 : Hid (Led Z.w0.heap.size Z.w0 w6 ({ X with n := n', li := li', fi := fi', si := si', f := f', ig := ig', ii := ii', iv := iv', ib := ib', ri := ri' }.mem ++ (D.es ++ [blkE b26 27 #[.int .i64 u, .int .i64 v]]))) := Lib.hid ((PM.toI (X := { X with n := n', li := li', fi := fi', si := si', f := f', ig := ig', ii := ii', iv := iv', ib := ib', ri := ri' })).2 q2); have Q6 := Lib.hid q1; have lm6 := (pmBlk S6.out).lt; have m1 := pm1 S6.out; have m6 := pm6 S6.out; simp only [hvc] at m6; have HS2 : Hid (∀ W, Chg [w5.heap.size] w6 W → W.cell? ⟨X.m, 1, none⟩ = some (.pointer (some ⟨X.mi, 0, none⟩)) ∧ W.cell? ⟨X.m, 6, none⟩ = some (.slice Ac X.cl.length cc2)) := Lib.hid (fun W hW => ⟨(hW.cell (p := ⟨X.m, 1, none⟩) lm6 (by simp; omega)).trans m1, (hW.cell (p := ⟨X.m, 6, none⟩) lm6 (by simp; omega)).trans m6⟩); clear q1 q2 m1 m6) | (go_at_call 38; refine Calls.mono (ref_take Z.w0.heap.size X.mi X.ig X.ii X.iv X.ib X.ri Z.w0 _ _ (X.cl.length : Int) ((PM.toI (X := { X with n := n', li := li', fi := fi', si := si', f := f' })).1 H3.out.drew) b1 b2 b3 b7) ?_; rintro e w6 ⟨a2, g2, ok, ig', ii', iv', ib', ri', rfl, q1, q2⟩; have S6 : Hid (Led Z.w0.heap.size Z.w0 w6 ({ X with n := n', li := li', fi := fi', si := si', f := f', ig := ig', ii := ii', iv := iv', ib := ib', ri := ri' }.mem ++ (D.es ++ [blkE b26 27 #[.int .i64 u, .int .i64 v], blkE w5.heap.size 27 #[.int .i64 0, .int .i64 0]]))) := Lib.hid ((PM.toI (X := { X with n := n', li := li', fi := fi', si := si', f := f', ig := ig', ii := ii', iv := iv', ib := ib', ri := ri' })).2 q2); have Q6 := Lib.hid q1; have lm6 := (pmBlk S6.out).lt; have m1 := pm1 S6.out; have m6 := pm6 S6.out; simp only [hvc] at m6; have HS2 : Hid (∀ W, Chg [w5.heap.size] w6 W → W.cell? ⟨X.m, 1, none⟩ = some (.pointer (some ⟨X.mi, 0, none⟩)) ∧ W.cell? ⟨X.m, 6, none⟩ = some (.slice Ac X.cl.length cc2)) := Lib.hid (fun W hW => ⟨(hW.cell (p := ⟨X.m, 1, none⟩) lm6 (by simp; omega)).trans m1, (hW.cell (p := ⟨X.m, 6, none⟩) lm6 (by simp; omega)).trans m6⟩); have rb : Blk w6 w5.heap.size 27 #[.int .i64 0, .int .i64 0] := S6.out.at_ 28 rfl; have c0 := rb.cell 0; have fc0 := rb.frozen 0; have c1 := rb.cell 1; have fc1 := rb.frozen 1; simp only [List.getElem?_toArray, List.getElem?_cons_zero, List.getElem?_cons_succ] at c0 c1; have lrb := rb.lt; clear rb; clear q1 q2 m1 m6))
      · go_wp2_with fail
        go_meet
        case rel => exact ⟨_, a2, g2, ok, ig', ii', iv', ib', ri', rfl, rfl, Q6.out, Lib.hid (by have := led_end (M := { X with n := n', li := li', fi := fi', si := si', f := f', ig := ig', ii := ii', iv := iv', ib := ib', ri := ri' }.mem) (E := D.es ++ [blkE b26 27 #[.int .i64 u, .int .i64 v]]) (T := 27) (cs := #[.int .i64 a2, .int .i64 g2]) S6.out; simpa [List.append_assoc] using this)⟩
      · go_wp2_with fail
        go_meet
        case rel => exact ⟨_, a2, g2, ok, ig', ii', iv', ib', ri', rfl, rfl, Q6.out, Lib.hid (led_end2 (M := { X with n := n', li := li', fi := fi', si := si', f := f', ig := ig', ii := ii', iv := iv', ib := ib', ri := ri' }.mem) (E := D.es) (F := [blkE b26 27 #[.int .i64 u, .int .i64 v]]) S6.out)⟩
    case rest =>
      obtain ⟨bx, a2, g2, ok, ig', ii', iv', ib', ri', rfl, rfl, q2, S⟩ := hcut
      have hq1 := HP4.out
      rw [H0.out, H1.out] at hq1
      obtain ⟨rfl, rfl, rfl, hgood⟩ := hI.out.put HWS.out HWR.out (by omega) bd.1 bd.2 HX.out HXT.out HY.out HP3.out hq1 q2
      have HG := Lib.hid hgood
      clear q2 hgood S5 hq1
      have rb : Blk wc b26 27 #[.int .i64 a2, .int .i64 g2] := S.out.at_ 27 rfl
      have rb2 : Blk wc bx 27 #[.int .i64 a2, .int .i64 g2] := S.out.at_ 28 rfl
      have s0 := rb.cell 0; have fs0 := rb.frozen 0; have s1 := rb.cell 1; have fs1 := rb.frozen 1; simp only [List.getElem?_toArray, List.getElem?_cons_zero, List.getElem?_cons_succ] at s0 s1
      have t0 := rb2.cell 0; have ft0 := rb2.frozen 0; have t1 := rb2.cell 1; have ft1 := rb2.frozen 1; simp only [List.getElem?_toArray, List.getElem?_cons_zero, List.getElem?_cons_succ] at t0 t1
      clear rb rb2
      have hre : refEq a2 g2 a2 g2 = true := refEq_true.2 ⟨rfl, rfl⟩
      go_upto_region 50 with fail
      have hlk := hI.out.lcl
      have hli := hI.out.lin
      refine pl_r50 Z.w0.heap.size { X with n := n', li := li', fi := fi', si := si', f := f', ig := ig', ii := ii', iv := iv', ib := ib', ri := ri' } cc D.a Z.w0 wc (D.es ++ [blkE b26 27 #[.int .i64 a2, .int .i64 g2], blkE bx 27 #[.int .i64 a2, .int .i64 g2]]) _ _ rfl rfl rfl rfl rfl ⟨by simp only; omega, by simp only; omega⟩ S.out (fun c a d v w h => HPan.out c a d v w h) ?_
      clear s0 s1 t0 t1 fs0 fs1 ft0 ft1 S
      intro n0 n1 ac w7 hsz hde hk hl
      have S7 := Lib.hid hl
      clear hl
      obtain ⟨g1, g5, g6, g7, g8, g9, g10, g11, g12, g13, g14, g20, g21, g25, g26⟩ := hk
      obtain ⟨gs, hgs, rfl⟩ := frame_open ac hsz hde
      clear hsz hde
      replace g1 : gs 1 = .slice Z.A1 Z.n1 Z.c1 := hgs 1 _ g1
      replace g5 : gs 5 = .pointer (some ⟨X.t, 0, none⟩) := hgs 5 _ g5
      replace g6 : gs 6 = .pointer (some ⟨X.m, 0, none⟩) := hgs 6 _ g6
      replace g7 : gs 7 = D.hs := hgs 7 _ g7
      replace g8 : gs 8 = D.is_ := hgs 8 _ g8
      replace g9 : gs 9 = .int .i64 (D.k : Int) := hgs 9 _ g9
      replace g10 : gs 10 = .pointer (some ⟨D.xb, 0, none⟩) := hgs 10 _ g10
      replace g11 : gs 11 = .pointer (some ⟨D.hb, 0, none⟩) := hgs 11 _ g11
      replace g13 : gs 13 = .pointer (some ⟨D.cb, 0, none⟩) := hgs 13 _ g13
      replace g26 : gs 26 = .pointer (some ⟨b26, 0, none⟩) := hgs 26 _ g26
      clear hgs g12 g14 g20 g21 g25
      simp only [g1, g5, g6, g7, g8, g9, g10, g11, g13, g26]
      clear g1 g5 g6 g7 g8 g9 g10 g11 g13 g26
      have rb : Blk w7 b26 27 #[.int .i64 a2, .int .i64 g2] := S7.out.at_ 27 rfl
      have s0 := rb.cell 0; have fs0 := rb.frozen 0; have s1 := rb.cell 1; have fs1 := rb.frozen 1; simp only [List.getElem?_toArray, List.getElem?_cons_zero, List.getElem?_cons_succ] at s0 s1
      clear rb
      have hll : (rowsR D.IS).length ≤ 1000000000 := by rw [rowsR, List.length_map]; omega
      have hT2 : TabIs w7 0 27 2 D.is_ (rowsR D.IS) := S7.out.at_ 22 rfl
      have HT2 := Lib.hid hT2
      clear hT2
      simp only [Exit.then]
      go_wp2_with (at_builtin; refine wpList_push (by rfl) (.tmp 317) (.tmp 319) 25 (by rfl) 0 27 _ 2 16 Try.underlying25 info_ref_ (by rfl) (by decide) D.is_ _ #[.int .i64 a2, .int .i64 g2] (by rfl) (by exact HT2.out) (by rfl) (by rfl) (one_ref _ _) hll (by decide) (Nat.zero_le _) ?_; intro v' w' q1 q2 q3)
      have S8 : Hid (Led Z.w0.heap.size Z.w0 w' ({ X with n := n', li := li', fi := fi', si := si', f := f', ig := ig', ii := ii', iv := iv', ib := ib', ri := ri', vc := n0, vi := n1, cl := X.cl ++ [cc], inn := X.inn ++ [D.a] }.mem ++ ({ D with is_ := v', IS := D.IS ++ [(a2, g2)] }.es ++ [blkE b26 27 #[.int .i64 a2, .int .i64 g2], blkE bx 27 #[.int .i64 a2, .int .i64 g2]]))) := Lib.hid (S7.out.step 22 rfl (tabE 27 2 v' (rowsR (D.IS ++ [(a2, g2)]))) q2 (by simpa [rowsR, tabE] using q1) q3)
      clear q1 q2 q3 S7
      have HINV := Lib.hid (HG.out n' li' fi' ig' ii' iv' ib' n0 n1 hn')
      rw [← HA.out, ← HP5.out] at HINV
      exact HN.out { X with n := n', li := li', fi := fi', si := si', f := f', ig := ig', ii := ii', iv := iv', ib := ib', ri := ri', vc := n0, vi := n1, cl := X.cl ++ [cc], inn := X.inn ++ [D.a] } { D with is_ := v', IS := D.IS ++ [(a2, g2)] } _ _ rfl ⟨⟨rfl, rfl, rfl, rfl, rfl, rfl, rfl, rfl⟩, rfl, rfl, rfl, k1, k2, h1, by show D.HS.length ≤ D.k + 2; omega, by show 1 ≤ (D.IS ++ [(a2, g2)]).length; simp, by show (D.IS ++ [(a2, g2)]).length ≤ D.k + 2; simp; omega, HINV.out, hce.out, led_front S8.out⟩
end Go.Proofs.Ytognmhgdegpdiaa
