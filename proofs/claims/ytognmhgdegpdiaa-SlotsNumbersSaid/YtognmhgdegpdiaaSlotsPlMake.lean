import Derived.Test.YtognmhgdegpdiaaSlotsPlR28
/- Handles against plain pools: Make. -/
namespace Go.Proofs.Ytognmhgdegpdiaa
open Go.RowKit
set_option linter.unusedVariables false
set_option linter.unusedSimpArgs false
set_option maxRecDepth 100000

set_option maxHeartbeats 16000000 in
theorem pl_make (Z : PB) (X : PM) (D : HD) (a : Act) (w : World) (Q : Exit → Act → World → Prop) (h : AtSw Z X D a w) (hPan : ∀ c (a : Act) d v w, Q (.panic c) (a.put d v) w → Q (.panic c) a w) (hN : ∀ X' D' a w, D'.k = D.k → AtEnd Z X' D' a w → Q .normal a w) (hE : ∀ X' D' a w, D'.k = D.k → AtEnd Z X' D' a w → Q (.exit 1) a w) :
    PlayWp (p2 ++ [0, 1, 0]) Q a w := by
  have HPan := Lib.hid hPan
  clear hPan
  have hsz := h.fr.size
  have hde := h.fr.defers
  have v1 := h.fr.s1
  have v5 := h.fr.s5
  have v6 := h.fr.s6
  have v7 := h.fr.s7
  have v8 := h.fr.s8
  have v9 := h.fr.s9
  have v10 := h.s10
  have v11 := h.s11
  have v12 := h.s12
  have v13 := h.s13
  have v14 := h.s14
  have v15 := h.s15
  have v16 := h.s16
  have v17 := h.s17
  have v18 := h.s18
  have v19 := h.s19
  have v132 := h.s132
  have hI := Lib.hid h.inv
  have hGH := Lib.hid h.gh
  have hGO := Lib.hid h.go
  have hGI := Lib.hid h.gi
  have L := Lib.hid h.led
  have HN := Lib.hid hN
  have HE := Lib.hid hE
  have k1 := h.k1
  have k2 := h.k2
  have h1 := h.h1
  have h2 := h.h2
  have i1 := h.i1
  have i2 := h.i2
  have hce := Lib.hid h.ce
  have hkk := Lib.hid h.kk
  clear h hN hE
  obtain ⟨fs, hfs, rfl⟩ := frame_open a hsz hde
  clear hsz hde
  replace v1 := hfs _ _ v1
  replace v5 := hfs _ _ v5
  replace v6 := hfs _ _ v6
  replace v7 := hfs _ _ v7
  replace v8 := hfs _ _ v8
  replace v9 := hfs _ _ v9
  replace v10 := hfs _ _ v10
  replace v11 := hfs _ _ v11
  replace v12 := hfs _ _ v12
  replace v13 := hfs _ _ v13
  replace v14 := hfs _ _ v14
  replace v15 := hfs _ _ v15
  replace v16 := hfs _ _ v16
  replace v17 := hfs _ _ v17
  replace v18 := hfs _ _ v18
  replace v19 := hfs _ _ v19
  replace v132 := hfs _ _ v132
  clear hfs
  simp only [v1, v5, v6, v7, v8, v9, v10, v11, v12, v13, v14, v15, v16, v17, v18, v19, v132]
  clear v1 v5 v6 v7 v8 v9 v10 v11 v12 v13 v14 v15 v16 v17 v18 v19 v132
  unfold PlayWp
  conv => arg 2; whnf
  have ra := hdAsk L.out
  have x0 := ra.cell 0; have fx0 := ra.frozen 0; have x1 := ra.cell 1; have fx1 := ra.frozen 1; have x2 := ra.cell 2; have fx2 := ra.frozen 2; have x3 := ra.cell 3; have fx3 := ra.frozen 3; have x4 := ra.cell 4; have fx4 := ra.frozen 4; have x5 := ra.cell 5; have fx5 := ra.frozen 5; have x6 := ra.cell 6; have fx6 := ra.frozen 6; have x7 := ra.cell 7; have fx7 := ra.frozen 7; simp only [List.getElem?_toArray, List.getElem?_cons_zero, List.getElem?_cons_succ] at x0 x1 x2 x3 x4 x5 x6 x7
  clear ra
  have bd := within_bd D.kk 0 6 (by omega)
  have hkk2 := hkk.out
  unfold in64 at hkk2
  go_wp2_with fail
  refine Calls.mono (within_any D.kk 0 6 _ (by omega) (by omega) (by omega) (by omega) (by omega)) ?_
  generalize within D.kk 0 6 = kk at bd ⊢
  rintro e wq ⟨rfl, rfl⟩
  clear hkk2 x0 x1 x2 x3 x4 x5 x6 x7 fx0 fx1 fx2 fx3 fx4 fx5 fx6 fx7
  go_wp2_with fail
  refine Calls.mono (slots_make Z.w0.heap.size X.t X.ph X.pi X.b X.n X.lh X.fh X.li X.fi X.sh X.si X.f Z.w0 w _ kk (PM.toS.1 L.out)) ?_
  rintro e w2 ⟨a1, g1, e0, lh', fh', sh', rfl, q1, q2⟩
  have Q1 := Lib.hid q1
  have S3 := Lib.hid (led_end (M := { X with lh := lh', fh := fh', sh := sh' }.mem) (E := D.es) (T := 27) (cs := #[.int .i64 a1, .int .i64 g1]) ((PM.toS (X := { X with lh := lh', fh := fh', sh := sh' })).2 q2))
  clear q1 q2
  go_upto_region 21 with fail
  generalize w2.alloc (.cells #[.int .i64 a1, .int .i64 g1] 27) = w3 at S3 ⊢
  generalize w2.heap.size = b21 at S3 ⊢
  have rq := ref_neq
  by_cases hin : 1 ≤ kk ∧ kk ≤ 5
  · have hd1 : decide (kk < 1) = false := by simp; omega
    have hd2 : decide (5 < kk) = false := by simp; omega
    have hd3 : decide (kk > 5) = false := by simp; omega
    obtain ⟨Ak, ck, hvk, hck, hAk⟩ := int_form (pmK L.out)
    obtain ⟨b1, b2, b3, b4, b5, b6, b7, b8⟩ := pm_small hI.out L.out
    have hWF := pmWF L.out
    have HWS := Lib.hid hWF.1
    have HWR := Lib.hid (hI.out.simH.wf hWF.1)
    clear hWF
    go_upto_region 24 with fail
    go_cut [23, 24] from 158 to 170 (fun s23 s24 wx => ∃ (bx : Nat) (a2 g2 : Int) (ok : Bool) (hg' hi' hv' hb' : Value) (rh' : PSt Int), s23 = .pointer (some ⟨bx, 0, none⟩) ∧ s24 = .bool ok ∧ TakeR X.rh (X.kd.length : Int) a2 g2 ok rh' ∧ Hid (Led Z.w0.heap.size Z.w0 wx ({ X with lh := lh', fh := fh', sh := sh', hg := hg', hi := hi', hv := hv', hb := hb', rh := rh' }.mem ++ (D.es ++ [blkE b21 27 #[.int .i64 a1, .int .i64 g1], blkE bx 27 #[.int .i64 a2, .int .i64 g2]]))))
    case first =>
      have H3 : Hid (Led Z.w0.heap.size Z.w0 (w3.alloc (.cells #[.int .i64 0, .int .i64 0] 27)) ({ X with lh := lh', fh := fh', sh := sh' }.mem ++ (D.es ++ [blkE b21 27 #[.int .i64 a1, .int .i64 g1], blkE w3.heap.size 27 #[.int .i64 0, .int .i64 0]]))) := Lib.hid (by have := led_end (M := { X with lh := lh', fh := fh', sh := sh' }.mem) (E := D.es ++ [blkE b21 27 #[.int .i64 a1, .int .i64 g1]]) (T := 27) (cs := #[.int .i64 0, .int .i64 0]) S3.out; simpa [List.append_assoc] using this)
      have lm := (pmBlk S3.out).lt
      simp only at lm
      have HS : Hid (∀ W, Chg [] w3 W → W.cell? ⟨X.m, 0, none⟩ = some (.pointer (some ⟨X.mh, 0, none⟩)) ∧ W.cell? ⟨X.m, 2, none⟩ = some (.slice Ak X.kd.length ck)) := Lib.hid fun W hW => by
        have hl := S3.out.later (hW.below (by simp) (Nat.le_refl _))
        have m0 := pm0 hl
        have m2 := pm2 hl
        simp only [hvk] at m2
        exact ⟨m0, m2⟩
      go_region_held3 (fun wx => wx.cell? ⟨X.m, 0, none⟩ = some (.pointer (some ⟨X.mh, 0, none⟩)) ∧ wx.cell? ⟨X.m, 2, none⟩ = some (.slice Ak X.kd.length ck)) (first | (refine HS.out _ ?_; (repeat' first | with_reducible exact Chg.refl _ _ | with_reducible refine Chg.drew ?_ | with_reducible refine Chg.drewN ?_ _ | with_reducible refine Chg.alloc ?_ _ | with_reducible refine Chg.setCell ?_ ?_ _ | (left; simp; done) | (right; exact Nat.le_refl _) | (right; dsimp only; omega)); done) | (refine HS2.out _ ?_; (repeat' first | with_reducible exact Chg.refl _ _ | with_reducible refine Chg.drew ?_ | with_reducible refine Chg.drewN ?_ _ | with_reducible refine Chg.alloc ?_ _ | with_reducible refine Chg.setCell ?_ ?_ _ | (left; simp; done) | (right; exact Nat.le_refl _) | (right; dsimp only; omega)); done)) (first | (go_at_call 38; refine Calls.mono (ref_take Z.w0.heap.size X.mh X.hg X.hi X.hv X.hb X.rh Z.w0 _ _ (X.kd.length : Int) ((PM.toH (X := { X with lh := lh', fh := fh', sh := sh' })).1 S3.out.drew) b4 b5 b6 b8) ?_; rintro e w4 ⟨a2, g2, ok, hg', hi', hv', hb', rh', rfl, q1, q2⟩; have S4 : Hid (Led Z.w0.heap.size Z.w0 w4 ({ X with lh := lh', fh := fh', sh := sh', hg := hg', hi := hi', hv := hv', hb := hb', rh := rh' }.mem ++ (D.es ++ [blkE b21 27 #[.int .i64 a1, .int .i64 g1]]))) := Lib.hid ((PM.toH (X := { X with lh := lh', fh := fh', sh := sh', hg := hg', hi := hi', hv := hv', hb := hb', rh := rh' })).2 q2); have Q4 := Lib.hid q1; have lm4 := (pmBlk S4.out).lt; have m0 := pm0 S4.out; have m2 := pm2 S4.out; simp only [hvk] at m2; have HS2 : Hid (∀ W, Chg [w3.heap.size] w4 W → W.cell? ⟨X.m, 0, none⟩ = some (.pointer (some ⟨X.mh, 0, none⟩)) ∧ W.cell? ⟨X.m, 2, none⟩ = some (.slice Ak X.kd.length ck)) := Lib.hid (fun W hW => ⟨(hW.cell (p := ⟨X.m, 0, none⟩) lm4 (by simp; omega)).trans m0, (hW.cell (p := ⟨X.m, 2, none⟩) lm4 (by simp; omega)).trans m2⟩); clear q1 q2 m0 m2) | (go_at_call 38; refine Calls.mono (ref_take Z.w0.heap.size X.mh X.hg X.hi X.hv X.hb X.rh Z.w0 _ _ (X.kd.length : Int) ((PM.toH (X := { X with lh := lh', fh := fh', sh := sh' })).1 H3.out.drew) b4 b5 b6 b8) ?_; rintro e w4 ⟨a2, g2, ok, hg', hi', hv', hb', rh', rfl, q1, q2⟩; have S4 : Hid (Led Z.w0.heap.size Z.w0 w4 ({ X with lh := lh', fh := fh', sh := sh', hg := hg', hi := hi', hv := hv', hb := hb', rh := rh' }.mem ++ (D.es ++ [blkE b21 27 #[.int .i64 a1, .int .i64 g1], blkE w3.heap.size 27 #[.int .i64 0, .int .i64 0]]))) := Lib.hid ((PM.toH (X := { X with lh := lh', fh := fh', sh := sh', hg := hg', hi := hi', hv := hv', hb := hb', rh := rh' })).2 q2); have Q4 := Lib.hid q1; have lm4 := (pmBlk S4.out).lt; have m0 := pm0 S4.out; have m2 := pm2 S4.out; simp only [hvk] at m2; have HS2 : Hid (∀ W, Chg [w3.heap.size] w4 W → W.cell? ⟨X.m, 0, none⟩ = some (.pointer (some ⟨X.mh, 0, none⟩)) ∧ W.cell? ⟨X.m, 2, none⟩ = some (.slice Ak X.kd.length ck)) := Lib.hid (fun W hW => ⟨(hW.cell (p := ⟨X.m, 0, none⟩) lm4 (by simp; omega)).trans m0, (hW.cell (p := ⟨X.m, 2, none⟩) lm4 (by simp; omega)).trans m2⟩); have rb : Blk w4 w3.heap.size 27 #[.int .i64 0, .int .i64 0] := S4.out.at_ 28 rfl; have c0 := rb.cell 0; have fc0 := rb.frozen 0; have c1 := rb.cell 1; have fc1 := rb.frozen 1; simp only [List.getElem?_toArray, List.getElem?_cons_zero, List.getElem?_cons_succ] at c0 c1; have lrb := rb.lt; clear rb; clear q1 q2 m0 m2))
      · go_wp2_with fail
        go_meet
        case rel => exact ⟨_, a2, g2, ok, hg', hi', hv', hb', rh', rfl, rfl, Q4.out, Lib.hid (by have := led_end (M := { X with lh := lh', fh := fh', sh := sh', hg := hg', hi := hi', hv := hv', hb := hb', rh := rh' }.mem) (E := D.es ++ [blkE b21 27 #[.int .i64 a1, .int .i64 g1]]) (T := 27) (cs := #[.int .i64 a2, .int .i64 g2]) S4.out; simpa [List.append_assoc] using this)⟩
      · go_wp2_with fail
        go_meet
        case rel => exact ⟨_, a2, g2, ok, hg', hi', hv', hb', rh', rfl, rfl, Q4.out, Lib.hid (led_end2 (M := { X with lh := lh', fh := fh', sh := sh', hg := hg', hi := hi', hv := hv', hb := hb', rh := rh' }.mem) (E := D.es) (F := [blkE b21 27 #[.int .i64 a1, .int .i64 g1]]) S4.out)⟩
    case rest =>
      obtain ⟨bx, a2, g2, ok, hg', hi', hv', hb', rh', rfl, rfl, q2, S⟩ := hcut
      obtain ⟨rfl, rfl, he0, hbad, hgood⟩ := hI.out.make HWS.out HWR.out hin.1 hin.2 Q1.out q2
      have HB := Lib.hid hbad
      have HG := Lib.hid hgood
      clear q2 hbad hgood S3 Q1
      have rb : Blk wc b21 27 #[.int .i64 a2, .int .i64 g2] := S.out.at_ 27 rfl
      have rb2 : Blk wc bx 27 #[.int .i64 a2, .int .i64 g2] := S.out.at_ 28 rfl
      have s0 := rb.cell 0; have fs0 := rb.frozen 0; have s1 := rb.cell 1; have fs1 := rb.frozen 1; simp only [List.getElem?_toArray, List.getElem?_cons_zero, List.getElem?_cons_succ] at s0 s1
      have t0 := rb2.cell 0; have ft0 := rb2.frozen 0; have t1 := rb2.cell 1; have ft1 := rb2.frozen 1; simp only [List.getElem?_toArray, List.getElem?_cons_zero, List.getElem?_cons_succ] at t0 t1
      clear rb rb2
      have hre : refEq a2 g2 a2 g2 = true := refEq_true.2 ⟨rfl, rfl⟩
      cases ok with
      | false =>
        obtain rfl : e0 = 13 := he0
        obtain ⟨rfl, rfl⟩ := HB.out rfl
        have HINV := Lib.hid (hI.out.mono.vals (X' := { X with lh := lh', fh := fh', hg := hg', hi := hi', hv := hv', hb := hb' }) rfl)
        go_wp2_with fail
        exact HN.out { X with lh := lh', fh := fh', hg := hg', hi := hi', hv := hv', hb := hb' } D _ _ rfl ⟨⟨rfl, rfl, rfl, rfl, rfl, rfl, rfl, rfl⟩, rfl, rfl, rfl, k1, k2, h1, by omega, i1, by omega, HINV.out, hce.out, led_front S.out⟩
      | true =>
        obtain rfl : e0 = 0 := he0
        go_upto_region 28 with fail
        have hne : X.m ≠ b21 := fun e => S.out.apart 14 27 rfl rfl (by decide) X.m (by simp [blkE]) (by simp [blkE, e])
        have hlk := hI.out.lkd
        have hlr := hI.out.lrt
        have hln := hI.out.lnn
        have hlf := hI.out.lrf
        refine pl_r28 Z.w0.heap.size { X with lh := lh', fh := fh', sh := sh', hg := hg', hi := hi', hv := hv', hb := hb', rh := rh' } b21 kk a2 g2 Z.w0 wc (D.es ++ [blkE b21 27 #[.int .i64 a2, .int .i64 g2], blkE bx 27 #[.int .i64 a2, .int .i64 g2]]) _ _ rfl rfl rfl rfl rfl ⟨by simp only; omega, by simp only; omega, by simp only; omega, by simp only; omega⟩ (by simp) hne S.out (fun c a d v w h => HPan.out c a d v w h) ?_
        intro n0 n1 n2 n3 ac w5 hsz hde hk hl
        clear s0 s1 t0 t1 fs0 fs1 ft0 ft1 S
        have S7 := Lib.hid hl
        clear hl
        obtain ⟨g1, g5, g6, g7, g8, g9, g10, g11, g12, g13, g14, g20, g21, g25, g26⟩ := hk
        obtain ⟨gs, hgs, rfl⟩ := frame_open ac hsz hde
        clear hsz hde
        replace g1 : gs 1 = .slice Z.A1 Z.n1 Z.c1 := hgs 1 _ g1
        replace g5 : gs 5 = .pointer (some ⟨X.t, 0, none⟩) := hgs 5 _ g5
        replace g6 : gs 6 = .pointer (some ⟨X.m, 0, none⟩) := hgs 6 _ g6
        replace g7 : gs 7 = D.hs := hgs 7 _ g7
        replace g8 : gs 8 = D.is_ := hgs 8 _ g8
        replace g9 : gs 9 = .int .i64 (D.k : Int) := hgs 9 _ g9
        replace g10 : gs 10 = .pointer (some ⟨D.xb, 0, none⟩) := hgs 10 _ g10
        replace g11 : gs 11 = .pointer (some ⟨D.hb, 0, none⟩) := hgs 11 _ g11
        replace g13 : gs 13 = .pointer (some ⟨D.cb, 0, none⟩) := hgs 13 _ g13
        replace g21 : gs 21 = .pointer (some ⟨b21, 0, none⟩) := hgs 21 _ g21
        clear hgs g12 g14 g20 g25 g26
        simp only [g1, g5, g6, g7, g8, g9, g10, g11, g13, g21]
        clear g1 g5 g6 g7 g8 g9 g10 g11 g13 g21
        have rb : Blk w5 b21 27 #[.int .i64 a2, .int .i64 g2] := S7.out.at_ 27 rfl
        have s0 := rb.cell 0; have fs0 := rb.frozen 0; have s1 := rb.cell 1; have fs1 := rb.frozen 1; simp only [List.getElem?_toArray, List.getElem?_cons_zero, List.getElem?_cons_succ] at s0 s1
        clear rb
        have hll : (rowsR D.HS).length ≤ 1000000000 := by rw [rowsR, List.length_map]; omega
        have hT2 : TabIs w5 0 27 2 D.hs (rowsR D.HS) := S7.out.at_ 21 rfl
        have HT2 := Lib.hid hT2
        clear hT2
        simp only [Exit.then]
        go_wp2_with (at_builtin; refine wpList_push (by rfl) (.tmp 227) (.tmp 229) 25 (by rfl) 0 27 _ 2 16 Try.underlying25 info_ref_ (by rfl) (by decide) D.hs _ #[.int .i64 a2, .int .i64 g2] (by rfl) (by exact HT2.out) (by rfl) (by rfl) (one_ref _ _) hll (by decide) (Nat.zero_le _) ?_; intro v' w' q1 q2 q3)
        have S8 : Hid (Led Z.w0.heap.size Z.w0 w' ({ X with lh := lh', fh := fh', sh := sh', hg := hg', hi := hi', hv := hv', hb := hb', rh := rh', vk := n0, vr := n1, vn := n2, vf := n3, kd := X.kd ++ [kk], rt := X.rt ++ [-1], nn := X.nn ++ [0], rf := X.rf ++ [(a2, g2)] }.mem ++ ({ D with hs := v', HS := D.HS ++ [(a2, g2)] }.es ++ [blkE b21 27 #[.int .i64 a2, .int .i64 g2], blkE bx 27 #[.int .i64 a2, .int .i64 g2]]))) := Lib.hid (S7.out.step 21 rfl (tabE 27 2 v' (rowsR (D.HS ++ [(a2, g2)]))) q2 (by simpa [rowsR, tabE] using q1) q3)
        clear q1 q2 q3 S7
        have HINV := Lib.hid ((HG.out (by trivial) lh' fh' hg' hi' hv' hb' n0 n1 n2 n3))
        exact HN.out { X with lh := lh', fh := fh', sh := sh', hg := hg', hi := hi', hv := hv', hb := hb', rh := rh', vk := n0, vr := n1, vn := n2, vf := n3, kd := X.kd ++ [kk], rt := X.rt ++ [-1], nn := X.nn ++ [0], rf := X.rf ++ [(a2, g2)] } { D with hs := v', HS := D.HS ++ [(a2, g2)] } _ _ rfl ⟨⟨rfl, rfl, rfl, rfl, rfl, rfl, rfl, rfl⟩, rfl, rfl, rfl, k1, k2, by show 1 ≤ (D.HS ++ [(a2, g2)]).length; simp, by show (D.HS ++ [(a2, g2)]).length ≤ D.k + 2; simp; omega, i1, by show D.IS.length ≤ D.k + 2; omega, HINV.out, hce.out, led_front S8.out⟩
  · have hin2 : ¬ (1 ≤ kk ∧ kk ≤ 5) := hin
    obtain ⟨rfl, rfl, rfl, rfl⟩ : a1 = 0 ∧ g1 = 0 ∧ e0 = 24 ∧ sh' = X.sh := by
      rcases Q1.out with ⟨_, rfl, rfl, rfl, rfl⟩ | ⟨hx, _⟩
      · exact ⟨rfl, rfl, rfl, rfl⟩
      · exact absurd (by simpa using hx) hin
    have hre : refEq 0 0 0 0 = true := refEq_true.2 ⟨rfl, rfl⟩
    have rb : Blk w3 b21 27 #[.int .i64 0, .int .i64 0] := S3.out.at_ 27 rfl
    have s0 := rb.cell 0; have fs0 := rb.frozen 0; have s1 := rb.cell 1; have fs1 := rb.frozen 1; simp only [List.getElem?_toArray, List.getElem?_cons_zero, List.getElem?_cons_succ] at s0 s1
    clear rb
    have HINV := Lib.hid (hI.out.mono.vals (X' := { X with lh := lh', fh := fh' }) rfl)
    by_cases h1k : kk < 1
    · have hd1 : decide (kk < 1) = true := by simpa using h1k
      go_wp2_with fail
      exact HE.out { X with lh := lh', fh := fh' } D _ _ rfl ⟨⟨rfl, rfl, rfl, rfl, rfl, rfl, rfl, rfl⟩, rfl, rfl, rfl, k1, k2, h1, by omega, i1, by omega, HINV.out, hce.out, led_front S3.out⟩
    · have hd1 : decide (kk < 1) = false := by simpa using h1k
      have hd2 : decide (5 < kk) = true := by simp; omega
      have hd3 : decide (kk > 5) = true := by simp; omega
      go_wp2_with fail
      exact HE.out { X with lh := lh', fh := fh' } D _ _ rfl ⟨⟨rfl, rfl, rfl, rfl, rfl, rfl, rfl, rfl⟩, rfl, rfl, rfl, k1, k2, h1, by omega, i1, by omega, HINV.out, hce.out, led_front S3.out⟩
end Go.Proofs.Ytognmhgdegpdiaa
