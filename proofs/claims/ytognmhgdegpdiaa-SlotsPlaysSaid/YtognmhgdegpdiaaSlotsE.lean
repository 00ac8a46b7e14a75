import Derived.Test.YtognmhgdegpdiaaSlotsPQ
/- The table of slots: what each method does; End. -/
namespace Go.Proofs.Ytognmhgdegpdiaa
open Go.RowKit
open Go.Maps (Keyed)
set_option linter.unusedVariables false
set_option linter.unusedSimpArgs false
set_option maxRecDepth 100000

set_option maxHeartbeats 2000000 in
theorem slots_end (B t ph pi b n : Nat) (lh fh li fi : Value) (sh si : PSt V3) (f : Int → Option (Int × Int)) (w0 w : World) (es : List Ent) (a g : Int) (hg : GensOk si) (hi : CellsOk si) (h : Led B w0 w (slotEs t ph pi b n lh fh li fi sh si f ++ es)) :
    Calls Try.prog 15 #[.pointer (some ⟨t, 0, none⟩), .agg #[.int .i64 a, .int .i64 g]] w fun e w' => ∃ (e0 : Int) (fh' fi' : Value) (sh' si' : PSt V3) (f' : Int → Option (Int × Int)), e = .returned (.int .i64 e0) ∧ EndR sh si f a g e0 sh' si' f' ∧ Led B w0 w' (slotEs t ph pi b n lh fh' li fi' sh' si' f' ++ es) := by
  have hw1 := (slotItems h).wf.le
  have hw2 := (slotItems h).wf.most
  have hlq := listQ_len si a g si.l.length
  have HG := Lib.hid hg
  have HI := Lib.hid hi
  have H := Lib.hid h
  clear hg hi h
  refine callsR fun R hR => ?_
  go_enter Try.func15, Try.ntmps15
  go_upto_region 1 with fail
  go_cut [5, 6] (fun sx sy wx => ∃ (jb : Nat) (v : V3) (e0 : Int), sx = .pointer (some ⟨jb, 0, none⟩) ∧ sy = .int .i64 e0 ∧ GetR ⟨0, 0, 0⟩ sh a g v e0 ∧ Hid (Led B w0 wx (slotEs t ph pi b n lh fh li fi sh si f ++ blkE (w.heap.size) 27 #[.int .i64 a, .int .i64 g] :: blkE (jb) 52 #[.int .i64 v.a, .int .i64 v.b, .int .i64 v.c] :: es)))
  case first =>
    have S1 := led_new (A := slotEs t ph pi b n lh fh li fi sh si f) (C := es) (T := 27) (cs := #[.int .i64 a, .int .i64 g]) H.out
    generalize w.alloc (.cells #[.int .i64 a, .int .i64 g] 27) = wy at S1 ⊢
    have H2 : Hid (Led B w0 wy (slotEs t ph pi b n lh fh li fi sh si f ++ blkE (w.heap.size) 27 #[.int .i64 a, .int .i64 g] :: es)) := Lib.hid (S1)
    have H3 : Hid (Led B w0 (wy.alloc (.cells #[.int .i64 0, .int .i64 0, .int .i64 0] 52)) (slotEs t ph pi b n lh fh li fi sh si f ++ blkE (w.heap.size) 27 #[.int .i64 a, .int .i64 g] :: blkE (wy.heap.size) 52 #[.int .i64 0, .int .i64 0, .int .i64 0] :: es)) := Lib.hid (led_new (A := slotEs t ph pi b n lh fh li fi sh si f ++ [blkE (w.heap.size) 27 #[.int .i64 a, .int .i64 g]]) (C := es) (T := 52) (cs := #[.int .i64 0, .int .i64 0, .int .i64 0]) H2.out)
    have ltt := (slotBlk H2.out).lt
    have ltr : w.heap.size < wy.heap.size := (show Blk wy (w.heap.size) 27 #[.int .i64 a, .int .i64 g] from H2.out.at_ 4 rfl).lt
    have HS : Hid (∀ W, Chg [] wy W → W.cell? ⟨t, 0, none⟩ = some (.pointer (some ⟨ph, 0, none⟩)) ∧ W.cell? ⟨w.heap.size, 0, none⟩ = some (.int .i64 a) ∧ W.cell? ⟨w.heap.size, 1, none⟩ = some (.int .i64 g)) :=
      Lib.hid fun W hW => have hl := H2.out.later (hW.below (by simp) (Nat.le_refl _)); ⟨slot_t0 hl, (show Blk W (w.heap.size) 27 #[.int .i64 a, .int .i64 g] from hl.at_ 4 rfl).cell 0, (show Blk W (w.heap.size) 27 #[.int .i64 a, .int .i64 g] from hl.at_ 4 rfl).cell 1⟩
    go_region_held3 (fun wx => wx.cell? ⟨t, 0, none⟩ = some (.pointer (some ⟨ph, 0, none⟩)) ∧ wx.cell? ⟨w.heap.size, 0, none⟩ = some (.int .i64 a) ∧ wx.cell? ⟨w.heap.size, 1, none⟩ = some (.int .i64 g)) (first | (refine HS.out _ ?_; (repeat' first | with_reducible exact Chg.refl _ _ | with_reducible refine Chg.drew ?_ | with_reducible refine Chg.drewN ?_ _ | with_reducible refine Chg.alloc ?_ _ | with_reducible refine Chg.setCell ?_ ?_ _ | (left; simp; done) | (right; exact Nat.le_refl _) | (right; dsimp only; omega)); done) | (refine HS2.out _ ?_; (repeat' first | with_reducible exact Chg.refl _ _ | with_reducible refine Chg.drew ?_ | with_reducible refine Chg.drewN ?_ _ | with_reducible refine Chg.alloc ?_ _ | with_reducible refine Chg.setCell ?_ ?_ _ | (left; simp; done) | (right; exact Nat.le_refl _) | (right; dsimp only; omega)); done)) (first | (go_at_call 25; refine Calls.mono (pool_get_heap ph lh fh sh a g _ (slotHeaps H2.out.drew)) ?_; rintro e w2 ⟨v, e0, rfl, q1, q2⟩; have S4 : Hid (Led B w0 w2 (slotEs t ph pi b n lh fh li fi sh si f ++ blkE (w.heap.size) 27 #[.int .i64 a, .int .i64 g] :: es)) := Lib.hid (H2.out.drew.later q2); have lt2 := q2.size; have HS2 : Hid (∀ W, Chg [wy.heap.size] w2 W → W.cell? ⟨t, 0, none⟩ = some (.pointer (some ⟨ph, 0, none⟩)) ∧ W.cell? ⟨w.heap.size, 0, none⟩ = some (.int .i64 a) ∧ W.cell? ⟨w.heap.size, 1, none⟩ = some (.int .i64 g)) := Lib.hid (fun W hW => ⟨(hW.cell (p := ⟨t, 0, none⟩) (slotBlk S4.out).lt (by simp; omega)).trans (slot_t0 S4.out), (hW.cell (p := ⟨w.heap.size, 0, none⟩) (show Blk w2 (w.heap.size) 27 #[.int .i64 a, .int .i64 g] from S4.out.at_ 4 rfl).lt (by simp; omega)).trans ((show Blk w2 (w.heap.size) 27 #[.int .i64 a, .int .i64 g] from S4.out.at_ 4 rfl).cell 0), (hW.cell (p := ⟨w.heap.size, 1, none⟩) (show Blk w2 (w.heap.size) 27 #[.int .i64 a, .int .i64 g] from S4.out.at_ 4 rfl).lt (by simp; omega)).trans ((show Blk w2 (w.heap.size) 27 #[.int .i64 a, .int .i64 g] from S4.out.at_ 4 rfl).cell 1)⟩); have Q1 := Lib.hid q1; clear q1 q2) | (go_at_call 25; refine Calls.mono (pool_get_heap ph lh fh sh a g _ (slotHeaps H3.out.drew)) ?_; rintro e w2 ⟨v, e0, rfl, q1, q2⟩; have S4 : Hid (Led B w0 w2 (slotEs t ph pi b n lh fh li fi sh si f ++ blkE (w.heap.size) 27 #[.int .i64 a, .int .i64 g] :: blkE (wy.heap.size) 52 #[.int .i64 0, .int .i64 0, .int .i64 0] :: es)) := Lib.hid (H3.out.drew.later q2); have lt2 := q2.size; have HS2 : Hid (∀ W, Chg [wy.heap.size] w2 W → W.cell? ⟨t, 0, none⟩ = some (.pointer (some ⟨ph, 0, none⟩)) ∧ W.cell? ⟨w.heap.size, 0, none⟩ = some (.int .i64 a) ∧ W.cell? ⟨w.heap.size, 1, none⟩ = some (.int .i64 g)) := Lib.hid (fun W hW => ⟨(hW.cell (p := ⟨t, 0, none⟩) (slotBlk S4.out).lt (by simp; omega)).trans (slot_t0 S4.out), (hW.cell (p := ⟨w.heap.size, 0, none⟩) (show Blk w2 (w.heap.size) 27 #[.int .i64 a, .int .i64 g] from S4.out.at_ 4 rfl).lt (by simp; omega)).trans ((show Blk w2 (w.heap.size) 27 #[.int .i64 a, .int .i64 g] from S4.out.at_ 4 rfl).cell 0), (hW.cell (p := ⟨w.heap.size, 1, none⟩) (show Blk w2 (w.heap.size) 27 #[.int .i64 a, .int .i64 g] from S4.out.at_ 4 rfl).lt (by simp; omega)).trans ((show Blk w2 (w.heap.size) 27 #[.int .i64 a, .int .i64 g] from S4.out.at_ 4 rfl).cell 1)⟩); have rb : Blk w2 wy.heap.size 52 #[.int .i64 0, .int .i64 0, .int .i64 0] := S4.out.at_ 5 rfl; have c0 := rb.cell 0; have fc0 := rb.frozen 0; have c1 := rb.cell 1; have fc1 := rb.frozen 1; have c2 := rb.cell 2; have fc2 := rb.frozen 2; simp only [List.getElem?_toArray, List.getElem?_cons_zero, List.getElem?_cons_succ] at c0 c1 c2; have lrb := rb.lt; clear rb; have Q1 := Lib.hid q1; clear q1 q2))
    · go_wp2_with fail
      go_meet
      case rel => exact ⟨_, v, e0, rfl, rfl, Q1.out, Lib.hid (led_new (A := slotEs t ph pi b n lh fh li fi sh si f ++ [blkE (w.heap.size) 27 #[.int .i64 a, .int .i64 g]]) (C := es) S4.out)⟩
    · go_wp2_with fail
      go_meet
      case rel => exact ⟨_, v, e0, rfl, rfl, Q1.out, Lib.hid (led_store3 (A := slotEs t ph pi b n lh fh li fi sh si f ++ [blkE (w.heap.size) 27 #[.int .i64 a, .int .i64 g]]) (C := es) S4.out)⟩
  case rest =>
    clear H
    obtain ⟨jb, v, e0, rfl, rfl, q1, S⟩ := hcut
    have Q1 := Lib.hid q1
    clear q1
    have rb : Blk wc jb 52 #[.int .i64 v.a, .int .i64 v.b, .int .i64 v.c] := S.out.at_ 5 rfl
    have lb := rb.lt
    have c0 := rb.cell 0; have fc0 := rb.frozen 0; have c1 := rb.cell 1; have fc1 := rb.frozen 1; have c2 := rb.cell 2; have fc2 := rb.frozen 2; simp only [List.getElem?_toArray, List.getElem?_cons_zero, List.getElem?_cons_succ] at c0 c1 c2
    clear rb
    have hr0 : Blk wc w.heap.size 27 #[.int .i64 a, .int .i64 g] := S.out.at_ 4 rfl
    have h0 := hr0.cell 0; have fh0 := hr0.frozen 0; have h1 := hr0.cell 1; have fh1 := hr0.frozen 1; simp only [List.getElem?_toArray, List.getElem?_cons_zero, List.getElem?_cons_succ] at h0 h1
    clear hr0
    rcases Q1.out with ⟨he, hl, _⟩ | ⟨i, x, rfl, rfl, hx, hxt, hg1, rfl, rfl⟩
    · have hne : (e0 != 0) = true := by simpa using he
      go_wp2_with fail
      exact hR.out _ _ ⟨e0, fh, fi, sh, si, f, rfl, .inl ⟨he, hl, rfl, rfl, rfl⟩, led_cut (A := slotEs t ph pi b n lh fh li fi sh si f) (M := [_, _]) (C := es) S.out⟩
    · have HX := Lib.hid hx; have HXT := Lib.hid hxt; clear hx hxt Q1
      go_wp2_with fail
      refine Calls.mono (slots_list B t ph pi b n lh fh li fi sh si f w0 wc _ (i : Int) x.gen HG.out S.out) ?_
      rintro e w1 ⟨v, rfl, q1⟩
      generalize hT : listQ si (i : Int) x.gen (allTo si.l si.l.length) = T at *
      have hTT : TabIs w1 0 27 2 v (rowsR T) := q1.at_ 4 rfl
      obtain ⟨At, ct, rfl, hct, hAt⟩ := hTT.form
      obtain ⟨nt, hnt⟩ : ∃ n, T.length = n := ⟨_, rfl⟩
      have hrl : (rowsR T).length = nt := by rw [rowsR, List.length_map, hnt]
      rw [hrl] at hct hAt q1 ⊢
      have S1 : Hid (Led B w0 w1 (slotEs t ph pi b n lh fh li fi sh si f ++ tabE 27 2 (.slice At nt ct) (rowsR T) :: blkE (w.heap.size) 27 #[.int .i64 i, .int .i64 x.gen] :: blkE (jb) 52 #[.int .i64 x.v.a, .int .i64 x.v.b, .int .i64 x.v.c] :: es)) := Lib.hid q1
      have HTE := Lib.hid hT
      have HNT := Lib.hid hnt
      clear q1 hTT hT S h0 fh0 h1 fh1 c0 fc0 c1 fc1 c2 fc2 lb
      go_wp2_with fail
      go_loopw [27] (fun k wx => ∃ (j : Nat) (fj : Value) (sj : PSt V3) (fm : Int → Option (Int × Int)), j ≤ nt ∧ k = .int .i64 j ∧ Hid (takeAll si f (T.take j) = (sj, fm)) ∧ Hid (Led B w0 wx (slotEs t ph pi b n lh fh li fj sh sj fm ++ tabE 27 2 (.slice At nt ct) (rowsR T) :: blkE (w.heap.size) 27 #[.int .i64 i, .int .i64 x.gen] :: blkE (jb) 52 #[.int .i64 x.v.a, .int .i64 x.v.b, .int .i64 x.v.c] :: es))) (fun k _ => nt - (intOf k).toNat)
      case atStart => exact ⟨0, fi, si, f, by omega, rfl, Lib.hid rfl, S1⟩
      case round =>
        clear S1
        obtain ⟨j, fj, sj, fm, hj, rfl, HM, ST⟩ := hrel
        by_cases hlt : j < nt
        · obtain ⟨r, hr⟩ : ∃ r, T[j]? = some r := ⟨_, List.getElem?_eq_getElem (by omega)⟩
          obtain ⟨i2, x2, rfl, hx2, hxt2, _, _⟩ := listQ_get (by rw [HTE.out]; exact hr)
          have hg2 := HG.out i2 x2 hx2 hxt2
          have hsame : sj.l[i2]? = some x2 := by
            have := takeFold_at i2 (T.take j) (si, f) (sorted_ahead (by rw [← HTE.out]; exact listQ_sorted _ _ _ _) (by rw [← HTE.out]; exact listQ_pos) hr)
            have h2 : ((T.take j).foldl takeStep (si, f)).1 = sj := by have := HM.out; unfold takeAll at this; rw [this]
            rw [h2] at this
            exact this.trans hx2
          have hco : CellsOk sj := by
            have := CellsOk.fold (T.take j) (si, f) HI.out
            have h2 := HM.out
            unfold takeAll at h2
            rw [h2] at this
            exact this
          have HCO := Lib.hid hco
          have hms : takeAll si f (T.take (j + 1)) = (sj.giveAt i2 x2 ⟨0, 0, 0⟩, upd fm x2.v.a none) := by
            have h2 := HM.out
            unfold takeAll at h2 ⊢
            rw [foldl_take_succ _ _ hr, h2]
            simp [takeStep, hsame]
          have HMS := Lib.hid hms
          obtain ⟨gt, rfl, hgt0, _⟩ := hAt (by omega)
          have hTT : TabIs wr 0 27 2 (.slice (some ⟨gt, 0, none⟩) nt ct) (rowsR T) := ST.out.at_ 4 rfl
          have hgt : gt < wr.heap.size := (hTT.lt gt (by simp [Value.ownBlock])).2
          have t0 : wr.cell? ⟨gt, j * 2, none⟩ = some (.int .i64 (i2 : Int)) := hTT.cell (j := 0) (r := [.int .i64 (i2 : Int), .int .i64 x2.gen]) (by rw [rowsR, List.getElem?_map, hr]; rfl) rfl
          have t1 : wr.cell? ⟨gt, j * 2 + 1, none⟩ = some (.int .i64 x2.gen) := hTT.cell (j := 1) (r := [.int .i64 (i2 : Int), .int .i64 x2.gen]) (by rw [rowsR, List.getElem?_map, hr]; rfl) rfl
          have HX2 := Lib.hid hsame; have HXT2 := Lib.hid hxt2
          clear hx2 hxt2 hr hTT hsame hco hms HM
          go_wp2_with fail
          have S2 := Lib.hid (led_new (A := slotEs t ph pi b n lh fh li fj sh sj fm ++ [tabE 27 2 (.slice (some ⟨gt, 0, none⟩) nt ct) (rowsR T), blkE (w.heap.size) 27 #[.int .i64 i, .int .i64 x.gen], blkE (jb) 52 #[.int .i64 x.v.a, .int .i64 x.v.b, .int .i64 x.v.c]]) (C := es) (T := 27) (cs := #[.int .i64 i2, .int .i64 x2.gen]) ST.out)
          refine Calls.mono (slots_take B t ph pi b n lh fh li fj sh sj fm w0 _ _ (i2 : Int) x2.gen HCO.out S2.out) ?_
          rintro e w2 ⟨v, e0, fj', sj', rfl, q1, q2⟩
          obtain ⟨rfl, rfl, rfl⟩ := q1.ok HX2.out HXT2.out hg2
          rw [if_pos rfl] at q2
          have S5 := Lib.hid (led_drop (A := slotEs t ph pi b n lh fh li fj' sh (sj.giveAt i2 x2 ⟨0, 0, 0⟩) (upd fm x2.v.a none) ++ [tabE 27 2 (.slice (some ⟨gt, 0, none⟩) nt ct) (rowsR T), blkE (w.heap.size) 27 #[.int .i64 i, .int .i64 x.gen], blkE (jb) 52 #[.int .i64 x.v.a, .int .i64 x.v.b, .int .i64 x.v.c]]) q2)
          clear q1 q2 S2
          go_wp2_with fail
          go_roundw
          case rel => exact ⟨j + 1, fj', _, _, by omega, by go_num, HMS, S5⟩
          case measure => simp [intOf]; omega
        · obtain rfl : nt = j := by omega
          have hM := HM.out
          rw [List.take_of_length_le (by omega)] at hM
          have HM3 := Lib.hid hM
          clear hM HM
          go_upto_region 9 with fail
          go_cut [9, 10] (fun sx sy wx => ∃ (kb : Nat) (v : V3) (e0 : Int) (fh' : Value) (sh' : PSt V3), sx = .pointer (some ⟨kb, 0, none⟩) ∧ sy = .int .i64 e0 ∧ GiveR ⟨0, 0, 0⟩ sh i x.gen v e0 sh' ∧ Hid (Led B w0 wx (slotEs t ph pi b n lh fh' li fj sh' sj fm ++ tabE 27 2 (.slice At nt ct) (rowsR T) :: blkE (w.heap.size) 27 #[.int .i64 i, .int .i64 x.gen] :: blkE (jb) 52 #[.int .i64 x.v.a, .int .i64 x.v.b, .int .i64 x.v.c] :: blkE (kb) 52 #[.int .i64 v.a, .int .i64 v.b, .int .i64 v.c] :: es)))
          case first =>
            have S3 := ST.out
            generalize wr = wy at S3 ⊢
            have H2 : Hid (Led B w0 wy (slotEs t ph pi b n lh fh li fj sh sj fm ++ tabE 27 2 (.slice At nt ct) (rowsR T) :: blkE (w.heap.size) 27 #[.int .i64 i, .int .i64 x.gen] :: blkE (jb) 52 #[.int .i64 x.v.a, .int .i64 x.v.b, .int .i64 x.v.c] :: es)) := Lib.hid (S3)
            have H3 : Hid (Led B w0 (wy.alloc (.cells #[.int .i64 0, .int .i64 0, .int .i64 0] 52)) (slotEs t ph pi b n lh fh li fj sh sj fm ++ tabE 27 2 (.slice At nt ct) (rowsR T) :: blkE (w.heap.size) 27 #[.int .i64 i, .int .i64 x.gen] :: blkE (jb) 52 #[.int .i64 x.v.a, .int .i64 x.v.b, .int .i64 x.v.c] :: blkE (wy.heap.size) 52 #[.int .i64 0, .int .i64 0, .int .i64 0] :: es)) := Lib.hid (led_new (A := slotEs t ph pi b n lh fh li fj sh sj fm ++ [tabE 27 2 (.slice At nt ct) (rowsR T), blkE (w.heap.size) 27 #[.int .i64 i, .int .i64 x.gen], blkE (jb) 52 #[.int .i64 x.v.a, .int .i64 x.v.b, .int .i64 x.v.c]]) (C := es) (T := 52) (cs := #[.int .i64 0, .int .i64 0, .int .i64 0]) H2.out)
            have ltt := (slotBlk H2.out).lt
            have ltr : w.heap.size < wy.heap.size := (show Blk wy (w.heap.size) 27 #[.int .i64 i, .int .i64 x.gen] from H2.out.at_ 5 rfl).lt
            have HS : Hid (∀ W, Chg [] wy W → W.cell? ⟨t, 0, none⟩ = some (.pointer (some ⟨ph, 0, none⟩)) ∧ W.cell? ⟨w.heap.size, 0, none⟩ = some (.int .i64 i) ∧ W.cell? ⟨w.heap.size, 1, none⟩ = some (.int .i64 x.gen)) :=
              Lib.hid fun W hW => have hl := H2.out.later (hW.below (by simp) (Nat.le_refl _)); ⟨slot_t0 hl, (show Blk W (w.heap.size) 27 #[.int .i64 i, .int .i64 x.gen] from hl.at_ 5 rfl).cell 0, (show Blk W (w.heap.size) 27 #[.int .i64 i, .int .i64 x.gen] from hl.at_ 5 rfl).cell 1⟩
            go_region_held3 (fun wx => wx.cell? ⟨t, 0, none⟩ = some (.pointer (some ⟨ph, 0, none⟩)) ∧ wx.cell? ⟨w.heap.size, 0, none⟩ = some (.int .i64 i) ∧ wx.cell? ⟨w.heap.size, 1, none⟩ = some (.int .i64 x.gen)) (first | (refine HS.out _ ?_; (repeat' first | with_reducible exact Chg.refl _ _ | with_reducible refine Chg.drew ?_ | with_reducible refine Chg.drewN ?_ _ | with_reducible refine Chg.alloc ?_ _ | with_reducible refine Chg.setCell ?_ ?_ _ | (left; simp; done) | (right; exact Nat.le_refl _) | (right; dsimp only; omega)); done) | (refine HS2.out _ ?_; (repeat' first | with_reducible exact Chg.refl _ _ | with_reducible refine Chg.drew ?_ | with_reducible refine Chg.drewN ?_ _ | with_reducible refine Chg.alloc ?_ _ | with_reducible refine Chg.setCell ?_ ?_ _ | (left; simp; done) | (right; exact Nat.le_refl _) | (right; dsimp only; omega)); done)) (first | (go_at_call 32; refine Calls.mono (pool_give_heap ph lh fh sh i x.gen _ (slotHeaps H2.out.drew)) ?_; rintro e w2 ⟨v, e0, fh', sh', rfl, q1, q2, q3, q4⟩; have S4 : Hid (Led B w0 w2 (slotEs t ph pi b n lh fh' li fj sh' sj fm ++ tabE 27 2 (.slice At nt ct) (rowsR T) :: blkE (w.heap.size) 27 #[.int .i64 i, .int .i64 x.gen] :: blkE (jb) 52 #[.int .i64 x.v.a, .int .i64 x.v.b, .int .i64 x.v.c] :: es)) := Lib.hid (H2.out.drew.step 1 rfl (heapP ph lh fh' sh') q3 q2 q4); have lt2 := q3.size; have HS2 : Hid (∀ W, Chg [wy.heap.size] w2 W → W.cell? ⟨t, 0, none⟩ = some (.pointer (some ⟨ph, 0, none⟩)) ∧ W.cell? ⟨w.heap.size, 0, none⟩ = some (.int .i64 i) ∧ W.cell? ⟨w.heap.size, 1, none⟩ = some (.int .i64 x.gen)) := Lib.hid (fun W hW => ⟨(hW.cell (p := ⟨t, 0, none⟩) (slotBlk S4.out).lt (by simp; omega)).trans (slot_t0 S4.out), (hW.cell (p := ⟨w.heap.size, 0, none⟩) (show Blk w2 (w.heap.size) 27 #[.int .i64 i, .int .i64 x.gen] from S4.out.at_ 5 rfl).lt (by simp; omega)).trans ((show Blk w2 (w.heap.size) 27 #[.int .i64 i, .int .i64 x.gen] from S4.out.at_ 5 rfl).cell 0), (hW.cell (p := ⟨w.heap.size, 1, none⟩) (show Blk w2 (w.heap.size) 27 #[.int .i64 i, .int .i64 x.gen] from S4.out.at_ 5 rfl).lt (by simp; omega)).trans ((show Blk w2 (w.heap.size) 27 #[.int .i64 i, .int .i64 x.gen] from S4.out.at_ 5 rfl).cell 1)⟩); have Q1 := Lib.hid q1; clear q1 q2 q3 q4) | (go_at_call 32; refine Calls.mono (pool_give_heap ph lh fh sh i x.gen _ (slotHeaps H3.out.drew)) ?_; rintro e w2 ⟨v, e0, fh', sh', rfl, q1, q2, q3, q4⟩; have S4 : Hid (Led B w0 w2 (slotEs t ph pi b n lh fh' li fj sh' sj fm ++ tabE 27 2 (.slice At nt ct) (rowsR T) :: blkE (w.heap.size) 27 #[.int .i64 i, .int .i64 x.gen] :: blkE (jb) 52 #[.int .i64 x.v.a, .int .i64 x.v.b, .int .i64 x.v.c] :: blkE (wy.heap.size) 52 #[.int .i64 0, .int .i64 0, .int .i64 0] :: es)) := Lib.hid (H3.out.drew.step 1 rfl (heapP ph lh fh' sh') q3 q2 q4); have lt2 := q3.size; have HS2 : Hid (∀ W, Chg [wy.heap.size] w2 W → W.cell? ⟨t, 0, none⟩ = some (.pointer (some ⟨ph, 0, none⟩)) ∧ W.cell? ⟨w.heap.size, 0, none⟩ = some (.int .i64 i) ∧ W.cell? ⟨w.heap.size, 1, none⟩ = some (.int .i64 x.gen)) := Lib.hid (fun W hW => ⟨(hW.cell (p := ⟨t, 0, none⟩) (slotBlk S4.out).lt (by simp; omega)).trans (slot_t0 S4.out), (hW.cell (p := ⟨w.heap.size, 0, none⟩) (show Blk w2 (w.heap.size) 27 #[.int .i64 i, .int .i64 x.gen] from S4.out.at_ 5 rfl).lt (by simp; omega)).trans ((show Blk w2 (w.heap.size) 27 #[.int .i64 i, .int .i64 x.gen] from S4.out.at_ 5 rfl).cell 0), (hW.cell (p := ⟨w.heap.size, 1, none⟩) (show Blk w2 (w.heap.size) 27 #[.int .i64 i, .int .i64 x.gen] from S4.out.at_ 5 rfl).lt (by simp; omega)).trans ((show Blk w2 (w.heap.size) 27 #[.int .i64 i, .int .i64 x.gen] from S4.out.at_ 5 rfl).cell 1)⟩); have rb : Blk w2 wy.heap.size 52 #[.int .i64 0, .int .i64 0, .int .i64 0] := S4.out.at_ 7 rfl; have c0 := rb.cell 0; have fc0 := rb.frozen 0; have c1 := rb.cell 1; have fc1 := rb.frozen 1; have c2 := rb.cell 2; have fc2 := rb.frozen 2; simp only [List.getElem?_toArray, List.getElem?_cons_zero, List.getElem?_cons_succ] at c0 c1 c2; have lrb := rb.lt; clear rb; have Q1 := Lib.hid q1; clear q1 q2 q3 q4))
            · go_wp2_with fail
              go_meet
              case rel => exact ⟨_, v, e0, fh', sh', rfl, rfl, Q1.out, Lib.hid (led_new (A := slotEs t ph pi b n lh fh' li fj sh' sj fm ++ [tabE 27 2 (.slice At nt ct) (rowsR T), blkE (w.heap.size) 27 #[.int .i64 i, .int .i64 x.gen], blkE (jb) 52 #[.int .i64 x.v.a, .int .i64 x.v.b, .int .i64 x.v.c]]) (C := es) S4.out)⟩
            · go_wp2_with fail
              go_meet
              case rel => exact ⟨_, v, e0, fh', sh', rfl, rfl, Q1.out, Lib.hid (led_store3 (A := slotEs t ph pi b n lh fh' li fj sh' sj fm ++ [tabE 27 2 (.slice At nt ct) (rowsR T), blkE (w.heap.size) 27 #[.int .i64 i, .int .i64 x.gen], blkE (jb) 52 #[.int .i64 x.v.a, .int .i64 x.v.b, .int .i64 x.v.c]]) (C := es) S4.out)⟩
          case rest =>
            clear ST
            obtain ⟨kb, v, e0, fh', sh', rfl, rfl, q1, S⟩ := hcut
            have Q1 := Lib.hid q1
            clear q1
            obtain ⟨rfl, rfl, rfl⟩ := Q1.out.ok HX.out HXT.out hg1
            go_wp2_with fail
            exact hR.out _ _ ⟨0, _, fj, _, sj, fm, rfl, .inr ⟨i, x, rfl, rfl, HX.out, HXT.out, hg1, rfl, rfl, by rw [HTE.out]; exact HM3.out.symm⟩, led_cut (A := slotEs t ph pi b n lh fh' li fj (sh.giveAt i x ⟨0, 0, 0⟩) sj fm) (M := [_, _, _, _]) (C := es) S.out⟩

end Go.Proofs.Ytognmhgdegpdiaa
