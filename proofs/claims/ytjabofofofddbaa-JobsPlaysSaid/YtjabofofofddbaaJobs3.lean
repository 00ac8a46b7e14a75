/- The table of jobs: what each method does; the third part: Count, Move. -/
import Derived.Test.YtjabofofofddbaaJobs2
import Derived.Test.YtjabofofofddbaaJobsA
namespace Go.Proofs.Ytjabofofofddbaa
open Go.RowKit
open Go.Maps (Keyed)
set_option linter.unusedVariables false
set_option linter.unusedSimpArgs false
set_option maxRecDepth 100000

set_option maxHeartbeats 2000000 in
theorem jobs_count (B t p b n : Nat) (lv fv : Value) (s : PSt V5) (f : Int × Int → Option (Int × Int)) (w0 w : World) (es : List Ent) (q : Int) (hg : GensOk s) (h : Led B w0 w (jobEs t p b n lv fv s f ++ es)) :
    Calls Try.prog 46 #[.pointer (some ⟨t, 0, none⟩), .int .i64 q] w fun e w' => e = .returned (.int .i64 (cntQ s q (allTo s.l s.l.length))) ∧ Led B w0 w' (jobEs t p b n lv fv s f ++ es) := by
  have t0 := job_t0 h
  have hle := allTo_le s.l s.l.length
  have hw1 := (jobPool h).wf.le
  have hw2 := (jobPool h).wf.most
  have H := Lib.hid h; clear h
  have HG := Lib.hid hg; clear hg
  refine callsR fun R hR => ?_
  go_enter Try.func46, Try.ntmps46
  go_wp2_with fail
  refine Calls.mono (pool_all_job p lv fv s B w0 w 1 _ H.out rfl) ?_
  rintro e w1 ⟨v, rfl, q1⟩
  generalize hT : allTo s.l s.l.length = T at *
  have hTT : TabIs w1 0 57 2 v (rowsR T) := q1.at_ 0 rfl
  obtain ⟨At, ct, rfl, hct, hAt⟩ := hTT.form
  obtain ⟨nt, hnt⟩ : ∃ n, T.length = n := ⟨_, rfl⟩
  have hrl : (rowsR T).length = nt := by rw [rowsR, List.length_map, hnt]
  rw [hrl] at hct hAt q1 ⊢
  have S1 : Hid (Led B w0 w1 (jobEs t p b n lv fv s f ++ tabE 57 2 (.slice At nt ct) (rowsR T) :: es)) := Lib.hid (q1.perm (List.perm_middle (l₁ := jobEs t p b n lv fv s f)).symm)
  have HTE := Lib.hid hT
  have HNT := Lib.hid hnt
  clear q1 hTT hT t0
  go_wp2_with fail
  go_loopw [5, 16] (fun c i wx => ∃ j : Nat, j ≤ nt ∧ i = .int .i64 j ∧ c = .int .i64 (cntQ s q (T.take j)) ∧ Hid (Led B w0 wx (jobEs t p b n lv fv s f ++ tabE 57 2 (.slice At nt ct) (rowsR T) :: es))) (fun _ i _ => nt - (intOf i).toNat)
  case atStart => exact ⟨0, by omega, rfl, rfl, S1⟩
  case round =>
    clear S1 H
    obtain ⟨j, hj, rfl, rfl, ST⟩ := hrel
    by_cases hlt : j < nt
    · obtain ⟨r, hr⟩ : ∃ r, T[j]? = some r := ⟨_, List.getElem?_eq_getElem (by omega)⟩
      obtain ⟨i, x, hi, rfl, hx, hxt⟩ := allTo_get (by rw [HTE.out]; exact hr)
      have hg1 := HG.out i x hx hxt
      obtain ⟨gt, rfl, hgt0, _⟩ := hAt (by omega)
      have hTT : TabIs wr 0 57 2 (.slice (some ⟨gt, 0, none⟩) nt ct) (rowsR T) := ST.out.at_ 3 rfl
      have hgt : gt < wr.heap.size := (hTT.lt gt (by simp [Value.ownBlock])).2
      have t0 : wr.cell? ⟨gt, j * 2, none⟩ = some (.int .i64 (i : Int)) := hTT.cell (j := 0) (r := [.int .i64 (i : Int), .int .i64 x.gen]) (by rw [rowsR, List.getElem?_map, hr]; rfl) rfl
      have t1 : wr.cell? ⟨gt, j * 2 + 1, none⟩ = some (.int .i64 x.gen) := hTT.cell (j := 1) (r := [.int .i64 (i : Int), .int .i64 x.gen]) (by rw [rowsR, List.getElem?_map, hr]; rfl) rfl
      have hcs := cntQ_succ (s := s) (q := q) hr
      have hcl := cntQ_le s q (T.take j)
      have hcl2 : (T.take j).length ≤ j := by rw [List.length_take]; omega
      have hiq : isQ s q ((i : Int), x.gen) = (x.v.a == q) := by simp [isQ, hx]
      rw [hiq] at hcs
      have HX := Lib.hid hx; have HXT := Lib.hid hxt
      have HCS := Lib.hid hcs
      clear hx hxt hr hcs hiq hTT hi
      go_upto_region 5 with fail
      go_cut [8, 9] (fun sx sy wx => ∃ jb : Nat, sx = .pointer (some ⟨jb, 0, none⟩) ∧ sy = .int .i64 0 ∧ Hid (Led B w0 wx (jobEs t p b n lv fv s f ++ tabE 57 2 (.slice (some ⟨gt, 0, none⟩) nt ct) (rowsR T) :: blkE wr.heap.size 57 #[.int .i64 i, .int .i64 x.gen] :: blkE jb 80 #[.int .i64 x.v.a, .int .i64 x.v.b, .int .i64 x.v.c, .int .i64 x.v.d, .int .i64 x.v.e] :: es)))
      case first =>
        have S2 := led_new (A := jobEs t p b n lv fv s f ++ [tabE 57 2 (.slice (some ⟨gt, 0, none⟩) nt ct) (rowsR T)]) (C := es) (T := 57) (cs := #[.int .i64 i, .int .i64 x.gen]) ST.out
        have hw : wr.heap.size < (wr.alloc (.cells #[.int .i64 i, .int .i64 x.gen] 57)).heap.size := by simp
        have hgt2 : gt < wr.heap.size := hgt
        clear t0 t1
        generalize wr.alloc (.cells #[.int .i64 i, .int .i64 x.gen] 57) = wy at S2 hw ⊢
        have H2 : Hid (Led B w0 wy (jobEs t p b n lv fv s f ++ tabE 57 2 (.slice (some ⟨gt, 0, none⟩) nt ct) (rowsR T) :: blkE wr.heap.size 57 #[.int .i64 i, .int .i64 x.gen] :: es)) := Lib.hid S2
        have H3 : Hid (Led B w0 (wy.alloc (.cells #[.int .i64 0, .int .i64 0, .int .i64 0, .int .i64 0, .int .i64 0] 80)) (jobEs t p b n lv fv s f ++ tabE 57 2 (.slice (some ⟨gt, 0, none⟩) nt ct) (rowsR T) :: blkE wr.heap.size 57 #[.int .i64 i, .int .i64 x.gen] :: blkE wy.heap.size 80 #[.int .i64 0, .int .i64 0, .int .i64 0, .int .i64 0, .int .i64 0] :: es)) := Lib.hid (led_new (A := jobEs t p b n lv fv s f ++ [tabE 57 2 (.slice (some ⟨gt, 0, none⟩) nt ct) (rowsR T), blkE wr.heap.size 57 #[.int .i64 i, .int .i64 x.gen]]) (C := es) (T := 80) (cs := #[.int .i64 0, .int .i64 0, .int .i64 0, .int .i64 0, .int .i64 0]) S2)
        have ltt := (jobBlk H2.out).lt
        have HS : Hid (∀ W, Chg [] wy W → W.cell? ⟨t, 0, none⟩ = some (.pointer (some ⟨p, 0, none⟩)) ∧ W.cell? ⟨wr.heap.size, 0, none⟩ = some (.int .i64 i) ∧ W.cell? ⟨wr.heap.size, 1, none⟩ = some (.int .i64 x.gen)) :=
          Lib.hid fun W hW => have hl := H2.out.later (hW.below (by simp) (Nat.le_refl _)); ⟨job_t0 hl, (show Blk W wr.heap.size 57 #[.int .i64 i, .int .i64 x.gen] from hl.at_ 4 rfl).cell 0, (show Blk W wr.heap.size 57 #[.int .i64 i, .int .i64 x.gen] from hl.at_ 4 rfl).cell 1⟩
        clear S2
        go_region_held3 (fun wx => wx.cell? ⟨t, 0, none⟩ = some (.pointer (some ⟨p, 0, none⟩)) ∧ wx.cell? ⟨wr.heap.size, 0, none⟩ = some (.int .i64 i) ∧ wx.cell? ⟨wr.heap.size, 1, none⟩ = some (.int .i64 x.gen)) (first | (refine HS.out _ ?_; (repeat' first | with_reducible exact Chg.refl _ _ | with_reducible refine Chg.drew ?_ | with_reducible refine Chg.drewN ?_ _ | with_reducible refine Chg.alloc ?_ _ | with_reducible refine Chg.setCell ?_ ?_ _ | (left; simp; done) | (right; exact Nat.le_refl _) | (right; dsimp only; omega)); done) | (refine HS2.out _ ?_; (repeat' first | with_reducible exact Chg.refl _ _ | with_reducible refine Chg.drew ?_ | with_reducible refine Chg.drewN ?_ _ | with_reducible refine Chg.alloc ?_ _ | with_reducible refine Chg.setCell ?_ ?_ _ | (left; simp; done) | (right; exact Nat.le_refl _) | (right; dsimp only; omega)); done)) (first | (go_at_call 81; refine Calls.mono (pool_get_ok_job p lv fv s i x _ (jobPool H2.out.drew) HX.out HXT.out hg1) ?_; rintro e w2 ⟨rfl, q1⟩; have S4 := Lib.hid (H2.out.drew.later q1); have lt2 := q1.size; have HS2 : Hid (∀ W, Chg [wy.heap.size] w2 W → W.cell? ⟨t, 0, none⟩ = some (.pointer (some ⟨p, 0, none⟩)) ∧ W.cell? ⟨wr.heap.size, 0, none⟩ = some (.int .i64 i) ∧ W.cell? ⟨wr.heap.size, 1, none⟩ = some (.int .i64 x.gen)) := Lib.hid (fun W hW => ⟨(hW.cell (p := ⟨t, 0, none⟩) (jobBlk S4.out).lt (by simp; omega)).trans (job_t0 S4.out), (hW.cell (p := ⟨wr.heap.size, 0, none⟩) (S4.out.lt_ 4 rfl wr.heap.size (by simp [blkE])) (by simp; omega)).trans ((show Blk w2 wr.heap.size 57 #[.int .i64 i, .int .i64 x.gen] from S4.out.at_ 4 rfl).cell 0), (hW.cell (p := ⟨wr.heap.size, 1, none⟩) (S4.out.lt_ 4 rfl wr.heap.size (by simp [blkE])) (by simp; omega)).trans ((show Blk w2 wr.heap.size 57 #[.int .i64 i, .int .i64 x.gen] from S4.out.at_ 4 rfl).cell 1)⟩); clear q1) | (go_at_call 81; refine Calls.mono (pool_get_ok_job p lv fv s i x _ (jobPool H3.out.drew) HX.out HXT.out hg1) ?_; rintro e w2 ⟨rfl, q1⟩; have S4 := Lib.hid (H3.out.drew.later q1); have lt2 := q1.size; have HS2 : Hid (∀ W, Chg [wy.heap.size] w2 W → W.cell? ⟨t, 0, none⟩ = some (.pointer (some ⟨p, 0, none⟩)) ∧ W.cell? ⟨wr.heap.size, 0, none⟩ = some (.int .i64 i) ∧ W.cell? ⟨wr.heap.size, 1, none⟩ = some (.int .i64 x.gen)) := Lib.hid (fun W hW => ⟨(hW.cell (p := ⟨t, 0, none⟩) (jobBlk S4.out).lt (by simp; omega)).trans (job_t0 S4.out), (hW.cell (p := ⟨wr.heap.size, 0, none⟩) (S4.out.lt_ 4 rfl wr.heap.size (by simp [blkE])) (by simp; omega)).trans ((show Blk w2 wr.heap.size 57 #[.int .i64 i, .int .i64 x.gen] from S4.out.at_ 4 rfl).cell 0), (hW.cell (p := ⟨wr.heap.size, 1, none⟩) (S4.out.lt_ 4 rfl wr.heap.size (by simp [blkE])) (by simp; omega)).trans ((show Blk w2 wr.heap.size 57 #[.int .i64 i, .int .i64 x.gen] from S4.out.at_ 4 rfl).cell 1)⟩); have rb : Blk w2 wy.heap.size 80 #[.int .i64 0, .int .i64 0, .int .i64 0, .int .i64 0, .int .i64 0] := S4.out.at_ 5 rfl; have c0 := rb.cell 0; have fc0 := rb.frozen 0; have c1 := rb.cell 1; have fc1 := rb.frozen 1; have c2 := rb.cell 2; have fc2 := rb.frozen 2; have c3 := rb.cell 3; have fc3 := rb.frozen 3; have c4 := rb.cell 4; have fc4 := rb.frozen 4; simp only [List.getElem?_toArray, List.getElem?_cons_zero, List.getElem?_cons_succ] at c0 c1 c2 c3 c4; have lrb := rb.lt; clear rb q1))
        · go_wp2_with fail
          go_meet
          case rel => exact ⟨_, rfl, rfl, Lib.hid (led_new (A := jobEs t p b n lv fv s f ++ [tabE 57 2 (.slice (some ⟨gt, 0, none⟩) nt ct) (rowsR T), blkE wr.heap.size 57 #[.int .i64 i, .int .i64 x.gen]]) S4.out)⟩
        · go_wp2_with fail
          go_meet
          case rel => exact ⟨_, rfl, rfl, Lib.hid (led_store5 (A := jobEs t p b n lv fv s f ++ [tabE 57 2 (.slice (some ⟨gt, 0, none⟩) nt ct) (rowsR T), blkE wr.heap.size 57 #[.int .i64 i, .int .i64 x.gen]]) S4.out)⟩
      case rest =>
        clear ST t0 t1
        obtain ⟨jb, rfl, rfl, S⟩ := hcut
        have rb : Blk wc jb 80 #[.int .i64 x.v.a, .int .i64 x.v.b, .int .i64 x.v.c, .int .i64 x.v.d, .int .i64 x.v.e] := S.out.at_ 5 rfl
        have c0 := rb.cell 0
        simp only [List.getElem?_toArray, List.getElem?_cons_zero] at c0
        clear rb
        have S5 := Lib.hid (led_drop (A := jobEs t p b n lv fv s f ++ [tabE 57 2 (.slice (some ⟨gt, 0, none⟩) nt ct) (rowsR T)]) (led_drop (A := jobEs t p b n lv fv s f ++ [tabE 57 2 (.slice (some ⟨gt, 0, none⟩) nt ct) (rowsR T), blkE wr.heap.size 57 #[.int .i64 i, .int .i64 x.gen]]) S.out))
        generalize cntQ s q (T.take j) = cq at *
        obtain ⟨qq, hqq⟩ : ∃ qq : Bool, (x.v.a == q) = qq := ⟨_, rfl⟩
        rw [hqq] at HCS
        cases qq with
        | true =>
          go_wp2_with fail
          go_roundw
          case rel => exact ⟨j + 1, by omega, by go_num, by rw [HCS.out, if_pos rfl]; go_num, S5⟩
          case measure => simp [intOf]; omega
        | false =>
          go_wp2_with fail
          go_roundw
          case rel => exact ⟨j + 1, by omega, by go_num, by rw [HCS.out]; rfl, S5⟩
          case measure => simp [intOf]; omega
    · obtain rfl : j = nt := by omega
      rw [List.take_of_length_le (by omega)]
      go_wp2_with fail
      exact hR.out _ _ ⟨rfl, led_drop (A := jobEs t p b n lv fv s f) ST.out⟩

theorem led_cell {B : Nat} {w0 w : World} {A C : List Ent} {g : Nat} {T : TypeId} {cs : Array Value} (i : Nat) (u : Value) (h : Led B w0 w (A ++ blkE g T cs :: C)) : Led B w0 (w.setCell ⟨g, i, none⟩ u) (A ++ blkE g T (cs.setIfInBounds i u) :: C) := by
  have hb : Blk w g T cs := h.mem
  exact h.mid _ ((Chg.refl _ _).setCell (p := ⟨g, i, none⟩) (.inl (by simp [blkE])) u) (hb.set_ i u) (Fresh.refl _ _)

set_option maxHeartbeats 4000000 in
theorem jobs_move (B t p b n : Nat) (lv fv : Value) (s : PSt V5) (f : Int × Int → Option (Int × Int)) (w0 w : World) (es : List Ent) (q tq : Int) (hg : GensOk s) (h : Led B w0 w (jobEs t p b n lv fv s f ++ es)) :
    Calls Try.prog 48 #[.pointer (some ⟨t, 0, none⟩), .int .i64 q, .int .i64 tq] w fun e w' => e = .returned (.int .i64 (moveTo q tq s (allTo s.l s.l.length)).2) ∧ Led B w0 w' (jobEs t p b n lv fv (moveTo q tq s (allTo s.l s.l.length)).1 f ++ es) := by
  have t0 := job_t0 h
  have hle := allTo_le s.l s.l.length
  have hw1 := (jobPool h).wf.le
  have hw2 := (jobPool h).wf.most
  have H := Lib.hid h; clear h
  have HG := Lib.hid hg; clear hg
  refine callsR fun R hR => ?_
  go_enter Try.func48, Try.ntmps48
  go_wp2_with fail
  refine Calls.mono (pool_all_job p lv fv s B w0 w 1 _ H.out rfl) ?_
  rintro e w1 ⟨v, rfl, q1⟩
  generalize hT : allTo s.l s.l.length = T at *
  have hTT : TabIs w1 0 57 2 v (rowsR T) := q1.at_ 0 rfl
  obtain ⟨At, ct, rfl, hct, hAt⟩ := hTT.form
  obtain ⟨nt, hnt⟩ : ∃ n, T.length = n := ⟨_, rfl⟩
  have hrl : (rowsR T).length = nt := by rw [rowsR, List.length_map, hnt]
  rw [hrl] at hct hAt q1 ⊢
  have S1 : Hid (Led B w0 w1 (jobEs t p b n lv fv s f ++ tabE 57 2 (.slice At nt ct) (rowsR T) :: es)) := Lib.hid (q1.perm (List.perm_middle (l₁ := jobEs t p b n lv fv s f)).symm)
  have HTE := Lib.hid hT
  have HNT := Lib.hid hnt
  clear q1 hTT hT t0
  go_wp2_with fail
  go_loopw [7, 18] (fun c k wx => ∃ (j : Nat) (sj : PSt V5) (cj : Nat), j ≤ nt ∧ k = .int .i64 j ∧ c = .int .i64 cj ∧ Hid (moveTo q tq s (T.take j) = (sj, cj)) ∧ Hid (Led B w0 wx (jobEs t p b n lv fv sj f ++ tabE 57 2 (.slice At nt ct) (rowsR T) :: es))) (fun _ k _ => nt - (intOf k).toNat)
  case atStart => exact ⟨0, s, 0, by omega, rfl, rfl, Lib.hid rfl, S1⟩
  case round =>
    clear S1 H
    obtain ⟨j, sj, cj, hj, rfl, rfl, HM, ST⟩ := hrel
    by_cases hlt : j < nt
    · obtain ⟨r, hr⟩ : ∃ r, T[j]? = some r := ⟨_, List.getElem?_eq_getElem (by omega)⟩
      obtain ⟨i, x0, hi, rfl, hx0, hxt0⟩ := allTo_get (by rw [HTE.out]; exact hr)
      have hg1 := HG.out i x0 hx0 hxt0
      have hsh : shape sj = shape s := by have := shape_move q tq s (T.take j); rw [HM.out] at this; exact this
      obtain ⟨x, hx, hxg, hxt⟩ := shape_at hsh.symm hx0
      rw [hxt0] at hxt
      rw [← hxg] at hg1 hr
      obtain ⟨gt, rfl, hgt0, _⟩ := hAt (by omega)
      have hTT : TabIs wr 0 57 2 (.slice (some ⟨gt, 0, none⟩) nt ct) (rowsR T) := ST.out.at_ 3 rfl
      have hgt : gt < wr.heap.size := (hTT.lt gt (by simp [Value.ownBlock])).2
      have t0 : wr.cell? ⟨gt, j * 2, none⟩ = some (.int .i64 (i : Int)) := hTT.cell (j := 0) (r := [.int .i64 (i : Int), .int .i64 x.gen]) (by rw [rowsR, List.getElem?_map, hr]; rfl) rfl
      have t1 : wr.cell? ⟨gt, j * 2 + 1, none⟩ = some (.int .i64 x.gen) := hTT.cell (j := 1) (r := [.int .i64 (i : Int), .int .i64 x.gen]) (by rw [rowsR, List.getElem?_map, hr]; rfl) rfl
      have hms := moveTo_succ (a := q) (b := tq) (s := s) hr
      rw [HM.out] at hms
      simp only [moveStep, Int.toNat_natCast, hx] at hms
      have hcl := move_le q tq s (T.take j)
      rw [HM.out, List.length_take] at hcl
      have hcj : cj ≤ j := by simp only at hcl; omega
      have HX := Lib.hid hx; have HXT := Lib.hid hxt
      have HMS := Lib.hid hms
      clear hx hxt hr hms hTT hi hx0 hxt0 hsh hxg hcl HM
      go_upto_region 5 with fail
      go_cut [10, 11] (fun sx sy wx => ∃ jb : Nat, sx = .pointer (some ⟨jb, 0, none⟩) ∧ sy = .int .i64 0 ∧ Hid (Led B w0 wx (jobEs t p b n lv fv sj f ++ tabE 57 2 (.slice (some ⟨gt, 0, none⟩) nt ct) (rowsR T) :: blkE wr.heap.size 57 #[.int .i64 i, .int .i64 x.gen] :: blkE jb 80 #[.int .i64 x.v.a, .int .i64 x.v.b, .int .i64 x.v.c, .int .i64 x.v.d, .int .i64 x.v.e] :: es)))
      case first =>
        have S2 := led_new (A := jobEs t p b n lv fv sj f ++ [tabE 57 2 (.slice (some ⟨gt, 0, none⟩) nt ct) (rowsR T)]) (C := es) (T := 57) (cs := #[.int .i64 i, .int .i64 x.gen]) ST.out
        have hw : wr.heap.size < (wr.alloc (.cells #[.int .i64 i, .int .i64 x.gen] 57)).heap.size := by simp
        have hgt2 : gt < wr.heap.size := hgt
        clear t0 t1
        generalize wr.alloc (.cells #[.int .i64 i, .int .i64 x.gen] 57) = wy at S2 hw ⊢
        have H2 : Hid (Led B w0 wy (jobEs t p b n lv fv sj f ++ tabE 57 2 (.slice (some ⟨gt, 0, none⟩) nt ct) (rowsR T) :: blkE wr.heap.size 57 #[.int .i64 i, .int .i64 x.gen] :: es)) := Lib.hid S2
        have H3 : Hid (Led B w0 (wy.alloc (.cells #[.int .i64 0, .int .i64 0, .int .i64 0, .int .i64 0, .int .i64 0] 80)) (jobEs t p b n lv fv sj f ++ tabE 57 2 (.slice (some ⟨gt, 0, none⟩) nt ct) (rowsR T) :: blkE wr.heap.size 57 #[.int .i64 i, .int .i64 x.gen] :: blkE wy.heap.size 80 #[.int .i64 0, .int .i64 0, .int .i64 0, .int .i64 0, .int .i64 0] :: es)) := Lib.hid (led_new (A := jobEs t p b n lv fv sj f ++ [tabE 57 2 (.slice (some ⟨gt, 0, none⟩) nt ct) (rowsR T), blkE wr.heap.size 57 #[.int .i64 i, .int .i64 x.gen]]) (C := es) (T := 80) (cs := #[.int .i64 0, .int .i64 0, .int .i64 0, .int .i64 0, .int .i64 0]) S2)
        have ltt := (jobBlk H2.out).lt
        have HS : Hid (∀ W, Chg [] wy W → W.cell? ⟨t, 0, none⟩ = some (.pointer (some ⟨p, 0, none⟩)) ∧ W.cell? ⟨wr.heap.size, 0, none⟩ = some (.int .i64 i) ∧ W.cell? ⟨wr.heap.size, 1, none⟩ = some (.int .i64 x.gen)) :=
          Lib.hid fun W hW => have hl := H2.out.later (hW.below (by simp) (Nat.le_refl _)); ⟨job_t0 hl, (show Blk W wr.heap.size 57 #[.int .i64 i, .int .i64 x.gen] from hl.at_ 4 rfl).cell 0, (show Blk W wr.heap.size 57 #[.int .i64 i, .int .i64 x.gen] from hl.at_ 4 rfl).cell 1⟩
        clear S2
        go_region_held3 (fun wx => wx.cell? ⟨t, 0, none⟩ = some (.pointer (some ⟨p, 0, none⟩)) ∧ wx.cell? ⟨wr.heap.size, 0, none⟩ = some (.int .i64 i) ∧ wx.cell? ⟨wr.heap.size, 1, none⟩ = some (.int .i64 x.gen)) (first | (refine HS.out _ ?_; (repeat' first | with_reducible exact Chg.refl _ _ | with_reducible refine Chg.drew ?_ | with_reducible refine Chg.drewN ?_ _ | with_reducible refine Chg.alloc ?_ _ | with_reducible refine Chg.setCell ?_ ?_ _ | (left; simp; done) | (right; exact Nat.le_refl _) | (right; dsimp only; omega)); done) | (refine HS2.out _ ?_; (repeat' first | with_reducible exact Chg.refl _ _ | with_reducible refine Chg.drew ?_ | with_reducible refine Chg.drewN ?_ _ | with_reducible refine Chg.alloc ?_ _ | with_reducible refine Chg.setCell ?_ ?_ _ | (left; simp; done) | (right; exact Nat.le_refl _) | (right; dsimp only; omega)); done)) (first | (go_at_call 81; refine Calls.mono (pool_get_ok_job p lv fv sj i x _ (jobPool H2.out.drew) HX.out HXT.out hg1) ?_; rintro e w2 ⟨rfl, q1⟩; have S4 := Lib.hid (H2.out.drew.later q1); have lt2 := q1.size; have HS2 : Hid (∀ W, Chg [wy.heap.size] w2 W → W.cell? ⟨t, 0, none⟩ = some (.pointer (some ⟨p, 0, none⟩)) ∧ W.cell? ⟨wr.heap.size, 0, none⟩ = some (.int .i64 i) ∧ W.cell? ⟨wr.heap.size, 1, none⟩ = some (.int .i64 x.gen)) := Lib.hid (fun W hW => ⟨(hW.cell (p := ⟨t, 0, none⟩) (jobBlk S4.out).lt (by simp; omega)).trans (job_t0 S4.out), (hW.cell (p := ⟨wr.heap.size, 0, none⟩) (S4.out.lt_ 4 rfl wr.heap.size (by simp [blkE])) (by simp; omega)).trans ((show Blk w2 wr.heap.size 57 #[.int .i64 i, .int .i64 x.gen] from S4.out.at_ 4 rfl).cell 0), (hW.cell (p := ⟨wr.heap.size, 1, none⟩) (S4.out.lt_ 4 rfl wr.heap.size (by simp [blkE])) (by simp; omega)).trans ((show Blk w2 wr.heap.size 57 #[.int .i64 i, .int .i64 x.gen] from S4.out.at_ 4 rfl).cell 1)⟩); clear q1) | (go_at_call 81; refine Calls.mono (pool_get_ok_job p lv fv sj i x _ (jobPool H3.out.drew) HX.out HXT.out hg1) ?_; rintro e w2 ⟨rfl, q1⟩; have S4 := Lib.hid (H3.out.drew.later q1); have lt2 := q1.size; have HS2 : Hid (∀ W, Chg [wy.heap.size] w2 W → W.cell? ⟨t, 0, none⟩ = some (.pointer (some ⟨p, 0, none⟩)) ∧ W.cell? ⟨wr.heap.size, 0, none⟩ = some (.int .i64 i) ∧ W.cell? ⟨wr.heap.size, 1, none⟩ = some (.int .i64 x.gen)) := Lib.hid (fun W hW => ⟨(hW.cell (p := ⟨t, 0, none⟩) (jobBlk S4.out).lt (by simp; omega)).trans (job_t0 S4.out), (hW.cell (p := ⟨wr.heap.size, 0, none⟩) (S4.out.lt_ 4 rfl wr.heap.size (by simp [blkE])) (by simp; omega)).trans ((show Blk w2 wr.heap.size 57 #[.int .i64 i, .int .i64 x.gen] from S4.out.at_ 4 rfl).cell 0), (hW.cell (p := ⟨wr.heap.size, 1, none⟩) (S4.out.lt_ 4 rfl wr.heap.size (by simp [blkE])) (by simp; omega)).trans ((show Blk w2 wr.heap.size 57 #[.int .i64 i, .int .i64 x.gen] from S4.out.at_ 4 rfl).cell 1)⟩); have rb : Blk w2 wy.heap.size 80 #[.int .i64 0, .int .i64 0, .int .i64 0, .int .i64 0, .int .i64 0] := S4.out.at_ 5 rfl; have c0 := rb.cell 0; have fc0 := rb.frozen 0; have c1 := rb.cell 1; have fc1 := rb.frozen 1; have c2 := rb.cell 2; have fc2 := rb.frozen 2; have c3 := rb.cell 3; have fc3 := rb.frozen 3; have c4 := rb.cell 4; have fc4 := rb.frozen 4; simp only [List.getElem?_toArray, List.getElem?_cons_zero, List.getElem?_cons_succ] at c0 c1 c2 c3 c4; have lrb := rb.lt; clear rb q1))
        · go_wp2_with fail
          go_meet
          case rel => exact ⟨_, rfl, rfl, Lib.hid (led_new (A := jobEs t p b n lv fv sj f ++ [tabE 57 2 (.slice (some ⟨gt, 0, none⟩) nt ct) (rowsR T), blkE wr.heap.size 57 #[.int .i64 i, .int .i64 x.gen]]) S4.out)⟩
        · go_wp2_with fail
          go_meet
          case rel => exact ⟨_, rfl, rfl, Lib.hid (led_store5 (A := jobEs t p b n lv fv sj f ++ [tabE 57 2 (.slice (some ⟨gt, 0, none⟩) nt ct) (rowsR T), blkE wr.heap.size 57 #[.int .i64 i, .int .i64 x.gen]]) S4.out)⟩
      case rest =>
        clear ST t0 t1
        obtain ⟨jb, rfl, rfl, S⟩ := hcut
        have rb : Blk wc jb 80 #[.int .i64 x.v.a, .int .i64 x.v.b, .int .i64 x.v.c, .int .i64 x.v.d, .int .i64 x.v.e] := S.out.at_ 5 rfl
        have lb := rb.lt
        have c0 := rb.cell 0; have fc0 := rb.frozen 0; have c1 := rb.cell 1; have fc1 := rb.frozen 1; have c2 := rb.cell 2; have fc2 := rb.frozen 2; have c3 := rb.cell 3; have fc3 := rb.frozen 3; have c4 := rb.cell 4; have fc4 := rb.frozen 4; simp only [List.getElem?_toArray, List.getElem?_cons_zero, List.getElem?_cons_succ] at c0 c1 c2 c3 c4
        clear rb
        obtain ⟨qq, hqq⟩ : ∃ qq : Bool, (x.v.a == q) = qq := ⟨_, rfl⟩
        cases qq with
        | true =>
          have hq2 : x.v.a = q := by simpa using hqq
          have HM2 : Hid (moveTo q tq s (T.take (j + 1)) = (sj.setAt i x ⟨tq, x.v.b, x.v.c, x.v.d, x.v.e⟩, cj + 1)) := Lib.hid (by rw [HMS.out, if_pos hq2])
          clear HMS
          have S5 : Hid (Led B w0 (wc.setCell ⟨jb, 0, none⟩ (.int .i64 tq)) (jobEs t p b n lv fv sj f ++ tabE 57 2 (.slice (some ⟨gt, 0, none⟩) nt ct) (rowsR T) :: blkE wr.heap.size 57 #[.int .i64 i, .int .i64 x.gen] :: blkE jb 80 #[.int .i64 tq, .int .i64 x.v.b, .int .i64 x.v.c, .int .i64 x.v.d, .int .i64 x.v.e] :: es)) := Lib.hid (led_cell (A := jobEs t p b n lv fv sj f ++ [tabE 57 2 (.slice (some ⟨gt, 0, none⟩) nt ct) (rowsR T), blkE wr.heap.size 57 #[.int .i64 i, .int .i64 x.gen]]) 0 (.int .i64 tq) S.out)
          have HSM : Hid (∀ (W : World) (lv fv : Value) (s : PSt V5), Led B w0 W (jobEs t p b n lv fv s f ++ tabE 57 2 (.slice (some ⟨gt, 0, none⟩) nt ct) (rowsR T) :: blkE wr.heap.size 57 #[.int .i64 i, .int .i64 x.gen] :: blkE jb 80 #[.int .i64 tq, .int .i64 x.v.b, .int .i64 x.v.c, .int .i64 x.v.d, .int .i64 x.v.e] :: es) → ∀ wx, Chg [] W wx → wx.cell? ⟨t, 0, none⟩ = some (.pointer (some ⟨p, 0, none⟩)) ∧ wx.cell? ⟨wr.heap.size, 0, none⟩ = some (.int .i64 i) ∧ wx.cell? ⟨wr.heap.size, 1, none⟩ = some (.int .i64 x.gen) ∧ wx.cell? ⟨jb, 0, none⟩ = some (.int .i64 tq) ∧ wx.cell? ⟨jb, 1, none⟩ = some (.int .i64 x.v.b) ∧ wx.cell? ⟨jb, 2, none⟩ = some (.int .i64 x.v.c) ∧ wx.cell? ⟨jb, 3, none⟩ = some (.int .i64 x.v.d) ∧ wx.cell? ⟨jb, 4, none⟩ = some (.int .i64 x.v.e)) :=
            Lib.hid fun W lv fv s hW wx hx => have hl := hW.later (hx.below (by simp) (Nat.le_refl _)); have r := (show Blk wx wr.heap.size 57 #[.int .i64 i, .int .i64 x.gen] from hl.at_ 4 rfl); have j := (show Blk wx jb 80 #[.int .i64 tq, .int .i64 x.v.b, .int .i64 x.v.c, .int .i64 x.v.d, .int .i64 x.v.e] from hl.at_ 5 rfl); ⟨job_t0 hl, r.cell 0, r.cell 1, j.cell 0, j.cell 1, j.cell 2, j.cell 3, j.cell 4⟩
          clear S
          go_wp2_with fail
          clear c0 c1 c2 c3 c4 fc0 fc1 fc2 fc3 fc4
          generalize wc.setCell ⟨jb, 0, none⟩ (.int .i64 tq) = w2 at S5 ⊢
          have HS := Lib.hid (HSM.out _ _ _ _ S5.out)
          go_region_held3 (fun wx => wx.cell? ⟨t, 0, none⟩ = some (.pointer (some ⟨p, 0, none⟩)) ∧ wx.cell? ⟨wr.heap.size, 0, none⟩ = some (.int .i64 i) ∧ wx.cell? ⟨wr.heap.size, 1, none⟩ = some (.int .i64 x.gen) ∧ wx.cell? ⟨jb, 0, none⟩ = some (.int .i64 tq) ∧ wx.cell? ⟨jb, 1, none⟩ = some (.int .i64 x.v.b) ∧ wx.cell? ⟨jb, 2, none⟩ = some (.int .i64 x.v.c) ∧ wx.cell? ⟨jb, 3, none⟩ = some (.int .i64 x.v.d) ∧ wx.cell? ⟨jb, 4, none⟩ = some (.int .i64 x.v.e)) (first | (refine HS.out _ ?_; (repeat' first | with_reducible exact Chg.refl _ _ | with_reducible refine Chg.drew ?_ | with_reducible refine Chg.drewN ?_ _ | with_reducible refine Chg.alloc ?_ _ | with_reducible refine Chg.setCell ?_ ?_ _ | (left; simp; done) | (right; exact Nat.le_refl _) | (right; dsimp only; omega)); done) | (refine HS2.out _ ?_; (repeat' first | with_reducible exact Chg.refl _ _ | with_reducible refine Chg.drew ?_ | with_reducible refine Chg.drewN ?_ _ | with_reducible refine Chg.alloc ?_ _ | with_reducible refine Chg.setCell ?_ ?_ _ | (left; simp; done) | (right; exact Nat.le_refl _) | (right; dsimp only; omega)); done)) (first | (go_at_call 82; refine Calls.mono (pool_set_ok_job p lv fv sj i x ⟨tq, x.v.b, x.v.c, x.v.d, x.v.e⟩ _ (jobPool S5.out.drew) HX.out HXT.out hg1) ?_; rintro e w3 ⟨rfl, q1, q2⟩; have S6 : Hid (Led B w0 w3 (jobEs t p b n lv fv (sj.setAt i x ⟨tq, x.v.b, x.v.c, x.v.d, x.v.e⟩) f ++ tabE 57 2 (.slice (some ⟨gt, 0, none⟩) nt ct) (rowsR T) :: blkE wr.heap.size 57 #[.int .i64 i, .int .i64 x.gen] :: blkE jb 80 #[.int .i64 tq, .int .i64 x.v.b, .int .i64 x.v.c, .int .i64 x.v.d, .int .i64 x.v.e] :: es)) := Lib.hid (S5.out.drew.step 1 rfl (jobP p lv fv (sj.setAt i x ⟨tq, x.v.b, x.v.c, x.v.d, x.v.e⟩)) q2 q1 (Fresh.refl _ _)); have HS2 := Lib.hid (HSM.out _ _ _ _ S6.out); clear q1 q2))
          go_wp2_with fail
          have S7 := Lib.hid (led_drop (A := jobEs t p b n lv fv (sj.setAt i x ⟨tq, x.v.b, x.v.c, x.v.d, x.v.e⟩) f ++ [tabE 57 2 (.slice (some ⟨gt, 0, none⟩) nt ct) (rowsR T)]) (led_drop (A := jobEs t p b n lv fv (sj.setAt i x ⟨tq, x.v.b, x.v.c, x.v.d, x.v.e⟩) f ++ [tabE 57 2 (.slice (some ⟨gt, 0, none⟩) nt ct) (rowsR T), blkE wr.heap.size 57 #[.int .i64 i, .int .i64 x.gen]]) S6.out))
          go_roundw
          case rel => exact ⟨j + 1, _, cj + 1, by omega, by go_num, by go_num, HM2, S7⟩
          case measure => simp [intOf]; omega
        | false =>
          have hq2 : ¬ x.v.a = q := by simpa using hqq
          have HM2 : Hid (moveTo q tq s (T.take (j + 1)) = (sj, cj)) := Lib.hid (by rw [HMS.out, if_neg hq2])
          have S5 := Lib.hid (led_drop (A := jobEs t p b n lv fv sj f ++ [tabE 57 2 (.slice (some ⟨gt, 0, none⟩) nt ct) (rowsR T)]) (led_drop (A := jobEs t p b n lv fv sj f ++ [tabE 57 2 (.slice (some ⟨gt, 0, none⟩) nt ct) (rowsR T), blkE wr.heap.size 57 #[.int .i64 i, .int .i64 x.gen]]) S.out))
          clear HMS hq2
          go_wp2_with fail
          go_roundw
          case rel => exact ⟨j + 1, sj, cj, by omega, by go_num, rfl, HM2, S5⟩
          case measure => simp [intOf]; omega
    · obtain rfl : j = nt := by omega
      have hM := HM.out
      rw [List.take_of_length_le (by omega)] at hM
      have HM3 := Lib.hid hM
      clear hM
      go_wp2_with fail
      exact hR.out _ _ ⟨by rw [HM3.out]; rfl, by rw [HM3.out]; exact led_drop (A := jobEs t p b n lv fv sj f) ST.out⟩
end Go.Proofs.Ytjabofofofddbaa
