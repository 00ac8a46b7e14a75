/- The table of jobs: what each method does; the fourth part: Add. -/
import Derived.Test.YtjabofofofddbaaJobs3
namespace Go.Proofs.Ytjabofofofddbaa
open Go.RowKit
open Go.Maps (Keyed)
set_option linter.unusedVariables false
set_option linter.unusedSimpArgs false
set_option maxRecDepth 100000

/-- What Add answers, and what it leaves. -/
def AddR (s : PSt V5) (f : Int × Int → Option (Int × Int)) (v : V5) (a g e0 : Int) (s' : PSt V5) (f' : Int × Int → Option (Int × Int)) : Prop :=
  (s.l.length = s.most + s.free.length ∧ a = 0 ∧ g = 0 ∧ e0 = 13 ∧ s' = s ∧ f' = f) ∨ (s.l.length ≠ s.most + s.free.length ∧ (f (v.d, v.e)).isSome = true ∧ a = 0 ∧ g = 0 ∧ e0 = 1 ∧ s' = s ∧ f' = f) ∨
  (s.l.length ≠ s.most + s.free.length ∧ f (v.d, v.e) = none ∧ e0 = 0 ∧ TakeR s v a g true s' ∧ f' = upd f (v.d, v.e) (some (a, g)))

theorem TakeR.ok {α : Type} {s s' : PSt α} {v : α} {a g : Int} {ok : Bool} (h : TakeR s v a g ok s') (hf : s.l.length ≠ s.most + s.free.length) (hm : s.l.length ≤ s.most) : ok = true := by
  rcases h with ⟨h1, h2, _, _, _⟩ | ⟨_, _, _, _, h, _⟩ | ⟨_, _, _, _, _, _, _, h, _⟩
  · rw [h1] at hf
    simp at hf
    omega
  · exact h
  · exact h

set_option maxHeartbeats 4000000 in
theorem jobs_add (B t p b n : Nat) (lv fv : Value) (s : PSt V5) (f : Int × Int → Option (Int × Int)) (w0 w : World) (es : List Ent) (v : V5) (hv : in64 v.d ∧ in64 v.e) (hn : n ≤ 1000000) (h : Led B w0 w (jobEs t p b n lv fv s f ++ es)) :
    Calls Try.prog 43 #[.pointer (some ⟨t, 0, none⟩), .agg #[.int .i64 v.a, .int .i64 v.b, .int .i64 v.c, .int .i64 v.d, .int .i64 v.e]] w fun e w' => ∃ (a g e0 : Int) (lv' fv' : Value) (s' : PSt V5) (f' : Int × Int → Option (Int × Int)) (n' : Nat), e = .returned (.tuple #[.agg #[.int .i64 a, .int .i64 g], .int .i64 e0]) ∧ AddR s f v a g e0 s' f' ∧ n' ≤ n + 1 ∧
      Led B w0 w' (jobEs t p b n' lv' fv' s' f' ++ es) := by
  have hlt := (jobBlk h).lt
  have hwf := (jobPool h).wf
  have hf := hwf.free_le
  have hm := hwf.le
  have hm2 := hwf.most
  generalize hq : (f (v.d, v.e)).isSome = q
  generalize hy : (f (v.d, v.e)).getD (0, 0) = y
  have HLK := Lib.hid (map_looks (jobMap h) hv hy hq)
  have HQ := Lib.hid hq
  have H := Lib.hid h
  have HV := Lib.hid hv
  clear h hq hy hv hwf
  refine callsR fun R hR => ?_
  go_enter Try.func43, Try.ntmps43
  go_upto_region 1 with fail
  go_cut [6, 7] (fun sx sy wx => ∃ jb : Nat, sx = .pointer (some ⟨jb, 0, none⟩) ∧ sy = .bool q ∧ Hid (Led B w0 wx (jobEs t p b n lv fv s f ++ blkE (w.heap.size + 1) 57 #[.int .i64 0, .int .i64 0] :: blkE w.heap.size 80 #[.int .i64 v.a, .int .i64 v.b, .int .i64 v.c, .int .i64 v.d, .int .i64 v.e] :: es)))
  case first =>
    have S1 := led_new (A := jobEs t p b n lv fv s f) (C := es) (T := 80) (cs := #[.int .i64 v.a, .int .i64 v.b, .int .i64 v.c, .int .i64 v.d, .int .i64 v.e]) H.out
    have S2 := led_new (A := jobEs t p b n lv fv s f) (T := 57) (cs := #[.int .i64 0, .int .i64 0]) S1
    rw [World.size_alloc] at S2
    have be := bel_alloc (bel_alloc (bel_refl w) (.cells #[.int .i64 v.a, .int .i64 v.b, .int .i64 v.c, .int .i64 v.d, .int .i64 v.e] 80)) (.cells #[.int .i64 0, .int .i64 0] 57)
    clear S1
    generalize (w.alloc (.cells #[.int .i64 v.a, .int .i64 v.b, .int .i64 v.c, .int .i64 v.d, .int .i64 v.e] 80)).alloc (.cells #[.int .i64 0, .int .i64 0] 57) = wy at S2 be ⊢
    have H2 := Lib.hid S2
    have HS : Hid (∀ W, Chg [] wy W → W.cell? ⟨t, 1, none⟩ = some (.map (some b)) ∧ W.cell? ⟨w.heap.size, 3, none⟩ = some (.int .i64 v.d) ∧ W.cell? ⟨w.heap.size, 4, none⟩ = some (.int .i64 v.e) ∧ (Instr.lookup 135 (.map (some b)) (.agg #[.int .i64 v.d, .int .i64 v.e]) true).run Try.prog W = .ok (.tuple #[.agg #[.int .i64 y.1, .int .i64 y.2], .bool q]) W) :=
      Lib.hid fun W hW => have hb := hW.below (by simp) (Nat.le_refl _); have hl := H2.out.later hb; ⟨job_t1 hl, (show Blk W w.heap.size 80 #[.int .i64 v.a, .int .i64 v.b, .int .i64 v.c, .int .i64 v.d, .int .i64 v.e] from hl.at_ 4 rfl).cell 3, (show Blk W w.heap.size 80 #[.int .i64 v.a, .int .i64 v.b, .int .i64 v.c, .int .i64 v.d, .int .i64 v.e] from hl.at_ 4 rfl).cell 4, HLK.out _ (bel_trans be hb)⟩
    clear S2 be
    go_region_held3 (fun wx => wx.cell? ⟨t, 1, none⟩ = some (.map (some b)) ∧ wx.cell? ⟨w.heap.size, 3, none⟩ = some (.int .i64 v.d) ∧ wx.cell? ⟨w.heap.size, 4, none⟩ = some (.int .i64 v.e) ∧ (Instr.lookup 135 (.map (some b)) (.agg #[.int .i64 v.d, .int .i64 v.e]) true).run Try.prog wx = .ok (.tuple #[.agg #[.int .i64 y.1, .int .i64 y.2], .bool q]) wx) ((refine HS.out _ ?_; (repeat' first | with_reducible exact Chg.refl _ _ | with_reducible refine Chg.drew ?_ | with_reducible refine Chg.drewN ?_ _ | with_reducible refine Chg.alloc ?_ _ | with_reducible refine Chg.setCell ?_ ?_ _ | (left; simp; done) | (right; exact Nat.le_refl _) | (right; dsimp only; omega)); done)) (fail)
    all_goals
      go_wp2_with fail
      go_meet
      case rel => exact ⟨_, rfl, rfl, Lib.hid (H2.out.later (by (repeat' first | with_reducible exact bel_refl _ | with_reducible refine bel_drew ?_ | with_reducible refine bel_drewN ?_ _ | with_reducible refine bel_alloc ?_ _ | with_reducible refine bel_set ?_ ?_ _ | exact Nat.le_refl _ | (dsimp only; omega) | omega | (simp; omega))))⟩
  case rest =>
    clear H HLK
    obtain ⟨jb, rfl, rfl, S⟩ := hcut
    have HS : Hid (∀ W, Chg [] wc W → W.cell? ⟨t, 0, none⟩ = some (.pointer (some ⟨p, 0, none⟩))) := Lib.hid fun W hW => job_t0 (S.out.later (hW.below (by simp) (Nat.le_refl _)))
    have rz := (show Blk wc (w.heap.size + 1) 57 #[.int .i64 0, .int .i64 0] from S.out.at_ 3 rfl)
    have l0 := rz.lt
    have r0 := rz.cell 0; have fr0 := rz.frozen 0; have r1 := rz.cell 1; have fr1 := rz.frozen 1; simp only [List.getElem?_toArray, List.getElem?_cons_zero, List.getElem?_cons_succ] at r0 r1
    clear rz
    by_cases hfull : s.l.length = s.most + s.free.length
    · have hd : (((s.l.length : Int) - s.free.length) == (s.most : Int)) = true := by simp; omega
      go_wp2_with fail
      go_region_held3 (fun wx => wx.cell? ⟨t, 0, none⟩ = some (.pointer (some ⟨p, 0, none⟩))) ((refine HS.out _ ?_; (repeat' first | with_reducible exact Chg.refl _ _ | with_reducible refine Chg.drew ?_ | with_reducible refine Chg.drewN ?_ _ | with_reducible refine Chg.alloc ?_ _ | with_reducible refine Chg.setCell ?_ ?_ _ | (left; simp; done) | (right; exact Nat.le_refl _) | (right; dsimp only; omega)); done)) (first | (go_at_call 76; refine Calls.mono (pool_len_job p lv fv s _ (jobPool S.out.drew)) ?_; rintro e w2 ⟨rfl, k2, rfl⟩) | (go_at_call 77; refine Calls.mono (pool_places_job p lv fv s _ (jobPool (S.out.drewN _))) ?_; rintro e w2 ⟨rfl, rfl⟩))
      go_wp2_with fail
      have S6 := led_store2 (A := jobEs t p b n lv fv s f) (y0 := .int .i64 0) (y1 := .int .i64 0) (S.out.drewN (1 + k2))
      exact bodyPost_ret (v := .tuple #[.agg #[.int .i64 0, .int .i64 0], .int .i64 13]) (by simp [results, Try.results43, go_sem, l0, r0, r1]) rfl (hR.out _ _ ⟨0, 0, 13, lv, fv, s, f, n, rfl, .inl ⟨hfull, rfl, rfl, rfl, rfl, rfl⟩, by omega, led_drop (A := jobEs t p b n lv fv s f) (led_drop (A := jobEs t p b n lv fv s f) S6)⟩)
    · have hd : (((s.l.length : Int) - s.free.length) == (s.most : Int)) = false := by simp; omega
      cases q with
      | true =>
        go_wp2_with fail
        go_region_held3 (fun wx => wx.cell? ⟨t, 0, none⟩ = some (.pointer (some ⟨p, 0, none⟩))) ((refine HS.out _ ?_; (repeat' first | with_reducible exact Chg.refl _ _ | with_reducible refine Chg.drew ?_ | with_reducible refine Chg.drewN ?_ _ | with_reducible refine Chg.alloc ?_ _ | with_reducible refine Chg.setCell ?_ ?_ _ | (left; simp; done) | (right; exact Nat.le_refl _) | (right; dsimp only; omega)); done)) (first | (go_at_call 76; refine Calls.mono (pool_len_job p lv fv s _ (jobPool S.out.drew)) ?_; rintro e w2 ⟨rfl, k2, rfl⟩) | (go_at_call 77; refine Calls.mono (pool_places_job p lv fv s _ (jobPool (S.out.drewN _))) ?_; rintro e w2 ⟨rfl, rfl⟩))
        go_wp2_with fail
        have S6 := led_store2 (A := jobEs t p b n lv fv s f) (y0 := .int .i64 0) (y1 := .int .i64 0) (S.out.drewN (1 + k2))
        exact bodyPost_ret (v := .tuple #[.agg #[.int .i64 0, .int .i64 0], .int .i64 1]) (by simp [results, Try.results43, go_sem, l0, r0, r1]) rfl (hR.out _ _ ⟨0, 0, 1, lv, fv, s, f, n, rfl, .inr (.inl ⟨hfull, HQ.out, rfl, rfl, rfl, rfl, rfl⟩), by omega, led_drop (A := jobEs t p b n lv fv s f) (led_drop (A := jobEs t p b n lv fv s f) S6)⟩)
      | false =>
        have hfn : f (v.d, v.e) = none := by simpa using HQ.out
        have HFN := Lib.hid hfn
        clear HQ hfn
        go_wp2_with fail
        go_region_held3 (fun wx => wx.cell? ⟨t, 0, none⟩ = some (.pointer (some ⟨p, 0, none⟩))) ((refine HS.out _ ?_; (repeat' first | with_reducible exact Chg.refl _ _ | with_reducible refine Chg.drew ?_ | with_reducible refine Chg.drewN ?_ _ | with_reducible refine Chg.alloc ?_ _ | with_reducible refine Chg.setCell ?_ ?_ _ | (left; simp; done) | (right; exact Nat.le_refl _) | (right; dsimp only; omega)); done)) (first | (go_at_call 76; refine Calls.mono (pool_len_job p lv fv s _ (jobPool S.out.drew)) ?_; rintro e w2 ⟨rfl, k2, rfl⟩) | (go_at_call 77; refine Calls.mono (pool_places_job p lv fv s _ (jobPool (S.out.drewN _))) ?_; rintro e w2 ⟨rfl, rfl⟩))
        clear r0 r1 fr0 fr1 l0
        have S2 := Lib.hid (S.out.drewN (1 + k2))
        clear S HS hd
        go_upto_region 6 with fail
        generalize wc.drewN (1 + k2) = wy at S2 ⊢
        go_cut [8, 9] (fun sx sy wx => ∃ (rb : Nat) (ra rg : Int) (lv' fv' : Value) (s' : PSt V5), sx = .pointer (some ⟨rb, 0, none⟩) ∧ sy = .bool true ∧ Hid (TakeR s v ra rg true s') ∧ Hid (Led B w0 wx (jobEs t p b n lv' fv' s' f ++ blkE (w.heap.size + 1) 57 #[.int .i64 0, .int .i64 0] :: blkE w.heap.size 80 #[.int .i64 v.a, .int .i64 v.b, .int .i64 v.c, .int .i64 v.d, .int .i64 v.e] :: blkE rb 57 #[.int .i64 ra, .int .i64 rg] :: es)))
        case first =>
          have H3 : Hid (Led B w0 (wy.alloc (.cells #[.int .i64 0, .int .i64 0] 57)) (jobEs t p b n lv fv s f ++ blkE (w.heap.size + 1) 57 #[.int .i64 0, .int .i64 0] :: blkE w.heap.size 80 #[.int .i64 v.a, .int .i64 v.b, .int .i64 v.c, .int .i64 v.d, .int .i64 v.e] :: blkE wy.heap.size 57 #[.int .i64 0, .int .i64 0] :: es)) := Lib.hid (led_new (A := jobEs t p b n lv fv s f ++ [blkE (w.heap.size + 1) 57 #[.int .i64 0, .int .i64 0], blkE w.heap.size 80 #[.int .i64 v.a, .int .i64 v.b, .int .i64 v.c, .int .i64 v.d, .int .i64 v.e]]) (C := es) (T := 57) (cs := #[.int .i64 0, .int .i64 0]) S2.out)
          have ltt := (jobBlk S2.out).lt
          have ltj := S2.out.lt_ 4 rfl w.heap.size (by simp [blkE])
          have HS : Hid (∀ wx, Chg [] wy wx → wx.cell? ⟨t, 0, none⟩ = some (.pointer (some ⟨p, 0, none⟩)) ∧ wx.cell? ⟨w.heap.size, 0, none⟩ = some (.int .i64 v.a) ∧ wx.cell? ⟨w.heap.size, 1, none⟩ = some (.int .i64 v.b) ∧ wx.cell? ⟨w.heap.size, 2, none⟩ = some (.int .i64 v.c) ∧ wx.cell? ⟨w.heap.size, 3, none⟩ = some (.int .i64 v.d) ∧ wx.cell? ⟨w.heap.size, 4, none⟩ = some (.int .i64 v.e)) :=
            Lib.hid fun W hW => have hl := S2.out.later (hW.below (by simp) (Nat.le_refl _)); have j := (show Blk W w.heap.size 80 #[.int .i64 v.a, .int .i64 v.b, .int .i64 v.c, .int .i64 v.d, .int .i64 v.e] from hl.at_ 4 rfl); ⟨job_t0 hl, j.cell 0, j.cell 1, j.cell 2, j.cell 3, j.cell 4⟩
          have HSM : Hid (∀ (W : World) (lv fv : Value) (s : PSt V5) (C : List Ent), Led B w0 W (jobEs t p b n lv fv s f ++ blkE (w.heap.size + 1) 57 #[.int .i64 0, .int .i64 0] :: blkE w.heap.size 80 #[.int .i64 v.a, .int .i64 v.b, .int .i64 v.c, .int .i64 v.d, .int .i64 v.e] :: C) → ∀ wx, Chg [wy.heap.size] W wx → wx.cell? ⟨t, 0, none⟩ = some (.pointer (some ⟨p, 0, none⟩)) ∧ wx.cell? ⟨w.heap.size, 0, none⟩ = some (.int .i64 v.a) ∧ wx.cell? ⟨w.heap.size, 1, none⟩ = some (.int .i64 v.b) ∧ wx.cell? ⟨w.heap.size, 2, none⟩ = some (.int .i64 v.c) ∧ wx.cell? ⟨w.heap.size, 3, none⟩ = some (.int .i64 v.d) ∧ wx.cell? ⟨w.heap.size, 4, none⟩ = some (.int .i64 v.e)) :=
            Lib.hid fun W lv fv s C hW wx hx => have j := (show Blk W w.heap.size 80 #[.int .i64 v.a, .int .i64 v.b, .int .i64 v.c, .int .i64 v.d, .int .i64 v.e] from hW.at_ 4 rfl).chg hx (by simp; omega); ⟨(hx.cell (p := ⟨t, 0, none⟩) (jobBlk hW).lt (by simp; omega)).trans (job_t0 hW), j.cell 0, j.cell 1, j.cell 2, j.cell 3, j.cell 4⟩
          go_region_held3 (fun wx => wx.cell? ⟨t, 0, none⟩ = some (.pointer (some ⟨p, 0, none⟩)) ∧ wx.cell? ⟨w.heap.size, 0, none⟩ = some (.int .i64 v.a) ∧ wx.cell? ⟨w.heap.size, 1, none⟩ = some (.int .i64 v.b) ∧ wx.cell? ⟨w.heap.size, 2, none⟩ = some (.int .i64 v.c) ∧ wx.cell? ⟨w.heap.size, 3, none⟩ = some (.int .i64 v.d) ∧ wx.cell? ⟨w.heap.size, 4, none⟩ = some (.int .i64 v.e)) (first | (refine HS.out _ ?_; (repeat' first | with_reducible exact Chg.refl _ _ | with_reducible refine Chg.drew ?_ | with_reducible refine Chg.drewN ?_ _ | with_reducible refine Chg.alloc ?_ _ | with_reducible refine Chg.setCell ?_ ?_ _ | (left; simp; done) | (right; exact Nat.le_refl _) | (right; dsimp only; omega)); done) | (refine HS2.out _ ?_; (repeat' first | with_reducible exact Chg.refl _ _ | with_reducible refine Chg.drew ?_ | with_reducible refine Chg.drewN ?_ _ | with_reducible refine Chg.alloc ?_ _ | with_reducible refine Chg.setCell ?_ ?_ _ | (left; simp; done) | (right; exact Nat.le_refl _) | (right; dsimp only; omega)); done)) (first | (go_at_call 78; refine Calls.mono (pool_take_job p lv fv s v _ (jobPool S2.out.drew)) ?_; rintro e w2 ⟨ra, rg, ok, lv', fv', s', rfl, q1, q2, q3, q4⟩; obtain rfl : ok = true := q1.ok hfull hm; have S4 : Hid (Led B w0 w2 (jobEs t p b n lv' fv' s' f ++ blkE (w.heap.size + 1) 57 #[.int .i64 0, .int .i64 0] :: blkE w.heap.size 80 #[.int .i64 v.a, .int .i64 v.b, .int .i64 v.c, .int .i64 v.d, .int .i64 v.e] :: es)) := Lib.hid (S2.out.drew.step 1 rfl (jobP p lv' fv' s') q3 q2 q4); have lt2 := q3.size; have HS2 := Lib.hid (HSM.out _ _ _ _ _ S4.out); have Q1 := Lib.hid q1; clear q1 q2 q3 q4) | (go_at_call 78; refine Calls.mono (pool_take_job p lv fv s v _ (jobPool H3.out.drew)) ?_; rintro e w2 ⟨ra, rg, ok, lv', fv', s', rfl, q1, q2, q3, q4⟩; obtain rfl : ok = true := q1.ok hfull hm; have S4 : Hid (Led B w0 w2 (jobEs t p b n lv' fv' s' f ++ blkE (w.heap.size + 1) 57 #[.int .i64 0, .int .i64 0] :: blkE w.heap.size 80 #[.int .i64 v.a, .int .i64 v.b, .int .i64 v.c, .int .i64 v.d, .int .i64 v.e] :: blkE wy.heap.size 57 #[.int .i64 0, .int .i64 0] :: es)) := Lib.hid (H3.out.drew.step 1 rfl (jobP p lv' fv' s') q3 q2 q4); have lt2 := q3.size; have HS2 := Lib.hid (HSM.out _ _ _ _ _ S4.out); have Q1 := Lib.hid q1; have rb : Blk w2 wy.heap.size 57 #[.int .i64 0, .int .i64 0] := S4.out.at_ 5 rfl; have c0 := rb.cell 0; have fc0 := rb.frozen 0; have c1 := rb.cell 1; have fc1 := rb.frozen 1; simp only [List.getElem?_toArray, List.getElem?_cons_zero, List.getElem?_cons_succ] at c0 c1; have lrb := rb.lt; clear rb; clear q1 q2 q3 q4))
          · go_wp2_with fail
            go_meet
            case rel => exact ⟨_, ra, rg, lv', fv', s', rfl, rfl, Q1, Lib.hid (led_new (A := jobEs t p b n lv' fv' s' f ++ [blkE (w.heap.size + 1) 57 #[.int .i64 0, .int .i64 0], blkE w.heap.size 80 #[.int .i64 v.a, .int .i64 v.b, .int .i64 v.c, .int .i64 v.d, .int .i64 v.e]]) S4.out)⟩
          · go_wp2_with fail
            go_meet
            case rel => exact ⟨_, ra, rg, lv', fv', s', rfl, rfl, Q1, Lib.hid (led_store2 (A := jobEs t p b n lv' fv' s' f ++ [blkE (w.heap.size + 1) 57 #[.int .i64 0, .int .i64 0], blkE w.heap.size 80 #[.int .i64 v.a, .int .i64 v.b, .int .i64 v.c, .int .i64 v.d, .int .i64 v.e]]) S4.out)⟩
        case rest =>
          clear S2
          obtain ⟨rb, ra, rg, lv', fv', s', rfl, rfl, Q1, S⟩ := hcut
          obtain ⟨w5, hrun, hm5, hc5⟩ := MapIs.store (x := (v.d, v.e)) (y := (ra, rg)) (jobMap S.out.drew) Try.underlying135 (by unfold maxLen; omega) HV.out
          have hr5 : (Instr.mapUpdate 135 (.map (some b)) (.agg #[.int .i64 v.d, .int .i64 v.e]) (.agg #[.int .i64 ra, .int .i64 rg])).run Try.prog wc.drew = .ok () w5 := hrun
          have S5 : Hid (Led B w0 w5 (jobEs t p b (n + 1) lv' fv' s' (upd f (v.d, v.e) (some (ra, rg))) ++ blkE (w.heap.size + 1) 57 #[.int .i64 0, .int .i64 0] :: blkE w.heap.size 80 #[.int .i64 v.a, .int .i64 v.b, .int .i64 v.c, .int .i64 v.d, .int .i64 v.e] :: blkE rb 57 #[.int .i64 ra, .int .i64 rg] :: es)) := Lib.hid (S.out.drew.step 2 rfl (mapE refFam b (n + 1) (upd f (v.d, v.e) (some (ra, rg)))) hc5 hm5 (Fresh.refl _ _))
          clear hrun hm5 hc5
          have HSM : Hid (∀ (W : World) (n : Nat) (f : Int × Int → Option (Int × Int)), Led B w0 W (jobEs t p b n lv' fv' s' f ++ blkE (w.heap.size + 1) 57 #[.int .i64 0, .int .i64 0] :: blkE w.heap.size 80 #[.int .i64 v.a, .int .i64 v.b, .int .i64 v.c, .int .i64 v.d, .int .i64 v.e] :: blkE rb 57 #[.int .i64 ra, .int .i64 rg] :: es) → ∀ wx, Chg [] W wx → wx.cell? ⟨t, 1, none⟩ = some (.map (some b)) ∧ wx.cell? ⟨w.heap.size, 3, none⟩ = some (.int .i64 v.d) ∧ wx.cell? ⟨w.heap.size, 4, none⟩ = some (.int .i64 v.e) ∧ wx.cell? ⟨rb, 0, none⟩ = some (.int .i64 ra) ∧ wx.cell? ⟨rb, 1, none⟩ = some (.int .i64 rg)) :=
            Lib.hid fun W n f hW wx hx => have hl := hW.later (hx.below (by simp) (Nat.le_refl _)); have j := (show Blk wx w.heap.size 80 #[.int .i64 v.a, .int .i64 v.b, .int .i64 v.c, .int .i64 v.d, .int .i64 v.e] from hl.at_ 4 rfl); have r := (show Blk wx rb 57 #[.int .i64 ra, .int .i64 rg] from hl.at_ 5 rfl); ⟨job_t1 hl, j.cell 3, j.cell 4, r.cell 0, r.cell 1⟩
          have HS := Lib.hid (HSM.out _ _ _ S.out)
          have HS2 := Lib.hid (HSM.out _ _ _ S5.out)
          clear S HSM
          go_wp2_with fail
          go_region_held3 (fun wx => wx.cell? ⟨t, 1, none⟩ = some (.map (some b)) ∧ wx.cell? ⟨w.heap.size, 3, none⟩ = some (.int .i64 v.d) ∧ wx.cell? ⟨w.heap.size, 4, none⟩ = some (.int .i64 v.e) ∧ wx.cell? ⟨rb, 0, none⟩ = some (.int .i64 ra) ∧ wx.cell? ⟨rb, 1, none⟩ = some (.int .i64 rg)) (first | (refine HS.out _ ?_; (repeat' first | with_reducible exact Chg.refl _ _ | with_reducible refine Chg.drew ?_ | with_reducible refine Chg.drewN ?_ _ | with_reducible refine Chg.alloc ?_ _ | with_reducible refine Chg.setCell ?_ ?_ _ | (left; simp; done) | (right; exact Nat.le_refl _) | (right; dsimp only; omega)); done) | (refine HS2.out _ ?_; (repeat' first | with_reducible exact Chg.refl _ _ | with_reducible refine Chg.drew ?_ | with_reducible refine Chg.drewN ?_ _ | with_reducible refine Chg.alloc ?_ _ | with_reducible refine Chg.setCell ?_ ?_ _ | (left; simp; done) | (right; exact Nat.le_refl _) | (right; dsimp only; omega)); done)) (fail)
          have rk : Blk w5 rb 57 #[.int .i64 ra, .int .i64 rg] := S5.out.at_ 5 rfl
          have rz : Blk w5 (w.heap.size + 1) 57 #[.int .i64 0, .int .i64 0] := S5.out.at_ 3 rfl
          have k0 := rk.cell 0; have fk0 := rk.frozen 0; have k1 := rk.cell 1; have fk1 := rk.frozen 1; simp only [List.getElem?_toArray, List.getElem?_cons_zero, List.getElem?_cons_succ] at k0 k1
          have r0 := rz.cell 0; have fr0 := rz.frozen 0; have r1 := rz.cell 1; have fr1 := rz.frozen 1; simp only [List.getElem?_toArray, List.getElem?_cons_zero, List.getElem?_cons_succ] at r0 r1
          have l0 := rz.lt
          clear rk rz
          go_wp2_with fail
          have S6 := led_store2 (A := jobEs t p b (n + 1) lv' fv' s' (upd f (v.d, v.e) (some (ra, rg)))) (y0 := .int .i64 ra) (y1 := .int .i64 rg) S5.out
          exact bodyPost_ret (v := .tuple #[.agg #[.int .i64 ra, .int .i64 rg], .int .i64 0]) (by simp [results, Try.results43, go_sem, l0, r0, r1]) rfl (hR.out _ _ ⟨ra, rg, 0, lv', fv', s', _, n + 1, rfl, .inr (.inr ⟨hfull, HFN.out, rfl, Q1.out, rfl⟩), by omega, led_drop (A := jobEs t p b (n + 1) lv' fv' s' (upd f (v.d, v.e) (some (ra, rg)))) (led_drop (A := jobEs t p b (n + 1) lv' fv' s' (upd f (v.d, v.e) (some (ra, rg)))) (led_drop (A := jobEs t p b (n + 1) lv' fv' s' (upd f (v.d, v.e) (some (ra, rg)))) S6))⟩)
end Go.Proofs.Ytjabofofofddbaa
