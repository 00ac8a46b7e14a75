/- The table of jobs: what each method does; the fifth part: Set. -/
import Derived.Test.YtjabofofofddbaaJobs4
namespace Go.Proofs.Ytjabofofofddbaa
open Go.RowKit
open Go.Maps (Keyed)
set_option linter.unusedVariables false
set_option linter.unusedSimpArgs false
set_option maxRecDepth 100000

/-- What Set answers, and what it leaves. -/
def JSetR (s : PSt V5) (f : Int × Int → Option (Int × Int)) (a g : Int) (v : V5) (e0 : Int) (s' : PSt V5) (f' : Int × Int → Option (Int × Int)) : Prop :=
  (e0 ≠ 0 ∧ s.look a g = e0 ∧ s' = s ∧ f' = f) ∨ (∃ (i : Nat) (x : Pl V5), a = i ∧ g = x.gen ∧ s.l[i]? = some x ∧ x.taken = true ∧ 1 ≤ x.gen ∧
    ((∃ y, f (v.d, v.e) = some y ∧ ¬ (y.1 = a ∧ y.2 = g) ∧ e0 = 1 ∧ s' = s ∧ f' = f) ∨
     ((∀ y, f (v.d, v.e) = some y → y.1 = a ∧ y.2 = g) ∧ e0 = 0 ∧ s' = s.setAt i x v ∧ f' = upd (upd f (x.v.d, x.v.e) none) (v.d, v.e) (some (a, g)))))

set_option maxHeartbeats 4000000 in
theorem jobs_set (B t p b n : Nat) (lv fv : Value) (s : PSt V5) (f : Int × Int → Option (Int × Int)) (w0 w : World) (es : List Ent) (a g : Int) (v : V5) (hv : in64 v.d ∧ in64 v.e) (hi : ItemsOk s) (hn : n ≤ 1000000) (h : Led B w0 w (jobEs t p b n lv fv s f ++ es)) :
    Calls Try.prog 84 #[.pointer (some ⟨t, 0, none⟩), .agg #[.int .i64 a, .int .i64 g], .agg #[.int .i64 v.a, .int .i64 v.b, .int .i64 v.c, .int .i64 v.d, .int .i64 v.e]] w fun e w' => ∃ (e0 : Int) (s' : PSt V5) (f' : Int × Int → Option (Int × Int)) (n' : Nat), e = .returned (.int .i64 e0) ∧ JSetR s f a g v e0 s' f' ∧ n' ≤ n + 1 ∧
      Led B w0 w' (jobEs t p b n' lv fv s' f' ++ es) := by
  have hlt := (jobBlk h).lt
  generalize hq : (f (v.d, v.e)).isSome = q
  generalize hy : (f (v.d, v.e)).getD (0, 0) = y
  have HLK := Lib.hid (map_looks (jobMap h) hv hy hq)
  have HQ := Lib.hid hq
  have HY := Lib.hid hy
  have H := Lib.hid h
  have HV := Lib.hid hv
  have HI := Lib.hid hi
  clear h hq hy hv hi
  refine callsR fun R hR => ?_
  go_enter Try.func84, Try.ntmps84
  go_upto_region 1 with fail
  have S1 := led_new (A := jobEs t p b n lv fv s f) (C := es) (T := 57) (cs := #[.int .i64 a, .int .i64 g]) H.out
  have S2 := led_new (A := jobEs t p b n lv fv s f ++ [blkE w.heap.size 57 #[.int .i64 a, .int .i64 g]]) (T := 80) (cs := #[.int .i64 v.a, .int .i64 v.b, .int .i64 v.c, .int .i64 v.d, .int .i64 v.e]) S1
  rw [World.size_alloc] at S2
  have be := bel_alloc (bel_alloc (bel_refl w) (.cells #[.int .i64 a, .int .i64 g] 57)) (.cells #[.int .i64 v.a, .int .i64 v.b, .int .i64 v.c, .int .i64 v.d, .int .i64 v.e] 80)
  have hws : w.heap.size + 2 ≤ ((w.alloc (.cells #[.int .i64 a, .int .i64 g] 57)).alloc (.cells #[.int .i64 v.a, .int .i64 v.b, .int .i64 v.c, .int .i64 v.d, .int .i64 v.e] 80)).heap.size := by simp
  clear S1
  generalize (w.alloc (.cells #[.int .i64 a, .int .i64 g] 57)).alloc (.cells #[.int .i64 v.a, .int .i64 v.b, .int .i64 v.c, .int .i64 v.d, .int .i64 v.e] 80) = wy at S2 be hws ⊢
  have H2 : Hid (Led B w0 wy (jobEs t p b n lv fv s f ++ blkE w.heap.size 57 #[.int .i64 a, .int .i64 g] :: blkE (w.heap.size + 1) 80 #[.int .i64 v.a, .int .i64 v.b, .int .i64 v.c, .int .i64 v.d, .int .i64 v.e] :: es)) := Lib.hid S2
  have HLK2 : Hid (∀ W, Below wy.heap.size wy W → (Instr.lookup 135 (.map (some b)) (.agg #[.int .i64 v.d, .int .i64 v.e]) true).run Try.prog W = .ok (.tuple #[.agg #[.int .i64 y.1, .int .i64 y.2], .bool q]) W) := Lib.hid fun W hW => HLK.out W (bel_trans be hW)
  clear H S2 be HLK
  go_cut [7, 8] (fun sx sy wx => ∃ (wb : Nat) (v0 : V5) (e0 : Int), sx = .pointer (some ⟨wb, 0, none⟩) ∧ sy = .int .i64 e0 ∧ GetR ⟨0, 0, 0, 0, 0⟩ s a g v0 e0 ∧ Below wy.heap.size wy wx ∧ Hid (Led B w0 wx (jobEs t p b n lv fv s f ++ blkE w.heap.size 57 #[.int .i64 a, .int .i64 g] :: blkE (w.heap.size + 1) 80 #[.int .i64 v.a, .int .i64 v.b, .int .i64 v.c, .int .i64 v.d, .int .i64 v.e] :: blkE wb 80 #[.int .i64 v0.a, .int .i64 v0.b, .int .i64 v0.c, .int .i64 v0.d, .int .i64 v0.e] :: es)))
  case first =>
    have H3 : Hid (Led B w0 (wy.alloc (.cells #[.int .i64 0, .int .i64 0, .int .i64 0, .int .i64 0, .int .i64 0] 80)) (jobEs t p b n lv fv s f ++ blkE w.heap.size 57 #[.int .i64 a, .int .i64 g] :: blkE (w.heap.size + 1) 80 #[.int .i64 v.a, .int .i64 v.b, .int .i64 v.c, .int .i64 v.d, .int .i64 v.e] :: blkE wy.heap.size 80 #[.int .i64 0, .int .i64 0, .int .i64 0, .int .i64 0, .int .i64 0] :: es)) := Lib.hid (led_new (A := jobEs t p b n lv fv s f ++ [blkE w.heap.size 57 #[.int .i64 a, .int .i64 g], blkE (w.heap.size + 1) 80 #[.int .i64 v.a, .int .i64 v.b, .int .i64 v.c, .int .i64 v.d, .int .i64 v.e]]) (C := es) (T := 80) (cs := #[.int .i64 0, .int .i64 0, .int .i64 0, .int .i64 0, .int .i64 0]) H2.out)
    have ltt := (jobBlk H2.out).lt
    have HS : Hid (∀ wx, Chg [] wy wx → wx.cell? ⟨t, 0, none⟩ = some (.pointer (some ⟨p, 0, none⟩)) ∧ wx.cell? ⟨w.heap.size, 0, none⟩ = some (.int .i64 a) ∧ wx.cell? ⟨w.heap.size, 1, none⟩ = some (.int .i64 g)) :=
      Lib.hid fun W hW => have hl := H2.out.later (hW.below (by simp) (Nat.le_refl _)); have j := (show Blk W w.heap.size 57 #[.int .i64 a, .int .i64 g] from hl.at_ 3 rfl); ⟨job_t0 hl, j.cell 0, j.cell 1⟩
    have HSM : Hid (∀ (W : World) (C : List Ent), Led B w0 W (jobEs t p b n lv fv s f ++ blkE w.heap.size 57 #[.int .i64 a, .int .i64 g] :: blkE (w.heap.size + 1) 80 #[.int .i64 v.a, .int .i64 v.b, .int .i64 v.c, .int .i64 v.d, .int .i64 v.e] :: C) → ∀ wx, Chg [wy.heap.size] W wx → wx.cell? ⟨t, 0, none⟩ = some (.pointer (some ⟨p, 0, none⟩)) ∧ wx.cell? ⟨w.heap.size, 0, none⟩ = some (.int .i64 a) ∧ wx.cell? ⟨w.heap.size, 1, none⟩ = some (.int .i64 g)) :=
      Lib.hid fun W C hW wx hx => have j := (show Blk W w.heap.size 57 #[.int .i64 a, .int .i64 g] from hW.at_ 3 rfl).chg hx (by simp; omega); ⟨(hx.cell (p := ⟨t, 0, none⟩) (jobBlk hW).lt (by simp; omega)).trans (job_t0 hW), j.cell 0, j.cell 1⟩
    go_region_held3 (fun wx => wx.cell? ⟨t, 0, none⟩ = some (.pointer (some ⟨p, 0, none⟩)) ∧ wx.cell? ⟨w.heap.size, 0, none⟩ = some (.int .i64 a) ∧ wx.cell? ⟨w.heap.size, 1, none⟩ = some (.int .i64 g)) (first | (refine HS.out _ ?_; (repeat' first | with_reducible exact Chg.refl _ _ | with_reducible refine Chg.drew ?_ | with_reducible refine Chg.drewN ?_ _ | with_reducible refine Chg.alloc ?_ _ | with_reducible refine Chg.setCell ?_ ?_ _ | (left; simp; done) | (right; exact Nat.le_refl _) | (right; dsimp only; omega)); done) | (refine HS2.out _ ?_; (repeat' first | with_reducible exact Chg.refl _ _ | with_reducible refine Chg.drew ?_ | with_reducible refine Chg.drewN ?_ _ | with_reducible refine Chg.alloc ?_ _ | with_reducible refine Chg.setCell ?_ ?_ _ | (left; simp; done) | (right; exact Nat.le_refl _) | (right; dsimp only; omega)); done)) (first | (go_at_call 81; refine Calls.mono (pool_get_job p lv fv s a g _ (jobPool H2.out.drew)) ?_; rintro e w2 ⟨v0, e0, rfl, q1, q2⟩; have S4 : Hid (Led B w0 w2 (jobEs t p b n lv fv s f ++ blkE w.heap.size 57 #[.int .i64 a, .int .i64 g] :: blkE (w.heap.size + 1) 80 #[.int .i64 v.a, .int .i64 v.b, .int .i64 v.c, .int .i64 v.d, .int .i64 v.e] :: es)) := Lib.hid (H2.out.drew.later q2); have lt2 := q2.size; have HS2 := Lib.hid (HSM.out _ _ S4.out); have Q1 := Lib.hid q1; have BE := Lib.hid (bel_trans (bel_drew (bel_refl wy)) q2); clear q1 q2) | (go_at_call 81; refine Calls.mono (pool_get_job p lv fv s a g _ (jobPool H3.out.drew)) ?_; rintro e w2 ⟨v0, e0, rfl, q1, q2⟩; have S4 : Hid (Led B w0 w2 (jobEs t p b n lv fv s f ++ blkE w.heap.size 57 #[.int .i64 a, .int .i64 g] :: blkE (w.heap.size + 1) 80 #[.int .i64 v.a, .int .i64 v.b, .int .i64 v.c, .int .i64 v.d, .int .i64 v.e] :: blkE wy.heap.size 80 #[.int .i64 0, .int .i64 0, .int .i64 0, .int .i64 0, .int .i64 0] :: es)) := Lib.hid (H3.out.drew.later q2); have lt2 := q2.size; have HS2 := Lib.hid (HSM.out _ _ S4.out); have Q1 := Lib.hid q1; have BE := Lib.hid (bel_trans (bel_drew (bel_alloc (bel_refl wy) _)) q2); have rb : Blk w2 wy.heap.size 80 #[.int .i64 0, .int .i64 0, .int .i64 0, .int .i64 0, .int .i64 0] := S4.out.at_ 5 rfl; have c0 := rb.cell 0; have fc0 := rb.frozen 0; have c1 := rb.cell 1; have fc1 := rb.frozen 1; have c2 := rb.cell 2; have fc2 := rb.frozen 2; have c3 := rb.cell 3; have fc3 := rb.frozen 3; have c4 := rb.cell 4; have fc4 := rb.frozen 4; simp only [List.getElem?_toArray, List.getElem?_cons_zero, List.getElem?_cons_succ] at c0 c1 c2 c3 c4; have lrb := rb.lt; clear rb; clear q1 q2))
    · go_wp2_with fail
      go_meet
      case rel => exact ⟨_, v0, e0, rfl, rfl, Q1.out, bel_alloc BE.out _, Lib.hid (led_new (A := jobEs t p b n lv fv s f ++ [blkE w.heap.size 57 #[.int .i64 a, .int .i64 g], blkE (w.heap.size + 1) 80 #[.int .i64 v.a, .int .i64 v.b, .int .i64 v.c, .int .i64 v.d, .int .i64 v.e]]) S4.out)⟩
    · go_wp2_with fail
      go_meet
      case rel => exact ⟨_, v0, e0, rfl, rfl, Q1.out, by have be := BE.out; (repeat' first | with_reducible exact be | with_reducible exact bel_refl _ | with_reducible refine bel_drew ?_ | with_reducible refine bel_drewN ?_ _ | with_reducible refine bel_alloc ?_ _ | with_reducible refine bel_set ?_ ?_ _ | exact Nat.le_refl _ | (dsimp only; omega) | omega | (simp; omega)), Lib.hid (led_store5 (A := jobEs t p b n lv fv s f ++ [blkE w.heap.size 57 #[.int .i64 a, .int .i64 g], blkE (w.heap.size + 1) 80 #[.int .i64 v.a, .int .i64 v.b, .int .i64 v.c, .int .i64 v.d, .int .i64 v.e]]) S4.out)⟩
  case rest =>
    clear H2
    obtain ⟨wb, v0, e0, rfl, rfl, Q1, be, S⟩ := hcut
    have BE := Lib.hid be
    clear be
    rcases Q1 with ⟨he, hl, _⟩ | ⟨i, x, rfl, rfl, hx, hxt, hg1, rfl, rfl⟩
    · have hb : (e0 != 0) = true := by simpa using he
      go_wp2_with fail
      exact hR.out _ _ ⟨e0, s, f, n, rfl, .inl ⟨he, hl, rfl, rfl⟩, by omega, led_drop (A := jobEs t p b n lv fv s f) (led_drop (A := jobEs t p b n lv fv s f) (led_drop (A := jobEs t p b n lv fv s f) S.out))⟩
    · have HX := Lib.hid hx
      have HXT := Lib.hid hxt
      have hxi := Lib.hid (HI.out i x hx hxt)
      clear hx hxt HI
      go_upto_region 4 with fail
      go_cut [9, 10] (fun sx sy wx => ∃ (xb : Nat), sx = .pointer (some ⟨xb, 0, none⟩) ∧ sy = .bool q ∧ Hid (Led B w0 wx (jobEs t p b n lv fv s f ++ blkE w.heap.size 57 #[.int .i64 i, .int .i64 x.gen] :: blkE (w.heap.size + 1) 80 #[.int .i64 v.a, .int .i64 v.b, .int .i64 v.c, .int .i64 v.d, .int .i64 v.e] :: blkE wb 80 #[.int .i64 x.v.a, .int .i64 x.v.b, .int .i64 x.v.c, .int .i64 x.v.d, .int .i64 x.v.e] :: blkE xb 57 #[.int .i64 y.1, .int .i64 y.2] :: es)))
      case first =>
        have HS : Hid (∀ wx, Chg [] wc wx → wx.cell? ⟨t, 1, none⟩ = some (.map (some b)) ∧ wx.cell? ⟨w.heap.size + 1, 3, none⟩ = some (.int .i64 v.d) ∧ wx.cell? ⟨w.heap.size + 1, 4, none⟩ = some (.int .i64 v.e) ∧ (Instr.lookup 135 (.map (some b)) (.agg #[.int .i64 v.d, .int .i64 v.e]) true).run Try.prog wx = .ok (.tuple #[.agg #[.int .i64 y.1, .int .i64 y.2], .bool q]) wx) :=
          Lib.hid fun W hW => have hb := hW.below (by simp) (Nat.le_refl _); have hl := S.out.later hb; have j := (show Blk W (w.heap.size + 1) 80 #[.int .i64 v.a, .int .i64 v.b, .int .i64 v.c, .int .i64 v.d, .int .i64 v.e] from hl.at_ 4 rfl); ⟨job_t1 hl, j.cell 3, j.cell 4, HLK2.out _ (bel_trans BE.out hb)⟩
        go_region_held3 (fun wx => wx.cell? ⟨t, 1, none⟩ = some (.map (some b)) ∧ wx.cell? ⟨w.heap.size + 1, 3, none⟩ = some (.int .i64 v.d) ∧ wx.cell? ⟨w.heap.size + 1, 4, none⟩ = some (.int .i64 v.e) ∧ (Instr.lookup 135 (.map (some b)) (.agg #[.int .i64 v.d, .int .i64 v.e]) true).run Try.prog wx = .ok (.tuple #[.agg #[.int .i64 y.1, .int .i64 y.2], .bool q]) wx) ((refine HS.out _ ?_; (repeat' first | with_reducible exact Chg.refl _ _ | with_reducible refine Chg.drew ?_ | with_reducible refine Chg.drewN ?_ _ | with_reducible refine Chg.alloc ?_ _ | with_reducible refine Chg.setCell ?_ ?_ _ | (left; simp; done) | (right; exact Nat.le_refl _) | (right; dsimp only; omega)); done)) (fail)
        · go_wp2_with fail
          go_meet
          case rel => exact ⟨_, rfl, rfl, Lib.hid (led_new (A := jobEs t p b n lv fv s f ++ [blkE w.heap.size 57 #[.int .i64 i, .int .i64 x.gen], blkE (w.heap.size + 1) 80 #[.int .i64 v.a, .int .i64 v.b, .int .i64 v.c, .int .i64 v.d, .int .i64 v.e], blkE wb 80 #[.int .i64 x.v.a, .int .i64 x.v.b, .int .i64 x.v.c, .int .i64 x.v.d, .int .i64 x.v.e]]) (S.out.drew))⟩
        · go_wp2_with fail
          go_meet
          case rel => exact ⟨_, rfl, rfl, Lib.hid ((led_new (A := jobEs t p b n lv fv s f ++ [blkE w.heap.size 57 #[.int .i64 i, .int .i64 x.gen], blkE (w.heap.size + 1) 80 #[.int .i64 v.a, .int .i64 v.b, .int .i64 v.c, .int .i64 v.d, .int .i64 v.e], blkE wb 80 #[.int .i64 x.v.a, .int .i64 x.v.b, .int .i64 x.v.c, .int .i64 x.v.d, .int .i64 x.v.e]]) S.out).drew)⟩
      case rest =>
        clear S BE HLK2
        obtain ⟨xb, rfl, rfl, S⟩ := hcut
        have rr : Blk wc w.heap.size 57 #[.int .i64 i, .int .i64 x.gen] := S.out.at_ 3 rfl
        have rx : Blk wc xb 57 #[.int .i64 y.1, .int .i64 y.2] := S.out.at_ 6 rfl
        have c0 := rr.cell 0; have fc0 := rr.frozen 0; have c1 := rr.cell 1; have fc1 := rr.frozen 1; simp only [List.getElem?_toArray, List.getElem?_cons_zero, List.getElem?_cons_succ] at c0 c1
        have d0 := rx.cell 0; have fd0 := rx.frozen 0; have d1 := rx.cell 1; have fd1 := rx.frozen 1; simp only [List.getElem?_toArray, List.getElem?_cons_zero, List.getElem?_cons_succ] at d0 d1
        clear rr rx
        have rq := ref_neq
        by_cases hne : q = true ∧ refEq y.1 y.2 i x.gen = false
        · obtain ⟨rfl, hne⟩ := hne
          have hy : f (v.d, v.e) = some y := by
            have h1 := HQ.out
            have h2 := HY.out
            cases hf : f (v.d, v.e) with
            | none => rw [hf] at h1; cases h1
            | some z => rw [hf] at h2; simp at h2; rw [h2]
          have HYY := Lib.hid hy
          have HNE := Lib.hid (refEq_false.1 hne)
          clear hy
          go_wp2_with fail
          exact hR.out _ _ ⟨1, s, f, n, rfl, .inr ⟨i, x, rfl, rfl, HX.out, HXT.out, hg1, .inl ⟨y, HYY.out, HNE.out, rfl, rfl, rfl⟩⟩, by omega, led_drop (A := jobEs t p b n lv fv s f) (led_drop (A := jobEs t p b n lv fv s f) (led_drop (A := jobEs t p b n lv fv s f) (led_drop (A := jobEs t p b n lv fv s f) S.out)))⟩
        · have hyy : ∀ z, f (v.d, v.e) = some z → z.1 = i ∧ z.2 = x.gen := by
            intro z hz
            have h1 := HQ.out
            have h2 := HY.out
            rw [hz] at h1 h2
            simp at h1 h2
            subst h1 h2
            cases hre : refEq z.1 z.2 i x.gen with
            | true => exact refEq_true.1 hre
            | false => exact absurd ⟨rfl, hre⟩ hne
          have HYY := Lib.hid hyy
          clear hyy
          have S0 := Lib.hid (led_drop (A := jobEs t p b n lv fv s f ++ [blkE w.heap.size 57 #[.int .i64 i, .int .i64 x.gen], blkE (w.heap.size + 1) 80 #[.int .i64 v.a, .int .i64 v.b, .int .i64 v.c, .int .i64 v.d, .int .i64 v.e], blkE wb 80 #[.int .i64 x.v.a, .int .i64 x.v.b, .int .i64 x.v.c, .int .i64 x.v.d, .int .i64 x.v.e]]) S.out)
          have hpick : q = false ∨ (q = true ∧ refEq y.1 y.2 i x.gen = true) := by
            cases q with
            | false => exact .inl rfl
            | true =>
              cases hre : refEq y.1 y.2 i x.gen with
              | true => exact .inr ⟨rfl, rfl⟩
              | false => exact absurd ⟨rfl, hre⟩ hne
          obtain ⟨w5, hrun, hm5, hc5⟩ := MapIs.drop (x := (x.v.d, x.v.e)) (ty := 0) (jobMap S0.out.drew) Try.underlying135 hxi.out
          have hr5 : (Builtin.delete_ #[135, 57] 0 #[.map (some b), .agg #[.int .i64 x.v.d, .int .i64 x.v.e]]).run Try.prog wc.drew = .ok (.tuple #[]) w5 := hrun
          have S5 : Hid (Led B w0 w5 (jobEs t p b n lv fv s (upd f (x.v.d, x.v.e) none) ++ blkE w.heap.size 57 #[.int .i64 i, .int .i64 x.gen] :: blkE (w.heap.size + 1) 80 #[.int .i64 v.a, .int .i64 v.b, .int .i64 v.c, .int .i64 v.d, .int .i64 v.e] :: blkE wb 80 #[.int .i64 x.v.a, .int .i64 x.v.b, .int .i64 x.v.c, .int .i64 x.v.d, .int .i64 x.v.e] :: es)) := Lib.hid (S0.out.drew.step 2 rfl (mapE refFam b n (upd f (x.v.d, x.v.e) none)) hc5 hm5 (Fresh.refl _ _))
          clear hrun hm5 hc5
          obtain ⟨w6, hrun, hm6, hc6⟩ := MapIs.store (x := (v.d, v.e)) (y := ((i : Int), x.gen)) (jobMap S5.out.drew) Try.underlying135 (by unfold maxLen; omega) HV.out
          have hr6 : (Instr.mapUpdate 135 (.map (some b)) (.agg #[.int .i64 v.d, .int .i64 v.e]) (.agg #[.int .i64 i, .int .i64 x.gen])).run Try.prog w5.drew = .ok () w6 := hrun
          have S6 : Hid (Led B w0 w6 (jobEs t p b (n + 1) lv fv s (upd (upd f (x.v.d, x.v.e) none) (v.d, v.e) (some ((i : Int), x.gen))) ++ blkE w.heap.size 57 #[.int .i64 i, .int .i64 x.gen] :: blkE (w.heap.size + 1) 80 #[.int .i64 v.a, .int .i64 v.b, .int .i64 v.c, .int .i64 v.d, .int .i64 v.e] :: blkE wb 80 #[.int .i64 x.v.a, .int .i64 x.v.b, .int .i64 x.v.c, .int .i64 x.v.d, .int .i64 x.v.e] :: es)) := Lib.hid (S5.out.drew.step 2 rfl (mapE refFam b (n + 1) (upd (upd f (x.v.d, x.v.e) none) (v.d, v.e) (some ((i : Int), x.gen)))) hc6 hm6 (Fresh.refl _ _))
          clear hrun hm6 hc6
          have HM3 : Hid (∀ (W : World) (n : Nat) (f : Int × Int → Option (Int × Int)), Led B w0 W (jobEs t p b n lv fv s f ++ blkE w.heap.size 57 #[.int .i64 i, .int .i64 x.gen] :: blkE (w.heap.size + 1) 80 #[.int .i64 v.a, .int .i64 v.b, .int .i64 v.c, .int .i64 v.d, .int .i64 v.e] :: blkE wb 80 #[.int .i64 x.v.a, .int .i64 x.v.b, .int .i64 x.v.c, .int .i64 x.v.d, .int .i64 x.v.e] :: es) → ∀ wx, Chg [] W wx → wx.cell? ⟨t, 1, none⟩ = some (.map (some b)) ∧ wx.cell? ⟨wb, 3, none⟩ = some (.int .i64 x.v.d) ∧ wx.cell? ⟨wb, 4, none⟩ = some (.int .i64 x.v.e)) :=
            Lib.hid fun W n f hW wx hx => have hl := hW.later (hx.below (by simp) (Nat.le_refl _)); have j := (show Blk wx wb 80 #[.int .i64 x.v.a, .int .i64 x.v.b, .int .i64 x.v.c, .int .i64 x.v.d, .int .i64 x.v.e] from hl.at_ 5 rfl); ⟨job_t1 hl, j.cell 3, j.cell 4⟩
          have HM4 : Hid (∀ (W : World) (n : Nat) (f : Int × Int → Option (Int × Int)), Led B w0 W (jobEs t p b n lv fv s f ++ blkE w.heap.size 57 #[.int .i64 i, .int .i64 x.gen] :: blkE (w.heap.size + 1) 80 #[.int .i64 v.a, .int .i64 v.b, .int .i64 v.c, .int .i64 v.d, .int .i64 v.e] :: blkE wb 80 #[.int .i64 x.v.a, .int .i64 x.v.b, .int .i64 x.v.c, .int .i64 x.v.d, .int .i64 x.v.e] :: es) → ∀ wx, Chg [] W wx → wx.cell? ⟨t, 1, none⟩ = some (.map (some b)) ∧ wx.cell? ⟨w.heap.size + 1, 3, none⟩ = some (.int .i64 v.d) ∧ wx.cell? ⟨w.heap.size + 1, 4, none⟩ = some (.int .i64 v.e) ∧ wx.cell? ⟨w.heap.size, 0, none⟩ = some (.int .i64 i) ∧ wx.cell? ⟨w.heap.size, 1, none⟩ = some (.int .i64 x.gen)) :=
            Lib.hid fun W n f hW wx hx => have hl := hW.later (hx.below (by simp) (Nat.le_refl _)); have j := (show Blk wx (w.heap.size + 1) 80 #[.int .i64 v.a, .int .i64 v.b, .int .i64 v.c, .int .i64 v.d, .int .i64 v.e] from hl.at_ 4 rfl); have r := (show Blk wx w.heap.size 57 #[.int .i64 i, .int .i64 x.gen] from hl.at_ 3 rfl); ⟨job_t1 hl, j.cell 3, j.cell 4, r.cell 0, r.cell 1⟩
          have HM5 : Hid (∀ (W : World) (s : PSt V5), Led B w0 W (jobEs t p b (n + 1) lv fv s (upd (upd f (x.v.d, x.v.e) none) (v.d, v.e) (some ((i : Int), x.gen))) ++ blkE w.heap.size 57 #[.int .i64 i, .int .i64 x.gen] :: blkE (w.heap.size + 1) 80 #[.int .i64 v.a, .int .i64 v.b, .int .i64 v.c, .int .i64 v.d, .int .i64 v.e] :: blkE wb 80 #[.int .i64 x.v.a, .int .i64 x.v.b, .int .i64 x.v.c, .int .i64 x.v.d, .int .i64 x.v.e] :: es) → ∀ wx, Chg [] W wx → wx.cell? ⟨t, 0, none⟩ = some (.pointer (some ⟨p, 0, none⟩)) ∧ wx.cell? ⟨w.heap.size, 0, none⟩ = some (.int .i64 i) ∧ wx.cell? ⟨w.heap.size, 1, none⟩ = some (.int .i64 x.gen) ∧ wx.cell? ⟨w.heap.size + 1, 0, none⟩ = some (.int .i64 v.a) ∧ wx.cell? ⟨w.heap.size + 1, 1, none⟩ = some (.int .i64 v.b) ∧ wx.cell? ⟨w.heap.size + 1, 2, none⟩ = some (.int .i64 v.c) ∧ wx.cell? ⟨w.heap.size + 1, 3, none⟩ = some (.int .i64 v.d) ∧ wx.cell? ⟨w.heap.size + 1, 4, none⟩ = some (.int .i64 v.e)) :=
            Lib.hid fun W s hW wx hx => have hl := hW.later (hx.below (by simp) (Nat.le_refl _)); have j := (show Blk wx (w.heap.size + 1) 80 #[.int .i64 v.a, .int .i64 v.b, .int .i64 v.c, .int .i64 v.d, .int .i64 v.e] from hl.at_ 4 rfl); have r := (show Blk wx w.heap.size 57 #[.int .i64 i, .int .i64 x.gen] from hl.at_ 3 rfl); ⟨job_t0 hl, r.cell 0, r.cell 1, j.cell 0, j.cell 1, j.cell 2, j.cell 3, j.cell 4⟩
          clear S hne HQ HY
          rcases hpick with rfl | ⟨rfl, hre⟩
          all_goals
            go_upto_region 7 with fail
            clear c0 c1 fc0 fc1 d0 d1 fd0 fd1
            have HS := Lib.hid (HM3.out _ _ _ S0.out)
            have HS2 := Lib.hid (HM3.out _ _ _ S5.out)
            go_region_held3 (fun wx => wx.cell? ⟨t, 1, none⟩ = some (.map (some b)) ∧ wx.cell? ⟨wb, 3, none⟩ = some (.int .i64 x.v.d) ∧ wx.cell? ⟨wb, 4, none⟩ = some (.int .i64 x.v.e)) (first | (refine HS.out _ ?_; (repeat' first | with_reducible exact Chg.refl _ _ | with_reducible refine Chg.drew ?_ | with_reducible refine Chg.drewN ?_ _ | with_reducible refine Chg.alloc ?_ _ | with_reducible refine Chg.setCell ?_ ?_ _ | (left; simp; done) | (right; exact Nat.le_refl _) | (right; dsimp only; omega)); done) | (refine HS2.out _ ?_; (repeat' first | with_reducible exact Chg.refl _ _ | with_reducible refine Chg.drew ?_ | with_reducible refine Chg.drewN ?_ _ | with_reducible refine Chg.alloc ?_ _ | with_reducible refine Chg.setCell ?_ ?_ _ | (left; simp; done) | (right; exact Nat.le_refl _) | (right; dsimp only; omega)); done)) (fail)
            clear HS HS2
            go_upto_region 8 with fail
            have HS := Lib.hid (HM4.out _ _ _ S5.out)
            have HS2 := Lib.hid (HM4.out _ _ _ S6.out)
            go_region_held3 (fun wx => wx.cell? ⟨t, 1, none⟩ = some (.map (some b)) ∧ wx.cell? ⟨w.heap.size + 1, 3, none⟩ = some (.int .i64 v.d) ∧ wx.cell? ⟨w.heap.size + 1, 4, none⟩ = some (.int .i64 v.e) ∧ wx.cell? ⟨w.heap.size, 0, none⟩ = some (.int .i64 i) ∧ wx.cell? ⟨w.heap.size, 1, none⟩ = some (.int .i64 x.gen)) (first | (refine HS.out _ ?_; (repeat' first | with_reducible exact Chg.refl _ _ | with_reducible refine Chg.drew ?_ | with_reducible refine Chg.drewN ?_ _ | with_reducible refine Chg.alloc ?_ _ | with_reducible refine Chg.setCell ?_ ?_ _ | (left; simp; done) | (right; exact Nat.le_refl _) | (right; dsimp only; omega)); done) | (refine HS2.out _ ?_; (repeat' first | with_reducible exact Chg.refl _ _ | with_reducible refine Chg.drew ?_ | with_reducible refine Chg.drewN ?_ _ | with_reducible refine Chg.alloc ?_ _ | with_reducible refine Chg.setCell ?_ ?_ _ | (left; simp; done) | (right; exact Nat.le_refl _) | (right; dsimp only; omega)); done)) (fail)
            clear HS HS2
            go_upto_region 9 with fail
            have HS := Lib.hid (HM5.out _ _ S6.out)
            go_region_held3 (fun wx => wx.cell? ⟨t, 0, none⟩ = some (.pointer (some ⟨p, 0, none⟩)) ∧ wx.cell? ⟨w.heap.size, 0, none⟩ = some (.int .i64 i) ∧ wx.cell? ⟨w.heap.size, 1, none⟩ = some (.int .i64 x.gen) ∧ wx.cell? ⟨w.heap.size + 1, 0, none⟩ = some (.int .i64 v.a) ∧ wx.cell? ⟨w.heap.size + 1, 1, none⟩ = some (.int .i64 v.b) ∧ wx.cell? ⟨w.heap.size + 1, 2, none⟩ = some (.int .i64 v.c) ∧ wx.cell? ⟨w.heap.size + 1, 3, none⟩ = some (.int .i64 v.d) ∧ wx.cell? ⟨w.heap.size + 1, 4, none⟩ = some (.int .i64 v.e)) (first | (refine HS.out _ ?_; (repeat' first | with_reducible exact Chg.refl _ _ | with_reducible refine Chg.drew ?_ | with_reducible refine Chg.drewN ?_ _ | with_reducible refine Chg.alloc ?_ _ | with_reducible refine Chg.setCell ?_ ?_ _ | (left; simp; done) | (right; exact Nat.le_refl _) | (right; dsimp only; omega)); done) | (refine HS2.out _ ?_; (repeat' first | with_reducible exact Chg.refl _ _ | with_reducible refine Chg.drew ?_ | with_reducible refine Chg.drewN ?_ _ | with_reducible refine Chg.alloc ?_ _ | with_reducible refine Chg.setCell ?_ ?_ _ | (left; simp; done) | (right; exact Nat.le_refl _) | (right; dsimp only; omega)); done)) (first | (go_at_call 82; refine Calls.mono (pool_set_ok_job p lv fv s i x v _ (jobPool S6.out.drew) HX.out HXT.out hg1) ?_; rintro e w7 ⟨rfl, q1, q2⟩; have S7 : Hid (Led B w0 w7 (jobEs t p b (n + 1) lv fv (s.setAt i x v) (upd (upd f (x.v.d, x.v.e) none) (v.d, v.e) (some ((i : Int), x.gen))) ++ blkE w.heap.size 57 #[.int .i64 i, .int .i64 x.gen] :: blkE (w.heap.size + 1) 80 #[.int .i64 v.a, .int .i64 v.b, .int .i64 v.c, .int .i64 v.d, .int .i64 v.e] :: blkE wb 80 #[.int .i64 x.v.a, .int .i64 x.v.b, .int .i64 x.v.c, .int .i64 x.v.d, .int .i64 x.v.e] :: es)) := Lib.hid (S6.out.drew.step 1 rfl (jobP p lv fv (s.setAt i x v)) q2 q1 (Fresh.refl _ _)); have HS2 := Lib.hid (HM5.out _ _ S7.out); clear q1 q2))
            go_wp2_with fail
            exact hR.out _ _ ⟨0, s.setAt i x v, _, n + 1, rfl, .inr ⟨i, x, rfl, rfl, HX.out, HXT.out, hg1, .inr ⟨HYY.out, rfl, rfl, rfl⟩⟩, by omega, led_drop (A := jobEs t p b (n + 1) lv fv (s.setAt i x v) (upd (upd f (x.v.d, x.v.e) none) (v.d, v.e) (some ((i : Int), x.gen)))) (led_drop (A := jobEs t p b (n + 1) lv fv (s.setAt i x v) (upd (upd f (x.v.d, x.v.e) none) (v.d, v.e) (some ((i : Int), x.gen)))) (led_drop (A := jobEs t p b (n + 1) lv fv (s.setAt i x v) (upd (upd f (x.v.d, x.v.e) none) (v.d, v.e) (some ((i : Int), x.gen)))) S7.out))⟩
end Go.Proofs.Ytjabofofofddbaa
