/- The table of jobs: what each method does; the second part: New, Take. -/
import Derived.Test.YtjabofofofddbaaJobs
namespace Go.Proofs.Ytjabofofofddbaa
open Go.RowKit
open Go.Maps (Keyed)
set_option linter.unusedVariables false
set_option linter.unusedSimpArgs false
set_option maxRecDepth 100000

theorem jobs_new (jobs : Int) (N : Nat) (B : Nat) (w0 w : World) (es : List Ent) (hl : Led B w0 w es) (hn : (N : Int) = max 1 (min jobs 4096)) :
    Calls Try.prog 42 #[.int .i64 jobs] w fun e w' => ∃ t p b, e = .returned (.pointer (some ⟨t, 0, none⟩)) ∧ Led B w0 w' (jobEs t p b 0 (.slice none 0 0) (.slice none 0 0) ⟨N, [], []⟩ (fun _ => none) ++ es) := by
  have HL := Lib.hid hl; clear hl
  have HN := Lib.hid hn
  have hmm := @run_makeMap Try.prog
  have e2 : max 1 (min jobs 4096) = (N : Int) := by omega
  clear hn
  refine callsR fun R hR => ?_
  go_enter Try.func42, Try.ntmps42
  go_wp2_with fail
  refine Calls.mono (pool_new_job N N _ (by have := HN.out; omega)) ?_
  rintro e w1 ⟨p, rfl, q1, q2, q3⟩
  have S1 := Lib.hid (HL.out.add (jobP p (.slice none 0 0) (.slice none 0 0) ⟨N, [], []⟩) q3 q1 (fun b hb => by rcases mem_poolFp.1 hb with rfl | hb | hb; exact q2; simp [Value.ownBlock] at hb; simp [Value.ownBlock] at hb))
  clear q1 q2 q3
  go_wp2_with fail
  have S2 := S1.out.add (mapE refFam w1.heap.size 0 (fun _ => none)) (bel_alloc (bel_refl w1) (.map #[] 0)) (MapIs.made refFam w1) (by simp [mapE])
  have S3 := (S2.add (blkE (w1.alloc (.map #[] 0)).heap.size 137 #[.pointer (some ⟨p, 0, none⟩), .map (some w1.heap.size)]) (bel_alloc (bel_refl _) _) (Blk.new _ _ _) (by simp [blkE])).perm (List.Perm.cons _ (List.Perm.swap _ _ _))
  rw [World.size_alloc] at S3
  exact hR.out _ _ ⟨_, _, _, rfl, S3⟩

/-- The items of those that are taken are numbers. -/
def ItemsOk (s : PSt V5) : Prop := ∀ (i : Nat) (x : Pl V5), s.l[i]? = some x → x.taken = true → in64 x.v.d ∧ in64 x.v.e

set_option maxHeartbeats 2000000 in
theorem jobs_take (B t p b n : Nat) (lv fv : Value) (s : PSt V5) (f : Int × Int → Option (Int × Int)) (w0 w : World) (es : List Ent) (a g : Int) (hi : ItemsOk s) (h : Led B w0 w (jobEs t p b n lv fv s f ++ es)) :
    Calls Try.prog 44 #[.pointer (some ⟨t, 0, none⟩), .agg #[.int .i64 a, .int .i64 g]] w fun e w' => ∃ (v : V5) (e0 : Int) (fv' : Value) (s' : PSt V5), e = .returned (.tuple #[.agg #[.int .i64 v.a, .int .i64 v.b, .int .i64 v.c, .int .i64 v.d, .int .i64 v.e], .int .i64 e0]) ∧ GiveR ⟨0, 0, 0, 0, 0⟩ s a g v e0 s' ∧
      Led B w0 w' (jobEs t p b n lv fv' s' (if e0 = 0 then upd f (v.d, v.e) none else f) ++ es) := by
  have hlt := (jobBlk h).lt
  have H := Lib.hid h; clear h
  have HI := Lib.hid hi; clear hi
  refine callsR fun R hR => ?_
  go_enter Try.func44, Try.ntmps44
  go_upto_region 1 with fail
  go_cut [6, 7] (fun x y wx => ∃ (jb : Nat) (v : V5) (e0 : Int) (fv' : Value) (s' : PSt V5), x = .pointer (some ⟨jb, 0, none⟩) ∧ y = .int .i64 e0 ∧ GiveR ⟨0, 0, 0, 0, 0⟩ s a g v e0 s' ∧ Hid (Led B w0 wx (jobEs t p b n lv fv' s' f ++ blkE (w.heap.size + 1) 80 #[.int .i64 0, .int .i64 0, .int .i64 0, .int .i64 0, .int .i64 0] :: blkE jb 80 #[.int .i64 v.a, .int .i64 v.b, .int .i64 v.c, .int .i64 v.d, .int .i64 v.e] :: es)))
  case first =>
    have S1 := led_new (A := jobEs t p b n lv fv s f) (C := es) (T := 57) (cs := #[.int .i64 a, .int .i64 g]) H.out
    have S2 := led_new (A := jobEs t p b n lv fv s f) (T := 80) (cs := #[.int .i64 0, .int .i64 0, .int .i64 0, .int .i64 0, .int .i64 0]) S1
    rw [World.size_alloc] at S2
    have hw : w.heap.size + 1 < ((w.alloc (.cells #[.int .i64 a, .int .i64 g] 57)).alloc (.cells #[.int .i64 0, .int .i64 0, .int .i64 0, .int .i64 0, .int .i64 0] 80)).heap.size := by simp
    clear S1
    generalize (w.alloc (.cells #[.int .i64 a, .int .i64 g] 57)).alloc (.cells #[.int .i64 0, .int .i64 0, .int .i64 0, .int .i64 0, .int .i64 0] 80) = wy at S2 hw ⊢
    have H2 := Lib.hid S2
    have H3 := Lib.hid (led_new (A := jobEs t p b n lv fv s f ++ [blkE (w.heap.size + 1) 80 #[.int .i64 0, .int .i64 0, .int .i64 0, .int .i64 0, .int .i64 0], blkE w.heap.size 57 #[.int .i64 a, .int .i64 g]]) (C := es) (T := 80) (cs := #[.int .i64 0, .int .i64 0, .int .i64 0, .int .i64 0, .int .i64 0]) (by simpa using S2))
    have ltt := (jobBlk S2).lt
    have HS : Hid (∀ W, Chg [] wy W → W.cell? ⟨t, 0, none⟩ = some (.pointer (some ⟨p, 0, none⟩)) ∧ W.cell? ⟨w.heap.size, 0, none⟩ = some (.int .i64 a) ∧ W.cell? ⟨w.heap.size, 1, none⟩ = some (.int .i64 g)) :=
      Lib.hid fun W hW => have hl := H2.out.later (hW.below (by simp) (Nat.le_refl _)); ⟨job_t0 hl, (show Blk W w.heap.size 57 #[.int .i64 a, .int .i64 g] from hl.at_ 4 rfl).cell 0, (show Blk W w.heap.size 57 #[.int .i64 a, .int .i64 g] from hl.at_ 4 rfl).cell 1⟩
    clear S2
    go_region_held3 (fun wx => wx.cell? ⟨t, 0, none⟩ = some (.pointer (some ⟨p, 0, none⟩)) ∧ wx.cell? ⟨w.heap.size, 0, none⟩ = some (.int .i64 a) ∧ wx.cell? ⟨w.heap.size, 1, none⟩ = some (.int .i64 g)) (first | (refine HS.out _ ?_; (repeat' first | with_reducible exact Chg.refl _ _ | with_reducible refine Chg.drew ?_ | with_reducible refine Chg.drewN ?_ _ | with_reducible refine Chg.alloc ?_ _ | with_reducible refine Chg.setCell ?_ ?_ _ | (left; simp; done) | (right; exact Nat.le_refl _) | (right; dsimp only; omega)); done) | (refine HS2.out _ ?_; (repeat' first | with_reducible exact Chg.refl _ _ | with_reducible refine Chg.drew ?_ | with_reducible refine Chg.drewN ?_ _ | with_reducible refine Chg.alloc ?_ _ | with_reducible refine Chg.setCell ?_ ?_ _ | (left; simp; done) | (right; exact Nat.le_refl _) | (right; dsimp only; omega)); done)) (first | (go_at_call 79; refine Calls.mono (pool_give_job p lv fv s a g _ (jobPool H2.out.drew)) ?_; rintro e w2 ⟨v, e0, fv', s', rfl, q1, q2, q3, q4⟩; have S4 : Hid (Led B w0 w2 (jobEs t p b n lv fv' s' f ++ blkE (w.heap.size + 1) 80 #[.int .i64 0, .int .i64 0, .int .i64 0, .int .i64 0, .int .i64 0] :: blkE w.heap.size 57 #[.int .i64 a, .int .i64 g] :: es)) := Lib.hid (H2.out.drew.step 1 rfl (jobP p lv fv' s') q3 q2 q4); have lt2 := q3.size; have HS2 : Hid (∀ W, Chg [wy.heap.size] w2 W → W.cell? ⟨t, 0, none⟩ = some (.pointer (some ⟨p, 0, none⟩)) ∧ W.cell? ⟨w.heap.size, 0, none⟩ = some (.int .i64 a) ∧ W.cell? ⟨w.heap.size, 1, none⟩ = some (.int .i64 g)) := Lib.hid (fun W hW => ⟨(hW.cell (p := ⟨t, 0, none⟩) (jobBlk S4.out).lt (by simp; omega)).trans (job_t0 S4.out), (hW.cell (p := ⟨w.heap.size, 0, none⟩) (S4.out.lt_ 4 rfl w.heap.size (by simp [blkE])) (by simp; omega)).trans ((show Blk w2 w.heap.size 57 #[.int .i64 a, .int .i64 g] from S4.out.at_ 4 rfl).cell 0), (hW.cell (p := ⟨w.heap.size, 1, none⟩) (S4.out.lt_ 4 rfl w.heap.size (by simp [blkE])) (by simp; omega)).trans ((show Blk w2 w.heap.size 57 #[.int .i64 a, .int .i64 g] from S4.out.at_ 4 rfl).cell 1)⟩); have Q1 := Lib.hid q1; clear q1 q2 q3 q4) | (go_at_call 79; refine Calls.mono (pool_give_job p lv fv s a g _ (jobPool H3.out.drew)) ?_; rintro e w2 ⟨v, e0, fv', s', rfl, q1, q2, q3, q4⟩; have S4 : Hid (Led B w0 w2 (jobEs t p b n lv fv' s' f ++ blkE (w.heap.size + 1) 80 #[.int .i64 0, .int .i64 0, .int .i64 0, .int .i64 0, .int .i64 0] :: blkE w.heap.size 57 #[.int .i64 a, .int .i64 g] :: blkE wy.heap.size 80 #[.int .i64 0, .int .i64 0, .int .i64 0, .int .i64 0, .int .i64 0] :: es)) := Lib.hid (H3.out.drew.step 1 rfl (jobP p lv fv' s') q3 q2 q4); have lt2 := q3.size; have HS2 : Hid (∀ W, Chg [wy.heap.size] w2 W → W.cell? ⟨t, 0, none⟩ = some (.pointer (some ⟨p, 0, none⟩)) ∧ W.cell? ⟨w.heap.size, 0, none⟩ = some (.int .i64 a) ∧ W.cell? ⟨w.heap.size, 1, none⟩ = some (.int .i64 g)) := Lib.hid (fun W hW => ⟨(hW.cell (p := ⟨t, 0, none⟩) (jobBlk S4.out).lt (by simp; omega)).trans (job_t0 S4.out), (hW.cell (p := ⟨w.heap.size, 0, none⟩) (S4.out.lt_ 4 rfl w.heap.size (by simp [blkE])) (by simp; omega)).trans ((show Blk w2 w.heap.size 57 #[.int .i64 a, .int .i64 g] from S4.out.at_ 4 rfl).cell 0), (hW.cell (p := ⟨w.heap.size, 1, none⟩) (S4.out.lt_ 4 rfl w.heap.size (by simp [blkE])) (by simp; omega)).trans ((show Blk w2 w.heap.size 57 #[.int .i64 a, .int .i64 g] from S4.out.at_ 4 rfl).cell 1)⟩); have rb : Blk w2 wy.heap.size 80 #[.int .i64 0, .int .i64 0, .int .i64 0, .int .i64 0, .int .i64 0] := S4.out.at_ 5 rfl; have c0 := rb.cell 0; have fc0 := rb.frozen 0; have c1 := rb.cell 1; have fc1 := rb.frozen 1; have c2 := rb.cell 2; have fc2 := rb.frozen 2; have c3 := rb.cell 3; have fc3 := rb.frozen 3; have c4 := rb.cell 4; have fc4 := rb.frozen 4; simp only [List.getElem?_toArray, List.getElem?_cons_zero, List.getElem?_cons_succ] at c0 c1 c2 c3 c4; have lrb := rb.lt; clear rb; have Q1 := Lib.hid q1; clear q1 q2 q3 q4))
    · go_wp2_with fail
      go_meet
      case rel => exact ⟨_, v, e0, fv', s', rfl, rfl, Q1.out, Lib.hid (led_drop (A := jobEs t p b n lv fv' s' f ++ [blkE (w.heap.size + 1) 80 #[.int .i64 0, .int .i64 0, .int .i64 0, .int .i64 0, .int .i64 0], blkE w2.heap.size 80 #[.int .i64 v.a, .int .i64 v.b, .int .i64 v.c, .int .i64 v.d, .int .i64 v.e]]) (e := blkE w.heap.size 57 #[.int .i64 a, .int .i64 g]) (led_new (A := jobEs t p b n lv fv' s' f ++ [blkE (w.heap.size + 1) 80 #[.int .i64 0, .int .i64 0, .int .i64 0, .int .i64 0, .int .i64 0]]) S4.out))⟩
    · go_wp2_with fail
      go_meet
      case rel => exact ⟨_, v, e0, fv', s', rfl, rfl, Q1.out, Lib.hid (led_drop (A := jobEs t p b n lv fv' s' f ++ [blkE (w.heap.size + 1) 80 #[.int .i64 0, .int .i64 0, .int .i64 0, .int .i64 0, .int .i64 0]]) (led_store5 (A := jobEs t p b n lv fv' s' f ++ [blkE (w.heap.size + 1) 80 #[.int .i64 0, .int .i64 0, .int .i64 0, .int .i64 0, .int .i64 0], blkE w.heap.size 57 #[.int .i64 a, .int .i64 g]]) S4.out))⟩
  case rest =>
    clear H
    obtain ⟨jb, v, e0, fv', s', rfl, rfl, Q1, S⟩ := hcut
    have rb : Blk wc jb 80 #[.int .i64 v.a, .int .i64 v.b, .int .i64 v.c, .int .i64 v.d, .int .i64 v.e] := S.out.at_ 4 rfl
    have rc : Blk wc (w.heap.size + 1) 80 #[.int .i64 0, .int .i64 0, .int .i64 0, .int .i64 0, .int .i64 0] := S.out.at_ 3 rfl
    by_cases he : e0 = 0
    · subst he
      have hok : in64 v.d ∧ in64 v.e := by
        rcases Q1 with ⟨h0, _⟩ | ⟨i, x, _, _, hx, ht, _, _, rfl, _⟩
        · exact absurd rfl h0
        · exact HI.out i x hx ht
      obtain ⟨w5, hrun, hm5, hc5⟩ := MapIs.drop (x := (v.d, v.e)) (ty := 0) (jobMap S.out.drew) Try.underlying135 hok
      have hr5 : (Builtin.delete_ #[135, 57] 0 #[.map (some b), .agg #[.int .i64 v.d, .int .i64 v.e]]).run Try.prog wc.drew = .ok (.tuple #[]) w5 := hrun
      clear hrun
      have S5 : Hid (Led B w0 w5 (jobEs t p b n lv fv' s' (upd f (v.d, v.e) none) ++ blkE (w.heap.size + 1) 80 #[.int .i64 0, .int .i64 0, .int .i64 0, .int .i64 0, .int .i64 0] :: blkE jb 80 #[.int .i64 v.a, .int .i64 v.b, .int .i64 v.c, .int .i64 v.d, .int .i64 v.e] :: es)) := Lib.hid (S.out.drew.step 2 rfl (mapE refFam b n (upd f (v.d, v.e) none)) hc5 hm5 (Fresh.refl _ _))
      have x1 := job_t1 S.out
      have j0 := rb.cell 0; have fj0 := rb.frozen 0; have j1 := rb.cell 1; have fj1 := rb.frozen 1; have j2 := rb.cell 2; have fj2 := rb.frozen 2; have j3 := rb.cell 3; have fj3 := rb.frozen 3; have j4 := rb.cell 4; have fj4 := rb.frozen 4; simp only [List.getElem?_toArray, List.getElem?_cons_zero, List.getElem?_cons_succ] at j0 j1 j2 j3 j4
      have lj := rb.lt
      clear rb rc
      go_wp2_with fail
      have HS : Hid (∀ W, Chg [] wc W → W.cell? ⟨t, 1, none⟩ = some (.map (some b)) ∧ W.cell? ⟨jb, 3, none⟩ = some (.int .i64 v.d) ∧ W.cell? ⟨jb, 4, none⟩ = some (.int .i64 v.e)) :=
        Lib.hid fun W hW => ⟨(hW.cell (p := ⟨t, 1, none⟩) (jobBlk S.out).lt (by simp)).trans x1, (hW.cell (p := ⟨jb, 3, none⟩) lj (by simp)).trans j3, (hW.cell (p := ⟨jb, 4, none⟩) lj (by simp)).trans j4⟩
      have HS2 : Hid (∀ W, Chg [] w5 W → W.cell? ⟨t, 1, none⟩ = some (.map (some b)) ∧ W.cell? ⟨jb, 3, none⟩ = some (.int .i64 v.d) ∧ W.cell? ⟨jb, 4, none⟩ = some (.int .i64 v.e)) :=
        Lib.hid fun W hW => have hl := S5.out.later (hW.below (by simp) (Nat.le_refl _)); ⟨job_t1 hl, (show Blk W jb 80 #[.int .i64 v.a, .int .i64 v.b, .int .i64 v.c, .int .i64 v.d, .int .i64 v.e] from hl.at_ 4 rfl).cell 3, (show Blk W jb 80 #[.int .i64 v.a, .int .i64 v.b, .int .i64 v.c, .int .i64 v.d, .int .i64 v.e] from hl.at_ 4 rfl).cell 4⟩
      go_region_held3 (fun wx => wx.cell? ⟨t, 1, none⟩ = some (.map (some b)) ∧ wx.cell? ⟨jb, 3, none⟩ = some (.int .i64 v.d) ∧ wx.cell? ⟨jb, 4, none⟩ = some (.int .i64 v.e)) (first | (refine HS.out _ ?_; (repeat' first | with_reducible exact Chg.refl _ _ | with_reducible refine Chg.drew ?_ | with_reducible refine Chg.drewN ?_ _ | with_reducible refine Chg.alloc ?_ _ | with_reducible refine Chg.setCell ?_ ?_ _ | (left; simp; done) | (right; exact Nat.le_refl _) | (right; dsimp only; omega)); done) | (refine HS2.out _ ?_; (repeat' first | with_reducible exact Chg.refl _ _ | with_reducible refine Chg.drew ?_ | with_reducible refine Chg.drewN ?_ _ | with_reducible refine Chg.alloc ?_ _ | with_reducible refine Chg.setCell ?_ ?_ _ | (left; simp; done) | (right; exact Nat.le_refl _) | (right; dsimp only; omega)); done)) (fail)
      clear j0 fj0 j1 fj1 j2 fj2 j3 fj3 j4 fj4 x1
      have rb : Blk w5 jb 80 #[.int .i64 v.a, .int .i64 v.b, .int .i64 v.c, .int .i64 v.d, .int .i64 v.e] := S5.out.at_ 4 rfl
      have rc : Blk w5 (w.heap.size + 1) 80 #[.int .i64 0, .int .i64 0, .int .i64 0, .int .i64 0, .int .i64 0] := S5.out.at_ 3 rfl
      have j0 := rb.cell 0; have fj0 := rb.frozen 0; have j1 := rb.cell 1; have fj1 := rb.frozen 1; have j2 := rb.cell 2; have fj2 := rb.frozen 2; have j3 := rb.cell 3; have fj3 := rb.frozen 3; have j4 := rb.cell 4; have fj4 := rb.frozen 4; simp only [List.getElem?_toArray, List.getElem?_cons_zero, List.getElem?_cons_succ] at j0 j1 j2 j3 j4
      have c0 := rc.cell 0; have fc0 := rc.frozen 0; have c1 := rc.cell 1; have fc1 := rc.frozen 1; have c2 := rc.cell 2; have fc2 := rc.frozen 2; have c3 := rc.cell 3; have fc3 := rc.frozen 3; have c4 := rc.cell 4; have fc4 := rc.frozen 4; simp only [List.getElem?_toArray, List.getElem?_cons_zero, List.getElem?_cons_succ] at c0 c1 c2 c3 c4
      have lc := rc.lt
      clear rb rc
      go_wp2_with fail
      have S6 := led_drop (A := jobEs t p b n lv fv' s' (upd f (v.d, v.e) none)) (e := blkE (w.heap.size + 1) 80 #[.int .i64 v.a, .int .i64 v.b, .int .i64 v.c, .int .i64 v.d, .int .i64 v.e]) (led_store5 (A := jobEs t p b n lv fv' s' (upd f (v.d, v.e) none)) S5.out)
      exact bodyPost_ret (v := .tuple #[.agg #[.int .i64 v.a, .int .i64 v.b, .int .i64 v.c, .int .i64 v.d, .int .i64 v.e], .int .i64 0]) (by simp [results, Try.results44, go_sem, lc, c0, c1, c2, c3, c4]) rfl (hR.out _ _ ⟨v, 0, fv', s', rfl, Q1, by rw [if_pos rfl]; exact led_drop (A := jobEs t p b n lv fv' s' (upd f (v.d, v.e) none)) S6⟩)
    · have hne : (e0 == 0) = false := by simpa using he
      have lc := rc.lt
      have j0 := rb.cell 0; have fj0 := rb.frozen 0; have j1 := rb.cell 1; have fj1 := rb.frozen 1; have j2 := rb.cell 2; have fj2 := rb.frozen 2; have j3 := rb.cell 3; have fj3 := rb.frozen 3; have j4 := rb.cell 4; have fj4 := rb.frozen 4; simp only [List.getElem?_toArray, List.getElem?_cons_zero, List.getElem?_cons_succ] at j0 j1 j2 j3 j4
      have c0 := rc.cell 0; have fc0 := rc.frozen 0; have c1 := rc.cell 1; have fc1 := rc.frozen 1; have c2 := rc.cell 2; have fc2 := rc.frozen 2; have c3 := rc.cell 3; have fc3 := rc.frozen 3; have c4 := rc.cell 4; have fc4 := rc.frozen 4; simp only [List.getElem?_toArray, List.getElem?_cons_zero, List.getElem?_cons_succ] at c0 c1 c2 c3 c4
      clear rb rc
      go_wp2_with fail
      have S6 := led_drop (A := jobEs t p b n lv fv' s' f) (e := blkE (w.heap.size + 1) 80 #[.int .i64 v.a, .int .i64 v.b, .int .i64 v.c, .int .i64 v.d, .int .i64 v.e]) (led_store5 (A := jobEs t p b n lv fv' s' f) S.out)
      exact bodyPost_ret (v := .tuple #[.agg #[.int .i64 v.a, .int .i64 v.b, .int .i64 v.c, .int .i64 v.d, .int .i64 v.e], .int .i64 e0]) (by simp [results, Try.results44, go_sem, lc, c0, c1, c2, c3, c4]) rfl (hR.out _ _ ⟨v, e0, fv', s', rfl, Q1, by rw [if_neg he]; exact led_drop (A := jobEs t p b n lv fv' s' f) S6⟩)
end Go.Proofs.Ytjabofofofddbaa
