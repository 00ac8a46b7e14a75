/- The statements on tables of jobs: what they share. -/
import Derived.Test.YtjabofofofddbaaJobsB
namespace Go.Proofs.Ytjabofofofddbaa
open Go.RowKit
set_option linter.unusedVariables false
set_option linter.unusedSimpArgs false
set_option maxRecDepth 100000

set_option maxHeartbeats 1000000 in
theorem jobs_known (w : World) : Calls Try.prog 49 #[] w fun e w' => e = .returned (.bool true) ∧ Below w.heap.size w w' := by
  refine callsR fun R hR => ?_
  go_enter Try.func49, Try.ntmps49
  go_wp2_with fail
  refine Calls.mono (jobs_new 1 1 w.heap.size w w [] (Led.none_ (Below.refl _ _) (Nat.le_refl _)) (by decide)) ?_
  rintro e w1 ⟨t, p, b, rfl, q1⟩
  have S1 := Lib.hid q1; clear q1
  go_wp2_with fail
  refine Calls.mono (jobs_add w.heap.size t p b 0 _ _ _ _ w _ [] ⟨0, 0, 5, 0, 1⟩ (by unfold in64; decide) (by decide) S1.out) ?_
  rintro e w2 ⟨a, g, e0, lv2, fv2, s2, f2, n2, rfl, q1, q2, q3⟩
  obtain ⟨rfl, rfl, rfl, rfl, hf2⟩ : a = 0 ∧ g = 1 ∧ e0 = 0 ∧ s2 = ⟨1, [⟨1, true, ⟨0, 0, 5, 0, 1⟩⟩], []⟩ ∧ n2 ≤ 1 := by
    rcases q1 with ⟨h1, _⟩ | ⟨_, h1, _⟩ | ⟨_, _, rfl, ht, rfl⟩
    · simp at h1
    · simp at h1
    · rcases ht with ⟨_, _, _, _, h1, _⟩ | ⟨_, _, rfl, rfl, _, rfl⟩ | ⟨i, fs, x, h1, _⟩
      · cases h1
      · exact ⟨rfl, rfl, rfl, rfl, q2⟩
      · simp at h1
  have S2 := Lib.hid (led_new (A := jobEs t p b n2 lv2 fv2 ⟨1, [⟨1, true, ⟨0, 0, 5, 0, 1⟩⟩], []⟩ f2) (C := []) (T := 57) (cs := #[.int .i64 0, .int .i64 1]) q3)
  clear q1 q2 q3 S1
  go_wp2_with fail
  refine Calls.mono (jobs_add w.heap.size t p b n2 _ _ _ _ w _ _ ⟨0, 0, 0, 0, 0⟩ (by unfold in64; decide) (by omega) S2.out) ?_
  rintro e w3 ⟨a, g, e0, lv3, fv3, s3, f3, n3, rfl, q1, q2, q3⟩
  obtain ⟨rfl, rfl, rfl, rfl, hf3⟩ : a = 0 ∧ g = 0 ∧ e0 = 13 ∧ s3 = ⟨1, [⟨1, true, ⟨0, 0, 5, 0, 1⟩⟩], []⟩ ∧ n3 ≤ 2 := by
    rcases q1 with ⟨_, rfl, rfl, rfl, rfl, _⟩ | ⟨h1, _⟩ | ⟨h1, _⟩
    · exact ⟨rfl, rfl, rfl, rfl, by omega⟩
    · simp at h1
    · simp at h1
  have S3 : Hid (Led w.heap.size w w3 (jobEs t p b n3 lv3 fv3 ⟨1, [⟨1, true, ⟨0, 0, 5, 0, 1⟩⟩], []⟩ f3 ++ [blkE w2.heap.size 57 #[.int .i64 0, .int .i64 1]])) := Lib.hid q3
  have rb := (show Blk w3 w2.heap.size 57 #[.int .i64 0, .int .i64 1] from q3.at_ 3 rfl)
  have lb := rb.lt
  have r0 := rb.cell 0; have fr0 := rb.frozen 0; have r1 := rb.cell 1; have fr1 := rb.frozen 1; simp only [List.getElem?_toArray, List.getElem?_cons_zero, List.getElem?_cons_succ] at r0 r1
  clear q1 q2 q3 rb S2
  go_wp2_with fail
  refine Calls.mono (jobs_take w.heap.size t p b n3 _ _ _ _ w _ _ 0 1 (by intro i x hx _; have := (List.getElem?_eq_some_iff.1 hx).1; simp at this; subst this; simp at hx; subst hx; unfold in64; decide) (S3.out.alloc _)) ?_
  rintro e w4 ⟨v, e0, fv4, s4, rfl, q1, q2⟩
  obtain ⟨rfl, rfl, rfl⟩ : v = ⟨0, 0, 5, 0, 1⟩ ∧ e0 = 0 ∧ s4 = ⟨1, [⟨1, false, ⟨0, 0, 0, 0, 0⟩⟩], [0]⟩ := by
    rcases q1 with ⟨h1, h2, _⟩ | ⟨i, x, h1, h2, hx, _, _, rfl, rfl, rfl⟩
    · simp [PSt.look] at h2
      exact absurd h2.symm h1
    · have := (List.getElem?_eq_some_iff.1 hx).1
      simp at this
      subst this
      simp at hx
      subst hx
      exact ⟨rfl, rfl, rfl⟩
  rw [if_pos rfl] at q2
  have S4 := Lib.hid (led_new (A := jobEs t p b n3 lv3 fv4 ⟨1, [⟨1, false, ⟨0, 0, 0, 0, 0⟩⟩], [0]⟩ (upd f3 (0, 1) none)) (T := 80) (cs := #[.int .i64 0, .int .i64 0, .int .i64 5, .int .i64 0, .int .i64 1]) q2)
  have rb := (show Blk w4 w2.heap.size 57 #[.int .i64 0, .int .i64 1] from q2.at_ 3 rfl)
  have lb4 := rb.lt
  have r0 := rb.cell 0; have fr0 := rb.frozen 0; have r1 := rb.cell 1; have fr1 := rb.frozen 1; simp only [List.getElem?_toArray, List.getElem?_cons_zero, List.getElem?_cons_succ] at r0 r1
  clear q1 q2 rb S3
  go_wp2_with fail
  refine Calls.mono (jobs_get w.heap.size t p b n3 _ _ _ _ w _ _ 0 1 S4.out) ?_
  rintro e w5 ⟨v, e0, rfl, q1, q2⟩
  obtain ⟨rfl, rfl⟩ : v = ⟨0, 0, 0, 0, 0⟩ ∧ e0 = 23 := by
    rcases q1 with ⟨_, h2, rfl⟩ | ⟨i, x, h1, h2, hx, ht, _⟩
    · exact ⟨rfl, by rw [← h2]; rfl⟩
    · have := (List.getElem?_eq_some_iff.1 hx).1
      simp at this
      subst this
      simp at hx
      subst hx
      cases ht
  have S5 := Lib.hid (S4.out.later q2)
  have rb := (show Blk w5 w4.heap.size 80 #[.int .i64 0, .int .i64 0, .int .i64 5, .int .i64 0, .int .i64 1] from S5.out.at_ 3 rfl)
  have lb5 := rb.lt
  have j0 := rb.cell 0; have fj0 := rb.frozen 0; have j1 := rb.cell 1; have fj1 := rb.frozen 1; have j2 := rb.cell 2; have fj2 := rb.frozen 2; have j3 := rb.cell 3; have fj3 := rb.frozen 3; have j4 := rb.cell 4; have fj4 := rb.frozen 4; simp only [List.getElem?_toArray, List.getElem?_cons_zero, List.getElem?_cons_succ] at j0 j1 j2 j3 j4
  clear q1 q2 rb S4
  go_wp2_with fail
  refine Calls.mono (jobs_len w.heap.size t p b n3 _ _ _ _ w _ _ (S5.out.alloc _)) ?_
  rintro e w6 ⟨rfl, k, rfl⟩
  go_wp2_with fail
  exact hR.out _ _ ⟨rfl, ((S5.out.alloc _).drewN k).be⟩
end Go.Proofs.Ytjabofofofddbaa
