import Derived.Test.YtognmhgdegpdiaaSlotsD
import Derived.Test.YtognmhgdegpdiaaSlotsF
/- The statements on slots: what they share. -/
namespace Go.Proofs.Ytognmhgdegpdiaa
open Go.RowKit
set_option linter.unusedVariables false
set_option linter.unusedSimpArgs false
set_option maxRecDepth 100000

theorem at_one {α : Type} {x y : Pl α} {i : Nat} (h : [x][i]? = some y) : i = 0 ∧ x = y := by
  have := (List.getElem?_eq_some_iff.1 h).1
  simp at this
  subst this
  simp at h
  exact ⟨rfl, h⟩

set_option maxHeartbeats 1000000 in
theorem slots_known (w : World) : Calls Try.prog 13 #[] w fun e w' => e = .returned (.bool true) ∧ Below w.heap.size w w' := by
  refine callsR fun R hR => ?_
  go_enter Try.func13, Try.ntmps13
  go_wp2_with fail
  refine Calls.mono (slots_new 2 2 w.heap.size w w [] (Led.none_ (Below.refl _ _) (Nat.le_refl _)) (by decide)) ?_
  rintro e w1 ⟨t, ph, pi, b, rfl, q1⟩
  have S1 := Lib.hid q1; clear q1
  go_wp2_with fail
  refine Calls.mono (slots_make w.heap.size t ph pi b 0 _ _ _ _ _ _ _ w _ [] 9 S1.out) ?_
  rintro e w2 ⟨a, g, e0, lh2, fh2, sh2, rfl, q1, q2⟩
  obtain ⟨rfl, rfl, rfl, rfl⟩ : a = 0 ∧ g = 0 ∧ e0 = 24 ∧ sh2 = ⟨64, [], []⟩ := by
    rcases q1 with ⟨_, rfl, rfl, rfl, rfl⟩ | ⟨h1, _⟩
    · exact ⟨rfl, rfl, rfl, rfl⟩
    · simp at h1
  have S2 := Lib.hid (led_new (A := slotEs t ph pi b 0 lh2 fh2 (.slice none 0 0) (.slice none 0 0) ⟨64, [], []⟩ ⟨2, [], []⟩ (fun _ => none)) (C := []) (T := 27) (cs := #[.int .i64 0, .int .i64 0]) q2)
  clear q1 q2 S1
  go_wp2_with fail
  refine Calls.mono (slots_make w.heap.size t ph pi b 0 _ _ _ _ _ _ _ w _ _ 3 S2.out) ?_
  rintro e w3 ⟨a, g, e0, lh3, fh3, sh3, rfl, q1, q2⟩
  obtain ⟨rfl, rfl, rfl, rfl⟩ : a = 0 ∧ g = 1 ∧ e0 = 0 ∧ sh3 = ⟨64, [⟨1, true, ⟨3, -1, 0⟩⟩], []⟩ := by
    rcases q1 with ⟨h1, _⟩ | ⟨_, ok, ht, rfl⟩
    · simp at h1
    · rcases ht with ⟨_, h1, _⟩ | ⟨_, _, rfl, rfl, rfl, rfl⟩ | ⟨i, fs, x, h1, _⟩
      · simp at h1
      · exact ⟨rfl, rfl, rfl, rfl⟩
      · simp at h1
  have S3 : Hid (Led w.heap.size w (w3.alloc (.cells #[.int .i64 0, .int .i64 1] 27)) (slotEs t ph pi b 0 lh3 fh3 (.slice none 0 0) (.slice none 0 0) ⟨64, [⟨1, true, ⟨3, -1, 0⟩⟩], []⟩ ⟨2, [], []⟩ (fun _ => none) ++ [blkE w3.heap.size 27 #[.int .i64 0, .int .i64 1]])) :=
    Lib.hid (led_new (A := slotEs t ph pi b 0 lh3 fh3 (.slice none 0 0) (.slice none 0 0) ⟨64, [⟨1, true, ⟨3, -1, 0⟩⟩], []⟩ ⟨2, [], []⟩ (fun _ => none)) (C := []) (T := 27) (cs := #[.int .i64 0, .int .i64 1]) (led_cut (A := slotEs t ph pi b 0 lh3 fh3 (.slice none 0 0) (.slice none 0 0) ⟨64, [⟨1, true, ⟨3, -1, 0⟩⟩], []⟩ ⟨2, [], []⟩ (fun _ => none)) (M := [_]) (C := []) q2))
  clear q1 q2 S2
  obtain ⟨hb, hhb⟩ : ∃ hb, w3.heap.size = hb := ⟨_, rfl⟩
  rw [hhb] at S3
  go_wp2_with fail
  refine Calls.mono (slots_put w.heap.size t ph pi b 0 _ _ _ _ _ _ _ w _ _ 0 1 7 (by unfold in64; decide) (by decide) S3.out) ?_
  rintro e w4 ⟨u, v, e0, li4, fi4, si4, f4, n4, rfl, q1, q2, q3⟩
  obtain ⟨rfl, rfl, rfl, rfl⟩ : u = 0 ∧ v = 1 ∧ e0 = 0 ∧ si4 = ⟨2, [⟨1, true, ⟨7, 0, 1⟩⟩], []⟩ := by
    rcases q1 with ⟨h1, h2, _⟩ | ⟨i, x, hi, hg, hx, hxt, _, h1⟩
    · simp [PSt.look] at h2
      exact absurd h2.symm h1
    · obtain ⟨rfl, rfl⟩ := at_one hx
      rcases h1 with ⟨h2, _⟩ | ⟨_, h2, _⟩ | ⟨_, _, rfl, ht, _⟩
      · simp at h2
      · simp at h2
      · rcases ht with ⟨_, _, _, _, h2, _⟩ | ⟨_, _, rfl, rfl, _, rfl⟩ | ⟨i, fs, x, h2, _⟩
        · cases h2
        · exact ⟨rfl, rfl, rfl, rfl⟩
        · simp at h2
  have S4 : Hid (Led w.heap.size w (w4.alloc (.cells #[.int .i64 0, .int .i64 1] 27)) (slotEs t ph pi b n4 lh3 fh3 li4 fi4 ⟨64, [⟨1, true, ⟨3, -1, 0⟩⟩], []⟩ ⟨2, [⟨1, true, ⟨7, 0, 1⟩⟩], []⟩ f4 ++ blkE w4.heap.size 27 #[.int .i64 0, .int .i64 1] :: [blkE hb 27 #[.int .i64 0, .int .i64 1]])) :=
    Lib.hid (led_new (A := slotEs t ph pi b n4 lh3 fh3 li4 fi4 ⟨64, [⟨1, true, ⟨3, -1, 0⟩⟩], []⟩ ⟨2, [⟨1, true, ⟨7, 0, 1⟩⟩], []⟩ f4) (T := 27) (cs := #[.int .i64 0, .int .i64 1]) q3)
  have rb := (show Blk w4 hb 27 #[.int .i64 0, .int .i64 1] from q3.at_ 4 rfl)
  have lb4 := rb.lt
  have r0 := rb.cell 0; have fr0 := rb.frozen 0; have r1 := rb.cell 1; have fr1 := rb.frozen 1; simp only [List.getElem?_toArray, List.getElem?_cons_zero, List.getElem?_cons_succ] at r0 r1
  clear q1 q2 q3 S3 rb
  obtain ⟨ib, hib⟩ : ∃ ib, w4.heap.size = ib := ⟨_, rfl⟩
  rw [hib] at S4 lb4
  go_wp2_with fail
  refine Calls.mono (slots_heap w.heap.size t ph pi b n4 _ _ _ _ _ _ _ w _ _ 0 1 S4.out) ?_
  rintro e w5 ⟨v, e0, rfl, q1, q2⟩
  obtain ⟨rfl, rfl⟩ : v = ⟨3, -1, 0⟩ ∧ e0 = 0 := by
    rcases q1 with ⟨h1, h2, _⟩ | ⟨i, x, hi, hg, hx, _, _, rfl, rfl⟩
    · simp [PSt.look] at h2
      exact absurd h2.symm h1
    · obtain ⟨rfl, rfl⟩ := at_one hx
      exact ⟨rfl, rfl⟩
  have S5 := Lib.hid q2
  clear r0 r1 fr0 fr1 lb4
  have rb := (show Blk w5 ib 27 #[.int .i64 0, .int .i64 1] from q2.at_ 4 rfl)
  have lb5 := rb.lt
  have r0 := rb.cell 0; have fr0 := rb.frozen 0; have r1 := rb.cell 1; have fr1 := rb.frozen 1; simp only [List.getElem?_toArray, List.getElem?_cons_zero, List.getElem?_cons_succ] at r0 r1
  clear q1 q2 S4 rb
  go_wp2_with fail
  refine Calls.mono (slots_take w.heap.size t ph pi b n4 _ _ _ _ _ _ _ w _ _ 0 1 (by intro i x hx _; obtain ⟨rfl, rfl⟩ := at_one hx; unfold in64; decide) S5.out) ?_
  rintro e w6 ⟨v, e0, fi6, si6, rfl, q1, q2⟩
  obtain ⟨rfl, rfl, rfl⟩ : v = ⟨7, 0, 1⟩ ∧ e0 = 0 ∧ si6 = ⟨2, [⟨1, false, ⟨0, 0, 0⟩⟩], [0]⟩ := by
    rcases q1 with ⟨h1, h2, _⟩ | ⟨i, x, hi, hg, hx, _, _, rfl, rfl, rfl⟩
    · simp [PSt.look] at h2
      exact absurd h2.symm h1
    · obtain ⟨rfl, rfl⟩ := at_one hx
      exact ⟨rfl, rfl, rfl⟩
  rw [if_pos rfl] at q2
  have S6 := Lib.hid q2
  clear r0 r1 fr0 fr1 lb5
  have rb := (show Blk w6 ib 27 #[.int .i64 0, .int .i64 1] from q2.at_ 4 rfl)
  have lb6 := rb.lt
  have r0 := rb.cell 0; have fr0 := rb.frozen 0; have r1 := rb.cell 1; have fr1 := rb.frozen 1; simp only [List.getElem?_toArray, List.getElem?_cons_zero, List.getElem?_cons_succ] at r0 r1
  clear q1 q2 S5 rb
  go_wp2_with fail
  refine Calls.mono (slots_cell w.heap.size t ph pi b n4 _ _ _ _ _ _ _ w _ _ 0 1 S6.out) ?_
  rintro e w7 ⟨v, e0, rfl, q1, q2⟩
  obtain ⟨rfl, rfl⟩ : v = ⟨0, 0, 0⟩ ∧ e0 = 23 := by
    rcases q1 with ⟨_, h2, rfl⟩ | ⟨i, x, hi, hg, hx, ht, _⟩
    · exact ⟨rfl, by rw [← h2]; rfl⟩
    · obtain ⟨rfl, rfl⟩ := at_one hx
      cases ht
  have S7 := Lib.hid q2
  clear r0 r1 fr0 fr1 lb6
  have rb := (show Blk w7 hb 27 #[.int .i64 0, .int .i64 1] from q2.at_ 5 rfl)
  have lb7 := rb.lt
  have r0 := rb.cell 0; have fr0 := rb.frozen 0; have r1 := rb.cell 1; have fr1 := rb.frozen 1; simp only [List.getElem?_toArray, List.getElem?_cons_zero, List.getElem?_cons_succ] at r0 r1
  clear q1 q2 S6 rb
  go_wp2_with fail
  refine Calls.mono (slots_join w.heap.size t ph pi b n4 _ _ _ _ _ _ _ w _ _ 0 1 0 1 (by intro i x hx ht; obtain ⟨rfl, rfl⟩ := at_one hx; cases ht) S7.out) ?_
  rintro e w8 ⟨e0, fh8, sh8, si8, rfl, q1, q2⟩
  obtain rfl : e0 = 25 := by
    rcases q1 with ⟨h1, h2, _⟩ | ⟨_, h1, h2, _⟩ | ⟨i, k, x, y, _, _, _, _, hx, hy, _, _, _, _, h⟩
    · simp [PSt.look] at h2
      exact absurd h2.symm h1
    · simp [PSt.look] at h2
      exact absurd h2.symm h1
    · rcases h with ⟨_, h1, _⟩ | ⟨h1, _⟩ | ⟨h1, _⟩
      · exact h1
      · exact absurd h1 (by decide)
      · exact absurd h1 (by decide)
  go_wp2_with fail
  exact hR.out _ _ ⟨rfl, q2.be⟩
end Go.Proofs.Ytognmhgdegpdiaa
