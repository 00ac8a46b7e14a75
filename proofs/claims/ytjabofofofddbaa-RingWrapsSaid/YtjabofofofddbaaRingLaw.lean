/- The statements on rings: the walks of the laws themselves. -/
import Derived.Test.YtjabofofofddbaaRing
import Derived.Test.YtjabofofofddbaaBook
namespace Go.Proofs.Ytjabofofofddbaa
open Go.RowKit
set_option maxRecDepth 100000

theorem ring_known (w : World) : Calls Try.prog 20 #[] w fun e w' => e = .returned (.bool true) ∧ Below w.heap.size w w' := by
  refine callsR fun R hR => ?_
  go_enter Try.func20, Try.ntmps20
  go_wp2_with fail
  refine Calls.mono (ring_new_int64 1 1 _ (by omega)) ?_
  rintro e w1 ⟨p, l, rfl, r1, hp, hl, hb1⟩
  have B1 := Lib.hid hb1; clear hb1
  have R1 := Lib.hid r1; clear r1
  go_wp2_with fail
  refine Calls.mono (ring_push_int64 p l 1 [] 5 _ R1.out) ?_
  rintro e w2 ⟨rfl, r2, hc2⟩
  have R2 : Hid (RingIs w2 103 2 p l 1 [.int .i64 5]) := Lib.hid (by simpa using r2)
  have C2 := Lib.hid hc2; clear hc2 r2
  go_wp2_with fail
  refine Calls.mono (ring_push_int64 p l 1 [.int .i64 5] 6 _ R2.out) ?_
  rintro e w3 ⟨rfl, r3, hc3⟩
  have R3 : Hid (RingIs w3 103 2 p l 1 [.int .i64 5]) := Lib.hid (by simpa using r3)
  have C3 := Lib.hid hc3; clear hc3 r3
  go_wp2_with fail
  refine Calls.mono (ring_pop_some_int64 p l 1 [] 5 _ R3.out) ?_
  rintro e w4 ⟨rfl, r4, hc4⟩
  have R4 := Lib.hid r4
  have C4 := Lib.hid hc4; clear hc4 r4
  go_wp2_with fail
  refine Calls.mono (ring_pop_none_int64 p l 1 _ R4.out) ?_
  rintro e w5 ⟨rfl, k5, rfl⟩
  go_wp2_with fail
  refine Calls.mono (ring_room_int64 p l 1 [] _ (R4.out.drewN _)) ?_
  rintro e w6 ⟨rfl, k6, rfl⟩
  go_wp2
  refine hR.out _ _ ⟨rfl, ?_⟩
  have hfp : ∀ x, x ∈ [p, l] → w.heap.size ≤ x := by simp; omega
  have b2 := (C2.out.trans (C3.out.trans C4.out)).below (B := w.heap.size) hfp B1.out.size
  exact below_drewN (B1.out.trans b2) _

/-- The numbers f, f+1, .., m of them. -/
def seqI (f m : Nat) : List Value := (List.range m).map fun j => Value.int .i64 ((f + j : Nat) : Int)
theorem seqI_len (f m : Nat) : (seqI f m).length = m := by simp [seqI]
theorem seqI_snoc (f m : Nat) : seqI f m ++ [.int .i64 ((f + m : Nat) : Int)] = seqI f (m + 1) := by simp [seqI, List.range_succ]
theorem seqI_cons (f m : Nat) : seqI f (m + 1) = .int .i64 (f : Int) :: seqI (f + 1) m := by
  simp only [seqI, List.range_succ_eq_map, List.map_cons, List.map_map]
  congr 1
  apply List.map_congr_left
  intro a _
  simp
  omega
theorem seqI_get (f m j : Nat) (h : j < m) : (seqI f m)[j]? = some (.int .i64 ((f + j : Nat) : Int)) := by simp [seqI, h]

theorem ring_wraps (room steps : Int) (w : World) (h1 : -9223372036854775808 ≤ room) (h2 : room ≤ 9223372036854775807) (h3 : -9223372036854775808 ≤ steps) (h4 : steps ≤ 9223372036854775807) :
    Calls Try.prog 3 #[.int .i64 room, .int .i64 steps] w fun e w' => e = .returned (.bool true) ∧ Below w.heap.size w w' := by
  have bd1 := within_bd room 1 9 (by omega)
  have bd2 := within_bd steps 1 100 (by omega)
  obtain ⟨n, hn⟩ : ∃ n : Nat, within room 1 9 = (n : Int) := ⟨(within room 1 9).toNat, by omega⟩
  obtain ⟨N, hN⟩ : ∃ n : Nat, within steps 1 100 = (n : Int) := ⟨(within steps 1 100).toNat, by omega⟩
  rw [hn] at bd1
  rw [hN] at bd2
  have Hn := Lib.hid hn; clear hn
  have HN := Lib.hid hN; clear hN
  refine callsR fun R hR => ?_
  go_enter Try.func3, Try.ntmps3
  go_wp2_with fail
  refine Calls.mono (within_any room 1 9 _ (by omega) (by omega) (by omega) h1 h2) ?_
  rintro e w0 ⟨he, rfl⟩
  rw [Hn.out] at he
  subst he
  go_wp2_with fail
  refine Calls.mono (ring_new_int n n _ (by omega)) ?_
  rintro e w1 ⟨p, l, rfl, r1, hp, hl, hb1⟩
  have B1 := Lib.hid hb1; clear hb1
  have R1 := Lib.hid r1; clear r1
  go_wp2_with fail
  go_loopw [7, 8] (fun a i wr => ∃ f m k : Nat, f + m = k ∧ k ≤ N ∧ m ≤ n ∧ a = .int .i64 f ∧ i = .int .i64 k ∧ Hid (RingIs wr 92 3 p l n (seqI f m)) ∧ Hid (Below w.heap.size w wr)) (fun _ i _ => N - (intOf i).toNat)
  case atStart => exact ⟨0, 0, 0, rfl, by omega, by omega, rfl, rfl, R1, B1⟩
  case round =>
    obtain ⟨f, m, k, hfm, hk, hm, rfl, rfl, RI, BE⟩ := hrel
    have HF := Lib.hid hfm
    have hf1 : f ≤ k := by omega
    have hf2 : m ≤ k := by omega
    clear hfm
    go_wp2_with fail
    refine Calls.mono (within_any steps 1 100 _ (by omega) (by omega) (by omega) h3 h4) ?_
    rintro e w0 ⟨he, rfl⟩
    rw [HN.out] at he
    subst he
    by_cases hlt : k < N
    · go_wp2_with fail
      refine Calls.mono (ring_len_int p l n _ _ RI.out) ?_
      rintro e w2 ⟨he, rfl⟩
      rw [seqI_len] at he
      subst he
      by_cases hfull : m = n
      · obtain ⟨m', rfl⟩ : ∃ m', m = m' + 1 := ⟨m - 1, by omega⟩
        have RI2 := RI.out
        rw [seqI_cons] at RI2
        have RI3 := Lib.hid RI2; clear RI2
        have hd : (((m' + 1 : Nat) : Int) == (n : Int)) = true := by simp; omega
        have HFull := Lib.hid hfull; clear hfull
        go_wp2_with fail
        refine Calls.mono (ring_pop_some_int p l n _ _ _ RI3.out) ?_
        rintro e w3 ⟨rfl, r3, hc3⟩
        have R3 := Lib.hid r3; clear r3
        have C3 := Lib.hid hc3; clear hc3
        have C3' := Lib.hid (BE.out.trans (C3.out.below (B := w.heap.size) (by simp; omega) (by exact BE.out.size)))
        have e1 : ((f : Int) + 1) = ((f + 1 : Nat) : Int) := by omega
        have HF' : Hid ((f + 1) + m' = k) := Lib.hid (by have := HF.out; omega)
        have hmn : m' < n := by have := HFull.out; omega
        have HE1 := Lib.hid e1; clear e1
        go_wp2_with fail
        refine Calls.mono (ring_push_int p l n _ (k : Int) _ R3.out) ?_
        rintro e w4 ⟨he, r4, hc4⟩
        rw [seqI_len] at he r4
        rw [if_pos hmn, show (k : Int) = (((f + 1) + m' : Nat) : Int) by have := HF'.out; omega, seqI_snoc] at r4
        rw [decide_eq_true hmn] at he
        subst he
        have R4 := Lib.hid r4; clear r4
        have B4 := Lib.hid (C3'.out.trans (hc4.below (B := w.heap.size) (by simp; omega) (by exact C3'.out.size))); clear hc4
        go_wp2_with fail
        go_loopw [11] (fun x wx => ∃ j t : Nat, j ≤ m' + 1 ∧ x = .int .i64 j ∧ wx = w4.drewN t) (fun x _ => m' + 1 - (intOf x).toNat)
        case atStart => exact ⟨0, 0, by omega, rfl, rfl⟩
        case round =>
          obtain ⟨j, t, hj, rfl, rfl⟩ := hrel
          go_wp2_with fail
          refine Calls.mono (ring_len_int p l n _ _ (R4.out.drewN _)) ?_
          rintro e w5 ⟨he, rfl⟩
          rw [seqI_len] at he
          subst he
          by_cases hjt : j < m' + 1
          · go_wp2_with fail
            refine Calls.mono (ring_peek_in_int p l n _ j _ _ (R4.out.drewN _) (seqI_get _ _ j hjt)) ?_
            rintro e w5 ⟨rfl, t2, rfl⟩
            go_wp2_with fail
            go_roundw
            case rel => exact ⟨j + 1, _, by omega, by go_num, rfl⟩
            case measure => simp [intOf]; omega
          · go_wp2_with fail
            go_roundw
            case rel => exact ⟨(f + 1), m' + 1, k + 1, by have := HF'.out; omega, by omega, by omega, by go_num, by go_num, R4, Lib.hid (below_drewN B4.out _)⟩
            case measure => simp [intOf]; omega
      · have hd : ((m : Int) == (n : Int)) = false := by simp; omega
        have hmn : m < n := by omega
        go_wp2_with fail
        refine Calls.mono (ring_push_int p l n _ (k : Int) _ RI.out) ?_
        rintro e w4 ⟨he, r4, hc4⟩
        rw [seqI_len] at he r4
        rw [if_pos hmn, show (k : Int) = ((f + m : Nat) : Int) by have := HF.out; omega, seqI_snoc] at r4
        rw [decide_eq_true hmn] at he
        subst he
        have R4 := Lib.hid r4; clear r4
        have B4 := Lib.hid (BE.out.trans (hc4.below (B := w.heap.size) (by simp; omega) (by exact BE.out.size))); clear hc4
        go_wp2_with fail
        go_loopw [11] (fun x wx => ∃ j t : Nat, j ≤ m + 1 ∧ x = .int .i64 j ∧ wx = w4.drewN t) (fun x _ => m + 1 - (intOf x).toNat)
        case atStart => exact ⟨0, 0, by omega, rfl, rfl⟩
        case round =>
          obtain ⟨j, t, hj, rfl, rfl⟩ := hrel
          go_wp2_with fail
          refine Calls.mono (ring_len_int p l n _ _ (R4.out.drewN _)) ?_
          rintro e w5 ⟨he, rfl⟩
          rw [seqI_len] at he
          subst he
          by_cases hjt : j < m + 1
          · go_wp2_with fail
            refine Calls.mono (ring_peek_in_int p l n _ j _ _ (R4.out.drewN _) (seqI_get _ _ j hjt)) ?_
            rintro e w5 ⟨rfl, t2, rfl⟩
            go_wp2_with fail
            go_roundw
            case rel => exact ⟨j + 1, _, by omega, by go_num, rfl⟩
            case measure => simp [intOf]; omega
          · go_wp2_with fail
            go_roundw
            case rel => exact ⟨f, m + 1, k + 1, by have := HF.out; omega, by omega, by omega, by go_num, by go_num, R4, Lib.hid (below_drewN B4.out _)⟩
            case measure => simp [intOf]; omega
    · go_wp2_with fail
      refine Calls.mono (ring_known _) ?_
      rintro e w2 ⟨rfl, hb2⟩
      have B2 := Lib.hid hb2; clear hb2
      go_wp2
      exact hR.out _ _ ⟨rfl, BE.out.trans (B2.out.mono BE.out.size)⟩
end Go.Proofs.Ytjabofofofddbaa