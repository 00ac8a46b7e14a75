/- The walks of RingPlays and RingNumbers, out of play's contract. -/
import Derived.Test.YtjabofofofddbaaRingLaw2
namespace Go.Proofs.Ytjabofofofddbaa
open Go.RowKit
set_option maxRecDepth 100000

theorem ring_plays (room : Int) (A : Option Addr) (m c : Nat) (G : Nat → Int) (w : World) (h1 : -9223372036854775808 ≤ room) (h2 : room ≤ 9223372036854775807) (hm : m ≤ 9223372036854775807)
    (hA : SlArg w w.heap.size A m 3 fun j => .int .i64 (G j)) (hG : ∀ j, j < m * 3 → -9223372036854775808 ≤ G j ∧ G j ≤ 9223372036854775807) :
    Calls Try.prog 6 #[.int .i64 room, .slice A m c] w fun e w' => e = .returned (.bool true) ∧ Below w.heap.size w w' := by
  have bd := within_bd room 1 12 (by omega)
  have HA := Lib.hid hA; clear hA
  have HG := Lib.hid hG; clear hG
  refine callsR fun R hR => ?_
  go_enter Try.func6, Try.ntmps6
  go_wp2_with fail
  refine Calls.mono (within_any room 1 12 _ (by omega) (by omega) (by omega) h1 h2) ?_
  rintro e w0 ⟨rfl, rfl⟩
  generalize within room 1 12 = r at bd ⊢
  go_wp2_with fail
  refine Calls.mono (ring_play r A m c G _ (by omega) (by omega) hm HA.out HG.out) ?_
  rintro e w1 ⟨rfl, hb1⟩
  have B1 := Lib.hid hb1; clear hb1
  go_wp2_with fail
  refine Calls.mono (ring_play room A m c G _ (by omega) (by omega) hm ((HA.out.below B1.out).more B1.out.size) HG.out) ?_
  rintro e w2 ⟨rfl, hb2⟩
  have B2 := Lib.hid hb2; clear hb2
  go_wp2_with fail
  refine Calls.mono (ring_known _) ?_
  rintro e w3 ⟨rfl, hb3⟩
  have B3 := Lib.hid hb3; clear hb3
  go_wp2_with fail
  have s1 := B1.out.size
  have s2 := B2.out.size
  exact hR.out _ _ ⟨rfl, (B1.out.trans (B2.out.mono s1)).trans (B3.out.mono (by omega))⟩

/-- The calls of RingNumbers, three numbers a call. -/
def kd3 (j : Nat) : Int := if j = 2 then 5 else if j = 3 then 3 else if j = 7 then 4 else if j = 8 then 3 else if j = 9 then 5 else 0
def asks3 (k : Nat) : List Int := (List.range k).flatMap fun i => [kd3 ((i + i / 20) % 10), (i % 5 : Nat) - (1 : Int), (i : Int)]
theorem asks3_succ (k : Nat) : asks3 (k + 1) = asks3 k ++ [kd3 ((k + k / 20) % 10), (k % 5 : Nat) - (1 : Int), (k : Int)] := by simp [asks3, List.range_succ]
theorem asks3_len (k : Nat) : (asks3 k).length = k * 3 := by
  induction k with
  | zero => rfl
  | succ k ih => rw [asks3_succ, List.length_append, ih]; simp; omega
theorem asks3_bd (k : Nat) (hk : k ≤ 1000) : ∀ x ∈ asks3 k, -9223372036854775808 ≤ x ∧ x ≤ 9223372036854775807 := by
  intro x hx
  obtain ⟨i, hi, hx⟩ := List.mem_flatMap.1 hx
  have hi2 : i < k := List.mem_range.1 hi
  simp only [List.mem_cons, List.not_mem_nil, or_false] at hx
  rcases hx with rfl | rfl | rfl
  · unfold kd3
    repeat' split
    all_goals omega
  · omega
  · omega

theorem kd3_cell (W : World) (j : Nat) (hj : j < 10) : (W.alloc (.cells #[.int .i64 0, .int .i64 0, .int .i64 5, .int .i64 3, .int .i64 0, .int .i64 0, .int .i64 0, .int .i64 4, .int .i64 3, .int .i64 5] 3)).cell? ⟨W.heap.size, j, none⟩ = some (.int .i64 (kd3 j)) := by
  rw [(Blk.new W 3 _).cell j]
  match j, hj with
  | 0, _ => rfl
  | 1, _ => rfl
  | 2, _ => rfl
  | 3, _ => rfl
  | 4, _ => rfl
  | 5, _ => rfl
  | 6, _ => rfl
  | 7, _ => rfl
  | 8, _ => rfl
  | 9, _ => rfl

theorem info_ask3 : (Try.prog.info? 45).map (fun i => (i.zero, i.size, i.bytes)) = some (some (.agg #[.int .i64 0, .int .i64 0, .int .i64 0]), 3, 24) := by kernel_rfl

set_option maxHeartbeats 1000000 in
theorem ring_numbers (w : World) : Calls Try.prog 5 #[] w fun e w' => e = .returned (.bool true) ∧ Below w.heap.size w w' := by
  refine callsR fun R hR => ?_
  go_enter Try.func5, Try.ntmps5
  go_wp2_with fail
  go_loopw [1, 2] (fun a i wr => ∃ k : Nat, k ≤ 90 ∧ i = .int .i64 k ∧ Hid (wr.ownsRow w.heap.size 45 3 a k ((asks3 k).map fun x => Value.int .i64 x)) ∧ Hid (Below w.heap.size w wr)) (fun _ i _ => 90 - (intOf i).toNat)
  case atStart => exact ⟨0, by omega, rfl, Lib.hid (World.ownsRow_nil _ _ _ _), Lib.hid (Below.refl _ _)⟩
  case round =>
    obtain ⟨k, hk, rfl, OW, BE⟩ := hrel
    by_cases hlt : k < 90
    · have hck := kd3_cell wr ((k + k / 20) % 10) (by omega)
      have hs := BE.out.size
      go_wp2_with (at_builtin; refine wpList_append1 rfl (.tmp 9) (.tmp 23) 42 rfl w.heap.size 45 _ 3 24 Try.underlying42 info_ask3 rfl (by omega) u1 k _ #[.int .i64 (kd3 ((k + k / 20) % 10)), .int .i64 ((k : Int) % 5 - 1), .int .i64 k] rfl (by exact OW.out.alloc _) (by rw [World.size_alloc]; rfl) rfl (by simp [Value.oneCell']) (by omega) (by omega) (by simp; omega) ?_; intro v' w3 hown3 hc3 hf3)
      go_roundw
      case rel =>
        refine ⟨k + 1, by omega, by go_num, Lib.hid ?_, Lib.hid ((BE.out.alloc hs _).trans (hc3.below (fun y hy => (own_toList OW.out y hy).1) (by simp; omega)))⟩
        rw [asks3_succ]
        simpa using hown3
      case measure => simp [intOf]; omega
    · obtain ⟨A, c, rfl, _, _⟩ := own_form OW.out
      have SA := Lib.hid (SlArg.of_own OW.out)
      have GB := Lib.hid (fun j (_ : j < k * 3) => (show -9223372036854775808 ≤ (asks3 k).getD j 0 ∧ (asks3 k).getD j 0 ≤ 9223372036854775807 from by
        rcases Nat.lt_or_ge j (asks3 k).length with h | h
        · rw [List.getD_eq_getElem?_getD, List.getElem?_eq_getElem h]
          exact asks3_bd k (by omega) _ (List.getElem_mem h)
        · rw [List.getD_eq_getElem?_getD, List.getElem?_eq_none h]
          simp))
      clear OW
      go_wp2_with fail
      go_loopw [3] (fun i wx => ∃ n : Int, -1 ≤ n ∧ n ≤ 8 ∧ i = .int .i64 n ∧ Hid (Below wr.heap.size wr wx)) (fun i _ => (8 - intOf i).toNat)
      case atStart => exact ⟨-1, by omega, by omega, rfl, Lib.hid (Below.refl _ _)⟩
      case round =>
        obtain ⟨n, hn1, hn2, rfl, BX⟩ := hrel
        by_cases hlt : n < 8
        · go_wp2_with fail
          refine Calls.mono (ring_play n A k c _ _ (by omega) (by omega) (by omega) ((SA.out.below BX.out).more BX.out.size) GB.out) ?_
          rintro e w1 ⟨rfl, hb1⟩
          have B1 := Lib.hid (BX.out.trans (hb1.mono BX.out.size)); clear hb1
          go_wp2_with fail
          go_roundw
          case rel => exact ⟨n + 1, by omega, by omega, rfl, B1⟩
          case measure => simp [intOf]; omega
        · have hs := BE.out.size
          go_wp2_with fail
          refine Calls.mono (ring_new_int64 1048576 4096 _ (by omega)) ?_
          rintro e w1 ⟨p, l, rfl, r1, hp, hl, hb1⟩
          have B1 := Lib.hid (BX.out.trans (hb1.mono BX.out.size)); clear hb1
          have R1 := Lib.hid r1; clear r1
          go_wp2_with fail
          refine Calls.mono (ring_room_int64 p l 4096 [] _ R1.out) ?_
          rintro e w2 ⟨rfl, k2, rfl⟩
          go_wp2_with fail
          refine Calls.mono (ring_known _) ?_
          rintro e w3 ⟨rfl, hb3⟩
          have B3 := Lib.hid hb3; clear hb3
          go_wp2_with fail
          have s1 := B1.out.size
          exact hR.out _ _ ⟨rfl, (BE.out.trans ((below_drewN B1.out k2).mono hs)).trans (B3.out.mono (by show _ ≤ w1.heap.size; omega))⟩
end Go.Proofs.Ytjabofofofddbaa
