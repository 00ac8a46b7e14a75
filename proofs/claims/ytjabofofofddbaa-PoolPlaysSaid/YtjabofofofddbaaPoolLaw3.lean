/- The walks of PoolPlays and PoolNumbers, out of play's contract. -/
import Derived.Test.YtjabofofofddbaaPoolPlay
import Derived.Test.YtjabofofofddbaaRingLaw
namespace Go.Proofs.Ytjabofofofddbaa
open Go.RowKit
set_option linter.unusedVariables false
set_option linter.unusedSimpArgs false
set_option maxRecDepth 100000

theorem pool_plays (places : Int) (A : Option Addr) (m c : Nat) (G : Nat → Int) (w : World) (h1 : -9223372036854775808 ≤ places) (h2 : places ≤ 9223372036854775807) (hm : m ≤ 9223372036854775807)
    (hA : SlArg w w.heap.size A m 5 fun j => .int .i64 (G j)) (hG : ∀ j, j < m * 5 → -9223372036854775808 ≤ G j ∧ G j ≤ 9223372036854775807) :
    Calls Try.prog 10 #[.int .i64 places, .slice A m c] w fun e w' => e = .returned (.bool true) ∧ Below w.heap.size w w' := by
  have bd := within_bd places 0 9 (by omega)
  have HA := Lib.hid hA; clear hA
  have HG := Lib.hid hG; clear hG
  refine callsR fun R hR => ?_
  go_enter Try.func10, Try.ntmps10
  go_wp2_with fail
  refine Calls.mono (within_any places 0 9 _ (by omega) (by omega) (by omega) h1 h2) ?_
  rintro e w0 ⟨rfl, rfl⟩
  generalize within places 0 9 = r at bd ⊢
  go_wp2_with fail
  refine Calls.mono (pool_play r A m c G _ (by omega) (by omega) hm HA.out HG.out) ?_
  rintro e w1 ⟨rfl, hb1⟩
  have B1 := Lib.hid hb1; clear hb1
  go_wp2_with fail
  refine Calls.mono (pool_play places A m c G _ (by omega) (by omega) hm ((HA.out.below B1.out).more B1.out.size) HG.out) ?_
  rintro e w2 ⟨rfl, hb2⟩
  have B2 := Lib.hid hb2; clear hb2
  go_wp2_with fail
  refine Calls.mono (pool_known _) ?_
  rintro e w3 ⟨rfl, hb3⟩
  have B3 := Lib.hid hb3; clear hb3
  go_wp2_with fail
  have s1 := B1.out.size
  have s2 := B2.out.size
  exact hR.out _ _ ⟨rfl, (B1.out.trans (B2.out.mono s1)).trans (B3.out.mono (by omega))⟩

/-- The calls of PoolNumbers, five numbers a call. -/
def kd2 (j : Nat) : Int := if j = 2 then 3 else if j = 4 then 5 else if j = 5 then 6 else if j = 7 then 4 else if j = 8 then 5 else 0
def asks2 (k : Nat) : List Int := (List.range k).flatMap fun i => [kd2 (i % 10), (i : Int) * 7, (i : Int), (i % 6 : Nat) - (1 : Int), (i % 4 : Nat) - (1 : Int)]
theorem asks2_succ (k : Nat) : asks2 (k + 1) = asks2 k ++ [kd2 (k % 10), (k : Int) * 7, (k : Int), (k % 6 : Nat) - (1 : Int), (k % 4 : Nat) - (1 : Int)] := by simp [asks2, List.range_succ]
theorem asks2_len (k : Nat) : (asks2 k).length = k * 5 := by
  induction k with
  | zero => rfl
  | succ k ih => rw [asks2_succ, List.length_append, ih]; simp; omega
theorem asks2_bd (k : Nat) (hk : k ≤ 1000) : ∀ x ∈ asks2 k, -9223372036854775808 ≤ x ∧ x ≤ 9223372036854775807 := by
  intro x hx
  obtain ⟨i, hi, hx⟩ := List.mem_flatMap.1 hx
  have hi2 : i < k := List.mem_range.1 hi
  simp only [List.mem_cons, List.not_mem_nil, or_false] at hx
  rcases hx with rfl | rfl | rfl | rfl | rfl
  · unfold kd2
    repeat' split
    all_goals omega
  · omega
  · omega
  · omega
  · omega

theorem kd2_cell (W : World) (j : Nat) (hj : j < 10) : (W.alloc (.cells #[.int .i64 0, .int .i64 0, .int .i64 3, .int .i64 0, .int .i64 5, .int .i64 6, .int .i64 0, .int .i64 4, .int .i64 5, .int .i64 0] 3)).cell? ⟨W.heap.size, j, none⟩ = some (.int .i64 (kd2 j)) := by
  rw [(Blk.new W 3 _).cell j]
  match j, hj with
  | 0, _ => rfl
  | 1, _ => rfl
  | 2, _ => rfl
  | 3, _ => rfl
  | 4, _ => rfl
  | 5, _ => rfl
  | 6, _ => rfl
  | 7, _ => rfl
  | 8, _ => rfl
  | 9, _ => rfl

theorem info_ask2 : (Try.prog.info? 59).map (fun i => (i.zero, i.size, i.bytes)) = some (some (.agg #[.int .i64 0, .int .i64 0, .int .i64 0, .int .i64 0, .int .i64 0]), 5, 40) := by kernel_rfl

set_option maxHeartbeats 1000000 in
theorem pool_numbers (w : World) : Calls Try.prog 9 #[] w fun e w' => e = .returned (.bool true) ∧ Below w.heap.size w w' := by
  refine callsR fun R hR => ?_
  go_enter Try.func9, Try.ntmps9
  go_wp2_with fail
  go_loopw [1, 2] (fun a i wr => ∃ k : Nat, k ≤ 60 ∧ i = .int .i64 k ∧ Hid (wr.ownsRow w.heap.size 59 5 a k ((asks2 k).map fun x => Value.int .i64 x)) ∧ Hid (Below w.heap.size w wr)) (fun _ i _ => 60 - (intOf i).toNat)
  case atStart => exact ⟨0, by omega, rfl, Lib.hid (World.ownsRow_nil _ _ _ _), Lib.hid (Below.refl _ _)⟩
  case round =>
    obtain ⟨k, hk, rfl, OW, BE⟩ := hrel
    by_cases hlt : k < 60
    · have hck := kd2_cell wr (k % 10) (by omega)
      have hs := BE.out.size
      go_wp2_with (at_builtin; refine wpList_append1 rfl (.tmp 9) (.tmp 26) 49 rfl w.heap.size 59 _ 5 40 Try.underlying49 info_ask2 rfl (by omega) u1 k _ #[.int .i64 (kd2 (k % 10)), .int .i64 ((k : Int) * 7), .int .i64 k, .int .i64 ((k : Int) % 6 - 1), .int .i64 ((k : Int) % 4 - 1)] rfl (by exact OW.out.alloc _) (by rw [World.size_alloc]; rfl) rfl (by simp [Value.oneCell']) (by omega) (by omega) (by simp; omega) ?_; intro v' w3 hown3 hc3 hf3)
      go_roundw
      case rel =>
        refine ⟨k + 1, by omega, by go_num, Lib.hid ?_, Lib.hid ((BE.out.alloc hs _).trans (hc3.below (fun y hy => (own_toList OW.out y hy).1) (by simp; omega)))⟩
        rw [asks2_succ]
        simpa using hown3
      case measure => simp [intOf]; omega
    · obtain ⟨A, c, rfl, _, _⟩ := own_form OW.out
      have SA := Lib.hid (SlArg.of_own OW.out)
      have GB := Lib.hid (fun j (_ : j < k * 5) => (show -9223372036854775808 ≤ (asks2 k).getD j 0 ∧ (asks2 k).getD j 0 ≤ 9223372036854775807 from by
        rcases Nat.lt_or_ge j (asks2 k).length with h | h
        · rw [List.getD_eq_getElem?_getD, List.getElem?_eq_getElem h]
          exact asks2_bd k (by omega) _ (List.getElem_mem h)
        · rw [List.getD_eq_getElem?_getD, List.getElem?_eq_none h]
          simp))
      clear OW
      go_wp2_with fail
      go_loopw [3] (fun i wx => ∃ n : Int, -1 ≤ n ∧ n ≤ 7 ∧ i = .int .i64 n ∧ Hid (Below wr.heap.size wr wx)) (fun i _ => (7 - intOf i).toNat)
      case atStart => exact ⟨-1, by omega, by omega, rfl, Lib.hid (Below.refl _ _)⟩
      case round =>
        obtain ⟨n, hn1, hn2, rfl, BX⟩ := hrel
        by_cases hlt : n < 7
        · go_wp2_with fail
          refine Calls.mono (pool_play n A k c _ _ (by omega) (by omega) (by omega) ((SA.out.below BX.out).more BX.out.size) GB.out) ?_
          rintro e w1 ⟨rfl, hb1⟩
          have B1 := Lib.hid (BX.out.trans (hb1.mono BX.out.size)); clear hb1
          go_wp2_with fail
          go_roundw
          case rel => exact ⟨n + 1, by omega, by omega, rfl, B1⟩
          case measure => simp [intOf]; omega
        · have hs := BE.out.size
          go_wp2_with fail
          refine Calls.mono (pool_new_i64 1048576 65536 _ (by omega)) ?_
          rintro e w1 ⟨p, rfl, r1, hp, hb1⟩
          have B1 := Lib.hid (BX.out.trans (hb1.mono BX.out.size)); clear hb1
          have R1 := Lib.hid r1; clear r1
          go_wp2_with fail
          refine Calls.mono (pool_places_i64 p _ _ _ _ R1.out) ?_
          rintro e w2 ⟨rfl, rfl⟩
          go_wp2_with fail
          refine Calls.mono (pool_known _) ?_
          rintro e w3 ⟨rfl, hb3⟩
          have B3 := Lib.hid hb3; clear hb3
          go_wp2_with fail
          have s1 := B1.out.size
          exact hR.out _ _ ⟨rfl, (BE.out.trans (B1.out.mono hs)).trans (B3.out.mono (by omega))⟩
end Go.Proofs.Ytjabofofofddbaa
