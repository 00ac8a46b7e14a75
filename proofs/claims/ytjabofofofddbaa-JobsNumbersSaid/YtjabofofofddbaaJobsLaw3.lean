/- The walks of JobsPlays and JobsNumbers, out of play's contract. -/
import Derived.Test.YtjabofofofddbaaJobsPlay
import Derived.Test.YtjabofofofddbaaRingLaw
namespace Go.Proofs.Ytjabofofofddbaa
open Go.RowKit
set_option linter.unusedVariables false
set_option linter.unusedSimpArgs false
set_option maxRecDepth 100000

theorem jobs_plays (size : Int) (A : Option Addr) (m c : Nat) (G : Nat → Int) (w : World) (h1 : -9223372036854775808 ≤ size) (h2 : size ≤ 9223372036854775807) (hm : m ≤ 9223372036854775807)
    (hA : SlArg w w.heap.size A m 10 fun j => .int .i64 (G j)) (hG : ∀ j, j < m * 10 → -9223372036854775808 ≤ G j ∧ G j ≤ 9223372036854775807) :
    Calls Try.prog 13 #[.int .i64 size, .slice A m c] w fun e w' => e = .returned (.bool true) ∧ Below w.heap.size w w' := by
  have bd := within_bd size 1 8 (by omega)
  have HA := Lib.hid hA; clear hA
  have HG := Lib.hid hG; clear hG
  refine callsR fun R hR => ?_
  go_enter Try.func13, Try.ntmps13
  go_wp2_with fail
  refine Calls.mono (within_any size 1 8 _ (by omega) (by omega) (by omega) h1 h2) ?_
  rintro e w0 ⟨rfl, rfl⟩
  generalize within size 1 8 = r at bd ⊢
  go_wp2_with fail
  refine Calls.mono (jobs_play r A m c G _ (by omega) (by omega) hm HA.out HG.out) ?_
  rintro e w1 ⟨rfl, hb1⟩
  have B1 := Lib.hid hb1; clear hb1
  go_wp2_with fail
  refine Calls.mono (jobs_known _) ?_
  rintro e w3 ⟨rfl, hb3⟩
  have B3 := Lib.hid hb3; clear hb3
  go_wp2_with fail
  exact hR.out _ _ ⟨rfl, B1.out.trans (B3.out.mono B1.out.size)⟩

/-- The calls of JobsNumbers, ten numbers a call. -/
def kd21 (j : Nat) : Int := if j = 1 then 1 else if j = 2 then 2 else if j = 3 then 5 else if j = 4 then 6 else if j = 5 then 3 else if j = 6 then 4 else 0
def ask21 (i : Nat) : List Int := [kd21 (i % 9), (i : Int) % 17, (i : Int) % 3, (i : Int) / 3 % 3, (i : Int), (i : Int), (i : Int) * 5 % 7, 0, (i : Int) % 4, (i : Int) % 3]
def asks21 (k : Nat) : List Int := (List.range k).flatMap ask21
theorem asks21_succ (k : Nat) : asks21 (k + 1) = asks21 k ++ ask21 k := by simp [asks21, List.range_succ]
theorem asks21_len (k : Nat) : (asks21 k).length = k * 10 := by
  induction k with
  | zero => rfl
  | succ k ih => rw [asks21_succ, List.length_append, ih]; simp [ask21]; omega
theorem asks21_bd (k : Nat) (hk : k ≤ 1000) : ∀ x ∈ asks21 k, -9223372036854775808 ≤ x ∧ x ≤ 9223372036854775807 := by
  intro x hx
  obtain ⟨i, hi, hx⟩ := List.mem_flatMap.1 hx
  have hi2 : i < k := List.mem_range.1 hi
  simp only [ask21, List.mem_cons, List.not_mem_nil, or_false] at hx
  rcases hx with rfl | rfl | rfl | rfl | rfl | rfl | rfl | rfl | rfl | rfl
  · unfold kd21
    repeat' split
    all_goals omega
  all_goals omega

theorem kd21_cell (W : World) (j : Nat) (hj : j < 9) : (W.alloc (.cells #[.int .i64 0, .int .i64 1, .int .i64 2, .int .i64 5, .int .i64 6, .int .i64 3, .int .i64 4, .int .i64 0, .int .i64 0] 3)).cell? ⟨W.heap.size, j, none⟩ = some (.int .i64 (kd21 j)) := by
  rw [(Blk.new W 3 _).cell j]
  match j, hj with
  | 0, _ => rfl
  | 1, _ => rfl
  | 2, _ => rfl
  | 3, _ => rfl
  | 4, _ => rfl
  | 5, _ => rfl
  | 6, _ => rfl
  | 7, _ => rfl
  | 8, _ => rfl

theorem info_ask21 : (Try.prog.info? 89).map (fun i => (i.zero, i.size, i.bytes)) = some (some (.agg #[.int .i64 0, .int .i64 0, .int .i64 0, .int .i64 0, .int .i64 0, .int .i64 0, .int .i64 0, .int .i64 0, .int .i64 0, .int .i64 0]), 10, 80) := by kernel_rfl

set_option maxHeartbeats 1000000 in
theorem jobs_numbers (w : World) : Calls Try.prog 12 #[] w fun e w' => e = .returned (.bool true) ∧ Below w.heap.size w w' := by
  refine callsR fun R hR => ?_
  go_enter Try.func12, Try.ntmps12
  go_wp2_with fail
  go_loopw [1, 2] (fun a i wr => ∃ k : Nat, k ≤ 66 ∧ i = .int .i64 k ∧ Hid (wr.ownsRow w.heap.size 89 10 a k ((asks21 k).map fun x => Value.int .i64 x)) ∧ Hid (Below w.heap.size w wr)) (fun _ i _ => 66 - (intOf i).toNat)
  case atStart => exact ⟨0, by omega, rfl, Lib.hid (World.ownsRow_nil _ _ _ _), Lib.hid (Below.refl _ _)⟩
  case round =>
    obtain ⟨k, hk, rfl, OW, BE⟩ := hrel
    by_cases hlt : k < 66
    · have hck := kd21_cell wr (k % 9) (by omega)
      have hs := BE.out.size
      go_wp2_with (at_builtin; refine wpList_append1 rfl (.tmp 8) (.tmp 33) 87 rfl w.heap.size 89 _ 10 80 Try.underlying87 info_ask21 rfl (by omega) u1 k _ #[.int .i64 (kd21 (k % 9)), .int .i64 ((k : Int) % 17), .int .i64 ((k : Int) % 3), .int .i64 ((k : Int) / 3 % 3), .int .i64 k, .int .i64 k, .int .i64 ((k : Int) * 5 % 7), .int .i64 0, .int .i64 ((k : Int) % 4), .int .i64 ((k : Int) % 3)] rfl (by exact OW.out.alloc _) (by rw [World.size_alloc]; rfl) rfl (by simp [Value.oneCell']) (by omega) (by omega) (by simp; omega) ?_; intro v' w3 hown3 hc3 hf3)
      go_roundw
      case rel =>
        refine ⟨k + 1, by omega, by go_num, Lib.hid ?_, Lib.hid ((BE.out.alloc hs _).trans (hc3.below (fun y hy => (own_toList OW.out y hy).1) (by simp; omega)))⟩
        rw [asks21_succ]
        simpa [ask21] using hown3
      case measure => simp [intOf]; omega
    · obtain ⟨A, c, rfl, _, _⟩ := own_form OW.out
      have SA := Lib.hid (SlArg.of_own OW.out)
      have GB := Lib.hid (fun j (_ : j < k * 10) => (show -9223372036854775808 ≤ (asks21 k).getD j 0 ∧ (asks21 k).getD j 0 ≤ 9223372036854775807 from by
        rcases Nat.lt_or_ge j (asks21 k).length with h | h
        · rw [List.getD_eq_getElem?_getD, List.getElem?_eq_getElem h]
          exact asks21_bd k (by omega) _ (List.getElem_mem h)
        · rw [List.getD_eq_getElem?_getD, List.getElem?_eq_none h]
          simp))
      clear OW
      go_wp2_with fail
      go_loopw [3] (fun i wx => ∃ n : Int, 0 ≤ n ∧ n ≤ 9 ∧ i = .int .i64 n ∧ Hid (Below wr.heap.size wr wx)) (fun i _ => (9 - intOf i).toNat)
      case atStart => exact ⟨0, by omega, by omega, rfl, Lib.hid (Below.refl _ _)⟩
      case round =>
        obtain ⟨n, hn1, hn2, rfl, BX⟩ := hrel
        by_cases hlt : n < 9
        · go_wp2_with fail
          refine Calls.mono (jobs_play n A k c _ _ (by omega) (by omega) (by omega) ((SA.out.below BX.out).more BX.out.size) GB.out) ?_
          rintro e w1 ⟨rfl, hb1⟩
          have B1 := Lib.hid (BX.out.trans (hb1.mono BX.out.size)); clear hb1
          go_wp2_with fail
          go_roundw
          case rel => exact ⟨n + 1, by omega, by omega, rfl, B1⟩
          case measure => simp [intOf]; omega
        · have hs := BE.out.size
          go_wp2_with fail
          refine Calls.mono (jobs_known _) ?_
          rintro e w3 ⟨rfl, hb3⟩
          have B3 := Lib.hid hb3; clear hb3
          go_wp2_with fail
          have s1 := BX.out.size
          exact hR.out _ _ ⟨rfl, (BE.out.trans (BX.out.mono hs)).trans (B3.out.mono (by omega))⟩
end Go.Proofs.Ytjabofofofddbaa
