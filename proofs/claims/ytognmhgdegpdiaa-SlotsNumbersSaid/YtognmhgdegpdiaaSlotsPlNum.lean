import Derived.Test.YtognmhgdegpdiaaSlotsPlML
/- The walk of SlotsNumbers, out of play's contract. -/
namespace Go.Proofs.Ytognmhgdegpdiaa
open Go.RowKit
set_option linter.unusedVariables false
set_option linter.unusedSimpArgs false
set_option maxRecDepth 100000

theorem own_toList {w : World} {base : Nat} {e : TypeId} {size n : Nat} {v : Value} {xs : List Value} (h : w.ownsRow base e size v n xs) : ∀ x ∈ v.ownBlock.toList, base ≤ x ∧ x < w.heap.size := by
  intro x hx
  have hx2 : v.ownBlock = some x := by simpa using hx
  exact h.lt x hx2

/-- The calls of SlotsNumbers, eight numbers a call. -/
def kd17 (j : Nat) : Int := if j = 1 then 2 else if j = 2 then 1 else if j = 3 then 3 else if j = 4 then 6 else if j = 5 then 8 else if j = 6 then 4 else if j = 7 then 9 else if j = 8 then 5 else if j = 9 then 7 else if j = 10 then 2 else if j = 11 then 6 else if j = 12 then 2 else 0
def ask17 (i : Nat) : List Int := [kd17 (i % 13), 1 + (i : Int) / 13 % 2, (i : Int) % 9, (i : Int) * 3 % 11, (i : Int) % 20, (i : Int), (i : Int) % 5, (i : Int) % 3]
def asks17 (k : Nat) : List Int := (List.range k).flatMap ask17
theorem asks17_succ (k : Nat) : asks17 (k + 1) = asks17 k ++ ask17 k := by simp [asks17, List.range_succ]
theorem kd17_bd (j : Nat) : 0 ≤ kd17 j ∧ kd17 j ≤ 9 := by
  unfold kd17
  repeat' split
  all_goals omega
theorem asks17_bd (k : Nat) (hk : k ≤ 1000) : ∀ x ∈ asks17 k, -9223372036854775808 ≤ x ∧ x ≤ 9223372036854775807 := by
  intro x hx
  obtain ⟨i, hi, hx⟩ := List.mem_flatMap.1 hx
  have hi2 : i < k := List.mem_range.1 hi
  unfold ask17 at hx
  have hq := kd17_bd (i % 13)
  generalize kd17 (i % 13) = q at hx hq
  simp only [List.mem_cons, List.not_mem_nil, or_false] at hx
  rcases hx with rfl | rfl | rfl | rfl | rfl | rfl | rfl | rfl <;> omega
theorem kd17_cell (W : World) (j : Nat) (hj : j < 13) : (W.alloc (.cells #[.int .i64 0, .int .i64 2, .int .i64 1, .int .i64 3, .int .i64 6, .int .i64 8, .int .i64 4, .int .i64 9, .int .i64 5, .int .i64 7, .int .i64 2, .int .i64 6, .int .i64 2] 3)).cell? ⟨W.heap.size, j, none⟩ = some (.int .i64 (kd17 j)) := by
  rw [(Blk.new W 3 _).cell j]
  match j, hj with
  | 0, _ => rfl
  | 1, _ => rfl
  | 2, _ => rfl
  | 3, _ => rfl
  | 4, _ => rfl
  | 5, _ => rfl
  | 6, _ => rfl
  | 7, _ => rfl
  | 8, _ => rfl
  | 9, _ => rfl
  | 10, _ => rfl
  | 11, _ => rfl
  | 12, _ => rfl
def many17 (k : Nat) : List Int := (List.range k).flatMap fun _ => [0, 3, 0, 0, 0, 0, 0, 0]
theorem many17_succ (k : Nat) : many17 (k + 1) = many17 k ++ [0, 3, 0, 0, 0, 0, 0, 0] := by simp [many17, List.range_succ]
theorem many17_bd (k : Nat) : ∀ x ∈ many17 k, -9223372036854775808 ≤ x ∧ x ≤ 9223372036854775807 := by
  intro x hx
  obtain ⟨i, hi, hx⟩ := List.mem_flatMap.1 hx
  simp only [List.mem_cons, List.not_mem_nil, or_false] at hx
  omega
theorem getD_bd {L : List Int} (h : ∀ x ∈ L, -9223372036854775808 ≤ x ∧ x ≤ 9223372036854775807) (j : Nat) : -9223372036854775808 ≤ L.getD j 0 ∧ L.getD j 0 ≤ 9223372036854775807 := by
  rcases Nat.lt_or_ge j L.length with hj | hj
  · rw [List.getD_eq_getElem?_getD, List.getElem?_eq_getElem hj]
    exact h _ (List.getElem_mem hj)
  · rw [List.getD_eq_getElem?_getD, List.getElem?_eq_none hj]
    simp

theorem info_ask17 : (Try.prog.info? 47).map (fun i => (i.zero, i.size, i.bytes)) = some (some (.agg #[.int .i64 0, .int .i64 0, .int .i64 0, .int .i64 0, .int .i64 0, .int .i64 0, .int .i64 0, .int .i64 0]), 8, 64) := by kernel_rfl

set_option maxHeartbeats 1000000 in
theorem slots_numbers (w : World) : Calls Try.prog 5 #[] w fun e w' => e = .returned (.bool true) ∧ Below w.heap.size w w' := by
  refine callsR fun R hR => ?_
  go_enter Try.func5, Try.ntmps5
  go_wp2_with fail
  go_loopw [1, 2] (fun a i wr => ∃ k : Nat, k ≤ 78 ∧ i = .int .i64 k ∧ Hid (wr.ownsRow w.heap.size 47 8 a k ((asks17 k).map fun x => Value.int .i64 x)) ∧ Hid (Below w.heap.size w wr)) (fun _ i _ => 78 - (intOf i).toNat)
  case atStart => exact ⟨0, by omega, rfl, Lib.hid (World.ownsRow_nil _ _ _ _), Lib.hid (Below.refl _ _)⟩
  case round =>
    obtain ⟨k, hk, rfl, OW, BE⟩ := hrel
    by_cases hlt : k < 78
    · have hck := kd17_cell wr (k % 13) (by omega)
      have hs := BE.out.size
      go_wp2_with (at_builtin; refine wpList_append1 rfl (.tmp 9) (.tmp 33) 45 rfl w.heap.size 47 _ 8 64 Try.underlying45 info_ask17 rfl (by omega) u1 k _ #[.int .i64 (kd17 (k % 13)), .int .i64 (1 + (k : Int) / 13 % 2), .int .i64 ((k : Int) % 9), .int .i64 ((k : Int) * 3 % 11), .int .i64 ((k : Int) % 20), .int .i64 k, .int .i64 ((k : Int) % 5), .int .i64 ((k : Int) % 3)] rfl (by exact OW.out.alloc _) (by rw [World.size_alloc]; rfl) rfl (by simp [Value.oneCell']) (by omega) (by omega) (by simp; omega) ?_; intro v' w3 hown3 hc3 hf3)
      go_roundw
      case rel =>
        refine ⟨k + 1, by omega, by go_num, Lib.hid ?_, Lib.hid ((BE.out.alloc hs _).trans (hc3.below (fun y hy => (own_toList OW.out y hy).1) (by simp; omega)))⟩
        rw [asks17_succ]
        simpa [ask17] using hown3
      case measure => simp [intOf]; omega
    · obtain ⟨A, c, rfl, _, _⟩ := own_form OW.out
      have SA := Lib.hid (SlArg.of_own OW.out)
      have GB := Lib.hid (fun j (_ : j < k * 8) => getD_bd (asks17_bd k (by omega)) j)
      clear OW
      generalize wr = wr2 at SA BE ⊢
      go_wp2_with fail
      go_loopw [3, 4] (fun a i wx => ∃ j : Nat, j ≤ 70 ∧ i = .int .i64 j ∧ Hid (wx.ownsRow wr2.heap.size 47 8 a j ((many17 j).map fun x => Value.int .i64 x)) ∧ Hid (Below wr2.heap.size wr2 wx)) (fun _ i _ => 70 - (intOf i).toNat)
      case atStart => exact ⟨0, by omega, rfl, Lib.hid (World.ownsRow_nil _ _ _ _), Lib.hid (Below.refl _ _)⟩
      case round =>
        obtain ⟨j, hj, rfl, OW2, BX⟩ := hrel
        by_cases hlt2 : j < 70
        · have hs2 := BX.out.size
          go_wp2_with (at_builtin; refine wpList_append1 rfl (.tmp 39) (.tmp 41) 45 rfl wr2.heap.size 47 _ 8 64 Try.underlying45 info_ask17 rfl (by omega) u3 j _ #[.int .i64 0, .int .i64 3, .int .i64 0, .int .i64 0, .int .i64 0, .int .i64 0, .int .i64 0, .int .i64 0] rfl (by exact OW2.out) rfl rfl (by simp [Value.oneCell']) (by omega) (by omega) (by omega) ?_; intro v' w3 hown3 hc3 hf3)
          go_roundw
          case rel =>
            refine ⟨j + 1, by omega, by go_num, Lib.hid ?_, Lib.hid (BX.out.trans (hc3.below (fun y hy => (own_toList OW2.out y hy).1) (by omega)))⟩
            rw [many17_succ]
            simpa using hown3
          case measure => simp [intOf]; omega
        · obtain ⟨A2, c2, rfl, _, _⟩ := own_form OW2.out
          have SA2 := Lib.hid (SlArg.of_own OW2.out)
          have GB2 := Lib.hid (fun q (_ : q < j * 8) => getD_bd (many17_bd j) q)
          have hs := BE.out.size
          have SA1 := Lib.hid ((SA.out.below BX.out).more BX.out.size)
          clear OW2
          go_wp2_with fail
          refine Calls.mono (slots_play 9 A k c _ _ (by omega) (by omega) (by omega) SA1.out GB.out) ?_
          rintro e w1 ⟨rfl, hb1⟩
          have B1 := Lib.hid hb1; clear hb1
          go_wp2_with fail
          refine Calls.mono (slots_play 0 A k c _ _ (by omega) (by omega) (by omega) ((SA1.out.below B1.out).more B1.out.size) GB.out) ?_
          rintro e w2 ⟨rfl, hb2⟩
          have B2 := Lib.hid (B1.out.trans (hb2.mono B1.out.size)); clear hb2
          go_wp2_with fail
          refine Calls.mono (slots_play 5 A2 j c2 _ _ (by omega) (by omega) (by omega) ((SA2.out.below B2.out).more B2.out.size) GB2.out) ?_
          rintro e w3 ⟨rfl, hb3⟩
          have B3 := Lib.hid (B2.out.trans (hb3.mono B2.out.size)); clear hb3
          go_wp2_with fail
          refine Calls.mono (slots_known _) ?_
          rintro e w4 ⟨rfl, hb4⟩
          have B4 := Lib.hid (B3.out.trans (hb4.mono B3.out.size)); clear hb4
          go_wp2_with fail
          have s1 := BX.out.size
          exact hR.out _ _ ⟨rfl, (BE.out.trans (BX.out.mono hs)).trans (B4.out.mono (by omega))⟩
end Go.Proofs.Ytognmhgdegpdiaa
