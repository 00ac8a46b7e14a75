/- The statements' own helpers: Within and Same. -/
import Derived.Test.YtjabofofofddbaaBase
import Derived.Test.YtjabofofofddbaaRows
namespace Go.Proofs.Ytjabofofofddbaa
open Go.RowKit
set_option maxRecDepth 100000

/-- What Within answers. -/
def within (n lo hi : Int) : Int := if lo ≤ n ∧ n ≤ hi then n else lo + n % (hi - lo + 1)

theorem within_bd (n lo hi : Int) (h : lo ≤ hi) : lo ≤ within n lo hi ∧ within n lo hi ≤ hi := by
  unfold within
  split
  · assumption
  · have h1 := Int.emod_nonneg n (show hi - lo + 1 ≠ 0 by omega)
    have h2 := Int.emod_lt_of_pos n (show 0 < hi - lo + 1 by omega)
    omega

theorem within_in (n lo hi : Int) (h : lo ≤ n) (h2 : n ≤ hi) : within n lo hi = n := by
  unfold within
  rw [if_pos ⟨h, h2⟩]

theorem tmod_emod (n m : Int) (hm : 0 < m) : n % m = if n.tmod m < 0 then n.tmod m + m else n.tmod m := by
  have h1 := Int.emod_nonneg n (show m ≠ 0 by omega)
  have h2 := Int.emod_lt_of_pos n hm
  by_cases h : 0 ≤ n
  · rw [Int.tmod_eq_emod_of_nonneg h, if_neg (by omega)]
  · have e := Int.tmod_eq_emod (a := n) (b := m)
    rw [e]
    split <;> split <;> omega

theorem within_any (n lo hi : Int) (w : World) (hlo : -1000000 ≤ lo) (hh : lo ≤ hi) (hhi : hi ≤ 1099511627776) (hn1 : -9223372036854775808 ≤ n) (hn2 : n ≤ 9223372036854775807) :
    Calls Try.prog 14 #[.int .i64 n, .int .i64 lo, .int .i64 hi] w fun e w' => e = .returned (.int .i64 (within n lo hi)) ∧ w = w' := by
  have out : (n < lo ∨ hi < n) → Calls Try.prog 14 #[.int .i64 n, .int .i64 lo, .int .i64 hi] w fun e w' => e = .returned (.int .i64 (within n lo hi)) ∧ w = w' := by
    intro hx
    have hd : 0 < hi - lo + 1 := by omega
    have hte := tmod_emod n (hi - lo + 1) hd
    have hw : within n lo hi = lo + n % (hi - lo + 1) := by unfold within; rw [if_neg (by omega)]
    have hm1 := Int.emod_nonneg n (show hi - lo + 1 ≠ 0 by omega)
    have hm2 := Int.emod_lt_of_pos n hd
    rw [hte] at hw hm1 hm2
    have HW := Lib.hid hw
    clear hw hte
    by_cases hneg : n.tmod (hi - lo + 1) < 0
    · rw [if_pos hneg] at HW hm1 hm2
      rcases hx with hx | hx
      · have g2 : decide (lo ≤ n) = false := by simp; omega
        refine callsR fun R hR => ?_
        go_enter Try.func14, Try.ntmps14
        go_wp2
        exact hR.out _ _ ⟨congrArg (fun x => Ending.returned (.int .i64 x)) (show _ = within n lo hi by have := HW.out; omega), rfl⟩
      · have g2 : decide (lo ≤ n) = true := by simp; omega
        have g3 : decide (n ≤ hi) = false := by simp; omega
        refine callsR fun R hR => ?_
        go_enter Try.func14, Try.ntmps14
        go_wp2
        exact hR.out _ _ ⟨congrArg (fun x => Ending.returned (.int .i64 x)) (show _ = within n lo hi by have := HW.out; omega), rfl⟩
    · rw [if_neg hneg] at HW hm1 hm2
      rcases hx with hx | hx
      · have g2 : decide (lo ≤ n) = false := by simp; omega
        refine callsR fun R hR => ?_
        go_enter Try.func14, Try.ntmps14
        go_wp2
        exact hR.out _ _ ⟨congrArg (fun x => Ending.returned (.int .i64 x)) (show _ = within n lo hi by have := HW.out; omega), rfl⟩
      · have g2 : decide (lo ≤ n) = true := by simp; omega
        have g3 : decide (n ≤ hi) = false := by simp; omega
        refine callsR fun R hR => ?_
        go_enter Try.func14, Try.ntmps14
        go_wp2
        exact hR.out _ _ ⟨congrArg (fun x => Ending.returned (.int .i64 x)) (show _ = within n lo hi by have := HW.out; omega), rfl⟩
  by_cases h1 : lo ≤ n
  · by_cases h2 : n ≤ hi
    · have hw := Lib.hid (within_in n lo hi h1 h2)
      refine callsR fun R hR => ?_
      go_enter Try.func14, Try.ntmps14
      go_wp2
      exact hR.out _ _ ⟨by rw [hw.out]; rfl, rfl⟩
    · exact out (by omega)
  · exact out (by omega)

theorem same_int64 (u v : Value) (q : List Int) (b1 b2 : Nat) (w : World) (h1 : w.ownsRow b1 2 1 u q.length (q.map fun v => Value.int .i64 v)) (h2 : w.ownsRow b2 2 1 v q.length (q.map fun v => Value.int .i64 v)) (hq : q.length ≤ 1000000) :
    Calls Try.prog 58 #[u, v] w fun e w' => e = .returned (.bool true) ∧ ∃ k, w' = w.drewN k := by
  obtain ⟨A1, c1, rfl, hc1, hA1⟩ := own_form h1
  obtain ⟨A2, c2, rfl, hc2, hA2⟩ := own_form h2
  have H1 := Lib.hid h1; clear h1
  have H2 := Lib.hid h2; clear h2
  have HA1 := Lib.hid hA1; clear hA1
  have HA2 := Lib.hid hA2; clear hA2
  have hl : ((q.length : Int) != q.length) = false := by simp
  refine callsR fun R hR => ?_
  go_enter Try.func58, Try.ntmps58
  go_wp2
  go_loopw [5] (fun i wr => ∃ k m : Nat, k ≤ q.length ∧ i = .int .i64 k ∧ wr = w.drewN m) (fun i _ => q.length - (intOf i).toNat)
  case atStart => exact ⟨0, 0, Nat.zero_le _, rfl, rfl⟩
  case round =>
    obtain ⟨k, m, hk, rfl, rfl⟩ := hrel
    by_cases hlt : k < q.length
    · obtain ⟨g1, rfl, _, _⟩ := HA1.out (by omega)
      obtain ⟨g2, rfl, _, _⟩ := HA2.out (by omega)
      have e1 := own_cell H1.out (j := k) (by simpa using hlt)
      have e2 := own_cell H2.out (j := k) (by simpa using hlt)
      simp only [List.getElem_map] at e1 e2
      generalize q[k] = x at *
      go_wp2
      go_quiet (fail)
      go_wp2
      go_roundw
      case rel => exact ⟨k + 1, _, by omega, by go_num, rfl⟩
      case measure => simp [intOf]; omega
    · go_wp2
      exact hR.out _ _ ⟨rfl, _, rfl⟩
theorem same_string (u v : Value) (q : List ByteArray) (b1 b2 : Nat) (w : World) (h1 : w.ownsRow b1 9 1 u q.length (q.map fun v => Value.string v)) (h2 : w.ownsRow b2 9 1 v q.length (q.map fun v => Value.string v)) (hq : q.length ≤ 1000000) :
    Calls Try.prog 25 #[u, v] w fun e w' => e = .returned (.bool true) ∧ ∃ k, w' = w.drewN k := by
  obtain ⟨A1, c1, rfl, hc1, hA1⟩ := own_form h1
  obtain ⟨A2, c2, rfl, hc2, hA2⟩ := own_form h2
  have H1 := Lib.hid h1; clear h1
  have H2 := Lib.hid h2; clear h2
  have HA1 := Lib.hid hA1; clear hA1
  have HA2 := Lib.hid hA2; clear hA2
  have hl : ((q.length : Int) != q.length) = false := by simp
  refine callsR fun R hR => ?_
  go_enter Try.func25, Try.ntmps25
  go_wp2
  go_loopw [5] (fun i wr => ∃ k m : Nat, k ≤ q.length ∧ i = .int .i64 k ∧ wr = w.drewN m) (fun i _ => q.length - (intOf i).toNat)
  case atStart => exact ⟨0, 0, Nat.zero_le _, rfl, rfl⟩
  case round =>
    obtain ⟨k, m, hk, rfl, rfl⟩ := hrel
    by_cases hlt : k < q.length
    · obtain ⟨g1, rfl, _, _⟩ := HA1.out (by omega)
      obtain ⟨g2, rfl, _, _⟩ := HA2.out (by omega)
      have e1 := own_cell H1.out (j := k) (by simpa using hlt)
      have e2 := own_cell H2.out (j := k) (by simpa using hlt)
      simp only [List.getElem_map] at e1 e2
      generalize q[k] = x at *
      go_wp2
      go_quiet (fail)
      go_wp2
      go_roundw
      case rel => exact ⟨k + 1, _, by omega, by go_num, rfl⟩
      case measure => simp [intOf]; omega
    · go_wp2
      exact hR.out _ _ ⟨rfl, _, rfl⟩
end Go.Proofs.Ytjabofofofddbaa
