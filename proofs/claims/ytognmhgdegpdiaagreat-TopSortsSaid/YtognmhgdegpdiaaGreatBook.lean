import Derived.Test.YtognmhgdegpdiaaGreatBase
import Derived.Test.YtognmhgdegpdiaaGreatRows
/- The statements' own helpers: Within and Same. -/
namespace Go.Proofs.YtognmhgdegpdiaaGreat
open Go.RowKit
set_option maxRecDepth 100000
def within (n lo hi : Int) : Int := if lo ≤ n ∧ n ≤ hi then n else lo + n % (hi - lo + 1)
theorem within_bd (n lo hi : Int) (h : lo ≤ hi) : lo ≤ within n lo hi ∧ within n lo hi ≤ hi := by
  unfold within
  split
  · assumption
  · have h1 := Int.emod_nonneg n (show hi - lo + 1 ≠ 0 by omega)
    have h2 := Int.emod_lt_of_pos n (show 0 < hi - lo + 1 by omega)
    omega
theorem within_in (n lo hi : Int) (h : lo ≤ n) (h2 : n ≤ hi) : within n lo hi = n := by
  unfold within
  rw [if_pos ⟨h, h2⟩]
theorem tmod_emod (n m : Int) (hm : 0 < m) : n % m = if n.tmod m < 0 then n.tmod m + m else n.tmod m := by
  have h1 := Int.emod_nonneg n (show m ≠ 0 by omega)
  have h2 := Int.emod_lt_of_pos n hm
  by_cases h : 0 ≤ n
  · rw [Int.tmod_eq_emod_of_nonneg h, if_neg (by omega)]
  · have e := Int.tmod_eq_emod (a := n) (b := m)
    rw [e]
    split <;> split <;> omega
theorem within_any (n lo hi : Int) (w : World) (hlo : -1000000 ≤ lo) (hh : lo ≤ hi) (hhi : hi ≤ 1099511627776) (hn1 : -9223372036854775808 ≤ n) (hn2 : n ≤ 9223372036854775807) :
    Calls Tryz.prog 14 #[.int .i64 n, .int .i64 lo, .int .i64 hi] w fun e w' => e = .returned (.int .i64 (within n lo hi)) ∧ w = w' := by
  have out : (n < lo ∨ hi < n) → Calls Tryz.prog 14 #[.int .i64 n, .int .i64 lo, .int .i64 hi] w fun e w' => e = .returned (.int .i64 (within n lo hi)) ∧ w = w' := by
    intro hx
    have hd : 0 < hi - lo + 1 := by omega
    have hte := tmod_emod n (hi - lo + 1) hd
    have hw : within n lo hi = lo + n % (hi - lo + 1) := by unfold within; rw [if_neg (by omega)]
    have hm1 := Int.emod_nonneg n (show hi - lo + 1 ≠ 0 by omega)
    have hm2 := Int.emod_lt_of_pos n hd
    rw [hte] at hw hm1 hm2
    have HW := Lib.hid hw
    clear hw hte
    by_cases hneg : n.tmod (hi - lo + 1) < 0
    · rw [if_pos hneg] at HW hm1 hm2
      rcases hx with hx | hx
      · have g2 : decide (lo ≤ n) = false := by simp; omega
        refine callsR fun R hR => ?_
        go_enter Tryz.func14, Tryz.ntmps14
        go_wp2
        exact hR.out _ _ ⟨congrArg (fun x => Ending.returned (.int .i64 x)) (show _ = within n lo hi by have := HW.out; omega), rfl⟩
      · have g2 : decide (lo ≤ n) = true := by simp; omega
        have g3 : decide (n ≤ hi) = false := by simp; omega
        refine callsR fun R hR => ?_
        go_enter Tryz.func14, Tryz.ntmps14
        go_wp2
        exact hR.out _ _ ⟨congrArg (fun x => Ending.returned (.int .i64 x)) (show _ = within n lo hi by have := HW.out; omega), rfl⟩
    · rw [if_neg hneg] at HW hm1 hm2
      rcases hx with hx | hx
      · have g2 : decide (lo ≤ n) = false := by simp; omega
        refine callsR fun R hR => ?_
        go_enter Tryz.func14, Tryz.ntmps14
        go_wp2
        exact hR.out _ _ ⟨congrArg (fun x => Ending.returned (.int .i64 x)) (show _ = within n lo hi by have := HW.out; omega), rfl⟩
      · have g2 : decide (lo ≤ n) = true := by simp; omega
        have g3 : decide (n ≤ hi) = false := by simp; omega
        refine callsR fun R hR => ?_
        go_enter Tryz.func14, Tryz.ntmps14
        go_wp2
        exact hR.out _ _ ⟨congrArg (fun x => Ending.returned (.int .i64 x)) (show _ = within n lo hi by have := HW.out; omega), rfl⟩
  by_cases h1 : lo ≤ n
  · by_cases h2 : n ≤ hi
    · have hw := Lib.hid (within_in n lo hi h1 h2)
      refine callsR fun R hR => ?_
      go_enter Tryz.func14, Tryz.ntmps14
      go_wp2
      exact hR.out _ _ ⟨by rw [hw.out]; rfl, rfl⟩
    · exact out (by omega)
  · exact out (by omega)
end Go.Proofs.YtognmhgdegpdiaaGreat
