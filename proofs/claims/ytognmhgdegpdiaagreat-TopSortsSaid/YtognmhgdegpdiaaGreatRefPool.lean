import Derived.Test.YtognmhgdegpdiaaGreatPoolER
import Derived.Test.YtognmhgdegpdiaaGreatPoolACV
/- The document's own pool (thicketref2): what each method does to what it holds; the first part: New, Look, Get. -/
namespace Go.Proofs.YtognmhgdegpdiaaGreat
open Go.RowKit
set_option linter.unusedVariables false
set_option linter.unusedSimpArgs false
set_option maxRecDepth 100000
section
end
theorem look_ok {α : Type} {s : PSt α} {i : Nat} {x : Pl α} (hx : s.l[i]? = some x) (ht : x.taken = true) (hg : 1 ≤ x.gen) : s.look i x.gen = 0 := by
  have hlt : i < s.l.length := (List.getElem?_eq_some_iff.1 hx).1
  unfold PSt.look
  rw [if_neg (by omega), Int.toNat_natCast, hx]
  simp only
  rw [if_neg (by omega), if_neg (by simp [ht])]
end Go.Proofs.YtognmhgdegpdiaaGreat
