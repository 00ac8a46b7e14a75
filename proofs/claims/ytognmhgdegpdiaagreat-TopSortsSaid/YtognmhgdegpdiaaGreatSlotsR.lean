import Derived.Test.YtognmhgdegpdiaaGreatJobsA
import Derived.Test.YtognmhgdegpdiaaGreatSlotsB
/- What a pool's methods answer: plain facts. -/
namespace Go.Proofs.YtognmhgdegpdiaaGreat
open Go.RowKit
set_option linter.unusedVariables false
set_option linter.unusedSimpArgs false
theorem GetR.ok {α : Type} {z : α} {s : PSt α} {i : Nat} {x : Pl α} {e' : Int} {v : α} (hx : s.l[i]? = some x) (ht : x.taken = true) (hg : 1 ≤ x.gen) (h : GetR z s i x.gen v e') : e' = 0 ∧ v = x.v := by
  rcases h with ⟨h1, h2, _⟩ | ⟨j, y, hj, _, hy, _, _, h3, h4⟩
  · exact absurd (h2.symm.trans (look_ok hx ht hg)) h1
  · have : i = j := by omega
    subst this
    rw [hx] at hy
    injection hy with hy
    subst hy
    exact ⟨h3, h4⟩
theorem GiveR.ok {α : Type} {z : α} {s s' : PSt α} {i : Nat} {x : Pl α} {e' : Int} {v : α} (hx : s.l[i]? = some x) (ht : x.taken = true) (hg : 1 ≤ x.gen) (h : GiveR z s i x.gen v e' s') : e' = 0 ∧ v = x.v ∧ s' = s.giveAt i x z := by
  rcases h with ⟨h1, h2, _⟩ | ⟨j, y, hj, _, hy, _, _, h3, h4, h5⟩
  · exact absurd (h2.symm.trans (look_ok hx ht hg)) h1
  · have : i = j := by omega
    subst this
    rw [hx] at hy
    injection hy with hy
    subst hy
    exact ⟨h3, h4, h5⟩
theorem TakeR.ok {α : Type} {s s' : PSt α} {v : α} {a g : Int} {ok : Bool} (h : TakeR s v a g ok s') (hf : s.l.length ≠ s.most + s.free.length) (hm : s.l.length ≤ s.most) : ok = true := by
  rcases h with ⟨h1, h2, _, _, _⟩ | ⟨_, _, _, _, h, _⟩ | ⟨_, _, _, _, _, _, _, h, _⟩
  · rw [h1] at hf
    simp at hf
    omega
  · exact h
  · exact h
end Go.Proofs.YtognmhgdegpdiaaGreat
