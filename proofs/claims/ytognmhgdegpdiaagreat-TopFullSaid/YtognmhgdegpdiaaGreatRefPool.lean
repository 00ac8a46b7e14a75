import Derived.Test.YtognmhgdegpdiaaGreatPoolER
import Derived.Test.YtognmhgdegpdiaaGreatPoolACV
/- The document's own pool (thicketref2): what each method does to what it holds; the first part: New, Look, Get. -/
namespace Go.Proofs.YtognmhgdegpdiaaGreat
open Go.RowKit
set_option linter.unusedVariables false
set_option linter.unusedSimpArgs false
set_option maxRecDepth 100000

section
theorem tab1_form {w : World} {base n : Nat} {e : TypeId} {v : Value} {L : List (List Value)} (h : TabIs w base e 1 v L) (hn : L.length = n) : ∃ A c, v = .slice A n c ∧ n ≤ c ∧ (0 < n → ∃ g, A = some ⟨g, 0, none⟩ ∧ g < w.heap.size) := by
  subst hn
  obtain ⟨A, c, h1, h2, h3⟩ := h.form
  exact ⟨A, c, h1, h2, fun hn => by obtain ⟨g, hg, hl, _⟩ := h3 hn; exact ⟨g, hg, hl⟩⟩
theorem tab1_cell {w : World} {base g n c i : Nat} {e : TypeId} {L : List (List Value)} {u : Value} (h : TabIs w base e 1 (.slice (some ⟨g, 0, none⟩) n c) L) (hi : L[i]? = some [u]) : w.cell? ⟨g, i, none⟩ = some u := by
  have := h.cell (i := i) (j := 0) (r := [u]) (u := u) hi rfl
  simpa using this
end
theorem look_ok {α : Type} {s : PSt α} {i : Nat} {x : Pl α} (hx : s.l[i]? = some x) (ht : x.taken = true) (hg : 1 ≤ x.gen) : s.look i x.gen = 0 := by
  have hlt : i < s.l.length := (List.getElem?_eq_some_iff.1 hx).1
  unfold PSt.look
  rw [if_neg (by omega), Int.toNat_natCast, hx]
  simp only
  rw [if_neg (by omega), if_neg (by simp [ht])]

end Go.Proofs.YtognmhgdegpdiaaGreat
