/- The statement SlotsStale: the table of what is gone in memory. -/
import Derived.Test.YtognmhgdegpdiaaSlotsStA
import Derived.Test.YtognmhgdegpdiaaSlotsChB
namespace Go.Proofs.Ytognmhgdegpdiaa
open Go.RowKit
set_option linter.unusedVariables false
set_option linter.unusedSimpArgs false
set_option maxRecDepth 100000

def boolRows (L : List Bool) : List (List Value) := L.map fun b => [Value.bool b]
theorem boolRows_len (L : List Bool) : (boolRows L).length = L.length := by simp [boolRows]
theorem tab_made (w : World) (n : Nat) (hn : n ≤ 1000000) : TabIs (w.alloc (.cells (madeCells #[Value.bool false] n) 4)) 0 4 1 (.slice (some ⟨w.heap.size, 0, none⟩) n n) (boolRows (List.replicate n false)) := by
  have hs : (madeCells #[Value.bool false] n).size = n := size_madeCells _ _
  refine ⟨(madeCells #[Value.bool false] n).toList, ?_, ?_, ?_⟩
  · rw [boolRows_len, List.length_replicate]
    refine ⟨by simp [hs], .inr ⟨w.heap.size, n, _, rfl, Nat.zero_le _, Blk.new w _ _, Nat.le_refl _, by unfold maxLen; omega, by simp [hs], ?_⟩⟩
    rw [List.take_of_length_le (by simp [hs])]
  · intro c hc
    obtain ⟨b, _, rfl⟩ := List.mem_map.1 hc
    rfl
  · intro i c hi j u hj
    rw [boolRows, List.map_replicate] at hi
    obtain ⟨hi1, hi2⟩ := List.getElem?_eq_some_iff.1 hi
    simp at hi1 hi2
    subst hi2
    have : j = 0 := by have := (List.getElem?_eq_some_iff.1 hj).1; simpa using this
    subst this
    simp at hj
    subst hj
    simp [madeCells, hi1, Nat.mod_one]

section
variable {B : Nat} {w0 w : World} {A C : List Ent} {g n c i : Nat} {L : List Bool} {q : Bool}
theorem led_bool (h : Led B w0 w (A ++ tabE 4 1 (.slice (some ⟨g, 0, none⟩) n c) (boolRows L) :: C)) (hi : L[i]? = some q) (b : Bool) : Led B w0 (w.setCell ⟨g, i, none⟩ (.bool b)) (A ++ tabE 4 1 (.slice (some ⟨g, 0, none⟩) n c) (boolRows (L.set i b)) :: C) := by
  have hT : TabIs w 0 4 1 (.slice (some ⟨g, 0, none⟩) n c) (boolRows L) := h.mem
  have h1 := hT.set (i := i) (j := 0) (r := [.bool q]) (.bool b) (by rw [boolRows, List.getElem?_map, hi]; rfl) (by decide)
  rw [Nat.mul_one, Nat.add_zero] at h1
  exact h.mid _ ((Chg.refl _ _).setCell (p := ⟨g, i, none⟩) (.inl (by simp [tabE, Value.ownBlock])) (.bool b)) (by simpa [tabE, boolRows, List.map_set] using h1) (Fresh.refl _ _)
theorem bool_cell (h : TabIs w 0 4 1 (.slice (some ⟨g, 0, none⟩) n c) (boolRows L)) (hi : L[i]? = some q) : w.cell? ⟨g, i, none⟩ = some (.bool q) :=
  tab1_cell h (by rw [boolRows, List.getElem?_map, hi]; rfl)
end

def gL (n : Nat) (G : Nat → Bool) : List Bool := (List.range n).map G
theorem gL_at {n i : Nat} {G : Nat → Bool} (h : i < n) : (gL n G)[i]? = some (G i) := by simp [gL, h]
theorem gL_set {n k : Nat} {G : Nat → Bool} (h : k < n) : (gL n G).set k true = gL n (fun i => G i || (i == k)) := by
  refine List.ext_getElem? fun i => ?_
  by_cases hi : i < n
  · by_cases hik : k = i
    · subst hik
      rw [List.getElem?_set_self (by simp [gL, h]), gL_at hi]
      simp
    · rw [List.getElem?_set_ne hik, gL_at hi, gL_at hi]
      have : (i == k) = false := by simp; omega
      rw [this, Bool.or_false]
  · rw [List.getElem?_eq_none (by simp [gL]; omega), List.getElem?_eq_none (by simp [gL]; omega)]
theorem gL_false (n : Nat) : gL n (fun _ => false) = List.replicate n false := by
  refine List.ext_getElem? fun i => ?_
  by_cases hi : i < n
  · rw [gL_at hi, List.getElem?_replicate, if_pos hi]
  · rw [List.getElem?_eq_none (by simp [gL]; omega), List.getElem?_eq_none (by simp; omega)]
theorem EndR.bad {sh si sh' si' : PSt V3} {f f' : Int → Option (Int × Int)} {a g e e0 : Int} (hl : sh.look a g = e) (he : e ≠ 0) (h : EndR sh si f a g e0 sh' si' f') : e0 = e ∧ sh' = sh ∧ si' = si ∧ f' = f := by
  rcases h with ⟨_, h2, h3, h4, h5⟩ | ⟨i, x, rfl, rfl, hx, ht, hg, _⟩
  · exact ⟨h2.symm.trans hl, h3, h4, h5⟩
  · exact absurd (hl.symm.trans (look_ok hx ht hg)) he
end Go.Proofs.Ytognmhgdegpdiaa
