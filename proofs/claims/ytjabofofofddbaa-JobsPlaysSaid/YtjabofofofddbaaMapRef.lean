/- Maps keyed by Refs. -/
import Derived.Test.YtjabofofofddbaaMap
namespace Go.Proofs.Ytjabofofofddbaa
open Go.RowKit
open Go.Maps (Keyed)
set_option maxRecDepth 100000

def in64 (a : Int) : Prop := -9223372036854775808 ≤ a ∧ a ≤ 9223372036854775807
theorem refKeyed : Keyed Try.prog 57 := Keyed.of_law (deep_law_laid (m := 8) (by kernel_rfl) (by decide) (of_decide_eq_true (by kernel_rfl)) (by kernel_rfl) (by kernel_rfl))
theorem ref_keyOf (a b : Int) (ha : in64 a) (hb : in64 b) : keyOf Try.prog 57 (.agg #[.int .i64 a, .int .i64 b]) = some (.string (keyBytes [.int .i64 a, .int .i64 b])) := by
  have hkt : Try.prog.keyType 57 = true := by kernel_rfl
  have hu := ref_under
  have hc : Try.prog.cellsOf 57 = 2 := by kernel_rfl
  have hi := int_cells
  have ui := Try.underlying3
  have wa : (Lit.int .i64 a).wf = true := WalkArith.wf_i64 ha
  have wb : (Lit.int .i64 b).wf = true := WalkArith.wf_i64 hb
  obtain ⟨m, hm⟩ : ∃ m, Try.prog.types.size = m + 1 := ⟨Try.prog.types.size - 1, by have : 0 < Try.prog.types.size := of_decide_eq_true (by kernel_rfl); omega⟩
  have h := ref_fields
  unfold keyOf
  simp only [hu]
  rw [if_pos (by simp [hkt, Value.formed, hu, hc]), hm]
  unfold Program.keyLits
  simp only [hu, Value.cells]
  generalize Try.prog.fieldsOf 57 = fs at h ⊢
  obtain ⟨l⟩ := fs
  simp only at h
  rcases l with _ | ⟨f, _ | ⟨g, _ | ⟨x, l⟩⟩⟩
  · simp at h
  · simp at h
  · simp at h
    obtain ⟨⟨f1, f2, f3⟩, g1, g2, g3⟩ := h
    rw [if_pos (by simp [hc, f1, g1])]
    simp [f2, f3, g2, g3, hi, Program.keyLits, ui, wa, wb]
  · simp at h

/-- Keys that are Refs. -/
def refFam : KeyFam (Int × Int) where
  k := 57
  kv := refV
  lit x := .string (keyBytes [.int .i64 x.1, .int .i64 x.2])
  ok x := in64 x.1 ∧ in64 x.2
  law := refKeyed
  key x h := ref_keyOf x.1 x.2 h.1 h.2
  inj x y h := by
    obtain ⟨a, b⟩ := x
    obtain ⟨c, d⟩ := y
    simpa [refV] using h
end Go.Proofs.Ytjabofofofddbaa
