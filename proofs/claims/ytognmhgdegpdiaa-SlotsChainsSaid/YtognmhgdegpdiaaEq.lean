/- Two Refs held against each other, as one Bool. -/
import Derived.Test.YtognmhgdegpdiaaBase
import Derived.Test.YtognmhgdegpdiaaRows
import Derived.Laws.StructEq
namespace Go.Proofs.Ytognmhgdegpdiaa
open Go.RowKit
set_option linter.unusedVariables false
set_option linter.unusedSimpArgs false
set_option maxRecDepth 100000

/-- Are two Refs the same? -/
def refEq (a b c d : Int) : Bool := a == c && b == d
theorem refEq_true {a b c d : Int} : refEq a b c d = true ↔ a = c ∧ b = d := by simp [refEq]
theorem refEq_false {a b c d : Int} : refEq a b c d = false ↔ ¬ (a = c ∧ b = d) := by rw [← refEq_true]; simp

theorem ref_fields : (Try.prog.fieldsOf 27).toList.map (fun f => (f.name == "_", f.type, f.offset)) = [(false, 3, 0), (false, 3, 1)] := by kernel_rfl
theorem ref_stood : Try.prog.stoodInHeld 27 = false := by kernel_rfl
theorem ref_under : Try.prog.underlying 27 = some (.struct (Try.prog.fieldsOf 27)) := by kernel_rfl
theorem int_cells : Try.prog.cellsOf 3 = 1 := by kernel_rfl

theorem ref_equalIn (w : World) (a b c d : Int) : (Op.equalIn 10000 27 (.agg #[.int .i64 a, .int .i64 b]) (.agg #[.int .i64 c, .int .i64 d])).run Try.prog w = .ok (refEq a b c d) w := by
  rw [run_equalIn_struct w 9999 _ _ _ ref_under ref_stood]
  have h := ref_fields
  generalize (Try.prog.fieldsOf 27).toList = fs at h ⊢
  rcases fs with _ | ⟨f, _ | ⟨g, _ | ⟨x, fs⟩⟩⟩
  · simp at h
  · simp at h
  · simp at h
    obtain ⟨⟨f1, f2, f3⟩, g1, g2, g3⟩ := h
    have u := Try.underlying3
    simp [Op.eqFields, f1, g1, f2, g2, f3, g3, go_sem, int_cells, refEq, run_equalIn_int w _ _ _ _ _ _ u]
    by_cases h1 : a = c <;> by_cases h2 : b = d <;> simp [h1, h2]
  · simp at h
theorem ref_eql (w : World) (a b c d : Int) : (binOp .eql 27 (.agg #[.int .i64 a, .int .i64 b]) (.agg #[.int .i64 c, .int .i64 d])).run Try.prog w = .ok (.bool (refEq a b c d)) w := by
  rw [run_eql_struct, ref_equalIn]
  rfl
theorem ref_neq (w : World) (a b c d : Int) : (binOp .neq 27 (.agg #[.int .i64 a, .int .i64 b]) (.agg #[.int .i64 c, .int .i64 d])).run Try.prog w = .ok (.bool (!refEq a b c d)) w := by
  rw [run_neq_struct, ref_equalIn]
  rfl
end Go.Proofs.Ytognmhgdegpdiaa
