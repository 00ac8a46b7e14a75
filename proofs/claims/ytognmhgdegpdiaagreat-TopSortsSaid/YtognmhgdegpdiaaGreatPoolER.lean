import Derived.Test.YtognmhgdegpdiaaGreatLedAll
import Derived.Test.YtognmhgdegpdiaaGreatPoolACV
import Derived.Test.YtognmhgdegpdiaaGreatBase
import Derived.Test.YtognmhgdegpdiaaGreatRows
import Derived.Laws.StructEq
section
/- A pool as a thing in memory. -/
namespace Go.Proofs.YtognmhgdegpdiaaGreat
open Go.RowKit
set_option linter.unusedVariables false
set_option linter.unusedSimpArgs false
def poolE {α : Type} (T TP TI sz : Nat) (enc : α → List Value) (p : Nat) (lv fv : Value) (s : PSt α) : Ent :=
  ⟨poolFp p lv fv, fun w => PoolIs w T TP TI sz enc p lv fv s, fun hc ha h => h.chg hc ha, fun h => h.lt⟩
theorem TabIs.up {w : World} {e : TypeId} {sz B : Nat} {v : Value} {L : List (List Value)} (h : TabIs w 0 e sz v L) (hB : ∀ b, b ∈ v.ownBlock.toList → B ≤ b) : TabIs w B e sz v L := by
  obtain ⟨xs, h1, h2⟩ := h
  refine ⟨xs, ⟨h1.1, ?_⟩, h2⟩
  rcases h1.2 with h3 | ⟨g, cap, cur, rfl, hg, r⟩
  · exact .inl h3
  · exact .inr ⟨g, cap, cur, rfl, hB g (by simp [Value.ownBlock]), r⟩
end Go.Proofs.YtognmhgdegpdiaaGreat
end
section
/- Two Refs held against each other, as one Bool. -/
namespace Go.Proofs.YtognmhgdegpdiaaGreat
open Go.RowKit
set_option linter.unusedVariables false
set_option linter.unusedSimpArgs false
set_option maxRecDepth 100000
def refEq (a b c d : Int) : Bool := a == c && b == d
theorem refEq_true {a b c d : Int} : refEq a b c d = true ↔ a = c ∧ b = d := by simp [refEq]
theorem ref_fields : (Tryz.prog.fieldsOf 34).toList.map (fun f => (f.name == "_", f.type, f.offset)) = [(false, 3, 0), (false, 3, 1)] := by kernel_rfl
theorem ref_stood : Tryz.prog.stoodInHeld 34 = false := by kernel_rfl
theorem ref_under : Tryz.prog.underlying 34 = some (.struct (Tryz.prog.fieldsOf 34)) := by kernel_rfl
theorem int_cells : Tryz.prog.cellsOf 3 = 1 := by kernel_rfl
theorem ref_equalIn (w : World) (a b c d : Int) : (Op.equalIn 10000 34 (.agg #[.int .i64 a, .int .i64 b]) (.agg #[.int .i64 c, .int .i64 d])).run Tryz.prog w = .ok (refEq a b c d) w := by
  rw [run_equalIn_struct w 9999 _ _ _ ref_under ref_stood]
  have h := ref_fields
  generalize (Tryz.prog.fieldsOf 34).toList = fs at h ⊢
  rcases fs with _ | ⟨f, _ | ⟨g, _ | ⟨x, fs⟩⟩⟩
  · simp at h
  · simp at h
  · simp at h
    obtain ⟨⟨f1, f2, f3⟩, g1, g2, g3⟩ := h
    have u := Tryz.underlying3
    simp [Op.eqFields, f1, g1, f2, g2, f3, g3, go_sem, int_cells, refEq, run_equalIn_int w _ _ _ _ _ _ u]
    by_cases h1 : a = c <;> by_cases h2 : b = d <;> simp [h1, h2]
  · simp at h
theorem ref_eql (w : World) (a b c d : Int) : (binOp .eql 34 (.agg #[.int .i64 a, .int .i64 b]) (.agg #[.int .i64 c, .int .i64 d])).run Tryz.prog w = .ok (.bool (refEq a b c d)) w := by
  rw [run_eql_struct, ref_equalIn]
  rfl
end Go.Proofs.YtognmhgdegpdiaaGreat
end
