/- The pool of Heap, more: what each method does to the places that it holds. -/
import Derived.Test.YtognmhgdegpdiaaPoolHeapD
namespace Go.Proofs.Ytognmhgdegpdiaa
open Go.RowKit
set_option linter.unusedVariables false
set_option linter.unusedSimpArgs false
set_option maxRecDepth 100000
theorem pool_get_heap (p : Nat) (lv fv : Value) (s : PSt V3) (a b : Int) (w : World) (h : PoolIs w 87 92 3 5 (fun (v : V3) => [Value.int .i64 v.a, Value.int .i64 v.b, Value.int .i64 v.c]) p lv fv s) :
    Calls Try.prog 25 #[.pointer (some ⟨p, 0, none⟩), .agg #[.int .i64 a, .int .i64 b]] w fun e w' => ∃ (v : V3) (e0 : Int), e = .returned (.tuple #[Value.agg #[.int .i64 v.a, .int .i64 v.b, .int .i64 v.c], .int .i64 e0]) ∧ GetR ⟨0, 0, 0⟩ s a b v e0 ∧ Below w.heap.size w w' := by
  by_cases he : s.look a b = 0
  · obtain ⟨i, x, rfl, hx, rfl, ht, hg⟩ := PSt.look_zero he
    refine Calls.mono (pool_get_ok_heap p lv fv s i x w h hx ht hg) ?_
    rintro e w3 ⟨rfl, q1⟩
    exact ⟨x.v, 0, rfl, .inr ⟨i, x, rfl, rfl, hx, ht, hg, rfl, rfl⟩, q1⟩
  · refine Calls.mono (pool_get_bad_heap p lv fv s a b _ w h rfl he) ?_
    rintro e w3 ⟨rfl, q1⟩
    exact ⟨⟨0, 0, 0⟩, _, rfl, .inl ⟨he, rfl, rfl⟩, q1⟩
theorem pool_give_heap (p : Nat) (lv fv : Value) (s : PSt V3) (a b : Int) (w : World) (h : PoolIs w 87 92 3 5 (fun (v : V3) => [Value.int .i64 v.a, Value.int .i64 v.b, Value.int .i64 v.c]) p lv fv s) :
    Calls Try.prog 32 #[.pointer (some ⟨p, 0, none⟩), .agg #[.int .i64 a, .int .i64 b]] w fun e w' => ∃ (v : V3) (e0 : Int) (fv' : Value) (s' : PSt V3), e = .returned (.tuple #[Value.agg #[.int .i64 v.a, .int .i64 v.b, .int .i64 v.c], .int .i64 e0]) ∧ GiveR ⟨0, 0, 0⟩ s a b v e0 s' ∧
      PoolIs w' 87 92 3 5 (fun (v : V3) => [Value.int .i64 v.a, Value.int .i64 v.b, Value.int .i64 v.c]) p lv fv' s' ∧ Chg (poolFp p lv fv) w w' ∧ Fresh (poolFp p lv fv) (poolFp p lv fv') w := by
  by_cases he : s.look a b = 0
  · obtain ⟨i, x, rfl, hx, rfl, ht, hg⟩ := PSt.look_zero he
    refine Calls.mono (pool_give_ok_heap p lv fv s i x w h hx ht hg) ?_
    rintro e w3 ⟨rfl, fv', q1, q2, q3⟩
    exact ⟨x.v, 0, fv', _, rfl, .inr ⟨i, x, rfl, rfl, hx, ht, hg, rfl, rfl, rfl⟩, q1, q2, q3⟩
  · refine Calls.mono (pool_give_bad_heap p lv fv s a b _ w h rfl he) ?_
    rintro e w3 ⟨rfl, q1⟩
    exact ⟨⟨0, 0, 0⟩, _, fv, s, rfl, .inl ⟨he, rfl, rfl, rfl⟩, h.later q1, Chg.of_below q1 _, Fresh.refl _ _⟩
theorem pool_set_heap (p : Nat) (lv fv : Value) (s : PSt V3) (a b : Int) (v : V3) (w : World) (h : PoolIs w 87 92 3 5 (fun (v : V3) => [Value.int .i64 v.a, Value.int .i64 v.b, Value.int .i64 v.c]) p lv fv s) :
    Calls Try.prog 49 #[.pointer (some ⟨p, 0, none⟩), .agg #[.int .i64 a, .int .i64 b], Value.agg #[.int .i64 v.a, .int .i64 v.b, .int .i64 v.c]] w fun e w' => ∃ (e0 : Int) (s' : PSt V3), e = .returned (.int .i64 e0) ∧ SetR s a b v e0 s' ∧
      PoolIs w' 87 92 3 5 (fun (v : V3) => [Value.int .i64 v.a, Value.int .i64 v.b, Value.int .i64 v.c]) p lv fv s' ∧ Chg (poolFp p lv fv) w w' := by
  by_cases he : s.look a b = 0
  · obtain ⟨i, x, rfl, hx, rfl, ht, hg⟩ := PSt.look_zero he
    refine Calls.mono (pool_set_ok_heap p lv fv s i x v w h hx ht hg) ?_
    rintro e w3 ⟨rfl, q1, q2⟩
    exact ⟨0, _, rfl, .inr ⟨i, x, rfl, rfl, hx, ht, hg, rfl, rfl⟩, q1, q2⟩
  · refine Calls.mono (pool_set_bad_heap p lv fv s a b v _ w h rfl he) ?_
    rintro e w3 ⟨rfl, q1⟩
    exact ⟨_, s, rfl, .inl ⟨he, rfl, rfl⟩, h.later q1, Chg.of_below q1 _⟩
theorem pool_take_heap (p : Nat) (lv fv : Value) (s : PSt V3) (v : V3) (w : World) (h : PoolIs w 87 92 3 5 (fun (v : V3) => [Value.int .i64 v.a, Value.int .i64 v.b, Value.int .i64 v.c]) p lv fv s) :
    Calls Try.prog 24 #[.pointer (some ⟨p, 0, none⟩), Value.agg #[.int .i64 v.a, .int .i64 v.b, .int .i64 v.c]] w fun e w' => ∃ (a g : Int) (ok : Bool) (lv' fv' : Value) (s' : PSt V3), e = .returned (.tuple #[.agg #[.int .i64 a, .int .i64 g], .bool ok]) ∧ TakeR s v a g ok s' ∧
      PoolIs w' 87 92 3 5 (fun (v : V3) => [Value.int .i64 v.a, Value.int .i64 v.b, Value.int .i64 v.c]) p lv' fv' s' ∧ Chg (poolFp p lv fv) w w' ∧ Fresh (poolFp p lv fv) (poolFp p lv' fv') w := by
  rcases List.eq_nil_or_concat s.free with hf | ⟨fs, i, hf⟩
  · by_cases hlt : s.l.length < s.most
    · refine Calls.mono (pool_take_fresh_heap p lv fv s v w h hf hlt) ?_
      rintro e w3 ⟨rfl, lv', fv', q1, q2, q3⟩
      exact ⟨_, _, _, lv', fv', _, rfl, .inr (.inl ⟨hf, hlt, rfl, rfl, rfl, rfl⟩), q1, q2, q3⟩
    · refine Calls.mono (pool_take_full_heap p lv fv s v w h hf (by omega)) ?_
      rintro e w3 ⟨rfl, q1⟩
      exact ⟨_, _, _, lv, fv, _, rfl, .inl ⟨hf, by omega, rfl, rfl, rfl, rfl⟩, h.later q1, Chg.of_below q1 _, Fresh.refl _ _⟩
  · have hf2 : s.free = fs ++ [i] := by simpa using hf
    obtain ⟨x, hx, _⟩ := h.wf.free_lt (i := i) (by rw [hf2]; simp)
    refine Calls.mono (pool_take_back_heap p lv fv s v i fs x w h hf2 hx) ?_
    rintro e w3 ⟨rfl, lv', fv', q1, q2, q3⟩
    exact ⟨_, _, _, lv', fv', _, rfl, .inr (.inr ⟨i, fs, x, hf2, hx, rfl, rfl, rfl, rfl⟩), q1, q2, q3⟩

end Go.Proofs.Ytognmhgdegpdiaa
