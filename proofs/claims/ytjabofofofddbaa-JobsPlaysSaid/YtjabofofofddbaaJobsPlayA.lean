/- The statements on tables of jobs against a plain list: words that the walks share. -/
import Derived.Test.YtjabofofofddbaaJobsKnown
import Derived.Test.YtjabofofofddbaaJobsC
import Derived.Test.YtjabofofofddbaaRefAny
import Derived.Test.YtjabofofofddbaaBook
namespace Go.Proofs.Ytjabofofofddbaa
open Go.RowKit
set_option linter.unusedVariables false
set_option linter.unusedSimpArgs false
set_option maxRecDepth 100000

theorem job_fields : (Try.prog.fieldsOf 80).toList.map (fun f => (f.name == "_", f.type, f.offset)) = [(false, 3, 0), (false, 2, 1), (false, 3, 2), (false, 57, 3)] := by kernel_rfl
theorem job_stood : Try.prog.stoodInHeld 80 = false := by kernel_rfl
theorem job_under : Try.prog.underlying 80 = some (.struct (Try.prog.fieldsOf 80)) := by kernel_rfl
theorem int64_cells : Try.prog.cellsOf 2 = 1 := by kernel_rfl
theorem ref_cells : Try.prog.cellsOf 57 = 2 := by kernel_rfl
theorem ref_equalIn_n (w : World) (n : Nat) (a b c d : Int) : (Op.equalIn (n + 2) 57 (.agg #[.int .i64 a, .int .i64 b]) (.agg #[.int .i64 c, .int .i64 d])).run Try.prog w = .ok (refEq a b c d) w := by
  rw [run_equalIn_struct w (n + 1) _ _ _ ref_under ref_stood]
  have h := ref_fields
  generalize (Try.prog.fieldsOf 57).toList = fs at h ⊢
  rcases fs with _ | ⟨f, _ | ⟨g, _ | ⟨x, fs⟩⟩⟩
  · simp at h
  · simp at h
  · simp at h
    obtain ⟨⟨f1, f2, f3⟩, g1, g2, g3⟩ := h
    have u := Try.underlying3
    simp [Op.eqFields, f1, g1, f2, g2, f3, g3, go_sem, int_cells, refEq, run_equalIn_int w _ _ _ _ _ _ u]
    by_cases h1 : a = c <;> by_cases h2 : b = d <;> simp [h1, h2]
  · simp at h
theorem job_same (w : World) (a b c d e : Int) : (Op.equalIn 10000 80 (.agg #[.int .i64 a, .int .i64 b, .int .i64 c, .int .i64 d, .int .i64 e]) (.agg #[.int .i64 a, .int .i64 b, .int .i64 c, .int .i64 d, .int .i64 e])).run Try.prog w = .ok true w := by
  rw [run_equalIn_struct w 9999 _ _ _ job_under job_stood]
  have h := job_fields
  generalize (Try.prog.fieldsOf 80).toList = fs at h ⊢
  have hr := ref_equalIn_n w 9997 d e d e
  have hre : refEq d e d e = true := refEq_true.2 ⟨rfl, rfl⟩
  rw [hre] at hr
  rcases fs with _ | ⟨f, _ | ⟨g, _ | ⟨x, _ | ⟨y, _ | ⟨z, fs⟩⟩⟩⟩⟩
  · simp at h
  · simp at h
  · simp at h
  · simp at h
  · simp at h
    obtain ⟨⟨f1, f2, f3⟩, ⟨g1, g2, g3⟩, ⟨x1, x2, x3⟩, y1, y2, y3⟩ := h
    have u := Try.underlying3
    have u2 := Try.underlying2
    simp [Op.eqFields, f1, g1, f2, g2, f3, g3, x1, x2, x3, y1, y2, y3, go_sem, int_cells, int64_cells, ref_cells, run_equalIn_int w _ _ _ _ _ _ u, run_equalIn_int w _ _ _ _ _ _ u2, hr]
  · simp at h
theorem job_neq (w : World) (a b c d e : Int) : (binOp .neq 80 (.agg #[.int .i64 a, .int .i64 b, .int .i64 c, .int .i64 d, .int .i64 e]) (.agg #[.int .i64 a, .int .i64 b, .int .i64 c, .int .i64 d, .int .i64 e])).run Try.prog w = .ok (.bool false) w := by
  rw [run_neq_struct, job_same]
  rfl

/-- The list of jobs as rows of cells. -/
def rowsV (l : List V5) : List (List Value) := l.map fun v => [.int .i64 v.a, .int .i64 v.b, .int .i64 v.c, .int .i64 v.d, .int .i64 v.e]
theorem rowsV_len (l : List V5) : (rowsV l).length = l.length := List.length_map _
theorem info_job_ : (Try.prog.info? 80).map (fun i => (i.zero, i.size, i.bytes)) = some (some (.agg #[.int .i64 0, .int .i64 0, .int .i64 0, .int .i64 0, .int .i64 0]), 5, 40) := by kernel_rfl

theorem allTo_mem {α : Type} {l : List (Pl α)} {i : Nat} {x : Pl α} (hx : l[i]? = some x) (ht : x.taken = true) : ∀ j, i < j → ((i : Int), x.gen) ∈ allTo l j
  | 0, h => absurd h (by omega)
  | j + 1, h => by
    by_cases hij : i = j
    · subst hij
      rw [allTo_in hx ht]
      simp
    · have ih := allTo_mem hx ht j (by omega)
      cases hz : l[j]? with
      | none =>
        have hl : l.length ≤ j := List.getElem?_eq_none_iff.1 hz
        have e : allTo l (j + 1) = allTo l j := by
          unfold allTo
          rw [List.take_of_length_le hl, List.take_of_length_le (by omega)]
        rw [e]
        exact ih
      | some z =>
        cases tz : z.taken with
        | true => rw [allTo_in hz tz]; exact List.mem_append_left _ ih
        | false => rw [allTo_out hz tz]; exact ih

/-- The last of the Refs whose job has that item. -/
def hadStep (s : PSt V5) (item : Int × Int) (h rf : Int × Int) : Int × Int := match s.l[rf.1.toNat]? with
  | some x => if (x.v.d, x.v.e) = item then rf else h
  | none => h
def hadTo (s : PSt V5) (item : Int × Int) (T : List (Int × Int)) : Int × Int := T.foldl (hadStep s item) (0, 0)
theorem hadTo_succ {s : PSt V5} {item : Int × Int} {T : List (Int × Int)} {j : Nat} {rf : Int × Int} (h : T[j]? = some rf) : hadTo s item (T.take (j + 1)) = hadStep s item (hadTo s item (T.take j)) rf := by
  rw [hadTo, List.take_add_one, h, Option.toList_some, List.foldl_append]
  rfl
theorem JInv.had {k : Nat} {all : List V5} {s : PSt V5} {r : PSt Int} {f : Int × Int → Option (Int × Int)} (h : JInv k all s r f) (item : Int × Int) : hadTo s item (allTo s.l s.l.length) = (f item).getD (0, 0) := by
  have hT : ∀ rf, rf ∈ allTo s.l s.l.length → ∃ (i : Nat) (x : Pl V5), rf = ((i : Int), x.gen) ∧ s.l[i]? = some x ∧ x.taken = true := by
    intro rf hrf
    obtain ⟨j, hj⟩ := List.getElem?_of_mem hrf
    obtain ⟨i, x, _, h1, h2, h3⟩ := allTo_get hj
    exact ⟨i, x, h1, h2, h3⟩
  cases hf : f item with
  | none =>
    have hno : ∀ (T : List (Int × Int)) (h0 : Int × Int), (∀ rf, rf ∈ T → rf ∈ allTo s.l s.l.length) → T.foldl (hadStep s item) h0 = h0 := by
      intro T
      induction T with
      | nil => intro h0 _; rfl
      | cons rf T ih =>
        intro h0 hsub
        obtain ⟨i, x, rfl, hx, ht⟩ := hT rf (hsub rf (by simp))
        have e : hadStep s item h0 ((i : Int), x.gen) = h0 := by
          simp only [hadStep, Int.toNat_natCast, hx]
          rw [if_neg]
          intro he
          have := (h.f item ((i : Int), x.gen)).2 ⟨i, x, hx, ht, rfl, he⟩
          rw [hf] at this
          cases this
        rw [List.foldl_cons, e]
        exact ih h0 fun rf hrf => hsub rf (by simp [hrf])
    exact hno _ _ fun _ h => h
  | some y =>
    obtain ⟨i, x, hx, ht, rfl, hk⟩ := (h.f item y).1 hf
    have hmem := allTo_mem hx ht s.l.length (List.getElem?_eq_some_iff.1 hx).1
    have hstep : ∀ (h0 rf : Int × Int), rf ∈ allTo s.l s.l.length → hadStep s item h0 rf = if rf = ((i : Int), x.gen) then rf else h0 := by
      intro h0 rf hrf
      obtain ⟨j, z, rfl, hz, tz⟩ := hT rf hrf
      simp only [hadStep, Int.toNat_natCast, hz]
      by_cases he : (z.v.d, z.v.e) = item
      · have hji : j = i := h.one hz hx tz ht (he.trans hk.symm)
        subst hji
        rw [hx] at hz
        injection hz with hz
        subst hz
        rw [if_pos he, if_pos rfl]
      · rw [if_neg he, if_neg]
        intro e
        injection e with e1 e2
        have hji : j = i := by omega
        subst hji
        rw [hx] at hz
        injection hz with hz
        subst hz
        exact he hk
    have hyes : ∀ (T : List (Int × Int)) (h0 : Int × Int), (∀ rf, rf ∈ T → rf ∈ allTo s.l s.l.length) → (h0 = ((i : Int), x.gen) ∨ ((i : Int), x.gen) ∈ T) → T.foldl (hadStep s item) h0 = ((i : Int), x.gen) := by
      intro T
      induction T with
      | nil => intro h0 _ h1; rcases h1 with h1 | h1; exact h1; cases h1
      | cons rf T ih =>
        intro h0 hsub h1
        rw [List.foldl_cons, hstep h0 rf (hsub rf (by simp))]
        refine ih _ (fun rf hrf => hsub rf (by simp [hrf])) ?_
        by_cases he : rf = ((i : Int), x.gen)
        · rw [if_pos he]; exact .inl he
        · rw [if_neg he]
          rcases h1 with h1 | h1
          · exact .inl h1
          · rcases List.mem_cons.1 h1 with h2 | h2
            · exact absurd h2.symm he
            · exact .inr h2
    exact hyes _ _ (fun _ h => h) (.inr hmem)
theorem JInv.genpos {k : Nat} {all : List V5} {s : PSt V5} {r : PSt Int} {f : Int × Int → Option (Int × Int)} (h : JInv k all s r f) (item : Int × Int) : decide (0 < ((f item).getD (0, 0)).2) = (f item).isSome := by
  cases hf : f item with
  | none => simp
  | some y =>
    obtain ⟨i, x, hx, ht, rfl, _⟩ := (h.f item y).1 hf
    have := (h.gens i x hx).1
    simp
    omega
end Go.Proofs.Ytjabofofofddbaa
