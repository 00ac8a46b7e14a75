import Derived.Test.YtognmhgdegpdiaaGreatPoolACV
import Derived.Test.YtognmhgdegpdiaaGreatPoolAll
/- Tables of jobs as plain data: counting, moving. -/
namespace Go.Proofs.YtognmhgdegpdiaaGreat
open Go.RowKit
set_option linter.unusedVariables false
set_option linter.unusedSimpArgs false

/-- Each of the Refs that All tells is of a place that is taken. -/
theorem allTo_get {α : Type} {l : List (Pl α)} : ∀ {j k : Nat} {r : Int × Int}, (allTo l j)[k]? = some r → ∃ (i : Nat) (x : Pl α), i < j ∧ r = ((i : Int), x.gen) ∧ l[i]? = some x ∧ x.taken = true
  | 0, k, r, h => by simp [allTo_zero] at h
  | j + 1, k, r, h => by
    cases hx : l[j]? with
    | none =>
      have : allTo l (j + 1) = allTo l j := by
        have hl : l.length ≤ j := List.getElem?_eq_none_iff.1 hx
        unfold allTo
        rw [List.take_of_length_le hl, List.take_of_length_le (by omega)]
      rw [this] at h
      obtain ⟨i, x, h1, h2⟩ := allTo_get h
      exact ⟨i, x, by omega, h2⟩
    | some x =>
      cases ht : x.taken with
      | false =>
        rw [allTo_out hx ht] at h
        obtain ⟨i, x, h1, h2⟩ := allTo_get h
        exact ⟨i, x, by omega, h2⟩
      | true =>
        rw [allTo_in hx ht] at h
        rcases Nat.lt_or_ge k (allTo l j).length with hlt | hge
        · rw [List.getElem?_append_left hlt] at h
          obtain ⟨i, x, h1, h2⟩ := allTo_get h
          exact ⟨i, x, by omega, h2⟩
        · rw [List.getElem?_append_right hge] at h
          have hk := (List.getElem?_eq_some_iff.1 h).1
          simp at hk
          have e : k - (allTo l j).length = 0 := by omega
          rw [e] at h
          simp at h
          exact ⟨j, x, by omega, h.symm, hx, ht⟩

/-- How many of the first Refs are of jobs of queue q. -/
def isQ (s : PSt V5) (q : Int) (r : Int × Int) : Bool := match s.l[r.1.toNat]? with
  | some x => x.v.a == q
  | none => false
def cntQ (s : PSt V5) (q : Int) (T : List (Int × Int)) : Nat := T.countP (isQ s q)
theorem cntQ_le (s : PSt V5) (q : Int) (T : List (Int × Int)) : cntQ s q T ≤ T.length := List.countP_le_length
theorem cntQ_succ {s : PSt V5} {q : Int} {T : List (Int × Int)} {j : Nat} {r : Int × Int} (h : T[j]? = some r) : cntQ s q (T.take (j + 1)) = cntQ s q (T.take j) + if isQ s q r then 1 else 0 := by
  rw [cntQ, List.take_add_one, h, Option.toList_some, List.countP_append, List.countP_singleton]
  rfl

/-- One job after the other is put into queue b, if it is of queue a: what there is then, how many were. -/
def moveStep (a b : Int) (st : PSt V5 × Nat) (r : Int × Int) : PSt V5 × Nat := match st.1.l[r.1.toNat]? with
  | some x => if x.v.a = a then (st.1.setAt r.1.toNat x { x.v with a := b }, st.2 + 1) else st
  | none => st
def moveTo (a b : Int) (s : PSt V5) (T : List (Int × Int)) : PSt V5 × Nat := T.foldl (moveStep a b) (s, 0)
theorem moveTo_succ {a b : Int} {s : PSt V5} {T : List (Int × Int)} {j : Nat} {r : Int × Int} (h : T[j]? = some r) : moveTo a b s (T.take (j + 1)) = moveStep a b (moveTo a b s (T.take j)) r := by
  rw [moveTo, List.take_add_one, h, Option.toList_some, List.foldl_append]
  rfl

def shape {α : Type} (s : PSt α) : List (Int × Bool) := s.l.map fun x => (x.gen, x.taken)
theorem shape_setAt {α : Type} {s : PSt α} {i : Nat} {x : Pl α} (v : α) (h : s.l[i]? = some x) : shape (s.setAt i x v) = shape s := by
  unfold shape PSt.setAt
  rw [List.map_set]
  apply List.ext_getElem?
  intro j
  by_cases hij : i = j
  · subst hij
    rw [List.getElem?_set_self (by simpa using (List.getElem?_eq_some_iff.1 h).1), List.getElem?_map, h]
    rfl
  · rw [List.getElem?_set_ne hij]
theorem shape_step (a b : Int) (st : PSt V5 × Nat) (r : Int × Int) : shape (moveStep a b st r).1 = shape st.1 := by
  unfold moveStep
  split
  · rename_i x hx
    split
    · exact shape_setAt _ hx
    · rfl
  · rfl
theorem shape_fold (a b : Int) : ∀ (T : List (Int × Int)) (st : PSt V5 × Nat), shape (T.foldl (moveStep a b) st).1 = shape st.1
  | [], _ => rfl
  | r :: T, st => (shape_fold a b T _).trans (shape_step a b st r)
theorem shape_move (a b : Int) (s : PSt V5) (T : List (Int × Int)) : shape (moveTo a b s T).1 = shape s := shape_fold a b T _
theorem shape_at {α β : Type} {s : PSt α} {r : PSt β} (h : shape s = shape r) {i : Nat} {x : Pl α} (hx : s.l[i]? = some x) : ∃ y, r.l[i]? = some y ∧ y.gen = x.gen ∧ y.taken = x.taken := by
  have e : (shape s)[i]? = some (x.gen, x.taken) := by rw [shape, List.getElem?_map, hx]; rfl
  rw [h, shape, List.getElem?_map] at e
  cases hy : r.l[i]? with
  | none => rw [hy] at e; cases e
  | some y =>
    rw [hy] at e
    simp at e
    exact ⟨y, rfl, e.1, e.2⟩
theorem shape_len {α β : Type} {s : PSt α} {r : PSt β} (h : shape s = shape r) : s.l.length = r.l.length := by
  have := congrArg List.length h
  simpa [shape] using this
theorem moveStep_le (a b : Int) (st : PSt V5 × Nat) (r : Int × Int) : (moveStep a b st r).2 ≤ st.2 + 1 := by
  unfold moveStep
  split
  · split <;> simp
  · simp
theorem moveTo_le (a b : Int) (s : PSt V5) : ∀ (T : List (Int × Int)) (st : PSt V5 × Nat), (T.foldl (moveStep a b) st).2 ≤ st.2 + T.length
  | [], st => by simp
  | r :: T, st => by
    have h1 := moveTo_le a b s T (moveStep a b st r)
    have h2 := moveStep_le a b st r
    simp only [List.foldl_cons, List.length_cons]
    omega
theorem move_le (a b : Int) (s : PSt V5) (T : List (Int × Int)) : (moveTo a b s T).2 ≤ T.length := by
  have := moveTo_le a b s T (s, 0)
  simpa [moveTo] using this
/-- Every life is the first, or a later one. -/
def GensOk {α : Type} (s : PSt α) : Prop := ∀ (i : Nat) (x : Pl α), s.l[i]? = some x → x.taken = true → 1 ≤ x.gen
end Go.Proofs.YtognmhgdegpdiaaGreat
