import Derived.Test.YtognmhgdegpdiaaGreatRefPool
/- Which places are taken, in a row: plain; and Same of two rows of Refs. -/
namespace Go.Proofs.YtognmhgdegpdiaaGreat
open Go.RowKit
set_option linter.unusedVariables false
set_option linter.unusedSimpArgs false
set_option maxRecDepth 100000

/-- The Refs of those of the first j places that are taken. -/
def allTo {α : Type} (l : List (Pl α)) (j : Nat) : List (Int × Int) := (l.take j).zipIdx.filterMap fun x => if x.1.taken then some ((x.2 : Int), x.1.gen) else none
def rowsR (q : List (Int × Int)) : List (List Value) := q.map fun p => [.int .i64 p.1, .int .i64 p.2]
theorem allTo_zero {α : Type} (l : List (Pl α)) : allTo l 0 = [] := rfl
theorem allTo_in {α : Type} {l : List (Pl α)} {j : Nat} {x : Pl α} (h : l[j]? = some x) (ht : x.taken = true) : allTo l (j + 1) = allTo l j ++ [((j : Int), x.gen)] := by
  have hj : j < l.length := (List.getElem?_eq_some_iff.1 h).1
  have hm : min j l.length = j := by omega
  simp [allTo, List.take_add_one, h, List.zipIdx_append, ht, hm]
theorem allTo_out {α : Type} {l : List (Pl α)} {j : Nat} {x : Pl α} (h : l[j]? = some x) (ht : x.taken = false) : allTo l (j + 1) = allTo l j := by
  simp [allTo, List.take_add_one, h, List.zipIdx_append, ht]
theorem allTo_le {α : Type} (l : List (Pl α)) (j : Nat) : (allTo l j).length ≤ l.length := by
  unfold allTo
  refine Nat.le_trans (List.length_filterMap_le _ _) ?_
  simp
  omega
/-- Two pools whose places have the same lives, and are taken alike, tell the same. -/
theorem allTo_same {α β : Type} : ∀ (l : List (Pl α)) (m : List (Pl β)), l.map (fun x => (x.gen, x.taken)) = m.map (fun x => (x.gen, x.taken)) → ∀ j, allTo l j = allTo m j := by
  have key : ∀ (l : List (Pl α)) (m : List (Pl β)), l.map (fun x => (x.gen, x.taken)) = m.map (fun x => (x.gen, x.taken)) → ∀ k, (l.zipIdx k).filterMap (fun x => if x.1.taken then some ((x.2 : Int), x.1.gen) else none) = (m.zipIdx k).filterMap (fun x => if x.1.taken then some ((x.2 : Int), x.1.gen) else none) := by
    intro l
    induction l with
    | nil => intro m h k; cases m with | nil => rfl | cons y m => simp at h
    | cons x l ih =>
      intro m h k
      cases m with
      | nil => simp at h
      | cons y m =>
        simp only [List.map_cons, List.cons.injEq, Prod.mk.injEq] at h
        simp only [List.zipIdx_cons, List.filterMap_cons, h.1.1, h.1.2, ih m h.2]
  intro l m h j
  exact key _ _ (by rw [List.map_take, List.map_take, h]) 0

theorem range_filter_perm {p : Nat → Bool} {f : List Nat} {n : Nat} (hn : f.Nodup) (h : ∀ i, i ∈ f ↔ i < n ∧ p i = true) : f.length = ((List.range n).filter p).length :=
  (List.perm_iff_count.2 fun a => by
    have h1 : f.count a = if a ∈ f then 1 else 0 := hn.count
    have hnd : ((List.range n).filter p).Nodup := List.nodup_range.filter _
    have h2 : ((List.range n).filter p).count a = if a ∈ (List.range n).filter p then 1 else 0 := hnd.count
    rw [h1, h2]
    have : a ∈ f ↔ a ∈ (List.range n).filter p := by rw [h a]; simp
    simp only [this]).length_eq

/-- As many are taken as are not free. -/
theorem PSt.WF.all_len {α : Type} {s : PSt α} (h : s.WF) : (allTo s.l s.l.length).length + s.free.length = s.l.length := by
  have h1 : s.free.length = ((List.range s.l.length).filter fun i => (s.l[i]?.map fun x => !x.taken).getD false).length := by
    refine range_filter_perm h.nodup fun i => ?_
    rw [h.free i]
    constructor
    · rintro ⟨x, hx, ht⟩
      exact ⟨(List.getElem?_eq_some_iff.1 hx).1, by simp [hx, ht]⟩
    · rintro ⟨hi, hp⟩
      refine ⟨_, List.getElem?_eq_getElem hi, ?_⟩
      simpa [hi] using hp
  have h2 : ∀ j, j ≤ s.l.length → (allTo s.l j).length + ((List.range j).filter fun i => (s.l[i]?.map fun x => !x.taken).getD false).length = j := by
    intro j
    induction j with
    | zero => intro _; rfl
    | succ j ih =>
      intro hj
      have hj2 : j < s.l.length := by omega
      have hx := List.getElem?_eq_getElem hj2
      have := ih (by omega)
      rw [List.range_succ, List.filter_append, List.length_append]
      cases ht : s.l[j].taken with
      | true => rw [allTo_in hx ht]; simp [ht, hj2]; omega
      | false => rw [allTo_out hx ht]; simp [ht, hj2]; omega
  have := h2 s.l.length (Nat.le_refl _)
  omega

end Go.Proofs.YtognmhgdegpdiaaGreat
