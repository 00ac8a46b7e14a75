/- The table of slots as plain data: what is at each place behind the items' moves. -/
import Derived.Test.YtognmhgdegpdiaaSlotsP
namespace Go.Proofs.Ytognmhgdegpdiaa
open Go.RowKit
set_option linter.unusedVariables false
set_option linter.unusedSimpArgs false

theorem allTo_mem {α : Type} {l : List (Pl α)} {i : Nat} {x : Pl α} (hx : l[i]? = some x) (ht : x.taken = true) : ∀ j, i < j → ((i : Int), x.gen) ∈ allTo l j
  | 0, h => absurd h (by omega)
  | j + 1, h => by
    rcases Nat.lt_or_ge i j with hlt | hge
    · have ih := allTo_mem hx ht j hlt
      cases hy : l[j]? with
      | none =>
        have hl : l.length ≤ j := List.getElem?_eq_none_iff.1 hy
        have : allTo l (j + 1) = allTo l j := by
          unfold allTo
          rw [List.take_of_length_le hl, List.take_of_length_le (by omega)]
        rw [this]; exact ih
      | some y =>
        cases hyt : y.taken with
        | false => rw [allTo_out hy hyt]; exact ih
        | true => rw [allTo_in hy hyt]; exact List.mem_append_left _ ih
    · obtain rfl : i = j := by omega
      rw [allTo_in hx ht]
      simp

/-- Whether there is such an item of the heap at the place. -/
def ofH (a g : Int) (x : Pl V3) : Bool := x.taken && refEq x.v.b x.v.c a g
theorem listQ_has {s : PSt V3} {a g : Int} {i : Nat} {x : Pl V3} (hx : s.l[i]? = some x) (h : ofH a g x = true) : ((i : Int), x.gen) ∈ listQ s a g (allTo s.l s.l.length) := by
  unfold ofH at h
  rw [Bool.and_eq_true] at h
  refine List.mem_filter.2 ⟨allTo_mem hx h.1 _ (List.getElem?_eq_some_iff.1 hx).1, ?_⟩
  rw [inH_at hx]
  exact h.2
theorem listQ_in {s : PSt V3} {a g : Int} {k : Nat} {r : Int × Int} (h : r ∈ listQ s a g (allTo s.l k)) : ∃ (i : Nat) (x : Pl V3), r = ((i : Int), x.gen) ∧ s.l[i]? = some x ∧ ofH a g x = true := by
  obtain ⟨j, hj⟩ := List.mem_iff_getElem?.1 h
  obtain ⟨i, x, rfl, hx, ht, h1, h2⟩ := listQ_get hj
  exact ⟨i, x, rfl, hx, by simp [ofH, ht, refEq_true, h1, h2]⟩

theorem putStep_same (a g : Int) (s : PSt V3) (r : Int × Int) : (putStep a g s r).most = s.most ∧ (putStep a g s r).free = s.free ∧ (putStep a g s r).l.length = s.l.length := by
  unfold putStep
  split
  · simp [PSt.setAt]
  · simp
theorem putFold_same (a g : Int) : ∀ (T : List (Int × Int)) (s : PSt V3), (T.foldl (putStep a g) s).most = s.most ∧ (T.foldl (putStep a g) s).free = s.free ∧ (T.foldl (putStep a g) s).l.length = s.l.length
  | [], _ => ⟨rfl, rfl, rfl⟩
  | r :: T, s => by
    rw [List.foldl_cons]
    obtain ⟨h1, h2, h3⟩ := putFold_same a g T (putStep a g s r)
    obtain ⟨k1, k2, k3⟩ := putStep_same a g s r
    exact ⟨h1.trans k1, h2.trans k2, h3.trans k3⟩
def putPl (a g : Int) (x : Pl V3) : Pl V3 := ⟨x.gen, x.taken, ⟨x.v.a, a, g⟩⟩
theorem putFold_get (a g : Int) (i : Nat) : ∀ (T : List (Int × Int)) (s : PSt V3), T.Pairwise (fun a b => a.1 < b.1) → (∀ r, r ∈ T → 0 ≤ r.1) →
    (T.foldl (putStep a g) s).l[i]? = if (i : Int) ∈ T.map (·.1) then (s.l[i]?).map (putPl a g) else s.l[i]?
  | [], s, _, _ => by simp
  | r :: T, s, hs, h0 => by
    rw [List.foldl_cons, putFold_get a g i T _ (List.pairwise_cons.1 hs).2 (fun q hq => h0 q (by simp [hq]))]
    have hr0 := h0 r (by simp)
    have hgt := (List.pairwise_cons.1 hs).1
    by_cases hi : (i : Int) ∈ T.map (·.1)
    · rw [if_pos hi, if_pos (by simp only [List.map_cons, List.mem_cons]; exact .inr hi)]
      obtain ⟨q, hq, hqi⟩ := List.mem_map.1 hi
      have := hgt q hq
      rw [putStep_at a g s r i (by omega)]
    · rw [if_neg hi]
      by_cases hri : (i : Int) = r.1
      · rw [if_pos (by simp only [List.map_cons, List.mem_cons]; exact .inl hri)]
        have e : r.1.toNat = i := by omega
        unfold putStep
        rw [e]
        cases hx : s.l[i]? with
        | none => simp [hx]
        | some x =>
          simp only [PSt.setAt, Option.map_some]
          have := (List.getElem?_eq_some_iff.1 hx).1
          rw [List.getElem?_set_self this]
          rfl
      · rw [if_neg (by simp only [List.map_cons, List.mem_cons]; exact fun h => h.elim hri hi), putStep_at a g s r i (by omega)]

theorem putAll_get {s : PSt V3} {a g b d : Int} (i : Nat) : (putAll a g s (listQ s b d (allTo s.l s.l.length))).l[i]? = (s.l[i]?).map fun x => if ofH b d x = true then putPl a g x else x := by
  unfold putAll
  rw [putFold_get a g i _ s (listQ_sorted _ _ _ _) listQ_pos]
  cases hx : s.l[i]? with
  | none => simp
  | some x =>
    simp only [Option.map_some]
    by_cases h : ofH b d x = true
    · rw [if_pos (List.mem_map.2 ⟨_, listQ_has hx h, rfl⟩), if_pos h]
    · rw [if_neg h, if_neg]
      intro hm
      obtain ⟨r, hr, hri⟩ := List.mem_map.1 hm
      obtain ⟨k, y, rfl, hy, h2⟩ := listQ_in hr
      obtain rfl : k = i := by simp only at hri; omega
      rw [hx] at hy
      injection hy with hy
      subst hy
      exact h h2

def clrPl (x : Pl V3) : Pl V3 := ⟨x.gen, false, ⟨0, 0, 0⟩⟩
theorem takeStep_same (st : PSt V3 × (Int → Option (Int × Int))) (r : Int × Int) : (takeStep st r).1.most = st.1.most ∧ (takeStep st r).1.l.length = st.1.l.length := by
  unfold takeStep
  split
  · simp [PSt.giveAt]
  · simp
theorem takeFold_same : ∀ (T : List (Int × Int)) (st : PSt V3 × (Int → Option (Int × Int))), (T.foldl takeStep st).1.most = st.1.most ∧ (T.foldl takeStep st).1.l.length = st.1.l.length
  | [], _ => ⟨rfl, rfl⟩
  | r :: T, st => by
    rw [List.foldl_cons]
    obtain ⟨h1, h3⟩ := takeFold_same T (takeStep st r)
    obtain ⟨k1, k3⟩ := takeStep_same st r
    exact ⟨h1.trans k1, h3.trans k3⟩
theorem takeFold_get (i : Nat) : ∀ (T : List (Int × Int)) (st : PSt V3 × (Int → Option (Int × Int))), T.Pairwise (fun a b => a.1 < b.1) → (∀ r, r ∈ T → 0 ≤ r.1) →
    (T.foldl takeStep st).1.l[i]? = if (i : Int) ∈ T.map (·.1) then (st.1.l[i]?).map clrPl else st.1.l[i]?
  | [], s, _, _ => by simp
  | r :: T, s, hs, h0 => by
    rw [List.foldl_cons, takeFold_get i T _ (List.pairwise_cons.1 hs).2 (fun q hq => h0 q (by simp [hq]))]
    have hr0 := h0 r (by simp)
    have hgt := (List.pairwise_cons.1 hs).1
    by_cases hi : (i : Int) ∈ T.map (·.1)
    · rw [if_pos hi, if_pos (by simp only [List.map_cons, List.mem_cons]; exact .inr hi)]
      obtain ⟨q, hq, hqi⟩ := List.mem_map.1 hi
      have := hgt q hq
      rw [takeStep_at s r i (by omega)]
    · rw [if_neg hi]
      by_cases hri : (i : Int) = r.1
      · rw [if_pos (by simp only [List.map_cons, List.mem_cons]; exact .inl hri)]
        have e : r.1.toNat = i := by omega
        unfold takeStep
        rw [e]
        cases hx : s.1.l[i]? with
        | none => simp [hx]
        | some x =>
          simp only [PSt.giveAt, Option.map_some]
          have := (List.getElem?_eq_some_iff.1 hx).1
          rw [List.getElem?_set_self this]
          rfl
      · rw [if_neg (by simp only [List.map_cons, List.mem_cons]; exact fun h => h.elim hri hi), takeStep_at s r i (by omega)]
theorem takeAll_get {s : PSt V3} {f : Int → Option (Int × Int)} {b d : Int} (i : Nat) : (takeAll s f (listQ s b d (allTo s.l s.l.length))).1.l[i]? = (s.l[i]?).map fun x => if ofH b d x = true then clrPl x else x := by
  unfold takeAll
  rw [takeFold_get i _ (s, f) (listQ_sorted _ _ _ _) listQ_pos]
  cases hx : s.l[i]? with
  | none => simp
  | some x =>
    simp only [Option.map_some]
    by_cases h : ofH b d x = true
    · rw [if_pos (List.mem_map.2 ⟨_, listQ_has hx h, rfl⟩), if_pos h]
    · rw [if_neg h, if_neg]
      intro hm
      obtain ⟨r, hr, hri⟩ := List.mem_map.1 hm
      obtain ⟨k, y, rfl, hy, h2⟩ := listQ_in hr
      obtain rfl : k = i := by simp only at hri; omega
      rw [hx] at hy
      injection hy with hy
      subst hy
      exact h h2
end Go.Proofs.Ytognmhgdegpdiaa
