import Derived.Test.YtognmhgdegpdiaaSlotsC
section
/- The table of slots as plain data: items that are taken, items that change their heap. -/
namespace Go.Proofs.Ytognmhgdegpdiaa
open Go.RowKit
set_option linter.unusedVariables false
set_option linter.unusedSimpArgs false

theorem allTo_sorted {α : Type} (l : List (Pl α)) : ∀ j, (allTo l j).Pairwise (fun a b => a.1 < b.1) ∧ ∀ r, r ∈ allTo l j → 0 ≤ r.1 ∧ r.1 < j
  | 0 => by simp [allTo_zero]
  | j + 1 => by
    obtain ⟨h1, h2⟩ := allTo_sorted l j
    cases hx : l[j]? with
    | none =>
      have hl : l.length ≤ j := List.getElem?_eq_none_iff.1 hx
      have : allTo l (j + 1) = allTo l j := by
        unfold allTo
        rw [List.take_of_length_le hl, List.take_of_length_le (by omega)]
      rw [this]
      exact ⟨h1, fun r hr => by have := h2 r hr; omega⟩
    | some x =>
      cases ht : x.taken with
      | false =>
        rw [allTo_out hx ht]
        exact ⟨h1, fun r hr => by have := h2 r hr; omega⟩
      | true =>
        rw [allTo_in hx ht]
        refine ⟨List.pairwise_append.2 ⟨h1, by simp, fun a ha b hb => ?_⟩, fun r hr => ?_⟩
        · simp only [List.mem_singleton] at hb
          subst hb
          have := h2 a ha
          simp only
          omega
        · rcases List.mem_append.1 hr with hr | hr
          · have := h2 r hr; omega
          · simp only [List.mem_singleton] at hr
            subst hr
            simp only
            omega

theorem listQ_sorted (s : PSt V3) (a g : Int) (k : Nat) : (listQ s a g (allTo s.l k)).Pairwise (fun a b => a.1 < b.1) := (allTo_sorted s.l k).1.filter _

/-- Each of a heap's items is taken, and in the heap. -/
theorem listQ_get {s : PSt V3} {a g : Int} {k j : Nat} {r : Int × Int} (h : (listQ s a g (allTo s.l k))[j]? = some r) : ∃ (i : Nat) (x : Pl V3), r = ((i : Int), x.gen) ∧ s.l[i]? = some x ∧ x.taken = true ∧ x.v.b = a ∧ x.v.c = g := by
  have hm := List.mem_of_getElem? h
  obtain ⟨hm1, hm2⟩ := List.mem_filter.1 hm
  obtain ⟨q, hq⟩ := List.mem_iff_getElem?.1 hm1
  obtain ⟨i, x, _, rfl, hx, ht⟩ := allTo_get hq
  rw [inH_at hx, refEq_true] at hm2
  exact ⟨i, x, rfl, hx, ht, hm2⟩

def takeStep (st : PSt V3 × (Int → Option (Int × Int))) (r : Int × Int) : PSt V3 × (Int → Option (Int × Int)) := match st.1.l[r.1.toNat]? with
  | some x => (st.1.giveAt r.1.toNat x ⟨0, 0, 0⟩, upd st.2 x.v.a none)
  | none => st
def takeAll (s : PSt V3) (f : Int → Option (Int × Int)) (T : List (Int × Int)) : PSt V3 × (Int → Option (Int × Int)) := T.foldl takeStep (s, f)
def putStep (a g : Int) (s : PSt V3) (r : Int × Int) : PSt V3 := match s.l[r.1.toNat]? with
  | some x => s.setAt r.1.toNat x ⟨x.v.a, a, g⟩
  | none => s
def putAll (a g : Int) (s : PSt V3) (T : List (Int × Int)) : PSt V3 := T.foldl (putStep a g) s

theorem foldl_take_succ {α β : Type} (F : β → α → β) (z : β) {T : List α} {j : Nat} {r : α} (h : T[j]? = some r) : (T.take (j + 1)).foldl F z = F ((T.take j).foldl F z) r := by
  rw [List.take_add_one, h, List.foldl_append]
  rfl

theorem takeStep_at (st : PSt V3 × (Int → Option (Int × Int))) (r : Int × Int) (i : Nat) (h : r.1.toNat ≠ i) : (takeStep st r).1.l[i]? = st.1.l[i]? := by
  unfold takeStep
  split
  · simp only [PSt.giveAt]
    rw [List.getElem?_set_ne h]
  · rfl
theorem takeFold_at (i : Nat) : ∀ (T : List (Int × Int)) (st : PSt V3 × (Int → Option (Int × Int))), (∀ r, r ∈ T → r.1.toNat ≠ i) → (T.foldl takeStep st).1.l[i]? = st.1.l[i]?
  | [], _, _ => rfl
  | r :: T, st, h => by
    rw [List.foldl_cons, takeFold_at i T _ (fun q hq => h q (by simp [hq])), takeStep_at _ _ _ (h r (by simp))]
theorem putStep_at (a g : Int) (s : PSt V3) (r : Int × Int) (i : Nat) (h : r.1.toNat ≠ i) : (putStep a g s r).l[i]? = s.l[i]? := by
  unfold putStep
  split
  · simp only [PSt.setAt]
    rw [List.getElem?_set_ne h]
  · rfl
theorem putFold_at (a g : Int) (i : Nat) : ∀ (T : List (Int × Int)) (s : PSt V3), (∀ r, r ∈ T → r.1.toNat ≠ i) → (T.foldl (putStep a g) s).l[i]? = s.l[i]?
  | [], _, _ => rfl
  | r :: T, s, h => by
    rw [List.foldl_cons, putFold_at a g i T _ (fun q hq => h q (by simp [hq])), putStep_at _ _ _ _ _ (h r (by simp))]

/-- The ones ahead of the j'th are at other places. -/
theorem sorted_ahead {T : List (Int × Int)} (hs : T.Pairwise (fun a b => a.1 < b.1)) (h0 : ∀ r, r ∈ T → 0 ≤ r.1) {j i : Nat} {c : Int} (h : T[j]? = some ((i : Int), c)) : ∀ r, r ∈ T.take j → r.1.toNat ≠ i := fun r hr => by
  obtain ⟨k, hk⟩ := List.mem_iff_getElem?.1 hr
  have hkj : k < j := by
    have := (List.getElem?_eq_some_iff.1 hk).1
    rw [List.length_take] at this
    omega
  rw [List.getElem?_take_of_lt hkj] at hk
  obtain ⟨h1, e1⟩ := List.getElem?_eq_some_iff.1 hk
  obtain ⟨h2, e2⟩ := List.getElem?_eq_some_iff.1 h
  have := List.pairwise_iff_getElem.1 hs k j h1 h2 hkj
  rw [e1, e2] at this
  have h3 := h0 r (List.mem_of_getElem? hk)
  simp only at this
  omega
theorem listQ_pos {s : PSt V3} {a g : Int} {k : Nat} : ∀ r, r ∈ listQ s a g (allTo s.l k) → 0 ≤ r.1 := fun r hr => ((allTo_sorted s.l k).2 r (List.mem_filter.1 hr).1).1

theorem CellsOk.give {s : PSt V3} (h : CellsOk s) (i : Nat) (x : Pl V3) (z : V3) : CellsOk (s.giveAt i x z) := fun k y hy ht => by
  simp only [PSt.giveAt] at hy
  by_cases hk : i = k
  · subst hk
    rw [List.getElem?_set] at hy
    split at hy
    · split at hy
      · injection hy with hy
        subst hy
        cases ht
      · cases hy
    · exact h _ y hy ht
  · rw [List.getElem?_set_ne hk] at hy
    exact h k y hy ht
theorem CellsOk.fold : ∀ (T : List (Int × Int)) (st : PSt V3 × (Int → Option (Int × Int))), CellsOk st.1 → CellsOk (T.foldl takeStep st).1
  | [], _, h => h
  | r :: T, st, h => by
    rw [List.foldl_cons]
    refine CellsOk.fold T _ ?_
    unfold takeStep
    split
    · exact h.give _ _ _
    · exact h
theorem listQ_len (s : PSt V3) (a g : Int) (k : Nat) : (listQ s a g (allTo s.l k)).length ≤ s.l.length := Nat.le_trans (listQ_le _ _ _ _) (allTo_le _ _)

/-- What End answers, and what it leaves. -/
def EndR (sh si : PSt V3) (f : Int → Option (Int × Int)) (a g e0 : Int) (sh' si' : PSt V3) (f' : Int → Option (Int × Int)) : Prop :=
  (e0 ≠ 0 ∧ sh.look a g = e0 ∧ sh' = sh ∧ si' = si ∧ f' = f) ∨ (∃ (i : Nat) (x : Pl V3), a = i ∧ g = x.gen ∧ sh.l[i]? = some x ∧ x.taken = true ∧ 1 ≤ x.gen ∧ e0 = 0 ∧ sh' = sh.giveAt i x ⟨0, 0, 0⟩ ∧ (si', f') = takeAll si f (listQ si a g (allTo si.l si.l.length)))
/-- What Join answers, and what it leaves. -/
def JoinR (sh si : PSt V3) (a g b d e0 : Int) (sh' si' : PSt V3) : Prop :=
  (e0 ≠ 0 ∧ sh.look a g = e0 ∧ sh' = sh ∧ si' = si) ∨ (sh.look a g = 0 ∧ e0 ≠ 0 ∧ sh.look b d = e0 ∧ sh' = sh ∧ si' = si) ∨
  (∃ (i k : Nat) (x y : Pl V3), a = i ∧ g = x.gen ∧ b = k ∧ d = y.gen ∧ sh.l[i]? = some x ∧ sh.l[k]? = some y ∧ x.taken = true ∧ y.taken = true ∧ 1 ≤ x.gen ∧ 1 ≤ y.gen ∧
    ((refEq a g b d = true ∧ e0 = 25 ∧ sh' = sh ∧ si' = si) ∨ (refEq a g b d = false ∧ x.v.a ≠ y.v.a ∧ e0 = 24 ∧ sh' = sh ∧ si' = si) ∨
     (refEq a g b d = false ∧ x.v.a = y.v.a ∧ e0 = 0 ∧ sh' = sh.giveAt k y ⟨0, 0, 0⟩ ∧ si' = putAll a g si (listQ si b d (allTo si.l si.l.length)))))
end Go.Proofs.Ytognmhgdegpdiaa

end
section
/- The table of slots as plain data: what is at each place behind the items' moves. -/
namespace Go.Proofs.Ytognmhgdegpdiaa
open Go.RowKit
set_option linter.unusedVariables false
set_option linter.unusedSimpArgs false

theorem allTo_mem {α : Type} {l : List (Pl α)} {i : Nat} {x : Pl α} (hx : l[i]? = some x) (ht : x.taken = true) : ∀ j, i < j → ((i : Int), x.gen) ∈ allTo l j
  | 0, h => absurd h (by omega)
  | j + 1, h => by
    rcases Nat.lt_or_ge i j with hlt | hge
    · have ih := allTo_mem hx ht j hlt
      cases hy : l[j]? with
      | none =>
        have hl : l.length ≤ j := List.getElem?_eq_none_iff.1 hy
        have : allTo l (j + 1) = allTo l j := by
          unfold allTo
          rw [List.take_of_length_le hl, List.take_of_length_le (by omega)]
        rw [this]; exact ih
      | some y =>
        cases hyt : y.taken with
        | false => rw [allTo_out hy hyt]; exact ih
        | true => rw [allTo_in hy hyt]; exact List.mem_append_left _ ih
    · obtain rfl : i = j := by omega
      rw [allTo_in hx ht]
      simp

/-- Whether there is such an item of the heap at the place. -/
def ofH (a g : Int) (x : Pl V3) : Bool := x.taken && refEq x.v.b x.v.c a g
theorem listQ_has {s : PSt V3} {a g : Int} {i : Nat} {x : Pl V3} (hx : s.l[i]? = some x) (h : ofH a g x = true) : ((i : Int), x.gen) ∈ listQ s a g (allTo s.l s.l.length) := by
  unfold ofH at h
  rw [Bool.and_eq_true] at h
  refine List.mem_filter.2 ⟨allTo_mem hx h.1 _ (List.getElem?_eq_some_iff.1 hx).1, ?_⟩
  rw [inH_at hx]
  exact h.2
theorem listQ_in {s : PSt V3} {a g : Int} {k : Nat} {r : Int × Int} (h : r ∈ listQ s a g (allTo s.l k)) : ∃ (i : Nat) (x : Pl V3), r = ((i : Int), x.gen) ∧ s.l[i]? = some x ∧ ofH a g x = true := by
  obtain ⟨j, hj⟩ := List.mem_iff_getElem?.1 h
  obtain ⟨i, x, rfl, hx, ht, h1, h2⟩ := listQ_get hj
  exact ⟨i, x, rfl, hx, by simp [ofH, ht, refEq_true, h1, h2]⟩

theorem putStep_same (a g : Int) (s : PSt V3) (r : Int × Int) : (putStep a g s r).most = s.most ∧ (putStep a g s r).free = s.free ∧ (putStep a g s r).l.length = s.l.length := by
  unfold putStep
  split
  · simp [PSt.setAt]
  · simp
theorem putFold_same (a g : Int) : ∀ (T : List (Int × Int)) (s : PSt V3), (T.foldl (putStep a g) s).most = s.most ∧ (T.foldl (putStep a g) s).free = s.free ∧ (T.foldl (putStep a g) s).l.length = s.l.length
  | [], _ => ⟨rfl, rfl, rfl⟩
  | r :: T, s => by
    rw [List.foldl_cons]
    obtain ⟨h1, h2, h3⟩ := putFold_same a g T (putStep a g s r)
    obtain ⟨k1, k2, k3⟩ := putStep_same a g s r
    exact ⟨h1.trans k1, h2.trans k2, h3.trans k3⟩
def putPl (a g : Int) (x : Pl V3) : Pl V3 := ⟨x.gen, x.taken, ⟨x.v.a, a, g⟩⟩
theorem putFold_get (a g : Int) (i : Nat) : ∀ (T : List (Int × Int)) (s : PSt V3), T.Pairwise (fun a b => a.1 < b.1) → (∀ r, r ∈ T → 0 ≤ r.1) →
    (T.foldl (putStep a g) s).l[i]? = if (i : Int) ∈ T.map (·.1) then (s.l[i]?).map (putPl a g) else s.l[i]?
  | [], s, _, _ => by simp
  | r :: T, s, hs, h0 => by
    rw [List.foldl_cons, putFold_get a g i T _ (List.pairwise_cons.1 hs).2 (fun q hq => h0 q (by simp [hq]))]
    have hr0 := h0 r (by simp)
    have hgt := (List.pairwise_cons.1 hs).1
    by_cases hi : (i : Int) ∈ T.map (·.1)
    · rw [if_pos hi, if_pos (by simp only [List.map_cons, List.mem_cons]; exact .inr hi)]
      obtain ⟨q, hq, hqi⟩ := List.mem_map.1 hi
      have := hgt q hq
      rw [putStep_at a g s r i (by omega)]
    · rw [if_neg hi]
      by_cases hri : (i : Int) = r.1
      · rw [if_pos (by simp only [List.map_cons, List.mem_cons]; exact .inl hri)]
        have e : r.1.toNat = i := by omega
        unfold putStep
        rw [e]
        cases hx : s.l[i]? with
        | none => simp [hx]
        | some x =>
          simp only [PSt.setAt, Option.map_some]
          have := (List.getElem?_eq_some_iff.1 hx).1
          rw [List.getElem?_set_self this]
          rfl
      · rw [if_neg (by simp only [List.map_cons, List.mem_cons]; exact fun h => h.elim hri hi), putStep_at a g s r i (by omega)]

theorem putAll_get {s : PSt V3} {a g b d : Int} (i : Nat) : (putAll a g s (listQ s b d (allTo s.l s.l.length))).l[i]? = (s.l[i]?).map fun x => if ofH b d x = true then putPl a g x else x := by
  unfold putAll
  rw [putFold_get a g i _ s (listQ_sorted _ _ _ _) listQ_pos]
  cases hx : s.l[i]? with
  | none => simp
  | some x =>
    simp only [Option.map_some]
    by_cases h : ofH b d x = true
    · rw [if_pos (List.mem_map.2 ⟨_, listQ_has hx h, rfl⟩), if_pos h]
    · rw [if_neg h, if_neg]
      intro hm
      obtain ⟨r, hr, hri⟩ := List.mem_map.1 hm
      obtain ⟨k, y, rfl, hy, h2⟩ := listQ_in hr
      obtain rfl : k = i := by simp only at hri; omega
      rw [hx] at hy
      injection hy with hy
      subst hy
      exact h h2

def clrPl (x : Pl V3) : Pl V3 := ⟨x.gen, false, ⟨0, 0, 0⟩⟩
theorem takeStep_same (st : PSt V3 × (Int → Option (Int × Int))) (r : Int × Int) : (takeStep st r).1.most = st.1.most ∧ (takeStep st r).1.l.length = st.1.l.length := by
  unfold takeStep
  split
  · simp [PSt.giveAt]
  · simp
theorem takeFold_same : ∀ (T : List (Int × Int)) (st : PSt V3 × (Int → Option (Int × Int))), (T.foldl takeStep st).1.most = st.1.most ∧ (T.foldl takeStep st).1.l.length = st.1.l.length
  | [], _ => ⟨rfl, rfl⟩
  | r :: T, st => by
    rw [List.foldl_cons]
    obtain ⟨h1, h3⟩ := takeFold_same T (takeStep st r)
    obtain ⟨k1, k3⟩ := takeStep_same st r
    exact ⟨h1.trans k1, h3.trans k3⟩
theorem takeFold_get (i : Nat) : ∀ (T : List (Int × Int)) (st : PSt V3 × (Int → Option (Int × Int))), T.Pairwise (fun a b => a.1 < b.1) → (∀ r, r ∈ T → 0 ≤ r.1) →
    (T.foldl takeStep st).1.l[i]? = if (i : Int) ∈ T.map (·.1) then (st.1.l[i]?).map clrPl else st.1.l[i]?
  | [], s, _, _ => by simp
  | r :: T, s, hs, h0 => by
    rw [List.foldl_cons, takeFold_get i T _ (List.pairwise_cons.1 hs).2 (fun q hq => h0 q (by simp [hq]))]
    have hr0 := h0 r (by simp)
    have hgt := (List.pairwise_cons.1 hs).1
    by_cases hi : (i : Int) ∈ T.map (·.1)
    · rw [if_pos hi, if_pos (by simp only [List.map_cons, List.mem_cons]; exact .inr hi)]
      obtain ⟨q, hq, hqi⟩ := List.mem_map.1 hi
      have := hgt q hq
      rw [takeStep_at s r i (by omega)]
    · rw [if_neg hi]
      by_cases hri : (i : Int) = r.1
      · rw [if_pos (by simp only [List.map_cons, List.mem_cons]; exact .inl hri)]
        have e : r.1.toNat = i := by omega
        unfold takeStep
        rw [e]
        cases hx : s.1.l[i]? with
        | none => simp [hx]
        | some x =>
          simp only [PSt.giveAt, Option.map_some]
          have := (List.getElem?_eq_some_iff.1 hx).1
          rw [List.getElem?_set_self this]
          rfl
      · rw [if_neg (by simp only [List.map_cons, List.mem_cons]; exact fun h => h.elim hri hi), takeStep_at s r i (by omega)]
theorem takeAll_get {s : PSt V3} {f : Int → Option (Int × Int)} {b d : Int} (i : Nat) : (takeAll s f (listQ s b d (allTo s.l s.l.length))).1.l[i]? = (s.l[i]?).map fun x => if ofH b d x = true then clrPl x else x := by
  unfold takeAll
  rw [takeFold_get i _ (s, f) (listQ_sorted _ _ _ _) listQ_pos]
  cases hx : s.l[i]? with
  | none => simp
  | some x =>
    simp only [Option.map_some]
    by_cases h : ofH b d x = true
    · rw [if_pos (List.mem_map.2 ⟨_, listQ_has hx h, rfl⟩), if_pos h]
    · rw [if_neg h, if_neg]
      intro hm
      obtain ⟨r, hr, hri⟩ := List.mem_map.1 hm
      obtain ⟨k, y, rfl, hy, h2⟩ := listQ_in hr
      obtain rfl : k = i := by simp only at hri; omega
      rw [hx] at hy
      injection hy with hy
      subst hy
      exact h h2
end Go.Proofs.Ytognmhgdegpdiaa

end
