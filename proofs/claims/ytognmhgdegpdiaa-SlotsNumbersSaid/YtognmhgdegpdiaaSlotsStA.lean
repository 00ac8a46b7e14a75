import Derived.Test.YtognmhgdegpdiaaSlotsChA
/- The table of slots: the map tells each item by its cell. Then the statement SlotsStale: the state as plain data. -/
namespace Go.Proofs.Ytognmhgdegpdiaa
open Go.RowKit
set_option linter.unusedVariables false
set_option linter.unusedSimpArgs false

/-- The map has each item that is there at its cell, and no other. -/
structure MapOk (si : PSt V3) (f : Int → Option (Int × Int)) : Prop where
  has : ∀ (i : Nat) (x : Pl V3), si.l[i]? = some x → x.taken = true → f x.v.a = some ((i : Int), x.gen)
  back : ∀ (c : Int) (p : Int × Int), f c = some p → ∃ (i : Nat) (x : Pl V3), si.l[i]? = some x ∧ x.taken = true ∧ x.v.a = c ∧ p = ((i : Int), x.gen)

theorem MapOk.none_ {si : PSt V3} {f : Int → Option (Int × Int)} (h : MapOk si f) {c : Int} (hc : ∀ (i : Nat) (x : Pl V3), si.l[i]? = some x → x.taken = true → x.v.a ≠ c) : f c = none := by
  cases hf : f c with
  | none => rfl
  | some p =>
    obtain ⟨i, x, hx, ht, he, _⟩ := h.back c p hf
    exact absurd he (hc i x hx ht)

/-- An item goes. -/
theorem MapOk.give {si : PSt V3} {f : Int → Option (Int × Int)} (h : MapOk si f) {i : Nat} {x : Pl V3} (hx : si.l[i]? = some x) (ht : x.taken = true) : MapOk (si.giveAt i x ⟨0, 0, 0⟩) (upd f x.v.a none) := by
  have hi := (List.getElem?_eq_some_iff.1 hx).1
  refine ⟨fun k y hk hy => ?_, fun c p hp => ?_⟩
  · simp only [PSt.giveAt] at hk
    by_cases hik : i = k
    · subst hik
      rw [List.getElem?_set_self hi] at hk
      injection hk with hk
      subst hk
      cases hy
    · rw [List.getElem?_set_ne hik] at hk
      have h1 := h.has k y hk hy
      unfold upd
      by_cases hc : y.v.a = x.v.a
      · have h2 := h.has i x hx ht
        rw [hc, h2] at h1
        injection h1 with h1
        have : (i : Int) = k := congrArg Prod.fst h1
        omega
      · rw [if_neg hc]; exact h1
  · unfold upd at hp
    by_cases hc : c = x.v.a
    · rw [if_pos hc] at hp; cases hp
    · rw [if_neg hc] at hp
      obtain ⟨k, y, hy, hty, hya, rfl⟩ := h.back c p hp
      have hik : i ≠ k := fun e => by
        subst e
        rw [hx] at hy
        injection hy with hy
        subst hy
        exact hc hya.symm
      exact ⟨k, y, by simp only [PSt.giveAt]; rw [List.getElem?_set_ne hik]; exact hy, hty, hya, rfl⟩

/-- What is told of an item changes, its cell does not. -/
theorem MapOk.set {si : PSt V3} {f : Int → Option (Int × Int)} (h : MapOk si f) {si' : PSt V3} (hs : ∀ i : Nat, (si'.l[i]?).map (fun x : Pl V3 => (x.gen, x.taken, x.v.a)) = (si.l[i]?).map (fun x : Pl V3 => (x.gen, x.taken, x.v.a))) : MapOk si' f := by
  refine ⟨fun k y hk hy => ?_, fun c p hp => ?_⟩
  · have := hs k
    rw [hk] at this
    cases hx : si.l[k]? with
    | none => rw [hx] at this; cases this
    | some x =>
      rw [hx] at this
      simp only [Option.map_some, Option.some.injEq, Prod.mk.injEq] at this
      rw [this.2.2, this.1]
      exact h.has k x hx (by rw [← this.2.1]; exact hy)
  · obtain ⟨k, y, hy, hty, hya, rfl⟩ := h.back c p hp
    have := hs k
    rw [hy] at this
    cases hx : si'.l[k]? with
    | none => rw [hx] at this; cases this
    | some x =>
      rw [hx] at this
      simp only [Option.map_some, Option.some.injEq, Prod.mk.injEq] at this
      exact ⟨k, x, hx, by rw [this.2.1]; exact hty, this.2.2.trans hya, by rw [this.1]⟩

/-- A new item comes. -/
theorem MapOk.add {si si' : PSt V3} {f : Int → Option (Int × Int)} {c : Int} {i : Nat} {x : Pl V3} (h : MapOk si f) (hc : f c = none) (hi : si'.l[i]? = some x) (hx : x.taken = true) (hv : x.v.a = c)
    (ho : ∀ k, k ≠ i → si'.l[k]? = si.l[k]?) (hn : ∀ y, si.l[i]? = some y → y.taken = false) : MapOk si' (upd f c (some ((i : Int), x.gen))) := by
  refine ⟨fun k y hk hy => ?_, fun d p hp => ?_⟩
  · unfold upd
    by_cases hik : k = i
    · subst hik
      rw [hi] at hk
      injection hk with hk
      subst hk
      rw [if_pos hv]
    · rw [ho k hik] at hk
      have h1 := h.has k y hk hy
      rw [if_neg]
      · exact h1
      · intro e
        rw [e, hc] at h1
        cases h1
  · unfold upd at hp
    by_cases hd : d = c
    · rw [if_pos hd] at hp
      injection hp with hp
      exact ⟨i, x, hi, hx, hv.trans hd.symm, hp.symm⟩
    · rw [if_neg hd] at hp
      obtain ⟨k, y, hy, hty, hya, rfl⟩ := h.back d p hp
      have hik : k ≠ i := fun e => by
        subst e
        rw [hn y hy] at hty
        cases hty
      exact ⟨k, y, by rw [ho k hik]; exact hy, hty, hya, rfl⟩

/-- Several go. -/
theorem MapOk.gives : ∀ (T : List (Int × Int)) (st : PSt V3 × (Int → Option (Int × Int))), T.Pairwise (fun a b => a.1 < b.1) → (∀ r, r ∈ T → ∃ (i : Nat) (x : Pl V3), r = ((i : Int), x.gen) ∧ st.1.l[i]? = some x ∧ x.taken = true) → MapOk st.1 st.2 →
    MapOk (T.foldl takeStep st).1 (T.foldl takeStep st).2
  | [], st, _, _, h => h
  | r :: T, st, hs, ha, h => by
    rw [List.foldl_cons]
    obtain ⟨i, x, rfl, hx, ht⟩ := ha r (by simp)
    have hstep : takeStep st ((i : Int), x.gen) = (st.1.giveAt i x ⟨0, 0, 0⟩, upd st.2 x.v.a none) := by
      unfold takeStep
      simp only [Int.toNat_natCast, hx]
    rw [hstep]
    refine MapOk.gives T _ (List.pairwise_cons.1 hs).2 (fun q hq => ?_) (h.give hx ht)
    obtain ⟨k, y, rfl, hy, hty⟩ := ha q (by simp [hq])
    have hlt := (List.pairwise_cons.1 hs).1 _ hq
    simp only at hlt
    refine ⟨k, y, rfl, ?_, hty⟩
    simp only [PSt.giveAt]
    rw [List.getElem?_set_ne (by omega)]
    exact hy
theorem MapOk.ends {si : PSt V3} {f : Int → Option (Int × Int)} {a g : Int} (h : MapOk si f) : MapOk (takeAll si f (listQ si a g (allTo si.l si.l.length))).1 (takeAll si f (listQ si a g (allTo si.l si.l.length))).2 := by
  refine MapOk.gives _ (si, f) (listQ_sorted _ _ _ _) (fun r hr => ?_) h
  obtain ⟨i, x, hr, hx, ho⟩ := listQ_in hr
  unfold ofH at ho
  rw [Bool.and_eq_true] at ho
  exact ⟨i, x, hr, hx, ho.1⟩

/-- The items of SlotsStale: n of them, some of them gone. -/
def stPl (G : Nat → Bool) (i : Nat) : Pl V3 := if G i = true then ⟨1, false, ⟨0, 0, 0⟩⟩ else ⟨1, true, ⟨(i : Int), ((i % 3 : Nat) : Int), 1⟩⟩
structure StInv (n : Nat) (G : Nat → Bool) (si : PSt V3) (f : Int → Option (Int × Int)) : Prop where
  most : si.most = 30
  len : si.l.length = n
  get : ∀ i, i < n → si.l[i]? = some (stPl G i)
  map : MapOk si f
theorem stPl_in {G : Nat → Bool} {i : Nat} (h : G i = false) : stPl G i = ⟨1, true, ⟨(i : Int), ((i % 3 : Nat) : Int), 1⟩⟩ := by unfold stPl; rw [h]; rfl
theorem stPl_out {G : Nat → Bool} {i : Nat} (h : G i = true) : stPl G i = ⟨1, false, ⟨0, 0, 0⟩⟩ := by unfold stPl; rw [h]; rfl
theorem StInv.get_ {n : Nat} {G : Nat → Bool} {si : PSt V3} {f : Int → Option (Int × Int)} (h : StInv n G si f) {i : Nat} {x : Pl V3} (hx : si.l[i]? = some x) : i < n ∧ x = stPl G i := by
  have hi : i < n := by rw [← h.len]; exact (List.getElem?_eq_some_iff.1 hx).1
  have := h.get i hi
  rw [hx] at this
  injection this with this
  exact ⟨hi, this⟩
theorem StInv.gens {n : Nat} {G : Nat → Bool} {si : PSt V3} {f : Int → Option (Int × Int)} (h : StInv n G si f) : GensOk si := fun i x hx _ => by
  obtain ⟨_, rfl⟩ := h.get_ hx
  unfold stPl
  split <;> exact Int.le_refl 1
theorem StInv.cells {n : Nat} {G : Nat → Bool} {si : PSt V3} {f : Int → Option (Int × Int)} (h : StInv n G si f) (hn : n ≤ 20) : CellsOk si := fun i x hx ht => by
  obtain ⟨hi, rfl⟩ := h.get_ hx
  unfold stPl at ht ⊢
  split
  · simp_all
  · unfold in64; simp only; omega
theorem StInv.start : StInv 0 (fun _ => false) ⟨30, [], []⟩ (fun _ => none) := ⟨rfl, rfl, fun i hi => absurd hi (by omega), ⟨fun i x hx => by simp at hx, fun c p hp => by cases hp⟩⟩

/-- The heaps of SlotsStale. -/
def stH (n : Nat) : List (Pl V3) := List.replicate n ⟨1, true, ⟨2, -1, 0⟩⟩
theorem stH_len (n : Nat) : (stH n).length = n := by simp [stH]
theorem stH_get {n k : Nat} (h : k < n) : (stH n)[k]? = some ⟨1, true, ⟨2, -1, 0⟩⟩ := by
  unfold stH
  rw [List.getElem?_replicate, if_pos h]
theorem stH_make {k : Nat} {sh' : PSt V3} {a g e0 : Int} (hk : k < 3) (hm : MakeR ⟨64, stH k, []⟩ 2 a g e0 sh') : a = k ∧ g = 1 ∧ e0 = 0 ∧ sh' = ⟨64, stH (k + 1), []⟩ := by
  rcases hm with ⟨h1, _⟩ | ⟨_, ok, ht, rfl⟩
  · simp at h1
  · have hl := stH_len k
    rcases ht with ⟨_, h1, _⟩ | ⟨_, _, h1, rfl, rfl, rfl⟩ | ⟨i, fs, x, h1, _⟩
    · simp only [hl] at h1; omega
    · simp only [hl] at h1
      exact ⟨h1, rfl, rfl, by rw [show stH (k + 1) = stH k ++ [⟨1, true, ⟨2, -1, 0⟩⟩] from List.replicate_succ']; rfl⟩
    · simp at h1

theorem StInv.put {k : Nat} {si si' : PSt V3} {f f' : Int → Option (Int × Int)} {u v e0 : Int} (h : StInv k (fun _ => false) si f) (hfr : si.free = []) (hk : k < 20) (hp : PutR ⟨64, stH 3, []⟩ si f ((k % 3 : Nat) : Int) 1 (k : Int) u v e0 si' f') :
    u = k ∧ v = 1 ∧ e0 = 0 ∧ StInv (k + 1) (fun _ => false) si' f' ∧ si'.free = [] := by
  have hl := h.len
  have hm := h.most
  have hk3 : k % 3 < 3 := Nat.mod_lt _ (by omega)
  have hnone : f (k : Int) = none := h.map.none_ fun i x hx ht => by
    obtain ⟨hi, rfl⟩ := h.get_ hx
    rw [stPl_in rfl]
    simp only
    omega
  rcases hp with ⟨h1, h2, _⟩ | ⟨i, x, hi, hg, hx, _, _, hp⟩
  · have := look_ok (s := ⟨64, stH 3, []⟩) (stH_get hk3) rfl (by decide)
    exact absurd (h2.symm.trans this) h1
  · rcases hp with ⟨h1, _⟩ | ⟨_, h1, _⟩ | ⟨_, _, rfl, ht, rfl⟩
    · rw [hl, hm, hfr] at h1; simp at h1; omega
    · rw [hnone] at h1; cases h1
    · rcases ht with ⟨_, _, _, _, h1, _⟩ | ⟨_, _, h1, rfl, _, rfl⟩ | ⟨i, fs, x, h1, _⟩
      · cases h1
      · rw [hl] at h1
        subst h1
        have hself : (si.l ++ [(⟨1, true, ⟨(k : Int), ((k % 3 : Nat) : Int), 1⟩⟩ : Pl V3)])[k]? = some ⟨1, true, ⟨(k : Int), ((k % 3 : Nat) : Int), 1⟩⟩ := by
          rw [List.getElem?_append_right (by omega), hl, Nat.sub_self]; rfl
        have hoth : ∀ j, j ≠ k → (si.l ++ [(⟨1, true, ⟨(k : Int), ((k % 3 : Nat) : Int), 1⟩⟩ : Pl V3)])[j]? = si.l[j]? := fun j hj => by
          rcases Nat.lt_or_ge j k with h1 | h1
          · rw [List.getElem?_append_left (by omega)]
          · rw [List.getElem?_eq_none (by simp; omega), List.getElem?_eq_none (by omega)]
        refine ⟨rfl, rfl, rfl, ⟨hm, by simp [PSt.fresh, hl], fun j hj => ?_, ?_⟩, hfr⟩
        · simp only [PSt.fresh]
          by_cases hjk : j = k
          · subst hjk; rw [hself, stPl_in rfl]
          · rw [hoth j hjk]; exact h.get j (by omega)
        · exact h.map.add (x := ⟨1, true, ⟨(k : Int), ((k % 3 : Nat) : Int), 1⟩⟩) hnone hself rfl rfl hoth fun y hy => by rw [List.getElem?_eq_none (by omega)] at hy; cases hy
      · rw [hfr] at h1; simp at h1

theorem StInv.take {n k : Nat} {G : Nat → Bool} {si si' : PSt V3} {f : Int → Option (Int × Int)} {v : V3} {e0 : Int} (h : StInv n G si f) (hk : k < n) (ht : GiveR ⟨0, 0, 0⟩ si (k : Int) 1 v e0 si') :
    ((G k = true ∧ e0 = 23) ∨ (G k = false ∧ e0 = 0 ∧ v.a = k)) ∧ StInv n (fun i => G i || (i == k)) si' (if e0 = 0 then upd f v.a none else f) := by
  have hx := h.get k hk
  cases hG : G k with
  | true =>
    have hlook : si.look (k : Int) 1 = 23 := by
      rw [stPl_out hG] at hx
      unfold PSt.look
      rw [if_neg (by rw [h.len]; omega)]
      simp [hx]
    rcases ht with ⟨h1, h2, rfl, rfl⟩ | ⟨i, x, hi, hg, hx', hxt, _⟩
    · obtain rfl : e0 = 23 := h2.symm.trans hlook
      refine ⟨.inl ⟨rfl, rfl⟩, ?_⟩
      rw [if_neg (by omega)]
      have : (fun i => G i || (i == k)) = G := funext fun i => by
        by_cases hik : i = k
        · subst hik; simp [hG]
        · simp [hik]
      rw [this]
      exact h
    · obtain rfl : k = i := by omega
      rw [hx] at hx'
      injection hx' with hx'
      subst hx'
      rw [stPl_out hG] at hxt
      cases hxt
  | false =>
    rw [stPl_in hG] at hx
    obtain ⟨rfl, rfl, rfl⟩ := GiveR.ok hx rfl (Int.le_refl 1) ht
    refine ⟨.inr ⟨rfl, rfl, rfl⟩, ⟨h.most, by simp [PSt.giveAt, h.len], fun i hi => ?_, ?_⟩⟩
    · simp only [PSt.giveAt]
      by_cases hik : k = i
      · subst hik
        rw [List.getElem?_set_self (by rw [h.len]; exact hk)]
        rw [stPl_out (by simp)]
      · rw [List.getElem?_set_ne hik, h.get i hi]
        unfold stPl
        have : (i == k) = false := by simp; omega
        simp only [this, Bool.or_false]
    · exact h.map.give hx rfl

theorem refEq_stale (i d : Nat) : refEq (i : Int) 1 (d : Int) 1 = (i == d) := by
  rw [Bool.eq_iff_iff, refEq_true, beq_iff_eq]
  constructor
  · rintro ⟨h, _⟩; omega
  · rintro rfl; exact ⟨rfl, rfl⟩

theorem StInv.end_ {n d : Nat} {G : Nat → Bool} {si si' sh' : PSt V3} {f f' : Int → Option (Int × Int)} {e0 : Int} (h : StInv n G si f) (hd : d < 3) (he : EndR ⟨64, stH 3, []⟩ si f (d : Int) 1 e0 sh' si' f') :
    e0 = 0 ∧ sh' = (⟨64, stH 3, []⟩ : PSt V3).giveAt d ⟨1, true, ⟨2, -1, 0⟩⟩ ⟨0, 0, 0⟩ ∧ StInv n (fun i => G i || (i % 3 == d)) si' f' := by
  rcases he with ⟨h1, h2, _⟩ | ⟨i, x, hi, hg, hx, _, _, rfl, rfl, hst⟩
  · exact absurd (h2.symm.trans (look_ok (s := ⟨64, stH 3, []⟩) (stH_get hd) rfl (by decide))) h1
  · obtain rfl : d = i := by omega
    rw [stH_get hd] at hx
    injection hx with hx
    subst hx
    have e1 : si' = (takeAll si f (listQ si (d : Int) 1 (allTo si.l si.l.length))).1 := congrArg Prod.fst hst
    have e2 : f' = (takeAll si f (listQ si (d : Int) 1 (allTo si.l si.l.length))).2 := congrArg Prod.snd hst
    subst e1
    subst e2
    have hs := takeFold_same (listQ si (d : Int) 1 (allTo si.l si.l.length)) (si, f)
    refine ⟨rfl, rfl, ⟨hs.1.trans h.most, hs.2.trans h.len, fun i hi => ?_, h.map.ends⟩⟩
    rw [takeAll_get, h.get i hi]
    simp only [Option.map_some, Option.some.injEq]
    cases hG : G i with
    | true =>
      rw [stPl_out hG, stPl_out (by simp [hG])]
      simp [ofH]
    | false =>
      rw [stPl_in hG]
      simp only [ofH, Bool.true_and, refEq_stale]
      by_cases hid : i % 3 = d
      · rw [stPl_out (by simp [hid])]
        rw [if_pos (by simp [hid])]
        rfl
      · rw [stPl_in (by simp [hG, hid])]
        rw [if_neg (by simp [hid])]

theorem stale_again {d : Nat} (hd : d < 3) : ((⟨64, stH 3, []⟩ : PSt V3).giveAt d ⟨1, true, ⟨2, -1, 0⟩⟩ ⟨0, 0, 0⟩).look (d : Int) 1 = 23 := by
  unfold PSt.look
  simp only [PSt.giveAt, List.length_set, stH_len]
  rw [if_neg (by omega)]
  simp only [Int.toNat_natCast]
  rw [List.getElem?_set_self (by rw [stH_len]; omega)]
  simp

/-- What the table tells of an item, and of its cell. -/
theorem StInv.tell {n i : Nat} {G : Nat → Bool} {si : PSt V3} {f : Int → Option (Int × Int)} (h : StInv n G si f) (hi : i < n) {v v2 : V3} {e0 e2 : Int} (h1 : GetR ⟨0, 0, 0⟩ si (i : Int) 1 v e0) (h2 : GetR ⟨0, 0, 0⟩ si (i : Int) 1 v2 e2) :
    (G i = true ∧ e0 = 23 ∧ e2 = 23 ∧ (f (i : Int)).isSome = false) ∨ (G i = false ∧ e0 = 0 ∧ e2 = 0 ∧ v.a = i ∧ (f (i : Int)).isSome = true) := by
  have hx := h.get i hi
  cases hG : G i with
  | true =>
    refine .inl ⟨rfl, ?_, ?_, ?_⟩
    · rw [stPl_out hG] at hx
      have hlook : si.look (i : Int) 1 = 23 := by
        unfold PSt.look
        rw [if_neg (by rw [h.len]; omega)]
        simp [hx]
      exact (h1.bad hlook (by decide)).1
    · rw [stPl_out hG] at hx
      have hlook : si.look (i : Int) 1 = 23 := by
        unfold PSt.look
        rw [if_neg (by rw [h.len]; omega)]
        simp [hx]
      exact (h2.bad hlook (by decide)).1
    · rw [h.map.none_ fun k y hy ht => ?_]
      · rfl
      · obtain ⟨hk, rfl⟩ := h.get_ hy
        unfold stPl at ht ⊢
        split
        · simp_all
        · simp only
          intro e
          obtain rfl : k = i := by omega
          simp_all
  | false =>
    rw [stPl_in hG] at hx
    have hh := h.map.has i _ hx rfl
    simp only at hh
    obtain ⟨a1, a2⟩ := GetR.ok hx rfl (Int.le_refl 1) h1
    obtain ⟨b1, b2⟩ := GetR.ok hx rfl (Int.le_refl 1) h2
    exact .inr ⟨rfl, a1, b1, by rw [a2], by rw [hh]; rfl⟩

theorem StInv.all_succ {n i : Nat} {G : Nat → Bool} {si : PSt V3} {f : Int → Option (Int × Int)} (h : StInv n G si f) (hi : i < n) : (allTo si.l (i + 1)).length = (allTo si.l i).length + if G i = true then 0 else 1 := by
  have hx := h.get i hi
  cases hG : G i with
  | true => rw [allTo_out hx (by rw [stPl_out hG])]; rfl
  | false => rw [allTo_in hx (by rw [stPl_in hG])]; simp
theorem StInv.all {n : Nat} {G : Nat → Bool} {si : PSt V3} {f : Int → Option (Int × Int)} (h : StInv n G si f) (hw : si.WF) : (si.l.length : Int) - si.free.length = ((allTo si.l n).length : Int) := by
  have := hw.all_len
  rw [h.len] at this
  rw [h.len]
  omega
end Go.Proofs.Ytognmhgdegpdiaa
