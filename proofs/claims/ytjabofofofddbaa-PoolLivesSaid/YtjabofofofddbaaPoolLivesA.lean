/- PoolLives: what was told, as plain data. -/
import Derived.Test.YtjabofofofddbaaPoolA
namespace Go.Proofs.Ytjabofofofddbaa
open Go.RowKit
set_option linter.unusedVariables false
set_option linter.unusedSimpArgs false

/-- A Ref that was told: is it over, what its place has. -/
structure Told where
  at_ : Nat
  gen : Int
  over : Bool
  has : Int

structure LInv (s : PSt (Int × Int)) (T : List Told) (k : Int) : Prop where
  wf : s.WF
  refs : (T.map fun t => (t.at_, t.gen)).Nodup
  each : ∀ t ∈ T, 1 ≤ t.gen ∧ ∃ x : Pl (Int × Int), s.l[t.at_]? = some x ∧ t.gen ≤ x.gen ∧ (t.over = false → x.taken = true ∧ x.gen = t.gen ∧ x.v.1 = t.has) ∧ (t.over = true → t.gen < x.gen ∨ x.taken = false)
  gens : ∀ (i : Nat) (x : Pl (Int × Int)), s.l[i]? = some x → 1 ≤ x.gen ∧ x.gen ≤ k
  count : (T.filter fun t => !t.over).length + s.free.length = s.l.length

theorem LInv.mono {s : PSt (Int × Int)} {T : List Told} {k k' : Int} (h : LInv s T k) (hk : k ≤ k') : LInv s T k' :=
  ⟨h.wf, h.refs, h.each, fun i x hx => ⟨(h.gens i x hx).1, Int.le_trans (h.gens i x hx).2 hk⟩, h.count⟩
theorem LInv.empty (n : Nat) (hn : n ≤ 65536) (k : Int) : LInv ⟨n, [], []⟩ [] k := ⟨PSt.WF.empty n hn, by simp, by simp, by simp, by simp⟩

theorem LInv.look_over {s : PSt (Int × Int)} {T : List Told} {k : Int} (h : LInv s T k) {t : Told} (ht : t ∈ T) (ho : t.over = true) : s.look t.at_ t.gen = 23 := by
  obtain ⟨h1, x, hx, h2, _, h4⟩ := h.each t ht
  have hlt : t.at_ < s.l.length := (List.getElem?_eq_some_iff.1 hx).1
  unfold PSt.look
  rw [if_neg (by omega), Int.toNat_natCast, hx]
  simp only
  rw [if_neg (by omega), if_pos (h4 ho)]

theorem LInv.live {s : PSt (Int × Int)} {T : List Told} {k : Int} (h : LInv s T k) {t : Told} (ht : t ∈ T) (ho : t.over = false) : ∃ x : Pl (Int × Int), s.l[t.at_]? = some x ∧ x.taken = true ∧ x.gen = t.gen ∧ 1 ≤ x.gen ∧ x.v.1 = t.has := by
  obtain ⟨h1, x, hx, _, h3, _⟩ := h.each t ht
  obtain ⟨a, b, c⟩ := h3 ho
  exact ⟨x, hx, a, b, by omega, c⟩

theorem LInv.fresh {s : PSt (Int × Int)} {T : List Told} {k : Int} (h : LInv s T k) (v : Int × Int) (hf : s.free = []) (hlt : s.l.length < s.most) (hk : 0 ≤ k) :
    LInv (s.fresh v) (T ++ [⟨s.l.length, 1, false, v.1⟩]) (k + 1) ∧ ∀ t ∈ T, t.at_ ≠ s.l.length := by
  have hne : ∀ t ∈ T, t.at_ ≠ s.l.length := fun t ht e => by
    obtain ⟨_, x, hx, _⟩ := h.each t ht
    have := (List.getElem?_eq_some_iff.1 hx).1
    omega
  refine ⟨⟨h.wf.fresh v hlt, ?_, ?_, ?_, ?_⟩, hne⟩
  · rw [List.map_append, List.nodup_append]
    refine ⟨h.refs, by simp, fun a ha b hb e => ?_⟩
    simp at hb
    subst hb
    subst e
    obtain ⟨t, ht, he⟩ := List.mem_map.1 ha
    injection he with e1 _
    exact hne t ht e1
  · intro t ht
    rcases List.mem_append.1 ht with ht | ht
    · obtain ⟨h1, x, hx, h2⟩ := h.each t ht
      exact ⟨h1, x, by simp only [PSt.fresh]; rw [List.getElem?_append_left (List.getElem?_eq_some_iff.1 hx).1]; exact hx, h2⟩
    · simp at ht
      subst ht
      exact ⟨by simp, ⟨1, true, v⟩, by simp [PSt.fresh], by simp, by simp, by simp⟩
  · intro i x hx
    simp only [PSt.fresh] at hx
    rcases Nat.lt_or_ge i s.l.length with hi | hi
    · rw [List.getElem?_append_left hi] at hx
      have := h.gens i x hx
      omega
    · have h1 := (List.getElem?_eq_some_iff.1 hx).1
      rw [List.getElem?_append_right hi] at hx
      simp at h1
      have : i - s.l.length = 0 := by omega
      rw [this] at hx
      simp at hx
      subst hx
      simp
      omega
  · have := h.count
    simp only [PSt.fresh, List.filter_append, List.length_append]
    simp
    omega

theorem LInv.back {s : PSt (Int × Int)} {T : List Told} {k : Int} (h : LInv s T k) (v : Int × Int) {a : Nat} {fs : List Nat} {x : Pl (Int × Int)} (hf : s.free = fs ++ [a]) (hx : s.l[a]? = some x) (hk : k ≤ 1000) :
    wrap64 (x.gen + 1) = x.gen + 1 ∧ LInv (s.retake a fs x v) (T ++ [⟨a, x.gen + 1, false, v.1⟩]) (k + 1) ∧ ∀ t ∈ T, ¬ (t.at_ = a ∧ t.gen = x.gen + 1) := by
  have hg := h.gens a x hx
  have hw : wrap64 (x.gen + 1) = x.gen + 1 := by unfold wrap64; omega
  have hlt : a < s.l.length := (List.getElem?_eq_some_iff.1 hx).1
  have hfree : x.taken = false := by
    obtain ⟨y, hy, hy2⟩ := h.wf.free_lt (i := a) (by rw [hf]; simp)
    rw [hx] at hy
    injection hy with hy
    rwa [hy]
  have hne : ∀ t ∈ T, ¬ (t.at_ = a ∧ t.gen = x.gen + 1) := fun t ht ⟨e1, e2⟩ => by
    obtain ⟨_, y, hy, h2, _⟩ := h.each t ht
    rw [e1, hx] at hy
    injection hy with hy
    subst hy
    omega
  refine ⟨hw, ⟨h.wf.retake v hf hx, ?_, ?_, ?_, ?_⟩, hne⟩
  · rw [List.map_append, List.nodup_append]
    refine ⟨h.refs, by simp, fun p hp b hb e => ?_⟩
    simp at hb
    subst hb
    subst e
    obtain ⟨t, ht, he⟩ := List.mem_map.1 hp
    injection he with e1 e2
    exact hne t ht ⟨e1, e2⟩
  · intro t ht
    rcases List.mem_append.1 ht with ht | ht
    · obtain ⟨h1, y, hy, h2, h3, h4⟩ := h.each t ht
      by_cases he : t.at_ = a
      · rw [he, hx] at hy
        injection hy with hy
        subst hy
        refine ⟨h1, ⟨x.gen + 1, true, v⟩, by simp only [PSt.retake, hw]; rw [he, List.getElem?_set_self hlt], by simp only; omega, fun ho => ?_, fun _ => .inl (by simp only; omega)⟩
        have := (h3 ho).1
        rw [hfree] at this
        cases this
      · exact ⟨h1, y, by simp only [PSt.retake]; rw [List.getElem?_set_ne (fun e => he e.symm)]; exact hy, h2, h3, h4⟩
    · simp at ht
      subst ht
      exact ⟨by simp only; omega, ⟨x.gen + 1, true, v⟩, by simp only [PSt.retake, hw]; rw [List.getElem?_set_self hlt], by simp, by simp, by simp⟩
  · intro i y hy
    simp only [PSt.retake] at hy
    by_cases he : a = i
    · subst he
      rw [List.getElem?_set_self hlt] at hy
      injection hy with hy
      subst hy
      simp only [hw]
      omega
    · rw [List.getElem?_set_ne he] at hy
      have := h.gens i y hy
      omega
  · have := h.count
    rw [hf] at this
    simp only [PSt.retake, List.filter_append, List.length_append, List.length_set] at this ⊢
    simp at this ⊢
    omega

theorem filter_set_over : ∀ (T : List Told) (j : Nat) (t : Told), T[j]? = some t → t.over = false → (T.filter fun t => !t.over).length = ((T.set j { t with over := true }).filter fun t => !t.over).length + 1
  | [], j, t, h, _ => by simp at h
  | u :: T, 0, t, h, ho => by
    simp at h
    subst h
    simp [ho]
  | u :: T, j + 1, t, h, ho => by
    simp at h
    have ih := filter_set_over T j t h ho
    simp only [List.set_cons_succ, List.filter_cons]
    split
    · simp only [List.length_cons]
      omega
    · exact ih

theorem LInv.give {s : PSt (Int × Int)} {T : List Told} {k : Int} (h : LInv s T k) {j : Nat} {t : Told} (hj : T[j]? = some t) (ho : t.over = false) {x : Pl (Int × Int)} (hx : s.l[t.at_]? = some x) (z : Int × Int) :
    LInv (s.giveAt t.at_ x z) (T.set j { t with over := true }) k := by
  have htm : t ∈ T := List.mem_of_getElem? hj
  have hlt : t.at_ < s.l.length := (List.getElem?_eq_some_iff.1 hx).1
  obtain ⟨_, y, hy, _, hl, _⟩ := h.each t htm
  rw [hx] at hy
  injection hy with hy
  subst hy
  obtain ⟨ht1, ht2, _⟩ := hl ho
  have hmap : (T.set j { t with over := true }).map (fun t => (t.at_, t.gen)) = T.map fun t => (t.at_, t.gen) := by
    rw [List.map_set]
    apply List.ext_getElem?
    intro i
    by_cases hi : j = i
    · subst hi
      rw [List.getElem?_set_self (by rw [List.length_map]; exact (List.getElem?_eq_some_iff.1 hj).1), List.getElem?_map, hj]
      rfl
    · rw [List.getElem?_set_ne hi]
  refine ⟨h.wf.giveAt z hx ht1, by rw [hmap]; exact h.refs, ?_, ?_, ?_⟩
  · intro u hu
    obtain ⟨i, hi⟩ := List.getElem?_of_mem hu
    by_cases hij : j = i
    · subst hij
      rw [List.getElem?_set_self (List.getElem?_eq_some_iff.1 hj).1] at hi
      injection hi with hi
      subst hi
      exact ⟨by have := (h.each t htm).1; exact this, ⟨x.gen, false, z⟩, by simp only [PSt.giveAt]; rw [List.getElem?_set_self hlt], by simp only; omega, by simp, by simp⟩
    · rw [List.getElem?_set_ne hij] at hi
      obtain ⟨h1, y, hy, h2, h3, h4⟩ := h.each u (List.mem_of_getElem? hi)
      by_cases he : u.at_ = t.at_
      · rw [he, hx] at hy
        injection hy with hy
        subst hy
        have hne : u.gen ≠ t.gen := fun e => hij (by
          have hn := h.refs
          have hj' : (T.map fun t => (t.at_, t.gen))[j]? = some (t.at_, t.gen) := by rw [List.getElem?_map, hj]; rfl
          have hi' : (T.map fun t => (t.at_, t.gen))[i]? = some (t.at_, t.gen) := by rw [List.getElem?_map, hi, ← he, ← e]; rfl
          exact (List.getElem?_inj (List.getElem?_eq_some_iff.1 hj').1 hn).1 (hj'.trans hi'.symm))
        refine ⟨h1, ⟨x.gen, false, z⟩, by simp only [PSt.giveAt]; rw [he, List.getElem?_set_self hlt], h2, fun ho2 => ?_, fun _ => .inr rfl⟩
        have := (h3 ho2).2.1
        omega
      · exact ⟨h1, y, by simp only [PSt.giveAt]; rw [List.getElem?_set_ne (fun e => he e.symm)]; exact hy, h2, h3, h4⟩
  · intro i y hy
    simp only [PSt.giveAt] at hy
    by_cases he : t.at_ = i
    · subst he
      rw [List.getElem?_set_self hlt] at hy
      injection hy with hy
      subst hy
      exact h.gens _ x hx
    · rw [List.getElem?_set_ne he] at hy
      exact h.gens i y hy
  · have := h.count
    have h2 := filter_set_over T j t hj ho
    simp only [PSt.giveAt, List.length_append, List.length_set, List.length_singleton]
    omega
/-- How many of the first j are not over. -/
def cnt (T : List Told) (j : Nat) : Nat := ((T.take j).filter fun t => !t.over).length
theorem cnt_over {T : List Told} {j : Nat} {t : Told} (h : T[j]? = some t) (ho : t.over = true) : cnt T (j + 1) = cnt T j := by
  simp [cnt, List.take_add_one, h, ho]
theorem cnt_live {T : List Told} {j : Nat} {t : Told} (h : T[j]? = some t) (ho : t.over = false) : cnt T (j + 1) = cnt T j + 1 := by
  simp [cnt, List.take_add_one, h, ho]
theorem LInv.cnt_all {s : PSt (Int × Int)} {T : List Told} {k : Int} (h : LInv s T k) : cnt T T.length + s.free.length = s.l.length := by
  have := h.count
  rw [cnt, List.take_length]
  exact this
end Go.Proofs.Ytjabofofofddbaa
