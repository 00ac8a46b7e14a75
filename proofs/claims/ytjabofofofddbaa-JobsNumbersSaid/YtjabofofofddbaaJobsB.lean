/- Tables of jobs as plain data: counts over places; the state of the statement JobsFind. -/
import Derived.Test.YtjabofofofddbaaJobs5
namespace Go.Proofs.Ytjabofofofddbaa
open Go.RowKit
set_option linter.unusedVariables false
set_option linter.unusedSimpArgs false

theorem take_succ_of {α : Type} {l : List α} {j : Nat} {x : α} (h : l[j]? = some x) : l.take (j + 1) = l.take j ++ [x] := by
  rw [List.take_add_one, h]
  rfl
theorem cnt_to (s : PSt V5) (q : Int) : ∀ j, j ≤ s.l.length → cntQ s q (allTo s.l j) = (s.l.take j).countP fun x => x.taken && x.v.a == q
  | 0, _ => by simp [allTo_zero, cntQ]
  | j + 1, hj => by
    obtain ⟨x, hx⟩ : ∃ x, s.l[j]? = some x := ⟨_, List.getElem?_eq_getElem (by omega)⟩
    have ih := cnt_to s q j (by omega)
    rw [take_succ_of hx, List.countP_append, List.countP_singleton, ← ih]
    cases ht : x.taken with
    | false => rw [allTo_out hx ht]; simp
    | true =>
      rw [allTo_in hx ht, cntQ, List.countP_append, List.countP_singleton]
      have : isQ s q ((j : Int), x.gen) = (x.v.a == q) := by simp [isQ, hx]
      rw [this]
      simp [cntQ]
theorem cnt_all (s : PSt V5) (q : Int) : cntQ s q (allTo s.l s.l.length) = s.l.countP fun x => x.taken && x.v.a == q := by
  have := cnt_to s q s.l.length (Nat.le_refl _)
  rwa [List.take_length] at this
theorem len_to {α : Type} (l : List (Pl α)) : ∀ j, j ≤ l.length → (allTo l j).length = (l.take j).countP fun x => x.taken
  | 0, _ => by simp [allTo_zero]
  | j + 1, hj => by
    obtain ⟨x, hx⟩ : ∃ x, l[j]? = some x := ⟨_, List.getElem?_eq_getElem (by omega)⟩
    have ih := len_to l j (by omega)
    rw [take_succ_of hx, List.countP_append, List.countP_singleton, ← ih]
    cases ht : x.taken with
    | false => rw [allTo_out hx ht]; simp
    | true => rw [allTo_in hx ht]; simp
theorem len_all {α : Type} (l : List (Pl α)) : (allTo l l.length).length = l.countP fun x => x.taken := by
  have := len_to l l.length (Nat.le_refl _)
  rwa [List.take_length] at this

def mvP (a b : Int) (x : Pl V5) : Pl V5 := if x.taken = true ∧ x.v.a = a then ⟨x.gen, x.taken, ⟨b, x.v.b, x.v.c, x.v.d, x.v.e⟩⟩ else x
theorem move_to (a b : Int) (s : PSt V5) : ∀ j, j ≤ s.l.length → moveTo a b s (allTo s.l j) = ({ s with l := (s.l.take j).map (mvP a b) ++ s.l.drop j }, (s.l.take j).countP fun x => x.taken && x.v.a == a)
  | 0, _ => by simp [allTo_zero, moveTo]
  | j + 1, hj => by
    obtain ⟨x, hx⟩ : ∃ x, s.l[j]? = some x := ⟨_, List.getElem?_eq_getElem (by omega)⟩
    have ih := move_to a b s j (by omega)
    have hjl : j < s.l.length := by omega
    have hd : s.l.drop j = x :: s.l.drop (j + 1) := by
      rw [List.drop_eq_getElem_cons hjl]
      rw [List.getElem?_eq_getElem hjl] at hx
      injection hx with hx
      rw [hx]
    have htl : ((s.l.take j).map (mvP a b)).length = j := by simp; omega
    rw [take_succ_of hx, List.map_append, List.countP_append, List.countP_singleton, List.map_singleton, List.append_assoc, List.singleton_append]
    cases ht : x.taken with
    | false =>
      rw [allTo_out hx ht, ih, hd]
      have : mvP a b x = x := by simp [mvP, ht]
      rw [this]
      simp
    | true =>
      rw [allTo_in hx ht, moveTo, List.foldl_append]
      show moveStep a b (moveTo a b s (allTo s.l j)) ((j : Int), x.gen) = _
      rw [ih, hd]
      have hg : ((s.l.take j).map (mvP a b) ++ x :: s.l.drop (j + 1))[j]? = some x := by
        rw [List.getElem?_append_right (by omega), htl]
        simp
      unfold moveStep
      simp only [Int.toNat_natCast, hg]
      by_cases hq : x.v.a = a
      · have hm : mvP a b x = ⟨x.gen, x.taken, ⟨b, x.v.b, x.v.c, x.v.d, x.v.e⟩⟩ := by simp [mvP, ht, hq]
        rw [if_pos hq, hm]
        simp only [PSt.setAt, ht, hq, beq_self_eq_true, Bool.and_self, if_true, Prod.mk.injEq, and_true]
        rw [List.set_append_right _ _ (by omega), htl, Nat.sub_self, List.set_cons_zero]
      · have hm : mvP a b x = x := by simp [mvP, hq]
        rw [if_neg hq, hm]
        simp [hq]
theorem move_all (a b : Int) (s : PSt V5) : moveTo a b s (allTo s.l s.l.length) = ({ s with l := s.l.map (mvP a b) }, s.l.countP fun x => x.taken && x.v.a == a) := by
  have := move_to a b s s.l.length (Nat.le_refl _)
  rw [List.take_length, List.drop_length, List.append_nil] at this
  exact this

/-- The job that JobsFind puts in as number i. -/
def jobI (G : Nat → Int) (i : Nat) : V5 := ⟨(i : Int) % 2, G i, i, i, 1 + (i : Int) % 3⟩
def findF (L : List Bool) (x : Int × Int) : Option (Int × Int) := if 0 ≤ x.1 ∧ x.2 = 1 + x.1 % 3 ∧ L[x.1.toNat]? = some true then some (x.1, 1) else none
structure FindInv (G : Nat → Int) (L : List Bool) (s : PSt V5) (f : Int × Int → Option (Int × Int)) : Prop where
  most : s.most = 30
  len : s.l.length = L.length
  le : L.length ≤ 25
  at_ : ∀ (i : Nat) (x : Pl V5), s.l[i]? = some x → x.gen = 1 ∧ L[i]? = some x.taken ∧ (x.taken = true → x.v = jobI G i)
  f : f = findF L
theorem FindInv.start (G : Nat → Int) : FindInv G [] ⟨30, [], []⟩ (fun _ => none) := ⟨rfl, rfl, by simp, by simp, by funext x; simp [findF]⟩
section
variable {G : Nat → Int} {L : List Bool} {s : PSt V5} {f : Int × Int → Option (Int × Int)}
theorem FindInv.gens (h : FindInv G L s f) : GensOk s := fun i x hx _ => by rw [(h.at_ i x hx).1]; decide
theorem FindInv.items (h : FindInv G L s f) : ItemsOk s := fun i x hx ht => by
  have hi := (List.getElem?_eq_some_iff.1 hx).1
  have h1 := h.le
  have h2 := h.len
  rw [(h.at_ i x hx).2.2 ht]
  simp only [jobI, in64]
  omega
/-- One more job. -/
theorem FindInv.add (h : FindInv G L s f) (hf : s.free = []) (hlt : L.length < 25) {a g e0 : Int} {s' : PSt V5} {f' : Int × Int → Option (Int × Int)} (hr : AddR s f (jobI G L.length) a g e0 s' f') :
    a = L.length ∧ g = 1 ∧ e0 = 0 ∧ s'.free = [] ∧ FindInv G (L ++ [true]) s' f' := by
  have hn : f ((jobI G L.length).d, (jobI G L.length).e) = none := by rw [h.f]; simp [findF, jobI]
  rcases hr with ⟨h1, _⟩ | ⟨_, h1, _⟩ | ⟨_, _, rfl, ht, rfl⟩
  · rw [hf, h.most, h.len] at h1; simp at h1; omega
  · rw [hn] at h1; cases h1
  · rcases ht with ⟨_, _, _, _, h1, _⟩ | ⟨_, _, rfl, rfl, _, rfl⟩ | ⟨i, fs, x, h1, _⟩
    · cases h1
    · refine ⟨by rw [h.len], rfl, rfl, hf, h.most, ?_, ?_, ?_, ?_⟩
      · simp [PSt.fresh, h.len]
      · simp; omega
      · intro i x hx
        simp only [PSt.fresh] at hx
        rcases Nat.lt_or_ge i s.l.length with hi | hi
        · rw [List.getElem?_append_left hi] at hx
          rw [List.getElem?_append_left (by rw [← h.len]; exact hi)]
          exact h.at_ i x hx
        · rw [List.getElem?_append_right hi] at hx
          have h3 := (List.getElem?_eq_some_iff.1 hx).1
          simp at h3
          have e : i - s.l.length = 0 := by omega
          rw [e] at hx
          simp at hx
          subst hx
          have e2 : i = L.length := by rw [← h.len]; omega
          subst e2
          rw [List.getElem?_append_right (Nat.le_refl _)]
          simp
      · funext k
        obtain ⟨k1, k2⟩ := k
        rw [h.len]
        unfold upd
        by_cases hk : ((k1, k2) : Int × Int) = ((jobI G L.length).d, (jobI G L.length).e)
        · rw [if_pos hk]
          simp only [jobI, Prod.mk.injEq] at hk
          obtain ⟨rfl, rfl⟩ := hk
          simp [findF]
        · rw [if_neg hk, h.f]
          simp only [jobI, Prod.mk.injEq, not_and] at hk
          unfold findF
          simp only
          by_cases h0 : 0 ≤ k1 ∧ k2 = 1 + k1 % 3
          · obtain ⟨h0, rfl⟩ := h0
            have hne : k1.toNat ≠ L.length := fun e => hk (by omega) (by rw [← e]; omega)
            rcases Nat.lt_or_ge k1.toNat L.length with hi | hi
            · rw [List.getElem?_append_left hi]
            · rw [List.getElem?_append_right hi, List.getElem?_eq_none hi, List.getElem?_eq_none (by simp; omega)]
          · rw [if_neg (fun e => h0 ⟨e.1, e.2.1⟩), if_neg (fun e => h0 ⟨e.1, e.2.1⟩)]
    · rw [hf] at h1; simp at h1
/-- A job is taken out. -/
theorem FindInv.take (h : FindInv G L s f) {k : Nat} {q : Bool} (hk : L[k]? = some q) {v : V5} {e0 : Int} {s' : PSt V5} (hr : GiveR ⟨0, 0, 0, 0, 0⟩ s (k : Int) 1 v e0 s') :
    (q = true → e0 = 0 ∧ v = jobI G k) ∧ (q = false → e0 = 23) ∧ FindInv G (L.set k false) s' (if e0 = 0 then upd f (v.d, v.e) none else f) := by
  have hkl := (List.getElem?_eq_some_iff.1 hk).1
  obtain ⟨x, hx⟩ : ∃ x, s.l[k]? = some x := ⟨_, List.getElem?_eq_getElem (by rw [h.len]; exact hkl)⟩
  obtain ⟨hg, ht, hv⟩ := h.at_ k x hx
  rw [hk] at ht
  injection ht with ht
  subst ht
  have hlook : s.look (k : Int) 1 = if x.taken = true then 0 else 23 := by
    have := (List.getElem?_eq_some_iff.1 hx).1
    unfold PSt.look
    rw [if_neg (by omega), Int.toNat_natCast, hx]
    simp only
    rw [if_neg (by omega)]
    cases x.taken <;> simp [hg]
  rcases hr with ⟨h1, h2, rfl, rfl⟩ | ⟨i, y, hi, hgy, hy, hty, _, rfl, rfl, rfl⟩
  · rw [hlook] at h2
    cases hq : x.taken with
    | true => rw [hq] at h2; simp at h2; exact absurd h2.symm h1
    | false =>
      rw [hq] at h2 hk
      simp at h2
      subst h2
      refine ⟨by simp, by simp, ?_⟩
      rw [if_neg (by decide), row_set hk]
      exact h
  · have : i = k := by omega
    subst this
    rw [hx] at hy
    injection hy with hy
    subst hy
    rw [hty] at hv hk
    refine ⟨fun _ => ⟨rfl, hv rfl⟩, by simp [hty], ?_⟩
    rw [if_pos rfl, hv rfl]
    refine ⟨h.most, by simp [PSt.giveAt, h.len], by simpa using h.le, ?_, ?_⟩
    · intro j z hz
      simp only [PSt.giveAt] at hz
      by_cases hij : i = j
      · subst hij
        rw [List.getElem?_set_self (by rw [h.len]; exact hkl)] at hz
        injection hz with hz
        subst hz
        rw [List.getElem?_set_self hkl]
        exact ⟨hg, rfl, by simp⟩
      · rw [List.getElem?_set_ne hij] at hz
        rw [List.getElem?_set_ne hij]
        exact h.at_ j z hz
    · funext c
      obtain ⟨c1, c2⟩ := c
      unfold upd
      by_cases hc : ((c1, c2) : Int × Int) = ((jobI G i).d, (jobI G i).e)
      · rw [if_pos hc]
        simp only [jobI, Prod.mk.injEq] at hc
        obtain ⟨rfl, rfl⟩ := hc
        simp [findF, hkl]
      · rw [if_neg hc, h.f]
        simp only [jobI, Prod.mk.injEq, not_and] at hc
        unfold findF
        simp only
        by_cases h0 : 0 ≤ c1 ∧ c2 = 1 + c1 % 3
        · obtain ⟨h0, rfl⟩ := h0
          have hne : i ≠ c1.toNat := fun e => hc (by omega) (by rw [e]; omega)
          rw [List.getElem?_set_ne hne]
        · rw [if_neg (fun e => h0 ⟨e.1, e.2.1⟩), if_neg (fun e => h0 ⟨e.1, e.2.1⟩)]
/-- How many are there. -/
def cntT (L : List Bool) : Nat := L.countP fun b => b
theorem FindInv.taken (h : FindInv G L s f) : s.l.map (·.taken) = L := by
  apply List.ext_getElem?
  intro i
  rw [List.getElem?_map]
  cases hx : s.l[i]? with
  | none =>
    have : s.l.length ≤ i := List.getElem?_eq_none_iff.1 hx
    rw [List.getElem?_eq_none (by rw [← h.len]; exact this)]
    rfl
  | some x => rw [(h.at_ i x hx).2.1]; rfl
theorem FindInv.count (h : FindInv G L s f) : s.l.countP (fun x => x.taken) = cntT L := by
  rw [cntT, ← h.taken, List.countP_map]
  rfl
theorem FindInv.len_ (h : FindInv G L s f) (hw : s.WF) : (s.l.length : Int) - s.free.length = cntT L := by
  have h1 := hw.all_len
  rw [len_all, h.count] at h1
  omega
theorem FindInv.two (h : FindInv G L s f) : cntQ s 0 (allTo s.l s.l.length) + cntQ s 1 (allTo s.l s.l.length) = cntT L := by
  rw [cnt_all, cnt_all, ← h.count]
  have h2 : ∀ x ∈ s.l, x.taken = true → x.v.a = 0 ∨ x.v.a = 1 := by
    intro x hx ht
    obtain ⟨i, hi⟩ := List.getElem?_of_mem hx
    rw [(h.at_ i x hi).2.2 ht]
    simp only [jobI]
    omega
  generalize s.l = l at h2 ⊢
  induction l with
  | nil => rfl
  | cons x l ih =>
    have h3 := ih fun y hy => h2 y (by simp [hy])
    have h4 := h2 x (by simp)
    simp only [List.countP_cons]
    cases ht : x.taken with
    | false => simpa using h3
    | true =>
      rcases h4 ht with h5 | h5
      · simp [h5]; omega
      · simp [h5]; omega
theorem FindInv.moved (h : FindInv G L s f) {s' : PSt V5} {c : Nat} (hm : moveTo 1 0 s (allTo s.l s.l.length) = (s', c)) :
    c = cntQ s 1 (allTo s.l s.l.length) ∧ GensOk s' ∧ cntQ s' 0 (allTo s'.l s'.l.length) = cntT L ∧ cntQ s' 1 (allTo s'.l s'.l.length) = 0 := by
  rw [move_all] at hm
  injection hm with h1 h2
  subst h1 h2
  refine ⟨(cnt_all s 1).symm, ?_, ?_, ?_⟩
  · intro i x hx ht
    simp only [List.getElem?_map] at hx
    cases hy : s.l[i]? with
    | none => rw [hy] at hx; cases hx
    | some y =>
      rw [hy] at hx
      simp at hx
      subst hx
      have : (mvP 1 0 y).gen = y.gen := by unfold mvP; split <;> rfl
      rw [this, (h.at_ i y hy).1]
      decide
  · rw [cnt_all, ← h.count]
    simp only
    rw [List.countP_map]
    refine List.countP_congr fun x hx => ?_
    obtain ⟨i, hi⟩ := List.getElem?_of_mem hx
    have h2 := h.at_ i x hi
    simp only [Function.comp, mvP]
    by_cases ht : x.taken = true
    · have h3 := h2.2.2 ht
      by_cases h4 : x.v.a = 1
      · simp [ht, h4]
      · have : x.v.a = 0 := by rw [h3] at h4 ⊢; simp only [jobI] at h4 ⊢; omega
        simp [ht, this]
    · simp [ht]
  · rw [cnt_all]
    simp only
    rw [List.countP_map, List.countP_eq_zero]
    intro x hx
    simp only [Function.comp, mvP]
    by_cases ht : x.taken = true
    · by_cases h4 : x.v.a = 1
      · simp [ht, h4]
      · simp [ht, h4]
    · simp [ht]
end
end Go.Proofs.Ytjabofofofddbaa
