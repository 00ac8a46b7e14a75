/- The statements on tables of jobs against a plain list: what the two have alike; plain. -/
import Derived.Test.YtjabofofofddbaaJobsB
import Derived.Test.YtjabofofofddbaaPoolSim
namespace Go.Proofs.Ytjabofofofddbaa
open Go.RowKit
set_option linter.unusedVariables false
set_option linter.unusedSimpArgs false

theorem GetR.bad {α : Type} {z : α} {s : PSt α} {a g e e' : Int} {v : α} (hl : s.look a g = e) (he : e ≠ 0) (h : GetR z s a g v e') : e' = e ∧ v = z := by
  rcases h with ⟨_, h2, h3⟩ | ⟨i, x, rfl, rfl, hx, ht, hg, _, _⟩
  · exact ⟨h2.symm.trans hl, h3⟩
  · exact absurd (hl.symm.trans (look_ok hx ht hg)) he
theorem GetR.ok {α : Type} {z : α} {s : PSt α} {i : Nat} {x : Pl α} {e' : Int} {v : α} (hx : s.l[i]? = some x) (ht : x.taken = true) (hg : 1 ≤ x.gen) (h : GetR z s i x.gen v e') : e' = 0 ∧ v = x.v := by
  rcases h with ⟨h1, h2, _⟩ | ⟨j, y, hj, _, hy, _, _, h3, h4⟩
  · exact absurd (h2.symm.trans (look_ok hx ht hg)) h1
  · have : i = j := by omega
    subst this
    rw [hx] at hy
    injection hy with hy
    subst hy
    exact ⟨h3, h4⟩
theorem GiveR.bad {α : Type} {z : α} {s s' : PSt α} {a g e e' : Int} {v : α} (hl : s.look a g = e) (he : e ≠ 0) (h : GiveR z s a g v e' s') : e' = e ∧ v = z ∧ s' = s := by
  rcases h with ⟨_, h2, h3, h4⟩ | ⟨i, x, rfl, rfl, hx, ht, hg, _, _⟩
  · exact ⟨h2.symm.trans hl, h3, h4⟩
  · exact absurd (hl.symm.trans (look_ok hx ht hg)) he
theorem GiveR.ok {α : Type} {z : α} {s s' : PSt α} {i : Nat} {x : Pl α} {e' : Int} {v : α} (hx : s.l[i]? = some x) (ht : x.taken = true) (hg : 1 ≤ x.gen) (h : GiveR z s i x.gen v e' s') : e' = 0 ∧ v = x.v ∧ s' = s.giveAt i x z := by
  rcases h with ⟨h1, h2, _⟩ | ⟨j, y, hj, _, hy, _, _, h3, h4, h5⟩
  · exact absurd (h2.symm.trans (look_ok hx ht hg)) h1
  · have : i = j := by omega
    subst this
    rw [hx] at hy
    injection hy with hy
    subst hy
    exact ⟨h3, h4, h5⟩
theorem Sim.mono {α : Type} {V V' : α → Int → Prop} {s : PSt α} {r : PSt Int} (h : Sim V s r) (hv : ∀ v u, V v u → V' v u) : Sim V' s r :=
  ⟨h.most, h.free, h.len, fun i x y hx hy => ⟨(h.at_ i x y hx hy).1, (h.at_ i x y hx hy).2.1, fun ht => hv _ _ ((h.at_ i x y hx hy).2.2 ht)⟩⟩
/-- What a look-up in the plain pool tells of both. -/
theorem Sim.both {α : Type} {V : α → Int → Prop} {s : PSt α} {r : PSt Int} (h : Sim V s r) {a g u e : Int} (hr : GetR 0 r a g u e) :
    (e ≠ 0 ∧ s.look a g = e ∧ r.look a g = e ∧ u = 0) ∨ (∃ (i : Nat) (x : Pl α) (y : Pl Int), a = i ∧ g = x.gen ∧ g = y.gen ∧ s.l[i]? = some x ∧ r.l[i]? = some y ∧ x.taken = true ∧ y.taken = true ∧ 1 ≤ x.gen ∧ e = 0 ∧ u = y.v ∧ V x.v y.v) := by
  rcases hr with ⟨h1, h2, h3⟩ | ⟨i, y, rfl, rfl, hy, ht, hg, h3, h4⟩
  · exact .inl ⟨h1, (h.look a g).symm.trans h2, h2, h3⟩
  · obtain ⟨x, hx⟩ : ∃ x, s.l[i]? = some x := ⟨_, List.getElem?_eq_getElem (by rw [h.len]; exact (List.getElem?_eq_some_iff.1 hy).1)⟩
    obtain ⟨e1, e2, e3⟩ := h.at_ i x y hx hy
    exact .inr ⟨i, x, y, rfl, e1.symm, rfl, hx, hy, e2.trans ht, ht, by rw [e1]; exact hg, h3, h4, e3 (e2.trans ht)⟩

def JV (all : List V5) (v : V5) (u : Int) : Prop := 0 ≤ u ∧ all[u.toNat]? = some v
structure JInv (k : Nat) (all : List V5) (s : PSt V5) (r : PSt Int) (f : Int × Int → Option (Int × Int)) : Prop where
  sim : Sim (JV all) s r
  gens : ∀ (i : Nat) (x : Pl V5), s.l[i]? = some x → 1 ≤ x.gen ∧ x.gen ≤ k
  inj : ∀ (i j : Nat) (y z : Pl Int), r.l[i]? = some y → r.l[j]? = some z → y.taken = true → z.taken = true → y.v = z.v → i = j
  f : ∀ key y, f key = some y ↔ ∃ (i : Nat) (x : Pl V5), s.l[i]? = some x ∧ x.taken = true ∧ y = ((i : Int), x.gen) ∧ (x.v.d, x.v.e) = key
  qs : ∀ v, v ∈ all → (0 ≤ v.a ∧ v.a ≤ 2) ∧ in64 v.d ∧ in64 v.e
  len : all.length ≤ k

section
variable {k : Nat} {all : List V5} {s : PSt V5} {r : PSt Int} {f : Int × Int → Option (Int × Int)}
theorem JInv.start (n : Nat) : JInv 0 [] ⟨n, [], []⟩ ⟨n, [], []⟩ (fun _ => none) :=
  ⟨Sim.empty n, by simp, by simp, by simp, by simp, by simp⟩
theorem JInv.mono (h : JInv k all s r f) : JInv (k + 1) all s r f :=
  ⟨h.sim, fun i x hx => by have := h.gens i x hx; omega, h.inj, h.f, h.qs, by have := h.len; omega⟩
theorem JInv.gensOk (h : JInv k all s r f) : GensOk s := fun i x hx _ => (h.gens i x hx).1
theorem JInv.vals (h : JInv k all s r f) {i : Nat} {x : Pl V5} (hx : s.l[i]? = some x) (ht : x.taken = true) : x.v ∈ all := by
  obtain ⟨y, hy, _, _, hv⟩ := h.sim.get hx
  exact List.mem_of_getElem? (hv ht).2
theorem JInv.items (h : JInv k all s r f) : ItemsOk s := fun i x hx ht => (h.qs _ (h.vals hx ht)).2
theorem JInv.one (h : JInv k all s r f) {i j : Nat} {x z : Pl V5} (hx : s.l[i]? = some x) (hz : s.l[j]? = some z) (tx : x.taken = true) (tz : z.taken = true) (he : (x.v.d, x.v.e) = (z.v.d, z.v.e)) : i = j := by
  have h1 := (h.f (z.v.d, z.v.e) ((i : Int), x.gen)).2 ⟨i, x, hx, tx, rfl, he⟩
  have h2 := (h.f (z.v.d, z.v.e) ((j : Int), z.gen)).2 ⟨j, z, hz, tz, rfl, rfl⟩
  rw [h1] at h2
  injection h2 with h2
  injection h2 with h2
  omega

theorem JInv.give (h : JInv k all s r f) {i : Nat} {x : Pl V5} {y : Pl Int} (hx : s.l[i]? = some x) (hy : r.l[i]? = some y) (ht : x.taken = true) :
    JInv k all (s.giveAt i x ⟨0, 0, 0, 0, 0⟩) (r.giveAt i y y.v) (upd f (x.v.d, x.v.e) none) := by
  have hlt := (List.getElem?_eq_some_iff.1 hx).1
  have hlr := (List.getElem?_eq_some_iff.1 hy).1
  refine ⟨h.sim.giveAt hx hy, ?_, ?_, ?_, h.qs, h.len⟩
  · intro j z hz
    simp only [PSt.giveAt] at hz
    by_cases hij : i = j
    · subst hij
      rw [List.getElem?_set_self hlt] at hz
      injection hz with hz
      subst hz
      exact h.gens i x hx
    · rw [List.getElem?_set_ne hij] at hz
      exact h.gens j z hz
  · intro a b c d hc hd tc td
    simp only [PSt.giveAt] at hc hd
    by_cases hia : i = a
    · subst hia
      rw [List.getElem?_set_self hlr] at hc
      injection hc with hc
      subst hc
      cases tc
    · by_cases hib : i = b
      · subst hib
        rw [List.getElem?_set_self hlr] at hd
        injection hd with hd
        subst hd
        cases td
      · rw [List.getElem?_set_ne hia] at hc
        rw [List.getElem?_set_ne hib] at hd
        exact h.inj a b c d hc hd tc td
  · intro key w
    by_cases hk : key = (x.v.d, x.v.e)
    · subst hk
      rw [upd_same]
      constructor
      · intro h1; cases h1
      · rintro ⟨j, z, hz, tz, _, he⟩
        simp only [PSt.giveAt] at hz
        by_cases hij : i = j
        · subst hij
          rw [List.getElem?_set_self hlt] at hz
          injection hz with hz
          subst hz
          cases tz
        · rw [List.getElem?_set_ne hij] at hz
          exact absurd (h.one hx hz ht tz he.symm) hij
    · rw [upd_other _ _ hk, h.f]
      constructor
      · rintro ⟨j, z, hz, tz, h1, h2⟩
        have hij : i ≠ j := by
          rintro rfl
          rw [hx] at hz
          injection hz with hz
          subst hz
          exact hk h2.symm
        exact ⟨j, z, by simp only [PSt.giveAt]; rw [List.getElem?_set_ne hij]; exact hz, tz, h1, h2⟩
      · rintro ⟨j, z, hz, tz, h1, h2⟩
        simp only [PSt.giveAt] at hz
        by_cases hij : i = j
        · subst hij
          rw [List.getElem?_set_self hlt] at hz
          injection hz with hz
          subst hz
          cases tz
        · rw [List.getElem?_set_ne hij] at hz
          exact ⟨j, z, hz, tz, h1, h2⟩

theorem JInv.set (h : JInv k all s r f) {i : Nat} {x : Pl V5} {y : Pl Int} (hx : s.l[i]? = some x) (hy : r.l[i]? = some y) (ht : x.taken = true) {v : V5} (hv : (0 ≤ v.a ∧ v.a ≤ 2) ∧ in64 v.d ∧ in64 v.e)
    (hc : ∀ z, f (v.d, v.e) = some z → z.1 = i ∧ z.2 = x.gen) : JInv k (all.set y.v.toNat v) (s.setAt i x v) r (upd (upd f (x.v.d, x.v.e) none) (v.d, v.e) (some ((i : Int), x.gen))) := by
  have hlt := (List.getElem?_eq_some_iff.1 hx).1
  have hlr := (List.getElem?_eq_some_iff.1 hy).1
  obtain ⟨eg, et, ev⟩ := h.sim.at_ i x y hx hy
  obtain ⟨hu0, hu⟩ := ev ht
  have hul := (List.getElem?_eq_some_iff.1 hu).1
  have nov : ∀ (j : Nat) (z : Pl V5), s.l[j]? = some z → z.taken = true → (z.v.d, z.v.e) = (v.d, v.e) → j = i := by
    intro j z hz tz he
    have := hc _ ((h.f (v.d, v.e) ((j : Int), z.gen)).2 ⟨j, z, hz, tz, rfl, he⟩)
    simp only at this
    omega
  refine ⟨⟨h.sim.most, h.sim.free, by simpa [PSt.setAt] using h.sim.len, ?_⟩, ?_, h.inj, ?_, ?_, by simpa using h.len⟩
  · intro j a b ha hb
    simp only [PSt.setAt] at ha
    by_cases hij : i = j
    · subst hij
      rw [List.getElem?_set_self hlt] at ha
      injection ha with ha
      subst ha
      rw [hy] at hb
      injection hb with hb
      subst hb
      exact ⟨eg, et, fun _ => ⟨hu0, by rw [List.getElem?_set_self hul]⟩⟩
    · rw [List.getElem?_set_ne hij] at ha
      obtain ⟨e1, e2, e3⟩ := h.sim.at_ j a b ha hb
      refine ⟨e1, e2, fun ta => ?_⟩
      obtain ⟨g0, g1⟩ := e3 ta
      have hne : y.v ≠ b.v := fun e => hij (h.inj i j y b hy hb (by rw [← et]; exact ht) (by rw [← e2]; exact ta) e)
      exact ⟨g0, by rw [List.getElem?_set_ne (by omega)]; exact g1⟩
  · intro j z hz
    simp only [PSt.setAt] at hz
    by_cases hij : i = j
    · subst hij
      rw [List.getElem?_set_self hlt] at hz
      injection hz with hz
      subst hz
      exact h.gens i x hx
    · rw [List.getElem?_set_ne hij] at hz
      exact h.gens j z hz
  · intro key w
    have hsi : (s.setAt i x v).l[i]? = some ⟨x.gen, x.taken, v⟩ := by simp only [PSt.setAt]; rw [List.getElem?_set_self hlt]
    have hsj : ∀ j, i ≠ j → (s.setAt i x v).l[j]? = s.l[j]? := fun j hij => by simp only [PSt.setAt]; rw [List.getElem?_set_ne hij]
    by_cases hk : key = (v.d, v.e)
    · subst hk
      rw [upd_same]
      constructor
      · intro h1
        injection h1 with h1
        exact ⟨i, _, hsi, ht, h1.symm, rfl⟩
      · rintro ⟨j, z, hz, tz, h1, h2⟩
        by_cases hij : i = j
        · subst hij
          rw [hsi] at hz
          injection hz with hz
          subst hz
          rw [h1]
        · rw [hsj j hij] at hz
          exact absurd (nov j z hz tz h2).symm hij
    · rw [upd_other _ _ hk]
      by_cases hk2 : key = (x.v.d, x.v.e)
      · subst hk2
        rw [upd_same]
        constructor
        · intro h1; cases h1
        · rintro ⟨j, z, hz, tz, h1, h2⟩
          by_cases hij : i = j
          · subst hij
            rw [hsi] at hz
            injection hz with hz
            subst hz
            exact absurd h2.symm hk
          · rw [hsj j hij] at hz
            exact absurd (h.one hx hz ht tz h2.symm) hij
      · rw [upd_other _ _ hk2, h.f]
        constructor
        · rintro ⟨j, z, hz, tz, h1, h2⟩
          have hij : i ≠ j := by
            rintro rfl
            rw [hx] at hz
            injection hz with hz
            subst hz
            exact hk2 h2.symm
          exact ⟨j, z, by rw [hsj j hij]; exact hz, tz, h1, h2⟩
        · rintro ⟨j, z, hz, tz, h1, h2⟩
          by_cases hij : i = j
          · subst hij
            rw [hsi] at hz
            injection hz with hz
            subst hz
            exact absurd h2.symm hk
          · rw [hsj j hij] at hz
            exact ⟨j, z, hz, tz, h1, h2⟩
  · intro u hu2
    rcases List.mem_or_eq_of_mem_set hu2 with h1 | rfl
    · exact h.qs u h1
    · exact hv

theorem JInv.more (h : JInv k all s r f) (v : V5) : Sim (JV (all ++ [v])) s r := h.sim.mono fun a u ⟨h0, h1⟩ => ⟨h0, by rw [List.getElem?_append_left (List.getElem?_eq_some_iff.1 h1).1]; exact h1⟩
theorem JInv.small (h : JInv k all s r f) {i : Nat} {y : Pl Int} (hy : r.l[i]? = some y) (ht : y.taken = true) : 0 ≤ y.v ∧ y.v < all.length := by
  obtain ⟨x, hx⟩ : ∃ x, s.l[i]? = some x := ⟨_, List.getElem?_eq_getElem (by rw [h.sim.len]; exact (List.getElem?_eq_some_iff.1 hy).1)⟩
  obtain ⟨e1, e2, e3⟩ := h.sim.at_ i x y hx hy
  obtain ⟨h0, h1⟩ := e3 (e2.trans ht)
  have := (List.getElem?_eq_some_iff.1 h1).1
  omega

/-- One more job: both pools answer alike. -/
theorem JInv.add (h : JInv k all s r f) (hw : s.WF) (hk : k ≤ 1000000) {v : V5} (hv : (0 ≤ v.a ∧ v.a ≤ 2) ∧ in64 v.d ∧ in64 v.e) (hn : f (v.d, v.e) = none) {a g a' g' : Int} {ok : Bool} {s' : PSt V5} {r' : PSt Int}
    (hs : TakeR s v a g true s') (hr : TakeR r (all.length : Int) a' g' ok r') : a' = a ∧ g' = g ∧ 1 ≤ g ∧ g ≤ k + 1 ∧ JInv (k + 1) (all ++ [v]) s' r' (upd f (v.d, v.e) (some (a, g))) := by
  have hnone : ∀ (j : Nat) (z : Pl V5), s.l[j]? = some z → z.taken = true → (z.v.d, z.v.e) ≠ (v.d, v.e) := by
    intro j z hz tz he
    have := (h.f (v.d, v.e) ((j : Int), z.gen)).2 ⟨j, z, hz, tz, rfl, he⟩
    rw [hn] at this
    cases this
  have hqs : ∀ u, u ∈ all ++ [v] → (0 ≤ u.a ∧ u.a ≤ 2) ∧ in64 u.d ∧ in64 u.e := by
    intro u hu
    rcases List.mem_append.1 hu with h1 | h1
    · exact h.qs u h1
    · simp at h1; subst h1; exact hv
  have hlen : (all ++ [v]).length ≤ k + 1 := by have := h.len; simp; omega
  have hV : JV (all ++ [v]) v (all.length : Int) := ⟨by omega, by simp⟩
  have hfree := h.sim.free
  rcases hs with ⟨_, _, _, _, h1, _⟩ | ⟨hf, hlt, rfl, rfl, _, rfl⟩ | ⟨i, fs, x, hf, hx, rfl, rfl, _, rfl⟩
  · cases h1
  · have hrl : r.l.length < r.most := by rw [← h.sim.len, ← h.sim.most]; exact hlt
    rcases hr with ⟨_, h2, _⟩ | ⟨_, _, rfl, rfl, _, rfl⟩ | ⟨i, fs, y, h2, _⟩
    · omega
    · refine ⟨by rw [h.sim.len], rfl, by omega, by omega, (h.more v).fresh hV, ?_, ?_, ?_, hqs, hlen⟩
      · intro j z hz
        simp only [PSt.fresh] at hz
        rcases Nat.lt_or_ge j s.l.length with hj | hj
        · rw [List.getElem?_append_left hj] at hz
          have := h.gens j z hz
          omega
        · rw [List.getElem?_append_right hj] at hz
          have h3 := (List.getElem?_eq_some_iff.1 hz).1
          simp at h3
          have e : j - s.l.length = 0 := by omega
          rw [e] at hz
          simp at hz
          subst hz
          simp only
          omega
      · have key : ∀ (j : Nat) (y : Pl Int), (r.fresh (all.length : Int)).l[j]? = some y → (j < r.l.length ∧ r.l[j]? = some y) ∨ (j = r.l.length ∧ y.v = all.length) := by
          intro j y hy
          simp only [PSt.fresh] at hy
          rcases Nat.lt_or_ge j r.l.length with hj | hj
          · rw [List.getElem?_append_left hj] at hy
            exact .inl ⟨hj, hy⟩
          · rw [List.getElem?_append_right hj] at hy
            have h3 := (List.getElem?_eq_some_iff.1 hy).1
            simp at h3
            have e : j - r.l.length = 0 := by omega
            rw [e] at hy
            simp at hy
            subst hy
            exact .inr ⟨by omega, rfl⟩
        intro a b c d hc hd tc td he
        rcases key a c hc with ⟨h1, h2⟩ | ⟨h1, h2⟩
        · rcases key b d hd with ⟨h3, h4⟩ | ⟨h3, h4⟩
          · exact h.inj a b c d h2 h4 tc td he
          · have := h.small h2 tc; omega
        · rcases key b d hd with ⟨h3, h4⟩ | ⟨h3, h4⟩
          · have := h.small h4 td; omega
          · omega
      · intro key w
        have hsl : ∀ j, j < s.l.length → (s.fresh v).l[j]? = s.l[j]? := fun j hj => by simp only [PSt.fresh]; rw [List.getElem?_append_left hj]
        have hsn : (s.fresh v).l[s.l.length]? = some ⟨1, true, v⟩ := by simp [PSt.fresh]
        by_cases hk : key = (v.d, v.e)
        · subst hk
          rw [upd_same]
          constructor
          · intro h1
            injection h1 with h1
            exact ⟨_, _, hsn, rfl, h1.symm, rfl⟩
          · rintro ⟨j, z, hz, tz, h1, h2⟩
            rcases Nat.lt_or_ge j s.l.length with hj | hj
            · rw [hsl j hj] at hz
              exact absurd h2 (hnone j z hz tz)
            · have h3 := (List.getElem?_eq_some_iff.1 hz).1
              simp [PSt.fresh] at h3
              have : j = s.l.length := by omega
              subst this
              rw [hsn] at hz
              injection hz with hz
              subst hz
              rw [h1]
        · rw [upd_other _ _ hk, h.f]
          constructor
          · rintro ⟨j, z, hz, tz, h1, h2⟩
            exact ⟨j, z, by rw [hsl j (List.getElem?_eq_some_iff.1 hz).1]; exact hz, tz, h1, h2⟩
          · rintro ⟨j, z, hz, tz, h1, h2⟩
            rcases Nat.lt_or_ge j s.l.length with hj | hj
            · rw [hsl j hj] at hz
              exact ⟨j, z, hz, tz, h1, h2⟩
            · have h3 := (List.getElem?_eq_some_iff.1 hz).1
              simp [PSt.fresh] at h3
              have : j = s.l.length := by omega
              subst this
              rw [hsn] at hz
              injection hz with hz
              subst hz
              exact absurd h2.symm hk
    · rw [← hfree, hf] at h2; simp at h2
  · rcases hr with ⟨h2, _⟩ | ⟨h2, _⟩ | ⟨i', fs', y, h2, hy, rfl, rfl, _, rfl⟩
    · rw [← hfree, hf] at h2; simp at h2
    · rw [← hfree, hf] at h2; simp at h2
    · rw [← hfree, hf] at h2
      obtain ⟨rfl, h3⟩ := List.append_inj' h2 rfl
      simp at h3
      subst h3
      obtain ⟨eg, et, _⟩ := h.sim.at_ i x y hx hy
      have hgx := h.gens i x hx
      have hwr : wrap64 (x.gen + 1) = x.gen + 1 := by simp [wrap64]; omega
      have hlt := (List.getElem?_eq_some_iff.1 hx).1
      have hlr := (List.getElem?_eq_some_iff.1 hy).1
      have hxf : x.taken = false := by
        obtain ⟨z, hz, tz⟩ := hw.free_lt (i := i) (by rw [hf]; simp)
        rw [hx] at hz
        injection hz with hz
        subst hz
        exact tz
      have hsi : (s.retake i fs x v).l[i]? = some ⟨wrap64 (x.gen + 1), true, v⟩ := by simp only [PSt.retake]; rw [List.getElem?_set_self hlt]
      have hsj : ∀ j, i ≠ j → (s.retake i fs x v).l[j]? = s.l[j]? := fun j hij => by simp only [PSt.retake]; rw [List.getElem?_set_ne hij]
      have hri : (r.retake i fs y (all.length : Int)).l[i]? = some ⟨wrap64 (y.gen + 1), true, (all.length : Int)⟩ := by simp only [PSt.retake]; rw [List.getElem?_set_self hlr]
      have hrj : ∀ j, i ≠ j → (r.retake i fs y (all.length : Int)).l[j]? = r.l[j]? := fun j hij => by simp only [PSt.retake]; rw [List.getElem?_set_ne hij]
      refine ⟨rfl, by rw [eg], by rw [hwr]; omega, by rw [hwr]; omega, (h.more v).retake hx hy hV, ?_, ?_, ?_, hqs, hlen⟩
      · intro j z hz
        by_cases hij : i = j
        · subst hij
          rw [hsi] at hz
          injection hz with hz
          subst hz
          simp only
          rw [hwr]
          omega
        · rw [hsj j hij] at hz
          have := h.gens j z hz
          omega
      · intro a b c d hc hd tc td he
        by_cases hia : i = a
        · subst hia
          by_cases hib : i = b
          · exact hib
          · rw [hri] at hc
            rw [hrj b hib] at hd
            injection hc with hc
            subst hc
            have := h.small hd td
            simp only at he
            omega
        · rw [hrj a hia] at hc
          by_cases hib : i = b
          · subst hib
            rw [hri] at hd
            injection hd with hd
            subst hd
            have := h.small hc tc
            simp only at he
            omega
          · rw [hrj b hib] at hd
            exact h.inj a b c d hc hd tc td he
      · intro key w
        by_cases hk : key = (v.d, v.e)
        · subst hk
          rw [upd_same]
          constructor
          · intro h1
            injection h1 with h1
            exact ⟨_, _, hsi, rfl, h1.symm, rfl⟩
          · rintro ⟨j, z, hz, tz, h1, h2⟩
            by_cases hij : i = j
            · subst hij
              rw [hsi] at hz
              injection hz with hz
              subst hz
              rw [h1]
            · rw [hsj j hij] at hz
              exact absurd h2 (hnone j z hz tz)
        · rw [upd_other _ _ hk, h.f]
          constructor
          · rintro ⟨j, z, hz, tz, h1, h2⟩
            have hij : i ≠ j := by
              rintro rfl
              rw [hx] at hz
              injection hz with hz
              subst hz
              rw [hxf] at tz
              cases tz
            exact ⟨j, z, by rw [hsj j hij]; exact hz, tz, h1, h2⟩
          · rintro ⟨j, z, hz, tz, h1, h2⟩
            by_cases hij : i = j
            · subst hij
              rw [hsi] at hz
              injection hz with hz
              subst hz
              exact absurd h2.symm hk
            · rw [hsj j hij] at hz
              exact ⟨j, z, hz, tz, h1, h2⟩
end
end Go.Proofs.Ytjabofofofddbaa
