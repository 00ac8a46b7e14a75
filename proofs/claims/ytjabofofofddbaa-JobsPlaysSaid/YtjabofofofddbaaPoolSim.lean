/- A pool, and the document's own: what they have alike; plain. -/
import Derived.Test.YtjabofofofddbaaPoolAll
namespace Go.Proofs.Ytjabofofofddbaa
open Go.RowKit
set_option linter.unusedVariables false
set_option linter.unusedSimpArgs false

/-- The two have the same places, lives, those that are taken, those that are free; what the taken ones have is told by V. -/
structure Sim {α : Type} (V : α → Int → Prop) (s : PSt α) (r : PSt Int) : Prop where
  most : s.most = r.most
  free : s.free = r.free
  len : s.l.length = r.l.length
  at_ : ∀ (i : Nat) (x : Pl α) (y : Pl Int), s.l[i]? = some x → r.l[i]? = some y → x.gen = y.gen ∧ x.taken = y.taken ∧ (x.taken = true → V x.v y.v)

variable {α : Type} {V : α → Int → Prop} {s : PSt α} {r : PSt Int}
theorem Sim.empty (n : Nat) : Sim V (⟨n, [], []⟩ : PSt α) ⟨n, [], []⟩ := ⟨rfl, rfl, rfl, by simp⟩
theorem Sim.get (h : Sim V s r) {i : Nat} {x : Pl α} (hx : s.l[i]? = some x) : ∃ y, r.l[i]? = some y ∧ x.gen = y.gen ∧ x.taken = y.taken ∧ (x.taken = true → V x.v y.v) := by
  have hi := (List.getElem?_eq_some_iff.1 hx).1
  have hy := List.getElem?_eq_getElem (l := r.l) (i := i) (by rw [← h.len]; exact hi)
  exact ⟨_, hy, h.at_ i x _ hx hy⟩
theorem Sim.look (h : Sim V s r) (a b : Int) : r.look a b = s.look a b := by
  unfold PSt.look
  rw [h.len]
  by_cases h1 : a < 0 ∨ (r.l.length : Int) ≤ a ∨ b < 1
  · rw [if_pos h1, if_pos h1]
  · rw [if_neg h1, if_neg h1]
    have hlt : a.toNat < s.l.length := by rw [h.len]; omega
    have hx := List.getElem?_eq_getElem hlt
    obtain ⟨y, hy, e1, e2, _⟩ := h.get hx
    rw [hx, hy]
    simp only [e1, e2]
theorem Sim.shape (h : Sim V s r) : s.l.map (fun x => (x.gen, x.taken)) = r.l.map (fun x => (x.gen, x.taken)) := by
  apply List.ext_getElem?
  intro i
  rw [List.getElem?_map, List.getElem?_map]
  cases hx : s.l[i]? with
  | none =>
    have : s.l.length ≤ i := List.getElem?_eq_none_iff.1 hx
    rw [List.getElem?_eq_none (by rw [← h.len]; exact this)]
    rfl
  | some x =>
    obtain ⟨y, hy, e1, e2, _⟩ := h.get hx
    rw [hy]
    simp [e1, e2]
theorem Sim.all (h : Sim V s r) : allTo r.l r.l.length = allTo s.l s.l.length := by
  rw [h.len]
  exact allTo_same _ _ h.shape.symm _
theorem Sim.set (h : Sim V s r) {i : Nat} {x : Pl α} {y : Pl Int} (hx : s.l[i]? = some x) (hy : r.l[i]? = some y) (x' : Pl α) (y' : Pl Int) (hg : x'.gen = y'.gen) (ht : x'.taken = y'.taken) (hv : x'.taken = true → V x'.v y'.v) (fs : List Nat) :
    Sim V { s with l := s.l.set i x', free := fs } { r with l := r.l.set i y', free := fs } := by
  refine ⟨h.most, rfl, by simpa using h.len, fun j a b ha hb => ?_⟩
  by_cases hij : i = j
  · subst hij
    simp only at ha hb
    rw [List.getElem?_set_self (List.getElem?_eq_some_iff.1 hx).1] at ha
    rw [List.getElem?_set_self (List.getElem?_eq_some_iff.1 hy).1] at hb
    injection ha with ha
    injection hb with hb
    subst ha hb
    exact ⟨hg, ht, hv⟩
  · simp only at ha hb
    rw [List.getElem?_set_ne hij] at ha hb
    exact h.at_ j a b ha hb
theorem Sim.fresh (h : Sim V s r) {v : α} {u : Int} (hv : V v u) : Sim V (s.fresh v) (r.fresh u) := by
  refine ⟨h.most, h.free, by simp [PSt.fresh, h.len], fun j a b ha hb => ?_⟩
  simp only [PSt.fresh] at ha hb
  rcases Nat.lt_or_ge j s.l.length with hlt | hge
  · rw [List.getElem?_append_left hlt] at ha
    rw [List.getElem?_append_left (by rw [← h.len]; exact hlt)] at hb
    exact h.at_ j a b ha hb
  · rw [List.getElem?_append_right hge] at ha
    rw [List.getElem?_append_right (by rw [← h.len]; exact hge)] at hb
    have h1 := (List.getElem?_eq_some_iff.1 ha).1
    simp at h1
    have e1 : j - s.l.length = 0 := by omega
    have e2 : j - r.l.length = 0 := by rw [← h.len]; omega
    rw [e1] at ha
    rw [e2] at hb
    simp at ha hb
    subst ha hb
    exact ⟨rfl, rfl, fun _ => hv⟩
theorem Sim.retake (h : Sim V s r) {i : Nat} {fs : List Nat} {x : Pl α} {y : Pl Int} {v : α} {u : Int} (hx : s.l[i]? = some x) (hy : r.l[i]? = some y) (hv : V v u) : Sim V (s.retake i fs x v) (r.retake i fs y u) :=
  h.set hx hy _ _ (by simp only; rw [(h.at_ i x y hx hy).1]) rfl (fun _ => hv) fs
theorem Sim.giveAt (h : Sim V s r) {i : Nat} {x : Pl α} {y : Pl Int} {z : α} {u : Int} (hx : s.l[i]? = some x) (hy : r.l[i]? = some y) : Sim V (s.giveAt i x z) (r.giveAt i y u) := by
  have h1 := h.set hx hy ⟨x.gen, false, z⟩ ⟨y.gen, false, u⟩ (h.at_ i x y hx hy).1 rfl (fun h => by cases h) (s.free ++ [i])
  have e := h.free
  unfold PSt.giveAt
  rw [← e]
  exact h1
theorem Sim.setAt (h : Sim V s r) {i : Nat} {x : Pl α} {y : Pl Int} {v : α} {u : Int} (hx : s.l[i]? = some x) (hy : r.l[i]? = some y) (hv : V v u) : Sim V (s.setAt i x v) (r.setAt i y u) := by
  have h1 := h.set hx hy ⟨x.gen, x.taken, v⟩ ⟨y.gen, y.taken, u⟩ (h.at_ i x y hx hy).1 (h.at_ i x y hx hy).2.1 (fun _ => hv) s.free
  have e := h.free
  unfold PSt.setAt
  refine ⟨h1.most, e, h1.len, h1.at_⟩
end Go.Proofs.Ytjabofofofddbaa
