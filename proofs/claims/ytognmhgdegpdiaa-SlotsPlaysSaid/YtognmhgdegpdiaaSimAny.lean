import Derived.Test.YtognmhgdegpdiaaPoolAlls
import Derived.Test.YtognmhgdegpdiaaRefPool5
import Derived.Test.YtognmhgdegpdiaaPoolACV
section
/- A pool, and the document's own: what they have alike; plain. -/
namespace Go.Proofs.Ytognmhgdegpdiaa
open Go.RowKit
set_option linter.unusedVariables false
set_option linter.unusedSimpArgs false

/-- The two have the same places, lives, those that are taken, those that are free; what the taken ones have is told by V. -/
structure Sim {α : Type} (V : α → Int → Prop) (s : PSt α) (r : PSt Int) : Prop where
  most : s.most = r.most
  free : s.free = r.free
  len : s.l.length = r.l.length
  at_ : ∀ (i : Nat) (x : Pl α) (y : Pl Int), s.l[i]? = some x → r.l[i]? = some y → x.gen = y.gen ∧ x.taken = y.taken ∧ (x.taken = true → V x.v y.v)

variable {α : Type} {V : α → Int → Prop} {s : PSt α} {r : PSt Int}
theorem Sim.empty (n : Nat) : Sim V (⟨n, [], []⟩ : PSt α) ⟨n, [], []⟩ := ⟨rfl, rfl, rfl, by simp⟩
theorem Sim.get (h : Sim V s r) {i : Nat} {x : Pl α} (hx : s.l[i]? = some x) : ∃ y, r.l[i]? = some y ∧ x.gen = y.gen ∧ x.taken = y.taken ∧ (x.taken = true → V x.v y.v) := by
  have hi := (List.getElem?_eq_some_iff.1 hx).1
  have hy := List.getElem?_eq_getElem (l := r.l) (i := i) (by rw [← h.len]; exact hi)
  exact ⟨_, hy, h.at_ i x _ hx hy⟩
theorem Sim.look (h : Sim V s r) (a b : Int) : r.look a b = s.look a b := by
  unfold PSt.look
  rw [h.len]
  by_cases h1 : a < 0 ∨ (r.l.length : Int) ≤ a ∨ b < 1
  · rw [if_pos h1, if_pos h1]
  · rw [if_neg h1, if_neg h1]
    have hlt : a.toNat < s.l.length := by rw [h.len]; omega
    have hx := List.getElem?_eq_getElem hlt
    obtain ⟨y, hy, e1, e2, _⟩ := h.get hx
    rw [hx, hy]
    simp only [e1, e2]
theorem Sim.shape (h : Sim V s r) : s.l.map (fun x => (x.gen, x.taken)) = r.l.map (fun x => (x.gen, x.taken)) := by
  apply List.ext_getElem?
  intro i
  rw [List.getElem?_map, List.getElem?_map]
  cases hx : s.l[i]? with
  | none =>
    have : s.l.length ≤ i := List.getElem?_eq_none_iff.1 hx
    rw [List.getElem?_eq_none (by rw [← h.len]; exact this)]
    rfl
  | some x =>
    obtain ⟨y, hy, e1, e2, _⟩ := h.get hx
    rw [hy]
    simp [e1, e2]
theorem Sim.all (h : Sim V s r) : allTo r.l r.l.length = allTo s.l s.l.length := by
  rw [h.len]
  exact allTo_same _ _ h.shape.symm _
theorem Sim.set (h : Sim V s r) {i : Nat} {x : Pl α} {y : Pl Int} (hx : s.l[i]? = some x) (hy : r.l[i]? = some y) (x' : Pl α) (y' : Pl Int) (hg : x'.gen = y'.gen) (ht : x'.taken = y'.taken) (hv : x'.taken = true → V x'.v y'.v) (fs : List Nat) :
    Sim V { s with l := s.l.set i x', free := fs } { r with l := r.l.set i y', free := fs } := by
  refine ⟨h.most, rfl, by simpa using h.len, fun j a b ha hb => ?_⟩
  by_cases hij : i = j
  · subst hij
    simp only at ha hb
    rw [List.getElem?_set_self (List.getElem?_eq_some_iff.1 hx).1] at ha
    rw [List.getElem?_set_self (List.getElem?_eq_some_iff.1 hy).1] at hb
    injection ha with ha
    injection hb with hb
    subst ha hb
    exact ⟨hg, ht, hv⟩
  · simp only at ha hb
    rw [List.getElem?_set_ne hij] at ha hb
    exact h.at_ j a b ha hb
theorem Sim.fresh (h : Sim V s r) {v : α} {u : Int} (hv : V v u) : Sim V (s.fresh v) (r.fresh u) := by
  refine ⟨h.most, h.free, by simp [PSt.fresh, h.len], fun j a b ha hb => ?_⟩
  simp only [PSt.fresh] at ha hb
  rcases Nat.lt_or_ge j s.l.length with hlt | hge
  · rw [List.getElem?_append_left hlt] at ha
    rw [List.getElem?_append_left (by rw [← h.len]; exact hlt)] at hb
    exact h.at_ j a b ha hb
  · rw [List.getElem?_append_right hge] at ha
    rw [List.getElem?_append_right (by rw [← h.len]; exact hge)] at hb
    have h1 := (List.getElem?_eq_some_iff.1 ha).1
    simp at h1
    have e1 : j - s.l.length = 0 := by omega
    have e2 : j - r.l.length = 0 := by rw [← h.len]; omega
    rw [e1] at ha
    rw [e2] at hb
    simp at ha hb
    subst ha hb
    exact ⟨rfl, rfl, fun _ => hv⟩
theorem Sim.retake (h : Sim V s r) {i : Nat} {fs : List Nat} {x : Pl α} {y : Pl Int} {v : α} {u : Int} (hx : s.l[i]? = some x) (hy : r.l[i]? = some y) (hv : V v u) : Sim V (s.retake i fs x v) (r.retake i fs y u) :=
  h.set hx hy _ _ (by simp only; rw [(h.at_ i x y hx hy).1]) rfl (fun _ => hv) fs
theorem Sim.giveAt (h : Sim V s r) {i : Nat} {x : Pl α} {y : Pl Int} {z : α} {u : Int} (hx : s.l[i]? = some x) (hy : r.l[i]? = some y) : Sim V (s.giveAt i x z) (r.giveAt i y u) := by
  have h1 := h.set hx hy ⟨x.gen, false, z⟩ ⟨y.gen, false, u⟩ (h.at_ i x y hx hy).1 rfl (fun h => by cases h) (s.free ++ [i])
  have e := h.free
  unfold PSt.giveAt
  rw [← e]
  exact h1
theorem Sim.setAt (h : Sim V s r) {i : Nat} {x : Pl α} {y : Pl Int} {v : α} {u : Int} (hx : s.l[i]? = some x) (hy : r.l[i]? = some y) (hv : V v u) : Sim V (s.setAt i x v) (r.setAt i y u) := by
  have h1 := h.set hx hy ⟨x.gen, x.taken, v⟩ ⟨y.gen, y.taken, u⟩ (h.at_ i x y hx hy).1 (h.at_ i x y hx hy).2.1 (fun _ => hv) s.free
  have e := h.free
  unfold PSt.setAt
  refine ⟨h1.most, e, h1.len, h1.at_⟩
end Go.Proofs.Ytognmhgdegpdiaa

end
section
/- The document's own pool (thicketref2): each call whatever it answers. -/
namespace Go.Proofs.Ytognmhgdegpdiaa
open Go.RowKit
set_option linter.unusedVariables false
set_option linter.unusedSimpArgs false
set_option maxRecDepth 100000

def RGiveR (r : PSt Int) (a g u e0 : Int) (r' : PSt Int) : Prop := (e0 ≠ 0 ∧ r.look a g = e0 ∧ u = 0 ∧ r' = r) ∨ (∃ (i : Nat) (y : Pl Int), a = i ∧ g = y.gen ∧ r.l[i]? = some y ∧ y.taken = true ∧ 1 ≤ y.gen ∧ e0 = 0 ∧ u = y.v ∧ r' = r.giveAt i y y.v)

section
variable (B m : Nat) (gv iv vv bv : Value) (r : PSt Int) (w0 w : World) (es : List Ent)
theorem ref_get (a b : Int) (h : Led B w0 w (refEs m gv iv vv bv r ++ es)) (hm : r.l.length ≤ 65536) :
    Calls Try.prog 37 #[.pointer (some ⟨m, 0, none⟩), .agg #[.int .i64 a, .int .i64 b]] w fun e w' => ∃ u e0, e = .returned (.tuple #[.int .i64 u, .int .i64 e0]) ∧ GetR 0 r a b u e0 ∧ Below w.heap.size w w' := by
  by_cases he : r.look a b = 0
  · obtain ⟨i, x, rfl, hx, rfl, ht, hg⟩ := PSt.look_zero he
    refine Calls.mono (ref_get_ok B m gv iv vv bv r i x w0 w es h hm hx ht hg) ?_
    rintro e w3 ⟨rfl, q1⟩
    exact ⟨x.v, 0, rfl, .inr ⟨i, x, rfl, rfl, hx, ht, hg, rfl, rfl⟩, q1⟩
  · refine Calls.mono (ref_get_bad B m gv iv vv bv r a b _ w0 w es h hm rfl he) ?_
    rintro e w3 ⟨rfl, q1⟩
    exact ⟨0, _, rfl, .inl ⟨he, rfl, rfl⟩, q1⟩
theorem ref_give (a b : Int) (h : Led B w0 w (refEs m gv iv vv bv r ++ es)) (hm : r.l.length ≤ 65536) (hf : r.free.length ≤ 65536) :
    Calls Try.prog 41 #[.pointer (some ⟨m, 0, none⟩), .agg #[.int .i64 a, .int .i64 b]] w fun e w' => ∃ u e0 bv' r', e = .returned (.tuple #[.int .i64 u, .int .i64 e0]) ∧ RGiveR r a b u e0 r' ∧ Led B w0 w' (refEs m gv iv vv bv' r' ++ es) := by
  by_cases he : r.look a b = 0
  · obtain ⟨i, x, rfl, hx, rfl, ht, hg⟩ := PSt.look_zero he
    refine Calls.mono (ref_give_ok B m gv iv vv bv r i x w0 w es h hm hx ht hg hf) ?_
    rintro e w3 ⟨rfl, bv', q1⟩
    exact ⟨x.v, 0, bv', _, rfl, .inr ⟨i, x, rfl, rfl, hx, ht, hg, rfl, rfl, rfl⟩, q1⟩
  · refine Calls.mono (ref_give_bad B m gv iv vv bv r a b _ w0 w es h hm rfl he) ?_
    rintro e w3 ⟨rfl, q1⟩
    exact ⟨0, _, bv, r, rfl, .inl ⟨he, rfl, rfl, rfl⟩, h.later q1⟩
theorem ref_take (v : Int) (h : Led B w0 w (refEs m gv iv vv bv r ++ es)) (hm : r.l.length ≤ 65536) (hf : r.free.length ≤ 65536) (hmo : r.most ≤ 65536) (hfl : ∀ i, i ∈ r.free → i < r.l.length) :
    Calls Try.prog 38 #[.pointer (some ⟨m, 0, none⟩), .int .i64 v] w fun e w' => ∃ a g ok gv' iv' vv' bv' r', e = .returned (.tuple #[.agg #[.int .i64 a, .int .i64 g], .bool ok]) ∧ TakeR r v a g ok r' ∧ Led B w0 w' (refEs m gv' iv' vv' bv' r' ++ es) := by
  rcases List.eq_nil_or_concat r.free with h0 | ⟨fs, i, h0⟩
  · by_cases hlt : r.l.length < r.most
    · refine Calls.mono (ref_take_fresh B m gv iv vv bv r v w0 w es h h0 hm hmo hlt) ?_
      rintro e w3 ⟨rfl, gv', iv', vv', bv', q1⟩
      exact ⟨_, _, _, gv', iv', vv', bv', _, rfl, .inr (.inl ⟨h0, hlt, rfl, rfl, rfl, rfl⟩), q1⟩
    · refine Calls.mono (ref_take_full B m gv iv vv bv r v w0 w es h h0 hm hmo (by omega)) ?_
      rintro e w3 ⟨rfl, q1⟩
      exact ⟨_, _, _, gv, iv, vv, bv, _, rfl, .inl ⟨h0, by omega, rfl, rfl, rfl, rfl⟩, h.later q1⟩
  · have h2 : r.free = fs ++ [i] := by simpa using h0
    have hx := List.getElem?_eq_getElem (hfl i (by rw [h2]; simp))
    refine Calls.mono (ref_take_back B m gv iv vv bv r v i fs _ w0 w es h h2 hx hm hf) ?_
    rintro e w3 ⟨rfl, bv', q1⟩
    exact ⟨_, _, _, gv, iv, vv, bv', _, rfl, .inr (.inr ⟨i, fs, _, h2, hx, rfl, rfl, rfl, rfl⟩), q1⟩
end
/-- Two parts of a ledger change places. -/
theorem Led.swapA {B : Nat} {w0 w : World} {A C es : List Ent} (h : Led B w0 w (A ++ (C ++ es))) : Led B w0 w (C ++ (A ++ es)) := by
  rw [← List.append_assoc] at h ⊢
  exact h.perm (List.perm_append_comm.append_right es)
end Go.Proofs.Ytognmhgdegpdiaa

end
