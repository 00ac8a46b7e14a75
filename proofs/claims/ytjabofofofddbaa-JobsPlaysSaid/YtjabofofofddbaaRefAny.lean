/- The document's own pool (thicketref2): each call whatever it answers. -/
import Derived.Test.YtjabofofofddbaaRefPool5
import Derived.Test.YtjabofofofddbaaPoolV
namespace Go.Proofs.Ytjabofofofddbaa
open Go.RowKit
set_option linter.unusedVariables false
set_option linter.unusedSimpArgs false
set_option maxRecDepth 100000

def RGiveR (r : PSt Int) (a g u e0 : Int) (r' : PSt Int) : Prop := (e0 ≠ 0 ∧ r.look a g = e0 ∧ u = 0 ∧ r' = r) ∨ (∃ (i : Nat) (y : Pl Int), a = i ∧ g = y.gen ∧ r.l[i]? = some y ∧ y.taken = true ∧ 1 ≤ y.gen ∧ e0 = 0 ∧ u = y.v ∧ r' = r.giveAt i y y.v)

section
variable (B m : Nat) (gv iv vv bv : Value) (r : PSt Int) (w0 w : World) (es : List Ent)
theorem ref_get (a b : Int) (h : Led B w0 w (refEs m gv iv vv bv r ++ es)) (hm : r.l.length ≤ 65536) :
    Calls Try.prog 67 #[.pointer (some ⟨m, 0, none⟩), .agg #[.int .i64 a, .int .i64 b]] w fun e w' => ∃ u e0, e = .returned (.tuple #[.int .i64 u, .int .i64 e0]) ∧ GetR 0 r a b u e0 ∧ Below w.heap.size w w' := by
  by_cases he : r.look a b = 0
  · obtain ⟨i, x, rfl, hx, rfl, ht, hg⟩ := PSt.look_zero he
    refine Calls.mono (ref_get_ok B m gv iv vv bv r i x w0 w es h hm hx ht hg) ?_
    rintro e w3 ⟨rfl, q1⟩
    exact ⟨x.v, 0, rfl, .inr ⟨i, x, rfl, rfl, hx, ht, hg, rfl, rfl⟩, q1⟩
  · refine Calls.mono (ref_get_bad B m gv iv vv bv r a b _ w0 w es h hm rfl he) ?_
    rintro e w3 ⟨rfl, q1⟩
    exact ⟨0, _, rfl, .inl ⟨he, rfl, rfl⟩, q1⟩
theorem ref_give (a b : Int) (h : Led B w0 w (refEs m gv iv vv bv r ++ es)) (hm : r.l.length ≤ 65536) (hf : r.free.length ≤ 65536) :
    Calls Try.prog 66 #[.pointer (some ⟨m, 0, none⟩), .agg #[.int .i64 a, .int .i64 b]] w fun e w' => ∃ u e0 bv' r', e = .returned (.tuple #[.int .i64 u, .int .i64 e0]) ∧ RGiveR r a b u e0 r' ∧ Led B w0 w' (refEs m gv iv vv bv' r' ++ es) := by
  by_cases he : r.look a b = 0
  · obtain ⟨i, x, rfl, hx, rfl, ht, hg⟩ := PSt.look_zero he
    refine Calls.mono (ref_give_ok B m gv iv vv bv r i x w0 w es h hm hx ht hg hf) ?_
    rintro e w3 ⟨rfl, bv', q1⟩
    exact ⟨x.v, 0, bv', _, rfl, .inr ⟨i, x, rfl, rfl, hx, ht, hg, rfl, rfl, rfl⟩, q1⟩
  · refine Calls.mono (ref_give_bad B m gv iv vv bv r a b _ w0 w es h hm rfl he) ?_
    rintro e w3 ⟨rfl, q1⟩
    exact ⟨0, _, bv, r, rfl, .inl ⟨he, rfl, rfl, rfl⟩, h.later q1⟩
theorem ref_take (v : Int) (h : Led B w0 w (refEs m gv iv vv bv r ++ es)) (hm : r.l.length ≤ 65536) (hf : r.free.length ≤ 65536) (hmo : r.most ≤ 65536) (hfl : ∀ i, i ∈ r.free → i < r.l.length) :
    Calls Try.prog 70 #[.pointer (some ⟨m, 0, none⟩), .int .i64 v] w fun e w' => ∃ a g ok gv' iv' vv' bv' r', e = .returned (.tuple #[.agg #[.int .i64 a, .int .i64 g], .bool ok]) ∧ TakeR r v a g ok r' ∧ Led B w0 w' (refEs m gv' iv' vv' bv' r' ++ es) := by
  rcases List.eq_nil_or_concat r.free with h0 | ⟨fs, i, h0⟩
  · by_cases hlt : r.l.length < r.most
    · refine Calls.mono (ref_take_fresh B m gv iv vv bv r v w0 w es h h0 hm hmo hlt) ?_
      rintro e w3 ⟨rfl, gv', iv', vv', bv', q1⟩
      exact ⟨_, _, _, gv', iv', vv', bv', _, rfl, .inr (.inl ⟨h0, hlt, rfl, rfl, rfl, rfl⟩), q1⟩
    · refine Calls.mono (ref_take_full B m gv iv vv bv r v w0 w es h h0 hm hmo (by omega)) ?_
      rintro e w3 ⟨rfl, q1⟩
      exact ⟨_, _, _, gv, iv, vv, bv, _, rfl, .inl ⟨h0, by omega, rfl, rfl, rfl, rfl⟩, h.later q1⟩
  · have h2 : r.free = fs ++ [i] := by simpa using h0
    have hx := List.getElem?_eq_getElem (hfl i (by rw [h2]; simp))
    refine Calls.mono (ref_take_back B m gv iv vv bv r v i fs _ w0 w es h h2 hx hm hf) ?_
    rintro e w3 ⟨rfl, bv', q1⟩
    exact ⟨_, _, _, gv, iv, vv, bv', _, rfl, .inr (.inr ⟨i, fs, _, h2, hx, rfl, rfl, rfl, rfl⟩), q1⟩
end
/-- Two parts of a ledger change places. -/
theorem Led.swapA {B : Nat} {w0 w : World} {A C es : List Ent} (h : Led B w0 w (A ++ (C ++ es))) : Led B w0 w (C ++ (A ++ es)) := by
  rw [← List.append_assoc] at h ⊢
  exact h.perm (List.perm_append_comm.append_right es)
end Go.Proofs.Ytjabofofofddbaa
