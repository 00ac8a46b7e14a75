/- A pool of int64 and the document's own, side by side: what a call of the one does, that of the other does. -/
import Derived.Test.YtjabofofofddbaaPoolSim
import Derived.Test.YtjabofofofddbaaPoolAllI
import Derived.Test.YtjabofofofddbaaRefPool5
namespace Go.Proofs.Ytjabofofofddbaa
open Go.RowKit
set_option linter.unusedVariables false
set_option linter.unusedSimpArgs false
set_option maxRecDepth 100000

/-- The pool of int64 as a thing in memory. -/
def p64E (p : Nat) (lv fv : Value) (s : PSt Int) : Ent := poolE 132 143 3 3 (fun (v : Int) => [Value.int .i64 v]) p lv fv s
/-- Both pools, and what else there is. -/
def bothL (m : Nat) (gv iv vv bv : Value) (r : PSt Int) (p : Nat) (lv fv : Value) (s : PSt Int) (es : List Ent) : List Ent := refEs m gv iv vv bv r ++ p64E p lv fv s :: es

/-- What a Give of both is to answer, and to leave. -/
def GiveRel (s r : PSt Int) (a b u e0 : Int) (s' r' : PSt Int) : Prop :=
  (e0 ≠ 0 ∧ s.look a b = e0 ∧ u = 0 ∧ s' = s ∧ r' = r) ∨ (∃ (i : Nat) (x y : Pl Int), a = i ∧ b = x.gen ∧ s.l[i]? = some x ∧ r.l[i]? = some y ∧ x.taken = true ∧ 1 ≤ x.gen ∧ e0 = 0 ∧ u = x.v ∧ s' = s.giveAt i x 0 ∧ r' = r.giveAt i y y.v)
def GetRel (s r : PSt Int) (a b u e0 : Int) : Prop :=
  (e0 ≠ 0 ∧ s.look a b = e0 ∧ u = 0) ∨ (∃ (i : Nat) (x y : Pl Int), a = i ∧ b = x.gen ∧ s.l[i]? = some x ∧ r.l[i]? = some y ∧ x.taken = true ∧ 1 ≤ x.gen ∧ e0 = 0 ∧ u = x.v)
def SetRel (s r : PSt Int) (a b v e0 : Int) (s' r' : PSt Int) : Prop :=
  (e0 ≠ 0 ∧ s.look a b = e0 ∧ s' = s ∧ r' = r) ∨ (∃ (i : Nat) (x y : Pl Int), a = i ∧ b = x.gen ∧ s.l[i]? = some x ∧ r.l[i]? = some y ∧ x.taken = true ∧ 1 ≤ x.gen ∧ e0 = 0 ∧ s' = s.setAt i x v ∧ r' = r.setAt i y v)
def TakeRel (s r : PSt Int) (v a g : Int) (ok : Bool) (s' r' : PSt Int) : Prop :=
  (s.free = [] ∧ s.most ≤ s.l.length ∧ a = 0 ∧ g = 0 ∧ ok = false ∧ s' = s ∧ r' = r) ∨ (s.free = [] ∧ s.l.length < s.most ∧ a = s.l.length ∧ g = 1 ∧ ok = true ∧ s' = s.fresh v ∧ r' = r.fresh v) ∨
  (∃ (i : Nat) (fs : List Nat) (x y : Pl Int), s.free = fs ++ [i] ∧ s.l[i]? = some x ∧ r.l[i]? = some y ∧ a = i ∧ g = wrap64 (x.gen + 1) ∧ ok = true ∧ s' = s.retake i fs x v ∧ r' = r.retake i fs y v)

section
variable {s r s' r' : PSt Int}
theorem GiveRel.sim {a b u e0 : Int} (h : GiveRel s r a b u e0 s' r') (hs : Sim Eq s r) : Sim Eq s' r' := by
  rcases h with ⟨_, _, _, rfl, rfl⟩ | ⟨i, x, y, _, _, hx, hy, _, _, _, _, rfl, rfl⟩
  · exact hs
  · exact hs.giveAt hx hy
theorem SetRel.sim {a b v e0 : Int} (h : SetRel s r a b v e0 s' r') (hs : Sim Eq s r) : Sim Eq s' r' := by
  rcases h with ⟨_, _, rfl, rfl⟩ | ⟨i, x, y, _, _, hx, hy, _, _, _, rfl, rfl⟩
  · exact hs
  · exact hs.setAt hx hy rfl
theorem TakeRel.sim {v a g : Int} {ok : Bool} (h : TakeRel s r v a g ok s' r') (hs : Sim Eq s r) : Sim Eq s' r' := by
  rcases h with ⟨_, _, _, _, _, rfl, rfl⟩ | ⟨_, _, _, _, _, rfl, rfl⟩ | ⟨i, fs, x, y, _, hx, hy, _, _, _, rfl, rfl⟩
  · exact hs
  · exact hs.fresh rfl
  · exact hs.retake hx hy rfl
end

section
variable {B m p : Nat} {gv iv vv bv lv fv : Value} {s r : PSt Int} {w0 w : World} {es : List Ent}
theorem both_is (h : Led B w0 w (bothL m gv iv vv bv r p lv fv s es)) : PoolIs w 132 143 3 3 (fun (v : Int) => [Value.int .i64 v]) p lv fv s := h.at_ 5 rfl
theorem both_step {w' : World} {lv' fv' : Value} {s' : PSt Int} (h : Led B w0 w (bothL m gv iv vv bv r p lv fv s es)) (h2 : PoolIs w' 132 143 3 3 (fun (v : Int) => [Value.int .i64 v]) p lv' fv' s') (hc : Chg (poolFp p lv fv) w w') (hf : Fresh (poolFp p lv fv) (poolFp p lv' fv') w) : Led B w0 w' (bothL m gv iv vv bv r p lv' fv' s' es) :=
  h.step 5 rfl (p64E p lv' fv' s') hc h2 hf
theorem both_len (h : Led B w0 w (bothL m gv iv vv bv r p lv fv s es)) (hs : Sim Eq s r) : r.l.length ≤ 65536 ∧ r.free.length ≤ 65536 ∧ r.most ≤ 65536 := by
  have hw := (both_is h).wf
  have h1 := hw.le
  have h2 := hw.most
  have h3 := hw.free_le
  rw [hs.len] at h1 h3
  rw [hs.most] at h1 h2
  rw [hs.free] at h3
  omega
end

theorem give_real (B m p : Nat) (gv iv vv bv lv fv : Value) (s r : PSt Int) (a b : Int) (w0 w : World) (es : List Ent) (h : Led B w0 w (bothL m gv iv vv bv r p lv fv s es)) (hs : Sim Eq s r) :
    Calls Try.prog 62 #[.pointer (some ⟨p, 0, none⟩), .agg #[.int .i64 a, .int .i64 b]] w fun e w' => ∃ u e0 lv' fv' s' r', e = .returned (.tuple #[.int .i64 u, .int .i64 e0]) ∧ Led B w0 w' (bothL m gv iv vv bv r p lv' fv' s' es) ∧ GiveRel s r a b u e0 s' r' := by
  by_cases he : s.look a b = 0
  · obtain ⟨i, x, rfl, hx, rfl, ht, hg⟩ := PSt.look_zero he
    obtain ⟨y, hy, _⟩ := hs.get hx
    refine Calls.mono (pool_give_ok_i64 p lv fv s i x w (both_is h) hx ht hg) ?_
    rintro e w3 ⟨rfl, fv', q1, q2, q3⟩
    exact ⟨_, _, _, _, _, _, rfl, both_step h q1 q2 q3, .inr ⟨i, x, y, rfl, rfl, hx, hy, ht, hg, rfl, rfl, rfl, rfl⟩⟩
  · refine Calls.mono (pool_give_bad_i64 p lv fv s a b _ w (both_is h) rfl he) ?_
    rintro e w3 ⟨rfl, q1⟩
    exact ⟨_, _, _, _, _, _, rfl, h.later q1, .inl ⟨he, rfl, rfl, rfl, rfl⟩⟩
theorem give_ref (B m p : Nat) (gv iv vv bv lv fv : Value) (s r s' r' : PSt Int) (a b u e0 : Int) (w0 w : World) (es : List Ent) (h : Led B w0 w (bothL m gv iv vv bv r p lv fv s' es)) (hr : GiveRel s r a b u e0 s' r') (hs : Sim Eq s r) (hl : r.l.length ≤ 65536 ∧ r.free.length ≤ 65536) :
    Calls Try.prog 66 #[.pointer (some ⟨m, 0, none⟩), .agg #[.int .i64 a, .int .i64 b]] w fun e w' => e = .returned (.tuple #[.int .i64 u, .int .i64 e0]) ∧ ∃ bv', Led B w0 w' (bothL m gv iv vv bv' r' p lv fv s' es) := by
  rcases hr with ⟨h0, h1, rfl, rfl, rfl⟩ | ⟨i, x, y, rfl, rfl, hx, hy, ht, hg, rfl, rfl, rfl, rfl⟩
  · refine Calls.mono (ref_give_bad B m gv iv vv bv _ a b e0 w0 w _ h hl.1 ((hs.look a b).trans h1) h0) ?_
    rintro e w3 ⟨rfl, q1⟩
    exact ⟨rfl, _, h.later q1⟩
  · obtain ⟨e1, e2, e3⟩ := hs.at_ i x y hx hy
    rw [e3 ht, e1]
    refine Calls.mono (ref_give_ok B m gv iv vv bv r i y w0 w _ h hl.1 hy (by rw [← e2]; exact ht) (by rw [← e1]; exact hg) hl.2) ?_
    rintro e w3 ⟨rfl, bv', q1⟩
    exact ⟨rfl, bv', q1⟩
theorem get_real (B m p : Nat) (gv iv vv bv lv fv : Value) (s r : PSt Int) (a b : Int) (w0 w : World) (es : List Ent) (h : Led B w0 w (bothL m gv iv vv bv r p lv fv s es)) (hs : Sim Eq s r) :
    Calls Try.prog 63 #[.pointer (some ⟨p, 0, none⟩), .agg #[.int .i64 a, .int .i64 b]] w fun e w' => ∃ u e0, e = .returned (.tuple #[.int .i64 u, .int .i64 e0]) ∧ Led B w0 w' (bothL m gv iv vv bv r p lv fv s es) ∧ GetRel s r a b u e0 := by
  by_cases he : s.look a b = 0
  · obtain ⟨i, x, rfl, hx, rfl, ht, hg⟩ := PSt.look_zero he
    obtain ⟨y, hy, _⟩ := hs.get hx
    refine Calls.mono (pool_get_ok_i64 p lv fv s i x w (both_is h) hx ht hg) ?_
    rintro e w3 ⟨rfl, q1⟩
    exact ⟨_, _, rfl, h.later q1, .inr ⟨i, x, y, rfl, rfl, hx, hy, ht, hg, rfl, rfl⟩⟩
  · refine Calls.mono (pool_get_bad_i64 p lv fv s a b _ w (both_is h) rfl he) ?_
    rintro e w3 ⟨rfl, q1⟩
    exact ⟨_, _, rfl, h.later q1, .inl ⟨he, rfl, rfl⟩⟩
theorem get_ref (B m p : Nat) (gv iv vv bv lv fv : Value) (s r : PSt Int) (a b u e0 : Int) (w0 w : World) (es : List Ent) (h : Led B w0 w (bothL m gv iv vv bv r p lv fv s es)) (hr : GetRel s r a b u e0) (hs : Sim Eq s r) (hl : r.l.length ≤ 65536) :
    Calls Try.prog 67 #[.pointer (some ⟨m, 0, none⟩), .agg #[.int .i64 a, .int .i64 b]] w fun e w' => e = .returned (.tuple #[.int .i64 u, .int .i64 e0]) ∧ Led B w0 w' (bothL m gv iv vv bv r p lv fv s es) := by
  rcases hr with ⟨h0, h1, rfl⟩ | ⟨i, x, y, rfl, rfl, hx, hy, ht, hg, rfl, rfl⟩
  · refine Calls.mono (ref_get_bad B m gv iv vv bv r a b e0 w0 w _ h hl ((hs.look a b).trans h1) h0) ?_
    rintro e w3 ⟨rfl, q1⟩
    exact ⟨rfl, h.later q1⟩
  · obtain ⟨e1, e2, e3⟩ := hs.at_ i x y hx hy
    rw [e3 ht, e1]
    refine Calls.mono (ref_get_ok B m gv iv vv bv r i y w0 w _ h hl hy (by rw [← e2]; exact ht) (by rw [← e1]; exact hg)) ?_
    rintro e w3 ⟨rfl, q1⟩
    exact ⟨rfl, h.later q1⟩
theorem set_real (B m p : Nat) (gv iv vv bv lv fv : Value) (s r : PSt Int) (a b v : Int) (w0 w : World) (es : List Ent) (h : Led B w0 w (bothL m gv iv vv bv r p lv fv s es)) (hs : Sim Eq s r) :
    Calls Try.prog 68 #[.pointer (some ⟨p, 0, none⟩), .agg #[.int .i64 a, .int .i64 b], .int .i64 v] w fun e w' => ∃ e0 s' r', e = .returned (.int .i64 e0) ∧ Led B w0 w' (bothL m gv iv vv bv r p lv fv s' es) ∧ SetRel s r a b v e0 s' r' := by
  by_cases he : s.look a b = 0
  · obtain ⟨i, x, rfl, hx, rfl, ht, hg⟩ := PSt.look_zero he
    obtain ⟨y, hy, _⟩ := hs.get hx
    refine Calls.mono (pool_set_ok_i64 p lv fv s i x v w (both_is h) hx ht hg) ?_
    rintro e w3 ⟨rfl, q1, q2⟩
    exact ⟨_, _, _, rfl, both_step h q1 q2 (Fresh.refl _ _), .inr ⟨i, x, y, rfl, rfl, hx, hy, ht, hg, rfl, rfl, rfl⟩⟩
  · refine Calls.mono (pool_set_bad_i64 p lv fv s a b v _ w (both_is h) rfl he) ?_
    rintro e w3 ⟨rfl, q1⟩
    exact ⟨_, _, _, rfl, h.later q1, .inl ⟨he, rfl, rfl, rfl⟩⟩
theorem set_ref (B m p : Nat) (gv iv vv bv lv fv : Value) (s r s' r' : PSt Int) (a b v e0 : Int) (w0 w : World) (es : List Ent) (h : Led B w0 w (bothL m gv iv vv bv r p lv fv s' es)) (hr : SetRel s r a b v e0 s' r') (hs : Sim Eq s r) (hl : r.l.length ≤ 65536) :
    Calls Try.prog 69 #[.pointer (some ⟨m, 0, none⟩), .agg #[.int .i64 a, .int .i64 b], .int .i64 v] w fun e w' => e = .returned (.int .i64 e0) ∧ Led B w0 w' (bothL m gv iv vv bv r' p lv fv s' es) := by
  rcases hr with ⟨h0, h1, rfl, rfl⟩ | ⟨i, x, y, rfl, rfl, hx, hy, ht, hg, rfl, rfl, rfl⟩
  · refine Calls.mono (ref_set_bad B m gv iv vv bv _ a b e0 v w0 w _ h hl ((hs.look a b).trans h1) h0) ?_
    rintro e w3 ⟨rfl, q1⟩
    exact ⟨rfl, h.later q1⟩
  · obtain ⟨e1, e2, e3⟩ := hs.at_ i x y hx hy
    rw [e1]
    refine Calls.mono (ref_set_ok B m gv iv vv bv r i y v w0 w _ h hl hy (by rw [← e2]; exact ht) (by rw [← e1]; exact hg)) ?_
    rintro e w3 ⟨rfl, q1⟩
    exact ⟨rfl, q1⟩
theorem take_real (B m p : Nat) (gv iv vv bv lv fv : Value) (s r : PSt Int) (v : Int) (w0 w : World) (es : List Ent) (h : Led B w0 w (bothL m gv iv vv bv r p lv fv s es)) (hs : Sim Eq s r) :
    Calls Try.prog 61 #[.pointer (some ⟨p, 0, none⟩), .int .i64 v] w fun e w' => ∃ a g ok lv' fv' s' r', e = .returned (.tuple #[.agg #[.int .i64 a, .int .i64 g], .bool ok]) ∧ Led B w0 w' (bothL m gv iv vv bv r p lv' fv' s' es) ∧ TakeRel s r v a g ok s' r' := by
  rcases List.eq_nil_or_concat s.free with hf | ⟨fs, i, hf⟩
  · by_cases hlt : s.l.length < s.most
    · refine Calls.mono (pool_take_fresh_i64 p lv fv s v w (both_is h) hf hlt) ?_
      rintro e w3 ⟨rfl, lv', fv', q1, q2, q3⟩
      exact ⟨_, _, _, _, _, _, _, rfl, both_step h q1 q2 q3, .inr (.inl ⟨hf, hlt, rfl, rfl, rfl, rfl, rfl⟩)⟩
    · refine Calls.mono (pool_take_full_i64 p lv fv s v w (both_is h) hf (by omega)) ?_
      rintro e w3 ⟨rfl, q1⟩
      exact ⟨_, _, _, _, _, _, _, rfl, h.later q1, .inl ⟨hf, by omega, rfl, rfl, rfl, rfl, rfl⟩⟩
  · have hf2 : s.free = fs ++ [i] := by simpa using hf
    obtain ⟨x, hx, _⟩ := (both_is h).wf.free_lt (i := i) (by rw [hf2]; simp)
    obtain ⟨y, hy, _⟩ := hs.get hx
    refine Calls.mono (pool_take_back_i64 p lv fv s v i fs x w (both_is h) hf2 hx) ?_
    rintro e w3 ⟨rfl, lv', fv', q1, q2, q3⟩
    exact ⟨_, _, _, _, _, _, _, rfl, both_step h q1 q2 q3, .inr (.inr ⟨i, fs, x, y, hf2, hx, hy, rfl, rfl, rfl, rfl, rfl⟩)⟩
theorem take_ref (B m p : Nat) (gv iv vv bv lv fv : Value) (s r s' r' : PSt Int) (v a g : Int) (ok : Bool) (w0 w : World) (es : List Ent) (h : Led B w0 w (bothL m gv iv vv bv r p lv fv s' es)) (hr : TakeRel s r v a g ok s' r') (hs : Sim Eq s r) (hl : r.l.length ≤ 65536 ∧ r.free.length ≤ 65536 ∧ r.most ≤ 65536) :
    Calls Try.prog 70 #[.pointer (some ⟨m, 0, none⟩), .int .i64 v] w fun e w' => e = .returned (.tuple #[.agg #[.int .i64 a, .int .i64 g], .bool ok]) ∧ ∃ gv' iv' vv' bv', Led B w0 w' (bothL m gv' iv' vv' bv' r' p lv fv s' es) := by
  rcases hr with ⟨hf, h1, rfl, rfl, rfl, rfl, rfl⟩ | ⟨hf, h1, rfl, rfl, rfl, rfl, rfl⟩ | ⟨i, fs, x, y, hf, hx, hy, rfl, rfl, rfl, rfl, rfl⟩
  · refine Calls.mono (ref_take_full B m gv iv vv bv _ v w0 w _ h (hs.free ▸ hf) hl.1 hl.2.2 (by rw [← hs.most, ← hs.len]; exact h1)) ?_
    rintro e w3 ⟨rfl, q1⟩
    exact ⟨rfl, _, _, _, _, h.later q1⟩
  · rw [hs.len]
    refine Calls.mono (ref_take_fresh B m gv iv vv bv r v w0 w _ h (hs.free ▸ hf) hl.1 hl.2.2 (by rw [← hs.most, ← hs.len]; exact h1)) ?_
    rintro e w3 ⟨rfl, gv', iv', vv', bv', q1⟩
    exact ⟨rfl, _, _, _, _, q1⟩
  · rw [(hs.at_ i x y hx hy).1]
    refine Calls.mono (ref_take_back B m gv iv vv bv r v i fs y w0 w _ h (hs.free ▸ hf) hy hl.1 hl.2.1) ?_
    rintro e w3 ⟨rfl, bv', q1⟩
    exact ⟨rfl, _, _, _, _, q1⟩
end Go.Proofs.Ytjabofofofddbaa
