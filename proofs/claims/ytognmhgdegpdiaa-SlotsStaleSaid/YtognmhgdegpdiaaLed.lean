/- A ledger: things in memory that lie apart, each with the blocks that it lies in; since the caller's world nothing below B has turned. -/
import Derived.Test.YtognmhgdegpdiaaTab
namespace Go.Proofs.Ytognmhgdegpdiaa
open Go.RowKit
set_option linter.unusedVariables false
set_option linter.unusedSimpArgs false

/-- A thing in memory: the blocks that it lies in, what it says of a world; it hangs on those blocks alone. -/
structure Ent where
  fp : List Nat
  is : World → Prop
  loc : ∀ {w w' : World} {fp' : List Nat}, Chg fp' w w' → Apart fp fp' → is w → is w'
  lt : ∀ {w : World}, is w → ∀ b, b ∈ fp → b < w.heap.size

/-- Each of the things is there; they lie apart, and from B on; since w0 nothing below B has turned. -/
structure Led (B : Nat) (w0 w : World) (es : List Ent) : Prop where
  be : Below B w0 w
  hs : B ≤ w0.heap.size
  all : ∀ e, e ∈ es → e.is w
  lo : ∀ e, e ∈ es → ∀ b, b ∈ e.fp → B ≤ b
  ap : es.Pairwise fun e f => Apart e.fp f.fp

theorem pairwise_set {α : Type} {R : α → α → Prop} (hsym : ∀ a b, R a b → R b a) : ∀ (l : List α) (i : Nat) (x y : α), l.Pairwise R → l[i]? = some x → (∀ z, z ∈ l → R x z → R y z) → (l.set i y).Pairwise R
  | [], _, _, _, _, h, _ => by simp at h
  | a :: l, 0, x, y, hp, h, hr => by
    simp at h
    subst h
    rw [List.pairwise_cons] at hp
    rw [List.set_cons_zero, List.pairwise_cons]
    exact ⟨fun z hz => hr z (by simp [hz]) (hp.1 z hz), hp.2⟩
  | a :: l, i + 1, x, y, hp, h, hr => by
    simp at h
    rw [List.pairwise_cons] at hp
    rw [List.set_cons_succ, List.pairwise_cons]
    refine ⟨fun z hz => ?_, pairwise_set hsym l i x y hp.2 h fun z hz => hr z (by simp [hz])⟩
    rcases List.mem_or_eq_of_mem_set hz with hz | rfl
    · exact hp.1 z hz
    · exact hsym _ _ (hr a (by simp) (hsym _ _ (hp.1 x (List.mem_of_getElem? h))))

theorem pairwise_at {α : Type} {R : α → α → Prop} (hsym : ∀ a b, R a b → R b a) {l : List α} (hp : l.Pairwise R) {i j : Nat} {a b : α} (hi : l[i]? = some a) (hj : l[j]? = some b) (hij : i ≠ j) : R a b := by
  obtain ⟨hi1, rfl⟩ := List.getElem?_eq_some_iff.1 hi
  obtain ⟨hj1, rfl⟩ := List.getElem?_eq_some_iff.1 hj
  rcases Nat.lt_or_ge i j with hlt | hge
  · exact List.pairwise_iff_getElem.1 hp i j hi1 hj1 hlt
  · exact hsym _ _ (List.pairwise_iff_getElem.1 hp j i hj1 hi1 (by omega))

theorem Below.chg_nil {w w' : World} (h : Below w.heap.size w w') : Chg [] w w' := Chg.of_below h []

section
variable {B : Nat} {w0 w w' : World} {es : List Ent} {e e' : Ent}
theorem Led.at_ (h : Led B w0 w es) (i : Nat) (hi : es[i]? = some e) : e.is w := h.all e (List.mem_of_getElem? hi)
theorem Led.sub {fs : List Ent} (h : Led B w0 w es) (hs : fs.Sublist es) : Led B w0 w fs :=
  ⟨h.be, h.hs, fun e he => h.all e (hs.subset he), fun e he => h.lo e (hs.subset he), h.ap.sublist hs⟩
theorem Led.later (h : Led B w0 w es) (hb : Below w.heap.size w w') : Led B w0 w' es :=
  ⟨h.be.trans (hb.mono (Nat.le_trans h.hs h.be.size)), h.hs, fun e he => e.loc (Chg.of_below hb []) (by simp [Apart]) (h.all e he), h.lo, h.ap⟩
theorem Led.alloc (h : Led B w0 w es) (o : Obj) : Led B w0 (w.alloc o) es := h.later ((Below.refl _ _).alloc (Nat.le_refl _) _)
theorem Led.drewN (h : Led B w0 w es) (k : Nat) : Led B w0 (w.drewN k) es := h.later (below_drewN (Below.refl _ _) k)
theorem Led.drew (h : Led B w0 w es) : Led B w0 w.drew es := h.drewN 1
theorem Led.lt_ (h : Led B w0 w es) (i : Nat) (hi : es[i]? = some e) : ∀ b, b ∈ e.fp → b < w.heap.size := e.lt (h.at_ i hi)
/-- One of the things turns. -/
theorem Led.step (h : Led B w0 w es) (i : Nat) (hi : es[i]? = some e) (e' : Ent) (hc : Chg e.fp w w') (h2 : e'.is w') (hf : Fresh e.fp e'.fp w) : Led B w0 w' (es.set i e') := by
  have hlo : ∀ b, b ∈ e'.fp → B ≤ b := fun b hb => by
    rcases hf b hb with h1 | h1
    · exact h.lo e (List.mem_of_getElem? hi) b h1
    · have h3 := h.be.size
      have h4 := h.hs
      omega
  refine ⟨h.be.trans (hc.below (h.lo e (List.mem_of_getElem? hi)) (Nat.le_trans h.hs h.be.size)), h.hs, ?_, ?_, ?_⟩
  · intro f hf2
    obtain ⟨j, hj⟩ := List.getElem?_of_mem hf2
    by_cases hij : i = j
    · subst hij
      rw [List.getElem?_set_self (List.getElem?_eq_some_iff.1 hi).1] at hj
      injection hj with hj
      subst hj
      exact h2
    · rw [List.getElem?_set_ne hij] at hj
      exact f.loc hc (pairwise_at (R := fun (e f : Ent) => Apart e.fp f.fp) (fun _ _ => Apart.symm) h.ap hj hi (fun e => hij e.symm)) (h.at_ j hj)
  · intro f hf2
    rcases List.mem_or_eq_of_mem_set hf2 with h1 | rfl
    · exact h.lo f h1
    · exact hlo
  · exact pairwise_set (fun _ _ => Apart.symm) es i e e' h.ap hi fun z hz hr => hr.fresh hf (z.lt (h.all z hz))
/-- One more thing, in blocks that are new. -/
theorem Led.add (h : Led B w0 w es) (e : Ent) (hb : Below w.heap.size w w') (he : e.is w') (hf : ∀ b, b ∈ e.fp → w.heap.size ≤ b) : Led B w0 w' (e :: es) := by
  have h1 := h.later hb
  refine ⟨h1.be, h1.hs, ?_, ?_, ?_⟩
  · intro f hf2
    rcases List.mem_cons.1 hf2 with rfl | hf2
    · exact he
    · exact h1.all f hf2
  · intro f hf2
    rcases List.mem_cons.1 hf2 with rfl | hf2
    · intro b hb2
      have h3 := h.be.size
      have h4 := h.hs
      have := hf b hb2
      omega
    · exact h1.lo f hf2
  · rw [List.pairwise_cons]
    refine ⟨fun f hf2 x hx hy => ?_, h.ap⟩
    have h3 := f.lt (h.all f hf2) x hy
    have := hf x hx
    omega
theorem Led.none_ (be : Below B w0 w) (hs : B ≤ w0.heap.size) : Led B w0 w [] := ⟨be, hs, by simp, by simp, by simp⟩
theorem Led.perm {fs : List Ent} (h : Led B w0 w es) (hp : es.Perm fs) : Led B w0 w fs :=
  ⟨h.be, h.hs, fun e he => h.all e (hp.mem_iff.2 he), fun e he => h.lo e (hp.mem_iff.2 he), hp.pairwise (R := fun (e f : Ent) => Apart e.fp f.fp) h.ap fun {_ _} => Apart.symm⟩
theorem Led.apart (h : Led B w0 w es) (i j : Nat) (hi : es[i]? = some e) (hj : es[j]? = some e') (hij : i ≠ j) : Apart e.fp e'.fp :=
  pairwise_at (R := fun (e f : Ent) => Apart e.fp f.fp) (fun _ _ => Apart.symm) h.ap hi hj hij
theorem Led.swap {a b : Ent} (h : Led B w0 w (a :: b :: es)) : Led B w0 w (b :: a :: es) := h.perm (List.Perm.swap _ _ _)
theorem Led.tail {a : Ent} (h : Led B w0 w (a :: es)) : Led B w0 w es := h.sub (List.sublist_cons_self _ _)
end

/-- A block that is known whole. -/
def blkE (g : Nat) (t : TypeId) (cs : Array Value) : Ent :=
  ⟨[g], fun w => Blk w g t cs, fun hc ha h => h.chg hc (ha g (by simp)), fun h b hb => by simp at hb; subst hb; exact h.lt⟩
/-- A slice of the call's own, row by row. -/
def tabE (e : TypeId) (sz : Nat) (v : Value) (L : List (List Value)) : Ent :=
  ⟨v.ownBlock.toList, fun w => TabIs w 0 e sz v L, fun hc ha h => h.chg hc ha, fun h b hb => (h.lt b hb).2⟩
end Go.Proofs.Ytognmhgdegpdiaa
