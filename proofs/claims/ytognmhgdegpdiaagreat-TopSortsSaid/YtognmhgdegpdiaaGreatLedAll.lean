import Derived.Test.YtognmhgdegpdiaaGreatTab
import Derived.Great.BuildSlice
import Derived.Great.Frames
section
/- A ledger: things in memory that lie apart, each with the blocks that it lies in; since the caller's world nothing below B has turned. -/
namespace Go.Proofs.YtognmhgdegpdiaaGreat
open Go.RowKit
set_option linter.unusedVariables false
set_option linter.unusedSimpArgs false
structure Ent where
  fp : List Nat
  is : World → Prop
  loc : ∀ {w w' : World} {fp' : List Nat}, Chg fp' w w' → Apart fp fp' → is w → is w'
  lt : ∀ {w : World}, is w → ∀ b, b ∈ fp → b < w.heap.size
structure Led (B : Nat) (w0 w : World) (es : List Ent) : Prop where
  be : Below B w0 w
  hs : B ≤ w0.heap.size
  all : ∀ e, e ∈ es → e.is w
  lo : ∀ e, e ∈ es → ∀ b, b ∈ e.fp → B ≤ b
  ap : es.Pairwise fun e f => Apart e.fp f.fp
theorem pairwise_set {α : Type} {R : α → α → Prop} (hsym : ∀ a b, R a b → R b a) : ∀ (l : List α) (i : Nat) (x y : α), l.Pairwise R → l[i]? = some x → (∀ z, z ∈ l → R x z → R y z) → (l.set i y).Pairwise R
  | [], _, _, _, _, h, _ => by simp at h
  | a :: l, 0, x, y, hp, h, hr => by
    simp at h
    subst h
    rw [List.pairwise_cons] at hp
    rw [List.set_cons_zero, List.pairwise_cons]
    exact ⟨fun z hz => hr z (by simp [hz]) (hp.1 z hz), hp.2⟩
  | a :: l, i + 1, x, y, hp, h, hr => by
    simp at h
    rw [List.pairwise_cons] at hp
    rw [List.set_cons_succ, List.pairwise_cons]
    refine ⟨fun z hz => ?_, pairwise_set hsym l i x y hp.2 h fun z hz => hr z (by simp [hz])⟩
    rcases List.mem_or_eq_of_mem_set hz with hz | rfl
    · exact hp.1 z hz
    · exact hsym _ _ (hr a (by simp) (hsym _ _ (hp.1 x (List.mem_of_getElem? h))))
theorem pairwise_at {α : Type} {R : α → α → Prop} (hsym : ∀ a b, R a b → R b a) {l : List α} (hp : l.Pairwise R) {i j : Nat} {a b : α} (hi : l[i]? = some a) (hj : l[j]? = some b) (hij : i ≠ j) : R a b := by
  obtain ⟨hi1, rfl⟩ := List.getElem?_eq_some_iff.1 hi
  obtain ⟨hj1, rfl⟩ := List.getElem?_eq_some_iff.1 hj
  rcases Nat.lt_or_ge i j with hlt | hge
  · exact List.pairwise_iff_getElem.1 hp i j hi1 hj1 hlt
  · exact hsym _ _ (List.pairwise_iff_getElem.1 hp j i hj1 hi1 (by omega))
section
variable {B : Nat} {w0 w w' : World} {es : List Ent} {e e' : Ent}
theorem Led.at_ (h : Led B w0 w es) (i : Nat) (hi : es[i]? = some e) : e.is w := h.all e (List.mem_of_getElem? hi)
theorem Led.sub {fs : List Ent} (h : Led B w0 w es) (hs : fs.Sublist es) : Led B w0 w fs :=
  ⟨h.be, h.hs, fun e he => h.all e (hs.subset he), fun e he => h.lo e (hs.subset he), h.ap.sublist hs⟩
theorem Led.later (h : Led B w0 w es) (hb : Below w.heap.size w w') : Led B w0 w' es :=
  ⟨h.be.trans (hb.mono (Nat.le_trans h.hs h.be.size)), h.hs, fun e he => e.loc (Chg.of_below hb []) (by simp [Apart]) (h.all e he), h.lo, h.ap⟩
theorem Led.alloc (h : Led B w0 w es) (o : Obj) : Led B w0 (w.alloc o) es := h.later ((Below.refl _ _).alloc (Nat.le_refl _) _)
theorem Led.drewN (h : Led B w0 w es) (k : Nat) : Led B w0 (w.drewN k) es := h.later (below_drewN (Below.refl _ _) k)
theorem Led.drew (h : Led B w0 w es) : Led B w0 w.drew es := h.drewN 1
theorem Led.step (h : Led B w0 w es) (i : Nat) (hi : es[i]? = some e) (e' : Ent) (hc : Chg e.fp w w') (h2 : e'.is w') (hf : Fresh e.fp e'.fp w) : Led B w0 w' (es.set i e') := by
  have hlo : ∀ b, b ∈ e'.fp → B ≤ b := fun b hb => by
    rcases hf b hb with h1 | h1
    · exact h.lo e (List.mem_of_getElem? hi) b h1
    · have h3 := h.be.size
      have h4 := h.hs
      omega
  refine ⟨h.be.trans (hc.below (h.lo e (List.mem_of_getElem? hi)) (Nat.le_trans h.hs h.be.size)), h.hs, ?_, ?_, ?_⟩
  · intro f hf2
    obtain ⟨j, hj⟩ := List.getElem?_of_mem hf2
    by_cases hij : i = j
    · subst hij
      rw [List.getElem?_set_self (List.getElem?_eq_some_iff.1 hi).1] at hj
      injection hj with hj
      subst hj
      exact h2
    · rw [List.getElem?_set_ne hij] at hj
      exact f.loc hc (pairwise_at (R := fun (e f : Ent) => Apart e.fp f.fp) (fun _ _ => Apart.symm) h.ap hj hi (fun e => hij e.symm)) (h.at_ j hj)
  · intro f hf2
    rcases List.mem_or_eq_of_mem_set hf2 with h1 | rfl
    · exact h.lo f h1
    · exact hlo
  · exact pairwise_set (fun _ _ => Apart.symm) es i e e' h.ap hi fun z hz hr => hr.fresh hf (z.lt (h.all z hz))
theorem Led.add (h : Led B w0 w es) (e : Ent) (hb : Below w.heap.size w w') (he : e.is w') (hf : ∀ b, b ∈ e.fp → w.heap.size ≤ b) : Led B w0 w' (e :: es) := by
  have h1 := h.later hb
  refine ⟨h1.be, h1.hs, ?_, ?_, ?_⟩
  · intro f hf2
    rcases List.mem_cons.1 hf2 with rfl | hf2
    · exact he
    · exact h1.all f hf2
  · intro f hf2
    rcases List.mem_cons.1 hf2 with rfl | hf2
    · intro b hb2
      have h3 := h.be.size
      have h4 := h.hs
      have := hf b hb2
      omega
    · exact h1.lo f hf2
  · rw [List.pairwise_cons]
    refine ⟨fun f hf2 x hx hy => ?_, h.ap⟩
    have h3 := f.lt (h.all f hf2) x hy
    have := hf x hx
    omega
theorem Led.perm {fs : List Ent} (h : Led B w0 w es) (hp : es.Perm fs) : Led B w0 w fs :=
  ⟨h.be, h.hs, fun e he => h.all e (hp.mem_iff.2 he), fun e he => h.lo e (hp.mem_iff.2 he), hp.pairwise (R := fun (e f : Ent) => Apart e.fp f.fp) h.ap fun {_ _} => Apart.symm⟩
theorem Led.apart (h : Led B w0 w es) (i j : Nat) (hi : es[i]? = some e) (hj : es[j]? = some e') (hij : i ≠ j) : Apart e.fp e'.fp :=
  pairwise_at (R := fun (e f : Ent) => Apart e.fp f.fp) (fun _ _ => Apart.symm) h.ap hi hj hij
theorem Led.swap {a b : Ent} (h : Led B w0 w (a :: b :: es)) : Led B w0 w (b :: a :: es) := h.perm (List.Perm.swap _ _ _)
theorem Led.tail {a : Ent} (h : Led B w0 w (a :: es)) : Led B w0 w es := h.sub (List.sublist_cons_self _ _)
end
def blkE (g : Nat) (t : TypeId) (cs : Array Value) : Ent :=
  ⟨[g], fun w => Blk w g t cs, fun hc ha h => h.chg hc (ha g (by simp)), fun h b hb => by simp at hb; subst hb; exact h.lt⟩
def tabE (e : TypeId) (sz : Nat) (v : Value) (L : List (List Value)) : Ent :=
  ⟨v.ownBlock.toList, fun w => TabIs w 0 e sz v L, fun hc ha h => h.chg hc ha, fun h b hb => (h.lt b hb).2⟩
end Go.Proofs.YtognmhgdegpdiaaGreat
end
section
/- Several appends in one region that draws its order: whatever the order, each slice has got its one element. -/
namespace Go.Proofs.YtognmhgdegpdiaaGreat
open Go.RowKit
set_option linter.unusedVariables false
set_option linter.unusedSimpArgs false
section
variable {B : Nat} {w0 w w' : World} {es fs : List Ent} {e e' : Ent}
theorem Led.insert (h : Led B w0 w (es ++ fs)) (e : Ent) (hb : Below w.heap.size w w') (he : e.is w') (hf : ∀ b, b ∈ e.fp → w.heap.size ≤ b) : Led B w0 w' (es ++ e :: fs) :=
  (h.add e hb he hf).perm List.perm_middle.symm
theorem Led.mid (h : Led B w0 w (es ++ e :: fs)) (e' : Ent) (hc : Chg e.fp w w') (h2 : e'.is w') (hf : Fresh e.fp e'.fp w) : Led B w0 w' (es ++ e' :: fs) := by
  have h1 := h.step es.length (e := e) (by simp) e' hc h2 hf
  rw [List.set_append_right _ _ (Nat.le_refl _), Nat.sub_self, List.set_cons_zero] at h1
  exact h1
theorem Led.mem (h : Led B w0 w (es ++ e :: fs)) : e.is w := h.all e (by simp)
end
structure Ap where
  ib : Nat
  ia : Nat
  tb : Tmp
  tv : Tmp
  st : TypeId
  t : TypeId
  sz : Nat
  by_ : Nat
  z : Value
  so : Operand
  xo : Operand
  v : Value
  L : List (List Value)
  cs : Array Value
  x : Value
inductive Sta where
  | no
  | bl (g : Nat)
  | ap (g : Nat) (v : Value)
def Sta.num : Sta → Nat
  | .no => 0
  | .bl _ => 1
  | .ap _ _ => 2
def Sta.ents (p : Ap) : Sta → List Ent
  | .no => [tabE p.t p.sz p.v p.L]
  | .bl g => [tabE p.t p.sz p.v p.L, blkE g p.t p.cs]
  | .ap _ v => [tabE p.t p.sz v (p.L ++ [p.cs.toList])]
def left (zs : List (Ap × Sta)) : Nat := (zs.map fun z => 2 - z.2.num).sum
def tmps (ps : List Ap) : List Tmp := ps.flatMap fun p => [p.tb, p.tv]
theorem put_tmps (a : Act) (t : Tmp) (v : Value) : (a.put (some t) v).tmps = a.tmps.setIfInBounds t v := rfl
theorem eval_put_ne (a : Act) (t : Tmp) (v : Value) (x : Operand) (h : x ≠ .tmp t) : (a.put (some t) v).eval x = a.eval x :=
  Act.eval_put fun d hd => by injection hd with hd; rw [← hd]; exact h
section
variable {P : Program} {ops : Array Oper} {Q : Exit → Act → World → Prop} {md : Region.Mode} {S : World → Prop} {B : Nat} {w0 : World} {es : List Ent}
theorem split_at {α : Type} {l : List α} {j : Nat} {x : α} (h : l[j]? = some x) : l = l.take j ++ x :: l.drop (j + 1) := by
  obtain ⟨hj, rfl⟩ := List.getElem?_eq_some_iff.1 h
  rw [← List.drop_eq_getElem_cons hj, List.take_append_drop]
theorem wpAnyH_read {i : Nat} {d : Tmp} {oi : Oper} {v : Value} {fuel : Nat} {listed : Array Bool} {a : Act} {w : World} (hi : ops[i]? = some oi) (hd : oi.dst = some d) (hg : oi.guard = none)
    (hs : Region.noSelect ops = true) (hf : Region.free md ops listed i = true) (hr : (Region.ready md ops listed).contains i = true)
    (hQ : ∀ c a w, Q (.panic c) (a.put oi.dst v) w → Q (.panic c) a w) (hS : S w) (hy : ∀ w, S w → (execOp a.eval oi).run P w = .ok (.value v) w)
    (h : wpAnyH P md ops Q S fuel (listed.setIfInBounds i true) ⟨a.tmps.setIfInBounds d v, a.defers⟩ w) : wpAnyH P md ops Q S (fuel + 1) listed a w := by
  refine wpAnyH_take hi hs hf hr hQ (.inl ⟨by simp [Region.wanted, hg], hy⟩) hS ?_
  rw [hd]
  exact h
end
end Go.Proofs.YtognmhgdegpdiaaGreat
end
