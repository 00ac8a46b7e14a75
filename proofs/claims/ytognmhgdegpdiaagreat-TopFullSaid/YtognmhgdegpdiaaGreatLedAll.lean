import Derived.Test.YtognmhgdegpdiaaGreatTab
import Derived.Great.BuildSlice
import Derived.Great.Frames
section
/- A ledger: things in memory that lie apart, each with the blocks that it lies in; since the caller's world nothing below B has turned. -/
namespace Go.Proofs.YtognmhgdegpdiaaGreat
open Go.RowKit
set_option linter.unusedVariables false
set_option linter.unusedSimpArgs false

/-- A thing in memory: the blocks that it lies in, what it says of a world; it hangs on those blocks alone. -/
structure Ent where
  fp : List Nat
  is : World → Prop
  loc : ∀ {w w' : World} {fp' : List Nat}, Chg fp' w w' → Apart fp fp' → is w → is w'
  lt : ∀ {w : World}, is w → ∀ b, b ∈ fp → b < w.heap.size

/-- Each of the things is there; they lie apart, and from B on; since w0 nothing below B has turned. -/
structure Led (B : Nat) (w0 w : World) (es : List Ent) : Prop where
  be : Below B w0 w
  hs : B ≤ w0.heap.size
  all : ∀ e, e ∈ es → e.is w
  lo : ∀ e, e ∈ es → ∀ b, b ∈ e.fp → B ≤ b
  ap : es.Pairwise fun e f => Apart e.fp f.fp

theorem pairwise_set {α : Type} {R : α → α → Prop} (hsym : ∀ a b, R a b → R b a) : ∀ (l : List α) (i : Nat) (x y : α), l.Pairwise R → l[i]? = some x → (∀ z, z ∈ l → R x z → R y z) → (l.set i y).Pairwise R
  | [], _, _, _, _, h, _ => by simp at h
  | a :: l, 0, x, y, hp, h, hr => by
    simp at h
    subst h
    rw [List.pairwise_cons] at hp
    rw [List.set_cons_zero, List.pairwise_cons]
    exact ⟨fun z hz => hr z (by simp [hz]) (hp.1 z hz), hp.2⟩
  | a :: l, i + 1, x, y, hp, h, hr => by
    simp at h
    rw [List.pairwise_cons] at hp
    rw [List.set_cons_succ, List.pairwise_cons]
    refine ⟨fun z hz => ?_, pairwise_set hsym l i x y hp.2 h fun z hz => hr z (by simp [hz])⟩
    rcases List.mem_or_eq_of_mem_set hz with hz | rfl
    · exact hp.1 z hz
    · exact hsym _ _ (hr a (by simp) (hsym _ _ (hp.1 x (List.mem_of_getElem? h))))

theorem pairwise_at {α : Type} {R : α → α → Prop} (hsym : ∀ a b, R a b → R b a) {l : List α} (hp : l.Pairwise R) {i j : Nat} {a b : α} (hi : l[i]? = some a) (hj : l[j]? = some b) (hij : i ≠ j) : R a b := by
  obtain ⟨hi1, rfl⟩ := List.getElem?_eq_some_iff.1 hi
  obtain ⟨hj1, rfl⟩ := List.getElem?_eq_some_iff.1 hj
  rcases Nat.lt_or_ge i j with hlt | hge
  · exact List.pairwise_iff_getElem.1 hp i j hi1 hj1 hlt
  · exact hsym _ _ (List.pairwise_iff_getElem.1 hp j i hj1 hi1 (by omega))

theorem Below.chg_nil {w w' : World} (h : Below w.heap.size w w') : Chg [] w w' := Chg.of_below h []

section
variable {B : Nat} {w0 w w' : World} {es : List Ent} {e e' : Ent}
theorem Led.at_ (h : Led B w0 w es) (i : Nat) (hi : es[i]? = some e) : e.is w := h.all e (List.mem_of_getElem? hi)
theorem Led.sub {fs : List Ent} (h : Led B w0 w es) (hs : fs.Sublist es) : Led B w0 w fs :=
  ⟨h.be, h.hs, fun e he => h.all e (hs.subset he), fun e he => h.lo e (hs.subset he), h.ap.sublist hs⟩
theorem Led.later (h : Led B w0 w es) (hb : Below w.heap.size w w') : Led B w0 w' es :=
  ⟨h.be.trans (hb.mono (Nat.le_trans h.hs h.be.size)), h.hs, fun e he => e.loc (Chg.of_below hb []) (by simp [Apart]) (h.all e he), h.lo, h.ap⟩
theorem Led.alloc (h : Led B w0 w es) (o : Obj) : Led B w0 (w.alloc o) es := h.later ((Below.refl _ _).alloc (Nat.le_refl _) _)
theorem Led.drewN (h : Led B w0 w es) (k : Nat) : Led B w0 (w.drewN k) es := h.later (below_drewN (Below.refl _ _) k)
theorem Led.drew (h : Led B w0 w es) : Led B w0 w.drew es := h.drewN 1
theorem Led.lt_ (h : Led B w0 w es) (i : Nat) (hi : es[i]? = some e) : ∀ b, b ∈ e.fp → b < w.heap.size := e.lt (h.at_ i hi)
/-- One of the things turns. -/
theorem Led.step (h : Led B w0 w es) (i : Nat) (hi : es[i]? = some e) (e' : Ent) (hc : Chg e.fp w w') (h2 : e'.is w') (hf : Fresh e.fp e'.fp w) : Led B w0 w' (es.set i e') := by
  have hlo : ∀ b, b ∈ e'.fp → B ≤ b := fun b hb => by
    rcases hf b hb with h1 | h1
    · exact h.lo e (List.mem_of_getElem? hi) b h1
    · have h3 := h.be.size
      have h4 := h.hs
      omega
  refine ⟨h.be.trans (hc.below (h.lo e (List.mem_of_getElem? hi)) (Nat.le_trans h.hs h.be.size)), h.hs, ?_, ?_, ?_⟩
  · intro f hf2
    obtain ⟨j, hj⟩ := List.getElem?_of_mem hf2
    by_cases hij : i = j
    · subst hij
      rw [List.getElem?_set_self (List.getElem?_eq_some_iff.1 hi).1] at hj
      injection hj with hj
      subst hj
      exact h2
    · rw [List.getElem?_set_ne hij] at hj
      exact f.loc hc (pairwise_at (R := fun (e f : Ent) => Apart e.fp f.fp) (fun _ _ => Apart.symm) h.ap hj hi (fun e => hij e.symm)) (h.at_ j hj)
  · intro f hf2
    rcases List.mem_or_eq_of_mem_set hf2 with h1 | rfl
    · exact h.lo f h1
    · exact hlo
  · exact pairwise_set (fun _ _ => Apart.symm) es i e e' h.ap hi fun z hz hr => hr.fresh hf (z.lt (h.all z hz))
/-- One more thing, in blocks that are new. -/
theorem Led.add (h : Led B w0 w es) (e : Ent) (hb : Below w.heap.size w w') (he : e.is w') (hf : ∀ b, b ∈ e.fp → w.heap.size ≤ b) : Led B w0 w' (e :: es) := by
  have h1 := h.later hb
  refine ⟨h1.be, h1.hs, ?_, ?_, ?_⟩
  · intro f hf2
    rcases List.mem_cons.1 hf2 with rfl | hf2
    · exact he
    · exact h1.all f hf2
  · intro f hf2
    rcases List.mem_cons.1 hf2 with rfl | hf2
    · intro b hb2
      have h3 := h.be.size
      have h4 := h.hs
      have := hf b hb2
      omega
    · exact h1.lo f hf2
  · rw [List.pairwise_cons]
    refine ⟨fun f hf2 x hx hy => ?_, h.ap⟩
    have h3 := f.lt (h.all f hf2) x hy
    have := hf x hx
    omega
theorem Led.none_ (be : Below B w0 w) (hs : B ≤ w0.heap.size) : Led B w0 w [] := ⟨be, hs, by simp, by simp, by simp⟩
theorem Led.perm {fs : List Ent} (h : Led B w0 w es) (hp : es.Perm fs) : Led B w0 w fs :=
  ⟨h.be, h.hs, fun e he => h.all e (hp.mem_iff.2 he), fun e he => h.lo e (hp.mem_iff.2 he), hp.pairwise (R := fun (e f : Ent) => Apart e.fp f.fp) h.ap fun {_ _} => Apart.symm⟩
theorem Led.apart (h : Led B w0 w es) (i j : Nat) (hi : es[i]? = some e) (hj : es[j]? = some e') (hij : i ≠ j) : Apart e.fp e'.fp :=
  pairwise_at (R := fun (e f : Ent) => Apart e.fp f.fp) (fun _ _ => Apart.symm) h.ap hi hj hij
theorem Led.swap {a b : Ent} (h : Led B w0 w (a :: b :: es)) : Led B w0 w (b :: a :: es) := h.perm (List.Perm.swap _ _ _)
theorem Led.tail {a : Ent} (h : Led B w0 w (a :: es)) : Led B w0 w es := h.sub (List.sublist_cons_self _ _)
end

/-- A block that is known whole. -/
def blkE (g : Nat) (t : TypeId) (cs : Array Value) : Ent :=
  ⟨[g], fun w => Blk w g t cs, fun hc ha h => h.chg hc (ha g (by simp)), fun h b hb => by simp at hb; subst hb; exact h.lt⟩
/-- A slice of the call's own, row by row. -/
def tabE (e : TypeId) (sz : Nat) (v : Value) (L : List (List Value)) : Ent :=
  ⟨v.ownBlock.toList, fun w => TabIs w 0 e sz v L, fun hc ha h => h.chg hc ha, fun h b hb => (h.lt b hb).2⟩
end Go.Proofs.YtognmhgdegpdiaaGreat

end
section
/- Several appends in one region that draws its order: whatever the order, each slice has got its one element. -/
namespace Go.Proofs.YtognmhgdegpdiaaGreat
open Go.RowKit
set_option linter.unusedVariables false
set_option linter.unusedSimpArgs false

section
variable {B : Nat} {w0 w w' : World} {es fs : List Ent} {e e' : Ent}
theorem Led.insert (h : Led B w0 w (es ++ fs)) (e : Ent) (hb : Below w.heap.size w w') (he : e.is w') (hf : ∀ b, b ∈ e.fp → w.heap.size ≤ b) : Led B w0 w' (es ++ e :: fs) :=
  (h.add e hb he hf).perm List.perm_middle.symm
theorem Led.mid (h : Led B w0 w (es ++ e :: fs)) (e' : Ent) (hc : Chg e.fp w w') (h2 : e'.is w') (hf : Fresh e.fp e'.fp w) : Led B w0 w' (es ++ e' :: fs) := by
  have h1 := h.step es.length (e := e) (by simp) e' hc h2 hf
  rw [List.set_append_right _ _ (Nat.le_refl _), Nat.sub_self, List.set_cons_zero] at h1
  exact h1
theorem Led.mem (h : Led B w0 w (es ++ e :: fs)) : e.is w := h.all e (by simp)
end

/-- An append of one element: the numbers of its two operations, the temporaries, the element's type, size, bytes; the slice and what it holds, the element's cells. -/
structure Ap where
  ib : Nat
  ia : Nat
  tb : Tmp
  tv : Tmp
  st : TypeId
  t : TypeId
  sz : Nat
  by_ : Nat
  z : Value
  so : Operand
  xo : Operand
  v : Value
  L : List (List Value)
  cs : Array Value
  x : Value

/-- How far it is. -/
inductive Sta where
  | no
  | bl (g : Nat)
  | ap (g : Nat) (v : Value)

def Sta.num : Sta → Nat
  | .no => 0
  | .bl _ => 1
  | .ap _ _ => 2
def Sta.ents (p : Ap) : Sta → List Ent
  | .no => [tabE p.t p.sz p.v p.L]
  | .bl g => [tabE p.t p.sz p.v p.L, blkE g p.t p.cs]
  | .ap _ v => [tabE p.t p.sz v (p.L ++ [p.cs.toList])]
def Sta.puts (p : Ap) (a : Act) : Sta → Act
  | .no => a
  | .bl g => a.put (some p.tb) (.slice (some ⟨g, 0, none⟩) 1 1)
  | .ap g v => (a.put (some p.tb) (.slice (some ⟨g, 0, none⟩) 1 1)).put (some p.tv) v
def setsN (ib ia : Nat) (l : Array Bool) (s : Nat) : Array Bool := if s = 0 then l else if s = 1 then l.setIfInBounds ib true else (l.setIfInBounds ib true).setIfInBounds ia true

def foldA (a : Act) (zs : List (Ap × Sta)) : Act := zs.foldl (fun a z => z.2.puts z.1 a) a
def foldN (l : Array Bool) (zs : List ((Nat × Nat) × Nat)) : Array Bool := zs.foldl (fun l z => setsN z.1.1 z.1.2 l z.2) l
def ixs (zs : List (Ap × Sta)) : List ((Nat × Nat) × Nat) := zs.map fun z => ((z.1.ib, z.1.ia), z.2.num)
def entsOf (zs : List (Ap × Sta)) : List Ent := zs.flatMap fun z => z.2.ents z.1
def left (zs : List (Ap × Sta)) : Nat := (zs.map fun z => 2 - z.2.num).sum

/-- Appends have come up in the text's order. -/
def okS : List Nat → Bool
  | [] => true
  | s :: r => (s == 2 || r.all (· != 2)) && okS r
def seqs : Nat → List (List Nat)
  | 0 => [[]]
  | k + 1 => (seqs k).flatMap fun r => [0 :: r, 1 :: r, 2 :: r]
/-- What may come up is a build or an append that is due. -/
def rdOk (md : Region.Mode) (ops : Array Oper) (l0 : Array Bool) (ix : List (Nat × Nat)) : Bool :=
  (seqs ix.length).all fun sh => !okS sh || sh.all (· == 2) ||
    (let r := Region.ready md ops (foldN l0 (ix.zip sh))
     !r.isEmpty && r.all fun i => (List.range ix.length).any fun j =>
      (match ix[j]?, sh[j]? with
       | some (ib, ia), some s => (s == 0 && i == ib && okS (sh.set j 1)) || (s == 1 && i == ia && okS (sh.set j 2))
       | _, _ => false))

theorem mem_seqs : ∀ l : List Nat, (∀ x, x ∈ l → x ≤ 2) → l ∈ seqs l.length
  | [], _ => by simp [seqs]
  | x :: l, h => by
    simp only [List.length_cons, seqs, List.mem_flatMap]
    refine ⟨l, mem_seqs l fun y hy => h y (by simp [hy]), ?_⟩
    have := h x (by simp)
    have : x = 0 ∨ x = 1 ∨ x = 2 := by omega
    rcases this with rfl | rfl | rfl <;> simp

theorem setsN_comm (ib ia s i : Nat) (l : Array Bool) : (setsN ib ia l s).setIfInBounds i true = setsN ib ia (l.setIfInBounds i true) s := by
  have hc : ∀ (l : Array Bool) (x y : Nat), (l.setIfInBounds x true).setIfInBounds y true = (l.setIfInBounds y true).setIfInBounds x true := fun l x y => by
    by_cases h : x = y
    · rw [h]
    · exact Array.setIfInBounds_comm _ _ h
  unfold setsN
  split
  · rfl
  · split
    · exact hc _ _ _
    · rw [hc, hc l]
theorem foldN_set : ∀ (zs : List ((Nat × Nat) × Nat)) (l : Array Bool) (i : Nat), (foldN l zs).setIfInBounds i true = foldN (l.setIfInBounds i true) zs
  | [], _, _ => rfl
  | z :: zs, l, i => by
    show (foldN (setsN z.1.1 z.1.2 l z.2) zs).setIfInBounds i true = foldN (setsN z.1.1 z.1.2 (l.setIfInBounds i true) z.2) zs
    rw [foldN_set zs, setsN_comm]
theorem foldN_append (l : Array Bool) (a b : List ((Nat × Nat) × Nat)) : foldN l (a ++ b) = foldN (foldN l a) b := by simp [foldN]

def tmps (ps : List Ap) : List Tmp := ps.flatMap fun p => [p.tb, p.tv]
theorem puts_put (p : Ap) (s : Sta) (a : Act) (t : Tmp) (v : Value) (h1 : t ≠ p.tb) (h2 : t ≠ p.tv) : (s.puts p a).put (some t) v = s.puts p (a.put (some t) v) := by
  have c : ∀ (a : Act) (x y : Tmp) (v u : Value), x ≠ y → (a.put (some x) v).put (some y) u = (a.put (some y) u).put (some x) v := fun a x y v u h => Act.put_comm a v u (fun d hd hy => h (by injection hd with hd; injection hy with hy; rw [hd, hy]))
  cases s with
  | no => rfl
  | bl g => exact c _ _ _ _ _ h1.symm
  | ap g u =>
    simp only [Sta.puts]
    rw [c _ p.tv t _ _ h2.symm, c _ p.tb t _ _ h1.symm]
theorem foldA_put : ∀ (zs : List (Ap × Sta)) (a : Act) (t : Tmp) (v : Value), t ∉ tmps (zs.map (·.1)) → (foldA a zs).put (some t) v = foldA (a.put (some t) v) zs
  | [], _, _, _, _ => rfl
  | z :: zs, a, t, v, h => by
    simp only [tmps, List.map_cons, List.flatMap_cons, List.mem_append, List.mem_cons, List.not_mem_nil, or_false, not_or] at h
    show (foldA (z.2.puts z.1 a) zs).put (some t) v = foldA (z.2.puts z.1 (a.put (some t) v)) zs
    rw [foldA_put zs _ _ _ h.2, puts_put _ _ _ _ _ h.1.1 h.1.2]
theorem foldA_append (a : Act) (x y : List (Ap × Sta)) : foldA a (x ++ y) = foldA (foldA a x) y := by simp [foldA]

theorem put_tmps (a : Act) (t : Tmp) (v : Value) : (a.put (some t) v).tmps = a.tmps.setIfInBounds t v := rfl
theorem puts_size (p : Ap) (s : Sta) (a : Act) : (s.puts p a).tmps.size = a.tmps.size := by cases s <;> simp [Sta.puts, put_tmps]
theorem foldA_size : ∀ (zs : List (Ap × Sta)) (a : Act), (foldA a zs).tmps.size = a.tmps.size
  | [], _ => rfl
  | z :: zs, a => by
    show (foldA (z.2.puts z.1 a) zs).tmps.size = _
    rw [foldA_size zs, puts_size]
theorem eval_put_ne (a : Act) (t : Tmp) (v : Value) (x : Operand) (h : x ≠ .tmp t) : (a.put (some t) v).eval x = a.eval x :=
  Act.eval_put fun d hd => by injection hd with hd; rw [← hd]; exact h
theorem puts_eval (p : Ap) (s : Sta) (a : Act) (x : Operand) (h1 : x ≠ .tmp p.tb) (h2 : x ≠ .tmp p.tv) : (s.puts p a).eval x = a.eval x := by
  cases s with
  | no => rfl
  | bl g => exact eval_put_ne _ _ _ _ h1
  | ap g u => exact (eval_put_ne _ _ _ _ h2).trans (eval_put_ne _ _ _ _ h1)
theorem foldA_eval : ∀ (zs : List (Ap × Sta)) (a : Act) (x : Operand), (∀ t, t ∈ tmps (zs.map (·.1)) → x ≠ .tmp t) → (foldA a zs).eval x = a.eval x
  | [], _, _, _ => rfl
  | z :: zs, a, x, h => by
    simp only [tmps, List.map_cons, List.flatMap_cons, List.mem_append, List.mem_cons, List.not_mem_nil, or_false] at h
    show (foldA (z.2.puts z.1 a) zs).eval x = _
    rw [foldA_eval zs _ _ fun t ht => h t (.inr ht), puts_eval _ _ _ _ (h _ (.inl (.inl rfl))) (h _ (.inl (.inr rfl)))]

theorem fill_1 (z u : Value) (hu : u.cells = #[u]) : Instr.fill (fun i => some (i * 1, 1)) ((Array.range (1 * 1)).map (z.cells[· % z.cells.size]!)) [(0, u)] = some #[u] := by
  simp only [Instr.fill, hu]
  rw [if_neg (by simp)]
  congr 1
  apply Array.ext
  · simp
  · intro i h1 h2
    have : i = 0 := by simpa using h2
    subst this
    simp
theorem fill_2 (z u c d : Value) (hu : u.cells = #[c, d]) : Instr.fill (fun i => some (i * 2, 2)) ((Array.range (1 * 2)).map (z.cells[· % z.cells.size]!)) [(0, u)] = some #[c, d] := by
  simp only [Instr.fill, hu]
  rw [if_neg (by simp)]
  congr 1
  apply Array.ext
  · simp
  · intro i h1 h2
    have : i = 0 ∨ i = 1 := by simp at h2; omega
    rcases this with rfl | rfl <;> simp

/-- What is asked of an append's two operations. -/
structure ApOk (P : Program) (ops : Array Oper) (ts : List Tmp) (a0 : Act) (p : Ap) : Prop where
  build : ∃ ob, ops[p.ib]? = some ob ∧ ob.guard = none ∧ ob.dst = some p.tb ∧ ob.op = .buildSlice p.st 1 #[(0, p.xo)]
  app : ∃ oa, ops[p.ia]? = some oa ∧ oa.guard = none ∧ oa.dst = some p.tv ∧ oa.op = .call { callee := .builtin .append, args := #[p.so, .tmp p.tb], argTypes := #[p.st, p.st] }
  under : P.underlying p.st = some (.slice p.t)
  info : (P.info? p.t).map (fun i => (i.zero, i.size, i.bytes)) = some (some p.z, p.sz, p.by_)
  zs : p.z.cells.size = p.sz
  pos : 0 < p.sz
  small : p.sz ≤ 1000 ∧ p.by_ ≤ 1000
  len : p.L.length ≤ 1000000000
  size : p.cs.size = p.sz
  one : ∀ u ∈ p.cs.toList, u.oneCell' = true
  fill : Instr.fill (fun i => some (i * p.sz, p.sz)) ((Array.range (1 * p.sz)).map (p.z.cells[· % p.z.cells.size]!)) [(0, p.x)] = some p.cs
  xv : a0.eval p.xo = p.x
  sv : a0.eval p.so = p.v
  far : ∀ t, t ∈ ts → p.so ≠ .tmp t ∧ p.xo ≠ .tmp t
  inb : p.tb < a0.tmps.size ∧ p.tv < a0.tmps.size

section
variable {P : Program} {ops : Array Oper} {Q : Exit → Act → World → Prop} {md : Region.Mode} {S : World → Prop} {B : Nat} {w0 : World} {es : List Ent}

theorem tab_append {w w' : World} {t : TypeId} {sz : Nat} {v v' : Value} {L : List (List Value)} {cs : Array Value} (h : TabIs w 0 t sz v L) (hl : cs.size = sz) (h2 : ∀ xs, w.ownsRow 0 t sz v L.length xs → w'.ownsRow 0 t sz v' (L.length + 1) (xs ++ cs.toList)) : TabIs w' 0 t sz v' (L ++ [cs.toList]) := by
  obtain ⟨xs, ho, hL, hc, hlen⟩ := h.parts
  exact TabIs.snoc hL hc hlen (h2 xs ho) (by simpa using hl)

theorem wpOp_build {i : Nat} {o : Oper} {K : Act → World → Prop} {a : Act} {w : World} {fs : List Ent} (p : Ap) (hi : ops[i]? = some o) (hg : o.guard = none) (hd : o.dst = some p.tb) (ho : o.op = .buildSlice p.st 1 #[(0, p.xo)])
    (hu : P.underlying p.st = some (.slice p.t)) (hinfo : (P.info? p.t).map (fun i => (i.zero, i.size, i.bytes)) = some (some p.z, p.sz, p.by_)) (hpos : 0 < p.sz) (hsm : p.sz ≤ 1000)
    (hf : Instr.fill (fun i => some (i * p.sz, p.sz)) ((Array.range (1 * p.sz)).map (p.z.cells[· % p.z.cells.size]!)) [(0, a.eval p.xo)] = some p.cs)
    (h : Led B w0 w (es ++ fs)) (hK : ∀ g w', Led B w0 w' (es ++ blkE g p.t p.cs :: fs) → K (a.put (some p.tb) (.slice (some ⟨g, 0, none⟩) 1 1)) w') : wpOp P ops Q i K a w := by
  unfold wpOp
  simp only [hi]
  have hw : Region.wanted o (yielded ops a.tmps) = true := by simp [Region.wanted, hg]
  rw [if_pos hw]
  refine .inl ?_
  obtain ⟨ie, h1, h2, h3, h4⟩ := info_parts hinfo
  rw [← h3] at hf hpos hsm
  refine wp_buildSlice p.st p.t 1 _ ho p.cs ie p.z hu h1 h2 (by omega) (by omega) (by simpa using hf) ?_
  rw [hd]
  exact hK _ _ (h.insert (blkE w.heap.size p.t p.cs) ((Below.refl _ _).alloc (Nat.le_refl _) _) (Blk.new w p.t p.cs) (fun b hb => by simp [blkE] at hb; omega))

theorem wpOp_append {i : Nat} {o : Oper} {K : Act → World → Prop} {a : Act} {w : World} {fs : List Ent} {g : Nat} (p : Ap) (hi : ops[i]? = some o) (hg : o.guard = none) (hd : o.dst = some p.tv) (ho : o.op = .call { callee := .builtin .append, args := #[p.so, .tmp p.tb], argTypes := #[p.st, p.st] })
    (hu : P.underlying p.st = some (.slice p.t)) (hinfo : (P.info? p.t).map (fun i => (i.zero, i.size, i.bytes)) = some (some p.z, p.sz, p.by_)) (hzs : p.z.cells.size = p.sz) (hpos : 0 < p.sz) (hby : p.by_ ≤ 1000) (hlen : p.L.length ≤ 1000000000) (hsz : p.cs.size = p.sz) (h1 : ∀ u ∈ p.cs.toList, u.oneCell' = true)
    (hs : a.eval p.so = p.v) (hx : a.eval (.tmp p.tb) = .slice (some ⟨g, 0, none⟩) 1 1)
    (h : Led B w0 w (es ++ tabE p.t p.sz p.v p.L :: blkE g p.t p.cs :: fs)) (hK : ∀ v' w', Led B w0 w' (es ++ tabE p.t p.sz v' (p.L ++ [p.cs.toList]) :: fs) → K (a.put (some p.tv) v') w') : wpOp P ops Q i K a w := by
  unfold wpOp
  simp only [hi]
  have hw : Region.wanted o (yielded ops a.tmps) = true := by simp [Region.wanted, hg]
  rw [if_pos hw]
  refine .inl ?_
  have htab : TabIs w 0 p.t p.sz p.v p.L := h.mem
  have hblk : Blk w g p.t p.cs := (h.all (blkE g p.t p.cs) (by simp) : Blk w g p.t p.cs)
  obtain ⟨i', i1, i2, i3, i4⟩ := info_parts hinfo
  obtain ⟨xs, ho1, hL, hc, hll⟩ := htab.parts
  have hbytes : (p.L.length + 1) * p.by_ ≤ 140737488355328 := Nat.le_trans (Nat.mul_le_mul (show p.L.length + 1 ≤ 1000000001 by omega) hby) (by decide)
  obtain ⟨v', w', hr, h2, h3, _, h5⟩ := run_append_own_at (P := P) w 0 p.st o.type p.t i' p.z p.sz p.by_ hu i1 i2 i3 i4 hzs hpos p.v p.L.length xs ho1 ⟨g, 0, none⟩ 1 1 p.cs.toList (by simpa using hsz) hblk.news h1 (by unfold maxLen; omega) hbytes (Nat.zero_le _)
  unfold Oper.wp execOp
  simp only [ho, resolve, invoke, builtin, Sem.run_bind, Sem.run_pure, Result.andThen_ok, List.map_toArray, List.map_cons, List.map_nil, hs, hx, hr]
  show K (a.put o.dst v') w'
  rw [hd]
  refine hK v' w' ?_
  have hl2 : Led B w0 w (es ++ tabE p.t p.sz p.v p.L :: fs) := h.sub (by simp)
  refine hl2.mid _ ((Chg.refl (tabE p.t p.sz p.v p.L).fp w).grown h3 (fun k hk => .inl (by simp [tabE, hk]))) (TabIs.snoc hL hc hll h2 (by simpa using hsz)) (fun b hb => ?_)
  rcases h5 with h5 | h5
  · exact .inl (by simpa [tabE, h5] using hb)
  · simp [tabE, h5] at hb
    exact .inr (by omega)

theorem entsOf_append (x y : List (Ap × Sta)) : entsOf (x ++ y) = entsOf x ++ entsOf y := by simp [entsOf]
theorem ixs_append (x y : List (Ap × Sta)) : ixs (x ++ y) = ixs x ++ ixs y := by simp [ixs]
theorem left_append (x y : List (Ap × Sta)) : left (x ++ y) = left x + left y := by simp [left]
theorem zip_nums (zs : List (Ap × Sta)) : ((zs.map (·.1)).map fun p => (p.ib, p.ia)).zip (zs.map (·.2.num)) = ixs zs := by
  induction zs with
  | nil => rfl
  | cons z zs ih => simp only [List.map_cons, List.zip_cons_cons, ih]; rfl
theorem split_at {α : Type} {l : List α} {j : Nat} {x : α} (h : l[j]? = some x) : l = l.take j ++ x :: l.drop (j + 1) := by
  obtain ⟨hj, rfl⟩ := List.getElem?_eq_some_iff.1 h
  rw [← List.drop_eq_getElem_cons hj, List.take_append_drop]

theorem wpAnyH_appends (ps : List Ap) (a0 : Act) (l0 : Array Bool) (hok : ∀ p, p ∈ ps → ApOk P ops (tmps ps) a0 p) (hnd : (tmps ps).Nodup) (hrd : rdOk md ops l0 (ps.map fun p => (p.ib, p.ia)) = true)
    (hS : ∀ w fs, Led B w0 w (es ++ fs) → S w) (F : Nat)
    (hfin : ∀ zs w, zs.map (·.1) = ps → (∀ z, z ∈ zs → ∃ g v, z.2 = .ap g v) → Led B w0 w (es ++ entsOf zs) → wpAnyH P md ops Q S F (foldN l0 (ixs zs)) (foldA a0 zs) w) :
    ∀ (n : Nat) (zs : List (Ap × Sta)) (w : World), left zs = n → zs.map (·.1) = ps → okS (zs.map (·.2.num)) = true → Led B w0 w (es ++ entsOf zs) → wpAnyH P md ops Q S (F + n) (foldN l0 (ixs zs)) (foldA a0 zs) w := by
  intro n
  induction n with
  | zero =>
    intro zs w hn hp _ hl
    refine hfin zs w hp (fun z hz => ?_) hl
    have h0 : 2 - z.2.num = 0 := by
      have := List.sum_eq_zero_iff_forall_eq_nat.1 hn (2 - z.2.num) (List.mem_map.2 ⟨z, hz, rfl⟩)
      exact this
    rcases z with ⟨p, s⟩
    cases s with
    | no => simp [Sta.num] at h0
    | bl g => simp [Sta.num] at h0
    | ap g v => exact ⟨g, v, rfl⟩
  | succ n ih =>
    intro zs w hn hp hos hl
    have hlen : zs.length = ps.length := by rw [← hp]; simp
    have hmem : zs.map (·.2.num) ∈ seqs (ps.map fun p => (p.ib, p.ia)).length := by
      have := mem_seqs (zs.map (·.2.num)) (fun x hx => by
        obtain ⟨z, _, rfl⟩ := List.mem_map.1 hx
        cases z.2 <;> simp [Sta.num])
      simpa [hlen] using this
    have hch := List.all_eq_true.1 hrd _ hmem
    have hz := zip_nums zs
    rw [hp] at hz
    rw [hz, hos] at hch
    have hnot : (zs.map (·.2.num)).all (· == 2) = false := by
      rw [Bool.eq_false_iff]
      intro hall
      have : left zs = 0 := by
        unfold left
        rw [List.sum_eq_zero_iff_forall_eq_nat]
        intro x hx
        obtain ⟨z, hz, rfl⟩ := List.mem_map.1 hx
        have := List.all_eq_true.1 hall z.2.num (List.mem_map.2 ⟨z, hz, rfl⟩)
        simp at this
        omega
      omega
    rw [hnot] at hch
    simp only [Bool.not_true, Bool.false_or, Bool.and_eq_true, Bool.not_eq_true', List.isEmpty_eq_false_iff] at hch
    refine ⟨fun h0 => absurd h0 hch.1, fun i hi => ?_⟩
    have hi2 := List.all_eq_true.1 hch.2 i hi
    obtain ⟨j, _, hj⟩ := List.any_eq_true.1 hi2
    cases hzj : zs[j]? with
    | none =>
      have : (ps.map fun p => (p.ib, p.ia))[j]? = none := by rw [← hp]; simp [hzj]
      rw [this] at hj
      simp at hj
    | some z =>
      obtain ⟨p, s⟩ := z
      have e1 : (ps.map fun p => (p.ib, p.ia))[j]? = some (p.ib, p.ia) := by rw [← hp]; simp [hzj]
      have e2 : (zs.map (·.2.num))[j]? = some s.num := by simp [hzj]
      rw [e1, e2] at hj
      have hpm : p ∈ ps := by rw [← hp]; exact List.mem_map.2 ⟨(p, s), List.mem_of_getElem? hzj, rfl⟩
      have ok := hok p hpm
      have hsp := split_at hzj
      have hjl := (List.getElem?_eq_some_iff.1 hzj).1
      have htl : (zs.take j).length = j := by rw [List.length_take]; omega
      generalize zs.take j = z1 at hsp htl
      generalize zs.drop (j + 1) = z2 at hsp
      subst hsp
      have htz : ∀ t, t = p.tb ∨ t = p.tv → t ∉ tmps (z2.map (·.1)) := by
        rw [← hp] at hnd
        simp only [tmps, List.map_append, List.map_cons, List.flatMap_append, List.flatMap_cons] at hnd
        have h1 := (List.nodup_append.1 hnd).2.1
        have h2 := (List.nodup_append.1 h1).2.2
        intro t ht hm
        exact h2 t (by simp; exact ht) t hm rfl
      have hbt : p.tb ≠ p.tv := by
        rw [← hp] at hnd
        simp only [tmps, List.map_append, List.map_cons, List.flatMap_append, List.flatMap_cons] at hnd
        have h1 := (List.nodup_append.1 (List.nodup_append.1 hnd).2.1).1
        simp at h1
        exact h1
      have hev : ∀ x : Operand, (∀ t, t ∈ tmps ps → x ≠ .tmp t) → (foldA a0 (z1 ++ (p, s) :: z2)).eval x = a0.eval x := fun x hx => foldA_eval _ _ _ (by rw [hp]; exact hx)
      have hset : ∀ k, (List.map (fun z : Ap × Sta => z.2.num) (z1 ++ (p, s) :: z2)).set j k = z1.map (·.2.num) ++ k :: z2.map (·.2.num) := fun k => by
        rw [List.map_append, List.map_cons, List.set_append_right _ _ (by simp [htl]), List.length_map, htl, Nat.sub_self, List.set_cons_zero]
      rw [hset 1, hset 2] at hj
      simp only [Bool.or_eq_true, Bool.and_eq_true, beq_iff_eq] at hj
      simp only [entsOf_append] at hl
      rcases hj with ⟨⟨hs, rfl⟩, hnew⟩ | ⟨⟨hs, rfl⟩, hnew⟩
      · cases s with
        | bl g => simp [Sta.num] at hs
        | ap g v => simp [Sta.num] at hs
        | no =>
          obtain ⟨ob, o1, o2, o3, o4⟩ := ok.build
          have hl2 : Led B w0 w ((es ++ entsOf z1 ++ [tabE p.t p.sz p.v p.L]) ++ entsOf z2) := by simpa [entsOf, Sta.ents] using hl
          refine wpOp_build (es := es ++ entsOf z1 ++ [tabE p.t p.sz p.v p.L]) (fs := entsOf z2) p o1 o2 o3 o4 ok.under ok.info ok.pos ok.small.1 ?_ hl2 (fun g w' hw' => ?_)
          · rw [hev p.xo fun t ht => (ok.far t ht).2, ok.xv]
            exact ok.fill
          · have hw2 : Led B w0 w' (es ++ entsOf (z1 ++ (p, .bl g) :: z2)) := by simpa [entsOf, Sta.ents] using hw'
            refine ⟨hS _ _ hw2, ?_⟩
            have := ih (z1 ++ (p, .bl g) :: z2) w' (by simp [left, Sta.num] at hn ⊢; omega) (by simpa using hp) (by simpa [Sta.num] using hnew) hw2
            have ea : (foldA a0 (z1 ++ (p, .no) :: z2)).put (some p.tb) (.slice (some ⟨g, 0, none⟩) 1 1) = foldA a0 (z1 ++ (p, .bl g) :: z2) := by
              rw [foldA_append, foldA_append]
              exact foldA_put z2 _ _ _ (htz _ (.inl rfl))
            have el : (foldN l0 (ixs (z1 ++ (p, .no) :: z2))).setIfInBounds p.ib true = foldN l0 (ixs (z1 ++ (p, .bl g) :: z2)) := by
              rw [ixs_append, ixs_append, foldN_append, foldN_append]
              exact foldN_set (ixs z2) _ _
            rw [ea, el]
            exact this
      · cases s with
        | no => simp [Sta.num] at hs
        | ap g v => simp [Sta.num] at hs
        | bl g =>
          obtain ⟨oa, o1, o2, o3, o4⟩ := ok.app
          have hl2 : Led B w0 w ((es ++ entsOf z1) ++ tabE p.t p.sz p.v p.L :: blkE g p.t p.cs :: entsOf z2) := by simpa [entsOf, Sta.ents] using hl
          refine wpOp_append (es := es ++ entsOf z1) (fs := entsOf z2) (g := g) p o1 o2 o3 o4 ok.under ok.info ok.zs ok.pos ok.small.2 ok.len ok.size ok.one ?_ ?_ hl2 (fun v' w' hw' => ?_)
          · rw [hev p.so fun t ht => (ok.far t ht).1]
            exact ok.sv
          · rw [foldA_append]
            show (foldA ((foldA a0 z1).put (some p.tb) (.slice (some ⟨g, 0, none⟩) 1 1)) z2).eval (.tmp p.tb) = _
            rw [foldA_eval z2 _ _ fun t ht e => htz p.tb (.inl rfl) (by injection e with e; rw [e]; exact ht)]
            exact Act.eval_put_same _ _ _ (by rw [foldA_size]; exact ok.inb.1)
          · have hw2 : Led B w0 w' (es ++ entsOf (z1 ++ (p, .ap g v') :: z2)) := by simpa [entsOf, Sta.ents] using hw'
            refine ⟨hS _ _ hw2, ?_⟩
            have := ih (z1 ++ (p, .ap g v') :: z2) w' (by simp [left, Sta.num] at hn ⊢; omega) (by simpa using hp) (by simpa [Sta.num] using hnew) hw2
            have ea : (foldA a0 (z1 ++ (p, .bl g) :: z2)).put (some p.tv) v' = foldA a0 (z1 ++ (p, .ap g v') :: z2) := by
              rw [foldA_append, foldA_append]
              exact foldA_put z2 _ _ _ (htz _ (.inr rfl))
            have el : (foldN l0 (ixs (z1 ++ (p, .bl g) :: z2))).setIfInBounds p.ia true = foldN l0 (ixs (z1 ++ (p, .ap g v') :: z2)) := by
              rw [ixs_append, ixs_append, foldN_append, foldN_append]
              exact foldN_set (ixs z2) _ _
            rw [ea, el]
            exact this

/-- An operation that only reads is taken first. -/
theorem wpAnyH_read {i : Nat} {d : Tmp} {oi : Oper} {v : Value} {fuel : Nat} {listed : Array Bool} {a : Act} {w : World} (hi : ops[i]? = some oi) (hd : oi.dst = some d) (hg : oi.guard = none)
    (hs : Region.noSelect ops = true) (hf : Region.free md ops listed i = true) (hr : (Region.ready md ops listed).contains i = true)
    (hQ : ∀ c a w, Q (.panic c) (a.put oi.dst v) w → Q (.panic c) a w) (hS : S w) (hy : ∀ w, S w → (execOp a.eval oi).run P w = .ok (.value v) w)
    (h : wpAnyH P md ops Q S fuel (listed.setIfInBounds i true) ⟨a.tmps.setIfInBounds d v, a.defers⟩ w) : wpAnyH P md ops Q S (fuel + 1) listed a w := by
  refine wpAnyH_take hi hs hf hr hQ (.inl ⟨by simp [Region.wanted, hg], hy⟩) hS ?_
  rw [hd]
  exact h

theorem foldA_no : ∀ (ps : List Ap) (a : Act), foldA a (ps.map fun p => (p, Sta.no)) = a
  | [], _ => rfl
  | p :: ps, a => foldA_no ps a
theorem foldN_no : ∀ (ps : List Ap) (l : Array Bool), foldN l (ixs (ps.map fun p => (p, Sta.no))) = l
  | [], _ => rfl
  | p :: ps, l => foldN_no ps l
theorem left_no : ∀ ps : List Ap, left (ps.map fun p => (p, Sta.no)) = 2 * ps.length
  | [] => rfl
  | p :: ps => by
    have := left_no ps
    simp only [left, List.map_cons, List.sum_cons, Sta.num] at this ⊢
    rw [this, List.length_cons]
    omega
theorem okS_no : ∀ ps : List Ap, okS ((ps.map fun p => (p, Sta.no)).map (·.2.num)) = true
  | [] => rfl
  | p :: ps => by
    have := okS_no ps
    simp only [List.map_cons, okS, this, Bool.and_true, Bool.or_eq_true]
    right
    simp [Sta.num]
theorem entsOf_no : ∀ ps : List Ap, entsOf (ps.map fun p => (p, Sta.no)) = ps.map fun p => tabE p.t p.sz p.v p.L
  | [] => rfl
  | p :: ps => by
    have := entsOf_no ps
    simp only [entsOf, List.map_cons, List.flatMap_cons, Sta.ents] at this ⊢
    rw [this]
    rfl
/-- The appends of a drawn region, from none of them on. -/
theorem wpAnyH_appends0 (ps : List Ap) (es : List Ent) {a0 : Act} {l0 : Array Bool} {F : Nat} {w : World} (hrd : rdOk md ops l0 (ps.map fun p => (p.ib, p.ia)) = true) (hl : Led B w0 w (es ++ ps.map fun p => tabE p.t p.sz p.v p.L)) (hok : ∀ p, p ∈ ps → ApOk P ops (tmps ps) a0 p) (hnd : (tmps ps).Nodup)
    (hS : ∀ w fs, Led B w0 w (es ++ fs) → S w)
    (hfin : ∀ zs w, zs.map (·.1) = ps → (∀ z, z ∈ zs → ∃ g v, z.2 = .ap g v) → Led B w0 w (es ++ entsOf zs) → wpAnyH P md ops Q S F (foldN l0 (ixs zs)) (foldA a0 zs) w) : wpAnyH P md ops Q S (F + 2 * ps.length) l0 a0 w := by
  have h := wpAnyH_appends ps a0 l0 hok hnd hrd hS F hfin (2 * ps.length) (ps.map fun p => (p, Sta.no)) w (left_no ps) (by rw [List.map_map]; exact List.map_id' ps) (okS_no ps) (by rw [entsOf_no]; exact hl)
  rw [foldA_no, foldN_no] at h
  exact h
end
end Go.Proofs.YtognmhgdegpdiaaGreat

end
