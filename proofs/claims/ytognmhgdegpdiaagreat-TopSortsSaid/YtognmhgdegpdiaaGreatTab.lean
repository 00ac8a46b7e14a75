import Derived.Test.YtognmhgdegpdiaaGreatBase
/- A slice of the call's own, told row by row: each element takes sz cells. -/
namespace Go.Proofs.YtognmhgdegpdiaaGreat
open Go.RowKit
set_option linter.unusedVariables false
set_option linter.unusedSimpArgs false
def TabIs (w : World) (base : Nat) (e : TypeId) (sz : Nat) (v : Value) (L : List (List Value)) : Prop :=
  ∃ xs, w.ownsRow base e sz v L.length xs ∧ (∀ c ∈ L, c.length = sz) ∧ ∀ (i : Nat) (c : List Value), L[i]? = some c → ∀ (j : Nat) (u : Value), c[j]? = some u → xs[i * sz + j]? = some u
section
variable {w w' : World} {base : Nat} {e : TypeId} {sz : Nat} {v : Value} {L : List (List Value)}
theorem TabIs.nil (w : World) (base : Nat) (e : TypeId) (sz : Nat) : TabIs w base e sz (.slice none 0 0) [] := ⟨[], World.ownsRow_nil _ _ _ _, by simp, by simp⟩
theorem TabIs.own (h : TabIs w base e sz v L) : ∃ xs, w.ownsRow base e sz v L.length xs := let ⟨xs, h1, _⟩ := h; ⟨xs, h1⟩
theorem TabIs.form (h : TabIs w base e sz v L) : ∃ A c, v = .slice A L.length c ∧ L.length ≤ c ∧ (0 < L.length → ∃ g, A = some ⟨g, 0, none⟩ ∧ g < w.heap.size ∧ base ≤ g) := let ⟨_, h1, _⟩ := h; own_form h1
theorem TabIs.lt (h : TabIs w base e sz v L) : ∀ x, x ∈ v.ownBlock.toList → base ≤ x ∧ x < w.heap.size := fun x hx => by
  obtain ⟨_, h1, _⟩ := h
  exact h1.lt x (by simpa using hx)
theorem TabIs.chg {fp : List Nat} (h : TabIs w base e sz v L) (hc : Chg fp w w') (hn : ∀ x, x ∈ v.ownBlock.toList → x ∉ fp) : TabIs w' base e sz v L := by
  obtain ⟨xs, h1, h2⟩ := h
  exact ⟨xs, own_chg h1 hc (fun k hk => hn k (by simp [hk])), h2⟩
theorem TabIs.later (h : TabIs w base e sz v L) (hb : Below w.heap.size w w') : TabIs w' base e sz v L := h.chg (Chg.of_below hb []) (by simp)
theorem TabIs.drewN (h : TabIs w base e sz v L) (k : Nat) : TabIs (w.drewN k) base e sz v L := h
theorem TabIs.alloc (h : TabIs w base e sz v L) (o : Obj) : TabIs (w.alloc o) base e sz v L := h.later ((Below.refl _ _).alloc (Nat.le_refl _) _)
theorem TabIs.far (h : TabIs w base e sz v L) {p : Addr} (hn : v.ownBlock ≠ some p.block) (u : Value) : TabIs (w.setCell p u) base e sz v L := by
  obtain ⟨xs, h1, h2⟩ := h
  exact ⟨xs, own_far h1 hn u, h2⟩
theorem TabIs.ne_blk {g : Nat} {t : TypeId} {cs : Array Value} (h : TabIs w base e sz v L) (hg : Blk w g t cs) (hne : e ≠ t) : v.ownBlock ≠ some g := by
  obtain ⟨xs, h1, _⟩ := h
  exact own_blk_ne h1 hg hne
theorem TabIs.ne_tab {base2 : Nat} {e2 : TypeId} {sz2 : Nat} {v2 : Value} {L2 : List (List Value)} (h : TabIs w base e sz v L) (h2 : TabIs w base2 e2 sz2 v2 L2) (hne : e ≠ e2) : ∀ x, x ∈ v.ownBlock.toList → x ∉ v2.ownBlock.toList := by
  obtain ⟨xs, h1, _⟩ := h
  obtain ⟨ys, h3, _⟩ := h2
  intro x hx hy
  exact own_own_ne h1 h3 hne x (by simpa using hx) (by simpa using hy)
theorem row_idx {n sz i j : Nat} (hi : i < n) (hj : j < sz) : i * sz + j < n * sz := by
  have : (i + 1) * sz ≤ n * sz := Nat.mul_le_mul_right _ hi
  rw [Nat.add_mul] at this
  omega
theorem TabIs.len {A : Option Addr} {n c : Nat} (h : TabIs w base e sz (.slice A n c) L) : n = L.length := by
  obtain ⟨A', c', hv, _⟩ := h.form
  injection hv
theorem TabIs.cell {g n c : Nat} (h : TabIs w base e sz (.slice (some ⟨g, 0, none⟩) n c) L) {i j : Nat} {r : List Value} {u : Value} (hi : L[i]? = some r) (hj : r[j]? = some u) : w.cell? ⟨g, i * sz + j, none⟩ = some u := by
  obtain rfl := h.len
  obtain ⟨xs, h1, h2, h3⟩ := h
  have hil : i < L.length := (List.getElem?_eq_some_iff.1 hi).1
  have hjl : j < r.length := (List.getElem?_eq_some_iff.1 hj).1
  rw [h2 r (List.mem_of_getElem? hi)] at hjl
  rw [h1.cellAt _ (row_idx hil hjl)]
  exact h3 i r hi j u hj
theorem TabIs.frozen {g n c : Nat} (h : TabIs w base e sz (.slice (some ⟨g, 0, none⟩) n c) L) (j : Nat) : w.frozen? ⟨g, j, none⟩ = false := by
  obtain rfl := h.len
  obtain ⟨xs, h1, _⟩ := h
  exact h1.frozenAt j
theorem TabIs.set {g n c : Nat} (h : TabIs w base e sz (.slice (some ⟨g, 0, none⟩) n c) L) {i j : Nat} {r : List Value} (u : Value) (hi : L[i]? = some r) (hj : j < sz) :
    TabIs (w.setCell ⟨g, i * sz + j, none⟩ u) base e sz (.slice (some ⟨g, 0, none⟩) n c) (L.set i (r.set j u)) := by
  obtain rfl := h.len
  obtain ⟨xs, h1, h2, h3⟩ := h
  have hil : i < L.length := (List.getElem?_eq_some_iff.1 hi).1
  have hrl := h2 r (List.mem_of_getElem? hi)
  refine ⟨xs.set (i * sz + j) u, by rw [List.length_set]; exact (h1.stored (i * sz + j) u).1, ?_, ?_⟩
  · intro c hc
    rcases List.mem_or_eq_of_mem_set hc with hc | rfl
    · exact h2 c hc
    · simpa using hrl
  · intro i' c' hi' j' u' hj'
    have hlen : xs.length = L.length * sz := h1.1
    by_cases hii : i' = i
    · subst hii
      rw [List.getElem?_set_self (by simpa using hil)] at hi'
      injection hi' with hi'
      subst hi'
      by_cases hjj : j' = j
      · subst hjj
        rw [List.getElem?_set_self (by omega)] at hj'
        rw [List.getElem?_set_self (by rw [hlen]; exact row_idx hil hj)]
        exact hj'
      · rw [List.getElem?_set_ne (fun e => hjj e.symm)] at hj'
        rw [List.getElem?_set_ne (by omega)]
        exact h3 i' r hi j' u' hj'
    · rw [List.getElem?_set_ne (fun e => hii e.symm)] at hi'
      have hjl : j' < c'.length := (List.getElem?_eq_some_iff.1 hj').1
      rw [h2 c' (List.mem_of_getElem? hi')] at hjl
      have hne : i * sz + j ≠ i' * sz + j' := by
        intro e
        rcases Nat.lt_or_ge i i' with hlt | hge
        · have := row_idx (n := i') hlt hj
          omega
        · have := row_idx (n := i) (show i' < i by omega) hjl
          omega
      rw [List.getElem?_set_ne hne]
      exact h3 i' c' hi' j' u' hj'
theorem TabIs.snoc {v' : Value} {xs ys : List Value} (hL : ∀ c ∈ L, c.length = sz) (hcells : ∀ (i : Nat) (c : List Value), L[i]? = some c → ∀ (j : Nat) (u : Value), c[j]? = some u → xs[i * sz + j]? = some u) (hlen : xs.length = L.length * sz)
    (hown : w'.ownsRow base e sz v' (L.length + 1) (xs ++ ys)) (hy : ys.length = sz) : TabIs w' base e sz v' (L ++ [ys]) := by
  refine ⟨xs ++ ys, by simpa using hown, ?_, ?_⟩
  · intro c hc
    rcases List.mem_append.1 hc with hc | hc
    · exact hL c hc
    · simp at hc
      rw [hc, hy]
  · intro i c hi j u hj
    rcases Nat.lt_or_ge i L.length with hlt | hge
    · rw [List.getElem?_append_left hlt] at hi
      have hjl : j < c.length := (List.getElem?_eq_some_iff.1 hj).1
      rw [hL c (List.mem_of_getElem? hi)] at hjl
      rw [List.getElem?_append_left (by rw [hlen]; exact row_idx hlt hjl)]
      exact hcells i c hi j u hj
    · have hil : i < (L ++ [ys]).length := (List.getElem?_eq_some_iff.1 hi).1
      simp at hil
      have hie : i = L.length := by omega
      subst hie
      simp at hi
      subst hi
      rw [List.getElem?_append_right (by omega), hlen, Nat.add_sub_cancel_left]
      exact hj
theorem TabIs.parts (h : TabIs w base e sz v L) : ∃ xs, w.ownsRow base e sz v L.length xs ∧ (∀ c ∈ L, c.length = sz) ∧ (∀ (i : Nat) (c : List Value), L[i]? = some c → ∀ (j : Nat) (u : Value), c[j]? = some u → xs[i * sz + j]? = some u) ∧ xs.length = L.length * sz :=
  let ⟨xs, h1, h2, h3⟩ := h; ⟨xs, h1, h2, h3, h1.1⟩
theorem TabIs.pop {r : List Value} {A : Option Addr} {c : Nat} (h : TabIs w base e sz (.slice A (L.length + 1) c) (L ++ [r])) : TabIs w base e sz (.slice A L.length c) L := by
  obtain ⟨xs, h1, h2, h3⟩ := h
  obtain ⟨hl, hr⟩ := h1
  simp only [List.length_append, List.length_singleton] at hl hr
  refine ⟨xs.take (L.length * sz), ⟨by rw [List.length_take, hl, Nat.add_mul]; omega, ?_⟩, fun c hc => h2 c (by simp [hc]), fun i c hi j u hj => ?_⟩
  · rcases hr with ⟨_, h⟩ | ⟨g, cap, cur, hv, hb, hh, hn, hm, hs, ht⟩
    · omega
    · injection hv with e1 e2 e3
      subst e1 e3
      refine .inr ⟨g, c, cur, rfl, hb, hh, by omega, hm, hs, ?_⟩
      rw [← ht, List.take_take]
      congr 1
      rw [Nat.add_mul]
      omega
  · have hil : i < L.length := (List.getElem?_eq_some_iff.1 hi).1
    have hjl : j < c.length := (List.getElem?_eq_some_iff.1 hj).1
    rw [h2 c (by simp [List.mem_of_getElem? hi])] at hjl
    rw [List.getElem?_take, if_pos (row_idx hil hjl)]
    exact h3 i c (by rw [List.getElem?_append_left hil]; exact hi) j u hj
end
theorem wp_push {P : Program} {W : World} {o : Oper} {a : Act} {K : Act → World → Prop} {Q : Exit → Act → World → Prop} (s x : Operand) (t : TypeId)
    (ho : o.op = .call { callee := .builtin .append, args := #[s, x], argTypes := #[t, t] })
    (base : Nat) (e : TypeId) (z : Value) (size bytes : Nat) (ht : P.underlying t = some (.slice e)) (hinfo : (P.info? e).map (fun i => (i.zero, i.size, i.bytes)) = some (some z, size, bytes)) (hzs : z.cells.size = size) (hsz : 0 < size)
    (v : Value) (L : List (List Value)) (cs : Array Value) (hs : a.eval s = v) (hown : TabIs W base e size v L) (hx : a.eval x = .slice (some ⟨W.heap.size, 0, none⟩) 1 1) (hl : cs.size = size) (h1 : ∀ u ∈ cs.toList, u.oneCell' = true)
    (hn : L.length ≤ 1000000000) (hb : bytes ≤ 1000) (hbase : base ≤ W.heap.size)
    (h : ∀ v' w', TabIs w' base e size v' (L ++ [cs.toList]) → Chg v.ownBlock.toList W w' → Fresh v.ownBlock.toList v'.ownBlock.toList W → K (a.put o.dst v') w') : o.wp P a (W.alloc (.cells cs e)) K Q := by
  obtain ⟨xs, ho1, hL, hc, hlen⟩ := hown.parts
  exact wp_append1 s x t ho base e z size bytes ht hinfo hzs hsz v L.length xs cs hs ho1 hx hl h1 hn hb hbase fun v' w' h2 h3 h4 => h v' w' (TabIs.snoc hL hc hlen h2 (by simpa using hl)) h3 h4
theorem wpList_push {P : Program} {W : World} {ops : Array Oper} {rest : List Oper} {o : Oper} {a : Act} {Q : Exit → Act → World → Prop} (hgd : o.guard = none) (s x : Operand) (t : TypeId)
    (ho : o.op = .call { callee := .builtin .append, args := #[s, x], argTypes := #[t, t] })
    (base : Nat) (e : TypeId) (z : Value) (size bytes : Nat) (ht : P.underlying t = some (.slice e)) (hinfo : (P.info? e).map (fun i => (i.zero, i.size, i.bytes)) = some (some z, size, bytes)) (hzs : z.cells.size = size) (hsz : 0 < size)
    (v : Value) (L : List (List Value)) (cs : Array Value) (hs : a.eval s = v) (hown : TabIs W base e size v L) (hx : a.eval x = .slice (some ⟨W.heap.size, 0, none⟩) 1 1) (hl : cs.size = size) (h1 : ∀ u ∈ cs.toList, u.oneCell' = true)
    (hn : L.length ≤ 1000000000) (hb : bytes ≤ 1000) (hbase : base ≤ W.heap.size)
    (h : ∀ v' w', TabIs w' base e size v' (L ++ [cs.toList]) → Chg v.ownBlock.toList W w' → Fresh v.ownBlock.toList v'.ownBlock.toList W → wpList P ops Q rest (a.put o.dst v') w') : wpList P ops Q (o :: rest) a (W.alloc (.cells cs e)) :=
  wpList_plain hgd fun _ hK => wp_push s x t ho base e z size bytes ht hinfo hzs hsz v L cs hs hown hx hl h1 hn hb hbase fun v' w' h2 h3 h4 => hK _ _ (h v' w' h2 h3 h4)
theorem step_push {P : Program} {W : World} {ops : Array Oper} {o : Oper} {a : Act} {K : Act → World → Prop} {Q : Exit → Act → World → Prop} {E : Prop} (hgd : o.guard = none) (s x : Operand) (t : TypeId)
    (ho : o.op = .call { callee := .builtin .append, args := #[s, x], argTypes := #[t, t] })
    (base : Nat) (e : TypeId) (z : Value) (size bytes : Nat) (ht : P.underlying t = some (.slice e)) (hinfo : (P.info? e).map (fun i => (i.zero, i.size, i.bytes)) = some (some z, size, bytes)) (hzs : z.cells.size = size) (hsz : 0 < size)
    (v : Value) (L : List (List Value)) (cs : Array Value) (hs : a.eval s = v) (hown : TabIs W base e size v L) (hx : a.eval x = .slice (some ⟨W.heap.size, 0, none⟩) 1 1) (hl : cs.size = size) (h1 : ∀ u ∈ cs.toList, u.oneCell' = true)
    (hn : L.length ≤ 1000000000) (hb : bytes ≤ 1000) (hbase : base ≤ W.heap.size)
    (h : ∀ v' w', TabIs w' base e size v' (L ++ [cs.toList]) → Chg v.ownBlock.toList W w' → Fresh v.ownBlock.toList v'.ownBlock.toList W → K (a.put o.dst v') w') :
    if Region.wanted o (yielded ops a.tmps) = true then Oper.wp P o a (W.alloc (.cells cs e)) K Q else E := by
  have hw : Region.wanted o (yielded ops a.tmps) = true := by simp [Region.wanted, hgd]
  rw [if_pos hw]
  exact wp_push s x t ho base e z size bytes ht hinfo hzs hsz v L cs hs hown hx hl h1 hn hb hbase h
end Go.Proofs.YtognmhgdegpdiaaGreat
