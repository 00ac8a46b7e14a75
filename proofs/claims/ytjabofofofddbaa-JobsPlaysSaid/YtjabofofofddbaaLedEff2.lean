/- What single operations of a drawn region do to a ledger: an empty slice, an append of a whole slice. -/
import Derived.Test.YtjabofofofddbaaLedEff
namespace Go.Proofs.Ytjabofofofddbaa
open Go.RowKit
set_option linter.unusedVariables false
set_option linter.unusedSimpArgs false

section
variable {P : Program} {ops : Array Oper} {Q : Exit → Act → World → Prop} {B : Nat} {w0 : World}

theorem run_build0 (w : World) (t e : TypeId) (ie : TypeInfo) (hu : P.underlying t = some (.slice e)) (hie : P.info? e = some ie) :
    (Instr.buildSlice t 0 #[]).run P w = .ok (.slice (some ⟨w.heap.size, 0, none⟩) 0 0) (w.alloc (.cells #[] e)) := by
  simp [Instr.buildSlice, run_underlying hu, sizeOf, typeInfo, hie, Instr.fill, newRow]
  rw [show (Array.range 0) = #[] from Array.eq_empty_of_size_eq_zero (by simp)]
  simp

theorem wpOp_build0 {i : Nat} {o : Oper} {t : Tmp} {st e : TypeId} {sz : Nat} {K : Act → World → Prop} {a : Act} {w : World} {es fs : List Ent} {q : Value × Nat × Nat} (hi : ops[i]? = some o) (hg : o.guard = none) (hd : o.dst = some t) (ho : o.op = .buildSlice st 0 #[])
    (hu : P.underlying st = some (.slice e)) (hinfo : (P.info? e).map (fun i => (i.zero, i.size, i.bytes)) = some (some q.1, q.2.1, q.2.2))
    (h : Led B w0 w (es ++ fs)) (hK : ∀ v w', Led B w0 w' (es ++ tabE e sz v [] :: fs) → K (a.put (some t) v) w') : wpOp P ops Q i K a w := by
  unfold wpOp
  simp only [hi]
  have hw : Region.wanted o (yielded ops a.tmps) = true := by simp [Region.wanted, hg]
  rw [if_pos hw]
  refine .inl ?_
  obtain ⟨ie, h1, _⟩ := info_parts hinfo
  unfold Oper.wp execOp
  simp only [ho, Sem.run_bind, List.map_toArray, List.map_nil, run_build0 w st e ie hu h1, Result.andThen_ok]
  show K (a.put o.dst _) _
  rw [hd]
  have hb : Blk (w.alloc (.cells #[] e)) w.heap.size e #[] := Blk.new w e #[]
  exact hK _ _ (h.insert (tabE e sz (.slice (some ⟨w.heap.size, 0, none⟩) 0 0) []) ((Below.refl _ _).alloc (Nat.le_refl _) _) ⟨[], own_empty hb (Nat.zero_le _), by simp, by simp⟩ (fun b hb => by simp [tabE, Value.ownBlock] at hb; omega))

theorem tab_concat {w' : World} {base : Nat} {e : TypeId} {sz : Nat} {v' : Value} {L M : List (List Value)} {xs ys : List Value} (hL : ∀ c ∈ L, c.length = sz) (hM : ∀ c ∈ M, c.length = sz)
    (hcL : ∀ (i : Nat) (c : List Value), L[i]? = some c → ∀ (j : Nat) (u : Value), c[j]? = some u → xs[i * sz + j]? = some u) (hcM : ∀ (i : Nat) (c : List Value), M[i]? = some c → ∀ (j : Nat) (u : Value), c[j]? = some u → ys[i * sz + j]? = some u)
    (hlen : xs.length = L.length * sz) (hown : w'.ownsRow base e sz v' (L.length + M.length) (xs ++ ys)) : TabIs w' base e sz v' (L ++ M) := by
  refine ⟨xs ++ ys, by simpa using hown, ?_, ?_⟩
  · intro c hc
    rcases List.mem_append.1 hc with hc | hc
    · exact hL c hc
    · exact hM c hc
  · intro i c hi j u hj
    rcases Nat.lt_or_ge i L.length with hlt | hge
    · rw [List.getElem?_append_left hlt] at hi
      have hjl : j < c.length := (List.getElem?_eq_some_iff.1 hj).1
      rw [hL c (List.mem_of_getElem? hi)] at hjl
      rw [List.getElem?_append_left (by rw [hlen]; exact row_idx hlt hjl)]
      exact hcL i c hi j u hj
    · rw [List.getElem?_append_right hge] at hi
      have e1 : i * sz + j - L.length * sz = (i - L.length) * sz + j := by
        rw [Nat.sub_mul]
        have : L.length * sz ≤ i * sz := Nat.mul_le_mul_right _ hge
        omega
      rw [List.getElem?_append_right (by rw [hlen]; have : L.length * sz ≤ i * sz := Nat.mul_le_mul_right _ hge; omega), hlen, e1]
      exact hcM _ c hi j u hj

theorem tab_reads {w : World} {base n c : Nat} {e : TypeId} {sz : Nat} {A : Option Addr} {L : List (List Value)} {xs : List Value} (h : w.ownsRow base e sz (.slice A n c) L.length xs) : Reads w w.heap.size sz A n xs := by
  obtain ⟨A', c', hv, _, hf⟩ := own_form h
  injection hv with h1 h2 h3
  subst h1 h2
  refine ⟨h.1, fun hn => ?_⟩
  obtain ⟨g, rfl, hlt, _⟩ := hf hn
  refine ⟨_, rfl, hlt, fun j u hu => ?_⟩
  have hadd : (⟨g, 0, none⟩ : Addr).add j = ⟨g, j, none⟩ := by unfold Addr.add; split <;> simp_all
  rw [hadd, h.cellAt j (by have := h.1; have := (List.getElem?_eq_some_iff.1 hu).1; omega)]
  exact hu

/-- A fact that hangs on no world. -/
def pureE (p : Prop) : Ent := ⟨[], fun _ => p, fun _ _ h => h, fun _ b hb => by cases hb⟩
theorem Led.pure_ {w : World} {es fs : List Ent} {p q : Prop} (h : Led B w0 w (es ++ pureE p :: fs)) (hq : q) : Led B w0 w (es ++ pureE q :: fs) :=
  h.mid (pureE q) (Chg.refl _ _) hq (Fresh.refl _ _)

/-- A load of a cell of a block of the ledger's. -/
theorem wpOp_load {i : Nat} {o : Oper} {t : Tmp} {K : Act → World → Prop} {a : Act} {w : World} {v : Value} (hi : ops[i]? = some o) (hg : o.guard = none) (hd : o.dst = some t) (hy : (execOp a.eval o).run P w = .ok (.value v) w) (hK : K (a.put (some t) v) w) : wpOp P ops Q i K a w := by
  unfold wpOp
  simp only [hi]
  have hw : Region.wanted o (yielded ops a.tmps) = true := by simp [Region.wanted, hg]
  rw [if_pos hw]
  refine .inl ?_
  unfold Oper.wp
  rw [hy]
  show K (a.put o.dst v) w
  rw [hd]
  exact hK

/-- append(s, x...) of a whole slice of the ledger's onto another one. -/
theorem wpOp_appendAll {i : Nat} {o : Oper} {t : Tmp} {st e : TypeId} {sz by_ : Nat} {z : Value} {s x : Operand} {v u : Value} {L M : List (List Value)} {K : Act → World → Prop} {a : Act} {w : World} {es fs : List Ent} (hi : ops[i]? = some o) (hg : o.guard = none) (hd : o.dst = some t)
    (ho : o.op = .call { callee := .builtin .append, args := #[s, x], argTypes := #[st, st] }) (hu : P.underlying st = some (.slice e)) (hinfo : (P.info? e).map (fun i => (i.zero, i.size, i.bytes)) = some (some z, sz, by_)) (hzs : z.cells.size = sz) (hpos : 0 < sz) (hby : by_ ≤ 1000)
    (hlen : L.length + M.length ≤ 1000000000) (h1 : ∀ c ∈ M, ∀ u ∈ c, u.oneCell' = true) (hs : a.eval s = v) (hx : a.eval x = u)
    (h : Led B w0 w (es ++ tabE e sz v L :: fs)) (hm : tabE e sz u M ∈ es ++ fs) (hK : ∀ v' w', Led B w0 w' (es ++ tabE e sz v' (L ++ M) :: fs) → K (a.put (some t) v') w') : wpOp P ops Q i K a w := by
  unfold wpOp
  simp only [hi]
  have hw : Region.wanted o (yielded ops a.tmps) = true := by simp [Region.wanted, hg]
  rw [if_pos hw]
  refine .inl ?_
  have htab : TabIs w 0 e sz v L := h.mem
  have hsrc : TabIs w 0 e sz u M := h.all (tabE e sz u M) (by
    rcases List.mem_append.1 hm with h2 | h2
    · simp [h2]
    · simp [h2])
  obtain ⟨i', i1, i2, i3, i4⟩ := info_parts hinfo
  obtain ⟨xs, ho1, hL, hc, hll⟩ := htab.parts
  obtain ⟨ys, ho2, hM, hc2, hll2⟩ := hsrc.parts
  obtain ⟨A, cap, hue, _, _⟩ := hsrc.form
  subst hue
  have hone : ∀ y ∈ ys, y.oneCell' = true := by
    intro y hy
    obtain ⟨k, hk⟩ := List.getElem?_of_mem hy
    have hkl := (List.getElem?_eq_some_iff.1 hk).1
    rw [hll2] at hkl
    have hkd : k / sz < M.length := Nat.div_lt_of_lt_mul (by rw [Nat.mul_comm]; exact hkl)
    have hkm : k % sz < sz := Nat.mod_lt _ hpos
    have hrow := List.getElem?_eq_getElem hkd
    have hcl := hM _ (List.mem_of_getElem? hrow)
    have hcell := hc2 _ _ hrow (k % sz) _ (List.getElem?_eq_getElem (by omega))
    rw [show k / sz * sz + k % sz = k by rw [Nat.mul_comm]; exact Nat.div_add_mod k sz] at hcell
    rw [hk] at hcell
    injection hcell with hcell
    rw [hcell]
    exact h1 _ (List.mem_of_getElem? hrow) _ (List.getElem_mem _)
  have hbytes : (L.length + M.length) * by_ ≤ 140737488355328 := Nat.le_trans (Nat.mul_le_mul hlen hby) (by decide)
  obtain ⟨v', w', hr, h2, h3, h5⟩ := run_append_any (P := P) w 0 st o.type e i' z sz by_ hu i1 i2 i3 i4 hzs hpos v L.length xs ho1 w.heap.size A M.length cap ys (tab_reads ho2) hone (by unfold maxLen; omega) hbytes (Nat.zero_le _)
  unfold Oper.wp execOp
  simp only [ho, resolve, invoke, builtin, Sem.run_bind, Sem.run_pure, Result.andThen_ok, List.map_toArray, List.map_cons, List.map_nil, hs, hx, hr]
  show K (a.put o.dst v') w'
  rw [hd]
  refine hK v' w' ?_
  refine h.mid _ ((Chg.refl (tabE e sz v L).fp w).grown h3 (fun k hk => .inl (by simp [tabE, hk]))) (tab_concat hL hM hc hc2 hll h2) (fun b hb => ?_)
  rcases h5 with h5 | h5
  · exact .inl (by simpa [tabE, h5] using hb)
  · simp [tabE, h5] at hb
    exact .inr (by omega)
end
theorem finE9 {a b c d e f g m k : Eff} {zs : List (Eff × Option Value)} (h : zs.map (·.1) = [a, b, c, d, e, f, g, m, k]) (h2 : ∀ z, z ∈ zs → ∃ v, z.2 = some v) : ∃ v1 v2 v3 v4 v5 v6 v7 v8 v9, zs = [(a, some v1), (b, some v2), (c, some v3), (d, some v4), (e, some v5), (f, some v6), (g, some v7), (m, some v8), (k, some v9)] := by
  rcases zs with _ | ⟨⟨x1, s1⟩, _ | ⟨⟨x2, s2⟩, _ | ⟨⟨x3, s3⟩, _ | ⟨⟨x4, s4⟩, _ | ⟨⟨x5, s5⟩, _ | ⟨⟨x6, s6⟩, _ | ⟨⟨x7, s7⟩, _ | ⟨⟨x8, s8⟩, _ | ⟨⟨x9, s9⟩, _ | ⟨q, zs⟩⟩⟩⟩⟩⟩⟩⟩⟩⟩
  all_goals simp at h
  obtain ⟨rfl, rfl, rfl, rfl, rfl, rfl, rfl, rfl, rfl⟩ := h
  obtain ⟨v1, e1⟩ := h2 (x1, s1) (by simp)
  obtain ⟨v2, e2⟩ := h2 (x2, s2) (by simp)
  obtain ⟨v3, e3⟩ := h2 (x3, s3) (by simp)
  obtain ⟨v4, e4⟩ := h2 (x4, s4) (by simp)
  obtain ⟨v5, e5⟩ := h2 (x5, s5) (by simp)
  obtain ⟨v6, e6⟩ := h2 (x6, s6) (by simp)
  obtain ⟨v7, e7⟩ := h2 (x7, s7) (by simp)
  obtain ⟨v8, e8⟩ := h2 (x8, s8) (by simp)
  obtain ⟨v9, e9⟩ := h2 (x9, s9) (by simp)
  simp only at e1 e2 e3 e4 e5 e6 e7 e8 e9
  subst e1 e2 e3 e4 e5 e6 e7 e8 e9
  exact ⟨v1, v2, v3, v4, v5, v6, v7, v8, v9, rfl⟩
theorem finE5 {a b c d e : Eff} {zs : List (Eff × Option Value)} (h : zs.map (·.1) = [a, b, c, d, e]) (h2 : ∀ z, z ∈ zs → ∃ v, z.2 = some v) : ∃ v1 v2 v3 v4 v5, zs = [(a, some v1), (b, some v2), (c, some v3), (d, some v4), (e, some v5)] := by
  rcases zs with _ | ⟨⟨x1, s1⟩, _ | ⟨⟨x2, s2⟩, _ | ⟨⟨x3, s3⟩, _ | ⟨⟨x4, s4⟩, _ | ⟨⟨x5, s5⟩, _ | ⟨q, zs⟩⟩⟩⟩⟩⟩
  all_goals simp at h
  obtain ⟨rfl, rfl, rfl, rfl, rfl⟩ := h
  obtain ⟨v1, e1⟩ := h2 (x1, s1) (by simp)
  obtain ⟨v2, e2⟩ := h2 (x2, s2) (by simp)
  obtain ⟨v3, e3⟩ := h2 (x3, s3) (by simp)
  obtain ⟨v4, e4⟩ := h2 (x4, s4) (by simp)
  obtain ⟨v5, e5⟩ := h2 (x5, s5) (by simp)
  simp only at e1 e2 e3 e4 e5
  subst e1 e2 e3 e4 e5
  exact ⟨v1, v2, v3, v4, v5, rfl⟩
end Go.Proofs.Ytjabofofofddbaa
