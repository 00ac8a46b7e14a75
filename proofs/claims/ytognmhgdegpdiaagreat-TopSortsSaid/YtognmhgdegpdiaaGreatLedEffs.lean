import Derived.Test.YtognmhgdegpdiaaGreatLedAll
section
/- Operations that make memory, in one region that draws its order: whatever the order, the ledger behind them is the same. -/
namespace Go.Proofs.YtognmhgdegpdiaaGreat
open Go.RowKit
set_option linter.unusedVariables false
set_option linter.unusedSimpArgs false
structure Eff where
  i : Nat
  t : Tmp
def putE (a : Act) (z : Eff × Option Value) : Act := match z.2 with
  | none => a
  | some v => a.put (some z.1.t) v
def foldE (a : Act) (zs : List (Eff × Option Value)) : Act := zs.foldl putE a
def foldB (l : Array Bool) (zs : List (Nat × Bool)) : Array Bool := zs.foldl (fun l z => if z.2 then l.setIfInBounds z.1 true else l) l
def bools : Nat → List (List Bool)
  | 0 => [[]]
  | k + 1 => (bools k).flatMap fun r => [false :: r, true :: r]
theorem mem_bools : ∀ l : List Bool, l ∈ bools l.length
  | [] => by simp [bools]
  | x :: l => by
    simp only [List.length_cons, bools, List.mem_flatMap]
    exact ⟨l, mem_bools l, by cases x <;> simp⟩
def closedB (deps : List (List Nat)) (s : List Bool) : Bool := (List.range s.length).all fun j => !(s.getD j false) || (deps.getD j []).all fun d => s.getD d false
def effOk (md : Region.Mode) (ops : Array Oper) (l0 : Array Bool) (ix : List Nat) (deps : List (List Nat)) : Bool :=
  (bools ix.length).all fun s => !closedB deps s || s.all (· == true) ||
    (let r := Region.ready md ops (foldB l0 (ix.zip s))
     !r.isEmpty && r.all fun i => (List.range ix.length).any fun j => ix.getD j 0 == i && s.getD j true == false && (deps.getD j []).all fun d => s.getD d false)
theorem put_comm' (a : Act) (x y : Tmp) (v u : Value) (h : x ≠ y) : (a.put (some x) v).put (some y) u = (a.put (some y) u).put (some x) v := Act.put_comm a v u (fun d hd hy => h (by injection hd with hd; injection hy with hy; rw [hd, hy]))
theorem foldE_put : ∀ (zs : List (Eff × Option Value)) (a : Act) (t : Tmp) (v : Value), (∀ z, z ∈ zs → z.1.t ≠ t) → (foldE a zs).put (some t) v = foldE (a.put (some t) v) zs
  | [], _, _, _, _ => rfl
  | z :: zs, a, t, v, h => by
    show (foldE (putE a z) zs).put (some t) v = foldE (putE (a.put (some t) v) z) zs
    rw [foldE_put zs _ _ _ fun z hz => h z (by simp [hz])]
    congr 1
    obtain ⟨e, o⟩ := z
    cases o with
    | none => rfl
    | some u => exact put_comm' _ _ _ _ _ (h _ (by simp))
theorem foldE_append (a : Act) (x y : List (Eff × Option Value)) : foldE a (x ++ y) = foldE (foldE a x) y := by simp [foldE]
theorem foldE_size : ∀ (zs : List (Eff × Option Value)) (a : Act), (foldE a zs).tmps.size = a.tmps.size
  | [], _ => rfl
  | z :: zs, a => by
    show (foldE (putE a z) zs).tmps.size = _
    rw [foldE_size zs]
    obtain ⟨e, o⟩ := z
    cases o <;> simp [putE, put_tmps]
theorem foldE_eval : ∀ (zs : List (Eff × Option Value)) (a : Act) (x : Operand), (∀ z, z ∈ zs → x ≠ .tmp z.1.t) → (foldE a zs).eval x = a.eval x
  | [], _, _, _ => rfl
  | z :: zs, a, x, h => by
    show (foldE (putE a z) zs).eval x = _
    rw [foldE_eval zs _ _ fun z hz => h z (by simp [hz])]
    obtain ⟨e, o⟩ := z
    cases o with
    | none => rfl
    | some u => exact eval_put_ne _ _ _ _ (h _ (by simp))
theorem foldB_set : ∀ (zs : List (Nat × Bool)) (l : Array Bool) (i : Nat), (foldB l zs).setIfInBounds i true = foldB (l.setIfInBounds i true) zs
  | [], _, _ => rfl
  | z :: zs, l, i => by
    show (foldB (if z.2 then l.setIfInBounds z.1 true else l) zs).setIfInBounds i true = foldB (if z.2 then (l.setIfInBounds i true).setIfInBounds z.1 true else l.setIfInBounds i true) zs
    rw [foldB_set zs]
    congr 1
    cases z.2
    · rfl
    · by_cases h : z.1 = i
      · rw [h]; rfl
      · exact Array.setIfInBounds_comm _ _ h
theorem foldB_append (l : Array Bool) (x y : List (Nat × Bool)) : foldB l (x ++ y) = foldB (foldB l x) y := by simp [foldB]
def ixE (zs : List (Eff × Option Value)) : List (Nat × Bool) := zs.map fun z => (z.1.i, z.2.isSome)
def leftE (zs : List (Eff × Option Value)) : Nat := (zs.filter fun z => z.2.isNone).length
section
variable {P : Program} {ops : Array Oper} {Q : Exit → Act → World → Prop} {md : Region.Mode} {S : World → Prop} {B : Nat} {w0 : World}
def EffLaw (P : Program) (ops : Array Oper) (Q : Exit → Act → World → Prop) (B : Nat) (w0 : World) (a0 : Act) (effs : List Eff) (deps : List (List Nat)) (ents : List (Option Value) → List Ent) (j : Nat) (e : Eff) : Prop :=
  ∀ (env : List (Option Value)) (a : Act) (w : World) (K : Act → World → Prop), env.length = effs.length → env[j]? = some none → (∀ d, d ∈ deps.getD j [] → ∃ v, env[d]? = some (some v)) → (∀ k d, d ∈ deps.getD k [] → (∃ v, env[k]? = some (some v)) → ∃ v, env[d]? = some (some v)) →
    (∀ (d : Nat) (f : Eff) (v : Value), effs[d]? = some f → env[d]? = some (some v) → a.eval (.tmp f.t) = v) → (∀ x : Operand, (∀ f, f ∈ effs → x ≠ .tmp f.t) → a.eval x = a0.eval x) →
    Led B w0 w (ents env) → (∀ v w', Led B w0 w' (ents (env.set j (some v))) → K (a.put (some e.t) v) w') → wpOp P ops Q e.i K a w
theorem wpAnyH_effects (effs : List Eff) (deps : List (List Nat)) (ents : List (Option Value) → List Ent) (a0 : Act) (l0 : Array Bool) (hnd : (effs.map (·.t)).Nodup) (hin : ∀ e, e ∈ effs → e.t < a0.tmps.size) (hrd : effOk md ops l0 (effs.map (·.i)) deps = true)
    (hlaw : ∀ j e, effs[j]? = some e → EffLaw P ops Q B w0 a0 effs deps ents j e)
    (hS : ∀ w env, env.length = effs.length → Led B w0 w (ents env) → S w) (F : Nat)
    (hfin : ∀ zs w, zs.map (·.1) = effs → (∀ z, z ∈ zs → ∃ v, z.2 = some v) → Led B w0 w (ents (zs.map (·.2))) → wpAnyH P md ops Q S F (foldB l0 (ixE zs)) (foldE a0 zs) w) :
    ∀ (n : Nat) (zs : List (Eff × Option Value)) (w : World), leftE zs = n → zs.map (·.1) = effs → closedB deps (zs.map (·.2.isSome)) = true → Led B w0 w (ents (zs.map (·.2))) → wpAnyH P md ops Q S (F + n) (foldB l0 (ixE zs)) (foldE a0 zs) w := by
  intro n
  induction n with
  | zero =>
    intro zs w hn hp _ hl
    refine hfin zs w hp (fun z hz => ?_) hl
    cases hz2 : z.2 with
    | some v => exact ⟨v, rfl⟩
    | none =>
      have h0 : (zs.filter fun z => z.2.isNone) = [] := List.eq_nil_of_length_eq_zero hn
      have : z ∈ zs.filter fun z => z.2.isNone := List.mem_filter.2 ⟨hz, by simp [hz2]⟩
      rw [h0] at this
      cases this
  | succ n ih =>
    intro zs w hn hp hcl hl
    have hlen : zs.length = effs.length := by rw [← hp]; simp
    have hch := List.all_eq_true.1 hrd _ (show zs.map (·.2.isSome) ∈ bools (effs.map (·.i)).length by
      have := mem_bools (zs.map (·.2.isSome))
      simpa [hlen] using this)
    have hz : (effs.map (·.i)).zip (zs.map (·.2.isSome)) = ixE zs := by
      rw [← hp]
      clear hn hp hcl hl hlen hch
      induction zs with
      | nil => rfl
      | cons z zs ih => simp only [List.map_cons, List.zip_cons_cons, ih]; rfl
    rw [hz, hcl] at hch
    have hnot : (zs.map (·.2.isSome)).all (· == true) = false := by
      rw [Bool.eq_false_iff]
      intro hall
      have : leftE zs = 0 := by
        unfold leftE
        rw [List.length_eq_zero_iff, List.filter_eq_nil_iff]
        intro z hz
        have := List.all_eq_true.1 hall z.2.isSome (List.mem_map.2 ⟨z, hz, rfl⟩)
        cases h2 : z.2 <;> simp [h2] at this ⊢
      omega
    rw [hnot] at hch
    simp only [Bool.not_true, Bool.false_or, Bool.and_eq_true, Bool.not_eq_true', List.isEmpty_eq_false_iff] at hch
    refine ⟨fun h0 => absurd h0 hch.1, fun i hi => ?_⟩
    have hi2 := List.all_eq_true.1 hch.2 i hi
    obtain ⟨j, hj0, hj⟩ := List.any_eq_true.1 hi2
    have hjl : j < zs.length := by simpa [hlen] using hj0
    obtain ⟨z, hzj⟩ : ∃ z, zs[j]? = some z := ⟨_, List.getElem?_eq_getElem hjl⟩
    obtain ⟨e, o⟩ := z
    have he : effs[j]? = some e := by rw [← hp]; simp [hzj]
    simp only [Bool.and_eq_true, beq_iff_eq, List.all_eq_true] at hj
    obtain ⟨⟨hj1, hj2⟩, hj3⟩ := hj
    have hei : e.i = i := by rw [← hj1]; simp [he]
    have ho : o = none := by
      have h9 : (zs.map (·.2.isSome))[j]? = some o.isSome := by simp [hzj]
      rw [List.getD_eq_getElem?_getD, h9] at hj2
      cases o with
      | none => rfl
      | some v => simp at hj2
    subst ho
    have hsp := split_at hzj
    have htl : (zs.take j).length = j := by rw [List.length_take]; omega
    generalize zs.take j = z1 at hsp htl
    generalize zs.drop (j + 1) = z2 at hsp
    have hset : ∀ v, (zs.map (·.2)).set j (some v) = (z1 ++ (e, some v) :: z2).map (·.2) := fun v => by
      rw [hsp, List.map_append, List.map_cons, List.set_append_right _ _ (by simp [htl]), List.length_map, htl, Nat.sub_self, List.set_cons_zero]
      simp
    have hfar : ∀ z, z ∈ z2 → z.1.t ≠ e.t := by
      rw [← hp, hsp] at hnd
      simp only [List.map_append, List.map_cons] at hnd
      have h1 := (List.nodup_append.1 hnd).2.1
      rw [List.nodup_cons] at h1
      intro z hz heq
      exact h1.1 (by rw [← heq]; exact List.mem_map.2 ⟨z.1, List.mem_map.2 ⟨z, hz, rfl⟩, rfl⟩)
    rw [← hei]
    have hL := hlaw j e he
    unfold EffLaw at hL
    refine hL (zs.map (·.2)) _ w _ (by simp [hlen]) (by simp [hzj]) ?_ ?_ ?_ ?_ hl ?_
    · intro d hd
      have := hj3 d hd
      cases hzd : zs[d]? with
      | none => rw [List.getD_eq_getElem?_getD] at this; simp [hzd] at this
      | some y =>
        rw [List.getD_eq_getElem?_getD] at this
        simp [hzd] at this
        obtain ⟨v, hv⟩ := Option.isSome_iff_exists.1 this
        exact ⟨v, by simp [hzd, hv]⟩
    · intro k d hd ⟨v, hv⟩
      have hkl : k < zs.length := by
        have := (List.getElem?_eq_some_iff.1 hv).1
        simpa using this
      have h1 := List.all_eq_true.1 hcl k (by simpa using hkl)
      have h2 : (zs.map (·.2.isSome)).getD k false = true := by
        rw [List.getElem?_map] at hv
        cases hzk : zs[k]? with
        | none => rw [hzk] at hv; cases hv
        | some y =>
          rw [hzk] at hv
          injection hv with hv
          rw [List.getD_eq_getElem?_getD, List.getElem?_map, hzk]
          simp [hv]
      rw [h2] at h1
      simp only [Bool.not_true, Bool.false_or, List.all_eq_true] at h1
      have := h1 d hd
      cases hzd : zs[d]? with
      | none => rw [List.getD_eq_getElem?_getD] at this; simp [hzd] at this
      | some y =>
        rw [List.getD_eq_getElem?_getD] at this
        simp [hzd] at this
        obtain ⟨v, hv⟩ := Option.isSome_iff_exists.1 this
        exact ⟨v, by simp [hzd, hv]⟩
    · intro d f v hf hv
      have hzd : zs[d]? = some (f, some v) := by
        cases hzd : zs[d]? with
        | none => rw [List.getElem?_map, hzd] at hv; cases hv
        | some y =>
          rw [← hp, List.getElem?_map, hzd] at hf
          rw [List.getElem?_map, hzd] at hv
          injection hf with hf
          injection hv with hv
          rw [← hf, ← hv]
      have hsd := split_at hzd
      have hin2 := hin f (List.mem_of_getElem? hf)
      have hfar2 : ∀ z, z ∈ zs.drop (d + 1) → z.1.t ≠ f.t := by
        rw [← hp, hsd] at hnd
        simp only [List.map_append, List.map_cons] at hnd
        have h1 := (List.nodup_append.1 hnd).2.1
        rw [List.nodup_cons] at h1
        intro z hz heq
        exact h1.1 (by rw [← heq]; exact List.mem_map.2 ⟨z.1, List.mem_map.2 ⟨z, hz, rfl⟩, rfl⟩)
      rw [hsd, foldE_append]
      show (foldE ((foldE a0 (zs.take d)).put (some f.t) v) (zs.drop (d + 1))).eval (.tmp f.t) = v
      rw [foldE_eval _ _ _ fun z hz h => hfar2 z hz (by injection h with h; exact h.symm)]
      exact Act.eval_put_same _ _ _ (by rw [foldE_size]; exact hin2)
    · intro x hx
      exact foldE_eval _ _ _ fun z hz => hx z.1 (by rw [← hp]; exact List.mem_map.2 ⟨z, hz, rfl⟩)
    · intro v w' hw'
      rw [hset v] at hw'
      refine ⟨hS _ _ (by rw [← hp, hsp]; simp) hw', ?_⟩
      have hp2 : (z1 ++ (e, some v) :: z2).map (·.1) = effs := by rw [← hp, hsp]; simp
      have hcl2 : closedB deps ((z1 ++ (e, some v) :: z2).map (·.2.isSome)) = true := by
        have hs2 : (z1 ++ (e, some v) :: z2).map (·.2.isSome) = (zs.map (·.2.isSome)).set j true := by
          rw [hsp, List.map_append, List.map_append, List.map_cons, List.map_cons, List.set_append_right _ _ (by simp [htl]), List.length_map, htl, Nat.sub_self, List.set_cons_zero]
          rfl
        rw [hs2]
        generalize hs : zs.map (·.2.isSome) = s at hcl hj3 ⊢
        have hjs : j < s.length := by rw [← hs]; simpa using hjl
        have mono : ∀ d, s.getD d false = true → (s.set j true).getD d false = true := fun d hd => by
          by_cases hdj : j = d
          · subst hdj; simp [hjs]
          · simp only [List.getD_eq_getElem?_getD, List.getElem?_set_ne hdj] at hd ⊢; exact hd
        unfold closedB at hcl ⊢
        rw [List.all_eq_true] at hcl ⊢
        intro k hk
        rw [List.length_set] at hk
        have hk2 := hcl k hk
        by_cases hkj : j = k
        · subst hkj
          simp only [Bool.or_eq_true, List.all_eq_true]
          exact .inr fun d hd => mono d (hj3 d hd)
        · have he2 : (s.set j true).getD k false = s.getD k false := by simp only [List.getD_eq_getElem?_getD, List.getElem?_set_ne hkj]
          rw [he2]
          simp only [Bool.or_eq_true, List.all_eq_true] at hk2 ⊢
          rcases hk2 with h1 | h1
          · exact .inl h1
          · exact .inr fun d hd => mono d (h1 d hd)
      have hleft : leftE (z1 ++ (e, some v) :: z2) = n := by
        rw [hsp] at hn
        simp [leftE, List.filter_append, List.filter_cons] at hn ⊢
        omega
      have := ih (z1 ++ (e, some v) :: z2) w' hleft hp2 hcl2 hw'
      have ea : (foldE a0 zs).put (some e.t) v = foldE a0 (z1 ++ (e, some v) :: z2) := by
        rw [hsp, foldE_append, foldE_append]
        exact foldE_put z2 _ _ _ hfar
      have el : (foldB l0 (ixE zs)).setIfInBounds e.i true = foldB l0 (ixE (z1 ++ (e, some v) :: z2)) := by
        rw [hsp]
        simp only [ixE, List.map_append, List.map_cons, foldB_append]
        exact foldB_set _ _ _
      rw [ea, el]
      exact this
theorem foldE_no : ∀ (effs : List Eff) (a : Act), foldE a (effs.map fun e => (e, none)) = a
  | [], _ => rfl
  | e :: effs, a => foldE_no effs a
theorem foldB_no : ∀ (effs : List Eff) (l : Array Bool), foldB l (ixE (effs.map fun e => (e, none))) = l
  | [], _ => rfl
  | e :: effs, l => foldB_no effs l
theorem wpAnyH_effects0 (effs : List Eff) (deps : List (List Nat)) (ents : List (Option Value) → List Ent) {a0 : Act} {l0 : Array Bool} {F : Nat} {w : World} (hrd : effOk md ops l0 (effs.map (·.i)) deps = true) (hl : Led B w0 w (ents (effs.map fun _ => none))) (hnd : (effs.map (·.t)).Nodup) (hin : ∀ e, e ∈ effs → e.t < a0.tmps.size)
    (hlaw : ∀ j e, effs[j]? = some e → EffLaw P ops Q B w0 a0 effs deps ents j e)
    (hS : ∀ w env, env.length = effs.length → Led B w0 w (ents env) → S w)
    (hfin : ∀ zs w, zs.map (·.1) = effs → (∀ z, z ∈ zs → ∃ v, z.2 = some v) → Led B w0 w (ents (zs.map (·.2))) → wpAnyH P md ops Q S F (foldB l0 (ixE zs)) (foldE a0 zs) w) : wpAnyH P md ops Q S (F + effs.length) l0 a0 w := by
  have h := wpAnyH_effects effs deps ents a0 l0 hnd hin hrd hlaw hS F hfin effs.length (effs.map fun e => (e, none)) w (by simp [leftE, List.filter_map, Function.comp_def]) (by rw [List.map_map]; exact List.map_id' effs)
    (by
      unfold closedB
      rw [List.all_eq_true]
      intro j hj
      simp only [Bool.or_eq_true]
      left
      simp [List.getD_eq_getElem?_getD, List.getElem?_map]
      cases effs[j]? <;> simp) (by rw [List.map_map]; exact hl)
  rw [foldE_no, foldB_no] at h
  exact h
end
end Go.Proofs.YtognmhgdegpdiaaGreat
end
section
/- What single operations of a drawn region do to a ledger: an empty slice, an append of a whole slice. -/
namespace Go.Proofs.YtognmhgdegpdiaaGreat
open Go.RowKit
set_option linter.unusedVariables false
set_option linter.unusedSimpArgs false
section
variable {P : Program} {ops : Array Oper} {Q : Exit → Act → World → Prop} {B : Nat} {w0 : World}
theorem tab_concat {w' : World} {base : Nat} {e : TypeId} {sz : Nat} {v' : Value} {L M : List (List Value)} {xs ys : List Value} (hL : ∀ c ∈ L, c.length = sz) (hM : ∀ c ∈ M, c.length = sz)
    (hcL : ∀ (i : Nat) (c : List Value), L[i]? = some c → ∀ (j : Nat) (u : Value), c[j]? = some u → xs[i * sz + j]? = some u) (hcM : ∀ (i : Nat) (c : List Value), M[i]? = some c → ∀ (j : Nat) (u : Value), c[j]? = some u → ys[i * sz + j]? = some u)
    (hlen : xs.length = L.length * sz) (hown : w'.ownsRow base e sz v' (L.length + M.length) (xs ++ ys)) : TabIs w' base e sz v' (L ++ M) := by
  refine ⟨xs ++ ys, by simpa using hown, ?_, ?_⟩
  · intro c hc
    rcases List.mem_append.1 hc with hc | hc
    · exact hL c hc
    · exact hM c hc
  · intro i c hi j u hj
    rcases Nat.lt_or_ge i L.length with hlt | hge
    · rw [List.getElem?_append_left hlt] at hi
      have hjl : j < c.length := (List.getElem?_eq_some_iff.1 hj).1
      rw [hL c (List.mem_of_getElem? hi)] at hjl
      rw [List.getElem?_append_left (by rw [hlen]; exact row_idx hlt hjl)]
      exact hcL i c hi j u hj
    · rw [List.getElem?_append_right hge] at hi
      have e1 : i * sz + j - L.length * sz = (i - L.length) * sz + j := by
        rw [Nat.sub_mul]
        have : L.length * sz ≤ i * sz := Nat.mul_le_mul_right _ hge
        omega
      rw [List.getElem?_append_right (by rw [hlen]; have : L.length * sz ≤ i * sz := Nat.mul_le_mul_right _ hge; omega), hlen, e1]
      exact hcM _ c hi j u hj
theorem tab_reads {w : World} {base n c : Nat} {e : TypeId} {sz : Nat} {A : Option Addr} {L : List (List Value)} {xs : List Value} (h : w.ownsRow base e sz (.slice A n c) L.length xs) : Reads w w.heap.size sz A n xs := by
  obtain ⟨A', c', hv, _, hf⟩ := own_form h
  injection hv with h1 h2 h3
  subst h1 h2
  refine ⟨h.1, fun hn => ?_⟩
  obtain ⟨g, rfl, hlt, _⟩ := hf hn
  refine ⟨_, rfl, hlt, fun j u hu => ?_⟩
  have hadd : (⟨g, 0, none⟩ : Addr).add j = ⟨g, j, none⟩ := by unfold Addr.add; split <;> simp_all
  rw [hadd, h.cellAt j (by have := h.1; have := (List.getElem?_eq_some_iff.1 hu).1; omega)]
  exact hu
def pureE (p : Prop) : Ent := ⟨[], fun _ => p, fun _ _ h => h, fun _ b hb => by cases hb⟩
theorem Led.pure_ {w : World} {es fs : List Ent} {p q : Prop} (h : Led B w0 w (es ++ pureE p :: fs)) (hq : q) : Led B w0 w (es ++ pureE q :: fs) :=
  h.mid (pureE q) (Chg.refl _ _) hq (Fresh.refl _ _)
end
end Go.Proofs.YtognmhgdegpdiaaGreat
end
