import Derived.Test.YtognmhgdegpdiaaSlotsPlR
/- Handles against plain pools: which handles a round asks for (region 10). -/
namespace Go.Proofs.Ytognmhgdegpdiaa
open Go.RowKit
set_option linter.unusedVariables false
set_option linter.unusedSimpArgs false
set_option maxRecDepth 100000
section
variable {P : Program} {ops : Array Oper} {Q : Exit → Act → World → Prop} {B : Nat} {w0 : World}
/-- A call of a function that changes nothing. -/
theorem wpOp_call {i : Nat} {o : Oper} {t : Tmp} {K : Act → World → Prop} {a : Act} {w : World} {f : FuncId} {vals : Array Value} {v : Value} (hi : ops[i]? = some o) (hg : o.guard = none) (hd : o.dst = some t) (hy : (execOp a.eval o).run P w = .ok (.enter f vals) w) (hc : Calls P f vals w fun e w' => e = .returned v ∧ w = w') (hK : K (a.put (some t) v) w) : wpOp P ops Q i K a w := by
  unfold wpOp
  simp only [hi]
  have hw : Region.wanted o (yielded ops a.tmps) = true := by simp [Region.wanted, hg]
  rw [if_pos hw]
  refine .inl ?_
  unfold Oper.wp
  rw [hy, Oper.upon_enter]
  refine Calls.mono hc ?_
  rintro e w' ⟨rfl, rfl⟩
  show K (a.put o.dst v) _
  rw [hd]
  exact hK
theorem wpOp_alloc {i : Nat} {o : Oper} {t : Tmp} {K : Act → World → Prop} {a : Act} {w : World} {T : TypeId} {cs : Array Value} {es fs : List Ent} (hi : ops[i]? = some o) (hg : o.guard = none) (hd : o.dst = some t) (hy : (execOp a.eval o).run P w = .ok (.value (.pointer (some ⟨w.heap.size, 0, none⟩))) (w.alloc (.cells cs T)))
    (h : Led B w0 w (es ++ fs)) (hK : ∀ g w', Led B w0 w' (es ++ blkE g T cs :: fs) → K (a.put (some t) (.pointer (some ⟨g, 0, none⟩))) w') : wpOp P ops Q i K a w := by
  unfold wpOp
  simp only [hi]
  have hw : Region.wanted o (yielded ops a.tmps) = true := by simp [Region.wanted, hg]
  rw [if_pos hw]
  refine .inl ?_
  unfold Oper.wp
  rw [hy]
  show K (a.put o.dst _) _
  rw [hd]
  exact hK _ _ (h.insert (blkE w.heap.size T cs) (bel_alloc (bel_refl w) _) (Blk.new w T cs) (fun b hb => by simp [blkE] at hb; omega))
theorem wpOp_store {i : Nat} {o : Oper} {K : Act → World → Prop} {a : Act} {w w' : World} (hi : ops[i]? = some o) (hg : o.guard = none) (hd : o.dst = none) (hy : (execOp a.eval o).run P w = .ok .skip w') (hK : K a w') : wpOp P ops Q i K a w := by
  unfold wpOp
  simp only [hi]
  have hw : Region.wanted o (yielded ops a.tmps) = true := by simp [Region.wanted, hg]
  rw [if_pos hw]
  refine .inl ?_
  unfold Oper.wp
  rw [hy]
  show K (a.put o.dst undef) w'
  rw [hd]
  exact hK
end
theorem put_same (a : Act) (t : Nat) : a.put (some t) (a.eval (.tmp t)) = a := by
  obtain ⟨ts, ds⟩ := a
  simp only [Act.put, Act.eval]
  congr 1
  by_cases h : t < ts.size
  · rw [Array.setIfInBounds_def, dif_pos h]
    simp [Array.getD, h]
  · exact Array.setIfInBounds_eq_of_size_le (by omega)
def alV (r q : Int) : Option Value → Array Value
  | none => #[.int .i64 0, .int .i64 0]
  | some _ => #[.int .i64 r, .int .i64 q]
def alE (r q : Int) (o os : Option Value) : List Ent := match o with
  | none => []
  | some (.pointer (some ⟨g, 0, none⟩)) => [blkE g 27 (alV r q os)]
  | some _ => [pureE False]
theorem alE_none (r q : Int) (os : Option Value) : alE r q none os = [] := rfl
theorem alE_new (r q : Int) (g : Nat) : alE r q (some (.pointer (some ⟨g, 0, none⟩))) none = [blkE g 27 #[.int .i64 0, .int .i64 0]] := rfl
theorem alE_set (r q : Int) (g : Nat) (v : Value) : alE r q (some (.pointer (some ⟨g, 0, none⟩))) (some v) = [blkE g 27 #[.int .i64 r, .int .i64 q]] := rfl
theorem alE_form (r q : Int) (os : Option Value) (v : Value) : (∃ g, v = .pointer (some ⟨g, 0, none⟩)) ∨ alE r q (some v) os = [pureE False] := by
  by_cases h : ∃ g, v = .pointer (some ⟨g, 0, none⟩)
  · exact .inl h
  · right
    unfold alE
    split
    · rename_i heq; cases heq
    · rename_i g heq; injection heq with heq; exact absurd ⟨g, heq⟩ h
    · rfl
theorem finE15 {a1 a2 a3 a4 a5 a6 a7 a8 a9 a10 a11 a12 a13 a14 a15 : Eff} {zs : List (Eff × Option Value)} (h : zs.map (·.1) = [a1, a2, a3, a4, a5, a6, a7, a8, a9, a10, a11, a12, a13, a14, a15]) (h2 : ∀ z, z ∈ zs → ∃ v, z.2 = some v) : ∃ v1 v2 v3 v4 v5 v6 v7 v8 v9 v10 v11 v12 v13 v14 v15, zs = [(a1, some v1), (a2, some v2), (a3, some v3), (a4, some v4), (a5, some v5), (a6, some v6), (a7, some v7), (a8, some v8), (a9, some v9), (a10, some v10), (a11, some v11), (a12, some v12), (a13, some v13), (a14, some v14), (a15, some v15)] := by
  rcases zs with _ | ⟨⟨x1, s1⟩, _ | ⟨⟨x2, s2⟩, _ | ⟨⟨x3, s3⟩, _ | ⟨⟨x4, s4⟩, _ | ⟨⟨x5, s5⟩, _ | ⟨⟨x6, s6⟩, _ | ⟨⟨x7, s7⟩, _ | ⟨⟨x8, s8⟩, _ | ⟨⟨x9, s9⟩, _ | ⟨⟨x10, s10⟩, _ | ⟨⟨x11, s11⟩, _ | ⟨⟨x12, s12⟩, _ | ⟨⟨x13, s13⟩, _ | ⟨⟨x14, s14⟩, _ | ⟨⟨x15, s15⟩, _ | ⟨q, zs⟩⟩⟩⟩⟩⟩⟩⟩⟩⟩⟩⟩⟩⟩⟩⟩
  all_goals simp at h
  obtain ⟨rfl, rfl, rfl, rfl, rfl, rfl, rfl, rfl, rfl, rfl, rfl, rfl, rfl, rfl, rfl⟩ := h
  obtain ⟨v1, e1⟩ := h2 (x1, s1) (by simp)
  obtain ⟨v2, e2⟩ := h2 (x2, s2) (by simp)
  obtain ⟨v3, e3⟩ := h2 (x3, s3) (by simp)
  obtain ⟨v4, e4⟩ := h2 (x4, s4) (by simp)
  obtain ⟨v5, e5⟩ := h2 (x5, s5) (by simp)
  obtain ⟨v6, e6⟩ := h2 (x6, s6) (by simp)
  obtain ⟨v7, e7⟩ := h2 (x7, s7) (by simp)
  obtain ⟨v8, e8⟩ := h2 (x8, s8) (by simp)
  obtain ⟨v9, e9⟩ := h2 (x9, s9) (by simp)
  obtain ⟨v10, e10⟩ := h2 (x10, s10) (by simp)
  obtain ⟨v11, e11⟩ := h2 (x11, s11) (by simp)
  obtain ⟨v12, e12⟩ := h2 (x12, s12) (by simp)
  obtain ⟨v13, e13⟩ := h2 (x13, s13) (by simp)
  obtain ⟨v14, e14⟩ := h2 (x14, s14) (by simp)
  obtain ⟨v15, e15⟩ := h2 (x15, s15) (by simp)
  simp only at e1 e2 e3 e4 e5 e6 e7 e8 e9 e10 e11 e12 e13 e14 e15
  subst e1 e2 e3 e4 e5 e6 e7 e8 e9 e10 e11 e12 e13 e14 e15
  exact ⟨v1, v2, v3, v4, v5, v6, v7, v8, v9, v10, v11, v12, v13, v14, v15, rfl⟩
def ents10 (g0 g1 g2 m0 m1 m2 : Nat) (r0 r1 r2 q0 q1 q2 : Int) (BB : List Ent) (env : List (Option Value)) : List Ent :=
  pureE (∀ v, env.getD 0 none = some v → v = .int .i64 (m0 : Int)) :: pureE (∀ v, env.getD 1 none = some v → v = .pointer (some ⟨g0, m0 * 2, none⟩)) :: pureE (∀ v, env.getD 2 none = some v → v = .agg #[.int .i64 r0, .int .i64 q0]) :: pureE (∀ v, env.getD 3 none = some v → v = .int .i64 (m1 : Int)) :: pureE (∀ v, env.getD 4 none = some v → v = .pointer (some ⟨g1, m1 * 2, none⟩)) :: pureE (∀ v, env.getD 5 none = some v → v = .agg #[.int .i64 r1, .int .i64 q1]) :: pureE (∀ v, env.getD 6 none = some v → v = .int .i64 (m2 : Int)) :: pureE (∀ v, env.getD 7 none = some v → v = .pointer (some ⟨g2, m2 * 2, none⟩)) :: pureE (∀ v, env.getD 8 none = some v → v = .agg #[.int .i64 r2, .int .i64 q2]) :: (alE r0 q0 (env.getD 9 none) (env.getD 12 none) ++ (alE r1 q1 (env.getD 10 none) (env.getD 13 none) ++ (alE r2 q2 (env.getD 11 none) (env.getD 14 none) ++ BB)))
set_option maxHeartbeats 16000000 in
theorem pl_r10 (Z : PB) (X : PM) (D : HD) (a : Act) (w : World) (Q : Exit → Act → World → Prop) (hsz : a.tmps.size = 497) (hde : a.defers = []) (v7 : Sl a 7 D.hs) (v8 : Sl a 8 D.is_) (v10 : Sl a 10 (.pointer (some ⟨D.xb, 0, none⟩)))
    (hH1 : 1 ≤ D.HS.length) (hH2 : D.HS.length ≤ 1000) (hI1 : 1 ≤ D.IS.length) (hI2 : D.IS.length ≤ 1000) (hho : in64 D.ho) (hoo : in64 D.oo) (hio : in64 D.io)
    (hl : Led Z.w0.heap.size Z.w0 w (X.mem ++ (D.tabs ++ [D.ask]))) (hPan : ∀ c (a : Act) d v w, Q (.panic c) (a.put d v) w → Q (.panic c) a w)
    (hQ : ∀ (hb ob cb : Nat) (h0 h1 o0 o1 c0 c1 : Int) (a2 : Act) (w2 : World), a2.tmps.size = 497 → a2.defers = [] →
      (a2.tmps.getD 1 undef = a.tmps.getD 1 undef ∧ a2.tmps.getD 5 undef = a.tmps.getD 5 undef ∧ a2.tmps.getD 6 undef = a.tmps.getD 6 undef ∧ a2.tmps.getD 7 undef = a.tmps.getD 7 undef ∧ a2.tmps.getD 8 undef = a.tmps.getD 8 undef ∧ a2.tmps.getD 9 undef = a.tmps.getD 9 undef ∧ a2.tmps.getD 10 undef = a.tmps.getD 10 undef) →
      Sl a2 11 (.pointer (some ⟨hb, 0, none⟩)) → Sl a2 12 (.pointer (some ⟨ob, 0, none⟩)) → Sl a2 13 (.pointer (some ⟨cb, 0, none⟩)) → Led Z.w0.heap.size Z.w0 w2 (X.mem ++ { D with hb := hb, ob := ob, cb := cb, h0 := h0, h1 := h1, o0 := o0, o1 := o1, c0 := c0, c1 := c1 }.es) → Q .normal a2 w2) :
    PlayWp [1, 1, 1, 1, 0, 1, 0, 0, 1, 0, 0, 1, 1, 0] Q a w := by
  have HP := Lib.hid hPan
  have HQ := Lib.hid hQ
  clear hPan hQ
  have tH : TabIs w 0 27 2 D.hs (rowsR D.HS) := hl.at_ 21 rfl
  have tI : TabIs w 0 27 2 D.is_ (rowsR D.IS) := hl.at_ 22 rfl
  obtain ⟨AH, cH, hvH, hcH, hAH⟩ := tH.form
  obtain ⟨AI, cI, hvI, hcI, hAI⟩ := tI.form
  have lH : (rowsR D.HS).length = D.HS.length := by rw [rowsR, List.length_map]
  have lI : (rowsR D.IS).length = D.IS.length := by rw [rowsR, List.length_map]
  rw [lH] at hvH hcH hAH
  rw [lI] at hvI hcI hAI
  obtain ⟨gh, rfl, _, _⟩ := hAH (by omega)
  obtain ⟨gi, rfl, _, _⟩ := hAI (by omega)
  unfold in64 at hho
  have bd0 := within_bd D.ho 0 ((D.HS.length : Int) - 1) (by omega)
  obtain ⟨m0, hm0⟩ : ∃ m : Nat, within D.ho 0 ((D.HS.length : Int) - 1) = (m : Int) := ⟨(within D.ho 0 ((D.HS.length : Int) - 1)).toNat, by omega⟩
  rw [hm0] at bd0
  obtain ⟨p0, hp0⟩ : ∃ p, D.HS[m0]? = some p := ⟨_, List.getElem?_eq_getElem (by omega)⟩
  have HM0 := Lib.hid hm0
  unfold in64 at hoo
  have bd1 := within_bd D.oo 0 ((D.HS.length : Int) - 1) (by omega)
  obtain ⟨m1, hm1⟩ : ∃ m : Nat, within D.oo 0 ((D.HS.length : Int) - 1) = (m : Int) := ⟨(within D.oo 0 ((D.HS.length : Int) - 1)).toNat, by omega⟩
  rw [hm1] at bd1
  obtain ⟨p1, hp1⟩ : ∃ p, D.HS[m1]? = some p := ⟨_, List.getElem?_eq_getElem (by omega)⟩
  have HM1 := Lib.hid hm1
  unfold in64 at hio
  have bd2 := within_bd D.io 0 ((D.IS.length : Int) - 1) (by omega)
  obtain ⟨m2, hm2⟩ : ∃ m : Nat, within D.io 0 ((D.IS.length : Int) - 1) = (m : Int) := ⟨(within D.io 0 ((D.IS.length : Int) - 1)).toNat, by omega⟩
  rw [hm2] at bd2
  obtain ⟨p2, hp2⟩ : ∃ p, D.IS[m2]? = some p := ⟨_, List.getElem?_eq_getElem (by omega)⟩
  have HM2 := Lib.hid hm2
  obtain ⟨BB, hBB⟩ : ∃ O : List Ent, X.mem ++ (D.tabs ++ [D.ask]) = O := ⟨_, rfl⟩
  have mH : tabE 27 2 D.hs (rowsR D.HS) ∈ BB := by rw [← hBB]; simp [HD.tabs]
  have mI : tabE 27 2 D.is_ (rowsR D.IS) ∈ BB := by rw [← hBB]; simp [HD.tabs]
  have mA : D.ask ∈ BB := by rw [← hBB]; simp
  rw [hBB] at hl
  have HB : Hid (Led Z.w0.heap.size Z.w0 w (ents10 gh gh gi m0 m1 m2 p0.1 p1.1 p2.1 p0.2 p1.2 p2.2 BB [none, none, none, none, none, none, none, none, none, none, none, none, none, none, none])) := Lib.hid (by
    have add : ∀ {W : World} {xs : List Ent} (p : Prop), p → Led Z.w0.heap.size Z.w0 W xs → Led Z.w0.heap.size Z.w0 W (pureE p :: xs) := fun p hp h => h.add (pureE p) (Below.refl _ _) hp (by simp [pureE])
    exact add _ (fun v hv => by cases hv) (add _ (fun v hv => by cases hv) (add _ (fun v hv => by cases hv) (add _ (fun v hv => by cases hv) (add _ (fun v hv => by cases hv) (add _ (fun v hv => by cases hv) (add _ (fun v hv => by cases hv) (add _ (fun v hv => by cases hv) (add _ (fun v hv => by cases hv) (hl))))))))))
  have HSX : Hid (∀ W env, Led Z.w0.heap.size Z.w0 W (ents10 gh gh gi m0 m1 m2 p0.1 p1.1 p2.1 p0.2 p1.2 p2.2 BB env) → W.cell? ⟨D.xb, 2, none⟩ = some (.int .i64 D.ho) ∧ W.cell? ⟨D.xb, 3, none⟩ = some (.int .i64 D.oo) ∧ W.cell? ⟨D.xb, 4, none⟩ = some (.int .i64 D.io)) := Lib.hid fun W env h => by
    have q : Blk W D.xb 47 #[.int .i64 D.kd, .int .i64 D.kk, .int .i64 D.ho, .int .i64 D.oo, .int .i64 D.io, .int .i64 D.ce, .int .i64 D.ra, .int .i64 D.rg] := h.all D.ask (by simp [ents10, mA])
    exact ⟨q.cell 2, q.cell 3, q.cell 4⟩
  have HT0 : Hid (∀ W env, Led Z.w0.heap.size Z.w0 W (ents10 gh gh gi m0 m1 m2 p0.1 p1.1 p2.1 p0.2 p1.2 p2.2 BB env) → W.cell? ⟨gh, m0 * 2, none⟩ = some (.int .i64 p0.1) ∧ W.cell? ⟨gh, m0 * 2 + 1, none⟩ = some (.int .i64 p0.2)) := Lib.hid fun W env h => by
    have q : TabIs W 0 27 2 D.hs (rowsR D.HS) := h.all (tabE 27 2 D.hs (rowsR D.HS)) (by simp [ents10, mH])
    rw [hvH] at q
    exact ⟨q.cell (j := 0) (r := [.int .i64 p0.1, .int .i64 p0.2]) (by rw [rowsR, List.getElem?_map, hp0]; rfl) rfl, q.cell (j := 1) (r := [.int .i64 p0.1, .int .i64 p0.2]) (by rw [rowsR, List.getElem?_map, hp0]; rfl) rfl⟩
  have HT1 : Hid (∀ W env, Led Z.w0.heap.size Z.w0 W (ents10 gh gh gi m0 m1 m2 p0.1 p1.1 p2.1 p0.2 p1.2 p2.2 BB env) → W.cell? ⟨gh, m1 * 2, none⟩ = some (.int .i64 p1.1) ∧ W.cell? ⟨gh, m1 * 2 + 1, none⟩ = some (.int .i64 p1.2)) := Lib.hid fun W env h => by
    have q : TabIs W 0 27 2 D.hs (rowsR D.HS) := h.all (tabE 27 2 D.hs (rowsR D.HS)) (by simp [ents10, mH])
    rw [hvH] at q
    exact ⟨q.cell (j := 0) (r := [.int .i64 p1.1, .int .i64 p1.2]) (by rw [rowsR, List.getElem?_map, hp1]; rfl) rfl, q.cell (j := 1) (r := [.int .i64 p1.1, .int .i64 p1.2]) (by rw [rowsR, List.getElem?_map, hp1]; rfl) rfl⟩
  have HT2 : Hid (∀ W env, Led Z.w0.heap.size Z.w0 W (ents10 gh gh gi m0 m1 m2 p0.1 p1.1 p2.1 p0.2 p1.2 p2.2 BB env) → W.cell? ⟨gi, m2 * 2, none⟩ = some (.int .i64 p2.1) ∧ W.cell? ⟨gi, m2 * 2 + 1, none⟩ = some (.int .i64 p2.2)) := Lib.hid fun W env h => by
    have q : TabIs W 0 27 2 D.is_ (rowsR D.IS) := h.all (tabE 27 2 D.is_ (rowsR D.IS)) (by simp [ents10, mI])
    rw [hvI] at q
    exact ⟨q.cell (j := 0) (r := [.int .i64 p2.1, .int .i64 p2.2]) (by rw [rowsR, List.getElem?_map, hp2]; rfl) rfl, q.cell (j := 1) (r := [.int .i64 p2.1, .int .i64 p2.2]) (by rw [rowsR, List.getElem?_map, hp2]; rfl) rfl⟩
  have hw0 : IntKind.i64.wrap ((D.HS.length : Int) - 1) = (D.HS.length : Int) - 1 := by rw [IntKind.wrap_i64]; omega
  have hw1 : IntKind.i64.wrap ((D.IS.length : Int) - 1) = (D.IS.length : Int) - 1 := by rw [IntKind.wrap_i64]; omega
  have nH : (0 : Int) < D.HS.length := by omega
  obtain ⟨fs, hfs, rfl⟩ := frame_open a hsz hde
  clear hsz hde
  rw [hvH] at v7
  rw [hvI] at v8
  replace v7 := hfs _ _ v7
  replace v8 := hfs _ _ v8
  replace v10 := hfs _ _ v10
  clear hfs
  simp only [v7, v8, v10] at HQ ⊢
  clear v7 v8 v10
  unfold PlayWp
  conv => arg 2; whnf
  refine wp_region_held_drew (S := fun W => W.cell? ⟨D.xb, 2, none⟩ = some (.int .i64 D.ho) ∧ W.cell? ⟨D.xb, 3, none⟩ = some (.int .i64 D.oo) ∧ W.cell? ⟨D.xb, 4, none⟩ = some (.int .i64 D.io)) (by as_aux_lemma => kernel_rfl) ?_ (fun hHeld => ?_)
  · exact HSX.out _ _ HB.out.drew
  refine wpAnyH_read (i := 0) (d := 69) (v := ?_) rfl rfl rfl (by as_aux_lemma => kernel_rfl) (by as_aux_lemma => kernel_rfl) (by as_aux_lemma => kernel_rfl) (fun c a w h => HP.out c a _ _ w h) hHeld ?_ ?_
  rotate_left
  · intro w hSw
    (try dsimp only at hSw)
    go_simp
    (try with_reducible rfl)
  (try simp only [List.setIfInBounds_toArray, List.set_cons_zero, List.set_cons_succ])
  refine wpAnyH_read (i := 1) (d := 70) (v := ?_) rfl rfl rfl (by as_aux_lemma => kernel_rfl) (by as_aux_lemma => kernel_rfl) (by as_aux_lemma => kernel_rfl) (fun c a w h => HP.out c a _ _ w h) hHeld ?_ ?_
  rotate_left
  · intro w hSw
    (try dsimp only at hSw)
    go_simp
    (try with_reducible rfl)
  (try simp only [List.setIfInBounds_toArray, List.set_cons_zero, List.set_cons_succ])
  refine wpAnyH_read (i := 2) (d := 71) (v := ?_) rfl rfl rfl (by as_aux_lemma => kernel_rfl) (by as_aux_lemma => kernel_rfl) (by as_aux_lemma => kernel_rfl) (fun c a w h => HP.out c a _ _ w h) hHeld ?_ ?_
  rotate_left
  · intro w hSw
    (try dsimp only at hSw)
    go_simp
    (try with_reducible rfl)
  (try simp only [List.setIfInBounds_toArray, List.set_cons_zero, List.set_cons_succ])
  refine wpAnyH_read (i := 3) (d := 72) (v := ?_) rfl rfl rfl (by as_aux_lemma => kernel_rfl) (by as_aux_lemma => kernel_rfl) (by as_aux_lemma => kernel_rfl) (fun c a w h => HP.out c a _ _ w h) hHeld ?_ ?_
  rotate_left
  · intro w hSw
    (try dsimp only at hSw)
    go_simp
    (try with_reducible rfl)
  (try simp only [List.setIfInBounds_toArray, List.set_cons_zero, List.set_cons_succ])
  refine wpAnyH_read (i := 4) (d := 73) (v := ?_) rfl rfl rfl (by as_aux_lemma => kernel_rfl) (by as_aux_lemma => kernel_rfl) (by as_aux_lemma => kernel_rfl) (fun c a w h => HP.out c a _ _ w h) hHeld ?_ ?_
  rotate_left
  · intro w hSw
    (try dsimp only at hSw)
    go_simp
    (try with_reducible rfl)
  (try simp only [List.setIfInBounds_toArray, List.set_cons_zero, List.set_cons_succ])
  refine wpAnyH_read (i := 5) (d := 74) (v := ?_) rfl rfl rfl (by as_aux_lemma => kernel_rfl) (by as_aux_lemma => kernel_rfl) (by as_aux_lemma => kernel_rfl) (fun c a w h => HP.out c a _ _ w h) hHeld ?_ ?_
  rotate_left
  · intro w hSw
    (try dsimp only at hSw)
    go_simp
    (try with_reducible rfl)
  (try simp only [List.setIfInBounds_toArray, List.set_cons_zero, List.set_cons_succ])
  refine wpAnyH_read (i := 9) (d := 78) (v := ?_) rfl rfl rfl (by as_aux_lemma => kernel_rfl) (by as_aux_lemma => kernel_rfl) (by as_aux_lemma => kernel_rfl) (fun c a w h => HP.out c a _ _ w h) hHeld ?_ ?_
  rotate_left
  · intro w hSw
    (try dsimp only at hSw)
    go_simp
    (try with_reducible rfl)
  (try simp only [List.setIfInBounds_toArray, List.set_cons_zero, List.set_cons_succ])
  refine wpAnyH_read (i := 10) (d := 79) (v := ?_) rfl rfl rfl (by as_aux_lemma => kernel_rfl) (by as_aux_lemma => kernel_rfl) (by as_aux_lemma => kernel_rfl) (fun c a w h => HP.out c a _ _ w h) hHeld ?_ ?_
  rotate_left
  · intro w hSw
    (try dsimp only at hSw)
    go_simp
    (try with_reducible rfl)
  (try simp only [List.setIfInBounds_toArray, List.set_cons_zero, List.set_cons_succ])
  refine wpAnyH_read (i := 11) (d := 80) (v := ?_) rfl rfl rfl (by as_aux_lemma => kernel_rfl) (by as_aux_lemma => kernel_rfl) (by as_aux_lemma => kernel_rfl) (fun c a w h => HP.out c a _ _ w h) hHeld ?_ ?_
  rotate_left
  · intro w hSw
    (try dsimp only at hSw)
    go_simp
    (try with_reducible rfl)
  (try simp only [List.setIfInBounds_toArray, List.set_cons_zero, List.set_cons_succ])
  refine wpAnyH_read (i := 12) (d := 81) (v := ?_) rfl rfl rfl (by as_aux_lemma => kernel_rfl) (by as_aux_lemma => kernel_rfl) (by as_aux_lemma => kernel_rfl) (fun c a w h => HP.out c a _ _ w h) hHeld ?_ ?_
  rotate_left
  · intro w hSw
    (try dsimp only at hSw)
    go_simp
    (try with_reducible rfl)
  (try simp only [List.setIfInBounds_toArray, List.set_cons_zero, List.set_cons_succ])
  refine wpAnyH_read (i := 13) (d := 82) (v := ?_) rfl rfl rfl (by as_aux_lemma => kernel_rfl) (by as_aux_lemma => kernel_rfl) (by as_aux_lemma => kernel_rfl) (fun c a w h => HP.out c a _ _ w h) hHeld ?_ ?_
  rotate_left
  · intro w hSw
    (try dsimp only at hSw)
    go_simp
    (try with_reducible rfl)
  (try simp only [List.setIfInBounds_toArray, List.set_cons_zero, List.set_cons_succ])
  refine wpAnyH_read (i := 14) (d := 83) (v := ?_) rfl rfl rfl (by as_aux_lemma => kernel_rfl) (by as_aux_lemma => kernel_rfl) (by as_aux_lemma => kernel_rfl) (fun c a w h => HP.out c a _ _ w h) hHeld ?_ ?_
  rotate_left
  · intro w hSw
    (try dsimp only at hSw)
    go_simp
    (try with_reducible rfl)
  (try simp only [List.setIfInBounds_toArray, List.set_cons_zero, List.set_cons_succ])
  refine wpAnyH_read (i := 18) (d := 87) (v := ?_) rfl rfl rfl (by as_aux_lemma => kernel_rfl) (by as_aux_lemma => kernel_rfl) (by as_aux_lemma => kernel_rfl) (fun c a w h => HP.out c a _ _ w h) hHeld ?_ ?_
  rotate_left
  · intro w hSw
    (try dsimp only at hSw)
    go_simp
    (try with_reducible rfl)
  (try simp only [List.setIfInBounds_toArray, List.set_cons_zero, List.set_cons_succ])
  refine wpAnyH_read (i := 19) (d := 88) (v := ?_) rfl rfl rfl (by as_aux_lemma => kernel_rfl) (by as_aux_lemma => kernel_rfl) (by as_aux_lemma => kernel_rfl) (fun c a w h => HP.out c a _ _ w h) hHeld ?_ ?_
  rotate_left
  · intro w hSw
    (try dsimp only at hSw)
    go_simp
    (try with_reducible rfl)
  (try simp only [List.setIfInBounds_toArray, List.set_cons_zero, List.set_cons_succ])
  refine wpAnyH_read (i := 20) (d := 89) (v := ?_) rfl rfl rfl (by as_aux_lemma => kernel_rfl) (by as_aux_lemma => kernel_rfl) (by as_aux_lemma => kernel_rfl) (fun c a w h => HP.out c a _ _ w h) hHeld ?_ ?_
  rotate_left
  · intro w hSw
    (try dsimp only at hSw)
    go_simp
    (try with_reducible rfl)
  (try simp only [List.setIfInBounds_toArray, List.set_cons_zero, List.set_cons_succ])
  refine wpAnyH_read (i := 21) (d := 90) (v := ?_) rfl rfl rfl (by as_aux_lemma => kernel_rfl) (by as_aux_lemma => kernel_rfl) (by as_aux_lemma => kernel_rfl) (fun c a w h => HP.out c a _ _ w h) hHeld ?_ ?_
  rotate_left
  · intro w hSw
    (try dsimp only at hSw)
    go_simp
    (try with_reducible rfl)
  (try simp only [List.setIfInBounds_toArray, List.set_cons_zero, List.set_cons_succ])
  refine wpAnyH_read (i := 22) (d := 91) (v := ?_) rfl rfl rfl (by as_aux_lemma => kernel_rfl) (by as_aux_lemma => kernel_rfl) (by as_aux_lemma => kernel_rfl) (fun c a w h => HP.out c a _ _ w h) hHeld ?_ ?_
  rotate_left
  · intro w hSw
    (try dsimp only at hSw)
    go_simp
    (try with_reducible rfl)
  (try simp only [List.setIfInBounds_toArray, List.set_cons_zero, List.set_cons_succ])
  refine wpAnyH_read (i := 23) (d := 92) (v := ?_) rfl rfl rfl (by as_aux_lemma => kernel_rfl) (by as_aux_lemma => kernel_rfl) (by as_aux_lemma => kernel_rfl) (fun c a w h => HP.out c a _ _ w h) hHeld ?_ ?_
  rotate_left
  · intro w hSw
    (try dsimp only at hSw)
    go_simp
    (try with_reducible rfl)
  (try simp only [List.setIfInBounds_toArray, List.set_cons_zero, List.set_cons_succ])
  refine wpAnyH_effects0 (B := Z.w0.heap.size) (w0 := Z.w0) (F := 0) [⟨6, 75⟩, ⟨7, 76⟩, ⟨8, 77⟩, ⟨15, 84⟩, ⟨16, 85⟩, ⟨17, 86⟩, ⟨24, 93⟩, ⟨25, 94⟩, ⟨26, 95⟩, ⟨27, 11⟩, ⟨28, 12⟩, ⟨29, 13⟩, ⟨30, 494⟩, ⟨31, 495⟩, ⟨32, 496⟩] [[], [0], [1], [0], [3], [4], [3], [6], [7], [], [], [], [0, 1, 2, 6, 9, 10, 11], [12, 3, 4, 5], [13, 6, 7, 8]] (ents10 gh gh gi m0 m1 m2 p0.1 p1.1 p2.1 p0.2 p1.2 p2.2 BB) (effOk_chunks 4 11 rfl (four_bools fun a b c d => by cases a <;> cases b <;> cases c <;> cases d <;> (as_aux_lemma => kernel_rfl))) HB.out.drew (by decide) (by simp) ?hlaw (fun W env _ h => HSX.out W env h) ?hfin
  case hlaw =>
   as_aux_lemma =>
    intro j e he
    unfold EffLaw
    intro env a wa K hlen hj hdep hcl hev hst hl hK
    rcases env with _ | ⟨e0, _ | ⟨e1, _ | ⟨e2, _ | ⟨e3, _ | ⟨e4, _ | ⟨e5, _ | ⟨e6, _ | ⟨e7, _ | ⟨e8, _ | ⟨e9, _ | ⟨e10, _ | ⟨e11, _ | ⟨e12, _ | ⟨e13, _ | ⟨e14, _ | ⟨e15, env⟩⟩⟩⟩⟩⟩⟩⟩⟩⟩⟩⟩⟩⟩⟩⟩
    any_goals (simp at hlen; done)
    rcases j with _ | _ | _ | _ | _ | _ | _ | _ | _ | _ | _ | _ | _ | _ | _ | j
    · simp at he hj
      subst he hj
      have h1 : a.eval (.tmp 71) = .int .i64 D.ho := (hst (.tmp 71) (by simp)).trans (by kernel_rfl)
      have h2 : a.eval (.tmp 74) = .int .i64 ((D.HS.length : Int) - 1) := (hst (.tmp 74) (by simp)).trans (by kernel_rfl)
      have h1' : a.tmps[71]?.getD undef = .int .i64 D.ho := by simpa [Act.eval] using h1
      have h2' : a.tmps[74]?.getD undef = .int .i64 ((D.HS.length : Int) - 1) := by simpa [Act.eval] using h2
      refine wpOp_call (f := 10) (vals := #[.int .i64 D.ho, .int .i64 0, .int .i64 ((D.HS.length : Int) - 1)]) (v := .int .i64 (m0 : Int)) rfl rfl rfl (by simp [execOp, resolve, invoke, h1', h2', go_sem]) ?_ (hK _ wa ?_)
      · refine Calls.mono (within_any D.ho 0 ((D.HS.length : Int) - 1) _ (by omega) (by omega) (by omega) (by omega) (by omega)) ?_
        rintro e w' ⟨rfl, rfl⟩
        exact ⟨by rw [HM0.out], rfl⟩
      · exact Led.pure_ (es := []) (fs := _) hl (fun v hv => by injection hv with hv; exact hv.symm)
    · simp at he hj
      subst he hj
      obtain ⟨v0, hv0⟩ := hdep 0 (by simp)
      simp at hv0
      subst hv0
      obtain rfl : v0 = .int .i64 (m0 : Int) := (show ∀ v, some v0 = some v → v = .int .i64 (m0 : Int) from hl.at_ 0 rfl) v0 rfl
      have h1 : a.eval (.tmp 69) = .slice (some ⟨gh, 0, none⟩) D.HS.length cH := (hst (.tmp 69) (by simp)).trans (by kernel_rfl)
      have h2 : a.eval (.tmp 75) = .int .i64 (m0 : Int) := hev 0 ⟨6, 75⟩ _ rfl rfl
      have h1' : a.tmps[69]?.getD undef = .slice (some ⟨gh, 0, none⟩) D.HS.length cH := by simpa [Act.eval] using h1
      have h2' : a.tmps[75]?.getD undef = .int .i64 (m0 : Int) := by simpa [Act.eval] using h2
      have hlt : m0 < D.HS.length := by omega
      refine wpOp_load (v := .pointer (some ⟨gh, m0 * 2, none⟩)) rfl rfl rfl (by simp [execOp, h1', h2', go_sem, hlt]) (hK _ wa ?_)
      exact Led.pure_ (es := [_]) (fs := _) hl (fun v hv => by injection hv with hv; exact hv.symm)
    · simp at he hj
      subst he hj
      obtain ⟨v1, hv1⟩ := hdep 1 (by simp)
      simp at hv1
      subst hv1
      obtain rfl : v1 = .pointer (some ⟨gh, m0 * 2, none⟩) := (show ∀ v, some v1 = some v → v = .pointer (some ⟨gh, m0 * 2, none⟩) from hl.at_ 1 rfl) v1 rfl
      have h1 : a.eval (.tmp 76) = .pointer (some ⟨gh, m0 * 2, none⟩) := hev 1 ⟨7, 76⟩ _ rfl rfl
      have h1' : a.tmps[76]?.getD undef = .pointer (some ⟨gh, m0 * 2, none⟩) := by simpa [Act.eval] using h1
      obtain ⟨c1, c2⟩ := HT0.out wa _ hl
      refine wpOp_load (v := .agg #[.int .i64 p0.1, .int .i64 p0.2]) rfl rfl rfl (by simp [execOp, h1', go_sem, c1, c2]) (hK _ wa ?_)
      exact Led.pure_ (es := [_, _]) (fs := _) hl (fun v hv => by injection hv with hv; exact hv.symm)
    · simp at he hj
      subst he hj
      have h1 : a.eval (.tmp 80) = .int .i64 D.oo := (hst (.tmp 80) (by simp)).trans (by kernel_rfl)
      have h2 : a.eval (.tmp 83) = .int .i64 ((D.HS.length : Int) - 1) := (hst (.tmp 83) (by simp)).trans (by kernel_rfl)
      have h1' : a.tmps[80]?.getD undef = .int .i64 D.oo := by simpa [Act.eval] using h1
      have h2' : a.tmps[83]?.getD undef = .int .i64 ((D.HS.length : Int) - 1) := by simpa [Act.eval] using h2
      refine wpOp_call (f := 10) (vals := #[.int .i64 D.oo, .int .i64 0, .int .i64 ((D.HS.length : Int) - 1)]) (v := .int .i64 (m1 : Int)) rfl rfl rfl (by simp [execOp, resolve, invoke, h1', h2', go_sem]) ?_ (hK _ wa ?_)
      · refine Calls.mono (within_any D.oo 0 ((D.HS.length : Int) - 1) _ (by omega) (by omega) (by omega) (by omega) (by omega)) ?_
        rintro e w' ⟨rfl, rfl⟩
        exact ⟨by rw [HM1.out], rfl⟩
      · exact Led.pure_ (es := [_, _, _]) (fs := _) hl (fun v hv => by injection hv with hv; exact hv.symm)
    · simp at he hj
      subst he hj
      obtain ⟨v0, hv0⟩ := hdep 3 (by simp)
      simp at hv0
      subst hv0
      obtain rfl : v0 = .int .i64 (m1 : Int) := (show ∀ v, some v0 = some v → v = .int .i64 (m1 : Int) from hl.at_ 3 rfl) v0 rfl
      have h1 : a.eval (.tmp 78) = .slice (some ⟨gh, 0, none⟩) D.HS.length cH := (hst (.tmp 78) (by simp)).trans (by kernel_rfl)
      have h2 : a.eval (.tmp 84) = .int .i64 (m1 : Int) := hev 3 ⟨15, 84⟩ _ rfl rfl
      have h1' : a.tmps[78]?.getD undef = .slice (some ⟨gh, 0, none⟩) D.HS.length cH := by simpa [Act.eval] using h1
      have h2' : a.tmps[84]?.getD undef = .int .i64 (m1 : Int) := by simpa [Act.eval] using h2
      have hlt : m1 < D.HS.length := by omega
      refine wpOp_load (v := .pointer (some ⟨gh, m1 * 2, none⟩)) rfl rfl rfl (by simp [execOp, h1', h2', go_sem, hlt]) (hK _ wa ?_)
      exact Led.pure_ (es := [_, _, _, _]) (fs := _) hl (fun v hv => by injection hv with hv; exact hv.symm)
    · simp at he hj
      subst he hj
      obtain ⟨v1, hv1⟩ := hdep 4 (by simp)
      simp at hv1
      subst hv1
      obtain rfl : v1 = .pointer (some ⟨gh, m1 * 2, none⟩) := (show ∀ v, some v1 = some v → v = .pointer (some ⟨gh, m1 * 2, none⟩) from hl.at_ 4 rfl) v1 rfl
      have h1 : a.eval (.tmp 85) = .pointer (some ⟨gh, m1 * 2, none⟩) := hev 4 ⟨16, 85⟩ _ rfl rfl
      have h1' : a.tmps[85]?.getD undef = .pointer (some ⟨gh, m1 * 2, none⟩) := by simpa [Act.eval] using h1
      obtain ⟨c1, c2⟩ := HT1.out wa _ hl
      refine wpOp_load (v := .agg #[.int .i64 p1.1, .int .i64 p1.2]) rfl rfl rfl (by simp [execOp, h1', go_sem, c1, c2]) (hK _ wa ?_)
      exact Led.pure_ (es := [_, _, _, _, _]) (fs := _) hl (fun v hv => by injection hv with hv; exact hv.symm)
    · simp at he hj
      subst he hj
      have h1 : a.eval (.tmp 89) = .int .i64 D.io := (hst (.tmp 89) (by simp)).trans (by kernel_rfl)
      have h2 : a.eval (.tmp 92) = .int .i64 ((D.IS.length : Int) - 1) := (hst (.tmp 92) (by simp)).trans (by kernel_rfl)
      have h1' : a.tmps[89]?.getD undef = .int .i64 D.io := by simpa [Act.eval] using h1
      have h2' : a.tmps[92]?.getD undef = .int .i64 ((D.IS.length : Int) - 1) := by simpa [Act.eval] using h2
      refine wpOp_call (f := 10) (vals := #[.int .i64 D.io, .int .i64 0, .int .i64 ((D.IS.length : Int) - 1)]) (v := .int .i64 (m2 : Int)) rfl rfl rfl (by simp [execOp, resolve, invoke, h1', h2', go_sem]) ?_ (hK _ wa ?_)
      · refine Calls.mono (within_any D.io 0 ((D.IS.length : Int) - 1) _ (by omega) (by omega) (by omega) (by omega) (by omega)) ?_
        rintro e w' ⟨rfl, rfl⟩
        exact ⟨by rw [HM2.out], rfl⟩
      · exact Led.pure_ (es := [_, _, _, _, _, _]) (fs := _) hl (fun v hv => by injection hv with hv; exact hv.symm)
    · simp at he hj
      subst he hj
      obtain ⟨v0, hv0⟩ := hdep 6 (by simp)
      simp at hv0
      subst hv0
      obtain rfl : v0 = .int .i64 (m2 : Int) := (show ∀ v, some v0 = some v → v = .int .i64 (m2 : Int) from hl.at_ 6 rfl) v0 rfl
      have h1 : a.eval (.tmp 87) = .slice (some ⟨gi, 0, none⟩) D.IS.length cI := (hst (.tmp 87) (by simp)).trans (by kernel_rfl)
      have h2 : a.eval (.tmp 93) = .int .i64 (m2 : Int) := hev 6 ⟨24, 93⟩ _ rfl rfl
      have h1' : a.tmps[87]?.getD undef = .slice (some ⟨gi, 0, none⟩) D.IS.length cI := by simpa [Act.eval] using h1
      have h2' : a.tmps[93]?.getD undef = .int .i64 (m2 : Int) := by simpa [Act.eval] using h2
      have hlt : m2 < D.IS.length := by omega
      refine wpOp_load (v := .pointer (some ⟨gi, m2 * 2, none⟩)) rfl rfl rfl (by simp [execOp, h1', h2', go_sem, hlt]) (hK _ wa ?_)
      exact Led.pure_ (es := [_, _, _, _, _, _, _]) (fs := _) hl (fun v hv => by injection hv with hv; exact hv.symm)
    · simp at he hj
      subst he hj
      obtain ⟨v1, hv1⟩ := hdep 7 (by simp)
      simp at hv1
      subst hv1
      obtain rfl : v1 = .pointer (some ⟨gi, m2 * 2, none⟩) := (show ∀ v, some v1 = some v → v = .pointer (some ⟨gi, m2 * 2, none⟩) from hl.at_ 7 rfl) v1 rfl
      have h1 : a.eval (.tmp 94) = .pointer (some ⟨gi, m2 * 2, none⟩) := hev 7 ⟨25, 94⟩ _ rfl rfl
      have h1' : a.tmps[94]?.getD undef = .pointer (some ⟨gi, m2 * 2, none⟩) := by simpa [Act.eval] using h1
      obtain ⟨c1, c2⟩ := HT2.out wa _ hl
      refine wpOp_load (v := .agg #[.int .i64 p2.1, .int .i64 p2.2]) rfl rfl rfl (by simp [execOp, h1', go_sem, c1, c2]) (hK _ wa ?_)
      exact Led.pure_ (es := [_, _, _, _, _, _, _, _]) (fs := _) hl (fun v hv => by injection hv with hv; exact hv.symm)
    · simp at he hj
      subst he hj
      have hn : e12 = none := by
        cases e12 with
        | none => rfl
        | some v => obtain ⟨u, hu⟩ := hcl 12 9 (by simp) ⟨v, rfl⟩; simp at hu
      obtain rfl := hn
      have hl2 : Led Z.w0.heap.size Z.w0 wa (([pureE (∀ v, e0 = some v → v = .int .i64 (m0 : Int)), pureE (∀ v, e1 = some v → v = .pointer (some ⟨gh, m0 * 2, none⟩)), pureE (∀ v, e2 = some v → v = .agg #[.int .i64 p0.1, .int .i64 p0.2]), pureE (∀ v, e3 = some v → v = .int .i64 (m1 : Int)), pureE (∀ v, e4 = some v → v = .pointer (some ⟨gh, m1 * 2, none⟩)), pureE (∀ v, e5 = some v → v = .agg #[.int .i64 p1.1, .int .i64 p1.2]), pureE (∀ v, e6 = some v → v = .int .i64 (m2 : Int)), pureE (∀ v, e7 = some v → v = .pointer (some ⟨gi, m2 * 2, none⟩)), pureE (∀ v, e8 = some v → v = .agg #[.int .i64 p2.1, .int .i64 p2.2])]) ++ (alE p1.1 p1.2 e10 e13 ++ (alE p2.1 p2.2 e11 e14 ++ BB))) := by simpa only [ents10, alE_none, alE_new, alE_set, List.getD_cons_zero, List.getD_cons_succ, List.cons_append, List.nil_append, List.append_assoc, List.set_cons_zero, List.set_cons_succ] using hl
      refine wpOp_alloc (T := 27) (cs := #[.int .i64 0, .int .i64 0]) rfl rfl rfl (by simp [execOp, go_sem]) hl2 (fun g' w' hw' => hK _ _ ?_)
      simpa only [ents10, alE_none, alE_new, alE_set, List.getD_cons_zero, List.getD_cons_succ, List.cons_append, List.nil_append, List.append_assoc, List.set_cons_zero, List.set_cons_succ] using hw'
    · simp at he hj
      subst he hj
      have hn : e13 = none := by
        cases e13 with
        | none => rfl
        | some v => obtain ⟨u0, hu0⟩ := hcl 13 12 (by simp) ⟨v, rfl⟩; obtain ⟨u, hu⟩ := hcl 12 10 (by simp) ⟨u0, hu0⟩; simp at hu
      obtain rfl := hn
      have hl2 : Led Z.w0.heap.size Z.w0 wa (([pureE (∀ v, e0 = some v → v = .int .i64 (m0 : Int)), pureE (∀ v, e1 = some v → v = .pointer (some ⟨gh, m0 * 2, none⟩)), pureE (∀ v, e2 = some v → v = .agg #[.int .i64 p0.1, .int .i64 p0.2]), pureE (∀ v, e3 = some v → v = .int .i64 (m1 : Int)), pureE (∀ v, e4 = some v → v = .pointer (some ⟨gh, m1 * 2, none⟩)), pureE (∀ v, e5 = some v → v = .agg #[.int .i64 p1.1, .int .i64 p1.2]), pureE (∀ v, e6 = some v → v = .int .i64 (m2 : Int)), pureE (∀ v, e7 = some v → v = .pointer (some ⟨gi, m2 * 2, none⟩)), pureE (∀ v, e8 = some v → v = .agg #[.int .i64 p2.1, .int .i64 p2.2])] ++ (alE p0.1 p0.2 e9 e12)) ++ (alE p2.1 p2.2 e11 e14 ++ BB)) := by simpa only [ents10, alE_none, alE_new, alE_set, List.getD_cons_zero, List.getD_cons_succ, List.cons_append, List.nil_append, List.append_assoc, List.set_cons_zero, List.set_cons_succ] using hl
      refine wpOp_alloc (T := 27) (cs := #[.int .i64 0, .int .i64 0]) rfl rfl rfl (by simp [execOp, go_sem]) hl2 (fun g' w' hw' => hK _ _ ?_)
      simpa only [ents10, alE_none, alE_new, alE_set, List.getD_cons_zero, List.getD_cons_succ, List.cons_append, List.nil_append, List.append_assoc, List.set_cons_zero, List.set_cons_succ] using hw'
    · simp at he hj
      subst he hj
      have hn : e14 = none := by
        cases e14 with
        | none => rfl
        | some v => obtain ⟨u1, hu1⟩ := hcl 14 13 (by simp) ⟨v, rfl⟩; obtain ⟨u0, hu0⟩ := hcl 13 12 (by simp) ⟨u1, hu1⟩; obtain ⟨u, hu⟩ := hcl 12 11 (by simp) ⟨u0, hu0⟩; simp at hu
      obtain rfl := hn
      have hl2 : Led Z.w0.heap.size Z.w0 wa (([pureE (∀ v, e0 = some v → v = .int .i64 (m0 : Int)), pureE (∀ v, e1 = some v → v = .pointer (some ⟨gh, m0 * 2, none⟩)), pureE (∀ v, e2 = some v → v = .agg #[.int .i64 p0.1, .int .i64 p0.2]), pureE (∀ v, e3 = some v → v = .int .i64 (m1 : Int)), pureE (∀ v, e4 = some v → v = .pointer (some ⟨gh, m1 * 2, none⟩)), pureE (∀ v, e5 = some v → v = .agg #[.int .i64 p1.1, .int .i64 p1.2]), pureE (∀ v, e6 = some v → v = .int .i64 (m2 : Int)), pureE (∀ v, e7 = some v → v = .pointer (some ⟨gi, m2 * 2, none⟩)), pureE (∀ v, e8 = some v → v = .agg #[.int .i64 p2.1, .int .i64 p2.2])] ++ (alE p0.1 p0.2 e9 e12) ++ (alE p1.1 p1.2 e10 e13)) ++ BB) := by simpa only [ents10, alE_none, alE_new, alE_set, List.getD_cons_zero, List.getD_cons_succ, List.cons_append, List.nil_append, List.append_assoc, List.set_cons_zero, List.set_cons_succ] using hl
      refine wpOp_alloc (T := 27) (cs := #[.int .i64 0, .int .i64 0]) rfl rfl rfl (by simp [execOp, go_sem]) hl2 (fun g' w' hw' => hK _ _ ?_)
      simpa only [ents10, alE_none, alE_new, alE_set, List.getD_cons_zero, List.getD_cons_succ, List.cons_append, List.nil_append, List.append_assoc, List.set_cons_zero, List.set_cons_succ] using hw'
    · simp at he hj
      subst he hj
      obtain ⟨vl, hvl⟩ := hdep 2 (by simp)
      simp at hvl
      subst hvl
      obtain rfl : vl = .agg #[.int .i64 p0.1, .int .i64 p0.2] := (show ∀ v, some vl = some v → v = .agg #[.int .i64 p0.1, .int .i64 p0.2] from hl.at_ 2 rfl) vl rfl
      obtain ⟨vb, hvb⟩ := hdep 9 (by simp)
      simp at hvb
      subst hvb
      rcases alE_form p0.1 p0.2 none vb with ⟨gg, rfl⟩ | hbad
      · have h1 : a.eval (.tmp 11) = .pointer (some ⟨gg, 0, none⟩) := hev 9 ⟨27, 11⟩ _ rfl rfl
        have h2 : a.eval (.tmp 77) = .agg #[.int .i64 p0.1, .int .i64 p0.2] := hev 2 ⟨8, 77⟩ _ rfl rfl
        have h1' : a.tmps[11]?.getD undef = .pointer (some ⟨gg, 0, none⟩) := by simpa [Act.eval] using h1
        have h2' : a.tmps[77]?.getD undef = .agg #[.int .i64 p0.1, .int .i64 p0.2] := by simpa [Act.eval] using h2
        have hl2 : Led Z.w0.heap.size Z.w0 wa (([pureE (∀ v, e0 = some v → v = .int .i64 (m0 : Int)), pureE (∀ v, e1 = some v → v = .pointer (some ⟨gh, m0 * 2, none⟩)), pureE (∀ v, some (Value.agg #[.int .i64 p0.1, .int .i64 p0.2]) = some v → v = .agg #[.int .i64 p0.1, .int .i64 p0.2]), pureE (∀ v, e3 = some v → v = .int .i64 (m1 : Int)), pureE (∀ v, e4 = some v → v = .pointer (some ⟨gh, m1 * 2, none⟩)), pureE (∀ v, e5 = some v → v = .agg #[.int .i64 p1.1, .int .i64 p1.2]), pureE (∀ v, e6 = some v → v = .int .i64 (m2 : Int)), pureE (∀ v, e7 = some v → v = .pointer (some ⟨gi, m2 * 2, none⟩)), pureE (∀ v, e8 = some v → v = .agg #[.int .i64 p2.1, .int .i64 p2.2])]) ++ blkE gg 27 #[.int .i64 0, .int .i64 0] :: (alE p1.1 p1.2 e10 e13 ++ (alE p2.1 p2.2 e11 e14 ++ BB))) := by simpa only [ents10, alE_none, alE_new, alE_set, List.getD_cons_zero, List.getD_cons_succ, List.cons_append, List.nil_append, List.append_assoc, List.set_cons_zero, List.set_cons_succ] using hl
        have hb : Blk wa gg 27 #[.int .i64 0, .int .i64 0] := hl2.mem
        have d0 := hb.cell 0
        have d1 := hb.cell 1
        have f0 := hb.frozen 0
        have f1 := hb.frozen 1
        simp only [List.getElem?_toArray, List.getElem?_cons_zero, List.getElem?_cons_succ] at d0 d1
        have hl3 := led_store2 (y0 := .int .i64 p0.1) (y1 := .int .i64 p0.2) hl2
        refine wpOp_store rfl rfl rfl (by simp [execOp, h1', h2', go_sem, d0, d1, f0, f1]; rfl) ?_
        have hk := hK (a.eval (.tmp 494)) _ (by simpa only [ents10, alE_none, alE_new, alE_set, List.getD_cons_zero, List.getD_cons_succ, List.cons_append, List.nil_append, List.append_assoc, List.set_cons_zero, List.set_cons_succ] using hl3)
        rwa [put_same] at hk
      · have hf : (pureE False).is wa := hl.all _ (by
          simp only [ents10, List.getD_cons_zero, List.getD_cons_succ, hbad]
          simp)
        exact hf.elim
    · simp at he hj
      subst he hj
      obtain ⟨vl, hvl⟩ := hdep 5 (by simp)
      simp at hvl
      subst hvl
      obtain rfl : vl = .agg #[.int .i64 p1.1, .int .i64 p1.2] := (show ∀ v, some vl = some v → v = .agg #[.int .i64 p1.1, .int .i64 p1.2] from hl.at_ 5 rfl) vl rfl
      obtain ⟨x0, hx0⟩ := hdep 12 (by simp)
      obtain ⟨vb, hvb⟩ := hcl 12 10 (by simp) ⟨x0, hx0⟩
      simp at hvb
      subst hvb
      rcases alE_form p1.1 p1.2 none vb with ⟨gg, rfl⟩ | hbad
      · have h1 : a.eval (.tmp 12) = .pointer (some ⟨gg, 0, none⟩) := hev 10 ⟨28, 12⟩ _ rfl rfl
        have h2 : a.eval (.tmp 86) = .agg #[.int .i64 p1.1, .int .i64 p1.2] := hev 5 ⟨17, 86⟩ _ rfl rfl
        have h1' : a.tmps[12]?.getD undef = .pointer (some ⟨gg, 0, none⟩) := by simpa [Act.eval] using h1
        have h2' : a.tmps[86]?.getD undef = .agg #[.int .i64 p1.1, .int .i64 p1.2] := by simpa [Act.eval] using h2
        have hl2 : Led Z.w0.heap.size Z.w0 wa (([pureE (∀ v, e0 = some v → v = .int .i64 (m0 : Int)), pureE (∀ v, e1 = some v → v = .pointer (some ⟨gh, m0 * 2, none⟩)), pureE (∀ v, e2 = some v → v = .agg #[.int .i64 p0.1, .int .i64 p0.2]), pureE (∀ v, e3 = some v → v = .int .i64 (m1 : Int)), pureE (∀ v, e4 = some v → v = .pointer (some ⟨gh, m1 * 2, none⟩)), pureE (∀ v, some (Value.agg #[.int .i64 p1.1, .int .i64 p1.2]) = some v → v = .agg #[.int .i64 p1.1, .int .i64 p1.2]), pureE (∀ v, e6 = some v → v = .int .i64 (m2 : Int)), pureE (∀ v, e7 = some v → v = .pointer (some ⟨gi, m2 * 2, none⟩)), pureE (∀ v, e8 = some v → v = .agg #[.int .i64 p2.1, .int .i64 p2.2])] ++ (alE p0.1 p0.2 e9 e12)) ++ blkE gg 27 #[.int .i64 0, .int .i64 0] :: (alE p2.1 p2.2 e11 e14 ++ BB)) := by simpa only [ents10, alE_none, alE_new, alE_set, List.getD_cons_zero, List.getD_cons_succ, List.cons_append, List.nil_append, List.append_assoc, List.set_cons_zero, List.set_cons_succ] using hl
        have hb : Blk wa gg 27 #[.int .i64 0, .int .i64 0] := hl2.mem
        have d0 := hb.cell 0
        have d1 := hb.cell 1
        have f0 := hb.frozen 0
        have f1 := hb.frozen 1
        simp only [List.getElem?_toArray, List.getElem?_cons_zero, List.getElem?_cons_succ] at d0 d1
        have hl3 := led_store2 (y0 := .int .i64 p1.1) (y1 := .int .i64 p1.2) hl2
        refine wpOp_store rfl rfl rfl (by simp [execOp, h1', h2', go_sem, d0, d1, f0, f1]; rfl) ?_
        have hk := hK (a.eval (.tmp 495)) _ (by simpa only [ents10, alE_none, alE_new, alE_set, List.getD_cons_zero, List.getD_cons_succ, List.cons_append, List.nil_append, List.append_assoc, List.set_cons_zero, List.set_cons_succ] using hl3)
        rwa [put_same] at hk
      · have hf : (pureE False).is wa := hl.all _ (by
          simp only [ents10, List.getD_cons_zero, List.getD_cons_succ, hbad]
          simp)
        exact hf.elim
    · simp at he hj
      subst he hj
      obtain ⟨vl, hvl⟩ := hdep 8 (by simp)
      simp at hvl
      subst hvl
      obtain rfl : vl = .agg #[.int .i64 p2.1, .int .i64 p2.2] := (show ∀ v, some vl = some v → v = .agg #[.int .i64 p2.1, .int .i64 p2.2] from hl.at_ 8 rfl) vl rfl
      obtain ⟨x0, hx0⟩ := hdep 13 (by simp)
      obtain ⟨x1, hx1⟩ := hcl 13 12 (by simp) ⟨x0, hx0⟩
      obtain ⟨vb, hvb⟩ := hcl 12 11 (by simp) ⟨x1, hx1⟩
      simp at hvb
      subst hvb
      rcases alE_form p2.1 p2.2 none vb with ⟨gg, rfl⟩ | hbad
      · have h1 : a.eval (.tmp 13) = .pointer (some ⟨gg, 0, none⟩) := hev 11 ⟨29, 13⟩ _ rfl rfl
        have h2 : a.eval (.tmp 95) = .agg #[.int .i64 p2.1, .int .i64 p2.2] := hev 8 ⟨26, 95⟩ _ rfl rfl
        have h1' : a.tmps[13]?.getD undef = .pointer (some ⟨gg, 0, none⟩) := by simpa [Act.eval] using h1
        have h2' : a.tmps[95]?.getD undef = .agg #[.int .i64 p2.1, .int .i64 p2.2] := by simpa [Act.eval] using h2
        have hl2 : Led Z.w0.heap.size Z.w0 wa (([pureE (∀ v, e0 = some v → v = .int .i64 (m0 : Int)), pureE (∀ v, e1 = some v → v = .pointer (some ⟨gh, m0 * 2, none⟩)), pureE (∀ v, e2 = some v → v = .agg #[.int .i64 p0.1, .int .i64 p0.2]), pureE (∀ v, e3 = some v → v = .int .i64 (m1 : Int)), pureE (∀ v, e4 = some v → v = .pointer (some ⟨gh, m1 * 2, none⟩)), pureE (∀ v, e5 = some v → v = .agg #[.int .i64 p1.1, .int .i64 p1.2]), pureE (∀ v, e6 = some v → v = .int .i64 (m2 : Int)), pureE (∀ v, e7 = some v → v = .pointer (some ⟨gi, m2 * 2, none⟩)), pureE (∀ v, some (Value.agg #[.int .i64 p2.1, .int .i64 p2.2]) = some v → v = .agg #[.int .i64 p2.1, .int .i64 p2.2])] ++ (alE p0.1 p0.2 e9 e12) ++ (alE p1.1 p1.2 e10 e13)) ++ blkE gg 27 #[.int .i64 0, .int .i64 0] :: BB) := by simpa only [ents10, alE_none, alE_new, alE_set, List.getD_cons_zero, List.getD_cons_succ, List.cons_append, List.nil_append, List.append_assoc, List.set_cons_zero, List.set_cons_succ] using hl
        have hb : Blk wa gg 27 #[.int .i64 0, .int .i64 0] := hl2.mem
        have d0 := hb.cell 0
        have d1 := hb.cell 1
        have f0 := hb.frozen 0
        have f1 := hb.frozen 1
        simp only [List.getElem?_toArray, List.getElem?_cons_zero, List.getElem?_cons_succ] at d0 d1
        have hl3 := led_store2 (y0 := .int .i64 p2.1) (y1 := .int .i64 p2.2) hl2
        refine wpOp_store rfl rfl rfl (by simp [execOp, h1', h2', go_sem, d0, d1, f0, f1]; rfl) ?_
        have hk := hK (a.eval (.tmp 496)) _ (by simpa only [ents10, alE_none, alE_new, alE_set, List.getD_cons_zero, List.getD_cons_succ, List.cons_append, List.nil_append, List.append_assoc, List.set_cons_zero, List.set_cons_succ] using hl3)
        rwa [put_same] at hk
      · have hf : (pureE False).is wa := hl.all _ (by
          simp only [ents10, List.getD_cons_zero, List.getD_cons_succ, hbad]
          simp)
        exact hf.elim
    · simp at he
  case hfin =>
    intro zs wz hz1 hz2 hl
    obtain ⟨u0, u1, u2, u3, u4, u5, u6, u7, u8, u9, u10, u11, u12, u13, u14, rfl⟩ := finE15 hz1 hz2
    clear hz1 hz2
    rcases alE_form p0.1 p0.2 (some u12) u9 with ⟨hb, rfl⟩ | hbad
    rotate_left
    · have hf : (pureE False).is wz := hl.all _ (by
        simp only [ents10, List.map_cons, List.getD_cons_zero, List.getD_cons_succ, hbad]
        simp)
      exact hf.elim
    rcases alE_form p1.1 p1.2 (some u13) u10 with ⟨ob, rfl⟩ | hbad
    rotate_left
    · have hf : (pureE False).is wz := hl.all _ (by
        simp only [ents10, List.map_cons, List.getD_cons_zero, List.getD_cons_succ, hbad]
        simp)
      exact hf.elim
    rcases alE_form p2.1 p2.2 (some u14) u11 with ⟨cb, rfl⟩ | hbad
    rotate_left
    · have hf : (pureE False).is wz := hl.all _ (by
        simp only [ents10, List.map_cons, List.getD_cons_zero, List.getD_cons_succ, hbad]
        simp)
      exact hf.elim
    have h1 : Led Z.w0.heap.size Z.w0 wz (blkE hb 27 #[.int .i64 p0.1, .int .i64 p0.2] :: blkE ob 27 #[.int .i64 p1.1, .int .i64 p1.2] :: blkE cb 27 #[.int .i64 p2.1, .int .i64 p2.2] :: BB) := hl.sub (.cons _ (.cons _ (.cons _ (.cons _ (.cons _ (.cons _ (.cons _ (.cons _ (.cons _ (List.Sublist.refl _))))))))))
    rw [← hBB] at h1
    have h2 : Led Z.w0.heap.size Z.w0 wz (X.mem ++ ({ D with hb := hb, ob := ob, cb := cb, h0 := p0.1, h1 := p0.2, o0 := p1.1, o1 := p1.2, c0 := p2.1, c1 := p2.2 } : HD).es) := by
      refine h1.perm ?_
      have hp : ([blkE hb 27 #[.int .i64 p0.1, .int .i64 p0.2], blkE ob 27 #[.int .i64 p1.1, .int .i64 p1.2], blkE cb 27 #[.int .i64 p2.1, .int .i64 p2.2]] ++ (X.mem ++ (D.tabs ++ [D.ask]))).Perm ((X.mem ++ (D.tabs ++ [D.ask])) ++ [blkE hb 27 #[.int .i64 p0.1, .int .i64 p0.2], blkE ob 27 #[.int .i64 p1.1, .int .i64 p1.2], blkE cb 27 #[.int .i64 p2.1, .int .i64 p2.2]]) := List.perm_append_comm
      simpa only [HD.es, HD.tabs, HD.ask, List.append_assoc, List.cons_append, List.nil_append] using hp
    have H2 := Lib.hid h2
    clear h1 h2 hl HB
    simp only [foldE, List.foldl_cons, List.foldl_nil, putE, Act.put, List.setIfInBounds_toArray, List.set_cons_zero, List.set_cons_succ]
    refine wpAnyH_done (by as_aux_lemma => kernel_rfl) ?_ _
    exact HQ.out _ _ _ _ _ _ _ _ _ _ _ rfl rfl ⟨rfl, rfl, rfl, rfl, rfl, rfl, rfl⟩ rfl rfl rfl H2.out
end Go.Proofs.Ytognmhgdegpdiaa
