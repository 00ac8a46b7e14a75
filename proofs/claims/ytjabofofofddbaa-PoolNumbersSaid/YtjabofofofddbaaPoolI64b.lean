/- The pool of int64: give, take, all: what each method does to the places that it holds. -/
import Derived.Test.YtjabofofofddbaaPoolI64
namespace Go.Proofs.Ytjabofofofddbaa
open Go.RowKit
set_option maxRecDepth 100000
theorem pool_give_bad_i64 (p : Nat) (lv fv : Value) (s : PSt Int) (a b : Int) (e0 : Int) (w : World) (h : PoolIs w 132 143 3 3 (fun (v : Int) => [Value.int .i64 v]) p lv fv s) (hl : s.look a b = e0) (he : e0 ≠ 0) :
    Calls Try.prog 62 #[.pointer (some ⟨p, 0, none⟩), .agg #[.int .i64 a, .int .i64 b]] w fun e w' => e = .returned (.tuple #[Value.int .i64 0, .int .i64 e0]) ∧ Below w.heap.size w w' := by
  have HH := Lib.hid (h.alloc (.cells #[.int .i64 a, .int .i64 b] 57)); clear h
  have HL := Lib.hid hl; clear hl
  have hb : (e0 != 0) = true := by simpa using he
  have HE := Lib.hid he; clear he
  refine callsR fun R hR => ?_
  go_enter Try.func62, Try.ntmps62
  go_wp2_with fail
  refine Calls.mono (find_bad_i64 p lv fv s a b e0 _ HH.out HL.out HE.out) ?_
  rintro e w2 ⟨rfl, hb2⟩
  have B2 := Lib.hid hb2; clear hb2
  go_wp2_with fail
  exact hR.out _ _ ⟨rfl, ((Below.refl _ _).alloc (Nat.le_refl _) _).trans (B2.out.mono (by simp))⟩

theorem pool_give_ok_i64 (p : Nat) (lv fv : Value) (s : PSt Int) (i : Nat) (x : Pl Int) (w : World) (h : PoolIs w 132 143 3 3 (fun (v : Int) => [Value.int .i64 v]) p lv fv s)
    (hx : s.l[i]? = some x) (ht : x.taken = true) (hg1 : 1 ≤ x.gen) :
    Calls Try.prog 62 #[.pointer (some ⟨p, 0, none⟩), .agg #[.int .i64 i, .int .i64 x.gen]] w fun e w' => e = .returned (.tuple #[(let v := x.v; Value.int .i64 v), .int .i64 0]) ∧ ∃ fv', PoolIs w' 132 143 3 3 (fun (v : Int) => [Value.int .i64 v]) p lv fv' (s.giveAt i x (0)) ∧ Chg (poolFp p lv fv) w w' ∧ Fresh (poolFp p lv fv) (poolFp p lv fv') w := by
  have hp := h.blk.lt
  obtain ⟨A, c, rfl, hc, hA⟩ := h.lform
  obtain ⟨A2, c2, rfl, hc2, _⟩ := h.fform
  have hi : i < s.l.length := (List.getElem?_eq_some_iff.1 hx).1
  obtain ⟨g, rfl, hg⟩ := hA (by omega)
  have hm := h.wf.le
  have hm2 := h.wf.most
  have hm3 := h.wf.free_le
  have hwf := h.wf.giveAt (0) hx ht
  have hL : (s.l.map (Pl.cells (fun (v : Int) => [Value.int .i64 v])))[i]? = some (Pl.cells (fun (v : Int) => [Value.int .i64 v]) x) := by rw [List.getElem?_map, hx]; rfl
  have P0 := PP.start h (by decide) (by decide) (by decide)
  have HH := Lib.hid (h.alloc (.cells #[.int .i64 i, .int .i64 x.gen] 57)); clear h
  have HX := Lib.hid hx; clear hx
  have HT := Lib.hid ht; clear ht
  have HW := Lib.hid hwf; clear hwf
  have hll : (s.l.map (Pl.cells (fun (v : Int) => [Value.int .i64 v]))).length = s.l.length := List.length_map _
  have hfl : (s.free.map fun (i : Nat) => [Value.int .i64 (i : Int)]).length = s.free.length := List.length_map _
  obtain ⟨xg, xt, xv⟩ := x
  simp only at hL hg1 ⊢
  refine callsR fun R hR => ?_
  go_enter Try.func62, Try.ntmps62
  go_wp2_with fail
  refine Calls.mono (find_ok_i64 p g _ c _ s i ⟨xg, xt, xv⟩ _ HH.out HX.out HT.out hg1) ?_
  rintro e w2 ⟨rfl, hb2⟩
  have P2 := (P0.alloc (.cells #[.int .i64 i, .int .i64 xg] 57)).later hb2
  have r0 : w2.cell? ⟨w.heap.size, 0, none⟩ = some (.int .i64 i) := (hb2.cell (p := ⟨w.heap.size, 0, none⟩) (by simp)).trans ((Blk.new w 57 #[.int .i64 i, .int .i64 xg]).cell 0)
  have g1 : w2.cell? ⟨g, i * 3 + 1, none⟩ = some (.bool xt) := P2.tab.cell (j := 1) hL rfl
  have g2 : w2.cell? ⟨g, i * 3 + 2, none⟩ = some (Value.int .i64 xv) := P2.tab.cell (j := 2) hL rfl
  have f1 : w2.frozen? ⟨g, i * 3 + 1, none⟩ = false := P2.tab.frozen _
  have f2 : w2.frozen? ⟨g, i * 3 + 2, none⟩ = false := P2.tab.frozen _
  have hp2 := P2.blk.lt
  have d2 := P2.blk.cell 2
  simp only [List.getElem?_toArray, List.getElem?_cons_zero, List.getElem?_cons_succ] at d2
  have hgp : g ≠ p := fun e => P2.tab.ne_blk P2.blk P2.t1.symm (by simp [Value.ownBlock, e])
  have hgp2 : p ≠ g := fun e => hgp e.symm
  have hi1 : ((s.l.map (Pl.cells (fun (v : Int) => [Value.int .i64 v]))).set i ((Pl.cells (fun (v : Int) => [Value.int .i64 v]) ⟨xg, xt, xv⟩).set 1 (.bool false)))[i]? = some ((Pl.cells (fun (v : Int) => [Value.int .i64 v]) ⟨xg, xt, xv⟩).set 1 (.bool false)) := by rw [List.getElem?_set_self (by rw [hll]; exact hi)]
  have P4 := (P2.setTab (j := 1) (.bool false) hL (by decide)).setTab (j := 2) (Value.int .i64 0) hi1 (by decide)
  have hE : ((s.l.map (Pl.cells (fun (v : Int) => [Value.int .i64 v]))).set i ((Pl.cells (fun (v : Int) => [Value.int .i64 v]) ⟨xg, xt, xv⟩).set 1 (.bool false))).set i (((Pl.cells (fun (v : Int) => [Value.int .i64 v]) ⟨xg, xt, xv⟩).set 1 (.bool false)).set 2 (Value.int .i64 0)) = (s.giveAt i ⟨xg, xt, xv⟩ (0)).l.map (Pl.cells (fun (v : Int) => [Value.int .i64 v])) := by
    simp only [PSt.giveAt, List.map_set, List.set_set]
    rfl
  have hE2 : (s.free.map fun (i : Nat) => [Value.int .i64 (i : Int)]) ++ [#[Value.int .i64 (i : Int)].toList] = (s.giveAt i ⟨xg, xt, xv⟩ (0)).free.map fun (i : Nat) => [Value.int .i64 (i : Int)] := by
    simp only [PSt.giveAt, List.map_append]
    rfl
  rw [hE] at P4
  have PH := Lib.hid P4; clear P0 P2 P4 hb2 hE hi1 hL
  go_wp2_with fail
  go_region_law (refine step_push_drew (o := ⟨some 39, _, _, _, _, _⟩) (by rfl) (.tmp 35) (.tmp 38) 43 (by rfl) 0 3 _ 1 8 Try.underlying43 info_int_ (by rfl) (by decide) (.slice A2 s.free.length c2) _ #[.int .i64 i] (by rfl) (by exact PH.out.free) (by rw [World.size_setCell, World.size_setCell]; rfl) (by rfl) (by simp [Value.oneCell']) (by omega) (by decide) (Nat.zero_le _) ?_; intro v' w' q1 q2 q3; have q4 := (PH.out.drewN 1).pushF q1 q2 q3; have b5 := q4.blk.cell 2; have f5 := q4.blk.frozen 2; rw [hE2] at q4; have Q4 := Lib.hid q4.setF; obtain ⟨_, _, hv, _, _⟩ := q1.form; simp only [List.length_append, List.length_map, List.length_singleton] at hv; subst hv; clear q1 q2 q3 q4)
  all_goals
    go_wp2_with fail
    exact hR.out _ _ ⟨rfl, _, Q4.out.done HW.out⟩

theorem pool_take_full_i64 (p : Nat) (lv fv : Value) (s : PSt Int) (v : Int) (w : World) (h : PoolIs w 132 143 3 3 (fun (v : Int) => [Value.int .i64 v]) p lv fv s) (hf : s.free = []) (hfull : s.most ≤ s.l.length) :
    Calls Try.prog 61 #[.pointer (some ⟨p, 0, none⟩), Value.int .i64 v] w fun e w' => e = .returned (.tuple #[.agg #[.int .i64 0, .int .i64 0], .bool false]) ∧ Below w.heap.size w w' := by
  have hp := h.blk.lt
  obtain ⟨A, c, rfl, hc, hA⟩ := h.lform
  obtain ⟨A2, c2, rfl, hc2, _⟩ := h.fform
  rw [hf] at h
  have hm := h.wf.le
  have hm2 := h.wf.most
  have d0 := h.blk.cell 0
  have d1 := h.blk.cell 1
  have d2 := h.blk.cell 2
  simp only [List.getElem?_toArray, List.getElem?_cons_zero, List.getElem?_cons_succ, List.length_nil] at d0 d1 d2
  have hd : decide ((s.most : Int) ≤ s.l.length) = true := by simp; omega
  clear h hA
  refine callsR fun R hR => ?_
  go_enter Try.func61, Try.ntmps61
  go_wp2_with fail
  exact bodyPost_ret (v := .tuple #[.agg #[.int .i64 0, .int .i64 0], .bool false]) (by simp [results, Try.results61, go_sem]) rfl (hR.out _ _ ⟨rfl, (Below.refl _ _).alloc (Nat.le_refl _) _⟩)

theorem pool_take_fresh_i64 (p : Nat) (lv fv : Value) (s : PSt Int) (v : Int) (w : World) (h : PoolIs w 132 143 3 3 (fun (v : Int) => [Value.int .i64 v]) p lv fv s) (hf : s.free = []) (hfull : s.l.length < s.most) :
    Calls Try.prog 61 #[.pointer (some ⟨p, 0, none⟩), Value.int .i64 v] w fun e w' => e = .returned (.tuple #[.agg #[.int .i64 s.l.length, .int .i64 1], .bool true]) ∧ ∃ lv' fv', PoolIs w' 132 143 3 3 (fun (v : Int) => [Value.int .i64 v]) p lv' fv' (s.fresh v) ∧ Chg (poolFp p lv fv) w w' ∧ Fresh (poolFp p lv fv) (poolFp p lv' fv') w := by
  have hp := h.blk.lt
  have hwf := h.wf.fresh v hfull
  obtain ⟨A, c, rfl, hc, hA⟩ := h.lform
  obtain ⟨A2, c2, rfl, hc2, _⟩ := h.fform
  have hfl : s.free.length = 0 := by rw [hf]; rfl
  have hm2 := h.wf.most
  have P0 := PP.start h (by decide) (by decide) (by decide)
  have d0 := h.blk.cell 0
  have d1 := h.blk.cell 1
  have d2 := h.blk.cell 2
  simp only [List.getElem?_toArray, List.getElem?_cons_zero, List.getElem?_cons_succ] at d0 d1 d2
  rw [hfl] at d2
  have hd : decide ((s.most : Int) ≤ s.l.length) = false := by simp; omega
  have hll : (s.l.map (Pl.cells (fun (v : Int) => [Value.int .i64 v]))).length = s.l.length := List.length_map _
  have PH := Lib.hid (P0.alloc (.cells #[.int .i64 0, .int .i64 0] 57)); clear P0
  have HW := Lib.hid hwf; clear hwf
  clear h hA
  refine callsR fun R hR => ?_
  go_enter Try.func61, Try.ntmps61
  go_wp2_with (at_builtin; refine wpList_push (by rfl) (.tmp 49) (.tmp 51) 130 (by rfl) 0 143 _ 3 24 Try.underlying130 info_place_i64 (by rfl) (by decide) (.slice A s.l.length c) _ #[.int .i64 0, .bool false, .int .i64 0] (by rfl) (by exact PH.out.tab) (by rw [World.size_alloc]; rfl) (by rfl) (by simp [Value.oneCell']) (by omega) (by decide) (Nat.zero_le _) ?_; intro v' w' q1 q2 q3; have q4 := PH.out.pushL q1 q2 q3; obtain ⟨A', c', hv, hc', hA'⟩ := q1.form; simp only [List.length_append, List.length_map, List.length_singleton] at hv hc' hA'; obtain ⟨g', rfl, hg', _⟩ := hA' (by omega); subst hv; have b1 := q4.blk.cell 1; have fb1 := q4.blk.frozen 1; have rb := (Blk.new w 57 #[.int .i64 0, .int .i64 0]).chg q2 (fun hm => PH.out.tab.ne_blk (Blk.new w 57 #[.int .i64 0, .int .i64 0]) (by decide) (by simpa using hm)); have hgp : g' ≠ p := fun e => q4.tab.ne_blk q4.blk q4.t1.symm (by simp [Value.ownBlock, e]); have hgr : g' ≠ w.heap.size := fun e => q4.tab.ne_blk rb (by decide) (by simp [Value.ownBlock, e]); have r0 := rb.cell 0; have r1 := rb.cell 1; have fr0 := rb.frozen 0; have fr1 := rb.frozen 1; have hx0 : ((s.l.map (Pl.cells (fun (v : Int) => [Value.int .i64 v]))) ++ [([.int .i64 0, .bool false, .int .i64 0] : List Value)])[s.l.length]? = some ([.int .i64 0, .bool false, .int .i64 0] : List Value) := (by rw [List.getElem?_append_right (by rw [hll]; omega), hll, Nat.sub_self]; rfl); have e0 : w'.cell? ⟨g', s.l.length * 3, none⟩ = some (.int .i64 0) := q4.tab.cell (j := 0) hx0 rfl; have e1 : w'.cell? ⟨g', s.l.length * 3 + 1, none⟩ = some (.bool false) := q4.tab.cell (j := 1) hx0 rfl; have e2 : w'.cell? ⟨g', s.l.length * 3 + 2, none⟩ = some (Value.int .i64 0) := q4.tab.cell (j := 2) hx0 rfl; have fe0 : w'.frozen? ⟨g', s.l.length * 3, none⟩ = false := q4.tab.frozen _; have fe1 : w'.frozen? ⟨g', s.l.length * 3 + 1, none⟩ = false := q4.tab.frozen _; have fe2 : w'.frozen? ⟨g', s.l.length * 3 + 2, none⟩ = false := q4.tab.frozen _; have Q4 := Lib.hid q4; have RB := Lib.hid rb; have HX0 := Lib.hid hx0; clear q1 q2 q3 q4 rb hx0)
  have hlt : s.l.length < ((s.l.map (Pl.cells (fun (v : Int) => [Value.int .i64 v]))) ++ [([.int .i64 0, .bool false, .int .i64 0] : List Value)]).length := by rw [List.length_append, hll]; simp
  have P1 := (((Q4.out.setL.setTab (j := 0) (.int .i64 1) HX0.out (by decide)).put (j := 1) (.bool true) hlt (by decide)).put (j := 2) (Value.int .i64 v) hlt (by decide))
  have P2 := ((P1.beside (q := ⟨w.heap.size, 0, none⟩) (Nat.le_refl _) (Nat.ne_of_lt hp) (Q4.out.tab.ne_blk RB.out (by decide)) (Q4.out.free.ne_blk RB.out (by decide)) (.int .i64 s.l.length)).beside (q := ⟨w.heap.size, 1, none⟩) (Nat.le_refl _) (Nat.ne_of_lt hp) (Q4.out.tab.ne_blk RB.out (by decide)) (Q4.out.free.ne_blk RB.out (by decide)) (.int .i64 1))
  have hE : ((s.l.map (Pl.cells (fun (v : Int) => [Value.int .i64 v]))) ++ [([.int .i64 0, .bool false, .int .i64 0] : List Value)]).set s.l.length ([.int .i64 1, .bool true, Value.int .i64 v] : List Value) = (s.fresh v).l.map (Pl.cells (fun (v : Int) => [Value.int .i64 v])) := by
    show _ = (s.l ++ [(⟨1, true, v⟩ : Pl Int)]).map (Pl.cells (fun (v : Int) => [Value.int .i64 v]))
    rw [List.map_append, List.set_append_right _ _ (by rw [hll]; omega), hll, Nat.sub_self]
    rfl
  have P3 := Eq.subst (motive := fun L => PP w _ _ _ _ _ _ _ _ _ _ _ _ L _) hE P2
  exact bodyPost_ret (v := .tuple #[.agg #[.int .i64 s.l.length, .int .i64 1], .bool true]) (by simp [results, Try.results61, go_sem, r0, r1]) rfl (hR.out _ _ ⟨rfl, _, _, PP.done (s := s.fresh v) P3 HW.out⟩)

theorem pool_take_back_i64 (p : Nat) (lv fv : Value) (s : PSt Int) (v : Int) (i : Nat) (fs : List Nat) (x : Pl Int) (w : World) (h : PoolIs w 132 143 3 3 (fun (v : Int) => [Value.int .i64 v]) p lv fv s) (hf : s.free = fs ++ [i]) (hx : s.l[i]? = some x) :
    Calls Try.prog 61 #[.pointer (some ⟨p, 0, none⟩), Value.int .i64 v] w fun e w' => e = .returned (.tuple #[.agg #[.int .i64 i, .int .i64 (wrap64 (x.gen + 1))], .bool true]) ∧ ∃ lv' fv', PoolIs w' 132 143 3 3 (fun (v : Int) => [Value.int .i64 v]) p lv' fv' (s.retake i fs x v) ∧ Chg (poolFp p lv fv) w w' ∧ Fresh (poolFp p lv fv) (poolFp p lv' fv') w := by
  have hp := h.blk.lt
  have hwf := h.wf.retake v hf hx
  obtain ⟨A, c, rfl, hc, hA⟩ := h.lform
  obtain ⟨A2, c2, rfl, hc2, hA2⟩ := h.fform
  have hi : i < s.l.length := (List.getElem?_eq_some_iff.1 hx).1
  have hfl : s.free.length = fs.length + 1 := by rw [hf]; simp
  obtain ⟨g, rfl, hg⟩ := hA (by omega)
  obtain ⟨g2, rfl, hg2⟩ := hA2 (by omega)
  have hm := h.wf.le
  have hm2 := h.wf.most
  have hm3 := h.wf.free_le
  rw [hfl] at hm3
  have hL : (s.l.map (Pl.cells (fun (v : Int) => [Value.int .i64 v])))[i]? = some (Pl.cells (fun (v : Int) => [Value.int .i64 v]) x) := by rw [List.getElem?_map, hx]; rfl
  have hll : (s.l.map (Pl.cells (fun (v : Int) => [Value.int .i64 v]))).length = s.l.length := List.length_map _
  have P0 := PP.start h (by decide) (by decide) (by decide)
  rw [hfl] at P0 hc2
  have hF : (s.free.map fun (i : Nat) => [Value.int .i64 (i : Int)]) = (fs.map fun (i : Nat) => [Value.int .i64 (i : Int)]) ++ [[Value.int .i64 (i : Int)]] := by rw [hf, List.map_append]; rfl
  rw [hF] at P0
  have d0 := h.blk.cell 0
  have d1 := h.blk.cell 1
  have d2 := h.blk.cell 2
  simp only [List.getElem?_toArray, List.getElem?_cons_zero, List.getElem?_cons_succ] at d0 d1 d2
  rw [hfl] at d2
  have y : w.cell? ⟨g2, fs.length, none⟩ = some (.int .i64 i) := by
    have := P0.free.cell (i := fs.length) (j := 0) (r := [Value.int .i64 (i : Int)]) (by rw [List.getElem?_append_right (by simp)]; simp) rfl
    simpa using this
  have e0 : w.cell? ⟨g, i * 3, none⟩ = some (.int .i64 x.gen) := P0.tab.cell (j := 0) hL rfl
  have e1 : w.cell? ⟨g, i * 3 + 1, none⟩ = some (.bool x.taken) := P0.tab.cell (j := 1) hL rfl
  have e2 : w.cell? ⟨g, i * 3 + 2, none⟩ = some (let v := x.v; Value.int .i64 v) := P0.tab.cell (j := 2) hL rfl
  have fe0 : w.frozen? ⟨g, i * 3, none⟩ = false := P0.tab.frozen _
  have fe1 : w.frozen? ⟨g, i * 3 + 1, none⟩ = false := P0.tab.frozen _
  have fe2 : w.frozen? ⟨g, i * 3 + 2, none⟩ = false := P0.tab.frozen _
  have b2 := h.blk.frozen 2
  have hgp : g ≠ p := fun e => P0.tab.ne_blk P0.blk P0.t1.symm (by simp [Value.ownBlock, e])
  have hgp2 : p ≠ g := fun e => hgp e.symm
  have P5 := PP.popF (F := fs.map fun (i : Nat) => [Value.int .i64 (i : Int)]) (r := [Value.int .i64 (i : Int)]) (by rw [List.length_map]; exact P0)
  rw [List.length_map] at P5
  have PH := Lib.hid P5; clear P0 P5
  have HW := Lib.hid hwf; clear hwf
  have HL := Lib.hid hL; clear hL
  have HX := Lib.hid hx
  clear h hA hA2 hf hx hF
  refine callsR fun R hR => ?_
  go_enter Try.func61, Try.ntmps61
  go_wp2_with fail
  have hlt : i < (s.l.map (Pl.cells (fun (v : Int) => [Value.int .i64 v]))).length := by rw [hll]; exact hi
  have P1 := ((PH.out.setF.setTab (j := 0) (.int .i64 (wrap64 (x.gen + 1))) HL.out (by decide)).put (j := 1) (.bool true) hlt (by decide)).put (j := 2) (Value.int .i64 v) hlt (by decide)
  have P2 := P1.alloc (.cells #[.int .i64 i, .int .i64 (wrap64 (x.gen + 1))] 57)
  have hE : (s.l.map (Pl.cells (fun (v : Int) => [Value.int .i64 v]))).set i (Pl.cells (fun (v : Int) => [Value.int .i64 v]) ⟨wrap64 (x.gen + 1), true, v⟩) = (s.retake i fs x v).l.map (Pl.cells (fun (v : Int) => [Value.int .i64 v])) := by
    show _ = (s.l.set i ⟨wrap64 (x.gen + 1), true, v⟩).map (Pl.cells (fun (v : Int) => [Value.int .i64 v]))
    rw [List.map_set]
  have P3 := Eq.subst (motive := fun L => PP w _ _ _ _ _ _ _ _ _ _ _ _ L _) hE P2
  exact bodyPost_ret (v := .tuple #[.agg #[.int .i64 i, .int .i64 (wrap64 (x.gen + 1))], .bool true]) (by simp [results, Try.results61, go_sem]) rfl (hR.out _ _ ⟨rfl, _, _, PP.done (s := s.retake i fs x v) P3 HW.out⟩)

end Go.Proofs.Ytjabofofofddbaa
