/- The pool of Heap, more: what each method does to the places that it holds. -/
import Derived.Test.YtognmhgdegpdiaaPoolHeap
namespace Go.Proofs.Ytognmhgdegpdiaa
open Go.RowKit
set_option linter.unusedVariables false
set_option linter.unusedSimpArgs false
set_option maxRecDepth 100000
theorem pool_get_bad_heap (p : Nat) (lv fv : Value) (s : PSt V3) (a b : Int) (e0 : Int) (w : World) (h : PoolIs w 87 92 3 5 (fun (v : V3) => [Value.int .i64 v.a, Value.int .i64 v.b, Value.int .i64 v.c]) p lv fv s) (hl : s.look a b = e0) (he : e0 ≠ 0) :
    Calls Try.prog 25 #[.pointer (some ⟨p, 0, none⟩), .agg #[.int .i64 a, .int .i64 b]] w fun e w' => e = .returned (.tuple #[Value.agg #[.int .i64 0, .int .i64 0, .int .i64 0], .int .i64 e0]) ∧ Below w.heap.size w w' := by
  have HH := Lib.hid ((h.alloc (.cells #[.int .i64 a, .int .i64 b] 27)).alloc (.cells #[.int .i64 0, .int .i64 0, .int .i64 0] 52))
  have HL := Lib.hid hl; clear hl
  have hb : (e0 != 0) = true := by simpa using he
  have HE := Lib.hid he; clear he h
  refine callsR fun R hR => ?_
  go_enter Try.func25, Try.ntmps25
  go_wp2_with fail
  refine Calls.mono (find_bad_heap p lv fv s a b e0 _ HH.out HL.out HE.out) ?_
  rintro e w2 ⟨rfl, hb2⟩
  have rc := (Blk.new1 w (.cells #[.int .i64 a, .int .i64 b] 27) 52 #[.int .i64 0, .int .i64 0, .int .i64 0]).chg (Chg.of_below hb2 []) (by simp)
  have lc := rc.lt
  have c0 : w2.cell? ⟨w.heap.size + 1, 0, none⟩ = some (.int .i64 0) := rc.cell 0
  have f0 := rc.frozen 0
  have c1 : w2.cell? ⟨w.heap.size + 1, 1, none⟩ = some (.int .i64 0) := rc.cell 1
  have f1 := rc.frozen 1
  have c2 : w2.cell? ⟨w.heap.size + 1, 2, none⟩ = some (.int .i64 0) := rc.cell 2
  have f2 := rc.frozen 2
  have C := (((Chg.refl [] w).alloc (.cells #[.int .i64 a, .int .i64 b] 27)).alloc (.cells #[.int .i64 0, .int .i64 0, .int .i64 0] 52)).trans (Chg.of_below hb2 [])
  have C := C.setCell (p := ⟨w.heap.size + 1, 0, none⟩) (.inr (Nat.le_succ _)) (.int .i64 0)
  have C := C.setCell (p := ⟨w.heap.size + 1, 1, none⟩) (.inr (Nat.le_succ _)) (.int .i64 0)
  have C := C.setCell (p := ⟨w.heap.size + 1, 2, none⟩) (.inr (Nat.le_succ _)) (.int .i64 0)
  have CC := Lib.hid (C.alloc (.cells #[.int .i64 0, .int .i64 0, .int .i64 0] 52)); clear hb2 rc C
  go_wp2_with fail
  exact bodyPost_ret (v := .tuple #[Value.agg #[.int .i64 0, .int .i64 0, .int .i64 0], .int .i64 e0]) (by simp [results, Try.results25, go_sem, lc, c0, c1, c2]) rfl (hR.out _ _ ⟨rfl, CC.out.below (by simp) (Nat.le_refl _)⟩)

theorem pool_get_ok_heap (p : Nat) (lv fv : Value) (s : PSt V3) (i : Nat) (x : Pl V3) (w : World) (h : PoolIs w 87 92 3 5 (fun (v : V3) => [Value.int .i64 v.a, Value.int .i64 v.b, Value.int .i64 v.c]) p lv fv s)
    (hx : s.l[i]? = some x) (ht : x.taken = true) (hg1 : 1 ≤ x.gen) :
    Calls Try.prog 25 #[.pointer (some ⟨p, 0, none⟩), .agg #[.int .i64 i, .int .i64 x.gen]] w fun e w' => e = .returned (.tuple #[(let v := x.v; Value.agg #[.int .i64 v.a, .int .i64 v.b, .int .i64 v.c]), .int .i64 0]) ∧ Below w.heap.size w w' := by
  obtain ⟨A, c, rfl, hc, hA⟩ := h.lform
  obtain ⟨g, rfl, hg⟩ := hA (by have := (List.getElem?_eq_some_iff.1 hx).1; omega)
  have hL : (s.l.map (Pl.cells (fun (v : V3) => [Value.int .i64 v.a, Value.int .i64 v.b, Value.int .i64 v.c])))[i]? = some (Pl.cells (fun (v : V3) => [Value.int .i64 v.a, Value.int .i64 v.b, Value.int .i64 v.c]) x) := by rw [List.getElem?_map, hx]; rfl
  have HH := Lib.hid ((h.alloc (.cells #[.int .i64 i, .int .i64 x.gen] 27)).alloc (.cells #[.int .i64 0, .int .i64 0, .int .i64 0] 52)); clear h
  have HX := Lib.hid hx; clear hx
  have HT := Lib.hid ht; clear ht
  obtain ⟨xg, xt, xv⟩ := x
  simp only at hL hg1 ⊢
  refine callsR fun R hR => ?_
  go_enter Try.func25, Try.ntmps25
  go_wp2_with fail
  refine Calls.mono (find_ok_heap p g _ c fv s i ⟨xg, xt, xv⟩ _ HH.out HX.out HT.out hg1) ?_
  rintro e w2 ⟨rfl, hb2⟩
  have H2 := HH.out.later hb2
  have g2 : w2.cell? ⟨g, i * 5 + 2, none⟩ = some (.int .i64 xv.a) := H2.tab.cell (j := 2) hL rfl
  have g3 : w2.cell? ⟨g, i * 5 + 3, none⟩ = some (.int .i64 xv.b) := H2.tab.cell (j := 3) hL rfl
  have g4 : w2.cell? ⟨g, i * 5 + 4, none⟩ = some (.int .i64 xv.c) := H2.tab.cell (j := 4) hL rfl
  have rc := (Blk.new1 w (.cells #[.int .i64 i, .int .i64 xg] 27) 52 #[.int .i64 0, .int .i64 0, .int .i64 0]).chg (Chg.of_below hb2 []) (by simp)
  have lc := rc.lt
  have c0 : w2.cell? ⟨w.heap.size + 1, 0, none⟩ = some (.int .i64 0) := rc.cell 0
  have f0 := rc.frozen 0
  have c1 : w2.cell? ⟨w.heap.size + 1, 1, none⟩ = some (.int .i64 0) := rc.cell 1
  have f1 := rc.frozen 1
  have c2 : w2.cell? ⟨w.heap.size + 1, 2, none⟩ = some (.int .i64 0) := rc.cell 2
  have f2 := rc.frozen 2
  have C := (((Chg.refl [] w).alloc (.cells #[.int .i64 i, .int .i64 xg] 27)).alloc (.cells #[.int .i64 0, .int .i64 0, .int .i64 0] 52)).trans (Chg.of_below hb2 [])
  have C := C.setCell (p := ⟨w.heap.size + 1, 0, none⟩) (.inr (Nat.le_succ _)) (.int .i64 xv.a)
  have C := C.setCell (p := ⟨w.heap.size + 1, 1, none⟩) (.inr (Nat.le_succ _)) (.int .i64 xv.b)
  have C := C.setCell (p := ⟨w.heap.size + 1, 2, none⟩) (.inr (Nat.le_succ _)) (.int .i64 xv.c)
  have CC := Lib.hid C; clear hb2 rc C H2 hL
  go_wp2_with fail
  exact bodyPost_ret (v := .tuple #[(let v := xv; Value.agg #[.int .i64 v.a, .int .i64 v.b, .int .i64 v.c]), .int .i64 0]) (by simp [results, Try.results25, go_sem, lc, c0, c1, c2]) rfl (hR.out _ _ ⟨rfl, CC.out.below (by simp) (Nat.le_refl _)⟩)

theorem pool_take_full_heap (p : Nat) (lv fv : Value) (s : PSt V3) (v : V3) (w : World) (h : PoolIs w 87 92 3 5 (fun (v : V3) => [Value.int .i64 v.a, Value.int .i64 v.b, Value.int .i64 v.c]) p lv fv s) (hf : s.free = []) (hfull : s.most ≤ s.l.length) :
    Calls Try.prog 24 #[.pointer (some ⟨p, 0, none⟩), Value.agg #[.int .i64 v.a, .int .i64 v.b, .int .i64 v.c]] w fun e w' => e = .returned (.tuple #[.agg #[.int .i64 0, .int .i64 0], .bool false]) ∧ Below w.heap.size w w' := by
  have hp := h.blk.lt
  obtain ⟨A, c, rfl, hc, hA⟩ := h.lform
  obtain ⟨A2, c2, rfl, hc2, _⟩ := h.fform
  rw [hf] at h
  have hm := h.wf.le
  have hm2 := h.wf.most
  have d0 := h.blk.cell 0
  have d1 := h.blk.cell 1
  have d2 := h.blk.cell 2
  simp only [List.getElem?_toArray, List.getElem?_cons_zero, List.getElem?_cons_succ, List.length_nil] at d0 d1 d2
  have hd : decide ((s.most : Int) ≤ s.l.length) = true := by simp; omega
  clear h hA
  refine callsR fun R hR => ?_
  go_enter Try.func24, Try.ntmps24
  go_wp2_with fail
  exact bodyPost_ret (v := .tuple #[.agg #[.int .i64 0, .int .i64 0], .bool false]) (by simp [results, Try.results24, go_sem]) rfl (hR.out _ _ ⟨rfl, ((Below.refl _ _).alloc (Nat.le_refl _) _).alloc (by simp) _⟩)

set_option maxHeartbeats 4000000 in
theorem pool_take_fresh_heap (p : Nat) (lv fv : Value) (s : PSt V3) (v : V3) (w : World) (h : PoolIs w 87 92 3 5 (fun (v : V3) => [Value.int .i64 v.a, Value.int .i64 v.b, Value.int .i64 v.c]) p lv fv s) (hf : s.free = []) (hfull : s.l.length < s.most) :
    Calls Try.prog 24 #[.pointer (some ⟨p, 0, none⟩), Value.agg #[.int .i64 v.a, .int .i64 v.b, .int .i64 v.c]] w fun e w' => e = .returned (.tuple #[.agg #[.int .i64 s.l.length, .int .i64 1], .bool true]) ∧ ∃ lv' fv', PoolIs w' 87 92 3 5 (fun (v : V3) => [Value.int .i64 v.a, Value.int .i64 v.b, Value.int .i64 v.c]) p lv' fv' (s.fresh v) ∧ Chg (poolFp p lv fv) w w' ∧ Fresh (poolFp p lv fv) (poolFp p lv' fv') w := by
  have hp := h.blk.lt
  have hwf := h.wf.fresh v hfull
  obtain ⟨A, c, rfl, hc, hA⟩ := h.lform
  obtain ⟨A2, c2, rfl, hc2, _⟩ := h.fform
  have hfl : s.free.length = 0 := by rw [hf]; rfl
  have hm2 := h.wf.most
  have P0 := PP.start h (by decide) (by decide) (by decide)
  have d0 := h.blk.cell 0
  have d1 := h.blk.cell 1
  have d2 := h.blk.cell 2
  simp only [List.getElem?_toArray, List.getElem?_cons_zero, List.getElem?_cons_succ] at d0 d1 d2
  rw [hfl] at d2
  have hd : decide ((s.most : Int) ≤ s.l.length) = false := by simp; omega
  have hll : (s.l.map (Pl.cells (fun (v : V3) => [Value.int .i64 v.a, Value.int .i64 v.b, Value.int .i64 v.c]))).length = s.l.length := List.length_map _
  have PH := Lib.hid ((P0.alloc (.cells #[.int .i64 v.a, .int .i64 v.b, .int .i64 v.c] 52)).alloc (.cells #[.int .i64 0, .int .i64 0] 27)); clear P0
  have HW := Lib.hid hwf; clear hwf
  clear h hA
  refine callsR fun R hR => ?_
  go_enter Try.func24, Try.ntmps24
  go_wp2_with (at_builtin; refine wpList_push (by rfl) (.tmp 49) (.tmp 51) 85 (by rfl) 0 92 _ 5 40 Try.underlying85 info_place_heap (by rfl) (by decide) (.slice A s.l.length c) _ #[.int .i64 0, .bool false, .int .i64 0, .int .i64 0, .int .i64 0] (by rfl) (by exact PH.out.tab) (by rw [World.size_alloc, World.size_alloc]; rfl) (by rfl) (by simp [Value.oneCell']) (by omega) (by decide) (Nat.zero_le _) ?_; intro v' w' q1 q2 q3; have q4 := PH.out.pushL q1 q2 q3; obtain ⟨A', c', hv, hc', hA'⟩ := q1.form; simp only [List.length_append, List.length_map, List.length_singleton] at hv hc' hA'; obtain ⟨g', rfl, hg', _⟩ := hA' (by omega); subst hv; have b1 := q4.blk.cell 1; have fb1 := q4.blk.frozen 1; have rb0 := Blk.new1 w (.cells #[.int .i64 v.a, .int .i64 v.b, .int .i64 v.c] 52) 27 #[.int .i64 0, .int .i64 0]; have rb := rb0.chg q2 (fun hm => PH.out.tab.ne_blk rb0 (by decide) (by simpa using hm)); have rv0 := (Blk.new w 52 #[.int .i64 v.a, .int .i64 v.b, .int .i64 v.c]).alloc (.cells #[.int .i64 0, .int .i64 0] 27); have rv := rv0.chg q2 (fun hm => PH.out.tab.ne_blk rv0 (by decide) (by simpa using hm)); have hgp : g' ≠ p := fun e => q4.tab.ne_blk q4.blk q4.t1.symm (by simp [Value.ownBlock, e]); have hgr : g' ≠ w.heap.size + 1 := fun e => q4.tab.ne_blk rb (by decide) (by simp [Value.ownBlock, e]); have hgv : g' ≠ w.heap.size := fun e => q4.tab.ne_blk rv (by decide) (by simp [Value.ownBlock, e]); have hgr2 := hgr.symm; have hgv2 := hgv.symm; have hpr : p ≠ w.heap.size + 1 := (by omega); have hpv : p ≠ w.heap.size := (by omega); have Q4 := Lib.hid q4; have RB := Lib.hid rb; have RV := Lib.hid rv; have H1 := Lib.hid q1; clear q1 q2 q3 q4 rb rv rb0 rv0 PH; have r0 := RB.out.cell 0; have r1 := RB.out.cell 1; have fr0 := RB.out.frozen 0; have fr1 := RB.out.frozen 1; have hx0 : ((s.l.map (Pl.cells (fun (v : V3) => [Value.int .i64 v.a, Value.int .i64 v.b, Value.int .i64 v.c]))) ++ [([.int .i64 0, .bool false, .int .i64 0, .int .i64 0, .int .i64 0] : List Value)])[s.l.length]? = some ([.int .i64 0, .bool false, .int .i64 0, .int .i64 0, .int .i64 0] : List Value) := (by rw [List.getElem?_append_right (by rw [hll]; omega), hll, Nat.sub_self]; rfl); have e0 : w'.cell? ⟨g', s.l.length * 5, none⟩ = some (.int .i64 0) := Q4.out.tab.cell (j := 0) hx0 rfl; have e1 : w'.cell? ⟨g', s.l.length * 5 + 1, none⟩ = some (.bool false) := Q4.out.tab.cell (j := 1) hx0 rfl; have fe0 : w'.frozen? ⟨g', s.l.length * 5, none⟩ = false := Q4.out.tab.frozen _; have fe1 : w'.frozen? ⟨g', s.l.length * 5 + 1, none⟩ = false := Q4.out.tab.frozen _; have e2 : w'.cell? ⟨g', s.l.length * 5 + 2, none⟩ = some (.int .i64 0) := Q4.out.tab.cell (j := 2) hx0 rfl; have fe2 : w'.frozen? ⟨g', s.l.length * 5 + 2, none⟩ = false := Q4.out.tab.frozen _; have cv0 : w'.cell? ⟨w.heap.size, 0, none⟩ = some (.int .i64 v.a) := RV.out.cell 0; have e3 : w'.cell? ⟨g', s.l.length * 5 + 3, none⟩ = some (.int .i64 0) := Q4.out.tab.cell (j := 3) hx0 rfl; have fe3 : w'.frozen? ⟨g', s.l.length * 5 + 3, none⟩ = false := Q4.out.tab.frozen _; have cv1 : w'.cell? ⟨w.heap.size, 1, none⟩ = some (.int .i64 v.b) := RV.out.cell 1; have e4 : w'.cell? ⟨g', s.l.length * 5 + 4, none⟩ = some (.int .i64 0) := Q4.out.tab.cell (j := 4) hx0 rfl; have fe4 : w'.frozen? ⟨g', s.l.length * 5 + 4, none⟩ = false := Q4.out.tab.frozen _; have cv2 : w'.cell? ⟨w.heap.size, 2, none⟩ = some (.int .i64 v.c) := RV.out.cell 2;  have HX0 := Lib.hid hx0; clear hx0)
  have hlt : s.l.length < ((s.l.map (Pl.cells (fun (v : V3) => [Value.int .i64 v.a, Value.int .i64 v.b, Value.int .i64 v.c]))) ++ [([.int .i64 0, .bool false, .int .i64 0, .int .i64 0, .int .i64 0] : List Value)]).length := by rw [List.length_append, hll]; simp
  have P1 : PP w ((w'.setCell ⟨p, 1, none⟩ (.slice (some ⟨g', 0, none⟩) (s.l.length + 1) c')).setCell ⟨g', s.l.length * 5, none⟩ (.int .i64 1)) _ _ _ _ _ _ _ _ _ _ _ _ _ := (Q4.out.setL.setTab (j := 0) (.int .i64 1) HX0.out (by decide))
  have RV1 := (RV.out.far (p := ⟨p, 1, none⟩) hpv.symm (.slice (some ⟨g', 0, none⟩) (s.l.length + 1) c')).far (p := ⟨g', s.l.length * 5, none⟩) hgv2 (.int .i64 1)
  have RB1 := (RB.out.far (p := ⟨p, 1, none⟩) hpr.symm (.slice (some ⟨g', 0, none⟩) (s.l.length + 1) c')).far (p := ⟨g', s.l.length * 5, none⟩) hgr2 (.int .i64 1)
  clear r0 r1 fr0 fr1 e0 e1 fe0 fe1 b1 fb1 e2 e3 e4 fe2 fe3 fe4 cv0 cv1 cv2 RV RB Q4 HX0 H1 d0 d1 d2
  generalize ((w'.setCell ⟨p, 1, none⟩ (.slice (some ⟨g', 0, none⟩) (s.l.length + 1) c')).setCell ⟨g', s.l.length * 5, none⟩ (.int .i64 1)) = wy at P1 RV1 RB1 ⊢
  have r0 := RB1.cell 0
  have r1 := RB1.cell 1
  have fr0 := RB1.frozen 0
  have fr1 := RB1.frozen 1
  have hr1 := List.getElem?_set_self (a := ([.int .i64 0, .bool false, .int .i64 0, .int .i64 0, .int .i64 0] : List Value).set 0 (.int .i64 1)) hlt
  have y0 : wy.cell? ⟨g', s.l.length * 5, none⟩ = some (.int .i64 1) := P1.tab.cell (j := 0) hr1 rfl
  have y1 : wy.cell? ⟨g', s.l.length * 5 + 1, none⟩ = some (.bool false) := P1.tab.cell (j := 1) hr1 rfl
  have fy1 : wy.frozen? ⟨g', s.l.length * 5 + 1, none⟩ = false := P1.tab.frozen _
  have y2 : wy.cell? ⟨g', s.l.length * 5 + 2, none⟩ = some (.int .i64 0) := P1.tab.cell (j := 2) hr1 rfl
  have fy2 : wy.frozen? ⟨g', s.l.length * 5 + 2, none⟩ = false := P1.tab.frozen _
  have cv0 : wy.cell? ⟨w.heap.size, 0, none⟩ = some (.int .i64 v.a) := RV1.cell 0
  have y3 : wy.cell? ⟨g', s.l.length * 5 + 3, none⟩ = some (.int .i64 0) := P1.tab.cell (j := 3) hr1 rfl
  have fy3 : wy.frozen? ⟨g', s.l.length * 5 + 3, none⟩ = false := P1.tab.frozen _
  have cv1 : wy.cell? ⟨w.heap.size, 1, none⟩ = some (.int .i64 v.b) := RV1.cell 1
  have y4 : wy.cell? ⟨g', s.l.length * 5 + 4, none⟩ = some (.int .i64 0) := P1.tab.cell (j := 4) hr1 rfl
  have fy4 : wy.frozen? ⟨g', s.l.length * 5 + 4, none⟩ = false := P1.tab.frozen _
  have cv2 : wy.cell? ⟨w.heap.size, 2, none⟩ = some (.int .i64 v.c) := RV1.cell 2
  have P2 := P1.put (j := 1) (.bool true) hlt (by decide)
  have P2 := P2.put (j := 2) (.int .i64 v.a) hlt (by decide)
  have P2 := P2.put (j := 3) (.int .i64 v.b) hlt (by decide)
  have P2 := P2.put (j := 4) (.int .i64 v.c) hlt (by decide)
  have P2 := ((P2.beside (q := ⟨w.heap.size + 1, 0, none⟩) (Nat.le_succ _) hpr (P1.tab.ne_blk RB1 (by decide)) (P1.free.ne_blk RB1 (by decide)) (.int .i64 s.l.length)).beside (q := ⟨w.heap.size + 1, 1, none⟩) (Nat.le_succ _) hpr (P1.tab.ne_blk RB1 (by decide)) (P1.free.ne_blk RB1 (by decide)) (.int .i64 1))
  have PH := Lib.hid P2
  clear P1 P2 RV1 RB1 hr1
  have hfar : ∀ (W : World) (j k : Nat) (u : Value), (W.setCell ⟨g', k, none⟩ u).cell? ⟨w.heap.size, j, none⟩ = W.cell? ⟨w.heap.size, j, none⟩ := fun W j k u => cell_far (fun e => hgv (by simpa using e)) u
  go_region_held3 (fun wx => wx.cell? ⟨w.heap.size, 0, none⟩ = some (.int .i64 v.a) ∧ wx.cell? ⟨w.heap.size, 1, none⟩ = some (.int .i64 v.b) ∧ wx.cell? ⟨w.heap.size, 2, none⟩ = some (.int .i64 v.c)) (first | with_reducible exact ⟨cv0, cv1, cv2⟩ | (simp only [hfar, cell_drew1]; with_reducible exact ⟨cv0, cv1, cv2⟩)) (fail)
  clear hfar
  go_wp2_with fail
  have hE : ((s.l.map (Pl.cells (fun (v : V3) => [Value.int .i64 v.a, Value.int .i64 v.b, Value.int .i64 v.c]))) ++ [([.int .i64 0, .bool false, .int .i64 0, .int .i64 0, .int .i64 0] : List Value)]).set s.l.length (Pl.cells (fun (v : V3) => [Value.int .i64 v.a, Value.int .i64 v.b, Value.int .i64 v.c]) ⟨1, true, v⟩) = (s.fresh v).l.map (Pl.cells (fun (v : V3) => [Value.int .i64 v.a, Value.int .i64 v.b, Value.int .i64 v.c])) := by
    show _ = (s.l ++ [(⟨1, true, v⟩ : Pl V3)]).map (Pl.cells (fun (v : V3) => [Value.int .i64 v.a, Value.int .i64 v.b, Value.int .i64 v.c]))
    rw [List.map_append, List.set_append_right _ _ (by rw [hll]; omega), hll, Nat.sub_self]
    rfl
  have P3 := Eq.subst (motive := fun L => PP w _ _ _ _ _ _ _ _ _ _ _ _ L _) hE PH.out
  exact bodyPost_ret (v := .tuple #[.agg #[.int .i64 s.l.length, .int .i64 1], .bool true]) (by simp [results, Try.results24, go_sem, r0, r1]) rfl (hR.out _ _ ⟨rfl, _, _, PP.done (s := s.fresh v) (P3.drewN _) HW.out⟩)

set_option maxHeartbeats 4000000 in
theorem pool_take_back_heap (p : Nat) (lv fv : Value) (s : PSt V3) (v : V3) (i : Nat) (fs : List Nat) (x : Pl V3) (w : World) (h : PoolIs w 87 92 3 5 (fun (v : V3) => [Value.int .i64 v.a, Value.int .i64 v.b, Value.int .i64 v.c]) p lv fv s) (hf : s.free = fs ++ [i]) (hx : s.l[i]? = some x) :
    Calls Try.prog 24 #[.pointer (some ⟨p, 0, none⟩), Value.agg #[.int .i64 v.a, .int .i64 v.b, .int .i64 v.c]] w fun e w' => e = .returned (.tuple #[.agg #[.int .i64 i, .int .i64 (wrap64 (x.gen + 1))], .bool true]) ∧ ∃ lv' fv', PoolIs w' 87 92 3 5 (fun (v : V3) => [Value.int .i64 v.a, Value.int .i64 v.b, Value.int .i64 v.c]) p lv' fv' (s.retake i fs x v) ∧ Chg (poolFp p lv fv) w w' ∧ Fresh (poolFp p lv fv) (poolFp p lv' fv') w := by
  have hp := h.blk.lt
  have hwf := h.wf.retake v hf hx
  obtain ⟨A, c, rfl, hc, hA⟩ := h.lform
  obtain ⟨A2, c2, rfl, hc2, hA2⟩ := h.fform
  have hi : i < s.l.length := (List.getElem?_eq_some_iff.1 hx).1
  have hfl : s.free.length = fs.length + 1 := by rw [hf]; simp
  obtain ⟨g, rfl, hg⟩ := hA (by omega)
  obtain ⟨g2, rfl, hg2⟩ := hA2 (by omega)
  have hm := h.wf.le
  have hm2 := h.wf.most
  have hm3 := h.wf.free_le
  rw [hfl] at hm3
  have hL : (s.l.map (Pl.cells (fun (v : V3) => [Value.int .i64 v.a, Value.int .i64 v.b, Value.int .i64 v.c])))[i]? = some (Pl.cells (fun (v : V3) => [Value.int .i64 v.a, Value.int .i64 v.b, Value.int .i64 v.c]) x) := by rw [List.getElem?_map, hx]; rfl
  have hll : (s.l.map (Pl.cells (fun (v : V3) => [Value.int .i64 v.a, Value.int .i64 v.b, Value.int .i64 v.c]))).length = s.l.length := List.length_map _
  have P0 := PP.start h (by decide) (by decide) (by decide)
  rw [hfl] at P0 hc2
  have hF : (s.free.map fun (i : Nat) => [Value.int .i64 (i : Int)]) = (fs.map fun (i : Nat) => [Value.int .i64 (i : Int)]) ++ [[Value.int .i64 (i : Int)]] := by rw [hf, List.map_append]; rfl
  rw [hF] at P0
  have d0 := h.blk.cell 0
  have d1 := h.blk.cell 1
  have d2 := h.blk.cell 2
  simp only [List.getElem?_toArray, List.getElem?_cons_zero, List.getElem?_cons_succ] at d0 d1 d2
  rw [hfl] at d2
  have y : w.cell? ⟨g2, fs.length, none⟩ = some (.int .i64 i) := by
    have := P0.free.cell (i := fs.length) (j := 0) (r := [Value.int .i64 (i : Int)]) (by rw [List.getElem?_append_right (by simp)]; simp) rfl
    simpa using this
  have e0 : w.cell? ⟨g, i * 5, none⟩ = some (.int .i64 x.gen) := P0.tab.cell (j := 0) hL rfl
  have e1 : w.cell? ⟨g, i * 5 + 1, none⟩ = some (.bool x.taken) := P0.tab.cell (j := 1) hL rfl
  have e2 : w.cell? ⟨g, i * 5 + 2, none⟩ = some (.int .i64 x.v.a) := P0.tab.cell (j := 2) hL rfl
  have e3 : w.cell? ⟨g, i * 5 + 3, none⟩ = some (.int .i64 x.v.b) := P0.tab.cell (j := 3) hL rfl
  have e4 : w.cell? ⟨g, i * 5 + 4, none⟩ = some (.int .i64 x.v.c) := P0.tab.cell (j := 4) hL rfl
  have fe0 : w.frozen? ⟨g, i * 5, none⟩ = false := P0.tab.frozen _
  have fe1 : w.frozen? ⟨g, i * 5 + 1, none⟩ = false := P0.tab.frozen _
  have fe2 : w.frozen? ⟨g, i * 5 + 2, none⟩ = false := P0.tab.frozen _
  have fe3 : w.frozen? ⟨g, i * 5 + 3, none⟩ = false := P0.tab.frozen _
  have fe4 : w.frozen? ⟨g, i * 5 + 4, none⟩ = false := P0.tab.frozen _
  have b2 := h.blk.frozen 2
  have hgp : g ≠ p := fun e => P0.tab.ne_blk P0.blk P0.t1.symm (by simp [Value.ownBlock, e])
  have hgp2 : p ≠ g := fun e => hgp e.symm
  have P5 := PP.popF (F := fs.map fun (i : Nat) => [Value.int .i64 (i : Int)]) (r := [Value.int .i64 (i : Int)]) (by rw [List.length_map]; exact P0)
  rw [List.length_map] at P5
  have PH := Lib.hid P5; clear P0 P5
  have HW := Lib.hid hwf; clear hwf
  have HL := Lib.hid hL; clear hL
  have HX := Lib.hid hx
  clear h hA hA2 hf hx hF
  refine callsR fun R hR => ?_
  go_enter Try.func24, Try.ntmps24
  go_wp2_with fail
  have hlt : i < (s.l.map (Pl.cells (fun (v : V3) => [Value.int .i64 v.a, Value.int .i64 v.b, Value.int .i64 v.c]))).length := by rw [hll]; exact hi
  have P1 : PP w ((((w.setCell ⟨p, 2, none⟩ (.slice (some ⟨g2, 0, none⟩) fs.length c2)).setCell ⟨g, i * 5, none⟩ (.int .i64 (wrap64 (x.gen + 1)))).alloc (.cells #[.int .i64 v.a, .int .i64 v.b, .int .i64 v.c] 52)).alloc (.cells #[.int .i64 0, .int .i64 0] 27)) _ _ _ _ _ _ _ _ _ _ _ _ _ := ((PH.out.setF.setTab (j := 0) (.int .i64 (wrap64 (x.gen + 1))) HL.out (by decide)).alloc (.cells #[.int .i64 v.a, .int .i64 v.b, .int .i64 v.c] 52)).alloc (.cells #[.int .i64 0, .int .i64 0] 27)
  have hws : ((w.setCell ⟨p, 2, none⟩ (.slice (some ⟨g2, 0, none⟩) fs.length c2)).setCell ⟨g, i * 5, none⟩ (.int .i64 (wrap64 (x.gen + 1)))).heap.size = w.heap.size := by rw [World.size_setCell, World.size_setCell]
  have RV1 := (Blk.new ((w.setCell ⟨p, 2, none⟩ (.slice (some ⟨g2, 0, none⟩) fs.length c2)).setCell ⟨g, i * 5, none⟩ (.int .i64 (wrap64 (x.gen + 1)))) 52 #[.int .i64 v.a, .int .i64 v.b, .int .i64 v.c]).alloc (.cells #[.int .i64 0, .int .i64 0] 27)
  have RB1 := Blk.new1 ((w.setCell ⟨p, 2, none⟩ (.slice (some ⟨g2, 0, none⟩) fs.length c2)).setCell ⟨g, i * 5, none⟩ (.int .i64 (wrap64 (x.gen + 1)))) (.cells #[.int .i64 v.a, .int .i64 v.b, .int .i64 v.c] 52) 27 #[.int .i64 0, .int .i64 0]
  rw [hws] at RV1 RB1
  clear e0 e1 fe0 fe1 b2 y e2 e3 e4 fe2 fe3 fe4 PH HL d0 d1 d2 hws
  generalize ((((w.setCell ⟨p, 2, none⟩ (.slice (some ⟨g2, 0, none⟩) fs.length c2)).setCell ⟨g, i * 5, none⟩ (.int .i64 (wrap64 (x.gen + 1)))).alloc (.cells #[.int .i64 v.a, .int .i64 v.b, .int .i64 v.c] 52)).alloc (.cells #[.int .i64 0, .int .i64 0] 27)) = wy at P1 RV1 RB1 ⊢
  obtain ⟨gn, hgn⟩ : ∃ gn, wrap64 (x.gen + 1) = gn := ⟨_, rfl⟩
  rw [hgn] at P1 ⊢
  have HGN := Lib.hid hgn; clear hgn
  have hpr : p ≠ w.heap.size + 1 := by omega
  have r0 := RB1.cell 0
  have r1 := RB1.cell 1
  have fr0 := RB1.frozen 0
  have fr1 := RB1.frozen 1
  have hgr : g ≠ w.heap.size + 1 := fun e => P1.tab.ne_blk RB1 (by decide) (by simp [Value.ownBlock, e])
  have hgv : g ≠ w.heap.size := fun e => P1.tab.ne_blk RV1 (by decide) (by simp [Value.ownBlock, e])
  have hgr2 := hgr.symm
  have hgv2 := hgv.symm
  have hr1 := List.getElem?_set_self (a := (Pl.cells (fun (v : V3) => [Value.int .i64 v.a, Value.int .i64 v.b, Value.int .i64 v.c]) x).set 0 (.int .i64 gn)) hlt
  have y0 : wy.cell? ⟨g, i * 5, none⟩ = some (.int .i64 gn) := P1.tab.cell (j := 0) hr1 rfl
  have y1 : wy.cell? ⟨g, i * 5 + 1, none⟩ = some (.bool x.taken) := P1.tab.cell (j := 1) hr1 rfl
  have fy1 : wy.frozen? ⟨g, i * 5 + 1, none⟩ = false := P1.tab.frozen _
  have y2 : wy.cell? ⟨g, i * 5 + 2, none⟩ = some (.int .i64 x.v.a) := P1.tab.cell (j := 2) hr1 rfl
  have fy2 : wy.frozen? ⟨g, i * 5 + 2, none⟩ = false := P1.tab.frozen _
  have cv0 : wy.cell? ⟨w.heap.size, 0, none⟩ = some (.int .i64 v.a) := RV1.cell 0
  have y3 : wy.cell? ⟨g, i * 5 + 3, none⟩ = some (.int .i64 x.v.b) := P1.tab.cell (j := 3) hr1 rfl
  have fy3 : wy.frozen? ⟨g, i * 5 + 3, none⟩ = false := P1.tab.frozen _
  have cv1 : wy.cell? ⟨w.heap.size, 1, none⟩ = some (.int .i64 v.b) := RV1.cell 1
  have y4 : wy.cell? ⟨g, i * 5 + 4, none⟩ = some (.int .i64 x.v.c) := P1.tab.cell (j := 4) hr1 rfl
  have fy4 : wy.frozen? ⟨g, i * 5 + 4, none⟩ = false := P1.tab.frozen _
  have cv2 : wy.cell? ⟨w.heap.size, 2, none⟩ = some (.int .i64 v.c) := RV1.cell 2
  have P2 := P1.put (j := 1) (.bool true) hlt (by decide)
  have P2 := P2.put (j := 2) (.int .i64 v.a) hlt (by decide)
  have P2 := P2.put (j := 3) (.int .i64 v.b) hlt (by decide)
  have P2 := P2.put (j := 4) (.int .i64 v.c) hlt (by decide)
  have P2 := ((P2.beside (q := ⟨w.heap.size + 1, 0, none⟩) (Nat.le_succ _) hpr (P1.tab.ne_blk RB1 (by decide)) (P1.free.ne_blk RB1 (by decide)) (.int .i64 i)).beside (q := ⟨w.heap.size + 1, 1, none⟩) (Nat.le_succ _) hpr (P1.tab.ne_blk RB1 (by decide)) (P1.free.ne_blk RB1 (by decide)) (.int .i64 gn))
  have hE : (s.l.map (Pl.cells (fun (v : V3) => [Value.int .i64 v.a, Value.int .i64 v.b, Value.int .i64 v.c]))).set i (Pl.cells (fun (v : V3) => [Value.int .i64 v.a, Value.int .i64 v.b, Value.int .i64 v.c]) ⟨gn, true, v⟩) = (s.l.set i ⟨gn, true, v⟩).map (Pl.cells (fun (v : V3) => [Value.int .i64 v.a, Value.int .i64 v.b, Value.int .i64 v.c])) := by rw [List.map_set]
  have P3 := Eq.subst (motive := fun L => PP w _ _ _ _ _ _ _ _ _ _ _ _ L _) hE P2
  have PH := Lib.hid P3
  clear P1 P2 P3 RV1 RB1 hr1 hE
  have hfar : ∀ (W : World) (j k : Nat) (u : Value), (W.setCell ⟨g, k, none⟩ u).cell? ⟨w.heap.size, j, none⟩ = W.cell? ⟨w.heap.size, j, none⟩ := fun W j k u => cell_far (fun e => hgv (by simpa using e)) u
  go_region_held3 (fun wx => wx.cell? ⟨w.heap.size, 0, none⟩ = some (.int .i64 v.a) ∧ wx.cell? ⟨w.heap.size, 1, none⟩ = some (.int .i64 v.b) ∧ wx.cell? ⟨w.heap.size, 2, none⟩ = some (.int .i64 v.c)) (first | with_reducible exact ⟨cv0, cv1, cv2⟩ | (simp only [hfar, cell_drew1]; with_reducible exact ⟨cv0, cv1, cv2⟩)) (fail)
  clear hfar
  go_wp2_with fail
  have hgn := HGN.out
  clear HGN
  subst hgn
  exact bodyPost_ret (v := .tuple #[.agg #[.int .i64 i, .int .i64 (wrap64 (x.gen + 1))], .bool true]) (by simp [results, Try.results24, go_sem, r0, r1]) rfl (hR.out _ _ ⟨rfl, _, _, PP.done (s := s.retake i fs x v) (PH.out.drewN _) HW.out⟩)


end Go.Proofs.Ytognmhgdegpdiaa
