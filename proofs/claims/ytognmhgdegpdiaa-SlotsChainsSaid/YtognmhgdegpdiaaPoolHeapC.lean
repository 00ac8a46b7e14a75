/- The pool of Heap, more: what each method does to the places that it holds. -/
import Derived.Test.YtognmhgdegpdiaaPoolHeapB
namespace Go.Proofs.Ytognmhgdegpdiaa
open Go.RowKit
set_option linter.unusedVariables false
set_option linter.unusedSimpArgs false
set_option maxRecDepth 100000
theorem pool_give_bad_heap (p : Nat) (lv fv : Value) (s : PSt V3) (a b : Int) (e0 : Int) (w : World) (h : PoolIs w 87 92 3 5 (fun (v : V3) => [Value.int .i64 v.a, Value.int .i64 v.b, Value.int .i64 v.c]) p lv fv s) (hl : s.look a b = e0) (he : e0 ≠ 0) :
    Calls Try.prog 32 #[.pointer (some ⟨p, 0, none⟩), .agg #[.int .i64 a, .int .i64 b]] w fun e w' => e = .returned (.tuple #[Value.agg #[.int .i64 0, .int .i64 0, .int .i64 0], .int .i64 e0]) ∧ Below w.heap.size w w' := by
  have HH := Lib.hid (((h.alloc (.cells #[.int .i64 a, .int .i64 b] 27)).alloc (.cells #[.int .i64 0, .int .i64 0, .int .i64 0] 52)).alloc (.cells #[.int .i64 0, .int .i64 0, .int .i64 0] 52))
  have HL := Lib.hid hl; clear hl
  have hb : (e0 != 0) = true := by simpa using he
  have HE := Lib.hid he; clear he h
  refine callsR fun R hR => ?_
  go_enter Try.func32, Try.ntmps32
  go_wp2_with fail
  refine Calls.mono (find_bad_heap p lv fv s a b e0 _ HH.out HL.out HE.out) ?_
  rintro e w2 ⟨rfl, hb2⟩
  have rc := ((Blk.new1 w (.cells #[.int .i64 a, .int .i64 b] 27) 52 #[.int .i64 0, .int .i64 0, .int .i64 0]).alloc (.cells #[.int .i64 0, .int .i64 0, .int .i64 0] 52)).chg (Chg.of_below hb2 []) (by simp)
  have rn := (Blk.new1 (w.alloc (.cells #[.int .i64 a, .int .i64 b] 27)) (.cells #[.int .i64 0, .int .i64 0, .int .i64 0] 52) 52 #[.int .i64 0, .int .i64 0, .int .i64 0]).chg (Chg.of_below hb2 []) (by simp)
  rw [World.size_alloc] at rn
  have lc := rc.lt
  have c0 : w2.cell? ⟨w.heap.size + 1, 0, none⟩ = some (.int .i64 0) := rc.cell 0
  have f0 := rc.frozen 0
  have n0 : w2.cell? ⟨w.heap.size + 1 + 1, 0, none⟩ = some (.int .i64 0) := rn.cell 0
  have c1 : w2.cell? ⟨w.heap.size + 1, 1, none⟩ = some (.int .i64 0) := rc.cell 1
  have f1 := rc.frozen 1
  have n1 : w2.cell? ⟨w.heap.size + 1 + 1, 1, none⟩ = some (.int .i64 0) := rn.cell 1
  have c2 : w2.cell? ⟨w.heap.size + 1, 2, none⟩ = some (.int .i64 0) := rc.cell 2
  have f2 := rc.frozen 2
  have n2 : w2.cell? ⟨w.heap.size + 1 + 1, 2, none⟩ = some (.int .i64 0) := rn.cell 2
  have C := ((((Chg.refl [] w).alloc (.cells #[.int .i64 a, .int .i64 b] 27)).alloc (.cells #[.int .i64 0, .int .i64 0, .int .i64 0] 52)).alloc (.cells #[.int .i64 0, .int .i64 0, .int .i64 0] 52)).trans (Chg.of_below hb2 [])
  have C := C.setCell (p := ⟨w.heap.size + 1, 0, none⟩) (.inr (Nat.le_succ _)) (.int .i64 0)
  have C := C.setCell (p := ⟨w.heap.size + 1, 1, none⟩) (.inr (Nat.le_succ _)) (.int .i64 0)
  have C := C.setCell (p := ⟨w.heap.size + 1, 2, none⟩) (.inr (Nat.le_succ _)) (.int .i64 0)
  have CC := Lib.hid C; clear hb2 rc rn C
  go_wp2_with fail
  exact bodyPost_ret (v := .tuple #[Value.agg #[.int .i64 0, .int .i64 0, .int .i64 0], .int .i64 e0]) (by simp [results, Try.results32, go_sem, lc, c0, c1, c2]) rfl (hR.out _ _ ⟨rfl, CC.out.below (by simp) (Nat.le_refl _)⟩)

set_option maxHeartbeats 4000000 in
theorem pool_give_ok_heap (p : Nat) (lv fv : Value) (s : PSt V3) (i : Nat) (x : Pl V3) (w : World) (h : PoolIs w 87 92 3 5 (fun (v : V3) => [Value.int .i64 v.a, Value.int .i64 v.b, Value.int .i64 v.c]) p lv fv s)
    (hx : s.l[i]? = some x) (ht : x.taken = true) (hg1 : 1 ≤ x.gen) :
    Calls Try.prog 32 #[.pointer (some ⟨p, 0, none⟩), .agg #[.int .i64 i, .int .i64 x.gen]] w fun e w' => e = .returned (.tuple #[(let v := x.v; Value.agg #[.int .i64 v.a, .int .i64 v.b, .int .i64 v.c]), .int .i64 0]) ∧ ∃ fv', PoolIs w' 87 92 3 5 (fun (v : V3) => [Value.int .i64 v.a, Value.int .i64 v.b, Value.int .i64 v.c]) p lv fv' (s.giveAt i x (⟨0, 0, 0⟩)) ∧ Chg (poolFp p lv fv) w w' ∧ Fresh (poolFp p lv fv) (poolFp p lv fv') w := by
  have hp := h.blk.lt
  obtain ⟨A, c, rfl, hc, hA⟩ := h.lform
  obtain ⟨A2, c2, rfl, hc2, _⟩ := h.fform
  have hi : i < s.l.length := (List.getElem?_eq_some_iff.1 hx).1
  obtain ⟨g, rfl, hg⟩ := hA (by omega)
  have hm := h.wf.le
  have hm2 := h.wf.most
  have hm3 := h.wf.free_le
  have hwf := h.wf.giveAt (⟨0, 0, 0⟩) hx ht
  have hL : (s.l.map (Pl.cells (fun (v : V3) => [Value.int .i64 v.a, Value.int .i64 v.b, Value.int .i64 v.c])))[i]? = some (Pl.cells (fun (v : V3) => [Value.int .i64 v.a, Value.int .i64 v.b, Value.int .i64 v.c]) x) := by rw [List.getElem?_map, hx]; rfl
  have P0 := PP.start h (by decide) (by decide) (by decide)
  have HH := Lib.hid (((h.alloc (.cells #[.int .i64 i, .int .i64 x.gen] 27)).alloc (.cells #[.int .i64 0, .int .i64 0, .int .i64 0] 52)).alloc (.cells #[.int .i64 0, .int .i64 0, .int .i64 0] 52)); clear h
  have HX := Lib.hid hx; clear hx
  have HT := Lib.hid ht; clear ht
  have HW := Lib.hid hwf; clear hwf
  have hll : (s.l.map (Pl.cells (fun (v : V3) => [Value.int .i64 v.a, Value.int .i64 v.b, Value.int .i64 v.c]))).length = s.l.length := List.length_map _
  have hfl : (s.free.map fun (i : Nat) => [Value.int .i64 (i : Int)]).length = s.free.length := List.length_map _
  obtain ⟨xg, xt, xv⟩ := x
  simp only at hL hg1 ⊢
  refine callsR fun R hR => ?_
  go_enter Try.func32, Try.ntmps32
  go_wp2_with fail
  refine Calls.mono (find_ok_heap p g _ c _ s i ⟨xg, xt, xv⟩ _ HH.out HX.out HT.out hg1) ?_
  rintro e w2 ⟨rfl, hb2⟩
  have P2 := (((P0.alloc (.cells #[.int .i64 i, .int .i64 xg] 27)).alloc (.cells #[.int .i64 0, .int .i64 0, .int .i64 0] 52)).alloc (.cells #[.int .i64 0, .int .i64 0, .int .i64 0] 52)).later hb2
  have rr := (((Blk.new w 27 #[.int .i64 i, .int .i64 xg]).alloc (.cells #[.int .i64 0, .int .i64 0, .int .i64 0] 52)).alloc (.cells #[.int .i64 0, .int .i64 0, .int .i64 0] 52)).chg (Chg.of_below hb2 []) (by simp)
  have rc := ((Blk.new1 w (.cells #[.int .i64 i, .int .i64 xg] 27) 52 #[.int .i64 0, .int .i64 0, .int .i64 0]).alloc (.cells #[.int .i64 0, .int .i64 0, .int .i64 0] 52)).chg (Chg.of_below hb2 []) (by simp)
  have rn := (Blk.new1 (w.alloc (.cells #[.int .i64 i, .int .i64 xg] 27)) (.cells #[.int .i64 0, .int .i64 0, .int .i64 0] 52) 52 #[.int .i64 0, .int .i64 0, .int .i64 0]).chg (Chg.of_below hb2 []) (by simp)
  rw [World.size_alloc] at rn
  have lc := rc.lt
  have ln := rn.lt
  have hp2 := P2.blk.lt
  have d2 := P2.blk.cell 2
  simp only [List.getElem?_toArray, List.getElem?_cons_zero, List.getElem?_cons_succ] at d2
  have hgp : g ≠ p := fun e => P2.tab.ne_blk P2.blk P2.t1.symm (by simp [Value.ownBlock, e])
  have hgr : g ≠ w.heap.size := fun e => P2.tab.ne_blk rr (by decide) (by simp [Value.ownBlock, e])
  have hgc : g ≠ w.heap.size + 1 := fun e => P2.tab.ne_blk rc (by decide) (by simp [Value.ownBlock, e])
  have hgn : g ≠ w.heap.size + 1 + 1 := fun e => P2.tab.ne_blk rn (by decide) (by simp [Value.ownBlock, e])
  have hgp2 := hgp.symm
  have hgr2 := hgr.symm
  have hgc2 := hgc.symm
  have hgn2 := hgn.symm
  have r0 : w2.cell? ⟨w.heap.size, 0, none⟩ = some (.int .i64 i) := rr.cell 0
  have g1 : w2.cell? ⟨g, i * 5 + 1, none⟩ = some (.bool xt) := P2.tab.cell (j := 1) hL rfl
  have fg1 : w2.frozen? ⟨g, i * 5 + 1, none⟩ = false := P2.tab.frozen _
  have g2 : w2.cell? ⟨g, i * 5 + 2, none⟩ = some (.int .i64 xv.a) := P2.tab.cell (j := 2) hL rfl
  have fg2 : w2.frozen? ⟨g, i * 5 + 2, none⟩ = false := P2.tab.frozen _
  have c0 : w2.cell? ⟨w.heap.size + 1, 0, none⟩ = some (.int .i64 0) := rc.cell 0
  have f0 := rc.frozen 0
  have n0 : w2.cell? ⟨w.heap.size + 1 + 1, 0, none⟩ = some (.int .i64 0) := rn.cell 0
  have g3 : w2.cell? ⟨g, i * 5 + 3, none⟩ = some (.int .i64 xv.b) := P2.tab.cell (j := 3) hL rfl
  have fg3 : w2.frozen? ⟨g, i * 5 + 3, none⟩ = false := P2.tab.frozen _
  have c1 : w2.cell? ⟨w.heap.size + 1, 1, none⟩ = some (.int .i64 0) := rc.cell 1
  have f1 := rc.frozen 1
  have n1 : w2.cell? ⟨w.heap.size + 1 + 1, 1, none⟩ = some (.int .i64 0) := rn.cell 1
  have g4 : w2.cell? ⟨g, i * 5 + 4, none⟩ = some (.int .i64 xv.c) := P2.tab.cell (j := 4) hL rfl
  have fg4 : w2.frozen? ⟨g, i * 5 + 4, none⟩ = false := P2.tab.frozen _
  have c2 : w2.cell? ⟨w.heap.size + 1, 2, none⟩ = some (.int .i64 0) := rc.cell 2
  have f2 := rc.frozen 2
  have n2 : w2.cell? ⟨w.heap.size + 1 + 1, 2, none⟩ = some (.int .i64 0) := rn.cell 2
  have PH := Lib.hid P2
  have RR := Lib.hid rr
  have RC := Lib.hid rc
  have RN := Lib.hid rn
  have HL := Lib.hid hL
  clear P0 P2 rr rc rn hb2 hL
  go_wp2_with fail
  have P3 := PH.out.alloc (.cells #[.int .i64 xv.a, .int .i64 xv.b, .int .i64 xv.c] 52)
  have rr := RR.out.alloc (.cells #[.int .i64 xv.a, .int .i64 xv.b, .int .i64 xv.c] 52)
  have rc := RC.out.alloc (.cells #[.int .i64 xv.a, .int .i64 xv.b, .int .i64 xv.c] 52)
  have rn := RN.out.alloc (.cells #[.int .i64 xv.a, .int .i64 xv.b, .int .i64 xv.c] 52)
  have rx := Blk.new w2 52 #[.int .i64 xv.a, .int .i64 xv.b, .int .i64 xv.c]
  have hws : w.heap.size ≤ w2.heap.size := by omega
  clear PH RR RC RN r0 g1 fg1 g2 g3 g4 fg2 fg3 fg4 n0 n1 n2 c0 c1 c2 f0 f1 f2 d2 hp2
  generalize w2.alloc (.cells #[.int .i64 xv.a, .int .i64 xv.b, .int .i64 xv.c] 52) = wy at P3 rr rc rn rx ⊢
  generalize w2.heap.size = bx at rx lc ln hws ⊢
  have hgx : g ≠ bx := fun e => P3.tab.ne_blk rx (by decide) (by simp [Value.ownBlock, e])
  have hpx : p ≠ bx := by omega
  have hx1 : bx ≠ w.heap.size + 1 := by omega
  have g1 : wy.cell? ⟨g, i * 5 + 1, none⟩ = some (.bool xt) := P3.tab.cell (j := 1) HL.out rfl
  have fg1 : wy.frozen? ⟨g, i * 5 + 1, none⟩ = false := P3.tab.frozen _
  have g2 : wy.cell? ⟨g, i * 5 + 2, none⟩ = some (.int .i64 xv.a) := P3.tab.cell (j := 2) HL.out rfl
  have fg2 : wy.frozen? ⟨g, i * 5 + 2, none⟩ = false := P3.tab.frozen _
  have n0 : wy.cell? ⟨w.heap.size + 1 + 1, 0, none⟩ = some (.int .i64 0) := rn.cell 0
  have g3 : wy.cell? ⟨g, i * 5 + 3, none⟩ = some (.int .i64 xv.b) := P3.tab.cell (j := 3) HL.out rfl
  have fg3 : wy.frozen? ⟨g, i * 5 + 3, none⟩ = false := P3.tab.frozen _
  have n1 : wy.cell? ⟨w.heap.size + 1 + 1, 1, none⟩ = some (.int .i64 0) := rn.cell 1
  have g4 : wy.cell? ⟨g, i * 5 + 4, none⟩ = some (.int .i64 xv.c) := P3.tab.cell (j := 4) HL.out rfl
  have fg4 : wy.frozen? ⟨g, i * 5 + 4, none⟩ = false := P3.tab.frozen _
  have n2 : wy.cell? ⟨w.heap.size + 1 + 1, 2, none⟩ = some (.int .i64 0) := rn.cell 2
  have hlt : i < (s.l.map (Pl.cells (fun (v : V3) => [Value.int .i64 v.a, Value.int .i64 v.b, Value.int .i64 v.c]))).length := by rw [hll]; exact hi
  have P4 := P3.setTab (j := 1) (.bool false) HL.out (by decide)
  have P4 := P4.put (j := 2) (.int .i64 0) hlt (by decide)
  have P4 := P4.put (j := 3) (.int .i64 0) hlt (by decide)
  have P4 := P4.put (j := 4) (.int .i64 0) hlt (by decide)
  have P4 := P4.drewN 1
  have hE : (s.l.map (Pl.cells (fun (v : V3) => [Value.int .i64 v.a, Value.int .i64 v.b, Value.int .i64 v.c]))).set i (Pl.cells (fun (v : V3) => [Value.int .i64 v.a, Value.int .i64 v.b, Value.int .i64 v.c]) ⟨xg, false, ⟨0, 0, 0⟩⟩) = (s.giveAt i ⟨xg, xt, xv⟩ (⟨0, 0, 0⟩)).l.map (Pl.cells (fun (v : V3) => [Value.int .i64 v.a, Value.int .i64 v.b, Value.int .i64 v.c])) := by
    simp only [PSt.giveAt, List.map_set]
  have P5 := Eq.subst (motive := fun L => PP w _ _ _ _ _ _ _ _ _ _ _ _ L _) hE P4
  have PH := Lib.hid P5
  have RR := Lib.hid rr
  have RC := Lib.hid rc
  have RX := Lib.hid rx
  clear P3 P4 P5 rr rc rn rx hE
  have hfar : ∀ (W : World) (j k : Nat) (u : Value), (W.setCell ⟨g, k, none⟩ u).cell? ⟨w.heap.size + 1 + 1, j, none⟩ = W.cell? ⟨w.heap.size + 1 + 1, j, none⟩ := fun W j k u => cell_far (fun e => hgn (by simpa using e)) u
  go_region_held3 (fun wx => wx.cell? ⟨w.heap.size + 1 + 1, 0, none⟩ = some (.int .i64 0) ∧ wx.cell? ⟨w.heap.size + 1 + 1, 1, none⟩ = some (.int .i64 0) ∧ wx.cell? ⟨w.heap.size + 1 + 1, 2, none⟩ = some (.int .i64 0)) (first | with_reducible exact ⟨n0, n1, n2⟩ | (simp only [hfar, cell_drew1]; with_reducible exact ⟨n0, n1, n2⟩)) (fail)
  clear hfar
  go_wp2_with fail
  have RR0 := RR.out.far (p := ⟨g, i * 5 + 1, none⟩) hgr2 (.bool false)
  have RR0 := RR0.far (p := ⟨g, i * 5 + 2, none⟩) hgr2 (.int .i64 0)
  have RR0 := RR0.far (p := ⟨g, i * 5 + 3, none⟩) hgr2 (.int .i64 0)
  have RR0 := RR0.far (p := ⟨g, i * 5 + 4, none⟩) hgr2 (.int .i64 0)
  have RR := Lib.hid (RR0.drewN 1)
  clear RR0
  have RC0 := RC.out.far (p := ⟨g, i * 5 + 1, none⟩) hgc2 (.bool false)
  have RC0 := RC0.far (p := ⟨g, i * 5 + 2, none⟩) hgc2 (.int .i64 0)
  have RC0 := RC0.far (p := ⟨g, i * 5 + 3, none⟩) hgc2 (.int .i64 0)
  have RC0 := RC0.far (p := ⟨g, i * 5 + 4, none⟩) hgc2 (.int .i64 0)
  have RC := Lib.hid (RC0.drewN 1)
  clear RC0
  have RX0 := RX.out.far (p := ⟨g, i * 5 + 1, none⟩) hgx.symm (.bool false)
  have RX0 := RX0.far (p := ⟨g, i * 5 + 2, none⟩) hgx.symm (.int .i64 0)
  have RX0 := RX0.far (p := ⟨g, i * 5 + 3, none⟩) hgx.symm (.int .i64 0)
  have RX0 := RX0.far (p := ⟨g, i * 5 + 4, none⟩) hgx.symm (.int .i64 0)
  have RX := Lib.hid (RX0.drewN 1)
  clear RX0
  clear g1 fg1 g2 g3 g4 fg2 fg3 fg4 n0 n1 n2
  refine letW (G := fun W => Code.wp _ _ _ _ W) (P := fun W => PP w W 87 92 3 5 p s.most (poolFp p (.slice (some ⟨g, 0, none⟩) s.l.length c) (.slice A2 s.free.length c2)) (.slice (some ⟨g, 0, none⟩) s.l.length c) (.slice A2 s.free.length c2) (.slice (some ⟨g, 0, none⟩) s.l.length c) (.slice A2 s.free.length c2) ((s.giveAt i ⟨xg, xt, xv⟩ (⟨0, 0, 0⟩)).l.map (Pl.cells (fun (v : V3) => [Value.int .i64 v.a, Value.int .i64 v.b, Value.int .i64 v.c]))) (s.free.map fun (i : Nat) => [Value.int .i64 (i : Int)]) ∧ Blk W w.heap.size 27 #[.int .i64 i, .int .i64 xg] ∧ Blk W (w.heap.size + 1) 52 #[.int .i64 0, .int .i64 0, .int .i64 0] ∧ Blk W bx 52 #[.int .i64 xv.a, .int .i64 xv.b, .int .i64 xv.c]) ⟨PH.out, RR.out, RC.out, RX.out⟩ fun wz hz => ?_
  clear PH RR RC RX
  obtain ⟨P6, rr, rc, rx⟩ := hz
  have hp2 := P6.blk.lt
  have lr := rr.lt
  have d2 := P6.blk.cell 2
  simp only [List.getElem?_toArray, List.getElem?_cons_zero, List.getElem?_cons_succ] at d2
  have r0 : wz.cell? ⟨w.heap.size, 0, none⟩ = some (.int .i64 i) := rr.cell 0
  have hE2 : (s.free.map fun (i : Nat) => [Value.int .i64 (i : Int)]) ++ [#[Value.int .i64 (i : Int)].toList] = (s.giveAt i ⟨xg, xt, xv⟩ (⟨0, 0, 0⟩)).free.map fun (i : Nat) => [Value.int .i64 (i : Int)] := by
    simp only [PSt.giveAt, List.map_append]
    rfl
  have PH := Lib.hid P6
  have RC := Lib.hid rc
  have RX := Lib.hid rx
  clear P6 rr rc rx
  go_region_law (refine step_push_drew (o := ⟨some 39, _, _, _, _, _⟩) (by rfl) (.tmp 35) (.tmp 38) 22 (by rfl) 0 3 _ 1 8 Try.underlying22 info_int_ (by rfl) (by decide) (.slice A2 s.free.length c2) _ #[.int .i64 i] (by rfl) (by exact PH.out.free) (by rfl) (by rfl) (by simp [Value.oneCell']) (by omega) (by decide) (Nat.zero_le _) ?_; intro v' w' q1 q2 q3; have q4 := (PH.out.drewN 1).pushF q1 q2 q3; have b5 := q4.blk.cell 2; have f5 := q4.blk.frozen 2; rw [hE2] at q4; have rc := (RC.out.drewN 1).chg q2 (fun hm => PH.out.free.ne_blk RC.out (by decide) (by simpa using hm)); have rx := (RX.out.drewN 1).chg q2 (fun hm => PH.out.free.ne_blk RX.out (by decide) (by simpa using hm)); have Q4 := Lib.hid q4.setF; have NT := q4.tab.ne_blk rc (by decide); have NF := q4.free.ne_blk rc (by decide); obtain ⟨_, _, hv, _, _⟩ := q1.form; simp only [List.length_append, List.length_map, List.length_singleton] at hv; subst hv; clear q1 q2 q3 q4)
  all_goals
    have hpc : p ≠ w.heap.size + 1 := by omega
    have hpc2 := hpc.symm
    have hpx2 := hpx.symm
    have x0 : w'.cell? ⟨bx, 0, none⟩ = some (.int .i64 xv.a) := rx.cell 0
    have c0 : w'.cell? ⟨w.heap.size + 1, 0, none⟩ = some (.int .i64 0) := rc.cell 0
    have f0 := rc.frozen 0
    have x1 : w'.cell? ⟨bx, 1, none⟩ = some (.int .i64 xv.b) := rx.cell 1
    have c1 : w'.cell? ⟨w.heap.size + 1, 1, none⟩ = some (.int .i64 0) := rc.cell 1
    have f1 := rc.frozen 1
    have x2 : w'.cell? ⟨bx, 2, none⟩ = some (.int .i64 xv.c) := rx.cell 2
    have c2 : w'.cell? ⟨w.heap.size + 1, 2, none⟩ = some (.int .i64 0) := rc.cell 2
    have f2 := rc.frozen 2
    go_wp2_with fail
    have Q5 := Q4.out
    have Q5 := Q5.beside (q := ⟨w.heap.size + 1, 0, none⟩) (Nat.le_succ _) hpc NT NF (.int .i64 xv.a)
    have Q5 := Q5.beside (q := ⟨w.heap.size + 1, 1, none⟩) (Nat.le_succ _) hpc NT NF (.int .i64 xv.b)
    have Q5 := Q5.beside (q := ⟨w.heap.size + 1, 2, none⟩) (Nat.le_succ _) hpc NT NF (.int .i64 xv.c)
    exact bodyPost_ret (v := .tuple #[(let v := xv; Value.agg #[.int .i64 v.a, .int .i64 v.b, .int .i64 v.c]), .int .i64 0]) (by simp [results, Try.results32, go_sem, lc, c0, c1, c2]) rfl (hR.out _ _ ⟨rfl, _, Q5.done HW.out⟩)

end Go.Proofs.Ytognmhgdegpdiaa
