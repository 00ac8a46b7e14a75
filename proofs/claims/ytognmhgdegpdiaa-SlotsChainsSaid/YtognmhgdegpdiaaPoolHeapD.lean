/- The pool of Heap, more: what each method does to the places that it holds. -/
import Derived.Test.YtognmhgdegpdiaaPoolHeapC
import Derived.Test.YtognmhgdegpdiaaPoolAll
namespace Go.Proofs.Ytognmhgdegpdiaa
open Go.RowKit
set_option linter.unusedVariables false
set_option linter.unusedSimpArgs false
set_option maxRecDepth 100000
theorem pool_set_bad_heap (p : Nat) (lv fv : Value) (s : PSt V3) (a b : Int) (v : V3) (e0 : Int) (w : World) (h : PoolIs w 87 92 3 5 (fun (v : V3) => [Value.int .i64 v.a, Value.int .i64 v.b, Value.int .i64 v.c]) p lv fv s) (hl : s.look a b = e0) (he : e0 ≠ 0) :
    Calls Try.prog 49 #[.pointer (some ⟨p, 0, none⟩), .agg #[.int .i64 a, .int .i64 b], Value.agg #[.int .i64 v.a, .int .i64 v.b, .int .i64 v.c]] w fun e w' => e = .returned (.int .i64 e0) ∧ Below w.heap.size w w' := by
  have HH := Lib.hid ((h.alloc (.cells #[.int .i64 a, .int .i64 b] 27)).alloc (.cells #[.int .i64 v.a, .int .i64 v.b, .int .i64 v.c] 52)); clear h
  have HL := Lib.hid hl; clear hl
  have hb : (e0 == 0) = false := by simpa using he
  have HE := Lib.hid he; clear he
  refine callsR fun R hR => ?_
  go_enter Try.func49, Try.ntmps49
  go_wp2_with fail
  refine Calls.mono (find_bad_heap p lv fv s a b e0 _ HH.out HL.out HE.out) ?_
  rintro e w2 ⟨rfl, hb2⟩
  have B2 := Lib.hid hb2; clear hb2
  go_wp2_with fail
  exact hR.out _ _ ⟨rfl, (((Below.refl _ _).alloc (Nat.le_refl _) _).alloc (by simp) _).trans (B2.out.mono (by simp; omega))⟩

set_option maxHeartbeats 1000000 in
theorem pool_set_ok_heap (p : Nat) (lv fv : Value) (s : PSt V3) (i : Nat) (x : Pl V3) (v : V3) (w : World) (h : PoolIs w 87 92 3 5 (fun (v : V3) => [Value.int .i64 v.a, Value.int .i64 v.b, Value.int .i64 v.c]) p lv fv s)
    (hx : s.l[i]? = some x) (ht : x.taken = true) (hg1 : 1 ≤ x.gen) :
    Calls Try.prog 49 #[.pointer (some ⟨p, 0, none⟩), .agg #[.int .i64 i, .int .i64 x.gen], Value.agg #[.int .i64 v.a, .int .i64 v.b, .int .i64 v.c]] w fun e w' => e = .returned (.int .i64 0) ∧ PoolIs w' 87 92 3 5 (fun (v : V3) => [Value.int .i64 v.a, Value.int .i64 v.b, Value.int .i64 v.c]) p lv fv (s.setAt i x v) ∧ Chg (poolFp p lv fv) w w' := by
  have hwf := h.wf.setAt v hx
  obtain ⟨A, c, rfl, hc, hA⟩ := h.lform
  have hi : i < s.l.length := (List.getElem?_eq_some_iff.1 hx).1
  obtain ⟨g, rfl, hg⟩ := hA (by omega)
  have hL : (s.l.map (Pl.cells (fun (v : V3) => [Value.int .i64 v.a, Value.int .i64 v.b, Value.int .i64 v.c])))[i]? = some (Pl.cells (fun (v : V3) => [Value.int .i64 v.a, Value.int .i64 v.b, Value.int .i64 v.c]) x) := by rw [List.getElem?_map, hx]; rfl
  have hll : (s.l.map (Pl.cells (fun (v : V3) => [Value.int .i64 v.a, Value.int .i64 v.b, Value.int .i64 v.c]))).length = s.l.length := List.length_map _
  have P0 := PP.start h (by decide) (by decide) (by decide)
  have HH := Lib.hid ((h.alloc (.cells #[.int .i64 i, .int .i64 x.gen] 27)).alloc (.cells #[.int .i64 v.a, .int .i64 v.b, .int .i64 v.c] 52)); clear h
  have HX := Lib.hid hx; clear hx
  have HT := Lib.hid ht; clear ht
  have HW := Lib.hid hwf; clear hwf
  obtain ⟨xg, xt, xv⟩ := x
  simp only at hL hg1 ⊢
  refine callsR fun R hR => ?_
  go_enter Try.func49, Try.ntmps49
  go_wp2_with fail
  refine Calls.mono (find_ok_heap p g _ c fv s i ⟨xg, xt, xv⟩ _ HH.out HX.out HT.out hg1) ?_
  rintro e w2 ⟨rfl, hb2⟩
  have P2 := ((P0.alloc (.cells #[.int .i64 i, .int .i64 xg] 27)).alloc (.cells #[.int .i64 v.a, .int .i64 v.b, .int .i64 v.c] 52)).later hb2
  have rv := (Blk.new1 w (.cells #[.int .i64 i, .int .i64 xg] 27) 52 #[.int .i64 v.a, .int .i64 v.b, .int .i64 v.c]).chg (Chg.of_below hb2 []) (by simp)
  have hlt : i < (s.l.map (Pl.cells (fun (v : V3) => [Value.int .i64 v.a, Value.int .i64 v.b, Value.int .i64 v.c]))).length := by rw [hll]; exact hi
  have g2 : w2.cell? ⟨g, i * 5 + 2, none⟩ = some (.int .i64 xv.a) := P2.tab.cell (j := 2) hL rfl
  have fg2 : w2.frozen? ⟨g, i * 5 + 2, none⟩ = false := P2.tab.frozen _
  have cv0 : w2.cell? ⟨w.heap.size + 1, 0, none⟩ = some (.int .i64 v.a) := rv.cell 0
  have g3 : w2.cell? ⟨g, i * 5 + 3, none⟩ = some (.int .i64 xv.b) := P2.tab.cell (j := 3) hL rfl
  have fg3 : w2.frozen? ⟨g, i * 5 + 3, none⟩ = false := P2.tab.frozen _
  have cv1 : w2.cell? ⟨w.heap.size + 1, 1, none⟩ = some (.int .i64 v.b) := rv.cell 1
  have g4 : w2.cell? ⟨g, i * 5 + 4, none⟩ = some (.int .i64 xv.c) := P2.tab.cell (j := 4) hL rfl
  have fg4 : w2.frozen? ⟨g, i * 5 + 4, none⟩ = false := P2.tab.frozen _
  have cv2 : w2.cell? ⟨w.heap.size + 1, 2, none⟩ = some (.int .i64 v.c) := rv.cell 2
  have P3 := Eq.subst (motive := fun L => PP w _ _ _ _ _ _ _ _ _ _ _ _ L _) (row_set hL).symm P2
  have P3 := P3.put (j := 2) (.int .i64 v.a) hlt (by decide)
  have P3 := P3.put (j := 3) (.int .i64 v.b) hlt (by decide)
  have P3 := P3.put (j := 4) (.int .i64 v.c) hlt (by decide)
  have hE : (s.l.map (Pl.cells (fun (v : V3) => [Value.int .i64 v.a, Value.int .i64 v.b, Value.int .i64 v.c]))).set i (Pl.cells (fun (v : V3) => [Value.int .i64 v.a, Value.int .i64 v.b, Value.int .i64 v.c]) ⟨xg, xt, v⟩) = (s.setAt i ⟨xg, xt, xv⟩ v).l.map (Pl.cells (fun (v : V3) => [Value.int .i64 v.a, Value.int .i64 v.b, Value.int .i64 v.c])) := by
    simp only [PSt.setAt, List.map_set]
  have P4 := Eq.subst (motive := fun L => PP w _ _ _ _ _ _ _ _ _ _ _ _ L _) hE P3
  have PH := Lib.hid P4
  clear P0 P2 P3 P4 rv hb2 hL hE
  go_wp2_with fail
  have hd := PP.done (s := s.setAt i ⟨xg, xt, xv⟩ v) PH.out HW.out
  exact hR.out _ _ ⟨rfl, hd.1, hd.2.1⟩

end Go.Proofs.Ytognmhgdegpdiaa
