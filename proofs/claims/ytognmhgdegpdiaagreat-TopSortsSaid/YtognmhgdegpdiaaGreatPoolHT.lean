import Derived.Test.YtognmhgdegpdiaaGreatPoolACV
import Derived.Test.YtognmhgdegpdiaaGreatPoolAll
section
/- The pool of Heap: what each method does to the places that it holds. -/
namespace Go.Proofs.YtognmhgdegpdiaaGreat
open Go.RowKit
set_option linter.unusedVariables false
set_option linter.unusedSimpArgs false
set_option maxRecDepth 100000
set_option maxHeartbeats 2000000 in
/-- No such place, or its life is over. -/
theorem find_bad_heap (p : Nat) (lv fv : Value) (s : PSt V3) (a b : Int) (e0 : Int) (w : World) (h : PoolIs w 142 144 3 5 (fun (v : V3) => [Value.int .i64 v.a, Value.int .i64 v.b, Value.int .i64 v.c]) p lv fv s) (hl : s.look a b = e0) (he : e0 ≠ 0) :
    Calls Tryz.prog 128 #[.pointer (some ⟨p, 0, none⟩), .agg #[.int .i64 a, .int .i64 b]] w fun e w' => e = .returned (.tuple #[.pointer none, .int .i64 e0]) ∧ Below w.heap.size w w' := by
  have hp := h.blk.lt
  obtain ⟨A, c, rfl, hc, hA⟩ := h.lform
  have c1 := h.blk.cell 1
  simp only [List.getElem?_toArray, List.getElem?_cons_zero, List.getElem?_cons_succ] at c1
  have hm := h.wf.le
  have hm2 := h.wf.most
  have HH := Lib.hid h; clear h
  have HL := Lib.hid hl; clear hl
  have HE := Lib.hid he; clear he
  by_cases h1 : a < 0
  · have hd1 : decide (a < 0) = true := by simpa using h1
    have E : e0 = 22 := by rw [← HL.out]; unfold PSt.look; rw [if_pos (.inl h1)]
    subst E
    refine callsR fun R hR => ?_
    go_enter Tryz.func128, Tryz.ntmps128
    go_wp2_with fail
    go_quiet (fail)
    go_wp2_with fail
    exact hR.out _ _ ⟨rfl, below_drewN ((Below.refl _ _).alloc (Nat.le_refl _) _) _⟩
  · have hd1 : decide (a < 0) = false := by simpa using h1
    by_cases h2 : (s.l.length : Int) ≤ a
    · have hd2 : decide ((s.l.length : Int) ≤ a) = true := by simpa using h2
      have E : e0 = 22 := by rw [← HL.out]; unfold PSt.look; rw [if_pos (.inr (.inl h2))]
      subst E
      refine callsR fun R hR => ?_
      go_enter Tryz.func128, Tryz.ntmps128
      go_wp2_with fail
      go_quiet (fail)
      go_wp2_with fail
      exact hR.out _ _ ⟨rfl, below_drewN ((Below.refl _ _).alloc (Nat.le_refl _) _) _⟩
    · have hd2 : decide ((s.l.length : Int) ≤ a) = false := by simp; omega
      by_cases h3 : b < 1
      · have hd3 : decide (b < 1) = true := by simpa using h3
        have E : e0 = 22 := by rw [← HL.out]; unfold PSt.look; rw [if_pos (.inr (.inr h3))]
        subst E
        refine callsR fun R hR => ?_
        go_enter Tryz.func128, Tryz.ntmps128
        go_wp2_with fail
        go_quiet (fail)
        go_wp2_with fail
        exact hR.out _ _ ⟨rfl, below_drewN ((Below.refl _ _).alloc (Nat.le_refl _) _) _⟩
      · have hd3 : decide (b < 1) = false := by simp; omega
        obtain ⟨i, rfl⟩ : ∃ i : Nat, a = (i : Int) := ⟨a.toNat, by omega⟩
        have hi : i < s.l.length := by omega
        obtain ⟨g, rfl, hg⟩ := hA (by omega)
        obtain ⟨x, hx⟩ : ∃ x, s.l[i]? = some x := ⟨_, List.getElem?_eq_getElem hi⟩
        have hL : s.look i b = if x.gen < b then 22 else if b < x.gen ∨ x.taken = false then 23 else 0 := by
          unfold PSt.look
          rw [if_neg (by omega), Int.toNat_natCast, hx]
        rw [HL.out] at hL
        clear HL
        have tb := HH.out.tab
        have g0 : w.cell? ⟨g, i * 5, none⟩ = some (.int .i64 x.gen) := tb.cell (i := i) (j := 0) (r := Pl.cells (fun (v : V3) => [Value.int .i64 v.a, Value.int .i64 v.b, Value.int .i64 v.c]) x) (by rw [List.getElem?_map, hx]; rfl) rfl
        have g1 : w.cell? ⟨g, i * 5 + 1, none⟩ = some (.bool x.taken) := tb.cell (i := i) (j := 1) (r := Pl.cells (fun (v : V3) => [Value.int .i64 v.a, Value.int .i64 v.b, Value.int .i64 v.c]) x) (by rw [List.getElem?_map, hx]; rfl) rfl
        clear tb
        have HX := Lib.hid hx; clear hx
        obtain ⟨xg, xt, xv⟩ := x
        simp only at g0 g1 hL
        by_cases h4 : xg < b
        · have hd4 : decide (xg < b) = true := by simpa using h4
          rw [if_pos h4] at hL
          subst hL
          refine callsR fun R hR => ?_
          go_enter Tryz.func128, Tryz.ntmps128
          go_wp2_with fail
          go_quiet (fail)
          go_wp2_with fail
          exact hR.out _ _ ⟨rfl, below_drewN ((Below.refl _ _).alloc (Nat.le_refl _) _) _⟩
        · have hd4 : decide (xg < b) = false := by simp; omega
          rw [if_neg h4] at hL
          by_cases h5 : b < xg
          · have hd5 : decide (b < xg) = true := by simpa using h5
            rw [if_pos (.inl h5)] at hL
            subst hL
            refine callsR fun R hR => ?_
            go_enter Tryz.func128, Tryz.ntmps128
            go_wp2_with fail
            go_quiet (fail)
            go_wp2_with fail
            go_quiet (fail)
            go_wp2_with fail
            go_quiet (fail)
            go_wp2_with fail
            exact hR.out _ _ ⟨rfl, below_drewN (below_drewN (below_drewN ((Below.refl _ _).alloc (Nat.le_refl _) _) _) _) _⟩
          · have hd5 : decide (b < xg) = false := by simp; omega
            cases xt with
            | true => exact absurd (by rw [hL, if_neg (by simp [h5])]) HE.out
            | false =>
              rw [if_pos (.inr rfl)] at hL
              subst hL
              refine callsR fun R hR => ?_
              go_enter Tryz.func128, Tryz.ntmps128
              go_wp2_with fail
              go_quiet (fail)
              go_wp2_with fail
              go_quiet (fail)
              go_wp2_with fail
              go_quiet (fail)
              go_wp2_with fail
              exact hR.out _ _ ⟨rfl, below_drewN (below_drewN (below_drewN ((Below.refl _ _).alloc (Nat.le_refl _) _) _) _) _⟩
theorem find_ok_heap (p g n c : Nat) (fv : Value) (s : PSt V3) (i : Nat) (x : Pl V3) (w : World) (h : PoolIs w 142 144 3 5 (fun (v : V3) => [Value.int .i64 v.a, Value.int .i64 v.b, Value.int .i64 v.c]) p (.slice (some ⟨g, 0, none⟩) n c) fv s)
    (hx : s.l[i]? = some x) (ht : x.taken = true) (hg1 : 1 ≤ x.gen) :
    Calls Tryz.prog 128 #[.pointer (some ⟨p, 0, none⟩), .agg #[.int .i64 i, .int .i64 x.gen]] w fun e w' => e = .returned (.tuple #[.pointer (some ⟨g, i * 5, none⟩), .int .i64 0]) ∧ Below w.heap.size w w' := by
  have hp := h.blk.lt
  have hi : i < s.l.length := (List.getElem?_eq_some_iff.1 hx).1
  obtain ⟨A, c', hv, hc, hA⟩ := h.lform
  injection hv with e1 e2 e3
  subst e2 e3
  obtain ⟨g', hA', hg⟩ := hA (by omega)
  rw [← e1] at hA'
  injection hA' with hA'
  injection hA' with hA'
  subst hA'
  clear e1 hA
  have c1 := h.blk.cell 1
  simp only [List.getElem?_toArray, List.getElem?_cons_zero, List.getElem?_cons_succ] at c1
  have hm := h.wf.le
  have hm2 := h.wf.most
  have tb := h.tab
  have g0 : w.cell? ⟨g, i * 5, none⟩ = some (.int .i64 x.gen) := tb.cell (i := i) (j := 0) (r := Pl.cells (fun (v : V3) => [Value.int .i64 v.a, Value.int .i64 v.b, Value.int .i64 v.c]) x) (by rw [List.getElem?_map, hx]; rfl) rfl
  have g1 : w.cell? ⟨g, i * 5 + 1, none⟩ = some (.bool x.taken) := tb.cell (i := i) (j := 1) (r := Pl.cells (fun (v : V3) => [Value.int .i64 v.a, Value.int .i64 v.b, Value.int .i64 v.c]) x) (by rw [List.getElem?_map, hx]; rfl) rfl
  rw [ht] at g1
  clear tb hx ht
  have HH := Lib.hid h; clear h
  obtain ⟨xg, xt, xv⟩ := x
  simp only at g0 g1 hg1
  have hd1 : decide ((i : Int) < 0) = false := by simp
  have hd2 : decide ((s.l.length : Int) ≤ i) = false := by simp; omega
  have hd3 : decide (xg < 1) = false := by simp; omega
  have hd4 : decide (xg < xg) = false := by simp
  refine callsR fun R hR => ?_
  go_enter Tryz.func128, Tryz.ntmps128
  go_wp2_with fail
  go_quiet (fail)
  go_wp2_with fail
  go_quiet (fail)
  go_wp2_with fail
  go_quiet (fail)
  go_wp2_with fail
  exact hR.out _ _ ⟨rfl, below_drewN (below_drewN (below_drewN ((Below.refl _ _).alloc (Nat.le_refl _) _) _) _) _⟩
theorem info_place_heap : (Tryz.prog.info? 144).map (fun i => (i.zero, i.size, i.bytes)) = some (some (.agg #[.int .i64 0, .bool false, .int .i64 0, .int .i64 0, .int .i64 0]), 5, 40) := by kernel_rfl
theorem pool_new_heap (places : Int) (n : Nat) (w : World) (hn : (n : Int) = max 0 (min places 65536)) :
    Calls Tryz.prog 86 #[.int .i64 places] w fun e w' => ∃ p, e = .returned (.pointer (some ⟨p, 0, none⟩)) ∧ PoolIs w' 142 144 3 5 (fun (v : V3) => [Value.int .i64 v.a, Value.int .i64 v.b, Value.int .i64 v.c]) p (.slice none 0 0) (.slice none 0 0) ⟨n, [], []⟩ ∧ w.heap.size ≤ p ∧ Below w.heap.size w w' := by
  have h2 : n ≤ 65536 := by omega
  have HN := Lib.hid hn; clear hn
  refine callsR fun R hR => ?_
  go_enter Tryz.func86, Tryz.ntmps86
  go_wp2_with fail
  refine hR.out _ _ ⟨w.heap.size, rfl, ⟨?_, TabIs.nil _ _ _ _, TabIs.nil _ _ _ _, PSt.WF.empty n h2⟩, Nat.le_refl _, (Below.refl _ _).alloc (Nat.le_refl _) _⟩
  have h := Blk.new w 142 #[.int .i64 (n : Int), .slice none 0 0, .slice none 0 0]
  rw [HN.out] at h
  show Blk _ _ _ #[.int .i64 (n : Int), _, _]
  rw [HN.out]
  exact h
end Go.Proofs.YtognmhgdegpdiaaGreat
end
section
/- The pool of Heap, more: what each method does to the places that it holds. -/
namespace Go.Proofs.YtognmhgdegpdiaaGreat
open Go.RowKit
set_option linter.unusedVariables false
set_option linter.unusedSimpArgs false
set_option maxRecDepth 100000
theorem pool_get_bad_heap (p : Nat) (lv fv : Value) (s : PSt V3) (a b : Int) (e0 : Int) (w : World) (h : PoolIs w 142 144 3 5 (fun (v : V3) => [Value.int .i64 v.a, Value.int .i64 v.b, Value.int .i64 v.c]) p lv fv s) (hl : s.look a b = e0) (he : e0 ≠ 0) :
    Calls Tryz.prog 73 #[.pointer (some ⟨p, 0, none⟩), .agg #[.int .i64 a, .int .i64 b]] w fun e w' => e = .returned (.tuple #[Value.agg #[.int .i64 0, .int .i64 0, .int .i64 0], .int .i64 e0]) ∧ Below w.heap.size w w' := by
  have HH := Lib.hid ((h.alloc (.cells #[.int .i64 a, .int .i64 b] 34)).alloc (.cells #[.int .i64 0, .int .i64 0, .int .i64 0] 108))
  have HL := Lib.hid hl; clear hl
  have hb : (e0 != 0) = true := by simpa using he
  have HE := Lib.hid he; clear he h
  refine callsR fun R hR => ?_
  go_enter Tryz.func73, Tryz.ntmps73
  go_wp2_with fail
  refine Calls.mono (find_bad_heap p lv fv s a b e0 _ HH.out HL.out HE.out) ?_
  rintro e w2 ⟨rfl, hb2⟩
  have rc := (Blk.new1 w (.cells #[.int .i64 a, .int .i64 b] 34) 108 #[.int .i64 0, .int .i64 0, .int .i64 0]).chg (Chg.of_below hb2 []) (by simp)
  have lc := rc.lt
  have c0 : w2.cell? ⟨w.heap.size + 1, 0, none⟩ = some (.int .i64 0) := rc.cell 0
  have f0 := rc.frozen 0
  have c1 : w2.cell? ⟨w.heap.size + 1, 1, none⟩ = some (.int .i64 0) := rc.cell 1
  have f1 := rc.frozen 1
  have c2 : w2.cell? ⟨w.heap.size + 1, 2, none⟩ = some (.int .i64 0) := rc.cell 2
  have f2 := rc.frozen 2
  have C := (((Chg.refl [] w).alloc (.cells #[.int .i64 a, .int .i64 b] 34)).alloc (.cells #[.int .i64 0, .int .i64 0, .int .i64 0] 108)).trans (Chg.of_below hb2 [])
  have C := C.setCell (p := ⟨w.heap.size + 1, 0, none⟩) (.inr (Nat.le_succ _)) (.int .i64 0)
  have C := C.setCell (p := ⟨w.heap.size + 1, 1, none⟩) (.inr (Nat.le_succ _)) (.int .i64 0)
  have C := C.setCell (p := ⟨w.heap.size + 1, 2, none⟩) (.inr (Nat.le_succ _)) (.int .i64 0)
  have CC := Lib.hid (C.alloc (.cells #[.int .i64 0, .int .i64 0, .int .i64 0] 108)); clear hb2 rc C
  go_wp2_with fail
  exact bodyPost_ret (v := .tuple #[Value.agg #[.int .i64 0, .int .i64 0, .int .i64 0], .int .i64 e0]) (by simp [results, Tryz.results73, go_sem, lc, c0, c1, c2]) rfl (hR.out _ _ ⟨rfl, CC.out.below (by simp) (Nat.le_refl _)⟩)
theorem pool_get_ok_heap (p : Nat) (lv fv : Value) (s : PSt V3) (i : Nat) (x : Pl V3) (w : World) (h : PoolIs w 142 144 3 5 (fun (v : V3) => [Value.int .i64 v.a, Value.int .i64 v.b, Value.int .i64 v.c]) p lv fv s)
    (hx : s.l[i]? = some x) (ht : x.taken = true) (hg1 : 1 ≤ x.gen) :
    Calls Tryz.prog 73 #[.pointer (some ⟨p, 0, none⟩), .agg #[.int .i64 i, .int .i64 x.gen]] w fun e w' => e = .returned (.tuple #[(let v := x.v; Value.agg #[.int .i64 v.a, .int .i64 v.b, .int .i64 v.c]), .int .i64 0]) ∧ Below w.heap.size w w' := by
  obtain ⟨A, c, rfl, hc, hA⟩ := h.lform
  obtain ⟨g, rfl, hg⟩ := hA (by have := (List.getElem?_eq_some_iff.1 hx).1; omega)
  have hL : (s.l.map (Pl.cells (fun (v : V3) => [Value.int .i64 v.a, Value.int .i64 v.b, Value.int .i64 v.c])))[i]? = some (Pl.cells (fun (v : V3) => [Value.int .i64 v.a, Value.int .i64 v.b, Value.int .i64 v.c]) x) := by rw [List.getElem?_map, hx]; rfl
  have HH := Lib.hid ((h.alloc (.cells #[.int .i64 i, .int .i64 x.gen] 34)).alloc (.cells #[.int .i64 0, .int .i64 0, .int .i64 0] 108)); clear h
  have HX := Lib.hid hx; clear hx
  have HT := Lib.hid ht; clear ht
  obtain ⟨xg, xt, xv⟩ := x
  simp only at hL hg1 ⊢
  refine callsR fun R hR => ?_
  go_enter Tryz.func73, Tryz.ntmps73
  go_wp2_with fail
  refine Calls.mono (find_ok_heap p g _ c fv s i ⟨xg, xt, xv⟩ _ HH.out HX.out HT.out hg1) ?_
  rintro e w2 ⟨rfl, hb2⟩
  have H2 := HH.out.later hb2
  have g2 : w2.cell? ⟨g, i * 5 + 2, none⟩ = some (.int .i64 xv.a) := H2.tab.cell (j := 2) hL rfl
  have g3 : w2.cell? ⟨g, i * 5 + 3, none⟩ = some (.int .i64 xv.b) := H2.tab.cell (j := 3) hL rfl
  have g4 : w2.cell? ⟨g, i * 5 + 4, none⟩ = some (.int .i64 xv.c) := H2.tab.cell (j := 4) hL rfl
  have rc := (Blk.new1 w (.cells #[.int .i64 i, .int .i64 xg] 34) 108 #[.int .i64 0, .int .i64 0, .int .i64 0]).chg (Chg.of_below hb2 []) (by simp)
  have lc := rc.lt
  have c0 : w2.cell? ⟨w.heap.size + 1, 0, none⟩ = some (.int .i64 0) := rc.cell 0
  have f0 := rc.frozen 0
  have c1 : w2.cell? ⟨w.heap.size + 1, 1, none⟩ = some (.int .i64 0) := rc.cell 1
  have f1 := rc.frozen 1
  have c2 : w2.cell? ⟨w.heap.size + 1, 2, none⟩ = some (.int .i64 0) := rc.cell 2
  have f2 := rc.frozen 2
  have C := (((Chg.refl [] w).alloc (.cells #[.int .i64 i, .int .i64 xg] 34)).alloc (.cells #[.int .i64 0, .int .i64 0, .int .i64 0] 108)).trans (Chg.of_below hb2 [])
  have C := C.setCell (p := ⟨w.heap.size + 1, 0, none⟩) (.inr (Nat.le_succ _)) (.int .i64 xv.a)
  have C := C.setCell (p := ⟨w.heap.size + 1, 1, none⟩) (.inr (Nat.le_succ _)) (.int .i64 xv.b)
  have C := C.setCell (p := ⟨w.heap.size + 1, 2, none⟩) (.inr (Nat.le_succ _)) (.int .i64 xv.c)
  have CC := Lib.hid C; clear hb2 rc C H2 hL
  go_wp2_with fail
  exact bodyPost_ret (v := .tuple #[(let v := xv; Value.agg #[.int .i64 v.a, .int .i64 v.b, .int .i64 v.c]), .int .i64 0]) (by simp [results, Tryz.results73, go_sem, lc, c0, c1, c2]) rfl (hR.out _ _ ⟨rfl, CC.out.below (by simp) (Nat.le_refl _)⟩)
theorem pool_take_full_heap (p : Nat) (lv fv : Value) (s : PSt V3) (v : V3) (w : World) (h : PoolIs w 142 144 3 5 (fun (v : V3) => [Value.int .i64 v.a, Value.int .i64 v.b, Value.int .i64 v.c]) p lv fv s) (hf : s.free = []) (hfull : s.most ≤ s.l.length) :
    Calls Tryz.prog 57 #[.pointer (some ⟨p, 0, none⟩), Value.agg #[.int .i64 v.a, .int .i64 v.b, .int .i64 v.c]] w fun e w' => e = .returned (.tuple #[.agg #[.int .i64 0, .int .i64 0], .bool false]) ∧ Below w.heap.size w w' := by
  have hp := h.blk.lt
  obtain ⟨A, c, rfl, hc, hA⟩ := h.lform
  obtain ⟨A2, c2, rfl, hc2, _⟩ := h.fform
  rw [hf] at h
  have hm := h.wf.le
  have hm2 := h.wf.most
  have d0 := h.blk.cell 0
  have d1 := h.blk.cell 1
  have d2 := h.blk.cell 2
  simp only [List.getElem?_toArray, List.getElem?_cons_zero, List.getElem?_cons_succ, List.length_nil] at d0 d1 d2
  have hd : decide ((s.most : Int) ≤ s.l.length) = true := by simp; omega
  clear h hA
  refine callsR fun R hR => ?_
  go_enter Tryz.func57, Tryz.ntmps57
  go_wp2_with fail
  exact bodyPost_ret (v := .tuple #[.agg #[.int .i64 0, .int .i64 0], .bool false]) (by simp [results, Tryz.results57, go_sem]) rfl (hR.out _ _ ⟨rfl, ((Below.refl _ _).alloc (Nat.le_refl _) _).alloc (by simp) _⟩)
set_option maxHeartbeats 4000000 in
theorem pool_take_fresh_heap (p : Nat) (lv fv : Value) (s : PSt V3) (v : V3) (w : World) (h : PoolIs w 142 144 3 5 (fun (v : V3) => [Value.int .i64 v.a, Value.int .i64 v.b, Value.int .i64 v.c]) p lv fv s) (hf : s.free = []) (hfull : s.l.length < s.most) :
    Calls Tryz.prog 57 #[.pointer (some ⟨p, 0, none⟩), Value.agg #[.int .i64 v.a, .int .i64 v.b, .int .i64 v.c]] w fun e w' => e = .returned (.tuple #[.agg #[.int .i64 s.l.length, .int .i64 1], .bool true]) ∧ ∃ lv' fv', PoolIs w' 142 144 3 5 (fun (v : V3) => [Value.int .i64 v.a, Value.int .i64 v.b, Value.int .i64 v.c]) p lv' fv' (s.fresh v) ∧ Chg (poolFp p lv fv) w w' ∧ Fresh (poolFp p lv fv) (poolFp p lv' fv') w := by
  have hp := h.blk.lt
  have hwf := h.wf.fresh v hfull
  obtain ⟨A, c, rfl, hc, hA⟩ := h.lform
  obtain ⟨A2, c2, rfl, hc2, _⟩ := h.fform
  have hfl : s.free.length = 0 := by rw [hf]; rfl
  have hm2 := h.wf.most
  have P0 := PP.start h (by decide) (by decide) (by decide)
  have d0 := h.blk.cell 0
  have d1 := h.blk.cell 1
  have d2 := h.blk.cell 2
  simp only [List.getElem?_toArray, List.getElem?_cons_zero, List.getElem?_cons_succ] at d0 d1 d2
  rw [hfl] at d2
  have hd : decide ((s.most : Int) ≤ s.l.length) = false := by simp; omega
  have hll : (s.l.map (Pl.cells (fun (v : V3) => [Value.int .i64 v.a, Value.int .i64 v.b, Value.int .i64 v.c]))).length = s.l.length := List.length_map _
  have PH := Lib.hid ((P0.alloc (.cells #[.int .i64 v.a, .int .i64 v.b, .int .i64 v.c] 108)).alloc (.cells #[.int .i64 0, .int .i64 0] 34)); clear P0
  have HW := Lib.hid hwf; clear hwf
  clear h hA
  refine callsR fun R hR => ?_
  go_enter Tryz.func57, Tryz.ntmps57
  go_wp2_with (at_builtin; refine wpList_push (by rfl) (.tmp 49) (.tmp 51) 140 (by rfl) 0 144 _ 5 40 Tryz.underlying140 info_place_heap (by rfl) (by decide) (.slice A s.l.length c) _ #[.int .i64 0, .bool false, .int .i64 0, .int .i64 0, .int .i64 0] (by rfl) (by exact PH.out.tab) (by rw [World.size_alloc, World.size_alloc]; rfl) (by rfl) (by simp [Value.oneCell']) (by omega) (by decide) (Nat.zero_le _) ?_; intro v' w' q1 q2 q3; have q4 := PH.out.pushL q1 q2 q3; obtain ⟨A', c', hv, hc', hA'⟩ := q1.form; simp only [List.length_append, List.length_map, List.length_singleton] at hv hc' hA'; obtain ⟨g', rfl, hg', _⟩ := hA' (by omega); subst hv; have b1 := q4.blk.cell 1; have fb1 := q4.blk.frozen 1; have rb0 := Blk.new1 w (.cells #[.int .i64 v.a, .int .i64 v.b, .int .i64 v.c] 108) 34 #[.int .i64 0, .int .i64 0]; have rb := rb0.chg q2 (fun hm => PH.out.tab.ne_blk rb0 (by decide) (by simpa using hm)); have rv0 := (Blk.new w 108 #[.int .i64 v.a, .int .i64 v.b, .int .i64 v.c]).alloc (.cells #[.int .i64 0, .int .i64 0] 34); have rv := rv0.chg q2 (fun hm => PH.out.tab.ne_blk rv0 (by decide) (by simpa using hm)); have hgp : g' ≠ p := fun e => q4.tab.ne_blk q4.blk q4.t1.symm (by simp [Value.ownBlock, e]); have hgr : g' ≠ w.heap.size + 1 := fun e => q4.tab.ne_blk rb (by decide) (by simp [Value.ownBlock, e]); have hgv : g' ≠ w.heap.size := fun e => q4.tab.ne_blk rv (by decide) (by simp [Value.ownBlock, e]); have hgr2 := hgr.symm; have hgv2 := hgv.symm; have hpr : p ≠ w.heap.size + 1 := (by omega); have hpv : p ≠ w.heap.size := (by omega); have Q4 := Lib.hid q4; have RB := Lib.hid rb; have RV := Lib.hid rv; have H1 := Lib.hid q1; clear q1 q2 q3 q4 rb rv rb0 rv0 PH; have r0 := RB.out.cell 0; have r1 := RB.out.cell 1; have fr0 := RB.out.frozen 0; have fr1 := RB.out.frozen 1; have hx0 : ((s.l.map (Pl.cells (fun (v : V3) => [Value.int .i64 v.a, Value.int .i64 v.b, Value.int .i64 v.c]))) ++ [([.int .i64 0, .bool false, .int .i64 0, .int .i64 0, .int .i64 0] : List Value)])[s.l.length]? = some ([.int .i64 0, .bool false, .int .i64 0, .int .i64 0, .int .i64 0] : List Value) := (by rw [List.getElem?_append_right (by rw [hll]; omega), hll, Nat.sub_self]; rfl); have e0 : w'.cell? ⟨g', s.l.length * 5, none⟩ = some (.int .i64 0) := Q4.out.tab.cell (j := 0) hx0 rfl; have e1 : w'.cell? ⟨g', s.l.length * 5 + 1, none⟩ = some (.bool false) := Q4.out.tab.cell (j := 1) hx0 rfl; have fe0 : w'.frozen? ⟨g', s.l.length * 5, none⟩ = false := Q4.out.tab.frozen _; have fe1 : w'.frozen? ⟨g', s.l.length * 5 + 1, none⟩ = false := Q4.out.tab.frozen _; have e2 : w'.cell? ⟨g', s.l.length * 5 + 2, none⟩ = some (.int .i64 0) := Q4.out.tab.cell (j := 2) hx0 rfl; have fe2 : w'.frozen? ⟨g', s.l.length * 5 + 2, none⟩ = false := Q4.out.tab.frozen _; have cv0 : w'.cell? ⟨w.heap.size, 0, none⟩ = some (.int .i64 v.a) := RV.out.cell 0; have e3 : w'.cell? ⟨g', s.l.length * 5 + 3, none⟩ = some (.int .i64 0) := Q4.out.tab.cell (j := 3) hx0 rfl; have fe3 : w'.frozen? ⟨g', s.l.length * 5 + 3, none⟩ = false := Q4.out.tab.frozen _; have cv1 : w'.cell? ⟨w.heap.size, 1, none⟩ = some (.int .i64 v.b) := RV.out.cell 1; have e4 : w'.cell? ⟨g', s.l.length * 5 + 4, none⟩ = some (.int .i64 0) := Q4.out.tab.cell (j := 4) hx0 rfl; have fe4 : w'.frozen? ⟨g', s.l.length * 5 + 4, none⟩ = false := Q4.out.tab.frozen _; have cv2 : w'.cell? ⟨w.heap.size, 2, none⟩ = some (.int .i64 v.c) := RV.out.cell 2;  have HX0 := Lib.hid hx0; clear hx0)
  have hlt : s.l.length < ((s.l.map (Pl.cells (fun (v : V3) => [Value.int .i64 v.a, Value.int .i64 v.b, Value.int .i64 v.c]))) ++ [([.int .i64 0, .bool false, .int .i64 0, .int .i64 0, .int .i64 0] : List Value)]).length := by rw [List.length_append, hll]; simp
  have P1 : PP w ((w'.setCell ⟨p, 1, none⟩ (.slice (some ⟨g', 0, none⟩) (s.l.length + 1) c')).setCell ⟨g', s.l.length * 5, none⟩ (.int .i64 1)) _ _ _ _ _ _ _ _ _ _ _ _ _ := (Q4.out.setL.setTab (j := 0) (.int .i64 1) HX0.out (by decide))
  have RV1 := (RV.out.far (p := ⟨p, 1, none⟩) hpv.symm (.slice (some ⟨g', 0, none⟩) (s.l.length + 1) c')).far (p := ⟨g', s.l.length * 5, none⟩) hgv2 (.int .i64 1)
  have RB1 := (RB.out.far (p := ⟨p, 1, none⟩) hpr.symm (.slice (some ⟨g', 0, none⟩) (s.l.length + 1) c')).far (p := ⟨g', s.l.length * 5, none⟩) hgr2 (.int .i64 1)
  clear r0 r1 fr0 fr1 e0 e1 fe0 fe1 b1 fb1 e2 e3 e4 fe2 fe3 fe4 cv0 cv1 cv2 RV RB Q4 HX0 H1 d0 d1 d2
  generalize ((w'.setCell ⟨p, 1, none⟩ (.slice (some ⟨g', 0, none⟩) (s.l.length + 1) c')).setCell ⟨g', s.l.length * 5, none⟩ (.int .i64 1)) = wy at P1 RV1 RB1 ⊢
  have r0 := RB1.cell 0
  have r1 := RB1.cell 1
  have fr0 := RB1.frozen 0
  have fr1 := RB1.frozen 1
  have hr1 := List.getElem?_set_self (a := ([.int .i64 0, .bool false, .int .i64 0, .int .i64 0, .int .i64 0] : List Value).set 0 (.int .i64 1)) hlt
  have y0 : wy.cell? ⟨g', s.l.length * 5, none⟩ = some (.int .i64 1) := P1.tab.cell (j := 0) hr1 rfl
  have y1 : wy.cell? ⟨g', s.l.length * 5 + 1, none⟩ = some (.bool false) := P1.tab.cell (j := 1) hr1 rfl
  have fy1 : wy.frozen? ⟨g', s.l.length * 5 + 1, none⟩ = false := P1.tab.frozen _
  have y2 : wy.cell? ⟨g', s.l.length * 5 + 2, none⟩ = some (.int .i64 0) := P1.tab.cell (j := 2) hr1 rfl
  have fy2 : wy.frozen? ⟨g', s.l.length * 5 + 2, none⟩ = false := P1.tab.frozen _
  have cv0 : wy.cell? ⟨w.heap.size, 0, none⟩ = some (.int .i64 v.a) := RV1.cell 0
  have y3 : wy.cell? ⟨g', s.l.length * 5 + 3, none⟩ = some (.int .i64 0) := P1.tab.cell (j := 3) hr1 rfl
  have fy3 : wy.frozen? ⟨g', s.l.length * 5 + 3, none⟩ = false := P1.tab.frozen _
  have cv1 : wy.cell? ⟨w.heap.size, 1, none⟩ = some (.int .i64 v.b) := RV1.cell 1
  have y4 : wy.cell? ⟨g', s.l.length * 5 + 4, none⟩ = some (.int .i64 0) := P1.tab.cell (j := 4) hr1 rfl
  have fy4 : wy.frozen? ⟨g', s.l.length * 5 + 4, none⟩ = false := P1.tab.frozen _
  have cv2 : wy.cell? ⟨w.heap.size, 2, none⟩ = some (.int .i64 v.c) := RV1.cell 2
  have P2 := P1.put (j := 1) (.bool true) hlt (by decide)
  have P2 := P2.put (j := 2) (.int .i64 v.a) hlt (by decide)
  have P2 := P2.put (j := 3) (.int .i64 v.b) hlt (by decide)
  have P2 := P2.put (j := 4) (.int .i64 v.c) hlt (by decide)
  have P2 := ((P2.beside (q := ⟨w.heap.size + 1, 0, none⟩) (Nat.le_succ _) hpr (P1.tab.ne_blk RB1 (by decide)) (P1.free.ne_blk RB1 (by decide)) (.int .i64 s.l.length)).beside (q := ⟨w.heap.size + 1, 1, none⟩) (Nat.le_succ _) hpr (P1.tab.ne_blk RB1 (by decide)) (P1.free.ne_blk RB1 (by decide)) (.int .i64 1))
  have PH := Lib.hid P2
  clear P1 P2 RV1 RB1 hr1
  have hfar : ∀ (W : World) (j k : Nat) (u : Value), (W.setCell ⟨g', k, none⟩ u).cell? ⟨w.heap.size, j, none⟩ = W.cell? ⟨w.heap.size, j, none⟩ := fun W j k u => cell_far (fun e => hgv (by simpa using e)) u
  go_region_held3 (fun wx => wx.cell? ⟨w.heap.size, 0, none⟩ = some (.int .i64 v.a) ∧ wx.cell? ⟨w.heap.size, 1, none⟩ = some (.int .i64 v.b) ∧ wx.cell? ⟨w.heap.size, 2, none⟩ = some (.int .i64 v.c)) (first | with_reducible exact ⟨cv0, cv1, cv2⟩ | (simp only [hfar, cell_drew1]; with_reducible exact ⟨cv0, cv1, cv2⟩)) (fail)
  clear hfar
  go_wp2_with fail
  have hE : ((s.l.map (Pl.cells (fun (v : V3) => [Value.int .i64 v.a, Value.int .i64 v.b, Value.int .i64 v.c]))) ++ [([.int .i64 0, .bool false, .int .i64 0, .int .i64 0, .int .i64 0] : List Value)]).set s.l.length (Pl.cells (fun (v : V3) => [Value.int .i64 v.a, Value.int .i64 v.b, Value.int .i64 v.c]) ⟨1, true, v⟩) = (s.fresh v).l.map (Pl.cells (fun (v : V3) => [Value.int .i64 v.a, Value.int .i64 v.b, Value.int .i64 v.c])) := by
    show _ = (s.l ++ [(⟨1, true, v⟩ : Pl V3)]).map (Pl.cells (fun (v : V3) => [Value.int .i64 v.a, Value.int .i64 v.b, Value.int .i64 v.c]))
    rw [List.map_append, List.set_append_right _ _ (by rw [hll]; omega), hll, Nat.sub_self]
    rfl
  have P3 := Eq.subst (motive := fun L => PP w _ _ _ _ _ _ _ _ _ _ _ _ L _) hE PH.out
  exact bodyPost_ret (v := .tuple #[.agg #[.int .i64 s.l.length, .int .i64 1], .bool true]) (by simp [results, Tryz.results57, go_sem, r0, r1]) rfl (hR.out _ _ ⟨rfl, _, _, PP.done (s := s.fresh v) (P3.drewN _) HW.out⟩)
set_option maxHeartbeats 4000000 in
theorem pool_take_back_heap (p : Nat) (lv fv : Value) (s : PSt V3) (v : V3) (i : Nat) (fs : List Nat) (x : Pl V3) (w : World) (h : PoolIs w 142 144 3 5 (fun (v : V3) => [Value.int .i64 v.a, Value.int .i64 v.b, Value.int .i64 v.c]) p lv fv s) (hf : s.free = fs ++ [i]) (hx : s.l[i]? = some x) :
    Calls Tryz.prog 57 #[.pointer (some ⟨p, 0, none⟩), Value.agg #[.int .i64 v.a, .int .i64 v.b, .int .i64 v.c]] w fun e w' => e = .returned (.tuple #[.agg #[.int .i64 i, .int .i64 (wrap64 (x.gen + 1))], .bool true]) ∧ ∃ lv' fv', PoolIs w' 142 144 3 5 (fun (v : V3) => [Value.int .i64 v.a, Value.int .i64 v.b, Value.int .i64 v.c]) p lv' fv' (s.retake i fs x v) ∧ Chg (poolFp p lv fv) w w' ∧ Fresh (poolFp p lv fv) (poolFp p lv' fv') w := by
  have hp := h.blk.lt
  have hwf := h.wf.retake v hf hx
  obtain ⟨A, c, rfl, hc, hA⟩ := h.lform
  obtain ⟨A2, c2, rfl, hc2, hA2⟩ := h.fform
  have hi : i < s.l.length := (List.getElem?_eq_some_iff.1 hx).1
  have hfl : s.free.length = fs.length + 1 := by rw [hf]; simp
  obtain ⟨g, rfl, hg⟩ := hA (by omega)
  obtain ⟨g2, rfl, hg2⟩ := hA2 (by omega)
  have hm := h.wf.le
  have hm2 := h.wf.most
  have hm3 := h.wf.free_le
  rw [hfl] at hm3
  have hL : (s.l.map (Pl.cells (fun (v : V3) => [Value.int .i64 v.a, Value.int .i64 v.b, Value.int .i64 v.c])))[i]? = some (Pl.cells (fun (v : V3) => [Value.int .i64 v.a, Value.int .i64 v.b, Value.int .i64 v.c]) x) := by rw [List.getElem?_map, hx]; rfl
  have hll : (s.l.map (Pl.cells (fun (v : V3) => [Value.int .i64 v.a, Value.int .i64 v.b, Value.int .i64 v.c]))).length = s.l.length := List.length_map _
  have P0 := PP.start h (by decide) (by decide) (by decide)
  rw [hfl] at P0 hc2
  have hF : (s.free.map fun (i : Nat) => [Value.int .i64 (i : Int)]) = (fs.map fun (i : Nat) => [Value.int .i64 (i : Int)]) ++ [[Value.int .i64 (i : Int)]] := by rw [hf, List.map_append]; rfl
  rw [hF] at P0
  have d0 := h.blk.cell 0
  have d1 := h.blk.cell 1
  have d2 := h.blk.cell 2
  simp only [List.getElem?_toArray, List.getElem?_cons_zero, List.getElem?_cons_succ] at d0 d1 d2
  rw [hfl] at d2
  have y : w.cell? ⟨g2, fs.length, none⟩ = some (.int .i64 i) := by
    have := P0.free.cell (i := fs.length) (j := 0) (r := [Value.int .i64 (i : Int)]) (by rw [List.getElem?_append_right (by simp)]; simp) rfl
    simpa using this
  have e0 : w.cell? ⟨g, i * 5, none⟩ = some (.int .i64 x.gen) := P0.tab.cell (j := 0) hL rfl
  have e1 : w.cell? ⟨g, i * 5 + 1, none⟩ = some (.bool x.taken) := P0.tab.cell (j := 1) hL rfl
  have e2 : w.cell? ⟨g, i * 5 + 2, none⟩ = some (.int .i64 x.v.a) := P0.tab.cell (j := 2) hL rfl
  have e3 : w.cell? ⟨g, i * 5 + 3, none⟩ = some (.int .i64 x.v.b) := P0.tab.cell (j := 3) hL rfl
  have e4 : w.cell? ⟨g, i * 5 + 4, none⟩ = some (.int .i64 x.v.c) := P0.tab.cell (j := 4) hL rfl
  have fe0 : w.frozen? ⟨g, i * 5, none⟩ = false := P0.tab.frozen _
  have fe1 : w.frozen? ⟨g, i * 5 + 1, none⟩ = false := P0.tab.frozen _
  have fe2 : w.frozen? ⟨g, i * 5 + 2, none⟩ = false := P0.tab.frozen _
  have fe3 : w.frozen? ⟨g, i * 5 + 3, none⟩ = false := P0.tab.frozen _
  have fe4 : w.frozen? ⟨g, i * 5 + 4, none⟩ = false := P0.tab.frozen _
  have b2 := h.blk.frozen 2
  have hgp : g ≠ p := fun e => P0.tab.ne_blk P0.blk P0.t1.symm (by simp [Value.ownBlock, e])
  have hgp2 : p ≠ g := fun e => hgp e.symm
  have P5 := PP.popF (F := fs.map fun (i : Nat) => [Value.int .i64 (i : Int)]) (r := [Value.int .i64 (i : Int)]) (by rw [List.length_map]; exact P0)
  rw [List.length_map] at P5
  have PH := Lib.hid P5; clear P0 P5
  have HW := Lib.hid hwf; clear hwf
  have HL := Lib.hid hL; clear hL
  have HX := Lib.hid hx
  clear h hA hA2 hf hx hF
  refine callsR fun R hR => ?_
  go_enter Tryz.func57, Tryz.ntmps57
  go_wp2_with fail
  have hlt : i < (s.l.map (Pl.cells (fun (v : V3) => [Value.int .i64 v.a, Value.int .i64 v.b, Value.int .i64 v.c]))).length := by rw [hll]; exact hi
  have P1 : PP w ((((w.setCell ⟨p, 2, none⟩ (.slice (some ⟨g2, 0, none⟩) fs.length c2)).setCell ⟨g, i * 5, none⟩ (.int .i64 (wrap64 (x.gen + 1)))).alloc (.cells #[.int .i64 v.a, .int .i64 v.b, .int .i64 v.c] 108)).alloc (.cells #[.int .i64 0, .int .i64 0] 34)) _ _ _ _ _ _ _ _ _ _ _ _ _ := ((PH.out.setF.setTab (j := 0) (.int .i64 (wrap64 (x.gen + 1))) HL.out (by decide)).alloc (.cells #[.int .i64 v.a, .int .i64 v.b, .int .i64 v.c] 108)).alloc (.cells #[.int .i64 0, .int .i64 0] 34)
  have hws : ((w.setCell ⟨p, 2, none⟩ (.slice (some ⟨g2, 0, none⟩) fs.length c2)).setCell ⟨g, i * 5, none⟩ (.int .i64 (wrap64 (x.gen + 1)))).heap.size = w.heap.size := by rw [World.size_setCell, World.size_setCell]
  have RV1 := (Blk.new ((w.setCell ⟨p, 2, none⟩ (.slice (some ⟨g2, 0, none⟩) fs.length c2)).setCell ⟨g, i * 5, none⟩ (.int .i64 (wrap64 (x.gen + 1)))) 108 #[.int .i64 v.a, .int .i64 v.b, .int .i64 v.c]).alloc (.cells #[.int .i64 0, .int .i64 0] 34)
  have RB1 := Blk.new1 ((w.setCell ⟨p, 2, none⟩ (.slice (some ⟨g2, 0, none⟩) fs.length c2)).setCell ⟨g, i * 5, none⟩ (.int .i64 (wrap64 (x.gen + 1)))) (.cells #[.int .i64 v.a, .int .i64 v.b, .int .i64 v.c] 108) 34 #[.int .i64 0, .int .i64 0]
  rw [hws] at RV1 RB1
  clear e0 e1 fe0 fe1 b2 y e2 e3 e4 fe2 fe3 fe4 PH HL d0 d1 d2 hws
  generalize ((((w.setCell ⟨p, 2, none⟩ (.slice (some ⟨g2, 0, none⟩) fs.length c2)).setCell ⟨g, i * 5, none⟩ (.int .i64 (wrap64 (x.gen + 1)))).alloc (.cells #[.int .i64 v.a, .int .i64 v.b, .int .i64 v.c] 108)).alloc (.cells #[.int .i64 0, .int .i64 0] 34)) = wy at P1 RV1 RB1 ⊢
  obtain ⟨gn, hgn⟩ : ∃ gn, wrap64 (x.gen + 1) = gn := ⟨_, rfl⟩
  rw [hgn] at P1 ⊢
  have HGN := Lib.hid hgn; clear hgn
  have hpr : p ≠ w.heap.size + 1 := by omega
  have r0 := RB1.cell 0
  have r1 := RB1.cell 1
  have fr0 := RB1.frozen 0
  have fr1 := RB1.frozen 1
  have hgr : g ≠ w.heap.size + 1 := fun e => P1.tab.ne_blk RB1 (by decide) (by simp [Value.ownBlock, e])
  have hgv : g ≠ w.heap.size := fun e => P1.tab.ne_blk RV1 (by decide) (by simp [Value.ownBlock, e])
  have hgr2 := hgr.symm
  have hgv2 := hgv.symm
  have hr1 := List.getElem?_set_self (a := (Pl.cells (fun (v : V3) => [Value.int .i64 v.a, Value.int .i64 v.b, Value.int .i64 v.c]) x).set 0 (.int .i64 gn)) hlt
  have y0 : wy.cell? ⟨g, i * 5, none⟩ = some (.int .i64 gn) := P1.tab.cell (j := 0) hr1 rfl
  have y1 : wy.cell? ⟨g, i * 5 + 1, none⟩ = some (.bool x.taken) := P1.tab.cell (j := 1) hr1 rfl
  have fy1 : wy.frozen? ⟨g, i * 5 + 1, none⟩ = false := P1.tab.frozen _
  have y2 : wy.cell? ⟨g, i * 5 + 2, none⟩ = some (.int .i64 x.v.a) := P1.tab.cell (j := 2) hr1 rfl
  have fy2 : wy.frozen? ⟨g, i * 5 + 2, none⟩ = false := P1.tab.frozen _
  have cv0 : wy.cell? ⟨w.heap.size, 0, none⟩ = some (.int .i64 v.a) := RV1.cell 0
  have y3 : wy.cell? ⟨g, i * 5 + 3, none⟩ = some (.int .i64 x.v.b) := P1.tab.cell (j := 3) hr1 rfl
  have fy3 : wy.frozen? ⟨g, i * 5 + 3, none⟩ = false := P1.tab.frozen _
  have cv1 : wy.cell? ⟨w.heap.size, 1, none⟩ = some (.int .i64 v.b) := RV1.cell 1
  have y4 : wy.cell? ⟨g, i * 5 + 4, none⟩ = some (.int .i64 x.v.c) := P1.tab.cell (j := 4) hr1 rfl
  have fy4 : wy.frozen? ⟨g, i * 5 + 4, none⟩ = false := P1.tab.frozen _
  have cv2 : wy.cell? ⟨w.heap.size, 2, none⟩ = some (.int .i64 v.c) := RV1.cell 2
  have P2 := P1.put (j := 1) (.bool true) hlt (by decide)
  have P2 := P2.put (j := 2) (.int .i64 v.a) hlt (by decide)
  have P2 := P2.put (j := 3) (.int .i64 v.b) hlt (by decide)
  have P2 := P2.put (j := 4) (.int .i64 v.c) hlt (by decide)
  have P2 := ((P2.beside (q := ⟨w.heap.size + 1, 0, none⟩) (Nat.le_succ _) hpr (P1.tab.ne_blk RB1 (by decide)) (P1.free.ne_blk RB1 (by decide)) (.int .i64 i)).beside (q := ⟨w.heap.size + 1, 1, none⟩) (Nat.le_succ _) hpr (P1.tab.ne_blk RB1 (by decide)) (P1.free.ne_blk RB1 (by decide)) (.int .i64 gn))
  have hE : (s.l.map (Pl.cells (fun (v : V3) => [Value.int .i64 v.a, Value.int .i64 v.b, Value.int .i64 v.c]))).set i (Pl.cells (fun (v : V3) => [Value.int .i64 v.a, Value.int .i64 v.b, Value.int .i64 v.c]) ⟨gn, true, v⟩) = (s.l.set i ⟨gn, true, v⟩).map (Pl.cells (fun (v : V3) => [Value.int .i64 v.a, Value.int .i64 v.b, Value.int .i64 v.c])) := by rw [List.map_set]
  have P3 := Eq.subst (motive := fun L => PP w _ _ _ _ _ _ _ _ _ _ _ _ L _) hE P2
  have PH := Lib.hid P3
  clear P1 P2 P3 RV1 RB1 hr1 hE
  have hfar : ∀ (W : World) (j k : Nat) (u : Value), (W.setCell ⟨g, k, none⟩ u).cell? ⟨w.heap.size, j, none⟩ = W.cell? ⟨w.heap.size, j, none⟩ := fun W j k u => cell_far (fun e => hgv (by simpa using e)) u
  go_region_held3 (fun wx => wx.cell? ⟨w.heap.size, 0, none⟩ = some (.int .i64 v.a) ∧ wx.cell? ⟨w.heap.size, 1, none⟩ = some (.int .i64 v.b) ∧ wx.cell? ⟨w.heap.size, 2, none⟩ = some (.int .i64 v.c)) (first | with_reducible exact ⟨cv0, cv1, cv2⟩ | (simp only [hfar, cell_drew1]; with_reducible exact ⟨cv0, cv1, cv2⟩)) (fail)
  clear hfar
  go_wp2_with fail
  have hgn := HGN.out
  clear HGN
  subst hgn
  exact bodyPost_ret (v := .tuple #[.agg #[.int .i64 i, .int .i64 (wrap64 (x.gen + 1))], .bool true]) (by simp [results, Tryz.results57, go_sem, r0, r1]) rfl (hR.out _ _ ⟨rfl, _, _, PP.done (s := s.retake i fs x v) (PH.out.drewN _) HW.out⟩)
end Go.Proofs.YtognmhgdegpdiaaGreat
end
section
/- The pool of Heap, more: what each method does to the places that it holds. -/
namespace Go.Proofs.YtognmhgdegpdiaaGreat
open Go.RowKit
set_option linter.unusedVariables false
set_option linter.unusedSimpArgs false
set_option maxRecDepth 100000
end Go.Proofs.YtognmhgdegpdiaaGreat
end
section
/- The pool of Heap, more: what each method does to the places that it holds. -/
namespace Go.Proofs.YtognmhgdegpdiaaGreat
open Go.RowKit
set_option linter.unusedVariables false
set_option linter.unusedSimpArgs false
set_option maxRecDepth 100000
set_option maxHeartbeats 1000000 in
theorem pool_set_ok_heap (p : Nat) (lv fv : Value) (s : PSt V3) (i : Nat) (x : Pl V3) (v : V3) (w : World) (h : PoolIs w 142 144 3 5 (fun (v : V3) => [Value.int .i64 v.a, Value.int .i64 v.b, Value.int .i64 v.c]) p lv fv s)
    (hx : s.l[i]? = some x) (ht : x.taken = true) (hg1 : 1 ≤ x.gen) :
    Calls Tryz.prog 97 #[.pointer (some ⟨p, 0, none⟩), .agg #[.int .i64 i, .int .i64 x.gen], Value.agg #[.int .i64 v.a, .int .i64 v.b, .int .i64 v.c]] w fun e w' => e = .returned (.int .i64 0) ∧ PoolIs w' 142 144 3 5 (fun (v : V3) => [Value.int .i64 v.a, Value.int .i64 v.b, Value.int .i64 v.c]) p lv fv (s.setAt i x v) ∧ Chg (poolFp p lv fv) w w' := by
  have hwf := h.wf.setAt v hx
  obtain ⟨A, c, rfl, hc, hA⟩ := h.lform
  have hi : i < s.l.length := (List.getElem?_eq_some_iff.1 hx).1
  obtain ⟨g, rfl, hg⟩ := hA (by omega)
  have hL : (s.l.map (Pl.cells (fun (v : V3) => [Value.int .i64 v.a, Value.int .i64 v.b, Value.int .i64 v.c])))[i]? = some (Pl.cells (fun (v : V3) => [Value.int .i64 v.a, Value.int .i64 v.b, Value.int .i64 v.c]) x) := by rw [List.getElem?_map, hx]; rfl
  have hll : (s.l.map (Pl.cells (fun (v : V3) => [Value.int .i64 v.a, Value.int .i64 v.b, Value.int .i64 v.c]))).length = s.l.length := List.length_map _
  have P0 := PP.start h (by decide) (by decide) (by decide)
  have HH := Lib.hid ((h.alloc (.cells #[.int .i64 i, .int .i64 x.gen] 34)).alloc (.cells #[.int .i64 v.a, .int .i64 v.b, .int .i64 v.c] 108)); clear h
  have HX := Lib.hid hx; clear hx
  have HT := Lib.hid ht; clear ht
  have HW := Lib.hid hwf; clear hwf
  obtain ⟨xg, xt, xv⟩ := x
  simp only at hL hg1 ⊢
  refine callsR fun R hR => ?_
  go_enter Tryz.func97, Tryz.ntmps97
  go_wp2_with fail
  refine Calls.mono (find_ok_heap p g _ c fv s i ⟨xg, xt, xv⟩ _ HH.out HX.out HT.out hg1) ?_
  rintro e w2 ⟨rfl, hb2⟩
  have P2 := ((P0.alloc (.cells #[.int .i64 i, .int .i64 xg] 34)).alloc (.cells #[.int .i64 v.a, .int .i64 v.b, .int .i64 v.c] 108)).later hb2
  have rv := (Blk.new1 w (.cells #[.int .i64 i, .int .i64 xg] 34) 108 #[.int .i64 v.a, .int .i64 v.b, .int .i64 v.c]).chg (Chg.of_below hb2 []) (by simp)
  have hlt : i < (s.l.map (Pl.cells (fun (v : V3) => [Value.int .i64 v.a, Value.int .i64 v.b, Value.int .i64 v.c]))).length := by rw [hll]; exact hi
  have g2 : w2.cell? ⟨g, i * 5 + 2, none⟩ = some (.int .i64 xv.a) := P2.tab.cell (j := 2) hL rfl
  have fg2 : w2.frozen? ⟨g, i * 5 + 2, none⟩ = false := P2.tab.frozen _
  have cv0 : w2.cell? ⟨w.heap.size + 1, 0, none⟩ = some (.int .i64 v.a) := rv.cell 0
  have g3 : w2.cell? ⟨g, i * 5 + 3, none⟩ = some (.int .i64 xv.b) := P2.tab.cell (j := 3) hL rfl
  have fg3 : w2.frozen? ⟨g, i * 5 + 3, none⟩ = false := P2.tab.frozen _
  have cv1 : w2.cell? ⟨w.heap.size + 1, 1, none⟩ = some (.int .i64 v.b) := rv.cell 1
  have g4 : w2.cell? ⟨g, i * 5 + 4, none⟩ = some (.int .i64 xv.c) := P2.tab.cell (j := 4) hL rfl
  have fg4 : w2.frozen? ⟨g, i * 5 + 4, none⟩ = false := P2.tab.frozen _
  have cv2 : w2.cell? ⟨w.heap.size + 1, 2, none⟩ = some (.int .i64 v.c) := rv.cell 2
  have P3 := Eq.subst (motive := fun L => PP w _ _ _ _ _ _ _ _ _ _ _ _ L _) (row_set hL).symm P2
  have P3 := P3.put (j := 2) (.int .i64 v.a) hlt (by decide)
  have P3 := P3.put (j := 3) (.int .i64 v.b) hlt (by decide)
  have P3 := P3.put (j := 4) (.int .i64 v.c) hlt (by decide)
  have hE : (s.l.map (Pl.cells (fun (v : V3) => [Value.int .i64 v.a, Value.int .i64 v.b, Value.int .i64 v.c]))).set i (Pl.cells (fun (v : V3) => [Value.int .i64 v.a, Value.int .i64 v.b, Value.int .i64 v.c]) ⟨xg, xt, v⟩) = (s.setAt i ⟨xg, xt, xv⟩ v).l.map (Pl.cells (fun (v : V3) => [Value.int .i64 v.a, Value.int .i64 v.b, Value.int .i64 v.c])) := by
    simp only [PSt.setAt, List.map_set]
  have P4 := Eq.subst (motive := fun L => PP w _ _ _ _ _ _ _ _ _ _ _ _ L _) hE P3
  have PH := Lib.hid P4
  clear P0 P2 P3 P4 rv hb2 hL hE
  go_wp2_with fail
  have hd := PP.done (s := s.setAt i ⟨xg, xt, xv⟩ v) PH.out HW.out
  exact hR.out _ _ ⟨rfl, hd.1, hd.2.1⟩
end Go.Proofs.YtognmhgdegpdiaaGreat
end
section
/- The pool of Heap, more: what each method does to the places that it holds. -/
namespace Go.Proofs.YtognmhgdegpdiaaGreat
open Go.RowKit
set_option linter.unusedVariables false
set_option linter.unusedSimpArgs false
set_option maxRecDepth 100000
theorem pool_get_heap (p : Nat) (lv fv : Value) (s : PSt V3) (a b : Int) (w : World) (h : PoolIs w 142 144 3 5 (fun (v : V3) => [Value.int .i64 v.a, Value.int .i64 v.b, Value.int .i64 v.c]) p lv fv s) :
    Calls Tryz.prog 73 #[.pointer (some ⟨p, 0, none⟩), .agg #[.int .i64 a, .int .i64 b]] w fun e w' => ∃ (v : V3) (e0 : Int), e = .returned (.tuple #[Value.agg #[.int .i64 v.a, .int .i64 v.b, .int .i64 v.c], .int .i64 e0]) ∧ GetR ⟨0, 0, 0⟩ s a b v e0 ∧ Below w.heap.size w w' := by
  by_cases he : s.look a b = 0
  · obtain ⟨i, x, rfl, hx, rfl, ht, hg⟩ := PSt.look_zero he
    refine Calls.mono (pool_get_ok_heap p lv fv s i x w h hx ht hg) ?_
    rintro e w3 ⟨rfl, q1⟩
    exact ⟨x.v, 0, rfl, .inr ⟨i, x, rfl, rfl, hx, ht, hg, rfl, rfl⟩, q1⟩
  · refine Calls.mono (pool_get_bad_heap p lv fv s a b _ w h rfl he) ?_
    rintro e w3 ⟨rfl, q1⟩
    exact ⟨⟨0, 0, 0⟩, _, rfl, .inl ⟨he, rfl, rfl⟩, q1⟩
theorem pool_take_heap (p : Nat) (lv fv : Value) (s : PSt V3) (v : V3) (w : World) (h : PoolIs w 142 144 3 5 (fun (v : V3) => [Value.int .i64 v.a, Value.int .i64 v.b, Value.int .i64 v.c]) p lv fv s) :
    Calls Tryz.prog 57 #[.pointer (some ⟨p, 0, none⟩), Value.agg #[.int .i64 v.a, .int .i64 v.b, .int .i64 v.c]] w fun e w' => ∃ (a g : Int) (ok : Bool) (lv' fv' : Value) (s' : PSt V3), e = .returned (.tuple #[.agg #[.int .i64 a, .int .i64 g], .bool ok]) ∧ TakeR s v a g ok s' ∧
      PoolIs w' 142 144 3 5 (fun (v : V3) => [Value.int .i64 v.a, Value.int .i64 v.b, Value.int .i64 v.c]) p lv' fv' s' ∧ Chg (poolFp p lv fv) w w' ∧ Fresh (poolFp p lv fv) (poolFp p lv' fv') w := by
  rcases List.eq_nil_or_concat s.free with hf | ⟨fs, i, hf⟩
  · by_cases hlt : s.l.length < s.most
    · refine Calls.mono (pool_take_fresh_heap p lv fv s v w h hf hlt) ?_
      rintro e w3 ⟨rfl, lv', fv', q1, q2, q3⟩
      exact ⟨_, _, _, lv', fv', _, rfl, .inr (.inl ⟨hf, hlt, rfl, rfl, rfl, rfl⟩), q1, q2, q3⟩
    · refine Calls.mono (pool_take_full_heap p lv fv s v w h hf (by omega)) ?_
      rintro e w3 ⟨rfl, q1⟩
      exact ⟨_, _, _, lv, fv, _, rfl, .inl ⟨hf, by omega, rfl, rfl, rfl, rfl⟩, h.later q1, Chg.of_below q1 _, Fresh.refl _ _⟩
  · have hf2 : s.free = fs ++ [i] := by simpa using hf
    obtain ⟨x, hx, _⟩ := h.wf.free_lt (i := i) (by rw [hf2]; simp)
    refine Calls.mono (pool_take_back_heap p lv fv s v i fs x w h hf2 hx) ?_
    rintro e w3 ⟨rfl, lv', fv', q1, q2, q3⟩
    exact ⟨_, _, _, lv', fv', _, rfl, .inr (.inr ⟨i, fs, x, hf2, hx, rfl, rfl, rfl, rfl⟩), q1, q2, q3⟩
end Go.Proofs.YtognmhgdegpdiaaGreat
end
section
/- The pool of Thing: what each method does to the places that it holds. -/
namespace Go.Proofs.YtognmhgdegpdiaaGreat
open Go.RowKit
set_option linter.unusedVariables false
set_option linter.unusedSimpArgs false
set_option maxRecDepth 100000
set_option maxHeartbeats 2000000 in
/-- No such place, or its life is over. -/
theorem find_bad_thing (p : Nat) (lv fv : Value) (s : PSt V3) (a b : Int) (e0 : Int) (w : World) (h : PoolIs w 161 163 3 5 (fun (v : V3) => [Value.int .i64 v.a, Value.int .i64 v.b, Value.int .i64 v.c]) p lv fv s) (hl : s.look a b = e0) (he : e0 ≠ 0) :
    Calls Tryz.prog 134 #[.pointer (some ⟨p, 0, none⟩), .agg #[.int .i64 a, .int .i64 b]] w fun e w' => e = .returned (.tuple #[.pointer none, .int .i64 e0]) ∧ Below w.heap.size w w' := by
  have hp := h.blk.lt
  obtain ⟨A, c, rfl, hc, hA⟩ := h.lform
  have c1 := h.blk.cell 1
  simp only [List.getElem?_toArray, List.getElem?_cons_zero, List.getElem?_cons_succ] at c1
  have hm := h.wf.le
  have hm2 := h.wf.most
  have HH := Lib.hid h; clear h
  have HL := Lib.hid hl; clear hl
  have HE := Lib.hid he; clear he
  by_cases h1 : a < 0
  · have hd1 : decide (a < 0) = true := by simpa using h1
    have E : e0 = 22 := by rw [← HL.out]; unfold PSt.look; rw [if_pos (.inl h1)]
    subst E
    refine callsR fun R hR => ?_
    go_enter Tryz.func134, Tryz.ntmps134
    go_wp2_with fail
    go_quiet (fail)
    go_wp2_with fail
    exact hR.out _ _ ⟨rfl, below_drewN ((Below.refl _ _).alloc (Nat.le_refl _) _) _⟩
  · have hd1 : decide (a < 0) = false := by simpa using h1
    by_cases h2 : (s.l.length : Int) ≤ a
    · have hd2 : decide ((s.l.length : Int) ≤ a) = true := by simpa using h2
      have E : e0 = 22 := by rw [← HL.out]; unfold PSt.look; rw [if_pos (.inr (.inl h2))]
      subst E
      refine callsR fun R hR => ?_
      go_enter Tryz.func134, Tryz.ntmps134
      go_wp2_with fail
      go_quiet (fail)
      go_wp2_with fail
      exact hR.out _ _ ⟨rfl, below_drewN ((Below.refl _ _).alloc (Nat.le_refl _) _) _⟩
    · have hd2 : decide ((s.l.length : Int) ≤ a) = false := by simp; omega
      by_cases h3 : b < 1
      · have hd3 : decide (b < 1) = true := by simpa using h3
        have E : e0 = 22 := by rw [← HL.out]; unfold PSt.look; rw [if_pos (.inr (.inr h3))]
        subst E
        refine callsR fun R hR => ?_
        go_enter Tryz.func134, Tryz.ntmps134
        go_wp2_with fail
        go_quiet (fail)
        go_wp2_with fail
        exact hR.out _ _ ⟨rfl, below_drewN ((Below.refl _ _).alloc (Nat.le_refl _) _) _⟩
      · have hd3 : decide (b < 1) = false := by simp; omega
        obtain ⟨i, rfl⟩ : ∃ i : Nat, a = (i : Int) := ⟨a.toNat, by omega⟩
        have hi : i < s.l.length := by omega
        obtain ⟨g, rfl, hg⟩ := hA (by omega)
        obtain ⟨x, hx⟩ : ∃ x, s.l[i]? = some x := ⟨_, List.getElem?_eq_getElem hi⟩
        have hL : s.look i b = if x.gen < b then 22 else if b < x.gen ∨ x.taken = false then 23 else 0 := by
          unfold PSt.look
          rw [if_neg (by omega), Int.toNat_natCast, hx]
        rw [HL.out] at hL
        clear HL
        have tb := HH.out.tab
        have g0 : w.cell? ⟨g, i * 5, none⟩ = some (.int .i64 x.gen) := tb.cell (i := i) (j := 0) (r := Pl.cells (fun (v : V3) => [Value.int .i64 v.a, Value.int .i64 v.b, Value.int .i64 v.c]) x) (by rw [List.getElem?_map, hx]; rfl) rfl
        have g1 : w.cell? ⟨g, i * 5 + 1, none⟩ = some (.bool x.taken) := tb.cell (i := i) (j := 1) (r := Pl.cells (fun (v : V3) => [Value.int .i64 v.a, Value.int .i64 v.b, Value.int .i64 v.c]) x) (by rw [List.getElem?_map, hx]; rfl) rfl
        clear tb
        have HX := Lib.hid hx; clear hx
        obtain ⟨xg, xt, xv⟩ := x
        simp only at g0 g1 hL
        by_cases h4 : xg < b
        · have hd4 : decide (xg < b) = true := by simpa using h4
          rw [if_pos h4] at hL
          subst hL
          refine callsR fun R hR => ?_
          go_enter Tryz.func134, Tryz.ntmps134
          go_wp2_with fail
          go_quiet (fail)
          go_wp2_with fail
          exact hR.out _ _ ⟨rfl, below_drewN ((Below.refl _ _).alloc (Nat.le_refl _) _) _⟩
        · have hd4 : decide (xg < b) = false := by simp; omega
          rw [if_neg h4] at hL
          by_cases h5 : b < xg
          · have hd5 : decide (b < xg) = true := by simpa using h5
            rw [if_pos (.inl h5)] at hL
            subst hL
            refine callsR fun R hR => ?_
            go_enter Tryz.func134, Tryz.ntmps134
            go_wp2_with fail
            go_quiet (fail)
            go_wp2_with fail
            go_quiet (fail)
            go_wp2_with fail
            go_quiet (fail)
            go_wp2_with fail
            exact hR.out _ _ ⟨rfl, below_drewN (below_drewN (below_drewN ((Below.refl _ _).alloc (Nat.le_refl _) _) _) _) _⟩
          · have hd5 : decide (b < xg) = false := by simp; omega
            cases xt with
            | true => exact absurd (by rw [hL, if_neg (by simp [h5])]) HE.out
            | false =>
              rw [if_pos (.inr rfl)] at hL
              subst hL
              refine callsR fun R hR => ?_
              go_enter Tryz.func134, Tryz.ntmps134
              go_wp2_with fail
              go_quiet (fail)
              go_wp2_with fail
              go_quiet (fail)
              go_wp2_with fail
              go_quiet (fail)
              go_wp2_with fail
              exact hR.out _ _ ⟨rfl, below_drewN (below_drewN (below_drewN ((Below.refl _ _).alloc (Nat.le_refl _) _) _) _) _⟩
theorem find_ok_thing (p g n c : Nat) (fv : Value) (s : PSt V3) (i : Nat) (x : Pl V3) (w : World) (h : PoolIs w 161 163 3 5 (fun (v : V3) => [Value.int .i64 v.a, Value.int .i64 v.b, Value.int .i64 v.c]) p (.slice (some ⟨g, 0, none⟩) n c) fv s)
    (hx : s.l[i]? = some x) (ht : x.taken = true) (hg1 : 1 ≤ x.gen) :
    Calls Tryz.prog 134 #[.pointer (some ⟨p, 0, none⟩), .agg #[.int .i64 i, .int .i64 x.gen]] w fun e w' => e = .returned (.tuple #[.pointer (some ⟨g, i * 5, none⟩), .int .i64 0]) ∧ Below w.heap.size w w' := by
  have hp := h.blk.lt
  have hi : i < s.l.length := (List.getElem?_eq_some_iff.1 hx).1
  obtain ⟨A, c', hv, hc, hA⟩ := h.lform
  injection hv with e1 e2 e3
  subst e2 e3
  obtain ⟨g', hA', hg⟩ := hA (by omega)
  rw [← e1] at hA'
  injection hA' with hA'
  injection hA' with hA'
  subst hA'
  clear e1 hA
  have c1 := h.blk.cell 1
  simp only [List.getElem?_toArray, List.getElem?_cons_zero, List.getElem?_cons_succ] at c1
  have hm := h.wf.le
  have hm2 := h.wf.most
  have tb := h.tab
  have g0 : w.cell? ⟨g, i * 5, none⟩ = some (.int .i64 x.gen) := tb.cell (i := i) (j := 0) (r := Pl.cells (fun (v : V3) => [Value.int .i64 v.a, Value.int .i64 v.b, Value.int .i64 v.c]) x) (by rw [List.getElem?_map, hx]; rfl) rfl
  have g1 : w.cell? ⟨g, i * 5 + 1, none⟩ = some (.bool x.taken) := tb.cell (i := i) (j := 1) (r := Pl.cells (fun (v : V3) => [Value.int .i64 v.a, Value.int .i64 v.b, Value.int .i64 v.c]) x) (by rw [List.getElem?_map, hx]; rfl) rfl
  rw [ht] at g1
  clear tb hx ht
  have HH := Lib.hid h; clear h
  obtain ⟨xg, xt, xv⟩ := x
  simp only at g0 g1 hg1
  have hd1 : decide ((i : Int) < 0) = false := by simp
  have hd2 : decide ((s.l.length : Int) ≤ i) = false := by simp; omega
  have hd3 : decide (xg < 1) = false := by simp; omega
  have hd4 : decide (xg < xg) = false := by simp
  refine callsR fun R hR => ?_
  go_enter Tryz.func134, Tryz.ntmps134
  go_wp2_with fail
  go_quiet (fail)
  go_wp2_with fail
  go_quiet (fail)
  go_wp2_with fail
  go_quiet (fail)
  go_wp2_with fail
  exact hR.out _ _ ⟨rfl, below_drewN (below_drewN (below_drewN ((Below.refl _ _).alloc (Nat.le_refl _) _) _) _) _⟩
theorem info_place_thing : (Tryz.prog.info? 163).map (fun i => (i.zero, i.size, i.bytes)) = some (some (.agg #[.int .i64 0, .bool false, .int .i64 0, .int .i64 0, .int .i64 0]), 5, 40) := by kernel_rfl
theorem pool_len_thing (p : Nat) (lv fv : Value) (s : PSt V3) (w : World) (h : PoolIs w 161 163 3 5 (fun (v : V3) => [Value.int .i64 v.a, Value.int .i64 v.b, Value.int .i64 v.c]) p lv fv s) :
    Calls Tryz.prog 76 #[.pointer (some ⟨p, 0, none⟩)] w fun e w' => e = .returned (.int .i64 ((s.l.length : Int) - s.free.length)) ∧ ∃ k, w' = w.drewN k := by
  obtain ⟨A, c, rfl, hc, _⟩ := h.lform
  obtain ⟨A2, c2, rfl, hc2, _⟩ := h.fform
  have d1 := h.blk.cell 1
  have d2 := h.blk.cell 2
  simp only [List.getElem?_toArray, List.getElem?_cons_zero, List.getElem?_cons_succ] at d1 d2
  have hm := h.wf.le
  have hm2 := h.wf.most
  have hm3 := h.wf.free_le
  clear h
  refine callsR fun R hR => ?_
  go_enter Tryz.func76, Tryz.ntmps76
  go_wp2_with fail
  go_quiet (fail)
  go_wp2_with fail
  exact hR.out _ _ ⟨rfl, _, rfl⟩
theorem pool_places_thing (p : Nat) (lv fv : Value) (s : PSt V3) (w : World) (h : PoolIs w 161 163 3 5 (fun (v : V3) => [Value.int .i64 v.a, Value.int .i64 v.b, Value.int .i64 v.c]) p lv fv s) :
    Calls Tryz.prog 95 #[.pointer (some ⟨p, 0, none⟩)] w fun e w' => e = .returned (.int .i64 (s.most : Int)) ∧ w = w' := by
  have d0 := h.blk.cell 0
  simp only [List.getElem?_toArray, List.getElem?_cons_zero] at d0
  clear h
  refine callsR fun R hR => ?_
  go_enter Tryz.func95, Tryz.ntmps95
  go_wp2_with fail
  exact hR.out _ _ ⟨rfl, rfl⟩
theorem pool_new_thing (places : Int) (n : Nat) (w : World) (hn : (n : Int) = max 0 (min places 65536)) :
    Calls Tryz.prog 87 #[.int .i64 places] w fun e w' => ∃ p, e = .returned (.pointer (some ⟨p, 0, none⟩)) ∧ PoolIs w' 161 163 3 5 (fun (v : V3) => [Value.int .i64 v.a, Value.int .i64 v.b, Value.int .i64 v.c]) p (.slice none 0 0) (.slice none 0 0) ⟨n, [], []⟩ ∧ w.heap.size ≤ p ∧ Below w.heap.size w w' := by
  have h2 : n ≤ 65536 := by omega
  have HN := Lib.hid hn; clear hn
  refine callsR fun R hR => ?_
  go_enter Tryz.func87, Tryz.ntmps87
  go_wp2_with fail
  refine hR.out _ _ ⟨w.heap.size, rfl, ⟨?_, TabIs.nil _ _ _ _, TabIs.nil _ _ _ _, PSt.WF.empty n h2⟩, Nat.le_refl _, (Below.refl _ _).alloc (Nat.le_refl _) _⟩
  have h := Blk.new w 161 #[.int .i64 (n : Int), .slice none 0 0, .slice none 0 0]
  rw [HN.out] at h
  show Blk _ _ _ #[.int .i64 (n : Int), _, _]
  rw [HN.out]
  exact h
end Go.Proofs.YtognmhgdegpdiaaGreat
end
section
/- The pool of Thing, more: what each method does to the places that it holds. -/
namespace Go.Proofs.YtognmhgdegpdiaaGreat
open Go.RowKit
set_option linter.unusedVariables false
set_option linter.unusedSimpArgs false
set_option maxRecDepth 100000
theorem pool_take_full_thing (p : Nat) (lv fv : Value) (s : PSt V3) (v : V3) (w : World) (h : PoolIs w 161 163 3 5 (fun (v : V3) => [Value.int .i64 v.a, Value.int .i64 v.b, Value.int .i64 v.c]) p lv fv s) (hf : s.free = []) (hfull : s.most ≤ s.l.length) :
    Calls Tryz.prog 96 #[.pointer (some ⟨p, 0, none⟩), Value.agg #[.int .i64 v.a, .int .i64 v.b, .int .i64 v.c]] w fun e w' => e = .returned (.tuple #[.agg #[.int .i64 0, .int .i64 0], .bool false]) ∧ Below w.heap.size w w' := by
  have hp := h.blk.lt
  obtain ⟨A, c, rfl, hc, hA⟩ := h.lform
  obtain ⟨A2, c2, rfl, hc2, _⟩ := h.fform
  rw [hf] at h
  have hm := h.wf.le
  have hm2 := h.wf.most
  have d0 := h.blk.cell 0
  have d1 := h.blk.cell 1
  have d2 := h.blk.cell 2
  simp only [List.getElem?_toArray, List.getElem?_cons_zero, List.getElem?_cons_succ, List.length_nil] at d0 d1 d2
  have hd : decide ((s.most : Int) ≤ s.l.length) = true := by simp; omega
  clear h hA
  refine callsR fun R hR => ?_
  go_enter Tryz.func96, Tryz.ntmps96
  go_wp2_with fail
  exact bodyPost_ret (v := .tuple #[.agg #[.int .i64 0, .int .i64 0], .bool false]) (by simp [results, Tryz.results96, go_sem]) rfl (hR.out _ _ ⟨rfl, ((Below.refl _ _).alloc (Nat.le_refl _) _).alloc (by simp) _⟩)
set_option maxHeartbeats 4000000 in
theorem pool_take_fresh_thing (p : Nat) (lv fv : Value) (s : PSt V3) (v : V3) (w : World) (h : PoolIs w 161 163 3 5 (fun (v : V3) => [Value.int .i64 v.a, Value.int .i64 v.b, Value.int .i64 v.c]) p lv fv s) (hf : s.free = []) (hfull : s.l.length < s.most) :
    Calls Tryz.prog 96 #[.pointer (some ⟨p, 0, none⟩), Value.agg #[.int .i64 v.a, .int .i64 v.b, .int .i64 v.c]] w fun e w' => e = .returned (.tuple #[.agg #[.int .i64 s.l.length, .int .i64 1], .bool true]) ∧ ∃ lv' fv', PoolIs w' 161 163 3 5 (fun (v : V3) => [Value.int .i64 v.a, Value.int .i64 v.b, Value.int .i64 v.c]) p lv' fv' (s.fresh v) ∧ Chg (poolFp p lv fv) w w' ∧ Fresh (poolFp p lv fv) (poolFp p lv' fv') w := by
  have hp := h.blk.lt
  have hwf := h.wf.fresh v hfull
  obtain ⟨A, c, rfl, hc, hA⟩ := h.lform
  obtain ⟨A2, c2, rfl, hc2, _⟩ := h.fform
  have hfl : s.free.length = 0 := by rw [hf]; rfl
  have hm2 := h.wf.most
  have P0 := PP.start h (by decide) (by decide) (by decide)
  have d0 := h.blk.cell 0
  have d1 := h.blk.cell 1
  have d2 := h.blk.cell 2
  simp only [List.getElem?_toArray, List.getElem?_cons_zero, List.getElem?_cons_succ] at d0 d1 d2
  rw [hfl] at d2
  have hd : decide ((s.most : Int) ≤ s.l.length) = false := by simp; omega
  have hll : (s.l.map (Pl.cells (fun (v : V3) => [Value.int .i64 v.a, Value.int .i64 v.b, Value.int .i64 v.c]))).length = s.l.length := List.length_map _
  have PH := Lib.hid ((P0.alloc (.cells #[.int .i64 v.a, .int .i64 v.b, .int .i64 v.c] 130)).alloc (.cells #[.int .i64 0, .int .i64 0] 34)); clear P0
  have HW := Lib.hid hwf; clear hwf
  clear h hA
  refine callsR fun R hR => ?_
  go_enter Tryz.func96, Tryz.ntmps96
  go_wp2_with (at_builtin; refine wpList_push (by rfl) (.tmp 49) (.tmp 51) 159 (by rfl) 0 163 _ 5 40 Tryz.underlying159 info_place_thing (by rfl) (by decide) (.slice A s.l.length c) _ #[.int .i64 0, .bool false, .int .i64 0, .int .i64 0, .int .i64 0] (by rfl) (by exact PH.out.tab) (by rw [World.size_alloc, World.size_alloc]; rfl) (by rfl) (by simp [Value.oneCell']) (by omega) (by decide) (Nat.zero_le _) ?_; intro v' w' q1 q2 q3; have q4 := PH.out.pushL q1 q2 q3; obtain ⟨A', c', hv, hc', hA'⟩ := q1.form; simp only [List.length_append, List.length_map, List.length_singleton] at hv hc' hA'; obtain ⟨g', rfl, hg', _⟩ := hA' (by omega); subst hv; have b1 := q4.blk.cell 1; have fb1 := q4.blk.frozen 1; have rb0 := Blk.new1 w (.cells #[.int .i64 v.a, .int .i64 v.b, .int .i64 v.c] 130) 34 #[.int .i64 0, .int .i64 0]; have rb := rb0.chg q2 (fun hm => PH.out.tab.ne_blk rb0 (by decide) (by simpa using hm)); have rv0 := (Blk.new w 130 #[.int .i64 v.a, .int .i64 v.b, .int .i64 v.c]).alloc (.cells #[.int .i64 0, .int .i64 0] 34); have rv := rv0.chg q2 (fun hm => PH.out.tab.ne_blk rv0 (by decide) (by simpa using hm)); have hgp : g' ≠ p := fun e => q4.tab.ne_blk q4.blk q4.t1.symm (by simp [Value.ownBlock, e]); have hgr : g' ≠ w.heap.size + 1 := fun e => q4.tab.ne_blk rb (by decide) (by simp [Value.ownBlock, e]); have hgv : g' ≠ w.heap.size := fun e => q4.tab.ne_blk rv (by decide) (by simp [Value.ownBlock, e]); have hgr2 := hgr.symm; have hgv2 := hgv.symm; have hpr : p ≠ w.heap.size + 1 := (by omega); have hpv : p ≠ w.heap.size := (by omega); have Q4 := Lib.hid q4; have RB := Lib.hid rb; have RV := Lib.hid rv; have H1 := Lib.hid q1; clear q1 q2 q3 q4 rb rv rb0 rv0 PH; have r0 := RB.out.cell 0; have r1 := RB.out.cell 1; have fr0 := RB.out.frozen 0; have fr1 := RB.out.frozen 1; have hx0 : ((s.l.map (Pl.cells (fun (v : V3) => [Value.int .i64 v.a, Value.int .i64 v.b, Value.int .i64 v.c]))) ++ [([.int .i64 0, .bool false, .int .i64 0, .int .i64 0, .int .i64 0] : List Value)])[s.l.length]? = some ([.int .i64 0, .bool false, .int .i64 0, .int .i64 0, .int .i64 0] : List Value) := (by rw [List.getElem?_append_right (by rw [hll]; omega), hll, Nat.sub_self]; rfl); have e0 : w'.cell? ⟨g', s.l.length * 5, none⟩ = some (.int .i64 0) := Q4.out.tab.cell (j := 0) hx0 rfl; have e1 : w'.cell? ⟨g', s.l.length * 5 + 1, none⟩ = some (.bool false) := Q4.out.tab.cell (j := 1) hx0 rfl; have fe0 : w'.frozen? ⟨g', s.l.length * 5, none⟩ = false := Q4.out.tab.frozen _; have fe1 : w'.frozen? ⟨g', s.l.length * 5 + 1, none⟩ = false := Q4.out.tab.frozen _; have e2 : w'.cell? ⟨g', s.l.length * 5 + 2, none⟩ = some (.int .i64 0) := Q4.out.tab.cell (j := 2) hx0 rfl; have fe2 : w'.frozen? ⟨g', s.l.length * 5 + 2, none⟩ = false := Q4.out.tab.frozen _; have cv0 : w'.cell? ⟨w.heap.size, 0, none⟩ = some (.int .i64 v.a) := RV.out.cell 0; have e3 : w'.cell? ⟨g', s.l.length * 5 + 3, none⟩ = some (.int .i64 0) := Q4.out.tab.cell (j := 3) hx0 rfl; have fe3 : w'.frozen? ⟨g', s.l.length * 5 + 3, none⟩ = false := Q4.out.tab.frozen _; have cv1 : w'.cell? ⟨w.heap.size, 1, none⟩ = some (.int .i64 v.b) := RV.out.cell 1; have e4 : w'.cell? ⟨g', s.l.length * 5 + 4, none⟩ = some (.int .i64 0) := Q4.out.tab.cell (j := 4) hx0 rfl; have fe4 : w'.frozen? ⟨g', s.l.length * 5 + 4, none⟩ = false := Q4.out.tab.frozen _; have cv2 : w'.cell? ⟨w.heap.size, 2, none⟩ = some (.int .i64 v.c) := RV.out.cell 2;  have HX0 := Lib.hid hx0; clear hx0)
  have hlt : s.l.length < ((s.l.map (Pl.cells (fun (v : V3) => [Value.int .i64 v.a, Value.int .i64 v.b, Value.int .i64 v.c]))) ++ [([.int .i64 0, .bool false, .int .i64 0, .int .i64 0, .int .i64 0] : List Value)]).length := by rw [List.length_append, hll]; simp
  have P1 : PP w ((w'.setCell ⟨p, 1, none⟩ (.slice (some ⟨g', 0, none⟩) (s.l.length + 1) c')).setCell ⟨g', s.l.length * 5, none⟩ (.int .i64 1)) _ _ _ _ _ _ _ _ _ _ _ _ _ := (Q4.out.setL.setTab (j := 0) (.int .i64 1) HX0.out (by decide))
  have RV1 := (RV.out.far (p := ⟨p, 1, none⟩) hpv.symm (.slice (some ⟨g', 0, none⟩) (s.l.length + 1) c')).far (p := ⟨g', s.l.length * 5, none⟩) hgv2 (.int .i64 1)
  have RB1 := (RB.out.far (p := ⟨p, 1, none⟩) hpr.symm (.slice (some ⟨g', 0, none⟩) (s.l.length + 1) c')).far (p := ⟨g', s.l.length * 5, none⟩) hgr2 (.int .i64 1)
  clear r0 r1 fr0 fr1 e0 e1 fe0 fe1 b1 fb1 e2 e3 e4 fe2 fe3 fe4 cv0 cv1 cv2 RV RB Q4 HX0 H1 d0 d1 d2
  generalize ((w'.setCell ⟨p, 1, none⟩ (.slice (some ⟨g', 0, none⟩) (s.l.length + 1) c')).setCell ⟨g', s.l.length * 5, none⟩ (.int .i64 1)) = wy at P1 RV1 RB1 ⊢
  have r0 := RB1.cell 0
  have r1 := RB1.cell 1
  have fr0 := RB1.frozen 0
  have fr1 := RB1.frozen 1
  have hr1 := List.getElem?_set_self (a := ([.int .i64 0, .bool false, .int .i64 0, .int .i64 0, .int .i64 0] : List Value).set 0 (.int .i64 1)) hlt
  have y0 : wy.cell? ⟨g', s.l.length * 5, none⟩ = some (.int .i64 1) := P1.tab.cell (j := 0) hr1 rfl
  have y1 : wy.cell? ⟨g', s.l.length * 5 + 1, none⟩ = some (.bool false) := P1.tab.cell (j := 1) hr1 rfl
  have fy1 : wy.frozen? ⟨g', s.l.length * 5 + 1, none⟩ = false := P1.tab.frozen _
  have y2 : wy.cell? ⟨g', s.l.length * 5 + 2, none⟩ = some (.int .i64 0) := P1.tab.cell (j := 2) hr1 rfl
  have fy2 : wy.frozen? ⟨g', s.l.length * 5 + 2, none⟩ = false := P1.tab.frozen _
  have cv0 : wy.cell? ⟨w.heap.size, 0, none⟩ = some (.int .i64 v.a) := RV1.cell 0
  have y3 : wy.cell? ⟨g', s.l.length * 5 + 3, none⟩ = some (.int .i64 0) := P1.tab.cell (j := 3) hr1 rfl
  have fy3 : wy.frozen? ⟨g', s.l.length * 5 + 3, none⟩ = false := P1.tab.frozen _
  have cv1 : wy.cell? ⟨w.heap.size, 1, none⟩ = some (.int .i64 v.b) := RV1.cell 1
  have y4 : wy.cell? ⟨g', s.l.length * 5 + 4, none⟩ = some (.int .i64 0) := P1.tab.cell (j := 4) hr1 rfl
  have fy4 : wy.frozen? ⟨g', s.l.length * 5 + 4, none⟩ = false := P1.tab.frozen _
  have cv2 : wy.cell? ⟨w.heap.size, 2, none⟩ = some (.int .i64 v.c) := RV1.cell 2
  have P2 := P1.put (j := 1) (.bool true) hlt (by decide)
  have P2 := P2.put (j := 2) (.int .i64 v.a) hlt (by decide)
  have P2 := P2.put (j := 3) (.int .i64 v.b) hlt (by decide)
  have P2 := P2.put (j := 4) (.int .i64 v.c) hlt (by decide)
  have P2 := ((P2.beside (q := ⟨w.heap.size + 1, 0, none⟩) (Nat.le_succ _) hpr (P1.tab.ne_blk RB1 (by decide)) (P1.free.ne_blk RB1 (by decide)) (.int .i64 s.l.length)).beside (q := ⟨w.heap.size + 1, 1, none⟩) (Nat.le_succ _) hpr (P1.tab.ne_blk RB1 (by decide)) (P1.free.ne_blk RB1 (by decide)) (.int .i64 1))
  have PH := Lib.hid P2
  clear P1 P2 RV1 RB1 hr1
  have hfar : ∀ (W : World) (j k : Nat) (u : Value), (W.setCell ⟨g', k, none⟩ u).cell? ⟨w.heap.size, j, none⟩ = W.cell? ⟨w.heap.size, j, none⟩ := fun W j k u => cell_far (fun e => hgv (by simpa using e)) u
  go_region_held3 (fun wx => wx.cell? ⟨w.heap.size, 0, none⟩ = some (.int .i64 v.a) ∧ wx.cell? ⟨w.heap.size, 1, none⟩ = some (.int .i64 v.b) ∧ wx.cell? ⟨w.heap.size, 2, none⟩ = some (.int .i64 v.c)) (first | with_reducible exact ⟨cv0, cv1, cv2⟩ | (simp only [hfar, cell_drew1]; with_reducible exact ⟨cv0, cv1, cv2⟩)) (fail)
  clear hfar
  go_wp2_with fail
  have hE : ((s.l.map (Pl.cells (fun (v : V3) => [Value.int .i64 v.a, Value.int .i64 v.b, Value.int .i64 v.c]))) ++ [([.int .i64 0, .bool false, .int .i64 0, .int .i64 0, .int .i64 0] : List Value)]).set s.l.length (Pl.cells (fun (v : V3) => [Value.int .i64 v.a, Value.int .i64 v.b, Value.int .i64 v.c]) ⟨1, true, v⟩) = (s.fresh v).l.map (Pl.cells (fun (v : V3) => [Value.int .i64 v.a, Value.int .i64 v.b, Value.int .i64 v.c])) := by
    show _ = (s.l ++ [(⟨1, true, v⟩ : Pl V3)]).map (Pl.cells (fun (v : V3) => [Value.int .i64 v.a, Value.int .i64 v.b, Value.int .i64 v.c]))
    rw [List.map_append, List.set_append_right _ _ (by rw [hll]; omega), hll, Nat.sub_self]
    rfl
  have P3 := Eq.subst (motive := fun L => PP w _ _ _ _ _ _ _ _ _ _ _ _ L _) hE PH.out
  exact bodyPost_ret (v := .tuple #[.agg #[.int .i64 s.l.length, .int .i64 1], .bool true]) (by simp [results, Tryz.results96, go_sem, r0, r1]) rfl (hR.out _ _ ⟨rfl, _, _, PP.done (s := s.fresh v) (P3.drewN _) HW.out⟩)
set_option maxHeartbeats 4000000 in
theorem pool_take_back_thing (p : Nat) (lv fv : Value) (s : PSt V3) (v : V3) (i : Nat) (fs : List Nat) (x : Pl V3) (w : World) (h : PoolIs w 161 163 3 5 (fun (v : V3) => [Value.int .i64 v.a, Value.int .i64 v.b, Value.int .i64 v.c]) p lv fv s) (hf : s.free = fs ++ [i]) (hx : s.l[i]? = some x) :
    Calls Tryz.prog 96 #[.pointer (some ⟨p, 0, none⟩), Value.agg #[.int .i64 v.a, .int .i64 v.b, .int .i64 v.c]] w fun e w' => e = .returned (.tuple #[.agg #[.int .i64 i, .int .i64 (wrap64 (x.gen + 1))], .bool true]) ∧ ∃ lv' fv', PoolIs w' 161 163 3 5 (fun (v : V3) => [Value.int .i64 v.a, Value.int .i64 v.b, Value.int .i64 v.c]) p lv' fv' (s.retake i fs x v) ∧ Chg (poolFp p lv fv) w w' ∧ Fresh (poolFp p lv fv) (poolFp p lv' fv') w := by
  have hp := h.blk.lt
  have hwf := h.wf.retake v hf hx
  obtain ⟨A, c, rfl, hc, hA⟩ := h.lform
  obtain ⟨A2, c2, rfl, hc2, hA2⟩ := h.fform
  have hi : i < s.l.length := (List.getElem?_eq_some_iff.1 hx).1
  have hfl : s.free.length = fs.length + 1 := by rw [hf]; simp
  obtain ⟨g, rfl, hg⟩ := hA (by omega)
  obtain ⟨g2, rfl, hg2⟩ := hA2 (by omega)
  have hm := h.wf.le
  have hm2 := h.wf.most
  have hm3 := h.wf.free_le
  rw [hfl] at hm3
  have hL : (s.l.map (Pl.cells (fun (v : V3) => [Value.int .i64 v.a, Value.int .i64 v.b, Value.int .i64 v.c])))[i]? = some (Pl.cells (fun (v : V3) => [Value.int .i64 v.a, Value.int .i64 v.b, Value.int .i64 v.c]) x) := by rw [List.getElem?_map, hx]; rfl
  have hll : (s.l.map (Pl.cells (fun (v : V3) => [Value.int .i64 v.a, Value.int .i64 v.b, Value.int .i64 v.c]))).length = s.l.length := List.length_map _
  have P0 := PP.start h (by decide) (by decide) (by decide)
  rw [hfl] at P0 hc2
  have hF : (s.free.map fun (i : Nat) => [Value.int .i64 (i : Int)]) = (fs.map fun (i : Nat) => [Value.int .i64 (i : Int)]) ++ [[Value.int .i64 (i : Int)]] := by rw [hf, List.map_append]; rfl
  rw [hF] at P0
  have d0 := h.blk.cell 0
  have d1 := h.blk.cell 1
  have d2 := h.blk.cell 2
  simp only [List.getElem?_toArray, List.getElem?_cons_zero, List.getElem?_cons_succ] at d0 d1 d2
  rw [hfl] at d2
  have y : w.cell? ⟨g2, fs.length, none⟩ = some (.int .i64 i) := by
    have := P0.free.cell (i := fs.length) (j := 0) (r := [Value.int .i64 (i : Int)]) (by rw [List.getElem?_append_right (by simp)]; simp) rfl
    simpa using this
  have e0 : w.cell? ⟨g, i * 5, none⟩ = some (.int .i64 x.gen) := P0.tab.cell (j := 0) hL rfl
  have e1 : w.cell? ⟨g, i * 5 + 1, none⟩ = some (.bool x.taken) := P0.tab.cell (j := 1) hL rfl
  have e2 : w.cell? ⟨g, i * 5 + 2, none⟩ = some (.int .i64 x.v.a) := P0.tab.cell (j := 2) hL rfl
  have e3 : w.cell? ⟨g, i * 5 + 3, none⟩ = some (.int .i64 x.v.b) := P0.tab.cell (j := 3) hL rfl
  have e4 : w.cell? ⟨g, i * 5 + 4, none⟩ = some (.int .i64 x.v.c) := P0.tab.cell (j := 4) hL rfl
  have fe0 : w.frozen? ⟨g, i * 5, none⟩ = false := P0.tab.frozen _
  have fe1 : w.frozen? ⟨g, i * 5 + 1, none⟩ = false := P0.tab.frozen _
  have fe2 : w.frozen? ⟨g, i * 5 + 2, none⟩ = false := P0.tab.frozen _
  have fe3 : w.frozen? ⟨g, i * 5 + 3, none⟩ = false := P0.tab.frozen _
  have fe4 : w.frozen? ⟨g, i * 5 + 4, none⟩ = false := P0.tab.frozen _
  have b2 := h.blk.frozen 2
  have hgp : g ≠ p := fun e => P0.tab.ne_blk P0.blk P0.t1.symm (by simp [Value.ownBlock, e])
  have hgp2 : p ≠ g := fun e => hgp e.symm
  have P5 := PP.popF (F := fs.map fun (i : Nat) => [Value.int .i64 (i : Int)]) (r := [Value.int .i64 (i : Int)]) (by rw [List.length_map]; exact P0)
  rw [List.length_map] at P5
  have PH := Lib.hid P5; clear P0 P5
  have HW := Lib.hid hwf; clear hwf
  have HL := Lib.hid hL; clear hL
  have HX := Lib.hid hx
  clear h hA hA2 hf hx hF
  refine callsR fun R hR => ?_
  go_enter Tryz.func96, Tryz.ntmps96
  go_wp2_with fail
  have hlt : i < (s.l.map (Pl.cells (fun (v : V3) => [Value.int .i64 v.a, Value.int .i64 v.b, Value.int .i64 v.c]))).length := by rw [hll]; exact hi
  have P1 : PP w ((((w.setCell ⟨p, 2, none⟩ (.slice (some ⟨g2, 0, none⟩) fs.length c2)).setCell ⟨g, i * 5, none⟩ (.int .i64 (wrap64 (x.gen + 1)))).alloc (.cells #[.int .i64 v.a, .int .i64 v.b, .int .i64 v.c] 130)).alloc (.cells #[.int .i64 0, .int .i64 0] 34)) _ _ _ _ _ _ _ _ _ _ _ _ _ := ((PH.out.setF.setTab (j := 0) (.int .i64 (wrap64 (x.gen + 1))) HL.out (by decide)).alloc (.cells #[.int .i64 v.a, .int .i64 v.b, .int .i64 v.c] 130)).alloc (.cells #[.int .i64 0, .int .i64 0] 34)
  have hws : ((w.setCell ⟨p, 2, none⟩ (.slice (some ⟨g2, 0, none⟩) fs.length c2)).setCell ⟨g, i * 5, none⟩ (.int .i64 (wrap64 (x.gen + 1)))).heap.size = w.heap.size := by rw [World.size_setCell, World.size_setCell]
  have RV1 := (Blk.new ((w.setCell ⟨p, 2, none⟩ (.slice (some ⟨g2, 0, none⟩) fs.length c2)).setCell ⟨g, i * 5, none⟩ (.int .i64 (wrap64 (x.gen + 1)))) 130 #[.int .i64 v.a, .int .i64 v.b, .int .i64 v.c]).alloc (.cells #[.int .i64 0, .int .i64 0] 34)
  have RB1 := Blk.new1 ((w.setCell ⟨p, 2, none⟩ (.slice (some ⟨g2, 0, none⟩) fs.length c2)).setCell ⟨g, i * 5, none⟩ (.int .i64 (wrap64 (x.gen + 1)))) (.cells #[.int .i64 v.a, .int .i64 v.b, .int .i64 v.c] 130) 34 #[.int .i64 0, .int .i64 0]
  rw [hws] at RV1 RB1
  clear e0 e1 fe0 fe1 b2 y e2 e3 e4 fe2 fe3 fe4 PH HL d0 d1 d2 hws
  generalize ((((w.setCell ⟨p, 2, none⟩ (.slice (some ⟨g2, 0, none⟩) fs.length c2)).setCell ⟨g, i * 5, none⟩ (.int .i64 (wrap64 (x.gen + 1)))).alloc (.cells #[.int .i64 v.a, .int .i64 v.b, .int .i64 v.c] 130)).alloc (.cells #[.int .i64 0, .int .i64 0] 34)) = wy at P1 RV1 RB1 ⊢
  obtain ⟨gn, hgn⟩ : ∃ gn, wrap64 (x.gen + 1) = gn := ⟨_, rfl⟩
  rw [hgn] at P1 ⊢
  have HGN := Lib.hid hgn; clear hgn
  have hpr : p ≠ w.heap.size + 1 := by omega
  have r0 := RB1.cell 0
  have r1 := RB1.cell 1
  have fr0 := RB1.frozen 0
  have fr1 := RB1.frozen 1
  have hgr : g ≠ w.heap.size + 1 := fun e => P1.tab.ne_blk RB1 (by decide) (by simp [Value.ownBlock, e])
  have hgv : g ≠ w.heap.size := fun e => P1.tab.ne_blk RV1 (by decide) (by simp [Value.ownBlock, e])
  have hgr2 := hgr.symm
  have hgv2 := hgv.symm
  have hr1 := List.getElem?_set_self (a := (Pl.cells (fun (v : V3) => [Value.int .i64 v.a, Value.int .i64 v.b, Value.int .i64 v.c]) x).set 0 (.int .i64 gn)) hlt
  have y0 : wy.cell? ⟨g, i * 5, none⟩ = some (.int .i64 gn) := P1.tab.cell (j := 0) hr1 rfl
  have y1 : wy.cell? ⟨g, i * 5 + 1, none⟩ = some (.bool x.taken) := P1.tab.cell (j := 1) hr1 rfl
  have fy1 : wy.frozen? ⟨g, i * 5 + 1, none⟩ = false := P1.tab.frozen _
  have y2 : wy.cell? ⟨g, i * 5 + 2, none⟩ = some (.int .i64 x.v.a) := P1.tab.cell (j := 2) hr1 rfl
  have fy2 : wy.frozen? ⟨g, i * 5 + 2, none⟩ = false := P1.tab.frozen _
  have cv0 : wy.cell? ⟨w.heap.size, 0, none⟩ = some (.int .i64 v.a) := RV1.cell 0
  have y3 : wy.cell? ⟨g, i * 5 + 3, none⟩ = some (.int .i64 x.v.b) := P1.tab.cell (j := 3) hr1 rfl
  have fy3 : wy.frozen? ⟨g, i * 5 + 3, none⟩ = false := P1.tab.frozen _
  have cv1 : wy.cell? ⟨w.heap.size, 1, none⟩ = some (.int .i64 v.b) := RV1.cell 1
  have y4 : wy.cell? ⟨g, i * 5 + 4, none⟩ = some (.int .i64 x.v.c) := P1.tab.cell (j := 4) hr1 rfl
  have fy4 : wy.frozen? ⟨g, i * 5 + 4, none⟩ = false := P1.tab.frozen _
  have cv2 : wy.cell? ⟨w.heap.size, 2, none⟩ = some (.int .i64 v.c) := RV1.cell 2
  have P2 := P1.put (j := 1) (.bool true) hlt (by decide)
  have P2 := P2.put (j := 2) (.int .i64 v.a) hlt (by decide)
  have P2 := P2.put (j := 3) (.int .i64 v.b) hlt (by decide)
  have P2 := P2.put (j := 4) (.int .i64 v.c) hlt (by decide)
  have P2 := ((P2.beside (q := ⟨w.heap.size + 1, 0, none⟩) (Nat.le_succ _) hpr (P1.tab.ne_blk RB1 (by decide)) (P1.free.ne_blk RB1 (by decide)) (.int .i64 i)).beside (q := ⟨w.heap.size + 1, 1, none⟩) (Nat.le_succ _) hpr (P1.tab.ne_blk RB1 (by decide)) (P1.free.ne_blk RB1 (by decide)) (.int .i64 gn))
  have hE : (s.l.map (Pl.cells (fun (v : V3) => [Value.int .i64 v.a, Value.int .i64 v.b, Value.int .i64 v.c]))).set i (Pl.cells (fun (v : V3) => [Value.int .i64 v.a, Value.int .i64 v.b, Value.int .i64 v.c]) ⟨gn, true, v⟩) = (s.l.set i ⟨gn, true, v⟩).map (Pl.cells (fun (v : V3) => [Value.int .i64 v.a, Value.int .i64 v.b, Value.int .i64 v.c])) := by rw [List.map_set]
  have P3 := Eq.subst (motive := fun L => PP w _ _ _ _ _ _ _ _ _ _ _ _ L _) hE P2
  have PH := Lib.hid P3
  clear P1 P2 P3 RV1 RB1 hr1 hE
  have hfar : ∀ (W : World) (j k : Nat) (u : Value), (W.setCell ⟨g, k, none⟩ u).cell? ⟨w.heap.size, j, none⟩ = W.cell? ⟨w.heap.size, j, none⟩ := fun W j k u => cell_far (fun e => hgv (by simpa using e)) u
  go_region_held3 (fun wx => wx.cell? ⟨w.heap.size, 0, none⟩ = some (.int .i64 v.a) ∧ wx.cell? ⟨w.heap.size, 1, none⟩ = some (.int .i64 v.b) ∧ wx.cell? ⟨w.heap.size, 2, none⟩ = some (.int .i64 v.c)) (first | with_reducible exact ⟨cv0, cv1, cv2⟩ | (simp only [hfar, cell_drew1]; with_reducible exact ⟨cv0, cv1, cv2⟩)) (fail)
  clear hfar
  go_wp2_with fail
  have hgn := HGN.out
  clear HGN
  subst hgn
  exact bodyPost_ret (v := .tuple #[.agg #[.int .i64 i, .int .i64 (wrap64 (x.gen + 1))], .bool true]) (by simp [results, Tryz.results96, go_sem, r0, r1]) rfl (hR.out _ _ ⟨rfl, _, _, PP.done (s := s.retake i fs x v) (PH.out.drewN _) HW.out⟩)
end Go.Proofs.YtognmhgdegpdiaaGreat
end
section
/- The pool of Thing, more: what each method does to the places that it holds. -/
namespace Go.Proofs.YtognmhgdegpdiaaGreat
open Go.RowKit
set_option linter.unusedVariables false
set_option linter.unusedSimpArgs false
set_option maxRecDepth 100000
theorem pool_give_bad_thing (p : Nat) (lv fv : Value) (s : PSt V3) (a b : Int) (e0 : Int) (w : World) (h : PoolIs w 161 163 3 5 (fun (v : V3) => [Value.int .i64 v.a, Value.int .i64 v.b, Value.int .i64 v.c]) p lv fv s) (hl : s.look a b = e0) (he : e0 ≠ 0) :
    Calls Tryz.prog 160 #[.pointer (some ⟨p, 0, none⟩), .agg #[.int .i64 a, .int .i64 b]] w fun e w' => e = .returned (.tuple #[Value.agg #[.int .i64 0, .int .i64 0, .int .i64 0], .int .i64 e0]) ∧ Below w.heap.size w w' := by
  have HH := Lib.hid (((h.alloc (.cells #[.int .i64 a, .int .i64 b] 34)).alloc (.cells #[.int .i64 0, .int .i64 0, .int .i64 0] 130)).alloc (.cells #[.int .i64 0, .int .i64 0, .int .i64 0] 130))
  have HL := Lib.hid hl; clear hl
  have hb : (e0 != 0) = true := by simpa using he
  have HE := Lib.hid he; clear he h
  refine callsR fun R hR => ?_
  go_enter Tryz.func160, Tryz.ntmps160
  go_wp2_with fail
  refine Calls.mono (find_bad_thing p lv fv s a b e0 _ HH.out HL.out HE.out) ?_
  rintro e w2 ⟨rfl, hb2⟩
  have rc := ((Blk.new1 w (.cells #[.int .i64 a, .int .i64 b] 34) 130 #[.int .i64 0, .int .i64 0, .int .i64 0]).alloc (.cells #[.int .i64 0, .int .i64 0, .int .i64 0] 130)).chg (Chg.of_below hb2 []) (by simp)
  have rn := (Blk.new1 (w.alloc (.cells #[.int .i64 a, .int .i64 b] 34)) (.cells #[.int .i64 0, .int .i64 0, .int .i64 0] 130) 130 #[.int .i64 0, .int .i64 0, .int .i64 0]).chg (Chg.of_below hb2 []) (by simp)
  rw [World.size_alloc] at rn
  have lc := rc.lt
  have c0 : w2.cell? ⟨w.heap.size + 1, 0, none⟩ = some (.int .i64 0) := rc.cell 0
  have f0 := rc.frozen 0
  have n0 : w2.cell? ⟨w.heap.size + 1 + 1, 0, none⟩ = some (.int .i64 0) := rn.cell 0
  have c1 : w2.cell? ⟨w.heap.size + 1, 1, none⟩ = some (.int .i64 0) := rc.cell 1
  have f1 := rc.frozen 1
  have n1 : w2.cell? ⟨w.heap.size + 1 + 1, 1, none⟩ = some (.int .i64 0) := rn.cell 1
  have c2 : w2.cell? ⟨w.heap.size + 1, 2, none⟩ = some (.int .i64 0) := rc.cell 2
  have f2 := rc.frozen 2
  have n2 : w2.cell? ⟨w.heap.size + 1 + 1, 2, none⟩ = some (.int .i64 0) := rn.cell 2
  have C := ((((Chg.refl [] w).alloc (.cells #[.int .i64 a, .int .i64 b] 34)).alloc (.cells #[.int .i64 0, .int .i64 0, .int .i64 0] 130)).alloc (.cells #[.int .i64 0, .int .i64 0, .int .i64 0] 130)).trans (Chg.of_below hb2 [])
  have C := C.setCell (p := ⟨w.heap.size + 1, 0, none⟩) (.inr (Nat.le_succ _)) (.int .i64 0)
  have C := C.setCell (p := ⟨w.heap.size + 1, 1, none⟩) (.inr (Nat.le_succ _)) (.int .i64 0)
  have C := C.setCell (p := ⟨w.heap.size + 1, 2, none⟩) (.inr (Nat.le_succ _)) (.int .i64 0)
  have CC := Lib.hid C; clear hb2 rc rn C
  go_wp2_with fail
  exact bodyPost_ret (v := .tuple #[Value.agg #[.int .i64 0, .int .i64 0, .int .i64 0], .int .i64 e0]) (by simp [results, Tryz.results160, go_sem, lc, c0, c1, c2]) rfl (hR.out _ _ ⟨rfl, CC.out.below (by simp) (Nat.le_refl _)⟩)
set_option maxHeartbeats 4000000 in
theorem pool_give_ok_thing (p : Nat) (lv fv : Value) (s : PSt V3) (i : Nat) (x : Pl V3) (w : World) (h : PoolIs w 161 163 3 5 (fun (v : V3) => [Value.int .i64 v.a, Value.int .i64 v.b, Value.int .i64 v.c]) p lv fv s)
    (hx : s.l[i]? = some x) (ht : x.taken = true) (hg1 : 1 ≤ x.gen) :
    Calls Tryz.prog 160 #[.pointer (some ⟨p, 0, none⟩), .agg #[.int .i64 i, .int .i64 x.gen]] w fun e w' => e = .returned (.tuple #[(let v := x.v; Value.agg #[.int .i64 v.a, .int .i64 v.b, .int .i64 v.c]), .int .i64 0]) ∧ ∃ fv', PoolIs w' 161 163 3 5 (fun (v : V3) => [Value.int .i64 v.a, Value.int .i64 v.b, Value.int .i64 v.c]) p lv fv' (s.giveAt i x (⟨0, 0, 0⟩)) ∧ Chg (poolFp p lv fv) w w' ∧ Fresh (poolFp p lv fv) (poolFp p lv fv') w := by
  have hp := h.blk.lt
  obtain ⟨A, c, rfl, hc, hA⟩ := h.lform
  obtain ⟨A2, c2, rfl, hc2, _⟩ := h.fform
  have hi : i < s.l.length := (List.getElem?_eq_some_iff.1 hx).1
  obtain ⟨g, rfl, hg⟩ := hA (by omega)
  have hm := h.wf.le
  have hm2 := h.wf.most
  have hm3 := h.wf.free_le
  have hwf := h.wf.giveAt (⟨0, 0, 0⟩) hx ht
  have hL : (s.l.map (Pl.cells (fun (v : V3) => [Value.int .i64 v.a, Value.int .i64 v.b, Value.int .i64 v.c])))[i]? = some (Pl.cells (fun (v : V3) => [Value.int .i64 v.a, Value.int .i64 v.b, Value.int .i64 v.c]) x) := by rw [List.getElem?_map, hx]; rfl
  have P0 := PP.start h (by decide) (by decide) (by decide)
  have HH := Lib.hid (((h.alloc (.cells #[.int .i64 i, .int .i64 x.gen] 34)).alloc (.cells #[.int .i64 0, .int .i64 0, .int .i64 0] 130)).alloc (.cells #[.int .i64 0, .int .i64 0, .int .i64 0] 130)); clear h
  have HX := Lib.hid hx; clear hx
  have HT := Lib.hid ht; clear ht
  have HW := Lib.hid hwf; clear hwf
  have hll : (s.l.map (Pl.cells (fun (v : V3) => [Value.int .i64 v.a, Value.int .i64 v.b, Value.int .i64 v.c]))).length = s.l.length := List.length_map _
  have hfl : (s.free.map fun (i : Nat) => [Value.int .i64 (i : Int)]).length = s.free.length := List.length_map _
  obtain ⟨xg, xt, xv⟩ := x
  simp only at hL hg1 ⊢
  refine callsR fun R hR => ?_
  go_enter Tryz.func160, Tryz.ntmps160
  go_wp2_with fail
  refine Calls.mono (find_ok_thing p g _ c _ s i ⟨xg, xt, xv⟩ _ HH.out HX.out HT.out hg1) ?_
  rintro e w2 ⟨rfl, hb2⟩
  have P2 := (((P0.alloc (.cells #[.int .i64 i, .int .i64 xg] 34)).alloc (.cells #[.int .i64 0, .int .i64 0, .int .i64 0] 130)).alloc (.cells #[.int .i64 0, .int .i64 0, .int .i64 0] 130)).later hb2
  have rr := (((Blk.new w 34 #[.int .i64 i, .int .i64 xg]).alloc (.cells #[.int .i64 0, .int .i64 0, .int .i64 0] 130)).alloc (.cells #[.int .i64 0, .int .i64 0, .int .i64 0] 130)).chg (Chg.of_below hb2 []) (by simp)
  have rc := ((Blk.new1 w (.cells #[.int .i64 i, .int .i64 xg] 34) 130 #[.int .i64 0, .int .i64 0, .int .i64 0]).alloc (.cells #[.int .i64 0, .int .i64 0, .int .i64 0] 130)).chg (Chg.of_below hb2 []) (by simp)
  have rn := (Blk.new1 (w.alloc (.cells #[.int .i64 i, .int .i64 xg] 34)) (.cells #[.int .i64 0, .int .i64 0, .int .i64 0] 130) 130 #[.int .i64 0, .int .i64 0, .int .i64 0]).chg (Chg.of_below hb2 []) (by simp)
  rw [World.size_alloc] at rn
  have lc := rc.lt
  have ln := rn.lt
  have hp2 := P2.blk.lt
  have d2 := P2.blk.cell 2
  simp only [List.getElem?_toArray, List.getElem?_cons_zero, List.getElem?_cons_succ] at d2
  have hgp : g ≠ p := fun e => P2.tab.ne_blk P2.blk P2.t1.symm (by simp [Value.ownBlock, e])
  have hgr : g ≠ w.heap.size := fun e => P2.tab.ne_blk rr (by decide) (by simp [Value.ownBlock, e])
  have hgc : g ≠ w.heap.size + 1 := fun e => P2.tab.ne_blk rc (by decide) (by simp [Value.ownBlock, e])
  have hgn : g ≠ w.heap.size + 1 + 1 := fun e => P2.tab.ne_blk rn (by decide) (by simp [Value.ownBlock, e])
  have hgp2 := hgp.symm
  have hgr2 := hgr.symm
  have hgc2 := hgc.symm
  have hgn2 := hgn.symm
  have r0 : w2.cell? ⟨w.heap.size, 0, none⟩ = some (.int .i64 i) := rr.cell 0
  have g1 : w2.cell? ⟨g, i * 5 + 1, none⟩ = some (.bool xt) := P2.tab.cell (j := 1) hL rfl
  have fg1 : w2.frozen? ⟨g, i * 5 + 1, none⟩ = false := P2.tab.frozen _
  have g2 : w2.cell? ⟨g, i * 5 + 2, none⟩ = some (.int .i64 xv.a) := P2.tab.cell (j := 2) hL rfl
  have fg2 : w2.frozen? ⟨g, i * 5 + 2, none⟩ = false := P2.tab.frozen _
  have c0 : w2.cell? ⟨w.heap.size + 1, 0, none⟩ = some (.int .i64 0) := rc.cell 0
  have f0 := rc.frozen 0
  have n0 : w2.cell? ⟨w.heap.size + 1 + 1, 0, none⟩ = some (.int .i64 0) := rn.cell 0
  have g3 : w2.cell? ⟨g, i * 5 + 3, none⟩ = some (.int .i64 xv.b) := P2.tab.cell (j := 3) hL rfl
  have fg3 : w2.frozen? ⟨g, i * 5 + 3, none⟩ = false := P2.tab.frozen _
  have c1 : w2.cell? ⟨w.heap.size + 1, 1, none⟩ = some (.int .i64 0) := rc.cell 1
  have f1 := rc.frozen 1
  have n1 : w2.cell? ⟨w.heap.size + 1 + 1, 1, none⟩ = some (.int .i64 0) := rn.cell 1
  have g4 : w2.cell? ⟨g, i * 5 + 4, none⟩ = some (.int .i64 xv.c) := P2.tab.cell (j := 4) hL rfl
  have fg4 : w2.frozen? ⟨g, i * 5 + 4, none⟩ = false := P2.tab.frozen _
  have c2 : w2.cell? ⟨w.heap.size + 1, 2, none⟩ = some (.int .i64 0) := rc.cell 2
  have f2 := rc.frozen 2
  have n2 : w2.cell? ⟨w.heap.size + 1 + 1, 2, none⟩ = some (.int .i64 0) := rn.cell 2
  have PH := Lib.hid P2
  have RR := Lib.hid rr
  have RC := Lib.hid rc
  have RN := Lib.hid rn
  have HL := Lib.hid hL
  clear P0 P2 rr rc rn hb2 hL
  go_wp2_with fail
  have P3 := PH.out.alloc (.cells #[.int .i64 xv.a, .int .i64 xv.b, .int .i64 xv.c] 130)
  have rr := RR.out.alloc (.cells #[.int .i64 xv.a, .int .i64 xv.b, .int .i64 xv.c] 130)
  have rc := RC.out.alloc (.cells #[.int .i64 xv.a, .int .i64 xv.b, .int .i64 xv.c] 130)
  have rn := RN.out.alloc (.cells #[.int .i64 xv.a, .int .i64 xv.b, .int .i64 xv.c] 130)
  have rx := Blk.new w2 130 #[.int .i64 xv.a, .int .i64 xv.b, .int .i64 xv.c]
  have hws : w.heap.size ≤ w2.heap.size := by omega
  clear PH RR RC RN r0 g1 fg1 g2 g3 g4 fg2 fg3 fg4 n0 n1 n2 c0 c1 c2 f0 f1 f2 d2 hp2
  generalize w2.alloc (.cells #[.int .i64 xv.a, .int .i64 xv.b, .int .i64 xv.c] 130) = wy at P3 rr rc rn rx ⊢
  generalize w2.heap.size = bx at rx lc ln hws ⊢
  have hgx : g ≠ bx := fun e => P3.tab.ne_blk rx (by decide) (by simp [Value.ownBlock, e])
  have hpx : p ≠ bx := by omega
  have hx1 : bx ≠ w.heap.size + 1 := by omega
  have g1 : wy.cell? ⟨g, i * 5 + 1, none⟩ = some (.bool xt) := P3.tab.cell (j := 1) HL.out rfl
  have fg1 : wy.frozen? ⟨g, i * 5 + 1, none⟩ = false := P3.tab.frozen _
  have g2 : wy.cell? ⟨g, i * 5 + 2, none⟩ = some (.int .i64 xv.a) := P3.tab.cell (j := 2) HL.out rfl
  have fg2 : wy.frozen? ⟨g, i * 5 + 2, none⟩ = false := P3.tab.frozen _
  have n0 : wy.cell? ⟨w.heap.size + 1 + 1, 0, none⟩ = some (.int .i64 0) := rn.cell 0
  have g3 : wy.cell? ⟨g, i * 5 + 3, none⟩ = some (.int .i64 xv.b) := P3.tab.cell (j := 3) HL.out rfl
  have fg3 : wy.frozen? ⟨g, i * 5 + 3, none⟩ = false := P3.tab.frozen _
  have n1 : wy.cell? ⟨w.heap.size + 1 + 1, 1, none⟩ = some (.int .i64 0) := rn.cell 1
  have g4 : wy.cell? ⟨g, i * 5 + 4, none⟩ = some (.int .i64 xv.c) := P3.tab.cell (j := 4) HL.out rfl
  have fg4 : wy.frozen? ⟨g, i * 5 + 4, none⟩ = false := P3.tab.frozen _
  have n2 : wy.cell? ⟨w.heap.size + 1 + 1, 2, none⟩ = some (.int .i64 0) := rn.cell 2
  have hlt : i < (s.l.map (Pl.cells (fun (v : V3) => [Value.int .i64 v.a, Value.int .i64 v.b, Value.int .i64 v.c]))).length := by rw [hll]; exact hi
  have P4 := P3.setTab (j := 1) (.bool false) HL.out (by decide)
  have P4 := P4.put (j := 2) (.int .i64 0) hlt (by decide)
  have P4 := P4.put (j := 3) (.int .i64 0) hlt (by decide)
  have P4 := P4.put (j := 4) (.int .i64 0) hlt (by decide)
  have P4 := P4.drewN 1
  have hE : (s.l.map (Pl.cells (fun (v : V3) => [Value.int .i64 v.a, Value.int .i64 v.b, Value.int .i64 v.c]))).set i (Pl.cells (fun (v : V3) => [Value.int .i64 v.a, Value.int .i64 v.b, Value.int .i64 v.c]) ⟨xg, false, ⟨0, 0, 0⟩⟩) = (s.giveAt i ⟨xg, xt, xv⟩ (⟨0, 0, 0⟩)).l.map (Pl.cells (fun (v : V3) => [Value.int .i64 v.a, Value.int .i64 v.b, Value.int .i64 v.c])) := by
    simp only [PSt.giveAt, List.map_set]
  have P5 := Eq.subst (motive := fun L => PP w _ _ _ _ _ _ _ _ _ _ _ _ L _) hE P4
  have PH := Lib.hid P5
  have RR := Lib.hid rr
  have RC := Lib.hid rc
  have RX := Lib.hid rx
  clear P3 P4 P5 rr rc rn rx hE
  have hfar : ∀ (W : World) (j k : Nat) (u : Value), (W.setCell ⟨g, k, none⟩ u).cell? ⟨w.heap.size + 1 + 1, j, none⟩ = W.cell? ⟨w.heap.size + 1 + 1, j, none⟩ := fun W j k u => cell_far (fun e => hgn (by simpa using e)) u
  go_region_held3 (fun wx => wx.cell? ⟨w.heap.size + 1 + 1, 0, none⟩ = some (.int .i64 0) ∧ wx.cell? ⟨w.heap.size + 1 + 1, 1, none⟩ = some (.int .i64 0) ∧ wx.cell? ⟨w.heap.size + 1 + 1, 2, none⟩ = some (.int .i64 0)) (first | with_reducible exact ⟨n0, n1, n2⟩ | (simp only [hfar, cell_drew1]; with_reducible exact ⟨n0, n1, n2⟩)) (fail)
  clear hfar
  go_wp2_with fail
  have RR0 := RR.out.far (p := ⟨g, i * 5 + 1, none⟩) hgr2 (.bool false)
  have RR0 := RR0.far (p := ⟨g, i * 5 + 2, none⟩) hgr2 (.int .i64 0)
  have RR0 := RR0.far (p := ⟨g, i * 5 + 3, none⟩) hgr2 (.int .i64 0)
  have RR0 := RR0.far (p := ⟨g, i * 5 + 4, none⟩) hgr2 (.int .i64 0)
  have RR := Lib.hid (RR0.drewN 1)
  clear RR0
  have RC0 := RC.out.far (p := ⟨g, i * 5 + 1, none⟩) hgc2 (.bool false)
  have RC0 := RC0.far (p := ⟨g, i * 5 + 2, none⟩) hgc2 (.int .i64 0)
  have RC0 := RC0.far (p := ⟨g, i * 5 + 3, none⟩) hgc2 (.int .i64 0)
  have RC0 := RC0.far (p := ⟨g, i * 5 + 4, none⟩) hgc2 (.int .i64 0)
  have RC := Lib.hid (RC0.drewN 1)
  clear RC0
  have RX0 := RX.out.far (p := ⟨g, i * 5 + 1, none⟩) hgx.symm (.bool false)
  have RX0 := RX0.far (p := ⟨g, i * 5 + 2, none⟩) hgx.symm (.int .i64 0)
  have RX0 := RX0.far (p := ⟨g, i * 5 + 3, none⟩) hgx.symm (.int .i64 0)
  have RX0 := RX0.far (p := ⟨g, i * 5 + 4, none⟩) hgx.symm (.int .i64 0)
  have RX := Lib.hid (RX0.drewN 1)
  clear RX0
  clear g1 fg1 g2 g3 g4 fg2 fg3 fg4 n0 n1 n2
  refine letW (G := fun W => Code.wp _ _ _ _ W) (P := fun W => PP w W 161 163 3 5 p s.most (poolFp p (.slice (some ⟨g, 0, none⟩) s.l.length c) (.slice A2 s.free.length c2)) (.slice (some ⟨g, 0, none⟩) s.l.length c) (.slice A2 s.free.length c2) (.slice (some ⟨g, 0, none⟩) s.l.length c) (.slice A2 s.free.length c2) ((s.giveAt i ⟨xg, xt, xv⟩ (⟨0, 0, 0⟩)).l.map (Pl.cells (fun (v : V3) => [Value.int .i64 v.a, Value.int .i64 v.b, Value.int .i64 v.c]))) (s.free.map fun (i : Nat) => [Value.int .i64 (i : Int)]) ∧ Blk W w.heap.size 34 #[.int .i64 i, .int .i64 xg] ∧ Blk W (w.heap.size + 1) 130 #[.int .i64 0, .int .i64 0, .int .i64 0] ∧ Blk W bx 130 #[.int .i64 xv.a, .int .i64 xv.b, .int .i64 xv.c]) ⟨PH.out, RR.out, RC.out, RX.out⟩ fun wz hz => ?_
  clear PH RR RC RX
  obtain ⟨P6, rr, rc, rx⟩ := hz
  have hp2 := P6.blk.lt
  have lr := rr.lt
  have d2 := P6.blk.cell 2
  simp only [List.getElem?_toArray, List.getElem?_cons_zero, List.getElem?_cons_succ] at d2
  have r0 : wz.cell? ⟨w.heap.size, 0, none⟩ = some (.int .i64 i) := rr.cell 0
  have hE2 : (s.free.map fun (i : Nat) => [Value.int .i64 (i : Int)]) ++ [#[Value.int .i64 (i : Int)].toList] = (s.giveAt i ⟨xg, xt, xv⟩ (⟨0, 0, 0⟩)).free.map fun (i : Nat) => [Value.int .i64 (i : Int)] := by
    simp only [PSt.giveAt, List.map_append]
    rfl
  have PH := Lib.hid P6
  have RC := Lib.hid rc
  have RX := Lib.hid rx
  clear P6 rr rc rx
  go_region_law (refine step_push_drew (o := ⟨some 39, _, _, _, _, _⟩) (by rfl) (.tmp 35) (.tmp 38) 45 (by rfl) 0 3 _ 1 8 Tryz.underlying45 info_int_ (by rfl) (by decide) (.slice A2 s.free.length c2) _ #[.int .i64 i] (by rfl) (by exact PH.out.free) (by rfl) (by rfl) (by simp [Value.oneCell']) (by omega) (by decide) (Nat.zero_le _) ?_; intro v' w' q1 q2 q3; have q4 := (PH.out.drewN 1).pushF q1 q2 q3; have b5 := q4.blk.cell 2; have f5 := q4.blk.frozen 2; rw [hE2] at q4; have rc := (RC.out.drewN 1).chg q2 (fun hm => PH.out.free.ne_blk RC.out (by decide) (by simpa using hm)); have rx := (RX.out.drewN 1).chg q2 (fun hm => PH.out.free.ne_blk RX.out (by decide) (by simpa using hm)); have Q4 := Lib.hid q4.setF; have NT := q4.tab.ne_blk rc (by decide); have NF := q4.free.ne_blk rc (by decide); obtain ⟨_, _, hv, _, _⟩ := q1.form; simp only [List.length_append, List.length_map, List.length_singleton] at hv; subst hv; clear q1 q2 q3 q4)
  all_goals
    have hpc : p ≠ w.heap.size + 1 := by omega
    have hpc2 := hpc.symm
    have hpx2 := hpx.symm
    have x0 : w'.cell? ⟨bx, 0, none⟩ = some (.int .i64 xv.a) := rx.cell 0
    have c0 : w'.cell? ⟨w.heap.size + 1, 0, none⟩ = some (.int .i64 0) := rc.cell 0
    have f0 := rc.frozen 0
    have x1 : w'.cell? ⟨bx, 1, none⟩ = some (.int .i64 xv.b) := rx.cell 1
    have c1 : w'.cell? ⟨w.heap.size + 1, 1, none⟩ = some (.int .i64 0) := rc.cell 1
    have f1 := rc.frozen 1
    have x2 : w'.cell? ⟨bx, 2, none⟩ = some (.int .i64 xv.c) := rx.cell 2
    have c2 : w'.cell? ⟨w.heap.size + 1, 2, none⟩ = some (.int .i64 0) := rc.cell 2
    have f2 := rc.frozen 2
    go_wp2_with fail
    have Q5 := Q4.out
    have Q5 := Q5.beside (q := ⟨w.heap.size + 1, 0, none⟩) (Nat.le_succ _) hpc NT NF (.int .i64 xv.a)
    have Q5 := Q5.beside (q := ⟨w.heap.size + 1, 1, none⟩) (Nat.le_succ _) hpc NT NF (.int .i64 xv.b)
    have Q5 := Q5.beside (q := ⟨w.heap.size + 1, 2, none⟩) (Nat.le_succ _) hpc NT NF (.int .i64 xv.c)
    exact bodyPost_ret (v := .tuple #[(let v := xv; Value.agg #[.int .i64 v.a, .int .i64 v.b, .int .i64 v.c]), .int .i64 0]) (by simp [results, Tryz.results160, go_sem, lc, c0, c1, c2]) rfl (hR.out _ _ ⟨rfl, _, Q5.done HW.out⟩)
end Go.Proofs.YtognmhgdegpdiaaGreat
end
section
/- The pool of Thing, more: what each method does to the places that it holds. -/
namespace Go.Proofs.YtognmhgdegpdiaaGreat
open Go.RowKit
set_option linter.unusedVariables false
set_option linter.unusedSimpArgs false
set_option maxRecDepth 100000
end Go.Proofs.YtognmhgdegpdiaaGreat
end
section
/- The pool of Thing, more: what each method does to the places that it holds. -/
namespace Go.Proofs.YtognmhgdegpdiaaGreat
open Go.RowKit
set_option linter.unusedVariables false
set_option linter.unusedSimpArgs false
set_option maxRecDepth 100000
theorem pool_give_thing (p : Nat) (lv fv : Value) (s : PSt V3) (a b : Int) (w : World) (h : PoolIs w 161 163 3 5 (fun (v : V3) => [Value.int .i64 v.a, Value.int .i64 v.b, Value.int .i64 v.c]) p lv fv s) :
    Calls Tryz.prog 160 #[.pointer (some ⟨p, 0, none⟩), .agg #[.int .i64 a, .int .i64 b]] w fun e w' => ∃ (v : V3) (e0 : Int) (fv' : Value) (s' : PSt V3), e = .returned (.tuple #[Value.agg #[.int .i64 v.a, .int .i64 v.b, .int .i64 v.c], .int .i64 e0]) ∧ GiveR ⟨0, 0, 0⟩ s a b v e0 s' ∧
      PoolIs w' 161 163 3 5 (fun (v : V3) => [Value.int .i64 v.a, Value.int .i64 v.b, Value.int .i64 v.c]) p lv fv' s' ∧ Chg (poolFp p lv fv) w w' ∧ Fresh (poolFp p lv fv) (poolFp p lv fv') w := by
  by_cases he : s.look a b = 0
  · obtain ⟨i, x, rfl, hx, rfl, ht, hg⟩ := PSt.look_zero he
    refine Calls.mono (pool_give_ok_thing p lv fv s i x w h hx ht hg) ?_
    rintro e w3 ⟨rfl, fv', q1, q2, q3⟩
    exact ⟨x.v, 0, fv', _, rfl, .inr ⟨i, x, rfl, rfl, hx, ht, hg, rfl, rfl, rfl⟩, q1, q2, q3⟩
  · refine Calls.mono (pool_give_bad_thing p lv fv s a b _ w h rfl he) ?_
    rintro e w3 ⟨rfl, q1⟩
    exact ⟨⟨0, 0, 0⟩, _, fv, s, rfl, .inl ⟨he, rfl, rfl, rfl⟩, h.later q1, Chg.of_below q1 _, Fresh.refl _ _⟩
theorem pool_take_thing (p : Nat) (lv fv : Value) (s : PSt V3) (v : V3) (w : World) (h : PoolIs w 161 163 3 5 (fun (v : V3) => [Value.int .i64 v.a, Value.int .i64 v.b, Value.int .i64 v.c]) p lv fv s) :
    Calls Tryz.prog 96 #[.pointer (some ⟨p, 0, none⟩), Value.agg #[.int .i64 v.a, .int .i64 v.b, .int .i64 v.c]] w fun e w' => ∃ (a g : Int) (ok : Bool) (lv' fv' : Value) (s' : PSt V3), e = .returned (.tuple #[.agg #[.int .i64 a, .int .i64 g], .bool ok]) ∧ TakeR s v a g ok s' ∧
      PoolIs w' 161 163 3 5 (fun (v : V3) => [Value.int .i64 v.a, Value.int .i64 v.b, Value.int .i64 v.c]) p lv' fv' s' ∧ Chg (poolFp p lv fv) w w' ∧ Fresh (poolFp p lv fv) (poolFp p lv' fv') w := by
  rcases List.eq_nil_or_concat s.free with hf | ⟨fs, i, hf⟩
  · by_cases hlt : s.l.length < s.most
    · refine Calls.mono (pool_take_fresh_thing p lv fv s v w h hf hlt) ?_
      rintro e w3 ⟨rfl, lv', fv', q1, q2, q3⟩
      exact ⟨_, _, _, lv', fv', _, rfl, .inr (.inl ⟨hf, hlt, rfl, rfl, rfl, rfl⟩), q1, q2, q3⟩
    · refine Calls.mono (pool_take_full_thing p lv fv s v w h hf (by omega)) ?_
      rintro e w3 ⟨rfl, q1⟩
      exact ⟨_, _, _, lv, fv, _, rfl, .inl ⟨hf, by omega, rfl, rfl, rfl, rfl⟩, h.later q1, Chg.of_below q1 _, Fresh.refl _ _⟩
  · have hf2 : s.free = fs ++ [i] := by simpa using hf
    obtain ⟨x, hx, _⟩ := h.wf.free_lt (i := i) (by rw [hf2]; simp)
    refine Calls.mono (pool_take_back_thing p lv fv s v i fs x w h hf2 hx) ?_
    rintro e w3 ⟨rfl, lv', fv', q1, q2, q3⟩
    exact ⟨_, _, _, lv', fv', _, rfl, .inr (.inr ⟨i, fs, x, hf2, hx, rfl, rfl, rfl, rfl⟩), q1, q2, q3⟩
end Go.Proofs.YtognmhgdegpdiaaGreat
end
