/- The pool of int64: what each method does to the places that it holds. -/
import Derived.Test.YtjabofofofddbaaPoolC
namespace Go.Proofs.Ytjabofofofddbaa
open Go.RowKit
set_option maxRecDepth 100000
set_option maxHeartbeats 2000000 in
/-- No such place, or its life is over. -/
theorem find_bad_i64 (p : Nat) (lv fv : Value) (s : PSt Int) (a b : Int) (e0 : Int) (w : World) (h : PoolIs w 132 143 3 3 (fun (v : Int) => [Value.int .i64 v]) p lv fv s) (hl : s.look a b = e0) (he : e0 ≠ 0) :
    Calls Try.prog 87 #[.pointer (some ⟨p, 0, none⟩), .agg #[.int .i64 a, .int .i64 b]] w fun e w' => e = .returned (.tuple #[.pointer none, .int .i64 e0]) ∧ Below w.heap.size w w' := by
  have hp := h.blk.lt
  obtain ⟨A, c, rfl, hc, hA⟩ := h.lform
  have c1 := h.blk.cell 1
  simp only [List.getElem?_toArray, List.getElem?_cons_zero, List.getElem?_cons_succ] at c1
  have hm := h.wf.le
  have hm2 := h.wf.most
  have HH := Lib.hid h; clear h
  have HL := Lib.hid hl; clear hl
  have HE := Lib.hid he; clear he
  by_cases h1 : a < 0
  · have hd1 : decide (a < 0) = true := by simpa using h1
    have E : e0 = 22 := by rw [← HL.out]; unfold PSt.look; rw [if_pos (.inl h1)]
    subst E
    refine callsR fun R hR => ?_
    go_enter Try.func87, Try.ntmps87
    go_wp2_with fail
    go_quiet (fail)
    go_wp2_with fail
    exact hR.out _ _ ⟨rfl, below_drewN ((Below.refl _ _).alloc (Nat.le_refl _) _) _⟩
  · have hd1 : decide (a < 0) = false := by simpa using h1
    by_cases h2 : (s.l.length : Int) ≤ a
    · have hd2 : decide ((s.l.length : Int) ≤ a) = true := by simpa using h2
      have E : e0 = 22 := by rw [← HL.out]; unfold PSt.look; rw [if_pos (.inr (.inl h2))]
      subst E
      refine callsR fun R hR => ?_
      go_enter Try.func87, Try.ntmps87
      go_wp2_with fail
      go_quiet (fail)
      go_wp2_with fail
      exact hR.out _ _ ⟨rfl, below_drewN ((Below.refl _ _).alloc (Nat.le_refl _) _) _⟩
    · have hd2 : decide ((s.l.length : Int) ≤ a) = false := by simp; omega
      by_cases h3 : b < 1
      · have hd3 : decide (b < 1) = true := by simpa using h3
        have E : e0 = 22 := by rw [← HL.out]; unfold PSt.look; rw [if_pos (.inr (.inr h3))]
        subst E
        refine callsR fun R hR => ?_
        go_enter Try.func87, Try.ntmps87
        go_wp2_with fail
        go_quiet (fail)
        go_wp2_with fail
        exact hR.out _ _ ⟨rfl, below_drewN ((Below.refl _ _).alloc (Nat.le_refl _) _) _⟩
      · have hd3 : decide (b < 1) = false := by simp; omega
        obtain ⟨i, rfl⟩ : ∃ i : Nat, a = (i : Int) := ⟨a.toNat, by omega⟩
        have hi : i < s.l.length := by omega
        obtain ⟨g, rfl, hg⟩ := hA (by omega)
        obtain ⟨x, hx⟩ : ∃ x, s.l[i]? = some x := ⟨_, List.getElem?_eq_getElem hi⟩
        have hL : s.look i b = if x.gen < b then 22 else if b < x.gen ∨ x.taken = false then 23 else 0 := by
          unfold PSt.look
          rw [if_neg (by omega), Int.toNat_natCast, hx]
        rw [HL.out] at hL
        clear HL
        have tb := HH.out.tab
        have g0 : w.cell? ⟨g, i * 3, none⟩ = some (.int .i64 x.gen) := tb.cell (i := i) (j := 0) (r := Pl.cells (fun (v : Int) => [Value.int .i64 v]) x) (by rw [List.getElem?_map, hx]; rfl) rfl
        have g1 : w.cell? ⟨g, i * 3 + 1, none⟩ = some (.bool x.taken) := tb.cell (i := i) (j := 1) (r := Pl.cells (fun (v : Int) => [Value.int .i64 v]) x) (by rw [List.getElem?_map, hx]; rfl) rfl
        clear tb
        have HX := Lib.hid hx; clear hx
        obtain ⟨xg, xt, xv⟩ := x
        simp only at g0 g1 hL
        by_cases h4 : xg < b
        · have hd4 : decide (xg < b) = true := by simpa using h4
          rw [if_pos h4] at hL
          subst hL
          refine callsR fun R hR => ?_
          go_enter Try.func87, Try.ntmps87
          go_wp2_with fail
          go_quiet (fail)
          go_wp2_with fail
          exact hR.out _ _ ⟨rfl, below_drewN ((Below.refl _ _).alloc (Nat.le_refl _) _) _⟩
        · have hd4 : decide (xg < b) = false := by simp; omega
          rw [if_neg h4] at hL
          by_cases h5 : b < xg
          · have hd5 : decide (b < xg) = true := by simpa using h5
            rw [if_pos (.inl h5)] at hL
            subst hL
            refine callsR fun R hR => ?_
            go_enter Try.func87, Try.ntmps87
            go_wp2_with fail
            go_quiet (fail)
            go_wp2_with fail
            go_quiet (fail)
            go_wp2_with fail
            go_quiet (fail)
            go_wp2_with fail
            exact hR.out _ _ ⟨rfl, below_drewN (below_drewN (below_drewN ((Below.refl _ _).alloc (Nat.le_refl _) _) _) _) _⟩
          · have hd5 : decide (b < xg) = false := by simp; omega
            cases xt with
            | true => exact absurd (by rw [hL, if_neg (by simp [h5])]) HE.out
            | false =>
              rw [if_pos (.inr rfl)] at hL
              subst hL
              refine callsR fun R hR => ?_
              go_enter Try.func87, Try.ntmps87
              go_wp2_with fail
              go_quiet (fail)
              go_wp2_with fail
              go_quiet (fail)
              go_wp2_with fail
              go_quiet (fail)
              go_wp2_with fail
              exact hR.out _ _ ⟨rfl, below_drewN (below_drewN (below_drewN ((Below.refl _ _).alloc (Nat.le_refl _) _) _) _) _⟩

/-- A place that is taken, in this life. -/
theorem find_ok_i64 (p g n c : Nat) (fv : Value) (s : PSt Int) (i : Nat) (x : Pl Int) (w : World) (h : PoolIs w 132 143 3 3 (fun (v : Int) => [Value.int .i64 v]) p (.slice (some ⟨g, 0, none⟩) n c) fv s)
    (hx : s.l[i]? = some x) (ht : x.taken = true) (hg1 : 1 ≤ x.gen) :
    Calls Try.prog 87 #[.pointer (some ⟨p, 0, none⟩), .agg #[.int .i64 i, .int .i64 x.gen]] w fun e w' => e = .returned (.tuple #[.pointer (some ⟨g, i * 3, none⟩), .int .i64 0]) ∧ Below w.heap.size w w' := by
  have hp := h.blk.lt
  have hi : i < s.l.length := (List.getElem?_eq_some_iff.1 hx).1
  obtain ⟨A, c', hv, hc, hA⟩ := h.lform
  injection hv with e1 e2 e3
  subst e2 e3
  obtain ⟨g', hA', hg⟩ := hA (by omega)
  rw [← e1] at hA'
  injection hA' with hA'
  injection hA' with hA'
  subst hA'
  clear e1 hA
  have c1 := h.blk.cell 1
  simp only [List.getElem?_toArray, List.getElem?_cons_zero, List.getElem?_cons_succ] at c1
  have hm := h.wf.le
  have hm2 := h.wf.most
  have tb := h.tab
  have g0 : w.cell? ⟨g, i * 3, none⟩ = some (.int .i64 x.gen) := tb.cell (i := i) (j := 0) (r := Pl.cells (fun (v : Int) => [Value.int .i64 v]) x) (by rw [List.getElem?_map, hx]; rfl) rfl
  have g1 : w.cell? ⟨g, i * 3 + 1, none⟩ = some (.bool x.taken) := tb.cell (i := i) (j := 1) (r := Pl.cells (fun (v : Int) => [Value.int .i64 v]) x) (by rw [List.getElem?_map, hx]; rfl) rfl
  rw [ht] at g1
  clear tb hx ht
  have HH := Lib.hid h; clear h
  obtain ⟨xg, xt, xv⟩ := x
  simp only at g0 g1 hg1
  have hd1 : decide ((i : Int) < 0) = false := by simp
  have hd2 : decide ((s.l.length : Int) ≤ i) = false := by simp; omega
  have hd3 : decide (xg < 1) = false := by simp; omega
  have hd4 : decide (xg < xg) = false := by simp
  refine callsR fun R hR => ?_
  go_enter Try.func87, Try.ntmps87
  go_wp2_with fail
  go_quiet (fail)
  go_wp2_with fail
  go_quiet (fail)
  go_wp2_with fail
  go_quiet (fail)
  go_wp2_with fail
  exact hR.out _ _ ⟨rfl, below_drewN (below_drewN (below_drewN ((Below.refl _ _).alloc (Nat.le_refl _) _) _) _) _⟩

theorem info_place_i64 : (Try.prog.info? 143).map (fun i => (i.zero, i.size, i.bytes)) = some (some (.agg #[.int .i64 0, .bool false, .int .i64 0]), 3, 24) := by kernel_rfl

theorem pool_len_i64 (p : Nat) (lv fv : Value) (s : PSt Int) (w : World) (h : PoolIs w 132 143 3 3 (fun (v : Int) => [Value.int .i64 v]) p lv fv s) :
    Calls Try.prog 71 #[.pointer (some ⟨p, 0, none⟩)] w fun e w' => e = .returned (.int .i64 ((s.l.length : Int) - s.free.length)) ∧ ∃ k, w' = w.drewN k := by
  obtain ⟨A, c, rfl, hc, _⟩ := h.lform
  obtain ⟨A2, c2, rfl, hc2, _⟩ := h.fform
  have d1 := h.blk.cell 1
  have d2 := h.blk.cell 2
  simp only [List.getElem?_toArray, List.getElem?_cons_zero, List.getElem?_cons_succ] at d1 d2
  have hm := h.wf.le
  have hm2 := h.wf.most
  have hm3 := h.wf.free_le
  clear h
  refine callsR fun R hR => ?_
  go_enter Try.func71, Try.ntmps71
  go_wp2_with fail
  go_quiet (fail)
  go_wp2_with fail
  exact hR.out _ _ ⟨rfl, _, rfl⟩

theorem pool_places_i64 (p : Nat) (lv fv : Value) (s : PSt Int) (w : World) (h : PoolIs w 132 143 3 3 (fun (v : Int) => [Value.int .i64 v]) p lv fv s) :
    Calls Try.prog 41 #[.pointer (some ⟨p, 0, none⟩)] w fun e w' => e = .returned (.int .i64 (s.most : Int)) ∧ w = w' := by
  have d0 := h.blk.cell 0
  simp only [List.getElem?_toArray, List.getElem?_cons_zero] at d0
  clear h
  refine callsR fun R hR => ?_
  go_enter Try.func41, Try.ntmps41
  go_wp2_with fail
  exact hR.out _ _ ⟨rfl, rfl⟩

theorem pool_new_i64 (places : Int) (n : Nat) (w : World) (hn : (n : Int) = max 0 (min places 65536)) :
    Calls Try.prog 40 #[.int .i64 places] w fun e w' => ∃ p, e = .returned (.pointer (some ⟨p, 0, none⟩)) ∧ PoolIs w' 132 143 3 3 (fun (v : Int) => [Value.int .i64 v]) p (.slice none 0 0) (.slice none 0 0) ⟨n, [], []⟩ ∧ w.heap.size ≤ p ∧ Below w.heap.size w w' := by
  have h2 : n ≤ 65536 := by omega
  have HN := Lib.hid hn; clear hn
  refine callsR fun R hR => ?_
  go_enter Try.func40, Try.ntmps40
  go_wp2_with fail
  refine hR.out _ _ ⟨w.heap.size, rfl, ⟨?_, TabIs.nil _ _ _ _, TabIs.nil _ _ _ _, PSt.WF.empty n h2⟩, Nat.le_refl _, (Below.refl _ _).alloc (Nat.le_refl _) _⟩
  have h := Blk.new w 132 #[.int .i64 (n : Int), .slice none 0 0, .slice none 0 0]
  rw [HN.out] at h
  show Blk _ _ _ #[.int .i64 (n : Int), _, _]
  rw [HN.out]
  exact h

theorem pool_get_bad_i64 (p : Nat) (lv fv : Value) (s : PSt Int) (a b : Int) (e0 : Int) (w : World) (h : PoolIs w 132 143 3 3 (fun (v : Int) => [Value.int .i64 v]) p lv fv s) (hl : s.look a b = e0) (he : e0 ≠ 0) :
    Calls Try.prog 63 #[.pointer (some ⟨p, 0, none⟩), .agg #[.int .i64 a, .int .i64 b]] w fun e w' => e = .returned (.tuple #[Value.int .i64 0, .int .i64 e0]) ∧ Below w.heap.size w w' := by
  have HH := Lib.hid (h.alloc (.cells #[.int .i64 a, .int .i64 b] 57)); clear h
  have HL := Lib.hid hl; clear hl
  have hb : (e0 != 0) = true := by simpa using he
  have HE := Lib.hid he; clear he
  refine callsR fun R hR => ?_
  go_enter Try.func63, Try.ntmps63
  go_wp2_with fail
  refine Calls.mono (find_bad_i64 p lv fv s a b e0 _ HH.out HL.out HE.out) ?_
  rintro e w2 ⟨rfl, hb2⟩
  have B2 := Lib.hid hb2; clear hb2
  go_wp2_with fail
  exact hR.out _ _ ⟨rfl, ((Below.refl _ _).alloc (Nat.le_refl _) _).trans (B2.out.mono (by simp))⟩

theorem pool_get_ok_i64 (p : Nat) (lv fv : Value) (s : PSt Int) (i : Nat) (x : Pl Int) (w : World) (h : PoolIs w 132 143 3 3 (fun (v : Int) => [Value.int .i64 v]) p lv fv s)
    (hx : s.l[i]? = some x) (ht : x.taken = true) (hg1 : 1 ≤ x.gen) :
    Calls Try.prog 63 #[.pointer (some ⟨p, 0, none⟩), .agg #[.int .i64 i, .int .i64 x.gen]] w fun e w' => e = .returned (.tuple #[(let v := x.v; Value.int .i64 v), .int .i64 0]) ∧ Below w.heap.size w w' := by
  obtain ⟨A, c, rfl, hc, hA⟩ := h.lform
  obtain ⟨g, rfl, hg⟩ := hA (by have := (List.getElem?_eq_some_iff.1 hx).1; omega)
  have g2 : w.cell? ⟨g, i * 3 + 2, none⟩ = some (let v := x.v; Value.int .i64 v) := h.tab.cell (i := i) (j := 2) (r := Pl.cells (fun (v : Int) => [Value.int .i64 v]) x) (by rw [List.getElem?_map, hx]; rfl) rfl
  have HH := Lib.hid (h.alloc (.cells #[.int .i64 i, .int .i64 x.gen] 57)); clear h
  have HX := Lib.hid hx; clear hx
  have HT := Lib.hid ht; clear ht
  obtain ⟨xg, xt, xv⟩ := x
  simp only at g2 hg1 ⊢
  refine callsR fun R hR => ?_
  go_enter Try.func63, Try.ntmps63
  go_wp2_with fail
  refine Calls.mono (find_ok_i64 p g _ c fv s i ⟨xg, xt, xv⟩ _ HH.out HX.out HT.out hg1) ?_
  rintro e w2 ⟨rfl, hb2⟩
  have g3 : w2.cell? ⟨g, i * 3 + 2, none⟩ = some (Value.int .i64 xv) := (hb2.cell (p := ⟨g, i * 3 + 2, none⟩) (by simp; omega)).trans ((((Below.refl _ _).alloc (Nat.le_refl _) _).cell (p := ⟨g, i * 3 + 2, none⟩) hg).trans g2)
  have B2 := Lib.hid hb2; clear hb2
  go_wp2_with fail
  exact hR.out _ _ ⟨rfl, ((Below.refl _ _).alloc (Nat.le_refl _) _).trans (B2.out.mono (by simp))⟩

theorem pool_set_bad_i64 (p : Nat) (lv fv : Value) (s : PSt Int) (a b : Int) (v : Int) (e0 : Int) (w : World) (h : PoolIs w 132 143 3 3 (fun (v : Int) => [Value.int .i64 v]) p lv fv s) (hl : s.look a b = e0) (he : e0 ≠ 0) :
    Calls Try.prog 68 #[.pointer (some ⟨p, 0, none⟩), .agg #[.int .i64 a, .int .i64 b], Value.int .i64 v] w fun e w' => e = .returned (.int .i64 e0) ∧ Below w.heap.size w w' := by
  have HH := Lib.hid (h.alloc (.cells #[.int .i64 a, .int .i64 b] 57)); clear h
  have HL := Lib.hid hl; clear hl
  have hb : (e0 == 0) = false := by simpa using he
  have HE := Lib.hid he; clear he
  refine callsR fun R hR => ?_
  go_enter Try.func68, Try.ntmps68
  go_wp2_with fail
  refine Calls.mono (find_bad_i64 p lv fv s a b e0 _ HH.out HL.out HE.out) ?_
  rintro e w2 ⟨rfl, hb2⟩
  have B2 := Lib.hid hb2; clear hb2
  go_wp2_with fail
  exact hR.out _ _ ⟨rfl, ((Below.refl _ _).alloc (Nat.le_refl _) _).trans (B2.out.mono (by simp))⟩

theorem pool_set_ok_i64 (p : Nat) (lv fv : Value) (s : PSt Int) (i : Nat) (x : Pl Int) (v : Int) (w : World) (h : PoolIs w 132 143 3 3 (fun (v : Int) => [Value.int .i64 v]) p lv fv s)
    (hx : s.l[i]? = some x) (ht : x.taken = true) (hg1 : 1 ≤ x.gen) :
    Calls Try.prog 68 #[.pointer (some ⟨p, 0, none⟩), .agg #[.int .i64 i, .int .i64 x.gen], Value.int .i64 v] w fun e w' => e = .returned (.int .i64 0) ∧ PoolIs w' 132 143 3 3 (fun (v : Int) => [Value.int .i64 v]) p lv fv (s.setAt i x v) ∧ Chg (poolFp p lv fv) w w' := by
  have hfin : ∀ (W : World) (g n c : Nat), lv = .slice (some ⟨g, 0, none⟩) n c → Below w.heap.size w W → PoolIs (W.setCell ⟨g, i * 3 + 2, none⟩ (Value.int .i64 v)) 132 143 3 3 (fun (v : Int) => [Value.int .i64 v]) p lv fv (s.setAt i x v) ∧ Chg (poolFp p lv fv) w (W.setCell ⟨g, i * 3 + 2, none⟩ (Value.int .i64 v)) := by
    intro W g n c hlv hb
    subst hlv
    have h2 := h.later hb
    refine ⟨⟨h2.blk.far (p := ⟨g, i * 3 + 2, none⟩) (fun e => h2.tab.ne_blk h2.blk (by decide) (by simp [Value.ownBlock, e])) _, ?_, h2.free.far (p := ⟨g, i * 3 + 2, none⟩) (fun e => h2.tab.ne_tab h2.free (by decide) g (by simp [Value.ownBlock]) (by simp [e])) _, h2.wf.setAt v hx⟩, (Chg.of_below hb _).setCell (p := ⟨g, i * 3 + 2, none⟩) (.inl (by simp [poolFp, Value.ownBlock])) _⟩
    have h3 := h2.tab.set (i := i) (j := 2) (r := Pl.cells (fun (v : Int) => [Value.int .i64 v]) x) (Value.int .i64 v) (by rw [List.getElem?_map, hx]; rfl) (by omega)
    show TabIs _ _ _ _ _ ((s.l.set i ⟨x.gen, x.taken, v⟩).map (Pl.cells (fun (v : Int) => [Value.int .i64 v])))
    rw [List.map_set]
    exact h3
  obtain ⟨A, c, rfl, hc, hA⟩ := h.lform
  obtain ⟨g, rfl, hg⟩ := hA (by have := (List.getElem?_eq_some_iff.1 hx).1; omega)
  have g2 : w.cell? ⟨g, i * 3 + 2, none⟩ = some (let v := x.v; Value.int .i64 v) := h.tab.cell (i := i) (j := 2) (r := Pl.cells (fun (v : Int) => [Value.int .i64 v]) x) (by rw [List.getElem?_map, hx]; rfl) rfl
  have f2 := h.tab.frozen (i * 3 + 2)
  have HH := Lib.hid (h.alloc (.cells #[.int .i64 i, .int .i64 x.gen] 57)); clear h
  have HF := Lib.hid hfin; clear hfin
  have HX := Lib.hid hx; clear hx
  have HT := Lib.hid ht; clear ht
  obtain ⟨xg, xt, xv⟩ := x
  simp only at g2 hg1 ⊢
  refine callsR fun R hR => ?_
  go_enter Try.func68, Try.ntmps68
  go_wp2_with fail
  refine Calls.mono (find_ok_i64 p g _ c fv s i ⟨xg, xt, xv⟩ _ HH.out HX.out HT.out hg1) ?_
  rintro e w2 ⟨rfl, hb2⟩
  have be := ((Below.refl w.heap.size w).alloc (Nat.le_refl _) (.cells #[.int .i64 i, .int .i64 xg] 57)).trans (hb2.mono (by simp))
  have g3 : w2.cell? ⟨g, i * 3 + 2, none⟩ = some (Value.int .i64 xv) := (be.cell (p := ⟨g, i * 3 + 2, none⟩) hg).trans g2
  have f3 : w2.frozen? ⟨g, i * 3 + 2, none⟩ = false := (be.frozen (p := ⟨g, i * 3 + 2, none⟩) hg).trans f2
  have BE := Lib.hid be; clear be hb2
  go_wp2_with fail
  exact hR.out _ _ ⟨rfl, HF.out _ g _ c rfl BE.out⟩

end Go.Proofs.Ytjabofofofddbaa
