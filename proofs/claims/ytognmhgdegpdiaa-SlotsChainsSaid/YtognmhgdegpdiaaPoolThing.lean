/- The pool of Thing: what each method does to the places that it holds. -/
import Derived.Test.YtognmhgdegpdiaaPoolV
namespace Go.Proofs.Ytognmhgdegpdiaa
open Go.RowKit
set_option linter.unusedVariables false
set_option linter.unusedSimpArgs false
set_option maxRecDepth 100000
set_option maxHeartbeats 2000000 in
/-- No such place, or its life is over. -/
theorem find_bad_thing (p : Nat) (lv fv : Value) (s : PSt V3) (a b : Int) (e0 : Int) (w : World) (h : PoolIs w 90 97 3 5 (fun (v : V3) => [Value.int .i64 v.a, Value.int .i64 v.b, Value.int .i64 v.c]) p lv fv s) (hl : s.look a b = e0) (he : e0 ≠ 0) :
    Calls Try.prog 46 #[.pointer (some ⟨p, 0, none⟩), .agg #[.int .i64 a, .int .i64 b]] w fun e w' => e = .returned (.tuple #[.pointer none, .int .i64 e0]) ∧ Below w.heap.size w w' := by
  have hp := h.blk.lt
  obtain ⟨A, c, rfl, hc, hA⟩ := h.lform
  have c1 := h.blk.cell 1
  simp only [List.getElem?_toArray, List.getElem?_cons_zero, List.getElem?_cons_succ] at c1
  have hm := h.wf.le
  have hm2 := h.wf.most
  have HH := Lib.hid h; clear h
  have HL := Lib.hid hl; clear hl
  have HE := Lib.hid he; clear he
  by_cases h1 : a < 0
  · have hd1 : decide (a < 0) = true := by simpa using h1
    have E : e0 = 22 := by rw [← HL.out]; unfold PSt.look; rw [if_pos (.inl h1)]
    subst E
    refine callsR fun R hR => ?_
    go_enter Try.func46, Try.ntmps46
    go_wp2_with fail
    go_quiet (fail)
    go_wp2_with fail
    exact hR.out _ _ ⟨rfl, below_drewN ((Below.refl _ _).alloc (Nat.le_refl _) _) _⟩
  · have hd1 : decide (a < 0) = false := by simpa using h1
    by_cases h2 : (s.l.length : Int) ≤ a
    · have hd2 : decide ((s.l.length : Int) ≤ a) = true := by simpa using h2
      have E : e0 = 22 := by rw [← HL.out]; unfold PSt.look; rw [if_pos (.inr (.inl h2))]
      subst E
      refine callsR fun R hR => ?_
      go_enter Try.func46, Try.ntmps46
      go_wp2_with fail
      go_quiet (fail)
      go_wp2_with fail
      exact hR.out _ _ ⟨rfl, below_drewN ((Below.refl _ _).alloc (Nat.le_refl _) _) _⟩
    · have hd2 : decide ((s.l.length : Int) ≤ a) = false := by simp; omega
      by_cases h3 : b < 1
      · have hd3 : decide (b < 1) = true := by simpa using h3
        have E : e0 = 22 := by rw [← HL.out]; unfold PSt.look; rw [if_pos (.inr (.inr h3))]
        subst E
        refine callsR fun R hR => ?_
        go_enter Try.func46, Try.ntmps46
        go_wp2_with fail
        go_quiet (fail)
        go_wp2_with fail
        exact hR.out _ _ ⟨rfl, below_drewN ((Below.refl _ _).alloc (Nat.le_refl _) _) _⟩
      · have hd3 : decide (b < 1) = false := by simp; omega
        obtain ⟨i, rfl⟩ : ∃ i : Nat, a = (i : Int) := ⟨a.toNat, by omega⟩
        have hi : i < s.l.length := by omega
        obtain ⟨g, rfl, hg⟩ := hA (by omega)
        obtain ⟨x, hx⟩ : ∃ x, s.l[i]? = some x := ⟨_, List.getElem?_eq_getElem hi⟩
        have hL : s.look i b = if x.gen < b then 22 else if b < x.gen ∨ x.taken = false then 23 else 0 := by
          unfold PSt.look
          rw [if_neg (by omega), Int.toNat_natCast, hx]
        rw [HL.out] at hL
        clear HL
        have tb := HH.out.tab
        have g0 : w.cell? ⟨g, i * 5, none⟩ = some (.int .i64 x.gen) := tb.cell (i := i) (j := 0) (r := Pl.cells (fun (v : V3) => [Value.int .i64 v.a, Value.int .i64 v.b, Value.int .i64 v.c]) x) (by rw [List.getElem?_map, hx]; rfl) rfl
        have g1 : w.cell? ⟨g, i * 5 + 1, none⟩ = some (.bool x.taken) := tb.cell (i := i) (j := 1) (r := Pl.cells (fun (v : V3) => [Value.int .i64 v.a, Value.int .i64 v.b, Value.int .i64 v.c]) x) (by rw [List.getElem?_map, hx]; rfl) rfl
        clear tb
        have HX := Lib.hid hx; clear hx
        obtain ⟨xg, xt, xv⟩ := x
        simp only at g0 g1 hL
        by_cases h4 : xg < b
        · have hd4 : decide (xg < b) = true := by simpa using h4
          rw [if_pos h4] at hL
          subst hL
          refine callsR fun R hR => ?_
          go_enter Try.func46, Try.ntmps46
          go_wp2_with fail
          go_quiet (fail)
          go_wp2_with fail
          exact hR.out _ _ ⟨rfl, below_drewN ((Below.refl _ _).alloc (Nat.le_refl _) _) _⟩
        · have hd4 : decide (xg < b) = false := by simp; omega
          rw [if_neg h4] at hL
          by_cases h5 : b < xg
          · have hd5 : decide (b < xg) = true := by simpa using h5
            rw [if_pos (.inl h5)] at hL
            subst hL
            refine callsR fun R hR => ?_
            go_enter Try.func46, Try.ntmps46
            go_wp2_with fail
            go_quiet (fail)
            go_wp2_with fail
            go_quiet (fail)
            go_wp2_with fail
            go_quiet (fail)
            go_wp2_with fail
            exact hR.out _ _ ⟨rfl, below_drewN (below_drewN (below_drewN ((Below.refl _ _).alloc (Nat.le_refl _) _) _) _) _⟩
          · have hd5 : decide (b < xg) = false := by simp; omega
            cases xt with
            | true => exact absurd (by rw [hL, if_neg (by simp [h5])]) HE.out
            | false =>
              rw [if_pos (.inr rfl)] at hL
              subst hL
              refine callsR fun R hR => ?_
              go_enter Try.func46, Try.ntmps46
              go_wp2_with fail
              go_quiet (fail)
              go_wp2_with fail
              go_quiet (fail)
              go_wp2_with fail
              go_quiet (fail)
              go_wp2_with fail
              exact hR.out _ _ ⟨rfl, below_drewN (below_drewN (below_drewN ((Below.refl _ _).alloc (Nat.le_refl _) _) _) _) _⟩

/-- A place that is taken, in this life. -/
theorem find_ok_thing (p g n c : Nat) (fv : Value) (s : PSt V3) (i : Nat) (x : Pl V3) (w : World) (h : PoolIs w 90 97 3 5 (fun (v : V3) => [Value.int .i64 v.a, Value.int .i64 v.b, Value.int .i64 v.c]) p (.slice (some ⟨g, 0, none⟩) n c) fv s)
    (hx : s.l[i]? = some x) (ht : x.taken = true) (hg1 : 1 ≤ x.gen) :
    Calls Try.prog 46 #[.pointer (some ⟨p, 0, none⟩), .agg #[.int .i64 i, .int .i64 x.gen]] w fun e w' => e = .returned (.tuple #[.pointer (some ⟨g, i * 5, none⟩), .int .i64 0]) ∧ Below w.heap.size w w' := by
  have hp := h.blk.lt
  have hi : i < s.l.length := (List.getElem?_eq_some_iff.1 hx).1
  obtain ⟨A, c', hv, hc, hA⟩ := h.lform
  injection hv with e1 e2 e3
  subst e2 e3
  obtain ⟨g', hA', hg⟩ := hA (by omega)
  rw [← e1] at hA'
  injection hA' with hA'
  injection hA' with hA'
  subst hA'
  clear e1 hA
  have c1 := h.blk.cell 1
  simp only [List.getElem?_toArray, List.getElem?_cons_zero, List.getElem?_cons_succ] at c1
  have hm := h.wf.le
  have hm2 := h.wf.most
  have tb := h.tab
  have g0 : w.cell? ⟨g, i * 5, none⟩ = some (.int .i64 x.gen) := tb.cell (i := i) (j := 0) (r := Pl.cells (fun (v : V3) => [Value.int .i64 v.a, Value.int .i64 v.b, Value.int .i64 v.c]) x) (by rw [List.getElem?_map, hx]; rfl) rfl
  have g1 : w.cell? ⟨g, i * 5 + 1, none⟩ = some (.bool x.taken) := tb.cell (i := i) (j := 1) (r := Pl.cells (fun (v : V3) => [Value.int .i64 v.a, Value.int .i64 v.b, Value.int .i64 v.c]) x) (by rw [List.getElem?_map, hx]; rfl) rfl
  rw [ht] at g1
  clear tb hx ht
  have HH := Lib.hid h; clear h
  obtain ⟨xg, xt, xv⟩ := x
  simp only at g0 g1 hg1
  have hd1 : decide ((i : Int) < 0) = false := by simp
  have hd2 : decide ((s.l.length : Int) ≤ i) = false := by simp; omega
  have hd3 : decide (xg < 1) = false := by simp; omega
  have hd4 : decide (xg < xg) = false := by simp
  refine callsR fun R hR => ?_
  go_enter Try.func46, Try.ntmps46
  go_wp2_with fail
  go_quiet (fail)
  go_wp2_with fail
  go_quiet (fail)
  go_wp2_with fail
  go_quiet (fail)
  go_wp2_with fail
  exact hR.out _ _ ⟨rfl, below_drewN (below_drewN (below_drewN ((Below.refl _ _).alloc (Nat.le_refl _) _) _) _) _⟩

theorem info_place_thing : (Try.prog.info? 97).map (fun i => (i.zero, i.size, i.bytes)) = some (some (.agg #[.int .i64 0, .bool false, .int .i64 0, .int .i64 0, .int .i64 0]), 5, 40) := by kernel_rfl

theorem pool_len_thing (p : Nat) (lv fv : Value) (s : PSt V3) (w : World) (h : PoolIs w 90 97 3 5 (fun (v : V3) => [Value.int .i64 v.a, Value.int .i64 v.b, Value.int .i64 v.c]) p lv fv s) :
    Calls Try.prog 26 #[.pointer (some ⟨p, 0, none⟩)] w fun e w' => e = .returned (.int .i64 ((s.l.length : Int) - s.free.length)) ∧ ∃ k, w' = w.drewN k := by
  obtain ⟨A, c, rfl, hc, _⟩ := h.lform
  obtain ⟨A2, c2, rfl, hc2, _⟩ := h.fform
  have d1 := h.blk.cell 1
  have d2 := h.blk.cell 2
  simp only [List.getElem?_toArray, List.getElem?_cons_zero, List.getElem?_cons_succ] at d1 d2
  have hm := h.wf.le
  have hm2 := h.wf.most
  have hm3 := h.wf.free_le
  clear h
  refine callsR fun R hR => ?_
  go_enter Try.func26, Try.ntmps26
  go_wp2_with fail
  go_quiet (fail)
  go_wp2_with fail
  exact hR.out _ _ ⟨rfl, _, rfl⟩

theorem pool_places_thing (p : Nat) (lv fv : Value) (s : PSt V3) (w : World) (h : PoolIs w 90 97 3 5 (fun (v : V3) => [Value.int .i64 v.a, Value.int .i64 v.b, Value.int .i64 v.c]) p lv fv s) :
    Calls Try.prog 27 #[.pointer (some ⟨p, 0, none⟩)] w fun e w' => e = .returned (.int .i64 (s.most : Int)) ∧ w = w' := by
  have d0 := h.blk.cell 0
  simp only [List.getElem?_toArray, List.getElem?_cons_zero] at d0
  clear h
  refine callsR fun R hR => ?_
  go_enter Try.func27, Try.ntmps27
  go_wp2_with fail
  exact hR.out _ _ ⟨rfl, rfl⟩

theorem pool_new_thing (places : Int) (n : Nat) (w : World) (hn : (n : Int) = max 0 (min places 65536)) :
    Calls Try.prog 22 #[.int .i64 places] w fun e w' => ∃ p, e = .returned (.pointer (some ⟨p, 0, none⟩)) ∧ PoolIs w' 90 97 3 5 (fun (v : V3) => [Value.int .i64 v.a, Value.int .i64 v.b, Value.int .i64 v.c]) p (.slice none 0 0) (.slice none 0 0) ⟨n, [], []⟩ ∧ w.heap.size ≤ p ∧ Below w.heap.size w w' := by
  have h2 : n ≤ 65536 := by omega
  have HN := Lib.hid hn; clear hn
  refine callsR fun R hR => ?_
  go_enter Try.func22, Try.ntmps22
  go_wp2_with fail
  refine hR.out _ _ ⟨w.heap.size, rfl, ⟨?_, TabIs.nil _ _ _ _, TabIs.nil _ _ _ _, PSt.WF.empty n h2⟩, Nat.le_refl _, (Below.refl _ _).alloc (Nat.le_refl _) _⟩
  have h := Blk.new w 90 #[.int .i64 (n : Int), .slice none 0 0, .slice none 0 0]
  rw [HN.out] at h
  show Blk _ _ _ #[.int .i64 (n : Int), _, _]
  rw [HN.out]
  exact h


end Go.Proofs.Ytognmhgdegpdiaa
