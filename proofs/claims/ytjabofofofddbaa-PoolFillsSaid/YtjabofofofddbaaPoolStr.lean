/- The pool of string: what each method does to the places that it holds. -/
import Derived.Test.YtjabofofofddbaaPoolC
namespace Go.Proofs.Ytjabofofofddbaa
open Go.RowKit
set_option maxRecDepth 100000
set_option maxHeartbeats 2000000 in
/-- No such place, or its life is over. -/
theorem find_bad_str (p : Nat) (lv fv : Value) (s : PSt ByteArray) (a b : Int) (e0 : Int) (w : World) (h : PoolIs w 117 119 3 3 (fun (v : ByteArray) => [Value.string v]) p lv fv s) (hl : s.look a b = e0) (he : e0 ≠ 0) :
    Calls Try.prog 64 #[.pointer (some ⟨p, 0, none⟩), .agg #[.int .i64 a, .int .i64 b]] w fun e w' => e = .returned (.tuple #[.pointer none, .int .i64 e0]) ∧ Below w.heap.size w w' := by
  have hp := h.blk.lt
  obtain ⟨A, c, rfl, hc, hA⟩ := h.lform
  have c1 := h.blk.cell 1
  simp only [List.getElem?_toArray, List.getElem?_cons_zero, List.getElem?_cons_succ] at c1
  have hm := h.wf.le
  have hm2 := h.wf.most
  have HH := Lib.hid h; clear h
  have HL := Lib.hid hl; clear hl
  have HE := Lib.hid he; clear he
  by_cases h1 : a < 0
  · have hd1 : decide (a < 0) = true := by simpa using h1
    have E : e0 = 22 := by rw [← HL.out]; unfold PSt.look; rw [if_pos (.inl h1)]
    subst E
    refine callsR fun R hR => ?_
    go_enter Try.func64, Try.ntmps64
    go_wp2_with fail
    go_quiet (fail)
    go_wp2_with fail
    exact hR.out _ _ ⟨rfl, below_drewN ((Below.refl _ _).alloc (Nat.le_refl _) _) _⟩
  · have hd1 : decide (a < 0) = false := by simpa using h1
    by_cases h2 : (s.l.length : Int) ≤ a
    · have hd2 : decide ((s.l.length : Int) ≤ a) = true := by simpa using h2
      have E : e0 = 22 := by rw [← HL.out]; unfold PSt.look; rw [if_pos (.inr (.inl h2))]
      subst E
      refine callsR fun R hR => ?_
      go_enter Try.func64, Try.ntmps64
      go_wp2_with fail
      go_quiet (fail)
      go_wp2_with fail
      exact hR.out _ _ ⟨rfl, below_drewN ((Below.refl _ _).alloc (Nat.le_refl _) _) _⟩
    · have hd2 : decide ((s.l.length : Int) ≤ a) = false := by simp; omega
      by_cases h3 : b < 1
      · have hd3 : decide (b < 1) = true := by simpa using h3
        have E : e0 = 22 := by rw [← HL.out]; unfold PSt.look; rw [if_pos (.inr (.inr h3))]
        subst E
        refine callsR fun R hR => ?_
        go_enter Try.func64, Try.ntmps64
        go_wp2_with fail
        go_quiet (fail)
        go_wp2_with fail
        exact hR.out _ _ ⟨rfl, below_drewN ((Below.refl _ _).alloc (Nat.le_refl _) _) _⟩
      · have hd3 : decide (b < 1) = false := by simp; omega
        obtain ⟨i, rfl⟩ : ∃ i : Nat, a = (i : Int) := ⟨a.toNat, by omega⟩
        have hi : i < s.l.length := by omega
        obtain ⟨g, rfl, hg⟩ := hA (by omega)
        obtain ⟨x, hx⟩ : ∃ x, s.l[i]? = some x := ⟨_, List.getElem?_eq_getElem hi⟩
        have hL : s.look i b = if x.gen < b then 22 else if b < x.gen ∨ x.taken = false then 23 else 0 := by
          unfold PSt.look
          rw [if_neg (by omega), Int.toNat_natCast, hx]
        rw [HL.out] at hL
        clear HL
        have tb := HH.out.tab
        have g0 : w.cell? ⟨g, i * 3, none⟩ = some (.int .i64 x.gen) := tb.cell (i := i) (j := 0) (r := Pl.cells (fun (v : ByteArray) => [Value.string v]) x) (by rw [List.getElem?_map, hx]; rfl) rfl
        have g1 : w.cell? ⟨g, i * 3 + 1, none⟩ = some (.bool x.taken) := tb.cell (i := i) (j := 1) (r := Pl.cells (fun (v : ByteArray) => [Value.string v]) x) (by rw [List.getElem?_map, hx]; rfl) rfl
        clear tb
        have HX := Lib.hid hx; clear hx
        obtain ⟨xg, xt, xv⟩ := x
        simp only at g0 g1 hL
        by_cases h4 : xg < b
        · have hd4 : decide (xg < b) = true := by simpa using h4
          rw [if_pos h4] at hL
          subst hL
          refine callsR fun R hR => ?_
          go_enter Try.func64, Try.ntmps64
          go_wp2_with fail
          go_quiet (fail)
          go_wp2_with fail
          exact hR.out _ _ ⟨rfl, below_drewN ((Below.refl _ _).alloc (Nat.le_refl _) _) _⟩
        · have hd4 : decide (xg < b) = false := by simp; omega
          rw [if_neg h4] at hL
          by_cases h5 : b < xg
          · have hd5 : decide (b < xg) = true := by simpa using h5
            rw [if_pos (.inl h5)] at hL
            subst hL
            refine callsR fun R hR => ?_
            go_enter Try.func64, Try.ntmps64
            go_wp2_with fail
            go_quiet (fail)
            go_wp2_with fail
            go_quiet (fail)
            go_wp2_with fail
            go_quiet (fail)
            go_wp2_with fail
            exact hR.out _ _ ⟨rfl, below_drewN (below_drewN (below_drewN ((Below.refl _ _).alloc (Nat.le_refl _) _) _) _) _⟩
          · have hd5 : decide (b < xg) = false := by simp; omega
            cases xt with
            | true => exact absurd (by rw [hL, if_neg (by simp [h5])]) HE.out
            | false =>
              rw [if_pos (.inr rfl)] at hL
              subst hL
              refine callsR fun R hR => ?_
              go_enter Try.func64, Try.ntmps64
              go_wp2_with fail
              go_quiet (fail)
              go_wp2_with fail
              go_quiet (fail)
              go_wp2_with fail
              go_quiet (fail)
              go_wp2_with fail
              exact hR.out _ _ ⟨rfl, below_drewN (below_drewN (below_drewN ((Below.refl _ _).alloc (Nat.le_refl _) _) _) _) _⟩

/-- A place that is taken, in this life. -/
theorem find_ok_str (p g n c : Nat) (fv : Value) (s : PSt ByteArray) (i : Nat) (x : Pl ByteArray) (w : World) (h : PoolIs w 117 119 3 3 (fun (v : ByteArray) => [Value.string v]) p (.slice (some ⟨g, 0, none⟩) n c) fv s)
    (hx : s.l[i]? = some x) (ht : x.taken = true) (hg1 : 1 ≤ x.gen) :
    Calls Try.prog 64 #[.pointer (some ⟨p, 0, none⟩), .agg #[.int .i64 i, .int .i64 x.gen]] w fun e w' => e = .returned (.tuple #[.pointer (some ⟨g, i * 3, none⟩), .int .i64 0]) ∧ Below w.heap.size w w' := by
  have hp := h.blk.lt
  have hi : i < s.l.length := (List.getElem?_eq_some_iff.1 hx).1
  obtain ⟨A, c', hv, hc, hA⟩ := h.lform
  injection hv with e1 e2 e3
  subst e2 e3
  obtain ⟨g', hA', hg⟩ := hA (by omega)
  rw [← e1] at hA'
  injection hA' with hA'
  injection hA' with hA'
  subst hA'
  clear e1 hA
  have c1 := h.blk.cell 1
  simp only [List.getElem?_toArray, List.getElem?_cons_zero, List.getElem?_cons_succ] at c1
  have hm := h.wf.le
  have hm2 := h.wf.most
  have tb := h.tab
  have g0 : w.cell? ⟨g, i * 3, none⟩ = some (.int .i64 x.gen) := tb.cell (i := i) (j := 0) (r := Pl.cells (fun (v : ByteArray) => [Value.string v]) x) (by rw [List.getElem?_map, hx]; rfl) rfl
  have g1 : w.cell? ⟨g, i * 3 + 1, none⟩ = some (.bool x.taken) := tb.cell (i := i) (j := 1) (r := Pl.cells (fun (v : ByteArray) => [Value.string v]) x) (by rw [List.getElem?_map, hx]; rfl) rfl
  rw [ht] at g1
  clear tb hx ht
  have HH := Lib.hid h; clear h
  obtain ⟨xg, xt, xv⟩ := x
  simp only at g0 g1 hg1
  have hd1 : decide ((i : Int) < 0) = false := by simp
  have hd2 : decide ((s.l.length : Int) ≤ i) = false := by simp; omega
  have hd3 : decide (xg < 1) = false := by simp; omega
  have hd4 : decide (xg < xg) = false := by simp
  refine callsR fun R hR => ?_
  go_enter Try.func64, Try.ntmps64
  go_wp2_with fail
  go_quiet (fail)
  go_wp2_with fail
  go_quiet (fail)
  go_wp2_with fail
  go_quiet (fail)
  go_wp2_with fail
  exact hR.out _ _ ⟨rfl, below_drewN (below_drewN (below_drewN ((Below.refl _ _).alloc (Nat.le_refl _) _) _) _) _⟩

theorem info_place_str : (Try.prog.info? 119).map (fun i => (i.zero, i.size, i.bytes)) = some (some (.agg #[.int .i64 0, .bool false, .string ⟨#[]⟩]), 3, 32) := by kernel_rfl

theorem pool_len_str (p : Nat) (lv fv : Value) (s : PSt ByteArray) (w : World) (h : PoolIs w 117 119 3 3 (fun (v : ByteArray) => [Value.string v]) p lv fv s) :
    Calls Try.prog 38 #[.pointer (some ⟨p, 0, none⟩)] w fun e w' => e = .returned (.int .i64 ((s.l.length : Int) - s.free.length)) ∧ ∃ k, w' = w.drewN k := by
  obtain ⟨A, c, rfl, hc, _⟩ := h.lform
  obtain ⟨A2, c2, rfl, hc2, _⟩ := h.fform
  have d1 := h.blk.cell 1
  have d2 := h.blk.cell 2
  simp only [List.getElem?_toArray, List.getElem?_cons_zero, List.getElem?_cons_succ] at d1 d2
  have hm := h.wf.le
  have hm2 := h.wf.most
  have hm3 := h.wf.free_le
  clear h
  refine callsR fun R hR => ?_
  go_enter Try.func38, Try.ntmps38
  go_wp2_with fail
  go_quiet (fail)
  go_wp2_with fail
  exact hR.out _ _ ⟨rfl, _, rfl⟩


theorem pool_new_str (places : Int) (n : Nat) (w : World) (hn : (n : Int) = max 0 (min places 65536)) :
    Calls Try.prog 35 #[.int .i64 places] w fun e w' => ∃ p, e = .returned (.pointer (some ⟨p, 0, none⟩)) ∧ PoolIs w' 117 119 3 3 (fun (v : ByteArray) => [Value.string v]) p (.slice none 0 0) (.slice none 0 0) ⟨n, [], []⟩ ∧ w.heap.size ≤ p ∧ Below w.heap.size w w' := by
  have h2 : n ≤ 65536 := by omega
  have HN := Lib.hid hn; clear hn
  refine callsR fun R hR => ?_
  go_enter Try.func35, Try.ntmps35
  go_wp2_with fail
  refine hR.out _ _ ⟨w.heap.size, rfl, ⟨?_, TabIs.nil _ _ _ _, TabIs.nil _ _ _ _, PSt.WF.empty n h2⟩, Nat.le_refl _, (Below.refl _ _).alloc (Nat.le_refl _) _⟩
  have h := Blk.new w 117 #[.int .i64 (n : Int), .slice none 0 0, .slice none 0 0]
  rw [HN.out] at h
  show Blk _ _ _ #[.int .i64 (n : Int), _, _]
  rw [HN.out]
  exact h



theorem pool_give_bad_str (p : Nat) (lv fv : Value) (s : PSt ByteArray) (a b : Int) (e0 : Int) (w : World) (h : PoolIs w 117 119 3 3 (fun (v : ByteArray) => [Value.string v]) p lv fv s) (hl : s.look a b = e0) (he : e0 ≠ 0) :
    Calls Try.prog 37 #[.pointer (some ⟨p, 0, none⟩), .agg #[.int .i64 a, .int .i64 b]] w fun e w' => e = .returned (.tuple #[Value.string ⟨#[]⟩, .int .i64 e0]) ∧ Below w.heap.size w w' := by
  have HH := Lib.hid (h.alloc (.cells #[.int .i64 a, .int .i64 b] 57)); clear h
  have HL := Lib.hid hl; clear hl
  have hb : (e0 != 0) = true := by simpa using he
  have HE := Lib.hid he; clear he
  refine callsR fun R hR => ?_
  go_enter Try.func37, Try.ntmps37
  go_wp2_with fail
  refine Calls.mono (find_bad_str p lv fv s a b e0 _ HH.out HL.out HE.out) ?_
  rintro e w2 ⟨rfl, hb2⟩
  have B2 := Lib.hid hb2; clear hb2
  go_wp2_with fail
  exact hR.out _ _ ⟨rfl, ((Below.refl _ _).alloc (Nat.le_refl _) _).trans (B2.out.mono (by simp))⟩

theorem pool_give_ok_str (p : Nat) (lv fv : Value) (s : PSt ByteArray) (i : Nat) (x : Pl ByteArray) (w : World) (h : PoolIs w 117 119 3 3 (fun (v : ByteArray) => [Value.string v]) p lv fv s)
    (hx : s.l[i]? = some x) (ht : x.taken = true) (hg1 : 1 ≤ x.gen) :
    Calls Try.prog 37 #[.pointer (some ⟨p, 0, none⟩), .agg #[.int .i64 i, .int .i64 x.gen]] w fun e w' => e = .returned (.tuple #[(let v := x.v; Value.string v), .int .i64 0]) ∧ ∃ fv', PoolIs w' 117 119 3 3 (fun (v : ByteArray) => [Value.string v]) p lv fv' (s.giveAt i x (⟨#[]⟩)) ∧ Chg (poolFp p lv fv) w w' ∧ Fresh (poolFp p lv fv) (poolFp p lv fv') w := by
  have hp := h.blk.lt
  obtain ⟨A, c, rfl, hc, hA⟩ := h.lform
  obtain ⟨A2, c2, rfl, hc2, _⟩ := h.fform
  have hi : i < s.l.length := (List.getElem?_eq_some_iff.1 hx).1
  obtain ⟨g, rfl, hg⟩ := hA (by omega)
  have hm := h.wf.le
  have hm2 := h.wf.most
  have hm3 := h.wf.free_le
  have hwf := h.wf.giveAt (⟨#[]⟩) hx ht
  have hL : (s.l.map (Pl.cells (fun (v : ByteArray) => [Value.string v])))[i]? = some (Pl.cells (fun (v : ByteArray) => [Value.string v]) x) := by rw [List.getElem?_map, hx]; rfl
  have P0 := PP.start h (by decide) (by decide) (by decide)
  have HH := Lib.hid (h.alloc (.cells #[.int .i64 i, .int .i64 x.gen] 57)); clear h
  have HX := Lib.hid hx; clear hx
  have HT := Lib.hid ht; clear ht
  have HW := Lib.hid hwf; clear hwf
  have hll : (s.l.map (Pl.cells (fun (v : ByteArray) => [Value.string v]))).length = s.l.length := List.length_map _
  have hfl : (s.free.map fun (i : Nat) => [Value.int .i64 (i : Int)]).length = s.free.length := List.length_map _
  obtain ⟨xg, xt, xv⟩ := x
  simp only at hL hg1 ⊢
  refine callsR fun R hR => ?_
  go_enter Try.func37, Try.ntmps37
  go_wp2_with fail
  refine Calls.mono (find_ok_str p g _ c _ s i ⟨xg, xt, xv⟩ _ HH.out HX.out HT.out hg1) ?_
  rintro e w2 ⟨rfl, hb2⟩
  have P2 := (P0.alloc (.cells #[.int .i64 i, .int .i64 xg] 57)).later hb2
  have r0 : w2.cell? ⟨w.heap.size, 0, none⟩ = some (.int .i64 i) := (hb2.cell (p := ⟨w.heap.size, 0, none⟩) (by simp)).trans ((Blk.new w 57 #[.int .i64 i, .int .i64 xg]).cell 0)
  have g1 : w2.cell? ⟨g, i * 3 + 1, none⟩ = some (.bool xt) := P2.tab.cell (j := 1) hL rfl
  have g2 : w2.cell? ⟨g, i * 3 + 2, none⟩ = some (Value.string xv) := P2.tab.cell (j := 2) hL rfl
  have f1 : w2.frozen? ⟨g, i * 3 + 1, none⟩ = false := P2.tab.frozen _
  have f2 : w2.frozen? ⟨g, i * 3 + 2, none⟩ = false := P2.tab.frozen _
  have hp2 := P2.blk.lt
  have d2 := P2.blk.cell 2
  simp only [List.getElem?_toArray, List.getElem?_cons_zero, List.getElem?_cons_succ] at d2
  have hgp : g ≠ p := fun e => P2.tab.ne_blk P2.blk P2.t1.symm (by simp [Value.ownBlock, e])
  have hgp2 : p ≠ g := fun e => hgp e.symm
  have hi1 : ((s.l.map (Pl.cells (fun (v : ByteArray) => [Value.string v]))).set i ((Pl.cells (fun (v : ByteArray) => [Value.string v]) ⟨xg, xt, xv⟩).set 1 (.bool false)))[i]? = some ((Pl.cells (fun (v : ByteArray) => [Value.string v]) ⟨xg, xt, xv⟩).set 1 (.bool false)) := by rw [List.getElem?_set_self (by rw [hll]; exact hi)]
  have P4 := (P2.setTab (j := 1) (.bool false) hL (by decide)).setTab (j := 2) (Value.string ⟨#[]⟩) hi1 (by decide)
  have hE : ((s.l.map (Pl.cells (fun (v : ByteArray) => [Value.string v]))).set i ((Pl.cells (fun (v : ByteArray) => [Value.string v]) ⟨xg, xt, xv⟩).set 1 (.bool false))).set i (((Pl.cells (fun (v : ByteArray) => [Value.string v]) ⟨xg, xt, xv⟩).set 1 (.bool false)).set 2 (Value.string ⟨#[]⟩)) = (s.giveAt i ⟨xg, xt, xv⟩ (⟨#[]⟩)).l.map (Pl.cells (fun (v : ByteArray) => [Value.string v])) := by
    simp only [PSt.giveAt, List.map_set, List.set_set]
    rfl
  have hE2 : (s.free.map fun (i : Nat) => [Value.int .i64 (i : Int)]) ++ [#[Value.int .i64 (i : Int)].toList] = (s.giveAt i ⟨xg, xt, xv⟩ (⟨#[]⟩)).free.map fun (i : Nat) => [Value.int .i64 (i : Int)] := by
    simp only [PSt.giveAt, List.map_append]
    rfl
  rw [hE] at P4
  have PH := Lib.hid P4; clear P0 P2 P4 hb2 hE hi1 hL
  go_wp2_with fail
  go_region_law (refine step_push_drew (o := ⟨some 39, _, _, _, _, _⟩) (by rfl) (.tmp 35) (.tmp 38) 43 (by rfl) 0 3 _ 1 8 Try.underlying43 info_int_ (by rfl) (by decide) (.slice A2 s.free.length c2) _ #[.int .i64 i] (by rfl) (by exact PH.out.free) (by rw [World.size_setCell, World.size_setCell]; rfl) (by rfl) (by simp [Value.oneCell']) (by omega) (by decide) (Nat.zero_le _) ?_; intro v' w' q1 q2 q3; have q4 := (PH.out.drewN 1).pushF q1 q2 q3; have b5 := q4.blk.cell 2; have f5 := q4.blk.frozen 2; rw [hE2] at q4; have Q4 := Lib.hid q4.setF; obtain ⟨_, _, hv, _, _⟩ := q1.form; simp only [List.length_append, List.length_map, List.length_singleton] at hv; subst hv; clear q1 q2 q3 q4)
  all_goals
    go_wp2_with fail
    exact hR.out _ _ ⟨rfl, _, Q4.out.done HW.out⟩

theorem pool_take_full_str (p : Nat) (lv fv : Value) (s : PSt ByteArray) (v : ByteArray) (w : World) (h : PoolIs w 117 119 3 3 (fun (v : ByteArray) => [Value.string v]) p lv fv s) (hf : s.free = []) (hfull : s.most ≤ s.l.length) :
    Calls Try.prog 36 #[.pointer (some ⟨p, 0, none⟩), Value.string v] w fun e w' => e = .returned (.tuple #[.agg #[.int .i64 0, .int .i64 0], .bool false]) ∧ Below w.heap.size w w' := by
  have hp := h.blk.lt
  obtain ⟨A, c, rfl, hc, hA⟩ := h.lform
  obtain ⟨A2, c2, rfl, hc2, _⟩ := h.fform
  rw [hf] at h
  have hm := h.wf.le
  have hm2 := h.wf.most
  have d0 := h.blk.cell 0
  have d1 := h.blk.cell 1
  have d2 := h.blk.cell 2
  simp only [List.getElem?_toArray, List.getElem?_cons_zero, List.getElem?_cons_succ, List.length_nil] at d0 d1 d2
  have hd : decide ((s.most : Int) ≤ s.l.length) = true := by simp; omega
  clear h hA
  refine callsR fun R hR => ?_
  go_enter Try.func36, Try.ntmps36
  go_wp2_with fail
  exact bodyPost_ret (v := .tuple #[.agg #[.int .i64 0, .int .i64 0], .bool false]) (by simp [results, Try.results36, go_sem]) rfl (hR.out _ _ ⟨rfl, (Below.refl _ _).alloc (Nat.le_refl _) _⟩)

theorem pool_take_fresh_str (p : Nat) (lv fv : Value) (s : PSt ByteArray) (v : ByteArray) (w : World) (h : PoolIs w 117 119 3 3 (fun (v : ByteArray) => [Value.string v]) p lv fv s) (hf : s.free = []) (hfull : s.l.length < s.most) :
    Calls Try.prog 36 #[.pointer (some ⟨p, 0, none⟩), Value.string v] w fun e w' => e = .returned (.tuple #[.agg #[.int .i64 s.l.length, .int .i64 1], .bool true]) ∧ ∃ lv' fv', PoolIs w' 117 119 3 3 (fun (v : ByteArray) => [Value.string v]) p lv' fv' (s.fresh v) ∧ Chg (poolFp p lv fv) w w' ∧ Fresh (poolFp p lv fv) (poolFp p lv' fv') w := by
  have hp := h.blk.lt
  have hwf := h.wf.fresh v hfull
  obtain ⟨A, c, rfl, hc, hA⟩ := h.lform
  obtain ⟨A2, c2, rfl, hc2, _⟩ := h.fform
  have hfl : s.free.length = 0 := by rw [hf]; rfl
  have hm2 := h.wf.most
  have P0 := PP.start h (by decide) (by decide) (by decide)
  have d0 := h.blk.cell 0
  have d1 := h.blk.cell 1
  have d2 := h.blk.cell 2
  simp only [List.getElem?_toArray, List.getElem?_cons_zero, List.getElem?_cons_succ] at d0 d1 d2
  rw [hfl] at d2
  have hd : decide ((s.most : Int) ≤ s.l.length) = false := by simp; omega
  have hll : (s.l.map (Pl.cells (fun (v : ByteArray) => [Value.string v]))).length = s.l.length := List.length_map _
  have PH := Lib.hid (P0.alloc (.cells #[.int .i64 0, .int .i64 0] 57)); clear P0
  have HW := Lib.hid hwf; clear hwf
  clear h hA
  refine callsR fun R hR => ?_
  go_enter Try.func36, Try.ntmps36
  go_wp2_with (at_builtin; refine wpList_push (by rfl) (.tmp 49) (.tmp 51) 115 (by rfl) 0 119 _ 3 32 Try.underlying115 info_place_str (by rfl) (by decide) (.slice A s.l.length c) _ #[.int .i64 0, .bool false, .string ⟨#[]⟩] (by rfl) (by exact PH.out.tab) (by rw [World.size_alloc]; rfl) (by rfl) (by simp [Value.oneCell']) (by omega) (by decide) (Nat.zero_le _) ?_; intro v' w' q1 q2 q3; have q4 := PH.out.pushL q1 q2 q3; obtain ⟨A', c', hv, hc', hA'⟩ := q1.form; simp only [List.length_append, List.length_map, List.length_singleton] at hv hc' hA'; obtain ⟨g', rfl, hg', _⟩ := hA' (by omega); subst hv; have b1 := q4.blk.cell 1; have fb1 := q4.blk.frozen 1; have rb := (Blk.new w 57 #[.int .i64 0, .int .i64 0]).chg q2 (fun hm => PH.out.tab.ne_blk (Blk.new w 57 #[.int .i64 0, .int .i64 0]) (by decide) (by simpa using hm)); have hgp : g' ≠ p := fun e => q4.tab.ne_blk q4.blk q4.t1.symm (by simp [Value.ownBlock, e]); have hgr : g' ≠ w.heap.size := fun e => q4.tab.ne_blk rb (by decide) (by simp [Value.ownBlock, e]); have r0 := rb.cell 0; have r1 := rb.cell 1; have fr0 := rb.frozen 0; have fr1 := rb.frozen 1; have hx0 : ((s.l.map (Pl.cells (fun (v : ByteArray) => [Value.string v]))) ++ [([.int .i64 0, .bool false, .string ⟨#[]⟩] : List Value)])[s.l.length]? = some ([.int .i64 0, .bool false, .string ⟨#[]⟩] : List Value) := (by rw [List.getElem?_append_right (by rw [hll]; omega), hll, Nat.sub_self]; rfl); have e0 : w'.cell? ⟨g', s.l.length * 3, none⟩ = some (.int .i64 0) := q4.tab.cell (j := 0) hx0 rfl; have e1 : w'.cell? ⟨g', s.l.length * 3 + 1, none⟩ = some (.bool false) := q4.tab.cell (j := 1) hx0 rfl; have e2 : w'.cell? ⟨g', s.l.length * 3 + 2, none⟩ = some (Value.string ⟨#[]⟩) := q4.tab.cell (j := 2) hx0 rfl; have fe0 : w'.frozen? ⟨g', s.l.length * 3, none⟩ = false := q4.tab.frozen _; have fe1 : w'.frozen? ⟨g', s.l.length * 3 + 1, none⟩ = false := q4.tab.frozen _; have fe2 : w'.frozen? ⟨g', s.l.length * 3 + 2, none⟩ = false := q4.tab.frozen _; have Q4 := Lib.hid q4; have RB := Lib.hid rb; have HX0 := Lib.hid hx0; clear q1 q2 q3 q4 rb hx0)
  have hlt : s.l.length < ((s.l.map (Pl.cells (fun (v : ByteArray) => [Value.string v]))) ++ [([.int .i64 0, .bool false, .string ⟨#[]⟩] : List Value)]).length := by rw [List.length_append, hll]; simp
  have P1 := (((Q4.out.setL.setTab (j := 0) (.int .i64 1) HX0.out (by decide)).put (j := 1) (.bool true) hlt (by decide)).put (j := 2) (Value.string v) hlt (by decide))
  have P2 := ((P1.beside (q := ⟨w.heap.size, 0, none⟩) (Nat.le_refl _) (Nat.ne_of_lt hp) (Q4.out.tab.ne_blk RB.out (by decide)) (Q4.out.free.ne_blk RB.out (by decide)) (.int .i64 s.l.length)).beside (q := ⟨w.heap.size, 1, none⟩) (Nat.le_refl _) (Nat.ne_of_lt hp) (Q4.out.tab.ne_blk RB.out (by decide)) (Q4.out.free.ne_blk RB.out (by decide)) (.int .i64 1))
  have hE : ((s.l.map (Pl.cells (fun (v : ByteArray) => [Value.string v]))) ++ [([.int .i64 0, .bool false, .string ⟨#[]⟩] : List Value)]).set s.l.length ([.int .i64 1, .bool true, Value.string v] : List Value) = (s.fresh v).l.map (Pl.cells (fun (v : ByteArray) => [Value.string v])) := by
    show _ = (s.l ++ [(⟨1, true, v⟩ : Pl ByteArray)]).map (Pl.cells (fun (v : ByteArray) => [Value.string v]))
    rw [List.map_append, List.set_append_right _ _ (by rw [hll]; omega), hll, Nat.sub_self]
    rfl
  have P3 := Eq.subst (motive := fun L => PP w _ _ _ _ _ _ _ _ _ _ _ _ L _) hE P2
  exact bodyPost_ret (v := .tuple #[.agg #[.int .i64 s.l.length, .int .i64 1], .bool true]) (by simp [results, Try.results36, go_sem, r0, r1]) rfl (hR.out _ _ ⟨rfl, _, _, PP.done (s := s.fresh v) P3 HW.out⟩)

theorem pool_take_back_str (p : Nat) (lv fv : Value) (s : PSt ByteArray) (v : ByteArray) (i : Nat) (fs : List Nat) (x : Pl ByteArray) (w : World) (h : PoolIs w 117 119 3 3 (fun (v : ByteArray) => [Value.string v]) p lv fv s) (hf : s.free = fs ++ [i]) (hx : s.l[i]? = some x) :
    Calls Try.prog 36 #[.pointer (some ⟨p, 0, none⟩), Value.string v] w fun e w' => e = .returned (.tuple #[.agg #[.int .i64 i, .int .i64 (wrap64 (x.gen + 1))], .bool true]) ∧ ∃ lv' fv', PoolIs w' 117 119 3 3 (fun (v : ByteArray) => [Value.string v]) p lv' fv' (s.retake i fs x v) ∧ Chg (poolFp p lv fv) w w' ∧ Fresh (poolFp p lv fv) (poolFp p lv' fv') w := by
  have hp := h.blk.lt
  have hwf := h.wf.retake v hf hx
  obtain ⟨A, c, rfl, hc, hA⟩ := h.lform
  obtain ⟨A2, c2, rfl, hc2, hA2⟩ := h.fform
  have hi : i < s.l.length := (List.getElem?_eq_some_iff.1 hx).1
  have hfl : s.free.length = fs.length + 1 := by rw [hf]; simp
  obtain ⟨g, rfl, hg⟩ := hA (by omega)
  obtain ⟨g2, rfl, hg2⟩ := hA2 (by omega)
  have hm := h.wf.le
  have hm2 := h.wf.most
  have hm3 := h.wf.free_le
  rw [hfl] at hm3
  have hL : (s.l.map (Pl.cells (fun (v : ByteArray) => [Value.string v])))[i]? = some (Pl.cells (fun (v : ByteArray) => [Value.string v]) x) := by rw [List.getElem?_map, hx]; rfl
  have hll : (s.l.map (Pl.cells (fun (v : ByteArray) => [Value.string v]))).length = s.l.length := List.length_map _
  have P0 := PP.start h (by decide) (by decide) (by decide)
  rw [hfl] at P0 hc2
  have hF : (s.free.map fun (i : Nat) => [Value.int .i64 (i : Int)]) = (fs.map fun (i : Nat) => [Value.int .i64 (i : Int)]) ++ [[Value.int .i64 (i : Int)]] := by rw [hf, List.map_append]; rfl
  rw [hF] at P0
  have d0 := h.blk.cell 0
  have d1 := h.blk.cell 1
  have d2 := h.blk.cell 2
  simp only [List.getElem?_toArray, List.getElem?_cons_zero, List.getElem?_cons_succ] at d0 d1 d2
  rw [hfl] at d2
  have y : w.cell? ⟨g2, fs.length, none⟩ = some (.int .i64 i) := by
    have := P0.free.cell (i := fs.length) (j := 0) (r := [Value.int .i64 (i : Int)]) (by rw [List.getElem?_append_right (by simp)]; simp) rfl
    simpa using this
  have e0 : w.cell? ⟨g, i * 3, none⟩ = some (.int .i64 x.gen) := P0.tab.cell (j := 0) hL rfl
  have e1 : w.cell? ⟨g, i * 3 + 1, none⟩ = some (.bool x.taken) := P0.tab.cell (j := 1) hL rfl
  have e2 : w.cell? ⟨g, i * 3 + 2, none⟩ = some (let v := x.v; Value.string v) := P0.tab.cell (j := 2) hL rfl
  have fe0 : w.frozen? ⟨g, i * 3, none⟩ = false := P0.tab.frozen _
  have fe1 : w.frozen? ⟨g, i * 3 + 1, none⟩ = false := P0.tab.frozen _
  have fe2 : w.frozen? ⟨g, i * 3 + 2, none⟩ = false := P0.tab.frozen _
  have b2 := h.blk.frozen 2
  have hgp : g ≠ p := fun e => P0.tab.ne_blk P0.blk P0.t1.symm (by simp [Value.ownBlock, e])
  have hgp2 : p ≠ g := fun e => hgp e.symm
  have P5 := PP.popF (F := fs.map fun (i : Nat) => [Value.int .i64 (i : Int)]) (r := [Value.int .i64 (i : Int)]) (by rw [List.length_map]; exact P0)
  rw [List.length_map] at P5
  have PH := Lib.hid P5; clear P0 P5
  have HW := Lib.hid hwf; clear hwf
  have HL := Lib.hid hL; clear hL
  have HX := Lib.hid hx
  clear h hA hA2 hf hx hF
  refine callsR fun R hR => ?_
  go_enter Try.func36, Try.ntmps36
  go_wp2_with fail
  have hlt : i < (s.l.map (Pl.cells (fun (v : ByteArray) => [Value.string v]))).length := by rw [hll]; exact hi
  have P1 := ((PH.out.setF.setTab (j := 0) (.int .i64 (wrap64 (x.gen + 1))) HL.out (by decide)).put (j := 1) (.bool true) hlt (by decide)).put (j := 2) (Value.string v) hlt (by decide)
  have P2 := P1.alloc (.cells #[.int .i64 i, .int .i64 (wrap64 (x.gen + 1))] 57)
  have hE : (s.l.map (Pl.cells (fun (v : ByteArray) => [Value.string v]))).set i (Pl.cells (fun (v : ByteArray) => [Value.string v]) ⟨wrap64 (x.gen + 1), true, v⟩) = (s.retake i fs x v).l.map (Pl.cells (fun (v : ByteArray) => [Value.string v])) := by
    show _ = (s.l.set i ⟨wrap64 (x.gen + 1), true, v⟩).map (Pl.cells (fun (v : ByteArray) => [Value.string v]))
    rw [List.map_set]
  have P3 := Eq.subst (motive := fun L => PP w _ _ _ _ _ _ _ _ _ _ _ _ L _) hE P2
  exact bodyPost_ret (v := .tuple #[.agg #[.int .i64 i, .int .i64 (wrap64 (x.gen + 1))], .bool true]) (by simp [results, Try.results36, go_sem]) rfl (hR.out _ _ ⟨rfl, _, _, PP.done (s := s.retake i fs x v) P3 HW.out⟩)

end Go.Proofs.Ytjabofofofddbaa
