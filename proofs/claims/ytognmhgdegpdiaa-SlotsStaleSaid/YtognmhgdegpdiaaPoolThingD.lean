/- The pool of Thing, more: what each method does to the places that it holds. -/
import Derived.Test.YtognmhgdegpdiaaPoolThingC
import Derived.Test.YtognmhgdegpdiaaPoolAll
namespace Go.Proofs.Ytognmhgdegpdiaa
open Go.RowKit
set_option linter.unusedVariables false
set_option linter.unusedSimpArgs false
set_option maxRecDepth 100000
theorem pool_set_bad_thing (p : Nat) (lv fv : Value) (s : PSt V3) (a b : Int) (v : V3) (e0 : Int) (w : World) (h : PoolIs w 90 97 3 5 (fun (v : V3) => [Value.int .i64 v.a, Value.int .i64 v.b, Value.int .i64 v.c]) p lv fv s) (hl : s.look a b = e0) (he : e0 ≠ 0) :
    Calls Try.prog 31 #[.pointer (some ⟨p, 0, none⟩), .agg #[.int .i64 a, .int .i64 b], Value.agg #[.int .i64 v.a, .int .i64 v.b, .int .i64 v.c]] w fun e w' => e = .returned (.int .i64 e0) ∧ Below w.heap.size w w' := by
  have HH := Lib.hid ((h.alloc (.cells #[.int .i64 a, .int .i64 b] 27)).alloc (.cells #[.int .i64 v.a, .int .i64 v.b, .int .i64 v.c] 56)); clear h
  have HL := Lib.hid hl; clear hl
  have hb : (e0 == 0) = false := by simpa using he
  have HE := Lib.hid he; clear he
  refine callsR fun R hR => ?_
  go_enter Try.func31, Try.ntmps31
  go_wp2_with fail
  refine Calls.mono (find_bad_thing p lv fv s a b e0 _ HH.out HL.out HE.out) ?_
  rintro e w2 ⟨rfl, hb2⟩
  have B2 := Lib.hid hb2; clear hb2
  go_wp2_with fail
  exact hR.out _ _ ⟨rfl, (((Below.refl _ _).alloc (Nat.le_refl _) _).alloc (by simp) _).trans (B2.out.mono (by simp; omega))⟩

set_option maxHeartbeats 1000000 in
theorem pool_set_ok_thing (p : Nat) (lv fv : Value) (s : PSt V3) (i : Nat) (x : Pl V3) (v : V3) (w : World) (h : PoolIs w 90 97 3 5 (fun (v : V3) => [Value.int .i64 v.a, Value.int .i64 v.b, Value.int .i64 v.c]) p lv fv s)
    (hx : s.l[i]? = some x) (ht : x.taken = true) (hg1 : 1 ≤ x.gen) :
    Calls Try.prog 31 #[.pointer (some ⟨p, 0, none⟩), .agg #[.int .i64 i, .int .i64 x.gen], Value.agg #[.int .i64 v.a, .int .i64 v.b, .int .i64 v.c]] w fun e w' => e = .returned (.int .i64 0) ∧ PoolIs w' 90 97 3 5 (fun (v : V3) => [Value.int .i64 v.a, Value.int .i64 v.b, Value.int .i64 v.c]) p lv fv (s.setAt i x v) ∧ Chg (poolFp p lv fv) w w' := by
  have hwf := h.wf.setAt v hx
  obtain ⟨A, c, rfl, hc, hA⟩ := h.lform
  have hi : i < s.l.length := (List.getElem?_eq_some_iff.1 hx).1
  obtain ⟨g, rfl, hg⟩ := hA (by omega)
  have hL : (s.l.map (Pl.cells (fun (v : V3) => [Value.int .i64 v.a, Value.int .i64 v.b, Value.int .i64 v.c])))[i]? = some (Pl.cells (fun (v : V3) => [Value.int .i64 v.a, Value.int .i64 v.b, Value.int .i64 v.c]) x) := by rw [List.getElem?_map, hx]; rfl
  have hll : (s.l.map (Pl.cells (fun (v : V3) => [Value.int .i64 v.a, Value.int .i64 v.b, Value.int .i64 v.c]))).length = s.l.length := List.length_map _
  have P0 := PP.start h (by decide) (by decide) (by decide)
  have HH := Lib.hid ((h.alloc (.cells #[.int .i64 i, .int .i64 x.gen] 27)).alloc (.cells #[.int .i64 v.a, .int .i64 v.b, .int .i64 v.c] 56)); clear h
  have HX := Lib.hid hx; clear hx
  have HT := Lib.hid ht; clear ht
  have HW := Lib.hid hwf; clear hwf
  obtain ⟨xg, xt, xv⟩ := x
  simp only at hL hg1 ⊢
  refine callsR fun R hR => ?_
  go_enter Try.func31, Try.ntmps31
  go_wp2_with fail
  refine Calls.mono (find_ok_thing p g _ c fv s i ⟨xg, xt, xv⟩ _ HH.out HX.out HT.out hg1) ?_
  rintro e w2 ⟨rfl, hb2⟩
  have P2 := ((P0.alloc (.cells #[.int .i64 i, .int .i64 xg] 27)).alloc (.cells #[.int .i64 v.a, .int .i64 v.b, .int .i64 v.c] 56)).later hb2
  have rv := (Blk.new1 w (.cells #[.int .i64 i, .int .i64 xg] 27) 56 #[.int .i64 v.a, .int .i64 v.b, .int .i64 v.c]).chg (Chg.of_below hb2 []) (by simp)
  have hlt : i < (s.l.map (Pl.cells (fun (v : V3) => [Value.int .i64 v.a, Value.int .i64 v.b, Value.int .i64 v.c]))).length := by rw [hll]; exact hi
  have g2 : w2.cell? ⟨g, i * 5 + 2, none⟩ = some (.int .i64 xv.a) := P2.tab.cell (j := 2) hL rfl
  have fg2 : w2.frozen? ⟨g, i * 5 + 2, none⟩ = false := P2.tab.frozen _
  have cv0 : w2.cell? ⟨w.heap.size + 1, 0, none⟩ = some (.int .i64 v.a) := rv.cell 0
  have g3 : w2.cell? ⟨g, i * 5 + 3, none⟩ = some (.int .i64 xv.b) := P2.tab.cell (j := 3) hL rfl
  have fg3 : w2.frozen? ⟨g, i * 5 + 3, none⟩ = false := P2.tab.frozen _
  have cv1 : w2.cell? ⟨w.heap.size + 1, 1, none⟩ = some (.int .i64 v.b) := rv.cell 1
  have g4 : w2.cell? ⟨g, i * 5 + 4, none⟩ = some (.int .i64 xv.c) := P2.tab.cell (j := 4) hL rfl
  have fg4 : w2.frozen? ⟨g, i * 5 + 4, none⟩ = false := P2.tab.frozen _
  have cv2 : w2.cell? ⟨w.heap.size + 1, 2, none⟩ = some (.int .i64 v.c) := rv.cell 2
  have P3 := Eq.subst (motive := fun L => PP w _ _ _ _ _ _ _ _ _ _ _ _ L _) (row_set hL).symm P2
  have P3 := P3.put (j := 2) (.int .i64 v.a) hlt (by decide)
  have P3 := P3.put (j := 3) (.int .i64 v.b) hlt (by decide)
  have P3 := P3.put (j := 4) (.int .i64 v.c) hlt (by decide)
  have hE : (s.l.map (Pl.cells (fun (v : V3) => [Value.int .i64 v.a, Value.int .i64 v.b, Value.int .i64 v.c]))).set i (Pl.cells (fun (v : V3) => [Value.int .i64 v.a, Value.int .i64 v.b, Value.int .i64 v.c]) ⟨xg, xt, v⟩) = (s.setAt i ⟨xg, xt, xv⟩ v).l.map (Pl.cells (fun (v : V3) => [Value.int .i64 v.a, Value.int .i64 v.b, Value.int .i64 v.c])) := by
    simp only [PSt.setAt, List.map_set]
  have P4 := Eq.subst (motive := fun L => PP w _ _ _ _ _ _ _ _ _ _ _ _ L _) hE P3
  have PH := Lib.hid P4
  clear P0 P2 P3 P4 rv hb2 hL hE
  go_wp2_with fail
  have hd := PP.done (s := s.setAt i ⟨xg, xt, xv⟩ v) PH.out HW.out
  exact hR.out _ _ ⟨rfl, hd.1, hd.2.1⟩
theorem pool_all_thing (p : Nat) (lv fv : Value) (s : PSt V3) (B : Nat) (w0 w : World) (i : Nat) (es : List Ent) (h : Led B w0 w es) (hi : es[i]? = some (poolE 90 97 3 5 (fun (v : V3) => [Value.int .i64 v.a, Value.int .i64 v.b, Value.int .i64 v.c]) p lv fv s)) :
    Calls Try.prog 45 #[.pointer (some ⟨p, 0, none⟩)] w fun e w' => ∃ v, e = .returned v ∧ Led B w0 w' (tabE 27 2 v (rowsR (allTo s.l s.l.length)) :: es) := by
  have hP : PoolIs w 90 97 3 5 (fun (v : V3) => [Value.int .i64 v.a, Value.int .i64 v.b, Value.int .i64 v.c]) p lv fv s := h.at_ i hi
  have hm : s.l.length ≤ 65536 := Nat.le_trans hP.wf.le hP.wf.most
  obtain ⟨A, c, rfl, hc, hA⟩ := hP.lform
  have d1 := hP.blk.cell 1
  simp only [List.getElem?_toArray, List.getElem?_cons_zero, List.getElem?_cons_succ] at d1
  have S := Lib.hid (h.add (tabE 27 2 (.slice none 0 0) (rowsR (allTo s.l 0))) (Below.refl _ _) (TabIs.nil _ _ _ _) (by simp [tabE, Value.ownBlock])); clear h hP
  have HI := Lib.hid hi; clear hi
  refine callsR fun R hR => ?_
  go_enter Try.func45, Try.ntmps45
  go_wp2_with fail
  clear d1
  go_loopw [3, 11] (fun a i wx => ∃ j : Nat, j ≤ s.l.length ∧ i = .int .i64 j ∧ Hid (Led B w0 wx (tabE 27 2 a (rowsR (allTo s.l j)) :: es))) (fun _ i _ => s.l.length - (intOf i).toNat)
  case atStart => exact ⟨0, by omega, rfl, S⟩
  case round =>
    clear S
    obtain ⟨j, hj, rfl, S⟩ := hrel
    have hP : PoolIs wr 90 97 3 5 (fun (v : V3) => [Value.int .i64 v.a, Value.int .i64 v.b, Value.int .i64 v.c]) p (.slice A s.l.length c) fv s := S.out.tail.at_ i HI.out
    have HP := Lib.hid hP; clear hP
    by_cases hlt : j < s.l.length
    · obtain ⟨g, rfl, hg⟩ := hA (by omega)
      obtain ⟨x, hx⟩ : ∃ x, s.l[j]? = some x := ⟨_, List.getElem?_eq_getElem hlt⟩
      have hL : (s.l.map (Pl.cells (fun (v : V3) => [Value.int .i64 v.a, Value.int .i64 v.b, Value.int .i64 v.c])))[j]? = some (Pl.cells (fun (v : V3) => [Value.int .i64 v.a, Value.int .i64 v.b, Value.int .i64 v.c]) x) := by rw [List.getElem?_map, hx]; rfl
      have e0 : wr.cell? ⟨g, j * 5, none⟩ = some (.int .i64 x.gen) := HP.out.tab.cell (j := 0) hL rfl
      have e1 : wr.cell? ⟨g, j * 5 + 1, none⟩ = some (.bool x.taken) := HP.out.tab.cell (j := 1) hL rfl
      have e2 : wr.cell? ⟨g, j * 5 + 2, none⟩ = some (.int .i64 x.v.a) := HP.out.tab.cell (j := 2) hL rfl
      have e3 : wr.cell? ⟨g, j * 5 + 3, none⟩ = some (.int .i64 x.v.b) := HP.out.tab.cell (j := 3) hL rfl
      have e4 : wr.cell? ⟨g, j * 5 + 4, none⟩ = some (.int .i64 x.v.c) := HP.out.tab.cell (j := 4) hL rfl
      have HX := Lib.hid hx; clear hx hL
      cases ht : x.taken with
      | true =>
        rw [ht] at e1
        have hll : (rowsR (allTo s.l j)).length ≤ 1000000000 := by
          have := allTo_le s.l j
          simp [rowsR]
          omega
        have hT : TabIs wr 0 27 2 u3 (rowsR (allTo s.l j)) := S.out.at_ 0 rfl
        have HT := Lib.hid hT; clear hT
        go_wp2_with (at_builtin; refine wpList_push (by rfl) (.tmp 18) (.tmp 23) 25 (by rfl) 0 27 _ 2 16 Try.underlying25 info_ref_ (by rfl) (by decide) u3 _ #[.int .i64 j, .int .i64 x.gen] (by rfl) (by exact HT.out.alloc _) (by rw [World.size_alloc]; rfl) (by rfl) (one_ref _ _) hll (by decide) (Nat.zero_le _) ?_; intro v' w' q1 q2 q3)
        have S2 := Lib.hid ((S.out.alloc _).step 0 rfl (tabE 27 2 v' (rowsR (allTo s.l (j + 1)))) q2 (by rw [allTo_in HX.out ht]; simpa [rowsR, tabE] using q1) q3)
        clear q1 q2 q3
        go_roundw
        case rel => exact ⟨j + 1, by omega, by go_num, S2⟩
        case measure => simp [intOf]; omega
      | false =>
        rw [ht] at e1
        go_wp2_with fail
        go_roundw
        case rel => exact ⟨j + 1, by omega, by go_num, by rw [allTo_out HX.out ht]; exact Lib.hid (S.out.alloc _)⟩
        case measure => simp [intOf]; omega
    · obtain rfl : j = s.l.length := by omega
      go_wp2_with fail
      exact hR.out _ _ ⟨_, rfl, S.out⟩


end Go.Proofs.Ytognmhgdegpdiaa
