import Derived.Test.YtognmhgdegpdiaaSlotsPlC
/- Handles against plain pools: at: the item of a cell. -/
namespace Go.Proofs.Ytognmhgdegpdiaa
open Go.RowKit
set_option linter.unusedVariables false
set_option linter.unusedSimpArgs false
set_option maxRecDepth 100000

theorem there_any (X : PM) (T : List (Int × Int)) : thereQ X (-1) T = T := by
  unfold thereQ
  rw [List.filter_eq_self]
  intro r _
  simp [inIn]

set_option maxHeartbeats 4000000 in
theorem pl_atM (B k : Nat) (X : PM) (c : Int) (w0 w : World) (es : List Ent) (hm1 : X.ri.l.length ≤ 65536) (hi : PInv k X) (hl : Led B w0 w (X.mod ++ es)) :
    Calls Try.prog 39 #[.pointer (some ⟨X.m, 0, none⟩), .int .i64 c] w fun e w' => e = .returned (.tuple #[.agg #[.int .i64 ((X.f c).getD (0, 0)).1, .int .i64 ((X.f c).getD (0, 0)).2], .bool (X.f c).isSome]) ∧ Led B w0 w' (X.mod ++ es) := by
  have hle := allTo_le X.ri.l X.ri.l.length
  obtain ⟨Ac, cc, hvc, hcc, hAc⟩ := int_form (mdC hl)
  have HI := Lib.hid hi; clear hi
  have S0 := Lib.hid (led_new (A := X.mod) (C := es) (T := 27) (cs := #[.int .i64 0, .int .i64 0]) hl)
  clear hl
  refine callsR fun R hR => ?_
  go_enter Try.func39, Try.ntmps39
  go_upto_region 1 with fail
  generalize w.alloc (.cells #[.int .i64 0, .int .i64 0] 27) = wy at S0 ⊢
  generalize w.heap.size = bb at S0 ⊢
  go_wp2_with fail
  refine Calls.mono (pl_thereM B X (-1) w0 wy _ hm1 (fun j y hy ht => by obtain ⟨x, q, a, _, _, _, hg, hq, _, hin, _⟩ := HI.out.item_r hy ht; exact ⟨q, a, hg, hq, hin⟩) S0.out) ?_
  rintro e w1 ⟨v, rfl, q1⟩
  rw [there_any] at q1
  generalize hT : allTo X.ri.l X.ri.l.length = T at *
  have hTT : TabIs w1 0 27 2 v (rowsR T) := q1.at_ 17 rfl
  obtain ⟨At, ct, rfl, hct, hAt⟩ := hTT.form
  obtain ⟨nt, hnt⟩ : ∃ n, T.length = n := ⟨_, rfl⟩
  have hrl : (rowsR T).length = nt := by rw [rowsR, List.length_map, hnt]
  rw [hrl] at hct hAt q1 ⊢
  have S1 : Hid (Led B w0 w1 (X.mod ++ tabE 27 2 (.slice At nt ct) (rowsR T) :: blkE bb 27 #[.int .i64 0, .int .i64 0] :: es)) := Lib.hid q1
  have HTE := Lib.hid hT
  have HNT := Lib.hid hnt
  clear q1 hTT hT S0
  go_wp2_with fail
  go_loopw [7] (fun i wx => ∃ (j : Nat), j ≤ nt ∧ i = .int .i64 j ∧ Hid (∀ (j' i : Nat) (x : Pl Int) (q : Nat), j' < j → T[j']? = some ((i : Int), x.gen) → X.ri.l[i]? = some x → x.v = (q : Int) → X.cl[q]? ≠ some c) ∧ Hid (Led B w0 wx (X.mod ++ tabE 27 2 (.slice At nt ct) (rowsR T) :: blkE bb 27 #[.int .i64 0, .int .i64 0] :: es))) (fun i _ => nt - (intOf i).toNat)
  case atStart => exact ⟨0, by omega, rfl, Lib.hid (fun j' i x q h => absurd h (by omega)), S1⟩
  case round =>
    clear S1
    obtain ⟨j, hj, rfl, NO, ST⟩ := hrel
    by_cases hlt : j < nt
    · obtain ⟨r, hr⟩ : ∃ r, T[j]? = some r := ⟨_, List.getElem?_eq_getElem (by omega)⟩
      obtain ⟨i, x, hi, rfl, hx, hxt⟩ := allTo_get (by rw [HTE.out]; exact hr)
      obtain ⟨x', q, a, hx', hxt', hge, hg1, hq, hcl, hin, hq1, ha1⟩ := HI.out.item_r hx hxt
      obtain ⟨gc, hgc, hgc0⟩ := hAc (by omega)
      rw [hgc] at hvc
      obtain ⟨gt, rfl, hgt0, _⟩ := hAt (by omega)
      have HS : Hid (∀ W, Chg [] wr W → W.cell? ⟨X.m, 1, none⟩ = some (.pointer (some ⟨X.mi, 0, none⟩)) ∧ W.cell? ⟨gt, j * 2, none⟩ = some (.int .i64 (i : Int)) ∧ W.cell? ⟨gt, j * 2 + 1, none⟩ = some (.int .i64 x.gen)) :=
        Lib.hid fun W hW => have hl := ST.out.later (hW.below (by simp) (Nat.le_refl _)); have hT := (show TabIs W 0 27 2 (.slice (some ⟨gt, 0, none⟩) nt ct) (rowsR T) from hl.at_ 17 rfl); ⟨md1 hl, hT.cell (j := 0) (r := [.int .i64 (i : Int), .int .i64 x.gen]) (by rw [rowsR, List.getElem?_map, hr]; rfl) rfl, hT.cell (j := 1) (r := [.int .i64 (i : Int), .int .i64 x.gen]) (by rw [rowsR, List.getElem?_map, hr]; rfl) rfl⟩
      have hno2 : x'.v.a ≠ c → ∀ (j' i : Nat) (x : Pl Int) (q : Nat), j' < j + 1 → T[j']? = some ((i : Int), x.gen) → X.ri.l[i]? = some x → x.v = (q : Int) → X.cl[q]? ≠ some c := by
        intro hne j' i2 x2 q2 hj' hr2 hx2 hq2
        rcases Nat.lt_or_ge j' j with h1 | h1
        · exact NO.out j' i2 x2 q2 h1 hr2 hx2 hq2
        · obtain rfl : j' = j := by omega
          rw [hr] at hr2
          injection hr2 with hr2
          injection hr2 with e1 e2
          obtain rfl : i = i2 := by omega
          rw [hx] at hx2
          injection hx2 with hx2
          subst hx2
          obtain rfl : q = q2 := by omega
          rw [hcl]
          intro e
          injection e with e
          exact hne e
      have hyes : x'.v.a = c → X.f c = some ((i : Int), x.gen) := fun e => by rw [← e, ← hge]; exact HI.out.map.has i x' hx' hxt'
      have HX := Lib.hid hx; have HXT := Lib.hid hxt; have HCL := Lib.hid hcl; have HQ := Lib.hid hq
      have HR := Lib.hid hr; have HNO := Lib.hid hno2; have HYES := Lib.hid hyes
      generalize x'.v.a = xc at *
      clear hx hxt hr hi hx' hxt' hge hin hq hno2 hyes hcl
      have s1 : (0 : Int) ≤ (j : Int) := by omega
      have s2 : (j : Int) < nt := by omega
      go_upto_region 5 with fail
      go_region_held3 (fun wx => wx.cell? ⟨X.m, 1, none⟩ = some (.pointer (some ⟨X.mi, 0, none⟩)) ∧ wx.cell? ⟨gt, j * 2, none⟩ = some (.int .i64 (i : Int)) ∧ wx.cell? ⟨gt, j * 2 + 1, none⟩ = some (.int .i64 x.gen)) (first | (refine HS.out _ ?_; (repeat' first | with_reducible exact Chg.refl _ _ | with_reducible refine Chg.drew ?_ | with_reducible refine Chg.drewN ?_ _ | with_reducible refine Chg.alloc ?_ _ | with_reducible refine Chg.setCell ?_ ?_ _ | (left; simp; done) | (right; exact Nat.le_refl _) | (right; dsimp only; omega)); done) | (refine HS2.out _ ?_; (repeat' first | with_reducible exact Chg.refl _ _ | with_reducible refine Chg.drew ?_ | with_reducible refine Chg.drewN ?_ _ | with_reducible refine Chg.alloc ?_ _ | with_reducible refine Chg.setCell ?_ ?_ _ | (left; simp; done) | (right; exact Nat.le_refl _) | (right; dsimp only; omega)); done)) ((go_at_call 37; refine Calls.mono (ref_get B X.mi X.ig X.ii X.iv X.ib X.ri w0 _ _ (i : Int) x.gen (PM.mdI'.1 ST.out.drew) hm1) ?_; rintro e w2 ⟨u, e0, rfl, q1, q2⟩; obtain ⟨rfl, e2⟩ := GetR.ok HX.out HXT.out hg1 q1; rw [HQ.out] at e2; subst e2; have S2 := Lib.hid (ST.out.drew.later q2); have HS2 : Hid (∀ W, Chg [] w2 W → W.cell? ⟨X.m, 1, none⟩ = some (.pointer (some ⟨X.mi, 0, none⟩)) ∧ W.cell? ⟨gt, j * 2, none⟩ = some (.int .i64 (i : Int)) ∧ W.cell? ⟨gt, j * 2 + 1, none⟩ = some (.int .i64 x.gen)) := Lib.hid (fun W hW => have hl := S2.out.later (hW.below (by simp) (Nat.le_refl _)); have hT := (show TabIs W 0 27 2 (.slice (some ⟨gt, 0, none⟩) nt ct) (rowsR T) from hl.at_ 17 rfl); ⟨md1 hl, hT.cell (j := 0) (r := [.int .i64 (i : Int), .int .i64 x.gen]) (by rw [rowsR, List.getElem?_map, HR.out]; rfl) rfl, hT.cell (j := 1) (r := [.int .i64 (i : Int), .int .i64 x.gen]) (by rw [rowsR, List.getElem?_map, HR.out]; rfl) rfl⟩); clear q1 q2))
      have hT2 : TabIs w2 0 27 2 (.slice (some ⟨gt, 0, none⟩) nt ct) (rowsR T) := S2.out.at_ 17 rfl
      have t0 : w2.cell? ⟨gt, j * 2, none⟩ = some (.int .i64 (i : Int)) := hT2.cell (j := 0) (r := [.int .i64 (i : Int), .int .i64 x.gen]) (by rw [rowsR, List.getElem?_map, HR.out]; rfl) rfl
      have t1 : w2.cell? ⟨gt, j * 2 + 1, none⟩ = some (.int .i64 x.gen) := hT2.cell (j := 1) (r := [.int .i64 (i : Int), .int .i64 x.gen]) (by rw [rowsR, List.getElem?_map, HR.out]; rfl) rfl
      have m6 := md6 S2.out
      have hTC := mdC S2.out
      rw [hvc] at m6 hTC
      have y0 := int_cell hTC HCL.out
      have s3 : (0 : Int) ≤ (q : Int) := by omega
      have s4 : (q : Int) < X.cl.length := by omega
      have rc : Blk w2 bb 27 #[.int .i64 0, .int .i64 0] := S2.out.at_ 18 rfl
      have l0 := rc.lt
      have r0 := rc.cell 0; have fr0 := rc.frozen 0; have r1 := rc.cell 1; have fr1 := rc.frozen 1; simp only [List.getElem?_toArray, List.getElem?_cons_zero, List.getElem?_cons_succ] at r0 r1
      clear HS HS2 ST hT2 hTC rc
      by_cases hcc2 : xc = c
      · have hd : ((xc : Int) == c) = true := by simp [hcc2]
        have hF := HYES.out hcc2
        rw [hF] at hR
        simp only [Option.getD_some, Option.isSome_some] at hR
        go_wp2_with fail
        exact bodyPost_ret (v := .tuple #[.agg #[.int .i64 (i : Int), .int .i64 x.gen], .bool true]) (by simp [results, Try.results39, go_sem, l0, r0, r1]) rfl (hR.out _ _ ⟨rfl, led_cut (A := X.mod) (M := [_, _]) (C := es) (led_store2 (A := X.mod ++ [tabE 27 2 (.slice (some ⟨gt, 0, none⟩) nt ct) (rowsR T)]) (C := es) (by simpa using S2.out))⟩)
      · have hd : ((xc : Int) == c) = false := by rw [beq_eq_false_iff_ne]; exact hcc2
        have NO2 := Lib.hid (HNO.out hcc2)
        go_wp2_with fail
        go_roundw
        case rel => exact ⟨j + 1, by omega, by go_num, NO2, S2⟩
        case measure => simp [intOf]; omega
    · obtain rfl : j = nt := by omega
      have hF : X.f c = none := by
        refine HI.out.map.none_ fun i x' hx' hxt' hc => ?_
        obtain ⟨y, q, a, hy, hq, hyt, hge, hcl, _⟩ := HI.out.item hx' hxt'
        have hmem := allTo_mem hy hyt X.ri.l.length (List.getElem?_eq_some_iff.1 hy).1
        rw [HTE.out] at hmem
        obtain ⟨j', hj'⟩ := List.getElem?_of_mem hmem
        exact NO.out j' i y q (by have := (List.getElem?_eq_some_iff.1 hj').1; omega) hj' hy hq (by rw [hcl, hc])
      rw [hF] at hR
      simp only [Option.getD_none, Option.isSome_none] at hR
      have rc : Blk wr bb 27 #[.int .i64 0, .int .i64 0] := ST.out.at_ 18 rfl
      have l0 := rc.lt
      have r0 := rc.cell 0; have fr0 := rc.frozen 0; have r1 := rc.cell 1; have fr1 := rc.frozen 1; simp only [List.getElem?_toArray, List.getElem?_cons_zero, List.getElem?_cons_succ] at r0 r1
      clear rc
      go_wp2_with fail
      exact bodyPost_ret (v := .tuple #[.agg #[.int .i64 0, .int .i64 0], .bool false]) (by simp [results, Try.results39, go_sem, l0, r0, r1]) rfl (hR.out _ _ ⟨rfl, led_cut (A := X.mod) (M := [_, _]) (C := es) (led_store2 (A := X.mod ++ [tabE 27 2 (.slice At j ct) (rowsR T)]) (C := es) (by simpa using ST.out))⟩)
theorem pl_at (B k : Nat) (X : PM) (c : Int) (w0 w : World) (es : List Ent) (hi : PInv k X) (hl : Led B w0 w (X.mem ++ es)) :
    Calls Try.prog 39 #[.pointer (some ⟨X.m, 0, none⟩), .int .i64 c] w fun e w' => e = .returned (.tuple #[.agg #[.int .i64 ((X.f c).getD (0, 0)).1, .int .i64 ((X.f c).getD (0, 0)).2], .bool (X.f c).isSome]) ∧ Led B w0 w' (X.mem ++ es) := by
  have hw := pmWF hl
  refine Calls.mono (pl_atM B k X c w0 w _ (by rw [← hi.simI.len]; have := hw.2.le; have := hw.2.most; omega) hi (PM.modS.1 hl)) ?_
  rintro e w' ⟨rfl, q⟩
  exact ⟨rfl, PM.modS.2 q⟩
end Go.Proofs.Ytognmhgdegpdiaa
