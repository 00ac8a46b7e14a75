import Derived.Test.YtognmhgdegpdiaaSlotsPlB
/- Handles against plain pools: there: which items are there. -/
namespace Go.Proofs.Ytognmhgdegpdiaa
open Go.RowKit
set_option linter.unusedVariables false
set_option linter.unusedSimpArgs false
set_option maxRecDepth 100000


set_option maxHeartbeats 4000000 in
theorem pl_thereM (B : Nat) (X : PM) (h : Int) (w0 w : World) (es : List Ent) (hm1 : X.ri.l.length ≤ 65536) (hi : ∀ (j : Nat) (y : Pl Int), X.ri.l[j]? = some y → y.taken = true → ∃ q a : Nat, 1 ≤ y.gen ∧ y.v = (q : Int) ∧ X.inn[q]? = some (a : Int)) (hl : Led B w0 w (X.mod ++ es)) :
    Calls Try.prog 40 #[.pointer (some ⟨X.m, 0, none⟩), .int .i64 h] w fun e w' => ∃ v, e = .returned v ∧ Led B w0 w' (X.mod ++ tabE 27 2 v (rowsR (thereQ X h (allTo X.ri.l X.ri.l.length))) :: es) := by
  have hle := allTo_le X.ri.l X.ri.l.length
  have HI := Lib.hid hi; clear hi
  have m1 := md1 hl
  obtain ⟨Ai, ci, hvi, hci, hAi⟩ := int_form (mdI hl)
  have HN := Lib.hid (Led.insert (es := X.mod) (fs := es) hl (tabE 27 2 (.slice none 0 0) (rowsR (thereQ X h []))) (Below.refl _ _) (TabIs.nil _ _ _ _) (by simp [tabE, Value.ownBlock]))
  clear hl
  refine callsR fun R hR => ?_
  go_enter Try.func40, Try.ntmps40
  go_wp2_with fail
  refine Calls.mono (ref_all B X.mi X.ig X.ii X.iv X.ib X.ri w0 w _ (PM.mdI'.1 HN.out) hm1) ?_
  rintro e w1 ⟨v, rfl, q1⟩
  have q2 := PM.modI q1
  generalize hT : allTo X.ri.l X.ri.l.length = T at *
  have hTT : TabIs w1 0 27 2 v (rowsR T) := q2.at_ 17 rfl
  obtain ⟨At, ct, rfl, hct, hAt⟩ := hTT.form
  obtain ⟨nt, hnt⟩ : ∃ n, T.length = n := ⟨_, rfl⟩
  have hrl : (rowsR T).length = nt := by rw [rowsR, List.length_map, hnt]
  rw [hrl] at hct hAt q2 ⊢
  have S1 : Hid (Led B w0 w1 (X.mod ++ tabE 27 2 (.slice At nt ct) (rowsR T) :: tabE 27 2 (.slice none 0 0) (rowsR (thereQ X h (T.take 0))) :: es)) := Lib.hid q2
  have HTE := Lib.hid hT
  have HNT := Lib.hid hnt
  clear q1 q2 hTT hT m1 HN
  go_wp2_with fail
  go_loopw [5, 7] (fun u5 i wx => ∃ (j : Nat), j ≤ nt ∧ i = .int .i64 j ∧ Hid (Led B w0 wx (X.mod ++ tabE 27 2 (.slice At nt ct) (rowsR T) :: tabE 27 2 u5 (rowsR (thereQ X h (T.take j))) :: es))) (fun _ i _ => nt - (intOf i).toNat)
  case atStart => exact ⟨0, by omega, rfl, S1⟩
  case round =>
    clear S1
    obtain ⟨j, hj, rfl, ST⟩ := hrel
    by_cases hlt : j < nt
    · obtain ⟨r, hr⟩ : ∃ r, T[j]? = some r := ⟨_, List.getElem?_eq_getElem (by omega)⟩
      obtain ⟨i, x, hi, rfl, hx, hxt⟩ := allTo_get (by rw [HTE.out]; exact hr)
      obtain ⟨q, a, hg1, hq, hin⟩ := HI.out i x hx hxt
      have hql : q < X.inn.length := (List.getElem?_eq_some_iff.1 hin).1
      obtain ⟨gi, hgi, hgi0⟩ := hAi (by omega)
      rw [hgi] at hvi
      obtain ⟨gt, rfl, hgt0, _⟩ := hAt (by omega)
      have HS : Hid (∀ W, Chg [] wr W → W.cell? ⟨X.m, 1, none⟩ = some (.pointer (some ⟨X.mi, 0, none⟩)) ∧ W.cell? ⟨gt, j * 2, none⟩ = some (.int .i64 (i : Int)) ∧ W.cell? ⟨gt, j * 2 + 1, none⟩ = some (.int .i64 x.gen)) :=
        Lib.hid fun W hW => have hl := ST.out.later (hW.below (by simp) (Nat.le_refl _)); have hT := (show TabIs W 0 27 2 (.slice (some ⟨gt, 0, none⟩) nt ct) (rowsR T) from hl.at_ 17 rfl); ⟨md1 hl, hT.cell (j := 0) (r := [.int .i64 (i : Int), .int .i64 x.gen]) (by rw [rowsR, List.getElem?_map, hr]; rfl) rfl, hT.cell (j := 1) (r := [.int .i64 (i : Int), .int .i64 x.gen]) (by rw [rowsR, List.getElem?_map, hr]; rfl) rfl⟩
      have hls := thereQ_succ (X := X) (h := h) hr
      have hin2 := inIn_at (h := h) (c := x.gen) hx hq hin
      have hll := thereQ_le X h (T.take j)
      rw [List.length_take] at hll
      have HX := Lib.hid hx; have HXT := Lib.hid hxt; have HLS := Lib.hid hls; have HIN0 := Lib.hid hin2; have HINN := Lib.hid hin; have HQ := Lib.hid hq
      have HR := Lib.hid hr
      clear hx hxt hr hi hls hin2 hin hq
      have s1 : (0 : Int) ≤ (j : Int) := by omega
      have s2 : (j : Int) < nt := by omega
      go_upto_region 6 with fail
      go_region_held3 (fun wx => wx.cell? ⟨X.m, 1, none⟩ = some (.pointer (some ⟨X.mi, 0, none⟩)) ∧ wx.cell? ⟨gt, j * 2, none⟩ = some (.int .i64 (i : Int)) ∧ wx.cell? ⟨gt, j * 2 + 1, none⟩ = some (.int .i64 x.gen)) (first | (refine HS.out _ ?_; (repeat' first | with_reducible exact Chg.refl _ _ | with_reducible refine Chg.drew ?_ | with_reducible refine Chg.drewN ?_ _ | with_reducible refine Chg.alloc ?_ _ | with_reducible refine Chg.setCell ?_ ?_ _ | (left; simp; done) | (right; exact Nat.le_refl _) | (right; dsimp only; omega)); done) | (refine HS2.out _ ?_; (repeat' first | with_reducible exact Chg.refl _ _ | with_reducible refine Chg.drew ?_ | with_reducible refine Chg.drewN ?_ _ | with_reducible refine Chg.alloc ?_ _ | with_reducible refine Chg.setCell ?_ ?_ _ | (left; simp; done) | (right; exact Nat.le_refl _) | (right; dsimp only; omega)); done)) ((go_at_call 37; refine Calls.mono (ref_get B X.mi X.ig X.ii X.iv X.ib X.ri w0 _ _ (i : Int) x.gen (PM.mdI'.1 ST.out.drew) hm1) ?_; rintro e w2 ⟨u, e0, rfl, q1, q2⟩; obtain ⟨rfl, e2⟩ := GetR.ok HX.out HXT.out hg1 q1; rw [HQ.out] at e2; subst e2; have S2 := Lib.hid (ST.out.drew.later q2); have HS2 : Hid (∀ W, Chg [] w2 W → W.cell? ⟨X.m, 1, none⟩ = some (.pointer (some ⟨X.mi, 0, none⟩)) ∧ W.cell? ⟨gt, j * 2, none⟩ = some (.int .i64 (i : Int)) ∧ W.cell? ⟨gt, j * 2 + 1, none⟩ = some (.int .i64 x.gen)) := Lib.hid (fun W hW => have hl := S2.out.later (hW.below (by simp) (Nat.le_refl _)); have hT := (show TabIs W 0 27 2 (.slice (some ⟨gt, 0, none⟩) nt ct) (rowsR T) from hl.at_ 17 rfl); ⟨md1 hl, hT.cell (j := 0) (r := [.int .i64 (i : Int), .int .i64 x.gen]) (by rw [rowsR, List.getElem?_map, HR.out]; rfl) rfl, hT.cell (j := 1) (r := [.int .i64 (i : Int), .int .i64 x.gen]) (by rw [rowsR, List.getElem?_map, HR.out]; rfl) rfl⟩); clear q1 q2))
      have hT2 : TabIs w2 0 27 2 (.slice (some ⟨gt, 0, none⟩) nt ct) (rowsR T) := S2.out.at_ 17 rfl
      have t0 : w2.cell? ⟨gt, j * 2, none⟩ = some (.int .i64 (i : Int)) := hT2.cell (j := 0) (r := [.int .i64 (i : Int), .int .i64 x.gen]) (by rw [rowsR, List.getElem?_map, HR.out]; rfl) rfl
      have t1 : w2.cell? ⟨gt, j * 2 + 1, none⟩ = some (.int .i64 x.gen) := hT2.cell (j := 1) (r := [.int .i64 (i : Int), .int .i64 x.gen]) (by rw [rowsR, List.getElem?_map, HR.out]; rfl) rfl
      clear HS HS2 ST hT2
      by_cases hneg : h < 0
      · have hd : decide (h < 0) = true := by simpa using hneg
        have HIN : Hid (inIn X h ((i : Int), x.gen) = true) := Lib.hid (by rw [HIN0.out, hd]; rfl)
        have hll2 : (rowsR (thereQ X h (T.take j))).length ≤ 1000000000 := by rw [rowsR, List.length_map]; omega
        have hOT : TabIs w2 0 27 2 u5 (rowsR (thereQ X h (T.take j))) := S2.out.at_ 18 rfl
        have HOT := Lib.hid hOT; clear hOT
        go_wp2_with (at_builtin; refine wpList_push (by rfl) (.tmp 46) (.tmp 51) 25 (by rfl) 0 27 _ 2 16 Try.underlying25 info_ref_ (by rfl) (by decide) u5 _ #[.int .i64 i, .int .i64 x.gen] (by rfl) (by exact HOT.out) (by rfl) (by rfl) (one_ref _ _) hll2 (by decide) (Nat.zero_le _) ?_; intro v' w' q1 q2 q3)
        have S5 : Hid (Led B w0 w' (X.mod ++ tabE 27 2 (.slice (some ⟨gt, 0, none⟩) nt ct) (rowsR T) :: tabE 27 2 v' (rowsR (thereQ X h (T.take (j + 1)))) :: es)) := Lib.hid (S2.out.step 18 rfl (tabE 27 2 v' (rowsR (thereQ X h (T.take (j + 1))))) q2 (by rw [HLS.out, if_pos HIN.out]; simpa [rowsR, tabE] using q1) q3)
        clear q1 q2 q3 S2
        go_roundw
        case rel => exact ⟨j + 1, by omega, by go_num, S5⟩
        case measure => simp [intOf]; omega
      · have hd : decide (h < 0) = false := by simpa using hneg
        have m7 := md7 S2.out
        have hTI := mdI S2.out
        rw [hvi] at m7 hTI
        have y0 := int_cell hTI HINN.out
        have s3 : (0 : Int) ≤ (q : Int) := by omega
        have s4 : (q : Int) < X.inn.length := by omega
        clear hTI
        obtain ⟨bq, hbq⟩ : ∃ b : Bool, ((a : Int) == h) = b := ⟨_, rfl⟩
        cases bq with
        | true =>
          have HIN : Hid (inIn X h ((i : Int), x.gen) = true) := Lib.hid (by rw [HIN0.out, hd, hbq]; rfl)
          have hll2 : (rowsR (thereQ X h (T.take j))).length ≤ 1000000000 := by rw [rowsR, List.length_map]; omega
          have hOT : TabIs w2 0 27 2 u5 (rowsR (thereQ X h (T.take j))) := S2.out.at_ 18 rfl
          have HOT := Lib.hid hOT; clear hOT
          go_wp2_with (at_builtin; refine wpList_push (by rfl) (.tmp 46) (.tmp 51) 25 (by rfl) 0 27 _ 2 16 Try.underlying25 info_ref_ (by rfl) (by decide) u5 _ #[.int .i64 i, .int .i64 x.gen] (by rfl) (by exact HOT.out) (by rfl) (by rfl) (one_ref _ _) hll2 (by decide) (Nat.zero_le _) ?_; intro v' w' q1 q2 q3)
          have S5 : Hid (Led B w0 w' (X.mod ++ tabE 27 2 (.slice (some ⟨gt, 0, none⟩) nt ct) (rowsR T) :: tabE 27 2 v' (rowsR (thereQ X h (T.take (j + 1)))) :: es)) := Lib.hid (S2.out.step 18 rfl (tabE 27 2 v' (rowsR (thereQ X h (T.take (j + 1))))) q2 (by rw [HLS.out, if_pos HIN.out]; simpa [rowsR, tabE] using q1) q3)
          clear q1 q2 q3 S2
          go_roundw
          case rel => exact ⟨j + 1, by omega, by go_num, S5⟩
          case measure => simp [intOf]; omega
        | false =>
          have HIN : Hid (inIn X h ((i : Int), x.gen) = false) := Lib.hid (by rw [HIN0.out, hd, hbq]; rfl)
          have S5 : Hid (Led B w0 w2 (X.mod ++ tabE 27 2 (.slice (some ⟨gt, 0, none⟩) nt ct) (rowsR T) :: tabE 27 2 u5 (rowsR (thereQ X h (T.take (j + 1)))) :: es)) := Lib.hid (by rw [HLS.out, HIN.out, if_neg (by decide), List.append_nil]; exact S2.out)
          go_wp2_with fail
          go_roundw
          case rel => exact ⟨j + 1, by omega, by go_num, S5⟩
          case measure => simp [intOf]; omega
    · obtain rfl : j = nt := by omega
      have S6 := led_drop (A := X.mod) ST.out
      rw [List.take_of_length_le (by omega)] at S6
      have S7 := Lib.hid S6
      clear S6
      go_wp2_with fail
      exact hR.out _ _ ⟨_, rfl, S7.out⟩
theorem led_mid1 {B : Nat} {w0 w : World} {X : PM} {es : List Ent} {e : Ent} (h : Led B w0 w (X.mod ++ e :: (X.S ++ es))) : Led B w0 w (X.mem ++ e :: es) :=
  PM.modS.2 (h.perm (List.Perm.append_left _ (show (e :: (X.S ++ es)).Perm (X.S ++ e :: es) from List.perm_middle.symm)))
theorem pl_there0 (B : Nat) (X : PM) (h : Int) (w0 w : World) (es : List Ent) (hm1 : X.ri.l.length ≤ 65536) (hi : ∀ (j : Nat) (y : Pl Int), X.ri.l[j]? = some y → y.taken = true → ∃ q a : Nat, 1 ≤ y.gen ∧ y.v = (q : Int) ∧ X.inn[q]? = some (a : Int)) (hl : Led B w0 w (X.mem ++ es)) :
    Calls Try.prog 40 #[.pointer (some ⟨X.m, 0, none⟩), .int .i64 h] w fun e w' => ∃ v, e = .returned v ∧ Led B w0 w' (X.mem ++ tabE 27 2 v (rowsR (thereQ X h (allTo X.ri.l X.ri.l.length))) :: es) := by
  refine Calls.mono (pl_thereM B X h w0 w _ hm1 hi (PM.modS.1 hl)) ?_
  rintro e w' ⟨v, rfl, q⟩
  exact ⟨v, rfl, led_mid1 q⟩
theorem pl_there (B k : Nat) (X : PM) (h : Int) (w0 w : World) (es : List Ent) (hi : PInv k X) (hl : Led B w0 w (X.mem ++ es)) :
    Calls Try.prog 40 #[.pointer (some ⟨X.m, 0, none⟩), .int .i64 h] w fun e w' => ∃ v, e = .returned v ∧ Led B w0 w' (X.mem ++ tabE 27 2 v (rowsR (thereQ X h (allTo X.ri.l X.ri.l.length))) :: es) := by
  have hw := pmWF hl
  exact pl_there0 B X h w0 w es (by rw [← hi.simI.len]; have := hw.2.le; have := hw.2.most; omega) (fun j y hy ht => by obtain ⟨x, q, a, _, _, _, hg, hq, _, hin, _⟩ := hi.item_r hy ht; exact ⟨q, a, hg, hq, hin⟩) hl
end Go.Proofs.Ytognmhgdegpdiaa
