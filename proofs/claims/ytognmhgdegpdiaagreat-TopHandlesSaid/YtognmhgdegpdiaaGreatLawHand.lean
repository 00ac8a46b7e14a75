import Derived.Test.YtognmhgdegpdiaaGreatLawHandP
import Derived.Test.YtognmhgdegpdiaaGreatTopN
/- TopHandles: handles of items that are gone are told stale for ever. -/
namespace Go.Proofs.YtognmhgdegpdiaaGreat
open Go.RowKit
open Go.Maps (Keyed)
set_option linter.unusedVariables false
set_option linter.unusedSimpArgs false
set_option maxRecDepth 100000
set_option maxHeartbeats 32000000 in
theorem top_handles (kd : Int) (A : Option Addr) (n c : Nat) (G : Nat → Int) (w : World) (k1 : -9223372036854775808 ≤ kd) (k2 : kd ≤ 9223372036854775807) (hn : n ≤ 9223372036854775807) (hA : SlArg w w.heap.size A n 1 fun j => .int .i64 (G j)) (hG : ∀ j, j < n → -9223372036854775808 ≤ G j ∧ G j ≤ 9223372036854775807) :
  Calls Tryz.prog 4 #[.int .i64 kd, .slice A n c] w fun e w' => e = .returned (.bool true) ∧ Below w.heap.size w w' := by
 have HA := Lib.hid hA; clear hA
 have HGG := Lib.hid hG; clear hG
 have bd2 := within_bd kd 1 5 (by omega)
 refine callsR fun R hR => ?_
 go_enter Tryz.func4, Tryz.ntmps4
 go_wp2_with (first | (go_at_call 10; refine Calls.mono (top_kinds kd _ ⟨k1, k2⟩) ?_; rintro e w' ⟨rfl, rfl⟩))
 generalize within kd 1 5 = K at bd2 ⊢
 refine Calls.mono (top_queues 6 K 2 (by decide) (by decide) bd2 (by decide) (led_start w)) ?_
 rintro e w1 ⟨m, v, Q, L, rfl, M, hL, h'⟩
 obtain ⟨A3, cp, hv, hA3⟩ := pT_form (pT_tab h')
 have hR3 : (L.reverse.map href).length = 2 := by simp [hL]
 rw [hR3] at hv hA3
 obtain ⟨g, rfl⟩ := hA3 (by decide)
 subst hv
 obtain ⟨R0, hRR⟩ : ∃ R0, L.reverse.map href = R0 := ⟨_, rfl⟩
 rw [hRR] at h' hR3
 have M0 := Lib.hid M
 have h2 := oT_new (A := Q.es m ++ [_]) (C := []) (T := 2) h'
 have h3 := oT_new (A := Q.es m ++ [_]) (T := 4) h2
 have h4 := pT_new (A := Q.es m ++ [_]) (T := 34) h3
 have H : Hid (Led w.heap.size w w1 (Q.es m ++ [pT 34 (.slice (some ⟨g, 0, none⟩) 2 cp) R0, pT 34 (.slice none 0 0) (hP []), oT 4 (.slice none 0 0) (hB []), oT 2 (.slice none 0 0) (hK [])])) := Lib.hid h4
 have HR0 := Lib.hid (show (L.map href).Perm R0 by rw [← hRR, List.map_reverse]; exact (List.reverse_perm _).symm)
 clear M h' h2 h3 h4 hRR
 have hem : itemsL L = [] := by rw [itemsL, List.flatMap_eq_nil_iff]; intro h hh; exact (M0.out.em h hh).1
 have HEM := Lib.hid hem
 clear hem
 go_wp2_with fail
 go_loopw [7, 8, 9, 10] (fun x7 x8 x9 y wx => ∃ (j : Nat) (Q : QS) (L : List HR) (D : List (Int × Int)) (T : List HT), y = .int .i64 (j : Int) ∧ j ≤ 80 ∧ T.length ≤ j ∧ Hid (QInv Q L D) ∧ Hid ((L.map href).Perm R0) ∧ Hid (TInv T L D) ∧ Q.serial ≤ j ∧ Q.items = 6 ∧ Hid (Led w.heap.size w wx (Q.es m ++ [pT 34 (.slice (some ⟨g, 0, none⟩) 2 cp) R0, pT 34 x7 (hP T), oT 4 x8 (hB T), oT 2 x9 (hK T)]))) (fun _ _ _ y _ => 80 - intV y)
 case atStart => exact ⟨0, Q, L, [], [], rfl, by omega, Nat.zero_le _, Lib.hid M0.out.q, HR0, Lib.hid (TInv.none L HEM.out), by rw [M0.out.ser]; exact Int.le_refl 0, M0.out.it, H⟩
 case round =>
  clear H M0 HR0 hL HEM
  obtain ⟨j, Q, L, D, T, rfl, hj, hTj, QI, PR, TI, hser, hit, S⟩ := hrel
  have HSER := Lib.hid hser
  have HIT := Lib.hid hit
  clear hser hit
  obtain ⟨nt, hnt⟩ : ∃ nt, T.length = nt := ⟨_, rfl⟩
  have HNT := Lib.hid hnt
  rw [hnt] at hTj
  clear hnt
  obtain ⟨A7, c7, hv7, hA7⟩ := pT_form (pT_tab (A := Q.es m ++ [_]) S.out)
  rw [hP_len, HNT.out] at hv7 hA7
  subst hv7
  obtain ⟨A8, c8, hv8, hA8⟩ := oT_form (oT_tab (A := Q.es m ++ [_, _]) S.out)
  rw [hB_len, HNT.out] at hv8 hA8
  subst hv8
  obtain ⟨A9, c9, hv9, hA9⟩ := oT_form (oT_tab (A := Q.es m ++ [_, _, _]) S.out)
  rw [hK_len, HNT.out] at hv9 hA9
  subst hv9
  by_cases hlt : j < n ∧ j < 80
  ·have g1 : decide ((j : Int) < (n : Int)) = true := by simp; omega
   have g2 : decide ((j : Int) < 80) = true := by simp; omega
   obtain ⟨bA, oA, rfl, hbA, hcA⟩ := (HA.out.below S.out.be) (by omega)
   have a0 := hcA j (by omega)
   clear hcA
   have HGJ := Lib.hid (HGG.out j (by omega))
   have bd := within_bd (G j) 0 1048576 (by decide)
   obtain ⟨kn, hkn⟩ : ∃ kn : Nat, within (G j) 0 1048576 = (kn : Int) := ⟨(within (G j) 0 1048576).toNat, by omega⟩
   rw [hkn] at bd
   have HKN := Lib.hid hkn
   clear hkn
   have hw1 : IntKind.i64.wrap ((j : Int) + 1) = ((j + 1 : Nat) : Int) := by rw [IntKind.wrap_i64]; omega
   have hm3 : (kn : Int).tmod 3 = ((kn % 3 : Nat) : Int) := by rw [Int.tmod_eq_emod_of_nonneg (by omega)]; omega
   have hm2 : (kn : Int).tmod 2 = ((kn % 2 : Nat) : Int) := by rw [Int.tmod_eq_emod_of_nonneg (by omega)]; omega
   go_upto_region 11 with (first | (go_at_call 14; refine Calls.mono (within_any (G j) 0 1048576 _ (by decide) (by decide) (by decide) HGJ.out.1 HGJ.out.2) ?_; rintro e w' ⟨rfl, rfl⟩; rw [HKN.out]))
   have HBD := Lib.hid bd
   clear a0 bd
   by_cases hk3 : 0 < kn % 3
   ·have gA : decide (0 < ((kn % 3 : Nat) : Int)) = true := by simp; omega
    have gA2 : decide (0 < kn % 3) = true := by simp; omega
    have hk2 : kn % 2 < 2 := Nat.mod_lt _ (by decide)
    obtain ⟨p, hp⟩ : ∃ p, R0[kn % 2]? = some p := ⟨_, List.getElem?_eq_getElem (by omega)⟩
    obtain ⟨h, L2, hPL, hh⟩ := heap_at PR.out hp
    have hlen := items_len hPL
    have QP := Lib.hid (QI.out.perm hPL)
    have t3 := pT_get (pT_tab S.out) hp
    rw [← hh] at t3
    have t0 : _ = some (Value.int .i64 (h.at_ : Int)) := t3.1
    have t1 : _ = some (Value.int .i64 h.x.gen) := t3.2
    clear t3
    have hcnt := QI.out.count_le (QS.wfi S.out)
    rw [HIT.out] at hcnt
    have HCN := Lib.hid hcnt
    have HLEN := Lib.hid hlen
    clear hcnt hlen hh hp
    by_cases hfull : ((itemsL L).length : Int) < 6
    ·go_wp2_with fail
     refine Calls.mono (q_insert 0 0 0 0 0 (j : Int) QP.out (by rw [itemsL_cons, List.length_append, ← HLEN.out, HIT.out]; exact hfull) (by have := HSER.out; omega) S.out) ?_
     rintro e w2 ⟨Q2, h2, i, gg, cc, rfl, h', q2, e1, e2, e3, e4, e5, e6, e7, _⟩
     have Q2I := Lib.hid q2
     have hi2 : (itemsL (h2 :: L2)).Perm (⟨i, gg, cc, (j : Int), Q.serial⟩ :: itemsL L) := by rw [itemsL_cons, e4, List.cons_append]; exact List.Perm.cons _ ((hPL.flatMap_right HR.I).symm)
     have hl6 : decide (((itemsL (h2 :: L2)).length : Int) ≤ 6) = true := by have := hi2.length_eq; rw [List.length_cons] at this; simp; omega
     have hgg : decide ((0 : Int) < gg) = true := by simp; omega
     have PR2 : Hid (((h2 :: L2).map href).Perm R0) := Lib.hid ((show ((h2 :: L2).map href).Perm ((h :: L2).map href) by rw [List.map_cons, List.map_cons, show href h2 = href h from by unfold href; rw [e1, e2]]).trans ((hPL.map href).symm.trans PR.out))
     have HS9 := Lib.hid (show Q2.serial ≤ ((j + 1 : Nat) : Int) by have := HSER.out; rw [e5]; omega)
     have HI2 := Lib.hid (e6.trans HIT.out)
     have TI2 := Lib.hid (TI.out.add (r := ⟨i, gg, cc, (j : Int), Q.serial⟩) hi2 (by show (0 : Int) ≤ (j : Int); omega))
     clear q2 e1 e2 e3 e4 e5 e6 e7 hi2 hPL t0 t1
     have S2 : Hid (Led w.heap.size w (w2.alloc (.cells #[.int .i64 0, .int .i64 0, .int .i64 0, .int .i64 (i : Int), .int .i64 gg, .int .i64 (j : Int), .int .i64 Q.serial, .int .i64 0] 38)) (Q2.es m ++ [pT 34 (.slice (some ⟨g, 0, none⟩) 2 cp) R0, blkE (w2.heap.size) 38 #[.int .i64 0, .int .i64 0, .int .i64 0, .int .i64 (i : Int), .int .i64 gg, .int .i64 (j : Int), .int .i64 Q.serial, .int .i64 0], pT 34 (.slice A7 nt c7) (hP T), oT 4 (.slice A8 nt c8) (hB T), oT 2 (.slice A9 nt c9) (hK T)])) := Lib.hid (led_put1 (A := Q2.es m) (T := 38) (cs := #[.int .i64 0, .int .i64 0, .int .i64 0, .int .i64 (i : Int), .int .i64 gg, .int .i64 (j : Int), .int .i64 Q.serial, .int .i64 0]) h')
     clear h'
     go_upto_region 13 with fail
     obtain ⟨ab, hab⟩ : ∃ ab, w2.heap.size = ab := ⟨_, rfl⟩
     rw [hab] at S2 ⊢
     generalize w2.alloc (.cells #[.int .i64 0, .int .i64 0, .int .i64 0, .int .i64 (i : Int), .int .i64 gg, .int .i64 (j : Int), .int .i64 Q.serial, .int .i64 0] 38) = wa at S2 ⊢
     clear hab
     have HS : Hid (∀ W, Chg [] wa W → W.cell? ⟨ab, 0, none⟩ = some (.int .i64 0) ∧ W.cell? ⟨ab, 4, none⟩ = some (.int .i64 gg)) := Lib.hid (fun W hW => have hl := S2.out.later (hW.below (by simp) (Nat.le_refl _)); ⟨(show Blk W ab 38 #[.int .i64 0, .int .i64 0, .int .i64 0, .int .i64 (i : Int), .int .i64 gg, .int .i64 (j : Int), .int .i64 Q.serial, .int .i64 0] from hl.at_ 11 rfl).cell 0, (show Blk W ab 38 #[.int .i64 0, .int .i64 0, .int .i64 0, .int .i64 (i : Int), .int .i64 gg, .int .i64 (j : Int), .int .i64 Q.serial, .int .i64 0] from hl.at_ 11 rfl).cell 4⟩)
     go_region_held3 (fun wx => wx.cell? ⟨ab, 0, none⟩ = some (.int .i64 0) ∧ wx.cell? ⟨ab, 4, none⟩ = some (.int .i64 gg)) (first | (refine HS.out _ ?_; (repeat' first | with_reducible exact Chg.refl _ _ | with_reducible refine Chg.drew ?_ | with_reducible refine Chg.drewN ?_ _ | with_reducible refine Chg.alloc ?_ _ | with_reducible refine Chg.setCell ?_ ?_ _ | (left; simp; done) | (right; exact Nat.le_refl _) | (right; dsimp only; omega)); done) | (refine HS2.out _ ?_; (repeat' first | with_reducible exact Chg.refl _ _ | with_reducible refine Chg.drew ?_ | with_reducible refine Chg.drewN ?_ _ | with_reducible refine Chg.alloc ?_ _ | with_reducible refine Chg.setCell ?_ ?_ _ | (left; simp; done) | (right; exact Nat.le_refl _) | (right; dsimp only; omega)); done)) (first | (go_at_call 12; refine Calls.mono (q_live Q2I.out S2.out.drew) ?_; rintro e w4 ⟨rfl, h'⟩; have S4 : Hid (Led w.heap.size w w4 (Q2.es m ++ [pT 34 (.slice (some ⟨g, 0, none⟩) 2 cp) R0, blkE (ab) 38 #[.int .i64 0, .int .i64 0, .int .i64 0, .int .i64 (i : Int), .int .i64 gg, .int .i64 (j : Int), .int .i64 Q.serial, .int .i64 0], pT 34 (.slice A7 nt c7) (hP T), oT 4 (.slice A8 nt c8) (hB T), oT 2 (.slice A9 nt c9) (hK T)])) := Lib.hid h'; have HS2 : Hid (∀ W, Chg [] w4 W → W.cell? ⟨ab, 0, none⟩ = some (.int .i64 0) ∧ W.cell? ⟨ab, 4, none⟩ = some (.int .i64 gg)) := Lib.hid (fun W hW => have hl := S4.out.later (hW.below (by simp) (Nat.le_refl _)); ⟨(show Blk W ab 38 #[.int .i64 0, .int .i64 0, .int .i64 0, .int .i64 (i : Int), .int .i64 gg, .int .i64 (j : Int), .int .i64 Q.serial, .int .i64 0] from hl.at_ 11 rfl).cell 0, (show Blk W ab 38 #[.int .i64 0, .int .i64 0, .int .i64 0, .int .i64 (i : Int), .int .i64 gg, .int .i64 (j : Int), .int .i64 Q.serial, .int .i64 0] from hl.at_ 11 rfl).cell 4⟩); clear h'))
     clear HS HS2 S2
     have zb : Blk w4 ab 38 #[.int .i64 0, .int .i64 0, .int .i64 0, .int .i64 (i : Int), .int .i64 gg, .int .i64 (j : Int), .int .i64 Q.serial, .int .i64 0] := S4.out.at_ 11 rfl
     have lzb := zb.lt
     obtain ⟨z0, z1, z2, z3, z4, z5, z6, z7, fz0, fz1, fz2, fz3, fz4, fz5, fz6, fz7⟩ := zb.c8
     clear zb
     have hl74 : (pR (hP T)).length ≤ 1000000000 := by rw [pR_len, hP_len, HNT.out]; omega
     have hl79 : (oR (hB T)).length ≤ 1000000000 := by rw [oR_len, hB_len, HNT.out]; omega
     have hl82 : (oR (hK T)).length ≤ 1000000000 := by rw [oR_len, hK_len, HNT.out]; omega
     go_wp2_with (first | (at_builtin; refine wpList_push (by rfl) (.tmp 74) (.tmp 77) 24 (by rfl) 0 34 _ 2 16 Tryz.underlying24 info_ref_ (by rfl) (by decide) (.slice A7 nt c7) (pR (hP T)) #[.int .i64 (i : Int), .int .i64 gg] (by rfl) (pT_tab (A := Q2.es m ++ [_, _]) S4.out) (by rfl) (by rfl) (by simp [Value.oneCell']) hl74 (by decide) (Nat.zero_le _) ?_; intro v' w' p1 p2 p3; have S5 := Lib.hid (pT_push (A := Q2.es m ++ [_, _]) S4.out p1 p2 p3); clear p1 p2 p3) | (at_builtin; refine wpList_push (by rfl) (.tmp 79) (.tmp 80) 46 (by rfl) 0 4 _ 1 1 Tryz.underlying46 info_bool_ (by rfl) (by decide) (.slice A8 nt c8) (oR (hB T)) #[.bool true] (by rfl) (oT_tab (A := Q2.es m ++ [_, _, _]) S5.out) (by rfl) (by rfl) (by simp [Value.oneCell']) hl79 (by decide) (Nat.zero_le _) ?_; intro v' w' p1 p2 p3; have S6 := Lib.hid (oT_push (A := Q2.es m ++ [_, _, _]) S5.out p1 p2 p3); clear p1 p2 p3) | (at_builtin; refine wpList_push (by rfl) (.tmp 82) (.tmp 84) 22 (by rfl) 0 2 _ 1 8 Tryz.underlying22 info_i64_ (by rfl) (by decide) (.slice A9 nt c9) (oR (hK T)) #[.int .i64 (j : Int)] (by rfl) (oT_tab (A := Q2.es m ++ [_, _, _, _]) S6.out) (by rfl) (by rfl) (by simp [Value.oneCell']) hl82 (by decide) (Nat.zero_le _) ?_; intro v' w' p1 p2 p3; have S7 := Lib.hid (oT_push (A := Q2.es m ++ [_, _, _, _]) S6.out p1 p2 p3); clear p1 p2 p3))
     go_roundw
     case rel => exact ⟨j + 1, Q2, h2 :: L2, D, (T ++ [⟨((i : Int), gg), true, (j : Int)⟩]), rfl, by omega, by rw [List.length_append, HNT.out]; simp; omega, Q2I, PR2, TI2, HS9.out, HI2.out, Lib.hid (by have h9 := led_cut1 (A := Q2.es m) S7.out; simp only [hP, hB, hK, List.map_append, List.map_cons, List.map_nil] at h9 ⊢; exact h9)⟩
     case measure => simp [intV]; omega
    ·have hmem : h ∈ L := hPL.mem_iff.2 (by simp)
     have he6 : ((itemsL L).length : Int) = 6 := by have := HCN.out; omega
     go_wp2_with fail
     refine Calls.mono (q_full 0 0 0 0 0 (j : Int) QI.out hmem (by rw [HIT.out]; exact he6) S.out) ?_
     rintro e w2 ⟨Q2, rfl, h', q2, e5, e6, _⟩
     have Q2I := Lib.hid q2
     have HS9 := Lib.hid (show Q2.serial ≤ ((j + 1 : Nat) : Int) by have := HSER.out; rw [e5]; omega)
     have HI2 := Lib.hid (e6.trans HIT.out)
     have hl6 : decide (((itemsL L).length : Int) ≤ 6) = true := by simp; omega
     clear q2 e5 e6 hPL t0 t1 he6
     have S2 : Hid (Led w.heap.size w (w2.alloc (.cells #[.int .i64 13, .int .i64 0, .int .i64 0, .int .i64 0, .int .i64 0, .int .i64 0, .int .i64 0, .int .i64 0] 38)) (Q2.es m ++ [pT 34 (.slice (some ⟨g, 0, none⟩) 2 cp) R0, blkE (w2.heap.size) 38 #[.int .i64 13, .int .i64 0, .int .i64 0, .int .i64 0, .int .i64 0, .int .i64 0, .int .i64 0, .int .i64 0], pT 34 (.slice A7 nt c7) (hP T), oT 4 (.slice A8 nt c8) (hB T), oT 2 (.slice A9 nt c9) (hK T)])) := Lib.hid (led_put1 (A := Q2.es m) (T := 38) (cs := #[.int .i64 13, .int .i64 0, .int .i64 0, .int .i64 0, .int .i64 0, .int .i64 0, .int .i64 0, .int .i64 0]) h')
     clear h'
     go_upto_region 13 with fail
     obtain ⟨ab, hab⟩ : ∃ ab, w2.heap.size = ab := ⟨_, rfl⟩
     rw [hab] at S2 ⊢
     generalize w2.alloc (.cells #[.int .i64 13, .int .i64 0, .int .i64 0, .int .i64 0, .int .i64 0, .int .i64 0, .int .i64 0, .int .i64 0] 38) = wa at S2 ⊢
     clear hab
     have HS : Hid (∀ W, Chg [] wa W → W.cell? ⟨ab, 0, none⟩ = some (.int .i64 13) ∧ W.cell? ⟨ab, 4, none⟩ = some (.int .i64 0)) := Lib.hid (fun W hW => have hl := S2.out.later (hW.below (by simp) (Nat.le_refl _)); ⟨(show Blk W ab 38 #[.int .i64 13, .int .i64 0, .int .i64 0, .int .i64 0, .int .i64 0, .int .i64 0, .int .i64 0, .int .i64 0] from hl.at_ 11 rfl).cell 0, (show Blk W ab 38 #[.int .i64 13, .int .i64 0, .int .i64 0, .int .i64 0, .int .i64 0, .int .i64 0, .int .i64 0, .int .i64 0] from hl.at_ 11 rfl).cell 4⟩)
     go_region_held3 (fun wx => wx.cell? ⟨ab, 0, none⟩ = some (.int .i64 13) ∧ wx.cell? ⟨ab, 4, none⟩ = some (.int .i64 0)) (first | (refine HS.out _ ?_; (repeat' first | with_reducible exact Chg.refl _ _ | with_reducible refine Chg.drew ?_ | with_reducible refine Chg.drewN ?_ _ | with_reducible refine Chg.alloc ?_ _ | with_reducible refine Chg.setCell ?_ ?_ _ | (left; simp; done) | (right; exact Nat.le_refl _) | (right; dsimp only; omega)); done) | (refine HS2.out _ ?_; (repeat' first | with_reducible exact Chg.refl _ _ | with_reducible refine Chg.drew ?_ | with_reducible refine Chg.drewN ?_ _ | with_reducible refine Chg.alloc ?_ _ | with_reducible refine Chg.setCell ?_ ?_ _ | (left; simp; done) | (right; exact Nat.le_refl _) | (right; dsimp only; omega)); done)) (first | (go_at_call 12; refine Calls.mono (q_live Q2I.out S2.out.drew) ?_; rintro e w4 ⟨rfl, h'⟩; have S4 : Hid (Led w.heap.size w w4 (Q2.es m ++ [pT 34 (.slice (some ⟨g, 0, none⟩) 2 cp) R0, blkE (ab) 38 #[.int .i64 13, .int .i64 0, .int .i64 0, .int .i64 0, .int .i64 0, .int .i64 0, .int .i64 0, .int .i64 0], pT 34 (.slice A7 nt c7) (hP T), oT 4 (.slice A8 nt c8) (hB T), oT 2 (.slice A9 nt c9) (hK T)])) := Lib.hid h'; have HS2 : Hid (∀ W, Chg [] w4 W → W.cell? ⟨ab, 0, none⟩ = some (.int .i64 13) ∧ W.cell? ⟨ab, 4, none⟩ = some (.int .i64 0)) := Lib.hid (fun W hW => have hl := S4.out.later (hW.below (by simp) (Nat.le_refl _)); ⟨(show Blk W ab 38 #[.int .i64 13, .int .i64 0, .int .i64 0, .int .i64 0, .int .i64 0, .int .i64 0, .int .i64 0, .int .i64 0] from hl.at_ 11 rfl).cell 0, (show Blk W ab 38 #[.int .i64 13, .int .i64 0, .int .i64 0, .int .i64 0, .int .i64 0, .int .i64 0, .int .i64 0, .int .i64 0] from hl.at_ 11 rfl).cell 4⟩); clear h'))
     clear HS HS2 S2
     have zb : Blk w4 ab 38 #[.int .i64 13, .int .i64 0, .int .i64 0, .int .i64 0, .int .i64 0, .int .i64 0, .int .i64 0, .int .i64 0] := S4.out.at_ 11 rfl
     have lzb := zb.lt
     obtain ⟨z0, z1, z2, z3, z4, z5, z6, z7, fz0, fz1, fz2, fz3, fz4, fz5, fz6, fz7⟩ := zb.c8
     clear zb
     go_wp2_with fail
     go_roundw
     case rel => exact ⟨j + 1, Q2, L, D, T, rfl, by omega, by rw [HNT.out]; omega, Q2I, PR, TI, HS9.out, HI2.out, Lib.hid (led_cut1 (A := Q2.es m) S4.out)⟩
     case measure => simp [intV]; omega
   ·have gA : decide (0 < ((kn % 3 : Nat) : Int)) = false := by simp; omega
    have gA2 : decide (0 < kn % 3) = false := by simp; omega
    by_cases hT0 : nt = 0
    ·have gB : ((nt : Int) == 0) = true := by simp; omega
     clear hT0
     have hk2 : kn % 2 < 2 := Nat.mod_lt _ (by decide)
     obtain ⟨p, hp⟩ : ∃ p, R0[kn % 2]? = some p := ⟨_, List.getElem?_eq_getElem (by omega)⟩
     obtain ⟨h, L2, hPL, hh⟩ := heap_at PR.out hp
     have hlen := items_len hPL
     have QP := Lib.hid (QI.out.perm hPL)
     have t3 := pT_get (pT_tab S.out) hp
     rw [← hh] at t3
     have t0 : _ = some (Value.int .i64 (h.at_ : Int)) := t3.1
     have t1 : _ = some (Value.int .i64 h.x.gen) := t3.2
     clear t3
     have hcnt := QI.out.count_le (QS.wfi S.out)
     rw [HIT.out] at hcnt
     have HCN := Lib.hid hcnt
     have HLEN := Lib.hid hlen
     clear hcnt hlen hh hp
     by_cases hfull : ((itemsL L).length : Int) < 6
     ·go_wp2_with fail
      refine Calls.mono (q_insert 0 0 0 0 0 (j : Int) QP.out (by rw [itemsL_cons, List.length_append, ← HLEN.out, HIT.out]; exact hfull) (by have := HSER.out; omega) S.out) ?_
      rintro e w2 ⟨Q2, h2, i, gg, cc, rfl, h', q2, e1, e2, e3, e4, e5, e6, e7, _⟩
      have Q2I := Lib.hid q2
      have hi2 : (itemsL (h2 :: L2)).Perm (⟨i, gg, cc, (j : Int), Q.serial⟩ :: itemsL L) := by rw [itemsL_cons, e4, List.cons_append]; exact List.Perm.cons _ ((hPL.flatMap_right HR.I).symm)
      have hl6 : decide (((itemsL (h2 :: L2)).length : Int) ≤ 6) = true := by have := hi2.length_eq; rw [List.length_cons] at this; simp; omega
      have hgg : decide ((0 : Int) < gg) = true := by simp; omega
      have PR2 : Hid (((h2 :: L2).map href).Perm R0) := Lib.hid ((show ((h2 :: L2).map href).Perm ((h :: L2).map href) by rw [List.map_cons, List.map_cons, show href h2 = href h from by unfold href; rw [e1, e2]]).trans ((hPL.map href).symm.trans PR.out))
      have HS9 := Lib.hid (show Q2.serial ≤ ((j + 1 : Nat) : Int) by have := HSER.out; rw [e5]; omega)
      have HI2 := Lib.hid (e6.trans HIT.out)
      have TI2 := Lib.hid (TI.out.add (r := ⟨i, gg, cc, (j : Int), Q.serial⟩) hi2 (by show (0 : Int) ≤ (j : Int); omega))
      clear q2 e1 e2 e3 e4 e5 e6 e7 hi2 hPL t0 t1
      have S2 : Hid (Led w.heap.size w (w2.alloc (.cells #[.int .i64 0, .int .i64 0, .int .i64 0, .int .i64 (i : Int), .int .i64 gg, .int .i64 (j : Int), .int .i64 Q.serial, .int .i64 0] 38)) (Q2.es m ++ [pT 34 (.slice (some ⟨g, 0, none⟩) 2 cp) R0, blkE (w2.heap.size) 38 #[.int .i64 0, .int .i64 0, .int .i64 0, .int .i64 (i : Int), .int .i64 gg, .int .i64 (j : Int), .int .i64 Q.serial, .int .i64 0], pT 34 (.slice A7 nt c7) (hP T), oT 4 (.slice A8 nt c8) (hB T), oT 2 (.slice A9 nt c9) (hK T)])) := Lib.hid (led_put1 (A := Q2.es m) (T := 38) (cs := #[.int .i64 0, .int .i64 0, .int .i64 0, .int .i64 (i : Int), .int .i64 gg, .int .i64 (j : Int), .int .i64 Q.serial, .int .i64 0]) h')
      clear h'
      go_upto_region 13 with fail
      obtain ⟨ab, hab⟩ : ∃ ab, w2.heap.size = ab := ⟨_, rfl⟩
      rw [hab] at S2 ⊢
      generalize w2.alloc (.cells #[.int .i64 0, .int .i64 0, .int .i64 0, .int .i64 (i : Int), .int .i64 gg, .int .i64 (j : Int), .int .i64 Q.serial, .int .i64 0] 38) = wa at S2 ⊢
      clear hab
      have HS : Hid (∀ W, Chg [] wa W → W.cell? ⟨ab, 0, none⟩ = some (.int .i64 0) ∧ W.cell? ⟨ab, 4, none⟩ = some (.int .i64 gg)) := Lib.hid (fun W hW => have hl := S2.out.later (hW.below (by simp) (Nat.le_refl _)); ⟨(show Blk W ab 38 #[.int .i64 0, .int .i64 0, .int .i64 0, .int .i64 (i : Int), .int .i64 gg, .int .i64 (j : Int), .int .i64 Q.serial, .int .i64 0] from hl.at_ 11 rfl).cell 0, (show Blk W ab 38 #[.int .i64 0, .int .i64 0, .int .i64 0, .int .i64 (i : Int), .int .i64 gg, .int .i64 (j : Int), .int .i64 Q.serial, .int .i64 0] from hl.at_ 11 rfl).cell 4⟩)
      go_region_held3 (fun wx => wx.cell? ⟨ab, 0, none⟩ = some (.int .i64 0) ∧ wx.cell? ⟨ab, 4, none⟩ = some (.int .i64 gg)) (first | (refine HS.out _ ?_; (repeat' first | with_reducible exact Chg.refl _ _ | with_reducible refine Chg.drew ?_ | with_reducible refine Chg.drewN ?_ _ | with_reducible refine Chg.alloc ?_ _ | with_reducible refine Chg.setCell ?_ ?_ _ | (left; simp; done) | (right; exact Nat.le_refl _) | (right; dsimp only; omega)); done) | (refine HS2.out _ ?_; (repeat' first | with_reducible exact Chg.refl _ _ | with_reducible refine Chg.drew ?_ | with_reducible refine Chg.drewN ?_ _ | with_reducible refine Chg.alloc ?_ _ | with_reducible refine Chg.setCell ?_ ?_ _ | (left; simp; done) | (right; exact Nat.le_refl _) | (right; dsimp only; omega)); done)) (first | (go_at_call 12; refine Calls.mono (q_live Q2I.out S2.out.drew) ?_; rintro e w4 ⟨rfl, h'⟩; have S4 : Hid (Led w.heap.size w w4 (Q2.es m ++ [pT 34 (.slice (some ⟨g, 0, none⟩) 2 cp) R0, blkE (ab) 38 #[.int .i64 0, .int .i64 0, .int .i64 0, .int .i64 (i : Int), .int .i64 gg, .int .i64 (j : Int), .int .i64 Q.serial, .int .i64 0], pT 34 (.slice A7 nt c7) (hP T), oT 4 (.slice A8 nt c8) (hB T), oT 2 (.slice A9 nt c9) (hK T)])) := Lib.hid h'; have HS2 : Hid (∀ W, Chg [] w4 W → W.cell? ⟨ab, 0, none⟩ = some (.int .i64 0) ∧ W.cell? ⟨ab, 4, none⟩ = some (.int .i64 gg)) := Lib.hid (fun W hW => have hl := S4.out.later (hW.below (by simp) (Nat.le_refl _)); ⟨(show Blk W ab 38 #[.int .i64 0, .int .i64 0, .int .i64 0, .int .i64 (i : Int), .int .i64 gg, .int .i64 (j : Int), .int .i64 Q.serial, .int .i64 0] from hl.at_ 11 rfl).cell 0, (show Blk W ab 38 #[.int .i64 0, .int .i64 0, .int .i64 0, .int .i64 (i : Int), .int .i64 gg, .int .i64 (j : Int), .int .i64 Q.serial, .int .i64 0] from hl.at_ 11 rfl).cell 4⟩); clear h'))
      clear HS HS2 S2
      have zb : Blk w4 ab 38 #[.int .i64 0, .int .i64 0, .int .i64 0, .int .i64 (i : Int), .int .i64 gg, .int .i64 (j : Int), .int .i64 Q.serial, .int .i64 0] := S4.out.at_ 11 rfl
      have lzb := zb.lt
      obtain ⟨z0, z1, z2, z3, z4, z5, z6, z7, fz0, fz1, fz2, fz3, fz4, fz5, fz6, fz7⟩ := zb.c8
      clear zb
      have hl74 : (pR (hP T)).length ≤ 1000000000 := by rw [pR_len, hP_len, HNT.out]; omega
      have hl79 : (oR (hB T)).length ≤ 1000000000 := by rw [oR_len, hB_len, HNT.out]; omega
      have hl82 : (oR (hK T)).length ≤ 1000000000 := by rw [oR_len, hK_len, HNT.out]; omega
      go_wp2_with (first | (at_builtin; refine wpList_push (by rfl) (.tmp 74) (.tmp 77) 24 (by rfl) 0 34 _ 2 16 Tryz.underlying24 info_ref_ (by rfl) (by decide) (.slice A7 nt c7) (pR (hP T)) #[.int .i64 (i : Int), .int .i64 gg] (by rfl) (pT_tab (A := Q2.es m ++ [_, _]) S4.out) (by rfl) (by rfl) (by simp [Value.oneCell']) hl74 (by decide) (Nat.zero_le _) ?_; intro v' w' p1 p2 p3; have S5 := Lib.hid (pT_push (A := Q2.es m ++ [_, _]) S4.out p1 p2 p3); clear p1 p2 p3) | (at_builtin; refine wpList_push (by rfl) (.tmp 79) (.tmp 80) 46 (by rfl) 0 4 _ 1 1 Tryz.underlying46 info_bool_ (by rfl) (by decide) (.slice A8 nt c8) (oR (hB T)) #[.bool true] (by rfl) (oT_tab (A := Q2.es m ++ [_, _, _]) S5.out) (by rfl) (by rfl) (by simp [Value.oneCell']) hl79 (by decide) (Nat.zero_le _) ?_; intro v' w' p1 p2 p3; have S6 := Lib.hid (oT_push (A := Q2.es m ++ [_, _, _]) S5.out p1 p2 p3); clear p1 p2 p3) | (at_builtin; refine wpList_push (by rfl) (.tmp 82) (.tmp 84) 22 (by rfl) 0 2 _ 1 8 Tryz.underlying22 info_i64_ (by rfl) (by decide) (.slice A9 nt c9) (oR (hK T)) #[.int .i64 (j : Int)] (by rfl) (oT_tab (A := Q2.es m ++ [_, _, _, _]) S6.out) (by rfl) (by rfl) (by simp [Value.oneCell']) hl82 (by decide) (Nat.zero_le _) ?_; intro v' w' p1 p2 p3; have S7 := Lib.hid (oT_push (A := Q2.es m ++ [_, _, _, _]) S6.out p1 p2 p3); clear p1 p2 p3))
      go_roundw
      case rel => exact ⟨j + 1, Q2, h2 :: L2, D, (T ++ [⟨((i : Int), gg), true, (j : Int)⟩]), rfl, by omega, by rw [List.length_append, HNT.out]; simp; omega, Q2I, PR2, TI2, HS9.out, HI2.out, Lib.hid (by have h9 := led_cut1 (A := Q2.es m) S7.out; simp only [hP, hB, hK, List.map_append, List.map_cons, List.map_nil] at h9 ⊢; exact h9)⟩
      case measure => simp [intV]; omega
     ·have hmem : h ∈ L := hPL.mem_iff.2 (by simp)
      have he6 : ((itemsL L).length : Int) = 6 := by have := HCN.out; omega
      go_wp2_with fail
      refine Calls.mono (q_full 0 0 0 0 0 (j : Int) QI.out hmem (by rw [HIT.out]; exact he6) S.out) ?_
      rintro e w2 ⟨Q2, rfl, h', q2, e5, e6, _⟩
      have Q2I := Lib.hid q2
      have HS9 := Lib.hid (show Q2.serial ≤ ((j + 1 : Nat) : Int) by have := HSER.out; rw [e5]; omega)
      have HI2 := Lib.hid (e6.trans HIT.out)
      have hl6 : decide (((itemsL L).length : Int) ≤ 6) = true := by simp; omega
      clear q2 e5 e6 hPL t0 t1 he6
      have S2 : Hid (Led w.heap.size w (w2.alloc (.cells #[.int .i64 13, .int .i64 0, .int .i64 0, .int .i64 0, .int .i64 0, .int .i64 0, .int .i64 0, .int .i64 0] 38)) (Q2.es m ++ [pT 34 (.slice (some ⟨g, 0, none⟩) 2 cp) R0, blkE (w2.heap.size) 38 #[.int .i64 13, .int .i64 0, .int .i64 0, .int .i64 0, .int .i64 0, .int .i64 0, .int .i64 0, .int .i64 0], pT 34 (.slice A7 nt c7) (hP T), oT 4 (.slice A8 nt c8) (hB T), oT 2 (.slice A9 nt c9) (hK T)])) := Lib.hid (led_put1 (A := Q2.es m) (T := 38) (cs := #[.int .i64 13, .int .i64 0, .int .i64 0, .int .i64 0, .int .i64 0, .int .i64 0, .int .i64 0, .int .i64 0]) h')
      clear h'
      go_upto_region 13 with fail
      obtain ⟨ab, hab⟩ : ∃ ab, w2.heap.size = ab := ⟨_, rfl⟩
      rw [hab] at S2 ⊢
      generalize w2.alloc (.cells #[.int .i64 13, .int .i64 0, .int .i64 0, .int .i64 0, .int .i64 0, .int .i64 0, .int .i64 0, .int .i64 0] 38) = wa at S2 ⊢
      clear hab
      have HS : Hid (∀ W, Chg [] wa W → W.cell? ⟨ab, 0, none⟩ = some (.int .i64 13) ∧ W.cell? ⟨ab, 4, none⟩ = some (.int .i64 0)) := Lib.hid (fun W hW => have hl := S2.out.later (hW.below (by simp) (Nat.le_refl _)); ⟨(show Blk W ab 38 #[.int .i64 13, .int .i64 0, .int .i64 0, .int .i64 0, .int .i64 0, .int .i64 0, .int .i64 0, .int .i64 0] from hl.at_ 11 rfl).cell 0, (show Blk W ab 38 #[.int .i64 13, .int .i64 0, .int .i64 0, .int .i64 0, .int .i64 0, .int .i64 0, .int .i64 0, .int .i64 0] from hl.at_ 11 rfl).cell 4⟩)
      go_region_held3 (fun wx => wx.cell? ⟨ab, 0, none⟩ = some (.int .i64 13) ∧ wx.cell? ⟨ab, 4, none⟩ = some (.int .i64 0)) (first | (refine HS.out _ ?_; (repeat' first | with_reducible exact Chg.refl _ _ | with_reducible refine Chg.drew ?_ | with_reducible refine Chg.drewN ?_ _ | with_reducible refine Chg.alloc ?_ _ | with_reducible refine Chg.setCell ?_ ?_ _ | (left; simp; done) | (right; exact Nat.le_refl _) | (right; dsimp only; omega)); done) | (refine HS2.out _ ?_; (repeat' first | with_reducible exact Chg.refl _ _ | with_reducible refine Chg.drew ?_ | with_reducible refine Chg.drewN ?_ _ | with_reducible refine Chg.alloc ?_ _ | with_reducible refine Chg.setCell ?_ ?_ _ | (left; simp; done) | (right; exact Nat.le_refl _) | (right; dsimp only; omega)); done)) (first | (go_at_call 12; refine Calls.mono (q_live Q2I.out S2.out.drew) ?_; rintro e w4 ⟨rfl, h'⟩; have S4 : Hid (Led w.heap.size w w4 (Q2.es m ++ [pT 34 (.slice (some ⟨g, 0, none⟩) 2 cp) R0, blkE (ab) 38 #[.int .i64 13, .int .i64 0, .int .i64 0, .int .i64 0, .int .i64 0, .int .i64 0, .int .i64 0, .int .i64 0], pT 34 (.slice A7 nt c7) (hP T), oT 4 (.slice A8 nt c8) (hB T), oT 2 (.slice A9 nt c9) (hK T)])) := Lib.hid h'; have HS2 : Hid (∀ W, Chg [] w4 W → W.cell? ⟨ab, 0, none⟩ = some (.int .i64 13) ∧ W.cell? ⟨ab, 4, none⟩ = some (.int .i64 0)) := Lib.hid (fun W hW => have hl := S4.out.later (hW.below (by simp) (Nat.le_refl _)); ⟨(show Blk W ab 38 #[.int .i64 13, .int .i64 0, .int .i64 0, .int .i64 0, .int .i64 0, .int .i64 0, .int .i64 0, .int .i64 0] from hl.at_ 11 rfl).cell 0, (show Blk W ab 38 #[.int .i64 13, .int .i64 0, .int .i64 0, .int .i64 0, .int .i64 0, .int .i64 0, .int .i64 0, .int .i64 0] from hl.at_ 11 rfl).cell 4⟩); clear h'))
      clear HS HS2 S2
      have zb : Blk w4 ab 38 #[.int .i64 13, .int .i64 0, .int .i64 0, .int .i64 0, .int .i64 0, .int .i64 0, .int .i64 0, .int .i64 0] := S4.out.at_ 11 rfl
      have lzb := zb.lt
      obtain ⟨z0, z1, z2, z3, z4, z5, z6, z7, fz0, fz1, fz2, fz3, fz4, fz5, fz6, fz7⟩ := zb.c8
      clear zb
      go_wp2_with fail
      go_roundw
      case rel => exact ⟨j + 1, Q2, L, D, T, rfl, by omega, by rw [HNT.out]; omega, Q2I, PR, TI, HS9.out, HI2.out, Lib.hid (led_cut1 (A := Q2.es m) S4.out)⟩
      case measure => simp [intV]; omega
    ·have hnt0 : 0 < nt := Nat.pos_of_ne_zero hT0
     obtain ⟨b7, rfl⟩ := hA7 hnt0
     obtain ⟨b8, rfl⟩ := hA8 hnt0
     obtain ⟨b9, rfl⟩ := hA9 hnt0
     obtain ⟨q3, hq3⟩ : ∃ q3 : Nat, kn / 3 = q3 := ⟨_, rfl⟩
     have hd5 : (kn : Int).tdiv 3 = (q3 : Int) := by rw [tdiv3, hq3]
     have hwq : wrap64 (q3 : Int) = (q3 : Int) := wrap_small (third_le hq3 HBD.out)
     clear hq3
     obtain ⟨d, hd⟩ : ∃ d, q3 % nt = d := ⟨_, rfl⟩
     have hdn : d < nt := by rw [← hd]; exact Nat.mod_lt _ hnt0
     have hmd : (q3 : Int).tmod (nt : Int) = (d : Int) := by rw [tmod_nat, hd]
     have hnz : ((nt : Int) == 0) = false := by simp; omega
     have hnz2 : (nt : Int) ≠ 0 := by omega
     clear hd
     obtain ⟨⟨p, bb, tk⟩, ht⟩ : ∃ t, T[d]? = some t := ⟨_, List.getElem?_eq_getElem (by rw [HNT.out]; exact hdn)⟩
     have hTm := List.mem_of_getElem? ht
     have HT := Lib.hid ht
     have q1 := pT_get (pT_tab (A := Q.es m ++ [_]) S.out) (i := d) (x := p) (by unfold hP; rw [List.getElem?_map, ht]; rfl)
     have t0 := q1.1
     have t1 := q1.2
     clear q1 ht
     cases bb with
     | true =>
      obtain ⟨h, hm, r, hr, hp, hk⟩ := TI.out.live hTm rfl
      simp only at hp hk
      subst hk
      obtain ⟨L2, hPL⟩ := perm_head hm
      have QP := Lib.hid (QI.out.perm hPL)
      have hp1 : p.1 = (r.at_ : Int) := by rw [← hp]; rfl
      have hp2 : p.2 = r.gen := by rw [← hp]; rfl
      rw [hp1] at t0
      rw [hp2] at t1
      go_wp2_with fail
      refine Calls.mono (q_remove 0 0 0 0 0 0 QP.out hr S.out) ?_
      rintro e w2 ⟨Q2, h2, rfl, h', q2, e1, e2, e3, e4, e5, e6⟩
      have Q2I : Hid (QInv Q2 (h2 :: L2) (p :: D)) := Lib.hid (by rw [← hp]; exact q2)
      have hi2 : (itemsL L).Perm (r :: itemsL (h2 :: L2)) := by rw [itemsL_cons]; exact (hPL.flatMap_right HR.I).trans (by rw [List.flatMap_cons]; exact (e4.append_right _))
      have PR2 : Hid (((h2 :: L2).map href).Perm R0) := Lib.hid ((show ((h2 :: L2).map href).Perm ((h :: L2).map href) by rw [List.map_cons, List.map_cons, show href h2 = href h from by unfold href; rw [e1, e2]]).trans ((hPL.map href).symm.trans PR.out))
      have HS9 := Lib.hid (show Q2.serial ≤ ((j + 1 : Nat) : Int) by have := HSER.out; rw [e5]; omega)
      have HI2 := Lib.hid (e6.trans HIT.out)
      have TI2 := Lib.hid (TI.out.del (r := r) HT.out rfl hi2 hp rfl)
      clear q2 e1 e2 e3 e4 e5 e6 hi2 hPL t0 t1 hp1 hp2 hp hm
      have S2 : Hid (Led w.heap.size w (w2.alloc (.cells #[.int .i64 0, .int .i64 0, .int .i64 0, .int .i64 0, .int .i64 0, .int .i64 r.key, .int .i64 r.ser, .int .i64 0] 38)) (Q2.es m ++ [pT 34 (.slice (some ⟨g, 0, none⟩) 2 cp) R0, blkE (w2.heap.size) 38 #[.int .i64 0, .int .i64 0, .int .i64 0, .int .i64 0, .int .i64 0, .int .i64 r.key, .int .i64 r.ser, .int .i64 0], pT 34 (.slice (some ⟨b7, 0, none⟩) nt c7) (hP T), oT 4 (.slice (some ⟨b8, 0, none⟩) nt c8) (hB T), oT 2 (.slice (some ⟨b9, 0, none⟩) nt c9) (hK T)])) := Lib.hid (led_put1 (A := Q2.es m) (T := 38) (cs := #[.int .i64 0, .int .i64 0, .int .i64 0, .int .i64 0, .int .i64 0, .int .i64 r.key, .int .i64 r.ser, .int .i64 0]) h')
      clear h'
      go_upto_region 19 with fail
      obtain ⟨ab, hab⟩ : ∃ ab, w2.heap.size = ab := ⟨_, rfl⟩
      rw [hab] at S2 ⊢
      generalize w2.alloc (.cells #[.int .i64 0, .int .i64 0, .int .i64 0, .int .i64 0, .int .i64 0, .int .i64 r.key, .int .i64 r.ser, .int .i64 0] 38) = wa at S2 ⊢
      clear hab
      have zb : Blk wa ab 38 #[.int .i64 0, .int .i64 0, .int .i64 0, .int .i64 0, .int .i64 0, .int .i64 r.key, .int .i64 r.ser, .int .i64 0] := S2.out.at_ 11 rfl
      have lzb := zb.lt
      obtain ⟨z0, z1, z2, z3, z4, z5, z6, z7, fz0, fz1, fz2, fz3, fz4, fz5, fz6, fz7⟩ := zb.c8
      clear zb
      have y0 := oT_get (oT_tab (A := Q2.es m ++ [_, _, _]) S2.out) (i := d) (x := .bool true) (by unfold hB; rw [List.getElem?_map, HT.out]; rfl)
      have y1 := oT_get (oT_tab (A := Q2.es m ++ [_, _, _, _]) S2.out) (i := d) (x := .int .i64 r.key) (by unfold hK; rw [List.getElem?_map, HT.out]; rfl)
      have fy0 := (oT_tab (A := Q2.es m ++ [_, _, _]) S2.out).frozen d
      have hd0 : (0 : Int) ≤ (d : Int) := by omega
      have hd1 : (d : Int) < (nt : Int) := by omega
      go_big_region
      go_wp2_with fail
      go_roundw
      case rel => exact ⟨j + 1, Q2, h2 :: L2, p :: D, T.set d ⟨p, false, r.key⟩, rfl, by omega, by rw [List.length_set, HNT.out]; omega, Q2I, PR2, TI2, HS9.out, HI2.out, Lib.hid (by have h9 := led_cut1 (A := Q2.es m) (oT_set (A := Q2.es m ++ [_, _, _]) (i := d) (.bool false) S2.out.drew (by rw [hB_len, HNT.out]; exact hdn)); rw [hP_set HT.out, hK_set HT.out, hB_set]; exact h9)⟩
      case measure => simp [intV]; omega
     | false =>
      have hD := TI.out.de _ hTm rfl
      go_wp2_with fail
      refine Calls.mono (q_rem_dead 0 0 0 0 0 0 QI.out hD S.out) ?_
      rintro e w2 ⟨Q2, rfl, h', q2, e5, e6⟩
      have Q2I := Lib.hid q2
      have HS9 := Lib.hid (show Q2.serial ≤ ((j + 1 : Nat) : Int) by have := HSER.out; rw [e5]; omega)
      have HI2 := Lib.hid (e6.trans HIT.out)
      clear q2 e5 e6 t0 t1
      have S2 : Hid (Led w.heap.size w (w2.alloc (.cells #[.int .i64 23, .int .i64 0, .int .i64 0, .int .i64 0, .int .i64 0, .int .i64 0, .int .i64 0, .int .i64 0] 38)) (Q2.es m ++ [pT 34 (.slice (some ⟨g, 0, none⟩) 2 cp) R0, blkE (w2.heap.size) 38 #[.int .i64 23, .int .i64 0, .int .i64 0, .int .i64 0, .int .i64 0, .int .i64 0, .int .i64 0, .int .i64 0], pT 34 (.slice (some ⟨b7, 0, none⟩) nt c7) (hP T), oT 4 (.slice (some ⟨b8, 0, none⟩) nt c8) (hB T), oT 2 (.slice (some ⟨b9, 0, none⟩) nt c9) (hK T)])) := Lib.hid (led_put1 (A := Q2.es m) (T := 38) (cs := #[.int .i64 23, .int .i64 0, .int .i64 0, .int .i64 0, .int .i64 0, .int .i64 0, .int .i64 0, .int .i64 0]) h')
      clear h'
      go_upto_region 19 with fail
      obtain ⟨ab, hab⟩ : ∃ ab, w2.heap.size = ab := ⟨_, rfl⟩
      rw [hab] at S2 ⊢
      generalize w2.alloc (.cells #[.int .i64 23, .int .i64 0, .int .i64 0, .int .i64 0, .int .i64 0, .int .i64 0, .int .i64 0, .int .i64 0] 38) = wa at S2 ⊢
      clear hab
      have zb : Blk wa ab 38 #[.int .i64 23, .int .i64 0, .int .i64 0, .int .i64 0, .int .i64 0, .int .i64 0, .int .i64 0, .int .i64 0] := S2.out.at_ 11 rfl
      have lzb := zb.lt
      obtain ⟨z0, z1, z2, z3, z4, z5, z6, z7, fz0, fz1, fz2, fz3, fz4, fz5, fz6, fz7⟩ := zb.c8
      clear zb
      have y0 := oT_get (oT_tab (A := Q2.es m ++ [_, _, _]) S2.out) (i := d) (x := .bool false) (by unfold hB; rw [List.getElem?_map, HT.out]; rfl)
      have y1 := oT_get (oT_tab (A := Q2.es m ++ [_, _, _, _]) S2.out) (i := d) (x := .int .i64 tk) (by unfold hK; rw [List.getElem?_map, HT.out]; rfl)
      have fy0 := (oT_tab (A := Q2.es m ++ [_, _, _]) S2.out).frozen d
      have hd0 : (0 : Int) ≤ (d : Int) := by omega
      have hd1 : (d : Int) < (nt : Int) := by omega
      go_big_region
      go_wp2_with fail
      go_roundw
      case rel => exact ⟨j + 1, Q2, L, D, T.set d ⟨p, false, tk⟩, rfl, by omega, by rw [List.length_set, HNT.out]; omega, Q2I, PR, Lib.hid (by rw [set_same HT.out rfl]; exact TI.out), HS9.out, HI2.out, Lib.hid (by have h9 := led_cut1 (A := Q2.es m) (oT_set (A := Q2.es m ++ [_, _, _]) (i := d) (.bool false) S2.out.drew (by rw [hB_len, HNT.out]; exact hdn)); rw [hP_set HT.out, hK_set HT.out, hB_set]; exact h9)⟩
      case measure => simp [intV]; omega
  ·by_cases hjn : j < n
   ·have g1 : decide ((j : Int) < (n : Int)) = true := by simp; omega
    have g2 : decide ((j : Int) < 80) = false := by simp; omega
    have TR := Lib.hid TI.out.ref
    clear TI
    go_wp2_with fail
    go_loopw [15, 16] (fun x15 x16 wx => ∃ (i : Nat) (Q : QS) (L : List HR) (D : List (Int × Int)), x15 = .int .i64 (cntB T i : Int) ∧ x16 = .int .i64 (i : Int) ∧ i ≤ nt ∧ Hid (QInv Q L D) ∧ Hid (TRef T L D) ∧ Hid (Led w.heap.size w wx (Q.es m ++ [pT 34 (.slice (some ⟨g, 0, none⟩) 2 cp) R0, pT 34 (.slice A7 nt c7) (hP T), oT 4 (.slice A8 nt c8) (hB T), oT 2 (.slice A9 nt c9) (hK T)]))) (fun _ x _ => nt - intV x)
    case atStart => exact ⟨0, Q, L, D, rfl, rfl, Nat.zero_le _, QI, TR, S⟩
    case round =>
     clear QI TR S HSER HIT PR
     obtain ⟨i, Q, L, D, rfl, rfl, hi, QI, TR, S⟩ := hrel
     by_cases hin : i < nt
     ·have hnt0 : 0 < nt := by omega
      obtain ⟨b7, rfl⟩ := hA7 hnt0
      obtain ⟨b8, rfl⟩ := hA8 hnt0
      obtain ⟨b9, rfl⟩ := hA9 hnt0
      clear hA7 hA8 hA9
      have gi : decide ((i : Int) < (nt : Int)) = true := by simp; omega
      have gi2 : decide (i < nt) = true := by simp; omega
      have hd0 : (0 : Int) ≤ (i : Int) := by omega
      have hd1 : (i : Int) < (nt : Int) := by omega
      have hwi : IntKind.i64.wrap ((i : Int) + 1) = ((i + 1 : Nat) : Int) := by rw [IntKind.wrap_i64]; omega
      have hcl := cntB_le T i
      have hwl : IntKind.i64.wrap ((cntB T i : Int) + 1) = (cntB T i : Int) + 1 := by rw [IntKind.wrap_i64]; omega
      obtain ⟨⟨p, bb, tk⟩, ht⟩ : ∃ t, T[i]? = some t := ⟨_, List.getElem?_eq_getElem (by rw [HNT.out]; exact hin)⟩
      have hTm := List.mem_of_getElem? ht
      have HT := Lib.hid ht
      have q1 := pT_get (pT_tab (A := Q.es m ++ [_]) S.out) (i := i) (x := p) (by unfold hP; rw [List.getElem?_map, ht]; rfl)
      have t0 := q1.1
      have t1 := q1.2
      have hcs := cntB_succ ht
      have HCS := Lib.hid hcs
      clear q1 ht hcs
      cases bb with
      | true =>
       obtain ⟨h, hm, r, hr, hp⟩ := TR.out.live hTm rfl
       simp only at hp
       obtain ⟨L2, hPL⟩ := perm_head hm
       have QP := Lib.hid (QI.out.perm hPL)
       have hp1 : p.1 = (r.at_ : Int) := by rw [← hp]; rfl
       have hp2 : p.2 = r.gen := by rw [← hp]; rfl
       rw [hp1] at t0
       rw [hp2] at t1
       go_wp2_with fail
       refine Calls.mono (q_lower 0 0 0 0 0 (-1) QP.out hr (TR.out.kp r (mem_itemsL hm hr)) S.out) ?_
       rintro e w2 ⟨Q2, h2, I', rfl, h', q2, e1, e2, e3, e4, e5, _⟩
       have Q2I := Lib.hid q2
       have hi1 : (itemsL L).Perm (r :: (I' ++ itemsL L2)) := (hPL.flatMap_right HR.I).trans (by rw [List.flatMap_cons]; exact (e4.append_right _))
       have hi2 : (itemsL (h2 :: L2)).Perm (⟨r.at_, r.gen, r.cell, -1, r.ser⟩ :: (I' ++ itemsL L2)) := by rw [itemsL_cons, e5, List.cons_append]
       have TR2 := Lib.hid (TR.out.low hi1 hi2 rfl (by show (-1 : Int) ≤ -1; decide))
       clear q2 e1 e2 e3 e4 e5 hi1 hi2 hPL t0 t1 hp1 hp2 hp hm
       have S2 : Hid (Led w.heap.size w (w2.alloc (.cells #[.int .i64 0, .int .i64 0, .int .i64 0, .int .i64 0, .int .i64 0, .int .i64 (-1), .int .i64 r.ser, .int .i64 0] 38)) (Q2.es m ++ [pT 34 (.slice (some ⟨g, 0, none⟩) 2 cp) R0, blkE (w2.heap.size) 38 #[.int .i64 0, .int .i64 0, .int .i64 0, .int .i64 0, .int .i64 0, .int .i64 (-1), .int .i64 r.ser, .int .i64 0], pT 34 (.slice (some ⟨b7, 0, none⟩) nt c7) (hP T), oT 4 (.slice (some ⟨b8, 0, none⟩) nt c8) (hB T), oT 2 (.slice (some ⟨b9, 0, none⟩) nt c9) (hK T)])) := Lib.hid (led_put1 (A := Q2.es m) (T := 38) (cs := #[.int .i64 0, .int .i64 0, .int .i64 0, .int .i64 0, .int .i64 0, .int .i64 (-1), .int .i64 r.ser, .int .i64 0]) h')
       clear h'
       go_upto_region 27 with fail
       obtain ⟨ab, hab⟩ : ∃ ab, w2.heap.size = ab := ⟨_, rfl⟩
       rw [hab] at S2 ⊢
       generalize w2.alloc (.cells #[.int .i64 0, .int .i64 0, .int .i64 0, .int .i64 0, .int .i64 0, .int .i64 (-1), .int .i64 r.ser, .int .i64 0] 38) = wa at S2 ⊢
       clear hab
       have zb : Blk wa ab 38 #[.int .i64 0, .int .i64 0, .int .i64 0, .int .i64 0, .int .i64 0, .int .i64 (-1), .int .i64 r.ser, .int .i64 0] := S2.out.at_ 11 rfl
       have lzb := zb.lt
       obtain ⟨z0, z1, z2, z3, z4, z5, z6, z7, fz0, fz1, fz2, fz3, fz4, fz5, fz6, fz7⟩ := zb.c8
       clear zb
       have y0 := oT_get (oT_tab (A := Q2.es m ++ [_, _, _]) S2.out) (i := i) (x := .bool true) (by unfold hB; rw [List.getElem?_map, HT.out]; rfl)
       go_big_region
       go_wp2_with fail
       go_roundw
       case rel => exact ⟨i + 1, Q2, h2 :: L2, D, by rw [HCS.out]; simp, rfl, by omega, Q2I, TR2, Lib.hid (led_cut1 (A := Q2.es m) S2.out).drew⟩
       case measure => simp [intV]; omega
      | false =>
       have hD := TR.out.de _ hTm rfl
       go_wp2_with fail
       refine Calls.mono (q_dec_dead 0 0 0 0 0 (-1) QI.out hD S.out) ?_
       rintro e w2 ⟨Q2, rfl, h', q2, e5, e6⟩
       have Q2I := Lib.hid q2
       clear q2 e5 e6 t0 t1
       have S2 : Hid (Led w.heap.size w (w2.alloc (.cells #[.int .i64 23, .int .i64 0, .int .i64 0, .int .i64 0, .int .i64 0, .int .i64 0, .int .i64 0, .int .i64 0] 38)) (Q2.es m ++ [pT 34 (.slice (some ⟨g, 0, none⟩) 2 cp) R0, blkE (w2.heap.size) 38 #[.int .i64 23, .int .i64 0, .int .i64 0, .int .i64 0, .int .i64 0, .int .i64 0, .int .i64 0, .int .i64 0], pT 34 (.slice (some ⟨b7, 0, none⟩) nt c7) (hP T), oT 4 (.slice (some ⟨b8, 0, none⟩) nt c8) (hB T), oT 2 (.slice (some ⟨b9, 0, none⟩) nt c9) (hK T)])) := Lib.hid (led_put1 (A := Q2.es m) (T := 38) (cs := #[.int .i64 23, .int .i64 0, .int .i64 0, .int .i64 0, .int .i64 0, .int .i64 0, .int .i64 0, .int .i64 0]) h')
       clear h'
       go_upto_region 27 with fail
       obtain ⟨ab, hab⟩ : ∃ ab, w2.heap.size = ab := ⟨_, rfl⟩
       rw [hab] at S2 ⊢
       generalize w2.alloc (.cells #[.int .i64 23, .int .i64 0, .int .i64 0, .int .i64 0, .int .i64 0, .int .i64 0, .int .i64 0, .int .i64 0] 38) = wa at S2 ⊢
       clear hab
       have zb : Blk wa ab 38 #[.int .i64 23, .int .i64 0, .int .i64 0, .int .i64 0, .int .i64 0, .int .i64 0, .int .i64 0, .int .i64 0] := S2.out.at_ 11 rfl
       have lzb := zb.lt
       obtain ⟨z0, z1, z2, z3, z4, z5, z6, z7, fz0, fz1, fz2, fz3, fz4, fz5, fz6, fz7⟩ := zb.c8
       clear zb
       have y0 := oT_get (oT_tab (A := Q2.es m ++ [_, _, _]) S2.out) (i := i) (x := .bool false) (by unfold hB; rw [List.getElem?_map, HT.out]; rfl)
       go_big_region
       go_wp2_with fail
       go_roundw
       case rel => exact ⟨i + 1, Q2, L, D, by rw [HCS.out]; simp, rfl, by omega, Q2I, TR, Lib.hid (led_cut1 (A := Q2.es m) S2.out).drew⟩
       case measure => simp [intV]; omega
     ·obtain rfl : i = nt := by omega
      clear hA7 hA8 hA9
      have gi : decide ((i : Int) < (i : Int)) = false := by simp
      have gi2 : decide (i < i) = false := by simp
      have hall := TR.out.all
      rw [HNT.out] at hall
      have HALL := Lib.hid hall
      clear hall
      go_wp2_with fail
      refine Calls.mono (q_live QI.out S.out) ?_
      rintro e w2 ⟨rfl, h'⟩
      rw [← HALL.out]
      have S2 := Lib.hid h'
      clear h' S
      go_wp2_with (first | (go_at_call 13; refine Calls.mono (top_awake _) ?_; rintro e w3 ⟨rfl, q9⟩))
      exact hR.out _ _ ⟨rfl, (S2.out.later q9).be⟩
   ·have g1 : decide ((j : Int) < (n : Int)) = false := by simp; omega
    have TR := Lib.hid TI.out.ref
    clear TI
    go_wp2_with fail
    go_loopw [15, 16] (fun x15 x16 wx => ∃ (i : Nat) (Q : QS) (L : List HR) (D : List (Int × Int)), x15 = .int .i64 (cntB T i : Int) ∧ x16 = .int .i64 (i : Int) ∧ i ≤ nt ∧ Hid (QInv Q L D) ∧ Hid (TRef T L D) ∧ Hid (Led w.heap.size w wx (Q.es m ++ [pT 34 (.slice (some ⟨g, 0, none⟩) 2 cp) R0, pT 34 (.slice A7 nt c7) (hP T), oT 4 (.slice A8 nt c8) (hB T), oT 2 (.slice A9 nt c9) (hK T)]))) (fun _ x _ => nt - intV x)
    case atStart => exact ⟨0, Q, L, D, rfl, rfl, Nat.zero_le _, QI, TR, S⟩
    case round =>
     clear QI TR S HSER HIT PR
     obtain ⟨i, Q, L, D, rfl, rfl, hi, QI, TR, S⟩ := hrel
     by_cases hin : i < nt
     ·have hnt0 : 0 < nt := by omega
      obtain ⟨b7, rfl⟩ := hA7 hnt0
      obtain ⟨b8, rfl⟩ := hA8 hnt0
      obtain ⟨b9, rfl⟩ := hA9 hnt0
      clear hA7 hA8 hA9
      have gi : decide ((i : Int) < (nt : Int)) = true := by simp; omega
      have gi2 : decide (i < nt) = true := by simp; omega
      have hd0 : (0 : Int) ≤ (i : Int) := by omega
      have hd1 : (i : Int) < (nt : Int) := by omega
      have hwi : IntKind.i64.wrap ((i : Int) + 1) = ((i + 1 : Nat) : Int) := by rw [IntKind.wrap_i64]; omega
      have hcl := cntB_le T i
      have hwl : IntKind.i64.wrap ((cntB T i : Int) + 1) = (cntB T i : Int) + 1 := by rw [IntKind.wrap_i64]; omega
      obtain ⟨⟨p, bb, tk⟩, ht⟩ : ∃ t, T[i]? = some t := ⟨_, List.getElem?_eq_getElem (by rw [HNT.out]; exact hin)⟩
      have hTm := List.mem_of_getElem? ht
      have HT := Lib.hid ht
      have q1 := pT_get (pT_tab (A := Q.es m ++ [_]) S.out) (i := i) (x := p) (by unfold hP; rw [List.getElem?_map, ht]; rfl)
      have t0 := q1.1
      have t1 := q1.2
      have hcs := cntB_succ ht
      have HCS := Lib.hid hcs
      clear q1 ht hcs
      cases bb with
      | true =>
       obtain ⟨h, hm, r, hr, hp⟩ := TR.out.live hTm rfl
       simp only at hp
       obtain ⟨L2, hPL⟩ := perm_head hm
       have QP := Lib.hid (QI.out.perm hPL)
       have hp1 : p.1 = (r.at_ : Int) := by rw [← hp]; rfl
       have hp2 : p.2 = r.gen := by rw [← hp]; rfl
       rw [hp1] at t0
       rw [hp2] at t1
       go_wp2_with fail
       refine Calls.mono (q_lower 0 0 0 0 0 (-1) QP.out hr (TR.out.kp r (mem_itemsL hm hr)) S.out) ?_
       rintro e w2 ⟨Q2, h2, I', rfl, h', q2, e1, e2, e3, e4, e5, _⟩
       have Q2I := Lib.hid q2
       have hi1 : (itemsL L).Perm (r :: (I' ++ itemsL L2)) := (hPL.flatMap_right HR.I).trans (by rw [List.flatMap_cons]; exact (e4.append_right _))
       have hi2 : (itemsL (h2 :: L2)).Perm (⟨r.at_, r.gen, r.cell, -1, r.ser⟩ :: (I' ++ itemsL L2)) := by rw [itemsL_cons, e5, List.cons_append]
       have TR2 := Lib.hid (TR.out.low hi1 hi2 rfl (by show (-1 : Int) ≤ -1; decide))
       clear q2 e1 e2 e3 e4 e5 hi1 hi2 hPL t0 t1 hp1 hp2 hp hm
       have S2 : Hid (Led w.heap.size w (w2.alloc (.cells #[.int .i64 0, .int .i64 0, .int .i64 0, .int .i64 0, .int .i64 0, .int .i64 (-1), .int .i64 r.ser, .int .i64 0] 38)) (Q2.es m ++ [pT 34 (.slice (some ⟨g, 0, none⟩) 2 cp) R0, blkE (w2.heap.size) 38 #[.int .i64 0, .int .i64 0, .int .i64 0, .int .i64 0, .int .i64 0, .int .i64 (-1), .int .i64 r.ser, .int .i64 0], pT 34 (.slice (some ⟨b7, 0, none⟩) nt c7) (hP T), oT 4 (.slice (some ⟨b8, 0, none⟩) nt c8) (hB T), oT 2 (.slice (some ⟨b9, 0, none⟩) nt c9) (hK T)])) := Lib.hid (led_put1 (A := Q2.es m) (T := 38) (cs := #[.int .i64 0, .int .i64 0, .int .i64 0, .int .i64 0, .int .i64 0, .int .i64 (-1), .int .i64 r.ser, .int .i64 0]) h')
       clear h'
       go_upto_region 27 with fail
       obtain ⟨ab, hab⟩ : ∃ ab, w2.heap.size = ab := ⟨_, rfl⟩
       rw [hab] at S2 ⊢
       generalize w2.alloc (.cells #[.int .i64 0, .int .i64 0, .int .i64 0, .int .i64 0, .int .i64 0, .int .i64 (-1), .int .i64 r.ser, .int .i64 0] 38) = wa at S2 ⊢
       clear hab
       have zb : Blk wa ab 38 #[.int .i64 0, .int .i64 0, .int .i64 0, .int .i64 0, .int .i64 0, .int .i64 (-1), .int .i64 r.ser, .int .i64 0] := S2.out.at_ 11 rfl
       have lzb := zb.lt
       obtain ⟨z0, z1, z2, z3, z4, z5, z6, z7, fz0, fz1, fz2, fz3, fz4, fz5, fz6, fz7⟩ := zb.c8
       clear zb
       have y0 := oT_get (oT_tab (A := Q2.es m ++ [_, _, _]) S2.out) (i := i) (x := .bool true) (by unfold hB; rw [List.getElem?_map, HT.out]; rfl)
       go_big_region
       go_wp2_with fail
       go_roundw
       case rel => exact ⟨i + 1, Q2, h2 :: L2, D, by rw [HCS.out]; simp, rfl, by omega, Q2I, TR2, Lib.hid (led_cut1 (A := Q2.es m) S2.out).drew⟩
       case measure => simp [intV]; omega
      | false =>
       have hD := TR.out.de _ hTm rfl
       go_wp2_with fail
       refine Calls.mono (q_dec_dead 0 0 0 0 0 (-1) QI.out hD S.out) ?_
       rintro e w2 ⟨Q2, rfl, h', q2, e5, e6⟩
       have Q2I := Lib.hid q2
       clear q2 e5 e6 t0 t1
       have S2 : Hid (Led w.heap.size w (w2.alloc (.cells #[.int .i64 23, .int .i64 0, .int .i64 0, .int .i64 0, .int .i64 0, .int .i64 0, .int .i64 0, .int .i64 0] 38)) (Q2.es m ++ [pT 34 (.slice (some ⟨g, 0, none⟩) 2 cp) R0, blkE (w2.heap.size) 38 #[.int .i64 23, .int .i64 0, .int .i64 0, .int .i64 0, .int .i64 0, .int .i64 0, .int .i64 0, .int .i64 0], pT 34 (.slice (some ⟨b7, 0, none⟩) nt c7) (hP T), oT 4 (.slice (some ⟨b8, 0, none⟩) nt c8) (hB T), oT 2 (.slice (some ⟨b9, 0, none⟩) nt c9) (hK T)])) := Lib.hid (led_put1 (A := Q2.es m) (T := 38) (cs := #[.int .i64 23, .int .i64 0, .int .i64 0, .int .i64 0, .int .i64 0, .int .i64 0, .int .i64 0, .int .i64 0]) h')
       clear h'
       go_upto_region 27 with fail
       obtain ⟨ab, hab⟩ : ∃ ab, w2.heap.size = ab := ⟨_, rfl⟩
       rw [hab] at S2 ⊢
       generalize w2.alloc (.cells #[.int .i64 23, .int .i64 0, .int .i64 0, .int .i64 0, .int .i64 0, .int .i64 0, .int .i64 0, .int .i64 0] 38) = wa at S2 ⊢
       clear hab
       have zb : Blk wa ab 38 #[.int .i64 23, .int .i64 0, .int .i64 0, .int .i64 0, .int .i64 0, .int .i64 0, .int .i64 0, .int .i64 0] := S2.out.at_ 11 rfl
       have lzb := zb.lt
       obtain ⟨z0, z1, z2, z3, z4, z5, z6, z7, fz0, fz1, fz2, fz3, fz4, fz5, fz6, fz7⟩ := zb.c8
       clear zb
       have y0 := oT_get (oT_tab (A := Q2.es m ++ [_, _, _]) S2.out) (i := i) (x := .bool false) (by unfold hB; rw [List.getElem?_map, HT.out]; rfl)
       go_big_region
       go_wp2_with fail
       go_roundw
       case rel => exact ⟨i + 1, Q2, L, D, by rw [HCS.out]; simp, rfl, by omega, Q2I, TR, Lib.hid (led_cut1 (A := Q2.es m) S2.out).drew⟩
       case measure => simp [intV]; omega
     ·obtain rfl : i = nt := by omega
      clear hA7 hA8 hA9
      have gi : decide ((i : Int) < (i : Int)) = false := by simp
      have gi2 : decide (i < i) = false := by simp
      have hall := TR.out.all
      rw [HNT.out] at hall
      have HALL := Lib.hid hall
      clear hall
      go_wp2_with fail
      refine Calls.mono (q_live QI.out S.out) ?_
      rintro e w2 ⟨rfl, h'⟩
      rw [← HALL.out]
      have S2 := Lib.hid h'
      clear h' S
      go_wp2_with (first | (go_at_call 13; refine Calls.mono (top_awake _) ?_; rintro e w3 ⟨rfl, q9⟩))
      exact hR.out _ _ ⟨rfl, (S2.out.later q9).be⟩
end Go.Proofs.YtognmhgdegpdiaaGreat
