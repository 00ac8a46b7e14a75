import Derived.Test.YtognmhgdegpdiaaGreatLawAB
/- TopFull: as many items as there is room for. -/
namespace Go.Proofs.YtognmhgdegpdiaaGreat
open Go.RowKit
open Go.Maps (Keyed)
set_option linter.unusedVariables false
set_option linter.unusedSimpArgs false
set_option maxRecDepth 100000

def intV : Value → Nat
  | .int _ x => x.toNat
  | _ => 0
theorem ans_neq13 (w : World) : (binOp .neq 38 (.agg #[.int .i64 13, .int .i64 0, .int .i64 0, .int .i64 0, .int .i64 0, .int .i64 0, .int .i64 0, .int .i64 0]) (.agg #[.int .i64 13, .int .i64 0, .int .i64 0, .int .i64 0, .int .i64 0, .int .i64 0, .int .i64 0, .int .i64 0])).run Tryz.prog w = .ok (.bool false) w := by kernel_rfl
theorem led_cut1 {B : Nat} {w0 w : World} {A C : List Ent} {a b : Ent} (h : Led B w0 w (A ++ a :: b :: C)) : Led B w0 w (A ++ a :: C) := h.sub (List.Sublist.append (List.Sublist.refl _) ((List.sublist_cons_self _ _).cons_cons _))
theorem led_put1 {B : Nat} {w0 w : World} {A C : List Ent} {a : Ent} {T : TypeId} {cs : Array Value} (h : Led B w0 w (A ++ a :: C)) : Led B w0 (w.alloc (.cells cs T)) (A ++ a :: blkE w.heap.size T cs :: C) := by
  have := led_new (A := A ++ [a]) (C := C) (T := T) (cs := cs) (by rw [List.append_assoc]; exact h)
  rw [List.append_assoc] at this
  exact this
/-- One of the heaps is set ahead. -/
theorem heap_at {L : List HR} {R : List (Int × Int)} (hp : (L.map href).Perm R) {i : Nat} {p : Int × Int} (hi : R[i]? = some p) : ∃ h L', L.Perm (h :: L') ∧ href h = p := by
  have h1 : p ∈ L.map href := hp.mem_iff.2 (List.mem_of_getElem? hi)
  obtain ⟨h, hh, e⟩ := List.mem_map.1 h1
  obtain ⟨a, b, e2⟩ := List.append_of_mem hh
  exact ⟨h, a ++ b, by rw [e2]; exact List.perm_middle, e⟩
theorem items_len {L L' : List HR} {h : HR} (hp : L.Perm (h :: L')) : (itemsL L).length = h.I.length + (itemsL L').length := by
  have : (itemsL L).Perm (itemsL (h :: L')) := hp.flatMap_right _
  rw [this.length_eq, itemsL_cons, List.length_append]
section
set_option maxHeartbeats 16000000 in
theorem top_full (kd items : Int) (A : Option Addr) (n c : Nat) (P : Nat → Bool) (w : World) (k1 : -9223372036854775808 ≤ kd) (k2 : kd ≤ 9223372036854775807) (i1 : -9223372036854775808 ≤ items) (i2 : items ≤ 9223372036854775807) (hn : n ≤ 9223372036854775807) (hA : SlArg w w.heap.size A n 1 fun j => .bool (P j)) :
    Calls Tryz.prog 5 #[.int .i64 kd, .int .i64 items, .slice A n c] w fun e w' => e = .returned (.bool true) ∧ Below w.heap.size w w' := by
  have HA := Lib.hid hA; clear hA
  have bd1 := within_bd items 1 30 (by omega)
  have bd2 := within_bd kd 1 5 (by omega)
  have an := ans_neq13
  refine callsR fun R hR => ?_
  go_enter Tryz.func5, Tryz.ntmps5
  go_wp2_with (first | (go_at_call 14; refine Calls.mono (within_any items 1 30 _ (by decide) (by decide) (by decide) i1 i2) ?_; rintro e w' ⟨rfl, rfl⟩) | (go_at_call 10; refine Calls.mono (top_kinds kd _ ⟨k1, k2⟩) ?_; rintro e w' ⟨rfl, rfl⟩))
  generalize within items 1 30 = N at bd1 ⊢
  generalize within kd 1 5 = K at bd2 ⊢
  refine Calls.mono (top_queues N K 3 (by omega) (by omega) bd2 (by decide) (led_start w)) ?_
  rintro e w1 ⟨m, v, Q, L, rfl, M, hL, h'⟩
  obtain ⟨A3, cp, hv, hA3⟩ := pT_form (pT_tab h')
  have hR3 : (L.reverse.map href).length = 3 := by simp [hL]
  rw [hR3] at hv hA3
  obtain ⟨g, rfl⟩ := hA3 (by decide)
  subst hv
  obtain ⟨R, hRR⟩ : ∃ R, L.reverse.map href = R := ⟨_, rfl⟩
  rw [hRR] at h' hR3
  have M0 := Lib.hid M
  have H := Lib.hid h'
  have HR0 := Lib.hid (show (L.map href).Perm R by rw [← hRR, List.map_reverse]; exact (List.reverse_perm _).symm)
  clear M h' hRR
  go_wp2_with fail
  go_loopw [10, 11] (fun x y wx => ∃ (j : Nat) (Q : QS) (L : List HR) (D : List (Int × Int)), x = .int .i64 ((itemsL L).length : Int) ∧ y = .int .i64 (j : Int) ∧ j ≤ 120 ∧ Hid (QInv Q L D) ∧ Hid ((L.map href).Perm R) ∧ Q.serial ≤ j ∧ Q.items = N ∧ Hid (Led w.heap.size w wx (Q.es m ++ [pT 34 (.slice (some ⟨g, 0, none⟩) 3 cp) R]))) (fun _ y _ => 120 - intV y)
  case atStart => exact ⟨0, Q, L, [], by have : itemsL L = [] := by { rw [itemsL, List.flatMap_eq_nil_iff]; intro h hh; exact (M0.out.em h hh).1 }; rw [this]; rfl, rfl, by omega, Lib.hid M0.out.q, HR0, by rw [M0.out.ser]; exact Int.le_refl 0, M0.out.it, H⟩
  case round =>
    clear H M0 HR0 hL
    obtain ⟨j, Q, L, D, rfl, rfl, hj, QI, PR, hser, hit, S⟩ := hrel
    by_cases hlt : j < n ∧ j < 120
    · have g1 : decide ((j : Int) < (n : Int)) = true := by simp; omega
      have g2 : decide ((j : Int) < 120) = true := by simp; omega
      obtain ⟨bA, oA, rfl, hbA, hcA⟩ := (HA.out.below S.out.be) (by omega)
      have a0 := hcA j (by omega)
      clear hcA
      have hm3 : (j : Int).tmod 3 = ((j % 3 : Nat) : Int) := by rw [Int.tmod_eq_emod_of_nonneg (by omega)]; omega
      have hj3 : j % 3 < 3 := Nat.mod_lt _ (by decide)
      obtain ⟨p, hp⟩ : ∃ p, R[j % 3]? = some p := ⟨_, List.getElem?_eq_getElem (by omega)⟩
      obtain ⟨h, L2, hPL, hh⟩ := heap_at PR.out hp
      have hlen := items_len hPL
      have QP := Lib.hid (QI.out.perm hPL)
      have t3 := pT_get (pT_tab S.out) hp
      rw [← hh] at t3
      have t0 : _ = some (Value.int .i64 (h.at_ : Int)) := t3.1
      have t1 : _ = some (Value.int .i64 h.x.gen) := t3.2
      clear t3
      have hw1 : IntKind.i64.wrap ((j : Int) + 1) = ((j + 1 : Nat) : Int) := by rw [IntKind.wrap_i64]; omega
      have hcnt := QI.out.count_le (QS.wfi S.out)
      rw [hit] at hcnt
      have HCN := Lib.hid hcnt
      clear hcnt
      have HSER := Lib.hid hser
      have HIT := Lib.hid hit
      have HLEN := Lib.hid hlen
      have HH := Lib.hid hh
      clear hser hit hlen hh
      cases hP : P j with
      | true =>
        have hwn : IntKind.i64.wrap (-(j : Int)) = -(j : Int) := by rw [IntKind.wrap_i64]; omega
        by_cases hfull : ((itemsL L).length : Int) < N
        · have gl : decide (((itemsL L).length : Int) < N) = true := by simpa using hfull
          have gl2 : decide (N ≤ ((itemsL L).length : Int)) = false := by simp; omega
          have hw2 : IntKind.i64.wrap (((itemsL L).length : Int) + 1) = ((itemsL L).length : Int) + 1 := by rw [IntKind.wrap_i64]; omega
          go_wp2_with fail
          refine Calls.mono (q_insert 0 0 0 0 0 (-(j : Int)) QP.out (by rw [itemsL_cons, List.length_append, ← HLEN.out, HIT.out]; exact hfull) (by have := HSER.out; omega) S.out) ?_
          rintro e w2 ⟨Q2, h2, i, gg, cc, rfl, h', q2, e1, e2, e3, e4, e5, e6, _⟩
          have Q2I := Lib.hid q2
          have hl2 : ((itemsL (h2 :: L2)).length : Int) = ((itemsL L).length : Int) + 1 := by rw [itemsL_cons, e4, List.cons_append, List.length_cons, List.length_append, HLEN.out]; omega
          have PR2 : Hid (((h2 :: L2).map href).Perm R) := Lib.hid ((show ((h2 :: L2).map href).Perm ((h :: L2).map href) by rw [List.map_cons, List.map_cons, show href h2 = href h from by unfold href; rw [e1, e2]]).trans ((hPL.map href).symm.trans PR.out))
          have HS2 := Lib.hid (show Q2.serial ≤ ((j + 1 : Nat) : Int) by have := HSER.out; rw [e5]; omega)
          have HI2 := Lib.hid (e6.trans HIT.out)
          have HL2 := Lib.hid hl2
          clear q2 e1 e2 e3 e4 e5 e6 hl2
          have hmn : min (((itemsL L).length : Int) + 1) N = ((itemsL L).length : Int) + 1 := by omega
          have S2 := Lib.hid (led_put1 (A := Q2.es m) (T := 38) (cs := #[.int .i64 0, .int .i64 0, .int .i64 0, .int .i64 (i : Int), .int .i64 gg, .int .i64 (-(j : Int)), .int .i64 Q.serial, .int .i64 0]) h')
          clear h'
          go_upto_region 11 with fail
          obtain ⟨ab, hab⟩ : ∃ ab, w2.heap.size = ab := ⟨_, rfl⟩
          rw [hab] at S2 ⊢
          generalize w2.alloc (.cells #[.int .i64 0, .int .i64 0, .int .i64 0, .int .i64 (i : Int), .int .i64 gg, .int .i64 (-(j : Int)), .int .i64 Q.serial, .int .i64 0] 38) = wa at S2 ⊢
          clear hab
          have zb : Blk wa ab 38 #[.int .i64 0, .int .i64 0, .int .i64 0, .int .i64 (i : Int), .int .i64 gg, .int .i64 (-(j : Int)), .int .i64 Q.serial, .int .i64 0] := S2.out.at_ 11 rfl
          have lzb := zb.lt
          have z0 := zb.cell 0; have fz0 := zb.frozen 0; have z1 := zb.cell 1; have fz1 := zb.frozen 1; have z2 := zb.cell 2; have fz2 := zb.frozen 2; have z3 := zb.cell 3; have fz3 := zb.frozen 3; have z4 := zb.cell 4; have fz4 := zb.frozen 4; have z5 := zb.cell 5; have fz5 := zb.frozen 5; have z6 := zb.cell 6; have fz6 := zb.frozen 6; have z7 := zb.cell 7; have fz7 := zb.frozen 7; simp only [List.getElem?_toArray, List.getElem?_cons_zero, List.getElem?_cons_succ] at z0 z1 z2 z3 z4 z5 z6 z7
          clear zb
          go_wp2_with fail
          go_roundw
          case rel => exact ⟨j + 1, Q2, h2 :: L2, D, by rw [HL2.out], rfl, by omega, Q2I, PR2, HS2.out, HI2.out, Lib.hid (led_cut1 (A := Q2.es m) (C := []) S2.out)⟩
          case measure => simp [intV]; omega
        · have gl : decide (((itemsL L).length : Int) < N) = false := by simpa using hfull
          have gl2 : decide (N ≤ ((itemsL L).length : Int)) = true := by simp; omega
          have hw2 : IntKind.i64.wrap (((itemsL L).length : Int) + 1) = ((itemsL L).length : Int) + 1 := by have := HCN.out; rw [IntKind.wrap_i64]; omega
          have hmem : h ∈ L := hPL.mem_iff.2 (by simp)
          go_wp2_with fail
          refine Calls.mono (q_full 0 0 0 0 0 (-(j : Int)) QI.out hmem (by rw [HIT.out]; have := HCN.out; omega) S.out) ?_
          rintro e w2 ⟨Q2, rfl, h', q2, e5, e6, _⟩
          have Q2I := Lib.hid q2
          have HS2 := Lib.hid (show Q2.serial ≤ ((j + 1 : Nat) : Int) by have := HSER.out; rw [e5]; omega)
          have HI2 := Lib.hid (e6.trans HIT.out)
          clear q2 e5 e6
          have hmn : min (((itemsL L).length : Int) + 1) N = ((itemsL L).length : Int) := by have := HCN.out; omega
          have S2 := Lib.hid (led_put1 (A := Q2.es m) (T := 38) (cs := #[.int .i64 13, .int .i64 0, .int .i64 0, .int .i64 0, .int .i64 0, .int .i64 0, .int .i64 0, .int .i64 0]) h')
          clear h'
          go_upto_region 11 with fail
          obtain ⟨ab, hab⟩ : ∃ ab, w2.heap.size = ab := ⟨_, rfl⟩
          rw [hab] at S2 ⊢
          generalize w2.alloc (.cells #[.int .i64 13, .int .i64 0, .int .i64 0, .int .i64 0, .int .i64 0, .int .i64 0, .int .i64 0, .int .i64 0] 38) = wa at S2 ⊢
          clear hab
          have zb : Blk wa ab 38 #[.int .i64 13, .int .i64 0, .int .i64 0, .int .i64 0, .int .i64 0, .int .i64 0, .int .i64 0, .int .i64 0] := S2.out.at_ 11 rfl
          have lzb := zb.lt
          have z0 := zb.cell 0; have fz0 := zb.frozen 0; have z1 := zb.cell 1; have fz1 := zb.frozen 1; have z2 := zb.cell 2; have fz2 := zb.frozen 2; have z3 := zb.cell 3; have fz3 := zb.frozen 3; have z4 := zb.cell 4; have fz4 := zb.frozen 4; have z5 := zb.cell 5; have fz5 := zb.frozen 5; have z6 := zb.cell 6; have fz6 := zb.frozen 6; have z7 := zb.cell 7; have fz7 := zb.frozen 7; simp only [List.getElem?_toArray, List.getElem?_cons_zero, List.getElem?_cons_succ] at z0 z1 z2 z3 z4 z5 z6 z7
          clear zb
          go_wp2_with fail
          go_roundw
          case rel => exact ⟨j + 1, Q2, L, D, rfl, rfl, by omega, Q2I, PR, HS2.out, HI2.out, Lib.hid (led_cut1 (A := Q2.es m) (C := []) S2.out)⟩
          case measure => simp [intV]; omega
      | false =>
        by_cases hI : h.I = []
        · have hmem : h ∈ L := hPL.mem_iff.2 (by simp)
          go_wp2_with fail
          refine Calls.mono (q_empty 0 0 0 0 0 0 QI.out hmem hI S.out) ?_
          rintro e w2 ⟨Q2, rfl, h', q2, e5, e6, _⟩
          have Q2I := Lib.hid q2
          have HS2 := Lib.hid (show Q2.serial ≤ ((j + 1 : Nat) : Int) by have := HSER.out; rw [e5]; omega)
          have HI2 := Lib.hid (e6.trans HIT.out)
          clear q2 e5 e6
          have S2 := Lib.hid (led_put1 (A := Q2.es m) (T := 38) (cs := #[.int .i64 27, .int .i64 0, .int .i64 0, .int .i64 0, .int .i64 0, .int .i64 0, .int .i64 0, .int .i64 0]) h')
          clear h'
          go_upto_region 15 with fail
          obtain ⟨ab, hab⟩ : ∃ ab, w2.heap.size = ab := ⟨_, rfl⟩
          rw [hab] at S2 ⊢
          generalize w2.alloc (.cells #[.int .i64 27, .int .i64 0, .int .i64 0, .int .i64 0, .int .i64 0, .int .i64 0, .int .i64 0, .int .i64 0] 38) = wa at S2 ⊢
          clear hab
          have zb : Blk wa ab 38 #[.int .i64 27, .int .i64 0, .int .i64 0, .int .i64 0, .int .i64 0, .int .i64 0, .int .i64 0, .int .i64 0] := S2.out.at_ 11 rfl
          have lzb := zb.lt
          have z0 := zb.cell 0; have fz0 := zb.frozen 0; have z1 := zb.cell 1; have fz1 := zb.frozen 1; have z2 := zb.cell 2; have fz2 := zb.frozen 2; have z3 := zb.cell 3; have fz3 := zb.frozen 3; have z4 := zb.cell 4; have fz4 := zb.frozen 4; have z5 := zb.cell 5; have fz5 := zb.frozen 5; have z6 := zb.cell 6; have fz6 := zb.frozen 6; have z7 := zb.cell 7; have fz7 := zb.frozen 7; simp only [List.getElem?_toArray, List.getElem?_cons_zero, List.getElem?_cons_succ] at z0 z1 z2 z3 z4 z5 z6 z7
          clear zb
          go_wp2_with fail
          go_roundw
          case rel => exact ⟨j + 1, Q2, L, D, rfl, rfl, by omega, Q2I, PR, HS2.out, HI2.out, Lib.hid (led_cut1 (A := Q2.es m) (C := []) S2.out)⟩
          case measure => simp [intV]; omega
        · have hpos := List.length_pos_iff.2 hI
          have hw2 : IntKind.i64.wrap (((itemsL L).length : Int) - 1) = ((itemsL L).length : Int) - 1 := by have := HLEN.out; have := HCN.out; rw [IntKind.wrap_i64]; omega
          go_wp2_with fail
          refine Calls.mono (q_pop 0 0 0 0 0 0 QP.out hI S.out) ?_
          rintro e w2 ⟨Q2, h2, r, rfl, h', q2, e1, e2, e3, e4, _, e5, e6, _⟩
          have Q2I := Lib.hid q2
          have hl2 : ((itemsL (h2 :: L2)).length : Int) = ((itemsL L).length : Int) - 1 := by have := e4.length_eq; rw [List.length_cons] at this; rw [itemsL_cons, List.length_append, HLEN.out]; omega
          have PR2 : Hid (((h2 :: L2).map href).Perm R) := Lib.hid ((show ((h2 :: L2).map href).Perm ((h :: L2).map href) by rw [List.map_cons, List.map_cons, show href h2 = href h from by unfold href; rw [e1, e2]]).trans ((hPL.map href).symm.trans PR.out))
          have HS2 := Lib.hid (show Q2.serial ≤ ((j + 1 : Nat) : Int) by have := HSER.out; rw [e5]; omega)
          have HI2 := Lib.hid (e6.trans HIT.out)
          have HL2 := Lib.hid hl2
          clear q2 e1 e2 e3 e4 e5 e6 hl2 hpos
          have S2 := Lib.hid (led_put1 (A := Q2.es m) (T := 38) (cs := #[.int .i64 0, .int .i64 0, .int .i64 0, .int .i64 (r.at_ : Int), .int .i64 r.gen, .int .i64 r.key, .int .i64 r.ser, .int .i64 0]) h')
          clear h'
          go_upto_region 15 with fail
          obtain ⟨ab, hab⟩ : ∃ ab, w2.heap.size = ab := ⟨_, rfl⟩
          rw [hab] at S2 ⊢
          generalize w2.alloc (.cells #[.int .i64 0, .int .i64 0, .int .i64 0, .int .i64 (r.at_ : Int), .int .i64 r.gen, .int .i64 r.key, .int .i64 r.ser, .int .i64 0] 38) = wa at S2 ⊢
          clear hab
          have zb : Blk wa ab 38 #[.int .i64 0, .int .i64 0, .int .i64 0, .int .i64 (r.at_ : Int), .int .i64 r.gen, .int .i64 r.key, .int .i64 r.ser, .int .i64 0] := S2.out.at_ 11 rfl
          have lzb := zb.lt
          have z0 := zb.cell 0; have fz0 := zb.frozen 0; have z1 := zb.cell 1; have fz1 := zb.frozen 1; have z2 := zb.cell 2; have fz2 := zb.frozen 2; have z3 := zb.cell 3; have fz3 := zb.frozen 3; have z4 := zb.cell 4; have fz4 := zb.frozen 4; have z5 := zb.cell 5; have fz5 := zb.frozen 5; have z6 := zb.cell 6; have fz6 := zb.frozen 6; have z7 := zb.cell 7; have fz7 := zb.frozen 7; simp only [List.getElem?_toArray, List.getElem?_cons_zero, List.getElem?_cons_succ] at z0 z1 z2 z3 z4 z5 z6 z7
          clear zb
          go_wp2_with fail
          go_roundw
          case rel => exact ⟨j + 1, Q2, h2 :: L2, _, by rw [HL2.out], rfl, by omega, Q2I, PR2, HS2.out, HI2.out, Lib.hid (led_cut1 (A := Q2.es m) (C := []) S2.out)⟩
          case measure => simp [intV]; omega
    · have gx : (decide ((j : Int) < (n : Int)) && decide ((j : Int) < 120)) = false := by simp; omega
      by_cases hjn : j < n
      · have g1 : decide ((j : Int) < (n : Int)) = true := by simp; omega
        have g2 : decide ((j : Int) < 120) = false := by simp; omega
        clear gx
        go_wp2_with fail
        refine Calls.mono (q_live QI.out S.out) ?_
        rintro e w2 ⟨rfl, h'⟩
        have S2 := Lib.hid h'
        clear h' S
        go_wp2_with (first | (go_at_call 13; refine Calls.mono (top_awake _) ?_; rintro e w3 ⟨rfl, q9⟩))
        exact hR.out _ _ ⟨rfl, (S2.out.later q9).be⟩
      · have g1 : decide ((j : Int) < (n : Int)) = false := by simp; omega
        clear gx
        go_wp2_with fail
        refine Calls.mono (q_live QI.out S.out) ?_
        rintro e w2 ⟨rfl, h'⟩
        have S2 := Lib.hid h'
        clear h' S
        go_wp2_with (first | (go_at_call 13; refine Calls.mono (top_awake _) ?_; rintro e w3 ⟨rfl, q9⟩))
        exact hR.out _ _ ⟨rfl, (S2.out.later q9).be⟩
end
end Go.Proofs.YtognmhgdegpdiaaGreat
