/- The statements on rings: the walks of the laws themselves. -/
import Derived.Test.YtjabofofofddbaaRing
import Derived.Test.YtjabofofofddbaaBook
namespace Go.Proofs.Ytjabofofofddbaa
open Go.RowKit
set_option maxRecDepth 100000

theorem ring_known (w : World) : Calls Try.prog 20 #[] w fun e w' => e = .returned (.bool true) ∧ Below w.heap.size w w' := by
  refine callsR fun R hR => ?_
  go_enter Try.func20, Try.ntmps20
  go_wp2_with fail
  refine Calls.mono (ring_new_int64 1 1 _ (by omega)) ?_
  rintro e w1 ⟨p, l, rfl, r1, hp, hl, hb1⟩
  have B1 := Lib.hid hb1; clear hb1
  have R1 := Lib.hid r1; clear r1
  go_wp2_with fail
  refine Calls.mono (ring_push_int64 p l 1 [] 5 _ R1.out) ?_
  rintro e w2 ⟨rfl, r2, hc2⟩
  have R2 : Hid (RingIs w2 103 2 p l 1 [.int .i64 5]) := Lib.hid (by simpa using r2)
  have C2 := Lib.hid hc2; clear hc2 r2
  go_wp2_with fail
  refine Calls.mono (ring_push_int64 p l 1 [.int .i64 5] 6 _ R2.out) ?_
  rintro e w3 ⟨rfl, r3, hc3⟩
  have R3 : Hid (RingIs w3 103 2 p l 1 [.int .i64 5]) := Lib.hid (by simpa using r3)
  have C3 := Lib.hid hc3; clear hc3 r3
  go_wp2_with fail
  refine Calls.mono (ring_pop_some_int64 p l 1 [] 5 _ R3.out) ?_
  rintro e w4 ⟨rfl, r4, hc4⟩
  have R4 := Lib.hid r4
  have C4 := Lib.hid hc4; clear hc4 r4
  go_wp2_with fail
  refine Calls.mono (ring_pop_none_int64 p l 1 _ R4.out) ?_
  rintro e w5 ⟨rfl, k5, rfl⟩
  go_wp2_with fail
  refine Calls.mono (ring_room_int64 p l 1 [] _ (R4.out.drewN _)) ?_
  rintro e w6 ⟨rfl, k6, rfl⟩
  go_wp2
  refine hR.out _ _ ⟨rfl, ?_⟩
  have hfp : ∀ x, x ∈ [p, l] → w.heap.size ≤ x := by simp; omega
  have b2 := (C2.out.trans (C3.out.trans C4.out)).below (B := w.heap.size) hfp B1.out.size
  exact below_drewN (B1.out.trans b2) _

/-- The numbers f, f+1, .., m of them. -/
def seqI (f m : Nat) : List Value := (List.range m).map fun j => Value.int .i64 ((f + j : Nat) : Int)
theorem seqI_len (f m : Nat) : (seqI f m).length = m := by simp [seqI]
theorem seqI_snoc (f m : Nat) : seqI f m ++ [.int .i64 ((f + m : Nat) : Int)] = seqI f (m + 1) := by simp [seqI, List.range_succ]
theorem seqI_cons (f m : Nat) : seqI f (m + 1) = .int .i64 (f : Int) :: seqI (f + 1) m := by
  simp only [seqI, List.range_succ_eq_map, List.map_cons, List.map_map]
  congr 1
  apply List.map_congr_left
  intro a _
  simp
  omega
theorem seqI_get (f m j : Nat) (h : j < m) : (seqI f m)[j]? = some (.int .i64 ((f + j : Nat) : Int)) := by simp [seqI, h]

theorem ring_wraps (room steps : Int) (w : World) (h1 : -9223372036854775808 ≤ room) (h2 : room ≤ 9223372036854775807) (h3 : -9223372036854775808 ≤ steps) (h4 : steps ≤ 9223372036854775807) :
    Calls Try.prog 3 #[.int .i64 room, .int .i64 steps] w fun e w' => e = .returned (.bool true) ∧ Below w.heap.size w w' := by
  have bd1 := within_bd room 1 9 (by omega)
  have bd2 := within_bd steps 1 100 (by omega)
  obtain ⟨n, hn⟩ : ∃ n : Nat, within room 1 9 = (n : Int) := ⟨(within room 1 9).toNat, by omega⟩
  obtain ⟨N, hN⟩ : ∃ n : Nat, within steps 1 100 = (n : Int) := ⟨(within steps 1 100).toNat, by omega⟩
  rw [hn] at bd1
  rw [hN] at bd2
  have Hn := Lib.hid hn; clear hn
  have HN := Lib.hid hN; clear hN
  refine callsR fun R hR => ?_
  go_enter Try.func3, Try.ntmps3
  go_wp2_with fail
  refine Calls.mono (within_any room 1 9 _ (by omega) (by omega) (by omega) h1 h2) ?_
  rintro e w0 ⟨he, rfl⟩
  rw [Hn.out] at he
  subst he
  go_wp2_with fail
  refine Calls.mono (ring_new_int n n _ (by omega)) ?_
  rintro e w1 ⟨p, l, rfl, r1, hp, hl, hb1⟩
  have B1 := Lib.hid hb1; clear hb1
  have R1 := Lib.hid r1; clear r1
  go_wp2_with fail
  go_loopw [7, 8] (fun a i wr => ∃ f m k : Nat, f + m = k ∧ k ≤ N ∧ m ≤ n ∧ a = .int .i64 f ∧ i = .int .i64 k ∧ Hid (RingIs wr 92 3 p l n (seqI f m)) ∧ Hid (Below w.heap.size w wr)) (fun _ i _ => N - (intOf i).toNat)
  case atStart => exact ⟨0, 0, 0, rfl, by omega, by omega, rfl, rfl, R1, B1⟩
  case round =>
    obtain ⟨f, m, k, hfm, hk, hm, rfl, rfl, RI, BE⟩ := hrel
    have HF := Lib.hid hfm
    have hf1 : f ≤ k := by omega
    have hf2 : m ≤ k := by omega
    clear hfm
    go_wp2_with fail
    refine Calls.mono (within_any steps 1 100 _ (by omega) (by omega) (by omega) h3 h4) ?_
    rintro e w0 ⟨he, rfl⟩
    rw [HN.out] at he
    subst he
    by_cases hlt : k < N
    · go_wp2_with fail
      refine Calls.mono (ring_len_int p l n _ _ RI.out) ?_
      rintro e w2 ⟨he, rfl⟩
      rw [seqI_len] at he
      subst he
      by_cases hfull : m = n
      · obtain ⟨m', rfl⟩ : ∃ m', m = m' + 1 := ⟨m - 1, by omega⟩
        have RI2 := RI.out
        rw [seqI_cons] at RI2
        have RI3 := Lib.hid RI2; clear RI2
        have hd : (((m' + 1 : Nat) : Int) == (n : Int)) = true := by simp; omega
        have HFull := Lib.hid hfull; clear hfull
        go_wp2_with fail
        refine Calls.mono (ring_pop_some_int p l n _ _ _ RI3.out) ?_
        rintro e w3 ⟨rfl, r3, hc3⟩
        have R3 := Lib.hid r3; clear r3
        have C3 := Lib.hid hc3; clear hc3
        have C3' := Lib.hid (BE.out.trans (C3.out.below (B := w.heap.size) (by simp; omega) (by exact BE.out.size)))
        have e1 : ((f : Int) + 1) = ((f + 1 : Nat) : Int) := by omega
        have HF' : Hid ((f + 1) + m' = k) := Lib.hid (by have := HF.out; omega)
        have hmn : m' < n := by have := HFull.out; omega
        have HE1 := Lib.hid e1; clear e1
        go_wp2_with fail
        refine Calls.mono (ring_push_int p l n _ (k : Int) _ R3.out) ?_
        rintro e w4 ⟨he, r4, hc4⟩
        rw [seqI_len] at he r4
        rw [if_pos hmn, show (k : Int) = (((f + 1) + m' : Nat) : Int) by have := HF'.out; omega, seqI_snoc] at r4
        rw [decide_eq_true hmn] at he
        subst he
        have R4 := Lib.hid r4; clear r4
        have B4 := Lib.hid (C3'.out.trans (hc4.below (B := w.heap.size) (by simp; omega) (by exact C3'.out.size))); clear hc4
        go_wp2_with fail
        go_loopw [11] (fun x wx => ∃ j t : Nat, j ≤ m' + 1 ∧ x = .int .i64 j ∧ wx = w4.drewN t) (fun x _ => m' + 1 - (intOf x).toNat)
        case atStart => exact ⟨0, 0, by omega, rfl, rfl⟩
        case round =>
          obtain ⟨j, t, hj, rfl, rfl⟩ := hrel
          go_wp2_with fail
          refine Calls.mono (ring_len_int p l n _ _ (R4.out.drewN _)) ?_
          rintro e w5 ⟨he, rfl⟩
          rw [seqI_len] at he
          subst he
          by_cases hjt : j < m' + 1
          · go_wp2_with fail
            refine Calls.mono (ring_peek_in_int p l n _ j _ _ (R4.out.drewN _) (seqI_get _ _ j hjt)) ?_
            rintro e w5 ⟨rfl, t2, rfl⟩
            go_wp2_with fail
            go_roundw
            case rel => exact ⟨j + 1, _, by omega, by go_num, rfl⟩
            case measure => simp [intOf]; omega
          · go_wp2_with fail
            go_roundw
            case rel => exact ⟨(f + 1), m' + 1, k + 1, by have := HF'.out; omega, by omega, by omega, by go_num, by go_num, R4, Lib.hid (below_drewN B4.out _)⟩
            case measure => simp [intOf]; omega
      · have hd : ((m : Int) == (n : Int)) = false := by simp; omega
        have hmn : m < n := by omega
        go_wp2_with fail
        refine Calls.mono (ring_push_int p l n _ (k : Int) _ RI.out) ?_
        rintro e w4 ⟨he, r4, hc4⟩
        rw [seqI_len] at he r4
        rw [if_pos hmn, show (k : Int) = ((f + m : Nat) : Int) by have := HF.out; omega, seqI_snoc] at r4
        rw [decide_eq_true hmn] at he
        subst he
        have R4 := Lib.hid r4; clear r4
        have B4 := Lib.hid (BE.out.trans (hc4.below (B := w.heap.size) (by simp; omega) (by exact BE.out.size))); clear hc4
        go_wp2_with fail
        go_loopw [11] (fun x wx => ∃ j t : Nat, j ≤ m + 1 ∧ x = .int .i64 j ∧ wx = w4.drewN t) (fun x _ => m + 1 - (intOf x).toNat)
        case atStart => exact ⟨0, 0, by omega, rfl, rfl⟩
        case round =>
          obtain ⟨j, t, hj, rfl, rfl⟩ := hrel
          go_wp2_with fail
          refine Calls.mono (ring_len_int p l n _ _ (R4.out.drewN _)) ?_
          rintro e w5 ⟨he, rfl⟩
          rw [seqI_len] at he
          subst he
          by_cases hjt : j < m + 1
          · go_wp2_with fail
            refine Calls.mono (ring_peek_in_int p l n _ j _ _ (R4.out.drewN _) (seqI_get _ _ j hjt)) ?_
            rintro e w5 ⟨rfl, t2, rfl⟩
            go_wp2_with fail
            go_roundw
            case rel => exact ⟨j + 1, _, by omega, by go_num, rfl⟩
            case measure => simp [intOf]; omega
          · go_wp2_with fail
            go_roundw
            case rel => exact ⟨f, m + 1, k + 1, by have := HF.out; omega, by omega, by omega, by go_num, by go_num, R4, Lib.hid (below_drewN B4.out _)⟩
            case measure => simp [intOf]; omega
    · go_wp2_with fail
      refine Calls.mono (ring_known _) ?_
      rintro e w2 ⟨rfl, hb2⟩
      have B2 := Lib.hid hb2; clear hb2
      go_wp2
      exact hR.out _ _ ⟨rfl, BE.out.trans (B2.out.mono BE.out.size)⟩

/-- The ring holds q, the two lists hold ins and outs, and none of them lies in another one's memory. -/
structure OrdSt (B p l n : Nat) (w0 wr : World) (v1 v2 : Value) (q ins outs : List ByteArray) : Prop where
  ring : RingIs wr 97 9 p l n (q.map Value.string)
  o1 : wr.ownsRow B 9 1 v1 ins.length (ins.map Value.string)
  o2 : wr.ownsRow B 9 1 v2 outs.length (outs.map Value.string)
  a1 : Apart [p, l] v1.ownBlock.toList
  a2 : Apart [p, l] v2.ownBlock.toList
  a3 : Apart v1.ownBlock.toList v2.ownBlock.toList
  be : Below B w0 wr
  hs : B ≤ w0.heap.size
  hB : B ≤ p ∧ B ≤ l

section
variable {B p l n : Nat} {w0 wr w' : World} {v1 v2 v' : Value} {q ins outs : List ByteArray}
theorem own_toList {w : World} {base : Nat} {e : TypeId} {size n : Nat} {v : Value} {xs : List Value} (h : w.ownsRow base e size v n xs) : ∀ x ∈ v.ownBlock.toList, base ≤ x ∧ x < w.heap.size := by
  intro x hx
  have hx2 : v.ownBlock = some x := by simpa using hx
  exact h.lt x hx2
theorem OrdSt.drewN (h : OrdSt B p l n w0 wr v1 v2 q ins outs) (k : Nat) : OrdSt B p l n w0 (wr.drewN k) v1 v2 q ins outs :=
  ⟨h.ring, h.o1, h.o2, h.a1, h.a2, h.a3, below_drewN h.be k, h.hs, h.hB⟩
theorem OrdSt.ring_ (h : OrdSt B p l n w0 wr v1 v2 q ins outs) {q' : List ByteArray} (hr : RingIs w' 97 9 p l n (q'.map Value.string)) (hc : Chg [p, l] wr w') : OrdSt B p l n w0 w' v1 v2 q' ins outs :=
  ⟨hr, own_chg h.o1 hc fun x hx hm => h.a1 x hm (by rw [hx]; simp), own_chg h.o2 hc fun x hx hm => h.a2 x hm (by rw [hx]; simp), h.a1, h.a2, h.a3,
    h.be.trans (hc.below (by have := h.hB; simp; omega) (Nat.le_trans h.hs h.be.size)), h.hs, h.hB⟩
theorem OrdSt.in_ (h : OrdSt B p l n w0 wr v1 v2 q ins outs) {x : ByteArray} (hown : w'.ownsRow B 9 1 v' (ins.length + 1) (ins.map Value.string ++ [.string x])) (hc : Chg v1.ownBlock.toList wr w') (hf : Fresh v1.ownBlock.toList v'.ownBlock.toList wr) :
    OrdSt B p l n w0 w' v' v2 q (ins ++ [x]) outs := by
  have hl := h.ring.lt
  refine ⟨h.ring.chg hc (h.a1 p (by simp)) (h.a1 l (by simp)), by simpa using hown, own_chg h.o2 hc fun y hy => h.a3.symm y (by rw [hy]; simp), (h.a1.symm.fresh hf (by simp; omega)).symm, h.a2,
    h.a3.fresh hf fun y hy => (own_toList h.o2 y hy).2, h.be.trans (hc.below (fun y hy => (own_toList h.o1 y hy).1) (Nat.le_trans h.hs h.be.size)), h.hs, h.hB⟩
theorem OrdSt.out_ (h : OrdSt B p l n w0 wr v1 v2 q ins outs) {x : ByteArray} (hown : w'.ownsRow B 9 1 v' (outs.length + 1) (outs.map Value.string ++ [.string x])) (hc : Chg v2.ownBlock.toList wr w') (hf : Fresh v2.ownBlock.toList v'.ownBlock.toList wr) :
    OrdSt B p l n w0 w' v1 v' q ins (outs ++ [x]) := by
  have hl := h.ring.lt
  refine ⟨h.ring.chg hc (h.a2 p (by simp)) (h.a2 l (by simp)), own_chg h.o1 hc fun y hy => h.a3 y (by rw [hy]; simp), by simpa using hown, h.a1, (h.a2.symm.fresh hf (by simp; omega)).symm,
    (h.a3.symm.fresh hf fun y hy => (own_toList h.o1 y hy).2).symm, h.be.trans (hc.below (fun y hy => (own_toList h.o2 y hy).1) (Nat.le_trans h.hs h.be.size)), h.hs, h.hB⟩
end

theorem ring_order (room : Int) (A1 A2 : Option Addr) (n1 n2 c1 c2 : Nat) (L : Nat → ByteArray) (P : Nat → Bool) (w : World) (h1 : -9223372036854775808 ≤ room) (h2 : room ≤ 9223372036854775807) (hc1 : n1 ≤ 9223372036854775807) (hc2 : n2 ≤ 9223372036854775807)
    (hA1 : SlArg w w.heap.size A1 n1 1 fun j => .string (L j)) (hA2 : SlArg w w.heap.size A2 n2 1 fun j => .bool (P j)) :
    Calls Try.prog 4 #[.int .i64 room, .slice A1 n1 c1, .slice A2 n2 c2] w fun e w' => e = .returned (.bool true) ∧ Below w.heap.size w w' := by
  have bd1 := within_bd room 1 10 (by omega)
  obtain ⟨n, hn⟩ : ∃ n : Nat, within room 1 10 = (n : Int) := ⟨(within room 1 10).toNat, by omega⟩
  rw [hn] at bd1
  have Hn := Lib.hid hn; clear hn
  have HA1 := Lib.hid hA1; clear hA1
  have HA2 := Lib.hid hA2; clear hA2
  refine callsR fun R hR => ?_
  go_enter Try.func4, Try.ntmps4
  go_wp2_with fail
  refine Calls.mono (within_any room 1 10 _ (by omega) (by omega) (by omega) h1 h2) ?_
  rintro e w0 ⟨he, rfl⟩
  rw [Hn.out] at he
  subst he
  go_wp2_with fail
  refine Calls.mono (ring_new_string n n _ (by omega)) ?_
  rintro e w1 ⟨p, l, rfl, r1, hp, hl, hb1⟩
  have B1 := Lib.hid hb1; clear hb1
  have R1 := Lib.hid r1; clear r1
  go_wp2_with fail
  go_loopw [8, 9, 10] (fun a b i wr => ∃ (k : Nat) (q ins outs : List ByteArray), k ≤ 50 ∧ i = .int .i64 k ∧ ins.length ≤ k ∧ Hid (ins = outs ++ q) ∧ Hid (OrdSt w.heap.size p l n w wr a b q ins outs)) (fun _ _ i _ => 50 - (intOf i).toNat)
  case atStart => exact ⟨0, [], [], [], by omega, rfl, by simp, Lib.hid rfl, Lib.hid ⟨R1.out, World.ownsRow_nil _ _ _ _, World.ownsRow_nil _ _ _ _, by simp [Apart, Value.ownBlock], by simp [Apart, Value.ownBlock], by simp [Apart, Value.ownBlock], B1.out, Nat.le_refl _, hp, hl⟩⟩
  case round =>
    obtain ⟨k, q, ins, outs, hk, rfl, hil, HIO, ST⟩ := hrel
    by_cases hlt : k < n1 ∧ k < 50
    · obtain ⟨hlt1, hlt2⟩ := hlt
      obtain ⟨b, off, rfl, hb, hcell⟩ := HA1.out (by omega)
      have ck := (ST.out.be.cell (p := ⟨b, off + k, none⟩) hb).trans (hcell k (by omega))
      go_wp2_with fail
      refine Calls.mono (ring_push_string p l n _ (L k) _ ST.out.ring) ?_
      rintro e w2 ⟨rfl, r2, hc2⟩
      rw [List.length_map] at r2
      have HC := Lib.hid hcell; clear hcell ck
      go_upto_if 33 with fail
      go_cut [8] (fun a wx => ∃ q' ins' : List ByteArray, ins'.length ≤ k + 1 ∧ Hid (ins' = outs ++ q') ∧ Hid (OrdSt w.heap.size p l n w wx a u9 q' ins' outs))
      case first =>
        by_cases hq : q.length < n
        · have hd : decide ((q.map Value.string).length < n) = true := by simpa using hq
          rw [if_pos hq] at r2
          have S2 := Lib.hid (ST.out.ring_ (q' := q ++ [L k]) (by simpa using r2) hc2)
          have ck2 := (S2.out.be.cell (p := ⟨b, off + k, none⟩) hb).trans (HC.out k (by omega))
          clear r2 hc2
          go_wp2_with (at_builtin; refine wpList_append1 rfl (.tmp 34) (.tmp 39) 32 rfl w.heap.size 9 _ 1 16 Try.underlying32 info_string rfl (by omega) u8 ins.length (ins.map Value.string) #[.string (L k)] rfl (by exact S2.out.o1) rfl rfl (by simp [Value.oneCell']) (by omega) (by omega) (by exact S2.out.be.size) ?_; intro v' w3 hown3 hc3 hf3)
          go_meet
          case rel => exact ⟨q ++ [L k], ins ++ [L k], by simp; omega, Lib.hid (by rw [HIO.out, List.append_assoc]), Lib.hid (S2.out.in_ hown3 hc3 hf3)⟩
        · have hd : decide ((q.map Value.string).length < n) = false := by simpa using hq
          rw [if_neg hq] at r2
          have S2 := Lib.hid (ST.out.ring_ (q' := q) r2 hc2)
          clear r2 hc2
          go_wp2_with fail
          go_meet
          case rel => exact ⟨q, ins, by omega, HIO, S2⟩
      case rest =>
        clear HIO r2 hc2
        obtain ⟨q', ins', hil', HIO, S2⟩ := hcut
        by_cases hk2 : k < n2
        · obtain ⟨b2, off2, rfl, hb2, hcell2⟩ := HA2.out (by omega)
          have cp : wc.cell? ⟨b2, off2 + k, none⟩ = some (.bool (P k)) := (S2.out.be.cell (p := ⟨b2, off2 + k, none⟩) hb2).trans (hcell2 k (by omega))
          clear hcell2
          generalize P k = pk at cp
          cases pk with
          | false =>
            go_wp2_with fail
            go_roundw
            case rel => exact ⟨k + 1, q', ins', outs, by omega, by go_num, by omega, HIO, S2⟩
            case measure => simp [intOf]; omega
          | true =>
            go_wp2_with fail
            cases q' with
            | nil =>
              refine Calls.mono (ring_pop_none_string p l n _ (by exact S2.out.ring)) ?_
              rintro e w3 ⟨rfl, k3, rfl⟩
              go_wp2_with fail
              go_roundw
              case rel => exact ⟨k + 1, [], ins', outs, by omega, by go_num, by omega, HIO, Lib.hid (S2.out.drewN _)⟩
              case measure => simp [intOf]; omega
            | cons x q' =>
              refine Calls.mono (ring_pop_some_string p l n (q'.map Value.string) x _ (by exact S2.out.ring)) ?_
              rintro e w3 ⟨rfl, r3, hc3⟩
              have S3 := Lib.hid (S2.out.ring_ (q' := q') r3 hc3)
              have hol : outs.length ≤ k + 1 := by have := HIO.out; rw [this, List.length_append] at hil'; omega
              clear r3 hc3 cp
              go_wp2_with (at_builtin; refine wpList_append1 rfl (.tmp 57) (.tmp 59) 32 rfl w.heap.size 9 _ 1 16 Try.underlying32 info_string rfl (by omega) u9 outs.length (outs.map Value.string) #[.string x] rfl (by exact S3.out.o2) rfl rfl (by simp [Value.oneCell']) (by omega) (by omega) (by exact S3.out.be.size) ?_; intro v' w4 hown4 hc4 hf4)
              go_roundw
              case rel => exact ⟨k + 1, q', ins', outs ++ [x], by omega, by go_num, by omega, Lib.hid (by rw [HIO.out]; simp), Lib.hid (S3.out.out_ hown4 hc4 hf4)⟩
              case measure => simp [intOf]; omega
        · have hd : decide ((k : Int) < n2) = false := by simp; omega
          go_wp2_with fail
          go_roundw
          case rel => exact ⟨k + 1, q', ins', outs, by omega, by go_num, by omega, HIO, S2⟩
          case measure => simp [intOf]; omega
    · by_cases hlt1 : k < n1
      · have hk50 : k = 50 := by omega
        subst hk50
        go_wp2_with fail
        refine Calls.mono (ring_all_string p l n q _ ST.out.ring) ?_
        rintro e w3 ⟨u, rfl, hu, hb3⟩
        obtain ⟨Au, cu, rfl, hcu, _⟩ := own_form hu
        have S3 := Lib.hid (show wr.heap.size ≤ w3.heap.size from hb3.size)
        have U3 := Lib.hid hu
        have B3 := Lib.hid hb3
        have o2' := own_chg ST.out.o2 (Chg.of_below hb3 []) (by simp)
        have O2' := Lib.hid o2'
        have hol : outs.length + q.length ≤ 50 := by have := HIO.out; rw [this, List.length_append] at hil; omega
        have hst := ST.out.be.size
        clear hu hb3 o2'
        go_wp2_with (at_builtin; refine wpList_append_any _ rfl (.tmp 61) (.tmp 63) 32 rfl w.heap.size 9 _ _ 1 16 Try.underlying32 (info_parts info_string).choose_spec.1 (info_parts info_string).choose_spec.2.1 (info_parts info_string).choose_spec.2.2.1 (info_parts info_string).choose_spec.2.2.2 rfl (by omega) u9 outs.length (outs.map Value.string) rfl (by exact O2'.out) w3.heap.size Au q.length cu (q.map Value.string) rfl (by exact Reads.of_own U3.out) (by intro x hx; obtain ⟨_, _, rfl⟩ := List.mem_map.1 hx; rfl) (by unfold maxLen; omega) (by omega) (by have := S3.out; omega) ?_; intro v' w4 hown4 hg4 hat4)
        have c4 : Chg u9.ownBlock.toList w3 w4 := (Chg.refl _ _).grown hg4 (fun k hk => .inl (by simp [hk]))
        have o1' := own_chg (own_chg ST.out.o1 (Chg.of_below B3.out []) (by simp)) c4 (fun y hy => ST.out.a3 y (by rw [hy]; simp))
        have B4 : Hid (Below w.heap.size w w4) := Lib.hid ((ST.out.be.trans (B3.out.mono hst)).trans (c4.below (fun y hy => (own_toList ST.out.o2 y hy).1) (by have := S3.out; omega)))
        have o2' : w4.ownsRow w.heap.size 9 1 v' ins.length (ins.map Value.string) := by rw [HIO.out, List.length_append, List.map_append]; exact hown4
        clear hown4 hg4 hat4 c4
        refine Calls.mono (same_string _ _ ins _ _ _ o1' o2' (by omega)) ?_
        clear o1' o2'
        rintro e w5 ⟨rfl, k5, rfl⟩
        go_wp2_with fail
        refine Calls.mono (ring_known _) ?_
        rintro e w6 ⟨rfl, hb6⟩
        have B6 := Lib.hid hb6; clear hb6
        go_wp2_with fail
        refine hR.out _ _ ⟨rfl, (below_drewN B4.out _).trans (B6.out.mono (below_drewN B4.out k5).size)⟩
      · have hd : decide ((k : Int) < n1) = false := by simp; omega
        go_wp2_with fail
        refine Calls.mono (ring_all_string p l n q _ ST.out.ring) ?_
        rintro e w3 ⟨u, rfl, hu, hb3⟩
        obtain ⟨Au, cu, rfl, hcu, _⟩ := own_form hu
        have S3 := Lib.hid (show wr.heap.size ≤ w3.heap.size from hb3.size)
        have U3 := Lib.hid hu
        have B3 := Lib.hid hb3
        have o2' := own_chg ST.out.o2 (Chg.of_below hb3 []) (by simp)
        have O2' := Lib.hid o2'
        have hol : outs.length + q.length ≤ 50 := by have := HIO.out; rw [this, List.length_append] at hil; omega
        have hst := ST.out.be.size
        clear hu hb3 o2'
        go_wp2_with (at_builtin; refine wpList_append_any _ rfl (.tmp 61) (.tmp 63) 32 rfl w.heap.size 9 _ _ 1 16 Try.underlying32 (info_parts info_string).choose_spec.1 (info_parts info_string).choose_spec.2.1 (info_parts info_string).choose_spec.2.2.1 (info_parts info_string).choose_spec.2.2.2 rfl (by omega) u9 outs.length (outs.map Value.string) rfl (by exact O2'.out) w3.heap.size Au q.length cu (q.map Value.string) rfl (by exact Reads.of_own U3.out) (by intro x hx; obtain ⟨_, _, rfl⟩ := List.mem_map.1 hx; rfl) (by unfold maxLen; omega) (by omega) (by have := S3.out; omega) ?_; intro v' w4 hown4 hg4 hat4)
        have c4 : Chg u9.ownBlock.toList w3 w4 := (Chg.refl _ _).grown hg4 (fun k hk => .inl (by simp [hk]))
        have o1' := own_chg (own_chg ST.out.o1 (Chg.of_below B3.out []) (by simp)) c4 (fun y hy => ST.out.a3 y (by rw [hy]; simp))
        have B4 : Hid (Below w.heap.size w w4) := Lib.hid ((ST.out.be.trans (B3.out.mono hst)).trans (c4.below (fun y hy => (own_toList ST.out.o2 y hy).1) (by have := S3.out; omega)))
        have o2' : w4.ownsRow w.heap.size 9 1 v' ins.length (ins.map Value.string) := by rw [HIO.out, List.length_append, List.map_append]; exact hown4
        clear hown4 hg4 hat4 c4
        refine Calls.mono (same_string _ _ ins _ _ _ o1' o2' (by omega)) ?_
        clear o1' o2'
        rintro e w5 ⟨rfl, k5, rfl⟩
        go_wp2_with fail
        refine Calls.mono (ring_known _) ?_
        rintro e w6 ⟨rfl, hb6⟩
        have B6 := Lib.hid hb6; clear hb6
        go_wp2_with fail
        refine hR.out _ _ ⟨rfl, (below_drewN B4.out _).trans (B6.out.mono (below_drewN B4.out k5).size)⟩
end Go.Proofs.Ytjabofofofddbaa
