/- The statements on pools against the document's: the walk of play. -/
import Derived.Test.YtjabofofofddbaaPoolBoth
import Derived.Test.YtjabofofofddbaaPoolLaw
import Derived.Test.YtjabofofofddbaaBook
namespace Go.Proofs.Ytjabofofofddbaa
open Go.RowKit
set_option linter.unusedVariables false
set_option linter.unusedSimpArgs false
set_option maxRecDepth 100000

theorem tab_one {w : World} {g : Nat} {e : TypeId} {cs : Array Value} {sz : Nat} (h : Blk w g e cs) (hl : cs.size = sz) (hm : sz ≤ 1000) : TabIs w 0 e sz (.slice (some ⟨g, 0, none⟩) 1 1) [cs.toList] := by
  refine ⟨cs.toList, ⟨by simp [hl], .inr ⟨g, 1, cs, rfl, Nat.zero_le _, h, Nat.le_refl _, by unfold maxLen; omega, by simp [hl], by rw [List.take_of_length_le (by simp [hl])]⟩⟩, by simp [hl], ?_⟩
  intro i c hi j u hj
  have : i = 0 := by have := (List.getElem?_eq_some_iff.1 hi).1; simpa using this
  subst this
  simp at hi
  subst hi
  simpa using hj
/-- A thing goes to the end of a short list. -/
theorem Led.snoc7 {B : Nat} {w0 w w' : World} {a b c d e f g : Ent} (h : Led B w0 w [a, b, c, d, e, f, g]) (x : Ent) (hb : Below w.heap.size w w') (he : x.is w') (hf : ∀ y, y ∈ x.fp → w.heap.size ≤ y) : Led B w0 w' [a, b, c, d, e, f, g, x] :=
  Led.insert (es := [a, b, c, d, e, f, g]) (fs := []) h x hb he hf
theorem Led.snoc8 {B : Nat} {w0 w w' : World} {a b c d e f g h : Ent} (hl : Led B w0 w [a, b, c, d, e, f, g, h]) (x : Ent) (hb : Below w.heap.size w w') (he : x.is w') (hf : ∀ y, y ∈ x.fp → w.heap.size ≤ y) : Led B w0 w' [a, b, c, d, e, f, g, h, x] :=
  Led.insert (es := [a, b, c, d, e, f, g, h]) (fs := []) hl x hb he hf
theorem Led.snoc6 {B : Nat} {w0 w w' : World} {a b c d e f : Ent} (h : Led B w0 w [a, b, c, d, e, f]) (x : Ent) (hb : Below w.heap.size w w') (he : x.is w') (hf : ∀ y, y ∈ x.fp → w.heap.size ≤ y) : Led B w0 w' [a, b, c, d, e, f, x] :=
  Led.insert (es := [a, b, c, d, e, f]) (fs := []) h x hb he hf

set_option maxHeartbeats 8000000 in
theorem pool_play (places : Int) (A1 : Option Addr) (n1 c1 : Nat) (G1 : Nat → Int) (w : World) (hp1 : -9223372036854775808 ≤ places) (hp2 : places ≤ 9223372036854775807) (hn1 : n1 ≤ 9223372036854775807)
    (hA1 : SlArg w w.heap.size A1 n1 5 fun j => .int .i64 (G1 j)) (hG : ∀ j, j < n1 * 5 → -9223372036854775808 ≤ G1 j ∧ G1 j ≤ 9223372036854775807) :
    Calls Try.prog 39 #[.int .i64 places, .slice A1 n1 c1] w fun e w' => e = .returned (.bool true) ∧ Below w.heap.size w w' := by
  obtain ⟨N, hN⟩ : ∃ N : Nat, (N : Int) = max 0 (min places 65536) := ⟨(max 0 (min places 65536)).toNat, by omega⟩
  have HN := Lib.hid hN; clear hN
  have HA1 := Lib.hid hA1; clear hA1
  have HG := Lib.hid hG; clear hG
  refine callsR fun R hR => ?_
  go_enter Try.func39, Try.ntmps39
  go_wp2_with fail
  refine Calls.mono (pool_new_i64 places N _ HN.out) ?_
  rintro e w1 ⟨p, rfl, q1, q2, q3⟩
  have S1 := Lib.hid ((Led.none_ (Below.refl w.heap.size w) (Nat.le_refl _)).add (p64E p (.slice none 0 0) (.slice none 0 0) ⟨N, [], []⟩) q3 q1 (fun b hb => by rcases mem_poolFp.1 hb with rfl | hb | hb; exact q2; simp [Value.ownBlock] at hb; simp [Value.ownBlock] at hb))
  clear q1 q2 q3
  go_wp2_with fail
  refine Calls.mono (ref_new places N w.heap.size w _ _ S1.out HN.out) ?_
  rintro e w2 ⟨m, rfl, q1⟩
  have S2 := Lib.hid (show Led w.heap.size w w2 (bothL m _ _ _ _ ⟨N, [], []⟩ p (.slice none 0 0) (.slice none 0 0) ⟨N, [], []⟩ []) from q1)
  have d0 := (refBlk q1).cell 0
  simp only [List.getElem?_toArray, List.getElem?_cons_zero] at d0
  have hNN : ((N : Int) != (N : Int)) = false := by simp
  clear q1 S1
  go_wp2_with fail
  go_quiet ((go_at_call 41; exact Calls.quiet_of_same ((pool_places_i64 p _ _ _ _ (both_is (S2.out.drewN _))).mono fun _ _ h => ⟨h.1, h.2.symm⟩)))
  go_wp2_with fail
  have S3 := Lib.hid (show Led w.heap.size w ((w2.drewN nq).alloc (.cells #[.int .i64 0, .int .i64 0] 57)) (bothL m (.slice none 0 0) (.slice none 0 0) (.slice none 0 0) (.slice none 0 0) ⟨N, [], []⟩ p (.slice none 0 0) (.slice none 0 0) ⟨N, [], []⟩ [tabE 57 2 (.slice (some ⟨w2.heap.size, 0, none⟩) 1 1) (rowsR [(0, 0)])]) from (S2.out.drewN nq).snoc6 _ ((Below.refl _ _).alloc (Nat.le_refl _) _) (tab_one (Blk.new (w2.drewN nq) _ _) rfl (by decide)) (fun y hy => by simp [tabE, Value.ownBlock] at hy; rw [hy]; exact Nat.le_refl _))
  have SM := Lib.hid (Sim.empty (α := Int) (V := Eq) N)
  clear d0 S2
  go_loopw [7, 8] (fun a i wx => ∃ (k : Nat) (gv iv vv bv lv fv : Value) (s r : PSt Int) (T : List (Int × Int)), k ≤ 80 ∧ 1 ≤ T.length ∧ T.length ≤ k + 1 ∧ i = .int .i64 k ∧ Hid (Led w.heap.size w wx (bothL m gv iv vv bv r p lv fv s [tabE 57 2 a (rowsR T)])) ∧ Hid (Sim Eq s r)) (fun _ i _ => 80 - (intOf i).toNat)
  case atStart => exact ⟨0, _, _, _, _, _, _, _, _, [(0, 0)], by omega, by simp, by simp, rfl, S3, SM⟩
  case round =>
    clear S3 SM
    obtain ⟨k, gv, iv, vv, bv, lv, fv, s, r, T, hk, hT1, hT2, rfl, ST, SM⟩ := hrel
    have hTT : TabIs wr 0 57 2 u7 (rowsR T) := ST.out.at_ 6 rfl
    obtain ⟨At, ct, hu7, hct, hAt⟩ := hTT.form
    obtain ⟨nt, hnt⟩ : ∃ n, T.length = n := ⟨_, rfl⟩
    have hrl : (rowsR T).length = nt := by rw [rowsR, List.length_map, hnt]
    rw [hrl] at hu7 hct hAt
    rw [hnt] at hT1 hT2
    subst hu7
    obtain ⟨gt, rfl, hgt, _⟩ := hAt (by omega)
    have HNT := Lib.hid hnt
    have HTT := Lib.hid hTT
    clear hnt hrl hAt hTT
    by_cases hlt : k < n1 ∧ k < 80
    · obtain ⟨hlt1, hlt2⟩ := hlt
      obtain ⟨b, off, rfl, hb, hcell⟩ := HA1.out (by omega)
      have HC := Lib.hid (fun (W : World) (hB : Below w.heap.size w W) (j : Nat) (hj : j < 5) => (hB.cell (p := ⟨b, off + (k * 5 + j), none⟩) hb).trans (hcell (k * 5 + j) (by omega)))
      have gb0 := HG.out (k * 5) (by omega)
      have gb1 := HG.out (k * 5 + 1) (by omega)
      clear hcell
      have HC0 : Hid (∀ W, Below w.heap.size w W → W.cell? ⟨b, off + k * 5, none⟩ = some (.int .i64 (G1 (k * 5)))) := Lib.hid fun W hB => HC.out W hB 0 (by omega)
      have HC1 : Hid (∀ W, Below w.heap.size w W → W.cell? ⟨b, off + k * 5 + 1, none⟩ = some (.int .i64 (G1 (k * 5 + 1)))) := Lib.hid fun W hB => HC.out W hB 1 (by omega)
      have HC2 : Hid (∀ W, Below w.heap.size w W → W.cell? ⟨b, off + k * 5 + 2, none⟩ = some (.int .i64 (G1 (k * 5 + 2)))) := Lib.hid fun W hB => HC.out W hB 2 (by omega)
      have HC3 : Hid (∀ W, Below w.heap.size w W → W.cell? ⟨b, off + k * 5 + 3, none⟩ = some (.int .i64 (G1 (k * 5 + 3)))) := Lib.hid fun W hB => HC.out W hB 3 (by omega)
      have HC4 : Hid (∀ W, Below w.heap.size w W → W.cell? ⟨b, off + k * 5 + 4, none⟩ = some (.int .i64 (G1 (k * 5 + 4)))) := Lib.hid fun W hB => HC.out W hB 4 (by omega)
      clear HC
      generalize G1 (k * 5) = kd at *
      generalize G1 (k * 5 + 1) = ci at *
      generalize G1 (k * 5 + 2) = cv at *
      generalize G1 (k * 5 + 3) = ra at *
      generalize G1 (k * 5 + 4) = rb at *
      have bd := within_bd ci 0 ((nt : Int) - 1) (by omega)
      obtain ⟨mm, hm⟩ : ∃ m : Nat, within ci 0 ((nt : Int) - 1) = (m : Int) := ⟨(within ci 0 ((nt : Int) - 1)).toNat, by omega⟩
      rw [hm] at bd
      have hmn : mm < nt := by omega
      have Hm := Lib.hid hm; clear hm
      obtain ⟨t, ht⟩ : ∃ t, T[mm]? = some t := ⟨_, List.getElem?_eq_getElem (by rw [HNT.out]; exact hmn)⟩
      have t0 : wr.cell? ⟨gt, mm * 2, none⟩ = some (.int .i64 t.1) := HTT.out.cell (j := 0) (r := [.int .i64 t.1, .int .i64 t.2]) (by rw [rowsR, List.getElem?_map, ht]; rfl) rfl
      have t1 : wr.cell? ⟨gt, mm * 2 + 1, none⟩ = some (.int .i64 t.2) := HTT.out.cell (j := 1) (r := [.int .i64 t.1, .int .i64 t.2]) (by rw [rowsR, List.getElem?_map, ht]; rfl) rfl
      have x1 := HC1.out wr ST.out.be
      clear ht
      go_wp2_with fail
      refine Calls.mono (within_any ci 0 ((nt : Int) - 1) _ (by omega) (by omega) (by omega) (by omega) (by omega)) ?_
      rintro e w0 ⟨he, rfl⟩
      rw [Hm.out] at he
      subst he
      have S4 := Lib.hid (ST.out.snoc7 (blkE wr.heap.size 57 #[.int .i64 t.1, .int .i64 t.2]) ((Below.refl _ _).alloc (Nat.le_refl _) (.cells #[.int .i64 t.1, .int .i64 t.2] 57)) (Blk.new wr _ _) (fun y hy => by simp [blkE] at hy; omega))
      have x1b := HC1.out _ S4.out.be
      have x3b := HC3.out _ S4.out.be
      have x4b := HC4.out _ S4.out.be
      obtain ⟨q5, hq5⟩ : ∃ q : Bool, (ci.tmod 5 == 4) = q := ⟨_, rfl⟩
      have hbx : Blk (wr.alloc (.cells #[.int .i64 t.1, .int .i64 t.2] 57)) wr.heap.size 57 #[.int .i64 t.1, .int .i64 t.2] := S4.out.at_ 7 rfl
      have y0 := hbx.cell 0
      have y1 := hbx.cell 1
      have fy0 := hbx.frozen 0
      have fy1 := hbx.frozen 1
      simp only [List.getElem?_toArray, List.getElem?_cons_zero, List.getElem?_cons_succ] at y0 y1
      have S5 := Lib.hid (ST.out.snoc7 (blkE wr.heap.size 57 #[.int .i64 ra, .int .i64 rb]) ((Below.refl _ _).alloc (Nat.le_refl _) (.cells #[.int .i64 ra, .int .i64 rb] 57)) (Blk.new wr _ _) (fun y hy => by simp [blkE] at hy; omega))
      clear hbx
      go_upto_if 67 with fail
      go_cut [] (fun wx => ∃ a b' : Int, Hid (Led w.heap.size w wx (bothL m gv iv vv bv r p lv fv s [tabE 57 2 (.slice (some ⟨gt, 0, none⟩) nt ct) (rowsR T), blkE wr.heap.size 57 #[.int .i64 a, .int .i64 b']])))
      case first =>
        cases q5 with
        | true =>
          go_wp2_with fail
          go_meet
          case rel => exact ⟨ra, rb, S5⟩
        | false =>
          go_wp2_with fail
          go_meet
          case rel => exact ⟨t.1, t.2, S4⟩
      case rest =>
        clear S4 S5 ST x1 x1b x3b x4b y0 y1 fy0 fy1 t0 t1 HTT
        obtain ⟨a, b', S6⟩ := hcut
        have x0 := HC0.out _ S6.out.be
        go_upto_block 2 with fail
        go_cut [7] (fun a wx => ∃ (gv iv vv bv lv fv : Value) (s r : PSt Int) (T : List (Int × Int)), 1 ≤ T.length ∧ T.length ≤ k + 2 ∧ Hid (Led w.heap.size w wx (bothL m gv iv vv bv r p lv fv s [tabE 57 2 a (rowsR T)])) ∧ Hid (Sim Eq s r))
        case first =>
          have hbx : Blk wc wr.heap.size 57 #[.int .i64 a, .int .i64 b'] := S6.out.at_ 7 rfl
          have y0 := hbx.cell 0
          have y1 := hbx.cell 1
          simp only [List.getElem?_toArray, List.getElem?_cons_zero, List.getElem?_cons_succ] at y0 y1
          clear hbx
          by_cases hK3 : kd = 3
          · subst hK3
            go_wp2_with fail
            refine Calls.mono (give_real w.heap.size m p gv iv vv bv lv fv s r a b' w _ _ S6.out SM.out) ?_
            rintro e w3 ⟨u, e0, lv3, fv3, s3, r3, rfl, q1, q2⟩
            have S7 := Lib.hid q1
            have RL := Lib.hid q2
            have hbx : Blk w3 wr.heap.size 57 #[.int .i64 a, .int .i64 b'] := q1.at_ 7 rfl
            have y0 := hbx.cell 0
            have y1 := hbx.cell 1
            simp only [List.getElem?_toArray, List.getElem?_cons_zero, List.getElem?_cons_succ] at y0 y1
            clear q1 q2 hbx
            go_wp2_with fail
            refine Calls.mono (give_ref w.heap.size m p gv iv vv bv lv3 fv3 s r s3 r3 a b' u e0 w _ _ S7.out RL.out SM.out (have h := both_len S6.out SM.out; ⟨h.1, h.2.1⟩)) ?_
            rintro e w4 ⟨rfl, bv4, q1⟩
            have S8 := Lib.hid q1
            have e1 : (u != u) = false := by simp
            have e2 : (e0 != e0) = false := by simp
            clear q1
            go_wp2_with fail
            go_meet
            case rel => exact ⟨gv, iv, vv, bv4, lv3, fv3, s3, r3, T, by rw [HNT.out]; omega, by rw [HNT.out]; omega, Lib.hid (S8.out.sub (by simp [bothL, refEs])), Lib.hid (RL.out.sim SM.out)⟩
          · by_cases hK4 : kd = 4
            · subst hK4
              go_wp2_with fail
              refine Calls.mono (give_real w.heap.size m p gv iv vv bv lv fv s r a b' w _ _ S6.out SM.out) ?_
              rintro e w3 ⟨u, e0, lv3, fv3, s3, r3, rfl, q1, q2⟩
              have S7 := Lib.hid q1
              have RL := Lib.hid q2
              have hbx : Blk w3 wr.heap.size 57 #[.int .i64 a, .int .i64 b'] := q1.at_ 7 rfl
              have y0 := hbx.cell 0
              have y1 := hbx.cell 1
              simp only [List.getElem?_toArray, List.getElem?_cons_zero, List.getElem?_cons_succ] at y0 y1
              clear q1 q2 hbx
              go_wp2_with fail
              refine Calls.mono (give_ref w.heap.size m p gv iv vv bv lv3 fv3 s r s3 r3 a b' u e0 w _ _ S7.out RL.out SM.out (have h := both_len S6.out SM.out; ⟨h.1, h.2.1⟩)) ?_
              rintro e w4 ⟨rfl, bv4, q1⟩
              have S8 := Lib.hid q1
              have e1 : (u != u) = false := by simp
              have e2 : (e0 != e0) = false := by simp
              clear q1
              go_wp2_with fail
              go_meet
              case rel => exact ⟨gv, iv, vv, bv4, lv3, fv3, s3, r3, T, by rw [HNT.out]; omega, by rw [HNT.out]; omega, Lib.hid (S8.out.sub (by simp [bothL, refEs])), Lib.hid (RL.out.sim SM.out)⟩
            · have hk3 : (kd == 3) = false := by simpa using hK3
              have hk4 : (kd == 4) = false := by simpa using hK4
              by_cases hK5 : kd = 5
              · subst hK5
                go_wp2_with fail
                refine Calls.mono (get_real w.heap.size m p gv iv vv bv lv fv s r a b' w _ _ S6.out SM.out) ?_
                rintro e w3 ⟨u, e0, rfl, q1, q2⟩
                have S7 := Lib.hid q1
                have RL := Lib.hid q2
                have hbx : Blk w3 wr.heap.size 57 #[.int .i64 a, .int .i64 b'] := q1.at_ 7 rfl
                have y0 := hbx.cell 0
                have y1 := hbx.cell 1
                simp only [List.getElem?_toArray, List.getElem?_cons_zero, List.getElem?_cons_succ] at y0 y1
                clear q1 q2 hbx
                go_wp2_with fail
                refine Calls.mono (get_ref w.heap.size m p gv iv vv bv lv fv s r a b' u e0 w _ _ S7.out RL.out SM.out (both_len S6.out SM.out).1) ?_
                rintro e w4 ⟨rfl, q1⟩
                have S8 := Lib.hid q1
                have e1 : (u != u) = false := by simp
                have e2 : (e0 != e0) = false := by simp
                clear q1
                go_wp2_with fail
                go_meet
                case rel => exact ⟨gv, iv, vv, bv, lv, fv, s, r, T, by rw [HNT.out]; omega, by rw [HNT.out]; omega, Lib.hid (S8.out.sub (by simp [bothL, refEs])), SM⟩
              · have hk5 : (kd == 5) = false := by simpa using hK5
                by_cases hK6 : kd = 6
                · subst hK6
                  have x2 := HC2.out _ S6.out.be
                  go_wp2_with fail
                  go_region_held3 (fun wx => wx.cell? ⟨wr.heap.size, 0, none⟩ = some (.int .i64 a) ∧ wx.cell? ⟨wr.heap.size, 1, none⟩ = some (.int .i64 b') ∧ wx.cell? ⟨b, off + k * 5 + 2, none⟩ = some (.int .i64 cv)) (first | exact ⟨z0, z1, z2⟩ | exact ⟨y0, y1, x2⟩ | go_keep) (first | (go_at_call 68; refine Calls.mono (set_real w.heap.size m p gv iv vv bv lv fv s r a b' cv w _ _ S6.out.drew SM.out) ?_; rintro e w3 ⟨e0, s3, r3, rfl, q1, q2⟩; have z0 := (show Blk w3 wr.heap.size 57 #[.int .i64 a, .int .i64 b'] from q1.at_ 7 rfl).cell 0; have z1 := (show Blk w3 wr.heap.size 57 #[.int .i64 a, .int .i64 b'] from q1.at_ 7 rfl).cell 1; have z2 := HC2.out w3 q1.be; have S7 := Lib.hid q1; have RL := Lib.hid q2; clear q1 q2) | (go_at_call 69; refine Calls.mono (set_ref w.heap.size m p gv iv vv bv lv fv s r s3 r3 a b' cv e0 w _ _ S7.out RL.out SM.out (both_len S6.out SM.out).1) ?_; rintro e w4 ⟨rfl, q1⟩; have z0 := (show Blk w4 wr.heap.size 57 #[.int .i64 a, .int .i64 b'] from q1.at_ 7 rfl).cell 0; have z1 := (show Blk w4 wr.heap.size 57 #[.int .i64 a, .int .i64 b'] from q1.at_ 7 rfl).cell 1; have z2 := HC2.out w4 q1.be; have S8 := Lib.hid q1; clear q1))
                  have e2 : (e0 != e0) = false := by simp
                  go_wp2_with fail
                  go_meet
                  case rel => exact ⟨gv, iv, vv, bv, lv, fv, s3, r3, T, by rw [HNT.out]; omega, by rw [HNT.out]; omega, Lib.hid (S8.out.sub (by simp [bothL, refEs])), Lib.hid (RL.out.sim SM.out)⟩
                · have hk6 : (kd == 6) = false := by simpa using hK6
                  have x2 := HC2.out _ S6.out.be
                  go_wp2_with fail
                  refine Calls.mono (take_real w.heap.size m p gv iv vv bv lv fv s r cv w _ _ S6.out SM.out) ?_
                  rintro e w3 ⟨ga, gg, ok, lv3, fv3, s3, r3, rfl, q1, q2⟩
                  have RL := Lib.hid q2
                  have S7 := Lib.hid (q1.snoc8 (blkE w3.heap.size 57 #[.int .i64 ga, .int .i64 gg]) ((Below.refl _ _).alloc (Nat.le_refl _) (.cells #[.int .i64 ga, .int .i64 gg] 57)) (Blk.new w3 _ _) (fun y hy => by simp [blkE] at hy; omega))
                  have x2b := HC2.out _ S7.out.be
                  clear q1 q2 x2 y0 y1
                  go_wp2_with fail
                  refine Calls.mono (take_ref w.heap.size m p gv iv vv bv lv3 fv3 s r s3 r3 cv ga gg ok w _ _ S7.out RL.out SM.out (both_len S6.out SM.out)) ?_
                  rintro e w4 ⟨rfl, gv4, iv4, vv4, bv4, q1⟩
                  have S8 := Lib.hid q1
                  have hb1 : Blk w4 w3.heap.size 57 #[.int .i64 ga, .int .i64 gg] := q1.at_ 8 rfl
                  have hb1lt := hb1.lt
                  have z0 := hb1.cell 0
                  have z1 := hb1.cell 1
                  simp only [List.getElem?_toArray, List.getElem?_cons_zero, List.getElem?_cons_succ] at z0 z1
                  have hT7 : TabIs w4 0 57 2 (.slice (some ⟨gt, 0, none⟩) nt ct) (rowsR T) := q1.at_ 6 rfl
                  have HT7 := Lib.hid hT7
                  have hre : refEq ga gg ga gg = true := refEq_true.2 ⟨rfl, rfl⟩
                  have rq := ref_neq
                  clear q1 hb1 hT7 x2b
                  cases ok with
                  | false =>
                    go_wp2_with fail
                    go_meet
                    case rel => exact ⟨gv4, iv4, vv4, bv4, lv3, fv3, s3, r3, T, by rw [HNT.out]; omega, by rw [HNT.out]; omega, Lib.hid ((S8.out.sub (by simp [bothL, refEs])).alloc _), Lib.hid (RL.out.sim SM.out)⟩
                  | true =>
                    have hll : (rowsR T).length ≤ 1000000000 := by rw [rowsR, List.length_map, HNT.out]; omega
                    go_wp2_with (at_builtin; refine wpList_push (by rfl) (.tmp 107) (.tmp 109) 54 (by rfl) 0 57 _ 2 16 Try.underlying54 info_ref_ (by rfl) (by decide) (.slice (some ⟨gt, 0, none⟩) nt ct) _ #[.int .i64 ga, .int .i64 gg] (by rfl) (by exact HT7.out.alloc _) (by rw [World.size_alloc]; rfl) (by rfl) (one_ref _ _) hll (by decide) (Nat.zero_le _) ?_; intro v' w' q1 q2 q3)
                    have S9 := Lib.hid (((S8.out.sub (List.take_sublist 7 _)).alloc (.cells #[.int .i64 ga, .int .i64 gg] 57)).step 6 rfl (tabE 57 2 v' (rowsR (T ++ [(ga, gg)]))) q2 (by simpa [rowsR, tabE] using q1) q3)
                    clear q1 q2 q3
                    go_meet
                    case rel => exact ⟨gv4, iv4, vv4, bv4, lv3, fv3, s3, r3, T ++ [(ga, gg)], by simp, by rw [List.length_append, HNT.out]; simp; omega, S9, Lib.hid (RL.out.sim SM.out)⟩
        case rest =>
          clear S6 HC0 HC1 HC2 HC3 HC4 x0 SM HNT hgt bd gb0 gb1
          obtain ⟨gv, iv, vv, bv, lv, fv, s, r, T, hT1, hT2, S, SM⟩ := hcut
          obtain ⟨na, hna⟩ : ∃ n, (allTo r.l r.l.length).length = n := ⟨_, rfl⟩
          have hall := (both_is S.out).wf.all_len
          have hle := both_len S.out SM.out
          have hsl := SM.out.len
          rw [← SM.out.all, hna] at hall
          have hlen : (s.l.length : Int) - s.free.length = (na : Int) := by omega
          have HLN := Lib.hid hlen
          have HNA := Lib.hid hna
          have hnn : ((na : Int) != (na : Int)) = false := by simp
          have hna2 : na ≤ 65536 := by omega
          clear hall hlen hna hsl
          go_wp2_with fail
          refine Calls.mono (pool_len_i64 p lv fv s _ (both_is S.out)) ?_
          rintro e w3 ⟨he, k3, rfl⟩
          rw [HLN.out] at he
          subst he
          have S1 := Lib.hid (S.out.drewN k3)
          clear S
          go_wp2_with fail
          refine Calls.mono (ref_all w.heap.size m gv iv vv bv r w _ _ S1.out hle.1) ?_
          rintro e w4 ⟨v1, rfl, q1⟩
          obtain ⟨A4, c4, hv1, _⟩ := (show TabIs w4 0 57 2 v1 (rowsR (allTo r.l r.l.length)) from q1.at_ 0 rfl).form
          rw [show (rowsR (allTo r.l r.l.length)).length = na by rw [rowsR, List.length_map, HNA.out]] at hv1
          subst hv1
          have S2 := Lib.hid q1.tail
          clear q1 S1
          go_wp2_with fail
          refine Calls.mono (pool_all_i64 p lv fv s w.heap.size w _ 5 _ S2.out rfl) ?_
          rintro e w5 ⟨v2, rfl, q2⟩
          have S3 := Lib.hid (show Led w.heap.size w w5 (bothL m gv iv vv bv r p lv fv s [_, tabE 57 2 v2 (rowsR (allTo s.l s.l.length))]) from q2.perm (List.perm_append_singleton _ _).symm)
          clear q2 S2
          go_wp2_with fail
          refine Calls.mono (ref_all w.heap.size m gv iv vv bv r w _ _ S3.out hle.1) ?_
          rintro e w6 ⟨v3, rfl, q3⟩
          have h3 : TabIs w6 0 57 2 v3 (rowsR (allTo s.l s.l.length)) := by rw [← SM.out.all]; exact q3.at_ 0 rfl
          have h2 : TabIs w6 0 57 2 v2 (rowsR (allTo s.l s.l.length)) := q3.at_ 8 rfl
          have H2 := Lib.hid h2
          have H3 := Lib.hid h3
          have S4 := Lib.hid q3.tail
          clear q3 h2 h3 S3
          go_wp2_with fail
          refine Calls.mono (same_ref v2 v3 (allTo s.l s.l.length) _ H2.out H3.out (by rw [← SM.out.all, HNA.out]; omega)) ?_
          rintro e w7 ⟨rfl, k7, rfl⟩
          have S5 := Lib.hid (show Led w.heap.size w (w6.drewN k7) (bothL m gv iv vv bv r p lv fv s [tabE 57 2 u7 (rowsR T)]) from (S4.out.sub (by simp [bothL, refEs])).drewN k7)
          clear S4 H2 H3
          go_wp2_with fail
          go_roundw
          case rel => exact ⟨k + 1, gv, iv, vv, bv, lv, fv, s, r, T, by omega, hT1, by omega, by go_num, S5, SM⟩
          case measure => simp [intOf]; omega
    · by_cases hlt1 : k < n1
      · obtain rfl : k = 80 := by omega
        clear hlt
        go_wp2_with fail
        exact hR.out _ _ ⟨rfl, ST.out.be⟩
      · have hd : decide ((k : Int) < n1) = false := by simp; omega
        clear hlt
        go_wp2_with fail
        exact hR.out _ _ ⟨rfl, ST.out.be⟩
end Go.Proofs.Ytjabofofofddbaa
