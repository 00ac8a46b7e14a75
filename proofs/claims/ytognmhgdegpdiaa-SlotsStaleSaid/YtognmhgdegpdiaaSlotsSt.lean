/- SlotsStale: the walk. -/
import Derived.Test.YtognmhgdegpdiaaSlotsStB
namespace Go.Proofs.Ytognmhgdegpdiaa
open Go.RowKit
open Go.Maps (Keyed)
set_option linter.unusedVariables false
set_option linter.unusedSimpArgs false
set_option maxRecDepth 100000

set_option maxHeartbeats 16000000 in
theorem slots_stale (A0 A2 : Option Addr) (n0 c0 n2 c2 : Nat) (a1 : Int) (G2 : Nat → Int) (w : World) (hn0 : n0 ≤ 9223372036854775807) (hn2 : n2 ≤ 9223372036854775807) (ha1 : -9223372036854775808 ≤ a1) (ha2 : a1 ≤ 9223372036854775807)
    (hA2 : SlArg w w.heap.size A2 n2 1 fun j => .int .i64 (G2 j)) (hG2 : ∀ j, j < n2 → -9223372036854775808 ≤ G2 j ∧ G2 j ≤ 9223372036854775807) :
    Calls Try.prog 4 #[.slice A0 n0 c0, .int .i64 a1, .slice A2 n2 c2] w fun e w' => e = .returned (.bool true) ∧ Below w.heap.size w w' := by
  have HA2 := Lib.hid hA2; clear hA2
  have HG2 := Lib.hid hG2; clear hG2
  have HE1 := Lib.hid ha1
  have HE2 := Lib.hid ha2
  clear ha1 ha2
  obtain ⟨n, hmin, hn20⟩ : ∃ n : Nat, min (n0 : Int) 20 = (n : Int) ∧ n ≤ 20 := ⟨min n0 20, by omega, by omega⟩
  refine callsR fun R hR => ?_
  go_enter Try.func4, Try.ntmps4
  go_wp2_with fail
  refine Calls.mono (slots_new 30 30 w.heap.size w w [] (Led.none_ (Below.refl _ _) (Nat.le_refl _)) (by decide)) ?_
  rintro e w1 ⟨t, ph, pi, b, rfl, q1⟩
  have S1 : Hid (Led w.heap.size w w1 (slotEs t ph pi b 0 (.slice none 0 0) (.slice none 0 0) (.slice none 0 0) (.slice none 0 0) ⟨64, stH 0, []⟩ ⟨30, [], []⟩ (fun _ => none) ++ [tabE 27 2 (.slice none 0 0) (rowsR (refsL 0))])) := Lib.hid (Led.insert (es := slotEs t ph pi b 0 (.slice none 0 0) (.slice none 0 0) (.slice none 0 0) (.slice none 0 0) ⟨64, stH 0, []⟩ ⟨30, [], []⟩ (fun _ => none)) (fs := []) q1 _ (Below.refl _ _) (TabIs.nil _ _ _ _) (by simp [tabE, Value.ownBlock]))
  clear q1
  go_upto_block 0 with fail
  go_cut [8, 10, 11, 12] (fun hs _ _ _ wx => ∃ (lh fh : Value), Hid (Led w.heap.size w wx (slotEs t ph pi b 0 lh fh (.slice none 0 0) (.slice none 0 0) ⟨64, stH 3, []⟩ ⟨30, [], []⟩ (fun _ => none) ++ [tabE 27 2 hs (rowsR (refsL 3))])))
  case first =>
    go_wp2_with fail
    go_loopw [8, 10] (fun hs i wx => ∃ (k : Nat) (lh fh : Value), k ≤ 3 ∧ i = .int .i64 k ∧ Hid (Led w.heap.size w wx (slotEs t ph pi b 0 lh fh (.slice none 0 0) (.slice none 0 0) ⟨64, stH k, []⟩ ⟨30, [], []⟩ (fun _ => none) ++ [tabE 27 2 hs (rowsR (refsL k))]))) (fun _ i _ => 3 - (intOf i).toNat)
    case atStart => exact ⟨0, _, _, by omega, rfl, S1⟩
    case round =>
      clear S1
      obtain ⟨k, lh, fh, hk, rfl, ST⟩ := hrel
      by_cases hlt : k < 3
      · have hll : (rowsR (refsL k)).length ≤ 1000000000 := by rw [rowsR, List.length_map, refsL_len]; omega
        go_wp2_with fail
        refine Calls.mono (slots_make w.heap.size t ph pi b 0 lh fh _ _ _ _ _ w _ _ 2 ST.out) ?_
        rintro e w3 ⟨a, g, e0, lh3, fh3, sh3, rfl, q1, q2⟩
        obtain ⟨rfl, rfl, rfl, rfl⟩ := stH_make hlt q1
        have S2 := Lib.hid (q2.alloc (.cells #[.int .i64 (k : Int), .int .i64 1] 27))
        have hT2 : TabIs w3 0 27 2 u8 (rowsR (refsL k)) := q2.at_ 4 rfl
        have HT2 := Lib.hid hT2
        clear q1 q2 hT2 ST
        go_wp2_with (at_builtin; refine wpList_push (by rfl) (.tmp 45) (.tmp 47) 25 (by rfl) 0 27 _ 2 16 Try.underlying25 info_ref_ (by rfl) (by decide) u8 _ #[.int .i64 k, .int .i64 1] (by rfl) (by exact HT2.out.alloc _) (by rw [World.size_alloc]; rfl) (by rfl) (one_ref _ _) hll (by decide) (Nat.zero_le _) ?_; intro v' w' q1 q2 q3)
        have S3 := Lib.hid (S2.out.step 4 rfl (tabE 27 2 v' (rowsR (refsL (k + 1)))) q2 (by rw [refsL_succ]; simpa [rowsR, tabE] using q1) q3)
        clear q1 q2 q3
        go_roundw
        case rel => exact ⟨k + 1, lh3, fh3, by omega, by go_num, S3⟩
        case measure => simp [intOf]; omega
      · obtain rfl : k = 3 := by omega
        clear hlt
        go_wp2_with fail
        go_meet
        case rel => exact ⟨lh, fh, ST⟩
  case rest =>
    clear S1
    obtain ⟨lh, fh, ST⟩ := hcut
    have hTh : TabIs wc 0 27 2 u8 (rowsR (refsL 3)) := ST.out.at_ 4 rfl
    obtain ⟨Ah, ch, rfl, hch, hAh⟩ := hTh.form
    have hrl : (rowsR (refsL 3)).length = 3 := by rw [rowsR, List.length_map, refsL_len]
    rw [hrl] at hch hAh ST ⊢
    obtain ⟨gh, rfl, _, _⟩ := hAh (by omega)
    have S1 : Hid (Led w.heap.size w wc (slotEs t ph pi b 0 lh fh (.slice none 0 0) (.slice none 0 0) ⟨64, stH 3, []⟩ ⟨30, [], []⟩ (fun _ => none) ++ [tabE 27 2 (.slice (some ⟨gh, 0, none⟩) 3 ch) (rowsR (refsL 3)), tabE 27 2 (.slice none 0 0) (rowsR (refsL 0))])) := Lib.hid (Led.insert (es := slotEs t ph pi b 0 lh fh (.slice none 0 0) (.slice none 0 0) ⟨64, stH 3, []⟩ ⟨30, [], []⟩ (fun _ => none) ++ [tabE 27 2 (.slice (some ⟨gh, 0, none⟩) 3 ch) (rowsR (refsL 3))]) (fs := []) ST.out _ (Below.refl _ _) (TabIs.nil _ _ _ _) (by simp [tabE, Value.ownBlock]))
    clear hTh hAh ST
    go_upto_block 2 with fail
    go_cut [9, 14, 15, 16] (fun is _ _ _ wx => ∃ (m : Nat) (li fi : Value) (si : PSt V3) (f : Int → Option (Int × Int)), m ≤ 20 ∧ Hid (StInv n (fun _ => false) si f) ∧ Hid (Led w.heap.size w wx (slotEs t ph pi b m lh fh li fi ⟨64, stH 3, []⟩ si f ++ [tabE 27 2 (.slice (some ⟨gh, 0, none⟩) 3 ch) (rowsR (refsL 3)), tabE 27 2 is (rowsR (refsL n))])))
    case first =>
      go_wp2_with fail
      go_loopw [9, 14] (fun is i wx => ∃ (k m : Nat) (li fi : Value) (si : PSt V3) (f : Int → Option (Int × Int)), k ≤ n ∧ i = .int .i64 k ∧ m ≤ k ∧ Hid (StInv k (fun _ => false) si f) ∧ Hid (si.free = []) ∧ Hid (Led w.heap.size w wx (slotEs t ph pi b m lh fh li fi ⟨64, stH 3, []⟩ si f ++ [tabE 27 2 (.slice (some ⟨gh, 0, none⟩) 3 ch) (rowsR (refsL 3)), tabE 27 2 is (rowsR (refsL k))]))) (fun _ i _ => n - (intOf i).toNat)
      case atStart => exact ⟨0, 0, _, _, _, _, by omega, rfl, by omega, Lib.hid StInv.start, Lib.hid rfl, S1⟩
      case round =>
        clear S1
        obtain ⟨k, m, li, fi, si, f, hk, rfl, hm, SI, SF, ST⟩ := hrel
        by_cases hlt : k < n
        · have hll : (rowsR (refsL k)).length ≤ 1000000000 := by rw [rowsR, List.length_map, refsL_len]; omega
          obtain ⟨m3, hm3, hm3n⟩ : ∃ q : Nat, (k : Int) % 3 = (q : Int) ∧ k % 3 = q := ⟨k % 3, by omega, rfl⟩
          have hlt3 : m3 < 3 := by omega
          have hT : TabIs wr 0 27 2 (.slice (some ⟨gh, 0, none⟩) 3 ch) (rowsR (refsL 3)) := ST.out.at_ 4 rfl
          have t0 : wr.cell? ⟨gh, m3 * 2, none⟩ = some (.int .i64 (m3 : Int)) := hT.cell (j := 0) (r := [.int .i64 (m3 : Int), .int .i64 1]) (by rw [rowsR, List.getElem?_map, refsL_at (by omega)]; rfl) rfl
          have t1 : wr.cell? ⟨gh, m3 * 2 + 1, none⟩ = some (.int .i64 1) := hT.cell (j := 1) (r := [.int .i64 (m3 : Int), .int .i64 1]) (by rw [rowsR, List.getElem?_map, refsL_at (by omega)]; rfl) rfl
          have s1 : (0 : Int) ≤ (m3 : Int) := by omega
          have s2 : (m3 : Int) < 3 := by omega
          have HM3 := Lib.hid hm3n
          clear hT hm3n
          go_wp2_with fail
          refine Calls.mono (slots_put w.heap.size t ph pi b m lh fh li fi _ si f w _ _ (m3 : Int) 1 (k : Int) (by unfold in64; omega) (by omega) ST.out) ?_
          rintro e w4 ⟨u, v, e0, li4, fi4, si4, f4, m4, rfl, q3, q4, q5⟩
          rw [← HM3.out] at q3
          obtain ⟨rfl, rfl, rfl, hsi, hsf⟩ := SI.out.put SF.out (by omega) q3
          have SI4 := Lib.hid hsi
          have SF4 := Lib.hid hsf
          have S2 := Lib.hid (q5.alloc (.cells #[.int .i64 (k : Int), .int .i64 1] 27))
          have hT2 : TabIs w4 0 27 2 u9 (rowsR (refsL k)) := q5.at_ 5 rfl
          have HT2 := Lib.hid hT2
          clear q3 q5 hsi hsf hT2 ST SI SF t0 t1 hm3 s1 s2 hlt3 HM3
          go_wp2_with (at_builtin; refine wpList_push (by rfl) (.tmp 70) (.tmp 72) 25 (by rfl) 0 27 _ 2 16 Try.underlying25 info_ref_ (by rfl) (by decide) u9 _ #[.int .i64 k, .int .i64 1] (by rfl) (by exact HT2.out.alloc _) (by rw [World.size_alloc]; rfl) (by rfl) (one_ref _ _) hll (by decide) (Nat.zero_le _) ?_; intro v' w' q1 q2 q3)
          have S3 := Lib.hid (S2.out.step 5 rfl (tabE 27 2 v' (rowsR (refsL (k + 1)))) q2 (by rw [refsL_succ]; simpa [rowsR, tabE] using q1) q3)
          clear q1 q2 q3
          go_roundw
          case rel => exact ⟨k + 1, m4, li4, fi4, si4, f4, by omega, by go_num, by omega, SI4, SF4, S3⟩
          case measure => simp [intOf]; omega
        · obtain rfl : k = n := by omega
          clear hlt
          go_wp2_with fail
          go_meet
          case rel => exact ⟨m, li, fi, si, f, by omega, SI, ST⟩
    case rest =>
      clear S1
      obtain ⟨m, li, fi, si, f, hm, SI, ST⟩ := hcut
      have hTi : TabIs wc 0 27 2 u9 (rowsR (refsL n)) := ST.out.at_ 5 rfl
      obtain ⟨Ai, ci, rfl, hci, hAi⟩ := hTi.form
      have hrl2 : (rowsR (refsL n)).length = n := by rw [rowsR, List.length_map, refsL_len]
      rw [hrl2] at hci hAi ST ⊢
      clear hTi
      have hmk : ∀ W : World, (Instr.makeSlice 37 (.int .i64 (n : Int)) (.int .i64 (n : Int))).run Try.prog W = .ok (.slice (some ⟨W.heap.size, 0, none⟩) n n) (W.alloc (.cells (madeCells #[Value.bool false] n) 4)) := fun W => run_make_row' (P := Try.prog) 37 4 (.bool false) 1 Try.underlying37 info_bool_ rfl .i64 .i64 n (by omega) (by omega) W
      have S2 : Hid (Led w.heap.size w (wc.alloc (.cells (madeCells #[Value.bool false] n) 4)) (slotEs t ph pi b m lh fh li fi ⟨64, stH 3, []⟩ si f ++ [tabE 27 2 (.slice (some ⟨gh, 0, none⟩) 3 ch) (rowsR (refsL 3)), tabE 27 2 (.slice Ai n ci) (rowsR (refsL n)), tabE 4 1 (.slice (some ⟨wc.heap.size, 0, none⟩) n n) (boolRows (List.replicate n false))])) :=
        Lib.hid (Led.insert (es := slotEs t ph pi b m lh fh li fi ⟨64, stH 3, []⟩ si f ++ [tabE 27 2 (.slice (some ⟨gh, 0, none⟩) 3 ch) (rowsR (refsL 3)), tabE 27 2 (.slice Ai n ci) (rowsR (refsL n))]) (fs := []) ST.out _ (bel_alloc (bel_refl wc) _) (tab_made wc n (by omega)) (by simp [tabE, Value.ownBlock]))
      obtain ⟨gg, hgg⟩ : ∃ gg, wc.heap.size = gg := ⟨_, rfl⟩
      rw [hgg, ← gL_false] at S2
      clear ST
      go_upto_block 4 with fail
      generalize wc.alloc (.cells (madeCells #[Value.bool false] n) 4) = wd at S2 ⊢
      clear hmk hgg
      go_cut [18, 19, 20, 21] (fun _ _ _ _ wx => ∃ (G : Nat → Bool) (fi : Value) (si : PSt V3) (f : Int → Option (Int × Int)), Hid (StInv n G si f) ∧ Hid (Led w.heap.size w wx (slotEs t ph pi b m lh fh li fi ⟨64, stH 3, []⟩ si f ++ [tabE 27 2 (.slice (some ⟨gh, 0, none⟩) 3 ch) (rowsR (refsL 3)), tabE 27 2 (.slice Ai n ci) (rowsR (refsL n)), tabE 4 1 (.slice (some ⟨gg, 0, none⟩) n n) (boolRows (gL n G))])))
      case first =>
        go_wp2_with fail
        go_loopw [18] (fun i wx => ∃ (j : Nat) (G : Nat → Bool) (fi : Value) (si : PSt V3) (f : Int → Option (Int × Int)), j ≤ 10 ∧ j ≤ n2 ∧ i = .int .i64 j ∧ Hid (StInv n G si f) ∧ Hid (Led w.heap.size w wx (slotEs t ph pi b m lh fh li fi ⟨64, stH 3, []⟩ si f ++ [tabE 27 2 (.slice (some ⟨gh, 0, none⟩) 3 ch) (rowsR (refsL 3)), tabE 27 2 (.slice Ai n ci) (rowsR (refsL n)), tabE 4 1 (.slice (some ⟨gg, 0, none⟩) n n) (boolRows (gL n G))]))) (fun i _ => 10 - (intOf i).toNat)
        case atStart => exact ⟨0, _, fi, si, f, by omega, by omega, rfl, SI, S2⟩
        case round =>
          clear S2 SI
          obtain ⟨j, G, fi, si, f, hj1, hj2, rfl, SI, S⟩ := hrel
          by_cases hlt : j < n2 ∧ j < 10 ∧ 0 < n
          · obtain ⟨hlt1, hlt2, hn1⟩ := hlt
            obtain ⟨bo, oo, rfl, hbo, hcell⟩ := HA2.out (by omega)
            have x0 : wr.cell? ⟨bo, oo + j, none⟩ = some (.int .i64 (G2 j)) := (S.out.be.cell (p := ⟨bo, oo + j, none⟩) hbo).trans (hcell j (by omega))
            have gb2 := HG2.out j (by omega)
            obtain ⟨gi, rfl, _, _⟩ := hAi hn1
            have bd := within_bd (G2 j) 0 ((n : Int) - 1) (by omega)
            obtain ⟨q, hq⟩ : ∃ q : Nat, within (G2 j) 0 ((n : Int) - 1) = (q : Int) := ⟨(within (G2 j) 0 ((n : Int) - 1)).toNat, by omega⟩
            rw [hq] at bd
            have hqn : q < n := by omega
            have Hq := Lib.hid hq
            clear hcell hq
            go_wp2_with fail
            refine Calls.mono (within_any (G2 j) 0 ((n : Int) - 1) _ (by omega) (by omega) (by omega) (by omega) (by omega)) ?_
            rintro e wo ⟨he, rfl⟩
            rw [Hq.out] at he
            subst he
            have hT : TabIs wr 0 27 2 (.slice (some ⟨gi, 0, none⟩) n ci) (rowsR (refsL n)) := S.out.at_ 5 rfl
            have t0 : wr.cell? ⟨gi, q * 2, none⟩ = some (.int .i64 (q : Int)) := hT.cell (j := 0) (r := [.int .i64 (q : Int), .int .i64 1]) (by rw [rowsR, List.getElem?_map, refsL_at (by omega)]; rfl) rfl
            have t1 : wr.cell? ⟨gi, q * 2 + 1, none⟩ = some (.int .i64 1) := hT.cell (j := 1) (r := [.int .i64 (q : Int), .int .i64 1]) (by rw [rowsR, List.getElem?_map, refsL_at (by omega)]; rfl) rfl
            clear hT
            go_wp2_with fail
            refine Calls.mono (slots_take w.heap.size t ph pi b m lh fh li fi _ si f w _ _ (q : Int) 1 (SI.out.cells hn20) S.out) ?_
            rintro e w2 ⟨v, e0, fi2, si2, rfl, q1, q2⟩
            obtain ⟨r1, r2⟩ := SI.out.take hqn q1
            generalize (if e0 = 0 then upd f v.a none else f) = f2 at q2 r2
            have S2 := Lib.hid q2
            have SI2 := Lib.hid r2
            have hT2 : TabIs w2 0 4 1 (.slice (some ⟨gg, 0, none⟩) n n) (boolRows (gL n G)) := q2.at_ 6 rfl
            have y0 := bool_cell hT2 (gL_at hqn)
            have fy0 := hT2.frozen q
            have ly0 := (hT2.lt gg (by simp [Value.ownBlock])).2
            have S3 := led_bool (A := slotEs t ph pi b m lh fh li fi2 ⟨64, stH 3, []⟩ si2 f2 ++ [tabE 27 2 (.slice (some ⟨gh, 0, none⟩) 3 ch) (rowsR (refsL 3)), tabE 27 2 (.slice (some ⟨gi, 0, none⟩) n ci) (rowsR (refsL n))]) (C := []) q2 (gL_at hqn) true
            rw [gL_set hqn] at S3
            have S4 := Lib.hid S3
            clear q1 q2 r2 hT2 t0 t1 x0 S S2 S3 SI
            rcases r1 with ⟨hG, rfl⟩ | ⟨hG, rfl, hva⟩
            · rw [hG] at y0
              go_wp2_with fail
              go_roundw
              case rel => exact ⟨j + 1, _, fi2, si2, f2, by omega, by omega, by go_num, SI2, S4⟩
              case measure => simp [intOf]; omega
            · rw [hG] at y0
              rw [hva]
              go_wp2_with fail
              go_roundw
              case rel => exact ⟨j + 1, _, fi2, si2, f2, by omega, by omega, by go_num, SI2, S4⟩
              case measure => simp [intOf]; omega
          · by_cases hlt1 : j < n2
            · by_cases hlt2 : j < 10
              · obtain rfl : n = 0 := by omega
                clear hlt
                go_wp2_with fail
                go_meet
                case rel => exact ⟨G, fi, si, f, SI, S⟩
              · obtain rfl : j = 10 := by omega
                have hd1 : decide ((10 : Int) < n2) = true := by simp; omega
                clear hlt hlt2
                go_wp2_with fail
                go_meet
                case rel => exact ⟨G, fi, si, f, SI, S⟩
            · have hd : decide ((j : Int) < n2) = false := by simp; omega
              clear hlt
              go_wp2_with fail
              go_meet
              case rel => exact ⟨G, fi, si, f, SI, S⟩
      case rest =>
        clear S2 SI
        obtain ⟨G, fi, si, f, SI, S⟩ := hcut
        have hA1 := HE1.out
        have hA2 := HE2.out
        have bd := within_bd a1 0 2 (by omega)
        obtain ⟨d, hd⟩ : ∃ d : Nat, within a1 0 2 = (d : Int) := ⟨(within a1 0 2).toNat, by omega⟩
        rw [hd] at bd
        have hd3 : d < 3 := by omega
        have s1 : (0 : Int) ≤ (d : Int) := by omega
        have s2 : (d : Int) < 3 := by omega
        have Hd := Lib.hid hd
        clear hd bd
        go_wp2_with fail
        refine Calls.mono (within_any a1 0 2 _ (by omega) (by omega) (by omega) (by omega) (by omega)) ?_
        rintro e wo ⟨he, rfl⟩
        rw [Hd.out] at he
        subst he
        have hT : TabIs wc 0 27 2 (.slice (some ⟨gh, 0, none⟩) 3 ch) (rowsR (refsL 3)) := S.out.at_ 4 rfl
        have t0 : wc.cell? ⟨gh, d * 2, none⟩ = some (.int .i64 (d : Int)) := hT.cell (j := 0) (r := [.int .i64 (d : Int), .int .i64 1]) (by rw [rowsR, List.getElem?_map, refsL_at (by omega)]; rfl) rfl
        have t1 : wc.cell? ⟨gh, d * 2 + 1, none⟩ = some (.int .i64 1) := hT.cell (j := 1) (r := [.int .i64 (d : Int), .int .i64 1]) (by rw [rowsR, List.getElem?_map, refsL_at (by omega)]; rfl) rfl
        clear hT
        go_wp2_with fail
        refine Calls.mono (slots_end w.heap.size t ph pi b m lh fh li fi _ si f w _ _ (d : Int) 1 SI.out.gens (SI.out.cells hn20) S.out) ?_
        rintro e w2 ⟨e0, fh2, fi2, sh2, si2, f2, rfl, q1, q2⟩
        obtain ⟨rfl, hsh2, hsi⟩ := SI.out.end_ hd3 q1
        have SI2 := Lib.hid hsi
        have S2 := Lib.hid q2
        have HSH := Lib.hid hsh2
        clear q1 q2 hsi hsh2 t0 t1 S SI
        have hT : TabIs w2 0 27 2 (.slice (some ⟨gh, 0, none⟩) 3 ch) (rowsR (refsL 3)) := S2.out.at_ 4 rfl
        have t0 : w2.cell? ⟨gh, d * 2, none⟩ = some (.int .i64 (d : Int)) := hT.cell (j := 0) (r := [.int .i64 (d : Int), .int .i64 1]) (by rw [rowsR, List.getElem?_map, refsL_at (by omega)]; rfl) rfl
        have t1 : w2.cell? ⟨gh, d * 2 + 1, none⟩ = some (.int .i64 1) := hT.cell (j := 1) (r := [.int .i64 (d : Int), .int .i64 1]) (by rw [rowsR, List.getElem?_map, refsL_at (by omega)]; rfl) rfl
        clear hT
        go_wp2_with fail
        refine Calls.mono (slots_end w.heap.size t ph pi b m lh fh2 li fi2 _ si2 f2 w _ _ (d : Int) 1 SI2.out.gens (SI2.out.cells hn20) S2.out) ?_
        rintro e w3 ⟨e1, fh3, fi3, sh3, si3, f3, rfl, q1, q2⟩
        have hlk : sh2.look (d : Int) 1 = 23 := by rw [HSH.out]; exact stale_again hd3
        obtain ⟨rfl, rfl, rfl, rfl⟩ := EndR.bad hlk (by decide) q1
        clear hlk
        have S3 := Lib.hid q2
        clear q1 q2 t0 t1 S2
        go_wp2_with fail
        go_loopw [23, 24] (fun l i wx => ∃ j : Nat, j ≤ n ∧ i = .int .i64 j ∧ l = .int .i64 ((allTo si3.l j).length : Int) ∧ Hid (Led w.heap.size w wx (slotEs t ph pi b m lh fh3 li fi3 sh3 si3 f3 ++ [tabE 27 2 (.slice (some ⟨gh, 0, none⟩) 3 ch) (rowsR (refsL 3)), tabE 27 2 (.slice Ai n ci) (rowsR (refsL n)), tabE 4 1 (.slice (some ⟨gg, 0, none⟩) n n) (boolRows (gL n G))]))) (fun _ i _ => n - (intOf i).toNat)
        case atStart => exact ⟨0, by omega, rfl, by rw [allTo_zero]; rfl, S3⟩
        case round =>
          clear S3
          obtain ⟨j, hj, rfl, rfl, S⟩ := hrel
          by_cases hlt : j < n
          · obtain ⟨gi, rfl, _, _⟩ := hAi (by omega)
            have HF : Hid (∀ W, Led w.heap.size w W (slotEs t ph pi b m lh fh3 li fi3 sh3 si3 f3 ++ [tabE 27 2 (.slice (some ⟨gh, 0, none⟩) 3 ch) (rowsR (refsL 3)), tabE 27 2 (.slice (some ⟨gi, 0, none⟩) n ci) (rowsR (refsL n)), tabE 4 1 (.slice (some ⟨gg, 0, none⟩) n n) (boolRows (gL n G))]) → W.cell? ⟨gi, j * 2, none⟩ = some (.int .i64 (j : Int)) ∧ W.cell? ⟨gi, j * 2 + 1, none⟩ = some (.int .i64 1) ∧ W.cell? ⟨gg, j, none⟩ = some (.bool (G j))) :=
              Lib.hid fun W hW => have hT := (show TabIs W 0 27 2 (.slice (some ⟨gi, 0, none⟩) n ci) (rowsR (refsL n)) from hW.at_ 5 rfl); ⟨hT.cell (j := 0) (r := [.int .i64 (j : Int), .int .i64 1]) (by rw [rowsR, List.getElem?_map, refsL_at (by omega)]; rfl) rfl, hT.cell (j := 1) (r := [.int .i64 (j : Int), .int .i64 1]) (by rw [rowsR, List.getElem?_map, refsL_at (by omega)]; rfl) rfl, bool_cell (show TabIs W 0 4 1 (.slice (some ⟨gg, 0, none⟩) n n) (boolRows (gL n G)) from hW.at_ 6 rfl) (gL_at hlt)⟩
            obtain ⟨t0, t1, -⟩ := HF.out _ S.out
            have hcnt := SI2.out.all_succ hlt
            have hle : (allTo si3.l j).length ≤ 20 := by have := allTo_le si3.l j; rw [SI2.out.len] at this; omega
            have HCNT := Lib.hid hcnt
            clear hcnt
            go_wp2_with fail
            refine Calls.mono (slots_cell w.heap.size t ph pi b m lh fh3 li fi3 sh3 si3 f3 w _ _ (j : Int) 1 S.out) ?_
            rintro e w4 ⟨v, e0, rfl, q1, q2⟩
            have Q1 := Lib.hid q1
            have S4 := Lib.hid q2
            clear q1 q2 t0 t1 S
            obtain ⟨t0, t1, -⟩ := HF.out _ S4.out
            go_wp2_with fail
            refine Calls.mono (slots_of w.heap.size t ph pi b m lh fh3 li fi3 sh3 si3 f3 w _ _ (j : Int) 1 S4.out) ?_
            rintro e w5 ⟨v2, e2, rfl, q1, q2⟩
            have hj64 : in64 (j : Int) := by unfold in64; omega
            have TL := Lib.hid (SI2.out.tell hlt Q1.out q1)
            have S5 := Lib.hid (q2.alloc (.cells #[.int .i64 v2.b, .int .i64 v2.c] 27))
            clear q1 q2 t0 t1 S4 Q1
            go_upto_region 38 with fail
            generalize w5.alloc (.cells #[.int .i64 v2.b, .int .i64 v2.c] 27) = w6 at S5 ⊢
            go_wp2_with fail
            refine Calls.mono (slots_at w.heap.size t ph pi b m lh fh3 li fi3 sh3 si3 f3 w _ _ (j : Int) hj64 S5.out) ?_
            generalize ((f3 (j : Int)).getD (0, 0)).1 = y1
            generalize ((f3 (j : Int)).getD (0, 0)).2 = y2
            generalize (f3 (j : Int)).isSome = yo at TL ⊢
            rintro e w7 ⟨rfl, q2⟩
            have S7 := Lib.hid (q2.alloc (.cells #[.int .i64 y1, .int .i64 y2] 27))
            clear q2 S5
            go_upto_region 39 with fail
            generalize w7.alloc (.cells #[.int .i64 y1, .int .i64 y2] 27) = w8 at S7 ⊢
            obtain ⟨m3, hm3, hm3n⟩ : ∃ q : Nat, (j : Int) % 3 = (q : Int) ∧ j % 3 = q := ⟨j % 3, by omega, rfl⟩
            obtain ⟨-, -, y0⟩ := HF.out _ S7.out
            have tl := TL.out
            have hcnt := HCNT.out
            simp only [hm3n] at tl hcnt
            clear TL HCNT HF hj64 hm3n
            obtain ⟨qd, hqd⟩ : ∃ qd : Bool, (m3 == d) = qd := ⟨_, rfl⟩
            have hqi : ((m3 : Int) == (d : Int)) = qd := by rw [← hqd, Bool.eq_iff_iff, beq_iff_eq, beq_iff_eq]; omega
            rw [hqd] at tl hcnt
            generalize G j = gj at y0 tl hcnt
            cases gj with
            | true =>
              rcases tl with ⟨_, rfl, rfl, rfl⟩ | ⟨hx, _⟩
              · have hc2 : ((allTo si3.l (j + 1)).length : Int) = ((allTo si3.l j).length : Int) := by rw [hcnt]; simp
                go_wp2_with fail
                go_roundw
                case rel => exact ⟨j + 1, by omega, by go_num, by rw [hc2], S7⟩
                case measure => simp [intOf]; omega
              · rw [Bool.true_or] at hx; cases hx
            | false =>
              rw [Bool.false_or] at tl hcnt
              cases qd with
              | true =>
                rcases tl with ⟨_, rfl, rfl, rfl⟩ | ⟨hx, _⟩
                · have hc2 : ((allTo si3.l (j + 1)).length : Int) = ((allTo si3.l j).length : Int) := by rw [hcnt]; simp
                  go_wp2_with fail
                  go_roundw
                  case rel => exact ⟨j + 1, by omega, by go_num, by rw [hc2], S7⟩
                  case measure => simp [intOf]; omega
                · cases hx
              | false =>
                rcases tl with ⟨hx, _⟩ | ⟨_, rfl, rfl, hva, rfl⟩
                · cases hx
                · have hc2 : ((allTo si3.l (j + 1)).length : Int) = ((allTo si3.l j).length : Int) + 1 := by rw [hcnt]; simp
                  rw [hva]
                  go_wp2_with fail
                  go_roundw
                  case rel => exact ⟨j + 1, by omega, by go_num, by rw [hc2], S7⟩
                  case measure => simp [intOf]; omega
          · obtain rfl : j = n := by omega
            have hall := SI2.out.all (slotItems S.out).wf
            have HC := Lib.hid (slots_items w.heap.size t ph pi b m lh fh3 li fi3 sh3 si3 f3 w _ _ S.out)
            rw [hall] at HC
            have hhp : ((sh3.l.length : Int) - sh3.free.length) = 2 := by rw [HSH.out]; simp [PSt.giveAt, stH_len]
            have HP := Lib.hid (fun k => slots_heaps w.heap.size t ph pi b m lh fh3 li fi3 sh3 si3 f3 w _ _ (S.out.drewN k))
            rw [hhp] at HP
            generalize (allTo si3.l j).length = cnt at *
            clear hall hhp hlt
            go_wp2_with fail
            refine Calls.mono HC.out ?_
            rintro e w4 ⟨rfl, k4, rfl⟩
            go_wp2_with fail
            refine Calls.mono (HP.out k4) ?_
            rintro e w5 ⟨rfl, k5, rfl⟩
            go_wp2_with fail
            refine Calls.mono (slots_known _) ?_
            rintro e w6 ⟨rfl, q1⟩
            go_wp2_with fail
            exact hR.out _ _ ⟨rfl, bel_trans (bel_drewN S.out.be (k4 + k5)) q1⟩

end Go.Proofs.Ytognmhgdegpdiaa
