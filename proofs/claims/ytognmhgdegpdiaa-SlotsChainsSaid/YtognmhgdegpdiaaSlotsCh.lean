/- SlotsChains: the walk. -/
import Derived.Test.YtognmhgdegpdiaaSlotsChB
namespace Go.Proofs.Ytognmhgdegpdiaa
open Go.RowKit
open Go.Maps (Keyed)
set_option linter.unusedVariables false
set_option linter.unusedSimpArgs false
set_option maxRecDepth 100000

set_option maxHeartbeats 16000000 in
theorem slots_chains (A1 : Option Addr) (n1 c1 : Nat) (G1 : Nat → Int) (w : World) (hn1 : n1 ≤ 9223372036854775807) (hA1 : SlArg w w.heap.size A1 n1 1 fun j => .int .i64 (G1 j)) (hG1 : ∀ j, j < n1 → -9223372036854775808 ≤ G1 j ∧ G1 j ≤ 9223372036854775807) :
    Calls Try.prog 3 #[.slice A1 n1 c1] w fun e w' => e = .returned (.bool true) ∧ Below w.heap.size w w' := by
  have HA1 := Lib.hid hA1; clear hA1
  have HG1 := Lib.hid hG1; clear hG1
  refine callsR fun R hR => ?_
  go_enter Try.func3, Try.ntmps3
  have hmk : ∀ W : World, (Instr.makeSlice 22 (.int .i64 12) (.int .i64 12)).run Try.prog W = .ok (.slice (some ⟨W.heap.size, 0, none⟩) 12 12) (W.alloc (.cells (madeCells #[Value.int .i64 0] 12) 3)) := fun W => run_make_row' (P := Try.prog) 22 3 (.int .i64 0) 8 Try.underlying22 info_int_ rfl .i64 .i64 12 (by omega) (by omega) W
  go_wp2_with fail
  refine Calls.mono (slots_new 40 40 w.heap.size w w [] (Led.none_ (Below.refl _ _) (Nat.le_refl _)) (by decide)) ?_
  rintro e w1 ⟨t, ph, pi, b, rfl, q1⟩
  have S0 := Led.insert (es := slotEs t ph pi b 0 (.slice none 0 0) (.slice none 0 0) (.slice none 0 0) (.slice none 0 0) ⟨64, [], []⟩ ⟨40, [], []⟩ (fun _ => none)) (fs := []) q1 (tabE 27 2 (.slice none 0 0) (rowsR (refsL 0))) (Below.refl _ _) (TabIs.nil _ _ _ _) (by simp [tabE, Value.ownBlock])
  have S01 := Led.insert (es := slotEs t ph pi b 0 (.slice none 0 0) (.slice none 0 0) (.slice none 0 0) (.slice none 0 0) ⟨64, [], []⟩ ⟨40, [], []⟩ (fun _ => none)) (fs := [tabE 27 2 (.slice none 0 0) (rowsR (refsL 0))]) S0 (tabE 27 2 (.slice none 0 0) (rowsR (refsL 0))) (Below.refl _ _) (TabIs.nil _ _ _ _) (by simp [tabE, Value.ownBlock])
  have S1 := Lib.hid (Led.insert (es := slotEs t ph pi b 0 (.slice none 0 0) (.slice none 0 0) (.slice none 0 0) (.slice none 0 0) ⟨64, [], []⟩ ⟨40, [], []⟩ (fun _ => none)) (fs := [tabE 27 2 (.slice none 0 0) (rowsR (refsL 0)), tabE 27 2 (.slice none 0 0) (rowsR (refsL 0))]) S01 (tabE 3 1 (.slice (some ⟨w1.heap.size, 0, none⟩) 12 12) (natRows (List.replicate 12 0))) (bel_alloc (bel_refl w1) _) (tab_made_int w1 12 (by omega)) (by simp [tabE, Value.ownBlock]))
  obtain ⟨ga, hga⟩ : ∃ ga, w1.heap.size = ga := ⟨_, rfl⟩
  rw [hga] at S1
  clear q1 S0 S01
  go_upto_block 0 with fail
  generalize w1.alloc (.cells (madeCells #[Value.int .i64 0] 12) 3) = w2 at S1 ⊢
  clear hmk hga
  go_cut [4, 5, 7, 8, 9, 10, 11] (fun hs is _ _ _ _ _ wx => ∃ (n : Nat) (lh fh li fi : Value) (sh si : PSt V3) (f : Int → Option (Int × Int)), Hid (ChUp 12 sh si f) ∧ Hid (Led w.heap.size w wx (slotEs t ph pi b n lh fh li fi sh si f ++ [tabE 3 1 (.slice (some ⟨ga, 0, none⟩) 12 12) (natRows (List.range 12 ++ List.replicate (12 - 12) 0)), tabE 27 2 hs (rowsR (refsL 12)), tabE 27 2 is (rowsR (refsL 12))])))
  case first =>
    go_wp2_with fail
    go_loopw [4, 5, 7] (fun hs is i wx => ∃ (k n : Nat) (lh fh li fi : Value) (sh si : PSt V3) (f : Int → Option (Int × Int)), k ≤ 12 ∧ i = .int .i64 k ∧ n ≤ k ∧ Hid (ChUp k sh si f) ∧ Hid (Led w.heap.size w wx (slotEs t ph pi b n lh fh li fi sh si f ++ [tabE 3 1 (.slice (some ⟨ga, 0, none⟩) 12 12) (natRows (List.range k ++ List.replicate (12 - k) 0)), tabE 27 2 hs (rowsR (refsL k)), tabE 27 2 is (rowsR (refsL k))]))) (fun _ _ i _ => 12 - (intOf i).toNat)
    case atStart => exact ⟨0, 0, _, _, _, _, _, _, _, by omega, rfl, by omega, Lib.hid ChUp.start, S1⟩
    case round =>
      clear S1
      obtain ⟨k, n, lh, fh, li, fi, sh, si, f, hk, rfl, hn, CU, ST⟩ := hrel
      by_cases hlt : k < 12
      · go_wp2_with fail
        refine Calls.mono (slots_make w.heap.size t ph pi b n lh fh li fi sh si f w _ _ 1 ST.out) ?_
        rintro e w3 ⟨a, g, e0, lh3, fh3, sh3, rfl, q1, q2⟩
        obtain ⟨rfl, rfl, rfl, rfl⟩ := CU.out.make hlt q1
        have S3 := Lib.hid (led_new (A := slotEs t ph pi b n lh3 fh3 li fi ⟨64, hpL (k + 1), []⟩ si f) (T := 27) (cs := #[.int .i64 (k : Int), .int .i64 1]) q2)
        clear q1 q2 ST
        go_wp2_with fail
        refine Calls.mono (slots_put w.heap.size t ph pi b n lh3 fh3 li fi _ si f w _ _ (k : Int) 1 (100 + (k : Int)) (by unfold in64; omega) (by omega) S3.out) ?_
        rintro e w4 ⟨u, v, e0, li4, fi4, si4, f4, n4, rfl, q3, q4, q5⟩
        obtain ⟨rfl, rfl, rfl, hcu⟩ := ChUp.put CU.out.items CU.out.free hlt q3
        have CU4 := Lib.hid hcu
        have S4 : Hid (Led w.heap.size w (w4.alloc (.cells #[.int .i64 (k : Int), .int .i64 1] 27)) (slotEs t ph pi b n4 lh3 fh3 li4 fi4 ⟨64, hpL (k + 1), []⟩ si4 f4 ++ [blkE w4.heap.size 27 #[.int .i64 (k : Int), .int .i64 1], blkE w3.heap.size 27 #[.int .i64 (k : Int), .int .i64 1], tabE 3 1 (.slice (some ⟨ga, 0, none⟩) 12 12) (natRows (List.range k ++ List.replicate (12 - k) 0)), tabE 27 2 u4 (rowsR (refsL k)), tabE 27 2 u5 (rowsR (refsL k))])) := Lib.hid (led_new (A := slotEs t ph pi b n4 lh3 fh3 li4 fi4 ⟨64, hpL (k + 1), []⟩ si4 f4) (T := 27) (cs := #[.int .i64 (k : Int), .int .i64 1]) q5)
        clear q3 q5 hcu CU S3
        go_upto_region 13 with fail
        generalize w4.alloc (.cells #[.int .i64 (k : Int), .int .i64 1] 27) = w5 at S4 ⊢
        generalize w4.heap.size = cb at S4 ⊢
        generalize w3.heap.size = hb at S4 ⊢
        have hlT : (rowsR (refsL k)).length ≤ 1000000000 := by rw [rowsR, List.length_map, refsL_len]; omega
        have HSM : Hid (∀ W C, Led w.heap.size w W (slotEs t ph pi b n4 lh3 fh3 li4 fi4 ⟨64, hpL (k + 1), []⟩ si4 f4 ++ blkE cb 27 #[.int .i64 (k : Int), .int .i64 1] :: blkE hb 27 #[.int .i64 (k : Int), .int .i64 1] :: C) → W.cell? ⟨hb, 0, none⟩ = some (.int .i64 (k : Int)) ∧ W.cell? ⟨hb, 1, none⟩ = some (.int .i64 1) ∧ W.cell? ⟨cb, 0, none⟩ = some (.int .i64 (k : Int)) ∧ W.cell? ⟨cb, 1, none⟩ = some (.int .i64 1)) :=
          Lib.hid fun W C hl => have c := (show Blk W cb 27 #[.int .i64 (k : Int), .int .i64 1] from hl.at_ 4 rfl); have v := (show Blk W hb 27 #[.int .i64 (k : Int), .int .i64 1] from hl.at_ 5 rfl); ⟨v.cell 0, v.cell 1, c.cell 0, c.cell 1⟩
        have hS0 := HSM.out _ _ S4.out
        refine wp_region_held_drew (S := fun wx => wx.cell? ⟨hb, 0, none⟩ = some (.int .i64 (k : Int)) ∧ wx.cell? ⟨hb, 1, none⟩ = some (.int .i64 1) ∧ wx.cell? ⟨cb, 0, none⟩ = some (.int .i64 (k : Int)) ∧ wx.cell? ⟨cb, 1, none⟩ = some (.int .i64 1)) (by as_aux_lemma => kernel_rfl) ?_ (fun hHeld => ?_)
        · exact hS0
        refine wpAnyH_read (i := 0) (d := 45) (v := ?_) rfl rfl rfl (by as_aux_lemma => kernel_rfl) (by as_aux_lemma => kernel_rfl) (by as_aux_lemma => kernel_rfl) (fun _ _ _ h => h) hHeld ?_ ?_
        rotate_left
        · intro w hSw
          (try dsimp only at hSw)
          go_simp
          (try with_reducible rfl)
        (try simp only [List.setIfInBounds_toArray, List.set_cons_zero, List.set_cons_succ])
        refine wpAnyH_read (i := 1) (d := 46) (v := ?_) rfl rfl rfl (by as_aux_lemma => kernel_rfl) (by as_aux_lemma => kernel_rfl) (by as_aux_lemma => kernel_rfl) (fun _ _ _ h => h) hHeld ?_ ?_
        rotate_left
        · intro w hSw
          (try dsimp only at hSw)
          go_simp
          (try with_reducible rfl)
        (try simp only [List.setIfInBounds_toArray, List.set_cons_zero, List.set_cons_succ])
        refine wpAnyH_read (i := 4) (d := 49) (v := ?_) rfl rfl rfl (by as_aux_lemma => kernel_rfl) (by as_aux_lemma => kernel_rfl) (by as_aux_lemma => kernel_rfl) (fun _ _ _ h => h) hHeld ?_ ?_
        rotate_left
        · intro w hSw
          (try dsimp only at hSw)
          go_simp
          (try with_reducible rfl)
        (try simp only [List.setIfInBounds_toArray, List.set_cons_zero, List.set_cons_succ])
        refine wpAnyH_read (i := 5) (d := 50) (v := ?_) rfl rfl rfl (by as_aux_lemma => kernel_rfl) (by as_aux_lemma => kernel_rfl) (by as_aux_lemma => kernel_rfl) (fun _ _ _ h => h) hHeld ?_ ?_
        rotate_left
        · intro w hSw
          (try dsimp only at hSw)
          go_simp
          (try with_reducible rfl)
        (try simp only [List.setIfInBounds_toArray, List.set_cons_zero, List.set_cons_succ])
        clear hHeld hS0
        refine wpAnyH_appends0 (B := w.heap.size) (w0 := w) (F := 2) [⟨2, 3, 47, 48, 25, 27, 2, 16, .agg #[.int .i64 0, .int .i64 0], .tmp 45, .tmp 46, u4, rowsR (refsL k), #[.int .i64 (k : Int), .int .i64 1], .agg #[.int .i64 (k : Int), .int .i64 1]⟩, ⟨6, 7, 51, 52, 25, 27, 2, 16, .agg #[.int .i64 0, .int .i64 0], .tmp 49, .tmp 50, u5, rowsR (refsL k), #[.int .i64 (k : Int), .int .i64 1], .agg #[.int .i64 (k : Int), .int .i64 1]⟩] (slotEs t ph pi b n4 lh3 fh3 li4 fi4 ⟨64, hpL (k + 1), []⟩ si4 f4 ++ [blkE cb 27 #[.int .i64 (k : Int), .int .i64 1], blkE hb 27 #[.int .i64 (k : Int), .int .i64 1], tabE 3 1 (.slice (some ⟨ga, 0, none⟩) 12 12) (natRows (List.range k ++ List.replicate (12 - k) 0))]) (by as_aux_lemma => kernel_rfl) S4.out.drew ?hok (by simp [tmps]) ?hS ?hfin
        case hok =>
          intro p' hp
          simp only [List.mem_cons, List.not_mem_nil, or_false] at hp
          rcases hp with rfl | rfl
          · exact ⟨⟨_, rfl, rfl, rfl, rfl⟩, ⟨_, rfl, rfl, rfl, rfl⟩, Try.underlying25, info_ref_, rfl, show 0 < 2 by decide, show 2 ≤ 1000 ∧ 16 ≤ 1000 by decide, hlT, rfl, one_ref _ _, fill_2 _ _ _ _ rfl, by kernel_rfl, by kernel_rfl, by simp [tmps], by simp⟩
          · exact ⟨⟨_, rfl, rfl, rfl, rfl⟩, ⟨_, rfl, rfl, rfl, rfl⟩, Try.underlying25, info_ref_, rfl, show 0 < 2 by decide, show 2 ≤ 1000 ∧ 16 ≤ 1000 by decide, hlT, rfl, one_ref _ _, fill_2 _ _ _ _ rfl, by kernel_rfl, by kernel_rfl, by simp [tmps], by simp⟩
        case hS =>
          intro wx fs hl
          exact HSM.out wx _ hl
        case hfin =>
          intro zs wz hz1 hz2 hl
          obtain ⟨g1, v1, g2, v2, rfl⟩ := fin2 hz1 hz2
          have hSz := HSM.out wz _ hl
          have e1 : rowsR (refsL (k + 1)) = rowsR (refsL k) ++ [[.int .i64 (k : Int), .int .i64 1]] := by rw [refsL_succ]; simp [rowsR]
          have hl2 : Led w.heap.size w wz (slotEs t ph pi b n4 lh3 fh3 li4 fi4 ⟨64, hpL (k + 1), []⟩ si4 f4 ++ [blkE cb 27 #[.int .i64 (k : Int), .int .i64 1], blkE hb 27 #[.int .i64 (k : Int), .int .i64 1], tabE 3 1 (.slice (some ⟨ga, 0, none⟩) 12 12) (natRows (List.range k ++ List.replicate (12 - k) 0)), tabE 27 2 v1 (rowsR (refsL k) ++ [[.int .i64 (k : Int), .int .i64 1]]), tabE 27 2 v2 (rowsR (refsL k) ++ [[.int .i64 (k : Int), .int .i64 1]])]) := hl
          rw [← e1] at hl2
          have S6 : Hid (Led w.heap.size w wz (slotEs t ph pi b n4 lh3 fh3 li4 fi4 ⟨64, hpL (k + 1), []⟩ si4 f4 ++ [tabE 3 1 (.slice (some ⟨ga, 0, none⟩) 12 12) (natRows (List.range k ++ List.replicate (12 - k) 0)), tabE 27 2 v1 (rowsR (refsL (k + 1))), tabE 27 2 v2 (rowsR (refsL (k + 1)))])) := Lib.hid (led_cut (A := slotEs t ph pi b n4 lh3 fh3 li4 fi4 ⟨64, hpL (k + 1), []⟩ si4 f4) (M := [_, _]) hl2)
          clear hl hl2 hz1 hz2 e1
          simp only [foldA, List.foldl_cons, List.foldl_nil, Sta.puts, Act.put, List.setIfInBounds_toArray, List.set_cons_zero, List.set_cons_succ]
          have tr : True := trivial
          have hHeld : (fun wx : World => wx.cell? ⟨hb, 0, none⟩ = some (.int .i64 (k : Int)) ∧ wx.cell? ⟨hb, 1, none⟩ = some (.int .i64 1) ∧ wx.cell? ⟨cb, 0, none⟩ = some (.int .i64 (k : Int)) ∧ wx.cell? ⟨cb, 1, none⟩ = some (.int .i64 1)) wz := hSz
          refine wpAnyH_read (i := 8) (d := 4) (v := ?_) rfl rfl rfl (by as_aux_lemma => kernel_rfl) (by as_aux_lemma => kernel_rfl) (by as_aux_lemma => kernel_rfl) (fun _ _ _ h => h) hHeld ?_ ?_
          rotate_left
          · intro w hSw
            (try dsimp only at hSw)
            go_simp
            (try with_reducible rfl)
          (try simp only [List.setIfInBounds_toArray, List.set_cons_zero, List.set_cons_succ])
          refine wpAnyH_read (i := 9) (d := 5) (v := ?_) rfl rfl rfl (by as_aux_lemma => kernel_rfl) (by as_aux_lemma => kernel_rfl) (by as_aux_lemma => kernel_rfl) (fun _ _ _ h => h) hHeld ?_ ?_
          rotate_left
          · intro w hSw
            (try dsimp only at hSw)
            go_simp
            (try with_reducible rfl)
          (try simp only [List.setIfInBounds_toArray, List.set_cons_zero, List.set_cons_succ])
          refine wpAnyH_done (by as_aux_lemma => kernel_rfl) ?_ _
          clear hHeld hSz
          have hjL : (List.range k ++ List.replicate (12 - k) 0)[k]? = some 0 := by
            rw [List.getElem?_append_right (by simp), List.length_range, Nat.sub_self, show 12 - k = (12 - (k + 1)) + 1 by omega, List.replicate_succ]
            rfl
          have hT : TabIs wz 0 3 1 (.slice (some ⟨ga, 0, none⟩) 12 12) (natRows (List.range k ++ List.replicate (12 - k) 0)) := S6.out.at_ 4 rfl
          have x0 := nat_cell hT hjL
          have fx0 := hT.frozen k
          have S7 := led_nat (A := slotEs t ph pi b n4 lh3 fh3 li4 fi4 ⟨64, hpL (k + 1), []⟩ si4 f4) S6.out hjL k
          have hset : (List.range k ++ List.replicate (12 - k) 0).set k k = (List.range (k + 1) ++ List.replicate (12 - (k + 1)) 0) := by
            rw [List.set_append_right _ _ (by simp), List.length_range, Nat.sub_self, show 12 - k = (12 - (k + 1)) + 1 by omega, List.replicate_succ, List.set_cons_zero, List.range_succ, List.append_assoc]
            rfl
          rw [hset] at S7
          have H7 := Lib.hid S7
          clear S7 hset hT hjL S6 S4
          go_wp2_with fail
          go_roundw
          case rel => exact ⟨k + 1, n4, lh3, fh3, li4, fi4, _, si4, f4, by omega, by go_num, by omega, CU4, H7⟩
          case measure => simp [intOf]; omega
      · obtain rfl : k = 12 := by omega
        clear hlt
        go_wp2_with fail
        go_meet
        case rel => exact ⟨n, lh, fh, li, fi, sh, si, f, CU, ST⟩

  case rest =>
    clear S1
    obtain ⟨n, lh, fh, li, fi, sh, si, f, CU, ST⟩ := hcut
    have hTh : TabIs wc 0 27 2 u4 (rowsR (refsL 12)) := ST.out.at_ 5 rfl
    have hTi : TabIs wc 0 27 2 u5 (rowsR (refsL 12)) := ST.out.at_ 6 rfl
    obtain ⟨Ah, ch, rfl, hch, hAh⟩ := hTh.form
    obtain ⟨Ai, ci, rfl, hci, hAi⟩ := hTi.form
    have hrl : (rowsR (refsL 12)).length = 12 := by rw [rowsR, List.length_map, refsL_len]
    rw [hrl] at hch hAh hci hAi ST ⊢
    obtain ⟨gh, rfl, _, _⟩ := hAh (by omega)
    obtain ⟨gi, rfl, _, _⟩ := hAi (by omega)
    have S1 : Hid (Led w.heap.size w wc (slotEs t ph pi b n lh fh li fi sh si f ++ [tabE 3 1 (.slice (some ⟨ga, 0, none⟩) 12 12) (natRows (List.range 12)), tabE 27 2 (.slice (some ⟨gh, 0, none⟩) 12 ch) (rowsR (refsL 12)), tabE 27 2 (.slice (some ⟨gi, 0, none⟩) 12 ci) (rowsR (refsL 12))])) := ST
    have CI : Hid (ChInv (List.range 12) sh si) := Lib.hid CU.out.done
    clear hTh hTi hAh hAi ST CU
    go_wp2_with fail
    go_loopw [12] (fun q wx => ∃ (i : Nat) (al : List Nat) (fh : Value) (sh si : PSt V3), i ≤ 40 ∧ q = .int .i64 i ∧ Hid (ChInv al sh si) ∧ Hid (Led w.heap.size w wx (slotEs t ph pi b n lh fh li fi sh si f ++ [tabE 3 1 (.slice (some ⟨ga, 0, none⟩) 12 12) (natRows al), tabE 27 2 (.slice (some ⟨gh, 0, none⟩) 12 ch) (rowsR (refsL 12)), tabE 27 2 (.slice (some ⟨gi, 0, none⟩) 12 ci) (rowsR (refsL 12))]))) (fun q _ => 40 - (intOf q).toNat)
    case atStart => exact ⟨0, _, fh, sh, si, by omega, rfl, CI, S1⟩
    case round =>
      clear S1 CI
      obtain ⟨i, al, fh, sh, si, hi, rfl, CI, ST⟩ := hrel
      by_cases hlt : i + 1 < n1 ∧ i < 40
      · obtain ⟨hlt1, hlt2⟩ := hlt
        obtain ⟨bt, off, rfl, hbt, hcell⟩ := HA1.out (by omega)
        have gb1 := HG1.out i (by omega)
        have gb2 := HG1.out (i + 1) (by omega)
        have bd1 := within_bd (G1 i) 0 11 (by omega)
        have bd2 := within_bd (G1 (i + 1)) 0 11 (by omega)
        obtain ⟨ma, hma⟩ : ∃ m : Nat, within (G1 i) 0 11 = (m : Int) := ⟨(within (G1 i) 0 11).toNat, by omega⟩
        obtain ⟨mb, hmb⟩ : ∃ m : Nat, within (G1 (i + 1)) 0 11 = (m : Int) := ⟨(within (G1 (i + 1)) 0 11).toNat, by omega⟩
        rw [hma] at bd1
        rw [hmb] at bd2
        have HMA := Lib.hid hma
        have HMB := Lib.hid hmb
        have hal := CI.out.len
        obtain ⟨a, ha⟩ : ∃ a, al[ma]? = some a := ⟨_, List.getElem?_eq_getElem (by omega)⟩
        obtain ⟨b2, hb2⟩ : ∃ a, al[mb]? = some a := ⟨_, List.getElem?_eq_getElem (by omega)⟩
        have ma12 := CI.out.lt a (List.mem_of_getElem? ha)
        have mb12 := CI.out.lt b2 (List.mem_of_getElem? hb2)
        have HA := Lib.hid (List.mem_of_getElem? ha)
        have HB := Lib.hid (List.mem_of_getElem? hb2)
        have HS : Hid (∀ W, Chg [] wr W → W.cell? ⟨bt, off + i, none⟩ = some (.int .i64 (G1 i)) ∧ W.cell? ⟨bt, off + (i + 1), none⟩ = some (.int .i64 (G1 (i + 1))) ∧ W.cell? ⟨ga, ma, none⟩ = some (.int .i64 (a : Int)) ∧ W.cell? ⟨ga, mb, none⟩ = some (.int .i64 (b2 : Int))) :=
          Lib.hid fun W hW => have hb := hW.below (by simp) (Nat.le_refl _); have hl := ST.out.later hb; have hT := (show TabIs W 0 3 1 (.slice (some ⟨ga, 0, none⟩) 12 12) (natRows al) from hl.at_ 4 rfl); ⟨(hl.be.cell (p := ⟨bt, off + i, none⟩) hbt).trans (hcell i (by omega)), (hl.be.cell (p := ⟨bt, off + (i + 1), none⟩) hbt).trans (hcell (i + 1) (by omega)), nat_cell hT ha, nat_cell hT hb2⟩
        have p1 : (0 : Int) ≤ (i : Int) := by omega
        have p2 : (i : Int) < n1 := by omega
        have p3 : (0 : Int) ≤ (i : Int) + 1 := by omega
        have p4 : (i : Int) + 1 < n1 := by omega
        have p5 : IntKind.i64.wrap ((i : Int) + 1) = (i : Int) + 1 := by rw [IntKind.wrap_i64]; omega
        have p6 : (0 : Int) ≤ (ma : Int) := by omega
        have p7 : (ma : Int) < 12 := by omega
        have p8 : (0 : Int) ≤ (mb : Int) := by omega
        have p9 : (mb : Int) < 12 := by omega
        clear hma hmb ha hb2 hcell
        go_upto_region 18 with fail
        go_region_held3 (fun wx => wx.cell? ⟨bt, off + i, none⟩ = some (.int .i64 (G1 i)) ∧ wx.cell? ⟨bt, off + (i + 1), none⟩ = some (.int .i64 (G1 (i + 1))) ∧ wx.cell? ⟨ga, ma, none⟩ = some (.int .i64 (a : Int)) ∧ wx.cell? ⟨ga, mb, none⟩ = some (.int .i64 (b2 : Int))) ((refine HS.out _ ?_; (repeat' first | with_reducible exact Chg.refl _ _ | with_reducible refine Chg.drew ?_ | with_reducible refine Chg.drewN ?_ _ | with_reducible refine Chg.alloc ?_ _ | with_reducible refine Chg.setCell ?_ ?_ _ | (left; simp; done) | (right; exact Nat.le_refl _) | (right; dsimp only; omega)); done)) ((go_at_call 10; refine Calls.mono (within_any _ 0 11 _ (by omega) (by omega) (by omega) (by omega) (by omega)) ?_; (first | rw [HMA.out] | rw [HMB.out]); rintro e w3 ⟨rfl, rfl⟩))
        have S2 := Lib.hid ST.out.drew
        clear HS
        go_upto_region 19 with fail
        generalize wr.drew = wy at S2 ⊢
        have HS : Hid (∀ W, Chg [] wy W → W.cell? ⟨gh, a * 2, none⟩ = some (.int .i64 (a : Int)) ∧ W.cell? ⟨gh, a * 2 + 1, none⟩ = some (.int .i64 1) ∧ W.cell? ⟨gh, b2 * 2, none⟩ = some (.int .i64 (b2 : Int)) ∧ W.cell? ⟨gh, b2 * 2 + 1, none⟩ = some (.int .i64 1)) :=
          Lib.hid fun W hW => have hl := S2.out.later (hW.below (by simp) (Nat.le_refl _)); have hT := (show TabIs W 0 27 2 (.slice (some ⟨gh, 0, none⟩) 12 ch) (rowsR (refsL 12)) from hl.at_ 5 rfl); ⟨hT.cell (j := 0) (r := [.int .i64 (a : Int), .int .i64 1]) (by rw [rowsR, List.getElem?_map, refsL_at (by omega)]; rfl) rfl, hT.cell (j := 1) (r := [.int .i64 (a : Int), .int .i64 1]) (by rw [rowsR, List.getElem?_map, refsL_at (by omega)]; rfl) rfl, hT.cell (j := 0) (r := [.int .i64 (b2 : Int), .int .i64 1]) (by rw [rowsR, List.getElem?_map, refsL_at (by omega)]; rfl) rfl, hT.cell (j := 1) (r := [.int .i64 (b2 : Int), .int .i64 1]) (by rw [rowsR, List.getElem?_map, refsL_at (by omega)]; rfl) rfl⟩
        have r1 : (0 : Int) ≤ (a : Int) := by omega
        have r2 : (a : Int) < 12 := by omega
        have r3 : (0 : Int) ≤ (b2 : Int) := by omega
        have r4 : (b2 : Int) < 12 := by omega
        go_region_held3 (fun wx => wx.cell? ⟨gh, a * 2, none⟩ = some (.int .i64 (a : Int)) ∧ wx.cell? ⟨gh, a * 2 + 1, none⟩ = some (.int .i64 1) ∧ wx.cell? ⟨gh, b2 * 2, none⟩ = some (.int .i64 (b2 : Int)) ∧ wx.cell? ⟨gh, b2 * 2 + 1, none⟩ = some (.int .i64 1)) (first | (refine HS.out _ ?_; (repeat' first | with_reducible exact Chg.refl _ _ | with_reducible refine Chg.drew ?_ | with_reducible refine Chg.drewN ?_ _ | with_reducible refine Chg.alloc ?_ _ | with_reducible refine Chg.setCell ?_ ?_ _ | (left; simp; done) | (right; exact Nat.le_refl _) | (right; dsimp only; omega)); done) | (refine HS2.out _ ?_; (repeat' first | with_reducible exact Chg.refl _ _ | with_reducible refine Chg.drew ?_ | with_reducible refine Chg.drewN ?_ _ | with_reducible refine Chg.alloc ?_ _ | with_reducible refine Chg.setCell ?_ ?_ _ | (left; simp; done) | (right; exact Nat.le_refl _) | (right; dsimp only; omega)); done)) ((go_at_call 11; refine Calls.mono (slots_join w.heap.size t ph pi b n lh fh li fi sh si f w _ _ (a : Int) 1 (b2 : Int) 1 CI.out.gens S2.out.drew) ?_; rintro e w2 ⟨e0, fh2, sh2, si2, rfl, q1, q2⟩; obtain ⟨he, hci⟩ := CI.out.join HA.out HB.out q1; have CI2 := Lib.hid hci; have S3 : Hid (Led w.heap.size w w2 (slotEs t ph pi b n lh fh2 li fi sh2 si2 f ++ [tabE 3 1 (.slice (some ⟨ga, 0, none⟩) 12 12) (natRows al), tabE 27 2 (.slice (some ⟨gh, 0, none⟩) 12 ch) (rowsR (refsL 12)), tabE 27 2 (.slice (some ⟨gi, 0, none⟩) 12 ci) (rowsR (refsL 12))])) := Lib.hid q2; have HS2 : Hid (∀ W, Chg [] w2 W → W.cell? ⟨gh, a * 2, none⟩ = some (.int .i64 (a : Int)) ∧ W.cell? ⟨gh, a * 2 + 1, none⟩ = some (.int .i64 1) ∧ W.cell? ⟨gh, b2 * 2, none⟩ = some (.int .i64 (b2 : Int)) ∧ W.cell? ⟨gh, b2 * 2 + 1, none⟩ = some (.int .i64 1)) := Lib.hid (fun W hW => have hl := S3.out.later (hW.below (by simp) (Nat.le_refl _)); have hT := (show TabIs W 0 27 2 (.slice (some ⟨gh, 0, none⟩) 12 ch) (rowsR (refsL 12)) from hl.at_ 5 rfl); ⟨hT.cell (j := 0) (r := [.int .i64 (a : Int), .int .i64 1]) (by rw [rowsR, List.getElem?_map, refsL_at (by omega)]; rfl) rfl, hT.cell (j := 1) (r := [.int .i64 (a : Int), .int .i64 1]) (by rw [rowsR, List.getElem?_map, refsL_at (by omega)]; rfl) rfl, hT.cell (j := 0) (r := [.int .i64 (b2 : Int), .int .i64 1]) (by rw [rowsR, List.getElem?_map, refsL_at (by omega)]; rfl) rfl, hT.cell (j := 1) (r := [.int .i64 (b2 : Int), .int .i64 1]) (by rw [rowsR, List.getElem?_map, refsL_at (by omega)]; rfl) rfl⟩); obtain ⟨qq, hqq⟩ : ∃ qq : Bool, (a != b2) = qq := ⟨_, rfl⟩; rw [hqq] at he; have he2 : ((a : Int) != (b2 : Int)) = qq := (by rw [← hqq, Bool.eq_iff_iff, bne_iff_ne, bne_iff_ne]; omega); have he3 : (qq != qq) = false := (by cases qq <;> rfl); clear q1 q2 hci hqq))
        have hlM : (al.map (subH a b2)).length = al.length := by simp
        clear HS he2 he3 S2 ST CI
        go_wp2_with fail
        go_loopw [15] (fun q wx => ∃ k : Nat, k ≤ 12 ∧ q = .int .i64 k ∧ Hid (Led w.heap.size w wx (slotEs t ph pi b n lh fh2 li fi sh2 si2 f ++ [tabE 3 1 (.slice (some ⟨ga, 0, none⟩) 12 12) (natRows ((al.map (subH a b2)).take k ++ al.drop k)), tabE 27 2 (.slice (some ⟨gh, 0, none⟩) 12 ch) (rowsR (refsL 12)), tabE 27 2 (.slice (some ⟨gi, 0, none⟩) 12 ci) (rowsR (refsL 12))]))) (fun q _ => 12 - (intOf q).toNat)
        case atStart => exact ⟨0, by omega, rfl, S3⟩
        case round =>
          clear S3
          obtain ⟨k, hk, rfl, S⟩ := hrel
          by_cases hk2 : k < 12
          · obtain ⟨m0, hm0⟩ : ∃ a, al[k]? = some a := ⟨_, List.getElem?_eq_getElem (by omega)⟩
            have hM : (al.map (subH a b2))[k]? = some (subH a b2 m0) := by rw [List.getElem?_map, hm0]; rfl
            have hat := (turn_at hlM (show k < al.length by omega)).trans hm0
            have hT : TabIs wr 0 3 1 (.slice (some ⟨ga, 0, none⟩) 12 12) (natRows ((al.map (subH a b2)).take k ++ al.drop k)) := S.out.at_ 4 rfl
            have y0 := nat_cell hT hat
            have fy0 := hT.frozen k
            have ly0 := (hT.lt ga (by simp [Value.ownBlock])).2
            have s1 : (0 : Int) ≤ (k : Int) := by omega
            have s2 : (k : Int) < 12 := by omega
            clear hT
            by_cases hmb : m0 = b2
            · have hb : ((m0 : Int) == (b2 : Int)) = true := by simp [hmb]
              have S5 := led_nat (A := slotEs t ph pi b n lh fh2 li fi sh2 si2 f) S.out hat a
              have hsub : subH a b2 m0 = a := by unfold subH; rw [if_pos hmb]
              rw [hsub] at hM
              rw [turn_set hlM (by omega) hM] at S5
              have S6 := Lib.hid S5
              clear S5 S hat
              go_upto_region 26 with fail
              generalize wr.setCell ⟨ga, k, none⟩ (.int .i64 (a : Int)) = wy at S6 ⊢
              have hTi : TabIs wy 0 27 2 (.slice (some ⟨gi, 0, none⟩) 12 ci) (rowsR (refsL 12)) := S6.out.at_ 6 rfl
              have z0 : wy.cell? ⟨gi, k * 2, none⟩ = some (.int .i64 (k : Int)) := hTi.cell (j := 0) (r := [.int .i64 (k : Int), .int .i64 1]) (by rw [rowsR, List.getElem?_map, refsL_at (by omega)]; rfl) rfl
              have z1 : wy.cell? ⟨gi, k * 2 + 1, none⟩ = some (.int .i64 1) := hTi.cell (j := 1) (r := [.int .i64 (k : Int), .int .i64 1]) (by rw [rowsR, List.getElem?_map, refsL_at (by omega)]; rfl) rfl
              clear hTi
              go_wp2_with fail
              refine Calls.mono (slots_of w.heap.size t ph pi b n lh fh2 li fi sh2 si2 f w _ _ (k : Int) 1 S6.out) ?_
              rintro e w3 ⟨v, e0, rfl, q1, q2⟩
              have hx : si2.l[k]? = some ⟨1, true, ⟨100 + (k : Int), (a : Int), 1⟩⟩ := by rw [CI2.out.items]; show (itL _)[k]? = _; rw [itL_get, hM]; rfl
              obtain ⟨rfl, hv⟩ := GetR.ok hx rfl (Int.le_refl 1) q1
              have hvb : v.b = (a : Int) := by rw [hv]
              have hvc : v.c = 1 := by rw [hv]
              rw [hvb, hvc]
              have S7 : Hid (Led w.heap.size w (w3.alloc (.cells #[.int .i64 (a : Int), .int .i64 1] 27)) (slotEs t ph pi b n lh fh2 li fi sh2 si2 f ++ [blkE w3.heap.size 27 #[.int .i64 (a : Int), .int .i64 1], tabE 3 1 (.slice (some ⟨ga, 0, none⟩) 12 12) (natRows ((al.map (subH a b2)).take (k + 1) ++ al.drop (k + 1))), tabE 27 2 (.slice (some ⟨gh, 0, none⟩) 12 ch) (rowsR (refsL 12)), tabE 27 2 (.slice (some ⟨gi, 0, none⟩) 12 ci) (rowsR (refsL 12))])) := Lib.hid (led_new (A := slotEs t ph pi b n lh fh2 li fi sh2 si2 f) q2)
              have hat2 := turn_now hlM (show k < al.length by omega) hM
              have mM := CI2.out.lt _ (List.mem_of_getElem? hM)
              clear q1 q2 S6 hx hv hvb hvc z0 z1 hM
              go_upto_region 27 with fail
              generalize w3.alloc (.cells #[.int .i64 (a : Int), .int .i64 1] 27) = w5 at S7 ⊢
              generalize w3.heap.size = ob at S7 ⊢
              have hB : Blk w5 ob 27 #[.int .i64 (a : Int), .int .i64 1] := S7.out.at_ 4 rfl
              have hA : TabIs w5 0 3 1 (.slice (some ⟨ga, 0, none⟩) 12 12) (natRows ((al.map (subH a b2)).take (k + 1) ++ al.drop (k + 1))) := S7.out.at_ 5 rfl
              have hT : TabIs w5 0 27 2 (.slice (some ⟨gh, 0, none⟩) 12 ch) (rowsR (refsL 12)) := S7.out.at_ 6 rfl
              have b0 : w5.cell? ⟨ob, 0, none⟩ = some (.int .i64 (a : Int)) := hB.cell 0
              have b1 : w5.cell? ⟨ob, 1, none⟩ = some (.int .i64 1) := hB.cell 1
              have y1 := nat_cell hA hat2
              have t0 : w5.cell? ⟨gh, a * 2, none⟩ = some (.int .i64 (a : Int)) := hT.cell (j := 0) (r := [.int .i64 (a : Int), .int .i64 1]) (by rw [rowsR, List.getElem?_map, refsL_at (by omega)]; rfl) rfl
              have t1 : w5.cell? ⟨gh, a * 2 + 1, none⟩ = some (.int .i64 1) := hT.cell (j := 1) (r := [.int .i64 (a : Int), .int .i64 1]) (by rw [rowsR, List.getElem?_map, refsL_at (by omega)]; rfl) rfl
              have s3 : (0 : Int) ≤ (a : Int) := by omega
              have s4 : (a : Int) < 12 := by omega
              have rq := ref_neq
              have hre : refEq (a : Int) 1 (a : Int) 1 = true := refEq_true.2 ⟨rfl, rfl⟩
              clear hB hA hT hat2
              go_quiet (fail)
              go_wp2_with fail
              go_roundw
              case rel => exact ⟨k + 1, by omega, by go_num, Lib.hid ((led_drop (A := slotEs t ph pi b n lh fh2 li fi sh2 si2 f) S7.out).drewN _)⟩
              case measure => simp [intOf]; omega
            · have hb : ((m0 : Int) == (b2 : Int)) = false := by rw [beq_eq_false_iff_ne]; omega
              have hsub : subH a b2 m0 = m0 := by unfold subH; rw [if_neg hmb]
              rw [hsub] at hM
              have hsame := turn_same hlM (show k < al.length by omega) hM hm0
              rw [hsame] at S
              have S6 := S
              clear hat hsame S
              go_upto_region 26 with fail
              generalize wr = wy at S6 ⊢
              have hTi : TabIs wy 0 27 2 (.slice (some ⟨gi, 0, none⟩) 12 ci) (rowsR (refsL 12)) := S6.out.at_ 6 rfl
              have z0 : wy.cell? ⟨gi, k * 2, none⟩ = some (.int .i64 (k : Int)) := hTi.cell (j := 0) (r := [.int .i64 (k : Int), .int .i64 1]) (by rw [rowsR, List.getElem?_map, refsL_at (by omega)]; rfl) rfl
              have z1 : wy.cell? ⟨gi, k * 2 + 1, none⟩ = some (.int .i64 1) := hTi.cell (j := 1) (r := [.int .i64 (k : Int), .int .i64 1]) (by rw [rowsR, List.getElem?_map, refsL_at (by omega)]; rfl) rfl
              clear hTi
              go_wp2_with fail
              refine Calls.mono (slots_of w.heap.size t ph pi b n lh fh2 li fi sh2 si2 f w _ _ (k : Int) 1 S6.out) ?_
              rintro e w3 ⟨v, e0, rfl, q1, q2⟩
              have hx : si2.l[k]? = some ⟨1, true, ⟨100 + (k : Int), (m0 : Int), 1⟩⟩ := by rw [CI2.out.items]; show (itL _)[k]? = _; rw [itL_get, hM]; rfl
              obtain ⟨rfl, hv⟩ := GetR.ok hx rfl (Int.le_refl 1) q1
              have hvb : v.b = (m0 : Int) := by rw [hv]
              have hvc : v.c = 1 := by rw [hv]
              rw [hvb, hvc]
              have S7 : Hid (Led w.heap.size w (w3.alloc (.cells #[.int .i64 (m0 : Int), .int .i64 1] 27)) (slotEs t ph pi b n lh fh2 li fi sh2 si2 f ++ [blkE w3.heap.size 27 #[.int .i64 (m0 : Int), .int .i64 1], tabE 3 1 (.slice (some ⟨ga, 0, none⟩) 12 12) (natRows ((al.map (subH a b2)).take (k + 1) ++ al.drop (k + 1))), tabE 27 2 (.slice (some ⟨gh, 0, none⟩) 12 ch) (rowsR (refsL 12)), tabE 27 2 (.slice (some ⟨gi, 0, none⟩) 12 ci) (rowsR (refsL 12))])) := Lib.hid (led_new (A := slotEs t ph pi b n lh fh2 li fi sh2 si2 f) q2)
              have hat2 := turn_now hlM (show k < al.length by omega) hM
              have mM := CI2.out.lt _ (List.mem_of_getElem? hM)
              clear q1 q2 S6 hx hv hvb hvc z0 z1 hM
              go_upto_region 27 with fail
              generalize w3.alloc (.cells #[.int .i64 (m0 : Int), .int .i64 1] 27) = w5 at S7 ⊢
              generalize w3.heap.size = ob at S7 ⊢
              have hB : Blk w5 ob 27 #[.int .i64 (m0 : Int), .int .i64 1] := S7.out.at_ 4 rfl
              have hA : TabIs w5 0 3 1 (.slice (some ⟨ga, 0, none⟩) 12 12) (natRows ((al.map (subH a b2)).take (k + 1) ++ al.drop (k + 1))) := S7.out.at_ 5 rfl
              have hT : TabIs w5 0 27 2 (.slice (some ⟨gh, 0, none⟩) 12 ch) (rowsR (refsL 12)) := S7.out.at_ 6 rfl
              have b0 : w5.cell? ⟨ob, 0, none⟩ = some (.int .i64 (m0 : Int)) := hB.cell 0
              have b1 : w5.cell? ⟨ob, 1, none⟩ = some (.int .i64 1) := hB.cell 1
              have y1 := nat_cell hA hat2
              have t0 : w5.cell? ⟨gh, m0 * 2, none⟩ = some (.int .i64 (m0 : Int)) := hT.cell (j := 0) (r := [.int .i64 (m0 : Int), .int .i64 1]) (by rw [rowsR, List.getElem?_map, refsL_at (by omega)]; rfl) rfl
              have t1 : w5.cell? ⟨gh, m0 * 2 + 1, none⟩ = some (.int .i64 1) := hT.cell (j := 1) (r := [.int .i64 (m0 : Int), .int .i64 1]) (by rw [rowsR, List.getElem?_map, refsL_at (by omega)]; rfl) rfl
              have s3 : (0 : Int) ≤ (m0 : Int) := by omega
              have s4 : (m0 : Int) < 12 := by omega
              have rq := ref_neq
              have hre : refEq (m0 : Int) 1 (m0 : Int) 1 = true := refEq_true.2 ⟨rfl, rfl⟩
              clear hB hA hT hat2
              go_quiet (fail)
              go_wp2_with fail
              go_roundw
              case rel => exact ⟨k + 1, by omega, by go_num, Lib.hid ((led_drop (A := slotEs t ph pi b n lh fh2 li fi sh2 si2 f) S7.out).drewN _)⟩
              case measure => simp [intOf]; omega
          · obtain rfl : k = 12 := by omega
            clear hk2
            rw [List.take_of_length_le (by omega), List.drop_of_length_le (by omega), List.append_nil] at S
            go_wp2_with fail
            go_roundw
            case rel => exact ⟨i + 1, al.map (subH a b2), fh2, sh2, si2, by omega, by go_num, CI2, S⟩
            case measure => simp [intOf]; omega
      · by_cases hlt1 : i + 1 < n1
        · obtain rfl : i = 40 := by omega
          clear hlt
          go_wp2_with fail
          refine Calls.mono (slots_known wr) ?_
          rintro e w2 ⟨rfl, q1⟩
          go_wp2_with fail
          exact hR.out _ _ ⟨rfl, bel_trans ST.out.be q1⟩
        · have hd : decide ((i : Int) + 1 < n1) = false := by simp; omega
          clear hlt
          go_wp2_with fail
          refine Calls.mono (slots_known wr) ?_
          rintro e w2 ⟨rfl, q1⟩
          go_wp2_with fail
          exact hR.out _ _ ⟨rfl, bel_trans ST.out.be q1⟩

end Go.Proofs.Ytognmhgdegpdiaa
