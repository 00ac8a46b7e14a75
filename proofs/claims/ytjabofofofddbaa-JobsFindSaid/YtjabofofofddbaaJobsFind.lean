/- JobsFind: the walk. -/
import Derived.Test.YtjabofofofddbaaJobsKnown
import Derived.Test.YtjabofofofddbaaBook
namespace Go.Proofs.Ytjabofofofddbaa
open Go.RowKit
set_option linter.unusedVariables false
set_option linter.unusedSimpArgs false
set_option maxRecDepth 100000

def refsL (k : Nat) : List (Int × Int) := (List.range k).map fun (i : Nat) => ((i : Int), (1 : Int))
theorem refsL_succ (k : Nat) : refsL (k + 1) = refsL k ++ [((k : Int), 1)] := by simp [refsL, List.range_succ]
theorem refsL_len (k : Nat) : (refsL k).length = k := by simp [refsL]
theorem refsL_at {k i : Nat} (h : i < k) : (refsL k)[i]? = some ((i : Int), 1) := by simp [refsL, h]
def boolRows (L : List Bool) : List (List Value) := L.map fun b => [Value.bool b]
theorem boolRows_len (L : List Bool) : (boolRows L).length = L.length := by simp [boolRows]
theorem tab_made (w : World) (n : Nat) (hn : n ≤ 1000000) : TabIs (w.alloc (.cells (madeCells #[Value.bool false] n) 4)) 0 4 1 (.slice (some ⟨w.heap.size, 0, none⟩) n n) (boolRows (List.replicate n false)) := by
  have hs : (madeCells #[Value.bool false] n).size = n := size_madeCells _ _
  refine ⟨(madeCells #[Value.bool false] n).toList, ?_, ?_, ?_⟩
  · rw [boolRows_len, List.length_replicate]
    refine ⟨by simp [hs], .inr ⟨w.heap.size, n, _, rfl, Nat.zero_le _, Blk.new w _ _, Nat.le_refl _, by unfold maxLen; omega, by simp [hs], ?_⟩⟩
    rw [List.take_of_length_le (by simp [hs])]
  · intro c hc
    obtain ⟨b, _, rfl⟩ := List.mem_map.1 hc
    rfl
  · intro i c hi j u hj
    rw [boolRows, List.map_replicate] at hi
    obtain ⟨hi1, hi2⟩ := List.getElem?_eq_some_iff.1 hi
    simp at hi1 hi2
    subst hi2
    have : j = 0 := by have := (List.getElem?_eq_some_iff.1 hj).1; simpa using this
    subst this
    simp at hj
    subst hj
    simp [madeCells, hi1, Nat.mod_one]

section
variable {B : Nat} {w0 w : World} {A C : List Ent} {g n c i : Nat} {L : List Bool} {q : Bool}
theorem led_bool (h : Led B w0 w (A ++ tabE 4 1 (.slice (some ⟨g, 0, none⟩) n c) (boolRows L) :: C)) (hi : L[i]? = some q) (b : Bool) : Led B w0 (w.setCell ⟨g, i, none⟩ (.bool b)) (A ++ tabE 4 1 (.slice (some ⟨g, 0, none⟩) n c) (boolRows (L.set i b)) :: C) := by
  have hT : TabIs w 0 4 1 (.slice (some ⟨g, 0, none⟩) n c) (boolRows L) := h.mem
  have h1 := hT.set (i := i) (j := 0) (r := [.bool q]) (.bool b) (by rw [boolRows, List.getElem?_map, hi]; rfl) (by decide)
  rw [Nat.mul_one, Nat.add_zero] at h1
  exact h.mid _ ((Chg.refl _ _).setCell (p := ⟨g, i, none⟩) (.inl (by simp [tabE, Value.ownBlock])) (.bool b)) (by simpa [tabE, boolRows, List.map_set] using h1) (Fresh.refl _ _)
theorem bool_cell (h : TabIs w 0 4 1 (.slice (some ⟨g, 0, none⟩) n c) (boolRows L)) (hi : L[i]? = some q) : w.cell? ⟨g, i, none⟩ = some (.bool q) :=
  tab1_cell h (by rw [boolRows, List.getElem?_map, hi]; rfl)
end

set_option maxHeartbeats 16000000 in
theorem jobs_find (A1 A2 : Option Addr) (n1 n2 c1 c2 : Nat) (G1 G2 : Nat → Int) (w : World) (hn1 : n1 ≤ 9223372036854775807) (hn2 : n2 ≤ 9223372036854775807)
    (hA1 : SlArg w w.heap.size A1 n1 1 fun j => .int .i64 (G1 j)) (hA2 : SlArg w w.heap.size A2 n2 1 fun j => .int .i64 (G2 j))
    (hG1 : ∀ j, j < n1 → -9223372036854775808 ≤ G1 j ∧ G1 j ≤ 9223372036854775807) (hG2 : ∀ j, j < n2 → -9223372036854775808 ≤ G2 j ∧ G2 j ≤ 9223372036854775807) :
    Calls Try.prog 11 #[.slice A1 n1 c1, .slice A2 n2 c2] w fun e w' => e = .returned (.bool true) ∧ Below w.heap.size w w' := by
  have HA1 := Lib.hid hA1; clear hA1
  have HA2 := Lib.hid hA2; clear hA2
  have HG1 := Lib.hid hG1; clear hG1
  have HG2 := Lib.hid hG2; clear hG2
  refine callsR fun R hR => ?_
  go_enter Try.func11, Try.ntmps11
  go_wp2_with fail
  refine Calls.mono (jobs_new 30 30 w.heap.size w w [] (Led.none_ (Below.refl _ _) (Nat.le_refl _)) (by decide)) ?_
  rintro e w1 ⟨t, p, b, rfl, q1⟩
  have S1 : Hid (Led w.heap.size w w1 (jobEs t p b 0 (.slice none 0 0) (.slice none 0 0) ⟨30, [], []⟩ (fun _ => none) ++ [tabE 57 2 (.slice none 0 0) (rowsR (refsL 0))])) := Lib.hid (Led.insert (es := jobEs t p b 0 (.slice none 0 0) (.slice none 0 0) ⟨30, [], []⟩ (fun _ => none)) (fs := []) q1 _ (Below.refl _ _) (TabIs.nil _ _ _ _) (by simp [tabE, Value.ownBlock]))
  clear q1
  go_upto_block 0 with fail
  go_cut [6, 7, 8, 9] (fun r i _ _ wx => ∃ (k n : Nat) (lv fv : Value) (s : PSt V5) (f : Int × Int → Option (Int × Int)), k ≤ 25 ∧ k ≤ n1 ∧ n ≤ k ∧ Hid (FindInv G1 (List.replicate k true) s f) ∧ Hid (s.free = []) ∧ Hid (Led w.heap.size w wx (jobEs t p b n lv fv s f ++ [tabE 57 2 r (rowsR (refsL k))])))
  case first =>
    go_wp2_with fail
    go_loopw [6, 7] (fun r i wx => ∃ (k n : Nat) (lv fv : Value) (s : PSt V5) (f : Int × Int → Option (Int × Int)), k ≤ 25 ∧ k ≤ n1 ∧ i = .int .i64 k ∧ n ≤ k ∧ Hid (FindInv G1 (List.replicate k true) s f) ∧ Hid (s.free = []) ∧ Hid (Led w.heap.size w wx (jobEs t p b n lv fv s f ++ [tabE 57 2 r (rowsR (refsL k))]))) (fun _ i _ => 25 - (intOf i).toNat)
    case atStart => exact ⟨0, 0, _, _, _, _, by omega, by omega, rfl, by omega, Lib.hid (FindInv.start G1), Lib.hid rfl, S1⟩
    case round =>
      clear S1
      obtain ⟨k, n, lv, fv, s, f, hk, hkn, rfl, hn, FI, SF, ST⟩ := hrel
      by_cases hlt : k < n1 ∧ k < 25
      · obtain ⟨hlt1, hlt2⟩ := hlt
        obtain ⟨bt, off, rfl, hbt, hcell⟩ := HA1.out (by omega)
        have x0 : wr.cell? ⟨bt, off + k, none⟩ = some (.int .i64 (G1 k)) := (ST.out.be.cell (p := ⟨bt, off + k, none⟩) hbt).trans (hcell k (by omega))
        have gb := HG1.out k (by omega)
        have hT : TabIs wr 0 57 2 u6 (rowsR (refsL k)) := ST.out.at_ 3 rfl
        have hll : (rowsR (refsL k)).length ≤ 1000000000 := by rw [rowsR, List.length_map, refsL_len]; omega
        clear hcell
        go_wp2_with fail
        refine Calls.mono (jobs_add w.heap.size t p b n lv fv s f w _ _ (jobI G1 k) (by unfold in64 jobI; simp only; omega) (by omega) ST.out) ?_
        rintro e w2 ⟨a, g, e0, lv2, fv2, s2, f2, m2, rfl, q1, q2, q3⟩
        rw [show k = (List.replicate k true).length by simp] at q1
        obtain ⟨rfl, rfl, rfl, hf2, hfi⟩ := FI.out.add SF.out (by simpa using hlt2) q1
        rw [List.length_replicate] at *
        rw [← List.replicate_succ'] at hfi
        have S2 := Lib.hid (q3.alloc (.cells #[.int .i64 k, .int .i64 1] 57))
        have FI2 := Lib.hid hfi
        have SF2 := Lib.hid hf2
        have hT2 : TabIs w2 0 57 2 u6 (rowsR (refsL k)) := q3.at_ 3 rfl
        have HT2 := Lib.hid hT2
        clear q1 q3 hfi hf2 hT2 hT ST FI SF x0
        go_wp2_with (at_builtin; refine wpList_push (by rfl) (.tmp 54) (.tmp 56) 54 (by rfl) 0 57 _ 2 16 Try.underlying54 info_ref_ (by rfl) (by decide) u6 _ #[.int .i64 k, .int .i64 1] (by rfl) (by exact HT2.out.alloc _) (by rw [World.size_alloc]; rfl) (by rfl) (one_ref _ _) hll (by decide) (Nat.zero_le _) ?_; intro v' w' q1 q2 q3)
        have S3 := Lib.hid (S2.out.step 3 rfl (tabE 57 2 v' (rowsR (refsL (k + 1)))) q2 (by rw [refsL_succ]; simpa [rowsR, tabE] using q1) q3)
        clear q1 q2 q3
        go_roundw
        case rel => exact ⟨k + 1, m2, _, _, _, _, by omega, by omega, by go_num, by omega, FI2, SF2, S3⟩
        case measure => simp [intOf]; omega
      · by_cases hlt1 : k < n1
        · obtain rfl : k = 25 := by omega
          clear hlt
          go_wp2_with fail
          go_meet
          case rel => exact ⟨25, n, lv, fv, s, f, by omega, by omega, by omega, FI, SF, ST⟩
        · have hd : decide ((k : Int) < n1) = false := by simp; omega
          clear hlt
          go_wp2_with fail
          go_meet
          case rel => exact ⟨k, n, lv, fv, s, f, by omega, by omega, by omega, FI, SF, ST⟩
  case rest =>
    clear S1
    obtain ⟨k, n, lv, fv, s, f, hk, hkn, hn, FI, _, ST⟩ := hcut
    have hT : TabIs wc 0 57 2 u6 (rowsR (refsL k)) := ST.out.at_ 3 rfl
    obtain ⟨At, ct, hu6, hct, hAt⟩ := hT.form
    have hrl : (rowsR (refsL k)).length = k := by rw [rowsR, List.length_map, refsL_len]
    rw [hrl] at hu6 hct hAt
    subst hu6
    have hmk : ∀ W : World, (Instr.makeSlice 33 (.int .i64 (k : Int)) (.int .i64 (k : Int))).run Try.prog W = .ok (.slice (some ⟨W.heap.size, 0, none⟩) k k) (W.alloc (.cells (madeCells #[Value.bool false] k) 4)) := fun W => run_make_row' (P := Try.prog) 33 4 (.bool false) 1 Try.underlying33 info_bool_ rfl .i64 .i64 k (by omega) (by omega) W
    have S2 : Hid (Led w.heap.size w (wc.alloc (.cells (madeCells #[Value.bool false] k) 4)) (jobEs t p b n lv fv s f ++ [tabE 57 2 (.slice At k ct) (rowsR (refsL k)), tabE 4 1 (.slice (some ⟨wc.heap.size, 0, none⟩) k k) (boolRows (List.replicate k false))])) :=
      Lib.hid (Led.insert (es := jobEs t p b n lv fv s f ++ [tabE 57 2 (.slice At k ct) (rowsR (refsL k))]) (fs := []) ST.out _ (bel_alloc (bel_refl wc) _) (tab_made wc k (by omega)) (by simp [tabE, Value.ownBlock]))
    obtain ⟨gb, hgb⟩ : ∃ gb, wc.heap.size = gb := ⟨_, rfl⟩
    rw [hgb] at S2
    have HGB := Lib.hid hgb
    clear hT
    go_wp2_with fail
    go_loopw [63] (fun i wx => ∃ j : Nat, j ≤ k ∧ i = .int .i64 j ∧ Hid (Led w.heap.size w wx (jobEs t p b n lv fv s f ++ [tabE 57 2 (.slice At k ct) (rowsR (refsL k)), tabE 4 1 (.slice (some ⟨gb, 0, none⟩) k k) (boolRows (List.replicate j true ++ List.replicate (k - j) false))]))) (fun i _ => k - (intOf i).toNat)
    case atStart => exact ⟨0, by omega, rfl, S2⟩
    case round =>
      clear S2 ST
      obtain ⟨j, hj, rfl, S⟩ := hrel
      by_cases hlt : j < k
      · have hjL : (List.replicate j true ++ List.replicate (k - j) false)[j]? = some false := by
          rw [List.getElem?_append_right (by simp), List.length_replicate, Nat.sub_self, show k - j = (k - (j + 1)) + 1 by omega, List.replicate_succ]
          rfl
        have hT : TabIs wr 0 4 1 (.slice (some ⟨gb, 0, none⟩) k k) (boolRows (List.replicate j true ++ List.replicate (k - j) false)) := S.out.at_ 4 rfl
        have x0 := bool_cell hT hjL
        have fx0 := hT.frozen j
        have S3 := led_bool (A := jobEs t p b n lv fv s f ++ [tabE 57 2 (.slice At k ct) (rowsR (refsL k))]) (C := []) S.out hjL true
        have hset : (List.replicate j true ++ List.replicate (k - j) false).set j true = List.replicate (j + 1) true ++ List.replicate (k - (j + 1)) false := by
          rw [List.set_append_right _ _ (by simp), List.length_replicate, Nat.sub_self, show k - j = (k - (j + 1)) + 1 by omega, List.replicate_succ, List.set_cons_zero, List.replicate_succ', List.append_assoc]
          rfl
        rw [hset] at S3
        have H3 := Lib.hid S3
        clear S3 hset hT hjL S
        go_wp2_with fail
        go_roundw
        case rel => exact ⟨j + 1, by omega, by go_num, H3⟩
        case measure => simp [intOf]; omega
      · obtain rfl : k = j := by omega
        rw [Nat.sub_self, List.replicate_zero, List.append_nil] at S
        go_upto_block 4 with fail
        go_cut [12, 13, 14, 15] (fun _ _ _ _ wx => ∃ (L : List Bool) (fv : Value) (s : PSt V5) (f : Int × Int → Option (Int × Int)), Hid (L.length = k) ∧ Hid (FindInv G1 L s f) ∧ Hid (Led w.heap.size w wx (jobEs t p b n lv fv s f ++ [tabE 57 2 (.slice At k ct) (rowsR (refsL k)), tabE 4 1 (.slice (some ⟨gb, 0, none⟩) k k) (boolRows L)])))
        case first =>
          go_wp2_with fail
          go_loopw [12] (fun i wx => ∃ (q : Nat) (L : List Bool) (fv : Value) (s : PSt V5) (f : Int × Int → Option (Int × Int)), q ≤ 30 ∧ q ≤ n2 ∧ i = .int .i64 q ∧ Hid (L.length = k) ∧ Hid (FindInv G1 L s f) ∧ Hid (Led w.heap.size w wx (jobEs t p b n lv fv s f ++ [tabE 57 2 (.slice At k ct) (rowsR (refsL k)), tabE 4 1 (.slice (some ⟨gb, 0, none⟩) k k) (boolRows L)]))) (fun i _ => 30 - (intOf i).toNat)
          case atStart => exact ⟨0, List.replicate k true, fv, s, f, by omega, by omega, rfl, Lib.hid (by simp), FI, S⟩
          case round =>
            rename_i wr0
            clear S FI
            obtain ⟨q, L, fv, s, f, hq1, hq2, rfl, LL, FI, S⟩ := hrel
            by_cases hlt : q < n2 ∧ q < 30 ∧ 0 < k
            · obtain ⟨hlt1, hlt2, hk0⟩ := hlt
              obtain ⟨bo, oo, rfl, hbo, hcell⟩ := HA2.out (by omega)
              have x0 : wr.cell? ⟨bo, oo + q, none⟩ = some (.int .i64 (G2 q)) := (S.out.be.cell (p := ⟨bo, oo + q, none⟩) hbo).trans (hcell q (by omega))
              have gb2 := HG2.out q (by omega)
              obtain ⟨gt, rfl, _, _⟩ := hAt hk0
              have bd := within_bd (G2 q) 0 ((k : Int) - 1) (by omega)
              obtain ⟨m, hm⟩ : ∃ m : Nat, within (G2 q) 0 ((k : Int) - 1) = (m : Int) := ⟨(within (G2 q) 0 ((k : Int) - 1)).toNat, by omega⟩
              rw [hm] at bd
              have hmk : m < k := by omega
              have Hm := Lib.hid hm
              obtain ⟨bq, hbq⟩ : ∃ bq, L[m]? = some bq := ⟨_, List.getElem?_eq_getElem (by rw [LL.out]; exact hmk)⟩
              have HBQ := Lib.hid hbq
              clear hcell hm hbq
              go_wp2_with fail
              refine Calls.mono (within_any (G2 q) 0 ((k : Int) - 1) _ (by omega) (by omega) (by omega) (by omega) (by omega)) ?_
              rintro e w0 ⟨he, rfl⟩
              rw [Hm.out] at he
              subst he
              have hT : TabIs wr 0 57 2 (.slice (some ⟨gt, 0, none⟩) k ct) (rowsR (refsL k)) := S.out.at_ 3 rfl
              have t0 : wr.cell? ⟨gt, m * 2, none⟩ = some (.int .i64 m) := hT.cell (j := 0) (r := [.int .i64 (m : Int), .int .i64 1]) (by rw [rowsR, List.getElem?_map, refsL_at hmk]; rfl) rfl
              have t1 : wr.cell? ⟨gt, m * 2 + 1, none⟩ = some (.int .i64 1) := hT.cell (j := 1) (r := [.int .i64 (m : Int), .int .i64 1]) (by rw [rowsR, List.getElem?_map, refsL_at hmk]; rfl) rfl
              clear hT
              go_wp2_with fail
              refine Calls.mono (jobs_take w.heap.size t p b n lv fv s f w _ _ m 1 FI.out.items S.out) ?_
              rintro e w2 ⟨v, e0, fv2, s2, rfl, q1, q2⟩
              obtain ⟨r1, r2, r3⟩ := FI.out.take HBQ.out q1
              have S2 := Lib.hid (q2.alloc (.cells #[.int .i64 v.a, .int .i64 v.b, .int .i64 v.c, .int .i64 v.d, .int .i64 v.e] 80))
              have FI2 := Lib.hid r3
              have hT2 : TabIs w2 0 4 1 (.slice (some ⟨gb, 0, none⟩) k k) (boolRows L) := q2.at_ 4 rfl
              have y0 := bool_cell hT2 HBQ.out
              have fy0 := hT2.frozen m
              have ly0 := (hT2.lt gb (by simp [Value.ownBlock])).2
              obtain ⟨bt, off, rfl, hbt, hcell⟩ := HA1.out (by omega)
              have z0 : w2.cell? ⟨bt, off + m, none⟩ = some (.int .i64 (G1 m)) := (q2.be.cell (p := ⟨bt, off + m, none⟩) hbt).trans (hcell m (by omega))
              have lz0 : bt < w2.heap.size := Nat.lt_of_lt_of_le hbt q2.be.size
              have LL2 : Hid ((L.set m false).length = k) := Lib.hid (by rw [List.length_set]; exact LL.out)
              clear q1 q2 r3 hT2 t0 t1 x0 hcell S FI LL
              cases bq with
              | true =>
                obtain ⟨rfl, rfl⟩ := r1 rfl
                simp only [jobI] at S2 FI2 ⊢
                clear r1 r2
                go_wp2_with fail
                go_quiet (fail)
                go_wp2_with fail
                go_roundw
                case rel => exact ⟨q + 1, _, fv2, s2, _, by omega, by omega, by go_num, LL2, FI2, Lib.hid (led_bool (A := jobEs t p b n lv fv2 s2 _ ++ [tabE 57 2 (.slice (some ⟨gt, 0, none⟩) k ct) (rowsR (refsL k))]) (C := []) (S2.out.drewN nq) HBQ.out false)⟩
                case measure => simp [intOf]; omega
              | false =>
                obtain rfl := r2 rfl
                clear r1 r2
                go_wp2_with fail
                go_quiet (fail)
                go_wp2_with fail
                go_roundw
                case rel => exact ⟨q + 1, _, fv2, s2, _, by omega, by omega, by go_num, LL2, FI2, Lib.hid (led_bool (A := jobEs t p b n lv fv2 s2 _ ++ [tabE 57 2 (.slice (some ⟨gt, 0, none⟩) k ct) (rowsR (refsL k))]) (C := []) (S2.out.drewN nq) HBQ.out false)⟩
                case measure => simp [intOf]; omega
            · by_cases hlt1 : q < n2
              · by_cases hlt2 : q < 30
                · obtain rfl : k = 0 := by omega
                  clear hlt
                  go_wp2_with fail
                  go_meet
                  case rel => exact ⟨L, fv, s, f, LL, FI, S⟩
                · obtain rfl : q = 30 := by omega
                  have hd1 : decide ((30 : Int) < n2) = true := by simp; omega
                  clear hlt hlt2
                  go_wp2_with fail
                  go_meet
                  case rel => exact ⟨L, fv, s, f, LL, FI, S⟩
              · have hd : decide ((q : Int) < n2) = false := by simp; omega
                clear hlt
                go_wp2_with fail
                go_meet
                case rel => exact ⟨L, fv, s, f, LL, FI, S⟩
        case rest =>
          clear S FI
          obtain ⟨L, fv, s, f, LL, FI, S⟩ := hcut
          go_wp2_with fail
          go_loopw [16, 17] (fun c i wx => ∃ j : Nat, j ≤ k ∧ i = .int .i64 j ∧ c = .int .i64 (cntT (L.take j)) ∧ Hid (Led w.heap.size w wx (jobEs t p b n lv fv s f ++ [tabE 57 2 (.slice At k ct) (rowsR (refsL k)), tabE 4 1 (.slice (some ⟨gb, 0, none⟩) k k) (boolRows L)]))) (fun _ i _ => k - (intOf i).toNat)
          case atStart => exact ⟨0, by omega, rfl, rfl, S⟩
          case round =>
            clear S
            obtain ⟨j, hj, rfl, rfl, S⟩ := hrel
            by_cases hlt : j < k
            · obtain ⟨gt, rfl, _, _⟩ := hAt (by omega)
              obtain ⟨bq, hbq⟩ : ∃ bq, L[j]? = some bq := ⟨_, List.getElem?_eq_getElem (by rw [LL.out]; exact hlt)⟩
              have hcs : cntT (L.take (j + 1)) = cntT (L.take j) + if bq = true then 1 else 0 := by
                rw [take_succ_of hbq, cntT, List.countP_append, List.countP_singleton]
                rfl
              have hcl : cntT (L.take j) ≤ j := Nat.le_trans List.countP_le_length (by rw [List.length_take]; omega)
              have hf1 : (f ((j : Int), 1 + (j : Int) % 3)).isSome = bq := by
                rw [FI.out.f]
                cases bq <;> simp [findF, hbq]
              have hf2 : (f ((j : Int), 1 + (j : Int) % 3)).getD (0, 0) = if bq = true then ((j : Int), 1) else (0, 0) := by
                rw [FI.out.f]
                cases bq <;> simp [findF, hbq]
              have HC := Lib.hid (jobs_by w.heap.size t p b n lv fv s f w wr _ j (1 + (j : Int) % 3) (by unfold in64; omega) S.out)
              rw [hf1, hf2] at HC
              have HBQ := Lib.hid hbq
              have HCS := Lib.hid hcs
              generalize cntT (L.take j) = cj at *
              clear hf1 hf2 hbq hcs
              cases bq with
              | true =>
                go_wp2_with fail
                refine Calls.mono HC.out ?_
                rintro e w2 ⟨rfl, q1⟩
                have S2 := Lib.hid (S.out.later q1)
                have hT2 : TabIs w2 0 4 1 (.slice (some ⟨gb, 0, none⟩) k k) (boolRows L) := S2.out.at_ 4 rfl
                have y0 := bool_cell hT2 HBQ.out
                have ly0 := (hT2.lt gb (by simp [Value.ownBlock])).2
                have hT : TabIs w2 0 57 2 (.slice (some ⟨gt, 0, none⟩) k ct) (rowsR (refsL k)) := S2.out.at_ 3 rfl
                have t0 : w2.cell? ⟨gt, j * 2, none⟩ = some (.int .i64 j) := hT.cell (j := 0) (r := [.int .i64 (j : Int), .int .i64 1]) (by rw [rowsR, List.getElem?_map, refsL_at hlt]; rfl) rfl
                have t1 : w2.cell? ⟨gt, j * 2 + 1, none⟩ = some (.int .i64 1) := hT.cell (j := 1) (r := [.int .i64 (j : Int), .int .i64 1]) (by rw [rowsR, List.getElem?_map, refsL_at hlt]; rfl) rfl
                have lt0 := (hT.lt gt (by simp [Value.ownBlock])).2
                have rq := ref_neq
                have hre : refEq j 1 j 1 = true := refEq_true.2 ⟨rfl, rfl⟩
                clear q1 hT2 hT S
                simp only [if_true]
                go_wp2_with fail
                go_quiet (fail)
                go_wp2_with fail
                go_roundw
                case rel => exact ⟨j + 1, by omega, by go_num, by rw [HCS.out, if_pos trivial]; go_num, Lib.hid ((S2.out.alloc _).drewN _)⟩
                case measure => simp [intOf]; omega
              | false =>
                go_wp2_with fail
                refine Calls.mono HC.out ?_
                rintro e w2 ⟨rfl, q1⟩
                have S2 := Lib.hid (S.out.later q1)
                have hT2 : TabIs w2 0 4 1 (.slice (some ⟨gb, 0, none⟩) k k) (boolRows L) := S2.out.at_ 4 rfl
                have y0 := bool_cell hT2 HBQ.out
                have ly0 := (hT2.lt gb (by simp [Value.ownBlock])).2
                clear q1 hT2 S
                simp only [Bool.false_eq_true, if_false]
                go_wp2_with fail
                go_quiet (fail)
                go_wp2_with fail
                go_roundw
                case rel => exact ⟨j + 1, by omega, by go_num, by rw [HCS.out]; rfl, Lib.hid ((S2.out.alloc _).drewN _)⟩
                case measure => simp [intOf]; omega
            · obtain rfl : j = k := by omega
              rw [List.take_of_length_le (by rw [LL.out]; omega)]
              have hlen := FI.out.len_ (jobPool S.out).wf
              have htwo := FI.out.two
              have hle : cntT L ≤ 25 := Nat.le_trans List.countP_le_length (by rw [LL.out]; omega)
              obtain ⟨s', c, hm⟩ : ∃ s' c, moveTo 1 0 s (allTo s.l s.l.length) = (s', c) := ⟨_, _, rfl⟩
              obtain ⟨hc, hg', h0, h1⟩ := FI.out.moved hm
              have HLEN := Lib.hid hlen
              have HM := Lib.hid hm
              have HG' := Lib.hid hg'
              have C1 := Lib.hid (jobs_count w.heap.size t p b n lv fv s f w wr _ 1 FI.out.gens S.out)
              have C0 := Lib.hid (fun W es (hW : Led w.heap.size w W (jobEs t p b n lv fv s f ++ es)) => jobs_count w.heap.size t p b n lv fv s f w W es 0 FI.out.gens hW)
              have D0 := Lib.hid (fun W es (hW : Led w.heap.size w W (jobEs t p b n lv fv s' f ++ es)) => jobs_count w.heap.size t p b n lv fv s' f w W es 0 hg' hW)
              have D1 := Lib.hid (fun W es (hW : Led w.heap.size w W (jobEs t p b n lv fv s' f ++ es)) => jobs_count w.heap.size t p b n lv fv s' f w W es 1 hg' hW)
              rw [h0] at D0
              rw [h1] at D1
              rw [← hc] at C1 htwo
              generalize cntQ s 0 (allTo s.l s.l.length) = d0 at *
              generalize cntT L = d at *
              clear hlen hm hg' h0 h1 hc
              go_wp2_with fail
              refine Calls.mono C1.out ?_
              rintro e w2 ⟨rfl, q1⟩
              have S2 := Lib.hid q1
              clear q1
              go_wp2_with fail
              refine Calls.mono (jobs_len w.heap.size t p b n lv fv s f w _ _ S2.out) ?_
              rw [HLEN.out]
              rintro e w3 ⟨rfl, k3, rfl⟩
              have S3 := Lib.hid (S2.out.drewN k3)
              go_wp2_with fail
              refine Calls.mono (C0.out _ _ S3.out) ?_
              rintro e w4 ⟨rfl, q1⟩
              have S4 := Lib.hid q1
              clear q1
              have hd : ((d0 : Int) + (c : Int) == (d : Int)) = true := by simp; omega
              go_wp2_with fail
              refine Calls.mono (jobs_move w.heap.size t p b n lv fv s f w _ _ 1 0 FI.out.gens S4.out) ?_
              rw [HM.out]
              rintro e w5 ⟨rfl, q1⟩
              have S5 := Lib.hid q1
              clear q1
              go_wp2_with fail
              refine Calls.mono (D0.out _ _ S5.out) ?_
              rintro e w6 ⟨rfl, q1⟩
              have S6 := Lib.hid q1
              clear q1
              go_wp2_with fail
              refine Calls.mono (D1.out _ _ S6.out) ?_
              rintro e w7 ⟨rfl, q1⟩
              have S7 := Lib.hid q1
              clear q1
              go_wp2_with fail
              refine Calls.mono (jobs_known _) ?_
              rintro e w8 ⟨rfl, q1⟩
              have be := S7.out.be.trans (q1.mono S7.out.be.size)
              clear q1
              go_wp2_with fail
              exact hR.out _ _ ⟨rfl, be⟩
end Go.Proofs.Ytjabofofofddbaa
