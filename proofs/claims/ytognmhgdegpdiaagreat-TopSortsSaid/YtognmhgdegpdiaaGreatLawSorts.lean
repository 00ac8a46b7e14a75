import Derived.Test.YtognmhgdegpdiaaGreatLawFull
import Derived.Test.YtognmhgdegpdiaaGreatTopN
/- TopSorts: keys come out sorted. -/
namespace Go.Proofs.YtognmhgdegpdiaaGreat
open Go.RowKit
open Go.Maps (Keyed)
set_option linter.unusedVariables false
set_option linter.unusedSimpArgs false
set_option maxRecDepth 100000
theorem en_fields : (Tryz.prog.fieldsOf 36).toList.map (fun f => (f.name == "_", f.type, f.offset)) = [(false, 2, 0), (false, 2, 1)] := by kernel_rfl
theorem en_stood : Tryz.prog.stoodInHeld 36 = false := by kernel_rfl
theorem en_under : Tryz.prog.underlying 36 = some (.struct (Tryz.prog.fieldsOf 36)) := by kernel_rfl
theorem i64_cells : Tryz.prog.cellsOf 2 = 1 := by kernel_rfl
theorem en_equalIn (w : World) (a b c d : Int) : (Op.equalIn 10000 36 (.agg #[.int .i64 a, .int .i64 b]) (.agg #[.int .i64 c, .int .i64 d])).run Tryz.prog w = .ok (refEq a b c d) w := by
  rw [run_equalIn_struct w 9999 _ _ _ en_under en_stood]
  have h := en_fields
  generalize (Tryz.prog.fieldsOf 36).toList = fs at h ⊢
  rcases fs with _ | ⟨f, _ | ⟨g, _ | ⟨x, fs⟩⟩⟩
  · simp at h
  · simp at h
  · simp at h
    obtain ⟨⟨f1, f2, f3⟩, g1, g2, g3⟩ := h
    have u := Tryz.underlying2
    simp [Op.eqFields, f1, g1, f2, g2, f3, g3, go_sem, i64_cells, refEq, run_equalIn_int w _ _ _ _ _ _ u]
    by_cases h1 : a = c <;> by_cases h2 : b = d <;> simp [h1, h2]
  · simp at h
theorem en_neq (w : World) (a b c d : Int) : (binOp .neq 36 (.agg #[.int .i64 a, .int .i64 b]) (.agg #[.int .i64 c, .int .i64 d])).run Tryz.prog w = .ok (.bool (!refEq a b c d)) w := by
  rw [run_neq_struct, en_equalIn]
  rfl
theorem isSome_of {α : Type} {o : Option α} {x : α} (h : o = some x) : o.isSome = true := by rw [h]; rfl
theorem ans_ok (i g k s : Int) (W : World) : (Instr.field 38 (.agg #[.int .i64 0, .int .i64 0, .int .i64 0, .int .i64 i, .int .i64 g, .int .i64 k, .int .i64 s, .int .i64 0]) 0).run Tryz.prog W = .ok (.int .i64 0) W := by kernel_rfl
theorem led_store0 {B : Nat} {w0 w : World} {A C : List Ent} {g : Nat} {T : TypeId} {x0 y0 : Value} (h : Led B w0 w (A ++ blkE g T #[x0] :: C)) : Led B w0 (w.setCell ⟨g, 0, none⟩ y0) (A ++ blkE g T #[y0] :: C) := by
  have hb : Blk w g T #[x0] := h.mem
  have h2 := hb.set_ 0 y0
  exact h.mid _ ((Chg.refl _ _).setCell (p := ⟨g, 0, none⟩) (.inl (by simp [blkE])) y0) (by simpa [blkE] using h2) (Fresh.refl _ _)
theorem info_en : (Tryz.prog.info? 36).map (fun i => (i.zero, i.size, i.bytes)) = some (some (.agg #[.int .i64 0, .int .i64 0]), 2, 16) := by kernel_rfl
def enL (G : Nat → Int) (j : Nat) : List (Int × Int) := (List.range j).map fun t : Nat => (G t, (t : Int))
theorem enL_succ (G : Nat → Int) (j : Nat) : enL G (j + 1) = enL G j ++ [(G j, (j : Int))] := by simp [enL, List.range_succ]
theorem enL_len (G : Nat → Int) (j : Nat) : (enL G j).length = j := by simp [enL]
theorem enL_get (G : Nat → Int) {j t : Nat} (h : t < j) : (enL G j)[t]? = some (G t, (t : Int)) := by simp [enL, h]
section
set_option maxHeartbeats 16000000 in
theorem top_sorts (kd : Int) (A : Option Addr) (n c : Nat) (G : Nat → Int) (w : World) (k1 : -9223372036854775808 ≤ kd) (k2 : kd ≤ 9223372036854775807) (hn : n ≤ 9223372036854775807) (hA : SlArg w w.heap.size A n 1 fun j => .int .i64 (G j)) (hG : ∀ j, j < n → -9223372036854775808 ≤ G j ∧ G j ≤ 9223372036854775807) :
    Calls Tryz.prog 3 #[.int .i64 kd, .slice A n c] w fun e w' => e = .returned (.bool true) ∧ Below w.heap.size w w' := by
  have hfl := ans_ok
  have HA := Lib.hid hA; clear hA
  have HG := Lib.hid hG; clear hG
  have bd2 := within_bd kd 1 5 (by omega)
  refine callsR fun R hR => ?_
  go_enter Tryz.func3, Tryz.ntmps3
  go_wp2_with (first | (go_at_call 10; refine Calls.mono (top_kinds kd _ ⟨k1, k2⟩) ?_; rintro e w' ⟨rfl, rfl⟩))
  generalize within kd 1 5 = K at bd2 ⊢
  refine Calls.mono (top_queues 200 K 1 (by omega) (by omega) bd2 (by decide) (led_start w)) ?_
  rintro e w1 ⟨m, v, Q, L, rfl, M, hL, h'⟩
  obtain ⟨A3, cp, hv, hA3⟩ := pT_form (pT_tab h')
  have hR3 : (L.reverse.map href).length = 1 := by simp [hL]
  rw [hR3] at hv hA3
  obtain ⟨g, rfl⟩ := hA3 (by decide)
  subst hv
  obtain ⟨h, rfl⟩ : ∃ h, L = [h] := by match L, hL with | [h], _ => exact ⟨h, rfl⟩
  obtain ⟨R, hRR⟩ : ∃ R, [href h] = R := ⟨_, rfl⟩
  have h'' : Led w.heap.size w w1 (Q.es m ++ [pT 34 (.slice (some ⟨g, 0, none⟩) 1 cp) R]) := by rw [← hRR]; exact h'
  have M0 := Lib.hid M
  have H := Lib.hid h''
  have HR0 := Lib.hid hRR
  clear M h' h'' hRR hR3
  go_upto_region 5 with fail
  obtain ⟨sb, hsb⟩ : ∃ sb, w1.heap.size = sb := ⟨_, rfl⟩
  have H1 : Hid (Led w.heap.size w (w1.alloc (.cells #[.slice none 0 0] 31)) (Q.es m ++ [pT 34 (.slice (some ⟨g, 0, none⟩) 1 cp) R, blkE sb 31 #[.slice none 0 0], pT 36 (.slice none 0 0) (enL G 0)])) := Lib.hid (by have h1 := led_put1 (A := Q.es m) (C := []) (T := 31) (cs := #[.slice none 0 0]) H.out; rw [hsb] at h1; have h2 := pT_new (T := 36) (A := Q.es m ++ [_, _]) (C := []) (by rw [List.append_nil]; exact h1); rw [List.append_assoc] at h2; exact h2)
  rw [hsb]
  generalize w1.alloc (.cells #[.slice none 0 0] 31) = w2 at H1 ⊢
  clear H hsb
  go_upto_block 0 with fail
  go_cut [] (fun wx => ∃ (j : Nat) (Q : QS) (h : HR) (v : Value), j = min n 150 ∧ Hid (QInv Q [h] []) ∧ Hid (R = [href h]) ∧ Hid ((h.I.map fun r => (r.key, r.ser)).Perm (enL G j)) ∧ Q.serial = j ∧ Q.items = 200 ∧ Hid (Led w.heap.size w wx (Q.es m ++ [pT 34 (.slice (some ⟨g, 0, none⟩) 1 cp) R, blkE sb 31 #[v], pT 36 v (enL G j)])))
  case first =>
    go_wp2_with fail
    go_loopw [8] (fun y wx => ∃ (j : Nat) (Q : QS) (h : HR) (v : Value), y = .int .i64 (j : Int) ∧ j ≤ n ∧ j ≤ 150 ∧ Hid (QInv Q [h] []) ∧ Hid (R = [href h]) ∧ Hid ((h.I.map fun r => (r.key, r.ser)).Perm (enL G j)) ∧ Q.serial = j ∧ Q.items = 200 ∧ Hid (Led w.heap.size w wx (Q.es m ++ [pT 34 (.slice (some ⟨g, 0, none⟩) 1 cp) R, blkE sb 31 #[v], pT 36 v (enL G j)]))) (fun y _ => 150 - intV y)
    case atStart => exact ⟨0, Q, h, _, rfl, Nat.zero_le _, by omega, Lib.hid M0.out.q, Lib.hid HR0.out.symm, Lib.hid (by rw [(M0.out.em h (by simp)).1]; exact List.Perm.refl _), M0.out.ser, M0.out.it, H1⟩
    case round =>
      clear H1 M0 HR0 hL
      clear h
      obtain ⟨j, Q, h, v, rfl, hjn, hj, QI, HR, HP, hser, hit, S⟩ := hrel
      have HSER := Lib.hid hser
      have HIT := Lib.hid hit
      clear hser hit
      by_cases hlt : j < n ∧ j < 150
      · have g1 : decide ((j : Int) < (n : Int)) = true := by simp; omega
        have g2 : decide ((j : Int) < 150) = true := by simp; omega
        have hw1 : IntKind.i64.wrap ((j : Int) + 1) = ((j + 1 : Nat) : Int) := by rw [IntKind.wrap_i64]; omega
        obtain ⟨bA, oA, rfl, hbA, hcA⟩ := HA.out (by omega)
        have a0 := hcA j (by omega)
        clear hcA
        go_upto_region 8 with fail
        have ltw := S.out.be.size
        have HKEY : Hid (∀ (W : World) (xs : List Ent), Led w.heap.size w W xs → W.cell? ⟨bA, oA + j, none⟩ = some (.int .i64 (G j))) := Lib.hid (fun W xs h => (h.be.cell (p := ⟨bA, oA + j, none⟩) hbA).trans a0)
        have HS : Hid (∀ W, Chg [] wr W → W.cell? ⟨g, 0, none⟩ = some (.int .i64 (h.at_ : Int)) ∧ W.cell? ⟨g, 1, none⟩ = some (.int .i64 h.x.gen) ∧ W.cell? ⟨bA, oA + j, none⟩ = some (.int .i64 (G j))) := Lib.hid (fun W hW => have hl := S.out.later (hW.below (by simp) (Nat.le_refl _)); have ht := (show TabIs W 0 34 2 (.slice (some ⟨g, 0, none⟩) 1 cp) (pR R) from hl.at_ 10 rfl); have hp := pT_get (T := 34) ht (i := 0) (x := href h) (by rw [HR.out]; rfl); ⟨hp.1, hp.2, (hl.be.cell (p := ⟨bA, oA + j, none⟩) hbA).trans a0⟩)
        go_region_held3 (fun W => W.cell? ⟨g, 0, none⟩ = some (.int .i64 (h.at_ : Int)) ∧ W.cell? ⟨g, 1, none⟩ = some (.int .i64 h.x.gen) ∧ W.cell? ⟨bA, oA + j, none⟩ = some (.int .i64 (G j))) (first | (refine HS.out _ ?_; (repeat' first | with_reducible exact Chg.refl _ _ | with_reducible refine Chg.drew ?_ | with_reducible refine Chg.drewN ?_ _ | with_reducible refine Chg.alloc ?_ _ | with_reducible refine Chg.setCell ?_ ?_ _ | (left; simp; done) | (right; exact Nat.le_refl _) | (right; dsimp only; omega)); done) | (refine HS2.out _ ?_; (repeat' first | with_reducible exact Chg.refl _ _ | with_reducible refine Chg.drew ?_ | with_reducible refine Chg.drewN ?_ _ | with_reducible refine Chg.alloc ?_ _ | with_reducible refine Chg.setCell ?_ ?_ _ | (left; simp; done) | (right; exact Nat.le_refl _) | (right; dsimp only; omega)); done)) (first | (go_at_call 11; refine Calls.mono (q_insert 0 0 0 0 0 (G j) QI.out (by rw [HIT.out]; have := HP.out.length_eq; rw [List.length_map, enL_len] at this; have e : itemsL [h] = h.I := (by simp [itemsL]); rw [e, this]; omega) (by have := HSER.out; omega) S.out.drew) ?_; rintro e w4 ⟨Q2, h2, i, gg, cc, rfl, h', q2, e1, e2, e3, e4, e5, e6, _⟩; have S4 : Hid (Led w.heap.size w w4 (Q2.es m ++ [pT 34 (.slice (some ⟨g, 0, none⟩) 1 cp) R, blkE sb 31 #[v], pT 36 v (enL G j)])) := Lib.hid h'; have Q2I := Lib.hid q2; have E1 := Lib.hid (show href h2 = href h by unfold href; rw [e1, e2]); have E4 := Lib.hid e4; have E5 := Lib.hid e5; have E6 := Lib.hid e6; clear h' q2 e1 e2 e3 e4 e5 e6; have HS2 : Hid (∀ W, Chg [] w4 W → W.cell? ⟨g, 0, none⟩ = some (.int .i64 (h.at_ : Int)) ∧ W.cell? ⟨g, 1, none⟩ = some (.int .i64 h.x.gen) ∧ W.cell? ⟨bA, oA + j, none⟩ = some (.int .i64 (G j))) := Lib.hid (fun W hW => have hl := S4.out.later (hW.below (by simp) (Nat.le_refl _)); have ht := (show TabIs W 0 34 2 (.slice (some ⟨g, 0, none⟩) 1 cp) (pR R) from hl.at_ 10 rfl); have hp := pT_get (T := 34) ht (i := 0) (x := href h) (by rw [HR.out]; rfl); ⟨hp.1, hp.2, (hl.be.cell (p := ⟨bA, oA + j, none⟩) hbA).trans a0⟩)))
        go_upto_region 10 with fail
        clear HS HS2 S a0
        have hvf := pT_form (pT_tab (A := Q2.es m ++ [_, _]) S4.out)
        obtain ⟨A5, c5, rfl, _⟩ := hvf
        rw [enL_len] at S4
        have hle : (pR (enL G j)).length ≤ 1000000000 := by rw [pR_len, enL_len]; omega
        have hS0 := HKEY.out _ _ S4.out.drew
        have hsb : w4.drew.cell? ⟨sb, 0, none⟩ = some (.slice A5 j c5) := (show Blk w4.drew sb 31 #[.slice A5 j c5] from S4.out.drew.at_ 11 rfl).cell 0
        have lsb := (show Blk w4.drew sb 31 #[.slice A5 j c5] from S4.out.drew.at_ 11 rfl).lt
        refine wp_region_held_drew (S := fun wx => wx.cell? ⟨bA, oA + j, none⟩ = some (.int .i64 (G j))) (by kernel_rfl) hS0 (fun hHeld => ?_)
        refine wpAnyH_read (i := 0) (d := 45) (v := ?_) rfl rfl rfl (by kernel_rfl) (by kernel_rfl) (by kernel_rfl) (fun _ _ _ h => h) hS0 ?_ ?_
        rotate_left
        · intro w hSw
          go_simp
          (try with_reducible rfl)
        (try simp only [List.setIfInBounds_toArray, List.set_cons_zero, List.set_cons_succ])
        refine wpAnyH_read (i := 1) (d := 46) (v := ?_) rfl rfl rfl (by kernel_rfl) (by kernel_rfl) (by kernel_rfl) (fun _ _ _ h => h) hS0 ?_ ?_
        rotate_left
        · intro w hSw
          go_simp
          (try with_reducible rfl)
        (try simp only [List.setIfInBounds_toArray, List.set_cons_zero, List.set_cons_succ])
        refine wpAnyH_read (i := 2) (d := 47) (v := ?_) rfl rfl rfl (by kernel_rfl) (by kernel_rfl) (by kernel_rfl) (fun _ _ _ h => h) hS0 ?_ ?_
        rotate_left
        · intro w hSw
          go_simp
          (try with_reducible rfl)
        (try simp only [List.setIfInBounds_toArray, List.set_cons_zero, List.set_cons_succ])
        refine wpAnyH_read (i := 3) (d := 48) (v := ?_) rfl rfl rfl (by kernel_rfl) (by kernel_rfl) (by kernel_rfl) (fun _ _ _ h => h) hS0 ?_ ?_
        rotate_left
        · intro w hSw
          go_simp
          (try with_reducible rfl)
        (try simp only [List.setIfInBounds_toArray, List.set_cons_zero, List.set_cons_succ])
        refine wpAnyH_read (i := 5) (d := 50) (v := ?_) rfl rfl rfl (by kernel_rfl) (by kernel_rfl) (by kernel_rfl) (fun _ _ _ h => h) hS0 ?_ ?_
        rotate_left
        · intro w hSw
          go_simp
          (try with_reducible rfl)
        (try simp only [List.setIfInBounds_toArray, List.set_cons_zero, List.set_cons_succ])
        refine wpAnyH_read (i := 6) (d := 51) (v := ?_) rfl rfl rfl (by kernel_rfl) (by kernel_rfl) (by kernel_rfl) (fun _ _ _ h => h) hS0 ?_ ?_
        rotate_left
        · intro w hSw
          go_simp
          (try with_reducible rfl)
        (try simp only [List.setIfInBounds_toArray, List.set_cons_zero, List.set_cons_succ])
        refine wpAnyH_read (i := 7) (d := 52) (v := ?_) rfl rfl rfl (by kernel_rfl) (by kernel_rfl) (by kernel_rfl) (fun _ _ _ h => h) hS0 ?_ ?_
        rotate_left
        · intro w hSw
          go_simp
          (try with_reducible rfl)
        (try simp only [List.setIfInBounds_toArray, List.set_cons_zero, List.set_cons_succ])
        refine wpAnyH_read (i := 8) (d := 53) (v := ?_) rfl rfl rfl (by kernel_rfl) (by kernel_rfl) (by kernel_rfl) (fun _ _ _ h => h) hS0 ?_ ?_
        rotate_left
        · intro w hSw
          go_simp
          (try with_reducible rfl)
        (try simp only [List.setIfInBounds_toArray, List.set_cons_zero, List.set_cons_succ])
        refine wpAnyH_read (i := 9) (d := 54) (v := ?_) rfl rfl rfl (by kernel_rfl) (by kernel_rfl) (by kernel_rfl) (fun _ _ _ h => h) hS0 ?_ ?_
        rotate_left
        · intro w hSw
          go_simp
          (try with_reducible rfl)
        (try simp only [List.setIfInBounds_toArray, List.set_cons_zero, List.set_cons_succ])
        refine wpAnyH_read (i := 10) (d := 55) (v := ?_) rfl rfl rfl (by kernel_rfl) (by kernel_rfl) (by kernel_rfl) (fun _ _ _ h => h) hS0 ?_ ?_
        rotate_left
        · intro w hSw
          go_simp
          (try with_reducible rfl)
        (try simp only [List.setIfInBounds_toArray, List.set_cons_zero, List.set_cons_succ])
        clear hHeld
        refine wpAnyH_ready (rs := [4, 11]) (by kernel_rfl) (by simp) ?_
        refine AllReadyH.cons (o := _) rfl (fun K hK => ?_) (AllReadyH.cons (o := _) rfl (fun K hK => ?_) AllReadyH.nil)
        · go_simp
          refine hK.out _ _ hS0 (fun hHeld => ?_)
          refine wpAnyH_ready (rs := [11]) (by kernel_rfl) (by simp) ?_
          refine AllReadyH.cons (o := _) rfl (fun K hK => ?_) AllReadyH.nil
          go_simp
          refine hK.out _ _ ((World.cell?_alloc_some _ _ _ (isSome_of hS0)).trans hS0) (fun hHeld => ?_)
          refine wpAnyH_ready (rs := [12]) (by kernel_rfl) (by simp) ?_
          refine AllReadyH.cons (o := ⟨some 57, _, _, _, _, _⟩) rfl (fun K hK => ?_) AllReadyH.nil
          rw [if_pos (by rfl)]
          refine wp_push (W := w4.drew) (.tmp 49) (.tmp 56) 29 (by rfl) 0 36 _ 2 16 Tryz.underlying29 info_en (by rfl) (by decide) (.slice A5 j c5) (pR (enL G j)) #[.int .i64 (G j), .int .i64 (j : Int)] (by rfl) (pT_tab (A := Q2.es m ++ [_, _]) S4.out.drew) (by rfl) (by rfl) (by simp [Value.oneCell']) hle (by decide) (Nat.zero_le _) ?_
          intro v' w' p1 p2 p3
          have h9 := pT_push (A := Q2.es m ++ [_, _]) S4.out.drew p1 p2 p3
          obtain ⟨A', c', hv, _⟩ := p1.form
          simp only [List.length_append, List.length_singleton, pR_len, enL_len] at hv
          subst hv
          have S5 : Hid (Led w.heap.size w w' (Q2.es m ++ [pT 34 (.slice (some ⟨g, 0, none⟩) 1 cp) R, blkE sb 31 #[.slice A5 j c5], pT 36 (.slice A' (j + 1) c') (enL G (j + 1))])) := Lib.hid (by rw [enL_succ]; exact h9)
          clear p1 p2 p3 h9 hS0 hsb lsb
          have hS0 := HKEY.out _ _ S5.out
          refine hK.out _ _ hS0 (fun hHeld => ?_)
          refine wpAnyH_read (i := 13) (d := 58) (v := ?_) rfl rfl rfl (by kernel_rfl) (by kernel_rfl) (by kernel_rfl) (fun _ _ _ h => h) hS0 ?_ ?_
          rotate_left
          · intro w hSw
            go_simp
            (try with_reducible rfl)
          (try simp only [List.setIfInBounds_toArray, List.set_cons_zero, List.set_cons_succ])
          refine wpAnyH_read (i := 14) (d := 59) (v := ?_) rfl rfl rfl (by kernel_rfl) (by kernel_rfl) (by kernel_rfl) (fun _ _ _ h => h) hS0 ?_ ?_
          rotate_left
          · intro w hSw
            go_simp
            (try with_reducible rfl)
          (try simp only [List.setIfInBounds_toArray, List.set_cons_zero, List.set_cons_succ])
          refine wpAnyH_ready (rs := [15]) (by kernel_rfl) (by simp) ?_
          refine AllReadyH.cons (o := _) rfl (fun K hK => ?_) AllReadyH.nil
          have hmb : Blk w' sb 31 #[.slice A5 j c5] := S5.out.at_ 11 rfl
          have d4 := hmb.cell 0
          have fd4 := hmb.frozen 0
          simp only [List.getElem?_toArray, List.getElem?_cons_zero] at d4
          have S6 : Hid (Led w.heap.size w (w'.setCell ⟨sb, 0, none⟩ (.slice A' (j + 1) c')) (Q2.es m ++ [pT 34 (.slice (some ⟨g, 0, none⟩) 1 cp) R, blkE sb 31 #[.slice A' (j + 1) c'], pT 36 (.slice A' (j + 1) c') (enL G (j + 1))])) := Lib.hid (led_store0 (A := Q2.es m ++ [_]) S5.out)
          clear hmb
          go_simp
          refine hK.out _ _ (HKEY.out _ _ S6.out) (fun _ => ?_)
          refine wpAnyH_done (by kernel_rfl) ?_ _
          clear hHeld d4 fd4 S5
          go_wp2_with fail
          go_roundw
          case rel => exact ⟨j + 1, Q2, h2, _, rfl, by omega, by omega, Q2I, Lib.hid (by rw [E1.out]; exact HR.out), Lib.hid (by rw [E4.out, enL_succ]; exact (List.Perm.cons _ HP.out).trans (by simp only [HSER.out]; exact (List.perm_append_singleton _ _).symm)), by rw [E5.out, HSER.out]; omega, E6.out.trans HIT.out, S6⟩
          case measure => simp [intV]; omega
        · go_simp
          refine hK.out _ _ ((World.cell?_alloc_some _ _ _ (isSome_of hS0)).trans hS0) (fun hHeld => ?_)
          have hsb2 : (w4.drew.alloc (.cells #[.int .i64 (G j), .int .i64 (j : Int)] 36)).cell? ⟨sb, 0, none⟩ = some (.slice A5 j c5) := (World.cell?_alloc_some _ _ _ (isSome_of hsb)).trans hsb
          have hsb3 : (w4.alloc (.cells #[.int .i64 (G j), .int .i64 (j : Int)] 36)).cell? ⟨sb, 0, none⟩ = some (.slice A5 j c5) := hsb2
          refine wpAnyH_ready (rs := [4]) (by kernel_rfl) (by simp) ?_
          refine AllReadyH.cons (o := _) rfl (fun K hK => ?_) AllReadyH.nil
          go_simp
          refine hK.out _ _ ((World.cell?_alloc_some _ _ _ (isSome_of hS0)).trans hS0) (fun hHeld => ?_)
          clear hsb2 hsb3
          refine wpAnyH_ready (rs := [12]) (by kernel_rfl) (by simp) ?_
          refine AllReadyH.cons (o := ⟨some 57, _, _, _, _, _⟩) rfl (fun K hK => ?_) AllReadyH.nil
          rw [if_pos (by rfl)]
          refine wp_push (W := w4.drew) (.tmp 49) (.tmp 56) 29 (by rfl) 0 36 _ 2 16 Tryz.underlying29 info_en (by rfl) (by decide) (.slice A5 j c5) (pR (enL G j)) #[.int .i64 (G j), .int .i64 (j : Int)] (by rfl) (pT_tab (A := Q2.es m ++ [_, _]) S4.out.drew) (by rfl) (by rfl) (by simp [Value.oneCell']) hle (by decide) (Nat.zero_le _) ?_
          intro v' w' p1 p2 p3
          have h9 := pT_push (A := Q2.es m ++ [_, _]) S4.out.drew p1 p2 p3
          obtain ⟨A', c', hv, _⟩ := p1.form
          simp only [List.length_append, List.length_singleton, pR_len, enL_len] at hv
          subst hv
          have S5 : Hid (Led w.heap.size w w' (Q2.es m ++ [pT 34 (.slice (some ⟨g, 0, none⟩) 1 cp) R, blkE sb 31 #[.slice A5 j c5], pT 36 (.slice A' (j + 1) c') (enL G (j + 1))])) := Lib.hid (by rw [enL_succ]; exact h9)
          clear p1 p2 p3 h9 hS0 hsb lsb
          have hS0 := HKEY.out _ _ S5.out
          refine hK.out _ _ hS0 (fun hHeld => ?_)
          refine wpAnyH_read (i := 13) (d := 58) (v := ?_) rfl rfl rfl (by kernel_rfl) (by kernel_rfl) (by kernel_rfl) (fun _ _ _ h => h) hS0 ?_ ?_
          rotate_left
          · intro w hSw
            go_simp
            (try with_reducible rfl)
          (try simp only [List.setIfInBounds_toArray, List.set_cons_zero, List.set_cons_succ])
          refine wpAnyH_read (i := 14) (d := 59) (v := ?_) rfl rfl rfl (by kernel_rfl) (by kernel_rfl) (by kernel_rfl) (fun _ _ _ h => h) hS0 ?_ ?_
          rotate_left
          · intro w hSw
            go_simp
            (try with_reducible rfl)
          (try simp only [List.setIfInBounds_toArray, List.set_cons_zero, List.set_cons_succ])
          refine wpAnyH_ready (rs := [15]) (by kernel_rfl) (by simp) ?_
          refine AllReadyH.cons (o := _) rfl (fun K hK => ?_) AllReadyH.nil
          have hmb : Blk w' sb 31 #[.slice A5 j c5] := S5.out.at_ 11 rfl
          have d4 := hmb.cell 0
          have fd4 := hmb.frozen 0
          simp only [List.getElem?_toArray, List.getElem?_cons_zero] at d4
          have S6 : Hid (Led w.heap.size w (w'.setCell ⟨sb, 0, none⟩ (.slice A' (j + 1) c')) (Q2.es m ++ [pT 34 (.slice (some ⟨g, 0, none⟩) 1 cp) R, blkE sb 31 #[.slice A' (j + 1) c'], pT 36 (.slice A' (j + 1) c') (enL G (j + 1))])) := Lib.hid (led_store0 (A := Q2.es m ++ [_]) S5.out)
          clear hmb
          go_simp
          refine hK.out _ _ (HKEY.out _ _ S6.out) (fun _ => ?_)
          refine wpAnyH_done (by kernel_rfl) ?_ _
          clear hHeld d4 fd4 S5
          go_wp2_with fail
          go_roundw
          case rel => exact ⟨j + 1, Q2, h2, _, rfl, by omega, by omega, Q2I, Lib.hid (by rw [E1.out]; exact HR.out), Lib.hid (by rw [E4.out, enL_succ]; exact (List.Perm.cons _ HP.out).trans (by simp only [HSER.out]; exact (List.perm_append_singleton _ _).symm)), by rw [E5.out, HSER.out]; omega, E6.out.trans HIT.out, S6⟩
          case measure => simp [intV]; omega
      · have hjm : j = min n 150 := by omega
        have gx : (decide ((j : Int) < (n : Int)) && decide ((j : Int) < 150)) = false := by simp; omega
        by_cases hjn : j < n
        · have g1 : decide ((j : Int) < (n : Int)) = true := by simp; omega
          have g2 : decide ((j : Int) < 150) = false := by simp; omega
          clear gx
          go_wp2_with fail
          go_meet
          case rel => exact ⟨j, Q, h, v, hjm, QI, HR, HP, HSER.out, HIT.out, S⟩
        · have g1 : decide ((j : Int) < (n : Int)) = false := by simp; omega
          clear gx
          go_wp2_with fail
          go_meet
          case rel => exact ⟨j, Q, h, v, hjm, QI, HR, HP, HSER.out, HIT.out, S⟩
  case rest =>
    clear H1 M0 HR0 hL h
    obtain ⟨J, Q, h, v, hJ, QI, HRR, HP, hser, hit, S⟩ := hcut
    have hJ2 : J ≤ 150 := by omega
    clear hser hit hJ
    have hvf := pT_form (pT_tab (A := Q.es m ++ [_, _]) S.out)
    obtain ⟨A5, c5, rfl, hA5⟩ := hvf
    rw [enL_len] at S hA5
    have hlen0 : h.I.length = J := by have := HP.out.length_eq; rwa [List.length_map, enL_len] at this
    have hmem0 : Hid (∀ r ∈ h.I, (r.key, r.ser) ∈ enL G J) := Lib.hid (fun r hr => HP.out.mem_iff.1 (List.mem_map.2 ⟨r, hr, rfl⟩))
    clear HP
    have S1 := Lib.hid (led_new (A := Q.es m ++ [_, _, _]) (C := []) (T := 36) (cs := #[.int .i64 0, .int .i64 0]) S.out)
    go_upto_region 12 with fail
    obtain ⟨lb, hlb⟩ : ∃ lb, wc.heap.size = lb := ⟨_, rfl⟩
    rw [hlb] at S1 ⊢
    generalize wc.alloc (.cells #[.int .i64 0, .int .i64 0] 36) = wd at S1 ⊢
    clear hlb S
    have sb0 : wd.cell? ⟨sb, 0, none⟩ = some (.slice A5 J c5) := (show Blk wd sb 31 #[.slice A5 J c5] from S1.out.at_ 11 rfl).cell 0
    go_wp2_with fail
    clear sb0
    go_loopw [10] (fun x wx => ∃ (i : Nat) (Q : QS) (h : HR) (D : List (Int × Int)) (l1 l2 : Int), x = .int .i64 (i : Int) ∧ i ≤ J ∧ Hid (QInv Q [h] D) ∧ Hid (R = [href h]) ∧ Hid (h.I.length = i) ∧ Hid (∀ r ∈ h.I, (r.key, r.ser) ∈ enL G J) ∧ Hid (i < J → ∀ r ∈ h.I, l1 < r.key ∨ (l1 = r.key ∧ l2 < r.ser)) ∧ Hid (Led w.heap.size w wx (Q.es m ++ [pT 34 (.slice (some ⟨g, 0, none⟩) 1 cp) R, blkE sb 31 #[.slice A5 J c5], pT 36 (.slice A5 J c5) (enL G J), blkE lb 36 #[.int .i64 l1, .int .i64 l2]]))) (fun x _ => intV x)
    case atStart => exact ⟨J, Q, h, [], 0, 0, rfl, Nat.le_refl _, QI, HRR, Lib.hid hlen0, hmem0, Lib.hid (fun h => absurd h (Nat.lt_irrefl _)), S1⟩
    case round =>
      clear S1 QI HRR hlen0 hmem0
      clear h Q
      obtain ⟨i, Q, h, D, l1, l2, rfl, hi, QI, HRR, HL, HM, HO, S⟩ := hrel
      by_cases hi0 : 0 < i
      · have gi : decide ((0 : Int) < (i : Int)) = true := by simp; omega
        have gi2 : decide (0 < i) = true := by simp; omega
        have hwi : IntKind.i64.wrap ((i : Int) - 1) = ((i - 1 : Nat) : Int) := by rw [IntKind.wrap_i64]; omega
        obtain ⟨g5, rfl⟩ := hA5 (by omega)
        have hne : h.I ≠ [] := fun e => by have := HL.out; rw [e] at this; simp at this; omega
        have tp := pT_get (T := 34) (pT_tab S.out) (i := 0) (x := href h) (by rw [HRR.out]; rfl)
        have t0 : _ = some (Value.int .i64 (h.at_ : Int)) := tp.1
        have t1 : _ = some (Value.int .i64 h.x.gen) := tp.2
        simp only [Nat.zero_mul, Nat.zero_add] at t0 t1
        clear tp
        go_wp2_with fail
        refine Calls.mono (q_pop 0 0 0 0 0 0 QI.out hne S.out) ?_
        rintro e w2 ⟨Q2, h2, r, rfl, h', q2, e1, e2, e3, e4, e5, e6, e7, _⟩
        have Q2I := Lib.hid q2
        have hr : r ∈ h.I := e4.mem_iff.2 (by simp)
        obtain ⟨k, hk⟩ := List.mem_iff_getElem?.1 (HM.out r hr)
        have hkJ : k < J := by have := (List.getElem?_eq_some_iff.1 hk).1; rwa [enL_len] at this
        have hk2 := hk
        rw [enL_get G hkJ] at hk2
        have hks : r.ser = (k : Int) := by injection hk2 with hk2; injection hk2 with _ a; exact a.symm
        have HR2 : Hid (R = [href h2]) := Lib.hid (by rw [HRR.out]; unfold href; rw [e1, e2])
        have HL2 : Hid (h2.I.length = i - 1) := Lib.hid (by have := e4.length_eq; rw [HL.out, List.length_cons] at this; omega)
        have HM2 : Hid (∀ t ∈ h2.I, (t.key, t.ser) ∈ enL G J) := Lib.hid (fun t ht => HM.out t (e4.mem_iff.2 (by simp [ht])))
        have HO2 : Hid (∀ t ∈ h2.I, r.key < t.key ∨ (r.key = t.key ∧ r.ser < t.ser)) := Lib.hid (fun t ht => e5 t ht)
        have HRO := Lib.hid (fun hlt => HO.out hlt r hr)
        have HK := Lib.hid hk
        have HKS := Lib.hid hks
        rw [hks]
        clear hks
        clear q2 e1 e2 e3 e4 e5 e6 e7 t0 t1 hk hk2 hr HO HM HL
        have S2 : Hid (Led w.heap.size w (w2.alloc (.cells #[.int .i64 0, .int .i64 0, .int .i64 0, .int .i64 (r.at_ : Int), .int .i64 r.gen, .int .i64 r.key, .int .i64 (k : Int), .int .i64 0] 38)) (Q2.es m ++ [pT 34 (.slice (some ⟨g, 0, none⟩) 1 cp) R, blkE (w2.heap.size) 38 #[.int .i64 0, .int .i64 0, .int .i64 0, .int .i64 (r.at_ : Int), .int .i64 r.gen, .int .i64 r.key, .int .i64 (k : Int), .int .i64 0], blkE sb 31 #[.slice (some ⟨g5, 0, none⟩) J c5], pT 36 (.slice (some ⟨g5, 0, none⟩) J c5) (enL G J), blkE lb 36 #[.int .i64 l1, .int .i64 l2]])) := Lib.hid (led_put1 (A := Q2.es m) (T := 38) (cs := #[.int .i64 0, .int .i64 0, .int .i64 0, .int .i64 (r.at_ : Int), .int .i64 r.gen, .int .i64 r.key, .int .i64 (k : Int), .int .i64 0]) h')
        clear h'
        have zb : Blk (w2.alloc (.cells #[.int .i64 0, .int .i64 0, .int .i64 0, .int .i64 (r.at_ : Int), .int .i64 r.gen, .int .i64 r.key, .int .i64 (k : Int), .int .i64 0] 38)) w2.heap.size 38 #[.int .i64 0, .int .i64 0, .int .i64 0, .int .i64 (r.at_ : Int), .int .i64 r.gen, .int .i64 r.key, .int .i64 (k : Int), .int .i64 0] := S2.out.at_ 11 rfl
        have lzb := zb.lt
        obtain ⟨z0, z1, z2, z3, z4, z5, z6, z7, fz0, fz1, fz2, fz3, fz4, fz5, fz6, fz7⟩ := zb.c8
        clear zb
        go_upto_region 17 with fail
        generalize w2.alloc (.cells #[.int .i64 0, .int .i64 0, .int .i64 0, .int .i64 (r.at_ : Int), .int .i64 r.gen, .int .i64 r.key, .int .i64 (k : Int), .int .i64 0] 38) = wa at *
        generalize w2.heap.size = ab at *
        have sb0 : wa.cell? ⟨sb, 0, none⟩ = some (.slice (some ⟨g5, 0, none⟩) J c5) := (show Blk wa sb 31 #[.slice (some ⟨g5, 0, none⟩) J c5] from S2.out.at_ 12 rfl).cell 0
        have tv := pT_get (T := 36) (pT_tab (A := Q2.es m ++ [_, _, _]) S2.out) (i := k) (x := (r.key, r.ser)) HK.out
        have v0 : _ = some (Value.int .i64 r.key) := tv.1
        have v1 : _ = some (Value.int .i64 (k : Int)) := tv.2.trans (by rw [HKS.out])
        clear tv
        have yb : Blk wa lb 36 #[.int .i64 l1, .int .i64 l2] := S2.out.at_ 14 rfl
        have lyb := yb.lt
        obtain ⟨y0, y1, fy0, fy1⟩ := yb.c2
        clear yb
        have hq := en_neq
        have hq2 : refEq r.key (k : Int) r.key (k : Int) = true := refEq_true.2 ⟨rfl, rfl⟩
        have hk0 : (0 : Int) ≤ (k : Int) := by omega
        have hk1 : (k : Int) < (J : Int) := by omega
        have gk0 : decide ((k : Int) < 0) = false := by simp
        have gk1 : decide ((J : Int) ≤ (k : Int)) = false := by simp; omega
        have gk2 : decide (J ≤ k) = false := by simp; omega
        have HI0 := Lib.hid hi0
        clear hi0
        by_cases hiJ : i < J
        · have gJ : decide ((i : Int) < (J : Int)) = true := by simp; omega
          have gJ2 : decide (i < J) = true := by simp; omega
          have hro := HRO.out hiJ
          rw [HKS.out] at hro
          have HRO2 := Lib.hid hro
          clear hro hiJ
          by_cases hlt : l1 < r.key
          · have gA : decide (r.key < l1) = false := by simp; omega
            have gB : (l1 == r.key) = false := by simp; omega
            clear hlt
            go_big_region
            go_wp2_with fail
            go_roundw
            case rel => exact ⟨i - 1, Q2, h2, _, r.key, (k : Int), rfl, by omega, Q2I, HR2, HL2, HM2, Lib.hid (fun _ t ht => by have := HO2.out t ht; rw [HKS.out] at this; exact this), Lib.hid (by have h9 := led_store2 (A := Q2.es m ++ [_, _, _, _]) (C := []) (y0 := .int .i64 r.key) (y1 := .int .i64 (k : Int)) S2.out; exact (led_cut1 (A := Q2.es m) h9).drew)⟩
            case measure => have h0 := HI0.out; simp [intV]; omega
          · have hle : l1 = r.key ∧ l2 < (k : Int) := HRO2.out.resolve_left hlt
            have gA : decide (r.key < l1) = false := by simp; omega
            have gB : (l1 == r.key) = true := by simp; omega
            have gC : decide ((k : Int) ≤ l2) = false := by simp; omega
            clear hle hlt
            go_big_region
            go_wp2_with fail
            go_roundw
            case rel => exact ⟨i - 1, Q2, h2, _, r.key, (k : Int), rfl, by omega, Q2I, HR2, HL2, HM2, Lib.hid (fun _ t ht => by have := HO2.out t ht; rw [HKS.out] at this; exact this), Lib.hid (by have h9 := led_store2 (A := Q2.es m ++ [_, _, _, _]) (C := []) (y0 := .int .i64 r.key) (y1 := .int .i64 (k : Int)) S2.out; exact (led_cut1 (A := Q2.es m) h9).drew)⟩
            case measure => have h0 := HI0.out; simp [intV]; omega
        · have gJ : decide ((i : Int) < (J : Int)) = false := by simp; omega
          have gJ2 : decide (i < J) = false := by simp; omega
          clear hiJ
          go_big_region
          go_wp2_with fail
          go_roundw
          case rel => exact ⟨i - 1, Q2, h2, _, r.key, (k : Int), rfl, by omega, Q2I, HR2, HL2, HM2, Lib.hid (fun _ t ht => by have := HO2.out t ht; rw [HKS.out] at this; exact this), Lib.hid (by have h9 := led_store2 (A := Q2.es m ++ [_, _, _, _]) (C := []) (y0 := .int .i64 r.key) (y1 := .int .i64 (k : Int)) S2.out; exact (led_cut1 (A := Q2.es m) h9).drew)⟩
          case measure => have h0 := HI0.out; simp [intV]; omega
      · obtain rfl : i = 0 := by omega
        have gi : decide ((0 : Int) < ((0 : Nat) : Int)) = false := by simp
        have hI : h.I = [] := List.length_eq_zero_iff.1 HL.out
        have hz : ((itemsL [h]).length : Int) = 0 := by rw [itemsL_cons, hI]; rfl
        go_wp2_with fail
        refine Calls.mono (q_live QI.out S.out) ?_
        rintro e w2 ⟨rfl, h'⟩
        rw [hz]
        have S2 := Lib.hid h'
        clear h' S
        go_wp2_with (first | (go_at_call 13; refine Calls.mono (top_awake _) ?_; rintro e w3 ⟨rfl, q9⟩))
        exact hR.out _ _ ⟨rfl, (S2.out.later q9).be⟩
end
end Go.Proofs.YtognmhgdegpdiaaGreat
