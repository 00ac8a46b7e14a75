import Derived.Test.YtognmhgdegpdiaaGreatSlotsBase
/- The table of slots: what each method does; Heaps, Items, Heap, Cell, Of. -/
namespace Go.Proofs.YtognmhgdegpdiaaGreat
open Go.RowKit
open Go.Maps (Keyed)
set_option linter.unusedVariables false
set_option linter.unusedSimpArgs false
set_option maxRecDepth 100000
theorem slots_items (B t ph pi b n : Nat) (lh fh li fi : Value) (sh si : PSt V3) (f : Int → Option (Int × Int)) (w0 w : World) (es : List Ent) (h : Led B w0 w (slotEs t ph pi b n lh fh li fi sh si f ++ es)) :
    Calls Tryz.prog 39 #[.pointer (some ⟨t, 0, none⟩)] w fun e w' => e = .returned (.int .i64 (si.l.length - si.free.length)) ∧ ∃ k, w' = w.drewN k := by
  have d0 := slot_t1 h
  have H := Lib.hid h; clear h
  refine callsR fun R hR => ?_
  go_enter Tryz.func39, Tryz.ntmps39
  go_wp2_with fail
  refine Calls.mono (pool_len_thing pi li fi si _ (slotItems H.out)) ?_
  rintro e w1 ⟨rfl, k, rfl⟩
  go_wp2_with fail
  exact hR.out _ _ ⟨rfl, _, rfl⟩
set_option maxHeartbeats 1000000 in
theorem slots_heap (B t ph pi b n : Nat) (lh fh li fi : Value) (sh si : PSt V3) (f : Int → Option (Int × Int)) (w0 w : World) (es : List Ent) (a g : Int) (h : Led B w0 w (slotEs t ph pi b n lh fh li fi sh si f ++ es)) :
    Calls Tryz.prog 36 #[.pointer (some ⟨t, 0, none⟩), .agg #[.int .i64 a, .int .i64 g]] w fun e w' => ∃ (v : V3) (e0 : Int), e = .returned (.tuple #[.int .i64 v.a, .int .i64 v.b, .int .i64 v.c, .int .i64 e0]) ∧ GetR ⟨0, 0, 0⟩ sh a g v e0 ∧ Led B w0 w' (slotEs t ph pi b n lh fh li fi sh si f ++ es) := by
  have H := Lib.hid h; clear h
  refine callsR fun R hR => ?_
  go_enter Tryz.func36, Tryz.ntmps36
  go_upto_region 1 with fail
  go_cut [8, 9] (fun sx sy wx => ∃ (jb : Nat) (v : V3) (e0 : Int), sx = .pointer (some ⟨jb, 0, none⟩) ∧ sy = .int .i64 e0 ∧ GetR ⟨0, 0, 0⟩ sh a g v e0 ∧ Hid (Led B w0 wx (slotEs t ph pi b n lh fh li fi sh si f ++ blkE (w.heap.size) 34 #[.int .i64 a, .int .i64 g] :: blkE (jb) 108 #[.int .i64 v.a, .int .i64 v.b, .int .i64 v.c] :: es)))
  case first =>
    have S1 := led_new (A := slotEs t ph pi b n lh fh li fi sh si f) (C := es) (T := 34) (cs := #[.int .i64 a, .int .i64 g]) H.out
    generalize w.alloc (.cells #[.int .i64 a, .int .i64 g] 34) = wy at S1 ⊢
    have H2 : Hid (Led B w0 wy (slotEs t ph pi b n lh fh li fi sh si f ++ blkE (w.heap.size) 34 #[.int .i64 a, .int .i64 g] :: es)) := Lib.hid (S1)
    have H3 : Hid (Led B w0 (wy.alloc (.cells #[.int .i64 0, .int .i64 0, .int .i64 0] 108)) (slotEs t ph pi b n lh fh li fi sh si f ++ blkE (w.heap.size) 34 #[.int .i64 a, .int .i64 g] :: blkE (wy.heap.size) 108 #[.int .i64 0, .int .i64 0, .int .i64 0] :: es)) := Lib.hid (led_new (A := slotEs t ph pi b n lh fh li fi sh si f ++ [blkE (w.heap.size) 34 #[.int .i64 a, .int .i64 g]]) (C := es) (T := 108) (cs := #[.int .i64 0, .int .i64 0, .int .i64 0]) H2.out)
    have ltt := (slotBlk H2.out).lt
    have ltr : w.heap.size < wy.heap.size := (show Blk wy (w.heap.size) 34 #[.int .i64 a, .int .i64 g] from H2.out.at_ 4 rfl).lt
    have HS : Hid (∀ W, Chg [] wy W → W.cell? ⟨t, 0, none⟩ = some (.pointer (some ⟨ph, 0, none⟩)) ∧ W.cell? ⟨w.heap.size, 0, none⟩ = some (.int .i64 a) ∧ W.cell? ⟨w.heap.size, 1, none⟩ = some (.int .i64 g)) :=
      Lib.hid fun W hW => have hl := H2.out.later (hW.below (by simp) (Nat.le_refl _)); ⟨slot_t0 hl, (show Blk W (w.heap.size) 34 #[.int .i64 a, .int .i64 g] from hl.at_ 4 rfl).cell 0, (show Blk W (w.heap.size) 34 #[.int .i64 a, .int .i64 g] from hl.at_ 4 rfl).cell 1⟩
    go_region_held3 (fun wx => wx.cell? ⟨t, 0, none⟩ = some (.pointer (some ⟨ph, 0, none⟩)) ∧ wx.cell? ⟨w.heap.size, 0, none⟩ = some (.int .i64 a) ∧ wx.cell? ⟨w.heap.size, 1, none⟩ = some (.int .i64 g)) (first | (refine HS.out _ ?_; (repeat' first | with_reducible exact Chg.refl _ _ | with_reducible refine Chg.drew ?_ | with_reducible refine Chg.drewN ?_ _ | with_reducible refine Chg.alloc ?_ _ | with_reducible refine Chg.setCell ?_ ?_ _ | (left; simp; done) | (right; exact Nat.le_refl _) | (right; dsimp only; omega)); done) | (refine HS2.out _ ?_; (repeat' first | with_reducible exact Chg.refl _ _ | with_reducible refine Chg.drew ?_ | with_reducible refine Chg.drewN ?_ _ | with_reducible refine Chg.alloc ?_ _ | with_reducible refine Chg.setCell ?_ ?_ _ | (left; simp; done) | (right; exact Nat.le_refl _) | (right; dsimp only; omega)); done)) (first | (go_at_call 73; refine Calls.mono (pool_get_heap ph lh fh sh a g _ (slotHeaps H2.out.drew)) ?_; rintro e w2 ⟨v, e0, rfl, q1, q2⟩; have S4 : Hid (Led B w0 w2 (slotEs t ph pi b n lh fh li fi sh si f ++ blkE (w.heap.size) 34 #[.int .i64 a, .int .i64 g] :: es)) := Lib.hid (H2.out.drew.later q2); have lt2 := q2.size; have HS2 : Hid (∀ W, Chg [wy.heap.size] w2 W → W.cell? ⟨t, 0, none⟩ = some (.pointer (some ⟨ph, 0, none⟩)) ∧ W.cell? ⟨w.heap.size, 0, none⟩ = some (.int .i64 a) ∧ W.cell? ⟨w.heap.size, 1, none⟩ = some (.int .i64 g)) := Lib.hid (fun W hW => ⟨(hW.cell (p := ⟨t, 0, none⟩) (slotBlk S4.out).lt (by simp; omega)).trans (slot_t0 S4.out), (hW.cell (p := ⟨w.heap.size, 0, none⟩) (show Blk w2 (w.heap.size) 34 #[.int .i64 a, .int .i64 g] from S4.out.at_ 4 rfl).lt (by simp; omega)).trans ((show Blk w2 (w.heap.size) 34 #[.int .i64 a, .int .i64 g] from S4.out.at_ 4 rfl).cell 0), (hW.cell (p := ⟨w.heap.size, 1, none⟩) (show Blk w2 (w.heap.size) 34 #[.int .i64 a, .int .i64 g] from S4.out.at_ 4 rfl).lt (by simp; omega)).trans ((show Blk w2 (w.heap.size) 34 #[.int .i64 a, .int .i64 g] from S4.out.at_ 4 rfl).cell 1)⟩); have Q1 := Lib.hid q1; clear q1 q2) | (go_at_call 73; refine Calls.mono (pool_get_heap ph lh fh sh a g _ (slotHeaps H3.out.drew)) ?_; rintro e w2 ⟨v, e0, rfl, q1, q2⟩; have S4 : Hid (Led B w0 w2 (slotEs t ph pi b n lh fh li fi sh si f ++ blkE (w.heap.size) 34 #[.int .i64 a, .int .i64 g] :: blkE (wy.heap.size) 108 #[.int .i64 0, .int .i64 0, .int .i64 0] :: es)) := Lib.hid (H3.out.drew.later q2); have lt2 := q2.size; have HS2 : Hid (∀ W, Chg [wy.heap.size] w2 W → W.cell? ⟨t, 0, none⟩ = some (.pointer (some ⟨ph, 0, none⟩)) ∧ W.cell? ⟨w.heap.size, 0, none⟩ = some (.int .i64 a) ∧ W.cell? ⟨w.heap.size, 1, none⟩ = some (.int .i64 g)) := Lib.hid (fun W hW => ⟨(hW.cell (p := ⟨t, 0, none⟩) (slotBlk S4.out).lt (by simp; omega)).trans (slot_t0 S4.out), (hW.cell (p := ⟨w.heap.size, 0, none⟩) (show Blk w2 (w.heap.size) 34 #[.int .i64 a, .int .i64 g] from S4.out.at_ 4 rfl).lt (by simp; omega)).trans ((show Blk w2 (w.heap.size) 34 #[.int .i64 a, .int .i64 g] from S4.out.at_ 4 rfl).cell 0), (hW.cell (p := ⟨w.heap.size, 1, none⟩) (show Blk w2 (w.heap.size) 34 #[.int .i64 a, .int .i64 g] from S4.out.at_ 4 rfl).lt (by simp; omega)).trans ((show Blk w2 (w.heap.size) 34 #[.int .i64 a, .int .i64 g] from S4.out.at_ 4 rfl).cell 1)⟩); have rb : Blk w2 wy.heap.size 108 #[.int .i64 0, .int .i64 0, .int .i64 0] := S4.out.at_ 5 rfl; obtain ⟨c0, c1, c2, fc0, fc1, fc2⟩ := rb.c3; have lrb := rb.lt; clear rb; have Q1 := Lib.hid q1; clear q1 q2))
    · go_wp2_with fail
      go_meet
      case rel => exact ⟨_, v, e0, rfl, rfl, Q1.out, Lib.hid (led_new (A := slotEs t ph pi b n lh fh li fi sh si f ++ [blkE (w.heap.size) 34 #[.int .i64 a, .int .i64 g]]) (C := es) S4.out)⟩
    · go_wp2_with fail
      go_meet
      case rel => exact ⟨_, v, e0, rfl, rfl, Q1.out, Lib.hid (led_store3 (A := slotEs t ph pi b n lh fh li fi sh si f ++ [blkE (w.heap.size) 34 #[.int .i64 a, .int .i64 g]]) (C := es) S4.out)⟩
  case rest =>
    clear H
    obtain ⟨jb, v, e0, rfl, rfl, q1, S⟩ := hcut
    have Q1 := Lib.hid q1
    clear q1
    have rb : Blk wc jb 108 #[.int .i64 v.a, .int .i64 v.b, .int .i64 v.c] := S.out.at_ 5 rfl
    have lb := rb.lt
    obtain ⟨c0, c1, c2, fc0, fc1, fc2⟩ := rb.c3
    clear rb
    go_wp2_with fail
    have HS : Hid (∀ W, Chg [] wc W → W.cell? ⟨jb, 0, none⟩ = some (.int .i64 v.a) ∧ W.cell? ⟨jb, 1, none⟩ = some (.int .i64 v.b) ∧ W.cell? ⟨jb, 2, none⟩ = some (.int .i64 v.c)) :=
      Lib.hid fun W hW => ⟨(hW.cell (p := ⟨jb, 0, none⟩) lb (by simp)).trans c0, (hW.cell (p := ⟨jb, 1, none⟩) lb (by simp)).trans c1, (hW.cell (p := ⟨jb, 2, none⟩) lb (by simp)).trans c2⟩
    go_region_held3 (fun wx => wx.cell? ⟨jb, 0, none⟩ = some (.int .i64 v.a) ∧ wx.cell? ⟨jb, 1, none⟩ = some (.int .i64 v.b) ∧ wx.cell? ⟨jb, 2, none⟩ = some (.int .i64 v.c)) ((refine HS.out _ ?_; (repeat' first | with_reducible exact Chg.refl _ _ | with_reducible refine Chg.drew ?_ | with_reducible refine Chg.drewN ?_ _ | with_reducible refine Chg.alloc ?_ _ | with_reducible refine Chg.setCell ?_ ?_ _ | (left; simp; done) | (right; exact Nat.le_refl _) | (right; dsimp only; omega)); done)) (fail)
    all_goals
      go_wp2_with fail
      exact bodyPost_ret (v := .tuple #[.int .i64 v.a, .int .i64 v.b, .int .i64 v.c, .int .i64 e0]) (by simp [results, Tryz.results36, go_sem]) rfl (hR.out _ _ ⟨v, e0, rfl, Q1.out, (led_cut (A := slotEs t ph pi b n lh fh li fi sh si f) (M := [_, _]) (C := es) S.out).drew⟩)
end Go.Proofs.YtognmhgdegpdiaaGreat
