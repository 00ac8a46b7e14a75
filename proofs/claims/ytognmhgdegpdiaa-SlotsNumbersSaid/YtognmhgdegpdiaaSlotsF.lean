import Derived.Test.YtognmhgdegpdiaaSlotsE
/- The table of slots: what each method does; Join. -/
namespace Go.Proofs.Ytognmhgdegpdiaa
open Go.RowKit
open Go.Maps (Keyed)
set_option linter.unusedVariables false
set_option linter.unusedSimpArgs false
set_option maxRecDepth 100000

set_option maxHeartbeats 4000000 in
theorem slots_join (B t ph pi b n : Nat) (lh fh li fi : Value) (sh si : PSt V3) (f : Int → Option (Int × Int)) (w0 w : World) (es : List Ent) (a g c d : Int) (hg : GensOk si) (h : Led B w0 w (slotEs t ph pi b n lh fh li fi sh si f ++ es)) :
    Calls Try.prog 11 #[.pointer (some ⟨t, 0, none⟩), .agg #[.int .i64 a, .int .i64 g], .agg #[.int .i64 c, .int .i64 d]] w fun e w' => ∃ (e0 : Int) (fh' : Value) (sh' si' : PSt V3), e = .returned (.int .i64 e0) ∧ JoinR sh si a g c d e0 sh' si' ∧ Led B w0 w' (slotEs t ph pi b n lh fh' li fi sh' si' f ++ es) := by
  have hw1 := (slotItems h).wf.le
  have hw2 := (slotItems h).wf.most
  have hlq := listQ_len si c d si.l.length
  have HG := Lib.hid hg
  have H := Lib.hid h
  clear hg h
  refine callsR fun R hR => ?_
  go_enter Try.func11, Try.ntmps11
  go_upto_region 1 with fail
  go_cut [7, 8] (fun sx sy wx => ∃ (jb : Nat) (v : V3) (e0 : Int), sx = .pointer (some ⟨jb, 0, none⟩) ∧ sy = .int .i64 e0 ∧ GetR ⟨0, 0, 0⟩ sh a g v e0 ∧ Hid (Led B w0 wx (slotEs t ph pi b n lh fh li fi sh si f ++ blkE (w.heap.size) 27 #[.int .i64 a, .int .i64 g] :: blkE (w.heap.size + 1) 27 #[.int .i64 c, .int .i64 d] :: blkE (jb) 52 #[.int .i64 v.a, .int .i64 v.b, .int .i64 v.c] :: es)))
  case first =>
    have S1 := led_new (A := slotEs t ph pi b n lh fh li fi sh si f) (C := es) (T := 27) (cs := #[.int .i64 a, .int .i64 g]) H.out
    have S2 := led_new (A := slotEs t ph pi b n lh fh li fi sh si f ++ [blkE (w.heap.size) 27 #[.int .i64 a, .int .i64 g]]) (C := es) (T := 27) (cs := #[.int .i64 c, .int .i64 d]) S1
    rw [World.size_alloc] at S2
    clear S1
    generalize (w.alloc (.cells #[.int .i64 a, .int .i64 g] 27)).alloc (.cells #[.int .i64 c, .int .i64 d] 27) = wy at S2 ⊢
    have H2 : Hid (Led B w0 wy (slotEs t ph pi b n lh fh li fi sh si f ++ blkE (w.heap.size) 27 #[.int .i64 a, .int .i64 g] :: blkE (w.heap.size + 1) 27 #[.int .i64 c, .int .i64 d] :: es)) := Lib.hid (S2)
    have H3 : Hid (Led B w0 (wy.alloc (.cells #[.int .i64 0, .int .i64 0, .int .i64 0] 52)) (slotEs t ph pi b n lh fh li fi sh si f ++ blkE (w.heap.size) 27 #[.int .i64 a, .int .i64 g] :: blkE (w.heap.size + 1) 27 #[.int .i64 c, .int .i64 d] :: blkE (wy.heap.size) 52 #[.int .i64 0, .int .i64 0, .int .i64 0] :: es)) := Lib.hid (led_new (A := slotEs t ph pi b n lh fh li fi sh si f ++ [blkE (w.heap.size) 27 #[.int .i64 a, .int .i64 g], blkE (w.heap.size + 1) 27 #[.int .i64 c, .int .i64 d]]) (C := es) (T := 52) (cs := #[.int .i64 0, .int .i64 0, .int .i64 0]) H2.out)
    have ltt := (slotBlk H2.out).lt
    have ltr : w.heap.size < wy.heap.size := (show Blk wy (w.heap.size) 27 #[.int .i64 a, .int .i64 g] from H2.out.at_ 4 rfl).lt
    have HS : Hid (∀ W, Chg [] wy W → W.cell? ⟨t, 0, none⟩ = some (.pointer (some ⟨ph, 0, none⟩)) ∧ W.cell? ⟨w.heap.size, 0, none⟩ = some (.int .i64 a) ∧ W.cell? ⟨w.heap.size, 1, none⟩ = some (.int .i64 g)) :=
      Lib.hid fun W hW => have hl := H2.out.later (hW.below (by simp) (Nat.le_refl _)); ⟨slot_t0 hl, (show Blk W (w.heap.size) 27 #[.int .i64 a, .int .i64 g] from hl.at_ 4 rfl).cell 0, (show Blk W (w.heap.size) 27 #[.int .i64 a, .int .i64 g] from hl.at_ 4 rfl).cell 1⟩
    go_region_held3 (fun wx => wx.cell? ⟨t, 0, none⟩ = some (.pointer (some ⟨ph, 0, none⟩)) ∧ wx.cell? ⟨w.heap.size, 0, none⟩ = some (.int .i64 a) ∧ wx.cell? ⟨w.heap.size, 1, none⟩ = some (.int .i64 g)) (first | (refine HS.out _ ?_; (repeat' first | with_reducible exact Chg.refl _ _ | with_reducible refine Chg.drew ?_ | with_reducible refine Chg.drewN ?_ _ | with_reducible refine Chg.alloc ?_ _ | with_reducible refine Chg.setCell ?_ ?_ _ | (left; simp; done) | (right; exact Nat.le_refl _) | (right; dsimp only; omega)); done) | (refine HS2.out _ ?_; (repeat' first | with_reducible exact Chg.refl _ _ | with_reducible refine Chg.drew ?_ | with_reducible refine Chg.drewN ?_ _ | with_reducible refine Chg.alloc ?_ _ | with_reducible refine Chg.setCell ?_ ?_ _ | (left; simp; done) | (right; exact Nat.le_refl _) | (right; dsimp only; omega)); done)) (first | (go_at_call 25; refine Calls.mono (pool_get_heap ph lh fh sh a g _ (slotHeaps H2.out.drew)) ?_; rintro e w2 ⟨v, e0, rfl, q1, q2⟩; have S4 : Hid (Led B w0 w2 (slotEs t ph pi b n lh fh li fi sh si f ++ blkE (w.heap.size) 27 #[.int .i64 a, .int .i64 g] :: blkE (w.heap.size + 1) 27 #[.int .i64 c, .int .i64 d] :: es)) := Lib.hid (H2.out.drew.later q2); have lt2 := q2.size; have HS2 : Hid (∀ W, Chg [wy.heap.size] w2 W → W.cell? ⟨t, 0, none⟩ = some (.pointer (some ⟨ph, 0, none⟩)) ∧ W.cell? ⟨w.heap.size, 0, none⟩ = some (.int .i64 a) ∧ W.cell? ⟨w.heap.size, 1, none⟩ = some (.int .i64 g)) := Lib.hid (fun W hW => ⟨(hW.cell (p := ⟨t, 0, none⟩) (slotBlk S4.out).lt (by simp; omega)).trans (slot_t0 S4.out), (hW.cell (p := ⟨w.heap.size, 0, none⟩) (show Blk w2 (w.heap.size) 27 #[.int .i64 a, .int .i64 g] from S4.out.at_ 4 rfl).lt (by simp; omega)).trans ((show Blk w2 (w.heap.size) 27 #[.int .i64 a, .int .i64 g] from S4.out.at_ 4 rfl).cell 0), (hW.cell (p := ⟨w.heap.size, 1, none⟩) (show Blk w2 (w.heap.size) 27 #[.int .i64 a, .int .i64 g] from S4.out.at_ 4 rfl).lt (by simp; omega)).trans ((show Blk w2 (w.heap.size) 27 #[.int .i64 a, .int .i64 g] from S4.out.at_ 4 rfl).cell 1)⟩); have Q1 := Lib.hid q1; clear q1 q2) | (go_at_call 25; refine Calls.mono (pool_get_heap ph lh fh sh a g _ (slotHeaps H3.out.drew)) ?_; rintro e w2 ⟨v, e0, rfl, q1, q2⟩; have S4 : Hid (Led B w0 w2 (slotEs t ph pi b n lh fh li fi sh si f ++ blkE (w.heap.size) 27 #[.int .i64 a, .int .i64 g] :: blkE (w.heap.size + 1) 27 #[.int .i64 c, .int .i64 d] :: blkE (wy.heap.size) 52 #[.int .i64 0, .int .i64 0, .int .i64 0] :: es)) := Lib.hid (H3.out.drew.later q2); have lt2 := q2.size; have HS2 : Hid (∀ W, Chg [wy.heap.size] w2 W → W.cell? ⟨t, 0, none⟩ = some (.pointer (some ⟨ph, 0, none⟩)) ∧ W.cell? ⟨w.heap.size, 0, none⟩ = some (.int .i64 a) ∧ W.cell? ⟨w.heap.size, 1, none⟩ = some (.int .i64 g)) := Lib.hid (fun W hW => ⟨(hW.cell (p := ⟨t, 0, none⟩) (slotBlk S4.out).lt (by simp; omega)).trans (slot_t0 S4.out), (hW.cell (p := ⟨w.heap.size, 0, none⟩) (show Blk w2 (w.heap.size) 27 #[.int .i64 a, .int .i64 g] from S4.out.at_ 4 rfl).lt (by simp; omega)).trans ((show Blk w2 (w.heap.size) 27 #[.int .i64 a, .int .i64 g] from S4.out.at_ 4 rfl).cell 0), (hW.cell (p := ⟨w.heap.size, 1, none⟩) (show Blk w2 (w.heap.size) 27 #[.int .i64 a, .int .i64 g] from S4.out.at_ 4 rfl).lt (by simp; omega)).trans ((show Blk w2 (w.heap.size) 27 #[.int .i64 a, .int .i64 g] from S4.out.at_ 4 rfl).cell 1)⟩); have rb : Blk w2 wy.heap.size 52 #[.int .i64 0, .int .i64 0, .int .i64 0] := S4.out.at_ 6 rfl; have c0 := rb.cell 0; have fc0 := rb.frozen 0; have c1 := rb.cell 1; have fc1 := rb.frozen 1; have c2 := rb.cell 2; have fc2 := rb.frozen 2; simp only [List.getElem?_toArray, List.getElem?_cons_zero, List.getElem?_cons_succ] at c0 c1 c2; have lrb := rb.lt; clear rb; have Q1 := Lib.hid q1; clear q1 q2))
    · go_wp2_with fail
      go_meet
      case rel => exact ⟨_, v, e0, rfl, rfl, Q1.out, Lib.hid (led_new (A := slotEs t ph pi b n lh fh li fi sh si f ++ [blkE (w.heap.size) 27 #[.int .i64 a, .int .i64 g], blkE (w.heap.size + 1) 27 #[.int .i64 c, .int .i64 d]]) (C := es) S4.out)⟩
    · go_wp2_with fail
      go_meet
      case rel => exact ⟨_, v, e0, rfl, rfl, Q1.out, Lib.hid (led_store3 (A := slotEs t ph pi b n lh fh li fi sh si f ++ [blkE (w.heap.size) 27 #[.int .i64 a, .int .i64 g], blkE (w.heap.size + 1) 27 #[.int .i64 c, .int .i64 d]]) (C := es) S4.out)⟩
  case rest =>
    clear H
    obtain ⟨jb, v, e0, rfl, rfl, q1, S⟩ := hcut
    have Q1 := Lib.hid q1
    clear q1
    have rb : Blk wc jb 52 #[.int .i64 v.a, .int .i64 v.b, .int .i64 v.c] := S.out.at_ 6 rfl
    have lb := rb.lt
    have c0 := rb.cell 0; have fc0 := rb.frozen 0; have c1 := rb.cell 1; have fc1 := rb.frozen 1; have c2 := rb.cell 2; have fc2 := rb.frozen 2; simp only [List.getElem?_toArray, List.getElem?_cons_zero, List.getElem?_cons_succ] at c0 c1 c2
    clear rb
    rcases Q1.out with ⟨he, hl, _⟩ | ⟨i, x, rfl, rfl, hx, hxt, hg1, rfl, rfl⟩
    · have hne : (e0 != 0) = true := by simpa using he
      go_wp2_with fail
      exact hR.out _ _ ⟨e0, fh, sh, si, rfl, .inl ⟨he, hl, rfl, rfl⟩, led_cut (A := slotEs t ph pi b n lh fh li fi sh si f) (M := [_, _, _]) (C := es) S.out⟩
    · have HX := Lib.hid hx; have HXT := Lib.hid hxt; clear hx hxt Q1
      go_upto_region 4 with fail
      clear c0 fc0 c1 fc1 c2 fc2 lb
      go_cut [9, 8] (fun sx sy wx => ∃ (kb : Nat) (v : V3) (e0 : Int), sx = .pointer (some ⟨kb, 0, none⟩) ∧ sy = .int .i64 e0 ∧ GetR ⟨0, 0, 0⟩ sh c d v e0 ∧ Hid (Led B w0 wx (slotEs t ph pi b n lh fh li fi sh si f ++ blkE (w.heap.size) 27 #[.int .i64 i, .int .i64 x.gen] :: blkE (w.heap.size + 1) 27 #[.int .i64 c, .int .i64 d] :: blkE (jb) 52 #[.int .i64 x.v.a, .int .i64 x.v.b, .int .i64 x.v.c] :: blkE (kb) 52 #[.int .i64 v.a, .int .i64 v.b, .int .i64 v.c] :: es)))
      case first =>
        have S3 := S.out
        generalize wc = wy at S3 ⊢
        have H2 : Hid (Led B w0 wy (slotEs t ph pi b n lh fh li fi sh si f ++ blkE (w.heap.size) 27 #[.int .i64 i, .int .i64 x.gen] :: blkE (w.heap.size + 1) 27 #[.int .i64 c, .int .i64 d] :: blkE (jb) 52 #[.int .i64 x.v.a, .int .i64 x.v.b, .int .i64 x.v.c] :: es)) := Lib.hid (S3)
        have H3 : Hid (Led B w0 (wy.alloc (.cells #[.int .i64 0, .int .i64 0, .int .i64 0] 52)) (slotEs t ph pi b n lh fh li fi sh si f ++ blkE (w.heap.size) 27 #[.int .i64 i, .int .i64 x.gen] :: blkE (w.heap.size + 1) 27 #[.int .i64 c, .int .i64 d] :: blkE (jb) 52 #[.int .i64 x.v.a, .int .i64 x.v.b, .int .i64 x.v.c] :: blkE (wy.heap.size) 52 #[.int .i64 0, .int .i64 0, .int .i64 0] :: es)) := Lib.hid (led_new (A := slotEs t ph pi b n lh fh li fi sh si f ++ [blkE (w.heap.size) 27 #[.int .i64 i, .int .i64 x.gen], blkE (w.heap.size + 1) 27 #[.int .i64 c, .int .i64 d], blkE (jb) 52 #[.int .i64 x.v.a, .int .i64 x.v.b, .int .i64 x.v.c]]) (C := es) (T := 52) (cs := #[.int .i64 0, .int .i64 0, .int .i64 0]) H2.out)
        have ltt := (slotBlk H2.out).lt
        have ltr : w.heap.size + 1 < wy.heap.size := (show Blk wy (w.heap.size + 1) 27 #[.int .i64 c, .int .i64 d] from H2.out.at_ 5 rfl).lt
        have HS : Hid (∀ W, Chg [] wy W → W.cell? ⟨t, 0, none⟩ = some (.pointer (some ⟨ph, 0, none⟩)) ∧ W.cell? ⟨w.heap.size + 1, 0, none⟩ = some (.int .i64 c) ∧ W.cell? ⟨w.heap.size + 1, 1, none⟩ = some (.int .i64 d)) :=
          Lib.hid fun W hW => have hl := H2.out.later (hW.below (by simp) (Nat.le_refl _)); ⟨slot_t0 hl, (show Blk W (w.heap.size + 1) 27 #[.int .i64 c, .int .i64 d] from hl.at_ 5 rfl).cell 0, (show Blk W (w.heap.size + 1) 27 #[.int .i64 c, .int .i64 d] from hl.at_ 5 rfl).cell 1⟩
        go_region_held3 (fun wx => wx.cell? ⟨t, 0, none⟩ = some (.pointer (some ⟨ph, 0, none⟩)) ∧ wx.cell? ⟨w.heap.size + 1, 0, none⟩ = some (.int .i64 c) ∧ wx.cell? ⟨w.heap.size + 1, 1, none⟩ = some (.int .i64 d)) (first | (refine HS.out _ ?_; (repeat' first | with_reducible exact Chg.refl _ _ | with_reducible refine Chg.drew ?_ | with_reducible refine Chg.drewN ?_ _ | with_reducible refine Chg.alloc ?_ _ | with_reducible refine Chg.setCell ?_ ?_ _ | (left; simp; done) | (right; exact Nat.le_refl _) | (right; dsimp only; omega)); done) | (refine HS2.out _ ?_; (repeat' first | with_reducible exact Chg.refl _ _ | with_reducible refine Chg.drew ?_ | with_reducible refine Chg.drewN ?_ _ | with_reducible refine Chg.alloc ?_ _ | with_reducible refine Chg.setCell ?_ ?_ _ | (left; simp; done) | (right; exact Nat.le_refl _) | (right; dsimp only; omega)); done)) (first | (go_at_call 25; refine Calls.mono (pool_get_heap ph lh fh sh c d _ (slotHeaps H2.out.drew)) ?_; rintro e w2 ⟨v, e0, rfl, q1, q2⟩; have S4 : Hid (Led B w0 w2 (slotEs t ph pi b n lh fh li fi sh si f ++ blkE (w.heap.size) 27 #[.int .i64 i, .int .i64 x.gen] :: blkE (w.heap.size + 1) 27 #[.int .i64 c, .int .i64 d] :: blkE (jb) 52 #[.int .i64 x.v.a, .int .i64 x.v.b, .int .i64 x.v.c] :: es)) := Lib.hid (H2.out.drew.later q2); have lt2 := q2.size; have HS2 : Hid (∀ W, Chg [wy.heap.size] w2 W → W.cell? ⟨t, 0, none⟩ = some (.pointer (some ⟨ph, 0, none⟩)) ∧ W.cell? ⟨w.heap.size + 1, 0, none⟩ = some (.int .i64 c) ∧ W.cell? ⟨w.heap.size + 1, 1, none⟩ = some (.int .i64 d)) := Lib.hid (fun W hW => ⟨(hW.cell (p := ⟨t, 0, none⟩) (slotBlk S4.out).lt (by simp; omega)).trans (slot_t0 S4.out), (hW.cell (p := ⟨w.heap.size + 1, 0, none⟩) (show Blk w2 (w.heap.size + 1) 27 #[.int .i64 c, .int .i64 d] from S4.out.at_ 5 rfl).lt (by simp; omega)).trans ((show Blk w2 (w.heap.size + 1) 27 #[.int .i64 c, .int .i64 d] from S4.out.at_ 5 rfl).cell 0), (hW.cell (p := ⟨w.heap.size + 1, 1, none⟩) (show Blk w2 (w.heap.size + 1) 27 #[.int .i64 c, .int .i64 d] from S4.out.at_ 5 rfl).lt (by simp; omega)).trans ((show Blk w2 (w.heap.size + 1) 27 #[.int .i64 c, .int .i64 d] from S4.out.at_ 5 rfl).cell 1)⟩); have Q1 := Lib.hid q1; clear q1 q2) | (go_at_call 25; refine Calls.mono (pool_get_heap ph lh fh sh c d _ (slotHeaps H3.out.drew)) ?_; rintro e w2 ⟨v, e0, rfl, q1, q2⟩; have S4 : Hid (Led B w0 w2 (slotEs t ph pi b n lh fh li fi sh si f ++ blkE (w.heap.size) 27 #[.int .i64 i, .int .i64 x.gen] :: blkE (w.heap.size + 1) 27 #[.int .i64 c, .int .i64 d] :: blkE (jb) 52 #[.int .i64 x.v.a, .int .i64 x.v.b, .int .i64 x.v.c] :: blkE (wy.heap.size) 52 #[.int .i64 0, .int .i64 0, .int .i64 0] :: es)) := Lib.hid (H3.out.drew.later q2); have lt2 := q2.size; have HS2 : Hid (∀ W, Chg [wy.heap.size] w2 W → W.cell? ⟨t, 0, none⟩ = some (.pointer (some ⟨ph, 0, none⟩)) ∧ W.cell? ⟨w.heap.size + 1, 0, none⟩ = some (.int .i64 c) ∧ W.cell? ⟨w.heap.size + 1, 1, none⟩ = some (.int .i64 d)) := Lib.hid (fun W hW => ⟨(hW.cell (p := ⟨t, 0, none⟩) (slotBlk S4.out).lt (by simp; omega)).trans (slot_t0 S4.out), (hW.cell (p := ⟨w.heap.size + 1, 0, none⟩) (show Blk w2 (w.heap.size + 1) 27 #[.int .i64 c, .int .i64 d] from S4.out.at_ 5 rfl).lt (by simp; omega)).trans ((show Blk w2 (w.heap.size + 1) 27 #[.int .i64 c, .int .i64 d] from S4.out.at_ 5 rfl).cell 0), (hW.cell (p := ⟨w.heap.size + 1, 1, none⟩) (show Blk w2 (w.heap.size + 1) 27 #[.int .i64 c, .int .i64 d] from S4.out.at_ 5 rfl).lt (by simp; omega)).trans ((show Blk w2 (w.heap.size + 1) 27 #[.int .i64 c, .int .i64 d] from S4.out.at_ 5 rfl).cell 1)⟩); have rb : Blk w2 wy.heap.size 52 #[.int .i64 0, .int .i64 0, .int .i64 0] := S4.out.at_ 7 rfl; have c0 := rb.cell 0; have fc0 := rb.frozen 0; have c1 := rb.cell 1; have fc1 := rb.frozen 1; have c2 := rb.cell 2; have fc2 := rb.frozen 2; simp only [List.getElem?_toArray, List.getElem?_cons_zero, List.getElem?_cons_succ] at c0 c1 c2; have lrb := rb.lt; clear rb; have Q1 := Lib.hid q1; clear q1 q2))
        · go_wp2_with fail
          go_meet
          case rel => exact ⟨_, v, e0, rfl, rfl, Q1.out, Lib.hid (led_new (A := slotEs t ph pi b n lh fh li fi sh si f ++ [blkE (w.heap.size) 27 #[.int .i64 i, .int .i64 x.gen], blkE (w.heap.size + 1) 27 #[.int .i64 c, .int .i64 d], blkE (jb) 52 #[.int .i64 x.v.a, .int .i64 x.v.b, .int .i64 x.v.c]]) (C := es) S4.out)⟩
        · go_wp2_with fail
          go_meet
          case rel => exact ⟨_, v, e0, rfl, rfl, Q1.out, Lib.hid (led_store3 (A := slotEs t ph pi b n lh fh li fi sh si f ++ [blkE (w.heap.size) 27 #[.int .i64 i, .int .i64 x.gen], blkE (w.heap.size + 1) 27 #[.int .i64 c, .int .i64 d], blkE (jb) 52 #[.int .i64 x.v.a, .int .i64 x.v.b, .int .i64 x.v.c]]) (C := es) S4.out)⟩
      case rest =>
        clear S
        obtain ⟨kb, v, e0, rfl, rfl, q1, S⟩ := hcut
        have Q1 := Lib.hid q1
        clear q1
        have rb : Blk wc kb 52 #[.int .i64 v.a, .int .i64 v.b, .int .i64 v.c] := S.out.at_ 7 rfl
        have lb := rb.lt
        have d0 := rb.cell 0; have fd0 := rb.frozen 0; have d1 := rb.cell 1; have fd1 := rb.frozen 1; have d2 := rb.cell 2; have fd2 := rb.frozen 2; simp only [List.getElem?_toArray, List.getElem?_cons_zero, List.getElem?_cons_succ] at d0 d1 d2
        clear rb
        rcases Q1.out with ⟨he, hl, _⟩ | ⟨k, y, rfl, rfl, hy, hyt, hg2, rfl, rfl⟩
        · have hne : (e0 != 0) = true := by simpa using he
          go_wp2_with fail
          exact hR.out _ _ ⟨e0, fh, sh, si, rfl, .inr (.inl ⟨look_ok HX.out HXT.out hg1, he, hl, rfl, rfl⟩), led_cut (A := slotEs t ph pi b n lh fh li fi sh si f) (M := [_, _, _, _]) (C := es) S.out⟩
        · have HY := Lib.hid hy; have HYT := Lib.hid hyt; clear hy hyt Q1
          have rq := ref_eql
          have hr0 : Blk wc w.heap.size 27 #[.int .i64 i, .int .i64 x.gen] := S.out.at_ 4 rfl
          have h0 := hr0.cell 0; have fh0 := hr0.frozen 0; have h1 := hr0.cell 1; have fh1 := hr0.frozen 1; simp only [List.getElem?_toArray, List.getElem?_cons_zero, List.getElem?_cons_succ] at h0 h1
          clear hr0
          have or0 : Blk wc (w.heap.size + 1) 27 #[.int .i64 k, .int .i64 y.gen] := S.out.at_ 5 rfl
          have o0 := or0.cell 0; have fo0 := or0.frozen 0; have o1 := or0.cell 1; have fo1 := or0.frozen 1; simp only [List.getElem?_toArray, List.getElem?_cons_zero, List.getElem?_cons_succ] at o0 o1
          clear or0
          have xb0 : Blk wc jb 52 #[.int .i64 x.v.a, .int .i64 x.v.b, .int .i64 x.v.c] := S.out.at_ 6 rfl
          have c0 := xb0.cell 0; have fc0 := xb0.frozen 0; have c1 := xb0.cell 1; have fc1 := xb0.frozen 1; have c2 := xb0.cell 2; have fc2 := xb0.frozen 2; simp only [List.getElem?_toArray, List.getElem?_cons_zero, List.getElem?_cons_succ] at c0 c1 c2
          clear xb0
          cases hrr : refEq (i : Int) x.gen (k : Int) y.gen with
          | true =>
            go_wp2_with fail
            exact hR.out _ _ ⟨25, fh, sh, si, rfl, .inr (.inr ⟨i, k, x, y, rfl, rfl, rfl, rfl, HX.out, HY.out, HXT.out, HYT.out, hg1, hg2, .inl ⟨hrr, rfl, rfl, rfl⟩⟩), led_cut (A := slotEs t ph pi b n lh fh li fi sh si f) (M := [_, _, _, _]) (C := es) S.out⟩
          | false =>
            by_cases hkk : x.v.a = y.v.a
            · have hkb : (x.v.a != y.v.a) = false := by simpa using hkk
              go_wp2_with fail
              refine Calls.mono (slots_list B t ph pi b n lh fh li fi sh si f w0 wc _ (k : Int) y.gen HG.out S.out) ?_
              rintro e w1 ⟨v, rfl, q1⟩
              generalize hT : listQ si (k : Int) y.gen (allTo si.l si.l.length) = T at *
              have hTT : TabIs w1 0 27 2 v (rowsR T) := q1.at_ 4 rfl
              obtain ⟨At, ct, rfl, hct, hAt⟩ := hTT.form
              obtain ⟨nt, hnt⟩ : ∃ n, T.length = n := ⟨_, rfl⟩
              have hrl : (rowsR T).length = nt := by rw [rowsR, List.length_map, hnt]
              rw [hrl] at hct hAt q1 ⊢
              have S1 : Hid (Led B w0 w1 (slotEs t ph pi b n lh fh li fi sh si f ++ tabE 27 2 (.slice At nt ct) (rowsR T) :: blkE (w.heap.size) 27 #[.int .i64 i, .int .i64 x.gen] :: blkE (w.heap.size + 1) 27 #[.int .i64 k, .int .i64 y.gen] :: blkE (jb) 52 #[.int .i64 x.v.a, .int .i64 x.v.b, .int .i64 x.v.c] :: blkE (kb) 52 #[.int .i64 y.v.a, .int .i64 y.v.b, .int .i64 y.v.c] :: es)) := Lib.hid q1
              have HTE := Lib.hid hT
              have HNT := Lib.hid hnt
              clear q1 hTT hT S h0 fh0 h1 fh1 o0 fo0 o1 fo1 c0 fc0 c1 fc1 c2 fc2 d0 fd0 d1 fd1 d2 fd2 lb rq
              go_wp2_with fail
              go_loopw [53] (fun q wx => ∃ (j : Nat) (sj : PSt V3), j ≤ nt ∧ q = .int .i64 j ∧ Hid (putAll i x.gen si (T.take j) = sj) ∧ Hid (Led B w0 wx (slotEs t ph pi b n lh fh li fi sh sj f ++ tabE 27 2 (.slice At nt ct) (rowsR T) :: blkE (w.heap.size) 27 #[.int .i64 i, .int .i64 x.gen] :: blkE (w.heap.size + 1) 27 #[.int .i64 k, .int .i64 y.gen] :: blkE (jb) 52 #[.int .i64 x.v.a, .int .i64 x.v.b, .int .i64 x.v.c] :: blkE (kb) 52 #[.int .i64 y.v.a, .int .i64 y.v.b, .int .i64 y.v.c] :: es))) (fun q _ => nt - (intOf q).toNat)
              case atStart => exact ⟨0, si, by omega, rfl, Lib.hid rfl, S1⟩
              case round =>
                clear S1
                obtain ⟨j, sj, hj, rfl, HM, ST⟩ := hrel
                by_cases hlt : j < nt
                · obtain ⟨r, hr⟩ : ∃ r, T[j]? = some r := ⟨_, List.getElem?_eq_getElem (by omega)⟩
                  obtain ⟨i2, x2, rfl, hx2, hxt2, _, _⟩ := listQ_get (by rw [HTE.out]; exact hr)
                  have hg3 := HG.out i2 x2 hx2 hxt2
                  have hsame : sj.l[i2]? = some x2 := by
                    have := putFold_at i x.gen i2 (T.take j) si (sorted_ahead (by rw [← HTE.out]; exact listQ_sorted _ _ _ _) (by rw [← HTE.out]; exact listQ_pos) hr)
                    have h2 := HM.out
                    unfold putAll at h2
                    rw [h2] at this
                    exact this.trans hx2
                  have hms : putAll i x.gen si (T.take (j + 1)) = (sj.setAt i2 x2 ⟨x2.v.a, i, x.gen⟩) := by
                    have h2 := HM.out
                    unfold putAll at h2 ⊢
                    rw [foldl_take_succ _ _ hr, h2]
                    simp [putStep, hsame]
                  have HMS := Lib.hid hms
                  obtain ⟨gt, rfl, hgt0, _⟩ := hAt (by omega)
                  have hTT : TabIs wr 0 27 2 (.slice (some ⟨gt, 0, none⟩) nt ct) (rowsR T) := ST.out.at_ 4 rfl
                  have hgt : gt < wr.heap.size := (hTT.lt gt (by simp [Value.ownBlock])).2
                  have t0 : wr.cell? ⟨gt, j * 2, none⟩ = some (.int .i64 (i2 : Int)) := hTT.cell (j := 0) (r := [.int .i64 (i2 : Int), .int .i64 x2.gen]) (by rw [rowsR, List.getElem?_map, hr]; rfl) rfl
                  have t1 : wr.cell? ⟨gt, j * 2 + 1, none⟩ = some (.int .i64 x2.gen) := hTT.cell (j := 1) (r := [.int .i64 (i2 : Int), .int .i64 x2.gen]) (by rw [rowsR, List.getElem?_map, hr]; rfl) rfl
                  have HX2 := Lib.hid hsame; have HXT2 := Lib.hid hxt2
                  clear hx2 hxt2 hr hTT hsame hms HM
                  go_upto_region 14 with fail
                  go_cut [12, 13] (fun sx sy wx => ∃ (zb : Nat) (v : V3) (e0 : Int), sx = .pointer (some ⟨zb, 0, none⟩) ∧ sy = .int .i64 e0 ∧ GetR ⟨0, 0, 0⟩ sj i2 x2.gen v e0 ∧ Hid (Led B w0 wx (slotEs t ph pi b n lh fh li fi sh sj f ++ tabE 27 2 (.slice (some ⟨gt, 0, none⟩) nt ct) (rowsR T) :: blkE (w.heap.size) 27 #[.int .i64 i, .int .i64 x.gen] :: blkE (w.heap.size + 1) 27 #[.int .i64 k, .int .i64 y.gen] :: blkE (jb) 52 #[.int .i64 x.v.a, .int .i64 x.v.b, .int .i64 x.v.c] :: blkE (kb) 52 #[.int .i64 y.v.a, .int .i64 y.v.b, .int .i64 y.v.c] :: blkE (wr.heap.size) 27 #[.int .i64 i2, .int .i64 x2.gen] :: blkE (zb) 56 #[.int .i64 v.a, .int .i64 v.b, .int .i64 v.c] :: es)))
                  case first =>
                    have S2 := led_new (A := slotEs t ph pi b n lh fh li fi sh sj f ++ [tabE 27 2 (.slice (some ⟨gt, 0, none⟩) nt ct) (rowsR T), blkE (w.heap.size) 27 #[.int .i64 i, .int .i64 x.gen], blkE (w.heap.size + 1) 27 #[.int .i64 k, .int .i64 y.gen], blkE (jb) 52 #[.int .i64 x.v.a, .int .i64 x.v.b, .int .i64 x.v.c], blkE (kb) 52 #[.int .i64 y.v.a, .int .i64 y.v.b, .int .i64 y.v.c]]) (C := es) (T := 27) (cs := #[.int .i64 i2, .int .i64 x2.gen]) ST.out
                    clear t0 t1
                    generalize wr.alloc (.cells #[.int .i64 i2, .int .i64 x2.gen] 27) = wy at S2 ⊢
                    have H2 : Hid (Led B w0 wy (slotEs t ph pi b n lh fh li fi sh sj f ++ tabE 27 2 (.slice (some ⟨gt, 0, none⟩) nt ct) (rowsR T) :: blkE (w.heap.size) 27 #[.int .i64 i, .int .i64 x.gen] :: blkE (w.heap.size + 1) 27 #[.int .i64 k, .int .i64 y.gen] :: blkE (jb) 52 #[.int .i64 x.v.a, .int .i64 x.v.b, .int .i64 x.v.c] :: blkE (kb) 52 #[.int .i64 y.v.a, .int .i64 y.v.b, .int .i64 y.v.c] :: blkE (wr.heap.size) 27 #[.int .i64 i2, .int .i64 x2.gen] :: es)) := Lib.hid (S2)
                    have H3 : Hid (Led B w0 (wy.alloc (.cells #[.int .i64 0, .int .i64 0, .int .i64 0] 56)) (slotEs t ph pi b n lh fh li fi sh sj f ++ tabE 27 2 (.slice (some ⟨gt, 0, none⟩) nt ct) (rowsR T) :: blkE (w.heap.size) 27 #[.int .i64 i, .int .i64 x.gen] :: blkE (w.heap.size + 1) 27 #[.int .i64 k, .int .i64 y.gen] :: blkE (jb) 52 #[.int .i64 x.v.a, .int .i64 x.v.b, .int .i64 x.v.c] :: blkE (kb) 52 #[.int .i64 y.v.a, .int .i64 y.v.b, .int .i64 y.v.c] :: blkE (wr.heap.size) 27 #[.int .i64 i2, .int .i64 x2.gen] :: blkE (wy.heap.size) 56 #[.int .i64 0, .int .i64 0, .int .i64 0] :: es)) := Lib.hid (led_new (A := slotEs t ph pi b n lh fh li fi sh sj f ++ [tabE 27 2 (.slice (some ⟨gt, 0, none⟩) nt ct) (rowsR T), blkE (w.heap.size) 27 #[.int .i64 i, .int .i64 x.gen], blkE (w.heap.size + 1) 27 #[.int .i64 k, .int .i64 y.gen], blkE (jb) 52 #[.int .i64 x.v.a, .int .i64 x.v.b, .int .i64 x.v.c], blkE (kb) 52 #[.int .i64 y.v.a, .int .i64 y.v.b, .int .i64 y.v.c], blkE (wr.heap.size) 27 #[.int .i64 i2, .int .i64 x2.gen]]) (C := es) (T := 56) (cs := #[.int .i64 0, .int .i64 0, .int .i64 0]) H2.out)
                    have ltt := (slotBlk H2.out).lt
                    have ltr : wr.heap.size < wy.heap.size := (show Blk wy (wr.heap.size) 27 #[.int .i64 i2, .int .i64 x2.gen] from H2.out.at_ 9 rfl).lt
                    have HS : Hid (∀ W, Chg [] wy W → W.cell? ⟨t, 1, none⟩ = some (.pointer (some ⟨pi, 0, none⟩)) ∧ W.cell? ⟨wr.heap.size, 0, none⟩ = some (.int .i64 i2) ∧ W.cell? ⟨wr.heap.size, 1, none⟩ = some (.int .i64 x2.gen)) :=
                      Lib.hid fun W hW => have hl := H2.out.later (hW.below (by simp) (Nat.le_refl _)); ⟨slot_t1 hl, (show Blk W (wr.heap.size) 27 #[.int .i64 i2, .int .i64 x2.gen] from hl.at_ 9 rfl).cell 0, (show Blk W (wr.heap.size) 27 #[.int .i64 i2, .int .i64 x2.gen] from hl.at_ 9 rfl).cell 1⟩
                    go_region_held3 (fun wx => wx.cell? ⟨t, 1, none⟩ = some (.pointer (some ⟨pi, 0, none⟩)) ∧ wx.cell? ⟨wr.heap.size, 0, none⟩ = some (.int .i64 i2) ∧ wx.cell? ⟨wr.heap.size, 1, none⟩ = some (.int .i64 x2.gen)) (first | (refine HS.out _ ?_; (repeat' first | with_reducible exact Chg.refl _ _ | with_reducible refine Chg.drew ?_ | with_reducible refine Chg.drewN ?_ _ | with_reducible refine Chg.alloc ?_ _ | with_reducible refine Chg.setCell ?_ ?_ _ | (left; simp; done) | (right; exact Nat.le_refl _) | (right; dsimp only; omega)); done) | (refine HS2.out _ ?_; (repeat' first | with_reducible exact Chg.refl _ _ | with_reducible refine Chg.drew ?_ | with_reducible refine Chg.drewN ?_ _ | with_reducible refine Chg.alloc ?_ _ | with_reducible refine Chg.setCell ?_ ?_ _ | (left; simp; done) | (right; exact Nat.le_refl _) | (right; dsimp only; omega)); done)) (first | (go_at_call 30; refine Calls.mono (pool_get_thing pi li fi sj i2 x2.gen _ (slotItems H2.out.drew)) ?_; rintro e w2 ⟨v, e0, rfl, q1, q2⟩; have S4 : Hid (Led B w0 w2 (slotEs t ph pi b n lh fh li fi sh sj f ++ tabE 27 2 (.slice (some ⟨gt, 0, none⟩) nt ct) (rowsR T) :: blkE (w.heap.size) 27 #[.int .i64 i, .int .i64 x.gen] :: blkE (w.heap.size + 1) 27 #[.int .i64 k, .int .i64 y.gen] :: blkE (jb) 52 #[.int .i64 x.v.a, .int .i64 x.v.b, .int .i64 x.v.c] :: blkE (kb) 52 #[.int .i64 y.v.a, .int .i64 y.v.b, .int .i64 y.v.c] :: blkE (wr.heap.size) 27 #[.int .i64 i2, .int .i64 x2.gen] :: es)) := Lib.hid (H2.out.drew.later q2); have lt2 := q2.size; have HS2 : Hid (∀ W, Chg [wy.heap.size] w2 W → W.cell? ⟨t, 1, none⟩ = some (.pointer (some ⟨pi, 0, none⟩)) ∧ W.cell? ⟨wr.heap.size, 0, none⟩ = some (.int .i64 i2) ∧ W.cell? ⟨wr.heap.size, 1, none⟩ = some (.int .i64 x2.gen)) := Lib.hid (fun W hW => ⟨(hW.cell (p := ⟨t, 1, none⟩) (slotBlk S4.out).lt (by simp; omega)).trans (slot_t1 S4.out), (hW.cell (p := ⟨wr.heap.size, 0, none⟩) (show Blk w2 (wr.heap.size) 27 #[.int .i64 i2, .int .i64 x2.gen] from S4.out.at_ 9 rfl).lt (by simp; omega)).trans ((show Blk w2 (wr.heap.size) 27 #[.int .i64 i2, .int .i64 x2.gen] from S4.out.at_ 9 rfl).cell 0), (hW.cell (p := ⟨wr.heap.size, 1, none⟩) (show Blk w2 (wr.heap.size) 27 #[.int .i64 i2, .int .i64 x2.gen] from S4.out.at_ 9 rfl).lt (by simp; omega)).trans ((show Blk w2 (wr.heap.size) 27 #[.int .i64 i2, .int .i64 x2.gen] from S4.out.at_ 9 rfl).cell 1)⟩); have Q1 := Lib.hid q1; clear q1 q2) | (go_at_call 30; refine Calls.mono (pool_get_thing pi li fi sj i2 x2.gen _ (slotItems H3.out.drew)) ?_; rintro e w2 ⟨v, e0, rfl, q1, q2⟩; have S4 : Hid (Led B w0 w2 (slotEs t ph pi b n lh fh li fi sh sj f ++ tabE 27 2 (.slice (some ⟨gt, 0, none⟩) nt ct) (rowsR T) :: blkE (w.heap.size) 27 #[.int .i64 i, .int .i64 x.gen] :: blkE (w.heap.size + 1) 27 #[.int .i64 k, .int .i64 y.gen] :: blkE (jb) 52 #[.int .i64 x.v.a, .int .i64 x.v.b, .int .i64 x.v.c] :: blkE (kb) 52 #[.int .i64 y.v.a, .int .i64 y.v.b, .int .i64 y.v.c] :: blkE (wr.heap.size) 27 #[.int .i64 i2, .int .i64 x2.gen] :: blkE (wy.heap.size) 56 #[.int .i64 0, .int .i64 0, .int .i64 0] :: es)) := Lib.hid (H3.out.drew.later q2); have lt2 := q2.size; have HS2 : Hid (∀ W, Chg [wy.heap.size] w2 W → W.cell? ⟨t, 1, none⟩ = some (.pointer (some ⟨pi, 0, none⟩)) ∧ W.cell? ⟨wr.heap.size, 0, none⟩ = some (.int .i64 i2) ∧ W.cell? ⟨wr.heap.size, 1, none⟩ = some (.int .i64 x2.gen)) := Lib.hid (fun W hW => ⟨(hW.cell (p := ⟨t, 1, none⟩) (slotBlk S4.out).lt (by simp; omega)).trans (slot_t1 S4.out), (hW.cell (p := ⟨wr.heap.size, 0, none⟩) (show Blk w2 (wr.heap.size) 27 #[.int .i64 i2, .int .i64 x2.gen] from S4.out.at_ 9 rfl).lt (by simp; omega)).trans ((show Blk w2 (wr.heap.size) 27 #[.int .i64 i2, .int .i64 x2.gen] from S4.out.at_ 9 rfl).cell 0), (hW.cell (p := ⟨wr.heap.size, 1, none⟩) (show Blk w2 (wr.heap.size) 27 #[.int .i64 i2, .int .i64 x2.gen] from S4.out.at_ 9 rfl).lt (by simp; omega)).trans ((show Blk w2 (wr.heap.size) 27 #[.int .i64 i2, .int .i64 x2.gen] from S4.out.at_ 9 rfl).cell 1)⟩); have rb : Blk w2 wy.heap.size 56 #[.int .i64 0, .int .i64 0, .int .i64 0] := S4.out.at_ 10 rfl; have c0 := rb.cell 0; have fc0 := rb.frozen 0; have c1 := rb.cell 1; have fc1 := rb.frozen 1; have c2 := rb.cell 2; have fc2 := rb.frozen 2; simp only [List.getElem?_toArray, List.getElem?_cons_zero, List.getElem?_cons_succ] at c0 c1 c2; have lrb := rb.lt; clear rb; have Q1 := Lib.hid q1; clear q1 q2))
                    · go_wp2_with fail
                      go_meet
                      case rel => exact ⟨_, v, e0, rfl, rfl, Q1.out, Lib.hid (led_new (A := slotEs t ph pi b n lh fh li fi sh sj f ++ [tabE 27 2 (.slice (some ⟨gt, 0, none⟩) nt ct) (rowsR T), blkE (w.heap.size) 27 #[.int .i64 i, .int .i64 x.gen], blkE (w.heap.size + 1) 27 #[.int .i64 k, .int .i64 y.gen], blkE (jb) 52 #[.int .i64 x.v.a, .int .i64 x.v.b, .int .i64 x.v.c], blkE (kb) 52 #[.int .i64 y.v.a, .int .i64 y.v.b, .int .i64 y.v.c], blkE (wr.heap.size) 27 #[.int .i64 i2, .int .i64 x2.gen]]) (C := es) S4.out)⟩
                    · go_wp2_with fail
                      go_meet
                      case rel => exact ⟨_, v, e0, rfl, rfl, Q1.out, Lib.hid (led_store3 (A := slotEs t ph pi b n lh fh li fi sh sj f ++ [tabE 27 2 (.slice (some ⟨gt, 0, none⟩) nt ct) (rowsR T), blkE (w.heap.size) 27 #[.int .i64 i, .int .i64 x.gen], blkE (w.heap.size + 1) 27 #[.int .i64 k, .int .i64 y.gen], blkE (jb) 52 #[.int .i64 x.v.a, .int .i64 x.v.b, .int .i64 x.v.c], blkE (kb) 52 #[.int .i64 y.v.a, .int .i64 y.v.b, .int .i64 y.v.c], blkE (wr.heap.size) 27 #[.int .i64 i2, .int .i64 x2.gen]]) (C := es) S4.out)⟩
                  case rest =>
                    clear ST t0 t1
                    obtain ⟨zb, v, e0, rfl, rfl, q1, S⟩ := hcut
                    have Q1 := Lib.hid q1
                    clear q1
                    have rb : Blk wc zb 56 #[.int .i64 v.a, .int .i64 v.b, .int .i64 v.c] := S.out.at_ 10 rfl
                    have lb := rb.lt
                    have c0 := rb.cell 0; have fc0 := rb.frozen 0; have c1 := rb.cell 1; have fc1 := rb.frozen 1; have c2 := rb.cell 2; have fc2 := rb.frozen 2; simp only [List.getElem?_toArray, List.getElem?_cons_zero, List.getElem?_cons_succ] at c0 c1 c2
                    clear rb
                    obtain ⟨rfl, rfl⟩ := Q1.out.ok HX2.out HXT2.out hg3
                    have hr0 : Blk wc w.heap.size 27 #[.int .i64 i, .int .i64 x.gen] := S.out.at_ 5 rfl
                    have h0 := hr0.cell 0; have fh0 := hr0.frozen 0; have h1 := hr0.cell 1; have fh1 := hr0.frozen 1; simp only [List.getElem?_toArray, List.getElem?_cons_zero, List.getElem?_cons_succ] at h0 h1
                    clear hr0
                    have S5 : Hid (Led B w0 ((wc.setCell ⟨zb, 1, none⟩ (.int .i64 i)).setCell ⟨zb, 2, none⟩ (.int .i64 x.gen)) (slotEs t ph pi b n lh fh li fi sh sj f ++ tabE 27 2 (.slice (some ⟨gt, 0, none⟩) nt ct) (rowsR T) :: blkE (w.heap.size) 27 #[.int .i64 i, .int .i64 x.gen] :: blkE (w.heap.size + 1) 27 #[.int .i64 k, .int .i64 y.gen] :: blkE (jb) 52 #[.int .i64 x.v.a, .int .i64 x.v.b, .int .i64 x.v.c] :: blkE (kb) 52 #[.int .i64 y.v.a, .int .i64 y.v.b, .int .i64 y.v.c] :: blkE (wr.heap.size) 27 #[.int .i64 i2, .int .i64 x2.gen] :: blkE (zb) 56 #[.int .i64 x2.v.a, .int .i64 i, .int .i64 x.gen] :: es)) := Lib.hid (led_cell (A := slotEs t ph pi b n lh fh li fi sh sj f ++ [tabE 27 2 (.slice (some ⟨gt, 0, none⟩) nt ct) (rowsR T), blkE (w.heap.size) 27 #[.int .i64 i, .int .i64 x.gen], blkE (w.heap.size + 1) 27 #[.int .i64 k, .int .i64 y.gen], blkE (jb) 52 #[.int .i64 x.v.a, .int .i64 x.v.b, .int .i64 x.v.c], blkE (kb) 52 #[.int .i64 y.v.a, .int .i64 y.v.b, .int .i64 y.v.c], blkE (wr.heap.size) 27 #[.int .i64 i2, .int .i64 x2.gen]]) 2 (.int .i64 x.gen) (led_cell (A := slotEs t ph pi b n lh fh li fi sh sj f ++ [tabE 27 2 (.slice (some ⟨gt, 0, none⟩) nt ct) (rowsR T), blkE (w.heap.size) 27 #[.int .i64 i, .int .i64 x.gen], blkE (w.heap.size + 1) 27 #[.int .i64 k, .int .i64 y.gen], blkE (jb) 52 #[.int .i64 x.v.a, .int .i64 x.v.b, .int .i64 x.v.c], blkE (kb) 52 #[.int .i64 y.v.a, .int .i64 y.v.b, .int .i64 y.v.c], blkE (wr.heap.size) 27 #[.int .i64 i2, .int .i64 x2.gen]]) 1 (.int .i64 i) S.out))
                    go_upto_region 16 with fail
                    clear c0 fc0 c1 fc1 c2 fc2 h0 fh0 h1 fh1 lb S Q1
                    generalize (wc.setCell ⟨zb, 1, none⟩ (.int .i64 i)).setCell ⟨zb, 2, none⟩ (.int .i64 x.gen) = wy at S5 ⊢
                    have HSM : Hid (∀ (W : World) (sj : PSt V3), Led B w0 W (slotEs t ph pi b n lh fh li fi sh sj f ++ tabE 27 2 (.slice (some ⟨gt, 0, none⟩) nt ct) (rowsR T) :: blkE (w.heap.size) 27 #[.int .i64 i, .int .i64 x.gen] :: blkE (w.heap.size + 1) 27 #[.int .i64 k, .int .i64 y.gen] :: blkE (jb) 52 #[.int .i64 x.v.a, .int .i64 x.v.b, .int .i64 x.v.c] :: blkE (kb) 52 #[.int .i64 y.v.a, .int .i64 y.v.b, .int .i64 y.v.c] :: blkE (wr.heap.size) 27 #[.int .i64 i2, .int .i64 x2.gen] :: blkE (zb) 56 #[.int .i64 x2.v.a, .int .i64 i, .int .i64 x.gen] :: es) → ∀ wx, Chg [] W wx → wx.cell? ⟨t, 1, none⟩ = some (.pointer (some ⟨pi, 0, none⟩)) ∧ wx.cell? ⟨wr.heap.size, 0, none⟩ = some (.int .i64 i2) ∧ wx.cell? ⟨wr.heap.size, 1, none⟩ = some (.int .i64 x2.gen) ∧ wx.cell? ⟨zb, 0, none⟩ = some (.int .i64 x2.v.a) ∧ wx.cell? ⟨zb, 1, none⟩ = some (.int .i64 i) ∧ wx.cell? ⟨zb, 2, none⟩ = some (.int .i64 x.gen)) :=
                      Lib.hid fun W sj hW wx hx => have hl := hW.later (hx.below (by simp) (Nat.le_refl _)); have r := (show Blk wx wr.heap.size 27 #[.int .i64 i2, .int .i64 x2.gen] from hl.at_ 9 rfl); have q := (show Blk wx zb 56 #[.int .i64 x2.v.a, .int .i64 i, .int .i64 x.gen] from hl.at_ 10 rfl); ⟨slot_t1 hl, r.cell 0, r.cell 1, q.cell 0, q.cell 1, q.cell 2⟩
                    have HS := Lib.hid (HSM.out _ _ S5.out)
                    go_region_held3 (fun wx => wx.cell? ⟨t, 1, none⟩ = some (.pointer (some ⟨pi, 0, none⟩)) ∧ wx.cell? ⟨wr.heap.size, 0, none⟩ = some (.int .i64 i2) ∧ wx.cell? ⟨wr.heap.size, 1, none⟩ = some (.int .i64 x2.gen) ∧ wx.cell? ⟨zb, 0, none⟩ = some (.int .i64 x2.v.a) ∧ wx.cell? ⟨zb, 1, none⟩ = some (.int .i64 i) ∧ wx.cell? ⟨zb, 2, none⟩ = some (.int .i64 x.gen)) (first | (refine HS.out _ ?_; (repeat' first | with_reducible exact Chg.refl _ _ | with_reducible refine Chg.drew ?_ | with_reducible refine Chg.drewN ?_ _ | with_reducible refine Chg.alloc ?_ _ | with_reducible refine Chg.setCell ?_ ?_ _ | (left; simp; done) | (right; exact Nat.le_refl _) | (right; dsimp only; omega)); done) | (refine HS2.out _ ?_; (repeat' first | with_reducible exact Chg.refl _ _ | with_reducible refine Chg.drew ?_ | with_reducible refine Chg.drewN ?_ _ | with_reducible refine Chg.alloc ?_ _ | with_reducible refine Chg.setCell ?_ ?_ _ | (left; simp; done) | (right; exact Nat.le_refl _) | (right; dsimp only; omega)); done)) (first | (go_at_call 31; refine Calls.mono (pool_set_ok_thing pi li fi sj i2 x2 ⟨x2.v.a, i, x.gen⟩ _ (slotItems S5.out.drew) HX2.out HXT2.out hg3) ?_; rintro e w2 ⟨rfl, q1, q2⟩; have S6 : Hid (Led B w0 w2 (slotEs t ph pi b n lh fh li fi sh (sj.setAt i2 x2 ⟨x2.v.a, i, x.gen⟩) f ++ tabE 27 2 (.slice (some ⟨gt, 0, none⟩) nt ct) (rowsR T) :: blkE (w.heap.size) 27 #[.int .i64 i, .int .i64 x.gen] :: blkE (w.heap.size + 1) 27 #[.int .i64 k, .int .i64 y.gen] :: blkE (jb) 52 #[.int .i64 x.v.a, .int .i64 x.v.b, .int .i64 x.v.c] :: blkE (kb) 52 #[.int .i64 y.v.a, .int .i64 y.v.b, .int .i64 y.v.c] :: blkE (wr.heap.size) 27 #[.int .i64 i2, .int .i64 x2.gen] :: blkE (zb) 56 #[.int .i64 x2.v.a, .int .i64 i, .int .i64 x.gen] :: es)) := Lib.hid (S5.out.drew.step 2 rfl (thingP pi li fi (sj.setAt i2 x2 ⟨x2.v.a, i, x.gen⟩)) q2 q1 (Fresh.refl _ _)); have HS2 := Lib.hid (HSM.out _ _ S6.out); clear q1 q2))
                    go_wp2_with fail
                    have S7 := Lib.hid (led_cut (A := slotEs t ph pi b n lh fh li fi sh (sj.setAt i2 x2 ⟨x2.v.a, i, x.gen⟩) f ++ [tabE 27 2 (.slice (some ⟨gt, 0, none⟩) nt ct) (rowsR T), blkE (w.heap.size) 27 #[.int .i64 i, .int .i64 x.gen], blkE (w.heap.size + 1) 27 #[.int .i64 k, .int .i64 y.gen], blkE (jb) 52 #[.int .i64 x.v.a, .int .i64 x.v.b, .int .i64 x.v.c], blkE (kb) 52 #[.int .i64 y.v.a, .int .i64 y.v.b, .int .i64 y.v.c]]) (M := [_, _]) (C := es) S6.out)
                    go_roundw
                    case rel => exact ⟨j + 1, _, by omega, by go_num, HMS, S7⟩
                    case measure => simp [intOf]; omega
                · obtain rfl : nt = j := by omega
                  have hM := HM.out
                  rw [List.take_of_length_le (by omega)] at hM
                  have HM3 := Lib.hid hM
                  clear hM HM
                  go_upto_region 18 with fail
                  have HSM : Hid (∀ (W : World) (fh : Value) (sh : PSt V3), Led B w0 W (slotEs t ph pi b n lh fh li fi sh sj f ++ tabE 27 2 (.slice At nt ct) (rowsR T) :: blkE (w.heap.size) 27 #[.int .i64 i, .int .i64 x.gen] :: blkE (w.heap.size + 1) 27 #[.int .i64 k, .int .i64 y.gen] :: blkE (jb) 52 #[.int .i64 x.v.a, .int .i64 x.v.b, .int .i64 x.v.c] :: blkE (kb) 52 #[.int .i64 y.v.a, .int .i64 y.v.b, .int .i64 y.v.c] :: es) → ∀ wx, Chg [] W wx → wx.cell? ⟨t, 0, none⟩ = some (.pointer (some ⟨ph, 0, none⟩)) ∧ wx.cell? ⟨w.heap.size + 1, 0, none⟩ = some (.int .i64 k) ∧ wx.cell? ⟨w.heap.size + 1, 1, none⟩ = some (.int .i64 y.gen)) :=
                    Lib.hid fun W fh sh hW wx hx => have hl := hW.later (hx.below (by simp) (Nat.le_refl _)); have r := (show Blk wx (w.heap.size + 1) 27 #[.int .i64 k, .int .i64 y.gen] from hl.at_ 6 rfl); ⟨slot_t0 hl, r.cell 0, r.cell 1⟩
                  have HS := Lib.hid (HSM.out _ _ _ ST.out)
                  go_region_held3 (fun wx => wx.cell? ⟨t, 0, none⟩ = some (.pointer (some ⟨ph, 0, none⟩)) ∧ wx.cell? ⟨w.heap.size + 1, 0, none⟩ = some (.int .i64 k) ∧ wx.cell? ⟨w.heap.size + 1, 1, none⟩ = some (.int .i64 y.gen)) (first | (refine HS.out _ ?_; (repeat' first | with_reducible exact Chg.refl _ _ | with_reducible refine Chg.drew ?_ | with_reducible refine Chg.drewN ?_ _ | with_reducible refine Chg.alloc ?_ _ | with_reducible refine Chg.setCell ?_ ?_ _ | (left; simp; done) | (right; exact Nat.le_refl _) | (right; dsimp only; omega)); done) | (refine HS2.out _ ?_; (repeat' first | with_reducible exact Chg.refl _ _ | with_reducible refine Chg.drew ?_ | with_reducible refine Chg.drewN ?_ _ | with_reducible refine Chg.alloc ?_ _ | with_reducible refine Chg.setCell ?_ ?_ _ | (left; simp; done) | (right; exact Nat.le_refl _) | (right; dsimp only; omega)); done)) (first | (go_at_call 32; refine Calls.mono (pool_give_ok_heap ph lh fh sh k y _ (slotHeaps ST.out.drew) HY.out HYT.out hg2) ?_; rintro e w2 ⟨rfl, fh', q1, q2, q3⟩; have S6 : Hid (Led B w0 w2 (slotEs t ph pi b n lh fh' li fi (sh.giveAt k y ⟨0, 0, 0⟩) sj f ++ tabE 27 2 (.slice At nt ct) (rowsR T) :: blkE (w.heap.size) 27 #[.int .i64 i, .int .i64 x.gen] :: blkE (w.heap.size + 1) 27 #[.int .i64 k, .int .i64 y.gen] :: blkE (jb) 52 #[.int .i64 x.v.a, .int .i64 x.v.b, .int .i64 x.v.c] :: blkE (kb) 52 #[.int .i64 y.v.a, .int .i64 y.v.b, .int .i64 y.v.c] :: es)) := Lib.hid (ST.out.drew.step 1 rfl (heapP ph lh fh' (sh.giveAt k y ⟨0, 0, 0⟩)) q2 q1 q3); have HS2 := Lib.hid (HSM.out _ _ _ S6.out); clear q1 q2 q3))
                  go_wp2_with fail
                  exact hR.out _ _ ⟨0, _, _, sj, rfl, .inr (.inr ⟨i, k, x, y, rfl, rfl, rfl, rfl, HX.out, HY.out, HXT.out, HYT.out, hg1, hg2, .inr (.inr ⟨hrr, hkk, rfl, rfl, by rw [HTE.out]; exact HM3.out.symm⟩)⟩), led_cut (A := slotEs t ph pi b n lh fh' li fi (sh.giveAt k y ⟨0, 0, 0⟩) sj f) (M := [_, _, _, _, _]) (C := es) S6.out⟩
            · have hkb : (x.v.a != y.v.a) = true := by simpa using hkk
              go_wp2_with fail
              exact hR.out _ _ ⟨24, fh, sh, si, rfl, .inr (.inr ⟨i, k, x, y, rfl, rfl, rfl, rfl, HX.out, HY.out, HXT.out, HYT.out, hg1, hg2, .inr (.inl ⟨hrr, hkk, rfl, rfl, rfl⟩)⟩), led_cut (A := slotEs t ph pi b n lh fh li fi sh si f) (M := [_, _, _, _]) (C := es) S.out⟩

end Go.Proofs.Ytognmhgdegpdiaa
