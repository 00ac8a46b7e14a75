import Derived.Test.YtognmhgdegpdiaaGreatSlotsA
/- The table of slots: what each method does; Take, Root, At. -/
namespace Go.Proofs.YtognmhgdegpdiaaGreat
open Go.RowKit
open Go.Maps (Keyed)
set_option linter.unusedVariables false
set_option linter.unusedSimpArgs false
set_option maxRecDepth 100000
def CellsOk (s : PSt V3) : Prop := ∀ (i : Nat) (x : Pl V3), s.l[i]? = some x → x.taken = true → in64 x.v.a
set_option maxHeartbeats 1000000 in
theorem slots_take (B t ph pi b n : Nat) (lh fh li fi : Value) (sh si : PSt V3) (f : Int → Option (Int × Int)) (w0 w : World) (es : List Ent) (a g : Int) (hi : CellsOk si) (h : Led B w0 w (slotEs t ph pi b n lh fh li fi sh si f ++ es)) :
    Calls Tryz.prog 108 #[.pointer (some ⟨t, 0, none⟩), .agg #[.int .i64 a, .int .i64 g]] w fun e w' => ∃ (v : V3) (e0 : Int) (fi' : Value) (si' : PSt V3), e = .returned (.tuple #[.int .i64 v.a, .int .i64 e0]) ∧ GiveR ⟨0, 0, 0⟩ si a g v e0 si' ∧ Led B w0 w' (slotEs t ph pi b n lh fh li fi' sh si' (if e0 = 0 then upd f v.a none else f) ++ es) := by
  have H := Lib.hid h; clear h
  have HI := Lib.hid hi; clear hi
  refine callsR fun R hR => ?_
  go_enter Tryz.func108, Tryz.ntmps108
  go_upto_region 1 with fail
  go_cut [6, 7] (fun sx sy wx => ∃ (jb : Nat) (v : V3) (e0 : Int) (fi' : Value) (si' : PSt V3), sx = .pointer (some ⟨jb, 0, none⟩) ∧ sy = .int .i64 e0 ∧ GiveR ⟨0, 0, 0⟩ si a g v e0 si' ∧ Hid (Led B w0 wx (slotEs t ph pi b n lh fh li fi' sh si' f ++ blkE (w.heap.size) 34 #[.int .i64 a, .int .i64 g] :: blkE (jb) 130 #[.int .i64 v.a, .int .i64 v.b, .int .i64 v.c] :: es)))
  case first =>
    have S1 := led_new (A := slotEs t ph pi b n lh fh li fi sh si f) (C := es) (T := 34) (cs := #[.int .i64 a, .int .i64 g]) H.out
    generalize w.alloc (.cells #[.int .i64 a, .int .i64 g] 34) = wy at S1 ⊢
    have H2 : Hid (Led B w0 wy (slotEs t ph pi b n lh fh li fi sh si f ++ blkE (w.heap.size) 34 #[.int .i64 a, .int .i64 g] :: es)) := Lib.hid (S1)
    have H3 : Hid (Led B w0 (wy.alloc (.cells #[.int .i64 0, .int .i64 0, .int .i64 0] 130)) (slotEs t ph pi b n lh fh li fi sh si f ++ blkE (w.heap.size) 34 #[.int .i64 a, .int .i64 g] :: blkE (wy.heap.size) 130 #[.int .i64 0, .int .i64 0, .int .i64 0] :: es)) := Lib.hid (led_new (A := slotEs t ph pi b n lh fh li fi sh si f ++ [blkE (w.heap.size) 34 #[.int .i64 a, .int .i64 g]]) (C := es) (T := 130) (cs := #[.int .i64 0, .int .i64 0, .int .i64 0]) H2.out)
    have ltt := (slotBlk H2.out).lt
    have ltr : w.heap.size < wy.heap.size := (show Blk wy (w.heap.size) 34 #[.int .i64 a, .int .i64 g] from H2.out.at_ 4 rfl).lt
    have HS : Hid (∀ W, Chg [] wy W → W.cell? ⟨t, 1, none⟩ = some (.pointer (some ⟨pi, 0, none⟩)) ∧ W.cell? ⟨w.heap.size, 0, none⟩ = some (.int .i64 a) ∧ W.cell? ⟨w.heap.size, 1, none⟩ = some (.int .i64 g)) :=
      Lib.hid fun W hW => have hl := H2.out.later (hW.below (by simp) (Nat.le_refl _)); ⟨slot_t1 hl, (show Blk W (w.heap.size) 34 #[.int .i64 a, .int .i64 g] from hl.at_ 4 rfl).cell 0, (show Blk W (w.heap.size) 34 #[.int .i64 a, .int .i64 g] from hl.at_ 4 rfl).cell 1⟩
    go_region_held3 (fun wx => wx.cell? ⟨t, 1, none⟩ = some (.pointer (some ⟨pi, 0, none⟩)) ∧ wx.cell? ⟨w.heap.size, 0, none⟩ = some (.int .i64 a) ∧ wx.cell? ⟨w.heap.size, 1, none⟩ = some (.int .i64 g)) (first | (refine HS.out _ ?_; (repeat' first | with_reducible exact Chg.refl _ _ | with_reducible refine Chg.drew ?_ | with_reducible refine Chg.drewN ?_ _ | with_reducible refine Chg.alloc ?_ _ | with_reducible refine Chg.setCell ?_ ?_ _ | (left; simp; done) | (right; exact Nat.le_refl _) | (right; dsimp only; omega)); done) | (refine HS2.out _ ?_; (repeat' first | with_reducible exact Chg.refl _ _ | with_reducible refine Chg.drew ?_ | with_reducible refine Chg.drewN ?_ _ | with_reducible refine Chg.alloc ?_ _ | with_reducible refine Chg.setCell ?_ ?_ _ | (left; simp; done) | (right; exact Nat.le_refl _) | (right; dsimp only; omega)); done)) (first | (go_at_call 160; refine Calls.mono (pool_give_thing pi li fi si a g _ (slotItems H2.out.drew)) ?_; rintro e w2 ⟨v, e0, fi', si', rfl, q1, q2, q3, q4⟩; have S4 : Hid (Led B w0 w2 (slotEs t ph pi b n lh fh li fi' sh si' f ++ blkE (w.heap.size) 34 #[.int .i64 a, .int .i64 g] :: es)) := Lib.hid (H2.out.drew.step 2 rfl (thingP pi li fi' si') q3 q2 q4); have lt2 := q3.size; have HS2 : Hid (∀ W, Chg [wy.heap.size] w2 W → W.cell? ⟨t, 1, none⟩ = some (.pointer (some ⟨pi, 0, none⟩)) ∧ W.cell? ⟨w.heap.size, 0, none⟩ = some (.int .i64 a) ∧ W.cell? ⟨w.heap.size, 1, none⟩ = some (.int .i64 g)) := Lib.hid (fun W hW => ⟨(hW.cell (p := ⟨t, 1, none⟩) (slotBlk S4.out).lt (by simp; omega)).trans (slot_t1 S4.out), (hW.cell (p := ⟨w.heap.size, 0, none⟩) (show Blk w2 (w.heap.size) 34 #[.int .i64 a, .int .i64 g] from S4.out.at_ 4 rfl).lt (by simp; omega)).trans ((show Blk w2 (w.heap.size) 34 #[.int .i64 a, .int .i64 g] from S4.out.at_ 4 rfl).cell 0), (hW.cell (p := ⟨w.heap.size, 1, none⟩) (show Blk w2 (w.heap.size) 34 #[.int .i64 a, .int .i64 g] from S4.out.at_ 4 rfl).lt (by simp; omega)).trans ((show Blk w2 (w.heap.size) 34 #[.int .i64 a, .int .i64 g] from S4.out.at_ 4 rfl).cell 1)⟩); have Q1 := Lib.hid q1; clear q1 q2 q3 q4) | (go_at_call 160; refine Calls.mono (pool_give_thing pi li fi si a g _ (slotItems H3.out.drew)) ?_; rintro e w2 ⟨v, e0, fi', si', rfl, q1, q2, q3, q4⟩; have S4 : Hid (Led B w0 w2 (slotEs t ph pi b n lh fh li fi' sh si' f ++ blkE (w.heap.size) 34 #[.int .i64 a, .int .i64 g] :: blkE (wy.heap.size) 130 #[.int .i64 0, .int .i64 0, .int .i64 0] :: es)) := Lib.hid (H3.out.drew.step 2 rfl (thingP pi li fi' si') q3 q2 q4); have lt2 := q3.size; have HS2 : Hid (∀ W, Chg [wy.heap.size] w2 W → W.cell? ⟨t, 1, none⟩ = some (.pointer (some ⟨pi, 0, none⟩)) ∧ W.cell? ⟨w.heap.size, 0, none⟩ = some (.int .i64 a) ∧ W.cell? ⟨w.heap.size, 1, none⟩ = some (.int .i64 g)) := Lib.hid (fun W hW => ⟨(hW.cell (p := ⟨t, 1, none⟩) (slotBlk S4.out).lt (by simp; omega)).trans (slot_t1 S4.out), (hW.cell (p := ⟨w.heap.size, 0, none⟩) (show Blk w2 (w.heap.size) 34 #[.int .i64 a, .int .i64 g] from S4.out.at_ 4 rfl).lt (by simp; omega)).trans ((show Blk w2 (w.heap.size) 34 #[.int .i64 a, .int .i64 g] from S4.out.at_ 4 rfl).cell 0), (hW.cell (p := ⟨w.heap.size, 1, none⟩) (show Blk w2 (w.heap.size) 34 #[.int .i64 a, .int .i64 g] from S4.out.at_ 4 rfl).lt (by simp; omega)).trans ((show Blk w2 (w.heap.size) 34 #[.int .i64 a, .int .i64 g] from S4.out.at_ 4 rfl).cell 1)⟩); have rb : Blk w2 wy.heap.size 130 #[.int .i64 0, .int .i64 0, .int .i64 0] := S4.out.at_ 5 rfl; obtain ⟨c0, c1, c2, fc0, fc1, fc2⟩ := rb.c3; have lrb := rb.lt; clear rb; have Q1 := Lib.hid q1; clear q1 q2 q3 q4))
    · go_wp2_with fail
      go_meet
      case rel => exact ⟨_, v, e0, fi', si', rfl, rfl, Q1.out, Lib.hid (led_new (A := slotEs t ph pi b n lh fh li fi' sh si' f ++ [blkE (w.heap.size) 34 #[.int .i64 a, .int .i64 g]]) (C := es) S4.out)⟩
    · go_wp2_with fail
      go_meet
      case rel => exact ⟨_, v, e0, fi', si', rfl, rfl, Q1.out, Lib.hid (led_store3 (A := slotEs t ph pi b n lh fh li fi' sh si' f ++ [blkE (w.heap.size) 34 #[.int .i64 a, .int .i64 g]]) (C := es) S4.out)⟩
  case rest =>
    clear H
    obtain ⟨jb, v, e0, fi', si', rfl, rfl, q1, S⟩ := hcut
    have Q1 := Lib.hid q1
    clear q1
    have rb : Blk wc jb 130 #[.int .i64 v.a, .int .i64 v.b, .int .i64 v.c] := S.out.at_ 5 rfl
    have lb := rb.lt
    obtain ⟨c0, c1, c2, fc0, fc1, fc2⟩ := rb.c3
    clear rb
    by_cases he : e0 = 0
    · subst he
      have hok : in64 v.a := by
        rcases Q1.out with ⟨h0, _⟩ | ⟨i, x, _, _, hx, ht, _, _, rfl, _⟩
        · exact absurd rfl h0
        · exact HI.out i x hx ht
      obtain ⟨w5, hrun, hm5, hc5⟩ := MapIs.drop (x := v.a) (ty := 0) (slotMap S.out.drew) Tryz.underlying103 hok
      have hr5 : (Builtin.delete_ #[103, 3] 0 #[.map (some b), .int .i64 v.a]).run Tryz.prog wc.drew = .ok (.tuple #[]) w5 := hrun
      clear hrun
      have S5 : Hid (Led B w0 w5 (slotEs t ph pi b n lh fh li fi' sh si' (upd f v.a none) ++ blkE (w.heap.size) 34 #[.int .i64 a, .int .i64 g] :: blkE (jb) 130 #[.int .i64 v.a, .int .i64 v.b, .int .i64 v.c] :: es)) := Lib.hid (S.out.drew.step 3 rfl (mapE intFam b n (upd f v.a none)) hc5 hm5 (Fresh.refl _ _))
      have x2 := slot_t2 S.out
      go_wp2_with fail
      have HS : Hid (∀ W, Chg [] wc W → W.cell? ⟨t, 2, none⟩ = some (.map (some b)) ∧ W.cell? ⟨jb, 0, none⟩ = some (.int .i64 v.a)) :=
        Lib.hid fun W hW => ⟨(hW.cell (p := ⟨t, 2, none⟩) (slotBlk S.out).lt (by simp)).trans x2, (hW.cell (p := ⟨jb, 0, none⟩) lb (by simp)).trans c0⟩
      have HS2 : Hid (∀ W, Chg [] w5 W → W.cell? ⟨t, 2, none⟩ = some (.map (some b)) ∧ W.cell? ⟨jb, 0, none⟩ = some (.int .i64 v.a)) :=
        Lib.hid fun W hW => have hl := S5.out.later (hW.below (by simp) (Nat.le_refl _)); ⟨slot_t2 hl, (show Blk W jb 130 #[.int .i64 v.a, .int .i64 v.b, .int .i64 v.c] from hl.at_ 5 rfl).cell 0⟩
      go_region_held3 (fun wx => wx.cell? ⟨t, 2, none⟩ = some (.map (some b)) ∧ wx.cell? ⟨jb, 0, none⟩ = some (.int .i64 v.a)) (first | (refine HS.out _ ?_; (repeat' first | with_reducible exact Chg.refl _ _ | with_reducible refine Chg.drew ?_ | with_reducible refine Chg.drewN ?_ _ | with_reducible refine Chg.alloc ?_ _ | with_reducible refine Chg.setCell ?_ ?_ _ | (left; simp; done) | (right; exact Nat.le_refl _) | (right; dsimp only; omega)); done) | (refine HS2.out _ ?_; (repeat' first | with_reducible exact Chg.refl _ _ | with_reducible refine Chg.drew ?_ | with_reducible refine Chg.drewN ?_ _ | with_reducible refine Chg.alloc ?_ _ | with_reducible refine Chg.setCell ?_ ?_ _ | (left; simp; done) | (right; exact Nat.le_refl _) | (right; dsimp only; omega)); done)) (fail)
      clear c0 fc0 c1 fc1 c2 fc2 x2
      have rb : Blk w5 jb 130 #[.int .i64 v.a, .int .i64 v.b, .int .i64 v.c] := S5.out.at_ 5 rfl
      obtain ⟨j0, j1, j2, fj0, fj1, fj2⟩ := rb.c3
      clear rb
      go_wp2_with fail
      exact hR.out _ _ ⟨v, 0, fi', si', rfl, Q1.out, by rw [if_pos rfl]; exact led_cut (A := slotEs t ph pi b n lh fh li fi' sh si' (upd f v.a none)) (M := [_, _]) (C := es) S5.out⟩
    · have hne : (e0 == 0) = false := by simpa using he
      go_wp2_with fail
      exact hR.out _ _ ⟨v, e0, fi', si', rfl, Q1.out, by rw [if_neg he]; exact led_cut (A := slotEs t ph pi b n lh fh li fi' sh si' f) (M := [_, _]) (C := es) S.out⟩
set_option maxHeartbeats 1000000 in
theorem slots_at (B t ph pi b n : Nat) (lh fh li fi : Value) (sh si : PSt V3) (f : Int → Option (Int × Int)) (w0 w : World) (es : List Ent) (c : Int) (hc : in64 c) (h : Led B w0 w (slotEs t ph pi b n lh fh li fi sh si f ++ es)) :
    Calls Tryz.prog 62 #[.pointer (some ⟨t, 0, none⟩), .int .i64 c] w fun e w' => e = .returned (.tuple #[.agg #[.int .i64 ((f c).getD (0, 0)).1, .int .i64 ((f c).getD (0, 0)).2], .bool (f c).isSome]) ∧ Led B w0 w' (slotEs t ph pi b n lh fh li fi sh si f ++ es) := by
  generalize hx : (f c).getD (0, 0) = y
  generalize hz : (f c).isSome = q
  have HL := Lib.hid (map_looks (slotMap h) hc hx hz)
  have H := Lib.hid h
  clear hx hz hc h
  refine callsR fun R hR => ?_
  go_enter Tryz.func62, Tryz.ntmps62
  have S1 := Lib.hid (led_new (A := slotEs t ph pi b n lh fh li fi sh si f) (C := es) (T := 34) (cs := #[.int .i64 0, .int .i64 0]) H.out)
  have x2 := slot_t2 S1.out
  have rc : Blk (w.alloc (.cells #[.int .i64 0, .int .i64 0] 34)) w.heap.size 34 #[.int .i64 0, .int .i64 0] := S1.out.at_ 4 rfl
  have be := bel_alloc (bel_refl w) (.cells #[.int .i64 0, .int .i64 0] 34)
  have HR := HL.out _ be
  have l0 := rc.lt
  obtain ⟨r0, r1, fr0, fr1⟩ := rc.c2
  clear rc
  go_upto_region 1 with fail
  generalize w.alloc (.cells #[.int .i64 0, .int .i64 0] 34) = wy at S1 x2 l0 r0 r1 fr0 fr1 HR be ⊢
  go_wp2_with fail
  refine bodyPost_ret (v := .tuple #[.agg #[.int .i64 y.1, .int .i64 y.2], .bool q]) (by simp [results, Tryz.results62, go_sem, l0, r0, r1]) rfl (hR.out _ _ ⟨rfl, ?_⟩)
  exact led_cut (A := slotEs t ph pi b n lh fh li fi sh si f) (M := [_, _]) (C := es) (led_new (A := slotEs t ph pi b n lh fh li fi sh si f ++ [blkE (w.heap.size) 34 #[.int .i64 y.1, .int .i64 y.2]]) (C := es) (led_store2 (A := slotEs t ph pi b n lh fh li fi sh si f) S1.out))
def RootR (s : PSt V3) (a g r n e0 : Int) (s' : PSt V3) : Prop := (e0 ≠ 0 ∧ s.look a g = e0 ∧ s' = s) ∨ ∃ (i : Nat) (x : Pl V3), a = i ∧ g = x.gen ∧ s.l[i]? = some x ∧ x.taken = true ∧ 1 ≤ x.gen ∧ e0 = 0 ∧ s' = s.setAt i x ⟨x.v.a, r, n⟩
set_option maxHeartbeats 1000000 in
theorem slots_root (B t ph pi b n : Nat) (lh fh li fi : Value) (sh si : PSt V3) (f : Int → Option (Int × Int)) (w0 w : World) (es : List Ent) (a g rt nn : Int) (h : Led B w0 w (slotEs t ph pi b n lh fh li fi sh si f ++ es)) :
    Calls Tryz.prog 61 #[.pointer (some ⟨t, 0, none⟩), .agg #[.int .i64 a, .int .i64 g], .int .i64 rt, .int .i64 nn] w fun e w' => ∃ (e0 : Int) (sh' : PSt V3), e = .returned (.int .i64 e0) ∧ RootR sh a g rt nn e0 sh' ∧ Led B w0 w' (slotEs t ph pi b n lh fh li fi sh' si f ++ es) := by
  have H := Lib.hid h; clear h
  refine callsR fun R hR => ?_
  go_enter Tryz.func61, Tryz.ntmps61
  go_upto_region 1 with fail
  go_cut [9, 10] (fun sx sy wx => ∃ (jb : Nat) (v : V3) (e0 : Int), sx = .pointer (some ⟨jb, 0, none⟩) ∧ sy = .int .i64 e0 ∧ GetR ⟨0, 0, 0⟩ sh a g v e0 ∧ Hid (Led B w0 wx (slotEs t ph pi b n lh fh li fi sh si f ++ blkE (w.heap.size) 34 #[.int .i64 a, .int .i64 g] :: blkE (jb) 108 #[.int .i64 v.a, .int .i64 v.b, .int .i64 v.c] :: es)))
  case first =>
    have S1 := led_new (A := slotEs t ph pi b n lh fh li fi sh si f) (C := es) (T := 34) (cs := #[.int .i64 a, .int .i64 g]) H.out
    generalize w.alloc (.cells #[.int .i64 a, .int .i64 g] 34) = wy at S1 ⊢
    have H2 : Hid (Led B w0 wy (slotEs t ph pi b n lh fh li fi sh si f ++ blkE (w.heap.size) 34 #[.int .i64 a, .int .i64 g] :: es)) := Lib.hid (S1)
    have H3 : Hid (Led B w0 (wy.alloc (.cells #[.int .i64 0, .int .i64 0, .int .i64 0] 108)) (slotEs t ph pi b n lh fh li fi sh si f ++ blkE (w.heap.size) 34 #[.int .i64 a, .int .i64 g] :: blkE (wy.heap.size) 108 #[.int .i64 0, .int .i64 0, .int .i64 0] :: es)) := Lib.hid (led_new (A := slotEs t ph pi b n lh fh li fi sh si f ++ [blkE (w.heap.size) 34 #[.int .i64 a, .int .i64 g]]) (C := es) (T := 108) (cs := #[.int .i64 0, .int .i64 0, .int .i64 0]) H2.out)
    have ltt := (slotBlk H2.out).lt
    have ltr : w.heap.size < wy.heap.size := (show Blk wy (w.heap.size) 34 #[.int .i64 a, .int .i64 g] from H2.out.at_ 4 rfl).lt
    have HS : Hid (∀ W, Chg [] wy W → W.cell? ⟨t, 0, none⟩ = some (.pointer (some ⟨ph, 0, none⟩)) ∧ W.cell? ⟨w.heap.size, 0, none⟩ = some (.int .i64 a) ∧ W.cell? ⟨w.heap.size, 1, none⟩ = some (.int .i64 g)) :=
      Lib.hid fun W hW => have hl := H2.out.later (hW.below (by simp) (Nat.le_refl _)); ⟨slot_t0 hl, (show Blk W (w.heap.size) 34 #[.int .i64 a, .int .i64 g] from hl.at_ 4 rfl).cell 0, (show Blk W (w.heap.size) 34 #[.int .i64 a, .int .i64 g] from hl.at_ 4 rfl).cell 1⟩
    go_region_held3 (fun wx => wx.cell? ⟨t, 0, none⟩ = some (.pointer (some ⟨ph, 0, none⟩)) ∧ wx.cell? ⟨w.heap.size, 0, none⟩ = some (.int .i64 a) ∧ wx.cell? ⟨w.heap.size, 1, none⟩ = some (.int .i64 g)) (first | (refine HS.out _ ?_; (repeat' first | with_reducible exact Chg.refl _ _ | with_reducible refine Chg.drew ?_ | with_reducible refine Chg.drewN ?_ _ | with_reducible refine Chg.alloc ?_ _ | with_reducible refine Chg.setCell ?_ ?_ _ | (left; simp; done) | (right; exact Nat.le_refl _) | (right; dsimp only; omega)); done) | (refine HS2.out _ ?_; (repeat' first | with_reducible exact Chg.refl _ _ | with_reducible refine Chg.drew ?_ | with_reducible refine Chg.drewN ?_ _ | with_reducible refine Chg.alloc ?_ _ | with_reducible refine Chg.setCell ?_ ?_ _ | (left; simp; done) | (right; exact Nat.le_refl _) | (right; dsimp only; omega)); done)) (first | (go_at_call 73; refine Calls.mono (pool_get_heap ph lh fh sh a g _ (slotHeaps H2.out.drew)) ?_; rintro e w2 ⟨v, e0, rfl, q1, q2⟩; have S4 : Hid (Led B w0 w2 (slotEs t ph pi b n lh fh li fi sh si f ++ blkE (w.heap.size) 34 #[.int .i64 a, .int .i64 g] :: es)) := Lib.hid (H2.out.drew.later q2); have lt2 := q2.size; have HS2 : Hid (∀ W, Chg [wy.heap.size] w2 W → W.cell? ⟨t, 0, none⟩ = some (.pointer (some ⟨ph, 0, none⟩)) ∧ W.cell? ⟨w.heap.size, 0, none⟩ = some (.int .i64 a) ∧ W.cell? ⟨w.heap.size, 1, none⟩ = some (.int .i64 g)) := Lib.hid (fun W hW => ⟨(hW.cell (p := ⟨t, 0, none⟩) (slotBlk S4.out).lt (by simp; omega)).trans (slot_t0 S4.out), (hW.cell (p := ⟨w.heap.size, 0, none⟩) (show Blk w2 (w.heap.size) 34 #[.int .i64 a, .int .i64 g] from S4.out.at_ 4 rfl).lt (by simp; omega)).trans ((show Blk w2 (w.heap.size) 34 #[.int .i64 a, .int .i64 g] from S4.out.at_ 4 rfl).cell 0), (hW.cell (p := ⟨w.heap.size, 1, none⟩) (show Blk w2 (w.heap.size) 34 #[.int .i64 a, .int .i64 g] from S4.out.at_ 4 rfl).lt (by simp; omega)).trans ((show Blk w2 (w.heap.size) 34 #[.int .i64 a, .int .i64 g] from S4.out.at_ 4 rfl).cell 1)⟩); have Q1 := Lib.hid q1; clear q1 q2) | (go_at_call 73; refine Calls.mono (pool_get_heap ph lh fh sh a g _ (slotHeaps H3.out.drew)) ?_; rintro e w2 ⟨v, e0, rfl, q1, q2⟩; have S4 : Hid (Led B w0 w2 (slotEs t ph pi b n lh fh li fi sh si f ++ blkE (w.heap.size) 34 #[.int .i64 a, .int .i64 g] :: blkE (wy.heap.size) 108 #[.int .i64 0, .int .i64 0, .int .i64 0] :: es)) := Lib.hid (H3.out.drew.later q2); have lt2 := q2.size; have HS2 : Hid (∀ W, Chg [wy.heap.size] w2 W → W.cell? ⟨t, 0, none⟩ = some (.pointer (some ⟨ph, 0, none⟩)) ∧ W.cell? ⟨w.heap.size, 0, none⟩ = some (.int .i64 a) ∧ W.cell? ⟨w.heap.size, 1, none⟩ = some (.int .i64 g)) := Lib.hid (fun W hW => ⟨(hW.cell (p := ⟨t, 0, none⟩) (slotBlk S4.out).lt (by simp; omega)).trans (slot_t0 S4.out), (hW.cell (p := ⟨w.heap.size, 0, none⟩) (show Blk w2 (w.heap.size) 34 #[.int .i64 a, .int .i64 g] from S4.out.at_ 4 rfl).lt (by simp; omega)).trans ((show Blk w2 (w.heap.size) 34 #[.int .i64 a, .int .i64 g] from S4.out.at_ 4 rfl).cell 0), (hW.cell (p := ⟨w.heap.size, 1, none⟩) (show Blk w2 (w.heap.size) 34 #[.int .i64 a, .int .i64 g] from S4.out.at_ 4 rfl).lt (by simp; omega)).trans ((show Blk w2 (w.heap.size) 34 #[.int .i64 a, .int .i64 g] from S4.out.at_ 4 rfl).cell 1)⟩); have rb : Blk w2 wy.heap.size 108 #[.int .i64 0, .int .i64 0, .int .i64 0] := S4.out.at_ 5 rfl; obtain ⟨c0, c1, c2, fc0, fc1, fc2⟩ := rb.c3; have lrb := rb.lt; clear rb; have Q1 := Lib.hid q1; clear q1 q2))
    · go_wp2_with fail
      go_meet
      case rel => exact ⟨_, v, e0, rfl, rfl, Q1.out, Lib.hid (led_new (A := slotEs t ph pi b n lh fh li fi sh si f ++ [blkE (w.heap.size) 34 #[.int .i64 a, .int .i64 g]]) (C := es) S4.out)⟩
    · go_wp2_with fail
      go_meet
      case rel => exact ⟨_, v, e0, rfl, rfl, Q1.out, Lib.hid (led_store3 (A := slotEs t ph pi b n lh fh li fi sh si f ++ [blkE (w.heap.size) 34 #[.int .i64 a, .int .i64 g]]) (C := es) S4.out)⟩
  case rest =>
    clear H
    obtain ⟨jb, v, e0, rfl, rfl, q1, S⟩ := hcut
    have Q1 := Lib.hid q1
    clear q1
    have rb : Blk wc jb 108 #[.int .i64 v.a, .int .i64 v.b, .int .i64 v.c] := S.out.at_ 5 rfl
    have lb := rb.lt
    obtain ⟨c0, c1, c2, fc0, fc1, fc2⟩ := rb.c3
    clear rb
    rcases Q1.out with ⟨he, hl, _⟩ | ⟨i, x, rfl, rfl, hx, hxt, hg1, rfl, rfl⟩
    · have hne : (e0 == 0) = false := by simpa using he
      go_wp2_with fail
      exact hR.out _ _ ⟨e0, sh, rfl, .inl ⟨he, hl, rfl⟩, led_cut (A := slotEs t ph pi b n lh fh li fi sh si f) (M := [_, _]) (C := es) S.out⟩
    · have HX := Lib.hid hx; have HXT := Lib.hid hxt; clear hx hxt Q1
      have S5 : Hid (Led B w0 ((wc.setCell ⟨jb, 1, none⟩ (.int .i64 rt)).setCell ⟨jb, 2, none⟩ (.int .i64 nn)) (slotEs t ph pi b n lh fh li fi sh si f ++ blkE (w.heap.size) 34 #[.int .i64 i, .int .i64 x.gen] :: blkE jb 108 #[.int .i64 x.v.a, .int .i64 rt, .int .i64 nn] :: es)) := Lib.hid (led_cell (A := slotEs t ph pi b n lh fh li fi sh si f ++ [blkE (w.heap.size) 34 #[.int .i64 i, .int .i64 x.gen]]) 2 (.int .i64 nn) (led_cell (A := slotEs t ph pi b n lh fh li fi sh si f ++ [blkE (w.heap.size) 34 #[.int .i64 i, .int .i64 x.gen]]) 1 (.int .i64 rt) S.out))
      go_upto_region 4 with fail
      generalize (wc.setCell ⟨jb, 1, none⟩ (.int .i64 rt)).setCell ⟨jb, 2, none⟩ (.int .i64 nn) = wy at S5 ⊢
      have HSM : Hid (∀ (W : World) (sh : PSt V3), Led B w0 W (slotEs t ph pi b n lh fh li fi sh si f ++ blkE (w.heap.size) 34 #[.int .i64 i, .int .i64 x.gen] :: blkE jb 108 #[.int .i64 x.v.a, .int .i64 rt, .int .i64 nn] :: es) → ∀ wx, Chg [] W wx → wx.cell? ⟨t, 0, none⟩ = some (.pointer (some ⟨ph, 0, none⟩)) ∧ wx.cell? ⟨w.heap.size, 0, none⟩ = some (.int .i64 i) ∧ wx.cell? ⟨w.heap.size, 1, none⟩ = some (.int .i64 x.gen) ∧ wx.cell? ⟨jb, 0, none⟩ = some (.int .i64 x.v.a) ∧ wx.cell? ⟨jb, 1, none⟩ = some (.int .i64 rt) ∧ wx.cell? ⟨jb, 2, none⟩ = some (.int .i64 nn)) :=
        Lib.hid fun W sh hW wx hx => have hl := hW.later (hx.below (by simp) (Nat.le_refl _)); have r := (show Blk wx w.heap.size 34 #[.int .i64 i, .int .i64 x.gen] from hl.at_ 4 rfl); have j := (show Blk wx jb 108 #[.int .i64 x.v.a, .int .i64 rt, .int .i64 nn] from hl.at_ 5 rfl); ⟨slot_t0 hl, r.cell 0, r.cell 1, j.cell 0, j.cell 1, j.cell 2⟩
      have HS := Lib.hid (HSM.out _ _ S5.out)
      go_region_held3 (fun wx => wx.cell? ⟨t, 0, none⟩ = some (.pointer (some ⟨ph, 0, none⟩)) ∧ wx.cell? ⟨w.heap.size, 0, none⟩ = some (.int .i64 i) ∧ wx.cell? ⟨w.heap.size, 1, none⟩ = some (.int .i64 x.gen) ∧ wx.cell? ⟨jb, 0, none⟩ = some (.int .i64 x.v.a) ∧ wx.cell? ⟨jb, 1, none⟩ = some (.int .i64 rt) ∧ wx.cell? ⟨jb, 2, none⟩ = some (.int .i64 nn)) (first | (refine HS.out _ ?_; (repeat' first | with_reducible exact Chg.refl _ _ | with_reducible refine Chg.drew ?_ | with_reducible refine Chg.drewN ?_ _ | with_reducible refine Chg.alloc ?_ _ | with_reducible refine Chg.setCell ?_ ?_ _ | (left; simp; done) | (right; exact Nat.le_refl _) | (right; dsimp only; omega)); done) | (refine HS2.out _ ?_; (repeat' first | with_reducible exact Chg.refl _ _ | with_reducible refine Chg.drew ?_ | with_reducible refine Chg.drewN ?_ _ | with_reducible refine Chg.alloc ?_ _ | with_reducible refine Chg.setCell ?_ ?_ _ | (left; simp; done) | (right; exact Nat.le_refl _) | (right; dsimp only; omega)); done)) (first | (go_at_call 97; refine Calls.mono (pool_set_ok_heap ph lh fh sh i x ⟨x.v.a, rt, nn⟩ _ (slotHeaps S5.out.drew) HX.out HXT.out hg1) ?_; rintro e w2 ⟨rfl, q1, q2⟩; have S6 : Hid (Led B w0 w2 (slotEs t ph pi b n lh fh li fi (sh.setAt i x ⟨x.v.a, rt, nn⟩) si f ++ blkE (w.heap.size) 34 #[.int .i64 i, .int .i64 x.gen] :: blkE jb 108 #[.int .i64 x.v.a, .int .i64 rt, .int .i64 nn] :: es)) := Lib.hid (S5.out.drew.step 1 rfl (heapP ph lh fh (sh.setAt i x ⟨x.v.a, rt, nn⟩)) q2 q1 (Fresh.refl _ _)); have HS2 := Lib.hid (HSM.out _ _ S6.out); clear q1 q2))
      go_wp2_with fail
      exact hR.out _ _ ⟨0, _, rfl, .inr ⟨i, x, rfl, rfl, HX.out, HXT.out, hg1, rfl, rfl⟩, led_cut (A := slotEs t ph pi b n lh fh li fi (sh.setAt i x ⟨x.v.a, rt, nn⟩) si f) (M := [_, _]) (C := es) S6.out⟩
end Go.Proofs.YtognmhgdegpdiaaGreat
