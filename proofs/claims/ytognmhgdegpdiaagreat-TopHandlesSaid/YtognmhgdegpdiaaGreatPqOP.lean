import Derived.Test.YtognmhgdegpdiaaGreatPqN
section
/- Queues: an item's key falls. -/
namespace Go.Proofs.YtognmhgdegpdiaaGreat
open Go.RowKit
open Go.Maps (Keyed)
set_option linter.unusedVariables false
set_option linter.unusedSimpArgs false
set_option maxRecDepth 100000
theorem led_store1 {B : Nat} {w0 w : World} {A C : List Ent} {g : Nat} {T : TypeId} {x0 x1 y0 : Value} (h : Led B w0 w (A ++ blkE g T #[x0, x1] :: C)) : Led B w0 (w.setCell ⟨g, 0, none⟩ y0) (A ++ blkE g T #[y0, x1] :: C) := by
 have hb : Blk w g T #[x0, x1] := h.mem
 have h2 := hb.set_ 0 y0
 exact h.mid _ ((Chg.refl _ _).setCell (p := ⟨g, 0, none⟩) (.inl (by simp [blkE])) y0) (by simpa [blkE] using h2) (Fresh.refl _ _)
section
variable {B : Nat} {w0 w : World} {C : List Ent} {m : QM} {vf lh fh li fi : Value} {n ne : Nat} {s : Ar} {sh si : PSt V3} {f : Int → Option (Int × Int)} {F : (Int × Int) → Option (Int × Int)} {items serial : Int}
set_option maxHeartbeats 4000000 in
theorem pq_dec_dead (op kd ha hg oa og a g key : Int) (hd : si.look a g = 23) (hk : in64 a ∧ in64 g) (h : Led B w0 w (m.es vf lh fh li fi n ne s sh si f F items serial ++ C)) :
  Calls Tryz.prog 33 #[.pointer (some ⟨m.q, 0, none⟩), .agg #[.int .i64 op, .int .i64 kd, .int .i64 ha, .int .i64 hg, .int .i64 oa, .int .i64 og, .int .i64 a, .int .i64 g, .int .i64 key]] w fun e w' => e = .returned (.agg #[.int .i64 23, .int .i64 0, .int .i64 0, .int .i64 0, .int .i64 0, .int .i64 0, .int .i64 0, .int .i64 0]) ∧ Led B w0 w' (m.es vf lh fh li fi n ne s sh si f F items serial ++ C) := by
 have H := Lib.hid h
 have HD := Lib.hid hd
 have HK := Lib.hid hk
 clear h hd hk
 generalize hz : (F (a, g)).getD (0, 0) = z
 have HY := Lib.hid hz
 clear hz
 refine callsR fun R hR => ?_
 go_enter Tryz.func33, Tryz.ntmps33
 have H2 : Hid (Led B w0 ((w.alloc (.cells #[.int .i64 op, .int .i64 kd, .int .i64 ha, .int .i64 hg, .int .i64 oa, .int .i64 og, .int .i64 a, .int .i64 g, .int .i64 key] 41)).alloc (.cells #[.int .i64 0, .int .i64 0, .int .i64 0, .int .i64 0, .int .i64 0, .int .i64 0, .int .i64 0, .int .i64 0] 38)) (m.es vf lh fh li fi n ne s sh si f F items serial ++ blkE (w.heap.size) 41 #[.int .i64 op, .int .i64 kd, .int .i64 ha, .int .i64 hg, .int .i64 oa, .int .i64 og, .int .i64 a, .int .i64 g, .int .i64 key] :: blkE (w.heap.size + 1) 38 #[.int .i64 0, .int .i64 0, .int .i64 0, .int .i64 0, .int .i64 0, .int .i64 0, .int .i64 0, .int .i64 0] :: C)) := Lib.hid (led_new2 H.out)
 clear H
 go_upto_region 1 with fail
 obtain ⟨w1, hw1⟩ : ∃ w1, w1 = (w.alloc (.cells #[.int .i64 op, .int .i64 kd, .int .i64 ha, .int .i64 hg, .int .i64 oa, .int .i64 og, .int .i64 a, .int .i64 g, .int .i64 key] 41)).alloc (.cells #[.int .i64 0, .int .i64 0, .int .i64 0, .int .i64 0, .int .i64 0, .int .i64 0, .int .i64 0, .int .i64 0] 38) := ⟨_, rfl⟩
 rw [← hw1] at H2 ⊢
 clear hw1
 go_cut [5, 6] (fun s5 s6 wx => s5 = .int .i64 0 ∧ s6 = .int .i64 23 ∧ Hid (Led B w0 wx (m.es vf lh fh li fi n ne s sh si f F items serial ++ blkE (w.heap.size) 41 #[.int .i64 op, .int .i64 kd, .int .i64 ha, .int .i64 hg, .int .i64 oa, .int .i64 og, .int .i64 a, .int .i64 g, .int .i64 key] :: blkE (w.heap.size + 1) 38 #[.int .i64 0, .int .i64 0, .int .i64 0, .int .i64 0, .int .i64 0, .int .i64 0, .int .i64 0, .int .i64 0] :: C)))
 case first =>
  have HS : Hid (∀ W, Chg [] w1 W → W.cell? ⟨m.q, 2, none⟩ = some (.pointer (some ⟨m.t, 0, none⟩)) ∧ W.cell? ⟨w.heap.size, 6, none⟩ = some (.int .i64 a) ∧ W.cell? ⟨w.heap.size, 7, none⟩ = some (.int .i64 g)) := Lib.hid (fun W hW => have hl := H2.out.later (hW.below (by simp) (Nat.le_refl _)); ⟨QM.q2 hl, (show Blk W w.heap.size 41 #[.int .i64 op, .int .i64 kd, .int .i64 ha, .int .i64 hg, .int .i64 oa, .int .i64 og, .int .i64 a, .int .i64 g, .int .i64 key] from hl.at_ 10 rfl).cell 6, (show Blk W w.heap.size 41 #[.int .i64 op, .int .i64 kd, .int .i64 ha, .int .i64 hg, .int .i64 oa, .int .i64 og, .int .i64 a, .int .i64 g, .int .i64 key] from hl.at_ 10 rfl).cell 7⟩)
  go_region_held3 (fun wx => wx.cell? ⟨m.q, 2, none⟩ = some (.pointer (some ⟨m.t, 0, none⟩)) ∧ wx.cell? ⟨w.heap.size, 6, none⟩ = some (.int .i64 a) ∧ wx.cell? ⟨w.heap.size, 7, none⟩ = some (.int .i64 g)) (first | (refine HS.out _ ?_; (repeat' first | with_reducible exact Chg.refl _ _ | with_reducible refine Chg.drew ?_ | with_reducible refine Chg.drewN ?_ _ | with_reducible refine Chg.alloc ?_ _ | with_reducible refine Chg.setCell ?_ ?_ _ | (left; simp; done) | (right; exact Nat.le_refl _) | (right; dsimp only; omega)); done) | (refine HS2.out _ ?_; (repeat' first | with_reducible exact Chg.refl _ _ | with_reducible refine Chg.drew ?_ | with_reducible refine Chg.drewN ?_ _ | with_reducible refine Chg.alloc ?_ _ | with_reducible refine Chg.setCell ?_ ?_ _ | (left; simp; done) | (right; exact Nat.le_refl _) | (right; dsimp only; omega)); done)) (first | (go_at_call 66; refine Calls.mono (slots_cell _ _ _ _ _ _ _ _ _ _ _ _ _ _ _ _ _ _ (QM.toS H2.out.drew)) ?_; rintro e w2 ⟨v, e0, rfl, q1, q2⟩; obtain ⟨rfl, rfl⟩ := q1.dead HD.out; have S4 : Hid (Led B w0 w2 (m.es vf lh fh li fi n ne s sh si f F items serial ++ blkE (w.heap.size) 41 #[.int .i64 op, .int .i64 kd, .int .i64 ha, .int .i64 hg, .int .i64 oa, .int .i64 og, .int .i64 a, .int .i64 g, .int .i64 key] :: blkE (w.heap.size + 1) 38 #[.int .i64 0, .int .i64 0, .int .i64 0, .int .i64 0, .int .i64 0, .int .i64 0, .int .i64 0, .int .i64 0] :: C)) := Lib.hid (QM.ofS q2); have HS2 : Hid (∀ W, Chg [] w2 W → W.cell? ⟨m.q, 2, none⟩ = some (.pointer (some ⟨m.t, 0, none⟩)) ∧ W.cell? ⟨w.heap.size, 6, none⟩ = some (.int .i64 a) ∧ W.cell? ⟨w.heap.size, 7, none⟩ = some (.int .i64 g)) := Lib.hid (fun W hW => have hl := S4.out.later (hW.below (by simp) (Nat.le_refl _)); ⟨QM.q2 hl, (show Blk W w.heap.size 41 #[.int .i64 op, .int .i64 kd, .int .i64 ha, .int .i64 hg, .int .i64 oa, .int .i64 og, .int .i64 a, .int .i64 g, .int .i64 key] from hl.at_ 10 rfl).cell 6, (show Blk W w.heap.size 41 #[.int .i64 op, .int .i64 kd, .int .i64 ha, .int .i64 hg, .int .i64 oa, .int .i64 og, .int .i64 a, .int .i64 g, .int .i64 key] from hl.at_ 10 rfl).cell 7⟩); clear q1 q2))
  go_wp2_with fail
  go_meet
  case rel => exact ⟨rfl, rfl, S4⟩
 case rest =>
  clear H2
  obtain ⟨rfl, rfl, S⟩ := hcut
  go_upto_region 2 with fail
  go_cut [7] (fun sx wx => ∃ yb : Nat, sx = .pointer (some ⟨yb, 0, none⟩) ∧ Hid (Led B w0 wx (m.es vf lh fh li fi n ne s sh si f F items serial ++ blkE (yb) 36 #[.int .i64 z.1, .int .i64 z.2] :: blkE (w.heap.size) 41 #[.int .i64 op, .int .i64 kd, .int .i64 ha, .int .i64 hg, .int .i64 oa, .int .i64 og, .int .i64 a, .int .i64 g, .int .i64 key] :: blkE (w.heap.size + 1) 38 #[.int .i64 0, .int .i64 0, .int .i64 0, .int .i64 0, .int .i64 0, .int .i64 0, .int .i64 0, .int .i64 0] :: C)))
  case first =>
   have HS : Hid (∀ W, Chg [] wc W → W.cell? ⟨m.q, 3, none⟩ = some (.map (some m.me)) ∧ W.cell? ⟨w.heap.size, 6, none⟩ = some (.int .i64 a) ∧ W.cell? ⟨w.heap.size, 7, none⟩ = some (.int .i64 g) ∧ (Instr.lookup 74 (.map (some m.me)) (.agg #[.int .i64 a, .int .i64 g]) false).run Tryz.prog W = .ok (.agg #[.int .i64 z.1, .int .i64 z.2]) W) := Lib.hid (fun W hW => have hl := S.out.later (hW.below (by simp) (Nat.le_refl _)); ⟨QM.q3 hl, (show Blk W w.heap.size 41 #[.int .i64 op, .int .i64 kd, .int .i64 ha, .int .i64 hg, .int .i64 oa, .int .i64 og, .int .i64 a, .int .i64 g, .int .i64 key] from hl.at_ 10 rfl).cell 6, (show Blk W w.heap.size 41 #[.int .i64 op, .int .i64 kd, .int .i64 ha, .int .i64 hg, .int .i64 oa, .int .i64 og, .int .i64 a, .int .i64 g, .int .i64 key] from hl.at_ 10 rfl).cell 7, by have := MapIs.look1 (t := 74) (x := (a, g)) (QM.map hl) Tryz.underlying74 entry_zero HK.out; rw [HY.out] at this; exact this⟩)
   go_region_held3 (fun wx => wx.cell? ⟨m.q, 3, none⟩ = some (.map (some m.me)) ∧ wx.cell? ⟨w.heap.size, 6, none⟩ = some (.int .i64 a) ∧ wx.cell? ⟨w.heap.size, 7, none⟩ = some (.int .i64 g) ∧ (Instr.lookup 74 (.map (some m.me)) (.agg #[.int .i64 a, .int .i64 g]) false).run Tryz.prog wx = .ok (.agg #[.int .i64 z.1, .int .i64 z.2]) wx) ((refine HS.out _ ?_; (repeat' first | with_reducible exact Chg.refl _ _ | with_reducible refine Chg.drew ?_ | with_reducible refine Chg.drewN ?_ _ | with_reducible refine Chg.alloc ?_ _ | with_reducible refine Chg.setCell ?_ ?_ _ | (left; simp; done) | (right; exact Nat.le_refl _) | (right; dsimp only; omega)); done)) (fail)
   all_goals go_wp2_with fail
   all_goals go_meet
   all_goals (try exact ⟨_, rfl, Lib.hid (led_new S.out).drew⟩)
  case rest =>
   clear S
   obtain ⟨yb, rfl, S⟩ := hcut
   go_wp2_with fail
   refine Calls.mono (pq_refused _ _) ?_
   rintro e w9 ⟨rfl, q9⟩
   have S9 : Hid (Led B w0 w9 (m.es vf lh fh li fi n ne s sh si f F items serial ++ blkE (yb) 36 #[.int .i64 z.1, .int .i64 z.2] :: blkE (w.heap.size) 41 #[.int .i64 op, .int .i64 kd, .int .i64 ha, .int .i64 hg, .int .i64 oa, .int .i64 og, .int .i64 a, .int .i64 g, .int .i64 key] :: blkE (w.heap.size + 1) 38 #[.int .i64 0, .int .i64 0, .int .i64 0, .int .i64 0, .int .i64 0, .int .i64 0, .int .i64 0, .int .i64 0] :: C)) := Lib.hid (S.out.later q9)
   clear q9
   have zb : Blk w9 (w.heap.size + 1) 38 #[.int .i64 0, .int .i64 0, .int .i64 0, .int .i64 0, .int .i64 0, .int .i64 0, .int .i64 0, .int .i64 0] := S9.out.at_ 12 rfl
   have lzb := zb.lt
   obtain ⟨z0, z1, z2, z3, z4, z5, z6, z7, fz0, fz1, fz2, fz3, fz4, fz5, fz6, fz7⟩ := zb.c8
   clear zb
   go_wp2_with fail
   exact bodyPost_ret (v := .agg #[.int .i64 23, .int .i64 0, .int .i64 0, .int .i64 0, .int .i64 0, .int .i64 0, .int .i64 0, .int .i64 0]) (by simp [results, Tryz.results33, go_sem, lzb, z0, z1, z2, z3, z4, z5, z6, z7]) rfl (hR.out _ _ ⟨rfl, led_cut (A := m.es vf lh fh li fi n ne s sh si f F items serial) (M := [_, _, _]) (C := C) (led_store8 (A := m.es vf lh fh li fi n ne s sh si f F items serial ++ [_, _]) S9.out)⟩)
structure DecQ (sh si : PSt V3) (F : (Int × Int) → Option (Int × Int)) (s : Ar) (ne : Nat) (j : Nat) (y : Pl V3) (i : Nat) (x : Pl V3) (e1 e2 key : Int) : Prop where
 hy : sh.l[j]? = some y
 ht : y.taken = true
 hg : 1 ≤ y.gen
 hk : 1 ≤ y.v.a ∧ y.v.a ≤ 5
 fp : FallPre (s.put x.v.a 7 key)
 lo : ¬ s.get x.v.a 7 < key
 hx : si.l[i]? = some x
 xt : x.taken = true
 xg : 1 ≤ x.gen
 xb : x.v.b = j
 xc : x.v.c = y.gen
 ik : in64 (i : Int) ∧ in64 x.gen
 fe : F ((i : Int), x.gen) = some (e1, e2)
 kl : key ≤ e1
 mp : ne ≤ 1000000
set_option maxHeartbeats 16000000 in
theorem pq_dec (op kd ha hg oa og key : Int) (j : Nat) (y : Pl V3) (i : Nat) (x : Pl V3) (e1 e2 : Int) (hp : DecQ sh si F s ne j y i x e1 e2 key) (h : Led B w0 w (m.es vf lh fh li fi n ne s sh si f F items serial ++ C)) :
  Calls Tryz.prog 33 #[.pointer (some ⟨m.q, 0, none⟩), .agg #[.int .i64 op, .int .i64 kd, .int .i64 ha, .int .i64 hg, .int .i64 oa, .int .i64 og, .int .i64 (i : Int), .int .i64 x.gen, .int .i64 key]] w fun e w' => ∃ u, e = .returned (.agg #[.int .i64 0, .int .i64 0, .int .i64 0, .int .i64 0, .int .i64 0, .int .i64 key, .int .i64 e2, .int .i64 0]) ∧ u ≤ Ar.kfallB y.v.a (s.put x.v.a 7 key) y.v.b x.v.a + 2 ∧ Led B w0 w' (m.es vf lh fh li fi n ne (((Ar.kfall y.v.a (s.put x.v.a 7 key) y.v.b x.v.a).1.tick u)) ((sh.setAt j y ⟨y.v.a, (Ar.kfall y.v.a (s.put x.v.a 7 key) y.v.b x.v.a).2, y.v.c⟩)) si f ((upd F ((i : Int), x.gen) (some (key, e2)))) items serial ++ C) := by
 have H := Lib.hid h
 have HP := Lib.hid hp
 have gk : decide (e1 < key) = false := by have := hp.kl; simp; omega
 clear h hp
 refine callsR fun R hR => ?_
 go_enter Tryz.func33, Tryz.ntmps33
 have H2 : Hid (Led B w0 ((w.alloc (.cells #[.int .i64 op, .int .i64 kd, .int .i64 ha, .int .i64 hg, .int .i64 oa, .int .i64 og, .int .i64 (i : Int), .int .i64 x.gen, .int .i64 key] 41)).alloc (.cells #[.int .i64 0, .int .i64 0, .int .i64 0, .int .i64 0, .int .i64 0, .int .i64 0, .int .i64 0, .int .i64 0] 38)) (m.es vf lh fh li fi n ne s sh si f F items serial ++ blkE (w.heap.size) 41 #[.int .i64 op, .int .i64 kd, .int .i64 ha, .int .i64 hg, .int .i64 oa, .int .i64 og, .int .i64 (i : Int), .int .i64 x.gen, .int .i64 key] :: blkE (w.heap.size + 1) 38 #[.int .i64 0, .int .i64 0, .int .i64 0, .int .i64 0, .int .i64 0, .int .i64 0, .int .i64 0, .int .i64 0] :: C)) := Lib.hid (led_new2 H.out)
 clear H
 go_upto_region 1 with fail
 obtain ⟨w1, hw1⟩ : ∃ w1, w1 = (w.alloc (.cells #[.int .i64 op, .int .i64 kd, .int .i64 ha, .int .i64 hg, .int .i64 oa, .int .i64 og, .int .i64 (i : Int), .int .i64 x.gen, .int .i64 key] 41)).alloc (.cells #[.int .i64 0, .int .i64 0, .int .i64 0, .int .i64 0, .int .i64 0, .int .i64 0, .int .i64 0, .int .i64 0] 38) := ⟨_, rfl⟩
 rw [← hw1] at H2 ⊢
 clear hw1
 go_cut [5, 6] (fun s5 s6 wx => s5 = .int .i64 x.v.a ∧ s6 = .int .i64 0 ∧ Hid (Led B w0 wx (m.es vf lh fh li fi n ne s sh si f F items serial ++ blkE (w.heap.size) 41 #[.int .i64 op, .int .i64 kd, .int .i64 ha, .int .i64 hg, .int .i64 oa, .int .i64 og, .int .i64 (i : Int), .int .i64 x.gen, .int .i64 key] :: blkE (w.heap.size + 1) 38 #[.int .i64 0, .int .i64 0, .int .i64 0, .int .i64 0, .int .i64 0, .int .i64 0, .int .i64 0, .int .i64 0] :: C)))
 case first =>
  have HS : Hid (∀ W, Chg [] w1 W → W.cell? ⟨m.q, 2, none⟩ = some (.pointer (some ⟨m.t, 0, none⟩)) ∧ W.cell? ⟨w.heap.size, 6, none⟩ = some (.int .i64 (i : Int)) ∧ W.cell? ⟨w.heap.size, 7, none⟩ = some (.int .i64 x.gen)) := Lib.hid (fun W hW => have hl := H2.out.later (hW.below (by simp) (Nat.le_refl _)); ⟨QM.q2 hl, (show Blk W w.heap.size 41 #[.int .i64 op, .int .i64 kd, .int .i64 ha, .int .i64 hg, .int .i64 oa, .int .i64 og, .int .i64 (i : Int), .int .i64 x.gen, .int .i64 key] from hl.at_ 10 rfl).cell 6, (show Blk W w.heap.size 41 #[.int .i64 op, .int .i64 kd, .int .i64 ha, .int .i64 hg, .int .i64 oa, .int .i64 og, .int .i64 (i : Int), .int .i64 x.gen, .int .i64 key] from hl.at_ 10 rfl).cell 7⟩)
  go_region_held3 (fun wx => wx.cell? ⟨m.q, 2, none⟩ = some (.pointer (some ⟨m.t, 0, none⟩)) ∧ wx.cell? ⟨w.heap.size, 6, none⟩ = some (.int .i64 (i : Int)) ∧ wx.cell? ⟨w.heap.size, 7, none⟩ = some (.int .i64 x.gen)) (first | (refine HS.out _ ?_; (repeat' first | with_reducible exact Chg.refl _ _ | with_reducible refine Chg.drew ?_ | with_reducible refine Chg.drewN ?_ _ | with_reducible refine Chg.alloc ?_ _ | with_reducible refine Chg.setCell ?_ ?_ _ | (left; simp; done) | (right; exact Nat.le_refl _) | (right; dsimp only; omega)); done) | (refine HS2.out _ ?_; (repeat' first | with_reducible exact Chg.refl _ _ | with_reducible refine Chg.drew ?_ | with_reducible refine Chg.drewN ?_ _ | with_reducible refine Chg.alloc ?_ _ | with_reducible refine Chg.setCell ?_ ?_ _ | (left; simp; done) | (right; exact Nat.le_refl _) | (right; dsimp only; omega)); done)) (first | (go_at_call 66; refine Calls.mono (slots_cell _ _ _ _ _ _ _ _ _ _ _ _ _ _ _ _ _ _ (QM.toS H2.out.drew)) ?_; rintro e w2 ⟨v, e0, rfl, q1, q2⟩; obtain ⟨rfl, rfl⟩ := q1.ok HP.out.hx HP.out.xt HP.out.xg; have S4 : Hid (Led B w0 w2 (m.es vf lh fh li fi n ne s sh si f F items serial ++ blkE (w.heap.size) 41 #[.int .i64 op, .int .i64 kd, .int .i64 ha, .int .i64 hg, .int .i64 oa, .int .i64 og, .int .i64 (i : Int), .int .i64 x.gen, .int .i64 key] :: blkE (w.heap.size + 1) 38 #[.int .i64 0, .int .i64 0, .int .i64 0, .int .i64 0, .int .i64 0, .int .i64 0, .int .i64 0, .int .i64 0] :: C)) := Lib.hid (QM.ofS q2); have HS2 : Hid (∀ W, Chg [] w2 W → W.cell? ⟨m.q, 2, none⟩ = some (.pointer (some ⟨m.t, 0, none⟩)) ∧ W.cell? ⟨w.heap.size, 6, none⟩ = some (.int .i64 (i : Int)) ∧ W.cell? ⟨w.heap.size, 7, none⟩ = some (.int .i64 x.gen)) := Lib.hid (fun W hW => have hl := S4.out.later (hW.below (by simp) (Nat.le_refl _)); ⟨QM.q2 hl, (show Blk W w.heap.size 41 #[.int .i64 op, .int .i64 kd, .int .i64 ha, .int .i64 hg, .int .i64 oa, .int .i64 og, .int .i64 (i : Int), .int .i64 x.gen, .int .i64 key] from hl.at_ 10 rfl).cell 6, (show Blk W w.heap.size 41 #[.int .i64 op, .int .i64 kd, .int .i64 ha, .int .i64 hg, .int .i64 oa, .int .i64 og, .int .i64 (i : Int), .int .i64 x.gen, .int .i64 key] from hl.at_ 10 rfl).cell 7⟩); clear q1 q2))
  go_wp2_with fail
  go_meet
  case rel => exact ⟨rfl, rfl, S4⟩
 case rest =>
  clear H2
  obtain ⟨rfl, rfl, S⟩ := hcut
  go_upto_region 2 with fail
  go_cut [7] (fun sx wx => ∃ yb : Nat, sx = .pointer (some ⟨yb, 0, none⟩) ∧ Hid (Led B w0 wx (m.es vf lh fh li fi n ne s sh si f F items serial ++ blkE (yb) 36 #[.int .i64 e1, .int .i64 e2] :: blkE (w.heap.size) 41 #[.int .i64 op, .int .i64 kd, .int .i64 ha, .int .i64 hg, .int .i64 oa, .int .i64 og, .int .i64 (i : Int), .int .i64 x.gen, .int .i64 key] :: blkE (w.heap.size + 1) 38 #[.int .i64 0, .int .i64 0, .int .i64 0, .int .i64 0, .int .i64 0, .int .i64 0, .int .i64 0, .int .i64 0] :: C)))
  case first =>
   have HS : Hid (∀ W, Chg [] wc W → W.cell? ⟨m.q, 3, none⟩ = some (.map (some m.me)) ∧ W.cell? ⟨w.heap.size, 6, none⟩ = some (.int .i64 (i : Int)) ∧ W.cell? ⟨w.heap.size, 7, none⟩ = some (.int .i64 x.gen) ∧ (Instr.lookup 74 (.map (some m.me)) (.agg #[.int .i64 (i : Int), .int .i64 x.gen]) false).run Tryz.prog W = .ok (.agg #[.int .i64 e1, .int .i64 e2]) W) := Lib.hid (fun W hW => have hl := S.out.later (hW.below (by simp) (Nat.le_refl _)); ⟨QM.q3 hl, (show Blk W w.heap.size 41 #[.int .i64 op, .int .i64 kd, .int .i64 ha, .int .i64 hg, .int .i64 oa, .int .i64 og, .int .i64 (i : Int), .int .i64 x.gen, .int .i64 key] from hl.at_ 10 rfl).cell 6, (show Blk W w.heap.size 41 #[.int .i64 op, .int .i64 kd, .int .i64 ha, .int .i64 hg, .int .i64 oa, .int .i64 og, .int .i64 (i : Int), .int .i64 x.gen, .int .i64 key] from hl.at_ 10 rfl).cell 7, by have := MapIs.look1 (t := 74) (x := ((i : Int), x.gen)) (QM.map hl) Tryz.underlying74 entry_zero HP.out.ik; rw [HP.out.fe] at this; exact this⟩)
   go_region_held3 (fun wx => wx.cell? ⟨m.q, 3, none⟩ = some (.map (some m.me)) ∧ wx.cell? ⟨w.heap.size, 6, none⟩ = some (.int .i64 (i : Int)) ∧ wx.cell? ⟨w.heap.size, 7, none⟩ = some (.int .i64 x.gen) ∧ (Instr.lookup 74 (.map (some m.me)) (.agg #[.int .i64 (i : Int), .int .i64 x.gen]) false).run Tryz.prog wx = .ok (.agg #[.int .i64 e1, .int .i64 e2]) wx) ((refine HS.out _ ?_; (repeat' first | with_reducible exact Chg.refl _ _ | with_reducible refine Chg.drew ?_ | with_reducible refine Chg.drewN ?_ _ | with_reducible refine Chg.alloc ?_ _ | with_reducible refine Chg.setCell ?_ ?_ _ | (left; simp; done) | (right; exact Nat.le_refl _) | (right; dsimp only; omega)); done)) (fail)
   all_goals go_wp2_with fail
   all_goals go_meet
   all_goals (try exact ⟨_, rfl, Lib.hid (led_new S.out).drew⟩)
  case rest =>
   clear S
   obtain ⟨yb, rfl, S⟩ := hcut
   have vb : Blk wc yb 36 #[.int .i64 e1, .int .i64 e2] := S.out.at_ 10 rfl
   have lvb := vb.lt
   obtain ⟨v0, v1, fv0, fv1⟩ := vb.c2
   clear vb
   have cb : Blk wc w.heap.size 41 #[.int .i64 op, .int .i64 kd, .int .i64 ha, .int .i64 hg, .int .i64 oa, .int .i64 og, .int .i64 (i : Int), .int .i64 x.gen, .int .i64 key] := S.out.at_ 11 rfl
   have lcb := cb.lt
   obtain ⟨c0, c1, c2, c3, c4, c5, c6, c7, c8, fc0, fc1, fc2, fc3, fc4, fc5, fc6, fc7, fc8⟩ := cb.c9
   clear cb
   go_upto_region 7 with fail
   clear v0 v1 fv0 fv1 lvb c0 fc0 c1 fc1 c2 fc2 c3 fc3 c4 fc4 c5 fc5 c6 fc6 c7 fc7 c8 fc8 lcb gk
   go_cut [8] (fun s8 wx => ∃ rb : Nat, s8 = .pointer (some ⟨rb, 0, none⟩) ∧ Hid (Led B w0 wx (m.es vf lh fh li fi n ne s sh si f F items serial ++ blkE (rb) 34 #[.int .i64 (j : Int), .int .i64 y.gen] :: blkE (yb) 36 #[.int .i64 e1, .int .i64 e2] :: blkE (w.heap.size) 41 #[.int .i64 op, .int .i64 kd, .int .i64 ha, .int .i64 hg, .int .i64 oa, .int .i64 og, .int .i64 (i : Int), .int .i64 x.gen, .int .i64 key] :: blkE (w.heap.size + 1) 38 #[.int .i64 0, .int .i64 0, .int .i64 0, .int .i64 0, .int .i64 0, .int .i64 0, .int .i64 0, .int .i64 0] :: C)))
   case first =>
    have H3 : Hid (Led B w0 (wc.alloc (.cells #[.int .i64 0, .int .i64 0] 34)) (m.es vf lh fh li fi n ne s sh si f F items serial ++ blkE (wc.heap.size) 34 #[.int .i64 0, .int .i64 0] :: blkE (yb) 36 #[.int .i64 e1, .int .i64 e2] :: blkE (w.heap.size) 41 #[.int .i64 op, .int .i64 kd, .int .i64 ha, .int .i64 hg, .int .i64 oa, .int .i64 og, .int .i64 (i : Int), .int .i64 x.gen, .int .i64 key] :: blkE (w.heap.size + 1) 38 #[.int .i64 0, .int .i64 0, .int .i64 0, .int .i64 0, .int .i64 0, .int .i64 0, .int .i64 0, .int .i64 0] :: C)) := Lib.hid (led_new S.out)
    have ltq := QM.lt S.out
    have ltc : w.heap.size < wc.heap.size := (show Blk wc w.heap.size 41 #[.int .i64 op, .int .i64 kd, .int .i64 ha, .int .i64 hg, .int .i64 oa, .int .i64 og, .int .i64 (i : Int), .int .i64 x.gen, .int .i64 key] from S.out.at_ 11 rfl).lt
    have HS : Hid (∀ W, Chg [] wc W → W.cell? ⟨m.q, 2, none⟩ = some (.pointer (some ⟨m.t, 0, none⟩)) ∧ W.cell? ⟨w.heap.size, 6, none⟩ = some (.int .i64 (i : Int)) ∧ W.cell? ⟨w.heap.size, 7, none⟩ = some (.int .i64 x.gen)) := Lib.hid (fun W hW => have hl := S.out.later (hW.below (by simp) (Nat.le_refl _)); ⟨QM.q2 hl, (show Blk W w.heap.size 41 #[.int .i64 op, .int .i64 kd, .int .i64 ha, .int .i64 hg, .int .i64 oa, .int .i64 og, .int .i64 (i : Int), .int .i64 x.gen, .int .i64 key] from hl.at_ 11 rfl).cell 6, (show Blk W w.heap.size 41 #[.int .i64 op, .int .i64 kd, .int .i64 ha, .int .i64 hg, .int .i64 oa, .int .i64 og, .int .i64 (i : Int), .int .i64 x.gen, .int .i64 key] from hl.at_ 11 rfl).cell 7⟩)
    go_region_held3 (fun wx => wx.cell? ⟨m.q, 2, none⟩ = some (.pointer (some ⟨m.t, 0, none⟩)) ∧ wx.cell? ⟨w.heap.size, 6, none⟩ = some (.int .i64 (i : Int)) ∧ wx.cell? ⟨w.heap.size, 7, none⟩ = some (.int .i64 x.gen)) (first | (refine HS.out _ ?_; (repeat' first | with_reducible exact Chg.refl _ _ | with_reducible refine Chg.drew ?_ | with_reducible refine Chg.drewN ?_ _ | with_reducible refine Chg.alloc ?_ _ | with_reducible refine Chg.setCell ?_ ?_ _ | (left; simp; done) | (right; exact Nat.le_refl _) | (right; dsimp only; omega)); done) | (refine HS2.out _ ?_; (repeat' first | with_reducible exact Chg.refl _ _ | with_reducible refine Chg.drew ?_ | with_reducible refine Chg.drewN ?_ _ | with_reducible refine Chg.alloc ?_ _ | with_reducible refine Chg.setCell ?_ ?_ _ | (left; simp; done) | (right; exact Nat.le_refl _) | (right; dsimp only; omega)); done)) (first | (go_at_call 67; (with_reducible refine Calls.mono (slots_of _ _ _ _ _ _ _ _ _ _ _ _ _ _ _ _ _ _ (QM.toS S.out.drew)) ?_); rintro e w4 ⟨v, e0, rfl, q1, q2⟩; obtain ⟨rfl, rfl⟩ := q1.ok HP.out.hx HP.out.xt HP.out.xg; rw [HP.out.xb, HP.out.xc]; have S4 := Lib.hid (QM.ofS (m := m) q2); have HS2 : Hid (∀ W, Chg [wc.heap.size] w4 W → W.cell? ⟨m.q, 2, none⟩ = some (.pointer (some ⟨m.t, 0, none⟩)) ∧ W.cell? ⟨w.heap.size, 6, none⟩ = some (.int .i64 (i : Int)) ∧ W.cell? ⟨w.heap.size, 7, none⟩ = some (.int .i64 x.gen)) := Lib.hid (fun W hW => ⟨(hW.cell (p := ⟨m.q, 2, none⟩) (QM.lt S4.out) (by simp; omega)).trans (by exact QM.q2 S4.out), (hW.cell (p := ⟨w.heap.size, 6, none⟩) ((show Blk w4 w.heap.size 41 #[.int .i64 op, .int .i64 kd, .int .i64 ha, .int .i64 hg, .int .i64 oa, .int .i64 og, .int .i64 (i : Int), .int .i64 x.gen, .int .i64 key] from S4.out.at_ 11 rfl).lt) (by simp; omega)).trans (by exact (show Blk w4 w.heap.size 41 #[.int .i64 op, .int .i64 kd, .int .i64 ha, .int .i64 hg, .int .i64 oa, .int .i64 og, .int .i64 (i : Int), .int .i64 x.gen, .int .i64 key] from S4.out.at_ 11 rfl).cell 6), (hW.cell (p := ⟨w.heap.size, 7, none⟩) ((show Blk w4 w.heap.size 41 #[.int .i64 op, .int .i64 kd, .int .i64 ha, .int .i64 hg, .int .i64 oa, .int .i64 og, .int .i64 (i : Int), .int .i64 x.gen, .int .i64 key] from S4.out.at_ 11 rfl).lt) (by simp; omega)).trans (by exact (show Blk w4 w.heap.size 41 #[.int .i64 op, .int .i64 kd, .int .i64 ha, .int .i64 hg, .int .i64 oa, .int .i64 og, .int .i64 (i : Int), .int .i64 x.gen, .int .i64 key] from S4.out.at_ 11 rfl).cell 7)⟩); clear q1 q2) | (go_at_call 67; (with_reducible refine Calls.mono (slots_of _ _ _ _ _ _ _ _ _ _ _ _ _ _ _ _ _ _ (QM.toS H3.out.drew)) ?_); rintro e w4 ⟨v, e0, rfl, q1, q2⟩; obtain ⟨rfl, rfl⟩ := q1.ok HP.out.hx HP.out.xt HP.out.xg; rw [HP.out.xb, HP.out.xc]; have S4 := Lib.hid (QM.ofS (m := m) q2); have HS2 : Hid (∀ W, Chg [wc.heap.size] w4 W → W.cell? ⟨m.q, 2, none⟩ = some (.pointer (some ⟨m.t, 0, none⟩)) ∧ W.cell? ⟨w.heap.size, 6, none⟩ = some (.int .i64 (i : Int)) ∧ W.cell? ⟨w.heap.size, 7, none⟩ = some (.int .i64 x.gen)) := Lib.hid (fun W hW => ⟨(hW.cell (p := ⟨m.q, 2, none⟩) (QM.lt S4.out) (by simp; omega)).trans (by exact QM.q2 S4.out), (hW.cell (p := ⟨w.heap.size, 6, none⟩) ((show Blk w4 w.heap.size 41 #[.int .i64 op, .int .i64 kd, .int .i64 ha, .int .i64 hg, .int .i64 oa, .int .i64 og, .int .i64 (i : Int), .int .i64 x.gen, .int .i64 key] from S4.out.at_ 12 rfl).lt) (by simp; omega)).trans (by exact (show Blk w4 w.heap.size 41 #[.int .i64 op, .int .i64 kd, .int .i64 ha, .int .i64 hg, .int .i64 oa, .int .i64 og, .int .i64 (i : Int), .int .i64 x.gen, .int .i64 key] from S4.out.at_ 12 rfl).cell 6), (hW.cell (p := ⟨w.heap.size, 7, none⟩) ((show Blk w4 w.heap.size 41 #[.int .i64 op, .int .i64 kd, .int .i64 ha, .int .i64 hg, .int .i64 oa, .int .i64 og, .int .i64 (i : Int), .int .i64 x.gen, .int .i64 key] from S4.out.at_ 12 rfl).lt) (by simp; omega)).trans (by exact (show Blk w4 w.heap.size 41 #[.int .i64 op, .int .i64 kd, .int .i64 ha, .int .i64 hg, .int .i64 oa, .int .i64 og, .int .i64 (i : Int), .int .i64 x.gen, .int .i64 key] from S4.out.at_ 12 rfl).cell 7)⟩); have zb : Blk w4 wc.heap.size 34 #[.int .i64 0, .int .i64 0] := S4.out.at_ 10 rfl; obtain ⟨z0, z1, fz0, fz1⟩ := zb.c2; have lzb := zb.lt; clear zb; clear q1 q2))
    all_goals go_wp2_with fail
    all_goals go_meet
    all_goals first | exact ⟨_, rfl, Lib.hid (led_new S4.out)⟩ | exact ⟨_, rfl, Lib.hid (led_store2 S4.out)⟩
   case rest =>
    clear S
    obtain ⟨rb, rfl, S⟩ := hcut
    go_upto_region 8 with fail
    go_cut [10, 11, 12] (fun s9 s10 s11 wx => s9 = .int .i64 y.v.a ∧ s10 = .int .i64 y.v.b ∧ s11 = .int .i64 y.v.c ∧ Hid (Led B w0 wx (m.es vf lh fh li fi n ne s sh si f F items serial ++ blkE (rb) 34 #[.int .i64 (j : Int), .int .i64 y.gen] :: blkE (yb) 36 #[.int .i64 e1, .int .i64 e2] :: blkE (w.heap.size) 41 #[.int .i64 op, .int .i64 kd, .int .i64 ha, .int .i64 hg, .int .i64 oa, .int .i64 og, .int .i64 (i : Int), .int .i64 x.gen, .int .i64 key] :: blkE (w.heap.size + 1) 38 #[.int .i64 0, .int .i64 0, .int .i64 0, .int .i64 0, .int .i64 0, .int .i64 0, .int .i64 0, .int .i64 0] :: C)))
    case first =>
     have HS : Hid (∀ W, Chg [] wc W → W.cell? ⟨m.q, 2, none⟩ = some (.pointer (some ⟨m.t, 0, none⟩)) ∧ W.cell? ⟨rb, 0, none⟩ = some (.int .i64 (j : Int)) ∧ W.cell? ⟨rb, 1, none⟩ = some (.int .i64 y.gen)) := Lib.hid (fun W hW => have hl := S.out.later (hW.below (by simp) (Nat.le_refl _)); ⟨QM.q2 hl, (show Blk W rb 34 #[.int .i64 (j : Int), .int .i64 y.gen] from hl.at_ 10 rfl).cell 0, (show Blk W rb 34 #[.int .i64 (j : Int), .int .i64 y.gen] from hl.at_ 10 rfl).cell 1⟩)
     go_region_held3 (fun wx => wx.cell? ⟨m.q, 2, none⟩ = some (.pointer (some ⟨m.t, 0, none⟩)) ∧ wx.cell? ⟨rb, 0, none⟩ = some (.int .i64 (j : Int)) ∧ wx.cell? ⟨rb, 1, none⟩ = some (.int .i64 y.gen)) (first | (refine HS.out _ ?_; (repeat' first | with_reducible exact Chg.refl _ _ | with_reducible refine Chg.drew ?_ | with_reducible refine Chg.drewN ?_ _ | with_reducible refine Chg.alloc ?_ _ | with_reducible refine Chg.setCell ?_ ?_ _ | (left; simp; done) | (right; exact Nat.le_refl _) | (right; dsimp only; omega)); done) | (refine HS2.out _ ?_; (repeat' first | with_reducible exact Chg.refl _ _ | with_reducible refine Chg.drew ?_ | with_reducible refine Chg.drewN ?_ _ | with_reducible refine Chg.alloc ?_ _ | with_reducible refine Chg.setCell ?_ ?_ _ | (left; simp; done) | (right; exact Nat.le_refl _) | (right; dsimp only; omega)); done)) (first | (go_at_call 36; refine Calls.mono (slots_heap _ _ _ _ _ _ _ _ _ _ _ _ _ _ _ _ _ _ (QM.toS S.out.drew)) ?_; rintro e w2 ⟨v, e0, rfl, q1, q2⟩; obtain ⟨rfl, rfl⟩ := q1.ok HP.out.hy HP.out.ht HP.out.hg; have S4 : Hid (Led B w0 w2 (m.es vf lh fh li fi n ne s sh si f F items serial ++ blkE (rb) 34 #[.int .i64 (j : Int), .int .i64 y.gen] :: blkE (yb) 36 #[.int .i64 e1, .int .i64 e2] :: blkE (w.heap.size) 41 #[.int .i64 op, .int .i64 kd, .int .i64 ha, .int .i64 hg, .int .i64 oa, .int .i64 og, .int .i64 (i : Int), .int .i64 x.gen, .int .i64 key] :: blkE (w.heap.size + 1) 38 #[.int .i64 0, .int .i64 0, .int .i64 0, .int .i64 0, .int .i64 0, .int .i64 0, .int .i64 0, .int .i64 0] :: C)) := Lib.hid (QM.ofS q2); have HS2 : Hid (∀ W, Chg [] w2 W → W.cell? ⟨m.q, 2, none⟩ = some (.pointer (some ⟨m.t, 0, none⟩)) ∧ W.cell? ⟨rb, 0, none⟩ = some (.int .i64 (j : Int)) ∧ W.cell? ⟨rb, 1, none⟩ = some (.int .i64 y.gen)) := Lib.hid (fun W hW => have hl := S4.out.later (hW.below (by simp) (Nat.le_refl _)); ⟨QM.q2 hl, (show Blk W rb 34 #[.int .i64 (j : Int), .int .i64 y.gen] from hl.at_ 10 rfl).cell 0, (show Blk W rb 34 #[.int .i64 (j : Int), .int .i64 y.gen] from hl.at_ 10 rfl).cell 1⟩); clear q1 q2))
     go_wp2_with fail
     go_meet
     case rel => exact ⟨rfl, rfl, rfl, S4⟩
    case rest =>
     clear S
     obtain ⟨rfl, rfl, rfl, S⟩ := hcut
     go_upto_region 9 with fail
     have HS : Hid (∀ W, Chg [] wc W → W.cell? ⟨m.q, 1, none⟩ = some (.pointer (some ⟨m.X.p, 0, none⟩)) ∧ W.cell? ⟨w.heap.size, 8, none⟩ = some (.int .i64 key)) := Lib.hid (fun W hW => have hl := S.out.later (hW.below (by simp) (Nat.le_refl _)); ⟨QM.q1 hl, (show Blk W w.heap.size 41 #[.int .i64 op, .int .i64 kd, .int .i64 ha, .int .i64 hg, .int .i64 oa, .int .i64 og, .int .i64 (i : Int), .int .i64 x.gen, .int .i64 key] from hl.at_ 12 rfl).cell 8⟩)
     go_region_held3 (fun wx => wx.cell? ⟨m.q, 1, none⟩ = some (.pointer (some ⟨m.X.p, 0, none⟩)) ∧ wx.cell? ⟨w.heap.size, 8, none⟩ = some (.int .i64 key)) (first | (refine HS.out _ ?_; (repeat' first | with_reducible exact Chg.refl _ _ | with_reducible refine Chg.drew ?_ | with_reducible refine Chg.drewN ?_ _ | with_reducible refine Chg.alloc ?_ _ | with_reducible refine Chg.setCell ?_ ?_ _ | (left; simp; done) | (right; exact Nat.le_refl _) | (right; dsimp only; omega)); done) | (refine HS2.out _ ?_; (repeat' first | with_reducible exact Chg.refl _ _ | with_reducible refine Chg.drew ?_ | with_reducible refine Chg.drewN ?_ _ | with_reducible refine Chg.alloc ?_ _ | with_reducible refine Chg.setCell ?_ ?_ _ | (left; simp; done) | (right; exact Nat.le_refl _) | (right; dsimp only; omega)); done)) (first | (go_at_call 68; refine Calls.mono (item_lower m.X s 0 x.v.a key (QM.toA S.out.drew)) ?_; rintro e w2 ⟨rfl, h'⟩; rw [if_neg HP.out.lo] at h'; have S4 : Hid (Led B w0 w2 (m.es vf lh fh li fi n ne (((s.put x.v.a 7 key).tick 2)) sh si f F items serial ++ blkE (rb) 34 #[.int .i64 (j : Int), .int .i64 y.gen] :: blkE (yb) 36 #[.int .i64 e1, .int .i64 e2] :: blkE (w.heap.size) 41 #[.int .i64 op, .int .i64 kd, .int .i64 ha, .int .i64 hg, .int .i64 oa, .int .i64 og, .int .i64 (i : Int), .int .i64 x.gen, .int .i64 key] :: blkE (w.heap.size + 1) 38 #[.int .i64 0, .int .i64 0, .int .i64 0, .int .i64 0, .int .i64 0, .int .i64 0, .int .i64 0, .int .i64 0] :: C)) := Lib.hid (QM.ofA h'); have HS2 : Hid (∀ W, Chg [] w2 W → W.cell? ⟨m.q, 1, none⟩ = some (.pointer (some ⟨m.X.p, 0, none⟩)) ∧ W.cell? ⟨w.heap.size, 8, none⟩ = some (.int .i64 key)) := Lib.hid (fun W hW => have hl := S4.out.later (hW.below (by simp) (Nat.le_refl _)); ⟨QM.q1 hl, (show Blk W w.heap.size 41 #[.int .i64 op, .int .i64 kd, .int .i64 ha, .int .i64 hg, .int .i64 oa, .int .i64 og, .int .i64 (i : Int), .int .i64 x.gen, .int .i64 key] from hl.at_ 12 rfl).cell 8⟩); clear h'))
     clear HS HS2 S
     go_upto_region 10 with fail
     have HS : Hid (∀ W, Chg [] w2 W → W.cell? ⟨m.q, 1, none⟩ = some (.pointer (some ⟨m.X.p, 0, none⟩)) ∧ W.cell? ⟨m.q, 2, none⟩ = some (.pointer (some ⟨m.t, 0, none⟩)) ∧ W.cell? ⟨rb, 0, none⟩ = some (.int .i64 (j : Int)) ∧ W.cell? ⟨rb, 1, none⟩ = some (.int .i64 y.gen)) := Lib.hid (fun W hW => have hl := S4.out.later (hW.below (by simp) (Nat.le_refl _)); ⟨QM.q1 hl, QM.q2 hl, (show Blk W rb 34 #[.int .i64 (j : Int), .int .i64 y.gen] from hl.at_ 10 rfl).cell 0, (show Blk W rb 34 #[.int .i64 (j : Int), .int .i64 y.gen] from hl.at_ 10 rfl).cell 1⟩)
     go_region_held3 (fun wx => wx.cell? ⟨m.q, 1, none⟩ = some (.pointer (some ⟨m.X.p, 0, none⟩)) ∧ wx.cell? ⟨m.q, 2, none⟩ = some (.pointer (some ⟨m.t, 0, none⟩)) ∧ wx.cell? ⟨rb, 0, none⟩ = some (.int .i64 (j : Int)) ∧ wx.cell? ⟨rb, 1, none⟩ = some (.int .i64 y.gen)) (first | (refine HS.out _ ?_; (repeat' first | with_reducible exact Chg.refl _ _ | with_reducible refine Chg.drew ?_ | with_reducible refine Chg.drewN ?_ _ | with_reducible refine Chg.alloc ?_ _ | with_reducible refine Chg.setCell ?_ ?_ _ | (left; simp; done) | (right; exact Nat.le_refl _) | (right; dsimp only; omega)); done) | (refine HS2.out _ ?_; (repeat' first | with_reducible exact Chg.refl _ _ | with_reducible refine Chg.drew ?_ | with_reducible refine Chg.drewN ?_ _ | with_reducible refine Chg.alloc ?_ _ | with_reducible refine Chg.setCell ?_ ?_ _ | (left; simp; done) | (right; exact Nat.le_refl _) | (right; dsimp only; omega)); done) | (refine HS3.out _ ?_; (repeat' first | with_reducible exact Chg.refl _ _ | with_reducible refine Chg.drew ?_ | with_reducible refine Chg.drewN ?_ _ | with_reducible refine Chg.alloc ?_ _ | with_reducible refine Chg.setCell ?_ ?_ _ | (left; simp; done) | (right; exact Nat.le_refl _) | (right; dsimp only; omega)); done)) (first | (go_at_call 69; refine Calls.mono (kd_fall m.X (s.put x.v.a 7 key) 2 y.v.a y.v.b x.v.a HP.out.hk HP.out.fp (QM.toA S4.out.drew)) ?_; rintro e w5 ⟨u, hu, rfl, h'⟩; have S5 : Hid (Led B w0 w5 (m.es vf lh fh li fi n ne (((Ar.kfall y.v.a (s.put x.v.a 7 key) y.v.b x.v.a).1.tick (2 + u))) sh si f F items serial ++ blkE (rb) 34 #[.int .i64 (j : Int), .int .i64 y.gen] :: blkE (yb) 36 #[.int .i64 e1, .int .i64 e2] :: blkE (w.heap.size) 41 #[.int .i64 op, .int .i64 kd, .int .i64 ha, .int .i64 hg, .int .i64 oa, .int .i64 og, .int .i64 (i : Int), .int .i64 x.gen, .int .i64 key] :: blkE (w.heap.size + 1) 38 #[.int .i64 0, .int .i64 0, .int .i64 0, .int .i64 0, .int .i64 0, .int .i64 0, .int .i64 0, .int .i64 0] :: C)) := Lib.hid (QM.ofA h'); have HS2 : Hid (∀ W, Chg [] w5 W → W.cell? ⟨m.q, 1, none⟩ = some (.pointer (some ⟨m.X.p, 0, none⟩)) ∧ W.cell? ⟨m.q, 2, none⟩ = some (.pointer (some ⟨m.t, 0, none⟩)) ∧ W.cell? ⟨rb, 0, none⟩ = some (.int .i64 (j : Int)) ∧ W.cell? ⟨rb, 1, none⟩ = some (.int .i64 y.gen)) := Lib.hid (fun W hW => have hl := S5.out.later (hW.below (by simp) (Nat.le_refl _)); ⟨QM.q1 hl, QM.q2 hl, (show Blk W rb 34 #[.int .i64 (j : Int), .int .i64 y.gen] from hl.at_ 10 rfl).cell 0, (show Blk W rb 34 #[.int .i64 (j : Int), .int .i64 y.gen] from hl.at_ 10 rfl).cell 1⟩); clear h') | (go_at_call 61; refine Calls.mono (slots_root _ _ _ _ _ _ _ _ _ _ _ _ _ _ _ _ _ _ _ _ (QM.toS S5.out)) ?_; rintro e w6 ⟨e0, sh', rfl, q1, q2⟩; obtain ⟨rfl, rfl⟩ := q1.ok_ HP.out.hy HP.out.ht HP.out.hg; have S6 : Hid (Led B w0 w6 (m.es vf lh fh li fi n ne (((Ar.kfall y.v.a (s.put x.v.a 7 key) y.v.b x.v.a).1.tick (2 + u))) ((sh.setAt j y ⟨y.v.a, (Ar.kfall y.v.a (s.put x.v.a 7 key) y.v.b x.v.a).2, y.v.c⟩)) si f F items serial ++ blkE (rb) 34 #[.int .i64 (j : Int), .int .i64 y.gen] :: blkE (yb) 36 #[.int .i64 e1, .int .i64 e2] :: blkE (w.heap.size) 41 #[.int .i64 op, .int .i64 kd, .int .i64 ha, .int .i64 hg, .int .i64 oa, .int .i64 og, .int .i64 (i : Int), .int .i64 x.gen, .int .i64 key] :: blkE (w.heap.size + 1) 38 #[.int .i64 0, .int .i64 0, .int .i64 0, .int .i64 0, .int .i64 0, .int .i64 0, .int .i64 0, .int .i64 0] :: C)) := Lib.hid (QM.ofS q2); have HS3 : Hid (∀ W, Chg [] w6 W → W.cell? ⟨m.q, 1, none⟩ = some (.pointer (some ⟨m.X.p, 0, none⟩)) ∧ W.cell? ⟨m.q, 2, none⟩ = some (.pointer (some ⟨m.t, 0, none⟩)) ∧ W.cell? ⟨rb, 0, none⟩ = some (.int .i64 (j : Int)) ∧ W.cell? ⟨rb, 1, none⟩ = some (.int .i64 y.gen)) := Lib.hid (fun W hW => have hl := S6.out.later (hW.below (by simp) (Nat.le_refl _)); ⟨QM.q1 hl, QM.q2 hl, (show Blk W rb 34 #[.int .i64 (j : Int), .int .i64 y.gen] from hl.at_ 10 rfl).cell 0, (show Blk W rb 34 #[.int .i64 (j : Int), .int .i64 y.gen] from hl.at_ 10 rfl).cell 1⟩); clear q1 q2))
     clear HS HS2 HS3 S4 S5
     have cb : Blk w6 w.heap.size 41 #[.int .i64 op, .int .i64 kd, .int .i64 ha, .int .i64 hg, .int .i64 oa, .int .i64 og, .int .i64 (i : Int), .int .i64 x.gen, .int .i64 key] := S6.out.at_ 12 rfl
     have lcb := cb.lt
     obtain ⟨c0, c1, c2, c3, c4, c5, c6, c7, c8, fc0, fc1, fc2, fc3, fc4, fc5, fc6, fc7, fc8⟩ := cb.c9
     clear cb
     have vb : Blk w6 yb 36 #[.int .i64 e1, .int .i64 e2] := S6.out.at_ 11 rfl
     have lvb := vb.lt
     obtain ⟨v0, v1, fv0, fv1⟩ := vb.c2
     clear vb
     go_upto_region 12 with fail
     have S7 : Hid (Led B w0 (w6.setCell ⟨yb, 0, none⟩ (.int .i64 key)) (m.es vf lh fh li fi n ne (((Ar.kfall y.v.a (s.put x.v.a 7 key) y.v.b x.v.a).1.tick (2 + u))) ((sh.setAt j y ⟨y.v.a, (Ar.kfall y.v.a (s.put x.v.a 7 key) y.v.b x.v.a).2, y.v.c⟩)) si f F items serial ++ blkE (rb) 34 #[.int .i64 (j : Int), .int .i64 y.gen] :: blkE (yb) 36 #[.int .i64 key, .int .i64 e2] :: blkE (w.heap.size) 41 #[.int .i64 op, .int .i64 kd, .int .i64 ha, .int .i64 hg, .int .i64 oa, .int .i64 og, .int .i64 (i : Int), .int .i64 x.gen, .int .i64 key] :: blkE (w.heap.size + 1) 38 #[.int .i64 0, .int .i64 0, .int .i64 0, .int .i64 0, .int .i64 0, .int .i64 0, .int .i64 0, .int .i64 0] :: C)) := Lib.hid (led_store1 (A := m.es vf lh fh li fi n ne (((Ar.kfall y.v.a (s.put x.v.a 7 key) y.v.b x.v.a).1.tick (2 + u))) ((sh.setAt j y ⟨y.v.a, (Ar.kfall y.v.a (s.put x.v.a 7 key) y.v.b x.v.a).2, y.v.c⟩)) si f F items serial ++ [_]) S6.out)
     clear v0 v1 fv0 fv1 lvb c0 fc0 c1 fc1 c2 fc2 c3 fc3 c4 fc4 c5 fc5 c6 fc6 c7 fc7 c8 fc8 lcb S6
     generalize w6.setCell ⟨yb, 0, none⟩ (.int .i64 key) = w7 at S7 ⊢
     obtain ⟨w8, hrun, hm5, hc5⟩ := MapIs.restore (x := ((i : Int), x.gen)) (y := (key, e2)) (QM.map S7.out.drew) Tryz.underlying74 (by have := HP.out.mp; unfold maxLen; omega) HP.out.ik (by rw [HP.out.fe]; rfl)
     have hr5 : (Instr.mapUpdate 74 (.map (some m.me)) (.agg #[.int .i64 (i : Int), .int .i64 x.gen]) (.agg #[.int .i64 key, .int .i64 e2])).run Tryz.prog w7.drew = .ok () w8 := hrun
     have S8 : Hid (Led B w0 w8 (m.es vf lh fh li fi n ne (((Ar.kfall y.v.a (s.put x.v.a 7 key) y.v.b x.v.a).1.tick (2 + u))) ((sh.setAt j y ⟨y.v.a, (Ar.kfall y.v.a (s.put x.v.a 7 key) y.v.b x.v.a).2, y.v.c⟩)) si f ((upd F ((i : Int), x.gen) (some (key, e2)))) items serial ++ blkE (rb) 34 #[.int .i64 (j : Int), .int .i64 y.gen] :: blkE (yb) 36 #[.int .i64 key, .int .i64 e2] :: blkE (w.heap.size) 41 #[.int .i64 op, .int .i64 kd, .int .i64 ha, .int .i64 hg, .int .i64 oa, .int .i64 og, .int .i64 (i : Int), .int .i64 x.gen, .int .i64 key] :: blkE (w.heap.size + 1) 38 #[.int .i64 0, .int .i64 0, .int .i64 0, .int .i64 0, .int .i64 0, .int .i64 0, .int .i64 0, .int .i64 0] :: C)) := Lib.hid (S7.out.drew.step 9 rfl (mapE refFam m.me ne (upd F ((i : Int), x.gen) (some (key, e2)))) hc5 hm5 (Fresh.refl _ _))
     clear hrun hm5 hc5
     have HS : Hid (∀ W, Chg [] w7 W → W.cell? ⟨m.q, 3, none⟩ = some (.map (some m.me)) ∧ W.cell? ⟨w.heap.size, 6, none⟩ = some (.int .i64 (i : Int)) ∧ W.cell? ⟨w.heap.size, 7, none⟩ = some (.int .i64 x.gen) ∧ W.cell? ⟨yb, 0, none⟩ = some (.int .i64 key) ∧ W.cell? ⟨yb, 1, none⟩ = some (.int .i64 e2)) := Lib.hid (fun W hW => have hl := S7.out.later (hW.below (by simp) (Nat.le_refl _)); ⟨QM.q3 hl, (show Blk W w.heap.size 41 #[.int .i64 op, .int .i64 kd, .int .i64 ha, .int .i64 hg, .int .i64 oa, .int .i64 og, .int .i64 (i : Int), .int .i64 x.gen, .int .i64 key] from hl.at_ 12 rfl).cell 6, (show Blk W w.heap.size 41 #[.int .i64 op, .int .i64 kd, .int .i64 ha, .int .i64 hg, .int .i64 oa, .int .i64 og, .int .i64 (i : Int), .int .i64 x.gen, .int .i64 key] from hl.at_ 12 rfl).cell 7, (show Blk W yb 36 #[.int .i64 key, .int .i64 e2] from hl.at_ 11 rfl).cell 0, (show Blk W yb 36 #[.int .i64 key, .int .i64 e2] from hl.at_ 11 rfl).cell 1⟩)
     have HS2 : Hid (∀ W, Chg [] w8 W → W.cell? ⟨m.q, 3, none⟩ = some (.map (some m.me)) ∧ W.cell? ⟨w.heap.size, 6, none⟩ = some (.int .i64 (i : Int)) ∧ W.cell? ⟨w.heap.size, 7, none⟩ = some (.int .i64 x.gen) ∧ W.cell? ⟨yb, 0, none⟩ = some (.int .i64 key) ∧ W.cell? ⟨yb, 1, none⟩ = some (.int .i64 e2)) := Lib.hid (fun W hW => have hl := S8.out.later (hW.below (by simp) (Nat.le_refl _)); ⟨QM.q3 hl, (show Blk W w.heap.size 41 #[.int .i64 op, .int .i64 kd, .int .i64 ha, .int .i64 hg, .int .i64 oa, .int .i64 og, .int .i64 (i : Int), .int .i64 x.gen, .int .i64 key] from hl.at_ 12 rfl).cell 6, (show Blk W w.heap.size 41 #[.int .i64 op, .int .i64 kd, .int .i64 ha, .int .i64 hg, .int .i64 oa, .int .i64 og, .int .i64 (i : Int), .int .i64 x.gen, .int .i64 key] from hl.at_ 12 rfl).cell 7, (show Blk W yb 36 #[.int .i64 key, .int .i64 e2] from hl.at_ 11 rfl).cell 0, (show Blk W yb 36 #[.int .i64 key, .int .i64 e2] from hl.at_ 11 rfl).cell 1⟩)
     clear S7
     go_region_held3 (fun wx => wx.cell? ⟨m.q, 3, none⟩ = some (.map (some m.me)) ∧ wx.cell? ⟨w.heap.size, 6, none⟩ = some (.int .i64 (i : Int)) ∧ wx.cell? ⟨w.heap.size, 7, none⟩ = some (.int .i64 x.gen) ∧ wx.cell? ⟨yb, 0, none⟩ = some (.int .i64 key) ∧ wx.cell? ⟨yb, 1, none⟩ = some (.int .i64 e2)) (first | (refine HS.out _ ?_; (repeat' first | with_reducible exact Chg.refl _ _ | with_reducible refine Chg.drew ?_ | with_reducible refine Chg.drewN ?_ _ | with_reducible refine Chg.alloc ?_ _ | with_reducible refine Chg.setCell ?_ ?_ _ | (left; simp; done) | (right; exact Nat.le_refl _) | (right; dsimp only; omega)); done) | (refine HS2.out _ ?_; (repeat' first | with_reducible exact Chg.refl _ _ | with_reducible refine Chg.drew ?_ | with_reducible refine Chg.drewN ?_ _ | with_reducible refine Chg.alloc ?_ _ | with_reducible refine Chg.setCell ?_ ?_ _ | (left; simp; done) | (right; exact Nat.le_refl _) | (right; dsimp only; omega)); done)) (fail)
     clear HS HS2
     have vb : Blk w8 yb 36 #[.int .i64 key, .int .i64 e2] := S8.out.at_ 11 rfl
     have lvb := vb.lt
     obtain ⟨v0, v1, fv0, fv1⟩ := vb.c2
     clear vb
     have zb : Blk w8 (w.heap.size + 1) 38 #[.int .i64 0, .int .i64 0, .int .i64 0, .int .i64 0, .int .i64 0, .int .i64 0, .int .i64 0, .int .i64 0] := S8.out.at_ 13 rfl
     have lzb := zb.lt
     obtain ⟨z0, z1, z2, z3, z4, z5, z6, z7, fz0, fz1, fz2, fz3, fz4, fz5, fz6, fz7⟩ := zb.c8
     clear zb
     go_wp2_with fail
     exact bodyPost_ret (v := .agg #[.int .i64 0, .int .i64 0, .int .i64 0, .int .i64 0, .int .i64 0, .int .i64 key, .int .i64 e2, .int .i64 0]) (by simp [results, Tryz.results33, go_sem, lzb, z0, z1, z2, z3, z4, z5, z6, z7]) rfl (hR.out _ _ ⟨2 + u, rfl, by omega, led_cut (A := m.es vf lh fh li fi n ne (((Ar.kfall y.v.a (s.put x.v.a 7 key) y.v.b x.v.a).1.tick (2 + u))) ((sh.setAt j y ⟨y.v.a, (Ar.kfall y.v.a (s.put x.v.a 7 key) y.v.b x.v.a).2, y.v.c⟩)) si f ((upd F ((i : Int), x.gen) (some (key, e2)))) items serial) (M := [_, _, _, _]) (C := C) (led_store8 (A := m.es vf lh fh li fi n ne (((Ar.kfall y.v.a (s.put x.v.a 7 key) y.v.b x.v.a).1.tick (2 + u))) ((sh.setAt j y ⟨y.v.a, (Ar.kfall y.v.a (s.put x.v.a 7 key) y.v.b x.v.a).2, y.v.c⟩)) si f ((upd F ((i : Int), x.gen) (some (key, e2)))) items serial ++ [_, _, _]) S8.out)⟩)
end
end Go.Proofs.YtognmhgdegpdiaaGreat
end
section
/- Queues: Do: Decrease, Delete. -/
namespace Go.Proofs.YtognmhgdegpdiaaGreat
open Go.RowKit
open Go.Maps (Keyed)
set_option linter.unusedVariables false
set_option linter.unusedSimpArgs false
set_option maxRecDepth 100000
section
variable {B : Nat} {w0 w : World} {C : List Ent} {m : QM} {vf lh fh li fi : Value} {n ne : Nat} {s : Ar} {sh si : PSt V3} {f : Int → Option (Int × Int)} {F : (Int × Int) → Option (Int × Int)} {items serial : Int}
set_option maxHeartbeats 8000000 in
theorem do_dec_dead (kd ha hg oa og a g key : Int) (hd : si.look a g = 23) (hk : in64 a ∧ in64 g) (hb : s.begun ≤ s.steps) (h : Led B w0 w (m.es vf lh fh li fi n ne s sh si f F items serial ++ C)) :
  Calls Tryz.prog 11 #[.pointer (some ⟨m.q, 0, none⟩), .agg #[.int .i64 5, .int .i64 kd, .int .i64 ha, .int .i64 hg, .int .i64 oa, .int .i64 og, .int .i64 a, .int .i64 g, .int .i64 key]] w fun e w' => e = .returned (.agg #[.int .i64 23, .int .i64 0, .int .i64 0, .int .i64 0, .int .i64 0, .int .i64 0, .int .i64 0, .int .i64 0]) ∧ Led B w0 w' (m.es vf lh fh li fi n ne s.begin_ sh si f F items serial ++ C) := by
 have HD := Lib.hid hd
 clear hd
 have H := Lib.hid h
 have HB := Lib.hid hb
 clear h hb
 refine callsR fun R hR => ?_
 go_enter Tryz.func11, Tryz.ntmps11
 have H2 : Hid (Led B w0 ((w.alloc (.cells #[.int .i64 5, .int .i64 kd, .int .i64 ha, .int .i64 hg, .int .i64 oa, .int .i64 og, .int .i64 a, .int .i64 g, .int .i64 key] 41)).alloc (.cells #[.int .i64 0, .int .i64 0, .int .i64 0, .int .i64 0, .int .i64 0, .int .i64 0, .int .i64 0, .int .i64 0] 38)) (m.es vf lh fh li fi n ne s sh si f F items serial ++ blkE (w.heap.size) 41 #[.int .i64 5, .int .i64 kd, .int .i64 ha, .int .i64 hg, .int .i64 oa, .int .i64 og, .int .i64 a, .int .i64 g, .int .i64 key] :: blkE (w.heap.size + 1) 38 #[.int .i64 0, .int .i64 0, .int .i64 0, .int .i64 0, .int .i64 0, .int .i64 0, .int .i64 0, .int .i64 0] :: C)) := Lib.hid (led_new2 H.out)
 clear H
 go_upto_region 1 with fail
 generalize (w.alloc (.cells #[.int .i64 5, .int .i64 kd, .int .i64 ha, .int .i64 hg, .int .i64 oa, .int .i64 og, .int .i64 a, .int .i64 g, .int .i64 key] 41)).alloc (.cells #[.int .i64 0, .int .i64 0, .int .i64 0, .int .i64 0, .int .i64 0, .int .i64 0, .int .i64 0, .int .i64 0] 38) = w1 at H2 ⊢
 have c1 := QM.q1 H2.out
 go_wp2_with fail
 refine Calls.mono (ar_meter m.X s (QM.toA H2.out)) ?_
 rintro e w' ⟨rfl, rfl⟩
 go_wp2_with fail
 refine Calls.mono (meter_begin m.X s HB.out (QM.toA H2.out)) ?_
 rintro e w2 ⟨rfl, h'⟩
 have S : Hid (Led B w0 w2 (m.es vf lh fh li fi n ne s.begin_ sh si f F items serial ++ blkE (w.heap.size) 41 #[.int .i64 5, .int .i64 kd, .int .i64 ha, .int .i64 hg, .int .i64 oa, .int .i64 og, .int .i64 a, .int .i64 g, .int .i64 key] :: blkE (w.heap.size + 1) 38 #[.int .i64 0, .int .i64 0, .int .i64 0, .int .i64 0, .int .i64 0, .int .i64 0, .int .i64 0, .int .i64 0] :: C)) := Lib.hid (QM.ofA h')
 clear h' c1 H2
 have cb : Blk w2 w.heap.size 41 #[.int .i64 5, .int .i64 kd, .int .i64 ha, .int .i64 hg, .int .i64 oa, .int .i64 og, .int .i64 a, .int .i64 g, .int .i64 key] := S.out.at_ 10 rfl
 have lcb := cb.lt
 obtain ⟨c0, c1, c2, c3, c4, c5, c6, c7, c8, fc0, fc1, fc2, fc3, fc4, fc5, fc6, fc7, fc8⟩ := cb.c9
 clear cb
 go_upto_region 13 with fail
 clear c0 fc0 c1 fc1 c2 fc2 c3 fc3 c4 fc4 c5 fc5 c6 fc6 c7 fc7 c8 fc8 lcb
 have cb : Blk w2 w.heap.size 41 #[.int .i64 5, .int .i64 kd, .int .i64 ha, .int .i64 hg, .int .i64 oa, .int .i64 og, .int .i64 a, .int .i64 g, .int .i64 key] := S.out.at_ 10 rfl
 have lcb := cb.lt
 obtain ⟨c0, c1, c2, c3, c4, c5, c6, c7, c8, fc0, fc1, fc2, fc3, fc4, fc5, fc6, fc7, fc8⟩ := cb.c9
 clear cb
 go_wp2_with fail
 refine Calls.mono (pq_dec_dead 5 kd ha hg oa og a g key HD.out hk S.out) ?_
 rintro e w3 ⟨rfl, h'⟩
 have S4 : Hid (Led B w0 w3 (m.es vf lh fh li fi n ne s.begin_ sh si f F items serial ++ blkE (w.heap.size) 41 #[.int .i64 5, .int .i64 kd, .int .i64 ha, .int .i64 hg, .int .i64 oa, .int .i64 og, .int .i64 a, .int .i64 g, .int .i64 key] :: blkE (w.heap.size + 1) 38 #[.int .i64 0, .int .i64 0, .int .i64 0, .int .i64 0, .int .i64 0, .int .i64 0, .int .i64 0, .int .i64 0] :: C)) := Lib.hid h'
 have zb : Blk w3 (w.heap.size + 1) 38 #[.int .i64 0, .int .i64 0, .int .i64 0, .int .i64 0, .int .i64 0, .int .i64 0, .int .i64 0, .int .i64 0] := S4.out.at_ 11 rfl
 have lzb := zb.lt
 obtain ⟨z0, z1, z2, z3, z4, z5, z6, z7, fz0, fz1, fz2, fz3, fz4, fz5, fz6, fz7⟩ := zb.c8
 clear zb
 go_wp2_with fail
 exact bodyPost_ret (v := .agg #[.int .i64 23, .int .i64 0, .int .i64 0, .int .i64 0, .int .i64 0, .int .i64 0, .int .i64 0, .int .i64 0]) (by simp [results, Tryz.results11, go_sem, lzb, z0, z1, z2, z3, z4, z5, z6, z7]) rfl (hR.out _ _ ⟨rfl, led_cut (A := m.es vf lh fh li fi n ne s.begin_ sh si f F items serial) (M := [_, _]) (C := C) (led_store8 (A := m.es vf lh fh li fi n ne s.begin_ sh si f F items serial ++ [_]) S4.out)⟩)
set_option maxHeartbeats 8000000 in
theorem do_rem_dead (kd ha hg oa og a g key : Int) (hd : si.look a g = 23) (hb : s.begun ≤ s.steps) (h : Led B w0 w (m.es vf lh fh li fi n ne s sh si f F items serial ++ C)) :
  Calls Tryz.prog 11 #[.pointer (some ⟨m.q, 0, none⟩), .agg #[.int .i64 6, .int .i64 kd, .int .i64 ha, .int .i64 hg, .int .i64 oa, .int .i64 og, .int .i64 a, .int .i64 g, .int .i64 key]] w fun e w' => e = .returned (.agg #[.int .i64 23, .int .i64 0, .int .i64 0, .int .i64 0, .int .i64 0, .int .i64 0, .int .i64 0, .int .i64 0]) ∧ Led B w0 w' (m.es vf lh fh li fi n ne s.begin_ sh si f F items serial ++ C) := by
 have HD := Lib.hid hd
 clear hd
 have H := Lib.hid h
 have HB := Lib.hid hb
 clear h hb
 refine callsR fun R hR => ?_
 go_enter Tryz.func11, Tryz.ntmps11
 have H2 : Hid (Led B w0 ((w.alloc (.cells #[.int .i64 6, .int .i64 kd, .int .i64 ha, .int .i64 hg, .int .i64 oa, .int .i64 og, .int .i64 a, .int .i64 g, .int .i64 key] 41)).alloc (.cells #[.int .i64 0, .int .i64 0, .int .i64 0, .int .i64 0, .int .i64 0, .int .i64 0, .int .i64 0, .int .i64 0] 38)) (m.es vf lh fh li fi n ne s sh si f F items serial ++ blkE (w.heap.size) 41 #[.int .i64 6, .int .i64 kd, .int .i64 ha, .int .i64 hg, .int .i64 oa, .int .i64 og, .int .i64 a, .int .i64 g, .int .i64 key] :: blkE (w.heap.size + 1) 38 #[.int .i64 0, .int .i64 0, .int .i64 0, .int .i64 0, .int .i64 0, .int .i64 0, .int .i64 0, .int .i64 0] :: C)) := Lib.hid (led_new2 H.out)
 clear H
 go_upto_region 1 with fail
 generalize (w.alloc (.cells #[.int .i64 6, .int .i64 kd, .int .i64 ha, .int .i64 hg, .int .i64 oa, .int .i64 og, .int .i64 a, .int .i64 g, .int .i64 key] 41)).alloc (.cells #[.int .i64 0, .int .i64 0, .int .i64 0, .int .i64 0, .int .i64 0, .int .i64 0, .int .i64 0, .int .i64 0] 38) = w1 at H2 ⊢
 have c1 := QM.q1 H2.out
 go_wp2_with fail
 refine Calls.mono (ar_meter m.X s (QM.toA H2.out)) ?_
 rintro e w' ⟨rfl, rfl⟩
 go_wp2_with fail
 refine Calls.mono (meter_begin m.X s HB.out (QM.toA H2.out)) ?_
 rintro e w2 ⟨rfl, h'⟩
 have S : Hid (Led B w0 w2 (m.es vf lh fh li fi n ne s.begin_ sh si f F items serial ++ blkE (w.heap.size) 41 #[.int .i64 6, .int .i64 kd, .int .i64 ha, .int .i64 hg, .int .i64 oa, .int .i64 og, .int .i64 a, .int .i64 g, .int .i64 key] :: blkE (w.heap.size + 1) 38 #[.int .i64 0, .int .i64 0, .int .i64 0, .int .i64 0, .int .i64 0, .int .i64 0, .int .i64 0, .int .i64 0] :: C)) := Lib.hid (QM.ofA h')
 clear h' c1 H2
 have cb : Blk w2 w.heap.size 41 #[.int .i64 6, .int .i64 kd, .int .i64 ha, .int .i64 hg, .int .i64 oa, .int .i64 og, .int .i64 a, .int .i64 g, .int .i64 key] := S.out.at_ 10 rfl
 have lcb := cb.lt
 obtain ⟨c0, c1, c2, c3, c4, c5, c6, c7, c8, fc0, fc1, fc2, fc3, fc4, fc5, fc6, fc7, fc8⟩ := cb.c9
 clear cb
 go_upto_region 15 with fail
 clear c0 fc0 c1 fc1 c2 fc2 c3 fc3 c4 fc4 c5 fc5 c6 fc6 c7 fc7 c8 fc8 lcb
 have cb : Blk w2 w.heap.size 41 #[.int .i64 6, .int .i64 kd, .int .i64 ha, .int .i64 hg, .int .i64 oa, .int .i64 og, .int .i64 a, .int .i64 g, .int .i64 key] := S.out.at_ 10 rfl
 have lcb := cb.lt
 obtain ⟨c0, c1, c2, c3, c4, c5, c6, c7, c8, fc0, fc1, fc2, fc3, fc4, fc5, fc6, fc7, fc8⟩ := cb.c9
 clear cb
 go_wp2_with fail
 refine Calls.mono (pq_rem_dead a g HD.out S.out) ?_
 rintro e w3 ⟨rfl, h'⟩
 have S4 : Hid (Led B w0 w3 (m.es vf lh fh li fi n ne s.begin_ sh si f F items serial ++ blkE (w.heap.size) 41 #[.int .i64 6, .int .i64 kd, .int .i64 ha, .int .i64 hg, .int .i64 oa, .int .i64 og, .int .i64 a, .int .i64 g, .int .i64 key] :: blkE (w.heap.size + 1) 38 #[.int .i64 0, .int .i64 0, .int .i64 0, .int .i64 0, .int .i64 0, .int .i64 0, .int .i64 0, .int .i64 0] :: C)) := Lib.hid h'
 have zb : Blk w3 (w.heap.size + 1) 38 #[.int .i64 0, .int .i64 0, .int .i64 0, .int .i64 0, .int .i64 0, .int .i64 0, .int .i64 0, .int .i64 0] := S4.out.at_ 11 rfl
 have lzb := zb.lt
 obtain ⟨z0, z1, z2, z3, z4, z5, z6, z7, fz0, fz1, fz2, fz3, fz4, fz5, fz6, fz7⟩ := zb.c8
 clear zb
 go_wp2_with fail
 exact bodyPost_ret (v := .agg #[.int .i64 23, .int .i64 0, .int .i64 0, .int .i64 0, .int .i64 0, .int .i64 0, .int .i64 0, .int .i64 0]) (by simp [results, Tryz.results11, go_sem, lzb, z0, z1, z2, z3, z4, z5, z6, z7]) rfl (hR.out _ _ ⟨rfl, led_cut (A := m.es vf lh fh li fi n ne s.begin_ sh si f F items serial) (M := [_, _]) (C := C) (led_store8 (A := m.es vf lh fh li fi n ne s.begin_ sh si f F items serial ++ [_]) S4.out)⟩)
set_option maxHeartbeats 8000000 in
theorem do_dec (kd ha hg oa og key : Int) (j : Nat) (y : Pl V3) (i : Nat) (x : Pl V3) (e1 e2 : Int) (hp : DecQ sh si F s.begin_ ne j y i x e1 e2 key) (hb : s.begun ≤ s.steps) (h : Led B w0 w (m.es vf lh fh li fi n ne s sh si f F items serial ++ C)) :
  Calls Tryz.prog 11 #[.pointer (some ⟨m.q, 0, none⟩), .agg #[.int .i64 5, .int .i64 kd, .int .i64 ha, .int .i64 hg, .int .i64 oa, .int .i64 og, .int .i64 (i : Int), .int .i64 x.gen, .int .i64 key]] w fun e w' => ∃ u, e = .returned (.agg #[.int .i64 0, .int .i64 0, .int .i64 0, .int .i64 0, .int .i64 0, .int .i64 key, .int .i64 e2, .int .i64 0]) ∧ u ≤ Ar.kfallB y.v.a (s.begin_.put x.v.a 7 key) y.v.b x.v.a + 2 ∧ Led B w0 w' (m.es vf lh fh li fi n ne (((Ar.kfall y.v.a (s.begin_.put x.v.a 7 key) y.v.b x.v.a).1.tick u)) ((sh.setAt j y ⟨y.v.a, (Ar.kfall y.v.a (s.begin_.put x.v.a 7 key) y.v.b x.v.a).2, y.v.c⟩)) si f ((upd F ((i : Int), x.gen) (some (key, e2)))) items serial ++ C) := by
 have HP := Lib.hid hp
 clear hp
 have H := Lib.hid h
 have HB := Lib.hid hb
 clear h hb
 refine callsR fun R hR => ?_
 go_enter Tryz.func11, Tryz.ntmps11
 have H2 : Hid (Led B w0 ((w.alloc (.cells #[.int .i64 5, .int .i64 kd, .int .i64 ha, .int .i64 hg, .int .i64 oa, .int .i64 og, .int .i64 (i : Int), .int .i64 x.gen, .int .i64 key] 41)).alloc (.cells #[.int .i64 0, .int .i64 0, .int .i64 0, .int .i64 0, .int .i64 0, .int .i64 0, .int .i64 0, .int .i64 0] 38)) (m.es vf lh fh li fi n ne s sh si f F items serial ++ blkE (w.heap.size) 41 #[.int .i64 5, .int .i64 kd, .int .i64 ha, .int .i64 hg, .int .i64 oa, .int .i64 og, .int .i64 (i : Int), .int .i64 x.gen, .int .i64 key] :: blkE (w.heap.size + 1) 38 #[.int .i64 0, .int .i64 0, .int .i64 0, .int .i64 0, .int .i64 0, .int .i64 0, .int .i64 0, .int .i64 0] :: C)) := Lib.hid (led_new2 H.out)
 clear H
 go_upto_region 1 with fail
 generalize (w.alloc (.cells #[.int .i64 5, .int .i64 kd, .int .i64 ha, .int .i64 hg, .int .i64 oa, .int .i64 og, .int .i64 (i : Int), .int .i64 x.gen, .int .i64 key] 41)).alloc (.cells #[.int .i64 0, .int .i64 0, .int .i64 0, .int .i64 0, .int .i64 0, .int .i64 0, .int .i64 0, .int .i64 0] 38) = w1 at H2 ⊢
 have c1 := QM.q1 H2.out
 go_wp2_with fail
 refine Calls.mono (ar_meter m.X s (QM.toA H2.out)) ?_
 rintro e w' ⟨rfl, rfl⟩
 go_wp2_with fail
 refine Calls.mono (meter_begin m.X s HB.out (QM.toA H2.out)) ?_
 rintro e w2 ⟨rfl, h'⟩
 have S : Hid (Led B w0 w2 (m.es vf lh fh li fi n ne s.begin_ sh si f F items serial ++ blkE (w.heap.size) 41 #[.int .i64 5, .int .i64 kd, .int .i64 ha, .int .i64 hg, .int .i64 oa, .int .i64 og, .int .i64 (i : Int), .int .i64 x.gen, .int .i64 key] :: blkE (w.heap.size + 1) 38 #[.int .i64 0, .int .i64 0, .int .i64 0, .int .i64 0, .int .i64 0, .int .i64 0, .int .i64 0, .int .i64 0] :: C)) := Lib.hid (QM.ofA h')
 clear h' c1 H2
 have cb : Blk w2 w.heap.size 41 #[.int .i64 5, .int .i64 kd, .int .i64 ha, .int .i64 hg, .int .i64 oa, .int .i64 og, .int .i64 (i : Int), .int .i64 x.gen, .int .i64 key] := S.out.at_ 10 rfl
 have lcb := cb.lt
 obtain ⟨c0, c1, c2, c3, c4, c5, c6, c7, c8, fc0, fc1, fc2, fc3, fc4, fc5, fc6, fc7, fc8⟩ := cb.c9
 clear cb
 go_upto_region 13 with fail
 clear c0 fc0 c1 fc1 c2 fc2 c3 fc3 c4 fc4 c5 fc5 c6 fc6 c7 fc7 c8 fc8 lcb
 have cb : Blk w2 w.heap.size 41 #[.int .i64 5, .int .i64 kd, .int .i64 ha, .int .i64 hg, .int .i64 oa, .int .i64 og, .int .i64 (i : Int), .int .i64 x.gen, .int .i64 key] := S.out.at_ 10 rfl
 have lcb := cb.lt
 obtain ⟨c0, c1, c2, c3, c4, c5, c6, c7, c8, fc0, fc1, fc2, fc3, fc4, fc5, fc6, fc7, fc8⟩ := cb.c9
 clear cb
 go_wp2_with fail
 refine Calls.mono (pq_dec 5 kd ha hg oa og key j y i x e1 e2 HP.out S.out) ?_
 rintro e w3 ⟨u, rfl, q1, h'⟩
 have S4 : Hid (Led B w0 w3 (m.es vf lh fh li fi n ne (((Ar.kfall y.v.a (s.begin_.put x.v.a 7 key) y.v.b x.v.a).1.tick u)) ((sh.setAt j y ⟨y.v.a, (Ar.kfall y.v.a (s.begin_.put x.v.a 7 key) y.v.b x.v.a).2, y.v.c⟩)) si f ((upd F ((i : Int), x.gen) (some (key, e2)))) items serial ++ blkE (w.heap.size) 41 #[.int .i64 5, .int .i64 kd, .int .i64 ha, .int .i64 hg, .int .i64 oa, .int .i64 og, .int .i64 (i : Int), .int .i64 x.gen, .int .i64 key] :: blkE (w.heap.size + 1) 38 #[.int .i64 0, .int .i64 0, .int .i64 0, .int .i64 0, .int .i64 0, .int .i64 0, .int .i64 0, .int .i64 0] :: C)) := Lib.hid h'
 have zb : Blk w3 (w.heap.size + 1) 38 #[.int .i64 0, .int .i64 0, .int .i64 0, .int .i64 0, .int .i64 0, .int .i64 0, .int .i64 0, .int .i64 0] := S4.out.at_ 11 rfl
 have lzb := zb.lt
 obtain ⟨z0, z1, z2, z3, z4, z5, z6, z7, fz0, fz1, fz2, fz3, fz4, fz5, fz6, fz7⟩ := zb.c8
 clear zb
 go_wp2_with fail
 exact bodyPost_ret (v := .agg #[.int .i64 0, .int .i64 0, .int .i64 0, .int .i64 0, .int .i64 0, .int .i64 key, .int .i64 e2, .int .i64 0]) (by simp [results, Tryz.results11, go_sem, lzb, z0, z1, z2, z3, z4, z5, z6, z7]) rfl (hR.out _ _ ⟨u, rfl, q1, led_cut (A := m.es vf lh fh li fi n ne (((Ar.kfall y.v.a (s.begin_.put x.v.a 7 key) y.v.b x.v.a).1.tick u)) ((sh.setAt j y ⟨y.v.a, (Ar.kfall y.v.a (s.begin_.put x.v.a 7 key) y.v.b x.v.a).2, y.v.c⟩)) si f ((upd F ((i : Int), x.gen) (some (key, e2)))) items serial) (M := [_, _]) (C := C) (led_store8 (A := m.es vf lh fh li fi n ne (((Ar.kfall y.v.a (s.begin_.put x.v.a 7 key) y.v.b x.v.a).1.tick u)) ((sh.setAt j y ⟨y.v.a, (Ar.kfall y.v.a (s.begin_.put x.v.a 7 key) y.v.b x.v.a).2, y.v.c⟩)) si f ((upd F ((i : Int), x.gen) (some (key, e2)))) items serial ++ [_]) S4.out)⟩)
set_option maxHeartbeats 8000000 in
theorem do_remove (kd ha hg oa og key : Int) (j : Nat) (y : Pl V3) (i : Nat) (x : Pl V3) (e1 e2 : Int) (hp : RemQ sh si f F s.begin_ j y i x e1 e2) (hb : s.begun ≤ s.steps) (h : Led B w0 w (m.es vf lh fh li fi n ne s sh si f F items serial ++ C)) :
  Calls Tryz.prog 11 #[.pointer (some ⟨m.q, 0, none⟩), .agg #[.int .i64 6, .int .i64 kd, .int .i64 ha, .int .i64 hg, .int .i64 oa, .int .i64 og, .int .i64 (i : Int), .int .i64 x.gen, .int .i64 key]] w fun e w' => ∃ vf' fi' u, e = .returned (.agg #[.int .i64 0, .int .i64 0, .int .i64 0, .int .i64 0, .int .i64 0, .int .i64 e1, .int .i64 e2, .int .i64 0]) ∧ Led B w0 w' (m.es vf' lh fh li fi' n ne ((((Ar.kcut y.v.a s.begin_ y.v.b x.v.a).1.give x.v.a).2.tick u)) ((sh.setAt j y ⟨y.v.a, (Ar.kcut y.v.a s.begin_ y.v.b x.v.a).2, y.v.c - 1⟩)) ((si.giveAt i x ⟨0, 0, 0⟩)) ((upd f x.v.a none)) ((upd F ((i : Int), x.gen) none)) items serial ++ C) := by
 have HP := Lib.hid hp
 clear hp
 have H := Lib.hid h
 have HB := Lib.hid hb
 clear h hb
 refine callsR fun R hR => ?_
 go_enter Tryz.func11, Tryz.ntmps11
 have H2 : Hid (Led B w0 ((w.alloc (.cells #[.int .i64 6, .int .i64 kd, .int .i64 ha, .int .i64 hg, .int .i64 oa, .int .i64 og, .int .i64 (i : Int), .int .i64 x.gen, .int .i64 key] 41)).alloc (.cells #[.int .i64 0, .int .i64 0, .int .i64 0, .int .i64 0, .int .i64 0, .int .i64 0, .int .i64 0, .int .i64 0] 38)) (m.es vf lh fh li fi n ne s sh si f F items serial ++ blkE (w.heap.size) 41 #[.int .i64 6, .int .i64 kd, .int .i64 ha, .int .i64 hg, .int .i64 oa, .int .i64 og, .int .i64 (i : Int), .int .i64 x.gen, .int .i64 key] :: blkE (w.heap.size + 1) 38 #[.int .i64 0, .int .i64 0, .int .i64 0, .int .i64 0, .int .i64 0, .int .i64 0, .int .i64 0, .int .i64 0] :: C)) := Lib.hid (led_new2 H.out)
 clear H
 go_upto_region 1 with fail
 generalize (w.alloc (.cells #[.int .i64 6, .int .i64 kd, .int .i64 ha, .int .i64 hg, .int .i64 oa, .int .i64 og, .int .i64 (i : Int), .int .i64 x.gen, .int .i64 key] 41)).alloc (.cells #[.int .i64 0, .int .i64 0, .int .i64 0, .int .i64 0, .int .i64 0, .int .i64 0, .int .i64 0, .int .i64 0] 38) = w1 at H2 ⊢
 have c1 := QM.q1 H2.out
 go_wp2_with fail
 refine Calls.mono (ar_meter m.X s (QM.toA H2.out)) ?_
 rintro e w' ⟨rfl, rfl⟩
 go_wp2_with fail
 refine Calls.mono (meter_begin m.X s HB.out (QM.toA H2.out)) ?_
 rintro e w2 ⟨rfl, h'⟩
 have S : Hid (Led B w0 w2 (m.es vf lh fh li fi n ne s.begin_ sh si f F items serial ++ blkE (w.heap.size) 41 #[.int .i64 6, .int .i64 kd, .int .i64 ha, .int .i64 hg, .int .i64 oa, .int .i64 og, .int .i64 (i : Int), .int .i64 x.gen, .int .i64 key] :: blkE (w.heap.size + 1) 38 #[.int .i64 0, .int .i64 0, .int .i64 0, .int .i64 0, .int .i64 0, .int .i64 0, .int .i64 0, .int .i64 0] :: C)) := Lib.hid (QM.ofA h')
 clear h' c1 H2
 have cb : Blk w2 w.heap.size 41 #[.int .i64 6, .int .i64 kd, .int .i64 ha, .int .i64 hg, .int .i64 oa, .int .i64 og, .int .i64 (i : Int), .int .i64 x.gen, .int .i64 key] := S.out.at_ 10 rfl
 have lcb := cb.lt
 obtain ⟨c0, c1, c2, c3, c4, c5, c6, c7, c8, fc0, fc1, fc2, fc3, fc4, fc5, fc6, fc7, fc8⟩ := cb.c9
 clear cb
 go_upto_region 15 with fail
 clear c0 fc0 c1 fc1 c2 fc2 c3 fc3 c4 fc4 c5 fc5 c6 fc6 c7 fc7 c8 fc8 lcb
 have cb : Blk w2 w.heap.size 41 #[.int .i64 6, .int .i64 kd, .int .i64 ha, .int .i64 hg, .int .i64 oa, .int .i64 og, .int .i64 (i : Int), .int .i64 x.gen, .int .i64 key] := S.out.at_ 10 rfl
 have lcb := cb.lt
 obtain ⟨c0, c1, c2, c3, c4, c5, c6, c7, c8, fc0, fc1, fc2, fc3, fc4, fc5, fc6, fc7, fc8⟩ := cb.c9
 clear cb
 go_wp2_with fail
 refine Calls.mono (pq_remove j y i x e1 e2 HP.out S.out) ?_
 rintro e w3 ⟨vf', fi', u, rfl, h'⟩
 have S4 : Hid (Led B w0 w3 (m.es vf' lh fh li fi' n ne ((((Ar.kcut y.v.a s.begin_ y.v.b x.v.a).1.give x.v.a).2.tick u)) ((sh.setAt j y ⟨y.v.a, (Ar.kcut y.v.a s.begin_ y.v.b x.v.a).2, y.v.c - 1⟩)) ((si.giveAt i x ⟨0, 0, 0⟩)) ((upd f x.v.a none)) ((upd F ((i : Int), x.gen) none)) items serial ++ blkE (w.heap.size) 41 #[.int .i64 6, .int .i64 kd, .int .i64 ha, .int .i64 hg, .int .i64 oa, .int .i64 og, .int .i64 (i : Int), .int .i64 x.gen, .int .i64 key] :: blkE (w.heap.size + 1) 38 #[.int .i64 0, .int .i64 0, .int .i64 0, .int .i64 0, .int .i64 0, .int .i64 0, .int .i64 0, .int .i64 0] :: C)) := Lib.hid h'
 have zb : Blk w3 (w.heap.size + 1) 38 #[.int .i64 0, .int .i64 0, .int .i64 0, .int .i64 0, .int .i64 0, .int .i64 0, .int .i64 0, .int .i64 0] := S4.out.at_ 11 rfl
 have lzb := zb.lt
 obtain ⟨z0, z1, z2, z3, z4, z5, z6, z7, fz0, fz1, fz2, fz3, fz4, fz5, fz6, fz7⟩ := zb.c8
 clear zb
 go_wp2_with fail
 exact bodyPost_ret (v := .agg #[.int .i64 0, .int .i64 0, .int .i64 0, .int .i64 0, .int .i64 0, .int .i64 e1, .int .i64 e2, .int .i64 0]) (by simp [results, Tryz.results11, go_sem, lzb, z0, z1, z2, z3, z4, z5, z6, z7]) rfl (hR.out _ _ ⟨vf', fi', u, rfl, led_cut (A := m.es vf' lh fh li fi' n ne ((((Ar.kcut y.v.a s.begin_ y.v.b x.v.a).1.give x.v.a).2.tick u)) ((sh.setAt j y ⟨y.v.a, (Ar.kcut y.v.a s.begin_ y.v.b x.v.a).2, y.v.c - 1⟩)) ((si.giveAt i x ⟨0, 0, 0⟩)) ((upd f x.v.a none)) ((upd F ((i : Int), x.gen) none)) items serial) (M := [_, _]) (C := C) (led_store8 (A := m.es vf' lh fh li fi' n ne ((((Ar.kcut y.v.a s.begin_ y.v.b x.v.a).1.give x.v.a).2.tick u)) ((sh.setAt j y ⟨y.v.a, (Ar.kcut y.v.a s.begin_ y.v.b x.v.a).2, y.v.c - 1⟩)) ((si.giveAt i x ⟨0, 0, 0⟩)) ((upd f x.v.a none)) ((upd F ((i : Int), x.gen) none)) items serial ++ [_]) S4.out)⟩)
end
end Go.Proofs.YtognmhgdegpdiaaGreat
end
