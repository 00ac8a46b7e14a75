import Derived.Test.YtognmhgdegpdiaaGreatPqD
section
/- Queues: one that is full, a heap that is empty. -/
namespace Go.Proofs.YtognmhgdegpdiaaGreat
open Go.RowKit
open Go.Maps (Keyed)
set_option linter.unusedVariables false
set_option linter.unusedSimpArgs false
set_option maxRecDepth 100000
section
variable {B : Nat} {w0 w : World} {C : List Ent} {m : QM} {vf lh fh li fi : Value} {n ne : Nat} {s : Ar} {sh si : PSt V3} {f : Int → Option (Int × Int)} {F : (Int × Int) → Option (Int × Int)} {items serial : Int}
end
end Go.Proofs.YtognmhgdegpdiaaGreat
end
section
/- Queues: the least item is told. -/
namespace Go.Proofs.YtognmhgdegpdiaaGreat
open Go.RowKit
open Go.Maps (Keyed)
set_option linter.unusedVariables false
set_option linter.unusedSimpArgs false
set_option maxRecDepth 100000
section
variable {B : Nat} {w0 w : World} {C : List Ent} {m : QM} {vf lh fh li fi : Value} {n ne : Nat} {s : Ar} {sh si : PSt V3} {f : Int → Option (Int × Int)} {F : (Int × Int) → Option (Int × Int)} {items serial : Int}
set_option maxHeartbeats 8000000 in
theorem pq_findmin (j : Nat) (y : Pl V3) (hy : sh.l[j]? = some y) (ht : y.taken = true) (hg : 1 ≤ y.gen) (hk : 1 ≤ y.v.a ∧ y.v.a ≤ 5) (hnn : y.v.c ≠ 0) (hn : s.n ≤ 65536) (a g e1 e2 : Int) (hc : in64 (Ar.kmin y.v.a s y.v.b)) (hf : f (Ar.kmin y.v.a s y.v.b) = some (a, g)) (hag : in64 a ∧ in64 g) (hF : F (a, g) = some (e1, e2)) (h : Led B w0 w (m.es vf lh fh li fi n ne s sh si f F items serial ++ C)) :
    Calls Tryz.prog 32 #[.pointer (some ⟨m.q, 0, none⟩), .agg #[.int .i64 (j : Int), .int .i64 y.gen], .bool false] w fun e w' => ∃ u : Nat, e = .returned (.agg #[.int .i64 0, .int .i64 0, .int .i64 0, .int .i64 a, .int .i64 g, .int .i64 e1, .int .i64 e2, .int .i64 0]) ∧ Led B w0 w' (m.es vf lh fh li fi n ne ((s.tick u)) sh si f F items serial ++ C) := by
  have H := Lib.hid h
  have HY := Lib.hid hy
  have HT := Lib.hid ht
  have HG := Lib.hid hg
  clear h hy ht hg
  have gn : (y.v.c == 0) = false := by simpa using hnn
  have HK := Lib.hid hk
  have HN := Lib.hid hn
  have HC := Lib.hid hc
  have HF := Lib.hid hf
  have HAG := Lib.hid hag
  have HFF := Lib.hid hF
  clear hk hnn hn hc hf hag hF
  refine callsR fun R hR => ?_
  go_enter Tryz.func32, Tryz.ntmps32
  have H2 : Hid (Led B w0 ((w.alloc (.cells #[.int .i64 (j : Int), .int .i64 y.gen] 34)).alloc (.cells #[.int .i64 0, .int .i64 0, .int .i64 0, .int .i64 0, .int .i64 0, .int .i64 0, .int .i64 0, .int .i64 0] 38)) (m.es vf lh fh li fi n ne s sh si f F items serial ++ blkE (w.heap.size) 34 #[.int .i64 (j : Int), .int .i64 y.gen] :: blkE (w.heap.size + 1) 38 #[.int .i64 0, .int .i64 0, .int .i64 0, .int .i64 0, .int .i64 0, .int .i64 0, .int .i64 0, .int .i64 0] :: C)) := Lib.hid (led_new2 H.out)
  clear H
  go_upto_region 1 with fail
  obtain ⟨w1, hw1⟩ : ∃ w1, w1 = (w.alloc (.cells #[.int .i64 (j : Int), .int .i64 y.gen] 34)).alloc (.cells #[.int .i64 0, .int .i64 0, .int .i64 0, .int .i64 0, .int .i64 0, .int .i64 0, .int .i64 0, .int .i64 0] 38) := ⟨_, rfl⟩
  rw [← hw1] at H2 ⊢
  clear hw1
  go_cut [7, 8, 9, 10] (fun s5 s6 s7 s8 wx => s5 = .int .i64 y.v.a ∧ s6 = .int .i64 y.v.b ∧ s7 = .int .i64 y.v.c ∧ s8 = .int .i64 0 ∧ Hid (Led B w0 wx (m.es vf lh fh li fi n ne s sh si f F items serial ++ blkE (w.heap.size) 34 #[.int .i64 (j : Int), .int .i64 y.gen] :: blkE (w.heap.size + 1) 38 #[.int .i64 0, .int .i64 0, .int .i64 0, .int .i64 0, .int .i64 0, .int .i64 0, .int .i64 0, .int .i64 0] :: C)))
  case first =>
    have HS : Hid (∀ W, Chg [] w1 W → W.cell? ⟨m.q, 2, none⟩ = some (.pointer (some ⟨m.t, 0, none⟩)) ∧ W.cell? ⟨w.heap.size, 0, none⟩ = some (.int .i64 (j : Int)) ∧ W.cell? ⟨w.heap.size, 1, none⟩ = some (.int .i64 y.gen)) := Lib.hid (fun W hW => have hl := H2.out.later (hW.below (by simp) (Nat.le_refl _)); ⟨QM.q2 hl, (show Blk W w.heap.size 34 #[.int .i64 (j : Int), .int .i64 y.gen] from hl.at_ 10 rfl).cell 0, (show Blk W w.heap.size 34 #[.int .i64 (j : Int), .int .i64 y.gen] from hl.at_ 10 rfl).cell 1⟩)
    go_region_held3 (fun wx => wx.cell? ⟨m.q, 2, none⟩ = some (.pointer (some ⟨m.t, 0, none⟩)) ∧ wx.cell? ⟨w.heap.size, 0, none⟩ = some (.int .i64 (j : Int)) ∧ wx.cell? ⟨w.heap.size, 1, none⟩ = some (.int .i64 y.gen)) (first | (refine HS.out _ ?_; (repeat' first | with_reducible exact Chg.refl _ _ | with_reducible refine Chg.drew ?_ | with_reducible refine Chg.drewN ?_ _ | with_reducible refine Chg.alloc ?_ _ | with_reducible refine Chg.setCell ?_ ?_ _ | (left; simp; done) | (right; exact Nat.le_refl _) | (right; dsimp only; omega)); done) | (refine HS2.out _ ?_; (repeat' first | with_reducible exact Chg.refl _ _ | with_reducible refine Chg.drew ?_ | with_reducible refine Chg.drewN ?_ _ | with_reducible refine Chg.alloc ?_ _ | with_reducible refine Chg.setCell ?_ ?_ _ | (left; simp; done) | (right; exact Nat.le_refl _) | (right; dsimp only; omega)); done)) (first | (go_at_call 36; refine Calls.mono (slots_heap _ _ _ _ _ _ _ _ _ _ _ _ _ _ _ _ _ _ (QM.toS H2.out.drew)) ?_; rintro e w2 ⟨v, e0, rfl, q1, q2⟩; obtain ⟨rfl, rfl⟩ := q1.ok HY.out HT.out HG.out; have S4 : Hid (Led B w0 w2 (m.es vf lh fh li fi n ne s sh si f F items serial ++ blkE (w.heap.size) 34 #[.int .i64 (j : Int), .int .i64 y.gen] :: blkE (w.heap.size + 1) 38 #[.int .i64 0, .int .i64 0, .int .i64 0, .int .i64 0, .int .i64 0, .int .i64 0, .int .i64 0, .int .i64 0] :: C)) := Lib.hid (QM.ofS q2); have HS2 : Hid (∀ W, Chg [] w2 W → W.cell? ⟨m.q, 2, none⟩ = some (.pointer (some ⟨m.t, 0, none⟩)) ∧ W.cell? ⟨w.heap.size, 0, none⟩ = some (.int .i64 (j : Int)) ∧ W.cell? ⟨w.heap.size, 1, none⟩ = some (.int .i64 y.gen)) := Lib.hid (fun W hW => have hl := S4.out.later (hW.below (by simp) (Nat.le_refl _)); ⟨QM.q2 hl, (show Blk W w.heap.size 34 #[.int .i64 (j : Int), .int .i64 y.gen] from hl.at_ 10 rfl).cell 0, (show Blk W w.heap.size 34 #[.int .i64 (j : Int), .int .i64 y.gen] from hl.at_ 10 rfl).cell 1⟩); clear q1 q2))
    go_wp2_with fail
    go_meet
    case rel => exact ⟨rfl, rfl, rfl, rfl, S4⟩
  case rest =>
    clear H2
    obtain ⟨rfl, rfl, rfl, rfl, S⟩ := hcut
    go_upto_region 7 with fail
    go_cut [11, 12] (fun s11 s12 wx => ∃ (rb u : Nat), s11 = .pointer (some ⟨rb, 0, none⟩) ∧ s12 = .bool true ∧ Hid (Led B w0 wx (m.es vf lh fh li fi n ne ((s.tick (0 + u))) sh si f F items serial ++ blkE (rb) 34 #[.int .i64 a, .int .i64 g] :: blkE (w.heap.size) 34 #[.int .i64 (j : Int), .int .i64 y.gen] :: blkE (w.heap.size + 1) 38 #[.int .i64 0, .int .i64 0, .int .i64 0, .int .i64 0, .int .i64 0, .int .i64 0, .int .i64 0, .int .i64 0] :: C)))
    case first =>
      have H3 : Hid (Led B w0 (wc.alloc (.cells #[.int .i64 0, .int .i64 0] 34)) (m.es vf lh fh li fi n ne s sh si f F items serial ++ blkE (wc.heap.size) 34 #[.int .i64 0, .int .i64 0] :: blkE (w.heap.size) 34 #[.int .i64 (j : Int), .int .i64 y.gen] :: blkE (w.heap.size + 1) 38 #[.int .i64 0, .int .i64 0, .int .i64 0, .int .i64 0, .int .i64 0, .int .i64 0, .int .i64 0, .int .i64 0] :: C)) := Lib.hid (led_new S.out)
      have ltq := QM.lt S.out
      have HS : Hid (∀ W, Chg [] wc W → W.cell? ⟨m.q, 1, none⟩ = some (.pointer (some ⟨m.X.p, 0, none⟩)) ∧ W.cell? ⟨m.q, 2, none⟩ = some (.pointer (some ⟨m.t, 0, none⟩))) := Lib.hid (fun W hW => have hl := S.out.later (hW.below (by simp) (Nat.le_refl _)); ⟨QM.q1 hl, QM.q2 hl⟩)
      go_region_held3 (fun wx => wx.cell? ⟨m.q, 1, none⟩ = some (.pointer (some ⟨m.X.p, 0, none⟩)) ∧ wx.cell? ⟨m.q, 2, none⟩ = some (.pointer (some ⟨m.t, 0, none⟩))) (first | (refine HS.out _ ?_; (repeat' first | with_reducible exact Chg.refl _ _ | with_reducible refine Chg.drew ?_ | with_reducible refine Chg.drewN ?_ _ | with_reducible refine Chg.alloc ?_ _ | with_reducible refine Chg.setCell ?_ ?_ _ | (left; simp; done) | (right; exact Nat.le_refl _) | (right; dsimp only; omega)); done) | (refine HS2.out _ ?_; (repeat' first | with_reducible exact Chg.refl _ _ | with_reducible refine Chg.drew ?_ | with_reducible refine Chg.drewN ?_ _ | with_reducible refine Chg.alloc ?_ _ | with_reducible refine Chg.setCell ?_ ?_ _ | (left; simp; done) | (right; exact Nat.le_refl _) | (right; dsimp only; omega)); done) | (refine HS3.out _ ?_; (repeat' first | with_reducible exact Chg.refl _ _ | with_reducible refine Chg.drew ?_ | with_reducible refine Chg.drewN ?_ _ | with_reducible refine Chg.alloc ?_ _ | with_reducible refine Chg.setCell ?_ ?_ _ | (left; simp; done) | (right; exact Nat.le_refl _) | (right; dsimp only; omega)); done)) (first | (go_at_call 63; (with_reducible refine Calls.mono (kd_min m.X s 0 y.v.a y.v.b HK.out HN.out (QM.toA S.out.drew)) ?_); rintro e w2 ⟨u, rfl, h'⟩; have S4 := Lib.hid (QM.ofA (m := m) h'); have ltq2 := QM.lt S4.out; have HS2 : Hid (∀ W, Chg [wc.heap.size] w2 W → W.cell? ⟨m.q, 1, none⟩ = some (.pointer (some ⟨m.X.p, 0, none⟩)) ∧ W.cell? ⟨m.q, 2, none⟩ = some (.pointer (some ⟨m.t, 0, none⟩))) := Lib.hid (fun W hW => ⟨(hW.cell (p := ⟨m.q, 1, none⟩) (QM.lt S4.out) (by simp; omega)).trans (by exact QM.q1 S4.out), (hW.cell (p := ⟨m.q, 2, none⟩) (QM.lt S4.out) (by simp; omega)).trans (by exact QM.q2 S4.out)⟩); clear h') | (go_at_call 63; (with_reducible refine Calls.mono (kd_min m.X s 0 y.v.a y.v.b HK.out HN.out (QM.toA H3.out.drew)) ?_); rintro e w2 ⟨u, rfl, h'⟩; have S4 := Lib.hid (QM.ofA (m := m) h'); have ltq2 := QM.lt S4.out; have HS2 : Hid (∀ W, Chg [wc.heap.size] w2 W → W.cell? ⟨m.q, 1, none⟩ = some (.pointer (some ⟨m.X.p, 0, none⟩)) ∧ W.cell? ⟨m.q, 2, none⟩ = some (.pointer (some ⟨m.t, 0, none⟩))) := Lib.hid (fun W hW => ⟨(hW.cell (p := ⟨m.q, 1, none⟩) (QM.lt S4.out) (by simp; omega)).trans (by exact QM.q1 S4.out), (hW.cell (p := ⟨m.q, 2, none⟩) (QM.lt S4.out) (by simp; omega)).trans (by exact QM.q2 S4.out)⟩); clear h') | (go_at_call 62; (with_reducible refine Calls.mono (slots_at _ _ _ _ _ _ _ _ _ _ _ _ _ _ _ _ _ HC.out (QM.toS S4.out)) ?_); rintro e w5 ⟨rfl, h'⟩; rw [HF.out]; have S5 := Lib.hid (QM.ofS (m := m) h'); have HS3 : Hid (∀ W, Chg [wc.heap.size] w5 W → W.cell? ⟨m.q, 1, none⟩ = some (.pointer (some ⟨m.X.p, 0, none⟩)) ∧ W.cell? ⟨m.q, 2, none⟩ = some (.pointer (some ⟨m.t, 0, none⟩))) := Lib.hid (fun W hW => ⟨(hW.cell (p := ⟨m.q, 1, none⟩) (QM.lt S5.out) (by simp; omega)).trans (by exact QM.q1 S5.out), (hW.cell (p := ⟨m.q, 2, none⟩) (QM.lt S5.out) (by simp; omega)).trans (by exact QM.q2 S5.out)⟩); clear h'; have zb : Blk w5 wc.heap.size 34 #[.int .i64 0, .int .i64 0] := S5.out.at_ 10 rfl; obtain ⟨z0, z1, fz0, fz1⟩ := zb.c2; have lzb := zb.lt; clear zb) | (go_at_call 62; (with_reducible refine Calls.mono (slots_at _ _ _ _ _ _ _ _ _ _ _ _ _ _ _ _ _ HC.out (QM.toS S4.out)) ?_); rintro e w5 ⟨rfl, h'⟩; rw [HF.out]; have S5 := Lib.hid (QM.ofS (m := m) h'); have HS3 : Hid (∀ W, Chg [w2.heap.size] w5 W → W.cell? ⟨m.q, 1, none⟩ = some (.pointer (some ⟨m.X.p, 0, none⟩)) ∧ W.cell? ⟨m.q, 2, none⟩ = some (.pointer (some ⟨m.t, 0, none⟩))) := Lib.hid (fun W hW => ⟨(hW.cell (p := ⟨m.q, 1, none⟩) (QM.lt S5.out) (by simp; omega)).trans (by exact QM.q1 S5.out), (hW.cell (p := ⟨m.q, 2, none⟩) (QM.lt S5.out) (by simp; omega)).trans (by exact QM.q2 S5.out)⟩); clear h') | (go_at_call 62; (with_reducible refine Calls.mono (slots_at _ _ _ _ _ _ _ _ _ _ _ _ _ _ _ _ _ HC.out (QM.toS (led_new S4.out))) ?_); rintro e w5 ⟨rfl, h'⟩; rw [HF.out]; have S5 := Lib.hid (QM.ofS (m := m) h'); have HS3 : Hid (∀ W, Chg [w2.heap.size] w5 W → W.cell? ⟨m.q, 1, none⟩ = some (.pointer (some ⟨m.X.p, 0, none⟩)) ∧ W.cell? ⟨m.q, 2, none⟩ = some (.pointer (some ⟨m.t, 0, none⟩))) := Lib.hid (fun W hW => ⟨(hW.cell (p := ⟨m.q, 1, none⟩) (QM.lt S5.out) (by simp; omega)).trans (by exact QM.q1 S5.out), (hW.cell (p := ⟨m.q, 2, none⟩) (QM.lt S5.out) (by simp; omega)).trans (by exact QM.q2 S5.out)⟩); clear h'; have zb : Blk w5 w2.heap.size 34 #[.int .i64 0, .int .i64 0] := S5.out.at_ 10 rfl; obtain ⟨z0, z1, fz0, fz1⟩ := zb.c2; have lzb := zb.lt; clear zb))
      all_goals go_wp2_with fail
      all_goals go_meet
      all_goals first | exact ⟨_, u, rfl, rfl, Lib.hid (led_new S5.out)⟩ | exact ⟨_, u, rfl, rfl, Lib.hid (led_store2 S5.out)⟩
    case rest =>
      clear S
      obtain ⟨rb, u, rfl, rfl, S⟩ := hcut
      go_upto_region 8 with fail
      have n1 : m.q ≠ w.heap.size + 1 := fun e => S.out.apart 8 12 rfl rfl (by decide) m.q (by simp [blkE]) (by simp [blkE, e])
      have n2 : m.me ≠ w.heap.size + 1 := fun e => S.out.apart 9 12 rfl rfl (by decide) m.me (by simp [mapE]) (by simp [blkE, e])
      have n3 : rb ≠ w.heap.size + 1 := fun e => S.out.apart 10 12 rfl rfl (by decide) rb (by simp [blkE]) (by simp [blkE, e])
      have HS0 : Hid (∀ W, Chg [w.heap.size + 1] wc W → W.cell? ⟨m.q, 3, none⟩ = some (.map (some m.me)) ∧ W.cell? ⟨rb, 0, none⟩ = some (.int .i64 a) ∧ W.cell? ⟨rb, 1, none⟩ = some (.int .i64 g)) := Lib.hid (fun W hW => ⟨(hW.cell (p := ⟨m.q, 3, none⟩) (QM.lt S.out) (by simp; omega)).trans (by exact QM.q3 S.out), (hW.cell (p := ⟨rb, 0, none⟩) ((show Blk wc rb 34 #[.int .i64 a, .int .i64 g] from S.out.at_ 10 rfl).lt) (by simp; omega)).trans (by exact (show Blk wc rb 34 #[.int .i64 a, .int .i64 g] from S.out.at_ 10 rfl).cell 0), (hW.cell (p := ⟨rb, 1, none⟩) ((show Blk wc rb 34 #[.int .i64 a, .int .i64 g] from S.out.at_ 10 rfl).lt) (by simp; omega)).trans (by exact (show Blk wc rb 34 #[.int .i64 a, .int .i64 g] from S.out.at_ 10 rfl).cell 1)⟩)
      have HS : Hid (∀ W, Chg [w.heap.size + 1] wc W → W.cell? ⟨m.q, 3, none⟩ = some (.map (some m.me)) ∧ W.cell? ⟨rb, 0, none⟩ = some (.int .i64 a) ∧ W.cell? ⟨rb, 1, none⟩ = some (.int .i64 g) ∧ (Instr.lookup 74 (.map (some m.me)) (.agg #[.int .i64 a, .int .i64 g]) false).run Tryz.prog W = .ok (.agg #[.int .i64 e1, .int .i64 e2]) W) := Lib.hid (fun W hW => have h0 := HS0.out W hW; ⟨h0.1, h0.2.1, h0.2.2, by have := MapIs.look1 (t := 74) (x := (a, g)) ((QM.map S.out).chg hW (by simpa using n2)) Tryz.underlying74 entry_zero HAG.out; rw [HFF.out] at this; exact this⟩)
      have zb : Blk wc (w.heap.size + 1) 38 #[.int .i64 0, .int .i64 0, .int .i64 0, .int .i64 0, .int .i64 0, .int .i64 0, .int .i64 0, .int .i64 0] := S.out.at_ 12 rfl
      have lzb := zb.lt
      obtain ⟨z0, z1, z2, z3, z4, z5, z6, z7, fz0, fz1, fz2, fz3, fz4, fz5, fz6, fz7⟩ := zb.c8
      clear zb
      go_region_held3 (fun wx => wx.cell? ⟨m.q, 3, none⟩ = some (.map (some m.me)) ∧ wx.cell? ⟨rb, 0, none⟩ = some (.int .i64 a) ∧ wx.cell? ⟨rb, 1, none⟩ = some (.int .i64 g) ∧ (Instr.lookup 74 (.map (some m.me)) (.agg #[.int .i64 a, .int .i64 g]) false).run Tryz.prog wx = .ok (.agg #[.int .i64 e1, .int .i64 e2]) wx) ((refine HS.out _ ?_; (repeat' first | with_reducible exact Chg.refl _ _ | with_reducible refine Chg.drew ?_ | with_reducible refine Chg.drewN ?_ _ | with_reducible refine Chg.alloc ?_ _ | with_reducible refine Chg.setCell ?_ ?_ _ | (left; simp; done) | (right; exact Nat.le_refl _) | (right; dsimp only; omega)); done)) (fail)
      go_wp2_with fail
      have S9 : Hid (Led B w0 ((((((((wc.setCell ⟨w.heap.size + 1, 0, none⟩ (.int .i64 0)).setCell ⟨w.heap.size + 1, 1, none⟩ (.int .i64 0)).setCell ⟨w.heap.size + 1, 2, none⟩ (.int .i64 0)).setCell ⟨w.heap.size + 1, 3, none⟩ (.int .i64 a)).setCell ⟨w.heap.size + 1, 4, none⟩ (.int .i64 g)).setCell ⟨w.heap.size + 1, 5, none⟩ (.int .i64 e1)).setCell ⟨w.heap.size + 1, 6, none⟩ (.int .i64 e2)).setCell ⟨w.heap.size + 1, 7, none⟩ (.int .i64 0)).drew (m.es vf lh fh li fi n ne ((s.tick (0 + u))) sh si f F items serial ++ blkE (rb) 34 #[.int .i64 a, .int .i64 g] :: blkE (w.heap.size) 34 #[.int .i64 (j : Int), .int .i64 y.gen] :: blkE (w.heap.size + 1) 38 #[.int .i64 0, .int .i64 0, .int .i64 0, .int .i64 a, .int .i64 g, .int .i64 e1, .int .i64 e2, .int .i64 0] :: C)) := Lib.hid (led_store8 (A := m.es vf lh fh li fi n ne ((s.tick (0 + u))) sh si f F items serial ++ [_, _]) S.out).drew
      generalize ((((((((wc.setCell ⟨w.heap.size + 1, 0, none⟩ (.int .i64 0)).setCell ⟨w.heap.size + 1, 1, none⟩ (.int .i64 0)).setCell ⟨w.heap.size + 1, 2, none⟩ (.int .i64 0)).setCell ⟨w.heap.size + 1, 3, none⟩ (.int .i64 a)).setCell ⟨w.heap.size + 1, 4, none⟩ (.int .i64 g)).setCell ⟨w.heap.size + 1, 5, none⟩ (.int .i64 e1)).setCell ⟨w.heap.size + 1, 6, none⟩ (.int .i64 e2)).setCell ⟨w.heap.size + 1, 7, none⟩ (.int .i64 0)).drew = w9 at S9 ⊢
      have zb : Blk w9 (w.heap.size + 1) 38 #[.int .i64 0, .int .i64 0, .int .i64 0, .int .i64 a, .int .i64 g, .int .i64 e1, .int .i64 e2, .int .i64 0] := S9.out.at_ 12 rfl
      have lzb9 := zb.lt
      obtain ⟨a0, a1, a2, a3, a4, a5, a6, a7, fa0, fa1, fa2, fa3, fa4, fa5, fa6, fa7⟩ := zb.c8
      clear zb
      exact bodyPost_ret (v := .agg #[.int .i64 0, .int .i64 0, .int .i64 0, .int .i64 a, .int .i64 g, .int .i64 e1, .int .i64 e2, .int .i64 0]) (by simp [results, Tryz.results32, go_sem, lzb9, a0, a1, a2, a3, a4, a5, a6, a7]) rfl (hR.out _ _ ⟨0 + u, rfl, led_cut (A := m.es vf lh fh li fi n ne ((s.tick (0 + u))) sh si f F items serial) (M := [_, _, _]) (C := C) S9.out⟩)
end
end Go.Proofs.YtognmhgdegpdiaaGreat
end
section
/- Queues: the least item goes. -/
namespace Go.Proofs.YtognmhgdegpdiaaGreat
open Go.RowKit
open Go.Maps (Keyed)
set_option linter.unusedVariables false
set_option linter.unusedSimpArgs false
set_option maxRecDepth 100000
theorem give_tick (s : Ar) (u : Nat) (c : Int) : ((s.tick u).give c).2.tick 1 = (s.give c).2.tick (u + 1) := by unfold Ar.give; rw [show (s.tick u).has c = s.has c from rfl]; split <;> rfl
section
variable {B : Nat} {w0 w : World} {C : List Ent} {m : QM} {vf lh fh li fi : Value} {n ne : Nat} {s : Ar} {sh si : PSt V3} {f : Int → Option (Int × Int)} {F : (Int × Int) → Option (Int × Int)} {items serial : Int}
structure PopQ (sh si : PSt V3) (f : Int → Option (Int × Int)) (F : (Int × Int) → Option (Int × Int)) (s : Ar) (j : Nat) (y : Pl V3) (i : Nat) (x : Pl V3) (e1 e2 : Int) : Prop where
  hy : sh.l[j]? = some y
  ht : y.taken = true
  hg : 1 ≤ y.gen
  hk : 1 ≤ y.v.a ∧ y.v.a ≤ 5
  nn : 1 ≤ y.v.c ∧ y.v.c ≤ 100000
  ok : (Ar.kpop y.v.a s y.v.b).1.Ok
  pp : PopPre y.v.a s y.v.b
  hc : (Ar.kpop y.v.a s y.v.b).2.2 = x.v.a
  fc : f x.v.a = some ((i : Int), x.gen)
  hx : si.l[i]? = some x
  xt : x.taken = true
  xg : 1 ≤ x.gen
  co : CellsOk si
  ik : in64 (i : Int) ∧ in64 x.gen
  fe : F ((i : Int), x.gen) = some (e1, e2)
set_option maxHeartbeats 8000000 in
theorem pq_popmin (j : Nat) (y : Pl V3) (i : Nat) (x : Pl V3) (e1 e2 : Int) (hp : PopQ sh si f F s j y i x e1 e2) (h : Led B w0 w (m.es vf lh fh li fi n ne s sh si f F items serial ++ C)) :
    Calls Tryz.prog 32 #[.pointer (some ⟨m.q, 0, none⟩), .agg #[.int .i64 (j : Int), .int .i64 y.gen], .bool true] w fun e w' => ∃ vf' fi' u, e = .returned (.agg #[.int .i64 0, .int .i64 0, .int .i64 0, .int .i64 (i : Int), .int .i64 x.gen, .int .i64 e1, .int .i64 e2, .int .i64 0]) ∧ u ≤ Ar.kpopB y.v.a s y.v.b + 1 ∧ Led B w0 w' (m.es vf' lh fh li fi' n ne ((((Ar.kpop y.v.a s y.v.b).1.give x.v.a).2.tick u)) ((sh.setAt j y ⟨y.v.a, (Ar.kpop y.v.a s y.v.b).2.1, y.v.c - 1⟩)) ((si.giveAt i x ⟨0, 0, 0⟩)) ((upd f x.v.a none)) ((upd F ((i : Int), x.gen) none)) items serial ++ C) := by
  have H := Lib.hid h
  have HP := Lib.hid hp
  have HY := Lib.hid hp.hy
  have HT := Lib.hid hp.ht
  have HG := Lib.hid hp.hg
  have gn : (y.v.c == 0) = false := by have := hp.nn; simp; omega
  have hw : IntKind.i64.wrap (y.v.c - 1) = y.v.c - 1 := by have := hp.nn; rw [IntKind.wrap_i64]; omega
  clear h hp
  refine callsR fun R hR => ?_
  go_enter Tryz.func32, Tryz.ntmps32
  have H2 : Hid (Led B w0 ((w.alloc (.cells #[.int .i64 (j : Int), .int .i64 y.gen] 34)).alloc (.cells #[.int .i64 0, .int .i64 0, .int .i64 0, .int .i64 0, .int .i64 0, .int .i64 0, .int .i64 0, .int .i64 0] 38)) (m.es vf lh fh li fi n ne s sh si f F items serial ++ blkE (w.heap.size) 34 #[.int .i64 (j : Int), .int .i64 y.gen] :: blkE (w.heap.size + 1) 38 #[.int .i64 0, .int .i64 0, .int .i64 0, .int .i64 0, .int .i64 0, .int .i64 0, .int .i64 0, .int .i64 0] :: C)) := Lib.hid (led_new2 H.out)
  clear H
  go_upto_region 1 with fail
  obtain ⟨w1, hw1⟩ : ∃ w1, w1 = (w.alloc (.cells #[.int .i64 (j : Int), .int .i64 y.gen] 34)).alloc (.cells #[.int .i64 0, .int .i64 0, .int .i64 0, .int .i64 0, .int .i64 0, .int .i64 0, .int .i64 0, .int .i64 0] 38) := ⟨_, rfl⟩
  rw [← hw1] at H2 ⊢
  clear hw1
  go_cut [7, 8, 9, 10] (fun s5 s6 s7 s8 wx => s5 = .int .i64 y.v.a ∧ s6 = .int .i64 y.v.b ∧ s7 = .int .i64 y.v.c ∧ s8 = .int .i64 0 ∧ Hid (Led B w0 wx (m.es vf lh fh li fi n ne s sh si f F items serial ++ blkE (w.heap.size) 34 #[.int .i64 (j : Int), .int .i64 y.gen] :: blkE (w.heap.size + 1) 38 #[.int .i64 0, .int .i64 0, .int .i64 0, .int .i64 0, .int .i64 0, .int .i64 0, .int .i64 0, .int .i64 0] :: C)))
  case first =>
    have HS : Hid (∀ W, Chg [] w1 W → W.cell? ⟨m.q, 2, none⟩ = some (.pointer (some ⟨m.t, 0, none⟩)) ∧ W.cell? ⟨w.heap.size, 0, none⟩ = some (.int .i64 (j : Int)) ∧ W.cell? ⟨w.heap.size, 1, none⟩ = some (.int .i64 y.gen)) := Lib.hid (fun W hW => have hl := H2.out.later (hW.below (by simp) (Nat.le_refl _)); ⟨QM.q2 hl, (show Blk W w.heap.size 34 #[.int .i64 (j : Int), .int .i64 y.gen] from hl.at_ 10 rfl).cell 0, (show Blk W w.heap.size 34 #[.int .i64 (j : Int), .int .i64 y.gen] from hl.at_ 10 rfl).cell 1⟩)
    go_region_held3 (fun wx => wx.cell? ⟨m.q, 2, none⟩ = some (.pointer (some ⟨m.t, 0, none⟩)) ∧ wx.cell? ⟨w.heap.size, 0, none⟩ = some (.int .i64 (j : Int)) ∧ wx.cell? ⟨w.heap.size, 1, none⟩ = some (.int .i64 y.gen)) (first | (refine HS.out _ ?_; (repeat' first | with_reducible exact Chg.refl _ _ | with_reducible refine Chg.drew ?_ | with_reducible refine Chg.drewN ?_ _ | with_reducible refine Chg.alloc ?_ _ | with_reducible refine Chg.setCell ?_ ?_ _ | (left; simp; done) | (right; exact Nat.le_refl _) | (right; dsimp only; omega)); done) | (refine HS2.out _ ?_; (repeat' first | with_reducible exact Chg.refl _ _ | with_reducible refine Chg.drew ?_ | with_reducible refine Chg.drewN ?_ _ | with_reducible refine Chg.alloc ?_ _ | with_reducible refine Chg.setCell ?_ ?_ _ | (left; simp; done) | (right; exact Nat.le_refl _) | (right; dsimp only; omega)); done)) (first | (go_at_call 36; refine Calls.mono (slots_heap _ _ _ _ _ _ _ _ _ _ _ _ _ _ _ _ _ _ (QM.toS H2.out.drew)) ?_; rintro e w2 ⟨v, e0, rfl, q1, q2⟩; obtain ⟨rfl, rfl⟩ := q1.ok HY.out HT.out HG.out; have S4 : Hid (Led B w0 w2 (m.es vf lh fh li fi n ne s sh si f F items serial ++ blkE (w.heap.size) 34 #[.int .i64 (j : Int), .int .i64 y.gen] :: blkE (w.heap.size + 1) 38 #[.int .i64 0, .int .i64 0, .int .i64 0, .int .i64 0, .int .i64 0, .int .i64 0, .int .i64 0, .int .i64 0] :: C)) := Lib.hid (QM.ofS q2); have HS2 : Hid (∀ W, Chg [] w2 W → W.cell? ⟨m.q, 2, none⟩ = some (.pointer (some ⟨m.t, 0, none⟩)) ∧ W.cell? ⟨w.heap.size, 0, none⟩ = some (.int .i64 (j : Int)) ∧ W.cell? ⟨w.heap.size, 1, none⟩ = some (.int .i64 y.gen)) := Lib.hid (fun W hW => have hl := S4.out.later (hW.below (by simp) (Nat.le_refl _)); ⟨QM.q2 hl, (show Blk W w.heap.size 34 #[.int .i64 (j : Int), .int .i64 y.gen] from hl.at_ 10 rfl).cell 0, (show Blk W w.heap.size 34 #[.int .i64 (j : Int), .int .i64 y.gen] from hl.at_ 10 rfl).cell 1⟩); clear q1 q2))
    go_wp2_with fail
    go_meet
    case rel => exact ⟨rfl, rfl, rfl, rfl, S4⟩
  case rest =>
    clear H2
    obtain ⟨rfl, rfl, rfl, rfl, S⟩ := hcut
    have c1 := QM.q1 S.out
    go_upto_region 9 with fail
    go_wp2_with fail
    refine Calls.mono (kd_pop m.X s 0 y.v.a y.v.b HP.out.hk HP.out.pp (QM.toA S.out)) ?_
    rintro e w3 ⟨vf1, u, hu, rfl, h'⟩
    rw [HP.out.hc]
    rw [Nat.zero_add] at h'
    have S2 : Hid (Led B w0 w3 (m.es vf1 lh fh li fi n ne (((Ar.kpop y.v.a s y.v.b).1.tick u)) sh si f F items serial ++ blkE (w.heap.size) 34 #[.int .i64 (j : Int), .int .i64 y.gen] :: blkE (w.heap.size + 1) 38 #[.int .i64 0, .int .i64 0, .int .i64 0, .int .i64 0, .int .i64 0, .int .i64 0, .int .i64 0, .int .i64 0] :: C)) := Lib.hid (QM.ofA h')
    clear h' c1 S
    have c2 := QM.q2 S2.out
    go_wp2_with fail
    refine Calls.mono (slots_at _ _ _ _ _ _ _ _ _ _ _ _ _ _ _ _ _ (HP.out.co i x HP.out.hx HP.out.xt) (QM.toS S2.out)) ?_
    rintro e w4 ⟨rfl, h'⟩
    rw [HP.out.fc]
    have S3 : Hid (Led B w0 w4 (m.es vf1 lh fh li fi n ne (((Ar.kpop y.v.a s y.v.b).1.tick u)) sh si f F items serial ++ blkE (w.heap.size) 34 #[.int .i64 (j : Int), .int .i64 y.gen] :: blkE (w.heap.size + 1) 38 #[.int .i64 0, .int .i64 0, .int .i64 0, .int .i64 0, .int .i64 0, .int .i64 0, .int .i64 0, .int .i64 0] :: C)) := Lib.hid (QM.ofS h')
    clear h' c2 S2
    go_upto_region 11 with fail
    obtain ⟨xb, hxb⟩ : ∃ xb, w4.heap.size = xb := ⟨_, rfl⟩
    have S4 := Lib.hid (led_new (T := 34) (cs := #[.int .i64 (i : Int), .int .i64 x.gen]) S3.out)
    rw [hxb] at S4 ⊢
    clear hxb S3
    generalize w4.alloc (.cells #[.int .i64 (i : Int), .int .i64 x.gen] 34) = w5 at S4 ⊢
    have S : Hid (Led B w0 w5 (m.es vf1 lh fh li fi n ne (((Ar.kpop y.v.a s y.v.b).1.tick u)) sh si f F items serial ++ blkE (xb) 34 #[.int .i64 (i : Int), .int .i64 x.gen] :: blkE (w.heap.size) 34 #[.int .i64 (j : Int), .int .i64 y.gen] :: blkE (w.heap.size + 1) 38 #[.int .i64 0, .int .i64 0, .int .i64 0, .int .i64 0, .int .i64 0, .int .i64 0, .int .i64 0, .int .i64 0] :: C)) := S4
    clear S4
    have HS : Hid (∀ W, Chg [] w5 W → W.cell? ⟨m.q, 2, none⟩ = some (.pointer (some ⟨m.t, 0, none⟩)) ∧ W.cell? ⟨w.heap.size, 0, none⟩ = some (.int .i64 (j : Int)) ∧ W.cell? ⟨w.heap.size, 1, none⟩ = some (.int .i64 y.gen)) := Lib.hid (fun W hW => have hl := S.out.later (hW.below (by simp) (Nat.le_refl _)); ⟨QM.q2 hl, (show Blk W w.heap.size 34 #[.int .i64 (j : Int), .int .i64 y.gen] from hl.at_ 11 rfl).cell 0, (show Blk W w.heap.size 34 #[.int .i64 (j : Int), .int .i64 y.gen] from hl.at_ 11 rfl).cell 1⟩)
    go_region_held3 (fun wx => wx.cell? ⟨m.q, 2, none⟩ = some (.pointer (some ⟨m.t, 0, none⟩)) ∧ wx.cell? ⟨w.heap.size, 0, none⟩ = some (.int .i64 (j : Int)) ∧ wx.cell? ⟨w.heap.size, 1, none⟩ = some (.int .i64 y.gen)) (first | (refine HS.out _ ?_; (repeat' first | with_reducible exact Chg.refl _ _ | with_reducible refine Chg.drew ?_ | with_reducible refine Chg.drewN ?_ _ | with_reducible refine Chg.alloc ?_ _ | with_reducible refine Chg.setCell ?_ ?_ _ | (left; simp; done) | (right; exact Nat.le_refl _) | (right; dsimp only; omega)); done) | (refine HS2.out _ ?_; (repeat' first | with_reducible exact Chg.refl _ _ | with_reducible refine Chg.drew ?_ | with_reducible refine Chg.drewN ?_ _ | with_reducible refine Chg.alloc ?_ _ | with_reducible refine Chg.setCell ?_ ?_ _ | (left; simp; done) | (right; exact Nat.le_refl _) | (right; dsimp only; omega)); done)) (first | (go_at_call 61; refine Calls.mono (slots_root _ _ _ _ _ _ _ _ _ _ _ _ _ _ _ _ _ _ _ _ (QM.toS S.out.drew)) ?_; rintro e w6 ⟨e0, sh', rfl, q1, q2⟩; obtain ⟨rfl, rfl⟩ := q1.ok_ HY.out HT.out HG.out; have S4 : Hid (Led B w0 w6 (m.es vf1 lh fh li fi n ne (((Ar.kpop y.v.a s y.v.b).1.tick u)) ((sh.setAt j y ⟨y.v.a, (Ar.kpop y.v.a s y.v.b).2.1, y.v.c - 1⟩)) si f F items serial ++ blkE (xb) 34 #[.int .i64 (i : Int), .int .i64 x.gen] :: blkE (w.heap.size) 34 #[.int .i64 (j : Int), .int .i64 y.gen] :: blkE (w.heap.size + 1) 38 #[.int .i64 0, .int .i64 0, .int .i64 0, .int .i64 0, .int .i64 0, .int .i64 0, .int .i64 0, .int .i64 0] :: C)) := Lib.hid (QM.ofS q2); have HS2 : Hid (∀ W, Chg [] w6 W → W.cell? ⟨m.q, 2, none⟩ = some (.pointer (some ⟨m.t, 0, none⟩)) ∧ W.cell? ⟨w.heap.size, 0, none⟩ = some (.int .i64 (j : Int)) ∧ W.cell? ⟨w.heap.size, 1, none⟩ = some (.int .i64 y.gen)) := Lib.hid (fun W hW => have hl := S4.out.later (hW.below (by simp) (Nat.le_refl _)); ⟨QM.q2 hl, (show Blk W w.heap.size 34 #[.int .i64 (j : Int), .int .i64 y.gen] from hl.at_ 11 rfl).cell 0, (show Blk W w.heap.size 34 #[.int .i64 (j : Int), .int .i64 y.gen] from hl.at_ 11 rfl).cell 1⟩); clear q1 q2))
    clear HS HS2 S
    go_upto_region 12 with fail
    have n3 : xb ≠ w.heap.size + 1 := fun e => S4.out.apart 10 12 rfl rfl (by decide) xb (by simp [blkE]) (by simp [blkE, e])
    have HS : Hid (∀ W, Chg [] w6 W → W.cell? ⟨xb, 0, none⟩ = some (.int .i64 (i : Int)) ∧ W.cell? ⟨xb, 1, none⟩ = some (.int .i64 x.gen)) := Lib.hid (fun W hW => have hl := S4.out.later (hW.below (by simp) (Nat.le_refl _)); ⟨(show Blk W xb 34 #[.int .i64 (i : Int), .int .i64 x.gen] from hl.at_ 10 rfl).cell 0, (show Blk W xb 34 #[.int .i64 (i : Int), .int .i64 x.gen] from hl.at_ 10 rfl).cell 1⟩)
    go_region_held3 (fun wx => wx.cell? ⟨xb, 0, none⟩ = some (.int .i64 (i : Int)) ∧ wx.cell? ⟨xb, 1, none⟩ = some (.int .i64 x.gen)) (first | (refine HS.out _ ?_; (repeat' first | with_reducible exact Chg.refl _ _ | with_reducible refine Chg.drew ?_ | with_reducible refine Chg.drewN ?_ _ | with_reducible refine Chg.alloc ?_ _ | with_reducible refine Chg.setCell ?_ ?_ _ | (left; simp; done) | (right; exact Nat.le_refl _) | (right; dsimp only; omega)); done) | (refine HS2.out _ ?_; (repeat' first | with_reducible exact Chg.refl _ _ | with_reducible refine Chg.drew ?_ | with_reducible refine Chg.drewN ?_ _ | with_reducible refine Chg.alloc ?_ _ | with_reducible refine Chg.setCell ?_ ?_ _ | (left; simp; done) | (right; exact Nat.le_refl _) | (right; dsimp only; omega)); done)) (first | (go_at_call 65; refine Calls.mono (pq_gone i x HP.out.hx HP.out.xt HP.out.xg HP.out.co HP.out.ik (HP.out.ok.tick u) S4.out.drew) ?_; rintro e w7 ⟨vf2, fi', rfl, h'⟩; rw [HP.out.fe]; have S7 : Hid (Led B w0 w7 (m.es vf2 lh fh li fi' n ne (((((Ar.kpop y.v.a s y.v.b).1.tick u).give x.v.a).2.tick 1)) ((sh.setAt j y ⟨y.v.a, (Ar.kpop y.v.a s y.v.b).2.1, y.v.c - 1⟩)) ((si.giveAt i x ⟨0, 0, 0⟩)) ((upd f x.v.a none)) ((upd F ((i : Int), x.gen) none)) items serial ++ blkE (xb) 34 #[.int .i64 (i : Int), .int .i64 x.gen] :: blkE (w.heap.size) 34 #[.int .i64 (j : Int), .int .i64 y.gen] :: blkE (w.heap.size + 1) 38 #[.int .i64 0, .int .i64 0, .int .i64 0, .int .i64 0, .int .i64 0, .int .i64 0, .int .i64 0, .int .i64 0] :: C)) := Lib.hid h'; have HS2 : Hid (∀ W, Chg [w.heap.size + 1] w7 W → W.cell? ⟨xb, 0, none⟩ = some (.int .i64 (i : Int)) ∧ W.cell? ⟨xb, 1, none⟩ = some (.int .i64 x.gen)) := Lib.hid (fun W hW => ⟨(hW.cell (p := ⟨xb, 0, none⟩) ((show Blk w7 xb 34 #[.int .i64 (i : Int), .int .i64 x.gen] from S7.out.at_ 10 rfl).lt) (by simp; omega)).trans (by exact (show Blk w7 xb 34 #[.int .i64 (i : Int), .int .i64 x.gen] from S7.out.at_ 10 rfl).cell 0), (hW.cell (p := ⟨xb, 1, none⟩) ((show Blk w7 xb 34 #[.int .i64 (i : Int), .int .i64 x.gen] from S7.out.at_ 10 rfl).lt) (by simp; omega)).trans (by exact (show Blk w7 xb 34 #[.int .i64 (i : Int), .int .i64 x.gen] from S7.out.at_ 10 rfl).cell 1)⟩); have zb : Blk w7 (w.heap.size + 1) 38 #[.int .i64 0, .int .i64 0, .int .i64 0, .int .i64 0, .int .i64 0, .int .i64 0, .int .i64 0, .int .i64 0] := S7.out.at_ 12 rfl; obtain ⟨z0, z1, z2, z3, z4, z5, z6, z7, fz0, fz1, fz2, fz3, fz4, fz5, fz6, fz7⟩ := zb.c8; have lzb := zb.lt; clear zb; clear h'))
    go_wp2_with fail
    have S9 : Hid (Led B w0 ((((((((w7.setCell ⟨w.heap.size + 1, 0, none⟩ (.int .i64 0)).setCell ⟨w.heap.size + 1, 1, none⟩ (.int .i64 0)).setCell ⟨w.heap.size + 1, 2, none⟩ (.int .i64 0)).setCell ⟨w.heap.size + 1, 3, none⟩ (.int .i64 (i : Int))).setCell ⟨w.heap.size + 1, 4, none⟩ (.int .i64 x.gen)).setCell ⟨w.heap.size + 1, 5, none⟩ (.int .i64 e1)).setCell ⟨w.heap.size + 1, 6, none⟩ (.int .i64 e2)).setCell ⟨w.heap.size + 1, 7, none⟩ (.int .i64 0)) (m.es vf2 lh fh li fi' n ne (((((Ar.kpop y.v.a s y.v.b).1.tick u).give x.v.a).2.tick 1)) ((sh.setAt j y ⟨y.v.a, (Ar.kpop y.v.a s y.v.b).2.1, y.v.c - 1⟩)) ((si.giveAt i x ⟨0, 0, 0⟩)) ((upd f x.v.a none)) ((upd F ((i : Int), x.gen) none)) items serial ++ blkE (xb) 34 #[.int .i64 (i : Int), .int .i64 x.gen] :: blkE (w.heap.size) 34 #[.int .i64 (j : Int), .int .i64 y.gen] :: blkE (w.heap.size + 1) 38 #[.int .i64 0, .int .i64 0, .int .i64 0, .int .i64 (i : Int), .int .i64 x.gen, .int .i64 e1, .int .i64 e2, .int .i64 0] :: C)) := Lib.hid (led_store8 (A := m.es vf2 lh fh li fi' n ne (((((Ar.kpop y.v.a s y.v.b).1.tick u).give x.v.a).2.tick 1)) ((sh.setAt j y ⟨y.v.a, (Ar.kpop y.v.a s y.v.b).2.1, y.v.c - 1⟩)) ((si.giveAt i x ⟨0, 0, 0⟩)) ((upd f x.v.a none)) ((upd F ((i : Int), x.gen) none)) items serial ++ [_, _]) S7.out)
    generalize ((((((((w7.setCell ⟨w.heap.size + 1, 0, none⟩ (.int .i64 0)).setCell ⟨w.heap.size + 1, 1, none⟩ (.int .i64 0)).setCell ⟨w.heap.size + 1, 2, none⟩ (.int .i64 0)).setCell ⟨w.heap.size + 1, 3, none⟩ (.int .i64 (i : Int))).setCell ⟨w.heap.size + 1, 4, none⟩ (.int .i64 x.gen)).setCell ⟨w.heap.size + 1, 5, none⟩ (.int .i64 e1)).setCell ⟨w.heap.size + 1, 6, none⟩ (.int .i64 e2)).setCell ⟨w.heap.size + 1, 7, none⟩ (.int .i64 0)) = w9 at S9 ⊢
    have zb : Blk w9 (w.heap.size + 1) 38 #[.int .i64 0, .int .i64 0, .int .i64 0, .int .i64 (i : Int), .int .i64 x.gen, .int .i64 e1, .int .i64 e2, .int .i64 0] := S9.out.at_ 12 rfl
    have lzb9 := zb.lt
    obtain ⟨a0, a1, a2, a3, a4, a5, a6, a7, fa0, fa1, fa2, fa3, fa4, fa5, fa6, fa7⟩ := zb.c8
    clear zb
    exact bodyPost_ret (v := .agg #[.int .i64 0, .int .i64 0, .int .i64 0, .int .i64 (i : Int), .int .i64 x.gen, .int .i64 e1, .int .i64 e2, .int .i64 0]) (by simp [results, Tryz.results32, go_sem, lzb9, a0, a1, a2, a3, a4, a5, a6, a7]) rfl (hR.out _ _ ⟨vf2, fi', u + 1, rfl, by omega, led_cut (A := m.es vf2 lh fh li fi' n ne ((((Ar.kpop y.v.a s y.v.b).1.give x.v.a).2.tick (u + 1))) ((sh.setAt j y ⟨y.v.a, (Ar.kpop y.v.a s y.v.b).2.1, y.v.c - 1⟩)) ((si.giveAt i x ⟨0, 0, 0⟩)) ((upd f x.v.a none)) ((upd F ((i : Int), x.gen) none)) items serial) (M := [_, _, _]) (C := C) (give_tick _ _ _ ▸ S9.out)⟩)
end
end Go.Proofs.YtognmhgdegpdiaaGreat
end
