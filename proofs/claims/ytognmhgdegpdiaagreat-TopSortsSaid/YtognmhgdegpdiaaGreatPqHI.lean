import Derived.Test.YtognmhgdegpdiaaGreatPqEG
section
/- Queues: Do: a new heap. -/
namespace Go.Proofs.YtognmhgdegpdiaaGreat
open Go.RowKit
open Go.Maps (Keyed)
set_option linter.unusedVariables false
set_option linter.unusedSimpArgs false
set_option maxRecDepth 100000
theorem MakeR.ok_ {s s' : PSt V3} {k a g e0 : Int} (hk : 1 ≤ k ∧ k ≤ 5) (hf : s.l.length ≠ s.most + s.free.length) (hm : s.l.length ≤ s.most) (h : MakeR s k a g e0 s') : e0 = 0 ∧ TakeR s ⟨k, -1, 0⟩ a g true s' := by
  rcases h with ⟨h1, _⟩ | ⟨_, ok, h1, h2⟩
  · have e1 : decide (1 ≤ k) = true := by simpa using hk.1
    have e2 : decide (k ≤ 5) = true := by simpa using hk.2
    rw [e1, e2] at h1
    cases h1
  · have := h1.ok hf hm
    subst this
    exact ⟨by rw [h2]; rfl, h1⟩
section
variable {B : Nat} {w0 w : World} {C : List Ent} {m : QM} {vf lh fh li fi : Value} {n ne : Nat} {s : Ar} {sh si : PSt V3} {f : Int → Option (Int × Int)} {F : (Int × Int) → Option (Int × Int)} {items serial : Int}
set_option maxHeartbeats 8000000 in
theorem do_make (k ha hg oa og ia ig key : Int) (hk : 1 ≤ k ∧ k ≤ 5) (hf : sh.l.length ≠ sh.most + sh.free.length) (hm : sh.l.length ≤ sh.most) (hb : s.begun ≤ s.steps) (h : Led B w0 w (m.es vf lh fh li fi n ne s sh si f F items serial ++ C)) :
    Calls Tryz.prog 11 #[.pointer (some ⟨m.q, 0, none⟩), .agg #[.int .i64 1, .int .i64 k, .int .i64 ha, .int .i64 hg, .int .i64 oa, .int .i64 og, .int .i64 ia, .int .i64 ig, .int .i64 key]] w fun e w' => ∃ a g lh' fh' sh', e = .returned (.agg #[.int .i64 0, .int .i64 a, .int .i64 g, .int .i64 0, .int .i64 0, .int .i64 0, .int .i64 0, .int .i64 0]) ∧ TakeR sh ⟨k, -1, 0⟩ a g true sh' ∧ Led B w0 w' (m.es vf lh' fh' li fi n ne s.begin_ sh' si f F items serial ++ C) := by
  have HK := Lib.hid hk
  have HF := Lib.hid hf
  have HM := Lib.hid hm
  clear hk hf hm
  have H := Lib.hid h
  have HB := Lib.hid hb
  clear h hb
  refine callsR fun R hR => ?_
  go_enter Tryz.func11, Tryz.ntmps11
  have H2 : Hid (Led B w0 ((w.alloc (.cells #[.int .i64 1, .int .i64 k, .int .i64 ha, .int .i64 hg, .int .i64 oa, .int .i64 og, .int .i64 ia, .int .i64 ig, .int .i64 key] 41)).alloc (.cells #[.int .i64 0, .int .i64 0, .int .i64 0, .int .i64 0, .int .i64 0, .int .i64 0, .int .i64 0, .int .i64 0] 38)) (m.es vf lh fh li fi n ne s sh si f F items serial ++ blkE (w.heap.size) 41 #[.int .i64 1, .int .i64 k, .int .i64 ha, .int .i64 hg, .int .i64 oa, .int .i64 og, .int .i64 ia, .int .i64 ig, .int .i64 key] :: blkE (w.heap.size + 1) 38 #[.int .i64 0, .int .i64 0, .int .i64 0, .int .i64 0, .int .i64 0, .int .i64 0, .int .i64 0, .int .i64 0] :: C)) := Lib.hid (led_new2 H.out)
  clear H
  go_upto_region 1 with fail
  generalize (w.alloc (.cells #[.int .i64 1, .int .i64 k, .int .i64 ha, .int .i64 hg, .int .i64 oa, .int .i64 og, .int .i64 ia, .int .i64 ig, .int .i64 key] 41)).alloc (.cells #[.int .i64 0, .int .i64 0, .int .i64 0, .int .i64 0, .int .i64 0, .int .i64 0, .int .i64 0, .int .i64 0] 38) = w1 at H2 ⊢
  have c1 := QM.q1 H2.out
  go_wp2_with fail
  refine Calls.mono (ar_meter m.X s (QM.toA H2.out)) ?_
  rintro e w' ⟨rfl, rfl⟩
  go_wp2_with fail
  refine Calls.mono (meter_begin m.X s HB.out (QM.toA H2.out)) ?_
  rintro e w2 ⟨rfl, h'⟩
  have S : Hid (Led B w0 w2 (m.es vf lh fh li fi n ne s.begin_ sh si f F items serial ++ blkE (w.heap.size) 41 #[.int .i64 1, .int .i64 k, .int .i64 ha, .int .i64 hg, .int .i64 oa, .int .i64 og, .int .i64 ia, .int .i64 ig, .int .i64 key] :: blkE (w.heap.size + 1) 38 #[.int .i64 0, .int .i64 0, .int .i64 0, .int .i64 0, .int .i64 0, .int .i64 0, .int .i64 0, .int .i64 0] :: C)) := Lib.hid (QM.ofA h')
  clear h' c1 H2
  have cb : Blk w2 w.heap.size 41 #[.int .i64 1, .int .i64 k, .int .i64 ha, .int .i64 hg, .int .i64 oa, .int .i64 og, .int .i64 ia, .int .i64 ig, .int .i64 key] := S.out.at_ 10 rfl
  have lcb := cb.lt
  obtain ⟨c0, c1, c2, c3, c4, c5, c6, c7, c8, fc0, fc1, fc2, fc3, fc4, fc5, fc6, fc7, fc8⟩ := cb.c9
  clear cb
  go_upto_region 4 with fail
  clear c0 fc0 c1 fc1 c2 fc2 c3 fc3 c4 fc4 c5 fc5 c6 fc6 c7 fc7 c8 fc8 lcb
  go_cut [5, 6] (fun s5 s6 wx => ∃ (rb : Nat) (a g : Int) (lh' fh' : Value) (sh' : PSt V3), s5 = .pointer (some ⟨rb, 0, none⟩) ∧ s6 = .int .i64 0 ∧ Hid (TakeR sh ⟨k, -1, 0⟩ a g true sh') ∧ Hid (Led B w0 wx (m.es vf lh' fh' li fi n ne s.begin_ sh' si f F items serial ++ blkE (rb) 34 #[.int .i64 a, .int .i64 g] :: blkE (w.heap.size) 41 #[.int .i64 1, .int .i64 k, .int .i64 ha, .int .i64 hg, .int .i64 oa, .int .i64 og, .int .i64 ia, .int .i64 ig, .int .i64 key] :: blkE (w.heap.size + 1) 38 #[.int .i64 0, .int .i64 0, .int .i64 0, .int .i64 0, .int .i64 0, .int .i64 0, .int .i64 0, .int .i64 0] :: C)))
  case first =>
    have H3 : Hid (Led B w0 (w2.alloc (.cells #[.int .i64 0, .int .i64 0] 34)) (m.es vf lh fh li fi n ne s.begin_ sh si f F items serial ++ blkE (w2.heap.size) 34 #[.int .i64 0, .int .i64 0] :: blkE (w.heap.size) 41 #[.int .i64 1, .int .i64 k, .int .i64 ha, .int .i64 hg, .int .i64 oa, .int .i64 og, .int .i64 ia, .int .i64 ig, .int .i64 key] :: blkE (w.heap.size + 1) 38 #[.int .i64 0, .int .i64 0, .int .i64 0, .int .i64 0, .int .i64 0, .int .i64 0, .int .i64 0, .int .i64 0] :: C)) := Lib.hid (led_new S.out)
    have ltq := QM.lt S.out
    have ltc : w.heap.size < w2.heap.size := (show Blk w2 w.heap.size 41 #[.int .i64 1, .int .i64 k, .int .i64 ha, .int .i64 hg, .int .i64 oa, .int .i64 og, .int .i64 ia, .int .i64 ig, .int .i64 key] from S.out.at_ 10 rfl).lt
    have HS : Hid (∀ W, Chg [] w2 W → W.cell? ⟨m.q, 2, none⟩ = some (.pointer (some ⟨m.t, 0, none⟩)) ∧ W.cell? ⟨w.heap.size, 1, none⟩ = some (.int .i64 k)) := Lib.hid (fun W hW => have hl := S.out.later (hW.below (by simp) (Nat.le_refl _)); ⟨QM.q2 hl, (show Blk W w.heap.size 41 #[.int .i64 1, .int .i64 k, .int .i64 ha, .int .i64 hg, .int .i64 oa, .int .i64 og, .int .i64 ia, .int .i64 ig, .int .i64 key] from hl.at_ 10 rfl).cell 1⟩)
    go_region_held3 (fun wx => wx.cell? ⟨m.q, 2, none⟩ = some (.pointer (some ⟨m.t, 0, none⟩)) ∧ wx.cell? ⟨w.heap.size, 1, none⟩ = some (.int .i64 k)) (first | (refine HS.out _ ?_; (repeat' first | with_reducible exact Chg.refl _ _ | with_reducible refine Chg.drew ?_ | with_reducible refine Chg.drewN ?_ _ | with_reducible refine Chg.alloc ?_ _ | with_reducible refine Chg.setCell ?_ ?_ _ | (left; simp; done) | (right; exact Nat.le_refl _) | (right; dsimp only; omega)); done) | (refine HS2.out _ ?_; (repeat' first | with_reducible exact Chg.refl _ _ | with_reducible refine Chg.drew ?_ | with_reducible refine Chg.drewN ?_ _ | with_reducible refine Chg.alloc ?_ _ | with_reducible refine Chg.setCell ?_ ?_ _ | (left; simp; done) | (right; exact Nat.le_refl _) | (right; dsimp only; omega)); done)) (first | (go_at_call 30; (with_reducible refine Calls.mono (slots_make _ _ _ _ _ _ _ _ _ _ _ _ _ _ _ _ _ (QM.toS S.out.drew)) ?_); rintro e w4 ⟨a, g, e0, lh', fh', sh', rfl, q1, q2⟩; obtain ⟨rfl, q3⟩ := q1.ok_ HK.out HF.out HM.out; have Q3 := Lib.hid q3; have S4 := Lib.hid (QM.ofS (m := m) q2); have HS2 : Hid (∀ W, Chg [w2.heap.size] w4 W → W.cell? ⟨m.q, 2, none⟩ = some (.pointer (some ⟨m.t, 0, none⟩)) ∧ W.cell? ⟨w.heap.size, 1, none⟩ = some (.int .i64 k)) := Lib.hid (fun W hW => ⟨(hW.cell (p := ⟨m.q, 2, none⟩) (QM.lt S4.out) (by simp; omega)).trans (by exact QM.q2 S4.out), (hW.cell (p := ⟨w.heap.size, 1, none⟩) ((show Blk w4 w.heap.size 41 #[.int .i64 1, .int .i64 k, .int .i64 ha, .int .i64 hg, .int .i64 oa, .int .i64 og, .int .i64 ia, .int .i64 ig, .int .i64 key] from S4.out.at_ 10 rfl).lt) (by simp; omega)).trans (by exact (show Blk w4 w.heap.size 41 #[.int .i64 1, .int .i64 k, .int .i64 ha, .int .i64 hg, .int .i64 oa, .int .i64 og, .int .i64 ia, .int .i64 ig, .int .i64 key] from S4.out.at_ 10 rfl).cell 1)⟩); clear q1 q2 q3) | (go_at_call 30; (with_reducible refine Calls.mono (slots_make _ _ _ _ _ _ _ _ _ _ _ _ _ _ _ _ _ (QM.toS H3.out.drew)) ?_); rintro e w4 ⟨a, g, e0, lh', fh', sh', rfl, q1, q2⟩; obtain ⟨rfl, q3⟩ := q1.ok_ HK.out HF.out HM.out; have Q3 := Lib.hid q3; have S4 := Lib.hid (QM.ofS (m := m) q2); have HS2 : Hid (∀ W, Chg [w2.heap.size] w4 W → W.cell? ⟨m.q, 2, none⟩ = some (.pointer (some ⟨m.t, 0, none⟩)) ∧ W.cell? ⟨w.heap.size, 1, none⟩ = some (.int .i64 k)) := Lib.hid (fun W hW => ⟨(hW.cell (p := ⟨m.q, 2, none⟩) (QM.lt S4.out) (by simp; omega)).trans (by exact QM.q2 S4.out), (hW.cell (p := ⟨w.heap.size, 1, none⟩) ((show Blk w4 w.heap.size 41 #[.int .i64 1, .int .i64 k, .int .i64 ha, .int .i64 hg, .int .i64 oa, .int .i64 og, .int .i64 ia, .int .i64 ig, .int .i64 key] from S4.out.at_ 11 rfl).lt) (by simp; omega)).trans (by exact (show Blk w4 w.heap.size 41 #[.int .i64 1, .int .i64 k, .int .i64 ha, .int .i64 hg, .int .i64 oa, .int .i64 og, .int .i64 ia, .int .i64 ig, .int .i64 key] from S4.out.at_ 11 rfl).cell 1)⟩); have zb : Blk w4 w2.heap.size 34 #[.int .i64 0, .int .i64 0] := S4.out.at_ 10 rfl; obtain ⟨z0, z1, fz0, fz1⟩ := zb.c2; have lzb := zb.lt; clear zb; clear q1 q2 q3))
    all_goals go_wp2_with fail
    all_goals go_meet
    all_goals first | exact ⟨_, a, g, lh', fh', sh', rfl, rfl, Q3, Lib.hid (led_new S4.out)⟩ | exact ⟨_, a, g, lh', fh', sh', rfl, rfl, Q3, Lib.hid (led_store2 S4.out)⟩
  case rest =>
    clear S
    obtain ⟨rb, a, g, lh', fh', sh', rfl, rfl, Q3, S⟩ := hcut
    have rb : Blk wc rb 34 #[.int .i64 a, .int .i64 g] := S.out.at_ 10 rfl
    have lrb := rb.lt
    obtain ⟨r0, r1, fr0, fr1⟩ := rb.c2
    clear rb
    have zb : Blk wc (w.heap.size + 1) 38 #[.int .i64 0, .int .i64 0, .int .i64 0, .int .i64 0, .int .i64 0, .int .i64 0, .int .i64 0, .int .i64 0] := S.out.at_ 12 rfl
    have lzb := zb.lt
    obtain ⟨z0, z1, z2, z3, z4, z5, z6, z7, fz0, fz1, fz2, fz3, fz4, fz5, fz6, fz7⟩ := zb.c8
    clear zb
    go_wp2_with fail
    exact bodyPost_ret (v := .agg #[.int .i64 0, .int .i64 a, .int .i64 g, .int .i64 0, .int .i64 0, .int .i64 0, .int .i64 0, .int .i64 0]) (by simp [results, Tryz.results11, go_sem, lzb, z0, z1, z2, z3, z4, z5, z6, z7]) rfl (hR.out _ _ ⟨a, g, lh', fh', sh', rfl, Q3.out, led_cut (A := m.es vf lh' fh' li fi n ne s.begin_ sh' si f F items serial) (M := [_, _, _]) (C := C) (led_store8 (A := m.es vf lh' fh' li fi n ne s.begin_ sh' si f F items serial ++ [_, _]) S.out)⟩)
end
end Go.Proofs.YtognmhgdegpdiaaGreat
end
section
/- Queues: Do: Insert, FindMin, DeleteMin. -/
namespace Go.Proofs.YtognmhgdegpdiaaGreat
open Go.RowKit
open Go.Maps (Keyed)
set_option linter.unusedVariables false
set_option linter.unusedSimpArgs false
set_option maxRecDepth 100000
section
variable {B : Nat} {w0 w : World} {C : List Ent} {m : QM} {vf lh fh li fi : Value} {n ne : Nat} {s : Ar} {sh si : PSt V3} {f : Int → Option (Int × Int)} {F : (Int × Int) → Option (Int × Int)} {items serial : Int}
set_option maxHeartbeats 8000000 in
theorem do_insert (kd oa og ia ig key : Int) (j : Nat) (y : Pl V3) (hp : InsPre sh si f s.begin_ n ne items serial key j y) (hb : s.begun ≤ s.steps) (h : Led B w0 w (m.es vf lh fh li fi n ne s sh si f F items serial ++ C)) :
    Calls Tryz.prog 11 #[.pointer (some ⟨m.q, 0, none⟩), .agg #[.int .i64 2, .int .i64 kd, .int .i64 (j : Int), .int .i64 y.gen, .int .i64 oa, .int .i64 og, .int .i64 ia, .int .i64 ig, .int .i64 key]] w fun e w' => ∃ vf' li' fi' n' si' a g u, e = .returned (.agg #[.int .i64 0, .int .i64 0, .int .i64 0, .int .i64 a, .int .i64 g, .int .i64 key, .int .i64 serial, .int .i64 0]) ∧ TakeR si ⟨s.begin_.take.1, j, y.gen⟩ a g true si' ∧ u ≤ 3 + Ar.kpushB y.v.a (s.begin_.newItem key serial) y.v.b s.begin_.take.1 ∧ n' ≤ n + 1 ∧ Led B w0 w' (m.es vf' lh fh li' fi' n' ((ne + 1)) (((Ar.kpush y.v.a (s.begin_.newItem key serial) y.v.b s.begin_.take.1).1.tick u)) ((sh.setAt j y ⟨y.v.a, (Ar.kpush y.v.a (s.begin_.newItem key serial) y.v.b s.begin_.take.1).2, y.v.c + 1⟩)) si' ((upd f s.begin_.take.1 (some (a, g)))) ((upd F (a, g) (some (key, serial)))) items ((serial + 1)) ++ C) := by
  have HP := Lib.hid hp
  clear hp
  have H := Lib.hid h
  have HB := Lib.hid hb
  clear h hb
  refine callsR fun R hR => ?_
  go_enter Tryz.func11, Tryz.ntmps11
  have H2 : Hid (Led B w0 ((w.alloc (.cells #[.int .i64 2, .int .i64 kd, .int .i64 (j : Int), .int .i64 y.gen, .int .i64 oa, .int .i64 og, .int .i64 ia, .int .i64 ig, .int .i64 key] 41)).alloc (.cells #[.int .i64 0, .int .i64 0, .int .i64 0, .int .i64 0, .int .i64 0, .int .i64 0, .int .i64 0, .int .i64 0] 38)) (m.es vf lh fh li fi n ne s sh si f F items serial ++ blkE (w.heap.size) 41 #[.int .i64 2, .int .i64 kd, .int .i64 (j : Int), .int .i64 y.gen, .int .i64 oa, .int .i64 og, .int .i64 ia, .int .i64 ig, .int .i64 key] :: blkE (w.heap.size + 1) 38 #[.int .i64 0, .int .i64 0, .int .i64 0, .int .i64 0, .int .i64 0, .int .i64 0, .int .i64 0, .int .i64 0] :: C)) := Lib.hid (led_new2 H.out)
  clear H
  go_upto_region 1 with fail
  generalize (w.alloc (.cells #[.int .i64 2, .int .i64 kd, .int .i64 (j : Int), .int .i64 y.gen, .int .i64 oa, .int .i64 og, .int .i64 ia, .int .i64 ig, .int .i64 key] 41)).alloc (.cells #[.int .i64 0, .int .i64 0, .int .i64 0, .int .i64 0, .int .i64 0, .int .i64 0, .int .i64 0, .int .i64 0] 38) = w1 at H2 ⊢
  have c1 := QM.q1 H2.out
  go_wp2_with fail
  refine Calls.mono (ar_meter m.X s (QM.toA H2.out)) ?_
  rintro e w' ⟨rfl, rfl⟩
  go_wp2_with fail
  refine Calls.mono (meter_begin m.X s HB.out (QM.toA H2.out)) ?_
  rintro e w2 ⟨rfl, h'⟩
  have S : Hid (Led B w0 w2 (m.es vf lh fh li fi n ne s.begin_ sh si f F items serial ++ blkE (w.heap.size) 41 #[.int .i64 2, .int .i64 kd, .int .i64 (j : Int), .int .i64 y.gen, .int .i64 oa, .int .i64 og, .int .i64 ia, .int .i64 ig, .int .i64 key] :: blkE (w.heap.size + 1) 38 #[.int .i64 0, .int .i64 0, .int .i64 0, .int .i64 0, .int .i64 0, .int .i64 0, .int .i64 0, .int .i64 0] :: C)) := Lib.hid (QM.ofA h')
  clear h' c1 H2
  have cb : Blk w2 w.heap.size 41 #[.int .i64 2, .int .i64 kd, .int .i64 (j : Int), .int .i64 y.gen, .int .i64 oa, .int .i64 og, .int .i64 ia, .int .i64 ig, .int .i64 key] := S.out.at_ 10 rfl
  have lcb := cb.lt
  obtain ⟨c0, c1, c2, c3, c4, c5, c6, c7, c8, fc0, fc1, fc2, fc3, fc4, fc5, fc6, fc7, fc8⟩ := cb.c9
  clear cb
  go_upto_region 7 with fail
  clear c0 fc0 c1 fc1 c2 fc2 c3 fc3 c4 fc4 c5 fc5 c6 fc6 c7 fc7 c8 fc8 lcb
  have cb : Blk w2 w.heap.size 41 #[.int .i64 2, .int .i64 kd, .int .i64 (j : Int), .int .i64 y.gen, .int .i64 oa, .int .i64 og, .int .i64 ia, .int .i64 ig, .int .i64 key] := S.out.at_ 10 rfl
  have lcb := cb.lt
  obtain ⟨c0, c1, c2, c3, c4, c5, c6, c7, c8, fc0, fc1, fc2, fc3, fc4, fc5, fc6, fc7, fc8⟩ := cb.c9
  clear cb
  go_wp2_with fail
  refine Calls.mono (pq_insert 2 kd oa og ia ig key j y HP.out S.out) ?_
  rintro e w3 ⟨vf', li', fi', n', si', a, g, u, rfl, q1, q2, q3, h'⟩
  have S4 : Hid (Led B w0 w3 (m.es vf' lh fh li' fi' n' ((ne + 1)) (((Ar.kpush y.v.a (s.begin_.newItem key serial) y.v.b s.begin_.take.1).1.tick u)) ((sh.setAt j y ⟨y.v.a, (Ar.kpush y.v.a (s.begin_.newItem key serial) y.v.b s.begin_.take.1).2, y.v.c + 1⟩)) si' ((upd f s.begin_.take.1 (some (a, g)))) ((upd F (a, g) (some (key, serial)))) items ((serial + 1)) ++ blkE (w.heap.size) 41 #[.int .i64 2, .int .i64 kd, .int .i64 (j : Int), .int .i64 y.gen, .int .i64 oa, .int .i64 og, .int .i64 ia, .int .i64 ig, .int .i64 key] :: blkE (w.heap.size + 1) 38 #[.int .i64 0, .int .i64 0, .int .i64 0, .int .i64 0, .int .i64 0, .int .i64 0, .int .i64 0, .int .i64 0] :: C)) := Lib.hid h'
  have zb : Blk w3 (w.heap.size + 1) 38 #[.int .i64 0, .int .i64 0, .int .i64 0, .int .i64 0, .int .i64 0, .int .i64 0, .int .i64 0, .int .i64 0] := S4.out.at_ 11 rfl
  have lzb := zb.lt
  obtain ⟨z0, z1, z2, z3, z4, z5, z6, z7, fz0, fz1, fz2, fz3, fz4, fz5, fz6, fz7⟩ := zb.c8
  clear zb
  go_wp2_with fail
  exact bodyPost_ret (v := .agg #[.int .i64 0, .int .i64 0, .int .i64 0, .int .i64 a, .int .i64 g, .int .i64 key, .int .i64 serial, .int .i64 0]) (by simp [results, Tryz.results11, go_sem, lzb, z0, z1, z2, z3, z4, z5, z6, z7]) rfl (hR.out _ _ ⟨vf', li', fi', n', si', a, g, u, rfl, q1, q2, q3, led_cut (A := m.es vf' lh fh li' fi' n' ((ne + 1)) (((Ar.kpush y.v.a (s.begin_.newItem key serial) y.v.b s.begin_.take.1).1.tick u)) ((sh.setAt j y ⟨y.v.a, (Ar.kpush y.v.a (s.begin_.newItem key serial) y.v.b s.begin_.take.1).2, y.v.c + 1⟩)) si' ((upd f s.begin_.take.1 (some (a, g)))) ((upd F (a, g) (some (key, serial)))) items ((serial + 1))) (M := [_, _]) (C := C) (led_store8 (A := m.es vf' lh fh li' fi' n' ((ne + 1)) (((Ar.kpush y.v.a (s.begin_.newItem key serial) y.v.b s.begin_.take.1).1.tick u)) ((sh.setAt j y ⟨y.v.a, (Ar.kpush y.v.a (s.begin_.newItem key serial) y.v.b s.begin_.take.1).2, y.v.c + 1⟩)) si' ((upd f s.begin_.take.1 (some (a, g)))) ((upd F (a, g) (some (key, serial)))) items ((serial + 1)) ++ [_]) S4.out)⟩)
set_option maxHeartbeats 8000000 in
theorem do_findmin (kd oa og ia ig key : Int) (j : Nat) (y : Pl V3) (hy : sh.l[j]? = some y) (ht : y.taken = true) (hg : 1 ≤ y.gen) (hk : 1 ≤ y.v.a ∧ y.v.a ≤ 5) (hnn : y.v.c ≠ 0) (hn : s.n ≤ 65536) (a g e1 e2 : Int) (hc : in64 (Ar.kmin y.v.a s.begin_ y.v.b)) (hf : f (Ar.kmin y.v.a s.begin_ y.v.b) = some (a, g)) (hag : in64 a ∧ in64 g) (hF : F (a, g) = some (e1, e2)) (hb : s.begun ≤ s.steps) (h : Led B w0 w (m.es vf lh fh li fi n ne s sh si f F items serial ++ C)) :
    Calls Tryz.prog 11 #[.pointer (some ⟨m.q, 0, none⟩), .agg #[.int .i64 3, .int .i64 kd, .int .i64 (j : Int), .int .i64 y.gen, .int .i64 oa, .int .i64 og, .int .i64 ia, .int .i64 ig, .int .i64 key]] w fun e w' => ∃ u : Nat, e = .returned (.agg #[.int .i64 0, .int .i64 0, .int .i64 0, .int .i64 a, .int .i64 g, .int .i64 e1, .int .i64 e2, .int .i64 0]) ∧ Led B w0 w' (m.es vf lh fh li fi n ne ((s.begin_.tick u)) sh si f F items serial ++ C) := by
  have HY := Lib.hid hy
  have HT := Lib.hid ht
  have HG := Lib.hid hg
  clear hy ht hg
  have HC := Lib.hid hc
  have HF := Lib.hid hf
  have HFF := Lib.hid hF
  clear hc hf hF
  have H := Lib.hid h
  have HB := Lib.hid hb
  clear h hb
  refine callsR fun R hR => ?_
  go_enter Tryz.func11, Tryz.ntmps11
  have H2 : Hid (Led B w0 ((w.alloc (.cells #[.int .i64 3, .int .i64 kd, .int .i64 (j : Int), .int .i64 y.gen, .int .i64 oa, .int .i64 og, .int .i64 ia, .int .i64 ig, .int .i64 key] 41)).alloc (.cells #[.int .i64 0, .int .i64 0, .int .i64 0, .int .i64 0, .int .i64 0, .int .i64 0, .int .i64 0, .int .i64 0] 38)) (m.es vf lh fh li fi n ne s sh si f F items serial ++ blkE (w.heap.size) 41 #[.int .i64 3, .int .i64 kd, .int .i64 (j : Int), .int .i64 y.gen, .int .i64 oa, .int .i64 og, .int .i64 ia, .int .i64 ig, .int .i64 key] :: blkE (w.heap.size + 1) 38 #[.int .i64 0, .int .i64 0, .int .i64 0, .int .i64 0, .int .i64 0, .int .i64 0, .int .i64 0, .int .i64 0] :: C)) := Lib.hid (led_new2 H.out)
  clear H
  go_upto_region 1 with fail
  generalize (w.alloc (.cells #[.int .i64 3, .int .i64 kd, .int .i64 (j : Int), .int .i64 y.gen, .int .i64 oa, .int .i64 og, .int .i64 ia, .int .i64 ig, .int .i64 key] 41)).alloc (.cells #[.int .i64 0, .int .i64 0, .int .i64 0, .int .i64 0, .int .i64 0, .int .i64 0, .int .i64 0, .int .i64 0] 38) = w1 at H2 ⊢
  have c1 := QM.q1 H2.out
  go_wp2_with fail
  refine Calls.mono (ar_meter m.X s (QM.toA H2.out)) ?_
  rintro e w' ⟨rfl, rfl⟩
  go_wp2_with fail
  refine Calls.mono (meter_begin m.X s HB.out (QM.toA H2.out)) ?_
  rintro e w2 ⟨rfl, h'⟩
  have S : Hid (Led B w0 w2 (m.es vf lh fh li fi n ne s.begin_ sh si f F items serial ++ blkE (w.heap.size) 41 #[.int .i64 3, .int .i64 kd, .int .i64 (j : Int), .int .i64 y.gen, .int .i64 oa, .int .i64 og, .int .i64 ia, .int .i64 ig, .int .i64 key] :: blkE (w.heap.size + 1) 38 #[.int .i64 0, .int .i64 0, .int .i64 0, .int .i64 0, .int .i64 0, .int .i64 0, .int .i64 0, .int .i64 0] :: C)) := Lib.hid (QM.ofA h')
  clear h' c1 H2
  have cb : Blk w2 w.heap.size 41 #[.int .i64 3, .int .i64 kd, .int .i64 (j : Int), .int .i64 y.gen, .int .i64 oa, .int .i64 og, .int .i64 ia, .int .i64 ig, .int .i64 key] := S.out.at_ 10 rfl
  have lcb := cb.lt
  obtain ⟨c0, c1, c2, c3, c4, c5, c6, c7, c8, fc0, fc1, fc2, fc3, fc4, fc5, fc6, fc7, fc8⟩ := cb.c9
  clear cb
  go_upto_region 9 with fail
  clear c0 fc0 c1 fc1 c2 fc2 c3 fc3 c4 fc4 c5 fc5 c6 fc6 c7 fc7 c8 fc8 lcb
  have cb : Blk w2 w.heap.size 41 #[.int .i64 3, .int .i64 kd, .int .i64 (j : Int), .int .i64 y.gen, .int .i64 oa, .int .i64 og, .int .i64 ia, .int .i64 ig, .int .i64 key] := S.out.at_ 10 rfl
  have lcb := cb.lt
  obtain ⟨c0, c1, c2, c3, c4, c5, c6, c7, c8, fc0, fc1, fc2, fc3, fc4, fc5, fc6, fc7, fc8⟩ := cb.c9
  clear cb
  go_wp2_with fail
  refine Calls.mono (pq_findmin (s := s.begin_) j y HY.out HT.out HG.out hk hnn hn a g e1 e2 HC.out HF.out hag HFF.out S.out) ?_
  rintro e w3 ⟨u, rfl, h'⟩
  have S4 : Hid (Led B w0 w3 (m.es vf lh fh li fi n ne ((s.begin_.tick u)) sh si f F items serial ++ blkE (w.heap.size) 41 #[.int .i64 3, .int .i64 kd, .int .i64 (j : Int), .int .i64 y.gen, .int .i64 oa, .int .i64 og, .int .i64 ia, .int .i64 ig, .int .i64 key] :: blkE (w.heap.size + 1) 38 #[.int .i64 0, .int .i64 0, .int .i64 0, .int .i64 0, .int .i64 0, .int .i64 0, .int .i64 0, .int .i64 0] :: C)) := Lib.hid h'
  have zb : Blk w3 (w.heap.size + 1) 38 #[.int .i64 0, .int .i64 0, .int .i64 0, .int .i64 0, .int .i64 0, .int .i64 0, .int .i64 0, .int .i64 0] := S4.out.at_ 11 rfl
  have lzb := zb.lt
  obtain ⟨z0, z1, z2, z3, z4, z5, z6, z7, fz0, fz1, fz2, fz3, fz4, fz5, fz6, fz7⟩ := zb.c8
  clear zb
  go_wp2_with fail
  exact bodyPost_ret (v := .agg #[.int .i64 0, .int .i64 0, .int .i64 0, .int .i64 a, .int .i64 g, .int .i64 e1, .int .i64 e2, .int .i64 0]) (by simp [results, Tryz.results11, go_sem, lzb, z0, z1, z2, z3, z4, z5, z6, z7]) rfl (hR.out _ _ ⟨u, rfl, led_cut (A := m.es vf lh fh li fi n ne ((s.begin_.tick u)) sh si f F items serial) (M := [_, _]) (C := C) (led_store8 (A := m.es vf lh fh li fi n ne ((s.begin_.tick u)) sh si f F items serial ++ [_]) S4.out)⟩)
set_option maxHeartbeats 8000000 in
theorem do_popmin (kd oa og ia ig key : Int) (j : Nat) (y : Pl V3) (i : Nat) (x : Pl V3) (e1 e2 : Int) (hp : PopQ sh si f F s.begin_ j y i x e1 e2) (hb : s.begun ≤ s.steps) (h : Led B w0 w (m.es vf lh fh li fi n ne s sh si f F items serial ++ C)) :
    Calls Tryz.prog 11 #[.pointer (some ⟨m.q, 0, none⟩), .agg #[.int .i64 4, .int .i64 kd, .int .i64 (j : Int), .int .i64 y.gen, .int .i64 oa, .int .i64 og, .int .i64 ia, .int .i64 ig, .int .i64 key]] w fun e w' => ∃ vf' fi' u, e = .returned (.agg #[.int .i64 0, .int .i64 0, .int .i64 0, .int .i64 (i : Int), .int .i64 x.gen, .int .i64 e1, .int .i64 e2, .int .i64 0]) ∧ u ≤ Ar.kpopB y.v.a s.begin_ y.v.b + 1 ∧ Led B w0 w' (m.es vf' lh fh li fi' n ne ((((Ar.kpop y.v.a s.begin_ y.v.b).1.give x.v.a).2.tick u)) ((sh.setAt j y ⟨y.v.a, (Ar.kpop y.v.a s.begin_ y.v.b).2.1, y.v.c - 1⟩)) ((si.giveAt i x ⟨0, 0, 0⟩)) ((upd f x.v.a none)) ((upd F ((i : Int), x.gen) none)) items serial ++ C) := by
  have HP := Lib.hid hp
  clear hp
  have H := Lib.hid h
  have HB := Lib.hid hb
  clear h hb
  refine callsR fun R hR => ?_
  go_enter Tryz.func11, Tryz.ntmps11
  have H2 : Hid (Led B w0 ((w.alloc (.cells #[.int .i64 4, .int .i64 kd, .int .i64 (j : Int), .int .i64 y.gen, .int .i64 oa, .int .i64 og, .int .i64 ia, .int .i64 ig, .int .i64 key] 41)).alloc (.cells #[.int .i64 0, .int .i64 0, .int .i64 0, .int .i64 0, .int .i64 0, .int .i64 0, .int .i64 0, .int .i64 0] 38)) (m.es vf lh fh li fi n ne s sh si f F items serial ++ blkE (w.heap.size) 41 #[.int .i64 4, .int .i64 kd, .int .i64 (j : Int), .int .i64 y.gen, .int .i64 oa, .int .i64 og, .int .i64 ia, .int .i64 ig, .int .i64 key] :: blkE (w.heap.size + 1) 38 #[.int .i64 0, .int .i64 0, .int .i64 0, .int .i64 0, .int .i64 0, .int .i64 0, .int .i64 0, .int .i64 0] :: C)) := Lib.hid (led_new2 H.out)
  clear H
  go_upto_region 1 with fail
  generalize (w.alloc (.cells #[.int .i64 4, .int .i64 kd, .int .i64 (j : Int), .int .i64 y.gen, .int .i64 oa, .int .i64 og, .int .i64 ia, .int .i64 ig, .int .i64 key] 41)).alloc (.cells #[.int .i64 0, .int .i64 0, .int .i64 0, .int .i64 0, .int .i64 0, .int .i64 0, .int .i64 0, .int .i64 0] 38) = w1 at H2 ⊢
  have c1 := QM.q1 H2.out
  go_wp2_with fail
  refine Calls.mono (ar_meter m.X s (QM.toA H2.out)) ?_
  rintro e w' ⟨rfl, rfl⟩
  go_wp2_with fail
  refine Calls.mono (meter_begin m.X s HB.out (QM.toA H2.out)) ?_
  rintro e w2 ⟨rfl, h'⟩
  have S : Hid (Led B w0 w2 (m.es vf lh fh li fi n ne s.begin_ sh si f F items serial ++ blkE (w.heap.size) 41 #[.int .i64 4, .int .i64 kd, .int .i64 (j : Int), .int .i64 y.gen, .int .i64 oa, .int .i64 og, .int .i64 ia, .int .i64 ig, .int .i64 key] :: blkE (w.heap.size + 1) 38 #[.int .i64 0, .int .i64 0, .int .i64 0, .int .i64 0, .int .i64 0, .int .i64 0, .int .i64 0, .int .i64 0] :: C)) := Lib.hid (QM.ofA h')
  clear h' c1 H2
  have cb : Blk w2 w.heap.size 41 #[.int .i64 4, .int .i64 kd, .int .i64 (j : Int), .int .i64 y.gen, .int .i64 oa, .int .i64 og, .int .i64 ia, .int .i64 ig, .int .i64 key] := S.out.at_ 10 rfl
  have lcb := cb.lt
  obtain ⟨c0, c1, c2, c3, c4, c5, c6, c7, c8, fc0, fc1, fc2, fc3, fc4, fc5, fc6, fc7, fc8⟩ := cb.c9
  clear cb
  go_upto_region 11 with fail
  clear c0 fc0 c1 fc1 c2 fc2 c3 fc3 c4 fc4 c5 fc5 c6 fc6 c7 fc7 c8 fc8 lcb
  have cb : Blk w2 w.heap.size 41 #[.int .i64 4, .int .i64 kd, .int .i64 (j : Int), .int .i64 y.gen, .int .i64 oa, .int .i64 og, .int .i64 ia, .int .i64 ig, .int .i64 key] := S.out.at_ 10 rfl
  have lcb := cb.lt
  obtain ⟨c0, c1, c2, c3, c4, c5, c6, c7, c8, fc0, fc1, fc2, fc3, fc4, fc5, fc6, fc7, fc8⟩ := cb.c9
  clear cb
  go_wp2_with fail
  refine Calls.mono (pq_popmin j y i x e1 e2 HP.out S.out) ?_
  rintro e w3 ⟨vf', fi', u, rfl, q1, h'⟩
  have S4 : Hid (Led B w0 w3 (m.es vf' lh fh li fi' n ne ((((Ar.kpop y.v.a s.begin_ y.v.b).1.give x.v.a).2.tick u)) ((sh.setAt j y ⟨y.v.a, (Ar.kpop y.v.a s.begin_ y.v.b).2.1, y.v.c - 1⟩)) ((si.giveAt i x ⟨0, 0, 0⟩)) ((upd f x.v.a none)) ((upd F ((i : Int), x.gen) none)) items serial ++ blkE (w.heap.size) 41 #[.int .i64 4, .int .i64 kd, .int .i64 (j : Int), .int .i64 y.gen, .int .i64 oa, .int .i64 og, .int .i64 ia, .int .i64 ig, .int .i64 key] :: blkE (w.heap.size + 1) 38 #[.int .i64 0, .int .i64 0, .int .i64 0, .int .i64 0, .int .i64 0, .int .i64 0, .int .i64 0, .int .i64 0] :: C)) := Lib.hid h'
  have zb : Blk w3 (w.heap.size + 1) 38 #[.int .i64 0, .int .i64 0, .int .i64 0, .int .i64 0, .int .i64 0, .int .i64 0, .int .i64 0, .int .i64 0] := S4.out.at_ 11 rfl
  have lzb := zb.lt
  obtain ⟨z0, z1, z2, z3, z4, z5, z6, z7, fz0, fz1, fz2, fz3, fz4, fz5, fz6, fz7⟩ := zb.c8
  clear zb
  go_wp2_with fail
  exact bodyPost_ret (v := .agg #[.int .i64 0, .int .i64 0, .int .i64 0, .int .i64 (i : Int), .int .i64 x.gen, .int .i64 e1, .int .i64 e2, .int .i64 0]) (by simp [results, Tryz.results11, go_sem, lzb, z0, z1, z2, z3, z4, z5, z6, z7]) rfl (hR.out _ _ ⟨vf', fi', u, rfl, q1, led_cut (A := m.es vf' lh fh li fi' n ne ((((Ar.kpop y.v.a s.begin_ y.v.b).1.give x.v.a).2.tick u)) ((sh.setAt j y ⟨y.v.a, (Ar.kpop y.v.a s.begin_ y.v.b).2.1, y.v.c - 1⟩)) ((si.giveAt i x ⟨0, 0, 0⟩)) ((upd f x.v.a none)) ((upd F ((i : Int), x.gen) none)) items serial) (M := [_, _]) (C := C) (led_store8 (A := m.es vf' lh fh li fi' n ne ((((Ar.kpop y.v.a s.begin_ y.v.b).1.give x.v.a).2.tick u)) ((sh.setAt j y ⟨y.v.a, (Ar.kpop y.v.a s.begin_ y.v.b).2.1, y.v.c - 1⟩)) ((si.giveAt i x ⟨0, 0, 0⟩)) ((upd f x.v.a none)) ((upd F ((i : Int), x.gen) none)) items serial ++ [_]) S4.out)⟩)
end
end Go.Proofs.YtognmhgdegpdiaaGreat
end
