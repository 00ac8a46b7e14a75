import Derived.Test.YtognmhgdegpdiaaGreatPqHI
import Derived.Test.YtognmhgdegpdiaaGreatTopFx
/- Queues: an item is taken out. -/
namespace Go.Proofs.YtognmhgdegpdiaaGreat
open Go.RowKit
open Go.Maps (Keyed)
set_option linter.unusedVariables false
set_option linter.unusedSimpArgs false
set_option maxRecDepth 100000
theorem ownsMap_fit {H : Type} {P : Program} {k : TypeId} {R : Value → Option (DataW H × List MemPlace)} {w : World} {b n : Nat} {D : DataW H} (h : w.ownsMap P k R b n D) : w.ownsMap P k R b (Maps.size D) D := by
 obtain ⟨es, clock, hb, F, _, rfl⟩ := h
 exact ⟨es, clock, hb, F, by simp [Maps.size, length_sorted], rfl⟩
theorem MapIs.restore {κ : Type} [DecidableEq κ] {F : KeyFam κ} {w : World} {b n : Nat} {f : κ → Option (Int × Int)} {t E : TypeId} {x : κ} {y : Int × Int} (h : MapIs F w b n f) (ht : Tryz.prog.underlying t = some (.map F.k E)) (hn : n < maxLen) (hx : F.ok x) (hf : (f x).isSome = true) :
  ∃ w', (Instr.mapUpdate t (.map (some b)) (F.kv x) (refV y)).run Tryz.prog w = .ok () w' ∧ MapIs F w' b n (upd f x (some y)) ∧ Chg [b] w w' := by
 obtain ⟨D, h1, h2⟩ := h
 obtain ⟨w', hr, h3, h4⟩ := h1.store F.law ht hn (F.key x hx) (refR_mk y)
 have hs := Maps.size_put (k := F.lit x) (h1.tidy F.law) (refD y)
 rw [(h2 x hx).1, hf, if_pos rfl] at hs
 have h5 := (ownsMap_fit h3).mono (n' := n) (by rw [hs]; exact h1.size_le)
 refine ⟨w', hr, ⟨_, h5, fun x' hx' => ?_⟩, (Chg.refl [b] w).grown h4.grown (fun k hk => .inl (by simpa using hk.symm))⟩
 by_cases he : x' = x
 ·subst he
  rw [upd_same]
  exact ⟨Maps.has_put_same h1.isMap (F.law.key (F.key x' hx)) _, fun y' hy z => by injection hy with hy; subst hy; exact Maps.atKey_put_same h1.isMap (F.law.key (F.key x' hx)) _ _⟩
 ·have hne := F.ne hx' hx he
  rw [upd_other _ _ he, Maps.has_put_other hne]
  exact ⟨(h2 x' hx').1, fun y' hy z => by rw [Maps.atKey_put_other hne]; exact (h2 x' hx').2 y' hy z⟩
theorem GetR.dead {α : Type} {z : α} {s : PSt α} {a g e0 : Int} {v : α} (hd : s.look a g = 23) (h : GetR z s a g v e0) : e0 = 23 ∧ v = z := by
 rcases h with ⟨_, h2, h3⟩ | ⟨i, x, rfl, rfl, h3, h4, h5, _⟩
 ·exact ⟨h2.symm.trans hd, h3⟩
 ·exfalso
  have hlt := (List.getElem?_eq_some_iff.1 h3).1
  unfold PSt.look at hd
  rw [if_neg (by omega)] at hd
  simp only [Int.toNat_natCast, h3] at hd
  rw [if_neg (by omega), if_neg (by rw [h4]; simp)] at hd
  cases hd
section
variable {B : Nat} {w0 w : World} {C : List Ent} {m : QM} {vf lh fh li fi : Value} {n ne : Nat} {s : Ar} {sh si : PSt V3} {f : Int → Option (Int × Int)} {F : (Int × Int) → Option (Int × Int)} {items serial : Int}
set_option maxHeartbeats 4000000 in
theorem pq_rem_dead (a g : Int) (hd : si.look a g = 23) (h : Led B w0 w (m.es vf lh fh li fi n ne s sh si f F items serial ++ C)) :
  Calls Tryz.prog 34 #[.pointer (some ⟨m.q, 0, none⟩), .agg #[.int .i64 a, .int .i64 g]] w fun e w' => e = .returned (.agg #[.int .i64 23, .int .i64 0, .int .i64 0, .int .i64 0, .int .i64 0, .int .i64 0, .int .i64 0, .int .i64 0]) ∧ Led B w0 w' (m.es vf lh fh li fi n ne s sh si f F items serial ++ C) := by
 have H := Lib.hid h
 have HD := Lib.hid hd
 clear h hd
 refine callsR fun R hR => ?_
 go_enter Tryz.func34, Tryz.ntmps34
 have H2 : Hid (Led B w0 ((w.alloc (.cells #[.int .i64 a, .int .i64 g] 34)).alloc (.cells #[.int .i64 0, .int .i64 0, .int .i64 0, .int .i64 0, .int .i64 0, .int .i64 0, .int .i64 0, .int .i64 0] 38)) (m.es vf lh fh li fi n ne s sh si f F items serial ++ blkE (w.heap.size) 34 #[.int .i64 a, .int .i64 g] :: blkE (w.heap.size + 1) 38 #[.int .i64 0, .int .i64 0, .int .i64 0, .int .i64 0, .int .i64 0, .int .i64 0, .int .i64 0, .int .i64 0] :: C)) := Lib.hid (led_new2 H.out)
 clear H
 go_upto_region 1 with fail
 obtain ⟨w1, hw1⟩ : ∃ w1, w1 = (w.alloc (.cells #[.int .i64 a, .int .i64 g] 34)).alloc (.cells #[.int .i64 0, .int .i64 0, .int .i64 0, .int .i64 0, .int .i64 0, .int .i64 0, .int .i64 0, .int .i64 0] 38) := ⟨_, rfl⟩
 rw [← hw1] at H2 ⊢
 clear hw1
 go_cut [5, 6] (fun s5 s6 wx => s5 = .int .i64 0 ∧ s6 = .int .i64 23 ∧ Hid (Led B w0 wx (m.es vf lh fh li fi n ne s sh si f F items serial ++ blkE (w.heap.size) 34 #[.int .i64 a, .int .i64 g] :: blkE (w.heap.size + 1) 38 #[.int .i64 0, .int .i64 0, .int .i64 0, .int .i64 0, .int .i64 0, .int .i64 0, .int .i64 0, .int .i64 0] :: C)))
 case first =>
  have HS : Hid (∀ W, Chg [] w1 W → W.cell? ⟨m.q, 2, none⟩ = some (.pointer (some ⟨m.t, 0, none⟩)) ∧ W.cell? ⟨w.heap.size, 0, none⟩ = some (.int .i64 a) ∧ W.cell? ⟨w.heap.size, 1, none⟩ = some (.int .i64 g)) := Lib.hid (fun W hW => have hl := H2.out.later (hW.below (by simp) (Nat.le_refl _)); ⟨QM.q2 hl, (show Blk W w.heap.size 34 #[.int .i64 a, .int .i64 g] from hl.at_ 10 rfl).cell 0, (show Blk W w.heap.size 34 #[.int .i64 a, .int .i64 g] from hl.at_ 10 rfl).cell 1⟩)
  go_region_held3 (fun wx => wx.cell? ⟨m.q, 2, none⟩ = some (.pointer (some ⟨m.t, 0, none⟩)) ∧ wx.cell? ⟨w.heap.size, 0, none⟩ = some (.int .i64 a) ∧ wx.cell? ⟨w.heap.size, 1, none⟩ = some (.int .i64 g)) (first | (refine HS.out _ ?_; (repeat' first | with_reducible exact Chg.refl _ _ | with_reducible refine Chg.drew ?_ | with_reducible refine Chg.drewN ?_ _ | with_reducible refine Chg.alloc ?_ _ | with_reducible refine Chg.setCell ?_ ?_ _ | (left; simp; done) | (right; exact Nat.le_refl _) | (right; dsimp only; omega)); done) | (refine HS2.out _ ?_; (repeat' first | with_reducible exact Chg.refl _ _ | with_reducible refine Chg.drew ?_ | with_reducible refine Chg.drewN ?_ _ | with_reducible refine Chg.alloc ?_ _ | with_reducible refine Chg.setCell ?_ ?_ _ | (left; simp; done) | (right; exact Nat.le_refl _) | (right; dsimp only; omega)); done)) (first | (go_at_call 66; refine Calls.mono (slots_cell _ _ _ _ _ _ _ _ _ _ _ _ _ _ _ _ _ _ (QM.toS H2.out.drew)) ?_; rintro e w2 ⟨v, e0, rfl, q1, q2⟩; obtain ⟨rfl, rfl⟩ := q1.dead HD.out; have S4 : Hid (Led B w0 w2 (m.es vf lh fh li fi n ne s sh si f F items serial ++ blkE (w.heap.size) 34 #[.int .i64 a, .int .i64 g] :: blkE (w.heap.size + 1) 38 #[.int .i64 0, .int .i64 0, .int .i64 0, .int .i64 0, .int .i64 0, .int .i64 0, .int .i64 0, .int .i64 0] :: C)) := Lib.hid (QM.ofS q2); have HS2 : Hid (∀ W, Chg [] w2 W → W.cell? ⟨m.q, 2, none⟩ = some (.pointer (some ⟨m.t, 0, none⟩)) ∧ W.cell? ⟨w.heap.size, 0, none⟩ = some (.int .i64 a) ∧ W.cell? ⟨w.heap.size, 1, none⟩ = some (.int .i64 g)) := Lib.hid (fun W hW => have hl := S4.out.later (hW.below (by simp) (Nat.le_refl _)); ⟨QM.q2 hl, (show Blk W w.heap.size 34 #[.int .i64 a, .int .i64 g] from hl.at_ 10 rfl).cell 0, (show Blk W w.heap.size 34 #[.int .i64 a, .int .i64 g] from hl.at_ 10 rfl).cell 1⟩); clear q1 q2))
  go_wp2_with fail
  go_meet
  case rel => exact ⟨rfl, rfl, S4⟩
 case rest =>
  clear H2
  obtain ⟨rfl, rfl, S⟩ := hcut
  go_wp2_with fail
  refine Calls.mono (pq_refused _ _) ?_
  rintro e w9 ⟨rfl, q9⟩
  have S9 : Hid (Led B w0 w9 (m.es vf lh fh li fi n ne s sh si f F items serial ++ blkE (w.heap.size) 34 #[.int .i64 a, .int .i64 g] :: blkE (w.heap.size + 1) 38 #[.int .i64 0, .int .i64 0, .int .i64 0, .int .i64 0, .int .i64 0, .int .i64 0, .int .i64 0, .int .i64 0] :: C)) := Lib.hid (S.out.later q9)
  clear q9
  have zb : Blk w9 (w.heap.size + 1) 38 #[.int .i64 0, .int .i64 0, .int .i64 0, .int .i64 0, .int .i64 0, .int .i64 0, .int .i64 0, .int .i64 0] := S9.out.at_ 11 rfl
  have lzb := zb.lt
  obtain ⟨z0, z1, z2, z3, z4, z5, z6, z7, fz0, fz1, fz2, fz3, fz4, fz5, fz6, fz7⟩ := zb.c8
  clear zb
  go_wp2_with fail
  exact bodyPost_ret (v := .agg #[.int .i64 23, .int .i64 0, .int .i64 0, .int .i64 0, .int .i64 0, .int .i64 0, .int .i64 0, .int .i64 0]) (by simp [results, Tryz.results34, go_sem, lzb, z0, z1, z2, z3, z4, z5, z6, z7]) rfl (hR.out _ _ ⟨rfl, led_cut (A := m.es vf lh fh li fi n ne s sh si f F items serial) (M := [_, _]) (C := C) (led_store8 (A := m.es vf lh fh li fi n ne s sh si f F items serial ++ [_]) S9.out)⟩)
structure RemQ (sh si : PSt V3) (f : Int → Option (Int × Int)) (F : (Int × Int) → Option (Int × Int)) (s : Ar) (j : Nat) (y : Pl V3) (i : Nat) (x : Pl V3) (e1 e2 : Int) : Prop where
 hy : sh.l[j]? = some y
 ht : y.taken = true
 hg : 1 ≤ y.gen
 hk : 1 ≤ y.v.a ∧ y.v.a ≤ 5
 nn : 1 ≤ y.v.c ∧ y.v.c ≤ 100000
 ok : (Ar.kcut y.v.a s y.v.b x.v.a).1.Ok
 pp : CutPre y.v.a s y.v.b x.v.a
 hx : si.l[i]? = some x
 xt : x.taken = true
 xg : 1 ≤ x.gen
 xb : x.v.b = j
 xc : x.v.c = y.gen
 co : CellsOk si
 ik : in64 (i : Int) ∧ in64 x.gen
 fe : F ((i : Int), x.gen) = some (e1, e2)
set_option maxHeartbeats 8000000 in
theorem pq_remove (j : Nat) (y : Pl V3) (i : Nat) (x : Pl V3) (e1 e2 : Int) (hp : RemQ sh si f F s j y i x e1 e2) (h : Led B w0 w (m.es vf lh fh li fi n ne s sh si f F items serial ++ C)) :
  Calls Tryz.prog 34 #[.pointer (some ⟨m.q, 0, none⟩), .agg #[.int .i64 (i : Int), .int .i64 x.gen]] w fun e w' => ∃ vf' fi' u, e = .returned (.agg #[.int .i64 0, .int .i64 0, .int .i64 0, .int .i64 0, .int .i64 0, .int .i64 e1, .int .i64 e2, .int .i64 0]) ∧ Led B w0 w' (m.es vf' lh fh li fi' n ne ((((Ar.kcut y.v.a s y.v.b x.v.a).1.give x.v.a).2.tick u)) ((sh.setAt j y ⟨y.v.a, (Ar.kcut y.v.a s y.v.b x.v.a).2, y.v.c - 1⟩)) ((si.giveAt i x ⟨0, 0, 0⟩)) ((upd f x.v.a none)) ((upd F ((i : Int), x.gen) none)) items serial ++ C) := by
 have H := Lib.hid h
 have HP := Lib.hid hp
 have hw : IntKind.i64.wrap (y.v.c - 1) = y.v.c - 1 := by have := hp.nn; rw [IntKind.wrap_i64]; omega
 clear h hp
 refine callsR fun R hR => ?_
 go_enter Tryz.func34, Tryz.ntmps34
 have H2 : Hid (Led B w0 ((w.alloc (.cells #[.int .i64 (i : Int), .int .i64 x.gen] 34)).alloc (.cells #[.int .i64 0, .int .i64 0, .int .i64 0, .int .i64 0, .int .i64 0, .int .i64 0, .int .i64 0, .int .i64 0] 38)) (m.es vf lh fh li fi n ne s sh si f F items serial ++ blkE (w.heap.size) 34 #[.int .i64 (i : Int), .int .i64 x.gen] :: blkE (w.heap.size + 1) 38 #[.int .i64 0, .int .i64 0, .int .i64 0, .int .i64 0, .int .i64 0, .int .i64 0, .int .i64 0, .int .i64 0] :: C)) := Lib.hid (led_new2 H.out)
 clear H
 go_upto_region 1 with fail
 obtain ⟨w1, hw1⟩ : ∃ w1, w1 = (w.alloc (.cells #[.int .i64 (i : Int), .int .i64 x.gen] 34)).alloc (.cells #[.int .i64 0, .int .i64 0, .int .i64 0, .int .i64 0, .int .i64 0, .int .i64 0, .int .i64 0, .int .i64 0] 38) := ⟨_, rfl⟩
 rw [← hw1] at H2 ⊢
 clear hw1
 go_cut [5, 6] (fun s5 s6 wx => s5 = .int .i64 x.v.a ∧ s6 = .int .i64 0 ∧ Hid (Led B w0 wx (m.es vf lh fh li fi n ne s sh si f F items serial ++ blkE (w.heap.size) 34 #[.int .i64 (i : Int), .int .i64 x.gen] :: blkE (w.heap.size + 1) 38 #[.int .i64 0, .int .i64 0, .int .i64 0, .int .i64 0, .int .i64 0, .int .i64 0, .int .i64 0, .int .i64 0] :: C)))
 case first =>
  have HS : Hid (∀ W, Chg [] w1 W → W.cell? ⟨m.q, 2, none⟩ = some (.pointer (some ⟨m.t, 0, none⟩)) ∧ W.cell? ⟨w.heap.size, 0, none⟩ = some (.int .i64 (i : Int)) ∧ W.cell? ⟨w.heap.size, 1, none⟩ = some (.int .i64 x.gen)) := Lib.hid (fun W hW => have hl := H2.out.later (hW.below (by simp) (Nat.le_refl _)); ⟨QM.q2 hl, (show Blk W w.heap.size 34 #[.int .i64 (i : Int), .int .i64 x.gen] from hl.at_ 10 rfl).cell 0, (show Blk W w.heap.size 34 #[.int .i64 (i : Int), .int .i64 x.gen] from hl.at_ 10 rfl).cell 1⟩)
  go_region_held3 (fun wx => wx.cell? ⟨m.q, 2, none⟩ = some (.pointer (some ⟨m.t, 0, none⟩)) ∧ wx.cell? ⟨w.heap.size, 0, none⟩ = some (.int .i64 (i : Int)) ∧ wx.cell? ⟨w.heap.size, 1, none⟩ = some (.int .i64 x.gen)) (first | (refine HS.out _ ?_; (repeat' first | with_reducible exact Chg.refl _ _ | with_reducible refine Chg.drew ?_ | with_reducible refine Chg.drewN ?_ _ | with_reducible refine Chg.alloc ?_ _ | with_reducible refine Chg.setCell ?_ ?_ _ | (left; simp; done) | (right; exact Nat.le_refl _) | (right; dsimp only; omega)); done) | (refine HS2.out _ ?_; (repeat' first | with_reducible exact Chg.refl _ _ | with_reducible refine Chg.drew ?_ | with_reducible refine Chg.drewN ?_ _ | with_reducible refine Chg.alloc ?_ _ | with_reducible refine Chg.setCell ?_ ?_ _ | (left; simp; done) | (right; exact Nat.le_refl _) | (right; dsimp only; omega)); done)) (first | (go_at_call 66; refine Calls.mono (slots_cell _ _ _ _ _ _ _ _ _ _ _ _ _ _ _ _ _ _ (QM.toS H2.out.drew)) ?_; rintro e w2 ⟨v, e0, rfl, q1, q2⟩; obtain ⟨rfl, rfl⟩ := q1.ok HP.out.hx HP.out.xt HP.out.xg; have S4 : Hid (Led B w0 w2 (m.es vf lh fh li fi n ne s sh si f F items serial ++ blkE (w.heap.size) 34 #[.int .i64 (i : Int), .int .i64 x.gen] :: blkE (w.heap.size + 1) 38 #[.int .i64 0, .int .i64 0, .int .i64 0, .int .i64 0, .int .i64 0, .int .i64 0, .int .i64 0, .int .i64 0] :: C)) := Lib.hid (QM.ofS q2); have HS2 : Hid (∀ W, Chg [] w2 W → W.cell? ⟨m.q, 2, none⟩ = some (.pointer (some ⟨m.t, 0, none⟩)) ∧ W.cell? ⟨w.heap.size, 0, none⟩ = some (.int .i64 (i : Int)) ∧ W.cell? ⟨w.heap.size, 1, none⟩ = some (.int .i64 x.gen)) := Lib.hid (fun W hW => have hl := S4.out.later (hW.below (by simp) (Nat.le_refl _)); ⟨QM.q2 hl, (show Blk W w.heap.size 34 #[.int .i64 (i : Int), .int .i64 x.gen] from hl.at_ 10 rfl).cell 0, (show Blk W w.heap.size 34 #[.int .i64 (i : Int), .int .i64 x.gen] from hl.at_ 10 rfl).cell 1⟩); clear q1 q2))
  go_wp2_with fail
  go_meet
  case rel => exact ⟨rfl, rfl, S4⟩
 case rest =>
  clear H2
  obtain ⟨rfl, rfl, S⟩ := hcut
  go_upto_region 4 with fail
  go_cut [7] (fun s7 wx => ∃ rb : Nat, s7 = .pointer (some ⟨rb, 0, none⟩) ∧ Hid (Led B w0 wx (m.es vf lh fh li fi n ne s sh si f F items serial ++ blkE (rb) 34 #[.int .i64 (j : Int), .int .i64 y.gen] :: blkE (w.heap.size) 34 #[.int .i64 (i : Int), .int .i64 x.gen] :: blkE (w.heap.size + 1) 38 #[.int .i64 0, .int .i64 0, .int .i64 0, .int .i64 0, .int .i64 0, .int .i64 0, .int .i64 0, .int .i64 0] :: C)))
  case first =>
   have H3 : Hid (Led B w0 (wc.alloc (.cells #[.int .i64 0, .int .i64 0] 34)) (m.es vf lh fh li fi n ne s sh si f F items serial ++ blkE (wc.heap.size) 34 #[.int .i64 0, .int .i64 0] :: blkE (w.heap.size) 34 #[.int .i64 (i : Int), .int .i64 x.gen] :: blkE (w.heap.size + 1) 38 #[.int .i64 0, .int .i64 0, .int .i64 0, .int .i64 0, .int .i64 0, .int .i64 0, .int .i64 0, .int .i64 0] :: C)) := Lib.hid (led_new S.out)
   have ltq := QM.lt S.out
   have ltc : w.heap.size < wc.heap.size := (show Blk wc w.heap.size 34 #[.int .i64 (i : Int), .int .i64 x.gen] from S.out.at_ 10 rfl).lt
   have HS : Hid (∀ W, Chg [] wc W → W.cell? ⟨m.q, 2, none⟩ = some (.pointer (some ⟨m.t, 0, none⟩)) ∧ W.cell? ⟨w.heap.size, 0, none⟩ = some (.int .i64 (i : Int)) ∧ W.cell? ⟨w.heap.size, 1, none⟩ = some (.int .i64 x.gen)) := Lib.hid (fun W hW => have hl := S.out.later (hW.below (by simp) (Nat.le_refl _)); ⟨QM.q2 hl, (show Blk W w.heap.size 34 #[.int .i64 (i : Int), .int .i64 x.gen] from hl.at_ 10 rfl).cell 0, (show Blk W w.heap.size 34 #[.int .i64 (i : Int), .int .i64 x.gen] from hl.at_ 10 rfl).cell 1⟩)
   go_region_held3 (fun wx => wx.cell? ⟨m.q, 2, none⟩ = some (.pointer (some ⟨m.t, 0, none⟩)) ∧ wx.cell? ⟨w.heap.size, 0, none⟩ = some (.int .i64 (i : Int)) ∧ wx.cell? ⟨w.heap.size, 1, none⟩ = some (.int .i64 x.gen)) (first | (refine HS.out _ ?_; (repeat' first | with_reducible exact Chg.refl _ _ | with_reducible refine Chg.drew ?_ | with_reducible refine Chg.drewN ?_ _ | with_reducible refine Chg.alloc ?_ _ | with_reducible refine Chg.setCell ?_ ?_ _ | (left; simp; done) | (right; exact Nat.le_refl _) | (right; dsimp only; omega)); done) | (refine HS2.out _ ?_; (repeat' first | with_reducible exact Chg.refl _ _ | with_reducible refine Chg.drew ?_ | with_reducible refine Chg.drewN ?_ _ | with_reducible refine Chg.alloc ?_ _ | with_reducible refine Chg.setCell ?_ ?_ _ | (left; simp; done) | (right; exact Nat.le_refl _) | (right; dsimp only; omega)); done)) (first | (go_at_call 67; (with_reducible refine Calls.mono (slots_of _ _ _ _ _ _ _ _ _ _ _ _ _ _ _ _ _ _ (QM.toS S.out.drew)) ?_); rintro e w4 ⟨v, e0, rfl, q1, q2⟩; obtain ⟨rfl, rfl⟩ := q1.ok HP.out.hx HP.out.xt HP.out.xg; rw [HP.out.xb, HP.out.xc]; have S4 := Lib.hid (QM.ofS (m := m) q2); have HS2 : Hid (∀ W, Chg [wc.heap.size] w4 W → W.cell? ⟨m.q, 2, none⟩ = some (.pointer (some ⟨m.t, 0, none⟩)) ∧ W.cell? ⟨w.heap.size, 0, none⟩ = some (.int .i64 (i : Int)) ∧ W.cell? ⟨w.heap.size, 1, none⟩ = some (.int .i64 x.gen)) := Lib.hid (fun W hW => ⟨(hW.cell (p := ⟨m.q, 2, none⟩) (QM.lt S4.out) (by simp; omega)).trans (by exact QM.q2 S4.out), (hW.cell (p := ⟨w.heap.size, 0, none⟩) ((show Blk w4 w.heap.size 34 #[.int .i64 (i : Int), .int .i64 x.gen] from S4.out.at_ 10 rfl).lt) (by simp; omega)).trans (by exact (show Blk w4 w.heap.size 34 #[.int .i64 (i : Int), .int .i64 x.gen] from S4.out.at_ 10 rfl).cell 0), (hW.cell (p := ⟨w.heap.size, 1, none⟩) ((show Blk w4 w.heap.size 34 #[.int .i64 (i : Int), .int .i64 x.gen] from S4.out.at_ 10 rfl).lt) (by simp; omega)).trans (by exact (show Blk w4 w.heap.size 34 #[.int .i64 (i : Int), .int .i64 x.gen] from S4.out.at_ 10 rfl).cell 1)⟩); clear q1 q2) | (go_at_call 67; (with_reducible refine Calls.mono (slots_of _ _ _ _ _ _ _ _ _ _ _ _ _ _ _ _ _ _ (QM.toS H3.out.drew)) ?_); rintro e w4 ⟨v, e0, rfl, q1, q2⟩; obtain ⟨rfl, rfl⟩ := q1.ok HP.out.hx HP.out.xt HP.out.xg; rw [HP.out.xb, HP.out.xc]; have S4 := Lib.hid (QM.ofS (m := m) q2); have HS2 : Hid (∀ W, Chg [wc.heap.size] w4 W → W.cell? ⟨m.q, 2, none⟩ = some (.pointer (some ⟨m.t, 0, none⟩)) ∧ W.cell? ⟨w.heap.size, 0, none⟩ = some (.int .i64 (i : Int)) ∧ W.cell? ⟨w.heap.size, 1, none⟩ = some (.int .i64 x.gen)) := Lib.hid (fun W hW => ⟨(hW.cell (p := ⟨m.q, 2, none⟩) (QM.lt S4.out) (by simp; omega)).trans (by exact QM.q2 S4.out), (hW.cell (p := ⟨w.heap.size, 0, none⟩) ((show Blk w4 w.heap.size 34 #[.int .i64 (i : Int), .int .i64 x.gen] from S4.out.at_ 11 rfl).lt) (by simp; omega)).trans (by exact (show Blk w4 w.heap.size 34 #[.int .i64 (i : Int), .int .i64 x.gen] from S4.out.at_ 11 rfl).cell 0), (hW.cell (p := ⟨w.heap.size, 1, none⟩) ((show Blk w4 w.heap.size 34 #[.int .i64 (i : Int), .int .i64 x.gen] from S4.out.at_ 11 rfl).lt) (by simp; omega)).trans (by exact (show Blk w4 w.heap.size 34 #[.int .i64 (i : Int), .int .i64 x.gen] from S4.out.at_ 11 rfl).cell 1)⟩); have zb : Blk w4 wc.heap.size 34 #[.int .i64 0, .int .i64 0] := S4.out.at_ 10 rfl; obtain ⟨z0, z1, fz0, fz1⟩ := zb.c2; have lzb := zb.lt; clear zb; clear q1 q2))
   all_goals go_wp2_with fail
   all_goals go_meet
   all_goals first | exact ⟨_, rfl, Lib.hid (led_new S4.out)⟩ | exact ⟨_, rfl, Lib.hid (led_store2 S4.out)⟩
  case rest =>
   clear S
   obtain ⟨rb, rfl, S⟩ := hcut
   go_upto_region 5 with fail
   go_cut [9, 10, 11] (fun s9 s10 s11 wx => s9 = .int .i64 y.v.a ∧ s10 = .int .i64 y.v.b ∧ s11 = .int .i64 y.v.c ∧ Hid (Led B w0 wx (m.es vf lh fh li fi n ne s sh si f F items serial ++ blkE (rb) 34 #[.int .i64 (j : Int), .int .i64 y.gen] :: blkE (w.heap.size) 34 #[.int .i64 (i : Int), .int .i64 x.gen] :: blkE (w.heap.size + 1) 38 #[.int .i64 0, .int .i64 0, .int .i64 0, .int .i64 0, .int .i64 0, .int .i64 0, .int .i64 0, .int .i64 0] :: C)))
   case first =>
    have HS : Hid (∀ W, Chg [] wc W → W.cell? ⟨m.q, 2, none⟩ = some (.pointer (some ⟨m.t, 0, none⟩)) ∧ W.cell? ⟨rb, 0, none⟩ = some (.int .i64 (j : Int)) ∧ W.cell? ⟨rb, 1, none⟩ = some (.int .i64 y.gen)) := Lib.hid (fun W hW => have hl := S.out.later (hW.below (by simp) (Nat.le_refl _)); ⟨QM.q2 hl, (show Blk W rb 34 #[.int .i64 (j : Int), .int .i64 y.gen] from hl.at_ 10 rfl).cell 0, (show Blk W rb 34 #[.int .i64 (j : Int), .int .i64 y.gen] from hl.at_ 10 rfl).cell 1⟩)
    go_region_held3 (fun wx => wx.cell? ⟨m.q, 2, none⟩ = some (.pointer (some ⟨m.t, 0, none⟩)) ∧ wx.cell? ⟨rb, 0, none⟩ = some (.int .i64 (j : Int)) ∧ wx.cell? ⟨rb, 1, none⟩ = some (.int .i64 y.gen)) (first | (refine HS.out _ ?_; (repeat' first | with_reducible exact Chg.refl _ _ | with_reducible refine Chg.drew ?_ | with_reducible refine Chg.drewN ?_ _ | with_reducible refine Chg.alloc ?_ _ | with_reducible refine Chg.setCell ?_ ?_ _ | (left; simp; done) | (right; exact Nat.le_refl _) | (right; dsimp only; omega)); done) | (refine HS2.out _ ?_; (repeat' first | with_reducible exact Chg.refl _ _ | with_reducible refine Chg.drew ?_ | with_reducible refine Chg.drewN ?_ _ | with_reducible refine Chg.alloc ?_ _ | with_reducible refine Chg.setCell ?_ ?_ _ | (left; simp; done) | (right; exact Nat.le_refl _) | (right; dsimp only; omega)); done)) (first | (go_at_call 36; refine Calls.mono (slots_heap _ _ _ _ _ _ _ _ _ _ _ _ _ _ _ _ _ _ (QM.toS S.out.drew)) ?_; rintro e w2 ⟨v, e0, rfl, q1, q2⟩; obtain ⟨rfl, rfl⟩ := q1.ok HP.out.hy HP.out.ht HP.out.hg; have S4 : Hid (Led B w0 w2 (m.es vf lh fh li fi n ne s sh si f F items serial ++ blkE (rb) 34 #[.int .i64 (j : Int), .int .i64 y.gen] :: blkE (w.heap.size) 34 #[.int .i64 (i : Int), .int .i64 x.gen] :: blkE (w.heap.size + 1) 38 #[.int .i64 0, .int .i64 0, .int .i64 0, .int .i64 0, .int .i64 0, .int .i64 0, .int .i64 0, .int .i64 0] :: C)) := Lib.hid (QM.ofS q2); have HS2 : Hid (∀ W, Chg [] w2 W → W.cell? ⟨m.q, 2, none⟩ = some (.pointer (some ⟨m.t, 0, none⟩)) ∧ W.cell? ⟨rb, 0, none⟩ = some (.int .i64 (j : Int)) ∧ W.cell? ⟨rb, 1, none⟩ = some (.int .i64 y.gen)) := Lib.hid (fun W hW => have hl := S4.out.later (hW.below (by simp) (Nat.le_refl _)); ⟨QM.q2 hl, (show Blk W rb 34 #[.int .i64 (j : Int), .int .i64 y.gen] from hl.at_ 10 rfl).cell 0, (show Blk W rb 34 #[.int .i64 (j : Int), .int .i64 y.gen] from hl.at_ 10 rfl).cell 1⟩); clear q1 q2))
    go_wp2_with fail
    go_meet
    case rel => exact ⟨rfl, rfl, rfl, S4⟩
   case rest =>
    clear S
    obtain ⟨rfl, rfl, rfl, S⟩ := hcut
    go_upto_region 6 with fail
    have HS : Hid (∀ W, Chg [] wc W → W.cell? ⟨m.q, 1, none⟩ = some (.pointer (some ⟨m.X.p, 0, none⟩)) ∧ W.cell? ⟨m.q, 2, none⟩ = some (.pointer (some ⟨m.t, 0, none⟩)) ∧ W.cell? ⟨rb, 0, none⟩ = some (.int .i64 (j : Int)) ∧ W.cell? ⟨rb, 1, none⟩ = some (.int .i64 y.gen)) := Lib.hid (fun W hW => have hl := S.out.later (hW.below (by simp) (Nat.le_refl _)); ⟨QM.q1 hl, QM.q2 hl, (show Blk W rb 34 #[.int .i64 (j : Int), .int .i64 y.gen] from hl.at_ 10 rfl).cell 0, (show Blk W rb 34 #[.int .i64 (j : Int), .int .i64 y.gen] from hl.at_ 10 rfl).cell 1⟩)
    go_region_held3 (fun wx => wx.cell? ⟨m.q, 1, none⟩ = some (.pointer (some ⟨m.X.p, 0, none⟩)) ∧ wx.cell? ⟨m.q, 2, none⟩ = some (.pointer (some ⟨m.t, 0, none⟩)) ∧ wx.cell? ⟨rb, 0, none⟩ = some (.int .i64 (j : Int)) ∧ wx.cell? ⟨rb, 1, none⟩ = some (.int .i64 y.gen)) (first | (refine HS.out _ ?_; (repeat' first | with_reducible exact Chg.refl _ _ | with_reducible refine Chg.drew ?_ | with_reducible refine Chg.drewN ?_ _ | with_reducible refine Chg.alloc ?_ _ | with_reducible refine Chg.setCell ?_ ?_ _ | (left; simp; done) | (right; exact Nat.le_refl _) | (right; dsimp only; omega)); done) | (refine HS2.out _ ?_; (repeat' first | with_reducible exact Chg.refl _ _ | with_reducible refine Chg.drew ?_ | with_reducible refine Chg.drewN ?_ _ | with_reducible refine Chg.alloc ?_ _ | with_reducible refine Chg.setCell ?_ ?_ _ | (left; simp; done) | (right; exact Nat.le_refl _) | (right; dsimp only; omega)); done) | (refine HS3.out _ ?_; (repeat' first | with_reducible exact Chg.refl _ _ | with_reducible refine Chg.drew ?_ | with_reducible refine Chg.drewN ?_ _ | with_reducible refine Chg.alloc ?_ _ | with_reducible refine Chg.setCell ?_ ?_ _ | (left; simp; done) | (right; exact Nat.le_refl _) | (right; dsimp only; omega)); done)) (first | (go_at_call 70; refine Calls.mono (kd_cut m.X s 0 y.v.a y.v.b x.v.a HP.out.hk HP.out.pp (QM.toA S.out.drew)) ?_; rintro e w2 ⟨vf1, u, rfl, h'⟩; rw [Nat.zero_add] at h'; have S4 : Hid (Led B w0 w2 (m.es vf1 lh fh li fi n ne (((Ar.kcut y.v.a s y.v.b x.v.a).1.tick u)) sh si f F items serial ++ blkE (rb) 34 #[.int .i64 (j : Int), .int .i64 y.gen] :: blkE (w.heap.size) 34 #[.int .i64 (i : Int), .int .i64 x.gen] :: blkE (w.heap.size + 1) 38 #[.int .i64 0, .int .i64 0, .int .i64 0, .int .i64 0, .int .i64 0, .int .i64 0, .int .i64 0, .int .i64 0] :: C)) := Lib.hid (QM.ofA h'); have HS2 : Hid (∀ W, Chg [] w2 W → W.cell? ⟨m.q, 1, none⟩ = some (.pointer (some ⟨m.X.p, 0, none⟩)) ∧ W.cell? ⟨m.q, 2, none⟩ = some (.pointer (some ⟨m.t, 0, none⟩)) ∧ W.cell? ⟨rb, 0, none⟩ = some (.int .i64 (j : Int)) ∧ W.cell? ⟨rb, 1, none⟩ = some (.int .i64 y.gen)) := Lib.hid (fun W hW => have hl := S4.out.later (hW.below (by simp) (Nat.le_refl _)); ⟨QM.q1 hl, QM.q2 hl, (show Blk W rb 34 #[.int .i64 (j : Int), .int .i64 y.gen] from hl.at_ 10 rfl).cell 0, (show Blk W rb 34 #[.int .i64 (j : Int), .int .i64 y.gen] from hl.at_ 10 rfl).cell 1⟩); clear h') | (go_at_call 61; refine Calls.mono (slots_root _ _ _ _ _ _ _ _ _ _ _ _ _ _ _ _ _ _ _ _ (QM.toS S4.out)) ?_; rintro e w6 ⟨e0, sh', rfl, q1, q2⟩; obtain ⟨rfl, rfl⟩ := q1.ok_ HP.out.hy HP.out.ht HP.out.hg; have S6 : Hid (Led B w0 w6 (m.es vf1 lh fh li fi n ne (((Ar.kcut y.v.a s y.v.b x.v.a).1.tick u)) ((sh.setAt j y ⟨y.v.a, (Ar.kcut y.v.a s y.v.b x.v.a).2, y.v.c - 1⟩)) si f F items serial ++ blkE (rb) 34 #[.int .i64 (j : Int), .int .i64 y.gen] :: blkE (w.heap.size) 34 #[.int .i64 (i : Int), .int .i64 x.gen] :: blkE (w.heap.size + 1) 38 #[.int .i64 0, .int .i64 0, .int .i64 0, .int .i64 0, .int .i64 0, .int .i64 0, .int .i64 0, .int .i64 0] :: C)) := Lib.hid (QM.ofS q2); have HS3 : Hid (∀ W, Chg [] w6 W → W.cell? ⟨m.q, 1, none⟩ = some (.pointer (some ⟨m.X.p, 0, none⟩)) ∧ W.cell? ⟨m.q, 2, none⟩ = some (.pointer (some ⟨m.t, 0, none⟩)) ∧ W.cell? ⟨rb, 0, none⟩ = some (.int .i64 (j : Int)) ∧ W.cell? ⟨rb, 1, none⟩ = some (.int .i64 y.gen)) := Lib.hid (fun W hW => have hl := S6.out.later (hW.below (by simp) (Nat.le_refl _)); ⟨QM.q1 hl, QM.q2 hl, (show Blk W rb 34 #[.int .i64 (j : Int), .int .i64 y.gen] from hl.at_ 10 rfl).cell 0, (show Blk W rb 34 #[.int .i64 (j : Int), .int .i64 y.gen] from hl.at_ 10 rfl).cell 1⟩); clear q1 q2))
    clear HS HS2 HS3 S S4
    have rb : Blk w6 w.heap.size 34 #[.int .i64 (i : Int), .int .i64 x.gen] := S6.out.at_ 11 rfl
    have lrb := rb.lt
    obtain ⟨r0, r1, fr0, fr1⟩ := rb.c2
    clear rb
    go_wp2_with fail
    refine Calls.mono (pq_gone i x HP.out.hx HP.out.xt HP.out.xg HP.out.co HP.out.ik (HP.out.ok.tick u) S6.out) ?_
    rintro e w7 ⟨vf2, fi', rfl, h'⟩
    rw [HP.out.fe]
    have S7 : Hid (Led B w0 w7 (m.es vf2 lh fh li fi' n ne (((((Ar.kcut y.v.a s y.v.b x.v.a).1.tick u).give x.v.a).2.tick 1)) ((sh.setAt j y ⟨y.v.a, (Ar.kcut y.v.a s y.v.b x.v.a).2, y.v.c - 1⟩)) ((si.giveAt i x ⟨0, 0, 0⟩)) ((upd f x.v.a none)) ((upd F ((i : Int), x.gen) none)) items serial ++ blkE (rb) 34 #[.int .i64 (j : Int), .int .i64 y.gen] :: blkE (w.heap.size) 34 #[.int .i64 (i : Int), .int .i64 x.gen] :: blkE (w.heap.size + 1) 38 #[.int .i64 0, .int .i64 0, .int .i64 0, .int .i64 0, .int .i64 0, .int .i64 0, .int .i64 0, .int .i64 0] :: C)) := Lib.hid h'
    clear h'
    have zb : Blk w7 (w.heap.size + 1) 38 #[.int .i64 0, .int .i64 0, .int .i64 0, .int .i64 0, .int .i64 0, .int .i64 0, .int .i64 0, .int .i64 0] := S7.out.at_ 12 rfl
    have lzb := zb.lt
    obtain ⟨z0, z1, z2, z3, z4, z5, z6, z7, fz0, fz1, fz2, fz3, fz4, fz5, fz6, fz7⟩ := zb.c8
    clear zb
    go_wp2_with fail
    exact bodyPost_ret (v := .agg #[.int .i64 0, .int .i64 0, .int .i64 0, .int .i64 0, .int .i64 0, .int .i64 e1, .int .i64 e2, .int .i64 0]) (by simp [results, Tryz.results34, go_sem, lzb, z0, z1, z2, z3, z4, z5, z6, z7]) rfl (hR.out _ _ ⟨vf2, fi', u + 1, rfl, led_cut (A := m.es vf2 lh fh li fi' n ne ((((Ar.kcut y.v.a s y.v.b x.v.a).1.give x.v.a).2.tick (u + 1))) ((sh.setAt j y ⟨y.v.a, (Ar.kcut y.v.a s y.v.b x.v.a).2, y.v.c - 1⟩)) ((si.giveAt i x ⟨0, 0, 0⟩)) ((upd f x.v.a none)) ((upd F ((i : Int), x.gen) none)) items serial) (M := [_, _, _]) (C := C) (give_tick _ _ _ ▸ led_store8 (A := m.es vf2 lh fh li fi' n ne (((((Ar.kcut y.v.a s y.v.b x.v.a).1.tick u).give x.v.a).2.tick 1)) ((sh.setAt j y ⟨y.v.a, (Ar.kcut y.v.a s y.v.b x.v.a).2, y.v.c - 1⟩)) ((si.giveAt i x ⟨0, 0, 0⟩)) ((upd f x.v.a none)) ((upd F ((i : Int), x.gen) none)) items serial ++ [_, _]) S7.out)⟩)
end
end Go.Proofs.YtognmhgdegpdiaaGreat
