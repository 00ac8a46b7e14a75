/- The statements on pools: what they share. -/
import Derived.Test.YtjabofofofddbaaPoolI64b
import Derived.Test.YtjabofofofddbaaPoolO
namespace Go.Proofs.Ytjabofofofddbaa
open Go.RowKit
set_option maxRecDepth 100000

theorem pool_known (w : World) : Calls Try.prog 34 #[] w fun e w' => e = .returned (.bool true) ∧ Below w.heap.size w w' := by
  refine callsR fun R hR => ?_
  go_enter Try.func34, Try.ntmps34
  go_wp2_with fail
  refine Calls.mono (pool_new_i64 1 1 _ (by decide)) ?_
  rintro e w1 ⟨p, rfl, h1, hp, hb1⟩
  have H1 := Lib.hid (PoolOwn.new h1 hp hb1 (Below.refl w.heap.size w) (Nat.le_refl _)); clear h1 hb1
  go_wp2_with fail
  refine Calls.mono (pool_take_fresh_i64 p _ _ _ 5 _ (by exact H1.out.is) rfl (by decide)) ?_
  rintro e w2 ⟨rfl, lv2, fv2, h2, hc2, hf2⟩
  have H2 := Lib.hid (PoolOwn.step (s' := ⟨1, [⟨1, true, 5⟩], []⟩) H1.out h2 hc2 hf2); clear H1 h2 hc2 hf2
  go_wp2_with fail
  refine Calls.mono (pool_take_full_i64 p lv2 fv2 ⟨1, [⟨1, true, 5⟩], []⟩ 6 _ (by exact (H2.out.alloc _).is) rfl (by decide)) ?_
  rintro e w3 ⟨rfl, hb3⟩
  have rb := (Blk.new w2 57 #[.int .i64 0, .int .i64 1]).chg (Chg.of_below hb3 []) (by simp)
  have lt3 := rb.lt
  have r0 : w3.cell? ⟨w2.heap.size, 0, none⟩ = some (.int .i64 0) := rb.cell 0
  have r1 : w3.cell? ⟨w2.heap.size, 1, none⟩ = some (.int .i64 1) := rb.cell 1
  have H3 := Lib.hid ((H2.out.alloc _).later hb3); clear H2 hb3
  go_wp2_with fail
  refine Calls.mono (pool_give_ok_i64 p lv2 fv2 ⟨1, [⟨1, true, 5⟩], []⟩ 0 ⟨1, true, 5⟩ _ (by exact (H3.out.alloc _).is) rfl rfl (by decide)) ?_
  rintro e w4 ⟨rfl, fv4, h4, hc4, hf4⟩
  have rb := rb.alloc (.cells #[.int .i64 0, .int .i64 0] 57)
  have rb := rb.chg hc4 ((H3.out.alloc _).ne_blk rb (by decide) (by decide) (by decide))
  have H4 := Lib.hid (PoolOwn.step (s' := ⟨1, [⟨1, false, 0⟩], [0]⟩) (H3.out.alloc _) h4 hc4 hf4); clear H3 h4 hc4 hf4
  go_wp2_with fail
  refine Calls.mono (pool_take_back_i64 p lv2 fv4 ⟨1, [⟨1, false, 0⟩], [0]⟩ 7 0 [] ⟨1, false, 0⟩ _ (by exact H4.out.is) rfl rfl) ?_
  rw [show wrap64 ((⟨1, false, 0⟩ : Pl Int).gen + 1) = 2 from by simp [wrap64]]
  rintro e w5 ⟨rfl, lv5, fv5, h5, hc5, hf5⟩
  rw [show (⟨1, [⟨1, false, 0⟩], [0]⟩ : PSt Int).retake 0 [] ⟨1, false, 0⟩ 7 = ⟨1, [⟨2, true, 7⟩], []⟩ from by simp [PSt.retake]; simp [wrap64]] at h5
  have rb := rb.chg hc5 (H4.out.ne_blk rb (by decide) (by decide) (by decide))
  have lt5 := rb.lt
  have r0 : w5.cell? ⟨w2.heap.size, 0, none⟩ = some (.int .i64 0) := rb.cell 0
  have r1 : w5.cell? ⟨w2.heap.size, 1, none⟩ = some (.int .i64 1) := rb.cell 1
  have H5 := Lib.hid (PoolOwn.step (s' := ⟨1, [⟨2, true, 7⟩], []⟩) H4.out h5 hc5 hf5); clear H4 h5 hc5 hf5
  go_wp2_with fail
  refine Calls.mono (pool_get_bad_i64 p lv5 fv5 ⟨1, [⟨2, true, 7⟩], []⟩ 0 1 23 _ (by exact (H5.out.alloc _).is) (by decide) (by decide)) ?_
  rintro e w6 ⟨rfl, hb6⟩
  have rb6 := (Blk.new w5 57 #[.int .i64 0, .int .i64 2]).chg (Chg.of_below hb6 []) (by simp)
  have r60 : w6.cell? ⟨w5.heap.size, 0, none⟩ = some (.int .i64 0) := rb6.cell 0
  have r61 : w6.cell? ⟨w5.heap.size, 1, none⟩ = some (.int .i64 2) := rb6.cell 1
  have H6 := Lib.hid ((H5.out.alloc _).later hb6); clear H5 hb6
  go_wp2_with fail
  exact hR.out _ _ ⟨rfl, H6.out.be⟩
end Go.Proofs.Ytjabofofofddbaa
