/- The statement SlotsStale: whatever the input, the law returns true, and each argument reads behind the call as it read before. No condition. -/
import Derived.Test.YtognmhgdegpdiaaSlotsSt
import Derived.Test.YtognmhgdegpdiaaRow
namespace Go.Proofs.Ytognmhgdegpdiaa.slotsStale
open Go.ChangeShapes Go.WideShapes Go.ChangeAt Go.RowKit
set_option linter.unusedVariables false
set_option linter.unusedSimpArgs false

set_option maxRecDepth 100000 in
theorem lifted (os : Os) (started : os.Started) (H : Type) (enc : TypeId × Value → H) :
    ReturnsInHanded {} Try.checked os 4 .any (Rows.slotsStaleSpec.pre6 enc Try.prog Try.f4 Rows.slotsStaleRow.domain false) (Rows.slotsStaleSpec.post enc Try.prog Try.f4 false true false false) := by
  refine returnsInHanded_of_change (C := Try.checked) own started (by kernel_rfl) Try.func4
    (ChangeSpec.witness6 (enc := enc) (C := Try.checked) false ⟨#[], #[.slice none 0 0, .int .i64 0, .slice none 0 0], []⟩ 8 (by kernel_rfl) (by kernel_rfl) (by kernel_rfl) (by kernel_rfl)) ?_
  intro W base args ds gs before hval0 hW hcnd _
  have hval : ∀ (j : Nat) t v, Try.f4.params[j]? = some t → args[j]? = some v → Value.okWide Try.prog W .any base t v := hval0
  have hW' := hW
  obtain ⟨p, q, hA0, hV, hbef, hfz, hnd⟩ := hW
  have hA : DataW.TrodAll enc Try.prog W 0 (fun _ => true) true Try.f4.params.toList args.toList ds p := hA0
  rw [Try.params4] at hA hval
  obtain ⟨rfl, rfl⟩ := trodVars_none hV
  rw [List.append_nil] at hbef
  subst hbef
  have hlt : ∀ x ∈ before, x.block < W.heap.size := fun x hx => hW'.lt x hx
  obtain ⟨v0, vs0, d0, ds0, p0, q0, hargs, rfl, hp0, h0, r0⟩ := trodAll_cons hA
  obtain ⟨v1, vs1, d1, ds1, p1, q1, rfl, rfl, hp1, h1, r1⟩ := trodAll_cons r0
  obtain ⟨v2, vs2, d2, ds2, p2, q2, rfl, rfl, hp2, h2, r2⟩ := trodAll_cons r1
  obtain ⟨rfl, rfl, hpe⟩ := trodAll_nil r2
  obtain rfl : args = #[v0, v1, v2] := by cases args; simp_all
  have hlt0 : ∀ x ∈ p0, x.block < W.heap.size := fun x hx => hlt x (by rw [hp0]; simp [hx])
  obtain ⟨A0, n0, c0, G0, rfl, hn0, hs0, hg0⟩ := open_sl_ints Try.underlying22 (sz := 1) (by kernel_rfl) (by omega) (intCells_int Try.underlying3) (hval 0 22 v0 rfl rfl) h0 hlt0
  have hlt1 : ∀ x ∈ p1, x.block < W.heap.size := fun x hx => hlt x (by rw [hp0, hp1]; simp [hx])
  obtain ⟨a1, rfl, rfl, -, w1⟩ := open_int Try.underlying3 (hval 1 3 v1 rfl rfl) h1
  have b1 := bounds_i64 w1
  have hlt2 : ∀ x ∈ p2, x.block < W.heap.size := fun x hx => hlt x (by rw [hp0, hp1, hp2]; simp [hx])
  obtain ⟨A2, n2, c2, G2, rfl, hn2, hs2, hg2⟩ := open_sl_ints Try.underlying22 (sz := 1) (by kernel_rfl) (by omega) (intCells_int Try.underlying3) (hval 2 22 v2 rfl rfl) h2 hlt2
  refine (slots_stale A0 A2 n0 c0 n2 c2 a1 G2 W hn0 hn2 b1.1 b1.2 hs2 (by simpa using hg2)).mono fun e W' ⟨he, hg⟩ => ?_
  subst he
  exact ⟨_, rfl, post_law laidOut (tb := 4) hW' rfl rfl rfl rfl rfl Try.underlying4 (by rw [Try.params4]; intro t ht; simp at ht; rcases ht with rfl | rfl | rfl <;> exact ⟨by kernel_rfl, of_decide_eq_true (by kernel_rfl)⟩) (okWide_bool_mk Try.underlying4 _) hg⟩

theorem over : Rows.slotsStaleRow.holds Try.pinned (OpenSpec.ofChange Rows.slotsStaleSpec) :=
  OpenClaim.holds_of_wide 4 Try.f4 rfl rfl rfl rfl rfl rfl rfl ⟨rfl, rfl, rfl, rfl, rfl⟩ rfl rfl rfl rfl rfl (by kernel_rfl) Try.func4 (by kernel_rfl)
    (of_decide_eq_true (by kernel_rfl)) (by unfold Func.isWrapper; first | (rw [if_pos (by decide +kernel)]; kernel_rfl) | (rw [if_neg (by decide +kernel)]; exact ⟨rfl, rfl⟩))
    (fun os started H enc _ => lifted os started H enc)

theorem proved : Rows.SlotsStaleSaid :=
  over
#print axioms proved
end Go.Proofs.Ytognmhgdegpdiaa.slotsStale
