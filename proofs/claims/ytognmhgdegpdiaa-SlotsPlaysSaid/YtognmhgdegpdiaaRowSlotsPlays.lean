import Derived.Test.YtognmhgdegpdiaaSlotsPlML
import Derived.Test.YtognmhgdegpdiaaRow
/- The statement SlotsPlays: whatever the input, the law returns true, and each argument reads behind the call as it read before. No condition. -/
namespace Go.Proofs.Ytognmhgdegpdiaa.slotsPlays
open Go.ChangeShapes Go.WideShapes Go.ChangeAt Go.RowKit
set_option linter.unusedVariables false
set_option linter.unusedSimpArgs false

set_option maxRecDepth 100000 in
theorem refCells {H : Type} {enc : TypeId × Value → H} {W : World} {base : Nat} {spare : Nat → Bool} {held : Bool} : ∀ n cs y, DataW.trod enc Try.prog W base spare held n 27 cs = some y → IntCells 2 cs :=
  have c0 : Try.prog.cellsOf 3 = 1 := by kernel_rfl
  intCells_struct Try.underlying27 (by kernel_rfl) fun j hj => match j, hj with
    | 0, _ => ⟨0, _, rfl, by decide, by show 0 < 0 + Try.prog.cellsOf 3; rw [c0]; decide, fun n cs y h => by show IntCells (Try.prog.cellsOf 3) cs; rw [c0]; exact intCells_int Try.underlying3 n cs y h⟩
    | 1, _ => ⟨1, _, rfl, by decide, by show 1 < 1 + Try.prog.cellsOf 3; rw [c0]; decide, fun n cs y h => by show IntCells (Try.prog.cellsOf 3) cs; rw [c0]; exact intCells_int Try.underlying3 n cs y h⟩

set_option maxRecDepth 100000 in
theorem ask17 {H : Type} {enc : TypeId × Value → H} {W : World} {base : Nat} {spare : Nat → Bool} {held : Bool} : ∀ n cs y, DataW.trod enc Try.prog W base spare held n 47 cs = some y → IntCells 8 cs :=
  have c0 : Try.prog.cellsOf 3 = 1 := by kernel_rfl
  have c1 : Try.prog.cellsOf 27 = 2 := by kernel_rfl
  intCells_struct Try.underlying47 (by kernel_rfl) fun j hj => match j, hj with
    | 0, _ => ⟨0, _, rfl, by decide, by show 0 < 0 + Try.prog.cellsOf 3; rw [c0]; decide, fun n cs y h => by show IntCells (Try.prog.cellsOf 3) cs; rw [c0]; exact intCells_int Try.underlying3 n cs y h⟩
    | 1, _ => ⟨1, _, rfl, by decide, by show 1 < 1 + Try.prog.cellsOf 3; rw [c0]; decide, fun n cs y h => by show IntCells (Try.prog.cellsOf 3) cs; rw [c0]; exact intCells_int Try.underlying3 n cs y h⟩
    | 2, _ => ⟨2, _, rfl, by decide, by show 2 < 2 + Try.prog.cellsOf 3; rw [c0]; decide, fun n cs y h => by show IntCells (Try.prog.cellsOf 3) cs; rw [c0]; exact intCells_int Try.underlying3 n cs y h⟩
    | 3, _ => ⟨3, _, rfl, by decide, by show 3 < 3 + Try.prog.cellsOf 3; rw [c0]; decide, fun n cs y h => by show IntCells (Try.prog.cellsOf 3) cs; rw [c0]; exact intCells_int Try.underlying3 n cs y h⟩
    | 4, _ => ⟨4, _, rfl, by decide, by show 4 < 4 + Try.prog.cellsOf 3; rw [c0]; decide, fun n cs y h => by show IntCells (Try.prog.cellsOf 3) cs; rw [c0]; exact intCells_int Try.underlying3 n cs y h⟩
    | 5, _ => ⟨5, _, rfl, by decide, by show 5 < 5 + Try.prog.cellsOf 3; rw [c0]; decide, fun n cs y h => by show IntCells (Try.prog.cellsOf 3) cs; rw [c0]; exact intCells_int Try.underlying3 n cs y h⟩
    | 6, _ => ⟨6, _, rfl, by decide, by show 6 < 6 + Try.prog.cellsOf 27; rw [c1]; decide, fun n cs y h => by show IntCells (Try.prog.cellsOf 27) cs; rw [c1]; exact refCells n cs y h⟩
    | 7, _ => ⟨6, _, rfl, by decide, by show 7 < 6 + Try.prog.cellsOf 27; rw [c1]; decide, fun n cs y h => by show IntCells (Try.prog.cellsOf 27) cs; rw [c1]; exact refCells n cs y h⟩

set_option maxRecDepth 100000 in
theorem lifted (os : Os) (started : os.Started) (H : Type) (enc : TypeId × Value → H) :
    ReturnsInHanded {} Try.checked os 6 .any (Rows.slotsPlaysSpec.pre6 enc Try.prog Try.f6 Rows.slotsPlaysRow.domain false) (Rows.slotsPlaysSpec.post enc Try.prog Try.f6 false true false false) := by
  refine returnsInHanded_of_change (C := Try.checked) own started (by kernel_rfl) Try.func6
    (ChangeSpec.witness6 (enc := enc) (C := Try.checked) false ⟨#[], #[.int .i64 0, .slice none 0 0], []⟩ 8 (by kernel_rfl) (by kernel_rfl) (by kernel_rfl) (by kernel_rfl)) ?_
  intro W base args ds gs before hval0 hW hcnd _
  have hval : ∀ (j : Nat) t v, Try.f6.params[j]? = some t → args[j]? = some v → Value.okWide Try.prog W .any base t v := hval0
  have hW' := hW
  obtain ⟨p, q, hA0, hV, hbef, hfz, hnd⟩ := hW
  have hA : DataW.TrodAll enc Try.prog W 0 (fun _ => true) true Try.f6.params.toList args.toList ds p := hA0
  rw [Try.params6] at hA hval
  obtain ⟨rfl, rfl⟩ := trodVars_none hV
  rw [List.append_nil] at hbef
  subst hbef
  have hlt : ∀ x ∈ before, x.block < W.heap.size := fun x hx => hW'.lt x hx
  obtain ⟨v0, vs0, d0, ds0, p0, q0, hargs, rfl, hp0, h0, r0⟩ := trodAll_cons hA
  obtain ⟨v1, vs1, d1, ds1, p1, q1, rfl, rfl, hp1, h1, r1⟩ := trodAll_cons r0
  obtain ⟨rfl, rfl, hpe⟩ := trodAll_nil r1
  obtain rfl : args = #[v0, v1] := by cases args; simp_all
  have hlt0 : ∀ x ∈ p0, x.block < W.heap.size := fun x hx => hlt x (by rw [hp0]; simp [hx])
  obtain ⟨a0, rfl, rfl, -, w0⟩ := open_int Try.underlying3 (hval 0 3 v0 rfl rfl) h0
  have b0 := bounds_i64 w0
  have hlt1 : ∀ x ∈ p1, x.block < W.heap.size := fun x hx => hlt x (by rw [hp0, hp1]; simp [hx])
  obtain ⟨A1, n1, c1, G1, rfl, hn1, hs1, hg1⟩ := open_sl_ints Try.underlying45 (sz := 8) (by kernel_rfl) (by omega) (ask17 (enc := enc) (W := W)) (hval 1 45 v1 rfl rfl) h1 hlt1
  refine (slots_plays a0 A1 n1 c1 G1 W b0.1 b0.2 hn1 hs1 hg1).mono fun e W' ⟨he, hg⟩ => ?_
  subst he
  exact ⟨_, rfl, post_law laidOut (tb := 4) hW' rfl rfl rfl rfl rfl Try.underlying4 (by rw [Try.params6]; intro t ht; simp at ht; rcases ht with rfl | rfl <;> exact ⟨by kernel_rfl, of_decide_eq_true (by kernel_rfl)⟩) (okWide_bool_mk Try.underlying4 _) hg⟩

theorem over : Rows.slotsPlaysRow.holds Try.pinned (OpenSpec.ofChange Rows.slotsPlaysSpec) :=
  OpenClaim.holds_of_wide 6 Try.f6 rfl rfl rfl rfl rfl rfl rfl ⟨rfl, rfl, rfl, rfl, rfl⟩ rfl rfl rfl rfl rfl (by kernel_rfl) Try.func6 (by kernel_rfl)
    (of_decide_eq_true (by kernel_rfl)) (by unfold Func.isWrapper; first | (rw [if_pos (by decide +kernel)]; kernel_rfl) | (rw [if_neg (by decide +kernel)]; exact ⟨rfl, rfl⟩))
    (fun os started H enc _ => lifted os started H enc)

theorem proved : Rows.SlotsPlaysSaid :=
  over
#print axioms proved
end Go.Proofs.Ytognmhgdegpdiaa.slotsPlays
