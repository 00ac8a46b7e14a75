/- The document's own pool (thicketref2): Set, Give, Take. -/
import Derived.Test.YtjabofofofddbaaPoolAll
namespace Go.Proofs.Ytjabofofofddbaa
open Go.RowKit
set_option linter.unusedVariables false
set_option linter.unusedSimpArgs false
set_option maxRecDepth 100000

theorem map_set_same {α β : Type} {f : α → β} {l : List α} {i : Nat} {x y : α} (hx : l[i]? = some x) (h : f y = f x) : (l.set i y).map f = l.map f := by
  apply List.ext_getElem?
  intro j
  rw [List.getElem?_map, List.getElem?_map]
  by_cases hi : i = j
  · subst hi
    rw [List.getElem?_set_self (List.getElem?_eq_some_iff.1 hx).1, hx]
    simp [h]
  · rw [List.getElem?_set_ne hi]

theorem ref_set_bad (B m : Nat) (gv iv vv bv : Value) (r : PSt Int) (a b e0 v : Int) (w0 w : World) (es : List Ent) (h : Led B w0 w (refEs m gv iv vv bv r ++ es)) (hm : r.l.length ≤ 65536) (hl : r.look a b = e0) (he : e0 ≠ 0) :
    Calls Try.prog 69 #[.pointer (some ⟨m, 0, none⟩), .agg #[.int .i64 a, .int .i64 b], .int .i64 v] w fun e w' => e = .returned (.int .i64 e0) ∧ Below w.heap.size w w' := by
  have HH := Lib.hid (h.alloc (.cells #[.int .i64 a, .int .i64 b] 57)); clear h
  have HL := Lib.hid hl; clear hl
  have hb : (e0 == 0) = false := by simpa using he
  have HE := Lib.hid he; clear he
  refine callsR fun R hR => ?_
  go_enter Try.func69, Try.ntmps69
  go_wp2_with fail
  refine Calls.mono (ref_look B m gv iv vv bv r a b _ _ es HH.out hm) ?_
  rw [HL.out]
  rintro e w2 ⟨rfl, hb2⟩
  have B2 := Lib.hid hb2; clear hb2
  go_wp2_with fail
  exact hR.out _ _ ⟨rfl, ((Below.refl _ _).alloc (Nat.le_refl _) _).trans (B2.out.mono (by simp))⟩

/-- A store into the values. -/
theorem ref_setV {B m : Nat} {gv iv bv : Value} {r : PSt Int} {i g n c : Nat} {x : Pl Int} {v : Int} {w0 w : World} {es : List Ent} (h : Led B w0 w (refEs m gv iv (.slice (some ⟨g, 0, none⟩) n c) bv r ++ es)) (hx : r.l[i]? = some x) :
    Led B w0 (w.setCell ⟨g, i, none⟩ (.int .i64 v)) (refEs m gv iv (.slice (some ⟨g, 0, none⟩) n c) bv (r.setAt i x v) ++ es) := by
  have hT := refVs h
  have h1 := hT.set (i := i) (j := 0) (r := [.int .i64 x.v]) (.int .i64 v) (by rw [vsL, List.getElem?_map, hx]; rfl) (by decide)
  rw [Nat.mul_one, Nat.add_zero] at h1
  have h2 := h.step 3 rfl (tabE 2 1 (.slice (some ⟨g, 0, none⟩) n c) (vsL (r.setAt i x v))) ((Chg.refl _ _).setCell (p := ⟨g, i, none⟩) (.inl (by simp [tabE, Value.ownBlock])) (.int .i64 v)) (by simpa [tabE, vsL, PSt.setAt, List.map_set] using h1) (Fresh.refl _ _)
  have e1 : gensL (r.setAt i x v) = gensL r := map_set_same hx rfl
  have e2 : insL (r.setAt i x v) = insL r := map_set_same hx rfl
  show Led B w0 _ ([blkE m _ _, tabE _ _ _ (gensL (r.setAt i x v)), tabE _ _ _ (insL (r.setAt i x v)), tabE _ _ _ _, tabE _ _ _ _] ++ es)
  rw [e1, e2]
  exact h2

theorem ref_set_ok (B m : Nat) (gv iv vv bv : Value) (r : PSt Int) (i : Nat) (x : Pl Int) (v : Int) (w0 w : World) (es : List Ent) (h : Led B w0 w (refEs m gv iv vv bv r ++ es)) (hm : r.l.length ≤ 65536) (hx : r.l[i]? = some x) (ht : x.taken = true) (hg1 : 1 ≤ x.gen) :
    Calls Try.prog 69 #[.pointer (some ⟨m, 0, none⟩), .agg #[.int .i64 i, .int .i64 x.gen], .int .i64 v] w fun e w' => e = .returned (.int .i64 0) ∧ Led B w0 w' (refEs m gv iv vv bv (r.setAt i x v) ++ es) := by
  have hlt : i < r.l.length := (List.getElem?_eq_some_iff.1 hx).1
  have HL := Lib.hid (look_ok hx ht hg1)
  obtain ⟨A, c, rfl, hc, hA⟩ := tab1_form (refVs h) (vsL_len r)
  obtain ⟨g, rfl, hg⟩ := hA (by omega)
  have hmlt := (refBlk h).lt
  have hgm : g ≠ m := fun e => (refVs h).ne_blk (refBlk h) (by decide) (by simp [Value.ownBlock, e])
  have hmg := hgm.symm
  have HH := Lib.hid (h.alloc (.cells #[.int .i64 i, .int .i64 x.gen] 57)); clear h
  have HX := Lib.hid hx; clear hx ht hA
  refine callsR fun R hR => ?_
  go_enter Try.func69, Try.ntmps69
  go_wp2_with fail
  refine Calls.mono (ref_look B m gv iv _ bv r i x.gen _ _ es HH.out hm) ?_
  rw [HL.out]
  rintro e w2 ⟨rfl, hb2⟩
  have H2 := Lib.hid (HH.out.later hb2)
  have d3 := (refBlk H2.out).cell 3
  simp only [List.getElem?_toArray, List.getElem?_cons_zero, List.getElem?_cons_succ] at d3
  have g3 : w2.cell? ⟨g, i, none⟩ = some (.int .i64 x.v) := tab1_cell (refVs H2.out) (by rw [vsL, List.getElem?_map, HX.out]; rfl)
  have fg3 : w2.frozen? ⟨g, i, none⟩ = false := (refVs H2.out).frozen _
  have r0 : w2.cell? ⟨w.heap.size, 0, none⟩ = some (.int .i64 i) := (hb2.cell (p := ⟨w.heap.size, 0, none⟩) (by simp)).trans ((Blk.new w 57 #[.int .i64 i, .int .i64 x.gen]).cell 0)
  have hgw : g ≠ w.heap.size := by omega
  have hwg : w.heap.size ≠ g := by omega
  have HS := Lib.hid (ref_setV (v := v) H2.out HX.out)
  clear hb2
  go_wp2_with fail
  go_region_held3 (fun wx => wx.cell? ⟨m, 3, none⟩ = some (.slice (some ⟨g, 0, none⟩) r.l.length c) ∧ wx.cell? ⟨w.heap.size, 0, none⟩ = some (.int .i64 i)) (go_keep) (fail)
  go_wp2_with fail
  exact hR.out _ _ ⟨rfl, HS.out.drewN 1⟩
end Go.Proofs.Ytjabofofofddbaa
