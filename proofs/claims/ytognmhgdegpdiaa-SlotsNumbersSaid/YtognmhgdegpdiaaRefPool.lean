import Derived.Test.YtognmhgdegpdiaaPoolER
import Derived.Test.YtognmhgdegpdiaaPoolACV
/- The document's own pool (thicketref2): what each method does to what it holds; the first part: New, Look, Get. -/
namespace Go.Proofs.Ytognmhgdegpdiaa
open Go.RowKit
set_option linter.unusedVariables false
set_option linter.unusedSimpArgs false
set_option maxRecDepth 100000

def gensL (r : PSt Int) : List (List Value) := r.l.map fun x => [Value.int .i64 x.gen]
def insL (r : PSt Int) : List (List Value) := r.l.map fun x => [Value.bool x.taken]
def vsL (r : PSt Int) : List (List Value) := r.l.map fun x => [Value.int .i64 x.v]
def backL (r : PSt Int) : List (List Value) := r.free.map fun (i : Nat) => [Value.int .i64 (i : Int)]
/-- The things in memory that a pool of the document's is. -/
def refEs (m : Nat) (gv iv vv bv : Value) (r : PSt Int) : List Ent :=
  [blkE m 82 #[.int .i64 r.most, gv, iv, vv, bv], tabE 3 1 gv (gensL r), tabE 4 1 iv (insL r), tabE 2 1 vv (vsL r), tabE 3 1 bv (backL r)]

section
variable {B m : Nat} {w0 w : World} {gv iv vv bv : Value} {r : PSt Int} {es : List Ent}
theorem refBlk (h : Led B w0 w (refEs m gv iv vv bv r ++ es)) : Blk w m 82 #[.int .i64 r.most, gv, iv, vv, bv] := h.at_ 0 rfl
theorem refGens (h : Led B w0 w (refEs m gv iv vv bv r ++ es)) : TabIs w 0 3 1 gv (gensL r) := h.at_ 1 rfl
theorem refIns (h : Led B w0 w (refEs m gv iv vv bv r ++ es)) : TabIs w 0 4 1 iv (insL r) := h.at_ 2 rfl
theorem refVs (h : Led B w0 w (refEs m gv iv vv bv r ++ es)) : TabIs w 0 2 1 vv (vsL r) := h.at_ 3 rfl
theorem refBack (h : Led B w0 w (refEs m gv iv vv bv r ++ es)) : TabIs w 0 3 1 bv (backL r) := h.at_ 4 rfl
theorem tab1_form {w : World} {base n : Nat} {e : TypeId} {v : Value} {L : List (List Value)} (h : TabIs w base e 1 v L) (hn : L.length = n) : ∃ A c, v = .slice A n c ∧ n ≤ c ∧ (0 < n → ∃ g, A = some ⟨g, 0, none⟩ ∧ g < w.heap.size) := by
  subst hn
  obtain ⟨A, c, h1, h2, h3⟩ := h.form
  exact ⟨A, c, h1, h2, fun hn => by obtain ⟨g, hg, hl, _⟩ := h3 hn; exact ⟨g, hg, hl⟩⟩
theorem tab1_cell {w : World} {base g n c i : Nat} {e : TypeId} {L : List (List Value)} {u : Value} (h : TabIs w base e 1 (.slice (some ⟨g, 0, none⟩) n c) L) (hi : L[i]? = some [u]) : w.cell? ⟨g, i, none⟩ = some u := by
  have := h.cell (i := i) (j := 0) (r := [u]) (u := u) hi rfl
  simpa using this
theorem gensL_len (r : PSt Int) : (gensL r).length = r.l.length := List.length_map _
theorem insL_len (r : PSt Int) : (insL r).length = r.l.length := List.length_map _
theorem vsL_len (r : PSt Int) : (vsL r).length = r.l.length := List.length_map _
theorem backL_len (r : PSt Int) : (backL r).length = r.free.length := List.length_map _
end

theorem ref_new (places : Int) (n : Nat) (B : Nat) (w0 w : World) (es : List Ent) (hl : Led B w0 w es) (hn : (n : Int) = max 0 (min places 65536)) :
    Calls Try.prog 36 #[.int .i64 places] w fun e w' => ∃ m, e = .returned (.pointer (some ⟨m, 0, none⟩)) ∧ Led B w0 w' (refEs m (.slice none 0 0) (.slice none 0 0) (.slice none 0 0) (.slice none 0 0) ⟨n, [], []⟩ ++ es) := by
  have HL := Lib.hid hl; clear hl
  have HN := Lib.hid hn
  have e2 : max (min places 65536) 0 = (n : Int) := by omega
  clear hn
  refine callsR fun R hR => ?_
  go_enter Try.func36, Try.ntmps36
  go_wp2_with fail
  refine hR.out _ _ ⟨w.heap.size, rfl, ?_⟩
  have e : ∀ (t : TypeId) (sz : Nat) (fs : List Ent), Led B w0 w fs → Led B w0 w (tabE t sz (.slice none 0 0) [] :: fs) := fun t sz fs h => h.add _ (Below.refl _ _) (TabIs.nil _ _ _ _) (by simp [tabE, Value.ownBlock])
  have h := (e 3 1 _ (e 4 1 _ (e 2 1 _ (e 3 1 _ HL.out)))).add (blkE w.heap.size 82 #[.int .i64 (n : Int), .slice none 0 0, .slice none 0 0, .slice none 0 0, .slice none 0 0]) ((Below.refl _ _).alloc (Nat.le_refl _) _) (Blk.new w 82 _) (fun b hb => by simp [blkE] at hb; omega)
  rw [HN.out] at h
  show Led B w0 _ (blkE _ _ #[.int .i64 (n : Int), _, _, _, _] :: _)
  rw [HN.out]
  exact h

set_option maxHeartbeats 2000000 in
/-- Why there is no such place. -/
theorem ref_look (B m : Nat) (gv iv vv bv : Value) (r : PSt Int) (a b : Int) (w0 w : World) (es : List Ent) (h : Led B w0 w (refEs m gv iv vv bv r ++ es)) (hm : r.l.length ≤ 65536) :
    Calls Try.prog 47 #[.pointer (some ⟨m, 0, none⟩), .agg #[.int .i64 a, .int .i64 b]] w fun e w' => e = .returned (.int .i64 (r.look a b)) ∧ Below w.heap.size w w' := by
  have hp := (refBlk h).lt
  obtain ⟨A, c, rfl, hc, hA⟩ := tab1_form (refGens h) (gensL_len r)
  obtain ⟨A2, c2, rfl, hc2, hA2⟩ := tab1_form (refIns h) (insL_len r)
  have c1 := (refBlk h).cell 1
  have c2' := (refBlk h).cell 2
  simp only [List.getElem?_toArray, List.getElem?_cons_zero, List.getElem?_cons_succ] at c1 c2'
  obtain ⟨q, hq⟩ : ∃ q, r.look a b = q := ⟨_, rfl⟩
  rw [hq]
  have HQ := Lib.hid hq; clear hq
  have HH := Lib.hid h; clear h
  by_cases h1 : a < 0
  · have hd1 : decide (a < 0) = true := by simpa using h1
    obtain rfl : q = 22 := by rw [← HQ.out]; unfold PSt.look; rw [if_pos (.inl h1)]
    refine callsR fun R hR => ?_
    go_enter Try.func47, Try.ntmps47
    go_wp2_with fail
    go_quiet (fail)
    go_wp2_with fail
    exact hR.out _ _ ⟨rfl, below_drewN ((Below.refl _ _).alloc (Nat.le_refl _) _) _⟩
  · have hd1 : decide (a < 0) = false := by simpa using h1
    by_cases h2 : (r.l.length : Int) ≤ a
    · have hd2 : decide ((r.l.length : Int) ≤ a) = true := by simpa using h2
      obtain rfl : q = 22 := by rw [← HQ.out]; unfold PSt.look; rw [if_pos (.inr (.inl h2))]
      refine callsR fun R hR => ?_
      go_enter Try.func47, Try.ntmps47
      go_wp2_with fail
      go_quiet (fail)
      go_wp2_with fail
      exact hR.out _ _ ⟨rfl, below_drewN ((Below.refl _ _).alloc (Nat.le_refl _) _) _⟩
    · have hd2 : decide ((r.l.length : Int) ≤ a) = false := by simp; omega
      by_cases h3 : b < 1
      · have hd3 : decide (b < 1) = true := by simpa using h3
        obtain rfl : q = 22 := by rw [← HQ.out]; unfold PSt.look; rw [if_pos (.inr (.inr h3))]
        refine callsR fun R hR => ?_
        go_enter Try.func47, Try.ntmps47
        go_wp2_with fail
        go_quiet (fail)
        go_wp2_with fail
        exact hR.out _ _ ⟨rfl, below_drewN ((Below.refl _ _).alloc (Nat.le_refl _) _) _⟩
      · have hd3 : decide (b < 1) = false := by simp; omega
        obtain ⟨i, rfl⟩ : ∃ i : Nat, a = (i : Int) := ⟨a.toNat, by omega⟩
        have hi : i < r.l.length := by omega
        obtain ⟨g, rfl, hg⟩ := hA (by omega)
        obtain ⟨g2, rfl, hg2⟩ := hA2 (by omega)
        obtain ⟨x, hx⟩ : ∃ x, r.l[i]? = some x := ⟨_, List.getElem?_eq_getElem hi⟩
        have hL : r.look i b = if x.gen < b then 22 else if b < x.gen ∨ x.taken = false then 23 else 0 := by
          unfold PSt.look
          rw [if_neg (by omega), Int.toNat_natCast, hx]
        rw [HQ.out] at hL
        clear HQ
        have g0 : w.cell? ⟨g, i, none⟩ = some (.int .i64 x.gen) := tab1_cell (refGens HH.out) (by rw [gensL, List.getElem?_map, hx]; rfl)
        have g1 : w.cell? ⟨g2, i, none⟩ = some (.bool x.taken) := tab1_cell (refIns HH.out) (by rw [insL, List.getElem?_map, hx]; rfl)
        clear hx
        obtain ⟨xg, xt, xv⟩ := x
        simp only at g0 g1 hL
        by_cases h4 : xg < b
        · have hd4 : decide (xg < b) = true := by simpa using h4
          rw [if_pos h4] at hL
          subst hL
          refine callsR fun R hR => ?_
          go_enter Try.func47, Try.ntmps47
          go_wp2_with fail
          go_quiet (fail)
          go_wp2_with fail
          exact hR.out _ _ ⟨rfl, below_drewN ((Below.refl _ _).alloc (Nat.le_refl _) _) _⟩
        · have hd4 : decide (xg < b) = false := by simp; omega
          rw [if_neg h4] at hL
          by_cases h5 : b < xg
          · have hd5 : decide (b < xg) = true := by simpa using h5
            rw [if_pos (.inl h5)] at hL
            subst hL
            refine callsR fun R hR => ?_
            go_enter Try.func47, Try.ntmps47
            go_wp2_with fail
            go_quiet (fail)
            go_wp2_with fail
            go_quiet (fail)
            go_wp2_with fail
            exact hR.out _ _ ⟨rfl, below_drewN (below_drewN ((Below.refl _ _).alloc (Nat.le_refl _) _) _) _⟩
          · have hd5 : decide (b < xg) = false := by simp; omega
            cases xt with
            | true =>
              rw [if_neg (by simp [h5])] at hL
              subst hL
              refine callsR fun R hR => ?_
              go_enter Try.func47, Try.ntmps47
              go_wp2_with fail
              go_quiet (fail)
              go_wp2_with fail
              go_quiet (fail)
              go_wp2_with fail
              exact hR.out _ _ ⟨rfl, below_drewN (below_drewN ((Below.refl _ _).alloc (Nat.le_refl _) _) _) _⟩
            | false =>
              rw [if_pos (.inr rfl)] at hL
              subst hL
              refine callsR fun R hR => ?_
              go_enter Try.func47, Try.ntmps47
              go_wp2_with fail
              go_quiet (fail)
              go_wp2_with fail
              go_quiet (fail)
              go_wp2_with fail
              exact hR.out _ _ ⟨rfl, below_drewN (below_drewN ((Below.refl _ _).alloc (Nat.le_refl _) _) _) _⟩

theorem ref_get_bad (B m : Nat) (gv iv vv bv : Value) (r : PSt Int) (a b e0 : Int) (w0 w : World) (es : List Ent) (h : Led B w0 w (refEs m gv iv vv bv r ++ es)) (hm : r.l.length ≤ 65536) (hl : r.look a b = e0) (he : e0 ≠ 0) :
    Calls Try.prog 37 #[.pointer (some ⟨m, 0, none⟩), .agg #[.int .i64 a, .int .i64 b]] w fun e w' => e = .returned (.tuple #[.int .i64 0, .int .i64 e0]) ∧ Below w.heap.size w w' := by
  have HH := Lib.hid (h.alloc (.cells #[.int .i64 a, .int .i64 b] 27)); clear h
  have HL := Lib.hid hl; clear hl
  have hb : (e0 != 0) = true := by simpa using he
  have HE := Lib.hid he; clear he
  refine callsR fun R hR => ?_
  go_enter Try.func37, Try.ntmps37
  go_wp2_with fail
  refine Calls.mono (ref_look B m gv iv vv bv r a b _ _ es HH.out hm) ?_
  rw [HL.out]
  rintro e w2 ⟨rfl, hb2⟩
  have B2 := Lib.hid hb2; clear hb2
  go_wp2_with fail
  exact hR.out _ _ ⟨rfl, ((Below.refl _ _).alloc (Nat.le_refl _) _).trans (B2.out.mono (by simp))⟩

theorem look_ok {α : Type} {s : PSt α} {i : Nat} {x : Pl α} (hx : s.l[i]? = some x) (ht : x.taken = true) (hg : 1 ≤ x.gen) : s.look i x.gen = 0 := by
  have hlt : i < s.l.length := (List.getElem?_eq_some_iff.1 hx).1
  unfold PSt.look
  rw [if_neg (by omega), Int.toNat_natCast, hx]
  simp only
  rw [if_neg (by omega), if_neg (by simp [ht])]

theorem ref_get_ok (B m : Nat) (gv iv vv bv : Value) (r : PSt Int) (i : Nat) (x : Pl Int) (w0 w : World) (es : List Ent) (h : Led B w0 w (refEs m gv iv vv bv r ++ es)) (hm : r.l.length ≤ 65536) (hx : r.l[i]? = some x) (ht : x.taken = true) (hg1 : 1 ≤ x.gen) :
    Calls Try.prog 37 #[.pointer (some ⟨m, 0, none⟩), .agg #[.int .i64 i, .int .i64 x.gen]] w fun e w' => e = .returned (.tuple #[.int .i64 x.v, .int .i64 0]) ∧ Below w.heap.size w w' := by
  have hlt : i < r.l.length := (List.getElem?_eq_some_iff.1 hx).1
  have HL := Lib.hid (look_ok hx ht hg1)
  obtain ⟨A, c, rfl, hc, hA⟩ := tab1_form (refVs h) (vsL_len r)
  obtain ⟨g, rfl, hg⟩ := hA (by omega)
  have HH := Lib.hid (h.alloc (.cells #[.int .i64 i, .int .i64 x.gen] 27)); clear h
  have HX := Lib.hid hx; clear hx ht hA
  refine callsR fun R hR => ?_
  go_enter Try.func37, Try.ntmps37
  go_wp2_with fail
  refine Calls.mono (ref_look B m gv iv _ bv r i x.gen _ _ es HH.out hm) ?_
  rw [HL.out]
  rintro e w2 ⟨rfl, hb2⟩
  have H2 := Lib.hid (HH.out.later hb2)
  have B2 := Lib.hid hb2
  have d3 := (refBlk H2.out).cell 3
  simp only [List.getElem?_toArray, List.getElem?_cons_zero, List.getElem?_cons_succ] at d3
  have g3 : w2.cell? ⟨g, i, none⟩ = some (.int .i64 x.v) := tab1_cell (refVs H2.out) (by rw [vsL, List.getElem?_map, HX.out]; rfl)
  have r0 : w2.cell? ⟨w.heap.size, 0, none⟩ = some (.int .i64 i) := (hb2.cell (p := ⟨w.heap.size, 0, none⟩) (by simp)).trans ((Blk.new w 27 #[.int .i64 i, .int .i64 x.gen]).cell 0)
  clear hb2
  go_wp2_with fail
  go_quiet (fail)
  go_wp2_with fail
  exact hR.out _ _ ⟨rfl, below_drewN (((Below.refl _ _).alloc (Nat.le_refl _) _).trans (B2.out.mono (by simp))) _⟩
end Go.Proofs.Ytognmhgdegpdiaa
