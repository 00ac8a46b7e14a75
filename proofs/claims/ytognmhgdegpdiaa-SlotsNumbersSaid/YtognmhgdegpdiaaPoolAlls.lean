import Derived.Test.YtognmhgdegpdiaaRefPool
section
/- Which places are taken, in a row: plain; and Same of two rows of Refs. -/
namespace Go.Proofs.Ytognmhgdegpdiaa
open Go.RowKit
set_option linter.unusedVariables false
set_option linter.unusedSimpArgs false
set_option maxRecDepth 100000

/-- The Refs of those of the first j places that are taken. -/
def allTo {α : Type} (l : List (Pl α)) (j : Nat) : List (Int × Int) := (l.take j).zipIdx.filterMap fun x => if x.1.taken then some ((x.2 : Int), x.1.gen) else none
def rowsR (q : List (Int × Int)) : List (List Value) := q.map fun p => [.int .i64 p.1, .int .i64 p.2]
theorem allTo_zero {α : Type} (l : List (Pl α)) : allTo l 0 = [] := rfl
theorem allTo_in {α : Type} {l : List (Pl α)} {j : Nat} {x : Pl α} (h : l[j]? = some x) (ht : x.taken = true) : allTo l (j + 1) = allTo l j ++ [((j : Int), x.gen)] := by
  have hj : j < l.length := (List.getElem?_eq_some_iff.1 h).1
  have hm : min j l.length = j := by omega
  simp [allTo, List.take_add_one, h, List.zipIdx_append, ht, hm]
theorem allTo_out {α : Type} {l : List (Pl α)} {j : Nat} {x : Pl α} (h : l[j]? = some x) (ht : x.taken = false) : allTo l (j + 1) = allTo l j := by
  simp [allTo, List.take_add_one, h, List.zipIdx_append, ht]
theorem allTo_le {α : Type} (l : List (Pl α)) (j : Nat) : (allTo l j).length ≤ l.length := by
  unfold allTo
  refine Nat.le_trans (List.length_filterMap_le _ _) ?_
  simp
  omega
/-- Two pools whose places have the same lives, and are taken alike, tell the same. -/
theorem allTo_same {α β : Type} : ∀ (l : List (Pl α)) (m : List (Pl β)), l.map (fun x => (x.gen, x.taken)) = m.map (fun x => (x.gen, x.taken)) → ∀ j, allTo l j = allTo m j := by
  have key : ∀ (l : List (Pl α)) (m : List (Pl β)), l.map (fun x => (x.gen, x.taken)) = m.map (fun x => (x.gen, x.taken)) → ∀ k, (l.zipIdx k).filterMap (fun x => if x.1.taken then some ((x.2 : Int), x.1.gen) else none) = (m.zipIdx k).filterMap (fun x => if x.1.taken then some ((x.2 : Int), x.1.gen) else none) := by
    intro l
    induction l with
    | nil => intro m h k; cases m with | nil => rfl | cons y m => simp at h
    | cons x l ih =>
      intro m h k
      cases m with
      | nil => simp at h
      | cons y m =>
        simp only [List.map_cons, List.cons.injEq, Prod.mk.injEq] at h
        simp only [List.zipIdx_cons, List.filterMap_cons, h.1.1, h.1.2, ih m h.2]
  intro l m h j
  exact key _ _ (by rw [List.map_take, List.map_take, h]) 0

theorem range_filter_perm {p : Nat → Bool} {f : List Nat} {n : Nat} (hn : f.Nodup) (h : ∀ i, i ∈ f ↔ i < n ∧ p i = true) : f.length = ((List.range n).filter p).length :=
  (List.perm_iff_count.2 fun a => by
    have h1 : f.count a = if a ∈ f then 1 else 0 := hn.count
    have hnd : ((List.range n).filter p).Nodup := List.nodup_range.filter _
    have h2 : ((List.range n).filter p).count a = if a ∈ (List.range n).filter p then 1 else 0 := hnd.count
    rw [h1, h2]
    have : a ∈ f ↔ a ∈ (List.range n).filter p := by rw [h a]; simp
    simp only [this]).length_eq

/-- As many are taken as are not free. -/
theorem PSt.WF.all_len {α : Type} {s : PSt α} (h : s.WF) : (allTo s.l s.l.length).length + s.free.length = s.l.length := by
  have h1 : s.free.length = ((List.range s.l.length).filter fun i => (s.l[i]?.map fun x => !x.taken).getD false).length := by
    refine range_filter_perm h.nodup fun i => ?_
    rw [h.free i]
    constructor
    · rintro ⟨x, hx, ht⟩
      exact ⟨(List.getElem?_eq_some_iff.1 hx).1, by simp [hx, ht]⟩
    · rintro ⟨hi, hp⟩
      refine ⟨_, List.getElem?_eq_getElem hi, ?_⟩
      simpa [hi] using hp
  have h2 : ∀ j, j ≤ s.l.length → (allTo s.l j).length + ((List.range j).filter fun i => (s.l[i]?.map fun x => !x.taken).getD false).length = j := by
    intro j
    induction j with
    | zero => intro _; rfl
    | succ j ih =>
      intro hj
      have hj2 : j < s.l.length := by omega
      have hx := List.getElem?_eq_getElem hj2
      have := ih (by omega)
      rw [List.range_succ, List.filter_append, List.length_append]
      cases ht : s.l[j].taken with
      | true => rw [allTo_in hx ht]; simp [ht, hj2]; omega
      | false => rw [allTo_out hx ht]; simp [ht, hj2]; omega
  have := h2 s.l.length (Nat.le_refl _)
  omega

theorem ref_all (B m : Nat) (gv iv vv bv : Value) (r : PSt Int) (w0 w : World) (es : List Ent) (h : Led B w0 w (refEs m gv iv vv bv r ++ es)) (hm : r.l.length ≤ 65536) :
    Calls Try.prog 48 #[.pointer (some ⟨m, 0, none⟩)] w fun e w' => ∃ v, e = .returned v ∧ Led B w0 w' (tabE 27 2 v (rowsR (allTo r.l r.l.length)) :: (refEs m gv iv vv bv r ++ es)) := by
  obtain ⟨A, c, rfl, hc, hA⟩ := tab1_form (refGens h) (gensL_len r)
  obtain ⟨A2, c2, rfl, hc2, hA2⟩ := tab1_form (refIns h) (insL_len r)
  have S := Lib.hid (h.add (tabE 27 2 (.slice none 0 0) (rowsR (allTo r.l 0))) (Below.refl _ _) (TabIs.nil _ _ _ _) (by simp [tabE, Value.ownBlock])); clear h
  refine callsR fun R hR => ?_
  go_enter Try.func48, Try.ntmps48
  go_wp2_with fail
  go_loopw [3, 4] (fun a i wx => ∃ j : Nat, j ≤ r.l.length ∧ i = .int .i64 j ∧ Hid (Led B w0 wx (tabE 27 2 a (rowsR (allTo r.l j)) :: (refEs m (.slice A r.l.length c) (.slice A2 r.l.length c2) vv bv r ++ es)))) (fun _ i _ => r.l.length - (intOf i).toNat)
  case atStart => exact ⟨0, by omega, rfl, S⟩
  case round =>
    clear S
    obtain ⟨j, hj, rfl, S⟩ := hrel
    have hT : TabIs wr 0 27 2 u3 (rowsR (allTo r.l j)) := S.out.at_ 0 rfl
    have d1 := (refBlk S.out.tail).cell 1
    have d2 := (refBlk S.out.tail).cell 2
    simp only [List.getElem?_toArray, List.getElem?_cons_zero, List.getElem?_cons_succ] at d1 d2
    have HT := Lib.hid hT; clear hT
    by_cases hlt : j < r.l.length
    · obtain ⟨g, rfl, hg⟩ := hA (by omega)
      obtain ⟨g2, rfl, hg2⟩ := hA2 (by omega)
      obtain ⟨x, hx⟩ : ∃ x, r.l[j]? = some x := ⟨_, List.getElem?_eq_getElem hlt⟩
      have c0 : wr.cell? ⟨g, j, none⟩ = some (.int .i64 x.gen) := tab1_cell (refGens S.out.tail) (by rw [gensL, List.getElem?_map, hx]; rfl)
      have c1 : wr.cell? ⟨g2, j, none⟩ = some (.bool x.taken) := tab1_cell (refIns S.out.tail) (by rw [insL, List.getElem?_map, hx]; rfl)
      have HX := Lib.hid hx; clear hx
      cases ht : x.taken with
      | true =>
        rw [ht] at c1
        have hll : (rowsR (allTo r.l j)).length ≤ 1000000000 := by
          have := allTo_le r.l j
          simp [rowsR]
          omega
        go_wp2_with (at_builtin; refine wpList_push (by rfl) (.tmp 21) (.tmp 31) 25 (by rfl) 0 27 _ 2 16 Try.underlying25 info_ref_ (by rfl) (by decide) u3 _ #[.int .i64 j, .int .i64 x.gen] (by rfl) (by exact HT.out) (by rfl) (by rfl) (one_ref _ _) hll (by decide) (Nat.zero_le _) ?_; intro v' w' q1 q2 q3)
        have S2 := Lib.hid (S.out.step 0 rfl (tabE 27 2 v' (rowsR (allTo r.l (j + 1)))) q2 (by rw [allTo_in HX.out ht]; simpa [rowsR, tabE] using q1) q3)
        clear q1 q2 q3
        go_roundw
        case rel => exact ⟨j + 1, by omega, by go_num, S2⟩
        case measure => simp [intOf]; omega
      | false =>
        rw [ht] at c1
        go_wp2_with fail
        go_roundw
        case rel => exact ⟨j + 1, by omega, by go_num, by rw [allTo_out HX.out ht]; exact S⟩
        case measure => simp [intOf]; omega
    · obtain rfl : j = r.l.length := by omega
      go_wp2_with fail
      exact hR.out _ _ ⟨_, rfl, S.out⟩

end Go.Proofs.Ytognmhgdegpdiaa

end
section
/- The document's own pool (thicketref2): Set, Give, Take. -/
namespace Go.Proofs.Ytognmhgdegpdiaa
open Go.RowKit
set_option linter.unusedVariables false
set_option linter.unusedSimpArgs false
set_option maxRecDepth 100000

theorem map_set_same {α β : Type} {f : α → β} {l : List α} {i : Nat} {x y : α} (hx : l[i]? = some x) (h : f y = f x) : (l.set i y).map f = l.map f := by
  apply List.ext_getElem?
  intro j
  rw [List.getElem?_map, List.getElem?_map]
  by_cases hi : i = j
  · subst hi
    rw [List.getElem?_set_self (List.getElem?_eq_some_iff.1 hx).1, hx]
    simp [h]
  · rw [List.getElem?_set_ne hi]

/-- A store into the values. -/
theorem ref_setV {B m : Nat} {gv iv bv : Value} {r : PSt Int} {i g n c : Nat} {x : Pl Int} {v : Int} {w0 w : World} {es : List Ent} (h : Led B w0 w (refEs m gv iv (.slice (some ⟨g, 0, none⟩) n c) bv r ++ es)) (hx : r.l[i]? = some x) :
    Led B w0 (w.setCell ⟨g, i, none⟩ (.int .i64 v)) (refEs m gv iv (.slice (some ⟨g, 0, none⟩) n c) bv (r.setAt i x v) ++ es) := by
  have hT := refVs h
  have h1 := hT.set (i := i) (j := 0) (r := [.int .i64 x.v]) (.int .i64 v) (by rw [vsL, List.getElem?_map, hx]; rfl) (by decide)
  rw [Nat.mul_one, Nat.add_zero] at h1
  have h2 := h.step 3 rfl (tabE 2 1 (.slice (some ⟨g, 0, none⟩) n c) (vsL (r.setAt i x v))) ((Chg.refl _ _).setCell (p := ⟨g, i, none⟩) (.inl (by simp [tabE, Value.ownBlock])) (.int .i64 v)) (by simpa [tabE, vsL, PSt.setAt, List.map_set] using h1) (Fresh.refl _ _)
  have e1 : gensL (r.setAt i x v) = gensL r := map_set_same hx rfl
  have e2 : insL (r.setAt i x v) = insL r := map_set_same hx rfl
  show Led B w0 _ ([blkE m _ _, tabE _ _ _ (gensL (r.setAt i x v)), tabE _ _ _ (insL (r.setAt i x v)), tabE _ _ _ _, tabE _ _ _ _] ++ es)
  rw [e1, e2]
  exact h2

end Go.Proofs.Ytognmhgdegpdiaa

end
