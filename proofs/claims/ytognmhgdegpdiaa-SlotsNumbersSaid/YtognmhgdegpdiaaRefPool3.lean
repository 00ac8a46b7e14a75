import Derived.Test.YtognmhgdegpdiaaPoolAlls
import Derived.Test.YtognmhgdegpdiaaLedEffs
/- The document's own pool (thicketref2): Give. -/
namespace Go.Proofs.Ytognmhgdegpdiaa
open Go.RowKit
set_option linter.unusedVariables false
set_option linter.unusedSimpArgs false
set_option maxRecDepth 100000

theorem ref_give_bad (B m : Nat) (gv iv vv bv : Value) (r : PSt Int) (a b e0 : Int) (w0 w : World) (es : List Ent) (h : Led B w0 w (refEs m gv iv vv bv r ++ es)) (hm : r.l.length ≤ 65536) (hl : r.look a b = e0) (he : e0 ≠ 0) :
    Calls Try.prog 41 #[.pointer (some ⟨m, 0, none⟩), .agg #[.int .i64 a, .int .i64 b]] w fun e w' => e = .returned (.tuple #[.int .i64 0, .int .i64 e0]) ∧ Below w.heap.size w w' := by
  have HH := Lib.hid (h.alloc (.cells #[.int .i64 a, .int .i64 b] 27)); clear h
  have HL := Lib.hid hl; clear hl
  have hb : (e0 != 0) = true := by simpa using he
  have HE := Lib.hid he; clear he
  refine callsR fun R hR => ?_
  go_enter Try.func41, Try.ntmps41
  go_wp2_with fail
  refine Calls.mono (ref_look B m gv iv vv bv r a b _ _ es HH.out hm) ?_
  rw [HL.out]
  rintro e w2 ⟨rfl, hb2⟩
  have B2 := Lib.hid hb2; clear hb2
  go_wp2_with fail
  exact hR.out _ _ ⟨rfl, ((Below.refl _ _).alloc (Nat.le_refl _) _).trans (B2.out.mono (by simp))⟩

def PSt.setIn (s : PSt Int) (i : Nat) (x : Pl Int) (b : Bool) : PSt Int := { s with l := s.l.set i ⟨x.gen, b, x.v⟩ }
/-- A store into 'taken'. -/
theorem ref_setI {B m : Nat} {gv vv bv : Value} {r : PSt Int} {i g n c : Nat} {x : Pl Int} {b : Bool} {w0 w : World} {es : List Ent} (h : Led B w0 w (refEs m gv (.slice (some ⟨g, 0, none⟩) n c) vv bv r ++ es)) (hx : r.l[i]? = some x) :
    Led B w0 (w.setCell ⟨g, i, none⟩ (.bool b)) (refEs m gv (.slice (some ⟨g, 0, none⟩) n c) vv bv (r.setIn i x b) ++ es) := by
  have hT := refIns h
  have h1 := hT.set (i := i) (j := 0) (r := [.bool x.taken]) (.bool b) (by rw [insL, List.getElem?_map, hx]; rfl) (by decide)
  rw [Nat.mul_one, Nat.add_zero] at h1
  have h2 := h.step 2 rfl (tabE 4 1 (.slice (some ⟨g, 0, none⟩) n c) (insL (r.setIn i x b))) ((Chg.refl _ _).setCell (p := ⟨g, i, none⟩) (.inl (by simp [tabE, Value.ownBlock])) (.bool b)) (by simpa [tabE, insL, PSt.setIn, List.map_set] using h1) (Fresh.refl _ _)
  have e1 : gensL (r.setIn i x b) = gensL r := map_set_same hx rfl
  have e2 : vsL (r.setIn i x b) = vsL r := map_set_same hx rfl
  show Led B w0 _ ([blkE m _ _, tabE _ _ _ (gensL (r.setIn i x b)), tabE _ _ _ _, tabE _ _ _ (vsL (r.setIn i x b)), tabE _ _ _ _] ++ es)
  rw [e1, e2]
  exact h2

theorem Led.insert5 {B : Nat} {w0 w : World} {a b c d e f : Ent} {es : List Ent} (h : Led B w0 w ([a, b, c, d, e] ++ f :: es)) (p : Prop) (hq : p) : Led B w0 w ([a, b, c, d, e] ++ f :: pureE p :: es) :=
  Led.insert (es := [a, b, c, d, e, f]) (fs := es) h (pureE p) (Below.refl _ _) hq (by simp [pureE])

def rowB (back : List (List Value)) (i : Nat) (b0 a0 a1 : Option Value) : List Ent := match a1 with
  | some v => [tabE 3 1 v (back ++ [[.int .i64 (i : Int)]])]
  | none => match a0 with
    | some v => [tabE 3 1 v back]
    | none => match b0 with
      | some v => [tabE 3 1 v []]
      | none => []
def pendB (i : Nat) (b1 a1 : Option Value) : List Ent := match a1 with
  | some _ => []
  | none => match b1 with
    | some (.slice (some ⟨g, 0, none⟩) 1 1) => [blkE g 3 #[.int .i64 (i : Int)]]
    | some _ => [pureE False]
    | none => []
def giveEnts (m : Nat) (gv iv vv bv : Value) (r : PSt Int) (hb i : Nat) (gen : Int) (es : List Ent) (env : List (Option Value)) : List Ent :=
  refEs m gv iv vv bv r ++ blkE hb 27 #[.int .i64 (i : Int), .int .i64 gen] :: pureE (∀ v, env.getD 0 none = some v → v = bv) :: (rowB (backL r) i (env.getD 1 none) (env.getD 2 none) (env.getD 4 none) ++ (pendB i (env.getD 3 none) (env.getD 4 none) ++ es))

theorem backL_one (r : PSt Int) : ∀ c ∈ backL r, ∀ u ∈ c, u.oneCell' = true := by
  intro c hc u hu
  obtain ⟨i, _, rfl⟩ := List.mem_map.1 hc
  simp at hu
  subst hu
  rfl
theorem pendB_form (i : Nat) (vb : Value) : (∃ g, vb = .slice (some ⟨g, 0, none⟩) 1 1) ∨ pendB i (some vb) none = [pureE False] := by
  by_cases h : ∃ g, vb = .slice (some ⟨g, 0, none⟩) 1 1
  · exact .inl h
  · right
    unfold pendB
    simp only
    split
    · rename_i g heq
      injection heq with heq
      exact absurd ⟨g, heq⟩ h
    · rfl
    · rename_i heq
      cases heq
set_option maxHeartbeats 4000000 in
theorem ref_give_ok (B m : Nat) (gv iv vv bv : Value) (r : PSt Int) (i : Nat) (x : Pl Int) (w0 w : World) (es : List Ent) (h : Led B w0 w (refEs m gv iv vv bv r ++ es)) (hm : r.l.length ≤ 65536) (hx : r.l[i]? = some x) (ht : x.taken = true) (hg1 : 1 ≤ x.gen) (hfl : r.free.length ≤ 65536) :
    Calls Try.prog 41 #[.pointer (some ⟨m, 0, none⟩), .agg #[.int .i64 i, .int .i64 x.gen]] w fun e w' => e = .returned (.tuple #[.int .i64 x.v, .int .i64 0]) ∧ ∃ bv', Led B w0 w' (refEs m gv iv vv bv' (r.giveAt i x x.v) ++ es) := by
  have hlt : i < r.l.length := (List.getElem?_eq_some_iff.1 hx).1
  have HL := Lib.hid (look_ok hx ht hg1)
  obtain ⟨A, c, rfl, hc, hA⟩ := tab1_form (refIns h) (insL_len r)
  obtain ⟨g, rfl, hg⟩ := hA (by omega)
  obtain ⟨A3, c3, rfl, hc3, hA3⟩ := tab1_form (refVs h) (vsL_len r)
  obtain ⟨g3, rfl, hg3⟩ := hA3 (by omega)
  have hmlt := (refBlk h).lt
  have hgm : g ≠ m := fun e => (refIns h).ne_blk (refBlk h) (by decide) (by simp [Value.ownBlock, e])
  have hmg := hgm.symm
  have HH := Lib.hid (h.add (blkE w.heap.size 27 #[.int .i64 i, .int .i64 x.gen]) ((Below.refl _ _).alloc (Nat.le_refl _) (.cells #[.int .i64 i, .int .i64 x.gen] 27)) (Blk.new w _ _) (fun b hb => by simp [blkE] at hb; omega) |>.perm List.perm_middle.symm); clear h
  have HX := Lib.hid hx; clear hx ht hA hA3
  refine callsR fun R hR => ?_
  go_enter Try.func41, Try.ntmps41
  go_wp2_with fail
  refine Calls.mono (ref_look B m gv _ _ bv r i x.gen _ _ _ HH.out hm) ?_
  rw [HL.out]
  rintro e w2 ⟨rfl, hb2⟩
  have H2 := Lib.hid (HH.out.later hb2)
  have d2 := (refBlk H2.out).cell 2
  simp only [List.getElem?_toArray, List.getElem?_cons_zero, List.getElem?_cons_succ] at d2
  have c3 : w2.cell? ⟨g, i, none⟩ = some (.bool x.taken) := tab1_cell (refIns H2.out) (by rw [insL, List.getElem?_map, HX.out]; rfl)
  have fg3 : w2.frozen? ⟨g, i, none⟩ = false := (refIns H2.out).frozen _
  have hbx : Blk w2 w.heap.size 27 #[.int .i64 i, .int .i64 x.gen] := H2.out.at_ 5 rfl
  have r0 := hbx.cell 0
  simp only [List.getElem?_toArray, List.getElem?_cons_zero, List.getElem?_cons_succ] at r0
  have hgw : g ≠ w.heap.size := by omega
  have hwg : w.heap.size ≠ g := by omega
  have HS := Lib.hid (ref_setI (b := false) H2.out HX.out)
  clear hb2 hbx
  go_wp2_with fail
  go_region_held3 (fun wx => wx.cell? ⟨m, 2, none⟩ = some (.slice (some ⟨g, 0, none⟩) r.l.length c) ∧ wx.cell? ⟨w.heap.size, 0, none⟩ = some (.int .i64 i)) (go_keep) (fail)
  have H3 := Lib.hid (HS.out.drewN 1)
  clear r0 d2 c3 fg3 H2 HS HH
  have HBX := Lib.hid (show Led B w0 _ (giveEnts m gv _ _ bv (r.setIn i x false) w.heap.size i x.gen es [none, none, none, none, none]) from H3.out.insert5 (∀ v, (none : Option Value) = some v → v = bv) (fun v hv => by cases hv))
  go_wp2_with fail
  refine wp_region_held_drew (S := fun wx => wx.cell? ⟨w.heap.size, 0, none⟩ = some (.int .i64 i)) (by kernel_rfl) ?_ (fun hHeld => ?_)
  · exact (show Blk _ w.heap.size 27 #[.int .i64 i, .int .i64 x.gen] from HBX.out.at_ 5 rfl).cell 0
  refine wpAnyH_read (i := 0) (d := 20) (v := ?_) rfl rfl rfl (by kernel_rfl) (by kernel_rfl) (by kernel_rfl) (fun _ _ _ h => h) hHeld ?_ ?_
  rotate_left
  · intro w hSw
    (try dsimp only at hSw)
    go_simp
    (try with_reducible rfl)
  (try simp only [List.setIfInBounds_toArray, List.set_cons_zero, List.set_cons_succ])
  refine wpAnyH_read (i := 2) (d := 22) (v := ?_) rfl rfl rfl (by kernel_rfl) (by kernel_rfl) (by kernel_rfl) (fun _ _ _ h => h) hHeld ?_ ?_
  rotate_left
  · intro w hSw
    (try dsimp only at hSw)
    go_simp
    (try with_reducible rfl)
  (try simp only [List.setIfInBounds_toArray, List.set_cons_zero, List.set_cons_succ])
  refine wpAnyH_read (i := 3) (d := 23) (v := ?_) rfl rfl rfl (by kernel_rfl) (by kernel_rfl) (by kernel_rfl) (fun _ _ _ h => h) hHeld ?_ ?_
  rotate_left
  · intro w hSw
    (try dsimp only at hSw)
    go_simp
    (try with_reducible rfl)
  (try simp only [List.setIfInBounds_toArray, List.set_cons_zero, List.set_cons_succ])
  refine wpAnyH_read (i := 4) (d := 24) (v := ?_) rfl rfl rfl (by kernel_rfl) (by kernel_rfl) (by kernel_rfl) (fun _ _ _ h => h) hHeld ?_ ?_
  rotate_left
  · intro w hSw
    (try dsimp only at hSw)
    go_simp
    (try with_reducible rfl)
  (try simp only [List.setIfInBounds_toArray, List.set_cons_zero, List.set_cons_succ])
  refine wpAnyH_read (i := 7) (d := 27) (v := ?_) rfl rfl rfl (by kernel_rfl) (by kernel_rfl) (by kernel_rfl) (fun _ _ _ h => h) hHeld ?_ ?_
  rotate_left
  · intro w hSw
    (try dsimp only at hSw)
    go_simp
    (try with_reducible rfl)
  (try simp only [List.setIfInBounds_toArray, List.set_cons_zero, List.set_cons_succ])
  refine wpAnyH_read (i := 8) (d := 28) (v := ?_) rfl rfl rfl (by kernel_rfl) (by kernel_rfl) (by kernel_rfl) (fun _ _ _ h => h) hHeld ?_ ?_
  rotate_left
  · intro w hSw
    (try dsimp only at hSw)
    go_simp
    (try with_reducible rfl)
  (try simp only [List.setIfInBounds_toArray, List.set_cons_zero, List.set_cons_succ])
  clear hHeld
  refine wpAnyH_effects0 (B := B) (w0 := w0) (F := 3) [⟨5, 25⟩, ⟨1, 21⟩, ⟨6, 26⟩, ⟨9, 29⟩, ⟨10, 30⟩] [[], [], [0, 1], [], [2, 3]] (giveEnts m gv _ _ bv (r.setIn i x false) w.heap.size i x.gen es) (by kernel_rfl) (HBX.out.drew) (by decide) (by simp) ?hlaw ?hS ?hfin
  case hlaw =>
    intro j e he
    unfold EffLaw
    intro env a wa K hlen hj hdep hcl hev hst hl hK
    rcases env with _ | ⟨e0, _ | ⟨e1, _ | ⟨e2, _ | ⟨e3, _ | ⟨e4, _ | ⟨e5, env⟩⟩⟩⟩⟩⟩
    · simp at hlen
    · simp at hlen
    · simp at hlen
    · simp at hlen
    · simp at hlen
    · have c21 : e1 = none → e2 = none := fun h1 => by
        cases e2 with
        | none => rfl
        | some v => obtain ⟨u, hu⟩ := hcl 2 1 (by simp) ⟨v, rfl⟩; rw [h1] at hu; simp at hu
      have c42 : e2 = none → e4 = none := fun h1 => by
        cases e4 with
        | none => rfl
        | some v => obtain ⟨u, hu⟩ := hcl 4 2 (by simp) ⟨v, rfl⟩; rw [h1] at hu; simp at hu
      have c43 : e3 = none → e4 = none := fun h1 => by
        cases e4 with
        | none => rfl
        | some v => obtain ⟨u, hu⟩ := hcl 4 3 (by simp) ⟨v, rfl⟩; rw [h1] at hu; simp at hu
      rcases j with _ | _ | _ | _ | _ | j
      · simp at he hj
        subst he hj
        have h24 : a.eval (.tmp 24) = .pointer (some ⟨m, 4, none⟩) := (hst (.tmp 24) (by simp)).trans (by kernel_rfl)
        have d4 := (show Blk wa m 82 #[.int .i64 r.most, gv, _, _, bv] from hl.at_ 0 rfl).cell 4
        simp only [List.getElem?_toArray, List.getElem?_cons_zero, List.getElem?_cons_succ] at d4
        have h24' : a.tmps[24]?.getD undef = .pointer (some ⟨m, 4, none⟩) := by simpa [Act.eval] using h24
        refine wpOp_load (v := bv) rfl rfl rfl (by simp [execOp, h24', go_sem, d4]) (hK bv wa ?_)
        exact Led.pure_ (es := refEs m gv (.slice (some ⟨g, 0, none⟩) r.l.length c) (.slice (some ⟨g3, 0, none⟩) r.l.length c3) bv (r.setIn i x false) ++ [blkE w.heap.size 27 #[.int .i64 i, .int .i64 x.gen]]) (fs := rowB (backL r) i e1 e2 e4 ++ (pendB i e3 e4 ++ es)) hl (fun v hv => by injection hv with hv; exact hv.symm)
      · simp at he hj
        subst he hj
        obtain rfl := c21 rfl
        obtain rfl := c42 rfl
        exact wpOp_build0 (es := refEs m gv (.slice (some ⟨g, 0, none⟩) r.l.length c) (.slice (some ⟨g3, 0, none⟩) r.l.length c3) bv (r.setIn i x false) ++ [blkE w.heap.size 27 #[.int .i64 i, .int .i64 x.gen], pureE (∀ v, e0 = some v → v = bv)]) (fs := pendB i e3 none ++ es) (sz := 1) (q := (.int .i64 0, 1, 8)) rfl rfl rfl rfl Try.underlying22 info_int_ hl hK
      · simp at he hj
        subst he hj
        obtain rfl := c42 rfl
        obtain ⟨u, hu⟩ := hdep 0 (by simp)
        obtain ⟨v0, hv0⟩ := hdep 1 (by simp)
        simp at hu hv0
        subst hu hv0
        obtain rfl : u = bv := (show ∀ v, some u = some v → v = bv from hl.at_ 6 rfl) u rfl
        exact wpOp_appendAll (es := refEs m gv (.slice (some ⟨g, 0, none⟩) r.l.length c) (.slice (some ⟨g3, 0, none⟩) r.l.length c3) u (r.setIn i x false) ++ [blkE w.heap.size 27 #[.int .i64 i, .int .i64 x.gen], pureE (∀ v, some u = some v → v = u)]) (fs := pendB i e3 none ++ es) (L := []) (M := backL r) rfl rfl rfl rfl Try.underlying22 info_int_ rfl (by decide) (by decide) (by rw [backL_len]; simp; omega) (backL_one r) (hev 1 ⟨1, 21⟩ v0 rfl rfl) (hev 0 ⟨5, 25⟩ u rfl rfl) hl (by simp [refEs, PSt.setIn, backL]) hK
      · simp at he hj
        subst he hj
        obtain rfl := c43 rfl
        have hl2 : Led B w0 wa ((refEs m gv (.slice (some ⟨g, 0, none⟩) r.l.length c) (.slice (some ⟨g3, 0, none⟩) r.l.length c3) bv (r.setIn i x false) ++ blkE w.heap.size 27 #[.int .i64 i, .int .i64 x.gen] :: pureE (∀ v, e0 = some v → v = bv) :: rowB (backL r) i e1 e2 none) ++ es) := by simpa [giveEnts, pendB, backL, PSt.setIn] using hl
        refine wpOp_build ⟨9, 10, 29, 30, 22, 3, 1, 8, .int .i64 0, .tmp 26, .tmp 28, .int .i64 0, [], #[.int .i64 (i : Int)], .int .i64 i⟩ rfl rfl rfl rfl Try.underlying22 info_int_ (show 0 < 1 by decide) (show 1 ≤ 1000 by decide) ?_ hl2 (fun g' w' hw' => hK _ _ ?_)
        · rw [show a.eval (.tmp 28) = .int .i64 (i : Int) from (hst (.tmp 28) (by simp)).trans (by kernel_rfl)]
          exact fill_1 _ _ rfl
        · simpa [giveEnts, pendB, backL, PSt.setIn] using hw'
      · simp at he hj
        subst he hj
        obtain ⟨v1, hv1⟩ := hdep 2 (by simp)
        obtain ⟨vb, hvb⟩ := hdep 3 (by simp)
        simp at hv1 hvb
        subst hv1 hvb
        rcases pendB_form i vb with ⟨g', rfl⟩ | hbad
        · refine wpOp_append (es := refEs m gv (.slice (some ⟨g, 0, none⟩) r.l.length c) (.slice (some ⟨g3, 0, none⟩) r.l.length c3) bv (r.setIn i x false) ++ [blkE w.heap.size 27 #[.int .i64 i, .int .i64 x.gen], pureE (∀ v, e0 = some v → v = bv)]) (fs := es) (g := g') ⟨9, 10, 29, 30, 22, 3, 1, 8, .int .i64 0, .tmp 26, .tmp 28, v1, backL r, #[.int .i64 (i : Int)], .int .i64 i⟩ rfl rfl rfl rfl Try.underlying22 info_int_ rfl (show 0 < 1 by decide) (show 8 ≤ 1000 by decide) (by rw [backL_len]; omega) rfl (one_int _) (hev 2 ⟨6, 26⟩ v1 rfl rfl) (hev 3 ⟨9, 29⟩ _ rfl rfl) hl ?_
          exact fun v' w' hw' => hK v' w' hw'
        · have hf : (pureE False).is wa := hl.all _ (by
            have : giveEnts m gv (.slice (some ⟨g, 0, none⟩) r.l.length c) (.slice (some ⟨g3, 0, none⟩) r.l.length c3) bv (r.setIn i x false) w.heap.size i x.gen es [e0, e1, some v1, some vb, none] = refEs m gv (.slice (some ⟨g, 0, none⟩) r.l.length c) (.slice (some ⟨g3, 0, none⟩) r.l.length c3) bv (r.setIn i x false) ++ blkE w.heap.size 27 #[.int .i64 (i : Int), .int .i64 x.gen] :: pureE (∀ v, e0 = some v → v = bv) :: (rowB (backL (r.setIn i x false)) i e1 (some v1) none ++ (pendB i (some vb) none ++ es)) := rfl
            rw [this, hbad]
            simp)
          exact hf.elim
      · simp at he
    · simp at hlen
  case hS =>
    intro wx env _ hl
    exact (show Blk _ w.heap.size 27 #[.int .i64 i, .int .i64 x.gen] from hl.at_ 5 rfl).cell 0
  case hfin =>
    intro zs wz hz1 hz2 hl
    obtain ⟨u0, u1, u2, u3, u4, rfl⟩ := finE5 hz1 hz2
    obtain ⟨Au, cu, hu4, _⟩ := (show TabIs wz 0 3 1 u4 (backL r ++ [[.int .i64 (i : Int)]]) from hl.at_ 7 rfl).form
    subst hu4
    generalize (backL r ++ [[Value.int .i64 (i : Int)]]).length = nu at *
    have H5 := Lib.hid hl
    clear hl hz1 hz2
    simp only [foldE, List.foldl_cons, List.foldl_nil, putE, Act.put, List.setIfInBounds_toArray, List.set_cons_zero, List.set_cons_succ]
    have hHeld : (fun wx : World => wx.cell? ⟨w.heap.size, 0, none⟩ = some (.int .i64 i)) wz := (show Blk _ w.heap.size 27 #[.int .i64 i, .int .i64 x.gen] from H5.out.at_ 5 rfl).cell 0
    refine wpAnyH_read (i := 11) (d := 31) (v := ?_) rfl rfl rfl (by kernel_rfl) (by kernel_rfl) (by kernel_rfl) (fun _ _ _ h => h) hHeld ?_ ?_
    rotate_left
    · intro w hSw
      (try dsimp only at hSw)
      go_simp
      (try with_reducible rfl)
    (try simp only [List.setIfInBounds_toArray, List.set_cons_zero, List.set_cons_succ])
    refine wpAnyH_read (i := 12) (d := 32) (v := ?_) rfl rfl rfl (by kernel_rfl) (by kernel_rfl) (by kernel_rfl) (fun _ _ _ h => h) hHeld ?_ ?_
    rotate_left
    · intro w hSw
      (try dsimp only at hSw)
      go_simp
      (try with_reducible rfl)
    (try simp only [List.setIfInBounds_toArray, List.set_cons_zero, List.set_cons_succ])
    refine wpAnyH_ready (rs := [13]) (by kernel_rfl) (by simp) ?_
    refine AllReadyH.cons (o := _) rfl (fun K hK => ?_) AllReadyH.nil
    have hmb : Blk wz m 82 #[.int .i64 r.most, gv, .slice (some ⟨g, 0, none⟩) r.l.length c, .slice (some ⟨g3, 0, none⟩) r.l.length c3, bv] := H5.out.at_ 0 rfl
    have d4 := hmb.cell 4
    have fd4 := hmb.frozen 4
    simp only [List.getElem?_toArray, List.getElem?_cons_zero, List.getElem?_cons_succ] at d4
    have h6 := H5.out.step 0 rfl (blkE m 82 #[.int .i64 r.most, gv, .slice (some ⟨g, 0, none⟩) r.l.length c, .slice (some ⟨g3, 0, none⟩) r.l.length c3, .slice Au nu cu]) ((Chg.refl _ _).setCell (p := ⟨m, 4, none⟩) (.inl (by simp [blkE])) (.slice Au nu cu)) (by have := hmb.set_ 4 (.slice Au nu cu); simpa [blkE] using this) (Fresh.refl _ _)
    have H6 := Lib.hid h6
    clear h6 hmb
    go_simp
    refine hK.out _ _ ?_ (fun _ => ?_)
    · exact (show Blk _ w.heap.size 27 #[.int .i64 i, .int .i64 x.gen] from H6.out.at_ 5 rfl).cell 0
    refine wpAnyH_done (by kernel_rfl) ?_ _
    clear hHeld d4 fd4 H5
    have r0 := (show Blk _ w.heap.size 27 #[.int .i64 i, .int .i64 x.gen] from H6.out.at_ 5 rfl).cell 0
    have d3 := (show Blk _ m 82 #[.int .i64 r.most, gv, .slice (some ⟨g, 0, none⟩) r.l.length c, .slice (some ⟨g3, 0, none⟩) r.l.length c3, .slice Au nu cu] from H6.out.at_ 0 rfl).cell 3
    simp only [List.getElem?_toArray, List.getElem?_cons_zero, List.getElem?_cons_succ] at d3 r0
    have c5 : (wz.setCell ⟨m, 4, none⟩ (.slice Au nu cu)).cell? ⟨g3, i, none⟩ = some (.int .i64 x.v) := tab1_cell (show TabIs _ 0 2 1 (.slice (some ⟨g3, 0, none⟩) r.l.length c3) (vsL (r.setIn i x false)) from H6.out.at_ 3 rfl) (by rw [show vsL (r.setIn i x false) = vsL r from map_set_same HX.out rfl, vsL, List.getElem?_map, HX.out]; rfl)
    generalize (wz.setCell ⟨m, 4, none⟩ (.slice Au nu cu)) = w7 at *
    go_wp2_with fail
    go_quiet (fail)
    go_wp2_with fail
    refine hR.out _ _ ⟨rfl, .slice Au nu cu, ?_⟩
    have h8 := H6.out.sub (fs := refEs m gv (.slice (some ⟨g, 0, none⟩) r.l.length c) (.slice (some ⟨g3, 0, none⟩) r.l.length c3) (.slice Au nu cu) (r.giveAt i x x.v) ++ es) (by
      have e : backL (r.giveAt i x x.v) = backL r ++ [[.int .i64 (i : Int)]] := by simp [backL, PSt.giveAt]
      unfold refEs
      rw [e]
      exact .cons_cons _ (.cons_cons _ (.cons_cons _ (.cons_cons _ (.cons _ (.cons _ (.cons _ (.cons_cons _ (List.Sublist.refl _)))))))))
    exact h8.drewN _
end Go.Proofs.Ytognmhgdegpdiaa
