import Derived.Test.YtognmhgdegpdiaaRefPool3
/- The document's own pool (thicketref2): Take. -/
namespace Go.Proofs.Ytognmhgdegpdiaa
open Go.RowKit
set_option linter.unusedVariables false
set_option linter.unusedSimpArgs false
set_option maxRecDepth 100000

theorem ref_take_full (B m : Nat) (gv iv vv bv : Value) (r : PSt Int) (v : Int) (w0 w : World) (es : List Ent) (h : Led B w0 w (refEs m gv iv vv bv r ++ es)) (hf : r.free = []) (hle : r.l.length ≤ 65536) (hmo : r.most ≤ 65536) (hfull : r.most ≤ r.l.length) :
    Calls Try.prog 38 #[.pointer (some ⟨m, 0, none⟩), .int .i64 v] w fun e w' => e = .returned (.tuple #[.agg #[.int .i64 0, .int .i64 0], .bool false]) ∧ Below w.heap.size w w' := by
  obtain ⟨A, c, rfl, hc, hA⟩ := tab1_form (refGens h) (gensL_len r)
  obtain ⟨A4, c4, rfl, hc4, hA4⟩ := tab1_form (refBack h) (show (backL r).length = 0 by rw [backL_len, hf]; rfl)
  have hmlt := (refBlk h).lt
  have d0 := (refBlk h).cell 0
  have d1 := (refBlk h).cell 1
  have d4 := (refBlk h).cell 4
  simp only [List.getElem?_toArray, List.getElem?_cons_zero, List.getElem?_cons_succ] at d0 d1 d4
  have hd : decide ((r.most : Int) ≤ r.l.length) = true := by simp; omega
  clear h hA hA4
  refine callsR fun R hR => ?_
  go_enter Try.func38, Try.ntmps38
  go_wp2_with fail
  exact bodyPost_ret (v := .tuple #[.agg #[.int .i64 0, .int .i64 0], .bool false]) (by simp [results, Try.results38, go_sem]) rfl (hR.out _ _ ⟨rfl, (Below.refl _ _).alloc (Nat.le_refl _) _⟩)

/-- A store into the lives. -/
theorem ref_setG {B m : Nat} {iv vv bv : Value} {r : PSt Int} {i g n c : Nat} {x : Pl Int} {k : Int} {w0 w : World} {es : List Ent} (h : Led B w0 w (refEs m (.slice (some ⟨g, 0, none⟩) n c) iv vv bv r ++ es)) (hx : r.l[i]? = some x) :
    Led B w0 (w.setCell ⟨g, i, none⟩ (.int .i64 k)) (refEs m (.slice (some ⟨g, 0, none⟩) n c) iv vv bv { r with l := r.l.set i ⟨k, x.taken, x.v⟩ } ++ es) := by
  have hT := refGens h
  have h1 := hT.set (i := i) (j := 0) (r := [.int .i64 x.gen]) (.int .i64 k) (by rw [gensL, List.getElem?_map, hx]; rfl) (by decide)
  rw [Nat.mul_one, Nat.add_zero] at h1
  have h2 := h.step 1 rfl (tabE 3 1 (.slice (some ⟨g, 0, none⟩) n c) (gensL { r with l := r.l.set i ⟨k, x.taken, x.v⟩ })) ((Chg.refl _ _).setCell (p := ⟨g, i, none⟩) (.inl (by simp [tabE, Value.ownBlock])) (.int .i64 k)) (by simpa [tabE, gensL, List.map_set] using h1) (Fresh.refl _ _)
  have e1 : insL { r with l := r.l.set i ⟨k, x.taken, x.v⟩ } = insL r := map_set_same hx rfl
  have e2 : vsL { r with l := r.l.set i ⟨k, x.taken, x.v⟩ } = vsL r := map_set_same hx rfl
  show Led B w0 _ ([blkE m _ _, tabE _ _ _ _, tabE _ _ _ (insL { r with l := r.l.set i ⟨k, x.taken, x.v⟩ }), tabE _ _ _ (vsL { r with l := r.l.set i ⟨k, x.taken, x.v⟩ }), tabE _ _ _ _] ++ es)
  rw [e1, e2]
  exact h2


set_option maxHeartbeats 4000000 in
theorem ref_take_back (B m : Nat) (gv iv vv bv : Value) (r : PSt Int) (v : Int) (n : Nat) (fs : List Nat) (x : Pl Int) (w0 w : World) (es : List Ent) (h : Led B w0 w (refEs m gv iv vv bv r ++ es)) (hf : r.free = fs ++ [n]) (hx : r.l[n]? = some x) (hle : r.l.length ≤ 65536) (hfl : r.free.length ≤ 65536) :
    Calls Try.prog 38 #[.pointer (some ⟨m, 0, none⟩), .int .i64 v] w fun e w' => e = .returned (.tuple #[.agg #[.int .i64 n, .int .i64 (wrap64 (x.gen + 1))], .bool true]) ∧ ∃ bv', Led B w0 w' (refEs m gv iv vv bv' (r.retake n fs x v) ++ es) := by
  have hlt : n < r.l.length := (List.getElem?_eq_some_iff.1 hx).1
  have hfl1 : r.free.length = fs.length + 1 := by rw [hf]; simp
  obtain ⟨A, c, rfl, hc, hA⟩ := tab1_form (refGens h) (gensL_len r)
  obtain ⟨g, rfl, hg⟩ := hA (by omega)
  obtain ⟨A2, c2, rfl, hc2, hA2⟩ := tab1_form (refIns h) (insL_len r)
  obtain ⟨g2, rfl, hg2⟩ := hA2 (by omega)
  obtain ⟨A3, c3, rfl, hc3, hA3⟩ := tab1_form (refVs h) (vsL_len r)
  obtain ⟨g3, rfl, hg3⟩ := hA3 (by omega)
  obtain ⟨A4, c4, rfl, hc4, hA4⟩ := tab1_form (refBack h) (show (backL r).length = fs.length + 1 by rw [backL_len, hfl1])
  obtain ⟨g4, rfl, hg4⟩ := hA4 (by omega)
  have hmlt := (refBlk h).lt
  have hfl2 : fs.length ≤ 65536 := by omega
  have d1 := (refBlk h).cell 1
  have d4 := (refBlk h).cell 4
  simp only [List.getElem?_toArray, List.getElem?_cons_zero, List.getElem?_cons_succ] at d1 d4
  have y : w.cell? ⟨g4, fs.length, none⟩ = some (.int .i64 n) := tab1_cell (refBack h) (by rw [backL, hf]; simp)
  have fd4 := (refBlk h).frozen 4
  have e0 : w.cell? ⟨g, n, none⟩ = some (.int .i64 x.gen) := tab1_cell (refGens h) (by rw [gensL, List.getElem?_map, hx]; rfl)
  have fe0 : w.frozen? ⟨g, n, none⟩ = false := (refGens h).frozen _
  have hgm : g ≠ m := fun e => (refGens h).ne_blk (refBlk h) (by decide) (by simp [Value.ownBlock, e])
  have hmg := hgm.symm
  have hT4 := refBack h
  have hsp : backL r = backL { r with free := fs } ++ [[.int .i64 (n : Int)]] := by simp [backL, hf]
  rw [hsp] at hT4
  have h1 := h.step 4 rfl (tabE 3 1 (.slice (some ⟨g4, 0, none⟩) fs.length c4) (backL { r with free := fs })) (Chg.refl _ _) (by
    have e : fs.length = (backL { r with free := fs }).length := by simp [backL]
    have h2 := TabIs.pop (L := backL { r with free := fs }) (r := [.int .i64 (n : Int)]) (c := c4) (A := some ⟨g4, 0, none⟩) (by rw [← e]; exact hT4)
    rw [← e] at h2
    exact h2) (Fresh.refl _ _)
  have h2 := h1.step 0 rfl (blkE m 82 #[.int .i64 r.most, .slice (some ⟨g, 0, none⟩) r.l.length c, .slice (some ⟨g2, 0, none⟩) r.l.length c2, .slice (some ⟨g3, 0, none⟩) r.l.length c3, .slice (some ⟨g4, 0, none⟩) fs.length c4]) ((Chg.refl _ _).setCell (p := ⟨m, 4, none⟩) (.inl (by simp [blkE])) (.slice (some ⟨g4, 0, none⟩) fs.length c4)) (by have := (refBlk h).set_ 4 (.slice (some ⟨g4, 0, none⟩) fs.length c4); simpa [blkE] using this) (Fresh.refl _ _)
  have h3 : Led B w0 (w.setCell ⟨m, 4, none⟩ (.slice (some ⟨g4, 0, none⟩) fs.length c4)) (refEs m (.slice (some ⟨g, 0, none⟩) r.l.length c) (.slice (some ⟨g2, 0, none⟩) r.l.length c2) (.slice (some ⟨g3, 0, none⟩) r.l.length c3) (.slice (some ⟨g4, 0, none⟩) fs.length c4) { r with free := fs } ++ es) := h2
  have h3 := ref_setG (r := { r with free := fs }) (k := wrap64 (x.gen + 1)) (x := x) h3 hx
  have h4 := (h3.add (blkE w.heap.size 27 #[.int .i64 0, .int .i64 0]) ((Below.refl _ _).alloc (Nat.le_refl _) (.cells #[.int .i64 0, .int .i64 0] 27)) (by have := Blk.new ((w.setCell ⟨m, 4, none⟩ (.slice (some ⟨g4, 0, none⟩) fs.length c4)).setCell ⟨g, n, none⟩ (.int .i64 (wrap64 (x.gen + 1)))) 27 #[.int .i64 0, .int .i64 0]; rw [World.size_setCell, World.size_setCell] at this; exact this) (fun b hb => by simp [blkE] at hb; rw [World.size_setCell, World.size_setCell]; omega)).perm (List.perm_middle (l₁ := refEs m _ _ _ _ _)).symm
  have HW := Lib.hid h4
  have HX2 := Lib.hid (show ((r.l.set n ⟨wrap64 (x.gen + 1), x.taken, x.v⟩)[n]?) = some ⟨wrap64 (x.gen + 1), x.taken, x.v⟩ from List.getElem?_set_self hlt)
  clear h1 h2 h3 h4 hT4 hsp
  have HX := Lib.hid hx; clear hx hA hA2 hA3 hA4
  have HF := Lib.hid hf; clear hf
  have HH := Lib.hid h; clear h
  refine callsR fun R hR => ?_
  go_enter Try.func38, Try.ntmps38
  go_wp2_with fail
  clear d1 d4 y fd4 e0 fe0
  generalize (((w.setCell ⟨m, 4, none⟩ (.slice (some ⟨g4, 0, none⟩) fs.length c4)).setCell ⟨g, n, none⟩ (.int .i64 (wrap64 (x.gen + 1)))).alloc (.cells #[.int .i64 0, .int .i64 0] 27)) = w5 at HW ⊢
  obtain ⟨gn, hgn⟩ : ∃ gn, wrap64 (x.gen + 1) = gn := ⟨_, rfl⟩
  rw [hgn] at HW HX2 ⊢
  have HGN := Lib.hid hgn; clear hgn
  have d1 := (refBlk HW.out).cell 1
  have d2 := (refBlk HW.out).cell 2
  have d3 := (refBlk HW.out).cell 3
  simp only [List.getElem?_toArray, List.getElem?_cons_zero, List.getElem?_cons_succ] at d1 d2 d3
  have q0 : w5.cell? ⟨g, n, none⟩ = some (.int .i64 gn) := tab1_cell (refGens HW.out) (by rw [gensL, List.getElem?_map, HX2.out]; rfl)
  have q2 : w5.cell? ⟨g2, n, none⟩ = some (.bool x.taken) := tab1_cell (refIns HW.out) (by rw [insL, List.getElem?_map, HX2.out]; rfl)
  have q3 : w5.cell? ⟨g3, n, none⟩ = some (.int .i64 x.v) := tab1_cell (refVs HW.out) (by rw [vsL, List.getElem?_map, HX2.out]; rfl)
  have fq2 : w5.frozen? ⟨g2, n, none⟩ = false := (refIns HW.out).frozen _
  have fq3 : w5.frozen? ⟨g3, n, none⟩ = false := (refVs HW.out).frozen _
  have ng2m : g2 ≠ m := fun e => (refIns HW.out).ne_blk (refBlk HW.out) (by decide) (by simp [Value.ownBlock, e])
  have ng3m : g3 ≠ m := fun e => (refVs HW.out).ne_blk (refBlk HW.out) (by decide) (by simp [Value.ownBlock, e])
  have ng23 : g2 ≠ g3 := fun e => (refIns HW.out).ne_tab (refVs HW.out) (by decide) g2 (by simp [Value.ownBlock]) (by simp [Value.ownBlock, e])
  have nm2 := ng2m.symm
  have nm3 := ng3m.symm
  have ng32 := ng23.symm
  have HW2 := Lib.hid (ref_setV (v := v) (ref_setI (b := true) HW.out HX2.out) (x := ⟨gn, true, x.v⟩) (show (({ r with free := fs, l := r.l.set n ⟨gn, x.taken, x.v⟩ } : PSt Int).l.set n ⟨gn, true, x.v⟩)[n]? = _ from List.getElem?_set_self (List.getElem?_eq_some_iff.1 HX2.out).1))
  go_region_held3 (fun wx => wx.cell? ⟨m, 2, none⟩ = some (.slice (some ⟨g2, 0, none⟩) r.l.length c2) ∧ wx.cell? ⟨m, 3, none⟩ = some (.slice (some ⟨g3, 0, none⟩) r.l.length c3)) (go_keep) (fail)
  have hRR : (({ r with free := fs, l := r.l.set n ⟨gn, x.taken, x.v⟩ } : PSt Int).setIn n ⟨gn, x.taken, x.v⟩ true).setAt n ⟨gn, true, x.v⟩ v = ({ r with free := fs, l := r.l.set n ⟨gn, true, v⟩ } : PSt Int) := by simp [PSt.setIn, PSt.setAt]
  have h5 := HW2.out.drew
  rw [hRR] at h5
  have HW4 := Lib.hid h5
  have HX4 := Lib.hid (show ({ r with free := fs, l := r.l.set n ⟨gn, true, v⟩ } : PSt Int).l[n]? = some ⟨gn, true, v⟩ from List.getElem?_set_self (by have := (List.getElem?_eq_some_iff.1 HX2.out).1; simpa using this))
  clear d1 d2 d3 q0 q2 q3 fq2 fq3 HW HW2 hRR h5
  generalize (((w5.setCell ⟨g2, n, none⟩ (.bool true)).setCell ⟨g3, n, none⟩ (.int .i64 v)).drew) = w6 at *
  have d1 := (refBlk HW4.out).cell 1
  simp only [List.getElem?_toArray, List.getElem?_cons_zero, List.getElem?_cons_succ] at d1
  have q0 : w6.cell? ⟨g, n, none⟩ = some (.int .i64 gn) := tab1_cell (refGens HW4.out) (by rw [gensL, List.getElem?_map, HX4.out]; rfl)
  have hbx : Blk w6 w.heap.size 27 #[.int .i64 0, .int .i64 0] := HW4.out.at_ 5 rfl
  have x0 := hbx.cell 0
  have x1 := hbx.cell 1
  have fx0 := hbx.frozen 0
  have fx1 := hbx.frozen 1
  simp only [List.getElem?_toArray, List.getElem?_cons_zero, List.getElem?_cons_succ] at x0 x1
  have h7 := HW4.out.step 5 rfl (blkE w.heap.size 27 #[.int .i64 (n : Nat), .int .i64 0]) ((Chg.refl _ _).setCell (p := ⟨w.heap.size, 0, none⟩) (.inl (by simp [blkE])) (.int .i64 (n : Nat))) (by have := hbx.set_ 0 (.int .i64 (n : Nat)); simpa [blkE] using this) (Fresh.refl _ _)
  have hb7 : Blk _ w.heap.size 27 #[.int .i64 (n : Nat), .int .i64 0] := h7.at_ 5 rfl
  have h8 := h7.step 5 rfl (blkE w.heap.size 27 #[.int .i64 (n : Nat), .int .i64 gn]) ((Chg.refl _ _).setCell (p := ⟨w.heap.size, 1, none⟩) (.inl (by simp [blkE])) (.int .i64 gn)) (by have := hb7.set_ 1 (.int .i64 gn); simpa [blkE] using this) (Fresh.refl _ _)
  have h9 := h8.sub (fs := refEs m _ _ _ _ ({ r with free := fs, l := r.l.set n ⟨gn, true, v⟩ } : PSt Int) ++ es) (.cons_cons _ (.cons_cons _ (.cons_cons _ (.cons_cons _ (.cons_cons _ (.cons _ (List.Sublist.refl _)))))))
  have H9 := Lib.hid h9
  clear h7 h8 h9 hb7 hbx
  go_wp2_with fail
  have hgn := HGN.out
  clear HGN
  subst hgn
  exact bodyPost_ret (v := .tuple #[.agg #[.int .i64 n, .int .i64 (wrap64 (x.gen + 1))], .bool true]) (by simp [results, Try.results38, go_sem, x0, x1]) rfl (hR.out _ _ ⟨rfl, _, H9.out⟩)
end Go.Proofs.Ytognmhgdegpdiaa
