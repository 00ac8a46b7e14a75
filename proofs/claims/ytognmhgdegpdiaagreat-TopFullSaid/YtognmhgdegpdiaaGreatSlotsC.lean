import Derived.Test.YtognmhgdegpdiaaGreatSlotsR
import Derived.Test.YtognmhgdegpdiaaGreatPoolER
/- The table of slots: what each method does; List. -/
namespace Go.Proofs.YtognmhgdegpdiaaGreat
open Go.RowKit
open Go.Maps (Keyed)
set_option linter.unusedVariables false
set_option linter.unusedSimpArgs false
set_option maxRecDepth 100000

/-- Whether the item is in the heap. -/
def inH (s : PSt V3) (a g : Int) (r : Int × Int) : Bool := match s.l[r.1.toNat]? with
  | some x => refEq x.v.b x.v.c a g
  | none => false
theorem inH_at {s : PSt V3} {a g : Int} {i : Nat} {x : Pl V3} {c : Int} (h : s.l[i]? = some x) : inH s a g ((i : Int), c) = refEq x.v.b x.v.c a g := by simp [inH, h]
/-- The items of a heap. -/
def listQ (s : PSt V3) (a g : Int) (T : List (Int × Int)) : List (Int × Int) := T.filter (inH s a g)
theorem listQ_succ {s : PSt V3} {a g : Int} {T : List (Int × Int)} {j : Nat} {r : Int × Int} (h : T[j]? = some r) : listQ s a g (T.take (j + 1)) = listQ s a g (T.take j) ++ if inH s a g r = true then [r] else [] := by
  unfold listQ
  rw [List.take_add_one, h, List.filter_append]
  simp only [Option.toList_some, List.filter_cons, List.filter_nil]
theorem listQ_le (s : PSt V3) (a g : Int) (T : List (Int × Int)) : (listQ s a g T).length ≤ T.length := List.length_filter_le _ _

set_option maxHeartbeats 2000000 in
theorem slots_list (B t ph pi b n : Nat) (lh fh li fi : Value) (sh si : PSt V3) (f : Int → Option (Int × Int)) (w0 w : World) (es : List Ent) (a g : Int) (hg : GensOk si) (h : Led B w0 w (slotEs t ph pi b n lh fh li fi sh si f ++ es)) :
    Calls Tryz.prog 43 #[.pointer (some ⟨t, 0, none⟩), .agg #[.int .i64 a, .int .i64 g]] w fun e w' => ∃ v, e = .returned v ∧ Led B w0 w' (slotEs t ph pi b n lh fh li fi sh si f ++ tabE 34 2 v (rowsR (listQ si a g (allTo si.l si.l.length))) :: es) := by
  have hle := allTo_le si.l si.l.length
  have hw1 := (slotItems h).wf.le
  have hw2 := (slotItems h).wf.most
  have HG := Lib.hid hg; clear hg
  have hn := Lib.hid (led_new (A := slotEs t ph pi b n lh fh li fi sh si f) (C := es) (T := 34) (cs := #[.int .i64 a, .int .i64 g]) h)
  have t1 := slot_t1 hn.out
  have hn2 := Lib.hid (hn.out.add (tabE 34 2 (.slice none 0 0) (rowsR [])) (Below.refl _ _) (TabIs.nil _ _ _ _) (by simp [tabE, Value.ownBlock]))
  clear h
  refine callsR fun R hR => ?_
  go_enter Tryz.func43, Tryz.ntmps43
  go_upto_region 2 with fail
  generalize w.alloc (.cells #[.int .i64 a, .int .i64 g] 34) = wy at hn hn2 t1 ⊢
  go_wp2_with fail
  refine Calls.mono (pool_all_thing pi li fi si B w0 wy 3 _ hn2.out rfl) ?_
  rintro e w1 ⟨v, rfl, q1⟩
  generalize hT : allTo si.l si.l.length = T at *
  have hTT : TabIs w1 0 34 2 v (rowsR T) := q1.at_ 0 rfl
  obtain ⟨At, ct, rfl, hct, hAt⟩ := hTT.form
  obtain ⟨nt, hnt⟩ : ∃ n, T.length = n := ⟨_, rfl⟩
  have hrl : (rowsR T).length = nt := by rw [rowsR, List.length_map, hnt]
  rw [hrl] at hct hAt q1 ⊢
  have S1 : Hid (Led B w0 w1 (slotEs t ph pi b n lh fh li fi sh si f ++ tabE 34 2 (.slice At nt ct) (rowsR T) :: tabE 34 2 (.slice none 0 0) (rowsR (listQ si a g (T.take 0))) :: blkE (w.heap.size) 34 #[.int .i64 a, .int .i64 g] :: es)) := Lib.hid (q1.perm (List.perm_append_comm_assoc [_, _] (slotEs t ph pi b n lh fh li fi sh si f) _))
  have HTE := Lib.hid hT
  have HNT := Lib.hid hnt
  have rq := ref_eql
  clear q1 hTT hT t1 hn hn2
  go_wp2_with fail
  go_loopw [5, 16] (fun u5 k wx => ∃ (j : Nat), j ≤ nt ∧ k = .int .i64 j ∧ Hid (Led B w0 wx (slotEs t ph pi b n lh fh li fi sh si f ++ tabE 34 2 (.slice At nt ct) (rowsR T) :: tabE 34 2 u5 (rowsR (listQ si a g (T.take j))) :: blkE (w.heap.size) 34 #[.int .i64 a, .int .i64 g] :: es))) (fun _ k _ => nt - (intOf k).toNat)
  case atStart => exact ⟨0, by omega, rfl, S1⟩
  case round =>
    clear S1
    obtain ⟨j, hj, rfl, ST⟩ := hrel
    by_cases hlt : j < nt
    · obtain ⟨r, hr⟩ : ∃ r, T[j]? = some r := ⟨_, List.getElem?_eq_getElem (by omega)⟩
      obtain ⟨i, x, hi, rfl, hx, hxt⟩ := allTo_get (by rw [HTE.out]; exact hr)
      have hg1 := HG.out i x hx hxt
      obtain ⟨gt, rfl, hgt0, _⟩ := hAt (by omega)
      have hTT : TabIs wr 0 34 2 (.slice (some ⟨gt, 0, none⟩) nt ct) (rowsR T) := ST.out.at_ 4 rfl
      have hgt : gt < wr.heap.size := (hTT.lt gt (by simp [Value.ownBlock])).2
      have t0 : wr.cell? ⟨gt, j * 2, none⟩ = some (.int .i64 (i : Int)) := hTT.cell (j := 0) (r := [.int .i64 (i : Int), .int .i64 x.gen]) (by rw [rowsR, List.getElem?_map, hr]; rfl) rfl
      have t1 : wr.cell? ⟨gt, j * 2 + 1, none⟩ = some (.int .i64 x.gen) := hTT.cell (j := 1) (r := [.int .i64 (i : Int), .int .i64 x.gen]) (by rw [rowsR, List.getElem?_map, hr]; rfl) rfl
      have hls := listQ_succ (s := si) (a := a) (g := g) hr
      rw [inH_at hx] at hls
      have hll := listQ_le si a g (T.take j)
      rw [List.length_take] at hll
      have HX := Lib.hid hx; have HXT := Lib.hid hxt; have HLS := Lib.hid hls
      clear hx hxt hr hTT hi hls
      go_upto_region 5 with fail
      go_cut [8, 9] (fun sx sy wx => ∃ (jb : Nat) (v : V3) (e0 : Int), sx = .pointer (some ⟨jb, 0, none⟩) ∧ sy = .int .i64 e0 ∧ GetR ⟨0, 0, 0⟩ si i x.gen v e0 ∧ Hid (Led B w0 wx (slotEs t ph pi b n lh fh li fi sh si f ++ tabE 34 2 (.slice (some ⟨gt, 0, none⟩) nt ct) (rowsR T) :: tabE 34 2 u5 (rowsR (listQ si a g (T.take j))) :: blkE (w.heap.size) 34 #[.int .i64 a, .int .i64 g] :: blkE (wr.heap.size) 34 #[.int .i64 i, .int .i64 x.gen] :: blkE (jb) 130 #[.int .i64 v.a, .int .i64 v.b, .int .i64 v.c] :: es)))
      case first =>
        have S2 := led_new (A := slotEs t ph pi b n lh fh li fi sh si f ++ [tabE 34 2 (.slice (some ⟨gt, 0, none⟩) nt ct) (rowsR T), tabE 34 2 u5 (rowsR (listQ si a g (T.take j))), blkE (w.heap.size) 34 #[.int .i64 a, .int .i64 g]]) (C := es) (T := 34) (cs := #[.int .i64 i, .int .i64 x.gen]) ST.out
        clear t0 t1
        generalize wr.alloc (.cells #[.int .i64 i, .int .i64 x.gen] 34) = wy at S2 ⊢
        have H2 : Hid (Led B w0 wy (slotEs t ph pi b n lh fh li fi sh si f ++ tabE 34 2 (.slice (some ⟨gt, 0, none⟩) nt ct) (rowsR T) :: tabE 34 2 u5 (rowsR (listQ si a g (T.take j))) :: blkE (w.heap.size) 34 #[.int .i64 a, .int .i64 g] :: blkE (wr.heap.size) 34 #[.int .i64 i, .int .i64 x.gen] :: es)) := Lib.hid (S2)
        have H3 : Hid (Led B w0 (wy.alloc (.cells #[.int .i64 0, .int .i64 0, .int .i64 0] 130)) (slotEs t ph pi b n lh fh li fi sh si f ++ tabE 34 2 (.slice (some ⟨gt, 0, none⟩) nt ct) (rowsR T) :: tabE 34 2 u5 (rowsR (listQ si a g (T.take j))) :: blkE (w.heap.size) 34 #[.int .i64 a, .int .i64 g] :: blkE (wr.heap.size) 34 #[.int .i64 i, .int .i64 x.gen] :: blkE (wy.heap.size) 130 #[.int .i64 0, .int .i64 0, .int .i64 0] :: es)) := Lib.hid (led_new (A := slotEs t ph pi b n lh fh li fi sh si f ++ [tabE 34 2 (.slice (some ⟨gt, 0, none⟩) nt ct) (rowsR T), tabE 34 2 u5 (rowsR (listQ si a g (T.take j))), blkE (w.heap.size) 34 #[.int .i64 a, .int .i64 g], blkE (wr.heap.size) 34 #[.int .i64 i, .int .i64 x.gen]]) (C := es) (T := 130) (cs := #[.int .i64 0, .int .i64 0, .int .i64 0]) H2.out)
        have ltt := (slotBlk H2.out).lt
        have ltr : wr.heap.size < wy.heap.size := (show Blk wy (wr.heap.size) 34 #[.int .i64 i, .int .i64 x.gen] from H2.out.at_ 7 rfl).lt
        have HS : Hid (∀ W, Chg [] wy W → W.cell? ⟨t, 1, none⟩ = some (.pointer (some ⟨pi, 0, none⟩)) ∧ W.cell? ⟨wr.heap.size, 0, none⟩ = some (.int .i64 i) ∧ W.cell? ⟨wr.heap.size, 1, none⟩ = some (.int .i64 x.gen)) :=
          Lib.hid fun W hW => have hl := H2.out.later (hW.below (by simp) (Nat.le_refl _)); ⟨slot_t1 hl, (show Blk W (wr.heap.size) 34 #[.int .i64 i, .int .i64 x.gen] from hl.at_ 7 rfl).cell 0, (show Blk W (wr.heap.size) 34 #[.int .i64 i, .int .i64 x.gen] from hl.at_ 7 rfl).cell 1⟩
        go_region_held3 (fun wx => wx.cell? ⟨t, 1, none⟩ = some (.pointer (some ⟨pi, 0, none⟩)) ∧ wx.cell? ⟨wr.heap.size, 0, none⟩ = some (.int .i64 i) ∧ wx.cell? ⟨wr.heap.size, 1, none⟩ = some (.int .i64 x.gen)) (first | (refine HS.out _ ?_; (repeat' first | with_reducible exact Chg.refl _ _ | with_reducible refine Chg.drew ?_ | with_reducible refine Chg.drewN ?_ _ | with_reducible refine Chg.alloc ?_ _ | with_reducible refine Chg.setCell ?_ ?_ _ | (left; simp; done) | (right; exact Nat.le_refl _) | (right; dsimp only; omega)); done) | (refine HS2.out _ ?_; (repeat' first | with_reducible exact Chg.refl _ _ | with_reducible refine Chg.drew ?_ | with_reducible refine Chg.drewN ?_ _ | with_reducible refine Chg.alloc ?_ _ | with_reducible refine Chg.setCell ?_ ?_ _ | (left; simp; done) | (right; exact Nat.le_refl _) | (right; dsimp only; omega)); done)) (first | (go_at_call 79; refine Calls.mono (pool_get_thing pi li fi si i x.gen _ (slotItems H2.out.drew)) ?_; rintro e w2 ⟨v, e0, rfl, q1, q2⟩; have S4 : Hid (Led B w0 w2 (slotEs t ph pi b n lh fh li fi sh si f ++ tabE 34 2 (.slice (some ⟨gt, 0, none⟩) nt ct) (rowsR T) :: tabE 34 2 u5 (rowsR (listQ si a g (T.take j))) :: blkE (w.heap.size) 34 #[.int .i64 a, .int .i64 g] :: blkE (wr.heap.size) 34 #[.int .i64 i, .int .i64 x.gen] :: es)) := Lib.hid (H2.out.drew.later q2); have lt2 := q2.size; have HS2 : Hid (∀ W, Chg [wy.heap.size] w2 W → W.cell? ⟨t, 1, none⟩ = some (.pointer (some ⟨pi, 0, none⟩)) ∧ W.cell? ⟨wr.heap.size, 0, none⟩ = some (.int .i64 i) ∧ W.cell? ⟨wr.heap.size, 1, none⟩ = some (.int .i64 x.gen)) := Lib.hid (fun W hW => ⟨(hW.cell (p := ⟨t, 1, none⟩) (slotBlk S4.out).lt (by simp; omega)).trans (slot_t1 S4.out), (hW.cell (p := ⟨wr.heap.size, 0, none⟩) (show Blk w2 (wr.heap.size) 34 #[.int .i64 i, .int .i64 x.gen] from S4.out.at_ 7 rfl).lt (by simp; omega)).trans ((show Blk w2 (wr.heap.size) 34 #[.int .i64 i, .int .i64 x.gen] from S4.out.at_ 7 rfl).cell 0), (hW.cell (p := ⟨wr.heap.size, 1, none⟩) (show Blk w2 (wr.heap.size) 34 #[.int .i64 i, .int .i64 x.gen] from S4.out.at_ 7 rfl).lt (by simp; omega)).trans ((show Blk w2 (wr.heap.size) 34 #[.int .i64 i, .int .i64 x.gen] from S4.out.at_ 7 rfl).cell 1)⟩); have Q1 := Lib.hid q1; clear q1 q2) | (go_at_call 79; refine Calls.mono (pool_get_thing pi li fi si i x.gen _ (slotItems H3.out.drew)) ?_; rintro e w2 ⟨v, e0, rfl, q1, q2⟩; have S4 : Hid (Led B w0 w2 (slotEs t ph pi b n lh fh li fi sh si f ++ tabE 34 2 (.slice (some ⟨gt, 0, none⟩) nt ct) (rowsR T) :: tabE 34 2 u5 (rowsR (listQ si a g (T.take j))) :: blkE (w.heap.size) 34 #[.int .i64 a, .int .i64 g] :: blkE (wr.heap.size) 34 #[.int .i64 i, .int .i64 x.gen] :: blkE (wy.heap.size) 130 #[.int .i64 0, .int .i64 0, .int .i64 0] :: es)) := Lib.hid (H3.out.drew.later q2); have lt2 := q2.size; have HS2 : Hid (∀ W, Chg [wy.heap.size] w2 W → W.cell? ⟨t, 1, none⟩ = some (.pointer (some ⟨pi, 0, none⟩)) ∧ W.cell? ⟨wr.heap.size, 0, none⟩ = some (.int .i64 i) ∧ W.cell? ⟨wr.heap.size, 1, none⟩ = some (.int .i64 x.gen)) := Lib.hid (fun W hW => ⟨(hW.cell (p := ⟨t, 1, none⟩) (slotBlk S4.out).lt (by simp; omega)).trans (slot_t1 S4.out), (hW.cell (p := ⟨wr.heap.size, 0, none⟩) (show Blk w2 (wr.heap.size) 34 #[.int .i64 i, .int .i64 x.gen] from S4.out.at_ 7 rfl).lt (by simp; omega)).trans ((show Blk w2 (wr.heap.size) 34 #[.int .i64 i, .int .i64 x.gen] from S4.out.at_ 7 rfl).cell 0), (hW.cell (p := ⟨wr.heap.size, 1, none⟩) (show Blk w2 (wr.heap.size) 34 #[.int .i64 i, .int .i64 x.gen] from S4.out.at_ 7 rfl).lt (by simp; omega)).trans ((show Blk w2 (wr.heap.size) 34 #[.int .i64 i, .int .i64 x.gen] from S4.out.at_ 7 rfl).cell 1)⟩); have rb : Blk w2 wy.heap.size 130 #[.int .i64 0, .int .i64 0, .int .i64 0] := S4.out.at_ 8 rfl; have c0 := rb.cell 0; have fc0 := rb.frozen 0; have c1 := rb.cell 1; have fc1 := rb.frozen 1; have c2 := rb.cell 2; have fc2 := rb.frozen 2; simp only [List.getElem?_toArray, List.getElem?_cons_zero, List.getElem?_cons_succ] at c0 c1 c2; have lrb := rb.lt; clear rb; have Q1 := Lib.hid q1; clear q1 q2))
        · go_wp2_with fail
          go_meet
          case rel => exact ⟨_, v, e0, rfl, rfl, Q1.out, Lib.hid (led_new (A := slotEs t ph pi b n lh fh li fi sh si f ++ [tabE 34 2 (.slice (some ⟨gt, 0, none⟩) nt ct) (rowsR T), tabE 34 2 u5 (rowsR (listQ si a g (T.take j))), blkE (w.heap.size) 34 #[.int .i64 a, .int .i64 g], blkE (wr.heap.size) 34 #[.int .i64 i, .int .i64 x.gen]]) (C := es) S4.out)⟩
        · go_wp2_with fail
          go_meet
          case rel => exact ⟨_, v, e0, rfl, rfl, Q1.out, Lib.hid (led_store3 (A := slotEs t ph pi b n lh fh li fi sh si f ++ [tabE 34 2 (.slice (some ⟨gt, 0, none⟩) nt ct) (rowsR T), tabE 34 2 u5 (rowsR (listQ si a g (T.take j))), blkE (w.heap.size) 34 #[.int .i64 a, .int .i64 g], blkE (wr.heap.size) 34 #[.int .i64 i, .int .i64 x.gen]]) (C := es) S4.out)⟩
      case rest =>
        clear ST t0 t1
        obtain ⟨jb, v, e0, rfl, rfl, q1, S⟩ := hcut
        have Q1 := Lib.hid q1
        clear q1
        have rb : Blk wc jb 130 #[.int .i64 v.a, .int .i64 v.b, .int .i64 v.c] := S.out.at_ 8 rfl
        have lb := rb.lt
        have c0 := rb.cell 0; have fc0 := rb.frozen 0; have c1 := rb.cell 1; have fc1 := rb.frozen 1; have c2 := rb.cell 2; have fc2 := rb.frozen 2; simp only [List.getElem?_toArray, List.getElem?_cons_zero, List.getElem?_cons_succ] at c0 c1 c2
        clear rb
        obtain ⟨rfl, rfl⟩ := Q1.out.ok HX.out HXT.out hg1
        have hr2 : Blk wc w.heap.size 34 #[.int .i64 a, .int .i64 g] := S.out.at_ 6 rfl
        have h0 := hr2.cell 0; have fh0 := hr2.frozen 0; have h1 := hr2.cell 1; have fh1 := hr2.frozen 1; simp only [List.getElem?_toArray, List.getElem?_cons_zero, List.getElem?_cons_succ] at h0 h1
        clear hr2
        have ir : Blk wc wr.heap.size 34 #[.int .i64 i, .int .i64 x.gen] := S.out.at_ 7 rfl
        have i0 := ir.cell 0; have fi0 := ir.frozen 0; have i1 := ir.cell 1; have fi1 := ir.frozen 1; simp only [List.getElem?_toArray, List.getElem?_cons_zero, List.getElem?_cons_succ] at i0 i1
        clear ir
        cases hqq : refEq x.v.b x.v.c a g with
        | true =>
          have hll2 : (rowsR (listQ si a g (T.take j))).length ≤ 1000000000 := by rw [rowsR, List.length_map]; omega
          have hOT : TabIs wc 0 34 2 u5 (rowsR (listQ si a g (T.take j))) := S.out.at_ 5 rfl
          have HOT := Lib.hid hOT; clear hOT
          go_wp2_with (at_builtin; refine wpList_push (by rfl) (.tmp 33) (.tmp 35) 24 (by rfl) 0 34 _ 2 16 Tryz.underlying24 info_ref_ (by rfl) (by decide) u5 _ #[.int .i64 i, .int .i64 x.gen] (by rfl) (by exact HOT.out) (by rfl) (by rfl) (one_ref _ _) hll2 (by decide) (Nat.zero_le _) ?_; intro v' w' q1 q2 q3)
          have S5 : Hid (Led B w0 w' (slotEs t ph pi b n lh fh li fi sh si f ++ tabE 34 2 (.slice (some ⟨gt, 0, none⟩) nt ct) (rowsR T) :: tabE 34 2 v' (rowsR (listQ si a g (T.take (j + 1)))) :: blkE (w.heap.size) 34 #[.int .i64 a, .int .i64 g] :: es)) := Lib.hid (led_cut (A := slotEs t ph pi b n lh fh li fi sh si f ++ [tabE 34 2 (.slice (some ⟨gt, 0, none⟩) nt ct) (rowsR T), tabE 34 2 v' (rowsR (listQ si a g (T.take (j + 1)))), blkE (w.heap.size) 34 #[.int .i64 a, .int .i64 g]]) (M := [_, _]) (C := es) (S.out.step 5 rfl (tabE 34 2 v' (rowsR (listQ si a g (T.take (j + 1))))) q2 (by rw [HLS.out, hqq, if_pos rfl]; simpa [rowsR, tabE] using q1) q3))
          clear q1 q2 q3 S
          go_roundw
          case rel => exact ⟨j + 1, by omega, by go_num, S5⟩
          case measure => simp [intOf]; omega
        | false =>
          have S5 : Hid (Led B w0 wc (slotEs t ph pi b n lh fh li fi sh si f ++ tabE 34 2 (.slice (some ⟨gt, 0, none⟩) nt ct) (rowsR T) :: tabE 34 2 u5 (rowsR (listQ si a g (T.take (j + 1)))) :: blkE (w.heap.size) 34 #[.int .i64 a, .int .i64 g] :: es)) := Lib.hid (by rw [HLS.out, hqq, if_neg (by decide), List.append_nil]; exact led_cut (A := slotEs t ph pi b n lh fh li fi sh si f ++ [tabE 34 2 (.slice (some ⟨gt, 0, none⟩) nt ct) (rowsR T), tabE 34 2 u5 (rowsR (listQ si a g (T.take j))), blkE (w.heap.size) 34 #[.int .i64 a, .int .i64 g]]) (M := [_, _]) (C := es) S.out)
          go_wp2_with fail
          go_roundw
          case rel => exact ⟨j + 1, by omega, by go_num, S5⟩
          case measure => simp [intOf]; omega
    · obtain rfl : j = nt := by omega
      have S6 := led_drop (A := slotEs t ph pi b n lh fh li fi sh si f ++ [tabE 34 2 u5 (rowsR (listQ si a g (T.take j)))]) (led_drop (A := slotEs t ph pi b n lh fh li fi sh si f) ST.out)
      rw [List.take_of_length_le (by omega)] at S6
      have S7 := Lib.hid S6
      clear S6
      go_wp2_with fail
      exact hR.out _ _ ⟨_, rfl, S7.out⟩

end Go.Proofs.YtognmhgdegpdiaaGreat
