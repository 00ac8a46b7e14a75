import Derived.Test.YtognmhgdegpdiaaGreatTopO
section
/- Binomial heaps, skew heaps. -/
namespace Go.Proofs.YtognmhgdegpdiaaGreat
open Go.RowKit
set_option linter.unusedVariables false
set_option linter.unusedSimpArgs false
set_option maxRecDepth 100000
def Ar.bpush (s : Ar) (r i : Int) : Ar × Int := (s.newNode i).tcarry (s.take.1 :: (s.newNode i).tlist r)
def Ar.bmin (s : Ar) (r : Int) : Int := s.cell (s.tbest (-1) (s.tlist r)) 6
def Ar.bwo (s : Ar) (l : List Int) (n : Int) : Ar × Int := (s.endNode n).tcarry (idel n l ++ s.tkids n)
def Ar.btop (s : Ar) (r : Int) : Int := s.tbest (-1) (s.tlist r)
def Ar.bpop (s : Ar) (r : Int) : Ar × Int × Int := ((s.bwo (s.tlist r) (s.btop r)).1, (s.bwo (s.tlist r) (s.btop r)).2, s.cell (s.btop r) 6)
def Ar.bmeld (s : Ar) (r q : Int) : Ar × Int := if r = q then (s, r) else s.tcarry (s.tlist r ++ s.tlist q)
theorem Ar.tlist_le (s : Ar) (r : Int) : (s.tlist r).length ≤ s.n := Ar.rowL_le _ _ _ _
theorem Ar.tkids_le (s : Ar) (r : Int) : (s.tkids r).length ≤ s.n := Ar.rowL_le _ _ _ _
theorem idel_le (q : Int) (L : List Int) : (idel q L).length ≤ L.length := List.length_filter_le _ _
section
variable {B : Nat} {w0 w : World} {C : List Ent} {vf : Value} (X : ArM) (s : Ar) (t : Nat)
end
end Go.Proofs.YtognmhgdegpdiaaGreat
end
section
/- Binomial heaps: Push. -/
namespace Go.Proofs.YtognmhgdegpdiaaGreat
open Go.RowKit
set_option linter.unusedVariables false
set_option linter.unusedSimpArgs false
set_option maxRecDepth 100000
section
variable {B : Nat} {w0 w : World} {C : List Ent} {vf : Value} (X : ArM) (s : Ar) (t : Nat)
set_option maxHeartbeats 4000000 in
theorem bi_push (r i : Int) (K : Int) (hrb : s.RB K) (hK : 0 ≤ K ∧ K ≤ 10000000) (hn : s.n ≤ 65536) (hok : s.Ok) (hr : s.take.2.1 = true) (hl : ((s.newNode i).tlist r).length ≤ 18) (h : Led B w0 w (X.es vf (s.tick t) ++ C)) :
    Calls Tryz.prog 91 #[.pointer (some ⟨X.p, 0, none⟩), .int .i64 r, .int .i64 i] w fun e w' => ∃ vf2 u, u ≤ 17 + 15 * ((s.newNode i).tlist r).length ∧ e = .returned (.tuple #[.int .i64 (s.bpush r i).2, .bool true]) ∧ Led B w0 w' (X.es vf2 ((s.bpush r i).1.tick (t + u)) ++ C) := by
  have H := Lib.hid h
  clear h
  have HOK := Lib.hid hok
  clear hok
  have HRB := Lib.hid (hrb.newNode hK.1 i)
  clear hrb
  have HN : Hid ((s.newNode i).n ≤ 65536) := Lib.hid (by rw [Ar.newNode_n]; exact hn)
  obtain ⟨l, hll⟩ : ∃ l, (s.newNode i).tlist r = l := ⟨_, rfl⟩
  have hv : s.bpush r i = (s.newNode i).tcarry (s.take.1 :: l) := by rw [Ar.bpush, hll]
  rw [hv]
  rw [hll] at hl ⊢
  have HLL := Lib.hid hll
  clear hll hv
  have hl3 : (s.take.1 :: l).length ≤ 19 := by simp; omega
  have hl2 : (iR [s.take.1]).length + (iR l).length ≤ 1000000000 := by rw [iR_len, iR_len]; simp; omega
  refine callsR fun R hR => ?_
  go_enter Tryz.func91, Tryz.ntmps91
  go_upto_region 6 with (first | (go_at_call 142; refine Calls.mono (node_new _ _ _ _ HOK.out hr H.out) ?_; rintro e w5 ⟨vf1, rfl, h'⟩; replace H := Lib.hid h'; clear h'))
  have H2 := Lib.hid (iT_one s.take.1 H.out)
  replace H := H2
  clear H2
  go_wp2_with (first | (go_at_call 145; refine Calls.mono (tr_list _ _ _ _ HN.out H.out) ?_; rintro e w' ⟨v9, rfl, h'⟩; rw [HLL.out] at h'; replace H := Lib.hid h'; obtain ⟨A9, c9, hv9, _⟩ := iT_form (iT_tab h'); subst hv9; clear h') | (at_builtin; refine wpList_appendAll (.tmp 23) (.tmp 26) (.slice (some ⟨w5.heap.size, 0, none⟩) 1 1) (.slice A9 l.length c9) (iR [s.take.1]) (iR l) (X.es vf1 ((s.newNode i).tick (t + 3 + l.length)) ++ [iT (.slice A9 l.length c9) l]) C (by rfl) (by rfl) Tryz.underlying45 info_int_ (by rfl) (by decide) (by decide) hl2 (iR_one _) (by rfl) (by rfl) (by simpa [iT] using H.out) (by simp [iT]) ?_; intro v' w' h'; rw [iR_app, List.append_assoc] at h'; replace H := Lib.hid (iT_drop h'); clear h') | (go_at_call 144; refine Calls.mono (tr_carry _ _ _ (s.take.1 :: l) _ K HRB.out (by omega) hl3 H.out) ?_; rintro e w' ⟨u, hu, rfl, h'⟩; replace H := Lib.hid h'; clear h'))
  simp only [List.length_cons] at hu
  obtain ⟨u9, hu9, h9⟩ := tick_up (t := t) (N := 17 + 15 * l.length) H.out (by omega) (by omega)
  exact hR.out _ _ ⟨_, u9, hu9, rfl, h9⟩
end
end Go.Proofs.YtognmhgdegpdiaaGreat
end
section
/- Binomial heaps, skew heaps: Min, Meld. -/
namespace Go.Proofs.YtognmhgdegpdiaaGreat
open Go.RowKit
set_option linter.unusedVariables false
set_option linter.unusedSimpArgs false
set_option maxRecDepth 100000
section
variable {B : Nat} {w0 w : World} {C : List Ent} {vf : Value} (X : ArM) (s : Ar) (t : Nat)
theorem bi_min (r : Int) (hn : s.n ≤ 65536) (h : Led B w0 w (X.es vf (s.tick t) ++ C)) :
    Calls Tryz.prog 99 #[.pointer (some ⟨X.p, 0, none⟩), .int .i64 r] w fun e w' => ∃ u, u ≤ 7 * s.n + 1 ∧ e = .returned (.int .i64 (s.bmin r)) ∧ Led B w0 w' (X.es vf (s.tick (t + u)) ++ C) := by
  have H := Lib.hid h
  clear h
  have hlm : (s.tlist r).length ≤ 1000000 := by have := s.tlist_le r; omega
  have hlm2 := s.tlist_le r
  refine callsR fun R hR => ?_
  go_enter Tryz.func99, Tryz.ntmps99
  go_wp2_with (first | (go_at_call 145; refine Calls.mono (tr_list _ _ _ _ hn H.out) ?_; rintro e w' ⟨v9, rfl, h'⟩; replace H := Lib.hid h'; obtain ⟨A9, c9, hv9, _⟩ := iT_form (iT_tab h'); subst hv9; clear h') | (go_at_call 152; refine Calls.mono (tr_best _ _ _ _ _ hlm H.out) ?_; rintro e w' ⟨u, hu, rfl, h'⟩; replace H := Lib.hid (iT_drop h'); clear h') | (go_at_call 151; refine Calls.mono (t_cell _ _ _ _ _ (by decide) H.out) ?_; rintro e w' ⟨rfl, h'⟩; replace H := Lib.hid h'; clear h'))
  obtain ⟨u9, hu9, h9⟩ := tick_up (t := t) (N := 7 * s.n + 1) H.out (by omega) (by omega)
  exact hR.out _ _ ⟨u9, hu9, rfl, h9⟩
theorem sk_min (r : Int) (hn : s.n ≤ 65536) (h : Led B w0 w (X.es vf (s.tick t) ++ C)) :
    Calls Tryz.prog 100 #[.pointer (some ⟨X.p, 0, none⟩), .int .i64 r] w fun e w' => ∃ u, u ≤ 7 * s.n + 1 ∧ e = .returned (.int .i64 (s.bmin r)) ∧ Led B w0 w' (X.es vf (s.tick (t + u)) ++ C) := by
  have H := Lib.hid h
  clear h
  have hlm : (s.tlist r).length ≤ 1000000 := by have := s.tlist_le r; omega
  have hlm2 := s.tlist_le r
  refine callsR fun R hR => ?_
  go_enter Tryz.func100, Tryz.ntmps100
  go_wp2_with (first | (go_at_call 145; refine Calls.mono (tr_list _ _ _ _ hn H.out) ?_; rintro e w' ⟨v9, rfl, h'⟩; replace H := Lib.hid h'; obtain ⟨A9, c9, hv9, _⟩ := iT_form (iT_tab h'); subst hv9; clear h') | (go_at_call 152; refine Calls.mono (tr_best _ _ _ _ _ hlm H.out) ?_; rintro e w' ⟨u, hu, rfl, h'⟩; replace H := Lib.hid (iT_drop h'); clear h') | (go_at_call 151; refine Calls.mono (t_cell _ _ _ _ _ (by decide) H.out) ?_; rintro e w' ⟨rfl, h'⟩; replace H := Lib.hid h'; clear h'))
  obtain ⟨u9, hu9, h9⟩ := tick_up (t := t) (N := 7 * s.n + 1) H.out (by omega) (by omega)
  exact hR.out _ _ ⟨u9, hu9, rfl, h9⟩
end
end Go.Proofs.YtognmhgdegpdiaaGreat
end
section
/- Binomial heaps: without. -/
namespace Go.Proofs.YtognmhgdegpdiaaGreat
open Go.RowKit
set_option linter.unusedVariables false
set_option linter.unusedSimpArgs false
set_option maxRecDepth 100000
section
variable {B : Nat} {w0 w : World} {C : List Ent} {vf : Value} (X : ArM) (s : Ar) (t : Nat)
set_option maxHeartbeats 8000000 in
theorem bi_wo (l : List Int) (vl : Value) (n : Int) (K : Int) (hrb : s.RB K) (hK : 0 ≤ K ∧ K ≤ 10000000) (hn : s.n ≤ 65536) (hok : s.Ok) (hll : l.length ≤ 1000) (hl : (idel n l ++ s.tkids n).length ≤ 19) (h : Led B w0 w (X.es vf (s.tick t) ++ iT vl l :: C)) :
    Calls Tryz.prog 156 #[.pointer (some ⟨X.p, 0, none⟩), vl, .int .i64 n] w fun e w' => ∃ vf2 u, u ≤ 4 + s.n + 14 * (idel n l ++ s.tkids n).length ∧ e = .returned (.tuple #[.int .i64 (s.bwo l n).2, .int .i64 (s.cell n 6)]) ∧ Led B w0 w' (X.es vf2 ((s.bwo l n).1.tick (t + u)) ++ C) := by
  have H := Lib.hid h
  clear h
  have HOK := Lib.hid hok
  have HRB := Lib.hid (hrb.endNode n)
  clear hrb hok
  have hv : s.bwo l n = (s.endNode n).tcarry (idel n l ++ s.tkids n) := rfl
  rw [hv]
  clear hv
  have htk := s.tkids_le n
  obtain ⟨kd, hk⟩ : ∃ k, s.tkids n = k := ⟨_, rfl⟩
  rw [hk] at hl htk ⊢
  have HK := Lib.hid hk
  clear hk
  have hl2 : (iR (idel n l)).length + (iR kd).length ≤ 1000000000 := by rw [iR_len, iR_len]; rw [List.length_append] at hl; omega
  refine callsR fun R hR => ?_
  go_enter Tryz.func156, Tryz.ntmps156
  go_upto_region 1 with fail
  have H2 := Lib.hid (H.out.insert (blkE w.heap.size 3 #[.int .i64 n]) ((Below.refl _ _).alloc (Nat.le_refl _) (.cells #[.int .i64 n] 3)) (Blk.new _ _ _) (fun b hb => by simp [blkE] at hb; omega))
  replace H := H2
  clear H2
  go_upto_region 2 with (first | (go_at_call 190; refine Calls.mono (del_all_b n _ _ l (by omega) H.out) ?_; rintro e w' ⟨v8, rfl, h'⟩; replace H := Lib.hid h'; obtain ⟨A8, c8, hv8, _⟩ := iT_form (iT_tab (A := X.es vf (s.tick t) ++ [blkE w.heap.size 3 #[.int .i64 n]]) (v := v8) (L := idel n l) (C := C) (by simpa using h')); subst hv8; clear h'; have b1 := (blk_mem H.out).cell 0; simp only [List.getElem?_toArray, List.getElem?_cons_zero] at b1))
  replace H := Lib.hid (show Led B w0 w' (X.es vf (s.tick t) ++ iT (.slice A8 (idel n l).length c8) (idel n l) :: blkE w.heap.size 3 #[.int .i64 n] :: C) from H.out.perm (List.Perm.append_left _ (List.Perm.swap _ _ _)))
  generalize w.heap.size = b9 at *
  have KS : Hid (∀ W st vq E1 E2, Led B w0 W (X.es vq (Ar.tick st E1) ++ E2 ++ blkE b9 3 #[.int .i64 n] :: C) → W.cell? ⟨b9, 0, none⟩ = some (.int .i64 n)) := Lib.hid fun W st vq E1 E2 hW => by have := (blk_mem hW).cell 0; simpa using this
  have HKN : Hid (s.n ≤ 65536) := Lib.hid hn
  go_upto_region 3 with (first | (go_at_call 192; refine Calls.mono (tr_kids _ _ _ _ HKN.out H.out) ?_; rintro e w' ⟨v9, rfl, h'⟩; rw [HK.out] at h'; replace H := Lib.hid h'; obtain ⟨A9, c9, hv9, _⟩ := iT_form (iT_tab h'); subst hv9; clear h') | (at_builtin; refine wpList_appendAll (.tmp 13) (.tmp 16) (.slice A8 (idel n l).length c8) (.slice A9 kd.length c9) (iR (idel n l)) (iR kd) (X.es vf (s.tick (t + (1 + kd.length))) ++ [iT (.slice A9 kd.length c9) kd]) (blkE b9 3 #[.int .i64 n] :: C) (by rfl) (by rfl) Tryz.underlying45 info_int_ (by rfl) (by decide) (by decide) hl2 (iR_one _) (by rfl) (by rfl) (by simpa [iT] using H.out) (by simp [iT]) ?_; intro v' w' h'; rw [iR_app, List.append_assoc] at h'; replace H := Lib.hid (iT_drop h'); clear h'; clear b1; have b1 := KS.out _ _ _ _ [_] (by simpa [iT] using H.out)))
  go_wp2_with (first | (go_at_call 155; refine Calls.mono (node_end _ _ _ _ HOK.out H.out) ?_; rintro e w' ⟨vf1, rfl, h'⟩; replace H := Lib.hid h'; clear h') | (go_at_call 144; refine Calls.mono (tr_carry _ _ _ (idel n l ++ kd) _ K HRB.out (by omega) hl H.out) ?_; rintro e w' ⟨u, hu, rfl, h'⟩; replace H := Lib.hid h'; clear h'))
  have h7 := iT_drop H.out
  obtain ⟨u9, hu9, h9⟩ := tick_up (t := t) (N := 4 + s.n + 14 * (idel n l ++ kd).length) h7 (by omega) (by omega)
  exact hR.out _ _ ⟨_, u9, hu9, rfl, h9⟩
end
end Go.Proofs.YtognmhgdegpdiaaGreat
end
section
/- Binomial heaps: Pop. -/
namespace Go.Proofs.YtognmhgdegpdiaaGreat
open Go.RowKit
set_option linter.unusedVariables false
set_option linter.unusedSimpArgs false
set_option maxRecDepth 100000
section
variable {B : Nat} {w0 w : World} {C : List Ent} {vf : Value} (X : ArM) (s : Ar) (t : Nat)
set_option maxHeartbeats 4000000 in
theorem bi_pop (r : Int) (K : Int) (hrb : s.RB K) (hK : 0 ≤ K ∧ K ≤ 10000000) (hn : s.n ≤ 65536) (hok : s.Ok) (hlv : s.has r = true) (hll : (s.tlist r).length ≤ 1000) (hl : (idel (s.btop r) (s.tlist r) ++ s.tkids (s.btop r)).length ≤ 19) (h : Led B w0 w (X.es vf (s.tick t) ++ C)) :
    Calls Tryz.prog 104 #[.pointer (some ⟨X.p, 0, none⟩), .int .i64 r] w fun e w' => ∃ vf2 u, u ≤ 4 + s.n + 7 * (s.tlist r).length + 14 * (idel (s.btop r) (s.tlist r) ++ s.tkids (s.btop r)).length ∧ e = .returned (.tuple #[.int .i64 (s.bpop r).2.1, .int .i64 (s.bpop r).2.2]) ∧ Led B w0 w' (X.es vf2 ((s.bpop r).1.tick (t + u)) ++ C) := by
  have H := Lib.hid h
  clear h
  have HOK := Lib.hid hok
  clear hok
  have HRB := Lib.hid hrb
  clear hrb
  have hlm : (s.tlist r).length ≤ 1000000 := by omega
  have hb : s.tbest (-1) (s.tlist r) = s.btop r := rfl
  have HB := Lib.hid hb
  clear hb
  refine callsR fun R hR => ?_
  go_enter Tryz.func104, Tryz.ntmps104
  go_wp2_with (first | (go_at_call 153; refine Calls.mono (t_live _ _ _ _ H.out) ?_; rintro e w' ⟨rfl, rfl⟩; (try rw [hlv])) | (go_at_call 145; refine Calls.mono (tr_list _ _ _ _ hn H.out) ?_; rintro e w' ⟨v9, rfl, h'⟩; replace H := Lib.hid h'; obtain ⟨A9, c9, hv9, _⟩ := iT_form (iT_tab h'); subst hv9; clear h') | (go_at_call 152; refine Calls.mono (tr_best _ _ _ _ _ hlm H.out) ?_; rintro e w' ⟨u, hu, rfl, h'⟩; rw [HB.out]; replace H := Lib.hid h'; clear h') | (go_at_call 156; refine Calls.mono (bi_wo _ _ _ (s.tlist r) _ (s.btop r) K HRB.out hK hn HOK.out hll hl H.out) ?_; rintro e w' ⟨vf1, u1, hu1, rfl, h'⟩; replace H := Lib.hid h'; clear h'))
  obtain ⟨u9, hu9, h9⟩ := tick_up (t := t) (N := 4 + s.n + 7 * (s.tlist r).length + 14 * (idel (s.btop r) (s.tlist r) ++ s.tkids (s.btop r)).length) H.out (by omega) (by omega)
  exact hR.out _ _ ⟨_, u9, hu9, rfl, h9⟩
end
end Go.Proofs.YtognmhgdegpdiaaGreat
end
section
/- Skew heaps: single, Push. -/
namespace Go.Proofs.YtognmhgdegpdiaaGreat
open Go.RowKit
set_option linter.unusedVariables false
set_option linter.unusedSimpArgs false
set_option maxRecDepth 100000
def Ar.ssec (s : Ar) (r : Int) : Int := if r = -1 then -1 else s.cell r 3
def Ar.sjoin (s : Ar) (r n : Int) : Ar × Int :=
  let b := s.tlink r (s.ssec r) (s.get r 4)
  ((((if b.1.nbefore n b.2 then b.1.swapItem n b.2 else b.1).tunder n b.2).put b.2 3 (s.cell (s.ssec r) 3)), b.2)
def Ar.ssingle (s : Ar) (r n : Int) : Ar × Int := if s.ssec r = -1 ∨ s.get (s.ssec r) 4 ≠ s.get r 4 then ((s.put n 3 r).put n 0 (-1), n) else s.sjoin r n
def Ar.spush (s : Ar) (r i : Int) : Ar × Int := (s.newNode i).ssingle r s.take.1
theorem Ar.Ok.swap {s : Ar} (h : s.Ok) (n m : Int) : (s.swapItem n m).Ok := by unfold Ar.swapItem Ar.putItem; exact (((h.put _ _ _).put _ _ _).put _ _ _).put _ _ _
theorem Ar.Ok.ssingle {s : Ar} (h : s.Ok) (r n : Int) : (s.ssingle r n).1.Ok := by
  unfold Ar.ssingle
  split
  · exact (h.put _ _ _).put _ _ _
  · unfold Ar.sjoin
    simp only
    refine Ar.Ok.put (Ar.Ok.tunder ?_ _ _) _ _ _
    split
    · exact (h.tlink _ _ _).swap _ _
    · exact h.tlink _ _ _
theorem Ar.RB.swap {s : Ar} {K : Int} (h : s.RB K) (n m : Int) : (s.swapItem n m).RB K := by unfold Ar.swapItem Ar.putItem; exact (((h.put _ _ _ (by decide)).put _ _ _ (by decide)).put _ _ _ (by decide)).put _ _ _ (by decide)
theorem Ar.RB.ssingle {s : Ar} {K : Int} (h : s.RB K) (hK : 0 ≤ K) (r n : Int) : (s.ssingle r n).1.RB (K + 1) := by
  have h0 := h.get (by omega) r
  have h1 := h.mono (show K ≤ K + 1 by omega)
  unfold Ar.ssingle
  split
  · exact (h1.put _ _ _ (by decide)).put _ _ _ (by decide)
  · unfold Ar.sjoin
    simp only
    refine Ar.RB.put (Ar.RB.tunder ?_ _ _) _ _ _ (by decide)
    split
    · exact (h1.tlink _ _ _ (by omega) (by omega)).swap _ _
    · exact h1.tlink _ _ _ (by omega) (by omega)
section
variable {B : Nat} {w0 w : World} {C : List Ent} {vf : Value} (X : ArM) (s : Ar) (t : Nat)
set_option maxHeartbeats 4000000 in
theorem sk_single (r n : Int) (K : Int) (hrb : s.RB K) (hK : 0 ≤ K ∧ K ≤ 20000000) (h : Led B w0 w (X.es vf (s.tick t) ++ C)) :
    Calls Tryz.prog 146 #[.pointer (some ⟨X.p, 0, none⟩), .int .i64 r, .int .i64 n] w fun e w' => ∃ u, u ≤ 32 ∧ e = .returned (.int .i64 (s.ssingle r n).2) ∧ Led B w0 w' (X.es vf ((s.ssingle r n).1.tick (t + u)) ++ C) := by
  have H := Lib.hid h
  clear h
  have hq0 := hrb.get (by omega) r
  have HQ : Hid (-1000000000 ≤ s.get r 4 ∧ s.get r 4 ≤ 1000000000) := Lib.hid (by omega)
  clear hrb hq0
  by_cases hr1 : r = -1
  · subst hr1
    have hv : s.ssingle (-1) n = ((s.put n 3 (-1)).put n 0 (-1), n) := by rw [Ar.ssingle, Ar.ssec, if_pos rfl, if_pos (.inl rfl)]
    have HV := Lib.hid hv
    clear hv
    refine callsR fun R hR => ?_
    go_enter Tryz.func146, Tryz.ntmps146
    go_wp2_with (first | (go_at_call 110; refine Calls.mono (t_get _ _ _ _ _ (by decide) H.out) ?_; rintro e w' ⟨rfl, h'⟩; replace H := Lib.hid h'; clear h') | (go_at_call 89; refine Calls.mono (t_set _ _ _ _ _ _ (by decide) H.out) ?_; rintro e w' ⟨rfl, h'⟩; replace H := Lib.hid h'; clear h'))
    obtain ⟨u9, hu9, h9⟩ := tick_up (t := t) (N := 32) H.out (by omega) (by omega)
    exact hR.out _ _ ⟨u9, hu9, by rw [HV.out] <;> rfl, by rw [HV.out]; exact h9⟩
  · have g0 : (r != -1) = true := by simpa using hr1
    have hsec : s.ssec r = s.cell r 3 := by rw [Ar.ssec, if_neg hr1]
    obtain ⟨c, hc⟩ : ∃ c, s.cell r 3 = c := ⟨_, rfl⟩
    rw [hc] at hsec
    have HC := Lib.hid hc
    clear hc
    by_cases hs1 : c = -1
    · subst hs1
      have hv : s.ssingle r n = ((s.put n 3 r).put n 0 (-1), n) := by rw [Ar.ssingle, hsec, if_pos (.inl rfl)]
      have HV := Lib.hid hv
      clear hv hsec hr1
      refine callsR fun R hR => ?_
      go_enter Tryz.func146, Tryz.ntmps146
      go_wp2_with (first | (go_at_call 151; refine Calls.mono (t_cell _ _ _ _ _ (by decide) H.out) ?_; rintro e w' ⟨rfl, h'⟩; replace H := Lib.hid h'; clear h'; rw [HC.out]) | (go_at_call 110; refine Calls.mono (t_get _ _ _ _ _ (by decide) H.out) ?_; rintro e w' ⟨rfl, h'⟩; replace H := Lib.hid h'; clear h') | (go_at_call 89; refine Calls.mono (t_set _ _ _ _ _ _ (by decide) H.out) ?_; rintro e w' ⟨rfl, h'⟩; replace H := Lib.hid h'; clear h'))
      obtain ⟨u9, hu9, h9⟩ := tick_up (t := t) (N := 32) H.out (by omega) (by omega)
      exact hR.out _ _ ⟨u9, hu9, by rw [HV.out] <;> rfl, by rw [HV.out]; exact h9⟩
    · have g1 : (c == -1) = false := by simpa using hs1
      by_cases hg : s.get c 4 = s.get r 4
      · have g2 : (s.get c 4 != s.get r 4) = false := by simp [hg]
        have hv : s.ssingle r n = s.sjoin r n := by rw [Ar.ssingle, hsec, if_neg (by simp [hs1, hg])]
        unfold Ar.sjoin at hv
        rw [hsec] at hv
        obtain ⟨b, hb⟩ : ∃ b, s.tlink r c (s.get r 4) = b := ⟨_, rfl⟩
        rw [hb] at hv
        simp only at hv
        have HB := Lib.hid hb
        clear hb hsec hr1 hs1 hg
        cases g3 : b.1.nbefore n b.2 with
        | true =>
          simp only [g3, if_true] at hv
          have HV := Lib.hid hv
          clear hv
          refine callsR fun R hR => ?_
          go_enter Tryz.func146, Tryz.ntmps146
          go_wp2_with (first | (go_at_call 151; refine Calls.mono (t_cell _ _ _ _ _ (by decide) H.out) ?_; rintro e w' ⟨rfl, h'⟩; replace H := Lib.hid h'; clear h'; (try rw [HC.out])) | (go_at_call 110; refine Calls.mono (t_get _ _ _ _ _ (by decide) H.out) ?_; rintro e w' ⟨rfl, h'⟩; replace H := Lib.hid h'; clear h') | (go_at_call 183; refine Calls.mono (tr_link _ _ _ _ _ _ HQ.out H.out) ?_; rintro e w' ⟨rfl, h'⟩; replace H := Lib.hid h'; clear h'; rw [HB.out]; rw [HB.out] at H) | (go_at_call 164; refine Calls.mono (node_before _ _ _ _ _ H.out) ?_; rintro e w' ⟨rfl, h'⟩; replace H := Lib.hid h'; clear h'; rw [g3]) | (go_at_call 187; refine Calls.mono (item_swap _ _ _ _ _ H.out) ?_; rintro e w' ⟨rfl, h'⟩; replace H := Lib.hid h'; clear h') | (go_at_call 188; refine Calls.mono (tr_under _ _ _ _ _ H.out) ?_; rintro e w' ⟨rfl, h'⟩; replace H := Lib.hid h'; clear h') | (go_at_call 89; refine Calls.mono (t_set _ _ _ _ _ _ (by decide) H.out) ?_; rintro e w' ⟨rfl, h'⟩; replace H := Lib.hid h'; clear h'))
          obtain ⟨u9, hu9, h9⟩ := tick_up (t := t) (N := 32) H.out (by omega) (by omega)
          exact hR.out _ _ ⟨u9, hu9, by rw [HV.out] <;> rfl, by rw [HV.out]; exact h9⟩
        | false =>
          simp only [g3, Bool.false_eq_true, if_false] at hv
          have HV := Lib.hid hv
          clear hv
          refine callsR fun R hR => ?_
          go_enter Tryz.func146, Tryz.ntmps146
          go_wp2_with (first | (go_at_call 151; refine Calls.mono (t_cell _ _ _ _ _ (by decide) H.out) ?_; rintro e w' ⟨rfl, h'⟩; replace H := Lib.hid h'; clear h'; (try rw [HC.out])) | (go_at_call 110; refine Calls.mono (t_get _ _ _ _ _ (by decide) H.out) ?_; rintro e w' ⟨rfl, h'⟩; replace H := Lib.hid h'; clear h') | (go_at_call 183; refine Calls.mono (tr_link _ _ _ _ _ _ HQ.out H.out) ?_; rintro e w' ⟨rfl, h'⟩; replace H := Lib.hid h'; clear h'; rw [HB.out]; rw [HB.out] at H) | (go_at_call 164; refine Calls.mono (node_before _ _ _ _ _ H.out) ?_; rintro e w' ⟨rfl, h'⟩; replace H := Lib.hid h'; clear h'; rw [g3]) | (go_at_call 187; refine Calls.mono (item_swap _ _ _ _ _ H.out) ?_; rintro e w' ⟨rfl, h'⟩; replace H := Lib.hid h'; clear h') | (go_at_call 188; refine Calls.mono (tr_under _ _ _ _ _ H.out) ?_; rintro e w' ⟨rfl, h'⟩; replace H := Lib.hid h'; clear h') | (go_at_call 89; refine Calls.mono (t_set _ _ _ _ _ _ (by decide) H.out) ?_; rintro e w' ⟨rfl, h'⟩; replace H := Lib.hid h'; clear h'))
          obtain ⟨u9, hu9, h9⟩ := tick_up (t := t) (N := 32) H.out (by omega) (by omega)
          exact hR.out _ _ ⟨u9, hu9, by rw [HV.out] <;> rfl, by rw [HV.out]; exact h9⟩
      · have g2 : (s.get c 4 != s.get r 4) = true := by simpa using hg
        have hv : s.ssingle r n = ((s.put n 3 r).put n 0 (-1), n) := by rw [Ar.ssingle, hsec, if_pos (.inr hg)]
        have HV := Lib.hid hv
        clear hv hsec hr1 hs1 hg
        refine callsR fun R hR => ?_
        go_enter Tryz.func146, Tryz.ntmps146
        go_wp2_with (first | (go_at_call 151; refine Calls.mono (t_cell _ _ _ _ _ (by decide) H.out) ?_; rintro e w' ⟨rfl, h'⟩; replace H := Lib.hid h'; clear h'; rw [HC.out]) | (go_at_call 110; refine Calls.mono (t_get _ _ _ _ _ (by decide) H.out) ?_; rintro e w' ⟨rfl, h'⟩; replace H := Lib.hid h'; clear h') | (go_at_call 89; refine Calls.mono (t_set _ _ _ _ _ _ (by decide) H.out) ?_; rintro e w' ⟨rfl, h'⟩; replace H := Lib.hid h'; clear h'))
        obtain ⟨u9, hu9, h9⟩ := tick_up (t := t) (N := 32) H.out (by omega) (by omega)
        exact hR.out _ _ ⟨u9, hu9, by rw [HV.out] <;> rfl, by rw [HV.out]; exact h9⟩
theorem sk_push (r i : Int) (K : Int) (hrb : s.RB K) (hK : 0 ≤ K ∧ K ≤ 10000000) (hn : s.n ≤ 65536) (hok : s.Ok) (hr : s.take.2.1 = true) (h : Led B w0 w (X.es vf (s.tick t) ++ C)) :
    Calls Tryz.prog 92 #[.pointer (some ⟨X.p, 0, none⟩), .int .i64 r, .int .i64 i] w fun e w' => ∃ vf2 u, u ≤ 35 ∧ e = .returned (.tuple #[.int .i64 (s.spush r i).2, .bool true]) ∧ Led B w0 w' (X.es vf2 ((s.spush r i).1.tick (t + u)) ++ C) := by
  have H := Lib.hid h
  clear h
  have HOK := Lib.hid hok
  clear hok
  have HRB := Lib.hid (hrb.newNode hK.1 i)
  clear hrb
  refine callsR fun R hR => ?_
  go_enter Tryz.func92, Tryz.ntmps92
  go_wp2_with (first | (go_at_call 142; refine Calls.mono (node_new _ _ _ _ HOK.out hr H.out) ?_; rintro e w' ⟨vf1, rfl, h'⟩; replace H := Lib.hid h'; clear h') | (go_at_call 146; refine Calls.mono (sk_single _ _ _ _ _ K HRB.out (by omega) H.out) ?_; rintro e w' ⟨u, hu, rfl, h'⟩; replace H := Lib.hid h'; clear h'))
  obtain ⟨u9, hu9, h9⟩ := tick_up (t := t) (N := 35) H.out (by omega) (by omega)
  exact hR.out _ _ ⟨_, u9, hu9, rfl, h9⟩
end
end Go.Proofs.YtognmhgdegpdiaaGreat
end
section
/- Skew heaps: without, Pop. -/
namespace Go.Proofs.YtognmhgdegpdiaaGreat
open Go.RowKit
set_option linter.unusedVariables false
set_option linter.unusedSimpArgs false
set_option maxRecDepth 100000
def Ar.sones : Ar → Int → List Int → Ar × Int
  | s, r, [] => (s, r)
  | s, r, x :: l => Ar.sones (s.ssingle r x).1 (s.ssingle r x).2 l
def Ar.krest (s : Ar) (l : List Int) : List Int := l.filter fun x => !(s.get x 4 == 0)
def Ar.kzero (s : Ar) (l : List Int) : List Int := l.filter fun x => s.get x 4 == 0
def Ar.swo (s : Ar) (l : List Int) (n : Int) : Ar × Int := ((s.endNode n).tcarry (idel n l ++ s.krest (s.tkids n))).1.sones ((s.endNode n).tcarry (idel n l ++ s.krest (s.tkids n))).2 (s.kzero (s.tkids n))
def Ar.spop (s : Ar) (r : Int) : Ar × Int × Int := ((s.swo (s.tlist r) (s.btop r)).1, (s.swo (s.tlist r) (s.btop r)).2, s.cell (s.btop r) 6)
theorem led_drop2 {B : Nat} {w0 w : World} {A C : List Ent} {a b c d : Ent} (h : Led B w0 w (A ++ a :: b :: c :: d :: C)) : Led B w0 w (A ++ a :: b :: d :: C) :=
  h.sub (List.Sublist.append (List.Sublist.refl _) (((List.sublist_cons_self c (d :: C)).cons_cons b).cons_cons a))
theorem Ar.krest_le (s : Ar) (l : List Int) : (s.krest l).length ≤ l.length := List.length_filter_le _ _
theorem Ar.kzero_le (s : Ar) (l : List Int) : (s.kzero l).length ≤ l.length := List.length_filter_le _ _
theorem Ar.RB.cgo : ∀ (k : Nat) {s : Ar} {K : Int} {W : List (Int × Int)} {out : List Int}, s.RB K → (∀ y, y ∈ W → -1 ≤ y.2 ∧ y.2 ≤ K) → (Ar.cgo k s W out).1.RB (K + k)
  | 0, s, K, W, out, h, _ => by unfold Ar.cgo; exact h.mono (by omega)
  | k + 1, s, K, [], out, h, _ => by unfold Ar.cgo; exact h.mono (by omega)
  | k + 1, s, K, [x], out, h, _ => by
    unfold Ar.cgo
    exact (Ar.RB.cgo k (W := []) (out := out ++ [x.1]) h (by simp)).mono (by omega)
  | k + 1, s, K, x :: y :: l, out, h, hW => by
    unfold Ar.cgo
    have hx := hW x (by simp)
    split
    · refine (Ar.RB.cgo k (K := K + 1) ((h.mono (by omega)).tlink _ _ _ (by omega) (by omega)) ?_).mono (by omega)
      intro z hz
      rcases List.mem_append.1 hz with hz | hz
      · have := hW z (by simp [List.mem_of_mem_take hz]); omega
      · rcases List.mem_cons.1 hz with rfl | hz
        · exact ⟨by omega, by omega⟩
        · have := hW z (by simp [List.mem_of_mem_drop hz]); omega
    · exact (Ar.RB.cgo k h (fun z hz => hW z (List.mem_cons_of_mem _ hz))).mono (by omega)
theorem Ar.RB.tcarry {s : Ar} {K : Int} (h : s.RB K) (hK : -1 ≤ K) (l : List Int) : (s.tcarry l).1.RB (K + l.length) := by
  unfold Ar.tcarry Ar.trow
  refine Ar.RB.trowB (Ar.RB.cgo _ h ?_)
  intro y hy
  rcases mem_isort _ _ hy with h1 | h1
  · cases h1
  · obtain ⟨n, _, rfl⟩ := List.mem_map.1 h1
    exact h.get hK n
section
variable {B : Nat} {w0 w : World} {C : List Ent} {vf : Value} (X : ArM) (s : Ar) (t : Nat)
set_option maxHeartbeats 8000000 in
theorem sk_wo (l : List Int) (vl : Value) (n : Int) (K : Int) (hrb : s.RB K) (hK : 0 ≤ K ∧ K ≤ 10000000) (hn : s.n ≤ 65536) (hok : s.Ok) (hll : l.length ≤ 1000) (hl : (idel n l ++ s.krest (s.tkids n)).length ≤ 19) (h : Led B w0 w (X.es vf (s.tick t) ++ iT vl l :: C)) :
    Calls Tryz.prog 157 #[.pointer (some ⟨X.p, 0, none⟩), vl, .int .i64 n] w fun e w' => ∃ vf2 u, u ≤ 4 + 34 * (s.tkids n).length + 14 * (idel n l ++ s.krest (s.tkids n)).length ∧ e = .returned (.tuple #[.int .i64 (s.swo l n).2, .int .i64 (s.cell n 6)]) ∧ Led B w0 w' (X.es vf2 ((s.swo l n).1.tick (t + u)) ++ C) := by
  have H := Lib.hid h
  clear h
  have HOK := Lib.hid hok
  have HRB := Lib.hid (hrb.endNode n)
  clear hrb hok
  have hid1 := idel_le n l
  obtain ⟨kd, hk⟩ : ∃ k, s.tkids n = k := ⟨_, rfl⟩
  have htk := s.tkids_le n
  obtain ⟨P, hP⟩ : ∃ P, (s.endNode n).tcarry (idel n l ++ s.krest kd) = P := ⟨_, rfl⟩
  obtain ⟨G, hG⟩ : ∃ G, P.1.sones P.2 (s.kzero kd) = G := ⟨_, rfl⟩
  have hv : s.swo l n = G := by rw [Ar.swo, hk, hP, hG]
  rw [hv]
  rw [hk] at hl htk ⊢
  have HK := Lib.hid hk
  have HP := Lib.hid hP
  have HG := Lib.hid hG
  clear hk hP hG hv
  obtain ⟨N, hN⟩ : ∃ N, kd.length = N := ⟨_, rfl⟩
  rw [hN] at htk ⊢
  have HN := Lib.hid hN
  clear hN
  have HKN : Hid (s.n ≤ 65536) := Lib.hid hn
  refine callsR fun R hR => ?_
  go_enter Tryz.func157, Tryz.ntmps157
  go_upto_region 1 with fail
  have H2 := Lib.hid (H.out.insert (blkE w.heap.size 3 #[.int .i64 n]) ((Below.refl _ _).alloc (Nat.le_refl _) (.cells #[.int .i64 n] 3)) (Blk.new _ _ _) (fun b hb => by simp [blkE] at hb; omega))
  replace H := H2
  clear H2
  go_upto_region 2 with (first | (go_at_call 190; refine Calls.mono (del_all_s n _ _ l (by omega) H.out) ?_; rintro e w' ⟨v8, rfl, h'⟩; replace H := Lib.hid h'; obtain ⟨A8, c8, hv8, _⟩ := iT_form (iT_tab (A := X.es vf (s.tick t) ++ [blkE w.heap.size 3 #[.int .i64 n]]) (v := v8) (L := idel n l) (C := C) (by simpa using h')); subst hv8; clear h'; have b1 := (blk_mem H.out).cell 0; simp only [List.getElem?_toArray, List.getElem?_cons_zero] at b1))
  replace H := Lib.hid (show Led B w0 w' (X.es vf (s.tick t) ++ iT (.slice A8 (idel n l).length c8) (idel n l) :: blkE w.heap.size 3 #[.int .i64 n] :: C) from H.out.perm (List.Perm.append_left _ (List.Perm.swap _ _ _)))
  generalize w.heap.size = b9 at *
  go_upto_block 0 with (first | (go_at_call 192; refine Calls.mono (tr_kids _ _ _ _ HKN.out H.out) ?_; rintro e w' ⟨v7, rfl, h'⟩; rw [HK.out] at h'; replace H := Lib.hid h'; obtain ⟨A7, c7, hv7, hA7⟩ := iT_form (iT_tab h'); subst hv7; clear h'))
  rw [HN.out] at H hA7 ⊢
  have H2 := Lib.hid (iT_new (A := X.es vf (s.tick (t + (1 + N))) ++ [iT (.slice A8 (idel n l).length c8) (idel n l)]) (C := iT (.slice A7 N c7) kd :: blkE b9 3 #[.int .i64 n] :: C) (by have := H.out.perm (List.Perm.append_left _ (List.Perm.swap _ _ _)); simpa using this))
  replace H := Lib.hid (show Led B w0 w' (X.es vf (s.tick (t + (1 + N))) ++ iT (.slice A8 (idel n l).length c8) (idel n l) :: iT (.slice none 0 0) [] :: iT (.slice A7 N c7) kd :: blkE b9 3 #[.int .i64 n] :: C) by simpa using H2.out)
  clear H2 b1
  go_cut [8, 9] (fun v8 v9 wx => Hid (Led B w0 wx (X.es vf (s.tick (t + (1 + N + N))) ++ iT v8 (idel n l ++ s.krest kd) :: iT v9 (s.kzero kd) :: iT (.slice A7 N c7) kd :: blkE b9 3 #[.int .i64 n] :: C)))
  case first =>
    go_wp2_with fail
    go_loopw [8, 9, 23] (fun v8 v9 x wx => ∃ j : Nat, x = .int .i64 (j : Int) ∧ j ≤ N ∧ lenV v8 = (idel n l ++ s.krest (kd.take j)).length ∧ lenV v9 = (s.kzero (kd.take j)).length ∧ Hid (Led B w0 wx (X.es vf (s.tick (t + (1 + N + j))) ++ iT v8 (idel n l ++ s.krest (kd.take j)) :: iT v9 (s.kzero (kd.take j)) :: iT (.slice A7 N c7) kd :: blkE b9 3 #[.int .i64 n] :: C))) (fun _ _ x _ => N - (intOf x).toNat)
    case atStart => exact ⟨0, rfl, by omega, by simp [Ar.krest, lenV], rfl, by simpa [Ar.krest, Ar.kzero] using H⟩
    case round =>
      clear H
      obtain ⟨j, rfl, hj, hl8, hl9, H⟩ := hrel
      obtain ⟨V8, c8', hv8, _⟩ := iT_form (iT_tab H.out)
      subst hv8
      obtain ⟨V9, c9', hv9, _⟩ := iT_form (iT_tab (A := X.es vf (s.tick (t + (1 + N + j))) ++ [iT (.slice V8 (idel n l ++ s.krest (kd.take j)).length c8') (idel n l ++ s.krest (kd.take j))]) (by simpa using H.out))
      subst hv9
      clear hl8 hl9
      have hb8 : (idel n l ++ s.krest (kd.take j)).length ≤ 70000 := by rw [List.length_append]; have h1 := s.krest_le (kd.take j); rw [List.length_take] at h1; omega
      have hb9 : (s.kzero (kd.take j)).length ≤ 70000 := by have h1 := s.kzero_le (kd.take j); rw [List.length_take] at h1; omega
      obtain ⟨R, hR1⟩ : ∃ R, idel n l ++ s.krest (kd.take j) = R := ⟨_, rfl⟩
      obtain ⟨Z, hZ1⟩ : ∃ Z, s.kzero (kd.take j) = Z := ⟨_, rfl⟩
      rw [hR1, hZ1] at H
      rw [hR1] at hb8 ⊢
      rw [hZ1] at hb9 ⊢
      have HR1 := Lib.hid hR1
      have HZ1 := Lib.hid hZ1
      clear hR1 hZ1
      by_cases hlt : j < N
      · obtain ⟨x, hx⟩ : ∃ x, kd[j]? = some x := ⟨_, List.getElem?_eq_getElem (by rw [HN.out]; exact hlt)⟩
        obtain ⟨g7, rfl⟩ := hA7 (by omega)
        have t1 := iT_get (iT_tab (A := X.es vf (s.tick (t + (1 + N + j))) ++ [iT (.slice V8 R.length c8') R, iT (.slice V9 Z.length c9') Z]) (by simpa using H.out)) hx
        have hlr : (iR R).length ≤ 1000000000 := by rw [iR_len]; omega
        have hlz : (iR Z).length ≤ 1000000000 := by rw [iR_len]; omega
        have hkr : idel n l ++ s.krest (kd.take (j + 1)) = R ++ (if s.get x 4 = 0 then [] else [x]) := by rw [← HR1.out, List.take_add_one, hx]; unfold Ar.krest; rw [List.filter_append, List.append_assoc]; congr 2; by_cases hq : s.get x 4 = 0 <;> simp [hq]
        have hkz : s.kzero (kd.take (j + 1)) = Z ++ (if s.get x 4 = 0 then [x] else []) := by rw [← HZ1.out, List.take_add_one, hx]; unfold Ar.kzero; rw [List.filter_append]; congr 1; by_cases hq : s.get x 4 = 0 <;> simp [hq]
        clear hx
        by_cases hq : s.get x 4 = 0
        · rw [if_pos hq, List.append_nil] at hkr
          rw [if_pos hq] at hkz
          have g1 : (s.get x 4 == 0) = true := by simpa using hq
          have HKR := Lib.hid hkr
          have HKZ := Lib.hid hkz
          clear hkr hkz hq
          go_wp2_with (first | (go_at_call 110; refine Calls.mono (t_get _ _ _ _ _ (by decide) H.out) ?_; rintro e w' ⟨rfl, h'⟩; replace H := Lib.hid h'; clear h') | (at_builtin; refine wpList_push (by rfl) (.tmp 31) (.tmp 33) 45 (by rfl) 0 3 _ 1 8 Tryz.underlying45 info_int_ (by rfl) (by decide) ((.slice V9 Z.length c9')) (iR (Z)) #[.int .i64 (x)] (by rfl) (iT_tab (A := X.es vf (s.tick (t + (1 + N + j) + 1)) ++ [iT (.slice V8 R.length c8') R]) (by simpa using H.out)) (by rfl) (by rfl) (by simp [Value.oneCell']) hlz (by decide) (Nat.zero_le _) ?_; intro v' w' p1 p2 p3; obtain ⟨A', c', hv, _⟩ := p1.form; simp only [List.length_append, List.length_singleton, iR_len] at hv; subst hv; have h9 := iT_push (A := X.es vf (s.tick (t + (1 + N + j) + 1)) ++ [iT (.slice V8 R.length c8') R]) (by simpa using H.out) p1 p2 p3; clear p1 p2 p3))
          go_roundw
          case rel => exact ⟨j + 1, by go_num, by omega, by rw [HKR.out]; rfl, by rw [HKZ.out]; simp [lenV], Lib.hid (by rw [HKR.out, HKZ.out]; have h8 : Led B w0 w' (X.es vf (s.tick (t + (1 + N + j) + 1)) ++ iT (.slice V8 R.length c8') R :: iT (.slice A' (Z.length + 1) c') (Z ++ [x]) :: iT (.slice (some ⟨g7, 0, none⟩) N c7) kd :: blkE b9 3 #[.int .i64 n] :: C) := (by simpa using h9); rw [show t + (1 + N + j) + 1 = t + (1 + N + (j + 1)) by omega] at h8; exact h8)⟩
          case measure => simp [intOf] <;> omega
        · rw [if_neg hq] at hkr
          rw [if_neg hq, List.append_nil] at hkz
          have g1 : (s.get x 4 == 0) = false := by simpa using hq
          have HKR := Lib.hid hkr
          have HKZ := Lib.hid hkz
          clear hkr hkz hq
          go_wp2_with (first | (go_at_call 110; refine Calls.mono (t_get _ _ _ _ _ (by decide) H.out) ?_; rintro e w' ⟨rfl, h'⟩; replace H := Lib.hid h'; clear h') | (at_builtin; refine wpList_push (by rfl) (.tmp 35) (.tmp 37) 45 (by rfl) 0 3 _ 1 8 Tryz.underlying45 info_int_ (by rfl) (by decide) ((.slice V8 R.length c8')) (iR (R)) #[.int .i64 (x)] (by rfl) (iT_tab (A := X.es vf (s.tick (t + (1 + N + j) + 1))) (by simpa using H.out)) (by rfl) (by rfl) (by simp [Value.oneCell']) hlr (by decide) (Nat.zero_le _) ?_; intro v' w' p1 p2 p3; obtain ⟨A', c', hv, _⟩ := p1.form; simp only [List.length_append, List.length_singleton, iR_len] at hv; subst hv; have h9 := iT_push (A := X.es vf (s.tick (t + (1 + N + j) + 1))) (by simpa using H.out) p1 p2 p3; clear p1 p2 p3))
          go_roundw
          case rel => exact ⟨j + 1, by go_num, by omega, by rw [HKR.out]; simp [lenV], by rw [HKZ.out]; rfl, Lib.hid (by rw [HKR.out, HKZ.out]; have h8 : Led B w0 w' (X.es vf (s.tick (t + (1 + N + j) + 1)) ++ iT (.slice A' (R.length + 1) c') (R ++ [x]) :: iT (.slice V9 Z.length c9') Z :: iT (.slice (some ⟨g7, 0, none⟩) N c7) kd :: blkE b9 3 #[.int .i64 n] :: C) := (by simpa using h9); rw [show t + (1 + N + j) + 1 = t + (1 + N + (j + 1)) by omega] at h8; exact h8)⟩
          case measure => simp [intOf] <;> omega
      · obtain rfl : j = N := by omega
        have hkt : kd.take j = kd := List.take_of_length_le (by rw [HN.out]; omega)
        have h8 := H.out
        rw [← HR1.out, ← HZ1.out, hkt] at h8
        have H8 := Lib.hid h8
        clear h8 H
        have e1 : R = idel n l ++ s.krest kd := by rw [← HR1.out, hkt]
        have e2 : Z = s.kzero kd := by rw [← HZ1.out, hkt]
        have E1 := Lib.hid e1
        have E2 := Lib.hid e2
        clear e1 e2 hkt
        go_wp2_with fail
        go_meet
        case rel => rw [E1.out, E2.out]; rw [← HR1.out, ← HZ1.out] at *; exact H8
  case rest =>
    clear H
    replace H := hcut
    clear hcut
    obtain ⟨V8, c8', hv8, _⟩ := iT_form (iT_tab H.out)
    subst hv8
    obtain ⟨V9, c9', hv9, hA9⟩ := iT_form (iT_tab (A := X.es vf (s.tick (t + (1 + N + N))) ++ [iT (.slice V8 (idel n l ++ s.krest kd).length c8') (idel n l ++ s.krest kd)]) (by simpa using H.out))
    subst hv9
    have hzl := s.kzero_le kd
    obtain ⟨Z, hZ⟩ : ∃ Z, s.kzero kd = Z := ⟨_, rfl⟩
    obtain ⟨R, hR0⟩ : ∃ R, idel n l ++ s.krest kd = R := ⟨_, rfl⟩
    rw [hZ] at H hzl hA9 HG ⊢
    rw [hR0] at H hl HP ⊢
    have HR0 := Lib.hid hR0
    clear hZ hR0
    obtain ⟨M, hM⟩ : ∃ M, Z.length = M := ⟨_, rfl⟩
    rw [hM] at H hzl hA9 ⊢
    have HM := Lib.hid hM
    clear hM
    have hkn := HN.out
    have HD := Lib.hid (led_drop2 (A := X.es vf (s.tick (t + (1 + N + N)))) (a := iT (.slice V8 R.length c8') R) (b := iT (.slice V9 M c9') Z) (c := iT (.slice A7 N c7) kd) H.out)
    replace H := HD
    clear HD
    have b1 := (blk_mem (A := X.es vf (s.tick (t + (1 + N + N))) ++ [iT (.slice V8 R.length c8') R, iT (.slice V9 M c9') Z]) (C := C) (by simpa using H.out)).cell 0
    simp only [List.getElem?_toArray, List.getElem?_cons_zero] at b1
    have HRB2 := Lib.hid (HRB.out.tcarry (by omega) R)
    rw [HP.out] at HRB2
    go_upto_block 2 with (first | (go_at_call 155; refine Calls.mono (node_end _ _ _ _ HOK.out H.out) ?_; rintro e w' ⟨vf1, rfl, h'⟩; replace H := Lib.hid h'; clear h') | (go_at_call 144; refine Calls.mono (tr_carry _ _ _ R _ K HRB.out hK hl H.out) ?_; rintro e w' ⟨u0, hu0, rfl, h'⟩; rw [HP.out] at h'; rw [HP.out]; replace H := Lib.hid h'; clear h'))
    go_wp2_with fail
    go_loopw [13, 48] (fun x y wx => ∃ (j : Nat) (sj : Ar) (r : Int) (u : Nat), x = .int .i64 r ∧ y = .int .i64 (j : Int) ∧ j ≤ M ∧ u ≤ 32 * j ∧ Hid (sj.sones r (Z.drop j) = G) ∧ Hid (sj.RB (K + R.length + j)) ∧ Hid (Led B w0 wx (X.es vf1 (sj.tick (t + (1 + N + N) + 3 + u0 + u)) ++ iT (.slice V9 M c9') Z :: blkE b9 3 #[.int .i64 n] :: C))) (fun _ y _ => M - (intOf y).toNat)
    case atStart => exact ⟨0, P.1, P.2, 0, rfl, rfl, by omega, by omega, Lib.hid (by rw [List.drop_zero]; exact HG.out), Lib.hid (by simpa using HRB2.out), H⟩
    case round =>
      clear H
      obtain ⟨j, sj, r, u, rfl, rfl, hj, hu, HE, HR2, H⟩ := hrel
      by_cases hlt : j < M
      · obtain ⟨x, hx⟩ : ∃ x, Z[j]? = some x := ⟨_, List.getElem?_eq_getElem (by rw [HM.out]; exact hlt)⟩
        obtain ⟨g9, rfl⟩ := hA9 (by omega)
        have he := HE.out
        rw [List.drop_eq_getElem_cons (by rw [HM.out]; exact hlt), (List.getElem?_eq_some_iff.1 hx).2, Ar.sones] at he
        have t1 := iT_get (iT_tab H.out) hx
        have HE2 := Lib.hid he
        clear he HE hx
        go_wp2_with (first | (go_at_call 146; refine Calls.mono (sk_single _ _ _ _ _ (K + R.length + j) HR2.out (by omega) H.out) ?_; rintro e w' ⟨u1, hu1, rfl, h'⟩; replace H := Lib.hid h'; clear h'))
        go_roundw
        case rel => exact ⟨j + 1, _, _, u + u1, rfl, by go_num, by omega, by omega, HE2, Lib.hid (by have := HR2.out.ssingle (by omega) r x; rw [show K + R.length + ((j + 1 : Nat) : Int) = K + R.length + j + 1 by omega]; exact this), Lib.hid (by have h9 := H.out; rw [Nat.add_assoc (t + (1 + N + N) + 3 + u0) u u1] at h9; exact h9)⟩
        case measure => simp [intOf] <;> omega
      · obtain rfl : j = M := by omega
        have he := HE.out
        rw [List.drop_of_length_le (by rw [HM.out]; omega), Ar.sones] at he
        have HE2 := Lib.hid he
        clear he HE
        go_wp2_with fail
        have h7 : Led B w0 wr (X.es vf1 (sj.tick (t + (1 + N + N) + 3 + u0 + u)) ++ C) := iT_drop (iT_drop H.out)
        obtain ⟨u9, hu9, h9⟩ := tick_up (t := t) (N := 4 + 34 * N + 14 * R.length) h7 (by omega) (by omega)
        exact hR.out _ _ ⟨_, u9, by rw [HR0.out]; exact hu9, by rw [← HE2.out] <;> rfl, by rw [← HE2.out]; exact h9⟩
set_option maxHeartbeats 4000000 in
theorem sk_pop (r : Int) (K : Int) (hrb : s.RB K) (hK : 0 ≤ K ∧ K ≤ 10000000) (hn : s.n ≤ 65536) (hok : s.Ok) (hlv : s.has r = true) (hll : (s.tlist r).length ≤ 1000) (hl : (idel (s.btop r) (s.tlist r) ++ s.krest (s.tkids (s.btop r))).length ≤ 19) (h : Led B w0 w (X.es vf (s.tick t) ++ C)) :
    Calls Tryz.prog 105 #[.pointer (some ⟨X.p, 0, none⟩), .int .i64 r] w fun e w' => ∃ vf2 u, u ≤ 4 + 34 * (s.tkids (s.btop r)).length + 7 * (s.tlist r).length + 14 * (idel (s.btop r) (s.tlist r) ++ s.krest (s.tkids (s.btop r))).length ∧ e = .returned (.tuple #[.int .i64 (s.spop r).2.1, .int .i64 (s.spop r).2.2]) ∧ Led B w0 w' (X.es vf2 ((s.spop r).1.tick (t + u)) ++ C) := by
  have H := Lib.hid h
  clear h
  have HOK := Lib.hid hok
  clear hok
  have HRB := Lib.hid hrb
  clear hrb
  have hlm : (s.tlist r).length ≤ 1000000 := by omega
  have hb : s.tbest (-1) (s.tlist r) = s.btop r := rfl
  have HB := Lib.hid hb
  clear hb
  refine callsR fun R hR => ?_
  go_enter Tryz.func105, Tryz.ntmps105
  go_wp2_with (first | (go_at_call 153; refine Calls.mono (t_live _ _ _ _ H.out) ?_; rintro e w' ⟨rfl, rfl⟩; (try rw [hlv])) | (go_at_call 145; refine Calls.mono (tr_list _ _ _ _ hn H.out) ?_; rintro e w' ⟨v9, rfl, h'⟩; replace H := Lib.hid h'; obtain ⟨A9, c9, hv9, _⟩ := iT_form (iT_tab h'); subst hv9; clear h') | (go_at_call 152; refine Calls.mono (tr_best _ _ _ _ _ hlm H.out) ?_; rintro e w' ⟨u, hu, rfl, h'⟩; rw [HB.out]; replace H := Lib.hid h'; clear h') | (go_at_call 157; refine Calls.mono (sk_wo _ _ _ (s.tlist r) _ (s.btop r) K HRB.out hK hn HOK.out hll hl H.out) ?_; rintro e w' ⟨vf1, u1, hu1, rfl, h'⟩; replace H := Lib.hid h'; clear h'))
  obtain ⟨u9, hu9, h9⟩ := tick_up (t := t) (N := 4 + 34 * (s.tkids (s.btop r)).length + 7 * (s.tlist r).length + 14 * (idel (s.btop r) (s.tlist r) ++ s.krest (s.tkids (s.btop r))).length) H.out (by omega) (by omega)
  exact hR.out _ _ ⟨_, u9, hu9, rfl, h9⟩
end
end Go.Proofs.YtognmhgdegpdiaaGreat
end
section
/- The heap of a kind. -/
namespace Go.Proofs.YtognmhgdegpdiaaGreat
open Go.RowKit
set_option linter.unusedVariables false
set_option linter.unusedSimpArgs false
set_option maxRecDepth 100000
def Ar.kpush (k : Int) (s : Ar) (r i : Int) : Ar × Int := if k = 1 then s.lpush r i else if k = 2 then s.bpush r i else if k = 3 then s.spush r i else if k = 4 then s.fpush r i else s.ppush r i
def Ar.kpushB (k : Int) (s : Ar) (r i : Int) : Nat := if k = 1 then 17 * ((s.newNode i).put s.take.1 4 1).plen r s.take.1 + 5 else if k = 2 then 17 + 15 * ((s.newNode i).tlist r).length else if k = 3 then 35 else if k = 4 then 16 else 14
def Ar.kpop (k : Int) (s : Ar) (r : Int) : Ar × Int × Int := if k = 1 then s.lpop r else if k = 2 then s.bpop r else if k = 3 then s.spop r else if k = 4 then s.fpop r else s.ppop r
def Ar.kpopB (k : Int) (s : Ar) (r : Int) : Nat := if k = 1 then 17 * s.plen (s.cell r 2) (s.cell r 3) + 7 else if k = 2 then 4 + s.n + 7 * (s.tlist r).length + 14 * (idel (s.btop r) (s.tlist r) ++ s.tkids (s.btop r)).length else if k = 3 then 4 + 34 * (s.tkids (s.btop r)).length + 7 * (s.tlist r).length + 14 * (idel (s.btop r) (s.tlist r) ++ s.krest (s.tkids (s.btop r))).length else if k = 4 then 12 + 2 * (s.fkids r).length + 19 * (s.frest r).length else 4 + 4 * (s.pkids r).length + 22 * (((s.pkids r).length + 1) / 2)
def Ar.kmin (k : Int) (s : Ar) (r : Int) : Int := if k = 1 then s.cell r 6 else if k = 2 then s.bmin r else if k = 3 then s.bmin r else if k = 4 then s.cell r 6 else s.cell r 6
def Ar.kmeld (k : Int) (s : Ar) (r q : Int) : Ar × Int := if k = 1 then s.lmeld r q else if k = 2 then s.bmeld r q else if k = 3 then s.bmeld r q else if k = 4 then s.fmeld r q else s.plink r q
structure Pre (s : Ar) : Prop where
  ok : s.Ok
  n1 : 1 ≤ s.n
  n2 : s.n ≤ 65536
  rb : s.RB 10000000
structure PushPre (k : Int) (s : Ar) (r i : Int) : Prop extends Pre s where
  tk : s.take.2.1 = true
  l2 : k = 2 → ((s.newNode i).tlist r).length ≤ 18
structure PopPre (k : Int) (s : Ar) (r : Int) : Prop extends Pre s where
  hs : s.has r = true
  l0 : (s.tlist r).length ≤ 1000
  l2 : k = 2 → (idel (s.btop r) (s.tlist r) ++ s.tkids (s.btop r)).length ≤ 19
  l3 : k = 3 → (idel (s.btop r) (s.tlist r) ++ s.krest (s.tkids (s.btop r))).length ≤ 19
structure MeldPre (k : Int) (s : Ar) (r q : Int) : Prop extends Pre s where
  l2 : (k = 2 ∨ k = 3) → (s.tlist r ++ s.tlist q).length ≤ 19
section
variable {B : Nat} {w0 w : World} {C : List Ent} {vf : Value} (X : ArM) (s : Ar) (t : Nat)
set_option maxHeartbeats 4000000 in
theorem kd_push (k : Int) (r i : Int) (hk : 1 ≤ k ∧ k ≤ 5) (hp : PushPre k s r i) (h : Led B w0 w (X.es vf (s.tick t) ++ C)) :
    Calls Tryz.prog 59 #[.int .i64 k, .pointer (some ⟨X.p, 0, none⟩), .int .i64 r, .int .i64 i] w fun e w' => ∃ vf2 u, u ≤ Ar.kpushB k s r i ∧ e = .returned (.tuple #[.int .i64 (Ar.kpush k s r i).2, .bool true]) ∧ Led B w0 w' (X.es vf2 ((Ar.kpush k s r i).1.tick (t + u)) ++ C) := by
  have H := Lib.hid h
  clear h
  obtain h1 | h1 | h1 | h1 | h1 : k = 1 ∨ k = 2 ∨ k = 3 ∨ k = 4 ∨ k = 5 := by omega
  · subst h1
    refine callsR fun R hR => ?_
    go_enter Tryz.func59, Tryz.ntmps59
    go_wp2_with (first | (go_at_call 90; refine Calls.mono (lf_push _ _ _ _ _ 10000000 hp.rb ⟨by decide, by decide⟩ hp.n2 hp.ok hp.tk H.out) ?_; rintro e w' ⟨vf1, u, hu, rfl, h'⟩; replace H := Lib.hid h'; clear h'))
    exact hR.out _ _ ⟨_, u, hu, rfl, H.out⟩
  · subst h1
    refine callsR fun R hR => ?_
    go_enter Tryz.func59, Tryz.ntmps59
    go_wp2_with (first | (go_at_call 91; refine Calls.mono (bi_push _ _ _ _ _ 10000000 hp.rb ⟨by decide, by decide⟩ hp.n2 hp.ok hp.tk (hp.l2 rfl) H.out) ?_; rintro e w' ⟨vf1, u, hu, rfl, h'⟩; replace H := Lib.hid h'; clear h'))
    exact hR.out _ _ ⟨_, u, hu, rfl, H.out⟩
  · subst h1
    refine callsR fun R hR => ?_
    go_enter Tryz.func59, Tryz.ntmps59
    go_wp2_with (first | (go_at_call 92; refine Calls.mono (sk_push _ _ _ _ _ 10000000 hp.rb ⟨by decide, by decide⟩ hp.n2 hp.ok hp.tk H.out) ?_; rintro e w' ⟨vf1, u, hu, rfl, h'⟩; replace H := Lib.hid h'; clear h'))
    exact hR.out _ _ ⟨_, u, hu, rfl, H.out⟩
  · subst h1
    refine callsR fun R hR => ?_
    go_enter Tryz.func59, Tryz.ntmps59
    go_wp2_with (first | (go_at_call 93; refine Calls.mono (fb_push _ _ _ _ _ hp.ok hp.tk H.out) ?_; rintro e w' ⟨vf1, u, hu, rfl, h'⟩; replace H := Lib.hid h'; clear h'))
    exact hR.out _ _ ⟨_, u, hu, rfl, H.out⟩
  · subst h1
    refine callsR fun R hR => ?_
    go_enter Tryz.func59, Tryz.ntmps59
    go_wp2_with (first | (go_at_call 94; refine Calls.mono (pr_push _ _ _ _ _ hp.ok hp.tk H.out) ?_; rintro e w' ⟨vf1, u, hu, rfl, h'⟩; replace H := Lib.hid h'; clear h'))
    exact hR.out _ _ ⟨_, u, hu, rfl, H.out⟩
set_option maxHeartbeats 4000000 in
theorem kd_pop (k : Int) (r : Int) (hk : 1 ≤ k ∧ k ≤ 5) (hp : PopPre k s r) (h : Led B w0 w (X.es vf (s.tick t) ++ C)) :
    Calls Tryz.prog 64 #[.int .i64 k, .pointer (some ⟨X.p, 0, none⟩), .int .i64 r] w fun e w' => ∃ vf2 u, u ≤ Ar.kpopB k s r ∧ e = .returned (.tuple #[.int .i64 (Ar.kpop k s r).2.1, .int .i64 (Ar.kpop k s r).2.2]) ∧ Led B w0 w' (X.es vf2 ((Ar.kpop k s r).1.tick (t + u)) ++ C) := by
  have H := Lib.hid h
  clear h
  obtain h1 | h1 | h1 | h1 | h1 : k = 1 ∨ k = 2 ∨ k = 3 ∨ k = 4 ∨ k = 5 := by omega
  · subst h1
    refine callsR fun R hR => ?_
    go_enter Tryz.func64, Tryz.ntmps64
    go_wp2_with (first | (go_at_call 103; refine Calls.mono (lf_pop _ _ _ _ 10000000 hp.rb ⟨by decide, by decide⟩ hp.n2 hp.ok hp.hs H.out) ?_; rintro e w' ⟨vf1, u, hu, rfl, h'⟩; replace H := Lib.hid h'; clear h'))
    exact hR.out _ _ ⟨_, u, hu, rfl, H.out⟩
  · subst h1
    refine callsR fun R hR => ?_
    go_enter Tryz.func64, Tryz.ntmps64
    go_wp2_with (first | (go_at_call 104; refine Calls.mono (bi_pop _ _ _ _ 10000000 hp.rb ⟨by decide, by decide⟩ hp.n2 hp.ok hp.hs hp.l0 (hp.l2 rfl) H.out) ?_; rintro e w' ⟨vf1, u, hu, rfl, h'⟩; replace H := Lib.hid h'; clear h'))
    exact hR.out _ _ ⟨_, u, hu, rfl, H.out⟩
  · subst h1
    refine callsR fun R hR => ?_
    go_enter Tryz.func64, Tryz.ntmps64
    go_wp2_with (first | (go_at_call 105; refine Calls.mono (sk_pop _ _ _ _ 10000000 hp.rb ⟨by decide, by decide⟩ hp.n2 hp.ok hp.hs hp.l0 (hp.l3 rfl) H.out) ?_; rintro e w' ⟨vf1, u, hu, rfl, h'⟩; replace H := Lib.hid h'; clear h'))
    exact hR.out _ _ ⟨_, u, hu, rfl, H.out⟩
  · subst h1
    refine callsR fun R hR => ?_
    go_enter Tryz.func64, Tryz.ntmps64
    go_wp2_with (first | (go_at_call 106; refine Calls.mono (fb_Pop _ _ _ _ 10000000 hp.rb ⟨by decide, by decide⟩ ⟨hp.n2, hp.n1⟩ hp.ok hp.hs H.out) ?_; rintro e w' ⟨vf1, u, hu, rfl, h'⟩; replace H := Lib.hid h'; clear h'))
    exact hR.out _ _ ⟨_, u, hu, rfl, H.out⟩
  · subst h1
    refine callsR fun R hR => ?_
    go_enter Tryz.func64, Tryz.ntmps64
    go_wp2_with (first | (go_at_call 107; refine Calls.mono (pr_Pop _ _ _ _ hp.n2 hp.ok hp.hs H.out) ?_; rintro e w' ⟨vf1, u, hu, rfl, h'⟩; replace H := Lib.hid h'; clear h'))
    exact hR.out _ _ ⟨_, u, hu, rfl, H.out⟩
set_option maxHeartbeats 4000000 in
theorem kd_min (k : Int) (r : Int) (hk : 1 ≤ k ∧ k ≤ 5) (hn : s.n ≤ 65536) (h : Led B w0 w (X.es vf (s.tick t) ++ C)) :
    Calls Tryz.prog 63 #[.int .i64 k, .pointer (some ⟨X.p, 0, none⟩), .int .i64 r] w fun e w' => ∃ u : Nat, e = .returned (.int .i64 (Ar.kmin k s r)) ∧ Led B w0 w' (X.es vf (s.tick (t + u)) ++ C) := by
  have H := Lib.hid h
  clear h
  obtain h1 | h1 | h1 | h1 | h1 : k = 1 ∨ k = 2 ∨ k = 3 ∨ k = 4 ∨ k = 5 := by omega
  · subst h1
    refine callsR fun R hR => ?_
    go_enter Tryz.func63, Tryz.ntmps63
    go_wp2_with (first | (go_at_call 98; refine Calls.mono (lf_min _ _ _ _ H.out) ?_; rintro e w' ⟨rfl, h'⟩; replace H := Lib.hid h'; clear h'))
    exact hR.out _ _ ⟨1, rfl, H.out⟩
  · subst h1
    refine callsR fun R hR => ?_
    go_enter Tryz.func63, Tryz.ntmps63
    go_wp2_with (first | (go_at_call 99; refine Calls.mono (bi_min _ _ _ _ hn H.out) ?_; rintro e w' ⟨u, hu, rfl, h'⟩; replace H := Lib.hid h'; clear h'))
    exact hR.out _ _ ⟨u, rfl, H.out⟩
  · subst h1
    refine callsR fun R hR => ?_
    go_enter Tryz.func63, Tryz.ntmps63
    go_wp2_with (first | (go_at_call 100; refine Calls.mono (sk_min _ _ _ _ hn H.out) ?_; rintro e w' ⟨u, hu, rfl, h'⟩; replace H := Lib.hid h'; clear h'))
    exact hR.out _ _ ⟨u, rfl, H.out⟩
  · subst h1
    refine callsR fun R hR => ?_
    go_enter Tryz.func63, Tryz.ntmps63
    go_wp2_with (first | (go_at_call 101; refine Calls.mono (fb_min _ _ _ _ H.out) ?_; rintro e w' ⟨rfl, h'⟩; replace H := Lib.hid h'; clear h'))
    exact hR.out _ _ ⟨1, rfl, H.out⟩
  · subst h1
    refine callsR fun R hR => ?_
    go_enter Tryz.func63, Tryz.ntmps63
    go_wp2_with (first | (go_at_call 102; refine Calls.mono (pr_min _ _ _ _ H.out) ?_; rintro e w' ⟨rfl, h'⟩; replace H := Lib.hid h'; clear h'))
    exact hR.out _ _ ⟨1, rfl, H.out⟩
end
end Go.Proofs.YtognmhgdegpdiaaGreat
end
