/- The statements on tables of jobs against a plain list: the walk of agree. -/
import Derived.Test.YtjabofofofddbaaJobsPlayA
namespace Go.Proofs.Ytjabofofofddbaa
open Go.RowKit
set_option linter.unusedVariables false
set_option linter.unusedSimpArgs false
set_option maxRecDepth 100000

/-- The table of jobs, the plain pool, and what else there is. -/
def playEs (t p b n m : Nat) (lv fv gv iv vv bv : Value) (s : PSt V5) (r : PSt Int) (f : Int × Int → Option (Int × Int)) (es : List Ent) : List Ent := jobEs t p b n lv fv s f ++ (refEs m gv iv vv bv r ++ es)
section
variable {B t p b n m : Nat} {lv fv gv iv vv bv : Value} {s : PSt V5} {r : PSt Int} {f : Int × Int → Option (Int × Int)} {w0 w : World} {es : List Ent}
theorem play_swap (h : Led B w0 w (playEs t p b n m lv fv gv iv vv bv s r f es)) : Led B w0 w (refEs m gv iv vv bv r ++ (jobEs t p b n lv fv s f ++ es)) := Led.swapA (A := jobEs t p b n lv fv s f) h
theorem play_back (h : Led B w0 w (refEs m gv iv vv bv r ++ (jobEs t p b n lv fv s f ++ es))) : Led B w0 w (playEs t p b n m lv fv gv iv vv bv s r f es) := Led.swapA (A := refEs m gv iv vv bv r) h
end
/-- Three counts side by side. -/
def cells3 (s : PSt V5) (T : List (Int × Int)) : Array Value := #[.int .i64 (cntQ s 0 T), .int .i64 (cntQ s 1 T), .int .i64 (cntQ s 2 T)]
theorem cells3_at (s : PSt V5) (T : List (Int × Int)) {q : Nat} (hq : q < 3) : (cells3 s T)[q]? = some (.int .i64 (cntQ s (q : Int) T)) := by
  match q, hq with
  | 0, _ => rfl
  | 1, _ => rfl
  | 2, _ => rfl
theorem cells3_set (s : PSt V5) (T : List (Int × Int)) {j q : Nat} {rf : Int × Int} (hq : q < 3) (hr : T[j]? = some rf) (hi : ∀ b : Int, isQ s b rf = ((q : Int) == b)) :
    (cells3 s (T.take j)).setIfInBounds q (.int .i64 (cntQ s (q : Int) (T.take j) + 1)) = cells3 s (T.take (j + 1)) := by
  have h0 := cntQ_succ (s := s) (q := 0) hr
  have h1 := cntQ_succ (s := s) (q := 1) hr
  have h2 := cntQ_succ (s := s) (q := 2) hr
  rw [hi] at h0 h1 h2
  match q, hq with
  | 0, _ => simp [cells3, h0, h1, h2]
  | 1, _ => simp [cells3, h0, h1, h2]
  | 2, _ => simp [cells3, h0, h1, h2]

set_option maxHeartbeats 8000000 in
theorem jobs_agree (B t p b n m k : Nat) (lv fv gv iv vv bv av : Value) (s : PSt V5) (r : PSt Int) (f : Int × Int → Option (Int × Int)) (all : List V5) (w0 w : World) (es : List Ent) (a g : Int) (hJ : JInv k all s r f) (hk : k ≤ 1000) (hin : in64 a ∧ in64 g)
    (h : Led B w0 w (playEs t p b n m lv fv gv iv vv bv s r f (tabE 80 5 av (rowsV all) :: es))) :
    Calls Try.prog 85 #[.pointer (some ⟨t, 0, none⟩), .pointer (some ⟨m, 0, none⟩), av, .agg #[.int .i64 a, .int .i64 g]] w fun e w' => e = .returned (.bool true) ∧ Led B w0 w' (playEs t p b n m lv fv gv iv vv bv s r f (tabE 80 5 av (rowsV all) :: es)) := by
  have hwf := (jobPool h).wf
  have hml : r.l.length ≤ 65536 := by rw [← hJ.sim.len]; exact Nat.le_trans hwf.le hwf.most
  have hlen := hwf.all_len
  have hT0 := hJ.sim.all
  have hTT : TabIs w 0 80 5 av (rowsV all) := h.at_ 8 rfl
  obtain ⟨Aa, ca, rfl, hca, hAa⟩ := hTT.form
  rw [rowsV_len] at hca hAa
  have hal : all.length ≤ 1000 := by have := hJ.len; omega
  have HJ := Lib.hid hJ
  have HIN := Lib.hid hin
  have S1 : Hid (Led B w0 (w.alloc (.cells #[.int .i64 a, .int .i64 g] 57)) (playEs t p b n m lv fv gv iv vv bv s r f (tabE 80 5 (.slice Aa (rowsV all).length ca) (rowsV all) :: blkE w.heap.size 57 #[.int .i64 a, .int .i64 g] :: es))) := Lib.hid (led_new (A := playEs t p b n m lv fv gv iv vv bv s r f [tabE 80 5 (.slice Aa (rowsV all).length ca) (rowsV all)]) (C := es) (T := 57) (cs := #[.int .i64 a, .int .i64 g]) h)
  rw [rowsV_len] at S1 ⊢
  generalize hT : allTo s.l s.l.length = T at *
  obtain ⟨nt, hnt⟩ : ∃ n, T.length = n := ⟨_, rfl⟩
  rw [hnt] at hlen
  have hntb : nt ≤ 65536 := by have := hwf.le; have := hwf.most; omega
  have HT := Lib.hid hT
  have HT0 := Lib.hid hT0
  have HNT := Lib.hid hnt
  have HLEN := Lib.hid hlen
  clear h hJ hTT hT hnt hlen hin hwf hT0
  refine callsR fun R hR => ?_
  go_enter Try.func85, Try.ntmps85
  go_wp2_with fail
  refine Calls.mono (ref_all B m gv iv vv bv r w0 _ _ (play_swap S1.out) hml) ?_
  rintro e w1 ⟨v, rfl, q1⟩
  rw [HT0.out] at q1
  have hTT : TabIs w1 0 57 2 v (rowsR T) := q1.at_ 0 rfl
  obtain ⟨At, ct, rfl, hct, hAt⟩ := hTT.form
  have hrl : (rowsR T).length = nt := by rw [rowsR, List.length_map, HNT.out]
  rw [hrl] at hct hAt q1 ⊢
  have q2 : Led B w0 w1 (refEs m gv iv vv bv r ++ (jobEs t p b n lv fv s f ++ tabE 80 5 (.slice Aa all.length ca) (rowsV all) :: blkE w.heap.size 57 #[.int .i64 a, .int .i64 g] :: tabE 57 2 (.slice At nt ct) (rowsR T) :: es)) :=
    q1.perm (List.perm_middle (l₁ := refEs m gv iv vv bv r ++ (jobEs t p b n lv fv s f ++ [tabE 80 5 (.slice Aa all.length ca) (rowsV all), blkE w.heap.size 57 #[.int .i64 a, .int .i64 g]])) (l₂ := es)).symm
  have S2 : Hid (Led B w0 w1 (playEs t p b n m lv fv gv iv vv bv s r f (tabE 80 5 (.slice Aa all.length ca) (rowsV all) :: blkE w.heap.size 57 #[.int .i64 a, .int .i64 g] :: tabE 57 2 (.slice At nt ct) (rowsR T) :: es))) := Lib.hid (play_back q2)
  have S3 : Hid (Led B w0 ((w1.alloc (.cells #[.int .i64 0, .int .i64 0, .int .i64 0] 156)).alloc (.cells #[.int .i64 0, .int .i64 0] 57)) (playEs t p b n m lv fv gv iv vv bv s r f (tabE 80 5 (.slice Aa all.length ca) (rowsV all) :: blkE w.heap.size 57 #[.int .i64 a, .int .i64 g] :: tabE 57 2 (.slice At nt ct) (rowsR T) :: blkE w1.heap.size 156 (cells3 s (T.take 0)) :: blkE (w1.heap.size + 1) 57 #[.int .i64 (hadTo s (a, g) (T.take 0)).1, .int .i64 (hadTo s (a, g) (T.take 0)).2] :: es))) := by
    have h3 := led_new (A := playEs t p b n m lv fv gv iv vv bv s r f [tabE 80 5 (.slice Aa all.length ca) (rowsV all), blkE w.heap.size 57 #[.int .i64 a, .int .i64 g], tabE 57 2 (.slice At nt ct) (rowsR T)]) (C := es) (T := 156) (cs := #[.int .i64 0, .int .i64 0, .int .i64 0]) S2.out
    have h4 := led_new (A := playEs t p b n m lv fv gv iv vv bv s r f [tabE 80 5 (.slice Aa all.length ca) (rowsV all), blkE w.heap.size 57 #[.int .i64 a, .int .i64 g], tabE 57 2 (.slice At nt ct) (rowsR T), blkE w1.heap.size 156 #[.int .i64 0, .int .i64 0, .int .i64 0]]) (C := es) (T := 57) (cs := #[.int .i64 0, .int .i64 0]) h3
    rw [World.size_alloc] at h4
    exact Lib.hid h4
  obtain ⟨nb, hnb⟩ : ∃ nb, w1.heap.size = nb := ⟨_, rfl⟩
  rw [hnb] at S3
  clear q1 q2 hTT S1 S2
  go_wp2_with fail
  go_loopw [12] (fun i wx => ∃ j : Nat, j ≤ nt ∧ i = .int .i64 j ∧ Hid (Led B w0 wx (playEs t p b n m lv fv gv iv vv bv s r f (tabE 80 5 (.slice Aa all.length ca) (rowsV all) :: blkE w.heap.size 57 #[.int .i64 a, .int .i64 g] :: tabE 57 2 (.slice At nt ct) (rowsR T) :: blkE nb 156 (cells3 s (T.take j)) :: blkE (nb + 1) 57 #[.int .i64 (hadTo s (a, g) (T.take j)).1, .int .i64 (hadTo s (a, g) (T.take j)).2] :: es)))) (fun i _ => nt - (intOf i).toNat)
  case atStart => exact ⟨0, by omega, rfl, S3⟩
  case round =>
    clear S3
    obtain ⟨j, hj, rfl, S⟩ := hrel
    by_cases hlt : j < nt
    · obtain ⟨rf, hr⟩ : ∃ rf, T[j]? = some rf := ⟨_, List.getElem?_eq_getElem (by rw [HNT.out]; exact hlt)⟩
      obtain ⟨i, y, hi, rfl, hy, hyt⟩ := allTo_get (by rw [← HT0.out] at hr; exact hr)
      obtain ⟨x, hx⟩ : ∃ x, s.l[i]? = some x := ⟨_, List.getElem?_eq_getElem (by rw [HJ.out.sim.len]; exact (List.getElem?_eq_some_iff.1 hy).1)⟩
      obtain ⟨eg, et, ev⟩ := HJ.out.sim.at_ i x y hx hy
      have hxt : x.taken = true := et.trans hyt
      obtain ⟨hu0, hu⟩ := ev hxt
      have hg1 := (HJ.out.gens i x hx).1
      obtain ⟨u, hu'⟩ : ∃ u : Nat, y.v = (u : Int) := ⟨y.v.toNat, by omega⟩
      rw [hu', Int.toNat_natCast] at hu
      have hul := (List.getElem?_eq_some_iff.1 hu).1
      obtain ⟨⟨ha0, ha2⟩, _⟩ := HJ.out.qs x.v (HJ.out.vals hx hxt)
      obtain ⟨q, hq⟩ : ∃ q : Nat, x.v.a = (q : Int) := ⟨x.v.a.toNat, by omega⟩
      have hq3 : q < 3 := by omega
      obtain ⟨gt, rfl, _, _⟩ := hAt (by omega)
      obtain ⟨ga, rfl, _, _⟩ := hAa (by omega)
      have hTT : TabIs wr 0 57 2 (.slice (some ⟨gt, 0, none⟩) nt ct) (rowsR T) := S.out.at_ 10 rfl
      have t0 : wr.cell? ⟨gt, j * 2, none⟩ = some (.int .i64 (i : Int)) := hTT.cell (j := 0) (r := [.int .i64 (i : Int), .int .i64 y.gen]) (by rw [rowsR, List.getElem?_map, hr]; rfl) rfl
      have t1 : wr.cell? ⟨gt, j * 2 + 1, none⟩ = some (.int .i64 y.gen) := hTT.cell (j := 1) (r := [.int .i64 (i : Int), .int .i64 y.gen]) (by rw [rowsR, List.getElem?_map, hr]; rfl) rfl
      have hcs := cells3_set s T hq3 hr (fun b => by simp [isQ, hx, hq])
      have hhs := hadTo_succ (s := s) (item := (a, g)) hr
      simp only [hadStep, Int.toNat_natCast, hx] at hhs
      have hcl := cntQ_le s (q : Int) (T.take j)
      have hcl2 : (T.take j).length ≤ j := by rw [List.length_take]; omega
      have HG := Lib.hid (ref_get_ok B m gv iv vv bv r i y w0 wr _ (play_swap S.out) hml hy hyt (by rw [← eg]; exact hg1))
      rw [hu'] at HG
      have HU := Lib.hid hu
      have HROW := Lib.hid (show (rowsR T)[j]? = some [.int .i64 (i : Int), .int .i64 y.gen] from by rw [rowsR, List.getElem?_map, hr]; rfl)
      have HCS := Lib.hid hcs
      have HHS := Lib.hid hhs
      clear hr hx hy hyt hi eg et ev hxt hu0 hu hcs hhs hTT hu' hg1
      go_wp2_with fail
      refine Calls.mono HG.out ?_
      rintro e w2 ⟨rfl, q1⟩
      have S2 := Lib.hid (S.out.later q1)
      have hTa : TabIs w2 0 80 5 (.slice (some ⟨ga, 0, none⟩) all.length ca) (rowsV all) := S2.out.at_ 8 rfl
      have hrow : (rowsV all)[u]? = some [.int .i64 x.v.a, .int .i64 x.v.b, .int .i64 x.v.c, .int .i64 x.v.d, .int .i64 x.v.e] := by rw [rowsV, List.getElem?_map, HU.out]; rfl
      have a0 : w2.cell? ⟨ga, u * 5, none⟩ = some (.int .i64 (q : Int)) := by rw [← hq]; exact hTa.cell (j := 0) hrow rfl
      have a3 : w2.cell? ⟨ga, u * 5 + 3, none⟩ = some (.int .i64 x.v.d) := hTa.cell (j := 3) hrow rfl
      have a4 : w2.cell? ⟨ga, u * 5 + 4, none⟩ = some (.int .i64 x.v.e) := hTa.cell (j := 4) hrow rfl
      have la := (hTa.lt ga (by simp [Value.ownBlock])).2
      have rn : Blk w2 nb 156 (cells3 s (T.take j)) := S2.out.at_ 11 rfl
      have n0 := rn.cell q
      rw [cells3_at s _ hq3] at n0
      have fn0 := rn.frozen q
      have rI : Blk w2 w.heap.size 57 #[.int .i64 a, .int .i64 g] := S2.out.at_ 9 rfl
      have i0 := rI.cell 0; have fi0 := rI.frozen 0; have i1 := rI.cell 1; have fi1 := rI.frozen 1; simp only [List.getElem?_toArray, List.getElem?_cons_zero, List.getElem?_cons_succ] at i0 i1
      have S3 := led_cell (A := playEs t p b n m lv fv gv iv vv bv s r f [tabE 80 5 (.slice (some ⟨ga, 0, none⟩) all.length ca) (rowsV all), blkE w.heap.size 57 #[.int .i64 a, .int .i64 g], tabE 57 2 (.slice (some ⟨gt, 0, none⟩) nt ct) (rowsR T)]) q (.int .i64 (cntQ s (q : Int) (T.take j) + 1)) S2.out
      rw [HCS.out] at S3
      have H3 := Lib.hid S3
      clear S3 q1 S S2 rI hrow
      go_upto_region 9 with fail
      clear t0 t1 a0 a3 a4 la n0 fn0 i0 fi0 i1 fi1
      generalize w2.setCell ⟨nb, q, none⟩ (.int .i64 (cntQ s (q : Int) (T.take j) + 1)) = w3 at H3 ⊢
      have hTa : TabIs w3 0 80 5 (.slice (some ⟨ga, 0, none⟩) all.length ca) (rowsV all) := H3.out.at_ 8 rfl
      have hrow : (rowsV all)[u]? = some [.int .i64 x.v.a, .int .i64 x.v.b, .int .i64 x.v.c, .int .i64 x.v.d, .int .i64 x.v.e] := by rw [rowsV, List.getElem?_map, HU.out]; rfl
      have a3 : w3.cell? ⟨ga, u * 5 + 3, none⟩ = some (.int .i64 x.v.d) := hTa.cell (j := 3) hrow rfl
      have a4 : w3.cell? ⟨ga, u * 5 + 4, none⟩ = some (.int .i64 x.v.e) := hTa.cell (j := 4) hrow rfl
      have rI : Blk w3 w.heap.size 57 #[.int .i64 a, .int .i64 g] := H3.out.at_ 9 rfl
      have i0 := rI.cell 0; have fi0 := rI.frozen 0; have i1 := rI.cell 1; have fi1 := rI.frozen 1; simp only [List.getElem?_toArray, List.getElem?_cons_zero, List.getElem?_cons_succ] at i0 i1
      have rB : Blk w3 (nb + 1) 57 #[.int .i64 (hadTo s (a, g) (T.take j)).1, .int .i64 (hadTo s (a, g) (T.take j)).2] := H3.out.at_ 12 rfl
      have h0 := rB.cell 0; have fh0 := rB.frozen 0; have h1 := rB.cell 1; have fh1 := rB.frozen 1; simp only [List.getElem?_toArray, List.getElem?_cons_zero, List.getElem?_cons_succ] at h0 h1
      have hTr : TabIs w3 0 57 2 (.slice (some ⟨gt, 0, none⟩) nt ct) (rowsR T) := H3.out.at_ 10 rfl
      have t0 : w3.cell? ⟨gt, j * 2, none⟩ = some (.int .i64 (i : Int)) := hTr.cell (j := 0) (r := [.int .i64 (i : Int), .int .i64 y.gen]) HROW.out rfl
      have t1 : w3.cell? ⟨gt, j * 2 + 1, none⟩ = some (.int .i64 y.gen) := hTr.cell (j := 1) (r := [.int .i64 (i : Int), .int .i64 y.gen]) HROW.out rfl
      have rq := ref_eql
      obtain ⟨qq, hqq⟩ : ∃ qq, refEq x.v.d x.v.e a g = qq := ⟨_, rfl⟩
      clear hTa hrow rI rB hTr
      cases qq with
      | true =>
        have he : (x.v.d, x.v.e) = (a, g) := by obtain ⟨h1, h2⟩ := refEq_true.1 hqq; rw [h1, h2]
        have HH2 : Hid (hadTo s (a, g) (T.take (j + 1)) = ((i : Int), y.gen)) := Lib.hid (by rw [HHS.out, if_pos he])
        clear he HHS
        go_quiet (fail)
        go_wp2_with fail
        go_roundw
        case rel => exact ⟨j + 1, by omega, by go_num, by rw [HH2.out]; exact Lib.hid (led_store2 (A := playEs t p b n m lv fv gv iv vv bv s r f [tabE 80 5 (.slice (some ⟨ga, 0, none⟩) all.length ca) (rowsV all), blkE w.heap.size 57 #[.int .i64 a, .int .i64 g], tabE 57 2 (.slice (some ⟨gt, 0, none⟩) nt ct) (rowsR T), blkE nb 156 (cells3 s (T.take (j + 1)))]) (y0 := .int .i64 i) (y1 := .int .i64 y.gen) (H3.out.drewN nq))⟩
        case measure => simp [intOf]; omega
      | false =>
        have he : ¬ (x.v.d, x.v.e) = (a, g) := by intro h; injection h with h1 h2; rw [refEq_true.2 ⟨h1, h2⟩] at hqq; cases hqq
        have HH2 : Hid (hadTo s (a, g) (T.take (j + 1)) = hadTo s (a, g) (T.take j)) := Lib.hid (by rw [HHS.out, if_neg he])
        clear he HHS
        go_quiet (fail)
        go_wp2_with fail
        go_roundw
        case rel => exact ⟨j + 1, by omega, by go_num, by rw [HH2.out]; exact Lib.hid (H3.out.drewN nq)⟩
        case measure => simp [intOf]; omega
    · obtain rfl : nt = j := by omega
      rw [List.take_of_length_le (by rw [HNT.out]; omega)] at S
      have hhad := HJ.out.had (a, g)
      have hgp := HJ.out.genpos (a, g)
      rw [HT.out] at hhad
      rw [hhad] at S
      have hl2 : (s.l.length : Int) - s.free.length = nt := by have := HLEN.out; omega
      have HC := Lib.hid (fun W es' (hW : Led B w0 W (jobEs t p b n lv fv s f ++ es')) q => jobs_count B t p b n lv fv s f w0 W es' q HJ.out.gensOk hW)
      rw [HT.out] at HC
      have HB := Lib.hid (jobs_by B t p b n lv fv s f w0 wr _ a g HIN.out S.out)
      generalize (f (a, g)).getD (0, 0) = y at *
      generalize (f (a, g)).isSome = q at *
      have HGP := Lib.hid hgp
      have HL2 := Lib.hid hl2
      have rI : Blk wr w.heap.size 57 #[.int .i64 a, .int .i64 g] := S.out.at_ 9 rfl
      have i0 := rI.cell 0; have fi0 := rI.frozen 0; have i1 := rI.cell 1; have fi1 := rI.frozen 1; simp only [List.getElem?_toArray, List.getElem?_cons_zero, List.getElem?_cons_succ] at i0 i1
      clear hl2 hgp hhad rI
      go_wp2_with fail
      refine Calls.mono HB.out ?_
      rintro e w2 ⟨rfl, q1⟩
      have S2 := Lib.hid (S.out.later q1)
      have rq := ref_eql
      have hre : refEq y.1 y.2 y.1 y.2 = true := refEq_true.2 ⟨rfl, rfl⟩
      have hgp := HGP.out
      have hnn : ((nt : Int) == (nt : Int)) = true := by simp
      have e0 : ((cntQ s 0 T : Int) == (cntQ s 0 T : Int)) = true := by simp
      have e1 : ((cntQ s 1 T : Int) == (cntQ s 1 T : Int)) = true := by simp
      have e2 : ((cntQ s 2 T : Int) == (cntQ s 2 T : Int)) = true := by simp
      have hqq : (q == q) = true := by simp
      obtain ⟨rb, hrb⟩ : ∃ rb, w2.heap.size = rb := ⟨_, rfl⟩
      have S3 : Hid (Led B w0 (w2.alloc (.cells #[.int .i64 y.1, .int .i64 y.2] 57)) (playEs t p b n m lv fv gv iv vv bv s r f (tabE 80 5 (.slice Aa all.length ca) (rowsV all) :: blkE w.heap.size 57 #[.int .i64 a, .int .i64 g] :: tabE 57 2 (.slice At nt ct) (rowsR T) :: blkE nb 156 (cells3 s T) :: blkE (nb + 1) 57 #[.int .i64 y.1, .int .i64 y.2] :: blkE rb 57 #[.int .i64 y.1, .int .i64 y.2] :: es))) := Lib.hid (by rw [← hrb]; exact led_new (A := playEs t p b n m lv fv gv iv vv bv s r f [tabE 80 5 (.slice Aa all.length ca) (rowsV all), blkE w.heap.size 57 #[.int .i64 a, .int .i64 g], tabE 57 2 (.slice At nt ct) (rowsR T), blkE nb 156 (cells3 s T), blkE (nb + 1) 57 #[.int .i64 y.1, .int .i64 y.2]]) S2.out)
      have HSM : Hid (∀ W, Led B w0 W (playEs t p b n m lv fv gv iv vv bv s r f (tabE 80 5 (.slice Aa all.length ca) (rowsV all) :: blkE w.heap.size 57 #[.int .i64 a, .int .i64 g] :: tabE 57 2 (.slice At nt ct) (rowsR T) :: blkE nb 156 (cells3 s T) :: blkE (nb + 1) 57 #[.int .i64 y.1, .int .i64 y.2] :: blkE rb 57 #[.int .i64 y.1, .int .i64 y.2] :: es)) → ∀ wx, Chg [] W wx → wx.cell? ⟨rb, 0, none⟩ = some (.int .i64 y.1) ∧ wx.cell? ⟨rb, 1, none⟩ = some (.int .i64 y.2) ∧ wx.cell? ⟨nb + 1, 0, none⟩ = some (.int .i64 y.1) ∧ wx.cell? ⟨nb + 1, 1, none⟩ = some (.int .i64 y.2) ∧ wx.cell? ⟨nb, 0, none⟩ = some (.int .i64 (cntQ s 0 T)) ∧ wx.cell? ⟨nb, 1, none⟩ = some (.int .i64 (cntQ s 1 T)) ∧ wx.cell? ⟨nb, 2, none⟩ = some (.int .i64 (cntQ s 2 T))) :=
        Lib.hid fun W hW wx hx => have hl := hW.later (hx.below (by simp) (Nat.le_refl _)); have r1 := (show Blk wx rb 57 #[.int .i64 y.1, .int .i64 y.2] from hl.at_ 13 rfl); have r2 := (show Blk wx (nb + 1) 57 #[.int .i64 y.1, .int .i64 y.2] from hl.at_ 12 rfl); have r3 := (show Blk wx nb 156 (cells3 s T) from hl.at_ 11 rfl); ⟨r1.cell 0, r1.cell 1, r2.cell 0, r2.cell 1, r3.cell 0, r3.cell 1, r3.cell 2⟩
      clear q1 S S2
      go_upto_region 12 with fail
      generalize w2.alloc (.cells #[.int .i64 y.1, .int .i64 y.2] 57) = w3 at S3 ⊢
      have HS := Lib.hid (HSM.out _ S3.out)
      go_region_held3 (fun wx => wx.cell? ⟨rb, 0, none⟩ = some (.int .i64 y.1) ∧ wx.cell? ⟨rb, 1, none⟩ = some (.int .i64 y.2) ∧ wx.cell? ⟨nb + 1, 0, none⟩ = some (.int .i64 y.1) ∧ wx.cell? ⟨nb + 1, 1, none⟩ = some (.int .i64 y.2) ∧ wx.cell? ⟨nb, 0, none⟩ = some (.int .i64 (cntQ s 0 T)) ∧ wx.cell? ⟨nb, 1, none⟩ = some (.int .i64 (cntQ s 1 T)) ∧ wx.cell? ⟨nb, 2, none⟩ = some (.int .i64 (cntQ s 2 T))) ((refine HS.out _ ?_; (repeat' first | with_reducible exact Chg.refl _ _ | with_reducible refine Chg.drew ?_ | with_reducible refine Chg.drewN ?_ _ | with_reducible refine Chg.alloc ?_ _ | with_reducible refine Chg.setCell ?_ ?_ _ | (left; simp; done) | (right; exact Nat.le_refl _) | (right; dsimp only; omega)); done)) (first | (go_at_call 47; refine Calls.mono (jobs_len B t p b n lv fv s f w0 _ _ (S3.out.later (by (repeat' first | with_reducible exact bel_refl _ | with_reducible refine bel_drew ?_ | with_reducible refine bel_drewN ?_ _ | with_reducible refine bel_alloc ?_ _ | with_reducible refine bel_set ?_ ?_ _ | exact Nat.le_refl _ | (dsimp only; omega) | omega | (simp; omega))))) ?_; rw [HL2.out]; rintro e w3 ⟨rfl, k3, rfl⟩) | (go_at_call 46; refine Calls.mono (HC.out _ _ (S3.out.later (by (repeat' first | with_reducible exact bel_refl _ | with_reducible refine bel_drew ?_ | with_reducible refine bel_drewN ?_ _ | with_reducible refine bel_alloc ?_ _ | with_reducible refine bel_set ?_ ?_ _ | exact Nat.le_refl _ | (dsimp only; omega) | omega | (simp; omega)))) _) ?_; rintro e w4 ⟨rfl, q1⟩; have S3 := Lib.hid q1; have HS := Lib.hid (HSM.out _ q1); clear q1))
      go_wp2_with fail
      exact hR.out _ _ ⟨rfl, led_drop (A := playEs t p b n m lv fv gv iv vv bv s r f [tabE 80 5 (.slice Aa all.length ca) (rowsV all)]) (led_drop (A := playEs t p b n m lv fv gv iv vv bv s r f [tabE 80 5 (.slice Aa all.length ca) (rowsV all)]) (led_drop (A := playEs t p b n m lv fv gv iv vv bv s r f [tabE 80 5 (.slice Aa all.length ca) (rowsV all)]) (led_drop (A := playEs t p b n m lv fv gv iv vv bv s r f [tabE 80 5 (.slice Aa all.length ca) (rowsV all)]) (led_drop (A := playEs t p b n m lv fv gv iv vv bv s r f [tabE 80 5 (.slice Aa all.length ca) (rowsV all)]) (S3.out.later (by (repeat' first | with_reducible exact bel_refl _ | with_reducible refine bel_drew ?_ | with_reducible refine bel_drewN ?_ _ | with_reducible refine bel_alloc ?_ _ | with_reducible refine bel_set ?_ ?_ _ | exact Nat.le_refl _ | (dsimp only; omega) | omega | (simp; omega))))))))⟩
end Go.Proofs.Ytjabofofofddbaa
