/- The statements on tables of jobs against a plain list: the walk of play. -/
import Derived.Test.YtjabofofofddbaaJobsPlayC
namespace Go.Proofs.Ytjabofofofddbaa
open Go.RowKit
set_option linter.unusedVariables false
set_option linter.unusedSimpArgs false
set_option maxRecDepth 100000

set_option maxHeartbeats 16000000 in
theorem jobs_play (size : Int) (A1 : Option Addr) (n1 c1 : Nat) (G1 : Nat → Int) (w : World) (hp1 : -9223372036854775808 ≤ size) (hp2 : size ≤ 9223372036854775807) (hn1 : n1 ≤ 9223372036854775807)
    (hA1 : SlArg w w.heap.size A1 n1 10 fun j => .int .i64 (G1 j)) (hG : ∀ j, j < n1 * 10 → -9223372036854775808 ≤ G1 j ∧ G1 j ≤ 9223372036854775807) :
    Calls Try.prog 50 #[.int .i64 size, .slice A1 n1 c1] w fun e w' => e = .returned (.bool true) ∧ Below w.heap.size w w' := by
  obtain ⟨N, hN⟩ : ∃ N : Nat, (N : Int) = max 1 (min size 4096) := ⟨(max 1 (min size 4096)).toNat, by omega⟩
  have hN2 : max (min size 4096) 1 = (N : Int) := by omega
  have hN3 : N ≤ 4096 := by omega
  have HN := Lib.hid hN; clear hN
  have HA1 := Lib.hid hA1; clear hA1
  have HG := Lib.hid hG; clear hG
  refine callsR fun R hR => ?_
  go_enter Try.func50, Try.ntmps50
  go_wp2_with fail
  refine Calls.mono (jobs_new size N w.heap.size w w [] (Led.none_ (Below.refl _ _) (Nat.le_refl _)) HN.out) ?_
  rintro e w1 ⟨t, p, b, rfl, q1⟩
  have S1 := Lib.hid q1
  clear q1
  go_wp2_with fail
  refine Calls.mono (ref_new N N w.heap.size w _ _ S1.out (by omega)) ?_
  rintro e w2 ⟨m, rfl, q1⟩
  have S2 := Lib.hid (play_back (es := []) q1)
  clear q1 S1
  go_wp2_with fail
  have S3 : Hid (Led w.heap.size w (w2.alloc (.cells #[.int .i64 0, .int .i64 0] 57)) (playEs t p b 0 m (.slice none 0 0) (.slice none 0 0) (.slice none 0 0) (.slice none 0 0) (.slice none 0 0) (.slice none 0 0) ⟨N, [], []⟩ ⟨N, [], []⟩ (fun _ => none) [tabE 80 5 (.slice none 0 0) (rowsV []), tabE 57 2 (.slice (some ⟨w2.heap.size, 0, none⟩) 1 1) (rowsR [(0, 0)])])) := by
    have h1 := Led.insert (es := playEs t p b 0 m (.slice none 0 0) (.slice none 0 0) (.slice none 0 0) (.slice none 0 0) (.slice none 0 0) (.slice none 0 0) ⟨N, [], []⟩ ⟨N, [], []⟩ (fun _ => none) []) (fs := []) S2.out (tabE 80 5 (.slice none 0 0) (rowsV [])) (Below.refl _ _) (TabIs.nil _ _ _ _) (by simp [tabE, Value.ownBlock])
    exact Lib.hid (Led.insert (es := playEs t p b 0 m (.slice none 0 0) (.slice none 0 0) (.slice none 0 0) (.slice none 0 0) (.slice none 0 0) (.slice none 0 0) ⟨N, [], []⟩ ⟨N, [], []⟩ (fun _ => none) [tabE 80 5 (.slice none 0 0) (rowsV [])]) (fs := []) h1 _ (bel_alloc (bel_refl w2) _) (tab_one2 (Blk.new w2 _ _) rfl (by decide)) (by simp [tabE, Value.ownBlock]))
  clear S2
  go_loopw [7, 8, 9] (fun a c i wx => ∃ (k n : Nat) (lv fv gv iv vv bv : Value) (s : PSt V5) (r : PSt Int) (f : Int × Int → Option (Int × Int)) (all : List V5) (TL : List (Int × Int)), k ≤ 70 ∧ n ≤ k ∧ i = .int .i64 k ∧ 1 ≤ TL.length ∧ TL.length ≤ k + 1 ∧ s.most = N ∧ Hid (JInv k all s r f) ∧ Hid (Led w.heap.size w wx (playEs t p b n m lv fv gv iv vv bv s r f [tabE 80 5 a (rowsV all), tabE 57 2 c (rowsR TL)]))) (fun _ _ i _ => 70 - (intOf i).toNat)
  case atStart => exact ⟨0, 0, _, _, _, _, _, _, _, _, _, [], [(0, 0)], by omega, by omega, rfl, by simp, by simp, rfl, Lib.hid (JInv.start N), S3⟩
  case round =>
    clear S3
    obtain ⟨k, n, lv, fv, gv, iv, vv, bv, s, r, f, all, TL, hk, hn, rfl, hT1, hT2, hsm, JI, ST⟩ := hrel
    by_cases hlt : k < n1 ∧ k < 70
    · obtain ⟨hlt1, hlt2⟩ := hlt
      have hTa : TabIs wr 0 80 5 u7 (rowsV all) := ST.out.at_ 8 rfl
      have hTt : TabIs wr 0 57 2 u8 (rowsR TL) := ST.out.at_ 9 rfl
      obtain ⟨Aa, ca, hu7, hca, hAa⟩ := hTa.form
      obtain ⟨At, ct, hu8, hct, hAt⟩ := hTt.form
      obtain ⟨na, hna⟩ : ∃ n, all.length = n := ⟨_, rfl⟩
      obtain ⟨nt, hnt⟩ : ∃ n, TL.length = n := ⟨_, rfl⟩
      rw [rowsV_len, hna] at hu7 hca hAa
      rw [show (rowsR TL).length = nt by rw [rowsR, List.length_map, hnt]] at hu8 hct hAt
      subst hu7 hu8
      rw [hnt] at hT1 hT2
      have hwf := (jobPool ST.out).wf
      have hml : r.l.length ≤ 65536 := by rw [← JI.out.sim.len]; exact Nat.le_trans hwf.le hwf.most
      have hfl : r.free.length ≤ 65536 := by rw [← JI.out.sim.free]; have := hwf.free_le; have := hwf.le; have := hwf.most; omega
      have hmo : r.most ≤ 65536 := by rw [← JI.out.sim.most]; exact hwf.most
      have hfr : ∀ i, i ∈ r.free → i < r.l.length := by intro i hi; rw [← JI.out.sim.free] at hi; obtain ⟨x, hx, _⟩ := hwf.free_lt hi; rw [← JI.out.sim.len]; exact (List.getElem?_eq_some_iff.1 hx).1
      have HFR := Lib.hid hfr
      have HWF := Lib.hid hwf
      clear hfr hwf
      have hnak : na ≤ k := by rw [← hna]; exact JI.out.len
      obtain ⟨gt, rfl, hgt, _⟩ := hAt (by omega)
      obtain ⟨b1, off, rfl, hb, hcell⟩ := HA1.out (by omega)
      have HC := Lib.hid (fun (W : World) (hB : Below w.heap.size w W) (j : Nat) (hj : j < 10) => (hB.cell (p := ⟨b1, off + (k * 10 + j), none⟩) hb).trans (hcell (k * 10 + j) (by omega)))
      have GB := Lib.hid (fun j (hj : j < 10) => HG.out (k * 10 + j) (by omega))
      clear hcell
      have x0 : wr.cell? ⟨b1, off + k * 10, none⟩ = some (.int .i64 (G1 (k * 10))) := HC.out wr ST.out.be 0 (by omega)
      have x1 : wr.cell? ⟨b1, off + k * 10 + 1, none⟩ = some (.int .i64 (G1 (k * 10 + 1))) := HC.out wr ST.out.be 1 (by omega)
      have bci := GB.out 1 (by omega)
      have x2 : wr.cell? ⟨b1, off + k * 10 + 2, none⟩ = some (.int .i64 (G1 (k * 10 + 2))) := HC.out wr ST.out.be 2 (by omega)
      have bqu := GB.out 2 (by omega)
      have x3 : wr.cell? ⟨b1, off + k * 10 + 3, none⟩ = some (.int .i64 (G1 (k * 10 + 3))) := HC.out wr ST.out.be 3 (by omega)
      have btd := GB.out 3 (by omega)
      have x4 : wr.cell? ⟨b1, off + k * 10 + 4, none⟩ = some (.int .i64 (G1 (k * 10 + 4))) := HC.out wr ST.out.be 4 (by omega)
      have x5 : wr.cell? ⟨b1, off + k * 10 + 5, none⟩ = some (.int .i64 (G1 (k * 10 + 5))) := HC.out wr ST.out.be 5 (by omega)
      have x6 : wr.cell? ⟨b1, off + k * 10 + 6, none⟩ = some (.int .i64 (G1 (k * 10 + 6))) := HC.out wr ST.out.be 6 (by omega)
      have bia := GB.out 6 (by omega)
      have x7 : wr.cell? ⟨b1, off + k * 10 + 7, none⟩ = some (.int .i64 (G1 (k * 10 + 7))) := HC.out wr ST.out.be 7 (by omega)
      have x8 : wr.cell? ⟨b1, off + k * 10 + 8, none⟩ = some (.int .i64 (G1 (k * 10 + 8))) := HC.out wr ST.out.be 8 (by omega)
      have x9 : wr.cell? ⟨b1, off + k * 10 + 9, none⟩ = some (.int .i64 (G1 (k * 10 + 9))) := HC.out wr ST.out.be 9 (by omega)
      clear HC GB
      generalize G1 (k * 10 + 9) = rg at *
      generalize G1 (k * 10 + 8) = ra at *
      generalize G1 (k * 10 + 7) = ig at *
      generalize G1 (k * 10 + 6) = ia at *
      generalize G1 (k * 10 + 5) = ti at *
      generalize G1 (k * 10 + 4) = da at *
      generalize G1 (k * 10 + 3) = td at *
      generalize G1 (k * 10 + 2) = qu at *
      generalize G1 (k * 10 + 1) = ci at *
      generalize G1 (k * 10) = kd at *
      have bd := within_bd ci 0 ((nt : Int) - 1) (by omega)
      obtain ⟨mm, hm⟩ : ∃ m : Nat, within ci 0 ((nt : Int) - 1) = (m : Int) := ⟨(within ci 0 ((nt : Int) - 1)).toNat, by omega⟩
      rw [hm] at bd
      have hmn : mm < nt := by omega
      have Hm := Lib.hid hm
      obtain ⟨rt, hrt⟩ : ∃ t, TL[mm]? = some t := ⟨_, List.getElem?_eq_getElem (by rw [hnt]; exact hmn)⟩
      have S4 : Hid (Led w.heap.size w (wr.alloc (.cells #[.int .i64 kd, .int .i64 ci, .int .i64 qu, .int .i64 td, .int .i64 da, .int .i64 ti, .int .i64 ia, .int .i64 ig, .int .i64 ra, .int .i64 rg] 89)) (playEs t p b n m lv fv gv iv vv bv s r f [tabE 80 5 (.slice Aa na ca) (rowsV all), tabE 57 2 (.slice (some ⟨gt, 0, none⟩) nt ct) (rowsR TL), blkE wr.heap.size 89 #[.int .i64 kd, .int .i64 ci, .int .i64 qu, .int .i64 td, .int .i64 da, .int .i64 ti, .int .i64 ia, .int .i64 ig, .int .i64 ra, .int .i64 rg]])) := Lib.hid (led_new (A := playEs t p b n m lv fv gv iv vv bv s r f [tabE 80 5 (.slice Aa na ca) (rowsV all), tabE 57 2 (.slice (some ⟨gt, 0, none⟩) nt ct) (rowsR TL)]) (C := []) (T := 89) (cs := #[.int .i64 kd, .int .i64 ci, .int .i64 qu, .int .i64 td, .int .i64 da, .int .i64 ti, .int .i64 ia, .int .i64 ig, .int .i64 ra, .int .i64 rg]) ST.out)
      have hTt2 : TabIs (wr.alloc (.cells #[.int .i64 kd, .int .i64 ci, .int .i64 qu, .int .i64 td, .int .i64 da, .int .i64 ti, .int .i64 ia, .int .i64 ig, .int .i64 ra, .int .i64 rg] 89)) 0 57 2 (.slice (some ⟨gt, 0, none⟩) nt ct) (rowsR TL) := S4.out.at_ 9 rfl
      have HRT := Lib.hid (show (rowsR TL)[mm]? = some [.int .i64 rt.1, .int .i64 rt.2] from by rw [rowsR, List.getElem?_map, hrt]; rfl)
      have HNA := Lib.hid hna
      have HNT := Lib.hid hnt
      clear hm hrt hTa hTt hna hnt ST
      go_upto_region 11 with fail
      clear x0 x1 x2 x3 x4 x5 x6 x7 x8 x9
      have xB := (Blk.new wr 89 #[.int .i64 kd, .int .i64 ci, .int .i64 qu, .int .i64 td, .int .i64 da, .int .i64 ti, .int .i64 ia, .int .i64 ig, .int .i64 ra, .int .i64 rg])
      have t0 : (wr.alloc (.cells #[.int .i64 kd, .int .i64 ci, .int .i64 qu, .int .i64 td, .int .i64 da, .int .i64 ti, .int .i64 ia, .int .i64 ig, .int .i64 ra, .int .i64 rg] 89)).cell? ⟨gt, mm * 2, none⟩ = some (.int .i64 rt.1) := hTt2.cell (j := 0) HRT.out rfl
      have t1 : (wr.alloc (.cells #[.int .i64 kd, .int .i64 ci, .int .i64 qu, .int .i64 td, .int .i64 da, .int .i64 ti, .int .i64 ia, .int .i64 ig, .int .i64 ra, .int .i64 rg] 89)).cell? ⟨gt, mm * 2 + 1, none⟩ = some (.int .i64 rt.2) := hTt2.cell (j := 1) HRT.out rfl
      have S5 : Hid (Led w.heap.size w ((wr.alloc (.cells #[.int .i64 kd, .int .i64 ci, .int .i64 qu, .int .i64 td, .int .i64 da, .int .i64 ti, .int .i64 ia, .int .i64 ig, .int .i64 ra, .int .i64 rg] 89)).alloc (.cells #[.int .i64 rt.1, .int .i64 rt.2] 57)) (playEs t p b n m lv fv gv iv vv bv s r f [tabE 80 5 (.slice Aa na ca) (rowsV all), tabE 57 2 (.slice (some ⟨gt, 0, none⟩) nt ct) (rowsR TL), blkE wr.heap.size 89 #[.int .i64 kd, .int .i64 ci, .int .i64 qu, .int .i64 td, .int .i64 da, .int .i64 ti, .int .i64 ia, .int .i64 ig, .int .i64 ra, .int .i64 rg], blkE (wr.heap.size + 1) 57 #[.int .i64 rt.1, .int .i64 rt.2]])) := Lib.hid (by have := led_new (A := playEs t p b n m lv fv gv iv vv bv s r f [tabE 80 5 (.slice Aa na ca) (rowsV all), tabE 57 2 (.slice (some ⟨gt, 0, none⟩) nt ct) (rowsR TL), blkE wr.heap.size 89 #[.int .i64 kd, .int .i64 ci, .int .i64 qu, .int .i64 td, .int .i64 da, .int .i64 ti, .int .i64 ia, .int .i64 ig, .int .i64 ra, .int .i64 rg]]) (C := []) (T := 57) (cs := #[.int .i64 rt.1, .int .i64 rt.2]) S4.out; rw [World.size_alloc] at this; exact this)
      have S5r : Hid (Led w.heap.size w ((wr.alloc (.cells #[.int .i64 kd, .int .i64 ci, .int .i64 qu, .int .i64 td, .int .i64 da, .int .i64 ti, .int .i64 ia, .int .i64 ig, .int .i64 ra, .int .i64 rg] 89)).alloc (.cells #[.int .i64 ra, .int .i64 rg] 57)) (playEs t p b n m lv fv gv iv vv bv s r f [tabE 80 5 (.slice Aa na ca) (rowsV all), tabE 57 2 (.slice (some ⟨gt, 0, none⟩) nt ct) (rowsR TL), blkE wr.heap.size 89 #[.int .i64 kd, .int .i64 ci, .int .i64 qu, .int .i64 td, .int .i64 da, .int .i64 ti, .int .i64 ia, .int .i64 ig, .int .i64 ra, .int .i64 rg], blkE (wr.heap.size + 1) 57 #[.int .i64 ra, .int .i64 rg]])) := Lib.hid (by have := led_new (A := playEs t p b n m lv fv gv iv vv bv s r f [tabE 80 5 (.slice Aa na ca) (rowsV all), tabE 57 2 (.slice (some ⟨gt, 0, none⟩) nt ct) (rowsR TL), blkE wr.heap.size 89 #[.int .i64 kd, .int .i64 ci, .int .i64 qu, .int .i64 td, .int .i64 da, .int .i64 ti, .int .i64 ia, .int .i64 ig, .int .i64 ra, .int .i64 rg]]) (C := []) (T := 57) (cs := #[.int .i64 ra, .int .i64 rg]) S4.out; rw [World.size_alloc] at this; exact this)
      generalize hwx : wr.alloc (.cells #[.int .i64 kd, .int .i64 ci, .int .i64 qu, .int .i64 td, .int .i64 da, .int .i64 ti, .int .i64 ia, .int .i64 ig, .int .i64 ra, .int .i64 rg] 89) = wx at *
      have hws : wx.heap.size = wr.heap.size + 1 := by rw [← hwx]; simp
      have x0 := xB.cell 0; have fx0 := xB.frozen 0; have x1 := xB.cell 1; have fx1 := xB.frozen 1; have x2 := xB.cell 2; have fx2 := xB.frozen 2; have x3 := xB.cell 3; have fx3 := xB.frozen 3; have x4 := xB.cell 4; have fx4 := xB.frozen 4; have x5 := xB.cell 5; have fx5 := xB.frozen 5; have x6 := xB.cell 6; have fx6 := xB.frozen 6; have x7 := xB.cell 7; have fx7 := xB.frozen 7; have x8 := xB.cell 8; have fx8 := xB.frozen 8; have x9 := xB.cell 9; have fx9 := xB.frozen 9; simp only [List.getElem?_toArray, List.getElem?_cons_zero, List.getElem?_cons_succ] at x0 x1 x2 x3 x4 x5 x6 x7 x8 x9
      clear hTt2 xB hwx
      go_wp2_with fail
      refine Calls.mono (within_any ci 0 ((nt : Int) - 1) _ (by omega) (by omega) (by omega) (by omega) (by omega)) ?_
      rintro e w0 ⟨he, rfl⟩
      rw [Hm.out] at he
      subst he
      go_upto_if 71 with fail
      go_cut [] (fun wx => ∃ a g : Int, Hid (Led w.heap.size w wx (playEs t p b n m lv fv gv iv vv bv s r f [tabE 80 5 (.slice Aa na ca) (rowsV all), tabE 57 2 (.slice (some ⟨gt, 0, none⟩) nt ct) (rowsR TL), blkE wr.heap.size 89 #[.int .i64 kd, .int .i64 ci, .int .i64 qu, .int .i64 td, .int .i64 da, .int .i64 ti, .int .i64 ia, .int .i64 ig, .int .i64 ra, .int .i64 rg], blkE (wr.heap.size + 1) 57 #[.int .i64 a, .int .i64 g]])))
      case first =>
        as_aux_lemma =>
          obtain ⟨q5, hq5⟩ : ∃ q : Bool, (ci.tmod 9 == 8) = q := ⟨_, rfl⟩
          cases q5 with
          | true =>
            go_wp2_with fail
            go_meet
            case rel => exact ⟨ra, rg, S5r⟩
          | false =>
            go_wp2_with fail
            go_meet
            case rel => exact ⟨rt.1, rt.2, S5⟩
      case rest =>
        clear S4 S5 S5r t0 t1 x0 x1 x2 x3 x4 x5 x6 x7 x8 x9 fx0 fx1 fx2 fx3 fx4 fx5 fx6 fx7 fx8 fx9
        obtain ⟨a, g, S6⟩ := hcut
        obtain ⟨xb, hxb⟩ : ∃ xb, wr.heap.size = xb := ⟨_, rfl⟩
        rw [hxb] at S6
        have xB : Blk wc xb 89 #[.int .i64 kd, .int .i64 ci, .int .i64 qu, .int .i64 td, .int .i64 da, .int .i64 ti, .int .i64 ia, .int .i64 ig, .int .i64 ra, .int .i64 rg] := S6.out.at_ 10 rfl
        have x0 := xB.cell 0; have fx0 := xB.frozen 0; have x1 := xB.cell 1; have fx1 := xB.frozen 1; have x2 := xB.cell 2; have fx2 := xB.frozen 2; have x3 := xB.cell 3; have fx3 := xB.frozen 3; have x4 := xB.cell 4; have fx4 := xB.frozen 4; have x5 := xB.cell 5; have fx5 := xB.frozen 5; have x6 := xB.cell 6; have fx6 := xB.frozen 6; have x7 := xB.cell 7; have fx7 := xB.frozen 7; have x8 := xB.cell 8; have fx8 := xB.frozen 8; have x9 := xB.cell 9; have fx9 := xB.frozen 9; simp only [List.getElem?_toArray, List.getElem?_cons_zero, List.getElem?_cons_succ] at x0 x1 x2 x3 x4 x5 x6 x7 x8 x9
        clear xB
        go_wp2_with fail
        refine Calls.mono (within_any ia 0 6 _ (by omega) (by omega) (by omega) (by omega) (by omega)) ?_
        rintro e w0 ⟨rfl, rfl⟩
        have bdi := within_bd ia 0 6 (by omega)
        generalize within ia 0 6 = ib at bdi ⊢
        have S7 := Lib.hid (led_new (A := playEs t p b n m lv fv gv iv vv bv s r f [tabE 80 5 (.slice Aa na ca) (rowsV all), tabE 57 2 (.slice (some ⟨gt, 0, none⟩) nt ct) (rowsR TL), blkE xb 89 #[.int .i64 kd, .int .i64 ci, .int .i64 qu, .int .i64 td, .int .i64 da, .int .i64 ti, .int .i64 ia, .int .i64 ig, .int .i64 ra, .int .i64 rg], blkE (xb + 1) 57 #[.int .i64 a, .int .i64 g]]) (C := []) (T := 57) (cs := #[.int .i64 ib, .int .i64 1]) S6.out)
        obtain ⟨ix, hix⟩ : ∃ ix, wc.heap.size = ix := ⟨_, rfl⟩
        rw [hix] at S7
        clear S6
        go_upto_region 15 with fail
        clear x0 x1 x2 x3 x4 x5 x6 x7 x8 x9 fx0 fx1 fx2 fx3 fx4 fx5 fx6 fx7 fx8 fx9
        generalize wc.alloc (.cells #[.int .i64 ib, .int .i64 1] 57) = wy at S7 ⊢
        have bdq := within_bd qu 0 2 (by omega)
        obtain ⟨qv, hqv⟩ : ∃ qv, within qu 0 2 = qv := ⟨_, rfl⟩
        rw [hqv] at bdq
        have HQV := Lib.hid hqv
        clear hqv
        go_cut [13] (fun jx wx => ∃ jb : Nat, jx = .pointer (some ⟨jb, 0, none⟩) ∧ Hid (Led w.heap.size w wx (playEs t p b n m lv fv gv iv vv bv s r f [tabE 80 5 (.slice Aa na ca) (rowsV all), tabE 57 2 (.slice (some ⟨gt, 0, none⟩) nt ct) (rowsR TL), blkE xb 89 #[.int .i64 kd, .int .i64 ci, .int .i64 qu, .int .i64 td, .int .i64 da, .int .i64 ti, .int .i64 ia, .int .i64 ig, .int .i64 ra, .int .i64 rg], blkE (xb + 1) 57 #[.int .i64 a, .int .i64 g], blkE ix 57 #[.int .i64 ib, .int .i64 1], blkE jb 80 #[.int .i64 qv, .int .i64 ti, .int .i64 da, .int .i64 ib, .int .i64 1]])))
        case first =>
          as_aux_lemma =>
            have HS : Hid (∀ wx, Chg [] wy wx → wx.cell? ⟨xb, 2, none⟩ = some (.int .i64 qu) ∧ wx.cell? ⟨xb, 4, none⟩ = some (.int .i64 da) ∧ wx.cell? ⟨xb, 5, none⟩ = some (.int .i64 ti) ∧ wx.cell? ⟨ix, 0, none⟩ = some (.int .i64 ib) ∧ wx.cell? ⟨ix, 1, none⟩ = some (.int .i64 1)) :=
              Lib.hid fun wx hx => have hl := S7.out.later (hx.below (by simp) (Nat.le_refl _)); have xb := (show Blk wx xb 89 #[.int .i64 kd, .int .i64 ci, .int .i64 qu, .int .i64 td, .int .i64 da, .int .i64 ti, .int .i64 ia, .int .i64 ig, .int .i64 ra, .int .i64 rg] from hl.at_ 10 rfl); have ibk := (show Blk wx ix 57 #[.int .i64 ib, .int .i64 1] from hl.at_ 12 rfl); ⟨xb.cell 2, xb.cell 4, xb.cell 5, ibk.cell 0, ibk.cell 1⟩
            go_region_held3 (fun wx => wx.cell? ⟨xb, 2, none⟩ = some (.int .i64 qu) ∧ wx.cell? ⟨xb, 4, none⟩ = some (.int .i64 da) ∧ wx.cell? ⟨xb, 5, none⟩ = some (.int .i64 ti) ∧ wx.cell? ⟨ix, 0, none⟩ = some (.int .i64 ib) ∧ wx.cell? ⟨ix, 1, none⟩ = some (.int .i64 1)) ((refine HS.out _ ?_; (repeat' first | with_reducible exact Chg.refl _ _ | with_reducible refine Chg.drew ?_ | with_reducible refine Chg.drewN ?_ _ | with_reducible refine Chg.alloc ?_ _ | with_reducible refine Chg.setCell ?_ ?_ _ | (left; simp; done) | (right; exact Nat.le_refl _) | (right; dsimp only; omega)); done)) (first | (go_at_call 14; refine Calls.mono (within_any qu 0 2 _ (by omega) (by omega) (by omega) (by omega) (by omega)) ?_; rw [HQV.out]; rintro e w3 ⟨rfl, rfl⟩))
            all_goals
              go_wp2_with fail
              go_meet
              case rel => exact ⟨_, rfl, Lib.hid (led_new (A := playEs t p b n m lv fv gv iv vv bv s r f [tabE 80 5 (.slice Aa na ca) (rowsV all), tabE 57 2 (.slice (some ⟨gt, 0, none⟩) nt ct) (rowsR TL), blkE xb 89 #[.int .i64 kd, .int .i64 ci, .int .i64 qu, .int .i64 td, .int .i64 da, .int .i64 ti, .int .i64 ia, .int .i64 ig, .int .i64 ra, .int .i64 rg], blkE (xb + 1) 57 #[.int .i64 a, .int .i64 g], blkE ix 57 #[.int .i64 ib, .int .i64 1]]) (C := []) (T := 80) (cs := #[.int .i64 qv, .int .i64 ti, .int .i64 da, .int .i64 ib, .int .i64 1]) S7.out).drew⟩
        case rest =>
          clear S7
          obtain ⟨jb, rfl, S8⟩ := hcut
          have rB : Blk wc (xb + 1) 57 #[.int .i64 a, .int .i64 g] := S8.out.at_ 11 rfl
          have r0 := rB.cell 0; have fr0 := rB.frozen 0; have r1 := rB.cell 1; have fr1 := rB.frozen 1; simp only [List.getElem?_toArray, List.getElem?_cons_zero, List.getElem?_cons_succ] at r0 r1
          clear rB
          go_wp2_with fail
          refine Calls.mono (ref_get w.heap.size m gv iv vv bv r w _ _ a g (play_swap S8.out) hml) ?_
          rintro e w3 ⟨u0, e0, rfl, q1, q2⟩
          have Q1 := Lib.hid q1
          have S9 := Lib.hid (led_new (A := playEs t p b n m lv fv gv iv vv bv s r f [tabE 80 5 (.slice Aa na ca) (rowsV all), tabE 57 2 (.slice (some ⟨gt, 0, none⟩) nt ct) (rowsR TL), blkE xb 89 #[.int .i64 kd, .int .i64 ci, .int .i64 qu, .int .i64 td, .int .i64 da, .int .i64 ti, .int .i64 ia, .int .i64 ig, .int .i64 ra, .int .i64 rg], blkE (xb + 1) 57 #[.int .i64 a, .int .i64 g], blkE ix 57 #[.int .i64 ib, .int .i64 1], blkE jb 80 #[.int .i64 qv, .int .i64 ti, .int .i64 da, .int .i64 ib, .int .i64 1]]) (C := []) (T := 57) (cs := #[.int .i64 0, .int .i64 0]) (S8.out.later q2))
          obtain ⟨hb2, hhb⟩ : ∃ hb2, w3.heap.size = hb2 := ⟨_, rfl⟩
          rw [hhb] at S9
          clear q1 q2 S8 r0 r1 fr0 fr1
          go_wp2_with fail
          refine Calls.mono (ref_all w.heap.size m gv iv vv bv r w _ _ (play_swap S9.out) hml) ?_
          rintro e w4 ⟨v, rfl, q1⟩
          rw [JI.out.sim.all] at q1
          generalize hT : allTo s.l s.l.length = T at *
          have hTT : TabIs w4 0 57 2 v (rowsR T) := q1.at_ 0 rfl
          obtain ⟨Al, cl, rfl, hcl, hAl⟩ := hTT.form
          obtain ⟨nl, hnl⟩ : ∃ n, T.length = n := ⟨_, rfl⟩
          have hrl : (rowsR T).length = nl := by rw [rowsR, List.length_map, hnl]
          rw [hrl] at hcl hAl q1 ⊢
          have hnlb : nl ≤ 65536 := by have := HWF.out.all_len; rw [hT, hnl] at this; have := HWF.out.le; have := HWF.out.most; omega
          have S10 : Hid (Led w.heap.size w w4 (playEs t p b n m lv fv gv iv vv bv s r f [tabE 80 5 (.slice Aa na ca) (rowsV all), tabE 57 2 (.slice (some ⟨gt, 0, none⟩) nt ct) (rowsR TL), blkE xb 89 #[.int .i64 kd, .int .i64 ci, .int .i64 qu, .int .i64 td, .int .i64 da, .int .i64 ti, .int .i64 ia, .int .i64 ig, .int .i64 ra, .int .i64 rg], blkE (xb + 1) 57 #[.int .i64 a, .int .i64 g], blkE ix 57 #[.int .i64 ib, .int .i64 1], blkE jb 80 #[.int .i64 qv, .int .i64 ti, .int .i64 da, .int .i64 ib, .int .i64 1], blkE hb2 57 #[.int .i64 0, .int .i64 0], tabE 57 2 (.slice Al nl cl) (rowsR T)])) := Lib.hid (play_back (q1.perm (List.perm_append_singleton _ _).symm))
          have HT := Lib.hid hT
          have HNL := Lib.hid hnl
          clear q1 hTT hT hnl S9 hrl
          go_wp2_with fail
          go_loopw [18] (fun i wx => ∃ j : Nat, j ≤ nl ∧ i = .int .i64 j ∧ Hid (Led w.heap.size w wx (playEs t p b n m lv fv gv iv vv bv s r f [tabE 80 5 (.slice Aa na ca) (rowsV all), tabE 57 2 (.slice (some ⟨gt, 0, none⟩) nt ct) (rowsR TL), blkE xb 89 #[.int .i64 kd, .int .i64 ci, .int .i64 qu, .int .i64 td, .int .i64 da, .int .i64 ti, .int .i64 ia, .int .i64 ig, .int .i64 ra, .int .i64 rg], blkE (xb + 1) 57 #[.int .i64 a, .int .i64 g], blkE ix 57 #[.int .i64 ib, .int .i64 1], blkE jb 80 #[.int .i64 qv, .int .i64 ti, .int .i64 da, .int .i64 ib, .int .i64 1], blkE hb2 57 #[.int .i64 (hadTo s (ib, 1) (T.take j)).1, .int .i64 (hadTo s (ib, 1) (T.take j)).2], tabE 57 2 (.slice Al nl cl) (rowsR T)]))) (fun i _ => nl - (intOf i).toNat)
          case atStart => exact ⟨0, by omega, rfl, S10⟩
          case round =>
            clear S10
            obtain ⟨j, hj, rfl, S⟩ := hrel
            by_cases hltj : j < nl
            · skip
              as_aux_lemma =>
                obtain ⟨rf, hr⟩ : ∃ rf, T[j]? = some rf := ⟨_, List.getElem?_eq_getElem (by rw [HNL.out]; exact hltj)⟩
                obtain ⟨i, x, hi, rfl, hx, hxt⟩ := allTo_get (by rw [HT.out]; exact hr)
                obtain ⟨z, hz, eg, et, ev⟩ := JI.out.sim.get hx
                obtain ⟨hu0, hu⟩ := ev hxt
                have hg1 := (JI.out.gens i x hx).1
                obtain ⟨u, hu'⟩ : ∃ u : Nat, z.v = (u : Int) := ⟨z.v.toNat, by omega⟩
                rw [hu', Int.toNat_natCast] at hu
                have hul := (List.getElem?_eq_some_iff.1 hu).1
                rw [HNA.out] at hul
                obtain ⟨gl, rfl, _, _⟩ := hAl (by omega)
                obtain ⟨ga, rfl, _, _⟩ := hAa (by omega)
                have hTT : TabIs wr 0 57 2 (.slice (some ⟨gl, 0, none⟩) nl cl) (rowsR T) := S.out.at_ 15 rfl
                have HROW := Lib.hid (show (rowsR T)[j]? = some [.int .i64 (i : Int), .int .i64 x.gen] from by rw [rowsR, List.getElem?_map, hr]; rfl)
                have t0 : wr.cell? ⟨gl, j * 2, none⟩ = some (.int .i64 (i : Int)) := hTT.cell (j := 0) HROW.out rfl
                have t1 : wr.cell? ⟨gl, j * 2 + 1, none⟩ = some (.int .i64 x.gen) := hTT.cell (j := 1) HROW.out rfl
                have hhs := hadTo_succ (s := s) (item := (ib, 1)) hr
                simp only [hadStep, Int.toNat_natCast, hx] at hhs
                have HG := Lib.hid (ref_get_ok w.heap.size m gv iv vv bv r i z w wr _ (play_swap S.out) hml hz (et.symm.trans hxt) (by rw [← eg]; exact hg1))
                rw [hu', ← eg] at HG
                have HU := Lib.hid hu
                have HHS := Lib.hid hhs
                clear hr hx hz hxt hi eg et ev hu0 hu hhs hTT hu' hg1
                go_wp2_with fail
                refine Calls.mono HG.out ?_
                rintro e w5 ⟨rfl, q1⟩
                have S2 := Lib.hid (S.out.later q1)
                have hTa : TabIs w5 0 80 5 (.slice (some ⟨ga, 0, none⟩) na ca) (rowsV all) := S2.out.at_ 8 rfl
                have hrow : (rowsV all)[u]? = some [.int .i64 x.v.a, .int .i64 x.v.b, .int .i64 x.v.c, .int .i64 x.v.d, .int .i64 x.v.e] := by rw [rowsV, List.getElem?_map, HU.out]; rfl
                have a3 : w5.cell? ⟨ga, u * 5 + 3, none⟩ = some (.int .i64 x.v.d) := hTa.cell (j := 3) hrow rfl
                have a4 : w5.cell? ⟨ga, u * 5 + 4, none⟩ = some (.int .i64 x.v.e) := hTa.cell (j := 4) hrow rfl
                have rI : Blk w5 ix 57 #[.int .i64 ib, .int .i64 1] := S2.out.at_ 12 rfl
                have i0 := rI.cell 0; have fi0 := rI.frozen 0; have i1 := rI.cell 1; have fi1 := rI.frozen 1; simp only [List.getElem?_toArray, List.getElem?_cons_zero, List.getElem?_cons_succ] at i0 i1
                have rB : Blk w5 hb2 57 #[.int .i64 (hadTo s (ib, 1) (T.take j)).1, .int .i64 (hadTo s (ib, 1) (T.take j)).2] := S2.out.at_ 14 rfl
                have h0 := rB.cell 0; have fh0 := rB.frozen 0; have h1 := rB.cell 1; have fh1 := rB.frozen 1; simp only [List.getElem?_toArray, List.getElem?_cons_zero, List.getElem?_cons_succ] at h0 h1
                have hTr : TabIs w5 0 57 2 (.slice (some ⟨gl, 0, none⟩) nl cl) (rowsR T) := S2.out.at_ 15 rfl
                have t0 : w5.cell? ⟨gl, j * 2, none⟩ = some (.int .i64 (i : Int)) := hTr.cell (j := 0) HROW.out rfl
                have t1 : w5.cell? ⟨gl, j * 2 + 1, none⟩ = some (.int .i64 x.gen) := hTr.cell (j := 1) HROW.out rfl
                have rq := ref_eql
                obtain ⟨qq, hqq⟩ : ∃ qq, refEq x.v.d x.v.e ib 1 = qq := ⟨_, rfl⟩
                clear hTa hrow rI rB hTr q1 S
                cases qq with
                | true =>
                  have he : (x.v.d, x.v.e) = (ib, 1) := by obtain ⟨h1, h2⟩ := refEq_true.1 hqq; rw [h1, h2]
                  have HH2 : Hid (hadTo s (ib, 1) (T.take (j + 1)) = ((i : Int), x.gen)) := Lib.hid (by rw [HHS.out, if_pos he])
                  clear he HHS
                  go_wp2_with fail
                  go_quiet (fail)
                  go_wp2_with fail
                  go_roundw
                  case rel => exact ⟨j + 1, by omega, by go_num, by rw [HH2.out]; exact Lib.hid (led_store2 (A := playEs t p b n m lv fv gv iv vv bv s r f [tabE 80 5 (.slice (some ⟨ga, 0, none⟩) na ca) (rowsV all), tabE 57 2 (.slice (some ⟨gt, 0, none⟩) nt ct) (rowsR TL), blkE xb 89 #[.int .i64 kd, .int .i64 ci, .int .i64 qu, .int .i64 td, .int .i64 da, .int .i64 ti, .int .i64 ia, .int .i64 ig, .int .i64 ra, .int .i64 rg], blkE (xb + 1) 57 #[.int .i64 a, .int .i64 g], blkE ix 57 #[.int .i64 ib, .int .i64 1], blkE jb 80 #[.int .i64 qv, .int .i64 ti, .int .i64 da, .int .i64 ib, .int .i64 1]]) (C := [tabE 57 2 (.slice (some ⟨gl, 0, none⟩) nl cl) (rowsR T)]) (y0 := .int .i64 i) (y1 := .int .i64 x.gen) (S2.out.drewN nq))⟩
                  case measure => simp [intOf]; omega
                | false =>
                  have he : ¬ (x.v.d, x.v.e) = (ib, 1) := by intro h; injection h with h1 h2; rw [refEq_true.2 ⟨h1, h2⟩] at hqq; cases hqq
                  have HH2 : Hid (hadTo s (ib, 1) (T.take (j + 1)) = hadTo s (ib, 1) (T.take j)) := Lib.hid (by rw [HHS.out, if_neg he])
                  clear he HHS
                  go_wp2_with fail
                  go_quiet (fail)
                  go_wp2_with fail
                  go_roundw
                  case rel => exact ⟨j + 1, by omega, by go_num, by rw [HH2.out]; exact Lib.hid (S2.out.drewN nq)⟩
                  case measure => simp [intOf]; omega
            · obtain rfl : nl = j := by omega
              rw [List.take_of_length_le (by rw [HNL.out]; omega)] at S
              have hhad := JI.out.had (ib, 1)
              have hgp := JI.out.genpos (ib, 1)
              rw [HT.out] at hhad
              rw [hhad] at S
              obtain ⟨y, hy⟩ : ∃ y, (f (ib, 1)).getD (0, 0) = y := ⟨_, rfl⟩
              rw [hy] at S hgp
              have HY := Lib.hid hy
              have HGP := Lib.hid hgp
              clear hhad hgp hy
              have xB : Blk wr xb 89 #[.int .i64 kd, .int .i64 ci, .int .i64 qu, .int .i64 td, .int .i64 da, .int .i64 ti, .int .i64 ia, .int .i64 ig, .int .i64 ra, .int .i64 rg] := S.out.at_ 10 rfl
              have x0 := xB.cell 0
              simp only [List.getElem?_toArray, List.getElem?_cons_zero, List.getElem?_cons_succ] at x0
              clear xB
              go_upto_block 4 with fail
              clear x0
              go_cut [7, 8] (fun a7 a8 wx => ∃ (n : Nat) (lv fv gv iv vv bv : Value) (s : PSt V5) (r : PSt Int) (f : Int × Int → Option (Int × Int)) (all : List V5) (TL : List (Int × Int)), n ≤ k + 1 ∧ 1 ≤ TL.length ∧ TL.length ≤ k + 2 ∧ s.most = N ∧ Hid (JInv (k + 1) all s r f) ∧ Hid (Led w.heap.size w wx (playEs t p b n m lv fv gv iv vv bv s r f [tabE 80 5 a7 (rowsV all), tabE 57 2 a8 (rowsR TL), blkE ix 57 #[.int .i64 ib, .int .i64 1]])))
              case first =>
                have rB : Blk wr (xb + 1) 57 #[.int .i64 a, .int .i64 g] := S.out.at_ 11 rfl
                have lr := rB.lt
                have jB : Blk wr jb 80 #[.int .i64 qv, .int .i64 ti, .int .i64 da, .int .i64 ib, .int .i64 1] := S.out.at_ 13 rfl
                have ljb := jB.lt
                have hB : Blk wr hb2 57 #[.int .i64 y.1, .int .i64 y.2] := S.out.at_ 14 rfl
                have lhb := hB.lt
                have r0 := rB.cell 0; have fr0 := rB.frozen 0; have r1 := rB.cell 1; have fr1 := rB.frozen 1; simp only [List.getElem?_toArray, List.getElem?_cons_zero, List.getElem?_cons_succ] at r0 r1
                have j0 := jB.cell 0; have fj0 := jB.frozen 0; have j1 := jB.cell 1; have fj1 := jB.frozen 1; have j2 := jB.cell 2; have fj2 := jB.frozen 2; have j3 := jB.cell 3; have fj3 := jB.frozen 3; have j4 := jB.cell 4; have fj4 := jB.frozen 4; simp only [List.getElem?_toArray, List.getElem?_cons_zero, List.getElem?_cons_succ] at j0 j1 j2 j3 j4
                have h0 := hB.cell 0; have fh0 := hB.frozen 0; have h1 := hB.cell 1; have fh1 := hB.frozen 1; simp only [List.getElem?_toArray, List.getElem?_cons_zero, List.getElem?_cons_succ] at h0 h1
                clear rB jB hB
                have HBO := Lib.hid (JI.out.sim.both Q1.out)
                by_cases hK3 : kd = 3
                · subst hK3
                  as_aux_lemma =>
                    go_wp2_with fail
                    refine Calls.mono (jobs_take w.heap.size t p b n lv fv s f w _ _ a g JI.out.items S.out) ?_
                    rintro e w5 ⟨v, e1, fv', s', rfl, q1, q2⟩
                    rcases HBO.out with ⟨h0, hs, hr, hu⟩ | ⟨i, x, z, rfl, eg1, eg2, hx, hz, hxt, hzt, hg1, he0, hu, hv⟩
                    · obtain ⟨rfl, rfl, rfl⟩ := q1.bad hs h0
                      rw [if_neg h0] at q2
                      have hb : (e1 == 0) = false := by simpa using h0
                      have hn2 : (e1 != e1) = false := by simp
                      have S2 := Lib.hid (q2.alloc (.cells #[.int .i64 0, .int .i64 0, .int .i64 0, .int .i64 0, .int .i64 0] 80))
                      have rB : Blk w5 (xb + 1) 57 #[.int .i64 a, .int .i64 g] := q2.at_ 11 rfl
                      have lr5 := rB.lt
                      have r0 := rB.cell 0; have fr0 := rB.frozen 0; have r1 := rB.cell 1; have fr1 := rB.frozen 1; simp only [List.getElem?_toArray, List.getElem?_cons_zero, List.getElem?_cons_succ] at r0 r1
                      have HR := Lib.hid hr
                      have H0 := Lib.hid h0
                      clear q1 q2 S rB hr hs h0 hu
                      go_wp2_with fail
                      go_quiet (fail)
                      go_wp2_with fail
                      refine Calls.mono (ref_give w.heap.size m gv iv vv bv r w _ _ a g (play_swap (S2.out.drewN nq)) hml hfl) ?_
                      rintro e w6 ⟨u1, e2, bv', r', rfl, q3, q4⟩
                      obtain rfl : r' = r := by
                        rcases q3 with ⟨_, _, _, h3⟩ | ⟨i', z', rfl, rfl, hz', ht', hg', _⟩
                        · exact h3
                        · exact absurd (HR.out.symm.trans (look_ok hz' ht' hg')) H0.out
                      have S3 := Lib.hid (play_back q4)
                      clear q3 q4 S2
                      go_wp2_with fail
                      go_meet
                      case rel => exact ⟨n, lv, fv', gv, iv, vv, bv', s', r', f, all, TL, by omega, by rw [HNT.out]; omega, by rw [HNT.out]; omega, hsm, Lib.hid JI.out.mono, Lib.hid (led_drop (A := playEs t p b n m lv fv' gv iv vv bv' s' r' f [tabE 80 5 (.slice Aa na ca) (rowsV all), tabE 57 2 (.slice (some ⟨gt, 0, none⟩) nt ct) (rowsR TL), blkE ix 57 #[.int .i64 ib, .int .i64 1]]) (led_drop (A := playEs t p b n m lv fv' gv iv vv bv' s' r' f [tabE 80 5 (.slice Aa na ca) (rowsV all), tabE 57 2 (.slice (some ⟨gt, 0, none⟩) nt ct) (rowsR TL), blkE ix 57 #[.int .i64 ib, .int .i64 1]]) (led_drop (A := playEs t p b n m lv fv' gv iv vv bv' s' r' f [tabE 80 5 (.slice Aa na ca) (rowsV all), tabE 57 2 (.slice (some ⟨gt, 0, none⟩) nt ct) (rowsR TL), blkE ix 57 #[.int .i64 ib, .int .i64 1]]) (led_drop (A := playEs t p b n m lv fv' gv iv vv bv' s' r' f [tabE 80 5 (.slice Aa na ca) (rowsV all), tabE 57 2 (.slice (some ⟨gt, 0, none⟩) nt ct) (rowsR TL)]) (led_drop (A := playEs t p b n m lv fv' gv iv vv bv' s' r' f [tabE 80 5 (.slice Aa na ca) (rowsV all), tabE 57 2 (.slice (some ⟨gt, 0, none⟩) nt ct) (rowsR TL)]) (S3.out))))))⟩
                    · subst eg1
                      obtain ⟨rfl, rfl, rfl⟩ := q1.ok hx hxt hg1
                      subst he0
                      rw [if_pos rfl] at q2
                      obtain ⟨hv0, hv1⟩ := hv
                      obtain ⟨u, hu'⟩ : ∃ u : Nat, z.v = (u : Int) := ⟨z.v.toNat, by omega⟩
                      rw [hu', Int.toNat_natCast] at hv1
                      have hul := (List.getElem?_eq_some_iff.1 hv1).1
                      rw [HNA.out] at hul
                      obtain rfl : u0 = (u : Int) := hu.trans hu'
                      obtain ⟨ga, rfl, _, _⟩ := hAa (by omega)
                      have S2 := Lib.hid (q2.alloc (.cells #[.int .i64 x.v.a, .int .i64 x.v.b, .int .i64 x.v.c, .int .i64 x.v.d, .int .i64 x.v.e] 80))
                      have rB : Blk w5 (xb + 1) 57 #[.int .i64 i, .int .i64 x.gen] := q2.at_ 11 rfl
                      have lr5 := rB.lt
                      have r0 := rB.cell 0; have fr0 := rB.frozen 0; have r1 := rB.cell 1; have fr1 := rB.frozen 1; simp only [List.getElem?_toArray, List.getElem?_cons_zero, List.getElem?_cons_succ] at r0 r1
                      have hTa : TabIs w5 0 80 5 (.slice (some ⟨ga, 0, none⟩) na ca) (rowsV all) := q2.at_ 8 rfl
                      have hrow : (rowsV all)[u]? = some [.int .i64 x.v.a, .int .i64 x.v.b, .int .i64 x.v.c, .int .i64 x.v.d, .int .i64 x.v.e] := by rw [rowsV, List.getElem?_map, hv1]; rfl
                      have a0 : w5.cell? ⟨ga, u * 5, none⟩ = some (.int .i64 x.v.a) := hTa.cell (j := 0) hrow rfl
                      have a1 : w5.cell? ⟨ga, u * 5 + 1, none⟩ = some (.int .i64 x.v.b) := hTa.cell (j := 1) hrow rfl
                      have a2 : w5.cell? ⟨ga, u * 5 + 2, none⟩ = some (.int .i64 x.v.c) := hTa.cell (j := 2) hrow rfl
                      have a3 : w5.cell? ⟨ga, u * 5 + 3, none⟩ = some (.int .i64 x.v.d) := hTa.cell (j := 3) hrow rfl
                      have a4 : w5.cell? ⟨ga, u * 5 + 4, none⟩ = some (.int .i64 x.v.e) := hTa.cell (j := 4) hrow rfl
                      have la := (hTa.lt ga (by simp [Value.ownBlock])).2
                      have rq := job_neq
                      have HX := Lib.hid hx
                      have HZ := Lib.hid hz
                      have HXT := Lib.hid hxt
                      have HZT := Lib.hid hzt
                      have HEG := Lib.hid eg2
                      clear q1 q2 S rB hTa hrow hv1 hx hz hxt hzt hu hu' hv0 eg2 Q1
                      go_wp2_with fail
                      go_quiet (fail)
                      go_wp2_with fail
                      refine Calls.mono (ref_give w.heap.size m gv iv vv bv r w _ _ i x.gen (play_swap (S2.out.drewN nq)) hml hfl) ?_
                      rintro e w6 ⟨u1, e2, bv', r', rfl, q3, q4⟩
                      obtain rfl : r' = r.giveAt i z z.v := by
                        rcases q3 with ⟨h1, h2, _⟩ | ⟨i', z', hi', _, hz', ht', hg', _, _, h4⟩
                        · rw [HEG.out, look_ok HZ.out HZT.out (by rw [← HEG.out]; exact hg1)] at h2
                          exact absurd h2.symm h1
                        · have : i = i' := by omega
                          subst this
                          rw [HZ.out] at hz'
                          injection hz' with hz'
                          subst hz'
                          exact h4
                      have S3 := Lib.hid (play_back q4)
                      have JI2 := Lib.hid (JI.out.give HX.out HZ.out HXT.out).mono
                      clear q3 q4 S2
                      go_wp2_with fail
                      go_meet
                      case rel => exact ⟨n, lv, fv', gv, iv, vv, bv', s.giveAt i x ⟨0, 0, 0, 0, 0⟩, r.giveAt i z z.v, upd f (x.v.d, x.v.e) none, all, TL, by omega, by rw [HNT.out]; omega, by rw [HNT.out]; omega, hsm, JI2, Lib.hid (led_drop (A := playEs t p b n m lv fv' gv iv vv bv' (s.giveAt i x ⟨0, 0, 0, 0, 0⟩) (r.giveAt i z z.v) (upd f (x.v.d, x.v.e) none) [tabE 80 5 (.slice (some ⟨ga, 0, none⟩) na ca) (rowsV all), tabE 57 2 (.slice (some ⟨gt, 0, none⟩) nt ct) (rowsR TL), blkE ix 57 #[.int .i64 ib, .int .i64 1]]) (led_drop (A := playEs t p b n m lv fv' gv iv vv bv' (s.giveAt i x ⟨0, 0, 0, 0, 0⟩) (r.giveAt i z z.v) (upd f (x.v.d, x.v.e) none) [tabE 80 5 (.slice (some ⟨ga, 0, none⟩) na ca) (rowsV all), tabE 57 2 (.slice (some ⟨gt, 0, none⟩) nt ct) (rowsR TL), blkE ix 57 #[.int .i64 ib, .int .i64 1]]) (led_drop (A := playEs t p b n m lv fv' gv iv vv bv' (s.giveAt i x ⟨0, 0, 0, 0, 0⟩) (r.giveAt i z z.v) (upd f (x.v.d, x.v.e) none) [tabE 80 5 (.slice (some ⟨ga, 0, none⟩) na ca) (rowsV all), tabE 57 2 (.slice (some ⟨gt, 0, none⟩) nt ct) (rowsR TL), blkE ix 57 #[.int .i64 ib, .int .i64 1]]) (led_drop (A := playEs t p b n m lv fv' gv iv vv bv' (s.giveAt i x ⟨0, 0, 0, 0, 0⟩) (r.giveAt i z z.v) (upd f (x.v.d, x.v.e) none) [tabE 80 5 (.slice (some ⟨ga, 0, none⟩) na ca) (rowsV all), tabE 57 2 (.slice (some ⟨gt, 0, none⟩) nt ct) (rowsR TL)]) (led_drop (A := playEs t p b n m lv fv' gv iv vv bv' (s.giveAt i x ⟨0, 0, 0, 0, 0⟩) (r.giveAt i z z.v) (upd f (x.v.d, x.v.e) none) [tabE 80 5 (.slice (some ⟨ga, 0, none⟩) na ca) (rowsV all), tabE 57 2 (.slice (some ⟨gt, 0, none⟩) nt ct) (rowsR TL)]) (S3.out))))))⟩
                · have hk3 : (kd == 3) = false := by simpa using hK3
                  by_cases hK4 : kd = 4
                  · subst hK4
                    as_aux_lemma =>
                      go_wp2_with fail
                      refine Calls.mono (jobs_get w.heap.size t p b n lv fv s f w _ _ a g S.out) ?_
                      rintro e w5 ⟨v, e1, rfl, q1, q2⟩
                      have S2 := Lib.hid (S.out.later q2)
                      rcases HBO.out with ⟨h0, hs, hr, hu⟩ | ⟨i, x, z, rfl, eg1, eg2, hx, hz, hxt, hzt, hg1, he0, hu, hv⟩
                      · obtain ⟨rfl, rfl⟩ := q1.bad hs h0
                        have hb : (e1 == 0) = false := by simpa using h0
                        have hn2 : (e1 != e1) = false := by simp
                        clear q1 q2 S hr hs h0 hu
                        go_wp2_with fail
                        go_quiet (fail)
                        go_wp2_with fail
                        go_meet
                        case rel => exact ⟨n, lv, fv, gv, iv, vv, bv, s, r, f, all, TL, by omega, by rw [HNT.out]; omega, by rw [HNT.out]; omega, hsm, Lib.hid JI.out.mono, Lib.hid (led_drop (A := playEs t p b n m lv fv gv iv vv bv s r f [tabE 80 5 (.slice Aa na ca) (rowsV all), tabE 57 2 (.slice (some ⟨gt, 0, none⟩) nt ct) (rowsR TL), blkE ix 57 #[.int .i64 ib, .int .i64 1]]) (led_drop (A := playEs t p b n m lv fv gv iv vv bv s r f [tabE 80 5 (.slice Aa na ca) (rowsV all), tabE 57 2 (.slice (some ⟨gt, 0, none⟩) nt ct) (rowsR TL), blkE ix 57 #[.int .i64 ib, .int .i64 1]]) (led_drop (A := playEs t p b n m lv fv gv iv vv bv s r f [tabE 80 5 (.slice Aa na ca) (rowsV all), tabE 57 2 (.slice (some ⟨gt, 0, none⟩) nt ct) (rowsR TL), blkE ix 57 #[.int .i64 ib, .int .i64 1]]) (led_drop (A := playEs t p b n m lv fv gv iv vv bv s r f [tabE 80 5 (.slice Aa na ca) (rowsV all), tabE 57 2 (.slice (some ⟨gt, 0, none⟩) nt ct) (rowsR TL)]) (led_drop (A := playEs t p b n m lv fv gv iv vv bv s r f [tabE 80 5 (.slice Aa na ca) (rowsV all), tabE 57 2 (.slice (some ⟨gt, 0, none⟩) nt ct) (rowsR TL)]) ((S2.out.alloc _).drewN nq))))))⟩
                      · subst eg1
                        obtain ⟨rfl, rfl⟩ := q1.ok hx hxt hg1
                        subst he0
                        obtain ⟨hv0, hv1⟩ := hv
                        obtain ⟨u, hu'⟩ : ∃ u : Nat, z.v = (u : Int) := ⟨z.v.toNat, by omega⟩
                        rw [hu', Int.toNat_natCast] at hv1
                        have hul := (List.getElem?_eq_some_iff.1 hv1).1
                        rw [HNA.out] at hul
                        obtain rfl : u0 = (u : Int) := hu.trans hu'
                        obtain ⟨ga, rfl, _, _⟩ := hAa (by omega)
                        have hTa : TabIs w5 0 80 5 (.slice (some ⟨ga, 0, none⟩) na ca) (rowsV all) := S2.out.at_ 8 rfl
                        have hrow : (rowsV all)[u]? = some [.int .i64 x.v.a, .int .i64 x.v.b, .int .i64 x.v.c, .int .i64 x.v.d, .int .i64 x.v.e] := by rw [rowsV, List.getElem?_map, hv1]; rfl
                        have a0 : w5.cell? ⟨ga, u * 5, none⟩ = some (.int .i64 x.v.a) := hTa.cell (j := 0) hrow rfl
                        have a1 : w5.cell? ⟨ga, u * 5 + 1, none⟩ = some (.int .i64 x.v.b) := hTa.cell (j := 1) hrow rfl
                        have a2 : w5.cell? ⟨ga, u * 5 + 2, none⟩ = some (.int .i64 x.v.c) := hTa.cell (j := 2) hrow rfl
                        have a3 : w5.cell? ⟨ga, u * 5 + 3, none⟩ = some (.int .i64 x.v.d) := hTa.cell (j := 3) hrow rfl
                        have a4 : w5.cell? ⟨ga, u * 5 + 4, none⟩ = some (.int .i64 x.v.e) := hTa.cell (j := 4) hrow rfl
                        have la := (hTa.lt ga (by simp [Value.ownBlock])).2
                        have rq := job_neq
                        clear q1 q2 S hTa hrow hv1 hx hz hxt hzt hu hu' hv0 eg2 Q1
                        go_wp2_with fail
                        go_quiet (fail)
                        go_wp2_with fail
                        go_meet
                        case rel => exact ⟨n, lv, fv, gv, iv, vv, bv, s, r, f, all, TL, by omega, by rw [HNT.out]; omega, by rw [HNT.out]; omega, hsm, Lib.hid JI.out.mono, Lib.hid (led_drop (A := playEs t p b n m lv fv gv iv vv bv s r f [tabE 80 5 (.slice (some ⟨ga, 0, none⟩) na ca) (rowsV all), tabE 57 2 (.slice (some ⟨gt, 0, none⟩) nt ct) (rowsR TL), blkE ix 57 #[.int .i64 ib, .int .i64 1]]) (led_drop (A := playEs t p b n m lv fv gv iv vv bv s r f [tabE 80 5 (.slice (some ⟨ga, 0, none⟩) na ca) (rowsV all), tabE 57 2 (.slice (some ⟨gt, 0, none⟩) nt ct) (rowsR TL), blkE ix 57 #[.int .i64 ib, .int .i64 1]]) (led_drop (A := playEs t p b n m lv fv gv iv vv bv s r f [tabE 80 5 (.slice (some ⟨ga, 0, none⟩) na ca) (rowsV all), tabE 57 2 (.slice (some ⟨gt, 0, none⟩) nt ct) (rowsR TL), blkE ix 57 #[.int .i64 ib, .int .i64 1]]) (led_drop (A := playEs t p b n m lv fv gv iv vv bv s r f [tabE 80 5 (.slice (some ⟨ga, 0, none⟩) na ca) (rowsV all), tabE 57 2 (.slice (some ⟨gt, 0, none⟩) nt ct) (rowsR TL)]) (led_drop (A := playEs t p b n m lv fv gv iv vv bv s r f [tabE 80 5 (.slice (some ⟨ga, 0, none⟩) na ca) (rowsV all), tabE 57 2 (.slice (some ⟨gt, 0, none⟩) nt ct) (rowsR TL)]) ((S2.out.alloc _).drewN nq))))))⟩
                  · have hk4 : (kd == 4) = false := by simpa using hK4
                    by_cases hK5 : kd = 5
                    · subst hK5
                      as_aux_lemma =>
                        rcases HBO.out with ⟨h0, hs, hr, hu⟩ | ⟨i, x, z, rfl, eg1, eg2, hx, hz, hxt, hzt, hg1, he0, hu, hv⟩
                        · have hb : (e0 == 0) = false := by simpa using h0
                          have hn2 : (e0 != e0) = false := by simp
                          have HS0 := Lib.hid hs
                          have H0 := Lib.hid h0
                          clear hs h0 hr hu
                          go_wp2_with fail
                          refine Calls.mono (jobs_set w.heap.size t p b n lv fv s f w _ _ a g ⟨qv, ti, da, ib, 1⟩ (by unfold in64; simp only; omega) JI.out.items (by omega) S.out) ?_
                          rintro e w5 ⟨e1, s', f', n', rfl, q1, q2, q3⟩
                          obtain ⟨rfl, rfl, rfl⟩ : e1 = e0 ∧ s' = s ∧ f' = f := by
                            rcases q1 with ⟨_, h2, h3, h4⟩ | ⟨i', x', rfl, rfl, hx', ht', hg', _⟩
                            · exact ⟨h2.symm.trans HS0.out, h3, h4⟩
                            · exact absurd (HS0.out.symm.trans (look_ok hx' ht' hg')) H0.out
                          have S2 := Lib.hid q3
                          clear q1 q3 S
                          go_wp2_with fail
                          go_meet
                          case rel => exact ⟨n', lv, fv, gv, iv, vv, bv, s', r, f', all, TL, by omega, by rw [HNT.out]; omega, by rw [HNT.out]; omega, hsm, Lib.hid JI.out.mono, Lib.hid (led_drop (A := playEs t p b n' m lv fv gv iv vv bv s' r f' [tabE 80 5 (.slice Aa na ca) (rowsV all), tabE 57 2 (.slice (some ⟨gt, 0, none⟩) nt ct) (rowsR TL), blkE ix 57 #[.int .i64 ib, .int .i64 1]]) (led_drop (A := playEs t p b n' m lv fv gv iv vv bv s' r f' [tabE 80 5 (.slice Aa na ca) (rowsV all), tabE 57 2 (.slice (some ⟨gt, 0, none⟩) nt ct) (rowsR TL), blkE ix 57 #[.int .i64 ib, .int .i64 1]]) (led_drop (A := playEs t p b n' m lv fv gv iv vv bv s' r f' [tabE 80 5 (.slice Aa na ca) (rowsV all), tabE 57 2 (.slice (some ⟨gt, 0, none⟩) nt ct) (rowsR TL), blkE ix 57 #[.int .i64 ib, .int .i64 1]]) (led_drop (A := playEs t p b n' m lv fv gv iv vv bv s' r f' [tabE 80 5 (.slice Aa na ca) (rowsV all), tabE 57 2 (.slice (some ⟨gt, 0, none⟩) nt ct) (rowsR TL)]) (led_drop (A := playEs t p b n' m lv fv gv iv vv bv s' r f' [tabE 80 5 (.slice Aa na ca) (rowsV all), tabE 57 2 (.slice (some ⟨gt, 0, none⟩) nt ct) (rowsR TL)]) (S2.out))))))⟩
                        · subst eg1
                          subst he0
                          obtain ⟨hv0, hv1⟩ := hv
                          obtain ⟨u, hu'⟩ : ∃ u : Nat, z.v = (u : Int) := ⟨z.v.toNat, by omega⟩
                          rw [hu', Int.toNat_natCast] at hv1
                          have hul := (List.getElem?_eq_some_iff.1 hv1).1
                          rw [HNA.out] at hul
                          obtain rfl : u0 = (u : Int) := hu.trans hu'
                          obtain ⟨ga, rfl, _, _⟩ := hAa (by omega)
                          have HX := Lib.hid hx
                          have HZ := Lib.hid hz
                          have HXT := Lib.hid hxt
                          have HV1 := Lib.hid hv1
                          have HU := Lib.hid hu'
                          have HLK := Lib.hid (look_ok hx hxt hg1)
                          have rq := ref_neq
                          have hyq : (f (ib, 1)).isSome = true → f (ib, 1) = some y := by
                            intro h1
                            have h2 := HY.out
                            cases hf : f (ib, 1) with
                            | none => rw [hf] at h1; cases h1
                            | some z' => rw [hf] at h2; simp at h2; rw [h2]
                          have HYQ := Lib.hid hyq
                          have hgp := HGP.out
                          clear hx hz hxt hzt hv1 hu hu' hv0 eg2 hyq
                          by_cases hc : (f (ib, 1)).isSome = true ∧ ¬ (y.1 = i ∧ y.2 = x.gen)
                          · obtain ⟨hc1, hc2⟩ := hc
                            rw [hc1] at hgp
                            have hre : refEq y.1 y.2 i x.gen = false := refEq_false.2 hc2
                            have HC1 := Lib.hid hc1
                            have HC2 := Lib.hid hc2
                            clear hc1 hc2
                            go_wp2_with fail
                            refine Calls.mono (jobs_set w.heap.size t p b n lv fv s f w _ _ i x.gen ⟨qv, ti, da, ib, 1⟩ (by unfold in64; simp only; omega) JI.out.items (by omega) S.out) ?_
                            rintro e w5 ⟨e1, s', f', n', rfl, q1, q2, q3⟩
                            obtain ⟨rfl, rfl, rfl⟩ : e1 = 1 ∧ s' = s ∧ f' = f := by
                              rcases q1 with ⟨h1, h2, _⟩ | ⟨i', x', hi', _, hx', ht', hg', h3⟩
                              · exact absurd (h2.symm.trans HLK.out) h1
                              · rcases h3 with ⟨_, _, _, h4, h5, h6⟩ | ⟨h4, _⟩
                                · exact ⟨h4, h5, h6⟩
                                · exact absurd (h4 y (HYQ.out HC1.out)) HC2.out
                            have S2 := Lib.hid q3
                            clear q1 q3 S
                            go_wp2_with fail
                            go_meet
                            case rel => exact ⟨n', lv, fv, gv, iv, vv, bv, s', r, f', all, TL, by omega, by rw [HNT.out]; omega, by rw [HNT.out]; omega, hsm, Lib.hid JI.out.mono, Lib.hid (led_drop (A := playEs t p b n' m lv fv gv iv vv bv s' r f' [tabE 80 5 (.slice (some ⟨ga, 0, none⟩) na ca) (rowsV all), tabE 57 2 (.slice (some ⟨gt, 0, none⟩) nt ct) (rowsR TL), blkE ix 57 #[.int .i64 ib, .int .i64 1]]) (led_drop (A := playEs t p b n' m lv fv gv iv vv bv s' r f' [tabE 80 5 (.slice (some ⟨ga, 0, none⟩) na ca) (rowsV all), tabE 57 2 (.slice (some ⟨gt, 0, none⟩) nt ct) (rowsR TL), blkE ix 57 #[.int .i64 ib, .int .i64 1]]) (led_drop (A := playEs t p b n' m lv fv gv iv vv bv s' r f' [tabE 80 5 (.slice (some ⟨ga, 0, none⟩) na ca) (rowsV all), tabE 57 2 (.slice (some ⟨gt, 0, none⟩) nt ct) (rowsR TL), blkE ix 57 #[.int .i64 ib, .int .i64 1]]) (led_drop (A := playEs t p b n' m lv fv gv iv vv bv s' r f' [tabE 80 5 (.slice (some ⟨ga, 0, none⟩) na ca) (rowsV all), tabE 57 2 (.slice (some ⟨gt, 0, none⟩) nt ct) (rowsR TL)]) (led_drop (A := playEs t p b n' m lv fv gv iv vv bv s' r f' [tabE 80 5 (.slice (some ⟨ga, 0, none⟩) na ca) (rowsV all), tabE 57 2 (.slice (some ⟨gt, 0, none⟩) nt ct) (rowsR TL)]) (S2.out))))))⟩
                          · have HCN := Lib.hid hc
                            have hcond : ∀ z', f (ib, 1) = some z' → z'.1 = i ∧ z'.2 = x.gen := by
                              intro z' hz'
                              have hq1 : (f (ib, 1)).isSome = true := by rw [hz']; rfl
                              have hq2 := HYQ.out hq1
                              rw [hz'] at hq2
                              injection hq2 with hq2
                              rw [hq2]
                              exact Classical.not_not.1 fun h3 => HCN.out ⟨hq1, h3⟩
                            have HCOND := Lib.hid hcond
                            have hsel : (decide (0 < y.2) = false) ∨ (decide (0 < y.2) = true ∧ refEq y.1 y.2 i x.gen = true) := by
                              cases hq : (f (ib, 1)).isSome with
                              | false => rw [hq] at hgp; exact .inl hgp
                              | true => rw [hq] at hgp; exact .inr ⟨hgp, refEq_true.2 (hcond y (HYQ.out hq))⟩
                            clear hc hcond hgp
                            rcases hsel with hsl | ⟨hsl, hre⟩
                            all_goals
                              go_wp2_with fail
                              refine Calls.mono (jobs_set w.heap.size t p b n lv fv s f w _ _ i x.gen ⟨qv, ti, da, ib, 1⟩ (by unfold in64; simp only; omega) JI.out.items (by omega) S.out) ?_
                              rintro e w5 ⟨e1, s', f', n', rfl, q1, q2, q3⟩
                              obtain ⟨rfl, rfl, rfl⟩ : e1 = 0 ∧ s' = s.setAt i x ⟨qv, ti, da, ib, 1⟩ ∧ f' = upd (upd f (x.v.d, x.v.e) none) (ib, 1) (some ((i : Int), x.gen)) := by
                                rcases q1 with ⟨h1, h2, _⟩ | ⟨i', x', hi', _, hx', ht', hg', h3⟩
                                · exact absurd (h2.symm.trans HLK.out) h1
                                · have : i = i' := by omega
                                  subst this
                                  rw [HX.out] at hx'
                                  injection hx' with hx'
                                  subst hx'
                                  rcases h3 with ⟨y', h4, h5, _⟩ | ⟨_, h4, h5, h6⟩
                                  · exact absurd (HCOND.out y' h4) h5
                                  · exact ⟨h4, h5, h6⟩
                              have S2 := Lib.hid q3
                              have JI2 := Lib.hid (JI.out.set (v := ⟨qv, ti, da, ib, 1⟩) HX.out HZ.out HXT.out ⟨bdq, by unfold in64; simp only; omega⟩ HCOND.out).mono
                              rw [HU.out, Int.toNat_natCast] at JI2
                              have hTa : TabIs w5 0 80 5 (.slice (some ⟨ga, 0, none⟩) na ca) (rowsV all) := S2.out.at_ 8 rfl
                              have a0 : w5.cell? ⟨ga, u * 5, none⟩ = some (.int .i64 x.v.a) := hTa.cell (j := 0) (tab_row all HV1.out) rfl
                              have a1 : w5.cell? ⟨ga, u * 5 + 1, none⟩ = some (.int .i64 x.v.b) := hTa.cell (j := 1) (tab_row all HV1.out) rfl
                              have a2 : w5.cell? ⟨ga, u * 5 + 2, none⟩ = some (.int .i64 x.v.c) := hTa.cell (j := 2) (tab_row all HV1.out) rfl
                              have a3 : w5.cell? ⟨ga, u * 5 + 3, none⟩ = some (.int .i64 x.v.d) := hTa.cell (j := 3) (tab_row all HV1.out) rfl
                              have a4 : w5.cell? ⟨ga, u * 5 + 4, none⟩ = some (.int .i64 x.v.e) := hTa.cell (j := 4) (tab_row all HV1.out) rfl
                              have g0 := hTa.frozen (u * 5)
                              have g1 := hTa.frozen (u * 5 + 1)
                              have g2 := hTa.frozen (u * 5 + 2)
                              have g3 := hTa.frozen (u * 5 + 3)
                              have g4 := hTa.frozen (u * 5 + 4)
                              have la := (hTa.lt ga (by simp [Value.ownBlock])).2
                              have jB : Blk w5 jb 80 #[.int .i64 qv, .int .i64 ti, .int .i64 da, .int .i64 ib, .int .i64 1] := S2.out.at_ 13 rfl
                              have j0 := jB.cell 0; have fj0 := jB.frozen 0; have j1 := jB.cell 1; have fj1 := jB.frozen 1; have j2 := jB.cell 2; have fj2 := jB.frozen 2; have j3 := jB.cell 3; have fj3 := jB.frozen 3; have j4 := jB.cell 4; have fj4 := jB.frozen 4; simp only [List.getElem?_toArray, List.getElem?_cons_zero, List.getElem?_cons_succ] at j0 j1 j2 j3 j4
                              clear q1 q3 S hTa jB
                              go_wp2_with fail
                              go_meet
                              case rel => exact ⟨n', lv, fv, gv, iv, vv, bv, s.setAt i x ⟨qv, ti, da, ib, 1⟩, r, upd (upd f (x.v.d, x.v.e) none) (ib, 1) (some ((i : Int), x.gen)), all.set u ⟨qv, ti, da, ib, 1⟩, TL, by omega, by rw [HNT.out]; omega, by rw [HNT.out]; omega, hsm, JI2, Lib.hid (led_drop (A := playEs t p b n' m lv fv gv iv vv bv (s.setAt i x ⟨qv, ti, da, ib, 1⟩) r (upd (upd f (x.v.d, x.v.e) none) (ib, 1) (some ((i : Int), x.gen))) [tabE 80 5 (.slice (some ⟨ga, 0, none⟩) na ca) (rowsV (all.set u ⟨qv, ti, da, ib, 1⟩)), tabE 57 2 (.slice (some ⟨gt, 0, none⟩) nt ct) (rowsR TL), blkE ix 57 #[.int .i64 ib, .int .i64 1]]) (led_drop (A := playEs t p b n' m lv fv gv iv vv bv (s.setAt i x ⟨qv, ti, da, ib, 1⟩) r (upd (upd f (x.v.d, x.v.e) none) (ib, 1) (some ((i : Int), x.gen))) [tabE 80 5 (.slice (some ⟨ga, 0, none⟩) na ca) (rowsV (all.set u ⟨qv, ti, da, ib, 1⟩)), tabE 57 2 (.slice (some ⟨gt, 0, none⟩) nt ct) (rowsR TL), blkE ix 57 #[.int .i64 ib, .int .i64 1]]) (led_drop (A := playEs t p b n' m lv fv gv iv vv bv (s.setAt i x ⟨qv, ti, da, ib, 1⟩) r (upd (upd f (x.v.d, x.v.e) none) (ib, 1) (some ((i : Int), x.gen))) [tabE 80 5 (.slice (some ⟨ga, 0, none⟩) na ca) (rowsV (all.set u ⟨qv, ti, da, ib, 1⟩)), tabE 57 2 (.slice (some ⟨gt, 0, none⟩) nt ct) (rowsR TL), blkE ix 57 #[.int .i64 ib, .int .i64 1]]) (led_drop (A := playEs t p b n' m lv fv gv iv vv bv (s.setAt i x ⟨qv, ti, da, ib, 1⟩) r (upd (upd f (x.v.d, x.v.e) none) (ib, 1) (some ((i : Int), x.gen))) [tabE 80 5 (.slice (some ⟨ga, 0, none⟩) na ca) (rowsV (all.set u ⟨qv, ti, da, ib, 1⟩)), tabE 57 2 (.slice (some ⟨gt, 0, none⟩) nt ct) (rowsR TL)]) (led_drop (A := playEs t p b n' m lv fv gv iv vv bv (s.setAt i x ⟨qv, ti, da, ib, 1⟩) r (upd (upd f (x.v.d, x.v.e) none) (ib, 1) (some ((i : Int), x.gen))) [tabE 80 5 (.slice (some ⟨ga, 0, none⟩) na ca) (rowsV (all.set u ⟨qv, ti, da, ib, 1⟩)), tabE 57 2 (.slice (some ⟨gt, 0, none⟩) nt ct) (rowsR TL)]) (led_row5 (A := playEs t p b n' m lv fv gv iv vv bv (s.setAt i x ⟨qv, ti, da, ib, 1⟩) r (upd (upd f (x.v.d, x.v.e) none) (ib, 1) (some ((i : Int), x.gen))) []) (S2.out) HV1.out ⟨qv, ti, da, ib, 1⟩))))))⟩
                    · have hk5 : (kd == 5) = false := by simpa using hK5
                      by_cases hK6 : kd = 6
                      · subst hK6
                        as_aux_lemma =>
                          have xB : Blk wr xb 89 #[.int .i64 6, .int .i64 ci, .int .i64 qu, .int .i64 td, .int .i64 da, .int .i64 ti, .int .i64 ia, .int .i64 ig, .int .i64 ra, .int .i64 rg] := S.out.at_ 10 rfl
                          have x3 := xB.cell 3
                          simp only [List.getElem?_toArray, List.getElem?_cons_zero, List.getElem?_cons_succ] at x3
                          clear xB HBO Q1
                          go_wp2_with fail
                          refine Calls.mono (within_any td 0 2 _ (by omega) (by omega) (by omega) (by omega) (by omega)) ?_
                          rintro e w0 ⟨rfl, rfl⟩
                          have bdt := within_bd td 0 2 (by omega)
                          generalize within td 0 2 = tq at bdt ⊢
                          clear x3
                          go_wp2_with fail
                          clear r0 r1 fr0 fr1 j0 fj0 j1 fj1 j2 fj2 j3 fj3 j4 fj4 h0 fh0 h1 fh1
                          go_loopw [25, 27] (fun c i wx => ∃ (j : Nat) (allj : List V5) (sj : PSt V5) (cj : Nat), j ≤ nl ∧ i = .int .i64 j ∧ c = .int .i64 cj ∧ Hid (moveTo qv tq s (T.take j) = (sj, cj)) ∧ Hid (allj.length = na) ∧ Hid (JInv k allj sj r f) ∧ Hid (Led w.heap.size w wx (playEs t p b n m lv fv gv iv vv bv s r f [tabE 80 5 (.slice Aa na ca) (rowsV allj), tabE 57 2 (.slice (some ⟨gt, 0, none⟩) nt ct) (rowsR TL), blkE xb 89 #[.int .i64 6, .int .i64 ci, .int .i64 qu, .int .i64 td, .int .i64 da, .int .i64 ti, .int .i64 ia, .int .i64 ig, .int .i64 ra, .int .i64 rg], blkE (xb + 1) 57 #[.int .i64 a, .int .i64 g], blkE ix 57 #[.int .i64 ib, .int .i64 1], blkE jb 80 #[.int .i64 qv, .int .i64 ti, .int .i64 da, .int .i64 ib, .int .i64 1], blkE hb2 57 #[.int .i64 y.1, .int .i64 y.2], tabE 57 2 (.slice Al nl cl) (rowsR T)]))) (fun _ i _ => nl - (intOf i).toNat)
                          case atStart => exact ⟨0, all, s, 0, by omega, rfl, rfl, Lib.hid rfl, HNA, JI, S⟩
                          case round =>
                            clear S
                            obtain ⟨j, allj, sj, cj, hj, rfl, rfl, HM, HNJ, JJ, S⟩ := hrel
                            by_cases hltm : j < nl
                            · obtain ⟨rf, hrr⟩ : ∃ rf, T[j]? = some rf := ⟨_, List.getElem?_eq_getElem (by rw [HNL.out]; exact hltm)⟩
                              obtain ⟨i, x1, hi, rfl, hx1, hxt1⟩ := allTo_get (by rw [HT.out]; exact hrr)
                              have hsh : shape sj = shape s := by have := shape_move qv tq s (T.take j); rw [HM.out] at this; exact this
                              obtain ⟨x, hx, hxg, hxt⟩ := shape_at hsh.symm hx1
                              rw [hxt1] at hxt
                              obtain ⟨z, hz, eg, et, ev⟩ := JJ.out.sim.get hx
                              obtain ⟨hu0, hu⟩ := ev hxt
                              have hg1 := (JJ.out.gens i x hx).1
                              obtain ⟨u, hu'⟩ : ∃ u : Nat, z.v = (u : Int) := ⟨z.v.toNat, by omega⟩
                              rw [hu', Int.toNat_natCast] at hu
                              have hul := (List.getElem?_eq_some_iff.1 hu).1
                              rw [HNJ.out] at hul
                              rw [← hxg] at hrr
                              obtain ⟨gl, rfl, _, _⟩ := hAl (by omega)
                              obtain ⟨ga, rfl, _, _⟩ := hAa (by omega)
                              have hTT : TabIs wr 0 57 2 (.slice (some ⟨gl, 0, none⟩) nl cl) (rowsR T) := S.out.at_ 15 rfl
                              have hrow : (rowsR T)[j]? = some [.int .i64 (i : Int), .int .i64 x.gen] := by rw [rowsR, List.getElem?_map, hrr]; rfl
                              have t0 : wr.cell? ⟨gl, j * 2, none⟩ = some (.int .i64 (i : Int)) := hTT.cell (j := 0) hrow rfl
                              have t1 : wr.cell? ⟨gl, j * 2 + 1, none⟩ = some (.int .i64 x.gen) := hTT.cell (j := 1) hrow rfl
                              have HG2 := Lib.hid (ref_get_ok w.heap.size m gv iv vv bv r i z w wr _ (play_swap S.out) hml hz (et.symm.trans hxt) (by rw [← eg]; exact hg1))
                              rw [hu', ← eg] at HG2
                              have hms := moveTo_succ (a := qv) (b := tq) (s := s) hrr
                              rw [HM.out] at hms
                              have hmst := JJ.out.mstep (a := qv) (b := tq) bdt hx hxt cj
                              simp only [mStep, Int.toNat_natCast, hz, hu', hu] at hmst
                              simp only [moveStep, Int.toNat_natCast, hx] at hms hmst
                              have hcl := move_le qv tq s (T.take j)
                              rw [HM.out, List.length_take] at hcl
                              have hcj : cj ≤ j := by simp only at hcl; omega
                              have HU := Lib.hid hu
                              have HMS := Lib.hid hms
                              have HMST := Lib.hid hmst
                              clear hrr hx1 hxt1 hi hsh hx hxg hxt hz eg et ev hu0 hu hg1 hu' hTT hrow hms hmst hcl HM
                              go_wp2_with fail
                              refine Calls.mono HG2.out ?_
                              rintro e w5 ⟨rfl, q1⟩
                              have S2 := Lib.hid (S.out.later q1)
                              have hTa : TabIs w5 0 80 5 (.slice (some ⟨ga, 0, none⟩) na ca) (rowsV allj) := S2.out.at_ 8 rfl
                              have a0 : w5.cell? ⟨ga, u * 5, none⟩ = some (.int .i64 x.v.a) := hTa.cell (j := 0) (tab_row allj HU.out) rfl
                              have g0 := hTa.frozen (u * 5)
                              have la := (hTa.lt ga (by simp [Value.ownBlock])).2
                              have jB : Blk w5 jb 80 #[.int .i64 qv, .int .i64 ti, .int .i64 da, .int .i64 ib, .int .i64 1] := S2.out.at_ 13 rfl
                              have j0 := jB.cell 0
                              simp only [List.getElem?_toArray, List.getElem?_cons_zero, List.getElem?_cons_succ] at j0
                              obtain ⟨qq, hqq⟩ : ∃ qq : Bool, (x.v.a == qv) = qq := ⟨_, rfl⟩
                              clear q1 S hTa jB t0 t1
                              cases qq with
                              | true =>
                                have hq2 : x.v.a = qv := by simpa using hqq
                                have HM2 := HMS.out
                                have HJ2 := HMST.out
                                rw [if_pos hq2] at HM2
                                rw [if_pos hq2, if_pos hq2] at HJ2
                                have HM3 := Lib.hid HM2
                                have HJ3 := Lib.hid HJ2.1
                                clear HM2 HJ2 HMS HMST hq2
                                go_wp2_with fail
                                go_quiet (fail)
                                go_wp2_with fail
                                go_roundw
                                case rel => exact ⟨j + 1, allj.set u ⟨tq, x.v.b, x.v.c, x.v.d, x.v.e⟩, _, cj + 1, by omega, by go_num, by go_num, HM3, Lib.hid (by rw [List.length_set]; exact HNJ.out), HJ3, Lib.hid (led_row1 (A := playEs t p b n m lv fv gv iv vv bv s r f []) (S2.out.drewN nq) HU.out tq)⟩
                                case measure => simp [intOf]; omega
                              | false =>
                                have hq2 : ¬ x.v.a = qv := by simpa using hqq
                                have HM2 := HMS.out
                                rw [if_neg hq2] at HM2
                                have HM3 := Lib.hid HM2
                                clear HM2 HMS HMST hq2
                                go_wp2_with fail
                                go_quiet (fail)
                                go_wp2_with fail
                                go_roundw
                                case rel => exact ⟨j + 1, allj, sj, cj, by omega, by go_num, rfl, HM3, HNJ, JJ, Lib.hid (S2.out.drewN nq)⟩
                                case measure => simp [intOf]; omega
                            · obtain rfl : nl = j := by omega
                              rw [List.take_of_length_le (by rw [HNL.out]; omega)] at HM
                              have jB : Blk wr jb 80 #[.int .i64 qv, .int .i64 ti, .int .i64 da, .int .i64 ib, .int .i64 1] := S.out.at_ 13 rfl
                              have j0 := jB.cell 0
                              simp only [List.getElem?_toArray, List.getElem?_cons_zero, List.getElem?_cons_succ] at j0
                              have HMV := Lib.hid (jobs_move w.heap.size t p b n lv fv s f w wr _ qv tq JI.out.gensOk S.out)
                              rw [HT.out, HM.out] at HMV
                              have hcc : ((cj : Int) != (cj : Int)) = false := by simp
                              have hsm2 : sj.most = N := by rw [JJ.out.sim.most, ← JI.out.sim.most]; exact hsm
                              clear jB S
                              go_wp2_with fail
                              refine Calls.mono HMV.out ?_
                              rintro e w5 ⟨rfl, q1⟩
                              have S2 := Lib.hid q1
                              clear q1
                              go_wp2_with fail
                              go_meet
                              case rel => exact ⟨n, lv, fv, gv, iv, vv, bv, sj, r, f, allj, TL, by omega, by rw [HNT.out]; omega, by rw [HNT.out]; omega, hsm2, Lib.hid JJ.out.mono, Lib.hid (led_drop (A := playEs t p b n m lv fv gv iv vv bv sj r f [tabE 80 5 (.slice Aa na ca) (rowsV allj), tabE 57 2 (.slice (some ⟨gt, 0, none⟩) nt ct) (rowsR TL), blkE ix 57 #[.int .i64 ib, .int .i64 1]]) (led_drop (A := playEs t p b n m lv fv gv iv vv bv sj r f [tabE 80 5 (.slice Aa na ca) (rowsV allj), tabE 57 2 (.slice (some ⟨gt, 0, none⟩) nt ct) (rowsR TL), blkE ix 57 #[.int .i64 ib, .int .i64 1]]) (led_drop (A := playEs t p b n m lv fv gv iv vv bv sj r f [tabE 80 5 (.slice Aa na ca) (rowsV allj), tabE 57 2 (.slice (some ⟨gt, 0, none⟩) nt ct) (rowsR TL), blkE ix 57 #[.int .i64 ib, .int .i64 1]]) (led_drop (A := playEs t p b n m lv fv gv iv vv bv sj r f [tabE 80 5 (.slice Aa na ca) (rowsV allj), tabE 57 2 (.slice (some ⟨gt, 0, none⟩) nt ct) (rowsR TL)]) (led_drop (A := playEs t p b n m lv fv gv iv vv bv sj r f [tabE 80 5 (.slice Aa na ca) (rowsV allj), tabE 57 2 (.slice (some ⟨gt, 0, none⟩) nt ct) (rowsR TL)]) (S2.out))))))⟩
                      · have hk6 : (kd == 6) = false := by simpa using hK6
                        as_aux_lemma =>
                          have HADD := Lib.hid (jobs_add w.heap.size t p b n lv fv s f w wr _ ⟨qv, ti, da, ib, 1⟩ (by unfold in64; simp only; omega) (by omega) S.out)
                          clear S HBO Q1
                          go_wp2_with fail
                          refine Calls.mono HADD.out ?_
                          rintro e w5 ⟨ra2, rg2, e1, lv', fv', s', f', n', rfl, q1, q2, q3⟩
                          have S2 := Lib.hid (led_new (A := playEs t p b n' m lv' fv' gv iv vv bv s' r f' [tabE 80 5 (.slice Aa na ca) (rowsV all), tabE 57 2 (.slice (some ⟨gt, 0, none⟩) nt ct) (rowsR TL), blkE xb 89 #[.int .i64 kd, .int .i64 ci, .int .i64 qu, .int .i64 td, .int .i64 da, .int .i64 ti, .int .i64 ia, .int .i64 ig, .int .i64 ra, .int .i64 rg], blkE (xb + 1) 57 #[.int .i64 a, .int .i64 g], blkE ix 57 #[.int .i64 ib, .int .i64 1], blkE jb 80 #[.int .i64 qv, .int .i64 ti, .int .i64 da, .int .i64 ib, .int .i64 1], blkE hb2 57 #[.int .i64 y.1, .int .i64 y.2], tabE 57 2 (.slice Al nl cl) (rowsR T)]) (C := []) (T := 57) (cs := #[.int .i64 ra2, .int .i64 rg2]) q3)
                          obtain ⟨vb, hvb⟩ : ∃ vb, w5.heap.size = vb := ⟨_, rfl⟩
                          rw [hvb] at S2
                          have hall := HWF.out.all_len
                          rw [HT.out, HNL.out] at hall
                          have hle := HWF.out.le
                          have hrm := JI.out.sim.most
                          have hgp := HGP.out
                          have rq := ref_neq
                          have Q4 := Lib.hid q1
                          have m0 : w5.cell? ⟨m, 0, none⟩ = some (.int .i64 r.most) := by
                            have := (refBlk (play_swap q3)).cell 0
                            simpa using this
                          have lm : m < vb := by rw [← hvb]; exact (refBlk (play_swap q3)).lt
                          have hB : Blk w5 hb2 57 #[.int .i64 y.1, .int .i64 y.2] := q3.at_ 14 rfl
                          have lhb5 : hb2 < vb := by rw [← hvb]; exact hB.lt
                          have h0 := hB.cell 0; have fh0 := hB.frozen 0; have h1 := hB.cell 1; have fh1 := hB.frozen 1; simp only [List.getElem?_toArray, List.getElem?_cons_zero, List.getElem?_cons_succ] at h0 h1
                          clear q1 q3 hB
                          have hQ := Q4.out
                          rcases hQ with ⟨c1, rfl, rfl, rfl, rfl, rfl⟩ | ⟨c1, c2, rfl, rfl, rfl, rfl, rfl⟩ | ⟨c1, c2, rfl, c3, rfl⟩
                          · have hd : decide ((r.most : Int) ≤ nl) = true := by simp; omega
                            have hdN : r.most ≤ nl := by omega
                            have hre : refEq 0 0 0 0 = true := by decide
                            clear hall hle hrm hgp c1 Q4
                            go_wp2_with fail
                            go_meet
                            case rel => exact ⟨n', lv', fv', gv, iv, vv, bv, s', r, f', all, TL, by omega, by rw [HNT.out]; omega, by rw [HNT.out]; omega, hsm, Lib.hid JI.out.mono, Lib.hid (led_drop (A := playEs t p b n' m lv' fv' gv iv vv bv s' r f' [tabE 80 5 (.slice Aa na ca) (rowsV all), tabE 57 2 (.slice (some ⟨gt, 0, none⟩) nt ct) (rowsR TL), blkE ix 57 #[.int .i64 ib, .int .i64 1]]) (led_drop (A := playEs t p b n' m lv' fv' gv iv vv bv s' r f' [tabE 80 5 (.slice Aa na ca) (rowsV all), tabE 57 2 (.slice (some ⟨gt, 0, none⟩) nt ct) (rowsR TL), blkE ix 57 #[.int .i64 ib, .int .i64 1]]) (led_drop (A := playEs t p b n' m lv' fv' gv iv vv bv s' r f' [tabE 80 5 (.slice Aa na ca) (rowsV all), tabE 57 2 (.slice (some ⟨gt, 0, none⟩) nt ct) (rowsR TL), blkE ix 57 #[.int .i64 ib, .int .i64 1]]) (led_drop (A := playEs t p b n' m lv' fv' gv iv vv bv s' r f' [tabE 80 5 (.slice Aa na ca) (rowsV all), tabE 57 2 (.slice (some ⟨gt, 0, none⟩) nt ct) (rowsR TL), blkE ix 57 #[.int .i64 ib, .int .i64 1]]) (led_drop (A := playEs t p b n' m lv' fv' gv iv vv bv s' r f' [tabE 80 5 (.slice Aa na ca) (rowsV all), tabE 57 2 (.slice (some ⟨gt, 0, none⟩) nt ct) (rowsR TL)]) (led_drop (A := playEs t p b n' m lv' fv' gv iv vv bv s' r f' [tabE 80 5 (.slice Aa na ca) (rowsV all), tabE 57 2 (.slice (some ⟨gt, 0, none⟩) nt ct) (rowsR TL)]) (S2.out)))))))⟩
                          · have hd : decide ((r.most : Int) ≤ nl) = false := by simp; omega
                            have hdN : ¬ r.most ≤ nl := by omega
                            have hre : refEq 0 0 0 0 = true := by decide
                            have hgp2 : decide (0 < y.2) = true := hgp.trans c2
                            clear hall hle hrm hgp c1 c2 Q4
                            go_wp2_with fail
                            go_meet
                            case rel => exact ⟨n', lv', fv', gv, iv, vv, bv, s', r, f', all, TL, by omega, by rw [HNT.out]; omega, by rw [HNT.out]; omega, hsm, Lib.hid JI.out.mono, Lib.hid (led_drop (A := playEs t p b n' m lv' fv' gv iv vv bv s' r f' [tabE 80 5 (.slice Aa na ca) (rowsV all), tabE 57 2 (.slice (some ⟨gt, 0, none⟩) nt ct) (rowsR TL), blkE ix 57 #[.int .i64 ib, .int .i64 1]]) (led_drop (A := playEs t p b n' m lv' fv' gv iv vv bv s' r f' [tabE 80 5 (.slice Aa na ca) (rowsV all), tabE 57 2 (.slice (some ⟨gt, 0, none⟩) nt ct) (rowsR TL), blkE ix 57 #[.int .i64 ib, .int .i64 1]]) (led_drop (A := playEs t p b n' m lv' fv' gv iv vv bv s' r f' [tabE 80 5 (.slice Aa na ca) (rowsV all), tabE 57 2 (.slice (some ⟨gt, 0, none⟩) nt ct) (rowsR TL), blkE ix 57 #[.int .i64 ib, .int .i64 1]]) (led_drop (A := playEs t p b n' m lv' fv' gv iv vv bv s' r f' [tabE 80 5 (.slice Aa na ca) (rowsV all), tabE 57 2 (.slice (some ⟨gt, 0, none⟩) nt ct) (rowsR TL), blkE ix 57 #[.int .i64 ib, .int .i64 1]]) (led_drop (A := playEs t p b n' m lv' fv' gv iv vv bv s' r f' [tabE 80 5 (.slice Aa na ca) (rowsV all), tabE 57 2 (.slice (some ⟨gt, 0, none⟩) nt ct) (rowsR TL)]) (led_drop (A := playEs t p b n' m lv' fv' gv iv vv bv s' r f' [tabE 80 5 (.slice Aa na ca) (rowsV all), tabE 57 2 (.slice (some ⟨gt, 0, none⟩) nt ct) (rowsR TL)]) (S2.out)))))))⟩
                          · have hd : decide ((r.most : Int) ≤ nl) = false := by simp; omega
                            have hdN : ¬ r.most ≤ nl := by omega
                            have hgp2 : decide (0 < y.2) = false := by rw [hgp]; simp only at c2; rw [c2]; rfl
                            have C2 := Lib.hid c2
                            have C3 := Lib.hid c3
                            clear hall hle hrm hgp c1 c2 c3 Q4
                            go_wp2_with fail
                            refine Calls.mono (ref_take w.heap.size m gv iv vv bv r w _ _ na (play_swap S2.out) hml hfl hmo HFR.out) ?_
                            rintro e w6 ⟨ra3, rg3, ok, gv', iv', vv', bv', r', rfl, q1, q2⟩
                            obtain ⟨rfl, rfl, hg1, hg2, hJ⟩ := JI.out.add HWF.out (by omega) (v := ⟨qv, ti, da, ib, 1⟩) ⟨bdq, by unfold in64; simp only; omega⟩ C2.out C3.out (by rw [HNA.out]; exact q1)
                            have JI2 := Lib.hid hJ
                            have hsm2 : s'.most = N := by
                              rcases C3.out with ⟨_, _, _, _, h1, _⟩ | ⟨_, _, _, _, _, rfl⟩ | ⟨_, _, _, _, _, _, _, _, rfl⟩
                              · cases h1
                              · exact hsm
                              · exact hsm
                            have S3 : Hid (Led w.heap.size w w6 (playEs t p b n' m lv' fv' gv' iv' vv' bv' s' r' (upd f (ib, 1) (some (ra3, rg3))) [tabE 80 5 (.slice Aa na ca) (rowsV all), tabE 57 2 (.slice (some ⟨gt, 0, none⟩) nt ct) (rowsR TL), blkE xb 89 #[.int .i64 kd, .int .i64 ci, .int .i64 qu, .int .i64 td, .int .i64 da, .int .i64 ti, .int .i64 ia, .int .i64 ig, .int .i64 ra, .int .i64 rg], blkE (xb + 1) 57 #[.int .i64 a, .int .i64 g], blkE ix 57 #[.int .i64 ib, .int .i64 1], blkE jb 80 #[.int .i64 qv, .int .i64 ti, .int .i64 da, .int .i64 ib, .int .i64 1], blkE hb2 57 #[.int .i64 y.1, .int .i64 y.2], tabE 57 2 (.slice Al nl cl) (rowsR T), blkE vb 57 #[.int .i64 ra3, .int .i64 rg3]])) := Lib.hid (play_back q2)
                            have hB : Blk w6 vb 57 #[.int .i64 ra3, .int .i64 rg3] := S3.out.at_ 16 rfl
                            have lvb := hB.lt
                            have v0 := hB.cell 0; have fv0 := hB.frozen 0; have v1 := hB.cell 1; have fv1 := hB.frozen 1; simp only [List.getElem?_toArray, List.getElem?_cons_zero, List.getElem?_cons_succ] at v0 v1
                            have hre : refEq ra3 rg3 ra3 rg3 = true := refEq_true.2 ⟨rfl, rfl⟩
                            clear q1 q2 S2 hB hJ m0 lm
                            go_wp2_with fail
                            have hlA : (rowsV all).length ≤ 1000000000 := by rw [rowsV_len, HNA.out]; omega
                            have hlT : (rowsR TL).length ≤ 1000000000 := by rw [rowsR, List.length_map, HNT.out]; omega
                            have S5 : Hid (Led w.heap.size w (w6.alloc (.cells #[.int .i64 ra3, .int .i64 rg3] 57)) (playEs t p b n' m lv' fv' gv' iv' vv' bv' s' r' (upd f (ib, 1) (some (ra3, rg3))) [blkE ix 57 #[.int .i64 ib, .int .i64 1], blkE jb 80 #[.int .i64 qv, .int .i64 ti, .int .i64 da, .int .i64 ib, .int .i64 1], blkE vb 57 #[.int .i64 ra3, .int .i64 rg3], tabE 80 5 (.slice Aa na ca) (rowsV all), tabE 57 2 (.slice (some ⟨gt, 0, none⟩) nt ct) (rowsR TL)])) := Lib.hid ((play_rot (A := [tabE 80 5 (.slice Aa na ca) (rowsV all), tabE 57 2 (.slice (some ⟨gt, 0, none⟩) nt ct) (rowsR TL)]) (C := [blkE ix 57 #[.int .i64 ib, .int .i64 1], blkE jb 80 #[.int .i64 qv, .int .i64 ti, .int .i64 da, .int .i64 ib, .int .i64 1], blkE vb 57 #[.int .i64 ra3, .int .i64 rg3]]) (led_drop (A := playEs t p b n' m lv' fv' gv' iv' vv' bv' s' r' (upd f (ib, 1) (some (ra3, rg3))) [tabE 80 5 (.slice Aa na ca) (rowsV all), tabE 57 2 (.slice (some ⟨gt, 0, none⟩) nt ct) (rowsR TL), blkE ix 57 #[.int .i64 ib, .int .i64 1], blkE jb 80 #[.int .i64 qv, .int .i64 ti, .int .i64 da, .int .i64 ib, .int .i64 1]]) (led_drop (A := playEs t p b n' m lv' fv' gv' iv' vv' bv' s' r' (upd f (ib, 1) (some (ra3, rg3))) [tabE 80 5 (.slice Aa na ca) (rowsV all), tabE 57 2 (.slice (some ⟨gt, 0, none⟩) nt ct) (rowsR TL), blkE ix 57 #[.int .i64 ib, .int .i64 1], blkE jb 80 #[.int .i64 qv, .int .i64 ti, .int .i64 da, .int .i64 ib, .int .i64 1]]) (led_drop (A := playEs t p b n' m lv' fv' gv' iv' vv' bv' s' r' (upd f (ib, 1) (some (ra3, rg3))) [tabE 80 5 (.slice Aa na ca) (rowsV all), tabE 57 2 (.slice (some ⟨gt, 0, none⟩) nt ct) (rowsR TL)]) (led_drop (A := playEs t p b n' m lv' fv' gv' iv' vv' bv' s' r' (upd f (ib, 1) (some (ra3, rg3))) [tabE 80 5 (.slice Aa na ca) (rowsV all), tabE 57 2 (.slice (some ⟨gt, 0, none⟩) nt ct) (rowsR TL)]) S3.out))))).alloc _)
                            have HSM : Hid (∀ W C, Led w.heap.size w W (playEs t p b n' m lv' fv' gv' iv' vv' bv' s' r' (upd f (ib, 1) (some (ra3, rg3))) (blkE ix 57 #[.int .i64 ib, .int .i64 1] :: blkE jb 80 #[.int .i64 qv, .int .i64 ti, .int .i64 da, .int .i64 ib, .int .i64 1] :: blkE vb 57 #[.int .i64 ra3, .int .i64 rg3] :: C)) → (fun wx : World => wx.cell? ⟨jb, 0, none⟩ = some (.int .i64 qv) ∧ wx.cell? ⟨jb, 1, none⟩ = some (.int .i64 ti) ∧ wx.cell? ⟨jb, 2, none⟩ = some (.int .i64 da) ∧ wx.cell? ⟨jb, 3, none⟩ = some (.int .i64 ib) ∧ wx.cell? ⟨jb, 4, none⟩ = some (.int .i64 1) ∧ wx.cell? ⟨vb, 0, none⟩ = some (.int .i64 ra3) ∧ wx.cell? ⟨vb, 1, none⟩ = some (.int .i64 rg3)) W) :=
                              Lib.hid fun W C hl => have j := (show Blk W jb 80 #[.int .i64 qv, .int .i64 ti, .int .i64 da, .int .i64 ib, .int .i64 1] from hl.at_ 9 rfl); have v := (show Blk W vb 57 #[.int .i64 ra3, .int .i64 rg3] from hl.at_ 10 rfl); ⟨j.cell 0, j.cell 1, j.cell 2, j.cell 3, j.cell 4, v.cell 0, v.cell 1⟩
                            clear S3 h0 fh0 h1 fh1 v0 fv0 v1 fv1 r0 r1 fr0 fr1 j0 fj0 j1 fj1 j2 fj2 j3 fj3 j4 fj4
                            generalize w6.alloc (.cells #[.int .i64 ra3, .int .i64 rg3] 57) = w7 at S5 ⊢
                            have hS0 := HSM.out _ _ S5.out
                            refine wp_region_held_drew (S := fun wx => wx.cell? ⟨jb, 0, none⟩ = some (.int .i64 qv) ∧ wx.cell? ⟨jb, 1, none⟩ = some (.int .i64 ti) ∧ wx.cell? ⟨jb, 2, none⟩ = some (.int .i64 da) ∧ wx.cell? ⟨jb, 3, none⟩ = some (.int .i64 ib) ∧ wx.cell? ⟨jb, 4, none⟩ = some (.int .i64 1) ∧ wx.cell? ⟨vb, 0, none⟩ = some (.int .i64 ra3) ∧ wx.cell? ⟨vb, 1, none⟩ = some (.int .i64 rg3)) (by as_aux_lemma => kernel_rfl) ?_ (fun hHeld => ?_)
                            · exact hS0
                            refine wpAnyH_read (i := 0) (d := 156) (v := ?_) rfl rfl rfl (by as_aux_lemma => kernel_rfl) (by as_aux_lemma => kernel_rfl) (by as_aux_lemma => kernel_rfl) (fun _ _ _ h => h) hHeld ?_ ?_
                            rotate_left
                            · intro w hSw
                              (try dsimp only at hSw)
                              go_simp
                              (try with_reducible rfl)
                            (try simp only [List.setIfInBounds_toArray, List.set_cons_zero, List.set_cons_succ])
                            refine wpAnyH_read (i := 1) (d := 157) (v := ?_) rfl rfl rfl (by as_aux_lemma => kernel_rfl) (by as_aux_lemma => kernel_rfl) (by as_aux_lemma => kernel_rfl) (fun _ _ _ h => h) hHeld ?_ ?_
                            rotate_left
                            · intro w hSw
                              (try dsimp only at hSw)
                              go_simp
                              (try with_reducible rfl)
                            (try simp only [List.setIfInBounds_toArray, List.set_cons_zero, List.set_cons_succ])
                            refine wpAnyH_read (i := 4) (d := 160) (v := ?_) rfl rfl rfl (by as_aux_lemma => kernel_rfl) (by as_aux_lemma => kernel_rfl) (by as_aux_lemma => kernel_rfl) (fun _ _ _ h => h) hHeld ?_ ?_
                            rotate_left
                            · intro w hSw
                              (try dsimp only at hSw)
                              go_simp
                              (try with_reducible rfl)
                            (try simp only [List.setIfInBounds_toArray, List.set_cons_zero, List.set_cons_succ])
                            refine wpAnyH_read (i := 5) (d := 161) (v := ?_) rfl rfl rfl (by as_aux_lemma => kernel_rfl) (by as_aux_lemma => kernel_rfl) (by as_aux_lemma => kernel_rfl) (fun _ _ _ h => h) hHeld ?_ ?_
                            rotate_left
                            · intro w hSw
                              (try dsimp only at hSw)
                              go_simp
                              (try with_reducible rfl)
                            (try simp only [List.setIfInBounds_toArray, List.set_cons_zero, List.set_cons_succ])
                            clear hHeld hS0
                            refine wpAnyH_appends0 (B := w.heap.size) (w0 := w) (F := 2) [⟨2, 3, 158, 159, 140, 80, 5, 40, .agg #[.int .i64 0, .int .i64 0, .int .i64 0, .int .i64 0, .int .i64 0], .tmp 156, .tmp 157, .slice Aa na ca, rowsV all, #[.int .i64 qv, .int .i64 ti, .int .i64 da, .int .i64 ib, .int .i64 1], .agg #[.int .i64 qv, .int .i64 ti, .int .i64 da, .int .i64 ib, .int .i64 1]⟩, ⟨6, 7, 162, 163, 54, 57, 2, 16, .agg #[.int .i64 0, .int .i64 0], .tmp 160, .tmp 161, .slice (some ⟨gt, 0, none⟩) nt ct, rowsR TL, #[.int .i64 ra3, .int .i64 rg3], .agg #[.int .i64 ra3, .int .i64 rg3]⟩] (playEs t p b n' m lv' fv' gv' iv' vv' bv' s' r' (upd f (ib, 1) (some (ra3, rg3))) [blkE ix 57 #[.int .i64 ib, .int .i64 1], blkE jb 80 #[.int .i64 qv, .int .i64 ti, .int .i64 da, .int .i64 ib, .int .i64 1], blkE vb 57 #[.int .i64 ra3, .int .i64 rg3]]) (by as_aux_lemma => kernel_rfl) S5.out.drew ?hok (by simp [tmps]) ?hS ?hfin
                            case hok =>
                              intro p' hp
                              simp only [List.mem_cons, List.not_mem_nil, or_false] at hp
                              rcases hp with rfl | rfl
                              · exact ⟨⟨_, rfl, rfl, rfl, rfl⟩, ⟨_, rfl, rfl, rfl, rfl⟩, Try.underlying140, info_job_, rfl, show 0 < 5 by decide, show 5 ≤ 1000 ∧ 40 ≤ 1000 by decide, hlA, rfl, one_job ⟨qv, ti, da, ib, 1⟩, fill_5 _ _ _ _ _ _ _ rfl, by kernel_rfl, by kernel_rfl, by simp [tmps], by simp⟩
                              · exact ⟨⟨_, rfl, rfl, rfl, rfl⟩, ⟨_, rfl, rfl, rfl, rfl⟩, Try.underlying54, info_ref_, rfl, show 0 < 2 by decide, show 2 ≤ 1000 ∧ 16 ≤ 1000 by decide, hlT, rfl, one_ref _ _, fill_2 _ _ _ _ rfl, by kernel_rfl, by kernel_rfl, by simp [tmps], by simp⟩
                            case hS =>
                              intro wx fs hl
                              exact HSM.out wx fs hl
                            case hfin =>
                              intro zs wz hz1 hz2 hl
                              obtain ⟨g1, v1, g2, v2, rfl⟩ := fin2 hz1 hz2
                              have hSz := HSM.out wz _ hl
                              have e1 : rowsV (all ++ [⟨qv, ti, da, ib, 1⟩]) = rowsV all ++ [[.int .i64 qv, .int .i64 ti, .int .i64 da, .int .i64 ib, .int .i64 1]] := by simp [rowsV]
                              have e2 : rowsR (TL ++ [(ra3, rg3)]) = rowsR TL ++ [[.int .i64 ra3, .int .i64 rg3]] := by simp [rowsR]
                              have S6 : Hid (Led w.heap.size w wz (playEs t p b n' m lv' fv' gv' iv' vv' bv' s' r' (upd f (ib, 1) (some (ra3, rg3))) [tabE 80 5 v1 (rowsV (all ++ [⟨qv, ti, da, ib, 1⟩])), tabE 57 2 v2 (rowsR (TL ++ [(ra3, rg3)])), blkE ix 57 #[.int .i64 ib, .int .i64 1]])) := by
                                rw [e1, e2]
                                exact Lib.hid (play_fin (X1 := blkE ix 57 #[.int .i64 ib, .int .i64 1]) (X2 := blkE jb 80 #[.int .i64 qv, .int .i64 ti, .int .i64 da, .int .i64 ib, .int .i64 1]) (X3 := blkE vb 57 #[.int .i64 ra3, .int .i64 rg3]) (T1 := tabE 80 5 v1 (rowsV all ++ [[.int .i64 qv, .int .i64 ti, .int .i64 da, .int .i64 ib, .int .i64 1]])) (T2 := tabE 57 2 v2 (rowsR TL ++ [[.int .i64 ra3, .int .i64 rg3]])) (by as_aux_lemma => rfl) hl)
                              clear hl hz1 hz2 e1 e2
                              simp only [foldA, List.foldl_cons, List.foldl_nil, Sta.puts, Act.put, List.setIfInBounds_toArray, List.set_cons_zero, List.set_cons_succ]
                              have tr : True := trivial
                              have hHeld : (fun wx : World => wx.cell? ⟨jb, 0, none⟩ = some (.int .i64 qv) ∧ wx.cell? ⟨jb, 1, none⟩ = some (.int .i64 ti) ∧ wx.cell? ⟨jb, 2, none⟩ = some (.int .i64 da) ∧ wx.cell? ⟨jb, 3, none⟩ = some (.int .i64 ib) ∧ wx.cell? ⟨jb, 4, none⟩ = some (.int .i64 1) ∧ wx.cell? ⟨vb, 0, none⟩ = some (.int .i64 ra3) ∧ wx.cell? ⟨vb, 1, none⟩ = some (.int .i64 rg3)) wz := hSz
                              refine wpAnyH_read (i := 8) (d := 7) (v := ?_) rfl rfl rfl (by as_aux_lemma => kernel_rfl) (by as_aux_lemma => kernel_rfl) (by as_aux_lemma => kernel_rfl) (fun _ _ _ h => h) hHeld ?_ ?_
                              rotate_left
                              · intro w hSw
                                (try dsimp only at hSw)
                                go_simp
                                (try with_reducible rfl)
                              (try simp only [List.setIfInBounds_toArray, List.set_cons_zero, List.set_cons_succ])
                              refine wpAnyH_read (i := 9) (d := 8) (v := ?_) rfl rfl rfl (by as_aux_lemma => kernel_rfl) (by as_aux_lemma => kernel_rfl) (by as_aux_lemma => kernel_rfl) (fun _ _ _ h => h) hHeld ?_ ?_
                              rotate_left
                              · intro w hSw
                                (try dsimp only at hSw)
                                go_simp
                                (try with_reducible rfl)
                              (try simp only [List.setIfInBounds_toArray, List.set_cons_zero, List.set_cons_succ])
                              refine wpAnyH_done (by as_aux_lemma => kernel_rfl) ?_ _
                              clear hHeld hSz
                              go_wp2_with fail
                              go_meet
                              case rel => exact ⟨n', lv', fv', gv', iv', vv', bv', s', r', (upd f (ib, 1) (some (ra3, rg3))), all ++ [⟨qv, ti, da, ib, 1⟩], TL ++ [(ra3, rg3)], by omega, by simp, by rw [List.length_append, HNT.out]; simp; omega, hsm2, JI2, S6⟩
              case rest =>
                as_aux_lemma =>
                  clear S JI HWF HFR
                  obtain ⟨n2, lv2, fv2, gv2, iv2, vv2, bv2, s2, r2, f2, all2, TL2, hn2, hTa2, hTb2, hsm2, JI2, S2⟩ := hcut
                  have rI : Blk wc ix 57 #[.int .i64 ib, .int .i64 1] := S2.out.at_ 10 rfl
                  have i0 := rI.cell 0; have fi0 := rI.frozen 0; have i1 := rI.cell 1; have fi1 := rI.frozen 1; simp only [List.getElem?_toArray, List.getElem?_cons_zero, List.getElem?_cons_succ] at i0 i1
                  clear rI
                  go_wp2_with fail
                  refine Calls.mono (jobs_agree w.heap.size t p b n2 m (k + 1) lv2 fv2 gv2 iv2 vv2 bv2 u7 s2 r2 f2 all2 w _ _ ib 1 JI2.out (by omega) (by unfold in64; omega) S2.out) ?_
                  rintro e w5 ⟨rfl, q1⟩
                  have S3 := Lib.hid (led_drop (A := playEs t p b n2 m lv2 fv2 gv2 iv2 vv2 bv2 s2 r2 f2 [tabE 80 5 u7 (rowsV all2), tabE 57 2 u8 (rowsR TL2)]) (C := []) q1)
                  clear q1 S2
                  go_wp2_with fail
                  go_roundw
                  case rel => exact ⟨k + 1, n2, lv2, fv2, gv2, iv2, vv2, bv2, s2, r2, f2, all2, TL2, by omega, by omega, by go_num, by omega, by omega, hsm2, JI2, S3⟩
                  case measure => simp [intOf]; omega
    · by_cases hlt1 : k < n1
      · obtain rfl : k = 70 := by omega
        clear hlt
        go_wp2_with fail
        exact hR.out _ _ ⟨rfl, ST.out.be⟩
      · have hd : decide ((k : Int) < n1) = false := by simp; omega
        clear hlt
        go_wp2_with fail
        exact hR.out _ _ ⟨rfl, ST.out.be⟩
end Go.Proofs.Ytjabofofofddbaa
