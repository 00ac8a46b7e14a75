import Derived.Test.YtognmhgdegpdiaaSlotsPlD
/- Handles against plain pools: agree. -/
namespace Go.Proofs.Ytognmhgdegpdiaa
open Go.RowKit
set_option linter.unusedVariables false
set_option linter.unusedSimpArgs false
set_option maxRecDepth 100000

/-- What both tell of a heap. -/
theorem PInv.heap_get {k : Nat} {X : PM} {a g u e0 e1 : Int} {v : V3} (h : PInv k X) (q0 : GetR 0 X.rh a g u e0) (q1 : GetR ⟨0, 0, 0⟩ X.sh a g v e1) :
    e1 = e0 ∧ (e0 = 0 → ∃ n : Nat, u = (n : Int) ∧ n < X.kd.length ∧ X.kd[n]? = some v.a ∧ X.rt[n]? = some v.b ∧ X.nn[n]? = some v.c) := by
  have hl := h.simH.look a g
  have l0 : X.rh.look a g = e0 := by
    rcases q0 with ⟨_, h1, _⟩ | ⟨i, x, rfl, rfl, hx, ht, hg, rfl, _⟩
    · exact h1
    · exact look_ok hx ht hg
  have l1 : X.sh.look a g = e1 := by
    rcases q1 with ⟨_, h1, _⟩ | ⟨i, x, rfl, rfl, hx, ht, hg, rfl, _⟩
    · exact h1
    · exact look_ok hx ht hg
  refine ⟨by rw [← l0, ← l1, hl], fun he => ?_⟩
  subst he
  rcases q0 with ⟨h1, _⟩ | ⟨i, y, rfl, rfl, hy, hyt, hg, _, rfl⟩
  · exact absurd rfl h1
  rcases q1 with ⟨h1, h2, _⟩ | ⟨i', x, hi, hgx, hx, hxt, _, _, rfl⟩
  · exact absurd (l1.symm.trans (hl.symm.trans l0)) h1
  obtain rfl : i = i' := by omega
  obtain ⟨y', n, hy', hn, _, _, h1, h2, h3, _, h5⟩ := h.heap hx hxt
  rw [hy] at hy'
  injection hy' with hy'
  subst hy'
  exact ⟨n, hn, h5, h1, h2, h3⟩
/-- What both tell of an item. -/
theorem PInv.item_get {k : Nat} {X : PM} {a g u e0 e1 e2 : Int} {v v2 : V3} (h : PInv k X) (q0 : GetR 0 X.ri a g u e0) (q1 : GetR ⟨0, 0, 0⟩ X.si a g v e1) (q2 : GetR ⟨0, 0, 0⟩ X.si a g v2 e2) :
    e1 = e0 ∧ e2 = e0 ∧ (e0 = 0 → ∃ q n : Nat, u = (q : Int) ∧ q < X.cl.length ∧ n < X.rf.length ∧ X.cl[q]? = some v.a ∧ X.inn[q]? = some (n : Int) ∧ X.rf[n]? = some (v2.b, v2.c)) := by
  have hl := h.simI.look a g
  have l0 : X.ri.look a g = e0 := by
    rcases q0 with ⟨_, h1, _⟩ | ⟨i, x, rfl, rfl, hx, ht, hg, rfl, _⟩
    · exact h1
    · exact look_ok hx ht hg
  have l1 : X.si.look a g = e1 := by
    rcases q1 with ⟨_, h1, _⟩ | ⟨i, x, rfl, rfl, hx, ht, hg, rfl, _⟩
    · exact h1
    · exact look_ok hx ht hg
  have l2 : X.si.look a g = e2 := by
    rcases q2 with ⟨_, h1, _⟩ | ⟨i, x, rfl, rfl, hx, ht, hg, rfl, _⟩
    · exact h1
    · exact look_ok hx ht hg
  refine ⟨by rw [← l0, ← l1, hl], by rw [← l0, ← l2, hl], fun he => ?_⟩
  subst he
  rcases q0 with ⟨h1, _⟩ | ⟨i, y, rfl, rfl, hy, hyt, hg, _, rfl⟩
  · exact absurd rfl h1
  rcases q1 with ⟨h1, _⟩ | ⟨i', x, hi, hgx, hx, hxt, hgx1, _, rfl⟩
  · exact absurd (l1.symm.trans (hl.symm.trans l0)) h1
  obtain rfl : i = i' := by omega
  obtain ⟨y', q, n, hy', hq, _, _, h1, h2, h3, h4, h5⟩ := h.item hx hxt
  rw [hy] at hy'
  injection hy' with hy'
  subst hy'
  rw [hgx] at q2
  obtain ⟨_, e2⟩ := GetR.ok hx hxt hgx1 q2
  exact ⟨q, n, hq, h4, (List.getElem?_eq_some_iff.1 h3).1, h1, h2, by rw [e2]; exact h3⟩

set_option maxHeartbeats 8000000 in
theorem pl_agree (B k : Nat) (X : PM) (ha hg ca cg c : Int) (w0 w : World) (es : List Ent) (hi : PInv k X) (hc : in64 c) (hl : Led B w0 w (X.mem ++ es)) :
    Calls Try.prog 43 #[.pointer (some ⟨X.t, 0, none⟩), .pointer (some ⟨X.m, 0, none⟩), .agg #[.int .i64 ha, .int .i64 hg], .agg #[.int .i64 ca, .int .i64 cg], .int .i64 c] w fun e w' => e = .returned (.bool true) ∧ Led B w0 w' (X.mem ++ es) := by
  have hw := pmWF hl
  have hm1 : X.ri.l.length ≤ 65536 := by rw [← hi.simI.len]; have := hw.2.le; have := hw.2.most; omega
  have hm2 : X.rh.l.length ≤ 65536 := by rw [← hi.simH.len]; have := hw.1.le; have := hw.1.most; omega
  have hnh : ((X.sh.l.length : Int) - X.sh.free.length) = ((allTo X.rh.l X.rh.l.length).length : Int) := by rw [hi.simH.all]; have := hw.1.all_len; omega
  have hni : ((X.si.l.length : Int) - X.si.free.length) = ((allTo X.ri.l X.ri.l.length).length : Int) := by rw [hi.simI.all]; have := hw.2.all_len; omega
  obtain ⟨Ak, ck, hvk, hck, hAk⟩ := int_form (pmK hl)
  obtain ⟨Ar, cr, hvr, hcr, hAr⟩ := int_form (pmR hl)
  obtain ⟨An, cn, hvn, hcn, hAn⟩ := int_form (pmN hl)
  obtain ⟨Ac, cc, hvc, hcc, hAc⟩ := int_form (pmC hl)
  obtain ⟨Ai, ci, hvi, hci, hAi⟩ := int_form (pmI hl)
  obtain ⟨Af, cf, hvf, hcf, hAf⟩ := (pmF hl).form
  have hrf : (rowsR X.rf).length = X.rf.length := by rw [rowsR, List.length_map]
  rw [hrf] at hvf hcf hAf
  have HI := Lib.hid hi; clear hi hw hrf
  have HC := Lib.hid hc; clear hc
  have HNH := Lib.hid hnh; have HNI := Lib.hid hni; clear hnh hni
  have S0 := Lib.hid (led_new (A := X.mem) (C := blkE w.heap.size 27 #[.int .i64 ha, .int .i64 hg] :: es) (T := 27) (cs := #[.int .i64 ca, .int .i64 cg]) (led_new (A := X.mem) (C := es) (T := 27) (cs := #[.int .i64 ha, .int .i64 hg]) hl))
  clear hl
  refine callsR fun R hR => ?_
  go_enter Try.func43, Try.ntmps43
  go_upto_region 1 with fail
  rw [World.size_alloc] at S0
  generalize w.heap.size + 1 = b8 at S0 ⊢
  generalize (w.alloc (.cells #[.int .i64 ha, .int .i64 hg] 27)).alloc (.cells #[.int .i64 ca, .int .i64 cg] 27) = wy at S0 ⊢
  generalize w.heap.size = b7 at S0 ⊢
  have HS : Hid (∀ W, Chg [] wy W → W.cell? ⟨X.m, 0, none⟩ = some (.pointer (some ⟨X.mh, 0, none⟩)) ∧ W.cell? ⟨b7, 0, none⟩ = some (.int .i64 ha) ∧ W.cell? ⟨b7, 1, none⟩ = some (.int .i64 hg)) :=
    Lib.hid fun W hW => have hl := S0.out.later (hW.below (by simp) (Nat.le_refl _)); have b := (show Blk W b7 27 #[.int .i64 ha, .int .i64 hg] from hl.at_ 22 rfl); ⟨pm0 hl, b.cell 0, b.cell 1⟩
  go_region_held3 (fun wx => wx.cell? ⟨X.m, 0, none⟩ = some (.pointer (some ⟨X.mh, 0, none⟩)) ∧ wx.cell? ⟨b7, 0, none⟩ = some (.int .i64 ha) ∧ wx.cell? ⟨b7, 1, none⟩ = some (.int .i64 hg)) (first | (refine HS.out _ ?_; (repeat' first | with_reducible exact Chg.refl _ _ | with_reducible refine Chg.drew ?_ | with_reducible refine Chg.drewN ?_ _ | with_reducible refine Chg.alloc ?_ _ | with_reducible refine Chg.setCell ?_ ?_ _ | (left; simp; done) | (right; exact Nat.le_refl _) | (right; dsimp only; omega)); done) | (refine HS2.out _ ?_; (repeat' first | with_reducible exact Chg.refl _ _ | with_reducible refine Chg.drew ?_ | with_reducible refine Chg.drewN ?_ _ | with_reducible refine Chg.alloc ?_ _ | with_reducible refine Chg.setCell ?_ ?_ _ | (left; simp; done) | (right; exact Nat.le_refl _) | (right; dsimp only; omega)); done)) ((go_at_call 37; refine Calls.mono (ref_get B X.mh X.hg X.hi X.hv X.hb X.rh w0 _ _ ha hg (PM.toH.1 S0.out.drew) hm2) ?_; rintro e w2 ⟨u, e0, rfl, q1, q2⟩; have QH := Lib.hid q1; have S2 := Lib.hid (S0.out.drew.later q2); have HS2 : Hid (∀ W, Chg [] w2 W → W.cell? ⟨X.m, 0, none⟩ = some (.pointer (some ⟨X.mh, 0, none⟩)) ∧ W.cell? ⟨b7, 0, none⟩ = some (.int .i64 ha) ∧ W.cell? ⟨b7, 1, none⟩ = some (.int .i64 hg)) := Lib.hid (fun W hW => have hl := S2.out.later (hW.below (by simp) (Nat.le_refl _)); have b := (show Blk W b7 27 #[.int .i64 ha, .int .i64 hg] from hl.at_ 22 rfl); ⟨pm0 hl, b.cell 0, b.cell 1⟩); clear q1 q2))
  clear HS HS2 S0
  go_upto_region 2 with fail
  have HS : Hid (∀ W, Chg [] w2 W → W.cell? ⟨X.m, 1, none⟩ = some (.pointer (some ⟨X.mi, 0, none⟩)) ∧ W.cell? ⟨b8, 0, none⟩ = some (.int .i64 ca) ∧ W.cell? ⟨b8, 1, none⟩ = some (.int .i64 cg)) :=
    Lib.hid fun W hW => have hl := S2.out.later (hW.below (by simp) (Nat.le_refl _)); have b := (show Blk W b8 27 #[.int .i64 ca, .int .i64 cg] from hl.at_ 21 rfl); ⟨pm1 hl, b.cell 0, b.cell 1⟩
  go_region_held3 (fun wx => wx.cell? ⟨X.m, 1, none⟩ = some (.pointer (some ⟨X.mi, 0, none⟩)) ∧ wx.cell? ⟨b8, 0, none⟩ = some (.int .i64 ca) ∧ wx.cell? ⟨b8, 1, none⟩ = some (.int .i64 cg)) (first | (refine HS.out _ ?_; (repeat' first | with_reducible exact Chg.refl _ _ | with_reducible refine Chg.drew ?_ | with_reducible refine Chg.drewN ?_ _ | with_reducible refine Chg.alloc ?_ _ | with_reducible refine Chg.setCell ?_ ?_ _ | (left; simp; done) | (right; exact Nat.le_refl _) | (right; dsimp only; omega)); done) | (refine HS2.out _ ?_; (repeat' first | with_reducible exact Chg.refl _ _ | with_reducible refine Chg.drew ?_ | with_reducible refine Chg.drewN ?_ _ | with_reducible refine Chg.alloc ?_ _ | with_reducible refine Chg.setCell ?_ ?_ _ | (left; simp; done) | (right; exact Nat.le_refl _) | (right; dsimp only; omega)); done)) ((go_at_call 37; refine Calls.mono (ref_get B X.mi X.ig X.ii X.iv X.ib X.ri w0 _ _ ca cg (PM.toI.1 S2.out.drew) hm1) ?_; rintro e w3 ⟨u2, g0, rfl, q1, q2⟩; have QI := Lib.hid q1; have S3 := Lib.hid (S2.out.drew.later q2); have HS2 : Hid (∀ W, Chg [] w3 W → W.cell? ⟨X.m, 1, none⟩ = some (.pointer (some ⟨X.mi, 0, none⟩)) ∧ W.cell? ⟨b8, 0, none⟩ = some (.int .i64 ca) ∧ W.cell? ⟨b8, 1, none⟩ = some (.int .i64 cg)) := Lib.hid (fun W hW => have hl := S3.out.later (hW.below (by simp) (Nat.le_refl _)); have b := (show Blk W b8 27 #[.int .i64 ca, .int .i64 cg] from hl.at_ 21 rfl); ⟨pm1 hl, b.cell 0, b.cell 1⟩); clear q1 q2))
  clear HS HS2 S2
  go_upto_region 3 with fail
  have rb : Blk w3 b7 27 #[.int .i64 ha, .int .i64 hg] := S3.out.at_ 22 rfl
  have h0 := rb.cell 0; have fh0 := rb.frozen 0; have h1 := rb.cell 1; have fh1 := rb.frozen 1; simp only [List.getElem?_toArray, List.getElem?_cons_zero, List.getElem?_cons_succ] at h0 h1
  clear rb
  go_wp2_with fail
  refine Calls.mono (slots_heap B X.t X.ph X.pi X.b X.n X.lh X.fh X.li X.fi X.sh X.si X.f w0 _ _ ha hg (PM.toS.1 S3.out)) ?_
  rintro e w4 ⟨v, e1, rfl, q1, q2⟩
  have S4 := Lib.hid (PM.toS.2 q2)
  obtain ⟨rfl, hga⟩ := HI.out.heap_get QH.out q1
  have HGA := Lib.hid hga
  clear q1 q2 hga QH S3 h0 h1
  go_upto_region 4 with fail
  go_cut [92] (fun s wx => s = .bool false ∧ Hid (Led B w0 wx (X.mem ++ blkE b8 27 #[.int .i64 ca, .int .i64 cg] :: blkE b7 27 #[.int .i64 ha, .int .i64 hg] :: es)))
  case first =>
    by_cases he : e1 = 0
    · obtain ⟨q, rfl, hq, k1, k2, k3⟩ := HGA.out he
      subst he
      have hq2 : q < X.rt.length := (List.getElem?_eq_some_iff.1 k2).1
      have hq3 : q < X.nn.length := (List.getElem?_eq_some_iff.1 k3).1
      obtain ⟨gk, hgk, _⟩ := hAk (by omega)
      obtain ⟨gr, hgr, _⟩ := hAr (by omega)
      obtain ⟨gn, hgn, _⟩ := hAn (by omega)
      rw [hgk] at hvk
      rw [hgr] at hvr
      rw [hgn] at hvn
      have m2 := pm2 S4.out
      have m3 := pm3 S4.out
      have m4 := pm4 S4.out
      have hK := pmK S4.out
      have hR2 := pmR S4.out
      have hN := pmN S4.out
      rw [hvk] at m2 hK
      rw [hvr] at m3 hR2
      rw [hvn] at m4 hN
      have y0 := int_cell hK k1
      have y1 := int_cell hR2 k2
      have y2 := int_cell hN k3
      have s1 : (0 : Int) ≤ (q : Int) := by omega
      have s2 : (q : Int) < X.kd.length := by omega
      have s3 : (q : Int) < X.rt.length := by omega
      have s4 : (q : Int) < X.nn.length := by omega
      clear hK hR2 hN k1 k2 k3
      go_wp2_with fail
      go_meet
      case rel => exact ⟨rfl, S4⟩
    · have hd : ((e1 : Int) == 0) = false := by rw [beq_eq_false_iff_ne]; exact he
      go_wp2_with fail
      go_meet
      case rel => exact ⟨rfl, S4⟩
  case rest =>
    clear S4 HGA
    obtain ⟨rfl, S4⟩ := hcut
    go_upto_region 6 with fail
    have rb : Blk wc b8 27 #[.int .i64 ca, .int .i64 cg] := S4.out.at_ 21 rfl
    have h0 := rb.cell 0; have fh0 := rb.frozen 0; have h1 := rb.cell 1; have fh1 := rb.frozen 1; simp only [List.getElem?_toArray, List.getElem?_cons_zero, List.getElem?_cons_succ] at h0 h1
    clear rb
    go_wp2_with fail
    refine Calls.mono (slots_cell B X.t X.ph X.pi X.b X.n X.lh X.fh X.li X.fi X.sh X.si X.f w0 _ _ ca cg (PM.toS.1 S4.out)) ?_
    rintro e w5 ⟨v2, p0, rfl, q1, q2⟩
    have S5 := Lib.hid (PM.toS.2 q2)
    have QC := Lib.hid q1
    clear q1 q2 S4 h0 h1
    have rb : Blk w5 b8 27 #[.int .i64 ca, .int .i64 cg] := S5.out.at_ 21 rfl
    have h0 := rb.cell 0; have fh0 := rb.frozen 0; have h1 := rb.cell 1; have fh1 := rb.frozen 1; simp only [List.getElem?_toArray, List.getElem?_cons_zero, List.getElem?_cons_succ] at h0 h1
    clear rb
    go_wp2_with fail
    refine Calls.mono (slots_of B X.t X.ph X.pi X.b X.n X.lh X.fh X.li X.fi X.sh X.si X.f w0 _ _ ca cg (PM.toS.1 S5.out)) ?_
    rintro e w6 ⟨v3, o0, rfl, q1, q2⟩
    obtain ⟨rfl, rfl, hit⟩ := HI.out.item_get QI.out QC.out q1
    have HIT := Lib.hid hit
    have S6 := Lib.hid (led_new (A := X.mem) (C := _) (T := 27) (cs := #[.int .i64 v3.b, .int .i64 v3.c]) (PM.toS.2 q2))
    clear q1 q2 S5 h0 h1 QC QI hit
    go_upto_region 8 with fail
    generalize w6.alloc (.cells #[.int .i64 v3.b, .int .i64 v3.c] 27) = w7 at S6 ⊢
    generalize w6.heap.size = b21 at S6 ⊢
    go_cut [144] (fun s wx => s = .bool false ∧ Hid (Led B w0 wx (X.mem ++ es)))
    case first =>
      by_cases he : o0 = 0
      · obtain ⟨q, n2, rfl, hq, hn2, k1, k2, k3⟩ := HIT.out he
        subst he
        have hq2 : q < X.inn.length := (List.getElem?_eq_some_iff.1 k2).1
        obtain ⟨gc, hgc, _⟩ := hAc (by omega)
        obtain ⟨gi, hgi, _⟩ := hAi (by omega)
        obtain ⟨gf, hgf, _⟩ := hAf (by omega)
        rw [hgc] at hvc
        rw [hgi] at hvi
        rw [hgf] at hvf
        have m5 := pm5 S6.out
        have m6 := pm6 S6.out
        have m7 := pm7 S6.out
        have hK := pmC S6.out
        have hR2 := pmI S6.out
        have hN := pmF S6.out
        rw [hvc] at m6 hK
        rw [hvi] at m7 hR2
        rw [hvf] at m5 hN
        have y0 := int_cell hK k1
        have y1 := int_cell hR2 k2
        have y2 : w7.cell? ⟨gf, n2 * 2, none⟩ = some (.int .i64 v3.b) := hN.cell (j := 0) (r := [.int .i64 v3.b, .int .i64 v3.c]) (by rw [rowsR, List.getElem?_map, k3]; rfl) rfl
        have y3 : w7.cell? ⟨gf, n2 * 2 + 1, none⟩ = some (.int .i64 v3.c) := hN.cell (j := 1) (r := [.int .i64 v3.b, .int .i64 v3.c]) (by rw [rowsR, List.getElem?_map, k3]; rfl) rfl
        have s1 : (0 : Int) ≤ (q : Int) := by omega
        have s2 : (q : Int) < X.cl.length := by omega
        have s3 : (q : Int) < X.inn.length := by omega
        have s4 : (0 : Int) ≤ (n2 : Int) := by omega
        have s5 : (n2 : Int) < X.rf.length := by omega
        have rb : Blk w7 b21 27 #[.int .i64 v3.b, .int .i64 v3.c] := S6.out.at_ 21 rfl
        have h0 := rb.cell 0; have fh0 := rb.frozen 0; have h1 := rb.cell 1; have fh1 := rb.frozen 1; simp only [List.getElem?_toArray, List.getElem?_cons_zero, List.getElem?_cons_succ] at h0 h1
        have rq := ref_neq
        have hre : refEq v3.b v3.c v3.b v3.c = true := refEq_true.2 ⟨rfl, rfl⟩
        clear hK hR2 hN k1 k2 k3 rb
        go_quiet (fail)
        go_wp2_with fail
        go_meet
        case rel => exact ⟨rfl, Lib.hid ((led_cut (A := X.mem) (M := [_, _, _]) (C := es) S6.out).drewN _)⟩
      · have hd : ((o0 : Int) == 0) = false := by rw [beq_eq_false_iff_ne]; exact he
        go_quiet (fail)
        go_wp2_with fail
        go_meet
        case rel => exact ⟨rfl, Lib.hid ((led_cut (A := X.mem) (M := [_, _, _]) (C := es) S6.out).drewN _)⟩
    case rest =>
      clear S6 HIT
      obtain ⟨rfl, S6⟩ := hcut
      obtain ⟨y, hy⟩ : ∃ y, (X.f c).getD (0, 0) = y := ⟨_, rfl⟩
      obtain ⟨qb, hqb⟩ : ∃ q, (X.f c).isSome = q := ⟨_, rfl⟩
      have HA1 := Lib.hid (slots_at B X.t X.ph X.pi X.b X.n X.lh X.fh X.li X.fi X.sh X.si X.f w0 wc _ c HC.out (PM.toS.1 S6.out))
      have HA2 := Lib.hid (fun W es2 (h : Led B w0 W (X.mem ++ es2)) => pl_at B k X c w0 W es2 HI.out h)
      rw [hy, hqb] at HA1 HA2
      clear hy hqb
      go_wp2_with fail
      refine Calls.mono HA1.out ?_
      rintro e w8 ⟨rfl, q2⟩
      have S8 := Lib.hid (led_new (A := X.mem) (C := es) (T := 27) (cs := #[.int .i64 y.1, .int .i64 y.2]) (PM.toS.2 q2))
      clear q2 S6
      go_upto_region 11 with fail
      generalize w8.alloc (.cells #[.int .i64 y.1, .int .i64 y.2] 27) = w9 at S8 ⊢
      generalize w8.heap.size = b23 at S8 ⊢
      go_wp2_with fail
      refine Calls.mono (HA2.out _ _ S8.out) ?_
      rintro e w10 ⟨rfl, q2⟩
      have S10 := Lib.hid (led_new (A := X.mem) (C := _) (T := 27) (cs := #[.int .i64 y.1, .int .i64 y.2]) q2)
      clear q2 S8
      go_upto_region 12 with fail
      generalize w10.alloc (.cells #[.int .i64 y.1, .int .i64 y.2] 27) = w11 at S10 ⊢
      generalize w10.heap.size = b25 at S10 ⊢
      have rq := ref_eql
      have hre : refEq y.1 y.2 y.1 y.2 = true := refEq_true.2 ⟨rfl, rfl⟩
      have HF : Hid (∀ W, Led B w0 W (X.mem ++ blkE b25 27 #[.int .i64 y.1, .int .i64 y.2] :: blkE b23 27 #[.int .i64 y.1, .int .i64 y.2] :: es) → W.cell? ⟨b23, 0, none⟩ = some (.int .i64 y.1) ∧ W.cell? ⟨b23, 1, none⟩ = some (.int .i64 y.2) ∧ W.cell? ⟨b25, 0, none⟩ = some (.int .i64 y.1) ∧ W.cell? ⟨b25, 1, none⟩ = some (.int .i64 y.2) ∧ W.cell? ⟨X.m, 0, none⟩ = some (.pointer (some ⟨X.mh, 0, none⟩)) ∧ W.cell? ⟨X.m, 1, none⟩ = some (.pointer (some ⟨X.mi, 0, none⟩))) :=
        Lib.hid fun W h => have b := (show Blk W b23 27 #[.int .i64 y.1, .int .i64 y.2] from h.at_ 22 rfl); have d := (show Blk W b25 27 #[.int .i64 y.1, .int .i64 y.2] from h.at_ 21 rfl); ⟨b.cell 0, b.cell 1, d.cell 0, d.cell 1, pm0 h, pm1 h⟩
      have HS : Hid (∀ W, Chg [] w11 W → W.cell? ⟨b23, 0, none⟩ = some (.int .i64 y.1) ∧ W.cell? ⟨b23, 1, none⟩ = some (.int .i64 y.2) ∧ W.cell? ⟨b25, 0, none⟩ = some (.int .i64 y.1) ∧ W.cell? ⟨b25, 1, none⟩ = some (.int .i64 y.2) ∧ W.cell? ⟨X.m, 0, none⟩ = some (.pointer (some ⟨X.mh, 0, none⟩)) ∧ W.cell? ⟨X.m, 1, none⟩ = some (.pointer (some ⟨X.mi, 0, none⟩))) := Lib.hid fun W hW => HF.out W (S10.out.later (hW.below (by simp) (Nat.le_refl _)))
      have HH := Lib.hid (fun W (h : Led B w0 W (X.mem ++ blkE b25 27 #[.int .i64 y.1, .int .i64 y.2] :: blkE b23 27 #[.int .i64 y.1, .int .i64 y.2] :: es)) => slots_heaps B X.t X.ph X.pi X.b X.n X.lh X.fh X.li X.fi X.sh X.si X.f w0 W _ (PM.toS.1 h))
      have HI2 := Lib.hid (fun W (h : Led B w0 W (X.mem ++ blkE b25 27 #[.int .i64 y.1, .int .i64 y.2] :: blkE b23 27 #[.int .i64 y.1, .int .i64 y.2] :: es)) => slots_items B X.t X.ph X.pi X.b X.n X.lh X.fh X.li X.fi X.sh X.si X.f w0 W _ (PM.toS.1 h))
      simp only [HNH.out] at HH
      simp only [HNI.out] at HI2
      have hle := allTo_le X.rh.l X.rh.l.length
      have hle2 := allTo_le X.ri.l X.ri.l.length
      have HALL : Hid (∀ (p r : Nat), ((p = X.mh ∧ r = (allTo X.rh.l X.rh.l.length).length) ∨ (p = X.mi ∧ r = (allTo X.ri.l X.ri.l.length).length)) → ∀ W, Led B w0 W (X.mem ++ blkE b25 27 #[.int .i64 y.1, .int .i64 y.2] :: blkE b23 27 #[.int .i64 y.1, .int .i64 y.2] :: es) → Calls Try.prog 48 #[.pointer (some ⟨p, 0, none⟩)] W fun e w' => ∃ A c, e = .returned (.slice A r c) ∧ r ≤ c ∧ Led B w0 w' (X.mem ++ blkE b25 27 #[.int .i64 y.1, .int .i64 y.2] :: blkE b23 27 #[.int .i64 y.1, .int .i64 y.2] :: es)) := by
        refine Lib.hid fun p r hp W h => ?_
        rcases hp with ⟨rfl, rfl⟩ | ⟨rfl, rfl⟩
        · refine Calls.mono (ref_all B X.mh X.hg X.hi X.hv X.hb X.rh w0 W _ (PM.toH.1 h) hm2) ?_
          rintro e w13 ⟨v5, rfl, q1⟩
          have hTT : TabIs w13 0 27 2 v5 (rowsR (allTo X.rh.l X.rh.l.length)) := q1.at_ 0 rfl
          obtain ⟨At, ct, rfl, hct, _⟩ := hTT.form
          have hrl : (rowsR (allTo X.rh.l X.rh.l.length)).length = (allTo X.rh.l X.rh.l.length).length := by rw [rowsR, List.length_map]
          rw [hrl] at hct ⊢
          exact ⟨At, ct, rfl, hct, PM.toH.2 (q1.sub (List.sublist_cons_self _ _))⟩
        · refine Calls.mono (ref_all B X.mi X.ig X.ii X.iv X.ib X.ri w0 W _ (PM.toI.1 h) hm1) ?_
          rintro e w13 ⟨v5, rfl, q1⟩
          have hTT : TabIs w13 0 27 2 v5 (rowsR (allTo X.ri.l X.ri.l.length)) := q1.at_ 0 rfl
          obtain ⟨At, ct, rfl, hct, _⟩ := hTT.form
          have hrl : (rowsR (allTo X.ri.l X.ri.l.length)).length = (allTo X.ri.l X.ri.l.length).length := by rw [rowsR, List.length_map]
          rw [hrl] at hct ⊢
          exact ⟨At, ct, rfl, hct, PM.toI.2 (q1.sub (List.sublist_cons_self _ _))⟩
      generalize (allTo X.rh.l X.rh.l.length).length = nh at *
      generalize (allTo X.ri.l X.ri.l.length).length = ni at *
      go_region_held3 (fun wx => wx.cell? ⟨b23, 0, none⟩ = some (.int .i64 y.1) ∧ wx.cell? ⟨b23, 1, none⟩ = some (.int .i64 y.2) ∧ wx.cell? ⟨b25, 0, none⟩ = some (.int .i64 y.1) ∧ wx.cell? ⟨b25, 1, none⟩ = some (.int .i64 y.2) ∧ wx.cell? ⟨X.m, 0, none⟩ = some (.pointer (some ⟨X.mh, 0, none⟩)) ∧ wx.cell? ⟨X.m, 1, none⟩ = some (.pointer (some ⟨X.mi, 0, none⟩))) (first | (refine HS.out _ ?_; (repeat' first | with_reducible exact Chg.refl _ _ | with_reducible refine Chg.drew ?_ | with_reducible refine Chg.drewN ?_ _ | with_reducible refine Chg.alloc ?_ _ | with_reducible refine Chg.setCell ?_ ?_ _ | (left; simp; done) | (right; exact Nat.le_refl _) | (right; dsimp only; omega)); done) | (refine HS2.out _ ?_; (repeat' first | with_reducible exact Chg.refl _ _ | with_reducible refine Chg.drew ?_ | with_reducible refine Chg.drewN ?_ _ | with_reducible refine Chg.alloc ?_ _ | with_reducible refine Chg.setCell ?_ ?_ _ | (left; simp; done) | (right; exact Nat.le_refl _) | (right; dsimp only; omega)); done) | (refine HS3.out _ ?_; (repeat' first | with_reducible exact Chg.refl _ _ | with_reducible refine Chg.drew ?_ | with_reducible refine Chg.drewN ?_ _ | with_reducible refine Chg.alloc ?_ _ | with_reducible refine Chg.setCell ?_ ?_ _ | (left; simp; done) | (right; exact Nat.le_refl _) | (right; dsimp only; omega)); done) | (refine HS4.out _ ?_; (repeat' first | with_reducible exact Chg.refl _ _ | with_reducible refine Chg.drew ?_ | with_reducible refine Chg.drewN ?_ _ | with_reducible refine Chg.alloc ?_ _ | with_reducible refine Chg.setCell ?_ ?_ _ | (left; simp; done) | (right; exact Nat.le_refl _) | (right; dsimp only; omega)); done) | (refine HS5.out _ ?_; (repeat' first | with_reducible exact Chg.refl _ _ | with_reducible refine Chg.drew ?_ | with_reducible refine Chg.drewN ?_ _ | with_reducible refine Chg.alloc ?_ _ | with_reducible refine Chg.setCell ?_ ?_ _ | (left; simp; done) | (right; exact Nat.le_refl _) | (right; dsimp only; omega)); done)) (first | (go_at_call 19; refine Calls.mono (HH.out _ S10.out.drew) ?_; rintro e w12 ⟨rfl, k1, rfl⟩; have S12 := Lib.hid (S10.out.drewN (1 + k1)); have HS2 : Hid (∀ W, Chg [] (w11.drewN (1 + k1)) W → W.cell? ⟨b23, 0, none⟩ = some (.int .i64 y.1) ∧ W.cell? ⟨b23, 1, none⟩ = some (.int .i64 y.2) ∧ W.cell? ⟨b25, 0, none⟩ = some (.int .i64 y.1) ∧ W.cell? ⟨b25, 1, none⟩ = some (.int .i64 y.2) ∧ W.cell? ⟨X.m, 0, none⟩ = some (.pointer (some ⟨X.mh, 0, none⟩)) ∧ W.cell? ⟨X.m, 1, none⟩ = some (.pointer (some ⟨X.mi, 0, none⟩))) := Lib.hid (fun W hW => HF.out W (S12.out.later (hW.below (by simp) (Nat.le_refl _))))) | (go_at_call 18; refine Calls.mono (HI2.out _ S13.out) ?_; rintro e w14 ⟨rfl, k2, rfl⟩; have S14 := Lib.hid (S13.out.drewN k2); have HS4 : Hid (∀ W, Chg [] (w13.drewN k2) W → W.cell? ⟨b23, 0, none⟩ = some (.int .i64 y.1) ∧ W.cell? ⟨b23, 1, none⟩ = some (.int .i64 y.2) ∧ W.cell? ⟨b25, 0, none⟩ = some (.int .i64 y.1) ∧ W.cell? ⟨b25, 1, none⟩ = some (.int .i64 y.2) ∧ W.cell? ⟨X.m, 0, none⟩ = some (.pointer (some ⟨X.mh, 0, none⟩)) ∧ W.cell? ⟨X.m, 1, none⟩ = some (.pointer (some ⟨X.mi, 0, none⟩))) := Lib.hid (fun W hW => HF.out W (S14.out.later (hW.below (by simp) (Nat.le_refl _))))) | (go_at_call 48; refine Calls.mono (HALL.out _ _ (by first | exact .inl ⟨rfl, rfl⟩ | exact .inr ⟨rfl, rfl⟩) _ S14.out) ?_; rintro e w15 ⟨At2, ct2, rfl, hct2, q1⟩; have S15 := Lib.hid q1; have HS5 : Hid (∀ W, Chg [] w15 W → W.cell? ⟨b23, 0, none⟩ = some (.int .i64 y.1) ∧ W.cell? ⟨b23, 1, none⟩ = some (.int .i64 y.2) ∧ W.cell? ⟨b25, 0, none⟩ = some (.int .i64 y.1) ∧ W.cell? ⟨b25, 1, none⟩ = some (.int .i64 y.2) ∧ W.cell? ⟨X.m, 0, none⟩ = some (.pointer (some ⟨X.mh, 0, none⟩)) ∧ W.cell? ⟨X.m, 1, none⟩ = some (.pointer (some ⟨X.mi, 0, none⟩))) := Lib.hid (fun W hW => HF.out W (S15.out.later (hW.below (by simp) (Nat.le_refl _)))); clear q1) | (go_at_call 48; refine Calls.mono (HALL.out _ _ (by first | exact .inl ⟨rfl, rfl⟩ | exact .inr ⟨rfl, rfl⟩) _ S12.out) ?_; rintro e w13 ⟨At, ct, rfl, hct, q1⟩; have S13 := Lib.hid q1; have HS3 : Hid (∀ W, Chg [] w13 W → W.cell? ⟨b23, 0, none⟩ = some (.int .i64 y.1) ∧ W.cell? ⟨b23, 1, none⟩ = some (.int .i64 y.2) ∧ W.cell? ⟨b25, 0, none⟩ = some (.int .i64 y.1) ∧ W.cell? ⟨b25, 1, none⟩ = some (.int .i64 y.2) ∧ W.cell? ⟨X.m, 0, none⟩ = some (.pointer (some ⟨X.mh, 0, none⟩)) ∧ W.cell? ⟨X.m, 1, none⟩ = some (.pointer (some ⟨X.mi, 0, none⟩))) := Lib.hid (fun W hW => HF.out W (S13.out.later (hW.below (by simp) (Nat.le_refl _)))); clear q1))
      go_wp2_with fail
      exact hR.out _ _ ⟨rfl, led_cut (A := X.mem) (M := [_, _]) (C := es) S15.out⟩
end Go.Proofs.Ytognmhgdegpdiaa
