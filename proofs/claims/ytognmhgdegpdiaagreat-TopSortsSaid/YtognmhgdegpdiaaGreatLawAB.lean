import Derived.Test.YtognmhgdegpdiaaGreatPqJM
import Derived.Test.YtognmhgdegpdiaaGreatPoolER
import Derived.Test.YtognmhgdegpdiaaGreatBook
import Derived.Test.YtognmhgdegpdiaaGreatTopRW
section
/- The statements' helpers: awake, kinds. -/
namespace Go.Proofs.YtognmhgdegpdiaaGreat
open Go.RowKit
set_option linter.unusedVariables false
set_option linter.unusedSimpArgs false
set_option maxRecDepth 100000
theorem led_start (w : World) : Led w.heap.size w w [] := ⟨bel_refl w, Nat.le_refl _, by simp, by simp, List.Pairwise.nil⟩
theorem kind_worst (k : Int) (w : World) : Calls Tryz.prog 48 #[.int .i64 k] w fun e w' => e = .returned (.bool (decide (1 ≤ k) && decide (k ≤ 3))) ∧ w' = w := by
  refine callsR fun R hR => ?_
  go_enter Tryz.func48, Tryz.ntmps48
  cases h1 : decide (1 ≤ k) with
  | true =>
    go_wp2_with fail
    exact hR.out _ _ ⟨by rw [h1]; rfl, rfl⟩
  | false =>
    go_wp2_with fail
    exact hR.out _ _ ⟨by rw [h1]; rfl, rfl⟩
theorem bound_awake (w : World) : Calls Tryz.prog 22 #[.int .i64 1, .int .i64 1, .int .i64 0] w fun e w' => e = .returned (.int .i64 500) ∧ w' = w := by
  refine callsR fun R hR => ?_
  go_enter Tryz.func22, Tryz.ntmps22
  go_wp2_with (first | (go_at_call 46; refine Calls.mono (kind_right _ _) ?_; rintro e w' ⟨rfl, rfl⟩) | (go_at_call 48; refine Calls.mono (kind_worst _ _) ?_; rintro e w' ⟨rfl, rfl⟩))
  exact hR.out _ _ ⟨rfl, rfl⟩
theorem top_kinds (k : Int) (w : World) (hk : -9223372036854775808 ≤ k ∧ k ≤ 9223372036854775807) : Calls Tryz.prog 10 #[.int .i64 k] w fun e w' => e = .returned (.int .i64 (within k 1 5)) ∧ w = w' := by
  refine callsR fun R hR => ?_
  go_enter Tryz.func10, Tryz.ntmps10
  go_wp2_with (first | (go_at_call 14; refine Calls.mono (within_any k 1 5 _ (by decide) (by decide) (by decide) hk.1 hk.2) ?_; rintro e w' ⟨rfl, rfl⟩))
  exact hR.out _ _ ⟨rfl, rfl⟩
set_option maxHeartbeats 4000000 in
theorem top_awake (w : World) : Calls Tryz.prog 13 #[] w fun e w' => e = .returned (.bool true) ∧ Below w.heap.size w w' := by
  have rq := ref_eql
  have H0 := Lib.hid (led_start w)
  refine callsR fun R hR => ?_
  go_enter Tryz.func13, Tryz.ntmps13
  go_wp2_with fail
  refine Calls.mono (q_new 2 (by decide) (by decide) H0.out) ?_
  rintro e w1 ⟨m, rfl, h'⟩
  have H := Lib.hid h'
  clear h'
  go_wp2_with fail
  refine Calls.mono (q_make 1 0 0 0 0 0 0 0 (QInv.start (by decide) (by decide)) (by decide) (by decide) (fun i x hx => by simp [QS.start] at hx) H.out) ?_
  rintro e w2 ⟨Q, i, g, rfl, h', q, _, _, hser, hit, _⟩
  have hit2 : Q.items = 2 := hit
  have hser2 := Lib.hid (show Q.serial = 0 from hser)
  clear hser hit
  have S := Lib.hid (led_new (T := 38) (cs := #[.int .i64 0, .int .i64 (i : Int), .int .i64 g, .int .i64 0, .int .i64 0, .int .i64 0, .int .i64 0, .int .i64 0]) h')
  clear h' H
  go_upto_region 5 with fail
  obtain ⟨hb, hhb⟩ : ∃ hb, w2.heap.size = hb := ⟨_, rfl⟩
  rw [hhb] at S ⊢
  generalize w2.alloc (.cells #[.int .i64 0, .int .i64 (i : Int), .int .i64 g, .int .i64 0, .int .i64 0, .int .i64 0, .int .i64 0, .int .i64 0] 38) = wa at S ⊢
  clear hhb
  have zb : Blk wa hb 38 #[.int .i64 0, .int .i64 (i : Int), .int .i64 g, .int .i64 0, .int .i64 0, .int .i64 0, .int .i64 0, .int .i64 0] := S.out.at_ 10 rfl
  have lzb := zb.lt
  obtain ⟨z0, z1, z2, z3, z4, z5, z6, z7, fz0, fz1, fz2, fz3, fz4, fz5, fz6, fz7⟩ := zb.c8
  clear zb
  go_wp2_with fail
  refine Calls.mono (q_insert (h := ⟨i, ⟨g, true, ⟨1, -1, 0⟩⟩, [], []⟩) 0 0 0 0 0 5 q (by rw [hit2]; show ((0 : Nat) : Int) < 2; decide) (by rw [hser2.out]; decide) S.out) ?_
  rintro e w3 ⟨Q2, h2, i2, g2, c2, rfl, h', q2, a1, a2, a3, a4, a5, a6, _⟩
  clear z0 fz0 z1 fz1 z2 fz2 z3 fz3 z4 fz4 z5 fz5 z6 fz6 z7 fz7 lzb
  have A4 := Lib.hid a4
  have A1 := Lib.hid (show h2.at_ = i from a1)
  have A2 := Lib.hid (show h2.x.gen = g from a2)
  clear a1 a2 a3 a4
  have S2 := Lib.hid (led_new (T := 38) (cs := #[.int .i64 0, .int .i64 0, .int .i64 0, .int .i64 (i2 : Int), .int .i64 g2, .int .i64 5, .int .i64 Q.serial, .int .i64 0]) h')
  clear h' S
  go_upto_region 6 with fail
  obtain ⟨ib, hib⟩ : ∃ ib, w3.heap.size = ib := ⟨_, rfl⟩
  rw [hib] at S2 ⊢
  generalize w3.alloc (.cells #[.int .i64 0, .int .i64 0, .int .i64 0, .int .i64 (i2 : Int), .int .i64 g2, .int .i64 5, .int .i64 Q.serial, .int .i64 0] 38) = wb at S2 ⊢
  clear hib
  have zb : Blk wb hb 38 #[.int .i64 0, .int .i64 (i : Int), .int .i64 g, .int .i64 0, .int .i64 0, .int .i64 0, .int .i64 0, .int .i64 0] := S2.out.at_ 11 rfl
  have lzb := zb.lt
  obtain ⟨z0, z1, z2, z3, z4, z5, z6, z7, fz0, fz1, fz2, fz3, fz4, fz5, fz6, fz7⟩ := zb.c8
  clear zb
  go_wp2_with fail
  rw [← A1.out, ← A2.out]
  refine Calls.mono (q_findmin (h := h2) 0 0 0 0 0 0 q2 (by rw [A4.out]; simp) S2.out) ?_
  rintro e w4 ⟨Q3, r, I', rfl, h', q3, b1, b2, _⟩
  clear z0 fz0 z1 fz1 z2 fz2 z3 fz3 z4 fz4 z5 fz5 z6 fz6 z7 fz7 lzb
  have er : r = ⟨i2, g2, c2, 5, Q.serial⟩ := by have h1 : r ∈ h2.I := b1.mem_iff.2 (by simp); rw [A4.out] at h1; simpa using h1
  subst er
  have S3 := Lib.hid (led_new (T := 38) (cs := #[.int .i64 0, .int .i64 0, .int .i64 0, .int .i64 (i2 : Int), .int .i64 g2, .int .i64 5, .int .i64 Q.serial, .int .i64 0]) h')
  clear h' S2
  go_upto_region 7 with fail
  obtain ⟨mb, hmb⟩ : ∃ mb, w4.heap.size = mb := ⟨_, rfl⟩
  rw [hmb] at S3 ⊢
  generalize w4.alloc (.cells #[.int .i64 0, .int .i64 0, .int .i64 0, .int .i64 (i2 : Int), .int .i64 g2, .int .i64 5, .int .i64 Q.serial, .int .i64 0] 38) = wc at S3 ⊢
  clear hmb
  have zb : Blk wc hb 38 #[.int .i64 0, .int .i64 (i : Int), .int .i64 g, .int .i64 0, .int .i64 0, .int .i64 0, .int .i64 0, .int .i64 0] := S3.out.at_ 12 rfl
  have lzb := zb.lt
  obtain ⟨z0, z1, z2, z3, z4, z5, z6, z7, fz0, fz1, fz2, fz3, fz4, fz5, fz6, fz7⟩ := zb.c8
  clear zb
  have yb : Blk wc ib 38 #[.int .i64 0, .int .i64 0, .int .i64 0, .int .i64 (i2 : Int), .int .i64 g2, .int .i64 5, .int .i64 Q.serial, .int .i64 0] := S3.out.at_ 11 rfl
  have lyb := yb.lt
  obtain ⟨y0, y1, y2, y3, y4, y5, y6, y7, fy0, fy1, fy2, fy3, fy4, fy5, fy6, fy7⟩ := yb.c8
  clear yb
  have xb : Blk wc mb 38 #[.int .i64 0, .int .i64 0, .int .i64 0, .int .i64 (i2 : Int), .int .i64 g2, .int .i64 5, .int .i64 Q.serial, .int .i64 0] := S3.out.at_ 10 rfl
  have lxb := xb.lt
  obtain ⟨x0, x1, x2, x3, x4, x5, x6, x7, fx0, fx1, fx2, fx3, fx4, fx5, fx6, fx7⟩ := xb.c8
  clear xb
  have hre : refEq (i2 : Int) g2 i2 g2 = true := by simp [refEq]
  go_wp2_with (first | (go_at_call 22; refine Calls.mono (bound_awake _) ?_; rintro e w9 ⟨rfl, rfl⟩))
  exact hR.out _ _ ⟨rfl, S3.out.be⟩
end Go.Proofs.YtognmhgdegpdiaaGreat
end
section
/- The statements' helper: queues with heaps. -/
namespace Go.Proofs.YtognmhgdegpdiaaGreat
open Go.RowKit
open Go.Maps (Keyed)
set_option linter.unusedVariables false
set_option linter.unusedSimpArgs false
set_option maxRecDepth 100000
def href (h : HR) : Int × Int := ((h.at_ : Int), h.x.gen)
structure Made (k items : Int) (Q : QS) (L : List HR) : Prop where
  q : QInv Q L []
  em : ∀ h ∈ L, h.I = [] ∧ h.x.v.a = k
  fr : Q.sh.free = []
  g1 : ∀ (i : Nat) (x : Pl V3), Q.sh.l[i]? = some x → x.gen = 1
  ser : Q.serial = 0
  it : Q.items = items
theorem Made.start {k items : Int} (h1 : 1 ≤ items) (h2 : items ≤ 300) : Made k items (QS.start items) [] := ⟨QInv.start h1 h2, by simp, rfl, fun i x hx => by simp [QS.start] at hx, rfl, rfl⟩
section
variable {B : Nat} {w0 w : World} {C : List Ent}
set_option maxHeartbeats 8000000 in
theorem top_queues (items k : Int) (n : Nat) (h1 : 1 ≤ items) (h2 : items ≤ 300) (hk : 1 ≤ k ∧ k ≤ 5) (hn : n ≤ 60) (h : Led B w0 w C) :
    Calls Tryz.prog 9 #[.int .i64 items, .int .i64 k, .int .i64 (n : Int)] w fun e w' => ∃ (m : QM) (v : Value) (Q : QS) (L : List HR), e = .returned (.tuple #[.pointer (some ⟨m.q, 0, none⟩), v]) ∧ Made k items Q L ∧ L.length = n ∧ Led B w0 w' (Q.es m ++ pT 34 v (L.reverse.map href) :: C) := by
  have H0 := Lib.hid h
  clear h
  have HN := Lib.hid hn
  have HK := Lib.hid hk
  clear hn hk
  refine callsR fun R hR => ?_
  go_enter Tryz.func9, Tryz.ntmps9
  go_wp2_with fail
  refine Calls.mono (q_new items h1 h2 H0.out) ?_
  rintro e w1 ⟨m, rfl, h'⟩
  have H := Lib.hid (pT_new (T := 34) h')
  clear h' H0
  go_wp2_with fail
  go_loopw [10, 11] (fun x y wx => ∃ (j : Nat) (Q : QS) (L : List HR), y = .int .i64 (j : Int) ∧ j ≤ n ∧ L.length = j ∧ lenV x = j ∧ Made k items Q L ∧ Hid (Led B w0 wx (Q.es m ++ pT 34 x (L.reverse.map href) :: C))) (fun x _ _ => n - lenV x)
  case atStart => exact ⟨0, QS.start items, [], rfl, Nat.zero_le _, rfl, rfl, Made.start h1 h2, H⟩
  case round =>
    clear H
    obtain ⟨j, Q, L, rfl, hj, hL, hv, M, H⟩ := hrel
    have HM := Lib.hid M
    clear M
    have HT := Lib.hid (pT_tab H.out)
    obtain ⟨A, c, hvs, _⟩ := pT_form HT.out
    have hlen : (List.map href L.reverse).length = j := by simp [hL]
    rw [hlen] at hvs
    subst hvs
    clear HT
    by_cases hlt : j < n
    · have g1 : decide ((j : Int) < (n : Int)) = true := by simp; omega
      go_wp2_with fail
      refine Calls.mono (q_make k 0 0 0 0 0 0 0 HM.out.q HK.out (by have := HN.out; omega) (fun i x hx => by rw [HM.out.g1 i x hx]; decide) H.out) ?_
      rintro e w2 ⟨Q', i, g, rfl, h', q', hg, _, hser, hit, hfr, _⟩
      have M' : Hid (Made k items Q' (⟨i, ⟨g, true, ⟨k, -1, 0⟩⟩, [], []⟩ :: L)) := Lib.hid ⟨q', fun f hf => (List.mem_cons.1 hf).elim (fun e => by rw [e]; exact ⟨rfl, rfl⟩) (HM.out.em f), (hfr HM.out.fr).1, fun a x hx => by rcases (hfr HM.out.fr).2.2 a x hx with ⟨y, hy, e⟩ | e; rw [← e]; exact HM.out.g1 a y hy; exact e, hser.trans HM.out.ser, hit.trans HM.out.it⟩
      clear q' hg hser hit hfr
      have S := Lib.hid (led_new (A := Q'.es m ++ [pT 34 _ _]) (C := C) (T := 38) (cs := #[.int .i64 0, .int .i64 (i : Int), .int .i64 g, .int .i64 0, .int .i64 0, .int .i64 0, .int .i64 0, .int .i64 0]) (by rw [List.append_assoc]; exact h'))
      clear h' H HM
      go_upto_region 9 with fail
      obtain ⟨ab, hab⟩ : ∃ ab, w2.heap.size = ab := ⟨_, rfl⟩
      rw [hab] at S ⊢
      generalize w2.alloc (.cells #[.int .i64 0, .int .i64 (i : Int), .int .i64 g, .int .i64 0, .int .i64 0, .int .i64 0, .int .i64 0, .int .i64 0] 38) = wa at S ⊢
      clear hab
      have S2 : Hid (Led B w0 wa (Q'.es m ++ pT 34 (.slice A j c) (L.reverse.map href) :: blkE (ab) 38 #[.int .i64 0, .int .i64 (i : Int), .int .i64 g, .int .i64 0, .int .i64 0, .int .i64 0, .int .i64 0, .int .i64 0] :: C)) := Lib.hid (by have := S.out; rw [List.append_assoc] at this; exact this)
      clear S
      have zb : Blk wa ab 38 #[.int .i64 0, .int .i64 (i : Int), .int .i64 g, .int .i64 0, .int .i64 0, .int .i64 0, .int .i64 0, .int .i64 0] := S2.out.at_ 11 rfl
      have lzb := zb.lt
      obtain ⟨z0, z1, z2, z3, z4, z5, z6, z7, fz0, fz1, fz2, fz3, fz4, fz5, fz6, fz7⟩ := zb.c8
      clear zb
      have S2a := Lib.hid (S2.out.alloc (.cells #[.int .i64 (i : Int), .int .i64 g] 34))
      have hln : (pR (L.reverse.map href)).length ≤ 1000000000 := by rw [pR_len]; simp; have := HN.out; omega
      have hwj : IntKind.i64.wrap ((j : Int) + 1) = ((j + 1 : Nat) : Int) := by have := HN.out; rw [IntKind.wrap_i64]; omega
      go_wp2_with (first | (at_builtin; refine wpList_push (by rfl) (.tmp 36) (.tmp 39) 24 (by rfl) 0 34 _ 2 16 Tryz.underlying24 info_ref_ (by rfl) (by decide) (.slice A j c) (pR (L.reverse.map href)) #[.int .i64 (i : Int), .int .i64 g] (by rfl) (pT_tab S2.out) (by rfl) (by rfl) (by simp [Value.oneCell']) hln (by decide) (Nat.zero_le _) ?_; intro v' w' p1 p2 p3; have S3 := Lib.hid (pT_push S2.out p1 p2 p3); obtain ⟨A', c', hv', _⟩ := p1.form; simp only [List.length_append, List.length_singleton, pR_len] at hv'; rw [hlen] at hv'; subst hv'; clear p1 p2 p3))
      go_roundw
      case rel => exact ⟨j + 1, Q', ⟨i, ⟨g, true, ⟨k, -1, 0⟩⟩, [], []⟩ :: L, rfl, hlt, by simp [hL], by simp [lenV, hL], M'.out, by have := led_drop (A := Q'.es m ++ [pT 34 _ _]) (C := C) (by rw [List.append_assoc]; exact S3.out); rw [List.append_assoc] at this; simpa [href] using Lib.hid this⟩
      case measure => simp [lenV, hL]; omega
    · have hjn : j = n := by omega
      have g1 : decide ((j : Int) < (n : Int)) = false := by simp; omega
      go_wp2_with fail
      exact hR.out _ _ ⟨m, _, Q, L, rfl, HM.out, by omega, H.out⟩
end
end Go.Proofs.YtognmhgdegpdiaaGreat
end
