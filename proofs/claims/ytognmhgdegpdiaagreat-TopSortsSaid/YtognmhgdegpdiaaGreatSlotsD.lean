import Derived.Test.YtognmhgdegpdiaaGreatSlotsC
/- The table of slots: what each method does; New, Make, Put. -/
namespace Go.Proofs.YtognmhgdegpdiaaGreat
open Go.RowKit
open Go.Maps (Keyed)
set_option linter.unusedVariables false
set_option linter.unusedSimpArgs false
set_option maxRecDepth 100000
theorem slots_new (items : Int) (N : Nat) (B : Nat) (w0 w : World) (es : List Ent) (hl : Led B w0 w es) (hn : (N : Int) = max 1 (min items 16384)) :
    Calls Tryz.prog 55 #[.int .i64 items] w fun e w' => ∃ t ph pi b, e = .returned (.pointer (some ⟨t, 0, none⟩)) ∧ Led B w0 w' (slotEs t ph pi b 0 (.slice none 0 0) (.slice none 0 0) (.slice none 0 0) (.slice none 0 0) ⟨64, [], []⟩ ⟨N, [], []⟩ (fun _ => none) ++ es) := by
  have HL := Lib.hid hl; clear hl
  have HN := Lib.hid hn
  have hmm := @run_makeMap Tryz.prog
  have e2 : max 1 (min items 16384) = (N : Int) := by omega
  clear hn
  refine callsR fun R hR => ?_
  go_enter Tryz.func55, Tryz.ntmps55
  go_wp2_with fail
  refine Calls.mono (pool_new_heap 64 64 _ (by decide)) ?_
  rintro e w1 ⟨p, rfl, q1, q2, q3⟩
  have S1 := Lib.hid (HL.out.add (heapP p (.slice none 0 0) (.slice none 0 0) ⟨64, [], []⟩) q3 q1 (fun b hb => by rcases mem_poolFp.1 hb with rfl | hb | hb; exact q2; simp [Value.ownBlock] at hb; simp [Value.ownBlock] at hb))
  clear q1 q2 q3
  go_wp2_with fail
  refine Calls.mono (pool_new_thing N N _ (by have := HN.out; omega)) ?_
  rintro e w2 ⟨pi, rfl, q1, q2, q3⟩
  have S2 := Lib.hid (S1.out.add (thingP pi (.slice none 0 0) (.slice none 0 0) ⟨N, [], []⟩) q3 q1 (fun b hb => by rcases mem_poolFp.1 hb with rfl | hb | hb; exact q2; simp [Value.ownBlock] at hb; simp [Value.ownBlock] at hb))
  clear q1 q2 q3
  go_wp2_with fail
  have S3 := S2.out.add (mapE intFam w2.heap.size 0 (fun _ => none)) (bel_alloc (bel_refl w2) (.map #[] 0)) (MapIs.made intFam w2) (by simp [mapE])
  have S4 := S3.add (blkE (w2.alloc (.map #[] 0)).heap.size 105 #[.pointer (some ⟨p, 0, none⟩), .pointer (some ⟨pi, 0, none⟩), .map (some w2.heap.size)]) (bel_alloc (bel_refl _) _) (Blk.new _ _ _) (by simp [blkE])
  have S5 : Led B w0 ((w2.alloc (.map #[] 0)).alloc (.cells #[.pointer (some ⟨p, 0, none⟩), .pointer (some ⟨pi, 0, none⟩), .map (some w2.heap.size)] 105)) (slotEs (w2.alloc (.map #[] 0)).heap.size p pi w2.heap.size 0 (.slice none 0 0) (.slice none 0 0) (.slice none 0 0) (.slice none 0 0) ⟨64, [], []⟩ ⟨N, [], []⟩ (fun _ => none) ++ es) :=
    S4.perm (List.Perm.cons _ ((List.Perm.swap _ _ _).trans ((List.Perm.cons _ (List.Perm.swap _ _ _)).trans (List.Perm.swap _ _ _))))
  rw [World.size_alloc] at S5
  exact hR.out _ _ ⟨_, _, _, _, rfl, S5⟩
theorem kind_right (k : Int) (w : World) : Calls Tryz.prog 46 #[.int .i64 k] w fun e w' => e = .returned (.bool (decide (1 ≤ k) && decide (k ≤ 5))) ∧ w' = w := by
  refine callsR fun R hR => ?_
  go_enter Tryz.func46, Tryz.ntmps46
  cases h1 : decide (1 ≤ k) with
  | true =>
    go_wp2_with fail
    exact hR.out _ _ ⟨by simp [h1], rfl⟩
  | false =>
    go_wp2_with fail
    exact hR.out _ _ ⟨by simp [h1], rfl⟩
def MakeR (s : PSt V3) (k a g e0 : Int) (s' : PSt V3) : Prop := ((decide (1 ≤ k) && decide (k ≤ 5)) = false ∧ a = 0 ∧ g = 0 ∧ e0 = 24 ∧ s' = s) ∨ ((decide (1 ≤ k) && decide (k ≤ 5)) = true ∧ ∃ ok, TakeR s ⟨k, -1, 0⟩ a g ok s' ∧ e0 = if ok = true then 0 else 13)
set_option maxHeartbeats 1000000 in
theorem slots_make (B t ph pi b n : Nat) (lh fh li fi : Value) (sh si : PSt V3) (f : Int → Option (Int × Int)) (w0 w : World) (es : List Ent) (k : Int) (h : Led B w0 w (slotEs t ph pi b n lh fh li fi sh si f ++ es)) :
    Calls Tryz.prog 30 #[.pointer (some ⟨t, 0, none⟩), .int .i64 k] w fun e w' => ∃ (a g e0 : Int) (lh' fh' : Value) (sh' : PSt V3), e = .returned (.tuple #[.agg #[.int .i64 a, .int .i64 g], .int .i64 e0]) ∧ MakeR sh k a g e0 sh' ∧ Led B w0 w' (slotEs t ph pi b n lh' fh' li fi sh' si f ++ es) := by
  have S1 := Lib.hid (led_new (A := slotEs t ph pi b n lh fh li fi sh si f) (C := es) (T := 34) (cs := #[.int .i64 0, .int .i64 0]) h)
  clear h
  refine callsR fun R hR => ?_
  go_enter Tryz.func30, Tryz.ntmps30
  go_upto_region 1 with fail
  generalize w.alloc (.cells #[.int .i64 0, .int .i64 0] 34) = wy at S1 ⊢
  have rc : Blk wy w.heap.size 34 #[.int .i64 0, .int .i64 0] := S1.out.at_ 4 rfl
  have l0 := rc.lt
  obtain ⟨r0, r1, fr0, fr1⟩ := rc.c2
  clear rc
  have x0 := slot_t0 S1.out
  go_wp2_with fail
  refine Calls.mono (kind_right k _) ?_
  rintro e w1 ⟨rfl, rfl⟩
  cases hk : decide (1 ≤ k) && decide (k ≤ 5) with
  | false =>
    go_wp2_with fail
    exact bodyPost_ret (v := .tuple #[.agg #[.int .i64 0, .int .i64 0], .int .i64 24]) (by simp [results, Tryz.results30, go_sem, l0, r0, r1]) rfl (hR.out _ _ ⟨0, 0, 24, lh, fh, sh, rfl, .inl ⟨hk, rfl, rfl, rfl, rfl⟩, led_drop (A := slotEs t ph pi b n lh fh li fi sh si f) (led_store2 (A := slotEs t ph pi b n lh fh li fi sh si f) S1.out)⟩)
  | true =>
    go_wp2_with fail
    refine Calls.mono (pool_take_heap ph lh fh sh ⟨k, -1, 0⟩ _ (slotHeaps S1.out)) ?_
    rintro e w2 ⟨a, g, ok, lh', fh', sh', rfl, q1, q2, q3, q4⟩
    have S2 : Hid (Led B w0 w2 (slotEs t ph pi b n lh' fh' li fi sh' si f ++ blkE (w.heap.size) 34 #[.int .i64 0, .int .i64 0] :: es)) := Lib.hid (S1.out.step 1 rfl (heapP ph lh' fh' sh') q3 q2 q4)
    have Q1 := Lib.hid q1
    clear q1 q2 q3 q4 l0 r0 r1 fr0 fr1 x0
    have rc : Blk w2 w.heap.size 34 #[.int .i64 0, .int .i64 0] := S2.out.at_ 4 rfl
    have l0 := rc.lt
    obtain ⟨r0, r1, fr0, fr1⟩ := rc.c2
    clear rc
    cases ok with
    | false =>
      go_wp2_with fail
      exact bodyPost_ret (v := .tuple #[.agg #[.int .i64 0, .int .i64 0], .int .i64 13]) (by simp [results, Tryz.results30, go_sem, l0, r0, r1]) rfl (hR.out _ _ ⟨0, 0, 13, lh', fh', sh', rfl, .inr ⟨hk, false, (by rcases Q1.out with ⟨h1, h2, rfl, rfl, _, h3⟩ | ⟨_, _, _, _, h4, _⟩ | ⟨_, _, _, _, _, _, _, h4, _⟩; exact .inl ⟨h1, h2, rfl, rfl, rfl, h3⟩; cases h4; cases h4), rfl⟩, led_cut (A := slotEs t ph pi b n lh' fh' li fi sh' si f) (M := [_, _]) (C := es) (led_new (A := slotEs t ph pi b n lh' fh' li fi sh' si f ++ [_]) (C := es) (led_store2 (A := slotEs t ph pi b n lh' fh' li fi sh' si f) S2.out))⟩)
    | true =>
      go_wp2_with fail
      exact bodyPost_ret (v := .tuple #[.agg #[.int .i64 a, .int .i64 g], .int .i64 0]) (by simp [results, Tryz.results30, go_sem, l0, r0, r1]) rfl (hR.out _ _ ⟨a, g, 0, lh', fh', sh', rfl, .inr ⟨hk, true, Q1.out, rfl⟩, led_cut (A := slotEs t ph pi b n lh' fh' li fi sh' si f) (M := [_, _]) (C := es) (led_new (A := slotEs t ph pi b n lh' fh' li fi sh' si f ++ [_]) (C := es) (led_store2 (A := slotEs t ph pi b n lh' fh' li fi sh' si f) S2.out))⟩)
def PutR (sh si : PSt V3) (f : Int → Option (Int × Int)) (a g c u v e0 : Int) (si' : PSt V3) (f' : Int → Option (Int × Int)) : Prop :=
  (e0 ≠ 0 ∧ sh.look a g = e0 ∧ u = 0 ∧ v = 0 ∧ si' = si ∧ f' = f) ∨ (∃ (i : Nat) (x : Pl V3), a = i ∧ g = x.gen ∧ sh.l[i]? = some x ∧ x.taken = true ∧ 1 ≤ x.gen ∧
    ((si.l.length = si.most + si.free.length ∧ u = 0 ∧ v = 0 ∧ e0 = 13 ∧ si' = si ∧ f' = f) ∨ (si.l.length ≠ si.most + si.free.length ∧ (f c).isSome = true ∧ u = 0 ∧ v = 0 ∧ e0 = 1 ∧ si' = si ∧ f' = f) ∨
     (si.l.length ≠ si.most + si.free.length ∧ f c = none ∧ e0 = 0 ∧ TakeR si ⟨c, a, g⟩ u v true si' ∧ f' = upd f c (some (u, v)))))
set_option maxHeartbeats 2000000 in
theorem slots_put (B t ph pi b n : Nat) (lh fh li fi : Value) (sh si : PSt V3) (f : Int → Option (Int × Int)) (w0 w : World) (es : List Ent) (a g c : Int) (hc : in64 c) (hn : n ≤ 1000000) (h : Led B w0 w (slotEs t ph pi b n lh fh li fi sh si f ++ es)) :
    Calls Tryz.prog 60 #[.pointer (some ⟨t, 0, none⟩), .agg #[.int .i64 a, .int .i64 g], .int .i64 c] w fun e w' => ∃ (u v e0 : Int) (li' fi' : Value) (si' : PSt V3) (f' : Int → Option (Int × Int)) (n' : Nat), e = .returned (.tuple #[.agg #[.int .i64 u, .int .i64 v], .int .i64 e0]) ∧ PutR sh si f a g c u v e0 si' f' ∧ n' ≤ n + 1 ∧ Led B w0 w' (slotEs t ph pi b n' lh fh li' fi' sh si' f' ++ es) := by
  have hwf := (slotItems h).wf
  have hf := hwf.free_le
  have hm := hwf.le
  have hm2 := hwf.most
  clear hwf
  have HC := Lib.hid hc
  clear hc
  have H := Lib.hid h; clear h
  refine callsR fun R hR => ?_
  go_enter Tryz.func60, Tryz.ntmps60
  go_upto_region 1 with fail
  go_cut [8, 9] (fun sx sy wx => ∃ (jb : Nat) (v : V3) (e0 : Int), sx = .pointer (some ⟨jb, 0, none⟩) ∧ sy = .int .i64 e0 ∧ GetR ⟨0, 0, 0⟩ sh a g v e0 ∧ Hid (Led B w0 wx (slotEs t ph pi b n lh fh li fi sh si f ++ blkE (w.heap.size) 34 #[.int .i64 a, .int .i64 g] :: blkE (w.heap.size + 1) 34 #[.int .i64 0, .int .i64 0] :: blkE (jb) 108 #[.int .i64 v.a, .int .i64 v.b, .int .i64 v.c] :: es)))
  case first =>
    have S1 := led_new (A := slotEs t ph pi b n lh fh li fi sh si f) (C := es) (T := 34) (cs := #[.int .i64 a, .int .i64 g]) H.out
    have S2 := led_new (A := slotEs t ph pi b n lh fh li fi sh si f ++ [blkE (w.heap.size) 34 #[.int .i64 a, .int .i64 g]]) (C := es) (T := 34) (cs := #[.int .i64 0, .int .i64 0]) S1
    rw [World.size_alloc] at S2
    clear S1
    generalize (w.alloc (.cells #[.int .i64 a, .int .i64 g] 34)).alloc (.cells #[.int .i64 0, .int .i64 0] 34) = wy at S2 ⊢
    have H2 : Hid (Led B w0 wy (slotEs t ph pi b n lh fh li fi sh si f ++ blkE (w.heap.size) 34 #[.int .i64 a, .int .i64 g] :: blkE (w.heap.size + 1) 34 #[.int .i64 0, .int .i64 0] :: es)) := Lib.hid (S2)
    have H3 : Hid (Led B w0 (wy.alloc (.cells #[.int .i64 0, .int .i64 0, .int .i64 0] 108)) (slotEs t ph pi b n lh fh li fi sh si f ++ blkE (w.heap.size) 34 #[.int .i64 a, .int .i64 g] :: blkE (w.heap.size + 1) 34 #[.int .i64 0, .int .i64 0] :: blkE (wy.heap.size) 108 #[.int .i64 0, .int .i64 0, .int .i64 0] :: es)) := Lib.hid (led_new (A := slotEs t ph pi b n lh fh li fi sh si f ++ [blkE (w.heap.size) 34 #[.int .i64 a, .int .i64 g], blkE (w.heap.size + 1) 34 #[.int .i64 0, .int .i64 0]]) (C := es) (T := 108) (cs := #[.int .i64 0, .int .i64 0, .int .i64 0]) H2.out)
    have ltt := (slotBlk H2.out).lt
    have ltr : w.heap.size < wy.heap.size := (show Blk wy (w.heap.size) 34 #[.int .i64 a, .int .i64 g] from H2.out.at_ 4 rfl).lt
    have HS : Hid (∀ W, Chg [] wy W → W.cell? ⟨t, 0, none⟩ = some (.pointer (some ⟨ph, 0, none⟩)) ∧ W.cell? ⟨w.heap.size, 0, none⟩ = some (.int .i64 a) ∧ W.cell? ⟨w.heap.size, 1, none⟩ = some (.int .i64 g)) :=
      Lib.hid fun W hW => have hl := H2.out.later (hW.below (by simp) (Nat.le_refl _)); ⟨slot_t0 hl, (show Blk W (w.heap.size) 34 #[.int .i64 a, .int .i64 g] from hl.at_ 4 rfl).cell 0, (show Blk W (w.heap.size) 34 #[.int .i64 a, .int .i64 g] from hl.at_ 4 rfl).cell 1⟩
    go_region_held3 (fun wx => wx.cell? ⟨t, 0, none⟩ = some (.pointer (some ⟨ph, 0, none⟩)) ∧ wx.cell? ⟨w.heap.size, 0, none⟩ = some (.int .i64 a) ∧ wx.cell? ⟨w.heap.size, 1, none⟩ = some (.int .i64 g)) (first | (refine HS.out _ ?_; (repeat' first | with_reducible exact Chg.refl _ _ | with_reducible refine Chg.drew ?_ | with_reducible refine Chg.drewN ?_ _ | with_reducible refine Chg.alloc ?_ _ | with_reducible refine Chg.setCell ?_ ?_ _ | (left; simp; done) | (right; exact Nat.le_refl _) | (right; dsimp only; omega)); done) | (refine HS2.out _ ?_; (repeat' first | with_reducible exact Chg.refl _ _ | with_reducible refine Chg.drew ?_ | with_reducible refine Chg.drewN ?_ _ | with_reducible refine Chg.alloc ?_ _ | with_reducible refine Chg.setCell ?_ ?_ _ | (left; simp; done) | (right; exact Nat.le_refl _) | (right; dsimp only; omega)); done)) (first | (go_at_call 73; refine Calls.mono (pool_get_heap ph lh fh sh a g _ (slotHeaps H2.out.drew)) ?_; rintro e w2 ⟨v, e0, rfl, q1, q2⟩; have S4 : Hid (Led B w0 w2 (slotEs t ph pi b n lh fh li fi sh si f ++ blkE (w.heap.size) 34 #[.int .i64 a, .int .i64 g] :: blkE (w.heap.size + 1) 34 #[.int .i64 0, .int .i64 0] :: es)) := Lib.hid (H2.out.drew.later q2); have lt2 := q2.size; have HS2 : Hid (∀ W, Chg [wy.heap.size] w2 W → W.cell? ⟨t, 0, none⟩ = some (.pointer (some ⟨ph, 0, none⟩)) ∧ W.cell? ⟨w.heap.size, 0, none⟩ = some (.int .i64 a) ∧ W.cell? ⟨w.heap.size, 1, none⟩ = some (.int .i64 g)) := Lib.hid (fun W hW => ⟨(hW.cell (p := ⟨t, 0, none⟩) (slotBlk S4.out).lt (by simp; omega)).trans (slot_t0 S4.out), (hW.cell (p := ⟨w.heap.size, 0, none⟩) (show Blk w2 (w.heap.size) 34 #[.int .i64 a, .int .i64 g] from S4.out.at_ 4 rfl).lt (by simp; omega)).trans ((show Blk w2 (w.heap.size) 34 #[.int .i64 a, .int .i64 g] from S4.out.at_ 4 rfl).cell 0), (hW.cell (p := ⟨w.heap.size, 1, none⟩) (show Blk w2 (w.heap.size) 34 #[.int .i64 a, .int .i64 g] from S4.out.at_ 4 rfl).lt (by simp; omega)).trans ((show Blk w2 (w.heap.size) 34 #[.int .i64 a, .int .i64 g] from S4.out.at_ 4 rfl).cell 1)⟩); have Q1 := Lib.hid q1; clear q1 q2) | (go_at_call 73; refine Calls.mono (pool_get_heap ph lh fh sh a g _ (slotHeaps H3.out.drew)) ?_; rintro e w2 ⟨v, e0, rfl, q1, q2⟩; have S4 : Hid (Led B w0 w2 (slotEs t ph pi b n lh fh li fi sh si f ++ blkE (w.heap.size) 34 #[.int .i64 a, .int .i64 g] :: blkE (w.heap.size + 1) 34 #[.int .i64 0, .int .i64 0] :: blkE (wy.heap.size) 108 #[.int .i64 0, .int .i64 0, .int .i64 0] :: es)) := Lib.hid (H3.out.drew.later q2); have lt2 := q2.size; have HS2 : Hid (∀ W, Chg [wy.heap.size] w2 W → W.cell? ⟨t, 0, none⟩ = some (.pointer (some ⟨ph, 0, none⟩)) ∧ W.cell? ⟨w.heap.size, 0, none⟩ = some (.int .i64 a) ∧ W.cell? ⟨w.heap.size, 1, none⟩ = some (.int .i64 g)) := Lib.hid (fun W hW => ⟨(hW.cell (p := ⟨t, 0, none⟩) (slotBlk S4.out).lt (by simp; omega)).trans (slot_t0 S4.out), (hW.cell (p := ⟨w.heap.size, 0, none⟩) (show Blk w2 (w.heap.size) 34 #[.int .i64 a, .int .i64 g] from S4.out.at_ 4 rfl).lt (by simp; omega)).trans ((show Blk w2 (w.heap.size) 34 #[.int .i64 a, .int .i64 g] from S4.out.at_ 4 rfl).cell 0), (hW.cell (p := ⟨w.heap.size, 1, none⟩) (show Blk w2 (w.heap.size) 34 #[.int .i64 a, .int .i64 g] from S4.out.at_ 4 rfl).lt (by simp; omega)).trans ((show Blk w2 (w.heap.size) 34 #[.int .i64 a, .int .i64 g] from S4.out.at_ 4 rfl).cell 1)⟩); have rb : Blk w2 wy.heap.size 108 #[.int .i64 0, .int .i64 0, .int .i64 0] := S4.out.at_ 6 rfl; obtain ⟨c0, c1, c2, fc0, fc1, fc2⟩ := rb.c3; have lrb := rb.lt; clear rb; have Q1 := Lib.hid q1; clear q1 q2))
    · go_wp2_with fail
      go_meet
      case rel => exact ⟨_, v, e0, rfl, rfl, Q1.out, Lib.hid (led_new (A := slotEs t ph pi b n lh fh li fi sh si f ++ [blkE (w.heap.size) 34 #[.int .i64 a, .int .i64 g], blkE (w.heap.size + 1) 34 #[.int .i64 0, .int .i64 0]]) (C := es) S4.out)⟩
    · go_wp2_with fail
      go_meet
      case rel => exact ⟨_, v, e0, rfl, rfl, Q1.out, Lib.hid (led_store3 (A := slotEs t ph pi b n lh fh li fi sh si f ++ [blkE (w.heap.size) 34 #[.int .i64 a, .int .i64 g], blkE (w.heap.size + 1) 34 #[.int .i64 0, .int .i64 0]]) (C := es) S4.out)⟩
  case rest =>
    clear H
    obtain ⟨jb, v, e0, rfl, rfl, q1, S⟩ := hcut
    have Q1 := Lib.hid q1
    clear q1
    have rb : Blk wc jb 108 #[.int .i64 v.a, .int .i64 v.b, .int .i64 v.c] := S.out.at_ 6 rfl
    have lb := rb.lt
    obtain ⟨c0, c1, c2, fc0, fc1, fc2⟩ := rb.c3
    clear rb
    rcases Q1.out with ⟨he, hl, _⟩ | ⟨i, x, rfl, rfl, hx, hxt, hg1, rfl, rfl⟩
    · have hne : (e0 != 0) = true := by simpa using he
      have rc : Blk wc (w.heap.size + 1) 34 #[.int .i64 0, .int .i64 0] := S.out.at_ 5 rfl
      have l0 := rc.lt
      obtain ⟨r0, r1, fr0, fr1⟩ := rc.c2
      clear rc
      go_wp2_with fail
      exact bodyPost_ret (v := .tuple #[.agg #[.int .i64 0, .int .i64 0], .int .i64 e0]) (by simp [results, Tryz.results60, go_sem, l0, r0, r1]) rfl (hR.out _ _ ⟨0, 0, e0, li, fi, si, f, n, rfl, .inl ⟨he, hl, rfl, rfl, rfl, rfl⟩, by omega, led_cut (A := slotEs t ph pi b n lh fh li fi sh si f) (M := [_, _, _]) (C := es) (led_store2 (A := slotEs t ph pi b n lh fh li fi sh si f ++ [blkE (w.heap.size) 34 #[.int .i64 a, .int .i64 g]]) S.out)⟩)
    · have HX := Lib.hid hx; have HXT := Lib.hid hxt; clear hx hxt Q1
      generalize hy : (f c).getD (0, 0) = y
      generalize hq : (f c).isSome = q
      have HR := map_looks (slotMap S.out) HC.out hy hq _ (bel_refl wc)
      have HQ := Lib.hid hq
      clear hq hy
      have x2 := slot_t2 S.out
      go_upto_region 5 with fail
      clear HR x2 c0 fc0 c1 fc1 c2 fc2
      have S0 := Lib.hid (led_new (A := slotEs t ph pi b n lh fh li fi sh si f ++ [blkE (w.heap.size) 34 #[.int .i64 i, .int .i64 x.gen], blkE (w.heap.size + 1) 34 #[.int .i64 0, .int .i64 0], blkE (jb) 108 #[.int .i64 x.v.a, .int .i64 x.v.b, .int .i64 x.v.c]]) (C := es) (T := 34) (cs := #[.int .i64 y.1, .int .i64 y.2]) S.out)
      clear S lb
      obtain ⟨yb, hyb⟩ : ∃ yb, wc.heap.size = yb := ⟨_, rfl⟩
      rw [hyb] at S0 ⊢
      generalize wc.alloc (.cells #[.int .i64 y.1, .int .i64 y.2] 34) = wv at S0 ⊢
      have S : Hid (Led B w0 wv (slotEs t ph pi b n lh fh li fi sh si f ++ blkE (w.heap.size) 34 #[.int .i64 i, .int .i64 x.gen] :: blkE (w.heap.size + 1) 34 #[.int .i64 0, .int .i64 0] :: blkE (jb) 108 #[.int .i64 x.v.a, .int .i64 x.v.b, .int .i64 x.v.c] :: blkE (yb) 34 #[.int .i64 y.1, .int .i64 y.2] :: es)) := S0
      clear S0
      have HS : Hid (∀ W, Chg [] wv W → W.cell? ⟨t, 1, none⟩ = some (.pointer (some ⟨pi, 0, none⟩))) := Lib.hid fun W hW => slot_t1 (S.out.later (hW.below (by simp) (Nat.le_refl _)))
      have rc : Blk wv (w.heap.size + 1) 34 #[.int .i64 0, .int .i64 0] := S.out.at_ 5 rfl
      have l0 := rc.lt
      obtain ⟨r0, r1, fr0, fr1⟩ := rc.c2
      clear rc
      by_cases hfull : si.l.length = si.most + si.free.length
      · have hd : (((si.l.length : Int) - si.free.length) == (si.most : Int)) = true := by simp; omega
        go_region_held3 (fun wx => wx.cell? ⟨t, 1, none⟩ = some (.pointer (some ⟨pi, 0, none⟩))) ((refine HS.out _ ?_; (repeat' first | with_reducible exact Chg.refl _ _ | with_reducible refine Chg.drew ?_ | with_reducible refine Chg.drewN ?_ _ | with_reducible refine Chg.alloc ?_ _ | with_reducible refine Chg.setCell ?_ ?_ _ | (left; simp; done) | (right; exact Nat.le_refl _) | (right; dsimp only; omega)); done)) (first | (go_at_call 76; refine Calls.mono (pool_len_thing pi li fi si _ (slotItems S.out.drew)) ?_; rintro e w2 ⟨rfl, k2, rfl⟩) | (go_at_call 95; refine Calls.mono (pool_places_thing pi li fi si _ (slotItems (S.out.drewN _))) ?_; rintro e w2 ⟨rfl, rfl⟩))
        go_wp2_with fail
        exact bodyPost_ret (v := .tuple #[.agg #[.int .i64 0, .int .i64 0], .int .i64 13]) (by simp [results, Tryz.results60, go_sem, l0, r0, r1]) rfl (hR.out _ _ ⟨0, 0, 13, li, fi, si, f, n, rfl, .inr ⟨i, x, rfl, rfl, HX.out, HXT.out, hg1, .inl ⟨hfull, rfl, rfl, rfl, rfl, rfl⟩⟩, by omega, led_cut (A := slotEs t ph pi b n lh fh li fi sh si f) (M := [_, _, _, _]) (C := es) (led_store2 (A := slotEs t ph pi b n lh fh li fi sh si f ++ [blkE (w.heap.size) 34 #[.int .i64 i, .int .i64 x.gen]]) (S.out.drewN (1 + k2)))⟩)
      · have hd : (((si.l.length : Int) - si.free.length) == (si.most : Int)) = false := by simp; omega
        cases q with
        | true =>
          go_region_held3 (fun wx => wx.cell? ⟨t, 1, none⟩ = some (.pointer (some ⟨pi, 0, none⟩))) ((refine HS.out _ ?_; (repeat' first | with_reducible exact Chg.refl _ _ | with_reducible refine Chg.drew ?_ | with_reducible refine Chg.drewN ?_ _ | with_reducible refine Chg.alloc ?_ _ | with_reducible refine Chg.setCell ?_ ?_ _ | (left; simp; done) | (right; exact Nat.le_refl _) | (right; dsimp only; omega)); done)) (first | (go_at_call 76; refine Calls.mono (pool_len_thing pi li fi si _ (slotItems S.out.drew)) ?_; rintro e w2 ⟨rfl, k2, rfl⟩) | (go_at_call 95; refine Calls.mono (pool_places_thing pi li fi si _ (slotItems (S.out.drewN _))) ?_; rintro e w2 ⟨rfl, rfl⟩))
          go_wp2_with fail
          exact bodyPost_ret (v := .tuple #[.agg #[.int .i64 0, .int .i64 0], .int .i64 1]) (by simp [results, Tryz.results60, go_sem, l0, r0, r1]) rfl (hR.out _ _ ⟨0, 0, 1, li, fi, si, f, n, rfl, .inr ⟨i, x, rfl, rfl, HX.out, HXT.out, hg1, .inr (.inl ⟨hfull, HQ.out, rfl, rfl, rfl, rfl, rfl⟩)⟩, by omega, led_cut (A := slotEs t ph pi b n lh fh li fi sh si f) (M := [_, _, _, _]) (C := es) (led_store2 (A := slotEs t ph pi b n lh fh li fi sh si f ++ [blkE (w.heap.size) 34 #[.int .i64 i, .int .i64 x.gen]]) (S.out.drewN (1 + k2)))⟩)
        | false =>
          have HFN : Hid (f c = none) := Lib.hid (by simpa using HQ.out)
          clear HQ
          go_region_held3 (fun wx => wx.cell? ⟨t, 1, none⟩ = some (.pointer (some ⟨pi, 0, none⟩))) ((refine HS.out _ ?_; (repeat' first | with_reducible exact Chg.refl _ _ | with_reducible refine Chg.drew ?_ | with_reducible refine Chg.drewN ?_ _ | with_reducible refine Chg.alloc ?_ _ | with_reducible refine Chg.setCell ?_ ?_ _ | (left; simp; done) | (right; exact Nat.le_refl _) | (right; dsimp only; omega)); done)) (first | (go_at_call 76; refine Calls.mono (pool_len_thing pi li fi si _ (slotItems S.out.drew)) ?_; rintro e w2 ⟨rfl, k2, rfl⟩) | (go_at_call 95; refine Calls.mono (pool_places_thing pi li fi si _ (slotItems (S.out.drewN _))) ?_; rintro e w2 ⟨rfl, rfl⟩))
          clear r0 r1 fr0 fr1 l0
          have S2 := Lib.hid (S.out.drewN (1 + k2))
          clear S HS hd
          go_upto_region 9 with fail
          generalize wv.drewN (1 + k2) = wy at S2 ⊢
          go_cut [12, 13] (fun sx sy wx => ∃ (rb : Nat) (ra rg : Int) (li' fi' : Value) (si' : PSt V3), sx = .pointer (some ⟨rb, 0, none⟩) ∧ sy = .bool true ∧ Hid (TakeR si ⟨c, i, x.gen⟩ ra rg true si') ∧ Hid (Led B w0 wx (slotEs t ph pi b n lh fh li' fi' sh si' f ++ blkE (w.heap.size) 34 #[.int .i64 i, .int .i64 x.gen] :: blkE (w.heap.size + 1) 34 #[.int .i64 0, .int .i64 0] :: blkE (jb) 108 #[.int .i64 x.v.a, .int .i64 x.v.b, .int .i64 x.v.c] :: blkE (yb) 34 #[.int .i64 y.1, .int .i64 y.2] :: blkE (rb) 34 #[.int .i64 ra, .int .i64 rg] :: es)))
          case first =>
            have H3 : Hid (Led B w0 (wy.alloc (.cells #[.int .i64 0, .int .i64 0] 34)) (slotEs t ph pi b n lh fh li fi sh si f ++ blkE (w.heap.size) 34 #[.int .i64 i, .int .i64 x.gen] :: blkE (w.heap.size + 1) 34 #[.int .i64 0, .int .i64 0] :: blkE (jb) 108 #[.int .i64 x.v.a, .int .i64 x.v.b, .int .i64 x.v.c] :: blkE (yb) 34 #[.int .i64 y.1, .int .i64 y.2] :: blkE (wy.heap.size) 34 #[.int .i64 0, .int .i64 0] :: es)) := Lib.hid (led_new (A := slotEs t ph pi b n lh fh li fi sh si f ++ [blkE (w.heap.size) 34 #[.int .i64 i, .int .i64 x.gen], blkE (w.heap.size + 1) 34 #[.int .i64 0, .int .i64 0], blkE (jb) 108 #[.int .i64 x.v.a, .int .i64 x.v.b, .int .i64 x.v.c], blkE (yb) 34 #[.int .i64 y.1, .int .i64 y.2]]) (C := es) (T := 34) (cs := #[.int .i64 0, .int .i64 0]) S2.out)
            have ltt := (slotBlk S2.out).lt
            have ltr : w.heap.size < wy.heap.size := (show Blk wy w.heap.size 34 #[.int .i64 i, .int .i64 x.gen] from S2.out.at_ 4 rfl).lt
            have HS : Hid (∀ W, Chg [] wy W → W.cell? ⟨t, 1, none⟩ = some (.pointer (some ⟨pi, 0, none⟩)) ∧ W.cell? ⟨w.heap.size, 0, none⟩ = some (.int .i64 i) ∧ W.cell? ⟨w.heap.size, 1, none⟩ = some (.int .i64 x.gen)) := Lib.hid fun W hW => have hl := S2.out.later (hW.below (by simp) (Nat.le_refl _)); ⟨slot_t1 hl, (show Blk W w.heap.size 34 #[.int .i64 i, .int .i64 x.gen] from hl.at_ 4 rfl).cell 0, (show Blk W w.heap.size 34 #[.int .i64 i, .int .i64 x.gen] from hl.at_ 4 rfl).cell 1⟩
            go_region_held3 (fun wx => wx.cell? ⟨t, 1, none⟩ = some (.pointer (some ⟨pi, 0, none⟩)) ∧ wx.cell? ⟨w.heap.size, 0, none⟩ = some (.int .i64 i) ∧ wx.cell? ⟨w.heap.size, 1, none⟩ = some (.int .i64 x.gen)) (first | (refine HS.out _ ?_; (repeat' first | with_reducible exact Chg.refl _ _ | with_reducible refine Chg.drew ?_ | with_reducible refine Chg.drewN ?_ _ | with_reducible refine Chg.alloc ?_ _ | with_reducible refine Chg.setCell ?_ ?_ _ | (left; simp; done) | (right; exact Nat.le_refl _) | (right; dsimp only; omega)); done) | (refine HS2.out _ ?_; (repeat' first | with_reducible exact Chg.refl _ _ | with_reducible refine Chg.drew ?_ | with_reducible refine Chg.drewN ?_ _ | with_reducible refine Chg.alloc ?_ _ | with_reducible refine Chg.setCell ?_ ?_ _ | (left; simp; done) | (right; exact Nat.le_refl _) | (right; dsimp only; omega)); done)) (first | (go_at_call 96; refine Calls.mono (pool_take_thing pi li fi si ⟨c, i, x.gen⟩ _ (slotItems S2.out.drew)) ?_; rintro e w2 ⟨ra, rg, ok, li', fi', si', rfl, q1, q2, q3, q4⟩; obtain rfl : ok = true := q1.ok hfull hm; have S4 : Hid (Led B w0 w2 (slotEs t ph pi b n lh fh li' fi' sh si' f ++ blkE (w.heap.size) 34 #[.int .i64 i, .int .i64 x.gen] :: blkE (w.heap.size + 1) 34 #[.int .i64 0, .int .i64 0] :: blkE (jb) 108 #[.int .i64 x.v.a, .int .i64 x.v.b, .int .i64 x.v.c] :: blkE (yb) 34 #[.int .i64 y.1, .int .i64 y.2] :: es)) := Lib.hid (S2.out.drew.step 2 rfl (thingP pi li' fi' si') q3 q2 q4); have lt2 := q3.size; have HS2 : Hid (∀ wx, Chg [wy.heap.size] w2 wx → wx.cell? ⟨t, 1, none⟩ = some (.pointer (some ⟨pi, 0, none⟩)) ∧ wx.cell? ⟨w.heap.size, 0, none⟩ = some (.int .i64 i) ∧ wx.cell? ⟨w.heap.size, 1, none⟩ = some (.int .i64 x.gen)) := Lib.hid (fun wx hx => ⟨(hx.cell (p := ⟨t, 1, none⟩) (slotBlk S4.out).lt (by simp; omega)).trans (slot_t1 S4.out), (hx.cell (p := ⟨w.heap.size, 0, none⟩) (show Blk w2 w.heap.size 34 #[.int .i64 i, .int .i64 x.gen] from S4.out.at_ 4 rfl).lt (by simp; omega)).trans ((show Blk w2 w.heap.size 34 #[.int .i64 i, .int .i64 x.gen] from S4.out.at_ 4 rfl).cell 0), (hx.cell (p := ⟨w.heap.size, 1, none⟩) (show Blk w2 w.heap.size 34 #[.int .i64 i, .int .i64 x.gen] from S4.out.at_ 4 rfl).lt (by simp; omega)).trans ((show Blk w2 w.heap.size 34 #[.int .i64 i, .int .i64 x.gen] from S4.out.at_ 4 rfl).cell 1)⟩); have Q1 := Lib.hid q1; clear q1 q2 q3 q4) | (go_at_call 96; refine Calls.mono (pool_take_thing pi li fi si ⟨c, i, x.gen⟩ _ (slotItems H3.out.drew)) ?_; rintro e w2 ⟨ra, rg, ok, li', fi', si', rfl, q1, q2, q3, q4⟩; obtain rfl : ok = true := q1.ok hfull hm; have S4 : Hid (Led B w0 w2 (slotEs t ph pi b n lh fh li' fi' sh si' f ++ blkE (w.heap.size) 34 #[.int .i64 i, .int .i64 x.gen] :: blkE (w.heap.size + 1) 34 #[.int .i64 0, .int .i64 0] :: blkE (jb) 108 #[.int .i64 x.v.a, .int .i64 x.v.b, .int .i64 x.v.c] :: blkE (yb) 34 #[.int .i64 y.1, .int .i64 y.2] :: blkE (wy.heap.size) 34 #[.int .i64 0, .int .i64 0] :: es)) := Lib.hid (H3.out.drew.step 2 rfl (thingP pi li' fi' si') q3 q2 q4); have lt2 := q3.size; have HS2 : Hid (∀ wx, Chg [wy.heap.size] w2 wx → wx.cell? ⟨t, 1, none⟩ = some (.pointer (some ⟨pi, 0, none⟩)) ∧ wx.cell? ⟨w.heap.size, 0, none⟩ = some (.int .i64 i) ∧ wx.cell? ⟨w.heap.size, 1, none⟩ = some (.int .i64 x.gen)) := Lib.hid (fun wx hx => ⟨(hx.cell (p := ⟨t, 1, none⟩) (slotBlk S4.out).lt (by simp; omega)).trans (slot_t1 S4.out), (hx.cell (p := ⟨w.heap.size, 0, none⟩) (show Blk w2 w.heap.size 34 #[.int .i64 i, .int .i64 x.gen] from S4.out.at_ 4 rfl).lt (by simp; omega)).trans ((show Blk w2 w.heap.size 34 #[.int .i64 i, .int .i64 x.gen] from S4.out.at_ 4 rfl).cell 0), (hx.cell (p := ⟨w.heap.size, 1, none⟩) (show Blk w2 w.heap.size 34 #[.int .i64 i, .int .i64 x.gen] from S4.out.at_ 4 rfl).lt (by simp; omega)).trans ((show Blk w2 w.heap.size 34 #[.int .i64 i, .int .i64 x.gen] from S4.out.at_ 4 rfl).cell 1)⟩); have rb : Blk w2 wy.heap.size 34 #[.int .i64 0, .int .i64 0] := S4.out.at_ 8 rfl; obtain ⟨c0, c1, fc0, fc1⟩ := rb.c2; have lrb := rb.lt; clear rb; have Q1 := Lib.hid q1; clear q1 q2 q3 q4))
            · go_wp2_with fail
              go_meet
              case rel => exact ⟨_, ra, rg, li', fi', si', rfl, rfl, Q1, Lib.hid (led_new (A := slotEs t ph pi b n lh fh li' fi' sh si' f ++ [blkE (w.heap.size) 34 #[.int .i64 i, .int .i64 x.gen], blkE (w.heap.size + 1) 34 #[.int .i64 0, .int .i64 0], blkE (jb) 108 #[.int .i64 x.v.a, .int .i64 x.v.b, .int .i64 x.v.c], blkE (yb) 34 #[.int .i64 y.1, .int .i64 y.2]]) (C := es) S4.out)⟩
            · go_wp2_with fail
              go_meet
              case rel => exact ⟨_, ra, rg, li', fi', si', rfl, rfl, Q1, Lib.hid (led_store2 (A := slotEs t ph pi b n lh fh li' fi' sh si' f ++ [blkE (w.heap.size) 34 #[.int .i64 i, .int .i64 x.gen], blkE (w.heap.size + 1) 34 #[.int .i64 0, .int .i64 0], blkE (jb) 108 #[.int .i64 x.v.a, .int .i64 x.v.b, .int .i64 x.v.c], blkE (yb) 34 #[.int .i64 y.1, .int .i64 y.2]]) (C := es) S4.out)⟩
          case rest =>
            clear S2
            obtain ⟨rb, ra, rg, li', fi', si', rfl, rfl, Q1, S⟩ := hcut
            obtain ⟨w5, hrun, hm5, hc5⟩ := MapIs.store (x := c) (y := (ra, rg)) (slotMap S.out.drew) Tryz.underlying103 (by unfold maxLen; omega) HC.out
            have hr5 : (Instr.mapUpdate 103 (.map (some b)) (.int .i64 c) (.agg #[.int .i64 ra, .int .i64 rg])).run Tryz.prog wc.drew = .ok () w5 := hrun
            have S5 : Hid (Led B w0 w5 (slotEs t ph pi b (n + 1) lh fh li' fi' sh si' (upd f c (some (ra, rg))) ++ blkE (w.heap.size) 34 #[.int .i64 i, .int .i64 x.gen] :: blkE (w.heap.size + 1) 34 #[.int .i64 0, .int .i64 0] :: blkE (jb) 108 #[.int .i64 x.v.a, .int .i64 x.v.b, .int .i64 x.v.c] :: blkE (yb) 34 #[.int .i64 y.1, .int .i64 y.2] :: blkE (rb) 34 #[.int .i64 ra, .int .i64 rg] :: es)) := Lib.hid (S.out.drew.step 3 rfl (mapE intFam b (n + 1) (upd f c (some (ra, rg)))) hc5 hm5 (Fresh.refl _ _))
            clear hrun hm5 hc5
            have HSM : Hid (∀ (W : World) (n : Nat) (f : Int → Option (Int × Int)), Led B w0 W (slotEs t ph pi b n lh fh li' fi' sh si' f ++ blkE (w.heap.size) 34 #[.int .i64 i, .int .i64 x.gen] :: blkE (w.heap.size + 1) 34 #[.int .i64 0, .int .i64 0] :: blkE (jb) 108 #[.int .i64 x.v.a, .int .i64 x.v.b, .int .i64 x.v.c] :: blkE (yb) 34 #[.int .i64 y.1, .int .i64 y.2] :: blkE (rb) 34 #[.int .i64 ra, .int .i64 rg] :: es) → ∀ wx, Chg [] W wx → wx.cell? ⟨t, 2, none⟩ = some (.map (some b)) ∧ wx.cell? ⟨rb, 0, none⟩ = some (.int .i64 ra) ∧ wx.cell? ⟨rb, 1, none⟩ = some (.int .i64 rg)) :=
              Lib.hid fun W n f hW wx hx => have hl := hW.later (hx.below (by simp) (Nat.le_refl _)); have r := (show Blk wx rb 34 #[.int .i64 ra, .int .i64 rg] from hl.at_ 8 rfl); ⟨slot_t2 hl, r.cell 0, r.cell 1⟩
            have HS := Lib.hid (HSM.out _ _ _ S.out)
            have HS2 := Lib.hid (HSM.out _ _ _ S5.out)
            clear S HSM
            go_wp2_with fail
            go_region_held3 (fun wx => wx.cell? ⟨t, 2, none⟩ = some (.map (some b)) ∧ wx.cell? ⟨rb, 0, none⟩ = some (.int .i64 ra) ∧ wx.cell? ⟨rb, 1, none⟩ = some (.int .i64 rg)) (first | (refine HS.out _ ?_; (repeat' first | with_reducible exact Chg.refl _ _ | with_reducible refine Chg.drew ?_ | with_reducible refine Chg.drewN ?_ _ | with_reducible refine Chg.alloc ?_ _ | with_reducible refine Chg.setCell ?_ ?_ _ | (left; simp; done) | (right; exact Nat.le_refl _) | (right; dsimp only; omega)); done) | (refine HS2.out _ ?_; (repeat' first | with_reducible exact Chg.refl _ _ | with_reducible refine Chg.drew ?_ | with_reducible refine Chg.drewN ?_ _ | with_reducible refine Chg.alloc ?_ _ | with_reducible refine Chg.setCell ?_ ?_ _ | (left; simp; done) | (right; exact Nat.le_refl _) | (right; dsimp only; omega)); done)) (fail)
            have rk : Blk w5 rb 34 #[.int .i64 ra, .int .i64 rg] := S5.out.at_ 8 rfl
            have rc : Blk w5 (w.heap.size + 1) 34 #[.int .i64 0, .int .i64 0] := S5.out.at_ 5 rfl
            obtain ⟨k0, k1, fk0, fk1⟩ := rk.c2
            obtain ⟨r0, r1, fr0, fr1⟩ := rc.c2
            have l0 := rc.lt
            clear rk rc
            go_wp2_with fail
            exact bodyPost_ret (v := .tuple #[.agg #[.int .i64 ra, .int .i64 rg], .int .i64 0]) (by simp [results, Tryz.results60, go_sem, l0, r0, r1]) rfl (hR.out _ _ ⟨ra, rg, 0, li', fi', si', _, n + 1, rfl, .inr ⟨i, x, rfl, rfl, HX.out, HXT.out, hg1, .inr (.inr ⟨hfull, HFN.out, rfl, Q1.out, rfl⟩)⟩, by omega, led_cut (A := slotEs t ph pi b (n + 1) lh fh li' fi' sh si' (upd f c (some (ra, rg)))) (M := [_, _, _, _, _]) (C := es) (led_store2 (A := slotEs t ph pi b (n + 1) lh fh li' fi' sh si' (upd f c (some (ra, rg))) ++ [blkE (w.heap.size) 34 #[.int .i64 i, .int .i64 x.gen]]) S5.out)⟩)
end Go.Proofs.YtognmhgdegpdiaaGreat
