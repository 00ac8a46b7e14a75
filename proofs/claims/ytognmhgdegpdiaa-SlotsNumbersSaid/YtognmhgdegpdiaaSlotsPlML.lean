import Derived.Test.YtognmhgdegpdiaaSlotsPlLoop
import Derived.Test.YtognmhgdegpdiaaSlotsKnown
section
/- Handles against plain pools: play. -/
namespace Go.Proofs.Ytognmhgdegpdiaa
open Go.RowKit
set_option linter.unusedVariables false
set_option linter.unusedSimpArgs false
set_option maxRecDepth 100000

theorem tab_one2 {w : World} {g : Nat} {e : TypeId} {cs : Array Value} {sz : Nat} (h : Blk w g e cs) (hl : cs.size = sz) (hm : sz ≤ 1000) : TabIs w 0 e sz (.slice (some ⟨g, 0, none⟩) 1 1) [cs.toList] := by
  refine ⟨cs.toList, ⟨by simp [hl], .inr ⟨g, 1, cs, rfl, Nat.zero_le _, h, Nat.le_refl _, by unfold maxLen; omega, by simp [hl], by rw [List.take_of_length_le (by simp [hl])]⟩⟩, by simp [hl], ?_⟩
  intro i c hi j u hj
  have : i = 0 := by have := (List.getElem?_eq_some_iff.1 hi).1; simpa using this
  subst this
  simp at hi
  subst hi
  simpa using hj
theorem ins_nil {B : Nat} {w0 w : World} {A C : List Ent} (t : TypeId) (sz : Nat) (h : Led B w0 w (A ++ C)) : Led B w0 w (A ++ tabE t sz (.slice none 0 0) [] :: C) :=
  Led.insert (es := A) (fs := C) h _ (Below.refl _ _) (TabIs.nil _ _ _ _) (by simp [tabE, Value.ownBlock])
def startX (t ph pi b m mh mi N : Nat) : PM := { t := t, ph := ph, pi := pi, b := b, n := 0, m := m, mh := mh, mi := mi, lh := .slice none 0 0, fh := .slice none 0 0, li := .slice none 0 0, fi := .slice none 0 0, hg := .slice none 0 0, hi := .slice none 0 0, hv := .slice none 0 0, hb := .slice none 0 0, ig := .slice none 0 0, ii := .slice none 0 0, iv := .slice none 0 0, ib := .slice none 0 0, vk := .slice none 0 0, vr := .slice none 0 0, vn := .slice none 0 0, vf := .slice none 0 0, vc := .slice none 0 0, vi := .slice none 0 0, sh := ⟨64, [], []⟩, si := ⟨N, [], []⟩, f := fun _ => none, rh := ⟨64, [], []⟩, ri := ⟨N, [], []⟩, kd := [], rt := [], nn := [], rf := [], cl := [], inn := [] }
theorem PInv.start (t ph pi b m mh mi N : Nat) : PInv 0 (startX t ph pi b m mh mi N) :=
  ⟨Sim.empty 64, Sim.empty N, rfl, rfl, rfl, rfl, Nat.le_refl _, Nat.le_refl _, Nat.le_refl _, fun i x y hx => by simp [startX] at hx, fun i x y hx => by simp [startX] at hx, ⟨fun i x hx => by simp [startX] at hx, fun c p hp => by simp [startX] at hp⟩, fun i x hx => by simp [startX] at hx, fun i x hx => by simp [startX] at hx⟩

set_option maxHeartbeats 16000000 in
theorem slots_play (items : Int) (A1 : Option Addr) (n1 c1 : Nat) (G1 : Nat → Int) (w : World) (hp1 : -9223372036854775808 ≤ items) (hp2 : items ≤ 9223372036854775807) (hn1 : n1 ≤ 9223372036854775807)
    (hA1 : SlArg w w.heap.size A1 n1 8 fun j => .int .i64 (G1 j)) (hG : ∀ j, j < n1 * 8 → -9223372036854775808 ≤ G1 j ∧ G1 j ≤ 9223372036854775807) :
    Calls Try.prog 20 #[.int .i64 items, .slice A1 n1 c1] w fun e w' => e = .returned (.bool true) ∧ Below w.heap.size w w' := by
  obtain ⟨N, hN⟩ : ∃ N : Nat, (N : Int) = max 1 (min items 16384) := ⟨(max 1 (min items 16384)).toNat, by omega⟩
  have hN2 : max (min items 16384) 1 = (N : Int) := by omega
  have hN3 : N ≤ 16384 := by omega
  have HN := Lib.hid hN; clear hN
  have HA := Lib.hid hA1; clear hA1
  have HG := Lib.hid hG; clear hG
  refine callsR fun R hR => ?_
  go_enter Try.func20, Try.ntmps20
  go_wp2_with fail
  refine Calls.mono (slots_new items N w.heap.size w w [] (Led.none_ (Below.refl _ _) (Nat.le_refl _)) HN.out) ?_
  rintro e w1 ⟨t, ph, pi, b, rfl, q1⟩
  have S1 := Lib.hid q1
  clear q1
  go_wp2_with fail
  refine Calls.mono (ref_new 64 64 w.heap.size w _ _ S1.out (by omega)) ?_
  rintro e w2 ⟨mh, rfl, q1⟩
  have S2 := Lib.hid q1
  clear q1 S1
  go_wp2_with fail
  refine Calls.mono (ref_new N N w.heap.size w _ _ S2.out (by omega)) ?_
  rintro e w3 ⟨mi, rfl, q1⟩
  have S4 : Hid (Led w.heap.size w (w3.alloc (.cells #[.pointer (some ⟨mh, 0, none⟩), .pointer (some ⟨mi, 0, none⟩), .slice none 0 0, .slice none 0 0, .slice none 0 0, .slice none 0 0, .slice none 0 0, .slice none 0 0] 75)) ((startX t ph pi b w3.heap.size mh mi N).mem ++ [])) := Lib.hid (by
    have h0 : Led w.heap.size w w3 (((startX t ph pi b w3.heap.size mh mi N).I ++ ((startX t ph pi b w3.heap.size mh mi N).H ++ (startX t ph pi b w3.heap.size mh mi N).S)) ++ []) := by
      have q2 : Led w.heap.size w w3 ((startX t ph pi b w3.heap.size mh mi N).I ++ ((startX t ph pi b w3.heap.size mh mi N).H ++ ((startX t ph pi b w3.heap.size mh mi N).S ++ []))) := q1
      simpa [List.append_assoc] using q2
    have h6 := ins_nil 3 1 (ins_nil 3 1 (ins_nil 3 1 (ins_nil 27 2 (ins_nil 3 1 (ins_nil 3 1 h0)))))
    have h7 := led_new (T := 75) (cs := #[.pointer (some ⟨mh, 0, none⟩), .pointer (some ⟨mi, 0, none⟩), .slice none 0 0, .slice none 0 0, .slice none 0 0, .slice none 0 0, .slice none 0 0, .slice none 0 0]) h6
    have h8 : Led w.heap.size w _ (((startX t ph pi b w3.heap.size mh mi N).I ++ ((startX t ph pi b w3.heap.size mh mi N).H ++ (startX t ph pi b w3.heap.size mh mi N).S)) ++ (startX t ph pi b w3.heap.size mh mi N).D) := h7
    simpa [PM.mem, List.append_assoc] using h8)
  clear q1 S2
  go_upto_region 3 with fail
  generalize w3.alloc (.cells #[.pointer (some ⟨mh, 0, none⟩), .pointer (some ⟨mi, 0, none⟩), .slice none 0 0, .slice none 0 0, .slice none 0 0, .slice none 0 0, .slice none 0 0, .slice none 0 0] 75) = w4 at S4 ⊢
  generalize w3.heap.size = m at S4 ⊢
  have S5 : Hid (Led w.heap.size w ((w4.alloc (.cells #[.int .i64 0, .int .i64 0] 27)).alloc (.cells #[.int .i64 0, .int .i64 0] 27)) ((startX t ph pi b m mh mi N).mem ++ [tabE 27 2 (.slice (some ⟨w4.heap.size, 0, none⟩) 1 1) (rowsR [(0, 0)]), tabE 27 2 (.slice (some ⟨w4.heap.size + 1, 0, none⟩) 1 1) (rowsR [(0, 0)])])) := Lib.hid (by
    have h1 := Led.insert (es := (startX t ph pi b m mh mi N).mem) (fs := []) S4.out (tabE 27 2 (.slice (some ⟨w4.heap.size, 0, none⟩) 1 1) (rowsR [(0, 0)])) (bel_alloc (bel_refl w4) (.cells #[.int .i64 0, .int .i64 0] 27)) (tab_one2 (Blk.new w4 _ _) rfl (by decide)) (by simp [tabE, Value.ownBlock])
    have h2 := Led.insert (es := (startX t ph pi b m mh mi N).mem ++ [tabE 27 2 (.slice (some ⟨w4.heap.size, 0, none⟩) 1 1) (rowsR [(0, 0)])]) (fs := []) (by simpa using h1) (tabE 27 2 (.slice (some ⟨(w4.alloc (.cells #[.int .i64 0, .int .i64 0] 27)).heap.size, 0, none⟩) 1 1) (rowsR [(0, 0)])) (bel_alloc (bel_refl (w4.alloc (.cells #[.int .i64 0, .int .i64 0] 27))) (.cells #[.int .i64 0, .int .i64 0] 27)) (tab_one2 (Blk.new _ _ _) rfl (by decide)) (by simp [tabE, Value.ownBlock])
    rw [World.size_alloc] at h2
    simpa [List.append_assoc] using h2)
  clear S4
  go_upto_block 0 with fail
  generalize (w4.alloc (.cells #[.int .i64 0, .int .i64 0] 27)).alloc (.cells #[.int .i64 0, .int .i64 0] 27) = w5 at S5 ⊢
  apply wp_block
  rename_i K hK
  refine wp_loop (fun a w' => ∃ k X hs is_ HS IS, AtLoop ⟨A1, n1, c1, w⟩ k X hs is_ HS IS a w') (fun a _ => 80 - (intOf (a.tmps.getD 9 undef)).toNat) ⟨0, startX t ph pi b m mh mi N, _, _, [(0, 0)], [(0, 0)], ⟨⟨rfl, rfl, rfl, rfl, rfl, rfl, rfl, rfl⟩, by omega, by omega, by simp, by simp, by simp, by simp, PInv.start t ph pi b m mh mi N, S5.out⟩⟩ ?_
  rintro a w6 ⟨k, X, hs, is_, HS, IS, h⟩
  refine pl_body ⟨A1, n1, c1, w⟩ k X hs is_ HS IS G1 a w6 _ h HA.out HG.out (fun _ _ d _ _ h => by cases d <;> exact h) ?_ ?_
  · intro X2 hs2 is2 HS2 IS2 a2 w7 hk h2
    have e1 : a.tmps.getD 9 undef = .int .i64 (k : Int) := h.fr.s9
    have e2 : a2.tmps.getD 9 undef = .int .i64 ((k + 1 : Nat) : Int) := h2.fr.s9
    refine ⟨⟨k + 1, X2, hs2, is2, HS2, IS2, h2⟩, ?_⟩
    simp only [e1, e2, intOf]
    omega
  · intro a2 w7 h2
    simp only [Exit.inBlock, if_true, Exit.then]
    refine hK _ _ ?_
    have hb := h2.led.be
    have y5 := h2.fr.s5
    obtain ⟨gs, hgs, rfl⟩ := frame_open a2 h2.fr.size h2.fr.defers
    replace y5 := hgs _ _ y5
    clear h2 hgs
    simp only [y5]
    clear y5
    go_wp2_with fail
    exact hR.out _ _ ⟨rfl, hb⟩
end Go.Proofs.Ytognmhgdegpdiaa

end
section
/- The walks of SlotsPlays and SlotsNumbers, out of play's contract. -/
namespace Go.Proofs.Ytognmhgdegpdiaa
open Go.RowKit
set_option linter.unusedVariables false
set_option linter.unusedSimpArgs false
set_option maxRecDepth 100000

theorem slots_plays (size : Int) (A : Option Addr) (m c : Nat) (G : Nat → Int) (w : World) (h1 : -9223372036854775808 ≤ size) (h2 : size ≤ 9223372036854775807) (hm : m ≤ 9223372036854775807)
    (hA : SlArg w w.heap.size A m 8 fun j => .int .i64 (G j)) (hG : ∀ j, j < m * 8 → -9223372036854775808 ≤ G j ∧ G j ≤ 9223372036854775807) :
    Calls Try.prog 6 #[.int .i64 size, .slice A m c] w fun e w' => e = .returned (.bool true) ∧ Below w.heap.size w w' := by
  have bd := within_bd size 1 12 (by omega)
  have HA := Lib.hid hA; clear hA
  have HG := Lib.hid hG; clear hG
  refine callsR fun R hR => ?_
  go_enter Try.func6, Try.ntmps6
  go_wp2_with fail
  refine Calls.mono (within_any size 1 12 _ (by omega) (by omega) (by omega) h1 h2) ?_
  rintro e w0 ⟨rfl, rfl⟩
  generalize within size 1 12 = r at bd ⊢
  go_wp2_with fail
  refine Calls.mono (slots_play r A m c G _ (by omega) (by omega) hm HA.out HG.out) ?_
  rintro e w1 ⟨rfl, hb1⟩
  have B1 := Lib.hid hb1; clear hb1
  go_wp2_with fail
  refine Calls.mono (slots_known _) ?_
  rintro e w3 ⟨rfl, hb3⟩
  have B3 := Lib.hid hb3; clear hb3
  go_wp2_with fail
  exact hR.out _ _ ⟨rfl, B1.out.trans (B3.out.mono B1.out.size)⟩

end Go.Proofs.Ytognmhgdegpdiaa

end
