/- The statements on rings against a plain list: the walks of play, RingPlays, RingNumbers. -/
import Derived.Test.YtjabofofofddbaaRingLaw
namespace Go.Proofs.Ytjabofofofddbaa
open Go.RowKit
set_option maxRecDepth 100000

/-- The ring holds q, and the list m holds q, too; they lie apart. -/
structure PlaySt (B p l n : Nat) (w0 wr : World) (v : Value) (q : List Int) : Prop where
  ring : RingIs wr 103 2 p l n (q.map fun x => Value.int .i64 x)
  own : wr.ownsRow B 2 1 v q.length (q.map fun x => Value.int .i64 x)
  ap : Apart [p, l] v.ownBlock.toList
  be : Below B w0 wr
  hs : B ≤ w0.heap.size
  hB : B ≤ p ∧ B ≤ l

section
variable {B p l n : Nat} {w0 wr w2 w' : World} {v v' : Value} {q q' : List Int}
theorem PlaySt.fresh_ (hr : RingIs w2 103 2 p l n (q.map fun x => Value.int .i64 x)) (hb : Below w2.heap.size w2 w') (ho : w'.ownsRow w2.heap.size 2 1 v' q.length (q.map fun x => Value.int .i64 x))
    (be : Below B w0 w2) (hs : B ≤ w0.heap.size) (hB : B ≤ p ∧ B ≤ l) : PlaySt B p l n w0 w' v' q := by
  have hl := hr.lt
  have hs2 : B ≤ w2.heap.size := Nat.le_trans hs be.size
  refine ⟨hr.chg (Chg.of_below hb []) (by simp) (by simp), own_base ho hs2, fun x hx hy => ?_, be.trans (hb.mono hs2), hs, hB⟩
  have := (own_toList ho x hy).1
  simp at hx
  omega
theorem PlaySt.ring_ (h : PlaySt B p l n w0 wr v q) (hr : RingIs w' 103 2 p l n (q.map fun x => Value.int .i64 x)) (hc : Chg [p, l] wr w') : PlaySt B p l n w0 w' v q :=
  ⟨hr, own_chg h.own hc fun x hx hm => h.ap x hm (by rw [hx]; simp), h.ap, h.be.trans (hc.below (by have := h.hB; simp; omega) (Nat.le_trans h.hs h.be.size)), h.hs, h.hB⟩
theorem PlaySt.later (h : PlaySt B p l n w0 wr v q) (hb : Below wr.heap.size wr w') : PlaySt B p l n w0 w' v q :=
  ⟨h.ring.chg (Chg.of_below hb []) (by simp) (by simp), own_chg h.own (Chg.of_below hb []) (by simp), h.ap, h.be.trans (hb.mono (Nat.le_trans h.hs h.be.size)), h.hs, h.hB⟩
theorem PlaySt.drewN (h : PlaySt B p l n w0 wr v q) (k : Nat) : PlaySt B p l n w0 (wr.drewN k) v q := ⟨h.ring, h.own, h.ap, below_drewN h.be k, h.hs, h.hB⟩
end


set_option maxHeartbeats 4000000 in
theorem ring_play (room : Int) (A : Option Addr) (m c : Nat) (G : Nat → Int) (w : World) (h1 : -9223372036854775808 ≤ room) (h2 : room ≤ 9223372036854775807) (hm : m ≤ 9223372036854775807)
    (hA : SlArg w w.heap.size A m 3 fun j => .int .i64 (G j)) (hG : ∀ j, j < m * 3 → -9223372036854775808 ≤ G j ∧ G j ≤ 9223372036854775807) :
    Calls Try.prog 26 #[.int .i64 room, .slice A m c] w fun e w' => e = .returned (.bool true) ∧ Below w.heap.size w w' := by
  obtain ⟨n, hn⟩ : ∃ n : Nat, (n : Int) = max 1 (min room 4096) := ⟨(max 1 (min room 4096)).toNat, by omega⟩
  have hn2 : max (min room 4096) 1 = (n : Int) := by omega
  have bd : 1 ≤ n ∧ n ≤ 4096 := by omega
  have HN := Lib.hid hn; clear hn
  have HA := Lib.hid hA; clear hA
  have HG := Lib.hid hG; clear hG
  refine callsR fun R hR => ?_
  go_enter Try.func26, Try.ntmps26
  go_wp2_with fail
  refine Calls.mono (ring_new_int64 room n _ HN.out) ?_
  rintro e w1 ⟨p, l, rfl, r1, hp, hl, hb1⟩
  have B1 := Lib.hid hb1; clear hb1
  have R1 := Lib.hid r1; clear r1
  go_wp2_with fail
  have HN2 := Lib.hid hn2; clear hn2
  go_loopw [7, 8] (fun a i wr => ∃ (k : Nat) (q : List Int), k ≤ 100 ∧ i = .int .i64 k ∧ q.length ≤ k ∧ Hid (PlaySt w.heap.size p l n w wr a q)) (fun _ i _ => 100 - (intOf i).toNat)
  case atStart => exact ⟨0, [], by omega, rfl, by simp, Lib.hid ⟨R1.out, World.ownsRow_nil _ _ _ _, by simp [Apart, Value.ownBlock], B1.out, Nat.le_refl _, hp, hl⟩⟩
  case round =>
    obtain ⟨k, q, hk, rfl, hqk, ST⟩ := hrel
    by_cases hlt : k < m ∧ k < 100
    · obtain ⟨hlt1, hlt2⟩ := hlt
      obtain ⟨b, off, rfl, hb, hcell⟩ := HA.out (by omega)
      have hck : ∀ j, j < 3 → wr.cell? ⟨b, off + (k * 3 + j), none⟩ = some (.int .i64 (G (k * 3 + j))) := fun j hj => (ST.out.be.cell (p := ⟨b, off + (k * 3 + j), none⟩) hb).trans (hcell _ (by omega))
      have ck0 := hck 0 (by omega)
      have ck1 := hck 1 (by omega)
      have ck2 := hck 2 (by omega)
      have g0 := HG.out (k * 3) (by omega)
      have g1 := HG.out (k * 3 + 1) (by omega)
      have g2 := HG.out (k * 3 + 2) (by omega)
      simp only [Nat.add_zero, ← Nat.add_assoc] at ck0 ck1 ck2
      generalize G (k * 3) = K at ck0 g0
      generalize G (k * 3 + 1) = I at ck1 g1
      generalize G (k * 3 + 2) = V at ck2 g2
      have HC := Lib.hid hck; clear hck hcell
      go_upto_block 2 with fail
      go_cut [7] (fun a wx => ∃ q' : List Int, q'.length ≤ k + 1 ∧ Hid (PlaySt w.heap.size p l n w wx a q'))
      case first =>
        by_cases hK3 : K = 3
        · subst hK3
          cases q with
          | nil =>
            obtain ⟨Am, cm, rfl, hcm, _⟩ := own_form ST.out.own
            go_wp2_with fail
            refine Calls.mono (ring_pop_none_int64 p l n _ (by exact ST.out.ring)) ?_
            rintro e w2 ⟨rfl, k2, rfl⟩
            go_wp2_with fail
            go_meet
            case rel => exact ⟨[], by simp, Lib.hid (ST.out.drewN _)⟩
          | cons x q =>
            obtain ⟨Am, cm, rfl, hcm, hAm⟩ := own_form ST.out.own
            obtain ⟨g, rfl, hg, _⟩ := hAm (by simp)
            go_wp2_with fail
            refine Calls.mono (ring_pop_some_int64 p l n (q.map fun x => Value.int .i64 x) x _ (by exact ST.out.ring)) ?_
            rintro e w2 ⟨rfl, r2, hc2⟩
            have o2 := own_chg ST.out.own hc2 fun y hy hm => ST.out.ap y hm (by rw [hy]; simp)
            have cx : w2.cell? ⟨g, 0, none⟩ = some (.int .i64 x) := own_cell o2 (j := 0) (by simp)
            have O2 := Lib.hid o2
            have R2 := Lib.hid r2
            have BE2 := Lib.hid (ST.out.be.trans (hc2.below (B := w.heap.size) (by simp; omega) (Nat.le_trans ST.out.hs ST.out.be.size)))
            have hcm2 : 1 ≤ cm := by simp at hcm; omega
            simp only [List.length_cons] at hcm hqk
            clear o2 r2 hc2
            have rd := (Reads.of_own (A := some ⟨g, 0, none⟩) O2.out).cut (k := 1) (cap := cm) (by simp) (by simpa using hcm)
            have RD := Lib.hid rd; clear rd
            go_wp2_with (at_builtin; refine wpList_append_any _ rfl (.tmp 94) (.tmp 96) 55 rfl w2.heap.size 2 _ _ 1 8 Try.underlying55 (info_parts info_int64).choose_spec.1 (info_parts info_int64).choose_spec.2.1 (info_parts info_int64).choose_spec.2.2.1 (info_parts info_int64).choose_spec.2.2.2 rfl (by omega) (.slice (some ⟨w2.heap.size, 0, none⟩) 0 0) 0 [] rfl (by exact World.ownsRow_lit w2 #[] 0 (Nat.le_refl _) (by unfold maxLen; omega) rfl) w2.heap.size _ q.length (cm - 1) (q.map fun x => Value.int .i64 x) rfl (by exact RD.out.alloc (Nat.le_refl _) _) (by intro x hx; obtain ⟨_, _, rfl⟩ := List.mem_map.1 hx; rfl) (by unfold maxLen; omega) (by omega) (by simp) ?_; intro v' w3 hown3 hg3 hat3)
            all_goals
              go_meet
              case rel => exact ⟨q, by omega, Lib.hid (PlaySt.fresh_ R2.out (((Below.refl _ _).alloc (Nat.le_refl _) _).grown hg3 (by simp) (by intro y hy; simp [Value.ownBlock] at hy; omega)) (by simpa using hown3) BE2.out (Nat.le_refl _) ⟨hp, hl⟩)⟩
        · by_cases hK4 : K = 4
          · subst hK4
            cases q with
            | nil =>
              obtain ⟨Am, cm, rfl, hcm, _⟩ := own_form ST.out.own
              go_wp2_with fail
              refine Calls.mono (ring_pop_none_int64 p l n _ (by exact ST.out.ring)) ?_
              rintro e w2 ⟨rfl, k2, rfl⟩
              go_wp2_with fail
              go_meet
              case rel => exact ⟨[], by simp, Lib.hid (ST.out.drewN _)⟩
            | cons x q =>
              obtain ⟨Am, cm, rfl, hcm, hAm⟩ := own_form ST.out.own
              obtain ⟨g, rfl, hg, _⟩ := hAm (by simp)
              go_wp2_with fail
              refine Calls.mono (ring_pop_some_int64 p l n (q.map fun x => Value.int .i64 x) x _ (by exact ST.out.ring)) ?_
              rintro e w2 ⟨rfl, r2, hc2⟩
              have o2 := own_chg ST.out.own hc2 fun y hy hm => ST.out.ap y hm (by rw [hy]; simp)
              have cx : w2.cell? ⟨g, 0, none⟩ = some (.int .i64 x) := own_cell o2 (j := 0) (by simp)
              have O2 := Lib.hid o2
              have R2 := Lib.hid r2
              have BE2 := Lib.hid (ST.out.be.trans (hc2.below (B := w.heap.size) (by simp; omega) (Nat.le_trans ST.out.hs ST.out.be.size)))
              have hcm2 : 1 ≤ cm := by simp at hcm; omega
              simp only [List.length_cons] at hcm hqk
              clear o2 r2 hc2
              have rd := (Reads.of_own (A := some ⟨g, 0, none⟩) O2.out).cut (k := 1) (cap := cm) (by simp) (by simpa using hcm)
              have RD := Lib.hid rd; clear rd
              go_wp2_with (at_builtin; refine wpList_append_any _ rfl (.tmp 94) (.tmp 96) 55 rfl w2.heap.size 2 _ _ 1 8 Try.underlying55 (info_parts info_int64).choose_spec.1 (info_parts info_int64).choose_spec.2.1 (info_parts info_int64).choose_spec.2.2.1 (info_parts info_int64).choose_spec.2.2.2 rfl (by omega) (.slice (some ⟨w2.heap.size, 0, none⟩) 0 0) 0 [] rfl (by exact World.ownsRow_lit w2 #[] 0 (Nat.le_refl _) (by unfold maxLen; omega) rfl) w2.heap.size _ q.length (cm - 1) (q.map fun x => Value.int .i64 x) rfl (by exact RD.out.alloc (Nat.le_refl _) _) (by intro x hx; obtain ⟨_, _, rfl⟩ := List.mem_map.1 hx; rfl) (by unfold maxLen; omega) (by omega) (by simp) ?_; intro v' w3 hown3 hg3 hat3)
              all_goals
                go_meet
                case rel => exact ⟨q, by omega, Lib.hid (PlaySt.fresh_ R2.out (((Below.refl _ _).alloc (Nat.le_refl _) _).grown hg3 (by simp) (by intro y hy; simp [Value.ownBlock] at hy; omega)) (by simpa using hown3) BE2.out (Nat.le_refl _) ⟨hp, hl⟩)⟩
          · have hk3 : (K == 3) = false := by simpa using hK3
            have hk4 : (K == 4) = false := by simpa using hK4
            by_cases hK5 : K = 5
            · subst hK5
              by_cases hI0 : I < 0
              · have hd : decide (0 ≤ I) = false := by simp; omega
                obtain ⟨Am, cm, rfl, hcm, _⟩ := own_form ST.out.own
                go_wp2_with fail
                refine Calls.mono (ring_peek_out_int64 p l n _ I _ (by exact ST.out.ring) (by simp; omega)) ?_
                rintro e w2 ⟨rfl, k2, rfl⟩
                go_wp2_with fail
                go_meet
                case rel => exact ⟨q, by omega, Lib.hid (ST.out.drewN _)⟩
              · have hd : decide (0 ≤ I) = true := by simp; omega
                by_cases hI1 : (q.length : Int) ≤ I
                · have hd2 : decide (I < (q.length : Int)) = false := by simp; omega
                  obtain ⟨Am, cm, rfl, hcm, _⟩ := own_form ST.out.own
                  go_wp2_with fail
                  refine Calls.mono (ring_peek_out_int64 p l n _ I _ (by exact ST.out.ring) (by simp; omega)) ?_
                  rintro e w2 ⟨rfl, k2, rfl⟩
                  go_wp2_with fail
                  go_meet
                  case rel => exact ⟨q, by omega, Lib.hid (ST.out.drewN _)⟩
                · obtain ⟨i, rfl⟩ : ∃ i : Nat, I = (i : Int) := ⟨I.toNat, by omega⟩
                  have hil : i < q.length := by omega
                  have hd2 : decide ((i : Int) < (q.length : Int)) = true := by simp; omega
                  obtain ⟨Am, cm, rfl, hcm, hAm⟩ := own_form ST.out.own
                  obtain ⟨g, rfl, hg, _⟩ := hAm (by omega)
                  have cx : wr.cell? ⟨g, i, none⟩ = some (.int .i64 q[i]) := (own_cell ST.out.own (j := i) (by simpa using hil)).trans (by simp)
                  have hq := Lib.hid (show (q.map fun x => Value.int .i64 x)[i]? = some (.int .i64 q[i]) by simp [hil])
                  generalize q[i] = x at cx hq
                  go_wp2_with fail
                  refine Calls.mono (ring_peek_in_int64 p l n _ i _ _ (by exact ST.out.ring) hq.out) ?_
                  rintro e w2 ⟨rfl, k2, rfl⟩
                  go_wp2_with fail
                  go_meet
                  case rel => exact ⟨q, by omega, Lib.hid (ST.out.drewN _)⟩
            · have hk5 : (K == 5) = false := by simpa using hK5
              by_cases hq : q.length < n
              · have hd : decide ((q.length : Int) < (n : Int)) = true := by simp; omega
                obtain ⟨Am, cm, rfl, hcm, _⟩ := own_form ST.out.own
                go_wp2_with fail
                refine Calls.mono (ring_push_int64 p l n _ V _ (by exact ST.out.ring)) ?_
                rintro e w2 ⟨he, r2, hc2⟩
                rw [List.length_map, if_pos hq] at r2
                rw [List.length_map, decide_eq_true hq] at he
                subst he
                have S2 := Lib.hid (ST.out.own)
                have R2 : Hid (RingIs w2 103 2 p l n ((q ++ [V]).map fun x => Value.int .i64 x)) := Lib.hid (by simpa using r2)
                have o2 := own_chg ST.out.own hc2 fun y hy hm => ST.out.ap y hm (by rw [hy]; simp)
                have O2 := Lib.hid o2
                have be2 := ST.out.be.trans (hc2.below (B := w.heap.size) (by simp; omega) (Nat.le_trans ST.out.hs ST.out.be.size))
                have cv : w2.cell? ⟨b, off + k * 3 + 2, none⟩ = some (.int .i64 V) := by
                  have hlt2 := ST.out.ring.lt
                  rw [← ck2]
                  exact hc2.cell (p := ⟨b, off + k * 3 + 2, none⟩) (Nat.lt_of_lt_of_le hb (Nat.le_trans ST.out.hs ST.out.be.size)) (by simp; omega)
                have BE2 := Lib.hid be2
                clear o2 r2 hc2 be2
                have hltb : b < w2.heap.size := Nat.lt_of_lt_of_le hb BE2.out.size
                have rd := Reads.of_own O2.out
                have RD := Lib.hid rd; clear rd
                obtain ⟨i0, hi0, hz0, hz1, hz2⟩ := info_parts info_int64
                go_wp2_with fail
                go_region_held3 (fun w' => w'.cell? ⟨b, off + k * 3 + 2, none⟩ = some (.int .i64 V) ∧ Below w2.heap.size w2 w')
                  (first
                    | exact ⟨cv, below_drewN (Below.refl _ _) 1⟩
                    | exact ⟨(Below.cell (p := ⟨b, off + k * 3 + 2, none⟩) hBel.out hltb).trans cv, hBel.out⟩
                    | (obtain ⟨_, hh⟩ := ‹_ ∧ Below w2.heap.size w2 _›; exact ⟨(Below.cell (p := ⟨b, off + k * 3 + 2, none⟩) (hh.alloc hh.size _) hltb).trans cv, hh.alloc hh.size _⟩))
                  (first
                    | (refine step_append_below (o := ⟨some 54, _, _, _, _, _⟩) (by rfl) (.tmp 52) (.tmp 53) _ (by rfl) w2.heap.size 2 _ 1 8 Try.underlying55 info_int64 rfl (by omega) _ 0 [] (by rfl) (by first | exact own_empty (Blk.new _ _ _) (by first | exact Nat.le_refl _ | exact Nat.le_succ _) | exact own_empty ((Blk.new _ _ _).alloc _) (Nat.le_refl _) | exact own_empty (Blk.new1 _ _ _ _) (Nat.le_succ _)) w2.heap.size Am q.length cm (q.map fun x => Value.int .i64 x) (by rfl) (by have hh := (‹_ ∧ Below w2.heap.size w2 _›).2; exact RD.out.below hh) (by intro x hx; obtain ⟨_, _, rfl⟩ := List.mem_map.1 hx; rfl) (by omega) (by omega) w2 (by exact (‹_ ∧ Below w2.heap.size w2 _›).2) (Nat.le_refl _) ?_; intro v3 w3 hown3 hBel hg3; (try have hx60 := Lib.hid (Blk.grown (t := 2) (cs := #[.int .i64 V]) (by first | exact Blk.new1 _ _ _ _ | exact (Blk.new _ _ _).alloc _) hg3.out (by simp [Value.ownBlock, Act.eval]))))
                    | (refine step_append_below (o := ⟨some 61, _, _, _, _, _⟩) (by rfl) (.tmp 54) (.tmp 60) _ (by rfl) w2.heap.size 2 _ 1 8 Try.underlying55 info_int64 rfl (by omega) v3 (0 + q.length) ([] ++ q.map fun x => Value.int .i64 x) (by rfl) (by first | exact hown3 | exact hown3.alloc _) _ _ 1 1 [.int .i64 V] (by rfl) (by first | exact reads_blk hx60.out | exact reads_blk (Blk.new _ _ _)) (by simp [Value.oneCell']) (by omega) (by omega) w2 (by exact (‹_ ∧ Below w2.heap.size w2 _›).2) (Nat.le_refl _) ?_; intro v4 w4 hown4 hBel hg4))
                all_goals
                  clear hown3 hg3
                  go_wp2_with fail
                  go_meet
                  case rel => exact ⟨q ++ [V], by simp; omega, Lib.hid (PlaySt.fresh_ R2.out hBel.out (by simpa using hown4) BE2.out (Nat.le_refl _) ⟨hp, hl⟩)⟩
              · have hd : decide ((q.length : Int) < (n : Int)) = false := by simp; omega
                obtain ⟨Am, cm, rfl, hcm, _⟩ := own_form ST.out.own
                go_wp2_with fail
                refine Calls.mono (ring_push_int64 p l n _ V _ (by exact ST.out.ring)) ?_
                rintro e w2 ⟨he, r2, hc2⟩
                rw [List.length_map, if_neg hq] at r2
                rw [List.length_map, decide_eq_false hq] at he
                subst he
                have S2 := Lib.hid (ST.out.ring_ r2 hc2)
                clear r2 hc2
                go_wp2_with fail
                go_meet
                case rel => exact ⟨q, by omega, S2⟩
      case rest =>
        clear ST HC ck0 ck1 ck2
        obtain ⟨q', hq', S⟩ := hcut
        obtain ⟨Am, cm, rfl, hcm, _⟩ := own_form S.out.own
        have hln := S.out.ring.len
        rw [List.length_map] at hln
        go_wp2_with fail
        refine Calls.mono (ring_len_int64 p l n _ _ (by exact S.out.ring)) ?_
        rintro e w2 ⟨he, rfl⟩
        rw [List.length_map] at he
        subst he
        have hl1 : ((q'.length : Int) != q'.length) = false := by simp
        go_wp2_with fail
        refine Calls.mono (ring_room_int64 p l n _ _ (by exact S.out.ring)) ?_
        rintro e w2 ⟨he, k2, rfl⟩
        rw [List.length_map] at he
        subst he
        have hl2 : ((n : Int) - q'.length != (n : Int) - q'.length) = false := by simp
        go_wp2_with fail
        refine Calls.mono (ring_all_int64 p l n q' _ (by exact S.out.ring.drewN _)) ?_
        rintro e w3 ⟨u, rfl, hu, hb3⟩
        have U3 := Lib.hid hu
        have B3 := Lib.hid hb3
        have O3 := Lib.hid (own_chg (S.out.own) ((Chg.refl [] wc).drewN k2 |>.trans ((Chg.of_below hb3 []))) (by simp))
        clear hu hb3
        go_wp2_with fail
        refine Calls.mono (same_int64 u _ q' _ _ _ U3.out O3.out (by omega)) ?_
        rintro e w4 ⟨rfl, k4, rfl⟩
        go_wp2_with fail
        go_roundw
        case rel => exact ⟨k + 1, q', by omega, by go_num, by omega, Lib.hid (PlaySt.drewN (PlaySt.later (S.out.drewN k2) B3.out) k4)⟩
        case measure => simp [intOf]; omega
    · by_cases hlt1 : k < m
      · have hk50 : k = 100 := by omega
        subst hk50
        go_wp2_with fail
        exact hR.out _ _ ⟨rfl, ST.out.be⟩
      · have hd : decide ((k : Int) < m) = false := by simp; omega
        go_wp2_with fail
        exact hR.out _ _ ⟨rfl, ST.out.be⟩
end Go.Proofs.Ytjabofofofddbaa
