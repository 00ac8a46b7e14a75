/- PoolLives: the walk. -/
import Derived.Test.YtjabofofofddbaaPoolEntryC
import Derived.Test.YtjabofofofddbaaPoolLivesA
import Derived.Test.YtjabofofofddbaaPoolLaw
import Derived.Test.YtjabofofofddbaaRingLaw
import Derived.Test.YtjabofofofddbaaEq
import Derived.Test.YtjabofofofddbaaPoolE
namespace Go.Proofs.Ytjabofofofddbaa
open Go.RowKit
set_option linter.unusedVariables false
set_option linter.unusedSimpArgs false
set_option maxRecDepth 100000

/-- The pool, the Refs that were told, which of them are over, what their places have. -/
structure LS0 (B p : Nat) (w0 wr : World) (lv fv vt vo vh : Value) (s : PSt (Int × Int)) (LT LO LH : List (List Value)) : Prop where
  po : PoolOwn B w0 wr 106 111 3 4 (fun (v : Int × Int) => [Value.int .i64 v.1, Value.int .i64 v.2]) p lv fv s
  tt : TabIs wr B 57 2 vt LT
  ov : TabIs wr B 4 1 vo LO
  th : TabIs wr B 2 1 vh LH

section
variable {B p : Nat} {w0 wr w' : World} {lv fv lv' fv' vt vo vh v' : Value} {s s' : PSt (Int × Int)} {LT LO LH : List (List Value)}
theorem PoolIs.ne_tab {α : Type} {T TP TI sz p base e sz2 : Nat} {enc : α → List Value} {lv fv v : Value} {s : PSt α} {L : List (List Value)} (h : PoolIs wr T TP TI sz enc p lv fv s) (ht : TabIs wr base e sz2 v L) (n1 : e ≠ T) (n2 : e ≠ TP) (n3 : e ≠ TI) : Apart v.ownBlock.toList (poolFp p lv fv) := fun x hx hm => by
  rcases mem_poolFp.1 hm with rfl | hm | hm
  · exact ht.ne_blk h.blk n1 (by simpa using hx)
  · exact ht.ne_tab h.tab n2 x hx hm
  · exact ht.ne_tab h.free n3 x hx hm
theorem LS0.pool (h : LS0 B p w0 wr lv fv vt vo vh s LT LO LH) (h2 : PoolIs w' 106 111 3 4 (fun (v : Int × Int) => [Value.int .i64 v.1, Value.int .i64 v.2]) p lv' fv' s') (hc : Chg (poolFp p lv fv) wr w') (hf : Fresh (poolFp p lv fv) (poolFp p lv' fv') wr) : LS0 B p w0 w' lv' fv' vt vo vh s' LT LO LH :=
  ⟨h.po.step h2 hc hf, h.tt.chg hc (h.po.is.ne_tab h.tt (by decide) (by decide) (by decide)), h.ov.chg hc (h.po.is.ne_tab h.ov (by decide) (by decide) (by decide)), h.th.chg hc (h.po.is.ne_tab h.th (by decide) (by decide) (by decide))⟩
theorem LS0.later (h : LS0 B p w0 wr lv fv vt vo vh s LT LO LH) (hb : Below wr.heap.size wr w') : LS0 B p w0 w' lv fv vt vo vh s LT LO LH := ⟨h.po.later hb, h.tt.later hb, h.ov.later hb, h.th.later hb⟩
theorem LS0.alloc (h : LS0 B p w0 wr lv fv vt vo vh s LT LO LH) (o : Obj) : LS0 B p w0 (wr.alloc o) lv fv vt vo vh s LT LO LH := h.later ((Below.refl _ _).alloc (Nat.le_refl _) _)
theorem LS0.drewN (h : LS0 B p w0 wr lv fv vt vo vh s LT LO LH) (k : Nat) : LS0 B p w0 (wr.drewN k) lv fv vt vo vh s LT LO LH := ⟨h.po.drewN k, h.tt, h.ov, h.th⟩
theorem LS0.pushT {L : List (List Value)} (h : LS0 B p w0 wr lv fv vt vo vh s LT LO LH) (ht : TabIs w' B 57 2 v' L) (hc : Chg vt.ownBlock.toList wr w') : LS0 B p w0 w' lv fv v' vo vh s L LO LH :=
  ⟨h.po.chg hc (h.po.is.ne_tab h.tt (by decide) (by decide) (by decide)).symm (fun x hx => (h.tt.lt x hx).1), ht, h.ov.chg hc (h.ov.ne_tab h.tt (by decide)), h.th.chg hc (h.th.ne_tab h.tt (by decide))⟩
theorem LS0.pushO {L : List (List Value)} (h : LS0 B p w0 wr lv fv vt vo vh s LT LO LH) (ht : TabIs w' B 4 1 v' L) (hc : Chg vo.ownBlock.toList wr w') : LS0 B p w0 w' lv fv vt v' vh s LT L LH :=
  ⟨h.po.chg hc (h.po.is.ne_tab h.ov (by decide) (by decide) (by decide)).symm (fun x hx => (h.ov.lt x hx).1), h.tt.chg hc (h.tt.ne_tab h.ov (by decide)), ht, h.th.chg hc (h.th.ne_tab h.ov (by decide))⟩
theorem LS0.pushH {L : List (List Value)} (h : LS0 B p w0 wr lv fv vt vo vh s LT LO LH) (ht : TabIs w' B 2 1 v' L) (hc : Chg vh.ownBlock.toList wr w') : LS0 B p w0 w' lv fv vt vo v' s LT LO L :=
  ⟨h.po.chg hc (h.po.is.ne_tab h.th (by decide) (by decide) (by decide)).symm (fun x hx => (h.th.lt x hx).1), h.tt.chg hc (h.tt.ne_tab h.th (by decide)), h.ov.chg hc (h.ov.ne_tab h.th (by decide)), ht⟩
theorem LS0.led (h : LS0 B p w0 wr lv fv vt vo vh s LT LO LH) : Led B w0 wr [poolE 106 111 3 4 (fun (v : Int × Int) => [Value.int .i64 v.1, Value.int .i64 v.2]) p lv fv s, tabE 57 2 vt LT, tabE 4 1 vo LO, tabE 2 1 vh LH] := by
  refine ⟨h.po.be, h.po.hs, ?_, ?_, ?_⟩
  · intro e he
    simp at he
    rcases he with rfl | rfl | rfl | rfl
    · exact h.po.is
    · exact h.tt.base_ (Nat.zero_le _)
    · exact h.ov.base_ (Nat.zero_le _)
    · exact h.th.base_ (Nat.zero_le _)
  · intro e he
    simp at he
    rcases he with rfl | rfl | rfl | rfl
    · exact h.po.lo
    · exact fun b hb => (h.tt.lt b hb).1
    · exact fun b hb => (h.ov.lt b hb).1
    · exact fun b hb => (h.th.lt b hb).1
  · simp only [List.pairwise_cons, List.mem_cons, List.not_mem_nil, or_false, forall_eq_or_imp, forall_eq, List.Pairwise.nil, and_true, false_implies, implies_true]
    exact ⟨⟨(h.po.is.ne_tab h.tt (by decide) (by decide) (by decide)).symm, (h.po.is.ne_tab h.ov (by decide) (by decide) (by decide)).symm, (h.po.is.ne_tab h.th (by decide) (by decide) (by decide)).symm⟩, ⟨h.tt.ne_tab h.ov (by decide), h.tt.ne_tab h.th (by decide)⟩, h.ov.ne_tab h.th (by decide)⟩
theorem LS0.of_led {es : List Ent} {e0 : Ent} (h : Led B w0 wr (e0 :: poolE 106 111 3 4 (fun (v : Int × Int) => [Value.int .i64 v.1, Value.int .i64 v.2]) p lv fv s :: tabE 57 2 vt LT :: tabE 4 1 vo LO :: tabE 2 1 vh LH :: es)) : LS0 B p w0 wr lv fv vt vo vh s LT LO LH :=
  have h1 := h.at_ 1 rfl
  have h2 : TabIs wr 0 57 2 vt LT := h.at_ 2 rfl
  have h3 : TabIs wr 0 4 1 vo LO := h.at_ 3 rfl
  have h4 : TabIs wr 0 2 1 vh LH := h.at_ 4 rfl
  ⟨⟨h1, h.lo _ (List.mem_of_getElem? (i := 1) rfl), h.be, h.hs⟩, h2.up (h.lo _ (List.mem_of_getElem? (i := 2) rfl)), h3.up (h.lo _ (List.mem_of_getElem? (i := 3) rfl)), h4.up (h.lo _ (List.mem_of_getElem? (i := 4) rfl))⟩
theorem LS0.setO {g n c m : Nat} {r : List Value} (h : LS0 B p w0 wr lv fv vt (.slice (some ⟨g, 0, none⟩) n c) vh s LT LO LH) (u : Value) (hi : LO[m]? = some r) : LS0 B p w0 (wr.setCell ⟨g, m, none⟩ u) lv fv vt (.slice (some ⟨g, 0, none⟩) n c) vh s LT (LO.set m (r.set 0 u)) LH := by
  have h1 := h.ov.set (i := m) (j := 0) u hi (by decide)
  rw [Nat.mul_one, Nat.add_zero] at h1
  exact h.pushO h1 ((Chg.refl _ _).setCell (p := ⟨g, m, none⟩) (.inl (by simp [Value.ownBlock])) _)
theorem set_same {α : Type} {l : List α} {m : Nat} {x : α} (h : l[m]? = some x) : l.set m x = l := by
  apply List.ext_getElem?
  intro i
  by_cases hi : m = i
  · subst hi
    rw [List.getElem?_set_self (List.getElem?_eq_some_iff.1 h).1, h]
  · rw [List.getElem?_set_ne hi]
end
/-- The lists are what the plain one tells. -/
def tT (T : List Told) : List (List Value) := T.map fun t => [Value.int .i64 (t.at_ : Int), Value.int .i64 t.gen]
def tO (T : List Told) : List (List Value) := T.map fun t => [Value.bool t.over]
def tH (T : List Told) : List (List Value) := T.map fun t => [Value.int .i64 t.has]

theorem tT_over {T : List Told} {m : Nat} {t : Told} (h : T[m]? = some t) : tT (T.set m { t with over := true }) = tT T ∧ tH (T.set m { t with over := true }) = tH T ∧ tO (T.set m { t with over := true }) = (tO T).set m [.bool true] := by
  refine ⟨?_, ?_, by rw [tO, List.map_set]; rfl⟩
  · rw [tT, List.map_set]
    exact set_same (by rw [List.getElem?_map, h]; rfl)
  · rw [tH, List.map_set]
    exact set_same (by rw [List.getElem?_map, h]; rfl)

theorem nil_or_snoc {α : Type} (l : List α) : l = [] ∨ ∃ fs a, l = fs ++ [a] := by
  rcases List.eq_nil_or_concat l with h | ⟨fs, a, h⟩
  · exact .inl h
  · exact .inr ⟨fs, a, by simpa using h⟩

theorem lives_take_any (B p k : Nat) (w0 wr : World) (lv fv vt vo vh : Value) (s : PSt (Int × Int)) (T : List Told) (cv : Int) (LT LO LH : List (List Value)) (h : LS0 B p w0 wr lv fv vt vo vh s LT LO LH) (iv : LInv s T k) (hk : k < 60) :
    Calls Try.prog 31 #[.pointer (some ⟨p, 0, none⟩), .agg #[.int .i64 cv, .int .i64 0]] wr fun e w' =>
      (e = .returned (.tuple #[.agg #[.int .i64 0, .int .i64 0], .bool false]) ∧ LS0 B p w0 w' lv fv vt vo vh s LT LO LH) ∨
      (∃ (a : Nat) (g : Int) (lv' fv' : Value) (s' : PSt (Int × Int)), e = .returned (.tuple #[.agg #[.int .i64 a, .int .i64 g], .bool true]) ∧ LS0 B p w0 w' lv' fv' vt vo vh s' LT LO LH ∧ s'.most = s.most ∧ LInv s' (T ++ [⟨a, g, false, cv⟩]) ((k : Int) + 1) ∧ ∀ t ∈ T, ¬ (t.at_ = a ∧ t.gen = g)) := by
  rcases nil_or_snoc s.free with hf | ⟨fs, a, hf⟩
  · by_cases hlt : s.l.length < s.most
    · refine Calls.mono (pool_take_fresh_entry p lv fv s (cv, 0) wr h.po.is hf hlt) ?_
      rintro e w3 ⟨rfl, lv', fv', q1, q2, q3⟩
      obtain ⟨i1, i2⟩ := iv.fresh (cv, 0) hf hlt (by omega)
      exact .inr ⟨_, _, lv', fv', _, rfl, h.pool q1 q2 q3, rfl, i1, fun t ht e => i2 t ht e.1⟩
    · refine Calls.mono (pool_take_full_entry p lv fv s (cv, 0) wr h.po.is hf (by omega)) ?_
      rintro e w3 ⟨rfl, q1⟩
      exact .inl ⟨rfl, h.later q1⟩
  · obtain ⟨x, hx, _⟩ := iv.wf.free_lt (i := a) (by rw [hf]; simp)
    refine Calls.mono (pool_take_back_entry p lv fv s (cv, 0) a fs x wr h.po.is hf hx) ?_
    rintro e w3 ⟨rfl, lv', fv', q1, q2, q3⟩
    obtain ⟨i0, i1, i2⟩ := iv.back (cv, 0) hf hx (by omega)
    rw [i0]
    exact .inr ⟨_, _, lv', fv', _, rfl, h.pool q1 q2 q3, rfl, i1, i2⟩

set_option maxHeartbeats 4000000 in
theorem pool_lives (A1 : Option Addr) (n1 c1 : Nat) (G1 : Nat → Int) (w : World) (hc1 : n1 ≤ 9223372036854775807)
    (hA1 : SlArg w w.heap.size A1 n1 5 fun j => .int .i64 (G1 j)) (hG : ∀ j, j < n1 * 5 → -9223372036854775808 ≤ G1 j ∧ G1 j ≤ 9223372036854775807) :
    Calls Try.prog 7 #[.slice A1 n1 c1] w fun e w' => e = .returned (.bool true) ∧ Below w.heap.size w w' := by
  have HA1 := Lib.hid hA1; clear hA1
  have HG := Lib.hid hG; clear hG
  refine callsR fun R hR => ?_
  go_enter Try.func7, Try.ntmps7
  go_wp2_with fail
  refine Calls.mono (pool_new_entry 5 5 _ (by decide)) ?_
  rintro e w1 ⟨p, rfl, r1, hp, hb1⟩
  have S1 : Hid (LS0 w.heap.size p w w1 (.slice none 0 0) (.slice none 0 0) (.slice none 0 0) (.slice none 0 0) (.slice none 0 0) ⟨5, [], []⟩ [] [] []) := Lib.hid ⟨PoolOwn.new r1 hp hb1 (Below.refl _ _) (Nat.le_refl _), TabIs.nil _ _ _ _, TabIs.nil _ _ _ _, TabIs.nil _ _ _ _⟩
  clear r1 hb1
  go_wp2_with fail
  go_loopw [4, 5, 6, 7] (fun a b c i wr => ∃ (k : Nat) (lv fv : Value) (s : PSt (Int × Int)) (T : List Told), k ≤ 60 ∧ T.length ≤ k ∧ s.most = 5 ∧ i = .int .i64 k ∧ Hid (LS0 w.heap.size p w wr lv fv a b c s (tT T) (tO T) (tH T)) ∧ Hid (LInv s T k)) (fun _ _ _ i _ => 60 - (intOf i).toNat)
  case atStart => exact ⟨0, _, _, _, [], by omega, by simp, rfl, rfl, S1, Lib.hid (LInv.empty 5 (by decide) _)⟩
  case round =>
    obtain ⟨k, lv, fv, s, T, hk, hTk, hm5, rfl, ST, IV⟩ := hrel
    obtain ⟨At, ct, hu4, hct, hAt⟩ := ST.out.tt.form
    obtain ⟨Ao, co, hu5, hco, hAo⟩ := ST.out.ov.form
    obtain ⟨Ah, ch, hu6, hch, hAh⟩ := ST.out.th.form
    obtain ⟨nt, hnt⟩ : ∃ n, T.length = n := ⟨_, rfl⟩
    rw [hnt] at hTk
    simp only [tT, tO, tH, List.length_map, hnt] at hu4 hct hAt hu5 hco hAo hu6 hch hAh
    subst hu4 hu5 hu6
    have HNT := Lib.hid hnt; clear hnt
    by_cases hlt : k < n1 ∧ k < 60
    · obtain ⟨hlt1, hlt2⟩ := hlt
      obtain ⟨b, off, rfl, hb, hcell⟩ := HA1.out (by omega)
      have ck0 : wr.cell? ⟨b, off + k * 5, none⟩ = some (.int .i64 (G1 (k * 5))) := (ST.out.po.be.cell (p := ⟨b, off + k * 5, none⟩) hb).trans (hcell (k * 5) (by omega))
      have ck1 : wr.cell? ⟨b, off + k * 5 + 1, none⟩ = some (.int .i64 (G1 (k * 5 + 1))) := (ST.out.po.be.cell (p := ⟨b, off + k * 5 + 1, none⟩) hb).trans (hcell (k * 5 + 1) (by omega))
      have ck2 : wr.cell? ⟨b, off + k * 5 + 2, none⟩ = some (.int .i64 (G1 (k * 5 + 2))) := (ST.out.po.be.cell (p := ⟨b, off + k * 5 + 2, none⟩) hb).trans (hcell (k * 5 + 2) (by omega))
      have gb0 := HG.out (k * 5) (by omega)
      have gb1 := HG.out (k * 5 + 1) (by omega)
      have gb2 := HG.out (k * 5 + 2) (by omega)
      have HC := Lib.hid hcell; clear hcell
      generalize G1 (k * 5) = kd at ck0 gb0
      generalize G1 (k * 5 + 1) = ci at ck1 gb1
      generalize G1 (k * 5 + 2) = cv at ck2 gb2
      obtain ⟨q1, hq1⟩ : ∃ q : Bool, decide (0 < nt) = q := ⟨_, rfl⟩
      obtain ⟨q2, hq2⟩ : ∃ q : Bool, (kd.tmod 3 == 0) = q := ⟨_, rfl⟩
      go_upto_region 10 with fail
      go_cut [42] (fun t wx => t = .bool (q1 && q2) ∧ wr = wx)
      case first =>
        cases q1 with
        | false =>
          go_wp2_with fail
          go_meet
          case rel => exact ⟨rfl, rfl⟩
        | true =>
          have hnt0 : 0 < nt := by simpa using hq1
          obtain ⟨gt, rfl, hgt, _⟩ := hAt hnt0
          go_wp2_with fail
          go_meet
          case rel => exact ⟨rfl, rfl⟩
      case rest =>
        obtain ⟨hu42, rfl⟩ := hcut
        obtain ⟨qq, hqq⟩ : ∃ q : Bool, (q1 && q2) = q := ⟨_, rfl⟩
        rw [hqq] at hu42
        subst hu42
        go_upto_if 42 with fail
        go_cut [4, 5, 6] (fun a b c wx => ∃ (lv fv : Value) (s : PSt (Int × Int)) (T : List Told), T.length ≤ k + 1 ∧ s.most = 5 ∧ Hid (LS0 w.heap.size p w wx lv fv a b c s (tT T) (tO T) (tH T)) ∧ Hid (LInv s T (k + 1 : Nat)))
        case first =>
          cases qq with
          | false =>
            clear hq1 hq2 hqq
            have CK2 := Lib.hid ck2
            go_wp2_with fail
            refine Calls.mono (lives_take_any w.heap.size p k w wr lv fv _ _ _ s T cv _ _ _ ST.out IV.out hlt2) ?_
            rintro e w3 (⟨rfl, q1⟩ | ⟨a3, g3, lv3, fv3, s3, rfl, q1, q2, q3, q4⟩)
            · have S3 := Lib.hid q1; clear q1
              go_wp2_with fail
              go_meet
              case rel => exact ⟨lv, fv, s, T, by rw [HNT.out]; omega, hm5, Lib.hid (S3.out.alloc _), Lib.hid (IV.out.mono (by omega))⟩
            · have S3 := Lib.hid q1
              have I3 := Lib.hid q3
              have N3 := Lib.hid q4
              have M3 := Lib.hid q2
              clear q1 q2 q3 q4
              go_wp2_with fail
              have rb := Blk.new w3 57 #[.int .i64 a3, .int .i64 g3]
              have r0 := rb.cell 0
              have r1 := rb.cell 1
              have RB := Lib.hid rb
              clear rb
              have S4 := Lib.hid (S3.out.alloc (.cells #[.int .i64 a3, .int .i64 g3] 57))
              go_loopw [13] (fun i wx => ∃ j m : Nat, j ≤ nt ∧ i = .int .i64 j ∧ wx = (w3.alloc (.cells #[.int .i64 a3, .int .i64 g3] 57)).drewN m) (fun i _ => nt - (intOf i).toNat)
              case atStart => exact ⟨0, 0, by omega, rfl, rfl⟩
              case round =>
                obtain ⟨j, m, hj, rfl, rfl⟩ := hrel
                by_cases hjn : j < nt
                · obtain ⟨t, ht⟩ : ∃ t, T[j]? = some t := ⟨_, List.getElem?_eq_getElem (by rw [HNT.out]; exact hjn)⟩
                  obtain ⟨gt, rfl, hgt, _⟩ := hAt (by omega)
                  have t0 : (w3.alloc (.cells #[.int .i64 a3, .int .i64 g3] 57)).cell? ⟨gt, j * 2, none⟩ = some (.int .i64 t.at_) := S4.out.tt.cell (i := j) (j := 0) (r := [.int .i64 t.at_, .int .i64 t.gen]) (u := .int .i64 t.at_) (by rw [tT, List.getElem?_map, ht]; rfl) rfl
                  have t1 : (w3.alloc (.cells #[.int .i64 a3, .int .i64 g3] 57)).cell? ⟨gt, j * 2 + 1, none⟩ = some (.int .i64 t.gen) := S4.out.tt.cell (i := j) (j := 1) (r := [.int .i64 t.at_, .int .i64 t.gen]) (u := .int .i64 t.gen) (by rw [tT, List.getElem?_map, ht]; rfl) rfl
                  have hne := N3.out t (List.mem_of_getElem? ht)
                  have HT := Lib.hid ht; clear ht
                  have hq : refEq t.at_ t.gen a3 g3 = false := refEq_false.2 (fun e => hne ⟨by omega, e.2⟩)
                  clear hne
                  have rq := ref_eql
                  go_wp2_with fail
                  go_quiet (fail)
                  go_wp2_with fail
                  go_roundw
                  case rel => exact ⟨j + 1, _, by omega, by go_num, rfl⟩
                  case measure => simp [intOf]; omega
                · clear r0 r1
                  obtain ⟨nt2, ht2⟩ : ∃ n, n = nt := ⟨_, rfl⟩
                  have hb0 := hb
                  have ck2w := (ST.out.po.be.cell (p := ⟨b, off + k * 5 + 2, none⟩) hb).symm.trans CK2.out
                  have LD := Lib.hid ((S3.out.led.add (blkE w3.heap.size 57 #[.int .i64 a3, .int .i64 g3]) ((Below.refl _ _).alloc (Nat.le_refl _) _) (Blk.new w3 57 #[.int .i64 a3, .int .i64 g3]) (fun b hb => by simp [blkE] at hb; omega)).drewN m)
                  have ck2b : (w3.alloc (.cells #[.int .i64 a3, .int .i64 g3] 57)).cell? ⟨b, off + k * 5 + 2, none⟩ = some (.int .i64 cv) := (S4.out.po.be.cell (p := ⟨b, off + k * 5 + 2, none⟩) hb).trans ((ST.out.po.be.cell (p := ⟨b, off + k * 5 + 2, none⟩) hb).symm.trans CK2.out)
                  go_wp2_with fail
                  have hlT : (tT T).length ≤ 1000000000 := by rw [tT, List.length_map, HNT.out]; omega
                  have hlO : (tO T).length ≤ 1000000000 := by rw [tO, List.length_map, HNT.out]; omega
                  have hlH : (tH T).length ≤ 1000000000 := by rw [tH, List.length_map, HNT.out]; omega
                  refine wp_region_held_drew (S := fun wx => wx.cell? ⟨w3.heap.size, 0, none⟩ = some (.int .i64 a3) ∧ wx.cell? ⟨w3.heap.size, 1, none⟩ = some (.int .i64 g3) ∧ wx.cell? ⟨b, off + k * 5 + 2, none⟩ = some (.int .i64 cv)) (by as_aux_lemma => kernel_rfl) ?_ (fun hHeld => ?_)
                  · exact ⟨RB.out.cell 0, RB.out.cell 1, ck2b⟩
                  refine wpAnyH_read (i := 0) (d := 116) (v := ?_) rfl rfl rfl (by as_aux_lemma => kernel_rfl) (by as_aux_lemma => kernel_rfl) (by as_aux_lemma => kernel_rfl) (fun _ _ _ h => h) hHeld ?_ ?_
                  rotate_left
                  · intro w hSw
                    (try dsimp only at hSw)
                    go_simp
                    (try with_reducible rfl)
                  (try simp only [List.setIfInBounds_toArray, List.set_cons_zero, List.set_cons_succ])
                  refine wpAnyH_read (i := 1) (d := 117) (v := ?_) rfl rfl rfl (by as_aux_lemma => kernel_rfl) (by as_aux_lemma => kernel_rfl) (by as_aux_lemma => kernel_rfl) (fun _ _ _ h => h) hHeld ?_ ?_
                  rotate_left
                  · intro w hSw
                    (try dsimp only at hSw)
                    go_simp
                    (try with_reducible rfl)
                  (try simp only [List.setIfInBounds_toArray, List.set_cons_zero, List.set_cons_succ])
                  refine wpAnyH_read (i := 4) (d := 120) (v := ?_) rfl rfl rfl (by as_aux_lemma => kernel_rfl) (by as_aux_lemma => kernel_rfl) (by as_aux_lemma => kernel_rfl) (fun _ _ _ h => h) hHeld ?_ ?_
                  rotate_left
                  · intro w hSw
                    (try dsimp only at hSw)
                    go_simp
                    (try with_reducible rfl)
                  (try simp only [List.setIfInBounds_toArray, List.set_cons_zero, List.set_cons_succ])
                  refine wpAnyH_read (i := 7) (d := 123) (v := ?_) rfl rfl rfl (by as_aux_lemma => kernel_rfl) (by as_aux_lemma => kernel_rfl) (by as_aux_lemma => kernel_rfl) (fun _ _ _ h => h) hHeld ?_ ?_
                  rotate_left
                  · intro w hSw
                    (try dsimp only at hSw)
                    go_simp
                    (try with_reducible rfl)
                  (try simp only [List.setIfInBounds_toArray, List.set_cons_zero, List.set_cons_succ])
                  refine wpAnyH_read (i := 8) (d := 124) (v := ?_) rfl rfl rfl (by as_aux_lemma => kernel_rfl) (by as_aux_lemma => kernel_rfl) (by as_aux_lemma => kernel_rfl) (fun _ _ _ h => h) hHeld ?_ ?_
                  rotate_left
                  · intro w hSw
                    (try dsimp only at hSw)
                    go_simp
                    (try with_reducible rfl)
                  (try simp only [List.setIfInBounds_toArray, List.set_cons_zero, List.set_cons_succ])
                  refine wpAnyH_read (i := 9) (d := 125) (v := ?_) rfl rfl rfl (by as_aux_lemma => kernel_rfl) (by as_aux_lemma => kernel_rfl) (by as_aux_lemma => kernel_rfl) (fun _ _ _ h => h) hHeld ?_ ?_
                  rotate_left
                  · intro w hSw
                    (try dsimp only at hSw)
                    go_simp
                    (try with_reducible rfl)
                  (try simp only [List.setIfInBounds_toArray, List.set_cons_zero, List.set_cons_succ])
                  refine wpAnyH_read (i := 10) (d := 126) (v := ?_) rfl rfl rfl (by as_aux_lemma => kernel_rfl) (by as_aux_lemma => kernel_rfl) (by as_aux_lemma => kernel_rfl) (fun _ _ _ h => h) hHeld ?_ ?_
                  rotate_left
                  · intro w hSw
                    (try dsimp only at hSw)
                    go_simp
                    (try with_reducible rfl)
                  (try simp only [List.setIfInBounds_toArray, List.set_cons_zero, List.set_cons_succ])
                  refine wpAnyH_read (i := 11) (d := 127) (v := ?_) rfl rfl rfl (by as_aux_lemma => kernel_rfl) (by as_aux_lemma => kernel_rfl) (by as_aux_lemma => kernel_rfl) (fun _ _ _ h => h) hHeld ?_ ?_
                  rotate_left
                  · intro w hSw
                    (try dsimp only at hSw)
                    go_simp
                    (try with_reducible rfl)
                  (try simp only [List.setIfInBounds_toArray, List.set_cons_zero, List.set_cons_succ])
                  refine wpAnyH_read (i := 12) (d := 128) (v := ?_) rfl rfl rfl (by as_aux_lemma => kernel_rfl) (by as_aux_lemma => kernel_rfl) (by as_aux_lemma => kernel_rfl) (fun _ _ _ h => h) hHeld ?_ ?_
                  rotate_left
                  · intro w hSw
                    (try dsimp only at hSw)
                    go_simp
                    (try with_reducible rfl)
                  (try simp only [List.setIfInBounds_toArray, List.set_cons_zero, List.set_cons_succ])
                  clear hHeld
                  refine wpAnyH_appends0 (B := w.heap.size) (w0 := w) (F := 3) [⟨2, 3, 118, 119, 54, 57, 2, 16, .agg #[.int .i64 0, .int .i64 0], .tmp 116, .tmp 117, .slice At nt ct, tT T, #[.int .i64 a3, .int .i64 g3], .agg #[.int .i64 a3, .int .i64 g3]⟩, ⟨5, 6, 121, 122, 33, 4, 1, 1, .bool false, .tmp 120, .const (.bool false), .slice Ao nt co, tO T, #[.bool false], .bool false⟩, ⟨13, 14, 129, 130, 55, 2, 1, 8, .int .i64 0, .tmp 123, .tmp 128, .slice Ah nt ch, tH T, #[.int .i64 cv], .int .i64 cv⟩] [blkE w3.heap.size 57 #[.int .i64 a3, .int .i64 g3], poolE 106 111 3 4 (fun (v : Int × Int) => [Value.int .i64 v.1, Value.int .i64 v.2]) p lv3 fv3 s3] (by as_aux_lemma => kernel_rfl) LD.out.drew ?hok (by simp [tmps]) ?hS ?hfin
                  case hok =>
                    intro p hp
                    simp only [List.mem_cons, List.not_mem_nil, or_false] at hp
                    rcases hp with rfl | rfl | rfl
                    · exact ⟨⟨_, rfl, rfl, rfl, rfl⟩, ⟨_, rfl, rfl, rfl, rfl⟩, Try.underlying54, info_ref_, rfl, show 0 < 2 by decide, show 2 ≤ 1000 ∧ 16 ≤ 1000 by decide, hlT, rfl, one_ref _ _, fill_2 _ _ _ _ rfl, by kernel_rfl, by kernel_rfl, by simp [tmps], by simp⟩
                    · exact ⟨⟨_, rfl, rfl, rfl, rfl⟩, ⟨_, rfl, rfl, rfl, rfl⟩, Try.underlying33, info_bool_, rfl, show 0 < 1 by decide, show 1 ≤ 1000 ∧ 1 ≤ 1000 by decide, hlO, rfl, one_bool _, fill_1 _ _ rfl, by kernel_rfl, by kernel_rfl, by simp [tmps], by simp⟩
                    · exact ⟨⟨_, rfl, rfl, rfl, rfl⟩, ⟨_, rfl, rfl, rfl, rfl⟩, Try.underlying55, info_int64_, rfl, show 0 < 1 by decide, show 1 ≤ 1000 ∧ 8 ≤ 1000 by decide, hlH, rfl, one_int _, fill_1 _ _ rfl, by kernel_rfl, by kernel_rfl, by simp [tmps], by simp⟩
                  case hS =>
                    intro wx fs hl
                    have hb : Blk wx w3.heap.size 57 #[.int .i64 a3, .int .i64 g3] := hl.at_ 0 rfl
                    exact ⟨hb.cell 0, hb.cell 1, (hl.be.cell (p := ⟨b, off + k * 5 + 2, none⟩) hb0).trans ck2w⟩
                  case hfin =>
                    intro zs wz hz1 hz2 hl
                    obtain ⟨g1, v1, g2, v2, g3', v3, rfl⟩ := fin3 hz1 hz2
                    have hbz : Blk wz w3.heap.size 57 #[.int .i64 a3, .int .i64 g3] := hl.at_ 0 rfl
                    have hSz : wz.cell? ⟨w3.heap.size, 0, none⟩ = some (.int .i64 a3) ∧ wz.cell? ⟨w3.heap.size, 1, none⟩ = some (.int .i64 g3) ∧ wz.cell? ⟨b, off + k * 5 + 2, none⟩ = some (.int .i64 cv) := ⟨hbz.cell 0, hbz.cell 1, (hl.be.cell (p := ⟨b, off + k * 5 + 2, none⟩) hb0).trans ck2w⟩
                    clear hbz
                    have L4 : LS0 w.heap.size p w wz lv3 fv3 v1 v2 v3 s3 (tT (T ++ [⟨a3, g3, false, cv⟩])) (tO (T ++ [⟨a3, g3, false, cv⟩])) (tH (T ++ [⟨a3, g3, false, cv⟩])) := by
                      have := LS0.of_led (es := []) hl
                      simpa [tT, tO, tH] using this
                    have S5 := Lib.hid L4
                    clear L4 hl hz1 hz2
                    simp only [foldA, List.foldl_cons, List.foldl_nil, Sta.puts, Act.put, List.setIfInBounds_toArray, List.set_cons_zero, List.set_cons_succ]
                    have tr : True := trivial
                    have hHeld : (fun wx : World => wx.cell? ⟨w3.heap.size, 0, none⟩ = some (.int .i64 a3) ∧ wx.cell? ⟨w3.heap.size, 1, none⟩ = some (.int .i64 g3) ∧ wx.cell? ⟨b, off + k * 5 + 2, none⟩ = some (.int .i64 cv)) wz := hSz
                    refine wpAnyH_read (i := 15) (d := 4) (v := ?_) rfl rfl rfl (by as_aux_lemma => kernel_rfl) (by as_aux_lemma => kernel_rfl) (by as_aux_lemma => kernel_rfl) (fun _ _ _ h => h) hHeld ?_ ?_
                    rotate_left
                    · intro w hSw
                      (try dsimp only at hSw)
                      go_simp
                      (try with_reducible rfl)
                    (try simp only [List.setIfInBounds_toArray, List.set_cons_zero, List.set_cons_succ])
                    refine wpAnyH_read (i := 16) (d := 5) (v := ?_) rfl rfl rfl (by as_aux_lemma => kernel_rfl) (by as_aux_lemma => kernel_rfl) (by as_aux_lemma => kernel_rfl) (fun _ _ _ h => h) hHeld ?_ ?_
                    rotate_left
                    · intro w hSw
                      (try dsimp only at hSw)
                      go_simp
                      (try with_reducible rfl)
                    (try simp only [List.setIfInBounds_toArray, List.set_cons_zero, List.set_cons_succ])
                    refine wpAnyH_read (i := 17) (d := 6) (v := ?_) rfl rfl rfl (by as_aux_lemma => kernel_rfl) (by as_aux_lemma => kernel_rfl) (by as_aux_lemma => kernel_rfl) (fun _ _ _ h => h) hHeld ?_ ?_
                    rotate_left
                    · intro w hSw
                      (try dsimp only at hSw)
                      go_simp
                      (try with_reducible rfl)
                    (try simp only [List.setIfInBounds_toArray, List.set_cons_zero, List.set_cons_succ])
                    refine wpAnyH_done (by as_aux_lemma => kernel_rfl) ?_ _
                    clear hHeld
                    go_wp2_with fail
                    go_meet
                    case rel => exact ⟨lv3, fv3, s3, T ++ [⟨a3, g3, false, cv⟩], by rw [List.length_append, HNT.out]; simp; omega, M3.out.trans hm5, S5, Lib.hid (I3.out.mono (by omega))⟩
          | true =>
            have hnt0 : 0 < nt := by
              have := (Bool.and_eq_true_iff.1 hqq).1
              rw [← hq1] at this
              simpa using this
            clear hq1 hq2 hqq
            obtain ⟨gt, rfl, hgt, _⟩ := hAt hnt0
            obtain ⟨go, rfl, hgo, _⟩ := hAo hnt0
            obtain ⟨gh, rfl, hgh, _⟩ := hAh hnt0
            have bd := within_bd ci 0 ((nt : Int) - 1) (by omega)
            obtain ⟨m, hm⟩ : ∃ m : Nat, within ci 0 ((nt : Int) - 1) = (m : Int) := ⟨(within ci 0 ((nt : Int) - 1)).toNat, by omega⟩
            rw [hm] at bd
            have hmn : m < nt := by omega
            have Hm := Lib.hid hm; clear hm
            obtain ⟨t, ht⟩ : ∃ t, T[m]? = some t := ⟨_, List.getElem?_eq_getElem (by rw [HNT.out]; exact hmn)⟩
            have t0 : wr.cell? ⟨gt, m * 2, none⟩ = some (.int .i64 t.at_) := ST.out.tt.cell (j := 0) (r := [.int .i64 t.at_, .int .i64 t.gen]) (by rw [tT, List.getElem?_map, ht]; rfl) rfl
            have t1 : wr.cell? ⟨gt, m * 2 + 1, none⟩ = some (.int .i64 t.gen) := ST.out.tt.cell (j := 1) (r := [.int .i64 t.at_, .int .i64 t.gen]) (by rw [tT, List.getElem?_map, ht]; rfl) rfl
            have HT := Lib.hid ht; clear ht
            go_wp2_with fail
            refine Calls.mono (within_any ci 0 ((nt : Int) - 1) _ (by omega) (by omega) (by omega) (by omega) (by omega)) ?_
            rintro e w0 ⟨he, rfl⟩
            rw [Hm.out] at he
            subst he
            cases hov : t.over with
            | true =>
              have HLK := Lib.hid (IV.out.look_over (List.mem_of_getElem? HT.out) hov)
              go_wp2_with fail
              refine Calls.mono (pool_give_bad_entry p lv fv s t.at_ t.gen 23 _ (by exact ST.out.po.is) HLK.out (by decide)) ?_
              rintro e w3 ⟨rfl, hb3⟩
              have S3 := Lib.hid (ST.out.later hb3)
              have o3 : w3.cell? ⟨go, m, none⟩ = some (.bool true) := by
                have := S3.out.ov.cell (i := m) (j := 0) (r := [.bool t.over]) (u := .bool t.over) (by rw [tO, List.getElem?_map, HT.out]; rfl) rfl
                rw [hov] at this
                simpa using this
              have fo3 : w3.frozen? ⟨go, m, none⟩ = false := S3.out.ov.frozen _
              have lo3 := (S3.out.ov.lt go (by simp [Value.ownBlock])).2
              clear hb3 t0 t1
              go_wp2_with fail
              go_quiet (fail)
              go_wp2_with fail
              go_meet
              case rel =>
                have hO : (tO T)[m]? = some [.bool true] := by rw [tO, List.getElem?_map, HT.out, ← hov]; rfl
                have S4 := ((S3.out.alloc (.cells #[.int .i64 0, .int .i64 0] 53)).drewN nq).setO (.bool true) hO
                rw [show ([Value.bool true].set 0 (.bool true)) = [.bool true] from rfl, set_same hO] at S4
                exact ⟨_, _, s, T, by rw [HNT.out]; omega, hm5, Lib.hid S4, Lib.hid (IV.out.mono (by omega))⟩
            | false =>
              obtain ⟨x, hx, hxt, hxg, hx1, hxh⟩ := IV.out.live (List.mem_of_getElem? HT.out) hov
              rw [← hxg] at t1
              obtain ⟨Al, cl, rfl, hcl, hAl⟩ := ST.out.po.is.lform
              obtain ⟨gl, rfl, hgl⟩ := hAl (by have := (List.getElem?_eq_some_iff.1 hx).1; omega)
              have HX := Lib.hid hx
              have HXT := Lib.hid hxt
              have HXG := Lib.hid hxg
              have IV2 := Lib.hid (IV.out.give HT.out hov hx (0, 0))
              clear hx hxt hxg hAl hcl
              go_wp2_with fail
              refine Calls.mono (pool_give_ok_entry p _ fv s t.at_ x _ (by exact ST.out.po.is) HX.out HXT.out hx1) ?_
              rintro e w3 ⟨rfl, fv3, q1, q2, q3⟩
              have S3 := Lib.hid (ST.out.pool q1 q2 q3)
              have o3 : w3.cell? ⟨go, m, none⟩ = some (.bool false) := by
                have := S3.out.ov.cell (i := m) (j := 0) (r := [.bool t.over]) (u := .bool t.over) (by rw [tO, List.getElem?_map, HT.out]; rfl) rfl
                rw [hov] at this
                simpa using this
              have fo3 : w3.frozen? ⟨go, m, none⟩ = false := S3.out.ov.frozen _
              have lo3 := (S3.out.ov.lt go (by simp [Value.ownBlock])).2
              have h3 : w3.cell? ⟨gh, m, none⟩ = some (.int .i64 x.v.1) := by
                have := S3.out.th.cell (i := m) (j := 0) (r := [.int .i64 t.has]) (u := .int .i64 t.has) (by rw [tH, List.getElem?_map, HT.out]; rfl) rfl
                rw [hxh]
                simpa using this
              have lh3 := (S3.out.th.lt gh (by simp [Value.ownBlock])).2
              clear q1 q2 q3 t0 t1
              go_wp2_with fail
              go_quiet (fail)
              go_wp2_with fail
              go_meet
              case rel =>
                obtain ⟨e1, e2, e3⟩ := tT_over HT.out
                have hO : (tO T)[m]? = some [.bool t.over] := by rw [tO, List.getElem?_map, HT.out]; rfl
                have S4 := Lib.hid (((S3.out.alloc (.cells #[.int .i64 x.v.1, .int .i64 x.v.2] 53)).drewN nq).setO (.bool true) hO)
                refine ⟨.slice (some ⟨gl, 0, none⟩) s.l.length cl, fv3, s.giveAt t.at_ x (0, 0), T.set m { t with over := true }, ?_, ?_, ?_, ?_⟩
                · rw [List.length_set, HNT.out]; omega
                · exact hm5
                · rw [e1, e2, e3, ← hxh]
                  exact S4
                · exact Lib.hid (IV2.out.mono (by omega))
        case rest =>
          clear hq1 hq2 hqq
          obtain ⟨lv2, fv2, s2, T2, hT2, hm2, S2, I2⟩ := hcut
          clear ST IV HNT hAt hAo hAh ck0 ck1 ck2 hct hco hch hTk
          obtain ⟨At2, ct2, hu4, hct2, hAt2⟩ := S2.out.tt.form
          obtain ⟨Ao2, co2, hu5, hco2, hAo2⟩ := S2.out.ov.form
          obtain ⟨Ah2, ch2, hu6, hch2, hAh2⟩ := S2.out.th.form
          obtain ⟨n2, hn2⟩ : ∃ n, T2.length = n := ⟨_, rfl⟩
          rw [hn2] at hT2
          simp only [tT, tO, tH, List.length_map, hn2] at hu4 hct2 hAt2 hu5 hco2 hAo2 hu6 hch2 hAh2
          subst hu4 hu5 hu6
          have HN2 := Lib.hid hn2; clear hn2
          go_wp2_with fail
          go_loopw [14, 15] (fun a i wx => ∃ j c : Nat, j ≤ n2 ∧ c ≤ j ∧ i = .int .i64 j ∧ a = .int .i64 c ∧ Hid (cnt T2 j = c) ∧ Hid (LS0 w.heap.size p w wx lv2 fv2 (.slice At2 n2 ct2) (.slice Ao2 n2 co2) (.slice Ah2 n2 ch2) s2 (tT T2) (tO T2) (tH T2))) (fun _ i _ => n2 - (intOf i).toNat)
          case atStart => exact ⟨0, 0, by omega, by omega, rfl, rfl, Lib.hid rfl, S2⟩
          case round =>
            obtain ⟨j, c, hj, hcj, rfl, rfl, HC2, SQ⟩ := hrel
            by_cases hjn : j < n2
            · obtain ⟨gt, rfl, hgt, _⟩ := hAt2 (by omega)
              obtain ⟨go, rfl, hgo, _⟩ := hAo2 (by omega)
              obtain ⟨gh, rfl, hgh, _⟩ := hAh2 (by omega)
              obtain ⟨t, ht⟩ : ∃ t, T2[j]? = some t := ⟨_, List.getElem?_eq_getElem (by rw [HN2.out]; exact hjn)⟩
              have HT := Lib.hid ht; clear ht
              have t0 : wr.cell? ⟨gt, j * 2, none⟩ = some (.int .i64 t.at_) := SQ.out.tt.cell (j := 0) (r := [.int .i64 t.at_, .int .i64 t.gen]) (by rw [tT, List.getElem?_map, HT.out]; rfl) rfl
              have t1 : wr.cell? ⟨gt, j * 2 + 1, none⟩ = some (.int .i64 t.gen) := SQ.out.tt.cell (j := 1) (r := [.int .i64 t.at_, .int .i64 t.gen]) (by rw [tT, List.getElem?_map, HT.out]; rfl) rfl
              cases hov : t.over with
              | true =>
                have HLK := Lib.hid (I2.out.look_over (List.mem_of_getElem? HT.out) hov)
                go_wp2_with fail
                refine Calls.mono (pool_get_bad_entry p lv2 fv2 s2 t.at_ t.gen 23 _ (by exact SQ.out.po.is) HLK.out (by decide)) ?_
                rintro e w3 ⟨rfl, hb3⟩
                have S3 := Lib.hid (SQ.out.later hb3)
                have o3 : w3.cell? ⟨go, j, none⟩ = some (.bool true) := by
                  have := S3.out.ov.cell (i := j) (j := 0) (r := [.bool t.over]) (u := .bool t.over) (by rw [tO, List.getElem?_map, HT.out]; rfl) rfl
                  rw [hov] at this
                  simpa using this
                have lo3 := (S3.out.ov.lt go (by simp [Value.ownBlock])).2
                clear hb3 t0 t1
                go_wp2_with fail
                go_quiet (fail)
                go_wp2_with fail
                go_roundw
                case rel => exact ⟨j + 1, c, by omega, by omega, by go_num, rfl, Lib.hid ((cnt_over HT.out hov).trans HC2.out), Lib.hid ((S3.out.alloc _).drewN _)⟩
                case measure => simp [intOf]; omega
              | false =>
                obtain ⟨x, hx, hxt, hxg, hx1, hxh⟩ := I2.out.live (List.mem_of_getElem? HT.out) hov
                rw [← hxg] at t1
                have HX := Lib.hid hx
                have HXT := Lib.hid hxt
                have HXG := Lib.hid hxg
                have HXH := Lib.hid hxh
                clear hx hxt hxg hxh
                go_wp2_with fail
                refine Calls.mono (pool_get_ok_entry p lv2 fv2 s2 t.at_ x _ (by exact SQ.out.po.is) HX.out HXT.out hx1) ?_
                rintro e w3 ⟨rfl, hb3⟩
                have S3 := Lib.hid (SQ.out.later hb3)
                have o3 : w3.cell? ⟨go, j, none⟩ = some (.bool false) := by
                  have := S3.out.ov.cell (i := j) (j := 0) (r := [.bool t.over]) (u := .bool t.over) (by rw [tO, List.getElem?_map, HT.out]; rfl) rfl
                  rw [hov] at this
                  simpa using this
                have lo3 := (S3.out.ov.lt go (by simp [Value.ownBlock])).2
                have h3 : w3.cell? ⟨gh, j, none⟩ = some (.int .i64 x.v.1) := by
                  have := S3.out.th.cell (i := j) (j := 0) (r := [.int .i64 t.has]) (u := .int .i64 t.has) (by rw [tH, List.getElem?_map, HT.out]; rfl) rfl
                  rw [HXH.out]
                  simpa using this
                have lh3 := (S3.out.th.lt gh (by simp [Value.ownBlock])).2
                clear hb3 t0 t1
                go_wp2_with fail
                go_quiet (fail)
                go_wp2_with fail
                go_roundw
                case rel => exact ⟨j + 1, c + 1, by omega, by omega, by go_num, by go_num, Lib.hid ((cnt_live HT.out hov).trans (by rw [HC2.out])), Lib.hid ((S3.out.alloc _).drewN _)⟩
                case measure => simp [intOf]; omega
            · obtain rfl : j = n2 := by omega
              have hca := I2.out.cnt_all
              rw [HN2.out, HC2.out] at hca
              have hle := I2.out.wf.le
              have hlen : (s2.l.length : Int) - s2.free.length = (c : Int) := by omega
              have hd5 : decide ((5 : Int) < (c : Int)) = false := by simp; omega
              have hcc : ((c : Int) != (c : Int)) = false := by simp
              have HLN := Lib.hid hlen; clear hlen hca hle
              go_wp2_with fail
              refine Calls.mono (pool_len_entry p lv2 fv2 s2 _ (by exact SQ.out.po.is)) ?_
              rintro e w3 ⟨he, k3, rfl⟩
              rw [HLN.out] at he
              subst he
              go_wp2_with fail
              go_roundw
              case rel => exact ⟨k + 1, lv2, fv2, s2, T2, by omega, by rw [HN2.out]; omega, hm2, by go_num, SQ.out.drewN k3 |> Lib.hid, I2⟩
              case measure => simp [intOf]; omega
    · by_cases hlt1 : k < n1
      · have hk60 : k = 60 := by omega
        subst hk60
        clear hlt
        have BE := ST.out.po.be
        go_wp2_with fail
        refine Calls.mono (pool_known _) ?_
        rintro e w3 ⟨rfl, hb3⟩
        go_wp2_with fail
        exact hR.out _ _ ⟨rfl, BE.trans (hb3.mono BE.size)⟩
      · have hd : decide ((k : Int) < n1) = false := by simp; omega
        clear hlt
        have BE := ST.out.po.be
        go_wp2_with fail
        refine Calls.mono (pool_known _) ?_
        rintro e w3 ⟨rfl, hb3⟩
        go_wp2_with fail
        exact hR.out _ _ ⟨rfl, BE.trans (hb3.mono BE.size)⟩
end Go.Proofs.Ytjabofofofddbaa
