import Derived.Test.YtognmhgdegpdiaaGreatHpWO
section
/- Leftist heaps: a node leaves its place; Fall, Cut. -/
namespace Go.Proofs.YtognmhgdegpdiaaGreat
open Go.RowKit
set_option linter.unusedVariables false
set_option linter.unusedSimpArgs false
set_option maxRecDepth 100000
def intOf2 : Value → Nat
  | .int _ x => x.toNat
  | _ => 0
def Ar.lupN : Nat → Ar → Int → Nat
  | 0, _, _ => 0
  | f + 1, s, p => if p = -1 then 0 else if (s.lfix p).1 = true then Ar.lupN f (s.lfix p).2 ((s.lfix p).2.cell p 0) + 1 else 1
theorem Ar.lup_n : ∀ (f : Nat) (s : Ar) (p : Int), (Ar.lup f s p).n = s.n
  | 0, s, p => rfl
  | f + 1, s, p => by
    unfold Ar.lup
    split
    · rfl
    · split
      · rw [Ar.lup_n f, Ar.fix_n]
      · exact Ar.fix_n _ _
theorem Ar.fix_has (s : Ar) (n c : Int) : (s.lfix n).2.has c = s.has c := by unfold Ar.lfix; split <;> simp only [Ar.put_has]
theorem Ar.lup_has (c : Int) : ∀ (f : Nat) (s : Ar) (p : Int), (Ar.lup f s p).has c = s.has c
  | 0, s, p => rfl
  | f + 1, s, p => by
    unfold Ar.lup
    split
    · rfl
    · split
      · rw [Ar.lup_has c f, Ar.fix_has]
      · exact Ar.fix_has _ _ _
theorem Ar.Ok.lup : ∀ (f : Nat) {s : Ar} (p : Int), s.Ok → (Ar.lup f s p).Ok
  | 0, s, p, h => h
  | f + 1, s, p, h => by
    unfold Ar.lup
    split
    · exact h
    · split
      · exact Ar.Ok.lup f _ (h.fix p)
      · exact h.fix p
theorem Ar.RB.lup : ∀ (f : Nat) {s : Ar} {K : Int} (p : Int), s.RB K → 0 ≤ K → (Ar.lup f s p).RB (K + f)
  | 0, s, K, p, h, _ => h.mono (by omega)
  | f + 1, s, K, p, h, hK => by
    unfold Ar.lup
    split
    · exact h.mono (by omega)
    · split
      · exact (Ar.RB.lup f (K := K + 1) _ (h.fix hK p) (by omega)).mono (by omega)
      · exact (h.fix hK p).mono (by omega)
theorem Ar.lunl_n (s : Ar) (n : Int) : (s.lunl n).n = s.n := by unfold Ar.lunl; split; exact Ar.put_n _ _ _ _; split; exact Ar.put_n _ _ _ _; rfl
theorem Ar.Ok.lunl {s : Ar} (h : s.Ok) (n : Int) : (s.lunl n).Ok := by unfold Ar.lunl; split; exact h.put _ _ _; split; exact h.put _ _ _; exact h
theorem Ar.RB.lunl {s : Ar} {K : Int} (h : s.RB K) (n : Int) : (s.lunl n).RB K := by unfold Ar.lunl; split; exact h.put _ _ _ (by decide); split; exact h.put _ _ _ (by decide); exact h
theorem Ar.lunl_has (s : Ar) (n c : Int) : (s.lunl n).has c = s.has c := by unfold Ar.lunl; split; exact Ar.put_has _ _ _ _ _; split; exact Ar.put_has _ _ _ _ _; rfl
theorem Ar.lleave_n (s : Ar) (n : Int) : (s.lleave n).n = s.n := by unfold Ar.lleave; rw [Ar.lup_n, Ar.put_n, Ar.lunl_n]
theorem Ar.Ok.lleave {s : Ar} (h : s.Ok) (n : Int) : (s.lleave n).Ok := Ar.Ok.lup _ _ ((h.lunl n).put _ _ _)
theorem Ar.lleave_has (s : Ar) (n c : Int) : (s.lleave n).has c = s.has c := by unfold Ar.lleave; rw [Ar.lup_has, Ar.put_has, Ar.lunl_has]
theorem Ar.RB.lleave {s : Ar} {K : Int} (h : s.RB K) (hK : 0 ≤ K) (n : Int) : (s.lleave n).RB (K + (s.n + 1 : Nat)) := Ar.RB.lup _ _ ((h.lunl n).put _ _ _ (by decide)) hK
def Ar.lleaveN (s : Ar) (n : Int) : Nat := Ar.lupN (s.n + 1) ((s.lunl n).put n 0 (-1)) (s.cell n 0)
def Ar.lfallB (s : Ar) (r i : Int) : Nat := 9 * s.lleaveN (s.cell i 9) + 17 * (s.lleave (s.cell i 9)).plen r (s.cell i 9) + 10
section
variable {B : Nat} {w0 w : World} {C : List Ent} {vf : Value} (X : ArM) (s : Ar) (t : Nat)
set_option maxHeartbeats 4000000 in
theorem lf_leave (n : Int) (K : Int) (hrb : s.RB K) (hK : 0 ≤ K ∧ K ≤ 9000000) (hn : s.n ≤ 65536) (h : Led B w0 w (X.es vf (s.tick t) ++ C)) :
    Calls Tryz.prog 162 #[.pointer (some ⟨X.p, 0, none⟩), .int .i64 n] w fun e w' => ∃ u, u ≤ 9 * s.lleaveN n + 6 ∧ e = .returned (.tuple #[]) ∧ Led B w0 w' (X.es vf ((s.lleave n).tick (t + u)) ++ C) := by
  have H := Lib.hid h
  clear h
  have HRB := Lib.hid hrb
  clear hrb
  refine callsR fun R hR => ?_
  go_enter Tryz.func162, Tryz.ntmps162
  go_upto_if 13 with (first | (go_at_call 151; refine Calls.mono (t_cell _ _ _ _ _ (by decide) H.out) ?_; rintro e w' ⟨rfl, h'⟩; replace H := Lib.hid h'; clear h'))
  go_cut [4] (fun x wx => x = .int .i64 (s.cell n 0) ∧ ∃ u, u ≤ 5 ∧ Hid (Led B w0 wx (X.es vf ((s.lunl n).tick (t + u)) ++ C)))
  case first =>
    by_cases h2 : s.cell (s.cell n 0) 2 = n
    · have g1 : (s.cell (s.cell n 0) 2 == n) = true := by simpa using h2
      have HV : Hid (s.lunl n = s.put (s.cell n 0) 2 (-1)) := Lib.hid (by unfold Ar.lunl; rw [if_pos h2])
      clear h2
      go_wp2_with (first | (go_at_call 89; refine Calls.mono (t_set _ _ _ _ _ _ (by decide) H.out) ?_; rintro e w' ⟨rfl, h'⟩; replace H := Lib.hid h'; clear h'))
      go_meet
      case rel => obtain ⟨u9, hu9, h9⟩ := tick_up (t := t) (N := 5) H.out (by omega) (by omega); exact ⟨rfl, u9, hu9, Lib.hid (by rw [HV.out]; exact h9)⟩
    · have g1 : (s.cell (s.cell n 0) 2 == n) = false := by simpa using h2
      by_cases h3 : s.cell (s.cell n 0) 3 = n
      · have g2 : (s.cell (s.cell n 0) 3 == n) = true := by simpa using h3
        have HV : Hid (s.lunl n = s.put (s.cell n 0) 3 (-1)) := Lib.hid (by unfold Ar.lunl; rw [if_neg h2, if_pos h3])
        clear h2 h3
        go_wp2_with (first | (go_at_call 151; refine Calls.mono (t_cell _ _ _ _ _ (by decide) H.out) ?_; rintro e w' ⟨rfl, h'⟩; replace H := Lib.hid h'; clear h') | (go_at_call 89; refine Calls.mono (t_set _ _ _ _ _ _ (by decide) H.out) ?_; rintro e w' ⟨rfl, h'⟩; replace H := Lib.hid h'; clear h'))
        go_meet
        case rel => obtain ⟨u9, hu9, h9⟩ := tick_up (t := t) (N := 5) H.out (by omega) (by omega); exact ⟨rfl, u9, hu9, Lib.hid (by rw [HV.out]; exact h9)⟩
      · have g2 : (s.cell (s.cell n 0) 3 == n) = false := by simpa using h3
        have HV : Hid (s.lunl n = s) := Lib.hid (by unfold Ar.lunl; rw [if_neg h2, if_neg h3])
        clear h2 h3
        go_wp2_with (first | (go_at_call 151; refine Calls.mono (t_cell _ _ _ _ _ (by decide) H.out) ?_; rintro e w' ⟨rfl, h'⟩; replace H := Lib.hid h'; clear h'))
        go_meet
        case rel => obtain ⟨u9, hu9, h9⟩ := tick_up (t := t) (N := 5) H.out (by omega) (by omega); exact ⟨rfl, u9, hu9, Lib.hid (by rw [HV.out]; exact h9)⟩
  case rest =>
    clear H
    obtain ⟨rfl, u0, hu0, H⟩ := hcut
    obtain ⟨M, hM⟩ : ∃ M, s.lleaveN n = M := ⟨_, rfl⟩
    obtain ⟨G, hG⟩ : ∃ G, s.lleave n = G := ⟨_, rfl⟩
    rw [hM, hG] at hR
    have HM := Lib.hid hM
    have HG := Lib.hid hG
    have HRB1 := Lib.hid ((HRB.out.lunl n).put n 0 (-1) (by decide))
    have HN1 : Hid (((s.lunl n).put n 0 (-1)).n = s.n) := Lib.hid (by rw [Ar.put_n, Ar.lunl_n])
    clear hM hG
    go_wp2_with (first | (go_at_call 89; refine Calls.mono (t_set _ _ _ _ _ _ (by decide) H.out) ?_; rintro e w' ⟨rfl, h'⟩; replace H := Lib.hid h'; clear h'))
    go_loopw [4, 5] (fun x y wx => ∃ (p : Int) (j : Nat) (sj : Ar) (u : Nat), x = .int .i64 p ∧ y = .int .i64 (j : Int) ∧ j ≤ s.n + 1 ∧ Hid (Ar.lup (s.n + 1 - j) sj p = G) ∧ Hid (j + Ar.lupN (s.n + 1 - j) sj p = M) ∧ Hid (sj.RB (K + j)) ∧ Hid (sj.n = s.n) ∧ u ≤ 9 * j + 6 ∧ Hid (Led B w0 wx (X.es vf (sj.tick (t + u)) ++ C))) (fun _ y _ => s.n + 2 - intOf2 y)
    case atStart => exact ⟨s.cell n 0, 0, _, u0 + 1, rfl, rfl, by omega, HG, Lib.hid (by rw [Nat.zero_add]; exact HM.out), Lib.hid (by simpa using HRB1.out), HN1, by omega, H⟩
    case round =>
      clear H
      obtain ⟨p, j, sj, u, rfl, rfl, hj, HL, HLN, HRB2, HNN, hu, H⟩ := hrel
      by_cases hp : p = -1
      · subst hp
        have e1 : sj = G := by rw [← HL.out]; cases h : s.n + 1 - j with | zero => rfl | succ f => rfl
        have e2 : j ≤ M := by have := HLN.out; omega
        subst e1
        go_wp2_with fail
        obtain ⟨u9, hu9, h9⟩ := tick_up (t := t) (N := 9 * M + 6) H.out (by omega) (by omega)
        refine bodyPost_end (results_none rfl _ _ _) rfl (hR.out _ _ ⟨u9, hu9, rfl, h9⟩)
      · have gA : (p != -1) = true := by simpa using hp
        by_cases hlt : j ≤ s.n
        · have gC : decide ((j : Int) ≤ (sj.n : Int)) = true := by rw [HNN.out]; simp; omega
          have gC2 : decide (j ≤ sj.n) = true := by rw [HNN.out]; simp; omega
          have gC3 : j ≤ sj.n := by rw [HNN.out]; omega
          have hw : IntKind.i64.wrap ((j : Int) + 1) = ((j + 1 : Nat) : Int) := by rw [IntKind.wrap_i64]; omega
          have hst : s.n + 1 - j = (s.n - j) + 1 := by omega
          have hl := HL.out
          have hln := HLN.out
          rw [hst] at hl hln
          unfold Ar.lup at hl
          unfold Ar.lupN at hln
          rw [if_neg hp] at hl hln
          have HRB3 := Lib.hid (HRB2.out.fix (by omega) p)
          clear hp HL HLN
          cases gF : (sj.lfix p).1 with
          | true =>
            rw [gF, if_pos rfl] at hl hln
            have HL2 := Lib.hid hl
            have HLN2 := Lib.hid hln
            clear hl hln hst
            go_wp2_with (first | (go_at_call 179; refine Calls.mono (t_cells _ _ _ H.out) ?_; rintro e w' ⟨rfl, rfl⟩) | (go_at_call 180; refine Calls.mono (lf_fix _ _ _ _ _ HRB2.out (by omega) H.out) ?_; rintro e w' ⟨u1, hu1, rfl, h'⟩; rw [gF]; replace H := Lib.hid h'; clear h') | (go_at_call 151; refine Calls.mono (t_cell _ _ _ _ _ (by decide) H.out) ?_; rintro e w' ⟨rfl, h'⟩; replace H := Lib.hid h'; clear h'))
            go_roundw
            case rel => exact ⟨_, j + 1, _, u + (u1 + 1), rfl, rfl, by omega, Lib.hid (by rw [show s.n + 1 - (j + 1) = s.n - j by omega]; exact HL2.out), Lib.hid (by rw [show s.n + 1 - (j + 1) = s.n - j by omega]; have := HLN2.out; omega), Lib.hid (HRB3.out.mono (by omega)), Lib.hid (by rw [Ar.fix_n]; exact HNN.out), by omega, Lib.hid (by have := H.out; rw [show t + u + u1 + 1 = t + (u + (u1 + 1)) by omega] at this; exact this)⟩
            case measure => simp [intOf2]; omega
          | false =>
            rw [gF, if_neg (by decide)] at hl hln
            subst hl
            clear hst
            go_wp2_with (first | (go_at_call 179; refine Calls.mono (t_cells _ _ _ H.out) ?_; rintro e w' ⟨rfl, rfl⟩) | (go_at_call 180; refine Calls.mono (lf_fix _ _ _ _ _ HRB2.out (by omega) H.out) ?_; rintro e w' ⟨u1, hu1, rfl, h'⟩; rw [gF]; replace H := Lib.hid h'; clear h'))
            obtain ⟨u9, hu9, h9⟩ := tick_up (t := t) (N := 9 * M + 6) H.out (by omega) (by omega)
            refine bodyPost_end (results_none rfl _ _ _) rfl (hR.out _ _ ⟨u9, hu9, rfl, h9⟩)
        · have gC : decide ((j : Int) ≤ (sj.n : Int)) = false := by rw [HNN.out]; simp; omega
          have gC2 : decide (j ≤ sj.n) = false := by rw [HNN.out]; simp; omega
          have e0 : s.n + 1 - j = 0 := by omega
          have e1 : sj = G := by rw [← HL.out, e0]; rfl
          have e2 : j ≤ M := by have := HLN.out; omega
          subst e1
          clear hp e0
          go_wp2_with (first | (go_at_call 179; refine Calls.mono (t_cells _ _ _ H.out) ?_; rintro e w' ⟨rfl, rfl⟩))
          obtain ⟨u9, hu9, h9⟩ := tick_up (t := t) (N := 9 * M + 6) H.out (by omega) (by omega)
          refine bodyPost_end (results_none rfl _ _ _) rfl (hR.out _ _ ⟨u9, hu9, rfl, h9⟩)
set_option maxHeartbeats 4000000 in
theorem lf_fall (r i : Int) (K : Int) (hrb : s.RB K) (hK : 0 ≤ K ∧ K ≤ 9000000) (hn : s.n ≤ 65536) (h : Led B w0 w (X.es vf (s.tick t) ++ C)) :
    Calls Tryz.prog 111 #[.pointer (some ⟨X.p, 0, none⟩), .int .i64 r, .int .i64 i] w fun e w' => ∃ u, u ≤ s.lfallB r i ∧ e = .returned (.int .i64 (s.lfall r i).2) ∧ Led B w0 w' (X.es vf (((s.lfall r i).1).tick (t + u)) ++ C) := by
  have H := Lib.hid h
  clear h
  have HRB := Lib.hid hrb
  clear hrb
  obtain ⟨n, hnn⟩ : ∃ n, s.cell i 9 = n := ⟨_, rfl⟩
  by_cases h1 : n = -1
  · have hv : s.lfall r i = (s, r) := by unfold Ar.lfall; rw [hnn, if_pos (.inl h1)]
    subst h1
    refine callsR fun R hR => ?_
    go_enter Tryz.func111, Tryz.ntmps111
    go_wp2_with (first | (go_at_call 161; refine Calls.mono (item_node _ _ _ _ H.out) ?_; rintro e w' ⟨rfl, h'⟩; rw [hnn]; replace H := Lib.hid h'; clear h'))
    obtain ⟨u9, hu9, h9⟩ := tick_up (t := t) (N := s.lfallB r i) H.out (by omega) (by unfold Ar.lfallB; omega)
    exact hR.out _ _ ⟨u9, hu9, by rw [hv] <;> rfl, by rw [hv]; exact h9⟩
  · have g1 : (n == -1) = false := by simpa using h1
    by_cases h2 : n = r
    · have hv : s.lfall r i = (s, r) := by unfold Ar.lfall; rw [hnn, if_pos (.inr (.inl h2))]
      have g2 : (n == r) = true := by simpa using h2
      clear h1 h2
      refine callsR fun R hR => ?_
      go_enter Tryz.func111, Tryz.ntmps111
      go_wp2_with (first | (go_at_call 161; refine Calls.mono (item_node _ _ _ _ H.out) ?_; rintro e w' ⟨rfl, h'⟩; rw [hnn]; replace H := Lib.hid h'; clear h'))
      obtain ⟨u9, hu9, h9⟩ := tick_up (t := t) (N := s.lfallB r i) H.out (by omega) (by unfold Ar.lfallB; omega)
      exact hR.out _ _ ⟨u9, hu9, by rw [hv] <;> rfl, by rw [hv]; exact h9⟩
    · have g2 : (n == r) = false := by simpa using h2
      by_cases h3 : s.cell n 0 = -1
      · have hv : s.lfall r i = (s, r) := by unfold Ar.lfall; rw [hnn, if_pos (.inr (.inr h3))]
        have g3 : (s.cell n 0 == -1) = true := by simpa using h3
        clear h1 h2 h3
        refine callsR fun R hR => ?_
        go_enter Tryz.func111, Tryz.ntmps111
        go_wp2_with (first | (go_at_call 161; refine Calls.mono (item_node _ _ _ _ H.out) ?_; rintro e w' ⟨rfl, h'⟩; rw [hnn]; replace H := Lib.hid h'; clear h') | (go_at_call 151; refine Calls.mono (t_cell _ _ _ _ _ (by decide) H.out) ?_; rintro e w' ⟨rfl, h'⟩; replace H := Lib.hid h'; clear h'))
        obtain ⟨u9, hu9, h9⟩ := tick_up (t := t) (N := s.lfallB r i) H.out (by omega) (by unfold Ar.lfallB; omega)
        exact hR.out _ _ ⟨u9, hu9, by rw [hv] <;> rfl, by rw [hv]; exact h9⟩
      · have hv : s.lfall r i = (s.lleave n).lmeld r n := by unfold Ar.lfall; rw [hnn, if_neg (fun e => by rcases e with e | e | e; exact h1 e; exact h2 e; exact h3 e)]
        have g3 : (s.cell n 0 == -1) = false := by simpa using h3
        have HRB2 := Lib.hid (HRB.out.lleave hK.1 n)
        have HN2 : Hid ((s.lleave n).n ≤ 65536) := Lib.hid (by rw [Ar.lleave_n]; exact hn)
        clear h1 h2 h3
        refine callsR fun R hR => ?_
        go_enter Tryz.func111, Tryz.ntmps111
        go_wp2_with (first | (go_at_call 161; refine Calls.mono (item_node _ _ _ _ H.out) ?_; rintro e w' ⟨rfl, h'⟩; rw [hnn]; replace H := Lib.hid h'; clear h') | (go_at_call 151; refine Calls.mono (t_cell _ _ _ _ _ (by decide) H.out) ?_; rintro e w' ⟨rfl, h'⟩; replace H := Lib.hid h'; clear h') | (go_at_call 162; refine Calls.mono (lf_leave _ _ _ _ K HRB.out hK hn H.out) ?_; rintro e w' ⟨u1, hu1, rfl, h'⟩; replace H := Lib.hid h'; clear h') | (go_at_call 143; refine Calls.mono (lf_meld _ _ _ _ _ _ HRB2.out (by omega) HN2.out H.out) ?_; rintro e w' ⟨u2, hu2, rfl, h'⟩; replace H := Lib.hid h'; clear h'))
        obtain ⟨u9, hu9, h9⟩ := tick_up (t := t) (N := s.lfallB r i) H.out (by omega) (by unfold Ar.lfallB Ar.plen; rw [hnn]; omega)
        exact hR.out _ _ ⟨u9, hu9, by rw [hv] <;> rfl, by rw [hv]; exact h9⟩
set_option maxHeartbeats 4000000 in
theorem lf_cut (r i : Int) (K : Int) (hrb : s.RB K) (hK : 0 ≤ K ∧ K ≤ 9000000) (hn : s.n ≤ 65536) (hok : s.Ok) (hlv : s.has (s.cell i 9) = true) (h2 : s.cell i 9 ≠ r → s.cell (s.cell i 9) 0 ≠ -1 → ((s.lleave (s.cell i 9)).lpop (s.cell i 9)).1.RB 10000000 ∧ ((s.lleave (s.cell i 9)).lpop (s.cell i 9)).1.n ≤ 65536) (h : Led B w0 w (X.es vf (s.tick t) ++ C)) :
    Calls Tryz.prog 116 #[.pointer (some ⟨X.p, 0, none⟩), .int .i64 r, .int .i64 i] w fun e w' => ∃ vf2 u, e = .returned (.int .i64 (s.lcut r i).2) ∧ Led B w0 w' (X.es vf2 (((s.lcut r i).1).tick (t + u)) ++ C) := by
  have H := Lib.hid h
  clear h
  have HRB := Lib.hid hrb
  have HOK := Lib.hid hok
  clear hrb hok
  obtain ⟨n, hnn⟩ : ∃ n, s.cell i 9 = n := ⟨_, rfl⟩
  rw [hnn] at hlv h2
  have hn1 : n ≠ -1 := Ar.has_ne hlv
  have g1 : (n == -1) = false := by simpa using hn1
  by_cases h3 : n = r
  · have hv : s.lcut r i = ((s.lpop n).1, (s.lpop n).2.1) := by unfold Ar.lcut; rw [hnn, if_neg hn1, if_pos (.inl h3)]
    have g2 : (n == r) = true := by simpa using h3
    clear h2 h3 hn1
    refine callsR fun R hR => ?_
    go_enter Tryz.func116, Tryz.ntmps116
    go_wp2_with (first | (go_at_call 161; refine Calls.mono (item_node _ _ _ _ H.out) ?_; rintro e w' ⟨rfl, h'⟩; rw [hnn]; replace H := Lib.hid h'; clear h') | (go_at_call 103; refine Calls.mono (lf_pop _ _ _ _ K HRB.out (by omega) hn HOK.out hlv H.out) ?_; rintro e w' ⟨vf2, u2, hu2, rfl, h'⟩; replace H := Lib.hid h'; clear h'))
    obtain ⟨u9, hu9, h9⟩ := tick_up (t := t) (N := 17 * s.plen (s.cell n 2) (s.cell n 3) + 100) H.out (by omega) (by omega)
    exact hR.out _ _ ⟨_, u9, by rw [hv] <;> rfl, by rw [hv]; exact h9⟩
  · have g2 : (n == r) = false := by simpa using h3
    by_cases h4 : s.cell n 0 = -1
    · have hv : s.lcut r i = ((s.lpop n).1, (s.lpop n).2.1) := by unfold Ar.lcut; rw [hnn, if_neg hn1, if_pos (.inr h4)]
      have g3 : (s.cell n 0 == -1) = true := by simpa using h4
      clear h2 h3 h4 hn1
      refine callsR fun R hR => ?_
      go_enter Tryz.func116, Tryz.ntmps116
      go_wp2_with (first | (go_at_call 161; refine Calls.mono (item_node _ _ _ _ H.out) ?_; rintro e w' ⟨rfl, h'⟩; rw [hnn]; replace H := Lib.hid h'; clear h') | (go_at_call 151; refine Calls.mono (t_cell _ _ _ _ _ (by decide) H.out) ?_; rintro e w' ⟨rfl, h'⟩; replace H := Lib.hid h'; clear h') | (go_at_call 103; refine Calls.mono (lf_pop _ _ _ _ K HRB.out (by omega) hn HOK.out hlv H.out) ?_; rintro e w' ⟨vf2, u2, hu2, rfl, h'⟩; replace H := Lib.hid h'; clear h'))
      obtain ⟨u9, hu9, h9⟩ := tick_up (t := t) (N := 17 * s.plen (s.cell n 2) (s.cell n 3) + 100) H.out (by omega) (by omega)
      exact hR.out _ _ ⟨_, u9, by rw [hv] <;> rfl, by rw [hv]; exact h9⟩
    · have hv : s.lcut r i = ((s.lleave n).lpop n).1.lmeld r ((s.lleave n).lpop n).2.1 := by unfold Ar.lcut; rw [hnn, if_neg hn1, if_neg (fun e => by rcases e with e | e; exact h3 e; exact h4 e)]
      have g3 : (s.cell n 0 == -1) = false := by simpa using h4
      have HRB2 := Lib.hid (HRB.out.lleave hK.1 n)
      have HN2 : Hid ((s.lleave n).n ≤ 65536) := Lib.hid (by rw [Ar.lleave_n]; exact hn)
      have HOK2 := Lib.hid (HOK.out.lleave n)
      have HLV2 : Hid ((s.lleave n).has n = true) := Lib.hid (by rw [Ar.lleave_has]; exact hlv)
      have HRB3 := Lib.hid (h2 h3 h4).1
      have HN3 := Lib.hid (h2 h3 h4).2
      clear h2 h3 h4 hn1
      refine callsR fun R hR => ?_
      go_enter Tryz.func116, Tryz.ntmps116
      go_wp2_with (first | (go_at_call 161; refine Calls.mono (item_node _ _ _ _ H.out) ?_; rintro e w' ⟨rfl, h'⟩; rw [hnn]; replace H := Lib.hid h'; clear h') | (go_at_call 151; refine Calls.mono (t_cell _ _ _ _ _ (by decide) H.out) ?_; rintro e w' ⟨rfl, h'⟩; replace H := Lib.hid h'; clear h') | (go_at_call 162; refine Calls.mono (lf_leave _ _ _ _ K HRB.out hK hn H.out) ?_; rintro e w' ⟨u1, hu1, rfl, h'⟩; replace H := Lib.hid h'; clear h') | (go_at_call 103; refine Calls.mono (lf_pop _ _ _ _ _ HRB2.out (by omega) HN2.out HOK2.out HLV2.out H.out) ?_; rintro e w' ⟨vf2, u2, hu2, rfl, h'⟩; replace H := Lib.hid h'; clear h') | (go_at_call 143; refine Calls.mono (lf_meld _ _ _ _ _ _ HRB3.out (by omega) HN3.out H.out) ?_; rintro e w' ⟨u3, hu3, rfl, h'⟩; replace H := Lib.hid h'; clear h'))
      obtain ⟨P2, hP2⟩ : ∃ P2, (s.lleave n).plen ((s.lleave n).cell n 2) ((s.lleave n).cell n 3) = P2 := ⟨_, rfl⟩
      rw [hP2] at hu2
      obtain ⟨P3, hP3⟩ : ∃ P3, (((s.lleave n).lpop n).1.lpath (((s.lleave n).lpop n).1.n + 1) r ((s.lleave n).lpop n).2.1).1.length = P3 := ⟨_, rfl⟩
      rw [hP3] at hu3
      clear hP2 hP3
      obtain ⟨u9, hu9, h9⟩ := tick_up (t := t) (N := 9 * s.lleaveN n + 17 * P2 + 17 * P3 + 100) H.out (by omega) (by omega)
      exact hR.out _ _ ⟨_, u9, by rw [hv] <;> rfl, by rw [hv]; exact h9⟩
end
end Go.Proofs.YtognmhgdegpdiaaGreat
end
section
/- Fibonacci heaps: a node is cut; Fall, Cut. -/
namespace Go.Proofs.YtognmhgdegpdiaaGreat
open Go.RowKit
set_option linter.unusedVariables false
set_option linter.unusedSimpArgs false
set_option maxRecDepth 100000
def Ar.RL (s : Ar) (J K : Int) : Prop := ∀ c, -J ≤ s.f c 4 ∧ s.f c 4 ≤ K
theorem Ar.RL.put {s : Ar} {J K : Int} (h : s.RL J K) (c k v : Int) (hk : k ≠ 4) : (s.put c k v).RL J K := fun d => by
  rw [Ar.put_f, if_neg (fun e => by exact hk e.2.2.symm)]; exact h d
theorem Ar.RL.rank {s : Ar} {J K : Int} (h : s.RL J K) (c v : Int) (h1 : -J ≤ v) (h2 : v ≤ K) : (s.put c 4 v).RL J K := fun d => by
  rw [Ar.put_f]
  split
  · exact ⟨h1, h2⟩
  · exact h d
theorem Ar.RL.get {s : Ar} {J K : Int} (h : s.RL J K) (hJ : 1 ≤ J) (hK : 0 ≤ K) (c : Int) : -J ≤ s.get c 4 ∧ s.get c 4 ≤ K := by
  unfold Ar.get
  split
  · exact h c
  · omega
theorem Ar.RL.mono {s : Ar} {J K J' : Int} (h : s.RL J K) (hJ : J ≤ J') : s.RL J' K := fun c => by have := h c; omega
theorem Ar.RL.clink {s : Ar} {J K : Int} (h : s.RL J K) (c d : Int) : (s.clink c d).RL J K := (h.put _ _ _ (by decide)).put _ _ _ (by decide)
theorem Ar.RL.cout {s : Ar} {J K : Int} (h : s.RL J K) (c : Int) : (s.cout c).2.RL J K := by unfold Ar.cout; split <;> simp only <;> first | exact h | exact (h.clink _ _).clink _ _
theorem Ar.RL.cput {s : Ar} {J K : Int} (h : s.RL J K) (c d : Int) : (s.cput c d).RL J K := (h.clink _ _).clink _ _
theorem Ar.RL.fleave {s : Ar} {J K : Int} (h : s.RL J K) (hJ : 1 ≤ J) (hK : 0 ≤ K) (r n up : Int) : (s.fleave r n up).RL (J + 1) K := by
  unfold Ar.fleave
  have h1 : (if (s.cout n).2.cell up 1 = n then (s.cout n).2.put up 1 (s.cout n).1 else (s.cout n).2).RL J K := by
    split
    · exact (h.cout n).put _ _ _ (by decide)
    · exact h.cout n
  have h2 := h1.get hJ hK up
  exact (((h1.mono (by omega)).rank up _ (by omega) (by omega)).put _ _ _ (by decide)).cput _ _
theorem Ar.fleave_n (s : Ar) (r n up : Int) : (s.fleave r n up).n = s.n := by unfold Ar.fleave; rw [Ar.cput_n, Ar.put_n, Ar.put_n]; split; rw [Ar.put_n, Ar.cout_n]; exact Ar.cout_n _ _
section
variable {B : Nat} {w0 w : World} {C : List Ent} {vf : Value} (X : ArM) (s : Ar) (t : Nat)
set_option maxHeartbeats 4000000 in
theorem fb_leave (r n up : Int) (J K : Int) (hrl : s.RL J K) (hJ : 1 ≤ J ∧ J ≤ 1000000) (hK : 0 ≤ K ∧ K ≤ 20000000) (h : Led B w0 w (X.es vf (s.tick t) ++ C)) :
    Calls Tryz.prog 200 #[.pointer (some ⟨X.p, 0, none⟩), .int .i64 r, .int .i64 n, .int .i64 up] w fun e w' => ∃ u, u ≤ 16 ∧ e = .returned (.tuple #[]) ∧ Led B w0 w' (X.es vf ((s.fleave r n up).tick (t + u)) ++ C) := by
  have H := Lib.hid h
  clear h
  obtain ⟨fo, hfo⟩ : ∃ fo, s.cout n = fo := ⟨_, rfl⟩
  have hrl2 : fo.2.RL J K := by rw [← hfo]; exact hrl.cout n
  clear hrl
  by_cases h1 : fo.2.cell up 1 = n
  · have hv : s.fleave r n up = (((fo.2.put up 1 fo.1).put up 4 ((fo.2.put up 1 fo.1).get up 4 - 1)).put n 0 (-1)).cput r n := by unfold Ar.fleave; rw [hfo, if_pos h1]
    have g1 : (fo.2.cell up 1 == n) = true := by simpa using h1
    have hb := ((hrl2.put up 1 fo.1 (by decide)) : (fo.2.put up 1 fo.1).RL J K).get hJ.1 hK.1 up
    have hw : IntKind.i64.wrap ((fo.2.put up 1 fo.1).get up 4 - 1) = (fo.2.put up 1 fo.1).get up 4 - 1 := by rw [IntKind.wrap_i64]; omega
    have HV := Lib.hid hv
    have HFO := Lib.hid hfo
    clear hv h1 hb hfo hrl2
    refine callsR fun R hR => ?_
    go_enter Tryz.func200, Tryz.ntmps200
    go_wp2_with (first | (go_at_call 195; refine Calls.mono (ch_out _ _ _ _ H.out) ?_; rintro e w' ⟨u1, hu1, rfl, h'⟩; rw [HFO.out] at h' ⊢; replace H := Lib.hid h'; clear h') | (go_at_call 151; refine Calls.mono (t_cell _ _ _ _ _ (by decide) H.out) ?_; rintro e w' ⟨rfl, h'⟩; replace H := Lib.hid h'; clear h') | (go_at_call 89; refine Calls.mono (t_set _ _ _ _ _ _ (by decide) H.out) ?_; rintro e w' ⟨rfl, h'⟩; replace H := Lib.hid h'; clear h') | (go_at_call 110; refine Calls.mono (t_get _ _ _ _ _ (by decide) H.out) ?_; rintro e w' ⟨rfl, h'⟩; replace H := Lib.hid h'; clear h') | (go_at_call 148; refine Calls.mono (ch_put _ _ _ _ _ H.out) ?_; rintro e w' ⟨rfl, h'⟩; replace H := Lib.hid h'; clear h'))
    obtain ⟨u9, hu9, h9⟩ := tick_up (t := t) (N := 16) H.out (by omega) (by omega)
    refine bodyPost_end (results_none rfl _ _ _) rfl (hR.out _ _ ⟨u9, hu9, rfl, by rw [HV.out]; exact h9⟩)
  · have hv : s.fleave r n up = (((fo.2).put up 4 ((fo.2).get up 4 - 1)).put n 0 (-1)).cput r n := by unfold Ar.fleave; rw [hfo, if_neg h1]
    have g1 : (fo.2.cell up 1 == n) = false := by simpa using h1
    have hb := (hrl2 : (fo.2).RL J K).get hJ.1 hK.1 up
    have hw : IntKind.i64.wrap ((fo.2).get up 4 - 1) = (fo.2).get up 4 - 1 := by rw [IntKind.wrap_i64]; omega
    have HV := Lib.hid hv
    have HFO := Lib.hid hfo
    clear hv h1 hb hfo hrl2
    refine callsR fun R hR => ?_
    go_enter Tryz.func200, Tryz.ntmps200
    go_wp2_with (first | (go_at_call 195; refine Calls.mono (ch_out _ _ _ _ H.out) ?_; rintro e w' ⟨u1, hu1, rfl, h'⟩; rw [HFO.out] at h' ⊢; replace H := Lib.hid h'; clear h') | (go_at_call 151; refine Calls.mono (t_cell _ _ _ _ _ (by decide) H.out) ?_; rintro e w' ⟨rfl, h'⟩; replace H := Lib.hid h'; clear h') | (go_at_call 89; refine Calls.mono (t_set _ _ _ _ _ _ (by decide) H.out) ?_; rintro e w' ⟨rfl, h'⟩; replace H := Lib.hid h'; clear h') | (go_at_call 110; refine Calls.mono (t_get _ _ _ _ _ (by decide) H.out) ?_; rintro e w' ⟨rfl, h'⟩; replace H := Lib.hid h'; clear h') | (go_at_call 148; refine Calls.mono (ch_put _ _ _ _ _ H.out) ?_; rintro e w' ⟨rfl, h'⟩; replace H := Lib.hid h'; clear h'))
    obtain ⟨u9, hu9, h9⟩ := tick_up (t := t) (N := 16) H.out (by omega) (by omega)
    refine bodyPost_end (results_none rfl _ _ _) rfl (hR.out _ _ ⟨u9, hu9, rfl, by rw [HV.out]; exact h9⟩)
set_option maxHeartbeats 8000000 in
theorem fb_cut (r n0 : Int) (K : Int) (hrl : s.RL 1 K) (hK : 0 ≤ K ∧ K ≤ 20000000) (hn : s.n ≤ 65536) (h : Led B w0 w (X.es vf (s.tick t) ++ C)) :
    Calls Tryz.prog 165 #[.pointer (some ⟨X.p, 0, none⟩), .int .i64 r, .int .i64 n0] w fun e w' => ∃ u, u ≤ 19 * (s.n + 1) + 1 ∧ e = .returned (.tuple #[]) ∧ Led B w0 w' (X.es vf ((Ar.fcut r (s.n + 1) s n0 (s.cell n0 0)).tick (t + u)) ++ C) := by
  have H := Lib.hid h
  clear h
  obtain ⟨G, hG⟩ : ∃ G, Ar.fcut r (s.n + 1) s n0 (s.cell n0 0) = G := ⟨_, rfl⟩
  rw [hG]
  have HG := Lib.hid hG
  have HRL0 := Lib.hid hrl
  clear hG hrl
  refine callsR fun R hR => ?_
  go_enter Tryz.func165, Tryz.ntmps165
  go_wp2_with (first | (go_at_call 151; refine Calls.mono (t_cell _ _ _ _ _ (by decide) H.out) ?_; rintro e w' ⟨rfl, h'⟩; replace H := Lib.hid h'; clear h'))
  go_loopw [2, 6, 7] (fun x y z wx => ∃ (n up : Int) (j : Nat) (sj : Ar) (u : Nat), x = .int .i64 n ∧ y = .int .i64 up ∧ z = .int .i64 (j : Int) ∧ j ≤ s.n + 1 ∧ Hid (Ar.fcut r (s.n + 1 - j) sj n up = G) ∧ Hid (sj.RL (1 + j) K) ∧ Hid (sj.n = s.n) ∧ u ≤ 19 * j + 1 ∧ Hid (Led B w0 wx (X.es vf (sj.tick (t + u)) ++ C))) (fun _ _ z _ => s.n + 2 - intOf2 z)
  case atStart => exact ⟨n0, s.cell n0 0, 0, s, 1, rfl, rfl, rfl, by omega, HG, Lib.hid (by simpa using HRL0.out), Lib.hid rfl, by omega, H⟩
  case round =>
    clear H
    obtain ⟨n, up, j, sj, u, rfl, rfl, rfl, hj, HL, HRL, HNN, hu, H⟩ := hrel
    by_cases hp : up = -1
    · subst hp
      have e1 : sj = G := by rw [← HL.out]; cases h : s.n + 1 - j with | zero => rfl | succ f => rfl
      subst e1
      go_wp2_with fail
      obtain ⟨u9, hu9, h9⟩ := tick_up (t := t) (N := 19 * (s.n + 1) + 1) H.out (by omega) (by omega)
      refine bodyPost_end (results_none rfl _ _ _) rfl (hR.out _ _ ⟨u9, hu9, rfl, h9⟩)
    · have gA : (up != -1) = true := by simpa using hp
      by_cases hlt : j ≤ s.n
      · have gC : decide ((j : Int) ≤ (sj.n : Int)) = true := by rw [HNN.out]; simp; omega
        have gC2 : decide (j ≤ sj.n) = true := by rw [HNN.out]; simp; omega
        have gC3 : j ≤ sj.n := by rw [HNN.out]; omega
        have hw : IntKind.i64.wrap ((j : Int) + 1) = ((j + 1 : Nat) : Int) := by rw [IntKind.wrap_i64]; omega
        have hst : s.n + 1 - j = (s.n - j) + 1 := by omega
        have hl := HL.out
        rw [hst] at hl
        unfold Ar.fcut at hl
        rw [if_neg hp] at hl
        obtain ⟨s1, hs1⟩ : ∃ s1, sj.fleave r n up = s1 := ⟨_, rfl⟩
        rw [hs1] at hl
        have HRL2 : Hid (s1.RL (1 + j + 1) K) := Lib.hid (by rw [← hs1]; exact HRL.out.fleave (by omega) hK.1 _ _ _)
        have HN1 : Hid (s1.n = s.n) := Lib.hid (by rw [← hs1, Ar.fleave_n]; exact HNN.out)
        have HS1 := Lib.hid hs1
        clear hs1 hp HL hst
        by_cases hu0 : s1.cell up 0 = -1
        · have g1 : (s1.cell up 0 != -1) = false := by simpa using hu0
          rw [if_neg (fun e => by exact e.1 hu0)] at hl
          have HL2 := Lib.hid hl
          clear hl hu0
          go_wp2_with (first | (go_at_call 179; refine Calls.mono (t_cells _ _ _ H.out) ?_; rintro e w' ⟨rfl, rfl⟩) | (go_at_call 200; refine Calls.mono (fb_leave _ _ _ _ _ _ _ _ HRL.out (by omega) hK H.out) ?_; rintro e w' ⟨u1, hu1, rfl, h'⟩; rw [HS1.out] at h'; replace H := Lib.hid h'; clear h') | (go_at_call 151; refine Calls.mono (t_cell _ _ _ _ _ (by decide) H.out) ?_; rintro e w' ⟨rfl, h'⟩; replace H := Lib.hid h'; clear h'))
          go_roundw
          case rel => exact ⟨up, _, j + 1, s1, u + (u1 + 1), rfl, rfl, rfl, by omega, Lib.hid (by rw [show s.n + 1 - (j + 1) = s.n - j by omega]; exact HL2.out), Lib.hid (HRL2.out.mono (by omega)), HN1, by omega, Lib.hid (by have := H.out; rw [show t + u + u1 + 1 = t + (u + (u1 + 1)) by omega] at this; exact this)⟩
          case measure => simp [intOf2]; omega
        · have g1 : (s1.cell up 0 != -1) = true := by simpa using hu0
          by_cases hm : s1.get up 5 = 0
          · have g2 : (s1.get up 5 == 0) = true := by simpa using hm
            rw [if_pos ⟨hu0, hm⟩] at hl
            subst hl
            clear hu0 hm
            go_wp2_with (first | (go_at_call 179; refine Calls.mono (t_cells _ _ _ H.out) ?_; rintro e w' ⟨rfl, rfl⟩) | (go_at_call 200; refine Calls.mono (fb_leave _ _ _ _ _ _ _ _ HRL.out (by omega) hK H.out) ?_; rintro e w' ⟨u1, hu1, rfl, h'⟩; rw [HS1.out] at h'; replace H := Lib.hid h'; clear h') | (go_at_call 151; refine Calls.mono (t_cell _ _ _ _ _ (by decide) H.out) ?_; rintro e w' ⟨rfl, h'⟩; replace H := Lib.hid h'; clear h') | (go_at_call 110; refine Calls.mono (t_get _ _ _ _ _ (by decide) H.out) ?_; rintro e w' ⟨rfl, h'⟩; replace H := Lib.hid h'; clear h') | (go_at_call 89; refine Calls.mono (t_set _ _ _ _ _ _ (by decide) H.out) ?_; rintro e w' ⟨rfl, h'⟩; replace H := Lib.hid h'; clear h'))
            obtain ⟨u9, hu9, h9⟩ := tick_up (t := t) (N := 19 * (s.n + 1) + 1) H.out (by omega) (by omega)
            refine bodyPost_ret (results_none rfl _ _ _) rfl (hR.out _ _ ⟨u9, hu9, rfl, h9⟩)
          · have g2 : (s1.get up 5 == 0) = false := by simpa using hm
            rw [if_neg (fun e => by exact hm e.2)] at hl
            have HL2 := Lib.hid hl
            clear hl hu0 hm
            go_wp2_with (first | (go_at_call 179; refine Calls.mono (t_cells _ _ _ H.out) ?_; rintro e w' ⟨rfl, rfl⟩) | (go_at_call 200; refine Calls.mono (fb_leave _ _ _ _ _ _ _ _ HRL.out (by omega) hK H.out) ?_; rintro e w' ⟨u1, hu1, rfl, h'⟩; rw [HS1.out] at h'; replace H := Lib.hid h'; clear h') | (go_at_call 151; refine Calls.mono (t_cell _ _ _ _ _ (by decide) H.out) ?_; rintro e w' ⟨rfl, h'⟩; replace H := Lib.hid h'; clear h') | (go_at_call 110; refine Calls.mono (t_get _ _ _ _ _ (by decide) H.out) ?_; rintro e w' ⟨rfl, h'⟩; replace H := Lib.hid h'; clear h'))
            go_roundw
            case rel => exact ⟨up, _, j + 1, s1, u + (u1 + 2), rfl, rfl, rfl, by omega, Lib.hid (by rw [show s.n + 1 - (j + 1) = s.n - j by omega]; exact HL2.out), Lib.hid (HRL2.out.mono (by omega)), HN1, by omega, Lib.hid (by have := H.out; rw [show t + u + u1 + 1 + 1 = t + (u + (u1 + 2)) by omega] at this; exact this)⟩
            case measure => simp [intOf2]; omega
      · have gC : decide ((j : Int) ≤ (sj.n : Int)) = false := by rw [HNN.out]; simp; omega
        have gC2 : decide (j ≤ sj.n) = false := by rw [HNN.out]; simp; omega
        have e0 : s.n + 1 - j = 0 := by omega
        have e1 : sj = G := by rw [← HL.out, e0]; rfl
        subst e1
        clear hp e0
        go_wp2_with (first | (go_at_call 179; refine Calls.mono (t_cells _ _ _ H.out) ?_; rintro e w' ⟨rfl, rfl⟩))
        obtain ⟨u9, hu9, h9⟩ := tick_up (t := t) (N := 19 * (s.n + 1) + 1) H.out (by omega) (by omega)
        refine bodyPost_end (results_none rfl _ _ _) rfl (hR.out _ _ ⟨u9, hu9, rfl, h9⟩)
set_option maxHeartbeats 4000000 in
theorem fb_fall (r i : Int) (K : Int) (hrl : s.RL 1 K) (hK : 0 ≤ K ∧ K ≤ 20000000) (hn : s.n ≤ 65536) (h : Led B w0 w (X.es vf (s.tick t) ++ C)) :
    Calls Tryz.prog 114 #[.pointer (some ⟨X.p, 0, none⟩), .int .i64 r, .int .i64 i] w fun e w' => ∃ u, u ≤ 19 * (s.n + 1) + 16 ∧ e = .returned (.int .i64 (s.ffall r i).2) ∧ Led B w0 w' (X.es vf (((s.ffall r i).1).tick (t + u)) ++ C) := by
  have H := Lib.hid h
  clear h
  have HRL := Lib.hid hrl
  clear hrl
  obtain ⟨n, hnn⟩ : ∃ n, s.cell i 9 = n := ⟨_, rfl⟩
  by_cases h1 : n = -1
  · have hv : s.ffall r i = (s, r) := by unfold Ar.ffall; rw [hnn, if_pos (.inl h1)]
    subst h1
    refine callsR fun R hR => ?_
    go_enter Tryz.func114, Tryz.ntmps114
    go_wp2_with (first | (go_at_call 161; refine Calls.mono (item_node _ _ _ _ H.out) ?_; rintro e w' ⟨rfl, h'⟩; rw [hnn]; replace H := Lib.hid h'; clear h'))
    obtain ⟨u9, hu9, h9⟩ := tick_up (t := t) (N := 19 * (s.n + 1) + 16) H.out (by omega) (by omega)
    exact hR.out _ _ ⟨u9, hu9, by rw [hv] <;> rfl, by rw [hv]; exact h9⟩
  · have g1 : (n == -1) = false := by simpa using h1
    by_cases h2 : n = r
    · have hv : s.ffall r i = (s, r) := by unfold Ar.ffall; rw [hnn, if_pos (.inr h2)]
      have g2 : (n == r) = true := by simpa using h2
      clear h1 h2
      refine callsR fun R hR => ?_
      go_enter Tryz.func114, Tryz.ntmps114
      go_wp2_with (first | (go_at_call 161; refine Calls.mono (item_node _ _ _ _ H.out) ?_; rintro e w' ⟨rfl, h'⟩; rw [hnn]; replace H := Lib.hid h'; clear h'))
      obtain ⟨u9, hu9, h9⟩ := tick_up (t := t) (N := 19 * (s.n + 1) + 16) H.out (by omega) (by omega)
      exact hR.out _ _ ⟨u9, hu9, by rw [hv] <;> rfl, by rw [hv]; exact h9⟩
    · have g2 : (n == r) = false := by simpa using h2
      have hno : ¬ (n = -1 ∨ n = r) := fun e => by rcases e with e | e; exact h1 e; exact h2 e
      obtain ⟨up, hup⟩ : ∃ up, s.cell n 0 = up := ⟨_, rfl⟩
      by_cases h3 : up = -1
      · have hv : s.ffall r i = (s, s.flesser r n) := by unfold Ar.ffall; rw [hnn, if_neg hno, hup, if_pos h3]
        have g3 : (s.cell n 0 != -1) = false := by rw [hup]; simpa using h3
        clear h1 h2 h3 hno hup
        refine callsR fun R hR => ?_
        go_enter Tryz.func114, Tryz.ntmps114
        go_wp2_with (first | (go_at_call 161; refine Calls.mono (item_node _ _ _ _ H.out) ?_; rintro e w' ⟨rfl, h'⟩; rw [hnn]; replace H := Lib.hid h'; clear h') | (go_at_call 151; refine Calls.mono (t_cell _ _ _ _ _ (by decide) H.out) ?_; rintro e w' ⟨rfl, h'⟩; replace H := Lib.hid h'; clear h') | (go_at_call 149; refine Calls.mono (fb_lesser _ _ _ _ _ H.out) ?_; rintro e w' ⟨rfl, h'⟩; replace H := Lib.hid h'; clear h'))
        obtain ⟨u9, hu9, h9⟩ := tick_up (t := t) (N := 19 * (s.n + 1) + 16) H.out (by omega) (by omega)
        exact hR.out _ _ ⟨u9, hu9, by rw [hv] <;> rfl, by rw [hv]; exact h9⟩
      · have g3 : (s.cell n 0 != -1) = true := by rw [hup]; simpa using h3
        have HUP := Lib.hid hup
        cases gB : s.nbefore n (s.cell n 0) with
        | false =>
          have hv : s.ffall r i = (s, r) := by unfold Ar.ffall; rw [hnn, if_neg hno, if_neg (by rw [hup]; exact h3), if_pos gB]
          clear h1 h2 h3 hno hup
          refine callsR fun R hR => ?_
          go_enter Tryz.func114, Tryz.ntmps114
          go_wp2_with (first | (go_at_call 161; refine Calls.mono (item_node _ _ _ _ H.out) ?_; rintro e w' ⟨rfl, h'⟩; rw [hnn]; replace H := Lib.hid h'; clear h') | (go_at_call 151; refine Calls.mono (t_cell _ _ _ _ _ (by decide) H.out) ?_; rintro e w' ⟨rfl, h'⟩; replace H := Lib.hid h'; clear h') | (go_at_call 164; refine Calls.mono (node_before _ _ _ _ _ H.out) ?_; rintro e w' ⟨rfl, h'⟩; rw [gB]; replace H := Lib.hid h'; clear h'))
          obtain ⟨u9, hu9, h9⟩ := tick_up (t := t) (N := 19 * (s.n + 1) + 16) H.out (by omega) (by omega)
          exact hR.out _ _ ⟨u9, hu9, by rw [hv] <;> rfl, by rw [hv]; exact h9⟩
        | true =>
          have hv : s.ffall r i = (Ar.fcut r (s.n + 1) s n up, (Ar.fcut r (s.n + 1) s n up).flesser r n) := by unfold Ar.ffall; rw [hnn, if_neg hno, if_neg (by rw [hup]; exact h3), if_neg (by rw [gB]; decide), hup]
          clear h1 h2 h3 hno hup
          refine callsR fun R hR => ?_
          go_enter Tryz.func114, Tryz.ntmps114
          go_wp2_with (first | (go_at_call 161; refine Calls.mono (item_node _ _ _ _ H.out) ?_; rintro e w' ⟨rfl, h'⟩; rw [hnn]; replace H := Lib.hid h'; clear h') | (go_at_call 151; refine Calls.mono (t_cell _ _ _ _ _ (by decide) H.out) ?_; rintro e w' ⟨rfl, h'⟩; replace H := Lib.hid h'; clear h') | (go_at_call 164; refine Calls.mono (node_before _ _ _ _ _ H.out) ?_; rintro e w' ⟨rfl, h'⟩; rw [gB]; replace H := Lib.hid h'; clear h') | (go_at_call 165; refine Calls.mono (fb_cut _ _ _ _ _ K HRL.out hK hn H.out) ?_; rintro e w' ⟨u1, hu1, rfl, h'⟩; rw [HUP.out] at h'; replace H := Lib.hid h'; clear h') | (go_at_call 149; refine Calls.mono (fb_lesser _ _ _ _ _ H.out) ?_; rintro e w' ⟨rfl, h'⟩; replace H := Lib.hid h'; clear h'))
          obtain ⟨u9, hu9, h9⟩ := tick_up (t := t) (N := 19 * (s.n + 1) + 16) H.out (by omega) (by omega)
          exact hR.out _ _ ⟨u9, hu9, by rw [hv] <;> rfl, by rw [hv]; exact h9⟩
set_option maxHeartbeats 4000000 in
theorem fb_Cut (r i : Int) (K : Int) (hrl : s.RL 1 K) (hK : 0 ≤ K ∧ K ≤ 20000000) (hn : s.n ≤ 65536) (h1n : 1 ≤ s.n) (hok : (s.fupd r (s.cell i 9)).Ok) (hrb : (s.fupd r (s.cell i 9)).RB 10000000) (hn2 : (s.fupd r (s.cell i 9)).n = s.n) (hlv : s.cell i 9 ≠ -1) (h : Led B w0 w (X.es vf (s.tick t) ++ C)) :
    Calls Tryz.prog 119 #[.pointer (some ⟨X.p, 0, none⟩), .int .i64 r, .int .i64 i] w fun e w' => ∃ vf2 u, e = .returned (.int .i64 (s.fgone r i).2) ∧ Led B w0 w' (X.es vf2 (((s.fgone r i).1).tick (t + u)) ++ C) := by
  have H := Lib.hid h
  clear h
  have HRL := Lib.hid hrl
  clear hrl
  obtain ⟨n, hnn⟩ : ∃ n, s.cell i 9 = n := ⟨_, rfl⟩
  rw [hnn] at hlv hok hrb hn2
  have g1 : (n == -1) = false := by simpa using hlv
  obtain ⟨S, hS⟩ : ∃ S, s.fupd r n = S := ⟨_, rfl⟩
  have hv : s.fgone r i = ((S.fpop n).1, (S.fpop n).2.1) := by unfold Ar.fgone; rw [hnn, if_neg hlv, hS]
  rw [hS] at hok hrb hn2
  have HOK := Lib.hid hok
  have HRB := Lib.hid hrb
  have HN2 := Lib.hid hn2
  clear hok hrb hn2 hlv
  obtain ⟨up, hup⟩ : ∃ up, s.cell n 0 = up := ⟨_, rfl⟩
  have HUP := Lib.hid hup
  by_cases h3 : up = -1
  · have e1 : s = S := by rw [← hS]; unfold Ar.fupd; rw [hup, if_pos h3]
    have g3 : (s.cell n 0 != -1) = false := by rw [hup]; simpa using h3
    subst e1
    clear h3 hS hup
    refine callsR fun R hR => ?_
    go_enter Tryz.func119, Tryz.ntmps119
    go_wp2_with (first | (go_at_call 161; refine Calls.mono (item_node _ _ _ _ H.out) ?_; rintro e w' ⟨rfl, h'⟩; rw [hnn]; replace H := Lib.hid h'; clear h') | (go_at_call 151; refine Calls.mono (t_cell _ _ _ _ _ (by decide) H.out) ?_; rintro e w' ⟨rfl, h'⟩; replace H := Lib.hid h'; clear h') | (go_at_call 158; refine Calls.mono (fb_pop _ _ _ _ _ HRB.out (by omega) (by have := HN2.out; omega) HOK.out H.out) ?_; rintro e w' ⟨vf2, u3, hu3, rfl, h'⟩; replace H := Lib.hid h'; clear h'))
    obtain ⟨u9, hu9, h9⟩ := tick_up (t := t) (N := u3 + 100) H.out (by omega) (by omega)
    exact hR.out _ _ ⟨_, u9, by rw [hv] <;> rfl, by rw [hv]; exact h9⟩
  · have e1 : Ar.fcut r (s.n + 1) s n up = S := by rw [← hS]; unfold Ar.fupd; rw [hup, if_neg h3]
    have g3 : (s.cell n 0 != -1) = true := by rw [hup]; simpa using h3
    have E1 := Lib.hid e1
    clear h3 hS hup e1
    refine callsR fun R hR => ?_
    go_enter Tryz.func119, Tryz.ntmps119
    go_wp2_with (first | (go_at_call 161; refine Calls.mono (item_node _ _ _ _ H.out) ?_; rintro e w' ⟨rfl, h'⟩; rw [hnn]; replace H := Lib.hid h'; clear h') | (go_at_call 151; refine Calls.mono (t_cell _ _ _ _ _ (by decide) H.out) ?_; rintro e w' ⟨rfl, h'⟩; replace H := Lib.hid h'; clear h') | (go_at_call 165; refine Calls.mono (fb_cut _ _ _ _ _ K HRL.out hK hn H.out) ?_; rintro e w' ⟨u1, hu1, rfl, h'⟩; rw [HUP.out, E1.out] at h'; replace H := Lib.hid h'; clear h') | (go_at_call 158; refine Calls.mono (fb_pop _ _ _ _ _ HRB.out (by omega) (by have := HN2.out; omega) HOK.out H.out) ?_; rintro e w' ⟨vf2, u3, hu3, rfl, h'⟩; replace H := Lib.hid h'; clear h'))
    obtain ⟨u9, hu9, h9⟩ := tick_up (t := t) (N := u1 + u3 + 100) H.out (by omega) (by omega)
    exact hR.out _ _ ⟨_, u9, by rw [hv] <;> rfl, by rw [hv]; exact h9⟩
end
end Go.Proofs.YtognmhgdegpdiaaGreat
end
section
/- Rows of trees: an item rises; is a number in a row? -/
namespace Go.Proofs.YtognmhgdegpdiaaGreat
open Go.RowKit
set_option linter.unusedVariables false
set_option linter.unusedSimpArgs false
set_option maxRecDepth 100000
theorem Ar.rise_n (any : Bool) : ∀ (f : Nat) (s : Ar) (n : Int), (Ar.rise any f s n).1.n = s.n
  | 0, s, n => rfl
  | f + 1, s, n => by
    unfold Ar.rise
    split
    · rfl
    · rw [Ar.rise_n any f, Ar.swap_n]
theorem Ar.Ok.rise (any : Bool) : ∀ (f : Nat) {s : Ar} (n : Int), s.Ok → (Ar.rise any f s n).1.Ok
  | 0, s, n, h => h
  | f + 1, s, n, h => by
    unfold Ar.rise
    split
    · exact h
    · exact Ar.Ok.rise any f _ (h.swap _ _)
theorem Ar.RB.rise {K : Int} (any : Bool) : ∀ (f : Nat) {s : Ar} (n : Int), s.RB K → (Ar.rise any f s n).1.RB K
  | 0, s, n, h => h
  | f + 1, s, n, h => by
    unfold Ar.rise
    split
    · exact h
    · exact Ar.RB.rise any f _ (h.swap _ _)
section
variable {B : Nat} {w0 w : World} {C : List Ent} {vf : Value} (X : ArM) (s : Ar) (t : Nat)
theorem sl_index (q : Int) (v : Value) (L : List Int) (hL : L.length ≤ 1000000) (hT : TabIs w 0 3 1 v (iR L)) :
    Calls Tryz.prog 202 #[v, .int .i64 q] w fun e w' => w' = w ∧ ∃ j : Int, e = .returned (.int .i64 j) ∧ decide (0 ≤ j) = decide (q ∈ L) := by
  have HT := Lib.hid hT
  obtain ⟨V, c, hv, hV⟩ := iT_form hT
  subst hv
  clear hT
  obtain ⟨n, hn⟩ : ∃ n, L.length = n := ⟨_, rfl⟩
  rw [hn] at hL hV HT ⊢
  have HN := Lib.hid hn
  clear hn
  refine callsR fun R hR => ?_
  go_enter Tryz.func202, Tryz.ntmps202
  go_wp2_with fail
  go_loopw [8] (fun x wx => ∃ j : Nat, x = .int .i64 (j : Int) ∧ j ≤ n ∧ Hid (q ∉ L.take j) ∧ wx = w) (fun x _ => n - intOf2 x)
  case atStart => exact ⟨0, rfl, Nat.zero_le _, Lib.hid (by simp), rfl⟩
  case round =>
    obtain ⟨j, rfl, hj, HQ, rfl⟩ := hrel
    by_cases hlt : j < n
    · obtain ⟨x, hx⟩ : ∃ x, L[j]? = some x := ⟨_, List.getElem?_eq_getElem (by rw [HN.out]; exact hlt)⟩
      obtain ⟨g, rfl⟩ := hV (by omega)
      have t1 := iT_get HT.out hx
      have hts : L.take (j + 1) = L.take j ++ [x] := by rw [List.take_add_one, hx]; rfl
      have hmem : x ∈ L := List.mem_of_getElem? hx
      have HTS := Lib.hid hts
      have HM := Lib.hid hmem
      clear hx hts hmem hV
      by_cases hq : q = x
      · have g1 : (q == x) = true := by simpa using hq
        have HQX := Lib.hid hq
        clear hq
        go_wp2_with fail
        exact hR.out _ _ ⟨rfl, _, rfl, by rw [HQX.out]; simp [HM.out]⟩
      · have g1 : (q == x) = false := by simpa using hq
        have HQ2 : Hid (q ∉ L.take (j + 1)) := Lib.hid (by rw [HTS.out, List.mem_append]; rintro (h | h); exact HQ.out h; exact hq (List.mem_singleton.1 h))
        clear hq HQ
        go_wp2_with fail
        go_roundw
        case rel => exact ⟨j + 1, by go_num, by omega, HQ2, by trivial⟩
        case measure => simp [intOf2]; omega
    · obtain rfl : j = n := by omega
      clear hV
      go_wp2_with fail
      have hnq : q ∉ L := by have := HQ.out; rwa [List.take_of_length_le (by rw [HN.out]; omega)] at this
      exact hR.out _ _ ⟨rfl, _, rfl, by simp [hnq]⟩
theorem sl_contains (q : Int) (v : Value) (L : List Int) (hL : L.length ≤ 1000000) (hT : TabIs w 0 3 1 v (iR L)) :
    Calls Tryz.prog 167 #[v, .int .i64 q] w fun e w' => w' = w ∧ e = .returned (.bool (decide (q ∈ L))) := by
  have HT := Lib.hid hT
  obtain ⟨V, c, hv, hV⟩ := iT_form hT
  subst hv
  clear hT hV
  refine callsR fun R hR => ?_
  go_enter Tryz.func167, Tryz.ntmps167
  go_wp2_with (first | (go_at_call 202; refine Calls.mono (sl_index q _ L hL HT.out) ?_; rintro e w' ⟨rfl, j, rfl, hj⟩))
  exact hR.out _ _ ⟨rfl, by rw [← hj] <;> rfl⟩
set_option maxHeartbeats 8000000 in
theorem tr_rise (i : Int) (any : Bool) (hn : s.n ≤ 65536) (h : Led B w0 w (X.es vf (s.tick t) ++ C)) :
    Calls Tryz.prog 163 #[.pointer (some ⟨X.p, 0, none⟩), .int .i64 i, .bool any] w fun e w' => ∃ u, u ≤ 14 * (s.n + 1) + 1 ∧ e = .returned (.int .i64 (Ar.rise any (s.n + 1) s (s.cell i 9)).2) ∧ Led B w0 w' (X.es vf (((Ar.rise any (s.n + 1) s (s.cell i 9)).1).tick (t + u)) ++ C) := by
  have H := Lib.hid h
  clear h
  obtain ⟨G, hG⟩ : ∃ G, Ar.rise any (s.n + 1) s (s.cell i 9) = G := ⟨_, rfl⟩
  rw [hG]
  have HG := Lib.hid hG
  clear hG
  cases any with
  | true =>
    refine callsR fun R hR => ?_
    go_enter Tryz.func163, Tryz.ntmps163
    go_wp2_with (first | (go_at_call 161; refine Calls.mono (item_node _ _ _ _ H.out) ?_; rintro e w' ⟨rfl, h'⟩; replace H := Lib.hid h'; clear h'))
    go_loopw [7, 8, 9] (fun x y _ wx => ∃ (n : Int) (j : Nat) (sj : Ar) (u : Nat), x = .int .i64 n ∧ y = .int .i64 (j : Int) ∧ j ≤ s.n + 1 ∧ Hid (Ar.rise true (s.n + 1 - j) sj n = G) ∧ Hid (sj.n = s.n) ∧ u ≤ 14 * j + 1 ∧ Hid (Led B w0 wx (X.es vf (sj.tick (t + u)) ++ C))) (fun _ y _ _ => s.n + 2 - intOf2 y)
    case atStart => exact ⟨s.cell i 9, 0, s, 1, rfl, rfl, by omega, HG, Lib.hid rfl, by omega, H⟩
    case round =>
      clear H
      obtain ⟨n, j, sj, u, rfl, rfl, hj, HL, HNN, hu, H⟩ := hrel
      by_cases hp : n = -1
      · have e1 : Ar.rise true (s.n + 1 - j) sj n = (sj, n) := by cases h : s.n + 1 - j with | zero => rfl | succ f => unfold Ar.rise; rw [if_pos (.inl hp)]
        replace HL := Lib.hid (e1.symm.trans HL.out)
        subst hp
        clear e1
        go_wp2_with (first | fail)
        obtain ⟨u9, hu9, h9⟩ := tick_up (t := t) (N := 14 * (s.n + 1) + 1) H.out (by omega) (by omega)
        exact hR.out _ _ ⟨u9, hu9, by rw [← HL.out] <;> rfl, by rw [← HL.out]; exact h9⟩
      · have gA : (n != -1) = true := by simpa using hp
        by_cases hlt : j ≤ s.n
        · have gC : decide ((j : Int) ≤ (sj.n : Int)) = true := by rw [HNN.out]; simp; omega
          have gC2 : decide (j ≤ sj.n) = true := by rw [HNN.out]; simp; omega
          have gC3 : j ≤ sj.n := by rw [HNN.out]; omega
          have hw : IntKind.i64.wrap ((j : Int) + 1) = ((j + 1 : Nat) : Int) := by rw [IntKind.wrap_i64]; omega
          have hst : s.n + 1 - j = (s.n - j) + 1 := by omega
          have hl := HL.out
          rw [hst] at hl
          unfold Ar.rise at hl
          obtain ⟨up, hup⟩ : ∃ up, sj.cell n 0 = up := ⟨_, rfl⟩
          rw [hup] at hl
          have HUP := Lib.hid hup
          by_cases hu0 : up = -1
          · rw [if_pos (.inr (.inl hu0))] at hl
            replace HL := Lib.hid hl
            subst hu0
            clear hl hp hst hup
            go_wp2_with (first | (go_at_call 179; refine Calls.mono (t_cells _ _ _ H.out) ?_; rintro e w' ⟨rfl, rfl⟩) | (go_at_call 151; refine Calls.mono (t_cell _ _ _ _ _ (by decide) H.out) ?_; rintro e w' ⟨rfl, h'⟩; rw [HUP.out]; replace H := Lib.hid h'; clear h'))
            obtain ⟨u9, hu9, h9⟩ := tick_up (t := t) (N := 14 * (s.n + 1) + 1) H.out (by omega) (by omega)
            exact hR.out _ _ ⟨u9, hu9, by rw [← HL.out] <;> rfl, by rw [← HL.out]; exact h9⟩
          · have gU : (up == -1) = false := by simpa using hu0
            rw [if_neg (fun e => by rcases e with e | e | e; exact hp e; exact hu0 e; cases e.1)] at hl
            have HL2 := Lib.hid hl
            clear hl hp hst hup hu0 HL
            go_wp2_with (first | (go_at_call 179; refine Calls.mono (t_cells _ _ _ H.out) ?_; rintro e w' ⟨rfl, rfl⟩) | (go_at_call 151; refine Calls.mono (t_cell _ _ _ _ _ (by decide) H.out) ?_; rintro e w' ⟨rfl, h'⟩; rw [HUP.out]; replace H := Lib.hid h'; clear h') | (go_at_call 187; refine Calls.mono (item_swap _ _ _ _ _ H.out) ?_; rintro e w' ⟨rfl, h'⟩; replace H := Lib.hid h'; clear h'))
            go_roundw
            case rel => exact ⟨up, j + 1, _, u + 7, rfl, rfl, by omega, Lib.hid (by rw [show s.n + 1 - (j + 1) = s.n - j by omega]; exact HL2.out), Lib.hid (by rw [Ar.swap_n]; exact HNN.out), by omega, Lib.hid (by have := H.out; exact this)⟩
            case measure => simp [intOf2]; omega
        · have gC : decide ((j : Int) ≤ (sj.n : Int)) = false := by rw [HNN.out]; simp; omega
          have gC2 : decide (j ≤ sj.n) = false := by rw [HNN.out]; simp; omega
          have e0 : s.n + 1 - j = 0 := by omega
          have e1 : Ar.rise true (s.n + 1 - j) sj n = (sj, n) := by rw [e0]; rfl
          replace HL := Lib.hid (e1.symm.trans HL.out)
          clear hp e0 e1
          go_wp2_with (first | (go_at_call 179; refine Calls.mono (t_cells _ _ _ H.out) ?_; rintro e w' ⟨rfl, rfl⟩))
          obtain ⟨u9, hu9, h9⟩ := tick_up (t := t) (N := 14 * (s.n + 1) + 1) H.out (by omega) (by omega)
          exact hR.out _ _ ⟨u9, hu9, by rw [← HL.out] <;> rfl, by rw [← HL.out]; exact h9⟩
  | false =>
    refine callsR fun R hR => ?_
    go_enter Tryz.func163, Tryz.ntmps163
    go_wp2_with (first | (go_at_call 161; refine Calls.mono (item_node _ _ _ _ H.out) ?_; rintro e w' ⟨rfl, h'⟩; replace H := Lib.hid h'; clear h'))
    go_loopw [7, 8, 9] (fun x y _ wx => ∃ (n : Int) (j : Nat) (sj : Ar) (u : Nat), x = .int .i64 n ∧ y = .int .i64 (j : Int) ∧ j ≤ s.n + 1 ∧ Hid (Ar.rise false (s.n + 1 - j) sj n = G) ∧ Hid (sj.n = s.n) ∧ u ≤ 14 * j + 1 ∧ Hid (Led B w0 wx (X.es vf (sj.tick (t + u)) ++ C))) (fun _ y _ _ => s.n + 2 - intOf2 y)
    case atStart => exact ⟨s.cell i 9, 0, s, 1, rfl, rfl, by omega, HG, Lib.hid rfl, by omega, H⟩
    case round =>
      clear H
      obtain ⟨n, j, sj, u, rfl, rfl, hj, HL, HNN, hu, H⟩ := hrel
      by_cases hp : n = -1
      · have e1 : Ar.rise false (s.n + 1 - j) sj n = (sj, n) := by cases h : s.n + 1 - j with | zero => rfl | succ f => unfold Ar.rise; rw [if_pos (.inl hp)]
        replace HL := Lib.hid (e1.symm.trans HL.out)
        subst hp
        clear e1
        go_wp2_with (first | fail)
        obtain ⟨u9, hu9, h9⟩ := tick_up (t := t) (N := 14 * (s.n + 1) + 1) H.out (by omega) (by omega)
        exact hR.out _ _ ⟨u9, hu9, by rw [← HL.out] <;> rfl, by rw [← HL.out]; exact h9⟩
      · have gA : (n != -1) = true := by simpa using hp
        by_cases hlt : j ≤ s.n
        · have gC : decide ((j : Int) ≤ (sj.n : Int)) = true := by rw [HNN.out]; simp; omega
          have gC2 : decide (j ≤ sj.n) = true := by rw [HNN.out]; simp; omega
          have gC3 : j ≤ sj.n := by rw [HNN.out]; omega
          have hw : IntKind.i64.wrap ((j : Int) + 1) = ((j + 1 : Nat) : Int) := by rw [IntKind.wrap_i64]; omega
          have hst : s.n + 1 - j = (s.n - j) + 1 := by omega
          have hl := HL.out
          rw [hst] at hl
          unfold Ar.rise at hl
          obtain ⟨up, hup⟩ : ∃ up, sj.cell n 0 = up := ⟨_, rfl⟩
          rw [hup] at hl
          have HUP := Lib.hid hup
          by_cases hu0 : up = -1
          · rw [if_pos (.inr (.inl hu0))] at hl
            replace HL := Lib.hid hl
            subst hu0
            clear hl hp hst hup
            go_wp2_with (first | (go_at_call 179; refine Calls.mono (t_cells _ _ _ H.out) ?_; rintro e w' ⟨rfl, rfl⟩) | (go_at_call 151; refine Calls.mono (t_cell _ _ _ _ _ (by decide) H.out) ?_; rintro e w' ⟨rfl, h'⟩; rw [HUP.out]; replace H := Lib.hid h'; clear h'))
            obtain ⟨u9, hu9, h9⟩ := tick_up (t := t) (N := 14 * (s.n + 1) + 1) H.out (by omega) (by omega)
            exact hR.out _ _ ⟨u9, hu9, by rw [← HL.out] <;> rfl, by rw [← HL.out]; exact h9⟩
          · have gU : (up == -1) = false := by simpa using hu0
            cases gB : sj.nbefore n up with
            | false =>
              rw [if_pos (.inr (.inr ⟨rfl, gB⟩))] at hl
              replace HL := Lib.hid hl
              clear hl hp hst hup hu0
              go_wp2_with (first | (go_at_call 179; refine Calls.mono (t_cells _ _ _ H.out) ?_; rintro e w' ⟨rfl, rfl⟩) | (go_at_call 151; refine Calls.mono (t_cell _ _ _ _ _ (by decide) H.out) ?_; rintro e w' ⟨rfl, h'⟩; rw [HUP.out]; replace H := Lib.hid h'; clear h') | (go_at_call 164; refine Calls.mono (node_before _ _ _ _ _ H.out) ?_; rintro e w' ⟨rfl, h'⟩; rw [gB]; replace H := Lib.hid h'; clear h'))
              obtain ⟨u9, hu9, h9⟩ := tick_up (t := t) (N := 14 * (s.n + 1) + 1) H.out (by omega) (by omega)
              exact hR.out _ _ ⟨u9, hu9, by rw [← HL.out] <;> rfl, by rw [← HL.out]; exact h9⟩
            | true =>
              rw [if_neg (fun e => by rcases e with e | e | e; exact hp e; exact hu0 e; rw [gB] at e; cases e.2)] at hl
              have HL2 := Lib.hid hl
              clear hl hp hst hup hu0 HL
              go_wp2_with (first | (go_at_call 179; refine Calls.mono (t_cells _ _ _ H.out) ?_; rintro e w' ⟨rfl, rfl⟩) | (go_at_call 151; refine Calls.mono (t_cell _ _ _ _ _ (by decide) H.out) ?_; rintro e w' ⟨rfl, h'⟩; rw [HUP.out]; replace H := Lib.hid h'; clear h') | (go_at_call 164; refine Calls.mono (node_before _ _ _ _ _ H.out) ?_; rintro e w' ⟨rfl, h'⟩; rw [gB]; replace H := Lib.hid h'; clear h') | (go_at_call 187; refine Calls.mono (item_swap _ _ _ _ _ H.out) ?_; rintro e w' ⟨rfl, h'⟩; replace H := Lib.hid h'; clear h'))
              go_roundw
              case rel => exact ⟨up, j + 1, _, u + 13, rfl, rfl, by omega, Lib.hid (by rw [show s.n + 1 - (j + 1) = s.n - j by omega]; exact HL2.out), Lib.hid (by rw [Ar.swap_n]; exact HNN.out), by omega, Lib.hid (by have := H.out; exact this)⟩
              case measure => simp [intOf2]; omega
        · have gC : decide ((j : Int) ≤ (sj.n : Int)) = false := by rw [HNN.out]; simp; omega
          have gC2 : decide (j ≤ sj.n) = false := by rw [HNN.out]; simp; omega
          have e0 : s.n + 1 - j = 0 := by omega
          have e1 : Ar.rise false (s.n + 1 - j) sj n = (sj, n) := by rw [e0]; rfl
          replace HL := Lib.hid (e1.symm.trans HL.out)
          clear hp e0 e1
          go_wp2_with (first | (go_at_call 179; refine Calls.mono (t_cells _ _ _ H.out) ?_; rintro e w' ⟨rfl, rfl⟩))
          obtain ⟨u9, hu9, h9⟩ := tick_up (t := t) (N := 14 * (s.n + 1) + 1) H.out (by omega) (by omega)
          exact hR.out _ _ ⟨u9, hu9, by rw [← HL.out] <;> rfl, by rw [← HL.out]; exact h9⟩
end
end Go.Proofs.YtognmhgdegpdiaaGreat
end
section
/- Binomial and skew heaps: Fall, Cut. -/
namespace Go.Proofs.YtognmhgdegpdiaaGreat
open Go.RowKit
set_option linter.unusedVariables false
set_option linter.unusedSimpArgs false
set_option maxRecDepth 100000
section
variable {B : Nat} {w0 w : World} {C : List Ent} {vf : Value} (X : ArM) (s : Ar) (t : Nat)
theorem bi_fall (r i : Int) (hn : s.n ≤ 65536) (h : Led B w0 w (X.es vf (s.tick t) ++ C)) :
    Calls Tryz.prog 112 #[.pointer (some ⟨X.p, 0, none⟩), .int .i64 r, .int .i64 i] w fun e w' => ∃ u, u ≤ 14 * (s.n + 1) + 1 ∧ e = .returned (.int .i64 (s.tfall r i).2) ∧ Led B w0 w' (X.es vf (((s.tfall r i).1).tick (t + u)) ++ C) := by
  have H := Lib.hid h
  clear h
  refine callsR fun R hR => ?_
  go_enter Tryz.func112, Tryz.ntmps112
  go_wp2_with (first | (go_at_call 163; refine Calls.mono (tr_rise _ _ _ _ false hn H.out) ?_; rintro e w' ⟨u1, hu1, rfl, h'⟩; replace H := Lib.hid h'; clear h'))
  exact hR.out _ _ ⟨u1, hu1, rfl, H.out⟩
set_option maxHeartbeats 8000000 in
theorem bi_cut (r i : Int) (K : Int) (hrb : s.RB K) (hK : 0 ≤ K ∧ K ≤ 10000000) (hn : s.n ≤ 65536) (hok : s.Ok) (hlv : s.cell i 9 ≠ -1) (hin : (s.trise i).2 ∈ (s.trise i).1.tlist r) (hll : ((s.trise i).1.tlist r).length ≤ 1000) (hl : (idel (s.trise i).2 ((s.trise i).1.tlist r) ++ (s.trise i).1.tkids (s.trise i).2).length ≤ 19) (h : Led B w0 w (X.es vf (s.tick t) ++ C)) :
    Calls Tryz.prog 117 #[.pointer (some ⟨X.p, 0, none⟩), .int .i64 r, .int .i64 i] w fun e w' => ∃ vf2 u, e = .returned (.int .i64 (s.bcut r i).2) ∧ Led B w0 w' (X.es vf2 (((s.bcut r i).1).tick (t + u)) ++ C) := by
  have H := Lib.hid h
  clear h
  have hv : s.bcut r i = (s.trise i).1.bwo ((s.trise i).1.tlist r) (s.trise i).2 := by unfold Ar.bcut; rw [if_neg hlv, if_pos hin]
  have hok2 : (s.trise i).1.Ok := Ar.Ok.rise _ _ _ hok
  have hrb2 : (s.trise i).1.RB K := Ar.RB.rise _ _ _ hrb
  have hn2 : (s.trise i).1.n ≤ 65536 := by unfold Ar.trise; rw [Ar.rise_n]; exact hn
  have hx : Ar.rise true (s.n + 1) s (s.cell i 9) = s.trise i := rfl
  have g1 : (s.cell i 9 == -1) = false := by simpa using hlv
  generalize s.trise i = x at *
  obtain ⟨S, n⟩ := x
  simp only at *
  have HV := Lib.hid hv
  have HOK := Lib.hid hok2
  have HRB := Lib.hid hrb2
  have HN := Lib.hid hn2
  have HX := Lib.hid hx
  have HL := Lib.hid hl
  have HIN : Hid (decide (n ∈ S.tlist r) = true) := Lib.hid (by simpa using hin)
  clear hv hok hok2 hrb hrb2 hn2 hx hl hlv hin
  refine callsR fun R hR => ?_
  go_enter Tryz.func117, Tryz.ntmps117
  go_wp2_with (first | (go_at_call 161; refine Calls.mono (item_node _ _ _ _ H.out) ?_; rintro e w' ⟨rfl, h'⟩; replace H := Lib.hid h'; clear h') | (go_at_call 163; refine Calls.mono (tr_rise _ _ _ _ true hn H.out) ?_; rintro e w' ⟨u1, hu1, rfl, h'⟩; rw [HX.out] at h' ⊢; replace H := Lib.hid h'; clear h') | (go_at_call 145; refine Calls.mono (tr_list _ _ _ _ HN.out H.out) ?_; rintro e w' ⟨vl, rfl, h'⟩; obtain ⟨A9, c9, hv9, _⟩ := iT_form (iT_tab h'); subst hv9; replace H := Lib.hid h'; clear h') | (go_at_call 167; refine Calls.mono (sl_contains _ _ (S.tlist r) (by omega) (iT_tab H.out)) ?_; rintro e w' ⟨rfl, rfl⟩; rw [HIN.out]) | (go_at_call 156; refine Calls.mono (bi_wo _ _ _ (S.tlist r) _ n K HRB.out hK HN.out HOK.out hll HL.out H.out) ?_; rintro e w' ⟨vf2, u2, hu2, rfl, h'⟩; replace H := Lib.hid h'; clear h'))
  obtain ⟨M, hM⟩ : ∃ M, (S.tlist r).length = M := ⟨_, rfl⟩
  obtain ⟨u9, hu9, h9⟩ := tick_up (t := t) (N := 100000000 + u1 + u2) H.out (by omega) (by omega)
  exact hR.out _ _ ⟨_, u9, by rw [HV.out] <;> rfl, by rw [HV.out]; exact h9⟩
theorem sk_fall (r i : Int) (hn : s.n ≤ 65536) (h : Led B w0 w (X.es vf (s.tick t) ++ C)) :
    Calls Tryz.prog 113 #[.pointer (some ⟨X.p, 0, none⟩), .int .i64 r, .int .i64 i] w fun e w' => ∃ u, u ≤ 14 * (s.n + 1) + 1 ∧ e = .returned (.int .i64 (s.tfall r i).2) ∧ Led B w0 w' (X.es vf (((s.tfall r i).1).tick (t + u)) ++ C) := by
  have H := Lib.hid h
  clear h
  refine callsR fun R hR => ?_
  go_enter Tryz.func113, Tryz.ntmps113
  go_wp2_with (first | (go_at_call 163; refine Calls.mono (tr_rise _ _ _ _ false hn H.out) ?_; rintro e w' ⟨u1, hu1, rfl, h'⟩; replace H := Lib.hid h'; clear h'))
  exact hR.out _ _ ⟨u1, hu1, rfl, H.out⟩
set_option maxHeartbeats 8000000 in
theorem sk_cut (r i : Int) (K : Int) (hrb : s.RB K) (hK : 0 ≤ K ∧ K ≤ 10000000) (hn : s.n ≤ 65536) (hok : s.Ok) (hlv : s.cell i 9 ≠ -1) (hin : (s.trise i).2 ∈ (s.trise i).1.tlist r) (hll : ((s.trise i).1.tlist r).length ≤ 1000) (hl : (idel (s.trise i).2 ((s.trise i).1.tlist r) ++ (s.trise i).1.krest ((s.trise i).1.tkids (s.trise i).2)).length ≤ 19) (h : Led B w0 w (X.es vf (s.tick t) ++ C)) :
    Calls Tryz.prog 118 #[.pointer (some ⟨X.p, 0, none⟩), .int .i64 r, .int .i64 i] w fun e w' => ∃ vf2 u, e = .returned (.int .i64 (s.scut r i).2) ∧ Led B w0 w' (X.es vf2 (((s.scut r i).1).tick (t + u)) ++ C) := by
  have H := Lib.hid h
  clear h
  have hv : s.scut r i = (s.trise i).1.swo ((s.trise i).1.tlist r) (s.trise i).2 := by unfold Ar.scut; rw [if_neg hlv, if_pos hin]
  have hok2 : (s.trise i).1.Ok := Ar.Ok.rise _ _ _ hok
  have hrb2 : (s.trise i).1.RB K := Ar.RB.rise _ _ _ hrb
  have hn2 : (s.trise i).1.n ≤ 65536 := by unfold Ar.trise; rw [Ar.rise_n]; exact hn
  have hx : Ar.rise true (s.n + 1) s (s.cell i 9) = s.trise i := rfl
  have g1 : (s.cell i 9 == -1) = false := by simpa using hlv
  generalize s.trise i = x at *
  obtain ⟨S, n⟩ := x
  simp only at *
  have HV := Lib.hid hv
  have HOK := Lib.hid hok2
  have HRB := Lib.hid hrb2
  have HN := Lib.hid hn2
  have HX := Lib.hid hx
  have HL := Lib.hid hl
  have HIN : Hid (decide (n ∈ S.tlist r) = true) := Lib.hid (by simpa using hin)
  clear hv hok hok2 hrb hrb2 hn2 hx hl hlv hin
  refine callsR fun R hR => ?_
  go_enter Tryz.func118, Tryz.ntmps118
  go_wp2_with (first | (go_at_call 161; refine Calls.mono (item_node _ _ _ _ H.out) ?_; rintro e w' ⟨rfl, h'⟩; replace H := Lib.hid h'; clear h') | (go_at_call 163; refine Calls.mono (tr_rise _ _ _ _ true hn H.out) ?_; rintro e w' ⟨u1, hu1, rfl, h'⟩; rw [HX.out] at h' ⊢; replace H := Lib.hid h'; clear h') | (go_at_call 145; refine Calls.mono (tr_list _ _ _ _ HN.out H.out) ?_; rintro e w' ⟨vl, rfl, h'⟩; obtain ⟨A9, c9, hv9, _⟩ := iT_form (iT_tab h'); subst hv9; replace H := Lib.hid h'; clear h') | (go_at_call 167; refine Calls.mono (sl_contains _ _ (S.tlist r) (by omega) (iT_tab H.out)) ?_; rintro e w' ⟨rfl, rfl⟩; rw [HIN.out]) | (go_at_call 157; refine Calls.mono (sk_wo _ _ _ (S.tlist r) _ n K HRB.out hK HN.out HOK.out hll HL.out H.out) ?_; rintro e w' ⟨vf2, u2, hu2, rfl, h'⟩; replace H := Lib.hid h'; clear h'))
  obtain ⟨M, hM⟩ : ∃ M, (S.tlist r).length = M := ⟨_, rfl⟩
  obtain ⟨u9, hu9, h9⟩ := tick_up (t := t) (N := 100000000 + u1 + u2) H.out (by omega) (by omega)
  exact hR.out _ _ ⟨_, u9, by rw [HV.out] <;> rfl, by rw [HV.out]; exact h9⟩
end
end Go.Proofs.YtognmhgdegpdiaaGreat
end
section
/- Pairing heaps: a node leaves its place; Fall, Cut. -/
namespace Go.Proofs.YtognmhgdegpdiaaGreat
open Go.RowKit
set_option linter.unusedVariables false
set_option linter.unusedSimpArgs false
set_option maxRecDepth 100000
theorem Ar.pleave_n (s : Ar) (n : Int) : (s.pleave n).n = s.n := by unfold Ar.pleave; rw [Ar.proot_n]; split <;> (try rw [Ar.put_n]) <;> split <;> rw [Ar.put_n]
theorem Ar.Ok.proot {s : Ar} (h : s.Ok) (n : Int) : (s.proot n).Ok := ((h.put _ _ _).put _ _ _).put _ _ _
theorem Ar.Ok.pleave {s : Ar} (h : s.Ok) (n : Int) : (s.pleave n).Ok := by
  unfold Ar.pleave
  refine Ar.Ok.proot ?_ n
  split
  · split <;> exact h.put _ _ _
  · refine Ar.Ok.put ?_ _ _ _
    split <;> exact h.put _ _ _
section
variable {B : Nat} {w0 w : World} {C : List Ent} {vf : Value} (X : ArM) (s : Ar) (t : Nat)
set_option maxHeartbeats 4000000 in
theorem pr_leave (n : Int) (h : Led B w0 w (X.es vf (s.tick t) ++ C)) :
    Calls Tryz.prog 166 #[.pointer (some ⟨X.p, 0, none⟩), .int .i64 n] w fun e w' => ∃ u, u ≤ 10 ∧ e = .returned (.tuple #[]) ∧ Led B w0 w' (X.es vf ((s.pleave n).tick (t + u)) ++ C) := by
  have H := Lib.hid h
  clear h
  by_cases h2 : s.cell n 2 = -1
  · by_cases h3 : s.cell n 3 = -1
    · have hv : s.pleave n = (s.put (s.cell n 0) 1 (s.cell n 3)).proot n := by unfold Ar.pleave; rw [if_pos h3, if_pos h2]
      have g3 : (s.cell n 3 != -1) = false := by simpa using h3
      have g2 : (s.cell n 2 != -1) = false := by simpa using h2
      have HV := Lib.hid hv
      clear hv h2 h3
      refine callsR fun R hR => ?_
      go_enter Tryz.func166, Tryz.ntmps166
      go_wp2_with (first | (go_at_call 151; refine Calls.mono (t_cell _ _ _ _ _ (by decide) H.out) ?_; rintro e w' ⟨rfl, h'⟩; replace H := Lib.hid h'; clear h') | (go_at_call 89; refine Calls.mono (t_set _ _ _ _ _ _ (by decide) H.out) ?_; rintro e w' ⟨rfl, h'⟩; replace H := Lib.hid h'; clear h') | (go_at_call 201; refine Calls.mono (pr_root _ _ _ _ H.out) ?_; rintro e w' ⟨rfl, h'⟩; replace H := Lib.hid h'; clear h'))
      obtain ⟨u9, hu9, h9⟩ := tick_up (t := t) (N := 10) H.out (by omega) (by omega)
      refine bodyPost_end (results_none rfl _ _ _) rfl (hR.out _ _ ⟨u9, hu9, rfl, by rw [HV.out]; exact h9⟩)
    · have hv : s.pleave n = ((s.put (s.cell n 0) 1 (s.cell n 3)).put (s.cell n 3) 2 (s.cell n 2)).proot n := by unfold Ar.pleave; rw [if_neg h3, if_pos h2]
      have g3 : (s.cell n 3 != -1) = true := by simpa using h3
      have g2 : (s.cell n 2 != -1) = false := by simpa using h2
      have HV := Lib.hid hv
      clear hv h2 h3
      refine callsR fun R hR => ?_
      go_enter Tryz.func166, Tryz.ntmps166
      go_wp2_with (first | (go_at_call 151; refine Calls.mono (t_cell _ _ _ _ _ (by decide) H.out) ?_; rintro e w' ⟨rfl, h'⟩; replace H := Lib.hid h'; clear h') | (go_at_call 89; refine Calls.mono (t_set _ _ _ _ _ _ (by decide) H.out) ?_; rintro e w' ⟨rfl, h'⟩; replace H := Lib.hid h'; clear h') | (go_at_call 201; refine Calls.mono (pr_root _ _ _ _ H.out) ?_; rintro e w' ⟨rfl, h'⟩; replace H := Lib.hid h'; clear h'))
      obtain ⟨u9, hu9, h9⟩ := tick_up (t := t) (N := 10) H.out (by omega) (by omega)
      refine bodyPost_end (results_none rfl _ _ _) rfl (hR.out _ _ ⟨u9, hu9, rfl, by rw [HV.out]; exact h9⟩)
  · by_cases h3 : s.cell n 3 = -1
    · have hv : s.pleave n = (s.put (s.cell n 2) 3 (s.cell n 3)).proot n := by unfold Ar.pleave; rw [if_pos h3, if_neg h2]
      have g3 : (s.cell n 3 != -1) = false := by simpa using h3
      have g2 : (s.cell n 2 != -1) = true := by simpa using h2
      have HV := Lib.hid hv
      clear hv h2 h3
      refine callsR fun R hR => ?_
      go_enter Tryz.func166, Tryz.ntmps166
      go_wp2_with (first | (go_at_call 151; refine Calls.mono (t_cell _ _ _ _ _ (by decide) H.out) ?_; rintro e w' ⟨rfl, h'⟩; replace H := Lib.hid h'; clear h') | (go_at_call 89; refine Calls.mono (t_set _ _ _ _ _ _ (by decide) H.out) ?_; rintro e w' ⟨rfl, h'⟩; replace H := Lib.hid h'; clear h') | (go_at_call 201; refine Calls.mono (pr_root _ _ _ _ H.out) ?_; rintro e w' ⟨rfl, h'⟩; replace H := Lib.hid h'; clear h'))
      obtain ⟨u9, hu9, h9⟩ := tick_up (t := t) (N := 10) H.out (by omega) (by omega)
      refine bodyPost_end (results_none rfl _ _ _) rfl (hR.out _ _ ⟨u9, hu9, rfl, by rw [HV.out]; exact h9⟩)
    · have hv : s.pleave n = ((s.put (s.cell n 2) 3 (s.cell n 3)).put (s.cell n 3) 2 (s.cell n 2)).proot n := by unfold Ar.pleave; rw [if_neg h3, if_neg h2]
      have g3 : (s.cell n 3 != -1) = true := by simpa using h3
      have g2 : (s.cell n 2 != -1) = true := by simpa using h2
      have HV := Lib.hid hv
      clear hv h2 h3
      refine callsR fun R hR => ?_
      go_enter Tryz.func166, Tryz.ntmps166
      go_wp2_with (first | (go_at_call 151; refine Calls.mono (t_cell _ _ _ _ _ (by decide) H.out) ?_; rintro e w' ⟨rfl, h'⟩; replace H := Lib.hid h'; clear h') | (go_at_call 89; refine Calls.mono (t_set _ _ _ _ _ _ (by decide) H.out) ?_; rintro e w' ⟨rfl, h'⟩; replace H := Lib.hid h'; clear h') | (go_at_call 201; refine Calls.mono (pr_root _ _ _ _ H.out) ?_; rintro e w' ⟨rfl, h'⟩; replace H := Lib.hid h'; clear h'))
      obtain ⟨u9, hu9, h9⟩ := tick_up (t := t) (N := 10) H.out (by omega) (by omega)
      refine bodyPost_end (results_none rfl _ _ _) rfl (hR.out _ _ ⟨u9, hu9, rfl, by rw [HV.out]; exact h9⟩)
set_option maxHeartbeats 4000000 in
theorem pr_fall (r i : Int) (h : Led B w0 w (X.es vf (s.tick t) ++ C)) :
    Calls Tryz.prog 115 #[.pointer (some ⟨X.p, 0, none⟩), .int .i64 r, .int .i64 i] w fun e w' => ∃ u, u ≤ 25 ∧ e = .returned (.int .i64 (s.pfall r i).2) ∧ Led B w0 w' (X.es vf (((s.pfall r i).1).tick (t + u)) ++ C) := by
  have H := Lib.hid h
  clear h
  obtain ⟨n, hnn⟩ : ∃ n, s.cell i 9 = n := ⟨_, rfl⟩
  by_cases h1 : n = -1
  · have hv : s.pfall r i = (s, r) := by unfold Ar.pfall; rw [hnn, if_pos (.inl h1)]
    subst h1
    refine callsR fun R hR => ?_
    go_enter Tryz.func115, Tryz.ntmps115
    go_wp2_with (first | (go_at_call 161; refine Calls.mono (item_node _ _ _ _ H.out) ?_; rintro e w' ⟨rfl, h'⟩; rw [hnn]; replace H := Lib.hid h'; clear h'))
    obtain ⟨u9, hu9, h9⟩ := tick_up (t := t) (N := 25) H.out (by omega) (by omega)
    exact hR.out _ _ ⟨u9, hu9, by rw [hv] <;> rfl, by rw [hv]; exact h9⟩
  · have g1 : (n == -1) = false := by simpa using h1
    by_cases h2 : n = r
    · have hv : s.pfall r i = (s, r) := by unfold Ar.pfall; rw [hnn, if_pos (.inr (.inl h2))]
      have g2 : (n == r) = true := by simpa using h2
      clear h1 h2
      refine callsR fun R hR => ?_
      go_enter Tryz.func115, Tryz.ntmps115
      go_wp2_with (first | (go_at_call 161; refine Calls.mono (item_node _ _ _ _ H.out) ?_; rintro e w' ⟨rfl, h'⟩; rw [hnn]; replace H := Lib.hid h'; clear h'))
      obtain ⟨u9, hu9, h9⟩ := tick_up (t := t) (N := 25) H.out (by omega) (by omega)
      exact hR.out _ _ ⟨u9, hu9, by rw [hv] <;> rfl, by rw [hv]; exact h9⟩
    · have g2 : (n == r) = false := by simpa using h2
      by_cases h3 : s.cell n 0 = -1
      · have hv : s.pfall r i = (s, r) := by unfold Ar.pfall; rw [hnn, if_pos (.inr (.inr h3))]
        have g3 : (s.cell n 0 == -1) = true := by simpa using h3
        clear h1 h2 h3
        refine callsR fun R hR => ?_
        go_enter Tryz.func115, Tryz.ntmps115
        go_wp2_with (first | (go_at_call 161; refine Calls.mono (item_node _ _ _ _ H.out) ?_; rintro e w' ⟨rfl, h'⟩; rw [hnn]; replace H := Lib.hid h'; clear h') | (go_at_call 151; refine Calls.mono (t_cell _ _ _ _ _ (by decide) H.out) ?_; rintro e w' ⟨rfl, h'⟩; replace H := Lib.hid h'; clear h'))
        obtain ⟨u9, hu9, h9⟩ := tick_up (t := t) (N := 25) H.out (by omega) (by omega)
        exact hR.out _ _ ⟨u9, hu9, by rw [hv] <;> rfl, by rw [hv]; exact h9⟩
      · have hv : s.pfall r i = (s.pleave n).plink r n := by unfold Ar.pfall; rw [hnn, if_neg (fun e => by rcases e with e | e | e; exact h1 e; exact h2 e; exact h3 e)]
        have g3 : (s.cell n 0 == -1) = false := by simpa using h3
        clear h1 h2 h3
        refine callsR fun R hR => ?_
        go_enter Tryz.func115, Tryz.ntmps115
        go_wp2_with (first | (go_at_call 161; refine Calls.mono (item_node _ _ _ _ H.out) ?_; rintro e w' ⟨rfl, h'⟩; rw [hnn]; replace H := Lib.hid h'; clear h') | (go_at_call 151; refine Calls.mono (t_cell _ _ _ _ _ (by decide) H.out) ?_; rintro e w' ⟨rfl, h'⟩; replace H := Lib.hid h'; clear h') | (go_at_call 166; refine Calls.mono (pr_leave _ _ _ _ H.out) ?_; rintro e w' ⟨u1, hu1, rfl, h'⟩; replace H := Lib.hid h'; clear h') | (go_at_call 150; refine Calls.mono (pr_link _ _ _ _ _ H.out) ?_; rintro e w' ⟨u2, hu2, rfl, h'⟩; replace H := Lib.hid h'; clear h'))
        obtain ⟨u9, hu9, h9⟩ := tick_up (t := t) (N := 25) H.out (by omega) (by omega)
        exact hR.out _ _ ⟨u9, hu9, by rw [hv] <;> rfl, by rw [hv]; exact h9⟩
set_option maxHeartbeats 4000000 in
theorem pr_cut (r i : Int) (hn : s.n ≤ 65536) (hok : s.Ok) (hlv : s.cell i 9 ≠ -1) (h : Led B w0 w (X.es vf (s.tick t) ++ C)) :
    Calls Tryz.prog 120 #[.pointer (some ⟨X.p, 0, none⟩), .int .i64 r, .int .i64 i] w fun e w' => ∃ vf2 u, e = .returned (.int .i64 (s.pcut r i).2) ∧ Led B w0 w' (X.es vf2 (((s.pcut r i).1).tick (t + u)) ++ C) := by
  have H := Lib.hid h
  clear h
  have HOK := Lib.hid hok
  clear hok
  obtain ⟨n, hnn⟩ : ∃ n, s.cell i 9 = n := ⟨_, rfl⟩
  rw [hnn] at hlv
  have hn1 := hlv
  have g1 : (n == -1) = false := by simpa using hn1
  clear hlv
  by_cases h3 : n = r
  · have hv : s.pcut r i = ((s.ppop n).1, (s.ppop n).2.1) := by unfold Ar.pcut; rw [hnn, if_neg hn1, if_pos (.inl h3)]
    have g2 : (n == r) = true := by simpa using h3
    clear h3 hn1
    refine callsR fun R hR => ?_
    go_enter Tryz.func120, Tryz.ntmps120
    go_wp2_with (first | (go_at_call 161; refine Calls.mono (item_node _ _ _ _ H.out) ?_; rintro e w' ⟨rfl, h'⟩; rw [hnn]; replace H := Lib.hid h'; clear h') | (go_at_call 159; refine Calls.mono (pr_pop _ _ _ _ hn HOK.out H.out) ?_; rintro e w' ⟨vf2, u3, hu3, rfl, h'⟩; replace H := Lib.hid h'; clear h'))
    obtain ⟨u9, hu9, h9⟩ := tick_up (t := t) (N := u3 + 100) H.out (by omega) (by omega)
    exact hR.out _ _ ⟨_, u9, by rw [hv] <;> rfl, by rw [hv]; exact h9⟩
  · have g2 : (n == r) = false := by simpa using h3
    by_cases h4 : s.cell n 0 = -1
    · have hv : s.pcut r i = ((s.ppop n).1, (s.ppop n).2.1) := by unfold Ar.pcut; rw [hnn, if_neg hn1, if_pos (.inr h4)]
      have g3 : (s.cell n 0 == -1) = true := by simpa using h4
      clear h3 h4 hn1
      refine callsR fun R hR => ?_
      go_enter Tryz.func120, Tryz.ntmps120
      go_wp2_with (first | (go_at_call 161; refine Calls.mono (item_node _ _ _ _ H.out) ?_; rintro e w' ⟨rfl, h'⟩; rw [hnn]; replace H := Lib.hid h'; clear h') | (go_at_call 151; refine Calls.mono (t_cell _ _ _ _ _ (by decide) H.out) ?_; rintro e w' ⟨rfl, h'⟩; replace H := Lib.hid h'; clear h') | (go_at_call 159; refine Calls.mono (pr_pop _ _ _ _ hn HOK.out H.out) ?_; rintro e w' ⟨vf2, u3, hu3, rfl, h'⟩; replace H := Lib.hid h'; clear h'))
      obtain ⟨u9, hu9, h9⟩ := tick_up (t := t) (N := u3 + 100) H.out (by omega) (by omega)
      exact hR.out _ _ ⟨_, u9, by rw [hv] <;> rfl, by rw [hv]; exact h9⟩
    · have hv : s.pcut r i = ((s.pleave n).ppop n).1.plink r ((s.pleave n).ppop n).2.1 := by unfold Ar.pcut; rw [hnn, if_neg hn1, if_neg (fun e => by rcases e with e | e; exact h3 e; exact h4 e)]
      have g3 : (s.cell n 0 == -1) = false := by simpa using h4
      have HN2 : Hid ((s.pleave n).n ≤ 65536) := Lib.hid (by rw [Ar.pleave_n]; exact hn)
      have HOK2 := Lib.hid (HOK.out.pleave n)
      clear h3 h4 hn1
      refine callsR fun R hR => ?_
      go_enter Tryz.func120, Tryz.ntmps120
      go_wp2_with (first | (go_at_call 161; refine Calls.mono (item_node _ _ _ _ H.out) ?_; rintro e w' ⟨rfl, h'⟩; rw [hnn]; replace H := Lib.hid h'; clear h') | (go_at_call 151; refine Calls.mono (t_cell _ _ _ _ _ (by decide) H.out) ?_; rintro e w' ⟨rfl, h'⟩; replace H := Lib.hid h'; clear h') | (go_at_call 166; refine Calls.mono (pr_leave _ _ _ _ H.out) ?_; rintro e w' ⟨u1, hu1, rfl, h'⟩; replace H := Lib.hid h'; clear h') | (go_at_call 159; refine Calls.mono (pr_pop _ _ _ _ HN2.out HOK2.out H.out) ?_; rintro e w' ⟨vf2, u3, hu3, rfl, h'⟩; replace H := Lib.hid h'; clear h') | (go_at_call 150; refine Calls.mono (pr_link _ _ _ _ _ H.out) ?_; rintro e w' ⟨u2, hu2, rfl, h'⟩; replace H := Lib.hid h'; clear h'))
      obtain ⟨u9, hu9, h9⟩ := tick_up (t := t) (N := u1 + u2 + u3 + 100) H.out (by omega) (by omega)
      exact hR.out _ _ ⟨_, u9, by rw [hv] <;> rfl, by rw [hv]; exact h9⟩
end
end Go.Proofs.YtognmhgdegpdiaaGreat
end
section
/- The heap of a kind: Fall, Cut. -/
namespace Go.Proofs.YtognmhgdegpdiaaGreat
open Go.RowKit
set_option linter.unusedVariables false
set_option linter.unusedSimpArgs false
set_option maxRecDepth 100000
def Ar.kfall (k : Int) (s : Ar) (r i : Int) : Ar × Int := if k = 1 then s.lfall r i else if k = 2 then s.tfall r i else if k = 3 then s.tfall r i else if k = 4 then s.ffall r i else s.pfall r i
def Ar.kfallB (k : Int) (s : Ar) (r i : Int) : Nat := if k = 1 then s.lfallB r i else 19 * (s.n + 1) + 25
def Ar.kcut (k : Int) (s : Ar) (r i : Int) : Ar × Int := if k = 1 then s.lcut r i else if k = 2 then s.bcut r i else if k = 3 then s.scut r i else if k = 4 then s.fgone r i else s.pcut r i
structure FallPre (s : Ar) : Prop where
  ok : s.Ok
  n2 : s.n ≤ 65536
  rb : s.RB 9000000
structure CutPre (k : Int) (s : Ar) (r i : Int) : Prop where
  ok : s.Ok
  n1 : 1 ≤ s.n
  n2 : s.n ≤ 65536
  rb : s.RB 9000000
  lv : s.has (s.cell i 9) = true
  l1 : k = 1 → s.cell i 9 ≠ r → s.cell (s.cell i 9) 0 ≠ -1 → ((s.lleave (s.cell i 9)).lpop (s.cell i 9)).1.RB 10000000 ∧ ((s.lleave (s.cell i 9)).lpop (s.cell i 9)).1.n ≤ 65536
  l2 : k = 2 → (s.trise i).2 ∈ (s.trise i).1.tlist r ∧ ((s.trise i).1.tlist r).length ≤ 1000 ∧ (idel (s.trise i).2 ((s.trise i).1.tlist r) ++ (s.trise i).1.tkids (s.trise i).2).length ≤ 19
  l3 : k = 3 → (s.trise i).2 ∈ (s.trise i).1.tlist r ∧ ((s.trise i).1.tlist r).length ≤ 1000 ∧ (idel (s.trise i).2 ((s.trise i).1.tlist r) ++ (s.trise i).1.krest ((s.trise i).1.tkids (s.trise i).2)).length ≤ 19
  l4 : k = 4 → (s.fupd r (s.cell i 9)).Ok ∧ (s.fupd r (s.cell i 9)).RB 10000000 ∧ (s.fupd r (s.cell i 9)).n = s.n
theorem Ar.RB.rl {s : Ar} {K : Int} (h : s.RB K) : s.RL 1 K := fun c => h c
section
variable {B : Nat} {w0 w : World} {C : List Ent} {vf : Value} (X : ArM) (s : Ar) (t : Nat)
set_option maxHeartbeats 4000000 in
theorem kd_fall (k : Int) (r i : Int) (hk : 1 ≤ k ∧ k ≤ 5) (hp : FallPre s) (h : Led B w0 w (X.es vf (s.tick t) ++ C)) :
    Calls Tryz.prog 69 #[.int .i64 k, .pointer (some ⟨X.p, 0, none⟩), .int .i64 r, .int .i64 i] w fun e w' => ∃ u, u ≤ Ar.kfallB k s r i ∧ e = .returned (.int .i64 (Ar.kfall k s r i).2) ∧ Led B w0 w' (X.es vf (((Ar.kfall k s r i).1).tick (t + u)) ++ C) := by
  have H := Lib.hid h
  clear h
  obtain h1 | h1 | h1 | h1 | h1 : k = 1 ∨ k = 2 ∨ k = 3 ∨ k = 4 ∨ k = 5 := by omega
  · subst h1
    refine callsR fun R hR => ?_
    go_enter Tryz.func69, Tryz.ntmps69
    go_wp2_with (first | (go_at_call 111; refine Calls.mono (lf_fall _ _ _ _ _ 9000000 hp.rb ⟨by decide, by decide⟩ hp.n2 H.out) ?_; rintro e w' ⟨u, hu, rfl, h'⟩; replace H := Lib.hid h'; clear h'))
    exact hR.out _ _ ⟨u, hu, rfl, H.out⟩
  · subst h1
    refine callsR fun R hR => ?_
    go_enter Tryz.func69, Tryz.ntmps69
    go_wp2_with (first | (go_at_call 112; refine Calls.mono (bi_fall _ _ _ _ _ hp.n2 H.out) ?_; rintro e w' ⟨u, hu, rfl, h'⟩; replace H := Lib.hid h'; clear h'))
    exact hR.out _ _ ⟨u, by show u ≤ 19 * (s.n + 1) + 25; omega, rfl, H.out⟩
  · subst h1
    refine callsR fun R hR => ?_
    go_enter Tryz.func69, Tryz.ntmps69
    go_wp2_with (first | (go_at_call 113; refine Calls.mono (sk_fall _ _ _ _ _ hp.n2 H.out) ?_; rintro e w' ⟨u, hu, rfl, h'⟩; replace H := Lib.hid h'; clear h'))
    exact hR.out _ _ ⟨u, by show u ≤ 19 * (s.n + 1) + 25; omega, rfl, H.out⟩
  · subst h1
    refine callsR fun R hR => ?_
    go_enter Tryz.func69, Tryz.ntmps69
    go_wp2_with (first | (go_at_call 114; refine Calls.mono (fb_fall _ _ _ _ _ 9000000 hp.rb.rl ⟨by decide, by decide⟩ hp.n2 H.out) ?_; rintro e w' ⟨u, hu, rfl, h'⟩; replace H := Lib.hid h'; clear h'))
    exact hR.out _ _ ⟨u, by show u ≤ 19 * (s.n + 1) + 25; omega, rfl, H.out⟩
  · subst h1
    refine callsR fun R hR => ?_
    go_enter Tryz.func69, Tryz.ntmps69
    go_wp2_with (first | (go_at_call 115; refine Calls.mono (pr_fall _ _ _ _ _ H.out) ?_; rintro e w' ⟨u, hu, rfl, h'⟩; replace H := Lib.hid h'; clear h'))
    exact hR.out _ _ ⟨u, by show u ≤ 19 * (s.n + 1) + 25; omega, rfl, H.out⟩
set_option maxHeartbeats 4000000 in
theorem kd_cut (k : Int) (r i : Int) (hk : 1 ≤ k ∧ k ≤ 5) (hp : CutPre k s r i) (h : Led B w0 w (X.es vf (s.tick t) ++ C)) :
    Calls Tryz.prog 70 #[.int .i64 k, .pointer (some ⟨X.p, 0, none⟩), .int .i64 r, .int .i64 i] w fun e w' => ∃ vf2 u, e = .returned (.int .i64 (Ar.kcut k s r i).2) ∧ Led B w0 w' (X.es vf2 (((Ar.kcut k s r i).1).tick (t + u)) ++ C) := by
  have H := Lib.hid h
  clear h
  obtain h1 | h1 | h1 | h1 | h1 : k = 1 ∨ k = 2 ∨ k = 3 ∨ k = 4 ∨ k = 5 := by omega
  · subst h1
    refine callsR fun R hR => ?_
    go_enter Tryz.func70, Tryz.ntmps70
    go_wp2_with (first | (go_at_call 116; refine Calls.mono (lf_cut _ _ _ _ _ 9000000 hp.rb ⟨by decide, by decide⟩ hp.n2 hp.ok hp.lv (hp.l1 rfl) H.out) ?_; rintro e w' ⟨vf2, u, rfl, h'⟩; replace H := Lib.hid h'; clear h'))
    exact hR.out _ _ ⟨_, u, rfl, H.out⟩
  · subst h1
    refine callsR fun R hR => ?_
    go_enter Tryz.func70, Tryz.ntmps70
    go_wp2_with (first | (go_at_call 117; refine Calls.mono (bi_cut _ _ _ _ _ 9000000 hp.rb ⟨by decide, by decide⟩ hp.n2 hp.ok (Ar.has_ne hp.lv) (hp.l2 rfl).1 (hp.l2 rfl).2.1 (hp.l2 rfl).2.2 H.out) ?_; rintro e w' ⟨vf2, u, rfl, h'⟩; replace H := Lib.hid h'; clear h'))
    exact hR.out _ _ ⟨_, u, rfl, H.out⟩
  · subst h1
    refine callsR fun R hR => ?_
    go_enter Tryz.func70, Tryz.ntmps70
    go_wp2_with (first | (go_at_call 118; refine Calls.mono (sk_cut _ _ _ _ _ 9000000 hp.rb ⟨by decide, by decide⟩ hp.n2 hp.ok (Ar.has_ne hp.lv) (hp.l3 rfl).1 (hp.l3 rfl).2.1 (hp.l3 rfl).2.2 H.out) ?_; rintro e w' ⟨vf2, u, rfl, h'⟩; replace H := Lib.hid h'; clear h'))
    exact hR.out _ _ ⟨_, u, rfl, H.out⟩
  · subst h1
    refine callsR fun R hR => ?_
    go_enter Tryz.func70, Tryz.ntmps70
    go_wp2_with (first | (go_at_call 119; refine Calls.mono (fb_Cut _ _ _ _ _ 9000000 hp.rb.rl ⟨by decide, by decide⟩ hp.n2 hp.n1 (hp.l4 rfl).1 (hp.l4 rfl).2.1 (hp.l4 rfl).2.2 (Ar.has_ne hp.lv) H.out) ?_; rintro e w' ⟨vf2, u, rfl, h'⟩; replace H := Lib.hid h'; clear h'))
    exact hR.out _ _ ⟨_, u, rfl, H.out⟩
  · subst h1
    refine callsR fun R hR => ?_
    go_enter Tryz.func70, Tryz.ntmps70
    go_wp2_with (first | (go_at_call 120; refine Calls.mono (pr_cut _ _ _ _ _ hp.n2 hp.ok (Ar.has_ne hp.lv) H.out) ?_; rintro e w' ⟨vf2, u, rfl, h'⟩; replace H := Lib.hid h'; clear h'))
    exact hR.out _ _ ⟨_, u, rfl, H.out⟩
end
end Go.Proofs.YtognmhgdegpdiaaGreat
end
