import Derived.Test.YtognmhgdegpdiaaGreatTopRW
import Derived.BigRegion
import Derived.Lib.Overlaps
import Derived.Lib.AppendZerosOnto
import Derived.Lib.AppendZeros
import Derived.Lib.JoinLaws
import Derived.Laws.NewBlocks
section
/- Trees by their ranks: what is simple. -/
namespace Go.Proofs.YtognmhgdegpdiaaGreat
open Go.RowKit
set_option linter.unusedVariables false
set_option linter.unusedSimpArgs false
set_option maxRecDepth 100000
def Ar.tlist (s : Ar) (r : Int) : List Int := s.rowL 3 s.n r
def Ar.tkids (s : Ar) (n : Int) : List Int := s.rowL 3 s.n (s.cell n 1)
def Ar.tunder (s : Ar) (n up : Int) : Ar := ((s.put n 3 (s.cell up 1)).put n 0 up).put up 1 n
def Ar.tlink (s : Ar) (n m q : Int) : Ar × Int := if s.nbefore m n then ((s.tunder n m).put m 4 (q + 1), m) else ((s.tunder m n).put n 4 (q + 1), n)
def Ar.trowB : Ar → List Int → Int → Ar × Int
  | s, [], nx => (s, nx)
  | s, x :: l, nx => Ar.trowB ((s.put x 3 nx).put x 0 (-1)) l x
def Ar.trow (s : Ar) (l : List Int) : Ar × Int := s.trowB l.reverse (-1)
def Ar.tbest (s : Ar) : Int → List Int → Int
  | b, [] => b
  | b, n :: l => s.tbest (if b = -1 ∨ s.nbefore n b = true then n else b) l
theorem Ar.Ok.tunder {s : Ar} (h : s.Ok) (n up : Int) : (s.tunder n up).Ok := ((h.put _ _ _).put _ _ _).put _ _ _
theorem Ar.Ok.tlink {s : Ar} (h : s.Ok) (n m q : Int) : (s.tlink n m q).1.Ok := by unfold Ar.tlink; split <;> exact (h.tunder _ _).put _ _ _
theorem Ar.Ok.trowB : ∀ {l : List Int} {s : Ar} {nx : Int}, s.Ok → (s.trowB l nx).1.Ok
  | [], _, _, h => h
  | x :: l, s, nx, h => Ar.Ok.trowB (l := l) ((h.put _ _ _).put _ _ _)
theorem Ar.RB.tunder {s : Ar} {K : Int} (h : s.RB K) (n up : Int) : (s.tunder n up).RB K := ((h.put _ _ _ (by decide)).put _ _ _ (by decide)).put _ _ _ (by decide)
theorem Ar.RB.tlink {s : Ar} {K : Int} (h : s.RB K) (n m q : Int) (h1 : -2 ≤ q) (h2 : q + 1 ≤ K) : (s.tlink n m q).1.RB K := by
  unfold Ar.tlink
  split <;> exact (h.tunder _ _).rank _ _ (by omega) h2
theorem Ar.RB.trowB {K : Int} : ∀ {l : List Int} {s : Ar} {nx : Int}, s.RB K → (s.trowB l nx).1.RB K
  | [], _, _, h => h
  | x :: l, s, nx, h => Ar.RB.trowB (l := l) ((h.put _ _ _ (by decide)).put _ _ _ (by decide))
section
variable {B : Nat} {w0 w : World} {C : List Ent} {vf : Value} (X : ArM) (s : Ar) (t : Nat)
theorem tr_list (r : Int) (hn : s.n ≤ 65536) (h : Led B w0 w (X.es vf (s.tick t) ++ C)) :
    Calls Tryz.prog 145 #[.pointer (some ⟨X.p, 0, none⟩), .int .i64 r] w fun e w' => ∃ v, e = .returned v ∧ Led B w0 w' (X.es vf (s.tick (t + (s.tlist r).length)) ++ iT v (s.tlist r) :: C) := by
  have H := Lib.hid h
  clear h
  refine callsR fun R hR => ?_
  go_enter Tryz.func145, Tryz.ntmps145
  go_wp2_with (first | (go_at_call 186; refine Calls.mono (node_row _ _ _ _ _ (by decide) hn H.out) ?_; rintro e w' ⟨v, rfl, h'⟩; replace H := Lib.hid h'; clear h'))
  exact hR.out _ _ ⟨v, rfl, H.out⟩
theorem tr_kids (n : Int) (hn : s.n ≤ 65536) (h : Led B w0 w (X.es vf (s.tick t) ++ C)) :
    Calls Tryz.prog 192 #[.pointer (some ⟨X.p, 0, none⟩), .int .i64 n] w fun e w' => ∃ v, e = .returned v ∧ Led B w0 w' (X.es vf (s.tick (t + (1 + (s.tkids n).length))) ++ iT v (s.tkids n) :: C) := by
  have H := Lib.hid h
  clear h
  refine callsR fun R hR => ?_
  go_enter Tryz.func192, Tryz.ntmps192
  go_wp2_with (first | (go_at_call 151; refine Calls.mono (t_cell _ _ _ _ _ (by decide) H.out) ?_; rintro e w' ⟨rfl, h'⟩; replace H := Lib.hid h'; clear h') | (go_at_call 186; refine Calls.mono (node_row _ _ _ _ _ (by decide) hn H.out) ?_; rintro e w' ⟨v, rfl, h'⟩; replace H := Lib.hid h'; clear h'))
  have hv : s.tkids n = s.rowL 3 s.n (s.cell n 1) := rfl
  exact hR.out _ _ ⟨v, rfl, by rw [hv, ← Nat.add_assoc]; exact H.out⟩
theorem tr_under (n up : Int) (h : Led B w0 w (X.es vf (s.tick t) ++ C)) :
    Calls Tryz.prog 188 #[.pointer (some ⟨X.p, 0, none⟩), .int .i64 n, .int .i64 up] w fun e w' => e = .returned (.tuple #[]) ∧ Led B w0 w' (X.es vf ((s.tunder n up).tick (t + 4)) ++ C) := by
  have H := Lib.hid h
  clear h
  refine callsR fun R hR => ?_
  go_enter Tryz.func188, Tryz.ntmps188
  go_wp2_with (first | (go_at_call 151; refine Calls.mono (t_cell _ _ _ _ _ (by decide) H.out) ?_; rintro e w' ⟨rfl, h'⟩; replace H := Lib.hid h'; clear h') | (go_at_call 89; refine Calls.mono (t_set _ _ _ _ _ _ (by decide) H.out) ?_; rintro e w' ⟨rfl, h'⟩; replace H := Lib.hid h'; clear h'))
  refine bodyPost_end (results_none rfl _ _ _) rfl (hR.out _ _ ⟨rfl, H.out⟩)
theorem tr_link (n m q : Int) (hq : -1000000000 ≤ q ∧ q ≤ 1000000000) (h : Led B w0 w (X.es vf (s.tick t) ++ C)) :
    Calls Tryz.prog 183 #[.pointer (some ⟨X.p, 0, none⟩), .int .i64 n, .int .i64 m, .int .i64 q] w fun e w' => e = .returned (.int .i64 (s.tlink n m q).2) ∧ Led B w0 w' (X.es vf ((s.tlink n m q).1.tick (t + 11)) ++ C) := by
  have H := Lib.hid h
  clear h
  have hw : IntKind.i64.wrap (q + 1) = q + 1 := by rw [IntKind.wrap_i64]; omega
  cases g1 : s.nbefore m n with
  | true =>
    have hv : s.tlink n m q = ((s.tunder n m).put m 4 (q + 1), m) := by rw [Ar.tlink, g1]; rfl
    refine callsR fun R hR => ?_
    go_enter Tryz.func183, Tryz.ntmps183
    go_wp2_with (first | (go_at_call 164; refine Calls.mono (node_before _ _ _ _ _ H.out) ?_; rintro e w' ⟨rfl, h'⟩; replace H := Lib.hid h'; clear h'; rw [g1]) | (go_at_call 188; refine Calls.mono (tr_under _ _ _ _ _ H.out) ?_; rintro e w' ⟨rfl, h'⟩; replace H := Lib.hid h'; clear h') | (go_at_call 89; refine Calls.mono (t_set _ _ _ _ _ _ (by decide) H.out) ?_; rintro e w' ⟨rfl, h'⟩; replace H := Lib.hid h'; clear h'))
    exact hR.out _ _ ⟨by rw [hv] <;> rfl, by rw [hv]; exact H.out⟩
  | false =>
    have hv : s.tlink n m q = ((s.tunder m n).put n 4 (q + 1), n) := by rw [Ar.tlink, g1]; rfl
    refine callsR fun R hR => ?_
    go_enter Tryz.func183, Tryz.ntmps183
    go_wp2_with (first | (go_at_call 164; refine Calls.mono (node_before _ _ _ _ _ H.out) ?_; rintro e w' ⟨rfl, h'⟩; replace H := Lib.hid h'; clear h'; rw [g1]) | (go_at_call 188; refine Calls.mono (tr_under _ _ _ _ _ H.out) ?_; rintro e w' ⟨rfl, h'⟩; replace H := Lib.hid h'; clear h') | (go_at_call 89; refine Calls.mono (t_set _ _ _ _ _ _ (by decide) H.out) ?_; rintro e w' ⟨rfl, h'⟩; replace H := Lib.hid h'; clear h'))
    exact hR.out _ _ ⟨by rw [hv] <;> rfl, by rw [hv]; exact H.out⟩
set_option maxHeartbeats 4000000 in
theorem tr_row (l : List Int) (vl : Value) (hl : l.length ≤ 1000000) (h : Led B w0 w (X.es vf (s.tick t) ++ iT vl l :: C)) :
    Calls Tryz.prog 185 #[.pointer (some ⟨X.p, 0, none⟩), vl] w fun e w' => e = .returned (.int .i64 (s.trow l).2) ∧ Led B w0 w' (X.es vf ((s.trow l).1.tick (t + 2 * l.length)) ++ iT vl l :: C) := by
  have H := Lib.hid h
  clear h
  obtain ⟨A, c, hv, hA⟩ := iT_form (iT_tab H.out)
  subst hv
  obtain ⟨M, hM⟩ : ∃ M, l.length = M := ⟨_, rfl⟩
  rw [hM] at hl hA H ⊢
  have HM := Lib.hid hM
  clear hM
  obtain ⟨G, hG⟩ : ∃ G, s.trow l = G := ⟨_, rfl⟩
  rw [hG]
  have HG := Lib.hid hG
  clear hG
  have hw : IntKind.i64.wrap ((M : Int) - 1) = (M : Int) - 1 := by rw [IntKind.wrap_i64]; omega
  refine callsR fun R hR => ?_
  go_enter Tryz.func185, Tryz.ntmps185
  go_wp2_with fail
  go_loopw [5, 6] (fun x y wx => ∃ (m : Nat) (sj : Ar) (nx : Int), x = .int .i64 nx ∧ y = .int .i64 ((m : Int) - 1) ∧ m ≤ M ∧ Hid (sj.trowB (l.take m).reverse nx = G) ∧ Hid (Led B w0 wx (X.es vf (sj.tick (t + 2 * (M - m))) ++ iT (.slice A M c) l :: C))) (fun _ y _ => (intOf y + 1).toNat)
  case atStart => exact ⟨M, s, -1, rfl, rfl, by omega, Lib.hid (by rw [List.take_of_length_le (by rw [HM.out]; omega)]; exact HG.out), by rw [Nat.sub_self]; exact H⟩
  case round =>
    clear H
    obtain ⟨m, sj, nx, rfl, rfl, hm, HE, H⟩ := hrel
    rcases m with _ | m
    · have he := HE.out
      simp only [List.take_zero, List.reverse_nil, Ar.trowB] at he
      have HE2 := Lib.hid he
      clear he HE
      go_wp2_with fail
      exact hR.out _ _ ⟨by rw [← HE2.out] <;> rfl, by rw [← HE2.out]; exact H.out⟩
    · obtain ⟨x, hx⟩ : ∃ x, l[m]? = some x := ⟨_, List.getElem?_eq_getElem (by rw [HM.out]; omega)⟩
      obtain ⟨g, rfl⟩ := hA (by omega)
      have he := HE.out
      rw [take_rev hx, Ar.trowB] at he
      have t1 := iT_get (iT_tab H.out) hx
      have HX := Lib.hid hx
      have HE2 := Lib.hid he
      have hlt : m < M := by omega
      clear hx he HE hA
      go_wp2_with (first | (go_at_call 89; refine Calls.mono (t_set _ _ _ _ _ _ (by decide) H.out) ?_; rintro e w' ⟨rfl, h'⟩; replace H := Lib.hid h'; clear h'; have t1 := iT_get (iT_tab H.out) HX.out))
      go_roundw
      case rel => exact ⟨m, _, x, rfl, by go_num, by omega, HE2, Lib.hid (by have h9 := H.out; rw [show t + 2 * (M - (m + 1)) + 1 + 1 = t + 2 * (M - m) by omega] at h9; exact h9)⟩
      case measure => simp [intOf] <;> omega
set_option maxHeartbeats 4000000 in
theorem tr_best (l : List Int) (vl : Value) (hl : l.length ≤ 1000000) (h : Led B w0 w (X.es vf (s.tick t) ++ iT vl l :: C)) :
    Calls Tryz.prog 152 #[.pointer (some ⟨X.p, 0, none⟩), vl] w fun e w' => ∃ u, u ≤ 6 * l.length ∧ e = .returned (.int .i64 (s.tbest (-1) l)) ∧ Led B w0 w' (X.es vf (s.tick (t + u)) ++ iT vl l :: C) := by
  have H := Lib.hid h
  clear h
  obtain ⟨A, c, hv, hA⟩ := iT_form (iT_tab H.out)
  subst hv
  obtain ⟨M, hM⟩ : ∃ M, l.length = M := ⟨_, rfl⟩
  rw [hM] at hl hA H ⊢
  have HM := Lib.hid hM
  clear hM
  obtain ⟨G, hG⟩ : ∃ G, s.tbest (-1) l = G := ⟨_, rfl⟩
  rw [hG]
  have HG := Lib.hid hG
  clear hG
  refine callsR fun R hR => ?_
  go_enter Tryz.func152, Tryz.ntmps152
  go_wp2_with fail
  go_loopw [5, 10] (fun x y wx => ∃ (j : Nat) (b : Int) (u : Nat), x = .int .i64 b ∧ y = .int .i64 (j : Int) ∧ j ≤ M ∧ u ≤ 6 * j ∧ Hid (s.tbest b (l.drop j) = G) ∧ Hid (Led B w0 wx (X.es vf (s.tick (t + u)) ++ iT (.slice A M c) l :: C))) (fun _ y _ => M - (intOf y).toNat)
  case atStart => exact ⟨0, -1, 0, rfl, rfl, by omega, by omega, Lib.hid (by rw [List.drop_zero]; exact HG.out), H⟩
  case round =>
    clear H
    obtain ⟨j, b, u, rfl, rfl, hj, hu, HE, H⟩ := hrel
    by_cases hlt : j < M
    · obtain ⟨x, hx⟩ : ∃ x, l[j]? = some x := ⟨_, List.getElem?_eq_getElem (by rw [HM.out]; exact hlt)⟩
      obtain ⟨g, rfl⟩ := hA (by omega)
      have he := HE.out
      rw [List.drop_eq_getElem_cons (by rw [HM.out]; exact hlt), (List.getElem?_eq_some_iff.1 hx).2, Ar.tbest] at he
      have t1 := iT_get (iT_tab H.out) hx
      have HX := Lib.hid hx
      clear hx HE hA
      by_cases hb : b = -1
      · rw [if_pos (.inl hb)] at he
        have HE2 := Lib.hid he
        subst hb
        clear he
        go_wp2_with fail
        go_roundw
        case rel => exact ⟨j + 1, x, u, rfl, by go_num, by omega, by omega, HE2, H⟩
        case measure => simp [intOf] <;> omega
      · have g1 : (b == -1) = false := by simpa using hb
        cases g2 : s.nbefore x b with
        | true =>
          rw [if_pos (.inr g2)] at he
          have HE2 := Lib.hid he
          have HB := Lib.hid hb
          clear he hb
          go_wp2_with (first | (go_at_call 164; refine Calls.mono (node_before _ _ _ _ _ H.out) ?_; rintro e w' ⟨rfl, h'⟩; replace H := Lib.hid h'; clear h'; rw [g2]))
          go_roundw
          case rel => exact ⟨j + 1, x, u + 6, rfl, by go_num, by omega, by omega, HE2, H⟩
          case measure => simp [intOf] <;> omega
        | false =>
          rw [if_neg (by rw [g2]; simp [hb])] at he
          have HE2 := Lib.hid he
          have HB := Lib.hid hb
          clear he hb
          go_wp2_with (first | (go_at_call 164; refine Calls.mono (node_before _ _ _ _ _ H.out) ?_; rintro e w' ⟨rfl, h'⟩; replace H := Lib.hid h'; clear h'; rw [g2]))
          go_roundw
          case rel => exact ⟨j + 1, b, u + 6, rfl, by go_num, by omega, by omega, HE2, H⟩
          case measure => simp [intOf] <;> omega
    · have he := HE.out
      rw [List.drop_of_length_le (by rw [HM.out]; omega), Ar.tbest] at he
      have HE2 := Lib.hid he
      clear he HE hA
      go_wp2_with fail
      exact hR.out _ _ ⟨u, by omega, by rw [← HE2.out] <;> rfl, H.out⟩
end
end Go.Proofs.YtognmhgdegpdiaaGreat
end
section
/- Rows of trees are sorted by their ranks. -/
namespace Go.Proofs.YtognmhgdegpdiaaGreat
open Go.RowKit
set_option linter.unusedVariables false
set_option linter.unusedSimpArgs false
set_option maxRecDepth 100000
def tcmp (a b : Int) : Int := max (-1) (min (a - b) 1)
theorem tcmp_neg (a b : Int) : tcmp a b < 0 ↔ a < b := by unfold tcmp; omega
def sink (x : Int × Int) : List (Int × Int) → List (Int × Int) → List (Int × Int)
  | [], acc => x :: acc
  | y :: p, acc => if x.2 < y.2 then sink x p (y :: acc) else (y :: p).reverse ++ x :: acc
def isort : List (Int × Int) → List (Int × Int) → List (Int × Int)
  | P, [] => P
  | P, x :: l => isort (sink x P.reverse []) l
theorem sink_len (x : Int × Int) : ∀ (p acc : List (Int × Int)), (sink x p acc).length = p.length + 1 + acc.length
  | [], acc => by simp [sink]; omega
  | y :: p, acc => by
    unfold sink
    split
    · rw [sink_len x p]; simp; omega
    · simp; omega
theorem mem_sink {x y : Int × Int} : ∀ {p acc : List (Int × Int)}, y ∈ sink x p acc → y = x ∨ y ∈ p ∨ y ∈ acc
  | [], acc, h => by simp [sink] at h; rcases h with h | h <;> simp [h]
  | z :: p, acc, h => by
    unfold sink at h
    split at h
    · rcases mem_sink h with h | h | h
      · exact .inl h
      · exact .inr (.inl (by simp [h]))
      · rcases List.mem_cons.1 h with h | h
        · exact .inr (.inl (by simp [h]))
        · exact .inr (.inr h)
    · rcases List.mem_append.1 h with h | h
      · exact .inr (.inl (by simpa using List.mem_reverse.1 h))
      · rcases List.mem_cons.1 h with h | h
        · exact .inl h
        · exact .inr (.inr h)
section
variable {B : Nat} {w0 w : World} {A C : List Ent}
theorem tr_clo (n1 q1 n2 q2 : Int) (w : World) (h1 : -1000000000 ≤ q1 ∧ q1 ≤ 1000000000) (h2 : -1000000000 ≤ q2 ∧ q2 ≤ 1000000000) : Calls Tryz.prog 182 #[.agg #[.int .i64 n1, .int .i64 q1], .agg #[.int .i64 n2, .int .i64 q2]] w fun e w' => e = .returned (.int .i64 (tcmp q1 q2)) ∧ Below w.heap.size w w' := by
  have hw : IntKind.i64.wrap (q1 - q2) = q1 - q2 := by rw [IntKind.wrap_i64]; omega
  have hc : max (-1) (min (q1 - q2) 1) = tcmp q1 q2 := rfl
  refine callsR fun R hR => ?_
  go_enter Tryz.func182, Tryz.ntmps182
  go_wp2_with fail
  exact hR.out _ _ ⟨by rw [← hc] <;> rfl, ((Below.refl _ _).alloc (Nat.le_refl _) _).alloc (by simp) _⟩
theorem pT_set {g n c : Nat} {L : List (Int × Int)} {i : Nat} (x : Int × Int) (h : Led B w0 w (A ++ pT 194 (.slice (some ⟨g, 0, none⟩) n c) L :: C)) (hi : i < L.length) : Led B w0 ((w.setCell ⟨g, i * 2, none⟩ (.int .i64 x.1)).setCell ⟨g, i * 2 + 1, none⟩ (.int .i64 x.2)) (A ++ pT 194 (.slice (some ⟨g, 0, none⟩) n c) (L.set i x) :: C) := by
  have h1 := pT_tab h
  obtain ⟨r, hr⟩ : ∃ r, L[i]? = some r := ⟨_, List.getElem?_eq_getElem hi⟩
  have hrow : (pR L)[i]? = some [Value.int .i64 r.1, .int .i64 r.2] := by rw [pR, List.getElem?_map, hr]; rfl
  have h2 := TabIs.setCells_ [.int .i64 x.1, .int .i64 x.2] 0 w _ _ h1 hrow (by simp)
  have e : (pR L).set i (setList [Value.int .i64 r.1, .int .i64 r.2] 0 [.int .i64 x.1, .int .i64 x.2]) = pR (L.set i x) := by rw [pR, pR, List.map_set]; rfl
  rw [e] at h2
  exact h.mid (pT 194 (.slice (some ⟨g, 0, none⟩) n c) (L.set i x)) (chg_setCells g [.int .i64 x.1, .int .i64 x.2] w w (i * 2) (Chg.refl _ _)) h2 (Fresh.refl _ _)
set_option maxHeartbeats 8000000 in
theorem tr_insertion (g N c : Nat) (L : List (Int × Int)) (hN : L.length = N) (hN2 : N ≤ 1000000) (hq : ∀ y, y ∈ L → -1000000000 ≤ y.2 ∧ y.2 ≤ 1000000000) (h : Led B w0 w (A ++ pT 194 (.slice (some ⟨g, 0, none⟩) N c) L :: C)) :
    Calls Tryz.prog 225 #[.slice (some ⟨g, 0, none⟩) N c, .int .i64 0, .int .i64 (N : Int), .func (.func 182) #[] #[]] w fun e w' => e = .returned (.tuple #[]) ∧ Led B w0 w' (A ++ pT 194 (.slice (some ⟨g, 0, none⟩) N c) (isort [] L) :: C) := by
  have H := Lib.hid h
  clear h
  have HN := Lib.hid hN
  have HQ := Lib.hid hq
  clear hN hq
  obtain ⟨G, hG⟩ : ∃ G, isort [] L = G := ⟨_, rfl⟩
  rw [hG]
  have HG := Lib.hid hG
  clear hG
  by_cases hN0 : N = 0
  · have hL0 : L = [] := List.eq_nil_of_length_eq_zero (by rw [HN.out]; exact hN0)
    have hg0 : L = G := by rw [← HG.out, hL0]; rfl
    rw [hg0] at H
    subst hN0
    clear hL0 hg0
    refine callsR fun R hR => ?_
    go_enter Tryz.func225, Tryz.ntmps225
    go_wp2_with fail
    refine wp_loop_rounds 2 ?_
    repeat any_goals (rw [rounds_succ]; go_wp2_with fail)
    refine bodyPost_end (results_none rfl _ _ _) rfl (hR.out _ _ ⟨rfl, H.out⟩)
  · obtain ⟨x0, hx0⟩ : ∃ x, L[0]? = some x := ⟨_, List.getElem?_eq_getElem (by rw [HN.out]; omega)⟩
    have hg0 : isort [x0] (L.drop 1) = G := by rw [← HG.out]; cases L with | nil => simp at hx0 | cons z L => simp at hx0; subst hx0; rfl
    have hL0 : L = [x0] ++ L.drop 1 := by cases L with | nil => simp at hx0 | cons z L => simp at hx0; subst hx0; rfl
    have HG0 := Lib.hid hg0
    have HL0 := Lib.hid hL0
    clear hx0 hg0 hL0
    refine callsR fun R hR => ?_
    go_enter Tryz.func225, Tryz.ntmps225
    go_wp2_with fail
    go_loopw [8] (fun y wx => ∃ (P : List (Int × Int)), y = .int .i64 (P.length : Int) ∧ 1 ≤ P.length ∧ P.length ≤ N ∧ Hid (isort P (L.drop P.length) = G) ∧ Hid (∀ y, y ∈ P → -1000000000 ≤ y.2 ∧ y.2 ≤ 1000000000) ∧ Hid (Led B w0 wx (A ++ pT 194 (.slice (some ⟨g, 0, none⟩) N c) (P ++ L.drop P.length) :: C))) (fun y _ => N - (intOf y).toNat)
    case atStart => exact ⟨[x0], rfl, by simp, by simp; omega, HG0, Lib.hid (fun y hy => by simp at hy; subst hy; exact HQ.out _ (by rw [HL0.out]; simp)), by rw [show ([x0] : List (Int × Int)).length = 1 from rfl, ← HL0.out]; exact H⟩
    case round =>
      clear H
      obtain ⟨P, rfl, hP1, hPN, HE, HPQ, H⟩ := hrel
      obtain ⟨i, hi⟩ : ∃ i, P.length = i := ⟨_, rfl⟩
      rw [hi] at hP1 hPN HE H ⊢
      have HI := Lib.hid hi
      clear hi
      by_cases hlt : i < N
      · obtain ⟨x, hx⟩ : ∃ x, L[i]? = some x := ⟨_, List.getElem?_eq_getElem (by rw [HN.out]; exact hlt)⟩
        have hdr : L.drop i = x :: L.drop (i + 1) := by rw [List.drop_eq_getElem_cons (by rw [HN.out]; exact hlt), (List.getElem?_eq_some_iff.1 hx).2]
        have hxq := HQ.out x (List.mem_of_getElem? hx)
        have he := HE.out
        rw [hdr, isort] at he
        obtain ⟨S, hS⟩ : ∃ S, sink x P.reverse [] = S := ⟨_, rfl⟩
        have hSl : S.length = i + 1 := by rw [← hS, sink_len]; simp [HI.out]
        have hSq : ∀ y, y ∈ S → -1000000000 ≤ y.2 ∧ y.2 ≤ 1000000000 := fun y hy => by rw [← hS] at hy; rcases mem_sink hy with h | h | h; (rw [h]; exact hxq); exact HPQ.out y (List.mem_reverse.1 h); cases h
        rw [hS] at he
        obtain ⟨R2, hR2⟩ : ∃ R2, L.drop (i + 1) = R2 := ⟨_, rfl⟩
        rw [hR2] at he
        have h2 := H.out
        rw [hdr, hR2] at h2
        replace H := Lib.hid h2
        have HE2 := Lib.hid he
        have HS := Lib.hid hS
        have HSL := Lib.hid hSl
        have HSQ := Lib.hid hSq
        have HR2 := Lib.hid hR2
        clear h2 he hS hSl hSq hdr hx HE hR2
        go_wp2_with fail
        go_loopw [9] (fun y wx => ∃ (P1 P2 : List (Int × Int)), y = .int .i64 (P1.length : Int) ∧ P1.length ≤ i ∧ Hid (sink x P1.reverse P2 = S) ∧ Hid (∀ y, y ∈ P1 → -1000000000 ≤ y.2 ∧ y.2 ≤ 1000000000) ∧ Hid (Led B w0 wx (A ++ pT 194 (.slice (some ⟨g, 0, none⟩) N c) (P1 ++ x :: (P2 ++ R2)) :: C))) (fun y _ => (intOf y).toNat)
        case atStart => exact ⟨P, [], by rw [HI.out], by rw [HI.out]; exact Nat.le_refl _, HS, HPQ, H⟩
        case round =>
          clear H
          obtain ⟨P1, P2, rfl, hP1i, HK, HQ1, H⟩ := hrel
          rcases nil_or_snoc P1 with rfl | ⟨P3, y, rfl⟩
          · have hk := HK.out
            rw [List.reverse_nil, sink] at hk
            have HK2 := Lib.hid hk
            clear hk HK
            rw [show ((([] : List (Int × Int)).length : Nat) : Int) = 0 from rfl]
            go_upto_region 4 with fail
            go_big_region
            have H9 := Lib.hid H.out.drew
            generalize wr.drew = w9 at *
            go_wp2_with fail
            go_roundw
            case rel => exact ⟨S, by rw [HSL.out]; go_num, by rw [HSL.out]; omega, by rw [HSL.out]; omega, Lib.hid (by rw [HSL.out, HR2.out]; exact HE2.out), HSQ, Lib.hid (by rw [HSL.out, HR2.out, ← HK2.out]; exact H9.out)⟩
            case measure => simp [intOf] <;> omega
          · obtain ⟨p, hp⟩ : ∃ p, P3.length = p := ⟨_, rfl⟩
            have hpl : (((P3 ++ [y]).length : Nat) : Int) = (p : Int) + 1 := by rw [List.length_append, hp]; rfl
            rw [hpl]
            have hpi : p + 1 ≤ i := by rw [List.length_append, hp] at hP1i; exact hP1i
            have hyq := HQ1.out y (by simp)
            have HPP := Lib.hid hp
            clear hp hpl hP1i
            have hk := HK.out
            rw [List.reverse_append, List.reverse_singleton, List.singleton_append, sink] at hk
            have hpz : (0 : Int) < (p : Int) + 1 := by omega
            have hwp : IntKind.i64.wrap (p : Int) = (p : Int) := by rw [IntKind.wrap_i64]; omega
            have hgt : decide ((0 : Int) < (p : Int) + 1) = true := decide_eq_true hpz
            have hb1 : p + 1 < N := by omega
            have hb2 : p < N := by omega
            have KS : Hid (∀ W, Led B w0 W (A ++ pT 194 (.slice (some ⟨g, 0, none⟩) N c) (P3 ++ [y] ++ x :: (P2 ++ R2)) :: C) → W.cell? ⟨g, (p + 1) * 2, none⟩ = some (.int .i64 x.1) ∧ W.cell? ⟨g, (p + 1) * 2 + 1, none⟩ = some (.int .i64 x.2) ∧ W.cell? ⟨g, p * 2, none⟩ = some (.int .i64 y.1) ∧ W.cell? ⟨g, p * 2 + 1, none⟩ = some (.int .i64 y.2)) := Lib.hid fun W hW => by
              have hT := pT_tab hW
              have e1 : (P3 ++ [y] ++ x :: (P2 ++ R2))[p + 1]? = some x := by rw [List.getElem?_append_right (by simp [HPP.out])]; simp [HPP.out]
              have e2 : (P3 ++ [y] ++ x :: (P2 ++ R2))[p]? = some y := by rw [List.getElem?_append_left (by simp [HPP.out]), List.getElem?_append_right (by rw [HPP.out]; omega)]; simp [HPP.out]
              obtain ⟨a1, a2⟩ := pT_get hT e1
              obtain ⟨a3, a4⟩ := pT_get hT e2
              exact ⟨a1, a2, a3, a4⟩
            go_upto_region 4 with fail
            have k0 := KS.out _ H.out.drew
            have i1 : (0 : Int) ≤ (p : Int) + 1 := by omega
            have i2 : (p : Int) + 1 < (N : Int) := by omega
            have i3 : (p : Int) < (N : Int) := by omega
            have i4 : (0 : Int) ≤ (p : Int) := by omega
            go_region_held3 (fun wx => wx.cell? ⟨g, (p + 1) * 2, none⟩ = some (.int .i64 x.1) ∧ wx.cell? ⟨g, (p + 1) * 2 + 1, none⟩ = some (.int .i64 x.2) ∧ wx.cell? ⟨g, p * 2, none⟩ = some (.int .i64 y.1) ∧ wx.cell? ⟨g, p * 2 + 1, none⟩ = some (.int .i64 y.2)) (first | with_reducible exact k0 | with_reducible exact k1) (first | (go_at_call 182; refine Calls.mono (tr_clo _ _ _ _ _ hxq hyq) ?_; rintro e w' ⟨rfl, h'⟩; replace H := Lib.hid (H.out.drew.later h'); have k1 := KS.out _ H.out; clear h'))
            cases hd : decide (tcmp x.2 y.2 < 0) with
            | false =>
              have hnl : ¬ x.2 < y.2 := by have := of_decide_eq_false hd; rw [tcmp_neg] at this; exact this
              rw [if_neg hnl] at hk
              have HK2 := Lib.hid hk
              clear hk HK hnl
              go_wp2_with fail
              go_roundw
              case rel => exact ⟨S, by rw [HSL.out]; go_num, by rw [HSL.out]; omega, by rw [HSL.out]; omega, Lib.hid (by rw [HSL.out, HR2.out]; exact HE2.out), HSQ, Lib.hid (by rw [HSL.out, HR2.out, ← HK2.out]; have h9 := H.out; simpa using h9)⟩
              case measure => simp [intOf] <;> omega
            | true =>
              have hlt2 : x.2 < y.2 := by have := of_decide_eq_true hd; rw [tcmp_neg] at this; exact this
              rw [if_pos hlt2] at hk
              have HK2 := Lib.hid hk
              clear hk HK hlt2 k0 k1
              go_upto_region 6 with fail
              obtain ⟨c1, c2, c3, c4⟩ := KS.out _ H.out.drew
              have hft : ∀ j, w'.drew.frozen? ⟨g, j, none⟩ = false := fun j => (pT_tab H.out.drew).frozen j
              have f1 := hft ((p + 1) * 2)
              have f2 := hft ((p + 1) * 2 + 1)
              have f3 := hft (p * 2)
              have f4 := hft (p * 2 + 1)
              clear hft
              have hl9 : p < (P3 ++ [y] ++ x :: (P2 ++ R2)).length := by simp [HPP.out] <;> omega
              have hl8 : p + 1 < (P3 ++ [y] ++ x :: (P2 ++ R2)).length := by simp [HPP.out] <;> omega
              have h9 := pT_set (i := p) x (pT_set (i := p + 1) y H.out.drew hl8) (by rw [List.length_set]; exact hl9)
              have hset : ((P3 ++ [y] ++ x :: (P2 ++ R2)).set (p + 1) y).set p x = P3 ++ x :: ((y :: P2) ++ R2) := by rw [← HPP.out, List.append_assoc, List.set_append_right _ _ (by omega), List.set_append_right _ _ (by omega)]; simp
              rw [hset] at h9
              have TH1 : Hid (w'.drew.there g ((p + 1) * 2) 2) := Lib.hid (fun j hj => ⟨(pT_tab H.out.drew).there_ (by rw [pR_len]; omega), (pT_tab H.out.drew).frozen _⟩)
              have TH2 : Hid ((w'.drew.setCells g ((p + 1) * 2) [.int .i64 y.1, .int .i64 y.2]).there g (p * 2) 2) := Lib.hid (fun j hj => ⟨(pT_tab (pT_set (i := p + 1) y H.out.drew hl8)).there_ (by rw [pR_len, List.length_set]; omega), (pT_tab (pT_set (i := p + 1) y H.out.drew hl8)).frozen _⟩)
              have H9 : Hid (Led B w0 ((w'.drew.setCells g ((p + 1) * 2) (#[Value.int .i64 y.1, .int .i64 y.2] : Array Value).toList).setCells g (p * 2) (#[Value.int .i64 x.1, .int .i64 x.2] : Array Value).toList) (A ++ pT 194 (.slice (some ⟨g, 0, none⟩) N c) (P3 ++ x :: ((y :: P2) ++ R2)) :: C)) := Lib.hid h9
              clear h9 hset hl9 hl8
              refine wp_region_held_drew (S := fun _ => True) (by kernel_rfl) trivial (fun hHeld => ?_)
              refine wpAnyH_read (i := 0) (d := 37) (v := ?_) rfl rfl rfl (by kernel_rfl) (by kernel_rfl) (by kernel_rfl) (fun _ _ _ h => h) trivial ?_ ?_
              rotate_left
              · intro w hSw
                go_simp
                (try with_reducible rfl)
              (try simp only [List.setIfInBounds_toArray, List.set_cons_zero, List.set_cons_succ])
              refine wpAnyH_read (i := 1) (d := 38) (v := ?_) rfl rfl rfl (by kernel_rfl) (by kernel_rfl) (by kernel_rfl) (fun _ _ _ h => h) trivial ?_ ?_
              rotate_left
              · intro w hSw
                go_simp
                (try with_reducible rfl)
              (try simp only [List.setIfInBounds_toArray, List.set_cons_zero, List.set_cons_succ])
              refine wpAnyH_read (i := 2) (d := 39) (v := ?_) rfl rfl rfl (by kernel_rfl) (by kernel_rfl) (by kernel_rfl) (fun _ _ _ h => h) trivial ?_ ?_
              rotate_left
              · intro w hSw
                go_simp
                (try with_reducible rfl)
              (try simp only [List.setIfInBounds_toArray, List.set_cons_zero, List.set_cons_succ])
              refine wpAnyH_read (i := 3) (d := 40) (v := ?_) rfl rfl rfl (by kernel_rfl) (by kernel_rfl) (by kernel_rfl) (fun _ _ _ h => h) trivial ?_ ?_
              rotate_left
              · intro w hSw
                go_simp
                (try with_reducible rfl)
              (try simp only [List.setIfInBounds_toArray, List.set_cons_zero, List.set_cons_succ])
              refine wpAnyH_read (i := 4) (d := 41) (v := ?_) rfl rfl rfl (by kernel_rfl) (by kernel_rfl) (by kernel_rfl) (fun _ _ _ h => h) trivial ?_ ?_
              rotate_left
              · intro w hSw
                go_simp
                (try with_reducible rfl)
              (try simp only [List.setIfInBounds_toArray, List.set_cons_zero, List.set_cons_succ])
              refine wpAnyH_read (i := 5) (d := 42) (v := ?_) rfl rfl rfl (by kernel_rfl) (by kernel_rfl) (by kernel_rfl) (fun _ _ _ h => h) trivial ?_ ?_
              rotate_left
              · intro w hSw
                go_simp
                (try with_reducible rfl)
              (try simp only [List.setIfInBounds_toArray, List.set_cons_zero, List.set_cons_succ])
              refine wpAnyH_read (i := 6) (d := 43) (v := ?_) rfl rfl rfl (by kernel_rfl) (by kernel_rfl) (by kernel_rfl) (fun _ _ _ h => h) trivial ?_ ?_
              rotate_left
              · intro w hSw
                go_simp
                (try with_reducible rfl)
              (try simp only [List.setIfInBounds_toArray, List.set_cons_zero, List.set_cons_succ])
              refine wpAnyH_read (i := 7) (d := 44) (v := ?_) rfl rfl rfl (by kernel_rfl) (by kernel_rfl) (by kernel_rfl) (fun _ _ _ h => h) trivial ?_ ?_
              rotate_left
              · intro w hSw
                go_simp
                (try with_reducible rfl)
              (try simp only [List.setIfInBounds_toArray, List.set_cons_zero, List.set_cons_succ])
              refine wpAnyH_read (i := 8) (d := 45) (v := ?_) rfl rfl rfl (by kernel_rfl) (by kernel_rfl) (by kernel_rfl) (fun _ _ _ h => h) trivial ?_ ?_
              rotate_left
              · intro w hSw
                go_simp
                (try with_reducible rfl)
              (try simp only [List.setIfInBounds_toArray, List.set_cons_zero, List.set_cons_succ])
              refine wpAnyH_read (i := 10) (d := 47) (v := ?_) rfl rfl rfl (by kernel_rfl) (by kernel_rfl) (by kernel_rfl) (fun _ _ _ h => h) trivial ?_ ?_
              rotate_left
              · intro w hSw
                go_simp
                (try with_reducible rfl)
              (try simp only [List.setIfInBounds_toArray, List.set_cons_zero, List.set_cons_succ])
              refine wpAnyH_read (i := 11) (d := 48) (v := ?_) rfl rfl rfl (by kernel_rfl) (by kernel_rfl) (by kernel_rfl) (fun _ _ _ h => h) trivial ?_ ?_
              rotate_left
              · intro w hSw
                go_simp
                (try with_reducible rfl)
              (try simp only [List.setIfInBounds_toArray, List.set_cons_zero, List.set_cons_succ])
              refine wpAnyH_read (i := 12) (d := 49) (v := ?_) rfl rfl rfl (by kernel_rfl) (by kernel_rfl) (by kernel_rfl) (fun _ _ _ h => h) trivial ?_ ?_
              rotate_left
              · intro w hSw
                go_simp
                (try with_reducible rfl)
              (try simp only [List.setIfInBounds_toArray, List.set_cons_zero, List.set_cons_succ])
              refine wpAnyH_ready (rs := [9, 13]) (by kernel_rfl) (by simp) ?_
              refine AllReadyH.cons (o := _) rfl (fun K hK => ?_) (AllReadyH.cons (o := _) rfl (fun K hK => ?_) AllReadyH.nil)
              · go_simp
                refine hK.out _ _ trivial (fun hHeld => ?_)
                refine wpAnyH_ready (rs := [13]) (by kernel_rfl) (by simp) ?_
                refine AllReadyH.cons (o := _) rfl (fun K hK => ?_) AllReadyH.nil
                go_simp
                refine hK.out _ _ trivial (fun hHeld => ?_)
                refine wpAnyH_read (i := 14) (d := 51) (v := ?_) rfl rfl rfl (by kernel_rfl) (by kernel_rfl) (by kernel_rfl) (fun _ _ _ h => h) trivial ?_ ?_
                rotate_left
                · intro w hSw
                  go_simp
                  (try with_reducible rfl)
                (try simp only [List.setIfInBounds_toArray, List.set_cons_zero, List.set_cons_succ])
                refine wpAnyH_ready (rs := [15]) (by kernel_rfl) (by simp) ?_
                refine AllReadyH.cons (o := _) rfl (fun K hK => ?_) AllReadyH.nil
                rw [if_pos (by rfl)]
                refine wp_store_mid 194 (.tmp 51) (.tmp 46) rfl g ((p + 1) * 2) #[.int .i64 y.1, .int .i64 y.2] (by rfl) (by rfl) TH1.out (by kernel_rfl) (by simp [Value.oneCell']) ?_
                refine hK.out _ _ trivial (fun hHeld => ?_)
                refine wpAnyH_read (i := 16) (d := 52) (v := ?_) rfl rfl rfl (by kernel_rfl) (by kernel_rfl) (by kernel_rfl) (fun _ _ _ h => h) trivial ?_ ?_
                rotate_left
                · intro w hSw
                  go_simp
                  (try with_reducible rfl)
                (try simp only [List.setIfInBounds_toArray, List.set_cons_zero, List.set_cons_succ])
                refine wpAnyH_ready (rs := [17]) (by kernel_rfl) (by simp) ?_
                refine AllReadyH.cons (o := _) rfl (fun K hK => ?_) AllReadyH.nil
                rw [if_pos (by rfl)]
                refine wp_store_mid 194 (.tmp 52) (.tmp 50) rfl g (p * 2) #[.int .i64 x.1, .int .i64 x.2] (by rfl) (by rfl) TH2.out (by kernel_rfl) (by simp [Value.oneCell']) ?_
                refine hK.out _ _ trivial (fun hHeld => ?_)
                refine wpAnyH_done (by kernel_rfl) ?_ _
                generalize ((w'.drew.setCells g ((p + 1) * 2) (#[Value.int .i64 y.1, .int .i64 y.2] : Array Value).toList).setCells g (p * 2) (#[Value.int .i64 x.1, .int .i64 x.2] : Array Value).toList) = w9 at *
                clear c1 c2 c3 c4 TH1 TH2
                go_wp2_with fail
                go_roundw
                case rel => exact ⟨P3, y :: P2, by rw [HPP.out], by rw [HPP.out]; omega, HK2, Lib.hid (fun z hz => HQ1.out z (by simp [hz])), H9⟩
                case measure => simp [intOf] <;> omega
              · go_simp
                refine hK.out _ _ trivial (fun hHeld => ?_)
                refine wpAnyH_ready (rs := [9]) (by kernel_rfl) (by simp) ?_
                refine AllReadyH.cons (o := _) rfl (fun K hK => ?_) AllReadyH.nil
                go_simp
                refine hK.out _ _ trivial (fun hHeld => ?_)
                refine wpAnyH_read (i := 14) (d := 51) (v := ?_) rfl rfl rfl (by kernel_rfl) (by kernel_rfl) (by kernel_rfl) (fun _ _ _ h => h) trivial ?_ ?_
                rotate_left
                · intro w hSw
                  go_simp
                  (try with_reducible rfl)
                (try simp only [List.setIfInBounds_toArray, List.set_cons_zero, List.set_cons_succ])
                refine wpAnyH_ready (rs := [15]) (by kernel_rfl) (by simp) ?_
                refine AllReadyH.cons (o := _) rfl (fun K hK => ?_) AllReadyH.nil
                rw [if_pos (by rfl)]
                refine wp_store_mid 194 (.tmp 51) (.tmp 46) rfl g ((p + 1) * 2) #[.int .i64 y.1, .int .i64 y.2] (by rfl) (by rfl) TH1.out (by kernel_rfl) (by simp [Value.oneCell']) ?_
                refine hK.out _ _ trivial (fun hHeld => ?_)
                refine wpAnyH_read (i := 16) (d := 52) (v := ?_) rfl rfl rfl (by kernel_rfl) (by kernel_rfl) (by kernel_rfl) (fun _ _ _ h => h) trivial ?_ ?_
                rotate_left
                · intro w hSw
                  go_simp
                  (try with_reducible rfl)
                (try simp only [List.setIfInBounds_toArray, List.set_cons_zero, List.set_cons_succ])
                refine wpAnyH_ready (rs := [17]) (by kernel_rfl) (by simp) ?_
                refine AllReadyH.cons (o := _) rfl (fun K hK => ?_) AllReadyH.nil
                rw [if_pos (by rfl)]
                refine wp_store_mid 194 (.tmp 52) (.tmp 50) rfl g (p * 2) #[.int .i64 x.1, .int .i64 x.2] (by rfl) (by rfl) TH2.out (by kernel_rfl) (by simp [Value.oneCell']) ?_
                refine hK.out _ _ trivial (fun hHeld => ?_)
                refine wpAnyH_done (by kernel_rfl) ?_ _
                generalize ((w'.drew.setCells g ((p + 1) * 2) (#[Value.int .i64 y.1, .int .i64 y.2] : Array Value).toList).setCells g (p * 2) (#[Value.int .i64 x.1, .int .i64 x.2] : Array Value).toList) = w9 at *
                clear c1 c2 c3 c4 TH1 TH2
                go_wp2_with fail
                go_roundw
                case rel => exact ⟨P3, y :: P2, by rw [HPP.out], by rw [HPP.out]; omega, HK2, Lib.hid (fun z hz => HQ1.out z (by simp [hz])), H9⟩
                case measure => simp [intOf] <;> omega
      · obtain rfl : i = N := by omega
        have he := HE.out
        rw [List.drop_of_length_le (by rw [HN.out]; omega)] at he
        have he2 : P = G := by rw [← he]; rfl
        have h9 := H.out
        rw [List.drop_of_length_le (by rw [HN.out]; omega), List.append_nil, he2] at h9
        have H9 := Lib.hid h9
        clear he he2 h9 HE H
        go_wp2_with fail
        exact bodyPost_end (results_none rfl _ _ _) rfl (hR.out _ _ ⟨rfl, H9.out⟩)
end
end Go.Proofs.YtognmhgdegpdiaaGreat
end
section
/- Rows of at most 19 trees are sorted by their ranks. -/
namespace Go.Proofs.YtognmhgdegpdiaaGreat
open Go.RowKit
set_option linter.unusedVariables false
set_option linter.unusedSimpArgs false
set_option maxRecDepth 100000
section
variable {B : Nat} {w0 w : World} {A C : List Ent}
theorem tr_ins0 (V : Option Addr) (c : Nat) (w : World) : Calls Tryz.prog 225 #[.slice V 0 c, .int .i64 0, .int .i64 0, .func (.func 182) #[] #[]] w fun e w' => e = .returned (.tuple #[]) ∧ w = w' := by
  refine callsR fun R hR => ?_
  go_enter Tryz.func225, Tryz.ntmps225
  go_wp2_with fail
  refine wp_loop_rounds 1 ?_
  rw [rounds_succ]
  go_wp2_with fail
  exact bodyPost_end (results_none rfl _ _ _) rfl (hR.out _ _ ⟨rfl, rfl⟩)
theorem tr_stable0 (V : Option Addr) (c : Nat) (w : World) : Calls Tryz.prog 213 #[.slice V 0 c, .int .i64 0, .func (.func 182) #[] #[]] w fun e w' => e = .returned (.tuple #[]) ∧ w = w' := by
  refine callsR fun R hR => ?_
  go_enter Tryz.func213, Tryz.ntmps213
  go_wp2_with fail
  refine wp_loop_rounds 1 ?_
  rw [rounds_succ]
  go_wp2_with (first | (go_at_call 225; refine Calls.mono (tr_ins0 _ _ _) ?_; rintro e w' ⟨rfl, rfl⟩))
  refine wp_loop_rounds 1 ?_
  rw [rounds_succ]
  go_wp2_with fail
  exact bodyPost_end (results_none rfl _ _ _) rfl (hR.out _ _ ⟨rfl, rfl⟩)
theorem tr_sort0 (V : Option Addr) (c : Nat) (w : World) : Calls Tryz.prog 181 #[.slice V 0 c, .func (.func 182) #[] #[]] w fun e w' => e = .returned (.tuple #[]) ∧ w = w' := by
  refine callsR fun R hR => ?_
  go_enter Tryz.func181, Tryz.ntmps181
  go_wp2_with (first | (go_at_call 213; refine Calls.mono (tr_stable0 _ _ _) ?_; rintro e w' ⟨rfl, rfl⟩))
  exact bodyPost_end (results_none rfl _ _ _) rfl (hR.out _ _ ⟨rfl, rfl⟩)
theorem tr_stable (g N c : Nat) (L : List (Int × Int)) (hN : L.length = N) (hN2 : N ≤ 19) (hq : ∀ y, y ∈ L → -1000000000 ≤ y.2 ∧ y.2 ≤ 1000000000) (h : Led B w0 w (A ++ pT 194 (.slice (some ⟨g, 0, none⟩) N c) L :: C)) :
    Calls Tryz.prog 213 #[.slice (some ⟨g, 0, none⟩) N c, .int .i64 (N : Int), .func (.func 182) #[] #[]] w fun e w' => e = .returned (.tuple #[]) ∧ Led B w0 w' (A ++ pT 194 (.slice (some ⟨g, 0, none⟩) N c) (isort [] L) :: C) := by
  have H := Lib.hid h
  clear h
  have HN := Lib.hid hN
  have HQ := Lib.hid hq
  have g1 : decide ((20 : Int) ≤ (N : Int)) = false := by simp; omega
  have g2 : decide ((20 : Int) < (N : Int)) = false := by simp; omega
  have g3 : decide (20 ≤ N) = false := by simp; omega
  have g4 : decide (20 < N) = false := by simp; omega
  clear hN hq
  refine callsR fun R hR => ?_
  go_enter Tryz.func213, Tryz.ntmps213
  go_wp2_with fail
  refine wp_loop_rounds 1 ?_
  rw [rounds_succ]
  go_wp2_with (first | (go_at_call 225; refine Calls.mono (tr_insertion g N c L HN.out (by omega) HQ.out H.out) ?_; rintro e w' ⟨rfl, h'⟩; replace H := Lib.hid h'; clear h'))
  refine wp_loop_rounds 1 ?_
  rw [rounds_succ]
  go_wp2_with fail
  refine bodyPost_end (results_none rfl _ _ _) rfl (hR.out _ _ ⟨rfl, H.out⟩)
theorem tr_sort (v : Value) (L : List (Int × Int)) (hN2 : L.length ≤ 19) (hq : ∀ y, y ∈ L → -1000000000 ≤ y.2 ∧ y.2 ≤ 1000000000) (h : Led B w0 w (A ++ pT 194 v L :: C)) :
    Calls Tryz.prog 181 #[v, .func (.func 182) #[] #[]] w fun e w' => e = .returned (.tuple #[]) ∧ Led B w0 w' (A ++ pT 194 v (isort [] L) :: C) := by
  have H := Lib.hid h
  clear h
  obtain ⟨V, c, hv, hV⟩ := pT_form (pT_tab H.out)
  subst hv
  obtain ⟨N, hN⟩ : ∃ N, L.length = N := ⟨_, rfl⟩
  rw [hN] at hN2 hV H ⊢
  rcases Nat.eq_zero_or_pos N with h0 | h0
  · have hL : L = [] := List.eq_nil_of_length_eq_zero (by rw [hN]; exact h0)
    subst hL
    subst h0
    refine Calls.mono (tr_sort0 V c w) ?_
    rintro e w' ⟨rfl, rfl⟩
    exact ⟨rfl, H.out⟩
  · obtain ⟨g, rfl⟩ := hV h0
    have HN := Lib.hid hN
    have HQ := Lib.hid hq
    clear hN hq hV
    refine callsR fun R hR => ?_
    go_enter Tryz.func181, Tryz.ntmps181
    go_wp2_with (first | (go_at_call 213; refine Calls.mono (tr_stable g N c L HN.out hN2 HQ.out H.out) ?_; rintro e w' ⟨rfl, h'⟩; replace H := Lib.hid h'; clear h'))
    refine bodyPost_end (results_none rfl _ _ _) rfl (hR.out _ _ ⟨rfl, H.out⟩)
end
end Go.Proofs.YtognmhgdegpdiaaGreat
end
section
/- One tree is set in a row (slices.Insert), cell by cell. -/
namespace Go.Proofs.YtognmhgdegpdiaaGreat
open Go.RowKit
set_option linter.unusedVariables false
set_option linter.unusedSimpArgs false
set_option maxRecDepth 100000
theorem tr_info : ∃ i0, Tryz.prog.info? 194 = some i0 ∧ i0.size = 2 ∧ i0.bytes = 16 ∧ i0.zero = some (.agg #[.int .i64 0, .int .i64 0]) := by
  have hinfo : (Tryz.prog.info? 194).map (fun i => (i.size, i.bytes, i.zero)) = some (2, 16, some (.agg #[.int .i64 0, .int .i64 0])) := by kernel_rfl
  obtain ⟨i, hi, hz⟩ := Option.map_eq_some_iff.1 hinfo
  simp only [Prod.mk.injEq] at hz
  exact ⟨i, hi, hz⟩
theorem run_copy2 (w : World) (ty : TypeId) (b o dLen dCap : Nat) (a : Addr) (sLen sCap : Nat) (cs : List Value) (hn : cs.length = Nat.min sLen dLen * 2)
    (hsrc : ∀ j v, cs[j]? = some v → w.cell? (a.add j) = some v) (hc : ∀ j, j < cs.length → (w.cell? ⟨b, o + j, none⟩).isSome = true) (hf : ∀ j, j < cs.length → w.frozen? ⟨b, o + j, none⟩ = false) (h1 : ∀ v ∈ cs, v.oneCell' = true) :
    (Builtin.copy_ #[192, 192] ty #[.slice (some ⟨b, o, none⟩) dLen dCap, .slice (some a) sLen sCap]).run Tryz.prog w = .ok (goInt (Nat.min sLen dLen)) (w.setCells b o cs) := by
  have hl := run_loadCells_list (P := Tryz.prog) w a cs hsrc
  have hst := run_storeCells_cells (P := Tryz.prog) b o cs 0 w (by simpa using hc) (by simpa using hf) h1
  obtain ⟨i, hi, hz, _, _⟩ := tr_info
  simp [Builtin.copy_, run_underlying Tryz.underlying192, Builtin.lenOf, Builtin.firstCells, sizeOf, typeInfo, hi, hz, ← hn, hl, hst]
theorem wp_copy_runI (w : World) {P : Program} {o : Oper} {a : Act} {K : Act → World → Prop} {Q : Exit → Act → World → Prop} (d s : Operand) (t t' : TypeId)
    (ho : o.op = .call { callee := .builtin .copy, args := #[d, s], argTypes := #[t, t'] }) (v u : Value) (hd : a.eval d = v) (hs : a.eval s = u) {v' : Value} {w' : World}
    (hr : (Builtin.copy_ #[t, t'] o.type #[v, u]).run P w = .ok v' w') (h : K (a.put o.dst v') w') : o.wp P a w K Q := by
  unfold Oper.wp execOp
  simp only [ho, resolve, invoke, builtin, Sem.run_bind, Sem.run_pure, Result.andThen_ok, List.map_toArray, List.map_cons, List.map_nil, hd, hs, hr]
  exact h
theorem wpList_copy_runI (w : World) {P : Program} {ops : Array Oper} {rest : List Oper} {o : Oper} {a : Act} {Q : Exit → Act → World → Prop} (hgd : o.guard = none) (d s : Operand) (t t' : TypeId)
    (ho : o.op = .call { callee := .builtin .copy, args := #[d, s], argTypes := #[t, t'] }) (v u : Value) (hd : a.eval d = v) (hs : a.eval s = u) {v' : Value} {w' : World}
    (hr : (Builtin.copy_ #[t, t'] o.type #[v, u]).run P w = .ok v' w') (h : wpList P ops Q rest (a.put o.dst v') w') : wpList P ops Q (o :: rest) a w :=
  wpList_plain hgd fun _ hK => wp_copy_runI w d s t t' ho v u hd hs hr (hK _ _ h)
theorem step_copy_runI {P : Program} {ops : Array Oper} {o : Oper} {a : Act} {w : World} {K : Act → World → Prop} {Q : Exit → Act → World → Prop} {E : Prop}
    (hg : o.guard = none) (d x : Operand) (dT sT : TypeId) (hop : o.op = Op.call { callee := Callee.builtin Builtin.copy, args := #[d, x], argTypes := #[dT, sT] })
    (v u : Value) (hd : a.eval d = v) (hx : a.eval x = u) {v' : Value} {w' : World} (hr : (Builtin.copy_ #[dT, sT] o.type #[v, u]).run P w = .ok v' w') (hK : K (a.put o.dst v') w') :
    if Region.wanted o (yielded ops a.tmps) = true then Oper.wp P o a w K Q else E := by
  have hw : Region.wanted o (yielded ops a.tmps) = true := by simp [Region.wanted, hg]
  rw [if_pos hw]
  unfold Oper.wp
  simp [execOp, hop, resolve, invoke, builtin, hd, hx, hr, Result.andThen]
  exact hK
theorem isSome_setCells (b : Nat) (vs : List Value) (o : Nat) (w : World) (h : ∀ j, j < vs.length → (w.cell? ⟨b, o + j, none⟩).isSome = true) (k : Nat) (hk : (w.cell? ⟨b, k, none⟩).isSome = true) : ((w.setCells b o vs).cell? ⟨b, k, none⟩).isSome = true := by
  by_cases hin : o ≤ k ∧ k < o + vs.length
  · have := World.cell?_setCells_in b vs o w h (k - o) (by omega)
    rw [show o + (k - o) = k by omega] at this
    rw [this]; rfl
  · rw [World.cell?_setCells_out b vs o w ⟨b, k, none⟩ (fun _ _ => by show k < o ∨ o + vs.length ≤ k; omega)]
    exact hk
set_option maxHeartbeats 4000000 in
theorem ins_shift (b off n c i vb : Nat) (cs vs : List Value) (w : World) (hi : i < n) (hroom : n + 1 ≤ c) (hc63 : n ≤ 1000000) (hvb : vb ≠ b) (hcl : cs.length = n * 2) (hcs : ∀ j v, cs[j]? = some v → w.cell? ⟨b, off + j, none⟩ = some v) (h1c : ∀ v ∈ cs, v.oneCell' = true) (hvl : vs.length = 2) (hvs : ∀ j v, vs[j]? = some v → w.cell? ⟨vb, j, none⟩ = some v) (h1v : ∀ v ∈ vs, v.oneCell' = true)
    (hsp : ∀ j, j < (n + 1) * 2 → (w.cell? ⟨b, off + j, none⟩).isSome = true) (hfz : ∀ j, w.frozen? ⟨b, j, none⟩ = false)
    (tA tB : TypeId) (kA kB : Nat) (hsa : w.shape? vb = some (tA, kA)) (hsb : w.shape? b = some (tB, kB)) (hkB : kB ≠ 0) (hfa : ∀ j, w.frozen? ⟨vb, j, none⟩ = false) :
    Calls Tryz.prog 184 #[.slice (some ⟨b, off, none⟩) n c, .int .i64 (i : Int), .slice (some ⟨vb, 0, none⟩) 1 1] w fun e w' => e = .returned (.slice (some ⟨b, off, none⟩) (n + 1) c) ∧ w' = (w.drew.setCells b (off + (i + 1) * 2) (cs.drop (i * 2))).setCells b (off + i * 2) vs := by
  have hsz : ∀ w, (Go.sizeOf 194).run Tryz.prog w = .ok 2 w := fun w => by kernel_rfl
  have hov : ∀ lb cb, (callFunc 214 #[.slice (some ⟨vb, 0, none⟩) 1 1, .slice (some ⟨b, off + (i + 1) * 2, none⟩) lb cb]).run Tryz.prog w = .ok (.value (.bool false)) w := fun lb cb => by
    have hsome : (Tryz.prog.funcs[214]?).isSome = true := by kernel_rfl
    rw [run_callFunc_extern (fn := (Tryz.prog.funcs[214]?).get hsome) (Option.some_get hsome).symm (by kernel_rfl) (by kernel_rfl) (by kernel_rfl) (e := Extern.SlicesOverlaps.overlaps #[192, 192] #[4]) (by kernel_rfl),
      Lib.run_overlaps_apart w 192 4 194 Tryz.underlying192 2 hsz ⟨vb, 0, none⟩ ⟨b, off + (i + 1) * 2, none⟩ 1 1 lb cb hvb tA tB kA kB hsa hsb hkB (hfa _) (hfa _)]
    rfl
  have hdl : (cs.drop (i * 2)).length = (n - i) * 2 := by rw [List.length_drop, hcl, Nat.sub_mul]
  have hw1 : IntKind.i64.wrap ((i : Int) + 1) = (i : Int) + 1 := by rw [IntKind.wrap_i64]; omega
  have hw2 : IntKind.i64.wrap ((n : Int) + 1) = (n : Int) + 1 := by rw [IntKind.wrap_i64]; omega
  have hz2 : ¬ ((i : Int) = (n : Int)) := by omega
  have hb1 : (0 : Int) ≤ (i : Int) + 1 := by omega
  have hin : i ≤ n := by omega
  have htn : ((i : Int) + 1).toNat = i + 1 := by omega
  have hb2 : ¬ (c = i + 1) := by omega
  have hb3 : (i : Int) ≤ (n : Int) + 1 := by omega
  have hb4 : ¬ (c = i) := by omega
  have hcp1 : ∀ ty dc sc, (Builtin.copy_ #[192, 192] ty #[.slice (some ⟨b, off + (i + 1) * 2, none⟩) (n - i) dc, .slice (some ⟨b, off + i * 2, none⟩) (n + 1 - i) sc]).run Tryz.prog w.drew = .ok (goInt (Nat.min (n + 1 - i) (n - i))) (w.drew.setCells b (off + (i + 1) * 2) (cs.drop (i * 2))) := fun ty dc sc =>
    run_copy2 w.drew ty b (off + (i + 1) * 2) (n - i) dc ⟨b, off + i * 2, none⟩ (n + 1 - i) sc (cs.drop (i * 2)) (by rw [hdl]; simp only [Nat.min_def]; split <;> omega)
      (fun j v hj => by rw [Addr.add_lit, Nat.add_assoc]; exact hcs (i * 2 + j) v (by rwa [List.getElem?_drop] at hj))
      (fun j hj => by rw [Nat.add_assoc]; exact hsp _ (by omega)) (fun j hj => hfz _) (fun v hv => h1c v (List.mem_of_mem_drop hv))
  obtain ⟨W1, hW1⟩ : ∃ W1, W1 = w.drew.setCells b (off + (i + 1) * 2) (cs.drop (i * 2)) := ⟨_, rfl⟩
  have hsp1 : ∀ k, k < (n + 1) * 2 → (W1.cell? ⟨b, off + k, none⟩).isSome = true := fun k hk => by
    rw [hW1]
    exact isSome_setCells b _ _ _ (fun j hj => by rw [Nat.add_assoc]; exact hsp _ (by omega)) _ (hsp k hk)
  have hcp2 : ∀ (W : World), (∀ x, W.cell? x = W1.cell? x) → (∀ x, W.frozen? x = W1.frozen? x) → ∀ ty dc, (Builtin.copy_ #[192, 192] ty #[.slice (some ⟨b, off + i * 2, none⟩) (n + 1 - i) dc, .slice (some ⟨vb, 0, none⟩) 1 1]).run Tryz.prog W = .ok (goInt (Nat.min 1 (n + 1 - i))) (W.setCells b (off + i * 2) vs) := fun W hWc hWf ty dc =>
    run_copy2 W ty b (off + i * 2) (n + 1 - i) dc ⟨vb, 0, none⟩ 1 1 vs (by rw [hvl]; simp only [Nat.min_def]; split <;> omega)
      (fun j v hj => by
        rw [Addr.add_lit, hWc, hW1, World.cell?_setCells_out b _ _ _ _ (fun h _ => absurd h hvb), Nat.zero_add]
        exact hvs j v hj)
      (fun j hj => by rw [hWc, Nat.add_assoc]; exact hsp1 _ (by omega)) (fun j hj => by rw [hWf, hW1, World.frozen?_setCells]; exact hfz _) h1v
  rw [← hW1] at hcp1 ⊢
  refine callsR fun R hR => ?_
  go_enter Tryz.func184, Tryz.ntmps184
  go_wp2_with (simp only [hov])
  go_region_law (refine step_copy_runI rfl _ _ 192 192 rfl _ _ (by simp [Act.eval, Act.put]) (by simp [Act.eval, Act.put]) (hcp1 _ _ _) ?_)
  go_wp2_with (at_builtin; refine wpList_copy_runI _ rfl _ _ 192 192 rfl _ _ rfl rfl (hcp2 _ (fun _ => rfl) (fun _ => rfl) _ _) ?_)
  exact hR.out _ _ ⟨rfl, by rw [hW1]⟩
set_option maxHeartbeats 4000000 in
theorem ins_room (b off n c vb : Nat) (vs : List Value) (w : World) (hroom : n + 1 ≤ c) (hc63 : n ≤ 1000000) (hvl : vs.length = 2) (hvs : ∀ j v, vs[j]? = some v → w.cell? ⟨vb, j, none⟩ = some v) (h1v : ∀ v ∈ vs, v.oneCell' = true)
    (hsp : ∀ j, j < 2 → (w.cell? ⟨b, off + n * 2 + j, none⟩).isSome = true) (hfz : ∀ j, w.frozen? ⟨b, j, none⟩ = false) :
    Calls Tryz.prog 184 #[.slice (some ⟨b, off, none⟩) n c, .int .i64 (n : Int), .slice (some ⟨vb, 0, none⟩) 1 1] w fun e w' => e = .returned (.slice (some ⟨b, off, none⟩) (n + 1) c) ∧ w' = w.setCells b (off + n * 2) vs := by
  obtain ⟨i0, hi0, hz0, _, _⟩ := tr_info
  have hsrc : Src Tryz.prog i0.size 192 (.slice (some ⟨vb, 0, none⟩) 1 1) 1 vs w := Src.ofSlice w Tryz.underlying192 ⟨vb, 0, none⟩ 1 1 vs (by rw [hz0]; omega) (fun j u hj => by rw [Addr.add_lit, Nat.zero_add]; exact hvs j u hj) h1v
  have hrun : ∀ ty, (Builtin.append_ #[192, 192] ty #[.slice (some ⟨b, off, none⟩) n c, .slice (some ⟨vb, 0, none⟩) 1 1]).run Tryz.prog w = .ok (.slice (some ⟨b, off, none⟩) (n + 1) c) (w.setCells b (off + n * 2) vs) := fun ty => by
    have h := run_append_room_src (P := Tryz.prog) (w := w) 192 192 ty 194 i0 Tryz.underlying192 hi0 b off n c _ 1 vs hsrc hroom (by rw [hvl, hz0]; exact hsp) (fun j hj => hfz _)
    rw [hz0] at h
    exact h
  clear hsrc
  refine callsR fun R hR => ?_
  go_enter Tryz.func184, Tryz.ntmps184
  go_wp2_with (at_builtin; refine Lib.wpList_append_run _ rfl _ _ _ _ rfl _ _ rfl rfl _ _ (hrun _) ?_)
  exact hR.out _ _ ⟨rfl, rfl⟩
set_option maxHeartbeats 4000000 in
theorem ins_end_grow (b off n c vb : Nat) (cs vs : List Value) (w : World) (hnc : n ≤ c) (hroom : c < n + 1) (hbig : n ≤ 1000000) (hcl : cs.length = n * 2) (hcs : ∀ j v, cs[j]? = some v → w.cell? ⟨b, off + j, none⟩ = some v) (h1c : ∀ v ∈ cs, v.oneCell' = true) (hvl : vs.length = 2) (hvs : ∀ j v, vs[j]? = some v → w.cell? ⟨vb, j, none⟩ = some v) (h1v : ∀ v ∈ vs, v.oneCell' = true) :
    Calls Tryz.prog 184 #[.slice (some ⟨b, off, none⟩) n c, .int .i64 (n : Int), .slice (some ⟨vb, 0, none⟩) 1 1] w fun e w' => e = .returned (.slice (some ⟨w.heap.size, 0, none⟩) (n + 1) (grownCap w (n + 1) c 194)) ∧ w' = w.drew.alloc (.cells ((cs ++ vs).toArray ++ Builtin.zeroCells #[Value.int .i64 0, .int .i64 0] (grownCap w (n + 1) c 194 - (n + 1))) 194) := by
  obtain ⟨i0, hi0, hz0, hzb, hzz⟩ := tr_info
  have hsrc : Src Tryz.prog i0.size 192 (.slice (some ⟨vb, 0, none⟩) 1 1) 1 vs w := Src.ofSlice w Tryz.underlying192 ⟨vb, 0, none⟩ 1 1 vs (by rw [hz0]; omega) (fun j u hj => by rw [Addr.add_lit, Nat.zero_add]; exact hvs j u hj) h1v
  have hold : (Builtin.firstCells i0.size n (.slice (some ⟨b, off, none⟩) n c)).run Tryz.prog w.drew = .ok cs.toArray w.drew := by
    rw [hz0]
    exact run_firstCells_some w.drew 2 n ⟨b, off, none⟩ n c cs hcl (fun j v hj => by rw [Addr.add_lit]; exact hcs j v hj)
  have hrun : ∀ ty, (Builtin.append_ #[192, 192] ty #[.slice (some ⟨b, off, none⟩) n c, .slice (some ⟨vb, 0, none⟩) 1 1]).run Tryz.prog w = _ := fun ty =>
    run_append_grow_src (P := Tryz.prog) (w := w) 192 192 ty 194 i0 _ Tryz.underlying192 hi0 hzz (some ⟨b, off, none⟩) n c cs hold _ 1 vs hsrc hroom (by omega) (by rw [hzb]; exact growslice_fits hroom (by omega))
  clear hsrc hold
  refine callsR fun R hR => ?_
  go_enter Tryz.func184, Tryz.ntmps184
  go_wp2_with (at_builtin; refine Lib.wpList_append_run _ rfl _ _ _ _ rfl _ _ rfl rfl _ _ (hrun _) ?_)
  exact hR.out _ _ ⟨rfl, rfl⟩
set_option maxHeartbeats 4000000 in
theorem ins_grow (b off n c i vb : Nat) (cs vs : List Value) (w : World) (hi : i < n) (hnc : n ≤ c) (hroom : c < n + 1) (hbig : n ≤ 1000000) (hcl : cs.length = n * 2) (hcs : ∀ j v, cs[j]? = some v → w.cell? ⟨b, off + j, none⟩ = some v) (h1c : ∀ v ∈ cs, v.oneCell' = true) (hvl : vs.length = 2) (hvs : ∀ j v, vs[j]? = some v → w.cell? ⟨vb, j, none⟩ = some v) (h1v : ∀ v ∈ vs, v.oneCell' = true) (hvw : vb < w.heap.size) (hbw : b < w.heap.size) :
    Calls Tryz.prog 184 #[.slice (some ⟨b, off, none⟩) n c, .int .i64 (i : Int), .slice (some ⟨vb, 0, none⟩) 1 1] w fun e w' => e = .returned (.slice (some ⟨w.heap.size, 0, none⟩) (n + 1) (grownCap w (n + 1) c 194)) ∧ w' = (((w.alloc (.cells ((cs.take (i * 2)).toArray ++ Builtin.zeroCells #[Value.int .i64 0, .int .i64 0] (n + 1 - i) ++ Builtin.zeroCells #[Value.int .i64 0, .int .i64 0] (grownCap w (n + 1) c 194 - (n + 1))) 194)).drew.setCells w.heap.size (i * 2) vs).drew).setCells w.heap.size ((i + 1) * 2) (cs.drop (i * 2)) := by
  obtain ⟨i0, hi0, hz0, hzb, hzz⟩ := tr_info
  have hz2 : ¬ ((i : Int) = (n : Int)) := by omega
  have hz3 : (c : Int) < (n : Int) + 1 := by omega
  have hkk : (n : Int) + 1 - (i : Int) = ((n + 1 - i : Nat) : Int) := by omega
  have hik : i + (n + 1 - i) = n + 1 := by omega
  have hold : (Builtin.firstCells i0.size i (.slice (some ⟨b, off, none⟩) i c)).run Tryz.prog w.drew = .ok (cs.take (i * 2)).toArray w.drew := by
    rw [hz0]
    exact run_firstCells_some w.drew 2 i ⟨b, off, none⟩ i c (cs.take (i * 2)) (by rw [List.length_take]; omega) (fun j v hj => by
      rw [Addr.add_lit]
      rw [List.getElem?_take] at hj
      split at hj
      · exact hcs j v hj
      · cases hj)
  have hrz : ∀ ty, (Builtin.append_ #[192, 3] ty #[.slice (some ⟨b, off, none⟩) i c, .int .i64 ((n : Int) + 1 - (i : Int))]).run Tryz.prog w =
      .ok (.slice (some ⟨w.heap.size, 0, none⟩) (n + 1) (grownCap w (n + 1) c 194)) (w.drew.alloc (.cells ((cs.take (i * 2)).toArray ++ Builtin.zeroCells #[Value.int .i64 0, .int .i64 0] (n + 1 - i) ++ Builtin.zeroCells #[Value.int .i64 0, .int .i64 0] (grownCap w (n + 1) c 194 - (n + 1))) 194)) := fun ty => by
    have h := Lib.run_append_grow_zeros (P := Tryz.prog) w 192 3 ty 194 i0 _ .i64 .i64 Tryz.underlying192 Tryz.underlying3 hi0 hzz (some ⟨b, off, none⟩) i c (cs.take (i * 2)) hold (n + 1 - i) (by omega) (by omega) (by omega) (by omega) (by rw [hzb]; omega) (by rw [hzb, hik]; exact growslice_fits hroom (by omega))
    rw [hik] at h
    rw [hkk]
    exact h
  obtain ⟨G, hG⟩ : ∃ G, G = grownCap w (n + 1) c 194 := ⟨_, rfl⟩
  obtain ⟨ROW, hROW⟩ : ∃ ROW : Array Value, ROW = (cs.take (i * 2)).toArray ++ Builtin.zeroCells #[Value.int .i64 0, .int .i64 0] (n + 1 - i) ++ Builtin.zeroCells #[Value.int .i64 0, .int .i64 0] (G - (n + 1)) := ⟨_, rfl⟩
  rw [← hG] at hrz ⊢
  rw [← hROW] at hrz ⊢
  have hRl : (n + 1) * 2 ≤ ROW.size := by
    rw [hROW]
    simp [Builtin.zeroCells, Value.cells]
    omega
  obtain ⟨W1, hW1⟩ : ∃ W1, W1 = w.drew.alloc (.cells ROW 194) := ⟨_, rfl⟩
  rw [← hW1] at hrz
  have hN : ∀ j, j < (n + 1) * 2 → (W1.cell? ⟨w.heap.size, j, none⟩).isSome = true := fun j hj => by
    rw [hW1, World.cell?_alloc_at (w := w.drew) ROW _ w.heap.size j rfl, Array.getElem?_eq_getElem (by omega)]; rfl
  have hNf : ∀ j, W1.frozen? ⟨w.heap.size, j, none⟩ = false := fun j => by rw [hW1]; exact World.frozen?_alloc_at (w := w.drew) ROW _ w.heap.size j rfl
  have hOb : ∀ j v, w.cell? ⟨b, j, none⟩ = some v → W1.cell? ⟨b, j, none⟩ = some v := fun j v h => by rw [hW1, World.cell?_alloc_past (w := w.drew) _ b j hbw]; exact h
  have hOv : ∀ j v, w.cell? ⟨vb, j, none⟩ = some v → W1.cell? ⟨vb, j, none⟩ = some v := fun j v h => by rw [hW1, World.cell?_alloc_past (w := w.drew) _ vb j hvw]; exact h
  have hcpA : ∀ (W : World), (∀ x, W.cell? x = W1.cell? x) → (∀ x, W.frozen? x = W1.frozen? x) → ∀ ty dc, (Builtin.copy_ #[192, 192] ty #[.slice (some ⟨w.heap.size, i * 2, none⟩) (n + 1 - i) dc, .slice (some ⟨vb, 0, none⟩) 1 1]).run Tryz.prog W = .ok (goInt (Nat.min 1 (n + 1 - i))) (W.setCells w.heap.size (i * 2) vs) := fun W hWc hWf ty dc =>
    run_copy2 W ty w.heap.size (i * 2) (n + 1 - i) dc ⟨vb, 0, none⟩ 1 1 vs (by rw [hvl]; simp only [Nat.min_def]; split <;> omega)
      (fun j v hj => by rw [Addr.add_lit, hWc, Nat.zero_add]; exact hOv _ v (hvs j v hj))
      (fun j hj => by rw [hWc]; exact hN _ (by omega)) (fun j hj => by rw [hWf]; exact hNf _) h1v
  have hGn : n + 1 ≤ G := by rw [hG]; exact grownCap_ge w _ _ _
  have hGi : ¬ (G = i) := by omega
  have hGim : ¬ (G = i + 1) := by omega
  have hci : ¬ (c = i) := by omega
  have hbN : b ≠ w.heap.size := by omega
  have hdl : (cs.drop (i * 2)).length = (n - i) * 2 := by rw [List.length_drop, hcl, Nat.sub_mul]
  have hcpB : ∀ (W : World), (∀ x, W.cell? x = (W1.setCells w.heap.size (i * 2) vs).cell? x) → (∀ x, W.frozen? x = (W1.setCells w.heap.size (i * 2) vs).frozen? x) → ∀ ty dc sc, (Builtin.copy_ #[192, 192] ty #[.slice (some ⟨w.heap.size, (i + 1) * 2, none⟩) (n - i) dc, .slice (some ⟨b, off + i * 2, none⟩) (n - i) sc]).run Tryz.prog W = .ok (goInt (Nat.min (n - i) (n - i))) (W.setCells w.heap.size ((i + 1) * 2) (cs.drop (i * 2))) := fun W hWc hWf ty dc sc =>
    run_copy2 W ty w.heap.size ((i + 1) * 2) (n - i) dc ⟨b, off + i * 2, none⟩ (n - i) sc (cs.drop (i * 2)) (by rw [hdl]; simp only [Nat.min_def]; split <;> omega)
      (fun j v hj => by
        rw [Addr.add_lit, hWc, World.cell?_setCells_out _ _ _ _ _ (fun h _ => absurd h hbN), Nat.add_assoc]
        exact hOb _ v (hcs (i * 2 + j) v (by rwa [List.getElem?_drop] at hj)))
      (fun j hj => by rw [hWc]; exact isSome_setCells _ _ _ _ (fun t ht => hN _ (by omega)) _ (hN _ (by omega)))
      (fun j hj => by rw [hWf, World.frozen?_setCells]; exact hNf _) (fun v hv => h1c v (List.mem_of_mem_drop hv))
  subst hW1
  have hE1 : ∀ x, ((w.alloc (.cells ROW 194)).drew).cell? x = (w.drew.alloc (.cells ROW 194)).cell? x := fun x => rfl
  have hE2 : ∀ x, ((w.alloc (.cells ROW 194)).drew).frozen? x = (w.drew.alloc (.cells ROW 194)).frozen? x := fun x => rfl
  have hF1 : ∀ x, (((w.alloc (.cells ROW 194)).drew.setCells w.heap.size (i * 2) vs).drew).cell? x = ((w.drew.alloc (.cells ROW 194)).setCells w.heap.size (i * 2) vs).cell? x := fun x => rfl
  have hF2 : ∀ x, (((w.alloc (.cells ROW 194)).drew.setCells w.heap.size (i * 2) vs).drew).frozen? x = ((w.drew.alloc (.cells ROW 194)).setCells w.heap.size (i * 2) vs).frozen? x := fun x => rfl
  have hw1 : IntKind.i64.wrap ((i : Int) + 1) = (i : Int) + 1 := by rw [IntKind.wrap_i64]; omega
  have hw2 : IntKind.i64.wrap ((n : Int) + 1) = (n : Int) + 1 := by rw [IntKind.wrap_i64]; omega
  have hw3 : IntKind.i64.wrap ((n : Int) + 1 - (i : Int)) = (n : Int) + 1 - (i : Int) := by rw [IntKind.wrap_i64]; omega
  have hb1 : (0 : Int) ≤ (i : Int) + 1 := by omega
  have hin : i ≤ n := by omega
  have htn : ((i : Int) + 1).toNat = i + 1 := by omega
  have hb3 : (i : Int) ≤ (n : Int) := by omega
  clear hkk hik hold hROW hG hRl
  refine callsR fun R hR => ?_
  go_enter Tryz.func184, Tryz.ntmps184
  go_wp2_with (first
    | (at_builtin; refine Lib.wpList_append_run _ rfl _ _ _ _ rfl _ _ rfl rfl _ _ (hrz _) ?_)
    | (at_builtin; refine wpList_copy_runI _ rfl _ _ 192 192 rfl _ _ rfl rfl (hcpA _ hE1 hE2 _ _) ?_)
    | (at_builtin; refine wpList_copy_runI _ rfl _ _ 192 192 rfl _ _ rfl rfl (hcpB _ (fun _ => rfl) (fun _ => rfl) _ _ _) ?_))
  go_region_law (refine step_copy_runI rfl _ _ 192 192 rfl (.slice (some ⟨w.heap.size, (i + 1) * 2, none⟩) (n - i) (G - (i + 1))) (.slice (some ⟨b, off + i * 2, none⟩) (n - i) (c - i)) (by simp [Act.eval, Act.put]) (by simp [Act.eval, Act.put]) (hcpB _ hF1 hF2 3 (G - (i + 1)) (c - i)) ?_)
  go_wp2
  exact hR.out _ _ ⟨rfl, rfl⟩
end Go.Proofs.YtognmhgdegpdiaaGreat
end
section
/- A row of trees that may begin within its block; one is set in. -/
namespace Go.Proofs.YtognmhgdegpdiaaGreat
open Go.RowKit
set_option linter.unusedVariables false
set_option linter.unusedSimpArgs false
set_option maxRecDepth 100000
def cs2 : List (Int × Int) → List Value
  | [] => []
  | x :: l => .int .i64 x.1 :: .int .i64 x.2 :: cs2 l
theorem cs2_len : ∀ L : List (Int × Int), (cs2 L).length = L.length * 2
  | [] => rfl
  | x :: l => by simp [cs2, cs2_len l]; omega
theorem cs2_append : ∀ (L M : List (Int × Int)), cs2 (L ++ M) = cs2 L ++ cs2 M
  | [], M => rfl
  | x :: l, M => by simp [cs2, cs2_append l M]
theorem cs2_take : ∀ (i : Nat) (L : List (Int × Int)), cs2 (L.take i) = (cs2 L).take (i * 2)
  | 0, L => by simp [cs2]
  | i + 1, [] => by simp [cs2]
  | i + 1, x :: l => by rw [List.take_succ_cons, cs2, cs2, cs2_take i l, show (i + 1) * 2 = i * 2 + 1 + 1 by omega]; rfl
theorem cs2_drop : ∀ (i : Nat) (L : List (Int × Int)), cs2 (L.drop i) = (cs2 L).drop (i * 2)
  | 0, L => by simp
  | i + 1, [] => by simp [cs2]
  | i + 1, x :: l => by rw [List.drop_succ_cons, cs2, cs2_drop i l, show (i + 1) * 2 = i * 2 + 1 + 1 by omega]; rfl
theorem cs2_one : ∀ (L : List (Int × Int)) (v : Value), v ∈ cs2 L → v.oneCell' = true
  | [], v, h => by simp [cs2] at h
  | x :: l, v, h => by
    simp only [cs2, List.mem_cons] at h
    rcases h with rfl | rfl | h
    · rfl
    · rfl
    · exact cs2_one l v h
theorem cs2_get : ∀ (L : List (Int × Int)) (i : Nat) (x : Int × Int), L[i]? = some x → (cs2 L)[i * 2]? = some (.int .i64 x.1) ∧ (cs2 L)[i * 2 + 1]? = some (.int .i64 x.2)
  | [], i, x, h => by simp at h
  | y :: l, 0, x, h => by simp at h; subst h; exact ⟨rfl, rfl⟩
  | y :: l, i + 1, x, h => by
    have h1 := cs2_get l i x (by simpa using h)
    rw [cs2, show (i + 1) * 2 = i * 2 + 1 + 1 by omega]
    exact ⟨h1.1, h1.2⟩
theorem cs2_flat : ∀ (L : List (Int × Int)), cs2 L = (pR L).flatten
  | [] => rfl
  | x :: l => by rw [cs2, cs2_flat l]; rfl
def WIs (w : World) (g o n c : Nat) (L : List (Int × Int)) : Prop :=
  ∃ cur t, w.heap[g]? = some (.cells cur t (0, 0)) ∧ n = L.length ∧ n ≤ c ∧ o * 2 + c * 2 ≤ cur.size ∧ cur.size ≠ 0 ∧ ∀ j u, (cs2 L)[j]? = some u → cur[o * 2 + j]? = some u
section
variable {w w' : World} {g o n c : Nat} {L : List (Int × Int)}
theorem WIs.lt (h : WIs w g o n c L) : g < w.heap.size := by
  obtain ⟨cur, t, h, _⟩ := h
  exact (Array.getElem?_eq_some_iff.1 h).1
theorem WIs.loc {fp : List Nat} (hc : Chg fp w w') (hn : g ∉ fp) (h : WIs w g o n c L) : WIs w' g o n c L := by
  have hl := h.lt
  obtain ⟨cur, t, h1, h2⟩ := h
  exact ⟨cur, t, by rw [hc.block g hl hn]; exact h1, h2⟩
theorem WIs.frozen (h : WIs w g o n c L) (j : Nat) : w.frozen? ⟨g, j, none⟩ = false := by
  obtain ⟨cur, t, h1, _⟩ := h
  simp [World.frozen?, h1]
theorem WIs.shape (h : WIs w g o n c L) : ∃ t k, w.shape? g = some (t, k) ∧ k ≠ 0 := by
  obtain ⟨cur, t, h1, _, _, _, h2, _⟩ := h
  exact ⟨t, cur.size, by simp [World.shape?, h1], h2⟩
theorem WIs.there (h : WIs w g o n c L) (j : Nat) (hj : j < c * 2) : (w.cell? ⟨g, o * 2 + j, none⟩).isSome = true := by
  obtain ⟨cur, t, h1, _, _, h2, _⟩ := h
  simp [World.cell?, h1]
  omega
theorem WIs.cell (h : WIs w g o n c L) (j : Nat) (v : Value) (hj : (cs2 L)[j]? = some v) : w.cell? ⟨g, o * 2 + j, none⟩ = some v := by
  obtain ⟨cur, t, h1, _, _, _, _, h2⟩ := h
  simp only [World.cell?, h1]
  exact h2 j v hj
theorem WIs.get {i : Nat} {x : Int × Int} (h : WIs w g o n c L) (hi : L[i]? = some x) : w.cell? ⟨g, o * 2 + i * 2, none⟩ = some (.int .i64 x.1) ∧ w.cell? ⟨g, o * 2 + i * 2 + 1, none⟩ = some (.int .i64 x.2) := by
  obtain ⟨h1, h2⟩ := cs2_get L i x hi
  exact ⟨h.cell _ _ h1, by have := h.cell _ _ h2; rwa [← Nat.add_assoc] at this⟩
theorem WIs.skip (k : Nat) (h : WIs w g o n c L) (hk : k ≤ n) : WIs w g (o + k) (n - k) (c - k) (L.drop k) := by
  obtain ⟨cur, t, h1, h2, h3, h4, h5, h6⟩ := h
  refine ⟨cur, t, h1, by rw [List.length_drop, h2], by omega, by omega, h5, fun j u hj => ?_⟩
  rw [cs2_drop, List.getElem?_drop] at hj
  have := h6 _ u hj
  rwa [show o * 2 + (k * 2 + j) = (o + k) * 2 + j by omega] at this
end
theorem setCells_heap {g : Nat} {t : TypeId} : ∀ (vs : List Value) (o : Nat) (w : World) (cur : Array Value), w.heap[g]? = some (.cells cur t (0, 0)) → o + vs.length ≤ cur.size →
    ∃ cur', (w.setCells g o vs).heap[g]? = some (.cells cur' t (0, 0)) ∧ cur'.size = cur.size ∧ (∀ j u, vs[j]? = some u → cur'[o + j]? = some u) ∧ ∀ j, j < o ∨ o + vs.length ≤ j → cur'[j]? = cur[j]?
  | [], o, w, cur, h, _ => ⟨cur, h, rfl, fun j u hu => by simp at hu, fun j _ => rfl⟩
  | v :: vs, o, w, cur, h, hl => by
    simp only [List.length_cons] at hl ⊢
    have h1 : (w.setCell ⟨g, o, none⟩ v).heap[g]? = some (.cells (cur.setIfInBounds o v) t (0, 0)) := by rw [setCell_eq_setRow w g o cur t (0, 0) v h]; exact setRow_heap w g cur _ t _ h
    obtain ⟨cur', h2, h3, h4, h5⟩ := setCells_heap vs (o + 1) _ _ h1 (by simp; omega)
    refine ⟨cur', h2, by rw [h3]; simp, fun j u hu => ?_, fun j hj => ?_⟩
    · cases j with
      | zero =>
        simp at hu
        subst hu
        rw [Nat.add_zero, h5 o (.inl (by omega))]
        simp [Array.getElem?_setIfInBounds]
        omega
      | succ j =>
        have := h4 j u (by simpa using hu)
        rwa [show o + 1 + j = o + (j + 1) by omega] at this
    · rw [h5 j (by omega)]
      simp only [Array.getElem?_setIfInBounds]
      rw [if_neg (by omega)]
def wE (g o n c : Nat) (L : List (Int × Int)) : Ent :=
  ⟨[g], fun w => WIs w g o n c L, fun hc ha h => h.loc hc (ha g (by simp)), fun h b hb => by simp at hb; subst hb; exact h.lt⟩
theorem chg_setCells2 {fp : List Nat} {g : Nat} : ∀ (vs : List Value) (w w1 : World) (o : Nat), (g ∈ fp ∨ w.heap.size ≤ g) → Chg fp w w1 → Chg fp w (w1.setCells g o vs)
  | [], _, _, _, _, h => h
  | v :: vs, w, w1, o, hg, h => chg_setCells2 vs w _ (o + 1) hg (h.setCell (p := ⟨g, o, none⟩) hg v)
theorem ins_cells {L : List (Int × Int)} {x : Int × Int} {i j : Nat} {u : Value} (hi : i ≤ L.length) (hj : (cs2 (L.take i ++ x :: L.drop i))[j]? = some u) :
    (j < i * 2 ∧ (cs2 L)[j]? = some u) ∨ (∃ k, j = i * 2 + k ∧ ([Value.int .i64 x.1, .int .i64 x.2] : List Value)[k]? = some u) ∨ ∃ k, j = (i + 1) * 2 + k ∧ ((cs2 L).drop (i * 2))[k]? = some u := by
  rw [cs2_append, cs2_take, cs2, cs2_drop] at hj
  have hl : ((cs2 L).take (i * 2)).length = i * 2 := by rw [List.length_take, cs2_len]; omega
  rcases Nat.lt_or_ge j (i * 2) with h | h
  · rw [List.getElem?_append_left (by omega), List.getElem?_take, if_pos h] at hj
    exact .inl ⟨h, hj⟩
  · rw [List.getElem?_append_right (by omega), hl] at hj
    obtain ⟨k, rfl⟩ : ∃ k, j = i * 2 + k := ⟨j - i * 2, by omega⟩
    rw [Nat.add_sub_cancel_left] at hj
    match k, hj with
    | 0, hj => exact .inr (.inl ⟨0, rfl, hj⟩)
    | 1, hj => exact .inr (.inl ⟨1, rfl, hj⟩)
    | k + 2, hj => exact .inr (.inr ⟨k, by omega, hj⟩)
section
variable {B : Nat} {w0 w : World} {A C : List Ent}
theorem Led.wE_is {g o n c : Nat} {L : List (Int × Int)} (h : Led B w0 w (A ++ wE g o n c L :: C)) : WIs w g o n c L := h.mem
theorem pT_wE {g n c : Nat} {L : List (Int × Int)} (hp : 0 < c) (h : Led B w0 w (A ++ pT 194 (.slice (some ⟨g, 0, none⟩) n c) L :: C)) : Led B w0 w (A ++ wE g 0 n c L :: C) := by
  refine h.mid (wE g 0 n c L) (Chg.refl _ _) ?_ (Fresh.refl _ _)
  obtain ⟨xs, ⟨h0, h1⟩, h2, h3⟩ := pT_tab h
  rcases h1 with ⟨h1, _⟩ | ⟨g', cap, cur, h4, _, h5, h6, _, h7, h8⟩
  · cases h1
  · injection h4 with e1 e2 e3
    injection e1 with e1
    injection e1 with e1
    subst e1 e3
    rw [pR_len] at e2 h6 h8
    refine ⟨cur, _, h5, e2, by omega, by omega, by omega, fun j u hj => ?_⟩
    have hju := hj
    rw [cs2_flat] at hj
    obtain ⟨a, b, r, rfl, ha, hb⟩ := flat_get (sz := 2) _ j u (fun r hr => by obtain ⟨x, _, rfl⟩ := List.mem_map.1 hr; rfl) hj
    have := h3 a r ha b u hb
    rw [← h8, List.getElem?_take] at this
    split at this
    · rw [Nat.zero_mul, Nat.zero_add, ← this]; simp
    · cases this
set_option maxHeartbeats 4000000 in
theorem tr_insert (g o n c i a vb : Nat) (L : List (Int × Int)) (x : Int × Int) (hn : n ≤ 1000000) (hi : i ≤ n) (ha : 0 < c → a = o * 2) (hb : Blk w vb 194 #[.int .i64 x.1, .int .i64 x.2]) (hvg : vb ≠ g) (h : Led B w0 w (A ++ wE g o n c L :: C)) :
    Calls Tryz.prog 184 #[.slice (some ⟨g, a, none⟩) n c, .int .i64 (i : Int), .slice (some ⟨vb, 0, none⟩) 1 1] w fun e w' => ∃ g' o' c', e = .returned (.slice (some ⟨g', o' * 2, none⟩) (n + 1) c') ∧ 0 < c' ∧ Led B w0 w' (A ++ wE g' o' (n + 1) c' (L.take i ++ x :: L.drop i) :: C) := by
  have hW := h.wE_is
  have hln : n = L.length := by obtain ⟨_, _, _, h, _⟩ := hW; exact h
  have hnc : n ≤ c := by obtain ⟨_, _, _, _, h, _⟩ := hW; exact h
  have hcl : (cs2 L).length = n * 2 := by rw [cs2_len, hln]
  have hvs : ∀ j v, ([Value.int .i64 x.1, .int .i64 x.2] : List Value)[j]? = some v → w.cell? ⟨vb, j, none⟩ = some v := fun j v hj => by
    have := hb.cell j
    rw [this]
    simpa using hj
  have h1v : ∀ v ∈ ([Value.int .i64 x.1, .int .i64 x.2] : List Value), v.oneCell' = true := by intro v hv; simp at hv; rcases hv with rfl | rfl <;> rfl
  have hcs : ∀ j v, (cs2 L)[j]? = some v → w.cell? ⟨g, a + j, none⟩ = some v := fun j v hj => by
    have hj1 := (List.getElem?_eq_some_iff.1 hj).1
    rw [ha (by omega)]
    exact hW.cell j v hj
  have hfr : ∀ j, w.frozen? ⟨g, j, none⟩ = false := fun j => hW.frozen j
  have hnl : (L.take i ++ x :: L.drop i).length = n + 1 := by simp; omega
  have hhd : w.heap[vb]? = some (.cells #[.int .i64 x.1, .int .i64 x.2] 194 (0, 0)) := hb
  rcases Nat.lt_or_ge n c with hroom | hroom
  · obtain rfl := ha (by omega)
    rcases Nat.lt_or_ge i n with hin | hin
    · obtain ⟨tB, kB, hsb, hkB⟩ := hW.shape
      refine Calls.mono (ins_shift g (o * 2) n c i vb (cs2 L) [.int .i64 x.1, .int .i64 x.2] w hin hroom hn hvg hcl hcs (cs2_one L) rfl hvs h1v (fun j hj => hW.there j (by omega)) hfr 194 tB 2 kB (by simp [World.shape?, hhd]) hsb hkB (fun j => by simp [World.frozen?, hhd])) ?_
      rintro e w' ⟨rfl, rfl⟩
      refine ⟨g, o, c, rfl, by omega, h.mid (wE g o (n + 1) c _) ?_ ?_ (Fresh.refl _ _)⟩
      · exact chg_setCells2 _ _ _ _ (.inl (by simp [wE])) (chg_setCells2 _ _ _ _ (.inl (by simp [wE])) (Chg.refl _ _).drew)
      · obtain ⟨cur, t, k1, k2, k3, k4, k5, k6⟩ := hW
        have hdl : ((cs2 L).drop (i * 2)).length = (n - i) * 2 := by rw [List.length_drop, hcl, Nat.sub_mul]
        obtain ⟨cu1, m1, m2, m3, m4⟩ := setCells_heap ((cs2 L).drop (i * 2)) (o * 2 + (i + 1) * 2) w.drew cur k1 (by rw [hdl]; omega)
        obtain ⟨cu2, p1, p2, p3, p4⟩ := setCells_heap ([.int .i64 x.1, .int .i64 x.2] : List Value) (o * 2 + i * 2) _ cu1 m1 (by simp; omega)
        refine ⟨cu2, t, p1, hnl.symm, by omega, by omega, by omega, fun j u hj => ?_⟩
        rcases ins_cells (by omega) hj with ⟨q1, q2⟩ | ⟨k, rfl, q⟩ | ⟨k, rfl, q⟩
        · rw [p4 _ (.inl (by omega)), m4 _ (.inl (by omega))]
          exact k6 j u q2
        · rw [← Nat.add_assoc]
          exact p3 k u q
        · rw [p4 _ (.inr (by simp; omega)), ← Nat.add_assoc]
          exact m3 k u q
    · obtain rfl : i = n := by omega
      refine Calls.mono (ins_room g (o * 2) i c vb [.int .i64 x.1, .int .i64 x.2] w hroom hn rfl hvs h1v (fun j hj => by have := hW.there (i * 2 + j) (by omega); rwa [← Nat.add_assoc] at this) hfr) ?_
      rintro e w' ⟨rfl, rfl⟩
      refine ⟨g, o, c, rfl, by omega, h.mid (wE g o (i + 1) c _) ?_ ?_ (Fresh.refl _ _)⟩
      · exact chg_setCells2 _ _ _ _ (.inl (by simp [wE])) (Chg.refl _ _)
      · obtain ⟨cur, t, k1, k2, k3, k4, k5, k6⟩ := hW
        obtain ⟨cu2, p1, p2, p3, p4⟩ := setCells_heap ([.int .i64 x.1, .int .i64 x.2] : List Value) (o * 2 + i * 2) _ cur k1 (by simp; omega)
        refine ⟨cu2, t, p1, hnl.symm, by omega, by omega, by omega, fun j u hj => ?_⟩
        rcases ins_cells (by omega) hj with ⟨q1, q2⟩ | ⟨k, rfl, q⟩ | ⟨k, rfl, q⟩
        · rw [p4 _ (.inl (by omega))]
          exact k6 j u q2
        · rw [← Nat.add_assoc]
          exact p3 k u q
        · rw [List.drop_of_length_le (by omega)] at q
          simp at q
  · obtain rfl : c = n := by omega
    have hfresh : Fresh [g] [w.heap.size] w := fun b hb => .inr (by simp at hb; omega)
    have hge := grownCap_ge w (c + 1) c 194
    rcases Nat.lt_or_ge i c with hin | hin
    · refine Calls.mono (ins_grow g a c c i vb (cs2 L) [.int .i64 x.1, .int .i64 x.2] w hin (Nat.le_refl _) (by omega) hn hcl hcs (cs2_one L) rfl hvs h1v hb.lt hW.lt) ?_
      rintro e w' ⟨rfl, rfl⟩
      refine ⟨w.heap.size, 0, _, by rw [Nat.zero_mul], by omega, h.mid (wE w.heap.size 0 (c + 1) _ _) ?_ ?_ hfresh⟩
      · exact chg_setCells2 _ _ _ _ (.inr (Nat.le_refl _)) (Chg.drew (chg_setCells2 _ _ _ _ (.inr (Nat.le_refl _)) ((Chg.refl _ _).alloc _).drew))
      · obtain ⟨G, hG⟩ : ∃ G, grownCap w (c + 1) c 194 = G := ⟨_, rfl⟩
        rw [hG] at hge ⊢
        obtain ⟨ROW, hROW⟩ : ∃ ROW : Array Value, ROW = (((cs2 L).take (i * 2)).toArray ++ Builtin.zeroCells #[Value.int .i64 0, .int .i64 0] (c + 1 - i) ++ Builtin.zeroCells #[Value.int .i64 0, .int .i64 0] (G - (c + 1))) := ⟨_, rfl⟩
        rw [← hROW]
        have hRl : ROW.size = G * 2 := by
          rw [hROW]
          simp [Builtin.zeroCells, hcl]
          omega
        have hR1 : ∀ j u, j < i * 2 → (cs2 L)[j]? = some u → ROW[j]? = some u := fun j u hj hu => by
          rw [hROW, Array.append_assoc, Array.getElem?_append_left (by simp [hcl]; omega)]
          simp [List.getElem?_take, hj, hu]
        have k1 : (w.alloc (.cells ROW 194)).drew.heap[w.heap.size]? = some (.cells ROW 194 (0, 0)) := Blk.new w _ _
        have hdl : ((cs2 L).drop (i * 2)).length = (c - i) * 2 := by rw [List.length_drop, hcl, Nat.sub_mul]
        obtain ⟨cu1, m1, m2, m3, m4⟩ := setCells_heap ([.int .i64 x.1, .int .i64 x.2] : List Value) (i * 2) _ ROW k1 (by simp; omega)
        obtain ⟨cu2, p1, p2, p3, p4⟩ := setCells_heap ((cs2 L).drop (i * 2)) ((i + 1) * 2) (((w.alloc (.cells ROW 194)).drew.setCells w.heap.size (i * 2) [.int .i64 x.1, .int .i64 x.2]).drew) cu1 m1 (by rw [hdl]; omega)
        refine ⟨cu2, 194, p1, hnl.symm, by omega, by omega, by omega, fun j u hj => ?_⟩
        rw [Nat.zero_mul, Nat.zero_add]
        rcases ins_cells (by omega) hj with ⟨q1, q2⟩ | ⟨k, rfl, q⟩ | ⟨k, rfl, q⟩
        · rw [p4 _ (.inl (by omega)), m4 _ (.inl (by omega))]
          exact hR1 j u q1 q2
        · have hk := (List.getElem?_eq_some_iff.1 q).1
          simp at hk
          rw [p4 _ (.inl (by omega))]
          exact m3 k u q
        · exact p3 k u q
    · obtain rfl : i = c := by omega
      refine Calls.mono (ins_end_grow g a i i vb (cs2 L) [.int .i64 x.1, .int .i64 x.2] w (Nat.le_refl _) (by omega) hn hcl hcs (cs2_one L) rfl hvs h1v) ?_
      rintro e w' ⟨rfl, rfl⟩
      refine ⟨w.heap.size, 0, _, by rw [Nat.zero_mul], by omega, h.mid (wE w.heap.size 0 (i + 1) _ _) ((Chg.refl _ _).drew.alloc _) ?_ hfresh⟩
      obtain ⟨G, hG⟩ : ∃ G, grownCap w (i + 1) i 194 = G := ⟨_, rfl⟩
      rw [hG] at hge ⊢
      refine ⟨_, 194, Blk.new w.drew _ _, hnl.symm, by omega, by simp [Builtin.zeroCells, hcl]; omega, by simp [Builtin.zeroCells, hcl], fun j u hj => ?_⟩
      rw [Nat.zero_mul, Nat.zero_add]
      have hj1 := (List.getElem?_eq_some_iff.1 hj).1
      rw [cs2_len, hnl] at hj1
      rw [Array.getElem?_append_left (by simp [hcl]; omega)]
      rw [cs2_append, cs2_take, cs2, cs2_drop, List.take_of_length_le (by omega), List.drop_of_length_le (by omega)] at hj
      simpa using hj
end
end Go.Proofs.YtognmhgdegpdiaaGreat
end
