import Derived.Test.YtognmhgdegpdiaaGreatTopAI
section
/- Leftist heaps: what their inner functions do. -/
namespace Go.Proofs.YtognmhgdegpdiaaGreat
open Go.RowKit
set_option linter.unusedVariables false
set_option linter.unusedSimpArgs false
set_option maxRecDepth 100000
def Ar.RB (s : Ar) (K : Int) : Prop := ∀ c, -1 ≤ s.f c 4 ∧ s.f c 4 ≤ K
theorem Ar.RB.get {s : Ar} {K : Int} (h : s.RB K) (hK : -1 ≤ K) (c : Int) : -1 ≤ s.get c 4 ∧ s.get c 4 ≤ K := by
  unfold Ar.get
  split
  · exact h c
  · omega
theorem Ar.RB.mono {s : Ar} {K K' : Int} (h : s.RB K) (hK : K ≤ K') : s.RB K' := fun c => by have := h c; omega
theorem Ar.RB.put {s : Ar} {K : Int} (h : s.RB K) (c k v : Int) (hk : k ≠ 4) : (s.put c k v).RB K := fun d => by
  unfold Ar.put
  split
  · by_cases hd : d = c
    · subst hd
      show -1 ≤ updI s.f d (updI (s.f d) k v) d 4 ∧ updI s.f d (updI (s.f d) k v) d 4 ≤ K
      rw [updI_same, updI_ne _ _ (Ne.symm hk)]
      exact h d
    · show -1 ≤ updI s.f c (updI (s.f c) k v) d 4 ∧ updI s.f c (updI (s.f c) k v) d 4 ≤ K
      rw [updI_ne _ _ hd]
      exact h d
  · exact h d
theorem Ar.RB.rank {s : Ar} {K : Int} (h : s.RB K) (c v : Int) (h1 : -1 ≤ v) (h2 : v ≤ K) : (s.put c 4 v).RB K := fun d => by
  unfold Ar.put
  split
  · by_cases hd : d = c
    · subst hd
      show -1 ≤ updI s.f d (updI (s.f d) 4 v) d 4 ∧ updI s.f d (updI (s.f d) 4 v) d 4 ≤ K
      rw [updI_same, updI_same]
      exact ⟨h1, h2⟩
    · show -1 ≤ updI s.f c (updI (s.f c) 4 v) d 4 ∧ updI s.f c (updI (s.f c) 4 v) d 4 ≤ K
      rw [updI_ne _ _ hd]
      exact h d
  · exact h d
def Ar.lrank (s : Ar) (n : Int) : Int := if n = -1 then 0 else s.get n 4
theorem Ar.RB.lrank {s : Ar} {K : Int} (h : s.RB K) (hK : 0 ≤ K) (c : Int) : -1 ≤ s.lrank c ∧ s.lrank c ≤ K := by
  unfold Ar.lrank
  split
  · omega
  · exact h.get (by omega) c
def Ar.lfix (s : Ar) (n : Int) : Bool × Ar :=
  if s.lrank (s.cell n 2) < s.lrank (s.cell n 3) then ((((s.put n 2 (s.cell n 3)).put n 3 (s.cell n 2)).get n 4 != s.lrank (s.cell n 2) + 1), ((s.put n 2 (s.cell n 3)).put n 3 (s.cell n 2)).put n 4 (s.lrank (s.cell n 2) + 1))
  else ((s.get n 4 != s.lrank (s.cell n 3) + 1), s.put n 4 (s.lrank (s.cell n 3) + 1))
theorem Ar.RB.fix {s : Ar} {K : Int} (h : s.RB K) (hK : 0 ≤ K) (n : Int) : (s.lfix n).2.RB (K + 1) := by
  unfold Ar.lfix
  have h1 := h.lrank hK (s.cell n 2)
  have h2 := h.lrank hK (s.cell n 3)
  split
  · exact ((h.put n 2 _ (by decide)).put n 3 _ (by decide)).mono (show K ≤ K + 1 by omega) |>.rank n _ (by omega) (by omega)
  · exact (h.mono (show K ≤ K + 1 by omega)).rank n _ (by omega) (by omega)
def Ar.lpath (s : Ar) : Nat → Int → Int → List Int × Int × Int
  | 0, r, q => ([], r, q)
  | f + 1, r, q => if r = -1 ∨ q = -1 then ([], r, q) else
    if s.nbefore q r then (q :: (s.lpath f (s.cell q 3) r).1, (s.lpath f (s.cell q 3) r).2) else (r :: (s.lpath f (s.cell r 3) q).1, (s.lpath f (s.cell r 3) q).2)
def Ar.lback (s : Ar) : List Int → Int → Ar × Int
  | [], top => (s, top)
  | x :: l, top => (((s.put x 3 top).put top 0 x).lfix x).2.lback l x
def Ar.lmeld (s : Ar) (r q : Int) : Ar × Int :=
  if r = q then (s, r) else
    let p := s.lpath (s.n + 1) r q
    let b := s.lback p.1.reverse (max p.2.1 p.2.2)
    (b.1.put b.2 0 (-1), b.2)
theorem Ar.lpath_le (s : Ar) : ∀ (f : Nat) (r q : Int), (s.lpath f r q).1.length ≤ f
  | 0, _, _ => by simp [Ar.lpath]
  | f + 1, r, q => by
    unfold Ar.lpath
    split
    · simp
    · split
      · have := Ar.lpath_le s f (s.cell q 3) r; simp; omega
      · have := Ar.lpath_le s f (s.cell r 3) q; simp; omega
theorem Ar.lpath_end (s : Ar) {a b : Int} (h : a = -1 ∨ b = -1) : ∀ f, s.lpath f a b = ([], a, b)
  | 0 => rfl
  | f + 1 => by rw [Ar.lpath, if_pos h]
theorem take_rev {α : Type} {l : List α} {m : Nat} {x : α} (h : l[m]? = some x) : (l.take (m + 1)).reverse = x :: (l.take m).reverse := by rw [List.take_add_one, h]; simp
theorem Ar.put_n (s : Ar) (c k v : Int) : (s.put c k v).n = s.n := by unfold Ar.put; split <;> rfl
theorem Ar.fix_n (s : Ar) (n : Int) : (s.lfix n).2.n = s.n := by unfold Ar.lfix; split <;> simp [Ar.put_n]
theorem tick_up {B : Nat} {w0 w : World} {C : List Ent} {vf : Value} {X : ArM} {s : Ar} {T t N : Nat} (h : Led B w0 w (X.es vf (s.tick T) ++ C)) (h1 : t ≤ T) (h2 : T ≤ t + N) : ∃ u, u ≤ N ∧ Led B w0 w (X.es vf (s.tick (t + u)) ++ C) :=
  ⟨T - t, by omega, by rw [show t + (T - t) = T by omega]; exact h⟩
section
variable {B : Nat} {w0 w : World} {C : List Ent} {vf : Value} (X : ArM) (s : Ar) (t : Nat)
theorem lf_rank (n : Int) (h : Led B w0 w (X.es vf (s.tick t) ++ C)) :
    Calls Tryz.prog 212 #[.pointer (some ⟨X.p, 0, none⟩), .int .i64 n] w fun e w' => ∃ u, u ≤ 1 ∧ e = .returned (.int .i64 (s.lrank n)) ∧ Led B w0 w' (X.es vf ((s).tick (t + u)) ++ C) := by
  have H := Lib.hid h
  clear h
  by_cases h1 : n = -1
  · subst h1
    refine callsR fun R hR => ?_
    go_enter Tryz.func212, Tryz.ntmps212
    go_wp2_with fail
    exact hR.out _ _ ⟨0, by omega, rfl, H.out⟩
  · have g1 : (n == -1) = false := by simpa using h1
    have hv : s.lrank n = s.get n 4 := by rw [Ar.lrank, if_neg h1]
    rw [hv]
    clear hv
    refine callsR fun R hR => ?_
    go_enter Tryz.func212, Tryz.ntmps212
    go_wp2_with (first | (go_at_call 110; refine Calls.mono (t_get _ _ _ _ _ (by decide) H.out) ?_; rintro e w' ⟨rfl, h'⟩; replace H := Lib.hid h'; clear h'))
    exact hR.out _ _ ⟨1, by omega, rfl, H.out⟩
theorem lf_fix (n K : Int) (hrb : s.RB K) (hK : 0 ≤ K ∧ K ≤ 100000000) (h : Led B w0 w (X.es vf (s.tick t) ++ C)) :
    Calls Tryz.prog 180 #[.pointer (some ⟨X.p, 0, none⟩), .int .i64 n] w fun e w' => ∃ u, u ≤ 8 ∧ e = .returned (.bool (s.lfix n).1) ∧ Led B w0 w' (X.es vf (((s.lfix n).2).tick (t + u)) ++ C) := by
  have H := Lib.hid h
  clear h
  have b2 := hrb.lrank hK.1 (s.cell n 2)
  have b3 := hrb.lrank hK.1 (s.cell n 3)
  clear hrb
  by_cases h1 : s.lrank (s.cell n 2) < s.lrank (s.cell n 3)
  · have g1 : decide (s.lrank (s.cell n 2) < s.lrank (s.cell n 3)) = true := by simpa using h1
    have hf : s.lfix n = ((((s.put n 2 (s.cell n 3)).put n 3 (s.cell n 2)).get n 4 != s.lrank (s.cell n 2) + 1), ((s.put n 2 (s.cell n 3)).put n 3 (s.cell n 2)).put n 4 (s.lrank (s.cell n 2) + 1)) := by unfold Ar.lfix; rw [if_pos h1]
    have hw : IntKind.i64.wrap (s.lrank (s.cell n 2) + 1) = s.lrank (s.cell n 2) + 1 := by rw [IntKind.wrap_i64]; omega
    clear h1 b2 b3
    refine callsR fun R hR => ?_
    go_enter Tryz.func180, Tryz.ntmps180
    go_wp2_with (first | (go_at_call 151; refine Calls.mono (t_cell _ _ _ _ _ (by decide) H.out) ?_; rintro e w' ⟨rfl, h'⟩; replace H := Lib.hid h'; clear h') | (go_at_call 212; refine Calls.mono (lf_rank _ _ _ _ H.out) ?_; rintro e w' ⟨u, hu, rfl, h'⟩; replace H := Lib.hid h'; clear h') | (go_at_call 89; refine Calls.mono (t_set _ _ _ _ _ _ (by decide) H.out) ?_; rintro e w' ⟨rfl, h'⟩; replace H := Lib.hid h'; clear h') | (go_at_call 110; refine Calls.mono (t_get _ _ _ _ _ (by decide) H.out) ?_; rintro e w' ⟨rfl, h'⟩; replace H := Lib.hid h'; clear h'))
    obtain ⟨u9, hu9, h9⟩ := tick_up (t := t) (N := 8) H.out (by omega) (by omega)
    exact hR.out _ _ ⟨u9, hu9, by rw [hf] <;> rfl, by rw [hf]; exact h9⟩
  · have g1 : decide (s.lrank (s.cell n 2) < s.lrank (s.cell n 3)) = false := by simpa using h1
    have hf : s.lfix n = ((s.get n 4 != s.lrank (s.cell n 3) + 1), s.put n 4 (s.lrank (s.cell n 3) + 1)) := by unfold Ar.lfix; rw [if_neg h1]
    have hw : IntKind.i64.wrap (s.lrank (s.cell n 3) + 1) = s.lrank (s.cell n 3) + 1 := by rw [IntKind.wrap_i64]; omega
    clear h1 b2 b3
    refine callsR fun R hR => ?_
    go_enter Tryz.func180, Tryz.ntmps180
    go_wp2_with (first | (go_at_call 151; refine Calls.mono (t_cell _ _ _ _ _ (by decide) H.out) ?_; rintro e w' ⟨rfl, h'⟩; replace H := Lib.hid h'; clear h') | (go_at_call 212; refine Calls.mono (lf_rank _ _ _ _ H.out) ?_; rintro e w' ⟨u, hu, rfl, h'⟩; replace H := Lib.hid h'; clear h') | (go_at_call 89; refine Calls.mono (t_set _ _ _ _ _ _ (by decide) H.out) ?_; rintro e w' ⟨rfl, h'⟩; replace H := Lib.hid h'; clear h') | (go_at_call 110; refine Calls.mono (t_get _ _ _ _ _ (by decide) H.out) ?_; rintro e w' ⟨rfl, h'⟩; replace H := Lib.hid h'; clear h'))
    obtain ⟨u9, hu9, h9⟩ := tick_up (t := t) (N := 8) H.out (by omega) (by omega)
    exact hR.out _ _ ⟨u9, hu9, by rw [hf] <;> rfl, by rw [hf]; exact h9⟩
set_option maxHeartbeats 8000000 in
theorem lf_meld (r q K : Int) (hrb : s.RB K) (hK : 0 ≤ K ∧ K ≤ 20000000) (hn : s.n ≤ 65536) (h : Led B w0 w (X.es vf (s.tick t) ++ C)) :
    Calls Tryz.prog 143 #[.pointer (some ⟨X.p, 0, none⟩), .int .i64 r, .int .i64 q] w fun e w' => ∃ u, u ≤ 17 * (s.lpath (s.n + 1) r q).1.length + 1 ∧ e = .returned (.int .i64 (s.lmeld r q).2) ∧ Led B w0 w' (X.es vf (((s.lmeld r q).1).tick (t + u)) ++ C) := by
  have HRB := Lib.hid hrb
  clear hrb
  by_cases h1 : r = q
  · have hv : s.lmeld r q = (s, r) := by unfold Ar.lmeld; rw [if_pos h1]
    have g1 : (r == q) = true := by simpa using h1
    clear h1
    have H := Lib.hid h
    clear h
    refine callsR fun R hR => ?_
    go_enter Tryz.func143, Tryz.ntmps143
    go_wp2_with fail
    exact hR.out _ _ ⟨0, by omega, by rw [hv] <;> rfl, by rw [hv]; exact H.out⟩
  · have hv : s.lmeld r q = (((s.lback (s.lpath (s.n + 1) r q).1.reverse (max (s.lpath (s.n + 1) r q).2.1 (s.lpath (s.n + 1) r q).2.2)).1.put (s.lback (s.lpath (s.n + 1) r q).1.reverse (max (s.lpath (s.n + 1) r q).2.1 (s.lpath (s.n + 1) r q).2.2)).2 0 (-1)), (s.lback (s.lpath (s.n + 1) r q).1.reverse (max (s.lpath (s.n + 1) r q).2.1 (s.lpath (s.n + 1) r q).2.2)).2) := by unfold Ar.lmeld; rw [if_neg h1]
    obtain ⟨P, hP⟩ : ∃ P, s.lpath (s.n + 1) r q = P := ⟨_, rfl⟩
    rw [hP] at hv
    rw [hv, hP]
    have HP := Lib.hid hP
    clear hP hv
    have g1 : (r == q) = false := by simpa using h1
    clear h1
    have H := Lib.hid (iT_new h)
    clear h
    refine callsR fun R hR => ?_
    go_enter Tryz.func143, Tryz.ntmps143
    go_upto_block 0 with fail
    go_cut [1, 2, 7] (fun x y v wx => ∃ (a b : Int), x = .int .i64 a ∧ y = .int .i64 b ∧ (a, b) = P.2 ∧ Hid (Led B w0 wx (X.es vf (s.tick (t + 7 * P.1.length)) ++ iT v P.1 :: C)))
    case first =>
      go_wp2_with fail
      go_loopw [1, 2, 7] (fun x y v wx => ∃ (L : List Int) (a b : Int), x = .int .i64 a ∧ y = .int .i64 b ∧ L.length ≤ s.n + 1 ∧ lenV v = L.length ∧ Hid ((L ++ (s.lpath (s.n + 1 - L.length) a b).1, (s.lpath (s.n + 1 - L.length) a b).2) = P) ∧ Hid (Led B w0 wx (X.es vf (s.tick (t + 7 * L.length)) ++ iT v L :: C))) (fun _ _ v _ => s.n + 1 - lenV v)
      case atStart => exact ⟨[], r, q, rfl, rfl, by simp, rfl, Lib.hid (by rw [← HP.out]; rfl), H⟩
      case round =>
        clear H
        obtain ⟨L, a, b, rfl, rfl, hL, hvl, HE, H⟩ := hrel
        have HT := Lib.hid (iT_tab H.out)
        obtain ⟨A, c, hv, _⟩ := iT_form HT.out
        subst hv
        have stop : (s.lpath (s.n + 1 - L.length) a b = ([], a, b)) → P = (L, a, b) := fun h => by have he := HE.out; rw [h] at he; rw [← he]; simp
        have HST := Lib.hid stop
        clear stop
        by_cases ha : a = -1
        · subst ha
          go_wp2_with fail
          go_meet
          case rel => obtain rfl := HST.out (Ar.lpath_end s (.inl rfl) _); exact ⟨_, _, rfl, rfl, rfl, H⟩
        · have gA : (a != -1) = true := by simpa using ha
          by_cases hb : b = -1
          · subst hb
            have HA := Lib.hid ha
            clear ha
            go_wp2_with fail
            go_meet
            case rel => obtain rfl := HST.out (Ar.lpath_end s (.inr rfl) _); exact ⟨_, _, rfl, rfl, rfl, H⟩
          · have gB : (b != -1) = true := by simpa using hb
            by_cases hlt : L.length ≤ s.n
            · have gC : decide ((L.length : Int) ≤ (s.n : Int)) = true := by simp; omega
              have hln : (iR L).length ≤ 1000000000 := by rw [iR_len]; omega
              have hstep : s.lpath (s.n + 1 - L.length) a b = if s.nbefore b a then (b :: (s.lpath (s.n - L.length) (s.cell b 3) a).1, (s.lpath (s.n - L.length) (s.cell b 3) a).2) else (a :: (s.lpath (s.n - L.length) (s.cell a 3) b).1, (s.lpath (s.n - L.length) (s.cell a 3) b).2) := by rw [show s.n + 1 - L.length = (s.n - L.length) + 1 by omega, Ar.lpath, if_neg (by omega)]
              have HSTEP := Lib.hid hstep
              clear hstep ha hb
              cases gD : s.nbefore b a with
              | true =>
                have he := HE.out
                rw [HSTEP.out, gD] at he
                simp only [if_true] at he
                rw [List.append_cons] at he
                rw [show s.n - L.length = s.n + 1 - (L ++ [b]).length by simp <;> omega] at he
                have HE2 := Lib.hid he
                clear he HE HSTEP HST
                go_wp2_with (first | (go_at_call 179; refine Calls.mono (t_cells _ _ _ H.out) ?_; rintro e w' ⟨rfl, rfl⟩) | (go_at_call 164; refine Calls.mono (node_before _ _ _ _ _ H.out) ?_; rintro e w' ⟨rfl, h'⟩; replace H := Lib.hid h'; clear h'; rw [gD]) | (at_builtin; refine wpList_push (by rfl) (.tmp 33) (.tmp 35) 45 (by rfl) 0 3 _ 1 8 Tryz.underlying45 info_int_ (by rfl) (by decide) (.slice A L.length c) (iR (L)) #[.int .i64 (b)] (by rfl) (iT_tab H.out) (by rfl) (by rfl) (by simp [Value.oneCell']) (hln) (by decide) (Nat.zero_le _) ?_; intro v' w' p1 p2 p3; obtain ⟨A', c', hv, _⟩ := p1.form; simp only [List.length_append, List.length_singleton, iR_len] at hv; subst hv; replace H := Lib.hid (iT_push H.out p1 p2 p3); clear p1 p2 p3) | (go_at_call 151; refine Calls.mono (t_cell _ _ _ _ _ (by decide) H.out) ?_; rintro e w' ⟨rfl, h'⟩; replace H := Lib.hid h'; clear h'))
                go_roundw
                case rel => exact ⟨L ++ [b], s.cell b 3, a, rfl, rfl, by simp; omega, by simp [lenV], HE2, Lib.hid (by have h9 := H.out; rw [show t + 7 * L.length + 6 + 1 = t + 7 * (L ++ [b]).length by simp; omega] at h9; exact h9)⟩
                case measure => simp [lenV]; omega
              | false =>
                have he := HE.out
                rw [HSTEP.out, gD] at he
                simp only [Bool.false_eq_true, if_false] at he
                rw [List.append_cons] at he
                rw [show s.n - L.length = s.n + 1 - (L ++ [a]).length by simp <;> omega] at he
                have HE2 := Lib.hid he
                clear he HE HSTEP HST
                go_wp2_with (first | (go_at_call 179; refine Calls.mono (t_cells _ _ _ H.out) ?_; rintro e w' ⟨rfl, rfl⟩) | (go_at_call 164; refine Calls.mono (node_before _ _ _ _ _ H.out) ?_; rintro e w' ⟨rfl, h'⟩; replace H := Lib.hid h'; clear h'; rw [gD]) | (at_builtin; refine wpList_push (by rfl) (.tmp 33) (.tmp 35) 45 (by rfl) 0 3 _ 1 8 Tryz.underlying45 info_int_ (by rfl) (by decide) (.slice A L.length c) (iR (L)) #[.int .i64 (a)] (by rfl) (iT_tab H.out) (by rfl) (by rfl) (by simp [Value.oneCell']) (hln) (by decide) (Nat.zero_le _) ?_; intro v' w' p1 p2 p3; obtain ⟨A', c', hv, _⟩ := p1.form; simp only [List.length_append, List.length_singleton, iR_len] at hv; subst hv; replace H := Lib.hid (iT_push H.out p1 p2 p3); clear p1 p2 p3) | (go_at_call 151; refine Calls.mono (t_cell _ _ _ _ _ (by decide) H.out) ?_; rintro e w' ⟨rfl, h'⟩; replace H := Lib.hid h'; clear h'))
                go_roundw
                case rel => exact ⟨L ++ [a], s.cell a 3, b, rfl, rfl, by simp; omega, by simp [lenV], HE2, Lib.hid (by have h9 := H.out; rw [show t + 7 * L.length + 6 + 1 = t + 7 * (L ++ [a]).length by simp; omega] at h9; exact h9)⟩
                case measure => simp [lenV]; omega
            · have gC : decide ((L.length : Int) ≤ (s.n : Int)) = false := by simp; omega
              have HA := Lib.hid ha
              clear ha hb
              go_wp2_with (first | (go_at_call 179; refine Calls.mono (t_cells _ _ _ H.out) ?_; rintro e w' ⟨rfl, rfl⟩))
              go_meet
              case rel => obtain rfl := HST.out (by rw [show s.n + 1 - L.length = 0 by omega]; rfl); exact ⟨_, _, rfl, rfl, rfl, H⟩
    case rest =>
      clear H
      obtain ⟨a, b, rfl, rfl, hab, H⟩ := hcut
      obtain ⟨L, p2⟩ := P
      subst hab
      obtain ⟨A, c, hv, hA⟩ := iT_form (iT_tab H.out)
      subst hv
      have hLn : L.length ≤ s.n + 1 := by have := Ar.lpath_le s (s.n + 1) r q; rw [HP.out] at this; exact this
      obtain ⟨N, hN⟩ : ∃ N, L.length = N := ⟨_, rfl⟩
      have hw : IntKind.i64.wrap ((L.length : Int) - 1) = (L.length : Int) - 1 := by rw [IntKind.wrap_i64]; omega
      have HN := Lib.hid hN
      clear hN
      go_wp2_with fail
      go_loopw [8, 9] (fun x y wx => ∃ (m : Nat) (sj : Ar) (tp : Int) (u : Nat), x = .int .i64 tp ∧ y = .int .i64 ((m : Int) - 1) ∧ m ≤ L.length ∧ Hid (sj.lback (L.take m).reverse tp = s.lback L.reverse (max a b)) ∧ Hid (sj.RB (K + ((L.length - m : Nat) : Int))) ∧ Hid (sj.n = s.n) ∧ u ≤ 10 * (L.length - m) ∧ Hid (Led B w0 wx (X.es vf (sj.tick (t + 7 * L.length + u)) ++ iT (.slice A L.length c) L :: C))) (fun _ y _ => (intOf y + 1).toNat)
      case atStart => exact ⟨L.length, s, max a b, 0, rfl, rfl, by omega, Lib.hid (by rw [List.take_of_length_le (by omega)]), Lib.hid (by rw [Nat.sub_self]; simpa using HRB.out), Lib.hid rfl, by omega, H⟩
      case round =>
        clear H
        obtain ⟨m, sj, tp, u, rfl, rfl, hm, HL, HB, HNN, hu, H⟩ := hrel
        rcases m with _ | m
        · have hl := HL.out
          simp only [List.take_zero, List.reverse_nil, Ar.lback] at hl
          have HL2 := Lib.hid hl
          clear hl HL HB
          go_wp2_with (first | (go_at_call 89; refine Calls.mono (t_set _ _ _ _ _ _ (by decide) H.out) ?_; rintro e w' ⟨rfl, h'⟩; replace H := Lib.hid h'; clear h'))
          replace H := Lib.hid (iT_drop H.out)
          obtain ⟨u9, hu9, h9⟩ := tick_up (t := t) (N := 17 * L.length + 1) H.out (by omega) (by omega)
          exact hR.out _ _ ⟨u9, hu9, by rw [← HL2.out] <;> rfl, by rw [← HL2.out]; exact h9⟩
        · obtain ⟨x, hx⟩ : ∃ x, L[m]? = some x := ⟨_, List.getElem?_eq_getElem (by omega)⟩
          obtain ⟨g, rfl⟩ := hA (by omega)
          have hl := HL.out
          rw [take_rev hx, Ar.lback] at hl
          have t1 := iT_get (iT_tab H.out) hx
          have HX := Lib.hid hx
          have HL2 := Lib.hid hl
          have HRB2 := Lib.hid ((HB.out.put x 3 tp (by decide)).put tp 0 x (by decide))
          have HK2 : 0 ≤ K + ((L.length - (m + 1) : Nat) : Int) ∧ K + ((L.length - (m + 1) : Nat) : Int) ≤ 100000000 := by omega
          have hlt : m < L.length := by omega
          clear hx hl HL HB hA
          go_wp2_with (first | (go_at_call 89; refine Calls.mono (t_set _ _ _ _ _ _ (by decide) H.out) ?_; rintro e w' ⟨rfl, h'⟩; replace H := Lib.hid h'; clear h'; have t1 := iT_get (iT_tab H.out) HX.out) | (go_at_call 180; refine Calls.mono (lf_fix _ _ _ _ _ HRB2.out HK2 H.out) ?_; rintro e w' ⟨u1, hu1, rfl, h'⟩; replace H := Lib.hid h'; clear h'))
          go_roundw
          case rel => exact ⟨m, _, x, u + 2 + u1, rfl, by go_num, by omega, HL2, Lib.hid (by have := HRB2.out.fix HK2.1 x; rw [show K + ((L.length - (m + 1) : Nat) : Int) + 1 = K + ((L.length - m : Nat) : Int) by omega] at this; exact this), Lib.hid (by rw [Ar.fix_n, Ar.put_n, Ar.put_n]; exact HNN.out), by omega, Lib.hid (by have := H.out; rw [show t + 7 * L.length + u + 1 + 1 + u1 = t + 7 * L.length + (u + 2 + u1) by omega] at this; exact this)⟩
          case measure => simp [intOf] <;> omega
end
end Go.Proofs.YtognmhgdegpdiaaGreat
end
section
/- Leftist heaps: Push, Min, Pop, Meld. -/
namespace Go.Proofs.YtognmhgdegpdiaaGreat
open Go.RowKit
set_option linter.unusedVariables false
set_option linter.unusedSimpArgs false
set_option maxRecDepth 100000
theorem Ar.Ok.fix {s : Ar} (h : s.Ok) (n : Int) : (s.lfix n).2.Ok := by unfold Ar.lfix; split <;> simp only <;> first | exact ((h.put _ _ _).put _ _ _).put _ _ _ | exact h.put _ _ _
theorem Ar.Ok.back {l : List Int} : ∀ {s : Ar} (h : s.Ok) (top : Int), (s.lback l top).1.Ok := by
  induction l with
  | nil => intro s h top; exact h
  | cons x l ih => intro s h top; exact ih (((h.put x 3 top).put top 0 x).fix x) x
theorem Ar.Ok.meld {s : Ar} (h : s.Ok) (r q : Int) : (s.lmeld r q).1.Ok := by
  unfold Ar.lmeld
  split
  · exact h
  · exact (Ar.Ok.back h _).put _ _ _
theorem Ar.take_n (s : Ar) : s.take.2.2.n = s.n := by
  rcases nil_or_snoc s.free with h0 | ⟨fs, c, hfc⟩
  · by_cases h2 : s.never < s.n
    · rw [Ar.take_new h0 h2]; rfl
    · rw [Ar.take_none h0 (by omega)]
  · rw [Ar.take_free hfc]; rfl
theorem Ar.setRow_rank {s : Ar} {K : Int} (h : s.RB K) (hK : 0 ≤ K) (c : Int) (b : Bool) : (s.setRow c freshF b).RB K := fun d => by
  show -1 ≤ updI s.f c freshF d 4 ∧ updI s.f c freshF d 4 ≤ K
  by_cases hd : d = c
  · subst hd; rw [updI_same]; exact ⟨by decide, hK⟩
  · rw [updI_ne _ _ hd]; exact h d
theorem Ar.RB.take {s : Ar} {K : Int} (h : s.RB K) (hK : 0 ≤ K) : s.take.2.2.RB K := by
  rcases nil_or_snoc s.free with h0 | ⟨fs, c, hfc⟩
  · by_cases h2 : s.never < s.n
    · rw [Ar.take_new h0 h2]; exact Ar.setRow_rank (s := { s with never := s.never + 1 }) h hK _ _
    · rw [Ar.take_none h0 (by omega)]; exact h
  · rw [Ar.take_free hfc]; exact Ar.setRow_rank (s := { s with free := fs }) h hK _ _
theorem Ar.RB.newNode {s : Ar} {K : Int} (h : s.RB K) (hK : 0 ≤ K) (i : Int) : (s.newNode i).RB K := ((h.take hK).put _ _ _ (by decide)).put _ _ _ (by decide)
theorem Ar.newNode_n (s : Ar) (i : Int) : (s.newNode i).n = s.n := by unfold Ar.newNode Ar.putItem; rw [Ar.put_n, Ar.put_n, Ar.take_n]
theorem Ar.Ok.newNode {s : Ar} (h : s.Ok) (i : Int) : (s.newNode i).Ok := (h.take.put _ _ _).put _ _ _
theorem Ar.Ok.endNode {s : Ar} (h : s.Ok) (n : Int) : (s.endNode n).Ok := (h.put _ _ _).give _
def Ar.plen (s : Ar) (r q : Int) : Nat := (s.lpath (s.n + 1) r q).1.length
def Ar.lkids (s : Ar) (n : Int) : Ar × Int := s.lmeld (s.cell n 2) (s.cell n 3)
def Ar.lpush (s : Ar) (r i : Int) : Ar × Int := ((s.newNode i).put s.take.1 4 1).lmeld r s.take.1
def Ar.lpop (s : Ar) (r : Int) : Ar × Int × Int := (((s.lkids r).1.put (s.lkids r).2 0 (-1)).endNode r, (s.lkids r).2, ((s.lkids r).1.put (s.lkids r).2 0 (-1)).cell r 6)
section
variable {B : Nat} {w0 w : World} {C : List Ent} {vf : Value} (X : ArM) (s : Ar) (t : Nat)
theorem lf_kids (n : Int) (K : Int) (hrb : s.RB K) (hK : 0 ≤ K ∧ K ≤ 10000000) (hn : s.n ≤ 65536) (h : Led B w0 w (X.es vf (s.tick t) ++ C)) :
    Calls Tryz.prog 154 #[.pointer (some ⟨X.p, 0, none⟩), .int .i64 n] w fun e w' => ∃ u, u ≤ 17 * s.plen (s.cell n 2) (s.cell n 3) + 3 ∧ e = .returned (.int .i64 (s.lkids n).2) ∧ Led B w0 w' (X.es vf (((s.lkids n).1).tick (t + u)) ++ C) := by
  have H := Lib.hid h
  clear h
  have HRB := Lib.hid hrb
  clear hrb
  refine callsR fun R hR => ?_
  go_enter Tryz.func154, Tryz.ntmps154
  go_wp2_with (first | (go_at_call 151; refine Calls.mono (t_cell _ _ _ _ _ (by decide) H.out) ?_; rintro e w' ⟨rfl, h'⟩; replace H := Lib.hid h'; clear h') | (go_at_call 143; refine Calls.mono (lf_meld _ _ _ _ _ K HRB.out (by omega) hn H.out) ?_; rintro e w' ⟨u, hu, rfl, h'⟩; replace H := Lib.hid h'; clear h'))
  unfold Ar.plen at *
  obtain ⟨u9, hu9, h9⟩ := tick_up (t := t) (N := (17 * (s.lpath (s.n + 1) (s.cell n 2) (s.cell n 3)).1.length + 3)) H.out (by omega) (by omega)
  exact hR.out _ _ ⟨u9, hu9, rfl, h9⟩
theorem lf_min (r : Int) (h : Led B w0 w (X.es vf (s.tick t) ++ C)) :
    Calls Tryz.prog 98 #[.pointer (some ⟨X.p, 0, none⟩), .int .i64 r] w fun e w' => e = .returned (.int .i64 (s.cell r 6)) ∧ Led B w0 w' (X.es vf (s.tick (t + 1)) ++ C) := by
  have H := Lib.hid h
  clear h
  refine callsR fun R hR => ?_
  go_enter Tryz.func98, Tryz.ntmps98
  go_wp2_with (first | (go_at_call 151; refine Calls.mono (t_cell _ _ _ _ _ (by decide) H.out) ?_; rintro e w' ⟨rfl, h'⟩; replace H := Lib.hid h'; clear h'))
  exact hR.out _ _ ⟨rfl, H.out⟩
theorem lf_push (r i : Int) (K : Int) (hrb : s.RB K) (hK : 0 ≤ K ∧ K ≤ 10000000) (hn : s.n ≤ 65536) (hok : s.Ok) (hr : s.take.2.1 = true) (h : Led B w0 w (X.es vf (s.tick t) ++ C)) :
    Calls Tryz.prog 90 #[.pointer (some ⟨X.p, 0, none⟩), .int .i64 r, .int .i64 i] w fun e w' => ∃ vf2 u, u ≤ 17 * ((s.newNode i).put s.take.1 4 1).plen r s.take.1 + 5 ∧ e = .returned (.tuple #[.int .i64 (s.lpush r i).2, .bool true]) ∧ Led B w0 w' (X.es vf2 (((s.lpush r i).1).tick (t + u)) ++ C) := by
  have H := Lib.hid h
  clear h
  have HOK := Lib.hid hok
  clear hok
  have HRB := Lib.hid ((hrb.mono (show K ≤ K + 1 by omega)).newNode (by omega) i |>.rank s.take.1 1 (by omega) (by omega))
  have HN : Hid (((s.newNode i).put s.take.1 4 1).n ≤ 65536) := Lib.hid (by rw [Ar.put_n, Ar.newNode_n]; exact hn)
  clear hrb
  refine callsR fun R hR => ?_
  go_enter Tryz.func90, Tryz.ntmps90
  go_wp2_with (first | (go_at_call 142; refine Calls.mono (node_new _ _ _ _ HOK.out hr H.out) ?_; rintro e w' ⟨vf1, rfl, h'⟩; replace H := Lib.hid h'; clear h') | (go_at_call 89; refine Calls.mono (t_set _ _ _ _ _ _ (by decide) H.out) ?_; rintro e w' ⟨rfl, h'⟩; replace H := Lib.hid h'; clear h') | (go_at_call 143; refine Calls.mono (lf_meld _ _ _ _ _ (K + 1) HRB.out (by omega) HN.out H.out) ?_; rintro e w' ⟨u, hu, rfl, h'⟩; replace H := Lib.hid h'; clear h'))
  obtain ⟨u9, hu9, h9⟩ := tick_up (t := t) (N := 17 * (((s.newNode i).put s.take.1 4 1).lpath (((s.newNode i).put s.take.1 4 1).n + 1) r s.take.1).1.length + 5) H.out (by omega) (by omega)
  exact hR.out _ _ ⟨_, u9, hu9, rfl, h9⟩
theorem lf_pop (r : Int) (K : Int) (hrb : s.RB K) (hK : 0 ≤ K ∧ K ≤ 10000000) (hn : s.n ≤ 65536) (hok : s.Ok) (hlv : s.has r = true) (h : Led B w0 w (X.es vf (s.tick t) ++ C)) :
    Calls Tryz.prog 103 #[.pointer (some ⟨X.p, 0, none⟩), .int .i64 r] w fun e w' => ∃ vf2 u, u ≤ 17 * s.plen (s.cell r 2) (s.cell r 3) + 7 ∧ e = .returned (.tuple #[.int .i64 (s.lpop r).2.1, .int .i64 (s.lpop r).2.2]) ∧ Led B w0 w' (X.es vf2 (((s.lpop r).1).tick (t + u)) ++ C) := by
  have H := Lib.hid h
  clear h
  have HRB := Lib.hid hrb
  clear hrb
  have HOK2 := Lib.hid ((hok.meld (s.cell r 2) (s.cell r 3)).put (s.lkids r).2 0 (-1))
  clear hok
  refine callsR fun R hR => ?_
  go_enter Tryz.func103, Tryz.ntmps103
  go_wp2_with (first | (go_at_call 153; refine Calls.mono (t_live _ _ _ _ H.out) ?_; rintro e w' ⟨rfl, rfl⟩; (try rw [hlv])) | (go_at_call 154; refine Calls.mono (lf_kids _ _ _ _ K HRB.out hK hn H.out) ?_; rintro e w' ⟨u, hu, rfl, h'⟩; replace H := Lib.hid h'; clear h') | (go_at_call 89; refine Calls.mono (t_set _ _ _ _ _ _ (by decide) H.out) ?_; rintro e w' ⟨rfl, h'⟩; replace H := Lib.hid h'; clear h') | (go_at_call 155; refine Calls.mono (node_end _ _ _ _ HOK2.out H.out) ?_; rintro e w' ⟨vf1, rfl, h'⟩; replace H := Lib.hid h'; clear h'))
  obtain ⟨u9, hu9, h9⟩ := tick_up (t := t) (N := 17 * s.plen (s.cell r 2) (s.cell r 3) + 7) H.out (by omega) (by omega)
  exact hR.out _ _ ⟨_, u9, hu9, rfl, h9⟩
end
end Go.Proofs.YtognmhgdegpdiaaGreat
end
section
/- Pairing heaps: what their inner functions do. -/
namespace Go.Proofs.YtognmhgdegpdiaaGreat
open Go.RowKit
set_option linter.unusedVariables false
set_option linter.unusedSimpArgs false
set_option maxRecDepth 100000
def Ar.punder (s : Ar) (n m : Int) : Ar := (if s.cell n 1 = -1 then (s.put m 0 n).put m 3 (s.cell n 1) else ((s.put m 0 n).put m 3 (s.cell n 1)).put (s.cell n 1) 2 m).put n 1 m
def Ar.plink (s : Ar) (n m : Int) : Ar × Int := if n = -1 then (s, m) else if m = -1 ∨ n = m then (s, n) else if s.nbefore m n then (s.punder m n, m) else (s.punder n m, n)
def Ar.proot (s : Ar) (n : Int) : Ar := ((s.put n 0 (-1)).put n 2 (-1)).put n 3 (-1)
def Ar.pkids (s : Ar) (n : Int) : List Int := s.rowL 3 s.n (s.cell n 1)
section
variable {B : Nat} {w0 w : World} {C : List Ent} {vf : Value} (X : ArM) (s : Ar) (t : Nat)
theorem pr_root (n : Int) (h : Led B w0 w (X.es vf (s.tick t) ++ C)) :
    Calls Tryz.prog 201 #[.pointer (some ⟨X.p, 0, none⟩), .int .i64 n] w fun e w' => e = .returned (.tuple #[]) ∧ Led B w0 w' (X.es vf ((s.proot n).tick (t + 3)) ++ C) := by
  have H := Lib.hid h
  clear h
  refine callsR fun R hR => ?_
  go_enter Tryz.func201, Tryz.ntmps201
  go_wp2_with (first | (go_at_call 89; refine Calls.mono (t_set _ _ _ _ _ _ (by decide) H.out) ?_; rintro e w' ⟨rfl, h'⟩; replace H := Lib.hid h'; clear h'))
  refine bodyPost_end (results_none rfl _ _ _) rfl (hR.out _ _ ⟨rfl, H.out⟩)
set_option maxHeartbeats 4000000 in
theorem pr_link (n m : Int) (h : Led B w0 w (X.es vf (s.tick t) ++ C)) :
    Calls Tryz.prog 150 #[.pointer (some ⟨X.p, 0, none⟩), .int .i64 n, .int .i64 m] w fun e w' => ∃ u, u ≤ 11 ∧ e = .returned (.int .i64 (s.plink n m).2) ∧ Led B w0 w' (X.es vf (((s.plink n m).1).tick (t + u)) ++ C) := by
  have H := Lib.hid h
  clear h
  by_cases h1 : n = -1
  · have hv : s.plink n m = (s, m) := by rw [Ar.plink, if_pos h1]
    subst h1
    refine callsR fun R hR => ?_
    go_enter Tryz.func150, Tryz.ntmps150
    go_wp2_with fail
    exact hR.out _ _ ⟨0, by omega, by rw [hv] <;> rfl, by rw [hv]; exact H.out⟩
  · have g1 : (n == -1) = false := by simpa using h1
    by_cases h2 : m = -1
    · have hv : s.plink n m = (s, n) := by rw [Ar.plink, if_neg h1, if_pos (.inl h2)]
      subst h2
      have H1 := Lib.hid h1
      clear h1
      refine callsR fun R hR => ?_
      go_enter Tryz.func150, Tryz.ntmps150
      go_wp2_with fail
      exact hR.out _ _ ⟨0, by omega, by rw [hv] <;> rfl, by rw [hv]; exact H.out⟩
    · have g2 : (m == -1) = false := by simpa using h2
      by_cases h3 : n = m
      · have hv : s.plink n m = (s, n) := by rw [Ar.plink, if_neg h1, if_pos (.inr h3)]
        have g3 : (n == m) = true := by simpa using h3
        clear h1 h2 h3
        refine callsR fun R hR => ?_
        go_enter Tryz.func150, Tryz.ntmps150
        go_wp2_with fail
        exact hR.out _ _ ⟨0, by omega, by rw [hv] <;> rfl, by rw [hv]; exact H.out⟩
      · have g3 : (n == m) = false := by simpa using h3
        have hv0 : s.plink n m = if s.nbefore m n then (s.punder m n, m) else (s.punder n m, n) := by rw [Ar.plink, if_neg h1, if_neg (by omega)]
        clear h1 h2 h3
        cases g4 : s.nbefore m n with
        | true =>
          rw [g4] at hv0
          by_cases h5 : s.cell m 1 = -1
          · have g5 : (s.cell m 1 != -1) = false := by simpa using h5
            have hv : s.plink n m = (((s.put n 0 m).put n 3 (s.cell m 1)).put m 1 n, m) := by rw [hv0]; simp only [if_true]; rw [Ar.punder, if_pos h5]
            clear hv0 h5
            refine callsR fun R hR => ?_
            go_enter Tryz.func150, Tryz.ntmps150
            go_wp2_with (first | (go_at_call 164; refine Calls.mono (node_before _ _ _ _ _ H.out) ?_; rintro e w' ⟨rfl, h'⟩; replace H := Lib.hid h'; clear h'; rw [g4]) | (go_at_call 151; refine Calls.mono (t_cell _ _ _ _ _ (by decide) H.out) ?_; rintro e w' ⟨rfl, h'⟩; replace H := Lib.hid h'; clear h') | (go_at_call 89; refine Calls.mono (t_set _ _ _ _ _ _ (by decide) H.out) ?_; rintro e w' ⟨rfl, h'⟩; replace H := Lib.hid h'; clear h'))
            obtain ⟨u9, hu9, h9⟩ := tick_up (t := t) (N := 11) H.out (by omega) (by omega)
            exact hR.out _ _ ⟨u9, hu9, by rw [hv] <;> rfl, by rw [hv]; exact h9⟩
          · have g5 : (s.cell m 1 != -1) = true := by simpa using h5
            have hv : s.plink n m = ((((s.put n 0 m).put n 3 (s.cell m 1)).put (s.cell m 1) 2 n).put m 1 n, m) := by rw [hv0]; simp only [if_true]; rw [Ar.punder, if_neg h5]
            clear hv0 h5
            refine callsR fun R hR => ?_
            go_enter Tryz.func150, Tryz.ntmps150
            go_wp2_with (first | (go_at_call 164; refine Calls.mono (node_before _ _ _ _ _ H.out) ?_; rintro e w' ⟨rfl, h'⟩; replace H := Lib.hid h'; clear h'; rw [g4]) | (go_at_call 151; refine Calls.mono (t_cell _ _ _ _ _ (by decide) H.out) ?_; rintro e w' ⟨rfl, h'⟩; replace H := Lib.hid h'; clear h') | (go_at_call 89; refine Calls.mono (t_set _ _ _ _ _ _ (by decide) H.out) ?_; rintro e w' ⟨rfl, h'⟩; replace H := Lib.hid h'; clear h'))
            obtain ⟨u9, hu9, h9⟩ := tick_up (t := t) (N := 11) H.out (by omega) (by omega)
            exact hR.out _ _ ⟨u9, hu9, by rw [hv] <;> rfl, by rw [hv]; exact h9⟩
        | false =>
          rw [g4] at hv0
          by_cases h5 : s.cell n 1 = -1
          · have g5 : (s.cell n 1 != -1) = false := by simpa using h5
            have hv : s.plink n m = (((s.put m 0 n).put m 3 (s.cell n 1)).put n 1 m, n) := by rw [hv0]; simp only [Bool.false_eq_true, if_false]; rw [Ar.punder, if_pos h5]
            clear hv0 h5
            refine callsR fun R hR => ?_
            go_enter Tryz.func150, Tryz.ntmps150
            go_wp2_with (first | (go_at_call 164; refine Calls.mono (node_before _ _ _ _ _ H.out) ?_; rintro e w' ⟨rfl, h'⟩; replace H := Lib.hid h'; clear h'; rw [g4]) | (go_at_call 151; refine Calls.mono (t_cell _ _ _ _ _ (by decide) H.out) ?_; rintro e w' ⟨rfl, h'⟩; replace H := Lib.hid h'; clear h') | (go_at_call 89; refine Calls.mono (t_set _ _ _ _ _ _ (by decide) H.out) ?_; rintro e w' ⟨rfl, h'⟩; replace H := Lib.hid h'; clear h'))
            obtain ⟨u9, hu9, h9⟩ := tick_up (t := t) (N := 11) H.out (by omega) (by omega)
            exact hR.out _ _ ⟨u9, hu9, by rw [hv] <;> rfl, by rw [hv]; exact h9⟩
          · have g5 : (s.cell n 1 != -1) = true := by simpa using h5
            have hv : s.plink n m = ((((s.put m 0 n).put m 3 (s.cell n 1)).put (s.cell n 1) 2 m).put n 1 m, n) := by rw [hv0]; simp only [Bool.false_eq_true, if_false]; rw [Ar.punder, if_neg h5]
            clear hv0 h5
            refine callsR fun R hR => ?_
            go_enter Tryz.func150, Tryz.ntmps150
            go_wp2_with (first | (go_at_call 164; refine Calls.mono (node_before _ _ _ _ _ H.out) ?_; rintro e w' ⟨rfl, h'⟩; replace H := Lib.hid h'; clear h'; rw [g4]) | (go_at_call 151; refine Calls.mono (t_cell _ _ _ _ _ (by decide) H.out) ?_; rintro e w' ⟨rfl, h'⟩; replace H := Lib.hid h'; clear h') | (go_at_call 89; refine Calls.mono (t_set _ _ _ _ _ _ (by decide) H.out) ?_; rintro e w' ⟨rfl, h'⟩; replace H := Lib.hid h'; clear h'))
            obtain ⟨u9, hu9, h9⟩ := tick_up (t := t) (N := 11) H.out (by omega) (by omega)
            exact hR.out _ _ ⟨u9, hu9, by rw [hv] <;> rfl, by rw [hv]; exact h9⟩
theorem pr_kids (n : Int) (hn : s.n ≤ 65536) (h : Led B w0 w (X.es vf (s.tick t) ++ C)) :
    Calls Tryz.prog 197 #[.pointer (some ⟨X.p, 0, none⟩), .int .i64 n] w fun e w' => ∃ v, e = .returned v ∧ Led B w0 w' (X.es vf (s.tick (t + (1 + (s.pkids n).length))) ++ iT v (s.pkids n) :: C) := by
  have H := Lib.hid h
  clear h
  refine callsR fun R hR => ?_
  go_enter Tryz.func197, Tryz.ntmps197
  go_wp2_with (first | (go_at_call 151; refine Calls.mono (t_cell _ _ _ _ _ (by decide) H.out) ?_; rintro e w' ⟨rfl, h'⟩; replace H := Lib.hid h'; clear h') | (go_at_call 186; refine Calls.mono (node_row _ _ _ _ _ (by decide) hn H.out) ?_; rintro e w' ⟨v, rfl, h'⟩; replace H := Lib.hid h'; clear h'))
  have hv : s.pkids n = s.rowL 3 s.n (s.cell n 1) := rfl
  exact hR.out _ _ ⟨v, rfl, by rw [hv, ← Nat.add_assoc]; exact H.out⟩
end
end Go.Proofs.YtognmhgdegpdiaaGreat
end
section
/- Pairing heaps: roots are paired. -/
namespace Go.Proofs.YtognmhgdegpdiaaGreat
open Go.RowKit
set_option linter.unusedVariables false
set_option linter.unusedSimpArgs false
set_option maxRecDepth 100000
def Ar.proots (s : Ar) (l : List Int) : Ar := l.foldl Ar.proot s
def Ar.ppairs : Ar → List Int → Ar × List Int
  | s, [] => (s, [])
  | s, [x] => (s, [x])
  | s, x :: y :: l => ((Ar.ppairs (s.plink x y).1 l).1, (s.plink x y).2 :: (Ar.ppairs (s.plink x y).1 l).2)
def Ar.pfold : Ar → List Int → Int → Ar × Int
  | s, [], top => (s, top)
  | s, x :: l, top => Ar.pfold (s.plink x top).1 l (s.plink x top).2
def Ar.paired (s : Ar) (l : List Int) : Ar × Int := Ar.pfold ((s.proots l).ppairs l).1 ((s.proots l).ppairs l).2.reverse (-1)
theorem Ar.ppairs_len : ∀ (s : Ar) (l : List Int), (s.ppairs l).2.length = (l.length + 1) / 2
  | s, [] => rfl
  | s, [x] => by simp [Ar.ppairs]
  | s, x :: y :: l => by have := Ar.ppairs_len (s.plink x y).1 l; simp [Ar.ppairs, this]; omega
section
variable {B : Nat} {w0 w : World} {C : List Ent} {vf : Value} (X : ArM) (s : Ar) (t : Nat)
set_option maxHeartbeats 16000000 in
theorem pr_paired (l : List Int) (vl : Value) (hl : l.length ≤ 1000000) (h : Led B w0 w (X.es vf (s.tick t) ++ iT vl l :: C)) :
    Calls Tryz.prog 198 #[.pointer (some ⟨X.p, 0, none⟩), vl] w fun e w' => ∃ u, u ≤ 3 * l.length + 22 * ((l.length + 1) / 2) ∧ e = .returned (.int .i64 (s.paired l).2) ∧ Led B w0 w' (X.es vf ((s.paired l).1.tick (t + u)) ++ C) := by
  have H := Lib.hid h
  clear h
  obtain ⟨A, c, hv, hA⟩ := iT_form (iT_tab H.out)
  subst hv
  obtain ⟨N, hN⟩ : ∃ N, l.length = N := ⟨_, rfl⟩
  obtain ⟨P, hP⟩ : ∃ P, (s.proots l).ppairs l = P := ⟨_, rfl⟩
  have hQ : P.2.length = (l.length + 1) / 2 := by rw [← hP]; exact Ar.ppairs_len _ _
  have hv : s.paired l = P.1.pfold P.2.reverse (-1) := by rw [Ar.paired, hP]
  rw [hv]
  rw [hN] at hl hA hQ H ⊢
  have HN := Lib.hid hN
  have HP := Lib.hid hP
  have HQ := Lib.hid hQ
  clear hN hP hv hQ
  refine callsR fun R hR => ?_
  go_enter Tryz.func198, Tryz.ntmps198
  go_upto_block 0 with fail
  go_cut [] (fun wx => Hid (Led B w0 wx (X.es vf ((s.proots l).tick (t + 3 * N)) ++ iT (.slice A N c) l :: C)))
  case first =>
    go_wp2_with fail
    go_loopw [13] (fun x wx => ∃ j : Nat, j ≤ N ∧ x = .int .i64 (j : Int) ∧ Hid (Led B w0 wx (X.es vf ((s.proots (l.take j)).tick (t + 3 * j)) ++ iT (.slice A N c) l :: C))) (fun x _ => N - (intOf x).toNat)
    case atStart => exact ⟨0, by omega, rfl, H⟩
    case round =>
      clear H
      obtain ⟨j, hj, rfl, H⟩ := hrel
      by_cases hlt : j < N
      · obtain ⟨x, hx⟩ : ∃ x, l[j]? = some x := ⟨_, List.getElem?_eq_getElem (by rw [HN.out]; exact hlt)⟩
        obtain ⟨g, rfl⟩ := hA (by omega)
        have t1 := iT_get (iT_tab H.out) hx
        have HX := Lib.hid hx
        clear hx hA
        go_wp2_with (first | (go_at_call 201; refine Calls.mono (pr_root _ _ _ _ H.out) ?_; rintro e w' ⟨rfl, h'⟩; replace H := Lib.hid h'; clear h'))
        go_roundw
        case rel => exact ⟨j + 1, by omega, by go_num, Lib.hid (by have := H.out; rw [Ar.proots, List.take_add_one, HX.out, List.foldl_append]; exact this)⟩
        case measure => simp [intOf] <;> omega
      · obtain rfl : j = N := by omega
        clear hA
        go_wp2_with fail
        go_meet
        case rel => exact Lib.hid (by have := H.out; rw [List.take_of_length_le (by rw [HN.out]; omega)] at this; exact this)
  case rest =>
    clear H
    have H := hcut
    clear hcut
    go_upto_block 2 with fail
    go_cut [7] (fun pv wx => ∃ u, u ≤ 11 * ((N + 1) / 2) ∧ Hid (Led B w0 wx (X.es vf (P.1.tick (t + 3 * N + u)) ++ iT pv P.2 :: iT (.slice A N c) l :: C)))
    case first =>
      have H := Lib.hid (iT_new H.out)
      go_wp2_with fail
      go_loopw [7, 8] (fun pv x wx => ∃ (j : Nat) (Q : List Int) (sj : Ar) (u : Nat), j ≤ N + 1 ∧ x = .int .i64 (j : Int) ∧ lenV pv = Q.length ∧ Q.length = (j + 1) / 2 ∧ j % 2 = 0 ∧ u ≤ 11 * (j / 2) ∧ Hid ((sj.ppairs (l.drop j)).1 = P.1 ∧ Q ++ (sj.ppairs (l.drop j)).2 = P.2) ∧ Hid (Led B w0 wx (X.es vf (sj.tick (t + 3 * N + u)) ++ iT pv Q :: iT (.slice A N c) l :: C))) (fun _ x _ => N + 1 - (intOf x).toNat)
      case atStart => exact ⟨0, [], s.proots l, 0, by omega, rfl, rfl, rfl, rfl, by omega, Lib.hid (by rw [List.drop_zero, HP.out]; exact ⟨rfl, rfl⟩), H⟩
      case round =>
        clear H
        obtain ⟨j, Q, sj, u, hj, rfl, hpv, hql, hj2, hu, HE, H⟩ := hrel
        obtain ⟨A2, c2, hv2, _⟩ := iT_form (iT_tab H.out)
        subst hv2
        have hln : (iR Q).length ≤ 1000000000 := by rw [iR_len]; omega
        have HQL := Lib.hid hql
        clear hql hpv
        by_cases hlt : j < N
        · obtain ⟨x, hx⟩ : ∃ x, l[j]? = some x := ⟨_, List.getElem?_eq_getElem (by rw [HN.out]; exact hlt)⟩
          obtain ⟨g, rfl⟩ := hA (by omega)
          have t1 := iT_get (iT_tab (A := X.es vf (sj.tick (t + 3 * N + u)) ++ [iT (.slice A2 Q.length c2) Q]) (by simpa using H.out)) hx
          by_cases hl2 : j + 1 < N
          · obtain ⟨y, hy⟩ : ∃ y, l[j + 1]? = some y := ⟨_, List.getElem?_eq_getElem (by rw [HN.out]; exact hl2)⟩
            have t2 := iT_get (iT_tab (A := X.es vf (sj.tick (t + 3 * N + u)) ++ [iT (.slice A2 Q.length c2) Q]) (by simpa using H.out)) hy
            have he := HE.out
            rw [List.drop_eq_getElem_cons (i := j) (by rw [HN.out]; exact hlt), List.drop_eq_getElem_cons (i := j + 1) (by rw [HN.out]; exact hl2), (List.getElem?_eq_some_iff.1 hx).2, (List.getElem?_eq_some_iff.1 hy).2, Ar.ppairs] at he
            simp only at he
            rw [List.append_cons] at he
            have HE2 := Lib.hid he
            have HX := Lib.hid hx
            have HY := Lib.hid hy
            clear he HE hx hy
            have KS : Hid (∀ W st T pv QQ, Led B w0 W (X.es vf (Ar.tick st T) ++ iT pv QQ :: iT (.slice (some ⟨g, 0, none⟩) N c) l :: C) → W.cell? ⟨g, j, none⟩ = some (.int .i64 x) ∧ W.cell? ⟨g, j + 1, none⟩ = some (.int .i64 y)) := Lib.hid fun W st T pv QQ hW => ⟨iT_get (iT_tab (A := X.es vf (Ar.tick st T) ++ [iT pv QQ]) (by simpa using hW)) HX.out, iT_get (iT_tab (A := X.es vf (Ar.tick st T) ++ [iT pv QQ]) (by simpa using hW)) HY.out⟩
            have g1 : decide ((j : Int) < (N : Int)) = true := by simp; omega
            have g2 : decide ((j : Int) + 1 < (N : Int)) = true := by simp; omega
            have hw : IntKind.i64.wrap ((j : Int) + 1) = (j : Int) + 1 := by rw [IntKind.wrap_i64]; omega
            have hw2 : IntKind.i64.wrap ((j : Int) + 2) = (j : Int) + 2 := by rw [IntKind.wrap_i64]; omega
            clear hA
            go_upto_region 11 with fail
            have k0 := KS.out _ _ _ _ _ H.out.drew
            have i1 : (0 : Int) ≤ (j : Int) + 1 := by omega
            have i2 : (j : Int) + 1 < (N : Int) := by omega
            have i3 : (j : Int) < (N : Int) := by omega
            have i4 : (0 : Int) ≤ (j : Int) := by omega
            go_region_held3 (fun wx => wx.cell? ⟨g, j, none⟩ = some (.int .i64 x) ∧ wx.cell? ⟨g, j + 1, none⟩ = some (.int .i64 y)) (first | with_reducible exact k0 | with_reducible exact k1 | with_reducible exact k2 | with_reducible exact k3) (first | (go_at_call 150; refine Calls.mono (pr_link _ _ _ _ _ H.out.drew) ?_; rintro e w' ⟨u1, hu1, rfl, h'⟩; replace H := Lib.hid h'; have k1 := KS.out _ _ _ _ _ h'; have k2 := KS.out _ _ _ _ _ (h'.alloc (.cells #[.int .i64 (sj.plink x y).2] 3)); clear h') | (refine step_push (o := ⟨some 45, _, _, _, _, _⟩) (by rfl) (.tmp 32) (.tmp 44) 45 (by rfl) 0 3 _ 1 8 Tryz.underlying45 info_int_ (by rfl) (by decide) (.slice A2 Q.length c2) (iR Q) #[.int .i64 (sj.plink x y).2] (by rfl) (iT_tab H.out) (by rfl) (by rfl) (by simp [Value.oneCell']) hln (by decide) (Nat.zero_le _) ?_; intro v' w' p1 p2 p3; obtain ⟨A', c', hv, _⟩ := p1.form; simp only [List.length_append, List.length_singleton, iR_len] at hv; subst hv; replace H := Lib.hid (iT_push H.out p1 p2 p3); have k3 := KS.out _ _ _ _ _ H.out; clear p1 p2 p3))
            go_wp2_with fail
            go_roundw
            case rel => exact ⟨j + 2, Q ++ [(sj.plink x y).2], (sj.plink x y).1, u + u1, by omega, by go_num, by simp [lenV], by have := HQL.out; simp; omega, by omega, by omega, HE2, Lib.hid (by have h9 := H.out; rw [show t + 3 * N + u + u1 = t + 3 * N + (u + u1) by omega] at h9; exact h9)⟩
            case measure => simp [intOf] <;> omega
          · have he := HE.out
            rw [List.drop_eq_getElem_cons (i := j) (by rw [HN.out]; exact hlt), (List.getElem?_eq_some_iff.1 hx).2, List.drop_of_length_le (by rw [HN.out]; omega), Ar.ppairs] at he
            simp only at he
            have HE2 := Lib.hid he
            clear he HE hx hA
            have g1 : decide ((j : Int) < (N : Int)) = true := by simp; omega
            have g2 : decide ((j : Int) + 1 < (N : Int)) = false := by simp; omega
            have hw : IntKind.i64.wrap ((j : Int) + 1) = (j : Int) + 1 := by rw [IntKind.wrap_i64]; omega
            have hw2 : IntKind.i64.wrap ((j : Int) + 2) = (j : Int) + 2 := by rw [IntKind.wrap_i64]; omega
            go_wp2_with (first | (at_builtin; refine wpList_push (by rfl) (.tmp 46) (.tmp 51) 45 (by rfl) 0 3 _ 1 8 Tryz.underlying45 info_int_ (by rfl) (by decide) (.slice A2 Q.length c2) (iR (Q)) #[.int .i64 (x)] (by rfl) (iT_tab H.out) (by rfl) (by rfl) (by simp [Value.oneCell']) (hln) (by decide) (Nat.zero_le _) ?_; intro v' w' p1 p2 p3; obtain ⟨A', c', hv, _⟩ := p1.form; simp only [List.length_append, List.length_singleton, iR_len] at hv; subst hv; replace H := Lib.hid (iT_push H.out p1 p2 p3); clear p1 p2 p3))
            go_roundw
            case rel => exact ⟨j + 2, Q ++ [x], sj, u, by omega, by go_num, by simp [lenV], by have := HQL.out; simp; omega, by omega, by omega, Lib.hid (by rw [List.drop_of_length_le (by rw [HN.out]; omega), Ar.ppairs]; simpa using HE2.out), H⟩
            case measure => simp [intOf] <;> omega
        · have he := HE.out
          rw [List.drop_of_length_le (by rw [HN.out]; omega), Ar.ppairs] at he
          simp only [List.append_nil] at he
          have HE2 := Lib.hid he
          have hnl : ¬ (j : Int) < (N : Int) := by omega
          have g1 : decide ((j : Int) < (N : Int)) = false := by simp; omega
          clear he HE hA
          go_wp2_with fail
          go_meet
          case rel => exact ⟨u, by omega, Lib.hid (by rw [← HE2.out.1, ← HE2.out.2]; exact H.out)⟩
    case rest =>
      clear H
      obtain ⟨u0, hu0, H⟩ := hcut
      obtain ⟨p1, Q⟩ := P
      simp only at H HQ ⊢
      obtain ⟨A2, c2, hv2, hA2⟩ := iT_form (iT_tab H.out)
      subst hv2
      obtain ⟨M, hM⟩ : ∃ M, Q.length = M := ⟨_, rfl⟩
      have hMN : M = (N + 1) / 2 := by rw [← hM]; exact HQ.out
      have hMs : M ≤ 1000000 := by omega
      have HMN := Lib.hid hMN
      rw [hM] at hA2 H ⊢
      have HM := Lib.hid hM
      clear hM hMN
      have hw : IntKind.i64.wrap ((M : Int) - 1) = (M : Int) - 1 := by rw [IntKind.wrap_i64]; omega
      go_wp2_with fail
      go_loopw [9, 10] (fun x y wx => ∃ (m : Nat) (sj : Ar) (tp : Int) (u : Nat), x = .int .i64 tp ∧ y = .int .i64 ((m : Int) - 1) ∧ m ≤ M ∧ Hid (sj.pfold (Q.take m).reverse tp = p1.pfold Q.reverse (-1)) ∧ u ≤ 11 * (M - m) ∧ Hid (Led B w0 wx (X.es vf (sj.tick (t + 3 * N + u0 + u)) ++ iT (.slice A2 M c2) Q :: iT (.slice A N c) l :: C))) (fun _ y _ => (intOf y + 1).toNat)
      case atStart => exact ⟨M, p1, -1, 0, rfl, rfl, by omega, Lib.hid (by rw [List.take_of_length_le (by rw [HM.out]; omega)]), by omega, H⟩
      case round =>
        clear H
        obtain ⟨m, sj, tp, uu, rfl, rfl, hm, HL, huu, H⟩ := hrel
        rcases m with _ | m
        · have hl3 := HL.out
          simp only [List.take_zero, List.reverse_nil, Ar.pfold] at hl3
          have HL2 := Lib.hid hl3
          clear hl3 HL
          go_wp2_with fail
          have h8 := H.out
          have h7 : Led B w0 wr (X.es vf (sj.tick (t + 3 * N + u0 + uu)) ++ C) := iT_drop (iT_drop h8)
          have hb := HMN.out
          obtain ⟨u9, hu9, h9⟩ := tick_up (t := t) (N := 3 * l.length + 22 * ((l.length + 1) / 2)) h7 (by omega) (by rw [HN.out]; omega)
          exact hR.out _ _ ⟨u9, by rw [← HN.out]; exact hu9, by rw [← HL2.out] <;> rfl, by rw [← HL2.out]; exact h9⟩
        · obtain ⟨x, hx⟩ : ∃ x, Q[m]? = some x := ⟨_, List.getElem?_eq_getElem (by rw [HM.out]; omega)⟩
          obtain ⟨g, rfl⟩ := hA2 (by omega)
          have hl3 := HL.out
          rw [take_rev hx, Ar.pfold] at hl3
          have t1 := iT_get (iT_tab H.out) hx
          have HL2 := Lib.hid hl3
          have hlt : m < M := by omega
          clear hx hl3 HL hA2 hA
          go_wp2_with (first | (go_at_call 150; refine Calls.mono (pr_link _ _ _ _ _ H.out) ?_; rintro e w' ⟨u, hu, rfl, h'⟩; replace H := Lib.hid h'; clear h'))
          go_roundw
          case rel => exact ⟨m, _, _, uu + u, rfl, by go_num, by omega, HL2, by omega, Lib.hid (by have h9 := H.out; rw [Nat.add_assoc (t + 3 * N + u0) uu u] at h9; exact h9)⟩
          case measure => simp [intOf] <;> omega
end
end Go.Proofs.YtognmhgdegpdiaaGreat
end
section
/- Pairing heaps: Push, Min, Pop, Meld. -/
namespace Go.Proofs.YtognmhgdegpdiaaGreat
open Go.RowKit
set_option linter.unusedVariables false
set_option linter.unusedSimpArgs false
set_option maxRecDepth 100000
def Ar.ppush (s : Ar) (r i : Int) : Ar × Int := (s.newNode i).plink r s.take.1
def Ar.ppop (s : Ar) (n : Int) : Ar × Int × Int := (((s.endNode n).paired (s.pkids n)).1, ((s.endNode n).paired (s.pkids n)).2, s.cell n 6)
section
variable {B : Nat} {w0 w : World} {C : List Ent} {vf : Value} (X : ArM) (s : Ar) (t : Nat)
theorem pr_pop (n : Int) (hn : s.n ≤ 65536) (hok : s.Ok) (h : Led B w0 w (X.es vf (s.tick t) ++ C)) :
    Calls Tryz.prog 159 #[.pointer (some ⟨X.p, 0, none⟩), .int .i64 n] w fun e w' => ∃ vf2 u, u ≤ 4 + 4 * (s.pkids n).length + 22 * (((s.pkids n).length + 1) / 2) ∧ e = .returned (.tuple #[.int .i64 (s.ppop n).2.1, .int .i64 (s.ppop n).2.2]) ∧ Led B w0 w' (X.es vf2 (((s.ppop n).1).tick (t + u)) ++ C) := by
  have hle : (s.pkids n).length ≤ 1000000 := by have := s.rowL_le 3 s.n (s.cell n 1); rw [Ar.pkids]; omega
  have H := Lib.hid h
  clear h
  have HOK := Lib.hid hok
  clear hok
  refine callsR fun R hR => ?_
  go_enter Tryz.func159, Tryz.ntmps159
  go_wp2_with (first | (go_at_call 197; refine Calls.mono (pr_kids _ _ _ _ hn H.out) ?_; rintro e w' ⟨v, rfl, h'⟩; replace H := Lib.hid h'; obtain ⟨A, c, hv, _⟩ := iT_form (iT_tab h'); subst hv; clear h') | (go_at_call 155; refine Calls.mono (node_end _ _ _ _ HOK.out H.out) ?_; rintro e w' ⟨vf1, rfl, h'⟩; replace H := Lib.hid h'; clear h') | (go_at_call 198; refine Calls.mono (pr_paired _ _ _ _ _ hle H.out) ?_; rintro e w' ⟨u, hu, rfl, h'⟩; replace H := Lib.hid h'; clear h'))
  obtain ⟨u9, hu9, h9⟩ := tick_up (t := t) (N := 4 + 4 * (s.pkids n).length + 22 * (((s.pkids n).length + 1) / 2)) H.out (by omega) (by omega)
  exact hR.out _ _ ⟨_, u9, hu9, rfl, h9⟩
theorem pr_min (r : Int) (h : Led B w0 w (X.es vf (s.tick t) ++ C)) :
    Calls Tryz.prog 102 #[.pointer (some ⟨X.p, 0, none⟩), .int .i64 r] w fun e w' => e = .returned (.int .i64 (s.cell r 6)) ∧ Led B w0 w' (X.es vf (s.tick (t + 1)) ++ C) := by
  have H := Lib.hid h
  clear h
  refine callsR fun R hR => ?_
  go_enter Tryz.func102, Tryz.ntmps102
  go_wp2_with (first | (go_at_call 151; refine Calls.mono (t_cell _ _ _ _ _ (by decide) H.out) ?_; rintro e w' ⟨rfl, h'⟩; replace H := Lib.hid h'; clear h'))
  exact hR.out _ _ ⟨rfl, H.out⟩
theorem pr_push (r i : Int) (hok : s.Ok) (hr : s.take.2.1 = true) (h : Led B w0 w (X.es vf (s.tick t) ++ C)) :
    Calls Tryz.prog 94 #[.pointer (some ⟨X.p, 0, none⟩), .int .i64 r, .int .i64 i] w fun e w' => ∃ vf2 u, u ≤ 14 ∧ e = .returned (.tuple #[.int .i64 (s.ppush r i).2, .bool true]) ∧ Led B w0 w' (X.es vf2 (((s.ppush r i).1).tick (t + u)) ++ C) := by
  have H := Lib.hid h
  clear h
  have HOK := Lib.hid hok
  clear hok
  refine callsR fun R hR => ?_
  go_enter Tryz.func94, Tryz.ntmps94
  go_wp2_with (first | (go_at_call 142; refine Calls.mono (node_new _ _ _ _ HOK.out hr H.out) ?_; rintro e w' ⟨vf1, rfl, h'⟩; replace H := Lib.hid h'; clear h') | (go_at_call 150; refine Calls.mono (pr_link _ _ _ _ _ H.out) ?_; rintro e w' ⟨u, hu, rfl, h'⟩; replace H := Lib.hid h'; clear h'))
  obtain ⟨u9, hu9, h9⟩ := tick_up (t := t) (N := 14) H.out (by omega) (by omega)
  exact hR.out _ _ ⟨_, u9, hu9, rfl, h9⟩
theorem pr_Pop (n : Int) (hn : s.n ≤ 65536) (hok : s.Ok) (hlv : s.has n = true) (h : Led B w0 w (X.es vf (s.tick t) ++ C)) :
    Calls Tryz.prog 107 #[.pointer (some ⟨X.p, 0, none⟩), .int .i64 n] w fun e w' => ∃ vf2 u, u ≤ 4 + 4 * (s.pkids n).length + 22 * (((s.pkids n).length + 1) / 2) ∧ e = .returned (.tuple #[.int .i64 (s.ppop n).2.1, .int .i64 (s.ppop n).2.2]) ∧ Led B w0 w' (X.es vf2 (((s.ppop n).1).tick (t + u)) ++ C) := by
  have H := Lib.hid h
  clear h
  have HOK := Lib.hid hok
  clear hok
  refine callsR fun R hR => ?_
  go_enter Tryz.func107, Tryz.ntmps107
  go_wp2_with (first | (go_at_call 153; refine Calls.mono (t_live _ _ _ _ H.out) ?_; rintro e w' ⟨rfl, rfl⟩; (try rw [hlv])) | (go_at_call 159; refine Calls.mono (pr_pop _ _ _ _ hn HOK.out H.out) ?_; rintro e w' ⟨vf2, u, hu, rfl, h'⟩; replace H := Lib.hid h'; clear h'))
  exact hR.out _ _ ⟨_, u, hu, rfl, H.out⟩
end
end Go.Proofs.YtognmhgdegpdiaaGreat
end
