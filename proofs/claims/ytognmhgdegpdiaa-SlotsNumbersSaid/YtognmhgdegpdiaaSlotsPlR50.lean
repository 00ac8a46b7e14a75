import Derived.Test.YtognmhgdegpdiaaSlotsPlR
/- Handles against plain pools: two appends in one region. -/
namespace Go.Proofs.Ytognmhgdegpdiaa
open Go.RowKit
set_option linter.unusedVariables false
set_option linter.unusedSimpArgs false
set_option maxRecDepth 100000

def ents50 (X : PM) (cc aa : Int) (U0 U1 : Value) (OTH : List Ent) (env : List (Option Value)) : List Ent :=
  blkE X.m 75 #[.pointer (some ⟨X.mh, 0, none⟩), .pointer (some ⟨X.mi, 0, none⟩), X.vk, X.vr, X.vn, X.vf, U0, U1] :: pureE (∀ v, (env.getD 0 none) = some v → v = U0) :: pureE (∀ v, (env.getD 3 none) = some v → v = U1) :: tabO2 3 1 U0 (intRows X.cl) [.int .i64 cc] (env.getD 2 none) :: (pendO 3 #[.int .i64 cc] (env.getD 1 none) (env.getD 2 none) ++ tabO2 3 1 U1 (intRows X.inn) [.int .i64 aa] (env.getD 5 none) :: (pendO 3 #[.int .i64 aa] (env.getD 4 none) (env.getD 5 none) ++ OTH))
set_option maxHeartbeats 16000000 in
theorem pl_r50 (B : Nat) (X : PM) (cc aa : Int) (w0 w : World) (C : List Ent) (a : Act) (Q : Exit → Act → World → Prop) (hsz : a.tmps.size = 497) (hde : a.defers = []) (v6 : Sl a 6 (.pointer (some ⟨X.m, 0, none⟩))) (v14 : Sl a 14 (.int .i64 aa)) (v25 : Sl a 25 (.int .i64 cc))
    (hlen : X.cl.length ≤ 1000000 ∧ X.inn.length ≤ 1000000)
    (hl : Led B w0 w (X.mem ++ C)) (hP : ∀ c (a : Act) d v w, Q (.panic c) (a.put d v) w → Q (.panic c) a w) (hQ : ∀ (n0 n1 : Value) (a2 : Act) (w2 : World), a2.tmps.size = 497 → a2.defers = [] → (a2.tmps.getD 1 undef = a.tmps.getD 1 undef ∧ a2.tmps.getD 5 undef = a.tmps.getD 5 undef ∧ a2.tmps.getD 6 undef = a.tmps.getD 6 undef ∧ a2.tmps.getD 7 undef = a.tmps.getD 7 undef ∧ a2.tmps.getD 8 undef = a.tmps.getD 8 undef ∧ a2.tmps.getD 9 undef = a.tmps.getD 9 undef ∧ a2.tmps.getD 10 undef = a.tmps.getD 10 undef ∧ a2.tmps.getD 11 undef = a.tmps.getD 11 undef ∧ a2.tmps.getD 12 undef = a.tmps.getD 12 undef ∧ a2.tmps.getD 13 undef = a.tmps.getD 13 undef ∧ a2.tmps.getD 14 undef = a.tmps.getD 14 undef ∧ a2.tmps.getD 20 undef = a.tmps.getD 20 undef ∧ a2.tmps.getD 21 undef = a.tmps.getD 21 undef ∧ a2.tmps.getD 25 undef = a.tmps.getD 25 undef ∧ a2.tmps.getD 26 undef = a.tmps.getD 26 undef) → Led B w0 w2 ({ X with vc := n0, vi := n1, cl := X.cl ++ [cc], inn := X.inn ++ [aa] }.mem ++ C) → Q .normal a2 w2) :
    PlayWp (p2 ++ [0, 1, 1, 1, 0, 1, 1, 1, 1, 1, 1, 1, 1, 1, 1, 0]) Q a w := by
  have HQ := Lib.hid hQ
  have HP := Lib.hid hP
  clear hQ hP
  obtain ⟨ln0, ln1⟩ := hlen
  obtain ⟨OTH, hOTH⟩ : ∃ O : List Ent, [tabE 3 1 X.vk (intRows X.kd), tabE 3 1 X.vr (intRows X.rt), tabE 3 1 X.vn (intRows X.nn), tabE 27 2 X.vf (rowsR X.rf)] ++ (X.I ++ (X.H ++ (X.S ++ C))) = O := ⟨_, rfl⟩
  have hl1 : Led B w0 w (X.D ++ (X.I ++ (X.H ++ (X.S ++ C)))) := PM.toD.1 hl
  have hl2 : Led B w0 w (blkE X.m 75 #[.pointer (some ⟨X.mh, 0, none⟩), .pointer (some ⟨X.mi, 0, none⟩), X.vk, X.vr, X.vn, X.vf, X.vc, X.vi] :: tabE 3 1 X.vc (intRows X.cl) :: tabE 3 1 X.vi (intRows X.inn) :: ([tabE 3 1 X.vk (intRows X.kd), tabE 3 1 X.vr (intRows X.rt), tabE 3 1 X.vn (intRows X.nn), tabE 27 2 X.vf (rowsR X.rf)] ++ (X.I ++ (X.H ++ (X.S ++ C))))) := hl1.perm (perm50 _ _ _ _ _ _ _ _)
  have hr0 : (intRows (X.cl ++ [cc])) = (intRows X.cl) ++ [[.int .i64 cc]] := by simp [intRows, rowsR]
  have hr1 : (intRows (X.inn ++ [aa])) = (intRows X.inn) ++ [[.int .i64 aa]] := by simp [intRows, rowsR]
  have HBACK : Hid (∀ (n0 n1 : Value) W, Led B w0 W (blkE X.m 75 #[.pointer (some ⟨X.mh, 0, none⟩), .pointer (some ⟨X.mi, 0, none⟩), X.vk, X.vr, X.vn, X.vf, n0, n1] :: tabE 3 1 n0 ((intRows X.cl) ++ [[.int .i64 cc]]) :: tabE 3 1 n1 ((intRows X.inn) ++ [[.int .i64 aa]]) :: OTH) → Led B w0 W ({ X with vc := n0, vi := n1, cl := X.cl ++ [cc], inn := X.inn ++ [aa] }.mem ++ C)) := Lib.hid fun n0 n1 W h => by
    rw [← hOTH, ← hr0, ← hr1] at h
    exact PM.toD.2 (h.perm (perm50 _ _ _ _ _ _ _ _).symm)
  obtain ⟨U0, hU0⟩ : ∃ u, X.vc = u := ⟨_, rfl⟩
  obtain ⟨U1, hU1⟩ : ∃ u, X.vi = u := ⟨_, rfl⟩
  rw [hOTH, hU0, hU1] at hl2
  have HB : Hid (Led B w0 w (ents50 X cc aa U0 U1 OTH [none, none, none, none, none, none])) := Lib.hid (ins_pure _ (fun v hv => by cases hv) (ins_pure _ (fun v hv => by cases hv) (hl2)))
  clear hl hl1 hl2 hU0 hU1 hOTH
  obtain ⟨fs, hfs, rfl⟩ := frame_open a hsz hde
  clear hsz hde
  replace v6 := hfs _ _ v6
  replace v14 := hfs _ _ v14
  replace v25 := hfs _ _ v25
  clear hfs
  simp only [v6, v14, v25] at HQ ⊢
  clear v6 v14 v25
  unfold PlayWp
  conv => arg 2; whnf
  refine wp_region_held_drew (S := (fun _ => True)) (by as_aux_lemma => kernel_rfl) ?_ (fun hHeld => ?_)
  · trivial
  refine wpAnyH_read (i := 0) (d := 297) (v := ?_) rfl rfl rfl (by as_aux_lemma => kernel_rfl) (by as_aux_lemma => kernel_rfl) (by as_aux_lemma => kernel_rfl) (fun c a w h => HP.out c a _ _ w h) hHeld ?_ ?_
  rotate_left
  · intro w hSw
    (try dsimp only at hSw)
    go_simp
    (try with_reducible rfl)
  (try simp only [List.setIfInBounds_toArray, List.set_cons_zero, List.set_cons_succ])
  refine wpAnyH_read (i := 1) (d := 298) (v := ?_) rfl rfl rfl (by as_aux_lemma => kernel_rfl) (by as_aux_lemma => kernel_rfl) (by as_aux_lemma => kernel_rfl) (fun c a w h => HP.out c a _ _ w h) hHeld ?_ ?_
  rotate_left
  · intro w hSw
    (try dsimp only at hSw)
    go_simp
    (try with_reducible rfl)
  (try simp only [List.setIfInBounds_toArray, List.set_cons_zero, List.set_cons_succ])
  refine wpAnyH_read (i := 2) (d := 299) (v := ?_) rfl rfl rfl (by as_aux_lemma => kernel_rfl) (by as_aux_lemma => kernel_rfl) (by as_aux_lemma => kernel_rfl) (fun c a w h => HP.out c a _ _ w h) hHeld ?_ ?_
  rotate_left
  · intro w hSw
    (try dsimp only at hSw)
    go_simp
    (try with_reducible rfl)
  (try simp only [List.setIfInBounds_toArray, List.set_cons_zero, List.set_cons_succ])
  refine wpAnyH_read (i := 3) (d := 300) (v := ?_) rfl rfl rfl (by as_aux_lemma => kernel_rfl) (by as_aux_lemma => kernel_rfl) (by as_aux_lemma => kernel_rfl) (fun c a w h => HP.out c a _ _ w h) hHeld ?_ ?_
  rotate_left
  · intro w hSw
    (try dsimp only at hSw)
    go_simp
    (try with_reducible rfl)
  (try simp only [List.setIfInBounds_toArray, List.set_cons_zero, List.set_cons_succ])
  refine wpAnyH_read (i := 4) (d := 301) (v := ?_) rfl rfl rfl (by as_aux_lemma => kernel_rfl) (by as_aux_lemma => kernel_rfl) (by as_aux_lemma => kernel_rfl) (fun c a w h => HP.out c a _ _ w h) hHeld ?_ ?_
  rotate_left
  · intro w hSw
    (try dsimp only at hSw)
    go_simp
    (try with_reducible rfl)
  (try simp only [List.setIfInBounds_toArray, List.set_cons_zero, List.set_cons_succ])
  refine wpAnyH_read (i := 6) (d := 303) (v := ?_) rfl rfl rfl (by as_aux_lemma => kernel_rfl) (by as_aux_lemma => kernel_rfl) (by as_aux_lemma => kernel_rfl) (fun c a w h => HP.out c a _ _ w h) hHeld ?_ ?_
  rotate_left
  · intro w hSw
    (try dsimp only at hSw)
    go_simp
    (try with_reducible rfl)
  (try simp only [List.setIfInBounds_toArray, List.set_cons_zero, List.set_cons_succ])
  refine wpAnyH_read (i := 9) (d := 306) (v := ?_) rfl rfl rfl (by as_aux_lemma => kernel_rfl) (by as_aux_lemma => kernel_rfl) (by as_aux_lemma => kernel_rfl) (fun c a w h => HP.out c a _ _ w h) hHeld ?_ ?_
  rotate_left
  · intro w hSw
    (try dsimp only at hSw)
    go_simp
    (try with_reducible rfl)
  (try simp only [List.setIfInBounds_toArray, List.set_cons_zero, List.set_cons_succ])
  refine wpAnyH_read (i := 10) (d := 307) (v := ?_) rfl rfl rfl (by as_aux_lemma => kernel_rfl) (by as_aux_lemma => kernel_rfl) (by as_aux_lemma => kernel_rfl) (fun c a w h => HP.out c a _ _ w h) hHeld ?_ ?_
  rotate_left
  · intro w hSw
    (try dsimp only at hSw)
    go_simp
    (try with_reducible rfl)
  (try simp only [List.setIfInBounds_toArray, List.set_cons_zero, List.set_cons_succ])
  refine wpAnyH_read (i := 11) (d := 308) (v := ?_) rfl rfl rfl (by as_aux_lemma => kernel_rfl) (by as_aux_lemma => kernel_rfl) (by as_aux_lemma => kernel_rfl) (fun c a w h => HP.out c a _ _ w h) hHeld ?_ ?_
  rotate_left
  · intro w hSw
    (try dsimp only at hSw)
    go_simp
    (try with_reducible rfl)
  (try simp only [List.setIfInBounds_toArray, List.set_cons_zero, List.set_cons_succ])
  refine wpAnyH_read (i := 13) (d := 310) (v := ?_) rfl rfl rfl (by as_aux_lemma => kernel_rfl) (by as_aux_lemma => kernel_rfl) (by as_aux_lemma => kernel_rfl) (fun c a w h => HP.out c a _ _ w h) hHeld ?_ ?_
  rotate_left
  · intro w hSw
    (try dsimp only at hSw)
    go_simp
    (try with_reducible rfl)
  (try simp only [List.setIfInBounds_toArray, List.set_cons_zero, List.set_cons_succ])
  refine wpAnyH_effects0 (B := B) (w0 := w0) (F := 6) [⟨5, 302⟩, ⟨7, 304⟩, ⟨8, 305⟩, ⟨12, 309⟩, ⟨14, 311⟩, ⟨15, 312⟩] [[], [], [0, 1], [], [], [3, 4, 2]] (ents50 X cc aa U0 U1 OTH) (by as_aux_lemma => kernel_rfl) HB.out.drew (by decide) (by simp) ?hlaw (fun _ _ _ _ => trivial) ?hfin
  case hlaw =>
   as_aux_lemma =>
    intro j e he
    unfold EffLaw
    intro env a wa K hlen hj hdep hcl hev hst hl hK
    rcases env with _ | ⟨e0, _ | ⟨e1, _ | ⟨e2, _ | ⟨e3, _ | ⟨e4, _ | ⟨e5, _ | ⟨e6, env⟩⟩⟩⟩⟩⟩⟩
    any_goals (simp at hlen; done)
    have hm : Blk wa X.m 75 #[.pointer (some ⟨X.mh, 0, none⟩), .pointer (some ⟨X.mi, 0, none⟩), X.vk, X.vr, X.vn, X.vf, U0, U1] := hl.at_ 0 rfl
    have c0 : e1 = none → e2 = none := fun h1 => by
      cases e2 with
      | none => rfl
      | some v => obtain ⟨u, hu⟩ := hcl 2 1 (by simp) ⟨v, rfl⟩; rw [h1] at hu; simp at hu
    have c1 : e4 = none → e5 = none := fun h1 => by
      cases e5 with
      | none => rfl
      | some v => obtain ⟨u, hu⟩ := hcl 5 4 (by simp) ⟨v, rfl⟩; rw [h1] at hu; simp at hu
    rcases j with _ | _ | _ | _ | _ | _ | j
    · simp at he hj
      subst he hj
      have h24 : a.eval (.tmp 301) = .pointer (some ⟨X.m, 6, none⟩) := (hst (.tmp 301) (by simp)).trans (by kernel_rfl)
      have d4 := hm.cell 6
      simp only [List.getElem?_toArray, List.getElem?_cons_zero, List.getElem?_cons_succ] at d4
      have h24' : a.tmps[301]?.getD undef = .pointer (some ⟨X.m, 6, none⟩) := by simpa [Act.eval] using h24
      refine wpOp_load (v := U0) rfl rfl rfl (by simp [execOp, h24', go_sem, d4]) (hK U0 wa ?_)
      exact Led.pure_ (es := [blkE X.m 75 #[.pointer (some ⟨X.mh, 0, none⟩), .pointer (some ⟨X.mi, 0, none⟩), X.vk, X.vr, X.vn, X.vf, U0, U1]]) (fs := _) hl (fun v hv => by injection hv with hv; exact hv.symm)
    · simp at he hj
      subst he hj
      obtain rfl := c0 rfl
      have hl2 : Led B w0 wa ([blkE X.m 75 #[.pointer (some ⟨X.mh, 0, none⟩), .pointer (some ⟨X.mi, 0, none⟩), X.vk, X.vr, X.vn, X.vf, U0, U1], pureE (∀ v, e0 = some v → v = U0), pureE (∀ v, e3 = some v → v = U1), tabO2 3 1 U0 (intRows X.cl) [.int .i64 cc] none] ++ (tabO2 3 1 U1 (intRows X.inn) [.int .i64 aa] e5 :: (pendO 3 #[.int .i64 aa] e4 e5 ++ OTH))) := by simpa [ents50, pendO] using hl
      refine wpOp_build ⟨7, 8, 304, 305, 22, 3, 1, 8, .int .i64 0, .tmp 302, .tmp 303, U0, [], #[.int .i64 cc], .int .i64 cc⟩ rfl rfl rfl rfl Try.underlying22 info_int_ (show 0 < 1 by decide) (show 1 ≤ 1000 by decide) (by rw [show a.eval (.tmp 303) = .int .i64 cc from (hst (.tmp 303) (by simp)).trans (by kernel_rfl)]; exact fill_1 _ _ rfl) hl2 (fun g' w' hw' => hK _ _ ?_)
      simpa [ents50, pendO] using hw'
    · simp at he hj
      subst he hj
      obtain ⟨u, hu⟩ := hdep 0 (by simp)
      obtain ⟨vb, hvb⟩ := hdep 1 (by simp)
      simp at hu hvb
      subst hu hvb
      obtain rfl : u = U0 := (show ∀ v, some u = some v → v = U0 from hl.at_ 1 rfl) u rfl
      rcases pendO_form 3 #[.int .i64 cc] vb with ⟨g', rfl⟩ | hbad
      · exact wpOp_append (es := [blkE X.m 75 #[.pointer (some ⟨X.mh, 0, none⟩), .pointer (some ⟨X.mi, 0, none⟩), X.vk, X.vr, X.vn, X.vf, u, U1], pureE (∀ v, some u = some v → v = u), pureE (∀ v, e3 = some v → v = U1)]) (fs := tabO2 3 1 U1 (intRows X.inn) [.int .i64 aa] e5 :: (pendO 3 #[.int .i64 aa] e4 e5 ++ OTH)) (g := g') ⟨7, 8, 304, 305, 22, 3, 1, 8, .int .i64 0, .tmp 302, .tmp 303, u, (intRows X.cl), #[.int .i64 cc], .int .i64 cc⟩ rfl rfl rfl rfl Try.underlying22 info_int_ rfl (show 0 < 1 by decide) (show 8 ≤ 1000 by decide) (by show ((intRows X.cl)).length ≤ _; simp [intRows, rowsR]; omega) rfl (one_int _) (hev 0 ⟨5, 302⟩ _ rfl rfl) (hev 1 ⟨7, 304⟩ _ rfl rfl) hl hK
      · have hf : (pureE False).is wa := hl.all _ (by
          simp only [ents50, List.getD_cons_zero, List.getD_cons_succ, hbad]
          simp)
        exact hf.elim
    · simp at he hj
      subst he hj
      have h24 : a.eval (.tmp 308) = .pointer (some ⟨X.m, 7, none⟩) := (hst (.tmp 308) (by simp)).trans (by kernel_rfl)
      have d4 := hm.cell 7
      simp only [List.getElem?_toArray, List.getElem?_cons_zero, List.getElem?_cons_succ] at d4
      have h24' : a.tmps[308]?.getD undef = .pointer (some ⟨X.m, 7, none⟩) := by simpa [Act.eval] using h24
      refine wpOp_load (v := U1) rfl rfl rfl (by simp [execOp, h24', go_sem, d4]) (hK U1 wa ?_)
      exact Led.pure_ (es := [blkE X.m 75 #[.pointer (some ⟨X.mh, 0, none⟩), .pointer (some ⟨X.mi, 0, none⟩), X.vk, X.vr, X.vn, X.vf, U0, U1], pureE (∀ v, e0 = some v → v = U0)]) (fs := _) hl (fun v hv => by injection hv with hv; exact hv.symm)
    · simp at he hj
      subst he hj
      obtain rfl := c1 rfl
      have hl2 : Led B w0 wa (([blkE X.m 75 #[.pointer (some ⟨X.mh, 0, none⟩), .pointer (some ⟨X.mi, 0, none⟩), X.vk, X.vr, X.vn, X.vf, U0, U1], pureE (∀ v, e0 = some v → v = U0), pureE (∀ v, e3 = some v → v = U1), tabO2 3 1 U0 (intRows X.cl) [.int .i64 cc] e2] ++ (pendO 3 #[.int .i64 cc] e1 e2 ++ [tabO2 3 1 U1 (intRows X.inn) [.int .i64 aa] none])) ++ (OTH)) := by simpa [ents50, pendO] using hl
      refine wpOp_build ⟨14, 15, 311, 312, 22, 3, 1, 8, .int .i64 0, .tmp 309, .tmp 310, U1, [], #[.int .i64 aa], .int .i64 aa⟩ rfl rfl rfl rfl Try.underlying22 info_int_ (show 0 < 1 by decide) (show 1 ≤ 1000 by decide) (by rw [show a.eval (.tmp 310) = .int .i64 aa from (hst (.tmp 310) (by simp)).trans (by kernel_rfl)]; exact fill_1 _ _ rfl) hl2 (fun g' w' hw' => hK _ _ ?_)
      simpa [ents50, pendO] using hw'
    · simp at he hj
      subst he hj
      obtain ⟨u, hu⟩ := hdep 3 (by simp)
      obtain ⟨vb, hvb⟩ := hdep 4 (by simp)
      simp at hu hvb
      subst hu hvb
      obtain ⟨x0, hx0⟩ := hdep 2 (by simp)
      simp at hx0
      subst hx0
      obtain rfl : u = U1 := (show ∀ v, some u = some v → v = U1 from hl.at_ 2 rfl) u rfl
      rcases pendO_form 3 #[.int .i64 aa] vb with ⟨g', rfl⟩ | hbad
      · exact wpOp_append (es := [blkE X.m 75 #[.pointer (some ⟨X.mh, 0, none⟩), .pointer (some ⟨X.mi, 0, none⟩), X.vk, X.vr, X.vn, X.vf, U0, u], pureE (∀ v, e0 = some v → v = U0), pureE (∀ v, some u = some v → v = u), tabO2 3 1 U0 (intRows X.cl) [.int .i64 cc] (some x0)]) (fs := OTH) (g := g') ⟨14, 15, 311, 312, 22, 3, 1, 8, .int .i64 0, .tmp 309, .tmp 310, u, (intRows X.inn), #[.int .i64 aa], .int .i64 aa⟩ rfl rfl rfl rfl Try.underlying22 info_int_ rfl (show 0 < 1 by decide) (show 8 ≤ 1000 by decide) (by show ((intRows X.inn)).length ≤ _; simp [intRows, rowsR]; omega) rfl (one_int _) (hev 3 ⟨12, 309⟩ _ rfl rfl) (hev 4 ⟨14, 311⟩ _ rfl rfl) hl hK
      · have hf : (pureE False).is wa := hl.all _ (by
          simp only [ents50, List.getD_cons_zero, List.getD_cons_succ, hbad]
          simp)
        exact hf.elim
    · simp at he
  case hfin =>
    intro zs wz hz1 hz2 hl
    obtain ⟨u0, u1, u2, u3, u4, u5, rfl⟩ := finE6 hz1 hz2
    clear hz1 hz2
    have h1 : Led B w0 wz (blkE X.m 75 #[.pointer (some ⟨X.mh, 0, none⟩), .pointer (some ⟨X.mi, 0, none⟩), X.vk, X.vr, X.vn, X.vf, U0, U1] :: tabE 3 1 u2 ((intRows X.cl) ++ [[.int .i64 cc]]) :: tabE 3 1 u5 ((intRows X.inn) ++ [[.int .i64 aa]]) :: OTH) := hl.sub (.cons_cons _ (.cons _ (.cons _ (List.Sublist.refl _))))
    have hHeld : True := trivial
    clear hl
    obtain ⟨A0, c0, hu0, _, _⟩ := (show TabIs wz 0 3 1 u2 ((intRows X.cl) ++ [[.int .i64 cc]]) from h1.at_ 1 rfl).form
    have ll0 : ((intRows X.cl) ++ [([.int .i64 cc] : List Value)]).length = X.cl.length + 1 := by simp [intRows, rowsR]
    rw [ll0] at hu0
    subst hu0
    obtain ⟨A1, c1, hu1, _, _⟩ := (show TabIs wz 0 3 1 u5 ((intRows X.inn) ++ [[.int .i64 aa]]) from h1.at_ 2 rfl).form
    have ll1 : ((intRows X.inn) ++ [([.int .i64 aa] : List Value)]).length = X.inn.length + 1 := by simp [intRows, rowsR]
    rw [ll1] at hu1
    subst hu1
    have hm0 : Blk wz X.m 75 #[.pointer (some ⟨X.mh, 0, none⟩), .pointer (some ⟨X.mi, 0, none⟩), X.vk, X.vr, X.vn, X.vf, U0, U1] := h1.at_ 0 rfl
    have hm1 := hm0.set_ 6 (.slice A0 (X.cl.length + 1) c0)
    have hm2 := hm1.set_ 7 (.slice A1 (X.inn.length + 1) c1)
    have h2 := h1.step 0 rfl (blkE X.m 75 #[.pointer (some ⟨X.mh, 0, none⟩), .pointer (some ⟨X.mi, 0, none⟩), X.vk, X.vr, X.vn, X.vf, (.slice A0 (X.cl.length + 1) c0), (.slice A1 (X.inn.length + 1) c1)]) (((Chg.refl _ _).setCell (p := ⟨X.m, 6, none⟩) (.inl (by simp [blkE])) (.slice A0 (X.cl.length + 1) c0)).setCell (p := ⟨X.m, 7, none⟩) (.inl (by simp [blkE])) (.slice A1 (X.inn.length + 1) c1)) (by simpa [blkE] using hm2) (Fresh.refl _ _)
    have H3 := Lib.hid (HBACK.out (.slice A0 (X.cl.length + 1) c0) (.slice A1 (X.inn.length + 1) c1) _ h2)
    have d0 := hm0.cell 6
    have f0 := hm0.frozen 6
    have d1 := hm0.cell 7
    have f1 := hm0.frozen 7
    simp only [List.getElem?_toArray, List.getElem?_cons_zero, List.getElem?_cons_succ] at d0 d1
    clear h1 h2 hm0 hm1 hm2 HB
    simp only [foldE, List.foldl_cons, List.foldl_nil, putE, Act.put, List.setIfInBounds_toArray, List.set_cons_zero, List.set_cons_succ]
    refine wpAnyH_read (i := 16) (d := 313) (v := ?_) rfl rfl rfl (by as_aux_lemma => kernel_rfl) (by as_aux_lemma => kernel_rfl) (by as_aux_lemma => kernel_rfl) (fun c a w h => HP.out c a _ _ w h) hHeld ?_ ?_
    rotate_left
    · intro w hSw
      (try dsimp only at hSw)
      go_simp
      (try with_reducible rfl)
    (try simp only [List.setIfInBounds_toArray, List.set_cons_zero, List.set_cons_succ])
    refine wpAnyH_read (i := 17) (d := 314) (v := ?_) rfl rfl rfl (by as_aux_lemma => kernel_rfl) (by as_aux_lemma => kernel_rfl) (by as_aux_lemma => kernel_rfl) (fun c a w h => HP.out c a _ _ w h) hHeld ?_ ?_
    rotate_left
    · intro w hSw
      (try dsimp only at hSw)
      go_simp
      (try with_reducible rfl)
    (try simp only [List.setIfInBounds_toArray, List.set_cons_zero, List.set_cons_succ])
    refine wpAnyH_ready (rs := [18]) (by kernel_rfl) (by simp) ?_
    refine AllReadyH.cons (o := _) rfl (fun K hK => ?_) AllReadyH.nil
    go_simp
    refine hK.out _ _ (trivial) (fun hHeld => ?_)
    refine wpAnyH_read (i := 19) (d := 315) (v := ?_) rfl rfl rfl (by as_aux_lemma => kernel_rfl) (by as_aux_lemma => kernel_rfl) (by as_aux_lemma => kernel_rfl) (fun c a w h => HP.out c a _ _ w h) hHeld ?_ ?_
    rotate_left
    · intro w hSw
      (try dsimp only at hSw)
      go_simp
      (try with_reducible rfl)
    (try simp only [List.setIfInBounds_toArray, List.set_cons_zero, List.set_cons_succ])
    refine wpAnyH_read (i := 20) (d := 316) (v := ?_) rfl rfl rfl (by as_aux_lemma => kernel_rfl) (by as_aux_lemma => kernel_rfl) (by as_aux_lemma => kernel_rfl) (fun c a w h => HP.out c a _ _ w h) hHeld ?_ ?_
    rotate_left
    · intro w hSw
      (try dsimp only at hSw)
      go_simp
      (try with_reducible rfl)
    (try simp only [List.setIfInBounds_toArray, List.set_cons_zero, List.set_cons_succ])
    refine wpAnyH_ready (rs := [21]) (by kernel_rfl) (by simp) ?_
    refine AllReadyH.cons (o := _) rfl (fun K hK => ?_) AllReadyH.nil
    go_simp
    refine hK.out _ _ (trivial) (fun hHeld => ?_)
    refine wpAnyH_done (by as_aux_lemma => kernel_rfl) ?_ _
    exact HQ.out _ _ _ _ rfl rfl ⟨rfl, rfl, rfl, rfl, rfl, rfl, rfl, rfl, rfl, rfl, rfl, rfl, rfl, rfl, rfl⟩ H3.out
end Go.Proofs.Ytognmhgdegpdiaa
