import Derived.Test.YtognmhgdegpdiaaSlotsPlR
/- Handles against plain pools: four appends in one region. -/
namespace Go.Proofs.Ytognmhgdegpdiaa
open Go.RowKit
set_option linter.unusedVariables false
set_option linter.unusedSimpArgs false
set_option maxRecDepth 100000

def ents28 (X : PM) (b21 : Nat) (kk ra rg : Int) (U0 U1 U2 U3 : Value) (OTH : List Ent) (env : List (Option Value)) : List Ent :=
  blkE X.m 75 #[.pointer (some ⟨X.mh, 0, none⟩), .pointer (some ⟨X.mi, 0, none⟩), U0, U1, U2, U3, X.vc, X.vi] :: pureE (∀ v, (env.getD 0 none) = some v → v = U0) :: pureE (∀ v, (env.getD 3 none) = some v → v = U1) :: pureE (∀ v, (env.getD 6 none) = some v → v = U2) :: pureE (∀ v, (env.getD 9 none) = some v → v = U3) :: tabO2 3 1 U0 (intRows X.kd) [.int .i64 kk] (env.getD 2 none) :: (pendO 3 #[.int .i64 kk] (env.getD 1 none) (env.getD 2 none) ++ tabO2 3 1 U1 (intRows X.rt) [.int .i64 (-1)] (env.getD 5 none) :: (pendO 3 #[.int .i64 (-1)] (env.getD 4 none) (env.getD 5 none) ++ tabO2 3 1 U2 (intRows X.nn) [.int .i64 0] (env.getD 8 none) :: (pendO 3 #[.int .i64 0] (env.getD 7 none) (env.getD 8 none) ++ tabO2 27 2 U3 (rowsR X.rf) [.int .i64 ra, .int .i64 rg] (env.getD 11 none) :: (pendO 27 #[.int .i64 ra, .int .i64 rg] (env.getD 10 none) (env.getD 11 none) ++ OTH))))
set_option maxHeartbeats 16000000 in
theorem pl_r28 (B : Nat) (X : PM) (b21 : Nat) (kk ra rg : Int) (w0 w : World) (C : List Ent) (a : Act) (Q : Exit → Act → World → Prop) (hsz : a.tmps.size = 497) (hde : a.defers = []) (v6 : Sl a 6 (.pointer (some ⟨X.m, 0, none⟩))) (v20 : Sl a 20 (.int .i64 kk)) (v21 : Sl a 21 (.pointer (some ⟨b21, 0, none⟩)))
    (hlen : X.kd.length ≤ 1000000 ∧ X.rt.length ≤ 1000000 ∧ X.nn.length ≤ 1000000 ∧ X.rf.length ≤ 1000000) (hbm : blkE b21 27 #[.int .i64 ra, .int .i64 rg] ∈ C) (hne : X.m ≠ b21)
    (hl : Led B w0 w (X.mem ++ C)) (hP : ∀ c (a : Act) d v w, Q (.panic c) (a.put d v) w → Q (.panic c) a w) (hQ : ∀ (n0 n1 n2 n3 : Value) (a2 : Act) (w2 : World), a2.tmps.size = 497 → a2.defers = [] → (a2.tmps.getD 1 undef = a.tmps.getD 1 undef ∧ a2.tmps.getD 5 undef = a.tmps.getD 5 undef ∧ a2.tmps.getD 6 undef = a.tmps.getD 6 undef ∧ a2.tmps.getD 7 undef = a.tmps.getD 7 undef ∧ a2.tmps.getD 8 undef = a.tmps.getD 8 undef ∧ a2.tmps.getD 9 undef = a.tmps.getD 9 undef ∧ a2.tmps.getD 10 undef = a.tmps.getD 10 undef ∧ a2.tmps.getD 11 undef = a.tmps.getD 11 undef ∧ a2.tmps.getD 12 undef = a.tmps.getD 12 undef ∧ a2.tmps.getD 13 undef = a.tmps.getD 13 undef ∧ a2.tmps.getD 14 undef = a.tmps.getD 14 undef ∧ a2.tmps.getD 20 undef = a.tmps.getD 20 undef ∧ a2.tmps.getD 21 undef = a.tmps.getD 21 undef ∧ a2.tmps.getD 25 undef = a.tmps.getD 25 undef ∧ a2.tmps.getD 26 undef = a.tmps.getD 26 undef) → Led B w0 w2 ({ X with vk := n0, vr := n1, vn := n2, vf := n3, kd := X.kd ++ [kk], rt := X.rt ++ [-1], nn := X.nn ++ [0], rf := X.rf ++ [(ra, rg)] }.mem ++ C) → Q .normal a2 w2) :
    PlayWp (p2 ++ [0, 1, 0, 1, 1, 1, 1, 1, 1, 0, 0]) Q a w := by
  have HQ := Lib.hid hQ
  have HP := Lib.hid hP
  clear hQ hP
  obtain ⟨ln0, ln1, ln2, ln3⟩ := hlen
  obtain ⟨OTH, hOTH⟩ : ∃ O : List Ent, [tabE 3 1 X.vc (intRows X.cl), tabE 3 1 X.vi (intRows X.inn)] ++ (X.I ++ (X.H ++ (X.S ++ C))) = O := ⟨_, rfl⟩
  have hl1 : Led B w0 w (X.D ++ (X.I ++ (X.H ++ (X.S ++ C)))) := PM.toD.1 hl
  have hl2 : Led B w0 w (blkE X.m 75 #[.pointer (some ⟨X.mh, 0, none⟩), .pointer (some ⟨X.mi, 0, none⟩), X.vk, X.vr, X.vn, X.vf, X.vc, X.vi] :: tabE 3 1 X.vk (intRows X.kd) :: tabE 3 1 X.vr (intRows X.rt) :: tabE 3 1 X.vn (intRows X.nn) :: tabE 27 2 X.vf (rowsR X.rf) :: ([tabE 3 1 X.vc (intRows X.cl), tabE 3 1 X.vi (intRows X.inn)] ++ (X.I ++ (X.H ++ (X.S ++ C))))) := hl1
  have hr0 : (intRows (X.kd ++ [kk])) = (intRows X.kd) ++ [[.int .i64 kk]] := by simp [intRows, rowsR]
  have hr1 : (intRows (X.rt ++ [-1])) = (intRows X.rt) ++ [[.int .i64 (-1)]] := by simp [intRows, rowsR]
  have hr2 : (intRows (X.nn ++ [0])) = (intRows X.nn) ++ [[.int .i64 0]] := by simp [intRows, rowsR]
  have hr3 : (rowsR (X.rf ++ [(ra, rg)])) = (rowsR X.rf) ++ [[.int .i64 ra, .int .i64 rg]] := by simp [intRows, rowsR]
  have HBACK : Hid (∀ (n0 n1 n2 n3 : Value) W, Led B w0 W (blkE X.m 75 #[.pointer (some ⟨X.mh, 0, none⟩), .pointer (some ⟨X.mi, 0, none⟩), n0, n1, n2, n3, X.vc, X.vi] :: tabE 3 1 n0 ((intRows X.kd) ++ [[.int .i64 kk]]) :: tabE 3 1 n1 ((intRows X.rt) ++ [[.int .i64 (-1)]]) :: tabE 3 1 n2 ((intRows X.nn) ++ [[.int .i64 0]]) :: tabE 27 2 n3 ((rowsR X.rf) ++ [[.int .i64 ra, .int .i64 rg]]) :: OTH) → Led B w0 W ({ X with vk := n0, vr := n1, vn := n2, vf := n3, kd := X.kd ++ [kk], rt := X.rt ++ [-1], nn := X.nn ++ [0], rf := X.rf ++ [(ra, rg)] }.mem ++ C)) := Lib.hid fun n0 n1 n2 n3 W h => by
    rw [← hOTH, ← hr0, ← hr1, ← hr2, ← hr3] at h
    exact PM.toD.2 (h)
  have hO : blkE b21 27 #[.int .i64 ra, .int .i64 rg] ∈ OTH := by rw [← hOTH]; simp [hbm]
  obtain ⟨U0, hU0⟩ : ∃ u, X.vk = u := ⟨_, rfl⟩
  obtain ⟨U1, hU1⟩ : ∃ u, X.vr = u := ⟨_, rfl⟩
  obtain ⟨U2, hU2⟩ : ∃ u, X.vn = u := ⟨_, rfl⟩
  obtain ⟨U3, hU3⟩ : ∃ u, X.vf = u := ⟨_, rfl⟩
  rw [hOTH, hU0, hU1, hU2, hU3] at hl2
  have HB : Hid (Led B w0 w (ents28 X b21 kk ra rg U0 U1 U2 U3 OTH [none, none, none, none, none, none, none, none, none, none, none, none])) := Lib.hid (ins_pure _ (fun v hv => by cases hv) (ins_pure _ (fun v hv => by cases hv) (ins_pure _ (fun v hv => by cases hv) (ins_pure _ (fun v hv => by cases hv) (hl2)))))
  clear hl hl1 hl2 hU0 hU1 hU2 hU3 hOTH hbm
  have HSX : Hid (∀ W env, Led B w0 W (ents28 X b21 kk ra rg U0 U1 U2 U3 OTH env) → W.cell? ⟨b21, 0, none⟩ = some (.int .i64 ra) ∧ W.cell? ⟨b21, 1, none⟩ = some (.int .i64 rg)) := Lib.hid fun W env h => by
    have q : Blk W b21 27 #[.int .i64 ra, .int .i64 rg] := h.all (blkE b21 27 #[.int .i64 ra, .int .i64 rg]) (by simp [ents28, hO])
    exact ⟨q.cell 0, q.cell 1⟩
  obtain ⟨fs, hfs, rfl⟩ := frame_open a hsz hde
  clear hsz hde
  replace v6 := hfs _ _ v6
  replace v20 := hfs _ _ v20
  replace v21 := hfs _ _ v21
  clear hfs
  simp only [v6, v20, v21] at HQ ⊢
  clear v6 v20 v21
  unfold PlayWp
  conv => arg 2; whnf
  refine wp_region_held_drew (S := (fun W => W.cell? ⟨b21, 0, none⟩ = some (.int .i64 ra) ∧ W.cell? ⟨b21, 1, none⟩ = some (.int .i64 rg))) (by as_aux_lemma => kernel_rfl) ?_ (fun hHeld => ?_)
  · exact HSX.out _ _ HB.out.drew
  refine wpAnyH_read (i := 0) (d := 189) (v := ?_) rfl rfl rfl (by as_aux_lemma => kernel_rfl) (by as_aux_lemma => kernel_rfl) (by as_aux_lemma => kernel_rfl) (fun c a w h => HP.out c a _ _ w h) hHeld ?_ ?_
  rotate_left
  · intro w hSw
    (try dsimp only at hSw)
    go_simp
    (try with_reducible rfl)
  (try simp only [List.setIfInBounds_toArray, List.set_cons_zero, List.set_cons_succ])
  refine wpAnyH_read (i := 1) (d := 190) (v := ?_) rfl rfl rfl (by as_aux_lemma => kernel_rfl) (by as_aux_lemma => kernel_rfl) (by as_aux_lemma => kernel_rfl) (fun c a w h => HP.out c a _ _ w h) hHeld ?_ ?_
  rotate_left
  · intro w hSw
    (try dsimp only at hSw)
    go_simp
    (try with_reducible rfl)
  (try simp only [List.setIfInBounds_toArray, List.set_cons_zero, List.set_cons_succ])
  refine wpAnyH_read (i := 2) (d := 191) (v := ?_) rfl rfl rfl (by as_aux_lemma => kernel_rfl) (by as_aux_lemma => kernel_rfl) (by as_aux_lemma => kernel_rfl) (fun c a w h => HP.out c a _ _ w h) hHeld ?_ ?_
  rotate_left
  · intro w hSw
    (try dsimp only at hSw)
    go_simp
    (try with_reducible rfl)
  (try simp only [List.setIfInBounds_toArray, List.set_cons_zero, List.set_cons_succ])
  refine wpAnyH_read (i := 3) (d := 192) (v := ?_) rfl rfl rfl (by as_aux_lemma => kernel_rfl) (by as_aux_lemma => kernel_rfl) (by as_aux_lemma => kernel_rfl) (fun c a w h => HP.out c a _ _ w h) hHeld ?_ ?_
  rotate_left
  · intro w hSw
    (try dsimp only at hSw)
    go_simp
    (try with_reducible rfl)
  (try simp only [List.setIfInBounds_toArray, List.set_cons_zero, List.set_cons_succ])
  refine wpAnyH_read (i := 4) (d := 193) (v := ?_) rfl rfl rfl (by as_aux_lemma => kernel_rfl) (by as_aux_lemma => kernel_rfl) (by as_aux_lemma => kernel_rfl) (fun c a w h => HP.out c a _ _ w h) hHeld ?_ ?_
  rotate_left
  · intro w hSw
    (try dsimp only at hSw)
    go_simp
    (try with_reducible rfl)
  (try simp only [List.setIfInBounds_toArray, List.set_cons_zero, List.set_cons_succ])
  refine wpAnyH_read (i := 5) (d := 194) (v := ?_) rfl rfl rfl (by as_aux_lemma => kernel_rfl) (by as_aux_lemma => kernel_rfl) (by as_aux_lemma => kernel_rfl) (fun c a w h => HP.out c a _ _ w h) hHeld ?_ ?_
  rotate_left
  · intro w hSw
    (try dsimp only at hSw)
    go_simp
    (try with_reducible rfl)
  (try simp only [List.setIfInBounds_toArray, List.set_cons_zero, List.set_cons_succ])
  refine wpAnyH_read (i := 6) (d := 195) (v := ?_) rfl rfl rfl (by as_aux_lemma => kernel_rfl) (by as_aux_lemma => kernel_rfl) (by as_aux_lemma => kernel_rfl) (fun c a w h => HP.out c a _ _ w h) hHeld ?_ ?_
  rotate_left
  · intro w hSw
    (try dsimp only at hSw)
    go_simp
    (try with_reducible rfl)
  (try simp only [List.setIfInBounds_toArray, List.set_cons_zero, List.set_cons_succ])
  refine wpAnyH_read (i := 8) (d := 197) (v := ?_) rfl rfl rfl (by as_aux_lemma => kernel_rfl) (by as_aux_lemma => kernel_rfl) (by as_aux_lemma => kernel_rfl) (fun c a w h => HP.out c a _ _ w h) hHeld ?_ ?_
  rotate_left
  · intro w hSw
    (try dsimp only at hSw)
    go_simp
    (try with_reducible rfl)
  (try simp only [List.setIfInBounds_toArray, List.set_cons_zero, List.set_cons_succ])
  refine wpAnyH_read (i := 11) (d := 200) (v := ?_) rfl rfl rfl (by as_aux_lemma => kernel_rfl) (by as_aux_lemma => kernel_rfl) (by as_aux_lemma => kernel_rfl) (fun c a w h => HP.out c a _ _ w h) hHeld ?_ ?_
  rotate_left
  · intro w hSw
    (try dsimp only at hSw)
    go_simp
    (try with_reducible rfl)
  (try simp only [List.setIfInBounds_toArray, List.set_cons_zero, List.set_cons_succ])
  refine wpAnyH_read (i := 12) (d := 201) (v := ?_) rfl rfl rfl (by as_aux_lemma => kernel_rfl) (by as_aux_lemma => kernel_rfl) (by as_aux_lemma => kernel_rfl) (fun c a w h => HP.out c a _ _ w h) hHeld ?_ ?_
  rotate_left
  · intro w hSw
    (try dsimp only at hSw)
    go_simp
    (try with_reducible rfl)
  (try simp only [List.setIfInBounds_toArray, List.set_cons_zero, List.set_cons_succ])
  refine wpAnyH_read (i := 13) (d := 202) (v := ?_) rfl rfl rfl (by as_aux_lemma => kernel_rfl) (by as_aux_lemma => kernel_rfl) (by as_aux_lemma => kernel_rfl) (fun c a w h => HP.out c a _ _ w h) hHeld ?_ ?_
  rotate_left
  · intro w hSw
    (try dsimp only at hSw)
    go_simp
    (try with_reducible rfl)
  (try simp only [List.setIfInBounds_toArray, List.set_cons_zero, List.set_cons_succ])
  refine wpAnyH_read (i := 17) (d := 206) (v := ?_) rfl rfl rfl (by as_aux_lemma => kernel_rfl) (by as_aux_lemma => kernel_rfl) (by as_aux_lemma => kernel_rfl) (fun c a w h => HP.out c a _ _ w h) hHeld ?_ ?_
  rotate_left
  · intro w hSw
    (try dsimp only at hSw)
    go_simp
    (try with_reducible rfl)
  (try simp only [List.setIfInBounds_toArray, List.set_cons_zero, List.set_cons_succ])
  refine wpAnyH_read (i := 18) (d := 207) (v := ?_) rfl rfl rfl (by as_aux_lemma => kernel_rfl) (by as_aux_lemma => kernel_rfl) (by as_aux_lemma => kernel_rfl) (fun c a w h => HP.out c a _ _ w h) hHeld ?_ ?_
  rotate_left
  · intro w hSw
    (try dsimp only at hSw)
    go_simp
    (try with_reducible rfl)
  (try simp only [List.setIfInBounds_toArray, List.set_cons_zero, List.set_cons_succ])
  refine wpAnyH_read (i := 19) (d := 208) (v := ?_) rfl rfl rfl (by as_aux_lemma => kernel_rfl) (by as_aux_lemma => kernel_rfl) (by as_aux_lemma => kernel_rfl) (fun c a w h => HP.out c a _ _ w h) hHeld ?_ ?_
  rotate_left
  · intro w hSw
    (try dsimp only at hSw)
    go_simp
    (try with_reducible rfl)
  (try simp only [List.setIfInBounds_toArray, List.set_cons_zero, List.set_cons_succ])
  refine wpAnyH_read (i := 23) (d := 212) (v := ?_) rfl rfl rfl (by as_aux_lemma => kernel_rfl) (by as_aux_lemma => kernel_rfl) (by as_aux_lemma => kernel_rfl) (fun c a w h => HP.out c a _ _ w h) hHeld ?_ ?_
  rotate_left
  · intro w hSw
    (try dsimp only at hSw)
    go_simp
    (try with_reducible rfl)
  (try simp only [List.setIfInBounds_toArray, List.set_cons_zero, List.set_cons_succ])
  refine wpAnyH_read (i := 24) (d := 213) (v := ?_) rfl rfl rfl (by as_aux_lemma => kernel_rfl) (by as_aux_lemma => kernel_rfl) (by as_aux_lemma => kernel_rfl) (fun c a w h => HP.out c a _ _ w h) hHeld ?_ ?_
  rotate_left
  · intro w hSw
    (try dsimp only at hSw)
    go_simp
    (try with_reducible rfl)
  (try simp only [List.setIfInBounds_toArray, List.set_cons_zero, List.set_cons_succ])
  refine wpAnyH_read (i := 25) (d := 214) (v := ?_) rfl rfl rfl (by as_aux_lemma => kernel_rfl) (by as_aux_lemma => kernel_rfl) (by as_aux_lemma => kernel_rfl) (fun c a w h => HP.out c a _ _ w h) hHeld ?_ ?_
  rotate_left
  · intro w hSw
    (try dsimp only at hSw)
    go_simp
    (try with_reducible rfl)
  (try simp only [List.setIfInBounds_toArray, List.set_cons_zero, List.set_cons_succ])
  refine wpAnyH_read (i := 27) (d := 216) (v := ?_) rfl rfl rfl (by as_aux_lemma => kernel_rfl) (by as_aux_lemma => kernel_rfl) (by as_aux_lemma => kernel_rfl) (fun c a w h => HP.out c a _ _ w h) hHeld ?_ ?_
  rotate_left
  · intro w hSw
    (try dsimp only at hSw)
    go_simp
    (try with_reducible rfl)
  (try simp only [List.setIfInBounds_toArray, List.set_cons_zero, List.set_cons_succ])
  refine wpAnyH_effects0 (B := B) (w0 := w0) (F := 12) [⟨7, 196⟩, ⟨9, 198⟩, ⟨10, 199⟩, ⟨14, 203⟩, ⟨15, 204⟩, ⟨16, 205⟩, ⟨20, 209⟩, ⟨21, 210⟩, ⟨22, 211⟩, ⟨26, 215⟩, ⟨28, 217⟩, ⟨29, 218⟩] [[], [], [0, 1], [], [], [3, 4, 2], [], [], [6, 7, 5], [], [], [9, 10, 8]] (ents28 X b21 kk ra rg U0 U1 U2 U3 OTH) (effOk_chunks 4 8 rfl (four_bools fun a b c d => by cases a <;> cases b <;> cases c <;> cases d <;> (as_aux_lemma => kernel_rfl))) HB.out.drew (by decide) (by simp) ?hlaw (fun W env _ h => HSX.out W env h) ?hfin
  case hlaw =>
   as_aux_lemma =>
    intro j e he
    unfold EffLaw
    intro env a wa K hlen hj hdep hcl hev hst hl hK
    rcases env with _ | ⟨e0, _ | ⟨e1, _ | ⟨e2, _ | ⟨e3, _ | ⟨e4, _ | ⟨e5, _ | ⟨e6, _ | ⟨e7, _ | ⟨e8, _ | ⟨e9, _ | ⟨e10, _ | ⟨e11, _ | ⟨e12, env⟩⟩⟩⟩⟩⟩⟩⟩⟩⟩⟩⟩⟩
    any_goals (simp at hlen; done)
    have hm : Blk wa X.m 75 #[.pointer (some ⟨X.mh, 0, none⟩), .pointer (some ⟨X.mi, 0, none⟩), U0, U1, U2, U3, X.vc, X.vi] := hl.at_ 0 rfl
    have c0 : e1 = none → e2 = none := fun h1 => by
      cases e2 with
      | none => rfl
      | some v => obtain ⟨u, hu⟩ := hcl 2 1 (by simp) ⟨v, rfl⟩; rw [h1] at hu; simp at hu
    have c1 : e4 = none → e5 = none := fun h1 => by
      cases e5 with
      | none => rfl
      | some v => obtain ⟨u, hu⟩ := hcl 5 4 (by simp) ⟨v, rfl⟩; rw [h1] at hu; simp at hu
    have c2 : e7 = none → e8 = none := fun h1 => by
      cases e8 with
      | none => rfl
      | some v => obtain ⟨u, hu⟩ := hcl 8 7 (by simp) ⟨v, rfl⟩; rw [h1] at hu; simp at hu
    have c3 : e10 = none → e11 = none := fun h1 => by
      cases e11 with
      | none => rfl
      | some v => obtain ⟨u, hu⟩ := hcl 11 10 (by simp) ⟨v, rfl⟩; rw [h1] at hu; simp at hu
    rcases j with _ | _ | _ | _ | _ | _ | _ | _ | _ | _ | _ | _ | j
    · simp at he hj
      subst he hj
      have h24 : a.eval (.tmp 195) = .pointer (some ⟨X.m, 2, none⟩) := (hst (.tmp 195) (by simp)).trans (by kernel_rfl)
      have d4 := hm.cell 2
      simp only [List.getElem?_toArray, List.getElem?_cons_zero, List.getElem?_cons_succ] at d4
      have h24' : a.tmps[195]?.getD undef = .pointer (some ⟨X.m, 2, none⟩) := by simpa [Act.eval] using h24
      refine wpOp_load (v := U0) rfl rfl rfl (by simp [execOp, h24', go_sem, d4]) (hK U0 wa ?_)
      exact Led.pure_ (es := [blkE X.m 75 #[.pointer (some ⟨X.mh, 0, none⟩), .pointer (some ⟨X.mi, 0, none⟩), U0, U1, U2, U3, X.vc, X.vi]]) (fs := _) hl (fun v hv => by injection hv with hv; exact hv.symm)
    · simp at he hj
      subst he hj
      obtain rfl := c0 rfl
      have hl2 : Led B w0 wa ([blkE X.m 75 #[.pointer (some ⟨X.mh, 0, none⟩), .pointer (some ⟨X.mi, 0, none⟩), U0, U1, U2, U3, X.vc, X.vi], pureE (∀ v, e0 = some v → v = U0), pureE (∀ v, e3 = some v → v = U1), pureE (∀ v, e6 = some v → v = U2), pureE (∀ v, e9 = some v → v = U3), tabO2 3 1 U0 (intRows X.kd) [.int .i64 kk] none] ++ (tabO2 3 1 U1 (intRows X.rt) [.int .i64 (-1)] e5 :: (pendO 3 #[.int .i64 (-1)] e4 e5 ++ tabO2 3 1 U2 (intRows X.nn) [.int .i64 0] e8 :: (pendO 3 #[.int .i64 0] e7 e8 ++ tabO2 27 2 U3 (rowsR X.rf) [.int .i64 ra, .int .i64 rg] e11 :: (pendO 27 #[.int .i64 ra, .int .i64 rg] e10 e11 ++ OTH))))) := by simpa [ents28, pendO] using hl
      refine wpOp_build ⟨9, 10, 198, 199, 22, 3, 1, 8, .int .i64 0, .tmp 196, .tmp 197, U0, [], #[.int .i64 kk], .int .i64 kk⟩ rfl rfl rfl rfl Try.underlying22 info_int_ (show 0 < 1 by decide) (show 1 ≤ 1000 by decide) (by rw [show a.eval (.tmp 197) = .int .i64 kk from (hst (.tmp 197) (by simp)).trans (by kernel_rfl)]; exact fill_1 _ _ rfl) hl2 (fun g' w' hw' => hK _ _ ?_)
      simpa [ents28, pendO] using hw'
    · simp at he hj
      subst he hj
      obtain ⟨u, hu⟩ := hdep 0 (by simp)
      obtain ⟨vb, hvb⟩ := hdep 1 (by simp)
      simp at hu hvb
      subst hu hvb
      obtain rfl : u = U0 := (show ∀ v, some u = some v → v = U0 from hl.at_ 1 rfl) u rfl
      rcases pendO_form 3 #[.int .i64 kk] vb with ⟨g', rfl⟩ | hbad
      · exact wpOp_append (es := [blkE X.m 75 #[.pointer (some ⟨X.mh, 0, none⟩), .pointer (some ⟨X.mi, 0, none⟩), u, U1, U2, U3, X.vc, X.vi], pureE (∀ v, some u = some v → v = u), pureE (∀ v, e3 = some v → v = U1), pureE (∀ v, e6 = some v → v = U2), pureE (∀ v, e9 = some v → v = U3)]) (fs := tabO2 3 1 U1 (intRows X.rt) [.int .i64 (-1)] e5 :: (pendO 3 #[.int .i64 (-1)] e4 e5 ++ tabO2 3 1 U2 (intRows X.nn) [.int .i64 0] e8 :: (pendO 3 #[.int .i64 0] e7 e8 ++ tabO2 27 2 U3 (rowsR X.rf) [.int .i64 ra, .int .i64 rg] e11 :: (pendO 27 #[.int .i64 ra, .int .i64 rg] e10 e11 ++ OTH)))) (g := g') ⟨9, 10, 198, 199, 22, 3, 1, 8, .int .i64 0, .tmp 196, .tmp 197, u, (intRows X.kd), #[.int .i64 kk], .int .i64 kk⟩ rfl rfl rfl rfl Try.underlying22 info_int_ rfl (show 0 < 1 by decide) (show 8 ≤ 1000 by decide) (by show ((intRows X.kd)).length ≤ _; simp [intRows, rowsR]; omega) rfl (one_int _) (hev 0 ⟨7, 196⟩ _ rfl rfl) (hev 1 ⟨9, 198⟩ _ rfl rfl) hl hK
      · have hf : (pureE False).is wa := hl.all _ (by
          simp only [ents28, List.getD_cons_zero, List.getD_cons_succ, hbad]
          simp)
        exact hf.elim
    · simp at he hj
      subst he hj
      have h24 : a.eval (.tmp 202) = .pointer (some ⟨X.m, 3, none⟩) := (hst (.tmp 202) (by simp)).trans (by kernel_rfl)
      have d4 := hm.cell 3
      simp only [List.getElem?_toArray, List.getElem?_cons_zero, List.getElem?_cons_succ] at d4
      have h24' : a.tmps[202]?.getD undef = .pointer (some ⟨X.m, 3, none⟩) := by simpa [Act.eval] using h24
      refine wpOp_load (v := U1) rfl rfl rfl (by simp [execOp, h24', go_sem, d4]) (hK U1 wa ?_)
      exact Led.pure_ (es := [blkE X.m 75 #[.pointer (some ⟨X.mh, 0, none⟩), .pointer (some ⟨X.mi, 0, none⟩), U0, U1, U2, U3, X.vc, X.vi], pureE (∀ v, e0 = some v → v = U0)]) (fs := _) hl (fun v hv => by injection hv with hv; exact hv.symm)
    · simp at he hj
      subst he hj
      obtain rfl := c1 rfl
      have hl2 : Led B w0 wa (([blkE X.m 75 #[.pointer (some ⟨X.mh, 0, none⟩), .pointer (some ⟨X.mi, 0, none⟩), U0, U1, U2, U3, X.vc, X.vi], pureE (∀ v, e0 = some v → v = U0), pureE (∀ v, e3 = some v → v = U1), pureE (∀ v, e6 = some v → v = U2), pureE (∀ v, e9 = some v → v = U3), tabO2 3 1 U0 (intRows X.kd) [.int .i64 kk] e2] ++ (pendO 3 #[.int .i64 kk] e1 e2 ++ [tabO2 3 1 U1 (intRows X.rt) [.int .i64 (-1)] none])) ++ (tabO2 3 1 U2 (intRows X.nn) [.int .i64 0] e8 :: (pendO 3 #[.int .i64 0] e7 e8 ++ tabO2 27 2 U3 (rowsR X.rf) [.int .i64 ra, .int .i64 rg] e11 :: (pendO 27 #[.int .i64 ra, .int .i64 rg] e10 e11 ++ OTH)))) := by simpa [ents28, pendO] using hl
      refine wpOp_build ⟨15, 16, 204, 205, 22, 3, 1, 8, .int .i64 0, .tmp 203, .const (.int .i64 (-1)), U1, [], #[.int .i64 (-1)], .int .i64 (-1)⟩ rfl rfl rfl rfl Try.underlying22 info_int_ (show 0 < 1 by decide) (show 1 ≤ 1000 by decide) (fill_1 _ _ rfl) hl2 (fun g' w' hw' => hK _ _ ?_)
      simpa [ents28, pendO] using hw'
    · simp at he hj
      subst he hj
      obtain ⟨u, hu⟩ := hdep 3 (by simp)
      obtain ⟨vb, hvb⟩ := hdep 4 (by simp)
      simp at hu hvb
      subst hu hvb
      obtain ⟨x0, hx0⟩ := hdep 2 (by simp)
      simp at hx0
      subst hx0
      obtain rfl : u = U1 := (show ∀ v, some u = some v → v = U1 from hl.at_ 2 rfl) u rfl
      rcases pendO_form 3 #[.int .i64 (-1)] vb with ⟨g', rfl⟩ | hbad
      · exact wpOp_append (es := [blkE X.m 75 #[.pointer (some ⟨X.mh, 0, none⟩), .pointer (some ⟨X.mi, 0, none⟩), U0, u, U2, U3, X.vc, X.vi], pureE (∀ v, e0 = some v → v = U0), pureE (∀ v, some u = some v → v = u), pureE (∀ v, e6 = some v → v = U2), pureE (∀ v, e9 = some v → v = U3), tabO2 3 1 U0 (intRows X.kd) [.int .i64 kk] (some x0)]) (fs := tabO2 3 1 U2 (intRows X.nn) [.int .i64 0] e8 :: (pendO 3 #[.int .i64 0] e7 e8 ++ tabO2 27 2 U3 (rowsR X.rf) [.int .i64 ra, .int .i64 rg] e11 :: (pendO 27 #[.int .i64 ra, .int .i64 rg] e10 e11 ++ OTH))) (g := g') ⟨15, 16, 204, 205, 22, 3, 1, 8, .int .i64 0, .tmp 203, .const (.int .i64 (-1)), u, (intRows X.rt), #[.int .i64 (-1)], .int .i64 (-1)⟩ rfl rfl rfl rfl Try.underlying22 info_int_ rfl (show 0 < 1 by decide) (show 8 ≤ 1000 by decide) (by show ((intRows X.rt)).length ≤ _; simp [intRows, rowsR]; omega) rfl (one_int _) (hev 3 ⟨14, 203⟩ _ rfl rfl) (hev 4 ⟨15, 204⟩ _ rfl rfl) hl hK
      · have hf : (pureE False).is wa := hl.all _ (by
          simp only [ents28, List.getD_cons_zero, List.getD_cons_succ, hbad]
          simp)
        exact hf.elim
    · simp at he hj
      subst he hj
      have h24 : a.eval (.tmp 208) = .pointer (some ⟨X.m, 4, none⟩) := (hst (.tmp 208) (by simp)).trans (by kernel_rfl)
      have d4 := hm.cell 4
      simp only [List.getElem?_toArray, List.getElem?_cons_zero, List.getElem?_cons_succ] at d4
      have h24' : a.tmps[208]?.getD undef = .pointer (some ⟨X.m, 4, none⟩) := by simpa [Act.eval] using h24
      refine wpOp_load (v := U2) rfl rfl rfl (by simp [execOp, h24', go_sem, d4]) (hK U2 wa ?_)
      exact Led.pure_ (es := [blkE X.m 75 #[.pointer (some ⟨X.mh, 0, none⟩), .pointer (some ⟨X.mi, 0, none⟩), U0, U1, U2, U3, X.vc, X.vi], pureE (∀ v, e0 = some v → v = U0), pureE (∀ v, e3 = some v → v = U1)]) (fs := _) hl (fun v hv => by injection hv with hv; exact hv.symm)
    · simp at he hj
      subst he hj
      obtain rfl := c2 rfl
      have hl2 : Led B w0 wa (([blkE X.m 75 #[.pointer (some ⟨X.mh, 0, none⟩), .pointer (some ⟨X.mi, 0, none⟩), U0, U1, U2, U3, X.vc, X.vi], pureE (∀ v, e0 = some v → v = U0), pureE (∀ v, e3 = some v → v = U1), pureE (∀ v, e6 = some v → v = U2), pureE (∀ v, e9 = some v → v = U3), tabO2 3 1 U0 (intRows X.kd) [.int .i64 kk] e2] ++ (pendO 3 #[.int .i64 kk] e1 e2 ++ tabO2 3 1 U1 (intRows X.rt) [.int .i64 (-1)] e5 :: (pendO 3 #[.int .i64 (-1)] e4 e5 ++ [tabO2 3 1 U2 (intRows X.nn) [.int .i64 0] none]))) ++ (tabO2 27 2 U3 (rowsR X.rf) [.int .i64 ra, .int .i64 rg] e11 :: (pendO 27 #[.int .i64 ra, .int .i64 rg] e10 e11 ++ OTH))) := by simpa [ents28, pendO] using hl
      refine wpOp_build ⟨21, 22, 210, 211, 22, 3, 1, 8, .int .i64 0, .tmp 209, .const (.int .i64 0), U2, [], #[.int .i64 0], .int .i64 0⟩ rfl rfl rfl rfl Try.underlying22 info_int_ (show 0 < 1 by decide) (show 1 ≤ 1000 by decide) (fill_1 _ _ rfl) hl2 (fun g' w' hw' => hK _ _ ?_)
      simpa [ents28, pendO] using hw'
    · simp at he hj
      subst he hj
      obtain ⟨u, hu⟩ := hdep 6 (by simp)
      obtain ⟨vb, hvb⟩ := hdep 7 (by simp)
      simp at hu hvb
      subst hu hvb
      obtain ⟨x1, hx1⟩ := hdep 5 (by simp)
      simp at hx1
      subst hx1
      obtain ⟨x0, rfl⟩ : ∃ y, e2 = some y := by obtain ⟨u, hu⟩ := hcl 5 2 (by simp) ⟨x1, rfl⟩; exact ⟨u, by simpa using hu⟩
      obtain rfl : u = U2 := (show ∀ v, some u = some v → v = U2 from hl.at_ 3 rfl) u rfl
      rcases pendO_form 3 #[.int .i64 0] vb with ⟨g', rfl⟩ | hbad
      · exact wpOp_append (es := [blkE X.m 75 #[.pointer (some ⟨X.mh, 0, none⟩), .pointer (some ⟨X.mi, 0, none⟩), U0, U1, u, U3, X.vc, X.vi], pureE (∀ v, e0 = some v → v = U0), pureE (∀ v, e3 = some v → v = U1), pureE (∀ v, some u = some v → v = u), pureE (∀ v, e9 = some v → v = U3), tabO2 3 1 U0 (intRows X.kd) [.int .i64 kk] (some x0), tabO2 3 1 U1 (intRows X.rt) [.int .i64 (-1)] (some x1)]) (fs := tabO2 27 2 U3 (rowsR X.rf) [.int .i64 ra, .int .i64 rg] e11 :: (pendO 27 #[.int .i64 ra, .int .i64 rg] e10 e11 ++ OTH)) (g := g') ⟨21, 22, 210, 211, 22, 3, 1, 8, .int .i64 0, .tmp 209, .const (.int .i64 0), u, (intRows X.nn), #[.int .i64 0], .int .i64 0⟩ rfl rfl rfl rfl Try.underlying22 info_int_ rfl (show 0 < 1 by decide) (show 8 ≤ 1000 by decide) (by show ((intRows X.nn)).length ≤ _; simp [intRows, rowsR]; omega) rfl (one_int _) (hev 6 ⟨20, 209⟩ _ rfl rfl) (hev 7 ⟨21, 210⟩ _ rfl rfl) hl hK
      · have hf : (pureE False).is wa := hl.all _ (by
          simp only [ents28, List.getD_cons_zero, List.getD_cons_succ, hbad]
          simp)
        exact hf.elim
    · simp at he hj
      subst he hj
      have h24 : a.eval (.tmp 214) = .pointer (some ⟨X.m, 5, none⟩) := (hst (.tmp 214) (by simp)).trans (by kernel_rfl)
      have d4 := hm.cell 5
      simp only [List.getElem?_toArray, List.getElem?_cons_zero, List.getElem?_cons_succ] at d4
      have h24' : a.tmps[214]?.getD undef = .pointer (some ⟨X.m, 5, none⟩) := by simpa [Act.eval] using h24
      refine wpOp_load (v := U3) rfl rfl rfl (by simp [execOp, h24', go_sem, d4]) (hK U3 wa ?_)
      exact Led.pure_ (es := [blkE X.m 75 #[.pointer (some ⟨X.mh, 0, none⟩), .pointer (some ⟨X.mi, 0, none⟩), U0, U1, U2, U3, X.vc, X.vi], pureE (∀ v, e0 = some v → v = U0), pureE (∀ v, e3 = some v → v = U1), pureE (∀ v, e6 = some v → v = U2)]) (fs := _) hl (fun v hv => by injection hv with hv; exact hv.symm)
    · simp at he hj
      subst he hj
      obtain rfl := c3 rfl
      have hl2 : Led B w0 wa (([blkE X.m 75 #[.pointer (some ⟨X.mh, 0, none⟩), .pointer (some ⟨X.mi, 0, none⟩), U0, U1, U2, U3, X.vc, X.vi], pureE (∀ v, e0 = some v → v = U0), pureE (∀ v, e3 = some v → v = U1), pureE (∀ v, e6 = some v → v = U2), pureE (∀ v, e9 = some v → v = U3), tabO2 3 1 U0 (intRows X.kd) [.int .i64 kk] e2] ++ (pendO 3 #[.int .i64 kk] e1 e2 ++ tabO2 3 1 U1 (intRows X.rt) [.int .i64 (-1)] e5 :: (pendO 3 #[.int .i64 (-1)] e4 e5 ++ tabO2 3 1 U2 (intRows X.nn) [.int .i64 0] e8 :: (pendO 3 #[.int .i64 0] e7 e8 ++ [tabO2 27 2 U3 (rowsR X.rf) [.int .i64 ra, .int .i64 rg] none])))) ++ (OTH)) := by simpa [ents28, pendO] using hl
      refine wpOp_build ⟨28, 29, 217, 218, 25, 27, 2, 16, .agg #[.int .i64 0, .int .i64 0], .tmp 215, .tmp 216, U3, [], #[.int .i64 ra, .int .i64 rg], .agg #[.int .i64 ra, .int .i64 rg]⟩ rfl rfl rfl rfl Try.underlying25 info_ref_ (show 0 < 2 by decide) (show 2 ≤ 1000 by decide) (by rw [show a.eval (.tmp 216) = .agg #[.int .i64 ra, .int .i64 rg] from (hst (.tmp 216) (by simp)).trans (by kernel_rfl)]; exact fill_2 _ _ _ _ rfl) hl2 (fun g' w' hw' => hK _ _ ?_)
      simpa [ents28, pendO] using hw'
    · simp at he hj
      subst he hj
      obtain ⟨u, hu⟩ := hdep 9 (by simp)
      obtain ⟨vb, hvb⟩ := hdep 10 (by simp)
      simp at hu hvb
      subst hu hvb
      obtain ⟨x2, hx2⟩ := hdep 8 (by simp)
      simp at hx2
      subst hx2
      obtain ⟨x1, rfl⟩ : ∃ y, e5 = some y := by obtain ⟨u, hu⟩ := hcl 8 5 (by simp) ⟨x2, rfl⟩; exact ⟨u, by simpa using hu⟩
      obtain ⟨x0, rfl⟩ : ∃ y, e2 = some y := by obtain ⟨u, hu⟩ := hcl 5 2 (by simp) ⟨x1, rfl⟩; exact ⟨u, by simpa using hu⟩
      obtain rfl : u = U3 := (show ∀ v, some u = some v → v = U3 from hl.at_ 4 rfl) u rfl
      rcases pendO_form 27 #[.int .i64 ra, .int .i64 rg] vb with ⟨g', rfl⟩ | hbad
      · exact wpOp_append (es := [blkE X.m 75 #[.pointer (some ⟨X.mh, 0, none⟩), .pointer (some ⟨X.mi, 0, none⟩), U0, U1, U2, u, X.vc, X.vi], pureE (∀ v, e0 = some v → v = U0), pureE (∀ v, e3 = some v → v = U1), pureE (∀ v, e6 = some v → v = U2), pureE (∀ v, some u = some v → v = u), tabO2 3 1 U0 (intRows X.kd) [.int .i64 kk] (some x0), tabO2 3 1 U1 (intRows X.rt) [.int .i64 (-1)] (some x1), tabO2 3 1 U2 (intRows X.nn) [.int .i64 0] (some x2)]) (fs := OTH) (g := g') ⟨28, 29, 217, 218, 25, 27, 2, 16, .agg #[.int .i64 0, .int .i64 0], .tmp 215, .tmp 216, u, (rowsR X.rf), #[.int .i64 ra, .int .i64 rg], .agg #[.int .i64 ra, .int .i64 rg]⟩ rfl rfl rfl rfl Try.underlying25 info_ref_ rfl (show 0 < 2 by decide) (show 16 ≤ 1000 by decide) (by show ((rowsR X.rf)).length ≤ _; simp [intRows, rowsR]; omega) rfl (one_ref _ _) (hev 9 ⟨26, 215⟩ _ rfl rfl) (hev 10 ⟨28, 217⟩ _ rfl rfl) hl hK
      · have hf : (pureE False).is wa := hl.all _ (by
          simp only [ents28, List.getD_cons_zero, List.getD_cons_succ, hbad]
          simp)
        exact hf.elim
    · simp at he
  case hfin =>
    intro zs wz hz1 hz2 hl
    obtain ⟨u0, u1, u2, u3, u4, u5, u6, u7, u8, u9, u10, u11, rfl⟩ := finE12 hz1 hz2
    clear hz1 hz2
    have h1 : Led B w0 wz (blkE X.m 75 #[.pointer (some ⟨X.mh, 0, none⟩), .pointer (some ⟨X.mi, 0, none⟩), U0, U1, U2, U3, X.vc, X.vi] :: tabE 3 1 u2 ((intRows X.kd) ++ [[.int .i64 kk]]) :: tabE 3 1 u5 ((intRows X.rt) ++ [[.int .i64 (-1)]]) :: tabE 3 1 u8 ((intRows X.nn) ++ [[.int .i64 0]]) :: tabE 27 2 u11 ((rowsR X.rf) ++ [[.int .i64 ra, .int .i64 rg]]) :: OTH) := hl.sub (.cons_cons _ (.cons _ (.cons _ (.cons _ (.cons _ (List.Sublist.refl _))))))
    have hHeld := HSX.out _ _ hl
    clear hl
    obtain ⟨A0, c0, hu0, _, _⟩ := (show TabIs wz 0 3 1 u2 ((intRows X.kd) ++ [[.int .i64 kk]]) from h1.at_ 1 rfl).form
    have ll0 : ((intRows X.kd) ++ [([.int .i64 kk] : List Value)]).length = X.kd.length + 1 := by simp [intRows, rowsR]
    rw [ll0] at hu0
    subst hu0
    obtain ⟨A1, c1, hu1, _, _⟩ := (show TabIs wz 0 3 1 u5 ((intRows X.rt) ++ [[.int .i64 (-1)]]) from h1.at_ 2 rfl).form
    have ll1 : ((intRows X.rt) ++ [([.int .i64 (-1)] : List Value)]).length = X.rt.length + 1 := by simp [intRows, rowsR]
    rw [ll1] at hu1
    subst hu1
    obtain ⟨A2, c2, hu2, _, _⟩ := (show TabIs wz 0 3 1 u8 ((intRows X.nn) ++ [[.int .i64 0]]) from h1.at_ 3 rfl).form
    have ll2 : ((intRows X.nn) ++ [([.int .i64 0] : List Value)]).length = X.nn.length + 1 := by simp [intRows, rowsR]
    rw [ll2] at hu2
    subst hu2
    obtain ⟨A3, c3, hu3, _, _⟩ := (show TabIs wz 0 27 2 u11 ((rowsR X.rf) ++ [[.int .i64 ra, .int .i64 rg]]) from h1.at_ 4 rfl).form
    have ll3 : ((rowsR X.rf) ++ [([.int .i64 ra, .int .i64 rg] : List Value)]).length = X.rf.length + 1 := by simp [intRows, rowsR]
    rw [ll3] at hu3
    subst hu3
    have hm0 : Blk wz X.m 75 #[.pointer (some ⟨X.mh, 0, none⟩), .pointer (some ⟨X.mi, 0, none⟩), U0, U1, U2, U3, X.vc, X.vi] := h1.at_ 0 rfl
    have hm1 := hm0.set_ 2 (.slice A0 (X.kd.length + 1) c0)
    have hm2 := hm1.set_ 3 (.slice A1 (X.rt.length + 1) c1)
    have hm3 := hm2.set_ 4 (.slice A2 (X.nn.length + 1) c2)
    have hm4 := hm3.set_ 5 (.slice A3 (X.rf.length + 1) c3)
    have h2 := h1.step 0 rfl (blkE X.m 75 #[.pointer (some ⟨X.mh, 0, none⟩), .pointer (some ⟨X.mi, 0, none⟩), (.slice A0 (X.kd.length + 1) c0), (.slice A1 (X.rt.length + 1) c1), (.slice A2 (X.nn.length + 1) c2), (.slice A3 (X.rf.length + 1) c3), X.vc, X.vi]) (((((Chg.refl _ _).setCell (p := ⟨X.m, 2, none⟩) (.inl (by simp [blkE])) (.slice A0 (X.kd.length + 1) c0)).setCell (p := ⟨X.m, 3, none⟩) (.inl (by simp [blkE])) (.slice A1 (X.rt.length + 1) c1)).setCell (p := ⟨X.m, 4, none⟩) (.inl (by simp [blkE])) (.slice A2 (X.nn.length + 1) c2)).setCell (p := ⟨X.m, 5, none⟩) (.inl (by simp [blkE])) (.slice A3 (X.rf.length + 1) c3)) (by simpa [blkE] using hm4) (Fresh.refl _ _)
    have H3 := Lib.hid (HBACK.out (.slice A0 (X.kd.length + 1) c0) (.slice A1 (X.rt.length + 1) c1) (.slice A2 (X.nn.length + 1) c2) (.slice A3 (X.rf.length + 1) c3) _ h2)
    have d0 := hm0.cell 2
    have f0 := hm0.frozen 2
    have d1 := hm0.cell 3
    have f1 := hm0.frozen 3
    have d2 := hm0.cell 4
    have f2 := hm0.frozen 4
    have d3 := hm0.cell 5
    have f3 := hm0.frozen 5
    simp only [List.getElem?_toArray, List.getElem?_cons_zero, List.getElem?_cons_succ] at d0 d1 d2 d3
    clear h1 h2 hm0 hm1 hm2 hm3 hm4 HB
    simp only [foldE, List.foldl_cons, List.foldl_nil, putE, Act.put, List.setIfInBounds_toArray, List.set_cons_zero, List.set_cons_succ]
    refine wpAnyH_read (i := 30) (d := 219) (v := ?_) rfl rfl rfl (by as_aux_lemma => kernel_rfl) (by as_aux_lemma => kernel_rfl) (by as_aux_lemma => kernel_rfl) (fun c a w h => HP.out c a _ _ w h) hHeld ?_ ?_
    rotate_left
    · intro w hSw
      (try dsimp only at hSw)
      go_simp
      (try with_reducible rfl)
    (try simp only [List.setIfInBounds_toArray, List.set_cons_zero, List.set_cons_succ])
    refine wpAnyH_read (i := 31) (d := 220) (v := ?_) rfl rfl rfl (by as_aux_lemma => kernel_rfl) (by as_aux_lemma => kernel_rfl) (by as_aux_lemma => kernel_rfl) (fun c a w h => HP.out c a _ _ w h) hHeld ?_ ?_
    rotate_left
    · intro w hSw
      (try dsimp only at hSw)
      go_simp
      (try with_reducible rfl)
    (try simp only [List.setIfInBounds_toArray, List.set_cons_zero, List.set_cons_succ])
    refine wpAnyH_ready (rs := [32]) (by kernel_rfl) (by simp) ?_
    refine AllReadyH.cons (o := _) rfl (fun K hK => ?_) AllReadyH.nil
    go_simp
    refine hK.out _ _ (⟨(cell_far hne _).trans hHeld.1, (cell_far hne _).trans hHeld.2⟩) (fun hHeld => ?_)
    refine wpAnyH_read (i := 33) (d := 221) (v := ?_) rfl rfl rfl (by as_aux_lemma => kernel_rfl) (by as_aux_lemma => kernel_rfl) (by as_aux_lemma => kernel_rfl) (fun c a w h => HP.out c a _ _ w h) hHeld ?_ ?_
    rotate_left
    · intro w hSw
      (try dsimp only at hSw)
      go_simp
      (try with_reducible rfl)
    (try simp only [List.setIfInBounds_toArray, List.set_cons_zero, List.set_cons_succ])
    refine wpAnyH_read (i := 34) (d := 222) (v := ?_) rfl rfl rfl (by as_aux_lemma => kernel_rfl) (by as_aux_lemma => kernel_rfl) (by as_aux_lemma => kernel_rfl) (fun c a w h => HP.out c a _ _ w h) hHeld ?_ ?_
    rotate_left
    · intro w hSw
      (try dsimp only at hSw)
      go_simp
      (try with_reducible rfl)
    (try simp only [List.setIfInBounds_toArray, List.set_cons_zero, List.set_cons_succ])
    refine wpAnyH_ready (rs := [35]) (by kernel_rfl) (by simp) ?_
    refine AllReadyH.cons (o := _) rfl (fun K hK => ?_) AllReadyH.nil
    go_simp
    refine hK.out _ _ (⟨(cell_far hne _).trans hHeld.1, (cell_far hne _).trans hHeld.2⟩) (fun hHeld => ?_)
    refine wpAnyH_read (i := 36) (d := 223) (v := ?_) rfl rfl rfl (by as_aux_lemma => kernel_rfl) (by as_aux_lemma => kernel_rfl) (by as_aux_lemma => kernel_rfl) (fun c a w h => HP.out c a _ _ w h) hHeld ?_ ?_
    rotate_left
    · intro w hSw
      (try dsimp only at hSw)
      go_simp
      (try with_reducible rfl)
    (try simp only [List.setIfInBounds_toArray, List.set_cons_zero, List.set_cons_succ])
    refine wpAnyH_read (i := 37) (d := 224) (v := ?_) rfl rfl rfl (by as_aux_lemma => kernel_rfl) (by as_aux_lemma => kernel_rfl) (by as_aux_lemma => kernel_rfl) (fun c a w h => HP.out c a _ _ w h) hHeld ?_ ?_
    rotate_left
    · intro w hSw
      (try dsimp only at hSw)
      go_simp
      (try with_reducible rfl)
    (try simp only [List.setIfInBounds_toArray, List.set_cons_zero, List.set_cons_succ])
    refine wpAnyH_ready (rs := [38]) (by kernel_rfl) (by simp) ?_
    refine AllReadyH.cons (o := _) rfl (fun K hK => ?_) AllReadyH.nil
    go_simp
    refine hK.out _ _ (⟨(cell_far hne _).trans hHeld.1, (cell_far hne _).trans hHeld.2⟩) (fun hHeld => ?_)
    refine wpAnyH_read (i := 39) (d := 225) (v := ?_) rfl rfl rfl (by as_aux_lemma => kernel_rfl) (by as_aux_lemma => kernel_rfl) (by as_aux_lemma => kernel_rfl) (fun c a w h => HP.out c a _ _ w h) hHeld ?_ ?_
    rotate_left
    · intro w hSw
      (try dsimp only at hSw)
      go_simp
      (try with_reducible rfl)
    (try simp only [List.setIfInBounds_toArray, List.set_cons_zero, List.set_cons_succ])
    refine wpAnyH_read (i := 40) (d := 226) (v := ?_) rfl rfl rfl (by as_aux_lemma => kernel_rfl) (by as_aux_lemma => kernel_rfl) (by as_aux_lemma => kernel_rfl) (fun c a w h => HP.out c a _ _ w h) hHeld ?_ ?_
    rotate_left
    · intro w hSw
      (try dsimp only at hSw)
      go_simp
      (try with_reducible rfl)
    (try simp only [List.setIfInBounds_toArray, List.set_cons_zero, List.set_cons_succ])
    refine wpAnyH_ready (rs := [41]) (by kernel_rfl) (by simp) ?_
    refine AllReadyH.cons (o := _) rfl (fun K hK => ?_) AllReadyH.nil
    go_simp
    refine hK.out _ _ (⟨(cell_far hne _).trans hHeld.1, (cell_far hne _).trans hHeld.2⟩) (fun hHeld => ?_)
    refine wpAnyH_done (by as_aux_lemma => kernel_rfl) ?_ _
    exact HQ.out _ _ _ _ _ _ rfl rfl ⟨rfl, rfl, rfl, rfl, rfl, rfl, rfl, rfl, rfl, rfl, rfl, rfl, rfl, rfl, rfl⟩ H3.out
end Go.Proofs.Ytognmhgdegpdiaa
