import Derived.Test.YtognmhgdegpdiaaRefPool4
/- The document's own pool (thicketref2): Take of a new place. -/
namespace Go.Proofs.Ytognmhgdegpdiaa
open Go.RowKit
set_option linter.unusedVariables false
set_option linter.unusedSimpArgs false
set_option maxRecDepth 100000

def tabO (t : TypeId) (v : Value) (L : List (List Value)) (row : List Value) (o : Option Value) : Ent := match o with
  | none => tabE t 1 v L
  | some u => tabE t 1 u (L ++ [row])
def pendO (t : TypeId) (cs : Array Value) (b a : Option Value) : List Ent := match a with
  | some _ => []
  | none => match b with
    | some (.slice (some ⟨g, 0, none⟩) 1 1) => [blkE g t cs]
    | some _ => [pureE False]
    | none => []
theorem pendO_form (t : TypeId) (cs : Array Value) (vb : Value) : (∃ g, vb = .slice (some ⟨g, 0, none⟩) 1 1) ∨ pendO t cs (some vb) none = [pureE False] := by
  by_cases h : ∃ g, vb = .slice (some ⟨g, 0, none⟩) 1 1
  · exact .inl h
  · right
    unfold pendO
    simp only
    split
    · rename_i g heq
      injection heq with heq
      exact absurd ⟨g, heq⟩ h
    · rfl
    · rename_i heq
      cases heq
def freshEnts (m : Nat) (gv iv vv bv : Value) (r : PSt Int) (hb : Nat) (es : List Ent) (env : List (Option Value)) : List Ent :=
  blkE m 82 #[.int .i64 r.most, gv, iv, vv, bv] :: pureE (∀ v, env.getD 0 none = some v → v = gv) :: pureE (∀ v, env.getD 3 none = some v → v = iv) :: pureE (∀ v, env.getD 6 none = some v → v = vv) ::
    tabO 3 gv (gensL r) [.int .i64 0] (env.getD 2 none) :: (pendO 3 #[.int .i64 0] (env.getD 1 none) (env.getD 2 none) ++
    tabO 4 iv (insL r) [.bool false] (env.getD 5 none) :: (pendO 4 #[.bool false] (env.getD 4 none) (env.getD 5 none) ++
    tabO 2 vv (vsL r) [.int .i64 0] (env.getD 8 none) :: (pendO 2 #[.int .i64 0] (env.getD 7 none) (env.getD 8 none) ++
    tabE 3 1 bv (backL r) :: blkE hb 27 #[.int .i64 0, .int .i64 0] :: es)))

theorem set_last {α : Type} (l : List α) (a b : α) : (l ++ [a]).set l.length b = l ++ [b] := by
  rw [List.set_append_right _ _ (Nat.le_refl _), Nat.sub_self]; rfl

set_option maxHeartbeats 4000000 in
theorem ref_take_fresh (B m : Nat) (gv iv vv bv : Value) (r : PSt Int) (v : Int) (w0 w : World) (es : List Ent) (h : Led B w0 w (refEs m gv iv vv bv r ++ es)) (hf : r.free = []) (hle : r.l.length ≤ 65536) (hmo : r.most ≤ 65536) (hfull : r.l.length < r.most) :
    Calls Try.prog 38 #[.pointer (some ⟨m, 0, none⟩), .int .i64 v] w fun e w' => e = .returned (.tuple #[.agg #[.int .i64 r.l.length, .int .i64 1], .bool true]) ∧ ∃ gv' iv' vv' bv', Led B w0 w' (refEs m gv' iv' vv' bv' (r.fresh v) ++ es) := by
  obtain ⟨A, c, rfl, hc, hA⟩ := tab1_form (refGens h) (gensL_len r)
  obtain ⟨A2, c2, rfl, hc2, hA2⟩ := tab1_form (refIns h) (insL_len r)
  obtain ⟨A3, c3, rfl, hc3, hA3⟩ := tab1_form (refVs h) (vsL_len r)
  obtain ⟨A4, c4, rfl, hc4, hA4⟩ := tab1_form (refBack h) (show (backL r).length = 0 by rw [backL_len, hf]; rfl)
  have hmlt := (refBlk h).lt
  have d0 := (refBlk h).cell 0
  have d1 := (refBlk h).cell 1
  have d4 := (refBlk h).cell 4
  simp only [List.getElem?_toArray, List.getElem?_cons_zero, List.getElem?_cons_succ] at d0 d1 d4
  have hd : decide ((r.most : Int) ≤ r.l.length) = false := by simp; omega
  have hb1 := h.add (blkE w.heap.size 27 #[.int .i64 0, .int .i64 0]) ((Below.refl _ _).alloc (Nat.le_refl _) (.cells #[.int .i64 0, .int .i64 0] 27)) (Blk.new w _ _) (fun b hb => by simp [blkE] at hb; omega) |>.perm (List.perm_middle (l₁ := refEs m _ _ _ _ _)).symm
  obtain ⟨GV, hGV⟩ : ∃ u, Value.slice A r.l.length c = u := ⟨_, rfl⟩
  obtain ⟨IV, hIV⟩ : ∃ u, Value.slice A2 r.l.length c2 = u := ⟨_, rfl⟩
  obtain ⟨VV, hVV⟩ : ∃ u, Value.slice A3 r.l.length c3 = u := ⟨_, rfl⟩
  obtain ⟨BV, hBV⟩ : ∃ u, Value.slice A4 0 c4 = u := ⟨_, rfl⟩
  rw [hGV, hIV, hVV, hBV] at hb1
  have ins3 : ∀ {a : Ent} {xs : List Ent} {W : World} (p q s : Prop), p → q → s → Led B w0 W (a :: xs) → Led B w0 W (a :: pureE p :: pureE q :: pureE s :: xs) := fun p q s hp hq hs h =>
    Led.insert (es := [_]) (Led.insert (es := [_]) (Led.insert (es := [_]) (fs := _) h (pureE s) (Below.refl _ _) hs (by simp [pureE])) (pureE q) (Below.refl _ _) hq (by simp [pureE])) (pureE p) (Below.refl _ _) hp (by simp [pureE])
  have hb2 : Led B w0 _ (freshEnts m GV IV VV BV r w.heap.size es [none, none, none, none, none, none, none, none, none]) := ins3 _ _ _ (fun v hv => by cases hv) (fun v hv => by cases hv) (fun v hv => by cases hv) hb1
  have HB := Lib.hid hb2
  have HF := Lib.hid hf
  have HGV := Lib.hid hGV
  have HIV := Lib.hid hIV
  have HVV := Lib.hid hVV
  have HBV := Lib.hid hBV
  clear h hA hA2 hA3 hA4 hb1 hb2 hf hGV hIV hVV hBV
  refine callsR fun R hR => ?_
  go_enter Try.func38, Try.ntmps38
  go_wp2_with fail
  clear d0 d1 d4
  refine wp_region_held_drew (S := fun _ => True) (by kernel_rfl) trivial (fun hHeld => ?_)
  clear hHeld
  refine wpAnyH_read (i := 0) (d := 45) (v := ?_) rfl rfl rfl (by kernel_rfl) (by kernel_rfl) (by kernel_rfl) (fun _ _ _ h => h) trivial ?_ ?_
  rotate_left
  · intro w hSw
    clear hSw
    go_simp
    (try with_reducible rfl)
  (try simp only [List.setIfInBounds_toArray, List.set_cons_zero, List.set_cons_succ])
  refine wpAnyH_read (i := 1) (d := 46) (v := ?_) rfl rfl rfl (by kernel_rfl) (by kernel_rfl) (by kernel_rfl) (fun _ _ _ h => h) trivial ?_ ?_
  rotate_left
  · intro w hSw
    clear hSw
    go_simp
    (try with_reducible rfl)
  (try simp only [List.setIfInBounds_toArray, List.set_cons_zero, List.set_cons_succ])
  refine wpAnyH_read (i := 2) (d := 47) (v := ?_) rfl rfl rfl (by kernel_rfl) (by kernel_rfl) (by kernel_rfl) (fun _ _ _ h => h) trivial ?_ ?_
  rotate_left
  · intro w hSw
    clear hSw
    go_simp
    (try with_reducible rfl)
  (try simp only [List.setIfInBounds_toArray, List.set_cons_zero, List.set_cons_succ])
  refine wpAnyH_read (i := 3) (d := 48) (v := ?_) rfl rfl rfl (by kernel_rfl) (by kernel_rfl) (by kernel_rfl) (fun _ _ _ h => h) trivial ?_ ?_
  rotate_left
  · intro w hSw
    clear hSw
    go_simp
    (try with_reducible rfl)
  (try simp only [List.setIfInBounds_toArray, List.set_cons_zero, List.set_cons_succ])
  refine wpAnyH_read (i := 4) (d := 49) (v := ?_) rfl rfl rfl (by kernel_rfl) (by kernel_rfl) (by kernel_rfl) (fun _ _ _ h => h) trivial ?_ ?_
  rotate_left
  · intro w hSw
    clear hSw
    go_simp
    (try with_reducible rfl)
  (try simp only [List.setIfInBounds_toArray, List.set_cons_zero, List.set_cons_succ])
  refine wpAnyH_read (i := 5) (d := 50) (v := ?_) rfl rfl rfl (by kernel_rfl) (by kernel_rfl) (by kernel_rfl) (fun _ _ _ h => h) trivial ?_ ?_
  rotate_left
  · intro w hSw
    clear hSw
    go_simp
    (try with_reducible rfl)
  (try simp only [List.setIfInBounds_toArray, List.set_cons_zero, List.set_cons_succ])
  refine wpAnyH_read (i := 9) (d := 54) (v := ?_) rfl rfl rfl (by kernel_rfl) (by kernel_rfl) (by kernel_rfl) (fun _ _ _ h => h) trivial ?_ ?_
  rotate_left
  · intro w hSw
    clear hSw
    go_simp
    (try with_reducible rfl)
  (try simp only [List.setIfInBounds_toArray, List.set_cons_zero, List.set_cons_succ])
  refine wpAnyH_read (i := 10) (d := 55) (v := ?_) rfl rfl rfl (by kernel_rfl) (by kernel_rfl) (by kernel_rfl) (fun _ _ _ h => h) trivial ?_ ?_
  rotate_left
  · intro w hSw
    clear hSw
    go_simp
    (try with_reducible rfl)
  (try simp only [List.setIfInBounds_toArray, List.set_cons_zero, List.set_cons_succ])
  refine wpAnyH_read (i := 11) (d := 56) (v := ?_) rfl rfl rfl (by kernel_rfl) (by kernel_rfl) (by kernel_rfl) (fun _ _ _ h => h) trivial ?_ ?_
  rotate_left
  · intro w hSw
    clear hSw
    go_simp
    (try with_reducible rfl)
  (try simp only [List.setIfInBounds_toArray, List.set_cons_zero, List.set_cons_succ])
  refine wpAnyH_read (i := 15) (d := 60) (v := ?_) rfl rfl rfl (by kernel_rfl) (by kernel_rfl) (by kernel_rfl) (fun _ _ _ h => h) trivial ?_ ?_
  rotate_left
  · intro w hSw
    clear hSw
    go_simp
    (try with_reducible rfl)
  (try simp only [List.setIfInBounds_toArray, List.set_cons_zero, List.set_cons_succ])
  refine wpAnyH_read (i := 16) (d := 61) (v := ?_) rfl rfl rfl (by kernel_rfl) (by kernel_rfl) (by kernel_rfl) (fun _ _ _ h => h) trivial ?_ ?_
  rotate_left
  · intro w hSw
    clear hSw
    go_simp
    (try with_reducible rfl)
  (try simp only [List.setIfInBounds_toArray, List.set_cons_zero, List.set_cons_succ])
  refine wpAnyH_read (i := 17) (d := 62) (v := ?_) rfl rfl rfl (by kernel_rfl) (by kernel_rfl) (by kernel_rfl) (fun _ _ _ h => h) trivial ?_ ?_
  rotate_left
  · intro w hSw
    clear hSw
    go_simp
    (try with_reducible rfl)
  (try simp only [List.setIfInBounds_toArray, List.set_cons_zero, List.set_cons_succ])
  refine wpAnyH_effects0 (B := B) (w0 := w0) (F := 9) [⟨6, 51⟩, ⟨7, 52⟩, ⟨8, 53⟩, ⟨12, 57⟩, ⟨13, 58⟩, ⟨14, 59⟩, ⟨18, 63⟩, ⟨19, 64⟩, ⟨20, 65⟩] [[], [], [0, 1], [], [], [3, 4, 2], [], [], [6, 7, 5]] (freshEnts m GV IV VV BV r w.heap.size es) (by kernel_rfl) (HB.out.drew) (by decide) (by simp) ?hlaw (fun _ _ _ _ => trivial) ?hfin
  case hlaw =>
    intro j e he
    unfold EffLaw
    intro env a wa K hlen hj hdep hcl hev hst hl hK
    rcases env with _ | ⟨e0, _ | ⟨e1, _ | ⟨e2, _ | ⟨e3, _ | ⟨e4, _ | ⟨e5, _ | ⟨e6, _ | ⟨e7, _ | ⟨e8, _ | ⟨e9, env⟩⟩⟩⟩⟩⟩⟩⟩⟩⟩
    any_goals (simp at hlen; done)
    have hm : Blk wa m 82 #[.int .i64 r.most, GV, IV, VV, BV] := hl.at_ 0 rfl
    have c21 : e1 = none → e2 = none := fun h1 => by
      cases e2 with
      | none => rfl
      | some v => obtain ⟨u, hu⟩ := hcl 2 1 (by simp) ⟨v, rfl⟩; rw [h1] at hu; simp at hu
    have c54 : e4 = none → e5 = none := fun h1 => by
      cases e5 with
      | none => rfl
      | some v => obtain ⟨u, hu⟩ := hcl 5 4 (by simp) ⟨v, rfl⟩; rw [h1] at hu; simp at hu
    have c87 : e7 = none → e8 = none := fun h1 => by
      cases e8 with
      | none => rfl
      | some v => obtain ⟨u, hu⟩ := hcl 8 7 (by simp) ⟨v, rfl⟩; rw [h1] at hu; simp at hu
    rcases j with _ | _ | _ | _ | _ | _ | _ | _ | _ | j
    · simp at he hj
      subst he hj
      have h24 : a.eval (.tmp 50) = .pointer (some ⟨m, 1, none⟩) := (hst (.tmp 50) (by simp)).trans (by kernel_rfl)
      have d4 := hm.cell 1
      simp only [List.getElem?_toArray, List.getElem?_cons_zero, List.getElem?_cons_succ] at d4
      have h24' : a.tmps[50]?.getD undef = .pointer (some ⟨m, 1, none⟩) := by simpa [Act.eval] using h24
      refine wpOp_load (v := GV) rfl rfl rfl (by simp [execOp, h24', go_sem, d4]) (hK GV wa ?_)
      exact Led.pure_ (es := [blkE m 82 #[.int .i64 r.most, GV, IV, VV, BV]]) (fs := _) hl (fun v hv => by injection hv with hv; exact hv.symm)
    · simp at he hj
      subst he hj
      obtain rfl := c21 rfl
      have hl2 : Led B w0 wa ([blkE m 82 #[.int .i64 r.most, GV, IV, VV, BV], pureE (∀ v, e0 = some v → v = GV), pureE (∀ v, e3 = some v → v = IV), pureE (∀ v, e6 = some v → v = VV), tabO 3 GV (gensL r) [.int .i64 0] none] ++ (tabO 4 IV (insL r) [.bool false] e5 :: (pendO 4 #[.bool false] e4 e5 ++ tabO 2 VV (vsL r) [.int .i64 0] e8 :: (pendO 2 #[.int .i64 0] e7 e8 ++ tabE 3 1 BV (backL r) :: blkE w.heap.size 27 #[.int .i64 0, .int .i64 0] :: es)))) := by simpa [freshEnts, pendO] using hl
      refine wpOp_build ⟨7, 8, 52, 53, 22, 3, 1, 8, .int .i64 0, .tmp 51, .const (.int .i64 0), GV, [], #[.int .i64 0], .int .i64 0⟩ rfl rfl rfl rfl Try.underlying22 info_int_ (show 0 < 1 by decide) (show 1 ≤ 1000 by decide) (fill_1 _ _ rfl) hl2 (fun g' w' hw' => hK _ _ ?_)
      simpa [freshEnts, pendO] using hw'
    · simp at he hj
      subst he hj
      obtain ⟨u, hu⟩ := hdep 0 (by simp)
      obtain ⟨vb, hvb⟩ := hdep 1 (by simp)
      simp at hu hvb
      subst hu hvb
      obtain rfl : u = GV := (show ∀ v, some u = some v → v = GV from hl.at_ 1 rfl) u rfl
      rcases pendO_form 3 #[.int .i64 0] vb with ⟨g', rfl⟩ | hbad
      · exact wpOp_append (es := [blkE m 82 #[.int .i64 r.most, u, IV, VV, BV], pureE (∀ v, some u = some v → v = u), pureE (∀ v, e3 = some v → v = IV), pureE (∀ v, e6 = some v → v = VV)]) (fs := (tabO 4 IV (insL r) [.bool false] e5 :: (pendO 4 #[.bool false] e4 e5 ++ tabO 2 VV (vsL r) [.int .i64 0] e8 :: (pendO 2 #[.int .i64 0] e7 e8 ++ tabE 3 1 BV (backL r) :: blkE w.heap.size 27 #[.int .i64 0, .int .i64 0] :: es)))) (g := g') ⟨7, 8, 52, 53, 22, 3, 1, 8, .int .i64 0, .tmp 51, .const (.int .i64 0), u, gensL r, #[.int .i64 0], .int .i64 0⟩ rfl rfl rfl rfl Try.underlying22 info_int_ rfl (show 0 < 1 by decide) (show 8 ≤ 1000 by decide) (by show (gensL r).length ≤ _; simp [gensL_len, insL_len, vsL_len]; omega) rfl (one_int _) (hev 0 ⟨6, 51⟩ _ rfl rfl) (hev 1 ⟨7, 52⟩ _ rfl rfl) hl hK
      · have hf : (pureE False).is wa := hl.all _ (by
          simp only [freshEnts, List.getD_cons_zero, List.getD_cons_succ, hbad]
          simp)
        exact hf.elim
    · simp at he hj
      subst he hj
      have h24 : a.eval (.tmp 56) = .pointer (some ⟨m, 2, none⟩) := (hst (.tmp 56) (by simp)).trans (by kernel_rfl)
      have d4 := hm.cell 2
      simp only [List.getElem?_toArray, List.getElem?_cons_zero, List.getElem?_cons_succ] at d4
      have h24' : a.tmps[56]?.getD undef = .pointer (some ⟨m, 2, none⟩) := by simpa [Act.eval] using h24
      refine wpOp_load (v := IV) rfl rfl rfl (by simp [execOp, h24', go_sem, d4]) (hK IV wa ?_)
      exact Led.pure_ (es := [blkE m 82 #[.int .i64 r.most, GV, IV, VV, BV], pureE (∀ v, e0 = some v → v = GV)]) (fs := _) hl (fun v hv => by injection hv with hv; exact hv.symm)
    · simp at he hj
      subst he hj
      obtain rfl := c54 rfl
      have hl2 : Led B w0 wa (([blkE m 82 #[.int .i64 r.most, GV, IV, VV, BV], pureE (∀ v, e0 = some v → v = GV), pureE (∀ v, e3 = some v → v = IV), pureE (∀ v, e6 = some v → v = VV), tabO 3 GV (gensL r) [.int .i64 0] e2] ++ (pendO 3 #[.int .i64 0] e1 e2 ++ [tabO 4 IV (insL r) [.bool false] none])) ++ (tabO 2 VV (vsL r) [.int .i64 0] e8 :: (pendO 2 #[.int .i64 0] e7 e8 ++ tabE 3 1 BV (backL r) :: blkE w.heap.size 27 #[.int .i64 0, .int .i64 0] :: es))) := by simpa [freshEnts, pendO] using hl
      refine wpOp_build ⟨13, 14, 58, 59, 37, 4, 1, 1, .bool false, .tmp 57, .const (.bool false), IV, [], #[.bool false], .bool false⟩ rfl rfl rfl rfl Try.underlying37 info_bool_ (show 0 < 1 by decide) (show 1 ≤ 1000 by decide) (fill_1 _ _ rfl) hl2 (fun g' w' hw' => hK _ _ ?_)
      simpa [freshEnts, pendO] using hw'
    · simp at he hj
      subst he hj
      obtain ⟨u, hu⟩ := hdep 3 (by simp)
      obtain ⟨vb, hvb⟩ := hdep 4 (by simp)
      simp at hu hvb
      subst hu hvb
      obtain ⟨x0, hx0⟩ := hdep 2 (by simp)
      simp at hx0
      subst hx0
      obtain rfl : u = IV := (show ∀ v, some u = some v → v = IV from hl.at_ 2 rfl) u rfl
      rcases pendO_form 4 #[.bool false] vb with ⟨g', rfl⟩ | hbad
      · exact wpOp_append (es := [blkE m 82 #[.int .i64 r.most, GV, u, VV, BV], pureE (∀ v, e0 = some v → v = GV), pureE (∀ v, some u = some v → v = u), pureE (∀ v, e6 = some v → v = VV), tabO 3 GV (gensL r) [.int .i64 0] (some x0)]) (fs := (tabO 2 VV (vsL r) [.int .i64 0] e8 :: (pendO 2 #[.int .i64 0] e7 e8 ++ tabE 3 1 BV (backL r) :: blkE w.heap.size 27 #[.int .i64 0, .int .i64 0] :: es))) (g := g') ⟨13, 14, 58, 59, 37, 4, 1, 1, .bool false, .tmp 57, .const (.bool false), u, insL r, #[.bool false], .bool false⟩ rfl rfl rfl rfl Try.underlying37 info_bool_ rfl (show 0 < 1 by decide) (show 1 ≤ 1000 by decide) (by show (insL r).length ≤ _; simp [gensL_len, insL_len, vsL_len]; omega) rfl (one_bool _) (hev 3 ⟨12, 57⟩ _ rfl rfl) (hev 4 ⟨13, 58⟩ _ rfl rfl) hl hK
      · have hf : (pureE False).is wa := hl.all _ (by
          simp only [freshEnts, List.getD_cons_zero, List.getD_cons_succ, hbad]
          simp)
        exact hf.elim
    · simp at he hj
      subst he hj
      have h24 : a.eval (.tmp 62) = .pointer (some ⟨m, 3, none⟩) := (hst (.tmp 62) (by simp)).trans (by kernel_rfl)
      have d4 := hm.cell 3
      simp only [List.getElem?_toArray, List.getElem?_cons_zero, List.getElem?_cons_succ] at d4
      have h24' : a.tmps[62]?.getD undef = .pointer (some ⟨m, 3, none⟩) := by simpa [Act.eval] using h24
      refine wpOp_load (v := VV) rfl rfl rfl (by simp [execOp, h24', go_sem, d4]) (hK VV wa ?_)
      exact Led.pure_ (es := [blkE m 82 #[.int .i64 r.most, GV, IV, VV, BV], pureE (∀ v, e0 = some v → v = GV), pureE (∀ v, e3 = some v → v = IV)]) (fs := _) hl (fun v hv => by injection hv with hv; exact hv.symm)
    · simp at he hj
      subst he hj
      obtain rfl := c87 rfl
      have hl2 : Led B w0 wa (([blkE m 82 #[.int .i64 r.most, GV, IV, VV, BV], pureE (∀ v, e0 = some v → v = GV), pureE (∀ v, e3 = some v → v = IV), pureE (∀ v, e6 = some v → v = VV), tabO 3 GV (gensL r) [.int .i64 0] e2] ++ (pendO 3 #[.int .i64 0] e1 e2 ++ tabO 4 IV (insL r) [.bool false] e5 :: (pendO 4 #[.bool false] e4 e5 ++ [tabO 2 VV (vsL r) [.int .i64 0] none]))) ++ (tabE 3 1 BV (backL r) :: blkE w.heap.size 27 #[.int .i64 0, .int .i64 0] :: es)) := by simpa [freshEnts, pendO] using hl
      refine wpOp_build ⟨19, 20, 64, 65, 80, 2, 1, 8, .int .i64 0, .tmp 63, .const (.int .i64 0), VV, [], #[.int .i64 0], .int .i64 0⟩ rfl rfl rfl rfl Try.underlying80 info_int64_ (show 0 < 1 by decide) (show 1 ≤ 1000 by decide) (fill_1 _ _ rfl) hl2 (fun g' w' hw' => hK _ _ ?_)
      simpa [freshEnts, pendO] using hw'
    · simp at he hj
      subst he hj
      obtain ⟨u, hu⟩ := hdep 6 (by simp)
      obtain ⟨vb, hvb⟩ := hdep 7 (by simp)
      simp at hu hvb
      subst hu hvb
      obtain ⟨x1, hx1⟩ := hdep 5 (by simp)
      simp at hx1
      subst hx1
      have e2s : ∃ y, e2 = some y := by obtain ⟨u, hu⟩ := hcl 5 2 (by simp) ⟨x1, rfl⟩; exact ⟨u, by simpa using hu⟩
      obtain ⟨y2, rfl⟩ := e2s
      obtain rfl : u = VV := (show ∀ v, some u = some v → v = VV from hl.at_ 3 rfl) u rfl
      rcases pendO_form 2 #[.int .i64 0] vb with ⟨g', rfl⟩ | hbad
      · exact wpOp_append (es := [blkE m 82 #[.int .i64 r.most, GV, IV, u, BV], pureE (∀ v, e0 = some v → v = GV), pureE (∀ v, e3 = some v → v = IV), pureE (∀ v, some u = some v → v = u), tabO 3 GV (gensL r) [.int .i64 0] (some y2), tabO 4 IV (insL r) [.bool false] (some x1)]) (fs := (tabE 3 1 BV (backL r) :: blkE w.heap.size 27 #[.int .i64 0, .int .i64 0] :: es)) (g := g') ⟨19, 20, 64, 65, 80, 2, 1, 8, .int .i64 0, .tmp 63, .const (.int .i64 0), u, vsL r, #[.int .i64 0], .int .i64 0⟩ rfl rfl rfl rfl Try.underlying80 info_int64_ rfl (show 0 < 1 by decide) (show 8 ≤ 1000 by decide) (by show (vsL r).length ≤ _; simp [gensL_len, insL_len, vsL_len]; omega) rfl (one_int _) (hev 6 ⟨18, 63⟩ _ rfl rfl) (hev 7 ⟨19, 64⟩ _ rfl rfl) hl hK
      · have hf : (pureE False).is wa := hl.all _ (by
          simp only [freshEnts, List.getD_cons_zero, List.getD_cons_succ, hbad]
          simp)
        exact hf.elim
    · simp at he
  case hfin =>
    intro zs wz hz1 hz2 hl
    obtain ⟨u0, u1, u2, u3, u4, u5, u6, u7, u8, rfl⟩ := finE9 hz1 hz2
    clear hz1 hz2
    have RF : refEs m u2 u5 u8 BV { r with l := r.l ++ [⟨0, false, 0⟩] } = [blkE m 82 #[.int .i64 r.most, u2, u5, u8, BV], tabE 3 1 u2 (gensL r ++ [[.int .i64 0]]), tabE 4 1 u5 (insL r ++ [[.bool false]]), tabE 2 1 u8 (vsL r ++ [[.int .i64 0]]), tabE 3 1 BV (backL r)] := by simp [refEs, gensL, insL, vsL, backL]
    have h1 : Led B w0 wz ([blkE m 82 #[.int .i64 r.most, GV, IV, VV, BV], tabE 3 1 u2 (gensL r ++ [[.int .i64 0]]), tabE 4 1 u5 (insL r ++ [[.bool false]]), tabE 2 1 u8 (vsL r ++ [[.int .i64 0]]), tabE 3 1 BV (backL r)] ++ blkE w.heap.size 27 #[.int .i64 0, .int .i64 0] :: es) := hl.sub (.cons_cons _ (.cons _ (.cons _ (.cons _ (List.Sublist.refl _)))))
    clear hl
    obtain ⟨B2, k2, hu2, hk2, hB2⟩ := tab1_form (show TabIs wz 0 3 1 u2 (gensL r ++ [[.int .i64 0]]) from h1.at_ 1 rfl) (n := r.l.length + 1) (by simp [gensL_len])
    obtain ⟨g, rfl, _⟩ := hB2 (by omega)
    obtain ⟨B5, k5, hu5, hk5, hB5⟩ := tab1_form (show TabIs wz 0 4 1 u5 (insL r ++ [[.bool false]]) from h1.at_ 2 rfl) (n := r.l.length + 1) (by simp [insL_len])
    obtain ⟨g2, rfl, _⟩ := hB5 (by omega)
    obtain ⟨B8, k8, hu8, hk8, hB8⟩ := tab1_form (show TabIs wz 0 2 1 u8 (vsL r ++ [[.int .i64 0]]) from h1.at_ 3 rfl) (n := r.l.length + 1) (by simp [vsL_len])
    obtain ⟨g3, rfl, _⟩ := hB8 (by omega)
    subst hu2 hu5 hu8
    have hm0 : Blk wz m 82 #[.int .i64 r.most, GV, IV, VV, BV] := h1.at_ 0 rfl
    have hm1 := hm0.set_ 1 (.slice (some ⟨g, 0, none⟩) (r.l.length + 1) k2)
    have hm2 := hm1.set_ 2 (.slice (some ⟨g2, 0, none⟩) (r.l.length + 1) k5)
    have hm3 := hm2.set_ 3 (.slice (some ⟨g3, 0, none⟩) (r.l.length + 1) k8)
    have h2 := h1.step 0 rfl (blkE m 82 #[.int .i64 r.most, .slice (some ⟨g, 0, none⟩) (r.l.length + 1) k2, .slice (some ⟨g2, 0, none⟩) (r.l.length + 1) k5, .slice (some ⟨g3, 0, none⟩) (r.l.length + 1) k8, BV]) ((((Chg.refl _ _).setCell (p := ⟨m, 1, none⟩) (.inl (by simp [blkE])) (.slice (some ⟨g, 0, none⟩) (r.l.length + 1) k2)).setCell (p := ⟨m, 2, none⟩) (.inl (by simp [blkE])) (.slice (some ⟨g2, 0, none⟩) (r.l.length + 1) k5)).setCell (p := ⟨m, 3, none⟩) (.inl (by simp [blkE])) (.slice (some ⟨g3, 0, none⟩) (r.l.length + 1) k8)) (by simpa [blkE] using hm3) (Fresh.refl _ _)
    have h3 : Led B w0 (((wz.setCell ⟨m, 1, none⟩ (.slice (some ⟨g, 0, none⟩) (r.l.length + 1) k2)).setCell ⟨m, 2, none⟩ (.slice (some ⟨g2, 0, none⟩) (r.l.length + 1) k5)).setCell ⟨m, 3, none⟩ (.slice (some ⟨g3, 0, none⟩) (r.l.length + 1) k8)) (refEs m (.slice (some ⟨g, 0, none⟩) (r.l.length + 1) k2) (.slice (some ⟨g2, 0, none⟩) (r.l.length + 1) k5) (.slice (some ⟨g3, 0, none⟩) (r.l.length + 1) k8) BV { r with l := r.l ++ [⟨0, false, 0⟩] } ++ blkE w.heap.size 27 #[.int .i64 0, .int .i64 0] :: es) := by rw [RF]; exact h2
    have d1 := hm0.cell 1
    have d2 := hm0.cell 2
    have d3 := hm0.cell 3
    have f1 := hm0.frozen 1
    have f2 := hm0.frozen 2
    have f3 := hm0.frozen 3
    simp only [List.getElem?_toArray, List.getElem?_cons_zero, List.getElem?_cons_succ] at d1 d2 d3
    have H3 := Lib.hid h3
    clear h1 h2 h3 hm0 hm1 hm2 hm3 RF hB2 hB5 hB8 HB
    simp only [foldE, List.foldl_cons, List.foldl_nil, putE, Act.put, List.setIfInBounds_toArray, List.set_cons_zero, List.set_cons_succ]
    refine wpAnyH_read (i := 21) (d := 66) (v := ?_) rfl rfl rfl (by kernel_rfl) (by kernel_rfl) (by kernel_rfl) (fun _ _ _ h => h) trivial ?_ ?_
    rotate_left
    · intro w hSw
      clear hSw
      go_simp
      (try with_reducible rfl)
    (try simp only [List.setIfInBounds_toArray, List.set_cons_zero, List.set_cons_succ])
    refine wpAnyH_read (i := 22) (d := 67) (v := ?_) rfl rfl rfl (by kernel_rfl) (by kernel_rfl) (by kernel_rfl) (fun _ _ _ h => h) trivial ?_ ?_
    rotate_left
    · intro w hSw
      clear hSw
      go_simp
      (try with_reducible rfl)
    (try simp only [List.setIfInBounds_toArray, List.set_cons_zero, List.set_cons_succ])
    refine wpAnyH_ready (rs := [23]) (by kernel_rfl) (by simp) ?_
    refine AllReadyH.cons (o := _) rfl (fun K hK => ?_) AllReadyH.nil
    go_simp
    refine hK.out _ _ trivial (fun _ => ?_)
    refine wpAnyH_read (i := 24) (d := 68) (v := ?_) rfl rfl rfl (by kernel_rfl) (by kernel_rfl) (by kernel_rfl) (fun _ _ _ h => h) trivial ?_ ?_
    rotate_left
    · intro w hSw
      clear hSw
      go_simp
      (try with_reducible rfl)
    (try simp only [List.setIfInBounds_toArray, List.set_cons_zero, List.set_cons_succ])
    refine wpAnyH_read (i := 25) (d := 69) (v := ?_) rfl rfl rfl (by kernel_rfl) (by kernel_rfl) (by kernel_rfl) (fun _ _ _ h => h) trivial ?_ ?_
    rotate_left
    · intro w hSw
      clear hSw
      go_simp
      (try with_reducible rfl)
    (try simp only [List.setIfInBounds_toArray, List.set_cons_zero, List.set_cons_succ])
    refine wpAnyH_ready (rs := [26]) (by kernel_rfl) (by simp) ?_
    refine AllReadyH.cons (o := _) rfl (fun K hK => ?_) AllReadyH.nil
    go_simp
    refine hK.out _ _ trivial (fun _ => ?_)
    refine wpAnyH_read (i := 27) (d := 70) (v := ?_) rfl rfl rfl (by kernel_rfl) (by kernel_rfl) (by kernel_rfl) (fun _ _ _ h => h) trivial ?_ ?_
    rotate_left
    · intro w hSw
      clear hSw
      go_simp
      (try with_reducible rfl)
    (try simp only [List.setIfInBounds_toArray, List.set_cons_zero, List.set_cons_succ])
    refine wpAnyH_read (i := 28) (d := 71) (v := ?_) rfl rfl rfl (by kernel_rfl) (by kernel_rfl) (by kernel_rfl) (fun _ _ _ h => h) trivial ?_ ?_
    rotate_left
    · intro w hSw
      clear hSw
      go_simp
      (try with_reducible rfl)
    (try simp only [List.setIfInBounds_toArray, List.set_cons_zero, List.set_cons_succ])
    refine wpAnyH_ready (rs := [29]) (by kernel_rfl) (by simp) ?_
    refine AllReadyH.cons (o := _) rfl (fun K hK => ?_) AllReadyH.nil
    go_simp
    refine hK.out _ _ trivial (fun _ => ?_)
    refine wpAnyH_done (by kernel_rfl) ?_ _
    generalize (((wz.setCell ⟨m, 1, none⟩ (.slice (some ⟨g, 0, none⟩) (r.l.length + 1) k2)).setCell ⟨m, 2, none⟩ (.slice (some ⟨g2, 0, none⟩) (r.l.length + 1) k5)).setCell ⟨m, 3, none⟩ (.slice (some ⟨g3, 0, none⟩) (r.l.length + 1) k8)) = w4 at *
    clear d1 d2 d3 f1 f2 f3
    have hx0 : ({ r with l := r.l ++ [⟨0, false, 0⟩] } : PSt Int).l[r.l.length]? = some ⟨0, false, 0⟩ := by simp
    have d1 := (refBlk H3.out).cell 1
    simp only [List.getElem?_toArray, List.getElem?_cons_zero, List.getElem?_cons_succ] at d1
    have q0 : w4.cell? ⟨g, r.l.length, none⟩ = some (.int .i64 0) := tab1_cell (refGens H3.out) (by rw [gensL, List.getElem?_map, hx0]; rfl)
    have fq0 : w4.frozen? ⟨g, r.l.length, none⟩ = false := (refGens H3.out).frozen _
    have ngm : g ≠ m := fun e => (refGens H3.out).ne_blk (refBlk H3.out) (by decide) (by simp [Value.ownBlock, e])
    have nmg := ngm.symm
    have HW := Lib.hid (ref_setG (k := 1) H3.out hx0)
    have HX2 := Lib.hid (show ((r.l ++ [(⟨0, false, 0⟩ : Pl Int)]).set r.l.length (⟨1, false, 0⟩ : Pl Int))[r.l.length]? = some ⟨1, false, 0⟩ from List.getElem?_set_self (by simp))
    clear hx0
    go_wp2_with fail
    clear d1 q0 fq0 H3
    generalize (w4.setCell ⟨g, r.l.length, none⟩ (.int .i64 1)) = w5 at *
    have hbd1 : (0 : Int) ≤ ((r.l.length : Nat) : Int) := by omega
    have hbd2 : ((r.l.length : Nat) : Int) < ((r.l.length : Nat) : Int) + 1 := by omega
    have d1 := (refBlk HW.out).cell 1
    have d2 := (refBlk HW.out).cell 2
    have d3 := (refBlk HW.out).cell 3
    simp only [List.getElem?_toArray, List.getElem?_cons_zero, List.getElem?_cons_succ] at d1 d2 d3
    have q0 : w5.cell? ⟨g, r.l.length, none⟩ = some (.int .i64 1) := tab1_cell (refGens HW.out) (by rw [gensL, List.getElem?_map, HX2.out]; rfl)
    have q2 : w5.cell? ⟨g2, r.l.length, none⟩ = some (.bool false) := tab1_cell (refIns HW.out) (by rw [insL, List.getElem?_map, HX2.out]; rfl)
    have q3 : w5.cell? ⟨g3, r.l.length, none⟩ = some (.int .i64 0) := tab1_cell (refVs HW.out) (by rw [vsL, List.getElem?_map, HX2.out]; rfl)
    have fq2 : w5.frozen? ⟨g2, r.l.length, none⟩ = false := (refIns HW.out).frozen _
    have fq3 : w5.frozen? ⟨g3, r.l.length, none⟩ = false := (refVs HW.out).frozen _
    have ng2m : g2 ≠ m := fun e => (refIns HW.out).ne_blk (refBlk HW.out) (by decide) (by simp [Value.ownBlock, e])
    have ng3m : g3 ≠ m := fun e => (refVs HW.out).ne_blk (refBlk HW.out) (by decide) (by simp [Value.ownBlock, e])
    have ng23 : g2 ≠ g3 := fun e => (refIns HW.out).ne_tab (refVs HW.out) (by decide) g2 (by simp [Value.ownBlock]) (by simp [Value.ownBlock, e])
    have nm2 := ng2m.symm
    have nm3 := ng3m.symm
    have ng32 := ng23.symm
    have HW2 := Lib.hid (ref_setV (v := v) (ref_setI (b := true) HW.out HX2.out) (x := ⟨1, true, 0⟩) (show (({ r with l := (r.l ++ [(⟨0, false, 0⟩ : Pl Int)]).set r.l.length ⟨1, false, 0⟩ } : PSt Int).l.set r.l.length ⟨1, true, 0⟩)[r.l.length]? = _ from List.getElem?_set_self (List.getElem?_eq_some_iff.1 HX2.out).1))
    go_region_held3 (fun wx => wx.cell? ⟨m, 2, none⟩ = some (.slice (some ⟨g2, 0, none⟩) (r.l.length + 1) k5) ∧ wx.cell? ⟨m, 3, none⟩ = some (.slice (some ⟨g3, 0, none⟩) (r.l.length + 1) k8)) (go_keep) (fail)
    have hRR : (({ r with l := (r.l ++ [(⟨0, false, 0⟩ : Pl Int)]).set r.l.length ⟨1, false, 0⟩ } : PSt Int).setIn r.l.length ⟨1, false, 0⟩ true).setAt r.l.length ⟨1, true, 0⟩ v = (r.fresh v) := by simp [PSt.setIn, PSt.setAt, PSt.fresh, set_last]
    have h5 := HW2.out.drew
    rw [hRR] at h5
    have HW4 := Lib.hid h5
    have HX4 := Lib.hid (show (r.fresh v).l[r.l.length]? = some ⟨1, true, v⟩ from (by simp [PSt.fresh]))
    clear d1 d2 d3 q0 q2 q3 fq2 fq3 HW HW2 hRR h5
    generalize (((w5.setCell ⟨g2, r.l.length, none⟩ (.bool true)).setCell ⟨g3, r.l.length, none⟩ (.int .i64 v)).drew) = w6 at *
    have d1 := (refBlk HW4.out).cell 1
    simp only [List.getElem?_toArray, List.getElem?_cons_zero, List.getElem?_cons_succ] at d1
    have q0 : w6.cell? ⟨g, r.l.length, none⟩ = some (.int .i64 1) := tab1_cell (refGens HW4.out) (by rw [gensL, List.getElem?_map, HX4.out]; rfl)
    have hbx : Blk w6 w.heap.size 27 #[.int .i64 0, .int .i64 0] := HW4.out.at_ 5 rfl
    have x0 := hbx.cell 0
    have x1 := hbx.cell 1
    have fx0 := hbx.frozen 0
    have fx1 := hbx.frozen 1
    simp only [List.getElem?_toArray, List.getElem?_cons_zero, List.getElem?_cons_succ] at x0 x1
    have h7 := HW4.out.step 5 rfl (blkE w.heap.size 27 #[.int .i64 (r.l.length : Nat), .int .i64 0]) ((Chg.refl _ _).setCell (p := ⟨w.heap.size, 0, none⟩) (.inl (by simp [blkE])) (.int .i64 (r.l.length : Nat))) (by have := hbx.set_ 0 (.int .i64 (r.l.length : Nat)); simpa [blkE] using this) (Fresh.refl _ _)
    have hb7 : Blk _ w.heap.size 27 #[.int .i64 (r.l.length : Nat), .int .i64 0] := h7.at_ 5 rfl
    have h8 := h7.step 5 rfl (blkE w.heap.size 27 #[.int .i64 (r.l.length : Nat), .int .i64 1]) ((Chg.refl _ _).setCell (p := ⟨w.heap.size, 1, none⟩) (.inl (by simp [blkE])) (.int .i64 1)) (by have := hb7.set_ 1 (.int .i64 1); simpa [blkE] using this) (Fresh.refl _ _)
    have h9 := h8.sub (fs := refEs m _ _ _ _ (r.fresh v) ++ es) (.cons_cons _ (.cons_cons _ (.cons_cons _ (.cons_cons _ (.cons_cons _ (.cons _ (List.Sublist.refl _)))))))
    have H9 := Lib.hid h9
    clear h7 h8 h9 hb7 hbx
    go_wp2_with fail
    exact bodyPost_ret (v := .tuple #[.agg #[.int .i64 r.l.length, .int .i64 1], .bool true]) (by simp [results, Try.results38, go_sem, x0, x1]) rfl (hR.out _ _ ⟨rfl, _, _, _, _, H9.out⟩)
end Go.Proofs.Ytognmhgdegpdiaa
