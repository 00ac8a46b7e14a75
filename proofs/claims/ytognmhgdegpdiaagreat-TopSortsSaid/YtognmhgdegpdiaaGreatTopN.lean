import Derived.Test.YtognmhgdegpdiaaGreatTopXK
import Derived.BigRegion
/- Trees are carried: made of unlike ranks. -/
namespace Go.Proofs.YtognmhgdegpdiaaGreat
open Go.RowKit
set_option linter.unusedVariables false
set_option linter.unusedSimpArgs false
set_option maxRecDepth 100000
theorem info_tr : (Tryz.prog.info? 194).map (fun i => (i.zero, i.size, i.bytes)) = some (some (.agg #[.int .i64 0, .int .i64 0]), 2, 16) := by kernel_rfl
def tpos (q : Int) : List (Int × Int) → Nat
  | [] => 0
  | x :: l => if x.2 < q then tpos q l + 1 else 0
theorem tpos_le (q : Int) : ∀ l, tpos q l ≤ l.length
  | [] => Nat.le_refl _
  | x :: l => by
    unfold tpos
    have := tpos_le q l
    split <;> simp <;> omega
def Ar.cgo : Nat → Ar → List (Int × Int) → List Int → Ar × List Int
  | 0, s, _, out => (s, out)
  | _ + 1, s, [], out => (s, out)
  | k + 1, s, [x], out => Ar.cgo k s [] (out ++ [x.1])
  | k + 1, s, x :: y :: l, out => if y.2 = x.2 then Ar.cgo k (s.tlink x.1 y.1 x.2).1 (l.take (tpos (x.2 + 1) l) ++ ((s.tlink x.1 y.1 x.2).2, x.2 + 1) :: l.drop (tpos (x.2 + 1) l)) out else Ar.cgo k s (y :: l) (out ++ [x.1])
def Ar.tws (s : Ar) (l : List Int) : List (Int × Int) := l.map fun n => (n, s.get n 4)
def Ar.tcarry (s : Ar) (l : List Int) : Ar × Int := (s.cgo l.length (isort [] (s.tws l)) []).1.trow (s.cgo l.length (isort [] (s.tws l)) []).2
theorem isort_len : ∀ (L P : List (Int × Int)), (isort P L).length = P.length + L.length
  | [], P => rfl
  | x :: l, P => by rw [isort, isort_len l, sink_len]; simp; omega
theorem mem_isort {y : Int × Int} : ∀ (L P : List (Int × Int)), y ∈ isort P L → y ∈ P ∨ y ∈ L
  | [], P, h => .inl h
  | x :: l, P, h => by
    rcases mem_isort l _ h with h | h
    · rcases mem_sink h with h | h | h
      · exact .inr (by simp [h])
      · exact .inl (by simpa using h)
      · cases h
    · exact .inr (by simp [h])
theorem blk_mem {B : Nat} {w0 w : World} {A C : List Ent} {g : Nat} {T : TypeId} {cs : Array Value} (h : Led B w0 w (A ++ blkE g T cs :: C)) : Blk w g T cs := h.mem
theorem wE_skip {B : Nat} {w0 w : World} {A C : List Ent} {g o n c : Nat} {L : List (Int × Int)} (k : Nat) (hk : k ≤ n) (h : Led B w0 w (A ++ wE g o n c L :: C)) : Led B w0 w (A ++ wE g (o + k) (n - k) (c - k) (L.drop k) :: C) :=
  h.mid (wE g (o + k) (n - k) (c - k) (L.drop k)) (Chg.refl _ _) (h.wE_is.skip k hk) (Fresh.refl _ _)
section
variable {B : Nat} {w0 w : World} {C : List Ent} {vf : Value} (X : ArM) (s : Ar) (t : Nat)
set_option maxHeartbeats 16000000 in
theorem tr_carry (l : List Int) (vl : Value) (K : Int) (hrb : s.RB K) (hK : 0 ≤ K ∧ K ≤ 10000000) (hl : l.length ≤ 19) (h : Led B w0 w (X.es vf (s.tick t) ++ iT vl l :: C)) :
    Calls Tryz.prog 144 #[.pointer (some ⟨X.p, 0, none⟩), vl] w fun e w' => ∃ u, u ≤ 14 * l.length ∧ e = .returned (.int .i64 (s.tcarry l).2) ∧ Led B w0 w' (X.es vf ((s.tcarry l).1.tick (t + u)) ++ C) := by
  have H := Lib.hid h
  clear h
  have HRB := Lib.hid hrb
  clear hrb
  obtain ⟨V, cv, hv, hV⟩ := iT_form (iT_tab H.out)
  subst hv
  obtain ⟨N, hN⟩ : ∃ N, l.length = N := ⟨_, rfl⟩
  rw [hN] at hl hV H ⊢
  have HN := Lib.hid hN
  obtain ⟨P, hP⟩ : ∃ P, isort [] (s.tws l) = P := ⟨_, rfl⟩
  have hPl : P.length = N := by rw [← hP, isort_len, Ar.tws, List.length_map, hN]; simp
  have hPq : ∀ y, y ∈ P → -1 ≤ y.2 ∧ y.2 ≤ K := by intro y hy; rw [← hP] at hy; rcases mem_isort _ _ hy with h | h; cases h; obtain ⟨n, _, rfl⟩ := List.mem_map.1 h; exact HRB.out.get (by omega) n
  obtain ⟨G, hG⟩ : ∃ G, s.cgo N P [] = G := ⟨_, rfl⟩
  have hvv : s.tcarry l = G.1.trow G.2 := by rw [Ar.tcarry, hP, hN, hG]
  rw [hvv]
  have HP := Lib.hid hP
  have HPL := Lib.hid hPl
  have HPQ := Lib.hid hPq
  have HG := Lib.hid hG
  clear hN hP hPl hPq hG hvv
  have H := Lib.hid (pT_new (T := 194) H.out)
  refine callsR fun R hR => ?_
  go_enter Tryz.func144, Tryz.ntmps144
  go_wp2_with fail
  go_loopw [5, 14] (fun v5 x wx => ∃ (j : Nat), j ≤ N ∧ x = .int .i64 (j : Int) ∧ lenV v5 = j ∧ Hid (Led B w0 wx (X.es vf (s.tick (t + j)) ++ pT 194 v5 (s.tws (l.take j)) :: iT (.slice V N cv) l :: C))) (fun _ x _ => N - (intOf x).toNat)
  case atStart => exact ⟨0, by omega, rfl, rfl, H⟩
  case round =>
    clear H
    obtain ⟨j, hj, rfl, hlv, H⟩ := hrel
    have hwl : (s.tws (l.take j)).length = j := by rw [Ar.tws, List.length_map, List.length_take, HN.out]; omega
    obtain ⟨V5, c5, hv5, hV5⟩ := pT_form (pT_tab H.out)
    subst hv5
    rw [hwl] at H hV5 ⊢
    clear hlv
    by_cases hlt : j < N
    · obtain ⟨n, hn⟩ : ∃ n, l[j]? = some n := ⟨_, List.getElem?_eq_getElem (by rw [HN.out]; exact hlt)⟩
      obtain ⟨g, rfl⟩ := hV (by omega)
      have t1 := iT_get (iT_tab (A := X.es vf (s.tick (t + j)) ++ [pT 194 (.slice V5 j c5) (s.tws (l.take j))]) (by simpa using H.out)) hn
      have hsn : s.tws (l.take (j + 1)) = s.tws (l.take j) ++ [(n, s.get n 4)] := by rw [List.take_add_one, hn]; simp [Ar.tws]
      have HSN := Lib.hid hsn
      have hln : (pR (s.tws (l.take j))).length ≤ 1000000000 := by rw [pR_len, hwl]; omega
      have HWL := Lib.hid hwl
      clear hn hV hsn hwl hV5
      go_wp2_with (first | (go_at_call 110; refine Calls.mono (t_get _ _ _ _ _ (by decide) H.out) ?_; rintro e w' ⟨rfl, h'⟩; replace H := Lib.hid h'; clear h') | (at_builtin; refine wpList_push (by rfl) (.tmp 18) (.tmp 24) 192 (by rfl) 0 194 _ 2 16 Tryz.underlying192 info_tr (by rfl) (by decide) (.slice V5 j c5) (pR (s.tws (l.take j))) #[.int .i64 n, .int .i64 (s.get n 4)] (by rfl) (pT_tab H.out) (by rfl) (by rfl) (by simp [Value.oneCell']) hln (by decide) (Nat.zero_le _) ?_; intro v' w' p1 p2 p3; replace H := Lib.hid (pT_push H.out p1 p2 p3); obtain ⟨A', c', hv, _⟩ := p1.form; simp only [List.length_append, List.length_singleton, pR_len] at hv; rw [HWL.out] at hv; subst hv; clear p1 p2 p3))
      go_roundw
      case rel => exact ⟨j + 1, by omega, by go_num, rfl, Lib.hid (by rw [HSN.out]; have h9 := H.out; exact h9)⟩
      case measure => simp [intOf] <;> omega
    · obtain rfl : j = N := by omega
      rw [List.take_of_length_le (by rw [HN.out]; omega)] at H
      have hsl : (s.tws l).length ≤ 19 := by rw [Ar.tws, List.length_map, HN.out]; omega
      have hsq : ∀ y, y ∈ s.tws l → -1000000000 ≤ y.2 ∧ y.2 ≤ 1000000000 := by intro y hy; obtain ⟨n, _, rfl⟩ := List.mem_map.1 hy; have := HRB.out.get (by omega) n; omega
      go_upto_block 2 with (first | (go_at_call 181; refine Calls.mono (tr_sort _ _ hsl hsq H.out) ?_; rintro e w' ⟨rfl, h'⟩; rw [HP.out] at h'; replace H := Lib.hid h'; clear h'))
      have H2 := Lib.hid (iT_new (A := X.es vf (s.tick (t + j)) ++ [pT 194 (.slice V5 j c5) P]) (by simpa using H.out))
      replace H := Lib.hid (show Led B w0 w' (X.es vf (s.tick (t + j)) ++ pT 194 (.slice V5 j c5) P :: iT (.slice none 0 0) [] :: iT (.slice V j cv) l :: C) by simpa using H2.out)
      clear H2 hsl hsq hwl
      go_cut [8] (fun v8 wx => ∃ u, u ≤ 12 * j ∧ G.2.length ≤ j ∧ Hid (Led B w0 wx (X.es vf (G.1.tick (t + u)) ++ iT v8 G.2 :: C)))
      case first =>
        rcases Nat.eq_zero_or_pos j with h0 | h0
        · subst h0
          have hg : (s, []) = G := by rw [← HG.out]; rfl
          go_wp2_with fail
          refine wp_loop_rounds 1 ?_
          rw [rounds_succ]
          go_wp2_with fail
          go_meet
          case rel => rw [← hg]; exact ⟨0, by omega, by simp, Lib.hid (iT_drop (A := X.es vf (s.tick t) ++ [iT _ _]) (by simpa using iT_drop H.out))⟩
        · obtain ⟨g0, rfl⟩ := hV5 h0
          have hjc : j ≤ c5 := by obtain ⟨A, c, h1, h2, _⟩ := (pT_tab H.out).form; rw [pR_len, HPL.out] at h1 h2; injection h1 with _ _ e3; omega
          replace H := Lib.hid (pT_wE (by omega) H.out)
          go_wp2_with fail
          go_loopw [5, 8] (fun v5 v8 wx => ∃ (W : List (Int × Int)) (out : List Int) (sj : Ar) (u g a o c : Nat), v5 = .slice (some ⟨g, a, none⟩) W.length c ∧ (0 < c → a = o * 2) ∧ lenV v8 = out.length ∧ W.length + out.length ≤ j ∧ u ≤ j + 11 * (j - (W.length + out.length)) ∧ Hid (Ar.cgo W.length sj W out = G) ∧ Hid (sj.RB (K + (j - (W.length + out.length) : Nat))) ∧ Hid (∀ y, y ∈ W → -1 ≤ y.2 ∧ y.2 ≤ K + (j - (W.length + out.length) : Nat)) ∧ Hid (Led B w0 wx (X.es vf (sj.tick (t + u)) ++ wE g o W.length c W :: iT v8 out :: iT (.slice V j cv) l :: C))) (fun v5 _ _ => lenV v5)
          case atStart => exact ⟨P, [], s, j, g0, 0, 0, c5, by rw [HPL.out], by omega, rfl, by rw [HPL.out]; simp, by omega, by rw [HPL.out]; exact HG, by rw [HPL.out]; simpa using HRB, Lib.hid (by rw [HPL.out]; simpa using HPQ.out), by rw [HPL.out]; exact H⟩
          case round =>
            clear H
            obtain ⟨W, out, sj, u, g, a, o, c, rfl, ha, hlv8, hWo, hu, HE, HR2, HWq, H⟩ := hrel
            obtain ⟨A8, c8, hv8, _⟩ := iT_form (iT_tab (A := X.es vf (sj.tick (t + u)) ++ [wE g o W.length c W]) (by simpa using H.out))
            subst hv8
            clear hlv8
            rcases W with _ | ⟨x, W⟩
            · have he := HE.out
              simp only [List.length_nil, Ar.cgo] at he
              go_wp2_with fail
              go_meet
              case rel => rw [← he]; exact ⟨u, by simp at hu; omega, by simp at hWo; omega, Lib.hid (by have h9 := iT_drop H.out; exact iT_drop (A := X.es vf (sj.tick (t + u)) ++ [iT _ out]) (by simpa using h9))⟩
            · have hcp : W.length + 1 ≤ c := by obtain ⟨_, _, _, _, h, _⟩ := H.out.wE_is; simpa using h
              obtain rfl := ha (by omega)
              have t1 := (H.out.wE_is).get (i := 0) (x := x) rfl
              rw [Nat.zero_mul, Nat.add_zero] at t1
              obtain ⟨t1, t2⟩ := t1
              rw [List.length_cons] at H HE HR2 HWq hWo hu ⊢
              go_upto_region 11 with fail
              obtain ⟨b9, hb9⟩ : ∃ b, wr.heap.size = b := ⟨_, rfl⟩
              have h2 : Led B w0 (wr.alloc (.cells #[.int .i64 x.1, .int .i64 x.2] 194)) (X.es vf (sj.tick (t + u)) ++ blkE b9 194 #[.int .i64 x.1, .int .i64 x.2] :: wE g o (W.length + 1) c (x :: W) :: iT (.slice A8 out.length c8) out :: iT (.slice V j cv) l :: C) := by rw [← hb9]; exact H.out.insert (blkE wr.heap.size 194 #[.int .i64 x.1, .int .i64 x.2]) ((Below.refl _ _).alloc (Nat.le_refl _) _) (Blk.new _ _ _) (fun b hb => by simp [blkE] at hb; omega)
              replace H := Lib.hid h2
              clear h2
              rw [hb9]
              generalize wr.alloc (.cells #[.int .i64 x.1, .int .i64 x.2] 194) = w1 at *
              clear hb9 t1 t2
              have KS : Hid (∀ W' st E, Led B w0 W' (X.es vf st ++ blkE b9 194 #[.int .i64 x.1, .int .i64 x.2] :: E) → W'.cell? ⟨b9, 0, none⟩ = some (.int .i64 x.1) ∧ W'.cell? ⟨b9, 1, none⟩ = some (.int .i64 x.2)) := Lib.hid fun W' st E hW => have hbb : Blk W' b9 194 #[.int .i64 x.1, .int .i64 x.2] := hW.mem; ⟨hbb.cell 0, hbb.cell 1⟩
              rcases W with _ | ⟨y, W⟩
              · rw [List.length_nil] at H HE HR2 HWq hWo hu ⊢
                rw [Nat.zero_add] at H HE HR2 HWq hWo hu ⊢
                rw [show ((0 : Nat) : Int) + 1 = 1 from rfl]
                go_big_region
                replace H := Lib.hid H.out.drew
                generalize w1.drew = w2 at *
                have he : Ar.cgo 0 sj [] (out ++ [x.1]) = G := HE.out
                have HE2 := Lib.hid he
                clear he HE
                go_upto_region 12 with fail
                have hS0 := (KS.out _ _ _ H.out.drew).1
                have hlo : (iR out).length ≤ 1000000000 := by rw [iR_len]; omega
                refine wp_region_held_drew (S := fun wx => wx.cell? ⟨b9, 0, none⟩ = some (.int .i64 x.1)) (by kernel_rfl) hS0 (fun hHeld => ?_)
                refine wpAnyH_read (i := 0) (d := 47) (v := ?_) rfl rfl rfl (by kernel_rfl) (by kernel_rfl) (by kernel_rfl) (fun _ _ _ h => h) hS0 ?_ ?_
                rotate_left
                · intro w hSw
                  go_simp
                  (try with_reducible rfl)
                (try simp only [List.setIfInBounds_toArray, List.set_cons_zero, List.set_cons_succ])
                refine wpAnyH_read (i := 1) (d := 48) (v := ?_) rfl rfl rfl (by kernel_rfl) (by kernel_rfl) (by kernel_rfl) (fun _ _ _ h => h) hS0 ?_ ?_
                rotate_left
                · intro w hSw
                  go_simp
                  (try with_reducible rfl)
                (try simp only [List.setIfInBounds_toArray, List.set_cons_zero, List.set_cons_succ])
                refine wpAnyH_read (i := 2) (d := 49) (v := ?_) rfl rfl rfl (by kernel_rfl) (by kernel_rfl) (by kernel_rfl) (fun _ _ _ h => h) hS0 ?_ ?_
                rotate_left
                · intro w hSw
                  go_simp
                  (try with_reducible rfl)
                (try simp only [List.setIfInBounds_toArray, List.set_cons_zero, List.set_cons_succ])
                refine wpAnyH_read (i := 5) (d := 52) (v := ?_) rfl rfl rfl (by kernel_rfl) (by kernel_rfl) (by kernel_rfl) (fun _ _ _ h => h) hS0 ?_ ?_
                rotate_left
                · intro w hSw
                  go_simp
                  (try with_reducible rfl)
                (try simp only [List.setIfInBounds_toArray, List.set_cons_zero, List.set_cons_succ])
                refine wpAnyH_read (i := 6) (d := 53) (v := ?_) rfl rfl rfl (by kernel_rfl) (by kernel_rfl) (by kernel_rfl) (fun _ _ _ h => h) hS0 ?_ ?_
                rotate_left
                · intro w hSw
                  go_simp
                  (try with_reducible rfl)
                (try simp only [List.setIfInBounds_toArray, List.set_cons_zero, List.set_cons_succ])
                clear hHeld hS0
                refine wpAnyH_ready (rs := [3]) (by kernel_rfl) (by simp) ?_
                refine AllReadyH.cons (o := _) rfl (fun K hK => ?_) AllReadyH.nil
                go_simp
                refine hK.out _ _ (KS.out _ _ _ (H.out.drew.alloc _)).1 (fun hHeld => ?_)
                clear hHeld
                refine wpAnyH_ready (rs := [4]) (by kernel_rfl) (by simp) ?_
                refine AllReadyH.cons (o := ⟨some 51, _, _, _, _, _⟩) rfl (fun K hK => ?_) AllReadyH.nil
                rw [if_pos (by rfl)]
                have H8 := Lib.hid (show Led B w0 w2.drew (X.es vf (sj.tick (t + u)) ++ [blkE b9 194 #[.int .i64 x.1, .int .i64 x.2], wE g o 1 c [x]] ++ iT (.slice A8 out.length c8) out :: iT (.slice V j cv) l :: C) by simpa using H.out.drew)
                refine wp_push (W := w2.drew) (.tmp 47) (.tmp 50) 45 (by rfl) 0 3 _ 1 8 Tryz.underlying45 info_int_ (by rfl) (by decide) (.slice A8 out.length c8) (iR out) #[.int .i64 x.1] (by rfl) (iT_tab H8.out) (by rfl) (by rfl) (by simp [Value.oneCell']) hlo (by decide) (Nat.zero_le _) ?_
                intro v' w' p1 p2 p3
                obtain ⟨A', c', hv, _⟩ := p1.form
                simp only [List.length_append, List.length_singleton, iR_len] at hv
                subst hv
                have h9 := iT_push H8.out p1 p2 p3
                replace H := Lib.hid (show Led B w0 w' (X.es vf (sj.tick (t + u)) ++ blkE b9 194 #[.int .i64 x.1, .int .i64 x.2] :: wE g o 1 c [x] :: iT (.slice A' (out.length + 1) c') (out ++ [x.1]) :: iT (.slice V j cv) l :: C) by simpa using h9)
                clear h9 H8 p1 p2 p3
                have hS0 := (KS.out _ _ _ H.out).1
                refine hK.out _ _ hS0 (fun hHeld => ?_)
                simp only [Act.put, List.setIfInBounds_toArray, List.set_cons_zero, List.set_cons_succ]
                refine wpAnyH_read (i := 7) (d := 8) (v := ?_) rfl rfl rfl (by kernel_rfl) (by kernel_rfl) (by kernel_rfl) (fun _ _ _ h => h) hS0 ?_ ?_
                rotate_left
                · intro w hSw
                  go_simp
                  (try with_reducible rfl)
                (try simp only [List.setIfInBounds_toArray, List.set_cons_zero, List.set_cons_succ])
                refine wpAnyH_read (i := 8) (d := 5) (v := ?_) rfl rfl rfl (by kernel_rfl) (by kernel_rfl) (by kernel_rfl) (fun _ _ _ h => h) hS0 ?_ ?_
                rotate_left
                · intro w hSw
                  go_simp
                  (try with_reducible rfl)
                (try simp only [List.setIfInBounds_toArray, List.set_cons_zero, List.set_cons_succ])
                refine wpAnyH_done (by kernel_rfl) ?_ _
                clear hHeld hS0
                obtain ⟨a2, ha2, ha3⟩ : ∃ a2, (if c = 1 then some (⟨g, o * 2, none⟩ : Addr) else some ⟨g, o * 2 + 2, none⟩) = some ⟨g, a2, none⟩ ∧ (0 < c - 1 → a2 = (o + 1) * 2) := by
                  by_cases hc1 : c = 1
                  · exact ⟨o * 2, by rw [if_pos hc1], by omega⟩
                  · exact ⟨o * 2 + 2, by rw [if_neg hc1], by omega⟩
                rw [ha2]
                clear ha2
                have h9 := wE_skip (A := X.es vf (sj.tick (t + u)) ++ [blkE b9 194 #[.int .i64 x.1, .int .i64 x.2]]) (g := g) (o := o) (n := 1) (c := c) (L := [x]) (C := iT (.slice A' (out.length + 1) c') (out ++ [x.1]) :: iT (.slice V j cv) l :: C) 1 (by omega) (by simpa using H.out)
                replace H := Lib.hid (iT_drop (A := X.es vf (sj.tick (t + u))) (C := wE g (o + 1) 0 (c - 1) [] :: iT (.slice A' (out.length + 1) c') (out ++ [x.1]) :: iT (.slice V j cv) l :: C) (by simpa using h9))
                clear h9
                go_wp2_with fail
                go_roundw
                case rel =>
                  have hd : ([] : List (Int × Int)).length + (out ++ [x.1]).length = 1 + out.length := by simp <;> omega
                  exact ⟨[], out ++ [x.1], sj, u, g, a2, o + 1, c - 1, rfl, ha3, by simp [lenV], by rw [hd]; exact hWo, by rw [hd]; exact hu, HE2, Lib.hid (by rw [hd]; exact HR2.out), Lib.hid (fun z hz => by rw [hd]; exact HWq.out z (by cases hz)), H⟩
                case measure => simp [lenV]
              · have hcp2 : W.length + 2 ≤ c := by simpa using hcp
                rw [List.length_cons] at H HE HR2 HWq hWo hu ⊢
                have t3 := (WIs.get (i := 1) (x := y) (Led.wE_is (A := X.es vf (sj.tick (t + u)) ++ [blkE b9 194 #[.int .i64 x.1, .int .i64 x.2]]) (by simpa using H.out)) rfl)
                have k0 := (KS.out _ _ _ H.out)
                rw [show o * 2 + 1 * 2 = o * 2 + 2 by omega] at t3
                have g0 : ((W.length : Int) + 1 + 1 == 1) = false := by simp; omega
                have g9 : (1 : Int) ≤ (W.length : Int) + 1 + 1 := by omega
                have g10 : (1 : Int) < (W.length : Int) + 1 + 1 := by omega
                by_cases hxy : y.2 = x.2
                · have g1 : (y.2 != x.2) = false := by simp [hxy]
                  have he := HE.out
                  rw [Ar.cgo, if_pos hxy] at he
                  have HE2 := Lib.hid he
                  clear he HE
                  go_region_held3 (fun wx => wx.cell? ⟨b9, 1, none⟩ = some (.int .i64 x.2) ∧ wx.cell? ⟨g, o * 2 + 2 + 1, none⟩ = some (.int .i64 y.2)) (exact ⟨k0.2, t3.2⟩) (fail)
                  replace H := Lib.hid H.out.drew
                  generalize w1.drew = w2 at *
                  clear t3 k0
                  have hq0 := HWq.out x (by simp)
                  have HQ : Hid (-1000000000 ≤ x.2 ∧ x.2 ≤ 1000000000) := Lib.hid (by omega)
                  have hw1 : IntKind.i64.wrap (x.2 + 1) = x.2 + 1 := by rw [IntKind.wrap_i64]; omega
                  go_upto_region 13 with fail
                  go_cut [10] (fun p wx => ∃ b10, p = .pointer (some ⟨b10, 0, none⟩) ∧ Hid (Led B w0 wx (X.es vf ((sj.tlink x.1 y.1 x.2).1.tick (t + u + 11)) ++ blkE b10 194 #[.int .i64 (sj.tlink x.1 y.1 x.2).2, .int .i64 (x.2 + 1)] :: wE g o (W.length + 1 + 1) c (x :: y :: W) :: iT (.slice A8 out.length c8) out :: iT (.slice V j cv) l :: C)))
                  case first =>
                    have KS2 : Hid (∀ W' st F, Led B w0 W' (X.es vf st ++ F ++ blkE b9 194 #[.int .i64 x.1, .int .i64 x.2] :: wE g o (W.length + 1 + 1) c (x :: y :: W) :: iT (.slice A8 out.length c8) out :: iT (.slice V j cv) l :: C) → W'.cell? ⟨b9, 0, none⟩ = some (.int .i64 x.1) ∧ W'.cell? ⟨b9, 1, none⟩ = some (.int .i64 x.2) ∧ W'.cell? ⟨g, o * 2 + 2, none⟩ = some (.int .i64 y.1) ∧ b9 < W'.heap.size ∧ g < W'.heap.size) := Lib.hid fun W' st F hW => have hbb : Blk W' b9 194 #[.int .i64 x.1, .int .i64 x.2] := hW.mem; have hww := (Led.wE_is (A := X.es vf st ++ F ++ [blkE b9 194 #[.int .i64 x.1, .int .i64 x.2]]) (by simpa using hW)); ⟨hbb.cell 0, hbb.cell 1, (by have := (hww.get (i := 1) (x := y) rfl).1; rwa [show o * 2 + 1 * 2 = o * 2 + 2 by omega] at this), hbb.lt, hww.lt⟩
                    have H2 : Hid (Led B w0 w2 (X.es vf (sj.tick (t + u)) ++ [] ++ blkE b9 194 #[.int .i64 x.1, .int .i64 x.2] :: wE g o (W.length + 1 + 1) c (x :: y :: W) :: iT (.slice A8 out.length c8) out :: iT (.slice V j cv) l :: C)) := Lib.hid (by simpa using H.out)
                    have H3 : Hid (Led B w0 (w2.alloc (.cells #[.int .i64 0, .int .i64 0] 194)) (X.es vf (sj.tick (t + u)) ++ [blkE w2.heap.size 194 #[.int .i64 0, .int .i64 0]] ++ blkE b9 194 #[.int .i64 x.1, .int .i64 x.2] :: wE g o (W.length + 1 + 1) c (x :: y :: W) :: iT (.slice A8 out.length c8) out :: iT (.slice V j cv) l :: C)) := Lib.hid (by have := H.out.insert (blkE w2.heap.size 194 #[.int .i64 0, .int .i64 0]) ((Below.refl _ _).alloc (Nat.le_refl _) (.cells #[.int .i64 0, .int .i64 0] 194)) (Blk.new _ _ _) (fun b hb => by simp [blkE] at hb; omega); simpa using this)
                    have k0 := KS2.out _ _ _ H2.out
                    have lb9 := k0.2.2.2.1
                    have lg := k0.2.2.2.2
                    have HS : Hid (∀ W, Chg [] w2 W → W.cell? ⟨b9, 0, none⟩ = some (.int .i64 x.1) ∧ W.cell? ⟨b9, 1, none⟩ = some (.int .i64 x.2) ∧ W.cell? ⟨g, o * 2 + 2, none⟩ = some (.int .i64 y.1)) := Lib.hid (fun W hW => ⟨(hW.cell (p := ⟨b9, 0, none⟩) k0.2.2.2.1 (by simp)).trans k0.1, (hW.cell (p := ⟨b9, 1, none⟩) k0.2.2.2.1 (by simp)).trans k0.2.1, (hW.cell (p := ⟨g, o * 2 + 2, none⟩) k0.2.2.2.2 (by simp)).trans k0.2.2.1⟩)
                    have hS0 := HS.out _ (Chg.refl _ _).drew
                    clear k0
                    go_region_held3 (fun wx => wx.cell? ⟨b9, 0, none⟩ = some (.int .i64 x.1) ∧ wx.cell? ⟨b9, 1, none⟩ = some (.int .i64 x.2) ∧ wx.cell? ⟨g, o * 2 + 2, none⟩ = some (.int .i64 y.1)) (first | with_reducible exact hS0 | (refine HS.out _ ?_; (repeat' first | with_reducible exact Chg.refl _ _ | with_reducible refine Chg.drew ?_ | with_reducible refine Chg.drewN ?_ _ | with_reducible refine Chg.alloc ?_ _ | with_reducible refine Chg.setCell ?_ ?_ _ | (left; simp; done) | (right; exact Nat.le_refl _) | (right; dsimp only; omega)); done) | (refine HS2.out _ ?_; (repeat' first | with_reducible exact Chg.refl _ _ | with_reducible refine Chg.drew ?_ | with_reducible refine Chg.drewN ?_ _ | with_reducible refine Chg.alloc ?_ _ | with_reducible refine Chg.setCell ?_ ?_ _ | (left; simp; done) | (right; exact Nat.le_refl _) | (right; dsimp only; omega)); done)) (first | (go_at_call 183; with_reducible refine Calls.mono (tr_link X sj (t + u) x.1 y.1 x.2 HQ.out (show Led B w0 w2.drew (X.es vf (sj.tick (t + u)) ++ blkE b9 194 #[.int .i64 x.1, .int .i64 x.2] :: wE g o (W.length + 1 + 1) c (x :: y :: W) :: iT (.slice A8 out.length c8) out :: iT (.slice V j cv) l :: C) by simpa using H2.out.drew)) ?_; rintro e w' ⟨rfl, h'⟩; have H4 := Lib.hid h'; have k1 := KS2.out _ _ _ (show Led B w0 w' (X.es vf (Ar.tick (sj.tlink x.1 y.1 x.2).1 (t + u + 11)) ++ [] ++ blkE b9 194 #[.int .i64 x.1, .int .i64 x.2] :: wE g o (W.length + 1 + 1) c (x :: y :: W) :: iT (.slice A8 out.length c8) out :: iT (.slice V j cv) l :: C) by simpa using h'); have HS2 : Hid (∀ W, Chg [w2.heap.size] w' W → W.cell? ⟨b9, 0, none⟩ = some (.int .i64 x.1) ∧ W.cell? ⟨b9, 1, none⟩ = some (.int .i64 x.2) ∧ W.cell? ⟨g, o * 2 + 2, none⟩ = some (.int .i64 y.1)) := Lib.hid (fun W hW => ⟨(hW.cell (p := ⟨b9, 0, none⟩) k1.2.2.2.1 (by simp; omega)).trans k1.1, (hW.cell (p := ⟨b9, 1, none⟩) k1.2.2.2.1 (by simp; omega)).trans k1.2.1, (hW.cell (p := ⟨g, o * 2 + 2, none⟩) k1.2.2.2.2 (by simp; omega)).trans k1.2.2.1⟩); skip; clear h' k1) | (go_at_call 183; with_reducible refine Calls.mono (tr_link X sj (t + u) x.1 y.1 x.2 HQ.out (show Led B w0 (w2.alloc (.cells #[.int .i64 0, .int .i64 0] 194)).drew (X.es vf (sj.tick (t + u)) ++ blkE w2.heap.size 194 #[.int .i64 0, .int .i64 0] :: blkE b9 194 #[.int .i64 x.1, .int .i64 x.2] :: wE g o (W.length + 1 + 1) c (x :: y :: W) :: iT (.slice A8 out.length c8) out :: iT (.slice V j cv) l :: C) by simpa using H3.out.drew)) ?_; rintro e w' ⟨rfl, h'⟩; have H4 := Lib.hid h'; have k1 := KS2.out _ _ _ (show Led B w0 w' (X.es vf (Ar.tick (sj.tlink x.1 y.1 x.2).1 (t + u + 11)) ++ [blkE w2.heap.size 194 #[.int .i64 0, .int .i64 0]] ++ blkE b9 194 #[.int .i64 x.1, .int .i64 x.2] :: wE g o (W.length + 1 + 1) c (x :: y :: W) :: iT (.slice A8 out.length c8) out :: iT (.slice V j cv) l :: C) by simpa using h'); have HS2 : Hid (∀ W, Chg [w2.heap.size] w' W → W.cell? ⟨b9, 0, none⟩ = some (.int .i64 x.1) ∧ W.cell? ⟨b9, 1, none⟩ = some (.int .i64 x.2) ∧ W.cell? ⟨g, o * 2 + 2, none⟩ = some (.int .i64 y.1)) := Lib.hid (fun W hW => ⟨(hW.cell (p := ⟨b9, 0, none⟩) k1.2.2.2.1 (by simp; omega)).trans k1.1, (hW.cell (p := ⟨b9, 1, none⟩) k1.2.2.2.1 (by simp; omega)).trans k1.2.1, (hW.cell (p := ⟨g, o * 2 + 2, none⟩) k1.2.2.2.2 (by simp; omega)).trans k1.2.2.1⟩); have rb : Blk w' w2.heap.size 194 #[.int .i64 0, .int .i64 0] := blk_mem H4.out; obtain ⟨c0, c1, fc0, fc1⟩ := rb.c2; have lrb := rb.lt; clear rb; clear h' k1))
                    · go_wp2_with fail
                      go_meet
                      case rel => exact ⟨_, rfl, Lib.hid (iT_drop (A := X.es vf ((sj.tlink x.1 y.1 x.2).1.tick (t + u + 11)) ++ [blkE w'.heap.size 194 #[.int .i64 (sj.tlink x.1 y.1 x.2).2, .int .i64 (x.2 + 1)]]) (C := wE g o (W.length + 1 + 1) c (x :: y :: W) :: iT (.slice A8 out.length c8) out :: iT (.slice V j cv) l :: C) (by have h9 := H4.out.insert (blkE w'.heap.size 194 #[.int .i64 (sj.tlink x.1 y.1 x.2).2, .int .i64 (x.2 + 1)]) ((Below.refl _ _).alloc (Nat.le_refl _) (.cells #[.int .i64 (sj.tlink x.1 y.1 x.2).2, .int .i64 (x.2 + 1)] 194)) (Blk.new _ _ _) (fun b hb => by simp [blkE] at hb; omega); simpa using h9))⟩
                    · go_wp2_with fail
                      go_meet
                      case rel => exact ⟨_, rfl, Lib.hid (iT_drop (A := X.es vf ((sj.tlink x.1 y.1 x.2).1.tick (t + u + 11)) ++ [blkE w2.heap.size 194 #[.int .i64 (sj.tlink x.1 y.1 x.2).2, .int .i64 (x.2 + 1)]]) (C := wE g o (W.length + 1 + 1) c (x :: y :: W) :: iT (.slice A8 out.length c8) out :: iT (.slice V j cv) l :: C) (by have h9 := led_cell (A := X.es vf (Ar.tick _ _)) 1 (.int .i64 (x.2 + 1)) (led_cell (A := X.es vf (Ar.tick _ _)) 0 (.int .i64 (sj.tlink x.1 y.1 x.2).2) H4.out); simpa using h9))⟩
                  case rest =>
                    clear H HQ
                    obtain ⟨b10, rfl, H⟩ := hcut
                    go_upto_region 15 with fail
                    obtain ⟨a2, ha2, ha3⟩ : ∃ a2, (if c = 2 then some (⟨g, o * 2, none⟩ : Addr) else some ⟨g, o * 2 + 4, none⟩) = some ⟨g, a2, none⟩ ∧ (0 < c - 2 → a2 = (o + 2) * 2) := by
                      by_cases hc1 : c = 2
                      · exact ⟨o * 2, by rw [if_pos hc1], by omega⟩
                      · exact ⟨o * 2 + 4, by rw [if_neg hc1], by omega⟩
                    rw [ha2]
                    clear ha2
                    have h9 := wE_skip (A := X.es vf ((sj.tlink x.1 y.1 x.2).1.tick (t + u + 11)) ++ [blkE b10 194 #[.int .i64 (sj.tlink x.1 y.1 x.2).2, .int .i64 (x.2 + 1)]]) (g := g) (o := o) (n := W.length + 1 + 1) (c := c) (L := x :: y :: W) (C := iT (.slice A8 out.length c8) out :: iT (.slice V j cv) l :: C) 2 (by omega) (by simpa using H.out)
                    replace H := Lib.hid (show Led B w0 wc (X.es vf ((sj.tlink x.1 y.1 x.2).1.tick (t + u + 11)) ++ blkE b10 194 #[.int .i64 (sj.tlink x.1 y.1 x.2).2, .int .i64 (x.2 + 1)] :: wE g (o + 2) W.length (c - 2) W :: iT (.slice A8 out.length c8) out :: iT (.slice V j cv) l :: C) by simpa using h9)
                    clear h9
                    obtain ⟨q1, hq1⟩ : ∃ q, x.2 + 1 = q := ⟨_, rfl⟩
                    rw [hq1] at H HE2
                    have HQ1 := Lib.hid hq1
                    clear hq1
                    go_upto_block 4 with fail
                    go_cut [11] (fun v wx => v = .int .i64 (tpos q1 W : Int) ∧ Hid (Led B w0 wx (X.es vf ((sj.tlink x.1 y.1 x.2).1.tick (t + u + 11)) ++ blkE b10 194 #[.int .i64 (sj.tlink x.1 y.1 x.2).2, .int .i64 q1] :: wE g (o + 2) W.length (c - 2) W :: iT (.slice A8 out.length c8) out :: iT (.slice V j cv) l :: C)))
                    case first =>
                      go_wp2_with fail
                      go_loopw [11] (fun v wx => ∃ k : Nat, v = .int .i64 (k : Int) ∧ k ≤ W.length ∧ k + tpos q1 (W.drop k) = tpos q1 W ∧ Hid (Led B w0 wx (X.es vf ((sj.tlink x.1 y.1 x.2).1.tick (t + u + 11)) ++ blkE b10 194 #[.int .i64 (sj.tlink x.1 y.1 x.2).2, .int .i64 q1] :: wE g (o + 2) W.length (c - 2) W :: iT (.slice A8 out.length c8) out :: iT (.slice V j cv) l :: C))) (fun v _ => W.length - (intOf v).toNat)
                      case atStart => exact ⟨0, rfl, by omega, by simp, H⟩
                      case round =>
                      clear H
                      obtain ⟨k, rfl, hk, hkt, H⟩ := hrel
                      go_upto_region 16 with fail
                      by_cases hlt : k < W.length
                      · obtain ⟨y1, hy1⟩ : ∃ y, W[k]? = some y := ⟨_, List.getElem?_eq_getElem hlt⟩
                        obtain rfl := ha3 (by omega)
                        have hd1 : decide ((k : Int) < (W.length : Int)) = true := by simpa using hlt
                        have t3 := (WIs.get (Led.wE_is (A := X.es vf ((sj.tlink x.1 y.1 x.2).1.tick (t + u + 11)) ++ [blkE b10 194 #[.int .i64 (sj.tlink x.1 y.1 x.2).2, .int .i64 q1]]) (by simpa using H.out.drew)) hy1).2
                        have t4 := (blk_mem H.out.drew).cell 1
                        have hdr : W.drop k = y1 :: W.drop (k + 1) := by rw [List.drop_eq_getElem_cons hlt, (List.getElem?_eq_some_iff.1 hy1).2]
                        rw [hdr, tpos] at hkt
                        clear hdr hy1
                        by_cases hrk : y1.2 < q1
                        · have hd2 : decide (y1.2 < q1) = true := by simpa using hrk
                          rw [if_pos hrk] at hkt
                          go_region_held3 (fun wx => wx.cell? ⟨g, (o + 2) * 2 + k * 2 + 1, none⟩ = some (.int .i64 y1.2) ∧ wx.cell? ⟨b10, 1, none⟩ = some (.int .i64 q1)) (exact ⟨t3, t4⟩) (fail)
                          replace H := Lib.hid H.out.drew
                          clear t3 t4
                          generalize wr.drew = w9 at *
                          go_wp2_with fail
                          go_roundw
                          case rel => exact ⟨k + 1, by go_num, by omega, by omega, H⟩
                          case measure => simp [intOf] <;> omega
                        · have hd2 : decide (y1.2 < q1) = false := by simpa using hrk
                          rw [if_neg hrk] at hkt
                          go_region_held3 (fun wx => wx.cell? ⟨g, (o + 2) * 2 + k * 2 + 1, none⟩ = some (.int .i64 y1.2) ∧ wx.cell? ⟨b10, 1, none⟩ = some (.int .i64 q1)) (exact ⟨t3, t4⟩) (fail)
                          replace H := Lib.hid H.out.drew
                          clear t3 t4
                          generalize wr.drew = w9 at *
                          go_wp2_with fail
                          go_meet
                          case rel => exact ⟨by rw [← hkt]; simp, H⟩
                      · obtain rfl : k = W.length := by omega
                        have hd1 : decide ((W.length : Int) < (W.length : Int)) = false := by simp
                        rw [List.drop_of_length_le (Nat.le_refl _), tpos] at hkt
                        go_big_region
                        replace H := Lib.hid H.out.drew
                        generalize wr.drew = w9 at *
                        go_wp2_with fail
                        go_meet
                        case rel => exact ⟨by rw [← hkt]; simp, H⟩
                    case rest =>
                      clear H
                      obtain ⟨rfl, H⟩ := hcut
                      have hbb : Blk wc b10 194 #[.int .i64 (sj.tlink x.1 y.1 x.2).2, .int .i64 q1] := blk_mem H.out
                      obtain ⟨c0, c1, fc0, fc1⟩ := hbb.c2
                      have lb10 := hbb.lt
                      clear hbb
                      have H7 := Lib.hid (iT_drop H.out)
                      have hvg : wc.heap.size ≠ g := by have := (H7.out.wE_is).lt; omega
                      have hkl := tpos_le q1 W
                      have hwn : W.length ≤ 1000000 := by omega
                      have HA3 := Lib.hid ha3
                      clear ha3
                      obtain ⟨k, hk⟩ : ∃ k, tpos q1 W = k := ⟨_, rfl⟩
                      rw [hk] at hkl HE2 ⊢
                      clear hk
                      go_wp2_with (first | (go_at_call 184; refine Calls.mono (tr_insert g (o + 2) W.length (c - 2) k a2 wc.heap.size W ((sj.tlink x.1 y.1 x.2).2, q1) hwn hkl HA3.out (Blk.new _ _ _) hvg (H7.out.alloc _)) ?_; rintro e w' ⟨g3, o3, c3, rfl, hc3, h'⟩; replace H := Lib.hid h'; clear h'))
                      go_roundw
                      case rel =>
                        have hl3 : (W.take k ++ ((sj.tlink x.1 y.1 x.2).2, q1) :: W.drop k).length = W.length + 1 := by simp; omega
                        have hd : j - (W.length + 1 + out.length) = j - (W.length + 1 + 1 + out.length) + 1 := by omega
                        have hq9 := HWq.out x (by simp)
                        have hq8 := HQ1.out
                        exact ⟨_, out, (sj.tlink x.1 y.1 x.2).1, u + 11, g3, o3 * 2, o3, c3, by rw [hl3], fun _ => rfl, rfl, by rw [hl3]; omega, by rw [hl3]; omega, Lib.hid (by rw [hl3]; exact HE2.out), Lib.hid (by rw [hl3, hd]; exact (HR2.out.mono (by omega)).tlink _ _ _ (by omega) (by omega)), Lib.hid (fun z hz => by rw [hl3, hd]; rcases List.mem_append.1 hz with hz | hz; have := HWq.out z (by simp [List.mem_of_mem_take hz]); omega; rcases List.mem_cons.1 hz with rfl | hz; omega; have := HWq.out z (by simp [List.mem_of_mem_drop hz]); omega), Lib.hid (by rw [hl3]; have h9 := H.out; rw [Nat.add_assoc t u 11] at h9; exact h9)⟩
                      case measure => simp [lenV]
                · have g1 : (y.2 != x.2) = true := by simpa using hxy
                  have he := HE.out
                  rw [Ar.cgo, if_neg hxy] at he
                  have HE2 := Lib.hid he
                  clear he HE
                  go_region_held3 (fun wx => wx.cell? ⟨b9, 1, none⟩ = some (.int .i64 x.2) ∧ wx.cell? ⟨g, o * 2 + 2 + 1, none⟩ = some (.int .i64 y.2)) (exact ⟨k0.2, t3.2⟩) (fail)
                  replace H := Lib.hid H.out.drew
                  generalize w1.drew = w2 at *
                  clear t3 k0
                  go_upto_region 12 with fail
                  have hS0 := (KS.out _ _ _ H.out.drew).1
                  have hlo : (iR out).length ≤ 1000000000 := by rw [iR_len]; omega
                  refine wp_region_held_drew (S := fun wx => wx.cell? ⟨b9, 0, none⟩ = some (.int .i64 x.1)) (by kernel_rfl) hS0 (fun hHeld => ?_)
                  refine wpAnyH_read (i := 0) (d := 47) (v := ?_) rfl rfl rfl (by kernel_rfl) (by kernel_rfl) (by kernel_rfl) (fun _ _ _ h => h) hS0 ?_ ?_
                  rotate_left
                  · intro w hSw
                    go_simp
                    (try with_reducible rfl)
                  (try simp only [List.setIfInBounds_toArray, List.set_cons_zero, List.set_cons_succ])
                  refine wpAnyH_read (i := 1) (d := 48) (v := ?_) rfl rfl rfl (by kernel_rfl) (by kernel_rfl) (by kernel_rfl) (fun _ _ _ h => h) hS0 ?_ ?_
                  rotate_left
                  · intro w hSw
                    go_simp
                    (try with_reducible rfl)
                  (try simp only [List.setIfInBounds_toArray, List.set_cons_zero, List.set_cons_succ])
                  refine wpAnyH_read (i := 2) (d := 49) (v := ?_) rfl rfl rfl (by kernel_rfl) (by kernel_rfl) (by kernel_rfl) (fun _ _ _ h => h) hS0 ?_ ?_
                  rotate_left
                  · intro w hSw
                    go_simp
                    (try with_reducible rfl)
                  (try simp only [List.setIfInBounds_toArray, List.set_cons_zero, List.set_cons_succ])
                  refine wpAnyH_read (i := 5) (d := 52) (v := ?_) rfl rfl rfl (by kernel_rfl) (by kernel_rfl) (by kernel_rfl) (fun _ _ _ h => h) hS0 ?_ ?_
                  rotate_left
                  · intro w hSw
                    go_simp
                    (try with_reducible rfl)
                  (try simp only [List.setIfInBounds_toArray, List.set_cons_zero, List.set_cons_succ])
                  refine wpAnyH_read (i := 6) (d := 53) (v := ?_) rfl rfl rfl (by kernel_rfl) (by kernel_rfl) (by kernel_rfl) (fun _ _ _ h => h) hS0 ?_ ?_
                  rotate_left
                  · intro w hSw
                    go_simp
                    (try with_reducible rfl)
                  (try simp only [List.setIfInBounds_toArray, List.set_cons_zero, List.set_cons_succ])
                  clear hHeld hS0
                  refine wpAnyH_ready (rs := [3]) (by kernel_rfl) (by simp) ?_
                  refine AllReadyH.cons (o := _) rfl (fun K hK => ?_) AllReadyH.nil
                  go_simp
                  refine hK.out _ _ (KS.out _ _ _ (H.out.drew.alloc _)).1 (fun hHeld => ?_)
                  clear hHeld
                  refine wpAnyH_ready (rs := [4]) (by kernel_rfl) (by simp) ?_
                  refine AllReadyH.cons (o := ⟨some 51, _, _, _, _, _⟩) rfl (fun K hK => ?_) AllReadyH.nil
                  rw [if_pos (by rfl)]
                  have H8 := Lib.hid (show Led B w0 w2.drew (X.es vf (sj.tick (t + u)) ++ [blkE b9 194 #[.int .i64 x.1, .int .i64 x.2], wE g o (W.length + 1 + 1) c (x :: y :: W)] ++ iT (.slice A8 out.length c8) out :: iT (.slice V j cv) l :: C) by simpa using H.out.drew)
                  refine wp_push (W := w2.drew) (.tmp 47) (.tmp 50) 45 (by rfl) 0 3 _ 1 8 Tryz.underlying45 info_int_ (by rfl) (by decide) (.slice A8 out.length c8) (iR out) #[.int .i64 x.1] (by rfl) (iT_tab H8.out) (by rfl) (by rfl) (by simp [Value.oneCell']) hlo (by decide) (Nat.zero_le _) ?_
                  intro v' w' p1 p2 p3
                  obtain ⟨A', c', hv, _⟩ := p1.form
                  simp only [List.length_append, List.length_singleton, iR_len] at hv
                  subst hv
                  have h9 := iT_push H8.out p1 p2 p3
                  replace H := Lib.hid (show Led B w0 w' (X.es vf (sj.tick (t + u)) ++ blkE b9 194 #[.int .i64 x.1, .int .i64 x.2] :: wE g o (W.length + 1 + 1) c (x :: y :: W) :: iT (.slice A' (out.length + 1) c') (out ++ [x.1]) :: iT (.slice V j cv) l :: C) by simpa using h9)
                  clear h9 H8 p1 p2 p3
                  have hS0 := (KS.out _ _ _ H.out).1
                  refine hK.out _ _ hS0 (fun hHeld => ?_)
                  simp only [Act.put, List.setIfInBounds_toArray, List.set_cons_zero, List.set_cons_succ]
                  refine wpAnyH_read (i := 7) (d := 8) (v := ?_) rfl rfl rfl (by kernel_rfl) (by kernel_rfl) (by kernel_rfl) (fun _ _ _ h => h) hS0 ?_ ?_
                  rotate_left
                  · intro w hSw
                    go_simp
                    (try with_reducible rfl)
                  (try simp only [List.setIfInBounds_toArray, List.set_cons_zero, List.set_cons_succ])
                  refine wpAnyH_read (i := 8) (d := 5) (v := ?_) rfl rfl rfl (by kernel_rfl) (by kernel_rfl) (by kernel_rfl) (fun _ _ _ h => h) hS0 ?_ ?_
                  rotate_left
                  · intro w hSw
                    go_simp
                    (try with_reducible rfl)
                  (try simp only [List.setIfInBounds_toArray, List.set_cons_zero, List.set_cons_succ])
                  refine wpAnyH_done (by kernel_rfl) ?_ _
                  clear hHeld hS0
                  obtain ⟨a2, ha2, ha3⟩ : ∃ a2, (if c = 1 then some (⟨g, o * 2, none⟩ : Addr) else some ⟨g, o * 2 + 2, none⟩) = some ⟨g, a2, none⟩ ∧ (0 < c - 1 → a2 = (o + 1) * 2) := by
                    by_cases hc1 : c = 1
                    · exact ⟨o * 2, by rw [if_pos hc1], by omega⟩
                    · exact ⟨o * 2 + 2, by rw [if_neg hc1], by omega⟩
                  rw [ha2]
                  clear ha2
                  have h9 := wE_skip (A := X.es vf (sj.tick (t + u)) ++ [blkE b9 194 #[.int .i64 x.1, .int .i64 x.2]]) (g := g) (o := o) (n := (W.length + 1 + 1)) (c := c) (L := (x :: y :: W)) (C := iT (.slice A' (out.length + 1) c') (out ++ [x.1]) :: iT (.slice V j cv) l :: C) 1 (by omega) (by simpa using H.out)
                  replace H := Lib.hid (iT_drop (A := X.es vf (sj.tick (t + u))) (C := wE g (o + 1) (W.length + 1) (c - 1) (y :: W) :: iT (.slice A' (out.length + 1) c') (out ++ [x.1]) :: iT (.slice V j cv) l :: C) (by simpa using h9))
                  clear h9
                  go_wp2_with fail
                  go_roundw
                  case rel =>
                    have hd : ((y :: W) : List (Int × Int)).length + (out ++ [x.1]).length = (W.length + 1 + 1) + out.length := by simp <;> omega
                    exact ⟨(y :: W), out ++ [x.1], sj, u, g, a2, o + 1, c - 1, rfl, ha3, by simp [lenV], by rw [hd]; exact hWo, by rw [hd]; exact hu, HE2, Lib.hid (by rw [hd]; exact HR2.out), Lib.hid (fun z hz => by rw [hd]; exact HWq.out z (by exact List.mem_cons_of_mem _ hz)), H⟩
                  case measure => simp [lenV]
      case rest =>
        clear H
        obtain ⟨u, hu, hgl, H⟩ := hcut
        obtain ⟨g1, g2⟩ := G
        simp only at hgl H ⊢
        have hgl2 : g2.length ≤ 1000000 := by omega
        go_wp2_with (first | (go_at_call 185; refine Calls.mono (tr_row _ _ _ _ _ hgl2 H.out) ?_; rintro e w' ⟨rfl, h'⟩; replace H := Lib.hid h'; clear h'))
        have h7 := iT_drop H.out
        obtain ⟨u9, hu9, h9⟩ := tick_up (t := t) (N := 14 * j) h7 (by omega) (by omega)
        exact hR.out _ _ ⟨u9, hu9, rfl, h9⟩
end
end Go.Proofs.YtognmhgdegpdiaaGreat
