import Derived.Test.YtognmhgdegpdiaaGreatTopN
/- A number is struck out of a row. -/
namespace Go.Proofs.YtognmhgdegpdiaaGreat
open Go.RowKit
set_option linter.unusedVariables false
set_option linter.unusedSimpArgs false
set_option maxRecDepth 100000
def iidx (q : Int) : List Int → Option Nat
  | [] => none
  | x :: l => if x = q then some 0 else (iidx q l).map (· + 1)
theorem iidx_none {q : Int} : ∀ {L : List Int}, iidx q L = none → ∀ x ∈ L, x ≠ q
  | [], _, x, hx => by cases hx
  | y :: l, h, x, hx => by
    unfold iidx at h
    split at h
    · cases h
    · rcases List.mem_cons.1 hx with rfl | hx
      · assumption
      · exact iidx_none (by cases hp : iidx q l with | none => rfl | some k => rw [hp] at h; cases h) x hx
theorem iidx_some {q : Int} : ∀ {L : List Int} {i : Nat}, iidx q L = some i → L[i]? = some q ∧ ∀ x ∈ L.take i, x ≠ q
  | [], _, h => by cases h
  | y :: l, i, h => by
    unfold iidx at h
    split at h
    · injection h with h
      subst h
      rename_i hy
      exact ⟨by simp [hy], by simp⟩
    · rename_i hy
      cases hp : iidx q l with
      | none => rw [hp] at h; cases h
      | some k =>
        rw [hp] at h
        injection h with h
        subst h
        obtain ⟨h1, h2⟩ := iidx_some hp
        exact ⟨by simpa using h1, fun x hx => by rcases List.mem_cons.1 (by simpa using hx) with rfl | hx; exact hy; exact h2 x hx⟩
def idel (q : Int) (L : List Int) : List Int := L.filter fun x => !(x == q)
theorem idel_none {q : Int} {L : List Int} (h : ∀ x ∈ L, x ≠ q) : idel q L = L := List.filter_eq_self.2 fun x hx => by simpa using h x hx
theorem clear_ints (w : World) (ty : TypeId) (b o k c : Nat) (hk : 0 < k) (hc : ∀ j, j < k → (w.cell? ⟨b, o + j, none⟩).isSome = true) (hf : ∀ j, j < k → w.frozen? ⟨b, o + j, none⟩ = false) :
    (Builtin.clear_ #[45] ty #[.slice (some ⟨b, o, none⟩) k c]).run Tryz.prog w = .ok (.tuple #[]) (w.setCells b o (List.replicate k (.int .i64 0))) := by
  have hst := run_storeCells_cells (P := Tryz.prog) b o (List.replicate k (.int .i64 0)) 0 w (by simpa using hc) (by simpa using hf) (by intro v hv; rw [List.eq_of_mem_replicate hv]; rfl)
  simp only [Nat.add_zero] at hst
  have hzc : (Builtin.zeroCells #[Value.int .i64 0] k).toList = List.replicate k (.int .i64 0) := by
    unfold Builtin.zeroCells
    rw [Array.toList_map, Array.toList_range]
    apply List.ext_getElem
    · simp
    · intro i h1 h2
      simp [Nat.mod_one]
  have hv : ∀ w, (zeroValue 3).run Tryz.prog w = .ok (.int .i64 0) w := fun w => by kernel_rfl
  obtain ⟨m, rfl⟩ : ∃ m, k = m + 1 := ⟨k - 1, by omega⟩
  simp [Builtin.clear_, run_underlying Tryz.underlying45, hv, Value.cells, hzc, hst]
section
variable {B : Nat} {w0 w : World} {A C : List Ent}
theorem iT_set {g n c i : Nat} {M : List Int} (x : Int) (h : Led B w0 w (A ++ iT (.slice (some ⟨g, 0, none⟩) n c) M :: C)) (hi : i < M.length) : Led B w0 (w.setCell ⟨g, i, none⟩ (.int .i64 x)) (A ++ iT (.slice (some ⟨g, 0, none⟩) n c) (M.set i x) :: C) := by
  obtain ⟨r, hr⟩ : ∃ r, M[i]? = some r := ⟨_, List.getElem?_eq_getElem hi⟩
  have h2 := (iT_tab h).set (i := i) (j := 0) (r := [Value.int .i64 r]) (.int .i64 x) (by rw [iR, List.getElem?_map, hr]; rfl) (by omega)
  have e : (iR M).set i ([Value.int .i64 r].set 0 (.int .i64 x)) = iR (M.set i x) := by rw [iR, iR, List.map_set]; rfl
  rw [e, Nat.mul_one, Nat.add_zero] at h2
  exact h.mid (iT (.slice (some ⟨g, 0, none⟩) n c) (M.set i x)) ((Chg.refl _ _).setCell (.inl (by simp [iT, tabE, Value.ownBlock])) _) h2 (Fresh.refl _ _)
theorem iT_take {g n c : Nat} {M : List Int} (i : Nat) (hi : i ≤ M.length) (h : Led B w0 w (A ++ iT (.slice (some ⟨g, 0, none⟩) n c) M :: C)) : Led B w0 (w.setCells g i (List.replicate (n - i) (.int .i64 0))) (A ++ iT (.slice (some ⟨g, 0, none⟩) i c) (M.take i) :: C) := by
  refine h.mid (iT (.slice (some ⟨g, 0, none⟩) i c) (M.take i)) (by simpa [iT, tabE, Value.ownBlock] using chg_setCells g _ w w i (Chg.refl _ _)) ?_ (by simp [iT, tabE, Value.ownBlock]; exact Fresh.refl _ _)
  obtain ⟨xs, ⟨h0, h1⟩, h2, h3⟩ := iT_tab h
  rcases h1 with ⟨h1, _⟩ | ⟨g', cap, cur, h4, _, h5, h6, h7, h8, h9⟩
  · cases h1
  · injection h4 with e1 e2 e3
    injection e1 with e1
    injection e1 with e1
    subst e1 e3
    rw [iR_len] at e2 h6 h9
    subst e2
    obtain ⟨cur', m1, m2, m3, m4⟩ := setCells_heap (List.replicate (M.length - i) (Value.int .i64 0)) i w cur h5 (by simp; omega)
    refine ⟨cur'.toList.take i, ⟨by simp [iR_len]; omega, .inr ⟨g, c, cur', by simp [iR_len]; omega, Nat.zero_le _, m1, by simp [iR_len]; omega, h7, by omega, by simp [iR_len]; omega⟩⟩, fun r hr => by obtain ⟨x, _, rfl⟩ := List.mem_map.1 hr; rfl, fun k r hk j u hj => ?_⟩
    have hki : k < i := by have := (List.getElem?_eq_some_iff.1 hk).1; simp [iR_len] at this; omega
    have hk2 : (iR M)[k]? = some r := by rw [iR, List.getElem?_map, List.getElem?_take, if_pos hki] at hk; rw [iR, List.getElem?_map]; exact hk
    have h10 := h3 k r hk2 j u hj
    have hj0 : j = 0 := by obtain ⟨x, _, rfl⟩ := List.mem_map.1 (List.mem_of_getElem? hk2); have := (List.getElem?_eq_some_iff.1 hj).1; simpa using this
    subst hj0
    rw [← h9, List.getElem?_take, if_pos (by omega)] at h10
    rw [List.getElem?_take, if_pos (by omega), Array.getElem?_toList, m4 _ (.inl (by omega))]
    rwa [Array.getElem?_toList] at h10
theorem del_clo_b (x q : Int) (b : Nat) (w : World) (hb : w.cell? ⟨b, 0, none⟩ = some (.int .i64 q)) : Calls Tryz.prog 191 #[.int .i64 x, .pointer (some ⟨b, 0, none⟩)] w fun e w' => e = .returned (.bool (x == q)) ∧ w = w' := by
  refine callsR fun R hR => ?_
  go_enter Tryz.func191, Tryz.ntmps191
  go_wp2_with fail
  exact hR.out _ _ ⟨rfl, rfl⟩
set_option maxHeartbeats 4000000 in
theorem del_index_b (q : Int) (b n c : Nat) (V : Option Addr) (L : List Int) (hL : L.length = n) (hn : n ≤ 1000000) (w : World) (hV : 0 < n → ∃ g, V = some ⟨g, 0, none⟩) (ht : TabIs w 0 3 1 (.slice V n c) (iR L)) (b1 : w.cell? ⟨b, 0, none⟩ = some (.int .i64 q)) :
    Calls Tryz.prog 216 #[.slice V n c, .func (.func 191) #[] #[.pointer (some ⟨b, 0, none⟩)]] w fun e w' => e = .returned (.int .i64 (pnum (iidx q L))) ∧ w = w' := by
  have HT := Lib.hid ht
  clear ht
  have HL := Lib.hid hL
  clear hL
  have HV := Lib.hid hV
  clear hV
  refine callsR fun R hR => ?_
  go_enter Tryz.func216, Tryz.ntmps216
  go_wp2_with fail
  go_loopw [8] (fun x wx => ∃ j : Nat, j ≤ n ∧ x = .int .i64 (j : Int) ∧ Hid (iidx q L = (iidx q (L.drop j)).map (· + j)) ∧ w = wx) (fun x _ => n - (intOf x).toNat)
  case atStart => exact ⟨0, by omega, rfl, Lib.hid (by simp), rfl⟩
  case round =>
    obtain ⟨j, hj, rfl, HE, rfl⟩ := hrel
    by_cases hlt : j < n
    · obtain ⟨x, hx⟩ : ∃ x, L[j]? = some x := ⟨_, List.getElem?_eq_getElem (by rw [HL.out]; exact hlt)⟩
      obtain ⟨g, rfl⟩ := HV.out (by omega)
      have t1 := iT_get HT.out hx
      have he := HE.out
      rw [List.drop_eq_getElem_cons (by rw [HL.out]; exact hlt), (List.getElem?_eq_some_iff.1 hx).2, iidx] at he
      clear hx HE
      by_cases hq : x = q
      · rw [if_pos hq] at he
        have g1 : (x == q) = true := by simpa using hq
        have HE2 := Lib.hid he
        clear he
        subst hq
        go_wp2_with (first | (go_at_call 191; refine Calls.mono (del_clo_b _ _ _ _ b1) ?_; rintro e w' ⟨rfl, rfl⟩; rw [g1]))
        exact hR.out _ _ ⟨by rw [HE2.out]; simp [pnum], rfl⟩
      · rw [if_neg hq, Option.map_map] at he
        have g1 : (x == q) = false := by simpa using hq
        have HE2 := Lib.hid he
        clear he
        go_wp2_with (first | (go_at_call 191; refine Calls.mono (del_clo_b _ _ _ _ b1) ?_; rintro e w' ⟨rfl, rfl⟩; rw [g1]))
        go_roundw
        case rel => exact ⟨j + 1, by omega, by go_num, Lib.hid (by rw [HE2.out]; congr 1; funext k; simp; omega), trivial⟩
        case measure => simp [intOf] <;> omega
    · obtain rfl : j = n := by omega
      have he := HE.out
      rw [List.drop_of_length_le (by rw [HL.out]; omega), iidx] at he
      have HE2 := Lib.hid he
      clear he HE
      go_wp2_with fail
      exact hR.out _ _ ⟨by rw [HE2.out]; rfl, rfl⟩
set_option maxHeartbeats 4000000 in
theorem del_all_b (q : Int) (b : Nat) (v : Value) (L : List Int) (hn : L.length ≤ 1000000) (h : Led B w0 w (A ++ blkE b 3 #[.int .i64 q] :: iT v L :: C)) :
    Calls Tryz.prog 190 #[v, .func (.func 191) #[] #[.pointer (some ⟨b, 0, none⟩)]] w fun e w' => ∃ v', e = .returned v' ∧ Led B w0 w' (A ++ blkE b 3 #[.int .i64 q] :: iT v' (idel q L) :: C) := by
  have H := Lib.hid h
  clear h
  have HT := Lib.hid (iT_tab (A := A ++ [blkE b 3 #[.int .i64 q]]) (v := v) (L := L) (C := C) (by simpa using H.out))
  obtain ⟨V, c, hv, hV⟩ := iT_form HT.out
  subst hv
  obtain ⟨n, hN⟩ : ∃ n, L.length = n := ⟨_, rfl⟩
  have hnc : n ≤ c := by obtain ⟨A1, c1, h1, h2, _⟩ := HT.out.form; rw [iR_len, hN] at h1 h2; injection h1 with _ _ e3; omega
  rw [hN] at hn hV H HT ⊢
  have HN := Lib.hid hN
  have HV := Lib.hid hV
  clear hN hV
  have HB1 := Lib.hid ((blk_mem H.out).cell 0)
  simp only [List.getElem?_toArray, List.getElem?_cons_zero] at HB1
  cases hx : iidx q L with
  | none =>
    have HX := Lib.hid hx
    clear hx
    have hd := idel_none (iidx_none HX.out)
    refine callsR fun R hR => ?_
    go_enter Tryz.func190, Tryz.ntmps190
    go_wp2_with (first | (go_at_call 216; refine Calls.mono (del_index_b q b n c _ L HN.out hn _ HV.out HT.out HB1.out) ?_; rintro e w' ⟨rfl, rfl⟩; rw [HX.out, pnum]))
    exact hR.out _ _ ⟨_, rfl, by rw [hd]; exact H.out⟩
  | some i =>
    have HX := Lib.hid hx
    obtain ⟨hi, hb⟩ := iidx_some hx
    have hin : i < n := by rw [← HN.out]; exact (List.getElem?_eq_some_iff.1 hi).1
    obtain ⟨g, rfl⟩ := HV.out (by omega)
    have hfi : idel q (L.take (i + 1)) = L.take i := by rw [List.take_add_one, hi]; unfold idel; rw [List.filter_append]; have := idel_none hb; unfold idel at this; rw [this]; simp
    have HFI := Lib.hid hfi
    have hg0 : ((i : Int) == -1) = false := by simp <;> omega
    clear hx hi hb hfi
    refine callsR fun R hR => ?_
    go_enter Tryz.func190, Tryz.ntmps190
    have hwi : IntKind.i64.wrap ((i : Int) + 1) = (i : Int) + 1 := by rw [IntKind.wrap_i64]; omega
    go_upto_block 0 with (first | (go_at_call 216; refine Calls.mono (del_index_b q b n c _ L HN.out hn _ HV.out HT.out HB1.out) ?_; rintro e w' ⟨rfl, rfl⟩; rw [HX.out, pnum]))
    go_cut [5] (fun x wx => ∃ (i : Nat) (M : List Int), x = .int .i64 (i : Int) ∧ i < n ∧ M.length = n ∧ M.take i = idel q L ∧ Hid (Led B w0 wx (A ++ blkE b 3 #[.int .i64 q] :: iT (.slice (some ⟨g, 0, none⟩) n c) M :: C)))
    case first =>
      go_wp2_with fail
      go_loopw [5, 6] (fun x y wx => ∃ (i j : Nat) (M : List Int), x = .int .i64 (i : Int) ∧ y = .int .i64 (j : Int) ∧ i < j ∧ j ≤ n ∧ M.length = n ∧ M.take i = idel q (L.take j) ∧ M.drop j = L.drop j ∧ Hid (Led B w0 wx (A ++ blkE b 3 #[.int .i64 q] :: iT (.slice (some ⟨g, 0, none⟩) n c) M :: C))) (fun _ y _ => n - (intOf y).toNat)
      case atStart => exact ⟨i, i + 1, L, rfl, by go_num, by omega, by omega, HN.out, HFI.out.symm, rfl, H⟩
      case round =>
        clear H
        obtain ⟨i, j, M, rfl, rfl, hij, hj, hM, hMi, hMj, H⟩ := hrel
        by_cases hlt : j < n
        · obtain ⟨x, hx⟩ : ∃ x, L[j]? = some x := ⟨_, List.getElem?_eq_getElem (by rw [HN.out]; exact hlt)⟩
          have hxM : M[j]? = some x := by have h1 : (M.drop j)[0]? = (L.drop j)[0]? := (by rw [hMj]); rw [List.getElem?_drop, List.getElem?_drop] at h1; exact h1.trans hx
          have t1 := iT_get (iT_tab (A := A ++ [blkE b 3 #[.int .i64 q]]) (by simpa using H.out)) hxM
          have b1 := (blk_mem H.out).cell 0
          simp only [List.getElem?_toArray, List.getElem?_cons_zero] at b1
          have hw1 : IntKind.i64.wrap ((j : Int) + 1) = (j : Int) + 1 := by rw [IntKind.wrap_i64]; omega
          have hw2 : IntKind.i64.wrap ((i : Int) + 1) = (i : Int) + 1 := by rw [IntKind.wrap_i64]; omega
          have hdr : M.drop (j + 1) = L.drop (j + 1) := by rw [← List.drop_drop, ← List.drop_drop, hMj]
          have hft : idel q (L.take (j + 1)) = idel q (L.take j) ++ (if x = q then [] else [x]) := by rw [List.take_add_one, hx]; unfold idel; rw [List.filter_append]; congr 1; by_cases hq : x = q <;> simp [hq]
          have HDR := Lib.hid hdr
          have HFT := Lib.hid hft
          have HMI := Lib.hid hMi
          have HXM := Lib.hid hxM
          clear hx hdr hft hMi hMj hxM
          by_cases hq : x = q
          · have g1 : (x == q) = true := by simpa using hq
            have HQ0 := Lib.hid hq
            clear hq
            go_wp2_with (first | (go_at_call 191; refine Calls.mono (del_clo_b _ _ _ _ b1) ?_; rintro e w' ⟨rfl, rfl⟩; rw [g1]))
            go_roundw
            case rel => exact ⟨i, j + 1, M, rfl, by go_num, by omega, by omega, hM, by rw [HFT.out, if_pos HQ0.out, List.append_nil]; exact HMI.out, HDR.out, H⟩
            case measure => simp [intOf] <;> omega
          · have g1 : (x == q) = false := by simpa using hq
            obtain ⟨y, hy⟩ : ∃ y, M[i]? = some y := ⟨_, List.getElem?_eq_getElem (by omega)⟩
            have t2 := iT_get (iT_tab (A := A ++ [blkE b 3 #[.int .i64 q]]) (by simpa using H.out)) hy
            have f2 := (iT_tab (A := A ++ [blkE b 3 #[.int .i64 q]]) (v := .slice (some ⟨g, 0, none⟩) n c) (L := M) (C := C) (by simpa using H.out)).frozen i
            have hin2 : i < n := by omega
            clear hy
            go_wp2_with (first | (go_at_call 191; refine Calls.mono (del_clo_b _ _ _ _ b1) ?_; rintro e w' ⟨rfl, rfl⟩; rw [g1]))
            go_roundw
            case rel => exact ⟨i + 1, j + 1, M.set i x, by go_num, by go_num, by omega, by omega, by rw [List.length_set]; exact hM, by rw [HFT.out, if_neg hq, ← HMI.out, List.take_add_one, List.getElem?_set_self (by omega)]; simp [List.take_set_of_le (Nat.le_refl i)], by rw [List.drop_set_of_lt (by omega)]; exact HDR.out, Lib.hid (by have h9 := iT_set (A := A ++ [blkE b 3 #[.int .i64 q]]) (i := i) x (by simpa using H.out) (by omega); simpa using h9)⟩
            case measure => simp [intOf] <;> omega
        · obtain rfl : j = n := by omega
          have hLt : L.take j = L := List.take_of_length_le (by rw [HN.out]; omega)
          rw [hLt] at hMi
          go_wp2_with fail
          go_meet
          case rel => exact ⟨i, M, rfl, hij, hM, hMi, H⟩
    case rest =>
      clear H
      obtain ⟨i, M, rfl, hin2, hM, hMi, H⟩ := hcut
      have HT2 := Lib.hid (iT_tab (A := A ++ [blkE b 3 #[.int .i64 q]]) (v := .slice (some ⟨g, 0, none⟩) n c) (L := M) (C := C) (by simpa using H.out))
      have hcl : ∀ ty, (Builtin.clear_ #[45] ty #[.slice (some ⟨g, i, none⟩) (n - i) (c - i)]).run Tryz.prog wc = .ok (.tuple #[]) (wc.setCells g i (List.replicate (n - i) (.int .i64 0))) := fun ty => clear_ints wc ty g i (n - i) (c - i) (by omega) (fun j hj => HT2.out.there_ (by rw [iR_len, hM]; omega)) (fun j hj => HT2.out.frozen _)
      have h9 := iT_take (A := A ++ [blkE b 3 #[.int .i64 q]]) (g := g) (n := n) (c := c) (M := M) (C := C) i (by omega) (by simpa using H.out)
      rw [hMi] at h9
      have H9 := Lib.hid (show Led B w0 (wc.setCells g i (List.replicate (n - i) (.int .i64 0))) (A ++ blkE b 3 #[.int .i64 q] :: iT (.slice (some ⟨g, 0, none⟩) i c) (idel q L) :: C) by simpa using h9)
      clear h9 HT2
      have hic : ¬ (c = i) := by omega
      have hin3 : i ≤ n := by omega
      have hic2 : i ≤ c := by omega
      go_wp2_with fail
      exact hR.out _ _ ⟨_, rfl, H9.out⟩
theorem del_clo_s (x q : Int) (b : Nat) (w : World) (hb : w.cell? ⟨b, 0, none⟩ = some (.int .i64 q)) : Calls Tryz.prog 193 #[.int .i64 x, .pointer (some ⟨b, 0, none⟩)] w fun e w' => e = .returned (.bool (x == q)) ∧ w = w' := by
  refine callsR fun R hR => ?_
  go_enter Tryz.func193, Tryz.ntmps193
  go_wp2_with fail
  exact hR.out _ _ ⟨rfl, rfl⟩
set_option maxHeartbeats 4000000 in
theorem del_index_s (q : Int) (b n c : Nat) (V : Option Addr) (L : List Int) (hL : L.length = n) (hn : n ≤ 1000000) (w : World) (hV : 0 < n → ∃ g, V = some ⟨g, 0, none⟩) (ht : TabIs w 0 3 1 (.slice V n c) (iR L)) (b1 : w.cell? ⟨b, 0, none⟩ = some (.int .i64 q)) :
    Calls Tryz.prog 216 #[.slice V n c, .func (.func 193) #[] #[.pointer (some ⟨b, 0, none⟩)]] w fun e w' => e = .returned (.int .i64 (pnum (iidx q L))) ∧ w = w' := by
  have HT := Lib.hid ht
  clear ht
  have HL := Lib.hid hL
  clear hL
  have HV := Lib.hid hV
  clear hV
  refine callsR fun R hR => ?_
  go_enter Tryz.func216, Tryz.ntmps216
  go_wp2_with fail
  go_loopw [8] (fun x wx => ∃ j : Nat, j ≤ n ∧ x = .int .i64 (j : Int) ∧ Hid (iidx q L = (iidx q (L.drop j)).map (· + j)) ∧ w = wx) (fun x _ => n - (intOf x).toNat)
  case atStart => exact ⟨0, by omega, rfl, Lib.hid (by simp), rfl⟩
  case round =>
    obtain ⟨j, hj, rfl, HE, rfl⟩ := hrel
    by_cases hlt : j < n
    · obtain ⟨x, hx⟩ : ∃ x, L[j]? = some x := ⟨_, List.getElem?_eq_getElem (by rw [HL.out]; exact hlt)⟩
      obtain ⟨g, rfl⟩ := HV.out (by omega)
      have t1 := iT_get HT.out hx
      have he := HE.out
      rw [List.drop_eq_getElem_cons (by rw [HL.out]; exact hlt), (List.getElem?_eq_some_iff.1 hx).2, iidx] at he
      clear hx HE
      by_cases hq : x = q
      · rw [if_pos hq] at he
        have g1 : (x == q) = true := by simpa using hq
        have HE2 := Lib.hid he
        clear he
        subst hq
        go_wp2_with (first | (go_at_call 193; refine Calls.mono (del_clo_s _ _ _ _ b1) ?_; rintro e w' ⟨rfl, rfl⟩; rw [g1]))
        exact hR.out _ _ ⟨by rw [HE2.out]; simp [pnum], rfl⟩
      · rw [if_neg hq, Option.map_map] at he
        have g1 : (x == q) = false := by simpa using hq
        have HE2 := Lib.hid he
        clear he
        go_wp2_with (first | (go_at_call 193; refine Calls.mono (del_clo_s _ _ _ _ b1) ?_; rintro e w' ⟨rfl, rfl⟩; rw [g1]))
        go_roundw
        case rel => exact ⟨j + 1, by omega, by go_num, Lib.hid (by rw [HE2.out]; congr 1; funext k; simp; omega), trivial⟩
        case measure => simp [intOf] <;> omega
    · obtain rfl : j = n := by omega
      have he := HE.out
      rw [List.drop_of_length_le (by rw [HL.out]; omega), iidx] at he
      have HE2 := Lib.hid he
      clear he HE
      go_wp2_with fail
      exact hR.out _ _ ⟨by rw [HE2.out]; rfl, rfl⟩
set_option maxHeartbeats 4000000 in
theorem del_all_s (q : Int) (b : Nat) (v : Value) (L : List Int) (hn : L.length ≤ 1000000) (h : Led B w0 w (A ++ blkE b 3 #[.int .i64 q] :: iT v L :: C)) :
    Calls Tryz.prog 190 #[v, .func (.func 193) #[] #[.pointer (some ⟨b, 0, none⟩)]] w fun e w' => ∃ v', e = .returned v' ∧ Led B w0 w' (A ++ blkE b 3 #[.int .i64 q] :: iT v' (idel q L) :: C) := by
  have H := Lib.hid h
  clear h
  have HT := Lib.hid (iT_tab (A := A ++ [blkE b 3 #[.int .i64 q]]) (v := v) (L := L) (C := C) (by simpa using H.out))
  obtain ⟨V, c, hv, hV⟩ := iT_form HT.out
  subst hv
  obtain ⟨n, hN⟩ : ∃ n, L.length = n := ⟨_, rfl⟩
  have hnc : n ≤ c := by obtain ⟨A1, c1, h1, h2, _⟩ := HT.out.form; rw [iR_len, hN] at h1 h2; injection h1 with _ _ e3; omega
  rw [hN] at hn hV H HT ⊢
  have HN := Lib.hid hN
  have HV := Lib.hid hV
  clear hN hV
  have HB1 := Lib.hid ((blk_mem H.out).cell 0)
  simp only [List.getElem?_toArray, List.getElem?_cons_zero] at HB1
  cases hx : iidx q L with
  | none =>
    have HX := Lib.hid hx
    clear hx
    have hd := idel_none (iidx_none HX.out)
    refine callsR fun R hR => ?_
    go_enter Tryz.func190, Tryz.ntmps190
    go_wp2_with (first | (go_at_call 216; refine Calls.mono (del_index_s q b n c _ L HN.out hn _ HV.out HT.out HB1.out) ?_; rintro e w' ⟨rfl, rfl⟩; rw [HX.out, pnum]))
    exact hR.out _ _ ⟨_, rfl, by rw [hd]; exact H.out⟩
  | some i =>
    have HX := Lib.hid hx
    obtain ⟨hi, hb⟩ := iidx_some hx
    have hin : i < n := by rw [← HN.out]; exact (List.getElem?_eq_some_iff.1 hi).1
    obtain ⟨g, rfl⟩ := HV.out (by omega)
    have hfi : idel q (L.take (i + 1)) = L.take i := by rw [List.take_add_one, hi]; unfold idel; rw [List.filter_append]; have := idel_none hb; unfold idel at this; rw [this]; simp
    have HFI := Lib.hid hfi
    have hg0 : ((i : Int) == -1) = false := by simp <;> omega
    clear hx hi hb hfi
    refine callsR fun R hR => ?_
    go_enter Tryz.func190, Tryz.ntmps190
    have hwi : IntKind.i64.wrap ((i : Int) + 1) = (i : Int) + 1 := by rw [IntKind.wrap_i64]; omega
    go_upto_block 0 with (first | (go_at_call 216; refine Calls.mono (del_index_s q b n c _ L HN.out hn _ HV.out HT.out HB1.out) ?_; rintro e w' ⟨rfl, rfl⟩; rw [HX.out, pnum]))
    go_cut [5] (fun x wx => ∃ (i : Nat) (M : List Int), x = .int .i64 (i : Int) ∧ i < n ∧ M.length = n ∧ M.take i = idel q L ∧ Hid (Led B w0 wx (A ++ blkE b 3 #[.int .i64 q] :: iT (.slice (some ⟨g, 0, none⟩) n c) M :: C)))
    case first =>
      go_wp2_with fail
      go_loopw [5, 6] (fun x y wx => ∃ (i j : Nat) (M : List Int), x = .int .i64 (i : Int) ∧ y = .int .i64 (j : Int) ∧ i < j ∧ j ≤ n ∧ M.length = n ∧ M.take i = idel q (L.take j) ∧ M.drop j = L.drop j ∧ Hid (Led B w0 wx (A ++ blkE b 3 #[.int .i64 q] :: iT (.slice (some ⟨g, 0, none⟩) n c) M :: C))) (fun _ y _ => n - (intOf y).toNat)
      case atStart => exact ⟨i, i + 1, L, rfl, by go_num, by omega, by omega, HN.out, HFI.out.symm, rfl, H⟩
      case round =>
        clear H
        obtain ⟨i, j, M, rfl, rfl, hij, hj, hM, hMi, hMj, H⟩ := hrel
        by_cases hlt : j < n
        · obtain ⟨x, hx⟩ : ∃ x, L[j]? = some x := ⟨_, List.getElem?_eq_getElem (by rw [HN.out]; exact hlt)⟩
          have hxM : M[j]? = some x := by have h1 : (M.drop j)[0]? = (L.drop j)[0]? := (by rw [hMj]); rw [List.getElem?_drop, List.getElem?_drop] at h1; exact h1.trans hx
          have t1 := iT_get (iT_tab (A := A ++ [blkE b 3 #[.int .i64 q]]) (by simpa using H.out)) hxM
          have b1 := (blk_mem H.out).cell 0
          simp only [List.getElem?_toArray, List.getElem?_cons_zero] at b1
          have hw1 : IntKind.i64.wrap ((j : Int) + 1) = (j : Int) + 1 := by rw [IntKind.wrap_i64]; omega
          have hw2 : IntKind.i64.wrap ((i : Int) + 1) = (i : Int) + 1 := by rw [IntKind.wrap_i64]; omega
          have hdr : M.drop (j + 1) = L.drop (j + 1) := by rw [← List.drop_drop, ← List.drop_drop, hMj]
          have hft : idel q (L.take (j + 1)) = idel q (L.take j) ++ (if x = q then [] else [x]) := by rw [List.take_add_one, hx]; unfold idel; rw [List.filter_append]; congr 1; by_cases hq : x = q <;> simp [hq]
          have HDR := Lib.hid hdr
          have HFT := Lib.hid hft
          have HMI := Lib.hid hMi
          have HXM := Lib.hid hxM
          clear hx hdr hft hMi hMj hxM
          by_cases hq : x = q
          · have g1 : (x == q) = true := by simpa using hq
            have HQ0 := Lib.hid hq
            clear hq
            go_wp2_with (first | (go_at_call 193; refine Calls.mono (del_clo_s _ _ _ _ b1) ?_; rintro e w' ⟨rfl, rfl⟩; rw [g1]))
            go_roundw
            case rel => exact ⟨i, j + 1, M, rfl, by go_num, by omega, by omega, hM, by rw [HFT.out, if_pos HQ0.out, List.append_nil]; exact HMI.out, HDR.out, H⟩
            case measure => simp [intOf] <;> omega
          · have g1 : (x == q) = false := by simpa using hq
            obtain ⟨y, hy⟩ : ∃ y, M[i]? = some y := ⟨_, List.getElem?_eq_getElem (by omega)⟩
            have t2 := iT_get (iT_tab (A := A ++ [blkE b 3 #[.int .i64 q]]) (by simpa using H.out)) hy
            have f2 := (iT_tab (A := A ++ [blkE b 3 #[.int .i64 q]]) (v := .slice (some ⟨g, 0, none⟩) n c) (L := M) (C := C) (by simpa using H.out)).frozen i
            have hin2 : i < n := by omega
            clear hy
            go_wp2_with (first | (go_at_call 193; refine Calls.mono (del_clo_s _ _ _ _ b1) ?_; rintro e w' ⟨rfl, rfl⟩; rw [g1]))
            go_roundw
            case rel => exact ⟨i + 1, j + 1, M.set i x, by go_num, by go_num, by omega, by omega, by rw [List.length_set]; exact hM, by rw [HFT.out, if_neg hq, ← HMI.out, List.take_add_one, List.getElem?_set_self (by omega)]; simp [List.take_set_of_le (Nat.le_refl i)], by rw [List.drop_set_of_lt (by omega)]; exact HDR.out, Lib.hid (by have h9 := iT_set (A := A ++ [blkE b 3 #[.int .i64 q]]) (i := i) x (by simpa using H.out) (by omega); simpa using h9)⟩
            case measure => simp [intOf] <;> omega
        · obtain rfl : j = n := by omega
          have hLt : L.take j = L := List.take_of_length_le (by rw [HN.out]; omega)
          rw [hLt] at hMi
          go_wp2_with fail
          go_meet
          case rel => exact ⟨i, M, rfl, hij, hM, hMi, H⟩
    case rest =>
      clear H
      obtain ⟨i, M, rfl, hin2, hM, hMi, H⟩ := hcut
      have HT2 := Lib.hid (iT_tab (A := A ++ [blkE b 3 #[.int .i64 q]]) (v := .slice (some ⟨g, 0, none⟩) n c) (L := M) (C := C) (by simpa using H.out))
      have hcl : ∀ ty, (Builtin.clear_ #[45] ty #[.slice (some ⟨g, i, none⟩) (n - i) (c - i)]).run Tryz.prog wc = .ok (.tuple #[]) (wc.setCells g i (List.replicate (n - i) (.int .i64 0))) := fun ty => clear_ints wc ty g i (n - i) (c - i) (by omega) (fun j hj => HT2.out.there_ (by rw [iR_len, hM]; omega)) (fun j hj => HT2.out.frozen _)
      have h9 := iT_take (A := A ++ [blkE b 3 #[.int .i64 q]]) (g := g) (n := n) (c := c) (M := M) (C := C) i (by omega) (by simpa using H.out)
      rw [hMi] at h9
      have H9 := Lib.hid (show Led B w0 (wc.setCells g i (List.replicate (n - i) (.int .i64 0))) (A ++ blkE b 3 #[.int .i64 q] :: iT (.slice (some ⟨g, 0, none⟩) i c) (idel q L) :: C) by simpa using h9)
      clear h9 HT2
      have hic : ¬ (c = i) := by omega
      have hin3 : i ≤ n := by omega
      have hic2 : i ≤ c := by omega
      go_wp2_with fail
      exact hR.out _ _ ⟨_, rfl, H9.out⟩
end
end Go.Proofs.YtognmhgdegpdiaaGreat
