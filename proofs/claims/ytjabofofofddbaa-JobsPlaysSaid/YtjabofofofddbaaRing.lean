/- Rings: what each method does to the queue that a ring holds. -/
import Derived.Test.YtjabofofofddbaaBase
import Derived.Test.YtjabofofofddbaaRows
namespace Go.Proofs.Ytjabofofofddbaa
open Go.RowKit
set_option maxRecDepth 100000

/-- The ring at block p, of type T, over the row l of n cells, holds the queue q. -/
def RingIs (w : World) (T E : TypeId) (p l n : Nat) (q : List Value) : Prop :=
  ∃ (f : Nat) (cs : Array Value), Blk w p T #[.slice (some ⟨l, 0, none⟩) n n, .int .i64 f, .int .i64 q.length] ∧ Blk w l E cs ∧ cs.size = n ∧ p ≠ l ∧ 1 ≤ n ∧ n ≤ 4096 ∧ f < n ∧ q.length ≤ n ∧
    ∀ i, i < q.length → cs[(f + i) % n]? = q[i]?

theorem RingIs.chg {fp : List Nat} {w w' : World} {T E : TypeId} {p l n : Nat} {q : List Value} (h : RingIs w T E p l n q) (hc : Chg fp w w') (hp : p ∉ fp) (hl : l ∉ fp) : RingIs w' T E p l n q := by
  obtain ⟨f, cs, h1, h2, r⟩ := h
  exact ⟨f, cs, h1.chg hc hp, h2.chg hc hl, r⟩
theorem RingIs.drewN {w : World} {T E : TypeId} {p l n : Nat} {q : List Value} (h : RingIs w T E p l n q) (k : Nat) : RingIs (w.drewN k) T E p l n q := h
theorem RingIs.lt {w : World} {T E : TypeId} {p l n : Nat} {q : List Value} (h : RingIs w T E p l n q) : p < w.heap.size ∧ l < w.heap.size := by
  obtain ⟨f, cs, h1, h2, r⟩ := h
  exact ⟨h1.lt, h2.lt⟩
theorem RingIs.len {w : World} {T E : TypeId} {p l n : Nat} {q : List Value} (h : RingIs w T E p l n q) : q.length ≤ n ∧ 1 ≤ n ∧ n ≤ 4096 := by
  obtain ⟨f, cs, h1, h2, _, _, h3, h4, _, h5, _⟩ := h
  exact ⟨h5, h3, h4⟩

theorem ring_push_plain {w : World} {T E : TypeId} {p l n f : Nat} {cs : Array Value} {q : List Value} (v : Value)
    (h1 : Blk w p T #[.slice (some ⟨l, 0, none⟩) n n, .int .i64 f, .int .i64 q.length]) (h2 : Blk w l E cs) (hs : cs.size = n) (hne : p ≠ l) (hn : n ≤ 4096) (hf : f < n) (hq : q.length < n)
    (hcs : ∀ i, i < q.length → cs[(f + i) % n]? = q[i]?) (k : Nat) :
    RingIs (((w.drewN k).setCell ⟨l, (f + q.length) % n, none⟩ v).setCell ⟨p, 2, none⟩ (.int .i64 ((q.length : Int) + 1))) T E p l n (q ++ [v]) := by
  refine ⟨f, cs.setIfInBounds ((f + q.length) % n) v, ?_, ?_, by simpa using hs, hne, by omega, hn, hf, by simp; omega, ?_⟩
  · have h := (((h1.drewN k).far (p := ⟨l, (f + q.length) % n, none⟩) hne v).set_ 2 (.int .i64 ((q.length : Int) + 1)))
    simpa using h
  · exact ((h2.drewN k).set_ _ v).far (p := ⟨p, 2, none⟩) (fun e => hne e.symm) _
  · intro i hi
    simp only [List.length_append, List.length_singleton] at hi
    have hlt : (f + q.length) % n < n := Nat.mod_lt _ (by omega)
    by_cases hi2 : i = q.length
    · subst hi2
      rw [Array.getElem?_setIfInBounds]
      simp [hs, hlt]
    · have hi3 : i < q.length := by omega
      have hne2 : (f + q.length) % n ≠ (f + i) % n := by
        intro e
        have a1 : (f + q.length) % n = if f + q.length < n then f + q.length else f + q.length - n := by
          split
          · exact Nat.mod_eq_of_lt (by omega)
          · rw [Nat.mod_eq_sub_mod (by omega), Nat.mod_eq_of_lt (by omega)]
        have a2 : (f + i) % n = if f + i < n then f + i else f + i - n := by
          split
          · exact Nat.mod_eq_of_lt (by omega)
          · rw [Nat.mod_eq_sub_mod (by omega), Nat.mod_eq_of_lt (by omega)]
        rw [a1, a2] at e
        split at e <;> split at e <;> omega
      rw [Array.getElem?_setIfInBounds_ne hne2, hcs i hi3, List.getElem?_append_left hi3]

theorem ring_pop_plain {w : World} {T E : TypeId} {p l n f : Nat} {cs : Array Value} {v : Value} {q : List Value} (z : Value)
    (h1 : Blk w p T #[.slice (some ⟨l, 0, none⟩) n n, .int .i64 f, .int .i64 ((v :: q).length : Nat)]) (h2 : Blk w l E cs) (hs : cs.size = n) (hne : p ≠ l) (hn : n ≤ 4096) (hf : f < n) (hq : (v :: q).length ≤ n)
    (hcs : ∀ i, i < (v :: q).length → cs[(f + i) % n]? = (v :: q)[i]?) (k : Nat) :
    RingIs (((w.drewN k).setCell ⟨l, f, none⟩ z |>.setCell ⟨p, 1, none⟩ (.int .i64 (((f : Int) + 1) % n))).setCell ⟨p, 2, none⟩ (.int .i64 (q.length : Int))) T E p l n q := by
  have e1 : (((f : Int) + 1) % n) = (((f + 1) % n : Nat) : Int) := by rw [Int.natCast_emod]; rfl
  have hlt : (f + 1) % n < n := Nat.mod_lt _ (by omega)
  refine ⟨(f + 1) % n, cs.setIfInBounds f z, ?_, ?_, by simpa using hs, hne, by omega, hn, hlt, by simp at hq; omega, ?_⟩
  · have h := ((((h1.drewN k).far (p := ⟨l, f, none⟩) hne z).set_ 1 (.int .i64 (((f : Int) + 1) % n))).set_ 2 (.int .i64 (q.length : Int)))
    rw [e1] at h ⊢
    simpa using h
  · exact (((h2.drewN k).set_ _ z).far (p := ⟨p, 1, none⟩) (fun e => hne e.symm) _).far (p := ⟨p, 2, none⟩) (fun e => hne e.symm) _
  · intro i hi
    have hi3 : i + 1 < (v :: q).length := by simpa using hi
    have e2 : ((f + 1) % n + i) % n = (f + (i + 1)) % n := by rw [Nat.mod_add_mod]; congr 1; omega
    have hne2 : f ≠ (f + (i + 1)) % n := by
      intro e
      have a2 : (f + (i + 1)) % n = if f + (i + 1) < n then f + (i + 1) else f + (i + 1) - n := by
        split
        · exact Nat.mod_eq_of_lt (by omega)
        · rw [Nat.mod_eq_sub_mod (by simp at hq hi3; omega), Nat.mod_eq_of_lt (by simp at hq hi3; omega)]
      rw [a2] at e
      simp at hq hi3
      split at e <;> omega
    rw [e2, Array.getElem?_setIfInBounds_ne hne2, hcs (i + 1) hi3]
    simp

theorem Chg.ring2 (w : World) (p l k : Nat) (a b : Nat) (u v : Value) : Chg [p, l] w (((w.drewN k).setCell ⟨l, a, none⟩ u).setCell ⟨p, b, none⟩ v) :=
  (((Chg.refl _ _).drewN k).setCell (p := ⟨l, a, none⟩) (.inl (by simp)) u).setCell (p := ⟨p, b, none⟩) (.inl (by simp)) v

theorem Chg.ring3 (w : World) (p l k m : Nat) (a b c : Nat) (u v x : Value) : Chg [p, l] w (((((w.drewN k).setCell ⟨l, a, none⟩ u).drewN m).setCell ⟨p, b, none⟩ v).setCell ⟨p, c, none⟩ x) :=
  (((((Chg.refl _ _).drewN k).setCell (p := ⟨l, a, none⟩) (.inl (by simp)) u).drewN m).setCell (p := ⟨p, b, none⟩) (.inl (by simp)) v).setCell (p := ⟨p, c, none⟩) (.inl (by simp)) x

theorem info_int : (Try.prog.info? 3).map (fun i => (i.zero, i.size, i.bytes)) = some (some (Value.int .i64 0), 1, 8) := by kernel_rfl

theorem ring_at_int (p l n f i j : Nat) (m : Value) (w : World) (hb : Blk w p 92 #[.slice (some ⟨l, 0, none⟩) n n, .int .i64 f, m]) (h1 : 1 ≤ n) (hn : n ≤ 4096) (hf : f < n) (hi2 : i ≤ n) (hj : j = (f + i) % n) :
    Calls Try.prog 51 #[.pointer (some ⟨p, 0, none⟩), .int .i64 i] w fun e w' => e = .returned (.int .i64 j) ∧ ∃ k, w' = w.drewN k := by
  have c0 := hb.cell 0
  have c1 := hb.cell 1
  simp only [List.getElem?_toArray, List.getElem?_cons_zero, List.getElem?_cons_succ] at c0 c1
  clear hb
  have hj2 : Value.int .i64 (((f : Int) + i) % n) = .int .i64 j := by rw [hj, Int.natCast_emod, Int.natCast_add]
  have HJ := Lib.hid hj2; clear hj2 hj
  refine callsR fun R hR => ?_
  go_enter Try.func51, Try.ntmps51
  go_wp2
  go_quiet (fail)
  go_wp2
  exact hR.out _ _ ⟨by rw [← HJ.out]; rfl, _, rfl⟩

theorem ring_push_int (p l n : Nat) (q : List Value) (v : Int) (w : World) (h : RingIs w 92 3 p l n q) :
    Calls Try.prog 18 #[.pointer (some ⟨p, 0, none⟩), Value.int .i64 v] w fun e w' =>
      e = .returned (.bool (decide (q.length < n))) ∧ RingIs w' 92 3 p l n (if q.length < n then q ++ [Value.int .i64 v] else q) ∧ Chg [p, l] w w' := by
  obtain ⟨f, cs, h1, h2, hs, hne, hn1, hn, hf, hq, hcs⟩ := h
  have c0 := h1.cell 0
  have c1 := h1.cell 1
  have c2 := h1.cell 2
  have f2 := h1.frozen 2
  have hne' : l ≠ p := fun e => hne e.symm
  simp only [List.getElem?_toArray, List.getElem?_cons_zero, List.getElem?_cons_succ] at c0 c1 c2
  by_cases hlt : q.length < n
  · have hm : (f + q.length) % n < n := Nat.mod_lt _ (by omega)
    obtain ⟨j, hj⟩ : ∃ j, j = (f + q.length) % n := ⟨_, rfl⟩
    rw [← hj] at hm
    obtain ⟨v0, hv0⟩ : ∃ v0, cs[j]? = some v0 := ⟨_, Array.getElem?_eq_getElem (by omega)⟩
    have cl := (h2.cell j).trans hv0
    have fl := h2.frozen j
    have hb : ((q.length : Int) == n) = false := by simp; omega
    have hd : decide (q.length < n) = true := by simpa using hlt
    have HP := Lib.hid (ring_push_plain (Value.int .i64 v) h1 h2 hs hne hn hf hlt hcs)
    have H1 := Lib.hid h1; clear h1 h2 hs hcs hv0
    have HJ := Lib.hid hj; clear hj
    have HD := Lib.hid hd; clear hd
    refine callsR fun R hR => ?_
    go_enter Try.func18, Try.ntmps18
    go_wp2
    go_quiet (fail)
    go_wp2
    go_region_held3 (fun w' => w'.cell? ⟨p, 0, none⟩ = some (.slice (some ⟨l, 0, none⟩) n n) ∧ w'.cell? ⟨p, 2, none⟩ = some (.int .i64 q.length)) (first | exact ⟨c0, c2⟩ | go_keep) (first | (go_at_call 51; refine (ring_at_int p l n f _ j _ _ (by exact H1.out) (by omega) (by omega) (by omega) (by omega) HJ.out).mono ?_; rintro e w' ⟨rfl, nq2, rfl⟩))
    go_wp2
    refine hR.out _ _ ⟨by rw [HD.out]; rfl, ?_, Chg.ring2 w p l _ _ _ _ _⟩
    rw [if_pos hlt, HJ.out]
    exact HP.out _
  · have hqn : q.length = n := by omega
    have hb : ((q.length : Int) == n) = true := by simp; omega
    have hd : decide (q.length < n) = false := by simpa using hlt
    have HD := Lib.hid hd; clear hd
    have HR : Hid (RingIs w 92 3 p l n q) := Lib.hid ⟨f, cs, h1, h2, hs, hne, hn1, hn, hf, hq, hcs⟩
    clear h1 h2 hs hcs
    have HN := Lib.hid hqn; clear hqn
    refine callsR fun R hR => ?_
    go_enter Try.func18, Try.ntmps18
    go_wp2
    go_quiet (fail)
    go_wp2
    refine hR.out _ _ ⟨by rw [HD.out]; rfl, ?_, (Chg.refl _ _).drewN _⟩
    rw [if_neg hlt]
    exact HR.out.drewN _

theorem ring_len_int (p l n : Nat) (q : List Value) (w : World) (h : RingIs w 92 3 p l n q) :
    Calls Try.prog 16 #[.pointer (some ⟨p, 0, none⟩)] w fun e w' => e = .returned (.int .i64 q.length) ∧ w = w' := by
  obtain ⟨f, cs, h1, h2, hs, hne, hn1, hn, hf, hq, hcs⟩ := h
  have c2 := h1.cell 2
  simp only [List.getElem?_toArray, List.getElem?_cons_zero, List.getElem?_cons_succ] at c2
  clear h1 h2 hs hcs
  refine callsR fun R hR => ?_
  go_enter Try.func16, Try.ntmps16
  go_wp2
  exact hR.out _ _ ⟨rfl, rfl⟩


theorem ring_peek_in_int (p l n : Nat) (q : List Value) (i : Nat) (v : Value) (w : World) (h : RingIs w 92 3 p l n q) (hv : q[i]? = some v) :
    Calls Try.prog 19 #[.pointer (some ⟨p, 0, none⟩), .int .i64 i] w fun e w' => e = .returned (.tuple #[v, .bool true]) ∧ ∃ k, w' = w.drewN k := by
  obtain ⟨f, cs, h1, h2, hs, hne, hn1, hn, hf, hq, hcs⟩ := h
  have hi : i < q.length := (List.getElem?_eq_some_iff.1 hv).1
  have c0 := h1.cell 0
  have c1 := h1.cell 1
  have c2 := h1.cell 2
  simp only [List.getElem?_toArray, List.getElem?_cons_zero, List.getElem?_cons_succ] at c0 c1 c2
  have hm : (f + i) % n < n := Nat.mod_lt _ (by omega)
  obtain ⟨j, hj⟩ : ∃ j, j = (f + i) % n := ⟨_, rfl⟩
  rw [← hj] at hm
  have cl := (h2.cell j).trans ((show cs[j]? = cs[(f + i) % n]? by rw [hj]).trans ((hcs i hi).trans hv))
  have H1 := Lib.hid h1; clear h1 h2 hs hcs
  have HJ := Lib.hid hj; clear hj
  have HV := Lib.hid hv; clear hv
  have hb1 : ((i : Int) < 0) = False := by simp
  have hb2 : decide ((q.length : Int) ≤ (i : Int)) = false := by simp; omega
  refine callsR fun R hR => ?_
  go_enter Try.func19, Try.ntmps19
  go_wp2
  go_region_held3 (fun w' => w'.cell? ⟨p, 0, none⟩ = some (.slice (some ⟨l, 0, none⟩) n n) ∧ w'.cell? ⟨l, j, none⟩ = some v) (exact ⟨c0, cl⟩) (first | (go_at_call 51; refine (ring_at_int p l n f _ j _ _ (by exact H1.out) (by omega) (by omega) (by omega) (by omega) HJ.out).mono ?_; rintro e w' ⟨rfl, nq2, rfl⟩))
  go_wp2
  exact hR.out _ _ ⟨rfl, _, rfl⟩

theorem ring_peek_out_int (p l n : Nat) (q : List Value) (i : Int) (w : World) (h : RingIs w 92 3 p l n q) (hi : i < 0 ∨ (q.length : Int) ≤ i) :
    Calls Try.prog 19 #[.pointer (some ⟨p, 0, none⟩), .int .i64 i] w fun e w' => e = .returned (.tuple #[Value.int .i64 0, .bool false]) ∧ ∃ k, w' = w.drewN k := by
  obtain ⟨f, cs, h1, h2, hs, hne, hn1, hn, hf, hq, hcs⟩ := h
  have c2 := h1.cell 2
  simp only [List.getElem?_toArray, List.getElem?_cons_zero, List.getElem?_cons_succ] at c2
  clear h1 h2 hs hcs
  by_cases h0 : i < 0
  · have hb1 : decide (i < 0) = true := by simpa using h0
    refine callsR fun R hR => ?_
    go_enter Try.func19, Try.ntmps19
    go_wp2
    exact hR.out _ _ ⟨rfl, 0, rfl⟩
  · have hb1 : decide (i < 0) = false := by simpa using h0
    have hb2 : (q.length : Int) ≤ i := by omega
    have hb3 : decide ((q.length : Int) ≤ i) = true := by simpa using hb2
    refine callsR fun R hR => ?_
    go_enter Try.func19, Try.ntmps19
    go_wp2
    exact hR.out _ _ ⟨rfl, 0, rfl⟩

theorem ring_pop_some_int (p l n : Nat) (q : List Value) (v : Int) (w : World) (h : RingIs w 92 3 p l n (Value.int .i64 v :: q)) :
    Calls Try.prog 17 #[.pointer (some ⟨p, 0, none⟩)] w fun e w' => e = .returned (.tuple #[Value.int .i64 v, .bool true]) ∧ RingIs w' 92 3 p l n q ∧ Chg [p, l] w w' := by
  have HH := Lib.hid h
  obtain ⟨f, cs, h1, h2, hs, hne, hn1, hn, hf, hq, hcs⟩ := h
  have hne' : l ≠ p := fun e => hne e.symm
  have c0 := h1.cell 0
  have c1 := h1.cell 1
  have c2 := h1.cell 2
  have f1 := h1.frozen 1
  have f2 := h1.frozen 2
  obtain ⟨v0, hv0⟩ : ∃ v0, cs[f]? = some v0 := ⟨_, Array.getElem?_eq_getElem (by omega)⟩
  have cl := (h2.cell f).trans hv0
  have fl := h2.frozen f
  simp only [List.getElem?_toArray, List.getElem?_cons_zero, List.getElem?_cons_succ, List.length_cons, Int.natCast_add, Int.natCast_one] at c0 c1 c2
  have hq' : q.length + 1 ≤ n := by simpa using hq
  obtain ⟨j, hj⟩ : ∃ j, j = (f + 1) % n := ⟨_, rfl⟩
  have hj2 : ((f : Int) + 1) % n = j := by rw [hj, Int.natCast_emod]; rfl
  have HP := Lib.hid (fun k => ring_pop_plain (Value.int .i64 0) h1 h2 hs hne hn hf hq hcs k)
  rw [hj2] at HP
  have H1 := Lib.hid (h1.drewN 0); clear h1 h2 hs hcs hv0 hq hj2
  have HJ := Lib.hid hj; clear hj
  refine callsR fun R hR => ?_
  go_enter Try.func17, Try.ntmps17
  go_wp2_with (go_at_call 19; refine Calls.mono (ring_peek_in_int p l n (Value.int .i64 v :: q) 0 (Value.int .i64 v) _ (by exact HH.out) rfl) ?_; rintro e w' ⟨rfl, nq, rfl⟩)
  go_region_held3 (fun w' => w'.cell? ⟨p, 0, none⟩ = some (.slice (some ⟨l, 0, none⟩) n n) ∧ w'.cell? ⟨p, 1, none⟩ = some (.int .i64 f)) (first | exact ⟨c0, c1⟩ | go_keep) (fail)
  go_wp2_with (go_at_call 51; refine Calls.mono (ring_at_int p l n f 1 j _ _ (by exact H1.out.far (p := ⟨l, f, none⟩) hne _) (by omega) (by omega) (by omega) (by omega) HJ.out) ?_; rintro e w' ⟨rfl, nq2, rfl⟩)
  exact hR.out _ _ ⟨rfl, HP.out _, Chg.ring3 w p l _ _ _ _ _ _ _ _⟩

theorem ring_pop_none_int (p l n : Nat) (w : World) (h : RingIs w 92 3 p l n []) :
    Calls Try.prog 17 #[.pointer (some ⟨p, 0, none⟩)] w fun e w' => e = .returned (.tuple #[Value.int .i64 0, .bool false]) ∧ ∃ k, w' = w.drewN k := by
  have HH := Lib.hid h
  clear h
  refine callsR fun R hR => ?_
  go_enter Try.func17, Try.ntmps17
  go_wp2_with (go_at_call 19; refine Calls.mono (ring_peek_out_int p l n [] 0 _ (by exact HH.out) (by simp)) ?_; rintro e w' ⟨rfl, nq, rfl⟩)
  exact hR.out _ _ ⟨rfl, _, rfl⟩


theorem ring_new_int (room : Int) (n : Nat) (w : World) (hn : (n : Int) = max 1 (min room 4096)) :
    Calls Try.prog 15 #[.int .i64 room] w fun e w' => ∃ p l, e = .returned (.pointer (some ⟨p, 0, none⟩)) ∧ RingIs w' 92 3 p l n [] ∧ w.heap.size ≤ p ∧ w.heap.size ≤ l ∧ Below w.heap.size w w' := by
  have h1 : 1 ≤ n := by omega
  have h2 : n ≤ 4096 := by omega
  obtain ⟨i0, hi0, hz0, hz1, hz2⟩ := info_parts info_int
  have hmk : ∀ W : World, (Instr.makeSlice 43 (.int .i64 (max 1 (min room 4096))) (.int .i64 (max 1 (min room 4096)))).run Try.prog W = .ok (.slice (some ⟨W.heap.size, 0, none⟩) n n) (W.alloc (.cells (madeCells #[Value.int .i64 0] n) 3)) := by
    intro W
    rw [← hn]
    exact run_make_row' (P := Try.prog) 43 3 (Value.int .i64 0) 8 Try.underlying43 info_int rfl .i64 .i64 n (by omega) (by omega) W
  clear hn
  refine callsR fun R hR => ?_
  go_enter Try.func15, Try.ntmps15
  go_wp2_with fail
  refine hR.out _ _ ⟨w.heap.size + 1, w.heap.size, rfl, ⟨0, madeCells #[Value.int .i64 0] n, ?_, (Blk.new w _ _).alloc _, size_madeCells _ _, by omega, h1, h2, by omega, Nat.zero_le _, fun i hi => absurd hi (by simp)⟩, by omega, Nat.le_refl _, ((Below.refl _ _).alloc (Nat.le_refl _) _).alloc (by simp) _⟩
  have h := Blk.new (w.alloc (.cells (madeCells #[Value.int .i64 0] n) 3)) 92 #[Value.slice (some ⟨w.heap.size, 0, none⟩) n n, .int .i64 0, .int .i64 0]
  rw [World.size_alloc] at h
  exact h
theorem info_int64 : (Try.prog.info? 2).map (fun i => (i.zero, i.size, i.bytes)) = some (some (Value.int .i64 0), 1, 8) := by kernel_rfl

theorem ring_at_int64 (p l n f i j : Nat) (m : Value) (w : World) (hb : Blk w p 103 #[.slice (some ⟨l, 0, none⟩) n n, .int .i64 f, m]) (h1 : 1 ≤ n) (hn : n ≤ 4096) (hf : f < n) (hi2 : i ≤ n) (hj : j = (f + i) % n) :
    Calls Try.prog 86 #[.pointer (some ⟨p, 0, none⟩), .int .i64 i] w fun e w' => e = .returned (.int .i64 j) ∧ ∃ k, w' = w.drewN k := by
  have c0 := hb.cell 0
  have c1 := hb.cell 1
  simp only [List.getElem?_toArray, List.getElem?_cons_zero, List.getElem?_cons_succ] at c0 c1
  clear hb
  have hj2 : Value.int .i64 (((f : Int) + i) % n) = .int .i64 j := by rw [hj, Int.natCast_emod, Int.natCast_add]
  have HJ := Lib.hid hj2; clear hj2 hj
  refine callsR fun R hR => ?_
  go_enter Try.func86, Try.ntmps86
  go_wp2
  go_quiet (fail)
  go_wp2
  exact hR.out _ _ ⟨by rw [← HJ.out]; rfl, _, rfl⟩

theorem ring_push_int64 (p l n : Nat) (q : List Value) (v : Int) (w : World) (h : RingIs w 103 2 p l n q) :
    Calls Try.prog 52 #[.pointer (some ⟨p, 0, none⟩), Value.int .i64 v] w fun e w' =>
      e = .returned (.bool (decide (q.length < n))) ∧ RingIs w' 103 2 p l n (if q.length < n then q ++ [Value.int .i64 v] else q) ∧ Chg [p, l] w w' := by
  obtain ⟨f, cs, h1, h2, hs, hne, hn1, hn, hf, hq, hcs⟩ := h
  have c0 := h1.cell 0
  have c1 := h1.cell 1
  have c2 := h1.cell 2
  have f2 := h1.frozen 2
  have hne' : l ≠ p := fun e => hne e.symm
  simp only [List.getElem?_toArray, List.getElem?_cons_zero, List.getElem?_cons_succ] at c0 c1 c2
  by_cases hlt : q.length < n
  · have hm : (f + q.length) % n < n := Nat.mod_lt _ (by omega)
    obtain ⟨j, hj⟩ : ∃ j, j = (f + q.length) % n := ⟨_, rfl⟩
    rw [← hj] at hm
    obtain ⟨v0, hv0⟩ : ∃ v0, cs[j]? = some v0 := ⟨_, Array.getElem?_eq_getElem (by omega)⟩
    have cl := (h2.cell j).trans hv0
    have fl := h2.frozen j
    have hb : ((q.length : Int) == n) = false := by simp; omega
    have hd : decide (q.length < n) = true := by simpa using hlt
    have HP := Lib.hid (ring_push_plain (Value.int .i64 v) h1 h2 hs hne hn hf hlt hcs)
    have H1 := Lib.hid h1; clear h1 h2 hs hcs hv0
    have HJ := Lib.hid hj; clear hj
    have HD := Lib.hid hd; clear hd
    refine callsR fun R hR => ?_
    go_enter Try.func52, Try.ntmps52
    go_wp2
    go_quiet (fail)
    go_wp2
    go_region_held3 (fun w' => w'.cell? ⟨p, 0, none⟩ = some (.slice (some ⟨l, 0, none⟩) n n) ∧ w'.cell? ⟨p, 2, none⟩ = some (.int .i64 q.length)) (first | exact ⟨c0, c2⟩ | go_keep) (first | (go_at_call 86; refine (ring_at_int64 p l n f _ j _ _ (by exact H1.out) (by omega) (by omega) (by omega) (by omega) HJ.out).mono ?_; rintro e w' ⟨rfl, nq2, rfl⟩))
    go_wp2
    refine hR.out _ _ ⟨by rw [HD.out]; rfl, ?_, Chg.ring2 w p l _ _ _ _ _⟩
    rw [if_pos hlt, HJ.out]
    exact HP.out _
  · have hqn : q.length = n := by omega
    have hb : ((q.length : Int) == n) = true := by simp; omega
    have hd : decide (q.length < n) = false := by simpa using hlt
    have HD := Lib.hid hd; clear hd
    have HR : Hid (RingIs w 103 2 p l n q) := Lib.hid ⟨f, cs, h1, h2, hs, hne, hn1, hn, hf, hq, hcs⟩
    clear h1 h2 hs hcs
    have HN := Lib.hid hqn; clear hqn
    refine callsR fun R hR => ?_
    go_enter Try.func52, Try.ntmps52
    go_wp2
    go_quiet (fail)
    go_wp2
    refine hR.out _ _ ⟨by rw [HD.out]; rfl, ?_, (Chg.refl _ _).drewN _⟩
    rw [if_neg hlt]
    exact HR.out.drewN _

theorem ring_len_int64 (p l n : Nat) (q : List Value) (w : World) (h : RingIs w 103 2 p l n q) :
    Calls Try.prog 57 #[.pointer (some ⟨p, 0, none⟩)] w fun e w' => e = .returned (.int .i64 q.length) ∧ w = w' := by
  obtain ⟨f, cs, h1, h2, hs, hne, hn1, hn, hf, hq, hcs⟩ := h
  have c2 := h1.cell 2
  simp only [List.getElem?_toArray, List.getElem?_cons_zero, List.getElem?_cons_succ] at c2
  clear h1 h2 hs hcs
  refine callsR fun R hR => ?_
  go_enter Try.func57, Try.ntmps57
  go_wp2
  exact hR.out _ _ ⟨rfl, rfl⟩

theorem ring_room_int64 (p l n : Nat) (q : List Value) (w : World) (h : RingIs w 103 2 p l n q) :
    Calls Try.prog 28 #[.pointer (some ⟨p, 0, none⟩)] w fun e w' => e = .returned (.int .i64 ((n : Int) - q.length)) ∧ ∃ k, w' = w.drewN k := by
  obtain ⟨f, cs, h1, h2, hs, hne, hn1, hn, hf, hq, hcs⟩ := h
  have c0 := h1.cell 0
  have c2 := h1.cell 2
  simp only [List.getElem?_toArray, List.getElem?_cons_zero, List.getElem?_cons_succ] at c0 c2
  clear h1 h2 hs hcs
  refine callsR fun R hR => ?_
  go_enter Try.func28, Try.ntmps28
  go_wp2
  go_quiet (fail)
  go_wp2
  exact hR.out _ _ ⟨rfl, _, rfl⟩

theorem ring_peek_in_int64 (p l n : Nat) (q : List Value) (i : Nat) (v : Value) (w : World) (h : RingIs w 103 2 p l n q) (hv : q[i]? = some v) :
    Calls Try.prog 56 #[.pointer (some ⟨p, 0, none⟩), .int .i64 i] w fun e w' => e = .returned (.tuple #[v, .bool true]) ∧ ∃ k, w' = w.drewN k := by
  obtain ⟨f, cs, h1, h2, hs, hne, hn1, hn, hf, hq, hcs⟩ := h
  have hi : i < q.length := (List.getElem?_eq_some_iff.1 hv).1
  have c0 := h1.cell 0
  have c1 := h1.cell 1
  have c2 := h1.cell 2
  simp only [List.getElem?_toArray, List.getElem?_cons_zero, List.getElem?_cons_succ] at c0 c1 c2
  have hm : (f + i) % n < n := Nat.mod_lt _ (by omega)
  obtain ⟨j, hj⟩ : ∃ j, j = (f + i) % n := ⟨_, rfl⟩
  rw [← hj] at hm
  have cl := (h2.cell j).trans ((show cs[j]? = cs[(f + i) % n]? by rw [hj]).trans ((hcs i hi).trans hv))
  have H1 := Lib.hid h1; clear h1 h2 hs hcs
  have HJ := Lib.hid hj; clear hj
  have HV := Lib.hid hv; clear hv
  have hb1 : ((i : Int) < 0) = False := by simp
  have hb2 : decide ((q.length : Int) ≤ (i : Int)) = false := by simp; omega
  refine callsR fun R hR => ?_
  go_enter Try.func56, Try.ntmps56
  go_wp2
  go_region_held3 (fun w' => w'.cell? ⟨p, 0, none⟩ = some (.slice (some ⟨l, 0, none⟩) n n) ∧ w'.cell? ⟨l, j, none⟩ = some v) (exact ⟨c0, cl⟩) (first | (go_at_call 86; refine (ring_at_int64 p l n f _ j _ _ (by exact H1.out) (by omega) (by omega) (by omega) (by omega) HJ.out).mono ?_; rintro e w' ⟨rfl, nq2, rfl⟩))
  go_wp2
  exact hR.out _ _ ⟨rfl, _, rfl⟩

theorem ring_peek_out_int64 (p l n : Nat) (q : List Value) (i : Int) (w : World) (h : RingIs w 103 2 p l n q) (hi : i < 0 ∨ (q.length : Int) ≤ i) :
    Calls Try.prog 56 #[.pointer (some ⟨p, 0, none⟩), .int .i64 i] w fun e w' => e = .returned (.tuple #[Value.int .i64 0, .bool false]) ∧ ∃ k, w' = w.drewN k := by
  obtain ⟨f, cs, h1, h2, hs, hne, hn1, hn, hf, hq, hcs⟩ := h
  have c2 := h1.cell 2
  simp only [List.getElem?_toArray, List.getElem?_cons_zero, List.getElem?_cons_succ] at c2
  clear h1 h2 hs hcs
  by_cases h0 : i < 0
  · have hb1 : decide (i < 0) = true := by simpa using h0
    refine callsR fun R hR => ?_
    go_enter Try.func56, Try.ntmps56
    go_wp2
    exact hR.out _ _ ⟨rfl, 0, rfl⟩
  · have hb1 : decide (i < 0) = false := by simpa using h0
    have hb2 : (q.length : Int) ≤ i := by omega
    have hb3 : decide ((q.length : Int) ≤ i) = true := by simpa using hb2
    refine callsR fun R hR => ?_
    go_enter Try.func56, Try.ntmps56
    go_wp2
    exact hR.out _ _ ⟨rfl, 0, rfl⟩

theorem ring_pop_some_int64 (p l n : Nat) (q : List Value) (v : Int) (w : World) (h : RingIs w 103 2 p l n (Value.int .i64 v :: q)) :
    Calls Try.prog 53 #[.pointer (some ⟨p, 0, none⟩)] w fun e w' => e = .returned (.tuple #[Value.int .i64 v, .bool true]) ∧ RingIs w' 103 2 p l n q ∧ Chg [p, l] w w' := by
  have HH := Lib.hid h
  obtain ⟨f, cs, h1, h2, hs, hne, hn1, hn, hf, hq, hcs⟩ := h
  have hne' : l ≠ p := fun e => hne e.symm
  have c0 := h1.cell 0
  have c1 := h1.cell 1
  have c2 := h1.cell 2
  have f1 := h1.frozen 1
  have f2 := h1.frozen 2
  obtain ⟨v0, hv0⟩ : ∃ v0, cs[f]? = some v0 := ⟨_, Array.getElem?_eq_getElem (by omega)⟩
  have cl := (h2.cell f).trans hv0
  have fl := h2.frozen f
  simp only [List.getElem?_toArray, List.getElem?_cons_zero, List.getElem?_cons_succ, List.length_cons, Int.natCast_add, Int.natCast_one] at c0 c1 c2
  have hq' : q.length + 1 ≤ n := by simpa using hq
  obtain ⟨j, hj⟩ : ∃ j, j = (f + 1) % n := ⟨_, rfl⟩
  have hj2 : ((f : Int) + 1) % n = j := by rw [hj, Int.natCast_emod]; rfl
  have HP := Lib.hid (fun k => ring_pop_plain (Value.int .i64 0) h1 h2 hs hne hn hf hq hcs k)
  rw [hj2] at HP
  have H1 := Lib.hid (h1.drewN 0); clear h1 h2 hs hcs hv0 hq hj2
  have HJ := Lib.hid hj; clear hj
  refine callsR fun R hR => ?_
  go_enter Try.func53, Try.ntmps53
  go_wp2_with (go_at_call 56; refine Calls.mono (ring_peek_in_int64 p l n (Value.int .i64 v :: q) 0 (Value.int .i64 v) _ (by exact HH.out) rfl) ?_; rintro e w' ⟨rfl, nq, rfl⟩)
  go_region_held3 (fun w' => w'.cell? ⟨p, 0, none⟩ = some (.slice (some ⟨l, 0, none⟩) n n) ∧ w'.cell? ⟨p, 1, none⟩ = some (.int .i64 f)) (first | exact ⟨c0, c1⟩ | go_keep) (fail)
  go_wp2_with (go_at_call 86; refine Calls.mono (ring_at_int64 p l n f 1 j _ _ (by exact H1.out.far (p := ⟨l, f, none⟩) hne _) (by omega) (by omega) (by omega) (by omega) HJ.out) ?_; rintro e w' ⟨rfl, nq2, rfl⟩)
  exact hR.out _ _ ⟨rfl, HP.out _, Chg.ring3 w p l _ _ _ _ _ _ _ _⟩

theorem ring_pop_none_int64 (p l n : Nat) (w : World) (h : RingIs w 103 2 p l n []) :
    Calls Try.prog 53 #[.pointer (some ⟨p, 0, none⟩)] w fun e w' => e = .returned (.tuple #[Value.int .i64 0, .bool false]) ∧ ∃ k, w' = w.drewN k := by
  have HH := Lib.hid h
  clear h
  refine callsR fun R hR => ?_
  go_enter Try.func53, Try.ntmps53
  go_wp2_with (go_at_call 56; refine Calls.mono (ring_peek_out_int64 p l n [] 0 _ (by exact HH.out) (by simp)) ?_; rintro e w' ⟨rfl, nq, rfl⟩)
  exact hR.out _ _ ⟨rfl, _, rfl⟩

theorem ring_all_int64 (p l n : Nat) (q : List Int) (w : World) (h : RingIs w 103 2 p l n (q.map fun v => Value.int .i64 v)) :
    Calls Try.prog 59 #[.pointer (some ⟨p, 0, none⟩)] w fun e w' => ∃ u, e = .returned u ∧ w'.ownsRow w.heap.size 2 1 u q.length (q.map fun v => Value.int .i64 v) ∧ Below w.heap.size w w' := by
  have HH := Lib.hid h
  obtain ⟨f, cs, h1, h2, hs, hne, hn1, hn, hf, hq, hcs⟩ := h
  have hp := h1.lt
  have hl := h2.lt
  have c0 := h1.cell 0
  have c1 := h1.cell 1
  have c2 := h1.cell 2
  simp only [List.getElem?_toArray, List.getElem?_cons_zero, List.getElem?_cons_succ, List.length_map] at c0 c1 c2
  rw [List.length_map] at hq hcs
  have hat : ∀ k (hk : k < q.length), ∃ j, j = (f + k) % n ∧ j < n ∧ w.cell? ⟨l, j, none⟩ = some (Value.int .i64 q[k]) := fun k hk =>
    ⟨_, rfl, Nat.mod_lt _ (by omega), (h2.cell _).trans ((hcs k hk).trans (by simp [hk]))⟩
  have HAT := Lib.hid hat; clear hat
  have H1 := Lib.hid h1; clear h1 h2 hs hcs
  obtain ⟨i0, hi0, hz0, hz1, hz2⟩ := info_parts info_int64
  refine callsR fun R hR => ?_
  go_enter Try.func59, Try.ntmps59
  go_wp2
  go_loopw [3, 9] (fun u i wr => ∃ k : Nat, k ≤ q.length ∧ i = .int .i64 k ∧ wr.ownsRow w.heap.size 2 1 u k ((q.take k).map fun v => Value.int .i64 v) ∧ Below w.heap.size w wr) (fun _ i _ => q.length - (intOf i).toNat)
  case atStart => exact ⟨0, Nat.zero_le _, rfl, World.ownsRow_nil _ _ _ _, Below.refl _ _⟩
  case round =>
    obtain ⟨k, hk, rfl, hown, hbel⟩ := hrel
    by_cases hlt : k < q.length
    · obtain ⟨j, hj, hjn, hc⟩ := HAT.out k hlt
      have HJ := Lib.hid hj; clear hj
      have r0 := (hbel.cell (p := ⟨p, 0, none⟩) hp).trans c0
      have rl := (hbel.cell (p := ⟨l, j, none⟩) hl).trans hc
      have HB := Lib.hid hbel
      have hsz := hbel.size
      have HO := Lib.hid hown; clear hown hbel
      have hx : (q.take (k + 1)).map (fun v => Value.int .i64 v) = (q.take k).map (fun v => Value.int .i64 v) ++ [Value.int .i64 q[k]] := by rw [List.take_succ_eq_append_getElem hlt, List.map_append]; rfl
      generalize q[k] = x at *
      have HX := Lib.hid hx; clear hx
      go_wp2
      go_region_held3 (fun w' => w'.cell? ⟨p, 0, none⟩ = some (.slice (some ⟨l, 0, none⟩) n n) ∧ w'.cell? ⟨l, j, none⟩ = some (Value.int .i64 x))
        (first | exact ⟨r0, rl⟩ | go_keep | (go_split_ands; exact ⟨grown_cell hgrow (by assumption) (ownBlock_ne_of_base HO.out hp), grown_cell hgrow (by assumption) (ownBlock_ne_of_base HO.out hl)⟩))
        (first
          | (go_at_call 86; refine Calls.mono (ring_at_int64 p l n f k j _ _ (by exact H1.out.same (HB.out.block p hp)) (by omega) (by omega) (by omega) (by omega) HJ.out) ?_; rintro e w' ⟨rfl, nq2, rfl⟩)
          | (refine step_append_at (o := ⟨some 23, _, _, _, _, _⟩) _ (by rfl) (.tmp 12) (.tmp 22) _ (by rfl) w.heap.size 2 i0 _ 1 8 Try.underlying55 hi0 hz0 hz1 hz2 rfl (by omega) u3 k ((q.take k).map fun v => Value.int .i64 v) (by rfl) (by exact own_drewN (HO.out.alloc _) _) ⟨wr.heap.size, 0, none⟩ 1 1 [(Value.int .i64 x)] (by rfl) (by rfl) (by intro j u hu; exact cell_one_new wr _ _ j u hu) (by simp [Value.oneCell']) (by unfold maxLen; omega) (by omega) (by simp; omega) ?_; intro v' w1 hown' hgrow hnil hat))
      have HO' := Lib.hid hown'
      have HG := Lib.hid hgrow
      clear hown' hgrow hnil hat r0 rl
      go_wp2
      go_roundw
      case rel => exact ⟨k + 1, by omega, by go_num, by rw [HX.out]; exact HO'.out, ((below_drewN HB.out _).alloc (by exact hsz) _).grown HG.out (by simp; omega) (fun b hb => (HO.out.lt b hb).1)⟩
      case measure => simp [intOf]; omega
    · have HO := Lib.hid hown
      have HB := Lib.hid hbel
      clear hown hbel
      obtain rfl : k = q.length := by omega
      go_wp2
      refine hR.out _ _ ⟨u3, rfl, ?_, HB.out⟩
      have := HO.out
      rwa [List.take_length] at this

theorem ring_new_int64 (room : Int) (n : Nat) (w : World) (hn : (n : Int) = max 1 (min room 4096)) :
    Calls Try.prog 27 #[.int .i64 room] w fun e w' => ∃ p l, e = .returned (.pointer (some ⟨p, 0, none⟩)) ∧ RingIs w' 103 2 p l n [] ∧ w.heap.size ≤ p ∧ w.heap.size ≤ l ∧ Below w.heap.size w w' := by
  have h1 : 1 ≤ n := by omega
  have h2 : n ≤ 4096 := by omega
  obtain ⟨i0, hi0, hz0, hz1, hz2⟩ := info_parts info_int64
  have hmk : ∀ W : World, (Instr.makeSlice 55 (.int .i64 (max 1 (min room 4096))) (.int .i64 (max 1 (min room 4096)))).run Try.prog W = .ok (.slice (some ⟨W.heap.size, 0, none⟩) n n) (W.alloc (.cells (madeCells #[Value.int .i64 0] n) 2)) := by
    intro W
    rw [← hn]
    exact run_make_row' (P := Try.prog) 55 2 (Value.int .i64 0) 8 Try.underlying55 info_int64 rfl .i64 .i64 n (by omega) (by omega) W
  clear hn
  refine callsR fun R hR => ?_
  go_enter Try.func27, Try.ntmps27
  go_wp2_with fail
  refine hR.out _ _ ⟨w.heap.size + 1, w.heap.size, rfl, ⟨0, madeCells #[Value.int .i64 0] n, ?_, (Blk.new w _ _).alloc _, size_madeCells _ _, by omega, h1, h2, by omega, Nat.zero_le _, fun i hi => absurd hi (by simp)⟩, by omega, Nat.le_refl _, ((Below.refl _ _).alloc (Nat.le_refl _) _).alloc (by simp) _⟩
  have h := Blk.new (w.alloc (.cells (madeCells #[Value.int .i64 0] n) 2)) 103 #[Value.slice (some ⟨w.heap.size, 0, none⟩) n n, .int .i64 0, .int .i64 0]
  rw [World.size_alloc] at h
  exact h
theorem info_string : (Try.prog.info? 9).map (fun i => (i.zero, i.size, i.bytes)) = some (some (Value.string ⟨#[]⟩), 1, 16) := by kernel_rfl

theorem ring_at_string (p l n f i j : Nat) (m : Value) (w : World) (hb : Blk w p 97 #[.slice (some ⟨l, 0, none⟩) n n, .int .i64 f, m]) (h1 : 1 ≤ n) (hn : n ≤ 4096) (hf : f < n) (hi2 : i ≤ n) (hj : j = (f + i) % n) :
    Calls Try.prog 54 #[.pointer (some ⟨p, 0, none⟩), .int .i64 i] w fun e w' => e = .returned (.int .i64 j) ∧ ∃ k, w' = w.drewN k := by
  have c0 := hb.cell 0
  have c1 := hb.cell 1
  simp only [List.getElem?_toArray, List.getElem?_cons_zero, List.getElem?_cons_succ] at c0 c1
  clear hb
  have hj2 : Value.int .i64 (((f : Int) + i) % n) = .int .i64 j := by rw [hj, Int.natCast_emod, Int.natCast_add]
  have HJ := Lib.hid hj2; clear hj2 hj
  refine callsR fun R hR => ?_
  go_enter Try.func54, Try.ntmps54
  go_wp2
  go_quiet (fail)
  go_wp2
  exact hR.out _ _ ⟨by rw [← HJ.out]; rfl, _, rfl⟩

theorem ring_push_string (p l n : Nat) (q : List Value) (v : ByteArray) (w : World) (h : RingIs w 97 9 p l n q) :
    Calls Try.prog 22 #[.pointer (some ⟨p, 0, none⟩), Value.string v] w fun e w' =>
      e = .returned (.bool (decide (q.length < n))) ∧ RingIs w' 97 9 p l n (if q.length < n then q ++ [Value.string v] else q) ∧ Chg [p, l] w w' := by
  obtain ⟨f, cs, h1, h2, hs, hne, hn1, hn, hf, hq, hcs⟩ := h
  have c0 := h1.cell 0
  have c1 := h1.cell 1
  have c2 := h1.cell 2
  have f2 := h1.frozen 2
  have hne' : l ≠ p := fun e => hne e.symm
  simp only [List.getElem?_toArray, List.getElem?_cons_zero, List.getElem?_cons_succ] at c0 c1 c2
  by_cases hlt : q.length < n
  · have hm : (f + q.length) % n < n := Nat.mod_lt _ (by omega)
    obtain ⟨j, hj⟩ : ∃ j, j = (f + q.length) % n := ⟨_, rfl⟩
    rw [← hj] at hm
    obtain ⟨v0, hv0⟩ : ∃ v0, cs[j]? = some v0 := ⟨_, Array.getElem?_eq_getElem (by omega)⟩
    have cl := (h2.cell j).trans hv0
    have fl := h2.frozen j
    have hb : ((q.length : Int) == n) = false := by simp; omega
    have hd : decide (q.length < n) = true := by simpa using hlt
    have HP := Lib.hid (ring_push_plain (Value.string v) h1 h2 hs hne hn hf hlt hcs)
    have H1 := Lib.hid h1; clear h1 h2 hs hcs hv0
    have HJ := Lib.hid hj; clear hj
    have HD := Lib.hid hd; clear hd
    refine callsR fun R hR => ?_
    go_enter Try.func22, Try.ntmps22
    go_wp2
    go_quiet (fail)
    go_wp2
    go_region_held3 (fun w' => w'.cell? ⟨p, 0, none⟩ = some (.slice (some ⟨l, 0, none⟩) n n) ∧ w'.cell? ⟨p, 2, none⟩ = some (.int .i64 q.length)) (first | exact ⟨c0, c2⟩ | go_keep) (first | (go_at_call 54; refine (ring_at_string p l n f _ j _ _ (by exact H1.out) (by omega) (by omega) (by omega) (by omega) HJ.out).mono ?_; rintro e w' ⟨rfl, nq2, rfl⟩))
    go_wp2
    refine hR.out _ _ ⟨by rw [HD.out]; rfl, ?_, Chg.ring2 w p l _ _ _ _ _⟩
    rw [if_pos hlt, HJ.out]
    exact HP.out _
  · have hqn : q.length = n := by omega
    have hb : ((q.length : Int) == n) = true := by simp; omega
    have hd : decide (q.length < n) = false := by simpa using hlt
    have HD := Lib.hid hd; clear hd
    have HR : Hid (RingIs w 97 9 p l n q) := Lib.hid ⟨f, cs, h1, h2, hs, hne, hn1, hn, hf, hq, hcs⟩
    clear h1 h2 hs hcs
    have HN := Lib.hid hqn; clear hqn
    refine callsR fun R hR => ?_
    go_enter Try.func22, Try.ntmps22
    go_wp2
    go_quiet (fail)
    go_wp2
    refine hR.out _ _ ⟨by rw [HD.out]; rfl, ?_, (Chg.refl _ _).drewN _⟩
    rw [if_neg hlt]
    exact HR.out.drewN _



theorem ring_peek_in_string (p l n : Nat) (q : List Value) (i : Nat) (v : Value) (w : World) (h : RingIs w 97 9 p l n q) (hv : q[i]? = some v) :
    Calls Try.prog 55 #[.pointer (some ⟨p, 0, none⟩), .int .i64 i] w fun e w' => e = .returned (.tuple #[v, .bool true]) ∧ ∃ k, w' = w.drewN k := by
  obtain ⟨f, cs, h1, h2, hs, hne, hn1, hn, hf, hq, hcs⟩ := h
  have hi : i < q.length := (List.getElem?_eq_some_iff.1 hv).1
  have c0 := h1.cell 0
  have c1 := h1.cell 1
  have c2 := h1.cell 2
  simp only [List.getElem?_toArray, List.getElem?_cons_zero, List.getElem?_cons_succ] at c0 c1 c2
  have hm : (f + i) % n < n := Nat.mod_lt _ (by omega)
  obtain ⟨j, hj⟩ : ∃ j, j = (f + i) % n := ⟨_, rfl⟩
  rw [← hj] at hm
  have cl := (h2.cell j).trans ((show cs[j]? = cs[(f + i) % n]? by rw [hj]).trans ((hcs i hi).trans hv))
  have H1 := Lib.hid h1; clear h1 h2 hs hcs
  have HJ := Lib.hid hj; clear hj
  have HV := Lib.hid hv; clear hv
  have hb1 : ((i : Int) < 0) = False := by simp
  have hb2 : decide ((q.length : Int) ≤ (i : Int)) = false := by simp; omega
  refine callsR fun R hR => ?_
  go_enter Try.func55, Try.ntmps55
  go_wp2
  go_region_held3 (fun w' => w'.cell? ⟨p, 0, none⟩ = some (.slice (some ⟨l, 0, none⟩) n n) ∧ w'.cell? ⟨l, j, none⟩ = some v) (exact ⟨c0, cl⟩) (first | (go_at_call 54; refine (ring_at_string p l n f _ j _ _ (by exact H1.out) (by omega) (by omega) (by omega) (by omega) HJ.out).mono ?_; rintro e w' ⟨rfl, nq2, rfl⟩))
  go_wp2
  exact hR.out _ _ ⟨rfl, _, rfl⟩

theorem ring_peek_out_string (p l n : Nat) (q : List Value) (i : Int) (w : World) (h : RingIs w 97 9 p l n q) (hi : i < 0 ∨ (q.length : Int) ≤ i) :
    Calls Try.prog 55 #[.pointer (some ⟨p, 0, none⟩), .int .i64 i] w fun e w' => e = .returned (.tuple #[Value.string ⟨#[]⟩, .bool false]) ∧ ∃ k, w' = w.drewN k := by
  obtain ⟨f, cs, h1, h2, hs, hne, hn1, hn, hf, hq, hcs⟩ := h
  have c2 := h1.cell 2
  simp only [List.getElem?_toArray, List.getElem?_cons_zero, List.getElem?_cons_succ] at c2
  clear h1 h2 hs hcs
  by_cases h0 : i < 0
  · have hb1 : decide (i < 0) = true := by simpa using h0
    refine callsR fun R hR => ?_
    go_enter Try.func55, Try.ntmps55
    go_wp2
    exact hR.out _ _ ⟨rfl, 0, rfl⟩
  · have hb1 : decide (i < 0) = false := by simpa using h0
    have hb2 : (q.length : Int) ≤ i := by omega
    have hb3 : decide ((q.length : Int) ≤ i) = true := by simpa using hb2
    refine callsR fun R hR => ?_
    go_enter Try.func55, Try.ntmps55
    go_wp2
    exact hR.out _ _ ⟨rfl, 0, rfl⟩

theorem ring_pop_some_string (p l n : Nat) (q : List Value) (v : ByteArray) (w : World) (h : RingIs w 97 9 p l n (Value.string v :: q)) :
    Calls Try.prog 23 #[.pointer (some ⟨p, 0, none⟩)] w fun e w' => e = .returned (.tuple #[Value.string v, .bool true]) ∧ RingIs w' 97 9 p l n q ∧ Chg [p, l] w w' := by
  have HH := Lib.hid h
  obtain ⟨f, cs, h1, h2, hs, hne, hn1, hn, hf, hq, hcs⟩ := h
  have hne' : l ≠ p := fun e => hne e.symm
  have c0 := h1.cell 0
  have c1 := h1.cell 1
  have c2 := h1.cell 2
  have f1 := h1.frozen 1
  have f2 := h1.frozen 2
  obtain ⟨v0, hv0⟩ : ∃ v0, cs[f]? = some v0 := ⟨_, Array.getElem?_eq_getElem (by omega)⟩
  have cl := (h2.cell f).trans hv0
  have fl := h2.frozen f
  simp only [List.getElem?_toArray, List.getElem?_cons_zero, List.getElem?_cons_succ, List.length_cons, Int.natCast_add, Int.natCast_one] at c0 c1 c2
  have hq' : q.length + 1 ≤ n := by simpa using hq
  obtain ⟨j, hj⟩ : ∃ j, j = (f + 1) % n := ⟨_, rfl⟩
  have hj2 : ((f : Int) + 1) % n = j := by rw [hj, Int.natCast_emod]; rfl
  have HP := Lib.hid (fun k => ring_pop_plain (Value.string ⟨#[]⟩) h1 h2 hs hne hn hf hq hcs k)
  rw [hj2] at HP
  have H1 := Lib.hid (h1.drewN 0); clear h1 h2 hs hcs hv0 hq hj2
  have HJ := Lib.hid hj; clear hj
  refine callsR fun R hR => ?_
  go_enter Try.func23, Try.ntmps23
  go_wp2_with (go_at_call 55; refine Calls.mono (ring_peek_in_string p l n (Value.string v :: q) 0 (Value.string v) _ (by exact HH.out) rfl) ?_; rintro e w' ⟨rfl, nq, rfl⟩)
  go_region_held3 (fun w' => w'.cell? ⟨p, 0, none⟩ = some (.slice (some ⟨l, 0, none⟩) n n) ∧ w'.cell? ⟨p, 1, none⟩ = some (.int .i64 f)) (first | exact ⟨c0, c1⟩ | go_keep) (fail)
  go_wp2_with (go_at_call 54; refine Calls.mono (ring_at_string p l n f 1 j _ _ (by exact H1.out.far (p := ⟨l, f, none⟩) hne _) (by omega) (by omega) (by omega) (by omega) HJ.out) ?_; rintro e w' ⟨rfl, nq2, rfl⟩)
  exact hR.out _ _ ⟨rfl, HP.out _, Chg.ring3 w p l _ _ _ _ _ _ _ _⟩

theorem ring_pop_none_string (p l n : Nat) (w : World) (h : RingIs w 97 9 p l n []) :
    Calls Try.prog 23 #[.pointer (some ⟨p, 0, none⟩)] w fun e w' => e = .returned (.tuple #[Value.string ⟨#[]⟩, .bool false]) ∧ ∃ k, w' = w.drewN k := by
  have HH := Lib.hid h
  clear h
  refine callsR fun R hR => ?_
  go_enter Try.func23, Try.ntmps23
  go_wp2_with (go_at_call 55; refine Calls.mono (ring_peek_out_string p l n [] 0 _ (by exact HH.out) (by simp)) ?_; rintro e w' ⟨rfl, nq, rfl⟩)
  exact hR.out _ _ ⟨rfl, _, rfl⟩

theorem ring_all_string (p l n : Nat) (q : List ByteArray) (w : World) (h : RingIs w 97 9 p l n (q.map fun v => Value.string v)) :
    Calls Try.prog 24 #[.pointer (some ⟨p, 0, none⟩)] w fun e w' => ∃ u, e = .returned u ∧ w'.ownsRow w.heap.size 9 1 u q.length (q.map fun v => Value.string v) ∧ Below w.heap.size w w' := by
  have HH := Lib.hid h
  obtain ⟨f, cs, h1, h2, hs, hne, hn1, hn, hf, hq, hcs⟩ := h
  have hp := h1.lt
  have hl := h2.lt
  have c0 := h1.cell 0
  have c1 := h1.cell 1
  have c2 := h1.cell 2
  simp only [List.getElem?_toArray, List.getElem?_cons_zero, List.getElem?_cons_succ, List.length_map] at c0 c1 c2
  rw [List.length_map] at hq hcs
  have hat : ∀ k (hk : k < q.length), ∃ j, j = (f + k) % n ∧ j < n ∧ w.cell? ⟨l, j, none⟩ = some (Value.string q[k]) := fun k hk =>
    ⟨_, rfl, Nat.mod_lt _ (by omega), (h2.cell _).trans ((hcs k hk).trans (by simp [hk]))⟩
  have HAT := Lib.hid hat; clear hat
  have H1 := Lib.hid h1; clear h1 h2 hs hcs
  obtain ⟨i0, hi0, hz0, hz1, hz2⟩ := info_parts info_string
  refine callsR fun R hR => ?_
  go_enter Try.func24, Try.ntmps24
  go_wp2
  go_loopw [3, 9] (fun u i wr => ∃ k : Nat, k ≤ q.length ∧ i = .int .i64 k ∧ wr.ownsRow w.heap.size 9 1 u k ((q.take k).map fun v => Value.string v) ∧ Below w.heap.size w wr) (fun _ i _ => q.length - (intOf i).toNat)
  case atStart => exact ⟨0, Nat.zero_le _, rfl, World.ownsRow_nil _ _ _ _, Below.refl _ _⟩
  case round =>
    obtain ⟨k, hk, rfl, hown, hbel⟩ := hrel
    by_cases hlt : k < q.length
    · obtain ⟨j, hj, hjn, hc⟩ := HAT.out k hlt
      have HJ := Lib.hid hj; clear hj
      have r0 := (hbel.cell (p := ⟨p, 0, none⟩) hp).trans c0
      have rl := (hbel.cell (p := ⟨l, j, none⟩) hl).trans hc
      have HB := Lib.hid hbel
      have hsz := hbel.size
      have HO := Lib.hid hown; clear hown hbel
      have hx : (q.take (k + 1)).map (fun v => Value.string v) = (q.take k).map (fun v => Value.string v) ++ [Value.string q[k]] := by rw [List.take_succ_eq_append_getElem hlt, List.map_append]; rfl
      generalize q[k] = x at *
      have HX := Lib.hid hx; clear hx
      go_wp2
      go_region_held3 (fun w' => w'.cell? ⟨p, 0, none⟩ = some (.slice (some ⟨l, 0, none⟩) n n) ∧ w'.cell? ⟨l, j, none⟩ = some (Value.string x))
        (first | exact ⟨r0, rl⟩ | go_keep | (go_split_ands; exact ⟨grown_cell hgrow (by assumption) (ownBlock_ne_of_base HO.out hp), grown_cell hgrow (by assumption) (ownBlock_ne_of_base HO.out hl)⟩))
        (first
          | (go_at_call 54; refine Calls.mono (ring_at_string p l n f k j _ _ (by exact H1.out.same (HB.out.block p hp)) (by omega) (by omega) (by omega) (by omega) HJ.out) ?_; rintro e w' ⟨rfl, nq2, rfl⟩)
          | (refine step_append_at (o := ⟨some 23, _, _, _, _, _⟩) _ (by rfl) (.tmp 12) (.tmp 22) _ (by rfl) w.heap.size 9 i0 _ 1 16 Try.underlying32 hi0 hz0 hz1 hz2 rfl (by omega) u3 k ((q.take k).map fun v => Value.string v) (by rfl) (by exact own_drewN (HO.out.alloc _) _) ⟨wr.heap.size, 0, none⟩ 1 1 [(Value.string x)] (by rfl) (by rfl) (by intro j u hu; exact cell_one_new wr _ _ j u hu) (by simp [Value.oneCell']) (by unfold maxLen; omega) (by omega) (by simp; omega) ?_; intro v' w1 hown' hgrow hnil hat))
      have HO' := Lib.hid hown'
      have HG := Lib.hid hgrow
      clear hown' hgrow hnil hat r0 rl
      go_wp2
      go_roundw
      case rel => exact ⟨k + 1, by omega, by go_num, by rw [HX.out]; exact HO'.out, ((below_drewN HB.out _).alloc (by exact hsz) _).grown HG.out (by simp; omega) (fun b hb => (HO.out.lt b hb).1)⟩
      case measure => simp [intOf]; omega
    · have HO := Lib.hid hown
      have HB := Lib.hid hbel
      clear hown hbel
      obtain rfl : k = q.length := by omega
      go_wp2
      refine hR.out _ _ ⟨u3, rfl, ?_, HB.out⟩
      have := HO.out
      rwa [List.take_length] at this

theorem ring_new_string (room : Int) (n : Nat) (w : World) (hn : (n : Int) = max 1 (min room 4096)) :
    Calls Try.prog 21 #[.int .i64 room] w fun e w' => ∃ p l, e = .returned (.pointer (some ⟨p, 0, none⟩)) ∧ RingIs w' 97 9 p l n [] ∧ w.heap.size ≤ p ∧ w.heap.size ≤ l ∧ Below w.heap.size w w' := by
  have h1 : 1 ≤ n := by omega
  have h2 : n ≤ 4096 := by omega
  obtain ⟨i0, hi0, hz0, hz1, hz2⟩ := info_parts info_string
  have hmk : ∀ W : World, (Instr.makeSlice 32 (.int .i64 (max 1 (min room 4096))) (.int .i64 (max 1 (min room 4096)))).run Try.prog W = .ok (.slice (some ⟨W.heap.size, 0, none⟩) n n) (W.alloc (.cells (madeCells #[Value.string ⟨#[]⟩] n) 9)) := by
    intro W
    rw [← hn]
    exact run_make_row' (P := Try.prog) 32 9 (Value.string ⟨#[]⟩) 16 Try.underlying32 info_string rfl .i64 .i64 n (by omega) (by omega) W
  clear hn
  refine callsR fun R hR => ?_
  go_enter Try.func21, Try.ntmps21
  go_wp2_with fail
  refine hR.out _ _ ⟨w.heap.size + 1, w.heap.size, rfl, ⟨0, madeCells #[Value.string ⟨#[]⟩] n, ?_, (Blk.new w _ _).alloc _, size_madeCells _ _, by omega, h1, h2, by omega, Nat.zero_le _, fun i hi => absurd hi (by simp)⟩, by omega, Nat.le_refl _, ((Below.refl _ _).alloc (Nat.le_refl _) _).alloc (by simp) _⟩
  have h := Blk.new (w.alloc (.cells (madeCells #[Value.string ⟨#[]⟩] n) 9)) 97 #[Value.slice (some ⟨w.heap.size, 0, none⟩) n n, .int .i64 0, .int .i64 0]
  rw [World.size_alloc] at h
  exact h
end Go.Proofs.Ytjabofofofddbaa
