import Derived.Test.YtognmhgdegpdiaaGreatTopQs
import Derived.Test.YtognmhgdegpdiaaGreatSlotsD
import Derived.Test.YtognmhgdegpdiaaGreatSlotsR
import Derived.Laws.MakeOwn
section
/- Queues: maps keyed by Refs; the arena and the meter are made. -/
namespace Go.Proofs.YtognmhgdegpdiaaGreat
open Go.RowKit
open Go.Maps (Keyed)
set_option linter.unusedVariables false
set_option linter.unusedSimpArgs false
set_option maxRecDepth 100000
theorem refKeyed : Keyed Tryz.prog 34 := Keyed.of_law (deep_law_laid (m := 8) (by kernel_rfl) (by decide) (of_decide_eq_true (by kernel_rfl)) (by kernel_rfl) (by kernel_rfl))
theorem ref_keyOf (a b : Int) (ha : in64 a) (hb : in64 b) : keyOf Tryz.prog 34 (.agg #[.int .i64 a, .int .i64 b]) = some (.string (keyBytes [.int .i64 a, .int .i64 b])) := by
  have hkt : Tryz.prog.keyType 34 = true := by kernel_rfl
  have hu := ref_under
  have hc : Tryz.prog.cellsOf 34 = 2 := by kernel_rfl
  have hi := int_cells
  have ui := Tryz.underlying3
  have wa : (Lit.int .i64 a).wf = true := WalkArith.wf_i64 ha
  have wb : (Lit.int .i64 b).wf = true := WalkArith.wf_i64 hb
  obtain ⟨m, hm⟩ : ∃ m, Tryz.prog.types.size = m + 1 := ⟨Tryz.prog.types.size - 1, by have : 0 < Tryz.prog.types.size := of_decide_eq_true (by kernel_rfl); omega⟩
  have h := ref_fields
  unfold keyOf
  simp only [hu]
  rw [if_pos (by simp [hkt, Value.formed, hu, hc]), hm]
  unfold Program.keyLits
  simp only [hu, Value.cells]
  generalize Tryz.prog.fieldsOf 34 = fs at h ⊢
  obtain ⟨l⟩ := fs
  simp only at h
  rcases l with _ | ⟨f, _ | ⟨g, _ | ⟨x, l⟩⟩⟩
  · simp at h
  · simp at h
  · simp at h
    obtain ⟨⟨f1, f2, f3⟩, g1, g2, g3⟩ := h
    rw [if_pos (by simp [hc, f1, g1])]
    simp [f2, f3, g2, g3, hi, Program.keyLits, ui, wa, wb]
  · simp at h
def refFam : KeyFam (Int × Int) where
  k := 34
  kv := refV
  lit x := .string (keyBytes [.int .i64 x.1, .int .i64 x.2])
  ok x := in64 x.1 ∧ in64 x.2
  law := refKeyed
  key x h := ref_keyOf x.1 x.2 h.1 h.2
  inj x y h := by
    obtain ⟨a, b⟩ := x
    obtain ⟨c, d⟩ := y
    simpa [refV] using h
theorem entry_zero (w : World) : (zeroValue 36).run Tryz.prog w = .ok (refV (0, 0)) w := by kernel_rfl
theorem MapIs.look1 {κ : Type} {F : KeyFam κ} {w : World} {b n : Nat} {f : κ → Option (Int × Int)} {t E : TypeId} {x : κ} (h : MapIs F w b n f) (ht : Tryz.prog.underlying t = some (.map F.k E)) (hz : ∀ w, (zeroValue E).run Tryz.prog w = .ok (refV (0, 0)) w) (hx : F.ok x) :
    (Instr.lookup t (.map (some b)) (F.kv x) false).run Tryz.prog w = .ok (refV ((f x).getD (0, 0))) w := by
  obtain ⟨D, h1, h2⟩ := h
  obtain ⟨v, ps, hr, hv⟩ := h1.lookup F.law ht (hz w) (refR_mk (0, 0)) (F.key x hx)
  obtain ⟨g1, g2⟩ := h2 x hx
  rw [hr]
  cases hf : f x with
  | none =>
    rw [hf] at g1
    rw [Maps.atKey_of_not_has g1] at hv
    rw [refR_inv hv]
    rfl
  | some y =>
    rw [g2 y hf] at hv
    rw [refR_inv hv]
    rfl
def zcell : Array Value := #[.int .i64 0, .int .i64 0, .int .i64 0, .int .i64 0, .int .i64 0, .int .i64 0, .int .i64 0, .int .i64 0, .int .i64 0, .int .i64 0, .bool false]
def ar0 (N : Nat) : Ar := ⟨N, fun _ _ => 0, fun _ => false, 0, [], 0, 0, 0⟩
theorem ar0_ok {N : Nat} (h1 : 1 ≤ N) (h2 : N ≤ 65536) : (ar0 N).Ok := ⟨Nat.zero_le _, rfl, by simp [ar0], by simp [ar0], by simp [ar0], h1, h2, Nat.le_refl _, by simp [ar0]⟩
theorem tab_cells (w : World) (n : Nat) (hn : n ≤ 65536) : TabIs (w.alloc (.cells (madeCells zcell (n * 11)) 173)) 0 173 11 (.slice (some ⟨w.heap.size, 0, none⟩) n n) (ar0 n).rows := by
  have hs : (madeCells zcell (n * 11)).size = n * 11 := size_madeCells _ _
  refine ⟨(madeCells zcell (n * 11)).toList, ?_, ?_, ?_⟩
  · rw [Ar.rows_len]
    refine ⟨by simp [hs, ar0], .inr ⟨w.heap.size, n, _, rfl, Nat.zero_le _, Blk.new w _ _, Nat.le_refl _, by unfold maxLen; omega, by simp [hs], ?_⟩⟩
    rw [List.take_of_length_le (by simp [hs, ar0])]
  · intro c hc
    obtain ⟨b, _, rfl⟩ := List.mem_map.1 hc
    rfl
  · intro i c hi j u hj
    obtain ⟨hi1, hi2⟩ := List.getElem?_eq_some_iff.1 hi
    simp [ar0, Ar.rows] at hi1 hi2
    subst hi2
    have hj1 : j < 11 := by have := (List.getElem?_eq_some_iff.1 hj).1; simpa [Ar.row] using this
    have e : (ar0 n).row i = zcell.toList := rfl
    rw [show ({ n := n, f := fun _ _ => 0, tk := fun _ => false, never := 0, free := [], steps := 0, begun := 0, most := 0 } : Ar).row (i : Int) = zcell.toList from rfl] at hj
    have h1 : (i * 11 + j) % 11 = j := by omega
    simp [madeCells, show i * 11 + j < n * 11 by omega]
    show zcell[(i * 11 + j) % 11]! = u
    rw [h1, getElem!_def]
    have h2 : zcell[j]? = some u := by rw [← Array.getElem?_toList]; exact hj
    rw [h2]
theorem info_cell : (Tryz.prog.info? 173).map (fun i => (i.zero, i.size, i.bytes)) = some (some (.agg zcell), 11, 88) := by kernel_rfl
theorem meter_new (w : World) : Calls Tryz.prog 85 #[] w fun e w' => e = .returned (.pointer (some ⟨w.heap.size, 0, none⟩)) ∧ w' = w.alloc (.cells #[.int .i64 0, .int .i64 0, .int .i64 0] 99) := by
  refine callsR fun R hR => ?_
  go_enter Tryz.func85, Tryz.ntmps85
  go_wp2_with fail
  exact hR.out _ _ ⟨rfl, rfl⟩
theorem led_arena1 {B : Nat} {w0 w : World} {es : List Ent} {N : Nat} (hN : N ≤ 65536) (h : Led B w0 w es) :
    Led B w0 (((w.alloc (.cells (madeCells zcell (N * 11)) 173)).alloc (.cells #[.int .i64 0, .int .i64 0, .int .i64 0] 99)).alloc (.cells #[.slice (some ⟨w.heap.size, 0, none⟩) N N, .int .i64 0, .slice none 0 0, .pointer (some ⟨w.heap.size + 1, 0, none⟩)] 97)) (ArM.es ⟨w.heap.size + 1 + 1, w.heap.size, N, w.heap.size + 1⟩ (.slice none 0 0) (ar0 N) ++ es) := by
  have s1 := h.add (tabE 173 11 (.slice (some ⟨w.heap.size, 0, none⟩) N N) (ar0 N).rows) (bel_alloc (bel_refl w) _) (tab_cells w N hN) (by simp [tabE, Value.ownBlock])
  have s2 := led_new (A := []) (T := 99) (cs := #[.int .i64 0, .int .i64 0, .int .i64 0]) s1
  have s3 := led_new (A := []) (T := 97) (cs := #[.slice (some ⟨w.heap.size, 0, none⟩) N N, .int .i64 0, .slice none 0 0, .pointer (some ⟨w.heap.size + 1, 0, none⟩)]) s2
  have s4 := iT_new (A := [blkE _ 97 _]) s3
  simp only [World.size_alloc] at s4
  exact s4.perm (List.Perm.cons _ ((List.Perm.cons _ (List.Perm.swap _ _ _)).trans (List.Perm.swap _ _ _)))
theorem led_arena2 {B : Nat} {w0 w : World} {es : List Ent} {N : Nat} (hN : N ≤ 65536) (h : Led B w0 w es) :
    Led B w0 (((w.alloc (.cells #[.int .i64 0, .int .i64 0, .int .i64 0] 99)).alloc (.cells (madeCells zcell (N * 11)) 173)).alloc (.cells #[.slice (some ⟨w.heap.size + 1, 0, none⟩) N N, .int .i64 0, .slice none 0 0, .pointer (some ⟨w.heap.size, 0, none⟩)] 97)) (ArM.es ⟨w.heap.size + 1 + 1, w.heap.size + 1, N, w.heap.size⟩ (.slice none 0 0) (ar0 N) ++ es) := by
  have s1 := led_new (A := []) (T := 99) (cs := #[.int .i64 0, .int .i64 0, .int .i64 0]) h
  have s2 := s1.add (tabE 173 11 (.slice (some ⟨(w.alloc (.cells #[.int .i64 0, .int .i64 0, .int .i64 0] 99)).heap.size, 0, none⟩) N N) (ar0 N).rows) (bel_alloc (bel_refl _) _) (tab_cells _ N hN) (by simp [tabE, Value.ownBlock])
  have s3 := led_new (A := []) (T := 97) (cs := #[.slice (some ⟨w.heap.size + 1, 0, none⟩) N N, .int .i64 0, .slice none 0 0, .pointer (some ⟨w.heap.size, 0, none⟩)]) s2
  have s4 := iT_new (A := [blkE _ 97 _, tabE 173 11 _ _]) s3
  simp only [World.size_alloc] at s4
  exact s4
set_option maxHeartbeats 1000000 in
theorem arena_new (cells : Int) (N : Nat) (B : Nat) (w0 w : World) (es : List Ent) (hl : Led B w0 w es) (hn : (N : Int) = max 0 (min cells 65536)) (h1 : 1 ≤ N) :
    Calls Tryz.prog 54 #[.int .i64 cells] w fun e w' => ∃ X : ArM, e = .returned (.pointer (some ⟨X.p, 0, none⟩)) ∧ Led B w0 w' (X.es (.slice none 0 0) (ar0 N) ++ es) := by
  have HL := Lib.hid hl; clear hl
  have hN : N ≤ 65536 := by omega
  have e2 : max 0 (min cells 65536) = (N : Int) := by omega
  have hmm : ∀ W : World, (Instr.makeSlice 95 (.int .i64 (N : Int)) (.int .i64 (N : Int))).run Tryz.prog W = .ok (.slice (some ⟨W.heap.size, 0, none⟩) N N) (W.alloc (.cells (madeCells zcell (N * 11)) 173)) := by
    intro W
    have hi := info_cell
    cases hx : Tryz.prog.info? 173 with
    | none => rw [hx] at hi; cases hi
    | some i =>
      rw [hx] at hi
      simp only [Option.map_some, Option.some.injEq, Prod.mk.injEq] at hi
      obtain ⟨i1, i2, i3⟩ := hi
      have := run_make (P := Tryz.prog) (w := W) 95 173 i (.agg zcell) Tryz.underlying95 hx i1 .i64 .i64 (N : Int) (N : Int) (by omega) (Int.le_refl _) (by rw [i3]; omega) (by omega)
      rw [i2] at this
      exact this
  clear hn
  refine callsR fun R hR => ?_
  go_enter Tryz.func54, Tryz.ntmps54
  go_wp2_with fail
  go_region_held3 (fun wx => True) (trivial) (first | (go_at_call 85; refine Calls.mono (meter_new _) ?_; rintro e w2 ⟨rfl, rfl⟩))
  all_goals go_wp2_with fail
  all_goals first | exact hR.out _ _ ⟨⟨_, _, _, _⟩, rfl, (led_arena1 hN HL.out).drew⟩ | exact hR.out _ _ ⟨⟨_, _, _, _⟩, rfl, (led_arena2 hN HL.out).drew⟩
end Go.Proofs.YtognmhgdegpdiaaGreat
end
section
/- Queues: the things in memory; New, what is told of them. -/
namespace Go.Proofs.YtognmhgdegpdiaaGreat
open Go.RowKit
open Go.Maps (Keyed)
set_option linter.unusedVariables false
set_option linter.unusedSimpArgs false
set_option maxRecDepth 100000
theorem ent_mid (A S C : List Ent) : (A ++ (S ++ C)).Perm (S ++ (A ++ C)) := by
  rw [← List.append_assoc, ← List.append_assoc]
  exact List.perm_append_comm.append_right _
theorem ent_new (a b : Ent) (S A C : List Ent) : (a :: b :: (S ++ (A ++ C))).Perm (S ++ (A ++ ([a, b] ++ C))) := (ent_mid [a, b] S (A ++ C)).trans (List.Perm.append_left S (ent_mid [a, b] A C))
structure QM where
  X : ArM
  q : Nat
  t : Nat
  ph : Nat
  pi : Nat
  b : Nat
  me : Nat
def QM.es (m : QM) (vf lh fh li fi : Value) (n ne : Nat) (s : Ar) (sh si : PSt V3) (f : Int → Option (Int × Int)) (F : (Int × Int) → Option (Int × Int)) (items serial : Int) : List Ent :=
  m.X.es vf s ++ (slotEs m.t m.ph m.pi m.b n lh fh li fi sh si f ++ [blkE m.q 76 #[.int .i64 items, .pointer (some ⟨m.X.p, 0, none⟩), .pointer (some ⟨m.t, 0, none⟩), .map (some m.me), .int .i64 serial], mapE refFam m.me ne F])
section
variable {B : Nat} {w0 w : World} {C : List Ent} {m : QM} {vf lh fh li fi : Value} {n ne : Nat} {s : Ar} {sh si : PSt V3} {f : Int → Option (Int × Int)} {F : (Int × Int) → Option (Int × Int)} {items serial : Int}
theorem QM.toA (h : Led B w0 w (m.es vf lh fh li fi n ne s sh si f F items serial ++ C)) : Led B w0 w (m.X.es vf s ++ (slotEs m.t m.ph m.pi m.b n lh fh li fi sh si f ++ [blkE m.q 76 #[.int .i64 items, .pointer (some ⟨m.X.p, 0, none⟩), .pointer (some ⟨m.t, 0, none⟩), .map (some m.me), .int .i64 serial], mapE refFam m.me ne F] ++ C)) := by
  unfold QM.es at h
  rw [List.append_assoc] at h
  exact h
theorem QM.ofA (h : Led B w0 w (m.X.es vf s ++ (slotEs m.t m.ph m.pi m.b n lh fh li fi sh si f ++ [blkE m.q 76 #[.int .i64 items, .pointer (some ⟨m.X.p, 0, none⟩), .pointer (some ⟨m.t, 0, none⟩), .map (some m.me), .int .i64 serial], mapE refFam m.me ne F] ++ C))) : Led B w0 w (m.es vf lh fh li fi n ne s sh si f F items serial ++ C) := by
  unfold QM.es
  rw [List.append_assoc]
  exact h
theorem QM.toS (h : Led B w0 w (m.es vf lh fh li fi n ne s sh si f F items serial ++ C)) : Led B w0 w (slotEs m.t m.ph m.pi m.b n lh fh li fi sh si f ++ (m.X.es vf s ++ ([blkE m.q 76 #[.int .i64 items, .pointer (some ⟨m.X.p, 0, none⟩), .pointer (some ⟨m.t, 0, none⟩), .map (some m.me), .int .i64 serial], mapE refFam m.me ne F] ++ C))) := by
  have h1 := QM.toA h
  rw [List.append_assoc] at h1
  exact h1.perm (ent_mid _ _ _)
theorem QM.ofS (h : Led B w0 w (slotEs m.t m.ph m.pi m.b n lh fh li fi sh si f ++ (m.X.es vf s ++ ([blkE m.q 76 #[.int .i64 items, .pointer (some ⟨m.X.p, 0, none⟩), .pointer (some ⟨m.t, 0, none⟩), .map (some m.me), .int .i64 serial], mapE refFam m.me ne F] ++ C)))) : Led B w0 w (m.es vf lh fh li fi n ne s sh si f F items serial ++ C) := by
  refine QM.ofA ?_
  rw [List.append_assoc]
  exact h.perm (ent_mid _ _ _)
theorem QM.blk (h : Led B w0 w (m.es vf lh fh li fi n ne s sh si f F items serial ++ C)) : Blk w m.q 76 #[.int .i64 items, .pointer (some ⟨m.X.p, 0, none⟩), .pointer (some ⟨m.t, 0, none⟩), .map (some m.me), .int .i64 serial] := h.at_ 8 rfl
theorem QM.map (h : Led B w0 w (m.es vf lh fh li fi n ne s sh si f F items serial ++ C)) : MapIs refFam w m.me ne F := h.at_ 9 rfl
theorem QM.q0 (h : Led B w0 w (m.es vf lh fh li fi n ne s sh si f F items serial ++ C)) : w.cell? ⟨m.q, 0, none⟩ = some (.int .i64 items) := by have := (QM.blk h).cell 0; simpa using this
theorem QM.q1 (h : Led B w0 w (m.es vf lh fh li fi n ne s sh si f F items serial ++ C)) : w.cell? ⟨m.q, 1, none⟩ = some (.pointer (some ⟨m.X.p, 0, none⟩)) := by have := (QM.blk h).cell 1; simpa using this
theorem QM.q2 (h : Led B w0 w (m.es vf lh fh li fi n ne s sh si f F items serial ++ C)) : w.cell? ⟨m.q, 2, none⟩ = some (.pointer (some ⟨m.t, 0, none⟩)) := by have := (QM.blk h).cell 2; simpa using this
theorem QM.q3 (h : Led B w0 w (m.es vf lh fh li fi n ne s sh si f F items serial ++ C)) : w.cell? ⟨m.q, 3, none⟩ = some (.map (some m.me)) := by have := (QM.blk h).cell 3; simpa using this
theorem QM.q4 (h : Led B w0 w (m.es vf lh fh li fi n ne s sh si f F items serial ++ C)) : w.cell? ⟨m.q, 4, none⟩ = some (.int .i64 serial) := by have := (QM.blk h).cell 4; simpa using this
theorem QM.f4 (h : Led B w0 w (m.es vf lh fh li fi n ne s sh si f F items serial ++ C)) : w.frozen? ⟨m.q, 4, none⟩ = false := (QM.blk h).frozen 4
theorem QM.lt (h : Led B w0 w (m.es vf lh fh li fi n ne s sh si f F items serial ++ C)) : m.q < w.heap.size := (QM.blk h).lt
theorem QM.setSerial (x : Int) (h : Led B w0 w (m.es vf lh fh li fi n ne s sh si f F items serial ++ C)) : Led B w0 (w.setCell ⟨m.q, 4, none⟩ (.int .i64 x)) (m.es vf lh fh li fi n ne s sh si f F items x ++ C) := by
  have hb := QM.blk h
  exact h.step 8 rfl (blkE m.q 76 #[.int .i64 items, .pointer (some ⟨m.X.p, 0, none⟩), .pointer (some ⟨m.t, 0, none⟩), .map (some m.me), .int .i64 x]) ((Chg.refl _ _).setCell (p := ⟨m.q, 4, none⟩) (.inl (by simp [blkE])) (.int .i64 x)) (by have := hb.set_ 4 (.int .i64 x); simpa [blkE] using this) (Fresh.refl _ _)
end
theorem led_store8 {B : Nat} {w0 w : World} {A C : List Ent} {g : Nat} {T : TypeId} {x0 x1 x2 x3 x4 x5 x6 x7 y0 y1 y2 y3 y4 y5 y6 y7 : Value} (h : Led B w0 w (A ++ blkE g T #[x0, x1, x2, x3, x4, x5, x6, x7] :: C)) : Led B w0 ((((((((w.setCell ⟨g, 0, none⟩ y0).setCell ⟨g, 1, none⟩ y1).setCell ⟨g, 2, none⟩ y2).setCell ⟨g, 3, none⟩ y3).setCell ⟨g, 4, none⟩ y4).setCell ⟨g, 5, none⟩ y5).setCell ⟨g, 6, none⟩ y6).setCell ⟨g, 7, none⟩ y7) (A ++ blkE g T #[y0, y1, y2, y3, y4, y5, y6, y7] :: C) := by
  have hb : Blk w g T #[x0, x1, x2, x3, x4, x5, x6, x7] := h.mem
  have h2 := (((((((hb.set_ 0 y0).set_ 1 y1).set_ 2 y2).set_ 3 y3).set_ 4 y4).set_ 5 y5).set_ 6 y6).set_ 7 y7
  exact h.mid _ (((((((((Chg.refl _ _).setCell (p := ⟨g, 0, none⟩) (.inl (by simp [blkE])) y0).setCell (p := ⟨g, 1, none⟩) (.inl (by simp [blkE])) y1).setCell (p := ⟨g, 2, none⟩) (.inl (by simp [blkE])) y2).setCell (p := ⟨g, 3, none⟩) (.inl (by simp [blkE])) y3).setCell (p := ⟨g, 4, none⟩) (.inl (by simp [blkE])) y4).setCell (p := ⟨g, 5, none⟩) (.inl (by simp [blkE])) y5).setCell (p := ⟨g, 6, none⟩) (.inl (by simp [blkE])) y6).setCell (p := ⟨g, 7, none⟩) (.inl (by simp [blkE])) y7) (by simpa [blkE] using h2) (Fresh.refl _ _)
theorem led_new2 {B : Nat} {w0 w : World} {A C : List Ent} {T U : TypeId} {cs ds : Array Value} (h : Led B w0 w (A ++ C)) : Led B w0 ((w.alloc (.cells cs T)).alloc (.cells ds U)) (A ++ blkE w.heap.size T cs :: blkE (w.heap.size + 1) U ds :: C) := by
  have h1 := led_new (T := T) (cs := cs) h
  have h2 := led_new (A := A ++ [blkE w.heap.size T cs]) (C := C) (T := U) (cs := ds) (by rw [List.append_assoc]; exact h1)
  rw [World.size_alloc, List.append_assoc] at h2
  exact h2
section
variable {B : Nat} {w0 w : World} {C : List Ent} {m : QM} {vf lh fh li fi : Value} {n ne : Nat} {s : Ar} {sh si : PSt V3} {f : Int → Option (Int × Int)} {F : (Int × Int) → Option (Int × Int)} {items serial : Int}
theorem pq_live (h : Led B w0 w (m.es vf lh fh li fi n ne s sh si f F items serial ++ C)) :
    Calls Tryz.prog 12 #[.pointer (some ⟨m.q, 0, none⟩)] w fun e w' => e = .returned (.int .i64 (si.l.length - si.free.length)) ∧ Led B w0 w' (m.es vf lh fh li fi n ne s sh si f F items serial ++ C) := by
  have c1 := QM.q1 h
  have c2 := QM.q2 h
  have H := Lib.hid h
  clear h
  refine callsR fun R hR => ?_
  go_enter Tryz.func12, Tryz.ntmps12
  go_wp2_with fail
  refine Calls.mono (slots_items _ _ _ _ _ _ _ _ _ _ _ _ _ _ _ _ (QM.toS H.out)) ?_
  rintro e w' ⟨rfl, k, rfl⟩
  go_wp2_with fail
  exact hR.out _ _ ⟨rfl, H.out.drewN _⟩
theorem pq_new (k : Int) (h1 : 1 ≤ k) (h2 : k ≤ 16384) (h : Led B w0 w C) :
    Calls Tryz.prog 27 #[.int .i64 k] w fun e w' => ∃ m : QM, e = .returned (.tuple #[.pointer (some ⟨m.q, 0, none⟩), .int .i64 0]) ∧ Led B w0 w' (m.es (.slice none 0 0) (.slice none 0 0) (.slice none 0 0) (.slice none 0 0) (.slice none 0 0) 0 0 (ar0 (2 * k).toNat) ⟨64, [], []⟩ ⟨k.toNat, [], []⟩ (fun _ => none) (fun _ => none) k 0 ++ C) := by
  have H := Lib.hid h
  clear h
  have g1 : decide (k < 1) = false := by simp; omega
  have g2 : decide (16384 < k) = false := by simp; omega
  have hw : IntKind.i64.wrap (2 * k) = 2 * k := by rw [IntKind.wrap_i64]; omega
  have hmm := @run_makeMap Tryz.prog
  refine callsR fun R hR => ?_
  go_enter Tryz.func27, Tryz.ntmps27
  go_wp2_with fail
  refine Calls.mono (arena_new (2 * k) (2 * k).toNat B w0 _ C H.out (by omega) (by omega)) ?_
  rintro e w1 ⟨X, rfl, h'⟩
  replace H := Lib.hid h'
  clear h'
  go_wp2_with fail
  refine Calls.mono (slots_new k k.toNat B w0 _ _ H.out (by omega)) ?_
  rintro e w2 ⟨t, ph, pi, b, rfl, h'⟩
  replace H := Lib.hid h'
  clear h'
  go_wp2_with fail
  have S3 := H.out.add (mapE refFam w2.heap.size 0 (fun _ => none)) (bel_alloc (bel_refl w2) (.map #[] 0)) (MapIs.made refFam w2) (by simp [mapE])
  have S4 := S3.add (blkE (w2.alloc (.map #[] 0)).heap.size 76 #[.int .i64 k, .pointer (some ⟨X.p, 0, none⟩), .pointer (some ⟨t, 0, none⟩), .map (some w2.heap.size), .int .i64 0]) (bel_alloc (bel_refl _) _) (Blk.new _ _ _) (by simp [blkE])
  rw [World.size_alloc] at S4
  refine hR.out _ _ ⟨⟨X, w2.heap.size + 1, t, ph, pi, b, w2.heap.size⟩, rfl, QM.ofS (S4.perm ?_)⟩
  exact ent_new _ _ _ _ _
end
end Go.Proofs.YtognmhgdegpdiaaGreat
end
section
/- Queues: an item is not there any more. -/
namespace Go.Proofs.YtognmhgdegpdiaaGreat
open Go.RowKit
open Go.Maps (Keyed)
set_option linter.unusedVariables false
set_option linter.unusedSimpArgs false
set_option maxRecDepth 100000
section
variable {B : Nat} {w0 w : World} {C : List Ent} {m : QM} {vf lh fh li fi : Value} {n ne : Nat} {s : Ar} {sh si : PSt V3} {f : Int → Option (Int × Int)} {F : (Int × Int) → Option (Int × Int)} {items serial : Int}
set_option maxHeartbeats 4000000 in
theorem pq_gone (i : Nat) (x : Pl V3) (hx : si.l[i]? = some x) (hxt : x.taken = true) (hg : 1 ≤ x.gen) (hc : CellsOk si) (hik : in64 (i : Int) ∧ in64 x.gen) (hok : s.Ok) (h : Led B w0 w (m.es vf lh fh li fi n ne s sh si f F items serial ++ C)) :
    Calls Tryz.prog 65 #[.pointer (some ⟨m.q, 0, none⟩), .agg #[.int .i64 (i : Int), .int .i64 x.gen]] w fun e w' => ∃ vf' fi', e = .returned (.agg #[.int .i64 ((F ((i : Int), x.gen)).getD (0, 0)).1, .int .i64 ((F ((i : Int), x.gen)).getD (0, 0)).2]) ∧ Led B w0 w' (m.es vf' lh fh li fi' n ne (((s.give x.v.a).2.tick 1)) sh ((si.giveAt i x ⟨0, 0, 0⟩)) ((upd f x.v.a none)) ((upd F ((i : Int), x.gen) none)) items serial ++ C) := by
  have H := Lib.hid h
  have HC := Lib.hid hc
  have HX := Lib.hid hx
  have HK := Lib.hid hik
  have HOK := Lib.hid hok
  clear h hc hx hik hok
  refine callsR fun R hR => ?_
  go_enter Tryz.func65, Tryz.ntmps65
  generalize hy : (F ((i : Int), x.gen)).getD (0, 0) = y
  have HY := Lib.hid hy
  clear hy
  have H2 : Hid (Led B w0 ((w.alloc (.cells #[.int .i64 (i : Int), .int .i64 x.gen] 34)).alloc (.cells #[.int .i64 0, .int .i64 0] 36)) (m.es vf lh fh li fi n ne s sh si f F items serial ++ blkE (w.heap.size) 34 #[.int .i64 (i : Int), .int .i64 x.gen] :: blkE (w.heap.size + 1) 36 #[.int .i64 0, .int .i64 0] :: C)) := Lib.hid (led_new2 H.out)
  clear H
  go_upto_region 1 with fail
  obtain ⟨w1, hw1⟩ : ∃ w1, w1 = (w.alloc (.cells #[.int .i64 (i : Int), .int .i64 x.gen] 34)).alloc (.cells #[.int .i64 0, .int .i64 0] 36) := ⟨_, rfl⟩
  rw [← hw1] at H2 ⊢
  clear hw1
  go_cut [5, 6] (fun sx sy wx => sx = .int .i64 x.v.a ∧ sy = .int .i64 0 ∧ ∃ fi', Hid (Led B w0 wx (m.es vf lh fh li fi' n ne s sh ((si.giveAt i x ⟨0, 0, 0⟩)) ((upd f x.v.a none)) F items serial ++ blkE (w.heap.size) 34 #[.int .i64 (i : Int), .int .i64 x.gen] :: blkE (w.heap.size + 1) 36 #[.int .i64 0, .int .i64 0] :: C)))
  case first =>
    have HS : Hid (∀ W, Chg [] w1 W → W.cell? ⟨m.q, 2, none⟩ = some (.pointer (some ⟨m.t, 0, none⟩)) ∧ W.cell? ⟨w.heap.size, 0, none⟩ = some (.int .i64 (i : Int)) ∧ W.cell? ⟨w.heap.size, 1, none⟩ = some (.int .i64 x.gen)) := Lib.hid (fun W hW => have hl := H2.out.later (hW.below (by simp) (Nat.le_refl _)); ⟨QM.q2 hl, (show Blk W w.heap.size 34 #[.int .i64 (i : Int), .int .i64 x.gen] from hl.at_ 10 rfl).cell 0, (show Blk W w.heap.size 34 #[.int .i64 (i : Int), .int .i64 x.gen] from hl.at_ 10 rfl).cell 1⟩)
    go_region_held3 (fun wx => wx.cell? ⟨m.q, 2, none⟩ = some (.pointer (some ⟨m.t, 0, none⟩)) ∧ wx.cell? ⟨w.heap.size, 0, none⟩ = some (.int .i64 (i : Int)) ∧ wx.cell? ⟨w.heap.size, 1, none⟩ = some (.int .i64 x.gen)) (first | (refine HS.out _ ?_; (repeat' first | with_reducible exact Chg.refl _ _ | with_reducible refine Chg.drew ?_ | with_reducible refine Chg.drewN ?_ _ | with_reducible refine Chg.alloc ?_ _ | with_reducible refine Chg.setCell ?_ ?_ _ | (left; simp; done) | (right; exact Nat.le_refl _) | (right; dsimp only; omega)); done) | (refine HS2.out _ ?_; (repeat' first | with_reducible exact Chg.refl _ _ | with_reducible refine Chg.drew ?_ | with_reducible refine Chg.drewN ?_ _ | with_reducible refine Chg.alloc ?_ _ | with_reducible refine Chg.setCell ?_ ?_ _ | (left; simp; done) | (right; exact Nat.le_refl _) | (right; dsimp only; omega)); done)) (first | (go_at_call 108; refine Calls.mono (slots_take _ _ _ _ _ _ _ _ _ _ _ _ _ _ _ _ _ _ HC.out (QM.toS H2.out.drew)) ?_; rintro e w2 ⟨v, e0, fi', si', rfl, q1, q2⟩; obtain ⟨rfl, rfl, rfl⟩ := q1.ok HX.out hxt hg; have S4 : Hid (Led B w0 w2 (m.es vf lh fh li fi' n ne s sh ((si.giveAt i x ⟨0, 0, 0⟩)) ((upd f x.v.a none)) F items serial ++ blkE (w.heap.size) 34 #[.int .i64 (i : Int), .int .i64 x.gen] :: blkE (w.heap.size + 1) 36 #[.int .i64 0, .int .i64 0] :: C)) := Lib.hid (QM.ofS q2); have HS2 : Hid (∀ W, Chg [] w2 W → W.cell? ⟨m.q, 2, none⟩ = some (.pointer (some ⟨m.t, 0, none⟩)) ∧ W.cell? ⟨w.heap.size, 0, none⟩ = some (.int .i64 (i : Int)) ∧ W.cell? ⟨w.heap.size, 1, none⟩ = some (.int .i64 x.gen)) := Lib.hid (fun W hW => have hl := S4.out.later (hW.below (by simp) (Nat.le_refl _)); ⟨QM.q2 hl, (show Blk W w.heap.size 34 #[.int .i64 (i : Int), .int .i64 x.gen] from hl.at_ 10 rfl).cell 0, (show Blk W w.heap.size 34 #[.int .i64 (i : Int), .int .i64 x.gen] from hl.at_ 10 rfl).cell 1⟩); clear q1 q2))
    go_wp2_with fail
    go_meet
    case rel => exact ⟨rfl, rfl, fi', S4⟩
  case rest =>
    clear H2
    obtain ⟨rfl, rfl, fi', S⟩ := hcut
    have c1 := QM.q1 S.out
    go_wp2_with fail
    refine Calls.mono (t_give m.X s 0 x.v.a HOK.out (QM.toA S.out)) ?_
    rintro e w2 ⟨vf2, rfl, h'⟩
    have H : Hid (Led B w0 w2 (m.es vf2 lh fh li fi' n ne (((s.give x.v.a).2.tick (0 + 1))) sh ((si.giveAt i x ⟨0, 0, 0⟩)) ((upd f x.v.a none)) F items serial ++ blkE (w.heap.size) 34 #[.int .i64 (i : Int), .int .i64 x.gen] :: blkE (w.heap.size + 1) 36 #[.int .i64 0, .int .i64 0] :: C)) := Lib.hid (QM.ofA h')
    clear h' c1 S
    go_upto_region 3 with fail
    go_cut [7] (fun sx wx => ∃ yb, sx = .pointer (some ⟨yb, 0, none⟩) ∧ Hid (Led B w0 wx (m.es vf2 lh fh li fi' n ne (((s.give x.v.a).2.tick (0 + 1))) sh ((si.giveAt i x ⟨0, 0, 0⟩)) ((upd f x.v.a none)) F items serial ++ blkE (yb) 36 #[.int .i64 y.1, .int .i64 y.2] :: blkE (w.heap.size) 34 #[.int .i64 (i : Int), .int .i64 x.gen] :: blkE (w.heap.size + 1) 36 #[.int .i64 0, .int .i64 0] :: C)))
    case first =>
      have HS : Hid (∀ W, Chg [] w2 W → W.cell? ⟨m.q, 3, none⟩ = some (.map (some m.me)) ∧ W.cell? ⟨w.heap.size, 0, none⟩ = some (.int .i64 (i : Int)) ∧ W.cell? ⟨w.heap.size, 1, none⟩ = some (.int .i64 x.gen) ∧ (Instr.lookup 74 (.map (some m.me)) (.agg #[.int .i64 (i : Int), .int .i64 x.gen]) false).run Tryz.prog W = .ok (.agg #[.int .i64 y.1, .int .i64 y.2]) W) := Lib.hid (fun W hW => have hl := H.out.later (hW.below (by simp) (Nat.le_refl _)); ⟨QM.q3 hl, (show Blk W w.heap.size 34 #[.int .i64 (i : Int), .int .i64 x.gen] from hl.at_ 10 rfl).cell 0, (show Blk W w.heap.size 34 #[.int .i64 (i : Int), .int .i64 x.gen] from hl.at_ 10 rfl).cell 1, by have := MapIs.look1 (t := 74) (x := ((i : Int), x.gen)) (QM.map hl) Tryz.underlying74 entry_zero HK.out; rw [HY.out] at this; exact this⟩)
      go_region_held3 (fun wx => wx.cell? ⟨m.q, 3, none⟩ = some (.map (some m.me)) ∧ wx.cell? ⟨w.heap.size, 0, none⟩ = some (.int .i64 (i : Int)) ∧ wx.cell? ⟨w.heap.size, 1, none⟩ = some (.int .i64 x.gen) ∧ (Instr.lookup 74 (.map (some m.me)) (.agg #[.int .i64 (i : Int), .int .i64 x.gen]) false).run Tryz.prog wx = .ok (.agg #[.int .i64 y.1, .int .i64 y.2]) wx) ((refine HS.out _ ?_; (repeat' first | with_reducible exact Chg.refl _ _ | with_reducible refine Chg.drew ?_ | with_reducible refine Chg.drewN ?_ _ | with_reducible refine Chg.alloc ?_ _ | with_reducible refine Chg.setCell ?_ ?_ _ | (left; simp; done) | (right; exact Nat.le_refl _) | (right; dsimp only; omega)); done)) (fail)
      all_goals go_wp2_with fail
      all_goals go_meet
      all_goals (try exact ⟨_, rfl, Lib.hid (led_new H.out).drew⟩)
    case rest =>
      clear H
      obtain ⟨yb, rfl, S⟩ := hcut
      obtain ⟨w5, hrun, hm5, hc5⟩ := MapIs.drop (ty := 0) (x := ((i : Int), x.gen)) (QM.map S.out.drew) Tryz.underlying74 HK.out
      have hr5 : (Builtin.delete_ #[74, 34] 0 #[.map (some m.me), .agg #[.int .i64 (i : Int), .int .i64 x.gen]]).run Tryz.prog wc.drew = .ok (.tuple #[]) w5 := hrun
      have S5 : Hid (Led B w0 w5 (m.es vf2 lh fh li fi' n ne (((s.give x.v.a).2.tick (0 + 1))) sh ((si.giveAt i x ⟨0, 0, 0⟩)) ((upd f x.v.a none)) ((upd F ((i : Int), x.gen) none)) items serial ++ blkE (yb) 36 #[.int .i64 y.1, .int .i64 y.2] :: blkE (w.heap.size) 34 #[.int .i64 (i : Int), .int .i64 x.gen] :: blkE (w.heap.size + 1) 36 #[.int .i64 0, .int .i64 0] :: C)) := Lib.hid (S.out.drew.step 9 rfl (mapE refFam m.me ne (upd F ((i : Int), x.gen) none)) hc5 hm5 (Fresh.refl _ _))
      clear hrun hm5 hc5
      have HS : Hid (∀ W, Chg [] wc W → W.cell? ⟨m.q, 3, none⟩ = some (.map (some m.me)) ∧ W.cell? ⟨w.heap.size, 0, none⟩ = some (.int .i64 (i : Int)) ∧ W.cell? ⟨w.heap.size, 1, none⟩ = some (.int .i64 x.gen)) := Lib.hid (fun W hW => have hl := S.out.later (hW.below (by simp) (Nat.le_refl _)); ⟨QM.q3 hl, (show Blk W w.heap.size 34 #[.int .i64 (i : Int), .int .i64 x.gen] from hl.at_ 11 rfl).cell 0, (show Blk W w.heap.size 34 #[.int .i64 (i : Int), .int .i64 x.gen] from hl.at_ 11 rfl).cell 1⟩)
      have HS2 : Hid (∀ W, Chg [] w5 W → W.cell? ⟨m.q, 3, none⟩ = some (.map (some m.me)) ∧ W.cell? ⟨w.heap.size, 0, none⟩ = some (.int .i64 (i : Int)) ∧ W.cell? ⟨w.heap.size, 1, none⟩ = some (.int .i64 x.gen)) := Lib.hid (fun W hW => have hl := S5.out.later (hW.below (by simp) (Nat.le_refl _)); ⟨QM.q3 hl, (show Blk W w.heap.size 34 #[.int .i64 (i : Int), .int .i64 x.gen] from hl.at_ 11 rfl).cell 0, (show Blk W w.heap.size 34 #[.int .i64 (i : Int), .int .i64 x.gen] from hl.at_ 11 rfl).cell 1⟩)
      clear S
      go_wp2_with fail
      go_region_held3 (fun wx => wx.cell? ⟨m.q, 3, none⟩ = some (.map (some m.me)) ∧ wx.cell? ⟨w.heap.size, 0, none⟩ = some (.int .i64 (i : Int)) ∧ wx.cell? ⟨w.heap.size, 1, none⟩ = some (.int .i64 x.gen)) (first | (refine HS.out _ ?_; (repeat' first | with_reducible exact Chg.refl _ _ | with_reducible refine Chg.drew ?_ | with_reducible refine Chg.drewN ?_ _ | with_reducible refine Chg.alloc ?_ _ | with_reducible refine Chg.setCell ?_ ?_ _ | (left; simp; done) | (right; exact Nat.le_refl _) | (right; dsimp only; omega)); done) | (refine HS2.out _ ?_; (repeat' first | with_reducible exact Chg.refl _ _ | with_reducible refine Chg.drew ?_ | with_reducible refine Chg.drewN ?_ _ | with_reducible refine Chg.alloc ?_ _ | with_reducible refine Chg.setCell ?_ ?_ _ | (left; simp; done) | (right; exact Nat.le_refl _) | (right; dsimp only; omega)); done)) (fail)
      have yb : Blk w5 yb 36 #[.int .i64 y.1, .int .i64 y.2] := S5.out.at_ 10 rfl
      have lyb := yb.lt
      obtain ⟨y0, y1, fy0, fy1⟩ := yb.c2
      clear yb
      have eb : Blk w5 (w.heap.size + 1) 36 #[.int .i64 0, .int .i64 0] := S5.out.at_ 12 rfl
      have leb := eb.lt
      obtain ⟨e0, e1, fe0, fe1⟩ := eb.c2
      clear eb
      go_wp2_with fail
      exact bodyPost_ret (v := .agg #[.int .i64 y.1, .int .i64 y.2]) (by simp [results, Tryz.results65, go_sem, leb, e0, e1]) rfl (hR.out _ _ ⟨vf2, fi', by rw [HY.out], led_cut (A := m.es vf2 lh fh li fi' n ne (((s.give x.v.a).2.tick (0 + 1))) sh ((si.giveAt i x ⟨0, 0, 0⟩)) ((upd f x.v.a none)) ((upd F ((i : Int), x.gen) none)) items serial) (M := [_, _, _]) (C := C) (led_store2 (A := m.es vf2 lh fh li fi' n ne (((s.give x.v.a).2.tick (0 + 1))) sh ((si.giveAt i x ⟨0, 0, 0⟩)) ((upd f x.v.a none)) ((upd F ((i : Int), x.gen) none)) items serial ++ [_, _]) S5.out)⟩)
end
end Go.Proofs.YtognmhgdegpdiaaGreat
end
