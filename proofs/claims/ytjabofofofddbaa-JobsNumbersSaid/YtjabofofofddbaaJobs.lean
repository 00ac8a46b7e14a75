/- The table of jobs: what each method does; the first part. -/
import Derived.Test.YtjabofofofddbaaPoolJobE
import Derived.Test.YtjabofofofddbaaMapRef
namespace Go.Proofs.Ytjabofofofddbaa
open Go.RowKit
open Go.Maps (Keyed)
set_option linter.unusedVariables false
set_option linter.unusedSimpArgs false
set_option maxRecDepth 100000

def jobEnc : V5 → List Value := fun (v : V5) => [Value.int .i64 v.a, Value.int .i64 v.b, Value.int .i64 v.c, Value.int .i64 v.d, Value.int .i64 v.e]
def jobP (p : Nat) (lv fv : Value) (s : PSt V5) : Ent := poolE 150 152 3 7 (fun (v : V5) => [Value.int .i64 v.a, Value.int .i64 v.b, Value.int .i64 v.c, Value.int .i64 v.d, Value.int .i64 v.e]) p lv fv s
/-- The things in memory that a table of jobs is. -/
def jobEs (t p b n : Nat) (lv fv : Value) (s : PSt V5) (f : Int × Int → Option (Int × Int)) : List Ent :=
  [blkE t 137 #[.pointer (some ⟨p, 0, none⟩), .map (some b)], jobP p lv fv s, mapE refFam b n f]

section
variable {B t p b n : Nat} {w0 w : World} {lv fv : Value} {s : PSt V5} {f : Int × Int → Option (Int × Int)} {es : List Ent}
theorem jobBlk (h : Led B w0 w (jobEs t p b n lv fv s f ++ es)) : Blk w t 137 #[.pointer (some ⟨p, 0, none⟩), .map (some b)] := h.at_ 0 rfl
theorem jobPool (h : Led B w0 w (jobEs t p b n lv fv s f ++ es)) : PoolIs w 150 152 3 7 (fun (v : V5) => [Value.int .i64 v.a, Value.int .i64 v.b, Value.int .i64 v.c, Value.int .i64 v.d, Value.int .i64 v.e]) p lv fv s := h.at_ 1 rfl
theorem jobMap (h : Led B w0 w (jobEs t p b n lv fv s f ++ es)) : MapIs refFam w b n f := h.at_ 2 rfl
end

theorem bel_alloc {a w : World} (h : Below a.heap.size a w) (o : Obj) : Below a.heap.size a (w.alloc o) := h.alloc h.size o
theorem bel_refl (w : World) : Below w.heap.size w w := Below.refl _ _
theorem bel_drew {a w : World} (h : Below a.heap.size a w) : Below a.heap.size a w.drew := h.drew
theorem bel_drewN {a w : World} (h : Below a.heap.size a w) (k : Nat) : Below a.heap.size a (w.drewN k) := below_drewN h k
theorem bel_set {a w : World} (h : Below a.heap.size a w) {p : Addr} (hp : a.heap.size ≤ p.block) (u : Value) : Below a.heap.size a (w.setCell p u) := h.setCell hp u

theorem bel_trans {a b c : World} (h : Below a.heap.size a b) (k : Below b.heap.size b c) : Below a.heap.size a c := h.trans (k.mono h.size)

section
variable {B : Nat} {w0 w : World} {A C : List Ent} {g : Nat} {T : TypeId} {x0 x1 x2 x3 x4 y0 y1 y2 y3 y4 : Value}
/-- A struct is stored into a block of the ledger's. -/
theorem led_store2 (h : Led B w0 w (A ++ blkE g T #[x0, x1] :: C)) : Led B w0 ((w.setCell ⟨g, 0, none⟩ y0).setCell ⟨g, 1, none⟩ y1) (A ++ blkE g T #[y0, y1] :: C) := by
  have hb : Blk w g T #[x0, x1] := h.mem
  have h2 := (hb.set_ 0 y0).set_ 1 y1
  exact h.mid _ (((Chg.refl _ _).setCell (p := ⟨g, 0, none⟩) (.inl (by simp [blkE])) y0).setCell (p := ⟨g, 1, none⟩) (.inl (by simp [blkE])) y1) (by simpa [blkE] using h2) (Fresh.refl _ _)
theorem led_store3 (h : Led B w0 w (A ++ blkE g T #[x0, x1, x2] :: C)) : Led B w0 (((w.setCell ⟨g, 0, none⟩ y0).setCell ⟨g, 1, none⟩ y1).setCell ⟨g, 2, none⟩ y2) (A ++ blkE g T #[y0, y1, y2] :: C) := by
  have hb : Blk w g T #[x0, x1, x2] := h.mem
  have h2 := ((hb.set_ 0 y0).set_ 1 y1).set_ 2 y2
  exact h.mid _ ((((Chg.refl _ _).setCell (p := ⟨g, 0, none⟩) (.inl (by simp [blkE])) y0).setCell (p := ⟨g, 1, none⟩) (.inl (by simp [blkE])) y1).setCell (p := ⟨g, 2, none⟩) (.inl (by simp [blkE])) y2) (by simpa [blkE] using h2) (Fresh.refl _ _)
theorem led_store5 (h : Led B w0 w (A ++ blkE g T #[x0, x1, x2, x3, x4] :: C)) : Led B w0 (((((w.setCell ⟨g, 0, none⟩ y0).setCell ⟨g, 1, none⟩ y1).setCell ⟨g, 2, none⟩ y2).setCell ⟨g, 3, none⟩ y3).setCell ⟨g, 4, none⟩ y4) (A ++ blkE g T #[y0, y1, y2, y3, y4] :: C) := by
  have hb : Blk w g T #[x0, x1, x2, x3, x4] := h.mem
  have h2 := ((((hb.set_ 0 y0).set_ 1 y1).set_ 2 y2).set_ 3 y3).set_ 4 y4
  exact h.mid _ ((((((Chg.refl _ _).setCell (p := ⟨g, 0, none⟩) (.inl (by simp [blkE])) y0).setCell (p := ⟨g, 1, none⟩) (.inl (by simp [blkE])) y1).setCell (p := ⟨g, 2, none⟩) (.inl (by simp [blkE])) y2).setCell (p := ⟨g, 3, none⟩) (.inl (by simp [blkE])) y3).setCell (p := ⟨g, 4, none⟩) (.inl (by simp [blkE])) y4) (by simpa [blkE] using h2) (Fresh.refl _ _)
/-- A new block among the others. -/
theorem led_new {cs : Array Value} (h : Led B w0 w (A ++ C)) : Led B w0 (w.alloc (.cells cs T)) (A ++ blkE w.heap.size T cs :: C) :=
  Led.insert h _ (bel_alloc (bel_refl w) _) (Blk.new _ _ _) (by simp [blkE])
/-- A block of the ledger's is let go. -/
theorem led_drop {e : Ent} (h : Led B w0 w (A ++ e :: C)) : Led B w0 w (A ++ C) := h.sub (List.Sublist.append (List.Sublist.refl _) (List.sublist_cons_self _ _))
end

theorem ref_zero (w : World) : (zeroValue 57).run Try.prog w = .ok (.agg #[.int .i64 0, .int .i64 0]) w := by kernel_rfl

theorem jobs_len (B t p b n : Nat) (lv fv : Value) (s : PSt V5) (f : Int × Int → Option (Int × Int)) (w0 w : World) (es : List Ent) (h : Led B w0 w (jobEs t p b n lv fv s f ++ es)) :
    Calls Try.prog 47 #[.pointer (some ⟨t, 0, none⟩)] w fun e w' => e = .returned (.int .i64 ((s.l.length : Int) - s.free.length)) ∧ ∃ k, w' = w.drewN k := by
  have d0 := (jobBlk h).cell 0
  simp only [List.getElem?_toArray, List.getElem?_cons_zero] at d0
  have H := Lib.hid h; clear h
  refine callsR fun R hR => ?_
  go_enter Try.func47, Try.ntmps47
  go_wp2_with fail
  refine Calls.mono (pool_len_job p lv fv s _ (jobPool H.out)) ?_
  rintro e w1 ⟨rfl, k, rfl⟩
  go_wp2_with fail
  exact hR.out _ _ ⟨rfl, _, rfl⟩

theorem map_looks {w : World} {b n : Nat} {f : Int × Int → Option (Int × Int)} {a g : Int} (h : MapIs refFam w b n f) (ha : in64 a ∧ in64 g) {y : Int × Int} {q : Bool} (hy : (f (a, g)).getD (0, 0) = y) (hq : (f (a, g)).isSome = q) :
    ∀ W, Below w.heap.size w W → (Instr.lookup 135 (.map (some b)) (.agg #[.int .i64 a, .int .i64 g]) true).run Try.prog W = .ok (.tuple #[.agg #[.int .i64 y.1, .int .i64 y.2], .bool q]) W := fun W hW => by
  rw [← hy, ← hq]
  exact MapIs.look (F := refFam) (x := (a, g)) (E := 57) (h.chg (Chg.of_below hW []) (by simp)) Try.underlying135 ref_zero ha

theorem jobs_by (B t p b n : Nat) (lv fv : Value) (s : PSt V5) (f : Int × Int → Option (Int × Int)) (w0 w : World) (es : List Ent) (a g : Int) (ha : in64 a ∧ in64 g) (h : Led B w0 w (jobEs t p b n lv fv s f ++ es)) :
    Calls Try.prog 45 #[.pointer (some ⟨t, 0, none⟩), .agg #[.int .i64 a, .int .i64 g]] w fun e w' => e = .returned (.tuple #[.agg #[.int .i64 ((f (a, g)).getD (0, 0)).1, .int .i64 ((f (a, g)).getD (0, 0)).2], .bool (f (a, g)).isSome]) ∧ Below w.heap.size w w' := by
  have d1 := (jobBlk h).cell 1
  simp only [List.getElem?_toArray, List.getElem?_cons_zero, List.getElem?_cons_succ] at d1
  have hlt := (jobBlk h).lt
  generalize hx : (f (a, g)).getD (0, 0) = y
  generalize hz : (f (a, g)).isSome = q
  have HL := Lib.hid (map_looks (jobMap h) ha hx hz)
  clear hx hz ha h
  refine callsR fun R hR => ?_
  go_enter Try.func45, Try.ntmps45
  go_wp2_with fail
  have be := ((Below.refl w.heap.size w).alloc (Nat.le_refl _) (.cells #[.int .i64 a, .int .i64 g] 57)).alloc (by simp) (.cells #[.int .i64 0, .int .i64 0] 57)
  have r0 := ((Blk.new w 57 #[.int .i64 a, .int .i64 g]).alloc (.cells #[.int .i64 0, .int .i64 0] 57)).cell 0
  have r1 := ((Blk.new w 57 #[.int .i64 a, .int .i64 g]).alloc (.cells #[.int .i64 0, .int .i64 0] 57)).cell 1
  have x1 := (be.cell (p := ⟨t, 1, none⟩) hlt).trans d1
  simp only [List.getElem?_toArray, List.getElem?_cons_zero, List.getElem?_cons_succ] at r0 r1
  have rc := Blk.new1 w (.cells #[.int .i64 a, .int .i64 g] 57) 57 #[.int .i64 0, .int .i64 0]
  have c0 := rc.cell 0
  have c1 := rc.cell 1
  have f0 := rc.frozen 0
  have f1 := rc.frozen 1
  simp only [List.getElem?_toArray, List.getElem?_cons_zero, List.getElem?_cons_succ] at c0 c1
  have lt2 := rc.lt
  have lt0 : w.heap.size < ((w.alloc (.cells #[.int .i64 a, .int .i64 g] 57)).alloc (.cells #[.int .i64 0, .int .i64 0] 57)).heap.size := by simp; omega
  have lt1 : t < ((w.alloc (.cells #[.int .i64 a, .int .i64 g] 57)).alloc (.cells #[.int .i64 0, .int .i64 0] 57)).heap.size := by simp; omega
  generalize (w.alloc (.cells #[.int .i64 a, .int .i64 g] 57)).alloc (.cells #[.int .i64 0, .int .i64 0] 57) = wy at be r0 r1 x1 lt0 lt1 lt2 c0 c1 f0 f1 ⊢
  clear rc
  have HS : Hid (∀ W, Chg [] wy W → W.cell? ⟨t, 1, none⟩ = some (.map (some b)) ∧ W.cell? ⟨w.heap.size, 0, none⟩ = some (.int .i64 a) ∧ W.cell? ⟨w.heap.size, 1, none⟩ = some (.int .i64 g) ∧ (Instr.lookup 135 (.map (some b)) (.agg #[.int .i64 a, .int .i64 g]) true).run Try.prog W = .ok (.tuple #[.agg #[.int .i64 y.1, .int .i64 y.2], .bool q]) W) :=
    Lib.hid fun W hW => ⟨(hW.cell (p := ⟨t, 1, none⟩) lt1 (by simp)).trans x1, (hW.cell (p := ⟨w.heap.size, 0, none⟩) lt0 (by simp)).trans r0, (hW.cell (p := ⟨w.heap.size, 1, none⟩) lt0 (by simp)).trans r1, HL.out _ (bel_trans be (hW.below (by simp) (Nat.le_refl _)))⟩
  go_region_held3 (fun wx => wx.cell? ⟨t, 1, none⟩ = some (.map (some b)) ∧ wx.cell? ⟨w.heap.size, 0, none⟩ = some (.int .i64 a) ∧ wx.cell? ⟨w.heap.size, 1, none⟩ = some (.int .i64 g) ∧ (Instr.lookup 135 (.map (some b)) (.agg #[.int .i64 a, .int .i64 g]) true).run Try.prog wx = .ok (.tuple #[.agg #[.int .i64 y.1, .int .i64 y.2], .bool q]) wx) ((refine HS.out _ ?_; (repeat' first | with_reducible exact Chg.refl _ _ | with_reducible refine Chg.drew ?_ | with_reducible refine Chg.drewN ?_ _ | with_reducible refine Chg.alloc ?_ _ | with_reducible refine Chg.setCell ?_ ?_ _ | (left; simp; done) | (right; exact Nat.le_refl _) | (right; dsimp only; omega)); done)) (fail)
  all_goals
    go_wp2_with fail
    exact bodyPost_ret (v := .tuple #[.agg #[.int .i64 y.1, .int .i64 y.2], .bool q]) (by simp [results, Try.results45, go_sem, lt2, c0, c1]) rfl (hR.out _ _ ⟨rfl, by (repeat' first | with_reducible exact be | with_reducible exact bel_refl _ | with_reducible refine bel_drew ?_ | with_reducible refine bel_drewN ?_ _ | with_reducible refine bel_alloc ?_ _ | with_reducible refine bel_set ?_ ?_ _ | exact Nat.le_refl _ | (dsimp only; omega) | omega | (simp; omega))⟩)

theorem job_t0 {B t p b n : Nat} {w0 w : World} {lv fv : Value} {s : PSt V5} {f : Int × Int → Option (Int × Int)} {es : List Ent} (h : Led B w0 w (jobEs t p b n lv fv s f ++ es)) : w.cell? ⟨t, 0, none⟩ = some (.pointer (some ⟨p, 0, none⟩)) := by
  have := (jobBlk h).cell 0
  simpa using this
theorem job_t1 {B t p b n : Nat} {w0 w : World} {lv fv : Value} {s : PSt V5} {f : Int × Int → Option (Int × Int)} {es : List Ent} (h : Led B w0 w (jobEs t p b n lv fv s f ++ es)) : w.cell? ⟨t, 1, none⟩ = some (.map (some b)) := by
  have := (jobBlk h).cell 1
  simpa using this

set_option maxHeartbeats 1000000 in
theorem jobs_get (B t p b n : Nat) (lv fv : Value) (s : PSt V5) (f : Int × Int → Option (Int × Int)) (w0 w : World) (es : List Ent) (a g : Int) (h : Led B w0 w (jobEs t p b n lv fv s f ++ es)) :
    Calls Try.prog 83 #[.pointer (some ⟨t, 0, none⟩), .agg #[.int .i64 a, .int .i64 g]] w fun e w' => ∃ (v : V5) (e0 : Int), e = .returned (.tuple #[.agg #[.int .i64 v.a, .int .i64 v.b, .int .i64 v.c, .int .i64 v.d, .int .i64 v.e], .int .i64 e0]) ∧ GetR ⟨0, 0, 0, 0, 0⟩ s a g v e0 ∧ Below w.heap.size w w' := by
  have hlt := (jobBlk h).lt
  have H := Lib.hid h; clear h
  refine callsR fun R hR => ?_
  go_enter Try.func83, Try.ntmps83
  go_wp2_with fail
  have be := bel_alloc (bel_alloc (bel_refl w) (.cells #[.int .i64 a, .int .i64 g] 57)) (.cells #[.int .i64 0, .int .i64 0, .int .i64 0, .int .i64 0, .int .i64 0] 80)
  have rr := (Blk.new w 57 #[.int .i64 a, .int .i64 g]).alloc (.cells #[.int .i64 0, .int .i64 0, .int .i64 0, .int .i64 0, .int .i64 0] 80)
  have rc := Blk.new1 w (.cells #[.int .i64 a, .int .i64 g] 57) 80 #[.int .i64 0, .int .i64 0, .int .i64 0, .int .i64 0, .int .i64 0]
  generalize (w.alloc (.cells #[.int .i64 a, .int .i64 g] 57)).alloc (.cells #[.int .i64 0, .int .i64 0, .int .i64 0, .int .i64 0, .int .i64 0] 80) = wy at be rr rc ⊢
  have H2 := Lib.hid (H.out.later be)
  have HS : Hid (∀ W, Chg [w.heap.size + 1] wy W → W.cell? ⟨t, 0, none⟩ = some (.pointer (some ⟨p, 0, none⟩)) ∧ W.cell? ⟨w.heap.size, 0, none⟩ = some (.int .i64 a) ∧ W.cell? ⟨w.heap.size, 1, none⟩ = some (.int .i64 g)) :=
    Lib.hid fun W hW => ⟨(hW.cell (p := ⟨t, 0, none⟩) (jobBlk H2.out).lt (by simp; omega)).trans (job_t0 H2.out), (rr.chg hW (by simp)).cell 0, (rr.chg hW (by simp)).cell 1⟩
  have RC := Lib.hid rc
  clear rr rc
  go_region_held3 (fun wx => wx.cell? ⟨t, 0, none⟩ = some (.pointer (some ⟨p, 0, none⟩)) ∧ wx.cell? ⟨w.heap.size, 0, none⟩ = some (.int .i64 a) ∧ wx.cell? ⟨w.heap.size, 1, none⟩ = some (.int .i64 g)) (first | (refine HS.out _ ?_; (repeat' first | with_reducible exact Chg.refl _ _ | with_reducible refine Chg.drew ?_ | with_reducible refine Chg.drewN ?_ _ | with_reducible refine Chg.alloc ?_ _ | with_reducible refine Chg.setCell ?_ ?_ _ | (left; simp; done) | (right; exact Nat.le_refl _) | (right; dsimp only; omega)); done) | (refine HS2.out _ ?_; (repeat' first | with_reducible exact Chg.refl _ _ | with_reducible refine Chg.drew ?_ | with_reducible refine Chg.drewN ?_ _ | with_reducible refine Chg.alloc ?_ _ | with_reducible refine Chg.setCell ?_ ?_ _ | (left; simp; done) | (right; exact Nat.le_refl _) | (right; dsimp only; omega)); done)) ((go_at_call 81; refine Calls.mono (pool_get_job p lv fv s a g _ (jobPool H2.out.drew)) ?_; rintro e w2 ⟨v, e0, rfl, q1, q2⟩; have B2 := Lib.hid (bel_trans (bel_drew (bel_refl wy)) q2); have HS2 := Lib.hid (fun W hW => HS.out W ((Chg.of_below B2.out _).trans hW)); have rc := RC.out.chg (Chg.of_below B2.out []) (by simp); have c0 := rc.cell 0; have c1 := rc.cell 1; have c2 := rc.cell 2; have c3 := rc.cell 3; have c4 := rc.cell 4; have f0 := rc.frozen 0; have f1 := rc.frozen 1; have f2 := rc.frozen 2; have f3 := rc.frozen 3; have f4 := rc.frozen 4; have lc := rc.lt; have Q1 := Lib.hid q1; clear rc q1 q2))
  go_wp2_with fail
  have be := bel_trans be B2.out
  exact bodyPost_ret (v := .tuple #[.agg #[.int .i64 v.a, .int .i64 v.b, .int .i64 v.c, .int .i64 v.d, .int .i64 v.e], .int .i64 e0]) (by simp [results, Try.results83, go_sem, lc, c0, c1, c2, c3, c4]) rfl (hR.out _ _ ⟨v, e0, rfl, Q1.out, by (repeat' first | with_reducible exact be | with_reducible exact bel_refl _ | with_reducible refine bel_drew ?_ | with_reducible refine bel_drewN ?_ _ | with_reducible refine bel_alloc ?_ _ | with_reducible refine bel_set ?_ ?_ _ | exact Nat.le_refl _ | (dsimp only; omega) | omega | (simp; omega))⟩)
end Go.Proofs.Ytjabofofofddbaa
