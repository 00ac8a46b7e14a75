import Derived.Test.YtognmhgdegpdiaaGreatPoolHT
import Derived.Test.YtognmhgdegpdiaaGreatMap
/- The table of slots: worlds that are built up, blocks of a ledger; maps keyed by numbers; the table as things in memory. -/
namespace Go.Proofs.YtognmhgdegpdiaaGreat
open Go.RowKit
open Go.Maps (Keyed)
set_option linter.unusedVariables false
set_option linter.unusedSimpArgs false
set_option maxRecDepth 100000
theorem bel_alloc {a w : World} (h : Below a.heap.size a w) (o : Obj) : Below a.heap.size a (w.alloc o) := h.alloc h.size o
theorem bel_refl (w : World) : Below w.heap.size w w := Below.refl _ _
theorem bel_drew {a w : World} (h : Below a.heap.size a w) : Below a.heap.size a w.drew := h.drew
section
variable {B : Nat} {w0 w : World} {A C : List Ent} {g : Nat} {T : TypeId} {x0 x1 x2 x3 x4 y0 y1 y2 y3 y4 : Value}
theorem led_store2 (h : Led B w0 w (A ++ blkE g T #[x0, x1] :: C)) : Led B w0 ((w.setCell ⟨g, 0, none⟩ y0).setCell ⟨g, 1, none⟩ y1) (A ++ blkE g T #[y0, y1] :: C) := by
  have hb : Blk w g T #[x0, x1] := h.mem
  have h2 := (hb.set_ 0 y0).set_ 1 y1
  exact h.mid _ (((Chg.refl _ _).setCell (p := ⟨g, 0, none⟩) (.inl (by simp [blkE])) y0).setCell (p := ⟨g, 1, none⟩) (.inl (by simp [blkE])) y1) (by simpa [blkE] using h2) (Fresh.refl _ _)
theorem led_store3 (h : Led B w0 w (A ++ blkE g T #[x0, x1, x2] :: C)) : Led B w0 (((w.setCell ⟨g, 0, none⟩ y0).setCell ⟨g, 1, none⟩ y1).setCell ⟨g, 2, none⟩ y2) (A ++ blkE g T #[y0, y1, y2] :: C) := by
  have hb : Blk w g T #[x0, x1, x2] := h.mem
  have h2 := ((hb.set_ 0 y0).set_ 1 y1).set_ 2 y2
  exact h.mid _ ((((Chg.refl _ _).setCell (p := ⟨g, 0, none⟩) (.inl (by simp [blkE])) y0).setCell (p := ⟨g, 1, none⟩) (.inl (by simp [blkE])) y1).setCell (p := ⟨g, 2, none⟩) (.inl (by simp [blkE])) y2) (by simpa [blkE] using h2) (Fresh.refl _ _)
theorem led_new {cs : Array Value} (h : Led B w0 w (A ++ C)) : Led B w0 (w.alloc (.cells cs T)) (A ++ blkE w.heap.size T cs :: C) :=
  Led.insert h _ (bel_alloc (bel_refl w) _) (Blk.new _ _ _) (by simp [blkE])
theorem led_cut {M : List Ent} (h : Led B w0 w (A ++ (M ++ C))) : Led B w0 w (A ++ C) := h.sub (List.Sublist.append (List.Sublist.refl _) (List.sublist_append_right _ _))
theorem led_drop {e : Ent} (h : Led B w0 w (A ++ e :: C)) : Led B w0 w (A ++ C) := h.sub (List.Sublist.append (List.Sublist.refl _) (List.sublist_cons_self _ _))
end
theorem ref_zero (w : World) : (zeroValue 34).run Tryz.prog w = .ok (.agg #[.int .i64 0, .int .i64 0]) w := by kernel_rfl
theorem led_cell {B : Nat} {w0 w : World} {A C : List Ent} {g : Nat} {T : TypeId} {cs : Array Value} (i : Nat) (u : Value) (h : Led B w0 w (A ++ blkE g T cs :: C)) : Led B w0 (w.setCell ⟨g, i, none⟩ u) (A ++ blkE g T (cs.setIfInBounds i u) :: C) := by
  have hb : Blk w g T cs := h.mem
  exact h.mid _ ((Chg.refl _ _).setCell (p := ⟨g, i, none⟩) (.inl (by simp [blkE])) u) (hb.set_ i u) (Fresh.refl _ _)
def in64 (a : Int) : Prop := -9223372036854775808 ≤ a ∧ a ≤ 9223372036854775807
def intFam : KeyFam Int where
  k := 3
  kv x := .int .i64 x
  lit x := .int .i64 x
  ok x := in64 x
  law := Go.Maps.int_keyed Tryz.underlying3
  key x h := Go.Maps.keyOf_int_mk Tryz.underlying3 (WalkArith.wf_i64 h)
  inj x y h := by simpa using h
def heapP (p : Nat) (lv fv : Value) (s : PSt V3) : Ent := poolE 142 144 3 5 (fun (v : V3) => [Value.int .i64 v.a, Value.int .i64 v.b, Value.int .i64 v.c]) p lv fv s
def thingP (p : Nat) (lv fv : Value) (s : PSt V3) : Ent := poolE 161 163 3 5 (fun (v : V3) => [Value.int .i64 v.a, Value.int .i64 v.b, Value.int .i64 v.c]) p lv fv s
def slotEs (t ph pi b n : Nat) (lh fh li fi : Value) (sh si : PSt V3) (f : Int → Option (Int × Int)) : List Ent :=
  [blkE t 105 #[.pointer (some ⟨ph, 0, none⟩), .pointer (some ⟨pi, 0, none⟩), .map (some b)], heapP ph lh fh sh, thingP pi li fi si, mapE intFam b n f]
section
variable {B t ph pi b n : Nat} {w0 w : World} {lh fh li fi : Value} {sh si : PSt V3} {f : Int → Option (Int × Int)} {es : List Ent}
theorem slotBlk (h : Led B w0 w (slotEs t ph pi b n lh fh li fi sh si f ++ es)) : Blk w t 105 #[.pointer (some ⟨ph, 0, none⟩), .pointer (some ⟨pi, 0, none⟩), .map (some b)] := h.at_ 0 rfl
theorem slotHeaps (h : Led B w0 w (slotEs t ph pi b n lh fh li fi sh si f ++ es)) : PoolIs w 142 144 3 5 (fun (v : V3) => [Value.int .i64 v.a, Value.int .i64 v.b, Value.int .i64 v.c]) ph lh fh sh := h.at_ 1 rfl
theorem slotItems (h : Led B w0 w (slotEs t ph pi b n lh fh li fi sh si f ++ es)) : PoolIs w 161 163 3 5 (fun (v : V3) => [Value.int .i64 v.a, Value.int .i64 v.b, Value.int .i64 v.c]) pi li fi si := h.at_ 2 rfl
theorem slotMap (h : Led B w0 w (slotEs t ph pi b n lh fh li fi sh si f ++ es)) : MapIs intFam w b n f := h.at_ 3 rfl
theorem slot_t0 (h : Led B w0 w (slotEs t ph pi b n lh fh li fi sh si f ++ es)) : w.cell? ⟨t, 0, none⟩ = some (.pointer (some ⟨ph, 0, none⟩)) := by have := (slotBlk h).cell 0; simpa using this
theorem slot_t1 (h : Led B w0 w (slotEs t ph pi b n lh fh li fi sh si f ++ es)) : w.cell? ⟨t, 1, none⟩ = some (.pointer (some ⟨pi, 0, none⟩)) := by have := (slotBlk h).cell 1; simpa using this
theorem slot_t2 (h : Led B w0 w (slotEs t ph pi b n lh fh li fi sh si f ++ es)) : w.cell? ⟨t, 2, none⟩ = some (.map (some b)) := by have := (slotBlk h).cell 2; simpa using this
end
theorem map_looks {w : World} {b n : Nat} {f : Int → Option (Int × Int)} {a : Int} (h : MapIs intFam w b n f) (ha : in64 a) {y : Int × Int} {q : Bool} (hy : (f a).getD (0, 0) = y) (hq : (f a).isSome = q) :
    ∀ W, Below w.heap.size w W → (Instr.lookup 103 (.map (some b)) (.int .i64 a) true).run Tryz.prog W = .ok (.tuple #[.agg #[.int .i64 y.1, .int .i64 y.2], .bool q]) W := fun W hW => by
  rw [← hy, ← hq]
  exact MapIs.look (F := intFam) (x := a) (E := 34) (h.chg (Chg.of_below hW []) (by simp)) Tryz.underlying103 ref_zero ha
end Go.Proofs.YtognmhgdegpdiaaGreat
