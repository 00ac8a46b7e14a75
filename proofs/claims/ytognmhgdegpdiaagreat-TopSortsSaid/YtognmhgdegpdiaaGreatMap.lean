import Derived.Test.YtognmhgdegpdiaaGreatPoolAll
import Derived.Maps.OwnSet
import Derived.DeepKeys4
/- Maps in memory whose elements are Refs: what they have, key by key. -/
namespace Go.Proofs.YtognmhgdegpdiaaGreat
open Go.RowKit
open Go.Maps (Keyed)
set_option linter.unusedVariables false
set_option linter.unusedSimpArgs false
set_option maxRecDepth 100000
def refV (y : Int × Int) : Value := .agg #[.int .i64 y.1, .int .i64 y.2]
def refD (y : Int × Int) : DataW Unit := .agg [.lit (.int .i64 y.1), .lit (.int .i64 y.2)]
def refR (v : Value) : Option (DataW Unit × List MemPlace) := match v with
  | .agg cs => match cs.toList with
    | [.int .i64 a, .int .i64 b] => some (refD (a, b), [])
    | _ => none
  | _ => none
theorem refR_mk (y : Int × Int) : refR (refV y) = some (refD y, []) := rfl
theorem refR_inv {v : Value} {y : Int × Int} {ps : List MemPlace} (h : refR v = some (refD y, ps)) : v = refV y := by
  unfold refR at h
  split at h
  · rename_i cs
    split at h
    · rename_i a b hl
      simp only [refD, Option.some.injEq, Prod.mk.injEq, DataW.agg.injEq, List.cons.injEq, DataW.lit.injEq, Lit.int.injEq, true_and, and_true] at h
      obtain ⟨⟨rfl, rfl⟩, _⟩ := h
      unfold refV
      congr 1
      apply Array.toList_inj.1
      simpa using hl
    · cases h
  · cases h
structure KeyFam (κ : Type) where
  k : TypeId
  kv : κ → Value
  lit : κ → Lit
  ok : κ → Prop
  law : Keyed Tryz.prog k
  key : ∀ x, ok x → keyOf Tryz.prog k (kv x) = some (lit x)
  inj : ∀ x y, kv x = kv y → x = y
variable {κ : Type}
theorem KeyFam.ne (F : KeyFam κ) {x y : κ} (hx : F.ok x) (hy : F.ok y) (h : x ≠ y) : F.lit x ≠ F.lit y := fun e =>
  h (F.inj _ _ (F.law.inj (F.key x hx) (e ▸ F.key y hy)))
def upd [DecidableEq κ] {α : Type} (f : κ → α) (x : κ) (v : α) : κ → α := fun k => if k = x then v else f k
theorem upd_same [DecidableEq κ] {α : Type} (f : κ → α) (x : κ) (v : α) : upd f x v x = v := by simp [upd]
theorem upd_other [DecidableEq κ] {α : Type} (f : κ → α) {x k : κ} (v : α) (h : k ≠ x) : upd f x v k = f k := by simp [upd, h]
def MapIs (F : KeyFam κ) (w : World) (b n : Nat) (f : κ → Option (Int × Int)) : Prop :=
  ∃ D : DataW Unit, w.ownsMap Tryz.prog F.k refR b n D ∧ ∀ x, F.ok x → Maps.has D (F.lit x) = (f x).isSome ∧ ∀ y, f x = some y → ∀ z, D.atKey (F.lit x) z = refD y
section
variable {F : KeyFam κ} {w w' : World} {b n : Nat} {f : κ → Option (Int × Int)}
theorem MapIs.lt (h : MapIs F w b n f) : b < w.heap.size := let ⟨_, h1, _⟩ := h; h1.lt
theorem MapIs.same (h : MapIs F w b n f) (hb : w'.heap[b]? = w.heap[b]?) : MapIs F w' b n f := by
  obtain ⟨D, ⟨es, clock, h1, h2⟩, h3⟩ := h
  exact ⟨D, ⟨es, clock, hb.trans h1, h2⟩, h3⟩
theorem MapIs.chg {fp : List Nat} (h : MapIs F w b n f) (hc : Chg fp w w') (hn : b ∉ fp) : MapIs F w' b n f := h.same (hc.block b h.lt hn)
theorem MapIs.drewN (h : MapIs F w b n f) (k : Nat) : MapIs F (w.drewN k) b n f := h
theorem MapIs.made (F : KeyFam κ) (w : World) : MapIs F (w.alloc (.map #[] 0)) w.heap.size 0 (fun _ => none) :=
  ⟨.map [], World.ownsMap_made _ _ _ _, fun x _ => ⟨rfl, fun y h => by cases h⟩⟩
theorem MapIs.look {t E : TypeId} {x : κ} (h : MapIs F w b n f) (ht : Tryz.prog.underlying t = some (.map F.k E)) (hz : ∀ w, (zeroValue E).run Tryz.prog w = .ok (refV (0, 0)) w) (hx : F.ok x) :
    (Instr.lookup t (.map (some b)) (F.kv x) true).run Tryz.prog w = .ok (.tuple #[refV ((f x).getD (0, 0)), .bool (f x).isSome]) w := by
  obtain ⟨D, h1, h2⟩ := h
  obtain ⟨v, ps, hr, hv⟩ := h1.look_ok F.law ht (hz w) (refR_mk (0, 0)) (F.key x hx)
  obtain ⟨g1, g2⟩ := h2 x hx
  rw [hr, g1]
  cases hf : f x with
  | none =>
    rw [hf] at g1
    rw [Maps.atKey_of_not_has g1] at hv
    rw [refR_inv hv]
    rfl
  | some y =>
    rw [g2 y hf] at hv
    rw [refR_inv hv]
    rfl
theorem MapIs.store [DecidableEq κ] {t E : TypeId} {x : κ} {y : Int × Int} (h : MapIs F w b n f) (ht : Tryz.prog.underlying t = some (.map F.k E)) (hn : n < maxLen) (hx : F.ok x) :
    ∃ w', (Instr.mapUpdate t (.map (some b)) (F.kv x) (refV y)).run Tryz.prog w = .ok () w' ∧ MapIs F w' b (n + 1) (upd f x (some y)) ∧ Chg [b] w w' := by
  obtain ⟨D, h1, h2⟩ := h
  obtain ⟨w', hr, h3, h4⟩ := h1.store F.law ht hn (F.key x hx) (refR_mk y)
  refine ⟨w', hr, ⟨_, h3, fun x' hx' => ?_⟩, (Chg.refl [b] w).grown h4.grown (fun k hk => .inl (by simpa using hk.symm))⟩
  by_cases he : x' = x
  · subst he
    rw [upd_same]
    exact ⟨Maps.has_put_same h1.isMap (F.law.key (F.key x' hx)) _, fun y' hy z => by injection hy with hy; subst hy; exact Maps.atKey_put_same h1.isMap (F.law.key (F.key x' hx)) _ _⟩
  · have hne := F.ne hx' hx he
    rw [upd_other _ _ he, Maps.has_put_other hne]
    exact ⟨(h2 x' hx').1, fun y' hy z => by rw [Maps.atKey_put_other hne]; exact (h2 x' hx').2 y' hy z⟩
theorem MapIs.drop [DecidableEq κ] {t E ty : TypeId} {x : κ} (h : MapIs F w b n f) (ht : Tryz.prog.underlying t = some (.map F.k E)) (hx : F.ok x) :
    ∃ w', (Builtin.delete_ #[t, F.k] ty #[.map (some b), F.kv x]).run Tryz.prog w = .ok (.tuple #[]) w' ∧ MapIs F w' b n (upd f x none) ∧ Chg [b] w w' := by
  obtain ⟨D, h1, h2⟩ := h
  obtain ⟨w', hr, h3, h4⟩ := h1.drop F.law ht (F.key x hx) ty
  refine ⟨w', hr, ⟨_, h3, fun x' hx' => ?_⟩, (Chg.refl [b] w).grown h4.grown (fun k hk => .inl (by simpa using hk.symm))⟩
  by_cases he : x' = x
  · subst he
    rw [upd_same]
    exact ⟨Maps.has_del_same, fun y' hy => by cases hy⟩
  · have hne := F.ne hx' hx he
    rw [upd_other _ _ he, Maps.has_del_other hne]
    exact ⟨(h2 x' hx').1, fun y' hy z => by rw [Maps.atKey_del_other hne]; exact (h2 x' hx').2 y' hy z⟩
end
def mapE (F : KeyFam κ) (b n : Nat) (f : κ → Option (Int × Int)) : Ent :=
  ⟨[b], fun w => MapIs F w b n f, fun hc ha h => h.chg hc (ha b (by simp)), fun h x hx => by simp at hx; subst hx; exact h.lt⟩
section
variable {F : KeyFam κ} {w : World} {b n : Nat} {f : κ → Option (Int × Int)} {ops : Array Oper} {rest : List Oper} {o : Oper} {a : Act} {Q : Exit → Act → World → Prop}
end
end Go.Proofs.YtognmhgdegpdiaaGreat
