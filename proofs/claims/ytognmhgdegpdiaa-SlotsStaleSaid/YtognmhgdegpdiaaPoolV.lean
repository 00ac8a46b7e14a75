/- What pools of structs have: numbers side by side. -/
import Derived.Test.YtognmhgdegpdiaaPoolC
namespace Go.Proofs.Ytognmhgdegpdiaa
open Go.RowKit

structure V3 where
  a : Int
  b : Int
  c : Int
structure V5 where
  a : Int
  b : Int
  c : Int
  d : Int
  e : Int
section
variable {α : Type} (z : α) (s : PSt α)
/-- What a call answers, and what it leaves. -/
def GetR (a g : Int) (v : α) (e0 : Int) : Prop := (e0 ≠ 0 ∧ s.look a g = e0 ∧ v = z) ∨ (∃ (i : Nat) (x : Pl α), a = i ∧ g = x.gen ∧ s.l[i]? = some x ∧ x.taken = true ∧ 1 ≤ x.gen ∧ e0 = 0 ∧ v = x.v)
def GiveR (a g : Int) (v : α) (e0 : Int) (s' : PSt α) : Prop := (e0 ≠ 0 ∧ s.look a g = e0 ∧ v = z ∧ s' = s) ∨ (∃ (i : Nat) (x : Pl α), a = i ∧ g = x.gen ∧ s.l[i]? = some x ∧ x.taken = true ∧ 1 ≤ x.gen ∧ e0 = 0 ∧ v = x.v ∧ s' = s.giveAt i x z)
def SetR (a g : Int) (v : α) (e0 : Int) (s' : PSt α) : Prop := (e0 ≠ 0 ∧ s.look a g = e0 ∧ s' = s) ∨ (∃ (i : Nat) (x : Pl α), a = i ∧ g = x.gen ∧ s.l[i]? = some x ∧ x.taken = true ∧ 1 ≤ x.gen ∧ e0 = 0 ∧ s' = s.setAt i x v)
def TakeR (v : α) (a g : Int) (ok : Bool) (s' : PSt α) : Prop :=
  (s.free = [] ∧ s.most ≤ s.l.length ∧ a = 0 ∧ g = 0 ∧ ok = false ∧ s' = s) ∨ (s.free = [] ∧ s.l.length < s.most ∧ a = s.l.length ∧ g = 1 ∧ ok = true ∧ s' = s.fresh v) ∨
  (∃ (i : Nat) (fs : List Nat) (x : Pl α), s.free = fs ++ [i] ∧ s.l[i]? = some x ∧ a = i ∧ g = wrap64 (x.gen + 1) ∧ ok = true ∧ s' = s.retake i fs x v)
end
theorem cell_drew1 (W : World) (a : Addr) : W.drew.cell? a = W.cell? a := rfl
/-- A store into another block. -/
theorem cell_far {W : World} {p q : Addr} (h : p.block ≠ q.block) (u : Value) : (W.setCell p u).cell? q = W.cell? q := World.cell?_of_block (Below.heap_setCell W p u q.block (fun e => h e.symm))
theorem row_set {α : Type} {L : List α} {i : Nat} {r : α} (h : L[i]? = some r) : L.set i r = L := by
  obtain ⟨hi, rfl⟩ := List.getElem?_eq_some_iff.1 h
  exact List.set_getElem_self hi
/-- A world behind a letter. -/
theorem letW {P G : World → Prop} {W : World} (hp : P W) (h : ∀ W, P W → G W) : G W := h W hp
end Go.Proofs.Ytognmhgdegpdiaa
