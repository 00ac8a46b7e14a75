import Derived.Test.YtognmhgdegpdiaaGreatLawAB
/- TopFull: as many items as there is room for. -/
namespace Go.Proofs.YtognmhgdegpdiaaGreat
open Go.RowKit
open Go.Maps (Keyed)
set_option linter.unusedVariables false
set_option linter.unusedSimpArgs false
set_option maxRecDepth 100000
def intV : Value → Nat
  | .int _ x => x.toNat
  | _ => 0
theorem led_cut1 {B : Nat} {w0 w : World} {A C : List Ent} {a b : Ent} (h : Led B w0 w (A ++ a :: b :: C)) : Led B w0 w (A ++ a :: C) := h.sub (List.Sublist.append (List.Sublist.refl _) ((List.sublist_cons_self _ _).cons_cons _))
theorem led_put1 {B : Nat} {w0 w : World} {A C : List Ent} {a : Ent} {T : TypeId} {cs : Array Value} (h : Led B w0 w (A ++ a :: C)) : Led B w0 (w.alloc (.cells cs T)) (A ++ a :: blkE w.heap.size T cs :: C) := by
  have := led_new (A := A ++ [a]) (C := C) (T := T) (cs := cs) (by rw [List.append_assoc]; exact h)
  rw [List.append_assoc] at this
  exact this
theorem heap_at {L : List HR} {R : List (Int × Int)} (hp : (L.map href).Perm R) {i : Nat} {p : Int × Int} (hi : R[i]? = some p) : ∃ h L', L.Perm (h :: L') ∧ href h = p := by
  have h1 : p ∈ L.map href := hp.mem_iff.2 (List.mem_of_getElem? hi)
  obtain ⟨h, hh, e⟩ := List.mem_map.1 h1
  obtain ⟨a, b, e2⟩ := List.append_of_mem hh
  exact ⟨h, a ++ b, by rw [e2]; exact List.perm_middle, e⟩
theorem items_len {L L' : List HR} {h : HR} (hp : L.Perm (h :: L')) : (itemsL L).length = h.I.length + (itemsL L').length := by
  have : (itemsL L).Perm (itemsL (h :: L')) := hp.flatMap_right _
  rw [this.length_eq, itemsL_cons, List.length_append]
section
end
end Go.Proofs.YtognmhgdegpdiaaGreat
