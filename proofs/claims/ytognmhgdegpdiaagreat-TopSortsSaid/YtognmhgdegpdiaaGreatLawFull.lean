import Derived.Test.YtognmhgdegpdiaaGreatLawAB
/- TopFull: as many items as there is room for. -/
namespace Go.Proofs.YtognmhgdegpdiaaGreat
open Go.RowKit
open Go.Maps (Keyed)
set_option linter.unusedVariables false
set_option linter.unusedSimpArgs false
set_option maxRecDepth 100000
def intV : Value → Nat
  | .int _ x => x.toNat
  | _ => 0
theorem led_cut1 {B : Nat} {w0 w : World} {A C : List Ent} {a b : Ent} (h : Led B w0 w (A ++ a :: b :: C)) : Led B w0 w (A ++ a :: C) := h.sub (List.Sublist.append (List.Sublist.refl _) ((List.sublist_cons_self _ _).cons_cons _))
theorem led_put1 {B : Nat} {w0 w : World} {A C : List Ent} {a : Ent} {T : TypeId} {cs : Array Value} (h : Led B w0 w (A ++ a :: C)) : Led B w0 (w.alloc (.cells cs T)) (A ++ a :: blkE w.heap.size T cs :: C) := by
  have := led_new (A := A ++ [a]) (C := C) (T := T) (cs := cs) (by rw [List.append_assoc]; exact h)
  rw [List.append_assoc] at this
  exact this
section
end
end Go.Proofs.YtognmhgdegpdiaaGreat
