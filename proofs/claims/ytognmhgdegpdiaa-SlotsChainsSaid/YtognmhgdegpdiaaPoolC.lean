/- Closed facts that all pools share. -/
import Derived.Test.YtognmhgdegpdiaaPoolA
import Derived.Test.YtognmhgdegpdiaaRows
namespace Go.Proofs.Ytognmhgdegpdiaa
open Go.RowKit
set_option maxRecDepth 100000

theorem info_int_ : (Try.prog.info? 3).map (fun i => (i.zero, i.size, i.bytes)) = some (some (.int .i64 0), 1, 8) := by kernel_rfl

theorem info_ref_ : (Try.prog.info? 27).map (fun i => (i.zero, i.size, i.bytes)) = some (some (.agg #[.int .i64 0, .int .i64 0]), 2, 16) := by kernel_rfl
theorem info_bool_ : (Try.prog.info? 4).map (fun i => (i.zero, i.size, i.bytes)) = some (some (.bool false), 1, 1) := by kernel_rfl
theorem info_int64_ : (Try.prog.info? 2).map (fun i => (i.zero, i.size, i.bytes)) = some (some (.int .i64 0), 1, 8) := by kernel_rfl

/-- The append of one element in a region that draws its order. -/
theorem step_push_drew {P : Program} {W : World} {ops : Array Oper} {o : Oper} {a : Act} {K : Act → World → Prop} {Q : Exit → Act → World → Prop} {E : Prop} (hgd : o.guard = none) (s x : Operand) (t : TypeId)
    (ho : o.op = .call { callee := .builtin .append, args := #[s, x], argTypes := #[t, t] })
    (base : Nat) (e : TypeId) (z : Value) (size bytes : Nat) (ht : P.underlying t = some (.slice e)) (hinfo : (P.info? e).map (fun i => (i.zero, i.size, i.bytes)) = some (some z, size, bytes)) (hzs : z.cells.size = size) (hsz : 0 < size)
    (v : Value) (L : List (List Value)) (cs : Array Value) (hs : a.eval s = v) (hown : TabIs W base e size v L) (hx : a.eval x = .slice (some ⟨W.heap.size, 0, none⟩) 1 1) (hl : cs.size = size) (h1 : ∀ u ∈ cs.toList, u.oneCell' = true)
    (hn : L.length ≤ 1000000000) (hb : bytes ≤ 1000) (hbase : base ≤ W.heap.size)
    (h : ∀ v' w', TabIs w' base e size v' (L ++ [cs.toList]) → Chg v.ownBlock.toList (W.drewN 1) w' → Fresh v.ownBlock.toList v'.ownBlock.toList (W.drewN 1) → K (a.put o.dst v') w') :
    if Region.wanted o (yielded ops a.tmps) = true then Oper.wp P o a (W.alloc (.cells cs e)).drew K Q else E :=
  step_push (W := W.drewN 1) hgd s x t ho base e z size bytes ht hinfo hzs hsz v L cs hs (hown.drewN 1) hx hl h1 hn hb hbase h

end Go.Proofs.Ytognmhgdegpdiaa
