/-
  No cell of these rows narrows 'for every input' (looked for: loops, veiled, ifaces, maps, wideKeys, modest, calm, conditions, laid).
  DERIVED. THE GIVEN ROWS OF THIS SEAT. 6 by the template 'for every input the law returns true; each argument reads behind the call as it read before'; 0 by the template 'total and deterministic' (their statements: YtognmhgdegpdiaaGreatTotals.lean).
  GIVEN WITH THE SEED: the statements are not yours to turn. If you find one false, say at which input.
  Laid BY PROGRAM, IN A SANDBOX (cutbox-rows.mjs): the forced cells as the released guide's own fill.sh prints them over the translation 5ff5b2642fee6cce… (all of the seat's roots in one cut). By AI agents, Wed Nov 11 2026. No macro, syntax, notation, axiom, sorry.
-/
import Derived.Test.YtognmhgdegpdiaaGreatChecked
import GoSem.Claim
import GoSem.ClaimJoined
import GoSem.ClaimMapViews
import Derived.JoinedTies
import Derived.KernelRfl
namespace Go.Proofs.YtognmhgdegpdiaaGreat
/- THE CELL 'sum', in the pinned program and in every row, IS THE sha256 OF THE DUMP (.gsa) THAT YtognmhgdegpdiaaGreatProg.lean LOADS. Nothing in Lean hashes anything: it is a label: what it is worth is what the hold of that sum in a sandbox is worth. -/
noncomputable def Tryz.pinned : Pinned := { name := "ytognmhgdegpdiaagreat", sum := "5ff5b2642fee6cce971b129ac77baee1952d67f555c2406a921cc479fa5493c0", checked := Tryz.checked }
namespace Rows
def none {H : Type} : Left H := { results := [], args := [] }

/-- 'thickettop.TopSorts': WHATEVER THE INPUT: true; the input reads as it did. -/
def topSortsSpec : ChangeSpec := { name := "topSorts", fn := fun _ => fun
  | [d1, d2] => { results := [.lit (.bool true)], args := [d1, d2] }
  | _ => none }
def topSortsRow : OpenClaim := { program := "ytognmhgdegpdiaagreat", sum := "5ff5b2642fee6cce971b129ac77baee1952d67f555c2406a921cc479fa5493c0", func := "thicket/thickettop.TopSorts", spec := "topSorts", inPlace := ["slices.overlaps[thicket/trees.ranked]"], unfollowed := true, recurses := true, plainKeys := false, apart := false }
def TopSortsSaid : Prop := topSortsRow.holds Tryz.pinned (OpenSpec.ofChange topSortsSpec)

/-- ITS FALSE NEIGHBOUR: 'it returns false'. Refute it at one input. -/
def topSortsWrong : ChangeSpec := { name := "topSorts", fn := fun _ => fun
  | [d1, d2] => { results := [.lit (.bool false)], args := [d1, d2] }
  | _ => none }
def TopSortsWrongFalsely : Prop := topSortsRow.holds Tryz.pinned (OpenSpec.ofChange topSortsWrong)

/-- 'thickettop.TopHandles': WHATEVER THE INPUT: true; the input reads as it did. -/
def topHandlesSpec : ChangeSpec := { name := "topHandles", fn := fun _ => fun
  | [d1, d2] => { results := [.lit (.bool true)], args := [d1, d2] }
  | _ => none }
def topHandlesRow : OpenClaim := { program := "ytognmhgdegpdiaagreat", sum := "5ff5b2642fee6cce971b129ac77baee1952d67f555c2406a921cc479fa5493c0", func := "thicket/thickettop.TopHandles", spec := "topHandles", inPlace := ["slices.overlaps[thicket/trees.ranked]"], unfollowed := true, recurses := true, plainKeys := false, apart := false }
def TopHandlesSaid : Prop := topHandlesRow.holds Tryz.pinned (OpenSpec.ofChange topHandlesSpec)

/-- ITS FALSE NEIGHBOUR: 'it returns false'. Refute it at one input. -/
def topHandlesWrong : ChangeSpec := { name := "topHandles", fn := fun _ => fun
  | [d1, d2] => { results := [.lit (.bool false)], args := [d1, d2] }
  | _ => none }
def TopHandlesWrongFalsely : Prop := topHandlesRow.holds Tryz.pinned (OpenSpec.ofChange topHandlesWrong)

/-- 'thickettop.TopFull': WHATEVER THE INPUT: true; the input reads as it did. -/
def topFullSpec : ChangeSpec := { name := "topFull", fn := fun _ => fun
  | [d1, d2, d3] => { results := [.lit (.bool true)], args := [d1, d2, d3] }
  | _ => none }
def topFullRow : OpenClaim := { program := "ytognmhgdegpdiaagreat", sum := "5ff5b2642fee6cce971b129ac77baee1952d67f555c2406a921cc479fa5493c0", func := "thicket/thickettop.TopFull", spec := "topFull", inPlace := ["slices.overlaps[thicket/trees.ranked]"], unfollowed := true, recurses := true, plainKeys := false, apart := false }
def TopFullSaid : Prop := topFullRow.holds Tryz.pinned (OpenSpec.ofChange topFullSpec)

/-- ITS FALSE NEIGHBOUR: 'it returns false'. Refute it at one input. -/
def topFullWrong : ChangeSpec := { name := "topFull", fn := fun _ => fun
  | [d1, d2, d3] => { results := [.lit (.bool false)], args := [d1, d2, d3] }
  | _ => none }
def TopFullWrongFalsely : Prop := topFullRow.holds Tryz.pinned (OpenSpec.ofChange topFullWrong)

/-- 'thickettop.TopLowers': WHATEVER THE INPUT: true; the input reads as it did. -/
def topLowersSpec : ChangeSpec := { name := "topLowers", fn := fun _ => fun
  | [d1, d2, d3, d4] => { results := [.lit (.bool true)], args := [d1, d2, d3, d4] }
  | _ => none }
def topLowersRow : OpenClaim := { program := "ytognmhgdegpdiaagreat", sum := "5ff5b2642fee6cce971b129ac77baee1952d67f555c2406a921cc479fa5493c0", func := "thicket/thickettop.TopLowers", spec := "topLowers", inPlace := ["slices.overlaps[thicket/trees.ranked]"], unfollowed := true, recurses := true, plainKeys := false, apart := false }
def TopLowersSaid : Prop := topLowersRow.holds Tryz.pinned (OpenSpec.ofChange topLowersSpec)

/-- ITS FALSE NEIGHBOUR: 'it returns false'. Refute it at one input. -/
def topLowersWrong : ChangeSpec := { name := "topLowers", fn := fun _ => fun
  | [d1, d2, d3, d4] => { results := [.lit (.bool false)], args := [d1, d2, d3, d4] }
  | _ => none }
def TopLowersWrongFalsely : Prop := topLowersRow.holds Tryz.pinned (OpenSpec.ofChange topLowersWrong)

/-- 'thickettop.TopMelds': WHATEVER THE INPUT: true; the input reads as it did. -/
def topMeldsSpec : ChangeSpec := { name := "topMelds", fn := fun _ => fun
  | [d1, d2, d3] => { results := [.lit (.bool true)], args := [d1, d2, d3] }
  | _ => none }
def topMeldsRow : OpenClaim := { program := "ytognmhgdegpdiaagreat", sum := "5ff5b2642fee6cce971b129ac77baee1952d67f555c2406a921cc479fa5493c0", func := "thicket/thickettop.TopMelds", spec := "topMelds", inPlace := ["slices.overlaps[thicket/trees.ranked]"], unfollowed := true, recurses := true, plainKeys := false, apart := false }
def TopMeldsSaid : Prop := topMeldsRow.holds Tryz.pinned (OpenSpec.ofChange topMeldsSpec)

/-- ITS FALSE NEIGHBOUR: 'it returns false'. Refute it at one input. -/
def topMeldsWrong : ChangeSpec := { name := "topMelds", fn := fun _ => fun
  | [d1, d2, d3] => { results := [.lit (.bool false)], args := [d1, d2, d3] }
  | _ => none }
def TopMeldsWrongFalsely : Prop := topMeldsRow.holds Tryz.pinned (OpenSpec.ofChange topMeldsWrong)

/-- 'thickettop.TopGreat': WHATEVER THE INPUT: true; the input reads as it did. -/
def topGreatSpec : ChangeSpec := { name := "topGreat", fn := fun _ => fun
  | [d1, d2, d3] => { results := [.lit (.bool true)], args := [d1, d2, d3] }
  | _ => none }
def topGreatRow : OpenClaim := { program := "ytognmhgdegpdiaagreat", sum := "5ff5b2642fee6cce971b129ac77baee1952d67f555c2406a921cc479fa5493c0", func := "thicket/thickettop.TopGreat", spec := "topGreat", inPlace := ["slices.overlaps[thicket/trees.ranked]"], unfollowed := true, recurses := true, plainKeys := false, apart := false }
def TopGreatSaid : Prop := topGreatRow.holds Tryz.pinned (OpenSpec.ofChange topGreatSpec)

/-- ITS FALSE NEIGHBOUR: 'it returns false'. Refute it at one input. -/
def topGreatWrong : ChangeSpec := { name := "topGreat", fn := fun _ => fun
  | [d1, d2, d3] => { results := [.lit (.bool false)], args := [d1, d2, d3] }
  | _ => none }
def TopGreatWrongFalsely : Prop := topGreatRow.holds Tryz.pinned (OpenSpec.ofChange topGreatWrong)

/- THE SECOND FORM. 'bulk': how many values and letters a reading holds, each counted each time it is reached (what is shared counts as often as it is met; a slice's spare places count too). A statement '..UptoSaid' is the law's where the arguments, and the package variables that the reading takes, are together of bulk at most 1048576: NARROWER than '..Said'. Prove '..Said' where nothing that the law and all that it calls make is longer than what came in: it says more and counts as full. Else prove '..UptoSaid'. A law counts once. -/
mutual
def uptoBulk {H : Type} : DataW H → Nat
  | .lit (.string bytes) => bytes.length + 1
  | .lit _ => 1
  | .nil => 1
  | .ptr d => uptoBulk d + 1
  | .slice elems spare => uptoBulkAll elems + uptoBulkAll spare + 1
  | .agg parts => uptoBulkAll parts + 1
  | .iface _ d => uptoBulk d + 1
  | .map entries => uptoBulkEntries entries + 1
  | .held _ => 1
def uptoBulkAll {H : Type} : List (DataW H) → Nat
  | [] => 0
  | d :: r => uptoBulk d + uptoBulkAll r
def uptoBulkEntries {H : Type} : List (Lit × DataW H) → Nat
  | [] => 0
  | x :: r => uptoBulkEntry x + uptoBulkEntries r
def uptoBulkEntry {H : Type} : Lit × DataW H → Nat
  | (.string bytes, d) => bytes.length + uptoBulk d + 1
  | (_, d) => uptoBulk d + 1
 end
def uptoSmall : (H : Type) → List (DataW H) → Bool := fun _ ds => decide (uptoBulkAll ds ≤ 1048576)
def OpenSpec.upto (s : _root_.Go.ChangeSpec) : _root_.Go.OpenSpec := { _root_.Go.OpenSpec.ofChange s with cond := some uptoSmall }

/-- 'thickettop.TopSorts', WHERE WHAT IT READS IS OF BULK AT MOST 1048576: true; the input reads as it did. -/
def topSortsUptoRow : OpenClaim := { program := "ytognmhgdegpdiaagreat", sum := "5ff5b2642fee6cce971b129ac77baee1952d67f555c2406a921cc479fa5493c0", func := "thicket/thickettop.TopSorts", spec := "topSorts", inPlace := ["slices.overlaps[thicket/trees.ranked]"], unfollowed := true, recurses := true, plainKeys := false, apart := false, narrowed := true }
def TopSortsUptoSaid : Prop := topSortsUptoRow.holds Tryz.pinned (OpenSpec.upto topSortsSpec)

/-- 'thickettop.TopHandles', WHERE WHAT IT READS IS OF BULK AT MOST 1048576: true; the input reads as it did. -/
def topHandlesUptoRow : OpenClaim := { program := "ytognmhgdegpdiaagreat", sum := "5ff5b2642fee6cce971b129ac77baee1952d67f555c2406a921cc479fa5493c0", func := "thicket/thickettop.TopHandles", spec := "topHandles", inPlace := ["slices.overlaps[thicket/trees.ranked]"], unfollowed := true, recurses := true, plainKeys := false, apart := false, narrowed := true }
def TopHandlesUptoSaid : Prop := topHandlesUptoRow.holds Tryz.pinned (OpenSpec.upto topHandlesSpec)

/-- 'thickettop.TopFull', WHERE WHAT IT READS IS OF BULK AT MOST 1048576: true; the input reads as it did. -/
def topFullUptoRow : OpenClaim := { program := "ytognmhgdegpdiaagreat", sum := "5ff5b2642fee6cce971b129ac77baee1952d67f555c2406a921cc479fa5493c0", func := "thicket/thickettop.TopFull", spec := "topFull", inPlace := ["slices.overlaps[thicket/trees.ranked]"], unfollowed := true, recurses := true, plainKeys := false, apart := false, narrowed := true }
def TopFullUptoSaid : Prop := topFullUptoRow.holds Tryz.pinned (OpenSpec.upto topFullSpec)

/-- 'thickettop.TopLowers', WHERE WHAT IT READS IS OF BULK AT MOST 1048576: true; the input reads as it did. -/
def topLowersUptoRow : OpenClaim := { program := "ytognmhgdegpdiaagreat", sum := "5ff5b2642fee6cce971b129ac77baee1952d67f555c2406a921cc479fa5493c0", func := "thicket/thickettop.TopLowers", spec := "topLowers", inPlace := ["slices.overlaps[thicket/trees.ranked]"], unfollowed := true, recurses := true, plainKeys := false, apart := false, narrowed := true }
def TopLowersUptoSaid : Prop := topLowersUptoRow.holds Tryz.pinned (OpenSpec.upto topLowersSpec)

/-- 'thickettop.TopMelds', WHERE WHAT IT READS IS OF BULK AT MOST 1048576: true; the input reads as it did. -/
def topMeldsUptoRow : OpenClaim := { program := "ytognmhgdegpdiaagreat", sum := "5ff5b2642fee6cce971b129ac77baee1952d67f555c2406a921cc479fa5493c0", func := "thicket/thickettop.TopMelds", spec := "topMelds", inPlace := ["slices.overlaps[thicket/trees.ranked]"], unfollowed := true, recurses := true, plainKeys := false, apart := false, narrowed := true }
def TopMeldsUptoSaid : Prop := topMeldsUptoRow.holds Tryz.pinned (OpenSpec.upto topMeldsSpec)

/-- 'thickettop.TopGreat', WHERE WHAT IT READS IS OF BULK AT MOST 1048576: true; the input reads as it did. -/
def topGreatUptoRow : OpenClaim := { program := "ytognmhgdegpdiaagreat", sum := "5ff5b2642fee6cce971b129ac77baee1952d67f555c2406a921cc479fa5493c0", func := "thicket/thickettop.TopGreat", spec := "topGreat", inPlace := ["slices.overlaps[thicket/trees.ranked]"], unfollowed := true, recurses := true, plainKeys := false, apart := false, narrowed := true }
def TopGreatUptoSaid : Prop := topGreatUptoRow.holds Tryz.pinned (OpenSpec.upto topGreatSpec)

end Rows
end Go.Proofs.YtognmhgdegpdiaaGreat
