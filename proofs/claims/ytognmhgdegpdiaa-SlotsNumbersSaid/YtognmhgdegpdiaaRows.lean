/-
  No cell of these rows narrows 'for every input' (looked for: loops, veiled, ifaces, maps, wideKeys, modest, calm, conditions, laid).
  DERIVED. THE GIVEN ROWS OF THIS SEAT. 4 by the template 'for every input the law returns true; each argument reads behind the call as it read before'; 0 by the template 'total and deterministic' (their statements: YtognmhgdegpdiaaTotals.lean).
  GIVEN WITH THE SEED: the statements are not yours to turn. If you find one false, say at which input.
  Laid BY PROGRAM, IN A SANDBOX (cutbox-rows.mjs): the forced cells as the released guide's own fill.sh prints them over the translation 8adee8c5a4c02f1e… (all of the seat's roots in one cut). By AI agents, Wed Nov 11 2026. No macro, syntax, notation, axiom, sorry.
-/
import Derived.Test.YtognmhgdegpdiaaChecked
import GoSem.Claim
import GoSem.ClaimJoined
import GoSem.ClaimMapViews
import Derived.JoinedTies
import Derived.KernelRfl
namespace Go.Proofs.Ytognmhgdegpdiaa
/- THE CELL 'sum', in the pinned program and in every row, IS THE sha256 OF THE DUMP (.gsa) THAT YtognmhgdegpdiaaProg.lean LOADS. Nothing in Lean hashes anything: it is a label: what it is worth is what the hold of that sum in a sandbox is worth. -/
noncomputable def Try.pinned : Pinned := { name := "ytognmhgdegpdiaa", sum := "8adee8c5a4c02f1e1578446eb251bb14f77ae3e541859008c3cd5cddf6bfe280", checked := Try.checked }
namespace Rows
def none {H : Type} : Left H := { results := [], args := [] }

/-- 'thicketlaw17.SlotsChains': WHATEVER THE INPUT: true; the input reads as it did. -/
def slotsChainsSpec : ChangeSpec := { name := "slotsChains", fn := fun _ => fun
  | [d] => { results := [.lit (.bool true)], args := [d] }
  | _ => none }
def slotsChainsRow : OpenClaim := { program := "ytognmhgdegpdiaa", sum := "8adee8c5a4c02f1e1578446eb251bb14f77ae3e541859008c3cd5cddf6bfe280", func := "thicket/thicketlaw17.SlotsChains", spec := "slotsChains", apart := false }
def SlotsChainsSaid : Prop := slotsChainsRow.holds Try.pinned (OpenSpec.ofChange slotsChainsSpec)

/-- ITS FALSE NEIGHBOUR: 'it returns false'. Refute it at one input. -/
def slotsChainsWrong : ChangeSpec := { name := "slotsChains", fn := fun _ => fun
  | [d] => { results := [.lit (.bool false)], args := [d] }
  | _ => none }
def SlotsChainsWrongFalsely : Prop := slotsChainsRow.holds Try.pinned (OpenSpec.ofChange slotsChainsWrong)

/-- 'thicketlaw17.SlotsStale': WHATEVER THE INPUT: true; the input reads as it did. -/
def slotsStaleSpec : ChangeSpec := { name := "slotsStale", fn := fun _ => fun
  | [d1, d2, d3] => { results := [.lit (.bool true)], args := [d1, d2, d3] }
  | _ => none }
def slotsStaleRow : OpenClaim := { program := "ytognmhgdegpdiaa", sum := "8adee8c5a4c02f1e1578446eb251bb14f77ae3e541859008c3cd5cddf6bfe280", func := "thicket/thicketlaw17.SlotsStale", spec := "slotsStale", apart := false }
def SlotsStaleSaid : Prop := slotsStaleRow.holds Try.pinned (OpenSpec.ofChange slotsStaleSpec)

/-- ITS FALSE NEIGHBOUR: 'it returns false'. Refute it at one input. -/
def slotsStaleWrong : ChangeSpec := { name := "slotsStale", fn := fun _ => fun
  | [d1, d2, d3] => { results := [.lit (.bool false)], args := [d1, d2, d3] }
  | _ => none }
def SlotsStaleWrongFalsely : Prop := slotsStaleRow.holds Try.pinned (OpenSpec.ofChange slotsStaleWrong)

/-- 'thicketlaw17.SlotsNumbers': WHATEVER THE INPUT: true; the input reads as it did. -/
def slotsNumbersSpec : ChangeSpec := { name := "slotsNumbers", fn := fun _ => fun
  | [] => { results := [.lit (.bool true)], args := [] }
  | _ => none }
def slotsNumbersRow : OpenClaim := { program := "ytognmhgdegpdiaa", sum := "8adee8c5a4c02f1e1578446eb251bb14f77ae3e541859008c3cd5cddf6bfe280", func := "thicket/thicketlaw17.SlotsNumbers", spec := "slotsNumbers", apart := false }
def SlotsNumbersSaid : Prop := slotsNumbersRow.holds Try.pinned (OpenSpec.ofChange slotsNumbersSpec)

/-- ITS FALSE NEIGHBOUR: 'it returns false'. Refute it at one input. -/
def slotsNumbersWrong : ChangeSpec := { name := "slotsNumbers", fn := fun _ => fun
  | [] => { results := [.lit (.bool false)], args := [] }
  | _ => none }
def SlotsNumbersWrongFalsely : Prop := slotsNumbersRow.holds Try.pinned (OpenSpec.ofChange slotsNumbersWrong)

/-- 'thicketlaw17.SlotsPlays': WHATEVER THE INPUT: true; the input reads as it did. -/
def slotsPlaysSpec : ChangeSpec := { name := "slotsPlays", fn := fun _ => fun
  | [d1, d2] => { results := [.lit (.bool true)], args := [d1, d2] }
  | _ => none }
def slotsPlaysRow : OpenClaim := { program := "ytognmhgdegpdiaa", sum := "8adee8c5a4c02f1e1578446eb251bb14f77ae3e541859008c3cd5cddf6bfe280", func := "thicket/thicketlaw17.SlotsPlays", spec := "slotsPlays", apart := false }
def SlotsPlaysSaid : Prop := slotsPlaysRow.holds Try.pinned (OpenSpec.ofChange slotsPlaysSpec)

/-- ITS FALSE NEIGHBOUR: 'it returns false'. Refute it at one input. -/
def slotsPlaysWrong : ChangeSpec := { name := "slotsPlays", fn := fun _ => fun
  | [d1, d2] => { results := [.lit (.bool false)], args := [d1, d2] }
  | _ => none }
def SlotsPlaysWrongFalsely : Prop := slotsPlaysRow.holds Try.pinned (OpenSpec.ofChange slotsPlaysWrong)

/- THE SECOND FORM. 'bulk': how many values and letters a reading holds, each counted each time it is reached (what is shared counts as often as it is met; a slice's spare places count too). A statement '..UptoSaid' is the law's where the arguments, and the package variables that the reading takes, are together of bulk at most 1048576: NARROWER than '..Said'. Prove '..Said' where nothing that the law and all that it calls make is longer than what came in: it says more and counts as full. Else prove '..UptoSaid'. A law counts once. -/
mutual
def uptoBulk {H : Type} : DataW H → Nat
  | .lit (.string bytes) => bytes.length + 1
  | .lit _ => 1
  | .nil => 1
  | .ptr d => uptoBulk d + 1
  | .slice elems spare => uptoBulkAll elems + uptoBulkAll spare + 1
  | .agg parts => uptoBulkAll parts + 1
  | .iface _ d => uptoBulk d + 1
  | .map entries => uptoBulkEntries entries + 1
  | .held _ => 1
def uptoBulkAll {H : Type} : List (DataW H) → Nat
  | [] => 0
  | d :: r => uptoBulk d + uptoBulkAll r
def uptoBulkEntries {H : Type} : List (Lit × DataW H) → Nat
  | [] => 0
  | x :: r => uptoBulkEntry x + uptoBulkEntries r
def uptoBulkEntry {H : Type} : Lit × DataW H → Nat
  | (.string bytes, d) => bytes.length + uptoBulk d + 1
  | (_, d) => uptoBulk d + 1
 end
def uptoSmall : (H : Type) → List (DataW H) → Bool := fun _ ds => decide (uptoBulkAll ds ≤ 1048576)
def OpenSpec.upto (s : _root_.Go.ChangeSpec) : _root_.Go.OpenSpec := { _root_.Go.OpenSpec.ofChange s with cond := some uptoSmall }

/-- 'thicketlaw17.SlotsChains', WHERE WHAT IT READS IS OF BULK AT MOST 1048576: true; the input reads as it did. -/
def slotsChainsUptoRow : OpenClaim := { program := "ytognmhgdegpdiaa", sum := "8adee8c5a4c02f1e1578446eb251bb14f77ae3e541859008c3cd5cddf6bfe280", func := "thicket/thicketlaw17.SlotsChains", spec := "slotsChains", apart := false, narrowed := true }
def SlotsChainsUptoSaid : Prop := slotsChainsUptoRow.holds Try.pinned (OpenSpec.upto slotsChainsSpec)

/-- 'thicketlaw17.SlotsStale', WHERE WHAT IT READS IS OF BULK AT MOST 1048576: true; the input reads as it did. -/
def slotsStaleUptoRow : OpenClaim := { program := "ytognmhgdegpdiaa", sum := "8adee8c5a4c02f1e1578446eb251bb14f77ae3e541859008c3cd5cddf6bfe280", func := "thicket/thicketlaw17.SlotsStale", spec := "slotsStale", apart := false, narrowed := true }
def SlotsStaleUptoSaid : Prop := slotsStaleUptoRow.holds Try.pinned (OpenSpec.upto slotsStaleSpec)

/-- 'thicketlaw17.SlotsNumbers', WHERE WHAT IT READS IS OF BULK AT MOST 1048576: true; the input reads as it did. -/
def slotsNumbersUptoRow : OpenClaim := { program := "ytognmhgdegpdiaa", sum := "8adee8c5a4c02f1e1578446eb251bb14f77ae3e541859008c3cd5cddf6bfe280", func := "thicket/thicketlaw17.SlotsNumbers", spec := "slotsNumbers", apart := false, narrowed := true }
def SlotsNumbersUptoSaid : Prop := slotsNumbersUptoRow.holds Try.pinned (OpenSpec.upto slotsNumbersSpec)

/-- 'thicketlaw17.SlotsPlays', WHERE WHAT IT READS IS OF BULK AT MOST 1048576: true; the input reads as it did. -/
def slotsPlaysUptoRow : OpenClaim := { program := "ytognmhgdegpdiaa", sum := "8adee8c5a4c02f1e1578446eb251bb14f77ae3e541859008c3cd5cddf6bfe280", func := "thicket/thicketlaw17.SlotsPlays", spec := "slotsPlays", apart := false, narrowed := true }
def SlotsPlaysUptoSaid : Prop := slotsPlaysUptoRow.holds Try.pinned (OpenSpec.upto slotsPlaysSpec)

end Rows
end Go.Proofs.Ytognmhgdegpdiaa
