/-
  No cell of these rows narrows 'for every input' (looked for: loops, veiled, ifaces, maps, wideKeys, modest, calm, conditions, laid).
  DERIVED. THE GIVEN ROWS OF THIS SEAT. 11 by the template 'for every input the law returns true; each argument reads behind the call as it read before'; 0 by the template 'total and deterministic' (their statements: YtjabofofofddbaaTotals.lean).
  GIVEN WITH THE SEED: the statements are not yours to turn. If you find one false, say at which input.
  Laid BY PROGRAM, IN A SANDBOX (cutbox-rows.mjs): the forced cells as the released guide's own fill.sh prints them over the translation d65d021895be724b… (all of the seat's roots in one cut). By AI agents, Wed Nov 11 2026. No macro, syntax, notation, axiom, sorry.
-/
import Derived.Test.YtjabofofofddbaaChecked
import GoSem.Claim
import GoSem.ClaimJoined
import GoSem.ClaimMapViews
import Derived.JoinedTies
import Derived.KernelRfl
namespace Go.Proofs.Ytjabofofofddbaa
/- THE CELL 'sum', in the pinned program and in every row, IS THE sha256 OF THE DUMP (.gsa) THAT YtjabofofofddbaaProg.lean LOADS. Nothing in Lean hashes anything: it is a label: what it is worth is what the hold of that sum in a sandbox is worth. -/
noncomputable def Try.pinned : Pinned := { name := "ytjabofofofddbaa", sum := "d65d021895be724b69dfbb0ff1db4bb21f642a5ce05986d141a4bb85d22d6a30", checked := Try.checked }
namespace Rows
def none {H : Type} : Left H := { results := [], args := [] }

/-- 'thicketlaw3.RingWraps': WHATEVER THE INPUT: true; the input reads as it did. -/
def ringWrapsSpec : ChangeSpec := { name := "ringWraps", fn := fun _ => fun
  | [d1, d2] => { results := [.lit (.bool true)], args := [d1, d2] }
  | _ => none }
def ringWrapsRow : OpenClaim := { program := "ytjabofofofddbaa", sum := "d65d021895be724b69dfbb0ff1db4bb21f642a5ce05986d141a4bb85d22d6a30", func := "thicket/thicketlaw3.RingWraps", spec := "ringWraps", plainKeys := false, apart := false }
def RingWrapsSaid : Prop := ringWrapsRow.holds Try.pinned (OpenSpec.ofChange ringWrapsSpec)

/-- ITS FALSE NEIGHBOUR: 'it returns false'. Refute it at one input. -/
def ringWrapsWrong : ChangeSpec := { name := "ringWraps", fn := fun _ => fun
  | [d1, d2] => { results := [.lit (.bool false)], args := [d1, d2] }
  | _ => none }
def RingWrapsWrongFalsely : Prop := ringWrapsRow.holds Try.pinned (OpenSpec.ofChange ringWrapsWrong)

/-- 'thicketlaw3.RingOrder': WHATEVER THE INPUT: true; the input reads as it did. -/
def ringOrderSpec : ChangeSpec := { name := "ringOrder", fn := fun _ => fun
  | [d1, d2, d3] => { results := [.lit (.bool true)], args := [d1, d2, d3] }
  | _ => none }
def ringOrderRow : OpenClaim := { program := "ytjabofofofddbaa", sum := "d65d021895be724b69dfbb0ff1db4bb21f642a5ce05986d141a4bb85d22d6a30", func := "thicket/thicketlaw3.RingOrder", spec := "ringOrder", plainKeys := false, apart := false }
def RingOrderSaid : Prop := ringOrderRow.holds Try.pinned (OpenSpec.ofChange ringOrderSpec)

/-- ITS FALSE NEIGHBOUR: 'it returns false'. Refute it at one input. -/
def ringOrderWrong : ChangeSpec := { name := "ringOrder", fn := fun _ => fun
  | [d1, d2, d3] => { results := [.lit (.bool false)], args := [d1, d2, d3] }
  | _ => none }
def RingOrderWrongFalsely : Prop := ringOrderRow.holds Try.pinned (OpenSpec.ofChange ringOrderWrong)

/-- 'thicketlaw3.RingNumbers': WHATEVER THE INPUT: true; the input reads as it did. -/
def ringNumbersSpec : ChangeSpec := { name := "ringNumbers", fn := fun _ => fun
  | [] => { results := [.lit (.bool true)], args := [] }
  | _ => none }
def ringNumbersRow : OpenClaim := { program := "ytjabofofofddbaa", sum := "d65d021895be724b69dfbb0ff1db4bb21f642a5ce05986d141a4bb85d22d6a30", func := "thicket/thicketlaw3.RingNumbers", spec := "ringNumbers", plainKeys := false, apart := false }
def RingNumbersSaid : Prop := ringNumbersRow.holds Try.pinned (OpenSpec.ofChange ringNumbersSpec)

/-- ITS FALSE NEIGHBOUR: 'it returns false'. Refute it at one input. -/
def ringNumbersWrong : ChangeSpec := { name := "ringNumbers", fn := fun _ => fun
  | [] => { results := [.lit (.bool false)], args := [] }
  | _ => none }
def RingNumbersWrongFalsely : Prop := ringNumbersRow.holds Try.pinned (OpenSpec.ofChange ringNumbersWrong)

/-- 'thicketlaw3.RingPlays': WHATEVER THE INPUT: true; the input reads as it did. -/
def ringPlaysSpec : ChangeSpec := { name := "ringPlays", fn := fun _ => fun
  | [d1, d2] => { results := [.lit (.bool true)], args := [d1, d2] }
  | _ => none }
def ringPlaysRow : OpenClaim := { program := "ytjabofofofddbaa", sum := "d65d021895be724b69dfbb0ff1db4bb21f642a5ce05986d141a4bb85d22d6a30", func := "thicket/thicketlaw3.RingPlays", spec := "ringPlays", plainKeys := false, apart := false }
def RingPlaysSaid : Prop := ringPlaysRow.holds Try.pinned (OpenSpec.ofChange ringPlaysSpec)

/-- ITS FALSE NEIGHBOUR: 'it returns false'. Refute it at one input. -/
def ringPlaysWrong : ChangeSpec := { name := "ringPlays", fn := fun _ => fun
  | [d1, d2] => { results := [.lit (.bool false)], args := [d1, d2] }
  | _ => none }
def RingPlaysWrongFalsely : Prop := ringPlaysRow.holds Try.pinned (OpenSpec.ofChange ringPlaysWrong)

/-- 'thicketlaw2.PoolLives': WHATEVER THE INPUT: true; the input reads as it did. -/
def poolLivesSpec : ChangeSpec := { name := "poolLives", fn := fun _ => fun
  | [d] => { results := [.lit (.bool true)], args := [d] }
  | _ => none }
def poolLivesRow : OpenClaim := { program := "ytjabofofofddbaa", sum := "d65d021895be724b69dfbb0ff1db4bb21f642a5ce05986d141a4bb85d22d6a30", func := "thicket/thicketlaw2.PoolLives", spec := "poolLives", plainKeys := false, apart := false }
def PoolLivesSaid : Prop := poolLivesRow.holds Try.pinned (OpenSpec.ofChange poolLivesSpec)

/-- ITS FALSE NEIGHBOUR: 'it returns false'. Refute it at one input. -/
def poolLivesWrong : ChangeSpec := { name := "poolLives", fn := fun _ => fun
  | [d] => { results := [.lit (.bool false)], args := [d] }
  | _ => none }
def PoolLivesWrongFalsely : Prop := poolLivesRow.holds Try.pinned (OpenSpec.ofChange poolLivesWrong)

/-- 'thicketlaw2.PoolFills': WHATEVER THE INPUT: true; the input reads as it did. -/
def poolFillsSpec : ChangeSpec := { name := "poolFills", fn := fun _ => fun
  | [d1, d2] => { results := [.lit (.bool true)], args := [d1, d2] }
  | _ => none }
def poolFillsRow : OpenClaim := { program := "ytjabofofofddbaa", sum := "d65d021895be724b69dfbb0ff1db4bb21f642a5ce05986d141a4bb85d22d6a30", func := "thicket/thicketlaw2.PoolFills", spec := "poolFills", plainKeys := false, apart := false }
def PoolFillsSaid : Prop := poolFillsRow.holds Try.pinned (OpenSpec.ofChange poolFillsSpec)

/-- ITS FALSE NEIGHBOUR: 'it returns false'. Refute it at one input. -/
def poolFillsWrong : ChangeSpec := { name := "poolFills", fn := fun _ => fun
  | [d1, d2] => { results := [.lit (.bool false)], args := [d1, d2] }
  | _ => none }
def PoolFillsWrongFalsely : Prop := poolFillsRow.holds Try.pinned (OpenSpec.ofChange poolFillsWrong)

/-- 'thicketlaw2.PoolNumbers': WHATEVER THE INPUT: true; the input reads as it did. -/
def poolNumbersSpec : ChangeSpec := { name := "poolNumbers", fn := fun _ => fun
  | [] => { results := [.lit (.bool true)], args := [] }
  | _ => none }
def poolNumbersRow : OpenClaim := { program := "ytjabofofofddbaa", sum := "d65d021895be724b69dfbb0ff1db4bb21f642a5ce05986d141a4bb85d22d6a30", func := "thicket/thicketlaw2.PoolNumbers", spec := "poolNumbers", plainKeys := false, apart := false }
def PoolNumbersSaid : Prop := poolNumbersRow.holds Try.pinned (OpenSpec.ofChange poolNumbersSpec)

/-- ITS FALSE NEIGHBOUR: 'it returns false'. Refute it at one input. -/
def poolNumbersWrong : ChangeSpec := { name := "poolNumbers", fn := fun _ => fun
  | [] => { results := [.lit (.bool false)], args := [] }
  | _ => none }
def PoolNumbersWrongFalsely : Prop := poolNumbersRow.holds Try.pinned (OpenSpec.ofChange poolNumbersWrong)

/-- 'thicketlaw2.PoolPlays': WHATEVER THE INPUT: true; the input reads as it did. -/
def poolPlaysSpec : ChangeSpec := { name := "poolPlays", fn := fun _ => fun
  | [d1, d2] => { results := [.lit (.bool true)], args := [d1, d2] }
  | _ => none }
def poolPlaysRow : OpenClaim := { program := "ytjabofofofddbaa", sum := "d65d021895be724b69dfbb0ff1db4bb21f642a5ce05986d141a4bb85d22d6a30", func := "thicket/thicketlaw2.PoolPlays", spec := "poolPlays", plainKeys := false, apart := false }
def PoolPlaysSaid : Prop := poolPlaysRow.holds Try.pinned (OpenSpec.ofChange poolPlaysSpec)

/-- ITS FALSE NEIGHBOUR: 'it returns false'. Refute it at one input. -/
def poolPlaysWrong : ChangeSpec := { name := "poolPlays", fn := fun _ => fun
  | [d1, d2] => { results := [.lit (.bool false)], args := [d1, d2] }
  | _ => none }
def PoolPlaysWrongFalsely : Prop := poolPlaysRow.holds Try.pinned (OpenSpec.ofChange poolPlaysWrong)

/-- 'thicketlaw21.JobsFind': WHATEVER THE INPUT: true; the input reads as it did. -/
def jobsFindSpec : ChangeSpec := { name := "jobsFind", fn := fun _ => fun
  | [d1, d2] => { results := [.lit (.bool true)], args := [d1, d2] }
  | _ => none }
def jobsFindRow : OpenClaim := { program := "ytjabofofofddbaa", sum := "d65d021895be724b69dfbb0ff1db4bb21f642a5ce05986d141a4bb85d22d6a30", func := "thicket/thicketlaw21.JobsFind", spec := "jobsFind", plainKeys := false, apart := false }
def JobsFindSaid : Prop := jobsFindRow.holds Try.pinned (OpenSpec.ofChange jobsFindSpec)

/-- ITS FALSE NEIGHBOUR: 'it returns false'. Refute it at one input. -/
def jobsFindWrong : ChangeSpec := { name := "jobsFind", fn := fun _ => fun
  | [d1, d2] => { results := [.lit (.bool false)], args := [d1, d2] }
  | _ => none }
def JobsFindWrongFalsely : Prop := jobsFindRow.holds Try.pinned (OpenSpec.ofChange jobsFindWrong)

/-- 'thicketlaw21.JobsNumbers': WHATEVER THE INPUT: true; the input reads as it did. -/
def jobsNumbersSpec : ChangeSpec := { name := "jobsNumbers", fn := fun _ => fun
  | [] => { results := [.lit (.bool true)], args := [] }
  | _ => none }
def jobsNumbersRow : OpenClaim := { program := "ytjabofofofddbaa", sum := "d65d021895be724b69dfbb0ff1db4bb21f642a5ce05986d141a4bb85d22d6a30", func := "thicket/thicketlaw21.JobsNumbers", spec := "jobsNumbers", plainKeys := false, apart := false }
def JobsNumbersSaid : Prop := jobsNumbersRow.holds Try.pinned (OpenSpec.ofChange jobsNumbersSpec)

/-- ITS FALSE NEIGHBOUR: 'it returns false'. Refute it at one input. -/
def jobsNumbersWrong : ChangeSpec := { name := "jobsNumbers", fn := fun _ => fun
  | [] => { results := [.lit (.bool false)], args := [] }
  | _ => none }
def JobsNumbersWrongFalsely : Prop := jobsNumbersRow.holds Try.pinned (OpenSpec.ofChange jobsNumbersWrong)

/-- 'thicketlaw21.JobsPlays': WHATEVER THE INPUT: true; the input reads as it did. -/
def jobsPlaysSpec : ChangeSpec := { name := "jobsPlays", fn := fun _ => fun
  | [d1, d2] => { results := [.lit (.bool true)], args := [d1, d2] }
  | _ => none }
def jobsPlaysRow : OpenClaim := { program := "ytjabofofofddbaa", sum := "d65d021895be724b69dfbb0ff1db4bb21f642a5ce05986d141a4bb85d22d6a30", func := "thicket/thicketlaw21.JobsPlays", spec := "jobsPlays", plainKeys := false, apart := false }
def JobsPlaysSaid : Prop := jobsPlaysRow.holds Try.pinned (OpenSpec.ofChange jobsPlaysSpec)

/-- ITS FALSE NEIGHBOUR: 'it returns false'. Refute it at one input. -/
def jobsPlaysWrong : ChangeSpec := { name := "jobsPlays", fn := fun _ => fun
  | [d1, d2] => { results := [.lit (.bool false)], args := [d1, d2] }
  | _ => none }
def JobsPlaysWrongFalsely : Prop := jobsPlaysRow.holds Try.pinned (OpenSpec.ofChange jobsPlaysWrong)

/- THE SECOND FORM. 'bulk': how many values and letters a reading holds, each counted each time it is reached (what is shared counts as often as it is met; a slice's spare places count too). A statement '..UptoSaid' is the law's where the arguments, and the package variables that the reading takes, are together of bulk at most 1048576: NARROWER than '..Said'. Prove '..Said' where nothing that the law and all that it calls make is longer than what came in: it says more and counts as full. Else prove '..UptoSaid'. A law counts once. -/
mutual
def uptoBulk {H : Type} : DataW H → Nat
  | .lit (.string bytes) => bytes.length + 1
  | .lit _ => 1
  | .nil => 1
  | .ptr d => uptoBulk d + 1
  | .slice elems spare => uptoBulkAll elems + uptoBulkAll spare + 1
  | .agg parts => uptoBulkAll parts + 1
  | .iface _ d => uptoBulk d + 1
  | .map entries => uptoBulkEntries entries + 1
  | .held _ => 1
def uptoBulkAll {H : Type} : List (DataW H) → Nat
  | [] => 0
  | d :: r => uptoBulk d + uptoBulkAll r
def uptoBulkEntries {H : Type} : List (Lit × DataW H) → Nat
  | [] => 0
  | x :: r => uptoBulkEntry x + uptoBulkEntries r
def uptoBulkEntry {H : Type} : Lit × DataW H → Nat
  | (.string bytes, d) => bytes.length + uptoBulk d + 1
  | (_, d) => uptoBulk d + 1
 end
def uptoSmall : (H : Type) → List (DataW H) → Bool := fun _ ds => decide (uptoBulkAll ds ≤ 1048576)
def OpenSpec.upto (s : _root_.Go.ChangeSpec) : _root_.Go.OpenSpec := { _root_.Go.OpenSpec.ofChange s with cond := some uptoSmall }

/-- 'thicketlaw3.RingWraps', WHERE WHAT IT READS IS OF BULK AT MOST 1048576: true; the input reads as it did. -/
def ringWrapsUptoRow : OpenClaim := { program := "ytjabofofofddbaa", sum := "d65d021895be724b69dfbb0ff1db4bb21f642a5ce05986d141a4bb85d22d6a30", func := "thicket/thicketlaw3.RingWraps", spec := "ringWraps", plainKeys := false, apart := false, narrowed := true }
def RingWrapsUptoSaid : Prop := ringWrapsUptoRow.holds Try.pinned (OpenSpec.upto ringWrapsSpec)

/-- 'thicketlaw3.RingOrder', WHERE WHAT IT READS IS OF BULK AT MOST 1048576: true; the input reads as it did. -/
def ringOrderUptoRow : OpenClaim := { program := "ytjabofofofddbaa", sum := "d65d021895be724b69dfbb0ff1db4bb21f642a5ce05986d141a4bb85d22d6a30", func := "thicket/thicketlaw3.RingOrder", spec := "ringOrder", plainKeys := false, apart := false, narrowed := true }
def RingOrderUptoSaid : Prop := ringOrderUptoRow.holds Try.pinned (OpenSpec.upto ringOrderSpec)

/-- 'thicketlaw3.RingNumbers', WHERE WHAT IT READS IS OF BULK AT MOST 1048576: true; the input reads as it did. -/
def ringNumbersUptoRow : OpenClaim := { program := "ytjabofofofddbaa", sum := "d65d021895be724b69dfbb0ff1db4bb21f642a5ce05986d141a4bb85d22d6a30", func := "thicket/thicketlaw3.RingNumbers", spec := "ringNumbers", plainKeys := false, apart := false, narrowed := true }
def RingNumbersUptoSaid : Prop := ringNumbersUptoRow.holds Try.pinned (OpenSpec.upto ringNumbersSpec)

/-- 'thicketlaw3.RingPlays', WHERE WHAT IT READS IS OF BULK AT MOST 1048576: true; the input reads as it did. -/
def ringPlaysUptoRow : OpenClaim := { program := "ytjabofofofddbaa", sum := "d65d021895be724b69dfbb0ff1db4bb21f642a5ce05986d141a4bb85d22d6a30", func := "thicket/thicketlaw3.RingPlays", spec := "ringPlays", plainKeys := false, apart := false, narrowed := true }
def RingPlaysUptoSaid : Prop := ringPlaysUptoRow.holds Try.pinned (OpenSpec.upto ringPlaysSpec)

/-- 'thicketlaw2.PoolLives', WHERE WHAT IT READS IS OF BULK AT MOST 1048576: true; the input reads as it did. -/
def poolLivesUptoRow : OpenClaim := { program := "ytjabofofofddbaa", sum := "d65d021895be724b69dfbb0ff1db4bb21f642a5ce05986d141a4bb85d22d6a30", func := "thicket/thicketlaw2.PoolLives", spec := "poolLives", plainKeys := false, apart := false, narrowed := true }
def PoolLivesUptoSaid : Prop := poolLivesUptoRow.holds Try.pinned (OpenSpec.upto poolLivesSpec)

/-- 'thicketlaw2.PoolFills', WHERE WHAT IT READS IS OF BULK AT MOST 1048576: true; the input reads as it did. -/
def poolFillsUptoRow : OpenClaim := { program := "ytjabofofofddbaa", sum := "d65d021895be724b69dfbb0ff1db4bb21f642a5ce05986d141a4bb85d22d6a30", func := "thicket/thicketlaw2.PoolFills", spec := "poolFills", plainKeys := false, apart := false, narrowed := true }
def PoolFillsUptoSaid : Prop := poolFillsUptoRow.holds Try.pinned (OpenSpec.upto poolFillsSpec)

/-- 'thicketlaw2.PoolNumbers', WHERE WHAT IT READS IS OF BULK AT MOST 1048576: true; the input reads as it did. -/
def poolNumbersUptoRow : OpenClaim := { program := "ytjabofofofddbaa", sum := "d65d021895be724b69dfbb0ff1db4bb21f642a5ce05986d141a4bb85d22d6a30", func := "thicket/thicketlaw2.PoolNumbers", spec := "poolNumbers", plainKeys := false, apart := false, narrowed := true }
def PoolNumbersUptoSaid : Prop := poolNumbersUptoRow.holds Try.pinned (OpenSpec.upto poolNumbersSpec)

/-- 'thicketlaw2.PoolPlays', WHERE WHAT IT READS IS OF BULK AT MOST 1048576: true; the input reads as it did. -/
def poolPlaysUptoRow : OpenClaim := { program := "ytjabofofofddbaa", sum := "d65d021895be724b69dfbb0ff1db4bb21f642a5ce05986d141a4bb85d22d6a30", func := "thicket/thicketlaw2.PoolPlays", spec := "poolPlays", plainKeys := false, apart := false, narrowed := true }
def PoolPlaysUptoSaid : Prop := poolPlaysUptoRow.holds Try.pinned (OpenSpec.upto poolPlaysSpec)

/-- 'thicketlaw21.JobsFind', WHERE WHAT IT READS IS OF BULK AT MOST 1048576: true; the input reads as it did. -/
def jobsFindUptoRow : OpenClaim := { program := "ytjabofofofddbaa", sum := "d65d021895be724b69dfbb0ff1db4bb21f642a5ce05986d141a4bb85d22d6a30", func := "thicket/thicketlaw21.JobsFind", spec := "jobsFind", plainKeys := false, apart := false, narrowed := true }
def JobsFindUptoSaid : Prop := jobsFindUptoRow.holds Try.pinned (OpenSpec.upto jobsFindSpec)

/-- 'thicketlaw21.JobsNumbers', WHERE WHAT IT READS IS OF BULK AT MOST 1048576: true; the input reads as it did. -/
def jobsNumbersUptoRow : OpenClaim := { program := "ytjabofofofddbaa", sum := "d65d021895be724b69dfbb0ff1db4bb21f642a5ce05986d141a4bb85d22d6a30", func := "thicket/thicketlaw21.JobsNumbers", spec := "jobsNumbers", plainKeys := false, apart := false, narrowed := true }
def JobsNumbersUptoSaid : Prop := jobsNumbersUptoRow.holds Try.pinned (OpenSpec.upto jobsNumbersSpec)

/-- 'thicketlaw21.JobsPlays', WHERE WHAT IT READS IS OF BULK AT MOST 1048576: true; the input reads as it did. -/
def jobsPlaysUptoRow : OpenClaim := { program := "ytjabofofofddbaa", sum := "d65d021895be724b69dfbb0ff1db4bb21f642a5ce05986d141a4bb85d22d6a30", func := "thicket/thicketlaw21.JobsPlays", spec := "jobsPlays", plainKeys := false, apart := false, narrowed := true }
def JobsPlaysUptoSaid : Prop := jobsPlaysUptoRow.holds Try.pinned (OpenSpec.upto jobsPlaysSpec)

end Rows
end Go.Proofs.Ytjabofofofddbaa
