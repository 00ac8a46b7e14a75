import Derived.Test.YtognmhgdegpdiaaGreatSlotsR
import Derived.Test.YtognmhgdegpdiaaGreatPoolER
/- The table of slots: what each method does; List. -/
namespace Go.Proofs.YtognmhgdegpdiaaGreat
open Go.RowKit
open Go.Maps (Keyed)
set_option linter.unusedVariables false
set_option linter.unusedSimpArgs false
set_option maxRecDepth 100000
end Go.Proofs.YtognmhgdegpdiaaGreat
