import Derived.Test.YtognmhgdegpdiaaGreatRefPool
/- Which places are taken, in a row: plain; and Same of two rows of Refs. -/
namespace Go.Proofs.YtognmhgdegpdiaaGreat
open Go.RowKit
set_option linter.unusedVariables false
set_option linter.unusedSimpArgs false
set_option maxRecDepth 100000
end Go.Proofs.YtognmhgdegpdiaaGreat
