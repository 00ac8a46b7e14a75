import Derived.Test.YtognmhgdegpdiaaGreatPoolACV
import Derived.Test.YtognmhgdegpdiaaGreatPoolAll
/- Tables of jobs as plain data: counting, moving. -/
namespace Go.Proofs.YtognmhgdegpdiaaGreat
open Go.RowKit
set_option linter.unusedVariables false
set_option linter.unusedSimpArgs false
def shape {α : Type} (s : PSt α) : List (Int × Bool) := s.l.map fun x => (x.gen, x.taken)
end Go.Proofs.YtognmhgdegpdiaaGreat
