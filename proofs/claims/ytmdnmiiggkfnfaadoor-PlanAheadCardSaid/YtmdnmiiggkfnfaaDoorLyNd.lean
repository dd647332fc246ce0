/- Contracts of slices.Concat of two rows of Needs, and of table.Needs. -/
import Derived.Test.YtmdnmiiggkfnfaaDoorLyCat
set_option linter.unusedVariables false
set_option linter.unusedSimpArgs false
namespace Go.Proofs.YtmdnmiiggkfnfaaDoor
open Go.RowKit

end Go.Proofs.YtmdnmiiggkfnfaaDoor
