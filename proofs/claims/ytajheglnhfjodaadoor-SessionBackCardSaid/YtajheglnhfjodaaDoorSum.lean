/- The walks of the package sum. No condition. -/
import Derived.Test.YtajheglnhfjodaaDoorCrc
import Derived.Test.YtajheglnhfjodaaDoorMem
import Derived.WalkKit
import Derived.WalkSpells
import Derived.WalkLawsBesides
import Derived.Lib.Hide
namespace Go.Proofs.YtajheglnhfjodaaDoor
set_option linter.unusedVariables false
open Go.RowKit

end Go.Proofs.YtajheglnhfjodaaDoor
