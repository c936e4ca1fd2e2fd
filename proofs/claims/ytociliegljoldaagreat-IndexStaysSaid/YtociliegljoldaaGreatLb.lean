/- Laws over trees: the common part. -/
import Derived.Test.YtociliegljoldaaGreatPQ
import Derived.Test.YtociliegljoldaaGreatRR
import Derived.Test.YtociliegljoldaaGreatRows
namespace Go.Proofs.YtociliegljoldaaGreat
set_option linter.unusedSimpArgs false
set_option linter.unusedVariables false
open Go.Proofs Go.ChangeShapes Go.WideShapes Go.ChangeAt Go.RowKit
set_option maxRecDepth 100000
theorem own_knob : ownKnob Tryz.prog.godebug = none := by kernel_rfl
theorem laid_out : laidOutB Tryz.prog = true := by kernel_rfl
end Go.Proofs.YtociliegljoldaaGreat
