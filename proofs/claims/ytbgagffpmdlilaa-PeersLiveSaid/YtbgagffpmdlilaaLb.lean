/- Laws over trees: the common part. -/
import Derived.Test.YtbgagffpmdlilaaPQ
import Derived.Test.YtbgagffpmdlilaaRR
import Derived.Test.YtbgagffpmdlilaaRows
namespace Go.Proofs.Ytbgagffpmdlilaa
set_option linter.unusedSimpArgs false
set_option linter.unusedVariables false
open Go.Proofs Go.ChangeShapes Go.WideShapes Go.ChangeAt Go.RowKit
set_option maxRecDepth 100000
theorem treeLoadK (t : Tr) (ht : t.kinds.length = 12) (K : V → Prop) : loadL Try.prog 25 (t.kinds.map I64 ++ [t.es]) 0 K = K t.v := by
  rw [loadL_a kd25, ce25, List.drop_zero, List.take_of_length_le (by simp [ht])]
  simp [ht]
theorem own_knob : ownKnob Try.prog.godebug = none := by kernel_rfl
theorem laid_out : laidOutB Try.prog = true := by kernel_rfl
end Go.Proofs.Ytbgagffpmdlilaa
