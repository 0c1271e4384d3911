/- What the rows' proofs need of the program. -/
import Derived.Test.YtodgnegbaigdbaaRows
import Derived.Test.YtodgnegbaigdbaaCe
import Derived.Test.YtodgnegbaigdbaaSxRow
namespace Go.Proofs.Ytodgnegbaigdbaa
open Go Go.SX Go.Proofs Go.ChangeShapes Go.WideShapes Go.ChangeAt Go.RowKit
set_option maxRecDepth 100000
set_option linter.unusedVariables false

theorem Try.own : ownKnob Try.prog.godebug = none := by kernel_rfl
theorem Try.laidOut : laidOutB Try.prog = true := by kernel_rfl
theorem Try.cells3 : Try.prog.cellsOf 3 = 1 := by kernel_rfl
theorem Try.cells5 : Try.prog.cellsOf 5 = 1 := by kernel_rfl

end Go.Proofs.Ytodgnegbaigdbaa
