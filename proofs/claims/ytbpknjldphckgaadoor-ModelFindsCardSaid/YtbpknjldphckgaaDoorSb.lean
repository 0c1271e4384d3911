/- What every row's proof needs of the program, once. -/
import Derived.Test.YtbpknjldphckgaaDoorSa
namespace Go.Proofs.YtbpknjldphckgaaDoor
open Go
set_option maxRecDepth 100000
theorem Tryd.enters : Tryd.prog.mayEnter = true := by kernel_rfl
theorem Tryd.lifts : Tryd.prog.liftsFinal = Rows.stonePutsRow.lifted := by kernel_rfl
theorem Tryd.makes : Tryd.prog.make = some Rows.stonePutsRow.make := by kernel_rfl
theorem Tryd.main : Tryd.pinned.checked.prog.mainIs = some (true, "bc9f3cb85745f96992040cc5b31babd500f1ea4e36d299bae426ae28286c4765".toList) := by kernel_rfl
end Go.Proofs.YtbpknjldphckgaaDoor
