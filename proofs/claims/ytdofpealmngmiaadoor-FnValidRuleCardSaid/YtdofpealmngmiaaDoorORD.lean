/- The package's variables as the text lays them: the door's own heap. Conditions: none. -/
import Derived.Test.YtdofpealmngmiaaDoorOR
namespace Go.Proofs.YtdofpealmngmiaaDoor
open Go.ChangeShapes Go.WideShapes Go.ChangeAt Go.RowKit

theorem lawOwn : ownKnob Tryd.prog.godebug = none := by kernel_rfl
theorem lawOut : laidOutB Tryd.prog = true := by kernel_rfl
theorem doorMet (os : Os) (args : Array Value) : laidMetH Tryd.prog laidL ((World.doorLaid Tryd.prog 400 os).forCall (fun _ _ => 0) ⟨#[], args, []⟩).memory :=
  laidMetH_of_parts3 (fuel := 8) (laidMet_of_run' 8 (by kernel_rfl) (by kernel_rfl)) (by kernel_rfl) (by kernel_rfl)

theorem doorShaped (os : Os) : (World.doorLaid Tryd.prog 400 os).Shaped Tryd.prog := World.shaped_of_RefB (by kernel_rfl) (by kernel_rfl)

end Go.Proofs.YtdofpealmngmiaaDoor
