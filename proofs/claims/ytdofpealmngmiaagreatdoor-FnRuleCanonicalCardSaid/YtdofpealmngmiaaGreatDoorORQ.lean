/- The package's variables as the text lays them, for the rows over ParseRule: a world that holds them. Conditions: none. -/
import Derived.Test.YtdofpealmngmiaaGreatDoorORP
import Derived.Lay
namespace Go.Proofs.YtdofpealmngmiaaGreatDoor
open Go.ChangeShapes Go.WideShapes Go.ChangeAt Go.RowKit

/-- what the text's own calls lay, and the one table that stands in the form -/
noncomputable def worldP (os : Os) : World := (World.doorLaid Tryz.prog 400 os).layVars Tryz.prog [("unicode/utf8.first", Go.Pinned.utf8First)]
theorem worldP_os (os : Os) : (worldP os).os = os := World.layVars_os _ _ _
/-- all blocks but the table's -/
noncomputable def blocksP (os : Os) : List Nat := (List.range (World.doorLaid Tryz.prog 400 os).heap.size).filter (fun b => b != 4)

theorem restP (os : Os) : LaidIn Tryz.prog (worldP os) (laidP.filter fun x => !["unicode/utf8.first"].contains x.1) (blocksP os) :=
  LaidIn.of_run (blocksP os) 8 (by kernel_rfl) (by kernel_rfl) (by kernel_rfl) (by kernel_rfl)

theorem metP (os : Os) : laidMet Tryz.prog laidP (worldP os) :=
  laidMet_layVars (w0 := World.doorLaid Tryz.prog 400 os) ["unicode/utf8.first"] (blocksP os) (by kernel_rfl) (by kernel_rfl) (by kernel_rfl) (restP os)

theorem laidMetP (os : Os) (args : Array Value) : laidMetH Tryz.prog laidP ((worldP os).forCall (fun _ _ => 0) ⟨#[], args, []⟩).memory := by
  rw [MakeChecks.laidMetH_plain _ _ _ (by kernel_rfl)]
  exact (metP os).of_heap (by simp [World.memory, World.forCall, Input.heap])

theorem laidShapedP (os : Os) (args : Array Value) : ((worldP os).forCall (fun _ _ => 0) ⟨#[], args, []⟩).Shaped Tryz.checked.prog := World.shaped_of_ZipB (by kernel_rfl) (by kernel_rfl)

end Go.Proofs.YtdofpealmngmiaaGreatDoor
