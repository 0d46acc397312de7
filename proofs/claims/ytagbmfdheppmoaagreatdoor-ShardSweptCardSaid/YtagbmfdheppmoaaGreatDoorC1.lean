import Derived.Test.YtagbmfdheppmoaaGreatDoorVmZ
import Derived.Test.YtagbmfdheppmoaaGreatDoorProg
import Derived.KernelRfl
/-
  The chapter's examples (awake), run by the machine.
-/
namespace Go.Proofs.YtagbmfdheppmoaaGreatDoor.Vm
open Go.RowKit Go.Proofs.YtagbmfdheppmoaaGreatDoor.Sep
theorem awake_run : isT (callV (@run V0 Tryz.prog 400) Tryz.prog 14 [] T0 0) = true := by kernel_rfl
theorem awake_true (w : World) : Calls Tryz.prog 14 #[] w fun e w' => e = .returned (.bool true) ∧ Gx w w' := closed_calls awake_run w
end Go.Proofs.YtagbmfdheppmoaaGreatDoor.Vm
