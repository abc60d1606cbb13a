/- The program of this seat: what the executor asks of it. -/
import Derived.Test.YtnoidpondkfolaaGreatDoorProg
import Derived.Test.YtnoidpondkfolaaGreatDoorExH
import Derived.KernelRfl
namespace Go.Proofs.YtnoidpondkfolaaGreatDoor
open Go.Ex
theorem mixed : Tryz.prog.follows .mixedOrders = true := by kernel_rfl
theorem named : Named Tryz.prog := named_of (by kernel_rfl)
theorem rec_ok {l : List Ent} (h : AllOK Tryz.prog l) : RecOK Tryz.prog (recM Tryz.prog l 100000) := recM_ok mixed named h _
end Go.Proofs.YtnoidpondkfolaaGreatDoor
