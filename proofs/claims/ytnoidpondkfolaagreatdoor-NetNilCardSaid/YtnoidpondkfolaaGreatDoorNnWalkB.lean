/- The walks of the comparison of two answers. -/
import Derived.Test.YtnoidpondkfolaaGreatDoorNnWalkA
namespace Go.Proofs.YtnoidpondkfolaaGreatDoor
open Go.RowKit
theorem bytes_nil (w : World) : Calls Tryz.prog 17 #[.slice none 0 0, .slice none 0 0] w fun e w' => e = .returned (.bool true) ∧ w = w' := by
  go_enter Tryz.func17, Tryz.ntmps17
  go_wp2
  refine wp_loop_rounds 1 ?_
  rw [rounds_succ]
  go_wp2
  go_ret
  exact ⟨rfl, rfl⟩
set_option maxRecDepth 100000 in
theorem same_told (w : World) : Calls Tryz.prog 7 #[told, told] w fun e w' => e = .returned (.bool true) ∧ Below w.heap.size w w' := by
  have hc : ∀ w : World, (binOp .eql 28 (.agg #[.int .u8 0, .int .u8 0]) (.agg #[.int .u8 0, .int .u8 0])).run Tryz.prog w = .ok (.bool true) w := fun _ => by kernel_rfl
  have hg : ∀ (x y : Operand) (w : World), (eqGuard .eql 28 x y (.agg #[.int .u8 0, .int .u8 0]) (.agg #[.int .u8 0, .int .u8 0])).run Tryz.prog w = .ok () w := fun _ _ _ => by kernel_rfl
  go_enter Tryz.func7, Tryz.ntmps7
  go_wp2_with (go_at_call 17; refine (bytes_nil _).mono ?_; rintro e w' ⟨rfl, rfl⟩)
  go_ret
  exact ⟨rfl, ((Below.refl _ _).alloc (Nat.le_refl _) _).alloc (by simp) _⟩
end Go.Proofs.YtnoidpondkfolaaGreatDoor
