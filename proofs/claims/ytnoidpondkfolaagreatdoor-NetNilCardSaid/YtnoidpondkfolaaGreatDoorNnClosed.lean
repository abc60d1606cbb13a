/- The row's closed facts, each by itself. -/
import Derived.Test.YtnoidpondkfolaaGreatDoorNnRowA
namespace Go.Proofs.YtnoidpondkfolaaGreatDoor
theorem and_i {a b : Bool} (h : a = true) (k : b = true) : (a && b) = true := by rw [h, k]; rfl
set_option maxHeartbeats 400000000 in
theorem closed : joinedFacts Tryz.checked.prog 3 Tryz.f3 (OpenSpec.ofChange Rows.netNilSpec).bare Rows.netNilRow = true := by
  unfold joinedFacts
  repeat' (with_reducible refine and_i ?_ ?_)
  all_goals as_aux_lemma => kernel_rfl
end Go.Proofs.YtnoidpondkfolaaGreatDoor
