/- The row's closed facts, each by itself. -/
import Derived.Test.YthlggkkagjfelaaGreatDoorEnRowA
namespace Go.Proofs.YthlggkkagjfelaaGreatDoor
theorem and_i {a b : Bool} (h : a = true) (k : b = true) : (a && b) = true := by rw [h, k]; rfl
set_option maxHeartbeats 400000000 in
theorem closed : joinedFacts Tryz.checked.prog 3 Tryz.f3 (OpenSpec.ofChange Rows.endNilSpec).bare Rows.endNilRow = true := by
  unfold joinedFacts
  repeat' (with_reducible refine and_i ?_ ?_)
  all_goals as_aux_lemma => kernel_rfl
end Go.Proofs.YthlggkkagjfelaaGreatDoor
