/- The walks of the comparison, and of whether it is too much. -/
import Derived.Test.YthlggkkagjfelaaGreatDoorEnWalkA
import Derived.Deep.QuietTactic
import Derived.BigQuiet
import Derived.WalkSmall
namespace Go.Proofs.YthlggkkagjfelaaGreatDoor
open Go.RowKit
set_option maxRecDepth 100000 in
theorem same_zero (w : World) : Calls Tryz.prog 9 #[.agg #[.int .u16 0, .bool false, .slice none 0 0], .agg #[.int .u16 0, .bool false, .slice none 0 0]] w fun e w' => e = .returned (.bool true) ∧ Below w.heap.size w w' := by
  have hc : ∀ w : World, (convert 24 9 (.slice none 0 0)).run Tryz.prog w = .ok (.string .empty) w := fun _ => by kernel_rfl
  go_enter Tryz.func9, Tryz.ntmps9
  go_wp2
  go_ret
  exact ⟨rfl, ((Below.refl _ _).alloc (Nat.le_refl _) _).alloc (by simp) _⟩
/-- An answer, yes or no (where it is no, few bytes); what lay there is as it was. -/
def YesNo (l m : Nat) (w : World) (e : Ending) (w' : World) : Prop := ∃ q : Bool, e = .returned (.bool q) ∧ (q = false → l ≤ 32768 ∧ m ≤ 32768) ∧ Below w.heap.size w w'
set_option maxRecDepth 100000 in
set_option maxHeartbeats 400000 in
theorem vast_any (w : World) (b : Nat) (x y : Option Addr) (l m c d : Nat) (hl : (l : Int) ≤ 9223372036854775807) (hm : (m : Int) ≤ 9223372036854775807) (h1 : w.cell? ⟨b, 8, none⟩ = some (.slice x l c)) (h2 : w.cell? ⟨b, 11, none⟩ = some (.slice y m d)) :
    Calls Tryz.prog 4 #[.slice (some ⟨b, 0, none⟩) 1 1] w (YesNo l m w) := by
  go_enter Tryz.func4, Tryz.ntmps4
  go_wp2
  refine wp_loop_rounds 2 ?_
  rw [rounds_succ]
  go_wp2
  go_quiet (fail)
  go_wp2
  all_goals first
    | exact bodyPost_ret (v := .bool true) (by simp [results, Tryz.results4, go_sem]) rfl ⟨true, rfl, (fun h => by cases h), below_drewN (Below.refl _ _) _⟩
    | (rw [rounds_succ]
       go_wp2
       exact bodyPost_ret (v := .bool false) (by simp [results, Tryz.results4, go_sem]) rfl ⟨false, rfl, (fun _ => by constructor <;> omega), below_drewN (Below.refl _ _) _⟩)
end Go.Proofs.YthlggkkagjfelaaGreatDoor
