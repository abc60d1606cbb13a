/- The walks of the methods on no end. -/
import Derived.Test.YthlggkkagjfelaaGreatDoorProg
import Derived.WalkKit
import Derived.WalkSpells
import Derived.WalkLawsBesides
namespace Go.Proofs.YthlggkkagjfelaaGreatDoor
open Go.RowKit
theorem when_nil (w : World) : Calls Tryz.prog 7 #[.pointer none] w fun e w' => e = .returned (.tuple #[.int .i64 0, .bool false]) ∧ w = w' := by
  go_enter Tryz.func7, Tryz.ntmps7
  go_wp2
  go_ret2
  exact ⟨rfl, rfl⟩
theorem path_nil (i : Value) (w : World) : Calls Tryz.prog 8 #[.pointer none, i] w fun e w' => e = .returned (.tuple #[.int .i64 0, .int .i64 0, .int .i64 0, .bool false]) ∧ w = w' := by
  go_enter Tryz.func8, Tryz.ntmps8
  go_wp2
  exact bodyPost_ret (v := .tuple #[.int .i64 0, .int .i64 0, .int .i64 0, .bool false]) (by simp [results, Tryz.results8, go_sem]) rfl ⟨rfl, rfl⟩
theorem state_nil (w : World) : Calls Tryz.prog 10 #[.pointer none] w fun e w' => e = .returned (.int .u8 0) ∧ w = w' := by
  go_enter Tryz.func10, Tryz.ntmps10
  go_wp2
  go_ret
  exact ⟨rfl, rfl⟩
theorem output_nil (w : World) : Calls Tryz.prog 11 #[.pointer none] w fun e w' => e = .returned (.slice none 0 0) ∧ w = w' := by
  go_enter Tryz.func11, Tryz.ntmps11
  go_wp2
  go_ret
  exact ⟨rfl, rfl⟩
theorem held_nil (w : World) : Calls Tryz.prog 12 #[.pointer none] w fun e w' => e = .returned (.int .i64 0) ∧ w = w' := by
  go_enter Tryz.func12, Tryz.ntmps12
  go_wp2
  go_ret
  exact ⟨rfl, rfl⟩
theorem open_nil (a b c d : Value) (w : World) : Calls Tryz.prog 20 #[.pointer none, a, b, c, d] w fun e w' => e = .returned (.int .i64 2) ∧ w = w' := by
  go_enter Tryz.func20, Tryz.ntmps20
  go_wp2
  go_ret
  exact ⟨rfl, rfl⟩
theorem shutdown_nil (a : Value) (w : World) : Calls Tryz.prog 21 #[.pointer none, a] w fun e w' => e = .returned (.int .i64 2) ∧ w = w' := by
  go_enter Tryz.func21, Tryz.ntmps21
  go_wp2
  go_ret
  exact ⟨rfl, rfl⟩
theorem abort_nil (a : Value) (w : World) : Calls Tryz.prog 22 #[.pointer none, a] w fun e w' => e = .returned (.int .i64 2) ∧ w = w' := by
  go_enter Tryz.func22, Tryz.ntmps22
  go_wp2
  go_ret
  exact ⟨rfl, rfl⟩
theorem tick_nil (a : Value) (w : World) : Calls Tryz.prog 23 #[.pointer none, a] w fun e w' => e = .returned (.tuple #[]) ∧ w = w' := by
  go_enter Tryz.func23, Tryz.ntmps23
  go_wp2
  exact bodyPost_ret (v := .tuple #[]) (by simp [results, Tryz.results23, go_sem]) rfl ⟨rfl, rfl⟩
theorem input_nil (a b c : Value) (w : World) : Calls Tryz.prog 19 #[.pointer none, a, b, c] w fun e w' => e = .returned (.int .i64 2) ∧ w = w' := by
  go_enter Tryz.func19, Tryz.ntmps19
  go_wp2
  go_ret
  exact ⟨rfl, rfl⟩
theorem send_nil (a x y z b : Value) (w : World) : Calls Tryz.prog 16 #[.pointer none, a, .agg #[x, y, z], b] w fun e w' => e = .returned (.int .i64 2) ∧ w.alloc (.cells #[x, y, z] 26) = w' := by
  go_enter Tryz.func16, Tryz.ntmps16
  go_wp2
  go_ret
  exact ⟨rfl, rfl⟩
theorem receive_nil (a : Value) (w : World) : Calls Tryz.prog 18 #[.pointer none, a] w fun e w' => e = .returned (.tuple #[.agg #[.int .u16 0, .bool false, .slice none 0 0], .bool false]) ∧ w.alloc (.cells #[.int .u16 0, .bool false, .slice none 0 0] 26) = w' := by
  go_enter Tryz.func18, Tryz.ntmps18
  go_wp2
  exact bodyPost_ret (v := .tuple #[.agg #[.int .u16 0, .bool false, .slice none 0 0], .bool false]) (by simp [results, Tryz.results18, go_sem]) rfl ⟨rfl, rfl⟩
end Go.Proofs.YthlggkkagjfelaaGreatDoor
