/- The walks of what is done with no end, but for what takes bytes. -/
import Derived.Test.YthlggkkagjfelaaGreatDoorEnWalkB
namespace Go.Proofs.YthlggkkagjfelaaGreatDoor
open Go.RowKit
abbrev noMsg : Value := .agg #[.int .u16 0, .bool false, .slice none 0 0]
/-- What no end answers: no message; refused or not. -/
def Gave (x : Int) (w : World) (e : Ending) (w' : World) : Prop := e = .returned (.tuple #[.agg #[.int .u16 0, .bool false, .slice none 0 0], .bool false, .int .i64 x]) ∧ Below w.heap.size w w'
theorem bcell {W w1 : World} (hb : Below W.heap.size W w1) : (∀ b o, b < W.heap.size → w1.cell? ⟨b, o, none⟩ = W.cell? ⟨b, o, none⟩) ∧ (∀ b o, b < W.heap.size → w1.frozen? ⟨b, o, none⟩ = W.frozen? ⟨b, o, none⟩) :=
  ⟨fun b o h => hb.cell (p := ⟨b, o, none⟩) h, fun b o h => hb.frozen (p := ⟨b, o, none⟩) h⟩
section
variable (c1 c2 c3 c4 c5 c6 c7 c8 c9 c10 c11 c12 c13 : Value) (w : World)
set_option maxRecDepth 100000
set_option maxHeartbeats 400000 in
theorem does_open : Calls Tryz.prog 6 #[.pointer none, .agg #[.int .i64 0, c1, c2, c3, c4, c5, c6, c7, c8, c9, c10, c11, c12, c13], .int .i64 5] w (Gave 2 w) := by
  go_enter Tryz.func6, Tryz.ntmps6
  go_wp2_with (go_at_call 20; refine (open_nil _ _ _ _ _).mono ?_; rintro e w' ⟨rfl, rfl⟩)
  refine bodyPost_ret (v := .tuple #[.agg #[.int .u16 0, .bool false, .slice none 0 0], .bool false, .int .i64 2]) (by simp [results, Tryz.results6, go_sem]) rfl ⟨rfl, ?_⟩
  exact ((Below.refl _ _).alloc (Nat.le_refl _) _).alloc (by simp) _
set_option maxHeartbeats 400000 in
theorem does_shutdown : Calls Tryz.prog 6 #[.pointer none, .agg #[.int .i64 3, c1, c2, c3, c4, c5, c6, c7, c8, c9, c10, c11, c12, c13], .int .i64 5] w (Gave 2 w) := by
  go_enter Tryz.func6, Tryz.ntmps6
  go_wp2_with (go_at_call 21; refine (shutdown_nil _ _).mono ?_; rintro e w' ⟨rfl, rfl⟩)
  refine bodyPost_ret (v := .tuple #[.agg #[.int .u16 0, .bool false, .slice none 0 0], .bool false, .int .i64 2]) (by simp [results, Tryz.results6, go_sem]) rfl ⟨rfl, ?_⟩
  exact ((Below.refl _ _).alloc (Nat.le_refl _) _).alloc (by simp) _
set_option maxHeartbeats 400000 in
theorem does_abort : Calls Tryz.prog 6 #[.pointer none, .agg #[.int .i64 4, c1, c2, c3, c4, c5, c6, c7, c8, c9, c10, c11, c12, c13], .int .i64 5] w (Gave 2 w) := by
  go_enter Tryz.func6, Tryz.ntmps6
  go_wp2_with (go_at_call 22; refine (abort_nil _ _).mono ?_; rintro e w' ⟨rfl, rfl⟩)
  refine bodyPost_ret (v := .tuple #[.agg #[.int .u16 0, .bool false, .slice none 0 0], .bool false, .int .i64 2]) (by simp [results, Tryz.results6, go_sem]) rfl ⟨rfl, ?_⟩
  exact ((Below.refl _ _).alloc (Nat.le_refl _) _).alloc (by simp) _
set_option maxHeartbeats 400000 in
theorem does_tick : Calls Tryz.prog 6 #[.pointer none, .agg #[.int .i64 5, c1, c2, c3, c4, c5, c6, c7, c8, c9, c10, c11, c12, c13], .int .i64 5] w (Gave 0 w) := by
  go_enter Tryz.func6, Tryz.ntmps6
  go_wp2_with (go_at_call 23; refine (tick_nil _ _).mono ?_; rintro e w' ⟨rfl, rfl⟩)
  refine bodyPost_ret (v := .tuple #[.agg #[.int .u16 0, .bool false, .slice none 0 0], .bool false, .int .i64 0]) (by simp [results, Tryz.results6, go_sem]) rfl ⟨rfl, ?_⟩
  exact ((Below.refl _ _).alloc (Nat.le_refl _) _).alloc (by simp) _
set_option maxHeartbeats 400000 in
theorem does_other (k : Int) (k0 : (k == 0) = false) (k1 : (k == 1) = false) (k2 : (k == 2) = false) (k3 : (k == 3) = false) (k4 : (k == 4) = false) (k5 : (k == 5) = false) (k6 : (k == 6) = false) : Calls Tryz.prog 6 #[.pointer none, .agg #[.int .i64 k, c1, c2, c3, c4, c5, c6, c7, c8, c9, c10, c11, c12, c13], .int .i64 5] w (Gave 0 w) := by
  go_enter Tryz.func6, Tryz.ntmps6
  go_wp2
  refine bodyPost_ret (v := .tuple #[.agg #[.int .u16 0, .bool false, .slice none 0 0], .bool false, .int .i64 0]) (by simp [results, Tryz.results6, go_sem]) rfl ⟨rfl, ?_⟩
  exact ((Below.refl _ _).alloc (Nat.le_refl _) _).alloc (by simp) _
set_option maxHeartbeats 400000 in
theorem does_receive : Calls Tryz.prog 6 #[.pointer none, .agg #[.int .i64 2, c1, c2, c3, c4, c5, c6, c7, c8, c9, c10, c11, c12, c13], .int .i64 5] w (Gave 0 w) := by
  go_enter Tryz.func6, Tryz.ntmps6
  go_wp2_with (go_at_call 18; refine (receive_nil _ _).mono ?_; rintro e w1 ⟨rfl, rfl⟩)
  refine bodyPost_ret (v := .tuple #[.agg #[.int .u16 0, .bool false, .slice none 0 0], .bool false, .int .i64 0]) (by simp [results, Tryz.results6, go_sem]) rfl ⟨rfl, ?_⟩
  exact ((((Below.refl _ _).alloc (Nat.le_refl _) _).alloc (by simp) _).alloc (by simp; omega) _).alloc (by simp; omega) _
end
end Go.Proofs.YthlggkkagjfelaaGreatDoor
