/- The walk of the statement's function: it answers yes, and what lay there is as it was. -/
import Derived.Test.YtnoidpondkfolaaGreatDoorNnWalkB
import Derived.Test.YtnoidpondkfolaaGreatDoorNnTop
import Derived.Lib.Hide
namespace Go.Proofs.YtnoidpondkfolaaGreatDoor
open Go.RowKit
open Go.Ex
/-- It answers yes; what lay there is as it was. -/
def Yes (w : World) (e : Ending) (w' : World) : Prop := e = .returned (.bool true) ∧ Below w.heap.size w w'
theorem lie_below {w w' : World} (h : tabs.lie w) (hb : Below w.heap.size w w') : tabs.lie w' := fun g l hg => by
  obtain ⟨h1, e, fr, h2, h3⟩ := h g l hg
  exact ⟨h1, e, fr, (hb.block g (Array.getElem?_eq_some_iff.1 h2).1).trans h2, h3⟩
/-- The boxed argument lies there still, and all that lay there ahead. -/
def Box (w W : World) (os : Array Value) : Prop := Below w.heap.size w W ∧ w.heap.size < W.heap.size ∧ ∀ o, W.cell? ⟨w.heap.size, o, none⟩ = os[o]?
theorem Box.begin {w W : World} {os : Array Value} (h : Below (w.alloc (.cells os 25)).heap.size (w.alloc (.cells os 25)) W) : Box w W os := by
  have h1 : (w.alloc (.cells os 25)).heap.size = w.heap.size + 1 := by simp
  refine ⟨((Below.refl _ _).alloc (Nat.le_refl _) _).trans (h.mono (by omega)), by have := h.size; omega, fun o => ?_⟩
  rw [h.cell (p := ⟨w.heap.size, o, none⟩) (by show w.heap.size < _; omega)]
  exact cell_of_row _ _ _ _ 25 (0, 0) (heap_alloc_new _ _)
theorem Box.on {w W W' : World} {os : Array Value} (h : Box w W os) (hb : Below W.heap.size W W') : Box w W' os :=
  ⟨h.1.trans (hb.mono h.1.size), by have := hb.size; have := h.2.1; omega, fun o => (hb.cell (p := ⟨w.heap.size, o, none⟩) h.2.1).trans (h.2.2 o)⟩
theorem Box.alloc {w W : World} {os : Array Value} (h : Box w W os) (x : Obj) : Box w (W.alloc x) os := h.on ((Below.refl _ _).alloc (Nat.le_refl _) _)
/-- The new block that holds an answer. -/
theorem kept_new {W W' : World} {os : Array Value} {t : TypeId} (h : Below (W.alloc (.cells os t)).heap.size (W.alloc (.cells os t)) W') (o : Nat) : W'.cell? ⟨W.heap.size, o, none⟩ = os[o]? := by
  have h1 : (W.alloc (.cells os t)).heap.size = W.heap.size + 1 := by simp
  rw [h.cell (p := ⟨W.heap.size, o, none⟩) (by show W.heap.size < _; omega)]
  exact cell_of_row _ _ _ _ t (0, 0) (heap_alloc_new _ _)
theorem kept_size {W W' : World} {o : Obj} (h : Below (W.alloc o).heap.size (W.alloc o) W') : W.heap.size < W'.heap.size := by
  have h1 : (W.alloc o).heap.size = W.heap.size + 1 := by simp
  have := h.size
  omega
set_option maxRecDepth 100000
set_option maxHeartbeats 1000000 in
theorem walk (c0 c1 c2 c3 c4 c5 c6 c7 c8 : Value) (i : Int) (w : World) (ht : tabs.lie w) : Calls Tryz.prog 3 #[.agg #[c0, c1, c2, c3, c4, c5, c6, c7, c8], .int .i64 i] w (Yes w) := by
  have Ht := Lib.hid ht
  clear ht
  go_enter Tryz.func3, Tryz.ntmps3
  go_wp2_with (first
    | (go_at_call 4; refine (do_nil _ _ _ _ _ _ _ _ _ _).mono ?_; rintro e W1 ⟨rfl, hb1⟩; have hB1 := Lib.hid (Box.begin hb1); have hc1 := hB1.out.2.2; have hz1 := hB1.out.2.1; clear hb1)
    | (go_at_call 5; refine (way_nil _ _).mono ?_; rintro e W2 ⟨rfl, hb2⟩; have hB2 := Lib.hid ((hB1.out.alloc _).on hb2); have hc2 := hB2.out.2.2; have hz2 := hB2.out.2.1; have ht2 := kept_new hb2; have hy2 := kept_size hb2; clear hb2 hc1 hz1)
    | (go_at_call 6; refine (path_nil _ _ _).mono ?_; rintro e w' ⟨rfl, rfl⟩)
    | (go_at_call 7; refine (same_told _).mono ?_; rintro e W3 ⟨rfl, hb3⟩; have hB3 := Lib.hid ((hB2.out.alloc _).on hb3); have hc3 := hB3.out.2.2; clear hb3 hc2)
    | (go_at_call 8; refine (now_nil _).mono ?_; rintro e w' ⟨rfl, rfl⟩)
    | (go_at_call 9; refine (under_nil _).mono ?_; rintro e w' ⟨rfl, rfl⟩)
    | (go_at_call 10; refine (held_nil _ _).mono ?_; rintro e w' ⟨rfl, rfl⟩)
    | (go_at_call 11; refine (works_any (lie_below Ht.out hB3.out.1)).mono ?_; rintro e W5 ⟨rfl, hb5⟩; have hB5 := Lib.hid (hB3.out.on hb5); clear hb5))
  go_ret
  exact ⟨rfl, hB5.out.1⟩
end Go.Proofs.YtnoidpondkfolaaGreatDoor
