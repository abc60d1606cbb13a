/- The walk of the statement's function: it answers yes, and what lay there is as it was. -/
import Derived.Test.YthlggkkagjfelaaGreatDoorEnWalkD
import Derived.Test.YthlggkkagjfelaaGreatDoorEnTop
namespace Go.Proofs.YthlggkkagjfelaaGreatDoor
open Go.RowKit
open Go.Ex
/-- It answers yes; what lay there is as it was. -/
def Yes (w : World) (e : Ending) (w' : World) : Prop := e = .returned (.bool true) ∧ Below w.heap.size w w'
theorem lie_below {w w' : World} (h : tabs.lie w) (hb : Below w.heap.size w w') : tabs.lie w' := fun g l hg => by
  obtain ⟨h1, e, fr, h2, h3⟩ := h g l hg
  exact ⟨h1, e, fr, (hb.block g (Array.getElem?_eq_some_iff.1 h2).1).trans h2, h3⟩
/-- The boxed argument lies there still, and all that lay there ahead. -/
def Box (w W : World) (os : Array Value) : Prop := Below w.heap.size w W ∧ w.heap.size < W.heap.size ∧ ∀ o, W.cell? ⟨w.heap.size, o, none⟩ = os[o]?
theorem Box.begin {w W : World} {os : Array Value} {x : Obj} (h : Below ((w.alloc (.cells os 28)).alloc x).heap.size ((w.alloc (.cells os 28)).alloc x) W) : Box w W os := by
  have h1 : (w.alloc (.cells os 28)).heap.size = w.heap.size + 1 := by simp
  have h2 : ((w.alloc (.cells os 28)).alloc x).heap.size = w.heap.size + 2 := by simp
  refine ⟨(((Below.refl _ _).alloc (Nat.le_refl _) _).alloc (by omega) _).trans (h.mono (by omega)), by have := h.size; omega, fun o => ?_⟩
  rw [h.cell (p := ⟨w.heap.size, o, none⟩) (by show w.heap.size < _; omega)]
  refine cell_of_row _ _ _ _ 28 (0, 0) ?_
  rw [Below.heap_alloc _ _ _ (by omega)]
  exact heap_alloc_new _ _
theorem Box.on {w W W' : World} {os : Array Value} (h : Box w W os) (hb : Below W.heap.size W W') : Box w W' os :=
  ⟨h.1.trans (hb.mono h.1.size), by have := hb.size; have := h.2.1; omega, fun o => (hb.cell (p := ⟨w.heap.size, o, none⟩) h.2.1).trans (h.2.2 o)⟩
theorem Box.alloc {w W : World} {os : Array Value} (h : Box w W os) (x : Obj) : Box w (W.alloc x) os := h.on ((Below.refl _ _).alloc (Nat.le_refl _) _)
section
variable (c1 c2 c3 c4 c5 c9 c10 c12 c13 : Value) (s : Int) (b : Bool) (A B : Option Addr) (l m c d : Nat) (w : World)
set_option maxRecDepth 100000
set_option maxHeartbeats 1000000 in
theorem end_open (hl : (l : Int) ≤ 9223372036854775807) (hm : (m : Int) ≤ 9223372036854775807) (ht : tabs.lie w)
    (hd : ∀ W, Below w.heap.size w W → l ≤ 32768 ∧ m ≤ 32768 → Calls Tryz.prog 6 #[.pointer none, .agg #[.int .i64 0, c1, c2, c3, c4, c5, .int .u16 s, .bool b, .slice A l c, c9, c10, .slice B m d, c12, c13], .int .i64 5] W (Gave 2 W)) :
    Calls Tryz.prog 3 #[.agg #[.int .i64 0, c1, c2, c3, c4, c5, .int .u16 s, .bool b, .slice A l c, c9, c10, .slice B m d, c12, c13]] w (Yes w) := by
  have Ht := Lib.hid ht
  have Hd := Lib.hid hd
  have Hl := Lib.hid hl
  have Hm := Lib.hid hm
  clear ht hd hl hm
  go_enter Tryz.func3, Tryz.ntmps3
  go_wp2_with (first
    | (go_at_call 4; refine (vast_any _ (w.heap.size + 1) A B l m c d Hl.out Hm.out (by simp) (by simp)).mono ?_; rintro e W1 ⟨q, rfl, hq, hb1⟩; replace hq := Lib.hid hq; have hB1 := Lib.hid (Box.begin hb1); have hc1 := hB1.out.2.2; clear hb1)
    | (go_at_call 5; refine (works_any (lie_below Ht.out hB1.out.1)).mono ?_; rintro e W2 ⟨rfl, hb2⟩; have hB2 := Lib.hid (hB1.out.on hb2); clear hb2)
    | (go_at_call 6; refine (Hd.out _ hB1.out.1 (hq.out (by assumption))).mono ?_; rintro e W3 ⟨rfl, hb3⟩; have hB3 := Lib.hid (hB1.out.on hb3); have hc3 := hB3.out.2.2; have hz3 := hB3.out.2.1; clear hb3 hc1)
    | (go_at_call 7; refine (when_nil _).mono ?_; rintro e w' ⟨rfl, rfl⟩)
    | (go_at_call 8; refine (path_nil _ _).mono ?_; rintro e w' ⟨rfl, rfl⟩)
    | (go_at_call 9; refine (same_zero _).mono ?_; rintro e W4 ⟨rfl, hb4⟩; have hB4 := Lib.hid ((hB3.out.alloc _).on hb4); clear hb4)
    | (go_at_call 10; refine (state_nil _).mono ?_; rintro e w' ⟨rfl, rfl⟩)
    | (go_at_call 11; refine (output_nil _).mono ?_; rintro e w' ⟨rfl, rfl⟩)
    | (go_at_call 12; refine (held_nil _).mono ?_; rintro e w' ⟨rfl, rfl⟩)
    | (go_at_call 5; refine (works_any (lie_below Ht.out hB4.out.1)).mono ?_; rintro e W5 ⟨rfl, hb5⟩; have hB5 := Lib.hid (hB4.out.on hb5); clear hb5))
  all_goals
    go_ret
    first
      | exact ⟨rfl, hB2.out.1⟩
      | exact ⟨rfl, hB5.out.1⟩
set_option maxHeartbeats 1000000 in
theorem end_send (hl : (l : Int) ≤ 9223372036854775807) (hm : (m : Int) ≤ 9223372036854775807) (ht : tabs.lie w)
    (hd : ∀ W, Below w.heap.size w W → l ≤ 32768 ∧ m ≤ 32768 → Calls Tryz.prog 6 #[.pointer none, .agg #[.int .i64 1, c1, c2, c3, c4, c5, .int .u16 s, .bool b, .slice A l c, c9, c10, .slice B m d, c12, c13], .int .i64 5] W (Gave 2 W)) :
    Calls Tryz.prog 3 #[.agg #[.int .i64 1, c1, c2, c3, c4, c5, .int .u16 s, .bool b, .slice A l c, c9, c10, .slice B m d, c12, c13]] w (Yes w) := by
  have Ht := Lib.hid ht
  have Hd := Lib.hid hd
  have Hl := Lib.hid hl
  have Hm := Lib.hid hm
  clear ht hd hl hm
  go_enter Tryz.func3, Tryz.ntmps3
  go_wp2_with (first
    | (go_at_call 4; refine (vast_any _ (w.heap.size + 1) A B l m c d Hl.out Hm.out (by simp) (by simp)).mono ?_; rintro e W1 ⟨q, rfl, hq, hb1⟩; replace hq := Lib.hid hq; have hB1 := Lib.hid (Box.begin hb1); have hc1 := hB1.out.2.2; clear hb1)
    | (go_at_call 5; refine (works_any (lie_below Ht.out hB1.out.1)).mono ?_; rintro e W2 ⟨rfl, hb2⟩; have hB2 := Lib.hid (hB1.out.on hb2); clear hb2)
    | (go_at_call 6; refine (Hd.out _ hB1.out.1 (hq.out (by assumption))).mono ?_; rintro e W3 ⟨rfl, hb3⟩; have hB3 := Lib.hid (hB1.out.on hb3); have hc3 := hB3.out.2.2; have hz3 := hB3.out.2.1; clear hb3 hc1)
    | (go_at_call 7; refine (when_nil _).mono ?_; rintro e w' ⟨rfl, rfl⟩)
    | (go_at_call 8; refine (path_nil _ _).mono ?_; rintro e w' ⟨rfl, rfl⟩)
    | (go_at_call 9; refine (same_zero _).mono ?_; rintro e W4 ⟨rfl, hb4⟩; have hB4 := Lib.hid ((hB3.out.alloc _).on hb4); clear hb4)
    | (go_at_call 10; refine (state_nil _).mono ?_; rintro e w' ⟨rfl, rfl⟩)
    | (go_at_call 11; refine (output_nil _).mono ?_; rintro e w' ⟨rfl, rfl⟩)
    | (go_at_call 12; refine (held_nil _).mono ?_; rintro e w' ⟨rfl, rfl⟩)
    | (go_at_call 5; refine (works_any (lie_below Ht.out hB4.out.1)).mono ?_; rintro e W5 ⟨rfl, hb5⟩; have hB5 := Lib.hid (hB4.out.on hb5); clear hb5))
  all_goals
    go_ret
    first
      | exact ⟨rfl, hB2.out.1⟩
      | exact ⟨rfl, hB5.out.1⟩
set_option maxHeartbeats 1000000 in
theorem end_receive (hl : (l : Int) ≤ 9223372036854775807) (hm : (m : Int) ≤ 9223372036854775807) (ht : tabs.lie w)
    (hd : ∀ W, Below w.heap.size w W → l ≤ 32768 ∧ m ≤ 32768 → Calls Tryz.prog 6 #[.pointer none, .agg #[.int .i64 2, c1, c2, c3, c4, c5, .int .u16 s, .bool b, .slice A l c, c9, c10, .slice B m d, c12, c13], .int .i64 5] W (Gave 0 W)) :
    Calls Tryz.prog 3 #[.agg #[.int .i64 2, c1, c2, c3, c4, c5, .int .u16 s, .bool b, .slice A l c, c9, c10, .slice B m d, c12, c13]] w (Yes w) := by
  have Ht := Lib.hid ht
  have Hd := Lib.hid hd
  have Hl := Lib.hid hl
  have Hm := Lib.hid hm
  clear ht hd hl hm
  go_enter Tryz.func3, Tryz.ntmps3
  go_wp2_with (first
    | (go_at_call 4; refine (vast_any _ (w.heap.size + 1) A B l m c d Hl.out Hm.out (by simp) (by simp)).mono ?_; rintro e W1 ⟨q, rfl, hq, hb1⟩; replace hq := Lib.hid hq; have hB1 := Lib.hid (Box.begin hb1); have hc1 := hB1.out.2.2; clear hb1)
    | (go_at_call 5; refine (works_any (lie_below Ht.out hB1.out.1)).mono ?_; rintro e W2 ⟨rfl, hb2⟩; have hB2 := Lib.hid (hB1.out.on hb2); clear hb2)
    | (go_at_call 6; refine (Hd.out _ hB1.out.1 (hq.out (by assumption))).mono ?_; rintro e W3 ⟨rfl, hb3⟩; have hB3 := Lib.hid (hB1.out.on hb3); have hc3 := hB3.out.2.2; have hz3 := hB3.out.2.1; clear hb3 hc1)
    | (go_at_call 7; refine (when_nil _).mono ?_; rintro e w' ⟨rfl, rfl⟩)
    | (go_at_call 8; refine (path_nil _ _).mono ?_; rintro e w' ⟨rfl, rfl⟩)
    | (go_at_call 9; refine (same_zero _).mono ?_; rintro e W4 ⟨rfl, hb4⟩; have hB4 := Lib.hid ((hB3.out.alloc _).on hb4); clear hb4)
    | (go_at_call 10; refine (state_nil _).mono ?_; rintro e w' ⟨rfl, rfl⟩)
    | (go_at_call 11; refine (output_nil _).mono ?_; rintro e w' ⟨rfl, rfl⟩)
    | (go_at_call 12; refine (held_nil _).mono ?_; rintro e w' ⟨rfl, rfl⟩)
    | (go_at_call 5; refine (works_any (lie_below Ht.out hB4.out.1)).mono ?_; rintro e W5 ⟨rfl, hb5⟩; have hB5 := Lib.hid (hB4.out.on hb5); clear hb5))
  all_goals
    go_ret
    first
      | exact ⟨rfl, hB2.out.1⟩
      | exact ⟨rfl, hB5.out.1⟩
set_option maxHeartbeats 1000000 in
theorem end_shutdown (hl : (l : Int) ≤ 9223372036854775807) (hm : (m : Int) ≤ 9223372036854775807) (ht : tabs.lie w)
    (hd : ∀ W, Below w.heap.size w W → l ≤ 32768 ∧ m ≤ 32768 → Calls Tryz.prog 6 #[.pointer none, .agg #[.int .i64 3, c1, c2, c3, c4, c5, .int .u16 s, .bool b, .slice A l c, c9, c10, .slice B m d, c12, c13], .int .i64 5] W (Gave 2 W)) :
    Calls Tryz.prog 3 #[.agg #[.int .i64 3, c1, c2, c3, c4, c5, .int .u16 s, .bool b, .slice A l c, c9, c10, .slice B m d, c12, c13]] w (Yes w) := by
  have Ht := Lib.hid ht
  have Hd := Lib.hid hd
  have Hl := Lib.hid hl
  have Hm := Lib.hid hm
  clear ht hd hl hm
  go_enter Tryz.func3, Tryz.ntmps3
  go_wp2_with (first
    | (go_at_call 4; refine (vast_any _ (w.heap.size + 1) A B l m c d Hl.out Hm.out (by simp) (by simp)).mono ?_; rintro e W1 ⟨q, rfl, hq, hb1⟩; replace hq := Lib.hid hq; have hB1 := Lib.hid (Box.begin hb1); have hc1 := hB1.out.2.2; clear hb1)
    | (go_at_call 5; refine (works_any (lie_below Ht.out hB1.out.1)).mono ?_; rintro e W2 ⟨rfl, hb2⟩; have hB2 := Lib.hid (hB1.out.on hb2); clear hb2)
    | (go_at_call 6; refine (Hd.out _ hB1.out.1 (hq.out (by assumption))).mono ?_; rintro e W3 ⟨rfl, hb3⟩; have hB3 := Lib.hid (hB1.out.on hb3); have hc3 := hB3.out.2.2; have hz3 := hB3.out.2.1; clear hb3 hc1)
    | (go_at_call 7; refine (when_nil _).mono ?_; rintro e w' ⟨rfl, rfl⟩)
    | (go_at_call 8; refine (path_nil _ _).mono ?_; rintro e w' ⟨rfl, rfl⟩)
    | (go_at_call 9; refine (same_zero _).mono ?_; rintro e W4 ⟨rfl, hb4⟩; have hB4 := Lib.hid ((hB3.out.alloc _).on hb4); clear hb4)
    | (go_at_call 10; refine (state_nil _).mono ?_; rintro e w' ⟨rfl, rfl⟩)
    | (go_at_call 11; refine (output_nil _).mono ?_; rintro e w' ⟨rfl, rfl⟩)
    | (go_at_call 12; refine (held_nil _).mono ?_; rintro e w' ⟨rfl, rfl⟩)
    | (go_at_call 5; refine (works_any (lie_below Ht.out hB4.out.1)).mono ?_; rintro e W5 ⟨rfl, hb5⟩; have hB5 := Lib.hid (hB4.out.on hb5); clear hb5))
  all_goals
    go_ret
    first
      | exact ⟨rfl, hB2.out.1⟩
      | exact ⟨rfl, hB5.out.1⟩
set_option maxHeartbeats 1000000 in
theorem end_abort (hl : (l : Int) ≤ 9223372036854775807) (hm : (m : Int) ≤ 9223372036854775807) (ht : tabs.lie w)
    (hd : ∀ W, Below w.heap.size w W → l ≤ 32768 ∧ m ≤ 32768 → Calls Tryz.prog 6 #[.pointer none, .agg #[.int .i64 4, c1, c2, c3, c4, c5, .int .u16 s, .bool b, .slice A l c, c9, c10, .slice B m d, c12, c13], .int .i64 5] W (Gave 2 W)) :
    Calls Tryz.prog 3 #[.agg #[.int .i64 4, c1, c2, c3, c4, c5, .int .u16 s, .bool b, .slice A l c, c9, c10, .slice B m d, c12, c13]] w (Yes w) := by
  have Ht := Lib.hid ht
  have Hd := Lib.hid hd
  have Hl := Lib.hid hl
  have Hm := Lib.hid hm
  clear ht hd hl hm
  go_enter Tryz.func3, Tryz.ntmps3
  go_wp2_with (first
    | (go_at_call 4; refine (vast_any _ (w.heap.size + 1) A B l m c d Hl.out Hm.out (by simp) (by simp)).mono ?_; rintro e W1 ⟨q, rfl, hq, hb1⟩; replace hq := Lib.hid hq; have hB1 := Lib.hid (Box.begin hb1); have hc1 := hB1.out.2.2; clear hb1)
    | (go_at_call 5; refine (works_any (lie_below Ht.out hB1.out.1)).mono ?_; rintro e W2 ⟨rfl, hb2⟩; have hB2 := Lib.hid (hB1.out.on hb2); clear hb2)
    | (go_at_call 6; refine (Hd.out _ hB1.out.1 (hq.out (by assumption))).mono ?_; rintro e W3 ⟨rfl, hb3⟩; have hB3 := Lib.hid (hB1.out.on hb3); have hc3 := hB3.out.2.2; have hz3 := hB3.out.2.1; clear hb3 hc1)
    | (go_at_call 7; refine (when_nil _).mono ?_; rintro e w' ⟨rfl, rfl⟩)
    | (go_at_call 8; refine (path_nil _ _).mono ?_; rintro e w' ⟨rfl, rfl⟩)
    | (go_at_call 9; refine (same_zero _).mono ?_; rintro e W4 ⟨rfl, hb4⟩; have hB4 := Lib.hid ((hB3.out.alloc _).on hb4); clear hb4)
    | (go_at_call 10; refine (state_nil _).mono ?_; rintro e w' ⟨rfl, rfl⟩)
    | (go_at_call 11; refine (output_nil _).mono ?_; rintro e w' ⟨rfl, rfl⟩)
    | (go_at_call 12; refine (held_nil _).mono ?_; rintro e w' ⟨rfl, rfl⟩)
    | (go_at_call 5; refine (works_any (lie_below Ht.out hB4.out.1)).mono ?_; rintro e W5 ⟨rfl, hb5⟩; have hB5 := Lib.hid (hB4.out.on hb5); clear hb5))
  all_goals
    go_ret
    first
      | exact ⟨rfl, hB2.out.1⟩
      | exact ⟨rfl, hB5.out.1⟩
set_option maxHeartbeats 1000000 in
theorem end_tick (hl : (l : Int) ≤ 9223372036854775807) (hm : (m : Int) ≤ 9223372036854775807) (ht : tabs.lie w)
    (hd : ∀ W, Below w.heap.size w W → l ≤ 32768 ∧ m ≤ 32768 → Calls Tryz.prog 6 #[.pointer none, .agg #[.int .i64 5, c1, c2, c3, c4, c5, .int .u16 s, .bool b, .slice A l c, c9, c10, .slice B m d, c12, c13], .int .i64 5] W (Gave 0 W)) :
    Calls Tryz.prog 3 #[.agg #[.int .i64 5, c1, c2, c3, c4, c5, .int .u16 s, .bool b, .slice A l c, c9, c10, .slice B m d, c12, c13]] w (Yes w) := by
  have Ht := Lib.hid ht
  have Hd := Lib.hid hd
  have Hl := Lib.hid hl
  have Hm := Lib.hid hm
  clear ht hd hl hm
  go_enter Tryz.func3, Tryz.ntmps3
  go_wp2_with (first
    | (go_at_call 4; refine (vast_any _ (w.heap.size + 1) A B l m c d Hl.out Hm.out (by simp) (by simp)).mono ?_; rintro e W1 ⟨q, rfl, hq, hb1⟩; replace hq := Lib.hid hq; have hB1 := Lib.hid (Box.begin hb1); have hc1 := hB1.out.2.2; clear hb1)
    | (go_at_call 5; refine (works_any (lie_below Ht.out hB1.out.1)).mono ?_; rintro e W2 ⟨rfl, hb2⟩; have hB2 := Lib.hid (hB1.out.on hb2); clear hb2)
    | (go_at_call 6; refine (Hd.out _ hB1.out.1 (hq.out (by assumption))).mono ?_; rintro e W3 ⟨rfl, hb3⟩; have hB3 := Lib.hid (hB1.out.on hb3); have hc3 := hB3.out.2.2; have hz3 := hB3.out.2.1; clear hb3 hc1)
    | (go_at_call 7; refine (when_nil _).mono ?_; rintro e w' ⟨rfl, rfl⟩)
    | (go_at_call 8; refine (path_nil _ _).mono ?_; rintro e w' ⟨rfl, rfl⟩)
    | (go_at_call 9; refine (same_zero _).mono ?_; rintro e W4 ⟨rfl, hb4⟩; have hB4 := Lib.hid ((hB3.out.alloc _).on hb4); clear hb4)
    | (go_at_call 10; refine (state_nil _).mono ?_; rintro e w' ⟨rfl, rfl⟩)
    | (go_at_call 11; refine (output_nil _).mono ?_; rintro e w' ⟨rfl, rfl⟩)
    | (go_at_call 12; refine (held_nil _).mono ?_; rintro e w' ⟨rfl, rfl⟩)
    | (go_at_call 5; refine (works_any (lie_below Ht.out hB4.out.1)).mono ?_; rintro e W5 ⟨rfl, hb5⟩; have hB5 := Lib.hid (hB4.out.on hb5); clear hb5))
  all_goals
    go_ret
    first
      | exact ⟨rfl, hB2.out.1⟩
      | exact ⟨rfl, hB5.out.1⟩
set_option maxHeartbeats 1000000 in
theorem end_input (hl : (l : Int) ≤ 9223372036854775807) (hm : (m : Int) ≤ 9223372036854775807) (ht : tabs.lie w)
    (hd : ∀ W, Below w.heap.size w W → l ≤ 32768 ∧ m ≤ 32768 → Calls Tryz.prog 6 #[.pointer none, .agg #[.int .i64 6, c1, c2, c3, c4, c5, .int .u16 s, .bool b, .slice A l c, c9, c10, .slice B m d, c12, c13], .int .i64 5] W (Gave 2 W)) :
    Calls Tryz.prog 3 #[.agg #[.int .i64 6, c1, c2, c3, c4, c5, .int .u16 s, .bool b, .slice A l c, c9, c10, .slice B m d, c12, c13]] w (Yes w) := by
  have Ht := Lib.hid ht
  have Hd := Lib.hid hd
  have Hl := Lib.hid hl
  have Hm := Lib.hid hm
  clear ht hd hl hm
  go_enter Tryz.func3, Tryz.ntmps3
  go_wp2_with (first
    | (go_at_call 4; refine (vast_any _ (w.heap.size + 1) A B l m c d Hl.out Hm.out (by simp) (by simp)).mono ?_; rintro e W1 ⟨q, rfl, hq, hb1⟩; replace hq := Lib.hid hq; have hB1 := Lib.hid (Box.begin hb1); have hc1 := hB1.out.2.2; clear hb1)
    | (go_at_call 5; refine (works_any (lie_below Ht.out hB1.out.1)).mono ?_; rintro e W2 ⟨rfl, hb2⟩; have hB2 := Lib.hid (hB1.out.on hb2); clear hb2)
    | (go_at_call 6; refine (Hd.out _ hB1.out.1 (hq.out (by assumption))).mono ?_; rintro e W3 ⟨rfl, hb3⟩; have hB3 := Lib.hid (hB1.out.on hb3); have hc3 := hB3.out.2.2; have hz3 := hB3.out.2.1; clear hb3 hc1)
    | (go_at_call 7; refine (when_nil _).mono ?_; rintro e w' ⟨rfl, rfl⟩)
    | (go_at_call 8; refine (path_nil _ _).mono ?_; rintro e w' ⟨rfl, rfl⟩)
    | (go_at_call 9; refine (same_zero _).mono ?_; rintro e W4 ⟨rfl, hb4⟩; have hB4 := Lib.hid ((hB3.out.alloc _).on hb4); clear hb4)
    | (go_at_call 10; refine (state_nil _).mono ?_; rintro e w' ⟨rfl, rfl⟩)
    | (go_at_call 11; refine (output_nil _).mono ?_; rintro e w' ⟨rfl, rfl⟩)
    | (go_at_call 12; refine (held_nil _).mono ?_; rintro e w' ⟨rfl, rfl⟩)
    | (go_at_call 5; refine (works_any (lie_below Ht.out hB4.out.1)).mono ?_; rintro e W5 ⟨rfl, hb5⟩; have hB5 := Lib.hid (hB4.out.on hb5); clear hb5))
  all_goals
    go_ret
    first
      | exact ⟨rfl, hB2.out.1⟩
      | exact ⟨rfl, hB5.out.1⟩
set_option maxHeartbeats 1000000 in
theorem end_other (k : Int) (k0 : (k == 0) = false) (k1 : (k == 1) = false) (k3 : (k == 3) = false) (k4 : (k == 4) = false) (k6 : (k == 6) = false) (hl : (l : Int) ≤ 9223372036854775807) (hm : (m : Int) ≤ 9223372036854775807) (ht : tabs.lie w)
    (hd : ∀ W, Below w.heap.size w W → l ≤ 32768 ∧ m ≤ 32768 → Calls Tryz.prog 6 #[.pointer none, .agg #[.int .i64 k, c1, c2, c3, c4, c5, .int .u16 s, .bool b, .slice A l c, c9, c10, .slice B m d, c12, c13], .int .i64 5] W (Gave 0 W)) :
    Calls Tryz.prog 3 #[.agg #[.int .i64 k, c1, c2, c3, c4, c5, .int .u16 s, .bool b, .slice A l c, c9, c10, .slice B m d, c12, c13]] w (Yes w) := by
  have Ht := Lib.hid ht
  have Hd := Lib.hid hd
  have Hl := Lib.hid hl
  have Hm := Lib.hid hm
  clear ht hd hl hm
  go_enter Tryz.func3, Tryz.ntmps3
  go_wp2_with (first
    | (go_at_call 4; refine (vast_any _ (w.heap.size + 1) A B l m c d Hl.out Hm.out (by simp) (by simp)).mono ?_; rintro e W1 ⟨q, rfl, hq, hb1⟩; replace hq := Lib.hid hq; have hB1 := Lib.hid (Box.begin hb1); have hc1 := hB1.out.2.2; clear hb1)
    | (go_at_call 5; refine (works_any (lie_below Ht.out hB1.out.1)).mono ?_; rintro e W2 ⟨rfl, hb2⟩; have hB2 := Lib.hid (hB1.out.on hb2); clear hb2)
    | (go_at_call 6; refine (Hd.out _ hB1.out.1 (hq.out (by assumption))).mono ?_; rintro e W3 ⟨rfl, hb3⟩; have hB3 := Lib.hid (hB1.out.on hb3); have hc3 := hB3.out.2.2; have hz3 := hB3.out.2.1; clear hb3 hc1)
    | (go_at_call 7; refine (when_nil _).mono ?_; rintro e w' ⟨rfl, rfl⟩)
    | (go_at_call 8; refine (path_nil _ _).mono ?_; rintro e w' ⟨rfl, rfl⟩)
    | (go_at_call 9; refine (same_zero _).mono ?_; rintro e W4 ⟨rfl, hb4⟩; have hB4 := Lib.hid ((hB3.out.alloc _).on hb4); clear hb4)
    | (go_at_call 10; refine (state_nil _).mono ?_; rintro e w' ⟨rfl, rfl⟩)
    | (go_at_call 11; refine (output_nil _).mono ?_; rintro e w' ⟨rfl, rfl⟩)
    | (go_at_call 12; refine (held_nil _).mono ?_; rintro e w' ⟨rfl, rfl⟩)
    | (go_at_call 5; refine (works_any (lie_below Ht.out hB4.out.1)).mono ?_; rintro e W5 ⟨rfl, hb5⟩; have hB5 := Lib.hid (hB4.out.on hb5); clear hb5))
  all_goals
    go_ret
    first
      | exact ⟨rfl, hB2.out.1⟩
      | exact ⟨rfl, hB5.out.1⟩
end
end Go.Proofs.YthlggkkagjfelaaGreatDoor
