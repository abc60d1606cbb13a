/- The walks of what is done with no end: what takes bytes. -/
import Derived.Test.YthlggkkagjfelaaGreatDoorEnWalkC
import Derived.Laws.AppendOwnNone
import Derived.Lib.Hide
namespace Go.Proofs.YthlggkkagjfelaaGreatDoor
open Go.RowKit
theorem Tryz.info5 : (Tryz.prog.info? 5).map (fun i => (i.zero, i.size, i.bytes)) = some (some (.int .u8 0), 1, 1) := by kernel_rfl
section
variable (c1 c2 c3 c4 c5 c6 c7 c8 c9 c10 c11 c12 c13 : Value) (w : World)
set_option maxRecDepth 100000
set_option maxHeartbeats 400000 in
theorem does_input_nil : Calls Tryz.prog 6 #[.pointer none, .agg #[.int .i64 6, c1, c2, c3, c4, c5, c6, c7, c8, c9, c10, .slice none 0 0, c12, c13], .int .i64 5] w (Gave 2 w) := by
  go_enter Tryz.func6, Tryz.ntmps6
  go_wp2_with (go_at_call 19; refine (input_nil _ _ _ _).mono ?_; rintro e w' ⟨rfl, rfl⟩)
  refine wp_loop_rounds 1 ?_
  rw [rounds_succ]
  go_wp2
  refine bodyPost_ret (v := .tuple #[.agg #[.int .u16 0, .bool false, .slice none 0 0], .bool false, .int .i64 2]) (by simp [results, Tryz.results6, go_sem]) rfl ⟨rfl, ?_⟩
  exact (((Below.refl _ _).alloc (Nat.le_refl _) _).alloc (by simp) _).alloc (by simp; omega) _
theorem own_made (W : World) (g : Nat) (hg : W.heap[g]? = some (.cells #[] 5)) : W.ownsRow g 5 1 (.slice (some ⟨g, 0, none⟩) 0 0) 0 [] :=
  ⟨rfl, .inr ⟨g, 0, #[], rfl, Nat.le_refl _, hg, Nat.le_refl _, Nat.zero_le _, rfl, rfl⟩⟩
theorem bel3 (w : World) (a b c : Obj) : Below w.heap.size w (((w.alloc a).alloc b).alloc c) := (((Below.refl _ _).alloc (Nat.le_refl _) _).alloc (by simp) _).alloc (by simp; omega) _
theorem base3 (w : World) (a b c : Obj) : w.heap.size + 1 + 1 ≤ (((w.alloc a).alloc b).alloc c).heap.size := by simp
theorem src_of {w W : World} {ad : Addr} {news : List Value} (hW : Below w.heap.size w W) (Hn : Hid (∀ j u, news[j]? = some u → w.cell? (ad.add j) = some u)) (j : Nat) (u : Value) (hu : news[j]? = some u) : W.cell? (ad.add j) = some u := by
  have h2 := Hn.out j u hu
  rw [← h2]
  exact hW.cell (World.block_lt_of_cell? w _ h2)
theorem few {m : Nat} (hm : m ≤ 32768) : 0 + m ≤ maxLen := by unfold maxLen; omega
theorem few2 {m : Nat} (hm : m ≤ 32768) : (0 + m) * 1 ≤ 140737488355328 := by omega
theorem own_made3 (w : World) (a b : Obj) : (((w.alloc a).alloc b).alloc (.cells #[] 5)).ownsRow (w.heap.size + 1 + 1) 5 1 (.slice (some ⟨w.heap.size + 1 + 1, 0, none⟩) 0 0) 0 [] :=
  by
  have h : ((w.alloc a).alloc b).heap.size = w.heap.size + 1 + 1 := by simp
  rw [← h]
  exact own_made _ _ (heap_alloc_new _ _)
theorem heap3 (w : World) (a b c : Obj) : (((w.alloc a).alloc b).alloc c).heap[w.heap.size]? = some a ∧ (((w.alloc a).alloc b).alloc c).heap[w.heap.size + 1]? = some b := by
  have h1 : (w.alloc a).heap.size = w.heap.size + 1 := by simp
  have h2 : ((w.alloc a).alloc b).heap.size = w.heap.size + 1 + 1 := by simp
  constructor
  · rw [Below.heap_alloc _ _ _ (by omega), Below.heap_alloc _ _ _ (by omega)]
    exact heap_alloc_new _ _
  · rw [Below.heap_alloc _ _ _ (by omega), ← h1]
    exact heap_alloc_new _ _
/-- Behind the append: a row of the call's own; the blocks ahead of it are as they were. -/
def Facts (w w1 : World) (os zs : Array Value) (g m : Nat) : Prop := w.heap.size + 1 < g ∧ (∃ cur, w1.heap[g]? = some (.cells cur 5 (0, 0)) ∧ m ≤ cur.size) ∧ Below w.heap.size w w1 ∧ w.heap.size + 3 ≤ w1.heap.size ∧
  (∀ o, w1.cell? ⟨w.heap.size, o, none⟩ = os[o]?) ∧ w1.heap[w.heap.size + 1]? = some (.cells zs 26 (0, 0))
theorem own_facts {w w1 : World} {v' : Value} {m : Nat} {news : List Value} {os zs : Array Value} (hown : w1.ownsRow (w.heap.size + 1 + 1) 5 1 v' (0 + m) ([] ++ news))
    (hg : (((w.alloc (.cells os 28)).alloc (.cells zs 26)).alloc (.cells #[] 5)).grownBy w1 (some (w.heap.size + 1 + 1))) (hn : v' = .slice none 0 0 ↔ (Value.slice (some ⟨w.heap.size + 1 + 1, 0, none⟩) 0 0) = .slice none 0 0 ∧ m = 0) :
    ∃ g cap, v' = .slice (some ⟨g, 0, none⟩) m cap ∧ Facts w w1 os zs g m := by
  obtain ⟨_, ⟨h, _⟩ | ⟨g, cap, cur, rfl, h1, h2, h3, h4, h5, _⟩⟩ := hown
  · have := (hn.1 h).1; cases this
  · have hb : ∀ k, k < w.heap.size + 2 → w1.heap[k]? = (((w.alloc (.cells os 28)).alloc (.cells zs 26)).alloc (.cells #[] 5)).heap[k]? := fun k hk => hg.block k (by simp; omega) (fun e => by injection e with e; omega)
    have hz : (((w.alloc (.cells os 28)).alloc (.cells zs 26)).alloc (.cells #[] 5)).heap.size = w.heap.size + 3 := by simp
    refine ⟨g, cap, by rw [Nat.zero_add], by omega, ⟨cur, h2, by omega⟩, ?_, by have := hg.size; omega, fun o => ?_, ?_⟩
    · exact (bel3 w _ _ _).trans ⟨hg.os, hg.tape, hg.output, hg.size, fun k hk => hb k (by omega)⟩
    · have := (hb w.heap.size (by omega)).trans (heap3 _ _ _ _).1
      exact cell_of_row _ _ _ _ _ _ this
    · exact (hb _ (by omega)).trans (heap3 _ _ _ _).2
theorem Facts.set_ {w wr : World} {os zs : Array Value} {g m k : Nat} (h : Facts w wr os zs g m) (u : Value) : Facts w (wr.setCell ⟨g, k, none⟩ u) os zs g m := by
  obtain ⟨h1, ⟨cur, h2, h3⟩, h4, h5, h6, h7⟩ := h
  refine ⟨h1, ⟨cur.setIfInBounds k u, ?_, by simpa using h3⟩, h4.setCell (by show w.heap.size ≤ g; omega) u, by simpa [World.setCell] using h5, fun o => ?_, ?_⟩
  · simp [World.setCell, Array.getElem?_modify, h2]
  · rw [← h6 o]
    exact World.cell?_of_block (Below.heap_setCell _ _ _ _ (by show w.heap.size ≠ g; omega))
  · rw [Below.heap_setCell _ _ _ _ (by show w.heap.size + 1 ≠ g; omega)]
    exact h7
theorem Facts.cell_ {w wr : World} {os zs : Array Value} {g m k : Nat} (h : Facts w wr os zs g m) (hk : k < m) : ∃ u, wr.cell? ⟨g, k, none⟩ = some u ∧ wr.frozen? ⟨g, k, none⟩ = false := by
  obtain ⟨h1, ⟨cur, h2, h3⟩, _⟩ := h
  refine ⟨cur[k]'(by omega), ?_, ?_⟩
  · rw [cell_of_row _ _ _ _ _ _ h2]
    exact Array.getElem?_eq_getElem (by omega)
  · simp [World.frozen?, h2]
theorem Facts.end_ {w wr : World} {os zs : Array Value} {g m : Nat} (h : Facts w wr os zs g m) (o : Nat) : wr.cell? ⟨w.heap.size + 1, o, none⟩ = zs[o]? ∧ wr.frozen? ⟨w.heap.size + 1, o, none⟩ = false := by
  obtain ⟨_, _, _, _, _, h7⟩ := h
  exact ⟨cell_of_row _ _ _ _ _ _ h7, by simp [World.frozen?, h7]⟩
set_option maxHeartbeats 400000 in
theorem does_input_some (ad : Addr) (m d : Nat) (news : List Value) (hl : news.length = m * 1) (hn : ∀ j u, news[j]? = some u → w.cell? (ad.add j) = some u) (h1 : ∀ u ∈ news, u.oneCell' = true) (hm : m ≤ 32768) :
    Calls Tryz.prog 6 #[.pointer none, .agg #[.int .i64 6, c1, c2, c3, c4, c5, c6, c7, c8, c9, c10, .slice (some ad) m d, c12, c13], .int .i64 5] w (Gave 2 w) := by
  obtain ⟨i0, hi, hz0, hz1, hz2⟩ := info_parts Tryz.info5
  have Hl := Lib.hid hl
  have Hn := Lib.hid hn
  have H1 := Lib.hid h1
  clear hl hn h1
  go_enter Tryz.func6, Tryz.ntmps6
  go_wp2_with (first
    | (at_builtin; refine wpList_append_own _ rfl _ _ 24 rfl (w.heap.size + 1 + 1) 5 i0 (.int .u8 0) 1 1 Tryz.underlying24 hi hz0 hz1 hz2 rfl (by decide) _ _ _ rfl (own_made3 _ _ _) ad m d news rfl Hl.out (src_of (bel3 _ _ _ _) Hn) H1.out (few hm) (few2 hm) (base3 _ _ _ _) ?_; intro v' w1 hown hgrow hnn; obtain ⟨g, cap, rfl, HF⟩ := own_facts hown hgrow hnn; clear hown hgrow hnn; have hc10 : w1.cell? ⟨w.heap.size, 10, none⟩ = some c10 := HF.2.2.2.2.1 10; replace HF := Lib.hid HF)
    | (go_at_call 19; refine (input_nil _ _ _ _).mono ?_; rintro e w' ⟨rfl, rfl⟩))
  go_loopw [16] (fun i wr => ∃ k : Nat, k ≤ m ∧ i = .int .i64 k ∧ Hid (Facts w wr #[.int .i64 6, c1, c2, c3, c4, c5, c6, c7, c8, c9, c10, .slice (some ad) m d, c12, c13] #[.int .u16 0, .bool false, .slice none 0 0] g m)) (fun i _ => m - (intOf i).toNat)
  case atStart => exact ⟨0, Nat.zero_le _, rfl, HF⟩
  case round =>
    obtain ⟨k, hk, rfl, HG⟩ := hrel
    clear HF hc10
    by_cases hlt : k < m
    · obtain ⟨u, hu, hfu⟩ := HG.out.cell_ hlt
      go_wp2
      go_roundw
      case rel => exact ⟨k + 1, by omega, by go_num, HG.out.set_ _⟩
      case measure => simp [intOf]; omega
    · have e0 := (HG.out.end_ 0).1
      have e1 := (HG.out.end_ 1).1
      have e2 := (HG.out.end_ 2).1
      have f0 := (HG.out.end_ 0).2
      have f1 := (HG.out.end_ 1).2
      have f2 := (HG.out.end_ 2).2
      go_wp2
      refine bodyPost_ret (v := .tuple #[.agg #[.int .u16 0, .bool false, .slice none 0 0], .bool false, .int .i64 2]) (by simp [results, Tryz.results6, go_sem, e0, e1, e2, f0, f1, f2]) rfl ⟨rfl, ?_⟩
      exact ((HG.out.2.2.1.setCell (by simp) _).setCell (by simp) _).setCell (by simp) _
/-! ### A message is sent -/
theorem bel4 (w : World) (a b c d : Obj) : Below w.heap.size w ((((w.alloc a).alloc b).alloc c).alloc d) := (bel3 w a b c).alloc (by simp; omega) _
theorem base4 (w : World) (a b c d : Obj) : w.heap.size + 1 + 1 + 1 ≤ ((((w.alloc a).alloc b).alloc c).alloc d).heap.size := by simp
theorem own_made4 (w : World) (a b c : Obj) : ((((w.alloc a).alloc b).alloc c).alloc (.cells #[] 5)).ownsRow (w.heap.size + 1 + 1 + 1) 5 1 (.slice (some ⟨w.heap.size + 1 + 1 + 1, 0, none⟩) 0 0) 0 [] := by
  have h : (((w.alloc a).alloc b).alloc c).heap.size = w.heap.size + 1 + 1 + 1 := by simp
  rw [← h]
  exact own_made _ _ (heap_alloc_new _ _)
theorem heap4 (w : World) (a b c d : Obj) : ((((w.alloc a).alloc b).alloc c).alloc d).heap[w.heap.size]? = some a ∧ ((((w.alloc a).alloc b).alloc c).alloc d).heap[w.heap.size + 1]? = some b ∧ ((((w.alloc a).alloc b).alloc c).alloc d).heap[w.heap.size + 2]? = some c := by
  have h2 : ((w.alloc a).alloc b).heap.size = w.heap.size + 2 := by simp
  have h3 : (((w.alloc a).alloc b).alloc c).heap.size = w.heap.size + 3 := by simp
  refine ⟨?_, ?_, ?_⟩
  · rw [Below.heap_alloc _ _ _ (by omega)]; exact (heap3 _ _ _ _).1
  · rw [Below.heap_alloc _ _ _ (by omega)]; exact (heap3 _ _ _ _).2
  · rw [Below.heap_alloc _ _ _ (by omega), ← h2]; exact heap_alloc_new _ _
def FactsS (w w1 : World) (os zs ms : Array Value) (g m : Nat) : Prop := w.heap.size + 2 < g ∧ (∃ cur, w1.heap[g]? = some (.cells cur 5 (0, 0)) ∧ m ≤ cur.size) ∧ Below w.heap.size w w1 ∧ w.heap.size + 4 ≤ w1.heap.size ∧
  (∀ o, w1.cell? ⟨w.heap.size, o, none⟩ = os[o]?) ∧ w1.heap[w.heap.size + 1]? = some (.cells zs 26 (0, 0)) ∧ w1.heap[w.heap.size + 2]? = some (.cells ms 26 (0, 0))
theorem own_factsS {w w1 : World} {v' : Value} {m : Nat} {news : List Value} {os zs ms : Array Value} (hown : w1.ownsRow (w.heap.size + 1 + 1 + 1) 5 1 v' (0 + m) ([] ++ news))
    (hg : ((((w.alloc (.cells os 28)).alloc (.cells zs 26)).alloc (.cells ms 26)).alloc (.cells #[] 5)).grownBy w1 (some (w.heap.size + 1 + 1 + 1))) (hn : v' = .slice none 0 0 ↔ (Value.slice (some ⟨w.heap.size + 1 + 1 + 1, 0, none⟩) 0 0) = .slice none 0 0 ∧ m = 0) :
    ∃ g cap, v' = .slice (some ⟨g, 0, none⟩) m cap ∧ FactsS w w1 os zs ms g m := by
  obtain ⟨_, ⟨h, _⟩ | ⟨g, cap, cur, rfl, h1, h2, h3, h4, h5, _⟩⟩ := hown
  · have := (hn.1 h).1; cases this
  · have hz : ((((w.alloc (.cells os 28)).alloc (.cells zs 26)).alloc (.cells ms 26)).alloc (.cells #[] 5)).heap.size = w.heap.size + 4 := by simp
    have hb : ∀ k, k < w.heap.size + 3 → w1.heap[k]? = ((((w.alloc (.cells os 28)).alloc (.cells zs 26)).alloc (.cells ms 26)).alloc (.cells #[] 5)).heap[k]? := fun k hk => hg.block k (by omega) (fun e => by injection e with e; omega)
    refine ⟨g, cap, by rw [Nat.zero_add], by omega, ⟨cur, h2, by omega⟩, ?_, by have := hg.size; omega, fun o => ?_, ?_, ?_⟩
    · exact (bel4 w _ _ _ _).trans ⟨hg.os, hg.tape, hg.output, hg.size, fun k hk => hb k (by omega)⟩
    · have := (hb w.heap.size (by omega)).trans (heap4 _ _ _ _ _).1
      exact cell_of_row _ _ _ _ _ _ this
    · exact (hb _ (by omega)).trans (heap4 _ _ _ _ _).2.1
    · exact (hb _ (by omega)).trans (heap4 _ _ _ _ _).2.2
theorem FactsS.set_ {w wr : World} {os zs ms : Array Value} {g m k : Nat} (h : FactsS w wr os zs ms g m) (u : Value) : FactsS w (wr.setCell ⟨g, k, none⟩ u) os zs ms g m := by
  obtain ⟨h1, ⟨cur, h2, h3⟩, h4, h5, h6, h7, h8⟩ := h
  refine ⟨h1, ⟨cur.setIfInBounds k u, ?_, by simpa using h3⟩, h4.setCell (by show w.heap.size ≤ g; omega) u, by simpa [World.setCell] using h5, fun o => ?_, ?_, ?_⟩
  · simp [World.setCell, Array.getElem?_modify, h2]
  · rw [← h6 o]
    exact World.cell?_of_block (Below.heap_setCell _ _ _ _ (by show w.heap.size ≠ g; omega))
  · rw [Below.heap_setCell _ _ _ _ (by show w.heap.size + 1 ≠ g; omega)]
    exact h7
  · rw [Below.heap_setCell _ _ _ _ (by show w.heap.size + 2 ≠ g; omega)]
    exact h8
theorem FactsS.cell_ {w wr : World} {os zs ms : Array Value} {g m k : Nat} (h : FactsS w wr os zs ms g m) (hk : k < m) : ∃ u, wr.cell? ⟨g, k, none⟩ = some u ∧ wr.frozen? ⟨g, k, none⟩ = false := by
  obtain ⟨h1, ⟨cur, h2, h3⟩, _⟩ := h
  refine ⟨cur[k]'(by omega), ?_, ?_⟩
  · rw [cell_of_row _ _ _ _ _ _ h2]
    exact Array.getElem?_eq_getElem (by omega)
  · simp [World.frozen?, h2]
theorem FactsS.end_ {w wr : World} {os zs ms : Array Value} {g m : Nat} (h : FactsS w wr os zs ms g m) (o : Nat) : wr.cell? ⟨w.heap.size + 1, o, none⟩ = zs[o]? ∧ wr.frozen? ⟨w.heap.size + 1, o, none⟩ = false := by
  obtain ⟨_, _, _, _, _, h7, _⟩ := h
  exact ⟨cell_of_row _ _ _ _ _ _ h7, by simp [World.frozen?, h7]⟩
theorem FactsS.msg {w wr : World} {os zs ms : Array Value} {g m : Nat} (h : FactsS w wr os zs ms g m) (o : Nat) : wr.cell? ⟨w.heap.size + 1 + 1, o, none⟩ = ms[o]? ∧ wr.frozen? ⟨w.heap.size + 1 + 1, o, none⟩ = false := by
  obtain ⟨_, _, _, _, _, _, h8⟩ := h
  exact ⟨cell_of_row _ _ _ _ _ _ h8, by simp [World.frozen?, h8]⟩
/-- The message's bytes are put. -/
theorem FactsS.put {w wr : World} {os zs ms : Array Value} {g m : Nat} (h : FactsS w wr os zs ms g m) (u : Value) (x : Obj) : FactsS w ((wr.setCell ⟨w.heap.size + 1 + 1, 2, none⟩ u).alloc x) os zs (ms.setIfInBounds 2 u) g m := by
  obtain ⟨h1, ⟨cur, h2, h3⟩, h4, h5, h6, h7, h8⟩ := h
  have hz : (wr.setCell ⟨w.heap.size + 1 + 1, 2, none⟩ u).heap.size = wr.heap.size := by simp [World.setCell]
  have hlt : g < wr.heap.size := (Array.getElem?_eq_some_iff.1 h2).1
  have key : ∀ k, k < wr.heap.size → k ≠ w.heap.size + 2 → ((wr.setCell ⟨w.heap.size + 1 + 1, 2, none⟩ u).alloc x).heap[k]? = wr.heap[k]? := fun k hk hne => by
    rw [Below.heap_alloc _ _ _ (by omega), Below.heap_setCell _ _ _ _ (by show k ≠ w.heap.size + 1 + 1; omega)]
  refine ⟨h1, ⟨cur, ?_, h3⟩, (h4.setCell (by show w.heap.size ≤ w.heap.size + 1 + 1; omega) u).alloc (by omega) x, by simp; omega, fun o => ?_, ?_, ?_⟩
  · rw [key g hlt (by omega)]; exact h2
  · rw [← h6 o]
    exact World.cell?_of_block (key _ (by show w.heap.size < _; omega) (by show w.heap.size ≠ _; omega))
  · rw [key _ (by omega) (by omega)]; exact h7
  · rw [Below.heap_alloc _ _ _ (by omega)]
    simp [World.setCell, Array.getElem?_modify, h8]
set_option maxHeartbeats 400000 in
theorem does_send_some (s : Int) (b : Bool) (ad : Addr) (m d : Nat) (news : List Value) (hl : news.length = m * 1) (hn : ∀ j u, news[j]? = some u → w.cell? (ad.add j) = some u) (h1 : ∀ u ∈ news, u.oneCell' = true) (hm : m ≤ 32768) :
    Calls Tryz.prog 6 #[.pointer none, .agg #[.int .i64 1, c1, c2, c3, c4, c5, .int .u16 s, .bool b, .slice (some ad) m d, c9, c10, c11, c12, c13], .int .i64 5] w (Gave 2 w) := by
  obtain ⟨i0, hi, hz0, hz1, hz2⟩ := info_parts Tryz.info5
  have Hl := Lib.hid hl
  have Hn := Lib.hid hn
  have H1 := Lib.hid h1
  clear hl hn h1
  go_enter Tryz.func6, Tryz.ntmps6
  go_wp2_with (first
    | (at_builtin; refine wpList_append_own _ rfl _ _ 24 rfl (w.heap.size + 1 + 1 + 1) 5 i0 (.int .u8 0) 1 1 Tryz.underlying24 hi hz0 hz1 hz2 rfl (by decide) _ _ _ rfl (own_made4 _ _ _ _) ad m d news rfl Hl.out (src_of (bel4 _ _ _ _ _) Hn) H1.out (few hm) (few2 hm) (base4 _ _ _ _ _) ?_; intro v' w1 hown hgrow hnn; obtain ⟨g, cap, rfl, HF⟩ := own_factsS hown hgrow hnn; clear hown hgrow hnn; have hc9 : w1.cell? ⟨w.heap.size, 9, none⟩ = some c9 := HF.2.2.2.2.1 9; have hm0 := (HF.msg 0).1; have hm1 := (HF.msg 1).1; have hm2 := (HF.msg 2).1; have hf2 := (HF.msg 2).2; replace HF := Lib.hid HF)
    | (go_at_call 16; refine (send_nil _ _ _ _ _ _).mono ?_; rintro e w' ⟨rfl, rfl⟩))
  go_loopw [11] (fun i wr => ∃ k : Nat, k ≤ m ∧ i = .int .i64 k ∧ Hid (FactsS w wr #[.int .i64 1, c1, c2, c3, c4, c5, .int .u16 s, .bool b, .slice (some ad) m d, c9, c10, c11, c12, c13] #[.int .u16 0, .bool false, .slice none 0 0] #[.int .u16 s, .bool b, .slice (some ⟨g, 0, none⟩) m cap] g m)) (fun i _ => m - (intOf i).toNat)
  case atStart => exact ⟨0, Nat.zero_le _, rfl, HF.out.put (.slice (some ⟨g, 0, none⟩) m cap) _⟩
  case round =>
    obtain ⟨k, hk, rfl, HG⟩ := hrel
    clear HF hc9 hm0 hm1 hm2 hf2
    have q2 := (HG.out.msg 2).1
    by_cases hlt : k < m
    · obtain ⟨u, hu, hfu⟩ := HG.out.cell_ hlt
      go_wp2
      go_roundw
      case rel => exact ⟨k + 1, by omega, by go_num, HG.out.set_ _⟩
      case measure => simp [intOf]; omega
    · have e0 := (HG.out.end_ 0).1
      have e1 := (HG.out.end_ 1).1
      have e2 := (HG.out.end_ 2).1
      have f0 := (HG.out.end_ 0).2
      have f1 := (HG.out.end_ 1).2
      have f2 := (HG.out.end_ 2).2
      go_wp2
      refine bodyPost_ret (v := .tuple #[.agg #[.int .u16 0, .bool false, .slice none 0 0], .bool false, .int .i64 2]) (by simp [results, Tryz.results6, go_sem, e0, e1, e2, f0, f1, f2]) rfl ⟨rfl, ?_⟩
      exact ((HG.out.2.2.1.setCell (by simp) _).setCell (by simp) _).setCell (by simp) _
set_option maxHeartbeats 400000 in
theorem does_send_nil (s : Int) (b : Bool) : Calls Tryz.prog 6 #[.pointer none, .agg #[.int .i64 1, c1, c2, c3, c4, c5, .int .u16 s, .bool b, .slice none 0 0, c9, c10, c11, c12, c13], .int .i64 5] w (Gave 2 w) := by
  go_enter Tryz.func6, Tryz.ntmps6
  go_wp2_with (go_at_call 16; refine (send_nil _ _ _ _ _ _).mono ?_; rintro e w' ⟨rfl, rfl⟩)
  refine wp_loop_rounds 1 ?_
  rw [rounds_succ]
  go_wp2
  refine bodyPost_ret (v := .tuple #[.agg #[.int .u16 0, .bool false, .slice none 0 0], .bool false, .int .i64 2]) (by simp [results, Tryz.results6, go_sem]) rfl ⟨rfl, ?_⟩
  exact (bel4 _ _ _ _ _).alloc (by simp; omega) _
end
end Go.Proofs.YthlggkkagjfelaaGreatDoor
