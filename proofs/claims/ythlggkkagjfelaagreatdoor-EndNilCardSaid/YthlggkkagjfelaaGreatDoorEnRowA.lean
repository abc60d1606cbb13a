/- No end does anything: for every event done with no end, the answers are those of the document's section on errors, and two ends meet and a message comes over. CONDITIONS: the tables of the hash hold what the program's text lays (the card ties them to it). -/
import Derived.Test.YthlggkkagjfelaaGreatDoorEnWalkE
import Derived.Test.YthlggkkagjfelaaGreatDoorExH
import Derived.Test.YthlggkkagjfelaaGreatDoorCards
import Derived.Test.YthlggkkagjfelaaGreatDoorTie
import Derived.ProofKit
import Derived.OpenShut
import Derived.Deep.DeepHandedRow
import Derived.Lib.SmallJoins
namespace Go.Proofs.YthlggkkagjfelaaGreatDoor
open Go.ChangeShapes Go.WideShapes Go.ChangeAt Go.RowKit
open Go.Ex (u32v)

theorem own : ownKnob Tryz.prog.godebug = none := by kernel_rfl
theorem gFirst : Tryz.prog.globalNamed "fairlead/sha.first" = some 0 := by kernel_rfl
theorem gTable : Tryz.prog.globalNamed "fairlead/sha.table" = some 1 := by kernel_rfl
theorem laidTable : (Rows.laid_fairlead_sha_table : DataW Unit) = Lib.tabData .u32 (table.map Int.ofNat) := by rfl
theorem laidFirst : (Rows.laid_fairlead_sha_first : DataW Unit) = Lib.tabData .u32 (first.map Int.ofNat) := by rfl
theorem tFirst : (Tryz.prog.globals[0]?).map (·.type) = some 414 := by kernel_rfl
theorem tTable : (Tryz.prog.globals[1]?).map (·.type) = some 420 := by kernel_rfl
theorem cells28 : Tryz.prog.cellsOf 28 = 14 := by kernel_rfl
theorem cells26 : Tryz.prog.cellsOf 26 = 3 := by kernel_rfl
theorem cells3 : Tryz.prog.cellsOf 3 = 1 := by kernel_rfl
theorem cells4 : Tryz.prog.cellsOf 4 = 1 := by kernel_rfl
theorem cells5 : Tryz.prog.cellsOf 5 = 1 := by kernel_rfl
theorem cells22 : Tryz.prog.cellsOf 22 = 1 := by kernel_rfl
theorem cells23 : Tryz.prog.cellsOf 23 = 1 := by kernel_rfl
theorem cells24 : Tryz.prog.cellsOf 24 = 1 := by kernel_rfl
theorem cells414 : Tryz.prog.cellsOf 414 = 8 := by kernel_rfl
theorem cells420 : Tryz.prog.cellsOf 420 = 64 := by kernel_rfl

/-- What the row's list gives: the tables lie there. -/
theorem tables {W : World} (h : laidMetH Tryz.prog Rows.endNilRow.laid W) : tabs.lie W := by
  have h0 : laidMet Tryz.prog (("fairlead/sha.table", Lib.tabData .u32 (table.map Int.ofNat)) :: [("fairlead/sha.first", Lib.tabData .u32 (first.map Int.ofNat))]) W := by
    rw [← laidTable, ← laidFirst]
    exact h
  have h1 := Go.Ex.lie_head (g := 1) (by decide) (by simp [table]) gTable tTable Tryz.underlying420 Tryz.underlying23 cells23 cells420 h0
  have h2 := Go.Ex.lie_head (g := 0) (by decide) (by simp [first]) gFirst tFirst Tryz.underlying414 Tryz.underlying23 cells23 cells414 h0.tail
  intro g l hg
  simp only [tabs, List.mem_cons, List.not_mem_nil, or_false, Prod.mk.injEq] at hg
  rcases hg with ⟨rfl, rfl⟩ | ⟨rfl, rfl⟩
  · exact h2
  · exact h1

/-- Bytes as they lie: none, or cells that are known. -/
def BytesAt (w : World) (v : Value) (l : Nat) : Prop := (v = .slice none 0 0 ∧ l = 0) ∨ ∃ (ad : Addr) (d : Nat) (news : List Value), v = .slice (some ad) l d ∧ news.length = l * 1 ∧ (∀ j u, news[j]? = some u → w.cell? (ad.add j) = some u) ∧ ∀ u ∈ news, u.oneCell' = true
theorem bytes_of {H : Type} {enc : TypeId × Value → H} {w : World} {fuel : Nat} {v : Value} {x : DataW H × List MemPlace} (h : DataW.trod enc Tryz.prog w 0 (fun _ => true) true fuel 24 [v] = some x) :
    ∃ A l d, v = .slice A l d ∧ (l : Int) ≤ 9223372036854775807 ∧ BytesAt w (.slice A l d) l := by
  rcases open_ints Tryz.underlying24 Tryz.underlying5 cells5 h with ⟨hcs, _⟩ | ⟨a, len, cap, zs, hcs, _, hl, hm, hz, _, hcell, _⟩
  · simp only [List.cons.injEq, and_true] at hcs
    subst hcs
    exact ⟨none, 0, 0, rfl, by decide, Or.inl ⟨rfl, rfl⟩⟩
  · simp only [List.cons.injEq, and_true] at hcs
    subst hcs
    have hz : zs.length = cap := hz
    refine ⟨some a, len, cap, rfl, by unfold maxLen at hm; omega, Or.inr ⟨a, cap, (zs.take len).map (Value.int .u8), rfl, by simp; omega, fun j u hu => ?_, fun u hu => ?_⟩⟩
    · simp only [List.getElem?_map, List.getElem?_take] at hu
      split at hu
      · have hj : j < zs.length := by omega
        rw [hcell j hj]
        simp only [List.getD, List.getElem?_eq_getElem hj, Option.map_some, Option.some.injEq, Option.getD_some] at hu ⊢
        exact hu
      · cases hu
    · obtain ⟨z, _, rfl⟩ := List.mem_map.1 hu
      rfl
set_option maxRecDepth 100000 in
/-- An event that came in, opened. -/
theorem op_open {H : Type} {enc : TypeId × Value → H} {W : World} {base : Nat} {v : Value} {d : DataW H} {p : List MemPlace} (hv : Value.okWide Tryz.prog W .any base 28 v) (h : DataW.Trod enc Tryz.prog W 0 (fun _ => true) true 28 v d p) :
    ∃ (k s : Int) (b : Bool) (c1 c2 c3 c4 c5 c9 c10 c12 c13 : Value) (A B : Option Addr) (l m c e : Nat), v = .agg #[.int .i64 k, c1, c2, c3, c4, c5, .int .u16 s, .bool b, .slice A l c, c9, c10, .slice B m e, c12, c13] ∧
      (l : Int) ≤ 9223372036854775807 ∧ (m : Int) ≤ 9223372036854775807 ∧ BytesAt W (.slice A l c) l ∧ BytesAt W (.slice B m e) m := by
  obtain ⟨cs, rfl, hsz⟩ := okWide_struct Tryz.underlying28 hv
  obtain ⟨q⟩ := cs
  match q, hsz.trans cells28 with
  | [x0, x1, x2, x3, x4, x5, x6, x7, x8, x9, x10, x11, x12, x13], _ =>
    obtain ⟨fuel, hf⟩ := h
    obtain ⟨xs, n, _, _, _, hlen, hg⟩ := DataW.trod_struct Tryz.underlying28 hf
    match xs, hlen with
    | [y0, y1, y2, y3, y4, y5, y6, y7, y8, y9, y10, y11], _ =>
      have h0 : DataW.trod enc Tryz.prog W 0 (fun _ => true) true n 3 ((([x0, x1, x2, x3, x4, x5, x6, x7, x8, x9, x10, x11, x12, x13] : List Value).drop 0).take (Tryz.prog.cellsOf 3)) = some y0 := hg 0 _ rfl
      have h6 : DataW.trod enc Tryz.prog W 0 (fun _ => true) true n 26 ((([x0, x1, x2, x3, x4, x5, x6, x7, x8, x9, x10, x11, x12, x13] : List Value).drop 6).take (Tryz.prog.cellsOf 26)) = some y6 := hg 6 _ rfl
      have h9 : DataW.trod enc Tryz.prog W 0 (fun _ => true) true n 24 ((([x0, x1, x2, x3, x4, x5, x6, x7, x8, x9, x10, x11, x12, x13] : List Value).drop 11).take (Tryz.prog.cellsOf 24)) = some y9 := hg 9 _ rfl
      rw [cells3] at h0
      rw [cells26] at h6
      rw [cells24] at h9
      replace h0 : DataW.trod enc Tryz.prog W 0 (fun _ => true) true n 3 [x0] = some y0 := h0
      replace h6 : DataW.trod enc Tryz.prog W 0 (fun _ => true) true n 26 [x6, x7, x8] = some y6 := h6
      replace h9 : DataW.trod enc Tryz.prog W 0 (fun _ => true) true n 24 [x11] = some y9 := h9
      obtain ⟨k, e0, _, _⟩ := DataW.trod_int Tryz.underlying3 h0
      obtain ⟨ms, n', _, _, _, hlen', hg'⟩ := DataW.trod_struct Tryz.underlying26 h6
      match ms, hlen' with
      | [z0, z1, z2], _ =>
        have g0 : DataW.trod enc Tryz.prog W 0 (fun _ => true) true n' 22 ((([x6, x7, x8] : List Value).drop 0).take (Tryz.prog.cellsOf 22)) = some z0 := hg' 0 _ rfl
        have g1 : DataW.trod enc Tryz.prog W 0 (fun _ => true) true n' 4 ((([x6, x7, x8] : List Value).drop 1).take (Tryz.prog.cellsOf 4)) = some z1 := hg' 1 _ rfl
        have g2 : DataW.trod enc Tryz.prog W 0 (fun _ => true) true n' 24 ((([x6, x7, x8] : List Value).drop 2).take (Tryz.prog.cellsOf 24)) = some z2 := hg' 2 _ rfl
        rw [cells22] at g0
        rw [cells4] at g1
        rw [cells24] at g2
        replace g0 : DataW.trod enc Tryz.prog W 0 (fun _ => true) true n' 22 [x6] = some z0 := g0
        replace g1 : DataW.trod enc Tryz.prog W 0 (fun _ => true) true n' 4 [x7] = some z1 := g1
        replace g2 : DataW.trod enc Tryz.prog W 0 (fun _ => true) true n' 24 [x8] = some z2 := g2
        obtain ⟨s, e6, _, _⟩ := DataW.trod_int Tryz.underlying22 g0
        obtain ⟨b, e7, _⟩ := DataW.trod_bool Tryz.underlying4 g1
        obtain ⟨A, l, c, e8, hl, hA⟩ := bytes_of g2
        obtain ⟨B, m, e, e11, hm, hB⟩ := bytes_of h9
        simp only [List.cons.injEq, and_true] at e0 e6 e7
        subst e0; subst e6; subst e7; subst e8; subst e11
        exact ⟨k, s, b, x1, x2, x3, x4, x5, x9, x10, x12, x13, A, B, l, m, c, e, rfl, hl, hm, hA, hB⟩
/-- What is done with no end gives no message, at each kind of event. -/
theorem BytesAt.on {w w' : World} {v : Value} {l : Nat} (h : BytesAt w v l) (hb : Below w.heap.size w w') : BytesAt w' v l := by
  rcases h with h | ⟨ad, d, news, h1, h2, h3, h4⟩
  · exact Or.inl h
  · exact Or.inr ⟨ad, d, news, h1, h2, fun j u hu => (hb.cell (World.block_lt_of_cell? w _ (h3 j u hu))).trans (h3 j u hu), h4⟩
theorem walk {w : World} (ht : tabs.lie w) (k s : Int) (b : Bool) (c1 c2 c3 c4 c5 c9 c10 c12 c13 : Value) (A B : Option Addr) (l m c e : Nat) (hl : (l : Int) ≤ 9223372036854775807) (hm : (m : Int) ≤ 9223372036854775807)
    (hA : BytesAt w (.slice A l c) l) (hB : BytesAt w (.slice B m e) m) :
    Calls Tryz.prog 3 #[.agg #[.int .i64 k, c1, c2, c3, c4, c5, .int .u16 s, .bool b, .slice A l c, c9, c10, .slice B m e, c12, c13]] w (Yes w) := by
  by_cases k0 : k = 0
  · subst k0; exact end_open c1 c2 c3 c4 c5 c9 c10 c12 c13 s b A B l m c e w hl hm ht fun W _ _ => does_open _ _ _ _ _ _ _ _ _ _ _ _ _ _
  by_cases k1 : k = 1
  · subst k1
    refine end_send c1 c2 c3 c4 c5 c9 c10 c12 c13 s b A B l m c e w hl hm ht fun W hb hq => ?_
    rcases hA.on hb with ⟨h1, h2⟩ | ⟨ad, d, news, h1, h2, h3, h4⟩
    · injection h1 with h1 h2 h3
      subst h1; subst h2; subst h3
      exact does_send_nil _ _ _ _ _ _ _ _ _ _ _ _ _
    · injection h1 with h1 _ h5
      subst h1; subst h5
      exact does_send_some _ _ _ _ _ _ _ _ _ _ _ _ _ _ _ _ _ h2 h3 h4 hq.1
  by_cases k2 : k = 2
  · subst k2; exact end_receive c1 c2 c3 c4 c5 c9 c10 c12 c13 s b A B l m c e w hl hm ht fun W _ _ => does_receive _ _ _ _ _ _ _ _ _ _ _ _ _ _
  by_cases k3 : k = 3
  · subst k3; exact end_shutdown c1 c2 c3 c4 c5 c9 c10 c12 c13 s b A B l m c e w hl hm ht fun W _ _ => does_shutdown _ _ _ _ _ _ _ _ _ _ _ _ _ _
  by_cases k4 : k = 4
  · subst k4; exact end_abort c1 c2 c3 c4 c5 c9 c10 c12 c13 s b A B l m c e w hl hm ht fun W _ _ => does_abort _ _ _ _ _ _ _ _ _ _ _ _ _ _
  by_cases k5 : k = 5
  · subst k5; exact end_tick c1 c2 c3 c4 c5 c9 c10 c12 c13 s b A B l m c e w hl hm ht fun W _ _ => does_tick _ _ _ _ _ _ _ _ _ _ _ _ _ _
  by_cases k6 : k = 6
  · subst k6
    refine end_input c1 c2 c3 c4 c5 c9 c10 c12 c13 s b A B l m c e w hl hm ht fun W hb hq => ?_
    rcases hB.on hb with ⟨h1, h2⟩ | ⟨ad, d, news, h1, h2, h3, h4⟩
    · injection h1 with h1 h2 h3
      subst h1; subst h2; subst h3
      exact does_input_nil _ _ _ _ _ _ _ _ _ _ _ _ _
    · injection h1 with h1 _ h5
      subst h1; subst h5
      exact does_input_some _ _ _ _ _ _ _ _ _ _ _ _ _ _ _ _ _ h2 h3 h4 hq.2
  · have b0 : (k == 0) = false := by simpa using k0
    have b1 : (k == 1) = false := by simpa using k1
    have b2 : (k == 2) = false := by simpa using k2
    have b3 : (k == 3) = false := by simpa using k3
    have b4 : (k == 4) = false := by simpa using k4
    have b5 : (k == 5) = false := by simpa using k5
    have b6 : (k == 6) = false := by simpa using k6
    exact end_other c1 c2 c3 c4 c5 c9 c10 c12 c13 s b A B l m c e w k b0 b1 b3 b4 b6 hl hm ht fun W _ _ => does_other _ _ _ _ _ _ _ _ _ _ _ _ _ _ k b0 b1 b2 b3 b4 b5 b6

set_option maxRecDepth 100000 in
/-- What the walks give, for every argument and every world that holds the tables. -/
theorem contract (H : Type) (enc : TypeId × Value → H) (W : World) (base : Nat) (args : Array Value) (ds gs : List (DataW H)) (before : List MemPlace)
    (hval : ∀ (j : Nat) t v, Tryz.f3.params[j]? = some t → args[j]? = some v → Value.okWide Tryz.prog W .any base t v)
    (hW : DataW.Whole enc Tryz.prog Tryz.f3.params.toList Rows.endNilSpec.vars false W args.toList ds gs before) (hL : laidMetH Tryz.prog Rows.endNilRow.laid W) :
    Calls Tryz.prog 3 args W fun e W' => ∃ v, e = .returned v ∧ Rows.endNilSpec.post enc Tryz.prog Tryz.f3 false true false false W args v W' := by
  have hW' := hW
  obtain ⟨p, q, hA0, hV, rfl, hfz, hnd⟩ := hW
  have hA : DataW.TrodAll enc Tryz.prog W 0 (fun _ => true) true Tryz.f3.params.toList args.toList ds p := hA0
  rw [Tryz.params3] at hA hval
  obtain ⟨v0, vs0, d0, ds0, p0, q0, hargs, rfl, rfl, h0, r0⟩ := trodAll_cons hA
  obtain ⟨rfl, rfl, rfl⟩ := trodAll_nil r0
  obtain rfl : args = #[v0] := by cases args; simp_all
  obtain ⟨rfl, rfl⟩ := trodVars_none hV
  clear hA0
  simp only [List.append_nil] at hW'
  have hlt : ∀ x ∈ p0, x.block < W.heap.size := fun x hx => by simpa using hW'.lt x hx
  obtain ⟨k, s, b, c1, c2, c3, c4, c5, c9, c10, c12, c13, A, B, l, m, c, e, rfl, hl, hm, hBA, hBB⟩ := op_open (hval 0 28 v0 rfl rfl) h0
  refine (walk (tables hL) k s b c1 c2 c3 c4 c5 c9 c10 c12 c13 A B l m c e hl hm hBA hBB).mono fun en W' ⟨he, hg⟩ => ?_
  subst he
  refine ⟨_, rfl, _, _, _, [], p0, [], hW', ?_, ?_, rfl, hg.frame _, fun h => by cases h⟩
  · exact trodAll_cons_mk (shut_bool Tryz.underlying4 true) trodAll_mk0
  · have := trodAll_cons_mk (Below.trod (P := Tryz.prog) (by kernel_rfl) (by kernel_rfl) (of_decide_eq_true (by kernel_rfl)) h0 hg hlt) trodAll_mk0
    rw [List.append_nil] at this
    exact this
end Go.Proofs.YthlggkkagjfelaaGreatDoor
