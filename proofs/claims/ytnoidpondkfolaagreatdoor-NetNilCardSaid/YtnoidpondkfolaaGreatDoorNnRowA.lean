/- Where there is no net: whatever is asked of no net, the answers are those of the document's section on errors, and two ends meet and a message comes over. CONDITIONS: the tables of the hash hold what the program's text lays (the card ties them to it). -/
import Derived.Test.YtnoidpondkfolaaGreatDoorNnWalkC
import Derived.Test.YtnoidpondkfolaaGreatDoorExH
import Derived.Test.YtnoidpondkfolaaGreatDoorCards
import Derived.Test.YtnoidpondkfolaaGreatDoorTie
import Derived.ProofKit
import Derived.OpenShut
import Derived.Deep.DeepHandedRow
import Derived.Lib.SmallJoins
namespace Go.Proofs.YtnoidpondkfolaaGreatDoor
open Go.ChangeShapes Go.WideShapes Go.ChangeAt Go.RowKit
open Go.Ex (u32v)

theorem own : ownKnob Tryz.prog.godebug = none := by kernel_rfl
theorem gFirst : Tryz.prog.globalNamed "fairlead/sha.first" = some 0 := by kernel_rfl
theorem gTable : Tryz.prog.globalNamed "fairlead/sha.table" = some 1 := by kernel_rfl
theorem laidTable : (Rows.laid_fairlead_sha_table : DataW Unit) = Lib.tabData .u32 (table.map Int.ofNat) := by rfl
theorem laidFirst : (Rows.laid_fairlead_sha_first : DataW Unit) = Lib.tabData .u32 (first.map Int.ofNat) := by rfl
theorem tFirst : (Tryz.prog.globals[0]?).map (·.type) = some 435 := by kernel_rfl
theorem tTable : (Tryz.prog.globals[1]?).map (·.type) = some 441 := by kernel_rfl
theorem cells25 : Tryz.prog.cellsOf 25 = 9 := by kernel_rfl
theorem cells54 : Tryz.prog.cellsOf 54 = 1 := by kernel_rfl
theorem cells435 : Tryz.prog.cellsOf 435 = 8 := by kernel_rfl
theorem cells441 : Tryz.prog.cellsOf 441 = 64 := by kernel_rfl

/-- What the row's list gives: the tables lie there. -/
theorem tables {W : World} (h : laidMetH Tryz.prog Rows.netNilRow.laid W) : tabs.lie W := by
  have h0 : laidMet Tryz.prog (("fairlead/sha.table", Lib.tabData .u32 (table.map Int.ofNat)) :: [("fairlead/sha.first", Lib.tabData .u32 (first.map Int.ofNat))]) W := by
    rw [← laidTable, ← laidFirst]
    exact h
  have h1 := Go.Ex.lie_head (g := 1) (by decide) (by simp [table]) gTable tTable Tryz.underlying441 Tryz.underlying54 cells54 cells441 h0
  have h2 := Go.Ex.lie_head (g := 0) (by decide) (by simp [first]) gFirst tFirst Tryz.underlying435 Tryz.underlying54 cells54 cells435 h0.tail
  intro g l hg
  simp only [tabs, List.mem_cons, List.not_mem_nil, or_false, Prod.mk.injEq] at hg
  rcases hg with ⟨rfl, rfl⟩ | ⟨rfl, rfl⟩
  · exact h2
  · exact h1

set_option maxRecDepth 100000 in
/-- An event that came in, opened: nine cells. -/
theorem ev_open {W : World} {base : Nat} {v : Value} (hv : Value.okWide Tryz.prog W .any base 25 v) : ∃ c0 c1 c2 c3 c4 c5 c6 c7 c8, v = .agg #[c0, c1, c2, c3, c4, c5, c6, c7, c8] := by
  obtain ⟨cs, rfl, hsz⟩ := okWide_struct Tryz.underlying25 hv
  obtain ⟨q⟩ := cs
  match q, hsz.trans cells25 with
  | [x0, x1, x2, x3, x4, x5, x6, x7, x8], _ => exact ⟨_, _, _, _, _, _, _, _, _, rfl⟩
set_option maxRecDepth 100000 in
/-- What the walks give, for every argument and every world that holds the tables. -/
theorem contract (H : Type) (enc : TypeId × Value → H) (W : World) (base : Nat) (args : Array Value) (ds gs : List (DataW H)) (before : List MemPlace)
    (hval : ∀ (j : Nat) t v, Tryz.f3.params[j]? = some t → args[j]? = some v → Value.okWide Tryz.prog W .any base t v)
    (hW : DataW.Whole enc Tryz.prog Tryz.f3.params.toList Rows.netNilSpec.vars false W args.toList ds gs before) (hL : laidMetH Tryz.prog Rows.netNilRow.laid W) :
    Calls Tryz.prog 3 args W fun e W' => ∃ v, e = .returned v ∧ Rows.netNilSpec.post enc Tryz.prog Tryz.f3 false true false false W args v W' := by
  have hW' := hW
  obtain ⟨p, q, hA0, hV, rfl, hfz, hnd⟩ := hW
  have hA : DataW.TrodAll enc Tryz.prog W 0 (fun _ => true) true Tryz.f3.params.toList args.toList ds p := hA0
  rw [Tryz.params3] at hA hval
  obtain ⟨v0, vs0, d0, ds0, p0, q0, hargs, rfl, rfl, h0, r0⟩ := trodAll_cons hA
  obtain ⟨v1, vs1, d1, ds1, p1, q1, rfl, rfl, rfl, h1, r1⟩ := trodAll_cons r0
  obtain ⟨rfl, rfl, rfl⟩ := trodAll_nil r1
  obtain rfl : args = #[v0, v1] := by cases args; simp_all
  obtain ⟨rfl, rfl⟩ := trodVars_none hV
  clear hA0
  simp only [List.append_nil] at hW'
  have hlt0 : ∀ x ∈ p0, x.block < W.heap.size := fun x hx => hW'.lt x (by simp [hx])
  have hlt1 : ∀ x ∈ p1, x.block < W.heap.size := fun x hx => hW'.lt x (by simp [hx])
  obtain ⟨c0, c1, c2, c3, c4, c5, c6, c7, c8, rfl⟩ := ev_open (hval 0 25 v0 rfl rfl)
  have h1k := h1
  obtain ⟨i, rfl, rfl, rfl, wi⟩ := open_int Tryz.underlying3 (hval 1 3 v1 rfl rfl) h1
  refine (walk c0 c1 c2 c3 c4 c5 c6 c7 c8 i W (tables hL)).mono fun en W' ⟨he, hg⟩ => ?_
  subst he
  refine ⟨_, rfl, _, _, _, [], p0 ++ [], [], hW', ?_, ?_, rfl, hg.frame _, fun h => by cases h⟩
  · exact trodAll_cons_mk (shut_bool Tryz.underlying4 true) trodAll_mk0
  · have := trodAll_cons_mk (Below.trod (P := Tryz.prog) (by kernel_rfl) (by kernel_rfl) (of_decide_eq_true (by kernel_rfl)) h0 hg hlt0) (trodAll_cons_mk (shut_int Tryz.underlying3 wi) trodAll_mk0)
    exact this
end Go.Proofs.YtnoidpondkfolaaGreatDoor
