/- Operations that look at their operands alone: the model does what the executor does. -/
import Derived.Test.YtnoidpondkfolaaGreatDoorExB
import Derived.ChangeKeysEq
import Derived.Laws.Strings
namespace Go.Ex

/-- The package-level variables' names are their own. -/
def GOK (ρ : Ren) : Prop := ∀ g, g < 1000 → ∃ l, ρ g = some l ∧ l.blk = g ∧ l.off = 0
theorem GOK.mono {ρ ρ' : Ren} (h : GOK ρ) (k : Le ρ ρ') : GOK ρ' := fun g hg => let ⟨l, h1, h2⟩ := h g hg; ⟨l, k _ _ h1, h2⟩

variable {P : Program} {ρ : Ren} {w : World} {a : T V} {act : Act}

theorem ofVals_ok {f : Value → Option V} (hf : ∀ v x, f v = some x → VR ρ x v) : ∀ {l : List Value} {xs : List V}, ofVals f l = some xs → VRs ρ xs l := by
  intro l
  induction l with
  | nil => intro xs h; simp only [ofVals, Option.some.injEq] at h; subst h; simp [VRs]
  | cons v l ih =>
    intro xs h
    unfold ofVals at h
    split at h
    · cases h
    · rename_i y hy
      split at h
      · cases h
      · rename_i ys hys
        cases h
        exact ⟨v, l, rfl, hf _ _ hy, ih hys⟩
theorem ofVal_ok : ∀ (d : Nat) (v : Value) (x : V), ofVal d v = some x → VR ρ x v := by
  intro d
  induction d with
  | zero => intro v x h; cases h
  | succ d ih =>
    intro v x h
    unfold ofVal at h
    split at h <;> first
      | (cases h; simp [VR]; done)
      | (cases h; exact ⟨[], [], rfl, by simp [VRs], by simp [VRs]⟩)
      | (split at h
         · rename_i l hl; cases h; exact ⟨_, rfl, ofVals_ok ih hl⟩
         · cases h)
      | cases h
theorem constV_ok {v : Value} {x : V} (h : constV v = some x) : VR ρ x v := by
  unfold constV at h
  split at h
  · cases h; simp [VR]
  · cases h; simp [VR]
  · exact ofVal_ok 8 _ _ h
theorem orUndef_eq (v : Option V) : orUndef v = some (v.getD (.tup [])) := by cases v <;> rfl
theorem evl_tmp (t : Nat) (a : T V) : evl (.tmp t) a = some ((a.get t).getD (.tup [])) := orUndef_eq _
theorem TR.at {t : Nat} (h : TR ρ a act.tmps) : VR ρ ((a.get t).getD (.tup [])) (act.tmps.getD t undef) := by
  have := h t
  cases e : a.get t with
  | none => rw [e] at this; simp only [] at this; rw [this]; exact ⟨[], rfl, rfl⟩
  | some v => rw [e] at this; exact this
theorem evl_ok {x : Operand} {v : V} (h : TR ρ a act.tmps) (g : GOK ρ) (hv : evl x a = some v) : VR ρ v (act.eval x) := by
  cases x with
  | tmp t => rw [evl_tmp] at hv; cases hv; exact h.at
  | const c => exact constV_ok hv
  | global k =>
    change ite2 (Nat.ble 1000 k) (some (.ptr k 0)) none = some v at hv
    rw [ite2_ble] at hv
    split at hv
    · cases hv
    · rename_i hk
      cases hv
      obtain ⟨l, h1, h2, h3⟩ := g k (by omega)
      exact ⟨l, h1, by simp [Act.eval, h2, h3]⟩
  | func f => cases hv; exact ⟨[], [], rfl, by simp [VRs], by simp [VRs]⟩
theorem evls_cons (x : Operand) (xs : List Operand) : evls a (x :: xs) = match evl x a with
    | none => none
    | some v => match evls a xs with
      | none => none
      | some vs => some (v :: vs) := by
  show Option.rec (motive := fun _ => Option (List V)) none (fun v => consV v (evls a xs)) (evl x a) = _
  cases evl x a with
  | none => rfl
  | some v => show consV v (evls a xs) = _; unfold consV; cases evls a xs <;> rfl
theorem evls_ok (h : TR ρ a act.tmps) (g : GOK ρ) : ∀ {l : List Operand} {vs : List V}, evls a l = some vs → VRs ρ vs (l.map act.eval) := by
  intro l
  induction l with
  | nil => intro vs e; cases e; simp [VRs]
  | cons x xs ih =>
    intro vs e
    rw [evls_cons] at e
    split at e
    · cases e
    · rename_i v hv
      split at e
      · cases e
      · rename_i vs' hvs
        cases e
        exact ⟨_, _, rfl, evl_ok h g hv, ih hvs⟩
/-- Parts of a composite, each with its place. -/
def PRs (ρ : Ren) : List (Nat × V) → List (Nat × Value) → Prop
  | [], l => l = []
  | (i, v) :: xs, l => ∃ u us, l = (i, u) :: us ∧ VR ρ v u ∧ PRs ρ xs us
theorem evParts_cons (i : Nat) (x : Operand) (xs : List (Nat × Operand)) : evParts a ((i, x) :: xs) = match evl x a with
    | none => none
    | some v => match evParts a xs with
      | none => none
      | some vs => some ((i, v) :: vs) := by
  show Option.rec (motive := fun _ => Option (List (Nat × V))) none (fun v => consP i v (evParts a xs)) (evl x a) = _
  cases evl x a with
  | none => rfl
  | some v => show consP i v (evParts a xs) = _; unfold consP; cases evParts a xs <;> rfl
theorem evParts_ok (h : TR ρ a act.tmps) (g : GOK ρ) : ∀ {l : List (Nat × Operand)} {vs : List (Nat × V)}, evParts a l = some vs → PRs ρ vs (l.map fun p => (p.1, act.eval p.2)) := by
  intro l
  induction l with
  | nil => intro vs e; cases e; simp [PRs]
  | cons p xs ih =>
    obtain ⟨i, x⟩ := p
    intro vs e
    rw [evParts_cons] at e
    split at e
    · cases e
    · rename_i v hv
      split at e
      · cases e
      · rename_i vs' hvs
        cases e
        exact ⟨_, _, rfl, evl_ok h g hv, ih hvs⟩
theorem evO_ok (h : TR ρ a act.tmps) (g : GOK ρ) {x : Option Operand} {r : Option V} (e : evO a x = some r) :
    match r, x.map act.eval with
    | none, none => True
    | some v, some u => VR ρ v u
    | _, _ => False := by
  cases x with
  | none => cases e; trivial
  | some x =>
    have e' : (match evl x a with
      | none => none
      | some v => some (some v)) = some r := by
      rw [← e]; show _ = Option.rec (motive := fun _ => Option (Option V)) none (fun v => some (some v)) (evl x a); cases evl x a <;> rfl
    split at e'
    · cases e'
    · rename_i v hv; cases e'; exact evl_ok h g hv

/-! ### Types -/
theorem szOf_ok {t : TypeId} {n : Nat} (h : szOf P t = some n) : ∃ i, P.info? t = some i ∧ i.size = n := by
  unfold szOf at h; split at h
  · rename_i i hi; cases h; exact ⟨i, hi, rfl⟩
  · cases h
theorem run_sizeOf {t : TypeId} {n : Nat} (h : szOf P t = some n) : (sizeOf t).run P w = .ok n w := by
  obtain ⟨i, hi, rfl⟩ := szOf_ok h
  simp [sizeOf, typeInfo, hi]
theorem run_isAgg {t : TypeId} {b : Bool} (h : aggOf P t = some b) : (isAgg t).run P w = .ok b w := by
  unfold aggOf aggOfD at h
  cases hd : P.underlying t with
  | none => rw [hd] at h; cases h
  | some d => rw [hd] at h; cases d <;> cases h <;> simp [isAgg, underlying, hd]
theorem shapeOf_some {t : TypeId} {n : Nat} (h : shapeOf P t = some (some n)) : aggOf P t = some true ∧ szOf P t = some n := by
  unfold shapeOf at h
  split at h
  · rename_i h1; split at h
    · rename_i k hk; cases h; exact ⟨h1, hk⟩
    · cases h
  · cases h
  · cases h
theorem shapeOf_none {t : TypeId} (h : shapeOf P t = some none) : aggOf P t = some false := by
  unfold shapeOf at h
  split at h
  · split at h <;> cases h
  · rename_i h1; exact h1
  · cases h
theorem run_zeroValue {t : TypeId} {v : V} (h : zeroV P t = some v) : ∃ z, (zeroValue t).run P w = .ok z w ∧ VR ρ v z := by
  unfold zeroV at h
  split at h
  · rename_i i hi
    split at h
    · rename_i z hz
      exact ⟨z, by simp [zeroValue, typeInfo, hi, hz], ofVal_ok 8 _ _ h⟩
    · cases h
  · cases h
theorem run_part {t : TypeId} {cs : List V} {ys : List Value} {off : Nat} {v : V} (h : partOf P t cs off = some v) (hr : VRs ρ cs ys) : ∃ u, (part t ⟨ys⟩ off).run P w = .ok u w ∧ VR ρ v u := by
  unfold partOf at h
  split at h
  · rename_i n hn
    obtain ⟨h1, h2⟩ := shapeOf_some hn
    cases h
    refine ⟨.agg ((⟨ys⟩ : Array Value).extract off (off + n)), by simp [part, run_isAgg h1, run_sizeOf h2], ?_⟩
    refine ⟨(ys.drop off).take n, ?_, (hr.drop off).take n⟩
    congr 1
    apply Array.ext'
    simp
  · rename_i hn
    obtain ⟨u, hu, hv⟩ := hr.get h
    refine ⟨u, ?_, hv⟩
    simp [part, run_isAgg (shapeOf_none hn)]
    simp [hu]
  · cases h


/-! ### The operations -/
/-- What a looking operation comes to. -/
def Pu (P : Program) (ρ : Ren) (w : World) (act : Act) (o : Oper) (v : V) : Prop := ∃ u, (execOp act.eval o).run P w = .ok (.value u) w ∧ VR ρ v u
variable {o : Oper} {v : V}

theorem move_ok {x : Operand} (ho : o.op = .move x) (h : TR ρ a act.tmps) (g : GOK ρ) (hv : evl x a = some v) : Pu P ρ w act o v :=
  ⟨act.eval x, by simp [execOp, ho], evl_ok h g hv⟩
theorem assign_ok {x : Operand} (ho : o.op = .assign x) (h : TR ρ a act.tmps) (g : GOK ρ) (hv : evl x a = some v) : Pu P ρ w act o v :=
  ⟨act.eval x, by simp [execOp, ho], evl_ok h g hv⟩
theorem VR.bool_inv {b : Bool} {u : Value} (h : VR ρ (.bool b) u) : u = .bool b := by simpa [VR] using h
theorem VR.int_inv {k : IntKind} {n : Int} {u : Value} (h : VR ρ (.int k n) u) : u = .int k n := by simpa [VR] using h
theorem VR.ptr_inv {b off : Nat} {u : Value} (h : VR ρ (.ptr b off) u) : ∃ l, ρ b = some l ∧ u = .pointer (some ⟨l.blk, l.off + off, none⟩) := by simpa [VR] using h
theorem pick_ok {c x y : Operand} (ho : o.op = .pick c x y) (h : TR ρ a act.tmps) (g : GOK ρ) (hv : pickV (evl c a) (evl x a) (evl y a) = some v) : Pu P ρ w act o v := by
  unfold pickV at hv
  split at hv
  · rename_i h1 h2 h3
    cases hv
    have e := (evl_ok h g h1).bool_inv
    exact ⟨act.eval x, by simp [execOp, ho, e, asBool], evl_ok h g h2⟩
  · rename_i h1 h2 h3
    cases hv
    have e := (evl_ok h g h1).bool_inv
    exact ⟨act.eval y, by simp [execOp, ho, e, asBool], evl_ok h g h3⟩
  · cases hv
theorem nil_ok {x : Operand} (ho : o.op = .nilCheck x) (h : TR ρ a act.tmps) (g : GOK ρ) (hv : nilCheckV (evl x a) = some v) : Pu P ρ w act o v := by
  unfold nilCheckV at hv
  split at hv
  · rename_i b off h1
    cases hv
    have e := evl_ok h g h1
    obtain ⟨l, hl, e2⟩ := e.ptr_inv
    exact ⟨_, by simp [execOp, ho, e2]; rfl, by rw [← e2]; exact e⟩
  · rename_i f l c h1
    cases hv
    have e := evl_ok h g h1
    have e' := e
    simp only [VR] at e'
    obtain ⟨xs, cs, e2, _⟩ := e'
    exact ⟨_, by simp [execOp, ho, e2]; rfl, by rw [← e2]; exact e⟩
  · cases hv
theorem int_ok {op : BinOp} {t t' : TypeId} {x y : Operand} {sh : Bool} {f : IntKind → Int → Int → Option V} (ho : o.op = .binOp op t x y t') (hf : binF op = .mk sh f) (h : TR ρ a act.tmps) (g : GOK ρ)
    (hv : opBinI f sh (evl x) (evl y) a = some v) : Pu P ρ w act o v := by
  unfold opBinI at hv
  rw [Orec_eq] at hv
  split at hv
  · cases hv
  · rename_i u hu
    rw [Orec_eq] at hv
    split at hv
    · cases hv
    · rename_i u' hu'
      unfold binI at hv
      split at hv
      · rename_i k m j n
        have e1 := (evl_ok h g hu).int_inv
        have e2 := (evl_ok h g hu').int_inv
        obtain ⟨z, hz, hr⟩ := binF_ok P w op t sh f hf k j m n v hv
        exact ⟨z, by simp [execOp, ho, e1, e2, eqGuard, hz], hr ρ⟩
      · cases hv
theorem un_ok {op : UnOp} {t : TypeId} {x : Operand} (ho : o.op = .unOp op t x) (h : TR ρ a act.tmps) (g : GOK ρ) (hv : unOpV op (evl x a) = some v) : Pu P ρ w act o v := by
  unfold unOpV at hv
  split at hv
  · rename_i b h1
    rw [mkNot_eq] at hv; cases hv
    have e := (evl_ok h g h1).bool_inv
    exact ⟨.bool !b, by simp [execOp, ho, e, Op.unary], by simp [VR]⟩
  · rename_i k n h1
    rw [subV_eq] at hv; cases hv
    have e := (evl_ok h g h1).int_inv
    exact ⟨_, by simp [execOp, ho, e, Op.unary, Op.intArith]; rfl, by simp [VR]⟩
  · rename_i k n h1
    have e := (evl_ok h g h1).int_inv
    have hx : Nat.xor (modU k - 1) (bitsU k n) < 2 ^ k.bits := by
      rw [modU_eq]
      exact Nat.xor_lt_two_pow (by have := Nat.two_pow_pos k.bits; omega) (bitsU_lt k n)
    change mkBits k (Nat.xor (modU k - 1) (bitsU k n)) = some v at hv
    rw [mkBits_eq k _ hx] at hv; cases hv
    refine ⟨.int k (k.wrap ((BitVec.ofInt k.bits (if k.signed then -1 else k.max) ^^^ BitVec.ofInt k.bits n).toNat : Int)), ?_, ?_⟩
    · simp only [execOp, ho, e, Op.unary, Op.intBits]; rfl
    · simp only [VR, BitVec.toNat_xor, toNat_ofInt, modU_eq]
      have : bitsU k (if k.signed = true then -1 else k.max) = 2 ^ k.bits - 1 := by cases k <;> rfl
      rw [this]; rfl
  · cases hv
theorem conv_ok {t u : TypeId} {k : IntKind} {d : TypeDesc} {x : Operand} (ho : o.op = .convert t u x) (ht : P.underlying t = some d) (hu : P.underlying u = some (.int k)) (h : TR ρ a act.tmps) (g : GOK ρ)
    (hv : opConvI k (evl x) a = some v) : Pu P ρ w act o v := by
  unfold opConvI at hv
  rw [Orec_eq] at hv
  split at hv
  · cases hv
  · rename_i z hz
    unfold convI at hv
    split at hv
    · rename_i j n
      rw [mkInt_eq, wrapK_eq] at hv; cases hv
      have e := (evl_ok h g hz).int_inv
      exact ⟨_, by simp [execOp, ho, e, convert, underlying, ht, hu, Conv.intToInt]; rfl, by simp [VR]⟩
    · cases hv
theorem func_ok {fn : Fn} {l c : Array Operand} (ho : o.op = .makeFunc fn l c) (h : TR ρ a act.tmps) (g : GOK ρ) (hv : funcV fn (evls a l.toList) (evls a c.toList) = some v) : Pu P ρ w act o v := by
  unfold funcV at hv
  split at hv
  · rename_i f l' c' h1 h2
    cases hv
    refine ⟨.func (.func f) (l.map act.eval) (c.map act.eval), by simp [execOp, ho, Instr.makeFunc], ?_⟩
    refine ⟨l.toList.map act.eval, c.toList.map act.eval, ?_, evls_ok h g h1, evls_ok h g h2⟩
    congr 1 <;> exact (by apply Array.ext'; simp)
  · cases hv
theorem extract_ok {x : Operand} {i : Nat} (ho : o.op = .extract x i) (h : TR ρ a act.tmps) (g : GOK ρ) (hv : extractV (evl x a) i = some v) : Pu P ρ w act o v := by
  unfold extractV at hv
  split at hv
  · rename_i l h1
    have e := evl_ok h g h1
    simp only [VR] at e
    obtain ⟨vs, e, hr⟩ := e
    obtain ⟨u, hu, hvr⟩ := hr.get hv
    exact ⟨u, by simp [execOp, ho, e, Instr.extract, hu], hvr⟩
  · cases hv
theorem run_fieldAt {t : TypeId} {i n : Nat} (h : fieldOff P t i = some n) (blk off : Nat) : (Instr.fieldAt t (.pointer (some ⟨blk, off, none⟩)) i).run P w = .ok (.pointer (some ⟨blk, off + n, none⟩)) w := by
  unfold fieldOff at h
  split at h
  · rename_i f hf
    unfold fieldOf at hf
    split at hf
    · rename_i fs hfs
      split at h
      · rename_i k hk
        cases h
        have hf' : fs[i]? = some f := by simpa using hf
        simp [Instr.fieldAt, underlying, hfs, hf', Instr.sureAddr, fieldPlace, run_sizeOf hk, add_none]
      · cases h
    · cases hf
  · cases h
theorem fieldAddr_ok {t : TypeId} {x : Operand} {i n : Nat} (ho : o.op = .fieldAddr t x i) (hn : fieldOff P t i = some n) (h : TR ρ a act.tmps) (g : GOK ρ) (hv : opFieldAddr n (evl x) a = some v) : Pu P ρ w act o v := by
  unfold opFieldAddr at hv
  rw [Orec_eq] at hv
  split at hv
  · cases hv
  · rename_i z hz
    unfold ptrOff at hv
    split at hv
    · rename_i b off
      rw [seqN_eq] at hv; cases hv
      obtain ⟨l, hl, e⟩ := (evl_ok h g hz).ptr_inv
      refine ⟨.pointer (some ⟨l.blk, l.off + off + n, none⟩), by simp [execOp, ho, e, run_fieldAt hn], l, hl, ?_⟩
      simp [Nat.add_assoc]
    · cases hv
theorem field_ok {t : TypeId} {x : Operand} {i : Nat} (ho : o.op = .field t x i) (h : TR ρ a act.tmps) (g : GOK ρ) (hv : fieldV P t (evl x a) i = some v) : Pu P ρ w act o v := by
  unfold fieldV at hv
  split at hv
  · rename_i f cs hf hx
    unfold fieldOf at hf
    split at hf
    · rename_i fs hfs
      have e := evl_ok h g hx
      simp only [VR] at e
      obtain ⟨vs, e, hr⟩ := e
      obtain ⟨u, hu, hvr⟩ := run_part (P := P) (w := w) hv hr
      have hf' : fs[i]? = some f := by simpa using hf
      exact ⟨u, by simp [execOp, ho, e, Instr.field, underlying, hfs, hf', asAgg, hu], hvr⟩
    · cases hf
  · cases hv
theorem ptrAt_ok {b off i n : Nat} {z : Option Nat} (h : ptrAt b off i n z = some v) : ∃ k, z = some k ∧ i < n ∧ v = .ptr b (off + i * k) := by
  unfold ptrAt at h
  split at h
  · rename_i _ k h2
    rw [seqN_eq] at h; cases h
    exact ⟨k, rfl, by rw [← Bool.not_eq_true, Nat.ble_eq] at h2; omega, rfl⟩
  · cases h
theorem indexAddr_ok {t : TypeId} {x i : Operand} (ho : o.op = .indexAddr t x i) (h : TR ρ a act.tmps) (g : GOK ρ) (hv : indexAddrV P t (evl x a) (evl i a) = some v) : Pu P ρ w act o v := by
  unfold indexAddrV at hv
  split at hv
  · rename_i n e b off k j ht hx hi
    obtain ⟨z, hz, hlt, rfl⟩ := ptrAt_ok hv
    obtain ⟨l, hl, e1⟩ := (evl_ok h g hx).ptr_inv
    have e2 := (evl_ok h g hi).int_inv
    refine ⟨.pointer (some ⟨l.blk, l.off + off + j * z, none⟩), ?_, l, hl, by simp [Nat.add_assoc]⟩
    simp [execOp, ho, e1, e2, Instr.indexAt, asIntOf, underlying, ht, Instr.sureAddr, hlt, run_sizeOf hz, add_none]
  · rename_i e b off n c k j ht hx hi
    obtain ⟨z, hz, hlt, rfl⟩ := ptrAt_ok hv
    have e1 := evl_ok h g hx
    have e2 := (evl_ok h g hi).int_inv
    have hlt' : ¬ n ≤ j := by omega
    have key : ∃ l, ρ b = some l ∧ ∃ c', act.eval x = .slice (some ⟨l.blk, l.off + off, none⟩) n c' := by
      cases c with
      | is c => simp only [VR] at e1; obtain ⟨l, hl, e⟩ := e1; exact ⟨l, hl, c, e⟩
      | of z =>
        simp only [VR] at e1
        obtain ⟨l, hl, ⟨c, e, _⟩ | ⟨e, _⟩⟩ := e1
        · exact ⟨l, hl, c, e⟩
        · omega
    obtain ⟨l, hl, c', e1⟩ := key
    refine ⟨.pointer (some ⟨l.blk, l.off + off + j * z, none⟩), ?_, l, hl, by simp [Nat.add_assoc]⟩
    simp [execOp, ho, e1, e2, Instr.indexAt, asIntOf, underlying, ht, run_sizeOf hz, add_none]
    exact fun hle => absurd hle hlt'
  · cases hv
theorem index_ok {t : TypeId} {x i : Operand} (ho : o.op = .index t x i) (h : TR ρ a act.tmps) (g : GOK ρ) (hv : indexV P t (evl x a) (evl i a) = some v) : Pu P ρ w act o v := by
  unfold indexV at hv
  split at hv
  · rename_i n e cs k j ht hx hi
    unfold indexArr at hv
    split at hv
    · rename_i z hz hlt
      have hlt : j < n := by rw [← Bool.not_eq_true, Nat.ble_eq] at hlt; omega
      have e1 := evl_ok h g hx
      simp only [VR] at e1
      obtain ⟨vs, e1, hr⟩ := e1
      have e2 := (evl_ok h g hi).int_inv
      obtain ⟨u, hu, hvr⟩ := run_part (P := P) (w := w) hv hr
      have hu' : (part e ⟨vs⟩ (j * z)).run P w = .ok u w := by simpa using hu
      exact ⟨u, by simp [execOp, ho, e1, e2, Instr.index, asIntOf, underlying, ht, hlt, run_sizeOf hz, hu'], hvr⟩
    · cases hv
  · rename_i l k j ht hx hi
    split at hv
    · rename_i c hc
      cases hv
      have e1 := evl_ok h g hx
      simp only [VR] at e1
      obtain ⟨s, e1, hs⟩ := e1
      have e2 := (evl_ok h g hi).int_inv
      subst hs
      have : ∃ b, s.data.toList[j]? = some b ∧ b.toNat = c := by simpa using hc
      obtain ⟨b, hb, rfl⟩ := this
      have hb' : s[j]? = some b := by
        have hlt := (List.getElem?_eq_some_iff.1 hb)
        obtain ⟨hlt, e⟩ := hlt
        have hlt' : j < s.size := by simpa using hlt
        rw [getElem?_pos s j hlt']
        congr 1
      refine ⟨.int .u8 b.toNat, ?_, by simp [VR]⟩
      simp [execOp, ho, e1, e2, Instr.index, asIntOf, underlying, ht, hb']
    · cases hv
  · cases hv

end Go.Ex

/- Composites and slices: the model does what the executor does. -/
namespace Go.Ex
variable {P : Program} {ρ : Ren} {w : World} {a : T V} {act : Act} {o : Oper} {v : V}

/-! ### Composites -/
theorem layAt_list (ys : List Value) (cs : Array Value) (off : Nat) (h : off + ys.length ≤ cs.size) : (layAt cs off ys).toList = cs.toList.take off ++ ys ++ cs.toList.drop (off + ys.length) := by
  apply List.ext_getElem?
  intro i
  rw [Array.getElem?_toList, layAt_get ys cs off i h]
  by_cases h1 : i < off
  · rw [if_neg (by omega), List.append_assoc, List.getElem?_append_left (by simp; omega)]
    simp [List.getElem?_take, h1]
  · by_cases h2 : i < off + ys.length
    · rw [if_pos (by omega), List.append_assoc, List.getElem?_append_right (by simp; omega), List.getElem?_append_left (by simp; omega)]
      congr 1; simp; omega
    · rw [if_neg (by omega), List.getElem?_append_right (by simp; omega)]
      simp only [List.getElem?_drop, Array.getElem?_toList]
      congr 1; simp; omega
theorem setAt_ok {cs l : List V} {ys : Array Value} {us : List Value} {off : Nat} (h : VRs ρ cs ys.toList) (hl : VRs ρ l us) (hb : off + l.length ≤ cs.length) :
    VRs ρ (setAt cs off l) (layAt ys off us).toList := by
  have h1 := h.length
  have h2 := hl.length
  rw [layAt_list us ys off (by simp at h1; omega), h2]
  unfold setAt
  exact ((h.take off).append hl).append (h.drop _)
theorem foldl_layAt (off : Nat) : ∀ (us : List Value) (k : Nat) (ys : Array Value), (us.zipIdx k).foldl (fun cs (x : Value × Nat) => cs.setIfInBounds (off + x.2) x.1) ys = layAt ys (off + k) us := by
  intro us
  induction us with
  | nil => intro k ys; rfl
  | cons u us ih =>
    intro k ys
    simp only [List.zipIdx_cons, List.foldl_cons]
    rw [ih]
    rfl
theorem fill_ok {place : Nat → Option (Nat × Nat)} {place' : Nat → Option (Nat × Nat)} (hp : ∀ i x, place i = some x → place' i = some x) : ∀ {ps : List (Nat × V)} {qs : List (Nat × Value)} {cs r : List V} {ys : Array Value},
    fillV place cs ps = some r → PRs ρ ps qs → VRs ρ cs ys.toList → ∃ zs, Instr.fill place' ys qs = some zs ∧ VRs ρ r zs.toList := by
  intro ps
  induction ps with
  | nil =>
    intro qs cs r ys h hq hc
    simp only [fillV, Option.some.injEq] at h
    simp only [PRs] at hq
    subst h hq
    exact ⟨ys, rfl, hc⟩
  | cons p ps ih =>
    obtain ⟨i, x⟩ := p
    intro qs cs r ys h hq hc
    simp only [PRs] at hq
    obtain ⟨u, us, rfl, h1, h2⟩ := hq
    unfold fillV at h
    split at h
    · cases h
    · rename_i off size hpl
      split at h
      · rename_i e1 e2
        have e1 := Nat.eq_of_beq_eq_true e1
        have e2 : off + size ≤ cs.length := Nat.le_of_ble_eq_true e2
        have hcl := h1.cells
        have hlen := hcl.length
        have hcs := hc.length
        simp only [Array.length_toList] at hlen hcs
        obtain ⟨zs, hz, hr⟩ := ih h h2 (setAt_ok hc hcl (by omega))
        refine ⟨zs, ?_, hr⟩
        unfold Instr.fill
        rw [hp i _ hpl]
        simp only []
        rw [if_neg (by simp; omega), ← hz]
        congr 1
        rw [← Array.foldl_toList, Array.toList_zipIdx]
        exact foldl_layAt off u.cells.toList 0 ys
      · cases h
theorem places_ok : ∀ {fs : List Field} {pl : List (Nat × Nat)}, places P fs = some pl → (fs.mapM fun f => Prod.mk f.offset <$> sizeOf f.type : Sem (List (Nat × Nat))).run P w = .ok pl w := by
  intro fs
  induction fs with
  | nil => intro pl h; cases h; rfl
  | cons f fs ih =>
    intro pl h
    unfold places at h
    split at h
    · cases h
    · rename_i n hn
      split at h
      · cases h
      · rename_i l hl
        cases h
        rw [List.mapM_cons]
        simp only [Sem.run_bind, Sem.run_map, run_sizeOf hn, Result.andThen_ok, ih hl, Sem.run_pure]
theorem build_ok {t : TypeId} {ps : Array (Nat × Operand)} (ho : o.op = .build t ps) (h : TR ρ a act.tmps) (g : GOK ρ) (hv : buildOp P t (evParts a ps.toList) = some v) : Pu P ρ w act o v := by
  unfold buildOp at hv
  split at hv
  · rename_i qs z hq hz
    obtain ⟨zv, hz1, hz2⟩ := run_zeroValue (P := P) (ρ := ρ) (w := w) hz
    have hpr := evParts_ok h g hq
    have hcl := hz2.cells
    have hlist : (ps.map fun x => (x.1, act.eval x.2)).toList = ps.toList.map fun p => (p.1, act.eval p.2) := by simp
    split at hv
    · rename_i fs hfs
      split at hv
      · rename_i pl hpl
        split at hv
        · rename_i l hl
          cases hv
          obtain ⟨zs, hf, hr⟩ := fill_ok (place' := fun i => pl[i]?) (fun _ _ e => e) hl hpr hcl
          refine ⟨.agg zs, ?_, zs.toList, by simp, hr⟩
          simp [execOp, ho, Instr.build, hz1, underlying, hfs, Array.mapM_eq_mapM_toList, places_ok hpl, hf]
        · cases hv
      · cases hv
    · rename_i e n hfs
      split at hv
      · rename_i k hk
        split at hv
        · rename_i l hl
          cases hv
          obtain ⟨zs, hf, hr⟩ := fill_ok (place' := fun i => some (i * k, k)) (fun _ _ e => e) hl hpr hcl
          refine ⟨.agg zs, ?_, zs.toList, by simp, hr⟩
          simp [execOp, ho, Instr.build, hz1, underlying, hfs, run_sizeOf hk, hf]
        · cases hv
      · cases hv
    · cases hv
  · cases hv

/-! ### Slices -/
/-- An operand that may be left out. -/
def OR (ρ : Ren) : Option V → Option Value → Prop
  | none, none => True
  | some v, some u => VR ρ v u
  | _, _ => False
theorem asLen_ok {x : V} {n : Nat} (h : asLen x = some n) : ∃ k, x = .int k (.ofNat n) := by
  unfold asLen at h
  split at h
  · cases h; exact ⟨_, rfl⟩
  · cases h
theorem boundTo_ok {x : V} {most n : Nat} {u : Value} {code : BoundsCode} (h : boundTo x most = some n) (hr : VR ρ x u) (m : Nat) (hm : most ≤ m) : (Instr.sliceBound u m code).run P w = .ok n w ∧ n ≤ most := by
  unfold boundTo at h
  split at h
  · cases h
  · rename_i k hk
    split at h
    · rename_i hle
      cases h
      obtain ⟨kk, rfl⟩ := asLen_ok hk
      have e := hr.int_inv
      have hle := Nat.le_of_ble_eq_true hle
      subst e
      refine ⟨?_, hle⟩
      simp [Instr.sliceBound, asIntOf, show n ≤ m from by omega]
    · cases h
def maxS (isSlice : Bool) (cap : Nat) (mx : Option Value) : Sem Nat := match mx with
  | some v => Instr.sliceBound v cap (if isSlice then .slice3Acap else .slice3Alen)
  | none => pure cap
def highS (isSlice : Bool) (len m : Nat) (hi mx : Option Value) : Sem Nat := match hi, mx with
  | some v, some _ => Instr.sliceBound v m .slice3B
  | some v, none => Instr.sliceBound v m (if isSlice then .sliceAcap else .sliceAlen)
  | none, none => pure len
  | none, some _ => stuck "Slice: max without high"
def lowS (h : Nat) (lo mx : Option Value) : Sem Nat := match lo with
  | some v => Instr.sliceBound v h (if mx.isSome then .slice3C else .sliceB)
  | none => pure 0
theorem sliceBounds_eq (isSlice : Bool) (len cap : Nat) (lo hi mx : Option Value) :
    Instr.sliceBounds isSlice len cap lo hi mx = (maxS isSlice cap mx >>= fun m => highS isSlice len m hi mx >>= fun h => lowS h lo mx >>= fun l => pure (l, h, m)) := by
  unfold Instr.sliceBounds maxS highS lowS
  cases mx <;> cases hi <;> cases lo <;> rfl
theorem maxS_ok {c m : Option Nat} {mx : Option V} {mx' : Option Value} (isSlice : Bool) (h : maxBound c mx = some m) (hmx : OR ρ mx mx') (cap : Nat) (hc : ∀ k, c = some k → k = cap) :
    ∃ m', (maxS isSlice cap mx').run P w = .ok m' w ∧ (∀ k, m = some k → k = m') ∧ (m = none → c = none ∧ m' = cap) ∧ (c ≠ none → m ≠ none) ∧ m' ≤ cap := by
  unfold maxBound at h
  split at h
  · cases h
    cases mx' with
    | none => exact ⟨cap, rfl, hc, fun e => ⟨e, rfl⟩, fun e => e, Nat.le_refl _⟩
    | some _ => exact hmx.elim
  · split at h
    · cases h
    · rename_i k
      split at h
      · rename_i n hnb
        cases h
        cases mx' with
        | none => exact hmx.elim
        | some u =>
          have := hc k rfl
          subst this
          exact ⟨n, (boundTo_ok (P := P) (w := w) hnb hmx k (Nat.le_refl _)).1, fun k e => (by cases e; rfl), fun e => (by cases e), fun _ e => (by cases e), (boundTo_ok (P := P) (w := w) (code := .index) hnb hmx k (Nat.le_refl _)).2⟩
      · cases h
theorem highS_ok {len h m' : Nat} {m : Option Nat} {hi mx : Option V} {hi' mx' : Option Value} (isSlice : Bool) (hb : highBound len m hi mx = some h) (hhi : OR ρ hi hi') (hmx : OR ρ mx mx') (hcap : capOr m len ≤ m') :
    (highS isSlice len m' hi' mx').run P w = .ok h w ∧ (m = none → h ≤ len) ∧ (len ≤ m' → h ≤ m') := by
  unfold highBound at hb
  split at hb
  · cases hi' with
    | none => exact hhi.elim
    | some u =>
      have hle := (boundTo_ok (P := P) (w := w) (code := .slice3B) hb hhi m' hcap).2
      refine ⟨?_, fun e => (by subst e; exact hle), fun _ => Nat.le_trans hle hcap⟩
      cases mx' with
      | none => exact (boundTo_ok hb hhi m' hcap).1
      | some _ => exact (boundTo_ok hb hhi m' hcap).1
  · cases hi' with
    | some _ => exact hhi.elim
    | none =>
      split at hb
      · cases hb
        cases mx' with
        | none => exact ⟨rfl, fun _ => Nat.le_refl _, fun e => e⟩
        | some _ => exact hmx.elim
      · cases hb
theorem lowS_ok {h l : Nat} {lo : Option V} {lo' mx' : Option Value} (hb : lowBound h lo = some l) (hlo : OR ρ lo lo') : (lowS h lo' mx').run P w = .ok l w ∧ l ≤ h := by
  unfold lowBound at hb
  split at hb
  · cases hb
    cases lo' with
    | none => exact ⟨rfl, Nat.zero_le _⟩
    | some _ => exact hlo.elim
  · cases lo' with
    | none => exact hlo.elim
    | some u => exact boundTo_ok hb hlo h (Nat.le_refl _)
/-- The bounds, where the capacity is told (or known to be at least the length). -/
theorem bounds_ok {len : Nat} {c : Option Nat} {lo hi mx : Option V} {lo' hi' mx' : Option Value} {l h : Nat} {m : Option Nat} (isSlice : Bool) (hb : bounds len c lo hi mx = some (l, h, m)) (hlo : OR ρ lo lo') (hhi : OR ρ hi hi') (hmx : OR ρ mx mx')
    (cap : Nat) (hc : ∀ k, c = some k → k = cap) (hn : c = none → len ≤ cap) : ∃ m', (Instr.sliceBounds isSlice len cap lo' hi' mx').run P w = .ok (l, h, m') w ∧ (∀ k, m = some k → k = m') ∧ (m = none → c = none ∧ m' = cap ∧ h ≤ len) ∧ l ≤ h ∧ (c ≠ none → m ≠ none) ∧ m' ≤ cap ∧ (len ≤ m' → h ≤ m') := by
  unfold bounds at hb
  split at hb
  · cases hb
  · rename_i m1 hm1
    split at hb
    · cases hb
    · rename_i h1 hh1
      split at hb
      · cases hb
      · rename_i l1 hl1
        simp only [Option.some.injEq, Prod.mk.injEq] at hb
        obtain ⟨rfl, rfl, rfl⟩ := hb
        obtain ⟨m', r1, r2, r3, r4, r5⟩ := maxS_ok (P := P) (w := w) isSlice hm1 hmx cap hc
        have hcap : capOr m1 len ≤ m' := by
          cases m1 with
          | none => obtain ⟨e1, e2⟩ := r3 rfl; rw [e2]; exact hn e1
          | some k => rw [← r2 k rfl]; exact Nat.le_refl _
        obtain ⟨q1, q2, q5⟩ := highS_ok (P := P) (w := w) isSlice hh1 hhi hmx hcap
        obtain ⟨q3, q4⟩ := lowS_ok (P := P) (w := w) (mx' := mx') hl1 hlo
        refine ⟨m', ?_, r2, fun e => ⟨(r3 e).1, (r3 e).2, q2 e⟩, q4, r4, r5, q5⟩
        rw [sliceBounds_eq]
        simp only [Sem.run_bind, r1, Result.andThen_ok, q1, q3, Sem.run_pure]

theorem mkSl_eq (b off len : Nat) (c : Cap) : mkSl b off len c = .sl b off len c := by
  unfold mkSl
  cases c <;> rfl
/-- A slice of a row, its capacity told. -/
theorem slRow_ok {b off l h m z : Nat} {loc : Loc} (hl : ρ b = some loc) :
    VR ρ (slRow b off z (l, h, some m)) (.slice (some (if m = l then ⟨loc.blk, loc.off + off, none⟩ else (⟨loc.blk, loc.off + off, none⟩ : Addr).add (l * z))) (h - l) (m - l)) := by
  unfold slRow
  simp only []
  split
  · rename_i e
    rw [mkSl_eq, if_pos (Nat.eq_of_beq_eq_true e)]
    exact ⟨loc, hl, rfl⟩
  · rename_i e
    rw [mkSl_eq, if_neg (Nat.ne_of_beq_eq_false e), add_none]
    exact ⟨loc, hl, by rw [Nat.add_assoc]; rfl⟩
theorem evO_or (h : TR ρ a act.tmps) (g : GOK ρ) {x : Option Operand} {r : Option V} (e : evO a x = some r) : OR ρ r (x.map act.eval) := by
  have := evO_ok h g e
  cases r <;> cases hx : x.map act.eval <;> rw [hx] at this <;> exact this
theorem slice_ok {t : TypeId} {x : Operand} {lo hi mx : Option Operand} (ho : o.op = .slice t x lo hi mx) (h : TR ρ a act.tmps) (g : GOK ρ) (hv : sliceV P t (evl x a) (evO a lo) (evO a hi) (evO a mx) = some v) : Pu P ρ w act o v := by
  unfold sliceV at hv
  split at hv
  · rename_i vx vlo vhi vmx e1 e2 e3 e4
    have rx := evl_ok h g e1
    have rlo := evO_or h g e2
    have rhi := evO_or h g e3
    have rmx := evO_or h g e4
    -- an array's address
    have arr : ∀ (n : Nat) (e : TypeId) (b off : Nat), vx = .ptr b off → slArr P b off n e vlo vhi vmx = some v → ∃ loc l hh m z, ρ b = some loc ∧ act.eval x = .pointer (some ⟨loc.blk, loc.off + off, none⟩) ∧ szOf P e = some z ∧
        (Instr.sliceBounds false n n (lo.map act.eval) (hi.map act.eval) (mx.map act.eval)).run P w = .ok (l, hh, m) w ∧
        VR ρ v (.slice (some (if m = l then ⟨loc.blk, loc.off + off, none⟩ else (⟨loc.blk, loc.off + off, none⟩ : Addr).add (l * z))) (hh - l) (m - l)) := by
      intro n e b off hx hq
      clear hv
      subst hx
      obtain ⟨loc, hl, ex⟩ := rx.ptr_inv
      unfold slArr at hq
      split at hq
      · cases hq
      · rename_i z hz
        split at hq
        · cases hq
        · rename_i r hr
          obtain ⟨l, hh, m⟩ := r
          cases hq
          obtain ⟨m', q1, q2, q3, q4, q5, q6, q7⟩ := bounds_ok (P := P) (w := w) false hr rlo rhi rmx n (fun k e => by cases e; rfl) (fun e => by cases e)
          cases m with
          | none => exact absurd rfl (q5 (by simp))
          | some m => rw [← q2 m rfl] at q1; exact ⟨loc, l, hh, m, z, hl, ex, hz, q1, slRow_ok hl⟩
    unfold sliceOp at hv
    split at hv
    · rename_i n e b off ht
      obtain ⟨loc, l, hh, m, z, hl, ex, hz, q1, q2⟩ := arr n e b off rfl hv
      exact ⟨_, by simp [execOp, ho, Instr.sliceAt, underlying, ht, ex, Instr.sureAddr, q1, run_sizeOf hz], q2⟩
    · rename_i ar b off ht
      split at hv
      · rename_i n e hu
        obtain ⟨loc, l, hh, m, z, hl, ex, hz, q1, q2⟩ := arr n e b off rfl hv
        exact ⟨_, by simp [execOp, ho, Instr.sliceAt, Instr.slice, underlying, ht, hu, ex, asAddr, q1, run_sizeOf hz], q2⟩
      · cases hv
    · rename_i e b off len c ht
      unfold slSl at hv
      split at hv
      · cases hv
      · rename_i z hz
        split at hv
        · cases hv
        · rename_i c1 hc1
          split at hv
          · cases hv
          · rename_i r hr
            obtain ⟨l, hh, m⟩ := r
            cases hv
            unfold capOf at hc1
            split at hc1
            · rename_i c
              cases hc1
              simp only [VR] at rx
              obtain ⟨loc, hl, ex⟩ := rx
              obtain ⟨m', q1, q2, q3, q4, q5, q6, q7⟩ := bounds_ok (P := P) (w := w) true hr rlo rhi rmx c (fun k e => by cases e; rfl) (fun e => by cases e)
              cases m with
              | none => exact absurd rfl (q5 (by simp))
              | some m =>
                rw [← q2 m rfl] at q1
                refine ⟨_, by simp [execOp, ho, Instr.sliceAt, Instr.slice, underlying, ht, ex, q1, run_sizeOf hz]; rfl, ?_⟩
                have := slRow_ok (ρ := ρ) (b := b) (off := off) (l := l) (h := hh) (m := m) (z := z) hl
                split at this <;> rename_i e
                · rw [if_pos e]; exact this
                · rw [if_neg e]; exact this
            · rename_i z'
              split at hc1
              · rename_i ez
                have ez := Nat.eq_of_beq_eq_true ez
                subst ez
                cases hc1
                simp only [VR] at rx
                obtain ⟨loc, hl, ⟨c, ex, hlen, hroom⟩ | ⟨hlen, a0, ex⟩⟩ := rx
                · obtain ⟨m', q1, q2, q3, q4, q5, q6, q7⟩ := bounds_ok (P := P) (w := w) true hr rlo rhi rmx c (fun k e => by cases e) (fun _ => hlen)
                  refine ⟨.slice (some (if m' = l then ⟨loc.blk, loc.off + off, none⟩ else (⟨loc.blk, loc.off + off, none⟩ : Addr).add (l * z))) (hh - l) (m' - l), ?_, ?_⟩
                  · simp [execOp, ho, Instr.sliceAt, Instr.slice, underlying, ht, ex, q1, run_sizeOf hz]
                    split <;> simp_all
                  · cases m with
                    | some m =>
                      rw [← q2 m rfl]
                      exact slRow_ok hl
                    | none =>
                      obtain ⟨_, em, hle⟩ := q3 rfl
                      subst em
                      show VR ρ (mkSl b (off + l * z) (hh - l) (.of z)) _
                      rw [mkSl_eq]
                      refine ⟨loc, hl, ?_⟩
                      by_cases e : m' = l
                      · right
                        refine ⟨by omega, ⟨loc.blk, loc.off + off, none⟩, ?_⟩
                        rw [if_pos e, show hh - l = 0 from by omega, show m' - l = 0 from by omega]
                      · left
                        refine ⟨m' - l, ?_, by omega, ?_⟩
                        · rw [if_neg e, add_none, Nat.add_assoc]
                        · have : (m' - l) * z + l * z = m' * z := by rw [← Nat.add_mul]; congr 1; omega
                          omega
                · subst hlen
                  obtain ⟨m', q1, q2, q3, q4, q5, q6, q7⟩ := bounds_ok (P := P) (w := w) true hr rlo rhi rmx 0 (fun k e => by cases e) (fun _ => Nat.le_refl _)
                  cases m with
                  | some m =>
                    -- a full slice expression of a row of unknown room is not taken
                    exfalso
                    unfold bounds maxBound at hr
                    split at hr
                    · cases hr
                    · rename_i m1 hm1
                      split at hm1
                      · cases hm1
                        split at hr
                        · cases hr
                        · split at hr <;> cases hr
                      · cases hm1
                  | none =>
                    obtain ⟨_, em, hle⟩ := q3 rfl
                    subst em
                    have el : l = 0 := by omega
                    have eh : hh = 0 := by omega
                    subst el eh
                    refine ⟨.slice (some a0) 0 0, by simp [execOp, ho, Instr.sliceAt, Instr.slice, underlying, ht, ex, q1, run_sizeOf hz], ?_⟩
                    show VR ρ (mkSl b (off + 0 * z) (0 - 0) (.of z)) _
                    rw [mkSl_eq]
                    exact ⟨loc, hl, .inr ⟨rfl, a0, rfl⟩⟩
              · cases hc1
    · rename_i e ht
      split at hv
      · rename_i z r hz hr
        obtain ⟨l, hh, m⟩ := r
        cases hv
        simp only [VR] at rx
        obtain ⟨m', q1, q2, q3, q4, q5, q6, q7⟩ := bounds_ok (P := P) (w := w) true hr rlo rhi rmx 0 (fun k e => by cases e; rfl) (fun e => by cases e)
        have em : m' = 0 := by omega
        have eh : hh = 0 := by have := q7 (by omega); omega
        have el : l = 0 := by omega
        subst em eh el
        exact ⟨.slice none 0 0, by simp [execOp, ho, Instr.sliceAt, Instr.slice, underlying, ht, rx, q1, run_sizeOf hz], by simp [VR]⟩
      · cases hv
    · rename_i l ht
      split at hv
      · cases hv
      · split at hv
        · rename_i l1 hh m hr
          cases hv
          simp only [VR] at rx
          obtain ⟨s, ex, hs⟩ := rx
          have hlen : l.length = s.size := by rw [hs]; simp
          rw [hlen] at hr
          obtain ⟨m', q1, q2, q3, q4, q5, q6, q7⟩ := bounds_ok (P := P) (w := w) (mx' := none) false hr rlo rhi trivial s.size (fun k e => by cases e; rfl) (fun e => by cases e)
          cases hm : mx.map act.eval with
          | some u => rw [hm] at rmx; exact rmx.elim
          | none =>
            have hm' : mx = none := by simpa using hm
            subst hm'
            refine ⟨.string (s.extract l1 hh), by simp [execOp, ho, Instr.sliceAt, Instr.slice, underlying, ht, ex, q1], s.extract l1 hh, rfl, ?_⟩
            subst hs
            show _ = (s.extract l1 hh).data.toList.map UInt8.toNat
            simp [ByteArray.data_extract, List.map_take, List.map_drop]
        · cases hv
    · cases hv
  · cases hv

end Go.Ex

/- Operations that read or write memory: the model does what the executor does. -/
namespace Go.Ex
variable {P : Program} {ρ : Ren} {w : World} {a : T V} {act : Act} {o : Oper} {s s' : S}

/-- What an operation comes to, as the model has it. -/
def NxR (P : Program) (ρ : Ren) (w : World) : Nx → Next → Prop
  | .val v, .value u => VR ρ v u
  | .val v, .skip => v = .tup []
  | .call f args, .enter g as => f = g ∧ VRs ρ args as.toList
  | .round l args, nx => ∃ loc as, ρ l = some loc ∧ VRs ρ args as ∧ (Instr.yield loc.blk ⟨as⟩).run P w = .ok nx w
  | _, _ => False
/-- A value, and the memory behind it. -/
def EfV (P : Program) (ρ : Ren) (w : World) (s s' : S) (v : V) (g : Sem Value) : Prop :=
  ∃ ρ' w' u, g.run P w = .ok u w' ∧ VR ρ' v u ∧ MR ρ' s'.mem w' ∧ Ext ρ ρ' s.next s'.next
def Ef (P : Program) (ρ : Ren) (w : World) (act : Act) (o : Oper) (s s' : S) (x : Nx) : Prop :=
  ∃ ρ' w' nx, (execOp act.eval o).run P w = .ok nx w' ∧ NxR P ρ' w' x nx ∧ MR ρ' s'.mem w' ∧ Ext ρ ρ' s.next s'.next
theorem Ef.of_val {v : V} {g : Sem Value} (h : EfV P ρ w s s' v g) (e : execOp act.eval o = do pure (.value (← g))) : Ef P ρ w act o s s' (.val v) := by
  obtain ⟨ρ', w', u, h1, h2, h3, h4⟩ := h
  exact ⟨ρ', w', .value u, by rw [e]; simp [h1], h2, h3, h4⟩
theorem Rval_ok {r : R V} {x : Nx} {s' : S} (h : R.val r = .ok x s') : ∃ v, r = .ok v s' ∧ x = .val v := by
  cases r with
  | no w => cases h
  | ok v s => cases h; exact ⟨v, rfl, rfl⟩
/-- A step that leaves the state. -/
theorem EfV.same {v : V} {u : Value} {g : Sem Value} (h : g.run P w = .ok u w) (hv : VR ρ v u) (hm : MR ρ s.mem w) (e1 : s'.mem = s.mem) : EfV P ρ w s s' v g :=
  ⟨ρ, w, u, h, hv, by rw [e1]; exact hm, Ext.refl _ _ _⟩

/-! ### New rows -/
theorem newCells_ok {l : List V} {b : Nat} (h : newCells l s = .ok b s') : ∃ t, layCells false l 0 .lf = some t ∧ b = s.next ∧ s'.mem = s.mem.put s.next (some (.cells t false)) ∧ s'.next = s.next + 1 := by
  unfold newCells at h
  split at h
  · cases h
  · rename_i t ht
    obtain ⟨h1, h2, h3⟩ := new_ok h
    exact ⟨t, ht, h1, h2, h3⟩
/-- A new row of just these cells. -/
theorem newCells_run {l : List V} {b : Nat} (h : newCells l s = .ok b s') (hm : MR ρ s.mem w) (hf : Fresh ρ s.next s'.next) {ys : List Value} (hr : VRs ρ l ys) (e : TypeId) :
    ∃ ρ' w' loc, (newRow e ys.toArray).run P w = .ok ⟨loc.blk, loc.off, none⟩ w' ∧ ρ' b = some loc ∧ loc.off = 0 ∧ loc.size = ys.length ∧ MR ρ' s'.mem w' ∧ Ext ρ ρ' s.next s'.next := by
  obtain ⟨t, ht, rfl, h2, h3⟩ := newCells_ok h
  have hn := hf s.next (Nat.le_refl _) (by omega)
  obtain ⟨w', h4, h5, h6⟩ := hm.made (P := P) false (rest := []) (room := ys.length) e hn ht hr (by simp)
  simp only [List.append_nil] at h4
  exact ⟨_, w', ⟨w.heap.size, 0, ys.length, none⟩, h4, Ren.with_at _ _ _, rfl, rfl, by rw [h2]; exact h5, by rw [h3]; exact h6⟩
theorem ptrNew_ok {r : R Nat} {x : Nx} (h : ptrNew r = .ok x s') : ∃ b, r = .ok b s' ∧ x = .val (.ptr b 0) := by
  unfold ptrNew at h
  obtain ⟨b, s1, h1, h2⟩ := R.bind_eq_ok h
  cases h2
  exact ⟨b, h1, rfl⟩
theorem alloc_ok {t : TypeId} {x : Nx} (ho : o.op = .alloc t) (hm : MR ρ s.mem w) (hf : Fresh ρ s.next s'.next) (hx : opAlloc (zeroV P t) a s = .ok x s') : Ef P ρ w act o s s' x := by
  unfold opAlloc at hx
  rw [Orec_eq] at hx
  split at hx
  · cases hx
  · rename_i z hz
    obtain ⟨b, h1, rfl⟩ := ptrNew_ok hx
    obtain ⟨zv, hz1, hz2⟩ := run_zeroValue (P := P) (ρ := ρ) (w := w) hz
    obtain ⟨ρ', w', loc, r1, r2, r3, _, r4, r5⟩ := newCells_run (P := P) h1 hm hf hz2.cells t
    refine Ef.of_val (g := Instr.alloc t true (.tuple #[])) ⟨ρ', w', .pointer (some ⟨loc.blk, loc.off, none⟩), ?_, ⟨loc, r2, by simp⟩, r4, r5⟩ (by simp [execOp, ho])
    simp only [Array.toArray_toList] at r1
    simp [Instr.alloc, hz1, newVar, r1]
theorem box_ok {t : TypeId} {y : Operand} {x : Nx} (ho : o.op = .box t y) (h : TR ρ a act.tmps) (g : GOK ρ) (hm : MR ρ s.mem w) (hf : Fresh ρ s.next s'.next) (hx : opBox (evl y) a s = .ok x s') : Ef P ρ w act o s s' x := by
  unfold opBox at hx
  rw [Orec_eq] at hx
  split at hx
  · cases hx
  · rename_i v hv
    obtain ⟨b, h1, rfl⟩ := ptrNew_ok hx
    have hr := evl_ok h g hv
    obtain ⟨ρ', w', loc, r1, r2, r3, _, r4, r5⟩ := newCells_run (P := P) h1 hm hf hr.cells t
    refine Ef.of_val (g := Instr.box t (act.eval y)) ⟨ρ', w', .pointer (some ⟨loc.blk, loc.off, none⟩), ?_, ⟨loc, r2, by simp⟩, r4, r5⟩ (by simp [execOp, ho])
    simp only [Array.toArray_toList] at r1
    simp [Instr.box, newVar, r1]
theorem repl_ok {l : List V} {ys : List Value} (h : VRs ρ l ys) : ∀ n, VRs ρ (repl n l) (List.replicate n ys).flatten := by
  intro n
  induction n with
  | zero => simp [repl, VRs]
  | succ n ih => rw [List.replicate_succ, List.flatten_cons]; exact h.append ih
theorem zeros_eq (n : Nat) (zs : Array Value) : ((Array.range (n * zs.size)).map fun i => zs[i % zs.size]!).toList = (List.replicate n zs.toList).flatten := by
  apply List.ext_getElem?
  intro i
  induction n generalizing i with
  | zero => simp
  | succ n ih =>
    have hl : ∀ k, ((Array.range (k * zs.size)).map fun i => zs[i % zs.size]!).toList[i]? = if i < k * zs.size then some zs[i % zs.size]! else none := fun k => by
      by_cases h : i < k * zs.size
      · rw [if_pos h]; simp [h]
      · rw [if_neg h]; simp; omega
    rw [List.replicate_succ, List.flatten_cons, hl]
    by_cases h : i < zs.size
    · rw [if_pos (by rw [Nat.succ_mul]; omega), List.getElem?_append_left (by simpa using h), Nat.mod_eq_of_lt h]
      simp [h]
    · rw [List.getElem?_append_right (by simpa using h)]
      have := ih (i - zs.size)
      simp only [Array.length_toList]
      rw [← this]
      have hl2 : ((Array.range (n * zs.size)).map fun i => zs[i % zs.size]!).toList[i - zs.size]? = if i - zs.size < n * zs.size then some zs[(i - zs.size) % zs.size]! else none := by
        by_cases h : i - zs.size < n * zs.size
        · rw [if_pos h]; simp [h]
        · rw [if_neg h]; simp; omega
      rw [hl2]
      have e : (i - zs.size) % zs.size = i % zs.size := by
        obtain ⟨j, rfl⟩ : ∃ j, i = j + zs.size := ⟨i - zs.size, by omega⟩
        simp
      rw [e, Nat.succ_mul]
      by_cases h2 : i < n * zs.size + zs.size
      · rw [if_pos h2, if_pos (by omega)]
      · rw [if_neg h2, if_neg (by omega)]

/-! ### Loads and stores -/
theorem getCell_ok {b off : Nat} {v : V} (h : getCell b off s = .ok v s') : ∃ t st, s.mem.get b = some (.cells t st) ∧ t.get off = some v ∧ s'.mem = s.mem ∧ s'.next = s.next := by
  unfold getCell at h
  obtain ⟨x, s1, h1, h2⟩ := R.bind_eq_ok h
  obtain ⟨_, k1, k2, k3⟩ := get_ok h1
  unfold cellIn at h2
  split at h2
  · rename_i t st
    split at h2
    · rename_i v' hv; cases h2; exact ⟨t, st, k1, hv, k2, k3⟩
    · cases h2
  · cases h2
theorem getCells_ok {b off n : Nat} {l : List V} (h : getCells b off n s = .ok l s') : ∃ t st, s.mem.get b = some (.cells t st) ∧ cellsOf t n off = some l ∧ s'.mem = s.mem ∧ s'.next = s.next := by
  unfold getCells at h
  obtain ⟨x, s1, h1, h2⟩ := R.bind_eq_ok h
  obtain ⟨_, k1, k2, k3⟩ := get_ok h1
  unfold cellsIn at h2
  split at h2
  · rename_i t st
    split at h2
    · rename_i v' hv; cases h2; exact ⟨t, st, k1, hv, k2, k3⟩
    · cases h2
  · cases h2
/-- A variable is loaded. -/
theorem loadAt_ok {t : TypeId} {n : Option Nat} {b off : Nat} {v : V} (hn : shapeOf P t = some n) (hm : MR ρ s.mem w) (h : loadAt b off n s = .ok v s') {u : Value} (hu : VR ρ (.ptr b off) u) :
    ∃ y, (Instr.loadAt t u).run P w = .ok y w ∧ VR ρ v y ∧ s'.mem = s.mem ∧ s'.next = s.next := by
  obtain ⟨loc, hl, rfl⟩ := hu.ptr_inv
  unfold loadAt at h
  split at h
  · obtain ⟨c, st, h1, h2, h3, h4⟩ := getCell_ok h
    obtain ⟨y, hy, hr⟩ := hm.cell h1 h2 hl
    exact ⟨y, by simp [Instr.loadAt, Instr.sureAddr, loadVar, run_isAgg (shapeOf_none hn), hy], hr, h3, h4⟩
  · rename_i k
    obtain ⟨l, s1, h1, h2⟩ := R.bind_eq_ok h
    cases h2
    obtain ⟨c, st, h1, h2, h3, h4⟩ := getCells_ok h1
    obtain ⟨ys, hy, hr⟩ := hm.cells (P := P) h1 h2 hl
    obtain ⟨e1, e2⟩ := shapeOf_some hn
    exact ⟨.agg ⟨ys⟩, by simp [Instr.loadAt, Instr.sureAddr, loadVar, run_isAgg e1, run_sizeOf e2, hy], ⟨ys, rfl, hr⟩, h3, h4⟩
theorem load_ok {t : TypeId} {y : Operand} {x : Nx} {f : T V → S → R Nx} (ho : o.op = .load t y) (h : TR ρ a act.tmps) (g : GOK ρ) (hm : MR ρ s.mem w) (hf : opLoad (shapeOf P t) (evl y) = .m f) (hx : f a s = .ok x s') : Ef P ρ w act o s s' x := by
  have key : ∃ n b off v, shapeOf P t = some n ∧ evl y a = some (.ptr b off) ∧ loadAt b off n s = .ok v s' ∧ x = .val v := by
    unfold opLoad at hf
    split at hf
    · cases hf
    · rename_i hs
      cases hf
      unfold opLoad1 at hx
      rw [Orec_eq] at hx
      split at hx
      · cases hx
      · rename_i v hv
        obtain ⟨v', h1, rfl⟩ := Rval_ok hx
        unfold load1 at h1
        split at h1
        · exact ⟨none, _, _, v', hs, hv, h1, rfl⟩
        · cases h1
    · rename_i n hs
      cases hf
      unfold opLoadN at hx
      rw [Orec_eq] at hx
      split at hx
      · cases hx
      · rename_i v hv
        obtain ⟨v', h1, rfl⟩ := Rval_ok hx
        unfold loadN at h1
        split at h1
        · exact ⟨some n, _, _, v', hs, hv, h1, rfl⟩
        · cases h1
  obtain ⟨n, b, off, v, hn, hv, hl, rfl⟩ := key
  obtain ⟨y', r1, r2, r3, r4⟩ := loadAt_ok hn hm hl (evl_ok h g hv)
  exact Ef.of_val (EfV.same r1 r2 hm r3) (by simp [execOp, ho])
/-- What setCells has done. -/
theorem setCells_ok {b off : Nat} {l : List V} {u : Unit} (h : setCells b off l s = .ok u s') : (l = [] ∧ s' = s) ∨ ∃ t t' st, s.mem.get b = some (.cells t st) ∧ layCells true l off t = some t' ∧ s'.mem = s.mem.put b (some (.cells t' st)) ∧ s'.next = s.next := by
  unfold setCells at h
  split at h
  · cases h; exact .inl ⟨rfl, rfl⟩
  · right
    obtain ⟨x, s1, h1, h2⟩ := R.bind_eq_ok h
    obtain ⟨_, k1, k2, k3⟩ := get_ok h1
    unfold cellsTo at h2
    split at h2
    · rename_i t st
      split at h2
      · rename_i t' ht
        obtain ⟨_, j1, j2⟩ := put_ok h2
        exact ⟨t, t', st, k1, ht, by rw [j1, k2], j2.trans k3⟩
      · cases h2
    · cases h2
theorem setCells_run {b off : Nat} {l : List V} {u : Unit} (h : setCells b off l s = .ok u s') (hm : MR ρ s.mem w) {ys : List Value} (hr : VRs ρ l ys) {loc : Loc} (hl : ρ b = some loc) :
    ∃ w', (storeCells ⟨loc.blk, loc.off + off, none⟩ ys).run P w = .ok () w' ∧ MR ρ s'.mem w' ∧ s'.next = s.next := by
  rcases setCells_ok h with ⟨rfl, rfl⟩ | ⟨t, t', st, h1, h2, h3, h4⟩
  · simp only [VRs] at hr; subst hr; exact ⟨w, rfl, hm, rfl⟩
  · obtain ⟨w', r1, r2, _⟩ := hm.stored (P := P) h1 h2 hr hl (fun e => by cases e)
    exact ⟨w', r1, by rw [h3]; exact r2, h4⟩
theorem store_ok {t : TypeId} {y z : Operand} {x : Nx} {f : T V → S → R Nx} (ho : o.op = .store t y z) (h : TR ρ a act.tmps) (g : GOK ρ) (hm : MR ρ s.mem w) (hf : opStoreC (szOf P t) (evl y) (evl z) = .m f) (hx : f a s = .ok x s') : Ef P ρ w act o s s' x := by
  unfold opStoreC at hf
  split at hf
  · cases hf
  · rename_i n hn
    cases hf
    unfold opStore at hx
    rw [Orec_eq] at hx
    split at hx
    · cases hx
    · rename_i u hu
      rw [Orec_eq] at hx
      split at hx
      · cases hx
      · rename_i v hv
        unfold storeN at hx
        split at hx
        · rename_i b off
          rw [Rrec_eq] at hx
          obtain ⟨⟨⟩, s1, h1, h2⟩ := R.bind_eq_ok hx
          cases h2
          unfold storeAt at h1
          split at h1
          · cases h1
          · rename_i hlen
            have hlen := Nat.eq_of_beq_eq_true hlen
            obtain ⟨loc, hl, eu⟩ := (evl_ok h g hu).ptr_inv
            have hr := evl_ok h g hv
            have hcl := hr.cells
            obtain ⟨w', r1, r2, r3⟩ := setCells_run (P := P) h1 hm hcl hl
            have hsz : (act.eval z).cells.size = n := by have := hcl.length; simp only [Array.length_toList] at this; omega
            refine ⟨ρ, w', .skip, ?_, rfl, r2, Ext.refl _ _ _⟩
            simp [execOp, ho, eu, Instr.storeAt, Instr.sureAddr, storeVar, run_sizeOf hn, hsz, r1]
        · cases hx

end Go.Ex

/- Equality, conversions, new slices: the model does what the executor does. -/
namespace Go.Ex
variable {P : Program} {ρ : Ren} {w : World} {a : T V} {act : Act} {o : Oper} {s s' : S}

/-! ### Equality -/
theorem beq_addr (b i j : Nat) : ((⟨b, i, none⟩ : Addr) == ⟨b, j, none⟩) = Nat.beq i j := by
  rw [Bool.eq_iff_iff]
  simp [Nat.beq_eq]
theorem run_stringish {blk off : Nat} {cs : Array Value} {e : TypeId} {fr : Nat × Nat} (h : w.heap[blk]? = some (.cells cs e fr)) (hf : fr.2 ≤ fr.1) : (stringish ⟨blk, off, none⟩).run P w = .ok false w := by
  have fz : ∀ k, w.frozen? ⟨blk, k, none⟩ = false := fun k => by
    unfold World.frozen?
    simp only [h]
    rw [← Bool.not_eq_true]
    simp
    omega
  simp [stringish, fz, World.shape?, h]
theorem eqFar_ok {b c i j : Nat} {r : Bool} (h : eqFar b c s = .ok r s') (hne : b ≠ c) (hm : MR ρ s.mem w) {l k : Loc} (hl : ρ b = some l) (hk : ρ c = some k) :
    r = false ∧ (sameAddr ⟨l.blk, l.off + i, none⟩ ⟨k.blk, k.off + j, none⟩).run P w = .ok false w ∧ s'.mem = s.mem ∧ s'.next = s.next := by
  unfold eqFar at h
  obtain ⟨x, s1, h1, h2⟩ := R.bind_eq_ok h
  obtain ⟨y, s2, h3, h4⟩ := R.bind_eq_ok h2
  obtain ⟨_, k1, k2, k3⟩ := get_ok h1
  obtain ⟨_, j1, j2, j3⟩ := get_ok h3
  rw [k2] at j1
  split at h4
  · rename_i p1 p2
    cases h4
    have plain : ∀ {x : AB}, isPlain x = true → ∃ t, x = .cells t false := fun {x} e => by
      unfold isPlain at e
      split at e
      · exact ⟨_, rfl⟩
      · cases e
    obtain ⟨t, rfl⟩ := plain p1
    obtain ⟨t', rfl⟩ := plain p2
    have hfar := hm.far b c _ _ l k k1 j1 hl hk
    obtain ⟨l', hl', cs, e, fr, q1, q2, q3, _⟩ := hm.at_ b _ k1
    rw [hl] at hl'; cases hl'
    obtain ⟨k', hk', cs', e', fr', r1, r2, r3, _⟩ := hm.at_ c _ j1
    rw [hk] at hk'; cases hk'
    have q3 : fr.2 ≤ fr.1 := Nat.le_of_eq (q3.1.resolve_right (fun e => by cases e.1)).symm
    have r3 : fr'.2 ≤ fr'.1 := Nat.le_of_eq (r3.1.resolve_right (fun e => by cases e.1)).symm
    have hb : (l.blk == k.blk) = false := by
      rw [← Bool.not_eq_true]
      intro e
      exact hne (hfar (by simpa using e))
    have fz : w.frozen? ⟨l.blk, l.off + i, none⟩ = false := by
      unfold World.frozen?
      simp only [q1]
      rw [← Bool.not_eq_true]
      simp
      omega
    refine ⟨rfl, ?_, j2.trans k2, j3.trans k3⟩
    simp [sameAddr, hb, fz, noView, viewAt, World.shape?, q1, r1, mayBeOne, run_stringish q1 q3, run_stringish r1 r3]
  · cases h4
theorem eqNats_ok : ∀ (x y : List UInt8), eqNats (x.map UInt8.toNat) (y.map UInt8.toNat) = (x == y) := by
  intro x
  induction x with
  | nil => intro y; cases y <;> rfl
  | cons c x ih =>
    intro y
    cases y with
    | nil => rfl
    | cons d y =>
      simp only [List.map_cons, eqNats]
      have e : Nat.beq c.toNat d.toNat = (c == d) := by
        rw [Bool.eq_iff_iff]; simp [Nat.beq_eq, UInt8.toNat_inj]
      rw [e, List.cons_beq_cons]
      cases (c == d) with
      | true => simp [ih]
      | false => simp

theorem VR.nilp_inv {u : Value} (h : VR ρ .nilp u) : u = .pointer none := by simpa [VR] using h
theorem VR.sl_inv {b off len : Nat} {c : Cap} {u : Value} (h : VR ρ (.sl b off len c) u) : ∃ a0 c', u = .slice (some a0) len c' := by
  cases c with
  | is c => simp only [VR] at h; obtain ⟨l, _, e⟩ := h; exact ⟨_, _, e⟩
  | of z =>
    simp only [VR] at h
    obtain ⟨l, _, ⟨c, e, _⟩ | ⟨e0, a0, e⟩⟩ := h
    · exact ⟨_, _, e⟩
    · subst e0; exact ⟨_, _, e⟩
/-- What is asked of two values that are held against each other, in whatever depth. -/
structure EqR (P : Program) (w : World) (t : TypeId) (u v : Value) (r : Bool) (s s' : S) : Prop where
  eql : (binOp .eql t u v).run P w = .ok (.bool r) w
  neq : (binOp .neq t u v).run P w = .ok (.bool !r) w
  guard : ∀ op xo yo, (eqGuard op t xo yo u v).run P w = .ok () w
  mem : s'.mem = s.mem
  next : s'.next = s.next
theorem EqR.of {t : TypeId} {u v : Value} {r : Bool} (h : ∀ d, (Op.equalIn (d + 1) t u v).run P w = .ok r w) (h1 : binOp .eql t u v = do pure (.bool (← Op.equal t u v))) (h2 : binOp .neq t u v = do pure (.bool (!(← Op.equal t u v))))
    (h3 : ∀ op xo yo, eqGuard op t xo yo u v = pure ()) (h4 : s'.mem = s.mem) (h5 : s'.next = s.next) : EqR P w t u v r s s' := by
  have e : (Op.equal t u v).run P w = .ok r w := h 9999
  exact ⟨by rw [h1]; simp [e], by rw [h2]; simp [e], fun op xo yo => by rw [h3]; rfl, h4, h5⟩
/-- Two arrays of numbers are held against each other. -/
theorem kindEq_iff {j k : IntKind} (h : kindEq j k = true) : j = k := by cases j <;> cases k <;> first | rfl | cases h
theorem eqInts_run {k : IntKind} {e : TypeId} (he : P.underlying e = some (.int k)) (hz : szOf P e = some 1) (d : Nat) : ∀ {a b pa pb : List V} {r : Bool} {us vs : List Value} {i : Nat}, eqInts k a b = some r → VRs ρ (pa ++ a) us → VRs ρ (pb ++ b) vs → pa.length = i → pb.length = i →
    (Op.eqItems (d + 1) e 1 ⟨us⟩ ⟨vs⟩ (List.range' i a.length)).run P w = .ok r w := by
  intro a
  induction a with
  | nil =>
    intro b pa pb r us vs i h _ _ _ _
    cases b with
    | nil => cases h; simp [Op.eqItems]
    | cons y b => cases h
  | cons x a ih =>
    intro b pa pb r us vs i h hu hv h1 h2
    unfold eqInts at h
    split at h
    · rename_i hh; cases hh
    · rename_i j m x' l n y' heq
      cases heq
      split at h
      · rename_i k1 k2
        have e1 := kindEq_iff k1
        have e2 := kindEq_iff k2
        subst e1
        subst e2
        have hs : shapeOf P e = some none := by simp [shapeOf, aggOf, aggOfD, he]
        have p1 : partOf P e (pa ++ V.int l m :: a) (i * 1) = some (.int l m) := by
          unfold partOf; rw [hs]; simp [← h1]
        have p2 : partOf P e (pb ++ V.int l n :: y') (i * 1) = some (.int l n) := by
          unfold partOf; rw [hs]; simp [← h2]
        obtain ⟨u, q1, q2⟩ := run_part (P := P) (w := w) p1 hu
        obtain ⟨v, q3, q4⟩ := run_part (P := P) (w := w) p2 hv
        have q2 := q2.int_inv
        have q4 := q4.int_inv
        subst q2
        subst q4
        have hq : (Op.equalIn (d + 1) e (.int l m) (.int l n)).run P w = .ok (m == n) w := by simp [Op.equalIn, underlying, he]
        simp only [List.length_cons, List.range'_succ, Op.eqItems, Sem.run_bind, q1, q3, hq, Result.andThen_ok]
        rw [eqI_eq] at h
        split at h
        · rename_i e0
          simp only [e0, Bool.not_true, Bool.false_eq_true, if_false]
          exact ih (pa := pa ++ [V.int l m]) (pb := pb ++ [V.int l n]) h (by simpa using hu) (by simpa using hv) (by simp [h1]) (by simp [h2])
        · rename_i e0
          cases h
          simp [e0]
      · cases h
    · cases h
/-- Two values of a type are held against each other. -/
theorem eqV_ok {t : TypeId} {x y : V} {u v : Value} {r : Bool} (h : eqV P t x y s = .ok r s') (hm : MR ρ s.mem w) (hx : VR ρ x u) (hy : VR ρ y v) : EqR P w t u v r s s' := by
  unfold eqV at h
  split at h
  all_goals first
    | (cases h; done)
    | skip
  · rename_i p q ht
    cases h
    have e1 := hx.bool_inv
    have e2 := hy.bool_inv
    subst e1 e2
    have : eqBool p q = (p == q) := by cases p <;> cases q <;> rfl
    rw [this]
    exact EqR.of (fun d => by simp [Op.equalIn, underlying, ht]) rfl rfl (fun op xo yo => by cases op <;> rfl) rfl rfl
  · rename_i p q ht
    cases h
    simp only [VR] at hx hy
    obtain ⟨t1, rfl, rfl⟩ := hx
    obtain ⟨t2, rfl, rfl⟩ := hy
    rw [eqNats_ok]
    exact ⟨by simp [binOp, Op.stringOp, ByteArray.toList_eq], by simp [binOp, Op.stringOp, ByteArray.toList_eq], fun op xo yo => by cases op <;> rfl, rfl, rfl⟩
  · rename_i e ht
    cases h
    have e1 := hx.nilp_inv
    have e2 := hy.nilp_inv
    subst e1 e2
    exact EqR.of (fun d => by simp [Op.equalIn, underlying, ht]) rfl rfl (fun op xo yo => by cases op <;> rfl) rfl rfl
  · rename_i e b off ht
    cases h
    have e1 := hx.nilp_inv
    obtain ⟨l, _, e2⟩ := hy.ptr_inv
    subst e1 e2
    exact EqR.of (fun d => by simp [Op.equalIn, underlying, ht]) rfl rfl (fun op xo yo => by cases op <;> rfl) rfl rfl
  · rename_i e b off ht
    cases h
    obtain ⟨l, _, e1⟩ := hx.ptr_inv
    have e2 := hy.nilp_inv
    subst e1 e2
    exact EqR.of (fun d => by simp [Op.equalIn, underlying, ht]) rfl rfl (fun op xo yo => by cases op <;> rfl) rfl rfl
  · rename_i e b i c j ht
    obtain ⟨l, hl, e1⟩ := hx.ptr_inv
    obtain ⟨k, hk, e2⟩ := hy.ptr_inv
    subst e1 e2
    unfold eqPtr at h
    split at h
    · rename_i n hn
      have key : (sameAddr ⟨l.blk, l.off + i, none⟩ ⟨k.blk, k.off + j, none⟩).run P w = .ok r w ∧ s'.mem = s.mem ∧ s'.next = s.next := by
        split at h
        · rename_i e
          cases h
          have e := Nat.eq_of_beq_eq_true e
          subst e
          rw [hl] at hk; cases hk
          refine ⟨?_, rfl, rfl⟩
          have : Nat.beq (l.off + i) (l.off + j) = Nat.beq i j := by rw [Bool.eq_iff_iff]; simp [Nat.beq_eq]
          have hb : ((⟨l.blk, l.off + i, none⟩ : Addr) == ⟨l.blk, l.off + j, none⟩) = Nat.beq i j := by rw [beq_addr, this]
          unfold sameAddr
          simp only [beq_self_eq_true, if_true, hb]
          rfl
        · rename_i e
          obtain ⟨rfl, h2, h3, h4⟩ := eqFar_ok (P := P) (i := i) (j := j) h (Nat.ne_of_beq_eq_false e) hm hl hk
          exact ⟨h2, h3, h4⟩
      obtain ⟨k1, k2, k3⟩ := key
      exact EqR.of (fun d => by simp [Op.equalIn, underlying, ht, run_sizeOf hn, k1]) rfl rfl (fun op xo yo => by cases op <;> rfl) k2 k3
    · cases h
  · rename_i e ht
    cases h
    simp only [VR] at hx hy
    subst hx hy
    exact EqR.of (fun d => by simp [Op.equalIn, underlying, ht]) rfl rfl (fun op xo yo => by cases op <;> rfl) rfl rfl
  · rename_i e b off len c ht
    cases h
    simp only [VR] at hx
    subst hx
    obtain ⟨a0, c', rfl⟩ := hy.sl_inv
    exact EqR.of (fun d => by simp [Op.equalIn, underlying, ht]) rfl rfl (fun op xo yo => by cases op <;> rfl) rfl rfl
  · rename_i e b off len c ht
    cases h
    simp only [VR] at hy
    subst hy
    obtain ⟨a0, c', rfl⟩ := hx.sl_inv
    exact EqR.of (fun d => by simp [Op.equalIn, underlying, ht]) rfl rfl (fun op xo yo => by cases op <;> rfl) rfl rfl
  · rename_i e e' ht
    cases h
    simp only [VR] at hx hy
    subst hx hy
    exact EqR.of (fun d => by simp [Op.equalIn, underlying, ht]) rfl rfl (fun op xo yo => by cases op <;> rfl) rfl rfl
  · rename_i e e' b ht
    cases h
    simp only [VR] at hx hy
    obtain ⟨l, _, rfl⟩ := hy
    subst hx
    exact EqR.of (fun d => by simp [Op.equalIn, underlying, ht]) rfl rfl (fun op xo yo => by cases op <;> rfl) rfl rfl
  · rename_i e e' b ht
    cases h
    simp only [VR] at hx hy
    obtain ⟨l, _, rfl⟩ := hx
    subst hy
    exact EqR.of (fun d => by simp [Op.equalIn, underlying, ht]) rfl rfl (fun op xo yo => by cases op <;> rfl) rfl rfl
  · rename_i ps rs vr ht
    cases h
    simp only [VR] at hx hy
    subst hx hy
    exact EqR.of (fun d => by simp [Op.equalIn, underlying, ht]) rfl rfl (fun op xo yo => by cases op <;> rfl) rfl rfl
  · rename_i ps rs vr f l c ht
    cases h
    simp only [VR] at hx hy
    obtain ⟨xs, cs, rfl, _⟩ := hy
    subst hx
    exact EqR.of (fun d => by simp [Op.equalIn, underlying, ht]) rfl rfl (fun op xo yo => by cases op <;> rfl) rfl rfl
  · rename_i ps rs vr f l c ht
    cases h
    simp only [VR] at hx hy
    obtain ⟨xs, cs, rfl, _⟩ := hx
    subst hy
    exact EqR.of (fun d => by simp [Op.equalIn, underlying, ht]) rfl rfl (fun op xo yo => by cases op <;> rfl) rfl rfl
  · rename_i n e a b ht
    unfold okB at h
    split at h
    · rename_i r0 hr
      cases h
      unfold eqArr at hr
      split at hr
      · rename_i k he hz hg hn
        have hn := Nat.eq_of_beq_eq_true hn
        simp only [VR] at hx hy
        obtain ⟨us, rfl, hus⟩ := hx
        obtain ⟨vs, rfl, hvs⟩ := hy
        obtain ⟨i, hi, hc⟩ : ∃ i, P.info? e = some i ∧ P.cellsOf e = 1 := by
          unfold szOf at hz
          split at hz
          · rename_i i hi
            have hz : i.size = 1 := Option.some.inj hz
            exact ⟨i, hi, by simp [Program.cellsOf, hi, hz]⟩
          · cases hz
        have key : ∀ d, (Op.equalIn (d + 1 + 1) t (.agg ⟨us⟩) (.agg ⟨vs⟩)).run P w = .ok r w := fun d => by
          rw [run_equalIn_array w (d + 1) ⟨us⟩ ⟨vs⟩ ht hi, hc, ← hn, List.range_eq_range']
          exact eqInts_run (pa := []) (pb := []) he hz d hr hus hvs rfl rfl
        have e0 : (Op.equal t (.agg ⟨us⟩) (.agg ⟨vs⟩)).run P w = .ok r w := key 9998
        refine ⟨by rw [show binOp .eql t (.agg ⟨us⟩) (.agg ⟨vs⟩) = (do pure (.bool (← Op.equal t (.agg ⟨us⟩) (.agg ⟨vs⟩)))) from rfl]; simp [e0], by rw [show binOp .neq t (.agg ⟨us⟩) (.agg ⟨vs⟩) = (do pure (.bool (!(← Op.equal t (.agg ⟨us⟩) (.agg ⟨vs⟩))))) from rfl]; simp [e0], fun op xo yo => ?_, rfl, rfl⟩
        unfold eqGuard
        cases op <;> simp [hg]
      · cases hr
    · cases h

theorem eq_ok {op : BinOp} {t t' : TypeId} {x y : Operand} {z : Nx} (ho : o.op = .binOp op t x y t') (h : TR ρ a act.tmps) (g : GOK ρ) (hm : MR ρ s.mem w) (hx : opEq P op t (evl x) (evl y) a s = .ok z s') : Ef P ρ w act o s s' z := by
  unfold opEq at hx
  rw [Orec_eq] at hx
  split at hx
  · cases hx
  · rename_i u hu
    rw [Orec_eq] at hx
    split at hx
    · cases hx
    · rename_i v hv
      obtain ⟨r, h1, rfl⟩ := Rval_ok hx
      unfold eqOp at h1
      split at h1
      · obtain ⟨b, s1, h2, h3⟩ := R.bind_eq_ok h1
        rw [mkBool_eq] at h3; cases h3
        obtain ⟨k1, k2, k5, k3, k4⟩ := eqV_ok h2 hm (evl_ok h g hu) (evl_ok h g hv)
        exact Ef.of_val (EfV.same (u := .bool b) (g := do eqGuard .eql t x y (act.eval x) (act.eval y); binOp .eql t (act.eval x) (act.eval y)) (by simp [k5, k1]) (by simp [VR]) hm k3) (by simp [execOp, ho])
      · obtain ⟨b, s1, h2, h3⟩ := R.bind_eq_ok h1
        rw [mkNot_eq] at h3; cases h3
        obtain ⟨k1, k2, k5, k3, k4⟩ := eqV_ok h2 hm (evl_ok h g hu) (evl_ok h g hv)
        exact Ef.of_val (EfV.same (u := .bool !b) (g := do eqGuard .neq t x y (act.eval x) (act.eval y); binOp .neq t (act.eval x) (act.eval y)) (by simp [k5, k2]) (by simp [VR]) hm k3) (by simp [execOp, ho])
      · cases h1

end Go.Ex
