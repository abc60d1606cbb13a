/- Laws of the executor's trees and of its state. -/
import Derived.Test.YtnoidpondkfolaaGreatDoorExA
namespace Go.Ex

/-! ### Places -/
def B.val : B → Nat
  | .e => 0
  | .a p => 4 * p.val + 1
  | .b p => 4 * p.val + 2
  | .c p => 4 * p.val + 3
  | .d p => 4 * p.val + 4

theorem pathF_succ (f n : Nat) : pathF (f + 1) n = match n with
    | 0 => .e
    | m + 1 => digit (m % 4) (pathF f (m / 4)) := by
  cases n <;> rfl

theorem digit_val (m : Nat) (b : B) (h : m < 4) : (digit m b).val = 4 * b.val + m + 1 := by
  match m, h with
  | 0, _ => rfl
  | 1, _ => rfl
  | 2, _ => rfl
  | 3, _ => rfl

theorem pathF_val : ∀ (f n : Nat), n < f → (pathF f n).val = n := by
  intro f
  induction f with
  | zero => intro n h; omega
  | succ f ih =>
    intro n h
    rw [pathF_succ]
    cases n with
    | zero => rfl
    | succ m =>
      simp only []
      rw [digit_val _ _ (Nat.mod_lt _ (by omega)), ih _ (by have := Nat.div_le_self m 4; omega)]
      omega

theorem path_val (n : Nat) : (path n).val = n := pathF_val _ _ (by omega)
theorem path_inj {m n : Nat} (h : path m = path n) : m = n := by rw [← path_val m, ← path_val n, h]

/-! ### Trees -/
section
variable {α : Type}
theorem T.getB_lf (p : B) : T.getB p (.lf : T α) = none := by cases p <;> rfl
theorem T.getB_e (x : Option α) (a b c d : T α) : T.getB .e (.nd x a b c d) = x := rfl
theorem T.getB_a (p : B) (x : Option α) (a b c d : T α) : T.getB (.a p) (.nd x a b c d) = T.getB p a := rfl
theorem T.getB_b (p : B) (x : Option α) (a b c d : T α) : T.getB (.b p) (.nd x a b c d) = T.getB p b := rfl
theorem T.getB_c (p : B) (x : Option α) (a b c d : T α) : T.getB (.c p) (.nd x a b c d) = T.getB p c := rfl
theorem T.getB_d (p : B) (x : Option α) (a b c d : T α) : T.getB (.d p) (.nd x a b c d) = T.getB p d := rfl

theorem T.putB_nd (v : Option α) (p : B) (t : T α) : ∃ x a b c d, T.putB v p t = .nd x a b c d := by
  induction p generalizing t with
  | e => cases t <;> exact ⟨_, _, _, _, _, rfl⟩
  | a p ih =>
    cases t with
    | lf => obtain ⟨x, a, b, c, d, h⟩ := ih .lf; exact ⟨_, _, _, _, _, by show T.onA none .lf .lf .lf (T.putB v p .lf) = _; rw [h]; rfl⟩
    | nd y k l m n => obtain ⟨x, a, b, c, d, h⟩ := ih k; exact ⟨_, _, _, _, _, by show T.onA y l m n (T.putB v p k) = _; rw [h]; rfl⟩
  | b p ih =>
    cases t with
    | lf => obtain ⟨x, a, b, c, d, h⟩ := ih .lf; exact ⟨_, _, _, _, _, by show T.onB none .lf .lf .lf (T.putB v p .lf) = _; rw [h]; rfl⟩
    | nd y k l m n => obtain ⟨x, a, b, c, d, h⟩ := ih l; exact ⟨_, _, _, _, _, by show T.onB y k m n (T.putB v p l) = _; rw [h]; rfl⟩
  | c p ih =>
    cases t with
    | lf => obtain ⟨x, a, b, c, d, h⟩ := ih .lf; exact ⟨_, _, _, _, _, by show T.onC none .lf .lf .lf (T.putB v p .lf) = _; rw [h]; rfl⟩
    | nd y k l m n => obtain ⟨x, a, b, c, d, h⟩ := ih m; exact ⟨_, _, _, _, _, by show T.onC y k l n (T.putB v p m) = _; rw [h]; rfl⟩
  | d p ih =>
    cases t with
    | lf => obtain ⟨x, a, b, c, d, h⟩ := ih .lf; exact ⟨_, _, _, _, _, by show T.onD none .lf .lf .lf (T.putB v p .lf) = _; rw [h]; rfl⟩
    | nd y k l m n => obtain ⟨x, a, b, c, d, h⟩ := ih n; exact ⟨_, _, _, _, _, by show T.onD y k l m (T.putB v p n) = _; rw [h]; rfl⟩

theorem T.onA_of {x : Option α} {b c d t : T α} (h : ∃ y k l m n, t = .nd y k l m n) : T.onA x b c d t = .nd x t b c d := by
  obtain ⟨y, k, l, m, n, rfl⟩ := h; rfl
theorem T.onB_of {x : Option α} {a c d t : T α} (h : ∃ y k l m n, t = .nd y k l m n) : T.onB x a c d t = .nd x a t c d := by
  obtain ⟨y, k, l, m, n, rfl⟩ := h; rfl
theorem T.onC_of {x : Option α} {a b d t : T α} (h : ∃ y k l m n, t = .nd y k l m n) : T.onC x a b d t = .nd x a b t d := by
  obtain ⟨y, k, l, m, n, rfl⟩ := h; rfl
theorem T.onD_of {x : Option α} {a b c t : T α} (h : ∃ y k l m n, t = .nd y k l m n) : T.onD x a b c t = .nd x a b c t := by
  obtain ⟨y, k, l, m, n, rfl⟩ := h; rfl

theorem T.putB_a (v : Option α) (p : B) (x : Option α) (a b c d : T α) : T.putB v (.a p) (.nd x a b c d) = .nd x (T.putB v p a) b c d :=
  T.onA_of (T.putB_nd v p a)
theorem T.putB_b (v : Option α) (p : B) (x : Option α) (a b c d : T α) : T.putB v (.b p) (.nd x a b c d) = .nd x a (T.putB v p b) c d :=
  T.onB_of (T.putB_nd v p b)
theorem T.putB_c (v : Option α) (p : B) (x : Option α) (a b c d : T α) : T.putB v (.c p) (.nd x a b c d) = .nd x a b (T.putB v p c) d :=
  T.onC_of (T.putB_nd v p c)
theorem T.putB_d (v : Option α) (p : B) (x : Option α) (a b c d : T α) : T.putB v (.d p) (.nd x a b c d) = .nd x a b c (T.putB v p d) :=
  T.onD_of (T.putB_nd v p d)
theorem T.putB_a' (v : Option α) (p : B) : T.putB v (.a p) .lf = .nd none (T.putB v p .lf) .lf .lf .lf := T.onA_of (T.putB_nd v p .lf)
theorem T.putB_b' (v : Option α) (p : B) : T.putB v (.b p) .lf = .nd none .lf (T.putB v p .lf) .lf .lf := T.onB_of (T.putB_nd v p .lf)
theorem T.putB_c' (v : Option α) (p : B) : T.putB v (.c p) .lf = .nd none .lf .lf (T.putB v p .lf) .lf := T.onC_of (T.putB_nd v p .lf)
theorem T.putB_d' (v : Option α) (p : B) : T.putB v (.d p) .lf = .nd none .lf .lf .lf (T.putB v p .lf) := T.onD_of (T.putB_nd v p .lf)

theorem T.getB_putB (v : Option α) (p : B) : ∀ (q : B) (t : T α), T.getB q (T.putB v p t) = if q = p then v else T.getB q t := by
  induction p with
  | e =>
    intro q t
    cases t with
    | lf =>
      show T.getB q (.nd v .lf .lf .lf .lf) = _
      cases q <;> simp [T.getB_e, T.getB_a, T.getB_b, T.getB_c, T.getB_d, T.getB_lf]
    | nd x a b c d =>
      show T.getB q (.nd v a b c d) = _
      cases q <;> simp [T.getB_e, T.getB_a, T.getB_b, T.getB_c, T.getB_d]
  | a p ih =>
    intro q t
    cases t with
    | lf => rw [T.putB_a']; cases q <;> simp [T.getB_e, T.getB_a, T.getB_b, T.getB_c, T.getB_d, T.getB_lf, ih]
    | nd x a b c d => rw [T.putB_a]; cases q <;> simp [T.getB_e, T.getB_a, T.getB_b, T.getB_c, T.getB_d, ih]
  | b p ih =>
    intro q t
    cases t with
    | lf => rw [T.putB_b']; cases q <;> simp [T.getB_e, T.getB_a, T.getB_b, T.getB_c, T.getB_d, T.getB_lf, ih]
    | nd x a b c d => rw [T.putB_b]; cases q <;> simp [T.getB_e, T.getB_a, T.getB_b, T.getB_c, T.getB_d, ih]
  | c p ih =>
    intro q t
    cases t with
    | lf => rw [T.putB_c']; cases q <;> simp [T.getB_e, T.getB_a, T.getB_b, T.getB_c, T.getB_d, T.getB_lf, ih]
    | nd x a b c d => rw [T.putB_c]; cases q <;> simp [T.getB_e, T.getB_a, T.getB_b, T.getB_c, T.getB_d, ih]
  | d p ih =>
    intro q t
    cases t with
    | lf => rw [T.putB_d']; cases q <;> simp [T.getB_e, T.getB_a, T.getB_b, T.getB_c, T.getB_d, T.getB_lf, ih]
    | nd x a b c d => rw [T.putB_d]; cases q <;> simp [T.getB_e, T.getB_a, T.getB_b, T.getB_c, T.getB_d, ih]

theorem T.get_put (t : T α) (m n : Nat) (v : Option α) : (t.put m v).get n = if n = m then v else t.get n := by
  unfold T.get T.put
  rw [T.getB_putB]
  by_cases h : n = m
  · simp [h]
  · rw [if_neg h, if_neg fun e => h (path_inj e)]
theorem T.get_lf (n : Nat) : (.lf : T α).get n = none := T.getB_lf _
theorem seqT_put {β : Type} (t : T α) (n : Nat) (v : Option α) (no : β) (k : T α → β) : seqT (t.put n v) no k = k (t.put n v) := by
  obtain ⟨x, a, b, c, d, h⟩ := T.putB_nd v (path n) t
  unfold T.put
  rw [h]
  rfl
end

/-! ### What is reckoned out first -/
@[simp] theorem seqN_eq {β : Type} (n : Nat) (k : Nat → β) : seqN n k = k n := rfl
@[simp] theorem seqI_eq {β : Type} (n : Int) (k : Int → β) : seqI n k = k n := by cases n <;> rfl
@[simp] theorem ite2_true {β : Type} (a b : β) : ite2 true a b = b := rfl
@[simp] theorem ite2_false {β : Type} (a b : β) : ite2 false a b = a := rfl
@[simp] theorem R.bind_ok {α β : Type} (a : α) (s : S) (f : α → S → R β) : (R.ok a s).bind f = f a s := rfl
@[simp] theorem R.bind_no {α β : Type} (w : String) (f : α → S → R β) : (R.no w : R α).bind f = .no w := rfl
theorem R.bind_eq_ok {α β : Type} {r : R α} {f : α → S → R β} {b : β} {s' : S} (h : r.bind f = .ok b s') : ∃ a s, r = .ok a s ∧ f a s = .ok b s' := by
  cases r with
  | no w => cases h
  | ok a s => exact ⟨a, s, rfl, h⟩

/-! ### The state -/
theorem get_eq (b : Nat) (s : S) : get b s = if b < s.next then (match s.mem.get b with
    | some x => .ok x (if b < s.lim then { s with rd := Nat.lor s.rd (Nat.shiftLeft 1 b) } else s)
    | none => .no "get: no such block") else .no "get: no such name" := by
  obtain ⟨m, nx, lim, rd, wr⟩ := s
  show getB b m nx lim rd wr = _
  unfold getB
  by_cases h : b < nx
  · have h1 : Nat.ble nx b = false := by rw [← Bool.not_eq_true, Nat.ble_eq]; omega
    rw [h1, ite2_false, if_pos h]
    generalize m.get b = o
    cases o with
    | none => rfl
    | some x =>
      show getC b m nx lim rd wr x = _
      unfold getC
      by_cases h2 : b < lim
      · have h3 : Nat.ble lim b = false := by rw [← Bool.not_eq_true, Nat.ble_eq]; omega
        rw [h3, ite2_false, seqN_eq]
        simp [h2]
      · have h3 : Nat.ble lim b = true := by rw [Nat.ble_eq]; omega
        rw [h3, ite2_true]
        simp [h2]
  · have h1 : Nat.ble nx b = true := by rw [Nat.ble_eq]; omega
    rw [h1, ite2_true, if_neg h]

theorem put_eq (b : Nat) (x : Option AB) (s : S) : put b x s = if b < s.next then
    .ok () (if b < s.lim then { s with mem := s.mem.put b x, wr := Nat.lor s.wr (Nat.shiftLeft 1 b) } else { s with mem := s.mem.put b x }) else .no "put: no such name" := by
  obtain ⟨m, nx, lim, rd, wr⟩ := s
  show putB b x m nx lim rd wr = _
  unfold putB
  by_cases h : b < nx
  · have h1 : Nat.ble nx b = false := by rw [← Bool.not_eq_true, Nat.ble_eq]; omega
    rw [h1, ite2_false, if_pos h, seqT_put]
    unfold putC
    by_cases h2 : b < lim
    · have h3 : Nat.ble lim b = false := by rw [← Bool.not_eq_true, Nat.ble_eq]; omega
      rw [h3, ite2_false, seqN_eq]
      simp [h2]
    · have h3 : Nat.ble lim b = true := by rw [Nat.ble_eq]; omega
      rw [h3, ite2_true]
      simp [h2]
  · have h1 : Nat.ble nx b = true := by rw [Nat.ble_eq]; omega
    rw [h1, ite2_true, if_neg h]

theorem new_eq (x : AB) (s : S) : new x s = .ok s.next { s with mem := s.mem.put s.next (some x), next := s.next + 1 } := by
  obtain ⟨m, nx, lim, rd, wr⟩ := s
  show newB x m nx lim rd wr = _
  unfold newB
  rw [seqT_put]
  rfl

theorem apart_eq {α : Type} (f : S → R α) (s : S) : apart f s = (f { s with lim := s.next, rd := 0, wr := 0 }).bind fun a s' =>
    .ok (a, s'.rd, Nat.lor s'.wr (Nat.shiftLeft 1 s'.next - Nat.shiftLeft 1 s.next)) { s' with lim := s.lim, rd := Nat.lor s.rd s'.rd, wr := Nat.lor s.wr s'.wr } := by
  obtain ⟨m, nx, lim, rd, wr⟩ := s
  show apartC f m nx lim rd wr = _
  unfold apartC
  rfl

end Go.Ex

/- What the executor's values, blocks and states say of the model's. -/
namespace Go.Ex

/-- What stays of a block, and of the world around it. -/
structure Kept where
  ety : TypeId
  fr : Nat × Nat
  os : Os
  out : Array (Nat × ByteArray)
  tape : Nat → Question → Nat
/-- Where a name's row lies: its block, its first place, and the block's cells; and what stays, where that is told. -/
structure Loc where
  blk : Nat
  off : Nat
  size : Nat
  kept : Option Kept

abbrev Ren := Nat → Option Loc

mutual
def VR (ρ : Ren) : V → Value → Prop
  | .bool b, v => v = .bool b
  | .int k n, v => v = .int k n
  | .str s, v => ∃ t : ByteArray, v = .string t ∧ s = t.data.toList.map UInt8.toNat
  | .nilp, v => v = .pointer none
  | .ptr b off, v => ∃ l, ρ b = some l ∧ v = .pointer (some ⟨l.blk, l.off + off, none⟩)
  | .nilsl, v => v = .slice none 0 0
  | .sl b off len (.is c), v => ∃ l, ρ b = some l ∧ v = .slice (some ⟨l.blk, l.off + off, none⟩) len c
  | .sl b off len (.of z), v => ∃ l, ρ b = some l ∧ ((∃ c, v = .slice (some ⟨l.blk, l.off + off, none⟩) len c ∧ len ≤ c ∧ l.off + off + c * z ≤ l.size) ∨
      (len = 0 ∧ ∃ a, v = .slice (some a) 0 0))
  | .nilmap, v => v = .map none
  | .map b, v => ∃ l, ρ b = some l ∧ v = .map (some l.blk)
  | .fn f x c, v => ∃ xs cs, v = .func (.func f) ⟨xs⟩ ⟨cs⟩ ∧ VRs ρ x xs ∧ VRs ρ c cs
  | .yield b, v => ∃ l, ρ b = some l ∧ v = .func (.yield l.blk) #[] #[]
  | .nilfn, v => v = .nilFunc
  | .nilif, v => v = .nilIface
  | .iface t x, v => ∃ y, v = .iface t y ∧ VR ρ x y
  | .agg l, v => ∃ vs, v = .agg ⟨vs⟩ ∧ VRs ρ l vs
  | .tup l, v => ∃ vs, v = .tuple ⟨vs⟩ ∧ VRs ρ l vs
def VRs (ρ : Ren) : List V → List Value → Prop
  | [], vs => vs = []
  | x :: xs, vs => ∃ y ys, vs = y :: ys ∧ VR ρ x y ∧ VRs ρ xs ys
end

/-- Names that are known stay as they are. -/
def Le (ρ ρ' : Ren) : Prop := ∀ b l, ρ b = some l → ρ' b = some l
theorem Le.refl (ρ : Ren) : Le ρ ρ := fun _ _ h => h
theorem Le.trans {ρ σ τ : Ren} (h : Le ρ σ) (k : Le σ τ) : Le ρ τ := fun b l e => k b l (h b l e)

mutual
theorem VR.mono {ρ ρ' : Ren} (h : Le ρ ρ') : ∀ (x : V) (v : Value), VR ρ x v → VR ρ' x v
  | .bool _, _, e => e
  | .int _ _, _, e => e
  | .str _, _, e => e
  | .nilp, _, e => e
  | .ptr _ _, _, e => by
    simp only [VR] at e ⊢; obtain ⟨l, hl, e⟩ := e; exact ⟨l, h _ _ hl, e⟩
  | .nilsl, _, e => e
  | .sl _ _ _ (.is _), _, e => by
    simp only [VR] at e ⊢; obtain ⟨l, hl, e⟩ := e; exact ⟨l, h _ _ hl, e⟩
  | .sl _ _ _ (.of _), _, e => by
    simp only [VR] at e ⊢; obtain ⟨l, hl, e⟩ := e; exact ⟨l, h _ _ hl, e⟩
  | .nilmap, _, e => e
  | .map _, _, e => by
    simp only [VR] at e ⊢; obtain ⟨l, hl, e⟩ := e; exact ⟨l, h _ _ hl, e⟩
  | .fn _ x c, _, e => by
    simp only [VR] at e ⊢; obtain ⟨xs, cs, e, h1, h2⟩ := e; exact ⟨xs, cs, e, VRs.mono h x xs h1, VRs.mono h c cs h2⟩
  | .yield _, _, e => by
    simp only [VR] at e ⊢; obtain ⟨l, hl, e⟩ := e; exact ⟨l, h _ _ hl, e⟩
  | .nilfn, _, e => e
  | .nilif, _, e => e
  | .iface _ x, _, e => by
    simp only [VR] at e ⊢; obtain ⟨y, e, h1⟩ := e; exact ⟨y, e, VR.mono h x y h1⟩
  | .agg l, _, e => by
    simp only [VR] at e ⊢; obtain ⟨vs, e, h1⟩ := e; exact ⟨vs, e, VRs.mono h l vs h1⟩
  | .tup l, _, e => by
    simp only [VR] at e ⊢; obtain ⟨vs, e, h1⟩ := e; exact ⟨vs, e, VRs.mono h l vs h1⟩
theorem VRs.mono {ρ ρ' : Ren} (h : Le ρ ρ') : ∀ (x : List V) (v : List Value), VRs ρ x v → VRs ρ' x v
  | [], _, e => e
  | x :: xs, _, e => by
    simp only [VRs] at e ⊢; obtain ⟨y, ys, e, h1, h2⟩ := e; exact ⟨y, ys, e, VR.mono h x y h1, VRs.mono h xs ys h2⟩
end

theorem VRs.length {ρ : Ren} : ∀ {x : List V} {v : List Value}, VRs ρ x v → v.length = x.length
  | [], _, e => by simp only [VRs] at e; simp [e]
  | x :: xs, _, e => by simp only [VRs] at e; obtain ⟨y, ys, rfl, _, h2⟩ := e; simp [VRs.length h2]
theorem VRs.append {ρ : Ren} : ∀ {x y : List V} {v w : List Value}, VRs ρ x v → VRs ρ y w → VRs ρ (x ++ y) (v ++ w)
  | [], _, _, _, e, h => by simp only [VRs] at e; subst e; exact h
  | x :: xs, _, _, _, e, h => by
    simp only [VRs] at e; obtain ⟨y, ys, rfl, h1, h2⟩ := e
    exact ⟨_, _, rfl, h1, VRs.append h2 h⟩
theorem VRs.get {ρ : Ren} : ∀ {x : List V} {v : List Value} {i : Nat} {a : V}, VRs ρ x v → x[i]? = some a → ∃ b, v[i]? = some b ∧ VR ρ a b
  | [], _, _, _, _, h => by simp at h
  | x :: xs, _, i, a, e, h => by
    simp only [VRs] at e; obtain ⟨y, ys, rfl, h1, h2⟩ := e
    cases i with
    | zero => simp at h; subst h; exact ⟨y, rfl, h1⟩
    | succ i => simp at h; simpa using VRs.get h2 h
theorem VRs.take {ρ : Ren} (n : Nat) : ∀ {x : List V} {v : List Value}, VRs ρ x v → VRs ρ (x.take n) (v.take n) := by
  induction n with
  | zero => intros; simp [VRs]
  | succ n ih =>
    intro x v e
    cases x with
    | nil => simp only [VRs] at e; simp [e, VRs]
    | cons x xs => simp only [VRs] at e; obtain ⟨y, ys, rfl, h1, h2⟩ := e; exact ⟨_, _, rfl, h1, ih h2⟩
theorem VRs.drop {ρ : Ren} (n : Nat) : ∀ {x : List V} {v : List Value}, VRs ρ x v → VRs ρ (x.drop n) (v.drop n) := by
  induction n with
  | zero => intro x v e; simpa using e
  | succ n ih =>
    intro x v e
    cases x with
    | nil => simp only [VRs] at e; simp [e, VRs]
    | cons x xs => simp only [VRs] at e; obtain ⟨y, ys, rfl, h1, h2⟩ := e; simpa using ih h2

/-- The cells of a value. -/
theorem VR.cells {ρ : Ren} {x : V} {v : Value} (h : VR ρ x v) : VRs ρ x.cells v.cells.toList := by
  cases x with
  | agg l => simp only [VR] at h; obtain ⟨vs, rfl, h⟩ := h; exact h
  | bool b => simp only [VR] at h; subst h; exact ⟨_, _, rfl, by simp [VR], rfl⟩
  | int k n => simp only [VR] at h; subst h; exact ⟨_, _, rfl, by simp [VR], rfl⟩
  | str s => have h' := h; simp only [VR] at h; obtain ⟨t, rfl, _⟩ := h; exact ⟨_, _, rfl, h', rfl⟩
  | nilp => simp only [VR] at h; subst h; exact ⟨_, _, rfl, by simp [VR], rfl⟩
  | ptr b off => have h' := h; simp only [VR] at h; obtain ⟨l, hl, rfl⟩ := h; exact ⟨_, _, rfl, h', rfl⟩
  | nilsl => simp only [VR] at h; subst h; exact ⟨_, _, rfl, by simp [VR], rfl⟩
  | sl b off len c =>
    have h' := h
    cases c with
    | is c => simp only [VR] at h; obtain ⟨l, hl, rfl⟩ := h; exact ⟨_, _, rfl, h', rfl⟩
    | of z => simp only [VR] at h; obtain ⟨l, hl, ⟨c, rfl, _⟩ | ⟨_, a, rfl⟩⟩ := h <;> exact ⟨_, _, rfl, h', rfl⟩
  | nilmap => simp only [VR] at h; subst h; exact ⟨_, _, rfl, by simp [VR], rfl⟩
  | map b => have h' := h; simp only [VR] at h; obtain ⟨l, hl, rfl⟩ := h; exact ⟨_, _, rfl, h', rfl⟩
  | fn f x c => have h' := h; simp only [VR] at h; obtain ⟨xs, cs, rfl, _⟩ := h; exact ⟨_, _, rfl, h', rfl⟩
  | yield l => have h' := h; simp only [VR] at h; obtain ⟨l, hl, rfl⟩ := h; exact ⟨_, _, rfl, h', rfl⟩
  | nilfn => simp only [VR] at h; subst h; exact ⟨_, _, rfl, by simp [VR], rfl⟩
  | nilif => simp only [VR] at h; subst h; exact ⟨_, _, rfl, by simp [VR], rfl⟩
  | iface t x => have h' := h; simp only [VR] at h; obtain ⟨y, rfl, _⟩ := h; exact ⟨_, _, rfl, h', rfl⟩
  | tup l => have h' := h; simp only [VR] at h; obtain ⟨vs, rfl, _⟩ := h; exact ⟨_, _, rfl, h', rfl⟩

theorem VR.oneCell {ρ : Ren} {x : V} {v : Value} (h : VR ρ x v) (h1 : x.one = true) : v.oneCell' = true := by
  cases x with
  | agg l => simp [V.one] at h1
  | tup l => simp [V.one] at h1
  | sl b off len c =>
    cases c with
    | is c => simp only [VR] at h; obtain ⟨l, hl, rfl⟩ := h; rfl
    | of z => simp only [VR] at h; obtain ⟨l, hl, ⟨c, rfl, _⟩ | ⟨_, a, rfl⟩⟩ := h <;> rfl
  | str s => simp only [VR] at h; obtain ⟨t, rfl, _⟩ := h; rfl
  | ptr b off => simp only [VR] at h; obtain ⟨l, hl, rfl⟩ := h; rfl
  | map b => simp only [VR] at h; obtain ⟨l, hl, rfl⟩ := h; rfl
  | fn f x c => simp only [VR] at h; obtain ⟨xs, cs, rfl, _⟩ := h; rfl
  | yield l => simp only [VR] at h; obtain ⟨l, hl, rfl⟩ := h; rfl
  | iface t x => simp only [VR] at h; obtain ⟨y, rfl, _⟩ := h; rfl
  | _ => simp only [VR] at h; subst h; rfl

/-! ### Blocks -/
/-- Temporaries. -/
def TR (ρ : Ren) (t : T V) (a : Array Value) : Prop := ∀ i, match t.get i with
  | some v => VR ρ v (a.getD i undef)
  | none => a.getD i undef = undef
def ER (ρ : Ren) (x : V × V × Nat) (e : MapEntry) : Prop := VR ρ x.1 e.key ∧ VR ρ x.2.1 e.val ∧ x.2.2 = e.born
def ERs (ρ : Ren) : List (V × V × Nat) → List MapEntry → Prop
  | [], es => es = []
  | x :: xs, es => ∃ e es', es = e :: es' ∧ ER ρ x e ∧ ERs ρ xs es'
def frOK (st : Bool) (fr : Nat × Nat) (size : Nat) : Prop := fr.1 = fr.2 ∨ (st = true ∧ size ≤ fr.1)
def keptOK (l : Loc) (w : World) (st : Bool) (e : TypeId) (fr : Nat × Nat) : Prop := ∀ q, l.kept = some q → (w.os = q.os ∧ w.output = q.out ∧ w.tape = q.tape) ∧ (st = false → e = q.ety ∧ fr = q.fr)
/-- The world around the heap is as it was. -/
def Env (w w' : World) : Prop := w'.os = w.os ∧ w'.output = w.output ∧ w'.tape = w.tape
theorem Env.rfl {w : World} : Env w w := ⟨_root_.rfl, _root_.rfl, _root_.rfl⟩
theorem Env.trans {w w' w'' : World} (h : Env w w') (k : Env w' w'') : Env w w'' := ⟨k.1.trans h.1, k.2.1.trans h.2.1, k.2.2.trans h.2.2⟩
theorem keptOK.env {l : Loc} {w w' : World} {st : Bool} {e : TypeId} {fr : Nat × Nat} (h : keptOK l w st e fr) (v : Env w w') : keptOK l w' st e fr := fun q hq => ⟨⟨v.1.trans (h q hq).1.1, v.2.1.trans (h q hq).1.2.1, v.2.2.trans (h q hq).1.2.2⟩, (h q hq).2⟩
theorem keptOK.none {l : Loc} {w : World} {st : Bool} {e : TypeId} {fr : Nat × Nat} (h : l.kept = none) : keptOK l w st e fr := fun q hq => by rw [h] at hq; cases hq
def mapR (ρ : Ren) : Option Nat → Option Nat → Prop
  | none, m => m = none
  | some b, m => ∃ l, ρ b = some l ∧ m = some l.blk
def BR (ρ : Ren) (l : Loc) (w : World) : AB → Prop
  | .cells t st => ∃ cs e fr, w.heap[l.blk]? = some (.cells cs e fr) ∧ cs.size = l.size ∧ (frOK st fr l.size ∧ keptOK l w st e fr) ∧
      ∀ i v, t.get i = some v → ∃ y, cs[l.off + i]? = some y ∧ VR ρ v y
  | .map es c => ∃ es', w.heap[l.blk]? = some (.map ⟨es'⟩ c) ∧ ERs ρ es es'
  | .miter m since seen stepped => ∃ m', w.heap[l.blk]? = some (.mapIter m' since ⟨seen⟩ stepped) ∧ mapR ρ m m' ∧ l.off = 0
  | .siter s pos => ∃ t : ByteArray, w.heap[l.blk]? = some (.stringIter t pos) ∧ s = t.data.toList.map UInt8.toNat
  | .loop st p n t ps x y d => ∃ f tm k, w.heap[l.blk]? = some (.loop ⟨st, p, f, tm, ⟨ps⟩, x, y, k⟩) ∧ TR ρ t tm ∧ tm.size = n ∧ ∃ dl, ρ d = some dl ∧ k = dl.blk
  | .dfr taken => w.heap[l.blk]? = some (.deferred (if taken then none else some []))
  | .raw o => w.heap[l.blk]? = some o

/-- The memory: what the executor knows holds. -/
structure MR (ρ : Ren) (m : T AB) (w : World) : Prop where
  at_ : ∀ b x, m.get b = some x → ∃ l, ρ b = some l ∧ BR ρ l w x
  far : ∀ b c x y l k, m.get b = some x → m.get c = some y → ρ b = some l → ρ c = some k → l.blk = k.blk → b = c

/-- Names from a to b are not known yet. -/
def Fresh (ρ : Ren) (a b : Nat) : Prop := ∀ n, a ≤ n → n < b → ρ n = none
/-- One renaming grows into another by names from a to b alone. -/
structure Ext (ρ ρ' : Ren) (a b : Nat) : Prop where
  le : Le ρ ρ'
  new : ∀ n, ρ' n ≠ ρ n → a ≤ n ∧ n < b
theorem Ext.refl (ρ : Ren) (a b : Nat) : Ext ρ ρ a b := ⟨Le.refl ρ, fun _ h => absurd rfl h⟩
theorem Ext.trans {ρ σ τ : Ren} {a b c : Nat} (h : Ext ρ σ a b) (k : Ext σ τ b c) (hab : a ≤ b) (hbc : b ≤ c) : Ext ρ τ a c :=
  ⟨h.le.trans k.le, fun n hn => by
    by_cases e : σ n = ρ n
    · have := k.new n (fun e' => hn (e'.trans e)); omega
    · have := h.new n e; omega⟩
theorem Ext.wide {ρ σ : Ren} {a b a' b' : Nat} (h : Ext ρ σ a b) (ha : a' ≤ a) (hb : b ≤ b') : Ext ρ σ a' b' :=
  ⟨h.le, fun n hn => by have := h.new n hn; omega⟩
theorem Fresh.after {ρ σ : Ren} {a b c : Nat} (h : Fresh ρ a c) (k : Ext ρ σ a b) (hab : a ≤ b) : Fresh σ b c := fun n h1 h2 => by
  by_cases e : σ n = ρ n
  · rw [e]; exact h n (by omega) h2
  · have := k.new n e; omega
theorem Fresh.sub {ρ : Ren} {a b a' b' : Nat} (h : Fresh ρ a b) (ha : a ≤ a') (hb : b' ≤ b) : Fresh ρ a' b' := fun n h1 h2 => h n (by omega) (by omega)

theorem TR.mono {ρ ρ' : Ren} (h : Le ρ ρ') {t : T V} {a : Array Value} (k : TR ρ t a) : TR ρ' t a := fun i => by
  have := k i
  cases e : t.get i with
  | none => rw [e] at this; exact this
  | some v => rw [e] at this; exact VR.mono h _ _ this
theorem ERs.mono {ρ ρ' : Ren} (h : Le ρ ρ') : ∀ {x : List (V × V × Nat)} {e : List MapEntry}, ERs ρ x e → ERs ρ' x e
  | [], _, k => k
  | x :: xs, _, k => by
    obtain ⟨e, es, rfl, ⟨h1, h2, h3⟩, h4⟩ := k
    exact ⟨e, es, rfl, ⟨VR.mono h _ _ h1, VR.mono h _ _ h2, h3⟩, ERs.mono h h4⟩
theorem mapR.mono {ρ ρ' : Ren} (h : Le ρ ρ') {m m' : Option Nat} (k : mapR ρ m m') : mapR ρ' m m' := by
  cases m with
  | none => exact k
  | some b => obtain ⟨l, hl, e⟩ := k; exact ⟨l, h _ _ hl, e⟩
theorem BR.mono {ρ ρ' : Ren} (h : Le ρ ρ') {l : Loc} {w : World} {x : AB} (k : BR ρ l w x) : BR ρ' l w x := by
  cases x with
  | cells t st =>
    obtain ⟨cs, e, fr, h1, h2, h3, h4⟩ := k
    exact ⟨cs, e, fr, h1, h2, h3, fun i v hv => let ⟨y, a, b⟩ := h4 i v hv; ⟨y, a, VR.mono h _ _ b⟩⟩
  | map es c => obtain ⟨es', h1, h2⟩ := k; exact ⟨es', h1, h2.mono h⟩
  | miter m since seen stepped => obtain ⟨m', h1, h2, h3⟩ := k; exact ⟨m', h1, h2.mono h, h3⟩
  | siter s pos => exact k
  | loop st p n t ps x y d => obtain ⟨f, tm, kk, h1, h2, h3, dl, h4, h5⟩ := k; exact ⟨f, tm, kk, h1, h2.mono h, h3, dl, h _ _ h4, h5⟩
  | dfr taken => exact k
  | raw o => exact k
/-- A block's row says what it says of its own block alone. -/
theorem BR.world {ρ : Ren} {l : Loc} {w w' : World} {x : AB} (k : BR ρ l w x) (h : w'.heap[l.blk]? = w.heap[l.blk]?) (v : Env w w') : BR ρ l w' x := by
  cases x
  case cells t st =>
    obtain ⟨cs, e, fr, h1, h2, ⟨h3, h4⟩, h5⟩ := k
    exact ⟨cs, e, fr, h.trans h1, h2, ⟨h3, h4.env v⟩, h5⟩
  all_goals simp only [BR, h] at k ⊢; exact k
theorem BR.lt {ρ : Ren} {l : Loc} {w : World} {x : AB} (k : BR ρ l w x) : l.blk < w.heap.size := by
  have key : ∀ o, w.heap[l.blk]? = some o → l.blk < w.heap.size := fun o h => (Array.getElem?_eq_some_iff.1 h).1
  cases x with
  | cells t st => obtain ⟨cs, e, fr, h1, _⟩ := k; exact key _ h1
  | map es c => obtain ⟨es', h1, h2⟩ := k; exact key _ h1
  | miter m since seen stepped => obtain ⟨m', h1, h2⟩ := k; exact key _ h1
  | siter s pos => obtain ⟨t, h1, _⟩ := k; exact key _ h1
  | loop st p n t ps x y d => obtain ⟨f, tm, kk, h1, _⟩ := k; exact key _ h1
  | dfr taken => exact key _ k
  | raw o => exact key _ k

/-- The memory behind a step that leaves the heap as it is. -/
theorem MR.same {ρ : Ren} {m : T AB} {w w' : World} (h : MR ρ m w) (e : w'.heap = w.heap) (v : Env w w' := by exact ⟨rfl, rfl, rfl⟩) : MR ρ m w' :=
  ⟨fun b x hb => let ⟨l, h1, h2⟩ := h.at_ b x hb; ⟨l, h1, h2.world (by rw [e]) v⟩, h.far⟩
/-- The memory where a block is forgotten. -/
theorem MR.forget {ρ : Ren} {m : T AB} {w : World} (h : MR ρ m w) (b : Nat) : MR ρ (m.put b none) w :=
  ⟨fun c x hc => by
    rw [T.get_put] at hc
    split at hc
    · cases hc
    · exact h.at_ c x hc,
   fun c d x y l k hc hd => by
    rw [T.get_put] at hc hd
    split at hc
    · cases hc
    · split at hd
      · cases hd
      · exact h.far c d x y l k hc hd⟩
/-- The memory where one block is written, in the model and by the executor. -/
theorem MR.write {ρ : Ren} {m : T AB} {w w' : World} {b : Nat} {l : Loc} {x y : AB} (h : MR ρ m w) (hb : m.get b = some x) (hl : ρ b = some l)
    (hk : ∀ j, j ≠ l.blk → j < w.heap.size → w'.heap[j]? = w.heap[j]?) (hy : BR ρ l w' y) (v : Env w w' := by exact ⟨rfl, rfl, rfl⟩) : MR ρ (m.put b (some y)) w' := by
  refine ⟨fun c z hc => ?_, fun c d z u k j hc hd => ?_⟩
  · rw [T.get_put] at hc
    split at hc
    · rename_i e; subst e; cases hc; exact ⟨l, hl, hy⟩
    · rename_i hne
      obtain ⟨k, h1, h2⟩ := h.at_ c z hc
      refine ⟨k, h1, h2.world (hk k.blk (fun e => hne (h.far c b z x k l hc hb h1 hl e)) h2.lt) v⟩
  · rw [T.get_put] at hc hd
    have hc' : ∃ z, m.get c = some z := by split at hc; { rename_i e; subst e; exact ⟨x, hb⟩ }; { exact ⟨z, hc⟩ }
    have hd' : ∃ z, m.get d = some z := by split at hd; { rename_i e; subst e; exact ⟨x, hb⟩ }; { exact ⟨u, hd⟩ }
    obtain ⟨z', hz⟩ := hc'
    obtain ⟨u', hu⟩ := hd'
    exact h.far c d z' u' k j hz hu
/-- A renaming with one name more. -/
def Ren.with (ρ : Ren) (b : Nat) (l : Loc) : Ren := fun c => if c = b then some l else ρ c
theorem Ren.with_le {ρ : Ren} {b : Nat} (l : Loc) (h : ρ b = none) : Le ρ (ρ.with b l) := fun c k hc => by
  unfold Ren.with
  split
  · rename_i e; subst e; rw [h] at hc; cases hc
  · exact hc
theorem Ren.with_at (ρ : Ren) (b : Nat) (l : Loc) : ρ.with b l b = some l := by simp [Ren.with]
theorem Ren.with_ext {ρ : Ren} {b : Nat} (l : Loc) (h : ρ b = none) : Ext ρ (ρ.with b l) b (b + 1) :=
  ⟨Ren.with_le l h, fun n hn => by unfold Ren.with at hn; split at hn; { omega }; { exact absurd rfl hn }⟩
/-- The memory with a new name, in a block that no name that is known has. -/
theorem MR.grow {ρ : Ren} {m : T AB} {w w' : World} {b : Nat} {l : Loc} {y : AB} (h : MR ρ m w) (hb : ρ b = none)
    (hf : ∀ c x k, m.get c = some x → ρ c = some k → k.blk ≠ l.blk) (hk : ∀ j, j ≠ l.blk → j < w.heap.size → w'.heap[j]? = w.heap[j]?)
    (hy : BR (ρ.with b l) l w' y) (v : Env w w' := by exact ⟨rfl, rfl, rfl⟩) : MR (ρ.with b l) (m.put b (some y)) w' := by
  have le := Ren.with_le l hb
  refine ⟨fun c z hc => ?_, fun c d z u k j hc hd h1 h2 e => ?_⟩
  · rw [T.get_put] at hc
    split at hc
    · rename_i e; subst e; cases hc; exact ⟨l, Ren.with_at _ _ _, hy⟩
    · obtain ⟨k, h1, h2⟩ := h.at_ c z hc
      exact ⟨k, le _ _ h1, (h2.mono le).world (hk k.blk (hf c z k hc h1) h2.lt) v⟩
  · rw [T.get_put] at hc hd
    unfold Ren.with at h1 h2
    split at hc
    · rename_i e1
      split at hd
      · rename_i e2; rw [e1, e2]
      · rename_i e2
        rw [if_neg e2] at h2
        rw [if_pos e1] at h1
        cases h1
        exact absurd e.symm (hf d u j hd h2)
    · rename_i e1
      rw [if_neg e1] at h1
      split at hd
      · rename_i e2
        rw [if_pos e2] at h2
        cases h2
        exact absurd e (hf c z k hc h1)
      · rename_i e2
        rw [if_neg e2] at h2
        exact h.far c d z u k j hc hd h1 h2 e

end Go.Ex

/- What the executor's parts read and write: each goes the same way over another memory that agrees on what was read and written. -/
namespace Go.Ex

/-- Names that a part may look at: new ones, and those that were read or written. -/
def Vis (s s' : S) (b : Nat) : Prop := (s.lim ≤ b ∧ b < s'.next) ∨ s'.rd.testBit b = true ∨ s'.wr.testBit b = true

/-- A part went from s to s' with an answer; r: what the same part does over another memory m. -/
structure Went {α : Type} (s : S) (m : T AB) (a : α) (s' : S) (r : R α) : Prop where
  next : s.next ≤ s'.next
  lim : s'.lim = s.lim
  rd : ∀ b, s.rd.testBit b = true → s'.rd.testBit b = true
  wr : ∀ b, s.wr.testBit b = true → s'.wr.testBit b = true
  keep : ∀ b, ¬ (s.lim ≤ b ∧ b < s'.next) → s'.wr.testBit b = false → s'.mem.get b = s.mem.get b
  move : (∀ b, ((s.lim ≤ b ∧ b < s.next) ∨ s'.rd.testBit b = true ∨ s'.wr.testBit b = true) → m.get b = s.mem.get b) →
    ∃ m', r = .ok a { s' with mem := m' } ∧ (∀ b, Vis s s' b → m'.get b = s'.mem.get b) ∧ (∀ b, ¬ Vis s s' b → m'.get b = m.get b)

def Loc2 {α : Type} (s : S) (m : T AB) (x r : R α) : Prop := ∀ a s', x = .ok a s' → Went s m a s' r
/-- A part that looks at memory by its names alone. -/
def Local {α : Type} (f : S → R α) : Prop := ∀ s m, s.lim ≤ s.next → Loc2 s m (f s) (f { s with mem := m })

section
variable {α β : Type} {s : S} {m : T AB}
theorem Loc2.no (w : String) (r : R α) : Loc2 s m (.no w) r := fun _ _ h => by cases h
theorem Loc2.ok (a : α) : Loc2 s m (.ok a s) (.ok a { s with mem := m }) := fun a' s' h => by
  cases h
  exact ⟨Nat.le_refl _, rfl, fun _ h => h, fun _ h => h, fun _ _ _ => rfl, fun hm => ⟨m, rfl, fun b hb => hm b hb, fun _ _ => rfl⟩⟩
theorem Went.vis {a : α} {s1 : S} {r : R α} (h : Went s m a s1 r) {b : Nat} (hb : Vis s s1 b) (s' : S) (hn : s1.next ≤ s'.next)
    (hr : ∀ b, s1.rd.testBit b = true → s'.rd.testBit b = true) (hw : ∀ b, s1.wr.testBit b = true → s'.wr.testBit b = true) : Vis s s' b := by
  rcases hb with ⟨h1, h2⟩ | h1 | h1
  · exact .inl ⟨h1, by omega⟩
  · exact .inr (.inl (hr b h1))
  · exact .inr (.inr (hw b h1))
theorem Loc2.bind {x r : R α} {f : α → S → R β} (h : Loc2 s m x r) (hs : s.lim ≤ s.next) (hf : ∀ a, Local (f a)) : Loc2 s m (x.bind f) (r.bind f) := by
  intro b s' hb
  obtain ⟨a, s1, rfl, hb⟩ := R.bind_eq_ok hb
  have w1 := h a s1 rfl
  have hl1 : s1.lim ≤ s1.next := by rw [w1.lim]; exact Nat.le_trans hs w1.next
  have w2 := fun m1 => hf a s1 m1 hl1 b s' hb
  have w0 := w2 m
  refine ⟨Nat.le_trans w1.next w0.next, w0.lim.trans w1.lim, fun c h => w0.rd c (w1.rd c h), fun c h => w0.wr c (w1.wr c h), fun c hc hw => ?_, fun hm => ?_⟩
  · have hw1 : s1.wr.testBit c = false := by
      cases e : s1.wr.testBit c with
      | false => rfl
      | true => rw [w0.wr c e] at hw; cases hw
    rw [w0.keep c (by rw [w1.lim]; exact hc) hw, w1.keep c (fun h => hc ⟨h.1, Nat.lt_of_lt_of_le h.2 w0.next⟩) hw1]
  · obtain ⟨m1, rfl, hv1, hn1⟩ := w1.move fun c hc => hm c (by
      rcases hc with h | h | h
      · exact .inl h
      · exact .inr (.inl (w0.rd c h))
      · exact .inr (.inr (w0.wr c h)))
    obtain ⟨m', hr, hv, hn⟩ := (w2 m1).move fun c hc => by
      by_cases hv : Vis s s1 c
      · exact hv1 c hv
      · have hc' : s'.rd.testBit c = true ∨ s'.wr.testBit c = true := by
          rcases hc with h | h
          · exact absurd (.inl (by rw [w1.lim] at h; exact h)) hv
          · exact h
        have e1 : s1.wr.testBit c = false := by
          cases e : s1.wr.testBit c with
          | false => rfl
          | true => exact absurd (.inr (.inr e)) hv
        rw [hn1 c hv, w1.keep c (fun h => hv (.inl h)) e1]
        exact hm c (.inr hc')
    have hvis : ∀ c, Vis s1 s' c ↔ Vis s s' c := fun c => by unfold Vis; rw [w1.lim]
    refine ⟨m', by simpa using hr, fun c hc => hv c ((hvis c).2 hc), fun c hc => ?_⟩
    rw [hn c (fun h => hc ((hvis c).1 h))]
    exact hn1 c (fun h => hc (w1.vis h s' w0.next w0.rd w0.wr))
end

section
variable {α β : Type}
theorem Local.no (w : String) : Local (fun _ => (.no w : R α)) := fun _ _ _ => Loc2.no w _
theorem Local.ok (a : α) : Local (fun s => .ok a s) := fun _ _ _ => Loc2.ok a
theorem Local.bind {f : S → R α} {g : α → S → R β} (hf : Local f) (hg : ∀ a, Local (g a)) : Local (fun s => (f s).bind g) := fun s m hs =>
  (hf s m hs).bind hs hg

theorem testBit_or_one (r b c : Nat) : (Nat.lor r (Nat.shiftLeft 1 b)).testBit c = (r.testBit c || decide (c = b)) := by
  show (r ||| (1 <<< b)).testBit c = _
  rw [Nat.testBit_or, Nat.one_shiftLeft, Nat.testBit_two_pow]
  simp [eq_comm]
theorem testBit_lor (a b c : Nat) : (Nat.lor a b).testBit c = (a.testBit c || b.testBit c) := Nat.testBit_or a b c

theorem get_local (b : Nat) : Local (get b) := by
  intro s m hs x s' h
  rw [get_eq] at h ⊢
  by_cases hb : b < s.next
  · rw [if_pos hb] at h
    cases hx : s.mem.get b with
    | none => rw [hx] at h; cases h
    | some y =>
      rw [hx] at h
      simp only [R.ok.injEq] at h
      obtain ⟨rfl, h⟩ := h
      by_cases hl : b < s.lim
      · rw [if_pos hl] at h
        subst h
        refine ⟨Nat.le_refl _, rfl, fun c hc => by simp only [testBit_or_one, hc, Bool.true_or], fun c hc => hc, fun _ _ _ => rfl, fun hm => ⟨m, ?_, fun c hc => hm c hc, fun _ _ => rfl⟩⟩
        have e := hm b (.inr (.inl (by simp [testBit_or_one])))
        simp only []
        rw [if_pos hb, e, hx]
        simp only []
        rw [if_pos hl]
      · rw [if_neg hl] at h
        subst h
        refine ⟨Nat.le_refl _, rfl, fun c hc => hc, fun c hc => hc, fun _ _ _ => rfl, fun hm => ⟨m, ?_, fun c hc => hm c hc, fun _ _ => rfl⟩⟩
        have e := hm b (.inl ⟨by omega, hb⟩)
        simp only []
        rw [if_pos hb, e, hx]
        simp only []
        rw [if_neg hl]
  · rw [if_neg hb] at h; cases h

theorem put_local (b : Nat) (x : Option AB) : Local (put b x) := by
  intro s m hs u s' h
  rw [put_eq] at h ⊢
  by_cases hb : b < s.next
  · rw [if_pos hb] at h
    simp only [R.ok.injEq] at h
    obtain ⟨_, h⟩ := h
    by_cases hl : b < s.lim
    · rw [if_pos hl] at h
      subst h
      refine ⟨Nat.le_refl _, rfl, fun c hc => hc, fun c hc => by simp only [testBit_or_one, hc, Bool.true_or], fun c hc hw => ?_, fun hm => ⟨m.put b x, ?_, fun c hc => ?_, fun c hc => ?_⟩⟩
      · simp only [testBit_or_one, Bool.or_eq_false_iff, decide_eq_false_iff_not] at hw
        simp only [T.get_put, if_neg hw.2]
      · simp only []; rw [if_pos hb, if_pos hl]
      · simp only [T.get_put]
        split
        · rfl
        · exact hm c hc
      · simp only [T.get_put]
        rw [if_neg]
        rintro rfl
        exact hc (.inr (.inr (by simp [testBit_or_one])))
    · rw [if_neg hl] at h
      subst h
      refine ⟨Nat.le_refl _, rfl, fun c hc => hc, fun c hc => hc, fun c hc hw => ?_, fun hm => ⟨m.put b x, ?_, fun c hc => ?_, fun c hc => ?_⟩⟩
      · simp only [T.get_put]
        rw [if_neg]
        rintro rfl
        exact hc ⟨by omega, hb⟩
      · simp only []; rw [if_pos hb, if_neg hl]
      · simp only [T.get_put]
        split
        · rfl
        · exact hm c hc
      · simp only [T.get_put]
        rw [if_neg]
        rintro rfl
        exact hc (.inl ⟨by omega, hb⟩)
  · rw [if_neg hb] at h; cases h

theorem new_local (x : AB) : Local (new x) := by
  intro s m hs u s' h
  rw [new_eq] at h ⊢
  simp only [R.ok.injEq] at h
  obtain ⟨rfl, rfl⟩ := h
  refine ⟨Nat.le_succ _, rfl, fun c hc => hc, fun c hc => hc, fun c hc hw => ?_, fun hm => ⟨m.put s.next (some x), rfl, fun c hc => ?_, fun c hc => ?_⟩⟩
  · simp only [T.get_put]
    rw [if_neg]
    rintro rfl
    exact hc ⟨hs, Nat.lt_succ_self _⟩
  · simp only [T.get_put]
    split
    · rfl
    · rename_i hne
      refine hm c ?_
      rcases hc with ⟨h1, h2⟩ | h
      · exact .inl ⟨h1, by simp only [] at h2; omega⟩
      · exact .inr h
  · simp only [T.get_put]
    rw [if_neg]
    rintro rfl
    exact hc (.inl ⟨hs, Nat.lt_succ_self _⟩)

theorem apart_local {f : S → R α} (hf : Local f) : Local (apart f) := by
  intro s m hs u s' h
  rw [apart_eq] at h ⊢
  obtain ⟨a, s1, h1, h2⟩ := R.bind_eq_ok h
  simp only [R.ok.injEq] at h2
  obtain ⟨rfl, rfl⟩ := h2
  have w := hf { s with lim := s.next, rd := 0, wr := 0 } m (Nat.le_refl _) a s1 h1
  have hk := w.keep
  have hlim := w.lim
  simp only [] at hk hlim
  refine ⟨w.next, rfl, fun c hc => by simp only [testBit_lor, hc, Bool.true_or], fun c hc => by simp only [testBit_lor, hc, Bool.true_or], fun c hc hw => ?_, fun hm => ?_⟩
  · simp only [testBit_lor, Bool.or_eq_false_iff] at hw
    exact hk c (fun h => hc ⟨by omega, h.2⟩) hw.2
  · obtain ⟨m', hr, hv, hn⟩ := w.move fun c hc => by
      refine hm c ?_
      rcases hc with ⟨h, h'⟩ | h | h
      · simp only [] at h h'; omega
      · exact .inr (.inl (by simp only [testBit_lor, h, Bool.or_true]))
      · exact .inr (.inr (by simp only [testBit_lor, h, Bool.or_true]))
    simp only [] at hr
    refine ⟨m', by simp only [hr, R.bind_ok], fun c hc => ?_, fun c hc => ?_⟩
    · by_cases e : Vis { s with lim := s.next, rd := 0, wr := 0 } s1 c
      · exact hv c e
      · rw [hn c e]
        have e1 : ¬ (s.next ≤ c ∧ c < s1.next) := fun h => e (.inl h)
        have e2 : s1.wr.testBit c = false := by
          cases h : s1.wr.testBit c with
          | false => rfl
          | true => exact absurd (.inr (.inr h)) e
        show m.get c = s1.mem.get c
        rw [hk c e1 e2]
        refine hm c ?_
        rcases hc with ⟨h, h'⟩ | h
        · exact .inl ⟨h, by simp only [] at h'; omega⟩
        · exact .inr h
    · refine hn c fun h => hc ?_
      rcases h with ⟨h, h'⟩ | h | h
      · exact .inl ⟨by simp only [] at h; omega, h'⟩
      · exact .inr (.inl (by simp only [testBit_lor, h, Bool.or_true]))
      · exact .inr (.inr (by simp only [testBit_lor, h, Bool.or_true]))
end
end Go.Ex

/- Each of the executor's operations looks at memory by its names alone. WRITTEN BY A PROGRAM OF THIS SESSION (genlocal.py). -/
namespace Go.Ex
theorem Rrec_eq {α β : Type} (r : R α) (f : α → S → R β) : (R.rec (fun w => .no w) f r : R β) = r.bind f := rfl
theorem Orec_eq {α β : Type} (o : Option α) (n : β) (f : α → β) : (Option.rec n f o : β) = match o with
  | none => n
  | some a => f a := by cases o <;> rfl
theorem get_l {b : Nat} {s : S} {m : T AB} (hs : s.lim ≤ s.next) : Loc2 s m (get b s) (get b { s with mem := m }) := get_local b s m hs
theorem put_l {b : Nat} {x : Option AB} {s : S} {m : T AB} (hs : s.lim ≤ s.next) : Loc2 s m (put b x s) (put b x { s with mem := m }) := put_local b x s m hs
theorem new_l {x : AB} {s : S} {m : T AB} (hs : s.lim ≤ s.next) : Loc2 s m (new x s) (new x { s with mem := m }) := new_local x s m hs
theorem newCells_l {l : List V} {s : S} {m : T AB} (_hs : s.lim ≤ s.next) : Loc2 s m (newCells l s) (newCells l { s with mem := m }) := by
  unfold newCells
  (try simp only [Rrec_eq])
  (try simp only [Orec_eq])
  repeat' (first | exact Loc2.ok _ | exact Loc2.no _ _ | exact new_l _hs | exact new_local _ | refine Loc2.bind ?_ _hs (fun _ => ?_) | refine (fun s m _hs => ?_ : Local _) | split)
theorem newCells_local {l : List V} : Local (newCells l) := fun _ _ hs => newCells_l hs
theorem cellsIn_l {x : AB} {off : Nat} {n : Nat} {s : S} {m : T AB} (_hs : s.lim ≤ s.next) : Loc2 s m (cellsIn x off n s) (cellsIn x off n { s with mem := m }) := by
  unfold cellsIn
  (try simp only [Rrec_eq])
  (try simp only [Orec_eq])
  repeat' (first | exact Loc2.ok _ | exact Loc2.no _ _   | refine Loc2.bind ?_ _hs (fun _ => ?_) | refine (fun s m _hs => ?_ : Local _) | split)
theorem cellsIn_local {x : AB} {off : Nat} {n : Nat} : Local (cellsIn x off n) := fun _ _ hs => cellsIn_l hs
theorem getCells_l {b : Nat} {off : Nat} {n : Nat} {s : S} {m : T AB} (_hs : s.lim ≤ s.next) : Loc2 s m (getCells b off n s) (getCells b off n { s with mem := m }) := by
  unfold getCells
  (try simp only [Rrec_eq])
  (try simp only [Orec_eq])
  repeat' (first | exact Loc2.ok _ | exact Loc2.no _ _ | exact get_l _hs | exact cellsIn_l _hs | exact get_local _ | exact cellsIn_local | refine Loc2.bind ?_ _hs (fun _ => ?_) | refine (fun s m _hs => ?_ : Local _) | split)
theorem getCells_local {b : Nat} {off : Nat} {n : Nat} : Local (getCells b off n) := fun _ _ hs => getCells_l hs
theorem cellIn_l {x : AB} {off : Nat} {s : S} {m : T AB} (_hs : s.lim ≤ s.next) : Loc2 s m (cellIn x off s) (cellIn x off { s with mem := m }) := by
  unfold cellIn
  (try simp only [Rrec_eq])
  (try simp only [Orec_eq])
  repeat' (first | exact Loc2.ok _ | exact Loc2.no _ _   | refine Loc2.bind ?_ _hs (fun _ => ?_) | refine (fun s m _hs => ?_ : Local _) | split)
theorem cellIn_local {x : AB} {off : Nat} : Local (cellIn x off) := fun _ _ hs => cellIn_l hs
theorem getCell_l {b : Nat} {off : Nat} {s : S} {m : T AB} (_hs : s.lim ≤ s.next) : Loc2 s m (getCell b off s) (getCell b off { s with mem := m }) := by
  unfold getCell
  (try simp only [Rrec_eq])
  (try simp only [Orec_eq])
  repeat' (first | exact Loc2.ok _ | exact Loc2.no _ _ | exact get_l _hs | exact cellIn_l _hs | exact get_local _ | exact cellIn_local | refine Loc2.bind ?_ _hs (fun _ => ?_) | refine (fun s m _hs => ?_ : Local _) | split)
theorem getCell_local {b : Nat} {off : Nat} : Local (getCell b off) := fun _ _ hs => getCell_l hs
theorem cellsTo_l {x : AB} {b : Nat} {off : Nat} {l : List V} {s : S} {m : T AB} (_hs : s.lim ≤ s.next) : Loc2 s m (cellsTo x b off l s) (cellsTo x b off l { s with mem := m }) := by
  unfold cellsTo
  (try simp only [Rrec_eq])
  (try simp only [Orec_eq])
  repeat' (first | exact Loc2.ok _ | exact Loc2.no _ _ | exact put_l _hs | exact put_local _ _ | refine Loc2.bind ?_ _hs (fun _ => ?_) | refine (fun s m _hs => ?_ : Local _) | split)
theorem cellsTo_local {x : AB} {b : Nat} {off : Nat} {l : List V} : Local (cellsTo x b off l) := fun _ _ hs => cellsTo_l hs
theorem setCells_l {b : Nat} {off : Nat} {l : List V} {s : S} {m : T AB} (_hs : s.lim ≤ s.next) : Loc2 s m (setCells b off l s) (setCells b off l { s with mem := m }) := by
  unfold setCells
  (try simp only [Rrec_eq])
  (try simp only [Orec_eq])
  repeat' (first | exact Loc2.ok _ | exact Loc2.no _ _ | exact get_l _hs | exact cellsTo_l _hs | exact get_local _ | exact cellsTo_local | refine Loc2.bind ?_ _hs (fun _ => ?_) | refine (fun s m _hs => ?_ : Local _) | split)
theorem setCells_local {b : Nat} {off : Nat} {l : List V} : Local (setCells b off l) := fun _ _ hs => setCells_l hs
theorem loadAt_l {b : Nat} {off : Nat} {n : Option Nat} {s : S} {m : T AB} (_hs : s.lim ≤ s.next) : Loc2 s m (loadAt b off n s) (loadAt b off n { s with mem := m }) := by
  unfold loadAt
  (try simp only [Rrec_eq])
  (try simp only [Orec_eq])
  repeat' (first | exact Loc2.ok _ | exact Loc2.no _ _ | exact getCells_l _hs | exact getCell_l _hs | exact getCells_local | exact getCell_local | refine Loc2.bind ?_ _hs (fun _ => ?_) | refine (fun s m _hs => ?_ : Local _) | split)
theorem loadAt_local {b : Nat} {off : Nat} {n : Option Nat} : Local (loadAt b off n) := fun _ _ hs => loadAt_l hs
theorem load_l {P : Program} {t : TypeId} {x : V} {s : S} {m : T AB} (_hs : s.lim ≤ s.next) : Loc2 s m (load P t x s) (load P t x { s with mem := m }) := by
  unfold load
  (try simp only [Rrec_eq])
  (try simp only [Orec_eq])
  repeat' (first | exact Loc2.ok _ | exact Loc2.no _ _ | exact loadAt_l _hs | exact loadAt_local | refine Loc2.bind ?_ _hs (fun _ => ?_) | refine (fun s m _hs => ?_ : Local _) | split)
theorem load_local {P : Program} {t : TypeId} {x : V} : Local (load P t x) := fun _ _ hs => load_l hs
theorem storeAt_l {n : Nat} {b : Nat} {off : Nat} {l : List V} {s : S} {m : T AB} (_hs : s.lim ≤ s.next) : Loc2 s m (storeAt n b off l s) (storeAt n b off l { s with mem := m }) := by
  unfold storeAt
  (try simp only [Rrec_eq])
  (try simp only [Orec_eq])
  repeat' (first | exact Loc2.ok _ | exact Loc2.no _ _ | exact setCells_l _hs | exact setCells_local | refine Loc2.bind ?_ _hs (fun _ => ?_) | refine (fun s m _hs => ?_ : Local _) | split)
theorem storeAt_local {n : Nat} {b : Nat} {off : Nat} {l : List V} : Local (storeAt n b off l) := fun _ _ hs => storeAt_l hs
theorem store_l {P : Program} {t : TypeId} {x : V} {v : V} {s : S} {m : T AB} (_hs : s.lim ≤ s.next) : Loc2 s m (store P t x v s) (store P t x v { s with mem := m }) := by
  unfold store
  (try simp only [Rrec_eq])
  (try simp only [Orec_eq])
  repeat' (first | exact Loc2.ok _ | exact Loc2.no _ _ | exact storeAt_l _hs | exact storeAt_local | refine Loc2.bind ?_ _hs (fun _ => ?_) | refine (fun s m _hs => ?_ : Local _) | split)
theorem store_local {P : Program} {t : TypeId} {x : V} {v : V} : Local (store P t x v) := fun _ _ hs => store_l hs
theorem eqFar_l {a : Nat} {b : Nat} {s : S} {m : T AB} (_hs : s.lim ≤ s.next) : Loc2 s m (eqFar a b s) (eqFar a b { s with mem := m }) := by
  unfold eqFar
  (try simp only [Rrec_eq])
  (try simp only [Orec_eq])
  repeat' (first | exact Loc2.ok _ | exact Loc2.no _ _ | exact get_l _hs | exact get_local _ | refine Loc2.bind ?_ _hs (fun _ => ?_) | refine (fun s m _hs => ?_ : Local _) | split)
theorem eqFar_local {a : Nat} {b : Nat} : Local (eqFar a b) := fun _ _ hs => eqFar_l hs
theorem eqPtr_l {P : Program} {e : TypeId} {a : Nat} {i : Nat} {b : Nat} {j : Nat} {s : S} {m : T AB} (_hs : s.lim ≤ s.next) : Loc2 s m (eqPtr P e a i b j s) (eqPtr P e a i b j { s with mem := m }) := by
  unfold eqPtr
  (try simp only [Rrec_eq])
  (try simp only [Orec_eq])
  repeat' (first | exact Loc2.ok _ | exact Loc2.no _ _ | exact eqFar_l _hs | exact eqFar_local | refine Loc2.bind ?_ _hs (fun _ => ?_) | refine (fun s m _hs => ?_ : Local _) | split)
theorem eqPtr_local {P : Program} {e : TypeId} {a : Nat} {i : Nat} {b : Nat} {j : Nat} : Local (eqPtr P e a i b j) := fun _ _ hs => eqPtr_l hs
theorem okB_l {r : Option Bool} {s : S} {m : T AB} (_hs : s.lim ≤ s.next) : Loc2 s m (okB r s) (okB r { s with mem := m }) := by
  unfold okB
  (try simp only [Rrec_eq])
  (try simp only [Orec_eq])
  repeat' (first | exact Loc2.ok _ | exact Loc2.no _ _   | refine Loc2.bind ?_ _hs (fun _ => ?_) | refine (fun s m _hs => ?_ : Local _) | split)
theorem okB_local {r : Option Bool} : Local (okB r) := fun _ _ hs => okB_l hs
theorem eqV_l {P : Program} {t : TypeId} {x : V} {y : V} {s : S} {m : T AB} (_hs : s.lim ≤ s.next) : Loc2 s m (eqV P t x y s) (eqV P t x y { s with mem := m }) := by
  unfold eqV
  (try simp only [Rrec_eq])
  (try simp only [Orec_eq])
  repeat' (first | exact Loc2.ok _ | exact Loc2.no _ _ | exact eqPtr_l _hs | exact okB_l _hs | exact eqPtr_local | exact okB_local | refine Loc2.bind ?_ _hs (fun _ => ?_) | refine (fun s m _hs => ?_ : Local _) | split)
theorem eqV_local {P : Program} {t : TypeId} {x : V} {y : V} : Local (eqV P t x y) := fun _ _ hs => eqV_l hs
theorem entriesIn_l {x : AB} {s : S} {m : T AB} (_hs : s.lim ≤ s.next) : Loc2 s m (entriesIn x s) (entriesIn x { s with mem := m }) := by
  unfold entriesIn
  (try simp only [Rrec_eq])
  (try simp only [Orec_eq])
  repeat' (first | exact Loc2.ok _ | exact Loc2.no _ _   | refine Loc2.bind ?_ _hs (fun _ => ?_) | refine (fun s m _hs => ?_ : Local _) | split)
theorem entriesIn_local {x : AB} : Local (entriesIn x) := fun _ _ hs => entriesIn_l hs
theorem mapOf_l {x : V} {s : S} {m : T AB} (_hs : s.lim ≤ s.next) : Loc2 s m (mapOf x s) (mapOf x { s with mem := m }) := by
  unfold mapOf
  (try simp only [Rrec_eq])
  (try simp only [Orec_eq])
  repeat' (first | exact Loc2.ok _ | exact Loc2.no _ _ | exact get_l _hs | exact entriesIn_l _hs | exact get_local _ | exact entriesIn_local | refine Loc2.bind ?_ _hs (fun _ => ?_) | refine (fun s m _hs => ?_ : Local _) | split)
theorem mapOf_local {x : V} : Local (mapOf x) := fun _ _ hs => mapOf_l hs
theorem firstCells_l {z : Nat} {n : Nat} {v : V} {s : S} {m : T AB} (_hs : s.lim ≤ s.next) : Loc2 s m (firstCells z n v s) (firstCells z n v { s with mem := m }) := by
  unfold firstCells
  (try simp only [Rrec_eq])
  (try simp only [Orec_eq])
  repeat' (first | exact Loc2.ok _ | exact Loc2.no _ _ | exact getCells_l _hs | exact getCells_local | refine Loc2.bind ?_ _hs (fun _ => ?_) | refine (fun s m _hs => ?_ : Local _) | split)
theorem firstCells_local {z : Nat} {n : Nat} {v : V} : Local (firstCells z n v) := fun _ _ hs => firstCells_l hs
theorem growRow_l {st : Bool} {z : Nat} {len : Nat} {l : List V} {s : S} {m : T AB} (_hs : s.lim ≤ s.next) : Loc2 s m (growRow st z len l s) (growRow st z len l { s with mem := m }) := by
  unfold growRow
  (try simp only [Rrec_eq])
  (try simp only [Orec_eq])
  repeat' (first | exact Loc2.ok _ | exact Loc2.no _ _ | exact new_l _hs | exact new_local _ | refine Loc2.bind ?_ _hs (fun _ => ?_) | refine (fun s m _hs => ?_ : Local _) | split)
theorem growRow_local {st : Bool} {z : Nat} {len : Nat} {l : List V} : Local (growRow st z len l) := fun _ _ hs => growRow_l hs
theorem appWhat_l {t : AT} {n : Nat} {x : V} {s : S} {m : T AB} (_hs : s.lim ≤ s.next) : Loc2 s m (appWhat t n x s) (appWhat t n x { s with mem := m }) := by
  unfold appWhat
  (try simp only [Rrec_eq])
  (try simp only [Orec_eq])
  repeat' (first | exact Loc2.ok _ | exact Loc2.no _ _ | exact firstCells_l _hs | exact firstCells_local | refine Loc2.bind ?_ _hs (fun _ => ?_) | refine (fun s m _hs => ?_ : Local _) | split)
theorem appWhat_local {t : AT} {n : Nat} {x : V} : Local (appWhat t n x) := fun _ _ hs => appWhat_l hs
theorem appUnknown_l {t : AT} {b : Nat} {off : Nat} {len : Nat} {n : Nat} {add : List V} {x : AB} {s : S} {m : T AB} (_hs : s.lim ≤ s.next) : Loc2 s m (appUnknown t b off len n add x s) (appUnknown t b off len n add x { s with mem := m }) := by
  unfold appUnknown
  (try simp only [Rrec_eq])
  (try simp only [Orec_eq])
  repeat' (first | exact Loc2.ok _ | exact Loc2.no _ _ | exact put_l _hs | exact growRow_l _hs | exact put_local _ _ | exact growRow_local | refine Loc2.bind ?_ _hs (fun _ => ?_) | refine (fun s m _hs => ?_ : Local _) | split)
theorem appUnknown_local {t : AT} {b : Nat} {off : Nat} {len : Nat} {n : Nat} {add : List V} {x : AB} : Local (appUnknown t b off len n add x) := fun _ _ hs => appUnknown_l hs
theorem appKnown_l {t : AT} {b : Nat} {off : Nat} {len : Nat} {c : Nat} {n : Nat} {add : List V} {s : S} {m : T AB} (_hs : s.lim ≤ s.next) : Loc2 s m (appKnown t b off len c n add s) (appKnown t b off len c n add { s with mem := m }) := by
  unfold appKnown
  (try simp only [Rrec_eq])
  (try simp only [Orec_eq])
  repeat' (first | exact Loc2.ok _ | exact Loc2.no _ _ | exact setCells_l _hs | exact firstCells_l _hs | exact growRow_l _hs | exact setCells_local | exact firstCells_local | exact growRow_local | refine Loc2.bind ?_ _hs (fun _ => ?_) | refine (fun s m _hs => ?_ : Local _) | split)
theorem appKnown_local {t : AT} {b : Nat} {off : Nat} {len : Nat} {c : Nat} {n : Nat} {add : List V} : Local (appKnown t b off len c n add) := fun _ _ hs => appKnown_l hs
theorem appTo_l {t : AT} {v : V} {n : Nat} {add : List V} {s : S} {m : T AB} (_hs : s.lim ≤ s.next) : Loc2 s m (appTo t v n add s) (appTo t v n add { s with mem := m }) := by
  unfold appTo
  (try simp only [Rrec_eq])
  (try simp only [Orec_eq])
  repeat' (first | exact Loc2.ok _ | exact Loc2.no _ _ | exact get_l _hs | exact growRow_l _hs | exact appUnknown_l _hs | exact appKnown_l _hs | exact get_local _ | exact growRow_local | exact appUnknown_local | exact appKnown_local | refine Loc2.bind ?_ _hs (fun _ => ?_) | refine (fun s m _hs => ?_ : Local _) | split)
theorem appTo_local {t : AT} {v : V} {n : Nat} {add : List V} : Local (appTo t v n add) := fun _ _ hs => appTo_l hs
theorem appFit_l {t : AT} {v : V} {n : Nat} {add : List V} {s : S} {m : T AB} (_hs : s.lim ≤ s.next) : Loc2 s m (appFit t v n add s) (appFit t v n add { s with mem := m }) := by
  unfold appFit
  (try simp only [Rrec_eq])
  (try simp only [Orec_eq])
  repeat' (first | exact Loc2.ok _ | exact Loc2.no _ _ | exact appTo_l _hs | exact appTo_local | refine Loc2.bind ?_ _hs (fun _ => ?_) | refine (fun s m _hs => ?_ : Local _) | split)
theorem appFit_local {t : AT} {v : V} {n : Nat} {add : List V} : Local (appFit t v n add) := fun _ _ hs => appFit_l hs
theorem appGo_l {t : AT} {v : V} {x : V} {n : Nat} {len : Nat} {s : S} {m : T AB} (_hs : s.lim ≤ s.next) : Loc2 s m (appGo t v x n len s) (appGo t v x n len { s with mem := m }) := by
  unfold appGo
  (try simp only [Rrec_eq])
  (try simp only [Orec_eq])
  repeat' (first | exact Loc2.ok _ | exact Loc2.no _ _ | exact appWhat_l _hs | exact appFit_l _hs | exact appWhat_local | exact appFit_local | refine Loc2.bind ?_ _hs (fun _ => ?_) | refine (fun s m _hs => ?_ : Local _) | split)
theorem appGo_local {t : AT} {v : V} {x : V} {n : Nat} {len : Nat} : Local (appGo t v x n len) := fun _ _ hs => appGo_l hs
theorem appendOp_l {P : Program} {argTypes : List TypeId} {v : V} {x : V} {s : S} {m : T AB} (_hs : s.lim ≤ s.next) : Loc2 s m (appendOp P argTypes v x s) (appendOp P argTypes v x { s with mem := m }) := by
  unfold appendOp
  (try simp only [Rrec_eq])
  (try simp only [Orec_eq])
  repeat' (first | exact Loc2.ok _ | exact Loc2.no _ _ | exact appGo_l _hs | exact appGo_local | refine Loc2.bind ?_ _hs (fun _ => ?_) | refine (fun s m _hs => ?_ : Local _) | split)
theorem appendOp_local {P : Program} {argTypes : List TypeId} {v : V} {x : V} : Local (appendOp P argTypes v x) := fun _ _ hs => appendOp_l hs
theorem optV_l {why : String} {v : Option V} {s : S} {m : T AB} (_hs : s.lim ≤ s.next) : Loc2 s m (optV why v s) (optV why v { s with mem := m }) := by
  unfold optV
  (try simp only [Rrec_eq])
  (try simp only [Orec_eq])
  repeat' (first | exact Loc2.ok _ | exact Loc2.no _ _   | refine Loc2.bind ?_ _hs (fun _ => ?_) | refine (fun s m _hs => ?_ : Local _) | split)
theorem optV_local {why : String} {v : Option V} : Local (optV why v) := fun _ _ hs => optV_l hs
theorem lenOp_l {P : Program} {t : TypeId} {x : V} {s : S} {m : T AB} (_hs : s.lim ≤ s.next) : Loc2 s m (lenOp P t x s) (lenOp P t x { s with mem := m }) := by
  unfold lenOp
  (try simp only [Rrec_eq])
  (try simp only [Orec_eq])
  repeat' (first | exact Loc2.ok _ | exact Loc2.no _ _ | exact mapOf_l _hs | exact mapOf_local | refine Loc2.bind ?_ _hs (fun _ => ?_) | refine (fun s m _hs => ?_ : Local _) | split)
theorem lenOp_local {P : Program} {t : TypeId} {x : V} : Local (lenOp P t x) := fun _ _ hs => lenOp_l hs
theorem copyTo_l {n : Nat} {d : V} {l : List V} {s : S} {m : T AB} (_hs : s.lim ≤ s.next) : Loc2 s m (copyTo n d l s) (copyTo n d l { s with mem := m }) := by
  unfold copyTo
  (try simp only [Rrec_eq])
  (try simp only [Orec_eq])
  repeat' (first | exact Loc2.ok _ | exact Loc2.no _ _ | exact setCells_l _hs | exact setCells_local | refine Loc2.bind ?_ _hs (fun _ => ?_) | refine (fun s m _hs => ?_ : Local _) | split)
theorem copyTo_local {n : Nat} {d : V} {l : List V} : Local (copyTo n d l) := fun _ _ hs => copyTo_l hs
theorem copyGo_l {z : Nat} {n : Nat} {d : V} {x : V} {s : S} {m : T AB} (_hs : s.lim ≤ s.next) : Loc2 s m (copyGo z n d x s) (copyGo z n d x { s with mem := m }) := by
  unfold copyGo
  (try simp only [Rrec_eq])
  (try simp only [Orec_eq])
  repeat' (first | exact Loc2.ok _ | exact Loc2.no _ _ | exact firstCells_l _hs | exact copyTo_l _hs | exact firstCells_local | exact copyTo_local | refine Loc2.bind ?_ _hs (fun _ => ?_) | refine (fun s m _hs => ?_ : Local _) | split)
theorem copyGo_local {z : Nat} {n : Nat} {d : V} {x : V} : Local (copyGo z n d x) := fun _ _ hs => copyGo_l hs
theorem copyOp_l {P : Program} {t : TypeId} {d : V} {x : V} {s : S} {m : T AB} (_hs : s.lim ≤ s.next) : Loc2 s m (copyOp P t d x s) (copyOp P t d x { s with mem := m }) := by
  unfold copyOp
  (try simp only [Rrec_eq])
  (try simp only [Orec_eq])
  repeat' (first | exact Loc2.ok _ | exact Loc2.no _ _ | exact copyGo_l _hs | exact copyGo_local | refine Loc2.bind ?_ _hs (fun _ => ?_) | refine (fun s m _hs => ?_ : Local _) | split)
theorem copyOp_local {P : Program} {t : TypeId} {d : V} {x : V} : Local (copyOp P t d x) := fun _ _ hs => copyOp_l hs
theorem deleteIn_l {b : Nat} {k : V} {x : AB} {s : S} {m : T AB} (_hs : s.lim ≤ s.next) : Loc2 s m (deleteIn b k x s) (deleteIn b k x { s with mem := m }) := by
  unfold deleteIn
  (try simp only [Rrec_eq])
  (try simp only [Orec_eq])
  repeat' (first | exact Loc2.ok _ | exact Loc2.no _ _ | exact put_l _hs | exact put_local _ _ | refine Loc2.bind ?_ _hs (fun _ => ?_) | refine (fun s m _hs => ?_ : Local _) | split)
theorem deleteIn_local {b : Nat} {k : V} {x : AB} : Local (deleteIn b k x) := fun _ _ hs => deleteIn_l hs
theorem deleteOp_l {P : Program} {t : TypeId} {mm : V} {k : V} {s : S} {m : T AB} (_hs : s.lim ≤ s.next) : Loc2 s m (deleteOp P t mm k s) (deleteOp P t mm k { s with mem := m }) := by
  unfold deleteOp
  (try simp only [Rrec_eq])
  (try simp only [Orec_eq])
  repeat' (first | exact Loc2.ok _ | exact Loc2.no _ _ | exact get_l _hs | exact deleteIn_l _hs | exact get_local _ | exact deleteIn_local | refine Loc2.bind ?_ _hs (fun _ => ?_) | refine (fun s m _hs => ?_ : Local _) | split)
theorem deleteOp_local {P : Program} {t : TypeId} {mm : V} {k : V} : Local (deleteOp P t mm k) := fun _ _ hs => deleteOp_l hs
theorem clearOp_l {P : Program} {t : TypeId} {x : V} {s : S} {m : T AB} (_hs : s.lim ≤ s.next) : Loc2 s m (clearOp P t x s) (clearOp P t x { s with mem := m }) := by
  unfold clearOp
  (try simp only [Rrec_eq])
  (try simp only [Orec_eq])
  repeat' (first | exact Loc2.ok _ | exact Loc2.no _ _ | exact setCells_l _hs | exact setCells_local | refine Loc2.bind ?_ _hs (fun _ => ?_) | refine (fun s m _hs => ?_ : Local _) | split)
theorem clearOp_local {P : Program} {t : TypeId} {x : V} : Local (clearOp P t x) := fun _ _ hs => clearOp_l hs
theorem optR_l {why : String} {v : Option V} {s : S} {m : T AB} (_hs : s.lim ≤ s.next) : Loc2 s m (optR why v s) (optR why v { s with mem := m }) := by
  unfold optR
  (try simp only [Rrec_eq])
  (try simp only [Orec_eq])
  repeat' (first | exact Loc2.ok _ | exact Loc2.no _ _   | refine Loc2.bind ?_ _hs (fun _ => ?_) | refine (fun s m _hs => ?_ : Local _) | split)
theorem optR_local {why : String} {v : Option V} : Local (optR why v) := fun _ _ hs => optR_l hs
theorem builtin1_l {P : Program} {b : Builtin} {t : TypeId} {x : V} {s : S} {m : T AB} (_hs : s.lim ≤ s.next) : Loc2 s m (builtin1 P b t x s) (builtin1 P b t x { s with mem := m }) := by
  unfold builtin1
  (try simp only [Rrec_eq])
  (try simp only [Orec_eq])
  repeat' (first | exact Loc2.ok _ | exact Loc2.no _ _ | exact lenOp_l _hs | exact clearOp_l _hs | exact lenOp_local | exact clearOp_local | refine Loc2.bind ?_ _hs (fun _ => ?_) | refine (fun s m _hs => ?_ : Local _) | split)
theorem builtin1_local {P : Program} {b : Builtin} {t : TypeId} {x : V} : Local (builtin1 P b t x) := fun _ _ hs => builtin1_l hs
theorem builtin2_l {P : Program} {b : Builtin} {ts : List TypeId} {t : TypeId} {x : V} {y : V} {s : S} {m : T AB} (_hs : s.lim ≤ s.next) : Loc2 s m (builtin2 P b ts t x y s) (builtin2 P b ts t x y { s with mem := m }) := by
  unfold builtin2
  (try simp only [Rrec_eq])
  (try simp only [Orec_eq])
  repeat' (first | exact Loc2.ok _ | exact Loc2.no _ _ | exact appendOp_l _hs | exact copyOp_l _hs | exact deleteOp_l _hs | exact optR_l _hs | exact appendOp_local | exact copyOp_local | exact deleteOp_local | exact optR_local | refine Loc2.bind ?_ _hs (fun _ => ?_) | refine (fun s m _hs => ?_ : Local _) | split)
theorem builtin2_local {P : Program} {b : Builtin} {ts : List TypeId} {t : TypeId} {x : V} {y : V} : Local (builtin2 P b ts t x y) := fun _ _ hs => builtin2_l hs
theorem builtinOp_l {P : Program} {b : Builtin} {ts : List TypeId} {args : List V} {s : S} {m : T AB} (_hs : s.lim ≤ s.next) : Loc2 s m (builtinOp P b ts args s) (builtinOp P b ts args { s with mem := m }) := by
  unfold builtinOp
  (try simp only [Rrec_eq])
  (try simp only [Orec_eq])
  repeat' (first | exact Loc2.ok _ | exact Loc2.no _ _ | exact optR_l _hs | exact builtin1_l _hs | exact builtin2_l _hs | exact optR_local | exact builtin1_local | exact builtin2_local | refine Loc2.bind ?_ _hs (fun _ => ?_) | refine (fun s m _hs => ?_ : Local _) | split)
theorem builtinOp_local {P : Program} {b : Builtin} {ts : List TypeId} {args : List V} : Local (builtinOp P b ts args) := fun _ _ hs => builtinOp_l hs
theorem foundV_l {ok : Bool} {v : V} {s : S} {m : T AB} (_hs : s.lim ≤ s.next) : Loc2 s m (foundV ok v s) (foundV ok v { s with mem := m }) := by
  unfold foundV
  (try simp only [Rrec_eq])
  (try simp only [Orec_eq])
  repeat' (first | exact Loc2.ok _ | exact Loc2.no _ _   | refine Loc2.bind ?_ _hs (fun _ => ?_) | refine (fun s m _hs => ?_ : Local _) | split)
theorem foundV_local {ok : Bool} {v : V} : Local (foundV ok v) := fun _ _ hs => foundV_l hs
theorem missV_l {ok : Bool} {z : Option V} {s : S} {m : T AB} (_hs : s.lim ≤ s.next) : Loc2 s m (missV ok z s) (missV ok z { s with mem := m }) := by
  unfold missV
  (try simp only [Rrec_eq])
  (try simp only [Orec_eq])
  repeat' (first | exact Loc2.ok _ | exact Loc2.no _ _   | refine Loc2.bind ?_ _hs (fun _ => ?_) | refine (fun s m _hs => ?_ : Local _) | split)
theorem missV_local {ok : Bool} {z : Option V} : Local (missV ok z) := fun _ _ hs => missV_l hs
theorem lookIn_l {P : Program} {et : TypeId} {k : V} {ok : Bool} {es : List (V × V × Nat)} {s : S} {m : T AB} (_hs : s.lim ≤ s.next) : Loc2 s m (lookIn P et k ok es s) (lookIn P et k ok es { s with mem := m }) := by
  unfold lookIn
  (try simp only [Rrec_eq])
  (try simp only [Orec_eq])
  repeat' (first | exact Loc2.ok _ | exact Loc2.no _ _ | exact foundV_l _hs | exact missV_l _hs | exact foundV_local | exact missV_local | refine Loc2.bind ?_ _hs (fun _ => ?_) | refine (fun s m _hs => ?_ : Local _) | split)
theorem lookIn_local {P : Program} {et : TypeId} {k : V} {ok : Bool} {es : List (V × V × Nat)} : Local (lookIn P et k ok es) := fun _ _ hs => lookIn_l hs
theorem lookupOp_l {P : Program} {t : TypeId} {x : V} {k : V} {ok : Bool} {s : S} {m : T AB} (_hs : s.lim ≤ s.next) : Loc2 s m (lookupOp P t x k ok s) (lookupOp P t x k ok { s with mem := m }) := by
  unfold lookupOp
  (try simp only [Rrec_eq])
  (try simp only [Orec_eq])
  repeat' (first | exact Loc2.ok _ | exact Loc2.no _ _ | exact mapOf_l _hs | exact lookIn_l _hs | exact mapOf_local | exact lookIn_local | refine Loc2.bind ?_ _hs (fun _ => ?_) | refine (fun s m _hs => ?_ : Local _) | split)
theorem lookupOp_local {P : Program} {t : TypeId} {x : V} {k : V} {ok : Bool} : Local (lookupOp P t x k ok) := fun _ _ hs => lookupOp_l hs
theorem updateIn_l {b : Nat} {k : V} {v : V} {x : AB} {s : S} {m : T AB} (_hs : s.lim ≤ s.next) : Loc2 s m (updateIn b k v x s) (updateIn b k v x { s with mem := m }) := by
  unfold updateIn
  (try simp only [Rrec_eq])
  (try simp only [Orec_eq])
  repeat' (first | exact Loc2.ok _ | exact Loc2.no _ _ | exact put_l _hs | exact put_local _ _ | refine Loc2.bind ?_ _hs (fun _ => ?_) | refine (fun s m _hs => ?_ : Local _) | split)
theorem updateIn_local {b : Nat} {k : V} {v : V} {x : AB} : Local (updateIn b k v x) := fun _ _ hs => updateIn_l hs
theorem updateOp_l {P : Program} {t : TypeId} {x : V} {k : V} {v : V} {s : S} {m : T AB} (_hs : s.lim ≤ s.next) : Loc2 s m (updateOp P t x k v s) (updateOp P t x k v { s with mem := m }) := by
  unfold updateOp
  (try simp only [Rrec_eq])
  (try simp only [Orec_eq])
  repeat' (first | exact Loc2.ok _ | exact Loc2.no _ _ | exact get_l _hs | exact updateIn_l _hs | exact get_local _ | exact updateIn_local | refine Loc2.bind ?_ _hs (fun _ => ?_) | refine (fun s m _hs => ?_ : Local _) | split)
theorem updateOp_local {P : Program} {t : TypeId} {x : V} {k : V} {v : V} : Local (updateOp P t x k v) := fun _ _ hs => updateOp_l hs
theorem rangeIn_l {mm : Nat} {x : AB} {s : S} {m : T AB} (_hs : s.lim ≤ s.next) : Loc2 s m (rangeIn mm x s) (rangeIn mm x { s with mem := m }) := by
  unfold rangeIn
  (try simp only [Rrec_eq])
  (try simp only [Orec_eq])
  repeat' (first | exact Loc2.ok _ | exact Loc2.no _ _ | exact new_l _hs | exact new_local _ | refine Loc2.bind ?_ _hs (fun _ => ?_) | refine (fun s m _hs => ?_ : Local _) | split)
theorem rangeIn_local {mm : Nat} {x : AB} : Local (rangeIn mm x) := fun _ _ hs => rangeIn_l hs
theorem rangeOp_l {P : Program} {t : TypeId} {x : V} {s : S} {m : T AB} (_hs : s.lim ≤ s.next) : Loc2 s m (rangeOp P t x s) (rangeOp P t x { s with mem := m }) := by
  unfold rangeOp
  (try simp only [Rrec_eq])
  (try simp only [Orec_eq])
  repeat' (first | exact Loc2.ok _ | exact Loc2.no _ _ | exact get_l _hs | exact new_l _hs | exact rangeIn_l _hs | exact get_local _ | exact new_local _ | exact rangeIn_local | refine Loc2.bind ?_ _hs (fun _ => ?_) | refine (fun s m _hs => ?_ : Local _) | split)
theorem rangeOp_local {P : Program} {t : TypeId} {x : V} : Local (rangeOp P t x) := fun _ _ hs => rangeOp_l hs
theorem nextLeft_l {r : Nat} {mm : Nat} {since : Nat} {seen : List Nat} {c : Nat} {l : List (V × V × Nat)} {s : S} {m : T AB} (_hs : s.lim ≤ s.next) : Loc2 s m (nextLeft r mm since seen c l s) (nextLeft r mm since seen c l { s with mem := m }) := by
  unfold nextLeft
  (try simp only [Rrec_eq])
  (try simp only [Orec_eq])
  repeat' (first | exact Loc2.ok _ | exact Loc2.no _ _ | exact put_l _hs | exact new_l _hs | exact put_local _ _ | exact new_local _ | refine Loc2.bind ?_ _hs (fun _ => ?_) | refine (fun s m _hs => ?_ : Local _) | split)
theorem nextLeft_local {r : Nat} {mm : Nat} {since : Nat} {seen : List Nat} {c : Nat} {l : List (V × V × Nat)} : Local (nextLeft r mm since seen c l) := fun _ _ hs => nextLeft_l hs
theorem nextMap_l {r : Nat} {mm : Nat} {since : Nat} {seen : List Nat} {last : Nat} {x : AB} {s : S} {m : T AB} (_hs : s.lim ≤ s.next) : Loc2 s m (nextMap r mm since seen last x s) (nextMap r mm since seen last x { s with mem := m }) := by
  unfold nextMap
  (try simp only [Rrec_eq])
  (try simp only [Orec_eq])
  repeat' (first | exact Loc2.ok _ | exact Loc2.no _ _ | exact new_l _hs | exact nextLeft_l _hs | exact new_local _ | exact nextLeft_local | refine Loc2.bind ?_ _hs (fun _ => ?_) | refine (fun s m _hs => ?_ : Local _) | split)
theorem nextMap_local {r : Nat} {mm : Nat} {since : Nat} {seen : List Nat} {last : Nat} {x : AB} : Local (nextMap r mm since seen last x) := fun _ _ hs => nextMap_l hs
theorem nextIn_l {r : Nat} {x : AB} {s : S} {m : T AB} (_hs : s.lim ≤ s.next) : Loc2 s m (nextIn r x s) (nextIn r x { s with mem := m }) := by
  unfold nextIn
  (try simp only [Rrec_eq])
  (try simp only [Orec_eq])
  repeat' (first | exact Loc2.ok _ | exact Loc2.no _ _ | exact get_l _hs | exact nextMap_l _hs | exact get_local _ | exact nextMap_local | refine Loc2.bind ?_ _hs (fun _ => ?_) | refine (fun s m _hs => ?_ : Local _) | split)
theorem nextIn_local {r : Nat} {x : AB} : Local (nextIn r x) := fun _ _ hs => nextIn_l hs
theorem nextOp_l {x : V} {isString : Bool} {s : S} {m : T AB} (_hs : s.lim ≤ s.next) : Loc2 s m (nextOp x isString s) (nextOp x isString { s with mem := m }) := by
  unfold nextOp
  (try simp only [Rrec_eq])
  (try simp only [Orec_eq])
  repeat' (first | exact Loc2.ok _ | exact Loc2.no _ _ | exact get_l _hs | exact nextIn_l _hs | exact get_local _ | exact nextIn_local | refine Loc2.bind ?_ _hs (fun _ => ?_) | refine (fun s m _hs => ?_ : Local _) | split)
theorem nextOp_local {x : V} {isString : Bool} : Local (nextOp x isString) := fun _ _ hs => nextOp_l hs
theorem entryMap_l {n : Nat} {stepped : Nat} {x : AB} {s : S} {m : T AB} (_hs : s.lim ≤ s.next) : Loc2 s m (entryMap n stepped x s) (entryMap n stepped x { s with mem := m }) := by
  unfold entryMap
  (try simp only [Rrec_eq])
  (try simp only [Orec_eq])
  repeat' (first | exact Loc2.ok _ | exact Loc2.no _ _   | refine Loc2.bind ?_ _hs (fun _ => ?_) | refine (fun s m _hs => ?_ : Local _) | split)
theorem entryMap_local {n : Nat} {stepped : Nat} {x : AB} : Local (entryMap n stepped x) := fun _ _ hs => entryMap_l hs
theorem entryIn_l {x : AB} {s : S} {m : T AB} (_hs : s.lim ≤ s.next) : Loc2 s m (entryIn x s) (entryIn x { s with mem := m }) := by
  unfold entryIn
  (try simp only [Rrec_eq])
  (try simp only [Orec_eq])
  repeat' (first | exact Loc2.ok _ | exact Loc2.no _ _ | exact get_l _hs | exact entryMap_l _hs | exact get_local _ | exact entryMap_local | refine Loc2.bind ?_ _hs (fun _ => ?_) | refine (fun s m _hs => ?_ : Local _) | split)
theorem entryIn_local {x : AB} : Local (entryIn x) := fun _ _ hs => entryIn_l hs
theorem entryOp_l {x : V} {s : S} {m : T AB} (_hs : s.lim ≤ s.next) : Loc2 s m (entryOp x s) (entryOp x { s with mem := m }) := by
  unfold entryOp
  (try simp only [Rrec_eq])
  (try simp only [Orec_eq])
  repeat' (first | exact Loc2.ok _ | exact Loc2.no _ _ | exact get_l _hs | exact entryIn_l _hs | exact get_local _ | exact entryIn_local | refine Loc2.bind ?_ _hs (fun _ => ?_) | refine (fun s m _hs => ?_ : Local _) | split)
theorem entryOp_local {x : V} : Local (entryOp x) := fun _ _ hs => entryOp_l hs
theorem callOf_l {f : V} {args : List V} {s : S} {m : T AB} (_hs : s.lim ≤ s.next) : Loc2 s m (callOf f args s) (callOf f args { s with mem := m }) := by
  unfold callOf
  (try simp only [Rrec_eq])
  (try simp only [Orec_eq])
  repeat' (first | exact Loc2.ok _ | exact Loc2.no _ _   | refine Loc2.bind ?_ _hs (fun _ => ?_) | refine (fun s m _hs => ?_ : Local _) | split)
theorem callOf_local {f : V} {args : List V} : Local (callOf f args) := fun _ _ hs => callOf_l hs
theorem rowOp_l {P : Program} {e : TypeId} {len : Nat} {ps : List (Nat × V)} {s : S} {m : T AB} (_hs : s.lim ≤ s.next) : Loc2 s m (rowOp P e len ps s) (rowOp P e len ps { s with mem := m }) := by
  unfold rowOp
  (try simp only [Rrec_eq])
  (try simp only [Orec_eq])
  repeat' (first | exact Loc2.ok _ | exact Loc2.no _ _ | exact newCells_l _hs | exact newCells_local | refine Loc2.bind ?_ _hs (fun _ => ?_) | refine (fun s m _hs => ?_ : Local _) | split)
theorem rowOp_local {P : Program} {e : TypeId} {len : Nat} {ps : List (Nat × V)} : Local (rowOp P e len ps) := fun _ _ hs => rowOp_l hs
theorem loadOp_l {P : Program} {t : TypeId} {x : Option V} {s : S} {m : T AB} (_hs : s.lim ≤ s.next) : Loc2 s m (loadOp P t x s) (loadOp P t x { s with mem := m }) := by
  unfold loadOp
  (try simp only [Rrec_eq])
  (try simp only [Orec_eq])
  repeat' (first | exact Loc2.ok _ | exact Loc2.no _ _ | exact load_l _hs | exact load_local | refine Loc2.bind ?_ _hs (fun _ => ?_) | refine (fun s m _hs => ?_ : Local _) | split)
theorem loadOp_local {P : Program} {t : TypeId} {x : Option V} : Local (loadOp P t x) := fun _ _ hs => loadOp_l hs
theorem eqOp_l {P : Program} {op : BinOp} {t : TypeId} {u : V} {v : V} {s : S} {m : T AB} (_hs : s.lim ≤ s.next) : Loc2 s m (eqOp P op t u v s) (eqOp P op t u v { s with mem := m }) := by
  unfold eqOp
  (try simp only [Rrec_eq])
  (try simp only [Orec_eq])
  repeat' (first | exact Loc2.ok _ | exact Loc2.no _ _ | exact eqV_l _hs | exact optR_l _hs | exact eqV_local | exact optR_local | refine Loc2.bind ?_ _hs (fun _ => ?_) | refine (fun s m _hs => ?_ : Local _) | split)
theorem eqOp_local {P : Program} {op : BinOp} {t : TypeId} {u : V} {v : V} : Local (eqOp P op t u v) := fun _ _ hs => eqOp_l hs
theorem strOf_l {l : List V} {s : S} {m : T AB} (_hs : s.lim ≤ s.next) : Loc2 s m (strOf l s) (strOf l { s with mem := m }) := by
  unfold strOf
  (try simp only [Rrec_eq])
  (try simp only [Orec_eq])
  repeat' (first | exact Loc2.ok _ | exact Loc2.no _ _   | refine Loc2.bind ?_ _hs (fun _ => ?_) | refine (fun s m _hs => ?_ : Local _) | split)
theorem strOf_local {l : List V} : Local (strOf l) := fun _ _ hs => strOf_l hs
theorem toStr_l {P : Program} {e : TypeId} {x : V} {s : S} {m : T AB} (_hs : s.lim ≤ s.next) : Loc2 s m (toStr P e x s) (toStr P e x { s with mem := m }) := by
  unfold toStr
  (try simp only [Rrec_eq])
  (try simp only [Orec_eq])
  repeat' (first | exact Loc2.ok _ | exact Loc2.no _ _ | exact firstCells_l _hs | exact strOf_l _hs | exact firstCells_local | exact strOf_local | refine Loc2.bind ?_ _hs (fun _ => ?_) | refine (fun s m _hs => ?_ : Local _) | split)
theorem toStr_local {P : Program} {e : TypeId} {x : V} : Local (toStr P e x) := fun _ _ hs => toStr_l hs
theorem markIn_l {b : Nat} {v : V} {x : AB} {s : S} {m : T AB} (_hs : s.lim ≤ s.next) : Loc2 s m (markIn b v x s) (markIn b v x { s with mem := m }) := by
  unfold markIn
  (try simp only [Rrec_eq])
  (try simp only [Orec_eq])
  repeat' (first | exact Loc2.ok _ | exact Loc2.no _ _ | exact put_l _hs | exact put_local _ _ | refine Loc2.bind ?_ _hs (fun _ => ?_) | refine (fun s m _hs => ?_ : Local _) | split)
theorem markIn_local {b : Nat} {v : V} {x : AB} : Local (markIn b v x) := fun _ _ hs => markIn_l hs
theorem convSl_l {P : Program} {a : TypeId} {d : TypeId} {e : TypeId} {b : Nat} {n : Nat} {c : Cap} {v : V} {s : S} {m : T AB} (_hs : s.lim ≤ s.next) : Loc2 s m (convSl P a d e b n c v s) (convSl P a d e b n c v { s with mem := m }) := by
  unfold convSl
  (try simp only [Rrec_eq])
  (try simp only [Orec_eq])
  repeat' (first | exact Loc2.ok _ | exact Loc2.no _ _ | exact get_l _hs | exact markIn_l _hs | exact get_local _ | exact markIn_local | refine Loc2.bind ?_ _hs (fun _ => ?_) | refine (fun s m _hs => ?_ : Local _) | split)
theorem convSl_local {P : Program} {a : TypeId} {d : TypeId} {e : TypeId} {b : Nat} {n : Nat} {c : Cap} {v : V} : Local (convSl P a d e b n c v) := fun _ _ hs => convSl_l hs
theorem convertOp_l {P : Program} {a : TypeId} {d : TypeId} {x : Option V} {s : S} {m : T AB} (_hs : s.lim ≤ s.next) : Loc2 s m (convertOp P a d x s) (convertOp P a d x { s with mem := m }) := by
  unfold convertOp
  (try simp only [Rrec_eq])
  (try simp only [Orec_eq])
  repeat' (first | exact Loc2.ok _ | exact Loc2.no _ _ | exact optR_l _hs | exact toStr_l _hs | exact convSl_l _hs | exact optR_local | exact toStr_local | exact convSl_local | refine Loc2.bind ?_ _hs (fun _ => ?_) | refine (fun s m _hs => ?_ : Local _) | split)
theorem convertOp_local {P : Program} {a : TypeId} {d : TypeId} {x : Option V} : Local (convertOp P a d x) := fun _ _ hs => convertOp_l hs
theorem newMap_l {s : S} {m : T AB} (_hs : s.lim ≤ s.next) : Loc2 s m (newMap  s) (newMap  { s with mem := m }) := by
  unfold newMap
  (try simp only [Rrec_eq])
  (try simp only [Orec_eq])
  repeat' (first | exact Loc2.ok _ | exact Loc2.no _ _ | exact new_l _hs | exact new_local _ | refine Loc2.bind ?_ _hs (fun _ => ?_) | refine (fun s m _hs => ?_ : Local _) | split)
theorem newMap_local : Local (newMap ) := fun _ _ hs => newMap_l hs
theorem makeMapOp_l {P : Program} {t : TypeId} {x : Option (Option V)} {s : S} {m : T AB} (_hs : s.lim ≤ s.next) : Loc2 s m (makeMapOp P t x s) (makeMapOp P t x { s with mem := m }) := by
  unfold makeMapOp
  (try simp only [Rrec_eq])
  (try simp only [Orec_eq])
  repeat' (first | exact Loc2.ok _ | exact Loc2.no _ _ | exact newMap_l _hs | exact newMap_local | refine Loc2.bind ?_ _hs (fun _ => ?_) | refine (fun s m _hs => ?_ : Local _) | split)
theorem makeMapOp_local {P : Program} {t : TypeId} {x : Option (Option V)} : Local (makeMapOp P t x) := fun _ _ hs => makeMapOp_l hs
theorem makeRow_l {P : Program} {e : TypeId} {n : Nat} {mm : Nat} {s : S} {m : T AB} (_hs : s.lim ≤ s.next) : Loc2 s m (makeRow P e n mm s) (makeRow P e n mm { s with mem := m }) := by
  unfold makeRow
  (try simp only [Rrec_eq])
  (try simp only [Orec_eq])
  repeat' (first | exact Loc2.ok _ | exact Loc2.no _ _ | exact newCells_l _hs | exact newCells_local | refine Loc2.bind ?_ _hs (fun _ => ?_) | refine (fun s m _hs => ?_ : Local _) | split)
theorem makeRow_local {P : Program} {e : TypeId} {n : Nat} {mm : Nat} : Local (makeRow P e n mm) := fun _ _ hs => makeRow_l hs
theorem makeSliceOp_l {P : Program} {t : TypeId} {l : Option V} {c : Option V} {s : S} {m : T AB} (_hs : s.lim ≤ s.next) : Loc2 s m (makeSliceOp P t l c s) (makeSliceOp P t l c { s with mem := m }) := by
  unfold makeSliceOp
  (try simp only [Rrec_eq])
  (try simp only [Orec_eq])
  repeat' (first | exact Loc2.ok _ | exact Loc2.no _ _ | exact makeRow_l _hs | exact makeRow_local | refine Loc2.bind ?_ _hs (fun _ => ?_) | refine (fun s m _hs => ?_ : Local _) | split)
theorem makeSliceOp_local {P : Program} {t : TypeId} {l : Option V} {c : Option V} : Local (makeSliceOp P t l c) := fun _ _ hs => makeSliceOp_l hs
theorem lookupO_l {P : Program} {t : TypeId} {x : Option V} {k : Option V} {ok : Bool} {s : S} {m : T AB} (_hs : s.lim ≤ s.next) : Loc2 s m (lookupO P t x k ok s) (lookupO P t x k ok { s with mem := m }) := by
  unfold lookupO
  (try simp only [Rrec_eq])
  (try simp only [Orec_eq])
  repeat' (first | exact Loc2.ok _ | exact Loc2.no _ _ | exact lookupOp_l _hs | exact lookupOp_local | refine Loc2.bind ?_ _hs (fun _ => ?_) | refine (fun s m _hs => ?_ : Local _) | split)
theorem lookupO_local {P : Program} {t : TypeId} {x : Option V} {k : Option V} {ok : Bool} : Local (lookupO P t x k ok) := fun _ _ hs => lookupO_l hs
theorem updateO_l {P : Program} {t : TypeId} {x : Option V} {k : Option V} {v : Option V} {s : S} {m : T AB} (_hs : s.lim ≤ s.next) : Loc2 s m (updateO P t x k v s) (updateO P t x k v { s with mem := m }) := by
  unfold updateO
  (try simp only [Rrec_eq])
  (try simp only [Orec_eq])
  repeat' (first | exact Loc2.ok _ | exact Loc2.no _ _ | exact updateOp_l _hs | exact updateOp_local | refine Loc2.bind ?_ _hs (fun _ => ?_) | refine (fun s m _hs => ?_ : Local _) | split)
theorem updateO_local {P : Program} {t : TypeId} {x : Option V} {k : Option V} {v : Option V} : Local (updateO P t x k v) := fun _ _ hs => updateO_l hs
theorem rangeO_l {P : Program} {t : TypeId} {x : Option V} {s : S} {m : T AB} (_hs : s.lim ≤ s.next) : Loc2 s m (rangeO P t x s) (rangeO P t x { s with mem := m }) := by
  unfold rangeO
  (try simp only [Rrec_eq])
  (try simp only [Orec_eq])
  repeat' (first | exact Loc2.ok _ | exact Loc2.no _ _ | exact rangeOp_l _hs | exact rangeOp_local | refine Loc2.bind ?_ _hs (fun _ => ?_) | refine (fun s m _hs => ?_ : Local _) | split)
theorem rangeO_local {P : Program} {t : TypeId} {x : Option V} : Local (rangeO P t x) := fun _ _ hs => rangeO_l hs
theorem nextO_l {x : Option V} {b : Bool} {s : S} {m : T AB} (_hs : s.lim ≤ s.next) : Loc2 s m (nextO x b s) (nextO x b { s with mem := m }) := by
  unfold nextO
  (try simp only [Rrec_eq])
  (try simp only [Orec_eq])
  repeat' (first | exact Loc2.ok _ | exact Loc2.no _ _ | exact nextOp_l _hs | exact nextOp_local | refine Loc2.bind ?_ _hs (fun _ => ?_) | refine (fun s m _hs => ?_ : Local _) | split)
theorem nextO_local {x : Option V} {b : Bool} : Local (nextO x b) := fun _ _ hs => nextO_l hs
theorem entryO_l {x : Option V} {s : S} {m : T AB} (_hs : s.lim ≤ s.next) : Loc2 s m (entryO x s) (entryO x { s with mem := m }) := by
  unfold entryO
  (try simp only [Rrec_eq])
  (try simp only [Orec_eq])
  repeat' (first | exact Loc2.ok _ | exact Loc2.no _ _ | exact entryOp_l _hs | exact entryOp_local | refine Loc2.bind ?_ _hs (fun _ => ?_) | refine (fun s m _hs => ?_ : Local _) | split)
theorem entryO_local {x : Option V} : Local (entryO x) := fun _ _ hs => entryO_l hs
theorem callBuiltin_l {P : Program} {b : Builtin} {ts : List TypeId} {args : Option (List V)} {s : S} {m : T AB} (_hs : s.lim ≤ s.next) : Loc2 s m (callBuiltin P b ts args s) (callBuiltin P b ts args { s with mem := m }) := by
  unfold callBuiltin
  (try simp only [Rrec_eq])
  (try simp only [Orec_eq])
  repeat' (first | exact Loc2.ok _ | exact Loc2.no _ _ | exact builtinOp_l _hs | exact builtinOp_local | refine Loc2.bind ?_ _hs (fun _ => ?_) | refine (fun s m _hs => ?_ : Local _) | split)
theorem callBuiltin_local {P : Program} {b : Builtin} {ts : List TypeId} {args : Option (List V)} : Local (callBuiltin P b ts args) := fun _ _ hs => callBuiltin_l hs
theorem callValue_l {f : Option V} {args : Option (List V)} {s : S} {m : T AB} (_hs : s.lim ≤ s.next) : Loc2 s m (callValue f args s) (callValue f args { s with mem := m }) := by
  unfold callValue
  (try simp only [Rrec_eq])
  (try simp only [Orec_eq])
  repeat' (first | exact Loc2.ok _ | exact Loc2.no _ _ | exact callOf_l _hs | exact callOf_local | refine Loc2.bind ?_ _hs (fun _ => ?_) | refine (fun s m _hs => ?_ : Local _) | split)
theorem callValue_local {f : Option V} {args : Option (List V)} : Local (callValue f args) := fun _ _ hs => callValue_l hs
theorem callOp_l {P : Program} {a : T V} {c : Call} {s : S} {m : T AB} (_hs : s.lim ≤ s.next) : Loc2 s m (callOp P a c s) (callOp P a c { s with mem := m }) := by
  unfold callOp
  (try simp only [Rrec_eq])
  (try simp only [Orec_eq])
  repeat' (first | exact Loc2.ok _ | exact Loc2.no _ _ | exact callBuiltin_l _hs | exact callValue_l _hs | exact callBuiltin_local | exact callValue_local | refine Loc2.bind ?_ _hs (fun _ => ?_) | refine (fun s m _hs => ?_ : Local _) | split)
theorem callOp_local {P : Program} {a : T V} {c : Call} : Local (callOp P a c) := fun _ _ hs => callOp_l hs
theorem opAlloc_l {z : Option V} {x1 : T V} {s : S} {m : T AB} (_hs : s.lim ≤ s.next) : Loc2 s m (opAlloc z x1 s) (opAlloc z x1 { s with mem := m }) := by
  unfold opAlloc
  (try simp only [Rrec_eq])
  (try simp only [Orec_eq])
  repeat' (first | exact Loc2.ok _ | exact Loc2.no _ _ | exact newCells_l _hs | exact newCells_local | refine Loc2.bind ?_ _hs (fun _ => ?_) | refine (fun s m _hs => ?_ : Local _) | split)
theorem opAlloc_local {z : Option V} {x1 : T V} : Local (opAlloc z x1) := fun _ _ hs => opAlloc_l hs
theorem opBox_l {x : OF} {a : T V} {s : S} {m : T AB} (_hs : s.lim ≤ s.next) : Loc2 s m (opBox x a s) (opBox x a { s with mem := m }) := by
  unfold opBox
  (try simp only [Rrec_eq])
  (try simp only [Orec_eq])
  repeat' (first | exact Loc2.ok _ | exact Loc2.no _ _ | exact newCells_l _hs | exact newCells_local | refine Loc2.bind ?_ _hs (fun _ => ?_) | refine (fun s m _hs => ?_ : Local _) | split)
theorem opBox_local {x : OF} {a : T V} : Local (opBox x a) := fun _ _ hs => opBox_l hs
theorem buildSliceOp_l {P : Program} {t : TypeId} {len : Nat} {ps : Option (List (Nat × V))} {s : S} {m : T AB} (_hs : s.lim ≤ s.next) : Loc2 s m (buildSliceOp P t len ps s) (buildSliceOp P t len ps { s with mem := m }) := by
  unfold buildSliceOp
  repeat' (first | exact Loc2.no _ _ | exact rowOp_l _hs | split)
theorem opBuildSlice_l {P : Program} {t : TypeId} {n : Nat} {ps : List (Nat × Operand)} {a : T V} {s : S} {m : T AB} (_hs : s.lim ≤ s.next) : Loc2 s m (opBuildSlice P t n ps a s) (opBuildSlice P t n ps a { s with mem := m }) := by
  unfold opBuildSlice
  (try simp only [Rrec_eq])
  (try simp only [Orec_eq])
  repeat' (first | exact buildSliceOp_l _hs | exact Loc2.ok _ | exact Loc2.no _ _   | refine Loc2.bind ?_ _hs (fun _ => ?_) | refine (fun s m _hs => ?_ : Local _) | split)
theorem opBuildSlice_local {P : Program} {t : TypeId} {n : Nat} {ps : List (Nat × Operand)} {a : T V} : Local (opBuildSlice P t n ps a) := fun _ _ hs => opBuildSlice_l hs
theorem load1_l {x : V} {s : S} {m : T AB} (_hs : s.lim ≤ s.next) : Loc2 s m (load1 x s) (load1 x { s with mem := m }) := by
  unfold load1
  (try simp only [Rrec_eq])
  (try simp only [Orec_eq])
  repeat' (first | exact Loc2.ok _ | exact Loc2.no _ _ | exact getCell_l _hs | exact load_l _hs | exact getCell_local | exact load_local | refine Loc2.bind ?_ _hs (fun _ => ?_) | refine (fun s m _hs => ?_ : Local _) | split)
theorem load1_local {x : V} : Local (load1 x) := fun _ _ hs => load1_l hs
theorem opLoad1_l {x : OF} {a : T V} {s : S} {m : T AB} (_hs : s.lim ≤ s.next) : Loc2 s m (opLoad1 x a s) (opLoad1 x a { s with mem := m }) := by
  unfold opLoad1
  (try simp only [Rrec_eq])
  (try simp only [Orec_eq])
  repeat' (first | exact Loc2.ok _ | exact Loc2.no _ _ | exact load_l _hs | exact load1_l _hs | exact load_local | exact load1_local | refine Loc2.bind ?_ _hs (fun _ => ?_) | refine (fun s m _hs => ?_ : Local _) | split)
theorem opLoad1_local {x : OF} {a : T V} : Local (opLoad1 x a) := fun _ _ hs => opLoad1_l hs
theorem loadN_l {n : Nat} {x : V} {s : S} {m : T AB} (_hs : s.lim ≤ s.next) : Loc2 s m (loadN n x s) (loadN n x { s with mem := m }) := by
  unfold loadN
  (try simp only [Rrec_eq])
  (try simp only [Orec_eq])
  repeat' (first | exact Loc2.ok _ | exact Loc2.no _ _ | exact loadAt_l _hs | exact load_l _hs | exact loadAt_local | exact load_local | refine Loc2.bind ?_ _hs (fun _ => ?_) | refine (fun s m _hs => ?_ : Local _) | split)
theorem loadN_local {n : Nat} {x : V} : Local (loadN n x) := fun _ _ hs => loadN_l hs
theorem opLoadN_l {n : Nat} {x : OF} {a : T V} {s : S} {m : T AB} (_hs : s.lim ≤ s.next) : Loc2 s m (opLoadN n x a s) (opLoadN n x a { s with mem := m }) := by
  unfold opLoadN
  (try simp only [Rrec_eq])
  (try simp only [Orec_eq])
  repeat' (first | exact Loc2.ok _ | exact Loc2.no _ _ | exact load_l _hs | exact loadN_l _hs | exact load_local | exact loadN_local | refine Loc2.bind ?_ _hs (fun _ => ?_) | refine (fun s m _hs => ?_ : Local _) | split)
theorem opLoadN_local {n : Nat} {x : OF} {a : T V} : Local (opLoadN n x a) := fun _ _ hs => opLoadN_l hs
theorem storeN_l {n : Nat} {x : V} {v : V} {s : S} {m : T AB} (_hs : s.lim ≤ s.next) : Loc2 s m (storeN n x v s) (storeN n x v { s with mem := m }) := by
  unfold storeN
  (try simp only [Rrec_eq])
  (try simp only [Orec_eq])
  repeat' (first | exact Loc2.ok _ | exact Loc2.no _ _ | exact storeAt_l _hs | exact store_l _hs | exact storeAt_local | exact store_local | refine Loc2.bind ?_ _hs (fun _ => ?_) | refine (fun s m _hs => ?_ : Local _) | split)
theorem storeN_local {n : Nat} {x : V} {v : V} : Local (storeN n x v) := fun _ _ hs => storeN_l hs
theorem opStore_l {n : Nat} {x : OF} {y : OF} {a : T V} {s : S} {m : T AB} (_hs : s.lim ≤ s.next) : Loc2 s m (opStore n x y a s) (opStore n x y a { s with mem := m }) := by
  unfold opStore
  (try simp only [Rrec_eq])
  (try simp only [Orec_eq])
  repeat' (first | exact Loc2.ok _ | exact Loc2.no _ _ | exact store_l _hs | exact storeN_l _hs | exact store_local | exact storeN_local | refine Loc2.bind ?_ _hs (fun _ => ?_) | refine (fun s m _hs => ?_ : Local _) | split)
theorem opStore_local {n : Nat} {x : OF} {y : OF} {a : T V} : Local (opStore n x y a) := fun _ _ hs => opStore_l hs
theorem opEq_l {P : Program} {op : BinOp} {t : TypeId} {x : OF} {y : OF} {a : T V} {s : S} {m : T AB} (_hs : s.lim ≤ s.next) : Loc2 s m (opEq P op t x y a s) (opEq P op t x y a { s with mem := m }) := by
  unfold opEq
  (try simp only [Rrec_eq])
  (try simp only [Orec_eq])
  repeat' (first | exact Loc2.ok _ | exact Loc2.no _ _ | exact eqOp_l _hs | exact eqOp_local | refine Loc2.bind ?_ _hs (fun _ => ?_) | refine (fun s m _hs => ?_ : Local _) | split)
theorem opEq_local {P : Program} {op : BinOp} {t : TypeId} {x : OF} {y : OF} {a : T V} : Local (opEq P op t x y a) := fun _ _ hs => opEq_l hs
theorem opConv_l {P : Program} {t : TypeId} {u : TypeId} {x : OF} {a : T V} {s : S} {m : T AB} (_hs : s.lim ≤ s.next) : Loc2 s m (opConv P t u x a s) (opConv P t u x a { s with mem := m }) := by
  unfold opConv
  (try simp only [Rrec_eq])
  (try simp only [Orec_eq])
  repeat' (first | exact Loc2.ok _ | exact Loc2.no _ _ | exact convertOp_l _hs | exact convertOp_local | refine Loc2.bind ?_ _hs (fun _ => ?_) | refine (fun s m _hs => ?_ : Local _) | split)
theorem opConv_local {P : Program} {t : TypeId} {u : TypeId} {x : OF} {a : T V} : Local (opConv P t u x a) := fun _ _ hs => opConv_l hs
theorem opMap_l {P : Program} {t : TypeId} {r : Option Operand} {a : T V} {s : S} {m : T AB} (_hs : s.lim ≤ s.next) : Loc2 s m (opMap P t r a s) (opMap P t r a { s with mem := m }) := by
  unfold opMap
  (try simp only [Rrec_eq])
  (try simp only [Orec_eq])
  repeat' (first | exact Loc2.ok _ | exact Loc2.no _ _ | exact makeMapOp_l _hs | exact makeMapOp_local | refine Loc2.bind ?_ _hs (fun _ => ?_) | refine (fun s m _hs => ?_ : Local _) | split)
theorem opMap_local {P : Program} {t : TypeId} {r : Option Operand} {a : T V} : Local (opMap P t r a) := fun _ _ hs => opMap_l hs
theorem opMake_l {P : Program} {t : TypeId} {l : OF} {c : OF} {a : T V} {s : S} {m : T AB} (_hs : s.lim ≤ s.next) : Loc2 s m (opMake P t l c a s) (opMake P t l c a { s with mem := m }) := by
  unfold opMake
  (try simp only [Rrec_eq])
  (try simp only [Orec_eq])
  repeat' (first | exact Loc2.ok _ | exact Loc2.no _ _ | exact makeSliceOp_l _hs | exact makeSliceOp_local | refine Loc2.bind ?_ _hs (fun _ => ?_) | refine (fun s m _hs => ?_ : Local _) | split)
theorem opMake_local {P : Program} {t : TypeId} {l : OF} {c : OF} {a : T V} : Local (opMake P t l c a) := fun _ _ hs => opMake_l hs
theorem opLookup_l {P : Program} {t : TypeId} {x : OF} {k : OF} {ok : Bool} {a : T V} {s : S} {m : T AB} (_hs : s.lim ≤ s.next) : Loc2 s m (opLookup P t x k ok a s) (opLookup P t x k ok a { s with mem := m }) := by
  unfold opLookup
  (try simp only [Rrec_eq])
  (try simp only [Orec_eq])
  repeat' (first | exact Loc2.ok _ | exact Loc2.no _ _ | exact lookupO_l _hs | exact lookupO_local | refine Loc2.bind ?_ _hs (fun _ => ?_) | refine (fun s m _hs => ?_ : Local _) | split)
theorem opLookup_local {P : Program} {t : TypeId} {x : OF} {k : OF} {ok : Bool} {a : T V} : Local (opLookup P t x k ok a) := fun _ _ hs => opLookup_l hs
theorem opUpdate_l {P : Program} {t : TypeId} {mm : OF} {k : OF} {x : OF} {a : T V} {s : S} {m : T AB} (_hs : s.lim ≤ s.next) : Loc2 s m (opUpdate P t mm k x a s) (opUpdate P t mm k x a { s with mem := m }) := by
  unfold opUpdate
  (try simp only [Rrec_eq])
  (try simp only [Orec_eq])
  repeat' (first | exact Loc2.ok _ | exact Loc2.no _ _ | exact updateO_l _hs | exact updateO_local | refine Loc2.bind ?_ _hs (fun _ => ?_) | refine (fun s m _hs => ?_ : Local _) | split)
theorem opUpdate_local {P : Program} {t : TypeId} {mm : OF} {k : OF} {x : OF} {a : T V} : Local (opUpdate P t mm k x a) := fun _ _ hs => opUpdate_l hs
theorem opRange_l {P : Program} {t : TypeId} {x : OF} {a : T V} {s : S} {m : T AB} (_hs : s.lim ≤ s.next) : Loc2 s m (opRange P t x a s) (opRange P t x a { s with mem := m }) := by
  unfold opRange
  (try simp only [Rrec_eq])
  (try simp only [Orec_eq])
  repeat' (first | exact Loc2.ok _ | exact Loc2.no _ _ | exact rangeO_l _hs | exact rangeO_local | refine Loc2.bind ?_ _hs (fun _ => ?_) | refine (fun s m _hs => ?_ : Local _) | split)
theorem opRange_local {P : Program} {t : TypeId} {x : OF} {a : T V} : Local (opRange P t x a) := fun _ _ hs => opRange_l hs
theorem opNext_l {x : OF} {b : Bool} {a : T V} {s : S} {m : T AB} (_hs : s.lim ≤ s.next) : Loc2 s m (opNext x b a s) (opNext x b a { s with mem := m }) := by
  unfold opNext
  (try simp only [Rrec_eq])
  (try simp only [Orec_eq])
  repeat' (first | exact Loc2.ok _ | exact Loc2.no _ _ | exact nextO_l _hs | exact nextO_local | refine Loc2.bind ?_ _hs (fun _ => ?_) | refine (fun s m _hs => ?_ : Local _) | split)
theorem opNext_local {x : OF} {b : Bool} {a : T V} : Local (opNext x b a) := fun _ _ hs => opNext_l hs
theorem opEntry_l {x : OF} {a : T V} {s : S} {m : T AB} (_hs : s.lim ≤ s.next) : Loc2 s m (opEntry x a s) (opEntry x a { s with mem := m }) := by
  unfold opEntry
  (try simp only [Rrec_eq])
  (try simp only [Orec_eq])
  repeat' (first | exact Loc2.ok _ | exact Loc2.no _ _ | exact entryO_l _hs | exact entryO_local | refine Loc2.bind ?_ _hs (fun _ => ?_) | refine (fun s m _hs => ?_ : Local _) | split)
theorem opEntry_local {x : OF} {a : T V} : Local (opEntry x a) := fun _ _ hs => opEntry_l hs
theorem opCall_l {P : Program} {c : Call} {a : T V} {s : S} {m : T AB} (_hs : s.lim ≤ s.next) : Loc2 s m (opCall P c a s) (opCall P c a { s with mem := m }) := by
  unfold opCall
  (try simp only [Rrec_eq])
  (try simp only [Orec_eq])
  repeat' (first | exact Loc2.ok _ | exact Loc2.no _ _ | exact callOp_l _hs | exact callOp_local | refine Loc2.bind ?_ _hs (fun _ => ?_) | refine (fun s m _hs => ?_ : Local _) | split)
theorem opCall_local {P : Program} {c : Call} {a : T V} : Local (opCall P c a) := fun _ _ hs => opCall_l hs
end Go.Ex

/- The executor's numbers are the model's. -/
namespace Go.Ex

theorem ite2_eq {β : Type} (b : Bool) (x y : β) : ite2 b x y = if b = true then y else x := by cases b <;> rfl
theorem ite2_ble {β : Type} (m n : Nat) (x y : β) : ite2 (Nat.ble m n) x y = if m ≤ n then y else x := by
  rw [ite2_eq]
  by_cases h : m ≤ n
  · rw [if_pos h, if_pos (Nat.ble_eq ▸ h)]
  · rw [if_neg h, if_neg (fun e => h (Nat.ble_eq ▸ e))]

theorem modU_eq (k : IntKind) : modU k = 2 ^ k.bits := by cases k <;> rfl
theorem bitsOf_eq (k : IntKind) : bitsOf k = k.bits := by cases k <;> rfl

theorem bitsU_nat (k : IntKind) (m : Nat) : bitsU k (.ofNat m) = m % 2 ^ k.bits := by
  show ite2 (Nat.ble m (mostK k)) (Nat.mod m (modU k)) m = _
  rw [ite2_ble]
  show (if m ≤ mostK k then m else m % modU k) = _
  rw [modU_eq]
  split
  · rename_i h
    refine (Nat.mod_eq_of_lt ?_).symm
    cases k <;> simp only [mostK] at h <;> simp only [IntKind.bits] <;> omega
  · rfl
theorem bitsU_neg (k : IntKind) (m : Nat) : bitsU k (.negSucc m) = 2 ^ k.bits - 1 - m % 2 ^ k.bits := by
  show modU k - 1 - m % modU k = _
  rw [modU_eq]
theorem bitsU_eq (k : IntKind) (n : Int) : (bitsU k n : Int) = n % (2 ^ k.bits : Int) := by
  cases n with
  | ofNat m => rw [bitsU_nat]; simp
  | negSucc m =>
    rw [bitsU_neg]
    cases k <;> simp only [IntKind.bits] <;> omega
theorem bitsU_lt (k : IntKind) (n : Int) : bitsU k n < 2 ^ k.bits := by
  have h := bitsU_eq k n
  have : n % (2 ^ k.bits : Int) < 2 ^ k.bits := Int.emod_lt_of_pos _ (by cases k <;> decide)
  have h2 : ((2 ^ k.bits : Nat) : Int) = (2 : Int) ^ k.bits := by simp
  omega
theorem ofBits_eq (k : IntKind) (m : Nat) (h : m < 2 ^ k.bits) : ofBits k m = k.wrap m := by
  unfold ofBits
  rw [ite2_ble, ite2_ble]
  have neg : ∀ j : Nat, 0 < j → negOf j = -(j : Int) := fun j hj => by
    obtain ⟨i, rfl⟩ : ∃ i, j = i + 1 := ⟨j - 1, by omega⟩
    rfl
  have e1 : ((2 ^ k.bits : Nat) : Int) = (2 : Int) ^ k.bits := by simp
  have hm : (m : Int) % (2 ^ k.bits : Int) = m := Int.emod_eq_of_lt (by omega) (by omega)
  unfold IntKind.wrap
  simp only [hm]
  show (if m ≤ mostK k then (m : Int) else if halfU k ≤ m then negOf (modU k - m) else (m : Int)) = _
  rw [modU_eq]
  by_cases hs : k.signed = true
  · have hh : halfU k = 2 ^ (k.bits - 1) ∧ mostK k + 1 = 2 ^ (k.bits - 1) ∧ 2 ^ k.bits = 2 * 2 ^ (k.bits - 1) := by cases k <;> first | (cases hs; done) | exact ⟨rfl, rfl, rfl⟩
    have e2 : ((2 ^ (k.bits - 1) : Nat) : Int) = (2 : Int) ^ (k.bits - 1) := by simp
    obtain ⟨h1, h2, h3⟩ := hh
    simp only [hs, Bool.true_and, decide_eq_true_eq]
    by_cases hm2 : m ≤ mostK k
    · rw [if_pos hm2, if_neg (by omega)]
    · rw [if_neg hm2, if_pos (by omega), if_pos (by omega), neg _ (by omega)]
      omega
  · have hh : mostK k + 1 = 2 ^ k.bits := by cases k <;> first | rfl | exact absurd rfl hs
    simp only [hs, Bool.false_and, Bool.false_eq_true, if_false]
    rw [if_pos (by omega)]
theorem wrap_emod (k : IntKind) (n : Int) : k.wrap (n % (2 ^ k.bits : Int)) = k.wrap n := by
  unfold IntKind.wrap
  simp only [Int.emod_emod_of_dvd _ (Int.dvd_refl _)]
theorem wrapS_eq (k : IntKind) (n : Int) : wrapS k n = k.wrap n := by
  unfold wrapS
  rw [ofBits_eq _ _ (bitsU_lt k n), bitsU_eq, wrap_emod]
theorem wrap_small (k : IntKind) (m : Nat) (h : m ≤ mostK k) : k.wrap (m : Int) = m := by
  have hl : m < 2 ^ k.bits := by cases k <;> simp only [mostK] at h <;> simp only [IntKind.bits] <;> omega
  rw [← ofBits_eq k m hl]
  unfold ofBits
  rw [ite2_ble, if_pos h]
  rfl
theorem wrapN_eq (k : IntKind) (m : Nat) : wrapN k m = k.wrap (m : Int) := by
  unfold wrapN
  rw [ite2_ble]
  split
  · rename_i h; exact (wrap_small k m h).symm
  · exact wrapS_eq k _
theorem wrapK_eq (k : IntKind) (n : Int) : wrapK k n = k.wrap n := by
  cases n with
  | ofNat m => exact wrapN_eq k m
  | negSucc m => exact wrapS_eq k _
theorem mkInt_eq (k : IntKind) (n : Int) : mkInt k n = some (.int k n) := by unfold mkInt; rw [seqI_eq]
theorem mkFit_eq (k : IntKind) (m : Nat) : mkFit k m = some (.int k (k.wrap (m : Int))) := by
  unfold mkFit
  rw [seqN_eq, ite2_ble, mkInt_eq]
  split
  · rename_i h; rw [wrap_small k m h]; rfl
  · rw [wrapS_eq]; rfl
theorem mkBits_eq (k : IntKind) (m : Nat) (h : m < 2 ^ k.bits) : mkBits k m = some (.int k (k.wrap (m : Int))) := by
  unfold mkBits; rw [mkInt_eq, ofBits_eq k m h]

theorem addV_eq (k : IntKind) (x y : Int) : addV k x y = some (.int k (k.wrap (x + y))) := by
  cases x with
  | ofNat a =>
    cases y with
    | ofNat b => show mkFit k (a + b) = _; rw [mkFit_eq]; rfl
    | negSucc b => show mkInt k (wrapK k (Int.add (.ofNat a) (.negSucc b))) = _; rw [mkInt_eq, wrapK_eq]; rfl
  | negSucc a => show mkInt k (wrapK k (Int.add (.negSucc a) y)) = _; rw [mkInt_eq, wrapK_eq]; rfl
theorem subV_eq (k : IntKind) (x y : Int) : subV k x y = some (.int k (k.wrap (x - y))) := by
  cases x with
  | ofNat a =>
    cases y with
    | ofNat b =>
      show subN k a b = _
      unfold subN
      rw [ite2_ble]
      split
      · rename_i h
        show mkFit k (a - b) = _
        rw [mkFit_eq]
        have : ((a - b : Nat) : Int) = Int.ofNat a - Int.ofNat b := by simp only [Int.ofNat_eq_natCast]; omega
        rw [this]
      · rw [mkInt_eq, wrapS_eq]; rfl
    | negSucc b => show mkInt k (wrapK k (Int.sub (.ofNat a) (.negSucc b))) = _; rw [mkInt_eq, wrapK_eq]; rfl
  | negSucc a => show mkInt k (wrapK k (Int.sub (.negSucc a) y)) = _; rw [mkInt_eq, wrapK_eq]; rfl
theorem mulV_eq (k : IntKind) (x y : Int) : mulV k x y = some (.int k (k.wrap (x * y))) := by
  cases x with
  | ofNat a =>
    cases y with
    | ofNat b =>
      show mkFit k (a * b) = _
      rw [mkFit_eq]
      have : ((a * b : Nat) : Int) = Int.ofNat a * Int.ofNat b := by simp
      rw [this]
    | negSucc b => show mkInt k (wrapK k (Int.mul (.ofNat a) (.negSucc b))) = _; rw [mkInt_eq, wrapK_eq]; rfl
  | negSucc a => show mkInt k (wrapK k (Int.mul (.negSucc a) y)) = _; rw [mkInt_eq, wrapK_eq]; rfl

theorem isZero_eq (y : Int) : isZero y = (y == 0) := by
  cases y with
  | ofNat a => cases a <;> rfl
  | negSucc a => rfl
theorem divQ_eq (x y : Int) : divQ x y = x.tdiv y := by
  cases x with
  | ofNat a => cases y <;> rfl
  | negSucc a => rfl
theorem divR_eq (x y : Int) : divR x y = x.tmod y := by
  cases x with
  | ofNat a => cases y <;> rfl
  | negSucc a => rfl
theorem eqI_eq (x y : Int) : eqI x y = (x == y) := by
  cases x with
  | ofNat a =>
    cases y with
    | ofNat b =>
      show Nat.beq a b = _
      rw [Bool.eq_iff_iff]; simp only [Nat.beq_eq, beq_iff_eq, Int.ofNat.injEq]
    | negSucc b => rfl
  | negSucc a =>
    cases y with
    | ofNat b => rfl
    | negSucc b =>
      show Nat.beq a b = _
      rw [Bool.eq_iff_iff]; simp only [Nat.beq_eq, beq_iff_eq, Int.negSucc.injEq]
theorem ltI_eq (x y : Int) : ltI x y = decide (x < y) := by
  cases x with
  | ofNat a =>
    cases y with
    | ofNat b => show Nat.ble (a + 1) b = _; rw [Bool.eq_iff_iff, Nat.ble_eq]; simp; omega
    | negSucc b => show false = _; rw [Bool.eq_iff_iff]; simp; omega
  | negSucc a =>
    cases y with
    | ofNat b => show true = _; rw [Bool.eq_iff_iff]; simp; omega
    | negSucc b => show Nat.ble (b + 1) a = _; rw [Bool.eq_iff_iff, Nat.ble_eq]; simp; omega
theorem kindEq_eq (j k : IntKind) : kindEq j k = decide (j = k) := by cases j <;> cases k <;> rfl
theorem mkBool_eq (b : Bool) : mkBool b = some (.bool b) := by cases b <;> rfl
theorem mkNot_eq (b : Bool) : mkNot b = some (.bool !b) := by cases b <;> rfl

theorem toNat_ofInt (k : IntKind) (x : Int) : (BitVec.ofInt k.bits x).toNat = bitsU k x := by
  rw [BitVec.toNat_ofInt]
  have h := bitsU_eq k x
  have e1 : ((2 ^ k.bits : Nat) : Int) = (2 : Int) ^ k.bits := by simp
  rw [e1, ← h]
  simp
theorem land_lt (k : IntKind) (a b : Nat) (ha : a < 2 ^ k.bits) : Nat.land a b < 2 ^ k.bits := Nat.lt_of_le_of_lt Nat.and_le_left ha
theorem andV_eq (k : IntKind) (x y : Int) : andV k x y = some (.int k (k.wrap ((BitVec.ofInt k.bits x &&& BitVec.ofInt k.bits y).toNat : Int))) := by
  unfold andV
  rw [mkBits_eq _ _ (land_lt _ _ _ (bitsU_lt _ _)), BitVec.toNat_and, toNat_ofInt, toNat_ofInt]
  rfl
theorem orV_eq (k : IntKind) (x y : Int) : orV k x y = some (.int k (k.wrap ((BitVec.ofInt k.bits x ||| BitVec.ofInt k.bits y).toNat : Int))) := by
  unfold orV
  rw [mkBits_eq _ _ (show Nat.lor _ _ < _ from Nat.or_lt_two_pow (bitsU_lt k x) (bitsU_lt k y)), BitVec.toNat_or, toNat_ofInt, toNat_ofInt]
  rfl
theorem xorV_eq (k : IntKind) (x y : Int) : xorV k x y = some (.int k (k.wrap ((BitVec.ofInt k.bits x ^^^ BitVec.ofInt k.bits y).toNat : Int))) := by
  unfold xorV
  rw [mkBits_eq _ _ (show Nat.xor _ _ < _ from Nat.xor_lt_two_pow (bitsU_lt k x) (bitsU_lt k y)), BitVec.toNat_xor, toNat_ofInt, toNat_ofInt]
  rfl
theorem andNotV_eq (k : IntKind) (x y : Int) : andNotV k x y = some (.int k (k.wrap ((BitVec.ofInt k.bits x &&& ~~~BitVec.ofInt k.bits y).toNat : Int))) := by
  unfold andNotV
  rw [mkBits_eq _ _ (land_lt _ _ _ (bitsU_lt _ _)), BitVec.toNat_and, BitVec.toNat_not, toNat_ofInt, toNat_ofInt, modU_eq]
  rfl
theorem pow2_eq (k : IntKind) (y : Nat) : pow2 k y = 2 ^ min y k.bits := by
  unfold pow2
  rw [ite2_ble, bitsOf_eq]
  show 2 ^ (if y ≤ k.bits then y else k.bits) = _
  rw [Nat.min_def]
theorem shlV_eq (k : IntKind) (x : Int) (n : Nat) : shlV k x (.ofNat n) = some (.int k (k.wrap (x * 2 ^ min n k.bits))) := by
  have e : ((2 ^ min n k.bits : Nat) : Int) = (2 : Int) ^ min n k.bits := by simp
  cases x with
  | ofNat m =>
    show mkFit k (m * pow2 k n) = _
    rw [mkFit_eq, pow2_eq, ← e]
    have : ((m * 2 ^ min n k.bits : Nat) : Int) = Int.ofNat m * ((2 ^ min n k.bits : Nat) : Int) := by simp
    rw [this]
  | negSucc m =>
    show mkInt k (wrapK k (Int.mul (.negSucc m) (.ofNat (pow2 k n)))) = _
    rw [mkInt_eq, wrapK_eq, pow2_eq, ← e]
    rfl
theorem shrV_eq (k : IntKind) (x : Int) (n : Nat) : shrV k x (.ofNat n) = some (.int k (x.fdiv (2 ^ min n k.bits))) := by
  have e : ((2 ^ min n k.bits : Nat) : Int) = (2 : Int) ^ min n k.bits := by simp
  have hp : 0 < 2 ^ min n k.bits := Nat.two_pow_pos _
  cases x with
  | ofNat m =>
    show mkInt k (.ofNat (m / pow2 k n)) = _
    rw [mkInt_eq, pow2_eq, ← e]
    generalize 2 ^ min n k.bits = p at hp
    cases p with
    | zero => omega
    | succ p =>
      cases m with
      | zero => simp
      | succ m => rfl
  | negSucc m =>
    show mkInt k (.negSucc (m / pow2 k n)) = _
    rw [mkInt_eq, pow2_eq, ← e]
    generalize 2 ^ min n k.bits = p at hp
    cases p with
    | zero => omega
    | succ p => rfl

theorem intGo_false {f : IntKind → Int → Int → Option V} {k j : IntKind} {a b : Int} {v : V} (h : intGo f k j a b false = some v) : k = j ∧ f k a b = some v := by
  unfold intGo at h
  rw [ite2_false, kindEq_eq] at h
  by_cases e : k = j
  · rw [show decide (k = j) = true from decide_eq_true e, ite2_true] at h; exact ⟨e, h⟩
  · rw [show decide (k = j) = false from decide_eq_false e, ite2_false] at h; cases h
theorem intGo_true {f : IntKind → Int → Int → Option V} {k j : IntKind} {a b : Int} {v : V} (h : intGo f k j a b true = some v) : f k a b = some v := by
  unfold intGo at h
  rwa [ite2_true] at h

/-- The operator on two numbers is the model's. -/
theorem binF_ok (P : Program) (w : World) (op : BinOp) (t : TypeId) (sh : Bool) (f : IntKind → Int → Int → Option V) (h : binF op = .mk sh f) (k j : IntKind) (a b : Int) (v : V)
    (hv : intGo f k j a b sh = some v) : ∃ v', (binOp op t (.int k a) (.int j b)).run P w = .ok v' w ∧ ∀ ρ, VR ρ v v' := by
  cases op <;> simp only [binF, BF.mk.injEq] at h <;> obtain ⟨rfl, rfl⟩ := h
  case add => obtain ⟨rfl, h⟩ := intGo_false hv; rw [addV_eq] at h; cases h; exact ⟨_, by simp [binOp, Op.intArith]; rfl, fun ρ => by simp only [VR]⟩
  case sub => obtain ⟨rfl, h⟩ := intGo_false hv; rw [subV_eq] at h; cases h; exact ⟨_, by simp [binOp, Op.intArith]; rfl, fun ρ => by simp only [VR]⟩
  case mul => obtain ⟨rfl, h⟩ := intGo_false hv; rw [mulV_eq] at h; cases h; exact ⟨_, by simp [binOp, Op.intArith]; rfl, fun ρ => by simp only [VR]⟩
  case quo =>
    obtain ⟨rfl, h⟩ := intGo_false hv
    unfold quoV at h; rw [isZero_eq, mkInt_eq, wrapK_eq, divQ_eq] at h
    by_cases e : b = 0
    · subst e; cases h
    · rw [show (b == 0) = false from by simpa using e, ite2_false] at h; cases h
      exact ⟨_, by simp [binOp, Op.intDiv, e]; rfl, fun ρ => by simp only [VR]⟩
  case rem =>
    obtain ⟨rfl, h⟩ := intGo_false hv
    unfold remV at h; rw [isZero_eq, mkInt_eq, divR_eq] at h
    by_cases e : b = 0
    · subst e; cases h
    · rw [show (b == 0) = false from by simpa using e, ite2_false] at h; cases h
      exact ⟨_, by simp [binOp, Op.intDiv, e]; rfl, fun ρ => by simp only [VR]⟩
  case and => obtain ⟨rfl, h⟩ := intGo_false hv; rw [andV_eq] at h; cases h; exact ⟨_, by simp [binOp, Op.intBits]; rfl, fun ρ => by simp [VR]⟩
  case or => obtain ⟨rfl, h⟩ := intGo_false hv; rw [orV_eq] at h; cases h; exact ⟨_, by simp [binOp, Op.intBits]; rfl, fun ρ => by simp [VR]⟩
  case xor => obtain ⟨rfl, h⟩ := intGo_false hv; rw [xorV_eq] at h; cases h; exact ⟨_, by simp [binOp, Op.intBits]; rfl, fun ρ => by simp [VR]⟩
  case andNot => obtain ⟨rfl, h⟩ := intGo_false hv; rw [andNotV_eq] at h; cases h; exact ⟨_, by simp [binOp, Op.intBits]; rfl, fun ρ => by simp [VR]⟩
  case shl =>
    have h := intGo_true hv
    cases b with
    | negSucc n => cases h
    | ofNat n => rw [shlV_eq] at h; cases h; exact ⟨_, by simp [binOp, Op.shift]; rfl, fun ρ => by simp only [VR]⟩
  case shr =>
    have h := intGo_true hv
    cases b with
    | negSucc n => cases h
    | ofNat n => rw [shrV_eq] at h; cases h; exact ⟨_, by simp [binOp, Op.shift]; rfl, fun ρ => by simp only [VR]⟩
  case eql => obtain ⟨rfl, h⟩ := intGo_false hv; rw [mkBool_eq, eqI_eq] at h; cases h; exact ⟨_, by simp [binOp, Op.intCmp]; rfl, fun ρ => by simp only [VR]⟩
  case neq => obtain ⟨rfl, h⟩ := intGo_false hv; rw [mkNot_eq, eqI_eq] at h; cases h; exact ⟨_, by simp [binOp, Op.intCmp]; rfl, fun ρ => by simp only [VR]; rfl⟩
  case lss => obtain ⟨rfl, h⟩ := intGo_false hv; rw [mkBool_eq, ltI_eq] at h; cases h; exact ⟨_, by simp [binOp, Op.intCmp]; rfl, fun ρ => by simp only [VR]⟩
  case geq =>
    obtain ⟨rfl, h⟩ := intGo_false hv; rw [mkNot_eq, ltI_eq] at h; cases h
    exact ⟨.bool (decide (b ≤ a)), by simp [binOp, Op.intCmp], fun ρ => by simp only [VR]; congr 1; rw [Bool.eq_iff_iff]; simp⟩
  case gtr => obtain ⟨rfl, h⟩ := intGo_false hv; rw [mkBool_eq, ltI_eq] at h; cases h; exact ⟨_, by simp [binOp, Op.intCmp]; rfl, fun ρ => by simp only [VR]⟩
  case leq =>
    obtain ⟨rfl, h⟩ := intGo_false hv; rw [mkNot_eq, ltI_eq] at h; cases h
    exact ⟨.bool (decide (a ≤ b)), by simp [binOp, Op.intCmp], fun ρ => by simp only [VR]; congr 1; rw [Bool.eq_iff_iff]; simp⟩

end Go.Ex

/- Loads, stores and new rows: the model does what the executor does. -/
namespace Go.Ex

theorem get_ok {b : Nat} {s s' : S} {x : AB} (h : get b s = .ok x s') : b < s.next ∧ s.mem.get b = some x ∧ s'.mem = s.mem ∧ s'.next = s.next := by
  rw [get_eq] at h
  split at h
  · rename_i hb
    cases e : s.mem.get b with
    | none => rw [e] at h; cases h
    | some y =>
      rw [e] at h
      simp only [R.ok.injEq] at h
      obtain ⟨rfl, h⟩ := h
      split at h <;> subst h <;> exact ⟨hb, rfl, rfl, rfl⟩
  · cases h
theorem put_ok {b : Nat} {x : Option AB} {s s' : S} {u : Unit} (h : put b x s = .ok u s') : b < s.next ∧ s'.mem = s.mem.put b x ∧ s'.next = s.next := by
  rw [put_eq] at h
  split at h
  · rename_i hb
    simp only [R.ok.injEq] at h
    obtain ⟨_, h⟩ := h
    split at h <;> subst h <;> exact ⟨hb, rfl, rfl⟩
  · cases h
theorem new_ok {x : AB} {s s' : S} {n : Nat} (h : new x s = .ok n s') : n = s.next ∧ s'.mem = s.mem.put s.next (some x) ∧ s'.next = s.next + 1 := by
  rw [new_eq] at h
  simp only [R.ok.injEq] at h
  obtain ⟨rfl, rfl⟩ := h
  exact ⟨rfl, rfl, rfl⟩

theorem add_none (b off n : Nat) : (⟨b, off, none⟩ : Addr).add n = ⟨b, off + n, none⟩ := by
  unfold Addr.add; split
  · rename_i h; subst h; rfl
  · rfl
theorem cell_of {w : World} {blk off : Nat} {cs : Array Value} {e : TypeId} {fr : Nat × Nat} (h : w.heap[blk]? = some (.cells cs e fr)) : w.cell? ⟨blk, off, none⟩ = cs[off]? := by
  unfold World.cell?; simp only [h]; rfl

/-! ### Lists of cells -/
theorem cellsOf_ok {t : T V} : ∀ {n off : Nat} {l : List V}, cellsOf t n off = some l → l.length = n ∧ ∀ i, i < n → t.get (off + i) = l[i]? := by
  intro n
  induction n with
  | zero => intro off l h; simp only [cellsOf, Option.some.injEq] at h; subst h; exact ⟨rfl, fun i hi => by omega⟩
  | succ n ih =>
    intro off l h
    unfold cellsOf at h
    split at h
    · cases h
    · rename_i v hv
      split at h
      · cases h
      · rename_i l' hl
        cases h
        obtain ⟨h1, h2⟩ := ih hl
        refine ⟨by simp [h1], fun i hi => ?_⟩
        cases i with
        | zero => simpa using hv
        | succ i =>
          have := h2 i (by omega)
          simp only [List.getElem?_cons_succ]
          rw [← this]
          congr 1
          show off + (i + 1) = off + 1 + i
          omega

theorem layPut_eq (v : V) (off : Nat) (t : T V) : layPut v off t = some (t.put off (some v)) := by unfold layPut; rw [seqT_put]
theorem layCell_ok {ex : Bool} {v : V} {off : Nat} {t t' : T V} (h : layCell ex v off t = some t') : v.one = true ∧ t' = t.put off (some v) ∧ (ex = true → ∃ u, t.get off = some u) := by
  unfold layCell at h
  cases ho : v.one with
  | false => rw [ho] at h; cases h
  | true =>
    rw [ho] at h
    cases ex with
    | false => simp only [layPut_eq, Option.some.injEq] at h; exact ⟨rfl, h.symm, fun e => by cases e⟩
    | true =>
      simp only [] at h
      split at h
      · cases h
      · rename_i u hu
        simp only [layPut_eq, Option.some.injEq] at h
        exact ⟨rfl, h.symm, fun _ => ⟨u, hu⟩⟩
theorem layCells_ok {ex : Bool} : ∀ {l : List V} {off : Nat} {t t' : T V}, layCells ex l off t = some t' →
    (∀ v ∈ l, v.one = true) ∧ (∀ i, t'.get i = if off ≤ i ∧ i < off + l.length then l[i - off]? else t.get i) ∧ (ex = true → ∀ i, i < l.length → ∃ u, t.get (off + i) = some u) := by
  intro l
  induction l with
  | nil =>
    intro off t t' h
    simp only [layCells, Option.some.injEq] at h
    subst h
    refine ⟨by simp, fun i => ?_, fun _ i hi => by simp at hi⟩
    rw [if_neg (fun h => by simp only [List.length_nil] at h; omega)]
  | cons v l ih =>
    intro off t t' h
    unfold layCells at h
    split at h
    · cases h
    · rename_i t1 ht
      obtain ⟨h1, rfl, h3⟩ := layCell_ok ht
      obtain ⟨k1, k2, k3⟩ := ih h
      simp only [Nat.succ_eq_add_one] at k1 k2 k3
      refine ⟨fun u hu => by rcases List.mem_cons.1 hu with rfl | hu; { exact h1 }; { exact k1 u hu }, fun i => ?_, fun e i hi => ?_⟩
      · rw [k2 i, T.get_put]
        simp only [List.length_cons]
        by_cases hi : i = off
        · subst hi
          rw [if_neg (by omega), if_pos rfl, if_pos (by omega)]
          simp
        · by_cases hi2 : off + 1 ≤ i ∧ i < off + 1 + l.length
          · rw [if_pos hi2, if_pos (by omega)]
            obtain ⟨j, rfl⟩ : ∃ j, i = off + 1 + j := ⟨i - (off + 1), by omega⟩
            rw [show off + 1 + j - (off + 1) = j from by omega, show off + 1 + j - off = j + 1 from by omega]
            simp
          · rw [if_neg hi2, if_neg hi, if_neg (by omega)]
      · cases i with
        | zero => exact h3 e
        | succ i =>
          simp only [List.length_cons] at hi
          obtain ⟨u, hu⟩ := k3 e i (by omega)
          rw [T.get_put, if_neg (by omega)] at hu
          exact ⟨u, by rw [← hu]; congr 1; omega⟩

/-! ### Loads -/
variable {P : Program} {ρ : Ren} {w : World} {m : T AB}

/-- A cell that is known is there. -/
theorem MR.cell (h : MR ρ m w) {b off : Nat} {t : T V} {st : Bool} {v : V} (hb : m.get b = some (.cells t st)) (hv : t.get off = some v) {l : Loc} (hl : ρ b = some l) :
    ∃ y, w.cell? ⟨l.blk, l.off + off, none⟩ = some y ∧ VR ρ v y := by
  obtain ⟨l', hl', cs, e, fr, h1, h2, h3, h4⟩ := h.at_ b _ hb
  rw [hl] at hl'; cases hl'
  obtain ⟨y, hy, hr⟩ := h4 off v hv
  exact ⟨y, by rw [cell_of h1]; exact hy, hr⟩

theorem run_loadCells (n : Nat) : ∀ (a : Addr) (i : Nat) (acc : Array Value) (ys : List Value), ys.length = n → (∀ j, j < n → w.cell? (a.add (i + j)) = ys[j]?) →
    (loadCellsFrom a i n acc).run P w = .ok (acc ++ ys.toArray) w := by
  induction n with
  | zero => intro a i acc ys hl _; have : ys = [] := List.length_eq_zero_iff.1 hl; subst this; simp [loadCellsFrom]
  | succ n ih =>
    intro a i acc ys hl hc
    cases ys with
    | nil => simp at hl
    | cons y ys =>
      have h0 := hc 0 (by omega)
      simp at h0
      simp only [loadCellsFrom, Sem.run_bind, run_load, h0, Result.andThen_ok]
      rw [ih a (i + 1) (acc.push y) ys (by simpa using hl) (fun j hj => by
        have := hc (j + 1) (by omega)
        rw [show i + 1 + j = i + (j + 1) from by omega, this]; simp)]
      simp
/-- A row of cells that are known is read. -/
theorem MR.cells (h : MR ρ m w) {b off n : Nat} {t : T V} {st : Bool} {l : List V} (hb : m.get b = some (.cells t st)) (hc : cellsOf t n off = some l) {loc : Loc} (hl : ρ b = some loc) :
    ∃ ys, (loadCells ⟨loc.blk, loc.off + off, none⟩ n).run P w = .ok ⟨ys⟩ w ∧ VRs ρ l ys := by
  obtain ⟨h1, h2⟩ := cellsOf_ok hc
  have key : ∀ (k : Nat) (l : List V) (o : Nat), l.length = k → (∀ i, i < k → t.get (o + i) = l[i]?) →
      ∃ ys, VRs ρ l ys ∧ ∀ j, j < k → w.cell? ⟨loc.blk, loc.off + o + j, none⟩ = ys[j]? := by
    intro k
    induction k with
    | zero => intro l o hl _; have := List.length_eq_zero_iff.1 hl; subst this; exact ⟨[], by simp [VRs], fun j hj => by omega⟩
    | succ k ih =>
      intro l o hl' hg
      cases l with
      | nil => simp at hl'
      | cons v l =>
        obtain ⟨y, hy, hr⟩ := h.cell hb (v := v) (off := o) (by simpa using hg 0 (by omega)) hl
        obtain ⟨ys, hr2, hy2⟩ := ih l (o + 1) (by simpa using hl') (fun i hi => by
          have := hg (i + 1) (by omega)
          rw [show o + 1 + i = o + (i + 1) from by omega, this]; simp)
        refine ⟨y :: ys, ⟨y, ys, rfl, hr, hr2⟩, fun j hj => ?_⟩
        cases j with
        | zero => simpa using hy
        | succ j =>
          have := hy2 j (by omega)
          rw [show loc.off + o + (j + 1) = loc.off + (o + 1) + j from by omega, this]; simp
  obtain ⟨ys, hr, hy⟩ := key n l off h1 h2
  refine ⟨ys, ?_, hr⟩
  unfold loadCells
  rw [run_loadCells n _ 0 #[] ys (by rw [hr.length, h1]) (fun j hj => by rw [add_none]; simpa using hy j hj)]
  simp

/-! ### Stores -/
/-- So many values in a row's place, from a place on. -/
def layAt (cs : Array Value) (off : Nat) (ys : List Value) : Array Value := match ys with
  | [] => cs
  | y :: ys => layAt (cs.setIfInBounds off y) (off + 1) ys
theorem layAt_size : ∀ (ys : List Value) (cs : Array Value) (off : Nat), (layAt cs off ys).size = cs.size := by
  intro ys
  induction ys with
  | nil => intro cs off; rfl
  | cons y ys ih => intro cs off; simp [layAt, ih]
theorem layAt_get : ∀ (ys : List Value) (cs : Array Value) (off i : Nat), off + ys.length ≤ cs.size →
    (layAt cs off ys)[i]? = if off ≤ i ∧ i < off + ys.length then ys[i - off]? else cs[i]? := by
  intro ys
  induction ys with
  | nil => intro cs off i _; rw [if_neg (fun h => by simp only [List.length_nil] at h; omega)]; rfl
  | cons y ys ih =>
    intro cs off i h
    simp only [List.length_cons] at h ⊢
    simp only [layAt]
    rw [ih _ _ _ (by simp; omega)]
    by_cases hi : i = off
    · subst hi
      rw [if_neg (by omega), if_pos (by omega)]
      simp [show i < cs.size from by omega]
    · by_cases hi2 : off + 1 ≤ i ∧ i < off + 1 + ys.length
      · rw [if_pos hi2, if_pos (by omega)]
        obtain ⟨j, rfl⟩ : ∃ j, i = off + 1 + j := ⟨i - (off + 1), by omega⟩
        rw [show off + 1 + j - (off + 1) = j from by omega, show off + 1 + j - off = j + 1 from by omega]
        simp
      · rw [if_neg hi2, if_neg (by omega), Array.getElem?_setIfInBounds_ne (by omega)]

theorem run_storeCells (e : TypeId) (fr : Nat × Nat) : ∀ (ys : List Value) (w : World) (blk off i : Nat) (cs : Array Value),
    w.heap[blk]? = some (.cells cs e fr) → off + i + ys.length ≤ cs.size → (∀ y ∈ ys, y.oneCell' = true) → (∀ j, j < cs.size → ¬ (fr.1 ≤ j ∧ j < fr.2)) →
    ∃ w', (storeCells ⟨blk, off, none⟩ ys i).run P w = .ok () w' ∧ w'.heap[blk]? = some (.cells (layAt cs (off + i) ys) e fr) ∧
      (∀ j, j ≠ blk → w'.heap[j]? = w.heap[j]?) ∧ w'.heap.size = w.heap.size ∧ Env w w' := by
  intro ys
  induction ys with
  | nil => intro w blk off i cs h _ _ _; exact ⟨w, rfl, h, fun _ _ => rfl, rfl, Env.rfl⟩
  | cons y ys ih =>
    intro w blk off i cs h hs ho hf
    simp only [List.length_cons] at hs
    have hy : y.oneCell' = true := ho y (by simp)
    have hcell : w.cell? ⟨blk, off + i, none⟩ = some (cs[off + i]'(by omega)) := by rw [cell_of h, Array.getElem?_eq_getElem]
    have hfz : w.frozen? ⟨blk, off + i, none⟩ = false := by
      unfold World.frozen?
      simp only [h]
      have := hf (off + i) (by omega)
      rw [← Bool.not_eq_true]
      simpa using this
    have hst : (Go.store ⟨blk, off + i, none⟩ y).run P w = .ok () (w.setCell ⟨blk, off + i, none⟩ y) := by
      rw [run_store _ _ _ _ _ hy, hcell]
      simp only [hfz, Bool.false_eq_true, if_false]
    have hblk : blk < w.heap.size := (Array.getElem?_eq_some_iff.1 h).1
    have h1 : (w.setCell ⟨blk, off + i, none⟩ y).heap[blk]? = some (.cells (cs.setIfInBounds (off + i) y) e fr) := by
      unfold World.setCell
      simp only [Array.getElem?_modify, h]
      simp
    have h2 : ∀ j, j ≠ blk → (w.setCell ⟨blk, off + i, none⟩ y).heap[j]? = w.heap[j]? := fun j hj => by
      unfold World.setCell
      simp only [Array.getElem?_modify]
      rw [if_neg (fun e => hj e.symm)]
    have h3 : (w.setCell ⟨blk, off + i, none⟩ y).heap.size = w.heap.size := by unfold World.setCell; simp
    obtain ⟨w', k1, k2, k3, k4⟩ := ih (w.setCell ⟨blk, off + i, none⟩ y) blk off (i + 1) (cs.setIfInBounds (off + i) y) h1 (by simp; omega) (fun z hz => ho z (by simp [hz])) (by simpa using hf)
    refine ⟨w', ?_, ?_, fun j hj => (k3 j hj).trans (h2 j hj), k4.1.trans h3, Env.trans ⟨rfl, rfl, rfl⟩ k4.2⟩
    · simp only [storeCells, Sem.run_bind, add_none, hst, Result.andThen_ok, k1]
    · rw [k2]; simp only [layAt]; rw [show off + (i + 1) = off + i + 1 from by omega]

theorem VRs.one {ρ : Ren} : ∀ {l : List V} {ys : List Value}, VRs ρ l ys → (∀ v ∈ l, v.one = true) → ∀ y ∈ ys, y.oneCell' = true
  | [], _, h, _ => by simp only [VRs] at h; subst h; simp
  | v :: l, _, h, ho => by
    simp only [VRs] at h
    obtain ⟨y, ys, rfl, h1, h2⟩ := h
    intro z hz
    rcases List.mem_cons.1 hz with rfl | hz
    · exact h1.oneCell (ho v (by simp))
    · exact h2.one (fun u hu => ho u (by simp [hu])) z hz

/-- A row of values is stored into cells that are known, or lie behind them where there is room. -/
theorem MR.stored (h : MR ρ m w) {b off : Nat} {t t' : T V} {st ex : Bool} {l : List V} {ys : List Value} (hb : m.get b = some (.cells t st)) (hl : layCells ex l off t = some t') (hr : VRs ρ l ys)
    {loc : Loc} (hloc : ρ b = some loc) (hroom : ex = false → loc.off + off + l.length ≤ loc.size) :
    ∃ w', (storeCells ⟨loc.blk, loc.off + off, none⟩ ys).run P w = .ok () w' ∧ MR ρ (m.put b (some (.cells t' st))) w' ∧
      ∀ j, j ≠ loc.blk → w'.heap[j]? = w.heap[j]? := by
  obtain ⟨loc', hl', cs, e, fr, h1, h2, h3, h4⟩ := h.at_ b _ hb
  rw [hloc] at hl'; cases hl'
  obtain ⟨k1, k2, k3⟩ := layCells_ok hl
  have hlen := hr.length
  have hfr : ∀ j, j < cs.size → ¬ (fr.1 ≤ j ∧ j < fr.2) := fun j hj => by
    rcases h3.1 with h3 | ⟨_, h3⟩ <;> omega
  -- what is said of the block, of whatever cells it holds then
  have said : ∀ (w' : World) (cs' : Array Value), Env w w' → w'.heap[loc.blk]? = some (.cells cs' e fr) → cs'.size = cs.size →
      (∀ i, cs'[i]? = if loc.off + off ≤ i ∧ i < loc.off + off + ys.length then ys[i - (loc.off + off)]? else cs[i]?) → BR ρ loc w' (.cells t' st) := fun w' cs' e0 e1 e2 e3 =>
    ⟨cs', e, fr, e1, e2.trans h2, ⟨h3.1, h3.2.env e0⟩, fun i v hv => by
      rw [k2 i] at hv
      rw [e3, hlen]
      by_cases hi : off ≤ i ∧ i < off + l.length
      · rw [if_pos hi] at hv
        rw [if_pos (by omega), show loc.off + i - (loc.off + off) = i - off from by omega]
        exact hr.get hv
      · rw [if_neg hi] at hv
        rw [if_neg (by omega)]
        exact h4 i v hv⟩
  cases hy : ys with
  | nil =>
    subst hy
    refine ⟨w, rfl, h.write hb hloc (fun _ _ _ => rfl) (said w cs Env.rfl h1 rfl fun i => ?_), fun _ _ => rfl⟩
    rw [if_neg (fun h => by simp only [List.length_nil] at h; omega)]
  | cons y0 ys0 =>
    rw [← hy]
    have hroom' : loc.off + off + ys.length ≤ cs.size := by
      cases ex with
      | false => rw [hlen, h2]; exact hroom rfl
      | true =>
        have hpos : 0 < l.length := by rw [← hlen, hy]; simp
        obtain ⟨u, hu⟩ := k3 rfl (l.length - 1) (by omega)
        obtain ⟨y, hy, _⟩ := h4 _ _ hu
        have := (Array.getElem?_eq_some_iff.1 hy).1
        omega
    obtain ⟨w', r1, r2, r3, r4⟩ := run_storeCells (P := P) e fr ys w loc.blk (loc.off + off) 0 cs h1 (by omega) (hr.one k1) hfr
    refine ⟨w', r1, h.write hb hloc (fun j hj _ => r3 j hj) (said w' _ r4.2 r2 (layAt_size _ _ _) fun i => ?_) r4.2, r3⟩
    rw [Nat.add_zero, layAt_get _ _ _ _ (by omega)]

/-- A new row of cells. -/
theorem MR.made (st : Bool) (h : MR ρ m w) {n room : Nat} {t : T V} {l : List V} {ys rest : List Value} (e : TypeId) (hn : ρ n = none) (hl : layCells false l 0 .lf = some t) (hr : VRs ρ l ys)
    (hsz : room = ys.length + rest.length) :
    ∃ w', (newRow e (ys ++ rest).toArray).run P w = .ok ⟨w.heap.size, 0, none⟩ w' ∧ MR (ρ.with n ⟨w.heap.size, 0, room, none⟩) (m.put n (some (.cells t st))) w' ∧
      Ext ρ (ρ.with n ⟨w.heap.size, 0, room, none⟩) n (n + 1) := by
  obtain ⟨k1, k2, k3⟩ := layCells_ok hl
  refine ⟨{ w with heap := w.heap.push (.cells (ys ++ rest).toArray e) }, by simp [newRow], ?_, Ren.with_ext _ hn⟩
  refine h.grow hn (fun c x k hc hk => ?_) (fun j hj hlt => ?_) ?_
  · obtain ⟨k', hk', hb⟩ := h.at_ c x hc
    rw [hk] at hk'; cases hk'
    have := hb.lt
    simp only []; omega
  · simp only []; rw [Array.getElem?_push_lt hlt]; exact (Array.getElem?_eq_getElem hlt).symm
  · refine ⟨(ys ++ rest).toArray, e, (0, 0), by simp, by simp [hsz], ⟨.inl rfl, keptOK.none rfl⟩, fun i v hv => ?_⟩
    rw [k2 i, T.get_lf] at hv
    split at hv
    · rename_i hi
      simp only [Nat.sub_zero] at hv
      obtain ⟨y, hy, hvr⟩ := hr.get hv
      have hlt : i < ys.length := (List.getElem?_eq_some_iff.1 hy).1
      exact ⟨y, by simpa [List.getElem?_append_left hlt] using hy, VR.mono (Ren.with_le _ hn) _ _ hvr⟩
    · cases hv

end Go.Ex
