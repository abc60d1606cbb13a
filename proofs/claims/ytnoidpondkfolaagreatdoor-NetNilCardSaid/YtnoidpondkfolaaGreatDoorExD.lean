/- New rows and maps, conversions: the model does what the executor does. -/
import Derived.Test.YtnoidpondkfolaaGreatDoorExC
import Derived.MapKept
import Derived.Laws.Append
namespace Go.Ex
variable {P : Program} {ρ : Ren} {w : World} {a : T V} {act : Act} {o : Oper} {s s' : S}

/-! ### Rows -/
theorem zrow_ok {z : V} {zv : Value} (hz : VR ρ z zv) {n : Nat} (hn : z.cells.length = n) (len : Nat) : VRs ρ (repl len z.cells) ((Array.range (len * n)).map fun i => zv.cells[i % zv.cells.size]!).toList := by
  have h := hz.cells
  have hl := h.length
  simp only [Array.length_toList] at hl
  rw [← hn, ← hl, zeros_eq]
  exact repl_ok h len
theorem range0 {β : Type} (f : Nat → β) : (Array.range 0).map f = #[] := by simp
theorem buildSlice_ok {t : TypeId} {n : Nat} {ps : Array (Nat × Operand)} {x : Nx} (ho : o.op = .buildSlice t n ps) (h : TR ρ a act.tmps) (g : GOK ρ) (hm : MR ρ s.mem w) (hf : Fresh ρ s.next s'.next)
    (hx : opBuildSlice P t n ps.toList a s = .ok x s') : Ef P ρ w act o s s' x := by
  unfold opBuildSlice at hx
  obtain ⟨v, h1, rfl⟩ := Rval_ok hx
  unfold buildSliceOp at h1
  split at h1
  · rename_i e qs ht hq
    unfold rowOp at h1
    split at h1
    · rename_i k z hk hz
      split at h1
      · rename_i l e1 e2 hl
        have e1 := Nat.le_of_ble_eq_true e1
        have e2 := Nat.eq_of_beq_eq_true e2
        obtain ⟨b, s1, h2, h3⟩ := R.bind_eq_ok h1
        cases h3
        obtain ⟨zv, hz1, hz2⟩ := run_zeroValue (P := P) (ρ := ρ) (w := w) hz
        have hpr := evParts_ok h g hq
        obtain ⟨zs, hfl, hr⟩ := fill_ok (place' := fun i => some (i * k, k)) (fun _ _ e => e) hl hpr (zrow_ok hz2 e2 n)
        obtain ⟨ρ', w', loc, r1, r2, r3, _, r4, r5⟩ := newCells_run (P := P) h2 hm hf hr e
        refine Ef.of_val (g := Instr.buildSlice t n (ps.map fun (i, x) => (i, act.eval x))) ⟨ρ', w', .slice (some ⟨loc.blk, loc.off, none⟩) n n, ?_, ⟨loc, r2, by simp⟩, r4, r5⟩ (by simp [execOp, ho])
        simp only [Array.toArray_toList] at r1
        have e1' : ¬ (2 ^ 24 < n * k) := by show ¬ (16777216 < n * k); exact Nat.not_lt.2 e1
        by_cases h0 : n * k = 0
        · have hfl' : Instr.fill (fun i => some (i * k, k)) #[] (ps.toList.map fun p => (p.1, act.eval p.2)) = some zs := by
            rw [← hfl, h0, range0]
          simp [Instr.buildSlice, underlying, ht, run_sizeOf hk, h0, range0, hfl', r1]
        · simp [Instr.buildSlice, underlying, ht, run_sizeOf hk, h0, e1', hz1, hfl, r1]
      · cases h1
    · cases h1
  · cases h1
theorem makeSlice_ok {t : TypeId} {y z : Operand} {x : Nx} (ho : o.op = .makeSlice t y z) (h : TR ρ a act.tmps) (g : GOK ρ) (hm : MR ρ s.mem w) (hf : Fresh ρ s.next s'.next)
    (hx : opMake P t (evl y) (evl z) a s = .ok x s') : Ef P ρ w act o s s' x := by
  unfold opMake at hx
  obtain ⟨v, h1, rfl⟩ := Rval_ok hx
  unfold makeSliceOp at h1
  split at h1
  · rename_i e k1 n k2 m ht hy hz
    have ey := (evl_ok h g hy).int_inv
    have ez := (evl_ok h g hz).int_inv
    unfold makeRow at h1
    split at h1
    · rename_i zr sz by8 hzr hsz hby
      split at h1
      · rename_i e1 e2 e3
        have e1 := Nat.le_of_ble_eq_true e1
        have e2 : m * (by8 + 1) ≤ 1073741824 := Nat.le_of_ble_eq_true e2
        have e3 := Nat.eq_of_beq_eq_true e3
        obtain ⟨b, s1, h2, h3⟩ := R.bind_eq_ok h1
        cases h3
        obtain ⟨zv, hz1, hz2⟩ := run_zeroValue (P := P) (ρ := ρ) (w := w) hzr
        obtain ⟨ρ', w', loc, r1, r2, r3, _, r4, r5⟩ := newCells_run (P := P) h2 hm hf (zrow_ok hz2 e3 m) e
        refine Ef.of_val (g := Instr.makeSlice t (act.eval y) (act.eval z)) ⟨ρ', w', .slice (some ⟨loc.blk, loc.off, none⟩) n m, ?_, ⟨loc, r2, by simp⟩, r4, r5⟩ (by simp [execOp, ho])
        simp only [Array.toArray_toList] at r1
        obtain ⟨i, hi, hib⟩ : ∃ i, P.info? e = some i ∧ i.bytes = by8 := by
          unfold byOf at hby; split at hby
          · rename_i i hi; cases hby; exact ⟨i, hi, rfl⟩
          · cases hby
        have hmb : m * by8 ≤ 1073741824 := Nat.le_trans (Nat.mul_le_mul_left m (Nat.le_succ by8)) e2
        have hml : m ≤ 1073741824 := Nat.le_trans (Nat.le_mul_of_pos_right m (Nat.succ_pos by8)) e2
        have w1 : IntKind.i64.wrap (n : Int) = n := wrap_small .i64 n (by show n ≤ 9223372036854775807; omega)
        have w2 : IntKind.i64.wrap (m : Int) = m := wrap_small .i64 m (by show m ≤ 9223372036854775807; omega)
        have c1 : ¬ ((281474976710656 : Int) < (by8 : Int) * (m : Int)) := by
          have : (by8 : Int) * (m : Int) = ((m * by8 : Nat) : Int) := by rw [Nat.mul_comm]; simp
          rw [this]
          omega
        have c2 : ¬ ((m : Int) < (n : Int)) := by omega
        have c3 : ¬ ((m : Int) < 0) := by omega
        have c4 : ¬ ((n : Int) < 0) := by omega
        have hT : typeInfo e = (typeInfo e) := rfl
        by_cases h0 : m * sz = 0
        · have r1' : (newRow e #[]).run P w = .ok ⟨loc.blk, loc.off, none⟩ w' := by rw [← r1, h0, range0]
          simp [Instr.makeSlice, underlying, ht, ey, ez, asInt, asIntOf, typeInfo, hi, hib, w1, w2, c1, c2, c3, c4, run_sizeOf hsz, h0, range0, r1']
        · simp [Instr.makeSlice, underlying, ht, ey, ez, asInt, asIntOf, typeInfo, hi, hib, w1, w2, c1, c2, c3, c4, run_sizeOf hsz, h0, hz1, r1]
      · cases h1
    · cases h1
  · cases h1

/-! ### Maps -/
theorem newMap_ok {v : V} (h : newMap s = .ok v s') (hm : MR ρ s.mem w) (hf : Fresh ρ s.next s'.next) :
    ∃ ρ' w' r, (newObj (.map #[] 0)).run P w = .ok r w' ∧ VR ρ' v (.map (some r)) ∧ MR ρ' s'.mem w' ∧ Ext ρ ρ' s.next s'.next := by
  unfold newMap at h
  obtain ⟨b, s1, h1, h2⟩ := R.bind_eq_ok h
  cases h2
  obtain ⟨rfl, k2, k3⟩ := new_ok h1
  have hn := hf s.next (Nat.le_refl _) (by omega)
  refine ⟨ρ.with s.next ⟨w.heap.size, 0, 0, none⟩, _, _, rfl, ⟨_, Ren.with_at _ _ _, rfl⟩, ?_, by rw [k3]; exact Ren.with_ext _ hn⟩
  rw [k2]
  refine hm.grow hn (fun c x k hc hk => ?_) (fun j hj hlt => ?_) ?_
  · obtain ⟨k', hk', hb⟩ := hm.at_ c x hc
    rw [hk] at hk'; cases hk'
    have := hb.lt
    simp only []; omega
  · simp only []; rw [Array.getElem?_push_lt hlt]; exact (Array.getElem?_eq_getElem hlt).symm
  · exact ⟨[], by simp, rfl⟩
theorem makeMap_ok {t : TypeId} {y : Option Operand} {x : Nx} (ho : o.op = .makeMap t y) (h : TR ρ a act.tmps) (g : GOK ρ) (hm : MR ρ s.mem w) (hf : Fresh ρ s.next s'.next)
    (hx : opMap P t y a s = .ok x s') : Ef P ρ w act o s s' x := by
  unfold opMap at hx
  obtain ⟨v, h1, rfl⟩ := Rval_ok hx
  unfold makeMapOp at h1
  split at h1
  · rename_i hy
    have hr := evO_or h g hy
    obtain ⟨ρ', w', r, r1, r2, r3, r4⟩ := newMap_ok (P := P) h1 hm hf
    have e : y.map act.eval = none := by
      cases y with
      | none => rfl
      | some y => exact hr.elim
    refine Ef.of_val (g := Instr.makeMap t (y.map act.eval)) ⟨ρ', w', _, ?_, r2, r3, r4⟩ (by simp [execOp, ho])
    rw [e]
    simp [Instr.makeMap, -run_newObj, r1]
  · rename_i k n hy
    split at h1
    · rename_i kt et ht
      have hr := evO_or h g hy
      obtain ⟨ρ', w', r, r1, r2, r3, r4⟩ := newMap_ok (P := P) h1 hm hf
      obtain ⟨u, e, hu⟩ : ∃ u, y.map act.eval = some u ∧ VR ρ (.int k n) u := by
        cases y with
        | none => exact hr.elim
        | some y => exact ⟨_, rfl, hr⟩
      have hu := hu.int_inv
      subst hu
      refine Ef.of_val (g := Instr.makeMap t (y.map act.eval)) ⟨ρ', w', _, ?_, r2, r3, r4⟩ (by simp [execOp, ho])
      rw [e]
      simp [Instr.makeMap, underlying, ht, asInt, asIntOf, -run_newObj, r1]
    · cases h1
  · cases h1

/-! ### Conversions -/
def byteStep (c : Value) (s : ByteArray) : Sem (ForInStep ByteArray) := match c with
  | .int .u8 n => pure (ForInStep.yield (s.push (UInt8.ofNat n.toNat)))
  | _ => do
    stuck "bytesToString: byte expected"
    pure (ForInStep.yield s)
theorem byteList_ok : ∀ {l : List V} {r : List Nat} {ys : List Value} (acc : ByteArray), byteList l = some r → VRs ρ l ys →
    ∃ t : ByteArray, (forIn (m := Sem) ys acc byteStep).run P w = .ok t w ∧ t.data.toList.map UInt8.toNat = acc.data.toList.map UInt8.toNat ++ r := by
  intro l
  induction l with
  | nil =>
    intro r ys acc h hr
    cases h
    simp only [VRs] at hr
    subst hr
    exact ⟨acc, by simp [byteStep], by simp⟩
  | cons v l ih =>
    intro r ys acc h hr
    simp only [VRs] at hr
    obtain ⟨y, ys, rfl, h1, h2⟩ := hr
    unfold byteList at h
    split at h
    · rename_i e; cases e
    · rename_i m l' e
      cases e
      split at h
      · rename_i r' hm hr'
        cases h
        have hm := Nat.le_of_ble_eq_true hm
        have e := h1.int_inv
        subst e
        obtain ⟨t, k1, k2⟩ := ih (acc.push (UInt8.ofNat m)) hr' h2
        refine ⟨t, by simpa [byteStep] using k1, ?_⟩
        rw [k2]
        have : m % 256 = m := Nat.mod_eq_of_lt (by omega)
        simp [ByteArray.push, this]
      · cases h
    · cases h

/-- The first cells of a slice. -/
theorem VR.nilsl_inv {u : Value} (h : VR ρ .nilsl u) : u = .slice none 0 0 := by simpa [VR] using h
/-- A slice's address, where it has an element at least, or its room is known. -/
theorem VR.sl_addr {b off len : Nat} {c : Cap} {u : Value} (h : VR ρ (.sl b off len c) u) : (∃ l c', ρ b = some l ∧ u = .slice (some ⟨l.blk, l.off + off, none⟩) len c') ∨ (len = 0 ∧ surely len c = false ∧ ∃ a0, u = .slice (some a0) 0 0) := by
  cases c with
  | is c => simp only [VR] at h; obtain ⟨l, hl, e⟩ := h; exact .inl ⟨_, _, hl, e⟩
  | of z =>
    simp only [VR] at h
    obtain ⟨l, hl, ⟨c, e, _⟩ | ⟨e0, a0, e⟩⟩ := h
    · exact .inl ⟨_, _, hl, e⟩
    · exact .inr ⟨e0, by subst e0; rfl, a0, e⟩
theorem run_load0 (a : Addr) : (loadCells a 0).run P w = .ok #[] w := rfl
theorem firstCells_sl {z n b off len : Nat} {c : Cap} {l : List V} (h : firstCells z n (.sl b off len c) s = .ok l s') (hn : n ≤ len) (hm : MR ρ s.mem w) {u : Value} (hu : VR ρ (.sl b off len c) u) :
    ∃ a0 c' ys, u = .slice (some a0) len c' ∧ (loadCells a0 (n * z)).run P w = .ok ⟨ys⟩ w ∧ VRs ρ l ys ∧ s'.mem = s.mem ∧ s'.next = s.next := by
  unfold firstCells at h
  simp only at h
  split at h
  · rename_i e
    cases h
    obtain ⟨a0, c', rfl⟩ := hu.sl_inv
    have e : n * z = 0 := e
    exact ⟨a0, c', [], rfl, by rw [e]; rfl, rfl, rfl, rfl⟩
  · rename_i m e
    have e : n * z = m + 1 := e
    obtain ⟨t, st, h1, h2, h3, h4⟩ := getCells_ok h
    rcases hu.sl_addr with ⟨loc, c', hl, rfl⟩ | ⟨e0, _, _⟩
    · obtain ⟨ys, hy, hr⟩ := hm.cells (P := P) h1 h2 hl
      exact ⟨_, _, ys, rfl, by rw [e]; exact hy, hr, h3, h4⟩
    · subst e0
      have : n = 0 := by omega
      subst this
      simp at e
theorem toStr_ok {e : TypeId} {x v : V} {u : Value} (h : toStr P e x s = .ok v s') (hm : MR ρ s.mem w) (hu : VR ρ x u) (hx : (∃ b off n c, x = .sl b off n c) ∨ x = .nilsl) :
    P.underlying e = some (.int .u8) ∧ ∃ y, (Conv.bytesToString u).run P w = .ok y w ∧ VR ρ v y ∧ s'.mem = s.mem := by
  unfold toStr at h
  split at h
  · rename_i he
    refine ⟨he, ?_⟩
    split at h
    · rename_i n hn
      obtain ⟨l, s1, h1, h2⟩ := R.bind_eq_ok h
      unfold strOf at h2
      split at h2
      · rename_i r hr
        cases h2
        rcases hx with ⟨b, off, k, c, rfl⟩ | rfl
        · cases hn
          obtain ⟨a0, c', ys, rfl, k1, k2, k3, k4⟩ := firstCells_sl (P := P) h1 (Nat.le_refl _) hm hu
          obtain ⟨t, q1, q2⟩ := byteList_ok (P := P) (w := w) ByteArray.empty hr k2
          refine ⟨.string t, ?_, ⟨t, rfl, by simpa using q2.symm⟩, k3⟩
          rw [Nat.mul_one] at k1
          simp only [Conv.bytesToString, Sem.run_bind, k1, Result.andThen_ok]
          have q1' : (forIn (m := Sem) (⟨ys⟩ : Array Value) ByteArray.empty byteStep).run P w = .ok t w := by
            rw [← Array.forIn_toList]; exact q1
          show ((forIn (m := Sem) (⟨ys⟩ : Array Value) ByteArray.empty byteStep).run P w).andThen _ = _
          rw [q1']
          rfl
        · cases hn
          cases h1
          cases hr
          have e := hu.nilsl_inv
          subst e
          exact ⟨.string .empty, by simp [Conv.bytesToString], ⟨.empty, rfl, by simp⟩, rfl⟩
      · cases h2
    · cases h
  · cases h
theorem mark_ok {b n off : Nat} {c : Cap} {v : V} {u : Value} {s1 : S} {x : AB} (h : markIn b v x s1 = .ok v s') (hx : s.mem.get b = some x) (h1 : s1.mem = s.mem) (h2 : s1.next = s.next) (hm : MR ρ s.mem w) (hu : VR ρ (.sl b off n c) u) (hc : surely n c = true) :
    ∃ a0 n0 c0 w', u = .slice (some a0) n0 c0 ∧ (markStringish a0).run P w = .ok () w' ∧ MR ρ s'.mem w' ∧ s'.next = s.next := by
  unfold markIn at h
  split at h
  · rename_i t st
    obtain ⟨⟨⟩, s2, h3, h4⟩ := R.bind_eq_ok h
    cases h4
    obtain ⟨_, k1, k2⟩ := put_ok h3
    rcases hu.sl_addr with ⟨loc, c', hl, rfl⟩ | ⟨_, e0, _⟩
    · obtain ⟨loc', hl', cs, e, fr, q1, q2, q3, q4⟩ := hm.at_ b _ hx
      rw [hl] at hl'; cases hl'
      have hlt : loc.blk < w.heap.size := (Array.getElem?_eq_some_iff.1 q1).1
      refine ⟨_, _, _, w.freeze ⟨loc.blk, cs.size, none⟩ 1, rfl, by simp [markStringish, World.shape?, q1], ?_, by rw [k2, h2]⟩
      rw [k1, h1]
      have hv : Env w (w.freeze ⟨loc.blk, cs.size, none⟩ 1) := ⟨by simp [World.freeze], by simp [World.freeze], by simp [World.freeze]⟩
      refine hm.write hx hl (fun j hj _ => ?_) ?_ hv
      · simp [World.freeze, Array.getElem?_modify, Ne.symm hj]
      · refine ⟨cs, e, (if fr.1 == fr.2 then (cs.size, cs.size + 1) else (min fr.1 cs.size, max fr.2 (cs.size + 1))), ?_, q2, ⟨?_, fun q hq => ⟨((q3.2.env hv) q hq).1, fun h => by cases h⟩⟩, q4⟩
        · simp [World.freeze, Array.getElem?_modify, q1]
        · refine .inr ⟨rfl, ?_⟩
          rw [← q2]
          split
          · exact Nat.le_refl _
          · rename_i hne
            have hne : ¬ fr.1 = fr.2 := by simpa using hne
            rcases q3.1 with q3 | ⟨_, q3⟩
            · exact absurd q3 hne
            · simp only []; omega
    · rw [hc] at e0; cases e0
  · cases h
theorem convert_ok {t u : TypeId} {y : Operand} {x : Nx} (ho : o.op = .convert t u y) (h : TR ρ a act.tmps) (g : GOK ρ) (hm : MR ρ s.mem w) (hx : opConv P t u (evl y) a s = .ok x s') : Ef P ρ w act o s s' x := by
  unfold opConv at hx
  obtain ⟨v, h1, rfl⟩ := Rval_ok hx
  unfold convertOp at h1
  split at h1
  · rename_i d k j n ht hu hy
    have e := (evl_ok h g hy).int_inv
    rw [mkInt_eq, wrapK_eq] at h1
    cases h1
    refine Ef.of_val (g := convert t u (act.eval y)) (EfV.same (u := .int k (k.wrap n)) ?_ (by simp [VR]) hm rfl) (by simp [execOp, ho])
    cases d <;> simp [convert, underlying, ht, hu, e, Conv.intToInt]
  · rename_i e ht hu hy
    obtain ⟨he, y', k1, k2, k3⟩ := toStr_ok (P := P) h1 hm (evl_ok h g hy) (.inr rfl)
    have ey := (evl_ok h g hy).nilsl_inv
    rw [ey] at k1
    refine Ef.of_val (g := convert t u (act.eval y)) (EfV.same (u := y') ?_ k2 hm k3) (by simp [execOp, ho])
    simp [convert, underlying, ht, hu, he, ey, k1]
  · rename_i e b off n c ht hu hy
    obtain ⟨he, y', k1, k2, k3⟩ := toStr_ok (P := P) h1 hm (evl_ok h g hy) (.inl ⟨_, _, _, _, rfl⟩)
    obtain ⟨a0, c', ey⟩ := (evl_ok h g hy).sl_inv
    rw [ey] at k1
    refine Ef.of_val (g := convert t u (act.eval y)) (EfV.same (u := y') ?_ k2 hm k3) (by simp [execOp, ho])
    simp [convert, underlying, ht, hu, he, ey, k1]
  · rename_i e e' b off n c ht hu hy
    unfold convSl at h1
    split at h1
    · rename_i e1 e2 e3
      have e1 := Nat.eq_of_beq_eq_true e1
      subst e1
      obtain ⟨x, s1, h2, h3⟩ := R.bind_eq_ok h1
      obtain ⟨_, k1, k2, k3⟩ := get_ok h2
      have ev : v = .sl b off n c := by
        unfold markIn at h3
        split at h3
        · obtain ⟨_, s2, _, h4⟩ := R.bind_eq_ok h3; cases h4; rfl
        · cases h3
      subst ev
      obtain ⟨a0, n0, c0, w', ey, q1, q2, q3⟩ := mark_ok (P := P) h3 k1 k2 k3 hm (evl_ok h g hy) e3
      have hr := evl_ok h g hy
      refine Ef.of_val (g := convert t t (act.eval y)) ⟨ρ, w', act.eval y, ?_, hr, q2, by rw [q3]; exact Ext.refl _ _ _⟩ (by simp [execOp, ho])
      rw [ey]
      have ee := ht.symm.trans hu
      cases ee
      simp [convert, underlying, ht, e2, q1]
    · cases h1
  · cases h1

end Go.Ex

/- Maps: the model does what the executor does. -/
namespace Go.Ex
open Go.MapKept
variable {P : Program} {ρ : Ren} {w : World} {a : T V} {act : Act} {o : Oper} {s s' : S}

theorem plainKey_ok {kt : TypeId} {k : V} (h : plainKey P kt k = true) : (∃ kk j n, P.underlying kt = some (.int kk) ∧ k = .int j n) ∨ (∃ t, P.underlying kt = some .string ∧ k = .str t) := by
  unfold plainKey at h
  split at h
  · rename_i h1; exact .inl ⟨_, _, _, h1, rfl⟩
  · rename_i h1; exact .inr ⟨_, h1, rfl⟩
  · cases h
theorem run_checkKey' {kt : TypeId} {k : V} {kv : Value} (h : plainKey P kt k = true) (hk : VR ρ k kv) (e : Bool) : (Instr.checkKey e 10000 kt kv).run P w = .ok () w := by
  rcases plainKey_ok h with ⟨kk, j, n, h1, rfl⟩ | ⟨t, h1, rfl⟩
  · have := hk.int_inv
    subst this
    show (Instr.checkKey e (9999 + 1) kt (.int j n)).run P w = _
    unfold Instr.checkKey
    simp only [Sem.run_bind, run_underlying h1, Result.andThen]
    rfl
  · simp only [VR] at hk
    obtain ⟨u, rfl, _⟩ := hk
    show (Instr.checkKey e (9999 + 1) kt (.string u)).run P w = _
    unfold Instr.checkKey
    simp only [Sem.run_bind, run_underlying h1, Result.andThen]
    rfl
/-- Two keys held against each other. -/
theorem keyEq_ok {kt : TypeId} {d : TypeDesc} {k q : V} {kv qv : Value} {r : Bool} (hd : P.underlying kt = some d) (h : plainKey P kt k = true) (hk : VR ρ k kv) (hq : VR ρ q qv) (he : keyEq k q = some r) :
    Instr.sameNow d kv qv = some r ∧ (r = true → ∀ m, Instr.sameBits m qv kv = true) := by
  rcases plainKey_ok h with ⟨kk, j, n, h1, rfl⟩ | ⟨t, h1, rfl⟩
  · rw [hd] at h1
    cases h1
    have e := hk.int_inv
    subst e
    unfold keyEq at he
    split at he
    · rename_i j1 n1 j2 n2 e1
      cases e1
      have e := hq.int_inv
      subst e
      split at he
      · rename_i ej
        rw [kindEq_eq] at ej
        have ej := of_decide_eq_true ej
        subst ej
        cases he
        rw [eqI_eq]
        refine ⟨by simp [Instr.sameNow], fun e m => ?_⟩
        have e := eq_of_beq e
        subst e
        cases m <;> simp [Instr.sameBits]
      · cases he
    · rename_i e1; cases e1
    · cases he
  · rw [hd] at h1
    cases h1
    simp only [VR] at hk
    obtain ⟨u, rfl, rfl⟩ := hk
    unfold keyEq at he
    split at he
    · rename_i e1; cases e1
    · rename_i a1 b1 e1
      cases e1
      cases he
      simp only [VR] at hq
      obtain ⟨u2, rfl, rfl⟩ := hq
      rw [eqNats_ok]
      have key : (u == u2) = (u.data.toList == u2.data.toList) := by
        rw [Bool.eq_iff_iff]
        constructor
        · intro e
          have e : u = u2 := (bytes_beq _ _).1 e
          subst e; simp
        · intro e
          have e := eq_of_beq e
          exact (bytes_beq _ _).2 (by cases u; cases u2; simp only [ByteArray.mk.injEq]; exact Array.ext' e)
      refine ⟨by simp only [Instr.sameNow, key], fun e m => ?_⟩
      rw [← key] at e
      have e : u = u2 := (bytes_beq _ _).1 e
      subst e
      cases m <;> simp [Instr.sameBits, bytes_beq]
    · cases he
/-- What a look for a key among the entries has found. -/
theorem find_ok {kt : TypeId} {d : TypeDesc} {k : V} {kv : Value} (hd : P.underlying kt = some d) (h : plainKey P kt k = true) (hk : VR ρ k kv) : ∀ {es : List (V × V × Nat)} {es' : List MapEntry} {r : Option (V × Nat)} (i : Nat),
    ERs ρ es es' → findKey k es = some r → match r with
      | none => Instr.findNow d kv es' i = some none
      | some (v, n) => ∃ pre e post, es' = pre ++ e :: post ∧ Instr.findNow d kv es' i = some (some (i + pre.length, e.val)) ∧ VR ρ v e.val ∧ n = e.born ∧ (∀ m, Instr.sameBits m e.key kv = true) ∧
          (∀ x xv, VR ρ x xv → ERs ρ (setKey k x es) (pre ++ { e with key := kv, val := xv } :: post)) ∧ ERs ρ (dropKey k es) (pre ++ post) := by
  intro es
  induction es with
  | nil =>
    intro es' r i he hf
    cases hf
    simp only [ERs] at he
    subst he
    rfl
  | cons x es ih =>
    obtain ⟨q, v, n⟩ := x
    intro es' r i he hf
    simp only [ERs] at he
    obtain ⟨e, es', rfl, ⟨h1, h2, h3⟩, h4⟩ := he
    simp only at h1 h2 h3
    unfold findKey at hf
    split at hf
    · rename_i hq
      cases hf
      obtain ⟨k1, k2⟩ := keyEq_ok hd h hk h1 hq
      refine ⟨[], e, es', rfl, by simp [Instr.findNow, k1], h2, h3, k2 rfl, fun y yv hy => ?_, ?_⟩
      · simp only [setKey, hq]
        exact ⟨_, _, rfl, ⟨hk, hy, h3⟩, h4⟩
      · simp only [dropKey, hq]
        exact h4
    · rename_i hq
      obtain ⟨k1, _⟩ := keyEq_ok hd h hk h1 hq
      have := ih (i + 1) h4 hf
      cases r with
      | none => simpa [Instr.findNow, k1] using this
      | some r =>
        obtain ⟨v', n'⟩ := r
        obtain ⟨pre, e', post, rfl, q1, q2, q3, q4, q5, q6⟩ := this
        refine ⟨e :: pre, e', post, rfl, ?_, q2, q3, q4, fun y yv hy => ?_, ?_⟩
        · simp only [Instr.findNow, k1, q1, List.length_cons]; congr 3; omega
        · simp only [setKey, hq]
          exact ⟨_, _, rfl, ⟨h1, h2, h3⟩, q5 y yv hy⟩
        · simp only [dropKey, hq]
          exact ⟨_, _, rfl, ⟨h1, h2, h3⟩, q6⟩
    · cases hf
theorem ERs.append : ∀ {x y : List (V × V × Nat)} {e f : List MapEntry}, ERs ρ x e → ERs ρ y f → ERs ρ (x ++ y) (e ++ f)
  | [], _, _, _, h, k => by simp only [ERs] at h; subst h; exact k
  | _ :: _, _, _, _, h, k => by
    obtain ⟨e, es, rfl, h1, h2⟩ := h
    exact ⟨e, es ++ _, rfl, h1, ERs.append h2 k⟩
theorem ERs.length : ∀ {x : List (V × V × Nat)} {e : List MapEntry}, ERs ρ x e → e.length = x.length
  | [], _, h => by simp only [ERs] at h; subst h; rfl
  | _ :: _, _, h => by
    obtain ⟨e, es, rfl, h1, h2⟩ := h
    simp [ERs.length h2]

/-- A map's entries. -/
theorem mapOf_ok {x : V} {u : Value} {es : List (V × V × Nat)} (h : mapOf x s = .ok es s') (hm : MR ρ s.mem w) (hx : VR ρ x u) : s'.mem = s.mem ∧ s'.next = s.next ∧
    ((u = .map none ∧ es = []) ∨ ∃ r es' c, u = .map (some r) ∧ w.heap[r]? = some (.map ⟨es'⟩ c) ∧ ERs ρ es es') := by
  unfold mapOf at h
  split at h
  · cases h
    simp only [VR] at hx
    exact ⟨rfl, rfl, .inl ⟨hx, rfl⟩⟩
  · obtain ⟨y, s1, h1, h2⟩ := R.bind_eq_ok h
    obtain ⟨_, k1, k2, k3⟩ := get_ok h1
    unfold entriesIn at h2
    split at h2
    · cases h2
      simp only [VR] at hx
      obtain ⟨l, hl, rfl⟩ := hx
      obtain ⟨l', hl', es', q1, q2⟩ := hm.at_ _ _ k1
      rw [hl] at hl'; cases hl'
      exact ⟨k2, k3, .inr ⟨_, _, _, rfl, q1, q2⟩⟩
    · cases h2
  · cases h
theorem lookup_ok {t : TypeId} {y z : Operand} {ok : Bool} {x : Nx} (ho : o.op = .lookup t y z ok) (h : TR ρ a act.tmps) (g : GOK ρ) (hm : MR ρ s.mem w) (hx : opLookup P t (evl y) (evl z) ok a s = .ok x s') : Ef P ρ w act o s s' x := by
  unfold opLookup at hx
  obtain ⟨v, h1, rfl⟩ := Rval_ok hx
  unfold lookupO at h1
  split at h1
  · rename_i m k hy hz
    have ry := evl_ok h g hy
    have rz := evl_ok h g hz
    unfold lookupOp at h1
    split at h1
    · rename_i kt et ht
      split at h1
      · rename_i hk
        obtain ⟨es, s1, h2, h3⟩ := R.bind_eq_ok h1
        obtain ⟨k1, k2, k3⟩ := mapOf_ok h2 hm ry
        have hd : ∃ d, P.underlying kt = some d := by rcases plainKey_ok hk with ⟨_, _, _, e, _⟩ | ⟨_, e, _⟩ <;> exact ⟨_, e⟩
        obtain ⟨d, hd⟩ := hd
        have ck := fun e => run_checkKey' (P := P) (w := w) hk rz e
        obtain ⟨A, hA, hru⟩ : ∃ A : List MapEntry, ERs ρ es A ∧ ∀ r, (Instr.findKey kt (act.eval z) A).run P w = .ok r w → ∀ q : Value × Bool, (match r with
            | some (_, v) => q = (v, true)
            | none => (zeroValue et).run P w = .ok q.1 w ∧ q.2 = false) → (Instr.lookup t (act.eval y) (act.eval z) ok).run P w = .ok (if ok then .tuple #[q.1, .bool q.2] else q.1) w := by
          rcases k3 with ⟨eu, ee⟩ | ⟨r, es', c, eu, hw, he⟩
          · subst ee
            refine ⟨[], rfl, fun r hr q hq => ?_⟩
            simp only [Instr.lookup, Sem.run_bind, run_underlying ht, Result.andThen_ok, eu, Sem.run_pure, ck, hr]
            cases r with
            | none => obtain ⟨q1, q2⟩ := hq; obtain ⟨qa, qb⟩ := q; simp only at q1 q2; subst q2; cases ok <;> simp [q1]
            | some r => obtain ⟨i, v⟩ := r; subst hq; cases ok <;> simp
          · refine ⟨es', he, fun r hr q hq => ?_⟩
            simp only [Instr.lookup, Sem.run_bind, run_underlying ht, Result.andThen_ok, eu, run_getObj_map hw, Sem.run_pure, ck, hr]
            cases r with
            | none => obtain ⟨q1, q2⟩ := hq; obtain ⟨qa, qb⟩ := q; simp only at q1 q2; subst q2; cases ok <;> simp [q1]
            | some r => obtain ⟨i, v⟩ := r; subst hq; cases ok <;> simp
        unfold lookIn at h3
        split at h3
        · cases h3
        · rename_i v' n' hf
          obtain ⟨pre, e, post, rfl, q1, q2, _⟩ := find_ok hd hk rz 0 hA hf
          have := hru _ (run_findKey hd q1) (e.val, true) rfl
          refine Ef.of_val (g := Instr.lookup t (act.eval y) (act.eval z) ok) (EfV.same this ?_ hm ?_) (by simp [execOp, ho])
          · unfold foundV at h3
            split at h3
            · cases h3; exact ⟨_, rfl, _, _, rfl, q2, _, _, rfl, rfl, rfl⟩
            · cases h3; exact q2
          · unfold foundV at h3
            split at h3 <;> (cases h3; exact k1)
        · rename_i hf
          have q1 := find_ok hd hk rz 0 hA hf
          unfold missV at h3
          split at h3
          · cases h3
          · rename_i zr hzr
            obtain ⟨zv, z1, z2⟩ := run_zeroValue (P := P) (ρ := ρ) (w := w) hzr
            have := hru _ (run_findKey hd q1) (zv, false) ⟨z1, rfl⟩
            refine Ef.of_val (g := Instr.lookup t (act.eval y) (act.eval z) ok) (EfV.same this ?_ hm ?_) (by simp [execOp, ho])
            · split at h3
              · cases h3; exact ⟨_, rfl, _, _, rfl, z2, _, _, rfl, rfl, rfl⟩
              · cases h3; exact z2
            · split at h3 <;> (cases h3; exact k1)
      · cases h1
    · cases h1
  · cases h1
end Go.Ex

/- Maps written, ranged over: the model does what the executor does. -/
namespace Go.Ex
open Go.MapKept
variable {P : Program} {ρ : Ren} {w : World} {a : T V} {act : Act} {o : Oper} {s s' : S}

/-- A map's block. -/
theorem mapAt {b : Nat} {u : Value} {es : List (V × V × Nat)} {c : Nat} (hm : MR ρ s.mem w) (hx : VR ρ (.map b) u) (hg : s.mem.get b = some (.map es c)) :
    ∃ l es', ρ b = some l ∧ u = .map (some l.blk) ∧ w.heap[l.blk]? = some (.map ⟨es'⟩ c) ∧ ERs ρ es es' := by
  simp only [VR] at hx
  obtain ⟨l, hl, rfl⟩ := hx
  obtain ⟨l', hl', es', q1, q2⟩ := hm.at_ _ _ hg
  rw [hl] at hl'; cases hl'
  exact ⟨l, es', hl, rfl, q1, q2⟩
/-- A map's entries are set. -/
theorem MR.mapSet {m : T AB} {b c c' : Nat} {es fs : List (V × V × Nat)} {es' fs' : List MapEntry} {l : Loc} (hm : MR ρ m w) (hg : m.get b = some (.map es c)) (hl : ρ b = some l) (hw : w.heap[l.blk]? = some (.map ⟨es'⟩ c)) (hf : ERs ρ fs fs') :
    MR ρ (m.put b (some (.map fs c'))) { w with heap := w.heap.setIfInBounds l.blk (.map ⟨fs'⟩ c') } := by
  obtain ⟨h1, h2⟩ := heap_set (o' := .map ⟨fs'⟩ c') hw
  exact hm.write hg hl (fun j hj _ => h2 j hj) ⟨fs', h1, hf⟩
theorem modify_mid (pre : List MapEntry) (e : MapEntry) (post : List MapEntry) (f : MapEntry → MapEntry) : (⟨pre ++ e :: post⟩ : Array MapEntry).modify pre.length f = ⟨pre ++ f e :: post⟩ := by
  apply Array.ext'
  simp only [Array.toList_modify]
  induction pre with
  | nil => simp
  | cons x pre ih => simp [ih]
theorem erase_mid (pre : List MapEntry) (e : MapEntry) (post : List MapEntry) : (⟨pre ++ e :: post⟩ : Array MapEntry).eraseIdxIfInBounds pre.length = ⟨pre ++ post⟩ := by
  apply Array.ext'
  unfold Array.eraseIdxIfInBounds
  rw [dif_pos (by simp)]
  simp [List.eraseIdx_append_of_length_le]
theorem isMap {kt et : TypeId} {t : TypeId} {k : V} (hk : plainKey P kt k = true) (_ : P.underlying t = some (.map kt et)) : ∃ d, P.underlying kt = some d := by
  rcases plainKey_ok hk with ⟨_, _, _, e, _⟩ | ⟨_, e, _⟩ <;> exact ⟨_, e⟩
theorem update_ok {t : TypeId} {y z q : Operand} {x : Nx} (ho : execOp act.eval o = (do Instr.mapUpdate t (act.eval y) (act.eval z) (act.eval q); pure .skip)) (h : TR ρ a act.tmps) (g : GOK ρ) (hm : MR ρ s.mem w) (hx : opUpdate P t (evl y) (evl z) (evl q) a s = .ok x s') : Ef P ρ w act o s s' x := by
  unfold opUpdate at hx
  obtain ⟨v, h1, rfl⟩ := Rval_ok hx
  unfold updateO at h1
  split at h1
  · rename_i m k u hy hz hu
    have ry := evl_ok h g hy
    have rz := evl_ok h g hz
    have ru := evl_ok h g hu
    unfold updateOp at h1
    split at h1
    · rename_i kt et b ht
      split at h1
      · rename_i hk
        obtain ⟨d, hd⟩ := isMap hk ht
        obtain ⟨x, s1, h2, h3⟩ := R.bind_eq_ok h1
        obtain ⟨_, k1, k2, k3⟩ := get_ok h2
        have ck := fun e => run_checkKey' (P := P) (w := w) hk rz e
        unfold updateIn at h3
        split at h3
        · rename_i es c
          obtain ⟨l, es', hl, eu, hw, he⟩ := mapAt hm ry k1
          split at h3
          · cases h3
          · rename_i r hf
            obtain ⟨⟨⟩, s2, h4, h5⟩ := R.bind_eq_ok h3
            cases h5
            obtain ⟨_, j1, j2⟩ := put_ok h4
            obtain ⟨pre, e, post, rfl, q1, q2, q3, q4, q5, _⟩ := find_ok hd hk rz 0 he hf
            refine ⟨ρ, _, .skip, ?_, rfl, by rw [j1, k2]; exact hm.mapSet k1 hl hw (q5 u _ ru), by rw [j2, k3]; exact Ext.refl _ _ _⟩
            have hfk := run_findKey (P := P) (w := w) hd q1
            simp only [ho, Instr.mapUpdate, Sem.run_bind, run_underlying ht, Result.andThen_ok, eu, run_getObj_map hw, ck, hfk]
            have e1 : ((((⟨pre ++ e :: post⟩ : Array MapEntry))[pre.length]?.map (·.key)).getD (act.eval z)) = e.key := by simp
            simp only [Nat.zero_add, e1, Instr.keyThatStays, q4, if_true, Sem.run_pure, Result.andThen_ok, run_setObj_map _ hw, modify_mid]
          · rename_i hf
            obtain ⟨⟨⟩, s2, h4, h5⟩ := R.bind_eq_ok h3
            cases h5
            obtain ⟨_, j1, j2⟩ := put_ok h4
            have q1 := find_ok hd hk rz 0 he hf
            have hfk := run_findKey (P := P) (w := w) hd q1
            have hr : ERs ρ (es ++ [(k, u, c)]) (es' ++ [{ key := act.eval z, val := act.eval q, born := c }]) := he.append ⟨_, _, rfl, ⟨rz, ru, rfl⟩, rfl⟩
            refine ⟨ρ, _, .skip, ?_, rfl, by rw [j1, k2]; exact hm.mapSet k1 hl hw hr, by rw [j2, k3]; exact Ext.refl _ _ _⟩
            simp only [ho, Instr.mapUpdate, Sem.run_bind, run_underlying ht, Result.andThen_ok, eu, run_getObj_map hw, ck, hfk, run_setObj_map _ hw, Sem.run_pure]
            simp
        · cases h3
      · cases h1
    · cases h1
  · cases h1
theorem delete_ok {t : TypeId} {ts : Array TypeId} {ty : TypeId} {m k v : V} {mv kv : Value} (ht0 : ts[0]? = some t) (hm : MR ρ s.mem w) (rm : VR ρ m mv) (rk : VR ρ k kv) (hx : deleteOp P t m k s = .ok v s') :
    EfV P ρ w s s' v (Builtin.delete_ ts ty #[mv, kv]) := by
  unfold deleteOp at hx
  split at hx
  · rename_i kt et b ht
    split at hx
    · rename_i hk
      obtain ⟨d, hd⟩ := isMap hk ht
      obtain ⟨x, s1, h2, h3⟩ := R.bind_eq_ok hx
      obtain ⟨_, k1, k2, k3⟩ := get_ok h2
      have ck := fun e => run_checkKey' (P := P) (w := w) hk rk e
      unfold deleteIn at h3
      split at h3
      · rename_i es c
        obtain ⟨l, es', hl, eu, hw, he⟩ := mapAt hm rm k1
        subst eu
        split at h3
        · cases h3
        · rename_i r hf
          obtain ⟨⟨⟩, s2, h4, h5⟩ := R.bind_eq_ok h3
          cases h5
          obtain ⟨_, j1, j2⟩ := put_ok h4
          cases r with
          | some r =>
            obtain ⟨v', n'⟩ := r
            obtain ⟨pre, e, post, rfl, q1, q2, q3, q4, _, q6⟩ := find_ok hd hk rk 0 he hf
            have hfk := run_findKey (P := P) (w := w) hd q1
            refine ⟨ρ, _, .tuple #[], ?_, ⟨[], rfl, rfl⟩, by rw [j1, k2]; exact hm.mapSet k1 hl hw q6, by rw [j2, k3]; exact Ext.refl _ _ _⟩
            simp only [Builtin.delete_, ht0, List.getElem?_toArray, List.getElem?_cons_zero, List.getElem?_cons_succ, Sem.run_bind, run_underlying ht, Result.andThen_ok, run_getObj_map hw, ck, hfk, run_setObj_map _ hw, Sem.run_pure, Nat.zero_add, erase_mid]
          | none =>
            have q1 := find_ok hd hk rk 0 he hf
            have hfk := run_findKey (P := P) (w := w) hd q1
            have hdrop : dropKey k es = es := by
              clear he q1 h4 j1 h2 h3 k1
              induction es with
              | nil => rfl
              | cons x es ih =>
                obtain ⟨q, v, n⟩ := x
                unfold findKey at hf
                unfold dropKey
                split at hf
                · cases hf
                · rename_i hq; rw [hq]; simp only; rw [ih hf]
                · cases hf
            refine ⟨ρ, _, .tuple #[], ?_, ⟨[], rfl, rfl⟩, by rw [j1, k2]; exact hm.mapSet k1 hl hw (hdrop ▸ he), by rw [j2, k3]; exact Ext.refl _ _ _⟩
            simp only [Builtin.delete_, ht0, List.getElem?_toArray, List.getElem?_cons_zero, List.getElem?_cons_succ, Sem.run_bind, run_underlying ht, Result.andThen_ok, run_getObj_map hw, ck, hfk, run_setObj_map _ hw, Sem.run_pure]
      · cases h3
    · cases hx
  · cases hx

/-! ### Ranging -/
theorem newObj_ok {x : AB} {n : Nat} (h : new x s = .ok n s') (hm : MR ρ s.mem w) (hf : Fresh ρ s.next s'.next) (ob : Obj) (hb : BR (ρ.with s.next ⟨w.heap.size, 0, 0, none⟩) ⟨w.heap.size, 0, 0, none⟩ { w with heap := w.heap.push ob } x) :
    ∃ ρ' loc, ρ' n = some loc ∧ loc.blk = w.heap.size ∧ loc.off = 0 ∧ MR ρ' s'.mem { w with heap := w.heap.push ob } ∧ Ext ρ ρ' s.next s'.next := by
  obtain ⟨rfl, k2, k3⟩ := new_ok h
  have hn := hf s.next (Nat.le_refl _) (by omega)
  refine ⟨ρ.with s.next ⟨w.heap.size, 0, 0, none⟩, ⟨w.heap.size, 0, 0, none⟩, Ren.with_at _ _ _, rfl, rfl, ?_, by rw [k3]; exact Ren.with_ext _ hn⟩
  rw [k2]
  refine hm.grow hn (fun c x k hc hk => ?_) (fun j hj hlt => ?_) hb
  · obtain ⟨k', hk', hb⟩ := hm.at_ c x hc
    rw [hk] at hk'; cases hk'
    have := hb.lt
    simp only []; omega
  · simp only []; rw [Array.getElem?_push_lt hlt]; exact (Array.getElem?_eq_getElem hlt).symm
theorem range_ok {t : TypeId} {y : Operand} {x : Nx} (ho : o.op = .range t y) (h : TR ρ a act.tmps) (g : GOK ρ) (hm : MR ρ s.mem w) (hf : Fresh ρ s.next s'.next) (hx : opRange P t (evl y) a s = .ok x s') : Ef P ρ w act o s s' x := by
  unfold opRange at hx
  obtain ⟨v, h1, rfl⟩ := Rval_ok hx
  unfold rangeO at h1
  split at h1
  · rename_i m hy
    have ry := evl_ok h g hy
    unfold rangeOp at h1
    split at h1
    · rename_i kt et ht
      obtain ⟨b, s1, h2, h3⟩ := R.bind_eq_ok h1
      cases h3
      simp only [VR] at ry
      obtain ⟨ρ', loc, r1, r2, r3, r4, r5⟩ := newObj_ok h2 hm hf (.mapIter none 0 #[] 0) ⟨none, by simp, rfl, rfl⟩
      refine Ef.of_val (g := Instr.range t (act.eval y)) ⟨ρ', _, .pointer (some ⟨w.heap.size, 0, none⟩), ?_, ⟨loc, r1, by rw [r2, r3]⟩, r4, r5⟩ (by simp [execOp, ho])
      simp [Instr.range, run_underlying ht, ry]
    · rename_i kt et b ht
      obtain ⟨x, s1, h2, h3⟩ := R.bind_eq_ok h1
      obtain ⟨_, k1, k2, k3⟩ := get_ok h2
      unfold rangeIn at h3
      split at h3
      · rename_i es c
        obtain ⟨n, s2, h4, h5⟩ := R.bind_eq_ok h3
        cases h5
        obtain ⟨l, es', hl, eu, hw, he⟩ := mapAt hm ry k1
        have hb : BR (ρ.with s1.next ⟨w.heap.size, 0, 0, none⟩) ⟨w.heap.size, 0, 0, none⟩ { w with heap := w.heap.push (.mapIter (some l.blk) c #[] c) } (.miter (some b) c [] c) :=
          ⟨some l.blk, by simp, ⟨l, Ren.with_le _ (hf s1.next (by omega) (by have := new_ok h4; omega)) _ _ hl, rfl⟩, rfl⟩
        obtain ⟨ρ', loc, r1, r2, r3, r4, r5⟩ := newObj_ok h4 (by rw [k2]; exact hm) (by rw [k3]; exact hf) _ hb
        refine Ef.of_val (g := Instr.range t (act.eval y)) ⟨ρ', _, .pointer (some ⟨w.heap.size, 0, none⟩), ?_, ⟨loc, r1, by rw [r2, r3]⟩, r4, by rw [← k3]; exact r5⟩ (by simp [execOp, ho])
        simp [Instr.range, run_underlying ht, eu, run_getObj_map hw]
      · cases h3
    · cases h1
  · cases h1

theorem emptyL_eq {α : Type} (l : List α) : emptyL l = l.isEmpty := by cases l <;> rfl
theorem ERs.isEmpty {es : List (V × V × Nat)} {es' : List MapEntry} (h : ERs ρ es es') : es'.isEmpty = emptyL es := by
  cases es with
  | nil => simp only [ERs] at h; subst h; rfl
  | cons x es => obtain ⟨e, es', rfl, _⟩ := h; rfl
theorem allNew_ok (last : Nat) : ∀ {es : List (V × V × Nat)} {es' : List MapEntry}, ERs ρ es es' → (es'.all fun e => decide (e.born ≥ last)) = allNew last es
  | [], _, h => by simp only [ERs] at h; subst h; rfl
  | (k, v, n) :: es, _, h => by
    obtain ⟨e, es', rfl, ⟨_, _, h3⟩, h4⟩ := h
    simp only at h3
    subst h3
    unfold allNew
    rw [List.all_cons, allNew_ok last h4]
    split
    · rename_i hb; have := Nat.le_of_ble_eq_true hb; simp [this]
    · rename_i hb
      have : ¬ last ≤ e.born := fun q => by rw [Nat.ble_eq_true_of_le q] at hb; cases hb
      simp [this]
theorem hasNat_eq (n : Nat) : ∀ l : List Nat, hasNat n l = l.contains n
  | [] => rfl
  | m :: l => by
    unfold hasNat
    rw [List.contains_cons]
    split
    · rename_i hb; have := Nat.eq_of_beq_eq_true hb; subst this; simp
    · rename_i hb; have := Nat.ne_of_beq_eq_false hb; rw [hasNat_eq n l]; simp [this]
theorem leftOf_ok (seen : List Nat) : ∀ {es : List (V × V × Nat)} {es' : List MapEntry}, ERs ρ es es' → ERs ρ (leftOf seen es) (es'.filter fun e => !seen.contains e.born)
  | [], _, h => by simp only [ERs] at h; subst h; rfl
  | (k, v, n) :: es, _, h => by
    obtain ⟨e, es', rfl, ⟨h1, h2, h3⟩, h4⟩ := h
    simp only at h3
    subst h3
    unfold leftOf
    have ih := leftOf_ok seen h4
    rw [hasNat_eq]
    split
    · rename_i hb; rw [List.filter_cons_of_neg (by simp only [hb]; decide)]; exact ih
    · rename_i hb
      rw [List.filter_cons_of_pos (by simp only [hb]; decide)]
      exact ⟨_, _, rfl, ⟨h1, h2, rfl⟩, ih⟩
theorem run_getObj_iter {r : Nat} {m : Option Nat} {since stepped : Nat} {seen : Array Nat} (h : w.heap[r]? = some (.mapIter m since seen stepped)) : (getObj r).run P w = .ok (.mapIter m since seen stepped) w := by simp [getObj, Sem.run, h]
theorem run_setObj_iter {r : Nat} {m : Option Nat} {since stepped : Nat} {seen : Array Nat} (o : Obj) (h : w.heap[r]? = some (.mapIter m since seen stepped)) : (setObj r o).run P w = .ok () { w with heap := w.heap.setIfInBounds r o } := by simp [setObj, Sem.run, h]
theorem next_ok {y : Operand} {b : Bool} {x : Nx} (ho : o.op = .next y b) (h : TR ρ a act.tmps) (g : GOK ρ) (hm : MR ρ s.mem w) (hx : opNext (evl y) b a s = .ok x s') : Ef P ρ w act o s s' x := by
  unfold opNext at hx
  obtain ⟨v, h1, rfl⟩ := Rval_ok hx
  unfold nextO at h1
  split at h1
  · rename_i p hy
    have ry := evl_ok h g hy
    unfold nextOp at h1
    split at h1
    · rename_i r
      obtain ⟨x, s1, h2, h3⟩ := R.bind_eq_ok h1
      obtain ⟨_, k1, k2, k3⟩ := get_ok h2
      unfold nextIn at h3
      split at h3
      · rename_i since seen stepped
        cases h3
        obtain ⟨l, hl, m', q1, q2, q3⟩ := hm.at_ _ _ k1
        obtain ⟨l', hl', eu⟩ := ry.ptr_inv
        rw [hl] at hl'; cases hl'
        have q2 : m' = none := q2
        subst q2
        refine Ef.of_val (g := Instr.next (act.eval y) false o.type) (EfV.same (u := .tuple #[.bool false]) ?_ ⟨_, rfl, _, _, rfl, rfl, rfl⟩ hm k2) (by simp [execOp, ho])
        simp [Instr.next, eu, q3, run_getObj_iter q1]
      · rename_i m since seen last
        obtain ⟨z, s2, h4, h5⟩ := R.bind_eq_ok h3
        obtain ⟨_, j1, j2, j3⟩ := get_ok h4
        rw [k2] at j1
        obtain ⟨l, hl, m', q1, q2, q3⟩ := hm.at_ _ _ k1
        obtain ⟨l', hl', eu⟩ := ry.ptr_inv
        rw [hl] at hl'; cases hl'
        obtain ⟨lm, hlm, rfl⟩ : ∃ lm, ρ m = some lm ∧ m' = some lm.blk := q2
        unfold nextMap at h5
        split at h5
        · rename_i es c
          obtain ⟨lm', hlm', es', q4, q5⟩ := hm.at_ _ _ j1
          rw [hlm] at hlm'; cases hlm'
          have hleft := leftOf_ok seen q5
          have hno : ¬ ((!(emptyL seen) && !(emptyL es) && allNew last es) = true) := by
            intro e
            simp only [Bool.and_eq_true, Bool.not_eq_true'] at e
            rw [e.1.1, e.1.2, e.2] at h5
            cases h5
          have h5' : nextLeft r m since seen c (leftOf seen es) s2 = .ok v s' := by
            split at h5
            · cases h5
            · exact h5
          clear h5
          have hcond : (!(⟨seen⟩ : Array Nat).isEmpty && !(⟨es'⟩ : Array MapEntry).isEmpty && (⟨es'⟩ : Array MapEntry).all (fun e => decide (e.born ≥ last))) = (!(emptyL seen) && !(emptyL es) && allNew last es) := by
            rw [← allNew_ok last q5, ← q5.isEmpty, emptyL_eq]
            simp
          have hcond' : (!(⟨seen⟩ : Array Nat).isEmpty && !(⟨es'⟩ : Array MapEntry).isEmpty && (⟨es'⟩ : Array MapEntry).all (fun e => decide (e.born ≥ last))) = false := by
            rw [hcond]; simpa using hno
          have hfil : ((⟨es'⟩ : Array MapEntry).filter fun e => !(⟨seen⟩ : Array Nat).contains e.born) = ⟨es'.filter fun e => !seen.contains e.born⟩ := by
            apply Array.ext'; simp
          unfold nextLeft at h5'
          split at h5'
          · rename_i e0
            cases h5'
            rw [e0] at hleft
            have hl0 : (es'.filter fun e => !seen.contains e.born) = [] := hleft
            refine Ef.of_val (g := Instr.next (act.eval y) false o.type) (EfV.same (u := .tuple #[.bool false]) ?_ ⟨_, rfl, _, _, rfl, rfl, rfl⟩ hm (j2.trans k2)) (by simp [execOp, ho])
            simp only [Instr.next, eu, q3, Nat.add_zero, Sem.run_bind, run_getObj_iter q1, Result.andThen_ok, run_getObj_map q4, hcond', hfil, hl0]
            simp [Question.forced]
          · rename_i k u n e0
            split at h5'
            · cases h5'
            · rename_i hb
              have hb : ¬ since ≤ n := fun q => by rw [Nat.ble_eq_true_of_le q] at hb; cases hb
              obtain ⟨⟨⟩, s3, h6, h7⟩ := R.bind_eq_ok h5'
              cases h7
              obtain ⟨_, p1, p2⟩ := put_ok h6
              rw [e0] at hleft
              obtain ⟨e, es2, he, ⟨e1, e2, e3⟩, e4⟩ := hleft
              simp only [ERs] at e4
              subst e4
              simp only at e1 e2 e3
              subst e3
              have c1 : e.born < since := by omega
              refine Ef.of_val (g := Instr.next (act.eval y) false o.type) ⟨ρ, { w with heap := w.heap.setIfInBounds l.blk (.mapIter (some lm.blk) since ⟨seen ++ [e.born]⟩ c) }, .tuple #[.bool true, e.key, e.val], ?_, ⟨_, rfl, _, _, rfl, rfl, _, _, rfl, e1, _, _, rfl, e2, rfl⟩, ?_, by rw [p2, j3, k3]; exact Ext.refl _ _ _⟩ (by simp [execOp, ho])
              · simp only [Instr.next, eu, q3, Nat.add_zero, Sem.run_bind, run_getObj_iter q1, Result.andThen_ok, run_getObj_map q4, hcond', hfil, he]
                simp [Question.forced, c1, hb, run_setObj_iter _ q1]
              · rw [p1, j2, k2]
                have hlt : l.blk < w.heap.size := (Array.getElem?_eq_some_iff.1 q1).1
                refine hm.write k1 hl (fun j hj _ => ?_) ⟨some lm.blk, ?_, ⟨lm, hlm, rfl⟩, q3⟩
                · simp [Ne.symm hj]
                · simp [hlt]
          · cases h5'
        · cases h5
      · cases h3
    · cases h1
  · cases h1
theorem lastOf_eq : ∀ l : List Nat, lastOf l = l.getLast?
  | [] => rfl
  | [_] => rfl
  | _ :: b :: l => by unfold lastOf; rw [lastOf_eq (b :: l), List.getLast?_cons_cons]
theorem entryAt_ok (n : Nat) : ∀ {es : List (V × V × Nat)} {es' : List MapEntry} {k v : V}, ERs ρ es es' → entryAt n es = some (k, v) → ∃ e, es'.find? (fun e => e.born == n) = some e ∧ VR ρ k e.key ∧ VR ρ v e.val
  | [], _, _, _, h, e => by cases e
  | (q, u, m) :: es, _, k, v, h, e => by
    obtain ⟨x, es', rfl, ⟨h1, h2, h3⟩, h4⟩ := h
    simp only at h1 h2 h3
    subst h3
    unfold entryAt at e
    split at e
    · rename_i hb
      have := Nat.eq_of_beq_eq_true hb
      cases e
      exact ⟨x, by simp [this], h1, h2⟩
    · rename_i hb
      have := Nat.ne_of_beq_eq_false hb
      obtain ⟨y, q1, q2⟩ := entryAt_ok n h4 e
      exact ⟨y, by simp [this, q1], q2⟩
theorem entry_ok {y : Operand} {x : Nx} (ho : o.op = .entry y) (h : TR ρ a act.tmps) (g : GOK ρ) (hm : MR ρ s.mem w) (hx : opEntry (evl y) a s = .ok x s') : Ef P ρ w act o s s' x := by
  unfold opEntry at hx
  obtain ⟨v, h1, rfl⟩ := Rval_ok hx
  unfold entryO at h1
  split at h1
  · rename_i p hy
    have ry := evl_ok h g hy
    unfold entryOp at h1
    split at h1
    · rename_i r
      obtain ⟨x, s1, h2, h3⟩ := R.bind_eq_ok h1
      obtain ⟨_, k1, k2, k3⟩ := get_ok h2
      unfold entryIn at h3
      split at h3
      · rename_i m since seen stepped
        split at h3
        · cases h3
        · rename_i n hn
          obtain ⟨z, s2, h4, h5⟩ := R.bind_eq_ok h3
          obtain ⟨_, j1, j2, j3⟩ := get_ok h4
          rw [k2] at j1
          obtain ⟨l, hl, m', q1, q2, q3⟩ := hm.at_ _ _ k1
          obtain ⟨l', hl', eu⟩ := ry.ptr_inv
          rw [hl] at hl'; cases hl'
          obtain ⟨lm, hlm, rfl⟩ : ∃ lm, ρ m = some lm ∧ m' = some lm.blk := q2
          unfold entryMap at h5
          split at h5
          · rename_i es c
            obtain ⟨lm', hlm', es', q4, q5⟩ := hm.at_ _ _ j1
            rw [hlm] at hlm'; cases hlm'
            split at h5
            · cases h5
            · rename_i hc
              have hc := Nat.eq_of_beq_eq_true hc
              subst hc
              split at h5
              · rename_i k u he
                cases h5
                obtain ⟨e, p1, p2, p3⟩ := entryAt_ok n q5 he
                refine Ef.of_val (g := Instr.entry (act.eval y)) (EfV.same (u := .tuple #[e.key, e.val]) ?_ ⟨_, rfl, _, _, rfl, p2, _, _, rfl, p3, rfl⟩ hm (j2.trans k2)) (by simp [execOp, ho])
                rw [lastOf_eq] at hn
                have hb : (⟨seen⟩ : Array Nat).back? = some n := by rw [← hn]; simp
                simp only [Instr.entry, eu, q3, Nat.add_zero, Sem.run_bind, run_getObj_iter q1, Result.andThen_ok, hb, run_getObj_map q4, bne_self_eq_false]
                simp [p1]
              · cases h5
          · cases h5
      · cases h3
    · cases h1
  · cases h1
end Go.Ex

/- append: the model does what the executor does. -/
namespace Go.Ex
variable {P : Program} {ρ : Ren} {w : World} {a : T V} {act : Act} {o : Oper} {s s' : S}

theorem lenOf_ok {x : V} {u : Value} {n : Nat} (h : lenOf x = some n) (hx : VR ρ x u) : (Builtin.lenOf u).run P w = .ok n w := by
  unfold lenOf at h
  split at h
  · cases h; have e := hx.nilsl_inv; subst e; rfl
  · cases h; obtain ⟨a0, c', e⟩ := hx.sl_inv; subst e; rfl
  · cases h
    simp only [VR] at hx
    obtain ⟨t, rfl, rfl⟩ := hx
    simp [Builtin.lenOf]
  · cases h
/-- The first cells of a slice or a string. -/
theorem firstCells_ok {z n m : Nat} {x : V} {u : Value} {l : List V} (h : firstCells z n x s = .ok l s') (hn : lenOf x = some m) (hle : n ≤ m) (hm : MR ρ s.mem w) (hx : VR ρ x u) :
    ∃ ys, (Builtin.firstCells z n u).run P w = .ok ⟨ys⟩ w ∧ VRs ρ l ys ∧ s'.mem = s.mem ∧ s'.next = s.next := by
  cases x with
  | nilsl =>
    have e := hx.nilsl_inv
    subst e
    unfold firstCells at h
    cases h
    exact ⟨[], rfl, rfl, rfl, rfl⟩
  | sl b off len c =>
    cases hn
    obtain ⟨a0, c', ys, rfl, h1, h2, h3, h4⟩ := firstCells_sl (P := P) h hle hm hx
    exact ⟨ys, h1, h2, h3, h4⟩
  | str t =>
    unfold firstCells at h
    cases h
    simp only [VR] at hx
    obtain ⟨t, rfl, rfl⟩ := hx
    have key : ∀ l : List UInt8, VRs ρ (l.map fun c => V.int .u8 (.ofNat c.toNat)) (l.map fun c => Value.int .u8 (c.toNat : Int)) := by
      intro l
      induction l with
      | nil => rfl
      | cons c l ih => exact ⟨_, _, rfl, by simp [VR], ih⟩
    refine ⟨(t.data.toList.take n).map fun c => Value.int .u8 (c.toNat : Int), ?_, ?_, rfl, rfl⟩
    · simp only [Builtin.firstCells, Sem.run_pure]
      congr 1
      apply Array.ext'
      simp [ByteArray.data_extract]
    · have := key (t.data.toList.take n)
      simpa [List.map_take, Function.comp_def] using this
  | _ => cases hn

/-- What is appended. -/
def appendedS (e : TypeId) (size : Nat) (zeros : Bool) (n : Nat) (x : Value) : Sem (Array Value) :=
  if !zeros then Builtin.firstCells size n x
  else if n * size = 0 then pure #[]
  else do pure (Builtin.zeroCells (← zeroValue e).cells n)
/-- What is known of an append's types. -/
structure AppT (P : Program) (ts : List TypeId) (t : AT) (e : TypeId) : Prop where
  sl : ∃ sT, ts[0]? = some sT ∧ P.underlying sT = some (.slice e)
  sz : szOf P e = some t.z
  zv : ∃ z, zeroV P e = some z ∧ z.cells = t.zero ∧ t.zero.length = t.z
  by8 : ∃ i, P.info? e = some i ∧ i.bytes = t.by8
  zeros : (ts[1]? = none ∧ t.zeros = false) ∨ (∃ xT k, ts[1]? = some xT ∧ P.underlying xT = some (.int k) ∧ t.zeros = true) ∨
    (∃ xT d, ts[1]? = some xT ∧ P.underlying xT = some d ∧ (∀ k, d ≠ .int k) ∧ t.zeros = false)
theorem appT_ok {ts : List TypeId} {t : AT} (h : appT P ts = some t) : ∃ e, AppT P ts t e := by
  unfold appT at h
  split at h
  · cases h
  · rename_i sT rest
    split at h
    · rename_i e hs
      split at h
      · rename_i z zc y q h1 h2 h3 h4
        split at h
        · rename_i hl
          have hl := Nat.eq_of_beq_eq_true hl
          cases h
          refine ⟨e, ⟨sT, rfl, hs⟩, h1, ⟨zc, h2, rfl, hl⟩, ?_, ?_⟩
          · unfold byOf at h3
            split at h3
            · rename_i i hi; cases h3; exact ⟨i, hi, rfl⟩
            · cases h3
          · unfold zerosOf at h4
            split at h4
            · rename_i xT l
              split at h4
              · rename_i k hk; cases h4; exact .inr (.inl ⟨xT, k, rfl, hk, rfl⟩)
              · rename_i d hk hd
                cases h4
                exact .inr (.inr ⟨xT, d, rfl, hd, fun k e => hk k e, rfl⟩)
              · cases h4
            · cases h4; exact .inl ⟨rfl, rfl⟩
        · cases h
      · cases h
    · cases h
theorem appended_ok {ts : List TypeId} {t : AT} {e : TypeId} (ht : AppT P ts t e) {n : Nat} {x : V} {u : Value} {l : List V} (hn : appN t x = some n) (h : appWhat t n x s = .ok l s') (hm : MR ρ s.mem w) (hx : VR ρ x u) :
    ∃ ys, (appendedS e t.z t.zeros n u).run P w = .ok ⟨ys⟩ w ∧ VRs ρ l ys ∧ s'.mem = s.mem ∧ s'.next = s.next := by
  unfold appWhat at h
  unfold appN at hn
  unfold appendedS
  cases hz : t.zeros with
  | true =>
    rw [hz] at h hn
    simp only at h hn
    cases h
    obtain ⟨z, z1, z2, z3⟩ := ht.zv
    obtain ⟨zv, k1, k2⟩ := run_zeroValue (P := P) (ρ := ρ) (w := w) z1
    have hr := zrow_ok k2 (n := t.z) (by rw [z2]; exact z3) n
    rw [z2] at hr
    have hlen := k2.cells.length
    simp only [Array.length_toList] at hlen
    have hsz : zv.cells.size = t.z := by rw [hlen, z2, z3]
    refine ⟨_, ?_, hr, rfl, rfl⟩
    simp only [Bool.not_true, Bool.false_eq_true, if_false, Sem.run_ite]
    split
    · rename_i h0
      rw [h0, range0]; rfl
    · simp only [Sem.run_bind, k1, Result.andThen_ok, Sem.run_pure, Builtin.zeroCells, hsz, Array.toArray_toList]
  | false =>
    rw [hz] at h hn
    simp only at h hn
    simp only [Bool.not_false, if_true]
    exact firstCells_ok h hn (Nat.le_refl _) hm hx
/-- An append that fits. -/
theorem append_fits {ts : Array TypeId} {t : AT} {e : TypeId} (ht : AppT P ts.toList t e) {ty : TypeId} {x : V} {u : Value} {n : Nat} {base : Option Addr} {sLen sCap : Nat} {ys : List Value} (hn : appN t x = some n) (hx : VR ρ x u) (hfit : (sLen + n) * (t.by8 + 1) ≤ 1073741824)
    (hle : sLen + n ≤ sCap) (hy : (appendedS e t.z t.zeros n u).run P w = .ok ⟨ys⟩ w) :
    (Builtin.append_ ts ty #[.slice base sLen sCap, u]).run P w = match base with
      | some a0 => ((storeCells (a0.add (sLen * t.z)) ys).run P w).andThen fun _ w => .ok (.slice base (sLen + n) sCap) w
      | none => .ok (.slice base (sLen + n) sCap) w := by
  obtain ⟨sT, h1, h2⟩ := ht.sl
  obtain ⟨i, h3, h4⟩ := ht.by8
  have h1' : ts[0]? = some sT := by simpa using h1
  have hnn : n * (t.by8 + 1) ≤ 1073741824 := Nat.le_trans (Nat.mul_le_mul_right _ (Nat.le_add_left n sLen)) hfit
  have hb : n * t.by8 ≤ 1073741824 := Nat.le_trans (Nat.mul_le_mul_left n (Nat.le_succ t.by8)) hnn
  have hn' : n ≤ 1073741824 := Nat.le_trans (Nat.le_mul_of_pos_right n (Nat.succ_pos t.by8)) hnn
  have ez : ∀ r, ts.toList[1]? = r → ts[1]? = r := fun r h => by simpa using h
  have hu := run_underlying (w := w) h2
  have hs := run_sizeOf (w := w) ht.sz
  unfold appN at hn
  unfold appendedS at hy
  rcases ht.zeros with ⟨z1, z2⟩ | ⟨xT, k, z1, z2, z3⟩ | ⟨xT, d, z1, z2, z3, z4⟩
  · have z1 := ez _ z1
    rw [z2] at hn hy
    simp only at hn
    have hl := lenOf_ok (P := P) (w := w) hn hx
    simp only [Bool.not_false, if_true] at hy
    cases base <;> simp [Builtin.append_, h1', z1, hu, hs, hl, hle, hy]
  · have z1 := ez _ z1
    rw [z3] at hn hy
    simp only at hn
    simp only [Bool.not_true, Bool.false_eq_true, if_false] at hy
    obtain ⟨k, rfl⟩ := asLen_ok hn
    have e := hx.int_inv
    subst e
    have w1 : IntKind.i64.wrap (n : Int) = n := wrap_small .i64 n (by show n ≤ 9223372036854775807; omega)
    have c1 : ¬ ((n : Int) < 0) := by omega
    have c2 : ¬ ((281474976710656 : Int) < (n : Int) * (t.by8 : Int)) := by
      have : (n : Int) * (t.by8 : Int) = ((n * t.by8 : Nat) : Int) := by simp
      rw [this]; omega
    by_cases h0 : n * t.z = 0
    · rw [if_pos h0] at hy
      simp only [Sem.run_pure, Result.ok.injEq, and_true] at hy
      have hy' : ys = [] := by have := congrArg Array.toList hy; simpa using this.symm
      subst hy'
      cases base <;> simp [Builtin.append_, h1', z1, hu, hs, run_underlying z2, asInt, asIntOf, w1, c1, c2, typeInfo, h3, h4, hle, h0]
    · rw [if_neg h0] at hy
      simp only [Sem.run_bind, Sem.run_pure] at hy
      cases base <;> simp [Builtin.append_, h1', z1, hu, hs, run_underlying z2, asInt, asIntOf, w1, c1, c2, typeInfo, h3, h4, hle, h0, hy]
  · have z1 := ez _ z1
    rw [z4] at hn hy
    simp only at hn
    have hl := lenOf_ok (P := P) (w := w) hn hx
    simp only [Bool.not_false, if_true] at hy
    have hd : (match d with | .int _ => true | _ => false) = false := by
      cases d <;> first | rfl | exact absurd rfl (z3 _)
    cases base <;> simp [Builtin.append_, h1', z1, hu, hs, run_underlying z2, hd, hl, hle, hy]
/-- An append that grows. -/
theorem append_grows {ts : Array TypeId} {t : AT} {e : TypeId} (ht : AppT P ts.toList t e) {ty : TypeId} {x : V} {u zv : Value} {n : Nat} {base : Option Addr} {sLen sCap : Nat} {os ys : List Value} (hn : appN t x = some n) (hx : VR ρ x u) (hfit : (sLen + n) * (t.by8 + 1) ≤ 1073741824)
    (hgt : sCap < sLen + n) (ho : (Builtin.firstCells t.z sLen (.slice base sLen sCap)).run P w.drew = .ok ⟨os⟩ w.drew) (hy : (appendedS e t.z t.zeros n u).run P w.drew = .ok ⟨ys⟩ w.drew) (hz : ∀ w, (zeroValue e).run P w = .ok zv w) :
    (Builtin.append_ ts ty #[.slice base sLen sCap, u]).run P w =
      ((newRow e (⟨os⟩ ++ (⟨ys⟩ ++ Builtin.zeroCells zv.cells (grownCap w (sLen + n) sCap e - (sLen + n))))).run P w.drew).andThen fun a w' => .ok (.slice (some a) (sLen + n) (grownCap w (sLen + n) sCap e)) w' := by
  obtain ⟨sT, h1, h2⟩ := ht.sl
  obtain ⟨i, h3, h4⟩ := ht.by8
  have h1' : ts[0]? = some sT := by simpa using h1
  have hnn : n * (t.by8 + 1) ≤ 1073741824 := Nat.le_trans (Nat.mul_le_mul_right _ (Nat.le_add_left n sLen)) hfit
  have hb : n * t.by8 ≤ 1073741824 := Nat.le_trans (Nat.mul_le_mul_left n (Nat.le_succ t.by8)) hnn
  have hn' : n ≤ 1073741824 := Nat.le_trans (Nat.le_mul_of_pos_right n (Nat.succ_pos t.by8)) hnn
  have hb2 : (sLen + n) * t.by8 ≤ 1073741824 := Nat.le_trans (Nat.mul_le_mul_left _ (Nat.le_succ t.by8)) hfit
  have hn2 : sLen + n ≤ 1073741824 := Nat.le_trans (Nat.le_mul_of_pos_right _ (Nat.succ_pos t.by8)) hfit
  have g1 : ¬ (9223372036854775807 < (sLen : Int) + (n : Int)) := by omega
  have g2 : ¬ (281474976710656 < Builtin.nextslicecap (sLen + n) sCap * t.by8) := Nat.not_lt.2 (growslice_fits hgt (by omega))
  have hnle : ¬ (sLen + n ≤ sCap) := by omega
  have ez : ∀ r, ts.toList[1]? = r → ts[1]? = r := fun r h => by simpa using h
  have hu := run_underlying (w := w) h2
  have hs := run_sizeOf (w := w) ht.sz
  unfold appN at hn
  unfold appendedS at hy
  rcases ht.zeros with ⟨z1, z2⟩ | ⟨xT, k, z1, z2, z3⟩ | ⟨xT, d, z1, z2, z3, z4⟩
  · have z1 := ez _ z1
    rw [z2] at hn hy
    simp only at hn
    have hl := lenOf_ok (P := P) (w := w) hn hx
    simp only [Bool.not_false, if_true] at hy
    simp [Builtin.append_, h1', z1, hu, hs, hl, hnle, g1, g2, typeInfo, h3, h4, Question.forced, ho, hy, hz, grownCap]
  · have z1 := ez _ z1
    rw [z3] at hn hy
    simp only at hn
    simp only [Bool.not_true, Bool.false_eq_true, if_false] at hy
    obtain ⟨k, rfl⟩ := asLen_ok hn
    have e := hx.int_inv
    subst e
    have w1 : IntKind.i64.wrap (n : Int) = n := wrap_small .i64 n (by show n ≤ 9223372036854775807; omega)
    have c1 : ¬ ((n : Int) < 0) := by omega
    have c2 : ¬ ((281474976710656 : Int) < (n : Int) * (t.by8 : Int)) := by
      have : (n : Int) * (t.by8 : Int) = ((n * t.by8 : Nat) : Int) := by simp
      rw [this]; omega
    by_cases h0 : n * t.z = 0
    · rw [if_pos h0] at hy
      simp only [Sem.run_pure, Result.ok.injEq, and_true] at hy
      have hy' : ys = [] := by have := congrArg Array.toList hy; simpa using this.symm
      subst hy'
      simp [Builtin.append_, h1', z1, hu, hs, run_underlying z2, asInt, asIntOf, w1, c1, c2, hnle, g1, g2, typeInfo, h3, h4, Question.forced, ho, h0, hz, grownCap]
    · rw [if_neg h0] at hy
      simp only [Sem.run_bind, Sem.run_pure, hz, Result.andThen_ok, Result.ok.injEq, and_true] at hy
      simp [Builtin.append_, h1', z1, hu, hs, run_underlying z2, asInt, asIntOf, w1, c1, c2, hnle, g1, g2, typeInfo, h3, h4, Question.forced, ho, h0, hy, hz, grownCap]
  · have z1 := ez _ z1
    rw [z4] at hn hy
    simp only at hn
    have hl := lenOf_ok (P := P) (w := w) hn hx
    simp only [Bool.not_false, if_true] at hy
    have hd : (match d with | .int _ => true | _ => false) = false := by
      cases d <;> first | rfl | exact absurd rfl (z3 _)
    simp [Builtin.append_, h1', z1, hu, hs, run_underlying z2, hd, hl, hnle, g1, g2, typeInfo, h3, h4, Question.forced, ho, hy, hz, grownCap]
end Go.Ex
