/- append, told whole. -/
import Derived.Test.YtnoidpondkfolaaGreatDoorExD
import Derived.Test.YtnoidpondkfolaaGreatDoorExB
import Derived.Test.YtnoidpondkfolaaGreatDoorExC
namespace Go.Ex
variable {P : Program} {ρ : Ren} {w : World} {a : T V} {act : Act} {o : Oper} {s s' : S}

theorem growRow_ok {st : Bool} {z len : Nat} {l : List V} {r : V} (h : growRow st z len l s = .ok r s') :
    ∃ t, layCells false l 0 .lf = some t ∧ r = .sl s.next 0 len (.of z) ∧ s'.mem = s.mem.put s.next (some (.cells t st)) ∧ s'.next = s.next + 1 := by
  unfold growRow at h
  split at h
  · cases h
  · rename_i t ht
    obtain ⟨b, s1, h1, h2⟩ := R.bind_eq_ok h
    rw [seqN_eq] at h2
    cases h2
    obtain ⟨rfl, k2, k3⟩ := new_ok h1
    exact ⟨t, ht, rfl, k2, k3⟩
theorem zeroCells_length (zs : Array Value) (n : Nat) : (Builtin.zeroCells zs n).size = n * zs.size := by simp [Builtin.zeroCells]
theorem grown_ok {st : Bool} {z len c : Nat} {l : List V} {r : V} (h : growRow st z len l s = .ok r s') (hm : MR ρ s.mem w) (hn : ρ s.next = none) {qs : List Value} (hr : VRs ρ l qs) (hq : qs.length = len * z) {zs : Array Value} (hz : zs.size = z) (hc : len ≤ c) (e : TypeId) :
    ∃ w' b ρ', (newRow e (qs ++ (Builtin.zeroCells zs (c - len)).toList).toArray).run P w = .ok b w' ∧ VR ρ' r (.slice (some b) len c) ∧ MR ρ' s'.mem w' ∧ Ext ρ ρ' s.next s'.next := by
  obtain ⟨t, h1, rfl, h3, h4⟩ := growRow_ok h
  have hsz : c * z = qs.length + (Builtin.zeroCells zs (c - len)).toList.length := by
    rw [show (Builtin.zeroCells zs (c - len)).toList.length = (c - len) * z from by simp [zeroCells_length, hz], hq, ← Nat.add_mul]
    congr 1; omega
  obtain ⟨w', k1, k2, k3⟩ := hm.made (P := P) st (rest := (Builtin.zeroCells zs (c - len)).toList) (room := c * z) e hn h1 hr hsz
  exact ⟨w', _, _, k1, ⟨⟨w.heap.size, 0, c * z, none⟩, Ren.with_at _ _ _, .inl ⟨c, rfl, hc, by simp⟩⟩, by rw [h3]; exact k2, by rw [h4]; exact k3⟩
theorem drew_heap (w : World) : w.drew.heap = w.heap := rfl
theorem le_grownCap (w : World) (need old : Nat) (e : TypeId) : need ≤ grownCap w need old e := by unfold grownCap; simp only [Question.cut]; omega
/-- A row of unknown room that has room: the same block, by a new name. -/
theorem regrow_ok {st : Bool} {b off len n z cap : Nat} {t : T V} {old add : List V} {r : V} {s1 s2 : S} {loc : Loc} {ys : List Value} (hb : s.mem.get b = some (.cells t st)) (hold : cellsOf t (len * z) off = some old) (hp : put b none s1 = .ok () s2) (h1 : s1.mem = s.mem) (h2 : s1.next = s.next)
    (h : growRow st z (len + n) (old ++ add) s2 = .ok r s') (hm : MR ρ s.mem w) (hn : ρ s.next = none) (hl : ρ b = some loc) (hy : VRs ρ add ys) (hylen : ys.length = n * z) (hfit : len + n ≤ cap) (hroom : loc.off + off + cap * z ≤ loc.size) :
    ∃ w' ρ', (storeCells ⟨loc.blk, loc.off + off + len * z, none⟩ ys).run P w = .ok () w' ∧ VR ρ' r (.slice (some ⟨loc.blk, loc.off + off, none⟩) (len + n) cap) ∧ MR ρ' s'.mem w' ∧ Ext ρ ρ' s.next s'.next := by
  obtain ⟨t', g1, rfl, g3, g4⟩ := growRow_ok h
  obtain ⟨_, p1, p2⟩ := put_ok hp
  have e2 : s2.next = s.next := p2.trans h2
  obtain ⟨loc', hl', cs, e, fr, q1, q2, q3, q4⟩ := hm.at_ b _ hb
  rw [hl] at hl'; cases hl'
  obtain ⟨c1, c2⟩ := cellsOf_ok hold
  obtain ⟨d1, d2, _⟩ := layCells_ok g1
  have hmul : len * z + n * z ≤ cap * z := by rw [← Nat.add_mul]; exact Nat.mul_le_mul_right z hfit
  have hfr : ∀ j, j < cs.size → ¬ (fr.1 ≤ j ∧ j < fr.2) := fun j hj => by
    rcases q3.1 with q3 | ⟨_, q3⟩ <;> omega
  obtain ⟨w', r1, r2, r3, r4⟩ := run_storeCells (P := P) e fr ys w loc.blk (loc.off + off + len * z) 0 cs q1 (by omega) (hy.one fun v hv => d1 v (List.mem_append.2 (.inr hv))) hfr
  have hf : ∀ c x k, (s.mem.put b none).get c = some x → ρ c = some k → k.blk ≠ loc.blk := fun c x k hc hk e => by
    rw [T.get_put] at hc
    split at hc
    · cases hc
    · rename_i hne
      exact hne (hm.far c b x _ k loc hc hb hk hl e)
  refine ⟨w', ρ.with s.next ⟨loc.blk, loc.off + off, loc.size, loc.kept⟩, r1, ?_, ?_, by rw [g4, e2]; exact Ren.with_ext _ hn⟩
  · rw [e2]
    exact ⟨_, Ren.with_at _ _ _, .inl ⟨cap, rfl, hfit, by simpa using hroom⟩⟩
  · rw [g3, p1, h1, e2]
    refine (hm.forget b).grow hn hf (fun j hj _ => r3 j hj) ⟨_, e, fr, r2, (layAt_size _ _ _).trans q2, ⟨q3.1, q3.2.env r4.2⟩, fun i v hv => ?_⟩ r4.2
    have le := Ren.with_le ⟨loc.blk, loc.off + off, loc.size, loc.kept⟩ hn
    show ∃ y, (layAt cs (loc.off + off + len * z + 0) ys)[loc.off + off + i]? = some y ∧ _
    rw [d2 i, T.get_lf] at hv
    split at hv
    · rename_i hi
      rw [Nat.add_zero, layAt_get _ _ _ _ (by omega)]
      simp only [List.length_append, Nat.sub_zero] at hi hv
      by_cases hlt : i < len * z
      · rw [if_neg (by omega)]
        rw [List.getElem?_append_left (by omega), ← c2 i hlt] at hv
        obtain ⟨y, y1, y2⟩ := q4 (off + i) v hv
        exact ⟨y, by rw [← y1]; congr 1; omega, VR.mono le _ _ y2⟩
      · have hal := hy.length
        rw [if_pos (by omega)]
        rw [List.getElem?_append_right (by omega), c1] at hv
        obtain ⟨y, y1, y2⟩ := hy.get hv
        exact ⟨y, by rw [← y1]; congr 1; omega, VR.mono le _ _ y2⟩
    · cases hv
theorem append_ok {ts : Array TypeId} {ty : TypeId} {v x r : V} {vv u : Value} (hm : MR ρ s.mem w) (hf : Fresh ρ s.next s'.next) (hv : VR ρ v vv) (hx : VR ρ x u) (h : appendOp P ts.toList v x s = .ok r s') :
    EfV P ρ w s s' r (Builtin.append_ ts ty #[vv, u]) := by
  unfold appendOp at h
  split at h
  · cases h
  · rename_i t hat
    obtain ⟨e, ht⟩ := appT_ok hat
    split at h
    · rename_i n len hn hlen
      unfold appGo at h
      split at h
      · cases h
      · rename_i hfit
        have hfit : (len + n) * (t.by8 + 1) ≤ 1073741824 := Nat.le_of_ble_eq_true hfit
        obtain ⟨add, s1, h1, h2⟩ := R.bind_eq_ok h
        obtain ⟨z, z1, z2, z3⟩ := ht.zv
        have hzv : ∃ zv, (∀ w, (zeroValue e).run P w = .ok zv w) ∧ zv.cells.size = t.z := by
          obtain ⟨zv, k1, k2⟩ := run_zeroValue (P := P) (ρ := ρ) (w := w) z1
          refine ⟨zv, fun w' => ?_, ?_⟩
          · unfold zeroV at z1
            split at z1
            · rename_i i hi
              split at z1
              · rename_i q hq
                simp [zeroValue, typeInfo, hi, hq] at k1 ⊢
                exact k1
              · cases z1
            · cases z1
          · have := k2.cells.length
            simp only [Array.length_toList] at this
            rw [this, z2, z3]
        obtain ⟨zv, zr, zs⟩ := hzv
        have hmd : MR ρ s.mem w.drew := hm.same (drew_heap w)
        obtain ⟨ys, y1, y2, y3, y4⟩ := appended_ok (P := P) ht hn h1 hm hx
        obtain ⟨yd, d1, d2, d3, d4⟩ := appended_ok (P := P) ht hn h1 hmd hx
        unfold appFit at h2
        split at h2
        · rename_i hal
          have hal : add.length = n * t.z := Nat.eq_of_beq_eq_true hal
          have hyl : ys.length = n * t.z := y2.length.trans hal
          have hdl : yd.length = n * t.z := d2.length.trans hal
          have hm1 : MR ρ s1.mem w := by rw [y3]; exact hm
          have hmd1 : MR ρ s1.mem w.drew := by rw [y3]; exact hmd
          -- what grows
          have grow : ∀ {st : Bool} {s2 : S} {old : List V} {os : List Value} {base : Option Addr} {sLen sCap : Nat}, vv = .slice base sLen sCap → sLen = len → sCap < len + n → MR ρ s2.mem w.drew → s2.next = s.next → growRow st t.z (len + n) (old ++ add) s2 = .ok r s' →
              VRs ρ old os → os.length = len * t.z → (Builtin.firstCells t.z len (.slice base len sCap)).run P w.drew = .ok ⟨os⟩ w.drew → EfV P ρ w s s' r (Builtin.append_ ts ty #[vv, u]) := by
            intro st s2 old os base sLen sCap ev el hgt hms hnx hg hos hosl hfc
            subst ev el
            have hn0 : ρ s2.next = none := by
              obtain ⟨_, _, _, _, g4⟩ := growRow_ok hg
              exact hf s2.next (by omega) (by omega)
            obtain ⟨w', b, ρ', k1, k2, k3, k4⟩ := grown_ok (P := P) hg hms hn0 (hos.append d2) (by rw [List.length_append, hosl, hdl, Nat.add_mul]) zs (le_grownCap w (sLen + n) sCap e) e
            refine ⟨ρ', w', _, ?_, k2, k3, by rw [← hnx]; exact k4⟩
            rw [append_grows ht hn hx hfit hgt hfc d1 zr]
            have ea : ((⟨os⟩ : Array Value) ++ (⟨yd⟩ ++ Builtin.zeroCells zv.cells (grownCap w (sLen + n) sCap e - (sLen + n)))) = ((os ++ yd) ++ (Builtin.zeroCells zv.cells (grownCap w (sLen + n) sCap e - (sLen + n))).toList).toArray := by
              apply Array.ext'; simp
            rw [ea, k1]
            rfl
          unfold appTo at h2
          split at h2
          · have ev := hv.nilsl_inv
            cases hlen
            split at h2
            · cases h2
              refine ⟨ρ, w, .slice none 0 0, ?_, rfl, hm1, by rw [y4]; exact Ext.refl _ _ _⟩
              rw [ev, append_fits ht hn hx hfit (Nat.le_refl _) y1]
            · rename_i m
              exact grow ev rfl (by omega) hmd1 y4 (by rw [Nat.zero_add]; exact h2) (old := []) (os := []) rfl (by simp) rfl
          · rename_i b off k c
            cases hlen
            unfold appKnown at h2
            split at h2
            · rename_i hle
              have hle : len + n ≤ c := Nat.le_of_ble_eq_true hle
              obtain ⟨⟨⟩, s2, h3, h4⟩ := R.bind_eq_ok h2
              rw [mkSl_eq] at h4
              cases h4
              have hv' := hv
              simp only [VR] at hv
              obtain ⟨loc, hl, rfl⟩ := hv
              obtain ⟨w', k1, k2, k3⟩ := setCells_run (P := P) h3 hm1 y2 hl
              refine ⟨ρ, w', .slice (some ⟨loc.blk, loc.off + off, none⟩) (len + n) c, ?_, ⟨loc, hl, rfl⟩, k2, by rw [k3, y4]; exact Ext.refl _ _ _⟩
              rw [append_fits ht hn hx hfit hle y1]
              have ea : (⟨loc.blk, loc.off + off, none⟩ : Addr).add (len * t.z) = ⟨loc.blk, loc.off + (off + len * t.z), none⟩ := by rw [add_none, Nat.add_assoc]
              have k1' : (storeCells (⟨loc.blk, loc.off + (off + len * t.z), none⟩ : Addr) ys).run P w = .ok () w' := k1
              simp only [ea, k1', Result.andThen_ok]
            · rename_i hle
              have hle : c < len + n := Nat.lt_of_not_le fun q => by
                have q1 : Nat.ble (len + n) c = true := Nat.ble_eq_true_of_le q
                have q2 : Nat.ble (len + n) c = false := hle
                rw [q1] at q2; cases q2
              obtain ⟨old, s2, h3, h4⟩ := R.bind_eq_ok h2
              obtain ⟨os, o1, o2, o3, o4⟩ := firstCells_ok (P := P) h3 rfl (Nat.le_refl _) hmd1 hv
              have hv' := hv
              simp only [VR] at hv'
              obtain ⟨loc, hl, ev⟩ := hv'
              have hol : os.length = len * t.z := by
                rw [o2.length]
                unfold firstCells at h3
                simp only at h3
                split at h3
                · rename_i e0; cases h3; exact e0.symm
                · rename_i m e0
                  obtain ⟨tt, st, _, q2, _⟩ := getCells_ok h3
                  rw [(cellsOf_ok q2).1]; exact e0.symm
              rw [ev] at o1
              exact grow ev rfl hle (by rw [o3]; exact hmd1) (o4.trans y4) h4 o2 hol o1
          · rename_i b off k z'
            cases hlen
            split at h2
            · cases h2
              have hv' := hv
              simp only [VR] at hv'
              obtain ⟨loc, hl, ⟨c, ev, hc1, hc2⟩ | ⟨e0, a0, ev⟩⟩ := hv'
              · refine ⟨ρ, w, vv, ?_, hv, hm1, by rw [y4]; exact Ext.refl _ _ _⟩
                have : ys = [] := List.length_eq_zero_iff.1 (by rw [hyl, Nat.zero_mul])
                subst this
                rw [ev, append_fits ht hn hx hfit hc1 y1]
                rfl
              · subst e0
                refine ⟨ρ, w, vv, ?_, hv, hm1, by rw [y4]; exact Ext.refl _ _ _⟩
                have : ys = [] := List.length_eq_zero_iff.1 (by rw [hyl, Nat.zero_mul])
                subst this
                rw [ev, append_fits ht hn hx hfit (Nat.le_refl _) y1]
                rfl
            · rename_i m _ _
              split at h2
              · rename_i hz
                have hz := Nat.eq_of_beq_eq_true hz
                obtain ⟨x, s2, h3, h4⟩ := R.bind_eq_ok h2
                obtain ⟨_, g1, g2, g3⟩ := get_ok h3
                rw [y3] at g1
                have g2 := g2.trans y3
                have g3 := g3.trans y4
                unfold appUnknown at h4
                split at h4
                · rename_i tt st
                  split at h4
                  · cases h4
                  · rename_i old hold
                    obtain ⟨⟨⟩, s3, h5, h6⟩ := R.bind_eq_ok h4
                    obtain ⟨_, p1, p2⟩ := put_ok h5
                    have hn0 : ρ s.next = none := by
                      obtain ⟨_, _, _, _, q4⟩ := growRow_ok h6
                      exact hf s.next (Nat.le_refl _) (by rw [q4, p2, g3]; omega)
                    have hmf : MR ρ s3.mem w.drew := by rw [p1, g2]; exact hmd.forget b
                    have hv' := hv
                    simp only [VR] at hv'
                    obtain ⟨loc, hl, ⟨c, ev, hc1, hc2⟩ | ⟨e0, a0, ev⟩⟩ := hv'
                    · by_cases hle : len + (m + 1) ≤ c
                      · obtain ⟨w', ρ', k1, k2, k3, k4⟩ := regrow_ok (P := P) g1 hold h5 g2 g3 h6 hm hn0 hl y2 hyl hle (by rw [hz]; exact hc2)
                        refine ⟨ρ', w', _, ?_, k2, k3, k4⟩
                        rw [ev, append_fits ht hn hx hfit hle y1]
                        simp only [add_none, k1, Result.andThen_ok]
                      · obtain ⟨os, o1, o2⟩ := hmd.cells (P := P) g1 hold hl
                        exact grow ev rfl (by omega) hmf (p2.trans g3) h6 o2 (by rw [o2.length, (cellsOf_ok hold).1]; rfl) o1
                    · subst e0
                      have hold' : old = [] := List.length_eq_zero_iff.1 (by rw [(cellsOf_ok hold).1]; simp)
                      subst hold'
                      exact grow ev rfl (by omega) hmf (p2.trans g3) h6 (os := []) rfl (by simp) (by simp [Builtin.firstCells, run_load0])
                · cases h4
              · cases h2
          · cases h2
        · cases h2
    · cases h
end Go.Ex

/- The other builtins, calls; all operations: the model does what the executor does. -/
namespace Go.Ex
variable {P : Program} {ρ : Ren} {w : World} {a : T V} {act : Act} {o : Oper} {s s' : S}

theorem lenV_eq (n : Nat) : lenV n = intV n := by unfold lenV; rw [seqN_eq]; rfl
theorem VR.intV (n : Nat) : VR ρ (Ex.intV n) (goInt n) := rfl
theorem len_ok {ts : Array TypeId} {t ty : TypeId} {x v : V} {u : Value} (ht0 : ts[0]? = some t) (hm : MR ρ s.mem w) (hx : VR ρ x u) (h : lenOp P t x s = .ok v s') : EfV P ρ w s s' v (Builtin.len_ ts ty #[u]) := by
  unfold lenOp at h
  split at h
  · rename_i n e ht
    cases h
    refine EfV.same (u := goInt n) ?_ (VR.intV n) hm rfl
    cases u <;> simp [Builtin.len_, ht0, run_underlying ht]
  · rename_i ar ht
    split at h
    · rename_i n e hu
      cases h
      refine EfV.same (u := goInt n) ?_ (VR.intV n) hm rfl
      cases u <;> simp [Builtin.len_, ht0, run_underlying ht, run_underlying hu]
    · cases h
  · rename_i e ht
    cases h
    have e := hx.nilsl_inv
    subst e
    exact EfV.same (u := goInt 0) (by simp [Builtin.len_, ht0, run_underlying ht]) (VR.intV 0) hm rfl
  · rename_i e b off n c ht
    cases h
    obtain ⟨a0, c', e⟩ := hx.sl_inv
    subst e
    exact EfV.same (u := goInt n) (by simp [Builtin.len_, ht0, run_underlying ht]) (VR.intV n) hm rfl
  · rename_i l ht
    cases h
    simp only [VR] at hx
    obtain ⟨q, rfl, rfl⟩ := hx
    rw [lenV_eq]
    refine EfV.same (u := goInt q.size) (by simp [Builtin.len_, ht0, run_underlying ht]) ?_ hm rfl
    have := VR.intV (ρ := ρ) (q.data.toList.map UInt8.toNat).length
    have e : (q.data.toList.map UInt8.toNat).length = q.size := by simp
    rw [e] at this ⊢
    exact this
  · rename_i k e ht
    obtain ⟨es, s1, h1, h2⟩ := R.bind_eq_ok h
    cases h2
    rw [lenV_eq]
    obtain ⟨k1, k2, ⟨rfl, rfl⟩ | ⟨r, es', c, rfl, hw, he⟩⟩ := mapOf_ok h1 hm hx
    · exact EfV.same (u := goInt 0) (by simp [Builtin.len_, ht0, run_underlying ht]) (VR.intV 0) hm k1
    · refine EfV.same (u := goInt es'.length) (by simp [Builtin.len_, ht0, run_underlying ht, MapKept.run_getObj_map hw]) ?_ hm k1
      rw [← he.length]
      exact VR.intV _
  · cases h
theorem lay0 {b off : Nat} {u : Unit} (h : setCells b off [] s = .ok u s') : s' = s := by cases h; rfl
theorem copy_ok {ts : Array TypeId} {t ty : TypeId} {d x v : V} {dv u : Value} (ht0 : ts[0]? = some t) (hm : MR ρ s.mem w) (hd : VR ρ d dv) (hx : VR ρ x u) (h : copyOp P t d x s = .ok v s') : EfV P ρ w s s' v (Builtin.copy_ ts ty #[dv, u]) := by
  unfold copyOp at h
  split at h
  · rename_i e ht
    split at h
    · rename_i z m n hz hm1 hn1
      unfold copyGo at h
      obtain ⟨l, s1, h1, h2⟩ := R.bind_eq_ok h
      obtain ⟨ys, y1, y2, y3, y4⟩ := firstCells_ok (P := P) h1 hm1 (Nat.min_le_left m n) hm hx
      have hl := lenOf_ok (P := P) (w := w) hm1 hx
      unfold copyTo at h2
      split at h2
      · rename_i b off k c
        cases hn1
        obtain ⟨⟨⟩, s2, h3, h4⟩ := R.bind_eq_ok h2
        rw [lenV_eq] at h4
        cases h4
        rcases hd.sl_addr with ⟨loc, c', hl', rfl⟩ | ⟨e0, _, a0, rfl⟩
        · obtain ⟨w', k1, k2, k3⟩ := setCells_run (P := P) h3 (by rw [y3]; exact hm) y2 hl'
          refine ⟨ρ, w', goInt (Nat.min m n), ?_, VR.intV _, k2, by rw [k3, y4]; exact Ext.refl _ _ _⟩
          simp [Builtin.copy_, ht0, run_underlying ht, hl, run_sizeOf hz, y1, k1]
        · subst e0
          have hl0 : l = [] := by
            have h0 : Nat.min m 0 = 0 := Nat.min_zero m
            rw [h0] at h1
            unfold firstCells at h1
            split at h1
            · cases h1; rfl
            · split at h1
              · cases h1; rfl
              · rename_i q e1; simp at e1
            · cases h1; rfl
            · cases h1
          subst hl0
          have := lay0 h3
          subst this
          simp only [VRs] at y2
          subst y2
          refine ⟨ρ, w, goInt (Nat.min m 0), ?_, VR.intV _, by rw [y3]; exact hm, by rw [y4]; exact Ext.refl _ _ _⟩
          simp [Builtin.copy_, ht0, run_underlying ht, hl, run_sizeOf hz]
          simp at y1
          simp [y1, storeCells]
      · cases h2
        cases hn1
        have e := hd.nilsl_inv
        subst e
        refine ⟨ρ, w, goInt 0, ?_, VR.intV _, by rw [y3]; exact hm, by rw [y4]; exact Ext.refl _ _ _⟩
        have h0 : Nat.min m 0 = 0 := Nat.min_zero m
        rw [h0] at y1
        simp [Builtin.copy_, ht0, run_underlying ht, hl, run_sizeOf hz, y1]
      · cases h2
    · cases h
  · cases h
theorem clear_ok {ts : Array TypeId} {t ty : TypeId} {x v : V} {u : Value} (ht0 : ts[0]? = some t) (hm : MR ρ s.mem w) (hx : VR ρ x u) (h : clearOp P t x s = .ok v s') : EfV P ρ w s s' v (Builtin.clear_ ts ty #[u]) := by
  unfold clearOp at h
  split at h
  · rename_i e ht
    cases h
    have e := hx.nilsl_inv
    subst e
    exact EfV.same (u := .tuple #[]) (by simp [Builtin.clear_, ht0, run_underlying ht]) ⟨[], rfl, rfl⟩ hm rfl
  · rename_i e b off n c ht
    split at h
    · rename_i z hz
      obtain ⟨⟨⟩, s2, h3, h4⟩ := R.bind_eq_ok h
      cases h4
      obtain ⟨zv, z1, z2⟩ := run_zeroValue (P := P) (ρ := ρ) (w := w) hz
      have hr : VRs ρ (repl n z.cells) (Builtin.zeroCells zv.cells n).toList := by
        unfold Builtin.zeroCells
        rw [zeros_eq]
        exact repl_ok z2.cells n
      rcases hx.sl_addr with ⟨loc, c', hl', rfl⟩ | ⟨e0, _, a0, rfl⟩
      · obtain ⟨w', k1, k2, k3⟩ := setCells_run (P := P) h3 hm hr hl'
        refine ⟨ρ, w', .tuple #[], ?_, ⟨[], rfl, rfl⟩, k2, by rw [k3]; exact Ext.refl _ _ _⟩
        cases n with
        | zero =>
          have e0 : (Builtin.zeroCells zv.cells 0).toList = [] := by simp [Builtin.zeroCells]
          rw [e0] at k1
          cases k1
          simp [Builtin.clear_, ht0, run_underlying ht]
        | succ n => simp [Builtin.clear_, ht0, run_underlying ht, z1, k1]
      · subst e0
        have := lay0 h3
        subst this
        exact EfV.same (u := .tuple #[]) (by simp [Builtin.clear_, ht0, run_underlying ht]) ⟨[], rfl, rfl⟩ hm rfl
    · cases h
  · cases h
theorem least_ok (k : IntKind) (x y : Int) (j : IntKind) : Builtin.min2 (.int k x) (.int j y) = pure (.int k (if y < x then y else x)) ∧ Builtin.max2 (.int k x) (.int j y) = pure (.int k (if y > x then y else x)) := ⟨rfl, rfl⟩
theorem least_eq (mx : Bool) (k : IntKind) (x y : Int) : least mx k x y = .int k (if mx then (if y > x then y else x) else (if y < x then y else x)) := by
  unfold least
  cases mx <;> simp only [ltI_eq]
  · split
    · rename_i h; have := of_decide_eq_true h; simp [this]
    · rename_i h; have := of_decide_eq_false h; simp [this]
  · split
    · rename_i h; have := of_decide_eq_true h; simp [this]
    · rename_i h; have := of_decide_eq_false h; simp [this]
theorem minMax_ok (mx : Bool) : ∀ {l : List V} {x v : V} {u : Value} {us : List Value}, minMax mx x l = some v → VR ρ x u → VRs ρ l us →
    ∃ r, (us.foldlM (if mx then Builtin.max2 else Builtin.min2) u : Sem Value).run P w = .ok r w ∧ VR ρ v r := by
  intro l
  induction l with
  | nil =>
    intro x v u us h hx hl
    simp only [VRs] at hl
    subst hl
    have : minMax mx x [] = some x := by cases x <;> rfl
    rw [this] at h
    cases h
    exact ⟨u, by simp, hx⟩
  | cons y l ih =>
    intro x v u us h hx hl
    simp only [VRs] at hl
    obtain ⟨yv, ys, rfl, h1, h2⟩ := hl
    unfold minMax at h
    split at h
    · rename_i e; cases e
    · rename_i k p j q l' e
      cases e
      have e1 := hx.int_inv
      have e2 := h1.int_inv
      subst e1 e2
      rw [least_eq] at h
      obtain ⟨r, r1, r2⟩ := ih (u := .int k (if mx then (if q > p then q else p) else (if q < p then q else p))) h (by simp [VR]) h2
      refine ⟨r, ?_, r2⟩
      rw [List.foldlM_cons, ← r1]
      cases mx <;> simp [Builtin.min2, Builtin.max2]
    · cases h
theorem optR_ok {y : String} {v : Option V} {r : V} (h : optR y v s = .ok r s') : v = some r ∧ s' = s := by
  cases v with
  | none => cases h
  | some v => cases h; exact ⟨rfl, rfl⟩
theorem min_ok {ts : Array TypeId} {ty : TypeId} {x v : V} {l : List V} {vs : List Value} {y : String} (mx : Bool) (hm : MR ρ s.mem w) (hl : VRs ρ (x :: l) vs) (h : optR y (minMax mx x l) s = .ok v s') :
    EfV P ρ w s s' v (if mx then Builtin.max_ ts ty ⟨vs⟩ else Builtin.min_ ts ty ⟨vs⟩) := by
  obtain ⟨h1, rfl⟩ := optR_ok h
  simp only [VRs] at hl
  obtain ⟨u, us, rfl, h2, h3⟩ := hl
  obtain ⟨r, r1, r2⟩ := minMax_ok (P := P) (w := w) mx h1 h2 h3
  refine EfV.same ?_ r2 hm rfl
  cases mx <;> simpa [Builtin.max_, Builtin.min_] using r1
theorem builtin_ok {b : Builtin} {ts : Array TypeId} {ty : TypeId} {consts : Array Bool} {args : List V} {vs : List Value} {v : V} (hm : MR ρ s.mem w) (hf : Fresh ρ s.next s'.next) (ha : VRs ρ args vs) (h : builtinOp P b ts.toList args s = .ok v s') :
    ∃ g, EfV P ρ w s s' v g ∧ builtin b ts ty consts ⟨vs⟩ = (do pure (.value (← g))) := by
  unfold builtinOp at h
  split at h
  · rename_i t l x hts
    have ht0 : ts[0]? = some t := by have := congrArg (·[0]?) hts; simpa using this
    have ha' := ha
    simp only [VRs] at ha
    obtain ⟨u, us, rfl, hu, rfl⟩ := ha
    unfold builtin1 at h
    split at h
    · exact ⟨_, len_ok (ty := ty) ht0 hm hu h, rfl⟩
    · exact ⟨_, clear_ok (ty := ty) ht0 hm hu h, rfl⟩
    · exact ⟨_, min_ok (ts := ts) (ty := ty) (y := "") false hm ha' (by cases h; cases v <;> rfl), rfl⟩
    · exact ⟨_, min_ok (ts := ts) (ty := ty) (y := "") true hm ha' (by cases h; cases v <;> rfl), rfl⟩
    · cases h
  · rename_i t l x y hts
    have ht0 : ts[0]? = some t := by have := congrArg (·[0]?) hts; simpa using this
    have ha' := ha
    simp only [VRs] at ha
    obtain ⟨u, us, rfl, hu, q, qs, rfl, hq, rfl⟩ := ha
    unfold builtin2 at h
    split at h
    · exact ⟨_, append_ok (ty := ty) hm hf hu hq h, rfl⟩
    · exact ⟨_, copy_ok (ty := ty) ht0 hm hu hq h, rfl⟩
    · exact ⟨_, delete_ok (ty := ty) ht0 hm hu hq h, rfl⟩
    · exact ⟨_, min_ok (ts := ts) (ty := ty) false hm ha' h, rfl⟩
    · exact ⟨_, min_ok (ts := ts) (ty := ty) true hm ha' h, rfl⟩
    · cases h
  · split at h
    · exact ⟨_, min_ok (ts := ts) (ty := ty) false hm ha h, rfl⟩
    · exact ⟨_, min_ok (ts := ts) (ty := ty) true hm ha h, rfl⟩
    · cases h
  · cases h

/-! ### Calls -/
/-- What must hold of a call, for the model to make it: known behind it, when it is made. -/
structure Made (P : Program) (s : S) (x : Nx) : Prop where
  call : ∀ f args, x = .call f args → ∃ fn, P.funcs[f]? = some fn ∧ fn.body.isSome = true ∧ (fn.name == "runtime.NumGoroutine") = false
  round : ∀ l args, x = .round l args → ∃ st p n t ps c d k, s.mem.get l = some (.loop st p n t ps c d k) ∧ ps.length = args.length
theorem run_getObj_loop' {l : Nat} {r : Loop} (h : w.heap[l]? = some (.loop r)) : (getObj l).run P w = .ok (.loop r) w := by simp [getObj, Sem.run, h]
theorem call_ok {c : Call} {x : Nx} (ho : o.op = .call c) (h : TR ρ a act.tmps) (g : GOK ρ) (hm : MR ρ s.mem w) (hf : Fresh ρ s.next s'.next) (hx : opCall P c a s = .ok x s') (hk : Made P s' x) : Ef P ρ w act o s s' x := by
  unfold opCall callOp at hx
  split at hx
  · rename_i b hc
    obtain ⟨v, h1, rfl⟩ := Rval_ok hx
    unfold callBuiltin at h1
    split at h1
    · rename_i args ha
      have hr := evls_ok h g ha
      obtain ⟨gg, h2, h3⟩ := builtin_ok (ty := o.type) (consts := c.args.map fun | .const _ => true | _ => false) hm hf hr h1
      refine Ef.of_val h2 ?_
      rw [← h3]
      have ea : c.args.map act.eval = ⟨c.args.toList.map act.eval⟩ := by apply Array.ext'; simp
      simp only [execOp, ho, resolve, hc, ea]
      rfl
    · cases h1
  · rename_i f hc
    unfold callValue at hx
    split at hx
    · rename_i fv args hfv ha
      have hr := evls_ok h g ha
      have hv := evl_ok h g hfv
      unfold callOf at hx
      split at hx
      · rename_i fid first cap
        cases hx
        simp only [VR] at hv
        obtain ⟨xs, cs, ev, h1, h2⟩ := hv
        obtain ⟨fn, k1, k2, k3⟩ := hk.call _ _ rfl
        refine ⟨ρ, w, .enter fid ((⟨xs⟩ ++ c.args.map act.eval) ++ ⟨cs⟩), ?_, ⟨rfl, ?_⟩, hm, Ext.refl _ _ _⟩
        · have k2' : fn.body.isNone = false := by cases e : fn.body <;> simp_all
          simp only [execOp, ho, resolve, hc, Deferred.ofValue, ev, invoke, callFunc, Sem.run_bind, Sem.run_pure, run_program, Result.andThen_ok, k1, k2', k3, Bool.false_eq_true, if_false]
        · have : ((⟨xs⟩ ++ c.args.map act.eval) ++ ⟨cs⟩ : Array Value).toList = xs ++ c.args.toList.map act.eval ++ cs := by simp
          rw [this]
          exact (h1.append hr).append h2
      · rename_i l
        cases hx
        simp only [VR] at hv
        obtain ⟨loc, hl, ev⟩ := hv
        obtain ⟨st, p, n, t, ps, cc, d, k, k1, k2⟩ := hk.round _ _ rfl
        obtain ⟨loc', hl', ff, tm, kk, q1, _⟩ := hm.at_ _ _ k1
        rw [hl] at hl'; cases hl'
        have hlen := hr.length
        have ea : c.args.map act.eval = ⟨c.args.toList.map act.eval⟩ := by apply Array.ext'; simp
        have hs : (Instr.yield loc.blk ⟨c.args.toList.map act.eval⟩).run P w = .ok (.round loc.blk ff (((⟨ps⟩ : Array Tmp).zip ⟨c.args.toList.map act.eval⟩).foldl (fun tmps (t, a) => tmps.setIfInBounds t a) tm) cc d) w := by
          have hlen' : (⟨c.args.toList.map act.eval⟩ : Array Value).size = (⟨ps⟩ : Array Tmp).size := by simp at hlen ⊢; omega
          simp only [Instr.yield, Instr.getLoop, Sem.run_bind, run_getObj_loop' q1, Result.andThen_ok, Sem.run_pure, hlen', ne_eq, not_true_eq_false, if_false]
        refine ⟨ρ, w, _, ?_, ⟨loc, _, hl, hr, hs⟩, hm, Ext.refl _ _ _⟩
        simp only [execOp, ho, resolve, hc, Deferred.ofValue, ev, invoke, ea, Sem.run_bind, Sem.run_pure, Result.andThen_ok]
        simpa using hs
      · cases hx
    · cases hx
  · cases hx

/-! ### All operations -/
theorem opP_ok {f : OF} {v : V} (hop : opC P o.op = .p f) (h : TR ρ a act.tmps) (g : GOK ρ) (hv : f a = some v) : Pu P ρ w act o v := by
  cases ho : o.op <;> rw [ho] at hop
  case move x => cases hop; exact move_ok ho h g hv
  case assign x => cases hop; exact assign_ok ho h g hv
  case pick c x y => cases hop; exact pick_ok ho h g hv
  case build t ps => cases hop; exact build_ok ho h g hv
  case load t x =>
    have hop : opLoad (shapeOf P t) (evl x) = .p f := hop
    unfold opLoad at hop; split at hop <;> cases hop
  case store t x y =>
    have hop : opStoreC (szOf P t) (evl x) (evl y) = .p f := hop
    unfold opStoreC at hop; split at hop <;> cases hop
  case nilCheck x => cases hop; exact nil_ok ho h g hv
  case binOp op t x y t' =>
    have hop : opBin P op t (evl x) (evl y) = .p f := hop
    unfold opBin at hop
    split at hop
    · rename_i k ht
      cases hb : binF op with
      | no => rw [hb] at hop; cases hop
      | mk sh f' =>
        rw [hb] at hop
        cases hop
        exact int_ok ho hb h g hv
    · cases hop
  case unOp op t x => cases hop; exact un_ok ho h g hv
  case convert t u x =>
    have hop : opConvC P t u (evl x) = .p f := hop
    unfold opConvC at hop
    split at hop
    · rename_i k ht hu; cases hop; exact conv_ok ho ht hu h g hv
    · cases hop
  case makeFunc fn l c => cases hop; exact func_ok ho h g hv
  case slice t x lo hi mx => cases hop; exact slice_ok ho h g hv
  case fieldAddr t x i =>
    have hop : opFieldAddrC (fieldOff P t i) (evl x) = .p f := hop
    unfold opFieldAddrC at hop
    split at hop
    · cases hop
    · rename_i n hn; cases hop; exact fieldAddr_ok ho hn h g hv
  case field t x i => cases hop; exact field_ok ho h g hv
  case indexAddr t x i => cases hop; exact indexAddr_ok ho h g hv
  case index t x i => cases hop; exact index_ok ho h g hv
  case extract x i => cases hop; exact extract_ok ho h g hv
  all_goals cases hop
theorem opM_ok {f : T V → S → R Nx} {x : Nx} (hop : opC P o.op = .m f) (h : TR ρ a act.tmps) (g : GOK ρ) (hm : MR ρ s.mem w) (hf : Fresh ρ s.next s'.next) (hx : f a s = .ok x s') (hk : Made P s' x) : Ef P ρ w act o s s' x := by
  cases ho : o.op <;> rw [ho] at hop
  case alloc t => cases hop; exact alloc_ok ho hm hf hx
  case box t y => cases hop; exact box_ok ho h g hm hf hx
  case buildSlice t n ps => cases hop; exact buildSlice_ok ho h g hm hf hx
  case load t y => exact load_ok ho h g hm hop hx
  case store t y z => exact store_ok ho h g hm hop hx
  case binOp op t y z t' =>
    have hop : opBin P op t (evl y) (evl z) = .m f := hop
    unfold opBin at hop
    split at hop
    · cases hb : binF op <;> rw [hb] at hop <;> cases hop
    · cases hop; exact eq_ok ho h g hm hx
  case convert t u y =>
    have hop : opConvC P t u (evl y) = .m f := hop
    unfold opConvC at hop
    split at hop
    · cases hop
    · cases hop; exact convert_ok ho h g hm hx
  case fieldAddr t y i =>
    have hop : opFieldAddrC (fieldOff P t i) (evl y) = .m f := hop
    unfold opFieldAddrC at hop
    split at hop <;> cases hop
  case makeMap t r => cases hop; exact makeMap_ok ho h g hm hf hx
  case makeSlice t y z => cases hop; exact makeSlice_ok ho h g hm hf hx
  case lookup t y z ok => cases hop; exact lookup_ok ho h g hm hx
  case mapUpdate t y z q => cases hop; exact update_ok (by simp [execOp, ho]) h g hm hx
  case insert t y z q => cases hop; exact update_ok (by simp [execOp, ho]) h g hm hx
  case range t y => cases hop; exact range_ok ho h g hm hf hx
  case next y b => cases hop; exact next_ok ho h g hm hx
  case entry y => cases hop; exact entry_ok ho h g hm hx
  case call c => cases hop; exact call_ok ho h g hm hf hx hk
  all_goals cases hop
end Go.Ex

/- Operations, regions, code, calls: each goes the same way over another memory that agrees on what was read and written. -/
namespace Go.Ex
variable {P : Program}

theorem opM_local {op : Op} {f : T V → S → R Nx} (h : opC P op = .m f) (a : T V) : Local (f a) := by
  cases op
  case alloc t => cases h; exact opAlloc_local
  case box t y => cases h; exact opBox_local
  case buildSlice t n ps => cases h; exact opBuildSlice_local
  case load t y =>
    have h : opLoad (shapeOf P t) (evl y) = .m f := h
    unfold opLoad at h
    split at h
    · cases h
    · cases h; exact opLoad1_local
    · cases h; exact opLoadN_local
  case store t y z =>
    have h : opStoreC (szOf P t) (evl y) (evl z) = .m f := h
    unfold opStoreC at h
    split at h
    · cases h
    · cases h; exact opStore_local
  case binOp op t y z t' =>
    have h : opBin P op t (evl y) (evl z) = .m f := h
    unfold opBin at h
    split at h
    · cases hb : binF op <;> rw [hb] at h <;> cases h
    · cases h; exact opEq_local
  case convert t u y =>
    have h : opConvC P t u (evl y) = .m f := h
    unfold opConvC at h
    split at h
    · cases h
    · cases h; exact opConv_local
  case fieldAddr t y i =>
    have h : opFieldAddrC (fieldOff P t i) (evl y) = .m f := h
    unfold opFieldAddrC at h
    split at h <;> cases h
  case makeMap t r => cases h; exact opMap_local
  case makeSlice t y z => cases h; exact opMake_local
  case lookup t y z ok => cases h; exact opLookup_local
  case mapUpdate t y z q => cases h; exact opUpdate_local
  case insert t y z q => cases h; exact opUpdate_local
  case range t y => cases h; exact opRange_local
  case next y b => cases h; exact opNext_local
  case entry y => cases h; exact opEntry_local
  case call c => cases h; exact opCall_local
  all_goals cases h

/-- Calls and rounds that look at memory by its names alone. -/
structure RecL (r : Rec) : Prop where
  call : ∀ f args, Local (r.call f args)
  round : ∀ l args, Local (r.round l args)
theorem runNx_local {r : Rec} (hr : RecL r) (x : Nx) : Local (runNx r x) := by
  cases x with
  | val v => exact Local.ok v
  | call f args => exact hr.call f args
  | round l args => exact hr.round l args
theorem runM_eq (r : Rec) (f : T V → S → R Nx) (t : T V) (s : S) : runM r f t s = (f t s).bind fun x s => runNx r x s := by
  unfold runM; rw [Rrec_eq]
theorem runM_local {r : Rec} (hr : RecL r) {f : T V → S → R Nx} {t : T V} (hf : Local (f t)) : Local (runM r f t) := by
  intro s m hs
  rw [runM_eq, runM_eq]
  exact (hf s m hs).bind hs fun x => runNx_local hr x

/-! ### Regions -/
/-- What follows looks at memory by its names alone. -/
def KLoc (r : Rec) (k : KA) : Prop := ∀ a, Local (k r a)
theorem putK_eq (k : KA) (d : Nat) (r : Rec) (t : T V) (n : Nat) (m : List Nat) (s : S) (v : V) : putK k d r t n m s v = if n ≤ d then .no "no such temporary" else k r ⟨t.put d (some v), n, m⟩ s := by
  unfold putK; rw [ite2_ble, seqT_put]
theorem putO_local {r : Rec} {k : KA} (hk : KLoc r k) (dst : Option Nat) (t : T V) (n : Nat) (m : List Nat) (v : V) : Local (fun s => putO k dst r t n m s v) := by
  cases dst with
  | none => exact hk _
  | some d =>
    intro s m' hs
    show Loc2 s m' (putK k d r t n m s v) (putK k d r t n m _ v)
    rw [putK_eq, putK_eq]
    split
    · exact Loc2.no _ _
    · exact hk _ s m' hs
theorem pStep_local {r : Rec} {k : KA} (hk : KLoc r k) (f : OF) (dst : Option Nat) (t : T V) (n : Nat) (m : List Nat) : Local (fun s => pStep k f dst r s t n m) := by
  intro s m' hs
  unfold pStep
  cases f t with
  | none => exact Loc2.no _ _
  | some v => exact putO_local hk dst t n m v s m' hs
theorem mStep_local {r : Rec} {k : KA} (hr : RecL r) (hk : KLoc r k) {f : T V → S → R Nx} (hf : ∀ t, Local (f t)) (dst : Option Nat) (t : T V) (n : Nat) (m : List Nat) : Local (fun s => mStep k f dst r s t n m) := by
  intro s m' hs
  show Loc2 s m' (R.rec _ _ (runM r f t s)) (R.rec _ _ (runM r f t _))
  rw [Rrec_eq, Rrec_eq]
  exact (runM_local hr (hf t) s m' hs).bind hs fun v => putO_local hk dst t n m v
theorem gStep_local {go skip : S → T V → Nat → List Nat → R A} {g : Option (Nat × Bool)} {t : T V} {n : Nat} {m : List Nat} (h1 : Local (fun s => go s t n m)) (h2 : Local (fun s => skip s t n m)) : Local (fun s => gStep go skip g s t n m) := by
  unfold gStep
  cases wantedV t g
  · exact h2
  · exact h1
/-- An operation that looks at memory by its names alone. -/
def OpL (x : OpC) : Prop := ∀ f, x = .m f → ∀ t, Local (f t)
theorem stepK_local {r : Rec} {k : KA} (hr : RecL r) (hk : KLoc r k) {o : It} (ho : OpL o.op) : KLoc r (stepK o k).f := by
  intro a
  obtain ⟨op, dst, b, g⟩ := o
  obtain ⟨t, n, m⟩ := a
  cases op with
  | p f =>
    cases g with
    | none => exact pStep_local hk f dst t n m
    | some g => exact gStep_local (skip := fun s t n m => putO k dst r t n m s (.tup [])) (pStep_local hk f dst t n m) (putO_local hk dst t n m _)
  | m f =>
    cases g with
    | none => exact mStep_local hr hk (ho f rfl) dst t n m
    | some g => exact gStep_local (skip := fun s t n m => putO k dst r t n m s (.tup [])) (mStep_local hr hk (ho f rfl) dst t n m) (putO_local hk dst t n m _)
  | no w =>
    cases g with
    | none => exact Local.no w
    | some g => exact gStep_local (skip := fun s t n m => putO k dst r t n m s (.tup [])) (mStep_local hr hk (fun _ => Local.no w) dst t n m) (putO_local hk dst t n m _)
theorem seqK_local {r : Rec} (hr : RecL r) : ∀ {l : List It}, (∀ o ∈ l, OpL o.op) → KLoc r (seqK l).f
  | [], _ => fun a => Local.ok a
  | o :: l, h => stepK_local hr (k := (seqK l).f) (seqK_local hr fun o ho => h o (by simp [ho])) (h o (by simp))
theorem logK_local {r : Rec} {k : KL} (hk : ∀ l, KLoc r (k l)) (b i : Nat) (dst : Option Nat) (l : Log) (t : T V) (n : Nat) (m : List Nat) (v : V) (x : Nat × Nat) : Local (fun s => logK k b i dst l r t n m s v x) := by
  obtain ⟨rd, w⟩ := x
  intro s m' hs
  show Loc2 s m' (Option.rec _ _ (logIn b i rd w l)) (Option.rec _ _ (logIn b i rd w l))
  cases logIn b i rd w l with
  | none => exact Loc2.no _ _
  | some l => exact putO_local (hk l) dst t n m v s m' hs
theorem dStep_local {r : Rec} {k : KL} (hr : RecL r) (hk : ∀ l, KLoc r (k l)) {f : T V → S → R Nx} (hf : ∀ t, Local (f t)) (b i : Nat) (dst : Option Nat) (l : Log) (t : T V) (n : Nat) (m : List Nat) : Local (fun s => dStep k f b i dst l r s t n m) := by
  intro s m' hs
  show Loc2 s m' (R.rec _ _ (apart (runM r f t) s)) (R.rec _ _ (apart (runM r f t) _))
  rw [Rrec_eq, Rrec_eq]
  exact (apart_local (runM_local hr (hf t)) s m' hs).bind hs fun x => logK_local hk b i dst l t n m x.1 x.2
theorem stepD_local {r : Rec} {k : KL} (hr : RecL r) (hk : ∀ l, KLoc r (k l)) {o : It} (ho : OpL o.op) (i : Nat) (l : Log) : KLoc r ((stepD o i k).f l) := by
  intro a
  obtain ⟨op, dst, b, g⟩ := o
  obtain ⟨t, n, m⟩ := a
  cases op with
  | p f =>
    cases g with
    | none => exact pStep_local (hk l) f dst t n m
    | some g => exact gStep_local (skip := fun s t n m => putO (k l) dst r t n m s (.tup [])) (pStep_local (hk l) f dst t n m) (putO_local (hk l) dst t n m _)
  | m f =>
    cases g with
    | none => exact dStep_local hr hk (ho f rfl) b i dst l t n m
    | some g => exact gStep_local (skip := fun s t n m => putO (k l) dst r t n m s (.tup [])) (dStep_local hr hk (ho f rfl) b i dst l t n m) (putO_local (hk l) dst t n m _)
  | no w =>
    cases g with
    | none => exact Local.no w
    | some g => exact gStep_local (skip := fun s t n m => putO (k l) dst r t n m s (.tup [])) (dStep_local hr hk (fun _ => Local.no w) b i dst l t n m) (putO_local (hk l) dst t n m _)
theorem drawK_local {r : Rec} (hr : RecL r) : ∀ {l : List It} (i : Nat) (lg : Log), (∀ o ∈ l, OpL o.op) → KLoc r ((drawK l i).f lg)
  | [], _, _, _ => fun a => Local.ok a
  | o :: l, i, lg, h => stepD_local hr (k := (drawK l (Nat.succ i)).f) (fun lg => drawK_local hr (i + 1) lg fun o ho => h o (by simp [ho])) (h o (by simp)) i lg
theorem prepGo_ops {draw : Bool} {ops : List Oper} : ∀ {l : List Oper} {i : Nat} {ms : List Nat} {acc : Log} {its : List It}, prepGo P draw ops l i ms acc = some its → ∀ o ∈ its, OpL o.op
  | [], _, _, _, its, h => by cases h; simp
  | o :: l, i, ms, acc, its, h => by
    have key : OpL (opC P o.op) := fun f hf t => opM_local hf t
    unfold prepGo at h
    split at h
    · cases h
    · split at h
      · split at h
        · rename_i l' hl
          cases h
          intro q hq
          rcases List.mem_cons.1 hq with rfl | hq
          · exact key
          · exact prepGo_ops hl q hq
        · cases h
      · simp only [seqN_eq] at h
        split at h
        · split at h
          · rename_i l' hl
            cases h
            intro q hq
            rcases List.mem_cons.1 hq with rfl | hq
            · exact key
            · exact prepGo_ops hl q hq
          · cases h
        · cases h
/-- Code that looks at memory by its names alone. -/
def CLoc (r : Rec) (c : CF) : Prop := ∀ ro a, Local (c r ro a)
theorem regionSeq_local {r : Rec} {k : KA} (hk : KLoc r k) : CLoc r (regionSeq k) := fun ro a s m hs => by
  unfold regionSeq
  rw [Rrec_eq, Rrec_eq]
  exact (hk a s m hs).bind hs fun a => Local.ok _
theorem regionC_local {r : Rec} (hr : RecL r) (draw : Bool) (ops : Array Oper) : CLoc r (regionC P draw ops).f := by
  unfold regionC
  cases h : prep P draw ops with
  | none => exact fun _ _ => Local.no _
  | some l =>
    have ho := prepGo_ops h
    cases draw with
    | true => exact regionSeq_local (drawK_local hr 0 [] ho)
    | false => exact regionSeq_local (seqK_local hr ho)

/-! ### Code -/
theorem seqE_local {r : Rec} {g : CF} (hg : CLoc r g) (ro : Option Nat) (e : E) (a : A) : Local (fun s => seqE g r ro s e a) := by
  cases e with
  | norm => exact hg ro a
  | exit j => exact Local.ok _
  | ret => exact Local.ok _
theorem seqF_local {r : Rec} {f g : CF} (hf : CLoc r f) (hg : CLoc r g) : CLoc r (seqF f g) := fun ro a s m hs => by
  unfold seqF
  rw [Rrec_eq, Rrec_eq]
  exact (hf ro a s m hs).bind hs fun x => seqE_local hg ro x.1 x.2
theorem condV_local {r : Rec} {f g : CF} (hf : CLoc r f) (hg : CLoc r g) (ro : Option Nat) (a : A) (c : V) : Local (fun s => condV f g r ro a s c) := by
  cases c with
  | bool b =>
    cases b
    · exact hg ro a
    · exact hf ro a
  | _ => exact Local.no _
theorem condF_local {r : Rec} {f g : CF} (hf : CLoc r f) (hg : CLoc r g) (c : OF) : CLoc r (condF c f g) := fun ro a s m hs => by
  unfold condF
  cases c a.tmps with
  | none => exact Loc2.no _ _
  | some v => exact condV_local hf hg ro a v s m hs
theorem blockE_local (id : Nat) (e : E) (a : A) : Local (fun s => blockE id s e a) := by
  cases e with
  | norm => exact Local.ok _
  | exit j =>
    intro s m hs
    show Loc2 s m (ite2 _ _ _) (ite2 _ _ _)
    cases Nat.beq j id
    · exact Loc2.ok _
    · exact Loc2.ok _
  | ret => exact Local.ok _
theorem blockF_local {r : Rec} {f : CF} (hf : CLoc r f) (id : Nat) : CLoc r (blockF id f) := fun ro a s m hs => by
  unfold blockF
  rw [Rrec_eq, Rrec_eq]
  exact (hf ro a s m hs).bind hs fun x => blockE_local id x.1 x.2
theorem rounds_local {body : A → S → R (E × A)} (hb : ∀ a, Local (body a)) : ∀ k a, Local (rounds body k a) := by
  intro k
  induction k with
  | zero => exact hb
  | succ k ih =>
    intro a s m hs
    show Loc2 s m (R.rec _ _ (rounds body k a s)) (R.rec _ _ (rounds body k a _))
    rw [Rrec_eq, Rrec_eq]
    refine (ih a s m hs).bind hs fun x => ?_
    obtain ⟨e, a⟩ := x
    cases e with
    | norm => exact ih a
    | exit j => exact Local.ok _
    | ret => exact Local.ok _
theorem loopF_local {r : Rec} {f : CF} (hf : CLoc r f) : CLoc r (loopF f) := fun ro a s m hs => by
  unfold loopF
  rw [Rrec_eq, Rrec_eq]
  refine (rounds_local (hf ro) 14 a s m hs).bind hs fun x => ?_
  obtain ⟨e, a⟩ := x
  cases e with
  | norm => exact Local.no _
  | exit j => exact Local.ok _
  | ret => exact Local.ok _
theorem jumpOf_local (p : Option Code) (a : A) : Local (jumpOf p a) := by
  intro s m hs
  unfold jumpOf
  split
  · exact Loc2.ok _
  · exact Loc2.ok _
  · exact Loc2.ok _
  · exact Loc2.no _ _
theorem rangeEnd_local (l : Nat) (a : A) : Local (rangeEnd l a) := by
  refine Local.bind (get_local l) fun x => ?_
  intro s m hs
  unfold rangeEndIn
  split
  · split
    · exact Loc2.no _ _
    · exact (put_local l none s m hs).bind hs fun _ => jumpOf_local _ a
  · exact Loc2.no _ _
theorem rangeCalled_local {r : Rec} (hr : RecL r) (l : Nat) (a : A) (x : Nx) : Local (rangeCalled r l a x) := by
  intro s m hs
  unfold rangeCalled
  split
  · exact (hr.call _ _ s m hs).bind hs fun _ => rangeEnd_local l a
  · exact Loc2.no _ _
theorem deferAt_local (ro : Option Nat) : Local (deferAt ro) := by
  cases ro with
  | none => exact Local.bind (new_local _) fun d => Local.ok _
  | some l =>
    refine Local.bind (get_local l) fun x => ?_
    intro s m hs
    unfold deferIn
    split
    · exact Loc2.ok _
    · exact Loc2.no _ _
theorem rangeNew_local {r : Rec} (hr : RecL r) (fv : V) (ps : List Nat) (c d : Code) (a : A) (k : Nat × List Nat) : Local (rangeNew r fv ps c d a k) := by
  refine Local.bind (new_local _) fun l => Local.bind (callOf_local) fun x => rangeCalled_local hr l _ x
theorem rangeF_local {r : Rec} (hr : RecL r) (f : OF) (ps : List Nat) (c d : Code) : CLoc r (rangeF f ps c d) := fun ro a s m hs => by
  unfold rangeF rangeStep
  cases f a.tmps with
  | none => exact Loc2.no _ _
  | some fv => exact (deferAt_local ro s m hs).bind hs fun k => rangeNew_local hr fv ps c d a k
theorem codeC_local {r : Rec} (hr : RecL r) : ∀ c : Code, CLoc r (codeC P c).f
  | .skip => fun _ _ => Local.ok _
  | .label _ => fun _ _ => Local.ok _
  | .region _ ops draw => regionC_local hr draw ops
  | .seq x y => seqF_local (codeC_local hr x) (codeC_local hr y)
  | .cond c x y => condF_local (codeC_local hr x) (codeC_local hr y) (evl c)
  | .block id x => blockF_local (codeC_local hr x) id
  | .loop x => loopF_local (codeC_local hr x)
  | .exit id => fun _ _ => Local.ok _
  | .ret => fun _ _ => Local.ok _
  | .rangeFunc f ps c d => rangeF_local hr (evl f) ps.toList c d
  | .goto _ => fun _ _ => Local.no _
  | .scope _ => fun _ _ => Local.no _
  | .refuse _ => fun _ _ => Local.no _

/-! ### Calls -/
theorem resultOf_local (a : T V) (x : ResultVar) : Local (resultOf P a x) := by
  cases x with
  | tmp t => exact optR_local
  | cell t ty => exact loadOp_local
theorem resultsOf_local (a : T V) : ∀ l : List ResultVar, Local (resultsOf P a l)
  | [] => Local.ok _
  | x :: l => Local.bind (resultOf_local a x) fun v => Local.bind (resultsOf_local a l) fun vs => Local.ok _
theorem takeMarks_local : ∀ l : List Nat, Local (takeMarks l)
  | [] => Local.ok _
  | d :: l => by
    refine Local.bind (get_local d) fun x => Local.bind ?_ fun _ => takeMarks_local l
    intro s m hs
    unfold takeIn
    split
    · exact put_local _ _ s m hs
    · exact Loc2.no _ _
theorem oneOf_local (vs : List V) : Local (oneOf vs) := by
  intro s m hs
  unfold oneOf
  split
  · exact Loc2.ok _
  · exact Loc2.ok _
theorem callEnd_local (rs : List ResultVar) (x : E × A) : Local (callEnd P rs x) := by
  intro s m hs
  unfold callEnd
  split
  · exact Loc2.no _ _
  · exact (takeMarks_local _ s m hs).bind hs fun _ => Local.bind (resultsOf_local _ rs) fun vs => oneOf_local vs
theorem callGo_local {r : Rec} {c : CF} (hc : CLoc r c) (n : Nat) (rs : List ResultVar) (args : List V) : Local (callGo P r n rs c args) := by
  intro s m hs
  unfold callGo
  split
  · exact (hc none _ s m hs).bind hs fun x => callEnd_local rs x
  · exact Loc2.no _ _
theorem callStep_local {r : Rec} (hr : RecL r) (f : FuncId) (args : List V) : Local (callStep P r f args) := by
  intro s m hs
  unfold callStep funcC
  cases P.funcs[f]? with
  | none => exact Loc2.no _ _
  | some fn =>
    cases hb : fn.body with
    | none => simp only [hb]; exact Loc2.no _ _
    | some c => simp only [hb]; exact callGo_local (codeC_local hr c) fn.ntmps fn.results.toList args s m hs
theorem roundEnd_local (l : Nat) (x : E × A) : Local (roundEnd l x) := by
  intro s m hs
  unfold roundEnd
  split
  · refine (get_local l s m hs).bind hs fun x => ?_
    intro s m hs
    unfold roundEndIn
    split
    · unfold roundLeft
      split
      · exact (put_local _ _ s m hs).bind hs fun _ => Local.ok _
      · exact (put_local _ _ s m hs).bind hs fun _ => Local.ok _
      · exact (put_local _ _ s m hs).bind hs fun _ => Local.ok _
    · exact Loc2.no _ _
  · exact Loc2.no _ _
theorem roundStep_local {r : Rec} (hr : RecL r) (l : Nat) (args : List V) : Local (roundStep P r l args) := by
  refine Local.bind (get_local l) fun x => ?_
  intro s m hs
  unfold roundIn
  split
  · split
    · unfold roundGo
      split
      · exact Loc2.no _ _
      · refine (codeC_local hr _ (some l) _ s m hs).bind hs fun x => ?_
        intro s m hs
        unfold roundThen
        split
        · refine (get_local l s m hs).bind hs fun y => ?_
          intro s m hs
          unfold roundBody
          split
          · exact (put_local _ _ s m hs).bind hs fun _ => Local.bind (codeC_local hr _ (some l) _) fun x => roundEnd_local l x
          · exact Loc2.no _ _
        · exact Loc2.no _ _
    · exact Loc2.no _ _
  · exact Loc2.no _ _
theorem recStep_local {r : Rec} (hr : RecL r) : RecL (recStep P r) := ⟨callStep_local hr, roundStep_local hr⟩
theorem rec0_local : RecL rec0 := ⟨fun _ _ => Local.no _, fun _ _ => Local.no _⟩
theorem recN_local : ∀ n, RecL (recN P n)
  | 0 => rec0_local
  | n + 1 => recStep_local (recN_local n)
end Go.Ex

/- An operation looks at the temporaries among its operands alone. -/
namespace Go.Ex
variable {P : Program} {t t' : T V}

theorem evl_same {x : Operand} (h : ∀ d, x = .tmp d → t.get d = t'.get d) : evl x t = evl x t' := by
  cases x with
  | tmp d => rw [evl_tmp, evl_tmp, h d rfl]
  | _ => rfl
theorem evls_same : ∀ {l : List Operand}, (∀ d, .tmp d ∈ l → t.get d = t'.get d) → evls t l = evls t' l
  | [], _ => rfl
  | x :: l, h => by
    rw [evls_cons, evls_cons, evl_same (t' := t') fun d e => h d (by simp [e]), evls_same (l := l) fun d e => h d (by simp [e])]
theorem evParts_same : ∀ {l : List (Nat × Operand)}, (∀ d, .tmp d ∈ l.map (·.2) → t.get d = t'.get d) → evParts t l = evParts t' l
  | [], _ => rfl
  | (i, x) :: l, h => by
    rw [evParts_cons, evParts_cons, evl_same (t' := t') fun d e => h d (by simp [e]), evParts_same (l := l) fun d e => h d (by simp only [List.map_cons]; exact List.mem_cons_of_mem _ e)]
theorem evO_same {x : Option Operand} (h : ∀ d, x = some (.tmp d) → t.get d = t'.get d) : evO t x = evO t' x := by
  cases x with
  | none => rfl
  | some x =>
    have ex := evl_same (x := x) (t := t) (t' := t') fun d e => h d (by rw [e])
    show Option.rec (motive := fun _ => Option (Option V)) none (fun v => some (some v)) (evl x t) = Option.rec (motive := fun _ => Option (Option V)) none (fun v => some (some v)) (evl x t')
    rw [ex]
/-- Do two rows of temporaries agree at these operands? -/
def Agree (l : List Operand) (t t' : T V) : Prop := ∀ d, .tmp d ∈ l → t.get d = t'.get d
theorem opC_same (op : Op) (h : Agree op.operands.toList t t') : (∀ f, opC P op = .p f → f t = f t') ∧ (∀ f, opC P op = .m f → f t = f t') := by
  unfold Agree at h
  cases op
  case move x => exact ⟨fun f e => (by cases e; exact evl_same (x := x) fun d e => h d (by simp [Op.operands, e])), fun f e => (by cases e)⟩
  case assign x => exact ⟨fun f e => (by cases e; exact evl_same (x := x) fun d e => h d (by simp [Op.operands, e])), fun f e => (by cases e)⟩
  case pick c x y =>
    refine ⟨fun f e => ?_, fun f e => by cases e⟩
    cases e
    unfold opPick
    rw [evl_same (x := c) (t' := t') fun d e => h d (by simp [Op.operands, e]), evl_same (x := x) (t' := t') fun d e => h d (by simp [Op.operands, e]), evl_same (x := y) (t' := t') fun d e => h d (by simp [Op.operands, e])]
  case alloc ty => exact ⟨fun f e => (by cases e), fun f e => (by cases e; rfl)⟩
  case box ty x =>
    refine ⟨fun f e => (by cases e), fun f e => ?_⟩
    cases e
    funext s
    show opBox (evl x) t s = opBox (evl x) t' s
    unfold opBox
    rw [evl_same (x := x) (t' := t') fun d e => h d (by simp [Op.operands, e])]
  case build ty ps =>
    refine ⟨fun f e => ?_, fun f e => by cases e⟩
    cases e
    unfold opBuild
    rw [evParts_same (t' := t') fun d e => h d (by simpa [Op.operands] using e)]
  case buildSlice ty n ps =>
    refine ⟨fun f e => (by cases e), fun f e => ?_⟩
    cases e
    funext s
    unfold opBuildSlice
    rw [evParts_same (t' := t') fun d e => h d (by simpa [Op.operands] using e)]
  case load ty x =>
    have key : ∀ f, opLoad (shapeOf P ty) (evl x) = .m f → f t = f t' := fun f e => by
      have ex := evl_same (x := x) (t := t) (t' := t') fun d e => h d (by simp [Op.operands, e])
      unfold opLoad at e
      split at e
      · cases e
      · cases e; funext s; unfold opLoad1; rw [ex]
      · cases e; funext s; unfold opLoadN; rw [ex]
    refine ⟨fun f e => ?_, fun f e => key f e⟩
    have e : opLoad (shapeOf P ty) (evl x) = .p f := e
    unfold opLoad at e; split at e <;> cases e
  case store ty x y =>
    have key : ∀ f, opStoreC (szOf P ty) (evl x) (evl y) = .m f → f t = f t' := fun f e => by
      have ex := evl_same (x := x) (t := t) (t' := t') fun d e => h d (by simp [Op.operands, e])
      have ey := evl_same (x := y) (t := t) (t' := t') fun d e => h d (by simp [Op.operands, e])
      unfold opStoreC at e
      split at e
      · cases e
      · cases e; funext s; unfold opStore; rw [ex, ey]
    refine ⟨fun f e => ?_, fun f e => key f e⟩
    have e : opStoreC (szOf P ty) (evl x) (evl y) = .p f := e
    unfold opStoreC at e; split at e <;> cases e
  case nilCheck x =>
    refine ⟨fun f e => ?_, fun f e => by cases e⟩
    cases e
    show nilCheckV (evl x t) = nilCheckV (evl x t')
    rw [evl_same (x := x) (t' := t') fun d e => h d (by simp [Op.operands, e])]
  case binOp op ty x y ty' =>
    have ex := evl_same (x := x) (t := t) (t' := t') fun d e => h d (by simp [Op.operands, e])
    have ey := evl_same (x := y) (t := t) (t' := t') fun d e => h d (by simp [Op.operands, e])
    refine ⟨fun f e => ?_, fun f e => ?_⟩
    · have e : opBin P op ty (evl x) (evl y) = .p f := e
      unfold opBin at e
      split at e
      · cases hb : binF op with
        | no => rw [hb] at e; cases e
        | mk sh g => rw [hb] at e; cases e; show opBinI g sh (evl x) (evl y) t = opBinI g sh (evl x) (evl y) t'; unfold opBinI; rw [ex, ey]
      · cases e
    · have e : opBin P op ty (evl x) (evl y) = .m f := e
      unfold opBin at e
      split at e
      · cases hb : binF op <;> rw [hb] at e <;> cases e
      · cases e; funext s; unfold opEq; rw [ex, ey]
  case unOp op ty x =>
    refine ⟨fun f e => ?_, fun f e => by cases e⟩
    cases e
    unfold opUn
    rw [evl_same (x := x) (t' := t') fun d e => h d (by simp [Op.operands, e])]
  case convert ty u x =>
    have ex := evl_same (x := x) (t := t) (t' := t') fun d e => h d (by simp [Op.operands, e])
    refine ⟨fun f e => ?_, fun f e => ?_⟩
    · have e : opConvC P ty u (evl x) = .p f := e
      unfold opConvC at e
      split at e
      · cases e; unfold opConvI; rw [ex]
      · cases e
    · have e : opConvC P ty u (evl x) = .m f := e
      unfold opConvC at e
      split at e
      · cases e
      · cases e; funext s; unfold opConv; rw [ex]
  case makeFunc fn l c =>
    refine ⟨fun f e => ?_, fun f e => by cases e⟩
    cases e
    unfold opFunc
    rw [evls_same (l := l.toList) (t' := t') fun d e => h d (by simp only [Op.operands, Array.toList_append, List.mem_append]; exact .inl e), evls_same (l := c.toList) (t' := t') fun d e => h d (by simp only [Op.operands, Array.toList_append, List.mem_append]; exact .inr e)]
  case makeMap ty r =>
    refine ⟨fun f e => (by cases e), fun f e => ?_⟩
    cases e
    funext s
    unfold opMap
    rw [evO_same (x := r) (t' := t') fun d e => h d (by simp [Op.operands, e])]
  case makeSlice ty x y =>
    refine ⟨fun f e => (by cases e), fun f e => ?_⟩
    cases e
    funext s
    unfold opMake
    rw [evl_same (x := x) (t' := t') fun d e => h d (by simp [Op.operands, e]), evl_same (x := y) (t' := t') fun d e => h d (by simp [Op.operands, e])]
  case slice ty x lo hi mx =>
    refine ⟨fun f e => ?_, fun f e => by cases e⟩
    cases e
    unfold opSlice
    rw [evl_same (x := x) (t' := t') fun d e => h d (by simp [Op.operands, e]), evO_same (x := lo) (t' := t') fun d e => h d (by simp [Op.operands, e]), evO_same (x := hi) (t' := t') fun d e => h d (by simp [Op.operands, e]),
      evO_same (x := mx) (t' := t') fun d e => h d (by simp [Op.operands, e])]
  case fieldAddr ty x i =>
    have ex := evl_same (x := x) (t := t) (t' := t') fun d e => h d (by simp [Op.operands, e])
    refine ⟨fun f e => ?_, fun f e => ?_⟩
    · have e : opFieldAddrC (fieldOff P ty i) (evl x) = .p f := e
      unfold opFieldAddrC at e
      split at e
      · cases e
      · cases e; unfold opFieldAddr; rw [ex]
    · have e : opFieldAddrC (fieldOff P ty i) (evl x) = .m f := e
      unfold opFieldAddrC at e
      split at e <;> cases e
  case field ty x i =>
    refine ⟨fun f e => ?_, fun f e => by cases e⟩
    cases e
    unfold opField
    rw [evl_same (x := x) (t' := t') fun d e => h d (by simp [Op.operands, e])]
  case indexAddr ty x i =>
    refine ⟨fun f e => ?_, fun f e => by cases e⟩
    cases e
    show indexAddrV P ty (evl x t) (evl i t) = indexAddrV P ty (evl x t') (evl i t')
    rw [evl_same (x := x) (t' := t') fun d e => h d (by simp [Op.operands, e]), evl_same (x := i) (t' := t') fun d e => h d (by simp [Op.operands, e])]
  case index ty x i =>
    refine ⟨fun f e => ?_, fun f e => by cases e⟩
    cases e
    unfold opIndex
    rw [evl_same (x := x) (t' := t') fun d e => h d (by simp [Op.operands, e]), evl_same (x := i) (t' := t') fun d e => h d (by simp [Op.operands, e])]
  case lookup ty x k ok =>
    refine ⟨fun f e => (by cases e), fun f e => ?_⟩
    cases e
    funext s
    unfold opLookup
    rw [evl_same (x := x) (t' := t') fun d e => h d (by simp [Op.operands, e]), evl_same (x := k) (t' := t') fun d e => h d (by simp [Op.operands, e])]
  case mapUpdate ty x y z =>
    refine ⟨fun f e => (by cases e), fun f e => ?_⟩
    cases e
    funext s
    unfold opUpdate
    rw [evl_same (x := x) (t' := t') fun d e => h d (by simp [Op.operands, e]), evl_same (x := y) (t' := t') fun d e => h d (by simp [Op.operands, e]), evl_same (x := z) (t' := t') fun d e => h d (by simp [Op.operands, e])]
  case insert ty x y z =>
    refine ⟨fun f e => (by cases e), fun f e => ?_⟩
    cases e
    funext s
    unfold opUpdate
    rw [evl_same (x := x) (t' := t') fun d e => h d (by simp [Op.operands, e]), evl_same (x := y) (t' := t') fun d e => h d (by simp [Op.operands, e]), evl_same (x := z) (t' := t') fun d e => h d (by simp [Op.operands, e])]
  case range ty x =>
    refine ⟨fun f e => (by cases e), fun f e => ?_⟩
    cases e
    funext s
    unfold opRange
    rw [evl_same (x := x) (t' := t') fun d e => h d (by simp [Op.operands, e])]
  case next x b =>
    refine ⟨fun f e => (by cases e), fun f e => ?_⟩
    cases e
    funext s
    unfold opNext
    rw [evl_same (x := x) (t' := t') fun d e => h d (by simp [Op.operands, e])]
  case entry x =>
    refine ⟨fun f e => (by cases e), fun f e => ?_⟩
    cases e
    funext s
    unfold opEntry
    rw [evl_same (x := x) (t' := t') fun d e => h d (by simp [Op.operands, e])]
  case extract x i =>
    refine ⟨fun f e => ?_, fun f e => by cases e⟩
    cases e
    show extractV (evl x t) i = extractV (evl x t') i
    rw [evl_same (x := x) (t' := t') fun d e => h d (by simp [Op.operands, e])]
  case call c =>
    refine ⟨fun f e => (by cases e), fun f e => ?_⟩
    cases e
    funext s
    unfold opCall callOp
    have ea : evls t c.args.toList = evls t' c.args.toList := evls_same fun d e => h d (by
      simp only [Op.operands, Call.operands, Array.toList_append, List.mem_append]
      exact .inr e)
    cases hc : c.callee with
    | builtin b => simp only [ea]
    | value f =>
      simp only [ea]
      rw [evl_same (x := f) (t' := t') fun d e => h d (by simp [Op.operands, Call.operands, hc, e])]
    | invoke r n => rfl
  all_goals exact ⟨fun f e => (by cases e), fun f e => (by cases e)⟩
end Go.Ex

/- Regions in their given order: the model does what the executor does. -/
namespace Go.Ex
variable {P : Program}

/-- The blocks of deferred calls that an activation owes. -/
def MarkR (ρ : Ren) : List Nat → List Deferred → Prop
  | [], ds => ds = []
  | d :: l, ds => ∃ k ds', ds = { target := .collected k.blk, args := #[] } :: ds' ∧ ρ d = some k ∧ MarkR ρ l ds'
theorem MarkR.mono {ρ ρ' : Ren} (h : Le ρ ρ') : ∀ {l : List Nat} {ds : List Deferred}, MarkR ρ l ds → MarkR ρ' l ds
  | [], _, k => k
  | _ :: _, _, k => by
    obtain ⟨b, ds, rfl, h1, h2⟩ := k
    exact ⟨b, ds, rfl, h _ _ h1, h2.mono h⟩
/-- An activation. -/
structure AR (ρ : Ren) (a : A) (act : Act) : Prop where
  tmps : TR ρ a.tmps act.tmps
  size : act.tmps.size = a.n
  marks : MarkR ρ a.marks act.defers
theorem AR.mono {ρ ρ' : Ren} (h : Le ρ ρ') {a : A} {act : Act} (k : AR ρ a act) : AR ρ' a act := ⟨k.tmps.mono h, k.size, k.marks.mono h⟩
noncomputable def A.set (a : A) (dst : Option Nat) (v : V) : A := match dst with
  | none => a
  | some d => ⟨a.tmps.put d (some v), a.n, a.marks⟩
theorem TR.put {ρ : Ren} {t : T V} {xs : Array Value} (h : TR ρ t xs) {d : Nat} (hd : d < xs.size) {v : V} {u : Value} (hv : VR ρ v u) : TR ρ (t.put d (some v)) (xs.setIfInBounds d u) := fun i => by
  rw [T.get_put]
  by_cases e : i = d
  · subst e
    rw [if_pos rfl]
    have : (xs.setIfInBounds i u).getD i undef = u := by simp [Array.getD_eq_getD_getElem?, hd]
    simp only [this]
    exact hv
  · rw [if_neg e]
    have : (xs.setIfInBounds d u).getD i undef = xs.getD i undef := by simp [Array.getD_eq_getD_getElem?, Array.getElem?_setIfInBounds, Ne.symm e]
    rw [this]
    exact h i
theorem AR.put {ρ : Ren} {a : A} {act : Act} (h : AR ρ a act) {dst : Option Nat} (hd : ∀ d, dst = some d → d < a.n) {v : V} {u : Value} (hv : VR ρ v u) : AR ρ (a.set dst v) (act.put dst u) := by
  cases dst with
  | none => exact h
  | some d =>
    refine ⟨h.tmps.put (by rw [h.size]; exact hd d rfl) hv, ?_, h.marks⟩
    show (act.tmps.setIfInBounds d u).size = a.n
    simp [h.size]

/-- What is asked of a call's end. -/
def EndR (ρ : Ren) (v : V) (s s' : S) (e : Ending) (w' : World) : Prop := ∃ u ρ', e = .returned u ∧ VR ρ' v u ∧ MR ρ' s'.mem w' ∧ Ext ρ ρ' s.next s'.next
/-- Calls and rounds are what the model makes. -/
structure RecOK (P : Program) (r : Rec) : Prop where
  loc : RecL r
  fn : ∀ f args s v s', r.call f args s = .ok v s' → ∃ fn, P.funcs[f]? = some fn ∧ fn.body.isSome = true ∧ (fn.name == "runtime.NumGoroutine") = false
  call : ∀ f args s v s', s.lim ≤ s.next → r.call f args s = .ok v s' → ∀ ρ w xs, GOK ρ → MR ρ s.mem w → Fresh ρ s.next s'.next → VRs ρ args xs → Calls P f ⟨xs⟩ w (EndR ρ v s s')
  lp : ∀ l args s v s', r.round l args s = .ok v s' → ∃ st p n t ps c d k, s.mem.get l = some (.loop st p n t ps c d k) ∧ ps.length = args.length
  round : ∀ l args s v s', s.lim ≤ s.next → r.round l args s = .ok v s' → ∀ ρ w xs loc nx, GOK ρ → MR ρ s.mem w → Fresh ρ s.next s'.next → ρ l = some loc → VRs ρ args xs → (Instr.yield loc.blk ⟨xs⟩).run P w = .ok nx w →
    ∃ f tm c d, nx = .round loc.blk f tm c d ∧ RoundIn Fence.wide 0 P loc.blk f tm c d w (EndR ρ v s s')
/-- The fence: none, but for the loop whose round is walked. -/
def Fw (ro : Option Nat) : Fence := { Fence.wide with round := ro }
theorem Fw_none : Fw none = Fence.wide := rfl
theorem Fw_some (l : Nat) : Fw (some l) = Fence.wide.inRound l := rfl
theorem callsIn_Fw {ro : Option Nat} {n : Nat} {f : FuncId} {args : Array Value} {w : World} {R : Ending → World → Prop} (h : Calls P f args w R) : CallsIn (Fw ro) n P f args w R := by
  have h1 : CallsIn Fence.wide n P f args w R := callsIn_wide.2 h
  exact h1
theorem roundIn_Fw {ro : Option Nat} {n l : Nat} {f : FuncId} {tm : Array Value} {c d : Code} {w : World} {R : Ending → World → Prop} (h : RoundIn Fence.wide 0 P l f tm c d w R) : RoundIn (Fw ro) n P l f tm c d w R :=
  ⟨trivial, fun c cs _ => h.2 c cs (room_wide _)⟩

variable {r : Rec} {o : Oper} {ρ : Ren} {w : World} {act : Act} {s s' : S} {ro : Option Nat} {n : Nat} {K : Act → World → Prop} {Q : Exit → Act → World → Prop}

theorem semAt_Fw (h : ∀ c, o.op ≠ .defer c) : Oper.semAt (Fw ro).round act.eval o = execOp act.eval o := Oper.semAt_eq _ _ _ h
theorem opM_defer {f : T V → S → R Nx} (h : opC P o.op = .m f) : ∀ c, o.op ≠ .defer c := fun c e => by rw [e] at h; cases h
theorem opP_defer {f : OF} (h : opC P o.op = .p f) : ∀ c, o.op ≠ .defer c := fun c e => by rw [e] at h; cases h
theorem GOK.ext {ρ ρ' : Ren} (g : GOK ρ) {a b : Nat} (h : Ext ρ ρ' a b) : GOK ρ' := g.mono h.le
/-- An operation that acts. -/
theorem runM_ok (hr : RecOK P r) {f : T V → S → R Nx} (hop : opC P o.op = .m f) {t : T V} {v : V} (hs : s.lim ≤ s.next) (h : runM r f t s = .ok v s') (g : GOK ρ) (ht : TR ρ t act.tmps) (hm : MR ρ s.mem w) (hf : Fresh ρ s.next s'.next)
    (hK : ∀ ρ' w' u, VR ρ' v u → MR ρ' s'.mem w' → Ext ρ ρ' s.next s'.next → K (act.put o.dst u) w') : o.wpIn (Fw ro) n P act w K Q := by
  rw [runM_eq] at h
  obtain ⟨x, s1, h1, h2⟩ := R.bind_eq_ok h
  have w1 := opM_local hop t s s.mem hs x s1 h1
  have hs1 : s1.lim ≤ s1.next := by rw [w1.lim]; exact Nat.le_trans hs w1.next
  have w2 := runNx_local hr.loc x s1 s1.mem hs1 v s' h2
  have hk : Made P s1 x := by
    refine ⟨fun f args e => ?_, fun l args e => ?_⟩
    · subst e; exact hr.fn _ _ _ _ _ h2
    · subst e; exact hr.lp _ _ _ _ _ h2
  obtain ⟨ρ1, w', nx, k1, k2, k3, k4⟩ := opM_ok hop ht g hm (hf.sub (Nat.le_refl _) w2.next) h1 hk
  refine ⟨fun _ _ => trivial, ?_⟩
  rw [semAt_Fw (opM_defer hop), k1]
  have hf1 : Fresh ρ1 s1.next s'.next := hf.after k4 w1.next
  cases x with
  | val v' =>
    cases h2
    cases nx <;> try exact k2.elim
    case value u => exact hK ρ1 w' u k2 k3 k4
    case skip =>
      have k2 : v = .tup [] := k2
      subst k2
      exact hK ρ1 w' undef ⟨[], rfl, rfl⟩ k3 k4
  | call f' args =>
    cases nx <;> try exact k2.elim
    case enter g' as =>
      obtain ⟨rfl, k2⟩ := k2
      refine ⟨fun e => (by simp [Fw, Fence.wide] at e), ?_⟩
      have hc := hr.call _ _ _ _ _ hs1 h2 ρ1 w' as.toList (g.ext k4) k3 hf1 k2
      refine CallsIn.mono (callsIn_Fw hc) fun e w'' he => ?_
      obtain ⟨u, ρ', rfl, q1, q2, q3⟩ := he
      exact hK ρ' w'' u q1 q2 (k4.trans q3 w1.next w2.next)
  | round l args =>
    have k2 : ∃ loc as, ρ1 l = some loc ∧ VRs ρ1 args as ∧ (Instr.yield loc.blk ⟨as⟩).run P w' = .ok nx w' := by cases nx <;> exact k2
    obtain ⟨loc, as, q1, q2, q3⟩ := k2
    obtain ⟨f', tm, c, d, rfl, q4⟩ := hr.round _ _ _ _ _ hs1 h2 ρ1 w' as loc nx (g.ext k4) k3 hf1 q1 q2 q3
    refine ⟨fun e => (by simp [Fw, Fence.wide] at e), RoundIn.mono (roundIn_Fw q4) fun e w'' he => ?_⟩
    obtain ⟨u, ρ', rfl, p1, p2, p3⟩ := he
    exact hK ρ' w'' u p1 p2 (k4.trans p3 w1.next w2.next)
/-- An operation that looks. -/
theorem runP_ok {f : OF} (hop : opC P o.op = .p f) {t : T V} {v : V} (h : f t = some v) (g : GOK ρ) (ht : TR ρ t act.tmps) (hK : ∀ u, VR ρ v u → K (act.put o.dst u) w) : o.wpIn (Fw ro) n P act w K Q := by
  obtain ⟨u, k1, k2⟩ := opP_ok (w := w) hop ht g h
  refine ⟨fun _ _ => trivial, ?_⟩
  rw [semAt_Fw (opP_defer hop), k1]
  exact hK u k2

/-! ### Guards -/
theorem VR.not_bool {v : V} {b : Bool} (h : VR ρ v (.bool b)) : v = .bool b := by
  cases v with
  | sl b' off len c =>
    obtain ⟨a0, c', e⟩ := h.sl_inv
    cases e
  | bool b' => have e := h.bool_inv; cases e; rfl
  | int k n => have e := h.int_inv; cases e
  | ptr b' off => obtain ⟨l, _, e⟩ := h.ptr_inv; cases e
  | _ => simp only [VR] at h <;> first
    | (cases h; done)
    | (obtain ⟨_, e, _⟩ := h; cases e; done)
    | (obtain ⟨_, _, e⟩ := h; cases e; done)
    | (obtain ⟨_, _, e, _⟩ := h; cases e; done)
theorem wanted_ok {ops : Array Oper} {gd : Option (Nat × Bool)} {t : T V} (h : guardAt ops.toList o = some gd) (ht : TR ρ t act.tmps) : Region.wanted o (yielded ops act.tmps) = wantedV t gd := by
  unfold guardAt at h
  unfold Region.wanted
  cases hg : o.guard with
  | none => rw [hg] at h; cases h; rfl
  | some p =>
    obtain ⟨j, want⟩ := p
    rw [hg] at h
    simp only at h ⊢
    split at h
    · rename_i d hd
      cases h
      unfold dstAt at hd
      split at hd
      · rename_i q hq
        have hq : ops[j]? = some q := by simpa using hq
        have hy : yielded ops act.tmps j = match act.tmps[d]? with
          | some (.bool b) => some b
          | _ => none := by
          unfold yielded
          simp only [hq, Option.bind_some, hd]
          rfl
        rw [hy]
        have htd := ht d
        show _ = Option.rec (motive := fun _ => Bool) false (isB want) (t.get d)
        cases hv : t.get d with
        | none =>
          rw [hv] at htd
          simp only at htd ⊢
          cases he : act.tmps[d]? with
          | none => rfl
          | some u =>
            have : act.tmps.getD d undef = u := by simp [Array.getD_eq_getD_getElem?, he]
            rw [this] at htd
            subst htd
            rfl
        | some v =>
          rw [hv] at htd
          simp only at htd ⊢
          cases he : act.tmps[d]? with
          | none =>
            have : act.tmps.getD d undef = undef := by simp [Array.getD_eq_getD_getElem?, he]
            rw [this] at htd
            cases v with
            | bool b => have := htd.bool_inv; cases this
            | _ => rfl
          | some u =>
            have : act.tmps.getD d undef = u := by simp [Array.getD_eq_getD_getElem?, he]
            rw [this] at htd
            cases v with
            | bool b =>
              have e := htd.bool_inv
              subst e
              cases b <;> cases want <;> rfl
            | _ =>
              cases u with
              | bool b => exact absurd htd.not_bool (by simp)
              | _ => rfl
      · cases hd
    · cases h

/-! ### One operation, and the rest -/
/-- What one operation of a region has come to. -/
def Step (r : Rec) (it : It) (t : T V) (s : S) (v : V) (s' : S) : Prop :=
  (wantedV t it.g = true ∧ ((∃ f, it.op = .p f ∧ f t = some v ∧ s' = s) ∨ (∃ f, it.op = .m f ∧ runM r f t s = .ok v s'))) ∨ (wantedV t it.g = false ∧ v = .tup [] ∧ s' = s)
theorem putO_inv {k : KA} {dst : Option Nat} {a : A} {v : V} {a' : A} (h : putO k dst r a.tmps a.n a.marks s v = .ok a' s') : (∀ d, dst = some d → d < a.n) ∧ k r (a.set dst v) s = .ok a' s' := by
  cases dst with
  | none => exact ⟨fun d e => (by cases e), h⟩
  | some d =>
    have h : putK k d r a.tmps a.n a.marks s v = .ok a' s' := h
    rw [putK_eq] at h
    split at h
    · cases h
    · exact ⟨fun d' e => (by cases e; omega), h⟩
theorem step_ok (hr : RecOK P r) {ops : Array Oper} {i b : Nat} {gd : Option (Nat × Bool)} (ho : ops[i]? = some o) (hgd : guardAt ops.toList o = some gd) {t : T V} {v : V} (hs : s.lim ≤ s.next) (h : Step r ⟨opC P o.op, o.dst, b, gd⟩ t s v s') (g : GOK ρ) (ht : TR ρ t act.tmps)
    (hm : MR ρ s.mem w) (hf : Fresh ρ s.next s'.next) (hK : ∀ ρ' w' u, VR ρ' v u → MR ρ' s'.mem w' → Ext ρ ρ' s.next s'.next → K (act.put o.dst u) w') : wpOpIn (Fw ro) n P ops Q i K act w := by
  unfold wpOpIn
  simp only [ho]
  rw [wanted_ok hgd ht]
  rcases h with ⟨h0, ⟨f, h1, h2, rfl⟩ | ⟨f, h1, h2⟩⟩ | ⟨h0, rfl, rfl⟩
  · have h0 : wantedV t gd = true := h0
    rw [if_pos h0]
    exact runP_ok h1 h2 g ht fun u hu => hK ρ w u hu hm (Ext.refl _ _ _)
  · have h0 : wantedV t gd = true := h0
    rw [if_pos h0]
    exact runM_ok hr h1 hs h2 g ht hm hf hK
  · have h0 : wantedV t gd = false := h0
    rw [if_neg (by rw [h0]; decide)]
    exact ⟨fun _ _ => trivial, hK ρ w undef ⟨[], rfl, rfl⟩ hm (Ext.refl _ _ _)⟩
theorem stepK_inv {k : KA} {it : It} {a a' : A} (h : (stepK it k).f r a s = .ok a' s') : ∃ v s1, Step r it a.tmps s v s1 ∧ (∀ d, it.dst = some d → d < a.n) ∧ k r (a.set it.dst v) s1 = .ok a' s' := by
  obtain ⟨op, dst, b, gd⟩ := it
  obtain ⟨t, n, m⟩ := a
  have pcase : ∀ f, pStep k f dst r s t n m = .ok a' s' → ∃ v, f t = some v ∧ putO k dst r t n m s v = .ok a' s' := fun f h => by
    unfold pStep at h
    cases hv : f t with
    | none => rw [hv] at h; cases h
    | some v => rw [hv] at h; exact ⟨v, rfl, h⟩
  have mcase : ∀ f, mStep k f dst r s t n m = .ok a' s' → ∃ v s1, runM r f t s = .ok v s1 ∧ putO k dst r t n m s1 v = .ok a' s' := fun f h => by
    unfold mStep at h
    rw [Rrec_eq] at h
    obtain ⟨v, s1, h1, h2⟩ := R.bind_eq_ok h
    exact ⟨v, s1, h1, h2⟩
  have gcase : ∀ (go : S → T V → Nat → List Nat → R A), gStep go (fun s t n m => putO k dst r t n m s (.tup [])) gd s t n m = .ok a' s' →
      (wantedV t gd = true ∧ go s t n m = .ok a' s') ∨ (wantedV t gd = false ∧ putO k dst r t n m s (.tup []) = .ok a' s') := fun go h => by
    unfold gStep at h
    rw [ite2_eq] at h
    split at h
    · rename_i e; exact .inl ⟨e, h⟩
    · rename_i e; exact .inr ⟨by simpa using e, h⟩
  cases op with
  | p f =>
    have key : wantedV t gd = true → pStep k f dst r s t n m = .ok a' s' → ∃ v s1, Step r ⟨.p f, dst, b, gd⟩ t s v s1 ∧ (∀ d, dst = some d → d < n) ∧ k r (A.set ⟨t, n, m⟩ dst v) s1 = .ok a' s' := fun e h => by
      obtain ⟨v, h1, h2⟩ := pcase f h
      obtain ⟨h3, h4⟩ := putO_inv (a := ⟨t, n, m⟩) h2
      exact ⟨v, s, .inl ⟨e, .inl ⟨f, rfl, h1, rfl⟩⟩, h3, h4⟩
    cases gd with
    | none => exact key rfl h
    | some g =>
      rcases gcase _ h with ⟨e, h⟩ | ⟨e, h⟩
      · exact key e h
      · obtain ⟨h3, h4⟩ := putO_inv (a := ⟨t, n, m⟩) h
        exact ⟨_, s, .inr ⟨e, rfl, rfl⟩, h3, h4⟩
  | m f =>
    have key : wantedV t gd = true → mStep k f dst r s t n m = .ok a' s' → ∃ v s1, Step r ⟨.m f, dst, b, gd⟩ t s v s1 ∧ (∀ d, dst = some d → d < n) ∧ k r (A.set ⟨t, n, m⟩ dst v) s1 = .ok a' s' := fun e h => by
      obtain ⟨v, s1, h1, h2⟩ := mcase f h
      obtain ⟨h3, h4⟩ := putO_inv (a := ⟨t, n, m⟩) h2
      exact ⟨v, s1, .inl ⟨e, .inr ⟨f, rfl, h1⟩⟩, h3, h4⟩
    cases gd with
    | none => exact key rfl h
    | some g =>
      rcases gcase _ h with ⟨e, h⟩ | ⟨e, h⟩
      · exact key e h
      · obtain ⟨h3, h4⟩ := putO_inv (a := ⟨t, n, m⟩) h
        exact ⟨_, s, .inr ⟨e, rfl, rfl⟩, h3, h4⟩
  | no y =>
    cases gd with
    | none => cases h
    | some g =>
      rcases gcase _ h with ⟨e, h⟩ | ⟨e, h⟩
      · obtain ⟨v, s1, h1, h2⟩ := mcase _ h
        rw [runM_eq] at h1
        cases h1
      · obtain ⟨h3, h4⟩ := putO_inv (a := ⟨t, n, m⟩) h
        exact ⟨_, s, .inr ⟨e, rfl, rfl⟩, h3, h4⟩
theorem Step.local (hr : RecL r) {it : It} (ho : OpL it.op) {t : T V} {v : V} (hs : s.lim ≤ s.next) (h : Step r it t s v s') : s.next ≤ s'.next ∧ s'.lim = s.lim := by
  rcases h with ⟨_, ⟨f, _, _, rfl⟩ | ⟨f, h1, h2⟩⟩ | ⟨_, _, rfl⟩
  · exact ⟨Nat.le_refl _, rfl⟩
  · have := runM_local hr (ho f h1 t) s s.mem hs v s' h2
    exact ⟨this.next, this.lim⟩
  · exact ⟨Nat.le_refl _, rfl⟩
/-- A region in its given order. -/
theorem seqK_ok (hr : RecOK P r) {ops : Array Oper} {ms : List Nat} {acc : Log} : ∀ {l : List Oper} {i : Nat} {its : List It} {a a' : A} {s s' : S} {ρ : Ren} {w : World} {act : Act}, ops.toList.drop i = l → prepGo P false ops.toList l i ms acc = some its →
    s.lim ≤ s.next → (seqK its).f r a s = .ok a' s' → GOK ρ → AR ρ a act → MR ρ s.mem w → Fresh ρ s.next s'.next →
    (∀ ρ' w' act', AR ρ' a' act' → MR ρ' s'.mem w' → Ext ρ ρ' s.next s'.next → Q .normal act' w') → wpOpsIn (Fw ro) n P ops Q (List.range' i l.length) act w := by
  intro l
  induction l with
  | nil =>
    intro i its a a' s s' ρ w act _ hp _ h g ha hm _ hQ
    cases hp
    cases h
    exact hQ ρ w act ha hm (Ext.refl _ _ _)
  | cons o l ih =>
    intro i its a a' s s' ρ w act hd hp hs h g ha hm hf hQ
    have ho : ops[i]? = some o := by
      have := congrArg (·[0]?) hd
      simpa using this
    have hd' : ops.toList.drop (i + 1) = l := by
      have := congrArg List.tail hd
      simpa using this
    unfold prepGo at hp
    split at hp
    · cases hp
    · rename_i gd hgd
      simp only at hp
      split at hp
      · rename_i its' hits
        cases hp
        obtain ⟨v, s1, h1, h2, h3⟩ := stepK_inv (it := ⟨opC P o.op, o.dst, 0, gd⟩) (k := (seqK its').f) h
        have hl := Step.local hr.loc (fun f hf t => opM_local hf t) hs h1
        have hs1 : s1.lim ≤ s1.next := by rw [hl.2]; exact Nat.le_trans hs hl.1
        have hl2 := seqK_local hr.loc (prepGo_ops hits) (a.set o.dst v) s1 s1.mem hs1 a' s' h3
        rw [List.length_cons, List.range'_succ, wpOpsIn_cons]
        refine step_ok hr ho hgd hs h1 g ha.tmps hm (hf.sub (Nat.le_refl _) hl2.next) fun ρ' w' u q1 q2 q3 => ?_
        refine ih hd' hits hs1 h3 (g.ext q3) ((ha.mono q3.le).put h2 q1) q2 (hf.after q3 hl.1) fun ρ2 w2 act2 p1 p2 p3 => ?_
        exact hQ ρ2 w2 act2 p1 p2 (q3.trans p3 hl.1 hl2.next)
      · cases hp
end Go.Ex
