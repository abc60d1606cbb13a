/- Calls: the model does what the executor does. -/
import Derived.Test.YtnoidpondkfolaaGreatDoorExF
namespace Go.Ex
variable {P : Program} {r : Rec}

/-! ### Results -/
theorem loadOp_ok {ρ : Ren} {w : World} {t : TypeId} {x : Option V} {v : V} {u : Value} {s s' : S} (h : loadOp P t x s = .ok v s') (hm : MR ρ s.mem w) (hx : ∀ y, x = some y → VR ρ y u) :
    ∃ q, (do loadVar t (← asAddr u) : Sem Value).run P w = .ok q w ∧ VR ρ v q ∧ s'.mem = s.mem ∧ s'.next = s.next := by
  unfold loadOp at h
  split at h
  · rename_i y
    have hy := hx y rfl
    unfold load at h
    split at h
    · rename_i b off
      split at h
      · rename_i n hn
        obtain ⟨q, q1, q2, q3, q4⟩ := loadAt_ok (P := P) hn hm h hy
        obtain ⟨l, hl, rfl⟩ := hy.ptr_inv
        refine ⟨q, ?_, q2, q3, q4⟩
        simpa [Instr.loadAt, Instr.sureAddr, asAddr] using q1
      · cases h
    · cases h
  · cases h
theorem orUndef_ok {ρ : Ren} {t : T V} {xs : Array Value} (ht : TR ρ t xs) (d : Nat) : ∀ y, orUndef (t.get d) = some y → VR ρ y (xs.getD d undef) := fun y h => by
  rw [orUndef_eq] at h
  cases h
  have := ht d
  cases hv : t.get d with
  | none => rw [hv] at this; simp only at this; rw [this]; exact ⟨[], rfl, rfl⟩
  | some v => rw [hv] at this; exact this
def resOne (xs : Array Value) (x : ResultVar) : Sem Value := match x with
  | .tmp d => pure (xs.getD d undef)
  | .cell a ty => do loadVar ty (← asAddr (xs.getD a undef))
theorem results_eq (fn : Func) (xs : Array Value) : results fn xs = (do
    let vs ← fn.results.mapM (resOne xs)
    pure (if h : vs.size = 1 then vs[0] else .tuple vs)) := by
  unfold results
  congr 1
theorem resultsOf_ok {ρ : Ren} {w : World} {t : T V} {xs : Array Value} (ht : TR ρ t xs) : ∀ {rs : List ResultVar} {vs : List V} {s s' : S}, resultsOf P t rs s = .ok vs s' → MR ρ s.mem w →
    ∃ us, (rs.mapM (resOne xs) : Sem (List Value)).run P w = .ok us w ∧ VRs ρ vs us ∧ s'.mem = s.mem ∧ s'.next = s.next := by
  intro rs
  induction rs with
  | nil => intro vs s s' h hm; cases h; exact ⟨[], rfl, rfl, rfl, rfl⟩
  | cons x rs ih =>
    intro vs s s' h hm
    unfold resultsOf at h
    obtain ⟨v, s1, h1, h2⟩ := R.bind_eq_ok h
    obtain ⟨vs', s2, h3, h4⟩ := R.bind_eq_ok h2
    cases h4
    have hv : ∃ u, (resOne xs x).run P w = .ok u w ∧ VR ρ v u ∧ s1.mem = s.mem ∧ s1.next = s.next := by
      cases x with
      | tmp d =>
        obtain ⟨e1, e2⟩ := optR_ok h1
        subst e2
        exact ⟨_, rfl, orUndef_ok ht d v e1, rfl, rfl⟩
      | cell d ty => exact loadOp_ok h1 hm (orUndef_ok ht d)
    obtain ⟨u, u1, u2, u3, u4⟩ := hv
    obtain ⟨us, k1, k2, k3, k4⟩ := ih h3 (by rw [u3]; exact hm)
    refine ⟨u :: us, ?_, ⟨_, _, rfl, u2, k2⟩, k3.trans u3, k4.trans u4⟩
    rw [List.mapM_cons]
    simp only [Sem.run_bind]
    rw [u1]
    simp only [Result.andThen_ok]
    rw [k1]
    rfl
theorem results_ok {ρ : Ren} {w : World} {t : T V} {fn : Func} {xs : Array Value} (ht : TR ρ t xs) {vs : List V} {v : V} {s s1 s' : S} (h : resultsOf P t fn.results.toList s = .ok vs s1) (h2 : oneOf vs s1 = .ok v s') (hm : MR ρ s.mem w) :
    ∃ u, (results fn xs).run P w = .ok u w ∧ VR ρ v u ∧ s'.mem = s.mem ∧ s'.next = s.next := by
  obtain ⟨us, k1, k2, k3, k4⟩ := resultsOf_ok (P := P) ht h hm
  have hl := k2.length
  refine ⟨if h : (⟨us⟩ : Array Value).size = 1 then (⟨us⟩ : Array Value)[0] else .tuple ⟨us⟩, ?_, ?_⟩
  · rw [results_eq]
    simp only [Sem.run_bind, Array.mapM_eq_mapM_toList, Sem.run_map]
    rw [k1]
    rfl
  · unfold oneOf at h2
    split at h2
    · cases h2
      simp only [VRs] at k2
      obtain ⟨u, _, rfl, k2, rfl⟩ := k2
      exact ⟨k2, k3, k4⟩
    · rename_i hne
      cases h2
      have : ¬ (⟨us⟩ : Array Value).size = 1 := fun e => by
        have e : us.length = 1 := e
        rw [hl] at e
        obtain ⟨x, rfl⟩ := List.length_eq_one_iff.1 e
        exact hne x rfl
      rw [dif_neg this]
      exact ⟨⟨us, rfl, k2⟩, k3, k4⟩

/-! ### A call's end -/
theorem take_ok {ρ : Ren} {d : Nat} {k : Loc} {x : AB} {s s1 s2 : S} {w : World} {u : Unit} (h1 : get d s = .ok x s1) (h2 : takeIn d x s1 = .ok u s2) (hm : MR ρ s.mem w) (hk : ρ d = some k) :
    s2.next = s.next ∧ ∃ w', (Instr.takeDeferred k.blk).run P w = .ok [] w' ∧ MR ρ s2.mem w' := by
  obtain ⟨_, k1, k2, k3⟩ := get_ok h1
  unfold takeIn at h2
  split at h2
  · obtain ⟨_, j1, j2⟩ := put_ok h2
    obtain ⟨k', hk', q⟩ := hm.at_ _ _ k1
    rw [hk] at hk'; cases hk'
    have q : w.heap[k.blk]? = some (.deferred (some [])) := q
    have hlt : k.blk < w.heap.size := (Array.getElem?_eq_some_iff.1 q).1
    refine ⟨j2.trans k3, { w with heap := w.heap.setIfInBounds k.blk (.deferred none) }, ?_, ?_⟩
    · simp [Instr.takeDeferred, getObj, setObj, Sem.run, q]
    · rw [j1, k2]
      refine hm.write k1 hk (fun j hj _ => heap_other hj) ?_
      show (w.heap.setIfInBounds k.blk (.deferred none))[k.blk]? = some (.deferred none)
      simp [hlt]
  · cases h2
theorem leaves_ok {fn : Func} {t : T V} {xs : Array Value} {n : Nat} {RR : Ending → World → Prop} : ∀ {l : List Nat} {ds : List Deferred} {s s1 : S} {ρ : Ren} {w : World} {u : Unit}, takeMarks l s = .ok u s1 → MarkR ρ l ds → MR ρ s.mem w → TR ρ t xs →
    (∀ w', MR ρ s1.mem w' → s1.next = s.next → ∃ v, (results fn xs).run P w' = .ok v w' ∧ RR (.returned v) w') → LeavesInM Fence.wide n P fn xs RR ds .returning w
  | [], ds, s, s1, ρ, w, u, h, hd, hm, ht, hR => by
    cases h
    have hd : ds = [] := hd
    subst hd
    exact hR w hm rfl
  | d :: l, ds, s, s1, ρ, w, u, h, hd, hm, ht, hR => by
    obtain ⟨k, ds, rfl, h1, h2⟩ := hd
    unfold takeMarks at h
    obtain ⟨x, s2, h3, h4⟩ := R.bind_eq_ok h
    obtain ⟨⟨⟩, s3, h5, h6⟩ := R.bind_eq_ok h4
    obtain ⟨e1, w', k1, k2⟩ := take_ok (P := P) h3 h5 hm h1
    refine ⟨by simp, .inl ⟨k.blk, w', rfl, k1, ?_⟩⟩
    exact leaves_ok h6 h2 k2 ht fun w2 m2 e2 => hR w2 m2 (e2.trans e1)
theorem argTmps_ok {ρ : Ren} : ∀ {l : List V} {i : Nat} {t t' : T V}, argTmps l i t = some t' → ∀ j, t'.get j = if i ≤ j ∧ j < i + l.length then l[j - i]? else t.get j
  | [], i, t, t', h, j => by
    cases h
    rw [if_neg (fun h => by simp only [List.length_nil] at h; omega)]
  | v :: l, i, t, t', h, j => by
    unfold argTmps at h
    rw [seqT_put] at h
    rw [argTmps_ok (ρ := ρ) h j, T.get_put]
    simp only [List.length_cons, Nat.succ_eq_add_one]
    by_cases e : j = i
    · subst e
      rw [if_neg (by omega), if_pos rfl, if_pos (by omega)]
      simp
    · by_cases h2 : i + 1 ≤ j ∧ j < i + 1 + l.length
      · rw [if_pos h2, if_pos (by omega)]
        obtain ⟨q, rfl⟩ : ∃ q, j = i + 1 + q := ⟨j - (i + 1), by omega⟩
        rw [show i + 1 + q - (i + 1) = q from by omega, show i + 1 + q - i = q + 1 from by omega]
        simp
      · rw [if_neg h2, if_neg e, if_neg (by omega)]
/-- A function's activation, as it begins. -/
theorem begin_ok {ρ : Ren} {args : List V} {xs : List Value} {t : T V} {n : Nat} (h : argTmps args 0 .lf = some t) (hx : VRs ρ args xs) (hn : args.length ≤ n) : AR ρ ⟨t, n, []⟩ { tmps := ⟨xs⟩ ++ Array.replicate (n - (⟨xs⟩ : Array Value).size) undef, defers := [] } := by
  have hl := hx.length
  refine ⟨fun i => ?_, by simp [hl]; omega, rfl⟩
  show match t.get i with
    | some v => VR ρ v _
    | none => _
  rw [argTmps_ok (ρ := ρ) h i, T.get_lf]
  by_cases hi : 0 ≤ i ∧ i < 0 + args.length
  · rw [if_pos hi]
    have hi' : i < args.length := by omega
    obtain ⟨v, hv⟩ : ∃ v, args[i]? = some v := ⟨args[i], by simp [hi']⟩
    obtain ⟨u, hu, hr⟩ := hx.get hv
    simp only [Nat.sub_zero, hv]
    have : ((⟨xs⟩ ++ Array.replicate (n - (⟨xs⟩ : Array Value).size) undef : Array Value)).getD i undef = u := by
      have hi2 : i < xs.length := by omega
      simp [Array.getD_eq_getD_getElem?, Array.getElem?_append, hi2] at hu ⊢
      exact hu
    rw [this]; exact hr
  · rw [if_neg hi]
    have hi2 : ¬ i < xs.length := by omega
    simp [Array.getD_eq_getD_getElem?, Array.getElem?_append, hi2]
    by_cases h3 : i - xs.length < n - xs.length
    · simp [h3]
    · simp [h3]
theorem funcC_inv {f : FuncId} {n : Nat} {rs : List ResultVar} {c : CF} (h : funcC P f = .mk n rs c) : ∃ fn b, P.funcs[f]? = some fn ∧ fn.body = some b ∧ n = fn.ntmps ∧ rs = fn.results.toList ∧ c = (codeC P b).f := by
  unfold funcC at h
  cases hf : P.funcs[f]? with
  | none => rw [hf] at h; cases h
  | some fn =>
    rw [hf] at h
    simp only at h
    cases hb : fn.body with
    | none => rw [hb] at h; cases h
    | some b =>
      rw [hb] at h
      cases h
      exact ⟨fn, b, rfl, hb, rfl, rfl, rfl⟩
/-- No function with a body has a name that the machine takes for its own. -/
def Named (P : Program) : Prop := ∀ (f : FuncId) (fn : Func), P.funcs[f]? = some fn → fn.body.isSome = true → (fn.name == "runtime.NumGoroutine") = false
theorem callStep_inv {f : FuncId} {args : List V} {s s' : S} {v : V} (h : callStep P r f args s = .ok v s') : ∃ fn b t e a s1, P.funcs[f]? = some fn ∧ fn.body = some b ∧ argTmps args 0 .lf = some t ∧ args.length ≤ fn.ntmps ∧
    (codeC P b).f r none ⟨t, fn.ntmps, []⟩ s = .ok (e, a) s1 ∧ (e = .norm ∨ e = .ret) ∧ ∃ s2 s3 vs, takeMarks a.marks s1 = .ok () s2 ∧ resultsOf P a.tmps fn.results.toList s2 = .ok vs s3 ∧ oneOf vs s3 = .ok v s' := by
  unfold callStep at h
  cases hc : funcC P f with
  | no => rw [hc] at h; cases h
  | mk n rs c =>
    obtain ⟨fn, b, h1, h2, rfl, rfl, rfl⟩ := funcC_inv hc
    rw [hc] at h
    have h : callGo P r fn.ntmps fn.results.toList (codeC P b).f args s = .ok v s' := h
    unfold callGo at h
    split at h
    · rename_i t ht hle
      obtain ⟨⟨e, a⟩, s1, h3, h4⟩ := R.bind_eq_ok h
      have hle := Nat.le_of_ble_eq_true hle
      unfold callEnd at h4
      split at h4
      · cases h4
      · rename_i e' t' n' m' hne heq
        cases heq
        obtain ⟨⟨⟩, s2, h5, h6⟩ := R.bind_eq_ok h4
        obtain ⟨vs, s3, h7, h8⟩ := R.bind_eq_ok h6
        refine ⟨fn, b, t, e, _, s1, h1, h2, ht, hle, h3, ?_, s2, s3, vs, h5, h7, h8⟩
        cases e with
        | norm => exact .inl rfl
        | ret => exact .inr rfl
        | exit j => exact (hne j rfl).elim
    · cases h
theorem callStep_ok (hr : RecOK P r) (hmix : P.follows .mixedOrders = true) {f : FuncId} {args : List V} {s s' : S} {v : V} (hs : s.lim ≤ s.next) (h : callStep P r f args s = .ok v s') {ρ : Ren} {w : World} {xs : List Value} (g : GOK ρ) (hm : MR ρ s.mem w)
    (hf : Fresh ρ s.next s'.next) (hx : VRs ρ args xs) : Calls P f ⟨xs⟩ w (EndR ρ v s s') := by
  obtain ⟨fn, b, t, e, a, s1, h1, h2, h3, h4, h5, he, s2, s3, vs, h6, h7, h8⟩ := callStep_inv h
  have w1 := codeC_local hr.loc b none _ s .lf hs _ _ h5
  have hs1 : s1.lim ≤ s1.next := by rw [w1.lim]; exact Nat.le_trans hs w1.next
  have w2 := takeMarks_local a.marks s1 .lf hs1 _ _ h6
  have hs2 : s2.lim ≤ s2.next := by rw [w2.lim]; exact Nat.le_trans hs1 w2.next
  have w3 := resultsOf_local (P := P) a.tmps fn.results.toList s2 .lf hs2 _ _ h7
  have hs3 : s3.lim ≤ s3.next := by rw [w3.lim]; exact Nat.le_trans hs2 w3.next
  have w4 := oneOf_local vs s3 .lf hs3 _ _ h8
  have hn : s1.next ≤ s'.next := Nat.le_trans w2.next (Nat.le_trans w3.next w4.next)
  refine callsIn_wide (n := 0).1 ?_
  refine callsIn_of_wp_marks h1 h2 trivial ?_ rfl
  have hcode : b.wpIn (Fw none) 0 P (bodyPostM Fence.wide 0 P fn (EndR ρ v s s')) { tmps := ⟨xs⟩ ++ Array.replicate (fn.ntmps - (⟨xs⟩ : Array Value).size) undef, defers := [] } w := by
    refine code_ok hr hmix b hs h5 g (begin_ok h3 hx h4) hm (hf.sub (Nat.le_refl _) hn) rfl fun ρ1 w1' act1 q1 q2 q3 => ?_
    have key : LeavesInM Fence.wide 0 P fn act1.tmps (EndR ρ v s s') act1.defers .returning w1' := by
      refine leaves_ok h6 q1.marks q2 q1.tmps fun w2' m2 e2 => ?_
      obtain ⟨u, u1, u2, u3, u4⟩ := results_ok (P := P) q1.tmps h7 h8 m2
      exact ⟨u, u1, u, ρ1, rfl, u2, by rw [u3]; exact m2, by rw [u4, e2]; exact q3⟩
    rcases he with rfl | rfl <;> exact key
  exact hcode
end Go.Ex

/- Rounds, and the whole: the model does what the executor does. -/
namespace Go.Ex
variable {P : Program} {r : Rec}

theorem setAll_ok {ρ : Ren} : ∀ {ps : List Nat} {vs : List V} {t t' : T V} {us : List Value} {xs : Array Value} {n : Nat}, setAll ps vs t = some t' → belowAll n ps = true → VRs ρ vs us → TR ρ t xs → xs.size = n →
    ps.length = vs.length ∧ TR ρ t' ((ps.zip us).foldl (fun tmps (x : Nat × Value) => tmps.setIfInBounds x.1 x.2) xs) ∧ ((ps.zip us).foldl (fun tmps (x : Nat × Value) => tmps.setIfInBounds x.1 x.2) xs).size = n
  | [], [], t, t', us, xs, n, h, _, hv, ht, hn => by
    cases h
    have hv : us = [] := hv
    subst hv
    exact ⟨rfl, ht, hn⟩
  | p :: ps, v :: vs, t, t', us, xs, n, h, hb, hv, ht, hn => by
    obtain ⟨u, us, rfl, h1, h2⟩ := hv
    unfold setAll at h
    rw [seqT_put] at h
    unfold belowAll at hb
    split at hb
    · cases hb
    · rename_i hlt
      have hlt : p < xs.size := by
        rcases Nat.lt_or_ge p xs.size with q | q
        · exact q
        · rw [hn] at q; rw [Nat.ble_eq_true_of_le q] at hlt; cases hlt
      obtain ⟨k1, k2, k3⟩ := setAll_ok (xs := xs.setIfInBounds p u) h hb h2 (ht.put hlt h1) (by simp [hn])
      exact ⟨by simp [k1], k2, k3⟩
  | [], _ :: _, _, _, _, _, _, h, _, _, _, _ => by cases h
  | _ :: _, [], _, _, _, _, _, h, _, _, _, _ => by cases h
theorem setAll_len : ∀ {ps : List Nat} {vs : List V} {t t' : T V}, setAll ps vs t = some t' → ps.length = vs.length
  | [], [], _, _, _ => rfl
  | p :: ps, v :: vs, t, t', h => by
    unfold setAll at h
    rw [seqT_put] at h
    simp [setAll_len h]
  | [], _ :: _, _, _, h => by cases h
  | _ :: _, [], _, _, h => by cases h
theorem roundStep_inv {l : Nat} {args : List V} {s s' : S} {v : V} (h : roundStep P r l args s = .ok v s') : ∃ st p n t ps c b d s1 t' a s2, get l s = .ok (.loop st p n t ps c b d) s1 ∧ belowAll n ps = true ∧ setAll ps args t = some t' ∧
    (codeC P c).f r (some l) ⟨t', n, []⟩ s1 = .ok (.norm, a) s2 ∧ ∃ p2 n2 t2 ps2 c2 b2 d2 s3 s4 e a4 s5, get l s2 = .ok (.loop .ready p2 n2 t2 ps2 c2 b2 d2) s3 ∧ put l (some (.loop .busy p2 n2 t2 ps2 c2 b2 d2)) s3 = .ok () s4 ∧
      (codeC P b).f r (some l) a s4 = .ok (e, a4) s5 ∧ ∃ st6 p6 n6 t6 ps6 c6 b6 d6 s6, get l s5 = .ok (.loop st6 p6 n6 t6 ps6 c6 b6 d6) s6 ∧ roundLeft l n6 t6 ps6 c6 b6 d6 e s6 = .ok v s' := by
  unfold roundStep at h
  obtain ⟨x, s1, h1, h2⟩ := R.bind_eq_ok h
  unfold roundIn at h2
  split at h2
  · rename_i st p n t ps c b d
    split at h2
    · rename_i hb
      unfold roundGo at h2
      split at h2
      · cases h2
      · rename_i t' ht'
        obtain ⟨⟨e1, a⟩, s2, h3, h4⟩ := R.bind_eq_ok h2
        unfold roundThen at h4
        split at h4
        · rename_i a' heq
          cases heq
          obtain ⟨y, s3, h5, h6⟩ := R.bind_eq_ok h4
          unfold roundBody at h6
          split at h6
          · rename_i p2 n2 t2 ps2 c2 b2 d2
            obtain ⟨⟨⟩, s4, h7, h8⟩ := R.bind_eq_ok h6
            obtain ⟨⟨e, a4⟩, s5, h9, h10⟩ := R.bind_eq_ok h8
            refine ⟨st, p, n, t, ps, c, b, d, s1, t', a, s2, h1, hb, ht', h3, p2, n2, t2, ps2, c2, b2, d2, s3, s4, e, a4, s5, h5, h7, h9, ?_⟩
            unfold roundEnd at h10
            split at h10
            · rename_i e' t4 n4 heq
              cases heq
              obtain ⟨z, s6, h11, h12⟩ := R.bind_eq_ok h10
              unfold roundEndIn at h12
              split at h12
              · exact ⟨_, _, _, _, _, _, _, _, s6, h11, h12⟩
              · cases h12
            · cases h10
          · cases h6
        · cases h4
    · cases h2
  · cases h2
/-- A loop's block is written. -/
theorem loopPut_ok {ρ : Ren} {w : World} {l n : Nat} {st st' : LoopState} {p p' : Option Code} {t : T V} {ps : List Nat} {c b : Code} {d : Nat} {s s1 s2 : S} {k : Loc} {u : Unit} (h1 : get l s = .ok (.loop st p n t ps c b d) s1) (h2 : put l (some (.loop st' p' n t ps c b d)) s1 = .ok u s2)
    (hm : MR ρ s.mem w) (hk : ρ l = some k) : s2.next = s.next ∧ ∃ f tm kk, w.heap[k.blk]? = some (.loop ⟨st, p, f, tm, ⟨ps⟩, c, b, kk⟩) ∧ MR ρ s2.mem { w with heap := w.heap.setIfInBounds k.blk (.loop ⟨st', p', f, tm, ⟨ps⟩, c, b, kk⟩) } := by
  obtain ⟨_, k1, k2, k3⟩ := get_ok h1
  obtain ⟨_, j1, j2⟩ := put_ok h2
  obtain ⟨k', hk', f, tm, kk, q1, q2, q3, dl, q4, q5⟩ := hm.at_ _ _ k1
  rw [hk] at hk'; cases hk'
  have hlt : k.blk < w.heap.size := (Array.getElem?_eq_some_iff.1 q1).1
  refine ⟨j2.trans k3, f, tm, kk, q1, ?_⟩
  rw [j1, k2]
  exact hm.write k1 hk (fun j hj _ => heap_other hj) ⟨f, tm, kk, by simp [hlt], q2, q3, dl, q4, q5⟩
theorem roundStep_ok (hr : RecOK P r) (hmix : P.follows .mixedOrders = true) {l : Nat} {args : List V} {s s' : S} {v : V} (hs : s.lim ≤ s.next) (h : roundStep P r l args s = .ok v s') {ρ : Ren} {w : World} {xs : List Value} {loc : Loc} {nx : Next} (g : GOK ρ) (hm : MR ρ s.mem w)
    (hf : Fresh ρ s.next s'.next) (hl : ρ l = some loc) (hx : VRs ρ args xs) (hy : (Instr.yield loc.blk ⟨xs⟩).run P w = .ok nx w) :
    ∃ f tm c d, nx = .round loc.blk f tm c d ∧ RoundIn Fence.wide 0 P loc.blk f tm c d w (EndR ρ v s s') := by
  obtain ⟨st, p, n, t, ps, c, b, d, s1, t', a, s2, h1, hb, ht', h2, p2, n2, t2, ps2, c2, b2, d2, s3, s4, e, a4, s5, h3, h4, h5, st6, p6, n6, t6, ps6, c6, b6, d6, s6, h6, h7⟩ := roundStep_inv h
  obtain ⟨_, k1, k2, k3⟩ := get_ok h1
  obtain ⟨k', hk', f, tm, kk, q1, q2, q3, dl, q4, q5⟩ := hm.at_ _ _ k1
  rw [hl] at hk'; cases hk'
  obtain ⟨e1, e2, e3⟩ := setAll_ok ht' hb hx q2 q3
  have hlen : (⟨xs⟩ : Array Value).size = (⟨ps⟩ : Array Tmp).size := by show xs.length = ps.length; rw [hx.length, e1]
  have hfold : (((⟨ps⟩ : Array Tmp).zip ⟨xs⟩).foldl (fun tmps (x : Nat × Value) => tmps.setIfInBounds x.1 x.2) tm) = (ps.zip xs).foldl (fun tmps (x : Nat × Value) => tmps.setIfInBounds x.1 x.2) tm := by
    rw [← Array.foldl_toList, Array.toList_zip]
  have hnx : nx = .round loc.blk f ((ps.zip xs).foldl (fun tmps (x : Nat × Value) => tmps.setIfInBounds x.1 x.2) tm) c b := by
    simp only [Instr.yield, Instr.getLoop, Sem.run_bind, run_getObj_loop' q1, Result.andThen_ok, Sem.run_pure, hlen, ne_eq, not_true_eq_false, if_false] at hy
    cases hy
    rw [← hfold]
  refine ⟨f, _, c, b, hnx, ?_⟩
  have ls1 : s1.lim = s.lim := by have := get_local l s .lf hs _ _ h1; exact this.lim
  have hs1 : s1.lim ≤ s1.next := by rw [ls1, k3]; exact hs
  have w2 := codeC_local hr.loc c (some l) _ s1 .lf hs1 _ _ h2
  have hs2 : s2.lim ≤ s2.next := by rw [w2.lim]; exact Nat.le_trans hs1 w2.next
  have w3 := get_local l s2 .lf hs2 _ _ h3
  have hs3 : s3.lim ≤ s3.next := by rw [w3.lim]; exact Nat.le_trans hs2 w3.next
  have w4 := put_local _ _ s3 .lf hs3 _ _ h4
  have hs4 : s4.lim ≤ s4.next := by rw [w4.lim]; exact Nat.le_trans hs3 w4.next
  have w5 := codeC_local hr.loc b (some l) _ s4 .lf hs4 _ _ h5
  have n6' : s6.next = s5.next := (get_ok h6).2.2.2
  -- the round's end
  have hend : ∃ st' p', (∃ s7, put l (some (.loop st' p' n6 t6 ps6 c6 b6 d6)) s6 = .ok () s7 ∧ s7 = s') ∧ ((e = .norm ∧ v = .bool true ∧ st' = .ready ∧ p' = none) ∨ (e = .ret ∧ v = .bool false ∧ st' = .done ∧ p' = some .ret) ∨ (∃ id, e = .exit id ∧ v = .bool false ∧ st' = .done ∧ p' = some (.exit id))) := by
    unfold roundLeft at h7
    split at h7
    · obtain ⟨⟨⟩, s7, g1, g2⟩ := R.bind_eq_ok h7; cases g2; exact ⟨_, _, ⟨_, g1, rfl⟩, .inl ⟨rfl, rfl, rfl, rfl⟩⟩
    · obtain ⟨⟨⟩, s7, g1, g2⟩ := R.bind_eq_ok h7; cases g2; exact ⟨_, _, ⟨_, g1, rfl⟩, .inr (.inl ⟨rfl, rfl, rfl, rfl⟩)⟩
    · obtain ⟨⟨⟩, s7, g1, g2⟩ := R.bind_eq_ok h7; cases g2; exact ⟨_, _, ⟨_, g1, rfl⟩, .inr (.inr ⟨_, rfl, rfl, rfl, rfl⟩)⟩
  obtain ⟨st', p', ⟨s7, hp7, rfl⟩, hcase⟩ := hend
  have n7 : s7.next = s6.next := (put_ok hp7).2.2
  refine roundIn_of_wpIn trivial ?_
  have ha : AR ρ ⟨t', n, []⟩ { tmps := (ps.zip xs).foldl (fun tmps (x : Nat × Value) => tmps.setIfInBounds x.1 x.2) tm, defers := [] } := ⟨e2, e3, rfl⟩
  have hn2 := w2.next
  have hn3 := w3.next
  have hn4 := w4.next
  have hn5 := w5.next
  refine code_ok hr hmix (ro := some loc.blk) c hs1 h2 g ha (by rw [k2]; exact hm) (hf.sub (by omega) (by omega)) ⟨loc, hl, rfl⟩ fun ρ1 w1 act1 r1 r2 r3 => ?_
  have hl1 := r3.le _ _ hl
  obtain ⟨m1, f1, tm1, kk1, m2, m3⟩ := loopPut_ok h3 h4 r2 hl1
  have hlt : loc.blk < w1.heap.size := (Array.getElem?_eq_some_iff.1 m2).1
  refine ⟨_, ?_, code_ok hr hmix (ro := some loc.blk) b hs4 h5 (g.ext r3) r1 m3 ((hf.sub (a' := s1.next) (by omega) (by omega)).after r3 (by omega) |>.sub (by omega) (Nat.le_refl _)) ⟨loc, hl1, rfl⟩ fun ρ2 w2' act2 t1 t2' t3 => ?_⟩
  · simp only [Instr.beginRound, Instr.getLoop, Sem.run_bind, run_getObj_loop' m2, Result.andThen_ok, Sem.run_pure, run_setObj_loop' _ m2]
  · have hl2 := t3.le _ _ hl1
    obtain ⟨u1, f6, tm6, kk6, u2, u3⟩ := loopPut_ok h6 hp7 t2' hl2
    have hext : Ext ρ ρ2 s.next s7.next := (r3.wide (by omega) (by omega)).join (t3.wide (by omega) (by omega))
    rcases hcase with ⟨rfl, rfl, rfl, rfl⟩ | ⟨rfl, rfl, rfl, rfl⟩ | ⟨id, rfl, rfl, rfl, rfl⟩
    · refine ⟨.bool true, _, ?_, .bool true, ρ2, rfl, by simp [VR], u3, hext⟩
      simp [Instr.endRound, Instr.getLoop, run_getObj_loop' u2, run_setObj_loop' _ u2]
    · refine ⟨.bool false, _, ?_, .bool false, ρ2, rfl, by simp [VR], u3, hext⟩
      simp [Instr.endRound, Instr.getLoop, run_getObj_loop' u2, run_setObj_loop' _ u2]
    · refine ⟨.bool false, _, ?_, .bool false, ρ2, rfl, by simp [VR], u3, hext⟩
      simp [Instr.endRound, Instr.getLoop, run_getObj_loop' u2, run_setObj_loop' _ u2]
theorem recStep_ok (hmix : P.follows .mixedOrders = true) (hnm : Named P) (hr : RecOK P r) : RecOK P (recStep P r) where
  loc := recStep_local hr.loc
  fn := fun f args s v s' h => by
    obtain ⟨fn, b, _, _, _, _, h1, h2, _⟩ := callStep_inv h
    have hb : fn.body.isSome = true := by rw [h2]; rfl
    exact ⟨fn, h1, hb, hnm _ _ h1 hb⟩
  call := fun f args s v s' hs h ρ w xs g hm hf hx => callStep_ok hr hmix hs h g hm hf hx
  lp := fun l args s v s' h => by
    obtain ⟨st, p, n, t, ps, c, b, d, s1, t', a, s2, h1, hb, ht', _⟩ := roundStep_inv h
    obtain ⟨_, k1, _⟩ := get_ok h1
    exact ⟨st, p, n, t, ps, c, b, d, k1, setAll_len ht'⟩
  round := fun l args s v s' hs h ρ w xs loc nx g hm hf hl hx hy => roundStep_ok hr hmix hs h g hm hf hl hx hy
theorem rec0_ok : RecOK P rec0 where
  loc := rec0_local
  fn := fun _ _ _ _ _ h => by cases h
  call := fun _ _ _ _ _ _ h => by cases h
  lp := fun _ _ _ _ _ h => by cases h
  round := fun _ _ _ _ _ _ h => by cases h
theorem recN_ok (hmix : P.follows .mixedOrders = true) (hnm : Named P) : ∀ n, RecOK P (recN P n)
  | 0 => rec0_ok
  | n + 1 => recStep_ok hmix hnm (recN_ok hmix hnm n)
end Go.Ex

/- A table of calls that were run already: the executor answers them from it. -/
namespace Go.Ex

/-! ### Equality -/
noncomputable def and2 (a b : Bool) : Bool := Bool.rec false b a
theorem and2_true {a b : Bool} (h : and2 a b = true) : a = true ∧ b = true := by cases a <;> cases b <;> first | exact ⟨rfl, rfl⟩ | cases h
def eqCap (a b : Cap) : Bool := match a with
  | .is m => match b with
    | .is n => Nat.beq m n
    | _ => false
  | .of m => match b with
    | .of n => Nat.beq m n
    | _ => false
noncomputable def eqL (f : V → V → Bool) : List V → List V → Bool
  | [], [] => true
  | a :: x, b :: y => and2 (f a b) (eqL f x y)
  | _, _ => false
noncomputable def eqVf : Nat → V → V → Bool
  | 0, _, _ => false
  | d + 1, x, y => match x with
    | .bool a => match y with
      | .bool b => eqBool a b
      | _ => false
    | .int j a => match y with
      | .int k b => and2 (kindEq j k) (eqI a b)
      | _ => false
    | .str a => match y with
      | .str b => eqNats a b
      | _ => false
    | .nilp => match y with
      | .nilp => true
      | _ => false
    | .ptr a i => match y with
      | .ptr b j => and2 (Nat.beq a b) (Nat.beq i j)
      | _ => false
    | .nilsl => match y with
      | .nilsl => true
      | _ => false
    | .sl a i m c => match y with
      | .sl b j n e => and2 (and2 (Nat.beq a b) (Nat.beq i j)) (and2 (Nat.beq m n) (eqCap c e))
      | _ => false
    | .nilmap => match y with
      | .nilmap => true
      | _ => false
    | .map a => match y with
      | .map b => Nat.beq a b
      | _ => false
    | .fn f x c => match y with
      | .fn g u e => and2 (Nat.beq f g) (and2 (eqL (eqVf d) x u) (eqL (eqVf d) c e))
      | _ => false
    | .yield a => match y with
      | .yield b => Nat.beq a b
      | _ => false
    | .nilfn => match y with
      | .nilfn => true
      | _ => false
    | .nilif => match y with
      | .nilif => true
      | _ => false
    | .iface t a => match y with
      | .iface u b => and2 (Nat.beq t u) (eqVf d a b)
      | _ => false
    | .agg a => match y with
      | .agg b => eqL (eqVf d) a b
      | _ => false
    | .tup a => match y with
      | .tup b => eqL (eqVf d) a b
      | _ => false
noncomputable def eqVal (x y : V) : Bool := eqVf 5 x y
theorem eqBool_ok {a b : Bool} (h : eqBool a b = true) : a = b := by cases a <;> cases b <;> first | rfl | cases h
theorem beq_ok {a b : Nat} (h : Nat.beq a b = true) : a = b := Nat.eq_of_beq_eq_true h
theorem eqI_ok {a b : Int} (h : eqI a b = true) : a = b := by
  cases a <;> cases b
  · rw [beq_ok (h : Nat.beq _ _ = true)]
  · cases h
  · cases h
  · rw [beq_ok (h : Nat.beq _ _ = true)]
theorem kindEq_ok {a b : IntKind} (h : kindEq a b = true) : a = b := by cases a <;> cases b <;> first | rfl | cases h
theorem eqNats_same : ∀ {a b : List Nat}, eqNats a b = true → a = b
  | [], [], _ => rfl
  | a :: x, b :: y, h => by
    unfold eqNats at h
    split at h
    · rename_i e; rw [beq_ok e, eqNats_same h]
    · cases h
  | [], _ :: _, h => by cases h
  | _ :: _, [], h => by cases h
theorem eqCap_ok {a b : Cap} (h : eqCap a b = true) : a = b := by
  cases a <;> cases b
  · rw [beq_ok (h : Nat.beq _ _ = true)]
  · cases h
  · cases h
  · rw [beq_ok (h : Nat.beq _ _ = true)]
theorem eqL_ok {f : V → V → Bool} (hf : ∀ a b, f a b = true → a = b) : ∀ {x y : List V}, eqL f x y = true → x = y
  | [], [], _ => rfl
  | a :: x, b :: y, h => by
    obtain ⟨h1, h2⟩ := and2_true (h : and2 _ _ = true)
    rw [hf a b h1, eqL_ok hf h2]
  | [], _ :: _, h => by cases h
  | _ :: _, [], h => by cases h
theorem eqVf_ok : ∀ (d : Nat) (x y : V), eqVf d x y = true → x = y := by
  intro d
  induction d with
  | zero => intro x y h; cases h
  | succ d ih =>
    intro x y h
    unfold eqVf at h
    cases x with
    | bool a => cases y <;> simp only at h <;> first | (rw [eqBool_ok h]) | cases h
    | int j a =>
      cases y <;> simp only at h
      case int k b => obtain ⟨h1, h2⟩ := and2_true h; rw [kindEq_ok h1, eqI_ok h2]
      all_goals cases h
    | str a => cases y <;> simp only at h <;> first | (rw [eqNats_same h]) | cases h
    | nilp => cases y <;> simp only at h <;> first | rfl | cases h
    | ptr a i =>
      cases y <;> simp only at h
      case ptr b j => obtain ⟨h1, h2⟩ := and2_true h; rw [beq_ok h1, beq_ok h2]
      all_goals cases h
    | nilsl => cases y <;> simp only at h <;> first | rfl | cases h
    | sl a i m c =>
      cases y <;> simp only at h
      case sl b j n e =>
        obtain ⟨h1, h2⟩ := and2_true h
        obtain ⟨h3, h4⟩ := and2_true h1
        obtain ⟨h5, h6⟩ := and2_true h2
        rw [beq_ok h3, beq_ok h4, beq_ok h5, eqCap_ok h6]
      all_goals cases h
    | nilmap => cases y <;> simp only at h <;> first | rfl | cases h
    | map a => cases y <;> simp only at h <;> first | (rw [beq_ok h]) | cases h
    | fn f x c =>
      cases y <;> simp only at h
      case fn g u e =>
        obtain ⟨h1, h2⟩ := and2_true h
        obtain ⟨h3, h4⟩ := and2_true h2
        rw [beq_ok h1, eqL_ok ih h3, eqL_ok ih h4]
      all_goals cases h
    | yield a => cases y <;> simp only at h <;> first | (rw [beq_ok h]) | cases h
    | nilfn => cases y <;> simp only at h <;> first | rfl | cases h
    | nilif => cases y <;> simp only at h <;> first | rfl | cases h
    | iface t a =>
      cases y <;> simp only at h
      case iface u b => obtain ⟨h1, h2⟩ := and2_true h; rw [beq_ok h1, ih _ _ h2]
      all_goals cases h
    | agg a => cases y <;> simp only at h <;> first | (rw [eqL_ok ih h]) | cases h
    | tup a => cases y <;> simp only at h <;> first | (rw [eqL_ok ih h]) | cases h
theorem eqVal_ok {x y : V} (h : eqVal x y = true) : x = y := eqVf_ok _ _ _ h
noncomputable def eqO (x y : Option V) : Bool := Option.rec (Option.rec true (fun _ => false) y) (fun a => Option.rec false (fun b => eqVal a b) y) x
theorem eqO_ok {x y : Option V} (h : eqO x y = true) : x = y := by
  cases x <;> cases y
  · rfl
  · cases h
  · cases h
  · rw [eqVal_ok h]
noncomputable def eqT (t : T V) : T V → Bool :=
  T.rec (fun u => T.rec true (fun _ _ _ _ _ _ _ _ _ => false) u)
    (fun x _ _ _ _ ia ib ic id u => T.rec false (fun y e f g h _ _ _ _ => and2 (eqO x y) (and2 (and2 (ia e) (ib f)) (and2 (ic g) (id h)))) u) t
theorem eqT_ok : ∀ {t u : T V}, eqT t u = true → t = u := by
  intro t
  induction t with
  | lf => intro u h; cases u with
    | lf => rfl
    | nd => cases h
  | nd x a b c d ia ib ic id =>
    intro u h
    cases u with
    | lf => cases h
    | nd y e f g k =>
      obtain ⟨h1, h2⟩ := and2_true (h : and2 (eqO x y) (and2 (and2 (eqT a e) (eqT b f)) (and2 (eqT c g) (eqT d k))) = true)
      obtain ⟨h3, h4⟩ := and2_true h2
      obtain ⟨h5, h6⟩ := and2_true h3
      obtain ⟨h7, h8⟩ := and2_true h4
      rw [eqO_ok h1, ia h5, ib h6, ic h7, id h8]
noncomputable def eqEs : List (V × V × Nat) → List (V × V × Nat) → Bool
  | [], [] => true
  | (a, b, c) :: x, (d, e, f) :: y => and2 (and2 (eqVal a d) (and2 (eqVal b e) (Nat.beq c f))) (eqEs x y)
  | _, _ => false
theorem eqEs_ok : ∀ {x y : List (V × V × Nat)}, eqEs x y = true → x = y
  | [], [], _ => rfl
  | (a, b, c) :: x, (d, e, f) :: y, h => by
    obtain ⟨h1, h2⟩ := and2_true (h : and2 _ _ = true)
    obtain ⟨h3, h4⟩ := and2_true h1
    obtain ⟨h5, h6⟩ := and2_true h4
    rw [eqVal_ok h3, eqVal_ok h5, beq_ok h6, eqEs_ok h2]
  | [], _ :: _, h => by cases h
  | _ :: _, [], h => by cases h

/-! ### Blocks told as lists -/
inductive BD where
  | cells (l : List V) (st : Bool)
  | map (es : List (V × V × Nat)) (clock : Nat)
noncomputable def tabOf : List V → Nat → T V → T V
  | [], _, t => t
  | v :: l, i, t => seqT (t.put i (some v)) .lf fun t => tabOf l (Nat.succ i) t
noncomputable def BD.ab : BD → AB
  | .cells l st => .cells (tabOf l 0 .lf) st
  | .map es c => .map es c
noncomputable def eqAB (x : AB) (d : BD) : Bool := match d with
  | .cells l st => match x with
    | .cells t st' => and2 (eqBool st st') (eqT (tabOf l 0 .lf) t)
    | _ => false
  | .map es c => match x with
    | .map es' c' => and2 (Nat.beq c c') (eqEs es es')
    | _ => false
theorem eqAB_ok {x : AB} {d : BD} (h : eqAB x d = true) : x = d.ab := by
  unfold eqAB at h
  cases d with
  | cells l st =>
    cases x <;> simp only at h
    case cells t st' => obtain ⟨h1, h2⟩ := and2_true h; rw [← eqBool_ok h1, ← eqT_ok h2]; rfl
    all_goals cases h
  | map es c =>
    cases x <;> simp only at h
    case map es' c' => obtain ⟨h1, h2⟩ := and2_true h; rw [← beq_ok h1, ← eqEs_ok h2]; rfl
    all_goals cases h

/-! ### The table -/
/-- A call that was run: its arguments, the next name ahead of it, what stands in the blocks that it looks at; what it answers, the next name behind it, what stands in the blocks that it wrote, and in the new ones (those that are not told are forgotten). -/
structure Ent where
  f : FuncId
  args : List V
  next : Nat
  pre : List (Nat × BD)
  v : V
  next' : Nat
  post : List (Nat × BD)
noncomputable def preM : List (Nat × BD) → T AB → T AB
  | [], m => m
  | (b, d) :: l, m => seqT (m.put b (some d.ab)) .lf fun m => preM l m
noncomputable def preOK (m : T AB) : List (Nat × BD) → Bool
  | [] => true
  | (b, d) :: l => match m.get b with
    | some x => and2 (eqAB x d) (preOK m l)
    | none => false
/-- So many names forgotten. -/
noncomputable def clear : Nat → Nat → T AB → T AB
  | 0, _, m => m
  | n + 1, b, m => seqT (m.put b none) .lf fun m => clear n (Nat.succ b) m
def namesOf : List (Nat × BD) → List Nat
  | [] => []
  | (b, _) :: l => b :: namesOf l
noncomputable def below (lim x : Nat) : Nat := Nat.land x (Nat.sub (Nat.shiftLeft 1 lim) 1)
noncomputable def Ent.mem (e : Ent) (m : T AB) : T AB := preM e.post (clear (Nat.sub e.next' e.next) e.next m)
/-- A tree, reckoned out first (a leaf too). -/
noncomputable def seqU {α β : Type} (t : T α) (k : T α → β) : β := T.rec (k .lf) (fun x a b c d _ _ _ _ => k (.nd x a b c d)) t
theorem seqU_eq {α β : Type} (t : T α) (k : T α → β) : seqU t k = k t := by cases t <;> rfl
noncomputable def answerD (e : Ent) (m : T AB) (lim rd wr : Nat) : R V :=
  seqU (e.mem m) fun m => seqN (Nat.lor rd (below lim (maskOf (namesOf e.pre)))) fun rd => seqN (Nat.lor wr (below lim (maskOf (namesOf e.post)))) fun wr => .ok e.v ⟨m, e.next', lim, rd, wr⟩
noncomputable def answerC (e : Ent) (m : T AB) (_ lim rd wr : Nat) : R V := ite2 (preOK m e.pre) (.no "memo: another memory") (answerD e m lim rd wr)
noncomputable def answer (e : Ent) (s : S) : R V := S.rec (answerC e) s
noncomputable def hit (e : Ent) (args : List V) (next : Nat) : Bool := and2 (Nat.beq e.next next) (eqL eqVal e.args args)
noncomputable def ask (args : List V) (s : S) (no : R V) : List Ent → R V
  | [] => no
  | e :: l => ite2 (hit e args s.next) (ask args s no l) (answer e s)
noncomputable def ents (f : FuncId) : List Ent → List Ent
  | [] => []
  | e :: l => ite2 (Nat.beq e.f f) (ents f l) (e :: ents f l)
noncomputable def memo (tbl : List Ent) (r : Rec) : Rec := ⟨fun f args s => ask args s (r.call f args s) (ents f tbl), r.round⟩
noncomputable def recM (P : Program) (tbl : List Ent) (n : Nat) : Rec := Nat.rec rec0 (fun _ r => memo tbl (recStep P r)) n

noncomputable def allLt (n : Nat) : List (Nat × BD) → Bool
  | [] => true
  | (b, _) :: l => and2 (Nat.ble (Nat.succ b) n) (allLt n l)
noncomputable def sub2 (a b : Nat) : Bool := Nat.beq (Nat.lor a b) b
noncomputable def Ent.wf (e : Ent) : Bool := and2 (Nat.ble e.next e.next') (and2 (allLt e.next e.pre) (allLt e.next' e.post))
/-- The new names. -/
noncomputable def Ent.news (e : Ent) : Nat := Nat.sub (Nat.shiftLeft 1 e.next') (Nat.shiftLeft 1 e.next)
noncomputable def chkS (e : Ent) (s : S) : Bool := and2 (Nat.beq s.next e.next') (and2 (sub2 (Nat.lor s.rd s.wr) (Nat.lor e.news (maskOf (namesOf e.pre)))) (and2 (sub2 s.wr (Nat.lor e.news (maskOf (namesOf e.post)))) (preOK s.mem e.post)))
noncomputable def chkR (e : Ent) (x : R V) : Bool := R.rec (fun _ => false) (fun v s => and2 (eqVal v e.v) (chkS e s)) x
noncomputable def chk (r : Rec) (e : Ent) : Bool := and2 e.wf (chkR e (r.call e.f e.args ⟨preM e.pre .lf, e.next, e.next, 0, 0⟩))
/-- A table's row is what a sound executor answered. -/
def Ent.OK (P : Program) (e : Ent) : Prop := ∃ r, RecOK P r ∧ chk r e = true

/-! ### Laws -/
theorem preM_get : ∀ (l : List (Nat × BD)) (m : T AB) (b : Nat), b ∉ namesOf l → (preM l m).get b = m.get b
  | [], _, _, _ => rfl
  | (c, d) :: l, m, b, h => by
    unfold preM
    rw [seqT_put, preM_get l _ b (fun k => h (List.mem_cons_of_mem _ k)), T.get_put, if_neg]
    rintro rfl
    exact h (List.mem_cons_self ..)
theorem preM_same : ∀ (l : List (Nat × BD)) (m m' : T AB) (b : Nat), b ∈ namesOf l → (preM l m).get b = (preM l m').get b
  | (c, d) :: l, m, m', b, h => by
    unfold preM
    rw [seqT_put, seqT_put]
    by_cases hb : b ∈ namesOf l
    · exact preM_same l _ _ b hb
    · rw [preM_get l _ b hb, preM_get l _ b hb, T.get_put, T.get_put]
      have : b = c := by
        rcases List.mem_cons.1 (h : b ∈ c :: namesOf l) with h | h
        · exact h
        · exact absurd h hb
      rw [if_pos this, if_pos this]
theorem preM_mem : ∀ (l : List (Nat × BD)) (m : T AB) (b : Nat), b ∈ namesOf l → ∃ d, (b, d) ∈ l ∧ (preM l m).get b = some d.ab
  | (c, d) :: l, m, b, h => by
    unfold preM
    rw [seqT_put]
    by_cases hb : b ∈ namesOf l
    · obtain ⟨d', h1, h2⟩ := preM_mem l (m.put c (some d.ab)) b hb
      exact ⟨d', List.mem_cons_of_mem _ h1, h2⟩
    · have : b = c := by
        rcases List.mem_cons.1 (h : b ∈ c :: namesOf l) with h | h
        · exact h
        · exact absurd h hb
      subst this
      exact ⟨d, List.mem_cons_self .., by rw [preM_get l _ b hb, T.get_put, if_pos rfl]⟩
theorem preOK_mem {m : T AB} : ∀ {l : List (Nat × BD)}, preOK m l = true → ∀ b d, (b, d) ∈ l → m.get b = some d.ab
  | [], _, _, _, h => by cases h
  | (c, e) :: l, h, b, d, hb => by
    unfold preOK at h
    split at h
    · rename_i x hx
      obtain ⟨h1, h2⟩ := and2_true h
      rcases List.mem_cons.1 hb with hb | hb
      · cases hb; rw [hx, eqAB_ok h1]
      · exact preOK_mem h2 b d hb
    · cases h
theorem preOK_same {m m' : T AB} : ∀ {l : List (Nat × BD)}, (∀ b, b ∈ namesOf l → m.get b = m'.get b) → preOK m l = preOK m' l
  | [], _ => rfl
  | (c, e) :: l, h => by
    unfold preOK
    rw [h c (List.mem_cons_self ..), preOK_same (l := l) fun b hb => h b (List.mem_cons_of_mem _ hb)]
theorem preOK_preM {m : T AB} {l : List (Nat × BD)} (h : preOK m l = true) (m' : T AB) (b : Nat) (hb : b ∈ namesOf l) : (preM l m').get b = m.get b := by
  obtain ⟨d, h1, h2⟩ := preM_mem l m' b hb
  rw [h2, preOK_mem h b d h1]
theorem clear_get : ∀ (n b : Nat) (m : T AB) (c : Nat), (clear n b m).get c = if b ≤ c ∧ c < b + n then none else m.get c
  | 0, b, m, c => by unfold clear; rw [if_neg (by omega)]
  | n + 1, b, m, c => by
    unfold clear
    rw [seqT_put, clear_get n, T.get_put]
    simp only [Nat.succ_eq_add_one]
    by_cases h : c = b
    · rw [if_pos h, if_pos (show b ≤ c ∧ c < b + (n + 1) by omega), ite_self]
    · rw [if_neg h]
      by_cases h2 : b ≤ c ∧ c < b + (n + 1)
      · rw [if_pos h2, if_pos (by omega)]
      · rw [if_neg h2, if_neg (by omega)]
theorem maskOf_iff : ∀ (l : List Nat) (b : Nat), (maskOf l).testBit b = true ↔ b ∈ l
  | [], b => by simp [maskOf]
  | a :: l, b => by
    unfold maskOf
    rw [testBit_lor, Bool.or_eq_true, maskOf_iff l b, List.mem_cons]
    have : (Nat.shiftLeft 1 a).testBit b = decide (b = a) := by
      show (1 <<< a).testBit b = _
      rw [Nat.one_shiftLeft, Nat.testBit_two_pow]
      simp [eq_comm]
    rw [this, decide_eq_true_iff]
theorem below_bit (lim x b : Nat) : (below lim x).testBit b = (x.testBit b && decide (b < lim)) := by
  unfold below
  show (x &&& ((1 <<< lim) - 1)).testBit b = _
  rw [Nat.testBit_and, Nat.one_shiftLeft, Nat.testBit_two_pow_sub_one]
theorem sub2_bit {a b : Nat} (h : sub2 a b = true) (i : Nat) (hi : a.testBit i = true) : b.testBit i = true := by
  have := beq_ok (h : Nat.beq (Nat.lor a b) b = true)
  rw [← this, testBit_lor, hi, Bool.true_or]
theorem allLt_mem {n : Nat} : ∀ {l : List (Nat × BD)}, allLt n l = true → ∀ b ∈ namesOf l, b < n
  | [], _, _, h => by cases h
  | (c, e) :: l, h, b, hb => by
    obtain ⟨h1, h2⟩ := and2_true (h : and2 _ _ = true)
    rcases List.mem_cons.1 (hb : b ∈ c :: namesOf l) with rfl | hb
    · exact Nat.le_of_ble_eq_true h1
    · exact allLt_mem h2 b hb
theorem Ent.mem_get (e : Ent) (m : T AB) (b : Nat) (h : b ∉ namesOf e.post) : (e.mem m).get b = if e.next ≤ b ∧ b < e.next + (e.next' - e.next) then none else m.get b := by
  unfold Ent.mem
  rw [preM_get _ _ _ h, clear_get]
  rfl
theorem answer_eq (e : Ent) (s : S) : answer e s = if preOK s.mem e.pre = true then .ok e.v ⟨e.mem s.mem, e.next', s.lim, Nat.lor s.rd (below s.lim (maskOf (namesOf e.pre))), Nat.lor s.wr (below s.lim (maskOf (namesOf e.post)))⟩ else .no "memo: another memory" := by
  obtain ⟨m, nx, lim, rd, wr⟩ := s
  show ite2 (preOK m e.pre) _ (answerD e m lim rd wr) = _
  cases h : preOK m e.pre with
  | false => rw [if_neg (by simp)]; rfl
  | true =>
    rw [if_pos rfl]
    show answerD e m lim rd wr = _
    unfold answerD
    rw [seqU_eq, seqN_eq, seqN_eq]
theorem answer_local {e : Ent} (hw : e.wf = true) {s : S} (m : T AB) (hs : s.lim ≤ s.next) (hn : e.next = s.next) : Loc2 s m (answer e s) (answer e { s with mem := m }) := by
  intro v s' h
  obtain ⟨w1, w2⟩ := and2_true (hw : and2 _ _ = true)
  obtain ⟨w2, w3⟩ := and2_true w2
  have w1 := Nat.le_of_ble_eq_true w1
  have w2 := allLt_mem w2
  have w3 := allLt_mem w3
  rw [answer_eq] at h ⊢
  split at h
  · rename_i hp
    cases h
    have hpost : ∀ b, b ∈ namesOf e.post → (s.lim ≤ b ∧ b < e.next') ∨ (Nat.lor s.wr (below s.lim (maskOf (namesOf e.post)))).testBit b = true := fun b hb => by
      by_cases hl : s.lim ≤ b
      · exact .inl ⟨hl, w3 b hb⟩
      · refine .inr ?_
        rw [testBit_lor, below_bit, (maskOf_iff _ b).2 hb, decide_eq_true (by omega)]
        simp
    refine ⟨by show s.next ≤ e.next'; omega, rfl, fun b hb => by simp only [testBit_lor, hb, Bool.true_or], fun b hb => by simp only [testBit_lor, hb, Bool.true_or], fun b hb hwr => ?_, fun hm => ?_⟩
    · have hnot : b ∉ namesOf e.post := fun k => by
        rcases hpost b k with h | h
        · exact hb h
        · rw [h] at hwr; cases hwr
      show (e.mem s.mem).get b = _
      rw [Ent.mem_get _ _ _ hnot, if_neg]
      intro h
      exact hb ⟨by omega, by show b < e.next'; omega⟩
    · have hpre : ∀ b, b ∈ namesOf e.pre → m.get b = s.mem.get b := fun b hb => hm b (by
        by_cases hl : s.lim ≤ b
        · exact .inl ⟨hl, by have := w2 b hb; omega⟩
        · refine .inr (.inl ?_)
          rw [testBit_lor, below_bit, (maskOf_iff _ b).2 hb, decide_eq_true (by omega)]
          simp)
      refine ⟨e.mem m, ?_, fun b hb => ?_, fun b hb => ?_⟩
      · rw [if_pos (by rw [← hp]; exact preOK_same hpre)]
      · show (e.mem m).get b = (e.mem s.mem).get b
        by_cases hq : b ∈ namesOf e.post
        · exact preM_same _ _ _ _ hq
        · rw [Ent.mem_get _ _ _ hq, Ent.mem_get _ _ _ hq]
          split
          · rfl
          · rename_i hne
            refine hm b ?_
            rcases hb with ⟨h1, h2⟩ | h
            · refine .inl ⟨h1, ?_⟩
              have h2 : b < e.next' := h2
              omega
            · exact .inr h
      · have hq : b ∉ namesOf e.post := fun k => hb (by
          rcases hpost b k with h | h
          · exact .inl h
          · exact .inr (.inr h))
        show (e.mem m).get b = m.get b
        rw [Ent.mem_get _ _ _ hq, if_neg]
        intro h
        exact hb (.inl ⟨by omega, by show b < e.next'; omega⟩)
  · cases h
theorem hit_ok {e : Ent} {args : List V} {n : Nat} (h : hit e args n = true) : e.next = n ∧ e.args = args := by
  obtain ⟨h1, h2⟩ := and2_true h
  exact ⟨beq_ok h1, eqL_ok (fun _ _ => eqVal_ok) h2⟩
theorem ask_local {args : List V} {s : S} {m : T AB} (hs : s.lim ≤ s.next) {x y : R V} (hxy : Loc2 s m x y) : ∀ {l : List Ent}, (∀ e ∈ l, e.wf = true) → Loc2 s m (ask args s x l) (ask args { s with mem := m } y l)
  | [], _ => hxy
  | e :: l, h => by
    show Loc2 s m (ite2 (hit e args s.next) _ _) (ite2 (hit e args s.next) _ _)
    cases hh : hit e args s.next with
    | false => exact ask_local hs hxy fun e he => h e (List.mem_cons_of_mem _ he)
    | true => exact answer_local (h e (List.mem_cons_self ..)) m hs (hit_ok hh).1
theorem ents_mem {f : FuncId} : ∀ {l : List Ent} {e : Ent}, e ∈ ents f l → e ∈ l ∧ e.f = f
  | [], _, h => by cases h
  | d :: l, e, h => by
    unfold ents at h
    cases hf : Nat.beq d.f f with
    | false =>
      rw [hf] at h
      have := ents_mem (l := l) h
      exact ⟨List.mem_cons_of_mem _ this.1, this.2⟩
    | true =>
      rw [hf] at h
      rcases List.mem_cons.1 (h : e ∈ d :: ents f l) with rfl | h
      · exact ⟨List.mem_cons_self .., beq_ok hf⟩
      · have := ents_mem (l := l) h
        exact ⟨List.mem_cons_of_mem _ this.1, this.2⟩
theorem Ent.OK.wf {P : Program} {e : Ent} (h : e.OK P) : e.wf = true := by
  obtain ⟨r, _, h⟩ := h
  exact (and2_true h).1
theorem memo_local {tbl : List Ent} {r : Rec} (ht : ∀ e ∈ tbl, e.wf = true) (hr : RecL r) : RecL (memo tbl r) where
  call := fun f args s m hs => ask_local hs (hr.call f args s m hs) fun e he => ht e (ents_mem he).1
  round := hr.round
theorem MR.sub {ρ : Ren} {m m' : T AB} {w : World} (h : MR ρ m w) (k : ∀ b x, m'.get b = some x → m.get b = some x) : MR ρ m' w :=
  ⟨fun b x hb => h.at_ b x (k b x hb), fun b c x y l j h1 h2 => h.far b c x y l j (k b x h1) (k c y h2)⟩
theorem Ent.news_bit {e : Ent} (h : e.next ≤ e.next') (m b : Nat) : (Nat.lor e.news m).testBit b = true ↔ (e.next ≤ b ∧ b < e.next') ∨ m.testBit b = true := by
  have h1 : e.news.testBit b = (decide (e.next ≤ b) && decide (b < e.next')) := span_bit _ _ _ h
  rw [testBit_lor, h1, Bool.or_eq_true, Bool.and_eq_true, decide_eq_true_iff, decide_eq_true_iff]
theorem chk_inv {r : Rec} {e : Ent} (h : chk r e = true) : ∃ s1, r.call e.f e.args ⟨preM e.pre .lf, e.next, e.next, 0, 0⟩ = .ok e.v s1 ∧ s1.next = e.next' ∧ (∀ b, s1.rd.testBit b = true ∨ s1.wr.testBit b = true → (e.next ≤ b ∧ b < e.next') ∨ b ∈ namesOf e.pre) ∧
    (∀ b, s1.wr.testBit b = true → (e.next ≤ b ∧ b < e.next') ∨ b ∈ namesOf e.post) ∧ preOK s1.mem e.post = true := by
  obtain ⟨hw, h⟩ := and2_true h
  have hw := Nat.le_of_ble_eq_true (and2_true hw).1
  cases hc : r.call e.f e.args ⟨preM e.pre .lf, e.next, e.next, 0, 0⟩ with
  | no w => rw [hc] at h; cases h
  | ok v s1 =>
    rw [hc] at h
    obtain ⟨h1, h2⟩ := and2_true (h : and2 (eqVal v e.v) (chkS e s1) = true)
    obtain ⟨h3, h4⟩ := and2_true h2
    obtain ⟨h4, h5⟩ := and2_true h4
    obtain ⟨h5, h6⟩ := and2_true h5
    refine ⟨s1, by rw [eqVal_ok h1], beq_ok h3, fun b hb => ?_, fun b hb => ?_, h6⟩
    · rcases (Ent.news_bit hw _ b).1 (sub2_bit h4 b (by rw [testBit_lor, Bool.or_eq_true]; exact hb)) with h | h
      · exact .inl h
      · exact .inr ((maskOf_iff _ b).1 h)
    · rcases (Ent.news_bit hw _ b).1 (sub2_bit h5 b hb) with h | h
      · exact .inl h
      · exact .inr ((maskOf_iff _ b).1 h)
theorem preM_eq {m : T AB} {l : List (Nat × BD)} (h : ∀ b d, (b, d) ∈ l → m.get b = some d.ab) (m' : T AB) (b : Nat) (hb : b ∈ namesOf l) : (preM l m').get b = m.get b := by
  obtain ⟨d, h1, h2⟩ := preM_mem l m' b hb
  rw [h2, h b d h1]
/-- What a row of the table says of the model. -/
theorem Ent.OK.run_ok {P : Program} {e : Ent} (he : e.OK P) {m : T AB} (hp : ∀ b d, (b, d) ∈ e.pre → m.get b = some d.ab) {ρ : Ren} {w : World} {xs : List Value} (g : GOK ρ) (hm : MR ρ m w) (hf : Fresh ρ e.next e.next') (hx : VRs ρ e.args xs) :
    Calls P e.f ⟨xs⟩ w fun en w' => ∃ u ρ', en = .returned u ∧ VR ρ' e.v u ∧ MR ρ' (e.mem m) w' ∧ Ext ρ ρ' e.next e.next' := by
  obtain ⟨r, hr, hc⟩ := he
  have hw : e.wf = true := (and2_true hc).1
  obtain ⟨w1, w2⟩ := and2_true (hw : and2 _ _ = true)
  obtain ⟨w2, w3⟩ := and2_true w2
  have w1 := Nat.le_of_ble_eq_true w1
  have w2 := allLt_mem w2
  obtain ⟨s1, c1, c2, c3, c4, c5⟩ := chk_inv hc
  have hl := hr.loc.call e.f e.args ⟨preM e.pre .lf, e.next, e.next, 0, 0⟩ m (Nat.le_refl _) _ _ c1
  have hnone : ∀ b, e.next ≤ b → b < e.next' → m.get b = none := fun b h1 h2 => by
    cases hx : m.get b with
    | none => rfl
    | some x =>
      obtain ⟨l, hl, _⟩ := hm.at_ b x hx
      rw [hf b h1 h2] at hl
      cases hl
  obtain ⟨m', k1, k2, k3⟩ := hl.move fun b hb => by
    have hb : (e.next ≤ b ∧ b < e.next') ∨ b ∈ namesOf e.pre := by
      rcases hb with ⟨h1, h2⟩ | hb
      · have h1 : e.next ≤ b := h1
        have h2 : b < e.next := h2
        omega
      · exact c3 b hb
    rcases hb with ⟨h1, h2⟩ | hb
    · show m.get b = (preM e.pre .lf).get b
      rw [hnone b h1 h2, preM_get _ _ _ (fun h => by have := w2 b h; omega), T.get_lf]
    · exact (preM_eq hp .lf b hb).symm
  have hcall := hr.call e.f e.args _ e.v _ (Nat.le_refl _) k1 ρ w xs g hm (by show Fresh ρ e.next s1.next; rw [c2]; exact hf) hx
  refine hcall.mono fun en w' hE => ?_
  obtain ⟨u, ρ', rfl, q1, q2, q3⟩ := hE
  have q3 : Ext ρ ρ' e.next s1.next := q3
  refine ⟨u, ρ', rfl, q1, q2.sub fun b x hb => ?_, by rw [← c2]; exact q3⟩
  show m'.get b = some x
  by_cases hq : b ∈ namesOf e.post
  · have e1 : s1.mem.get b = some x := by rw [← preOK_preM c5 (clear (Nat.sub e.next' e.next) e.next m) b hq]; exact hb
    by_cases hv : Vis ⟨preM e.pre .lf, e.next, e.next, 0, 0⟩ s1 b
    · rw [k2 b hv]; exact e1
    · rw [k3 b hv]
      have e2 := hl.keep b (fun h => hv (.inl h)) (by
        cases h : s1.wr.testBit b with
        | false => rfl
        | true => exact absurd (.inr (.inr h)) hv)
      rw [e1] at e2
      have e2 : some x = (preM e.pre .lf).get b := e2
      by_cases hp2 : b ∈ namesOf e.pre
      · rw [e2, preM_eq hp .lf b hp2]
      · rw [preM_get _ _ _ hp2, T.get_lf] at e2
        cases e2
  · rw [Ent.mem_get _ _ _ hq] at hb
    split at hb
    · cases hb
    · rename_i hne
      by_cases hv : Vis ⟨preM e.pre .lf, e.next, e.next, 0, 0⟩ s1 b
      · rcases hv with ⟨h1, h2⟩ | h1 | h1
        · have h1 : e.next ≤ b := h1
          omega
        · rcases c3 b (.inl h1) with hp2 | hp2
          · omega
          · have e2 := hl.keep b (fun h => by have h1 : e.next ≤ b := h.1; have := w2 b hp2; omega) (by
              cases h : s1.wr.testBit b with
              | false => rfl
              | true =>
                rcases c4 b h with h | h
                · omega
                · exact absurd h hq)
            have e2 : s1.mem.get b = (preM e.pre .lf).get b := e2
            rw [k2 b (.inr (.inl h1)), e2, preM_eq hp .lf b hp2]
            exact hb
        · rcases c4 b h1 with h | h
          · omega
          · exact absurd h hq
      · rw [k3 b hv]; exact hb
theorem answer_ok {P : Program} {e : Ent} (he : e.OK P) {s s' : S} {v : V} (hn : e.next = s.next) (h : answer e s = .ok v s') {ρ : Ren} {w : World} {xs : List Value} (g : GOK ρ) (hm : MR ρ s.mem w) (hf : Fresh ρ s.next s'.next) (hx : VRs ρ e.args xs) :
    Calls P e.f ⟨xs⟩ w (EndR ρ v s s') := by
  rw [answer_eq] at h
  split at h
  · rename_i hp
    cases h
    refine (he.run_ok (preOK_mem hp) g hm (by rw [hn]; exact hf) hx).mono fun en w' hE => ?_
    obtain ⟨u, ρ', rfl, q1, q2, q3⟩ := hE
    exact ⟨u, ρ', rfl, q1, q2, by rw [← hn]; exact q3⟩
  · cases h
theorem answer_fn {P : Program} {e : Ent} (he : e.OK P) : ∃ fn, P.funcs[e.f]? = some fn ∧ fn.body.isSome = true ∧ (fn.name == "runtime.NumGoroutine") = false := by
  obtain ⟨r, hr, hc⟩ := he
  obtain ⟨s1, c1, _⟩ := chk_inv hc
  exact hr.fn _ _ _ _ _ c1
theorem ask_inv {args : List V} {s s' : S} {x : R V} {v : V} : ∀ {l : List Ent}, ask args s x l = .ok v s' → x = .ok v s' ∨ ∃ e ∈ l, hit e args s.next = true ∧ answer e s = .ok v s'
  | [], h => .inl h
  | e :: l, h => by
    have h : ite2 (hit e args s.next) (ask args s x l) (answer e s) = .ok v s' := h
    cases hh : hit e args s.next with
    | false =>
      rw [hh] at h
      rcases ask_inv (l := l) h with h | ⟨d, h1, h2⟩
      · exact .inl h
      · exact .inr ⟨d, List.mem_cons_of_mem _ h1, h2⟩
    | true => rw [hh] at h; exact .inr ⟨e, List.mem_cons_self .., hh, h⟩
theorem memo_ok {P : Program} {tbl : List Ent} {r : Rec} (ht : ∀ e ∈ tbl, e.OK P) (hr : RecOK P r) : RecOK P (memo tbl r) where
  loc := memo_local (fun e he => (ht e he).wf) hr.loc
  fn := fun f args s v s' h => by
    rcases ask_inv h with h | ⟨e, h1, h2, h3⟩
    · exact hr.fn _ _ _ _ _ h
    · obtain ⟨h4, rfl⟩ := ents_mem h1
      exact answer_fn (ht e h4)
  call := fun f args s v s' hs h ρ w xs g hm hf hx => by
    rcases ask_inv h with h | ⟨e, h1, h2, h3⟩
    · exact hr.call _ _ _ _ _ hs h _ _ _ g hm hf hx
    · obtain ⟨h4, rfl⟩ := ents_mem h1
      obtain ⟨h5, rfl⟩ := hit_ok h2
      exact answer_ok (ht e h4) h5 h3 g hm hf hx
  lp := hr.lp
  round := hr.round
theorem recM_ok {P : Program} (hmix : P.follows .mixedOrders = true) (hnm : Named P) {tbl : List Ent} (ht : ∀ e ∈ tbl, e.OK P) : ∀ n, RecOK P (recM P tbl n)
  | 0 => rec0_ok
  | n + 1 => memo_ok ht (recStep_ok hmix hnm (recM_ok hmix hnm ht n))
end Go.Ex
