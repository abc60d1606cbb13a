/- Regions that draw their order: every order comes to what the executor's one order comes to. -/
import Derived.Test.YtnoidpondkfolaaGreatDoorExE
import Derived.RangeFuncLeaves
namespace Go.Ex
variable {P : Program}

/-! ### Pinned operations -/
/-- An operation of a region as it went: the names that are new with it; what it read and wrote, and what stood there; its value, and the temporaries that it looked at. -/
structure Pin where
  idx : Nat
  lo : Nat
  hi : Nat
  rd : Nat
  wr : Nat
  pre : Nat → Option AB
  post : Nat → Option AB
  dst : Option Nat
  v : V
  lk : Nat
  tpre : Nat → Option V
/-- A memory and a row of temporaries. -/
abbrev X := (Nat → Option AB) × (Nat → Option V)
/-- Does a pinned operation go its way here? -/
def Pin.ok (p : Pin) (x : X) : Prop := (∀ b, p.rd.testBit b = true ∨ p.wr.testBit b = true → x.1 b = p.pre b) ∧ (∀ d, p.lk.testBit d = true → x.2 d = p.tpre d)
def Pin.upd (p : Pin) (x : X) : X := (fun b => if p.wr.testBit b = true then p.post b else x.1 b, fun d => if p.dst = some d then some p.v else x.2 d)
/-- Two pinned operations that may go in either order. -/
structure Apart (p q : Pin) : Prop where
  wq : ∀ b, q.wr.testBit b = true → p.rd.testBit b = false ∧ p.wr.testBit b = false
  wp : ∀ b, p.wr.testBit b = true → q.rd.testBit b = false
  dq : ∀ d, q.dst = some d → p.lk.testBit d = false ∧ p.dst ≠ some d
  dp : ∀ d, p.dst = some d → q.lk.testBit d = false
def Chain : List Pin → X → X → Prop
  | [], x, y => x = y
  | p :: l, x, y => p.ok x ∧ Chain l (p.upd x) y
theorem Apart.ok_upd {p q : Pin} (h : Apart p q) {x : X} (hq : p.ok (q.upd x)) : p.ok x := by
  refine ⟨fun b hb => ?_, fun d hd => ?_⟩
  · rw [← hq.1 b hb]
    show x.1 b = if q.wr.testBit b = true then _ else _
    rw [if_neg]
    intro e
    obtain ⟨h1, h2⟩ := h.wq b e
    rcases hb with hb | hb
    · rw [h1] at hb; cases hb
    · rw [h2] at hb; cases hb
  · rw [← hq.2 d hd]
    show x.2 d = if q.dst = some d then _ else _
    rw [if_neg]
    intro e
    rw [(h.dq d e).1] at hd
    cases hd
theorem Apart.upd_ok {p q : Pin} (h : Apart p q) {x : X} (hq : q.ok x) : q.ok (p.upd x) := by
  refine ⟨fun b hb => ?_, fun d hd => ?_⟩
  · rw [← hq.1 b hb]
    show (if p.wr.testBit b = true then _ else _) = x.1 b
    rw [if_neg]
    intro e
    rcases hb with hb | hb
    · rw [h.wp b e] at hb; cases hb
    · rw [(h.wq b hb).2] at e; cases e
  · rw [← hq.2 d hd]
    show (if p.dst = some d then _ else _) = x.2 d
    rw [if_neg]
    intro e
    rw [h.dp d e] at hd
    cases hd
theorem Apart.comm {p q : Pin} (h : Apart p q) (x : X) : p.upd (q.upd x) = q.upd (p.upd x) := by
  unfold Pin.upd
  simp only [Prod.mk.injEq]
  constructor
  · funext b
    by_cases h1 : p.wr.testBit b = true
    · by_cases h2 : q.wr.testBit b = true
      · rw [(h.wq b h2).2] at h1; cases h1
      · rw [if_pos h1, if_neg h2, if_pos h1]
    · rw [if_neg h1]
      by_cases h2 : q.wr.testBit b = true
      · rw [if_pos h2, if_pos h2]
      · rw [if_neg h2, if_neg h2, if_neg h1]
  · funext d
    by_cases h1 : p.dst = some d
    · by_cases h2 : q.dst = some d
      · exact absurd h1 (h.dq d h2).2
      · rw [if_pos h1, if_neg h2, if_pos h1]
    · rw [if_neg h1]
      by_cases h2 : q.dst = some d
      · rw [if_pos h2, if_pos h2]
      · rw [if_neg h2, if_neg h2, if_neg h1]
theorem chain_first {p : Pin} {l2 : List Pin} {y : X} : ∀ {l1 : List Pin} {x : X}, Chain (l1 ++ p :: l2) x y → (∀ q ∈ l1, Apart p q) → p.ok x ∧ Chain (l1 ++ l2) (p.upd x) y
  | [], _, h, _ => h
  | q :: l1, x, h, ha => by
    obtain ⟨h1, h2⟩ := h
    obtain ⟨k1, k2⟩ := chain_first h2 fun q hq => ha q (by simp [hq])
    have hp := ha q (by simp)
    exact ⟨hp.ok_upd k1, hp.upd_ok h1, by rw [← hp.comm]; exact k2⟩
/-- A pinned operation is one of the region's, and goes its way wherever it may. -/
structure Pin.Runs (P : Program) (r : Rec) (ops : Array Oper) (p : Pin) : Prop where
  lohi : p.lo ≤ p.hi
  run : ∃ o gd, ops[p.idx]? = some o ∧ guardAt ops.toList o = some gd ∧ p.dst = o.dst ∧ ∀ (m : T AB) (t : T V), p.ok (m.get, t.get) →
    ∃ s', Step r ⟨opC P o.op, o.dst, 0, gd⟩ t ⟨m, p.lo, p.lo, 0, 0⟩ p.v s' ∧ s'.next = p.hi ∧ ∀ b, s'.mem.get b = (p.upd (m.get, t.get)).1 b
/-- What comes ahead of each operation, of the edges that bind in every order. -/
structure Ahead (ops : Array Oper) (B : Nat → Nat) (i : Nat) : Prop where
  back : ∀ o, ops[i]? = some o → ∀ e ∈ o.after, Region.binds .any e = true → e.on < i
  why : ∀ o, ops[i]? = some o → ∀ k, (B i).testBit k = true → ∃ e ∈ o.after, Region.binds .any e = true ∧ (k = e.on ∨ (B e.on).testBit k = true)
theorem Ext.join {ρ σ τ : Ren} {a b : Nat} (h : Ext ρ σ a b) (k : Ext σ τ a b) : Ext ρ τ a b := ⟨h.le.trans k.le, fun n hn => by
  by_cases e : σ n = ρ n
  · exact k.new n fun e' => hn (e'.trans e)
  · exact h.new n e⟩
theorem Fresh.other {ρ σ : Ren} {a b c d : Nat} (h : Fresh ρ a b) (k : Ext ρ σ c d) (hd : b ≤ c ∨ d ≤ a) : Fresh σ a b := fun n h1 h2 => by
  by_cases e : σ n = ρ n
  · rw [e]; exact h n h1 h2
  · have := k.new n e; omega
theorem MR.congr {ρ : Ren} {m m' : T AB} {w : World} (h : MR ρ m w) (e : ∀ b, m'.get b = m.get b) : MR ρ m' w :=
  ⟨fun b x hb => h.at_ b x (by rw [← e]; exact hb), fun b c x y l k hb hc => h.far b c x y l k (by rw [← e]; exact hb) (by rw [← e]; exact hc)⟩

variable {r : Rec} {ops : Array Oper} {ro : Option Nat} {n : Nat} {Q : Exit → Act → World → Prop}
/-- The operations that are still to come, and where they stand. -/
structure Left (P : Program) (r : Rec) (ops : Array Oper) (B : Nat → Nat) (N lo hi : Nat) (L : List Pin) (listed : Array Bool) : Prop where
  size : listed.size = ops.size
  left : ∀ i, listed.getD i true = false ↔ ∃ p ∈ L, p.idx = i
  order : L.Pairwise fun p q => p.idx < q.idx
  runs : ∀ p ∈ L, p.Runs P r ops
  ahead : ∀ p ∈ L, Ahead ops B p.idx
  apart : L.Pairwise fun q p => (B p.idx).testBit q.idx = true ∨ Apart p q
  closed : ∀ j k, listed.getD j false = true → (B j).testBit k = true → listed.getD k false = true
  rows : L.Pairwise fun q p => q.hi ≤ p.lo
  within : ∀ p ∈ L, lo ≤ p.lo ∧ p.hi ≤ hi
  dst : ∀ p ∈ L, ∀ d, p.dst = some d → d < N
theorem getD_flip {listed : Array Bool} {i : Nat} (h : listed.getD i true ≠ false) (hi : i < listed.size) : listed.getD i false = true := by
  simp only [Array.getD_eq_getD_getElem?] at h ⊢
  rw [Array.getElem?_eq_getElem hi] at h ⊢
  simpa using h
theorem Left.done {B : Nat → Nat} {N lo hi : Nat} {L : List Pin} {listed : Array Bool} (h : Left P r ops B N lo hi L listed) (hr : Region.ready .any ops listed = []) : L = [] := by
  cases L with
  | nil => rfl
  | cons p l =>
    exfalso
    have hp : p ∈ p :: l := by simp
    obtain ⟨o, gd, ho, _⟩ := (h.runs p hp).run
    have hlt : p.idx < ops.size := (Array.getElem?_eq_some_iff.1 ho).1
    have : p.idx ∈ Region.ready .any ops listed := by
      rw [mem_ready]
      refine ⟨(h.left p.idx).2 ⟨p, hp, rfl⟩, o, ho, fun e he hb => ?_⟩
      have hlt2 := (h.ahead p hp).back o ho e he hb
      refine getD_flip (fun hf => ?_) (by rw [h.size]; omega)
      obtain ⟨q, hq, hqi⟩ := (h.left e.on).1 hf
      rcases List.mem_cons.1 hq with rfl | hq
      · omega
      · have := (List.pairwise_cons.1 h.order).1 q hq
        omega
    rw [hr] at this
    cases this
theorem Left.next {B : Nat → Nat} {N lo hi : Nat} {l1 l2 : List Pin} {p : Pin} {listed : Array Bool} (h : Left P r ops B N lo hi (l1 ++ p :: l2) listed) (hp : p.idx ∈ Region.ready .any ops listed) :
    (∀ q ∈ l1, Apart p q) ∧ Left P r ops B N lo hi (l1 ++ l2) (listed.setIfInBounds p.idx true) := by
  obtain ⟨h0, o, ho, hall⟩ := mem_ready.1 hp
  have hpm : p ∈ l1 ++ p :: l2 := by simp
  have hbits : ∀ k, (B p.idx).testBit k = true → listed.getD k false = true := fun k hk => by
    obtain ⟨e, he, hb, rfl | hk⟩ := (h.ahead p hpm).why o ho k hk
    · exact hall e he hb
    · exact h.closed _ _ (hall e he hb) hk
  have hsub : (l1 ++ l2).Sublist (l1 ++ p :: l2) := List.Sublist.append (List.Sublist.refl _) (List.sublist_cons_self _ _)
  have hmem : ∀ q ∈ l1 ++ l2, q ∈ l1 ++ p :: l2 := fun q hq => hsub.subset hq
  have hne : ∀ q ∈ l1 ++ l2, q.idx ≠ p.idx := fun q hq => by
    have ho := h.order
    rw [List.pairwise_append] at ho
    obtain ⟨_, o2, o3⟩ := ho
    rcases List.mem_append.1 hq with hq | hq
    · have := o3 q hq p (by simp); omega
    · have := (List.pairwise_cons.1 o2).1 q hq; omega
  have hlt : p.idx < listed.size := by rw [h.size]; exact (Array.getElem?_eq_some_iff.1 ho).1
  refine ⟨fun q hq => ?_, by simp [h.size], fun i => ?_, h.order.sublist hsub, fun q hq => h.runs q (hmem q hq), fun q hq => h.ahead q (hmem q hq), h.apart.sublist hsub, fun j k hj hk => ?_, h.rows.sublist hsub, fun q hq => h.within q (hmem q hq), fun q hq => h.dst q (hmem q hq)⟩
  · have ha := h.apart
    rw [List.pairwise_append] at ha
    rcases ha.2.2 q hq p (by simp) with e | e
    · have h1 := hbits _ e
      have h2 := (h.left q.idx).2 ⟨q, by simp [hq], rfl⟩
      simp only [Array.getD_eq_getD_getElem?] at h1 h2
      cases hx : listed[q.idx]? with
      | none => rw [hx] at h1; cases h1
      | some x => rw [hx] at h1 h2; simp only [Option.getD_some] at h1 h2; rw [h1] at h2; cases h2
    · exact e
  · by_cases e : i = p.idx
    · subst e
      have : (listed.setIfInBounds p.idx true).getD p.idx true = true := by simp [Array.getD_eq_getD_getElem?, hlt]
      rw [this]
      constructor
      · intro q; cases q
      · rintro ⟨q, hq, e⟩; exact absurd e (hne q hq)
    · have : (listed.setIfInBounds p.idx true).getD i true = listed.getD i true := by simp [Array.getD_eq_getD_getElem?, Array.getElem?_setIfInBounds, Ne.symm e]
      rw [this, h.left i]
      constructor
      · rintro ⟨q, hq, rfl⟩
        refine ⟨q, ?_, rfl⟩
        rcases List.mem_append.1 hq with hq | hq
        · exact List.mem_append.2 (.inl hq)
        · rcases List.mem_cons.1 hq with rfl | hq
          · exact absurd rfl e
          · exact List.mem_append.2 (.inr hq)
      · rintro ⟨q, hq, rfl⟩
        exact ⟨q, hmem q hq, rfl⟩
  · have keep : ∀ k, listed.getD k false = true → (listed.setIfInBounds p.idx true).getD k false = true := fun k hk => by
      by_cases e : k = p.idx
      · subst e; simp [Array.getD_eq_getD_getElem?, hlt]
      · rw [show (listed.setIfInBounds p.idx true).getD k false = listed.getD k false from by simp [Array.getD_eq_getD_getElem?, Array.getElem?_setIfInBounds, Ne.symm e]]
        exact hk
    by_cases e : j = p.idx
    · subst e
      exact keep k (hbits k hk)
    · rw [show (listed.setIfInBounds p.idx true).getD j false = listed.getD j false from by simp [Array.getD_eq_getD_getElem?, Array.getElem?_setIfInBounds, Ne.symm e]] at hj
      exact keep k (h.closed j k hj hk)
theorem set_get (a : A) (dst : Option Nat) (v : V) (d : Nat) : (a.set dst v).tmps.get d = if dst = some d then some v else a.tmps.get d := by
  cases dst with
  | none => rfl
  | some d' =>
    show (a.tmps.put d' (some v)).get d = _
    rw [T.get_put]
    by_cases e : d = d'
    · subst e; simp
    · rw [if_neg e, if_neg (by simpa using Ne.symm e)]
/-- Every order of a region. -/
theorem any_ok (hr : RecOK P r) {B : Nat → Nat} {N lo hi : Nat} {y : X} : ∀ (fuel : Nat) (L : List Pin) (listed : Array Bool) (a : A) (m : T AB) (ρ : Ren) (w : World) (act : Act), Left P r ops B N lo hi L listed → L.length ≤ fuel → Chain L (m.get, a.tmps.get) y → a.n = N →
    (∀ p ∈ L, Fresh ρ p.lo p.hi) → GOK ρ → AR ρ a act → MR ρ m w →
    (∀ ρ' m' (a' : A) w' act', (m'.get, a'.tmps.get) = y → a'.n = N → a'.marks = a.marks → AR ρ' a' act' → MR ρ' m' w' → Ext ρ ρ' lo hi → Q .normal act' w') →
    wpAnyIn (Fw ro) n P .any ops Q fuel listed act w := by
  intro fuel
  induction fuel with
  | zero =>
    intro L listed a m ρ w act hL hlen hc hN hf g ha hm hQ
    have : L = [] := List.length_eq_zero_iff.1 (by omega)
    subst this
    refine ⟨?_, hQ ρ m a w act hc hN rfl ha hm (Ext.refl _ _ _)⟩
    apply List.eq_nil_iff_forall_not_mem.2
    intro i hrd
    obtain ⟨h0, _⟩ := mem_ready.1 hrd
    obtain ⟨p, hp, _⟩ := (hL.left i).1 h0
    cases hp
  | succ fuel ih =>
    intro L listed a m ρ w act hL hlen hc hN hf g ha hm hQ
    refine ⟨fun h0 => ?_, fun i hrd => ?_⟩
    · have := hL.done h0
      subst this
      exact hQ ρ m a w act hc hN rfl ha hm (Ext.refl _ _ _)
    · obtain ⟨h0, _⟩ := mem_ready.1 hrd
      obtain ⟨p, hp, rfl⟩ := (hL.left i).1 h0
      obtain ⟨l1, l2, rfl⟩ := List.append_of_mem hp
      obtain ⟨hap, hL'⟩ := hL.next hrd
      obtain ⟨hok, hc'⟩ := chain_first hc hap
      obtain ⟨o, gd, ho, hgd, hdst, hrun⟩ := (hL.runs p hp).run
      obtain ⟨s', h1, h2, h3⟩ := hrun m a.tmps hok
      have hw := hL.within p hp
      refine step_ok hr (s := ⟨m, p.lo, p.lo, 0, 0⟩) ho hgd (Nat.le_refl _) h1 g ha.tmps hm (by rw [h2]; exact hf p hp) fun ρ' w' u q1 q2 q3 => ?_
      have q3 : Ext ρ ρ' p.lo p.hi := by rw [← h2]; exact q3
      have q4 : Ext ρ ρ' lo hi := q3.wide hw.1 hw.2
      have hrows : ∀ q ∈ l1 ++ l2, q.hi ≤ p.lo ∨ p.hi ≤ q.lo := fun q hq => by
        have hro := hL.rows
        rw [List.pairwise_append] at hro
        rcases List.mem_append.1 hq with hq | hq
        · exact .inl (hro.2.2 q hq p (by simp))
        · exact .inr ((List.pairwise_cons.1 hro.2.1).1 q hq)
      have hx : (s'.mem.get, (a.set o.dst p.v).tmps.get) = p.upd (m.get, a.tmps.get) := by
        apply Prod.ext
        · funext b; exact h3 b
        · funext d; show (a.set o.dst p.v).tmps.get d = _; rw [set_get, ← hdst]; rfl
      refine ih (l1 ++ l2) _ (a.set o.dst p.v) s'.mem ρ' w' (act.put o.dst u) hL' (by simp only [List.length_append, List.length_cons] at hlen ⊢; omega) (by rw [hx]; exact hc') (by rw [← hN]; cases o.dst <;> rfl) (fun q hq => ?_) (g.ext q3)
        ((ha.mono q3.le).put (fun d hd => by rw [hN]; exact hL.dst p hp d (by rw [hdst]; exact hd)) q1) q2 fun ρ2 m2 a2 w2 act2 p1 p2 p3 p4 p5 p6 => ?_
      · have hsub : q ∈ l1 ++ p :: l2 := by
          rcases List.mem_append.1 hq with hq | hq
          · exact List.mem_append.2 (.inl hq)
          · exact List.mem_append.2 (.inr (List.mem_cons_of_mem _ hq))
        exact (hf q hsub).other q3 (hrows q hq)
      · exact hQ ρ2 m2 a2 w2 act2 p1 p2 (p3.trans (by cases o.dst <;> rfl)) p4 p5 (q4.join p6)
end Go.Ex

/- A drawn region's trace, out of the executor's run. -/
namespace Go.Ex
variable {P : Program} {r : Rec}

/-! ### Masks -/
theorem span_bit (lo hi b : Nat) (h : lo ≤ hi) : (Nat.shiftLeft 1 hi - Nat.shiftLeft 1 lo).testBit b = (decide (lo ≤ b) && decide (b < hi)) := by
  have e : Nat.shiftLeft 1 hi - Nat.shiftLeft 1 lo = (2 ^ (hi - lo) - 1) <<< lo := by
    show 1 <<< hi - 1 <<< lo = _
    rw [Nat.shiftLeft_eq, Nat.shiftLeft_eq, Nat.shiftLeft_eq, Nat.sub_mul, Nat.one_mul, Nat.one_mul, ← Nat.pow_add]
    congr 2; omega
  rw [e, Nat.testBit_shiftLeft, Nat.testBit_two_pow_sub_one]
  by_cases h1 : lo ≤ b
  · simp [h1]; omega
  · simp [h1]
theorem land_zero {a b : Nat} (h : Nat.beq (Nat.land a b) 0 = true) (x : Nat) (ha : a.testBit x = true) : b.testBit x = false := by
  have h := Nat.eq_of_beq_eq_true h
  have h : a &&& b = 0 := h
  have : (a &&& b).testBit x = false := by rw [h]; exact Nat.zero_testBit x
  rw [Nat.testBit_and, ha] at this
  simpa using this
theorem lor_zero {a b : Nat} (h : Nat.lor a b = 0) : a = 0 ∧ b = 0 := by
  have h : a ||| b = 0 := h
  constructor
  · apply Nat.eq_of_testBit_eq
    intro i
    have : (a ||| b).testBit i = false := by rw [h]; exact Nat.zero_testBit i
    rw [Nat.testBit_or] at this
    simp only [Bool.or_eq_false_iff] at this
    rw [this.1, Nat.zero_testBit]
  · apply Nat.eq_of_testBit_eq
    intro i
    have : (a ||| b).testBit i = false := by rw [h]; exact Nat.zero_testBit i
    rw [Nat.testBit_or] at this
    simp only [Bool.or_eq_false_iff] at this
    rw [this.2, Nat.zero_testBit]
/-- Is an operation that reads and writes these apart from one of a log's? -/
def Clear (b r w : Nat) (e : Nat × Nat × Nat) : Prop := b.testBit e.1 = true ∨ ((∀ x, e.2.2.testBit x = true → r.testBit x = false ∧ w.testBit x = false) ∧ ∀ x, w.testBit x = true → e.2.1.testBit x = false)
theorem clearAll_ok {b r w : Nat} : ∀ {l : Log}, clearAll b r w l = true → ∀ e ∈ l, Clear b r w e
  | [], _ => by simp
  | (i, r', w') :: l, h => by
    unfold clearAll at h
    intro e he
    split at h
    · rename_i hb
      rcases List.mem_cons.1 he with rfl | he
      · exact .inl hb
      · exact clearAll_ok h e he
    · split at h
      · rename_i h1
        split at h
        · rename_i h2
          rcases List.mem_cons.1 he with rfl | he
          · refine .inr ⟨fun x hx => ?_, fun x hx => land_zero h2 x hx⟩
            have := land_zero h1 x hx
            rw [testBit_lor] at this
            simpa using this
          · exact clearAll_ok h e he
        · cases h
      · cases h
theorem logIn_ok {b i r w : Nat} {l l' : Log} (h : logIn b i r w l = some l') : (r = 0 ∧ w = 0 ∧ l' = l) ∨ ((∀ e ∈ l, Clear b r w e) ∧ l' = (i, r, w) :: l) := by
  unfold logIn at h
  split at h
  · rename_i e
    cases h
    obtain ⟨h1, h2⟩ := lor_zero e
    exact .inl ⟨h1, h2, rfl⟩
  · split at h
    · rename_i hc
      cases h
      exact .inr ⟨clearAll_ok hc, rfl⟩
    · cases h
theorem maskOf_bit : ∀ {l : List Nat} {d : Nat}, d ∈ l → (maskOf l).testBit d = true
  | [], _, h => by cases h
  | n :: l, d, h => by
    unfold maskOf
    rw [testBit_lor]
    rcases List.mem_cons.1 h with rfl | h
    · simp [Nat.shiftLeft_eq, Nat.testBit_two_pow]
    · simp [maskOf_bit h]
theorem tmpsIn_mem : ∀ {l : List Operand} {d : Nat}, .tmp d ∈ l → d ∈ tmpsIn l
  | [], _, h => by cases h
  | x :: l, d, h => by
    cases x with
    | tmp t =>
      rcases List.mem_cons.1 h with e | h
      · cases e; simp [tmpsIn]
      · exact List.mem_cons_of_mem _ (tmpsIn_mem h)
    | _ =>
      rcases List.mem_cons.1 h with e | h
      · cases e
      · show d ∈ tmpsIn l
        exact tmpsIn_mem h
theorem looks_tmp {o : Oper} {g : Option (Nat × Bool)} {d : Nat} (h : .tmp d ∈ o.op.operands.toList) : (looks o g).testBit d = true := by
  unfold looks
  rw [testBit_lor, maskOf_bit (tmpsIn_mem h)]
  rfl
theorem looks_guard {o : Oper} {d : Nat} {b : Bool} : (looks o (some (d, b))).testBit d = true := by
  unfold looks
  rw [testBit_lor]
  simp [guardMask, Nat.shiftLeft_eq, Nat.testBit_two_pow]
theorem dstMask_bit {d : Option Nat} {x : Nat} : (dstMask d).testBit x = true ↔ d = some x := by
  unfold dstMask
  cases d with
  | none => simp
  | some d => simp [Nat.shiftLeft_eq, Nat.testBit_two_pow]
theorem edgeMask_bit {ms : List Nat} : ∀ {l : List Edge} {k : Nat}, (edgeMask ms l).testBit k = true ↔ ∃ e ∈ l, Region.binds .any e = true ∧ (k = e.on ∨ (bitAt ms e.on).testBit k = true)
  | [], k => by simp [edgeMask]
  | e :: l, k => by
    unfold edgeMask
    have ih := @edgeMask_bit ms l k
    split
    · rename_i hb
      rw [testBit_lor, testBit_lor, Bool.or_eq_true, Bool.or_eq_true, ih]
      have h1 : (Nat.shiftLeft 1 e.on).testBit k = true ↔ k = e.on := by simp [Nat.shiftLeft_eq, Nat.testBit_two_pow, eq_comm]
      rw [h1]
      constructor
      · rintro (h | ⟨e', he, h⟩)
        · exact ⟨e, by simp, hb, h⟩
        · exact ⟨e', by simp [he], h⟩
      · rintro ⟨e', he, h1, h2⟩
        rcases List.mem_cons.1 he with rfl | he
        · exact .inl h2
        · exact .inr ⟨e', he, h1, h2⟩
    · rename_i hb
      rw [ih]
      constructor
      · rintro ⟨e', he, h⟩; exact ⟨e', by simp [he], h⟩
      · rintro ⟨e', he, h1, h2⟩
        rcases List.mem_cons.1 he with rfl | he
        · rw [h1] at hb; cases hb
        · exact ⟨e', he, h1, h2⟩
theorem bit_lt {b i k : Nat} (h : Nat.ble (Nat.shiftLeft 1 i) b = false) (hk : b.testBit k = true) : k < i := by
  have hb : b < 2 ^ i := by
    rcases Nat.lt_or_ge b (2 ^ i) with h' | h'
    · exact h'
    · have : Nat.ble (Nat.shiftLeft 1 i) b = true := Nat.ble_eq_true_of_le (by show 1 <<< i ≤ b; rw [Nat.shiftLeft_eq, Nat.one_mul]; exact h')
      rw [this] at h; cases h
  rcases Nat.lt_or_ge k i with h' | h'
  · exact h'
  · have := Nat.testBit_lt_two_pow (Nat.lt_of_lt_of_le hb (Nat.pow_le_pow_right (by decide) h'))
    rw [this] at hk; cases hk

/-! ### One step -/
theorem wanted_same {g : Option (Nat × Bool)} {t t' : T V} (h : ∀ d b, g = some (d, b) → t.get d = t'.get d) : wantedV t g = wantedV t' g := by
  cases g with
  | none => rfl
  | some g =>
    obtain ⟨d, b⟩ := g
    show Option.rec (motive := fun _ => Bool) false (isB b) (t.get d) = Option.rec (motive := fun _ => Bool) false (isB b) (t'.get d)
    rw [h d b rfl]
/-- What a step of a drawn region has come to. -/
def StepD (r : Rec) (it : It) (i : Nat) (t : T V) (s : S) (lg : Log) (v : V) (s1 : S) (rd wr : Nat) (lg' : Log) : Prop :=
  (rd = 0 ∧ wr = 0 ∧ lg' = lg ∧ s1 = s ∧ ((wantedV t it.g = true ∧ ∃ f, it.op = .p f ∧ f t = some v) ∨ (wantedV t it.g = false ∧ v = .tup []))) ∨
  (wantedV t it.g = true ∧ ∃ f s0, it.op = .m f ∧ runM r f t { s with lim := s.next, rd := 0, wr := 0 } = .ok v s0 ∧ rd = s0.rd ∧ wr = Nat.lor s0.wr (Nat.shiftLeft 1 s0.next - Nat.shiftLeft 1 s.next) ∧
    s1 = { s0 with lim := s.lim, rd := Nat.lor s.rd s0.rd, wr := Nat.lor s.wr s0.wr } ∧ logIn it.b i rd wr lg = some lg')
theorem stepD_inv {k : KL} {it : It} {i : Nat} {lg : Log} {a a' : A} {s s' : S} (h : (stepD it i k).f lg r a s = .ok a' s') :
    ∃ v s1 rd wr lg', StepD r it i a.tmps s lg v s1 rd wr lg' ∧ (∀ d, it.dst = some d → d < a.n) ∧ k lg' r (a.set it.dst v) s1 = .ok a' s' := by
  obtain ⟨op, dst, b, gd⟩ := it
  obtain ⟨t, n, m⟩ := a
  have pcase : ∀ f, pStep (k lg) f dst r s t n m = .ok a' s' → ∃ v, f t = some v ∧ putO (k lg) dst r t n m s v = .ok a' s' := fun f h => by
    unfold pStep at h
    cases hv : f t with
    | none => rw [hv] at h; cases h
    | some v => rw [hv] at h; exact ⟨v, rfl, h⟩
  have mcase : ∀ f, dStep k f b i dst lg r s t n m = .ok a' s' → ∃ v s0 lg', runM r f t { s with lim := s.next, rd := 0, wr := 0 } = .ok v s0 ∧ logIn b i s0.rd (Nat.lor s0.wr (Nat.shiftLeft 1 s0.next - Nat.shiftLeft 1 s.next)) lg = some lg' ∧
      putO (k lg') dst r t n m { s0 with lim := s.lim, rd := Nat.lor s.rd s0.rd, wr := Nat.lor s.wr s0.wr } v = .ok a' s' := fun f h => by
    unfold dStep at h
    rw [Rrec_eq, apart_eq] at h
    obtain ⟨x, s1, h1, h2⟩ := R.bind_eq_ok h
    obtain ⟨v, s0, h3, h4⟩ := R.bind_eq_ok h1
    cases h4
    have h2 : Option.rec (motive := fun _ => R A) (.no "region: an order matters") (fun l => putO (k l) dst r t n m { s0 with lim := s.lim, rd := Nat.lor s.rd s0.rd, wr := Nat.lor s.wr s0.wr } v) (logIn b i s0.rd (Nat.lor s0.wr (Nat.shiftLeft 1 s0.next - Nat.shiftLeft 1 s.next)) lg) = .ok a' s' := h2
    cases hl : logIn b i s0.rd (Nat.lor s0.wr (Nat.shiftLeft 1 s0.next - Nat.shiftLeft 1 s.next)) lg with
    | none => rw [hl] at h2; cases h2
    | some lg' => rw [hl] at h2; exact ⟨v, s0, lg', h3, hl, h2⟩
  have gcase : ∀ (go : S → T V → Nat → List Nat → R A), gStep go (fun s t n m => putO (k lg) dst r t n m s (.tup [])) gd s t n m = .ok a' s' →
      (wantedV t gd = true ∧ go s t n m = .ok a' s') ∨ (wantedV t gd = false ∧ putO (k lg) dst r t n m s (.tup []) = .ok a' s') := fun go h => by
    unfold gStep at h
    rw [ite2_eq] at h
    split at h
    · rename_i e; exact .inl ⟨e, h⟩
    · rename_i e; exact .inr ⟨by simpa using e, h⟩
  have skip : ∀ op', wantedV t gd = false → putO (k lg) dst r t n m s (.tup []) = .ok a' s' → ∃ v s1 rd wr lg', StepD r ⟨op', dst, b, gd⟩ i t s lg v s1 rd wr lg' ∧ (∀ d, dst = some d → d < n) ∧ k lg' r (A.set ⟨t, n, m⟩ dst v) s1 = .ok a' s' := fun op' e h => by
    obtain ⟨h3, h4⟩ := putO_inv (a := ⟨t, n, m⟩) h
    exact ⟨_, s, 0, 0, lg, .inl ⟨rfl, rfl, rfl, rfl, .inr ⟨e, rfl⟩⟩, h3, h4⟩
  have pk : ∀ f, wantedV t gd = true → pStep (k lg) f dst r s t n m = .ok a' s' → ∃ v s1 rd wr lg', StepD r ⟨.p f, dst, b, gd⟩ i t s lg v s1 rd wr lg' ∧ (∀ d, dst = some d → d < n) ∧ k lg' r (A.set ⟨t, n, m⟩ dst v) s1 = .ok a' s' := fun f e h => by
    obtain ⟨v, h1, h2⟩ := pcase f h
    obtain ⟨h3, h4⟩ := putO_inv (a := ⟨t, n, m⟩) h2
    exact ⟨v, s, 0, 0, lg, .inl ⟨rfl, rfl, rfl, rfl, .inl ⟨e, f, rfl, h1⟩⟩, h3, h4⟩
  have mk : ∀ f, wantedV t gd = true → dStep k f b i dst lg r s t n m = .ok a' s' → ∃ v s1 rd wr lg', StepD r ⟨.m f, dst, b, gd⟩ i t s lg v s1 rd wr lg' ∧ (∀ d, dst = some d → d < n) ∧ k lg' r (A.set ⟨t, n, m⟩ dst v) s1 = .ok a' s' := fun f e h => by
    obtain ⟨v, s0, lg', h1, h2, h3⟩ := mcase f h
    obtain ⟨h4, h5⟩ := putO_inv (a := ⟨t, n, m⟩) h3
    exact ⟨v, _, _, _, lg', .inr ⟨e, f, s0, rfl, h1, rfl, rfl, rfl, h2⟩, h4, h5⟩
  cases op with
  | p f =>
    cases gd with
    | none => exact pk f rfl h
    | some g =>
      rcases gcase _ h with ⟨e, h⟩ | ⟨e, h⟩
      · exact pk f e h
      · exact skip _ e h
  | m f =>
    cases gd with
    | none => exact mk f rfl h
    | some g =>
      rcases gcase _ h with ⟨e, h⟩ | ⟨e, h⟩
      · exact mk f e h
      · exact skip _ e h
  | no y =>
    cases gd with
    | none => cases h
    | some g =>
      rcases gcase _ h with ⟨e, h⟩ | ⟨e, h⟩
      · obtain ⟨v, s0, lg', h1, _⟩ := mcase _ h
        rw [runM_eq] at h1
        cases h1
      · exact skip _ e h
/-- The step, pinned. -/
theorem pin_ok (hr : RecL r) {ops : Array Oper} {o : Oper} {gd : Option (Nat × Bool)} {i b : Nat} {t : T V} {s s1 : S} {lg lg' : Log} {v : V} {rd wr : Nat} (ho : ops[i]? = some o) (hgd : guardAt ops.toList o = some gd)
    (h : StepD r ⟨opC P o.op, o.dst, b, gd⟩ i t s lg v s1 rd wr lg') :
    s.next ≤ s1.next ∧ s1.lim = s.lim ∧ (∀ x, wr.testBit x = false → s1.mem.get x = s.mem.get x) ∧ Pin.Runs P r ops ⟨i, s.next, s1.next, rd, wr, s.mem.get, s1.mem.get, o.dst, v, looks o gd, t.get⟩ := by
  have same : ∀ t' : T V, (∀ d, (looks o gd).testBit d = true → t'.get d = t.get d) → wantedV t' gd = wantedV t gd ∧ (∀ f, opC P o.op = .p f → f t' = f t) ∧ (∀ f, opC P o.op = .m f → f t' = f t) := fun t' ht => by
    have h1 := opC_same (P := P) (t := t') (t' := t) o.op fun d hd => ht d (looks_tmp hd)
    exact ⟨wanted_same fun d b e => ht d (by rw [e]; exact looks_guard), h1.1, h1.2⟩
  rcases h with ⟨rfl, rfl, rfl, rfl, hv⟩ | ⟨hw, f, s0, hf, hrun, rfl, rfl, rfl, _⟩
  · refine ⟨Nat.le_refl _, rfl, fun _ _ => rfl, Nat.le_refl _, o, gd, ho, hgd, rfl, fun m t' hok => ⟨⟨m, s1.next, s1.next, 0, 0⟩, ?_, rfl, fun x => ?_⟩⟩
    · obtain ⟨e1, e2, _⟩ := same t' hok.2
      rcases hv with ⟨hw, f, hf, hv⟩ | ⟨hw, hv⟩
      · exact .inl ⟨e1.trans hw, .inl ⟨f, hf, (e2 f hf).trans hv, rfl⟩⟩
      · exact .inr ⟨e1.trans hw, hv, rfl⟩
    · show m.get x = if (0 : Nat).testBit x = true then _ else m.get x
      rw [if_neg (by simp)]
  · have hf : opC P o.op = .m f := hf
    have hlo : Local (f t) := opM_local hf t
    have w0 := fun m => runM_local hr hlo { s with lim := s.next, rd := 0, wr := 0 } m (Nat.le_refl _) v s0 hrun
    have hn : s.next ≤ s0.next := (w0 s.mem).next
    have hkeep : ∀ x, (Nat.lor s0.wr (Nat.shiftLeft 1 s0.next - Nat.shiftLeft 1 s.next)).testBit x = false → s0.mem.get x = s.mem.get x := fun x hx => by
      rw [testBit_lor, Bool.or_eq_false_iff, span_bit _ _ _ hn] at hx
      refine (w0 s.mem).keep x (fun hh => ?_) hx.1
      have h1 : s.next ≤ x ∧ x < s0.next := hh
      have h2 := hx.2
      simp [h1.1, h1.2] at h2
    refine ⟨hn, rfl, hkeep, hn, o, gd, ho, hgd, rfl, fun m t' hok => ?_⟩
    obtain ⟨e1, _, e3⟩ := same t' hok.2
    have hmem : ∀ x, s0.rd.testBit x = true ∨ (Nat.lor s0.wr (Nat.shiftLeft 1 s0.next - Nat.shiftLeft 1 s.next)).testBit x = true → m.get x = s.mem.get x := hok.1
    obtain ⟨m', hr', hv1, hv2⟩ := (w0 m).move fun x hx => by
      refine hmem x ?_
      rcases hx with hx | hx | hx
      · have hx : s.next ≤ x ∧ x < s.next := hx
        omega
      · exact .inl hx
      · exact .inr (by rw [testBit_lor, hx]; rfl)
    refine ⟨{ s0 with mem := m' }, .inl ⟨e1.trans hw, .inr ⟨f, hf, ?_⟩⟩, rfl, fun x => ?_⟩
    · rw [runM_eq, e3 f hf, ← runM_eq]; exact hr'
    · show m'.get x = if (Nat.lor s0.wr (Nat.shiftLeft 1 s0.next - Nat.shiftLeft 1 s.next)).testBit x = true then s0.mem.get x else m.get x
      by_cases hx : (Nat.lor s0.wr (Nat.shiftLeft 1 s0.next - Nat.shiftLeft 1 s.next)).testBit x = true
      · rw [if_pos hx]
        refine hv1 x ?_
        rw [testBit_lor, Bool.or_eq_true, span_bit _ _ _ hn, Bool.and_eq_true, decide_eq_true_eq, decide_eq_true_eq] at hx
        rcases hx with hx | hx
        · exact .inr (.inr hx)
        · exact .inl hx
      · rw [if_neg hx]
        have hx' : (Nat.lor s0.wr (Nat.shiftLeft 1 s0.next - Nat.shiftLeft 1 s.next)).testBit x = false := by simpa using hx
        by_cases hrd : s0.rd.testBit x = true
        · rw [hv1 x (.inr (.inl hrd)), hkeep x hx']
          exact (hmem x (.inl hrd)).symm
        · refine hv2 x fun hv => ?_
          rw [testBit_lor, Bool.or_eq_false_iff, span_bit _ _ _ hn] at hx'
          rcases hv with hv | hv | hv
          · have hv : s.next ≤ x ∧ x < s0.next := hv
            have := hx'.2
            simp [hv.1, hv.2] at this
          · exact hrd hv
          · rw [hv] at hx'; cases hx'.1
end Go.Ex

/- A drawn region: the model does what the executor does, in whatever order. -/
namespace Go.Ex
variable {P : Program} {r : Rec} {ops : Array Oper}

/-- A run of a region's operations, from the i-th on, as pinned operations. -/
structure Trace (P : Program) (r : Rec) (ops : Array Oper) (B : Nat → Nat) (i len : Nat) (lg acc : Log) (a : A) (s : S) (a' : A) (s' : S) (pins : List Pin) : Prop where
  chain : Chain pins (s.mem.get, a.tmps.get) (s'.mem.get, a'.tmps.get)
  n : a'.n = a.n
  marks : a'.marks = a.marks
  next : s.next ≤ s'.next
  lim : s'.lim = s.lim
  idx : pins.map Pin.idx = List.range' i len
  runs : ∀ p ∈ pins, p.Runs P r ops
  ahead : ∀ p ∈ pins, Ahead ops B p.idx
  within : ∀ p ∈ pins, s.next ≤ p.lo ∧ p.hi ≤ s'.next
  dst : ∀ p ∈ pins, ∀ d, p.dst = some d → d < a.n
  logs : ∀ p ∈ pins, ∀ e ∈ lg, Clear (B p.idx) p.rd p.wr e
  tmps : ∀ p ∈ pins, ∀ e ∈ acc, Clear (B p.idx) p.lk (dstMask p.dst) e
  apart : pins.Pairwise fun q p => (B p.idx).testBit q.idx = true ∨ Apart p q
  rows : pins.Pairwise fun q p => q.hi ≤ p.lo
theorem bitAt_append {ms rest : List Nat} {k : Nat} (h : k < ms.length) : bitAt (ms ++ rest) k = bitAt ms k := by
  unfold bitAt; rw [List.getElem?_append_left h]
theorem Clear.zero (b : Nat) (e : Nat × Nat × Nat) : Clear b 0 0 e := .inr ⟨fun x _ => ⟨Nat.zero_testBit x, Nat.zero_testBit x⟩, fun x hx => by rw [Nat.zero_testBit] at hx; cases hx⟩
theorem draw_trace (hr : RecL r) : ∀ {l : List Oper} {i : Nat} {ms : List Nat} {acc : Log} {its : List It} {lg : Log} {a : A} {s : S} {a' : A} {s' : S}, ops.toList.drop i = l → prepGo P true ops.toList l i ms acc = some its → ms.length = i → s.lim ≤ s.next →
    (drawK its i).f lg r a s = .ok a' s' → ∃ pins rest, Trace P r ops (bitAt (ms ++ rest)) i l.length lg acc a s a' s' pins := by
  intro l
  induction l with
  | nil =>
    intro i ms acc its lg a s a' s' _ hp _ _ h
    cases hp
    cases h
    exact ⟨[], [], ⟨rfl, rfl, rfl, Nat.le_refl _, rfl, rfl, by simp, by simp, by simp, by simp, by simp, by simp, List.Pairwise.nil, List.Pairwise.nil⟩⟩
  | cons o l ih =>
    intro i ms acc its lg a s a' s' hd hp hms hs h
    have ho : ops[i]? = some o := by
      have := congrArg (·[0]?) hd
      simpa using this
    have hd' : ops.toList.drop (i + 1) = l := by
      have := congrArg List.tail hd
      simpa using this
    unfold prepGo at hp
    split at hp
    · cases hp
    · rename_i gd hgd
      simp only [seqN_eq] at hp
      split at hp
      · rename_i hble hclear
        split at hp
        · rename_i its' hits
          cases hp
          generalize hb : edgeMask ms o.after.toList = b at *
          obtain ⟨v, s1, rd, wr, lg', h1, h2, h3⟩ := stepD_inv (it := ⟨opC P o.op, o.dst, b, gd⟩) (k := (drawK its' (Nat.succ i)).f) h
          obtain ⟨p1, p2, p3, p4⟩ := pin_ok hr ho hgd h1
          have hs1 : s1.lim ≤ s1.next := by rw [p2]; exact Nat.le_trans hs p1
          obtain ⟨pins, rest, tr⟩ := ih hd' hits (by simp [hms]) hs1 h3
          have hn1 : (a.set o.dst v).n = a.n := by cases o.dst <;> rfl
          have hm1 : (a.set o.dst v).marks = a.marks := by cases o.dst <;> rfl
          have eB : (ms ++ [b]) ++ rest = ms ++ (b :: rest) := by simp
          rw [eB] at tr
          have hBi : bitAt (ms ++ (b :: rest)) i = b := by
            unfold bitAt
            rw [List.getElem?_append_right (by omega), hms]
            simp
          have hlog : (∀ e ∈ lg, Clear b rd wr e) ∧ (∀ e ∈ lg, e ∈ lg') ∧ ((rd = 0 ∧ wr = 0) ∨ (i, rd, wr) ∈ lg') := by
            rcases h1 with ⟨rfl, rfl, rfl, _, _⟩ | ⟨_, _, _, _, _, _, _, _, hl⟩
            · exact ⟨fun e _ => Clear.zero b e, fun e he => he, .inl ⟨rfl, rfl⟩⟩
            · rcases logIn_ok hl with ⟨rfl, rfl, rfl⟩ | ⟨hc, rfl⟩
              · exact ⟨fun e _ => Clear.zero b e, fun e he => he, .inl ⟨rfl, rfl⟩⟩
              · exact ⟨hc, fun e he => List.mem_cons_of_mem _ he, .inr (by simp)⟩
          have hx : (s1.mem.get, (a.set o.dst v).tmps.get) = Pin.upd ⟨i, s.next, s1.next, rd, wr, s.mem.get, s1.mem.get, o.dst, v, looks o gd, a.tmps.get⟩ (s.mem.get, a.tmps.get) := by
            apply Prod.ext
            · funext x
              show s1.mem.get x = if wr.testBit x = true then s1.mem.get x else s.mem.get x
              split
              · rfl
              · rename_i hx; exact p3 x (by simpa using hx)
            · funext d; show (a.set o.dst v).tmps.get d = _; rw [set_get]; rfl
          refine ⟨⟨i, s.next, s1.next, rd, wr, s.mem.get, s1.mem.get, o.dst, v, looks o gd, a.tmps.get⟩ :: pins, b :: rest, ⟨⟨⟨fun _ _ => rfl, fun _ _ => rfl⟩, by rw [← hx]; exact tr.chain⟩, tr.n.trans hn1, tr.marks.trans hm1, Nat.le_trans p1 tr.next, tr.lim.trans p2, ?_, fun p hp => ?_, fun p hp => ?_, fun p hp => ?_, fun p hp => ?_, fun p hp => ?_, fun p hp => ?_, ?_, ?_⟩⟩
          · rw [List.map_cons, List.length_cons, List.range'_succ, tr.idx]
          · rcases List.mem_cons.1 hp with rfl | hp
            · exact p4
            · exact tr.runs p hp
          · rcases List.mem_cons.1 hp with rfl | hp
            · have key : ∀ e ∈ o.after, Region.binds .any e = true → e.on < i := fun e he hbd =>
                bit_lt hble (by rw [← hb]; exact edgeMask_bit.2 ⟨e, by simpa using he, hbd, .inl rfl⟩)
              refine ⟨fun o' ho' e he hbd => ?_, fun o' ho' k hk => ?_⟩
              · rw [ho] at ho'; cases ho'; exact key e he hbd
              · rw [ho] at ho'; cases ho'
                have hk : (bitAt (ms ++ b :: rest) i).testBit k = true := hk
                rw [hBi, ← hb] at hk
                obtain ⟨e, he, hbd, hk⟩ := edgeMask_bit.1 hk
                have he : e ∈ o.after := by simpa using he
                refine ⟨e, he, hbd, ?_⟩
                rcases hk with hk | hk
                · exact .inl hk
                · exact .inr (by rw [bitAt_append (by rw [hms]; exact key e he hbd)]; exact hk)
            · exact tr.ahead p hp
          · rcases List.mem_cons.1 hp with rfl | hp
            · exact ⟨Nat.le_refl _, tr.next⟩
            · exact ⟨Nat.le_trans p1 (tr.within p hp).1, (tr.within p hp).2⟩
          · rcases List.mem_cons.1 hp with rfl | hp
            · exact h2
            · rw [← hn1]; exact tr.dst p hp
          · intro e he
            rcases List.mem_cons.1 hp with rfl | hp
            · show Clear (bitAt (ms ++ b :: rest) i) rd wr e
              rw [hBi]
              exact hlog.1 e he
            · exact tr.logs p hp e (hlog.2.1 e he)
          · intro e he
            rcases List.mem_cons.1 hp with rfl | hp
            · show Clear (bitAt (ms ++ b :: rest) i) (looks o gd) (dstMask o.dst) e
              rw [hBi]
              exact clearAll_ok hclear e he
            · exact tr.tmps p hp e (List.mem_cons_of_mem _ he)
          · refine List.pairwise_cons.2 ⟨fun p hp => ?_, tr.apart⟩
            have c1 : (bitAt (ms ++ b :: rest) p.idx).testBit i = true ∨ ((∀ x, wr.testBit x = true → p.rd.testBit x = false ∧ p.wr.testBit x = false) ∧ ∀ x, p.wr.testBit x = true → rd.testBit x = false) := by
              rcases hlog.2.2 with ⟨rfl, rfl⟩ | he
              · exact .inr ⟨fun x hx => (by rw [Nat.zero_testBit] at hx; cases hx), fun x _ => Nat.zero_testBit x⟩
              · exact tr.logs p hp _ he
            have c2 : Clear (bitAt (ms ++ b :: rest) p.idx) p.lk (dstMask p.dst) (i, looks o gd, dstMask o.dst) := tr.tmps p hp _ (by simp)
            rcases c1 with c1 | ⟨c1, c1'⟩
            · exact .inl c1
            · rcases c2 with c2 | ⟨c2, c2'⟩
              · exact .inl c2
              · refine .inr ⟨fun x hx => c1 x hx, fun x hx => c1' x hx, fun d hd => ?_, fun d hd => c2' d (dstMask_bit.2 hd)⟩
                obtain ⟨q1, q2⟩ := c2 d (dstMask_bit.2 hd)
                exact ⟨q1, fun e => by rw [dstMask_bit.2 e] at q2; cases q2⟩
          · exact List.pairwise_cons.2 ⟨fun p hp => (tr.within p hp).1, tr.rows⟩
        · cases hp
      · cases hp
theorem mem_range' {i n x : Nat} : x ∈ List.range' i n ↔ i ≤ x ∧ x < i + n := by rw [List.mem_range'_1]
/-- A region, in the order that is drawn, or in its own. -/
theorem region_ok (hr : RecOK P r) (hmix : P.follows .mixedOrders = true) {id : Nat} {draw : Bool} {s s' : S} {a a' : A} {e : E} {ρ : Ren} {w : World} {act : Act} {ro rq : Option Nat} {n : Nat} {Q : Exit → Act → World → Prop} (hs : s.lim ≤ s.next)
    (h : (regionC P draw ops).f r rq a s = .ok (e, a') s') (g : GOK ρ) (ha : AR ρ a act) (hm : MR ρ s.mem w) (hf : Fresh ρ s.next s'.next)
    (hQ : ∀ ρ' w' act', AR ρ' a' act' → MR ρ' s'.mem w' → Ext ρ ρ' s.next s'.next → Q .normal act' w') : e = .norm ∧ (Code.region id ops draw).wpIn (Fw ro) n P Q act w := by
  unfold regionC at h
  cases hp : prep P draw ops with
  | none => rw [hp] at h; cases h
  | some its =>
    rw [hp] at h
    have done : ∀ {k : KA}, regionSeq k r rq a s = .ok (e, a') s' → e = .norm ∧ k r a s = .ok a' s' := fun {k} h => by
      unfold regionSeq at h
      rw [Rrec_eq] at h
      obtain ⟨x, s1, h1, h2⟩ := R.bind_eq_ok h
      cases h2
      exact ⟨rfl, h1⟩
    cases draw with
    | false =>
      obtain ⟨e1, h1⟩ := done (k := (seqK its).f) h
      refine ⟨e1, wpIn_region ?_⟩
      rw [List.range_eq_range']
      have hl : ops.size = ops.toList.length := by simp
      rw [hl]
      exact seqK_ok hr (by simp) hp hs h1 g ha hm hf hQ
    | true =>
      obtain ⟨e1, h1⟩ := done (k := (drawK its 0).f []) h
      refine ⟨e1, wpIn_region_any hmix ?_⟩
      obtain ⟨pins, rest, tr⟩ := draw_trace hr.loc (ops := ops) (i := 0) (ms := []) (acc := []) (lg := []) (by simp) hp rfl hs h1
      have hidx := tr.idx
      have hlen : ops.toList.length = ops.size := by simp
      rw [hlen] at hidx
      have hplen : pins.length = ops.size := by
        have := congrArg List.length hidx
        simpa using this
      refine any_ok hr (B := bitAt ([] ++ rest)) (N := a.n) (lo := s.next) (hi := s'.next) (y := (s'.mem.get, a'.tmps.get)) ops.size pins _ a s.mem ρ _ act ⟨by simp, fun i => ?_, ?_, tr.runs, tr.ahead, tr.apart, fun j k hj => ?_, tr.rows, tr.within, tr.dst⟩ (by omega) tr.chain rfl
        (fun p hp => hf.sub (tr.within p hp).1 (tr.within p hp).2) g ha (hm.same rfl) fun ρ' m' a2 w' act' q1 q2 q3 q4 q5 q6 => ?_
      · have e1 : (Array.replicate ops.size false).getD i true = false ↔ i < ops.size := by
          by_cases hi : i < ops.size
          · simp [Array.getD_eq_getD_getElem?, hi]
          · simp [Array.getD_eq_getD_getElem?, hi]
        rw [e1]
        have e2 : (∃ p ∈ pins, p.idx = i) ↔ i ∈ pins.map Pin.idx := by simp
        rw [e2, hidx, mem_range']
        omega
      · have : (pins.map Pin.idx).Pairwise (· < ·) := by rw [hidx]; exact List.pairwise_lt_range'
        exact List.pairwise_map.1 this
      · by_cases hi : j < ops.size
        · simp [Array.getD_eq_getD_getElem?, hi] at hj
        · simp [Array.getD_eq_getD_getElem?, hi] at hj
      · have eq1 : m'.get = s'.mem.get := congrArg Prod.fst q1
        have eq2 : a2.tmps.get = a'.tmps.get := congrArg Prod.snd q1
        refine hQ ρ' w' act' ⟨fun i => ?_, ?_, ?_⟩ (q5.congr fun b => by rw [eq1]) q6
        · have := q4.tmps i
          rw [eq2] at this
          exact this
        · rw [q4.size, q2, tr.n]
        · rw [tr.marks, ← q3]; exact q4.marks
end Go.Ex

/- Code: the model does what the executor does. -/
namespace Go.Ex
variable {P : Program} {r : Rec}

def E.exitOf : E → Exit
  | .norm => .normal
  | .exit id => .exit id
  | .ret => .ret
/-- The loop whose round is walked. -/
def RoR (ρ : Ren) : Option Nat → Option Nat → Prop
  | none, ro => ro = none
  | some l, ro => ∃ k, ρ l = some k ∧ ro = some k.blk
theorem RoR.mono {ρ ρ' : Ren} (h : Le ρ ρ') {rl ro : Option Nat} (k : RoR ρ rl ro) : RoR ρ' rl ro := by
  cases rl with
  | none => exact k
  | some l => obtain ⟨b, h1, h2⟩ := k; exact ⟨b, h _ _ h1, h2⟩
theorem seqF_inv {f g : CF} {rl : Option Nat} {a a' : A} {s s' : S} {e : E} (h : seqF f g r rl a s = .ok (e, a') s') : ∃ e1 a1 s1, f r rl a s = .ok (e1, a1) s1 ∧ ((e1 = .norm ∧ g r rl a1 s1 = .ok (e, a') s') ∨ (e1 ≠ .norm ∧ e = e1 ∧ a' = a1 ∧ s' = s1)) := by
  unfold seqF at h
  rw [Rrec_eq] at h
  obtain ⟨x, s1, h1, h2⟩ := R.bind_eq_ok h
  obtain ⟨e1, a1⟩ := x
  refine ⟨e1, a1, s1, h1, ?_⟩
  cases e1 with
  | norm => exact .inl ⟨rfl, h2⟩
  | exit j => cases h2; exact .inr ⟨by simp, rfl, rfl, rfl⟩
  | ret => cases h2; exact .inr ⟨by simp, rfl, rfl, rfl⟩
theorem blockF_inv {f : CF} {id : Nat} {rl : Option Nat} {a a' : A} {s s' : S} {e : E} (h : blockF id f r rl a s = .ok (e, a') s') : ∃ e1, f r rl a s = .ok (e1, a') s' ∧ ((e1 = .exit id ∧ e = .norm) ∨ (e1 ≠ .exit id ∧ e = e1)) := by
  unfold blockF at h
  rw [Rrec_eq] at h
  obtain ⟨x, s1, h1, h2⟩ := R.bind_eq_ok h
  obtain ⟨e1, a1⟩ := x
  cases e1 with
  | norm => cases h2; exact ⟨_, h1, .inr ⟨by simp, rfl⟩⟩
  | exit j =>
    have h5 : ite2 (Nat.beq j id) (R.ok (E.exit j, a1) s1) (R.ok (E.norm, a1) s1) = R.ok (e, a') s' := h2
    clear h2
    rw [ite2_eq] at h5
    by_cases hb : j = id
    · subst hb
      rw [if_pos (Nat.beq_refl j)] at h5
      cases h5
      exact ⟨_, h1, .inl ⟨rfl, rfl⟩⟩
    · rw [if_neg (fun e => hb (Nat.eq_of_beq_eq_true e))] at h5
      cases h5
      exact ⟨_, h1, .inr ⟨fun e => by cases e; exact hb rfl, rfl⟩⟩
  | ret => cases h2; exact ⟨_, h1, .inr ⟨by simp, rfl⟩⟩

/-- So many rounds that end normally. -/
inductive RN (body : A → S → R (E × A)) : Nat → A → S → A → S → Prop
  | zero (a : A) (s : S) : RN body 0 a s a s
  | succ {n : Nat} {a a1 a' : A} {s s1 s' : S} : body a s = .ok (.norm, a1) s1 → RN body n a1 s1 a' s' → RN body (n + 1) a s a' s'
theorem RN.trans {body : A → S → R (E × A)} {m n : Nat} {a a1 a' : A} {s s1 s' : S} (h : RN body m a s a1 s1) (k : RN body n a1 s1 a' s') : ∃ j, RN body j a s a' s' := by
  induction h with
  | zero => exact ⟨_, k⟩
  | succ h1 _ ih => obtain ⟨j, hj⟩ := ih k; exact ⟨_, .succ h1 hj⟩
theorem rounds_inv {body : A → S → R (E × A)} : ∀ (k : Nat) {a a' : A} {s s' : S} {e : E}, rounds body k a s = .ok (e, a') s' → (e = .norm ∧ ∃ n, RN body n a s a' s') ∨ (e ≠ .norm ∧ ∃ n a1 s1, RN body n a s a1 s1 ∧ body a1 s1 = .ok (e, a') s')
  | 0, a, a', s, s', e, h => by
    have h : body a s = .ok (e, a') s' := h
    by_cases he : e = .norm
    · subst he; exact .inl ⟨rfl, 1, .succ h (.zero _ _)⟩
    · exact .inr ⟨he, 0, a, s, .zero _ _, h⟩
  | k + 1, a, a', s, s', e, h => by
    have h : R.rec (motive := fun _ => R (E × A)) (fun w => .no w) (fun x s => Prod.rec (loopE (rounds body k) s) x) (rounds body k a s) = R.ok (e, a') s' := h
    rw [Rrec_eq] at h
    obtain ⟨x, s1, h1, h2⟩ := R.bind_eq_ok h
    obtain ⟨e1, a1⟩ := x
    rcases rounds_inv k h1 with ⟨rfl, n, hn⟩ | ⟨he, n, a2, s2, hn, hb⟩
    · have h2 : rounds body k a1 s1 = .ok (e, a') s' := h2
      rcases rounds_inv k h2 with ⟨rfl, m, hm⟩ | ⟨he, m, a2, s2, hm, hb⟩
      · exact .inl ⟨rfl, hn.trans hm⟩
      · obtain ⟨j, hj⟩ := hn.trans hm
        exact .inr ⟨he, j, a2, s2, hj, hb⟩
    · cases e1 with
      | norm => exact absurd rfl he
      | exit j => cases h2; exact .inr ⟨he, n, a2, s2, hn, hb⟩
      | ret => cases h2; exact .inr ⟨he, n, a2, s2, hn, hb⟩
theorem RN.local {body : A → S → R (E × A)} (hb : ∀ a, Local (body a)) {n : Nat} {a a' : A} {s s' : S} (h : RN body n a s a' s') : s.lim ≤ s.next → s.next ≤ s'.next ∧ s'.lim = s.lim := by
  induction h with
  | zero => exact fun _ => ⟨Nat.le_refl _, rfl⟩
  | succ h1 _ ih =>
    intro hs
    have w := hb _ _ (.lf) hs _ _ h1
    obtain ⟨k1, k2⟩ := ih (by rw [w.lim]; exact Nat.le_trans hs w.next)
    exact ⟨Nat.le_trans w.next k1, k2.trans w.lim⟩
theorem exists_least (p : Nat → Prop) : ∀ n, p n → ∃ m, p m ∧ ∀ k, p k → m ≤ k := by
  intro n
  induction n using Nat.strongRecOn with
  | _ n ih =>
    intro hn
    by_cases h : ∃ m, m < n ∧ p m
    · obtain ⟨m, h1, h2⟩ := h; exact ih m h1 h2
    · exact ⟨n, hn, fun k hk => by
        rcases Nat.lt_or_ge k n with h' | h'
        · exact absurd ⟨k, h', hk⟩ h
        · exact h'⟩

/-! ### Loops over functions -/
theorem run_setObj_loop' {l : Nat} {lp : Loop} {w : World} (o : Obj) (h : w.heap[l]? = some (.loop lp)) : (setObj l o).run P w = .ok () { w with heap := w.heap.setIfInBounds l o } := by simp [setObj, Sem.run, h]
theorem MR.forgot {ρ : Ren} {m : T AB} {w w' : World} {b : Nat} {x : AB} {l : Loc} (h : MR ρ m w) (hb : m.get b = some x) (hl : ρ b = some l) (hk : ∀ j, j ≠ l.blk → w'.heap[j]? = w.heap[j]?) (v : Env w w' := by exact ⟨rfl, rfl, rfl⟩) : MR ρ (m.put b none) w' := by
  have hf := h.forget b
  refine ⟨fun c y hc => ?_, hf.far⟩
  obtain ⟨k, k1, k2⟩ := hf.at_ c y hc
  refine ⟨k, k1, k2.world (hk k.blk fun e => ?_) v⟩
  rw [T.get_put] at hc
  split at hc
  · cases hc
  · rename_i hne
    exact hne (h.far c b y x k l hc hb k1 hl e)
theorem heap_other {w : World} {l j : Nat} {o : Obj} (h : j ≠ l) : (w.heap.setIfInBounds l o)[j]? = w.heap[j]? := by simp [Ne.symm h]
/-- The end of a loop over a function. -/
theorem rangeEnd_ok {l : Nat} {a a' : A} {s s' : S} {e : E} {ρ : Ren} {w : World} {k : Loc} (h : rangeEnd l a s = .ok (e, a') s') (hm : MR ρ s.mem w) (hl : ρ l = some k) :
    a' = a ∧ s'.next = s.next ∧ ∃ jump w', (Instr.endLoop k.blk).run P w = .ok jump w' ∧ MR ρ s'.mem w' ∧ ((jump = none ∧ e = .norm) ∨ (∃ id, jump = some (.exit id) ∧ e = .exit id) ∨ (jump = some .ret ∧ e = .ret)) := by
  unfold rangeEnd at h
  obtain ⟨x, s1, h1, h2⟩ := R.bind_eq_ok h
  obtain ⟨_, k1, k2, k3⟩ := get_ok h1
  unfold rangeEndIn at h2
  split at h2
  · rename_i st p n t ps c d df
    split at h2
    · cases h2
    · rename_i hst
      obtain ⟨⟨⟩, s2, h3, h4⟩ := R.bind_eq_ok h2
      obtain ⟨_, j1, j2⟩ := put_ok h3
      obtain ⟨k', hk', f, tm, kk, q1, _⟩ := hm.at_ _ _ k1
      rw [hl] at hk'; cases hk'
      have hrun : (Instr.endLoop k.blk).run P w = .ok p { w with heap := w.heap.setIfInBounds k.blk (.loop { state := .exhausted, pending := p, fn := f, tmps := tm, params := ⟨ps⟩, assign := c, body := d, defers := kk }) } := by
        have hb : (st == LoopState.busy) = false := by
          cases st <;> first | rfl | exact absurd rfl hst
        simp only [Instr.endLoop, Instr.getLoop, Sem.run_bind, run_getObj_loop' q1, Result.andThen_ok, Sem.run_pure, hb, Bool.false_eq_true, if_false, run_setObj_loop' _ q1]
      have hmem : MR ρ s2.mem { w with heap := w.heap.setIfInBounds k.blk (.loop { state := .exhausted, pending := p, fn := f, tmps := tm, params := ⟨ps⟩, assign := c, body := d, defers := kk }) } := by
        rw [j1, k2]; exact hm.forgot k1 hl fun j hj => heap_other hj
      unfold jumpOf at h4
      split at h4
      · cases h4; exact ⟨rfl, j2.trans k3, _, _, hrun, hmem, .inl ⟨rfl, rfl⟩⟩
      · cases h4; exact ⟨rfl, j2.trans k3, _, _, hrun, hmem, .inr (.inl ⟨_, rfl, rfl⟩)⟩
      · cases h4; exact ⟨rfl, j2.trans k3, _, _, hrun, hmem, .inr (.inr ⟨rfl, rfl⟩)⟩
      · cases h4
  · cases h2
end Go.Ex

/- Code: the model does what the executor does: all code. -/
namespace Go.Ex
variable {P : Program} {r : Rec}

/-- A loop over a function is entered. -/
theorem enter_ok {rl ro : Option Nat} {a : A} {d : Nat × List Nat} {l : Nat} {s s1 s2 : S} {ps : List Nat} {c b : Code} {ρ : Ren} {w : World} {act : Act} (h1 : deferAt rl s = .ok d s1) (h2 : new (.loop .ready none a.n a.tmps ps c b d.1) s1 = .ok l s2)
    (hro : RoR ρ rl ro) (ha : AR ρ a act) (hm : MR ρ s.mem w) (hf : Fresh ρ s.next s2.next) (fn : FuncId) :
    s.next ≤ s2.next ∧ ∃ ρ' k mark w', (Instr.enterLoop fn act.tmps ⟨ps⟩ c b ro).run P w = .ok (k.blk, mark) w' ∧ ρ' l = some k ∧ MR ρ' s2.mem w' ∧ Ext ρ ρ' s.next s2.next ∧ AR ρ' ⟨a.tmps, a.n, d.2 ++ a.marks⟩ { act with defers := mark ++ act.defers } := by
  obtain ⟨rfl, j1, j2⟩ := new_ok h2
  cases rl with
  | none =>
    have hro : ro = none := hro
    subst hro
    obtain ⟨d0, s3, h3, h4⟩ := R.bind_eq_ok h1
    cases h4
    obtain ⟨ρ1, k1, r1, r2, r3, r4, r5⟩ := newObj_ok h3 hm (hf.sub (Nat.le_refl _) (by omega)) (.deferred (some [])) (by simp [BR])
    have n3 : s1.next = s.next + 1 := (new_ok h3).2.2
    have hf1 : Fresh ρ1 s1.next s2.next := hf.after r5 (by omega)
    have a1 := ha.mono r5.le
    obtain ⟨ρ2, k2, t1, t2, t3, t4, t5⟩ := newObj_ok h2 r4 hf1 (.loop { state := .ready, pending := none, fn := fn, tmps := act.tmps, params := ⟨ps⟩, assign := c, body := b, defers := k1.blk }) (by
      have le := Ren.with_le (b := s1.next) ⟨(w.heap.push (.deferred (some []))).size, 0, 0, none⟩ (hf1 s1.next (Nat.le_refl _) (by omega))
      exact ⟨fn, act.tmps, k1.blk, Array.getElem?_push_size, a1.tmps.mono le, a1.size, k1, le _ _ r1, rfl⟩)
    refine ⟨by omega, ρ2, k2, [{ target := .collected k1.blk, args := #[] }], _, ?_, t1, t4, r5.trans t5 (by omega) (by omega), ⟨a1.tmps.mono t5.le, a1.size, k1, _, rfl, t5.le _ _ r1, a1.marks.mono t5.le⟩⟩
    rw [t2, r2]
    simp [Instr.enterLoop] <;> rfl
  | some l0 =>
    obtain ⟨k0, hk0, rfl⟩ := hro
    obtain ⟨x, s3, h3, h4⟩ := R.bind_eq_ok h1
    obtain ⟨_, g1, g2, g3⟩ := get_ok h3
    unfold deferIn at h4
    split at h4
    · rename_i st p n t ps' c' b' df
      cases h4
      obtain ⟨k', hk', f, tm, kk, q1, q2, q3, dl, q4, q5⟩ := hm.at_ _ _ g1
      rw [hk0] at hk'; cases hk'
      have hf1 : Fresh ρ s1.next s2.next := hf.sub (by omega) (Nat.le_refl _)
      obtain ⟨ρ2, k2, t1, t2, t3, t4, t5⟩ := newObj_ok h2 (w := w) (by rw [g2]; exact hm) hf1 (.loop { state := .ready, pending := none, fn := fn, tmps := act.tmps, params := ⟨ps⟩, assign := c, body := b, defers := kk }) (by
        have le := Ren.with_le (b := s1.next) ⟨w.heap.size, 0, 0, none⟩ (hf1 s1.next (Nat.le_refl _) (by omega))
        exact ⟨fn, act.tmps, kk, Array.getElem?_push_size, ha.tmps.mono le, ha.size, dl, le _ _ q4, q5⟩)
      refine ⟨by omega, ρ2, k2, [], _, ?_, t1, t4, t5.wide (by omega) (Nat.le_refl _), ⟨ha.tmps.mono t5.le, ha.size, ha.marks.mono t5.le⟩⟩
      rw [t2]
      simp [Instr.enterLoop, Instr.getLoop, run_getObj_loop' q1] <;> rfl
    · cases h4
/-- All code. -/
theorem code_ok (hr : RecOK P r) (hmix : P.follows .mixedOrders = true) : ∀ (c : Code) {s s' : S} {a a' : A} {e : E} {ρ : Ren} {w : World} {act : Act} {ro rl : Option Nat} {n : Nat} {Q : Exit → Act → World → Prop}, s.lim ≤ s.next → (codeC P c).f r rl a s = .ok (e, a') s' →
    GOK ρ → AR ρ a act → MR ρ s.mem w → Fresh ρ s.next s'.next → RoR ρ rl ro → (∀ ρ' w' act', AR ρ' a' act' → MR ρ' s'.mem w' → Ext ρ ρ' s.next s'.next → Q e.exitOf act' w') → c.wpIn (Fw ro) n P Q act w
  | .skip, s, s', a, a', e, ρ, w, act, ro, rl, n, Q, hs, h, g, ha, hm, hf, hro, hQ => by cases h; exact wpIn_skip (hQ ρ w act ha hm (Ext.refl _ _ _))
  | .label _, s, s', a, a', e, ρ, w, act, ro, rl, n, Q, hs, h, g, ha, hm, hf, hro, hQ => by cases h; exact wpIn_label (hQ ρ w act ha hm (Ext.refl _ _ _))
  | .exit id, s, s', a, a', e, ρ, w, act, ro, rl, n, Q, hs, h, g, ha, hm, hf, hro, hQ => by cases h; exact wpIn_exit (hQ ρ w act ha hm (Ext.refl _ _ _))
  | .ret, s, s', a, a', e, ρ, w, act, ro, rl, n, Q, hs, h, g, ha, hm, hf, hro, hQ => by cases h; exact wpIn_ret (hQ ρ w act ha hm (Ext.refl _ _ _))
  | .region id ops draw, s, s', a, a', e, ρ, w, act, ro, rl, n, Q, hs, h, g, ha, hm, hf, hro, hQ => by
    have key := fun hQ => region_ok hr hmix (id := id) (ro := ro) (n := n) (Q := Q) hs h g ha hm hf hQ
    have he : e = .norm := (region_ok hr hmix (id := id) (ro := ro) (n := n) (Q := fun _ _ _ => True) hs h g ha hm hf (fun _ _ _ _ _ _ => trivial)).1
    subst he
    exact (key hQ).2
  | .seq x y, s, s', a, a', e, ρ, w, act, ro, rl, n, Q, hs, h, g, ha, hm, hf, hro, hQ => by
    obtain ⟨e1, a1, s1, h1, h2⟩ := seqF_inv (f := (codeC P x).f) (g := (codeC P y).f) h
    have w1 := codeC_local (P := P) hr.loc x rl a s .lf hs _ _ h1
    have hs1 : s1.lim ≤ s1.next := by rw [w1.lim]; exact Nat.le_trans hs w1.next
    refine wpIn_seq ?_
    rcases h2 with ⟨rfl, h2⟩ | ⟨he, rfl, rfl, rfl⟩
    · have w2 := codeC_local (P := P) hr.loc y rl a1 s1 .lf hs1 _ _ h2
      refine code_ok hr hmix x hs h1 g ha hm (hf.sub (Nat.le_refl _) w2.next) hro fun ρ1 w1' act1 q1 q2 q3 => ?_
      refine code_ok hr hmix y hs1 h2 (g.ext q3) q1 q2 (hf.after q3 w1.next) (hro.mono q3.le) fun ρ2 w2' act2 p1 p2 p3 => ?_
      exact hQ ρ2 w2' act2 p1 p2 (q3.trans p3 w1.next w2.next)
    · refine code_ok hr hmix x hs h1 g ha hm hf hro fun ρ1 w1' act1 q1 q2 q3 => ?_
      have := hQ ρ1 w1' act1 q1 q2 q3
      cases e with
      | norm => exact absurd rfl he
      | exit j => exact this
      | ret => exact this
  | .cond c x y, s, s', a, a', e, ρ, w, act, ro, rl, n, Q, hs, h, g, ha, hm, hf, hro, hQ => by
    have h : condF (evl c) (codeC P x).f (codeC P y).f r rl a s = .ok (e, a') s' := h
    unfold condF at h
    cases hv : evl c a.tmps with
    | none => rw [hv] at h; cases h
    | some v =>
      rw [hv] at h
      have h : condV (codeC P x).f (codeC P y).f r rl a s v = .ok (e, a') s' := h
      have hb := evl_ok ha.tmps g hv
      cases v with
      | bool b =>
        have hb := hb.bool_inv
        refine wpIn_cond hb ?_
        cases b with
        | true => exact code_ok hr hmix x hs h g ha hm hf hro hQ
        | false => exact code_ok hr hmix y hs h g ha hm hf hro hQ
      | _ => cases h
  | .block id x, s, s', a, a', e, ρ, w, act, ro, rl, n, Q, hs, h, g, ha, hm, hf, hro, hQ => by
    obtain ⟨e1, h1, h2⟩ := blockF_inv (f := (codeC P x).f) h
    refine wpIn_block (code_ok hr hmix x hs h1 g ha hm hf hro fun ρ1 w1 act1 q1 q2 q3 => ?_)
    have := hQ ρ1 w1 act1 q1 q2 q3
    rcases h2 with ⟨rfl, rfl⟩ | ⟨he, rfl⟩
    · show if id = id then _ else _
      rw [if_pos rfl]; exact this
    · cases e with
      | norm => exact this
      | exit j =>
        show if j = id then _ else _
        rw [if_neg (fun q => he (by rw [q]))]
        exact this
      | ret => exact this
  | .loop x, s, s', a, a', e, ρ, w, act, ro, rl, n, Q, hs, h, g, ha, hm, hf, hro, hQ => by
    have h : loopF (codeC P x).f r rl a s = .ok (e, a') s' := h
    unfold loopF at h
    rw [Rrec_eq] at h
    obtain ⟨⟨e1, a1⟩, s1, h1, h2⟩ := R.bind_eq_ok h
    have h3 : e ≠ .norm ∧ e1 = e ∧ a1 = a' ∧ s1 = s' := by
      cases e1 with
      | norm => cases h2
      | exit j => cases h2; exact ⟨by simp, rfl, rfl, rfl⟩
      | ret => cases h2; exact ⟨by simp, rfl, rfl, rfl⟩
    obtain ⟨he, rfl, rfl, rfl⟩ := h3
    rcases rounds_inv 14 h1 with ⟨q, _⟩ | ⟨_, N, a2, s2, hN, hlast⟩
    · exact absurd q he
    have loc := codeC_local (P := P) hr.loc x rl
    -- where a loop stands, with so many rounds to go
    let J : Nat → Act → World → Prop := fun k act w => ∃ (b : A) (t : S) (σ : Ren), RN ((codeC P x).f r rl) k b t a2 s2 ∧ AR σ b act ∧ MR σ t.mem w ∧ GOK σ ∧ Fresh σ t.next s1.next ∧ t.lim ≤ t.next ∧ RoR σ rl ro ∧ Ext ρ σ s.next t.next ∧ s.next ≤ t.next
    have hJ : ∀ act w, ∃ m, (∀ k, J k act w → J m act w ∧ m ≤ k) := fun act w => by
      by_cases hk : ∃ k, J k act w
      · obtain ⟨k, hk⟩ := hk
        obtain ⟨m, h1, h2⟩ := exists_least (fun k => J k act w) k hk
        exact ⟨m, fun k hk => ⟨h1, h2 k hk⟩⟩
      · exact ⟨0, fun k hk' => absurd ⟨k, hk'⟩ hk⟩
    refine wpIn_loop (fun act w => ∃ k, J k act w) (fun act w => Classical.choose (hJ act w)) ⟨N, a, s, ρ, hN, ha, hm, g, hf, hs, hro, Ext.refl _ _ _, Nat.le_refl _⟩ fun act w ⟨k, hk⟩ => ?_
    have hsp := Classical.choose_spec (hJ act w) k hk
    generalize hmu : Classical.choose (hJ act w) = m at hsp
    obtain ⟨⟨b, t, σ, r1, r2, r3, r4, r5, r6, r7, r8, r9⟩, _⟩ := hsp
    cases r1 with
    | zero =>
      refine code_ok hr hmix x r6 hlast r4 r2 r3 r5 r7 fun ρ1 w1 act1 q1 q2 q3 => ?_
      have hl := loc a2 s2 .lf r6 _ _ hlast
      have := hQ ρ1 w1 act1 q1 q2 (r8.trans q3 r9 hl.next)
      cases e1 with
      | norm => exact absurd rfl he
      | exit j => exact this
      | ret => exact this
    | @succ m' _ b1 _ _ t1 _ hb hrest =>
      have w1 := loc b t .lf r6 _ _ hb
      have ht1 : t1.lim ≤ t1.next := by rw [w1.lim]; exact Nat.le_trans r6 w1.next
      have w2 := hrest.local loc ht1
      have hs2 : s2.lim ≤ s2.next := by rw [w2.2]; exact Nat.le_trans ht1 w2.1
      have w3 := loc a2 s2 .lf hs2 _ _ hlast
      refine code_ok hr hmix x r6 hb r4 r2 r3 (r5.sub (Nat.le_refl _) (Nat.le_trans w2.1 w3.next)) r7 fun ρ1 w1' act1 q1 q2 q3 => ?_
      have hJ1 : J m' act1 w1' := ⟨b1, t1, ρ1, hrest, q1, q2, r4.ext q3, r5.after q3 w1.next, ht1, r7.mono q3.le, r8.trans q3 r9 w1.next, Nat.le_trans r9 w1.next⟩
      refine ⟨⟨m', hJ1⟩, ?_⟩
      have := (Classical.choose_spec (hJ act1 w1') m' hJ1).2
      show Classical.choose (hJ act1 w1') < m' + 1
      omega
  | .rangeFunc f ps c b, s, s', a, a', e, ρ, w, act, ro, rl, n, Q, hs, h, g, ha, hm, hf, hro, hQ => by
    have h : rangeStep r rl (evl f a.tmps) ps.toList c b a s = .ok (e, a') s' := h
    unfold rangeStep at h
    split at h
    · cases h
    · rename_i fv hfv
      obtain ⟨d, s1, h1, h2⟩ := R.bind_eq_ok h
      unfold rangeNew at h2
      obtain ⟨l, s2, h3, h4⟩ := R.bind_eq_ok h2
      obtain ⟨x, s3, h5, h6⟩ := R.bind_eq_ok h4
      unfold rangeCalled at h6
      split at h6
      · rename_i gf args
        obtain ⟨v, s4, h7, h8⟩ := R.bind_eq_ok h6
        -- the call is of a function
        unfold callOf at h5
        split at h5
        · rename_i fid first cap
          cases h5
          have l1 := deferAt_local rl s .lf hs _ _ h1
          have hs1 : s1.lim ≤ s1.next := by rw [l1.lim]; exact Nat.le_trans hs l1.next
          have l2 := new_local _ s1 .lf hs1 _ _ h3
          have hs2 : s2.lim ≤ s2.next := by rw [l2.lim]; exact Nat.le_trans hs1 l2.next
          have l3 := hr.loc.call _ _ s2 .lf hs2 _ _ h7
          obtain ⟨fn', e1, e2, e3⟩ := hr.fn _ _ _ _ _ h7
          refine wpIn_rangeFunc fun fn _ => ?_
          have l4 : s'.next = s4.next := by
            unfold rangeEnd at h8
            obtain ⟨y, s5, g1, g2⟩ := R.bind_eq_ok h8
            unfold rangeEndIn at g2
            split at g2
            · split at g2
              · cases g2
              · obtain ⟨⟨⟩, s6, g3, g4⟩ := R.bind_eq_ok g2
                have n1 := (get_ok g1).2.2.2
                have n2 := (put_ok g3).2.2
                unfold jumpOf at g4
                split at g4 <;> first | (cases g4; omega) | (cases g4)
            · cases g2
          obtain ⟨n2, ρ1, k, mark, w1, q1, q2, q3, q4, q5⟩ := enter_ok (P := P) h1 h3 hro ha hm (hf.sub (Nat.le_refl _) (by have := l3.next; omega)) fn
          have hfv := evl_ok ha.tmps g hfv
          simp only [VR] at hfv
          obtain ⟨xs, cs, ev, v1, v2⟩ := hfv
          have hargs : VRs ρ1 (first ++ [.yield l] ++ cap) (xs ++ [.func (.yield k.blk) #[] #[]] ++ cs) :=
            ((VRs.mono q4.le _ _ v1).append (show VRs ρ1 [.yield l] [.func (.yield k.blk) #[] #[]] from ⟨_, _, rfl, ⟨k, q2, rfl⟩, rfl⟩)).append (VRs.mono q4.le _ _ v2)
          have hf2 : Fresh ρ1 s2.next s4.next := (hf.sub (Nat.le_refl _) (by omega)).after q4 n2
          have hcall := hr.call _ _ _ _ _ hs2 h7 ρ1 w1 _ (g.ext q4) q3 hf2 hargs
          refine ⟨k.blk, mark, w1, { target := .fn (.func gf) ⟨cs⟩, args := ⟨xs⟩ ++ #[.func (.yield k.blk) #[] #[]] }, w1, gf, ⟨xs ++ [.func (.yield k.blk) #[] #[]] ++ cs⟩, w1, q1, ?_, fun _ _ => trivial, ?_, fun q => (by simp [Fw, Fence.wide] at q), ?_⟩
          · have er : resolve act.eval (rangeCall f k.blk) 0 = Deferred.ofValue (act.eval f) #[.func (.yield k.blk) #[] #[]] := by simp [resolve, Act.eval]
            rw [er, ev]
            rfl
          · have e2' : fn'.body.isNone = false := by cases q : fn'.body <;> simp_all
            have ea : ((⟨xs⟩ : Array Value) ++ #[.func (.yield k.blk) #[] #[]] ++ ⟨cs⟩) = ⟨xs ++ [.func (.yield k.blk) #[] #[]] ++ cs⟩ := by apply Array.ext'; simp
            simp only [invoke, callFunc, Sem.run_bind, run_program, Result.andThen_ok, e1, e3, e2', Bool.false_eq_true, if_false, Sem.run_pure, ea]
          · refine CallsIn.mono (callsIn_Fw hcall) fun en w3 he => ?_
            obtain ⟨u, ρ2, rfl, p1, p2, p3⟩ := he
            obtain ⟨rfl, t1, jump, w4, t2, t3, t4⟩ := rangeEnd_ok (P := P) h8 p2 (p3.le _ _ q2)
            have hext : Ext ρ ρ2 s.next s'.next := by rw [t1]; exact q4.trans p3 n2 l3.next
            have hfin := hQ ρ2 w4 _ (q5.mono p3.le) t3 hext
            refine ⟨jump, w4, t2, ?_⟩
            rcases t4 with ⟨rfl, rfl⟩ | ⟨id, rfl, rfl⟩ | ⟨rfl, rfl⟩
            · exact hfin
            · exact wpIn_exit hfin
            · exact wpIn_ret hfin
        · cases h5
        · cases h5
      · cases h6
  | .goto _, s, s', a, a', e, ρ, w, act, ro, rl, n, Q, hs, h, g, ha, hm, hf, hro, hQ => by cases h
  | .scope _, s, s', a, a', e, ρ, w, act, ro, rl, n, Q, hs, h, g, ha, hm, hf, hro, hQ => by cases h
  | .refuse _, s, s', a, a', e, ρ, w, act, ro, rl, n, Q, hs, h, g, ha, hm, hf, hro, hQ => by cases h
end Go.Ex
