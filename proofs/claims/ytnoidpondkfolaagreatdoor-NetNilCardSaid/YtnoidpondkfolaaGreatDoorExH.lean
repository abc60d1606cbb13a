/- Words in which the rows of the tables are told; rows that are all sound. -/
import Derived.Test.YtnoidpondkfolaaGreatDoorExG
import Derived.Below
import Derived.Lib.LaidTab
import Derived.Stop.LaidErr
namespace Go.Ex
def tt : V := .bool true
def ff : V := .bool false
def y8 (n : Nat) : V := .int .u8 (.ofNat n)
def u16 (n : Nat) : V := .int .u16 (.ofNat n)
def u32 (n : Nat) : V := .int .u32 (.ofNat n)
def u64 (n : Nat) : V := .int .u64 (.ofNat n)
def i64 (n : Nat) : V := .int .i64 (.ofNat n)
def ys : List Nat → List V
  | [] => []
  | n :: l => y8 n :: ys l
def ws : List Nat → List V
  | [] => []
  | n :: l => u32 n :: ws l
/-- All rows of a table are sound. -/
def AllOK (P : Program) (l : List Ent) : Prop := ∀ e ∈ l, e.OK P
theorem AllOK.nil {P : Program} : AllOK P [] := fun _ h => by cases h
theorem AllOK.cons {P : Program} {e : Ent} {l : List Ent} (h : e.OK P) (k : AllOK P l) : AllOK P (e :: l) := fun d hd => by
  rcases List.mem_cons.1 hd with rfl | hd
  · exact h
  · exact k d hd
theorem named_of {P : Program} (h : P.funcs.toList.all (fun fn => !(fn.name == "runtime.NumGoroutine")) = true) : Named P := fun f fn h1 _ => by
  have : fn ∈ P.funcs.toList := by
    have := Array.mem_of_getElem? h1
    exact Array.mem_toList_iff.2 this
  have := List.all_eq_true.1 h fn this
  simpa using this
end Go.Ex

/- A closed run in whatever world: what it answers, and that all else is as it was. -/
namespace Go.Ex

/-- Package-level variables that are tables of numbers: where each lies, and its numbers. -/
abbrev Tabs := List (Nat × List Nat)
noncomputable def Tabs.pre : Tabs → List (Nat × BD)
  | [] => []
  | (g, l) :: r => (g, .cells (ws l) false) :: Tabs.pre r
def u32v (n : Nat) : Value := .int .u32 (.ofNat n)
/-- The tables lie in a world. -/
def Tabs.lie (r : Tabs) (w : World) : Prop := ∀ g l, (g, l) ∈ r → g < 1000 ∧ ∃ e fr, w.heap[g]? = some (.cells (l.map u32v).toArray e fr) ∧ fr.1 = fr.2
theorem Tabs.mem_pre : ∀ {r : Tabs} {b : Nat} {d : BD}, (b, d) ∈ r.pre → ∃ l, (b, l) ∈ r ∧ d = .cells (ws l) false
  | (g, l) :: r, b, d, h => by
    rcases List.mem_cons.1 (h : (b, d) ∈ (g, BD.cells (ws l) false) :: Tabs.pre r) with h | h
    · cases h; exact ⟨l, List.mem_cons_self .., rfl⟩
    · obtain ⟨l', h1, h2⟩ := Tabs.mem_pre h
      exact ⟨l', List.mem_cons_of_mem _ h1, h2⟩
theorem ws_eq : ∀ l : List Nat, ws l = l.map u32
  | [] => rfl
  | n :: l => by rw [ws, ws_eq l]; rfl
theorem tabOf_get : ∀ (l : List V) (i : Nat) (t : T V) (j : Nat), (tabOf l i t).get j = if i ≤ j ∧ j < i + l.length then l[j - i]? else t.get j
  | [], i, t, j => by rw [if_neg (by simp)]; rfl
  | v :: l, i, t, j => by
    unfold tabOf
    rw [seqT_put, tabOf_get l _ _ j, T.get_put]
    simp only [Nat.succ_eq_add_one, List.length_cons]
    by_cases h : j = i
    · subst h
      rw [if_neg (by omega), if_pos rfl, if_pos (by omega)]
      simp
    · rw [if_neg h]
      by_cases h2 : i + 1 ≤ j ∧ j < i + 1 + l.length
      · rw [if_pos h2, if_pos (by omega)]
        obtain ⟨k, rfl⟩ : ∃ k, j = i + 1 + k := ⟨j - (i + 1), by omega⟩
        rw [show i + 1 + k - (i + 1) = k from by omega, show i + 1 + k - i = k + 1 from by omega]
        simp
      · rw [if_neg h2, if_neg (by omega)]

/-- A world's blocks as they are, behind a number; but those of the tables. -/
def hasTab (g : Nat) : Tabs → Bool
  | [] => false
  | (h, _) :: r => if h = g then true else hasTab g r
theorem hasTab_iff {g : Nat} : ∀ {r : Tabs}, hasTab g r = true ↔ ∃ l, (g, l) ∈ r
  | [] => by simp [hasTab]
  | (h, l) :: r => by
    unfold hasTab
    split
    · rename_i e; subst e; exact ⟨fun _ => ⟨l, List.mem_cons_self ..⟩, fun _ => rfl⟩
    · rename_i e
      rw [hasTab_iff (r := r)]
      refine ⟨fun ⟨l', h⟩ => ⟨l', List.mem_cons_of_mem _ h⟩, fun ⟨l', h⟩ => ?_⟩
      rcases List.mem_cons.1 h with h | h
      · cases h; exact absurd rfl e
      · exact ⟨l', h⟩
noncomputable def rawM (r : Tabs) (w : World) (n : Nat) : Nat → T AB → T AB
  | 0, m => m
  | k + 1, m => (rawM r w n k m).put (n + k) (if hasTab k r then none else (w.heap[k]?).map AB.raw)
theorem rawM_get (r : Tabs) (w : World) (n : Nat) (m : T AB) (b : Nat) : ∀ k, (rawM r w n k m).get b = if n ≤ b ∧ b < n + k then (if hasTab (b - n) r then none else (w.heap[b - n]?).map AB.raw) else m.get b
  | 0 => by rw [if_neg (by omega)]; rfl
  | k + 1 => by
    unfold rawM
    rw [T.get_put, rawM_get r w n m b k]
    by_cases h : b = n + k
    · subst h
      rw [if_pos rfl, if_pos (show n ≤ n + k ∧ n + k < n + (k + 1) by omega), show n + k - n = k from by omega]
    · rw [if_neg h]
      by_cases h2 : n ≤ b ∧ b < n + k
      · rw [if_pos h2, if_pos (show n ≤ b ∧ b < n + (k + 1) by omega)]
      · rw [if_neg h2, if_neg (show ¬ (n ≤ b ∧ b < n + (k + 1)) by omega)]
/-- Names: package-level variables below 1000; behind a number all blocks. -/
def ren0 (w : World) (n : Nat) : Ren := fun b =>
  if b < 1000 then some (match w.heap[b]? with
    | some (.cells cs e fr) => ⟨b, 0, cs.size, some ⟨e, fr, w.os, w.output, w.tape⟩⟩
    | _ => ⟨b, 0, 0, none⟩)
  else if b < n then none else some ⟨b - n, 0, 0, none⟩
theorem ren0_blk {w : World} {n b : Nat} {l : Loc} (h : ren0 w n b = some l) : l.blk = if b < 1000 then b else b - n := by
  unfold ren0 at h
  by_cases hb : b < 1000
  · rw [if_pos hb] at h ⊢
    cases h
    split <;> rfl
  · rw [if_neg hb] at h ⊢
    split at h
    · cases h
    · cases h; rfl
theorem ren0_gok (w : World) (n : Nat) : GOK (ren0 w n) := fun g hg => by
  unfold ren0
  rw [if_pos hg]
  refine ⟨_, rfl, ?_, ?_⟩ <;> split <;> rfl
theorem ren0_fresh (w : World) {a n : Nat} (ha : 1000 ≤ a) : Fresh (ren0 w n) a n := fun b h1 h2 => by
  unfold ren0
  rw [if_neg (by omega), if_pos h2]

/-- The memory for a closed run in a world. -/
noncomputable def mem0 (r : Tabs) (w : World) (n : Nat) : T AB := rawM r w n w.heap.size (preM r.pre .lf)
theorem mem0_low {r : Tabs} {w : World} {n b : Nat} (h : b < n) : (mem0 r w n).get b = (preM r.pre .lf).get b := by
  unfold mem0
  rw [rawM_get, if_neg (by omega)]
theorem mem0_ok {r : Tabs} {w : World} {n : Nat} (hn : 1000 ≤ n) (hr : r.lie w) : MR (ren0 w n) (mem0 r w n) w := by
  have key : ∀ b x, (mem0 r w n).get b = some x → (b < 1000 ∧ ∃ l, (b, l) ∈ r ∧ x = (BD.cells (ws l) false).ab) ∨ (n ≤ b ∧ hasTab (b - n) r = false ∧ ∃ o, w.heap[b - n]? = some o ∧ x = .raw o) := fun b x hb => by
    by_cases h : n ≤ b ∧ b < n + w.heap.size
    · unfold mem0 at hb
      rw [rawM_get, if_pos h] at hb
      split at hb
      · cases hb
      · rename_i ht
        refine .inr ⟨h.1, by simpa using ht, ?_⟩
        cases ho : w.heap[b - n]? with
        | none => rw [ho] at hb; cases hb
        | some o => rw [ho] at hb; cases hb; exact ⟨o, rfl, rfl⟩
    · unfold mem0 at hb
      rw [rawM_get, if_neg h] at hb
      by_cases hp : b ∈ namesOf r.pre
      · obtain ⟨d, h1, h2⟩ := preM_mem r.pre .lf b hp
        obtain ⟨l, h3, rfl⟩ := Tabs.mem_pre h1
        rw [h2] at hb
        cases hb
        exact .inl ⟨(hr b l h3).1, l, h3, rfl⟩
      · rw [preM_get _ _ _ hp, T.get_lf] at hb
        cases hb
  refine ⟨fun b x hb => ?_, fun b c x y l k hb hc h1 h2 e => ?_⟩
  · rcases key b x hb with ⟨h1, l, h2, rfl⟩ | ⟨h1, h2, o, h3, rfl⟩
    · obtain ⟨_, e, fr, h3, h4⟩ := hr b l h2
      refine ⟨⟨b, 0, (l.map u32v).toArray.size, some ⟨e, fr, w.os, w.output, w.tape⟩⟩, ?_, ?_⟩
      · unfold ren0; rw [if_pos h1, h3]
      · refine ⟨_, e, fr, h3, rfl, ⟨.inl h4, fun q hq => ?_⟩, fun i v hv => ?_⟩
        · cases hq; exact ⟨⟨rfl, rfl, rfl⟩, fun _ => ⟨rfl, rfl⟩⟩
        · rw [tabOf_get, ws_eq] at hv
          split at hv
          · rename_i hi
            simp only [Nat.sub_zero, List.getElem?_map] at hv
            cases hl : l[i]? with
            | none => rw [hl] at hv; cases hv
            | some z =>
              rw [hl] at hv
              cases hv
              refine ⟨u32v z, ?_, rfl⟩
              simp [hl]
          · rw [T.get_lf] at hv; cases hv
    · refine ⟨⟨b - n, 0, 0, none⟩, ?_, h3⟩
      unfold ren0
      rw [if_neg (by omega), if_neg (by omega)]
  · have e1 := ren0_blk h1
    have e2 := ren0_blk h2
    rw [e1, e2] at e
    rcases key b x hb with ⟨q1, l1, q2, _⟩ | ⟨q1, q2, _⟩ <;> rcases key c y hc with ⟨p1, l2, p2, _⟩ | ⟨p1, p2, _⟩
    · rwa [if_pos q1, if_pos p1] at e
    · rw [if_pos q1, if_neg (by omega)] at e
      have := hasTab_iff.2 ⟨l1, q2⟩
      rw [e, p2] at this
      cases this
    · rw [if_neg (by omega), if_pos p1] at e
      have := hasTab_iff.2 ⟨l2, p2⟩
      rw [← e, q2] at this
      cases this
    · rw [if_neg (by omega), if_neg (by omega)] at e
      omega
theorem namesOf_pre {r : Tabs} {b : Nat} : b ∈ namesOf r.pre ↔ ∃ l, (b, l) ∈ r := by
  induction r with
  | nil => simp [Tabs.pre, namesOf]
  | cons q r ih =>
    obtain ⟨g, l⟩ := q
    show b ∈ g :: namesOf (Tabs.pre r) ↔ _
    rw [List.mem_cons, ih]
    constructor
    · rintro (rfl | ⟨l', h⟩)
      · exact ⟨l, List.mem_cons_self ..⟩
      · exact ⟨l', List.mem_cons_of_mem _ h⟩
    · rintro ⟨l', h⟩
      rcases List.mem_cons.1 h with h | h
      · cases h; exact .inl rfl
      · exact .inr ⟨l', h⟩
/-- A closed run that answers a value, in whatever world that holds the tables: and all that lay there is as it was. -/
theorem Ent.OK.closed {P : Program} {e : Ent} (he : e.OK P) {r : Tabs} (hpre : e.pre = r.pre) (hpost : e.post = []) (hargs : e.args = []) (hn : 1000 ≤ e.next) (hne : r ≠ []) (hnd : ∀ b d d', (b, d) ∈ r → (b, d') ∈ r → d = d') {w : World} (hr : r.lie w) :
    Calls P e.f #[] w fun en w' => ∃ u ρ', en = .returned u ∧ VR ρ' e.v u ∧ RowKit.Below w.heap.size w w' := by
  have hw : e.wf = true := he.wf
  have w1 := Nat.le_of_ble_eq_true (and2_true (hw : and2 _ _ = true)).1
  have hm := mem0_ok (n := e.next') (by omega) hr
  have hlow : ∀ b l, (b, l) ∈ r → (mem0 r w e.next').get b = some (BD.cells (ws l) false).ab := fun b l hb => by
    rw [mem0_low (by have := (hr b l hb).1; omega)]
    obtain ⟨d, h1, h2⟩ := preM_mem r.pre .lf b (namesOf_pre.2 ⟨l, hb⟩)
    obtain ⟨l', h3, rfl⟩ := Tabs.mem_pre h1
    rw [h2, hnd b l l' hb h3]
  have hrun := he.run_ok (m := mem0 r w e.next') (fun b d hb => by
    rw [hpre] at hb
    obtain ⟨l, h1, rfl⟩ := Tabs.mem_pre hb
    exact hlow b l h1) (ren0_gok w e.next') hm (ren0_fresh w (by omega)) (xs := []) (by rw [hargs]; exact rfl)
  refine hrun.mono fun en w' hE => ?_
  obtain ⟨u, ρ', rfl, q1, q2, q3⟩ := hE
  have hget : ∀ b, b < e.next ∨ e.next' ≤ b → (e.mem (mem0 r w e.next')).get b = (mem0 r w e.next').get b := fun b hb => by
    rw [Ent.mem_get _ _ _ (by rw [hpost]; exact fun h => by cases h), if_neg (by omega)]
  -- a table's block is as it was
  have htab : ∀ b l, (b, l) ∈ r → w'.heap[b]? = w.heap[b]? ∧ Env w w' := fun b l hb => by
    obtain ⟨hb1, et, fr, h1, h2⟩ := hr b l hb
    have hg : (e.mem (mem0 r w e.next')).get b = some (BD.cells (ws l) false).ab := by rw [hget b (by omega)]; exact hlow b l hb
    obtain ⟨k, hk, cs, et', fr', g1, g2, ⟨_, g3⟩, g4⟩ := q2.at_ _ _ hg
    have hk0 : ren0 w e.next' b = some ⟨b, 0, (l.map u32v).toArray.size, some ⟨et, fr, w.os, w.output, w.tape⟩⟩ := by
      unfold ren0; rw [if_pos hb1, h1]
    rw [q3.le _ _ hk0] at hk
    cases hk
    obtain ⟨v1, v2⟩ := g3 _ rfl
    obtain ⟨e1, e2⟩ := v2 rfl
    refine ⟨?_, v1⟩
    have g1 : w'.heap[b]? = some (.cells cs et' fr') := g1
    rw [g1, h1, e1, e2]
    have : cs = (l.map u32v).toArray := by
      apply Array.ext_getElem?
      intro i
      by_cases hi : i < l.length
      · have ht : (tabOf (ws l) 0 .lf).get i = some (u32 (l[i]'hi)) := by
          rw [tabOf_get, ws_eq, if_pos (by simpa using hi)]
          simp [hi]
        obtain ⟨y, y1, y2⟩ := g4 i _ ht
        have y1 : cs[0 + i]? = some y := y1
        rw [Nat.zero_add] at y1
        rw [y1, show y = u32v (l[i]'hi) from y2]
        simp [hi]
      · have g2 : cs.size = (l.map u32v).toArray.size := g2
        have g2 : cs.size = l.length := by simpa using g2
        rw [Array.getElem?_eq_none (by omega), Array.getElem?_eq_none (by simpa using hi)]
    rw [this]
  have hblock : ∀ k, k < w.heap.size → w'.heap[k]? = w.heap[k]? := fun k hk => by
    cases ht : hasTab k r with
    | true =>
      obtain ⟨l, hl⟩ := hasTab_iff.1 ht
      exact (htab k l hl).1
    | false =>
      have ho : w.heap[k]? = some w.heap[k] := Array.getElem?_eq_getElem hk
      have hg : (e.mem (mem0 r w e.next')).get (e.next' + k) = some (.raw w.heap[k]) := by
        rw [hget _ (by omega)]
        unfold mem0
        rw [rawM_get, if_pos (by omega), show e.next' + k - e.next' = k from by omega, ht, ho]
        rfl
      obtain ⟨l, hl, hb⟩ := q2.at_ _ _ hg
      have h0 : ren0 w e.next' (e.next' + k) = some ⟨k, 0, 0, none⟩ := by
        unfold ren0
        rw [if_neg (by omega), if_neg (by omega), show e.next' + k - e.next' = k from by omega]
      rw [q3.le _ _ h0] at hl
      cases hl
      rw [ho]
      exact hb
  have henv : Env w w' := by
    cases r with
    | nil => exact absurd rfl hne
    | cons q r => exact (htab q.1 q.2 (List.mem_cons_self ..)).2
  refine ⟨u, ρ', rfl, q1, henv.1, henv.2.2, henv.2.1, ?_, hblock⟩
  rcases Nat.eq_zero_or_pos w.heap.size with h | h
  · omega
  · have h1 : w.heap[w.heap.size - 1]? = some (w.heap[w.heap.size - 1]'(by omega)) := Array.getElem?_eq_getElem (by omega)
    have h2 := (hblock (w.heap.size - 1) (by omega)).trans h1
    have := (Array.getElem?_eq_some_iff.1 h2).1
    omega
end Go.Ex

/- From a row's condition on its tables to what a closed run asks of its world. -/
namespace Go.Ex
/-- The first table of the list lies there. -/
theorem lie_head {P : Program} {W : World} {name : String} {zs : List Nat} {rest : List (String × DataW Unit)} {g : Nat} {t e : TypeId} {n : Nat} (hg1 : g < 1000) (hne : zs ≠ [])
    (hg : P.globalNamed name = some g) (hty : (P.globals[g]?).map (·.type) = some t) (ht : P.underlying t = some (.array n e)) (he : P.underlying e = some (.int .u32)) (hce : P.cellsOf e = 1) (hct : P.cellsOf t = n)
    (h : laidMet P ((name, Lib.tabData .u32 (zs.map Int.ofNat)) :: rest) W) : g < 1000 ∧ ∃ e fr, W.heap[g]? = some (.cells (zs.map u32v).toArray e fr) ∧ fr.1 = fr.2 := by
  have htab := Lib.tabIs_of_head hg hty ht he hce hct h
  obtain ⟨ps, ⟨g', t', cs, fuel, p, q, hg', ht', hvar, hd, _, rfl⟩, _, hrows⟩ := h
  obtain rfl := Option.some.inj (hg.symm.trans hg')
  have hcs : cs = (zs.map u32v).toArray := by
    have := hvar.symm.trans htab
    rw [Option.some.inj this]
    simp [u32v, List.map_map, Function.comp_def]
  have hpos : 0 < cs.size := by
    rw [hcs]
    cases zs with
    | nil => exact absurd rfl hne
    | cons a l => simp
  have hmem : MemPlace.cell g 0 ∈ MemPlace.row ⟨g, 0, none⟩ cs.size ++ p ++ q := by
    refine List.mem_append_left _ (List.mem_append_left _ ?_)
    unfold MemPlace.row
    exact List.mem_map.2 ⟨0, List.mem_range.2 hpos, rfl⟩
  obtain ⟨⟨c, t2, hc⟩, _⟩ := hrows g 0 hmem
  refine ⟨hg1, t2, (0, 0), ?_, rfl⟩
  rw [hc, ← hcs]
  have : c = cs := by
    apply Array.ext_getElem?
    intro i
    have h1 := World.var?_cell hg hvar i
    rw [← h1]
    simp [World.cell?, hc]
  rw [this]
end Go.Ex
