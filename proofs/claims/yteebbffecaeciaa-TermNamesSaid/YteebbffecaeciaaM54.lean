/- Texts of this claim laid into one: VBlocksW, TNamesC. -/
import Derived.Test.YteebbffecaeciaaM49
import Derived.Test.YteebbffecaeciaaM28
import Derived.Test.YteebbffecaeciaaM52
import Derived.Test.YteebbffecaeciaaM29
/- As VBlocks, with one operation that may turn blocks of the region's own (an append behind an append): what only it reads need not be so behind it. -/
namespace Go.Proofs.Yteebbffecaeciaa
open Go.RowKit

section
variable {P : Program} {ops : Array Oper} {Q : Exit → Act → World → Prop} {m n : Nat} {Pk : Nat → Value → World → (Nat → Prop) → Prop} {a0 : Act} {w0 : World} {A : List Nat} {wd : Nat} {dead ex : List Nat}
structure HeldX (wd : Nat) (dead : List Nat) (A : List Nat) (m : Nat) (ops : Array Oper) (Pk : Nat → Value → World → (Nat → Prop) → Prop) (a0 : Act) (w0 : World) (listed : Array Bool) (a : Act) (w : World) : Prop where
  size : a.tmps.size = a0.tmps.size
  defers : a.defers = a0.defers
  lsize : listed.size = ops.size
  rest : ∀ i, m ≤ i → i < ops.size → listed.getD i true = false
  closed : ∀ (i : Nat) (o : Oper), ops[i]? = some o → listed.getD i false = true → ∀ e ∈ o.after, Region.binds .any e = true → listed.getD e.on false = true
  below : Below w0.heap.size w0 w
  same : ∀ d, (∀ (i : Nat) (o : Oper), i < m → ops[i]? = some o → listed.getD i false = true → o.dst ≠ some d) → a.tmps[d]? = a0.tmps[d]?
  has : ∀ (i : Nat) (o : Oper) (d : Nat), i < m → ops[i]? = some o → listed.getD i false = true → o.dst = some d → (d ∉ dead ∨ listed.getD wd false = false) → Pk d (a.eval (.tmp d)) w (blocksOf A m ops listed a)
  new : ∀ (i : Nat) (o : Oper) (d : Nat), i < m → ops[i]? = some o → listed.getD i false = true → o.dst = some d → d ∈ A → ∃ b, IsBlock (a.eval (.tmp d)) b ∧ w0.heap.size ≤ b ∧ b < w.heap.size
  apart : ∀ (i j : Nat) (o o' : Oper) (d d' : Nat), i < m → j < m → ops[i]? = some o → ops[j]? = some o' → listed.getD i false = true → listed.getD j false = true → o.dst = some d → o'.dst = some d' → d ∈ A → d' ∈ A → d ≠ d' → a.eval (.tmp d) ≠ a.eval (.tmp d')
def StepX (wd : Nat) (ex : List Nat) (A : List Nat) (P : Program) (m : Nat) (ops : Array Oper) (Pk : Nat → Value → World → (Nat → Prop) → Prop) (a0 : Act) (w0 : World) (i : Nat) (o : Oper) : Prop :=
  ∀ (r : Operand → Value) (w : World) (X : Nat → Prop), (∀ v, r (.const v) = v) → (∀ f, r (.func f) = .func (.func f) #[] #[]) → (∀ d, d ∉ dstsTo m ops → r (.tmp d) = a0.eval (.tmp d)) → (∀ k, X k → w0.heap.size ≤ k ∧ k < w.heap.size) → (∀ d, waitsOn ops o d = true → Pk d (r (.tmp d)) w X) → Below w0.heap.size w0 w →
    if i = wd then OpDoes P o r w fun v w' => (∀ d, o.dst = some d → Pk d v w' X ∧ d ∉ A) ∧ Below w0.heap.size w w' ∧ ∀ d v', d ∉ ex → (d ∈ A → ∃ b, IsBlock v' b ∧ X b) → Pk d v' w X → Pk d v' w' X
    else OpDoes P o r w fun v w' => (∀ d, o.dst = some d → Pk d v w' (fun k => X k ∨ (d ∈ A ∧ k = w.heap.size)) ∧ (d ∈ A → IsBlock v w.heap.size ∧ w.heap.size < w'.heap.size)) ∧ Below w.heap.size w w'
/-- what waits for a dropped slot stands ahead of the wide operation. -/
def deadB (wd : Nat) (dead : List Nat) (m : Nat) (ops : Array Oper) : Bool := (List.range m).all fun i => (i == wd) || (match ops[i]? with
  | none => true
  | some o => dead.all fun d => !waitsOn ops o d || reachB ops 6 wd i)
/-- the slots that need not be as they are behind the wide operation: dropped ones, and those that wait for it. -/
def exB (wd : Nat) (dead ex : List Nat) (m : Nat) (ops : Array Oper) : Bool := ex.all fun d => decide (d ∈ dead) || (List.range m).all fun i => (i == wd) || (match ops[i]? with
  | none => true
  | some o => o.dst != some d || reachB ops 6 i wd)
theorem heldX_any (hng : (ops.toList.take m).all (·.guard.isNone) = true) (hp : partR m n ops = true) (hn : n = a0.tmps.size) (hms : m ≤ ops.size) (hsub : ∀ d v w X X', (∀ k, X' k → X k) → Pk d v w X → Pk d v w X') (hgrow : ∀ d v w w' X, Pk d v w X → Below w.heap.size w w' → Pk d v w' (fun k => X k ∨ w.heap.size ≤ k)) (hdead : deadB wd dead m ops = true) (hex : exB wd dead ex m ops = true) (_hwd : wd < m) (hstep : ∀ i o, i < m → ops[i]? = some o → StepX wd ex A P m ops Pk a0 w0 i o)
    (hend : ∀ (f : Nat → Value) (w : World) (fuel : Nat) (X : Nat → Prop), ops.size - m ≤ fuel → (∀ d ∈ dstsTo m ops, d ∉ dead → Pk d (f d) w X) → (∀ d ∈ A, d ∈ dstsTo m ops → ∃ b, IsBlock (f d) b ∧ w0.heap.size ≤ b ∧ b < w.heap.size ∧ X b) → (∀ d ∈ A, ∀ d' ∈ A, d ∈ dstsTo m ops → d' ∈ dstsTo m ops → d ≠ d' → f d ≠ f d') → Below w0.heap.size w0 w → wpAny P .any ops Q fuel (endListed m (ops.size - m)) ⟨fill a0.tmps f (dstsTo m ops), a0.defers⟩ w) :
    ∀ (fuel : Nat) (listed : Array Bool) (a : Act) (w : World), leftTo m listed + (ops.size - m) ≤ fuel → HeldX wd dead A m ops Pk a0 w0 listed a w → wpAny P .any ops Q fuel listed a w := by
  have fin : ∀ (fuel : Nat) (listed : Array Bool) (a : Act) (w : World), ops.size - m ≤ fuel → (∀ i, i < m → listed.getD i true = true) → HeldX wd dead A m ops Pk a0 w0 listed a w → wpAny P .any ops Q fuel listed a w := fun fuel listed a w hfu hall H => by
    have hl : ∀ i, i < m → listed.getD i false = true := fun i hi => getD_false H.lsize (by omega) (hall i hi)
    have hle : listed = endListed m (ops.size - m) := by
      refine Array.ext_getElem? fun k => ?_
      have hls := H.lsize
      by_cases hk : k < ops.size
      · have e1 : listed[k]? = some (listed.getD k true) := by simp [show k < listed.size by omega]
        rw [e1]
        unfold endListed
        rw [List.getElem?_toArray]
        by_cases hkm : k < m
        · rw [hall k hkm, List.getElem?_append_left (by simpa using hkm), List.getElem?_replicate, if_pos hkm]
        · rw [H.rest k (by omega) hk, List.getElem?_append_right (by simp; omega), List.getElem?_replicate, List.length_replicate, if_pos (by omega)]
      · rw [Array.getElem?_eq_none (by omega)]
        unfold endListed
        rw [List.getElem?_toArray, List.getElem?_eq_none (by simp; omega)]
    have ha : a = ⟨fill a0.tmps (fun d => a.eval (.tmp d)) (dstsTo m ops), a0.defers⟩ := by
      obtain ⟨tm, df⟩ := a
      have e1 : tm = fill a0.tmps (fun d => Act.eval ⟨tm, df⟩ (.tmp d)) (dstsTo m ops) := by
        refine Array.ext_getElem? fun k => ?_
        by_cases hk : k < a0.tmps.size
        · rw [fill_get _ _ _ _ hk]
          have hk' : k < tm.size := by have := H.size; simp only at this; omega
          by_cases hm : k ∈ dstsTo m ops
          · rw [if_pos hm]; simp [Act.eval, hk']
          · rw [if_neg hm]
            exact H.same k fun i o hi ho _ hd => hm (mem_dstsTo.2 ⟨i, o, hi, ho, hd⟩)
        · have hk' : ¬ k < tm.size := by have := H.size; simp only at this; omega
          rw [Array.getElem?_eq_none (by omega), Array.getElem?_eq_none (by rw [fill_size]; omega)]
      have e2 : df = a0.defers := H.defers
      rw [← e2, ← e1]
    rw [hle, ha]
    exact hend _ _ _ _ hfu (fun d hd hnd => by
      obtain ⟨i, o, him, hi, ho⟩ := mem_dstsTo.1 hd
      exact H.has i o d him hi (hl i him) ho (.inl hnd)) (fun d hdA hd => by
      obtain ⟨i, o, him, hi, ho⟩ := mem_dstsTo.1 hd
      obtain ⟨b, h1, h2, h3⟩ := H.new i o d him hi (hl i him) ho hdA
      exact ⟨b, h1, h2, h3, i, o, d, him, hi, hl i him, ho, hdA, h1⟩) (fun d hdA d' hdA' hd hd' hne => by
      obtain ⟨i, o, him, hi, ho⟩ := mem_dstsTo.1 hd
      obtain ⟨j, o', hjm, hj, ho'⟩ := mem_dstsTo.1 hd'
      exact H.apart i j o o' d d' him hjm hi hj (hl i him) (hl j hjm) ho ho' hdA hdA' hne) H.below
  have rdy : ∀ (listed : Array Bool), listed.size = ops.size → Region.ready .any ops listed = [] → ∀ i, i < m → listed.getD i true = true := fun listed hs hr i => by
    induction i using Nat.strongRecOn with
    | _ i ih =>
      intro him
      have hi := partR_there hp him
      by_cases hu : listed.getD i true = true
      · exact hu
      · exfalso
        rw [Bool.not_eq_true] at hu
        have hoi : ops[i]? = some ops[i] := Array.getElem?_eq_getElem hi
        have hmem : i ∈ Region.ready .any ops listed := mem_ready.2 ⟨hu, _, hoi, fun e he hbe => by
          have hlt := (partR_op hp him hoi).1 e he hbe
          exact getD_false hs (by omega) (ih e.on hlt (by omega))⟩
        rw [hr] at hmem
        cases hmem
  intro fuel
  induction fuel with
  | zero =>
    intro listed a w hf H
    refine fin 0 listed a w (by omega) (fun i hi => ?_) H
    by_cases hu : listed.getD i true = true
    · exact hu
    · rw [Bool.not_eq_true] at hu
      have := leftTo_pos hi hu
      omega
  | succ fuel ih =>
    intro listed a w hf H
    by_cases hall : ∀ i, i < m → listed.getD i true = true
    · exact fin (fuel + 1) listed a w (by omega) hall H
    refine ⟨fun hr => absurd (rdy listed H.lsize hr) hall, fun i hi => ?_⟩
    obtain ⟨hu, o, ho, hwait⟩ := mem_ready.1 hi
    have hlt : i < ops.size := (Array.getElem?_eq_some_iff.1 ho).1
    have him : i < m := by
      rcases Nat.lt_or_ge i m with h | h
      · exact h
      · exfalso
        refine hall fun j hj => ?_
        obtain ⟨e, he, hb, hre⟩ := partR_rest hp (by omega : ¬ i < m) ho hj
        have h2 := hwait e he hb
        have hjs : j < listed.size := by rw [H.lsize]; exact partR_there hp hj
        have h4 : listed.getD j false = true := reach_listed H.closed 6 e.on j h2 hre
        simp [hjs] at h4 ⊢; exact h4
    obtain ⟨hbefore, ⟨d, hd, hdn⟩, hgd⟩ := partR_op hp him ho
    have hso := hstep i o him ho a.eval w (blocksOf A m ops listed a) (fun v => rfl) (fun f => rfl) (fun k hk => by
        have := H.same k fun i o hi ho _ hd => hk (mem_dstsTo.2 ⟨i, o, hi, ho, hd⟩)
        simp [Act.eval, this]) (fun k hk => by
        obtain ⟨i, o, d, him, hi, hl, hd, hdA, hb⟩ := hk
        obtain ⟨b, h1, h2, h3⟩ := H.new i o d him hi hl hd hdA
        have : b = k := by
          unfold IsBlock at h1 hb
          rw [h1] at hb; cases hb; rfl
        subst this
        exact ⟨h2, h3⟩) (fun k hk => by
        have hk0 := hk
        unfold waitsOn at hk
        rw [Array.any_eq_true] at hk
        obtain ⟨j, hj, hb⟩ := hk
        rw [Bool.and_eq_true] at hb
        have hmem : o.after[j] ∈ o.after := Array.getElem_mem hj
        have hdst := eq_of_beq hb.2
        obtain ⟨o', ho', hd'⟩ := Option.bind_eq_some_iff.1 hdst
        refine H.has _ o' k (by have := hbefore _ hmem hb.1; omega) ho' (hwait _ hmem hb.1) hd' ?_
        by_cases hkd : k ∈ dead
        · right
          have hil : i < listed.size := by rw [H.lsize]; exact hlt
          by_cases e : i = wd
          · rw [← e]; simp [hil] at hu ⊢; exact hu
          · have h1 := List.all_eq_true.1 hdead i (List.mem_range.2 him)
            rw [ho] at h1
            have h2 : (dead.all fun d => !waitsOn ops o d || reachB ops 6 wd i) = true := by simpa [e] using h1
            have h3 := List.all_eq_true.1 h2 k hkd
            rw [hk0] at h3
            have h4 : reachB ops 6 wd i = true := by simpa using h3
            by_cases hw : listed.getD wd false = true
            · have h5 := reach_listed H.closed 6 wd i hw h4
              simp [hil] at h5 hu
              rw [hu] at h5; cases h5
            · simpa using hw
        · exact .inl hkd) H.below
    have hl := leftTo_set him hu
    have hil : i < listed.size := by rw [H.lsize]; exact hlt
    have hds : d < a.tmps.size := by rw [H.size, ← hn]; exact hdn
    have next : ∀ (v : Value) (w' : World), Pk d v w' (fun k => blocksOf A m ops listed a k ∨ (d ∈ A ∧ k = w.heap.size)) → (d ∈ A → IsBlock v w.heap.size ∧ w.heap.size < w'.heap.size) → Below w0.heap.size w w' → (∀ k v', (i ≠ wd ∨ (k ∉ ex ∧ (k ∈ A → ∃ b, IsBlock v' b ∧ blocksOf A m ops listed a b))) → Pk k v' w (blocksOf A m ops listed a) → Pk k v' w' (fun q => blocksOf A m ops listed a q ∨ (d ∈ A ∧ q = w.heap.size))) → wpAny P .any ops Q fuel (listed.setIfInBounds i true) (a.put o.dst v) w' := fun v w' hv hfr hb hst => by
      refine ih (listed.setIfInBounds i true) _ _ (by omega) ?_
      rw [hd]
      have own : Act.eval (a.put (some d) v) (.tmp d) = v := by simp [Act.eval, Act.put, hds]
      have oth : ∀ k, k ≠ d → Act.eval (a.put (some d) v) (.tmp k) = a.eval (.tmp k) := fun k hne => by
        simp only [Act.eval, Act.put, Array.getD_eq_getD_getElem?]
        rw [Array.getElem?_setIfInBounds_ne (fun h => hne h.symm)]
      have hX : ∀ k, blocksOf A m ops (listed.setIfInBounds i true) (a.put (some d) v) k → blocksOf A m ops listed a k ∨ (d ∈ A ∧ k = w.heap.size) := fun k hk => by
        obtain ⟨j, p, e, hj, hjo, hjl, hpe, heA, hb⟩ := hk
        by_cases h : j = i
        · subst h
          rw [ho] at hjo; cases hjo
          rw [hd] at hpe; cases hpe
          rw [own] at hb
          have h1 := (hfr heA).1
          unfold IsBlock at h1 hb
          rw [h1] at hb; cases hb
          exact .inr ⟨heA, rfl⟩
        · have hne : e ≠ d := fun h' => h (partR_one hp hj him hjo ho hpe (by rw [h']; exact hd))
          rw [getD_set_ne false (fun h' => h h'.symm)] at hjl
          rw [oth e hne] at hb
          exact .inl ⟨j, p, e, hj, hjo, hjl, hpe, heA, hb⟩
      refine ⟨by simp [Act.put, H.size], H.defers, by simp [H.lsize], fun k hk hks => ?_, fun k p hk hl => ?_, H.below.trans hb, fun k hk => ?_, fun j o' k hj hjo hl hk hkd => ?_, fun j o' k hj hjo hl hk hkA => ?_, fun j j' p p' k k' hj hj' hjo hjo' hl hl' hk hk' hkA hkA' hne => ?_⟩
      · rw [getD_set_ne true (by omega)]; exact H.rest k hk hks
      · by_cases e : k = i
        · subst e
          rw [ho] at hk; cases hk
          exact fun e he hb => getD_set_true (hwait e he hb)
        · rw [getD_set_ne false (fun h => e h.symm)] at hl
          exact fun e he hb => getD_set_true (H.closed k p hk hl e he hb)
      · have hne : k ≠ d := fun e => hk i o him ho (getD_own hil) (by rw [e]; exact hd)
        simp only [Act.put]
        rw [Array.getElem?_setIfInBounds_ne (fun e => hne e.symm)]
        exact H.same k fun j o' hjm hj hl => hk j o' hjm hj (getD_set_true hl)
      · by_cases e : j = i
        · subst e
          rw [ho] at hjo; cases hjo
          rw [hd] at hk; cases hk
          rw [own]; exact hsub _ _ _ _ _ hX hv
        · have hne : k ≠ d := fun h => e (partR_one hp hj him hjo ho hk (by rw [h]; exact hd))
          rw [getD_set_ne false (fun h => e h.symm)] at hl
          rw [oth k hne]
          have hw : i ≠ wd → (k ∉ dead ∨ listed.getD wd false = false) := fun hne => hkd.imp id fun h => by rwa [getD_set_ne false hne] at h
          by_cases hiw : i = wd
          · rcases hkd with hkd | hkd
            · refine hsub _ _ _ _ _ hX (hst k _ (.inr ⟨fun hkx => ?_, fun hkA => ?_⟩) (H.has j o' k hj hjo hl hk (.inl hkd)))
              · have h1 := List.all_eq_true.1 hex k hkx
                have h2 : ((List.range m).all fun i => (i == wd) || (match ops[i]? with
                  | none => true
                  | some o => o.dst != some k || reachB ops 6 i wd)) = true := by simpa [hkd] using h1
                have h3 := List.all_eq_true.1 h2 j (List.mem_range.2 hj)
                rw [hjo] at h3
                have h4 : reachB ops 6 j wd = true := by simpa [hk, show j ≠ wd from fun h' => e (h'.trans hiw.symm)] using h3
                have h5 := reach_listed H.closed 6 j wd hl h4
                rw [← hiw] at h5
                simp [hil] at h5 hu
                rw [hu] at h5; cases h5
              · obtain ⟨b, h1, h2, h3⟩ := H.new j o' k hj hjo hl hk hkA
                exact ⟨b, h1, j, o', k, hj, hjo, hl, hk, hkA, h1⟩
            · rw [← hiw, getD_own hil] at hkd; cases hkd
          · exact hsub _ _ _ _ _ hX (hst k _ (.inl hiw) (H.has j o' k hj hjo hl hk (hw hiw)))
      · by_cases e : j = i
        · subst e
          rw [ho] at hjo; cases hjo
          rw [hd] at hk; cases hk
          rw [own]
          exact ⟨_, (hfr hkA).1, H.below.size, (hfr hkA).2⟩
        · have hne : k ≠ d := fun h => e (partR_one hp hj him hjo ho hk (by rw [h]; exact hd))
          rw [getD_set_ne false (fun h => e h.symm)] at hl
          obtain ⟨b, h1, h2, h3⟩ := H.new j o' k hj hjo hl hk hkA
          rw [oth k hne]
          exact ⟨b, h1, h2, Nat.lt_of_lt_of_le h3 hb.size⟩
      · by_cases e : j = i
        · subst e
          rw [ho] at hjo; cases hjo
          rw [hd] at hk; cases hk
          have hne' : k' ≠ d := fun h => hne h.symm
          have e' : j' ≠ j := fun h => by
            subst h
            rw [ho] at hjo'; cases hjo'
            rw [hd] at hk'; cases hk'
            exact hne rfl
          rw [getD_set_ne false (fun h => e' h.symm)] at hl'
          obtain ⟨b', hb', -, hlt'⟩ := H.new j' p' k' hj' hjo' hl' hk' hkA'
          rw [own, oth k' hne']
          exact (hfr hkA).1.ne hb' (by omega)
        · by_cases e' : j' = i
          · subst e'
            rw [ho] at hjo'; cases hjo'
            rw [hd] at hk'; cases hk'
            rw [getD_set_ne false (fun h => e h.symm)] at hl
            obtain ⟨b', hb', -, hlt'⟩ := H.new j p k hj hjo hl hk hkA
            rw [own, oth k hne]
            exact hb'.ne (hfr hkA').1 (by omega)
          · rw [getD_set_ne false (fun h => e h.symm)] at hl
            rw [getD_set_ne false (fun h => e' h.symm)] at hl'
            have h1 : k ≠ d := fun h => e (partR_one hp hj him hjo ho hk (by rw [h]; exact hd))
            have h2 : k' ≠ d := fun h => e' (partR_one hp hj' him hjo' ho hk' (by rw [h]; exact hd))
            rw [oth k h1, oth k' h2]
            exact H.apart j j' p p' k k' hj hj' hjo hjo' hl hl' hk hk' hkA hkA' hne
    unfold wpOp
    simp only [ho]
    have hgn : o.guard = none := by
      have := List.all_eq_true.1 hng o (List.mem_iff_getElem?.2 ⟨i, by rw [List.getElem?_take_of_lt him, Array.getElem?_toList]; exact ho⟩)
      simpa using this
    have hw : Region.wanted o (yielded ops a.tmps) = true := by unfold Region.wanted; rw [hgn]
    rw [if_pos hw]
    by_cases hiw : i = wd
    · rw [if_pos hiw] at hso
      exact .inl (OpDoes.wp hso fun v w' hv => next v w' (hsub _ _ _ _ _ (fun k hk => hk.resolve_right fun h => (hv.1 d hd).2 h.1) (hv.1 d hd).1) (fun h => absurd h (hv.1 d hd).2) hv.2.1 fun k v' hk hp => hsub _ _ _ _ _ (fun q hq => hq.resolve_right fun h => (hv.1 d hd).2 h.1) (have h1 := hk.resolve_left fun h => h hiw; hv.2.2 k v' h1.1 h1.2 hp))
    · rw [if_neg hiw] at hso
      exact .inl (OpDoes.wp hso fun v w' hv => next v w' (hv.1 d hd).1 (hv.1 d hd).2 (hv.2.mono H.below.size) fun k v' _ hp => hsub _ _ _ _ _ (fun q hq => hq.imp id fun h => by omega) (hgrow _ _ _ _ _ hp hv.2))
end
/-- a region that draws its order, each of the first m operations by itself; the others behind them. -/
theorem wp_region_blocksX {P : Program} {id : Nat} {Q : Exit → Act → World → Prop} {a : Act} {w : World} {l : List Oper} (A : List Nat) (wd : Nat) (dead ex : List Nat) (Pk : Nat → Value → World → (Nat → Prop) → Prop) (m n : Nat) (hm : P.follows .mixedOrders = true) (hng : (l.take m).all (·.guard.isNone) = true) (hp : partR m n l.toArray = true) (hn : n = a.tmps.size) (hms : decide (m ≤ l.length) = true)
    (hsub : ∀ d v w X X', (∀ k, X' k → X k) → Pk d v w X → Pk d v w X') (hgrow : ∀ d v w w' X, Pk d v w X → Below w.heap.size w w' → Pk d v w' (fun k => X k ∨ w.heap.size ≤ k)) (hdead : deadB wd dead m l.toArray = true) (hex : exB wd dead ex m l.toArray = true) (hwd : decide (wd < m) = true) (hstep : ∀ p ∈ (List.range m).zip l, StepX wd ex A P m l.toArray Pk a w.drew p.1 p.2)
    (hend : ∀ (f : Nat → Value) (w' : World) (fuel : Nat) (X : Nat → Prop), l.length - m ≤ fuel → (∀ d ∈ dstsTo m l.toArray, d ∉ dead → Pk d (f d) w' X) → (∀ d ∈ A, d ∈ dstsTo m l.toArray → ∃ b, IsBlock (f d) b ∧ w.drew.heap.size ≤ b ∧ b < w'.heap.size ∧ X b) → (∀ d ∈ A, ∀ d' ∈ A, d ∈ dstsTo m l.toArray → d' ∈ dstsTo m l.toArray → d ≠ d' → f d ≠ f d') → Below w.drew.heap.size w.drew w' → wpAny P .any l.toArray Q fuel (endListed m (l.length - m)) ⟨fill a.tmps f (dstsTo m l.toArray), a.defers⟩ w') : (Code.region id l.toArray true).wp P Q a w := by
  have hms' : m ≤ l.length := of_decide_eq_true hms
  refine wp_region_any hm (heldX_any (w0 := w.drew) (A := A) (by simpa using hng) hp hn (by simpa using hms') hsub hgrow hdead hex (of_decide_eq_true hwd) (fun i o hi ho => hstep (i, o) (by
    have ho' : l[i]? = some o := by simpa using ho
    exact List.mem_iff_getElem?.2 ⟨i, by rw [List.getElem?_zip_eq_some]; exact ⟨List.getElem?_range hi, ho'⟩⟩)) (by simpa using hend) _ _ _ _ ?_ ?_)
  · unfold leftTo
    have := List.countP_le_length (p := fun i => !(Array.replicate l.toArray.size false).getD i true) (l := List.range m)
    rw [List.length_range] at this
    simp only [List.size_toArray] at this ⊢
    omega
  · refine ⟨rfl, rfl, by simp, fun i _ hi => ?_, fun i o hi hl => ?_, Below.refl _ _, fun _ _ => rfl, fun i o d _ hi hl => ?_, fun i o d _ hi hl => ?_, fun i j o o' d d' _ _ _ _ hl => ?_⟩
    · simp only [Array.getD_eq_getD_getElem?, Array.getElem?_replicate]
      rw [if_pos hi]; rfl
    · exfalso
      simp only [Array.getD_eq_getD_getElem?, Array.getElem?_replicate] at hl
      split at hl <;> simp at hl
    · exfalso
      simp only [Array.getD_eq_getD_getElem?, Array.getElem?_replicate] at hl
      split at hl <;> simp at hl
    · exfalso
      simp only [Array.getD_eq_getD_getElem?, Array.getElem?_replicate] at hl
      split at hl <;> simp at hl
    · exfalso
      simp only [Array.getD_eq_getD_getElem?, Array.getElem?_replicate] at hl
      split at hl <;> simp at hl
end Go.Proofs.Yteebbffecaeciaa
/- What the temporaries of a region hold that makes boxes for terms, and rows that two appends build in it. -/
namespace Go.Proofs.Yteebbffecaeciaa
open Go.RowKit

/-- a term that hangs on no block. -/
def LeafA (t : TT) (A : TA) : Prop := ∀ W : World, TOk W t A
theorem leaf_of (t : TT) (A : TA) (h1 : t.v.items = []) (h2 : t.vs = []) (h3 : t.ws = []) (h4 : t.p = pNone) (h5 : t.args = []) : LeafA t A := fun W => by
  obtain ⟨k, ⟨vk, vn, vi⟩, vs, lo, hi, ws, p, l⟩ := t
  simp only [TT.v, TT.vs, TT.ws, TT.p, TT.args, VT.items] at h1 h2 h3 h4 h5
  subst h1 h2 h3 h4 h5
  refine TOk.of ⟨⟨by simp [TT.args], by simp [TT.vs], by simp [TT.ws]⟩, VIn.shut (by simp) (by rw [VRow]; trivial), by rw [TT.vs, VRow]; trivial, wrow_nil, PIn.shut (by simp) (VIn.shut (by simp) (by rw [VRow]; trivial)) prow_nil, trow_nil⟩
theorem cellsL_of {w : World} {b : Nat} {L : List (TT × TA)} (h : ∀ i (hi : i < L.length), TCells w b (i * 15) L[i].1 L[i].2) (j : Nat) (v : Value) (hv : (cellsL L)[j]? = some v) : w.cell? ⟨b, j, none⟩ = some v := by
  have hj : j < L.length * 15 := by
    have := (List.getElem?_eq_some_iff.1 hv).1
    rwa [cellsL_length] at this
  have e : j / 15 * 15 + j % 15 = j := by omega
  rw [← e, cellsL_get L (j / 15) (j % 15) (by omega) (by omega)] at hv
  have := (h (j / 15) (by omega)).range (j % 15) v hv
  rwa [e] at this
theorem cellsL_one {L : List (TT × TA)} : ∀ u ∈ cellsL L, u.oneCell' = true := fun u hu => by
  rw [cellsL, List.mem_flatMap] at hu
  obtain ⟨p, _, hu⟩ := hu
  have h := cellsOf_one p.1 p.2
  rw [Array.all_eq_true'] at h
  exact h u (by simpa using hu)
/-- a row that append has built: leaves, in a block apart from X. -/
def LRow (X : Nat → Prop) (B0 : Nat) (w : World) (l : List TT) (v : Value) : Prop := ∃ a cap L, v = .slice a L.length cap ∧ L.map (·.1) = l ∧ Grown w B0 47 15 L.length (cellsL L) a cap ∧ (∀ p ∈ L, LeafA p.1 p.2) ∧ ∀ b, a = some ⟨b, 0, none⟩ → ¬ X b ∧ b < w.heap.size
theorem Grown.less {w : World} {B B' T k len : Nat} {xs : List Value} {a : Option Addr} {cap : Nat} (h : Grown w B T k len xs a cap) (hB : B' ≤ B) : Grown w B' T k len xs a cap :=
  ⟨h.size, h.le, h.row.imp id fun ⟨b, e, hb, hr⟩ => ⟨b, e, Nat.le_trans hB hb, hr⟩⟩
theorem LRow.grown {X : Nat → Prop} {B0 b c : Nat} {w : World} {L M : List (TT × TA)} {a : Option Addr} {cap : Nat} (hg : Grown w B0 47 15 L.length (cellsL L) a cap) (hl : ∀ p ∈ L, LeafA p.1 p.2) (ha : ∀ b, a = some ⟨b, 0, none⟩ → ¬ X b ∧ b < w.heap.size) (hB : B0 ≤ w.heap.size) (hX : ∀ k, X k → k < w.heap.size)
    (hM : ∀ j u, (cellsL M)[j]? = some u → w.cell? ⟨b, j, none⟩ = some u) (hm : ∀ p ∈ M, LeafA p.1 p.2) (h0 : 0 < M.length) (hn : L.length + M.length ≤ 1000) :
    ∃ v' w', (Builtin.append_ #[45, 45] 45 #[.slice a L.length cap, .slice (some ⟨b, 0, none⟩) M.length c]).run Try.prog w = .ok v' w' ∧ LRow X B0 w' (L.map (·.1) ++ M.map (·.1)) v' ∧ Below B0 w w' ∧ ∀ k, X k → w'.heap[k]? = w.heap[k]? := by
  obtain ⟨i0, hi0, hz0, hz1, hz2⟩ := info_parts zeroT
  obtain ⟨a', cap', w', hap, hg', hb', hk'⟩ := grown_append (P := Try.prog) (ty := 45) hB hg Try.underlying45 hi0 hz0 hz1 rfl hz2
    (Src.ofSlice w Try.underlying45 ⟨b, 0, none⟩ M.length c (cellsL M) (cellsL_length M) (fun j u hu => by rw [Addr.add_lit]; simpa using hM j u hu) cellsL_one) (by omega) (by omega)
  have e : cellsL L ++ cellsL M = cellsL (L ++ M) := by simp [cellsL]
  rw [e, ← List.length_append] at hg'
  rw [← List.length_append] at hap
  refine ⟨_, w', hap, ⟨a', cap', L ++ M, rfl, by simp, hg', fun p hp => (List.mem_append.1 hp).elim (hl p) (hm p), fun b' e' => ?_⟩, hb', fun k hk => (hk' k (hX k hk) fun b' e' hkb => (ha b' e').1 (hkb ▸ hk)).1⟩
  have hnx : ¬ X b' := fun hx => (hk' b' (hX b' hx) fun b2 e2 hkb => (ha b2 e2).1 (hkb ▸ hx)).2 b' e' rfl
  refine ⟨hnx, ?_⟩
  obtain ⟨b2, e2, _, hr, _⟩ := hg'.cells (by rw [cellsL_length, List.length_append]; omega)
  rw [e2] at e'; cases e'
  exact hr.lt
theorem LRow.append {X : Nat → Prop} {B0 b c : Nat} {w : World} {l : List TT} {v : Value} {M : List (TT × TA)} (h : LRow X B0 w l v) (hB : B0 ≤ w.heap.size) (hX : ∀ k, X k → k < w.heap.size)
    (hM : ∀ j u, (cellsL M)[j]? = some u → w.cell? ⟨b, j, none⟩ = some u) (hm : ∀ p ∈ M, LeafA p.1 p.2) (h0 : 0 < M.length) (hn : l.length + M.length ≤ 1000) :
    ∃ v' w', (Builtin.append_ #[45, 45] 45 #[v, .slice (some ⟨b, 0, none⟩) M.length c]).run Try.prog w = .ok v' w' ∧ LRow X B0 w' (l ++ M.map (·.1)) v' ∧ Below B0 w w' ∧ ∀ k, X k → w'.heap[k]? = w.heap[k]? := by
  obtain ⟨a, cap, L, rfl, rfl, hg, hl, ha⟩ := h
  exact LRow.grown hg hl ha hB hX hM hm h0 (by simpa using hn)
theorem LRow.first {X : Nat → Prop} {B0 b b0 c : Nat} {w : World} {M : List (TT × TA)} (hb0 : ¬ X b0) (hlt : b0 < w.heap.size) (hB : B0 ≤ w.heap.size) (hX : ∀ k, X k → k < w.heap.size)
    (hM : ∀ j u, (cellsL M)[j]? = some u → w.cell? ⟨b, j, none⟩ = some u) (hm : ∀ p ∈ M, LeafA p.1 p.2) (h0 : 0 < M.length) (hn : M.length ≤ 1000) :
    ∃ v' w', (Builtin.append_ #[45, 45] 45 #[.slice (some ⟨b0, 0, none⟩) 0 0, .slice (some ⟨b, 0, none⟩) M.length c]).run Try.prog w = .ok v' w' ∧ LRow X B0 w' (M.map (·.1)) v' ∧ Below w.heap.size w w' := by
  obtain ⟨v', w', hrun, ⟨a, cap, L, e, el, hg, hl, ha⟩, hb, _⟩ := LRow.grown (L := []) (X := X) (c := c) (Grown.empty w w.heap.size 47 15 b0) (by simp) (fun b' e => by cases e; exact ⟨hb0, hlt⟩) (Nat.le_refl _) hX hM hm h0 (by simpa using hn)
  exact ⟨v', w', hrun, ⟨a, cap, L, e, by simpa using el, hg.less hB, hl, ha⟩, hb⟩
theorem AgreeS.less {X X' : Nat → Prop} {w W : World} (h : ∀ k, X' k → X k) (ha : AgreeS X' w W) : AgreeS X w W := ⟨ha.1, fun k hk hn => ha.2 k hk fun hx => hn (h k hx)⟩
theorem AgreeS.grow {X : Nat → Prop} {w w' W : World} (hb : Below w.heap.size w w') (ha : AgreeS (fun k => X k ∨ w.heap.size ≤ k) w' W) : AgreeS X w W :=
  ⟨Nat.le_trans hb.size ha.1, fun k hk hn => (ha.2 k (Nat.lt_of_lt_of_le hk hb.size) (fun h => h.elim hn (fun h => by omega))).trans (hb.block k hk)⟩
theorem LRow.sub {X X' : Nat → Prop} {B0 : Nat} {w : World} {l : List TT} {v : Value} (h : LRow X B0 w l v) (hs : ∀ k, X' k → X k) : LRow X' B0 w l v := by
  obtain ⟨a, cap, L, e, el, hg, hl, ha⟩ := h
  exact ⟨a, cap, L, e, el, hg, hl, fun b e => ⟨fun hx => (ha b e).1 (hs b hx), (ha b e).2⟩⟩
theorem LRow.growX {X : Nat → Prop} {B0 : Nat} {w w' : World} {l : List TT} {v : Value} (h : LRow X B0 w l v) (hb : Below w.heap.size w w') : LRow (fun k => X k ∨ w.heap.size ≤ k) B0 w' l v := by
  obtain ⟨a, cap, L, e, el, hg, hl, ha⟩ := h
  exact ⟨a, cap, L, e, el, hg.below hb, hl, fun b e => ⟨fun hx => hx.elim (ha b e).1 fun h => by have := (ha b e).2; omega, Nat.lt_of_lt_of_le (ha b e).2 hb.size⟩⟩
theorem LRow.rowA {X : Nat → Prop} {B0 : Nat} {w : World} {l : List TT} {v : Value} (h : LRow X B0 w l v) : ∃ a cap, v = .slice a l.length cap ∧ TRowA X w l a := by
  obtain ⟨a, cap, L, e, el, hg, hl, ha⟩ := h
  subst el
  refine ⟨a, cap, by rw [List.length_map]; exact e, fun W hW => ?_⟩
  by_cases h0 : L.length = 0
  · have : L = [] := List.length_eq_zero_iff.1 h0
    subst this; exact trow_nil
  · obtain ⟨b, e, hb, hr, hc⟩ := hg.cells (by rw [cellsL_length]; omega)
    rw [e]
    refine TRow.of b _ 0 fun i hi => ?_
    have hi' : i < L.length := by simpa using hi
    rw [List.getElem_map, Nat.zero_add]
    have hg : ∀ q v, q < 15 → ((cellsOf L[i].1 L[i].2).toList)[q]? = some v → W.cell? ⟨b, i * 15 + q, none⟩ = some v := fun q v hq hv => hW.cell (ha b e).1 (hc _ v (by rw [cellsL_get L i q hi' hq]; exact hv))
    exact ⟨L[i].2, ⟨hg 0 _ (by decide) rfl, hg 1 _ (by decide) rfl, hg 2 _ (by decide) rfl, hg 3 _ (by decide) rfl, hg 4 _ (by decide) rfl, hg 5 _ (by decide) rfl, hg 6 _ (by decide) rfl, hg 7 _ (by decide) rfl, hg 8 _ (by decide) rfl, hg 9 _ (by decide) rfl, hg 10 _ (by decide) rfl, hg 11 _ (by decide) rfl, hg 12 _ (by decide) rfl, hg 13 _ (by decide) rfl, hg 14 _ (by decide) rfl⟩, hl _ (List.getElem_mem hi') W⟩
/-- a row of terms, built at one time. -/
theorem run_rowN {w : World} {r : Operand → Value} {n : Nat} {parts : Array (Nat × Operand)} (L : List (TT × TA)) (hn : n = L.length) (h0 : 0 < n) (hs : n ≤ 1000) (hp : (parts.map fun (i, x) => (i, r x)).toList = ((L.map fun x => x.1.val x.2).zipIdx 0).map fun x => (x.2, x.1)) :
    ∃ w2, (∀ o : Oper, o.op = .buildSlice 45 n parts → (execOp r o).run Try.prog w = .ok (.value (.slice (some ⟨w.heap.size, 0, none⟩) n n)) w2) ∧ Below w.heap.size w w2 ∧ w.heap.size < w2.heap.size ∧ ∀ i (h : i < L.length), TCells w2 w.heap.size (i * 15) L[i].1 L[i].2 := by
  have hk : ∀ v ∈ (L.map fun x => x.1.val x.2), v.cells.size = 15 := by
    intro v hv
    obtain ⟨x, _, rfl⟩ := List.mem_map.1 hv
    exact cellsOf_size _ _
  obtain ⟨w2, hw, hb, hlt, _, hc⟩ := table_new w 47 15 _ (by decide) hk
  refine ⟨w2, fun o ho => run_table (k := 15) _ ho Try.underlying45 (by kernel_rfl) (by kernel_rfl) hp (by rw [List.length_map, hn]) hk (by decide) h0 (by omega) hw, hb, hlt, fun i h => ?_⟩
  have := hc i (by rw [List.length_map]; exact h)
  rw [List.getElem_map] at this
  exact .of_range this
theorem rowA_of {X : Nat → Prop} {w : World} {b : Nat} {L : List (TT × TA)} (hX : ¬ X b) (hc : ∀ i (h : i < L.length), TCells w b (i * 15) L[i].1 L[i].2) (hk : ∀ p ∈ L, TOkA X w p.1 p.2) : TRowA X w (L.map (·.1)) (some ⟨b, 0, none⟩) := fun W hW => by
  refine TRow.of b _ 0 fun i hi => ?_
  have hi' : i < L.length := by simpa using hi
  rw [List.getElem_map, Nat.zero_add]
  exact ⟨L[i].2, (hc i hi').keep fun _ _ hv => hW.cell hX hv, hk _ (List.getElem_mem hi') W hW⟩
/-- what a temporary holds. -/
inductive TX where
  | term (t : TT)
  | leaf (t : TT)
  | fixed (v : Value)
  | empty
  | grow (B0 : Nat) (l : List TT)
  | src (l : List TT)
  | row (l : List TT)
  | box (T n : Nat)
def TX.ok : TX → Value → World → (Nat → Prop) → Prop
  | .term t, v, w, X => TInA X w t v
  | .leaf t, v, _, _ => ∃ A, v = t.val A ∧ LeafA t A
  | .fixed u, v, _, _ => v = u
  | .empty, v, w, X => ∃ b, v = .slice (some ⟨b, 0, none⟩) 0 0 ∧ ¬ X b ∧ b < w.heap.size
  | .grow B0 l, v, w, X => LRow X B0 w l v
  | .src l, v, w, _ => ∃ b L, v = .slice (some ⟨b, 0, none⟩) L.length L.length ∧ L.map (·.1) = l ∧ (∀ j u, (cellsL L)[j]? = some u → w.cell? ⟨b, j, none⟩ = some u) ∧ ∀ p ∈ L, LeafA p.1 p.2
  | .row l, v, w, X => ∃ a cap, v = .slice a l.length cap ∧ TRowA X w l a
  | .box T n, v, w, _ => ∃ b, IsBlock v b ∧ b < w.heap.size ∧ RowAt w T b n
def kindTX (ks : List (Nat × TX)) (d : Nat) (v : Value) (w : World) (X : Nat → Prop) : Prop := ((ks.lookup d).getD (.fixed v)).ok v w X
theorem TX.sub {w : World} {X X' : Nat → Prop} (h : ∀ k, X' k → X k) : ∀ (k : TX) (v : Value), k.ok v w X → k.ok v w X'
  | .term _, _, ⟨A, e, hk⟩ => ⟨A, e, fun W ha => hk W (ha.less h)⟩
  | .leaf _, _, hk => hk
  | .fixed _, _, hk => hk
  | .empty, _, ⟨b, e, hx, hl⟩ => ⟨b, e, fun hx' => hx (h b hx'), hl⟩
  | .grow _ _, _, hk => LRow.sub hk h
  | .src _, _, hk => hk
  | .row _, _, ⟨a, cap, e, hk⟩ => ⟨a, cap, e, fun W ha => hk W (ha.less h)⟩
  | .box _ _, _, hk => hk
theorem TX.growX {w w' : World} {X : Nat → Prop} (hb : Below w.heap.size w w') : ∀ (k : TX) (v : Value), k.ok v w X → k.ok v w' (fun k => X k ∨ w.heap.size ≤ k)
  | .term _, _, ⟨A, e, hk⟩ => ⟨A, e, fun W ha => hk W (ha.grow hb)⟩
  | .leaf _, _, hk => hk
  | .fixed _, _, hk => hk
  | .empty, _, ⟨b, e, hx, hl⟩ => ⟨b, e, fun hx' => hx'.elim hx fun h => by omega, Nat.lt_of_lt_of_le hl hb.size⟩
  | .grow _ _, _, hk => LRow.growX hk hb
  | .src _, _, ⟨b, L, e, el, hc, hl⟩ => ⟨b, L, e, el, fun j u hu => cell_stays hb (hc j u hu), hl⟩
  | .row _, _, ⟨a, cap, e, hk⟩ => ⟨a, cap, e, fun W ha => hk W (ha.grow hb)⟩
  | .box _ _, _, ⟨b, e, hlt, h⟩ => ⟨b, e, Nat.lt_of_lt_of_le hlt hb.size, h.below hlt hb⟩
theorem kindTX_sub (ks : List (Nat × TX)) (d : Nat) (v : Value) (w : World) (X X' : Nat → Prop) (h : ∀ k, X' k → X k) (hk : kindTX ks d v w X) : kindTX ks d v w X' := TX.sub h _ _ hk
theorem kindTX_grow (ks : List (Nat × TX)) (d : Nat) (v : Value) (w w' : World) (X : Nat → Prop) (hk : kindTX ks d v w X) (hb : Below w.heap.size w w') : kindTX ks d v w' (fun k => X k ∨ w.heap.size ≤ k) := TX.growX hb _ _ hk
section
variable {A : List Nat} {o : Oper} {r : Operand → Value} {w : World} {d : Nat} {ks : List (Nat × TX)} {X : Nat → Prop}
theorem notAT (hA : decide (d ∉ A) = true) : ∀ k, (X k ∨ (d ∈ A ∧ k = w.heap.size)) → X k := fun _ h => h.elim id (fun h => absurd h.1 (of_decide_eq_true hA))
theorem tb_value {v : Value} (hd : o.dst = some d) (hA : decide (d ∉ A) = true) (h : (execOp r o).run Try.prog w = .ok (.value v) w) (hk : kindTX ks d v w X) :
    OpDoes Try.prog o r w fun v w' => (∀ d, o.dst = some d → kindTX ks d v w' (fun k => X k ∨ (d ∈ A ∧ k = w.heap.size)) ∧ (d ∈ A → IsBlock v w.heap.size ∧ w.heap.size < w'.heap.size)) ∧ Below w.heap.size w w' :=
  .value h ⟨fun d' e => by rw [hd] at e; cases e; exact ⟨kindTX_sub _ _ _ _ _ _ (notAT hA) hk, fun h => absurd h (of_decide_eq_true hA)⟩, Below.refl _ _⟩
theorem tb_new {v : Value} {w' : World} (hd : o.dst = some d) (hA : decide (d ∉ A) = true) (h : (execOp r o).run Try.prog w = .ok (.value v) w') (hb : Below w.heap.size w w') (hk : kindTX ks d v w' X) :
    OpDoes Try.prog o r w fun v w' => (∀ d, o.dst = some d → kindTX ks d v w' (fun k => X k ∨ (d ∈ A ∧ k = w.heap.size)) ∧ (d ∈ A → IsBlock v w.heap.size ∧ w.heap.size < w'.heap.size)) ∧ Below w.heap.size w w' :=
  .value h ⟨fun d' e => by rw [hd] at e; cases e; exact ⟨kindTX_sub _ _ _ _ _ _ (notAT hA) hk, fun h => absurd h (of_decide_eq_true hA)⟩, hb⟩
theorem tb_call {f : FuncId} {args : Array Value} (hd : o.dst = some d) (hA : decide (d ∉ A) = true) (h : (execOp r o).run Try.prog w = .ok (.enter f args) w) (hc : Calls Try.prog f args w fun e w' => ∃ v, e = .returned v ∧ kindTX ks d v w' X ∧ Below w.heap.size w w') :
    OpDoes Try.prog o r w fun v w' => (∀ d, o.dst = some d → kindTX ks d v w' (fun k => X k ∨ (d ∈ A ∧ k = w.heap.size)) ∧ (d ∈ A → IsBlock v w.heap.size ∧ w.heap.size < w'.heap.size)) ∧ Below w.heap.size w w' :=
  .enter h (hc.mono fun e w' ⟨v, he, hk, hb⟩ => ⟨v, he, fun d' e => by rw [hd] at e; cases e; exact ⟨kindTX_sub _ _ _ _ _ _ (notAT hA) hk, fun h => absurd h (of_decide_eq_true hA)⟩, hb⟩)
theorem tb_block {w' : World} (hd : o.dst = some d) (h : (execOp r o).run Try.prog w = .ok (.value (.pointer (some ⟨w.heap.size, 0, none⟩))) w') (hb : Below w.heap.size w w') (hlt : w.heap.size < w'.heap.size) (hk : ∀ X, kindTX ks d (.pointer (some ⟨w.heap.size, 0, none⟩)) w' X) :
    OpDoes Try.prog o r w fun v w' => (∀ d, o.dst = some d → kindTX ks d v w' (fun k => X k ∨ (d ∈ A ∧ k = w.heap.size)) ∧ (d ∈ A → IsBlock v w.heap.size ∧ w.heap.size < w'.heap.size)) ∧ Below w.heap.size w w' :=
  .value h ⟨fun d' e => by rw [hd] at e; cases e; exact ⟨hk _, fun _ => ⟨rfl, hlt⟩⟩, hb⟩
end
/-- a row of numbers 0 that a loop has filled, as leaves. -/
theorem nums_cells {w : World} {b : Nat} : ∀ (n : Nat), (∀ j, j < n → ∃ A, TCells w b (j * 15) (tNum 0) A) → ∃ L : List (TT × TA), L.length = n ∧ L.map (·.1) = nums0 n ∧ (∀ i (h : i < L.length), TCells w b (i * 15) L[i].1 L[i].2) ∧ ∀ p ∈ L, LeafA p.1 p.2
  | 0, _ => ⟨[], rfl, rfl, (fun i h => by simp at h), (fun _ h => by cases h)⟩
  | n + 1, h => by
    obtain ⟨L, hl, he, hc, hk⟩ := nums_cells n (fun j hj => h j (by omega))
    obtain ⟨A, hA⟩ := h n (by omega)
    refine ⟨L ++ [(tNum 0, A)], by simp [hl], by rw [List.map_append, he]; simp [nums0, List.replicate_succ'], fun i hi => ?_, fun p hp => ?_⟩
    · by_cases hlt : i < L.length
      · rw [List.getElem_append_left hlt]; exact hc i hlt
      · have : i = L.length := by rw [List.length_append] at hi; simp at hi; omega
        subst this
        simpa [hl] using hA
    · rcases List.mem_append.1 hp with hp | hp
      · exact hk p hp
      · simp only [List.mem_singleton] at hp; subst hp
        exact leaf_of _ _ rfl rfl rfl rfl rfl
theorem ite_no {c : Prop} [Decidable c] {p q : Prop} (h : ¬ c) (hq : q) : if c then p else q := by rw [if_neg h]; exact hq
theorem ite_yes {c : Prop} [Decidable c] {p q : Prop} (h : c) (hp : p) : if c then p else q := by rw [if_pos h]; exact hp
/-- what a wide operation leaves as it is. -/
def TX.calm : TX → Bool
  | .leaf _ | .fixed _ | .empty => true
  | _ => false
def TX.isBox : TX → Bool
  | .box _ _ => true
  | _ => false
theorem lookup_mem {α : Type} : ∀ {ks : List (Nat × α)} {d : Nat} {k : α}, ks.lookup d = some k → (d, k) ∈ ks
  | [], _, _, h => by simp at h
  | (e, x) :: ks, d, k, h => by
    rw [List.lookup_cons] at h
    by_cases he : d == e
    · simp only [he] at h
      cases h
      rw [eq_of_beq he]; exact List.mem_cons_self
    · simp only [he] at h
      exact List.mem_cons_of_mem _ (lookup_mem h)
theorem kindTX_wide {ks : List (Nat × TX)} {A ex : List Nat} {w w' : World} {X : Nat → Prop} (hok : (ks.all fun p => decide (p.1 ∈ ex) || p.2.calm || (p.2.isBox && decide (p.1 ∈ A))) = true) (hs : w.heap.size ≤ w'.heap.size) (hx : ∀ k, X k → w'.heap[k]? = w.heap[k]?) (d : Nat) (v : Value) (hd : d ∉ ex) (hA : d ∈ A → ∃ b, IsBlock v b ∧ X b) (h : kindTX ks d v w X) : kindTX ks d v w' X := by
  unfold kindTX at h ⊢
  cases e : ks.lookup d with
  | none => rfl
  | some k =>
    rw [e] at h
    have h1 := List.all_eq_true.1 hok _ (lookup_mem e)
    simp only [Option.getD_some] at h ⊢
    have h2 : (k.calm || (k.isBox && decide (d ∈ A))) = true := by simpa [hd] using h1
    cases k with
    | leaf t => exact h
    | fixed u => exact h
    | empty => obtain ⟨b, e, hx', hl⟩ := h; exact ⟨b, e, hx', Nat.lt_of_lt_of_le hl hs⟩
    | box T n =>
      have h3 : d ∈ A := by simpa [TX.calm, TX.isBox] using h2
      obtain ⟨b, e, hl, hr⟩ := h
      obtain ⟨b', e', hb'⟩ := hA h3
      unfold IsBlock at e e'
      rw [e] at e'; cases e'
      exact ⟨b, e, Nat.lt_of_lt_of_le hl hs, row_block (hx b hb') hr⟩
    | term t => simp [TX.calm, TX.isBox] at h2
    | grow B l => simp [TX.calm, TX.isBox] at h2
    | src l => simp [TX.calm, TX.isBox] at h2
    | row l => simp [TX.calm, TX.isBox] at h2
theorem mof_row (a : Option Addr) (cap : Nat) (w : World) (hr : TRow w (nums0 64) a) : Calls Try.prog 48 #[.int .u8 5, .slice a 64 cap] w (TMade rowT w) := by
  have := mof 5 (nums0 64) a cap w (by simp [nums0]) hr
  rwa [show (nums0 64).length = 64 from by simp [nums0]] at this
theorem run_append2 {P : Program} {o : Oper} {r : Operand → Value} {w w' : World} {s x : Operand} {t : TypeId} {sv xv v : Value} (hop : o.op = Op.call { callee := Callee.builtin Builtin.append, args := #[s, x], argTypes := #[t, t] }) (hs : r s = sv) (hx : r x = xv)
    (hrun : (Builtin.append_ #[t, t] o.type #[sv, xv]).run P w = .ok v w') : (execOp r o).run P w = .ok (.value v) w' := by
  simp [execOp, hop, resolve, invoke, builtin, hs, hx, hrun]
theorem madeLeaf {f : FuncId} {args : Array Value} {w : World} {t : TT} {X : Nat → Prop} (h1 : t.v.items = []) (h2 : t.vs = []) (h3 : t.ws = []) (h4 : t.p = pNone) (h5 : t.args = []) (h : Calls Try.prog f args w (TMade t w)) : Calls Try.prog f args w fun e w' => ∃ v, e = .returned v ∧ TX.ok (.leaf t) v w' X ∧ Below w.heap.size w w' :=
  h.mono fun _ _ ⟨x, he, ⟨A, ex, _⟩, hb⟩ => ⟨x, he, ⟨A, ex, leaf_of t A h1 h2 h3 h4 h5⟩, hb⟩
/-- a box that holds a term. -/
def BoxF (w : World) (b : Nat) (t : TT) : Prop := ∃ A, TCells w b 0 t A ∧ TOk w t A
theorem BoxF.below {w w' : World} {b : Nat} {t : TT} (h : BoxF w b t) (hb : Below w.heap.size w w') : BoxF w' b t := by
  obtain ⟨A, hc, hk⟩ := h
  exact ⟨A, hc.below hb, hk.below hb⟩
theorem BoxF.stored {X : Nat → Prop} {w : World} {T b n : Nat} {t : TT} {A : TA} (hk : TOkA X w t A) (hR : RowAt w T b n) (hn : 15 ≤ n) (hX : X b) : BoxF (setL b (cellsT 0 t A) w) b t :=
  ⟨A, cells15 hR hn, hk _ ⟨Nat.le_of_eq (setL_size b _ w).symm, fun k _ hx => setL_block b (fun e => hx (by rw [e]; exact hX)) _ w⟩⟩
end Go.Proofs.Yteebbffecaeciaa
