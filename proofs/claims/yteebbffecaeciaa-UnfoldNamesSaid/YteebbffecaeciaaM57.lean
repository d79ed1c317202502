/- Texts of this claim laid into one: VBlocksL. -/
import Derived.Test.YteebbffecaeciaaM49
import Derived.Test.YteebbffecaeciaaM28
/- A region that draws its order and makes blocks: one store behind the first m operations, for which one of these need not have come up. -/
namespace Go.Proofs.Yteebbffecaeciaa
open Go.RowKit

/-- who waits for whom behind the first m: the store (the m-th) for all but jl, the others for all. -/
def restL (m jl : Nat) (ops : Array Oper) : Bool :=
  ((List.range ops.size).all fun i => decide (i < m) || match ops[i]? with
    | none => true
    | some o => if i = m then ((List.range m).all fun j => decide (j = jl) || o.after.any fun e => Region.binds .any e && reachB ops 6 e.on j) && o.after.all fun e => !Region.binds .any e || decide (e.on < m)
      else (List.range (m + 1)).all fun j => o.after.any fun e => Region.binds .any e && reachB ops 6 e.on j)
theorem restL_at {m jl : Nat} {ops : Array Oper} (h : restL m jl ops = true) {o : Oper} (hi : ops[m]? = some o) : (∀ j, j < m → j ≠ jl → ∃ e ∈ o.after, Region.binds .any e = true ∧ reachB ops 6 e.on j = true) ∧ ∀ e ∈ o.after, Region.binds .any e = true → e.on < m := by
  unfold restL at h
  have h1 := List.all_eq_true.1 h m (List.mem_range.2 (Array.getElem?_eq_some_iff.1 hi).1)
  simp only [Nat.lt_irrefl, decide_false, Bool.false_or, hi, if_true, Bool.and_eq_true] at h1
  refine ⟨fun j hj hne => ?_, fun e he hb => ?_⟩
  · have h2 := List.all_eq_true.1 h1.1 j (List.mem_range.2 hj)
    simp only [hne, decide_false, Bool.false_or] at h2
    rw [Array.any_eq_true] at h2
    obtain ⟨k, hk, hb⟩ := h2
    rw [Bool.and_eq_true] at hb
    exact ⟨_, Array.getElem_mem hk, hb.1, hb.2⟩
  · have h2 := h1.2
    rw [Array.all_eq_true] at h2
    obtain ⟨k, hk, rfl⟩ := Array.getElem_of_mem he
    have h3 := h2 k hk
    rw [hb] at h3
    simpa using h3
theorem restL_past {m jl : Nat} {ops : Array Oper} (h : restL m jl ops = true) {i : Nat} {o : Oper} (hm : m < i) (hi : ops[i]? = some o) {j : Nat} (hj : j ≤ m) : ∃ e ∈ o.after, Region.binds .any e = true ∧ reachB ops 6 e.on j = true := by
  unfold restL at h
  have h1 := List.all_eq_true.1 h i (List.mem_range.2 (Array.getElem?_eq_some_iff.1 hi).1)
  have e1 : decide (i < m) = false := decide_eq_false (by omega)
  simp only [e1, Bool.false_or, hi] at h1
  rw [if_neg (by omega)] at h1
  have h2 := List.all_eq_true.1 h1 j (List.mem_range.2 (by omega))
  rw [Array.any_eq_true] at h2
  obtain ⟨k, hk, hb⟩ := h2
  rw [Bool.and_eq_true] at hb
  exact ⟨_, Array.getElem_mem hk, hb.1, hb.2⟩
section
variable {P : Program} {ops : Array Oper} {Q : Exit → Act → World → Prop} {m n : Nat} {Pk : Nat → Value → World → (Nat → Prop) → Prop} {a0 : Act} {w0 : World} {A : List Nat}
structure EndF (A : List Nat) (m : Nat) (ops : Array Oper) (Pk : Nat → Value → World → (Nat → Prop) → Prop) (w0 : World) (f : Nat → Value) (w : World) (X : Nat → Prop) : Prop where
  has : ∀ d ∈ dstsTo m ops, Pk d (f d) w X
  new : ∀ d ∈ A, d ∈ dstsTo m ops → ∃ b, IsBlock (f d) b ∧ w0.heap.size ≤ b ∧ b < w.heap.size ∧ X b
  below : Below w0.heap.size w0 w
theorem HeldB.whole {listed : Array Bool} {a : Act} {w : World} (H : HeldB A m ops Pk a0 w0 listed a w) (hms : m ≤ ops.size) (hall : ∀ i, i < m → listed.getD i true = true) :
    listed = endListed m (ops.size - m) ∧ a = ⟨fill a0.tmps (fun d => a.eval (.tmp d)) (dstsTo m ops), a0.defers⟩ ∧ EndF A m ops Pk w0 (fun d => a.eval (.tmp d)) w (blocksOf A m ops listed a) := by
  have hl : ∀ i, i < m → listed.getD i false = true := fun i hi => getD_false H.lsize (by omega) (hall i hi)
  refine ⟨?_, ?_, ⟨fun d hd => ?_, fun d hdA hd => ?_, H.below⟩⟩
  · refine Array.ext_getElem? fun k => ?_
    have hls := H.lsize
    by_cases hk : k < ops.size
    · have e1 : listed[k]? = some (listed.getD k true) := by simp [show k < listed.size by omega]
      rw [e1]
      unfold endListed
      rw [List.getElem?_toArray]
      by_cases hkm : k < m
      · rw [hall k hkm, List.getElem?_append_left (by simpa using hkm), List.getElem?_replicate, if_pos hkm]
      · rw [H.rest k (by omega) hk, List.getElem?_append_right (by simp; omega), List.getElem?_replicate, List.length_replicate, if_pos (by omega)]
    · rw [Array.getElem?_eq_none (by omega)]
      unfold endListed
      rw [List.getElem?_toArray, List.getElem?_eq_none (by simp; omega)]
  · obtain ⟨tm, df⟩ := a
    have e1 : tm = fill a0.tmps (fun d => Act.eval ⟨tm, df⟩ (.tmp d)) (dstsTo m ops) := by
      refine Array.ext_getElem? fun k => ?_
      by_cases hk : k < a0.tmps.size
      · rw [fill_get _ _ _ _ hk]
        have hk' : k < tm.size := by have := H.size; simp only at this; omega
        by_cases hm : k ∈ dstsTo m ops
        · rw [if_pos hm]; simp [Act.eval, hk']
        · rw [if_neg hm]
          exact H.same k fun i o hi ho _ hd => hm (mem_dstsTo.2 ⟨i, o, hi, ho, hd⟩)
      · have hk' : ¬ k < tm.size := by have := H.size; simp only at this; omega
        rw [Array.getElem?_eq_none (by omega), Array.getElem?_eq_none (by rw [fill_size]; omega)]
    have e2 : df = a0.defers := H.defers
    rw [← e2, ← e1]
  · obtain ⟨i, o, him, hi, ho⟩ := mem_dstsTo.1 hd
    exact H.has i o d him hi (hl i him) ho
  · obtain ⟨i, o, him, hi, ho⟩ := mem_dstsTo.1 hd
    obtain ⟨b, h1, h2, h3⟩ := H.new i o d him hi (hl i him) ho hdA
    exact ⟨b, h1, h2, h3, i, o, d, him, hi, hl i him, ho, hdA, h1⟩
theorem firstM {i : Nat} (h : i < m) (hms : m ≤ ops.size) : (ops.extract 0 m)[i]? = ops[i]? := by
  rw [Array.getElem?_extract]
  simp only [Nat.sub_zero, Nat.zero_add]
  rw [if_pos (by omega)]
/-- one of the first m comes up. -/
theorem HeldB.next {listed : Array Bool} {a : Act} {w : World} (H : HeldB A m ops Pk a0 w0 listed a w) (hp : partR m n (ops.extract 0 m) = true) (hn : n = a0.tmps.size) (hms : m ≤ ops.size) (hsub : ∀ d v w X X', (∀ k, X' k → X k) → Pk d v w X → Pk d v w X') (hgrow : ∀ d v w w' X, Pk d v w X → Below w.heap.size w w' → Pk d v w' (fun k => X k ∨ w.heap.size ≤ k))
    {i d : Nat} {o : Oper} (him : i < m) (hu : listed.getD i true = false) (ho : ops[i]? = some o) (hwait : ∀ e ∈ o.after, Region.binds .any e = true → listed.getD e.on false = true) (hd : o.dst = some d)
    {v : Value} {w' : World} (hv : Pk d v w' (fun k => blocksOf A m ops listed a k ∨ (d ∈ A ∧ k = w.heap.size))) (hfr : d ∈ A → IsBlock v w.heap.size ∧ w.heap.size < w'.heap.size) (hb : Below w.heap.size w w') :
    HeldB A m ops Pk a0 w0 (listed.setIfInBounds i true) (a.put (some d) v) w' := by
  have hlt : i < ops.size := by omega
  have hil : i < listed.size := by rw [H.lsize]; exact hlt
  obtain ⟨-, ⟨d0, hd0, hdn⟩, -⟩ := partR_op hp him ((firstM him hms).trans ho)
  rw [hd] at hd0; cases hd0
  have hds : d < a.tmps.size := by rw [H.size, ← hn]; exact hdn
  have one : ∀ {j k : Nat} {p q : Oper} {e : Nat}, j < m → k < m → ops[j]? = some p → ops[k]? = some q → p.dst = some e → q.dst = some e → j = k := fun hj hk h1 h2 h3 h4 => partR_one hp hj hk ((firstM hj hms).trans h1) ((firstM hk hms).trans h2) h3 h4
  have own : Act.eval (a.put (some d) v) (.tmp d) = v := by simp [Act.eval, Act.put, hds]
  have oth : ∀ k, k ≠ d → Act.eval (a.put (some d) v) (.tmp k) = a.eval (.tmp k) := fun k hne => by
    simp only [Act.eval, Act.put, Array.getD_eq_getD_getElem?]
    rw [Array.getElem?_setIfInBounds_ne (fun h => hne h.symm)]
  have hX : ∀ k, blocksOf A m ops (listed.setIfInBounds i true) (a.put (some d) v) k → blocksOf A m ops listed a k ∨ (d ∈ A ∧ k = w.heap.size) := fun k hk => by
    obtain ⟨j, p, e, hj, hjo, hjl, hpe, heA, hb⟩ := hk
    by_cases h : j = i
    · subst h
      rw [ho] at hjo; cases hjo
      rw [hd] at hpe; cases hpe
      rw [own] at hb
      have h1 := (hfr heA).1
      unfold IsBlock at h1 hb
      rw [h1] at hb; cases hb
      exact .inr ⟨heA, rfl⟩
    · have hne : e ≠ d := fun h' => h (one hj him hjo ho hpe (by rw [h']; exact hd))
      rw [getD_set_ne false (fun h' => h h'.symm)] at hjl
      rw [oth e hne] at hb
      exact .inl ⟨j, p, e, hj, hjo, hjl, hpe, heA, hb⟩
  refine ⟨by simp [Act.put, H.size], H.defers, by simp [H.lsize], fun k hk hks => ?_, fun k p hk hl => ?_, H.below.trans (hb.mono H.below.size), fun k hk => ?_, fun j o' k hj hjo hl hk => ?_, fun j o' k hj hjo hl hk hkA => ?_, fun j j' p p' k k' hj hj' hjo hjo' hl hl' hk hk' hkA hkA' hne => ?_⟩
  · rw [getD_set_ne true (by omega)]; exact H.rest k hk hks
  · by_cases e : k = i
    · subst e
      rw [ho] at hk; cases hk
      exact fun e he hb => getD_set_true (hwait e he hb)
    · rw [getD_set_ne false (fun h => e h.symm)] at hl
      exact fun e he hb => getD_set_true (H.closed k p hk hl e he hb)
  · have hne : k ≠ d := fun e => hk i o him ho (getD_own hil) (by rw [e]; exact hd)
    simp only [Act.put]
    rw [Array.getElem?_setIfInBounds_ne (fun e => hne e.symm)]
    exact H.same k fun j o' hjm hj hl => hk j o' hjm hj (getD_set_true hl)
  · by_cases e : j = i
    · subst e
      rw [ho] at hjo; cases hjo
      rw [hd] at hk; cases hk
      rw [own]; exact hsub _ _ _ _ _ hX hv
    · have hne : k ≠ d := fun h => e (one hj him hjo ho hk (by rw [h]; exact hd))
      rw [getD_set_ne false (fun h => e h.symm)] at hl
      rw [oth k hne]
      exact hsub _ _ _ _ _ (fun k hk => (hX k hk).imp id (fun h => by omega)) (hgrow _ _ _ _ _ (H.has j o' k hj hjo hl hk) hb)
  · by_cases e : j = i
    · subst e
      rw [ho] at hjo; cases hjo
      rw [hd] at hk; cases hk
      rw [own]
      exact ⟨_, (hfr hkA).1, H.below.size, (hfr hkA).2⟩
    · have hne : k ≠ d := fun h => e (one hj him hjo ho hk (by rw [h]; exact hd))
      rw [getD_set_ne false (fun h => e h.symm)] at hl
      obtain ⟨b, h1, h2, h3⟩ := H.new j o' k hj hjo hl hk hkA
      rw [oth k hne]
      exact ⟨b, h1, h2, Nat.lt_of_lt_of_le h3 hb.size⟩
  · by_cases e : j = i
    · subst e
      rw [ho] at hjo; cases hjo
      rw [hd] at hk; cases hk
      have hne' : k' ≠ d := fun h => hne h.symm
      have e' : j' ≠ j := fun h => by
        subst h
        rw [ho] at hjo'; cases hjo'
        rw [hd] at hk'; cases hk'
        exact hne rfl
      rw [getD_set_ne false (fun h => e' h.symm)] at hl'
      obtain ⟨b', hb', -, hlt'⟩ := H.new j' p' k' hj' hjo' hl' hk' hkA'
      rw [own, oth k' hne']
      exact (hfr hkA).1.ne hb' (by omega)
    · by_cases e' : j' = i
      · subst e'
        rw [ho] at hjo'; cases hjo'
        rw [hd] at hk'; cases hk'
        rw [getD_set_ne false (fun h => e h.symm)] at hl
        obtain ⟨b', hb', -, hlt'⟩ := H.new j p k hj hjo hl hk hkA
        rw [own, oth k hne]
        exact hb'.ne (hfr hkA').1 (by omega)
      · rw [getD_set_ne false (fun h => e h.symm)] at hl
        rw [getD_set_ne false (fun h => e' h.symm)] at hl'
        have h1 : k ≠ d := fun h => e (one hj him hjo ho hk (by rw [h]; exact hd))
        have h2 : k' ≠ d := fun h => e' (one hj' him hjo' ho hk' (by rw [h]; exact hd))
        rw [oth k h1, oth k' h2]
        exact H.apart j j' p p' k k' hj hj' hjo hjo' hl hl' hk hk' hkA hkA' hne
theorem endListed_set {m k : Nat} : (endListed m (k + 1)).setIfInBounds m true = endListed (m + 1) k := by
  unfold endListed
  rw [List.setIfInBounds_toArray]
  congr 1
  rw [List.set_append_right _ _ (by simp), List.length_replicate, Nat.sub_self, List.replicate_succ, List.set_cons_zero, List.replicate_succ', List.append_assoc]
  rfl
theorem wants {o : Oper} {t : Array Value} (hg : o.guard = none) : Region.wanted o (yielded ops t) = true := by unfold Region.wanted; rw [hg]
theorem heldL_any {jl dj : Nat} {oj om : Oper} {S : (Nat → Value) → World → World → Prop} (hng : (ops.toList.take m).all (·.guard.isNone) = true) (hp : partR m n (ops.extract 0 m) = true) (hp1 : restL m jl ops = true) (hn : n = a0.tmps.size) (hms : m < ops.size) (hsub : ∀ d v w X X', (∀ k, X' k → X k) → Pk d v w X → Pk d v w X') (hgrow : ∀ d v w w' X, Pk d v w X → Below w.heap.size w w' → Pk d v w' (fun k => X k ∨ w.heap.size ≤ k)) (hstep : ∀ o ∈ ops.toList.take m, StepB A P m ops Pk a0 w0 o)
    (hjl : jl < m) (hoj : ops[jl]? = some oj) (hdj : oj.dst = some dj) (hdjA : dj ∉ A) (hom : ops[m]? = some om) (hdm : om.dst = none) (hgm : om.guard = none)
    (hpure : ∀ (r : Operand → Value) (w : World) (X : Nat → Prop), (∀ d, waitsOn ops oj d = true → Pk d (r (.tmp d)) w X) → ∃ v, Pk dj v w X ∧ ∀ w2, (execOp r oj).run P w2 = .ok (.value v) w2)
    (hst : ∀ (f : Nat → Value) (w : World) (X : Nat → Prop), EndF A m ops Pk w0 f w X → ∀ r : Operand → Value, (∀ d, d ≠ dj → r (.tmp d) = Act.eval ⟨fill a0.tmps f (dstsTo m ops), a0.defers⟩ (.tmp d)) → ∃ w', (execOp r om).run P w = .ok .skip w' ∧ S f w w')
    (hend : ∀ (f : Nat → Value) (w w' : World) (fuel : Nat) (X : Nat → Prop), ops.size - (m + 1) ≤ fuel → EndF A m ops Pk w0 f w X → S f w w' → wpAny P .any ops Q fuel (endListed (m + 1) (ops.size - (m + 1))) ⟨fill a0.tmps f (dstsTo m ops), a0.defers⟩ w') :
    ∀ (fuel : Nat) (listed : Array Bool) (a : Act) (w : World), leftTo m listed + (ops.size - m) ≤ fuel → HeldB A m ops Pk a0 w0 listed a w → wpAny P .any ops Q fuel listed a w := by
  have hel : endListed m (ops.size - m) = endListed m ((ops.size - (m + 1)) + 1) := by congr 1; omega
  obtain ⟨hat, hedge⟩ := restL_at hp1 hom
  have fin : ∀ (fuel : Nat) (listed : Array Bool) (a : Act) (w : World), ops.size - m ≤ fuel → (∀ i, i < m → listed.getD i true = true) → HeldB A m ops Pk a0 w0 listed a w → wpAny P .any ops Q fuel listed a w := fun fuel listed a w hfu hall H => by
    obtain ⟨hl1, ha1, hE⟩ := H.whole (Nat.le_of_lt hms) hall
    obtain ⟨fuel, rfl⟩ : ∃ g, fuel = g + 1 := ⟨fuel - 1, by omega⟩
    have hll : ∀ i, i < m → listed.getD i false = true := fun i hi => getD_false H.lsize (by omega) (hall i hi)
    have hmem : m ∈ Region.ready .any ops listed := mem_ready.2 ⟨H.rest m (Nat.le_refl _) hms, om, hom, fun e he hb => hll _ (hedge e he hb)⟩
    refine ⟨fun hr => (by rw [hr] at hmem; cases hmem), fun i hi => ?_⟩
    obtain ⟨hu, o, ho, hwait⟩ := mem_ready.1 hi
    have hlt : i < ops.size := (Array.getElem?_eq_some_iff.1 ho).1
    have him : i = m := by
      rcases Nat.lt_trichotomy i m with h | h | h
      · rw [hall i h] at hu; cases hu
      · exact h
      · exfalso
        obtain ⟨e, he, hb, hre⟩ := restL_past hp1 h ho (Nat.le_refl m)
        have h4 : listed.getD m false = true := reach_listed H.closed 6 e.on m (hwait e he hb) hre
        have h5 := H.rest m (Nat.le_refl _) hms
        have hls : m < listed.size := by rw [H.lsize]; exact hms
        simp [hls] at h4 h5
        rw [h4] at h5; cases h5
    subst him
    rw [ho] at hom; cases hom
    obtain ⟨w', hrun, hS⟩ := hst _ w _ hE a.eval (fun d _ => congrArg (fun b : Act => b.eval (.tmp d)) ha1)
    unfold wpOp
    simp only [ho]
    rw [if_pos (wants hgm)]
    refine .inl (wp_skip hrun hdm ?_)
    have hg := hend _ w w' fuel _ (by omega) hE hS
    rw [← ha1] at hg
    rw [hl1, hel, endListed_set]
    exact hg
  have rdy : ∀ (listed : Array Bool), listed.size = ops.size → Region.ready .any ops listed = [] → ∀ i, i < m → listed.getD i true = true := fun listed hs hr i => by
    induction i using Nat.strongRecOn with
    | _ i ih =>
      intro him
      have hi : i < ops.size := by omega
      by_cases hu : listed.getD i true = true
      · exact hu
      · exfalso
        rw [Bool.not_eq_true] at hu
        have hoi : ops[i]? = some ops[i] := Array.getElem?_eq_getElem hi
        have hmem : i ∈ Region.ready .any ops listed := mem_ready.2 ⟨hu, _, hoi, fun e he hbd => by
          have hlt := (partR_op hp him ((firstM him (Nat.le_of_lt hms)).trans hoi)).1 e he hbd
          exact getD_false hs (by omega) (ih e.on hlt (by omega))⟩
        rw [hr] at hmem
        cases hmem
  intro fuel
  induction fuel with
  | zero => intro listed a w hf H; omega
  | succ fuel ih =>
    intro listed a w hf H
    by_cases hall : ∀ i, i < m → listed.getD i true = true
    · exact fin (fuel + 1) listed a w (by omega) hall H
    refine ⟨fun hr => absurd (rdy listed H.lsize hr) hall, fun i hi => ?_⟩
    obtain ⟨hu, o, ho, hwait⟩ := mem_ready.1 hi
    have hlt : i < ops.size := (Array.getElem?_eq_some_iff.1 ho).1
    by_cases him : i < m
    · obtain ⟨hbefore, ⟨d, hd, hdn⟩, hgd⟩ := partR_op hp him ((firstM him (Nat.le_of_lt hms)).trans ho)
      have hgn : o.guard = none := by
        have := List.all_eq_true.1 hng o (List.mem_iff_getElem?.2 ⟨i, by rw [List.getElem?_take_of_lt him, Array.getElem?_toList]; exact ho⟩)
        simpa using this
      have hso := hstep o (List.mem_iff_getElem?.2 ⟨i, by rw [List.getElem?_take_of_lt him, Array.getElem?_toList]; exact ho⟩) a.eval w (blocksOf A m ops listed a) (fun v => rfl) (fun f => rfl) (fun k hk => by
          have := H.same k fun i o hi ho _ hd => hk (mem_dstsTo.2 ⟨i, o, hi, ho, hd⟩)
          simp [Act.eval, this]) (fun k hk => by
          obtain ⟨i, o, d, him, hi, hl, hd, hdA, hb⟩ := hk
          obtain ⟨b, h1, h2, h3⟩ := H.new i o d him hi hl hd hdA
          have : b = k := by
            unfold IsBlock at h1 hb
            rw [h1] at hb; cases hb; rfl
          subst this
          exact ⟨h2, h3⟩) (fun k hk => by
          unfold waitsOn at hk
          rw [Array.any_eq_true] at hk
          obtain ⟨j, hj, hb⟩ := hk
          rw [Bool.and_eq_true] at hb
          have hmem : o.after[j] ∈ o.after := Array.getElem_mem hj
          have hdst := eq_of_beq hb.2
          obtain ⟨o', ho', hd'⟩ := Option.bind_eq_some_iff.1 hdst
          exact H.has _ o' k (by have := hbefore _ hmem hb.1; omega) ho' (hwait _ hmem hb.1) hd') H.below
      have hl := leftTo_set him hu
      unfold wpOp
      simp only [ho]
      rw [if_pos (wants hgn)]
      refine .inl (OpDoes.wp hso fun v w' hv => ih (listed.setIfInBounds i true) _ _ (by omega) ?_)
      rw [hd]
      exact H.next hp hn (Nat.le_of_lt hms) hsub hgrow him hu ho hwait hd (hv.1 d hd).1 (hv.1 d hd).2 hv.2
    · have hcl : ∀ j, j < m → j ≠ jl ∨ m < i → listed.getD j false = true := fun j hj hc => by
        by_cases h : i = m
        · subst h
          rw [ho] at hom; cases hom
          rcases hc with hc | hc
          · obtain ⟨e, he, hb, hre⟩ := hat j hj hc
            exact reach_listed H.closed 6 e.on j (hwait e he hb) hre
          · omega
        · obtain ⟨e, he, hb, hre⟩ := restL_past hp1 (show m < i by omega) ho (Nat.le_of_lt hj)
          exact reach_listed H.closed 6 e.on j (hwait e he hb) hre
      have hup : ∀ j, j < m → listed.getD j false = true → listed.getD j true = true := fun j hj h => by
        have hjs : j < listed.size := by rw [H.lsize]; omega
        simp [hjs] at h ⊢; exact h
      have hjlu : listed.getD jl true = false := by
        rw [← Bool.not_eq_true]
        intro h
        refine hall fun j hj => ?_
        by_cases e : j = jl
        · subst e; exact h
        · exact hup j hj (hcl j hj (.inl e))
      have him' : i = m := by
        rcases Nat.lt_or_ge m i with h | h
        · exfalso
          have := hup jl hjl (hcl jl hjl (.inr h))
          rw [this] at hjlu; cases hjlu
        · omega
      subst him'
      rw [ho] at hom; cases hom
      have hjs : jl < listed.size := by rw [H.lsize]; omega
      have hgj : oj.guard = none := by
        have := List.all_eq_true.1 hng oj (List.mem_iff_getElem?.2 ⟨jl, by rw [List.getElem?_take_of_lt hjl, Array.getElem?_toList]; exact hoj⟩)
        simpa using this
      have hbefore := (partR_op hp hjl ((firstM hjl (Nat.le_of_lt hms)).trans hoj)).1
      have hjwait : ∀ e ∈ oj.after, Region.binds .any e = true → listed.getD e.on false = true := fun e he hbd => by
        have := hbefore e he hbd
        exact hcl e.on (by omega) (.inl (by omega))
      obtain ⟨v, hv, hvr⟩ := hpure a.eval w (blocksOf A i ops listed a) (fun k hk => by
        unfold waitsOn at hk
        rw [Array.any_eq_true] at hk
        obtain ⟨j, hj, hb⟩ := hk
        rw [Bool.and_eq_true] at hb
        have hmem : oj.after[j] ∈ oj.after := Array.getElem_mem hj
        have hdst := eq_of_beq hb.2
        obtain ⟨o', ho', hd'⟩ := Option.bind_eq_some_iff.1 hdst
        exact H.has _ o' k (by have := hbefore _ hmem hb.1; omega) ho' (hjwait _ hmem hb.1) hd')
      have H' := H.next hp hn (Nat.le_of_lt hms) hsub hgrow hjl hjlu hoj hjwait hdj (hsub _ _ _ _ _ (fun k h => h.elim id fun h => absurd h.1 hdjA) hv) (fun h => absurd h hdjA) (Below.refl _ _)
      have hall' : ∀ j, j < i → (listed.setIfInBounds jl true).getD j true = true := fun j hj => by
        by_cases e : j = jl
        · subst e; simp [hjs]
        · rw [getD_set_ne true (fun h => e h.symm)]; exact hup j hj (hcl j hj (.inl e))
      obtain ⟨hl1, ha1, hE⟩ := H'.whole (Nat.le_of_lt hms) hall'
      have oth : ∀ k, k ≠ dj → Act.eval (a.put (some dj) v) (.tmp k) = a.eval (.tmp k) := fun k hne => by
        simp only [Act.eval, Act.put, Array.getD_eq_getD_getElem?]
        rw [Array.getElem?_setIfInBounds_ne (fun h => hne h.symm)]
      obtain ⟨w', hrun, hS⟩ := hst _ w _ hE a.eval (fun d hne => (oth d hne).symm.trans (congrArg (fun b : Act => b.eval (.tmp d)) ha1))
      unfold wpOp
      simp only [ho]
      rw [if_pos (wants hgm)]
      refine .inl (wp_skip hrun hdm ?_)
      have hl := leftTo_pos hjl hjlu
      obtain ⟨fuel, rfl⟩ : ∃ g, fuel = g + 1 := ⟨fuel - 1, by omega⟩
      have hne : i ≠ jl := by omega
      have hcl2 : ∀ (k : Nat) (p : Oper), ops[k]? = some p → (listed.setIfInBounds i true).getD k false = true → ∀ e ∈ p.after, Region.binds .any e = true → (listed.setIfInBounds i true).getD e.on false = true := fun k p hk hl e he hb => by
        by_cases h : k = i
        · subst h
          rw [ho] at hk; cases hk
          exact getD_set_true (hwait e he hb)
        · rw [getD_set_ne false (fun h' => h h'.symm)] at hl
          exact getD_set_true (H.closed k p hk hl e he hb)
      have hju2 : (listed.setIfInBounds i true).getD jl true = false := by rw [getD_set_ne true hne]; exact hjlu
      have hmem : jl ∈ Region.ready .any ops (listed.setIfInBounds i true) := mem_ready.2 ⟨hju2, oj, hoj, fun e he hb => getD_set_true (hjwait e he hb)⟩
      refine ⟨fun hr => (by rw [hr] at hmem; cases hmem), fun i2 hi2 => ?_⟩
      obtain ⟨hu2, o2, ho2, hwait2⟩ := mem_ready.1 hi2
      have hi2e : i2 = jl := by
        rcases Nat.lt_trichotomy i2 i with h | h | h
        · by_cases e : i2 = jl
          · exact e
          · exfalso
            rw [getD_set_ne true (by omega), hup i2 h (hcl i2 h (.inl e))] at hu2
            cases hu2
        · subst h
          have his : i2 < listed.size := by rw [H.lsize]; exact hlt
          simp [his] at hu2
        · exfalso
          obtain ⟨e, he, hb, hre⟩ := restL_past hp1 h ho2 (Nat.le_of_lt hjl)
          have h4 : (listed.setIfInBounds i true).getD jl false = true := reach_listed hcl2 6 e.on jl (hwait2 e he hb) hre
          rw [getD_set_ne false hne] at h4
          have := hup jl hjl h4
          rw [this] at hjlu; cases hjlu
      subst hi2e
      rw [ho2] at hoj; cases hoj
      unfold wpOp
      simp only [ho2]
      rw [if_pos (wants hgj)]
      refine .inl (wp_val (hvr w') ?_)
      rw [hdj]
      have e1 : (listed.setIfInBounds i true).setIfInBounds i2 true = (listed.setIfInBounds i2 true).setIfInBounds i true := Array.setIfInBounds_comm _ _ hne
      rw [e1, hl1, hel, endListed_set]
      have hg := hend _ w w' fuel _ (by omega) hE hS
      rw [← ha1] at hg
      exact hg
end
theorem eval_fill {t : Array Value} {f : Nat → Value} {l : List Nat} {df : _} {d : Nat} (hd : d ∈ l) (hlt : d < t.size) : Act.eval ⟨fill t f l, df⟩ (.tmp d) = f d := by
  show (fill t f l).getD d undef = f d
  rw [Array.getD_eq_getD_getElem?, fill_get _ _ _ _ hlt, if_pos hd]
  rfl
theorem wpAny_val {P : Program} {ops : Array Oper} {Q : Exit → Act → World → Prop} {a : Act} {w w' : World} {fuel i d : Nat} {listed : Array Bool} {o : Oper} {v : Value} (hr : Region.ready .any ops listed = [i]) (ho : ops[i]? = some o) (hg : o.guard = none) (hd : o.dst = some d)
    (h : (execOp a.eval o).run P w = .ok (.value v) w') (hK : wpAny P .any ops Q fuel (listed.setIfInBounds i true) (a.put (some d) v) w') : wpAny P .any ops Q (fuel + 1) listed a w := wpAny_next hr ho hg (wp_val h (by rw [hd]; exact hK))
/-- the law for a region. -/
theorem wp_region_late {P : Program} {id : Nat} {Q : Exit → Act → World → Prop} {a : Act} {w : World} {l : List Oper} (A : List Nat) (Pk : Nat → Value → World → (Nat → Prop) → Prop) (S : (Nat → Value) → World → World → Prop) (m n jl dj : Nat) (oj om : Oper) (hm : P.follows .mixedOrders = true) (hng : (l.take m).all (·.guard.isNone) = true) (hp : partR m n (l.toArray.extract 0 m) = true) (hp1 : restL m jl l.toArray = true) (hn : n = a.tmps.size) (hms : decide (m < l.length) = true)
    (hsub : ∀ d v w X X', (∀ k, X' k → X k) → Pk d v w X → Pk d v w X') (hgrow : ∀ d v w w' X, Pk d v w X → Below w.heap.size w w' → Pk d v w' (fun k => X k ∨ w.heap.size ≤ k)) (hjl : decide (jl < m ∧ dj ∉ A) = true) (hoj : l[jl]? = some oj) (hdj : oj.dst = some dj) (hom : l[m]? = some om) (hdm : om.dst = none) (hgm : om.guard = none)
    (hstep : ∀ o ∈ l.take m, StepB A P m l.toArray Pk a w.drew o)
    (hpure : ∀ (r : Operand → Value) (w : World) (X : Nat → Prop), (∀ d, waitsOn l.toArray oj d = true → Pk d (r (.tmp d)) w X) → ∃ v, Pk dj v w X ∧ ∀ w2, (execOp r oj).run P w2 = .ok (.value v) w2)
    (hst : ∀ (f : Nat → Value) (w' : World) (X : Nat → Prop), EndF A m l.toArray Pk w.drew f w' X → ∀ r : Operand → Value, (∀ d, d ≠ dj → r (.tmp d) = Act.eval ⟨fill a.tmps f (dstsTo m l.toArray), a.defers⟩ (.tmp d)) → ∃ w2, (execOp r om).run P w' = .ok .skip w2 ∧ S f w' w2)
    (hend : ∀ (f : Nat → Value) (w' w2 : World) (fuel : Nat) (X : Nat → Prop), l.length - (m + 1) ≤ fuel → EndF A m l.toArray Pk w.drew f w' X → S f w' w2 → wpAny P .any l.toArray Q fuel (endListed (m + 1) (l.length - (m + 1))) ⟨fill a.tmps f (dstsTo m l.toArray), a.defers⟩ w2) : (Code.region id l.toArray true).wp P Q a w := by
  have hms' : m < l.length := of_decide_eq_true hms
  have hj := of_decide_eq_true hjl
  refine wp_region_any hm (heldL_any (w0 := w.drew) (A := A) (S := S) (jl := jl) (dj := dj) (oj := oj) (om := om) (by simpa using hng) hp hp1 hn (by simpa using hms') hsub hgrow (by simpa using hstep) hj.1 (by simpa using hoj) hdj hj.2 (by simpa using hom) hdm hgm hpure hst (by simpa using hend) _ _ _ _ ?_ ?_)
  · unfold leftTo
    have := List.countP_le_length (p := fun i => !(Array.replicate l.toArray.size false).getD i true) (l := List.range m)
    rw [List.length_range] at this
    simp only [List.size_toArray] at this ⊢
    omega
  · refine ⟨rfl, rfl, by simp, fun i _ hi => ?_, fun i o hi hl => ?_, Below.refl _ _, fun _ _ => rfl, fun i o d _ hi hl => ?_, fun i o d _ hi hl => ?_, fun i j o o' d d' _ _ _ _ hl => ?_⟩
    · simp only [Array.getD_eq_getD_getElem?, Array.getElem?_replicate]
      rw [if_pos hi]; rfl
    · exfalso
      simp only [Array.getD_eq_getD_getElem?, Array.getElem?_replicate] at hl
      split at hl <;> simp at hl
    · exfalso
      simp only [Array.getD_eq_getD_getElem?, Array.getElem?_replicate] at hl
      split at hl <;> simp at hl
    · exfalso
      simp only [Array.getD_eq_getD_getElem?, Array.getElem?_replicate] at hl
      split at hl <;> simp at hl
    · exfalso
      simp only [Array.getD_eq_getD_getElem?, Array.getElem?_replicate] at hl
      split at hl <;> simp at hl
end Go.Proofs.Yteebbffecaeciaa
