/- Texts of this claim laid into one: URow, VBlocks. -/
import Derived.Test.YteebbffecaeciaaM47
import Derived.Test.YteebbffecaeciaaM12
/- Rows of terms that a walk builds. -/
namespace Go.Proofs.Yteebbffecaeciaa
open Go.RowKit

theorem run_rowK {w : World} {r : Operand → Value} {n : Nat} {parts : Array (Nat × Operand)} (L : List (TT × TA)) (hn : n = L.length) (h0 : 0 < n) (hs : n ≤ 1000) (hp : (parts.map fun (i, x) => (i, r x)).toList = ((L.map fun x => x.1.val x.2).zipIdx 0).map fun x => (x.2, x.1)) :
    ∃ w2, (∀ o : Oper, o.op = .buildSlice 45 n parts → (execOp r o).run Try.prog w = .ok (.value (.slice (some ⟨w.heap.size, 0, none⟩) n n)) w2) ∧ Below w.heap.size w w2 ∧ w.heap.size < w2.heap.size ∧ ∀ i (h : i < L.length), TCells w2 w.heap.size (i * 15) L[i].1 L[i].2 := by
  have hk : ∀ v ∈ (L.map fun x => x.1.val x.2), v.cells.size = 15 := by
    intro v hv
    obtain ⟨x, _, rfl⟩ := List.mem_map.1 hv
    exact cellsOf_size _ _
  obtain ⟨w2, hw, hb, hlt, _, hc⟩ := table_new w 47 15 _ (by decide) hk
  refine ⟨w2, fun o ho => run_table (k := 15) _ ho Try.underlying45 (by kernel_rfl) (by kernel_rfl) hp (by rw [List.length_map, hn]) hk (by decide) h0 (by omega) hw, hb, hlt, fun i h => ?_⟩
  have := hc i (by rw [List.length_map]; exact h)
  rw [List.getElem_map] at this
  exact .of_range this
theorem trow_of {w : World} {b : Nat} {L : List (TT × TA)} (hc : ∀ i (h : i < L.length), TCells w b (i * 15) L[i].1 L[i].2) (hk : ∀ p ∈ L, TOk w p.1 p.2) : TRow w (L.map (·.1)) (some ⟨b, 0, none⟩) := by
  refine TRow.of b _ 0 fun i hi => ?_
  have hi' : i < L.length := by simpa using hi
  rw [List.getElem_map, Nat.zero_add]
  exact ⟨L[i].2, hc i hi', hk _ (List.getElem_mem hi')⟩
end Go.Proofs.Yteebbffecaeciaa
/- A region that draws its order and makes new blocks, which it writes behind all else: what the other temporaries hold reads apart from these blocks. -/
namespace Go.Proofs.Yteebbffecaeciaa
open Go.RowKit

section
variable {P : Program} {ops : Array Oper} {Q : Exit → Act → World → Prop} {m n : Nat} {Pk : Nat → Value → World → (Nat → Prop) → Prop} {a0 : Act} {w0 : World} {A : List Nat}
/-- the new blocks that have come up. -/
def blocksOf (A : List Nat) (m : Nat) (ops : Array Oper) (listed : Array Bool) (a : Act) (k : Nat) : Prop := ∃ (i : Nat) (o : Oper) (d : Nat), i < m ∧ ops[i]? = some o ∧ listed.getD i false = true ∧ o.dst = some d ∧ d ∈ A ∧ IsBlock (a.eval (.tmp d)) k
structure HeldB (A : List Nat) (m : Nat) (ops : Array Oper) (Pk : Nat → Value → World → (Nat → Prop) → Prop) (a0 : Act) (w0 : World) (listed : Array Bool) (a : Act) (w : World) : Prop where
  size : a.tmps.size = a0.tmps.size
  defers : a.defers = a0.defers
  lsize : listed.size = ops.size
  rest : ∀ i, m ≤ i → i < ops.size → listed.getD i true = false
  closed : ∀ (i : Nat) (o : Oper), ops[i]? = some o → listed.getD i false = true → ∀ e ∈ o.after, Region.binds .any e = true → listed.getD e.on false = true
  below : Below w0.heap.size w0 w
  same : ∀ d, (∀ (i : Nat) (o : Oper), i < m → ops[i]? = some o → listed.getD i false = true → o.dst ≠ some d) → a.tmps[d]? = a0.tmps[d]?
  has : ∀ (i : Nat) (o : Oper) (d : Nat), i < m → ops[i]? = some o → listed.getD i false = true → o.dst = some d → Pk d (a.eval (.tmp d)) w (blocksOf A m ops listed a)
  new : ∀ (i : Nat) (o : Oper) (d : Nat), i < m → ops[i]? = some o → listed.getD i false = true → o.dst = some d → d ∈ A → ∃ b, IsBlock (a.eval (.tmp d)) b ∧ w0.heap.size ≤ b ∧ b < w.heap.size
  apart : ∀ (i j : Nat) (o o' : Oper) (d d' : Nat), i < m → j < m → ops[i]? = some o → ops[j]? = some o' → listed.getD i false = true → listed.getD j false = true → o.dst = some d → o'.dst = some d' → d ∈ A → d' ∈ A → d ≠ d' → a.eval (.tmp d) ≠ a.eval (.tmp d')
def StepB (A : List Nat) (P : Program) (m : Nat) (ops : Array Oper) (Pk : Nat → Value → World → (Nat → Prop) → Prop) (a0 : Act) (w0 : World) (o : Oper) : Prop :=
  ∀ (r : Operand → Value) (w : World) (X : Nat → Prop), (∀ v, r (.const v) = v) → (∀ f, r (.func f) = .func (.func f) #[] #[]) → (∀ d, d ∉ dstsTo m ops → r (.tmp d) = a0.eval (.tmp d)) → (∀ k, X k → w0.heap.size ≤ k ∧ k < w.heap.size) → (∀ d, waitsOn ops o d = true → Pk d (r (.tmp d)) w X) → Below w0.heap.size w0 w →
    OpDoes P o r w fun v w' => (∀ d, o.dst = some d → Pk d v w' (fun k => X k ∨ (d ∈ A ∧ k = w.heap.size)) ∧ (d ∈ A → IsBlock v w.heap.size ∧ w.heap.size < w'.heap.size)) ∧ Below w.heap.size w w'
theorem heldB_any (hng : (ops.toList.take m).all (·.guard.isNone) = true) (hp : partB m n ops = true) (hn : n = a0.tmps.size) (hms : m ≤ ops.size) (hsub : ∀ d v w X X', (∀ k, X' k → X k) → Pk d v w X → Pk d v w X') (hgrow : ∀ d v w w' X, Pk d v w X → Below w.heap.size w w' → Pk d v w' (fun k => X k ∨ w.heap.size ≤ k)) (hstep : ∀ o ∈ ops.toList.take m, StepB A P m ops Pk a0 w0 o)
    (hend : ∀ (f : Nat → Value) (w : World) (fuel : Nat) (X : Nat → Prop), ops.size - m ≤ fuel → (∀ d ∈ dstsTo m ops, Pk d (f d) w X) → (∀ d ∈ A, d ∈ dstsTo m ops → ∃ b, IsBlock (f d) b ∧ w0.heap.size ≤ b ∧ b < w.heap.size ∧ X b) → (∀ d ∈ A, ∀ d' ∈ A, d ∈ dstsTo m ops → d' ∈ dstsTo m ops → d ≠ d' → f d ≠ f d') → Below w0.heap.size w0 w → wpAny P .any ops Q fuel (endListed m (ops.size - m)) ⟨fill a0.tmps f (dstsTo m ops), a0.defers⟩ w) :
    ∀ (fuel : Nat) (listed : Array Bool) (a : Act) (w : World), leftTo m listed + (ops.size - m) ≤ fuel → HeldB A m ops Pk a0 w0 listed a w → wpAny P .any ops Q fuel listed a w := by
  have fin : ∀ (fuel : Nat) (listed : Array Bool) (a : Act) (w : World), ops.size - m ≤ fuel → (∀ i, i < m → listed.getD i true = true) → HeldB A m ops Pk a0 w0 listed a w → wpAny P .any ops Q fuel listed a w := fun fuel listed a w hfu hall H => by
    have hl : ∀ i, i < m → listed.getD i false = true := fun i hi => getD_false H.lsize (by omega) (hall i hi)
    have hle : listed = endListed m (ops.size - m) := by
      refine Array.ext_getElem? fun k => ?_
      have hls := H.lsize
      by_cases hk : k < ops.size
      · have e1 : listed[k]? = some (listed.getD k true) := by simp [show k < listed.size by omega]
        rw [e1]
        unfold endListed
        rw [List.getElem?_toArray]
        by_cases hkm : k < m
        · rw [hall k hkm, List.getElem?_append_left (by simpa using hkm), List.getElem?_replicate, if_pos hkm]
        · rw [H.rest k (by omega) hk, List.getElem?_append_right (by simp; omega), List.getElem?_replicate, List.length_replicate, if_pos (by omega)]
      · rw [Array.getElem?_eq_none (by omega)]
        unfold endListed
        rw [List.getElem?_toArray, List.getElem?_eq_none (by simp; omega)]
    have ha : a = ⟨fill a0.tmps (fun d => a.eval (.tmp d)) (dstsTo m ops), a0.defers⟩ := by
      obtain ⟨tm, df⟩ := a
      have e1 : tm = fill a0.tmps (fun d => Act.eval ⟨tm, df⟩ (.tmp d)) (dstsTo m ops) := by
        refine Array.ext_getElem? fun k => ?_
        by_cases hk : k < a0.tmps.size
        · rw [fill_get _ _ _ _ hk]
          have hk' : k < tm.size := by have := H.size; simp only at this; omega
          by_cases hm : k ∈ dstsTo m ops
          · rw [if_pos hm]; simp [Act.eval, hk']
          · rw [if_neg hm]
            exact H.same k fun i o hi ho _ hd => hm (mem_dstsTo.2 ⟨i, o, hi, ho, hd⟩)
        · have hk' : ¬ k < tm.size := by have := H.size; simp only at this; omega
          rw [Array.getElem?_eq_none (by omega), Array.getElem?_eq_none (by rw [fill_size]; omega)]
      have e2 : df = a0.defers := H.defers
      rw [← e2, ← e1]
    rw [hle, ha]
    exact hend _ _ _ _ hfu (fun d hd => by
      obtain ⟨i, o, him, hi, ho⟩ := mem_dstsTo.1 hd
      exact H.has i o d him hi (hl i him) ho) (fun d hdA hd => by
      obtain ⟨i, o, him, hi, ho⟩ := mem_dstsTo.1 hd
      obtain ⟨b, h1, h2, h3⟩ := H.new i o d him hi (hl i him) ho hdA
      exact ⟨b, h1, h2, h3, i, o, d, him, hi, hl i him, ho, hdA, h1⟩) (fun d hdA d' hdA' hd hd' hne => by
      obtain ⟨i, o, him, hi, ho⟩ := mem_dstsTo.1 hd
      obtain ⟨j, o', hjm, hj, ho'⟩ := mem_dstsTo.1 hd'
      exact H.apart i j o o' d d' him hjm hi hj (hl i him) (hl j hjm) ho ho' hdA hdA' hne) H.below
  have rdy : ∀ (listed : Array Bool), listed.size = ops.size → Region.ready .any ops listed = [] → ∀ i, i < m → listed.getD i true = true := fun listed hs hr i => by
    induction i using Nat.strongRecOn with
    | _ i ih =>
      intro him
      have hi := part_there hp him
      by_cases hu : listed.getD i true = true
      · exact hu
      · exfalso
        rw [Bool.not_eq_true] at hu
        have hoi : ops[i]? = some ops[i] := Array.getElem?_eq_getElem hi
        have hmem : i ∈ Region.ready .any ops listed := mem_ready.2 ⟨hu, _, hoi, fun e he _ => by
          have hlt := (part_op hp him hoi).1 e he
          exact getD_false hs (by omega) (ih e.on hlt (by omega))⟩
        rw [hr] at hmem
        cases hmem
  intro fuel
  induction fuel with
  | zero =>
    intro listed a w hf H
    refine fin 0 listed a w (by omega) (fun i hi => ?_) H
    by_cases hu : listed.getD i true = true
    · exact hu
    · rw [Bool.not_eq_true] at hu
      have := leftTo_pos hi hu
      omega
  | succ fuel ih =>
    intro listed a w hf H
    by_cases hall : ∀ i, i < m → listed.getD i true = true
    · exact fin (fuel + 1) listed a w (by omega) hall H
    refine ⟨fun hr => absurd (rdy listed H.lsize hr) hall, fun i hi => ?_⟩
    obtain ⟨hu, o, ho, hwait⟩ := mem_ready.1 hi
    have hlt : i < ops.size := (Array.getElem?_eq_some_iff.1 ho).1
    have him : i < m := by
      rcases Nat.lt_or_ge i m with h | h
      · exact h
      · exfalso
        refine hall fun j hj => ?_
        obtain ⟨e, he, hb, hre⟩ := part_rest hp (by omega : ¬ i < m) ho hj
        have h2 := hwait e he hb
        have hjs : j < listed.size := by rw [H.lsize]; exact part_there hp hj
        have h4 : listed.getD j false = true := reach_listed H.closed 6 e.on j h2 hre
        simp [hjs] at h4 ⊢; exact h4
    obtain ⟨hbefore, ⟨d, hd, hdn⟩, hgd⟩ := part_op hp him ho
    have hso := hstep o (List.mem_iff_getElem?.2 ⟨i, by rw [List.getElem?_take_of_lt him, Array.getElem?_toList]; exact ho⟩) a.eval w (blocksOf A m ops listed a) (fun v => rfl) (fun f => rfl) (fun k hk => by
        have := H.same k fun i o hi ho _ hd => hk (mem_dstsTo.2 ⟨i, o, hi, ho, hd⟩)
        simp [Act.eval, this]) (fun k hk => by
        obtain ⟨i, o, d, him, hi, hl, hd, hdA, hb⟩ := hk
        obtain ⟨b, h1, h2, h3⟩ := H.new i o d him hi hl hd hdA
        have : b = k := by
          unfold IsBlock at h1 hb
          rw [h1] at hb; cases hb; rfl
        subst this
        exact ⟨h2, h3⟩) (fun k hk => by
        unfold waitsOn at hk
        rw [Array.any_eq_true] at hk
        obtain ⟨j, hj, hb⟩ := hk
        rw [Bool.and_eq_true] at hb
        have hmem : o.after[j] ∈ o.after := Array.getElem_mem hj
        have hdst := eq_of_beq hb.2
        obtain ⟨o', ho', hd'⟩ := Option.bind_eq_some_iff.1 hdst
        exact H.has _ o' k (by have := hbefore _ hmem; omega) ho' (hwait _ hmem hb.1) hd') H.below
    have hl := leftTo_set him hu
    have hil : i < listed.size := by rw [H.lsize]; exact hlt
    have hds : d < a.tmps.size := by rw [H.size, ← hn]; exact hdn
    have next : ∀ (v : Value) (w' : World), Pk d v w' (fun k => blocksOf A m ops listed a k ∨ (d ∈ A ∧ k = w.heap.size)) → (d ∈ A → IsBlock v w.heap.size ∧ w.heap.size < w'.heap.size) → Below w.heap.size w w' → wpAny P .any ops Q fuel (listed.setIfInBounds i true) (a.put o.dst v) w' := fun v w' hv hfr hb => by
      refine ih (listed.setIfInBounds i true) _ _ (by omega) ?_
      rw [hd]
      have own : Act.eval (a.put (some d) v) (.tmp d) = v := by simp [Act.eval, Act.put, hds]
      have oth : ∀ k, k ≠ d → Act.eval (a.put (some d) v) (.tmp k) = a.eval (.tmp k) := fun k hne => by
        simp only [Act.eval, Act.put, Array.getD_eq_getD_getElem?]
        rw [Array.getElem?_setIfInBounds_ne (fun h => hne h.symm)]
      have hX : ∀ k, blocksOf A m ops (listed.setIfInBounds i true) (a.put (some d) v) k → blocksOf A m ops listed a k ∨ (d ∈ A ∧ k = w.heap.size) := fun k hk => by
        obtain ⟨j, p, e, hj, hjo, hjl, hpe, heA, hb⟩ := hk
        by_cases h : j = i
        · subst h
          rw [ho] at hjo; cases hjo
          rw [hd] at hpe; cases hpe
          rw [own] at hb
          have h1 := (hfr heA).1
          unfold IsBlock at h1 hb
          rw [h1] at hb; cases hb
          exact .inr ⟨heA, rfl⟩
        · have hne : e ≠ d := fun h' => h (part_one hp hj him hjo ho hpe (by rw [h']; exact hd))
          rw [getD_set_ne false (fun h' => h h'.symm)] at hjl
          rw [oth e hne] at hb
          exact .inl ⟨j, p, e, hj, hjo, hjl, hpe, heA, hb⟩
      refine ⟨by simp [Act.put, H.size], H.defers, by simp [H.lsize], fun k hk hks => ?_, fun k p hk hl => ?_, H.below.trans (hb.mono H.below.size), fun k hk => ?_, fun j o' k hj hjo hl hk => ?_, fun j o' k hj hjo hl hk hkA => ?_, fun j j' p p' k k' hj hj' hjo hjo' hl hl' hk hk' hkA hkA' hne => ?_⟩
      · rw [getD_set_ne true (by omega)]; exact H.rest k hk hks
      · by_cases e : k = i
        · subst e
          rw [ho] at hk; cases hk
          exact fun e he hb => getD_set_true (hwait e he hb)
        · rw [getD_set_ne false (fun h => e h.symm)] at hl
          exact fun e he hb => getD_set_true (H.closed k p hk hl e he hb)
      · have hne : k ≠ d := fun e => hk i o him ho (getD_own hil) (by rw [e]; exact hd)
        simp only [Act.put]
        rw [Array.getElem?_setIfInBounds_ne (fun e => hne e.symm)]
        exact H.same k fun j o' hjm hj hl => hk j o' hjm hj (getD_set_true hl)
      · by_cases e : j = i
        · subst e
          rw [ho] at hjo; cases hjo
          rw [hd] at hk; cases hk
          rw [own]; exact hsub _ _ _ _ _ hX hv
        · have hne : k ≠ d := fun h => e (part_one hp hj him hjo ho hk (by rw [h]; exact hd))
          rw [getD_set_ne false (fun h => e h.symm)] at hl
          rw [oth k hne]
          exact hsub _ _ _ _ _ (fun k hk => (hX k hk).imp id (fun h => by omega)) (hgrow _ _ _ _ _ (H.has j o' k hj hjo hl hk) hb)
      · by_cases e : j = i
        · subst e
          rw [ho] at hjo; cases hjo
          rw [hd] at hk; cases hk
          rw [own]
          exact ⟨_, (hfr hkA).1, H.below.size, (hfr hkA).2⟩
        · have hne : k ≠ d := fun h => e (part_one hp hj him hjo ho hk (by rw [h]; exact hd))
          rw [getD_set_ne false (fun h => e h.symm)] at hl
          obtain ⟨b, h1, h2, h3⟩ := H.new j o' k hj hjo hl hk hkA
          rw [oth k hne]
          exact ⟨b, h1, h2, Nat.lt_of_lt_of_le h3 hb.size⟩
      · by_cases e : j = i
        · subst e
          rw [ho] at hjo; cases hjo
          rw [hd] at hk; cases hk
          have hne' : k' ≠ d := fun h => hne h.symm
          have e' : j' ≠ j := fun h => by
            subst h
            rw [ho] at hjo'; cases hjo'
            rw [hd] at hk'; cases hk'
            exact hne rfl
          rw [getD_set_ne false (fun h => e' h.symm)] at hl'
          obtain ⟨b', hb', -, hlt'⟩ := H.new j' p' k' hj' hjo' hl' hk' hkA'
          rw [own, oth k' hne']
          exact (hfr hkA).1.ne hb' (by omega)
        · by_cases e' : j' = i
          · subst e'
            rw [ho] at hjo'; cases hjo'
            rw [hd] at hk'; cases hk'
            rw [getD_set_ne false (fun h => e h.symm)] at hl
            obtain ⟨b', hb', -, hlt'⟩ := H.new j p k hj hjo hl hk hkA
            rw [own, oth k hne]
            exact hb'.ne (hfr hkA').1 (by omega)
          · rw [getD_set_ne false (fun h => e h.symm)] at hl
            rw [getD_set_ne false (fun h => e' h.symm)] at hl'
            have h1 : k ≠ d := fun h => e (part_one hp hj him hjo ho hk (by rw [h]; exact hd))
            have h2 : k' ≠ d := fun h => e' (part_one hp hj' him hjo' ho hk' (by rw [h]; exact hd))
            rw [oth k h1, oth k' h2]
            exact H.apart j j' p p' k k' hj hj' hjo hjo' hl hl' hk hk' hkA hkA' hne
    unfold wpOp
    simp only [ho]
    have hgn : o.guard = none := by
      have := List.all_eq_true.1 hng o (List.mem_iff_getElem?.2 ⟨i, by rw [List.getElem?_take_of_lt him, Array.getElem?_toList]; exact ho⟩)
      simpa using this
    have hw : Region.wanted o (yielded ops a.tmps) = true := by unfold Region.wanted; rw [hgn]
    rw [if_pos hw]
    exact .inl (OpDoes.wp hso fun v w' hv => next v w' (hv.1 d hd).1 (hv.1 d hd).2 hv.2)
end
/-- a region that draws its order, each of the first m operations by itself; the others behind them. -/
theorem wp_region_blocks {P : Program} {id : Nat} {Q : Exit → Act → World → Prop} {a : Act} {w : World} {l : List Oper} (A : List Nat) (Pk : Nat → Value → World → (Nat → Prop) → Prop) (m n : Nat) (hm : P.follows .mixedOrders = true) (hng : (l.take m).all (·.guard.isNone) = true) (hp : partB m n l.toArray = true) (hn : n = a.tmps.size) (hms : decide (m ≤ l.length) = true)
    (hsub : ∀ d v w X X', (∀ k, X' k → X k) → Pk d v w X → Pk d v w X') (hgrow : ∀ d v w w' X, Pk d v w X → Below w.heap.size w w' → Pk d v w' (fun k => X k ∨ w.heap.size ≤ k)) (hstep : ∀ o ∈ l.take m, StepB A P m l.toArray Pk a w.drew o)
    (hend : ∀ (f : Nat → Value) (w' : World) (fuel : Nat) (X : Nat → Prop), l.length - m ≤ fuel → (∀ d ∈ dstsTo m l.toArray, Pk d (f d) w' X) → (∀ d ∈ A, d ∈ dstsTo m l.toArray → ∃ b, IsBlock (f d) b ∧ w.drew.heap.size ≤ b ∧ b < w'.heap.size ∧ X b) → (∀ d ∈ A, ∀ d' ∈ A, d ∈ dstsTo m l.toArray → d' ∈ dstsTo m l.toArray → d ≠ d' → f d ≠ f d') → Below w.drew.heap.size w.drew w' → wpAny P .any l.toArray Q fuel (endListed m (l.length - m)) ⟨fill a.tmps f (dstsTo m l.toArray), a.defers⟩ w') : (Code.region id l.toArray true).wp P Q a w := by
  have hms' : m ≤ l.length := of_decide_eq_true hms
  refine wp_region_any hm (heldB_any (w0 := w.drew) (A := A) (by simpa using hng) hp hn (by simpa using hms') hsub hgrow (by simpa using hstep) (by simpa using hend) _ _ _ _ ?_ ?_)
  · unfold leftTo
    have := List.countP_le_length (p := fun i => !(Array.replicate l.toArray.size false).getD i true) (l := List.range m)
    rw [List.length_range] at this
    simp only [List.size_toArray] at this ⊢
    omega
  · refine ⟨rfl, rfl, by simp, fun i _ hi => ?_, fun i o hi hl => ?_, Below.refl _ _, fun _ _ => rfl, fun i o d _ hi hl => ?_, fun i o d _ hi hl => ?_, fun i j o o' d d' _ _ _ _ hl => ?_⟩
    · simp only [Array.getD_eq_getD_getElem?, Array.getElem?_replicate]
      rw [if_pos hi]; rfl
    · exfalso
      simp only [Array.getD_eq_getD_getElem?, Array.getElem?_replicate] at hl
      split at hl <;> simp at hl
    · exfalso
      simp only [Array.getD_eq_getD_getElem?, Array.getElem?_replicate] at hl
      split at hl <;> simp at hl
    · exfalso
      simp only [Array.getD_eq_getD_getElem?, Array.getElem?_replicate] at hl
      split at hl <;> simp at hl
    · exfalso
      simp only [Array.getD_eq_getD_getElem?, Array.getElem?_replicate] at hl
      split at hl <;> simp at hl
end Go.Proofs.Yteebbffecaeciaa
