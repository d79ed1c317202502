/- A region that draws its order, walked once, operation by operation: each leaves in its temporary a value that has a property, and no other turns that. -/
import Derived.Test.YtclmnpfdnhfbmaaVBase
import Derived.Orders
namespace Go.Proofs.Ytclmnpfdnhfbmaa
open Go.RowKit

/-- what an operation leaves, and the world behind it. -/
def OpDoes (P : Program) (o : Oper) (r : Operand → Value) (w : World) (R : Value → World → Prop) : Prop :=
  match (execOp r o).run P w with
  | .ok (.value v) w' => R v w'
  | .ok (.enter f args) w' => Calls P f args w' fun e w'' => ∃ v, e = .returned v ∧ R v w''
  | _ => False
theorem OpDoes.wp {P : Program} {o : Oper} {a : Act} {w : World} {R : Value → World → Prop} {K : Act → World → Prop} {Q : Exit → Act → World → Prop} (h : OpDoes P o a.eval w R) (hK : ∀ v w', R v w' → K (a.put o.dst v) w') : o.wp P a w K Q := by
  unfold OpDoes at h
  unfold Oper.wp
  generalize (execOp a.eval o).run P w = r at h
  cases r with
  | ok n w' =>
    cases n with
    | value v => exact hK _ _ h
    | enter f args => exact Calls.mono h fun e w'' he => by obtain ⟨v, rfl, hv⟩ := he; exact hK _ _ hv
    | _ => exact h.elim
  | halt x w' => exact h.elim
theorem OpDoes.value {P : Program} {o : Oper} {r : Operand → Value} {w w' : World} {R : Value → World → Prop} {v : Value} (h : (execOp r o).run P w = .ok (.value v) w') (hR : R v w') : OpDoes P o r w R := by
  unfold OpDoes; rw [h]; exact hR
theorem OpDoes.enter {P : Program} {o : Oper} {r : Operand → Value} {w w' : World} {R : Value → World → Prop} {f : FuncId} {args : Array Value} (h : (execOp r o).run P w = .ok (.enter f args) w') (hR : Calls P f args w' fun e w'' => ∃ v, e = .returned v ∧ R v w'') : OpDoes P o r w R := by
  unfold OpDoes; rw [h]; exact hR

/-- the temporaries d of D filled with f d. -/
def fill (t : Array Value) (f : Nat → Value) : List Nat → Array Value
  | [] => t
  | d :: D => fill (t.setIfInBounds d (f d)) f D
theorem fill_size (f : Nat → Value) : ∀ (D : List Nat) (t : Array Value), (fill t f D).size = t.size
  | [], _ => rfl
  | d :: D, t => by rw [fill, fill_size f D]; simp
theorem fill_get (f : Nat → Value) (k : Nat) : ∀ (D : List Nat) (t : Array Value), k < t.size → (fill t f D)[k]? = if k ∈ D then some (f k) else t[k]?
  | [], t, _ => by simp [fill]
  | d :: D, t, h => by
    rw [fill, fill_get f k D _ (by simpa using h)]
    by_cases h1 : k ∈ D
    · rw [if_pos h1, if_pos (by simp [h1])]
    · rw [if_neg h1]
      by_cases h2 : k = d
      · subst h2; rw [if_pos (by simp), Array.getElem?_setIfInBounds_self_of_lt h]
      · rw [if_neg (by simp [h1, h2]), Array.getElem?_setIfInBounds_ne (fun e => h2 e.symm)]

def dstsOf (ops : Array Oper) : List Nat := ops.toList.filterMap (·.dst)
/-- the operations that o waits for have these temporaries. -/
def waitsOn (ops : Array Oper) (o : Oper) (d : Nat) : Bool := o.after.any fun e => Region.binds .any e && ((ops[e.on]?).bind (·.dst) == some d)
/-- each operation has a temporary of its own, no guard, and waits for earlier ones alone. -/
def plainB (n : Nat) (ops : Array Oper) : Bool :=
  ((List.range ops.size).all fun i => match ops[i]? with
    | none => true
    | some o => o.guard.isNone && o.after.all (fun e => decide (e.on < i)) && (match o.dst with | none => false | some d => decide (d < n))) &&
  decide (ops.toList.map (·.dst)).Nodup
theorem plain_op {n : Nat} {ops : Array Oper} (h : plainB n ops = true) {i : Nat} {o : Oper} (hi : ops[i]? = some o) : o.guard = none ∧ (∀ e ∈ o.after, e.on < i) ∧ ∃ d, o.dst = some d ∧ d < n := by
  unfold plainB at h
  rw [Bool.and_eq_true, List.all_eq_true] at h
  have hlt : i < ops.size := (Array.getElem?_eq_some_iff.1 hi).1
  have h1 := h.1 i (List.mem_range.2 hlt)
  rw [hi] at h1
  simp only [Bool.and_eq_true, Option.isNone_iff_eq_none] at h1
  refine ⟨h1.1.1, fun e he => ?_, ?_⟩
  · have := Array.all_eq_true_iff_forall_mem.1 h1.1.2 e he
    simpa using this
  · have h2 := h1.2
    cases hd : o.dst with
    | none => rw [hd] at h2; simp at h2
    | some d => rw [hd] at h2; exact ⟨d, rfl, by simpa using h2⟩
theorem plain_one {n : Nat} {ops : Array Oper} (h : plainB n ops = true) {i j : Nat} {o o' : Oper} {d : Nat} (hi : ops[i]? = some o) (hj : ops[j]? = some o') (hd : o.dst = some d) (hd' : o'.dst = some d) : i = j := by
  unfold plainB at h
  rw [Bool.and_eq_true] at h
  have h2 := of_decide_eq_true h.2
  have e1 : (ops.toList.map (·.dst))[i]? = some (some d) := by rw [List.getElem?_map, Array.getElem?_toList, hi]; simp [hd]
  have e2 : (ops.toList.map (·.dst))[j]? = some (some d) := by rw [List.getElem?_map, Array.getElem?_toList, hj]; simp [hd']
  obtain ⟨l1, g1⟩ := List.getElem?_eq_some_iff.1 e1
  obtain ⟨l2, g2⟩ := List.getElem?_eq_some_iff.1 e2
  have h3 := List.pairwise_iff_getElem.1 h2
  rcases Nat.lt_trichotomy i j with hlt | heq | hgt
  · exact absurd (g1.trans g2.symm) (h3 i j l1 l2 hlt)
  · exact heq
  · exact absurd (g2.trans g1.symm) (h3 j i l2 l1 hgt)
theorem mem_dsts {ops : Array Oper} {d : Nat} : d ∈ dstsOf ops ↔ ∃ (i : Nat) (o : Oper), ops[i]? = some o ∧ o.dst = some d := by
  unfold dstsOf
  rw [List.mem_filterMap]
  constructor
  · rintro ⟨o, ho, hd⟩
    obtain ⟨i, hi⟩ := List.mem_iff_getElem?.1 ho
    exact ⟨i, o, by rw [← Array.getElem?_toList]; exact hi, hd⟩
  · rintro ⟨i, o, hi, hd⟩
    exact ⟨o, List.mem_iff_getElem?.2 ⟨i, by rw [Array.getElem?_toList]; exact hi⟩, hd⟩

/-- how many have not come up yet. -/
def left (ops : Array Oper) (listed : Array Bool) : Nat := (List.range ops.size).countP fun i => !listed.getD i true
theorem countP_less {α : Type} {p q : α → Bool} {x : α} : ∀ {l : List α}, x ∈ l → (∀ y ∈ l, q y = true → p y = true) → p x = true → q x = false → l.countP q + 1 ≤ l.countP p
  | a :: l, hx, h, hp, hq => by
    rw [List.countP_cons, List.countP_cons]
    have hmono : l.countP q ≤ l.countP p := List.countP_mono_left fun y hy => h y (by simp [hy])
    rcases List.mem_cons.1 hx with rfl | hx
    · rw [hp, hq]; simp; omega
    · have := countP_less hx (fun y hy => h y (by simp [hy])) hp hq
      have ha := h a (by simp)
      by_cases e : q a = true
      · rw [e, ha e]; omega
      · rw [Bool.not_eq_true] at e
        rw [e]
        by_cases e2 : p a = true
        · rw [e2]; simp; omega
        · rw [Bool.not_eq_true] at e2
          rw [e2]; simpa using this
theorem left_set {ops : Array Oper} {listed : Array Bool} {i : Nat} (hi : i < ops.size) (hu : listed.getD i true = false) : left ops (listed.setIfInBounds i true) + 1 ≤ left ops listed := by
  have hs : i < listed.size := by
    rcases Nat.lt_or_ge i listed.size with h | h
    · exact h
    · simp [Array.getElem?_eq_none h] at hu
  refine countP_less (List.mem_range.2 hi) (fun y hy h => ?_) (by simpa using hu) (by simp [hs])
  by_cases e : y = i
  · subst e; simp [hs] at h
  · rw [getD_set_ne true (fun h => e h.symm)] at h; exact h
theorem left_zero {ops : Array Oper} {listed : Array Bool} (h : left ops listed = 0) {i : Nat} (hi : i < ops.size) : listed.getD i true = true := by
  unfold left at h
  rw [List.countP_eq_zero] at h
  have := h i (List.mem_range.2 hi)
  simpa using this

section
variable {P : Program} {ops : Array Oper} {Q : Exit → Act → World → Prop} {n : Nat} {Ph : Nat → Value → World → Prop} {a0 : Act} {w0 : World}
/-- what holds whatever has come up. -/
structure Held (ops : Array Oper) (Ph : Nat → Value → World → Prop) (a0 : Act) (w0 : World) (listed : Array Bool) (a : Act) (w : World) : Prop where
  size : a.tmps.size = a0.tmps.size
  defers : a.defers = a0.defers
  lsize : listed.size = ops.size
  below : Below w0.heap.size w0 w
  same : ∀ d, (∀ (i : Nat) (o : Oper), ops[i]? = some o → listed.getD i false = true → o.dst ≠ some d) → a.tmps[d]? = a0.tmps[d]?
  has : ∀ (i : Nat) (o : Oper) (d : Nat), ops[i]? = some o → listed.getD i false = true → o.dst = some d → Ph d (a.eval (.tmp d)) w
/-- what each operation must do. -/
def StepOk (P : Program) (ops : Array Oper) (Ph : Nat → Value → World → Prop) (a0 : Act) (w0 : World) (o : Oper) : Prop :=
  ∀ (r : Operand → Value) (w : World), (∀ v, r (.const v) = v) → (∀ f, r (.func f) = .func (.func f) #[] #[]) → (∀ d, d ∉ dstsOf ops → r (.tmp d) = a0.eval (.tmp d)) → (∀ d, waitsOn ops o d = true → Ph d (r (.tmp d)) w) → Below w0.heap.size w0 w →
    OpDoes P o r w fun v w' => (∀ d, o.dst = some d → Ph d v w') ∧ Below w.heap.size w w'
theorem getD_own {listed : Array Bool} {i : Nat} (h : i < listed.size) : (listed.setIfInBounds i true).getD i false = true := by simp [h]
theorem getD_false {listed : Array Bool} {i m : Nat} (hs : listed.size = m) (hi : i < m) (h : listed.getD i true = true) : listed.getD i false = true := by
  have : i < listed.size := by omega
  simp [this] at h ⊢; exact h
theorem held_any (hp : plainB n ops = true) (hn : n = a0.tmps.size) (hmono : ∀ d v w w', Ph d v w → Below w.heap.size w w' → Ph d v w') (hstep : ∀ o ∈ ops.toList, StepOk P ops Ph a0 w0 o)
    (hend : ∀ (f : Nat → Value) (w : World), (∀ d ∈ dstsOf ops, Ph d (f d) w) → Below w0.heap.size w0 w → Q .normal ⟨fill a0.tmps f (dstsOf ops), a0.defers⟩ w) :
    ∀ (fuel : Nat) (listed : Array Bool) (a : Act) (w : World), left ops listed ≤ fuel → Held ops Ph a0 w0 listed a w → wpAny P .any ops Q fuel listed a w := by
  have fin : ∀ (listed : Array Bool) (a : Act) (w : World), (∀ i, i < ops.size → listed.getD i true = true) → Held ops Ph a0 w0 listed a w → Q .normal a w := fun listed a w hall H => by
    have hl : ∀ i, i < ops.size → listed.getD i false = true := fun i hi => getD_false H.lsize hi (hall i hi)
    have ha : a = ⟨fill a0.tmps (fun d => a.eval (.tmp d)) (dstsOf ops), a0.defers⟩ := by
      obtain ⟨tm, df⟩ := a
      have e1 : tm = fill a0.tmps (fun d => Act.eval ⟨tm, df⟩ (.tmp d)) (dstsOf ops) := by
        refine Array.ext_getElem? fun k => ?_
        by_cases hk : k < a0.tmps.size
        · rw [fill_get _ _ _ _ hk]
          have hk' : k < tm.size := by have := H.size; simp only at this; omega
          by_cases hm : k ∈ dstsOf ops
          · rw [if_pos hm]; simp [Act.eval, hk']
          · rw [if_neg hm]
            exact H.same k fun i o hi _ hd => hm (mem_dsts.2 ⟨i, o, hi, hd⟩)
        · have hk' : ¬ k < tm.size := by have := H.size; simp only at this; omega
          rw [Array.getElem?_eq_none (by omega), Array.getElem?_eq_none (by rw [fill_size]; omega)]
      have e2 : df = a0.defers := H.defers
      rw [← e2, ← e1]
    rw [ha]
    exact hend _ _ (fun d hd => by
      obtain ⟨i, o, hi, ho⟩ := mem_dsts.1 hd
      exact H.has i o d hi (hl i (Array.getElem?_eq_some_iff.1 hi).1) ho) H.below
  have rdy : ∀ (listed : Array Bool), listed.size = ops.size → Region.ready .any ops listed = [] → ∀ i, i < ops.size → listed.getD i true = true := fun listed hs hr i => by
    induction i using Nat.strongRecOn with
    | _ i ih =>
      intro hi
      by_cases hu : listed.getD i true = true
      · exact hu
      · exfalso
        rw [Bool.not_eq_true] at hu
        have hoi : ops[i]? = some ops[i] := Array.getElem?_eq_getElem hi
        have hmem : i ∈ Region.ready .any ops listed := mem_ready.2 ⟨hu, _, hoi, fun e he _ => by
          have hlt := (plain_op hp hoi).2.1 e he
          exact getD_false hs (by omega) (ih e.on hlt (by omega))⟩
        rw [hr] at hmem
        cases hmem
  intro fuel
  induction fuel with
  | zero =>
    intro listed a w hf H
    have hall : ∀ i, i < ops.size → listed.getD i true = true := fun i hi => left_zero (by omega) hi
    refine ⟨?_, fin listed a w hall H⟩
    refine List.eq_nil_iff_forall_not_mem.2 fun i hi => ?_
    obtain ⟨hu, o, ho, _⟩ := mem_ready.1 hi
    rw [hall i (Array.getElem?_eq_some_iff.1 ho).1] at hu
    cases hu
  | succ fuel ih =>
    intro listed a w hf H
    refine ⟨fun hr => fin listed a w (rdy listed H.lsize hr) H, fun i hi => ?_⟩
    obtain ⟨hu, o, ho, hall⟩ := mem_ready.1 hi
    have hlt : i < ops.size := (Array.getElem?_eq_some_iff.1 ho).1
    obtain ⟨hg, hbefore, d, hd, hdn⟩ := plain_op hp ho
    unfold wpOp
    simp only [ho]
    have hw : Region.wanted o (yielded ops a.tmps) = true := by unfold Region.wanted; rw [hg]
    rw [if_pos hw]
    refine .inl (OpDoes.wp (hstep o (List.mem_iff_getElem?.2 ⟨i, by rw [Array.getElem?_toList]; exact ho⟩) a.eval w (fun v => rfl) (fun f => rfl) (fun k hk => ?_) (fun k hk => ?_) H.below) fun v w' hv => ?_)
    · have := H.same k fun i o hi _ hd => hk (mem_dsts.2 ⟨i, o, hi, hd⟩)
      simp [Act.eval, this]
    · unfold waitsOn at hk
      rw [Array.any_eq_true] at hk
      obtain ⟨j, hj, hb⟩ := hk
      rw [Bool.and_eq_true] at hb
      have hmem : o.after[j] ∈ o.after := Array.getElem_mem hj
      have hdst := eq_of_beq hb.2
      obtain ⟨o', ho', hd'⟩ := Option.bind_eq_some_iff.1 hdst
      exact H.has _ o' k ho' (hall _ hmem hb.1) hd'
    · have hl := left_set hlt hu
      have hil : i < listed.size := by rw [H.lsize]; exact hlt
      refine ih (listed.setIfInBounds i true) _ _ (Nat.le_of_succ_le_succ (Nat.le_trans hl hf)) ?_
      have hds : d < a.tmps.size := by rw [H.size, ← hn]; exact hdn
      rw [hd]
      refine ⟨by simp [Act.put, H.size], H.defers, by simp [H.lsize], H.below.trans (hv.2.mono H.below.size), fun k hk => ?_, fun j o' k hj hl hk => ?_⟩
      · have hne : k ≠ d := fun e => hk i o ho (getD_own hil) (by rw [e]; exact hd)
        simp only [Act.put]
        rw [Array.getElem?_setIfInBounds_ne (fun e => hne e.symm)]
        exact H.same k fun j o' hj hl => hk j o' hj (getD_set_true hl)
      · by_cases e : j = i
        · subst e
          rw [ho] at hj; cases hj
          rw [hd] at hk; cases hk
          have : Act.eval (a.put (some d) v) (.tmp d) = v := by simp [Act.eval, Act.put, hds]
          rw [this]; exact hv.1 d hd
        · have hne : k ≠ d := fun h => e (plain_one hp hj ho hk (by rw [h]; exact hd))
          rw [getD_set_ne false (fun h => e h.symm)] at hl
          have : Act.eval (a.put (some d) v) (.tmp k) = a.eval (.tmp k) := by
            simp only [Act.eval, Act.put, Array.getD_eq_getD_getElem?]
            rw [Array.getElem?_setIfInBounds_ne (fun h => hne h.symm)]
          rw [this]
          exact hmono _ _ _ _ (H.has j o' k hj hl hk) hv.2
end
/-- a region that draws its order, each operation by itself. -/
theorem wp_region_each {P : Program} {id : Nat} {Q : Exit → Act → World → Prop} {a : Act} {w : World} {l : List Oper} (Ph : Nat → Value → World → Prop) (n : Nat) (hm : P.follows .mixedOrders = true) (hp : plainB n l.toArray = true) (hn : n = a.tmps.size)
    (hmono : ∀ d v w w', Ph d v w → Below w.heap.size w w' → Ph d v w') (hstep : ∀ o ∈ l, StepOk P l.toArray Ph a w.drew o)
    (hend : ∀ (f : Nat → Value) (w' : World), (∀ d ∈ dstsOf l.toArray, Ph d (f d) w') → Below w.drew.heap.size w.drew w' → Q .normal ⟨fill a.tmps f (dstsOf l.toArray), a.defers⟩ w') : (Code.region id l.toArray true).wp P Q a w := by
  refine wp_region_any hm (held_any (w0 := w.drew) hp hn hmono (by simpa using hstep) hend _ _ _ _ ?_ ?_)
  · unfold left
    have := List.countP_le_length (p := fun i => !(Array.replicate l.toArray.size false).getD i true) (l := List.range l.toArray.size)
    rw [List.length_range] at this
    exact this
  · refine ⟨rfl, rfl, by simp, Below.refl _ _, fun _ _ => rfl, fun i o d hi hl => ?_⟩
    exfalso
    have hlt : i < l.toArray.size := (Array.getElem?_eq_some_iff.1 hi).1
    simp only [Array.getD_eq_getD_getElem?, Array.getElem?_replicate] at hl
    split at hl <;> simp at hl
end Go.Proofs.Ytclmnpfdnhfbmaa
