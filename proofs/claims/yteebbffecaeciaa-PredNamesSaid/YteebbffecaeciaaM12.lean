/- Texts of this claim laid into one: VAny, VAnyG, TSpend, TTab, VAnyF, TCopyA, VAnyH, TCopyB, TCopyD, TStore, TSpoilA. -/
import Derived.Test.YteebbffecaeciaaM01
import Derived.Orders
import Derived.Test.YteebbffecaeciaaM11
import Derived.Test.YteebbffecaeciaaM09
import Derived.Deep.MidRow
/- A region that draws its order, walked once, operation by operation: each leaves in its temporary a value that has a property, and no other turns that. -/
namespace Go.Proofs.Yteebbffecaeciaa
open Go.RowKit

/-- what an operation leaves, and the world behind it. -/
def OpDoes (P : Program) (o : Oper) (r : Operand → Value) (w : World) (R : Value → World → Prop) : Prop :=
  match (execOp r o).run P w with
  | .ok (.value v) w' => R v w'
  | .ok (.enter f args) w' => Calls P f args w' fun e w'' => ∃ v, e = .returned v ∧ R v w''
  | _ => False
theorem OpDoes.wp {P : Program} {o : Oper} {a : Act} {w : World} {R : Value → World → Prop} {K : Act → World → Prop} {Q : Exit → Act → World → Prop} (h : OpDoes P o a.eval w R) (hK : ∀ v w', R v w' → K (a.put o.dst v) w') : o.wp P a w K Q := by
  unfold OpDoes at h
  unfold Oper.wp
  generalize (execOp a.eval o).run P w = r at h
  cases r with
  | ok n w' =>
    cases n with
    | value v => exact hK _ _ h
    | enter f args => exact Calls.mono h fun e w'' he => by obtain ⟨v, rfl, hv⟩ := he; exact hK _ _ hv
    | _ => exact h.elim
  | halt x w' => exact h.elim
theorem OpDoes.value {P : Program} {o : Oper} {r : Operand → Value} {w w' : World} {R : Value → World → Prop} {v : Value} (h : (execOp r o).run P w = .ok (.value v) w') (hR : R v w') : OpDoes P o r w R := by
  unfold OpDoes; rw [h]; exact hR
theorem OpDoes.enter {P : Program} {o : Oper} {r : Operand → Value} {w w' : World} {R : Value → World → Prop} {f : FuncId} {args : Array Value} (h : (execOp r o).run P w = .ok (.enter f args) w') (hR : Calls P f args w' fun e w'' => ∃ v, e = .returned v ∧ R v w'') : OpDoes P o r w R := by
  unfold OpDoes; rw [h]; exact hR

/-- the temporaries d of D filled with f d. -/
def fill (t : Array Value) (f : Nat → Value) : List Nat → Array Value
  | [] => t
  | d :: D => fill (t.setIfInBounds d (f d)) f D
theorem fill_size (f : Nat → Value) : ∀ (D : List Nat) (t : Array Value), (fill t f D).size = t.size
  | [], _ => rfl
  | d :: D, t => by rw [fill, fill_size f D]; simp
theorem fill_get (f : Nat → Value) (k : Nat) : ∀ (D : List Nat) (t : Array Value), k < t.size → (fill t f D)[k]? = if k ∈ D then some (f k) else t[k]?
  | [], t, _ => by simp [fill]
  | d :: D, t, h => by
    rw [fill, fill_get f k D _ (by simpa using h)]
    by_cases h1 : k ∈ D
    · rw [if_pos h1, if_pos (by simp [h1])]
    · rw [if_neg h1]
      by_cases h2 : k = d
      · subst h2; rw [if_pos (by simp), Array.getElem?_setIfInBounds_self_of_lt h]
      · rw [if_neg (by simp [h1, h2]), Array.getElem?_setIfInBounds_ne (fun e => h2 e.symm)]

def dstsOf (ops : Array Oper) : List Nat := ops.toList.filterMap (·.dst)
/-- the operations that o waits for have these temporaries. -/
def waitsOn (ops : Array Oper) (o : Oper) (d : Nat) : Bool := o.after.any fun e => Region.binds .any e && ((ops[e.on]?).bind (·.dst) == some d)
theorem mem_dsts {ops : Array Oper} {d : Nat} : d ∈ dstsOf ops ↔ ∃ (i : Nat) (o : Oper), ops[i]? = some o ∧ o.dst = some d := by
  unfold dstsOf
  rw [List.mem_filterMap]
  constructor
  · rintro ⟨o, ho, hd⟩
    obtain ⟨i, hi⟩ := List.mem_iff_getElem?.1 ho
    exact ⟨i, o, by rw [← Array.getElem?_toList]; exact hi, hd⟩
  · rintro ⟨i, o, hi, hd⟩
    exact ⟨o, List.mem_iff_getElem?.2 ⟨i, by rw [Array.getElem?_toList]; exact hi⟩, hd⟩

/-- how many have not come up yet. -/
def left (ops : Array Oper) (listed : Array Bool) : Nat := (List.range ops.size).countP fun i => !listed.getD i true
theorem countP_less {α : Type} {p q : α → Bool} {x : α} : ∀ {l : List α}, x ∈ l → (∀ y ∈ l, q y = true → p y = true) → p x = true → q x = false → l.countP q + 1 ≤ l.countP p
  | a :: l, hx, h, hp, hq => by
    rw [List.countP_cons, List.countP_cons]
    have hmono : l.countP q ≤ l.countP p := List.countP_mono_left fun y hy => h y (by simp [hy])
    rcases List.mem_cons.1 hx with rfl | hx
    · rw [hp, hq]; simp; omega
    · have := countP_less hx (fun y hy => h y (by simp [hy])) hp hq
      have ha := h a (by simp)
      by_cases e : q a = true
      · rw [e, ha e]; omega
      · rw [Bool.not_eq_true] at e
        rw [e]
        by_cases e2 : p a = true
        · rw [e2]; simp; omega
        · rw [Bool.not_eq_true] at e2
          rw [e2]; simpa using this
theorem left_set {ops : Array Oper} {listed : Array Bool} {i : Nat} (hi : i < ops.size) (hu : listed.getD i true = false) : left ops (listed.setIfInBounds i true) + 1 ≤ left ops listed := by
  have hs : i < listed.size := by
    rcases Nat.lt_or_ge i listed.size with h | h
    · exact h
    · simp [Array.getElem?_eq_none h] at hu
  refine countP_less (List.mem_range.2 hi) (fun y hy h => ?_) (by simpa using hu) (by simp [hs])
  by_cases e : y = i
  · subst e; simp [hs] at h
  · rw [getD_set_ne true (fun h => e h.symm)] at h; exact h
theorem left_zero {ops : Array Oper} {listed : Array Bool} (h : left ops listed = 0) {i : Nat} (hi : i < ops.size) : listed.getD i true = true := by
  unfold left at h
  rw [List.countP_eq_zero] at h
  have := h i (List.mem_range.2 hi)
  simpa using this

section
variable {P : Program} {ops : Array Oper} {Q : Exit → Act → World → Prop} {n : Nat} {Ph : Nat → Value → World → Prop} {a0 : Act} {w0 : World}
theorem getD_own {listed : Array Bool} {i : Nat} (h : i < listed.size) : (listed.setIfInBounds i true).getD i false = true := by simp [h]
theorem getD_false {listed : Array Bool} {i m : Nat} (hs : listed.size = m) (hi : i < m) (h : listed.getD i true = true) : listed.getD i false = true := by
  have : i < listed.size := by omega
  simp [this] at h ⊢; exact h
end
end Go.Proofs.Yteebbffecaeciaa
/- A region that draws its order, walked once: with guards, and with what stands behind all else left to a walk of its own. -/
namespace Go.Proofs.Yteebbffecaeciaa
open Go.RowKit

/-- is the operation wanted, as the temporaries stand? -/
def wantedR (ops : Array Oper) (r : Operand → Value) (o : Oper) : Bool :=
  match o.guard with
  | none => true
  | some (j, want) => match (ops[j]?).bind (·.dst) with
    | some d => (match r (.tmp d) with | .bool b => b == want | _ => false)
    | none => false
def dstsTo (m : Nat) (ops : Array Oper) : List Nat := (ops.toList.take m).filterMap (·.dst)
/-- from operation i one comes, by what each waits for, to operation j. -/
def reachB (ops : Array Oper) : Nat → Nat → Nat → Bool
  | 0, i, j => i == j
  | f + 1, i, j => i == j || match ops[i]? with
    | none => false
    | some o => o.after.any fun e => Region.binds .any e && reachB ops f e.on j
/-- the first m operations have temporaries of their own, and wait for earlier ones alone; the others wait for them all. -/
def partB (m n : Nat) (ops : Array Oper) : Bool :=
  ((List.range m).all fun i => match ops[i]? with
    | none => false
    | some o => o.after.all (fun e => decide (e.on < i)) && (match o.dst with | none => false | some d => decide (d < n)) &&
      (match o.guard with | none => true | some (j, _) => (match (ops[j]?).bind (·.dst) with | some d => decide (d < n) | none => false))) &&
  ((List.range ops.size).all fun i => decide (i < m) || match ops[i]? with
    | none => true
    | some o => (List.range m).all fun j => o.after.any fun e => Region.binds .any e && reachB ops 6 e.on j) &&
  decide ((ops.toList.take m).map (·.dst)).Nodup
theorem part_op {m n : Nat} {ops : Array Oper} (h : partB m n ops = true) {i : Nat} {o : Oper} (hm : i < m) (hi : ops[i]? = some o) :
    (∀ e ∈ o.after, e.on < i) ∧ (∃ d, o.dst = some d ∧ d < n) ∧ ∀ j want, o.guard = some (j, want) → ∃ d, (ops[j]?).bind (·.dst) = some d ∧ d < n := by
  unfold partB at h
  rw [Bool.and_eq_true, Bool.and_eq_true, List.all_eq_true] at h
  have h1 := h.1.1 i (List.mem_range.2 hm)
  rw [hi] at h1
  simp only [Bool.and_eq_true] at h1
  refine ⟨fun e he => ?_, ?_, fun j want hg => ?_⟩
  · have := Array.all_eq_true_iff_forall_mem.1 h1.1.1 e he
    simpa using this
  · have h2 := h1.1.2
    cases hd : o.dst with
    | none => rw [hd] at h2; simp at h2
    | some d => rw [hd] at h2; exact ⟨d, rfl, by simpa using h2⟩
  · have h2 := h1.2
    rw [hg] at h2
    simp only at h2
    cases hd : (ops[j]?).bind (·.dst) with
    | none => rw [hd] at h2; simp at h2
    | some d => rw [hd] at h2; exact ⟨d, rfl, by simpa using h2⟩
theorem part_there {m n : Nat} {ops : Array Oper} (h : partB m n ops = true) {i : Nat} (hm : i < m) : i < ops.size := by
  unfold partB at h
  rw [Bool.and_eq_true, Bool.and_eq_true, List.all_eq_true] at h
  have h1 := h.1.1 i (List.mem_range.2 hm)
  rcases Nat.lt_or_ge i ops.size with hl | hl
  · exact hl
  · rw [Array.getElem?_eq_none hl] at h1; simp at h1
theorem part_rest {m n : Nat} {ops : Array Oper} (h : partB m n ops = true) {i : Nat} {o : Oper} (hm : ¬ i < m) (hi : ops[i]? = some o) {j : Nat} (hj : j < m) : ∃ e ∈ o.after, Region.binds .any e = true ∧ reachB ops 6 e.on j = true := by
  unfold partB at h
  rw [Bool.and_eq_true, Bool.and_eq_true] at h
  have h1 := List.all_eq_true.1 h.1.2 i (List.mem_range.2 (Array.getElem?_eq_some_iff.1 hi).1)
  rw [hi, decide_eq_false hm, Bool.false_or] at h1
  have h2 := List.all_eq_true.1 h1 j (List.mem_range.2 hj)
  rw [Array.any_eq_true] at h2
  obtain ⟨k, hk, hb⟩ := h2
  rw [Bool.and_eq_true] at hb
  exact ⟨o.after[k], Array.getElem_mem hk, hb.1, hb.2⟩
theorem reach_listed {ops : Array Oper} {listed : Array Bool} (hc : ∀ (i : Nat) (o : Oper), ops[i]? = some o → listed.getD i false = true → ∀ e ∈ o.after, Region.binds .any e = true → listed.getD e.on false = true) :
    ∀ (f i j : Nat), listed.getD i false = true → reachB ops f i j = true → listed.getD j false = true
  | 0, i, j, hi, h => by
    unfold reachB at h
    rw [← eq_of_beq h]; exact hi
  | f + 1, i, j, hi, h => by
    unfold reachB at h
    rw [Bool.or_eq_true] at h
    rcases h with h | h
    · rw [← eq_of_beq h]; exact hi
    · cases ho : ops[i]? with
      | none => rw [ho] at h; simp at h
      | some o =>
        rw [ho] at h
        simp only [Array.any_eq_true] at h
        obtain ⟨k, hk, hb⟩ := h
        rw [Bool.and_eq_true] at hb
        exact reach_listed hc f _ j (hc i o ho hi _ (Array.getElem_mem hk) hb.1) hb.2
theorem part_one {m n : Nat} {ops : Array Oper} (h : partB m n ops = true) {i j : Nat} {o o' : Oper} {d : Nat} (hm : i < m) (hm' : j < m) (hi : ops[i]? = some o) (hj : ops[j]? = some o') (hd : o.dst = some d) (hd' : o'.dst = some d) : i = j := by
  unfold partB at h
  rw [Bool.and_eq_true] at h
  have h2 := of_decide_eq_true h.2
  have e1 : ((ops.toList.take m).map (·.dst))[i]? = some (some d) := by rw [List.getElem?_map, List.getElem?_take_of_lt hm, Array.getElem?_toList, hi]; simp [hd]
  have e2 : ((ops.toList.take m).map (·.dst))[j]? = some (some d) := by rw [List.getElem?_map, List.getElem?_take_of_lt hm', Array.getElem?_toList, hj]; simp [hd']
  obtain ⟨l1, g1⟩ := List.getElem?_eq_some_iff.1 e1
  obtain ⟨l2, g2⟩ := List.getElem?_eq_some_iff.1 e2
  have h3 := List.pairwise_iff_getElem.1 h2
  rcases Nat.lt_trichotomy i j with hlt | heq | hgt
  · exact absurd (g1.trans g2.symm) (h3 i j l1 l2 hlt)
  · exact heq
  · exact absurd (g2.trans g1.symm) (h3 j i l2 l1 hgt)
theorem mem_dstsTo {m : Nat} {ops : Array Oper} {d : Nat} : d ∈ dstsTo m ops ↔ ∃ (i : Nat) (o : Oper), i < m ∧ ops[i]? = some o ∧ o.dst = some d := by
  unfold dstsTo
  rw [List.mem_filterMap]
  constructor
  · rintro ⟨o, ho, hd⟩
    obtain ⟨i, hi⟩ := List.mem_iff_getElem?.1 ho
    have hlt : i < m := by
      have := (List.getElem?_eq_some_iff.1 hi).1
      rw [List.length_take] at this; omega
    rw [List.getElem?_take_of_lt hlt, Array.getElem?_toList] at hi
    exact ⟨i, o, hlt, hi, hd⟩
  · rintro ⟨i, o, hlt, hi, hd⟩
    exact ⟨o, List.mem_iff_getElem?.2 ⟨i, by rw [List.getElem?_take_of_lt hlt, Array.getElem?_toList]; exact hi⟩, hd⟩
def leftTo (m : Nat) (listed : Array Bool) : Nat := (List.range m).countP fun i => !listed.getD i true
theorem leftTo_set {m : Nat} {listed : Array Bool} {i : Nat} (hi : i < m) (hu : listed.getD i true = false) : leftTo m (listed.setIfInBounds i true) + 1 ≤ leftTo m listed := by
  have hs : i < listed.size := by
    rcases Nat.lt_or_ge i listed.size with h | h
    · exact h
    · simp [Array.getElem?_eq_none h] at hu
  refine countP_less (List.mem_range.2 hi) (fun y hy h => ?_) (by simpa using hu) (by simp [hs])
  by_cases e : y = i
  · subst e; simp [hs] at h
  · rw [getD_set_ne true (fun h => e h.symm)] at h; exact h
theorem leftTo_pos {m : Nat} {listed : Array Bool} {i : Nat} (hi : i < m) (hu : listed.getD i true = false) : 1 ≤ leftTo m listed := by
  have := leftTo_set hi hu; omega
/-- the first m have come up, and no other. -/
def endListed (m k : Nat) : Array Bool := (List.replicate m true ++ List.replicate k false).toArray

section
variable {P : Program} {ops : Array Oper} {Q : Exit → Act → World → Prop} {m n : Nat} {Ph : Nat → Value → World → Prop} {a0 : Act} {w0 : World} {A : List Nat}
/-- A: the temporaries of new blocks. -/
structure HeldG (A : List Nat) (m : Nat) (ops : Array Oper) (Ph : Nat → Value → World → Prop) (a0 : Act) (w0 : World) (listed : Array Bool) (a : Act) (w : World) : Prop where
  size : a.tmps.size = a0.tmps.size
  defers : a.defers = a0.defers
  lsize : listed.size = ops.size
  rest : ∀ i, m ≤ i → i < ops.size → listed.getD i true = false
  closed : ∀ (i : Nat) (o : Oper), ops[i]? = some o → listed.getD i false = true → ∀ e ∈ o.after, Region.binds .any e = true → listed.getD e.on false = true
  below : Below w0.heap.size w0 w
  same : ∀ d, (∀ (i : Nat) (o : Oper), i < m → ops[i]? = some o → listed.getD i false = true → o.dst ≠ some d) → a.tmps[d]? = a0.tmps[d]?
  has : ∀ (i : Nat) (o : Oper) (d : Nat), i < m → ops[i]? = some o → listed.getD i false = true → o.dst = some d → Ph d (a.eval (.tmp d)) w
  apart : ∀ (i j : Nat) (o o' : Oper) (d d' : Nat), i < m → j < m → ops[i]? = some o → ops[j]? = some o' → listed.getD i false = true → listed.getD j false = true → o.dst = some d → o'.dst = some d' → d ∈ A → d' ∈ A → d ≠ d' → a.eval (.tmp d) ≠ a.eval (.tmp d')
def IsBlock (v : Value) (b : Nat) : Prop := v = .pointer (some ⟨b, 0, none⟩)
theorem IsBlock.ne {u v : Value} {b b' : Nat} (h : IsBlock u b) (h' : IsBlock v b') (hne : b ≠ b') : u ≠ v := fun e => by
  rw [h, h'] at e; cases e; exact hne rfl
def StepG (A : List Nat) (P : Program) (m : Nat) (ops : Array Oper) (Ph : Nat → Value → World → Prop) (a0 : Act) (w0 : World) (o : Oper) : Prop :=
  ∀ (r : Operand → Value) (w : World), (∀ v, r (.const v) = v) → (∀ f, r (.func f) = .func (.func f) #[] #[]) → (∀ d, d ∉ dstsTo m ops → r (.tmp d) = a0.eval (.tmp d)) → (∀ d, waitsOn ops o d = true → Ph d (r (.tmp d)) w) → Below w0.heap.size w0 w →
    (wantedR ops r o = true → OpDoes P o r w fun v w' => (∀ d, o.dst = some d → Ph d v w' ∧ (d ∈ A → IsBlock v w.heap.size)) ∧ Below w.heap.size w w') ∧ (wantedR ops r o = false → ∀ d, o.dst = some d → Ph d undef w ∧ d ∉ A)
theorem wanted_eq {o : Oper} {a : Act} (hn : n = a.tmps.size) (h : ∀ j want, o.guard = some (j, want) → ∃ d, (ops[j]?).bind (·.dst) = some d ∧ d < n) : Region.wanted o (yielded ops a.tmps) = wantedR ops a.eval o := by
  unfold Region.wanted wantedR
  cases hg : o.guard with
  | none => rfl
  | some p =>
    obtain ⟨j, want⟩ := p
    obtain ⟨d, hd, hdn⟩ := h j want hg
    simp only [hd]
    have hlt : d < a.tmps.size := by rw [← hn]; exact hdn
    unfold yielded
    rw [hd]
    simp only [Option.bind_some, Act.eval, Array.getD_eq_getD_getElem?, Array.getElem?_eq_getElem hlt, Option.getD_some]
    cases a.tmps[d]'hlt <;> simp
theorem heldG_any (hp : partB m n ops = true) (hn : n = a0.tmps.size) (hms : m ≤ ops.size) (hA : ∀ d ∈ A, ∀ v w, Ph d v w → ∃ b, IsBlock v b ∧ b < w.heap.size) (hmono : ∀ d v w w', Ph d v w → Below w.heap.size w w' → Ph d v w') (hstep : ∀ o ∈ ops.toList.take m, StepG A P m ops Ph a0 w0 o)
    (hend : ∀ (f : Nat → Value) (w : World) (fuel : Nat), ops.size - m ≤ fuel → (∀ d ∈ dstsTo m ops, Ph d (f d) w) → (∀ d ∈ A, ∀ d' ∈ A, d ∈ dstsTo m ops → d' ∈ dstsTo m ops → d ≠ d' → f d ≠ f d') → Below w0.heap.size w0 w → wpAny P .any ops Q fuel (endListed m (ops.size - m)) ⟨fill a0.tmps f (dstsTo m ops), a0.defers⟩ w) :
    ∀ (fuel : Nat) (listed : Array Bool) (a : Act) (w : World), leftTo m listed + (ops.size - m) ≤ fuel → HeldG A m ops Ph a0 w0 listed a w → wpAny P .any ops Q fuel listed a w := by
  have fin : ∀ (fuel : Nat) (listed : Array Bool) (a : Act) (w : World), ops.size - m ≤ fuel → (∀ i, i < m → listed.getD i true = true) → HeldG A m ops Ph a0 w0 listed a w → wpAny P .any ops Q fuel listed a w := fun fuel listed a w hfu hall H => by
    have hl : ∀ i, i < m → listed.getD i false = true := fun i hi => getD_false H.lsize (by omega) (hall i hi)
    have hle : listed = endListed m (ops.size - m) := by
      refine Array.ext_getElem? fun k => ?_
      have hls := H.lsize
      by_cases hk : k < ops.size
      · have e1 : listed[k]? = some (listed.getD k true) := by simp [show k < listed.size by omega]
        rw [e1]
        unfold endListed
        rw [List.getElem?_toArray]
        by_cases hkm : k < m
        · rw [hall k hkm, List.getElem?_append_left (by simpa using hkm), List.getElem?_replicate, if_pos hkm]
        · rw [H.rest k (by omega) hk, List.getElem?_append_right (by simp; omega), List.getElem?_replicate, List.length_replicate, if_pos (by omega)]
      · rw [Array.getElem?_eq_none (by omega)]
        unfold endListed
        rw [List.getElem?_toArray, List.getElem?_eq_none (by simp; omega)]
    have ha : a = ⟨fill a0.tmps (fun d => a.eval (.tmp d)) (dstsTo m ops), a0.defers⟩ := by
      obtain ⟨tm, df⟩ := a
      have e1 : tm = fill a0.tmps (fun d => Act.eval ⟨tm, df⟩ (.tmp d)) (dstsTo m ops) := by
        refine Array.ext_getElem? fun k => ?_
        by_cases hk : k < a0.tmps.size
        · rw [fill_get _ _ _ _ hk]
          have hk' : k < tm.size := by have := H.size; simp only at this; omega
          by_cases hm : k ∈ dstsTo m ops
          · rw [if_pos hm]; simp [Act.eval, hk']
          · rw [if_neg hm]
            exact H.same k fun i o hi ho _ hd => hm (mem_dstsTo.2 ⟨i, o, hi, ho, hd⟩)
        · have hk' : ¬ k < tm.size := by have := H.size; simp only at this; omega
          rw [Array.getElem?_eq_none (by omega), Array.getElem?_eq_none (by rw [fill_size]; omega)]
      have e2 : df = a0.defers := H.defers
      rw [← e2, ← e1]
    rw [hle, ha]
    exact hend _ _ _ hfu (fun d hd => by
      obtain ⟨i, o, him, hi, ho⟩ := mem_dstsTo.1 hd
      exact H.has i o d him hi (hl i him) ho) (fun d hdA d' hdA' hd hd' hne => by
      obtain ⟨i, o, him, hi, ho⟩ := mem_dstsTo.1 hd
      obtain ⟨j, o', hjm, hj, ho'⟩ := mem_dstsTo.1 hd'
      exact H.apart i j o o' d d' him hjm hi hj (hl i him) (hl j hjm) ho ho' hdA hdA' hne) H.below
  have rdy : ∀ (listed : Array Bool), listed.size = ops.size → Region.ready .any ops listed = [] → ∀ i, i < m → listed.getD i true = true := fun listed hs hr i => by
    induction i using Nat.strongRecOn with
    | _ i ih =>
      intro him
      have hi := part_there hp him
      by_cases hu : listed.getD i true = true
      · exact hu
      · exfalso
        rw [Bool.not_eq_true] at hu
        have hoi : ops[i]? = some ops[i] := Array.getElem?_eq_getElem hi
        have hmem : i ∈ Region.ready .any ops listed := mem_ready.2 ⟨hu, _, hoi, fun e he _ => by
          have hlt := (part_op hp him hoi).1 e he
          exact getD_false hs (by omega) (ih e.on hlt (by omega))⟩
        rw [hr] at hmem
        cases hmem
  intro fuel
  induction fuel with
  | zero =>
    intro listed a w hf H
    refine fin 0 listed a w (by omega) (fun i hi => ?_) H
    by_cases hu : listed.getD i true = true
    · exact hu
    · rw [Bool.not_eq_true] at hu
      have := leftTo_pos hi hu
      omega
  | succ fuel ih =>
    intro listed a w hf H
    by_cases hall : ∀ i, i < m → listed.getD i true = true
    · exact fin (fuel + 1) listed a w (by omega) hall H
    refine ⟨fun hr => absurd (rdy listed H.lsize hr) hall, fun i hi => ?_⟩
    obtain ⟨hu, o, ho, hwait⟩ := mem_ready.1 hi
    have hlt : i < ops.size := (Array.getElem?_eq_some_iff.1 ho).1
    have him : i < m := by
      rcases Nat.lt_or_ge i m with h | h
      · exact h
      · exfalso
        refine hall fun j hj => ?_
        obtain ⟨e, he, hb, hre⟩ := part_rest hp (by omega : ¬ i < m) ho hj
        have h2 := hwait e he hb
        have hjs : j < listed.size := by rw [H.lsize]; exact part_there hp hj
        have h4 : listed.getD j false = true := reach_listed H.closed 6 e.on j h2 hre
        simp [hjs] at h4 ⊢; exact h4
    obtain ⟨hbefore, ⟨d, hd, hdn⟩, hgd⟩ := part_op hp him ho
    have hso := hstep o (List.mem_iff_getElem?.2 ⟨i, by rw [List.getElem?_take_of_lt him, Array.getElem?_toList]; exact ho⟩) a.eval w (fun v => rfl) (fun f => rfl) (fun k hk => by
        have := H.same k fun i o hi ho _ hd => hk (mem_dstsTo.2 ⟨i, o, hi, ho, hd⟩)
        simp [Act.eval, this]) (fun k hk => by
        unfold waitsOn at hk
        rw [Array.any_eq_true] at hk
        obtain ⟨j, hj, hb⟩ := hk
        rw [Bool.and_eq_true] at hb
        have hmem : o.after[j] ∈ o.after := Array.getElem_mem hj
        have hdst := eq_of_beq hb.2
        obtain ⟨o', ho', hd'⟩ := Option.bind_eq_some_iff.1 hdst
        exact H.has _ o' k (by have := hbefore _ hmem; omega) ho' (hwait _ hmem hb.1) hd') H.below
    have hl := leftTo_set him hu
    have hil : i < listed.size := by rw [H.lsize]; exact hlt
    have hds : d < a.tmps.size := by rw [H.size, ← hn]; exact hdn
    have next : ∀ (v : Value) (w' : World), Ph d v w' → (d ∈ A → IsBlock v w.heap.size) → Below w.heap.size w w' → wpAny P .any ops Q fuel (listed.setIfInBounds i true) (a.put o.dst v) w' := fun v w' hv hfr hb => by
      refine ih (listed.setIfInBounds i true) _ _ (by omega) ?_
      rw [hd]
      have own : Act.eval (a.put (some d) v) (.tmp d) = v := by simp [Act.eval, Act.put, hds]
      have oth : ∀ k, k ≠ d → Act.eval (a.put (some d) v) (.tmp k) = a.eval (.tmp k) := fun k hne => by
        simp only [Act.eval, Act.put, Array.getD_eq_getD_getElem?]
        rw [Array.getElem?_setIfInBounds_ne (fun h => hne h.symm)]
      refine ⟨by simp [Act.put, H.size], H.defers, by simp [H.lsize], fun k hk hks => ?_, fun k p hk hl => ?_, H.below.trans (hb.mono H.below.size), fun k hk => ?_, fun j o' k hj hjo hl hk => ?_, fun j j' p p' k k' hj hj' hjo hjo' hl hl' hk hk' hkA hkA' hne => ?_⟩
      · rw [getD_set_ne true (by omega)]; exact H.rest k hk hks
      · by_cases e : k = i
        · subst e
          rw [ho] at hk; cases hk
          exact fun e he hb => getD_set_true (hwait e he hb)
        · rw [getD_set_ne false (fun h => e h.symm)] at hl
          exact fun e he hb => getD_set_true (H.closed k p hk hl e he hb)
      · have hne : k ≠ d := fun e => hk i o him ho (getD_own hil) (by rw [e]; exact hd)
        simp only [Act.put]
        rw [Array.getElem?_setIfInBounds_ne (fun e => hne e.symm)]
        exact H.same k fun j o' hjm hj hl => hk j o' hjm hj (getD_set_true hl)
      · by_cases e : j = i
        · subst e
          rw [ho] at hjo; cases hjo
          rw [hd] at hk; cases hk
          rw [own]; exact hv
        · have hne : k ≠ d := fun h => e (part_one hp hj him hjo ho hk (by rw [h]; exact hd))
          rw [getD_set_ne false (fun h => e h.symm)] at hl
          rw [oth k hne]
          exact hmono _ _ _ _ (H.has j o' k hj hjo hl hk) hb
      · by_cases e : j = i
        · subst e
          rw [ho] at hjo; cases hjo
          rw [hd] at hk; cases hk
          have hne' : k' ≠ d := fun h => hne h.symm
          have e' : j' ≠ j := fun h => by
            subst h
            rw [ho] at hjo'; cases hjo'
            rw [hd] at hk'; cases hk'
            exact hne rfl
          rw [getD_set_ne false (fun h => e' h.symm)] at hl'
          obtain ⟨b', hb', hlt'⟩ := hA k' hkA' _ _ (H.has j' p' k' hj' hjo' hl' hk')
          rw [own, oth k' hne']
          exact (hfr hkA).ne hb' (by omega)
        · by_cases e' : j' = i
          · subst e'
            rw [ho] at hjo'; cases hjo'
            rw [hd] at hk'; cases hk'
            rw [getD_set_ne false (fun h => e h.symm)] at hl
            obtain ⟨b', hb', hlt'⟩ := hA k hkA _ _ (H.has j p k hj hjo hl hk)
            rw [own, oth k hne]
            exact hb'.ne (hfr hkA') (by omega)
          · rw [getD_set_ne false (fun h => e h.symm)] at hl
            rw [getD_set_ne false (fun h => e' h.symm)] at hl'
            have h1 : k ≠ d := fun h => e (part_one hp hj him hjo ho hk (by rw [h]; exact hd))
            have h2 : k' ≠ d := fun h => e' (part_one hp hj' him hjo' ho hk' (by rw [h]; exact hd))
            rw [oth k h1, oth k' h2]
            exact H.apart j j' p p' k k' hj hj' hjo hjo' hl hl' hk hk' hkA hkA' hne
    unfold wpOp
    simp only [ho]
    rw [wanted_eq (n := n) (by rw [hn, H.size]) hgd]
    by_cases hw : wantedR ops a.eval o = true
    · rw [if_pos hw]
      exact .inl (OpDoes.wp (hso.1 hw) fun v w' hv => next v w' (hv.1 d hd).1 (hv.1 d hd).2 hv.2)
    · rw [if_neg hw]
      rw [Bool.not_eq_true] at hw
      exact next undef w (hso.2 hw d hd).1 (fun h => absurd h (hso.2 hw d hd).2) (Below.refl _ _)
end
/-- a region that draws its order, each of the first m operations by itself; the others behind them. -/
theorem wp_region_part {P : Program} {id : Nat} {Q : Exit → Act → World → Prop} {a : Act} {w : World} {l : List Oper} (A : List Nat) (Ph : Nat → Value → World → Prop) (m n : Nat) (hm : P.follows .mixedOrders = true) (hp : partB m n l.toArray = true) (hn : n = a.tmps.size) (hms : decide (m ≤ l.length) = true)
    (hA : ∀ d ∈ A, ∀ v w, Ph d v w → ∃ b, IsBlock v b ∧ b < w.heap.size) (hmono : ∀ d v w w', Ph d v w → Below w.heap.size w w' → Ph d v w') (hstep : ∀ o ∈ l.take m, StepG A P m l.toArray Ph a w.drew o)
    (hend : ∀ (f : Nat → Value) (w' : World) (fuel : Nat), l.length - m ≤ fuel → (∀ d ∈ dstsTo m l.toArray, Ph d (f d) w') → (∀ d ∈ A, ∀ d' ∈ A, d ∈ dstsTo m l.toArray → d' ∈ dstsTo m l.toArray → d ≠ d' → f d ≠ f d') → Below w.drew.heap.size w.drew w' → wpAny P .any l.toArray Q fuel (endListed m (l.length - m)) ⟨fill a.tmps f (dstsTo m l.toArray), a.defers⟩ w') : (Code.region id l.toArray true).wp P Q a w := by
  have hms' : m ≤ l.length := of_decide_eq_true hms
  refine wp_region_any hm (heldG_any (w0 := w.drew) (A := A) hp hn (by simpa using hms') hA hmono (by simpa using hstep) (by simpa using hend) _ _ _ _ ?_ ?_)
  · unfold leftTo
    have := List.countP_le_length (p := fun i => !(Array.replicate l.toArray.size false).getD i true) (l := List.range m)
    rw [List.length_range] at this
    simp only [List.size_toArray] at this ⊢
    omega
  · refine ⟨rfl, rfl, by simp, fun i _ hi => ?_, fun i o hi hl => ?_, Below.refl _ _, fun _ _ => rfl, fun i o d _ hi hl => ?_, fun i j o o' d d' _ _ _ _ hl => ?_⟩
    · simp only [Array.getD_eq_getD_getElem?, Array.getElem?_replicate]
      rw [if_pos hi]; rfl
    · exfalso
      simp only [Array.getD_eq_getD_getElem?, Array.getElem?_replicate] at hl
      split at hl <;> simp at hl
    · exfalso
      simp only [Array.getD_eq_getD_getElem?, Array.getElem?_replicate] at hl
      split at hl <;> simp at hl
    · exfalso
      simp only [Array.getD_eq_getD_getElem?, Array.getElem?_replicate] at hl
      split at hl <;> simp at hl
/-- all of them. -/
theorem wp_region_all {P : Program} {id : Nat} {Q : Exit → Act → World → Prop} {a : Act} {w : World} {l : List Oper} (Ph : Nat → Value → World → Prop) (n : Nat) (hm : P.follows .mixedOrders = true) (hp : partB l.length n l.toArray = true) (hn : n = a.tmps.size)
    (hmono : ∀ d v w w', Ph d v w → Below w.heap.size w w' → Ph d v w') (hstep : ∀ o ∈ l, StepG [] P l.length l.toArray Ph a w.drew o)
    (hend : ∀ (f : Nat → Value) (w' : World), (∀ d ∈ dstsTo l.length l.toArray, Ph d (f d) w') → Below w.drew.heap.size w.drew w' → Q .normal ⟨fill a.tmps f (dstsTo l.length l.toArray), a.defers⟩ w') : (Code.region id l.toArray true).wp P Q a w := by
  refine wp_region_part [] Ph l.length n hm hp hn (by simp) (fun _ h => by cases h) hmono (by simpa using hstep) fun f w' fuel _ hf _ hb => wpAny_done ?_ (hend f w' hf hb) fuel
  refine List.eq_nil_iff_forall_not_mem.2 fun i hi => ?_
  obtain ⟨hu, o, ho, _⟩ := mem_ready.1 hi
  have hlt : i < l.length := by simpa using (Array.getElem?_eq_some_iff.1 ho).1
  unfold endListed at hu
  simp [hlt] at hu
/-- the next, where just one may come up. -/
theorem wpAny_next {P : Program} {ops : Array Oper} {Q : Exit → Act → World → Prop} {a : Act} {w : World} {fuel i : Nat} {listed : Array Bool} {o : Oper} (hr : Region.ready .any ops listed = [i]) (ho : ops[i]? = some o) (hg : o.guard = none)
    (h : o.wp P a w (wpAny P .any ops Q fuel (listed.setIfInBounds i true)) Q) : wpAny P .any ops Q (fuel + 1) listed a w := by
  refine wpAny_all hr (by simp) fun j hj => ?_
  rw [List.mem_singleton] at hj
  subst hj
  unfold wpOp
  simp only [ho]
  have hw : Region.wanted o (yielded ops a.tmps) = true := by unfold Region.wanted; rw [hg]
  rw [if_pos hw]
  exact .inl h
theorem wp_skip {P : Program} {o : Oper} {a : Act} {w w' : World} {K : Act → World → Prop} {Q : Exit → Act → World → Prop} (h : (execOp a.eval o).run P w = .ok .skip w') (hd : o.dst = none) (hK : K a w') : o.wp P a w K Q := by
  unfold Oper.wp
  rw [h, Oper.upon_skip, hd]
  exact hK
theorem want_n {A : List Nat} {P : Program} {ops : Array Oper} {Ph : Nat → Value → World → Prop} {o : Oper} {r : Operand → Value} {w : World} (hg : o.guard = none) (h : OpDoes P o r w fun v w' => (∀ d, o.dst = some d → Ph d v w' ∧ (d ∈ A → IsBlock v w.heap.size)) ∧ Below w.heap.size w w') :
    (wantedR ops r o = true → OpDoes P o r w fun v w' => (∀ d, o.dst = some d → Ph d v w' ∧ (d ∈ A → IsBlock v w.heap.size)) ∧ Below w.heap.size w w') ∧ (wantedR ops r o = false → ∀ d, o.dst = some d → Ph d undef w ∧ d ∉ A) :=
  ⟨fun _ => h, fun hw => by unfold wantedR at hw; rw [hg] at hw; simp at hw⟩
theorem want_g {A : List Nat} {P : Program} {ops : Array Oper} {Ph : Nat → Value → World → Prop} {o : Oper} {r : Operand → Value} {w : World} (j : Nat) {b : Bool} (d : Nat) (hg : o.guard = some (j, b)) (hj : (ops[j]?).bind (·.dst) = some d) (hv : r (.tmp d) = .bool b)
    (h : OpDoes P o r w fun v w' => (∀ d, o.dst = some d → Ph d v w' ∧ (d ∈ A → IsBlock v w.heap.size)) ∧ Below w.heap.size w w') :
    (wantedR ops r o = true → OpDoes P o r w fun v w' => (∀ d, o.dst = some d → Ph d v w' ∧ (d ∈ A → IsBlock v w.heap.size)) ∧ Below w.heap.size w w') ∧ (wantedR ops r o = false → ∀ d, o.dst = some d → Ph d undef w ∧ d ∉ A) :=
  ⟨fun _ => h, fun hw => by
    unfold wantedR at hw
    rw [hg] at hw
    simp only [hj, hv] at hw
    simp at hw⟩
end Go.Proofs.Yteebbffecaeciaa
/- The walk that counts what is unfolded: what its calls keep, spend, all. -/
namespace Go.Proofs.Yteebbffecaeciaa
open Go.RowKit



theorem TCells.keep2 {w w' : World} {b o : Nat} {t : TT} {A : TA} (h : TCells w b o t A) (hc : ∀ o v, w.cell? ⟨b, o, none⟩ = some v → w'.cell? ⟨b, o, none⟩ = some v) : TCells w' b o t A := by
  obtain ⟨h0, h1, h2, h3, h4, h5, h6, h7, h8, h9, h10, h11, h12, h13, h14⟩ := h
  exact ⟨hc _ _ h0, hc _ _ h1, hc _ _ h2, hc _ _ h3, hc _ _ h4, hc _ _ h5, hc _ _ h6, hc _ _ h7, hc _ _ h8, hc _ _ h9, hc _ _ h10, hc _ _ h11, hc _ _ h12, hc _ _ h13, hc _ _ h14⟩
/-- what a call of the walk keeps: all but the block B of its count. -/
structure Kp (B : Nat) (w w' : World) : Prop where
  below : Below B w w'
  rest : ∀ k, k < w.heap.size → k ≠ B → w'.heap[k]? = w.heap[k]?
theorem Kp.refl (B : Nat) (w : World) : Kp B w w := ⟨Below.refl _ _, fun _ _ _ => rfl⟩
theorem Kp.trans {B : Nat} {a b c : World} (h : Kp B a b) (k : Kp B b c) : Kp B a c := ⟨h.below.trans k.below, fun i hi hne => (k.rest i (Nat.lt_of_lt_of_le hi h.below.size) hne).trans (h.rest i hi hne)⟩
theorem Kp.grow {B : Nat} {a b : World} (hB : B ≤ a.heap.size) (h : Below a.heap.size a b) : Kp B a b := ⟨h.mono hB, fun k hk _ => h.block k hk⟩
theorem Kp.set {B : Nat} (w : World) (q : Nat) (v : Value) : Kp B w (w.setCell ⟨B, q, none⟩ v) := ⟨(Below.refl _ _).setCell (p := ⟨B, q, none⟩) (Nat.le_refl B) v, fun k _ hne => Below.heap_setCell w ⟨B, q, none⟩ v k hne⟩
theorem Kp.cell {B : Nat} {w w' : World} (h : Kp B w w') {b o : Nat} {v : Value} (hb : b ≠ B) (hc : w.cell? ⟨b, o, none⟩ = some v) : w'.cell? ⟨b, o, none⟩ = some v := by
  rw [World.cell?_of_block (w := w) (a := ⟨b, o, none⟩) (h.rest b (lt_of_cell hc) hb)]; exact hc
theorem Kp.size {B : Nat} {w w' : World} (h : Kp B w w') : w.heap.size ≤ w'.heap.size := h.below.size
/-- what stands around: Sizeds, each with a Lo of its own. -/
def FrIn (wb : World) (B : Nat) (w : World) : List (TT × Nat) → Option Addr → Prop
  | [], p => p = none
  | (t, lo) :: fs, p => ∃ b A, p = some ⟨b, 0, none⟩ ∧ b ≠ B ∧ TCells w b 0 t A ∧ TOk wb t A ∧ w.cell? ⟨b, 15, none⟩ = some (.int .i64 lo) ∧ ∃ up, w.cell? ⟨b, 16, none⟩ = some (.pointer up) ∧ FrIn wb B w fs up
theorem FrIn.kp {wb : World} {B : Nat} {w w' : World} (h : Kp B w w') : ∀ {fs : List (TT × Nat)} {p : Option Addr}, FrIn wb B w fs p → FrIn wb B w' fs p
  | [], _, hf => hf
  | (t, lo) :: fs, p, hf => by
    obtain ⟨b, A, e, hb, hc, ht, h15, up, h16, hr⟩ := hf
    exact ⟨b, A, e, hb, TCells.keep2 hc (fun o v hv => h.cell hb hv), ht, h.cell hb h15, up, h.cell hb h16, hr.kp h⟩
def frB : List (TT × Nat) → Nat
  | [] => 0
  | (t, lo) :: fs => TT.bulk10 t.args lo (frB fs)
def frH : List (TT × Nat) → Nat
  | [] => 0
  | (t, lo) :: fs => TT.high10 t.args lo (frH fs)
def tooMuchV : Value := .iface 122 (.agg #[])
/-- what a call of the walk does: it counts c more, and tells h; or it is too much. -/
def Spent (B : Nat) (w : World) (n c h : Nat) (e : Ending) (w' : World) : Prop :=
  Kp B w w' ∧ RowAt w' 120 B 1 ∧ ((n + c ≤ 4096 ∧ e = .returned (.int .i64 h) ∧ w'.cell? ⟨B, 0, none⟩ = some (.int .i64 (n + c : Nat))) ∨ (4096 < n + c ∧ e = .panicked [{ v := tooMuchV, recovered := false }]))
/-- where the walk stands. -/
structure At (wb : World) (B : Nat) (w : World) (n : Nat) : Prop where
  below : Below wb.heap.size wb w
  lo : wb.heap.size ≤ B
  row : RowAt w 120 B 1
  cell : w.cell? ⟨B, 0, none⟩ = some (.int .i64 n)
  le : n ≤ 4096
theorem At.kp {wb : World} {B : Nat} {w w' : World} {n m : Nat} (h : At wb B w n) (k : Kp B w w') (hr : RowAt w' 120 B 1) (hc : w'.cell? ⟨B, 0, none⟩ = some (.int .i64 m)) (hm : m ≤ 4096) : At wb B w' m :=
  ⟨h.below.trans (k.below.mono h.lo), h.lo, hr, hc, hm⟩
theorem At.al {wb : World} {B : Nat} {w w' : World} {n : Nat} (h : At wb B w n) (k : Below w.heap.size w w') : At wb B w' n :=
  h.kp (Kp.grow (Nat.le_of_lt h.row.lt) k) (h.row.below h.row.lt k) (cell_stays k h.cell) h.le
def TermDoes (wb : World) (B : Nat) (t : TT) (fs : List (TT × Nat)) : Prop := ∀ (w : World) (x : Value) (fp : Option Addr) (n times : Nat), At wb B w n → TIn wb t x → 1 ≤ times → times ≤ 65536 → FrIn wb B w fs fp →
  Calls Try.prog 104 #[.pointer (some ⟨B, 0, none⟩), x, .pointer fp, .int .i64 times] w (Spent B w n (times * t.bulk (frB fs)) (t.high (frH fs)))
def SizedDoes (wb : World) (B : Nat) (t : TT) (lo : Nat) (fs : List (TT × Nat)) : Prop := ∀ (w : World) (x : Value) (fp : Option Addr) (n times : Nat), At wb B w n → TIn wb t x → 1 ≤ times → times ≤ 65536 → FrIn wb B w fs fp →
  Calls Try.prog 129 #[.pointer (some ⟨B, 0, none⟩), x, .int .i64 lo, .pointer fp, .int .i64 times] w (Spent B w n (times * TT.bulk10 t.args lo (frB fs)) (TT.high10 t.args lo (frH fs)))
/-- what stands around is unfolded rightly. -/
def Good (wb : World) (B : Nat) : List (TT × Nat) → Prop
  | [] => True
  | (t, lo) :: fs => SizedDoes wb B t lo fs ∧ frH ((t, lo) :: fs) ≤ frB ((t, lo) :: fs)
theorem Good.le {wb : World} {B : Nat} : ∀ {fs : List (TT × Nat)}, Good wb B fs → frH fs ≤ frB fs
  | [], _ => Nat.le_refl _
  | (_, _) :: _, h => h.2

/-! spend -/
set_option maxRecDepth 100000 in
theorem spend_ok (B n c : Nat) (w : World) (hr : RowAt w 120 B 1) (hc : w.cell? ⟨B, 0, none⟩ = some (.int .i64 n)) (hn : n + c ≤ 4096) :
    Calls Try.prog 127 #[.pointer (some ⟨B, 0, none⟩), .int .i64 c] w fun e w' => e = .returned (.tuple #[]) ∧ w.setCell ⟨B, 0, none⟩ (.int .i64 (n + c : Nat)) = w' := by
  have hz := hr.frozen 0
  have hc2 := set_same (v := .int .i64 ((n : Int) + (c : Int))) hc
  have hle : (n : Int) + (c : Int) ≤ 4096 := by omega
  clear hr hn
  go_enter Try.func127, Try.ntmps127
  go_wp2_with fail
  refine bodyPost_end (v := .tuple #[]) (by simp [results, Try.results127, go_sem]) rfl ⟨rfl, ?_⟩
  rw [Int.natCast_add]
set_option maxRecDepth 100000 in
theorem spend_much (B n c : Nat) (w : World) (hr : RowAt w 120 B 1) (hc : w.cell? ⟨B, 0, none⟩ = some (.int .i64 n)) (hn0 : n ≤ 4096) (hc0 : c ≤ 1000000000) (hn : 4096 < n + c) :
    Calls Try.prog 127 #[.pointer (some ⟨B, 0, none⟩), .int .i64 c] w fun e w' => e = .panicked [{ v := tooMuchV, recovered := false }] ∧ w.setCell ⟨B, 0, none⟩ (.int .i64 (n + c : Nat)) = w' := by
  have hz := hr.frozen 0
  have hc2 := set_same (v := .int .i64 ((n : Int) + (c : Int))) hc
  have hle : 4096 < (n : Int) + (c : Int) := by omega
  clear hr hn
  go_enter Try.func127, Try.ntmps127
  go_wp2_with fail
  refine ⟨rfl, rfl, ?_⟩
  rw [Int.natCast_add]
end Go.Proofs.Yteebbffecaeciaa
/- What the temporaries of a region over terms hold; a call behind them. -/
namespace Go.Proofs.Yteebbffecaeciaa
open Go.RowKit

/-- what a temporary holds. -/
inductive TQ where
  | term (t : TT)
  | val (t : VT)
  | pred (t : PT)
  | row (l : List TT)
  | fixed (v : Value)
  | prop (p : Value → World → Prop) (h : ∀ v w w', p v w → Below w.heap.size w w' → p v w')
def TQ.ok : TQ → Value → World → Prop
  | .term t, v, w => TIn w t v
  | .val t, v, w => VIn w t v
  | .pred t, v, w => PIn w t v
  | .row l, v, w => ∃ a n cap, v = .slice a n cap ∧ n = l.length ∧ l.length ≤ 651562446070 ∧ TRow w l a
  | .fixed u, v, _ => v = u
  | .prop p _, v, w => p v w
theorem TQ.mono {w w' : World} (hb : Below w.heap.size w w') : ∀ (k : TQ) (v : Value), k.ok v w → k.ok v w'
  | .term _, _, h => TIn.below hb h
  | .val _, _, h => VIn.below hb h
  | .pred _, _, h => PIn.below hb h
  | .row _, _, ⟨a, n, cap, e, hn, hl, h⟩ => ⟨a, n, cap, e, hn, hl, h.below hb⟩
  | .fixed _, _, h => h
  | .prop _ hp, _, h => hp _ _ _ h hb
/-- the kinds of the temporaries. -/
def kindT (ks : List (Nat × TQ)) (d : Nat) (v : Value) (w : World) : Prop := ((ks.lookup d).getD (.fixed v)).ok v w
theorem kindT_mono (ks : List (Nat × TQ)) (d : Nat) (v : Value) (w w' : World) (h : kindT ks d v w) (hb : Below w.heap.size w w') : kindT ks d v w' := TQ.mono hb _ _ h
section
variable {A : List Nat} {o : Oper} {r : Operand → Value} {w : World} {d : Nat} {ks : List (Nat × TQ)}
theorem st_value {v : Value} (hd : o.dst = some d) (hA : decide (d ∉ A) = true) (h : (execOp r o).run Try.prog w = .ok (.value v) w) (hk : kindT ks d v w) :
    OpDoes Try.prog o r w fun v w' => (∀ d, o.dst = some d → kindT ks d v w' ∧ (d ∈ A → IsBlock v w.heap.size)) ∧ Below w.heap.size w w' :=
  .value h ⟨fun d' e => by rw [hd] at e; cases e; exact ⟨hk, fun h => absurd h (of_decide_eq_true hA)⟩, Below.refl _ _⟩
theorem st_new {v : Value} {w' : World} (hd : o.dst = some d) (hA : decide (d ∉ A) = true) (h : (execOp r o).run Try.prog w = .ok (.value v) w') (hb : Below w.heap.size w w') (hk : kindT ks d v w') :
    OpDoes Try.prog o r w fun v w' => (∀ d, o.dst = some d → kindT ks d v w' ∧ (d ∈ A → IsBlock v w.heap.size)) ∧ Below w.heap.size w w' :=
  .value h ⟨fun d' e => by rw [hd] at e; cases e; exact ⟨hk, fun h => absurd h (of_decide_eq_true hA)⟩, hb⟩
theorem st_call {f : FuncId} {args : Array Value} (hd : o.dst = some d) (hA : decide (d ∉ A) = true) (h : (execOp r o).run Try.prog w = .ok (.enter f args) w) (hc : Calls Try.prog f args w fun e w' => ∃ v, e = .returned v ∧ kindT ks d v w' ∧ Below w.heap.size w w') :
    OpDoes Try.prog o r w fun v w' => (∀ d, o.dst = some d → kindT ks d v w' ∧ (d ∈ A → IsBlock v w.heap.size)) ∧ Below w.heap.size w w' :=
  .enter h (hc.mono fun e w' ⟨v, he, hk, hb⟩ => ⟨v, he, fun d' e => by rw [hd] at e; cases e; exact ⟨hk, fun h => absurd h (of_decide_eq_true hA)⟩, hb⟩)
end
theorem tfm {α : Type} {p : α → Prop} {a : α} {l : List α} (h : p a) (hl : ∀ x ∈ l, p x) : ∀ x ∈ a :: l, p x := List.forall_mem_cons.2 ⟨h, hl⟩
theorem tfmnil {α : Type} {p : α → Prop} : ∀ x ∈ ([] : List α), p x := fun _ h => by cases h
/-- a call that stands behind all else: it may return, or panic. -/
theorem wp_enter {P : Program} {o : Oper} {a : Act} {w w' : World} {f : FuncId} {args : Array Value} {R : Ending → World → Prop} {K : Act → World → Prop} {Q : Exit → Act → World → Prop} (h : (execOp a.eval o).run P w = .ok (.enter f args) w') (hc : Calls P f args w' R)
    (hR : ∀ v w'', R (.returned v) w'' → K (a.put o.dst v) w'') (hP : ∀ c w'', R (.panicked c) w'' → Q (.panic c) a w'') (hO : ∀ w'', ¬ R .outgrown w'') : o.wp P a w K Q := by
  unfold Oper.wp
  rw [h]
  show Calls P f args w' _
  refine hc.mono fun e w'' hr => ?_
  cases e with
  | returned v => exact hR v w'' hr
  | panicked c => exact hP c w'' hr
  | outgrown => exact absurd hr (hO w'')
theorem wp_val {P : Program} {o : Oper} {a : Act} {w w' : World} {v : Value} {K : Act → World → Prop} {Q : Exit → Act → World → Prop} (h : (execOp a.eval o).run P w = .ok (.value v) w') (hK : K (a.put o.dst v) w') : o.wp P a w K Q := by
  unfold Oper.wp
  rw [h]
  exact hK
end Go.Proofs.Yteebbffecaeciaa
/- A region that draws its order, walked once: a chosen set of its operations each by itself; the others, which wait for them all, behind them. -/
namespace Go.Proofs.Yteebbffecaeciaa
open Go.RowKit

section
variable {F : Nat → Bool} {n : Nat} {ops : Array Oper}
theorem nodup_filterMap {α : Type} {f : Nat → Option α} : ∀ {l : List Nat}, (l.filterMap f).Nodup → ∀ {i j : Nat} {d : α}, i ∈ l → j ∈ l → l.Nodup → f i = some d → f j = some d → i = j
  | a :: l, h, i, j, d, hi, hj, hl, hfi, hfj => by
    rw [List.nodup_cons] at hl
    rw [List.filterMap_cons] at h
    have tailmem : ∀ k, k ∈ l → f k = some d → d ∈ l.filterMap f := fun k hk hfk => List.mem_filterMap.2 ⟨k, hk, hfk⟩
    rcases List.mem_cons.1 hi with rfl | hi' <;> rcases List.mem_cons.1 hj with rfl | hj'
    · rfl
    · exfalso
      rw [hfi] at h
      exact (List.nodup_cons.1 h).1 (tailmem j hj' hfj)
    · exfalso
      rw [hfj] at h
      exact (List.nodup_cons.1 h).1 (tailmem i hi' hfi)
    · have h' : (l.filterMap f).Nodup := by
        cases hfa : f a with
        | none => rw [hfa] at h; exact h
        | some x => rw [hfa] at h; exact (List.nodup_cons.1 h).2
      exact nodup_filterMap h' hi' hj' hl.2 hfi hfj
variable {P : Program} {Q : Exit → Act → World → Prop} {Ph : Nat → Value → World → Prop} {a0 : Act} {w0 : World}
end
end Go.Proofs.Yteebbffecaeciaa
/- term.Copy: what its regions hold. -/
namespace Go.Proofs.Yteebbffecaeciaa
open Go.RowKit

/-- a value, a predicate, numbers, just made: their rows lie from lo on. -/
def FrV (lo : Nat) (t : VT) (x : Value) (w : World) : Prop := ∃ a c, x = .agg #[.int .u8 t.kind, .int .i64 t.num, .slice a t.items.length c] ∧ FIn w lo t x
def FrP (lo : Nat) (t : PT) (x : Value) (w : World) : Prop := ∃ va vc a c, x = .agg #[.int .u8 t.kind, .int .u8 t.val.kind, .int .i64 t.val.num, .slice va t.val.items.length vc, .int .i64 t.num, .slice a t.args.length c] ∧ PFIn w lo t x
def FrW (lo : Nat) (ws : List Int) (x : Value) (w : World) : Prop := ∃ a c, x = .slice a ws.length c ∧ (ws = [] ∨ ∃ b, a = some ⟨b, 0, none⟩ ∧ lo ≤ b ∧ WFRow w ws b 0)
/-- a row just cloned from the row at a, as that was in the world w0. -/
def ClR (lo T K n : Nat) (a : Option Addr) (w0 : World) (x : Value) (w : World) : Prop := ∃ a' c, x = .slice a' n c ∧ (n = 0 ∨ ∃ B, a' = some ⟨B, 0, none⟩ ∧ lo ≤ B ∧ RowAt w T B (c * K) ∧ n ≤ c ∧ ∀ b o j u, a = some ⟨b, o, none⟩ → j < n * K → w0.cell? ⟨b, o + j, none⟩ = some u → w.cell? ⟨B, j, none⟩ = some u)
theorem FrV.mono (lo : Nat) (t : VT) (x : Value) (w w' : World) (h : FrV lo t x w) (hb : Below w.heap.size w w') : FrV lo t x w' := by obtain ⟨a, c, e, h⟩ := h; exact ⟨a, c, e, h.below hb⟩
theorem FrP.mono (lo : Nat) (t : PT) (x : Value) (w w' : World) (h : FrP lo t x w) (hb : Below w.heap.size w w') : FrP lo t x w' := by obtain ⟨va, vc, a, c, e, h⟩ := h; exact ⟨va, vc, a, c, e, h.below hb⟩
theorem FrW.mono (lo : Nat) (ws : List Int) (x : Value) (w w' : World) (h : FrW lo ws x w) (hb : Below w.heap.size w w') : FrW lo ws x w' := by
  obtain ⟨a, c, e, h⟩ := h
  exact ⟨a, c, e, h.imp id fun ⟨b, ha, hlo, hr⟩ => ⟨b, ha, hlo, WFRow.mono (lo := lo) (fun _ _ _ _ hc => cell_stays hb hc) (fun _ _ _ _ hc hf => frozen_stay hb (lt_of_cell hc) hf) ws b 0 hlo hr⟩⟩
theorem ClR.mono (lo T K n : Nat) (a : Option Addr) (w0 : World) (x : Value) (w w' : World) (h : ClR lo T K n a w0 x w) (hb : Below w.heap.size w w') : ClR lo T K n a w0 x w' := by
  obtain ⟨a', c, e, h⟩ := h
  exact ⟨a', c, e, h.imp id fun ⟨B, ha, hlo, hr, hn, hc⟩ => ⟨B, ha, hlo, hr.below hr.lt hb, hn, fun b o j u h1 h2 h3 => cell_stays hb (hc b o j u h1 h2 h3)⟩⟩
theorem frV_of {f : FuncId} {args : Array Value} {w : World} {t : VT} {lo : Nat} (hlo : lo ≤ w.heap.size) (h : Calls Try.prog f args w (CopyOf t w)) : Calls Try.prog f args w fun e w' => ∃ v, e = .returned v ∧ FrV lo t v w' ∧ Below w.heap.size w w' :=
  h.mono fun e w' ⟨v, he, hf, hb⟩ => by
    obtain ⟨k, n, its⟩ := t
    obtain ⟨a, c, _, e2, _⟩ := hf.open
    exact ⟨v, he, ⟨a, c, e2, hf.less hlo⟩, hb⟩
theorem frP_of {f : FuncId} {args : Array Value} {w : World} {t : PT} {lo : Nat} (hlo : lo ≤ w.heap.size) (h : Calls Try.prog f args w (PCopyOf t w)) : Calls Try.prog f args w fun e w' => ∃ v, e = .returned v ∧ FrP lo t v w' ∧ Below w.heap.size w w' :=
  h.mono fun e w' ⟨v, he, hf, hb⟩ => by
    obtain ⟨k, vt, n, l⟩ := t
    obtain ⟨va, vc, a, c, _, _, e2, _, _⟩ := hf.open
    exact ⟨v, he, ⟨va, vc, a, c, e2, hf.less hlo⟩, hb⟩
theorem clR_of {f : FuncId} {args : Array Value} {w w0 : World} {T K n lo : Nat} {a : Option Addr} (hlo : lo ≤ w.heap.size) (h0 : Below w0.heap.size w0 w) (h : Calls Try.prog f args w (CloneG T K n a w)) : Calls Try.prog f args w fun e w' => ∃ v, e = .returned v ∧ ClR lo T K n a w0 v w' ∧ Below w.heap.size w w' :=
  h.mono fun e w' ⟨a', c, he, hb, hor⟩ => ⟨_, he, ⟨a', c, rfl, hor.imp id fun ⟨B, h1, h2, h3, h4, h5⟩ => ⟨B, h1, by omega, h3, h4, fun b o j u e1 e2 e3 => h5 b o j u e1 e2 (cell_stays h0 e3)⟩⟩, hb⟩
theorem frW_of {f : FuncId} {args : Array Value} {w : World} {ws : List Int} {lo : Nat} {a : Option Addr} (hlo : lo ≤ w.heap.size) (hr : WRow w ws a) (h : Calls Try.prog f args w (CloneG 2 1 ws.length a w)) : Calls Try.prog f args w fun e w' => ∃ v, e = .returned v ∧ FrW lo ws v w' ∧ Below w.heap.size w w' :=
  h.mono fun e w' ⟨a', c, he, hb, hor⟩ => ⟨_, he, ⟨a', c, rfl, by
    by_cases h0 : ws = []
    · exact .inl h0
    · have hpos : 0 < ws.length := List.length_pos_iff.2 h0
      rcases hor with h | ⟨B, h1, h2, h3, h4, h5⟩
      · omega
      · refine .inr ⟨B, h1, by omega, WFRow.of B ws 0 fun i hi => ?_⟩
        obtain ⟨b, o, e, hc⟩ := hr.get i hi
        rw [Nat.zero_add]
        exact ⟨h5 b o i _ e (by omega) hc, h3.frozen i⟩⟩, hb⟩
/-- cells written into one block: what is so behind. -/
theorem stored (B : Nat) (L : List (Nat × Value)) (w : World) (hn : (L.map (·.1)).Nodup) (hc : ∀ p ∈ L, ∃ x, w.cell? ⟨B, p.1, none⟩ = some x) : ∃ w', setL B L w = w' ∧ (∀ p ∈ L, w'.cell? ⟨B, p.1, none⟩ = some p.2) ∧
    (∀ b o v, (b = B → o ∉ L.map (·.1)) → w.cell? ⟨b, o, none⟩ = some v → w'.cell? ⟨b, o, none⟩ = some v) ∧ (∀ p, w'.frozen? p = w.frozen? p) ∧ (∀ t b n, RowAt w t b n → RowAt w' t b n) ∧ w'.heap.size = w.heap.size ∧ (∀ lo a, lo ≤ B → Below lo a w → Below lo a w') ∧ (∀ k, k ≠ B → w'.heap[k]? = w.heap[k]?) :=
  ⟨_, rfl, setL_in B L w hn hc, fun b o v h hv => by rw [setL_out B b o L w h]; exact hv, fun p => setL_frozen B p L w, fun t b n h => setL_row B L w h, setL_size B L w, fun lo a h hb => setL_below B h L w hb, fun k hk => setL_block B hk L w⟩
/-- what a copy of t is. -/
def TCopyOf (t : TT) (w : World) (e : Ending) (w' : World) : Prop := ∃ x', e = .returned x' ∧ TFIn w' w.heap.size t x' ∧ Below w.heap.size w w'
end Go.Proofs.Yteebbffecaeciaa
/- A region that draws its order, walked once, operation by operation, with stores into one block among them. -/
namespace Go.Proofs.Yteebbffecaeciaa
open Go.RowKit

/-- what was there stays, but for some cells of the block B. -/
structure Ch (B : Nat) (offs : List Nat) (w w' : World) : Prop where
  below : Below B w w'
  block : ∀ k, k < w.heap.size → k ≠ B → w'.heap[k]? = w.heap[k]?
  cell : ∀ o v, o ∉ offs → w.cell? ⟨B, o, none⟩ = some v → w'.cell? ⟨B, o, none⟩ = some v
  row : ∀ t n, RowAt w t B n → RowAt w' t B n
theorem Ch.refl (B : Nat) (offs : List Nat) (w : World) : Ch B offs w w := ⟨Below.refl _ _, fun _ _ _ => rfl, fun _ _ _ h => h, fun _ _ h => h⟩
theorem Ch.trans {B : Nat} {l m : List Nat} {a b c : World} (h : Ch B l a b) (k : Ch B m b c) : Ch B (l ++ m) a c :=
  ⟨h.below.trans k.below, fun i hi hne => (k.block i (Nat.lt_of_lt_of_le hi h.below.size) hne).trans (h.block i hi hne), fun o v ho hc => k.cell o v (fun e => ho (List.mem_append.2 (.inr e))) (h.cell o v (fun e => ho (List.mem_append.2 (.inl e))) hc), fun t n hr => k.row t n (h.row t n hr)⟩
theorem Ch.more {B : Nat} {l m : List Nat} {a b : World} (h : Ch B l a b) (hs : ∀ o ∈ l, o ∈ m) : Ch B m a b := ⟨h.below, h.block, fun o v ho hc => h.cell o v (fun e => ho (hs o e)) hc, h.row⟩
theorem Ch.grow {B : Nat} {a b : World} (hB : B < a.heap.size) (h : Below a.heap.size a b) : Ch B [] a b := ⟨h.mono (Nat.le_of_lt hB), fun k hk _ => h.block k hk, fun _ _ _ hc => cell_stays h hc, fun _ _ hr => hr.below hB h⟩
theorem Ch.other {B : Nat} {l : List Nat} {a b : World} (h : Ch B l a b) {c o : Nat} {v : Value} (hc : c ≠ B) (hv : a.cell? ⟨c, o, none⟩ = some v) : b.cell? ⟨c, o, none⟩ = some v := by
  rw [World.cell?_of_block (w := a) (a := ⟨c, o, none⟩) (h.block c (lt_of_cell hv) hc)]; exact hv
theorem Ch.frozen {B : Nat} {l : List Nat} {a b : World} (h : Ch B l a b) {c o : Nat} {v : Value} (hc : c ≠ B) (hv : a.cell? ⟨c, o, none⟩ = some v) (hf : a.frozen? ⟨c, o, none⟩ = false) : b.frozen? ⟨c, o, none⟩ = false := by
  have e := h.block c (lt_of_cell hv) hc
  rw [← hf]
  unfold World.frozen?
  rw [e]
theorem Ch.set {B : Nat} (L : List (Nat × Value)) (w : World) : Ch B (L.map (·.1)) w (setL B L w) :=
  ⟨setL_below B (Nat.le_refl _) L w (Below.refl _ _), fun k _ hk => setL_block B hk L w, fun o v ho hc => by rw [setL_out B B o L w (fun _ => ho)]; exact hc, fun t n hr => setL_row B L w hr⟩

def mayBe (ops : Array Oper) (offs : Nat → List Nat) (i : Nat) : List Nat := (List.range ops.size).flatMap fun s => if s == i || reachB ops 6 s i then [] else offs s
def wroteOf (ops : Array Oper) (offs : Nat → List Nat) (listed : Array Bool) : List Nat := (List.range ops.size).flatMap fun s => if listed.getD s false then offs s else []
/-- no guard, what each waits for stands ahead of it; temporaries, and cells written, of its own. -/
def plainH (n : Nat) (ops : Array Oper) (offs : Nat → List Nat) : Bool :=
  ((List.range ops.size).all fun i => match ops[i]? with
    | none => true
    | some o => o.guard.isNone && o.after.all (fun e => decide (e.on < i)) && (match o.dst with | none => true | some d => decide (d < n) && (offs i).isEmpty) &&
      (List.range ops.size).all fun j => j == i || (offs i).all fun x => !(offs j).contains x) &&
  decide ((List.range ops.size).filterMap fun i => (ops[i]?).bind (·.dst)).Nodup
section
variable {n : Nat} {ops : Array Oper} {offs : Nat → List Nat}
theorem plainH_op (h : plainH n ops offs = true) {i : Nat} {o : Oper} (hi : ops[i]? = some o) : o.guard = none ∧ (∀ e ∈ o.after, e.on < i) ∧ (∀ d, o.dst = some d → d < n ∧ offs i = []) ∧ ∀ j, j < ops.size → j ≠ i → ∀ x ∈ offs i, x ∉ offs j := by
  unfold plainH at h
  rw [Bool.and_eq_true, List.all_eq_true] at h
  have hlt : i < ops.size := (Array.getElem?_eq_some_iff.1 hi).1
  have h1 := h.1 i (List.mem_range.2 hlt)
  rw [hi] at h1
  simp only [Bool.and_eq_true, Option.isNone_iff_eq_none] at h1
  refine ⟨h1.1.1.1, fun e he => ?_, fun d hd => ?_, fun j hj hne x hx => ?_⟩
  · have := Array.all_eq_true_iff_forall_mem.1 h1.1.1.2 e he
    simpa using this
  · have h2 := h1.1.2
    rw [hd] at h2
    simp only [Bool.and_eq_true, decide_eq_true_eq, List.isEmpty_iff] at h2
    exact h2
  · have h2 := List.all_eq_true.1 h1.2 j (List.mem_range.2 hj)
    rw [beq_eq_false_iff_ne.2 hne, Bool.false_or, List.all_eq_true] at h2
    have := h2 x hx
    simpa using this
theorem plainH_one (h : plainH n ops offs = true) {i j : Nat} {o o' : Oper} {d : Nat} (hi : ops[i]? = some o) (hj : ops[j]? = some o') (hd : o.dst = some d) (hd' : o'.dst = some d) : i = j := by
  unfold plainH at h
  rw [Bool.and_eq_true] at h
  have h2 := of_decide_eq_true h.2
  have hl1 : i < ops.size := (Array.getElem?_eq_some_iff.1 hi).1
  have hl2 : j < ops.size := (Array.getElem?_eq_some_iff.1 hj).1
  exact nodup_filterMap (d := d) h2 (List.mem_range.2 hl1) (List.mem_range.2 hl2) List.nodup_range (by simp [hi, hd]) (by simp [hj, hd'])
theorem mem_wrote {listed : Array Bool} {x : Nat} : x ∈ wroteOf ops offs listed ↔ ∃ s, s < ops.size ∧ listed.getD s false = true ∧ x ∈ offs s := by
  unfold wroteOf
  rw [List.mem_flatMap]
  constructor
  · rintro ⟨s, hs, h⟩
    split at h
    · rename_i hl; exact ⟨s, List.mem_range.1 hs, hl, h⟩
    · cases h
  · rintro ⟨s, hs, hl, h⟩
    exact ⟨s, List.mem_range.2 hs, by rw [if_pos hl]; exact h⟩
variable {P : Program} {Q : Exit → Act → World → Prop} {Pv : Nat → Value → World → Prop} {Sd : Nat → World → Prop} {a0 : Act} {w0 : World} {B : Nat}
structure HeldH (B : Nat) (offs : Nat → List Nat) (ops : Array Oper) (Pv : Nat → Value → World → Prop) (Sd : Nat → World → Prop) (a0 : Act) (w0 : World) (listed : Array Bool) (a : Act) (w : World) : Prop where
  size : a.tmps.size = a0.tmps.size
  defers : a.defers = a0.defers
  lsize : listed.size = ops.size
  closed : ∀ (i : Nat) (o : Oper), ops[i]? = some o → listed.getD i false = true → ∀ e ∈ o.after, Region.binds .any e = true → listed.getD e.on false = true
  ch : Ch B (wroteOf ops offs listed) w0 w
  same : ∀ d, (∀ (i : Nat) (o : Oper), ops[i]? = some o → listed.getD i false = true → o.dst ≠ some d) → a.tmps[d]? = a0.tmps[d]?
  has : ∀ (i : Nat) (o : Oper) (d : Nat), ops[i]? = some o → listed.getD i false = true → o.dst = some d → Pv d (a.eval (.tmp d)) w
  done : ∀ (i : Nat) (o : Oper), ops[i]? = some o → listed.getD i false = true → o.dst = none → Sd i w
/-- what operation i must do. -/
def StepH (B : Nat) (offs : Nat → List Nat) (P : Program) (ops : Array Oper) (Pv : Nat → Value → World → Prop) (Sd : Nat → World → Prop) (a0 : Act) (w0 : World) (i : Nat) (o : Oper) : Prop :=
  ∀ (r : Operand → Value) (w : World), (∀ v, r (.const v) = v) → (∀ f, r (.func f) = .func (.func f) #[] #[]) → (∀ d, d ∉ dstsOf ops → r (.tmp d) = a0.eval (.tmp d)) → (∀ d, waitsOn ops o d = true → Pv d (r (.tmp d)) w) → Ch B (mayBe ops offs i) w0 w →
    (∀ d, o.dst = some d → OpDoes P o r w fun v w' => Pv d v w' ∧ Below w.heap.size w w') ∧ (o.dst = none → ∃ w', (execOp r o).run P w = .ok .skip w' ∧ Ch B (offs i) w w' ∧ Sd i w')
theorem heldH_any (hp : plainH n ops offs = true) (hn : n = a0.tmps.size) (hB : B < w0.heap.size) (hPv : ∀ d v w w' l, Pv d v w → Ch B l w w' → Pv d v w') (hSd : ∀ i w w' l, Sd i w → Ch B l w w' → (∀ o ∈ offs i, o ∉ l) → Sd i w')
    (hstep : ∀ (i : Nat) (o : Oper), ops[i]? = some o → StepH B offs P ops Pv Sd a0 w0 i o)
    (hend : ∀ (f : Nat → Value) (w : World), (∀ d ∈ dstsOf ops, Pv d (f d) w) → (∀ (i : Nat) (o : Oper), ops[i]? = some o → o.dst = none → Sd i w) → Ch B ((List.range ops.size).flatMap offs) w0 w → Q .normal ⟨fill a0.tmps f (dstsOf ops), a0.defers⟩ w) :
    ∀ (fuel : Nat) (listed : Array Bool) (a : Act) (w : World), left ops listed ≤ fuel → HeldH B offs ops Pv Sd a0 w0 listed a w → wpAny P .any ops Q fuel listed a w := by
  have fin : ∀ (listed : Array Bool) (a : Act) (w : World), (∀ i, i < ops.size → listed.getD i true = true) → HeldH B offs ops Pv Sd a0 w0 listed a w → Q .normal a w := fun listed a w hall H => by
    have hl : ∀ i, i < ops.size → listed.getD i false = true := fun i hi => getD_false H.lsize hi (hall i hi)
    have ha : a = ⟨fill a0.tmps (fun d => a.eval (.tmp d)) (dstsOf ops), a0.defers⟩ := by
      obtain ⟨tm, df⟩ := a
      have e1 : tm = fill a0.tmps (fun d => Act.eval ⟨tm, df⟩ (.tmp d)) (dstsOf ops) := by
        refine Array.ext_getElem? fun k => ?_
        by_cases hk : k < a0.tmps.size
        · rw [fill_get _ _ _ _ hk]
          have hk' : k < tm.size := by have := H.size; simp only at this; omega
          by_cases hm : k ∈ dstsOf ops
          · rw [if_pos hm]; simp [Act.eval, hk']
          · rw [if_neg hm]
            exact H.same k fun i o hi _ hd => hm (mem_dsts.2 ⟨i, o, hi, hd⟩)
        · have hk' : ¬ k < tm.size := by have := H.size; simp only at this; omega
          rw [Array.getElem?_eq_none (by omega), Array.getElem?_eq_none (by rw [fill_size]; omega)]
      have e2 : df = a0.defers := H.defers
      rw [← e2, ← e1]
    rw [ha]
    exact hend _ _ (fun d hd => by
      obtain ⟨i, o, hi, ho⟩ := mem_dsts.1 hd
      exact H.has i o d hi (hl i (Array.getElem?_eq_some_iff.1 hi).1) ho) (fun i o hi hd => H.done i o hi (hl i (Array.getElem?_eq_some_iff.1 hi).1) hd) (H.ch.more fun x hx => by
      obtain ⟨s, hs, _, hx⟩ := mem_wrote.1 hx
      exact List.mem_flatMap.2 ⟨s, List.mem_range.2 hs, hx⟩)
  have rdy : ∀ (listed : Array Bool), listed.size = ops.size → Region.ready .any ops listed = [] → ∀ i, i < ops.size → listed.getD i true = true := fun listed hs hr i => by
    induction i using Nat.strongRecOn with
    | _ i ih =>
      intro hi
      by_cases hu : listed.getD i true = true
      · exact hu
      · exfalso
        rw [Bool.not_eq_true] at hu
        have hoi : ops[i]? = some ops[i] := Array.getElem?_eq_getElem hi
        have hmem : i ∈ Region.ready .any ops listed := mem_ready.2 ⟨hu, _, hoi, fun e he _ => by
          have hlt := (plainH_op hp hoi).2.1 e he
          exact getD_false hs (by omega) (ih e.on hlt (by omega))⟩
        rw [hr] at hmem
        cases hmem
  intro fuel
  induction fuel with
  | zero =>
    intro listed a w hf H
    have hall : ∀ i, i < ops.size → listed.getD i true = true := fun i hi => left_zero (by omega) hi
    refine ⟨?_, fin listed a w hall H⟩
    refine List.eq_nil_iff_forall_not_mem.2 fun i hi => ?_
    obtain ⟨hu, o, ho, _⟩ := mem_ready.1 hi
    rw [hall i (Array.getElem?_eq_some_iff.1 ho).1] at hu
    cases hu
  | succ fuel ih =>
    intro listed a w hf H
    refine ⟨fun hr => fin listed a w (rdy listed H.lsize hr) H, fun i hi => ?_⟩
    obtain ⟨hu, o, ho, hall⟩ := mem_ready.1 hi
    have hlt : i < ops.size := (Array.getElem?_eq_some_iff.1 ho).1
    obtain ⟨hg, hbefore, hdn, hdis⟩ := plainH_op hp ho
    have hil : i < listed.size := by rw [H.lsize]; exact hlt
    have hnl : listed.getD i false = false := by
      simp only [Array.getD_eq_getD_getElem?, Array.getElem?_eq_getElem hil, Option.getD_some] at hu ⊢; exact hu
    unfold wpOp
    simp only [ho]
    have hw : Region.wanted o (yielded ops a.tmps) = true := by unfold Region.wanted; rw [hg]
    rw [if_pos hw]
    have hl := left_set hlt hu
    have hmay : Ch B (mayBe ops offs i) w0 w := H.ch.more fun x hx => by
      obtain ⟨s, hs, hsl, hx⟩ := mem_wrote.1 hx
      refine List.mem_flatMap.2 ⟨s, List.mem_range.2 hs, ?_⟩
      rw [if_neg]
      · exact hx
      · rw [Bool.or_eq_true]
        rintro (h | h)
        · rw [eq_of_beq h, hnl] at hsl; cases hsl
        · have := reach_listed H.closed 6 s i hsl h
          rw [hnl] at this; cases this
    have hst := hstep i o ho a.eval w (fun v => rfl) (fun f => rfl) (fun k hk => by
      have := H.same k fun i o hi _ hd => hk (mem_dsts.2 ⟨i, o, hi, hd⟩)
      simp [Act.eval, this]) (fun k hk => by
      unfold waitsOn at hk
      rw [Array.any_eq_true] at hk
      obtain ⟨j, hj, hb⟩ := hk
      rw [Bool.and_eq_true] at hb
      have hmem : o.after[j] ∈ o.after := Array.getElem_mem hj
      have hdst := eq_of_beq hb.2
      obtain ⟨o', ho', hd'⟩ := Option.bind_eq_some_iff.1 hdst
      exact H.has _ o' k ho' (hall _ hmem hb.1) hd') hmay
    have hclosed : ∀ (k : Nat) (p : Oper), ops[k]? = some p → (listed.setIfInBounds i true).getD k false = true → ∀ e ∈ p.after, Region.binds .any e = true → (listed.setIfInBounds i true).getD e.on false = true := fun k p hk hl' => by
      by_cases e : k = i
      · subst e
        rw [ho] at hk; cases hk
        exact fun e he hb => getD_set_true (hall e he hb)
      · rw [getD_set_ne false (fun h => e h.symm)] at hl'
        exact fun e he hb => getD_set_true (H.closed k p hk hl' e he hb)
    have hwr : ∀ x, x ∈ wroteOf ops offs listed ++ offs i → x ∈ wroteOf ops offs (listed.setIfInBounds i true) := fun x hx => by
      rcases List.mem_append.1 hx with hx | hx
      · obtain ⟨s, hs, hsl, hx⟩ := mem_wrote.1 hx
        exact mem_wrote.2 ⟨s, hs, getD_set_true hsl, hx⟩
      · exact mem_wrote.2 ⟨i, hlt, getD_own hil, hx⟩
    cases hd : o.dst with
    | some d =>
      refine .inl (OpDoes.wp (hst.1 d hd) fun v w' hv => ?_)
      refine ih (listed.setIfInBounds i true) _ _ (Nat.le_of_succ_le_succ (Nat.le_trans hl hf)) ?_
      have hds : d < a.tmps.size := by rw [H.size, ← hn]; exact (hdn d hd).1
      have hg' := Ch.grow (B := B) (Nat.lt_of_lt_of_le hB H.ch.below.size) hv.2
      rw [hd]
      refine ⟨by simp [Act.put, H.size], H.defers, by simp [H.lsize], hclosed, (H.ch.trans hg').more (fun x hx => hwr x (by rw [(hdn d hd).2]; exact hx)), fun k hk => ?_, fun j o' k hj hl hk => ?_, fun j o' hj hl hk => ?_⟩
      · have hne : k ≠ d := fun e => hk i o ho (getD_own hil) (by rw [e]; exact hd)
        simp only [Act.put]
        rw [Array.getElem?_setIfInBounds_ne (fun e => hne e.symm)]
        exact H.same k fun j o' hj hl => hk j o' hj (getD_set_true hl)
      · by_cases e : j = i
        · subst e
          rw [ho] at hj; cases hj
          rw [hd] at hk; cases hk
          have : Act.eval (a.put (some d) v) (.tmp d) = v := by simp [Act.eval, Act.put, hds]
          rw [this]; exact hv.1
        · have hne : k ≠ d := fun h => e (plainH_one hp hj ho hk (by rw [h]; exact hd))
          rw [getD_set_ne false (fun h => e h.symm)] at hl
          have : Act.eval (a.put (some d) v) (.tmp k) = a.eval (.tmp k) := by
            simp only [Act.eval, Act.put, Array.getD_eq_getD_getElem?]
            rw [Array.getElem?_setIfInBounds_ne (fun h => hne h.symm)]
          rw [this]
          exact hPv _ _ _ _ _ (H.has j o' k hj hl hk) hg'
      · have e : j ≠ i := fun e => by subst e; rw [ho] at hj; cases hj; rw [hd] at hk; cases hk
        rw [getD_set_ne false (fun h => e h.symm)] at hl
        exact hSd _ _ _ _ (H.done j o' hj hl hk) hg' (fun _ _ h => by cases h)
    | none =>
      obtain ⟨w', hrun, hch, hsd⟩ := hst.2 hd
      refine .inl (wp_skip hrun hd ?_)
      refine ih (listed.setIfInBounds i true) _ _ (Nat.le_of_succ_le_succ (Nat.le_trans hl hf)) ?_
      refine ⟨H.size, H.defers, by simp [H.lsize], hclosed, (H.ch.trans hch).more hwr, fun k hk => H.same k fun j o' hj hl => hk j o' hj (getD_set_true hl), fun j o' k hj hl hk => ?_, fun j o' hj hl hk => ?_⟩
      · have e : j ≠ i := fun e => by subst e; rw [ho] at hj; cases hj; rw [hd] at hk; cases hk
        rw [getD_set_ne false (fun h => e h.symm)] at hl
        exact hPv _ _ _ _ _ (H.has j o' k hj hl hk) hch
      · by_cases e : j = i
        · subst e; exact hsd
        · rw [getD_set_ne false (fun h => e h.symm)] at hl
          have hjs : j < ops.size := (Array.getElem?_eq_some_iff.1 hj).1
          exact hSd _ _ _ _ (H.done j o' hj hl hk) hch ((plainH_op hp hj).2.2.2 i hlt (fun h => e h.symm))
end
/-- a region that draws its order, each operation by itself, stores into the block B among them. -/
theorem wp_region_stores {P : Program} {id : Nat} {Q : Exit → Act → World → Prop} {a : Act} {w : World} {l : List Oper} (B : Nat) (offs : Nat → List Nat) (Pv : Nat → Value → World → Prop) (Sd : Nat → World → Prop) (n : Nat) (hm : P.follows .mixedOrders = true) (hp : plainH n l.toArray offs = true) (hn : n = a.tmps.size) (hB : B < w.heap.size)
    (hPv : ∀ d v w w' l, Pv d v w → Ch B l w w' → Pv d v w') (hSd : ∀ i w w' l, Sd i w → Ch B l w w' → (∀ o ∈ offs i, o ∉ l) → Sd i w')
    (hstep : ∀ p ∈ (List.range l.length).zip l, StepH B offs P l.toArray Pv Sd a w.drew p.1 p.2)
    (hend : ∀ (f : Nat → Value) (w' : World), (∀ d ∈ dstsOf l.toArray, Pv d (f d) w') → (∀ (i : Nat) (o : Oper), l[i]? = some o → o.dst = none → Sd i w') → Ch B ((List.range l.length).flatMap offs) w.drew w' → Q .normal ⟨fill a.tmps f (dstsOf l.toArray), a.defers⟩ w') : (Code.region id l.toArray true).wp P Q a w := by
  refine wp_region_any hm (heldH_any (w0 := w.drew) (B := B) (offs := offs) hp hn hB hPv hSd (fun i o ho => hstep (i, o) ?_) (by simpa using hend) _ _ _ _ ?_ ?_)
  · have ho' : l[i]? = some o := by simpa using ho
    have hlt : i < l.length := (List.getElem?_eq_some_iff.1 ho').1
    exact List.mem_iff_getElem?.2 ⟨i, by rw [List.getElem?_zip_eq_some]; exact ⟨List.getElem?_range hlt, ho'⟩⟩
  · unfold left
    have := List.countP_le_length (p := fun i => !(Array.replicate l.toArray.size false).getD i true) (l := List.range l.toArray.size)
    rw [List.length_range] at this
    exact this
  · have hno : ∀ i, (Array.replicate l.toArray.size false).getD i false = false := fun i => by
      simp only [Array.getD_eq_getD_getElem?, Array.getElem?_replicate]
      split <;> rfl
    exact ⟨rfl, rfl, by simp, fun i o _ hl => (by rw [hno] at hl; cases hl), (Ch.refl B [] _).more (fun _ h => by cases h), fun _ _ => rfl, fun i o d _ hl => (by rw [hno] at hl; cases hl), fun i o _ hl => (by rw [hno] at hl; cases hl)⟩
end Go.Proofs.Yteebbffecaeciaa
/- term.Copy: what its first regions hold and store. -/
namespace Go.Proofs.Yteebbffecaeciaa
open Go.RowKit

/-- what a temporary holds, stable under writes into the block B. -/
inductive CQ (B : Nat) where
  | fixed (v : Value)
  | prop (p : Value → World → Prop) (h : ∀ v w w' l, p v w → Ch B l w w' → p v w')
def CQ.ok {B : Nat} : CQ B → Value → World → Prop
  | .fixed u, v, _ => v = u
  | .prop p _, v, w => p v w
def kindC {B : Nat} (ks : List (Nat × CQ B)) (d : Nat) (v : Value) (w : World) : Prop := ((ks.lookup d).getD (.fixed v)).ok v w
theorem kindC_ch {B : Nat} (ks : List (Nat × CQ B)) (d : Nat) (v : Value) (w w' : World) (l : List Nat) (h : kindC ks d v w) (hc : Ch B l w w') : kindC ks d v w' := by
  unfold kindC at h ⊢
  cases hq : (ks.lookup d).getD (.fixed v) with
  | fixed u => rw [hq] at h; exact h
  | prop p hp => rw [hq] at h; exact hp _ _ _ _ h hc
theorem Ch.rows {B : Nat} {l : List Nat} {a b : World} (h : Ch B l a b) {t c n : Nat} (hr : RowAt a t c n) : RowAt b t c n := by
  by_cases e : c = B
  · subst e; exact h.row t n hr
  · obtain ⟨x, hx, hn⟩ := hr
    exact ⟨x, (h.block c (Array.getElem?_eq_some_iff.1 hx).1 e).trans hx, hn⟩
section
variable {B lo : Nat} (hlo : B < lo)
include hlo
theorem Ch.hc {l : List Nat} {a b : World} (h : Ch B l a b) : ∀ c o v, lo ≤ c → a.cell? ⟨c, o, none⟩ = some v → b.cell? ⟨c, o, none⟩ = some v := fun _ _ _ hc hv => h.other (by omega) hv
theorem Ch.hf {l : List Nat} {a b : World} (h : Ch B l a b) : ∀ c o v, lo ≤ c → a.cell? ⟨c, o, none⟩ = some v → a.frozen? ⟨c, o, none⟩ = false → b.frozen? ⟨c, o, none⟩ = false := fun _ _ _ hc hv hf => h.frozen (by omega) hv hf
theorem FIn.ch {t : VT} {x : Value} {w w' : World} {l : List Nat} (h : FIn w lo t x) (hc : Ch B l w w') : FIn w' lo t x := h.mono (Nat.le_refl _) (hc.hc hlo) (hc.hf hlo)
theorem PFIn.ch {t : PT} {x : Value} {w w' : World} {l : List Nat} (h : PFIn w lo t x) (hc : Ch B l w w') : PFIn w' lo t x := h.mono (Nat.le_refl _) (hc.hc hlo) (hc.hf hlo)
theorem FrV.ch {t : VT} : ∀ v w w' l, FrV lo t v w → Ch B l w w' → FrV lo t v w' := fun _ _ _ _ ⟨a, c, e, h⟩ hc => ⟨a, c, e, h.ch hlo hc⟩
theorem FrP.ch {t : PT} : ∀ v w w' l, FrP lo t v w → Ch B l w w' → FrP lo t v w' := fun _ _ _ _ ⟨va, vc, a, c, e, h⟩ hc => ⟨va, vc, a, c, e, h.ch hlo hc⟩
theorem wf_ch {ws : List Int} {a : Option Addr} {w w' : World} {l : List Nat} (h : ws = [] ∨ ∃ b, a = some ⟨b, 0, none⟩ ∧ lo ≤ b ∧ WFRow w ws b 0) (hc : Ch B l w w') : ws = [] ∨ ∃ b, a = some ⟨b, 0, none⟩ ∧ lo ≤ b ∧ WFRow w' ws b 0 :=
  h.imp id fun ⟨b, e, hb, hr⟩ => ⟨b, e, hb, WFRow.mono (lo := lo) (hc.hc hlo) (hc.hf hlo) ws b 0 hb hr⟩
theorem FrW.ch {ws : List Int} : ∀ v w w' l, FrW lo ws v w → Ch B l w w' → FrW lo ws v w' := fun _ _ _ _ ⟨a, c, e, h⟩ hc => ⟨a, c, e, wf_ch hlo h hc⟩
theorem ClR.ch {T K n : Nat} {a : Option Addr} {w0 : World} : ∀ v w w' l, ClR lo T K n a w0 v w → Ch B l w w' → ClR lo T K n a w0 v w' := fun _ _ _ _ ⟨a', c, e, h⟩ hc =>
  ⟨a', c, e, h.imp id fun ⟨B', ha, hlo', hr, hn, hcc⟩ => ⟨B', ha, hlo', hc.rows hr, hn, fun b o j u h1 h2 h3 => hc.other (by omega) (hcc b o j u h1 h2 h3)⟩⟩
end
/-- what the stores leave in the block B. -/
def SdV (lo B : Nat) (t : VT) (w : World) : Prop := ∃ a c, FIn w lo t (.agg #[.int .u8 t.kind, .int .i64 t.num, .slice a t.items.length c]) ∧ w.cell? ⟨B, 1, none⟩ = some (.int .u8 t.kind) ∧ w.cell? ⟨B, 2, none⟩ = some (.int .i64 t.num) ∧ w.cell? ⟨B, 3, none⟩ = some (.slice a t.items.length c)
def SdP (lo B : Nat) (t : PT) (w : World) : Prop := ∃ va vc a c, PFIn w lo t (.agg #[.int .u8 t.kind, .int .u8 t.val.kind, .int .i64 t.val.num, .slice va t.val.items.length vc, .int .i64 t.num, .slice a t.args.length c]) ∧
  w.cell? ⟨B, 8, none⟩ = some (.int .u8 t.kind) ∧ w.cell? ⟨B, 9, none⟩ = some (.int .u8 t.val.kind) ∧ w.cell? ⟨B, 10, none⟩ = some (.int .i64 t.val.num) ∧ w.cell? ⟨B, 11, none⟩ = some (.slice va t.val.items.length vc) ∧ w.cell? ⟨B, 12, none⟩ = some (.int .i64 t.num) ∧ w.cell? ⟨B, 13, none⟩ = some (.slice a t.args.length c)
def SdW (lo B : Nat) (ws : List Int) (w : World) : Prop := ∃ a c, (ws = [] ∨ ∃ b, a = some ⟨b, 0, none⟩ ∧ lo ≤ b ∧ WFRow w ws b 0) ∧ w.cell? ⟨B, 7, none⟩ = some (.slice a ws.length c)
def SdC (lo B T K n : Nat) (a : Option Addr) (w0 : World) (o : Nat) (w : World) : Prop := ∃ x, ClR lo T K n a w0 x w ∧ w.cell? ⟨B, o, none⟩ = some x
def offs1 (i : Nat) : List Nat := if i = 10 then [1, 2, 3] else if i = 12 then [8, 9, 10, 11, 12, 13] else if i = 14 then [7] else []
def offs2 (i : Nat) : List Nat := if i = 7 then [4] else if i = 9 then [14] else []
def sd1 (lo B : Nat) (v : VT) (p : PT) (ws : List Int) (i : Nat) (w : World) : Prop := if i = 10 then SdV lo B v w else if i = 12 then SdP lo B p w else if i = 14 then SdW lo B ws w else True
def sd2 (lo B : Nat) (nv nt : Nat) (sa aa : Option Addr) (w0 : World) (i : Nat) (w : World) : Prop := if i = 7 then SdC lo B 25 3 nv sa w0 4 w else if i = 9 then SdC lo B 47 15 nt aa w0 14 w else True
theorem sd1_ch {lo B : Nat} (hlo : B < lo) (v : VT) (p : PT) (ws : List Int) (i : Nat) (w w' : World) (l : List Nat) (h : sd1 lo B v p ws i w) (hc : Ch B l w w') (hd : ∀ o ∈ offs1 i, o ∉ l) : sd1 lo B v p ws i w' := by
  unfold sd1 at h ⊢
  unfold offs1 at hd
  split at h
  · rw [if_pos ‹_›] at hd ⊢
    obtain ⟨a, c, h, h1, h2, h3⟩ := h
    exact ⟨a, c, h.ch hlo hc, hc.cell _ _ (hd 1 (by simp)) h1, hc.cell _ _ (hd 2 (by simp)) h2, hc.cell _ _ (hd 3 (by simp)) h3⟩
  · rw [if_neg ‹_›] at hd ⊢
    split at h
    · rw [if_pos ‹_›] at hd ⊢
      obtain ⟨va, vc, a, c, h, h1, h2, h3, h4, h5, h6⟩ := h
      exact ⟨va, vc, a, c, h.ch hlo hc, hc.cell _ _ (hd 8 (by simp)) h1, hc.cell _ _ (hd 9 (by simp)) h2, hc.cell _ _ (hd 10 (by simp)) h3, hc.cell _ _ (hd 11 (by simp)) h4, hc.cell _ _ (hd 12 (by simp)) h5, hc.cell _ _ (hd 13 (by simp)) h6⟩
    · rw [if_neg ‹_›] at hd ⊢
      split at h
      · rw [if_pos ‹_›] at hd ⊢
        obtain ⟨a, c, h, h1⟩ := h
        exact ⟨a, c, wf_ch hlo h hc, hc.cell _ _ (hd 7 (by simp)) h1⟩
      · rw [if_neg ‹_›]; trivial
theorem sd2_ch {lo B : Nat} (hlo : B < lo) (nv nt : Nat) (sa aa : Option Addr) (w0 : World) (i : Nat) (w w' : World) (l : List Nat) (h : sd2 lo B nv nt sa aa w0 i w) (hc : Ch B l w w') (hd : ∀ o ∈ offs2 i, o ∉ l) : sd2 lo B nv nt sa aa w0 i w' := by
  unfold sd2 at h ⊢
  unfold offs2 at hd
  split at h
  · rw [if_pos ‹_›] at hd ⊢
    obtain ⟨x, h, h1⟩ := h
    exact ⟨x, ClR.ch hlo _ _ _ _ h hc, hc.cell _ _ (hd 4 (by simp)) h1⟩
  · rw [if_neg ‹_›] at hd ⊢
    split at h
    · rw [if_pos ‹_›] at hd ⊢
      obtain ⟨x, h, h1⟩ := h
      exact ⟨x, ClR.ch hlo _ _ _ _ h hc, hc.cell _ _ (hd 14 (by simp)) h1⟩
    · rw [if_neg ‹_›]; trivial
section
variable {B : Nat} {o : Oper} {r : Operand → Value} {w : World} {offs : Nat → List Nat} {Pv : Nat → Value → World → Prop} {Sd : Nat → World → Prop} {i d : Nat}
/-- what one operation did. -/
def Did (B : Nat) (offs : Nat → List Nat) (Pv : Nat → Value → World → Prop) (Sd : Nat → World → Prop) (i : Nat) (o : Oper) (r : Operand → Value) (w : World) : Prop :=
  (∀ d, o.dst = some d → OpDoes Try.prog o r w fun v w' => Pv d v w' ∧ Below w.heap.size w w') ∧ (o.dst = none → ∃ w', (execOp r o).run Try.prog w = .ok .skip w' ∧ Ch B (offs i) w w' ∧ Sd i w')
theorem did_value {v : Value} (hd : o.dst = some d) (h : (execOp r o).run Try.prog w = .ok (.value v) w) (hk : Pv d v w) : Did B offs Pv Sd i o r w :=
  ⟨fun d' e => (by rw [hd] at e; cases e; exact .value h ⟨hk, Below.refl _ _⟩), fun e => (by rw [hd] at e; cases e)⟩
theorem did_call {f : FuncId} {args : Array Value} (hd : o.dst = some d) (h : (execOp r o).run Try.prog w = .ok (.enter f args) w) (hc : Calls Try.prog f args w fun e w' => ∃ v, e = .returned v ∧ Pv d v w' ∧ Below w.heap.size w w') : Did B offs Pv Sd i o r w :=
  ⟨fun d' e => (by rw [hd] at e; cases e; exact .enter h hc), fun e => (by rw [hd] at e; cases e)⟩
theorem did_store {w' : World} (hd : o.dst = none) (h : (execOp r o).run Try.prog w = .ok .skip w') (hch : Ch B (offs i) w w') (hs : Sd i w') : Did B offs Pv Sd i o r w :=
  ⟨fun d' e => (by rw [hd] at e; cases e), fun _ => ⟨w', h, hch, hs⟩⟩
end
theorem Ch.at {B : Nat} {l : List Nat} {a b : World} (h : Ch B l a b) {o : Nat} {v : Value} (ho : l.contains o = false) (hv : a.cell? ⟨B, o, none⟩ = some v) : b.cell? ⟨B, o, none⟩ = some v := h.cell o v (by simpa using ho) hv
end Go.Proofs.Yteebbffecaeciaa
/- A cloned row whose elements are copied one by one in place. -/
namespace Go.Proofs.Yteebbffecaeciaa
open Go.RowKit

theorem RowAt.one {w : World} {t t' b n n' : Nat} (h : RowAt w t b n) (h' : RowAt w t' b n') : t = t' := by
  obtain ⟨c, hc, _⟩ := h
  obtain ⟨c', hc', _⟩ := h'
  rw [hc] at hc'
  cases hc'; rfl
/-- the row was there. -/
def LoopRowOld (T n : Nat) (a : Option Addr) (w3 : World) : Prop := n = 0 ∨ ∃ B m, a = some ⟨B, 0, none⟩ ∧ RowAt w3 T B m
/-- elements of K cells: those before i are copied, the rest is as it was. -/
structure LoopG (T K n : Nat) (E : World → Nat → Nat → Prop) (a : Option Addr) (c L2 : Nat) (w3 wr : World) (i : Nat) : Prop where
  below : Below L2 w3 wr
  same : ∀ k, k < w3.heap.size → (n = 0 ∨ ∀ o, a ≠ some ⟨k, o, none⟩) → wr.heap[k]? = w3.heap[k]?
  row : n = 0 ∨ ∃ B, a = some ⟨B, 0, none⟩ ∧ L2 ≤ B ∧ B < w3.heap.size ∧ RowAt wr T B (c * K) ∧ n ≤ c ∧ (∀ j, j < i → E wr B j) ∧ ∀ j u, i * K ≤ j → j < n * K → w3.cell? ⟨B, j, none⟩ = some u → wr.cell? ⟨B, j, none⟩ = some u
/-- what an element's copy rests on. -/
def KeepsE (K L : Nat) (E : World → Nat → Nat → Prop) : Prop := ∀ w w' B j, E w B j → (∀ b o v, L ≤ b → w.cell? ⟨b, o, none⟩ = some v → w'.cell? ⟨b, o, none⟩ = some v) → (∀ b o v, L ≤ b → w.cell? ⟨b, o, none⟩ = some v → w.frozen? ⟨b, o, none⟩ = false → w'.frozen? ⟨b, o, none⟩ = false) →
  (∀ o v, j * K ≤ o → o < j * K + K → w.cell? ⟨B, o, none⟩ = some v → w'.cell? ⟨B, o, none⟩ = some v ∧ (w.frozen? ⟨B, o, none⟩ = false → w'.frozen? ⟨B, o, none⟩ = false)) → E w' B j
theorem LoopG.start {T K n : Nat} {E : World → Nat → Nat → Prop} {a : Option Addr} {c lo : Nat} {w3 w0 : World} {a0 : Option Addr} {L : Nat} (hL : L ≤ lo)
    (h : n = 0 ∨ ∃ B, a = some ⟨B, 0, none⟩ ∧ lo ≤ B ∧ RowAt w3 T B (c * K) ∧ n ≤ c ∧ ∀ b o j u, a0 = some ⟨b, o, none⟩ → j < n * K → w0.cell? ⟨b, o + j, none⟩ = some u → w3.cell? ⟨B, j, none⟩ = some u) : LoopG T K n E a c L w3 w3 0 :=
  ⟨Below.refl _ _, fun _ _ _ => rfl, h.imp id fun ⟨B, ha, hb, hr, hn, _⟩ => ⟨B, ha, by omega, hr.lt, hr, hn, fun j hj => absurd hj (Nat.not_lt_zero _), fun _ _ _ _ h => h⟩⟩
theorem LoopG.cell {T K n : Nat} {E : World → Nat → Nat → Prop} {a : Option Addr} {c L2 : Nat} {w3 wr : World} {i : Nat} (h : LoopG T K n E a c L2 w3 wr i) {k o : Nat} {v : Value} (hk : n = 0 ∨ ∀ o, a ≠ some ⟨k, o, none⟩) (hc : w3.cell? ⟨k, o, none⟩ = some v) : wr.cell? ⟨k, o, none⟩ = some v := by
  rw [World.cell?_of_block (w := w3) (a := ⟨k, o, none⟩) (h.same k (lt_of_cell hc) hk)]; exact hc
/-- a block older than the row's. -/
theorem LoopG.old {T K n : Nat} {E : World → Nat → Nat → Prop} {a : Option Addr} {c L2 : Nat} {w3 wr : World} {i : Nat} (h : LoopG T K n E a c L2 w3 wr i) {k o : Nat} {v : Value} (hk : k < L2) (hc : w3.cell? ⟨k, o, none⟩ = some v) : wr.cell? ⟨k, o, none⟩ = some v := by
  refine h.cell ?_ hc
  rcases h.row with h0 | ⟨B, e, hlo, _⟩
  · exact .inl h0
  · exact .inr fun o' e' => by rw [e] at e'; cases e'; omega
theorem LoopG.oldBlock {T K n : Nat} {E : World → Nat → Nat → Prop} {a : Option Addr} {c L2 : Nat} {w3 wr : World} {i : Nat} (h : LoopG T K n E a c L2 w3 wr i) {k : Nat} (hk : k < L2) (h3 : k < w3.heap.size) : wr.heap[k]? = w3.heap[k]? := by
  refine h.same k h3 ?_
  rcases h.row with h0 | ⟨B, e, hlo, _⟩
  · exact .inl h0
  · exact .inr fun o' e' => by rw [e] at e'; cases e'; omega
theorem LoopG.oldRow {T K n : Nat} {E : World → Nat → Nat → Prop} {a : Option Addr} {c L2 : Nat} {w3 wr : World} {i : Nat} (h : LoopG T K n E a c L2 w3 wr i) {T' k m : Nat} (hk : k < L2) (hr : RowAt w3 T' k m) : RowAt wr T' k m := by
  obtain ⟨x, hx, hn⟩ := hr
  exact ⟨x, (h.oldBlock hk (RowAt.lt ⟨x, hx, hn⟩)).trans hx, hn⟩
theorem frozen_of_block {w w' : World} {b o : Nat} (h : w'.heap[b]? = w.heap[b]?) : w'.frozen? ⟨b, o, none⟩ = w.frozen? ⟨b, o, none⟩ := by
  unfold World.frozen?
  rw [h]
/-- another kind of row, and what lies in it. -/
theorem LoopG.otherBlock {T T' K n m : Nat} {E : World → Nat → Nat → Prop} {a : Option Addr} {c L2 : Nat} {w3 wr : World} {i B : Nat} (h : LoopG T K n E a c L2 w3 wr i) (hT : T ≠ T') (h3 : LoopRowOld T n a w3) (hr : RowAt w3 T' B m) : wr.heap[B]? = w3.heap[B]? := by
  refine h.same B hr.lt ?_
  rcases h3 with h0 | ⟨B', m', e, hr'⟩
  · exact .inl h0
  · exact .inr fun o' e' => by rw [e] at e'; cases e'; exact hT (hr'.one hr)
theorem LoopG.otherRow {T T' K n m : Nat} {E : World → Nat → Nat → Prop} {a : Option Addr} {c L2 : Nat} {w3 wr : World} {i B : Nat} (h : LoopG T K n E a c L2 w3 wr i) (hT : T ≠ T') (h3 : LoopRowOld T n a w3) (hr : RowAt w3 T' B m) : RowAt wr T' B m := by
  obtain ⟨x, hx, hn⟩ := hr
  exact ⟨x, (h.otherBlock hT h3 ⟨x, hx, hn⟩).trans hx, hn⟩
theorem LoopG.otherCell {T T' K n m : Nat} {E : World → Nat → Nat → Prop} {a : Option Addr} {c L2 : Nat} {w3 wr : World} {i B o : Nat} {v : Value} (h : LoopG T K n E a c L2 w3 wr i) (hT : T ≠ T') (h3 : LoopRowOld T n a w3) (hr : RowAt w3 T' B m) (hc : w3.cell? ⟨B, o, none⟩ = some v) : wr.cell? ⟨B, o, none⟩ = some v := by
  rw [World.cell?_of_block (w := w3) (a := ⟨B, o, none⟩) (h.otherBlock hT h3 hr)]; exact hc
theorem LoopG.step {T K n : Nat} {E : World → Nat → Nat → Prop} {c L2 : Nat} {w3 wr w2 : World} {i B : Nat} (hE : KeepsE K w3.heap.size E) (h : LoopG T K n E (some ⟨B, 0, none⟩) c L2 w3 wr i) (hi : i < n) (hb : Below wr.heap.size wr w2) (Ls : List (Nat × Value)) (hoff : ∀ p ∈ Ls, i * K ≤ p.1 ∧ p.1 < i * K + K)
    (hnew : E (setL B Ls w2) B i) : LoopG T K n E (some ⟨B, 0, none⟩) c L2 w3 (setL B Ls w2) (i + 1) := by
  obtain ⟨B', e, hlo, hlt, hrow, hn, hdone, hrest⟩ := h.row.resolve_left (by omega)
  cases e
  have hsz := h.below.size
  have hne : ∀ k, k < w3.heap.size → k < wr.heap.size := fun k hk => by omega
  have hout : ∀ o, o < i * K ∨ i * K + K ≤ o → o ∉ Ls.map (·.1) := fun o ho hm => by
    obtain ⟨p, hp, rfl⟩ := List.mem_map.1 hm
    have := hoff p hp
    omega
  refine ⟨setL_below B hlo Ls w2 (h.below.trans (hb.mono (Nat.le_trans hlo (Nat.le_of_lt (hne B hlt))))), fun k hk hor => ?_, .inr ⟨B, rfl, hlo, hlt, setL_row B Ls w2 (hrow.below (hne B hlt) hb), hn, fun j hj => ?_, fun j u h1 h2 h3 => ?_⟩⟩
  · have hkB : k ≠ B := fun e => by
      rcases hor with h0 | h0
      · omega
      · exact h0 0 (by rw [e])
    rw [setL_block B hkB, hb.block k (hne k hk)]
    exact h.same k hk hor
  · by_cases e : j = i
    · subst e; exact hnew
    · have hji : (j + 1) * K ≤ i * K := Nat.mul_le_mul_right K (by omega)
      rw [Nat.add_mul, Nat.one_mul] at hji
      refine hE wr _ B j (hdone j (by omega)) (fun b o v hbl hv => ?_) (fun b o v hbl hv hf => ?_) (fun o v h1 h2 hv => ⟨?_, fun hf => ?_⟩)
      · rw [setL_out B b o Ls w2 (fun e => by omega)]; exact cell_stays hb hv
      · rw [setL_frozen]; exact frozen_stay hb (lt_of_cell hv) hf
      · rw [setL_out B B o Ls w2 (fun _ => hout o (.inl (by omega)))]; exact cell_stays hb hv
      · rw [setL_frozen]; exact frozen_stay hb (lt_of_cell hv) hf
  · rw [Nat.add_mul, Nat.one_mul] at h1
    rw [setL_out B B j Ls w2 (fun _ => hout j (.inr h1))]
    exact cell_stays hb (hrest j u (by omega) h2 h3)
/-- an element copied: values. -/
def EV (L : Nat) (vs : List VT) (w : World) (B j : Nat) : Prop := ∀ hj : j < vs.length, ∃ v0 v1 v2, w.cell? ⟨B, j * 3, none⟩ = some v0 ∧ w.cell? ⟨B, j * 3 + 1, none⟩ = some v1 ∧ w.cell? ⟨B, j * 3 + 2, none⟩ = some v2 ∧
  w.frozen? ⟨B, j * 3, none⟩ = false ∧ w.frozen? ⟨B, j * 3 + 1, none⟩ = false ∧ w.frozen? ⟨B, j * 3 + 2, none⟩ = false ∧ FIn w L vs[j] (.agg #[v0, v1, v2])
def ET (L : Nat) (l : List TT) (w : World) (B j : Nat) : Prop := ∀ hj : j < l.length, ∃ A, TCells w B (j * 15) l[j] A ∧ (∀ q, q < 15 → w.frozen? ⟨B, j * 15 + q, none⟩ = false) ∧ TFOk w L l[j] A
theorem EV.keeps (L : Nat) (vs : List VT) : KeepsE 3 L (EV L vs) := fun w w' B j h hc hf hB hj => by
  obtain ⟨v0, v1, v2, c0, c1, c2, f0, f1, f2, hv⟩ := h hj
  have h0 := hB _ _ (by omega) (by omega) c0
  have h1 := hB _ _ (by omega) (by omega) c1
  have h2 := hB _ _ (by omega) (by omega) c2
  exact ⟨v0, v1, v2, h0.1, h1.1, h2.1, h0.2 f0, h1.2 f1, h2.2 f2, hv.mono (Nat.le_refl _) hc hf⟩
theorem ET.keeps (L : Nat) (l : List TT) : KeepsE 15 L (ET L l) := fun w w' B j h hc hf hB hj => by
  obtain ⟨A, c, f, hv⟩ := h hj
  refine ⟨A, ?_, fun q hq => ?_, hv.mono (Nat.le_refl _) hc hf _ _⟩
  · obtain ⟨h0, h1, h2, h3, h4, h5, h6, h7, h8, h9, h10, h11, h12, h13, h14⟩ := c
    exact ⟨(hB _ _ (by omega) (by omega) h0).1, (hB _ _ (by omega) (by omega) h1).1, (hB _ _ (by omega) (by omega) h2).1, (hB _ _ (by omega) (by omega) h3).1, (hB _ _ (by omega) (by omega) h4).1, (hB _ _ (by omega) (by omega) h5).1, (hB _ _ (by omega) (by omega) h6).1, (hB _ _ (by omega) (by omega) h7).1, (hB _ _ (by omega) (by omega) h8).1, (hB _ _ (by omega) (by omega) h9).1, (hB _ _ (by omega) (by omega) h10).1, (hB _ _ (by omega) (by omega) h11).1, (hB _ _ (by omega) (by omega) h12).1, (hB _ _ (by omega) (by omega) h13).1, (hB _ _ (by omega) (by omega) h14).1⟩
  · obtain ⟨u, hu⟩ := c.has q hq
    exact (hB _ _ (by omega) (by omega) hu).2 (f q hq)
theorem EV.new {L n : Nat} {vs : List VT} {w2 : World} {B i : Nat} {x0 x1 x2 : Value} {T : Nat} (hi : i < vs.length) (hn : vs.length * 3 ≤ n) (hrow : RowAt w2 T B n) (hBL : B < L) (hf : FIn w2 L vs[i] (.agg #[x0, x1, x2])) : EV L vs (setL B [(i * 3, x0), (i * 3 + 1, x1), (i * 3 + 2, x2)] w2) B i := fun _ => by
  obtain ⟨u0, q0⟩ := hrow.cell (i * 3) (by omega)
  obtain ⟨u1, q1⟩ := hrow.cell (i * 3 + 1) (by omega)
  obtain ⟨u2, q2⟩ := hrow.cell (i * 3 + 2) (by omega)
  have hin := setL_in B [(i * 3, x0), (i * 3 + 1, x1), (i * 3 + 2, x2)] w2 (by simp) (fun q hq => by
    simp only [List.mem_cons, List.not_mem_nil, or_false] at hq
    rcases hq with rfl | rfl | rfl
    · exact ⟨_, q0⟩
    · exact ⟨_, q1⟩
    · exact ⟨_, q2⟩)
  refine ⟨x0, x1, x2, hin (i * 3, x0) (by simp), hin (i * 3 + 1, x1) (by simp), hin (i * 3 + 2, x2) (by simp), ?_, ?_, ?_, ?_⟩
  · rw [setL_frozen]; exact hrow.frozen _
  · rw [setL_frozen]; exact hrow.frozen _
  · rw [setL_frozen]; exact hrow.frozen _
  · exact hf.mono (Nat.le_refl _) (fun b o v hb hv => by rw [setL_out B b o _ w2 (fun e => by omega)]; exact hv) (fun b o v _ _ h => by rw [setL_frozen]; exact h)
/-- the cells of a term. -/
def cellsT (q : Nat) (t : TT) (A : TA) : List (Nat × Value) := [(q, .int .u8 t.kind), (q + 1, .int .u8 t.v.kind), (q + 2, .int .i64 t.v.num), (q + 3, .slice A.va t.v.items.length A.vc), (q + 4, .slice A.sa t.vs.length A.sc), (q + 5, .int .i64 t.lo), (q + 6, .int .i64 t.hi), (q + 7, .slice A.wa t.ws.length A.wc),
  (q + 8, .int .u8 t.p.kind), (q + 9, .int .u8 t.p.val.kind), (q + 10, .int .i64 t.p.val.num), (q + 11, .slice A.qa t.p.val.items.length A.qc), (q + 12, .int .i64 t.p.num), (q + 13, .slice A.pa t.p.args.length A.pc), (q + 14, .slice A.aa t.args.length A.ac)]
theorem cellsT_off (q : Nat) (t : TT) (A : TA) : ∀ p ∈ cellsT q t A, q ≤ p.1 ∧ p.1 < q + 15 := by
  intro p hp
  simp only [cellsT, List.mem_cons, List.not_mem_nil, or_false] at hp
  rcases hp with rfl | rfl | rfl | rfl | rfl | rfl | rfl | rfl | rfl | rfl | rfl | rfl | rfl | rfl | rfl <;> simp
theorem ET.new {L n : Nat} {l : List TT} {w2 : World} {B i : Nat} {A : TA} {T : Nat} (hi : i < l.length) (hn : l.length * 15 ≤ n) (hrow : RowAt w2 T B n) (hBL : B < L) (hf : TFOk w2 L l[i] A) : ET L l (setL B (cellsT (i * 15) l[i] A) w2) B i := fun _ => by
  have hin := setL_in B (cellsT (i * 15) l[i] A) w2 (by simp [cellsT]) (fun p hp => hrow.cell p.1 (by have := cellsT_off _ _ _ p hp; omega))
  refine ⟨A, ?_, fun q _ => by rw [setL_frozen]; exact hrow.frozen _, hf.mono (Nat.le_refl _) (fun b o v hb hv => by rw [setL_out B b o _ w2 (fun e => by omega)]; exact hv) (fun b o v _ _ h => by rw [setL_frozen]; exact h) _ _⟩
  refine ⟨?_, ?_, ?_, ?_, ?_, ?_, ?_, ?_, ?_, ?_, ?_, ?_, ?_, ?_, ?_⟩
  all_goals exact hin (_, _) (by simp [cellsT])
theorem EV.all {L lo : Nat} {vs : List VT} {w : World} {B : Nat} (hlo : lo ≤ L) (h : ∀ j, j < vs.length → EV L vs w B j) : FRow w lo vs B 0 :=
  FRow.of B vs 0 fun i hi => by
    obtain ⟨v0, v1, v2, c0, c1, c2, f0, f1, f2, hv⟩ := h i hi hi
    rw [Nat.zero_add]
    exact ⟨v0, v1, v2, c0, c1, c2, f0, f1, f2, hv.less hlo⟩
theorem ET.all {L lo : Nat} {l : List TT} {w : World} {B : Nat} (hlo : lo ≤ L) (h : ∀ j, j < l.length → ET L l w B j) : TFRow w lo l B 0 :=
  TFRow.of B l 0 fun i hi => by
    obtain ⟨A, c, f, hv⟩ := h i hi hi
    rw [Nat.zero_add]
    exact ⟨A, c, f, hv.less hlo⟩
end Go.Proofs.Yteebbffecaeciaa
/- A store of a term's cells. -/
namespace Go.Proofs.Yteebbffecaeciaa
open Go.RowKit
theorem setCells_setL (B : Nat) : ∀ (vs : List Value) (q : Nat) (w : World), w.setCells B q vs = setL B ((List.range' q vs.length).zip vs) w
  | [], _, _ => rfl
  | v :: vs, q, w => by
    rw [World.setCells, setCells_setL B vs (q + 1)]
    rfl
theorem RowAt.there {w : World} {T B n : Nat} (h : RowAt w T B n) {q m : Nat} (hq : q + m ≤ n) : w.there B q m := fun j hj => by
  obtain ⟨v, hv⟩ := h.cell (q + j) (by omega)
  exact ⟨by rw [hv]; rfl, h.frozen _⟩
def cellsOf (t : TT) (A : TA) : Array Value := #[.int .u8 t.kind, .int .u8 t.v.kind, .int .i64 t.v.num, .slice A.va t.v.items.length A.vc, .slice A.sa t.vs.length A.sc, .int .i64 t.lo, .int .i64 t.hi, .slice A.wa t.ws.length A.wc, .int .u8 t.p.kind, .int .u8 t.p.val.kind, .int .i64 t.p.val.num, .slice A.qa t.p.val.items.length A.qc, .int .i64 t.p.num, .slice A.pa t.p.args.length A.pc, .slice A.aa t.args.length A.ac]
theorem run_at15 {w : World} {B q n T : Nat} {t : TT} {A : TA} (hrow : RowAt w T B n) (hq : q + 15 ≤ n) : (Instr.storeAt 47 (.pointer (some ⟨B, q, none⟩)) (t.val A)).run Try.prog w = .ok () (setL B (cellsT q t A) w) := by
  have hi : (Try.prog.info? 47).map (·.size) = some 15 := by
    obtain ⟨i0, hi, hz0, hz1, hz2⟩ := info_parts zeroT
    rw [hi, Option.map_some, hz1]
  have h := run_storeAt_mid (P := Try.prog) w B q 47 (cellsOf t A) (hrow.there hq) hi (by simp [cellsOf, Value.oneCell'])
  rw [setCells_setL] at h
  exact h
theorem run_store15 {w : World} {B q n T : Nat} {t : TT} {A : TA} (hrow : RowAt w T B n) (hq : q + 15 ≤ n) {o : Oper} {r : Operand → Value} {po xo : Operand} (ho : o.op = .store 47 po xo) (e1 : r po = .pointer (some ⟨B, q, none⟩)) (e2 : r xo = t.val A) :
    (execOp r o).run Try.prog w = .ok .skip (setL B (cellsT q t A) w) := by
  have h := run_at15 (t := t) (A := A) hrow hq
  obtain ⟨od, oo, ot, op, oa, og⟩ := o
  simp only at ho
  subst ho
  unfold execOp
  simp only [e1, e2, Sem.run_bind, Sem.run_pure, h, Result.andThen_ok]
end Go.Proofs.Yteebbffecaeciaa
/- What the law's spoil of terms may write over: rows at the heads of blocks from lo up to hi; cells keep their sort. -/
namespace Go.Proofs.Yteebbffecaeciaa
open Go.RowKit

/-- only blocks from lo up to hi, and new ones, have turned. -/
structure Only (lo hi : Nat) (w w' : World) : Prop where
  os : w'.os = w.os
  tape : w'.tape = w.tape
  output : w'.output = w.output
  size : w.heap.size ≤ w'.heap.size
  block : ∀ k, k < w.heap.size → (k < lo ∨ hi ≤ k) → w'.heap[k]? = w.heap[k]?
theorem Only.refl (lo hi : Nat) (w : World) : Only lo hi w w := ⟨rfl, rfl, rfl, Nat.le_refl _, fun _ _ _ => rfl⟩
theorem Only.trans {lo hi : Nat} {a b c : World} (h : Only lo hi a b) (k : Only lo hi b c) : Only lo hi a c :=
  ⟨k.os.trans h.os, k.tape.trans h.tape, k.output.trans h.output, Nat.le_trans h.size k.size, fun i hi' ho => (k.block i (Nat.lt_of_lt_of_le hi' h.size) ho).trans (h.block i hi' ho)⟩
theorem Only.of_below {lo hi : Nat} {a b : World} (h : Below a.heap.size a b) : Only lo hi a b := ⟨h.os, h.tape, h.output, h.size, fun k hk _ => h.block k hk⟩
theorem Only.below {lo hi : Nat} {a b : World} (h : Only lo hi a b) (hl : lo ≤ a.heap.size) : Below lo a b := ⟨h.os, h.tape, h.output, h.size, fun k hk => h.block k (by omega) (.inl hk)⟩
theorem Only.set {lo hi : Nat} {a b : World} (h : Only lo hi a b) {p : Addr} (h1 : lo ≤ p.block) (h2 : p.block < hi) (v : Value) : Only lo hi a (b.setCell p v) :=
  h.trans ⟨rfl, rfl, rfl, by simp [World.setCell], fun k _ hk => Below.heap_setCell b p v k (by omega)⟩
theorem Only.setL {lo hi B : Nat} (h1 : lo ≤ B) (h2 : B < hi) : ∀ (l : List (Nat × Value)) {a b : World}, Only lo hi a b → Only lo hi a (setL B l b)
  | [], _, _, h => h
  | (_, v) :: l, _, _, h => Only.setL h1 h2 l (h.set h1 h2 v)
theorem Only.cell {lo hi : Nat} {a b : World} (h : Only lo hi a b) {k o : Nat} {v : Value} (hk : k < lo ∨ hi ≤ k) (hc : a.cell? ⟨k, o, none⟩ = some v) : b.cell? ⟨k, o, none⟩ = some v := by
  rw [World.cell?_of_block (w := a) (a := ⟨k, o, none⟩) (h.block k (lt_of_cell hc) hk)]; exact hc

/-- a cell as it was, or turned into one of the same sort; a slice into nil. -/
def Fade (v v' : Value) : Prop := v' = v ∨ (∃ a b, v = .int .u8 a ∧ v' = .int .u8 b) ∨ (∃ a b, v = .int .i64 a ∧ v' = .int .i64 b) ∨ (∃ a n c, v = .slice a n c ∧ v' = .slice none 0 0)
theorem Fade.refl (v : Value) : Fade v v := .inl rfl
theorem Fade.u8 (a b : Int) : Fade (.int .u8 a) (.int .u8 b) := .inr (.inl ⟨a, b, rfl, rfl⟩)
theorem Fade.i64 (a b : Int) : Fade (.int .i64 a) (.int .i64 b) := .inr (.inr (.inl ⟨a, b, rfl, rfl⟩))
theorem Fade.nil (a : Option Addr) (n c : Nat) : Fade (.slice a n c) (.slice none 0 0) := .inr (.inr (.inr ⟨a, n, c, rfl, rfl⟩))
theorem Fade.trans {a b c : Value} (h : Fade a b) (k : Fade b c) : Fade a c := by
  rcases h with rfl | ⟨x, y, rfl, rfl⟩ | ⟨x, y, rfl, rfl⟩ | ⟨x, n, d, rfl, rfl⟩
  · exact k
  · rcases k with rfl | ⟨x', y', h, rfl⟩ | ⟨x', y', h, rfl⟩ | ⟨x', n', d', h, rfl⟩
    · exact Fade.u8 _ _
    · exact Fade.u8 _ _
    · simp at h
    · simp at h
  · rcases k with rfl | ⟨x', y', h, rfl⟩ | ⟨x', y', h, rfl⟩ | ⟨x', n', d', h, rfl⟩
    · exact Fade.i64 _ _
    · simp at h
    · exact Fade.i64 _ _
    · simp at h
  · rcases k with rfl | ⟨x', y', h, rfl⟩ | ⟨x', y', h, rfl⟩ | ⟨x', n', d', h, rfl⟩
    · exact Fade.nil _ _ _
    · simp at h
    · simp at h
    · exact Fade.nil _ _ _
theorem Fade.of_u8 {a : Int} {v : Value} (h : Fade (.int .u8 a) v) : ∃ b, v = .int .u8 b := by
  rcases h with rfl | ⟨x, y, h, rfl⟩ | ⟨x, y, h, rfl⟩ | ⟨x, n, d, h, rfl⟩
  · exact ⟨_, rfl⟩
  · exact ⟨_, rfl⟩
  · simp at h
  · simp at h
theorem Fade.of_i64 {a : Int} {v : Value} (h : Fade (.int .i64 a) v) : ∃ b, v = .int .i64 b := by
  rcases h with rfl | ⟨x, y, h, rfl⟩ | ⟨x, y, h, rfl⟩ | ⟨x, n, d, h, rfl⟩
  · exact ⟨_, rfl⟩
  · simp at h
  · exact ⟨_, rfl⟩
  · simp at h
/-- as it was, or nothing. -/
def SameOr {α : Type} (l : List α) (a : Option Addr) (l' : List α) (a' : Option Addr) : Prop := l' = [] ∨ l' = l ∧ a' = a
theorem Fade.of_slice {α : Type} {a : Option Addr} {l : List α} {c : Nat} {v : Value} (h : Fade (.slice a l.length c) v) : ∃ l' a' c', v = .slice a' (l' : List α).length c' ∧ SameOr l a l' a' := by
  rcases h with rfl | ⟨x, y, h, rfl⟩ | ⟨x, y, h, rfl⟩ | ⟨x, n, d, h, rfl⟩
  · exact ⟨l, a, c, rfl, .inr ⟨rfl, rfl⟩⟩
  · simp at h
  · simp at h
  · exact ⟨[], none, 0, rfl, .inl rfl⟩
theorem SameOr.len {α : Type} {l l' : List α} {a a' : Option Addr} (h : SameOr l a l' a') {m : Nat} (hl : l.length ≤ m) : l'.length ≤ m := by
  rcases h with rfl | ⟨rfl, _⟩
  · simp
  · exact hl

/-- the cells of blocks from lo up to hi keep their sort. -/
structure Fades (lo hi : Nat) (w w' : World) : Prop where
  cell : ∀ b o v, lo ≤ b → b < hi → w.cell? ⟨b, o, none⟩ = some v → ∃ v', w'.cell? ⟨b, o, none⟩ = some v' ∧ Fade v v'
  frozen : ∀ b o, lo ≤ b → b < hi → w'.frozen? ⟨b, o, none⟩ = w.frozen? ⟨b, o, none⟩
theorem Fades.refl (lo hi : Nat) (w : World) : Fades lo hi w w := ⟨fun _ _ v _ _ h => ⟨v, h, Fade.refl v⟩, fun _ _ _ _ => rfl⟩
theorem Fades.trans {lo hi : Nat} {a b c : World} (h : Fades lo hi a b) (k : Fades lo hi b c) : Fades lo hi a c :=
  ⟨fun x o v h1 h2 hc => by
    obtain ⟨v1, hc1, f1⟩ := h.cell x o v h1 h2 hc
    obtain ⟨v2, hc2, f2⟩ := k.cell x o v1 h1 h2 hc1
    exact ⟨v2, hc2, f1.trans f2⟩, fun x o h1 h2 => (k.frozen x o h1 h2).trans (h.frozen x o h1 h2)⟩
theorem Fades.of_below {lo hi : Nat} {a b : World} (h : Below a.heap.size a b) (hh : hi ≤ a.heap.size) : Fades lo hi a b :=
  ⟨fun x o v _ _ hc => ⟨v, cell_stays h hc, Fade.refl v⟩, fun x o _ h2 => h.frozen (p := ⟨x, o, none⟩) (show x < a.heap.size by omega)⟩
theorem Fades.set {lo hi : Nat} {a b : World} (h : Fades lo hi a b) {x o : Nat} {u v : Value} (hc : b.cell? ⟨x, o, none⟩ = some u) (hf : Fade u v) : Fades lo hi a (b.setCell ⟨x, o, none⟩ v) :=
  h.trans ⟨fun y q z _ _ hz => by
    by_cases e : x = y
    · subst e
      by_cases e2 : o = q
      · subst e2
        rw [hc] at hz
        cases hz
        exact ⟨v, set_same hc, hf⟩
      · exact ⟨z, set_off hz e2, Fade.refl z⟩
    · exact ⟨z, set_blk hz e, Fade.refl z⟩, fun y q _ _ => World.frozen?_setCell ..⟩
theorem Fades.setL {lo hi B : Nat} : ∀ (l : List (Nat × Value)) {a b : World}, (l.map (·.1)).Nodup → (∀ p ∈ l, ∃ u, b.cell? ⟨B, p.1, none⟩ = some u ∧ Fade u p.2) → Fades lo hi a b → Fades lo hi a (setL B l b)
  | [], _, _, _, _, h => h
  | (o, v) :: l, _, b, hn, hc, h => by
    rw [List.map_cons, List.nodup_cons] at hn
    obtain ⟨u, hu, hf⟩ := hc (o, v) (by simp)
    refine Fades.setL l hn.2 (fun p hp => ?_) (h.set hu hf)
    obtain ⟨x, hx, hfx⟩ := hc p (by simp [hp])
    refine ⟨x, set_off hx (fun e => hn.1 ?_), hfx⟩
    rw [List.mem_map]
    exact ⟨p, hp, e.symm⟩

/-- from the address on lie that many elements, at the head of a block from lo up to hi. -/
def Spot (w : World) (lo hi K : Nat) (E : Nat → Nat → Prop) (a : Option Addr) (n : Nat) : Prop :=
  n = 0 ∨ ∃ b, a = some ⟨b, 0, none⟩ ∧ lo ≤ b ∧ b < hi ∧ ∀ i, i < n → (∀ j, j < K → w.frozen? ⟨b, i * K + j, none⟩ = false) ∧ E b (i * K)
theorem Spot.fade {w w' : World} {lo hi K : Nat} {E E' : Nat → Nat → Prop} (h : Fades lo hi w w') (hE : ∀ b o, lo ≤ b → b < hi → E b o → E' b o) {a : Option Addr} {n : Nat} (hs : Spot w lo hi K E a n) : Spot w' lo hi K E' a n :=
  hs.imp id fun ⟨b, ha, h1, h2, hr⟩ => ⟨b, ha, h1, h2, fun i hi => ⟨fun j hj => (h.frozen b _ h1 h2).trans ((hr i hi).1 j hj), hE b _ h1 h2 (hr i hi).2⟩⟩
theorem Spot.to {α : Type} {w : World} {lo hi K : Nat} {E : Nat → Nat → Prop} {l l' : List α} {a a' : Option Addr} (h : SameOr l a l' a') (hs : Spot w lo hi K E a l.length) : Spot w lo hi K E a' l'.length := by
  rcases h with rfl | ⟨rfl, rfl⟩
  · exact .inl rfl
  · exact hs
def VE (w : World) (b o : Nat) : Prop := ∃ k n, ∃ (l : List VT), ∃ a c, w.cell? ⟨b, o, none⟩ = some (.int .u8 k) ∧ w.cell? ⟨b, o + 1, none⟩ = some (.int .i64 n) ∧ w.cell? ⟨b, o + 2, none⟩ = some (.slice a l.length c)
def VE2 (w : World) (lo hi : Nat) (b o : Nat) : Prop := ∃ k n, ∃ (l : List VT), ∃ a c, l.length ≤ 3518437208780 ∧ w.cell? ⟨b, o, none⟩ = some (.int .u8 k) ∧ w.cell? ⟨b, o + 1, none⟩ = some (.int .i64 n) ∧ w.cell? ⟨b, o + 2, none⟩ = some (.slice a l.length c) ∧ Spot w lo hi 3 (VE w) a l.length
def WE (w : World) (b o : Nat) : Prop := ∃ x, w.cell? ⟨b, o, none⟩ = some (.int .i64 x)
def PE (w : World) (b o : Nat) : Prop := ∃ k vk vn, ∃ (l : List VT), ∃ va vc n, ∃ (m : List PT), ∃ a c, w.cell? ⟨b, o, none⟩ = some (.int .u8 k) ∧ w.cell? ⟨b, o + 1, none⟩ = some (.int .u8 vk) ∧ w.cell? ⟨b, o + 2, none⟩ = some (.int .i64 vn) ∧
  w.cell? ⟨b, o + 3, none⟩ = some (.slice va l.length vc) ∧ w.cell? ⟨b, o + 4, none⟩ = some (.int .i64 n) ∧ w.cell? ⟨b, o + 5, none⟩ = some (.slice a m.length c)
section
variable {lo hi : Nat} {w w' : World} (h : Fades lo hi w w')
include h
theorem Fades.u8 {b o : Nat} {k : Int} (h1 : lo ≤ b) (h2 : b < hi) (hc : w.cell? ⟨b, o, none⟩ = some (.int .u8 k)) : ∃ k', w'.cell? ⟨b, o, none⟩ = some (.int .u8 k') := by
  obtain ⟨v, hv, hf⟩ := h.cell b o _ h1 h2 hc
  obtain ⟨k', rfl⟩ := hf.of_u8
  exact ⟨k', hv⟩
theorem Fades.i64 {b o : Nat} {k : Int} (h1 : lo ≤ b) (h2 : b < hi) (hc : w.cell? ⟨b, o, none⟩ = some (.int .i64 k)) : ∃ k', w'.cell? ⟨b, o, none⟩ = some (.int .i64 k') := by
  obtain ⟨v, hv, hf⟩ := h.cell b o _ h1 h2 hc
  obtain ⟨k', rfl⟩ := hf.of_i64
  exact ⟨k', hv⟩
theorem Fades.slice {α : Type} {b o : Nat} {a : Option Addr} {l : List α} {c : Nat} (h1 : lo ≤ b) (h2 : b < hi) (hc : w.cell? ⟨b, o, none⟩ = some (.slice a l.length c)) : ∃ l' a' c', w'.cell? ⟨b, o, none⟩ = some (.slice a' (l' : List α).length c') ∧ SameOr l a l' a' := by
  obtain ⟨v, hv, hf⟩ := h.cell b o _ h1 h2 hc
  obtain ⟨l', a', c', rfl, hs⟩ := hf.of_slice
  exact ⟨l', a', c', hv, hs⟩
theorem VE.fade {b o : Nat} (h1 : lo ≤ b) (h2 : b < hi) (he : VE w b o) : VE w' b o := by
  obtain ⟨k, n, l, a, c, c0, c1, c2⟩ := he
  obtain ⟨k', d0⟩ := h.u8 h1 h2 c0
  obtain ⟨n', d1⟩ := h.i64 h1 h2 c1
  obtain ⟨l', a', c', d2, _⟩ := h.slice h1 h2 c2
  exact ⟨k', n', l', a', c', d0, d1, d2⟩
theorem VE2.fade {b o : Nat} (h1 : lo ≤ b) (h2 : b < hi) (he : VE2 w lo hi b o) : VE2 w' lo hi b o := by
  obtain ⟨k, n, l, a, c, hl, c0, c1, c2, hs⟩ := he
  obtain ⟨k', d0⟩ := h.u8 h1 h2 c0
  obtain ⟨n', d1⟩ := h.i64 h1 h2 c1
  obtain ⟨l', a', c', d2, hso⟩ := h.slice h1 h2 c2
  exact ⟨k', n', l', a', c', hso.len hl, d0, d1, d2, (hs.fade h (fun _ _ h1 h2 => VE.fade h h1 h2)).to hso⟩
theorem WE.fade {b o : Nat} (h1 : lo ≤ b) (h2 : b < hi) (he : WE w b o) : WE w' b o := by
  obtain ⟨x, c0⟩ := he
  exact h.i64 h1 h2 c0
theorem PE.fade {b o : Nat} (h1 : lo ≤ b) (h2 : b < hi) (he : PE w b o) : PE w' b o := by
  obtain ⟨k, vk, vn, l, va, vc, n, m, a, c, c0, c1, c2, c3, c4, c5⟩ := he
  obtain ⟨k', d0⟩ := h.u8 h1 h2 c0
  obtain ⟨vk', d1⟩ := h.u8 h1 h2 c1
  obtain ⟨vn', d2⟩ := h.i64 h1 h2 c2
  obtain ⟨l', va', vc', d3, _⟩ := h.slice h1 h2 c3
  obtain ⟨n', d4⟩ := h.i64 h1 h2 c4
  obtain ⟨m', a', c', d5, _⟩ := h.slice h1 h2 c5
  exact ⟨k', vk', vn', l', va', vc', n', m', a', c', d0, d1, d2, d3, d4, d5⟩
end
/-- the rows of a node by itself. -/
structure TBare (w : World) (lo hi : Nat) (t : TT) (A : TA) : Prop where
  la : t.args.length ≤ 651562446070
  ls : t.vs.length ≤ 3518437208780
  lw : t.ws.length ≤ 17592186043904
  lv : t.v.items.length ≤ 3518437208780
  lp : t.p.args.length ≤ 1759218604390
  lq : t.p.val.items.length ≤ 3518437208780
  v : Spot w lo hi 3 (VE w) A.va t.v.items.length
  s : Spot w lo hi 3 (VE2 w lo hi) A.sa t.vs.length
  n : Spot w lo hi 1 (WE w) A.wa t.ws.length
  p : Spot w lo hi 6 (PE w) A.pa t.p.args.length
  q : Spot w lo hi 3 (VE w) A.qa t.p.val.items.length
/-- a term, no deeper than that, whose rows may be written over. -/
def TW (w : World) (lo hi : Nat) : Nat → TT → TA → Prop
  | 0, t, A => TBare w lo hi t A ∧ t.args = []
  | d + 1, t, A => TBare w lo hi t A ∧ Spot w lo hi 15 (fun b o => ∃ t' A', TCells w b o t' A' ∧ TW w lo hi d t' A') A.aa t.args.length
theorem TW.bare {w : World} {lo hi : Nat} : ∀ {d : Nat} {t : TT} {A : TA}, TW w lo hi d t A → TBare w lo hi t A
  | 0, _, _, h => h.1
  | _ + 1, _, _, h => h.1
/-- what a term has turned to. -/
structure Worn (t : TT) (A : TA) (t' : TT) (A' : TA) : Prop where
  v : SameOr t.v.items A.va t'.v.items A'.va
  s : SameOr t.vs A.sa t'.vs A'.sa
  w : SameOr t.ws A.wa t'.ws A'.wa
  p : SameOr t.p.args A.pa t'.p.args A'.pa
  q : SameOr t.p.val.items A.qa t'.p.val.items A'.qa
  a : SameOr t.args A.aa t'.args A'.aa
theorem Fades.tcells {lo hi : Nat} {w w' : World} (h : Fades lo hi w w') {b o : Nat} {t : TT} {A : TA} (h1 : lo ≤ b) (h2 : b < hi) (hc : TCells w b o t A) : ∃ t' A', TCells w' b o t' A' ∧ Worn t A t' A' := by
  obtain ⟨c0, c1, c2, c3, c4, c5, c6, c7, c8, c9, c10, c11, c12, c13, c14⟩ := hc
  obtain ⟨k, d0⟩ := h.u8 h1 h2 c0
  obtain ⟨vk, d1⟩ := h.u8 h1 h2 c1
  obtain ⟨vn, d2⟩ := h.i64 h1 h2 c2
  obtain ⟨vi, va, vc, d3, s3⟩ := h.slice h1 h2 c3
  obtain ⟨vs, sa, sc, d4, s4⟩ := h.slice h1 h2 c4
  obtain ⟨lo', d5⟩ := h.i64 h1 h2 c5
  obtain ⟨hi', d6⟩ := h.i64 h1 h2 c6
  obtain ⟨ws, wa, wc, d7, s7⟩ := h.slice h1 h2 c7
  obtain ⟨pk, d8⟩ := h.u8 h1 h2 c8
  obtain ⟨qk, d9⟩ := h.u8 h1 h2 c9
  obtain ⟨qn, d10⟩ := h.i64 h1 h2 c10
  obtain ⟨qi, qa, qc, d11, s11⟩ := h.slice h1 h2 c11
  obtain ⟨pn, d12⟩ := h.i64 h1 h2 c12
  obtain ⟨pl, pa, pc, d13, s13⟩ := h.slice h1 h2 c13
  obtain ⟨l, aa, ac, d14, s14⟩ := h.slice h1 h2 c14
  exact ⟨.mk k (.mk vk vn vi) vs lo' hi' ws (.mk pk (.mk qk qn qi) pn pl) l, ⟨va, vc, sa, sc, wa, wc, qa, qc, pa, pc, aa, ac⟩, ⟨d0, d1, d2, d3, d4, d5, d6, d7, d8, d9, d10, d11, d12, d13, d14⟩, ⟨s3, s4, s7, s13, s11, s14⟩⟩
theorem TBare.fade {lo hi : Nat} {w w' : World} (h : Fades lo hi w w') {t : TT} {A : TA} (hb : TBare w lo hi t A) : TBare w' lo hi t A :=
  ⟨hb.la, hb.ls, hb.lw, hb.lv, hb.lp, hb.lq, hb.v.fade h (fun _ _ h1 h2 => VE.fade h h1 h2), hb.s.fade h (fun _ _ h1 h2 => VE2.fade h h1 h2), hb.n.fade h (fun _ _ h1 h2 => WE.fade h h1 h2), hb.p.fade h (fun _ _ h1 h2 => PE.fade h h1 h2), hb.q.fade h (fun _ _ h1 h2 => VE.fade h h1 h2)⟩
theorem TBare.to {lo hi : Nat} {w : World} {t t' : TT} {A A' : TA} (hw : Worn t A t' A') (hb : TBare w lo hi t A) : TBare w lo hi t' A' :=
  ⟨hw.a.len hb.la, hw.s.len hb.ls, hw.w.len hb.lw, hw.v.len hb.lv, hw.p.len hb.lp, hw.q.len hb.lq, hb.v.to hw.v, hb.s.to hw.s, hb.n.to hw.w, hb.p.to hw.p, hb.q.to hw.q⟩
theorem TW.to {lo hi : Nat} {w : World} : ∀ {d : Nat} {t t' : TT} {A A' : TA}, Worn t A t' A' → TW w lo hi d t A → TW w lo hi d t' A'
  | 0, _, _, _, _, hw, ⟨hb, he⟩ => ⟨hb.to hw, by
    rcases hw.a with h | ⟨h, _⟩
    · exact h
    · rw [h, he]⟩
  | _ + 1, _, _, _, _, hw, ⟨hb, hs⟩ => ⟨hb.to hw, hs.to hw.a⟩
theorem TW.fade {lo hi : Nat} {w w' : World} (h : Fades lo hi w w') : ∀ (d : Nat) (t : TT) (A : TA), TW w lo hi d t A → TW w' lo hi d t A
  | 0, _, _, ⟨hb, he⟩ => ⟨hb.fade h, he⟩
  | d + 1, _, _, ⟨hb, hs⟩ => ⟨hb.fade h, hs.fade h fun b o h1 h2 ⟨t', A', hc, hw⟩ => by
    obtain ⟨t2, A2, hc2, hwo⟩ := h.tcells h1 h2 hc
    exact ⟨t2, A2, hc2, (TW.fade h d t' A' hw).to hwo⟩⟩
theorem TW.up {lo hi : Nat} {w : World} : ∀ {d : Nat} {t : TT} {A : TA}, TW w lo hi d t A → TW w lo hi (d + 1) t A
  | 0, _, _, ⟨hb, he⟩ => ⟨hb, .inl (by rw [he]; rfl)⟩
  | d + 1, _, _, ⟨hb, hs⟩ => ⟨hb, hs.fade (Fades.refl lo hi w) fun _ _ _ _ ⟨t', A', hc, hw⟩ => ⟨t', A', hc, hw.up⟩⟩
theorem TW.le {w : World} {lo hi d d' : Nat} {t : TT} {A : TA} (h : TW w lo hi d t A) (hd : d ≤ d') : TW w lo hi d' t A := by
  obtain ⟨j, rfl⟩ : ∃ j, d' = d + j := ⟨d' - d, by omega⟩
  clear hd
  induction j with
  | zero => exact h
  | succ j ih => exact ih.up

/-! what a copy has made may be written over -/
theorem fin_cells {w : World} {lo : Nat} {t : VT} {v0 v1 v2 : Value} (h : FIn w lo t (.agg #[v0, v1, v2])) : ∃ a c, v0 = .int .u8 t.kind ∧ v1 = .int .i64 t.num ∧ v2 = .slice a t.items.length c ∧ t.items.length ≤ 3518437208780 ∧ (t.items = [] ∨ ∃ b, a = some ⟨b, 0, none⟩ ∧ lo ≤ b ∧ FRow w lo t.items b 0) := by
  obtain ⟨k, n, its⟩ := t
  obtain ⟨a, c, hl, hv, hr⟩ := h.open
  simp only [Value.agg.injEq, Array.mk.injEq, List.cons.injEq, and_true] at hv
  obtain ⟨rfl, rfl, rfl⟩ := hv
  exact ⟨a, c, rfl, rfl, rfl, hl, hr⟩
theorem FRow.ve {w : World} {lo b : Nat} {l : List VT} (h : FRow w lo l b 0) {i : Nat} (hi : i < l.length) : b < w.heap.size ∧ (∀ j, j < 3 → w.frozen? ⟨b, i * 3 + j, none⟩ = false) ∧ VE w b (i * 3) := by
  obtain ⟨v0, v1, v2, h0, h1, h2, f0, f1, f2, ht⟩ := h.get i hi
  obtain ⟨a, c, rfl, rfl, rfl, _⟩ := (fin_cells ht)
  simp only [Nat.zero_add] at h0 h1 h2 f0 f1 f2
  refine ⟨lt_of_cell h0, fun j hj => ?_, ⟨_, _, _, _, _, h0, h1, h2⟩⟩
  rcases (by omega : j = 0 ∨ j = 1 ∨ j = 2) with rfl | rfl | rfl
  · exact f0
  · exact f1
  · exact f2
theorem FRow.spot {w : World} {lo : Nat} {a : Option Addr} {l : List VT} (h : l = [] ∨ ∃ b, a = some ⟨b, 0, none⟩ ∧ lo ≤ b ∧ FRow w lo l b 0) : Spot w lo w.heap.size 3 (VE w) a l.length := by
  by_cases h0 : l.length = 0
  · exact .inl h0
  · rcases h with rfl | ⟨b, ha, hb, hr⟩
    · simp at h0
    · exact .inr ⟨b, ha, hb, (hr.ve (i := 0) (by omega)).1, fun i hi => (hr.ve hi).2⟩
theorem FRow.spot2 {w : World} {lo : Nat} {a : Option Addr} {l : List VT} (h : l = [] ∨ ∃ b, a = some ⟨b, 0, none⟩ ∧ lo ≤ b ∧ FRow w lo l b 0) : Spot w lo w.heap.size 3 (VE2 w lo w.heap.size) a l.length := by
  by_cases h0 : l.length = 0
  · exact .inl h0
  · rcases h with rfl | ⟨b, ha, hb, hr⟩
    · simp at h0
    · refine .inr ⟨b, ha, hb, (hr.ve (i := 0) (by omega)).1, fun i hi => ⟨(hr.ve hi).2.1, ?_⟩⟩
      obtain ⟨v0, v1, v2, h0, h1, h2, _, _, _, ht⟩ := hr.get i hi
      obtain ⟨a', c', rfl, rfl, rfl, hl, hr'⟩ := (fin_cells ht)
      simp only [Nat.zero_add] at h0 h1 h2
      exact ⟨_, _, _, _, _, hl, h0, h1, h2, FRow.spot hr'⟩
theorem pfin_cells {w : World} {lo : Nat} {t : PT} {v0 v1 v2 v3 v4 v5 : Value} (h : PFIn w lo t (.agg #[v0, v1, v2, v3, v4, v5])) : ∃ va vc a c, v0 = .int .u8 t.kind ∧ v1 = .int .u8 t.val.kind ∧ v2 = .int .i64 t.val.num ∧ v3 = .slice va t.val.items.length vc ∧ v4 = .int .i64 t.num ∧ v5 = .slice a t.args.length c ∧
    t.args.length ≤ 1759218604390 ∧ t.val.items.length ≤ 3518437208780 ∧ (t.val.items = [] ∨ ∃ b, va = some ⟨b, 0, none⟩ ∧ lo ≤ b ∧ FRow w lo t.val.items b 0) ∧ (t.args = [] ∨ ∃ b, a = some ⟨b, 0, none⟩ ∧ lo ≤ b ∧ PFRow w lo t.args b 0) := by
  obtain ⟨k, v, n, l⟩ := t
  obtain ⟨va, vc, a, c, hl, hvl, hx, hv, hr⟩ := h.open
  simp only [Value.agg.injEq, Array.mk.injEq, List.cons.injEq, and_true] at hx
  obtain ⟨rfl, rfl, rfl, rfl, rfl, rfl⟩ := hx
  obtain ⟨a', c', _, _, e, _, hr'⟩ := (fin_cells hv)
  simp only [Value.slice.injEq] at e
  obtain ⟨rfl, _, rfl⟩ := e
  exact ⟨_, _, _, _, rfl, rfl, rfl, rfl, rfl, rfl, hl, hvl, hr', hr⟩
theorem PFRow.spot {w : World} {lo : Nat} {a : Option Addr} {l : List PT} (h : l = [] ∨ ∃ b, a = some ⟨b, 0, none⟩ ∧ lo ≤ b ∧ PFRow w lo l b 0) : Spot w lo w.heap.size 6 (PE w) a l.length := by
  by_cases h0 : l.length = 0
  · exact .inl h0
  · rcases h with rfl | ⟨b, ha, hb, hr⟩
    · simp at h0
    · refine .inr ⟨b, ha, hb, ?_, fun i hi => ?_⟩
      · obtain ⟨_, _, _, _, _, _, c0, _⟩ := hr.get 0 (by omega)
        exact lt_of_cell c0
      · obtain ⟨v0, v1, v2, v3, v4, v5, h0, h1, h2, h3, h4, h5, hf, ht⟩ := hr.get i hi
        obtain ⟨va, vc, a', c', rfl, rfl, rfl, rfl, rfl, rfl, _⟩ := (pfin_cells ht)
        simp only [Nat.zero_add] at h0 h1 h2 h3 h4 h5 hf
        exact ⟨hf, _, _, _, _, _, _, _, _, _, _, h0, h1, h2, h3, h4, h5⟩
theorem WFRow.get {w : World} {b : Nat} : ∀ {l : List Int} {o : Nat} (_ : WFRow w l b o) (i : Nat) (hi : i < l.length), w.cell? ⟨b, o + i, none⟩ = some (.int .i64 l[i]) ∧ w.frozen? ⟨b, o + i, none⟩ = false := by
  intro l
  induction l with
  | nil => intro o _ i hi; simp at hi
  | cons t ts ih =>
    intro o h i hi
    rw [WFRow] at h
    cases i with
    | zero => exact ⟨h.1, h.2.1⟩
    | succ i =>
      have := ih h.2.2 i (by simpa using hi)
      rw [show o + 1 + i = o + (i + 1) by omega] at this
      simpa using this
theorem WFRow.spot {w : World} {lo : Nat} {a : Option Addr} {l : List Int} (h : l = [] ∨ ∃ b, a = some ⟨b, 0, none⟩ ∧ lo ≤ b ∧ WFRow w l b 0) : Spot w lo w.heap.size 1 (WE w) a l.length := by
  by_cases h0 : l.length = 0
  · exact .inl h0
  · rcases h with rfl | ⟨b, ha, hb, hr⟩
    · simp at h0
    · refine .inr ⟨b, ha, hb, lt_of_cell (hr.get 0 (by omega)).1, fun i hi => ?_⟩
      have := hr.get i hi
      simp only [Nat.zero_add] at this
      refine ⟨fun j hj => ?_, _, by rw [Nat.mul_one]; exact this.1⟩
      rw [show i * 1 + j = i by omega]; exact this.2
theorem TFOk.bare {w : World} {lo : Nat} {t : TT} {A : TA} (h : TFOk w lo t A) : TBare w lo w.heap.size t A := by
  obtain ⟨⟨h1, h2, h3⟩, hv, hs, hw, hp, _⟩ := h.parts
  obtain ⟨a, c, _, _, e, hvl, hvr⟩ := (fin_cells hv)
  simp only [Value.slice.injEq] at e
  obtain ⟨rfl, _, rfl⟩ := e
  obtain ⟨va, vc, a', c', _, _, _, e3, _, e5, hpl, hql, hqr, hpr⟩ := (pfin_cells hp)
  simp only [Value.slice.injEq] at e3 e5
  obtain ⟨rfl, _, rfl⟩ := e3
  obtain ⟨rfl, _, rfl⟩ := e5
  exact ⟨h1, h2, h3, hvl, hpl, hql, FRow.spot hvr, FRow.spot2 hs, WFRow.spot hw, PFRow.spot hpr, FRow.spot hqr⟩
theorem run_at15W {w : World} {B q : Nat} {t : TT} {A : TA} (hrow : w.there B q 15) : (Instr.storeAt 47 (.pointer (some ⟨B, q, none⟩)) (t.val A)).run Try.prog w = .ok () (setL B (cellsT q t A) w) := by
  have hi : (Try.prog.info? 47).map (·.size) = some 15 := by
    obtain ⟨i0, hi, hz0, hz1, hz2⟩ := info_parts zeroT
    rw [hi, Option.map_some, hz1]
  have h := run_storeAt_mid (P := Try.prog) w B q 47 (cellsOf t A) hrow hi (by simp [cellsOf, Value.oneCell'])
  rw [setCells_setL] at h
  exact h
end Go.Proofs.Yteebbffecaeciaa
