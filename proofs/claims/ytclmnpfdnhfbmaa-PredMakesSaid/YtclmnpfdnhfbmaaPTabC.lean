/- What the temporaries of a region hold, where guards hang on what is not known ahead. -/
import Derived.Test.YtclmnpfdnhfbmaaPTab
namespace Go.Proofs.Ytclmnpfdnhfbmaa
open Go.RowKit

/-- as kindP; each kind under a condition. -/
def kindC (ks : List (Nat × (Bool × PQ))) (d : Nat) (v : Value) (w : World) : Prop :=
  match ks.lookup d with
  | some p => p.1 = true → p.2.ok v w
  | none => True
theorem kindC_mono (ks : List (Nat × (Bool × PQ))) (d : Nat) (v : Value) (w w' : World) (h : kindC ks d v w) (hb : Below w.heap.size w w') : kindC ks d v w' := by
  unfold kindC at h ⊢
  cases hl : ks.lookup d with
  | none => trivial
  | some p => rw [hl] at h; exact fun hp => PQ.mono hb _ _ (h hp)
section
variable {A : List Nat} {o : Oper} {r : Operand → Value} {w : World} {d : Nat} {Ph : Nat → Value → World → Prop}
theorem sc_value {v : Value} (hd : o.dst = some d) (hA : decide (d ∉ A) = true) (h : (execOp r o).run Try.prog w = .ok (.value v) w) (hk : Ph d v w) :
    OpDoes Try.prog o r w fun v w' => (∀ d, o.dst = some d → Ph d v w' ∧ (d ∈ A → IsBlock v w.heap.size)) ∧ Below w.heap.size w w' :=
  .value h ⟨fun d' e => by rw [hd] at e; cases e; exact ⟨hk, fun h => absurd h (of_decide_eq_true hA)⟩, Below.refl _ _⟩
theorem sc_new {v : Value} {w' : World} (hd : o.dst = some d) (hA : decide (d ∉ A) = true) (h : (execOp r o).run Try.prog w = .ok (.value v) w') (hb : Below w.heap.size w w') (hk : Ph d v w') :
    OpDoes Try.prog o r w fun v w' => (∀ d, o.dst = some d → Ph d v w' ∧ (d ∈ A → IsBlock v w.heap.size)) ∧ Below w.heap.size w w' :=
  .value h ⟨fun d' e => by rw [hd] at e; cases e; exact ⟨hk, fun h => absurd h (of_decide_eq_true hA)⟩, hb⟩
theorem sc_call {f : FuncId} {args : Array Value} (hd : o.dst = some d) (hA : decide (d ∉ A) = true) (h : (execOp r o).run Try.prog w = .ok (.enter f args) w) (hc : Calls Try.prog f args w fun e w' => ∃ v, e = .returned v ∧ Ph d v w' ∧ Below w.heap.size w w') :
    OpDoes Try.prog o r w fun v w' => (∀ d, o.dst = some d → Ph d v w' ∧ (d ∈ A → IsBlock v w.heap.size)) ∧ Below w.heap.size w w' :=
  .enter h (hc.mono fun e w' ⟨v, he, hk, hb⟩ => ⟨v, he, fun d' e => by rw [hd] at e; cases e; exact ⟨hk, fun h => absurd h (of_decide_eq_true hA)⟩, hb⟩)
end
theorem made_c {c : Bool} {f : FuncId} {args : Array Value} {w : World} {R : Value → World → Prop} (h : Calls Try.prog f args w fun e w' => ∃ v, e = .returned v ∧ R v w' ∧ Below w.heap.size w w') : Calls Try.prog f args w fun e w' => ∃ v, e = .returned v ∧ (c = true → R v w') ∧ Below w.heap.size w w' :=
  h.mono fun e w' ⟨v, he, hk, hb⟩ => ⟨v, he, fun _ => hk, hb⟩
theorem want_c {A : List Nat} {P : Program} {ops : Array Oper} {Ph : Nat → Value → World → Prop} {o : Oper} {r : Operand → Value} {w : World} (j : Nat) {b c : Bool} (d : Nat) (hg : o.guard = some (j, b)) (hj : (ops[j]?).bind (·.dst) = some d) (hv : r (.tmp d) = .bool c)
    (h : c = b → OpDoes P o r w fun v w' => (∀ d, o.dst = some d → Ph d v w' ∧ (d ∈ A → IsBlock v w.heap.size)) ∧ Below w.heap.size w w') (h' : c ≠ b → ∀ d, o.dst = some d → Ph d undef w ∧ d ∉ A) :
    (wantedR ops r o = true → OpDoes P o r w fun v w' => (∀ d, o.dst = some d → Ph d v w' ∧ (d ∈ A → IsBlock v w.heap.size)) ∧ Below w.heap.size w w') ∧ (wantedR ops r o = false → ∀ d, o.dst = some d → Ph d undef w ∧ d ∉ A) := by
  have e : wantedR ops r o = (c == b) := by
    unfold wantedR
    rw [hg]
    simp only [hj, hv]
  rw [e]
  exact ⟨fun hw => h (by simpa using hw), fun hw => h' (by simpa using hw)⟩
theorem not_wanted {d : Nat} {c : Bool} {k : PQ} {ks : List (Nat × (Bool × PQ))} {o : Oper} {w : World} (hd : o.dst = some d) (hl : ks.lookup d = some (c, k)) (hc : c ≠ true) : ∀ d, o.dst = some d → kindC ks d undef w ∧ d ∉ ([] : List Nat) := fun d' e => by
  rw [hd] at e; cases e
  refine ⟨?_, by simp⟩
  unfold kindC
  rw [hl]
  exact fun h => absurd h hc
end Go.Proofs.Ytclmnpfdnhfbmaa
