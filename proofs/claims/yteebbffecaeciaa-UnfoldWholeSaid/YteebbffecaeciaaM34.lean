/- Texts of this claim laid into one: TLawWhere. -/
import Derived.Test.YteebbffecaeciaaM29
import Derived.Test.YteebbffecaeciaaM33
import Derived.Deep.Cut
import Derived.Deep.CutRange
/- TermWhere: the law's function, walked. -/
namespace Go.Proofs.Yteebbffecaeciaa
open Go.RowKit

theorem want_und {A : List Nat} {P : Program} {ops : Array Oper} {Ph : Nat → Value → World → Prop} {o : Oper} {r : Operand → Value} {w : World} (j : Nat) {b : Bool} (d : Nat) (hg : o.guard = some (j, b)) (hj : (ops[j]?).bind (·.dst) = some d) (hv : r (.tmp d) = undef)
    (h : ∀ d, o.dst = some d → Ph d undef w ∧ d ∉ A) :
    (wantedR ops r o = true → OpDoes P o r w fun v w' => (∀ d, o.dst = some d → Ph d v w' ∧ (d ∈ A → IsBlock v w.heap.size)) ∧ Below w.heap.size w w') ∧ (wantedR ops r o = false → ∀ d, o.dst = some d → Ph d undef w ∧ d ∉ A) :=
  ⟨fun hw => by
    unfold wantedR at hw
    rw [hg] at hw
    simp [hj, hv, undef] at hw, fun _ => h⟩
end Go.Proofs.Yteebbffecaeciaa
