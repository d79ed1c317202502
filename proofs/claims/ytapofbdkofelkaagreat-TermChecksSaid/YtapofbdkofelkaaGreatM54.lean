/- Texts of this claim laid into one: TLawWhere. -/
import Derived.Test.YtapofbdkofelkaaGreatM42
import Derived.Test.YtapofbdkofelkaaGreatM37
import Derived.Deep.Cut
import Derived.Deep.CutRange
/- TermWhere: the law's function, walked. -/
namespace Go.Proofs.YtapofbdkofelkaaGreat
open Go.RowKit

mutual
theorem TT.pre_lean : ∀ t : TT, t.lean = true → ∀ u ∈ t.pre, u.lean = true
  | .mk k v vs lo hi ws p l, h, u, hu => by
    rw [TT.pre] at hu
    rcases List.mem_cons.1 hu with rfl | hu
    · exact h
    · exact TT.pres_lean l (TT.lean_parts h).2 u hu
theorem TT.pres_lean : ∀ l : List TT, TT.leans l = true → ∀ u ∈ TT.pres l, u.lean = true
  | [], _, u, hu => by rw [TT.pres] at hu; simp at hu
  | t :: ts, h, u, hu => by
    rw [TT.leans, Bool.and_eq_true] at h
    rw [TT.pres] at hu
    rcases List.mem_append.1 hu with hu | hu
    · exact TT.pre_lean t h.1 u hu
    · exact TT.pres_lean ts h.2 u hu
end
theorem want_und {A : List Nat} {P : Program} {ops : Array Oper} {Ph : Nat → Value → World → Prop} {o : Oper} {r : Operand → Value} {w : World} (j : Nat) {b : Bool} (d : Nat) (hg : o.guard = some (j, b)) (hj : (ops[j]?).bind (·.dst) = some d) (hv : r (.tmp d) = undef)
    (h : ∀ d, o.dst = some d → Ph d undef w ∧ d ∉ A) :
    (wantedR ops r o = true → OpDoes P o r w fun v w' => (∀ d, o.dst = some d → Ph d v w' ∧ (d ∈ A → IsBlock v w.heap.size)) ∧ Below w.heap.size w w') ∧ (wantedR ops r o = false → ∀ d, o.dst = some d → Ph d undef w ∧ d ∉ A) :=
  ⟨fun hw => by
    unfold wantedR at hw
    rw [hg] at hw
    simp [hj, hv, undef] at hw, fun _ => h⟩
end Go.Proofs.YtapofbdkofelkaaGreat
