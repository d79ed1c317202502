/- Texts of this claim laid into one: TTwo. -/
import Derived.Test.YtapofbdkofelkaaM46
import Derived.Test.YtapofbdkofelkaaM45
/- Two terms' boxes made in a region that draws its order. -/
namespace Go.Proofs.Ytapofbdkofelkaa
open Go.RowKit
section
variable {ops : Array Oper} {Q : Exit → Act → World → Prop} {S : World → Prop} {a : Act} {w : World}
/-- a store of a term, the only one that may come up. -/
theorem held_store15 {i fuel T n B : Nat} {listed : Array Bool} {t : TT} {A : TA} (po xo : Operand) (hr : Region.ready .any ops listed = [i]) (hop : (ops[i]?).map (fun o => (o.op, o.guard, o.dst)) = some (.store 31 po xo, none, none)) (e1 : a.eval po = .pointer (some ⟨B, 0, none⟩)) (e2 : a.eval xo = t.val A)
    (hrow : RowAt w T B n) (hn : 15 ≤ n) (hK : S (setL B (cellsT 0 t A) w) ∧ wpAnyH Try.prog .any ops Q S fuel (listed.setIfInBounds i true) a (setL B (cellsT 0 t A) w)) : wpAnyH Try.prog .any ops Q S (fuel + 1) listed a w := by
  cases ho : ops[i]? with
  | none => rw [ho] at hop; simp at hop
  | some o =>
    rw [ho] at hop
    simp only [Option.map_some, Option.some.injEq, Prod.mk.injEq] at hop
    exact held_one hr (wpOp_skip ho hop.2.1 hop.2.2 (run_store15 (q := 0) hrow (by omega) hop.1 e1 e2) hK)
end
end Go.Proofs.Ytapofbdkofelkaa
