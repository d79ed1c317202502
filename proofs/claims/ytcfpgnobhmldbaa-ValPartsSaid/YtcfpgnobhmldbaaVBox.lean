/- A value laid into a box of its own. -/
import Derived.Test.YtcfpgnobhmldbaaVFresh
namespace Go.Proofs.Ytcfpgnobhmldbaa
open Go.RowKit
theorem box3 (w : World) (x y z : Value) (T : Nat) : ∃ w4, w.alloc (.cells #[x, y, z] T) = w4 ∧ Below w.heap.size w w4 ∧ w.heap.size < w4.heap.size ∧
    w4.cell? ⟨w.heap.size, 0, none⟩ = some x ∧ w4.cell? ⟨w.heap.size, 1, none⟩ = some y ∧ w4.cell? ⟨w.heap.size, 2, none⟩ = some z ∧ (∀ o, w4.frozen? ⟨w.heap.size, o, none⟩ = false) := by
  refine ⟨_, rfl, ?_, ?_, ?_, ?_, ?_, ?_⟩
  · exact (Below.refl _ _).alloc (Nat.le_refl _) _
  · show w.heap.size < (w.heap.push _).size; simp
  · go_simp
  · go_simp
  · go_simp
  · intro o; exact (RowAt.new w #[x, y, z] T).frozen o
end Go.Proofs.Ytcfpgnobhmldbaa
