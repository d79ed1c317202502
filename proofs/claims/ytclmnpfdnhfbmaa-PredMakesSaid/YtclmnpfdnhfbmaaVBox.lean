/- A value laid into a box of its own. -/
import Derived.Test.YtclmnpfdnhfbmaaVFresh
namespace Go.Proofs.Ytclmnpfdnhfbmaa
open Go.RowKit
theorem box3 (w : World) (x y z : Value) (T : Nat) : ∃ w4, w.alloc (.cells #[x, y, z] T) = w4 ∧ Below w.heap.size w w4 ∧ w.heap.size < w4.heap.size ∧
    w4.cell? ⟨w.heap.size, 0, none⟩ = some x ∧ w4.cell? ⟨w.heap.size, 1, none⟩ = some y ∧ w4.cell? ⟨w.heap.size, 2, none⟩ = some z ∧ (∀ o, w4.frozen? ⟨w.heap.size, o, none⟩ = false) := by
  refine ⟨_, rfl, ?_, ?_, ?_, ?_, ?_, ?_⟩
  · exact (Below.refl _ _).alloc (Nat.le_refl _) _
  · show w.heap.size < (w.heap.push _).size; simp
  · go_simp
  · go_simp
  · go_simp
  · intro o; exact (RowAt.new w #[x, y, z] T).frozen o

theorem vrow_nil {w : World} {a : Option Addr} : VRow w [] a := by rw [VRow]; trivial
theorem vrow_cons {w : World} {t : VT} {ts : List VT} {b o : Nat} {v0 v1 v2 : Value} (h0 : w.cell? ⟨b, o, none⟩ = some v0) (h1 : w.cell? ⟨b, o + 1, none⟩ = some v1) (h2 : w.cell? ⟨b, o + 2, none⟩ = some v2)
    (hv : VIn w t (.agg #[v0, v1, v2])) (hr : VRow w ts (some ⟨b, o + 3, none⟩)) : VRow w (t :: ts) (some ⟨b, o, none⟩) := by rw [VRow]; exact ⟨b, o, rfl, ⟨v0, v1, v2, h0, h1, h2, hv⟩, hr⟩
theorem vin_of {w : World} {k n : Int} {its : List VT} {a : Option Addr} {len cap : Nat} (hlen : len = its.length) (hl : its.length ≤ 3518437208780) (hr : VRow w its a) : VIn w (.mk k n its) (.agg #[.int .u8 k, .int .i64 n, .slice a len cap]) := by subst hlen; exact VIn.shut hl hr
theorem Below.al {w : World} (o : Obj) : Below w.heap.size w (w.alloc o) := (Below.refl _ _).alloc (Nat.le_refl _) o
end Go.Proofs.Ytclmnpfdnhfbmaa
