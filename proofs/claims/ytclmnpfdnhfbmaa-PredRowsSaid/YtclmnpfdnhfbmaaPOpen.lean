/- From the form's reading of a byte to its number. -/
import Derived.Test.YtclmnpfdnhfbmaaPRead
namespace Go.Proofs.Ytclmnpfdnhfbmaa
open Go.ChangeShapes Go.WideShapes Go.ChangeAt Go.RowKit Go.Deep
theorem open_u8 {W : World} {r : Reach} {b0 : Nat} {v : Value} (h : Value.okWide Try.prog W r b0 5 v) : ∃ n, v = .int .u8 n ∧ 0 ≤ n ∧ n ≤ 255 := by
  obtain ⟨n, rfl⟩ := okWide_int Try.underlying5 h
  refine ⟨n, rfl, ?_⟩
  simp only [Value.okWide, Try.underlying5, Cell.okWide, Cell.ok] at h
  have h2 : IntKind.u8.has n := by simpa using h
  unfold IntKind.has at h2
  have a1 : IntKind.u8.min = 0 := by decide
  have a2 : IntKind.u8.max = 255 := by decide
  omega
end Go.Proofs.Ytclmnpfdnhfbmaa
