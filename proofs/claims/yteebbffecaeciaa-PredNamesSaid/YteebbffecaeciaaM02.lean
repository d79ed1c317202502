/- Texts of this claim laid into one: VWrong. -/
import Derived.Test.YteebbffecaeciaaM01
/- val.wrong. -/
namespace Go.Proofs.Yteebbffecaeciaa
open Go.RowKit

set_option maxRecDepth 100000 in
set_option maxHeartbeats 2000000 in
theorem wrong_any (k n : Int) (a : Option Addr) (len cap : Nat) (w : World) :
    Calls Try.prog 132 #[.agg #[.int .u8 k, .int .i64 n, .slice a len cap]] w fun e w' => e = .returned (.int .i64 (VT.wrong k n len)) ∧ Below w.heap.size w w' := by
  have hk : k = 1 ∨ k = 2 ∨ k = 3 ∨ k = 4 ∨ (k ≠ 1 ∧ k ≠ 2 ∧ k ≠ 3 ∧ k ≠ 4) := by omega
  rcases hk with rfl | rfl | rfl | rfl | ⟨h1, h2, h3, h4⟩
  all_goals
    go_enter Try.func132, Try.ntmps132
    go_wp2_with (go_at_call 136; refine (leaf_any _ _).mono ?_; rintro e w' ⟨rfl, rfl⟩)
    all_goals
      go_ret
      refine ⟨ret_int ?_, (Below.refl _ _).alloc (Nat.le_refl _) _⟩
      try simp only [bne_iff_ne, ne_eq, bne_eq_false_iff_eq, beq_eq_false_iff_ne] at *
      simp only [VT.wrong]
      simp (config := { failIfUnchanged := false }) only [*, if_true, if_false, true_and, false_and, or_false, true_or, Int.reduceEq, not_false_eq_true, not_true_eq_false, or_true, ne_eq]
      first | done | ((repeat' split) <;> omega)
end Go.Proofs.Yteebbffecaeciaa
