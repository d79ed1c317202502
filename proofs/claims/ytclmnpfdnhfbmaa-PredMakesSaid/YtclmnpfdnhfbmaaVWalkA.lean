/- The walks of cmp.Compare, and of the functions of package val that make nothing new. -/
import Derived.Test.YtclmnpfdnhfbmaaVBase
namespace Go.Proofs.Ytclmnpfdnhfbmaa
open Go.RowKit

theorem nan8 (x : Int) (w : World) : Calls Try.prog 78 #[.int .u8 x] w fun e w' => e = .returned (.bool false) ∧ w = w' := by
  go_enter Try.func78, Try.ntmps78
  go_wp2
  go_ret
  exact ⟨ret_bool (by simp), rfl⟩
theorem nan64 (x : Int) (w : World) : Calls Try.prog 79 #[.int .i64 x] w fun e w' => e = .returned (.bool false) ∧ w = w' := by
  go_enter Try.func79, Try.ntmps79
  go_wp2
  go_ret
  exact ⟨ret_bool (by simp), rfl⟩
theorem nanI (x : Int) (w : World) : Calls Try.prog 80 #[.int .i64 x] w fun e w' => e = .returned (.bool false) ∧ w = w' := by
  go_enter Try.func80, Try.ntmps80
  go_wp2
  go_ret
  exact ⟨ret_bool (by simp), rfl⟩
set_option maxHeartbeats 1000000 in
theorem cmp8 (x y : Int) (w : World) : Calls Try.prog 58 #[.int .u8 x, .int .u8 y] w fun e w' => e = .returned (.int .i64 (cmpI x y)) ∧ w = w' := by
  rcases Int.lt_trichotomy x y with h | h | h
  all_goals
    go_enter Try.func58, Try.ntmps58
    go_wp2_with (go_at_call 78; refine (nan8 _ _).mono ?_; rintro e w' ⟨rfl, rfl⟩)
    go_ret
    exact ⟨ret_int (by unfold cmpI; split <;> (try split) <;> omega), rfl⟩
set_option maxHeartbeats 1000000 in
theorem cmp64 (x y : Int) (w : World) : Calls Try.prog 60 #[.int .i64 x, .int .i64 y] w fun e w' => e = .returned (.int .i64 (cmpI x y)) ∧ w = w' := by
  rcases Int.lt_trichotomy x y with h | h | h
  all_goals
    go_enter Try.func60, Try.ntmps60
    go_wp2_with (go_at_call 79; refine (nan64 _ _).mono ?_; rintro e w' ⟨rfl, rfl⟩)
    go_ret
    exact ⟨ret_int (by unfold cmpI; split <;> (try split) <;> omega), rfl⟩
set_option maxHeartbeats 1000000 in
theorem cmpInt (x y : Int) (w : World) : Calls Try.prog 61 #[.int .i64 x, .int .i64 y] w fun e w' => e = .returned (.int .i64 (cmpI x y)) ∧ w = w' := by
  rcases Int.lt_trichotomy x y with h | h | h
  all_goals
    go_enter Try.func61, Try.ntmps61
    go_wp2_with (go_at_call 80; refine (nanI _ _).mono ?_; rintro e w' ⟨rfl, rfl⟩)
    go_ret
    exact ⟨ret_int (by unfold cmpI; split <;> (try split) <;> omega), rfl⟩
def leafB (k : Int) : Bool := decide (k = 1 ∨ k = 2)
theorem leaf_any (k : Int) (w : World) : Calls Try.prog 59 #[.int .u8 k] w fun e w' => e = .returned (.bool (leafB k)) ∧ w = w' := by
  go_enter Try.func59, Try.ntmps59
  go_wp2
  all_goals
    go_ret
    exact ⟨ret_bool (by unfold leafB; rw [Bool.eq_iff_iff]; simp <;> omega), rfl⟩
end Go.Proofs.Ytclmnpfdnhfbmaa
