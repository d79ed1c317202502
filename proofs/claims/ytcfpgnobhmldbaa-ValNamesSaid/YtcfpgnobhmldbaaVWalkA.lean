/- The walks of cmp.Compare, and of the functions of package val that make nothing new. -/
import Derived.Test.YtcfpgnobhmldbaaVBase
namespace Go.Proofs.Ytcfpgnobhmldbaa
open Go.RowKit

theorem nan8 (x : Int) (w : World) : Calls Try.prog 37 #[.int .u8 x] w fun e w' => e = .returned (.bool false) ∧ w = w' := by
  go_enter Try.func37, Try.ntmps37
  go_wp2
  go_ret
  exact ⟨ret_bool (by simp), rfl⟩
theorem nan64 (x : Int) (w : World) : Calls Try.prog 38 #[.int .i64 x] w fun e w' => e = .returned (.bool false) ∧ w = w' := by
  go_enter Try.func38, Try.ntmps38
  go_wp2
  go_ret
  exact ⟨ret_bool (by simp), rfl⟩
theorem nanI (x : Int) (w : World) : Calls Try.prog 39 #[.int .i64 x] w fun e w' => e = .returned (.bool false) ∧ w = w' := by
  go_enter Try.func39, Try.ntmps39
  go_wp2
  go_ret
  exact ⟨ret_bool (by simp), rfl⟩
set_option maxHeartbeats 1000000 in
theorem cmp8 (x y : Int) (w : World) : Calls Try.prog 29 #[.int .u8 x, .int .u8 y] w fun e w' => e = .returned (.int .i64 (cmpI x y)) ∧ w = w' := by
  rcases Int.lt_trichotomy x y with h | h | h
  all_goals
    go_enter Try.func29, Try.ntmps29
    go_wp2_with (go_at_call 37; refine (nan8 _ _).mono ?_; rintro e w' ⟨rfl, rfl⟩)
    go_ret
    exact ⟨ret_int (by unfold cmpI; split <;> (try split) <;> omega), rfl⟩
set_option maxHeartbeats 1000000 in
theorem cmp64 (x y : Int) (w : World) : Calls Try.prog 31 #[.int .i64 x, .int .i64 y] w fun e w' => e = .returned (.int .i64 (cmpI x y)) ∧ w = w' := by
  rcases Int.lt_trichotomy x y with h | h | h
  all_goals
    go_enter Try.func31, Try.ntmps31
    go_wp2_with (go_at_call 38; refine (nan64 _ _).mono ?_; rintro e w' ⟨rfl, rfl⟩)
    go_ret
    exact ⟨ret_int (by unfold cmpI; split <;> (try split) <;> omega), rfl⟩
set_option maxHeartbeats 1000000 in
theorem cmpInt (x y : Int) (w : World) : Calls Try.prog 32 #[.int .i64 x, .int .i64 y] w fun e w' => e = .returned (.int .i64 (cmpI x y)) ∧ w = w' := by
  rcases Int.lt_trichotomy x y with h | h | h
  all_goals
    go_enter Try.func32, Try.ntmps32
    go_wp2_with (go_at_call 39; refine (nanI _ _).mono ?_; rintro e w' ⟨rfl, rfl⟩)
    go_ret
    exact ⟨ret_int (by unfold cmpI; split <;> (try split) <;> omega), rfl⟩
def leafB (k : Int) : Bool := decide (k = 1 ∨ k = 2)
theorem leaf_any (k : Int) (w : World) : Calls Try.prog 30 #[.int .u8 k] w fun e w' => e = .returned (.bool (leafB k)) ∧ w = w' := by
  go_enter Try.func30, Try.ntmps30
  go_wp2
  all_goals
    go_ret
    exact ⟨ret_bool (by unfold leafB; rw [Bool.eq_iff_iff]; simp <;> omega), rfl⟩
end Go.Proofs.Ytcfpgnobhmldbaa
