/- pred's and the document's small functions over a node. -/
import Derived.Test.YtclmnpfdnhfbmaaPBase
import Derived.Test.YtclmnpfdnhfbmaaVBox
namespace Go.Proofs.Ytclmnpfdnhfbmaa
open Go.RowKit

theorem box6 (w : World) (x y z x' y' z' : Value) (T : Nat) : ∃ w4, w.alloc (.cells #[x, y, z, x', y', z'] T) = w4 ∧ Below w.heap.size w w4 ∧ w.heap.size < w4.heap.size ∧
    w4.cell? ⟨w.heap.size, 0, none⟩ = some x ∧ w4.cell? ⟨w.heap.size, 1, none⟩ = some y ∧ w4.cell? ⟨w.heap.size, 2, none⟩ = some z ∧
    w4.cell? ⟨w.heap.size, 3, none⟩ = some x' ∧ w4.cell? ⟨w.heap.size, 4, none⟩ = some y' ∧ w4.cell? ⟨w.heap.size, 5, none⟩ = some z' := by
  refine ⟨_, rfl, ?_, ?_, ?_, ?_, ?_, ?_, ?_, ?_⟩
  · exact (Below.refl _ _).alloc (Nat.le_refl _) _
  · show w.heap.size < (w.heap.push _).size; simp
  all_goals go_simp

theorem none_any (k n : Int) (a : Option Addr) (len cap : Nat) (w : World) :
    Calls Try.prog 67 #[.agg #[.int .u8 k, .int .i64 n, .slice a len cap]] w fun e w' => e = .returned (.bool (k == 0 && n == 0 && len == 0)) ∧ Below w.heap.size w w' := by
  have hk : (k == 0) = true ∨ (k == 0) = false := by cases h : (k == 0) <;> simp
  have hn : (n == 0) = true ∨ (n == 0) = false := by cases h : (n == 0) <;> simp
  rcases hk with hk | hk
  · rcases hn with hn | hn
    · go_enter Try.func67, Try.ntmps67
      go_wp2_with fail
      go_ret
      exact ⟨ret_bool (by rw [hk, hn, Bool.eq_iff_iff]; simp), Below.al _⟩
    · go_enter Try.func67, Try.ntmps67
      go_wp2_with fail
      go_ret
      exact ⟨ret_bool (by rw [hk, hn]; rfl), Below.al _⟩
  · go_enter Try.func67, Try.ntmps67
    go_wp2_with fail
    go_ret
    exact ⟨ret_bool (by rw [hk]; rfl), Below.al _⟩
theorem rnone_any (k n : Int) (a : Option Addr) (len cap : Nat) (w : World) :
    Calls Try.prog 70 #[.agg #[.int .u8 k, .int .i64 n, .slice a len cap]] w fun e w' => e = .returned (.bool (k == 0 && n == 0 && len == 0)) ∧ Below w.heap.size w w' := by
  have hk : (k == 0) = true ∨ (k == 0) = false := by cases h : (k == 0) <;> simp
  have hn : (n == 0) = true ∨ (n == 0) = false := by cases h : (n == 0) <;> simp
  rcases hk with hk | hk
  · rcases hn with hn | hn
    · go_enter Try.func70, Try.ntmps70
      go_wp2_with fail
      go_ret
      exact ⟨ret_bool (by rw [hk, hn, Bool.eq_iff_iff]; simp), Below.al _⟩
    · go_enter Try.func70, Try.ntmps70
      go_wp2_with fail
      go_ret
      exact ⟨ret_bool (by rw [hk, hn]; rfl), Below.al _⟩
  · go_enter Try.func70, Try.ntmps70
    go_wp2_with fail
    go_ret
    exact ⟨ret_bool (by rw [hk]; rfl), Below.al _⟩

theorem hasValue_any (k : Int) (w : World) : Calls Try.prog 65 #[.int .u8 k] w fun e w' => e = .returned (.bool (decide (k = 3 ∨ k = 4))) ∧ w = w' := by
  go_enter Try.func65, Try.ntmps65
  go_wp2
  all_goals
    go_ret
    exact ⟨ret_bool (by rw [Bool.eq_iff_iff]; simp <;> omega), rfl⟩
theorem prow_any (k n : Int) (a : Option Addr) (len cap : Nat) (w : World) : Calls Try.prog 110 #[.agg #[.int .u8 k, .int .i64 n, .slice a len cap]] w fun e w' => e = .returned (.bool (decide (k = 3 ∨ k = 4))) ∧ Below w.heap.size w w' := by
  go_enter Try.func110, Try.ntmps110
  go_wp2_with fail
  all_goals
    go_ret
    exact ⟨ret_bool (by rw [Bool.eq_iff_iff]; simp <;> omega), Below.al _⟩
theorem rrow_any (k n : Int) (a : Option Addr) (len cap : Nat) (w : World) : Calls Try.prog 74 #[.agg #[.int .u8 k, .int .i64 n, .slice a len cap]] w fun e w' => e = .returned (.bool (decide (k = 3 ∨ k = 4))) ∧ Below w.heap.size w w' := by
  go_enter Try.func74, Try.ntmps74
  go_wp2_with fail
  all_goals
    go_ret
    exact ⟨ret_bool (by rw [Bool.eq_iff_iff]; simp <;> omega), Below.al _⟩
theorem room_any (k : Int) (w : World) : Calls Try.prog 85 #[.int .u8 k] w fun e w' => e = .returned (.tuple #[.int .i64 (PT.least k), .int .i64 (PT.most k)]) ∧ w = w' := by
  have hk : k = 1 ∨ k = 2 ∨ k = 3 ∨ k = 4 ∨ k = 6 ∨ k = 7 ∨ (k ≠ 1 ∧ k ≠ 2 ∧ k ≠ 3 ∧ k ≠ 4 ∧ k ≠ 6 ∧ k ≠ 7) := by omega
  rcases hk with rfl | rfl | rfl | rfl | rfl | rfl | ⟨h1, h2, h3, h4, h5, h6⟩
  all_goals
    go_enter Try.func85, Try.ntmps85
    go_wp2
    refine bodyPost_ret (v := .tuple #[.int .i64 (PT.least _), .int .i64 (PT.most _)]) (by first | (simp [results, Try.results85, go_sem, PT.least, PT.most]; done) | (simp [results, Try.results85, go_sem, PT.least, PT.most, h1, h2, h3, h4, h5, h6]; done)) rfl ⟨rfl, rfl⟩
end Go.Proofs.Ytclmnpfdnhfbmaa
