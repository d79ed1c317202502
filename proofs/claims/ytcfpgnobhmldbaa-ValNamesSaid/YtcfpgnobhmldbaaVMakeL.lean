/- The law's num, pair, list. -/
import Derived.Test.YtcfpgnobhmldbaaVMake
namespace Go.Proofs.Ytcfpgnobhmldbaa
open Go.RowKit

set_option maxHeartbeats 1000000 in
theorem lnum_any (n : Int) (w : World) : Calls Try.prog 13 #[.int .i64 n] w fun e w' => e = .returned (.agg #[.int .u8 1, .int .i64 n, .slice none 0 0]) ∧ Below w.heap.size w w' := by
  go_enter Try.func13, Try.ntmps13
  go_wp2_with fail
  refine bodyPost_ret (v := .agg #[.int .u8 1, .int .i64 n, .slice none 0 0]) (by simp [results, Try.results13, go_sem]) rfl ⟨rfl, ?_⟩
  exact (Below.refl _ _).alloc (Nat.le_refl _) _
set_option maxHeartbeats 1000000 in
theorem lpair_any (a : Option Addr) (len cap : Nat) (w : World) : Calls Try.prog 14 #[.slice a len cap] w fun e w' => e = .returned (.agg #[.int .u8 3, .int .i64 0, .slice a len cap]) ∧ Below w.heap.size w w' := by
  go_enter Try.func14, Try.ntmps14
  go_wp2_with fail
  refine bodyPost_ret (v := .agg #[.int .u8 3, .int .i64 0, .slice a len cap]) (by simp [results, Try.results14, go_sem]) rfl ⟨rfl, ?_⟩
  exact (Below.refl _ _).alloc (Nat.le_refl _) _
set_option maxHeartbeats 1000000 in
theorem llist_any (a : Option Addr) (len cap : Nat) (w : World) : Calls Try.prog 15 #[.slice a len cap] w fun e w' => e = .returned (.agg #[.int .u8 4, .int .i64 0, .slice a len cap]) ∧ Below w.heap.size w w' := by
  go_enter Try.func15, Try.ntmps15
  go_wp2_with fail
  refine bodyPost_ret (v := .agg #[.int .u8 4, .int .i64 0, .slice a len cap]) (by simp [results, Try.results15, go_sem]) rfl ⟨rfl, ?_⟩
  exact (Below.refl _ _).alloc (Nat.le_refl _) _
end Go.Proofs.Ytcfpgnobhmldbaa
