/- Texts of this claim laid into one: VWalkE. -/
import Derived.Test.YteebbffecaeciaaM26
/- tombolaref14.SameAll. -/
namespace Go.Proofs.Yteebbffecaeciaa
open Go.RowKit

set_option maxHeartbeats 1000000 in
theorem rsameAll_any (l m : List VT) (a a' : Option Addr) (cap cap' : Nat) (w : World) (hl : l.length ≤ 3518437208780) (hm : m.length ≤ 3518437208780) (hr : VRow w l a) (hr' : VRow w m a') :
    Calls Try.prog 74 #[.slice a l.length cap, .slice a' m.length cap'] w fun e w' => e = .returned (.bool (VT.sameAll l m)) ∧ Below w.heap.size w w' := by
  go_enter Try.func74, Try.ntmps74
  go_wp2_with fail
  refine (rsame_any (1 + VT.sizes l) (.mk 0 0 l) (.mk 0 0 m) _ _ _ (by rw [VT.size]; omega) (VIn.shut (cap := cap) hl hr) (VIn.shut (cap := cap') hm hr')).mono ?_
  rintro e w1 ⟨rfl, hb1⟩
  go_wp2_with fail
  go_ret
  exact ⟨ret_bool (by rw [VT.same]; simp), hb1⟩
end Go.Proofs.Yteebbffecaeciaa
