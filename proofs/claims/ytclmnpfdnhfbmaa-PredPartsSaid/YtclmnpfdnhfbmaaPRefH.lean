/- tombolaref17.holds, and Holds. -/
import Derived.Test.YtclmnpfdnhfbmaaPRefHB
import Derived.Test.YtclmnpfdnhfbmaaPRefHC
import Derived.Test.YtclmnpfdnhfbmaaPRefHD
import Derived.Test.YtclmnpfdnhfbmaaPHolds
namespace Go.Proofs.Ytclmnpfdnhfbmaa
open Go.RowKit

theorem rholds_any (N : Nat) : RHolds N := by
  induction N with
  | zero => intro t X x y w h; have := PT.cnt_pos t; omega
  | succ N ih =>
    intro t X x y w hs hfit hx hy
    obtain ⟨k, v, n, l⟩ := t
    have hk := PT.fit_open hfit
    obtain ⟨hk1, hk2, _⟩ := hk
    have hk : k = 1 ∨ k = 2 ∨ k = 3 ∨ k = 4 ∨ k = 5 ∨ k = 6 ∨ k = 7 ∨ k = 8 ∨ k = 9 ∨ k = 10 ∨ k = 11 := by omega
    rcases hk with rfl | rfl | rfl | rfl | rfl | rfl | rfl | rfl | rfl | rfl | rfl
    · exact rh1 N ih v n l X x y w hs hfit hx hy
    · exact rh2 N ih v n l X x y w hs hfit hx hy
    · exact rh3 N ih v n l X x y w hs hfit hx hy
    · exact rh4 N ih v n l X x y w hs hfit hx hy
    · exact rh5 N ih v n l X x y w hs hfit hx hy
    · exact rh6 N ih v n l X x y w hs hfit hx hy
    · exact rh7 N ih v n l X x y w hs hfit hx hy
    all_goals
      obtain ⟨xk, xn, xl⟩ := X
      by_cases hrow : xk = 3 ∨ xk = 4
    · exact rh8row N ih v n l xk xn xl hrow x y w hs hfit hx hy
    · exact rh8not N ih v n l xk xn xl hrow x y w hs hfit hx hy
    · exact rh9row N ih v n l xk xn xl hrow x y w hs hfit hx hy
    · exact rh9not N ih v n l xk xn xl hrow x y w hs hfit hx hy
    · exact rh10row N ih v n l xk xn xl hrow x y w hs hfit hx hy
    · exact rh10not N ih v n l xk xn xl hrow x y w hs hfit hx hy
    · exact rh11row N ih v n l xk xn xl hrow x y w hs hfit hx hy
    · exact rh11not N ih v n l xk xn xl hrow x y w hs hfit hx hy

set_option maxRecDepth 100000 in
set_option maxHeartbeats 4000000 in
theorem rpholds_any (t : PT) (X : VT) (x y : Value) (w : World) (hs : t.cnt ≤ 1000000) (hf : t.fat ≤ 100000) (hx : PIn w t x) (hy : VIn w X y) :
    Calls Try.prog 16 #[x, y] w fun e w' => e = .returned (.bool (t.hold X)) ∧ Below w.heap.size w w' := by
  have hfit : t.may = true → t.fit = true := PT.may_fit
  have hh : t.hold X = (t.may && t.holds X) := rfl
  rw [hh]
  have hx0 := hx
  have hy0 := hy
  obtain ⟨k, v, n, l⟩ := t
  obtain ⟨xk, xn, xl⟩ := X
  obtain ⟨va, vc, a, cap, hlen, hvl, rfl, hv, hr⟩ := hx.open
  obtain ⟨xa, xc, hxl, rfl, hxr⟩ := hy.open
  obtain ⟨w0, hw0, m0, s0, q0, q1, q2, q3, q4, q5⟩ := box6 w (.int .u8 k) (.int .u8 v.kind) (.int .i64 v.num) (.slice va v.items.length vc) (.int .i64 n) (.slice a l.length cap) 27
  obtain ⟨w1, hw1, m1, s1, p0, p1, p2, _⟩ := box3 w0 (.int .u8 xk) (.int .i64 xn) (.slice xa xl.length xc) 24
  have q0 := cell_stays m1 q0
  have q1 := cell_stays m1 q1
  have q2 := cell_stays m1 q2
  have q3 := cell_stays m1 q3
  have q4 := cell_stays m1 q4
  have q5 := cell_stays m1 q5
  have hB0 : Below w.heap.size w w1 := m0.trans (m1.mono m0.size)
  have hx1 := hx0.below hB0
  have hy1 := hy0.below hB0
  clear hx hx0 hv hr hy hy0 hxr m0 m1 hh
  obtain ⟨b, hb⟩ : ∃ b, b = (PT.mk k v n l).may := ⟨_, rfl⟩
  rw [← hb] at hfit ⊢
  have HS := Lib.hid hs; have HF := Lib.hid hf; have HB := Lib.hid hb; have HFIT := Lib.hid hfit; clear hs hf hb hfit
  go_enter Try.func16, Try.ntmps16
  go_wp2_with fail
  refine (rpmay_any _ _ _ HS.out HF.out hx1).mono ?_
  rintro e w2 ⟨rfl, hb2⟩
  rw [← HB.out]
  cases b
  · go_wp2_with fail
    go_ret
    exact ⟨rfl, hB0.trans (hb2.mono hB0.size)⟩
  · have HFIT1 := Lib.hid (HFIT.out rfl); clear HFIT
    have q0 := cell_stays hb2 q0
    have q1 := cell_stays hb2 q1
    have q2 := cell_stays hb2 q2
    have q3 := cell_stays hb2 q3
    have q4 := cell_stays hb2 q4
    have q5 := cell_stays hb2 q5
    have p0 := cell_stays hb2 p0
    have p1 := cell_stays hb2 p1
    have p2 := cell_stays hb2 p2
    go_wp2_with fail
    refine (rholds_any 1000000 _ _ _ _ _ HS.out HFIT1.out (hx1.below hb2) (hy1.below hb2)).mono ?_
    rintro e w3 ⟨rfl, hb3⟩
    go_wp2_with fail
    go_ret
    exact ⟨rfl, hB0.trans ((hb2.trans (hb3.mono hb2.size)).mono hB0.size)⟩
end Go.Proofs.Ytclmnpfdnhfbmaa
