/- tombolaref17.holds: Len; of what is no row. -/
import Derived.Test.YtclmnpfdnhfbmaaPRefHA
namespace Go.Proofs.Ytclmnpfdnhfbmaa
open Go.RowKit


set_option maxRecDepth 100000 in
set_option maxHeartbeats 4000000 in
theorem rh11row (N : Nat) (ih : RHolds N) (v : VT) (n : Int) (l : List PT) (xk xn : Int) (xl : List VT) (hrow : xk = 3 ∨ xk = 4) (x y : Value) (w : World) (hs : (PT.mk 11 v n l).cnt ≤ N + 1) (hfit : PT.fit (.mk 11 v n l) = true) (hx : PIn w (.mk 11 v n l) x) (hy : VIn w (.mk xk xn xl) y) :
    Calls Try.prog 54 #[x, y] w fun e w' => e = .returned (.bool (PT.holds (.mk 11 v n l) (.mk xk xn xl))) ∧ Below w.heap.size w w' := by
  obtain ⟨va, vc, a, cap, hlen, hvl, rfl, hv, hr⟩ := hx.open
  obtain ⟨xa, xc, hxl, rfl, hxr⟩ := hy.open
  have IH := Lib.hid ih; clear ih
  rw [PT.cnt] at hs
  rw [PT.fit] at hfit
  simp only [Bool.and_eq_true, Bool.or_eq_true, decide_eq_true_eq] at hfit
  obtain ⟨⟨⟨⟨hk1, hk2⟩, hn0⟩, hlst⟩, hfits⟩ := hfit
  obtain ⟨w0, hw0, m0, s0, q0, q1, q2, q3, q4, q5⟩ := box6 w (.int .u8 11) (.int .u8 v.kind) (.int .i64 v.num) (.slice va v.items.length vc) (.int .i64 n) (.slice a l.length cap) 27
  obtain ⟨w1, hw1, m1, s1, p0, p1, p2, _⟩ := box3 w0 (.int .u8 xk) (.int .i64 xn) (.slice xa xl.length xc) 24
  have q0 := cell_stays m1 q0
  have q1 := cell_stays m1 q1
  have q2 := cell_stays m1 q2
  have q3 := cell_stays m1 q3
  have q4 := cell_stays m1 q4
  have q5 := cell_stays m1 q5
  have hB0 : Below w.heap.size w w1 := m0.trans (m1.mono m0.size)
  have hv1 := hv.below hB0
  have hr1 := hr.below hB0
  have hy1 := hy.below hB0
  have hxr1 := hxr.below hB0
  clear hx hv hr hy hxr m0 m1
  have HFT := Lib.hid hfits; clear hfits
  have hcs : ∀ i (h : i < l.length), l[i].cnt ≤ N := fun i h => by have := PT.cnts_get h; omega
  have HCS := Lib.hid hcs; clear hcs
  have hl0 : 0 < l.length := by
    have : PT.least 11 = 1 := by decide
    omega
  have hrd : decide (xk = 3 ∨ xk = 4) = true := by simpa using hrow
  have hXk : (VT.mk xk xn xl).kind = 3 ∨ (VT.mk xk xn xl).kind = 4 := hrow
  have HRD := Lib.hid hrd; have HXK := Lib.hid hXk; clear hrow hrd hXk
  rw [PT.holds11 v n l _ HXK.out, PT.fst_eq hl0]
  obtain ⟨b, o, rfl, ax, ac, a', cap', d0, d1, d2, d3, d4, d5, hx⟩ := hr1.got 0 hl0
  simp only [Nat.zero_mul, Nat.add_zero] at d0 d1 d2 d3 d4 d5
  go_enter Try.func54, Try.ntmps54
  go_wp2_with fail
  refine (rrow_any _ _ _ _ _ _).mono ?_
  rintro e w2 ⟨rfl, hb2⟩
  rw [HRD.out]
  have g0 := cell_stays hb2 q0
  have g4 := cell_stays hb2 q4
  have g5 := cell_stays hb2 q5
  have h0 := cell_stays hb2 p0
  have h1 := cell_stays hb2 p1
  have h2 := cell_stays hb2 p2
  have d0 := cell_stays hb2 d0
  have d1 := cell_stays hb2 d1
  have d2 := cell_stays hb2 d2
  have d3 := cell_stays hb2 d3
  have d4 := cell_stays hb2 d4
  have d5 := cell_stays hb2 d5
  clear q0 q1 q2 q3 q4 q5 p0 p1 p2
  go_wp2_with fail
  refine region_tail 8 (by kernel_rfl) (by kernel_rfl) ?_
  simp only [List.take_succ_cons, List.take_zero, List.drop_succ_cons, List.drop_zero]
  repeat still_step
  refine wpStill_nil ?_
  go_wp2_with fail
  refine (IH.out _ (.mk 1 xl.length []) _ _ _ (HCS.out 0 hl0) (PT.fits_get HFT.out hl0) ((hx.below hb2).below (Below.refl _ _).drew) (VIn.leaf _ _)).mono ?_
  rintro e w3 ⟨rfl, hb3⟩
  go_wp2_with fail
  go_ret
  exact ⟨rfl, hB0.trans ((hb2.trans (((Below.refl _ _).drew.trans hb3).mono hb2.size)).mono hB0.size)⟩
set_option maxRecDepth 100000 in
set_option maxHeartbeats 4000000 in
theorem rh8not (N : Nat) (ih : RHolds N) (v : VT) (n : Int) (l : List PT) (xk xn : Int) (xl : List VT) (hrow : ¬ (xk = 3 ∨ xk = 4)) (x y : Value) (w : World) (hs : (PT.mk 8 v n l).cnt ≤ N + 1) (hfit : PT.fit (.mk 8 v n l) = true) (hx : PIn w (.mk 8 v n l) x) (hy : VIn w (.mk xk xn xl) y) :
    Calls Try.prog 54 #[x, y] w fun e w' => e = .returned (.bool (PT.holds (.mk 8 v n l) (.mk xk xn xl))) ∧ Below w.heap.size w w' := by
  obtain ⟨va, vc, a, cap, hlen, hvl, rfl, hv, hr⟩ := hx.open
  obtain ⟨xa, xc, hxl, rfl, hxr⟩ := hy.open
  have IH := Lib.hid ih; clear ih
  rw [PT.cnt] at hs
  rw [PT.fit] at hfit
  simp only [Bool.and_eq_true, Bool.or_eq_true, decide_eq_true_eq] at hfit
  obtain ⟨⟨⟨⟨hk1, hk2⟩, hn0⟩, hlst⟩, hfits⟩ := hfit
  obtain ⟨w0, hw0, m0, s0, q0, q1, q2, q3, q4, q5⟩ := box6 w (.int .u8 8) (.int .u8 v.kind) (.int .i64 v.num) (.slice va v.items.length vc) (.int .i64 n) (.slice a l.length cap) 27
  obtain ⟨w1, hw1, m1, s1, p0, p1, p2, _⟩ := box3 w0 (.int .u8 xk) (.int .i64 xn) (.slice xa xl.length xc) 24
  have q0 := cell_stays m1 q0
  have q1 := cell_stays m1 q1
  have q2 := cell_stays m1 q2
  have q3 := cell_stays m1 q3
  have q4 := cell_stays m1 q4
  have q5 := cell_stays m1 q5
  have hB0 : Below w.heap.size w w1 := m0.trans (m1.mono m0.size)
  have hv1 := hv.below hB0
  have hr1 := hr.below hB0
  have hy1 := hy.below hB0
  have hxr1 := hxr.below hB0
  clear hx hv hr hy hxr m0 m1
  have HFT := Lib.hid hfits; clear hfits
  have hcs : ∀ i (h : i < l.length), l[i].cnt ≤ N := fun i h => by have := PT.cnts_get h; omega
  have HCS := Lib.hid hcs; clear hcs
  have hrd : decide (xk = 3 ∨ xk = 4) = false := by simpa using hrow
  rw [PT.holdsN v n l (.mk xk xn xl) 8 (by omega) hrow]
  have HRD := Lib.hid hrd; clear hrow hrd
  go_enter Try.func54, Try.ntmps54
  go_wp2_with fail
  refine (rrow_any _ _ _ _ _ _).mono ?_
  rintro e w2 ⟨rfl, hb2⟩
  rw [HRD.out]
  go_wp2_with fail
  go_ret
  exact ⟨rfl, hB0.trans (hb2.mono hB0.size)⟩
set_option maxRecDepth 100000 in
set_option maxHeartbeats 4000000 in
theorem rh11not (N : Nat) (ih : RHolds N) (v : VT) (n : Int) (l : List PT) (xk xn : Int) (xl : List VT) (hrow : ¬ (xk = 3 ∨ xk = 4)) (x y : Value) (w : World) (hs : (PT.mk 11 v n l).cnt ≤ N + 1) (hfit : PT.fit (.mk 11 v n l) = true) (hx : PIn w (.mk 11 v n l) x) (hy : VIn w (.mk xk xn xl) y) :
    Calls Try.prog 54 #[x, y] w fun e w' => e = .returned (.bool (PT.holds (.mk 11 v n l) (.mk xk xn xl))) ∧ Below w.heap.size w w' := by
  obtain ⟨va, vc, a, cap, hlen, hvl, rfl, hv, hr⟩ := hx.open
  obtain ⟨xa, xc, hxl, rfl, hxr⟩ := hy.open
  have IH := Lib.hid ih; clear ih
  rw [PT.cnt] at hs
  rw [PT.fit] at hfit
  simp only [Bool.and_eq_true, Bool.or_eq_true, decide_eq_true_eq] at hfit
  obtain ⟨⟨⟨⟨hk1, hk2⟩, hn0⟩, hlst⟩, hfits⟩ := hfit
  obtain ⟨w0, hw0, m0, s0, q0, q1, q2, q3, q4, q5⟩ := box6 w (.int .u8 11) (.int .u8 v.kind) (.int .i64 v.num) (.slice va v.items.length vc) (.int .i64 n) (.slice a l.length cap) 27
  obtain ⟨w1, hw1, m1, s1, p0, p1, p2, _⟩ := box3 w0 (.int .u8 xk) (.int .i64 xn) (.slice xa xl.length xc) 24
  have q0 := cell_stays m1 q0
  have q1 := cell_stays m1 q1
  have q2 := cell_stays m1 q2
  have q3 := cell_stays m1 q3
  have q4 := cell_stays m1 q4
  have q5 := cell_stays m1 q5
  have hB0 : Below w.heap.size w w1 := m0.trans (m1.mono m0.size)
  have hv1 := hv.below hB0
  have hr1 := hr.below hB0
  have hy1 := hy.below hB0
  have hxr1 := hxr.below hB0
  clear hx hv hr hy hxr m0 m1
  have HFT := Lib.hid hfits; clear hfits
  have hcs : ∀ i (h : i < l.length), l[i].cnt ≤ N := fun i h => by have := PT.cnts_get h; omega
  have HCS := Lib.hid hcs; clear hcs
  have hrd : decide (xk = 3 ∨ xk = 4) = false := by simpa using hrow
  rw [PT.holdsN v n l (.mk xk xn xl) 11 (by omega) hrow]
  have HRD := Lib.hid hrd; clear hrow hrd
  go_enter Try.func54, Try.ntmps54
  go_wp2_with fail
  refine (rrow_any _ _ _ _ _ _).mono ?_
  rintro e w2 ⟨rfl, hb2⟩
  rw [HRD.out]
  go_wp2_with fail
  go_ret
  exact ⟨rfl, hB0.trans (hb2.mono hB0.size)⟩
end Go.Proofs.Ytclmnpfdnhfbmaa
