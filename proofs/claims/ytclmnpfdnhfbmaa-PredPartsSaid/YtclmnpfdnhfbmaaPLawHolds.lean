/- PredHolds: the walk of the law. -/
import Derived.Test.YtclmnpfdnhfbmaaPAwake
import Derived.Test.YtclmnpfdnhfbmaaPRefH
import Derived.Test.YtclmnpfdnhfbmaaPWeigh
namespace Go.Proofs.Ytclmnpfdnhfbmaa
open Go.RowKit

theorem PT.long_one {t : PT} (h : PT.long [t] = false) : t.cnt ≤ 1000000 ∧ t.fat ≤ 100000 := by
  have := PT.not_long h
  simp only [PT.cnts, PT.fats] at this
  omega
set_option maxRecDepth 100000 in
set_option maxHeartbeats 4000000 in
theorem predHolds_any (t : PT) (x : Value) (X : VT) (y : Value) (w : World) (hx : PIn w t x) (hy : VIn w X y) :
    Calls Try.prog 3 #[x, y] w fun e w' => e = .returned (.bool true) ∧ Below w.heap.size w w' := by
  obtain ⟨k, v, n, l⟩ := t
  obtain ⟨xk, xn, xl⟩ := X
  have hx0 := hx
  have hy0 := hy
  obtain ⟨va, vc, a, cap, hlen, hvl, rfl, hv, hr⟩ := hx.open
  obtain ⟨xa, xc, hxl, rfl, hxr⟩ := hy.open
  obtain ⟨w0, hw0, m0, s0, q0, q1, q2, q3, q4, q5⟩ := box6 w (.int .u8 k) (.int .u8 v.kind) (.int .i64 v.num) (.slice va v.items.length vc) (.int .i64 n) (.slice a l.length cap) 27
  obtain ⟨w1, hw1, m1, s1, p0, p1, p2, -⟩ := box3 w0 (.int .u8 xk) (.int .i64 xn) (.slice xa xl.length xc) 24
  obtain ⟨w2, hw2, m2, s2, r0, r1, r2, r3, r4, r5⟩ := box6 w1 (.int .u8 k) (.int .u8 v.kind) (.int .i64 v.num) (.slice va v.items.length vc) (.int .i64 n) (.slice a l.length cap) 27
  have m12 := m1.trans (m2.mono m1.size)
  have q0 := cell_stays m1 q0
  have q1 := cell_stays m1 q1
  have q2 := cell_stays m1 q2
  have q3 := cell_stays m1 q3
  have q4 := cell_stays m1 q4
  have q5 := cell_stays m1 q5
  have q0 := cell_stays m2 q0
  have q1 := cell_stays m2 q1
  have q2 := cell_stays m2 q2
  have q3 := cell_stays m2 q3
  have q4 := cell_stays m2 q4
  have q5 := cell_stays m2 q5
  have p0 := cell_stays m2 p0
  have p1 := cell_stays m2 p1
  have p2 := cell_stays m2 p2
  have hB2 : Below w.heap.size w w2 := m0.trans (m12.mono m0.size)
  have hx2 := hx0.below hB2
  have hy2 := hy0.below hB2
  have hrow : PRow w2 [.mk k v n l] (some ⟨w1.heap.size, 0, none⟩) := prow_cons r0 r1 r2 r3 r4 r5 hx2 prow_nil
  clear hx hy hx0 hy0 hv hr hxr m0 m1 m2 m12 r0 r1 r2 r3 r4 r5
  obtain ⟨b, hb⟩ : ∃ b, b = PT.long [.mk k v n l] := ⟨_, rfl⟩
  have HB := Lib.hid hb; clear hb
  go_enter Try.func3, Try.ntmps3
  go_wp2_with fail
  refine (plong_any [.mk k v n l] _ 1 _ (by simp) hrow).mono ?_
  rintro e w3 ⟨rfl, hb3⟩
  rw [← HB.out]
  have hB3 := hB2.trans (hb3.mono hB2.size)
  cases b
  · have hsm := PT.long_one HB.out.symm
    have HSM := Lib.hid hsm
    have q0 := cell_stays hb3 q0
    have q1 := cell_stays hb3 q1
    have q2 := cell_stays hb3 q2
    have q3 := cell_stays hb3 q3
    have q4 := cell_stays hb3 q4
    have q5 := cell_stays hb3 q5
    have p0 := cell_stays hb3 p0
    have p1 := cell_stays hb3 p1
    have p2 := cell_stays hb3 p2
    have hx3 := hx2.below hb3
    have hy3 := hy2.below hb3
    clear hsm hrow hx2 hy2 hb3 hB2
    obtain ⟨w4, hw4, m4, s4, r0, r1, r2, -⟩ := box3 w3 (.int .u8 xk) (.int .i64 xn) (.slice xa xl.length xc) 24
    have hrow : VRow w4 [.mk xk xn xl] (some ⟨w3.heap.size, 0, none⟩) := vrow_cons r0 r1 r2 (hy3.below m4) vrow_nil
    have q0 := cell_stays m4 q0
    have q1 := cell_stays m4 q1
    have q2 := cell_stays m4 q2
    have q3 := cell_stays m4 q3
    have q4 := cell_stays m4 q4
    have q5 := cell_stays m4 q5
    have p0 := cell_stays m4 p0
    have p1 := cell_stays m4 p1
    have p2 := cell_stays m4 p2
    have hB4 := hB3.trans (m4.mono hB3.size)
    have hx4 := hx3.below m4
    have hy4 := hy3.below m4
    obtain ⟨c, hc⟩ : ∃ c, c = VT.long [.mk xk xn xl] := ⟨_, rfl⟩
    have HC := Lib.hid hc
    clear hc hx3 hy3 hB3 m4 r0 r1 r2
    go_wp2_with fail
    refine (long_any [.mk xk xn xl] _ 1 _ (by simp) hrow).mono ?_
    rintro e w5 ⟨rfl, hb5⟩
    rw [← HC.out]
    have hB5 := hB4.trans (hb5.mono hB4.size)
    cases c
    · have q0 := cell_stays hb5 q0
      have q1 := cell_stays hb5 q1
      have q2 := cell_stays hb5 q2
      have q3 := cell_stays hb5 q3
      have q4 := cell_stays hb5 q4
      have q5 := cell_stays hb5 q5
      have p0 := cell_stays hb5 p0
      have p1 := cell_stays hb5 p1
      have p2 := cell_stays hb5 p2
      have hx5 := hx4.below hb5
      have hy5 := hy4.below hb5
      have Q := Lib.hid (regrown (w := w5) fun W hW => pholds_any _ _ _ _ W HSM.out.1 HSM.out.2 (hx5.below hW) (hy5.below hW))
      have Q1 := Lib.hid (regrown (w := w5) fun W hW => rpholds_any _ _ _ _ W HSM.out.1 HSM.out.2 (hx5.below hW) (hy5.below hW))
      have Q2 := Lib.hid (regrown (w := w5) fun W hW => pawake_any W)
      have cq0 := cell_regrown q0
      have cq1 := cell_regrown q1
      have cq2 := cell_regrown q2
      have cq3 := cell_regrown q3
      have cq4 := cell_regrown q4
      have cq5 := cell_regrown q5
      have cp0 := cell_regrown p0
      have cp1 := cell_regrown p1
      have cp2 := cell_regrown p2
      clear hx4 hy4 hx5 hy5 hB4 hb5 hrow
      obtain ⟨z, hz⟩ : ∃ z, z = PT.hold (.mk k v n l) (.mk xk xn xl) := ⟨_, rfl⟩
      rw [← hz] at Q Q1
      have HZ := Lib.hid hz; clear hz
      have fz : (z == z) = true := by simp
      go_wp2_with fail
      refine wp_region_quiet_below (by kernel_rfl) (by kernel_rfl) ?_
      repeat (go_big_quiet_step (first | with_reducible exact Q.out _ _ | with_reducible exact Q1.out _ _ | with_reducible exact Q2.out _ _))
      refine wpQuiet_nil ?_
      intro _ hw'
      obtain ⟨⟨dq, osq⟩, hw''⟩ := hw'
      subst hw''
      go_wp2_with fail
      go_ret
      exact ⟨rfl, hB5.trans ((below_regrown w5 dq osq).mono hB5.size)⟩
    · go_wp2_with fail
      refine (pawake_any _).mono ?_
      rintro e w6 ⟨rfl, hb6⟩
      go_wp2_with fail
      go_ret
      exact ⟨rfl, hB5.trans (hb6.mono hB5.size)⟩
  · go_wp2_with fail
    refine (pawake_any _).mono ?_
    rintro e w6 ⟨rfl, hb6⟩
    go_wp2_with fail
    go_ret
    exact ⟨rfl, hB3.trans (hb6.mono hB3.size)⟩
end Go.Proofs.Ytclmnpfdnhfbmaa
