/- PredChecks: the walk of the law. -/
import Derived.Test.YtclmnpfdnhfbmaaPAwake
import Derived.Test.YtclmnpfdnhfbmaaPSame
import Derived.Test.YtclmnpfdnhfbmaaPWeigh
namespace Go.Proofs.Ytclmnpfdnhfbmaa
open Go.RowKit

mutual
theorem PT.same_refl : ∀ t : PT, PT.same t t = true
  | .mk k v n l => by rw [PT.same, VT.same_refl, PT.sameAll_refl l]; simp
theorem PT.sameAll_refl : ∀ l : List PT, PT.sameAll l l = true
  | [] => by rw [PT.sameAll]
  | t :: ts => by rw [PT.sameAll, PT.same_refl t, PT.sameAll_refl ts]; rfl
end
theorem PT.long_two {s t : PT} (h : PT.long [s, t] = false) : s.cnt ≤ 1000000 ∧ s.fat ≤ 100000 ∧ t.cnt ≤ 1000000 ∧ t.fat ≤ 100000 := by
  have := PT.not_long h
  simp only [PT.cnts, PT.fats] at this
  omega
/-- two predicates laid into a box. -/
theorem box12 (w : World) (a b c d e f a' b' c' d' e' f' : Value) (T : Nat) : ∃ w4, w.alloc (.cells #[a, b, c, d, e, f, a', b', c', d', e', f'] T) = w4 ∧ Below w.heap.size w w4 ∧ w.heap.size < w4.heap.size ∧
    (w4.cell? ⟨w.heap.size, 0, none⟩ = some a ∧ w4.cell? ⟨w.heap.size, 1, none⟩ = some b ∧ w4.cell? ⟨w.heap.size, 2, none⟩ = some c ∧ w4.cell? ⟨w.heap.size, 3, none⟩ = some d ∧ w4.cell? ⟨w.heap.size, 4, none⟩ = some e ∧ w4.cell? ⟨w.heap.size, 5, none⟩ = some f) ∧
    w4.cell? ⟨w.heap.size, 6, none⟩ = some a' ∧ w4.cell? ⟨w.heap.size, 7, none⟩ = some b' ∧ w4.cell? ⟨w.heap.size, 8, none⟩ = some c' ∧ w4.cell? ⟨w.heap.size, 9, none⟩ = some d' ∧ w4.cell? ⟨w.heap.size, 10, none⟩ = some e' ∧ w4.cell? ⟨w.heap.size, 11, none⟩ = some f' := by
  refine ⟨_, rfl, Below.al _, by simp, ⟨?_, ?_, ?_, ?_, ?_, ?_⟩, ?_, ?_, ?_, ?_, ?_, ?_⟩
  all_goals go_simp
theorem prow_two {w : World} {b : Nat} {s t : PT} {a0 a1 a2 a3 a4 a5 b0 b1 b2 b3 b4 b5 : Value} (h : w.cell? ⟨b, 0, none⟩ = some a0 ∧ w.cell? ⟨b, 1, none⟩ = some a1 ∧ w.cell? ⟨b, 2, none⟩ = some a2 ∧ w.cell? ⟨b, 3, none⟩ = some a3 ∧ w.cell? ⟨b, 4, none⟩ = some a4 ∧ w.cell? ⟨b, 5, none⟩ = some a5)
    (h' : w.cell? ⟨b, 6, none⟩ = some b0 ∧ w.cell? ⟨b, 7, none⟩ = some b1 ∧ w.cell? ⟨b, 8, none⟩ = some b2 ∧ w.cell? ⟨b, 9, none⟩ = some b3 ∧ w.cell? ⟨b, 10, none⟩ = some b4 ∧ w.cell? ⟨b, 11, none⟩ = some b5)
    (hs : PIn w s (.agg #[a0, a1, a2, a3, a4, a5])) (ht : PIn w t (.agg #[b0, b1, b2, b3, b4, b5])) : PRow w [s, t] (some ⟨b, 0, none⟩) := by
  obtain ⟨h0, h1, h2, h3, h4, h5⟩ := h
  obtain ⟨g0, g1, g2, g3, g4, g5⟩ := h'
  exact prow_cons h0 (by simpa using h1) (by simpa using h2) (by simpa using h3) (by simpa using h4) (by simpa using h5) hs (prow_cons (by simpa using g0) (by simpa using g1) (by simpa using g2) (by simpa using g3) (by simpa using g4) (by simpa using g5) ht prow_nil)

set_option maxRecDepth 100000 in
set_option maxHeartbeats 8000000 in
theorem predChecks_any (s : PT) (x : Value) (t : PT) (y : Value) (w : World) (hx : PIn w s x) (hy : PIn w t y) :
    Calls Try.prog 11 #[x, y] w fun e w' => e = .returned (.bool true) ∧ Below w.heap.size w w' := by
  obtain ⟨k, v, n, l⟩ := s
  obtain ⟨k', v', n', l'⟩ := t
  have hx0 := hx
  have hy0 := hy
  obtain ⟨va, vc, a, cap, hlen, hvl, rfl, hv, hr⟩ := hx.open
  obtain ⟨va', vc', a', cap', hlen', hvl', rfl, hv', hr'⟩ := hy.open
  obtain ⟨w0, hw0, m0, s0, q0, q1, q2, q3, q4, q5⟩ := box6 w (.int .u8 k) (.int .u8 v.kind) (.int .i64 v.num) (.slice va v.items.length vc) (.int .i64 n) (.slice a l.length cap) 27
  obtain ⟨w1, hw1, m1, s1, p0, p1, p2, p3, p4, p5⟩ := box6 w0 (.int .u8 k') (.int .u8 v'.kind) (.int .i64 v'.num) (.slice va' v'.items.length vc') (.int .i64 n') (.slice a' l'.length cap') 27
  have q0 := cell_stays m1 q0
  have q1 := cell_stays m1 q1
  have q2 := cell_stays m1 q2
  have q3 := cell_stays m1 q3
  have q4 := cell_stays m1 q4
  have q5 := cell_stays m1 q5
  have hB1 : Below w.heap.size w w1 := m0.trans (m1.mono m0.size)
  have hx1 := hx0.below hB1
  have hy1 := hy0.below hB1
  clear hx hy hx0 hy0 hv hr hv' hr' m0 m1
  obtain ⟨w2, hw2, m2, s2, rA, rB⟩ := box12 w1 (.int .u8 k) (.int .u8 v.kind) (.int .i64 v.num) (.slice va v.items.length vc) (.int .i64 n) (.slice a l.length cap) (.int .u8 k') (.int .u8 v'.kind) (.int .i64 v'.num) (.slice va' v'.items.length vc') (.int .i64 n') (.slice a' l'.length cap') 27
  have q0 := cell_stays m2 q0
  have q1 := cell_stays m2 q1
  have q2 := cell_stays m2 q2
  have q3 := cell_stays m2 q3
  have q4 := cell_stays m2 q4
  have q5 := cell_stays m2 q5
  have p0 := cell_stays m2 p0
  have p1 := cell_stays m2 p1
  have p2 := cell_stays m2 p2
  have p3 := cell_stays m2 p3
  have p4 := cell_stays m2 p4
  have p5 := cell_stays m2 p5
  have hB2 : Below w.heap.size w w2 := hB1.trans (m2.mono hB1.size)
  have hx2 := hx1.below m2
  have hy2 := hy1.below m2
  have hrow : PRow w2 [.mk k v n l, .mk k' v' n' l'] (some ⟨w1.heap.size, 0, none⟩) := prow_two rA rB hx2 hy2
  clear hx1 hy1 hB1 m2 rA rB
  obtain ⟨b, hb⟩ : ∃ b, b = PT.long [.mk k v n l, .mk k' v' n' l'] := ⟨_, rfl⟩
  have HB := Lib.hid hb; clear hb
  go_enter Try.func11, Try.ntmps11
  go_wp2_with fail
  refine (plong_any [.mk k v n l, .mk k' v' n' l'] _ 2 _ (by simp) hrow).mono ?_
  rintro e w3 ⟨rfl, hb3⟩
  rw [← HB.out]
  have hB3 := hB2.trans (hb3.mono hB2.size)
  cases b
  · have hsm := PT.long_two HB.out.symm
    have HSM := Lib.hid hsm
    have q0 := cell_stays hb3 q0
    have q1 := cell_stays hb3 q1
    have q2 := cell_stays hb3 q2
    have q3 := cell_stays hb3 q3
    have q4 := cell_stays hb3 q4
    have q5 := cell_stays hb3 q5
    have p0 := cell_stays hb3 p0
    have p1 := cell_stays hb3 p1
    have p2 := cell_stays hb3 p2
    have p3 := cell_stays hb3 p3
    have p4 := cell_stays hb3 p4
    have p5 := cell_stays hb3 p5
    have hx3 := hx2.below hb3
    have hy3 := hy2.below hb3
    clear hsm hrow hx2 hy2 hb3 hB2
    obtain ⟨⟨c1, c2⟩, hr⟩ : ∃ r, r = (PT.mk k v n l).check := ⟨_, rfl⟩
    have HR := Lib.hid hr; clear hr
    go_wp2_with fail
    refine (pcheck_any _ _ _ HSM.out.1 HSM.out.2.1 hx3).mono ?_
    rintro e w4 ⟨rfl, hb4⟩
    rw [← HR.out]
    have q0 := cell_stays hb4 q0
    have q1 := cell_stays hb4 q1
    have q2 := cell_stays hb4 q2
    have q3 := cell_stays hb4 q3
    have q4 := cell_stays hb4 q4
    have q5 := cell_stays hb4 q5
    have p0 := cell_stays hb4 p0
    have p1 := cell_stays hb4 p1
    have p2 := cell_stays hb4 p2
    have p3 := cell_stays hb4 p3
    have p4 := cell_stays hb4 p4
    have p5 := cell_stays hb4 p5
    have hx4 := hx3.below hb4
    have hy4 := hy3.below hb4
    have hB4 := hB3.trans (hb4.mono hB3.size)
    clear hx3 hy3 hb4 hB3
    go_wp2_with fail
    refine (rpcheck_any _ _ _ HSM.out.1 HSM.out.2.1 hx4).mono ?_
    rintro e w5 ⟨rfl, hb5⟩
    rw [← HR.out]
    have q0 := cell_stays hb5 q0
    have q1 := cell_stays hb5 q1
    have q2 := cell_stays hb5 q2
    have q3 := cell_stays hb5 q3
    have q4 := cell_stays hb5 q4
    have q5 := cell_stays hb5 q5
    have p0 := cell_stays hb5 p0
    have p1 := cell_stays hb5 p1
    have p2 := cell_stays hb5 p2
    have p3 := cell_stays hb5 p3
    have p4 := cell_stays hb5 p4
    have p5 := cell_stays hb5 p5
    have hx5 := hx4.below hb5
    have hy5 := hy4.below hb5
    have hB5 := hB4.trans (hb5.mono hB4.size)
    clear hx4 hy4 hb5 hB4
    have hmay : (PT.mk k v n l).may = (c2 == 0) := by unfold PT.may; rw [← HR.out]
    have Q1 := Lib.hid (regrown (w := w5) fun W hW => pmay_any _ _ W HSM.out.1 HSM.out.2.1 (hx5.below hW))
    have Q2 := Lib.hid (regrown (w := w5) fun W hW => nodes_any 1000000 (by omega) _ _ W HSM.out.1 HSM.out.2.1 (hx5.below hW))
    have Q3 := Lib.hid (regrown (w := w5) fun W hW => rnodes_any 1000000 (by omega) _ _ W HSM.out.1 HSM.out.2.1 (hx5.below hW))
    have Q4 := Lib.hid (regrown (w := w5) fun W hW => deep_any 1000000 (by omega) _ _ W HSM.out.1 (hx5.below hW))
    have Q5 := Lib.hid (regrown (w := w5) fun W hW => rpdeep_any 1000000 (by omega) _ _ W HSM.out.1 (hx5.below hW))
    have Q6 := Lib.hid (regrown (w := w5) fun W hW => nothing_any _ _ W (hx5.below hW))
    have Q7 := Lib.hid (regrown (w := w5) fun W hW => rnothing_any _ _ W (hx5.below hW))
    have Q8 := Lib.hid (regrown (w := w5) fun W hW => psame_any _ _ _ _ _ W (Nat.le_refl _) (hx5.below hW) (hy5.below hW))
    have Q9 := Lib.hid (regrown (w := w5) fun W hW => rpsame_any _ _ _ _ _ W (Nat.le_refl _) (hx5.below hW) (hy5.below hW))
    have Q10 := Lib.hid (regrown (w := w5) fun W hW => psame_any _ _ _ _ _ W (Nat.le_refl _) (hx5.below hW) (hx5.below hW))
    have Q11 := Lib.hid (regrown (w := w5) fun W hW => pawake_any W)
    rw [hmay] at Q1
    rw [PT.same_refl] at Q10
    obtain ⟨nn, hnn⟩ : ∃ nn : Int, nn = (PT.mk k v n l).nodes := ⟨_, rfl⟩
    obtain ⟨dd, hdd⟩ : ∃ dd : Int, dd = (PT.mk k v n l).deep := ⟨_, rfl⟩
    obtain ⟨ng, hng⟩ : ∃ ng, ng = (PT.mk k v n l).nothing := ⟨_, rfl⟩
    obtain ⟨sm, hsm⟩ : ∃ sm, sm = PT.same (.mk k v n l) (.mk k' v' n' l') := ⟨_, rfl⟩
    rw [← hnn] at Q2 Q3
    rw [← hdd] at Q4 Q5
    rw [← hng] at Q6 Q7
    rw [← hsm] at Q8 Q9
    have cq0 := cell_regrown q0
    have cq1 := cell_regrown q1
    have cq2 := cell_regrown q2
    have cq3 := cell_regrown q3
    have cq4 := cell_regrown q4
    have cq5 := cell_regrown q5
    have cp0 := cell_regrown p0
    have cp1 := cell_regrown p1
    have cp2 := cell_regrown p2
    have cp3 := cell_regrown p3
    have cp4 := cell_regrown p4
    have cp5 := cell_regrown p5
    have f1 : (c1 == c1) = true := by simp
    have f2 : (c2 == c2) = true := by simp
    have f3 : ((c2 == 0) == (c2 == 0)) = true := by simp
    have f4 : (nn == nn) = true := by simp
    have f5 : (dd == dd) = true := by simp
    have f6 : (ng == ng) = true := by simp
    have f7 : (sm == sm) = true := by simp
    clear hmay hx5 hy5 hnn hdd hng hsm
    go_wp2_with fail
    refine wp_region_quiet_below (by kernel_rfl) (by kernel_rfl) ?_
    repeat (go_big_quiet_step (first | with_reducible exact Q1.out _ _ | with_reducible exact Q2.out _ _ | with_reducible exact Q3.out _ _ | with_reducible exact Q4.out _ _ | with_reducible exact Q5.out _ _ | with_reducible exact Q6.out _ _ | with_reducible exact Q7.out _ _ | with_reducible exact Q8.out _ _ | with_reducible exact Q9.out _ _ | with_reducible exact Q10.out _ _ | with_reducible exact Q11.out _ _))
    refine wpQuiet_nil ?_
    intro _ hw'
    obtain ⟨⟨dq, osq⟩, hw''⟩ := hw'
    subst hw''
    go_wp2_with fail
    go_ret
    exact ⟨rfl, hB5.trans ((below_regrown w5 dq osq).mono hB5.size)⟩
  · go_wp2_with fail
    refine (pawake_any _).mono ?_
    rintro e w6 ⟨rfl, hb6⟩
    go_wp2_with fail
    go_ret
    exact ⟨rfl, hB3.trans (hb6.mono hB3.size)⟩
end Go.Proofs.Ytclmnpfdnhfbmaa
