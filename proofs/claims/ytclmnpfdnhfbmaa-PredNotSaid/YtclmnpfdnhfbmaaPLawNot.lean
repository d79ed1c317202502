/- PredNot: the walk of the law. -/
import Derived.Test.YtclmnpfdnhfbmaaPLawHolds
import Derived.Test.YtclmnpfdnhfbmaaPNot
import Derived.Test.YtclmnpfdnhfbmaaPBlk
namespace Go.Proofs.Ytclmnpfdnhfbmaa
open Go.RowKit

theorem agree_set6 {X : Nat → Prop} {w W : World} {B : Nat} (h : Agree X w W) (hB : X B) (u0 u1 u2 u3 u4 u5 : Value) : Agree X w ((((((W.setCell ⟨B, 0, none⟩ u0).setCell ⟨B, 1, none⟩ u1).setCell ⟨B, 2, none⟩ u2).setCell ⟨B, 3, none⟩ u3).setCell ⟨B, 4, none⟩ u4).setCell ⟨B, 5, none⟩ u5) := by
  have one : ∀ (W : World) (q : Nat) (u : Value), Agree X w W → Agree X w (W.setCell ⟨B, q, none⟩ u) := fun W q u h => ⟨by simp [World.setCell]; exact h.1, fun k hk hn => (Below.heap_setCell W ⟨B, q, none⟩ u k (fun e => hn (by rw [e]; exact hB))).trans (h.2 k hk hn)⟩
  exact one _ _ _ (one _ _ _ (one _ _ _ (one _ _ _ (one _ _ _ (one _ _ _ h)))))
theorem PT.long_two {p q : PT} (h : PT.long [p, q] = false) : (p.cnt < 3000 ∧ p.fat < 6000) ∧ (q.cnt < 3000 ∧ q.fat < 6000) := by
  have := PT.not_long h
  simp only [PT.cnts, PT.fats] at this
  omega
set_option maxRecDepth 100000 in
set_option maxHeartbeats 8000000 in
theorem predNot_any (p : PT) (x : Value) (q : PT) (z : Value) (X : VT) (y : Value) (w : World) (hx : PIn w p x) (hq : PIn w q z) (hy : VIn w X y) :
    Calls Try.prog 9 #[x, z, y] w fun e w' => e = .returned (.bool true) ∧ Below w.heap.size w w' := by
  obtain ⟨kp, vp, np, lp⟩ := p
  obtain ⟨kq, vq, nq, lq⟩ := q
  obtain ⟨xk, xn, xl⟩ := X
  obtain ⟨va, vc, a, cap, hlen, hvl, rfl, -, -⟩ := hx.open
  obtain ⟨va2, vc2, a2, cap2, hlen2, hvl2, rfl, -, -⟩ := hq.open
  obtain ⟨xa, xc, hxl, rfl, -⟩ := hy.open
  obtain ⟨w0, hw0, m0, -, q0, q1, q2, q3, q4, q5⟩ := box6 w (.int .u8 kp) (.int .u8 vp.kind) (.int .i64 vp.num) (.slice va vp.items.length vc) (.int .i64 np) (.slice a lp.length cap) 27
  obtain ⟨w1, hw1, m1, -, s0, s1, s2, s3, s4, s5⟩ := box6 w0 (.int .u8 kq) (.int .u8 vq.kind) (.int .i64 vq.num) (.slice va2 vq.items.length vc2) (.int .i64 nq) (.slice a2 lq.length cap2) 27
  obtain ⟨w2, hw2, m2, -, p0, p1, p2, -⟩ := box3 w1 (.int .u8 xk) (.int .i64 xn) (.slice xa xl.length xc) 24
  have m12 := m1.trans (m2.mono m1.size)
  have hB : Below w.heap.size w w2 := m0.trans (m12.mono m0.size)
  replace hx := hx.below hB
  replace hq := hq.below hB
  replace hy := hy.below hB
  replace q0 := cell_stays m12 q0
  replace q1 := cell_stays m12 q1
  replace q2 := cell_stays m12 q2
  replace q3 := cell_stays m12 q3
  replace q4 := cell_stays m12 q4
  replace q5 := cell_stays m12 q5
  replace s0 := cell_stays m2 s0
  replace s1 := cell_stays m2 s1
  replace s2 := cell_stays m2 s2
  replace s3 := cell_stays m2 s3
  replace s4 := cell_stays m2 s4
  replace s5 := cell_stays m2 s5
  clear m0 m1 m2 m12
  obtain ⟨b, hb⟩ : ∃ b, b = PT.long [.mk kp vp np lp, .mk kq vq nq lq] := ⟨_, rfl⟩
  obtain ⟨c, hc⟩ : ∃ c, c = VT.long [.mk xk xn xl] := ⟨_, rfl⟩
  obtain ⟨d, hd⟩ : ∃ d, d = [PT.mk kp vp np lp, PT.mk kq vq nq lq].all PT.allT := ⟨_, rfl⟩
  have HB := Lib.hid hb; have HC := Lib.hid hc; have HD := Lib.hid hd; clear hb hc hd
  obtain ⟨w3, hw3, m3, r0, r1, r2, r3, r4, r5, t0, t1, t2, t3, t4, t5⟩ : ∃ w3, w2.alloc (.cells #[.int .u8 kp, .int .u8 vp.kind, .int .i64 vp.num, .slice va vp.items.length vc, .int .i64 np, .slice a lp.length cap, .int .u8 kq, .int .u8 vq.kind, .int .i64 vq.num, .slice va2 vq.items.length vc2, .int .i64 nq, .slice a2 lq.length cap2] 27) = w3 ∧ Below w2.heap.size w2 w3 ∧ w3.cell? ⟨w2.heap.size, 0, none⟩ = some (.int .u8 kp) ∧ w3.cell? ⟨w2.heap.size, 1, none⟩ = some (.int .u8 vp.kind) ∧ w3.cell? ⟨w2.heap.size, 2, none⟩ = some (.int .i64 vp.num) ∧ w3.cell? ⟨w2.heap.size, 3, none⟩ = some (.slice va vp.items.length vc) ∧ w3.cell? ⟨w2.heap.size, 4, none⟩ = some (.int .i64 np) ∧ w3.cell? ⟨w2.heap.size, 5, none⟩ = some (.slice a lp.length cap) ∧
    w3.cell? ⟨w2.heap.size, 6, none⟩ = some (.int .u8 kq) ∧ w3.cell? ⟨w2.heap.size, 7, none⟩ = some (.int .u8 vq.kind) ∧ w3.cell? ⟨w2.heap.size, 8, none⟩ = some (.int .i64 vq.num) ∧ w3.cell? ⟨w2.heap.size, 9, none⟩ = some (.slice va2 vq.items.length vc2) ∧ w3.cell? ⟨w2.heap.size, 10, none⟩ = some (.int .i64 nq) ∧ w3.cell? ⟨w2.heap.size, 11, none⟩ = some (.slice a2 lq.length cap2) :=
    ⟨_, rfl, Below.al _, by go_simp, by go_simp, by go_simp, by go_simp, by go_simp, by go_simp, by go_simp, by go_simp, by go_simp, by go_simp, by go_simp, by go_simp⟩
  have hrow : PRow w3 [.mk kp vp np lp, .mk kq vq nq lq] (some ⟨w2.heap.size, 0, none⟩) := prow_cons r0 r1 r2 r3 r4 r5 (hx.below m3) (prow_cons t0 t1 t2 t3 t4 t5 (hq.below m3) prow_nil)
  clear r0 r1 r2 r3 r4 r5 t0 t1 t2 t3 t4 t5
  go_enter Try.func9, Try.ntmps9
  go_wp2_with fail
  refine (plong_any [.mk kp vp np lp, .mk kq vq nq lq] _ 2 _ (by simp) hrow).mono ?_
  rintro e w4 ⟨rfl, hb4⟩
  rw [← HB.out]
  have m4 := m3.trans (hb4.mono m3.size)
  replace q0 := cell_stays m4 q0
  replace q1 := cell_stays m4 q1
  replace q2 := cell_stays m4 q2
  replace q3 := cell_stays m4 q3
  replace q4 := cell_stays m4 q4
  replace q5 := cell_stays m4 q5
  replace s0 := cell_stays m4 s0
  replace s1 := cell_stays m4 s1
  replace s2 := cell_stays m4 s2
  replace s3 := cell_stays m4 s3
  replace s4 := cell_stays m4 s4
  replace s5 := cell_stays m4 s5
  replace p0 := cell_stays m4 p0
  replace p1 := cell_stays m4 p1
  replace p2 := cell_stays m4 p2
  replace hx := hx.below m4
  replace hq := hq.below m4
  replace hy := hy.below m4
  replace hB := hB.trans (m4.mono hB.size)
  clear hrow m3 hb4 m4
  cases b
  case true =>
    go_wp2_with fail
    refine (pawake_any _).mono ?_
    rintro e wz ⟨rfl, hbz⟩
    go_wp2_with fail
    go_ret
    exact ⟨rfl, hB.trans (hbz.mono hB.size)⟩
  case false =>
  have HSM := Lib.hid (PT.long_two HB.out.symm)
  obtain ⟨w5, hw5, m5, -, r0, r1, r2, -⟩ := box3 w4 (.int .u8 xk) (.int .i64 xn) (.slice xa xl.length xc) 24
  have hrow : VRow w5 [.mk xk xn xl] (some ⟨w4.heap.size, 0, none⟩) := vrow_cons r0 r1 r2 (hy.below m5) vrow_nil
  clear r0 r1 r2
  go_wp2_with fail
  refine (long_any [.mk xk xn xl] _ 1 _ (by simp) hrow).mono ?_
  rintro e w6 ⟨rfl, hb6⟩
  rw [← HC.out]
  have m6 := m5.trans (hb6.mono m5.size)
  replace q0 := cell_stays m6 q0
  replace q1 := cell_stays m6 q1
  replace q2 := cell_stays m6 q2
  replace q3 := cell_stays m6 q3
  replace q4 := cell_stays m6 q4
  replace q5 := cell_stays m6 q5
  replace s0 := cell_stays m6 s0
  replace s1 := cell_stays m6 s1
  replace s2 := cell_stays m6 s2
  replace s3 := cell_stays m6 s3
  replace s4 := cell_stays m6 s4
  replace s5 := cell_stays m6 s5
  replace p0 := cell_stays m6 p0
  replace p1 := cell_stays m6 p1
  replace p2 := cell_stays m6 p2
  replace hx := hx.below m6
  replace hq := hq.below m6
  replace hy := hy.below m6
  replace hB := hB.trans (m6.mono hB.size)
  clear hrow m5 hb6 m6
  cases c
  case true =>
    go_wp2_with fail
    refine (pawake_any _).mono ?_
    rintro e wz ⟨rfl, hbz⟩
    go_wp2_with fail
    go_ret
    exact ⟨rfl, hB.trans (hbz.mono hB.size)⟩
  case false =>
  obtain ⟨w7, hw7, m7, r0, r1, r2, r3, r4, r5, t0, t1, t2, t3, t4, t5⟩ : ∃ w7, w6.alloc (.cells #[.int .u8 kp, .int .u8 vp.kind, .int .i64 vp.num, .slice va vp.items.length vc, .int .i64 np, .slice a lp.length cap, .int .u8 kq, .int .u8 vq.kind, .int .i64 vq.num, .slice va2 vq.items.length vc2, .int .i64 nq, .slice a2 lq.length cap2] 27) = w7 ∧ Below w6.heap.size w6 w7 ∧ w7.cell? ⟨w6.heap.size, 0, none⟩ = some (.int .u8 kp) ∧ w7.cell? ⟨w6.heap.size, 1, none⟩ = some (.int .u8 vp.kind) ∧ w7.cell? ⟨w6.heap.size, 2, none⟩ = some (.int .i64 vp.num) ∧ w7.cell? ⟨w6.heap.size, 3, none⟩ = some (.slice va vp.items.length vc) ∧ w7.cell? ⟨w6.heap.size, 4, none⟩ = some (.int .i64 np) ∧ w7.cell? ⟨w6.heap.size, 5, none⟩ = some (.slice a lp.length cap) ∧
    w7.cell? ⟨w6.heap.size, 6, none⟩ = some (.int .u8 kq) ∧ w7.cell? ⟨w6.heap.size, 7, none⟩ = some (.int .u8 vq.kind) ∧ w7.cell? ⟨w6.heap.size, 8, none⟩ = some (.int .i64 vq.num) ∧ w7.cell? ⟨w6.heap.size, 9, none⟩ = some (.slice va2 vq.items.length vc2) ∧ w7.cell? ⟨w6.heap.size, 10, none⟩ = some (.int .i64 nq) ∧ w7.cell? ⟨w6.heap.size, 11, none⟩ = some (.slice a2 lq.length cap2) :=
    ⟨_, rfl, Below.al _, by go_simp, by go_simp, by go_simp, by go_simp, by go_simp, by go_simp, by go_simp, by go_simp, by go_simp, by go_simp, by go_simp, by go_simp⟩
  have hrow : PRow w7 [.mk kp vp np lp, .mk kq vq nq lq] (some ⟨w6.heap.size, 0, none⟩) := prow_cons r0 r1 r2 r3 r4 r5 (hx.below m7) (prow_cons t0 t1 t2 t3 t4 t5 (hq.below m7) prow_nil)
  clear r0 r1 r2 r3 r4 r5 t0 t1 t2 t3 t4 t5
  go_wp2_with fail
  refine (all_any [.mk kp vp np lp, .mk kq vq nq lq] _ 2 _ (by simp) hrow (by simp only [PT.cnts]; have := HSM.out; omega) (by simp only [PT.fats]; have := HSM.out; omega)).mono ?_
  rintro e w8 ⟨rfl, hb8⟩
  rw [← HD.out]
  have m8 := m7.trans (hb8.mono m7.size)
  replace q0 := cell_stays m8 q0
  replace q1 := cell_stays m8 q1
  replace q2 := cell_stays m8 q2
  replace q3 := cell_stays m8 q3
  replace q4 := cell_stays m8 q4
  replace q5 := cell_stays m8 q5
  replace s0 := cell_stays m8 s0
  replace s1 := cell_stays m8 s1
  replace s2 := cell_stays m8 s2
  replace s3 := cell_stays m8 s3
  replace s4 := cell_stays m8 s4
  replace s5 := cell_stays m8 s5
  replace p0 := cell_stays m8 p0
  replace p1 := cell_stays m8 p1
  replace p2 := cell_stays m8 p2
  replace hx := hx.below m8
  replace hq := hq.below m8
  replace hy := hy.below m8
  replace hB := hB.trans (m8.mono hB.size)
  clear hrow m7 hb8 m8
  cases d
  case false =>
    go_wp2_with fail
    refine (pawake_any _).mono ?_
    rintro e wz ⟨rfl, hbz⟩
    go_wp2_with fail
    go_ret
    exact ⟨rfl, hB.trans (hbz.mono hB.size)⟩
  case true =>
  go_wp2_with fail
  refine (pawake_any _).mono ?_
  rintro e w9 ⟨rfl, hb9⟩
  replace q0 := cell_stays hb9 q0
  replace q1 := cell_stays hb9 q1
  replace q2 := cell_stays hb9 q2
  replace q3 := cell_stays hb9 q3
  replace q4 := cell_stays hb9 q4
  replace q5 := cell_stays hb9 q5
  replace s0 := cell_stays hb9 s0
  replace s1 := cell_stays hb9 s1
  replace s2 := cell_stays hb9 s2
  replace s3 := cell_stays hb9 s3
  replace s4 := cell_stays hb9 s4
  replace s5 := cell_stays hb9 s5
  replace p0 := cell_stays hb9 p0
  replace p1 := cell_stays hb9 p1
  replace p2 := cell_stays hb9 p2
  replace hx := hx.below hb9
  replace hq := hq.below hb9
  replace hy := hy.below hb9
  replace hB := hB.trans (hb9.mono hB.size)
  clear hb9 hw0 hw1 hw2 hw3 hw5 hw7
  have hall := List.all_eq_true.1 HD.out.symm
  have hap : (PT.mk kp vp np lp).allT = true := hall _ (by simp)
  have haq : (PT.mk kq vq nq lq).allT = true := hall _ (by simp)
  have hlaw := not_law (X := .mk xk xn xl) hap haq
  have HAP := Lib.hid hap
  clear hall haq HB HC HD
  obtain ⟨hp, hhp⟩ : ∃ hp, (PT.mk kp vp np lp).hold (.mk xk xn xl) = hp := ⟨_, rfl⟩
  obtain ⟨hq', hhq⟩ : ∃ hq', (PT.mk kq vq nq lq).hold (.mk xk xn xl) = hq' := ⟨_, rfl⟩
  rw [hhp, hhq] at hlaw
  have HP := Lib.hid hhp; have H0 := Lib.hid hlaw.n0; have H1 := Lib.hid hlaw.n1; have H2 := Lib.hid hlaw.n2; have H3 := Lib.hid hlaw.n3; have H4 := Lib.hid hlaw.n4; have H5 := Lib.hid hlaw.n5; have H6 := Lib.hid hlaw.n6
  have hcc : ((tN (PT.mk kp vp np lp)).cnt ≤ 1000000 ∧ (tN (PT.mk kp vp np lp)).fat ≤ 100000) ∧ ((PT.mk kp vp np lp).cnt ≤ 1000000 ∧ (PT.mk kp vp np lp).fat ≤ 100000) ∧ ((tN (tA [(PT.mk kp vp np lp), (PT.mk kq vq nq lq)])).cnt ≤ 1000000 ∧ (tN (tA [(PT.mk kp vp np lp), (PT.mk kq vq nq lq)])).fat ≤ 100000) ∧ ((tO [(tN (PT.mk kp vp np lp)), (tN (PT.mk kq vq nq lq))]).cnt ≤ 1000000 ∧ (tO [(tN (PT.mk kp vp np lp)), (tN (PT.mk kq vq nq lq))]).fat ≤ 100000) ∧ ((tN (tO [(PT.mk kp vp np lp), (PT.mk kq vq nq lq)])).cnt ≤ 1000000 ∧ (tN (tO [(PT.mk kp vp np lp), (PT.mk kq vq nq lq)])).fat ≤ 100000) ∧ ((tA [(tN (PT.mk kp vp np lp)), (tN (PT.mk kq vq nq lq))]).cnt ≤ 1000000 ∧ (tA [(tN (PT.mk kp vp np lp)), (tN (PT.mk kq vq nq lq))]).fat ≤ 100000) ∧
    ((tAl (PT.mk kp vp np lp)).cnt ≤ 1000000 ∧ (tAl (PT.mk kp vp np lp)).fat ≤ 100000) ∧ ((tAn (PT.mk kp vp np lp)).cnt ≤ 1000000 ∧ (tAn (PT.mk kp vp np lp)).fat ≤ 100000) ∧ ((tN (tAl (PT.mk kp vp np lp))).cnt ≤ 1000000 ∧ (tN (tAl (PT.mk kp vp np lp))).fat ≤ 100000) ∧ ((tAn (tN (PT.mk kp vp np lp))).cnt ≤ 1000000 ∧ (tAn (tN (PT.mk kp vp np lp))).fat ≤ 100000) ∧ ((tN (tAn (PT.mk kp vp np lp))).cnt ≤ 1000000 ∧ (tN (tAn (PT.mk kp vp np lp))).fat ≤ 100000) ∧ ((tAl (tN (PT.mk kp vp np lp))).cnt ≤ 1000000 ∧ (tAl (tN (PT.mk kp vp np lp))).fat ≤ 100000) := by
    have := HSM.out
    simp only [tN_cnt, tA_cnt, tO_cnt, tAl_cnt, tAn_cnt, tN_fat, tA_fat, tO_fat, tAl_fat, tAn_fat, PT.cnts, PT.fats]
    omega
  have HC := Lib.hid hcc
  clear hcc hhp hhq hlaw
  have HBP : Hid (BoxP w9 w.heap.size (PT.mk kp vp np lp)) := Lib.hid ⟨_, _, _, _, _, _, _, _, _, _, q0, q1, q2, q3, q4, q5, hx⟩
  have HBQ : Hid (BoxP w9 w0.heap.size (PT.mk kq vq nq lq)) := Lib.hid ⟨_, _, _, _, _, _, _, _, _, _, s0, s1, s2, s3, s4, s5, hq⟩
  have HBX : Hid (BoxV w9 w1.heap.size (VT.mk xk xn xl)) := Lib.hid ⟨_, _, _, _, _, p0, p1, p2, hy⟩
  have HBV := Lib.hid (fun W (h : Below w9.drew.heap.size w9.drew W) => (Below.refl _ w9).drew.trans h)
  clear q0 q1 q2 q3 q4 q5 s0 s1 s2 s3 s4 s5 hx hy
  rename Bool => hq
  go_wp2_with fail
  refine wp_region_blocks [7, 8] (kindX [(30, .pred (PT.mk kp vp np lp)), (31, .pred (tN (PT.mk kp vp np lp))), (32, .pred (PT.mk kq vq nq lq)), (33, .pred (tN (PT.mk kq vq nq lq))), (7, .box 27 6), (8, .box 27 6)]) 6 125 (by kernel_rfl) (by kernel_rfl) (by kernel_rfl) (by rfl) (by rfl) (kindX_sub _) (kindX_grow _) (fm ?_ (fm ?_ (fm ?_ (fm ?_ (fm ?_ (fm ?_ fmnil)))))) ?_
  · intro r W X hc hf hs hX hd hB
    have hBV := HBV.out W hB
    have e : r (.tmp 3) = .pointer (some ⟨w.heap.size, 0, none⟩) := hs 3 (of_decide_eq_true (by kernel_rfl))
    obtain ⟨qk, qvk, qvn, qva, qvl, qvc, qn, qa, ql, qc, g0, g1, g2, g3, g4, g5, hv⟩ := HBP.out
    replace g0 := cell_stays hBV g0
    replace g1 := cell_stays hBV g1
    replace g2 := cell_stays hBV g2
    replace g3 := cell_stays hBV g3
    replace g4 := cell_stays hBV g4
    replace g5 := cell_stays hBV g5
    exact sb_value (v := .agg #[.int .u8 qk, .int .u8 qvk, .int .i64 qvn, .slice qva qvl qvc, .int .i64 qn, .slice qa ql qc]) rfl (by decide) (by go_simp) (pin_old hv hBV (fun k hk => (hX k hk).1))
  · intro r W X hc hf hs hX hd hB
    have h : PQ.okX (.pred (PT.mk kp vp np lp)) (r (.tmp 30)) W X := hd 30 (by kernel_rfl)
    have hp := h W (Agree.refl _ _)
    exact sb_call (f := 23) (args := #[r (.tmp 30)]) rfl (by decide) (by go_simp) (madeX (fun k hk => (hX k hk).2) (pnot_any _ _ _ hp))
  · intro r W X hc hf hs hX hd hB
    have hBV := HBV.out W hB
    have e : r (.tmp 4) = .pointer (some ⟨w0.heap.size, 0, none⟩) := hs 4 (of_decide_eq_true (by kernel_rfl))
    obtain ⟨qk, qvk, qvn, qva, qvl, qvc, qn, qa, ql, qc, g0, g1, g2, g3, g4, g5, hv⟩ := HBQ.out
    replace g0 := cell_stays hBV g0
    replace g1 := cell_stays hBV g1
    replace g2 := cell_stays hBV g2
    replace g3 := cell_stays hBV g3
    replace g4 := cell_stays hBV g4
    replace g5 := cell_stays hBV g5
    exact sb_value (v := .agg #[.int .u8 qk, .int .u8 qvk, .int .i64 qvn, .slice qva qvl qvc, .int .i64 qn, .slice qa ql qc]) rfl (by decide) (by go_simp) (pin_old hv hBV (fun k hk => (hX k hk).1))
  · intro r W X hc hf hs hX hd hB
    have h : PQ.okX (.pred (PT.mk kq vq nq lq)) (r (.tmp 32)) W X := hd 32 (by kernel_rfl)
    have hp := h W (Agree.refl _ _)
    exact sb_call (f := 23) (args := #[r (.tmp 32)]) rfl (by decide) (by go_simp) (madeX (fun k hk => (hX k hk).2) (pnot_any _ _ _ hp))
  · intro r W X hc hf hs hX hd hB
    exact sb_block (w' := W.alloc (.cells #[.int .u8 0, .int .u8 0, .int .i64 0, .slice none 0 0, .int .i64 0, .slice none 0 0] 27)) rfl (by go_simp) (Below.al _) (by simp) (fun X => ⟨W.heap.size, rfl, by simp, RowAt.new W _ _⟩)
  · intro r W X hc hf hs hX hd hB
    exact sb_block (w' := W.alloc (.cells #[.int .u8 0, .int .u8 0, .int .i64 0, .slice none 0 0, .int .i64 0, .slice none 0 0] 27)) rfl (by go_simp) (Below.al _) (by simp) (fun X => ⟨W.heap.size, rfl, by simp, RowAt.new W _ _⟩)
  intro f w' fuel Y hfuel hfd hnew hap hB'
  have h31 : PQ.okX (.pred (tN (PT.mk kp vp np lp))) (f 31) w' Y := hfd 31 (of_decide_eq_true (by kernel_rfl))
  have h33 : PQ.okX (.pred (tN (PT.mk kq vq nq lq))) (f 33) w' Y := hfd 33 (of_decide_eq_true (by kernel_rfl))
  obtain ⟨b7, e7, -, R7⟩ : PQ.okX (.box 27 6) (f 7) w' Y := hfd 7 (of_decide_eq_true (by kernel_rfl))
  obtain ⟨b8, e8, -, R8⟩ : PQ.okX (.box 27 6) (f 8) w' Y := hfd 8 (of_decide_eq_true (by kernel_rfl))
  obtain ⟨c7, e7', lo7, lt7, Y7⟩ := hnew 7 (by simp) (of_decide_eq_true (by kernel_rfl))
  obtain ⟨c8, e8', lo8, lt8, Y8⟩ := hnew 8 (by simp) (of_decide_eq_true (by kernel_rfl))
  have hne := hap 7 (by simp) 8 (by simp) (of_decide_eq_true (by kernel_rfl)) (of_decide_eq_true (by kernel_rfl)) (by decide)
  unfold IsBlock at e7 e8 e7' e8'
  rw [e7] at e7'
  rw [e8] at e8'
  rw [e7, e8] at hne
  cases e7'; cases e8'
  have hbb : b7 ≠ b8 := fun h => hne (by rw [h])
  obtain ⟨k1, vk1, vn1, va1, vl1, vc1, n1, a1, l1, c1, e31⟩ := PIn.agg (h31 w' (Agree.refl _ _))
  obtain ⟨k2, vk2, vn2, va2', vl2, vc2', n2, a2', l2, c2, e33⟩ := PIn.agg (h33 w' (Agree.refl _ _))
  rw [e31] at h31
  rw [e33] at h33
  obtain ⟨x0, x1, x2, x3, x4, x5, d0, d1, d2, d3, d4, d5⟩ : ∃ x0 x1 x2 x3 x4 x5, w'.cell? ⟨b7, 0, none⟩ = some x0 ∧ w'.cell? ⟨b7, 1, none⟩ = some x1 ∧ w'.cell? ⟨b7, 2, none⟩ = some x2 ∧ w'.cell? ⟨b7, 3, none⟩ = some x3 ∧ w'.cell? ⟨b7, 4, none⟩ = some x4 ∧ w'.cell? ⟨b7, 5, none⟩ = some x5 := by
    obtain ⟨x0, d0⟩ := R7.cell 0 (by omega); obtain ⟨x1, d1⟩ := R7.cell 1 (by omega); obtain ⟨x2, d2⟩ := R7.cell 2 (by omega); obtain ⟨x3, d3⟩ := R7.cell 3 (by omega); obtain ⟨x4, d4⟩ := R7.cell 4 (by omega); obtain ⟨x5, d5⟩ := R7.cell 5 (by omega)
    exact ⟨x0, x1, x2, x3, x4, x5, d0, d1, d2, d3, d4, d5⟩
  have fz0 := R7.frozen 0
  have fz1 := R7.frozen 1
  have fz2 := R7.frozen 2
  have fz3 := R7.frozen 3
  have fz4 := R7.frozen 4
  have fz5 := R7.frozen 5
  have hag := agree_set6 (Agree.refl Y w') Y7 (.int .u8 k1) (.int .u8 vk1) (.int .i64 vn1) (.slice va1 vl1 vc1) (.int .i64 n1) (.slice a1 l1 c1)
  obtain ⟨w6', hw6, y0, y1, y2, y3, y4, y5, k6, f6, sz6, bl6⟩ := set6_all (u0 := .int .u8 k1) (u1 := .int .u8 vk1) (u2 := .int .i64 vn1) (u3 := .slice va1 vl1 vc1) (u4 := .int .i64 n1) (u5 := .slice a1 l1 c1) d0 d1 d2 d3 d4 d5
  rw [hw6] at hag
  obtain ⟨fuel, rfl⟩ : ∃ k, fuel = k + 1 + 1 := ⟨fuel - 2, by have h2 : 2 ≤ fuel := hfuel; omega⟩
  rw [show dstsTo 6 _ = [30, 31, 32, 33, 7, 8] from by kernel_rfl]
  simp only [fill, List.setIfInBounds_toArray, List.set_cons_succ, List.set_cons_zero, e31, e33, e7, e8]
  refine wpAny_next (i := 6) (by kernel_rfl) (by rfl) rfl (wp_skip (w' := w6') (by go_simp) rfl ?_)
  have g80 := (R8.cell 0 (by omega))
  obtain ⟨z0, v0⟩ := R8.cell 0 (by omega)
  obtain ⟨z1, v1⟩ := R8.cell 1 (by omega)
  obtain ⟨z2, v2⟩ := R8.cell 2 (by omega)
  obtain ⟨z3, v3⟩ := R8.cell 3 (by omega)
  obtain ⟨z4, v4⟩ := R8.cell 4 (by omega)
  obtain ⟨z5, v5⟩ := R8.cell 5 (by omega)
  replace v0 := k6 b8 0 _ (fun h => hbb h.symm) v0
  replace v1 := k6 b8 1 _ (fun h => hbb h.symm) v1
  replace v2 := k6 b8 2 _ (fun h => hbb h.symm) v2
  replace v3 := k6 b8 3 _ (fun h => hbb h.symm) v3
  replace v4 := k6 b8 4 _ (fun h => hbb h.symm) v4
  replace v5 := k6 b8 5 _ (fun h => hbb h.symm) v5
  have hz0 : w6'.frozen? ⟨b8, 0, none⟩ = false := by rw [f6]; exact R8.frozen 0
  have hz1 : w6'.frozen? ⟨b8, 1, none⟩ = false := by rw [f6]; exact R8.frozen 1
  have hz2 : w6'.frozen? ⟨b8, 2, none⟩ = false := by rw [f6]; exact R8.frozen 2
  have hz3 : w6'.frozen? ⟨b8, 3, none⟩ = false := by rw [f6]; exact R8.frozen 3
  have hz4 : w6'.frozen? ⟨b8, 4, none⟩ = false := by rw [f6]; exact R8.frozen 4
  have hz5 : w6'.frozen? ⟨b8, 5, none⟩ = false := by rw [f6]; exact R8.frozen 5
  clear f6
  have hag2 := agree_set6 hag Y8 (.int .u8 k2) (.int .u8 vk2) (.int .i64 vn2) (.slice va2' vl2 vc2') (.int .i64 n2) (.slice a2' l2 c2)
  obtain ⟨wA, hwA, t0, t1, t2, t3, t4, t5, k7, f7, sz7, bl7⟩ := set6_all (u0 := .int .u8 k2) (u1 := .int .u8 vk2) (u2 := .int .i64 vn2) (u3 := .slice va2' vl2 vc2') (u4 := .int .i64 n2) (u5 := .slice a2' l2 c2) v0 v1 v2 v3 v4 v5
  rw [hwA] at hag2
  refine wpAny_next (i := 7) (by kernel_rfl) (by rfl) rfl (wp_skip (w' := wA) (by go_simp) rfl ?_)
  refine wpAny_done (by kernel_rfl) ?_ _
  have hBw := (Below.refl _ w9).drew.trans hB'
  have hBA : Below w9.heap.size w9 wA := bl7 _ _ (bl6 _ _ hBw lo7) lo8
  have HBA : Hid (BoxP wA b7 (tN (PT.mk kp vp np lp))) := Lib.hid ⟨_, _, _, _, _, _, _, _, _, _, k7 b7 _ _ hbb y0, k7 b7 _ _ hbb y1, k7 b7 _ _ hbb y2, k7 b7 _ _ hbb y3, k7 b7 _ _ hbb y4, k7 b7 _ _ hbb y5, h31 wA hag2⟩
  have HBB : Hid (BoxP wA b8 (tN (PT.mk kq vq nq lq))) := Lib.hid ⟨_, _, _, _, _, _, _, _, _, _, t0, t1, t2, t3, t4, t5, h33 wA hag2⟩
  replace HBP := Lib.hid (HBP.out.below hBA)
  replace HBQ := Lib.hid (HBQ.out.below hBA)
  replace HBX := Lib.hid (HBX.out.below hBA)
  replace p0 := cell_stays hBA p0
  replace hB := hB.trans (hBA.mono hB.size)
  replace HBV := Lib.hid (fun W (h : Below wA.drew.heap.size wA.drew W) => (Below.refl _ wA).drew.trans h)
  clear hag hag2 h31 h33 e31 e33 e7 e8 hne hap hnew hfd g80 v0 v1 v2 v3 v4 v5 hz0 hz1 hz2 hz3 hz4 hz5 fz0 fz1 fz2 fz3 fz4 fz5 d0 d1 d2 d3 d4 d5 y0 y1 y2 y3 y4 y5 t0 t1 t2 t3 t4 t5 k6 sz6 bl6 k7 f7 sz7 bl7 R7 R8 lo7 lo8 lt7 lt8 Y7 Y8 hBw hBA hw6 hwA hfuel hB' p1 p2
  have c00 : (!hp == hp) = false := by cases hp <;> rfl
  go_wp2_with fail
  refine wp_region_all (kindP [(34, .pred (tN (PT.mk kp vp np lp))), (35, .val (VT.mk xk xn xl)), (36, .fixed (.bool (!hp))), (37, .pred (PT.mk kp vp np lp)), (38, .val (VT.mk xk xn xl)), (39, .fixed (.bool hp)), (40, .fixed (.bool false)), (41, .fixed (.bool false)), (42, .pred (PT.mk kp vp np lp)), (43, .pred (PT.mk kq vq nq lq)), (44, .row [(PT.mk kp vp np lp), (PT.mk kq vq nq lq)]), (45, .pred (tA [(PT.mk kp vp np lp), (PT.mk kq vq nq lq)])), (46, .pred (tN (tA [(PT.mk kp vp np lp), (PT.mk kq vq nq lq)]))), (47, .val (VT.mk xk xn xl)), (48, .fixed (.bool (!(hp && hq)))), (49, .pred (tN (PT.mk kp vp np lp))), (50, .pred (tN (PT.mk kq vq nq lq))), (51, .row [(tN (PT.mk kp vp np lp)), (tN (PT.mk kq vq nq lq))]), (52, .pred (tO [(tN (PT.mk kp vp np lp)), (tN (PT.mk kq vq nq lq))])), (53, .val (VT.mk xk xn xl)), (54, .fixed (.bool (!(hp && hq)))), (55, .fixed (.bool false)), (56, .fixed (.bool false)), (57, .fixed (.bool false)), (58, .pred (PT.mk kp vp np lp)), (59, .pred (PT.mk kq vq nq lq)), (60, .row [(PT.mk kp vp np lp), (PT.mk kq vq nq lq)]), (61, .pred (tO [(PT.mk kp vp np lp), (PT.mk kq vq nq lq)])), (62, .pred (tN (tO [(PT.mk kp vp np lp), (PT.mk kq vq nq lq)]))), (63, .val (VT.mk xk xn xl)), (64, .fixed (.bool (!(hp || hq)))), (65, .pred (tN (PT.mk kp vp np lp))), (66, .pred (tN (PT.mk kq vq nq lq))), (67, .row [(tN (PT.mk kp vp np lp)), (tN (PT.mk kq vq nq lq))]), (68, .pred (tA [(tN (PT.mk kp vp np lp)), (tN (PT.mk kq vq nq lq))])), (69, .val (VT.mk xk xn xl)), (70, .fixed (.bool (!(hp || hq)))), (71, .fixed (.bool false)), (72, .fixed (.bool false)), (73, .fixed (.bool false)), (74, .pred tYes), (75, .pred (tN tYes)), (76, .val (VT.mk xk xn xl)), (77, .fixed (.bool false)), (78, .pred tNo), (79, .val (VT.mk xk xn xl)), (80, .fixed (.bool false)), (81, .fixed (.bool false)), (82, .fixed (.bool false))]) 125 (by kernel_rfl) (by kernel_rfl) (by rfl) (kindP_mono _) ?_ ?_
  · refine (fm ?_ (fm ?_ (fm ?_ (fm ?_ (fm ?_ (fm ?_ (fm ?_ (fm ?_ (fm ?_ (fm ?_ (fm ?_ (fm ?_ (fm ?_ (fm ?_ (fm ?_ (fm ?_ (fm ?_ (fm ?_ (fm ?_ (fm ?_ (fm ?_ (fm ?_ (fm ?_ (fm ?_ (fm ?_ (fm ?_ (fm ?_ (fm ?_ (fm ?_ (fm ?_ (fm ?_ (fm ?_ (fm ?_ (fm ?_ (fm ?_ (fm ?_ (fm ?_ (fm ?_ (fm ?_ (fm ?_ (fm ?_ (fm ?_ (fm ?_ (fm ?_ (fm ?_ (fm ?_ (fm ?_ (fm ?_ (fm ?_ fmnil)))))))))))))))))))))))))))))))))))))))))))))))))
    · intro r W hc hf hs hd hB
      have hBV := HBV.out W hB
      refine want_n rfl ?_
      have e : r (.tmp 7) = .pointer (some ⟨b7, 0, none⟩) := hs 7 (of_decide_eq_true (by kernel_rfl))
      obtain ⟨qk, qvk, qvn, qva, qvl, qvc, qn, qa, ql, qc, g0, g1, g2, g3, g4, g5, hv⟩ := BoxP.below HBA.out hBV
      exact sg_value (v := .agg #[.int .u8 qk, .int .u8 qvk, .int .i64 qvn, .slice qva qvl qvc, .int .i64 qn, .slice qa ql qc]) rfl (by decide) (by go_simp) hv
    · intro r W hc hf hs hd hB
      have hBV := HBV.out W hB
      refine want_n rfl ?_
      have e : r (.tmp 5) = .pointer (some ⟨w1.heap.size, 0, none⟩) := hs 5 (of_decide_eq_true (by kernel_rfl))
      obtain ⟨qk, qn, qa, ql, qc, g0, g1, g2, hv⟩ := BoxV.below HBX.out hBV
      exact sg_value (v := .agg #[.int .u8 qk, .int .i64 qn, .slice qa ql qc]) rfl (by decide) (by go_simp) hv
    · intro r W hc hf hs hd hB
      have hBV := HBV.out W hB
      refine want_n rfl ?_
      have h34 : PIn W (tN (PT.mk kp vp np lp)) (r (.tmp 34)) := hd 34 (by kernel_rfl)
      have h35 : VIn W (VT.mk xk xn xl) (r (.tmp 35)) := hd 35 (by kernel_rfl)
      exact sg_call (f := 15) (args := #[r (.tmp 34), r (.tmp 35)]) rfl (by decide) (by go_simp) (pholds_b H0.out HC.out.1 h34 h35)
    · intro r W hc hf hs hd hB
      have hBV := HBV.out W hB
      refine want_n rfl ?_
      have e : r (.tmp 3) = .pointer (some ⟨w.heap.size, 0, none⟩) := hs 3 (of_decide_eq_true (by kernel_rfl))
      obtain ⟨qk, qvk, qvn, qva, qvl, qvc, qn, qa, ql, qc, g0, g1, g2, g3, g4, g5, hv⟩ := BoxP.below HBP.out hBV
      exact sg_value (v := .agg #[.int .u8 qk, .int .u8 qvk, .int .i64 qvn, .slice qva qvl qvc, .int .i64 qn, .slice qa ql qc]) rfl (by decide) (by go_simp) hv
    · intro r W hc hf hs hd hB
      have hBV := HBV.out W hB
      refine want_n rfl ?_
      have e : r (.tmp 5) = .pointer (some ⟨w1.heap.size, 0, none⟩) := hs 5 (of_decide_eq_true (by kernel_rfl))
      obtain ⟨qk, qn, qa, ql, qc, g0, g1, g2, hv⟩ := BoxV.below HBX.out hBV
      exact sg_value (v := .agg #[.int .u8 qk, .int .i64 qn, .slice qa ql qc]) rfl (by decide) (by go_simp) hv
    · intro r W hc hf hs hd hB
      have hBV := HBV.out W hB
      refine want_n rfl ?_
      have h37 : PIn W (PT.mk kp vp np lp) (r (.tmp 37)) := hd 37 (by kernel_rfl)
      have h38 : VIn W (VT.mk xk xn xl) (r (.tmp 38)) := hd 38 (by kernel_rfl)
      exact sg_call (f := 15) (args := #[r (.tmp 37), r (.tmp 38)]) rfl (by decide) (by go_simp) (pholds_b HP.out HC.out.2.1 h37 h38)
    · intro r W hc hf hs hd hB
      have hBV := HBV.out W hB
      refine want_n rfl ?_
      have e36 : r (.tmp 36) = (.bool (!hp)) := hd 36 (by kernel_rfl)
      have e39 : r (.tmp 39) = (.bool hp) := hd 39 (by kernel_rfl)
      exact sg_value (v := (.bool false)) rfl (by decide) (by go_simp) rfl
    · intro r W hc hf hs hd hB
      have hBV := HBV.out W hB
      refine want_n rfl ?_
      have e : r (.tmp 40) = (.bool false) := hd 40 (by kernel_rfl)
      exact sg_value (v := (.bool false)) rfl (by decide) (by go_simp) rfl
    · intro r W hc hf hs hd hB
      have hBV := HBV.out W hB
      refine want_g 7 41 rfl (by kernel_rfl) (hd 41 (by kernel_rfl) : r (.tmp 41) = .bool false) ?_
      have e : r (.tmp 3) = .pointer (some ⟨w.heap.size, 0, none⟩) := hs 3 (of_decide_eq_true (by kernel_rfl))
      obtain ⟨qk, qvk, qvn, qva, qvl, qvc, qn, qa, ql, qc, g0, g1, g2, g3, g4, g5, hv⟩ := BoxP.below HBP.out hBV
      exact sg_value (v := .agg #[.int .u8 qk, .int .u8 qvk, .int .i64 qvn, .slice qva qvl qvc, .int .i64 qn, .slice qa ql qc]) rfl (by decide) (by go_simp) hv
    · intro r W hc hf hs hd hB
      have hBV := HBV.out W hB
      refine want_g 7 41 rfl (by kernel_rfl) (hd 41 (by kernel_rfl) : r (.tmp 41) = .bool false) ?_
      have e : r (.tmp 4) = .pointer (some ⟨w0.heap.size, 0, none⟩) := hs 4 (of_decide_eq_true (by kernel_rfl))
      obtain ⟨qk, qvk, qvn, qva, qvl, qvc, qn, qa, ql, qc, g0, g1, g2, g3, g4, g5, hv⟩ := BoxP.below HBQ.out hBV
      exact sg_value (v := .agg #[.int .u8 qk, .int .u8 qvk, .int .i64 qvn, .slice qva qvl qvc, .int .i64 qn, .slice qa ql qc]) rfl (by decide) (by go_simp) hv
    · intro r W hc hf hs hd hB
      have hBV := HBV.out W hB
      refine want_g 7 41 rfl (by kernel_rfl) (hd 41 (by kernel_rfl) : r (.tmp 41) = .bool false) ?_
      have h42 : PIn W (PT.mk kp vp np lp) (r (.tmp 42)) := hd 42 (by kernel_rfl)
      obtain ⟨k42, vk42, vn42, va42, vl42, vc42, n42, a42, l42, c42, e42⟩ := PIn.agg h42
      rw [e42] at h42
      have h43 : PIn W (PT.mk kq vq nq lq) (r (.tmp 43)) := hd 43 (by kernel_rfl)
      obtain ⟨k43, vk43, vn43, va43, vl43, vc43, n43, a43, l43, c43, e43⟩ := PIn.agg h43
      rw [e43] at h43
      exact sg_new (v := .slice (some ⟨W.heap.size, 0, none⟩) 2 2) (w' := W.alloc (.cells #[.int .u8 k42, .int .u8 vk42, .int .i64 vn42, .slice va42 vl42 vc42, .int .i64 n42, .slice a42 l42 c42, .int .u8 k43, .int .u8 vk43, .int .i64 vn43, .slice va43 vl43 vc43, .int .i64 n43, .slice a43 l43 c43] 27)) rfl (by decide) (by go_simp) (Below.al _) ⟨_, _, _, rfl, rfl, (prow_cons (v0 := .int .u8 k42) (v1 := .int .u8 vk42) (v2 := .int .i64 vn42) (v3 := .slice va42 vl42 vc42) (v4 := .int .i64 n42) (v5 := .slice a42 l42 c42) (by go_simp) (by go_simp) (by go_simp) (by go_simp) (by go_simp) (by go_simp) (h42.below (Below.al _)) (prow_cons (v0 := .int .u8 k43) (v1 := .int .u8 vk43) (v2 := .int .i64 vn43) (v3 := .slice va43 vl43 vc43) (v4 := .int .i64 n43) (v5 := .slice a43 l43 c43) (by go_simp) (by go_simp) (by go_simp) (by go_simp) (by go_simp) (by go_simp) (h43.below (Below.al _)) prow_nil))⟩
    · intro r W hc hf hs hd hB
      have hBV := HBV.out W hB
      refine want_g 7 41 rfl (by kernel_rfl) (hd 41 (by kernel_rfl) : r (.tmp 41) = .bool false) ?_
      obtain ⟨ah44, nh44, ch44, h44, hnh44, hrh44⟩ : PQ.ok (.row [(PT.mk kp vp np lp), (PT.mk kq vq nq lq)]) (r (.tmp 44)) W := hd 44 (by kernel_rfl)
      exact sg_call (f := 27) (args := #[.slice ah44 nh44 ch44]) rfl (by decide) (by go_simp) (made_pred (pand_n hnh44 (by rw [hnh44]; first | (simp; done) | omega) hrh44))
    · intro r W hc hf hs hd hB
      have hBV := HBV.out W hB
      refine want_g 7 41 rfl (by kernel_rfl) (hd 41 (by kernel_rfl) : r (.tmp 41) = .bool false) ?_
      have h45 : PIn W (tA [(PT.mk kp vp np lp), (PT.mk kq vq nq lq)]) (r (.tmp 45)) := hd 45 (by kernel_rfl)
      exact sg_call (f := 23) (args := #[r (.tmp 45)]) rfl (by decide) (by go_simp) (made_pred (pnot_any _ _ _ h45))
    · intro r W hc hf hs hd hB
      have hBV := HBV.out W hB
      refine want_g 7 41 rfl (by kernel_rfl) (hd 41 (by kernel_rfl) : r (.tmp 41) = .bool false) ?_
      have e : r (.tmp 5) = .pointer (some ⟨w1.heap.size, 0, none⟩) := hs 5 (of_decide_eq_true (by kernel_rfl))
      obtain ⟨qk, qn, qa, ql, qc, g0, g1, g2, hv⟩ := BoxV.below HBX.out hBV
      exact sg_value (v := .agg #[.int .u8 qk, .int .i64 qn, .slice qa ql qc]) rfl (by decide) (by go_simp) hv
    · intro r W hc hf hs hd hB
      have hBV := HBV.out W hB
      refine want_g 7 41 rfl (by kernel_rfl) (hd 41 (by kernel_rfl) : r (.tmp 41) = .bool false) ?_
      have h46 : PIn W (tN (tA [(PT.mk kp vp np lp), (PT.mk kq vq nq lq)])) (r (.tmp 46)) := hd 46 (by kernel_rfl)
      have h47 : VIn W (VT.mk xk xn xl) (r (.tmp 47)) := hd 47 (by kernel_rfl)
      exact sg_call (f := 15) (args := #[r (.tmp 46), r (.tmp 47)]) rfl (by decide) (by go_simp) (pholds_b H1.out HC.out.2.2.1 h46 h47)
    · intro r W hc hf hs hd hB
      have hBV := HBV.out W hB
      refine want_g 7 41 rfl (by kernel_rfl) (hd 41 (by kernel_rfl) : r (.tmp 41) = .bool false) ?_
      have e : r (.tmp 7) = .pointer (some ⟨b7, 0, none⟩) := hs 7 (of_decide_eq_true (by kernel_rfl))
      obtain ⟨qk, qvk, qvn, qva, qvl, qvc, qn, qa, ql, qc, g0, g1, g2, g3, g4, g5, hv⟩ := BoxP.below HBA.out hBV
      exact sg_value (v := .agg #[.int .u8 qk, .int .u8 qvk, .int .i64 qvn, .slice qva qvl qvc, .int .i64 qn, .slice qa ql qc]) rfl (by decide) (by go_simp) hv
    · intro r W hc hf hs hd hB
      have hBV := HBV.out W hB
      refine want_g 7 41 rfl (by kernel_rfl) (hd 41 (by kernel_rfl) : r (.tmp 41) = .bool false) ?_
      have e : r (.tmp 8) = .pointer (some ⟨b8, 0, none⟩) := hs 8 (of_decide_eq_true (by kernel_rfl))
      obtain ⟨qk, qvk, qvn, qva, qvl, qvc, qn, qa, ql, qc, g0, g1, g2, g3, g4, g5, hv⟩ := BoxP.below HBB.out hBV
      exact sg_value (v := .agg #[.int .u8 qk, .int .u8 qvk, .int .i64 qvn, .slice qva qvl qvc, .int .i64 qn, .slice qa ql qc]) rfl (by decide) (by go_simp) hv
    · intro r W hc hf hs hd hB
      have hBV := HBV.out W hB
      refine want_g 7 41 rfl (by kernel_rfl) (hd 41 (by kernel_rfl) : r (.tmp 41) = .bool false) ?_
      have h49 : PIn W (tN (PT.mk kp vp np lp)) (r (.tmp 49)) := hd 49 (by kernel_rfl)
      obtain ⟨k49, vk49, vn49, va49, vl49, vc49, n49, a49, l49, c49, e49⟩ := PIn.agg h49
      rw [e49] at h49
      have h50 : PIn W (tN (PT.mk kq vq nq lq)) (r (.tmp 50)) := hd 50 (by kernel_rfl)
      obtain ⟨k50, vk50, vn50, va50, vl50, vc50, n50, a50, l50, c50, e50⟩ := PIn.agg h50
      rw [e50] at h50
      exact sg_new (v := .slice (some ⟨W.heap.size, 0, none⟩) 2 2) (w' := W.alloc (.cells #[.int .u8 k49, .int .u8 vk49, .int .i64 vn49, .slice va49 vl49 vc49, .int .i64 n49, .slice a49 l49 c49, .int .u8 k50, .int .u8 vk50, .int .i64 vn50, .slice va50 vl50 vc50, .int .i64 n50, .slice a50 l50 c50] 27)) rfl (by decide) (by go_simp) (Below.al _) ⟨_, _, _, rfl, rfl, (prow_cons (v0 := .int .u8 k49) (v1 := .int .u8 vk49) (v2 := .int .i64 vn49) (v3 := .slice va49 vl49 vc49) (v4 := .int .i64 n49) (v5 := .slice a49 l49 c49) (by go_simp) (by go_simp) (by go_simp) (by go_simp) (by go_simp) (by go_simp) (h49.below (Below.al _)) (prow_cons (v0 := .int .u8 k50) (v1 := .int .u8 vk50) (v2 := .int .i64 vn50) (v3 := .slice va50 vl50 vc50) (v4 := .int .i64 n50) (v5 := .slice a50 l50 c50) (by go_simp) (by go_simp) (by go_simp) (by go_simp) (by go_simp) (by go_simp) (h50.below (Below.al _)) prow_nil))⟩
    · intro r W hc hf hs hd hB
      have hBV := HBV.out W hB
      refine want_g 7 41 rfl (by kernel_rfl) (hd 41 (by kernel_rfl) : r (.tmp 41) = .bool false) ?_
      obtain ⟨ah51, nh51, ch51, h51, hnh51, hrh51⟩ : PQ.ok (.row [(tN (PT.mk kp vp np lp)), (tN (PT.mk kq vq nq lq))]) (r (.tmp 51)) W := hd 51 (by kernel_rfl)
      exact sg_call (f := 24) (args := #[.slice ah51 nh51 ch51]) rfl (by decide) (by go_simp) (made_pred (por_n hnh51 (by rw [hnh51]; first | (simp; done) | omega) hrh51))
    · intro r W hc hf hs hd hB
      have hBV := HBV.out W hB
      refine want_g 7 41 rfl (by kernel_rfl) (hd 41 (by kernel_rfl) : r (.tmp 41) = .bool false) ?_
      have e : r (.tmp 5) = .pointer (some ⟨w1.heap.size, 0, none⟩) := hs 5 (of_decide_eq_true (by kernel_rfl))
      obtain ⟨qk, qn, qa, ql, qc, g0, g1, g2, hv⟩ := BoxV.below HBX.out hBV
      exact sg_value (v := .agg #[.int .u8 qk, .int .i64 qn, .slice qa ql qc]) rfl (by decide) (by go_simp) hv
    · intro r W hc hf hs hd hB
      have hBV := HBV.out W hB
      refine want_g 7 41 rfl (by kernel_rfl) (hd 41 (by kernel_rfl) : r (.tmp 41) = .bool false) ?_
      have h52 : PIn W (tO [(tN (PT.mk kp vp np lp)), (tN (PT.mk kq vq nq lq))]) (r (.tmp 52)) := hd 52 (by kernel_rfl)
      have h53 : VIn W (VT.mk xk xn xl) (r (.tmp 53)) := hd 53 (by kernel_rfl)
      exact sg_call (f := 15) (args := #[r (.tmp 52), r (.tmp 53)]) rfl (by decide) (by go_simp) (pholds_b H2.out HC.out.2.2.2.1 h52 h53)
    · intro r W hc hf hs hd hB
      have hBV := HBV.out W hB
      refine want_g 7 41 rfl (by kernel_rfl) (hd 41 (by kernel_rfl) : r (.tmp 41) = .bool false) ?_
      have e48 : r (.tmp 48) = (.bool (!(hp && hq))) := hd 48 (by kernel_rfl)
      have e54 : r (.tmp 54) = (.bool (!(hp && hq))) := hd 54 (by kernel_rfl)
      exact sg_value (v := (.bool false)) rfl (by decide) (by go_simp) rfl
    · intro r W hc hf hs hd hB
      have hBV := HBV.out W hB
      refine want_n rfl ?_
      have e41 : r (.tmp 41) = (.bool false) := hd 41 (by kernel_rfl)
      have e55 : r (.tmp 55) = (.bool false) := hd 55 (by kernel_rfl)
      exact sg_value (v := (.bool false)) rfl (by decide) (by go_simp) rfl
    · intro r W hc hf hs hd hB
      have hBV := HBV.out W hB
      refine want_n rfl ?_
      have e : r (.tmp 56) = (.bool false) := hd 56 (by kernel_rfl)
      exact sg_value (v := (.bool false)) rfl (by decide) (by go_simp) rfl
    · intro r W hc hf hs hd hB
      have hBV := HBV.out W hB
      refine want_g 23 57 rfl (by kernel_rfl) (hd 57 (by kernel_rfl) : r (.tmp 57) = .bool false) ?_
      have e : r (.tmp 3) = .pointer (some ⟨w.heap.size, 0, none⟩) := hs 3 (of_decide_eq_true (by kernel_rfl))
      obtain ⟨qk, qvk, qvn, qva, qvl, qvc, qn, qa, ql, qc, g0, g1, g2, g3, g4, g5, hv⟩ := BoxP.below HBP.out hBV
      exact sg_value (v := .agg #[.int .u8 qk, .int .u8 qvk, .int .i64 qvn, .slice qva qvl qvc, .int .i64 qn, .slice qa ql qc]) rfl (by decide) (by go_simp) hv
    · intro r W hc hf hs hd hB
      have hBV := HBV.out W hB
      refine want_g 23 57 rfl (by kernel_rfl) (hd 57 (by kernel_rfl) : r (.tmp 57) = .bool false) ?_
      have e : r (.tmp 4) = .pointer (some ⟨w0.heap.size, 0, none⟩) := hs 4 (of_decide_eq_true (by kernel_rfl))
      obtain ⟨qk, qvk, qvn, qva, qvl, qvc, qn, qa, ql, qc, g0, g1, g2, g3, g4, g5, hv⟩ := BoxP.below HBQ.out hBV
      exact sg_value (v := .agg #[.int .u8 qk, .int .u8 qvk, .int .i64 qvn, .slice qva qvl qvc, .int .i64 qn, .slice qa ql qc]) rfl (by decide) (by go_simp) hv
    · intro r W hc hf hs hd hB
      have hBV := HBV.out W hB
      refine want_g 23 57 rfl (by kernel_rfl) (hd 57 (by kernel_rfl) : r (.tmp 57) = .bool false) ?_
      have h58 : PIn W (PT.mk kp vp np lp) (r (.tmp 58)) := hd 58 (by kernel_rfl)
      obtain ⟨k58, vk58, vn58, va58, vl58, vc58, n58, a58, l58, c58, e58⟩ := PIn.agg h58
      rw [e58] at h58
      have h59 : PIn W (PT.mk kq vq nq lq) (r (.tmp 59)) := hd 59 (by kernel_rfl)
      obtain ⟨k59, vk59, vn59, va59, vl59, vc59, n59, a59, l59, c59, e59⟩ := PIn.agg h59
      rw [e59] at h59
      exact sg_new (v := .slice (some ⟨W.heap.size, 0, none⟩) 2 2) (w' := W.alloc (.cells #[.int .u8 k58, .int .u8 vk58, .int .i64 vn58, .slice va58 vl58 vc58, .int .i64 n58, .slice a58 l58 c58, .int .u8 k59, .int .u8 vk59, .int .i64 vn59, .slice va59 vl59 vc59, .int .i64 n59, .slice a59 l59 c59] 27)) rfl (by decide) (by go_simp) (Below.al _) ⟨_, _, _, rfl, rfl, (prow_cons (v0 := .int .u8 k58) (v1 := .int .u8 vk58) (v2 := .int .i64 vn58) (v3 := .slice va58 vl58 vc58) (v4 := .int .i64 n58) (v5 := .slice a58 l58 c58) (by go_simp) (by go_simp) (by go_simp) (by go_simp) (by go_simp) (by go_simp) (h58.below (Below.al _)) (prow_cons (v0 := .int .u8 k59) (v1 := .int .u8 vk59) (v2 := .int .i64 vn59) (v3 := .slice va59 vl59 vc59) (v4 := .int .i64 n59) (v5 := .slice a59 l59 c59) (by go_simp) (by go_simp) (by go_simp) (by go_simp) (by go_simp) (by go_simp) (h59.below (Below.al _)) prow_nil))⟩
    · intro r W hc hf hs hd hB
      have hBV := HBV.out W hB
      refine want_g 23 57 rfl (by kernel_rfl) (hd 57 (by kernel_rfl) : r (.tmp 57) = .bool false) ?_
      obtain ⟨ah60, nh60, ch60, h60, hnh60, hrh60⟩ : PQ.ok (.row [(PT.mk kp vp np lp), (PT.mk kq vq nq lq)]) (r (.tmp 60)) W := hd 60 (by kernel_rfl)
      exact sg_call (f := 24) (args := #[.slice ah60 nh60 ch60]) rfl (by decide) (by go_simp) (made_pred (por_n hnh60 (by rw [hnh60]; first | (simp; done) | omega) hrh60))
    · intro r W hc hf hs hd hB
      have hBV := HBV.out W hB
      refine want_g 23 57 rfl (by kernel_rfl) (hd 57 (by kernel_rfl) : r (.tmp 57) = .bool false) ?_
      have h61 : PIn W (tO [(PT.mk kp vp np lp), (PT.mk kq vq nq lq)]) (r (.tmp 61)) := hd 61 (by kernel_rfl)
      exact sg_call (f := 23) (args := #[r (.tmp 61)]) rfl (by decide) (by go_simp) (made_pred (pnot_any _ _ _ h61))
    · intro r W hc hf hs hd hB
      have hBV := HBV.out W hB
      refine want_g 23 57 rfl (by kernel_rfl) (hd 57 (by kernel_rfl) : r (.tmp 57) = .bool false) ?_
      have e : r (.tmp 5) = .pointer (some ⟨w1.heap.size, 0, none⟩) := hs 5 (of_decide_eq_true (by kernel_rfl))
      obtain ⟨qk, qn, qa, ql, qc, g0, g1, g2, hv⟩ := BoxV.below HBX.out hBV
      exact sg_value (v := .agg #[.int .u8 qk, .int .i64 qn, .slice qa ql qc]) rfl (by decide) (by go_simp) hv
    · intro r W hc hf hs hd hB
      have hBV := HBV.out W hB
      refine want_g 23 57 rfl (by kernel_rfl) (hd 57 (by kernel_rfl) : r (.tmp 57) = .bool false) ?_
      have h62 : PIn W (tN (tO [(PT.mk kp vp np lp), (PT.mk kq vq nq lq)])) (r (.tmp 62)) := hd 62 (by kernel_rfl)
      have h63 : VIn W (VT.mk xk xn xl) (r (.tmp 63)) := hd 63 (by kernel_rfl)
      exact sg_call (f := 15) (args := #[r (.tmp 62), r (.tmp 63)]) rfl (by decide) (by go_simp) (pholds_b H3.out HC.out.2.2.2.2.1 h62 h63)
    · intro r W hc hf hs hd hB
      have hBV := HBV.out W hB
      refine want_g 23 57 rfl (by kernel_rfl) (hd 57 (by kernel_rfl) : r (.tmp 57) = .bool false) ?_
      have e : r (.tmp 7) = .pointer (some ⟨b7, 0, none⟩) := hs 7 (of_decide_eq_true (by kernel_rfl))
      obtain ⟨qk, qvk, qvn, qva, qvl, qvc, qn, qa, ql, qc, g0, g1, g2, g3, g4, g5, hv⟩ := BoxP.below HBA.out hBV
      exact sg_value (v := .agg #[.int .u8 qk, .int .u8 qvk, .int .i64 qvn, .slice qva qvl qvc, .int .i64 qn, .slice qa ql qc]) rfl (by decide) (by go_simp) hv
    · intro r W hc hf hs hd hB
      have hBV := HBV.out W hB
      refine want_g 23 57 rfl (by kernel_rfl) (hd 57 (by kernel_rfl) : r (.tmp 57) = .bool false) ?_
      have e : r (.tmp 8) = .pointer (some ⟨b8, 0, none⟩) := hs 8 (of_decide_eq_true (by kernel_rfl))
      obtain ⟨qk, qvk, qvn, qva, qvl, qvc, qn, qa, ql, qc, g0, g1, g2, g3, g4, g5, hv⟩ := BoxP.below HBB.out hBV
      exact sg_value (v := .agg #[.int .u8 qk, .int .u8 qvk, .int .i64 qvn, .slice qva qvl qvc, .int .i64 qn, .slice qa ql qc]) rfl (by decide) (by go_simp) hv
    · intro r W hc hf hs hd hB
      have hBV := HBV.out W hB
      refine want_g 23 57 rfl (by kernel_rfl) (hd 57 (by kernel_rfl) : r (.tmp 57) = .bool false) ?_
      have h65 : PIn W (tN (PT.mk kp vp np lp)) (r (.tmp 65)) := hd 65 (by kernel_rfl)
      obtain ⟨k65, vk65, vn65, va65, vl65, vc65, n65, a65, l65, c65, e65⟩ := PIn.agg h65
      rw [e65] at h65
      have h66 : PIn W (tN (PT.mk kq vq nq lq)) (r (.tmp 66)) := hd 66 (by kernel_rfl)
      obtain ⟨k66, vk66, vn66, va66, vl66, vc66, n66, a66, l66, c66, e66⟩ := PIn.agg h66
      rw [e66] at h66
      exact sg_new (v := .slice (some ⟨W.heap.size, 0, none⟩) 2 2) (w' := W.alloc (.cells #[.int .u8 k65, .int .u8 vk65, .int .i64 vn65, .slice va65 vl65 vc65, .int .i64 n65, .slice a65 l65 c65, .int .u8 k66, .int .u8 vk66, .int .i64 vn66, .slice va66 vl66 vc66, .int .i64 n66, .slice a66 l66 c66] 27)) rfl (by decide) (by go_simp) (Below.al _) ⟨_, _, _, rfl, rfl, (prow_cons (v0 := .int .u8 k65) (v1 := .int .u8 vk65) (v2 := .int .i64 vn65) (v3 := .slice va65 vl65 vc65) (v4 := .int .i64 n65) (v5 := .slice a65 l65 c65) (by go_simp) (by go_simp) (by go_simp) (by go_simp) (by go_simp) (by go_simp) (h65.below (Below.al _)) (prow_cons (v0 := .int .u8 k66) (v1 := .int .u8 vk66) (v2 := .int .i64 vn66) (v3 := .slice va66 vl66 vc66) (v4 := .int .i64 n66) (v5 := .slice a66 l66 c66) (by go_simp) (by go_simp) (by go_simp) (by go_simp) (by go_simp) (by go_simp) (h66.below (Below.al _)) prow_nil))⟩
    · intro r W hc hf hs hd hB
      have hBV := HBV.out W hB
      refine want_g 23 57 rfl (by kernel_rfl) (hd 57 (by kernel_rfl) : r (.tmp 57) = .bool false) ?_
      obtain ⟨ah67, nh67, ch67, h67, hnh67, hrh67⟩ : PQ.ok (.row [(tN (PT.mk kp vp np lp)), (tN (PT.mk kq vq nq lq))]) (r (.tmp 67)) W := hd 67 (by kernel_rfl)
      exact sg_call (f := 27) (args := #[.slice ah67 nh67 ch67]) rfl (by decide) (by go_simp) (made_pred (pand_n hnh67 (by rw [hnh67]; first | (simp; done) | omega) hrh67))
    · intro r W hc hf hs hd hB
      have hBV := HBV.out W hB
      refine want_g 23 57 rfl (by kernel_rfl) (hd 57 (by kernel_rfl) : r (.tmp 57) = .bool false) ?_
      have e : r (.tmp 5) = .pointer (some ⟨w1.heap.size, 0, none⟩) := hs 5 (of_decide_eq_true (by kernel_rfl))
      obtain ⟨qk, qn, qa, ql, qc, g0, g1, g2, hv⟩ := BoxV.below HBX.out hBV
      exact sg_value (v := .agg #[.int .u8 qk, .int .i64 qn, .slice qa ql qc]) rfl (by decide) (by go_simp) hv
    · intro r W hc hf hs hd hB
      have hBV := HBV.out W hB
      refine want_g 23 57 rfl (by kernel_rfl) (hd 57 (by kernel_rfl) : r (.tmp 57) = .bool false) ?_
      have h68 : PIn W (tA [(tN (PT.mk kp vp np lp)), (tN (PT.mk kq vq nq lq))]) (r (.tmp 68)) := hd 68 (by kernel_rfl)
      have h69 : VIn W (VT.mk xk xn xl) (r (.tmp 69)) := hd 69 (by kernel_rfl)
      exact sg_call (f := 15) (args := #[r (.tmp 68), r (.tmp 69)]) rfl (by decide) (by go_simp) (pholds_b H4.out HC.out.2.2.2.2.2.1 h68 h69)
    · intro r W hc hf hs hd hB
      have hBV := HBV.out W hB
      refine want_g 23 57 rfl (by kernel_rfl) (hd 57 (by kernel_rfl) : r (.tmp 57) = .bool false) ?_
      have e64 : r (.tmp 64) = (.bool (!(hp || hq))) := hd 64 (by kernel_rfl)
      have e70 : r (.tmp 70) = (.bool (!(hp || hq))) := hd 70 (by kernel_rfl)
      exact sg_value (v := (.bool false)) rfl (by decide) (by go_simp) rfl
    · intro r W hc hf hs hd hB
      have hBV := HBV.out W hB
      refine want_n rfl ?_
      have e57 : r (.tmp 57) = (.bool false) := hd 57 (by kernel_rfl)
      have e71 : r (.tmp 71) = (.bool false) := hd 71 (by kernel_rfl)
      exact sg_value (v := (.bool false)) rfl (by decide) (by go_simp) rfl
    · intro r W hc hf hs hd hB
      have hBV := HBV.out W hB
      refine want_n rfl ?_
      have e : r (.tmp 72) = (.bool false) := hd 72 (by kernel_rfl)
      exact sg_value (v := (.bool false)) rfl (by decide) (by go_simp) rfl
    · intro r W hc hf hs hd hB
      have hBV := HBV.out W hB
      refine want_g 39 73 rfl (by kernel_rfl) (hd 73 (by kernel_rfl) : r (.tmp 73) = .bool false) ?_
      exact sg_call (f := 25) (args := #[]) rfl (by decide) (by go_simp) (made_pred (pyes_any _))
    · intro r W hc hf hs hd hB
      have hBV := HBV.out W hB
      refine want_g 39 73 rfl (by kernel_rfl) (hd 73 (by kernel_rfl) : r (.tmp 73) = .bool false) ?_
      have h74 : PIn W tYes (r (.tmp 74)) := hd 74 (by kernel_rfl)
      exact sg_call (f := 23) (args := #[r (.tmp 74)]) rfl (by decide) (by go_simp) (made_pred (pnot_any _ _ _ h74))
    · intro r W hc hf hs hd hB
      have hBV := HBV.out W hB
      refine want_g 39 73 rfl (by kernel_rfl) (hd 73 (by kernel_rfl) : r (.tmp 73) = .bool false) ?_
      have e : r (.tmp 5) = .pointer (some ⟨w1.heap.size, 0, none⟩) := hs 5 (of_decide_eq_true (by kernel_rfl))
      obtain ⟨qk, qn, qa, ql, qc, g0, g1, g2, hv⟩ := BoxV.below HBX.out hBV
      exact sg_value (v := .agg #[.int .u8 qk, .int .i64 qn, .slice qa ql qc]) rfl (by decide) (by go_simp) hv
    · intro r W hc hf hs hd hB
      have hBV := HBV.out W hB
      refine want_g 39 73 rfl (by kernel_rfl) (hd 73 (by kernel_rfl) : r (.tmp 73) = .bool false) ?_
      have h75 : PIn W (tN tYes) (r (.tmp 75)) := hd 75 (by kernel_rfl)
      have h76 : VIn W (VT.mk xk xn xl) (r (.tmp 76)) := hd 76 (by kernel_rfl)
      exact sg_call (f := 15) (args := #[r (.tmp 75), r (.tmp 76)]) rfl (by decide) (by go_simp) (pholds_b H5.out (by decide) h75 h76)
    · intro r W hc hf hs hd hB
      have hBV := HBV.out W hB
      refine want_g 39 73 rfl (by kernel_rfl) (hd 73 (by kernel_rfl) : r (.tmp 73) = .bool false) ?_
      exact sg_call (f := 26) (args := #[]) rfl (by decide) (by go_simp) (made_pred (pno_any _))
    · intro r W hc hf hs hd hB
      have hBV := HBV.out W hB
      refine want_g 39 73 rfl (by kernel_rfl) (hd 73 (by kernel_rfl) : r (.tmp 73) = .bool false) ?_
      have e : r (.tmp 5) = .pointer (some ⟨w1.heap.size, 0, none⟩) := hs 5 (of_decide_eq_true (by kernel_rfl))
      obtain ⟨qk, qn, qa, ql, qc, g0, g1, g2, hv⟩ := BoxV.below HBX.out hBV
      exact sg_value (v := .agg #[.int .u8 qk, .int .i64 qn, .slice qa ql qc]) rfl (by decide) (by go_simp) hv
    · intro r W hc hf hs hd hB
      have hBV := HBV.out W hB
      refine want_g 39 73 rfl (by kernel_rfl) (hd 73 (by kernel_rfl) : r (.tmp 73) = .bool false) ?_
      have h78 : PIn W tNo (r (.tmp 78)) := hd 78 (by kernel_rfl)
      have h79 : VIn W (VT.mk xk xn xl) (r (.tmp 79)) := hd 79 (by kernel_rfl)
      exact sg_call (f := 15) (args := #[r (.tmp 78), r (.tmp 79)]) rfl (by decide) (by go_simp) (pholds_b H6.out (by decide) h78 h79)
    · intro r W hc hf hs hd hB
      have hBV := HBV.out W hB
      refine want_g 39 73 rfl (by kernel_rfl) (hd 73 (by kernel_rfl) : r (.tmp 73) = .bool false) ?_
      have e77 : r (.tmp 77) = (.bool false) := hd 77 (by kernel_rfl)
      have e80 : r (.tmp 80) = (.bool false) := hd 80 (by kernel_rfl)
      exact sg_value (v := (.bool false)) rfl (by decide) (by go_simp) rfl
    · intro r W hc hf hs hd hB
      have hBV := HBV.out W hB
      refine want_n rfl ?_
      have e73 : r (.tmp 73) = (.bool false) := hd 73 (by kernel_rfl)
      have e81 : r (.tmp 81) = (.bool false) := hd 81 (by kernel_rfl)
      exact sg_value (v := (.bool false)) rfl (by decide) (by go_simp) rfl
  intro f4 wB hfd hB4
  have z82 : f4 82 = .bool false := hfd 82 (of_decide_eq_true (by kernel_rfl))
  have mB := HBV.out wB hB4
  replace HBP := Lib.hid (HBP.out.below mB)
  replace HBA := Lib.hid (HBA.out.below mB)
  replace HBX := Lib.hid (HBX.out.below mB)
  replace p0 := cell_stays mB p0
  replace hB := hB.trans (mB.mono hB.size)
  replace HBV := Lib.hid (fun W (h : Below wB.drew.heap.size wB.drew W) => (Below.refl _ wB).drew.trans h)
  rw [show dstsTo _ _ = [34, 35, 36, 37, 38, 39, 40, 41, 42, 43, 44, 45, 46, 47, 48, 49, 50, 51, 52, 53, 54, 55, 56, 57, 58, 59, 60, 61, 62, 63, 64, 65, 66, 67, 68, 69, 70, 71, 72, 73, 74, 75, 76, 77, 78, 79, 80, 81, 82] from by kernel_rfl]
  simp only [fill, List.setIfInBounds_toArray, List.set_cons_succ, List.set_cons_zero, z82]
  clear hfd z82 mB hB4 c00
  by_cases hrow : xk = 3 ∨ xk = 4
  · have hr := not_row (X := .mk xk xn xl) HAP.out hrow
    obtain ⟨b9, e9⟩ : ∃ b9, PT.hold (tN (tAl (PT.mk kp vp np lp))) (VT.mk xk xn xl) = b9 := ⟨_, rfl⟩
    obtain ⟨b10, e10⟩ : ∃ b10, PT.hold (tN (tAn (PT.mk kp vp np lp))) (VT.mk xk xn xl) = b10 := ⟨_, rfl⟩
    have H9 := Lib.hid e9; have H10 := Lib.hid e10; have H9b := Lib.hid (hr.1.symm.trans e9); have H10b := Lib.hid (hr.2.symm.trans e10)
    clear hr e9 e10
    rcases hrow with h3 | h4
    · have f3 : (xk != 3) = false := by rw [h3]; rfl
      clear h3
      go_wp2_with fail
      refine wp_region_all (kindP [(103, .pred (PT.mk kp vp np lp)), (104, .pred (tAl (PT.mk kp vp np lp))), (105, .pred (tN (tAl (PT.mk kp vp np lp)))), (106, .val (VT.mk xk xn xl)), (107, .fixed (.bool b9)), (108, .pred (tN (PT.mk kp vp np lp))), (109, .pred (tAn (tN (PT.mk kp vp np lp)))), (110, .val (VT.mk xk xn xl)), (111, .fixed (.bool b9)), (112, .fixed (.bool true)), (113, .fixed (.bool true)), (114, .pred (PT.mk kp vp np lp)), (115, .pred (tAn (PT.mk kp vp np lp))), (116, .pred (tN (tAn (PT.mk kp vp np lp)))), (117, .val (VT.mk xk xn xl)), (118, .fixed (.bool b10)), (119, .pred (tN (PT.mk kp vp np lp))), (120, .pred (tAl (tN (PT.mk kp vp np lp)))), (121, .val (VT.mk xk xn xl)), (122, .fixed (.bool b10)), (123, .fixed (.bool true)), (124, .fixed (.bool true)), (6, .fixed (.bool true))]) 125 (by kernel_rfl) (by kernel_rfl) (by rfl) (kindP_mono _) ?_ ?_
      · refine (fm ?_ (fm ?_ (fm ?_ (fm ?_ (fm ?_ (fm ?_ (fm ?_ (fm ?_ (fm ?_ (fm ?_ (fm ?_ (fm ?_ (fm ?_ (fm ?_ (fm ?_ (fm ?_ (fm ?_ (fm ?_ (fm ?_ (fm ?_ (fm ?_ (fm ?_ (fm ?_ fmnil)))))))))))))))))))))))
        · intro r W hc hf hs hd hB
          have hBV := HBV.out W hB
          refine want_n rfl ?_
          have e : r (.tmp 3) = .pointer (some ⟨w.heap.size, 0, none⟩) := hs 3 (of_decide_eq_true (by kernel_rfl))
          obtain ⟨qk, qvk, qvn, qva, qvl, qvc, qn, qa, ql, qc, g0, g1, g2, g3, g4, g5, hv⟩ := BoxP.below HBP.out hBV
          exact sg_value (v := .agg #[.int .u8 qk, .int .u8 qvk, .int .i64 qvn, .slice qva qvl qvc, .int .i64 qn, .slice qa ql qc]) rfl (by decide) (by go_simp) hv
        · intro r W hc hf hs hd hB
          have hBV := HBV.out W hB
          refine want_n rfl ?_
          have h103 : PIn W (PT.mk kp vp np lp) (r (.tmp 103)) := hd 103 (by kernel_rfl)
          exact sg_call (f := 29) (args := #[r (.tmp 103)]) rfl (by decide) (by go_simp) (made_pred (pall_any _ _ _ h103))
        · intro r W hc hf hs hd hB
          have hBV := HBV.out W hB
          refine want_n rfl ?_
          have h104 : PIn W (tAl (PT.mk kp vp np lp)) (r (.tmp 104)) := hd 104 (by kernel_rfl)
          exact sg_call (f := 23) (args := #[r (.tmp 104)]) rfl (by decide) (by go_simp) (made_pred (pnot_any _ _ _ h104))
        · intro r W hc hf hs hd hB
          have hBV := HBV.out W hB
          refine want_n rfl ?_
          have e : r (.tmp 5) = .pointer (some ⟨w1.heap.size, 0, none⟩) := hs 5 (of_decide_eq_true (by kernel_rfl))
          obtain ⟨qk, qn, qa, ql, qc, g0, g1, g2, hv⟩ := BoxV.below HBX.out hBV
          exact sg_value (v := .agg #[.int .u8 qk, .int .i64 qn, .slice qa ql qc]) rfl (by decide) (by go_simp) hv
        · intro r W hc hf hs hd hB
          have hBV := HBV.out W hB
          refine want_n rfl ?_
          have h105 : PIn W (tN (tAl (PT.mk kp vp np lp))) (r (.tmp 105)) := hd 105 (by kernel_rfl)
          have h106 : VIn W (VT.mk xk xn xl) (r (.tmp 106)) := hd 106 (by kernel_rfl)
          exact sg_call (f := 15) (args := #[r (.tmp 105), r (.tmp 106)]) rfl (by decide) (by go_simp) (pholds_b H9.out HC.out.2.2.2.2.2.2.2.2.1 h105 h106)
        · intro r W hc hf hs hd hB
          have hBV := HBV.out W hB
          refine want_n rfl ?_
          have e : r (.tmp 7) = .pointer (some ⟨b7, 0, none⟩) := hs 7 (of_decide_eq_true (by kernel_rfl))
          obtain ⟨qk, qvk, qvn, qva, qvl, qvc, qn, qa, ql, qc, g0, g1, g2, g3, g4, g5, hv⟩ := BoxP.below HBA.out hBV
          exact sg_value (v := .agg #[.int .u8 qk, .int .u8 qvk, .int .i64 qvn, .slice qva qvl qvc, .int .i64 qn, .slice qa ql qc]) rfl (by decide) (by go_simp) hv
        · intro r W hc hf hs hd hB
          have hBV := HBV.out W hB
          refine want_n rfl ?_
          have h108 : PIn W (tN (PT.mk kp vp np lp)) (r (.tmp 108)) := hd 108 (by kernel_rfl)
          exact sg_call (f := 30) (args := #[r (.tmp 108)]) rfl (by decide) (by go_simp) (made_pred (pany_any _ _ _ h108))
        · intro r W hc hf hs hd hB
          have hBV := HBV.out W hB
          refine want_n rfl ?_
          have e : r (.tmp 5) = .pointer (some ⟨w1.heap.size, 0, none⟩) := hs 5 (of_decide_eq_true (by kernel_rfl))
          obtain ⟨qk, qn, qa, ql, qc, g0, g1, g2, hv⟩ := BoxV.below HBX.out hBV
          exact sg_value (v := .agg #[.int .u8 qk, .int .i64 qn, .slice qa ql qc]) rfl (by decide) (by go_simp) hv
        · intro r W hc hf hs hd hB
          have hBV := HBV.out W hB
          refine want_n rfl ?_
          have h109 : PIn W (tAn (tN (PT.mk kp vp np lp))) (r (.tmp 109)) := hd 109 (by kernel_rfl)
          have h110 : VIn W (VT.mk xk xn xl) (r (.tmp 110)) := hd 110 (by kernel_rfl)
          exact sg_call (f := 15) (args := #[r (.tmp 109), r (.tmp 110)]) rfl (by decide) (by go_simp) (pholds_b H9b.out HC.out.2.2.2.2.2.2.2.2.2.1 h109 h110)
        · intro r W hc hf hs hd hB
          have hBV := HBV.out W hB
          refine want_n rfl ?_
          have e107 : r (.tmp 107) = (.bool b9) := hd 107 (by kernel_rfl)
          have e111 : r (.tmp 111) = (.bool b9) := hd 111 (by kernel_rfl)
          exact sg_value (v := (.bool true)) rfl (by decide) (by go_simp) rfl
        · intro r W hc hf hs hd hB
          have hBV := HBV.out W hB
          refine want_n rfl ?_
          have e : r (.tmp 112) = (.bool true) := hd 112 (by kernel_rfl)
          exact sg_value (v := (.bool true)) rfl (by decide) (by go_simp) rfl
        · intro r W hc hf hs hd hB
          have hBV := HBV.out W hB
          refine want_g 10 113 rfl (by kernel_rfl) (hd 113 (by kernel_rfl) : r (.tmp 113) = .bool true) ?_
          have e : r (.tmp 3) = .pointer (some ⟨w.heap.size, 0, none⟩) := hs 3 (of_decide_eq_true (by kernel_rfl))
          obtain ⟨qk, qvk, qvn, qva, qvl, qvc, qn, qa, ql, qc, g0, g1, g2, g3, g4, g5, hv⟩ := BoxP.below HBP.out hBV
          exact sg_value (v := .agg #[.int .u8 qk, .int .u8 qvk, .int .i64 qvn, .slice qva qvl qvc, .int .i64 qn, .slice qa ql qc]) rfl (by decide) (by go_simp) hv
        · intro r W hc hf hs hd hB
          have hBV := HBV.out W hB
          refine want_g 10 113 rfl (by kernel_rfl) (hd 113 (by kernel_rfl) : r (.tmp 113) = .bool true) ?_
          have h114 : PIn W (PT.mk kp vp np lp) (r (.tmp 114)) := hd 114 (by kernel_rfl)
          exact sg_call (f := 30) (args := #[r (.tmp 114)]) rfl (by decide) (by go_simp) (made_pred (pany_any _ _ _ h114))
        · intro r W hc hf hs hd hB
          have hBV := HBV.out W hB
          refine want_g 10 113 rfl (by kernel_rfl) (hd 113 (by kernel_rfl) : r (.tmp 113) = .bool true) ?_
          have h115 : PIn W (tAn (PT.mk kp vp np lp)) (r (.tmp 115)) := hd 115 (by kernel_rfl)
          exact sg_call (f := 23) (args := #[r (.tmp 115)]) rfl (by decide) (by go_simp) (made_pred (pnot_any _ _ _ h115))
        · intro r W hc hf hs hd hB
          have hBV := HBV.out W hB
          refine want_g 10 113 rfl (by kernel_rfl) (hd 113 (by kernel_rfl) : r (.tmp 113) = .bool true) ?_
          have e : r (.tmp 5) = .pointer (some ⟨w1.heap.size, 0, none⟩) := hs 5 (of_decide_eq_true (by kernel_rfl))
          obtain ⟨qk, qn, qa, ql, qc, g0, g1, g2, hv⟩ := BoxV.below HBX.out hBV
          exact sg_value (v := .agg #[.int .u8 qk, .int .i64 qn, .slice qa ql qc]) rfl (by decide) (by go_simp) hv
        · intro r W hc hf hs hd hB
          have hBV := HBV.out W hB
          refine want_g 10 113 rfl (by kernel_rfl) (hd 113 (by kernel_rfl) : r (.tmp 113) = .bool true) ?_
          have h116 : PIn W (tN (tAn (PT.mk kp vp np lp))) (r (.tmp 116)) := hd 116 (by kernel_rfl)
          have h117 : VIn W (VT.mk xk xn xl) (r (.tmp 117)) := hd 117 (by kernel_rfl)
          exact sg_call (f := 15) (args := #[r (.tmp 116), r (.tmp 117)]) rfl (by decide) (by go_simp) (pholds_b H10.out HC.out.2.2.2.2.2.2.2.2.2.2.1 h116 h117)
        · intro r W hc hf hs hd hB
          have hBV := HBV.out W hB
          refine want_g 10 113 rfl (by kernel_rfl) (hd 113 (by kernel_rfl) : r (.tmp 113) = .bool true) ?_
          have e : r (.tmp 7) = .pointer (some ⟨b7, 0, none⟩) := hs 7 (of_decide_eq_true (by kernel_rfl))
          obtain ⟨qk, qvk, qvn, qva, qvl, qvc, qn, qa, ql, qc, g0, g1, g2, g3, g4, g5, hv⟩ := BoxP.below HBA.out hBV
          exact sg_value (v := .agg #[.int .u8 qk, .int .u8 qvk, .int .i64 qvn, .slice qva qvl qvc, .int .i64 qn, .slice qa ql qc]) rfl (by decide) (by go_simp) hv
        · intro r W hc hf hs hd hB
          have hBV := HBV.out W hB
          refine want_g 10 113 rfl (by kernel_rfl) (hd 113 (by kernel_rfl) : r (.tmp 113) = .bool true) ?_
          have h119 : PIn W (tN (PT.mk kp vp np lp)) (r (.tmp 119)) := hd 119 (by kernel_rfl)
          exact sg_call (f := 29) (args := #[r (.tmp 119)]) rfl (by decide) (by go_simp) (made_pred (pall_any _ _ _ h119))
        · intro r W hc hf hs hd hB
          have hBV := HBV.out W hB
          refine want_g 10 113 rfl (by kernel_rfl) (hd 113 (by kernel_rfl) : r (.tmp 113) = .bool true) ?_
          have e : r (.tmp 5) = .pointer (some ⟨w1.heap.size, 0, none⟩) := hs 5 (of_decide_eq_true (by kernel_rfl))
          obtain ⟨qk, qn, qa, ql, qc, g0, g1, g2, hv⟩ := BoxV.below HBX.out hBV
          exact sg_value (v := .agg #[.int .u8 qk, .int .i64 qn, .slice qa ql qc]) rfl (by decide) (by go_simp) hv
        · intro r W hc hf hs hd hB
          have hBV := HBV.out W hB
          refine want_g 10 113 rfl (by kernel_rfl) (hd 113 (by kernel_rfl) : r (.tmp 113) = .bool true) ?_
          have h120 : PIn W (tAl (tN (PT.mk kp vp np lp))) (r (.tmp 120)) := hd 120 (by kernel_rfl)
          have h121 : VIn W (VT.mk xk xn xl) (r (.tmp 121)) := hd 121 (by kernel_rfl)
          exact sg_call (f := 15) (args := #[r (.tmp 120), r (.tmp 121)]) rfl (by decide) (by go_simp) (pholds_b H10b.out HC.out.2.2.2.2.2.2.2.2.2.2.2 h120 h121)
        · intro r W hc hf hs hd hB
          have hBV := HBV.out W hB
          refine want_g 10 113 rfl (by kernel_rfl) (hd 113 (by kernel_rfl) : r (.tmp 113) = .bool true) ?_
          have e118 : r (.tmp 118) = (.bool b10) := hd 118 (by kernel_rfl)
          have e122 : r (.tmp 122) = (.bool b10) := hd 122 (by kernel_rfl)
          exact sg_value (v := (.bool true)) rfl (by decide) (by go_simp) rfl
        · intro r W hc hf hs hd hB
          have hBV := HBV.out W hB
          refine want_n rfl ?_
          have e113 : r (.tmp 113) = (.bool true) := hd 113 (by kernel_rfl)
          have e123 : r (.tmp 123) = (.bool true) := hd 123 (by kernel_rfl)
          exact sg_value (v := (.bool true)) rfl (by decide) (by go_simp) rfl
        · intro r W hc hf hs hd hB
          have hBV := HBV.out W hB
          refine want_n rfl ?_
          have e : r (.tmp 124) = (.bool true) := hd 124 (by kernel_rfl)
          exact sg_value (v := (.bool true)) rfl (by decide) (by go_simp) rfl
      intro f5 wC hfd hB5
      have z6 : f5 6 = .bool true := hfd 6 (of_decide_eq_true (by kernel_rfl))
      have mC := HBV.out wC hB5
      rw [show dstsTo _ _ = [103, 104, 105, 106, 107, 108, 109, 110, 111, 112, 113, 114, 115, 116, 117, 118, 119, 120, 121, 122, 123, 124, 6] from by kernel_rfl]
      simp only [fill, List.setIfInBounds_toArray, List.set_cons_succ, List.set_cons_zero, z6]
      clear hfd z6
      go_wp2_with fail
      go_ret
      exact ⟨rfl, hB.trans (mC.mono hB.size)⟩
    · have f3 : (xk != 3) = true := by rw [h4]; rfl
      have f4' : (xk != 4) = false := by rw [h4]; rfl
      clear h4
      go_wp2_with fail
      refine wp_region_all (kindP [(103, .pred (PT.mk kp vp np lp)), (104, .pred (tAl (PT.mk kp vp np lp))), (105, .pred (tN (tAl (PT.mk kp vp np lp)))), (106, .val (VT.mk xk xn xl)), (107, .fixed (.bool b9)), (108, .pred (tN (PT.mk kp vp np lp))), (109, .pred (tAn (tN (PT.mk kp vp np lp)))), (110, .val (VT.mk xk xn xl)), (111, .fixed (.bool b9)), (112, .fixed (.bool true)), (113, .fixed (.bool true)), (114, .pred (PT.mk kp vp np lp)), (115, .pred (tAn (PT.mk kp vp np lp))), (116, .pred (tN (tAn (PT.mk kp vp np lp)))), (117, .val (VT.mk xk xn xl)), (118, .fixed (.bool b10)), (119, .pred (tN (PT.mk kp vp np lp))), (120, .pred (tAl (tN (PT.mk kp vp np lp)))), (121, .val (VT.mk xk xn xl)), (122, .fixed (.bool b10)), (123, .fixed (.bool true)), (124, .fixed (.bool true)), (6, .fixed (.bool true))]) 125 (by kernel_rfl) (by kernel_rfl) (by rfl) (kindP_mono _) ?_ ?_
      · refine (fm ?_ (fm ?_ (fm ?_ (fm ?_ (fm ?_ (fm ?_ (fm ?_ (fm ?_ (fm ?_ (fm ?_ (fm ?_ (fm ?_ (fm ?_ (fm ?_ (fm ?_ (fm ?_ (fm ?_ (fm ?_ (fm ?_ (fm ?_ (fm ?_ (fm ?_ (fm ?_ fmnil)))))))))))))))))))))))
        · intro r W hc hf hs hd hB
          have hBV := HBV.out W hB
          refine want_n rfl ?_
          have e : r (.tmp 3) = .pointer (some ⟨w.heap.size, 0, none⟩) := hs 3 (of_decide_eq_true (by kernel_rfl))
          obtain ⟨qk, qvk, qvn, qva, qvl, qvc, qn, qa, ql, qc, g0, g1, g2, g3, g4, g5, hv⟩ := BoxP.below HBP.out hBV
          exact sg_value (v := .agg #[.int .u8 qk, .int .u8 qvk, .int .i64 qvn, .slice qva qvl qvc, .int .i64 qn, .slice qa ql qc]) rfl (by decide) (by go_simp) hv
        · intro r W hc hf hs hd hB
          have hBV := HBV.out W hB
          refine want_n rfl ?_
          have h103 : PIn W (PT.mk kp vp np lp) (r (.tmp 103)) := hd 103 (by kernel_rfl)
          exact sg_call (f := 29) (args := #[r (.tmp 103)]) rfl (by decide) (by go_simp) (made_pred (pall_any _ _ _ h103))
        · intro r W hc hf hs hd hB
          have hBV := HBV.out W hB
          refine want_n rfl ?_
          have h104 : PIn W (tAl (PT.mk kp vp np lp)) (r (.tmp 104)) := hd 104 (by kernel_rfl)
          exact sg_call (f := 23) (args := #[r (.tmp 104)]) rfl (by decide) (by go_simp) (made_pred (pnot_any _ _ _ h104))
        · intro r W hc hf hs hd hB
          have hBV := HBV.out W hB
          refine want_n rfl ?_
          have e : r (.tmp 5) = .pointer (some ⟨w1.heap.size, 0, none⟩) := hs 5 (of_decide_eq_true (by kernel_rfl))
          obtain ⟨qk, qn, qa, ql, qc, g0, g1, g2, hv⟩ := BoxV.below HBX.out hBV
          exact sg_value (v := .agg #[.int .u8 qk, .int .i64 qn, .slice qa ql qc]) rfl (by decide) (by go_simp) hv
        · intro r W hc hf hs hd hB
          have hBV := HBV.out W hB
          refine want_n rfl ?_
          have h105 : PIn W (tN (tAl (PT.mk kp vp np lp))) (r (.tmp 105)) := hd 105 (by kernel_rfl)
          have h106 : VIn W (VT.mk xk xn xl) (r (.tmp 106)) := hd 106 (by kernel_rfl)
          exact sg_call (f := 15) (args := #[r (.tmp 105), r (.tmp 106)]) rfl (by decide) (by go_simp) (pholds_b H9.out HC.out.2.2.2.2.2.2.2.2.1 h105 h106)
        · intro r W hc hf hs hd hB
          have hBV := HBV.out W hB
          refine want_n rfl ?_
          have e : r (.tmp 7) = .pointer (some ⟨b7, 0, none⟩) := hs 7 (of_decide_eq_true (by kernel_rfl))
          obtain ⟨qk, qvk, qvn, qva, qvl, qvc, qn, qa, ql, qc, g0, g1, g2, g3, g4, g5, hv⟩ := BoxP.below HBA.out hBV
          exact sg_value (v := .agg #[.int .u8 qk, .int .u8 qvk, .int .i64 qvn, .slice qva qvl qvc, .int .i64 qn, .slice qa ql qc]) rfl (by decide) (by go_simp) hv
        · intro r W hc hf hs hd hB
          have hBV := HBV.out W hB
          refine want_n rfl ?_
          have h108 : PIn W (tN (PT.mk kp vp np lp)) (r (.tmp 108)) := hd 108 (by kernel_rfl)
          exact sg_call (f := 30) (args := #[r (.tmp 108)]) rfl (by decide) (by go_simp) (made_pred (pany_any _ _ _ h108))
        · intro r W hc hf hs hd hB
          have hBV := HBV.out W hB
          refine want_n rfl ?_
          have e : r (.tmp 5) = .pointer (some ⟨w1.heap.size, 0, none⟩) := hs 5 (of_decide_eq_true (by kernel_rfl))
          obtain ⟨qk, qn, qa, ql, qc, g0, g1, g2, hv⟩ := BoxV.below HBX.out hBV
          exact sg_value (v := .agg #[.int .u8 qk, .int .i64 qn, .slice qa ql qc]) rfl (by decide) (by go_simp) hv
        · intro r W hc hf hs hd hB
          have hBV := HBV.out W hB
          refine want_n rfl ?_
          have h109 : PIn W (tAn (tN (PT.mk kp vp np lp))) (r (.tmp 109)) := hd 109 (by kernel_rfl)
          have h110 : VIn W (VT.mk xk xn xl) (r (.tmp 110)) := hd 110 (by kernel_rfl)
          exact sg_call (f := 15) (args := #[r (.tmp 109), r (.tmp 110)]) rfl (by decide) (by go_simp) (pholds_b H9b.out HC.out.2.2.2.2.2.2.2.2.2.1 h109 h110)
        · intro r W hc hf hs hd hB
          have hBV := HBV.out W hB
          refine want_n rfl ?_
          have e107 : r (.tmp 107) = (.bool b9) := hd 107 (by kernel_rfl)
          have e111 : r (.tmp 111) = (.bool b9) := hd 111 (by kernel_rfl)
          exact sg_value (v := (.bool true)) rfl (by decide) (by go_simp) rfl
        · intro r W hc hf hs hd hB
          have hBV := HBV.out W hB
          refine want_n rfl ?_
          have e : r (.tmp 112) = (.bool true) := hd 112 (by kernel_rfl)
          exact sg_value (v := (.bool true)) rfl (by decide) (by go_simp) rfl
        · intro r W hc hf hs hd hB
          have hBV := HBV.out W hB
          refine want_g 10 113 rfl (by kernel_rfl) (hd 113 (by kernel_rfl) : r (.tmp 113) = .bool true) ?_
          have e : r (.tmp 3) = .pointer (some ⟨w.heap.size, 0, none⟩) := hs 3 (of_decide_eq_true (by kernel_rfl))
          obtain ⟨qk, qvk, qvn, qva, qvl, qvc, qn, qa, ql, qc, g0, g1, g2, g3, g4, g5, hv⟩ := BoxP.below HBP.out hBV
          exact sg_value (v := .agg #[.int .u8 qk, .int .u8 qvk, .int .i64 qvn, .slice qva qvl qvc, .int .i64 qn, .slice qa ql qc]) rfl (by decide) (by go_simp) hv
        · intro r W hc hf hs hd hB
          have hBV := HBV.out W hB
          refine want_g 10 113 rfl (by kernel_rfl) (hd 113 (by kernel_rfl) : r (.tmp 113) = .bool true) ?_
          have h114 : PIn W (PT.mk kp vp np lp) (r (.tmp 114)) := hd 114 (by kernel_rfl)
          exact sg_call (f := 30) (args := #[r (.tmp 114)]) rfl (by decide) (by go_simp) (made_pred (pany_any _ _ _ h114))
        · intro r W hc hf hs hd hB
          have hBV := HBV.out W hB
          refine want_g 10 113 rfl (by kernel_rfl) (hd 113 (by kernel_rfl) : r (.tmp 113) = .bool true) ?_
          have h115 : PIn W (tAn (PT.mk kp vp np lp)) (r (.tmp 115)) := hd 115 (by kernel_rfl)
          exact sg_call (f := 23) (args := #[r (.tmp 115)]) rfl (by decide) (by go_simp) (made_pred (pnot_any _ _ _ h115))
        · intro r W hc hf hs hd hB
          have hBV := HBV.out W hB
          refine want_g 10 113 rfl (by kernel_rfl) (hd 113 (by kernel_rfl) : r (.tmp 113) = .bool true) ?_
          have e : r (.tmp 5) = .pointer (some ⟨w1.heap.size, 0, none⟩) := hs 5 (of_decide_eq_true (by kernel_rfl))
          obtain ⟨qk, qn, qa, ql, qc, g0, g1, g2, hv⟩ := BoxV.below HBX.out hBV
          exact sg_value (v := .agg #[.int .u8 qk, .int .i64 qn, .slice qa ql qc]) rfl (by decide) (by go_simp) hv
        · intro r W hc hf hs hd hB
          have hBV := HBV.out W hB
          refine want_g 10 113 rfl (by kernel_rfl) (hd 113 (by kernel_rfl) : r (.tmp 113) = .bool true) ?_
          have h116 : PIn W (tN (tAn (PT.mk kp vp np lp))) (r (.tmp 116)) := hd 116 (by kernel_rfl)
          have h117 : VIn W (VT.mk xk xn xl) (r (.tmp 117)) := hd 117 (by kernel_rfl)
          exact sg_call (f := 15) (args := #[r (.tmp 116), r (.tmp 117)]) rfl (by decide) (by go_simp) (pholds_b H10.out HC.out.2.2.2.2.2.2.2.2.2.2.1 h116 h117)
        · intro r W hc hf hs hd hB
          have hBV := HBV.out W hB
          refine want_g 10 113 rfl (by kernel_rfl) (hd 113 (by kernel_rfl) : r (.tmp 113) = .bool true) ?_
          have e : r (.tmp 7) = .pointer (some ⟨b7, 0, none⟩) := hs 7 (of_decide_eq_true (by kernel_rfl))
          obtain ⟨qk, qvk, qvn, qva, qvl, qvc, qn, qa, ql, qc, g0, g1, g2, g3, g4, g5, hv⟩ := BoxP.below HBA.out hBV
          exact sg_value (v := .agg #[.int .u8 qk, .int .u8 qvk, .int .i64 qvn, .slice qva qvl qvc, .int .i64 qn, .slice qa ql qc]) rfl (by decide) (by go_simp) hv
        · intro r W hc hf hs hd hB
          have hBV := HBV.out W hB
          refine want_g 10 113 rfl (by kernel_rfl) (hd 113 (by kernel_rfl) : r (.tmp 113) = .bool true) ?_
          have h119 : PIn W (tN (PT.mk kp vp np lp)) (r (.tmp 119)) := hd 119 (by kernel_rfl)
          exact sg_call (f := 29) (args := #[r (.tmp 119)]) rfl (by decide) (by go_simp) (made_pred (pall_any _ _ _ h119))
        · intro r W hc hf hs hd hB
          have hBV := HBV.out W hB
          refine want_g 10 113 rfl (by kernel_rfl) (hd 113 (by kernel_rfl) : r (.tmp 113) = .bool true) ?_
          have e : r (.tmp 5) = .pointer (some ⟨w1.heap.size, 0, none⟩) := hs 5 (of_decide_eq_true (by kernel_rfl))
          obtain ⟨qk, qn, qa, ql, qc, g0, g1, g2, hv⟩ := BoxV.below HBX.out hBV
          exact sg_value (v := .agg #[.int .u8 qk, .int .i64 qn, .slice qa ql qc]) rfl (by decide) (by go_simp) hv
        · intro r W hc hf hs hd hB
          have hBV := HBV.out W hB
          refine want_g 10 113 rfl (by kernel_rfl) (hd 113 (by kernel_rfl) : r (.tmp 113) = .bool true) ?_
          have h120 : PIn W (tAl (tN (PT.mk kp vp np lp))) (r (.tmp 120)) := hd 120 (by kernel_rfl)
          have h121 : VIn W (VT.mk xk xn xl) (r (.tmp 121)) := hd 121 (by kernel_rfl)
          exact sg_call (f := 15) (args := #[r (.tmp 120), r (.tmp 121)]) rfl (by decide) (by go_simp) (pholds_b H10b.out HC.out.2.2.2.2.2.2.2.2.2.2.2 h120 h121)
        · intro r W hc hf hs hd hB
          have hBV := HBV.out W hB
          refine want_g 10 113 rfl (by kernel_rfl) (hd 113 (by kernel_rfl) : r (.tmp 113) = .bool true) ?_
          have e118 : r (.tmp 118) = (.bool b10) := hd 118 (by kernel_rfl)
          have e122 : r (.tmp 122) = (.bool b10) := hd 122 (by kernel_rfl)
          exact sg_value (v := (.bool true)) rfl (by decide) (by go_simp) rfl
        · intro r W hc hf hs hd hB
          have hBV := HBV.out W hB
          refine want_n rfl ?_
          have e113 : r (.tmp 113) = (.bool true) := hd 113 (by kernel_rfl)
          have e123 : r (.tmp 123) = (.bool true) := hd 123 (by kernel_rfl)
          exact sg_value (v := (.bool true)) rfl (by decide) (by go_simp) rfl
        · intro r W hc hf hs hd hB
          have hBV := HBV.out W hB
          refine want_n rfl ?_
          have e : r (.tmp 124) = (.bool true) := hd 124 (by kernel_rfl)
          exact sg_value (v := (.bool true)) rfl (by decide) (by go_simp) rfl
      intro f5 wC hfd hB5
      have z6 : f5 6 = .bool true := hfd 6 (of_decide_eq_true (by kernel_rfl))
      have mC := HBV.out wC hB5
      rw [show dstsTo _ _ = [103, 104, 105, 106, 107, 108, 109, 110, 111, 112, 113, 114, 115, 116, 117, 118, 119, 120, 121, 122, 123, 124, 6] from by kernel_rfl]
      simp only [fill, List.setIfInBounds_toArray, List.set_cons_succ, List.set_cons_zero, z6]
      clear hfd z6
      go_wp2_with fail
      go_ret
      exact ⟨rfl, hB.trans (mC.mono hB.size)⟩
  · have f3 : (xk != 3) = true := by simp; omega
    have f4' : (xk != 4) = true := by simp; omega
    have hn := not_none (p := (PT.mk kp vp np lp)) (X := .mk xk xn xl) hrow
    have H7 := Lib.hid hn.1; have H8 := Lib.hid hn.2
    clear hn
    go_wp2_with fail
    refine wp_region_all (kindP [(91, .pred (PT.mk kp vp np lp)), (92, .pred (tAl (PT.mk kp vp np lp))), (93, .val (VT.mk xk xn xl)), (94, .fixed (.bool false)), (95, .fixed (.bool true)), (96, .fixed (.bool true)), (97, .pred (PT.mk kp vp np lp)), (98, .pred (tAn (PT.mk kp vp np lp))), (99, .val (VT.mk xk xn xl)), (100, .fixed (.bool false)), (101, .fixed (.bool true)), (102, .fixed (.bool true)), (6, .fixed (.bool true))]) 125 (by kernel_rfl) (by kernel_rfl) (by rfl) (kindP_mono _) ?_ ?_
    · refine (fm ?_ (fm ?_ (fm ?_ (fm ?_ (fm ?_ (fm ?_ (fm ?_ (fm ?_ (fm ?_ (fm ?_ (fm ?_ (fm ?_ (fm ?_ fmnil)))))))))))))
      · intro r W hc hf hs hd hB
        have hBV := HBV.out W hB
        refine want_n rfl ?_
        have e : r (.tmp 3) = .pointer (some ⟨w.heap.size, 0, none⟩) := hs 3 (of_decide_eq_true (by kernel_rfl))
        obtain ⟨qk, qvk, qvn, qva, qvl, qvc, qn, qa, ql, qc, g0, g1, g2, g3, g4, g5, hv⟩ := BoxP.below HBP.out hBV
        exact sg_value (v := .agg #[.int .u8 qk, .int .u8 qvk, .int .i64 qvn, .slice qva qvl qvc, .int .i64 qn, .slice qa ql qc]) rfl (by decide) (by go_simp) hv
      · intro r W hc hf hs hd hB
        have hBV := HBV.out W hB
        refine want_n rfl ?_
        have h91 : PIn W (PT.mk kp vp np lp) (r (.tmp 91)) := hd 91 (by kernel_rfl)
        exact sg_call (f := 29) (args := #[r (.tmp 91)]) rfl (by decide) (by go_simp) (made_pred (pall_any _ _ _ h91))
      · intro r W hc hf hs hd hB
        have hBV := HBV.out W hB
        refine want_n rfl ?_
        have e : r (.tmp 5) = .pointer (some ⟨w1.heap.size, 0, none⟩) := hs 5 (of_decide_eq_true (by kernel_rfl))
        obtain ⟨qk, qn, qa, ql, qc, g0, g1, g2, hv⟩ := BoxV.below HBX.out hBV
        exact sg_value (v := .agg #[.int .u8 qk, .int .i64 qn, .slice qa ql qc]) rfl (by decide) (by go_simp) hv
      · intro r W hc hf hs hd hB
        have hBV := HBV.out W hB
        refine want_n rfl ?_
        have h92 : PIn W (tAl (PT.mk kp vp np lp)) (r (.tmp 92)) := hd 92 (by kernel_rfl)
        have h93 : VIn W (VT.mk xk xn xl) (r (.tmp 93)) := hd 93 (by kernel_rfl)
        exact sg_call (f := 15) (args := #[r (.tmp 92), r (.tmp 93)]) rfl (by decide) (by go_simp) (pholds_b H7.out HC.out.2.2.2.2.2.2.1 h92 h93)
      · intro r W hc hf hs hd hB
        have hBV := HBV.out W hB
        refine want_n rfl ?_
        have e94 : r (.tmp 94) = (.bool false) := hd 94 (by kernel_rfl)
        exact sg_value (v := (.bool true)) rfl (by decide) (by go_simp) rfl
      · intro r W hc hf hs hd hB
        have hBV := HBV.out W hB
        refine want_n rfl ?_
        have e : r (.tmp 95) = (.bool true) := hd 95 (by kernel_rfl)
        exact sg_value (v := (.bool true)) rfl (by decide) (by go_simp) rfl
      · intro r W hc hf hs hd hB
        have hBV := HBV.out W hB
        refine want_g 5 96 rfl (by kernel_rfl) (hd 96 (by kernel_rfl) : r (.tmp 96) = .bool true) ?_
        have e : r (.tmp 3) = .pointer (some ⟨w.heap.size, 0, none⟩) := hs 3 (of_decide_eq_true (by kernel_rfl))
        obtain ⟨qk, qvk, qvn, qva, qvl, qvc, qn, qa, ql, qc, g0, g1, g2, g3, g4, g5, hv⟩ := BoxP.below HBP.out hBV
        exact sg_value (v := .agg #[.int .u8 qk, .int .u8 qvk, .int .i64 qvn, .slice qva qvl qvc, .int .i64 qn, .slice qa ql qc]) rfl (by decide) (by go_simp) hv
      · intro r W hc hf hs hd hB
        have hBV := HBV.out W hB
        refine want_g 5 96 rfl (by kernel_rfl) (hd 96 (by kernel_rfl) : r (.tmp 96) = .bool true) ?_
        have h97 : PIn W (PT.mk kp vp np lp) (r (.tmp 97)) := hd 97 (by kernel_rfl)
        exact sg_call (f := 30) (args := #[r (.tmp 97)]) rfl (by decide) (by go_simp) (made_pred (pany_any _ _ _ h97))
      · intro r W hc hf hs hd hB
        have hBV := HBV.out W hB
        refine want_g 5 96 rfl (by kernel_rfl) (hd 96 (by kernel_rfl) : r (.tmp 96) = .bool true) ?_
        have e : r (.tmp 5) = .pointer (some ⟨w1.heap.size, 0, none⟩) := hs 5 (of_decide_eq_true (by kernel_rfl))
        obtain ⟨qk, qn, qa, ql, qc, g0, g1, g2, hv⟩ := BoxV.below HBX.out hBV
        exact sg_value (v := .agg #[.int .u8 qk, .int .i64 qn, .slice qa ql qc]) rfl (by decide) (by go_simp) hv
      · intro r W hc hf hs hd hB
        have hBV := HBV.out W hB
        refine want_g 5 96 rfl (by kernel_rfl) (hd 96 (by kernel_rfl) : r (.tmp 96) = .bool true) ?_
        have h98 : PIn W (tAn (PT.mk kp vp np lp)) (r (.tmp 98)) := hd 98 (by kernel_rfl)
        have h99 : VIn W (VT.mk xk xn xl) (r (.tmp 99)) := hd 99 (by kernel_rfl)
        exact sg_call (f := 15) (args := #[r (.tmp 98), r (.tmp 99)]) rfl (by decide) (by go_simp) (pholds_b H8.out HC.out.2.2.2.2.2.2.2.1 h98 h99)
      · intro r W hc hf hs hd hB
        have hBV := HBV.out W hB
        refine want_g 5 96 rfl (by kernel_rfl) (hd 96 (by kernel_rfl) : r (.tmp 96) = .bool true) ?_
        have e100 : r (.tmp 100) = (.bool false) := hd 100 (by kernel_rfl)
        exact sg_value (v := (.bool true)) rfl (by decide) (by go_simp) rfl
      · intro r W hc hf hs hd hB
        have hBV := HBV.out W hB
        refine want_n rfl ?_
        have e96 : r (.tmp 96) = (.bool true) := hd 96 (by kernel_rfl)
        have e101 : r (.tmp 101) = (.bool true) := hd 101 (by kernel_rfl)
        exact sg_value (v := (.bool true)) rfl (by decide) (by go_simp) rfl
      · intro r W hc hf hs hd hB
        have hBV := HBV.out W hB
        refine want_n rfl ?_
        have e : r (.tmp 102) = (.bool true) := hd 102 (by kernel_rfl)
        exact sg_value (v := (.bool true)) rfl (by decide) (by go_simp) rfl
    intro f5 wC hfd hB5
    have z6 : f5 6 = .bool true := hfd 6 (of_decide_eq_true (by kernel_rfl))
    have mC := HBV.out wC hB5
    rw [show dstsTo _ _ = [91, 92, 93, 94, 95, 96, 97, 98, 99, 100, 101, 102, 6] from by kernel_rfl]
    simp only [fill, List.setIfInBounds_toArray, List.set_cons_succ, List.set_cons_zero, z6]
    clear hfd z6
    go_wp2_with fail
    go_ret
    exact ⟨rfl, hB.trans (mC.mono hB.size)⟩
end Go.Proofs.Ytclmnpfdnhfbmaa
