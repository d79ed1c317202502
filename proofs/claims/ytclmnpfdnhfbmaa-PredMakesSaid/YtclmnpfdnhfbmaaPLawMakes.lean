/- PredMakes: the walk of the law. -/
import Derived.Test.YtclmnpfdnhfbmaaPAwake
import Derived.Test.YtclmnpfdnhfbmaaPWeigh
import Derived.Test.YtclmnpfdnhfbmaaPMakesA
import Derived.Test.YtclmnpfdnhfbmaaPSame
import Derived.Deep.DeepCutAuto
namespace Go.Proofs.Ytclmnpfdnhfbmaa
open Go.RowKit

mutual
theorem PT.same_self : ∀ t : PT, PT.same t t = true
  | .mk k v n l => by rw [PT.same, VT.same_refl, PT.sameAll_self l]; simp
theorem PT.sameAll_self : ∀ l : List PT, PT.sameAll l l = true
  | [] => by rw [PT.sameAll]
  | t :: ts => by rw [PT.sameAll, PT.same_self t, PT.sameAll_self ts]; rfl
end
/-- what the makers make. -/
def wantL (p : PT) (v : VT) (l : List PT) (n : Int) : List PT := [.mk 1 vNone 0 [], .mk 2 vNone 0 [], .mk 3 v 0 [], .mk 4 v 0 [], .mk 5 vNone 0 [p], .mk 6 vNone 0 l, .mk 7 vNone 0 l, .mk 8 vNone n [p], .mk 9 vNone 0 [p], .mk 10 vNone 0 [p], .mk 11 vNone 0 [p], p]
set_option maxRecDepth 100000 in
set_option maxHeartbeats 8000000 in
theorem predMakes_any (p : PT) (x : Value) (l : List PT) (a : Option Addr) (cap : Nat) (X : VT) (y : Value) (n : Int) (w : World) (hx : PIn w p x) (hlen : l.length ≤ 1759218604390) (hr : PRow w l a) (hy : VIn w X y) :
    Calls Try.prog 5 #[x, .slice a l.length cap, y, .int .i64 n] w fun e w' => e = .returned (.bool true) ∧ Below w.heap.size w w' := by
  obtain ⟨kp, vp, np, lp⟩ := p
  obtain ⟨xk, xn, xl⟩ := X
  obtain ⟨va, vc, a', cap', hlen', hvl, rfl, -, -⟩ := hx.open
  obtain ⟨xa, xc, hxl, rfl, -⟩ := hy.open
  obtain ⟨w0, hw0, m0, -, q0, q1, q2, q3, q4, q5⟩ := box6 w (.int .u8 kp) (.int .u8 vp.kind) (.int .i64 vp.num) (.slice va vp.items.length vc) (.int .i64 np) (.slice a' lp.length cap') 27
  obtain ⟨w1, hw1, m1, -, p0, p1, p2, -⟩ := box3 w0 (.int .u8 xk) (.int .i64 xn) (.slice xa xl.length xc) 24
  have hB : Below w.heap.size w w1 := m0.trans (m1.mono m0.size)
  replace hx := hx.below hB
  replace hr := hr.below hB
  replace hy := hy.below hB
  replace q0 := cell_stays m1 q0
  replace q1 := cell_stays m1 q1
  replace q2 := cell_stays m1 q2
  replace q3 := cell_stays m1 q3
  replace q4 := cell_stays m1 q4
  replace q5 := cell_stays m1 q5
  clear m0 m1
  obtain ⟨L, hL⟩ : ∃ L, L = [PT.mk kp vp np lp] ++ l := ⟨_, rfl⟩
  obtain ⟨b, hb⟩ : ∃ b, b = PT.long L := ⟨_, rfl⟩
  obtain ⟨c, hc⟩ : ∃ c, c = VT.long [.mk xk xn xl] := ⟨_, rfl⟩
  have HB := Lib.hid hb; have HC := Lib.hid hc; clear hb hc
  obtain ⟨w2, hw2, m2, hs2, R2, r0, r1, r2, r3, r4, r5⟩ := box6r w1 (.int .u8 kp) (.int .u8 vp.kind) (.int .i64 vp.num) (.slice va vp.items.length vc) (.int .i64 np) (.slice a' lp.length cap') 27
  have hg : Grown w2 w1.heap.size 27 6 1 [.int .u8 kp, .int .u8 vp.kind, .int .i64 vp.num, .slice va vp.items.length vc, .int .i64 np, .slice a' lp.length cap'] (some ⟨w1.heap.size, 0, none⟩) 1 := ⟨rfl, by omega, .inr ⟨_, rfl, Nat.le_refl _, R2, fun j v hj => by
    rcases j with _ | _ | _ | _ | _ | _ | j
    · simp only [List.getElem?_cons_zero, Option.some.injEq] at hj; subst hj; exact r0
    · simp only [List.getElem?_cons_succ, List.getElem?_cons_zero, Option.some.injEq] at hj; subst hj; exact r1
    · simp only [List.getElem?_cons_succ, List.getElem?_cons_zero, Option.some.injEq] at hj; subst hj; exact r2
    · simp only [List.getElem?_cons_succ, List.getElem?_cons_zero, Option.some.injEq] at hj; subst hj; exact r3
    · simp only [List.getElem?_cons_succ, List.getElem?_cons_zero, Option.some.injEq] at hj; subst hj; exact r4
    · simp only [List.getElem?_cons_succ, List.getElem?_cons_zero, Option.some.injEq] at hj; subst hj; exact r5
    · simp at hj⟩⟩
  obtain ⟨a6, c6, w6, ys, hap, hg6, hi6, hb6⟩ := pappend (w00 := w1) cap m2.size hg (PIt.one hx) hr m2 (by omega)
  have m6 := m2.trans hb6
  rw [← hL] at hi6
  have hrow : PRow w6 L a6 := grown_prow (by rw [hL]; simp; omega) hg6 hi6 m6
  have HL := Lib.hid hL; clear hL
  have HAP := Lib.hid hap
  clear hg hap hg6 hi6 R2 r0 r1 r2 r3 r4 r5 hb6 m2 hs2
  go_enter Try.func5, Try.ntmps5
  go_wp2_with (at_builtin; refine wpList_append_run _ rfl _ _ _ rfl (.slice (some ⟨w1.heap.size, 0, none⟩) 1 1) (.slice a l.length cap) _ _ rfl rfl HAP.out ?_)
  have hlen1 : 1 + l.length = L.length := by rw [HL.out]; simp; omega
  rw [hlen1]
  refine (plong_big L _ _ _ (by rw [← hlen1]; omega) hrow).mono ?_
  rintro e w3 ⟨rfl, hb3⟩
  rw [← HB.out]
  have m3 := m6.trans (hb3.mono m6.size)
  replace q0 := cell_stays m3 q0
  replace q1 := cell_stays m3 q1
  replace q2 := cell_stays m3 q2
  replace q3 := cell_stays m3 q3
  replace q4 := cell_stays m3 q4
  replace q5 := cell_stays m3 q5
  replace p0 := cell_stays m3 p0
  replace p1 := cell_stays m3 p1
  replace p2 := cell_stays m3 p2
  replace hx := hx.below m3
  replace hr := hr.below m3
  replace hy := hy.below m3
  replace hB := hB.trans (m3.mono hB.size)
  clear hrow m6 hb3 m3 HAP hlen1
  cases b
  case true =>
    go_wp2_with fail
    refine (pawake_any _).mono ?_
    rintro e wz ⟨rfl, hbz⟩
    go_wp2_with fail
    go_ret
    exact ⟨rfl, hB.trans (hbz.mono hB.size)⟩
  case false =>
  have hsm := PT.not_long HB.out.symm
  rw [HL.out, List.singleton_append, PT.cnts, PT.fats] at hsm
  have HSM := Lib.hid hsm; clear hsm
  obtain ⟨w4, hw4, m4, -, r0, r1, r2, -⟩ := box3 w3 (.int .u8 xk) (.int .i64 xn) (.slice xa xl.length xc) 24
  have hrow : VRow w4 [.mk xk xn xl] (some ⟨w3.heap.size, 0, none⟩) := vrow_cons r0 r1 r2 (hy.below m4) vrow_nil
  clear r0 r1 r2
  go_wp2_with fail
  refine (long_any [.mk xk xn xl] _ 1 _ (by simp) hrow).mono ?_
  rintro e w5 ⟨rfl, hb5⟩
  rw [← HC.out]
  have m5 := m4.trans (hb5.mono m4.size)
  replace q0 := cell_stays m5 q0
  replace q1 := cell_stays m5 q1
  replace q2 := cell_stays m5 q2
  replace q3 := cell_stays m5 q3
  replace q4 := cell_stays m5 q4
  replace q5 := cell_stays m5 q5
  replace p0 := cell_stays m5 p0
  replace p1 := cell_stays m5 p1
  replace p2 := cell_stays m5 p2
  replace hx := hx.below m5
  replace hr := hr.below m5
  replace hy := hy.below m5
  replace hB := hB.trans (m5.mono hB.size)
  clear hrow m4 hb5 m5
  cases c
  case true =>
    go_wp2_with fail
    refine (pawake_any _).mono ?_
    rintro e wz ⟨rfl, hbz⟩
    go_wp2_with fail
    go_ret
    exact ⟨rfl, hB.trans (hbz.mono hB.size)⟩
  case false =>
  obtain ⟨w7, hw7, m7, -, r0, r1, r2, r3, r4, r5⟩ := box6 w5 (.int .u8 kp) (.int .u8 vp.kind) (.int .i64 vp.num) (.slice va vp.items.length vc) (.int .i64 np) (.slice a' lp.length cap') 27
  have hone : PRow w7 [.mk kp vp np lp] (some ⟨w5.heap.size, 0, none⟩) := prow_cons r0 r1 r2 r3 r4 r5 (hx.below m7) prow_nil
  clear r0 r1 r2 r3 r4 r5
  go_upto_region 4 with fail
  replace q0 := cell_stays m7 q0
  replace q1 := cell_stays m7 q1
  replace q2 := cell_stays m7 q2
  replace q3 := cell_stays m7 q3
  replace q4 := cell_stays m7 q4
  replace q5 := cell_stays m7 q5
  replace p0 := cell_stays m7 p0
  replace p1 := cell_stays m7 p1
  replace p2 := cell_stays m7 p2
  replace hx := hx.below m7
  replace hr := hr.below m7
  replace hy := hy.below m7
  replace hB := hB.trans (m7.mono hB.size)
  clear m7
  obtain ⟨w8, hw8, m8, hwant⟩ : ∃ w8, w7.alloc (.cells #[.int .u8 1, .int .u8 0, .int .i64 0, .slice none 0 0, .int .i64 0, .slice none 0 0, .int .u8 2, .int .u8 0, .int .i64 0, .slice none 0 0, .int .i64 0, .slice none 0 0, .int .u8 3, .int .u8 xk, .int .i64 xn, .slice xa xl.length xc, .int .i64 0, .slice none 0 0, .int .u8 4, .int .u8 xk, .int .i64 xn, .slice xa xl.length xc, .int .i64 0, .slice none 0 0, .int .u8 5, .int .u8 0, .int .i64 0, .slice none 0 0, .int .i64 0, .slice (some ⟨w5.heap.size, 0, none⟩) 1 1, .int .u8 6, .int .u8 0, .int .i64 0, .slice none 0 0, .int .i64 0, .slice a l.length cap, .int .u8 7, .int .u8 0, .int .i64 0, .slice none 0 0, .int .i64 0, .slice a l.length cap, .int .u8 8, .int .u8 0, .int .i64 0, .slice none 0 0, .int .i64 n, .slice (some ⟨w5.heap.size, 0, none⟩) 1 1, .int .u8 9, .int .u8 0, .int .i64 0, .slice none 0 0, .int .i64 0, .slice (some ⟨w5.heap.size, 0, none⟩) 1 1, .int .u8 10, .int .u8 0, .int .i64 0, .slice none 0 0, .int .i64 0, .slice (some ⟨w5.heap.size, 0, none⟩) 1 1, .int .u8 11, .int .u8 0, .int .i64 0, .slice none 0 0, .int .i64 0, .slice (some ⟨w5.heap.size, 0, none⟩) 1 1, .int .u8 kp, .int .u8 vp.kind, .int .i64 vp.num, .slice va vp.items.length vc, .int .i64 np, .slice a' lp.length cap'] 27) = w8 ∧ Below w7.heap.size w7 w8 ∧ PRow w8 (wantL (.mk kp vp np lp) (.mk xk xn xl) l n) (some ⟨w7.heap.size, 0, none⟩) := by
    refine ⟨_, rfl, Below.al _, ?_⟩
    have hx8 := hx.below (Below.al (w := w7) (.cells #[.int .u8 1, .int .u8 0, .int .i64 0, .slice none 0 0, .int .i64 0, .slice none 0 0, .int .u8 2, .int .u8 0, .int .i64 0, .slice none 0 0, .int .i64 0, .slice none 0 0, .int .u8 3, .int .u8 xk, .int .i64 xn, .slice xa xl.length xc, .int .i64 0, .slice none 0 0, .int .u8 4, .int .u8 xk, .int .i64 xn, .slice xa xl.length xc, .int .i64 0, .slice none 0 0, .int .u8 5, .int .u8 0, .int .i64 0, .slice none 0 0, .int .i64 0, .slice (some ⟨w5.heap.size, 0, none⟩) 1 1, .int .u8 6, .int .u8 0, .int .i64 0, .slice none 0 0, .int .i64 0, .slice a l.length cap, .int .u8 7, .int .u8 0, .int .i64 0, .slice none 0 0, .int .i64 0, .slice a l.length cap, .int .u8 8, .int .u8 0, .int .i64 0, .slice none 0 0, .int .i64 n, .slice (some ⟨w5.heap.size, 0, none⟩) 1 1, .int .u8 9, .int .u8 0, .int .i64 0, .slice none 0 0, .int .i64 0, .slice (some ⟨w5.heap.size, 0, none⟩) 1 1, .int .u8 10, .int .u8 0, .int .i64 0, .slice none 0 0, .int .i64 0, .slice (some ⟨w5.heap.size, 0, none⟩) 1 1, .int .u8 11, .int .u8 0, .int .i64 0, .slice none 0 0, .int .i64 0, .slice (some ⟨w5.heap.size, 0, none⟩) 1 1, .int .u8 kp, .int .u8 vp.kind, .int .i64 vp.num, .slice va vp.items.length vc, .int .i64 np, .slice a' lp.length cap'] 27))
    have hy8 := hy.below (Below.al (w := w7) (.cells #[.int .u8 1, .int .u8 0, .int .i64 0, .slice none 0 0, .int .i64 0, .slice none 0 0, .int .u8 2, .int .u8 0, .int .i64 0, .slice none 0 0, .int .i64 0, .slice none 0 0, .int .u8 3, .int .u8 xk, .int .i64 xn, .slice xa xl.length xc, .int .i64 0, .slice none 0 0, .int .u8 4, .int .u8 xk, .int .i64 xn, .slice xa xl.length xc, .int .i64 0, .slice none 0 0, .int .u8 5, .int .u8 0, .int .i64 0, .slice none 0 0, .int .i64 0, .slice (some ⟨w5.heap.size, 0, none⟩) 1 1, .int .u8 6, .int .u8 0, .int .i64 0, .slice none 0 0, .int .i64 0, .slice a l.length cap, .int .u8 7, .int .u8 0, .int .i64 0, .slice none 0 0, .int .i64 0, .slice a l.length cap, .int .u8 8, .int .u8 0, .int .i64 0, .slice none 0 0, .int .i64 n, .slice (some ⟨w5.heap.size, 0, none⟩) 1 1, .int .u8 9, .int .u8 0, .int .i64 0, .slice none 0 0, .int .i64 0, .slice (some ⟨w5.heap.size, 0, none⟩) 1 1, .int .u8 10, .int .u8 0, .int .i64 0, .slice none 0 0, .int .i64 0, .slice (some ⟨w5.heap.size, 0, none⟩) 1 1, .int .u8 11, .int .u8 0, .int .i64 0, .slice none 0 0, .int .i64 0, .slice (some ⟨w5.heap.size, 0, none⟩) 1 1, .int .u8 kp, .int .u8 vp.kind, .int .i64 vp.num, .slice va vp.items.length vc, .int .i64 np, .slice a' lp.length cap'] 27))
    have hr8 := hr.below (Below.al (w := w7) (.cells #[.int .u8 1, .int .u8 0, .int .i64 0, .slice none 0 0, .int .i64 0, .slice none 0 0, .int .u8 2, .int .u8 0, .int .i64 0, .slice none 0 0, .int .i64 0, .slice none 0 0, .int .u8 3, .int .u8 xk, .int .i64 xn, .slice xa xl.length xc, .int .i64 0, .slice none 0 0, .int .u8 4, .int .u8 xk, .int .i64 xn, .slice xa xl.length xc, .int .i64 0, .slice none 0 0, .int .u8 5, .int .u8 0, .int .i64 0, .slice none 0 0, .int .i64 0, .slice (some ⟨w5.heap.size, 0, none⟩) 1 1, .int .u8 6, .int .u8 0, .int .i64 0, .slice none 0 0, .int .i64 0, .slice a l.length cap, .int .u8 7, .int .u8 0, .int .i64 0, .slice none 0 0, .int .i64 0, .slice a l.length cap, .int .u8 8, .int .u8 0, .int .i64 0, .slice none 0 0, .int .i64 n, .slice (some ⟨w5.heap.size, 0, none⟩) 1 1, .int .u8 9, .int .u8 0, .int .i64 0, .slice none 0 0, .int .i64 0, .slice (some ⟨w5.heap.size, 0, none⟩) 1 1, .int .u8 10, .int .u8 0, .int .i64 0, .slice none 0 0, .int .i64 0, .slice (some ⟨w5.heap.size, 0, none⟩) 1 1, .int .u8 11, .int .u8 0, .int .i64 0, .slice none 0 0, .int .i64 0, .slice (some ⟨w5.heap.size, 0, none⟩) 1 1, .int .u8 kp, .int .u8 vp.kind, .int .i64 vp.num, .slice va vp.items.length vc, .int .i64 np, .slice a' lp.length cap'] 27))
    have hone8 := hone.below (Below.al (w := w7) (.cells #[.int .u8 1, .int .u8 0, .int .i64 0, .slice none 0 0, .int .i64 0, .slice none 0 0, .int .u8 2, .int .u8 0, .int .i64 0, .slice none 0 0, .int .i64 0, .slice none 0 0, .int .u8 3, .int .u8 xk, .int .i64 xn, .slice xa xl.length xc, .int .i64 0, .slice none 0 0, .int .u8 4, .int .u8 xk, .int .i64 xn, .slice xa xl.length xc, .int .i64 0, .slice none 0 0, .int .u8 5, .int .u8 0, .int .i64 0, .slice none 0 0, .int .i64 0, .slice (some ⟨w5.heap.size, 0, none⟩) 1 1, .int .u8 6, .int .u8 0, .int .i64 0, .slice none 0 0, .int .i64 0, .slice a l.length cap, .int .u8 7, .int .u8 0, .int .i64 0, .slice none 0 0, .int .i64 0, .slice a l.length cap, .int .u8 8, .int .u8 0, .int .i64 0, .slice none 0 0, .int .i64 n, .slice (some ⟨w5.heap.size, 0, none⟩) 1 1, .int .u8 9, .int .u8 0, .int .i64 0, .slice none 0 0, .int .i64 0, .slice (some ⟨w5.heap.size, 0, none⟩) 1 1, .int .u8 10, .int .u8 0, .int .i64 0, .slice none 0 0, .int .i64 0, .slice (some ⟨w5.heap.size, 0, none⟩) 1 1, .int .u8 11, .int .u8 0, .int .i64 0, .slice none 0 0, .int .i64 0, .slice (some ⟨w5.heap.size, 0, none⟩) 1 1, .int .u8 kp, .int .u8 vp.kind, .int .i64 vp.num, .slice va vp.items.length vc, .int .i64 np, .slice a' lp.length cap'] 27))
    unfold wantL vNone
    exact (prow_cons (v0 := .int .u8 1) (v1 := .int .u8 0) (v2 := .int .i64 0) (v3 := .slice none 0 0) (v4 := .int .i64 0) (v5 := .slice none 0 0) (by go_simp) (by go_simp) (by go_simp) (by go_simp) (by go_simp) (by go_simp) (PIn.shut (by simp) (VIn.leaf 0 0) prow_nil) (prow_cons (v0 := .int .u8 2) (v1 := .int .u8 0) (v2 := .int .i64 0) (v3 := .slice none 0 0) (v4 := .int .i64 0) (v5 := .slice none 0 0) (by go_simp) (by go_simp) (by go_simp) (by go_simp) (by go_simp) (by go_simp) (PIn.shut (by simp) (VIn.leaf 0 0) prow_nil) (prow_cons (v0 := .int .u8 3) (v1 := .int .u8 xk) (v2 := .int .i64 xn) (v3 := .slice xa xl.length xc) (v4 := .int .i64 0) (v5 := .slice none 0 0) (by go_simp) (by go_simp) (by go_simp) (by go_simp) (by go_simp) (by go_simp) (PIn.shut (by simp) hy8 prow_nil) (prow_cons (v0 := .int .u8 4) (v1 := .int .u8 xk) (v2 := .int .i64 xn) (v3 := .slice xa xl.length xc) (v4 := .int .i64 0) (v5 := .slice none 0 0) (by go_simp) (by go_simp) (by go_simp) (by go_simp) (by go_simp) (by go_simp) (PIn.shut (by simp) hy8 prow_nil) (prow_cons (v0 := .int .u8 5) (v1 := .int .u8 0) (v2 := .int .i64 0) (v3 := .slice none 0 0) (v4 := .int .i64 0) (v5 := .slice (some ⟨w5.heap.size, 0, none⟩) 1 1) (by go_simp) (by go_simp) (by go_simp) (by go_simp) (by go_simp) (by go_simp) (PIn.shut (l := [.mk kp vp np lp]) (by simp) (VIn.leaf 0 0) hone8) (prow_cons (v0 := .int .u8 6) (v1 := .int .u8 0) (v2 := .int .i64 0) (v3 := .slice none 0 0) (v4 := .int .i64 0) (v5 := .slice a l.length cap) (by go_simp) (by go_simp) (by go_simp) (by go_simp) (by go_simp) (by go_simp) (PIn.shut hlen (VIn.leaf 0 0) hr8) (prow_cons (v0 := .int .u8 7) (v1 := .int .u8 0) (v2 := .int .i64 0) (v3 := .slice none 0 0) (v4 := .int .i64 0) (v5 := .slice a l.length cap) (by go_simp) (by go_simp) (by go_simp) (by go_simp) (by go_simp) (by go_simp) (PIn.shut hlen (VIn.leaf 0 0) hr8) (prow_cons (v0 := .int .u8 8) (v1 := .int .u8 0) (v2 := .int .i64 0) (v3 := .slice none 0 0) (v4 := .int .i64 n) (v5 := .slice (some ⟨w5.heap.size, 0, none⟩) 1 1) (by go_simp) (by go_simp) (by go_simp) (by go_simp) (by go_simp) (by go_simp) (PIn.shut (l := [.mk kp vp np lp]) (by simp) (VIn.leaf 0 0) hone8) (prow_cons (v0 := .int .u8 9) (v1 := .int .u8 0) (v2 := .int .i64 0) (v3 := .slice none 0 0) (v4 := .int .i64 0) (v5 := .slice (some ⟨w5.heap.size, 0, none⟩) 1 1) (by go_simp) (by go_simp) (by go_simp) (by go_simp) (by go_simp) (by go_simp) (PIn.shut (l := [.mk kp vp np lp]) (by simp) (VIn.leaf 0 0) hone8) (prow_cons (v0 := .int .u8 10) (v1 := .int .u8 0) (v2 := .int .i64 0) (v3 := .slice none 0 0) (v4 := .int .i64 0) (v5 := .slice (some ⟨w5.heap.size, 0, none⟩) 1 1) (by go_simp) (by go_simp) (by go_simp) (by go_simp) (by go_simp) (by go_simp) (PIn.shut (l := [.mk kp vp np lp]) (by simp) (VIn.leaf 0 0) hone8) (prow_cons (v0 := .int .u8 11) (v1 := .int .u8 0) (v2 := .int .i64 0) (v3 := .slice none 0 0) (v4 := .int .i64 0) (v5 := .slice (some ⟨w5.heap.size, 0, none⟩) 1 1) (by go_simp) (by go_simp) (by go_simp) (by go_simp) (by go_simp) (by go_simp) (PIn.shut (l := [.mk kp vp np lp]) (by simp) (VIn.leaf 0 0) hone8) (prow_cons (v0 := .int .u8 kp) (v1 := .int .u8 vp.kind) (v2 := .int .i64 vp.num) (v3 := .slice va vp.items.length vc) (v4 := .int .i64 np) (v5 := .slice a' lp.length cap') (by go_simp) (by go_simp) (by go_simp) (by go_simp) (by go_simp) (by go_simp) hx8 prow_nil))))))))))))
  go_upto_region 5 with fail
  replace q0 := cell_stays m8 q0
  replace q1 := cell_stays m8 q1
  replace q2 := cell_stays m8 q2
  replace q3 := cell_stays m8 q3
  replace q4 := cell_stays m8 q4
  replace q5 := cell_stays m8 q5
  replace p0 := cell_stays m8 p0
  replace p1 := cell_stays m8 p1
  replace p2 := cell_stays m8 p2
  replace hx := hx.below m8
  replace hr := hr.below m8
  replace hy := hy.below m8
  replace hB := hB.trans (m8.mono hB.size)
  have HBP : Hid (BoxP w8 w.heap.size (PT.mk kp vp np lp)) := Lib.hid ⟨_, _, _, _, _, _, _, _, _, _, q0, q1, q2, q3, q4, q5, hx⟩
  have HBX : Hid (BoxV w8 w0.heap.size (VT.mk xk xn xl)) := Lib.hid ⟨_, _, _, _, _, p0, p1, p2, hy⟩
  have HR := Lib.hid hr
  have HWANT := Lib.hid hwant
  clear q0 q1 q2 q3 q4 q5 p0 p1 p2 hx hy hr hwant m8 hw8 hw0 hw1 hw2 hw4 hw7 hone HB HC HL
  go_wp2_with fail
  go_loopw [11] (fun x wr => ∃ rd : Nat, x = .int .i64 rd ∧ rd ≤ 2 ∧ Below w8.heap.size w8 wr) (fun x _ => 2 - (intOf x).toNat)
  case atStart => exact ⟨0, rfl, by omega, Below.refl _ _⟩
  case round =>
    obtain ⟨rd, rfl, hrd, hW⟩ := hrel
    rename World => wA
    by_cases hrdt : rd < 2
    · have hrdb : (rd : Int) < 2 := by omega
      replace HBP := Lib.hid (HBP.out.below hW)
      replace HBX := Lib.hid (HBX.out.below hW)
      replace HR := Lib.hid (HR.out.below hW)
      have HBV := Lib.hid (fun W (h : Below wA.drew.heap.size wA.drew W) => (Below.refl _ wA).drew.trans h)
      go_wp2_with fail
      refine wp_region_all (kindM wA.heap.size [(55, .made (PT.mk 1 vNone 0 [])), (56, .made (PT.mk 2 vNone 0 [])), (57, .val (VT.mk xk xn xl)), (58, .made (PT.mk 3 (VT.mk xk xn xl) 0 [])), (59, .val (VT.mk xk xn xl)), (60, .made (PT.mk 4 (VT.mk xk xn xl) 0 [])), (61, .pred (PT.mk kp vp np lp)), (62, .made (PT.mk 5 vNone 0 [(PT.mk kp vp np lp)])), (63, .rowl l), (64, .made (PT.mk 6 vNone 0 l)), (65, .rowl l), (66, .made (PT.mk 7 vNone 0 l)), (67, .fixed (.int .i64 n)), (68, .pred (PT.mk kp vp np lp)), (69, .made (PT.mk 8 vNone n [(PT.mk kp vp np lp)])), (70, .pred (PT.mk kp vp np lp)), (71, .made (PT.mk 9 vNone 0 [(PT.mk kp vp np lp)])), (72, .pred (PT.mk kp vp np lp)), (73, .made (PT.mk 10 vNone 0 [(PT.mk kp vp np lp)])), (74, .pred (PT.mk kp vp np lp)), (75, .made (PT.mk 11 vNone 0 [(PT.mk kp vp np lp)])), (76, .pred (PT.mk kp vp np lp)), (77, .made (PT.mk kp vp np lp)), (78, .mades (wantL (PT.mk kp vp np lp) (VT.mk xk xn xl) l n)), (12, .mades (wantL (PT.mk kp vp np lp) (VT.mk xk xn xl) l n))]) 107 (by kernel_rfl) (by kernel_rfl) (by rfl) (kindM_mono _ _) ?_ ?_
      · refine (fm ?_ (fm ?_ (fm ?_ (fm ?_ (fm ?_ (fm ?_ (fm ?_ (fm ?_ (fm ?_ (fm ?_ (fm ?_ (fm ?_ (fm ?_ (fm ?_ (fm ?_ (fm ?_ (fm ?_ (fm ?_ (fm ?_ (fm ?_ (fm ?_ (fm ?_ (fm ?_ (fm ?_ (fm ?_ fmnil)))))))))))))))))))))))))
        · intro r W hc hf hs hd hB
          have hBV := HBV.out W hB
          refine want_n rfl ?_
          have hlo : wA.heap.size ≤ W.heap.size := hBV.size
          exact sc_call (f := 25) (args := #[]) rfl (by decide) (by go_simp) (made_new hlo (pyes_any _))
        · intro r W hc hf hs hd hB
          have hBV := HBV.out W hB
          refine want_n rfl ?_
          have hlo : wA.heap.size ≤ W.heap.size := hBV.size
          exact sc_call (f := 26) (args := #[]) rfl (by decide) (by go_simp) (made_new hlo (pno_any _))
        · intro r W hc hf hs hd hB
          have hBV := HBV.out W hB
          refine want_n rfl ?_
          have e : r (.tmp 6) = .pointer (some ⟨w0.heap.size, 0, none⟩) := hs 6 (of_decide_eq_true (by kernel_rfl))
          obtain ⟨qk, qn, qa, ql, qc, g0, g1, g2, hv⟩ := BoxV.below HBX.out hBV
          exact sc_value (v := .agg #[.int .u8 qk, .int .i64 qn, .slice qa ql qc]) rfl (by decide) (by go_simp) hv
        · intro r W hc hf hs hd hB
          have hBV := HBV.out W hB
          refine want_n rfl ?_
          have hlo : wA.heap.size ≤ W.heap.size := hBV.size
          have h57 : VIn W (VT.mk xk xn xl) (r (.tmp 57)) := hd 57 (by kernel_rfl)
          exact sc_call (f := 20) (args := #[r (.tmp 57)]) rfl (by decide) (by go_simp) (made_new hlo (peq_any _ _ _ h57))
        · intro r W hc hf hs hd hB
          have hBV := HBV.out W hB
          refine want_n rfl ?_
          have e : r (.tmp 6) = .pointer (some ⟨w0.heap.size, 0, none⟩) := hs 6 (of_decide_eq_true (by kernel_rfl))
          obtain ⟨qk, qn, qa, ql, qc, g0, g1, g2, hv⟩ := BoxV.below HBX.out hBV
          exact sc_value (v := .agg #[.int .u8 qk, .int .i64 qn, .slice qa ql qc]) rfl (by decide) (by go_simp) hv
        · intro r W hc hf hs hd hB
          have hBV := HBV.out W hB
          refine want_n rfl ?_
          have hlo : wA.heap.size ≤ W.heap.size := hBV.size
          have h59 : VIn W (VT.mk xk xn xl) (r (.tmp 59)) := hd 59 (by kernel_rfl)
          exact sc_call (f := 19) (args := #[r (.tmp 59)]) rfl (by decide) (by go_simp) (made_new hlo (pless_any _ _ _ h59))
        · intro r W hc hf hs hd hB
          have hBV := HBV.out W hB
          refine want_n rfl ?_
          have e : r (.tmp 4) = .pointer (some ⟨w.heap.size, 0, none⟩) := hs 4 (of_decide_eq_true (by kernel_rfl))
          obtain ⟨qk, qvk, qvn, qva, qvl, qvc, qn, qa, ql, qc, g0, g1, g2, g3, g4, g5, hv⟩ := BoxP.below HBP.out hBV
          exact sc_value (v := .agg #[.int .u8 qk, .int .u8 qvk, .int .i64 qvn, .slice qva qvl qvc, .int .i64 qn, .slice qa ql qc]) rfl (by decide) (by go_simp) hv
        · intro r W hc hf hs hd hB
          have hBV := HBV.out W hB
          refine want_n rfl ?_
          have hlo : wA.heap.size ≤ W.heap.size := hBV.size
          have h61 : PIn W (PT.mk kp vp np lp) (r (.tmp 61)) := hd 61 (by kernel_rfl)
          exact sc_call (f := 23) (args := #[r (.tmp 61)]) rfl (by decide) (by go_simp) (made_new hlo (pnot_any _ _ _ h61))
        · intro r W hc hf hs hd hB
          have hBV := HBV.out W hB
          refine want_n rfl ?_
          have e : r (.tmp 1) = .slice a l.length cap := hs 1 (of_decide_eq_true (by kernel_rfl))
          exact sc_value (v := .slice a l.length cap) rfl (by decide) (by go_simp) ⟨_, _, _, rfl, rfl, HR.out.below hBV⟩
        · intro r W hc hf hs hd hB
          have hBV := HBV.out W hB
          refine want_n rfl ?_
          have hlo : wA.heap.size ≤ W.heap.size := hBV.size
          obtain ⟨qa, qn, qc, e, hqn, hqr⟩ : PM.ok wA.heap.size (.rowl l) (r (.tmp 63)) W := hd 63 (by kernel_rfl)
          subst hqn
          exact sc_call (f := 27) (args := #[.slice qa l.length qc]) rfl (by decide) (by go_simp) (made_new hlo (pand_any l _ _ _ hlen hqr))
        · intro r W hc hf hs hd hB
          have hBV := HBV.out W hB
          refine want_n rfl ?_
          have e : r (.tmp 1) = .slice a l.length cap := hs 1 (of_decide_eq_true (by kernel_rfl))
          exact sc_value (v := .slice a l.length cap) rfl (by decide) (by go_simp) ⟨_, _, _, rfl, rfl, HR.out.below hBV⟩
        · intro r W hc hf hs hd hB
          have hBV := HBV.out W hB
          refine want_n rfl ?_
          have hlo : wA.heap.size ≤ W.heap.size := hBV.size
          obtain ⟨qa, qn, qc, e, hqn, hqr⟩ : PM.ok wA.heap.size (.rowl l) (r (.tmp 65)) W := hd 65 (by kernel_rfl)
          subst hqn
          exact sc_call (f := 24) (args := #[.slice qa l.length qc]) rfl (by decide) (by go_simp) (made_new hlo (por_any l _ _ _ hlen hqr))
        · intro r W hc hf hs hd hB
          have hBV := HBV.out W hB
          refine want_n rfl ?_
          have e : r (.tmp 3) = .int .i64 n := hs 3 (of_decide_eq_true (by kernel_rfl))
          exact sc_value (v := .int .i64 n) rfl (by decide) (by go_simp) rfl
        · intro r W hc hf hs hd hB
          have hBV := HBV.out W hB
          refine want_n rfl ?_
          have e : r (.tmp 4) = .pointer (some ⟨w.heap.size, 0, none⟩) := hs 4 (of_decide_eq_true (by kernel_rfl))
          obtain ⟨qk, qvk, qvn, qva, qvl, qvc, qn, qa, ql, qc, g0, g1, g2, g3, g4, g5, hv⟩ := BoxP.below HBP.out hBV
          exact sc_value (v := .agg #[.int .u8 qk, .int .u8 qvk, .int .i64 qvn, .slice qva qvl qvc, .int .i64 qn, .slice qa ql qc]) rfl (by decide) (by go_simp) hv
        · intro r W hc hf hs hd hB
          have hBV := HBV.out W hB
          refine want_n rfl ?_
          have hlo : wA.heap.size ≤ W.heap.size := hBV.size
          have h67 : r (.tmp 67) = .int .i64 n := hd 67 (by kernel_rfl)
          have h68 : PIn W (PT.mk kp vp np lp) (r (.tmp 68)) := hd 68 (by kernel_rfl)
          exact sc_call (f := 28) (args := #[.int .i64 n, r (.tmp 68)]) rfl (by decide) (by go_simp) (made_new hlo (pat_any n _ _ _ h68))
        · intro r W hc hf hs hd hB
          have hBV := HBV.out W hB
          refine want_n rfl ?_
          have e : r (.tmp 4) = .pointer (some ⟨w.heap.size, 0, none⟩) := hs 4 (of_decide_eq_true (by kernel_rfl))
          obtain ⟨qk, qvk, qvn, qva, qvl, qvc, qn, qa, ql, qc, g0, g1, g2, g3, g4, g5, hv⟩ := BoxP.below HBP.out hBV
          exact sc_value (v := .agg #[.int .u8 qk, .int .u8 qvk, .int .i64 qvn, .slice qva qvl qvc, .int .i64 qn, .slice qa ql qc]) rfl (by decide) (by go_simp) hv
        · intro r W hc hf hs hd hB
          have hBV := HBV.out W hB
          refine want_n rfl ?_
          have hlo : wA.heap.size ≤ W.heap.size := hBV.size
          have h70 : PIn W (PT.mk kp vp np lp) (r (.tmp 70)) := hd 70 (by kernel_rfl)
          exact sc_call (f := 29) (args := #[r (.tmp 70)]) rfl (by decide) (by go_simp) (made_new hlo (pall_any _ _ _ h70))
        · intro r W hc hf hs hd hB
          have hBV := HBV.out W hB
          refine want_n rfl ?_
          have e : r (.tmp 4) = .pointer (some ⟨w.heap.size, 0, none⟩) := hs 4 (of_decide_eq_true (by kernel_rfl))
          obtain ⟨qk, qvk, qvn, qva, qvl, qvc, qn, qa, ql, qc, g0, g1, g2, g3, g4, g5, hv⟩ := BoxP.below HBP.out hBV
          exact sc_value (v := .agg #[.int .u8 qk, .int .u8 qvk, .int .i64 qvn, .slice qva qvl qvc, .int .i64 qn, .slice qa ql qc]) rfl (by decide) (by go_simp) hv
        · intro r W hc hf hs hd hB
          have hBV := HBV.out W hB
          refine want_n rfl ?_
          have hlo : wA.heap.size ≤ W.heap.size := hBV.size
          have h72 : PIn W (PT.mk kp vp np lp) (r (.tmp 72)) := hd 72 (by kernel_rfl)
          exact sc_call (f := 30) (args := #[r (.tmp 72)]) rfl (by decide) (by go_simp) (made_new hlo (pany_any _ _ _ h72))
        · intro r W hc hf hs hd hB
          have hBV := HBV.out W hB
          refine want_n rfl ?_
          have e : r (.tmp 4) = .pointer (some ⟨w.heap.size, 0, none⟩) := hs 4 (of_decide_eq_true (by kernel_rfl))
          obtain ⟨qk, qvk, qvn, qva, qvl, qvc, qn, qa, ql, qc, g0, g1, g2, g3, g4, g5, hv⟩ := BoxP.below HBP.out hBV
          exact sc_value (v := .agg #[.int .u8 qk, .int .u8 qvk, .int .i64 qvn, .slice qva qvl qvc, .int .i64 qn, .slice qa ql qc]) rfl (by decide) (by go_simp) hv
        · intro r W hc hf hs hd hB
          have hBV := HBV.out W hB
          refine want_n rfl ?_
          have hlo : wA.heap.size ≤ W.heap.size := hBV.size
          have h74 : PIn W (PT.mk kp vp np lp) (r (.tmp 74)) := hd 74 (by kernel_rfl)
          exact sc_call (f := 31) (args := #[r (.tmp 74)]) rfl (by decide) (by go_simp) (made_new hlo (plen_any _ _ _ h74))
        · intro r W hc hf hs hd hB
          have hBV := HBV.out W hB
          refine want_n rfl ?_
          have e : r (.tmp 4) = .pointer (some ⟨w.heap.size, 0, none⟩) := hs 4 (of_decide_eq_true (by kernel_rfl))
          obtain ⟨qk, qvk, qvn, qva, qvl, qvc, qn, qa, ql, qc, g0, g1, g2, g3, g4, g5, hv⟩ := BoxP.below HBP.out hBV
          exact sc_value (v := .agg #[.int .u8 qk, .int .u8 qvk, .int .i64 qvn, .slice qva qvl qvc, .int .i64 qn, .slice qa ql qc]) rfl (by decide) (by go_simp) hv
        · intro r W hc hf hs hd hB
          have hBV := HBV.out W hB
          refine want_n rfl ?_
          have hlo : wA.heap.size ≤ W.heap.size := hBV.size
          have h76 : PIn W (PT.mk kp vp np lp) (r (.tmp 76)) := hd 76 (by kernel_rfl)
          exact sc_call (f := 32) (args := #[r (.tmp 76)]) rfl (by decide) (by go_simp) (made_new hlo (pcopy_any _ _ _ _ (Nat.le_refl _) h76))
        · intro r W hc hf hs hd hB
          have hBV := HBV.out W hB
          refine want_n rfl ?_
          have m55 : Made wA.heap.size (PT.mk 1 vNone 0 []) (r (.tmp 55)) W := hd 55 (by kernel_rfl)
          obtain ⟨k55, vk55, vn55, va55, vl55, vc55, n55, a55, l55, c55, e55⟩ := m55.agg
          rw [e55] at m55
          have m56 : Made wA.heap.size (PT.mk 2 vNone 0 []) (r (.tmp 56)) W := hd 56 (by kernel_rfl)
          obtain ⟨k56, vk56, vn56, va56, vl56, vc56, n56, a56, l56, c56, e56⟩ := m56.agg
          rw [e56] at m56
          have m58 : Made wA.heap.size (PT.mk 3 (VT.mk xk xn xl) 0 []) (r (.tmp 58)) W := hd 58 (by kernel_rfl)
          obtain ⟨k58, vk58, vn58, va58, vl58, vc58, n58, a58, l58, c58, e58⟩ := m58.agg
          rw [e58] at m58
          have m60 : Made wA.heap.size (PT.mk 4 (VT.mk xk xn xl) 0 []) (r (.tmp 60)) W := hd 60 (by kernel_rfl)
          obtain ⟨k60, vk60, vn60, va60, vl60, vc60, n60, a60, l60, c60, e60⟩ := m60.agg
          rw [e60] at m60
          have m62 : Made wA.heap.size (PT.mk 5 vNone 0 [(PT.mk kp vp np lp)]) (r (.tmp 62)) W := hd 62 (by kernel_rfl)
          obtain ⟨k62, vk62, vn62, va62, vl62, vc62, n62, a62, l62, c62, e62⟩ := m62.agg
          rw [e62] at m62
          have m64 : Made wA.heap.size (PT.mk 6 vNone 0 l) (r (.tmp 64)) W := hd 64 (by kernel_rfl)
          obtain ⟨k64, vk64, vn64, va64, vl64, vc64, n64, a64, l64, c64, e64⟩ := m64.agg
          rw [e64] at m64
          have m66 : Made wA.heap.size (PT.mk 7 vNone 0 l) (r (.tmp 66)) W := hd 66 (by kernel_rfl)
          obtain ⟨k66, vk66, vn66, va66, vl66, vc66, n66, a66, l66, c66, e66⟩ := m66.agg
          rw [e66] at m66
          have m69 : Made wA.heap.size (PT.mk 8 vNone n [(PT.mk kp vp np lp)]) (r (.tmp 69)) W := hd 69 (by kernel_rfl)
          obtain ⟨k69, vk69, vn69, va69, vl69, vc69, n69, a69, l69, c69, e69⟩ := m69.agg
          rw [e69] at m69
          have m71 : Made wA.heap.size (PT.mk 9 vNone 0 [(PT.mk kp vp np lp)]) (r (.tmp 71)) W := hd 71 (by kernel_rfl)
          obtain ⟨k71, vk71, vn71, va71, vl71, vc71, n71, a71, l71, c71, e71⟩ := m71.agg
          rw [e71] at m71
          have m73 : Made wA.heap.size (PT.mk 10 vNone 0 [(PT.mk kp vp np lp)]) (r (.tmp 73)) W := hd 73 (by kernel_rfl)
          obtain ⟨k73, vk73, vn73, va73, vl73, vc73, n73, a73, l73, c73, e73⟩ := m73.agg
          rw [e73] at m73
          have m75 : Made wA.heap.size (PT.mk 11 vNone 0 [(PT.mk kp vp np lp)]) (r (.tmp 75)) W := hd 75 (by kernel_rfl)
          obtain ⟨k75, vk75, vn75, va75, vl75, vc75, n75, a75, l75, c75, e75⟩ := m75.agg
          rw [e75] at m75
          have m77 : Made wA.heap.size (PT.mk kp vp np lp) (r (.tmp 77)) W := hd 77 (by kernel_rfl)
          obtain ⟨k77, vk77, vn77, va77, vl77, vc77, n77, a77, l77, c77, e77⟩ := m77.agg
          rw [e77] at m77
          refine sc_new (v := .slice (some ⟨W.heap.size, 0, none⟩) 12 12) (w' := W.alloc (.cells #[.int .u8 k55, .int .u8 vk55, .int .i64 vn55, .slice va55 vl55 vc55, .int .i64 n55, .slice a55 l55 c55, .int .u8 k56, .int .u8 vk56, .int .i64 vn56, .slice va56 vl56 vc56, .int .i64 n56, .slice a56 l56 c56, .int .u8 k58, .int .u8 vk58, .int .i64 vn58, .slice va58 vl58 vc58, .int .i64 n58, .slice a58 l58 c58, .int .u8 k60, .int .u8 vk60, .int .i64 vn60, .slice va60 vl60 vc60, .int .i64 n60, .slice a60 l60 c60, .int .u8 k62, .int .u8 vk62, .int .i64 vn62, .slice va62 vl62 vc62, .int .i64 n62, .slice a62 l62 c62, .int .u8 k64, .int .u8 vk64, .int .i64 vn64, .slice va64 vl64 vc64, .int .i64 n64, .slice a64 l64 c64, .int .u8 k66, .int .u8 vk66, .int .i64 vn66, .slice va66 vl66 vc66, .int .i64 n66, .slice a66 l66 c66, .int .u8 k69, .int .u8 vk69, .int .i64 vn69, .slice va69 vl69 vc69, .int .i64 n69, .slice a69 l69 c69, .int .u8 k71, .int .u8 vk71, .int .i64 vn71, .slice va71 vl71 vc71, .int .i64 n71, .slice a71 l71 c71, .int .u8 k73, .int .u8 vk73, .int .i64 vn73, .slice va73 vl73 vc73, .int .i64 n73, .slice a73 l73 c73, .int .u8 k75, .int .u8 vk75, .int .i64 vn75, .slice va75 vl75 vc75, .int .i64 n75, .slice a75 l75 c75, .int .u8 k77, .int .u8 vk77, .int .i64 vn77, .slice va77 vl77 vc77, .int .i64 n77, .slice a77 l77 c77] 27)) rfl (by decide) (by go_simp) (Below.al _) ⟨W.heap.size, W.heap.size, rfl, hBV.size, Nat.le_refl _, by simp, fun i hi => ?_⟩
          replace hi : i < 12 := hi
          rcases (by omega : i = 0 ∨ i = 1 ∨ i = 2 ∨ i = 3 ∨ i = 4 ∨ i = 5 ∨ i = 6 ∨ i = 7 ∨ i = 8 ∨ i = 9 ∨ i = 10 ∨ i = 11) with rfl | rfl | rfl | rfl | rfl | rfl | rfl | rfl | rfl | rfl | rfl | rfl
          · exact ⟨k55, vk55, vn55, va55, vl55, vc55, n55, a55, l55, c55, ⟨by go_simp, by go_simp, by go_simp, by go_simp, by go_simp, by go_simp⟩, m55.1.below (Below.al _), m55.2.below (Below.al _)⟩
          · exact ⟨k56, vk56, vn56, va56, vl56, vc56, n56, a56, l56, c56, ⟨by go_simp, by go_simp, by go_simp, by go_simp, by go_simp, by go_simp⟩, m56.1.below (Below.al _), m56.2.below (Below.al _)⟩
          · exact ⟨k58, vk58, vn58, va58, vl58, vc58, n58, a58, l58, c58, ⟨by go_simp, by go_simp, by go_simp, by go_simp, by go_simp, by go_simp⟩, m58.1.below (Below.al _), m58.2.below (Below.al _)⟩
          · exact ⟨k60, vk60, vn60, va60, vl60, vc60, n60, a60, l60, c60, ⟨by go_simp, by go_simp, by go_simp, by go_simp, by go_simp, by go_simp⟩, m60.1.below (Below.al _), m60.2.below (Below.al _)⟩
          · exact ⟨k62, vk62, vn62, va62, vl62, vc62, n62, a62, l62, c62, ⟨by go_simp, by go_simp, by go_simp, by go_simp, by go_simp, by go_simp⟩, m62.1.below (Below.al _), m62.2.below (Below.al _)⟩
          · exact ⟨k64, vk64, vn64, va64, vl64, vc64, n64, a64, l64, c64, ⟨by go_simp, by go_simp, by go_simp, by go_simp, by go_simp, by go_simp⟩, m64.1.below (Below.al _), m64.2.below (Below.al _)⟩
          · exact ⟨k66, vk66, vn66, va66, vl66, vc66, n66, a66, l66, c66, ⟨by go_simp, by go_simp, by go_simp, by go_simp, by go_simp, by go_simp⟩, m66.1.below (Below.al _), m66.2.below (Below.al _)⟩
          · exact ⟨k69, vk69, vn69, va69, vl69, vc69, n69, a69, l69, c69, ⟨by go_simp, by go_simp, by go_simp, by go_simp, by go_simp, by go_simp⟩, m69.1.below (Below.al _), m69.2.below (Below.al _)⟩
          · exact ⟨k71, vk71, vn71, va71, vl71, vc71, n71, a71, l71, c71, ⟨by go_simp, by go_simp, by go_simp, by go_simp, by go_simp, by go_simp⟩, m71.1.below (Below.al _), m71.2.below (Below.al _)⟩
          · exact ⟨k73, vk73, vn73, va73, vl73, vc73, n73, a73, l73, c73, ⟨by go_simp, by go_simp, by go_simp, by go_simp, by go_simp, by go_simp⟩, m73.1.below (Below.al _), m73.2.below (Below.al _)⟩
          · exact ⟨k75, vk75, vn75, va75, vl75, vc75, n75, a75, l75, c75, ⟨by go_simp, by go_simp, by go_simp, by go_simp, by go_simp, by go_simp⟩, m75.1.below (Below.al _), m75.2.below (Below.al _)⟩
          · exact ⟨k77, vk77, vn77, va77, vl77, vc77, n77, a77, l77, c77, ⟨by go_simp, by go_simp, by go_simp, by go_simp, by go_simp, by go_simp⟩, m77.1.below (Below.al _), m77.2.below (Below.al _)⟩
        · intro r W hc hf hs hd hB
          have hBV := HBV.out W hB
          refine want_n rfl ?_
          have h : MadeRow wA.heap.size (wantL (PT.mk kp vp np lp) (VT.mk xk xn xl) l n) (r (.tmp 78)) W := hd 78 (by kernel_rfl)
          exact sc_value (v := r (.tmp 78)) rfl (by decide) (by go_simp) h
      intro f wB hfd hB5
      obtain ⟨g, hi, z12, h1, h2, h3, hgot⟩ : MadeRow wA.heap.size (wantL (.mk kp vp np lp) (.mk xk xn xl) l n) (f 12) wB := hfd 12 (of_decide_eq_true (by kernel_rfl))
      replace z12 : f 12 = .slice (some ⟨g, 0, none⟩) 12 12 := z12
      have mB := HBV.out wB hB5
      have HGOT := Lib.hid hgot
      rw [show dstsTo _ _ = [55, 56, 57, 58, 59, 60, 61, 62, 63, 64, 65, 66, 67, 68, 69, 70, 71, 72, 73, 74, 75, 76, 77, 78, 12] from by kernel_rfl]
      simp only [fill, List.setIfInBounds_toArray, List.set_cons_succ, List.set_cons_zero, z12]
      clear hfd z12 hB5 HBV HBP HBX HR hgot
      go_wp2_with fail
      go_loopw [13] (fun x wr => ∃ i : Nat, x = .int .i64 i ∧ i ≤ 12 ∧ Below wB.heap.size wB wr) (fun x _ => 12 - (intOf x).toNat)
      case atStart => exact ⟨0, rfl, by omega, Below.refl _ _⟩
      case round =>
        obtain ⟨i, rfl, hi', hV⟩ := hrel
        rename World => wV
        by_cases hit : i < 12
        · have hib : (i : Int) < 12 := by omega
          have hi12 : i < (wantL (.mk kp vp np lp) (.mk xk xn xl) l n).length := hit
          have hWV := hW.trans ((mB.trans (hV.mono mB.size)).mono hW.size)
          obtain ⟨k0, vk0, vn0, va0, vl0, vc0, n0, a0, len0, cap0, ⟨c0, c1, c2, c3, c4, c5⟩, hp, -⟩ := HGOT.out i hi12
          obtain ⟨b', o', he', bva, bvc, ba, bcap, d0, d1, d2, d3, d4, d5, hq⟩ := (HWANT.out.below hWV).got i hi12
          cases he'
          simp only [Nat.zero_add] at d0 d1 d2 d3 d4 d5
          obtain ⟨u, hu⟩ : ∃ u, u = (wantL (.mk kp vp np lp) (.mk xk xn xl) l n)[i] := ⟨_, rfl⟩
          rw [← hu] at hp d0 d1 d2 d3 d4 d5 hq
          replace c0 := cell_stays hV c0
          replace c1 := cell_stays hV c1
          replace c2 := cell_stays hV c2
          replace c3 := cell_stays hV c3
          replace c4 := cell_stays hV c4
          replace c5 := cell_stays hV c5
          replace hp := hp.below hV
          have hsame := PT.same_self u
          clear hu hWV hi12
          go_wp2_with fail
          refine region_tail 8 (by kernel_rfl) (by kernel_rfl) ?_
          simp only [List.take_succ_cons, List.take_zero, List.drop_succ_cons, List.drop_zero]
          repeat still_step
          refine wpStill_nil ?_
          go_wp2_with fail
          refine (rpsame_any _ u u _ _ _ (Nat.le_refl _) (hp.below (Below.refl _ _).drew) (hq.below (Below.refl _ _).drew)).mono ?_
          rintro e wn ⟨rfl, hbn⟩
          rw [hsame]
          replace hV := hV.trans (((Below.refl _ _).drew.trans hbn).mono hV.size)
          clear hsame hbn hp hq c0 c1 c2 c3 c4 c5 d0 d1 d2 d3 d4 d5
          go_wp2_with fail
          go_roundw
          case rel => exact ⟨i + 1, by go_num, by omega, hV⟩
          case measure => simp [intOf]; omega
        · have hib : ¬ (i : Int) < 12 := by omega
          have hAV := mB.trans (hV.mono mB.size)
          go_wp2_with fail
          go_loopw [14] (fun x wr => ∃ i : Nat, x = .int .i64 i ∧ i ≤ 12 ∧ Only wA.heap.size hi wV wr ∧ ∀ d x, PWild wV wA.heap.size hi d x → PWild wr wA.heap.size hi d x) (fun x _ => 12 - (intOf x).toNat)
          case atStart => exact ⟨0, rfl, by omega, Only.refl _ _ _, fun _ _ h => h⟩
          case round =>
            obtain ⟨j, rfl, hj, hO, hK⟩ := hrel
            rename World => wO
            by_cases hjt : j < 12
            · have hjb : (j : Int) < 12 := by omega
              have hj12 : j < (wantL (.mk kp vp np lp) (.mk xk xn xl) l n).length := hjt
              obtain ⟨k0, vk0, vn0, va0, vl0, vc0, n0, a0, len0, cap0, ⟨c0, c1, c2, c3, c4, c5⟩, -, hw⟩ := HGOT.out j hj12
              replace c0 := hO.cell (.inr h2) (cell_stays hV c0)
              replace c1 := hO.cell (.inr h2) (cell_stays hV c1)
              replace c2 := hO.cell (.inr h2) (cell_stays hV c2)
              replace c3 := hO.cell (.inr h2) (cell_stays hV c3)
              replace c4 := hO.cell (.inr h2) (cell_stays hV c4)
              replace c5 := hO.cell (.inr h2) (cell_stays hV c5)
              replace hw := hK _ _ (hw.below hV)
              have hsz : hi ≤ wO.heap.size := by have e1 := hV.size; have e2 := hO.size; omega
              go_wp2_with fail
              refine (pspoil_any _ _ _ _ _ hw hsz).mono ?_
              rintro e wn ⟨rfl, hO1, hK1⟩
              have HO2 := Lib.hid (hO.trans hO1)
              have HK2 := Lib.hid (fun d x h => hK1 d x (hK d x h))
              clear hO hK hO1 hK1 c0 c1 c2 c3 c4 c5 hw
              go_wp2_with fail
              go_roundw
              case rel => exact ⟨j + 1, by go_num, by omega, HO2.out, HK2.out⟩
              case measure => simp [intOf]; omega
            · have hjb : ¬ (j : Int) < 12 := by omega
              go_wp2_with fail
              go_roundw
              case rel => exact ⟨rd + 1, by go_num, by omega, hW.trans ((hAV.trans (hO.below hAV.size)).mono hW.size)⟩
              case measure => simp [intOf]; omega
    · have hrdb : ¬ (rd : Int) < 2 := by omega
      replace hB := hB.trans (hW.mono hB.size)
      clear hW
      go_wp2_with fail
      refine (pawake_any _).mono ?_
      rintro e wz ⟨rfl, hbz⟩
      go_wp2_with fail
      go_ret
      exact ⟨rfl, hB.trans (hbz.mono hB.size)⟩
end Go.Proofs.Ytclmnpfdnhfbmaa
