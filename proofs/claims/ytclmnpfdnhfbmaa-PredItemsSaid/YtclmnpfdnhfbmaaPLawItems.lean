/- PredItems: the walk of the law. -/
import Derived.Test.YtclmnpfdnhfbmaaPLawHolds
import Derived.Test.YtclmnpfdnhfbmaaPItems
import Derived.Deep.RegionHeld3
namespace Go.Proofs.Ytclmnpfdnhfbmaa
open Go.RowKit

theorem PT.long_small {t : PT} (h : PT.long [t] = false) : t.cnt < 3000 ∧ t.fat < 6000 := by
  have := PT.not_long h
  simp only [PT.cnts, PT.fats] at this
  omega
theorem pholds_one {K M : Int} {t : PT} {X : VT} {x y : Value} {w : World} (hx : PIn w (.mk K vNone M [t]) x) (hs : t.cnt < 3000 ∧ t.fat < 6000) (hy : VIn w X y) :
    Calls Try.prog 15 #[x, y] w fun e w' => e = .returned (.bool (PT.hold (.mk K vNone M [t]) X)) ∧ Below w.heap.size w w' :=
  pholds_any _ X x y w (by rw [PT.cnt, PT.cnts, PT.cnts]; omega) (by
    have : vNone.size = 1 := by decide
    rw [PT.fat, PT.fats, PT.fats, this]; omega) hx hy

set_option maxRecDepth 100000 in
set_option maxHeartbeats 8000000 in
theorem predItems_any (t : PT) (x : Value) (X : VT) (y : Value) (N : Int) (w : World) (hx : PIn w t x) (hy : VIn w X y) (hN0 : 0 ≤ N) (hN1 : N ≤ 255) :
    Calls Try.prog 6 #[x, y, .int .u8 N] w fun e w' => e = .returned (.bool true) ∧ Below w.heap.size w w' := by
  obtain ⟨k, v, n, l⟩ := t
  obtain ⟨xk, xn, xl⟩ := X
  have hx0 := hx
  have hy0 := hy
  obtain ⟨va, vc, a, cap, hlen, hvl, rfl, -, -⟩ := hx.open
  obtain ⟨xa, xc, hxl, rfl, -⟩ := hy.open
  obtain ⟨w0, hw0, m0, -, q0, q1, q2, q3, q4, q5⟩ := box6 w (.int .u8 k) (.int .u8 v.kind) (.int .i64 v.num) (.slice va v.items.length vc) (.int .i64 n) (.slice a l.length cap) 27
  obtain ⟨w1, hw1, m1, -, p0, p1, p2, -⟩ := box3 w0 (.int .u8 xk) (.int .i64 xn) (.slice xa xl.length xc) 24
  have hB : Below w.heap.size w w1 := m0.trans (m1.mono m0.size)
  replace q0 := cell_stays m1 q0
  replace q1 := cell_stays m1 q1
  replace q2 := cell_stays m1 q2
  replace q3 := cell_stays m1 q3
  replace q4 := cell_stays m1 q4
  replace q5 := cell_stays m1 q5
  replace hx := hx0.below hB
  replace hy := hy0.below hB
  clear hx0 hy0 m0 m1
  obtain ⟨b, hb⟩ : ∃ b, b = PT.long [.mk k v n l] := ⟨_, rfl⟩
  obtain ⟨c, hc⟩ : ∃ c, c = VT.long [.mk xk xn xl] := ⟨_, rfl⟩
  obtain ⟨d, hd⟩ : ∃ d, d = (PT.mk k v n l).allT := ⟨_, rfl⟩
  have HB := Lib.hid hb; have HC := Lib.hid hc; have HD := Lib.hid hd; clear hb hc hd
  obtain ⟨w2, hw2, m2, -, r0, r1, r2, r3, r4, r5⟩ := box6 w1 (.int .u8 k) (.int .u8 v.kind) (.int .i64 v.num) (.slice va v.items.length vc) (.int .i64 n) (.slice a l.length cap) 27
  have hrow : PRow w2 [.mk k v n l] (some ⟨w1.heap.size, 0, none⟩) := prow_cons r0 r1 r2 r3 r4 r5 (hx.below m2) prow_nil
  clear r0 r1 r2 r3 r4 r5
  go_enter Try.func6, Try.ntmps6
  go_wp2_with fail
  refine (plong_any [.mk k v n l] _ 1 _ (by simp) hrow).mono ?_
  rintro e w3 ⟨rfl, hb3⟩
  rw [← HB.out]
  have m3 := m2.trans (hb3.mono m2.size)
  replace q0 := cell_stays m3 q0
  replace q1 := cell_stays m3 q1
  replace q2 := cell_stays m3 q2
  replace q3 := cell_stays m3 q3
  replace q4 := cell_stays m3 q4
  replace q5 := cell_stays m3 q5
  replace p0 := cell_stays m3 p0
  replace p1 := cell_stays m3 p1
  replace p2 := cell_stays m3 p2
  replace hx := hx.below m3
  replace hy := hy.below m3
  replace hB := hB.trans (m3.mono hB.size)
  clear hrow m2 hb3 m3
  cases b
  case true =>
    go_wp2_with fail
    refine (pawake_any _).mono ?_
    rintro e wz ⟨rfl, hbz⟩
    go_wp2_with fail
    go_ret
    exact ⟨rfl, hB.trans (hbz.mono hB.size)⟩
  case false =>
  have HSM := Lib.hid (PT.long_one HB.out.symm)
  obtain ⟨w4, hw4, m4, -, r0, r1, r2, -⟩ := box3 w3 (.int .u8 xk) (.int .i64 xn) (.slice xa xl.length xc) 24
  have hrow : VRow w4 [.mk xk xn xl] (some ⟨w3.heap.size, 0, none⟩) := vrow_cons r0 r1 r2 (hy.below m4) vrow_nil
  clear r0 r1 r2
  go_wp2_with fail
  refine (long_any [.mk xk xn xl] _ 1 _ (by simp) hrow).mono ?_
  rintro e w5 ⟨rfl, hb5⟩
  rw [← HC.out]
  have m5 := m4.trans (hb5.mono m4.size)
  replace q0 := cell_stays m5 q0
  replace q1 := cell_stays m5 q1
  replace q2 := cell_stays m5 q2
  replace q3 := cell_stays m5 q3
  replace q4 := cell_stays m5 q4
  replace q5 := cell_stays m5 q5
  replace p0 := cell_stays m5 p0
  replace p1 := cell_stays m5 p1
  replace p2 := cell_stays m5 p2
  replace hx := hx.below m5
  replace hy := hy.below m5
  replace hB := hB.trans (m5.mono hB.size)
  clear hrow m4 hb5 m5
  cases c
  case true =>
    go_wp2_with fail
    refine (pawake_any _).mono ?_
    rintro e wz ⟨rfl, hbz⟩
    go_wp2_with fail
    go_ret
    exact ⟨rfl, hB.trans (hbz.mono hB.size)⟩
  case false =>
  obtain ⟨w6, hw6, m6, -, r0, r1, r2, r3, r4, r5⟩ := box6 w5 (.int .u8 k) (.int .u8 v.kind) (.int .i64 v.num) (.slice va v.items.length vc) (.int .i64 n) (.slice a l.length cap) 27
  have hrow : PRow w6 [.mk k v n l] (some ⟨w5.heap.size, 0, none⟩) := prow_cons r0 r1 r2 r3 r4 r5 (hx.below m6) prow_nil
  clear r0 r1 r2 r3 r4 r5
  go_wp2_with fail
  refine (all_any [.mk k v n l] _ 1 _ (by simp) hrow (by simp only [PT.cnts]; have := HSM.out.1; omega) (by simp only [PT.fats]; have := HSM.out.2; omega)).mono ?_
  rintro e w7 ⟨rfl, hb7⟩
  rw [show [PT.mk k v n l].all PT.allT = d by rw [HD.out]; simp]
  have m7 := m6.trans (hb7.mono m6.size)
  replace q0 := cell_stays m7 q0
  replace q1 := cell_stays m7 q1
  replace q2 := cell_stays m7 q2
  replace q3 := cell_stays m7 q3
  replace q4 := cell_stays m7 q4
  replace q5 := cell_stays m7 q5
  replace p0 := cell_stays m7 p0
  replace p1 := cell_stays m7 p1
  replace p2 := cell_stays m7 p2
  replace hx := hx.below m7
  replace hy := hy.below m7
  replace hB := hB.trans (m7.mono hB.size)
  clear hrow m6 hb7 m7
  cases d
  case false =>
    go_wp2_with fail
    refine (pawake_any _).mono ?_
    rintro e wz ⟨rfl, hbz⟩
    go_wp2_with fail
    go_ret
    exact ⟨rfl, hB.trans (hbz.mono hB.size)⟩
  case true =>
  go_wp2_with fail
  refine (pawake_any _).mono ?_
  rintro e w8 ⟨rfl, hb8⟩
  replace q0 := cell_stays hb8 q0
  replace q1 := cell_stays hb8 q1
  replace q2 := cell_stays hb8 q2
  replace q3 := cell_stays hb8 q3
  replace q4 := cell_stays hb8 q4
  replace q5 := cell_stays hb8 q5
  replace p0 := cell_stays hb8 p0
  replace p1 := cell_stays hb8 p1
  replace p2 := cell_stays hb8 p2
  replace hx := hx.below hb8
  replace hy := hy.below hb8
  replace hB := hB.trans (hb8.mono hB.size)
  clear hb8 hw0 hw1 hw2 hw4 hw6
  obtain ⟨m, hm, hm64⟩ : ∃ m : Nat, N % 65 = m ∧ m ≤ 64 := ⟨(N % 65).toNat, by omega, by omega⟩
  have HS3 := Lib.hid (PT.long_small HB.out.symm)
  obtain ⟨b8, h8⟩ : ∃ b, b = PT.hold (.mk 8 vNone m [.mk k v n l]) (.mk xk xn xl) := ⟨_, rfl⟩
  obtain ⟨b9, h9⟩ : ∃ b, b = PT.hold (.mk 9 vNone 0 [.mk k v n l]) (.mk xk xn xl) := ⟨_, rfl⟩
  obtain ⟨b10, h10⟩ : ∃ b, b = PT.hold (.mk 10 vNone 0 [.mk k v n l]) (.mk xk xn xl) := ⟨_, rfl⟩
  obtain ⟨b11, h11⟩ : ∃ b, b = PT.hold (.mk 11 vNone 0 [.mk k v n l]) (.mk xk xn xl) := ⟨_, rfl⟩
  have H8 := Lib.hid h8; have H9 := Lib.hid h9; have H10 := Lib.hid h10; have H11 := Lib.hid h11
  clear h8 h9 h10 h11
  go_wp2_with fail
  rw [hm]
  have HBase : Below w8.heap.size w8 w8.drew := (Below.refl _ _).drew
  go_region_held3 (fun W => W.cell? ⟨w.heap.size, 0, none⟩ = some (.int .u8 k) ∧ W.cell? ⟨w.heap.size, 1, none⟩ = some (.int .u8 v.kind) ∧ W.cell? ⟨w.heap.size, 2, none⟩ = some (.int .i64 v.num) ∧ W.cell? ⟨w.heap.size, 3, none⟩ = some (.slice va v.items.length vc) ∧ W.cell? ⟨w.heap.size, 4, none⟩ = some (.int .i64 n) ∧ W.cell? ⟨w.heap.size, 5, none⟩ = some (.slice a l.length cap) ∧ W.cell? ⟨w0.heap.size, 0, none⟩ = some (.int .u8 xk) ∧ W.cell? ⟨w0.heap.size, 1, none⟩ = some (.int .i64 xn) ∧ W.cell? ⟨w0.heap.size, 2, none⟩ = some (.slice xa xl.length xc)) (exact ⟨cell_stays HBase q0, cell_stays HBase q1, cell_stays HBase q2, cell_stays HBase q3, cell_stays HBase q4, cell_stays HBase q5, cell_stays HBase p0, cell_stays HBase p1, cell_stays HBase p2⟩) (first | (go_at_call 28; refine (pat_any _ _ _ _ (hx.below HBase)).mono ?_; rintro e W ⟨xz, rfl, hf, hb⟩; (try clear P); have P := PFIn.pin _ _ hf; clear hf; replace HBase := HBase.trans (hb.mono HBase.size); clear hb) | (go_at_call 29; refine (pall_any _ _ _ (hx.below HBase)).mono ?_; rintro e W ⟨xz, rfl, hf, hb⟩; (try clear P); have P := PFIn.pin _ _ hf; clear hf; replace HBase := HBase.trans (hb.mono HBase.size); clear hb) | (go_at_call 30; refine (pany_any _ _ _ (hx.below HBase)).mono ?_; rintro e W ⟨xz, rfl, hf, hb⟩; (try clear P); have P := PFIn.pin _ _ hf; clear hf; replace HBase := HBase.trans (hb.mono HBase.size); clear hb) | (go_at_call 31; refine (plen_any _ _ _ (hx.below HBase)).mono ?_; rintro e W ⟨xz, rfl, hf, hb⟩; (try clear P); have P := PFIn.pin _ _ hf; clear hf; replace HBase := HBase.trans (hb.mono HBase.size); clear hb) | (go_at_call 15; refine (pholds_one P HS3.out (hy.below HBase)).mono ?_; rintro e W ⟨rfl, hb⟩; (first | rw [← H8.out] | rw [← H9.out] | rw [← H10.out] | rw [← H11.out]); replace HBase := HBase.trans (hb.mono HBase.size); clear hb))
  clear P
  replace q0 := cell_stays HBase q0
  replace q1 := cell_stays HBase q1
  replace q2 := cell_stays HBase q2
  replace q3 := cell_stays HBase q3
  replace q4 := cell_stays HBase q4
  replace q5 := cell_stays HBase q5
  replace p0 := cell_stays HBase p0
  replace p1 := cell_stays HBase p1
  replace p2 := cell_stays HBase p2
  replace hx := hx.below HBase
  replace hy := hy.below HBase
  replace hB := hB.trans (HBase.mono hB.size)
  clear HBase
  rename World => wZ
  by_cases hrow : xk = 3 ∨ xk = 4
  · have HALL := Lib.hid HD.out.symm
    have HMAY := Lib.hid ((PT.allT_iff _).1 HALL.out).1
    have HX := Lib.hid (show (VT.mk xk xn xl).kind = 3 ∨ (VT.mk xk xn xl).kind = 4 from hrow)
    obtain ⟨f, hf⟩ : ∃ f, f = (PT.mk k v n l).holds := ⟨_, rfl⟩
    have HF := Lib.hid hf; clear hf
    obtain ⟨_, _, _, he, hxr⟩ := hy.open
    simp only [Value.agg.injEq, Array.mk.injEq, List.cons.injEq, Value.slice.injEq, and_true, true_and] at he
    obtain ⟨rfl, rfl⟩ := he
    rcases hrow with rfl | rfl
    · go_wp2_with fail
      go_loopw [12, 13] (fun x y wr => ∃ (c i : Nat), x = .int .i64 c ∧ y = .int .i64 i ∧ i ≤ xl.length ∧ c = (xl.take i).countP f ∧ c ≤ i ∧ Below wZ.heap.size wZ wr) (fun _ y _ => xl.length - (intOf y).toNat)
      case atStart => exact ⟨0, 0, rfl, rfl, by omega, by simp, by omega, Below.refl _ _⟩
      case round =>
        obtain ⟨c, i, rfl, rfl, hi, hc, hci, hR⟩ := hrel
        rename World => wR
        have HCC := Lib.hid hc; clear hc
        replace q0 := cell_stays hR q0
        replace q1 := cell_stays hR q1
        replace q2 := cell_stays hR q2
        replace q3 := cell_stays hR q3
        replace q4 := cell_stays hR q4
        replace q5 := cell_stays hR q5
        replace p0 := cell_stays hR p0
        replace p1 := cell_stays hR p1
        replace p2 := cell_stays hR p2
        have hxR := hx.below hR
        have hrR := hxr.below hR
        by_cases hlt : i < xl.length
        · obtain ⟨b', o', rfl, ay, cy, e0, e1, e2, hyi⟩ := hrR.got i hlt
          have hcu := count_upto (f := f) hlt
          obtain ⟨z, hz⟩ : ∃ z, z = f xl[i] := ⟨_, rfl⟩
          rw [← hz] at hcu
          have HZ := Lib.hid (show PT.hold (.mk k v n l) xl[i] = z by rw [PT.hold_may HMAY.out, hz, HF.out])
          have HCU := Lib.hid hcu
          clear hz hcu
          go_wp2_with fail
          refine region_tail 6 (by kernel_rfl) (by kernel_rfl) ?_
          simp only [List.take_succ_cons, List.take_zero, List.drop_succ_cons, List.drop_zero]
          repeat still_step
          refine wpStill_nil ?_
          go_wp2_with fail
          refine (pholds_any _ _ _ _ _ HSM.out.1 HSM.out.2 (hxR.below (Below.refl _ _).drew) (hyi.below (Below.refl _ _).drew)).mono ?_
          rintro e wN ⟨rfl, hbN⟩
          rw [HZ.out]
          have hR2 := hR.trans (((Below.refl _ _).drew.trans hbN).mono hR.size)
          clear hR hbN q0 q1 q2 q3 q4 q5 p0 p1 p2 hxR hrR e0 e1 e2 hyi
          cases z
          · go_wp2_with fail
            go_roundw
            case rel => exact ⟨c, i + 1, rfl, by go_num, by omega, by rw [HCU.out, ← HCC.out]; simp, by omega, hR2⟩
            case measure => simp [intOf]; omega
          · go_wp2_with fail
            go_roundw
            case rel => exact ⟨c + 1, i + 1, by go_num, by go_num, by omega, by rw [HCU.out, ← HCC.out]; simp, by omega, hR2⟩
            case measure => simp [intOf]; omega
        · have hii : i = xl.length := by omega
          subst hii
          have n4 : decide ((xl.length : Int) < (xl.length : Int)) = false := by simp
          have hcl : c = xl.countP f := by rw [HCC.out, List.take_length]
          have e9 : b9 = decide (c = xl.length) := by rw [H9.out, PT.hold_may (PT.may_one (by omega) HALL.out), PT.hold9 _ _ _ _ _ HX.out, all_count, hcl, HF.out]; rfl
          have e10 : b10 = decide (0 < c) := by rw [H10.out, PT.hold_may (PT.may_one (by omega) HALL.out), PT.hold10 _ _ _ _ _ HX.out, any_count, hcl, HF.out]; rfl
          have E9 := Lib.hid e9; have E10 := Lib.hid e10
          clear e9 e10 hcl HCC
          have e11 : PT.hold (.mk k v n l) (.mk 1 xl.length []) = b11 := by rw [H11.out, PT.hold_may (PT.may_one (by omega) HALL.out), PT.hold11 _ _ _ _ _ HX.out, PT.hold_may HMAY.out]; rfl
          have Q2 := Lib.hid (regrown (w := wR) fun W hW => num_any xl.length W)
          have Q3 := Lib.hid (regrown (w := wR) fun W hW => by have := pholds_any _ (.mk 1 xl.length []) _ _ W HSM.out.1 HSM.out.2 (hxR.below hW) (VIn.leaf _ _); rwa [e11] at this)
          have f11 : (b11 == b11) = true := by simp
          have cq0 := cell_regrown q0
          have cq1 := cell_regrown q1
          have cq2 := cell_regrown q2
          have cq3 := cell_regrown q3
          have cq4 := cell_regrown q4
          have cq5 := cell_regrown q5
          have cp0 := cell_regrown p0
          have cp1 := cell_regrown p1
          have cp2 := cell_regrown p2
          clear e11
          by_cases hmlt : m < xl.length
          · have hm1 : decide (m < xl.length) = true := by simpa using hmlt
            have hmin : min (m : Int) ((xl.length : Int) - 1) = m := by omega
            have e8 : PT.hold (.mk k v n l) xl[m] = b8 := by
              rw [H8.out, PT.hold_may (PT.may_at (by omega) (by omega) HALL.out), PT.hold8 _ _ _ _ _ HX.out, dif_pos ⟨by omega, by simpa [VT.items] using hmlt⟩, PT.hold_may HMAY.out]; rfl
            obtain ⟨b', o', rfl, ay, cy, e0, e1, e2, hyi⟩ := hrR.got m hmlt
            have ce0 := cell_regrown e0
            have ce1 := cell_regrown e1
            have ce2 := cell_regrown e2
            have Q1 := Lib.hid (regrown (w := wR) fun W hW => by have := pholds_any _ xl[m] _ _ W HSM.out.1 HSM.out.2 (hxR.below hW) (hyi.below hW); rwa [e8] at this)
            have f8 : (b8 == b8) = true := by simp
            clear e8 hyi e0 e1 e2
            by_cases hce : c = xl.length
            · have g9 : b9 = true := by rw [E9.out]; simpa using hce
              have x1 : ((c : Int) == (xl.length : Int)) = true := by simp [hce]
              have x2 : (c == xl.length) = true := by simpa using hce
              have HCE := Lib.hid hce
              clear E9 H9 hce
              subst g9
              by_cases hc0 : 0 < c
              · have g10 : b10 = true := by rw [E10.out]; simpa using hc0
                clear E10 H10
                subst g10
                go_wp2_with fail
                refine wp_region_quiet_below (by kernel_rfl) (by kernel_rfl) ?_
                repeat (go_big_quiet_step (first | with_reducible exact Q1.out _ _ | with_reducible exact Q2.out _ _ | with_reducible exact Q3.out _ _))
                refine wpQuiet_nil ?_
                intro _ hw'
                obtain ⟨⟨dq, osq⟩, hw''⟩ := hw'
                subst hw''
                go_wp2_with fail
                go_ret
                exact ⟨rfl, hB.trans ((hR.trans ((below_regrown wR dq osq).mono hR.size)).mono hB.size)⟩
              · have g10 : b10 = false := by rw [E10.out]; simpa using hc0
                have x3 : decide (0 < c) = false := by simpa using hc0
                clear E10 H10
                subst g10
                go_wp2_with fail
                refine wp_region_quiet_below (by kernel_rfl) (by kernel_rfl) ?_
                repeat (go_big_quiet_step (first | with_reducible exact Q1.out _ _ | with_reducible exact Q2.out _ _ | with_reducible exact Q3.out _ _))
                refine wpQuiet_nil ?_
                intro _ hw'
                obtain ⟨⟨dq, osq⟩, hw''⟩ := hw'
                subst hw''
                go_wp2_with fail
                go_ret
                exact ⟨rfl, hB.trans ((hR.trans ((below_regrown wR dq osq).mono hR.size)).mono hB.size)⟩
            · have g9 : b9 = false := by rw [E9.out]; simpa using hce
              have x1 : ((c : Int) == (xl.length : Int)) = false := by rw [beq_eq_false_iff_ne]; omega
              have x2 : (c == xl.length) = false := by simpa using hce
              have HCE := Lib.hid hce
              clear E9 H9 hce
              subst g9
              by_cases hc0 : 0 < c
              · have g10 : b10 = true := by rw [E10.out]; simpa using hc0
                clear E10 H10
                subst g10
                go_wp2_with fail
                refine wp_region_quiet_below (by kernel_rfl) (by kernel_rfl) ?_
                repeat (go_big_quiet_step (first | with_reducible exact Q1.out _ _ | with_reducible exact Q2.out _ _ | with_reducible exact Q3.out _ _))
                refine wpQuiet_nil ?_
                intro _ hw'
                obtain ⟨⟨dq, osq⟩, hw''⟩ := hw'
                subst hw''
                go_wp2_with fail
                go_ret
                exact ⟨rfl, hB.trans ((hR.trans ((below_regrown wR dq osq).mono hR.size)).mono hB.size)⟩
              · have g10 : b10 = false := by rw [E10.out]; simpa using hc0
                have x3 : decide (0 < c) = false := by simpa using hc0
                clear E10 H10
                subst g10
                go_wp2_with fail
                refine wp_region_quiet_below (by kernel_rfl) (by kernel_rfl) ?_
                repeat (go_big_quiet_step (first | with_reducible exact Q1.out _ _ | with_reducible exact Q2.out _ _ | with_reducible exact Q3.out _ _))
                refine wpQuiet_nil ?_
                intro _ hw'
                obtain ⟨⟨dq, osq⟩, hw''⟩ := hw'
                subst hw''
                go_wp2_with fail
                go_ret
                exact ⟨rfl, hB.trans ((hR.trans ((below_regrown wR dq osq).mono hR.size)).mono hB.size)⟩
          · have hm1 : decide (m < xl.length) = false := by simpa using hmlt
            have e8 : b8 = false := by
              rw [H8.out, PT.hold_may (PT.may_at (by omega) (by omega) HALL.out), PT.hold8 _ _ _ _ _ HX.out, dif_neg (by rintro ⟨_, h⟩; exact hmlt (by simpa [VT.items] using h))]
            have Q1 := Q2
            clear H8
            subst e8
            by_cases hce : c = xl.length
            · have g9 : b9 = true := by rw [E9.out]; simpa using hce
              have x1 : ((c : Int) == (xl.length : Int)) = true := by simp [hce]
              have x2 : (c == xl.length) = true := by simpa using hce
              have HCE := Lib.hid hce
              clear E9 H9 hce
              subst g9
              by_cases hc0 : 0 < c
              · have g10 : b10 = true := by rw [E10.out]; simpa using hc0
                clear E10 H10
                subst g10
                go_wp2_with fail
                refine wp_region_quiet_below (by kernel_rfl) (by kernel_rfl) ?_
                repeat (go_big_quiet_step (first | with_reducible exact Q1.out _ _ | with_reducible exact Q2.out _ _ | with_reducible exact Q3.out _ _))
                refine wpQuiet_nil ?_
                intro _ hw'
                obtain ⟨⟨dq, osq⟩, hw''⟩ := hw'
                subst hw''
                go_wp2_with fail
                go_ret
                exact ⟨rfl, hB.trans ((hR.trans ((below_regrown wR dq osq).mono hR.size)).mono hB.size)⟩
              · have g10 : b10 = false := by rw [E10.out]; simpa using hc0
                have x3 : decide (0 < c) = false := by simpa using hc0
                clear E10 H10
                subst g10
                go_wp2_with fail
                refine wp_region_quiet_below (by kernel_rfl) (by kernel_rfl) ?_
                repeat (go_big_quiet_step (first | with_reducible exact Q1.out _ _ | with_reducible exact Q2.out _ _ | with_reducible exact Q3.out _ _))
                refine wpQuiet_nil ?_
                intro _ hw'
                obtain ⟨⟨dq, osq⟩, hw''⟩ := hw'
                subst hw''
                go_wp2_with fail
                go_ret
                exact ⟨rfl, hB.trans ((hR.trans ((below_regrown wR dq osq).mono hR.size)).mono hB.size)⟩
            · have g9 : b9 = false := by rw [E9.out]; simpa using hce
              have x1 : ((c : Int) == (xl.length : Int)) = false := by rw [beq_eq_false_iff_ne]; omega
              have x2 : (c == xl.length) = false := by simpa using hce
              have HCE := Lib.hid hce
              clear E9 H9 hce
              subst g9
              by_cases hc0 : 0 < c
              · have g10 : b10 = true := by rw [E10.out]; simpa using hc0
                clear E10 H10
                subst g10
                go_wp2_with fail
                refine wp_region_quiet_below (by kernel_rfl) (by kernel_rfl) ?_
                repeat (go_big_quiet_step (first | with_reducible exact Q1.out _ _ | with_reducible exact Q2.out _ _ | with_reducible exact Q3.out _ _))
                refine wpQuiet_nil ?_
                intro _ hw'
                obtain ⟨⟨dq, osq⟩, hw''⟩ := hw'
                subst hw''
                go_wp2_with fail
                go_ret
                exact ⟨rfl, hB.trans ((hR.trans ((below_regrown wR dq osq).mono hR.size)).mono hB.size)⟩
              · have g10 : b10 = false := by rw [E10.out]; simpa using hc0
                have x3 : decide (0 < c) = false := by simpa using hc0
                clear E10 H10
                subst g10
                go_wp2_with fail
                refine wp_region_quiet_below (by kernel_rfl) (by kernel_rfl) ?_
                repeat (go_big_quiet_step (first | with_reducible exact Q1.out _ _ | with_reducible exact Q2.out _ _ | with_reducible exact Q3.out _ _))
                refine wpQuiet_nil ?_
                intro _ hw'
                obtain ⟨⟨dq, osq⟩, hw''⟩ := hw'
                subst hw''
                go_wp2_with fail
                go_ret
                exact ⟨rfl, hB.trans ((hR.trans ((below_regrown wR dq osq).mono hR.size)).mono hB.size)⟩
    · go_wp2_with fail
      go_loopw [12, 13] (fun x y wr => ∃ (c i : Nat), x = .int .i64 c ∧ y = .int .i64 i ∧ i ≤ xl.length ∧ c = (xl.take i).countP f ∧ c ≤ i ∧ Below wZ.heap.size wZ wr) (fun _ y _ => xl.length - (intOf y).toNat)
      case atStart => exact ⟨0, 0, rfl, rfl, by omega, by simp, by omega, Below.refl _ _⟩
      case round =>
        obtain ⟨c, i, rfl, rfl, hi, hc, hci, hR⟩ := hrel
        rename World => wR
        have HCC := Lib.hid hc; clear hc
        replace q0 := cell_stays hR q0
        replace q1 := cell_stays hR q1
        replace q2 := cell_stays hR q2
        replace q3 := cell_stays hR q3
        replace q4 := cell_stays hR q4
        replace q5 := cell_stays hR q5
        replace p0 := cell_stays hR p0
        replace p1 := cell_stays hR p1
        replace p2 := cell_stays hR p2
        have hxR := hx.below hR
        have hrR := hxr.below hR
        by_cases hlt : i < xl.length
        · obtain ⟨b', o', rfl, ay, cy, e0, e1, e2, hyi⟩ := hrR.got i hlt
          have hcu := count_upto (f := f) hlt
          obtain ⟨z, hz⟩ : ∃ z, z = f xl[i] := ⟨_, rfl⟩
          rw [← hz] at hcu
          have HZ := Lib.hid (show PT.hold (.mk k v n l) xl[i] = z by rw [PT.hold_may HMAY.out, hz, HF.out])
          have HCU := Lib.hid hcu
          clear hz hcu
          go_wp2_with fail
          refine region_tail 6 (by kernel_rfl) (by kernel_rfl) ?_
          simp only [List.take_succ_cons, List.take_zero, List.drop_succ_cons, List.drop_zero]
          repeat still_step
          refine wpStill_nil ?_
          go_wp2_with fail
          refine (pholds_any _ _ _ _ _ HSM.out.1 HSM.out.2 (hxR.below (Below.refl _ _).drew) (hyi.below (Below.refl _ _).drew)).mono ?_
          rintro e wN ⟨rfl, hbN⟩
          rw [HZ.out]
          have hR2 := hR.trans (((Below.refl _ _).drew.trans hbN).mono hR.size)
          clear hR hbN q0 q1 q2 q3 q4 q5 p0 p1 p2 hxR hrR e0 e1 e2 hyi
          cases z
          · go_wp2_with fail
            go_roundw
            case rel => exact ⟨c, i + 1, rfl, by go_num, by omega, by rw [HCU.out, ← HCC.out]; simp, by omega, hR2⟩
            case measure => simp [intOf]; omega
          · go_wp2_with fail
            go_roundw
            case rel => exact ⟨c + 1, i + 1, by go_num, by go_num, by omega, by rw [HCU.out, ← HCC.out]; simp, by omega, hR2⟩
            case measure => simp [intOf]; omega
        · have hii : i = xl.length := by omega
          subst hii
          have n4 : decide ((xl.length : Int) < (xl.length : Int)) = false := by simp
          have hcl : c = xl.countP f := by rw [HCC.out, List.take_length]
          have e9 : b9 = decide (c = xl.length) := by rw [H9.out, PT.hold_may (PT.may_one (by omega) HALL.out), PT.hold9 _ _ _ _ _ HX.out, all_count, hcl, HF.out]; rfl
          have e10 : b10 = decide (0 < c) := by rw [H10.out, PT.hold_may (PT.may_one (by omega) HALL.out), PT.hold10 _ _ _ _ _ HX.out, any_count, hcl, HF.out]; rfl
          have E9 := Lib.hid e9; have E10 := Lib.hid e10
          clear e9 e10 hcl HCC
          have e11 : PT.hold (.mk k v n l) (.mk 1 xl.length []) = b11 := by rw [H11.out, PT.hold_may (PT.may_one (by omega) HALL.out), PT.hold11 _ _ _ _ _ HX.out, PT.hold_may HMAY.out]; rfl
          have Q2 := Lib.hid (regrown (w := wR) fun W hW => num_any xl.length W)
          have Q3 := Lib.hid (regrown (w := wR) fun W hW => by have := pholds_any _ (.mk 1 xl.length []) _ _ W HSM.out.1 HSM.out.2 (hxR.below hW) (VIn.leaf _ _); rwa [e11] at this)
          have f11 : (b11 == b11) = true := by simp
          have cq0 := cell_regrown q0
          have cq1 := cell_regrown q1
          have cq2 := cell_regrown q2
          have cq3 := cell_regrown q3
          have cq4 := cell_regrown q4
          have cq5 := cell_regrown q5
          have cp0 := cell_regrown p0
          have cp1 := cell_regrown p1
          have cp2 := cell_regrown p2
          clear e11
          by_cases hmlt : m < xl.length
          · have hm1 : decide (m < xl.length) = true := by simpa using hmlt
            have hmin : min (m : Int) ((xl.length : Int) - 1) = m := by omega
            have e8 : PT.hold (.mk k v n l) xl[m] = b8 := by
              rw [H8.out, PT.hold_may (PT.may_at (by omega) (by omega) HALL.out), PT.hold8 _ _ _ _ _ HX.out, dif_pos ⟨by omega, by simpa [VT.items] using hmlt⟩, PT.hold_may HMAY.out]; rfl
            obtain ⟨b', o', rfl, ay, cy, e0, e1, e2, hyi⟩ := hrR.got m hmlt
            have ce0 := cell_regrown e0
            have ce1 := cell_regrown e1
            have ce2 := cell_regrown e2
            have Q1 := Lib.hid (regrown (w := wR) fun W hW => by have := pholds_any _ xl[m] _ _ W HSM.out.1 HSM.out.2 (hxR.below hW) (hyi.below hW); rwa [e8] at this)
            have f8 : (b8 == b8) = true := by simp
            clear e8 hyi e0 e1 e2
            by_cases hce : c = xl.length
            · have g9 : b9 = true := by rw [E9.out]; simpa using hce
              have x1 : ((c : Int) == (xl.length : Int)) = true := by simp [hce]
              have x2 : (c == xl.length) = true := by simpa using hce
              have HCE := Lib.hid hce
              clear E9 H9 hce
              subst g9
              by_cases hc0 : 0 < c
              · have g10 : b10 = true := by rw [E10.out]; simpa using hc0
                clear E10 H10
                subst g10
                go_wp2_with fail
                refine wp_region_quiet_below (by kernel_rfl) (by kernel_rfl) ?_
                repeat (go_big_quiet_step (first | with_reducible exact Q1.out _ _ | with_reducible exact Q2.out _ _ | with_reducible exact Q3.out _ _))
                refine wpQuiet_nil ?_
                intro _ hw'
                obtain ⟨⟨dq, osq⟩, hw''⟩ := hw'
                subst hw''
                go_wp2_with fail
                go_ret
                exact ⟨rfl, hB.trans ((hR.trans ((below_regrown wR dq osq).mono hR.size)).mono hB.size)⟩
              · have g10 : b10 = false := by rw [E10.out]; simpa using hc0
                have x3 : decide (0 < c) = false := by simpa using hc0
                clear E10 H10
                subst g10
                go_wp2_with fail
                refine wp_region_quiet_below (by kernel_rfl) (by kernel_rfl) ?_
                repeat (go_big_quiet_step (first | with_reducible exact Q1.out _ _ | with_reducible exact Q2.out _ _ | with_reducible exact Q3.out _ _))
                refine wpQuiet_nil ?_
                intro _ hw'
                obtain ⟨⟨dq, osq⟩, hw''⟩ := hw'
                subst hw''
                go_wp2_with fail
                go_ret
                exact ⟨rfl, hB.trans ((hR.trans ((below_regrown wR dq osq).mono hR.size)).mono hB.size)⟩
            · have g9 : b9 = false := by rw [E9.out]; simpa using hce
              have x1 : ((c : Int) == (xl.length : Int)) = false := by rw [beq_eq_false_iff_ne]; omega
              have x2 : (c == xl.length) = false := by simpa using hce
              have HCE := Lib.hid hce
              clear E9 H9 hce
              subst g9
              by_cases hc0 : 0 < c
              · have g10 : b10 = true := by rw [E10.out]; simpa using hc0
                clear E10 H10
                subst g10
                go_wp2_with fail
                refine wp_region_quiet_below (by kernel_rfl) (by kernel_rfl) ?_
                repeat (go_big_quiet_step (first | with_reducible exact Q1.out _ _ | with_reducible exact Q2.out _ _ | with_reducible exact Q3.out _ _))
                refine wpQuiet_nil ?_
                intro _ hw'
                obtain ⟨⟨dq, osq⟩, hw''⟩ := hw'
                subst hw''
                go_wp2_with fail
                go_ret
                exact ⟨rfl, hB.trans ((hR.trans ((below_regrown wR dq osq).mono hR.size)).mono hB.size)⟩
              · have g10 : b10 = false := by rw [E10.out]; simpa using hc0
                have x3 : decide (0 < c) = false := by simpa using hc0
                clear E10 H10
                subst g10
                go_wp2_with fail
                refine wp_region_quiet_below (by kernel_rfl) (by kernel_rfl) ?_
                repeat (go_big_quiet_step (first | with_reducible exact Q1.out _ _ | with_reducible exact Q2.out _ _ | with_reducible exact Q3.out _ _))
                refine wpQuiet_nil ?_
                intro _ hw'
                obtain ⟨⟨dq, osq⟩, hw''⟩ := hw'
                subst hw''
                go_wp2_with fail
                go_ret
                exact ⟨rfl, hB.trans ((hR.trans ((below_regrown wR dq osq).mono hR.size)).mono hB.size)⟩
          · have hm1 : decide (m < xl.length) = false := by simpa using hmlt
            have e8 : b8 = false := by
              rw [H8.out, PT.hold_may (PT.may_at (by omega) (by omega) HALL.out), PT.hold8 _ _ _ _ _ HX.out, dif_neg (by rintro ⟨_, h⟩; exact hmlt (by simpa [VT.items] using h))]
            have Q1 := Q2
            clear H8
            subst e8
            by_cases hce : c = xl.length
            · have g9 : b9 = true := by rw [E9.out]; simpa using hce
              have x1 : ((c : Int) == (xl.length : Int)) = true := by simp [hce]
              have x2 : (c == xl.length) = true := by simpa using hce
              have HCE := Lib.hid hce
              clear E9 H9 hce
              subst g9
              by_cases hc0 : 0 < c
              · have g10 : b10 = true := by rw [E10.out]; simpa using hc0
                clear E10 H10
                subst g10
                go_wp2_with fail
                refine wp_region_quiet_below (by kernel_rfl) (by kernel_rfl) ?_
                repeat (go_big_quiet_step (first | with_reducible exact Q1.out _ _ | with_reducible exact Q2.out _ _ | with_reducible exact Q3.out _ _))
                refine wpQuiet_nil ?_
                intro _ hw'
                obtain ⟨⟨dq, osq⟩, hw''⟩ := hw'
                subst hw''
                go_wp2_with fail
                go_ret
                exact ⟨rfl, hB.trans ((hR.trans ((below_regrown wR dq osq).mono hR.size)).mono hB.size)⟩
              · have g10 : b10 = false := by rw [E10.out]; simpa using hc0
                have x3 : decide (0 < c) = false := by simpa using hc0
                clear E10 H10
                subst g10
                go_wp2_with fail
                refine wp_region_quiet_below (by kernel_rfl) (by kernel_rfl) ?_
                repeat (go_big_quiet_step (first | with_reducible exact Q1.out _ _ | with_reducible exact Q2.out _ _ | with_reducible exact Q3.out _ _))
                refine wpQuiet_nil ?_
                intro _ hw'
                obtain ⟨⟨dq, osq⟩, hw''⟩ := hw'
                subst hw''
                go_wp2_with fail
                go_ret
                exact ⟨rfl, hB.trans ((hR.trans ((below_regrown wR dq osq).mono hR.size)).mono hB.size)⟩
            · have g9 : b9 = false := by rw [E9.out]; simpa using hce
              have x1 : ((c : Int) == (xl.length : Int)) = false := by rw [beq_eq_false_iff_ne]; omega
              have x2 : (c == xl.length) = false := by simpa using hce
              have HCE := Lib.hid hce
              clear E9 H9 hce
              subst g9
              by_cases hc0 : 0 < c
              · have g10 : b10 = true := by rw [E10.out]; simpa using hc0
                clear E10 H10
                subst g10
                go_wp2_with fail
                refine wp_region_quiet_below (by kernel_rfl) (by kernel_rfl) ?_
                repeat (go_big_quiet_step (first | with_reducible exact Q1.out _ _ | with_reducible exact Q2.out _ _ | with_reducible exact Q3.out _ _))
                refine wpQuiet_nil ?_
                intro _ hw'
                obtain ⟨⟨dq, osq⟩, hw''⟩ := hw'
                subst hw''
                go_wp2_with fail
                go_ret
                exact ⟨rfl, hB.trans ((hR.trans ((below_regrown wR dq osq).mono hR.size)).mono hB.size)⟩
              · have g10 : b10 = false := by rw [E10.out]; simpa using hc0
                have x3 : decide (0 < c) = false := by simpa using hc0
                clear E10 H10
                subst g10
                go_wp2_with fail
                refine wp_region_quiet_below (by kernel_rfl) (by kernel_rfl) ?_
                repeat (go_big_quiet_step (first | with_reducible exact Q1.out _ _ | with_reducible exact Q2.out _ _ | with_reducible exact Q3.out _ _))
                refine wpQuiet_nil ?_
                intro _ hw'
                obtain ⟨⟨dq, osq⟩, hw''⟩ := hw'
                subst hw''
                go_wp2_with fail
                go_ret
                exact ⟨rfl, hB.trans ((hR.trans ((below_regrown wR dq osq).mono hR.size)).mono hB.size)⟩
  · have f3 : (xk != 3) = true := by simp; omega
    have f4 : (xk != 4) = true := by simp; omega
    have hX : ¬ ((VT.mk xk xn xl).kind = 3 ∨ (VT.mk xk xn xl).kind = 4) := hrow
    have e8 : b8 = false := by rw [H8.out]; exact PT.hold_no (by omega) hX
    have e9 : b9 = false := by rw [H9.out]; exact PT.hold_no (by omega) hX
    have e10 : b10 = false := by rw [H10.out]; exact PT.hold_no (by omega) hX
    have e11 : b11 = false := by rw [H11.out]; exact PT.hold_no (by omega) hX
    clear H8 H9 H10 H11 hX hrow
    subst e8 e9 e10 e11
    go_wp2_with fail
    go_ret
    exact ⟨rfl, hB⟩
end Go.Proofs.Ytclmnpfdnhfbmaa
