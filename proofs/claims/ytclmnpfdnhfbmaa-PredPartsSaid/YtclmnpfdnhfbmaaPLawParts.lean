/- PredParts: the walk of the law. -/
import Derived.Test.YtclmnpfdnhfbmaaPLawHolds
import Derived.Test.YtclmnpfdnhfbmaaPParts
import Derived.Test.YtclmnpfdnhfbmaaPTabC
import Derived.Deep.DeepCutAuto
namespace Go.Proofs.Ytclmnpfdnhfbmaa
open Go.RowKit

/-- a predicate at a place. -/
def AtP (w : World) (B o : Nat) (t : PT) : Prop := ∃ k vk vn va vl vc n a len cap, w.cell? ⟨B, o, none⟩ = some (.int .u8 k) ∧ w.cell? ⟨B, o + 1, none⟩ = some (.int .u8 vk) ∧ w.cell? ⟨B, o + 2, none⟩ = some (.int .i64 vn) ∧ w.cell? ⟨B, o + 3, none⟩ = some (.slice va vl vc) ∧
  w.cell? ⟨B, o + 4, none⟩ = some (.int .i64 n) ∧ w.cell? ⟨B, o + 5, none⟩ = some (.slice a len cap) ∧ PIn w t (.agg #[.int .u8 k, .int .u8 vk, .int .i64 vn, .slice va vl vc, .int .i64 n, .slice a len cap])
theorem AtP.below {w w' : World} {B o : Nat} {t : PT} (h : AtP w B o t) (hb : Below w.heap.size w w') : AtP w' B o t := by
  obtain ⟨k, vk, vn, va, vl, vc, n, a, len, cap, h0, h1, h2, h3, h4, h5, hv⟩ := h
  exact ⟨k, vk, vn, va, vl, vc, n, a, len, cap, cell_stays hb h0, cell_stays hb h1, cell_stays hb h2, cell_stays hb h3, cell_stays hb h4, cell_stays hb h5, hv.below hb⟩
theorem and4 : ∀ a b c d : Bool, (a && (b && (c && d))) = (((a && b) && c) && d) := by decide
theorem all_may_upto {l : List PT} {i : Nat} (h : i < l.length) : (l.take (i + 1)).all PT.may = ((l.take i).all PT.may && l[i].may) := all_upto h

set_option maxRecDepth 100000 in
set_option maxHeartbeats 8000000 in
theorem predParts_any (l : List PT) (a : Option Addr) (cap : Nat) (X : VT) (y : Value) (w : World) (hlen : l.length ≤ 1759218604390) (hr : PRow w l a) (hy : VIn w X y) :
    Calls Try.prog 8 #[.slice a l.length cap, y] w fun e w' => e = .returned (.bool true) ∧ Below w.heap.size w w' := by
  obtain ⟨xk, xn, xl⟩ := X
  obtain ⟨xa, xc, hxl, rfl, -⟩ := hy.open
  obtain ⟨w0, hw0, m0, -, p0, p1, p2, -⟩ := box3 w (.int .u8 xk) (.int .i64 xn) (.slice xa xl.length xc) 24
  have hB : Below w.heap.size w w0 := m0
  replace hr := hr.below m0
  replace hy := hy.below m0
  clear m0
  obtain ⟨b, hb⟩ : ∃ b, b = PT.long l := ⟨_, rfl⟩
  obtain ⟨c, hc⟩ : ∃ c, c = VT.long [.mk xk xn xl] := ⟨_, rfl⟩
  have HB := Lib.hid hb; have HC := Lib.hid hc; clear hb hc
  go_enter Try.func8, Try.ntmps8
  by_cases hl4 : 100 < l.length
  case pos =>
    go_wp2_with fail
    refine (pawake_any _).mono ?_
    rintro e wz ⟨rfl, hbz⟩
    go_wp2_with fail
    go_ret
    exact ⟨rfl, hB.trans (hbz.mono hB.size)⟩
  case neg =>
  have n4 : decide (100 < (l.length : Int)) = false := by simp; omega
  go_wp2_with fail
  refine (plong_any l _ _ _ hlen hr).mono ?_
  rintro e w3 ⟨rfl, hb3⟩
  rw [← HB.out]
  replace p0 := cell_stays hb3 p0
  replace p1 := cell_stays hb3 p1
  replace p2 := cell_stays hb3 p2
  replace hr := hr.below hb3
  replace hy := hy.below hb3
  replace hB := hB.trans (hb3.mono hB.size)
  clear hb3
  cases b
  case true =>
    go_wp2_with fail
    refine (pawake_any _).mono ?_
    rintro e wz ⟨rfl, hbz⟩
    go_wp2_with fail
    go_ret
    exact ⟨rfl, hB.trans (hbz.mono hB.size)⟩
  case false =>
  have HSM := Lib.hid (PT.not_long HB.out.symm)
  obtain ⟨w4, hw4, m4, -, r0, r1, r2, -⟩ := box3 w3 (.int .u8 xk) (.int .i64 xn) (.slice xa xl.length xc) 24
  have hrow : VRow w4 [.mk xk xn xl] (some ⟨w3.heap.size, 0, none⟩) := vrow_cons r0 r1 r2 (hy.below m4) vrow_nil
  clear r0 r1 r2
  go_wp2_with fail
  refine (long_any [.mk xk xn xl] _ 1 _ (by simp) hrow).mono ?_
  rintro e w5 ⟨rfl, hb5⟩
  rw [← HC.out]
  have m5 := m4.trans (hb5.mono m4.size)
  replace p0 := cell_stays m5 p0
  replace p1 := cell_stays m5 p1
  replace p2 := cell_stays m5 p2
  replace hr := hr.below m5
  replace hy := hy.below m5
  replace hB := hB.trans (m5.mono hB.size)
  clear hrow m4 hb5 m5
  cases c
  case true =>
    go_wp2_with fail
    refine (pawake_any _).mono ?_
    rintro e wz ⟨rfl, hbz⟩
    go_wp2_with fail
    go_ret
    exact ⟨rfl, hB.trans (hbz.mono hB.size)⟩
  case false =>
  have HSX := Lib.hid (VT.long_one HC.out.symm)
  have HNB := Lib.hid (fun i => show 1 + PT.nodess (l.take i) ≤ 20000000 from by
    have h1 := PT.nodess_upto_le l i
    have h2 := PT.nodess_le 6000 l (by have := HSM.out; omega)
    have h3 : PT.cnts l * (6000 + 1) ≤ 3000 * (6000 + 1) := Nat.mul_le_mul_right _ (by have := HSM.out; omega)
    omega)
  go_wp2_with fail
  refine (pawake_any _).mono ?_
  rintro e w8 ⟨rfl, hb8⟩
  replace p0 := cell_stays hb8 p0
  replace p1 := cell_stays hb8 p1
  replace p2 := cell_stays hb8 p2
  replace hr := hr.below hb8
  replace hy := hy.below hb8
  replace hB := hB.trans (hb8.mono hB.size)
  clear hb8 hw0 hw4 HB HC
  go_wp2_with fail
  refine (pand_any l _ _ _ hlen hr).mono ?_
  rintro e w9 ⟨xz, rfl, hf, hb9⟩
  replace p0 := cell_stays hb9 p0
  replace p1 := cell_stays hb9 p1
  replace p2 := cell_stays hb9 p2
  replace hr := hr.below hb9
  replace hy := hy.below hb9
  replace hB := hB.trans (hb9.mono hB.size)
  have hP := PFIn.pin _ _ hf
  obtain ⟨k1, vk1, vn1, va1, vl1, vc1, n1, a1, l1, c1, rfl⟩ := PIn.agg hP
  obtain ⟨wA, hwA, mA, -, q0, q1, q2, q3, q4, q5⟩ := box6 w9 (.int .u8 k1) (.int .u8 vk1) (.int .i64 vn1) (.slice va1 vl1 vc1) (.int .i64 n1) (.slice a1 l1 c1) 27
  have HBA : Hid (BoxP wA w9.heap.size (tA l)) := Lib.hid ⟨_, _, _, _, _, _, _, _, _, _, q0, q1, q2, q3, q4, q5, hP.below mA⟩
  have HWA := Lib.hid hwA; clear hwA
  go_upto_region 4 with fail
  rw [HWA.out]
  replace p0 := cell_stays mA p0
  replace p1 := cell_stays mA p1
  replace p2 := cell_stays mA p2
  replace hr := hr.below mA
  replace hy := hy.below mA
  replace hB := hB.trans (mA.mono hB.size)
  clear HWA mA q0 q1 q2 q3 q4 q5 hP hf hb9
  go_wp2_with fail
  go_loopw [6, 7, 8, 9] (fun x y z u wr => ∃ (i : Nat) (e0 : Bool) (dd nn : Nat), x = .bool e0 ∧ y = .int .i64 dd ∧ z = .int .i64 nn ∧ u = .int .i64 i ∧ i ≤ l.length ∧ e0 = (l.take i).all PT.may ∧ dd = PT.deeps (l.take i) ∧ nn = 1 + PT.nodess (l.take i) ∧ Below wA.heap.size wA wr) (fun _ _ _ u _ => l.length - (intOf u).toNat)
  case atStart => exact ⟨0, true, 0, 1, rfl, rfl, rfl, rfl, by omega, by simp, by simp [PT.deeps], by simp [PT.nodess], Below.refl _ _⟩
  case round =>
    obtain ⟨i, e0, dd, nn, rfl, rfl, rfl, rfl, hi, he0, hdd, hnn, hW⟩ := hrel
    have HE0 := Lib.hid he0; have HDD := Lib.hid hdd; have HNN := Lib.hid hnn; clear he0 hdd hnn
    rename World => wR
    by_cases hlt : i < l.length
    · have hrR := hr.below hW
      obtain ⟨pb, po, rfl, ax, ac, a2, cap2, d0, d1, d2, d3, d4, d5, hx⟩ := hrR.got i hlt
      obtain ⟨z, hz⟩ : ∃ z, l[i].may = z := ⟨_, rfl⟩
      obtain ⟨dp, hdp⟩ : ∃ dp, l[i].deep = dp := ⟨_, rfl⟩
      obtain ⟨nd, hnd⟩ : ∃ nd, l[i].nodes = nd := ⟨_, rfl⟩
      have HEV := Lib.hid (show (l.take (i + 1)).all PT.may = (e0 && z) by rw [all_may_upto hlt, hz, HE0.out])
      have HDV := Lib.hid (show PT.deeps (l.take (i + 1)) = max dd dp by rw [PT.deeps_upto hlt, hdp, HDD.out])
      have HNV := Lib.hid (show 1 + PT.nodess (l.take (i + 1)) = nn + nd by rw [PT.nodess_upto hlt, hnd, HNN.out]; omega)
      have hbd := HNB.out (i + 1)
      rw [HNV.out] at hbd
      have hcs := PT.cnts_get hlt
      have hfs := PT.fats_get hlt
      have HSI := Lib.hid (show l[i].cnt ≤ 1000000 ∧ l[i].fat ≤ 100000 by have := HSM.out; omega)
      have HZ := Lib.hid hz; have HDP := Lib.hid hdp; have HND := Lib.hid hnd
      clear hz hdp hnd hrR hcs hfs
      rcases (by omega : dp ≤ dd ∨ dd < dp) with hm | hm <;> cases e0
      · go_wp2_with fail
        refine (deep_any 1000000 (by omega) _ _ _ HSI.out.1 hx).mono ?_
        rintro e wn ⟨rfl, hbn⟩
        rw [HDP.out]
        replace d0 := cell_stays hbn d0
        replace d1 := cell_stays hbn d1
        replace d2 := cell_stays hbn d2
        replace d3 := cell_stays hbn d3
        replace d4 := cell_stays hbn d4
        replace d5 := cell_stays hbn d5
        replace hx := hx.below hbn
        replace hW := hW.trans (hbn.mono hW.size)
        clear hbn
        go_wp2_with fail
        refine (nodes_any 1000000 (by omega) _ _ _ HSI.out.1 HSI.out.2 hx).mono ?_
        rintro e wn ⟨rfl, hbn⟩
        rw [HND.out]
        replace d0 := cell_stays hbn d0
        replace d1 := cell_stays hbn d1
        replace d2 := cell_stays hbn d2
        replace d3 := cell_stays hbn d3
        replace d4 := cell_stays hbn d4
        replace d5 := cell_stays hbn d5
        replace hx := hx.below hbn
        replace hW := hW.trans (hbn.mono hW.size)
        clear hbn
        go_wp2_with fail
        go_roundw
        case rel => exact ⟨i + 1, _, max dd dp, nn + nd, rfl, by go_num, by go_num, by go_num, by omega, HEV.out.symm, HDV.out.symm, HNV.out.symm, hW⟩
        case measure => simp [intOf]; omega
      · go_wp2_with fail
        refine (pmay_any _ _ _ HSI.out.1 HSI.out.2 hx).mono ?_
        rintro e wn ⟨rfl, hbn⟩
        rw [HZ.out]
        replace d0 := cell_stays hbn d0
        replace d1 := cell_stays hbn d1
        replace d2 := cell_stays hbn d2
        replace d3 := cell_stays hbn d3
        replace d4 := cell_stays hbn d4
        replace d5 := cell_stays hbn d5
        replace hx := hx.below hbn
        replace hW := hW.trans (hbn.mono hW.size)
        clear hbn
        go_wp2_with fail
        refine (deep_any 1000000 (by omega) _ _ _ HSI.out.1 hx).mono ?_
        rintro e wn ⟨rfl, hbn⟩
        rw [HDP.out]
        replace d0 := cell_stays hbn d0
        replace d1 := cell_stays hbn d1
        replace d2 := cell_stays hbn d2
        replace d3 := cell_stays hbn d3
        replace d4 := cell_stays hbn d4
        replace d5 := cell_stays hbn d5
        replace hx := hx.below hbn
        replace hW := hW.trans (hbn.mono hW.size)
        clear hbn
        go_wp2_with fail
        refine (nodes_any 1000000 (by omega) _ _ _ HSI.out.1 HSI.out.2 hx).mono ?_
        rintro e wn ⟨rfl, hbn⟩
        rw [HND.out]
        replace d0 := cell_stays hbn d0
        replace d1 := cell_stays hbn d1
        replace d2 := cell_stays hbn d2
        replace d3 := cell_stays hbn d3
        replace d4 := cell_stays hbn d4
        replace d5 := cell_stays hbn d5
        replace hx := hx.below hbn
        replace hW := hW.trans (hbn.mono hW.size)
        clear hbn
        go_wp2_with fail
        go_roundw
        case rel => exact ⟨i + 1, _, max dd dp, nn + nd, rfl, by go_num, by go_num, by go_num, by omega, HEV.out.symm, HDV.out.symm, HNV.out.symm, hW⟩
        case measure => simp [intOf]; omega
      · go_wp2_with fail
        refine (deep_any 1000000 (by omega) _ _ _ HSI.out.1 hx).mono ?_
        rintro e wn ⟨rfl, hbn⟩
        rw [HDP.out]
        replace d0 := cell_stays hbn d0
        replace d1 := cell_stays hbn d1
        replace d2 := cell_stays hbn d2
        replace d3 := cell_stays hbn d3
        replace d4 := cell_stays hbn d4
        replace d5 := cell_stays hbn d5
        replace hx := hx.below hbn
        replace hW := hW.trans (hbn.mono hW.size)
        clear hbn
        go_wp2_with fail
        refine (nodes_any 1000000 (by omega) _ _ _ HSI.out.1 HSI.out.2 hx).mono ?_
        rintro e wn ⟨rfl, hbn⟩
        rw [HND.out]
        replace d0 := cell_stays hbn d0
        replace d1 := cell_stays hbn d1
        replace d2 := cell_stays hbn d2
        replace d3 := cell_stays hbn d3
        replace d4 := cell_stays hbn d4
        replace d5 := cell_stays hbn d5
        replace hx := hx.below hbn
        replace hW := hW.trans (hbn.mono hW.size)
        clear hbn
        go_wp2_with fail
        go_roundw
        case rel => exact ⟨i + 1, _, max dd dp, nn + nd, rfl, by go_num, by go_num, by go_num, by omega, HEV.out.symm, HDV.out.symm, HNV.out.symm, hW⟩
        case measure => simp [intOf]; omega
      · go_wp2_with fail
        refine (pmay_any _ _ _ HSI.out.1 HSI.out.2 hx).mono ?_
        rintro e wn ⟨rfl, hbn⟩
        rw [HZ.out]
        replace d0 := cell_stays hbn d0
        replace d1 := cell_stays hbn d1
        replace d2 := cell_stays hbn d2
        replace d3 := cell_stays hbn d3
        replace d4 := cell_stays hbn d4
        replace d5 := cell_stays hbn d5
        replace hx := hx.below hbn
        replace hW := hW.trans (hbn.mono hW.size)
        clear hbn
        go_wp2_with fail
        refine (deep_any 1000000 (by omega) _ _ _ HSI.out.1 hx).mono ?_
        rintro e wn ⟨rfl, hbn⟩
        rw [HDP.out]
        replace d0 := cell_stays hbn d0
        replace d1 := cell_stays hbn d1
        replace d2 := cell_stays hbn d2
        replace d3 := cell_stays hbn d3
        replace d4 := cell_stays hbn d4
        replace d5 := cell_stays hbn d5
        replace hx := hx.below hbn
        replace hW := hW.trans (hbn.mono hW.size)
        clear hbn
        go_wp2_with fail
        refine (nodes_any 1000000 (by omega) _ _ _ HSI.out.1 HSI.out.2 hx).mono ?_
        rintro e wn ⟨rfl, hbn⟩
        rw [HND.out]
        replace d0 := cell_stays hbn d0
        replace d1 := cell_stays hbn d1
        replace d2 := cell_stays hbn d2
        replace d3 := cell_stays hbn d3
        replace d4 := cell_stays hbn d4
        replace d5 := cell_stays hbn d5
        replace hx := hx.below hbn
        replace hW := hW.trans (hbn.mono hW.size)
        clear hbn
        go_wp2_with fail
        go_roundw
        case rel => exact ⟨i + 1, _, max dd dp, nn + nd, rfl, by go_num, by go_num, by go_num, by omega, HEV.out.symm, HDV.out.symm, HNV.out.symm, hW⟩
        case measure => simp [intOf]; omega
    · have hii : i = l.length := by omega
      subst hii
      have n9 : decide ((l.length : Int) < (l.length : Int)) = false := by simp
      have hdd : dd = PT.deeps l := by rw [HDD.out, List.take_length]
      have hnn : nn = 1 + PT.nodess l := by rw [HNN.out, List.take_length]
      have he0 : e0 = l.all PT.may := by rw [HE0.out, List.take_length]
      have hnb := HNB.out l.length
      rw [List.take_length, ← hnn] at hnb
      have hdb : dd ≤ 3000 := by have h1 := PT.deeps_le l; have := HSM.out; omega
      have t1 : decide (PT.deeps l < 12) = decide ((dd : Int) < 12) := by rw [decide_eq_decide, ← hdd]; omega
      have t2 : decide (1 + PT.nodess l ≤ 512) = decide ((nn : Int) ≤ 512) := by rw [decide_eq_decide, ← hnn]; omega
      have t3 : decide (l.length ≤ 64) = decide ((l.length : Int) ≤ 64) := by rw [decide_eq_decide]; omega
      have HMA := Lib.hid (show (tA l).may = (((e0 && decide ((dd : Int) < 12)) && decide ((nn : Int) ≤ 512)) && decide ((l.length : Int) ≤ 64)) by rw [tA_may, ← he0, t1, t2, t3]; exact and4 _ _ _ _)
      have HMO := Lib.hid (show (tO l).may = (((e0 && decide ((dd : Int) < 12)) && decide ((nn : Int) ≤ 512)) && decide ((l.length : Int) ≤ 64)) by rw [tO_may]; exact HMA.out)
      have HD1 := Lib.hid (show (tA l).deep = dd + 1 by rw [tA_deep, hdd])
      have HN1 := Lib.hid (show (tA l).nodes = nn by rw [tA_nodes, hnn])
      have HSA := Lib.hid (tA_small HSM.out)
      have HSO := Lib.hid (tO_small HSM.out)
      clear hdd hnn he0 t1 t2 t3 HE0 HDD HNN HNB
      replace p0 := cell_stays hW p0
      replace p1 := cell_stays hW p1
      replace p2 := cell_stays hW p2
      replace hr := hr.below hW
      replace hy := hy.below hW
      replace hB := hB.trans (hW.mono hB.size)
      replace HBA := Lib.hid (HBA.out.below hW)
      have HR := Lib.hid hr
      have HBX : Hid (BoxV wR w.heap.size (VT.mk xk xn xl)) := Lib.hid ⟨_, _, _, _, _, p0, p1, p2, hy⟩
      have HBV := Lib.hid (fun W (h : Below wR.drew.heap.size wR.drew W) => (Below.refl _ wR).drew.trans h)
      clear p0 p1 p2 hy hW
      go_wp2_with fail
      refine wp_region_all (kindC [(62, (true, .pred (tA l))), (63, (true, .fixed (.int .i64 ((dd + 1 : Nat) : Int)))), (64, (true, .fixed (.int .i64 dd))), (65, (true, .fixed (.int .i64 ((dd + 1 : Nat) : Int)))), (66, (true, .fixed (.bool false))), (67, (true, .fixed (.bool false))), (68, (true, .pred (tA l))), (69, (true, .fixed (.int .i64 nn))), (70, (true, .fixed (.int .i64 nn))), (71, (true, .fixed (.bool false))), (72, (true, .fixed (.bool false))), (73, (true, .fixed (.bool false))), (74, (true, .pred (tA l))), (75, (true, .fixed (.bool (((e0 && decide ((dd : Int) < 12)) && decide ((nn : Int) ≤ 512)) && decide ((l.length : Int) ≤ 64))))), (76, (true, .fixed (.bool e0))), (77, (true, .fixed (.bool e0))), (78, (e0, .fixed (.int .i64 dd))), (79, (e0, .fixed (.bool (decide ((dd : Int) < 12))))), (80, (true, .fixed (.bool (e0 && decide ((dd : Int) < 12))))), (81, (true, .fixed (.bool (e0 && decide ((dd : Int) < 12))))), (82, ((e0 && decide ((dd : Int) < 12)), .fixed (.int .i64 nn))), (83, ((e0 && decide ((dd : Int) < 12)), .fixed (.bool (decide ((nn : Int) ≤ 512))))), (84, (true, .fixed (.bool ((e0 && decide ((dd : Int) < 12)) && decide ((nn : Int) ≤ 512))))), (85, (true, .fixed (.bool ((e0 && decide ((dd : Int) < 12)) && decide ((nn : Int) ≤ 512))))), (86, (((e0 && decide ((dd : Int) < 12)) && decide ((nn : Int) ≤ 512)), .row l)), (87, (((e0 && decide ((dd : Int) < 12)) && decide ((nn : Int) ≤ 512)), .fixed (.int .i64 l.length))), (88, (((e0 && decide ((dd : Int) < 12)) && decide ((nn : Int) ≤ 512)), .fixed (.bool (decide ((l.length : Int) ≤ 64))))), (89, (true, .fixed (.bool (((e0 && decide ((dd : Int) < 12)) && decide ((nn : Int) ≤ 512)) && decide ((l.length : Int) ≤ 64))))), (90, (true, .fixed (.bool false))), (91, (true, .fixed (.bool false))), (92, (true, .fixed (.bool false))), (93, (true, .row l)), (94, (true, .pred (tO l))), (95, (true, .fixed (.bool (((e0 && decide ((dd : Int) < 12)) && decide ((nn : Int) ≤ 512)) && decide ((l.length : Int) ≤ 64))))), (96, (true, .pred (tA l))), (97, (true, .fixed (.bool (((e0 && decide ((dd : Int) < 12)) && decide ((nn : Int) ≤ 512)) && decide ((l.length : Int) ≤ 64))))), (98, (true, .fixed (.bool false))), (99, (true, .fixed (.bool false)))]) 191 (by kernel_rfl) (by kernel_rfl) (by rfl) (kindC_mono _) ?_ ?_
      · refine (fm ?_ (fm ?_ (fm ?_ (fm ?_ (fm ?_ (fm ?_ (fm ?_ (fm ?_ (fm ?_ (fm ?_ (fm ?_ (fm ?_ (fm ?_ (fm ?_ (fm ?_ (fm ?_ (fm ?_ (fm ?_ (fm ?_ (fm ?_ (fm ?_ (fm ?_ (fm ?_ (fm ?_ (fm ?_ (fm ?_ (fm ?_ (fm ?_ (fm ?_ (fm ?_ (fm ?_ (fm ?_ (fm ?_ (fm ?_ (fm ?_ (fm ?_ (fm ?_ (fm ?_ fmnil))))))))))))))))))))))))))))))))))))))
        · intro r W hc hf hs hd hB
          have hBV := HBV.out W hB
          refine want_n rfl ?_
          have e : r (.tmp 5) = .pointer (some ⟨w9.heap.size, 0, none⟩) := hs 5 (of_decide_eq_true (by kernel_rfl))
          obtain ⟨qk, qvk, qvn, qva, qvl, qvc, qn, qa, ql, qc, g0, g1, g2, g3, g4, g5, hv⟩ := BoxP.below HBA.out hBV
          exact sc_value (v := .agg #[.int .u8 qk, .int .u8 qvk, .int .i64 qvn, .slice qva qvl qvc, .int .i64 qn, .slice qa ql qc]) rfl (by decide) (by go_simp) (fun _ => hv)
        · intro r W hc hf hs hd hB
          have hBV := HBV.out W hB
          refine want_n rfl ?_
          have h62 : PIn W (tA l) (r (.tmp 62)) := (hd 62 (by kernel_rfl)) rfl
          exact sc_call (f := 38) (args := #[r (.tmp 62)]) rfl (by decide) (by go_simp) (made_c (made_deep HD1.out HSA.out h62))
        · intro r W hc hf hs hd hB
          have hBV := HBV.out W hB
          refine want_n rfl ?_
          have e : r (.tmp 7) = (.int .i64 dd) := hs 7 (of_decide_eq_true (by kernel_rfl))
          exact sc_value (v := (.int .i64 dd)) rfl (by decide) (by go_simp) (fun _ => rfl)
        · intro r W hc hf hs hd hB
          have hBV := HBV.out W hB
          refine want_n rfl ?_
          have e64 : r (.tmp 64) = (.int .i64 dd) := (hd 64 (by kernel_rfl)) rfl
          exact sc_value (v := (.int .i64 ((dd + 1 : Nat) : Int))) rfl (by decide) (by go_simp <;> (rw [IntKind.wrap_i64]; omega)) (fun _ => rfl)
        · intro r W hc hf hs hd hB
          have hBV := HBV.out W hB
          refine want_n rfl ?_
          have e63 : r (.tmp 63) = (.int .i64 ((dd + 1 : Nat) : Int)) := (hd 63 (by kernel_rfl)) rfl
          have e65 : r (.tmp 65) = (.int .i64 ((dd + 1 : Nat) : Int)) := (hd 65 (by kernel_rfl)) rfl
          exact sc_value (v := (.bool false)) rfl (by decide) (by go_simp) (fun _ => rfl)
        · intro r W hc hf hs hd hB
          have hBV := HBV.out W hB
          refine want_n rfl ?_
          have e : r (.tmp 66) = (.bool false) := (hd 66 (by kernel_rfl)) rfl
          exact sc_value (v := (.bool false)) rfl (by decide) (by go_simp) (fun _ => rfl)
        · intro r W hc hf hs hd hB
          have hBV := HBV.out W hB
          refine want_g 5 67 rfl (by kernel_rfl) ((hd 67 (by kernel_rfl)) rfl : r (.tmp 67) = .bool false) ?_
          have e : r (.tmp 5) = .pointer (some ⟨w9.heap.size, 0, none⟩) := hs 5 (of_decide_eq_true (by kernel_rfl))
          obtain ⟨qk, qvk, qvn, qva, qvl, qvc, qn, qa, ql, qc, g0, g1, g2, g3, g4, g5, hv⟩ := BoxP.below HBA.out hBV
          exact sc_value (v := .agg #[.int .u8 qk, .int .u8 qvk, .int .i64 qvn, .slice qva qvl qvc, .int .i64 qn, .slice qa ql qc]) rfl (by decide) (by go_simp) (fun _ => hv)
        · intro r W hc hf hs hd hB
          have hBV := HBV.out W hB
          refine want_g 5 67 rfl (by kernel_rfl) ((hd 67 (by kernel_rfl)) rfl : r (.tmp 67) = .bool false) ?_
          have h68 : PIn W (tA l) (r (.tmp 68)) := (hd 68 (by kernel_rfl)) rfl
          exact sc_call (f := 39) (args := #[r (.tmp 68)]) rfl (by decide) (by go_simp) (made_c (made_nodes HN1.out HSA.out h68))
        · intro r W hc hf hs hd hB
          have hBV := HBV.out W hB
          refine want_g 5 67 rfl (by kernel_rfl) ((hd 67 (by kernel_rfl)) rfl : r (.tmp 67) = .bool false) ?_
          have e : r (.tmp 8) = (.int .i64 nn) := hs 8 (of_decide_eq_true (by kernel_rfl))
          exact sc_value (v := (.int .i64 nn)) rfl (by decide) (by go_simp) (fun _ => rfl)
        · intro r W hc hf hs hd hB
          have hBV := HBV.out W hB
          refine want_g 5 67 rfl (by kernel_rfl) ((hd 67 (by kernel_rfl)) rfl : r (.tmp 67) = .bool false) ?_
          have e69 : r (.tmp 69) = (.int .i64 nn) := (hd 69 (by kernel_rfl)) rfl
          have e70 : r (.tmp 70) = (.int .i64 nn) := (hd 70 (by kernel_rfl)) rfl
          exact sc_value (v := (.bool false)) rfl (by decide) (by go_simp) (fun _ => rfl)
        · intro r W hc hf hs hd hB
          have hBV := HBV.out W hB
          refine want_n rfl ?_
          have e67 : r (.tmp 67) = (.bool false) := (hd 67 (by kernel_rfl)) rfl
          have e71 : r (.tmp 71) = (.bool false) := (hd 71 (by kernel_rfl)) rfl
          exact sc_value (v := (.bool false)) rfl (by decide) (by go_simp) (fun _ => rfl)
        · intro r W hc hf hs hd hB
          have hBV := HBV.out W hB
          refine want_n rfl ?_
          have e : r (.tmp 72) = (.bool false) := (hd 72 (by kernel_rfl)) rfl
          exact sc_value (v := (.bool false)) rfl (by decide) (by go_simp) (fun _ => rfl)
        · intro r W hc hf hs hd hB
          have hBV := HBV.out W hB
          refine want_g 11 73 rfl (by kernel_rfl) ((hd 73 (by kernel_rfl)) rfl : r (.tmp 73) = .bool false) ?_
          have e : r (.tmp 5) = .pointer (some ⟨w9.heap.size, 0, none⟩) := hs 5 (of_decide_eq_true (by kernel_rfl))
          obtain ⟨qk, qvk, qvn, qva, qvl, qvc, qn, qa, ql, qc, g0, g1, g2, g3, g4, g5, hv⟩ := BoxP.below HBA.out hBV
          exact sc_value (v := .agg #[.int .u8 qk, .int .u8 qvk, .int .i64 qvn, .slice qva qvl qvc, .int .i64 qn, .slice qa ql qc]) rfl (by decide) (by go_simp) (fun _ => hv)
        · intro r W hc hf hs hd hB
          have hBV := HBV.out W hB
          refine want_g 11 73 rfl (by kernel_rfl) ((hd 73 (by kernel_rfl)) rfl : r (.tmp 73) = .bool false) ?_
          have h74 : PIn W (tA l) (r (.tmp 74)) := (hd 74 (by kernel_rfl)) rfl
          exact sc_call (f := 37) (args := #[r (.tmp 74)]) rfl (by decide) (by go_simp) (made_c (made_may HMA.out HSA.out h74))
        · intro r W hc hf hs hd hB
          have hBV := HBV.out W hB
          refine want_g 11 73 rfl (by kernel_rfl) ((hd 73 (by kernel_rfl)) rfl : r (.tmp 73) = .bool false) ?_
          have e : r (.tmp 6) = (.bool e0) := hs 6 (of_decide_eq_true (by kernel_rfl))
          exact sc_value (v := (.bool e0)) rfl (by decide) (by go_simp) (fun _ => rfl)
        · intro r W hc hf hs hd hB
          have hBV := HBV.out W hB
          refine want_g 11 73 rfl (by kernel_rfl) ((hd 73 (by kernel_rfl)) rfl : r (.tmp 73) = .bool false) ?_
          have e : r (.tmp 76) = (.bool e0) := (hd 76 (by kernel_rfl)) rfl
          exact sc_value (v := (.bool e0)) rfl (by decide) (by go_simp) (fun _ => rfl)
        · intro r W hc hf hs hd hB
          have hBV := HBV.out W hB
          refine want_c 15 77 rfl (by kernel_rfl) ((hd 77 (by kernel_rfl)) rfl : r (.tmp 77) = .bool e0) (fun hcc => ?_) (not_wanted rfl rfl)
          have e : r (.tmp 7) = (.int .i64 dd) := hs 7 (of_decide_eq_true (by kernel_rfl))
          exact sc_value (v := (.int .i64 dd)) rfl (by decide) (by go_simp) (fun _ => rfl)
        · intro r W hc hf hs hd hB
          have hBV := HBV.out W hB
          refine want_c 15 77 rfl (by kernel_rfl) ((hd 77 (by kernel_rfl)) rfl : r (.tmp 77) = .bool e0) (fun hcc => ?_) (not_wanted rfl rfl)
          have e78 : r (.tmp 78) = (.int .i64 dd) := (hd 78 (by kernel_rfl)) hcc
          exact sc_value (v := (.bool (decide ((dd : Int) < 12)))) rfl (by decide) (by go_simp) (fun _ => rfl)
        · intro r W hc hf hs hd hB
          have hBV := HBV.out W hB
          refine want_g 11 73 rfl (by kernel_rfl) ((hd 73 (by kernel_rfl)) rfl : r (.tmp 73) = .bool false) ?_
          have e77 : r (.tmp 77) = (.bool e0) := (hd 77 (by kernel_rfl)) rfl
          by_cases hcc : e0 = true
          · have e79 : r (.tmp 79) = (.bool (decide ((dd : Int) < 12))) := (hd 79 (by kernel_rfl)) hcc
            exact sc_value (v := (.bool (e0 && decide ((dd : Int) < 12)))) rfl (by decide) (by rw [hcc] at e77 ⊢; go_simp) (fun _ => rfl)
          · rw [Bool.not_eq_true] at hcc
            exact sc_value (v := (.bool (e0 && decide ((dd : Int) < 12)))) rfl (by decide) (by rw [hcc] at e77 ⊢; go_simp) (fun _ => rfl)
        · intro r W hc hf hs hd hB
          have hBV := HBV.out W hB
          refine want_g 11 73 rfl (by kernel_rfl) ((hd 73 (by kernel_rfl)) rfl : r (.tmp 73) = .bool false) ?_
          have e : r (.tmp 80) = (.bool (e0 && decide ((dd : Int) < 12))) := (hd 80 (by kernel_rfl)) rfl
          exact sc_value (v := (.bool (e0 && decide ((dd : Int) < 12)))) rfl (by decide) (by go_simp) (fun _ => rfl)
        · intro r W hc hf hs hd hB
          have hBV := HBV.out W hB
          refine want_c 19 81 rfl (by kernel_rfl) ((hd 81 (by kernel_rfl)) rfl : r (.tmp 81) = .bool (e0 && decide ((dd : Int) < 12))) (fun hcc => ?_) (not_wanted rfl rfl)
          have e : r (.tmp 8) = (.int .i64 nn) := hs 8 (of_decide_eq_true (by kernel_rfl))
          exact sc_value (v := (.int .i64 nn)) rfl (by decide) (by go_simp) (fun _ => rfl)
        · intro r W hc hf hs hd hB
          have hBV := HBV.out W hB
          refine want_c 19 81 rfl (by kernel_rfl) ((hd 81 (by kernel_rfl)) rfl : r (.tmp 81) = .bool (e0 && decide ((dd : Int) < 12))) (fun hcc => ?_) (not_wanted rfl rfl)
          have e82 : r (.tmp 82) = (.int .i64 nn) := (hd 82 (by kernel_rfl)) hcc
          exact sc_value (v := (.bool (decide ((nn : Int) ≤ 512)))) rfl (by decide) (by go_simp) (fun _ => rfl)
        · intro r W hc hf hs hd hB
          have hBV := HBV.out W hB
          refine want_g 11 73 rfl (by kernel_rfl) ((hd 73 (by kernel_rfl)) rfl : r (.tmp 73) = .bool false) ?_
          have e81 : r (.tmp 81) = (.bool (e0 && decide ((dd : Int) < 12))) := (hd 81 (by kernel_rfl)) rfl
          by_cases hcc : (e0 && decide ((dd : Int) < 12)) = true
          · have e83 : r (.tmp 83) = (.bool (decide ((nn : Int) ≤ 512))) := (hd 83 (by kernel_rfl)) hcc
            exact sc_value (v := (.bool ((e0 && decide ((dd : Int) < 12)) && decide ((nn : Int) ≤ 512)))) rfl (by decide) (by rw [hcc] at e81 ⊢; go_simp) (fun _ => rfl)
          · rw [Bool.not_eq_true] at hcc
            exact sc_value (v := (.bool ((e0 && decide ((dd : Int) < 12)) && decide ((nn : Int) ≤ 512)))) rfl (by decide) (by rw [hcc] at e81 ⊢; go_simp) (fun _ => rfl)
        · intro r W hc hf hs hd hB
          have hBV := HBV.out W hB
          refine want_g 11 73 rfl (by kernel_rfl) ((hd 73 (by kernel_rfl)) rfl : r (.tmp 73) = .bool false) ?_
          have e : r (.tmp 84) = (.bool ((e0 && decide ((dd : Int) < 12)) && decide ((nn : Int) ≤ 512))) := (hd 84 (by kernel_rfl)) rfl
          exact sc_value (v := (.bool ((e0 && decide ((dd : Int) < 12)) && decide ((nn : Int) ≤ 512)))) rfl (by decide) (by go_simp) (fun _ => rfl)
        · intro r W hc hf hs hd hB
          have hBV := HBV.out W hB
          refine want_c 23 85 rfl (by kernel_rfl) ((hd 85 (by kernel_rfl)) rfl : r (.tmp 85) = .bool ((e0 && decide ((dd : Int) < 12)) && decide ((nn : Int) ≤ 512))) (fun hcc => ?_) (not_wanted rfl rfl)
          have e : r (.tmp 0) = (.slice a l.length cap) := hs 0 (of_decide_eq_true (by kernel_rfl))
          exact sc_value (v := (.slice a l.length cap)) rfl (by decide) (by go_simp) (fun _ => ⟨_, _, _, rfl, rfl, HR.out.below hBV⟩)
        · intro r W hc hf hs hd hB
          have hBV := HBV.out W hB
          refine want_c 23 85 rfl (by kernel_rfl) ((hd 85 (by kernel_rfl)) rfl : r (.tmp 85) = .bool ((e0 && decide ((dd : Int) < 12)) && decide ((nn : Int) ≤ 512))) (fun hcc => ?_) (not_wanted rfl rfl)
          obtain ⟨ae, ne, ce, e, hne, hre⟩ : PQ.ok (.row l) (r (.tmp 86)) W := (hd 86 (by kernel_rfl)) hcc
          subst hne
          exact sc_value (v := (.int .i64 l.length)) rfl (by decide) (by go_simp) (fun _ => rfl)
        · intro r W hc hf hs hd hB
          have hBV := HBV.out W hB
          refine want_c 23 85 rfl (by kernel_rfl) ((hd 85 (by kernel_rfl)) rfl : r (.tmp 85) = .bool ((e0 && decide ((dd : Int) < 12)) && decide ((nn : Int) ≤ 512))) (fun hcc => ?_) (not_wanted rfl rfl)
          have e87 : r (.tmp 87) = (.int .i64 l.length) := (hd 87 (by kernel_rfl)) hcc
          exact sc_value (v := (.bool (decide ((l.length : Int) ≤ 64)))) rfl (by decide) (by go_simp) (fun _ => rfl)
        · intro r W hc hf hs hd hB
          have hBV := HBV.out W hB
          refine want_g 11 73 rfl (by kernel_rfl) ((hd 73 (by kernel_rfl)) rfl : r (.tmp 73) = .bool false) ?_
          have e85 : r (.tmp 85) = (.bool ((e0 && decide ((dd : Int) < 12)) && decide ((nn : Int) ≤ 512))) := (hd 85 (by kernel_rfl)) rfl
          by_cases hcc : ((e0 && decide ((dd : Int) < 12)) && decide ((nn : Int) ≤ 512)) = true
          · have e88 : r (.tmp 88) = (.bool (decide ((l.length : Int) ≤ 64))) := (hd 88 (by kernel_rfl)) hcc
            exact sc_value (v := (.bool (((e0 && decide ((dd : Int) < 12)) && decide ((nn : Int) ≤ 512)) && decide ((l.length : Int) ≤ 64)))) rfl (by decide) (by rw [hcc] at e85 ⊢; go_simp) (fun _ => rfl)
          · rw [Bool.not_eq_true] at hcc
            exact sc_value (v := (.bool (((e0 && decide ((dd : Int) < 12)) && decide ((nn : Int) ≤ 512)) && decide ((l.length : Int) ≤ 64)))) rfl (by decide) (by rw [hcc] at e85 ⊢; go_simp) (fun _ => rfl)
        · intro r W hc hf hs hd hB
          have hBV := HBV.out W hB
          refine want_g 11 73 rfl (by kernel_rfl) ((hd 73 (by kernel_rfl)) rfl : r (.tmp 73) = .bool false) ?_
          have e75 : r (.tmp 75) = (.bool (((e0 && decide ((dd : Int) < 12)) && decide ((nn : Int) ≤ 512)) && decide ((l.length : Int) ≤ 64))) := (hd 75 (by kernel_rfl)) rfl
          have e89 : r (.tmp 89) = (.bool (((e0 && decide ((dd : Int) < 12)) && decide ((nn : Int) ≤ 512)) && decide ((l.length : Int) ≤ 64))) := (hd 89 (by kernel_rfl)) rfl
          exact sc_value (v := (.bool false)) rfl (by decide) (by go_simp) (fun _ => rfl)
        · intro r W hc hf hs hd hB
          have hBV := HBV.out W hB
          refine want_n rfl ?_
          have e73 : r (.tmp 73) = (.bool false) := (hd 73 (by kernel_rfl)) rfl
          have e90 : r (.tmp 90) = (.bool false) := (hd 90 (by kernel_rfl)) rfl
          exact sc_value (v := (.bool false)) rfl (by decide) (by go_simp) (fun _ => rfl)
        · intro r W hc hf hs hd hB
          have hBV := HBV.out W hB
          refine want_n rfl ?_
          have e : r (.tmp 91) = (.bool false) := (hd 91 (by kernel_rfl)) rfl
          exact sc_value (v := (.bool false)) rfl (by decide) (by go_simp) (fun _ => rfl)
        · intro r W hc hf hs hd hB
          have hBV := HBV.out W hB
          refine want_g 30 92 rfl (by kernel_rfl) ((hd 92 (by kernel_rfl)) rfl : r (.tmp 92) = .bool false) ?_
          have e : r (.tmp 0) = (.slice a l.length cap) := hs 0 (of_decide_eq_true (by kernel_rfl))
          exact sc_value (v := (.slice a l.length cap)) rfl (by decide) (by go_simp) (fun _ => ⟨_, _, _, rfl, rfl, HR.out.below hBV⟩)
        · intro r W hc hf hs hd hB
          have hBV := HBV.out W hB
          refine want_g 30 92 rfl (by kernel_rfl) ((hd 92 (by kernel_rfl)) rfl : r (.tmp 92) = .bool false) ?_
          obtain ⟨ah93, nh93, ch93, h93, hnh93, hrh93⟩ : PQ.ok (.row l) (r (.tmp 93)) W := (hd 93 (by kernel_rfl)) rfl
          exact sc_call (f := 24) (args := #[.slice ah93 nh93 ch93]) rfl (by decide) (by go_simp) (made_c (made_pred (por_n hnh93 (by rw [hnh93]; first | (simp; done) | omega) hrh93)))
        · intro r W hc hf hs hd hB
          have hBV := HBV.out W hB
          refine want_g 30 92 rfl (by kernel_rfl) ((hd 92 (by kernel_rfl)) rfl : r (.tmp 92) = .bool false) ?_
          have h94 : PIn W (tO l) (r (.tmp 94)) := (hd 94 (by kernel_rfl)) rfl
          exact sc_call (f := 37) (args := #[r (.tmp 94)]) rfl (by decide) (by go_simp) (made_c (made_may HMO.out HSO.out h94))
        · intro r W hc hf hs hd hB
          have hBV := HBV.out W hB
          refine want_g 30 92 rfl (by kernel_rfl) ((hd 92 (by kernel_rfl)) rfl : r (.tmp 92) = .bool false) ?_
          have e : r (.tmp 5) = .pointer (some ⟨w9.heap.size, 0, none⟩) := hs 5 (of_decide_eq_true (by kernel_rfl))
          obtain ⟨qk, qvk, qvn, qva, qvl, qvc, qn, qa, ql, qc, g0, g1, g2, g3, g4, g5, hv⟩ := BoxP.below HBA.out hBV
          exact sc_value (v := .agg #[.int .u8 qk, .int .u8 qvk, .int .i64 qvn, .slice qva qvl qvc, .int .i64 qn, .slice qa ql qc]) rfl (by decide) (by go_simp) (fun _ => hv)
        · intro r W hc hf hs hd hB
          have hBV := HBV.out W hB
          refine want_g 30 92 rfl (by kernel_rfl) ((hd 92 (by kernel_rfl)) rfl : r (.tmp 92) = .bool false) ?_
          have h96 : PIn W (tA l) (r (.tmp 96)) := (hd 96 (by kernel_rfl)) rfl
          exact sc_call (f := 37) (args := #[r (.tmp 96)]) rfl (by decide) (by go_simp) (made_c (made_may HMA.out HSA.out h96))
        · intro r W hc hf hs hd hB
          have hBV := HBV.out W hB
          refine want_g 30 92 rfl (by kernel_rfl) ((hd 92 (by kernel_rfl)) rfl : r (.tmp 92) = .bool false) ?_
          have e95 : r (.tmp 95) = (.bool (((e0 && decide ((dd : Int) < 12)) && decide ((nn : Int) ≤ 512)) && decide ((l.length : Int) ≤ 64))) := (hd 95 (by kernel_rfl)) rfl
          have e97 : r (.tmp 97) = (.bool (((e0 && decide ((dd : Int) < 12)) && decide ((nn : Int) ≤ 512)) && decide ((l.length : Int) ≤ 64))) := (hd 97 (by kernel_rfl)) rfl
          exact sc_value (v := (.bool false)) rfl (by decide) (by go_simp) (fun _ => rfl)
        · intro r W hc hf hs hd hB
          have hBV := HBV.out W hB
          refine want_n rfl ?_
          have e92 : r (.tmp 92) = (.bool false) := (hd 92 (by kernel_rfl)) rfl
          have e98 : r (.tmp 98) = (.bool false) := (hd 98 (by kernel_rfl)) rfl
          exact sc_value (v := (.bool false)) rfl (by decide) (by go_simp) (fun _ => rfl)
      intro f4 wB hfd hB4
      have z99 : f4 99 = .bool false := hfd 99 (of_decide_eq_true (by kernel_rfl)) rfl
      have mB := HBV.out wB hB4
      rw [show dstsTo _ _ = [62, 63, 64, 65, 66, 67, 68, 69, 70, 71, 72, 73, 74, 75, 76, 77, 78, 79, 80, 81, 82, 83, 84, 85, 86, 87, 88, 89, 90, 91, 92, 93, 94, 95, 96, 97, 98, 99] from by kernel_rfl]
      simp only [fill, List.setIfInBounds_toArray, List.set_cons_succ, List.set_cons_zero, z99]
      clear hfd z99 hB4
      replace hr := hr.below mB
      replace hB := hB.trans (mB.mono hB.size)
      replace HBX := Lib.hid (HBX.out.below mB)
      clear HBA HR HBV mB HMA HMO HD1 HN1 HSA HSO hnb hdb n9 hlt hi
      go_wp2_with fail
      go_loopw [10] (fun x wr => ∃ i : Nat, x = .int .i64 i ∧ i ≤ l.length ∧ Below wB.heap.size wB wr) (fun x _ => l.length - (intOf x).toNat)
      case atStart => exact ⟨0, rfl, by omega, Below.refl _ _⟩
      case round =>
        obtain ⟨i, rfl, hi, hW⟩ := hrel
        rename World => wS
        by_cases hlt : i < l.length
        · obtain ⟨pb, po, rfl, ax, ac, a2, cap2, d0, d1, d2, d3, d4, d5, hx⟩ := (hr.below hW).got i hlt
          have hcs := PT.cnts_get hlt
          have hfs := PT.fats_get hlt
          have HSI := Lib.hid (show l[i].cnt ≤ 3000 ∧ l[i].fat ≤ 6000 by have := HSM.out; omega)
          obtain ⟨t, ht⟩ : ∃ t, t = l[i] := ⟨_, rfl⟩
          rw [← ht] at d0 d1 d2 d3 d4 d5 hx HSI
          obtain ⟨z, hz⟩ : ∃ z, t.may = z := ⟨_, rfl⟩
          obtain ⟨dp, hdp⟩ : ∃ dp, t.deep = dp := ⟨_, rfl⟩
          obtain ⟨nd, hnd⟩ : ∃ nd, t.nodes = nd := ⟨_, rfl⟩
          obtain ⟨m, hm⟩ : ∃ m, (z && (decide (dp < 12) && decide (nd < 512))) = m := ⟨_, rfl⟩
          have HMM := Lib.hid (fun (u : PT) (hu : u ∈ five t) => show u.may = m by rw [five_may t u hu, hz, hdp, hnd, hm])
          have HS5 := Lib.hid (five_small HSI.out)
          have HZ := Lib.hid hz; have HDP := Lib.hid hdp; have HND := Lib.hid hnd; have HM := Lib.hid hm
          clear hz hdp hnd hm ht hcs hfs
          have HAT : Hid (AtP wS pb (po + i * 6) t) := Lib.hid ⟨_, _, _, _, _, _, _, _, _, _, d0, d1, d2, d3, d4, d5, hx⟩
          go_upto_region 16 with fail
          go_cut [11] (fun s wx => s = .bool m ∧ Below wS.heap.size wS wx)
          case first =>
            have hC := Below.refl wS.heap.size wS
            go_wp2_with fail
            refine (pmay_any _ _ _ (by have := HSI.out; omega) (by have := HSI.out; omega) hx).mono ?_
            rintro e wn ⟨rfl, hbn⟩
            rw [HZ.out]
            replace d0 := cell_stays hbn d0
            replace d1 := cell_stays hbn d1
            replace d2 := cell_stays hbn d2
            replace d3 := cell_stays hbn d3
            replace d4 := cell_stays hbn d4
            replace d5 := cell_stays hbn d5
            replace hx := hx.below hbn
            replace hC := hC.trans (hbn.mono hC.size)
            clear hbn
            cases z
            · go_wp2_with fail
              go_meet
              exact ⟨by rw [← HM.out]; rfl, hC⟩
            · go_wp2_with fail
              refine (deep_any 1000000 (by omega) _ _ _ (by have := HSI.out; omega) hx).mono ?_
              rintro e wn ⟨rfl, hbn⟩
              rw [HDP.out]
              replace d0 := cell_stays hbn d0
              replace d1 := cell_stays hbn d1
              replace d2 := cell_stays hbn d2
              replace d3 := cell_stays hbn d3
              replace d4 := cell_stays hbn d4
              replace d5 := cell_stays hbn d5
              replace hx := hx.below hbn
              replace hC := hC.trans (hbn.mono hC.size)
              clear hbn
              by_cases h12 : dp < 12
              · go_wp2_with fail
                refine (nodes_any 1000000 (by omega) _ _ _ (by have := HSI.out; omega) (by have := HSI.out; omega) hx).mono ?_
                rintro e wn ⟨rfl, hbn⟩
                rw [HND.out]
                replace d0 := cell_stays hbn d0
                replace d1 := cell_stays hbn d1
                replace d2 := cell_stays hbn d2
                replace d3 := cell_stays hbn d3
                replace d4 := cell_stays hbn d4
                replace d5 := cell_stays hbn d5
                replace hx := hx.below hbn
                replace hC := hC.trans (hbn.mono hC.size)
                clear hbn
                go_wp2_with fail
                go_meet
                exact ⟨by rw [← HM.out, decide_eq_true h12]; simp; omega, hC⟩
              · go_wp2_with fail
                go_meet
                exact ⟨by rw [← HM.out, decide_eq_false h12]; simp, hC⟩
          case rest =>
            obtain ⟨rfl, hC⟩ := hcut
            rename World => wc
            replace HAT := Lib.hid (HAT.out.below hC)
            replace hW := hW.trans (hC.mono hW.size)
            have HBV := Lib.hid (fun W (h : Below wc.drew.heap.size wc.drew W) => (Below.refl _ wc).drew.trans h)
            clear d0 d1 d2 d3 d4 d5 hx hC HZ HDP HND HM
            have i0 : (0 : Int) ≤ (i : Int) := by omega
            have i1 : (i : Int) < (l.length : Int) := by omega
            go_wp2_with fail
            refine wp_region_all (kindC [(127, (true, .fixed (.slice (some ⟨pb, po, none⟩) l.length cap))), (128, (true, .fixed (.int .i64 i))), (129, (true, .fixed (.pointer (some ⟨pb, po + i * 6, none⟩)))), (130, (true, .pred t)), (131, (true, .pred (tN t))), (132, (true, .fixed (.slice (some ⟨pb, po, none⟩) l.length cap))), (133, (true, .fixed (.int .i64 i))), (134, (true, .fixed (.pointer (some ⟨pb, po + i * 6, none⟩)))), (135, (true, .pred t)), (136, (true, .pred (tAtn 64 t))), (137, (true, .fixed (.slice (some ⟨pb, po, none⟩) l.length cap))), (138, (true, .fixed (.int .i64 i))), (139, (true, .fixed (.pointer (some ⟨pb, po + i * 6, none⟩)))), (140, (true, .pred t)), (141, (true, .pred (tAl t))), (142, (true, .fixed (.slice (some ⟨pb, po, none⟩) l.length cap))), (143, (true, .fixed (.int .i64 i))), (144, (true, .fixed (.pointer (some ⟨pb, po + i * 6, none⟩)))), (145, (true, .pred t)), (146, (true, .pred (tAn t))), (147, (true, .fixed (.slice (some ⟨pb, po, none⟩) l.length cap))), (148, (true, .fixed (.int .i64 i))), (149, (true, .fixed (.pointer (some ⟨pb, po + i * 6, none⟩)))), (150, (true, .pred t)), (151, (true, .pred (tLn t))), (152, (true, .row [(tN t), (tAtn 64 t), (tAl t), (tAn t), (tLn t)])), (153, (true, .fixed (.int .i64 5))), (154, (true, .fixed (.int .i64 0)))]) 191 (by kernel_rfl) (by kernel_rfl) (by rfl) (kindC_mono _) ?_ ?_
            · refine (fm ?_ (fm ?_ (fm ?_ (fm ?_ (fm ?_ (fm ?_ (fm ?_ (fm ?_ (fm ?_ (fm ?_ (fm ?_ (fm ?_ (fm ?_ (fm ?_ (fm ?_ (fm ?_ (fm ?_ (fm ?_ (fm ?_ (fm ?_ (fm ?_ (fm ?_ (fm ?_ (fm ?_ (fm ?_ (fm ?_ (fm ?_ (fm ?_ fmnil))))))))))))))))))))))))))))
              · intro r W hc hf hs hd hB
                have hBV := HBV.out W hB
                refine want_n rfl ?_
                have e : r (.tmp 0) = (.slice (some ⟨pb, po, none⟩) l.length cap) := hs 0 (of_decide_eq_true (by kernel_rfl))
                exact sc_value (v := (.slice (some ⟨pb, po, none⟩) l.length cap)) rfl (by decide) (by go_simp) (fun _ => rfl)
              · intro r W hc hf hs hd hB
                have hBV := HBV.out W hB
                refine want_n rfl ?_
                have e : r (.tmp 10) = (.int .i64 i) := hs 10 (of_decide_eq_true (by kernel_rfl))
                exact sc_value (v := (.int .i64 i)) rfl (by decide) (by go_simp) (fun _ => rfl)
              · intro r W hc hf hs hd hB
                have hBV := HBV.out W hB
                refine want_n rfl ?_
                have e127 : r (.tmp 127) = (.slice (some ⟨pb, po, none⟩) l.length cap) := (hd 127 (by kernel_rfl)) rfl
                have e128 : r (.tmp 128) = (.int .i64 i) := (hd 128 (by kernel_rfl)) rfl
                exact sc_value (v := (.pointer (some ⟨pb, po + i * 6, none⟩))) rfl (by decide) (by go_simp) (fun _ => rfl)
              · intro r W hc hf hs hd hB
                have hBV := HBV.out W hB
                refine want_n rfl ?_
                have e : r (.tmp 129) = (.pointer (some ⟨pb, po + i * 6, none⟩)) := (hd 129 (by kernel_rfl)) rfl
                obtain ⟨qk, qvk, qvn, qva, qvl, qvc, qn, qa, ql, qc, g0, g1, g2, g3, g4, g5, hv⟩ := AtP.below HAT.out hBV
                exact sc_value (v := .agg #[.int .u8 qk, .int .u8 qvk, .int .i64 qvn, .slice qva qvl qvc, .int .i64 qn, .slice qa ql qc]) rfl (by decide) (by go_simp) (fun _ => hv)
              · intro r W hc hf hs hd hB
                have hBV := HBV.out W hB
                refine want_n rfl ?_
                have h130 : PIn W t (r (.tmp 130)) := (hd 130 (by kernel_rfl)) rfl
                exact sc_call (f := 23) (args := #[r (.tmp 130)]) rfl (by decide) (by go_simp) (made_c (made_pred (pnot_any _ _ _ h130)))
              · intro r W hc hf hs hd hB
                have hBV := HBV.out W hB
                refine want_n rfl ?_
                have e : r (.tmp 0) = (.slice (some ⟨pb, po, none⟩) l.length cap) := hs 0 (of_decide_eq_true (by kernel_rfl))
                exact sc_value (v := (.slice (some ⟨pb, po, none⟩) l.length cap)) rfl (by decide) (by go_simp) (fun _ => rfl)
              · intro r W hc hf hs hd hB
                have hBV := HBV.out W hB
                refine want_n rfl ?_
                have e : r (.tmp 10) = (.int .i64 i) := hs 10 (of_decide_eq_true (by kernel_rfl))
                exact sc_value (v := (.int .i64 i)) rfl (by decide) (by go_simp) (fun _ => rfl)
              · intro r W hc hf hs hd hB
                have hBV := HBV.out W hB
                refine want_n rfl ?_
                have e132 : r (.tmp 132) = (.slice (some ⟨pb, po, none⟩) l.length cap) := (hd 132 (by kernel_rfl)) rfl
                have e133 : r (.tmp 133) = (.int .i64 i) := (hd 133 (by kernel_rfl)) rfl
                exact sc_value (v := (.pointer (some ⟨pb, po + i * 6, none⟩))) rfl (by decide) (by go_simp) (fun _ => rfl)
              · intro r W hc hf hs hd hB
                have hBV := HBV.out W hB
                refine want_n rfl ?_
                have e : r (.tmp 134) = (.pointer (some ⟨pb, po + i * 6, none⟩)) := (hd 134 (by kernel_rfl)) rfl
                obtain ⟨qk, qvk, qvn, qva, qvl, qvc, qn, qa, ql, qc, g0, g1, g2, g3, g4, g5, hv⟩ := AtP.below HAT.out hBV
                exact sc_value (v := .agg #[.int .u8 qk, .int .u8 qvk, .int .i64 qvn, .slice qva qvl qvc, .int .i64 qn, .slice qa ql qc]) rfl (by decide) (by go_simp) (fun _ => hv)
              · intro r W hc hf hs hd hB
                have hBV := HBV.out W hB
                refine want_n rfl ?_
                have h135 : PIn W t (r (.tmp 135)) := (hd 135 (by kernel_rfl)) rfl
                exact sc_call (f := 28) (args := #[.int .i64 64, r (.tmp 135)]) rfl (by decide) (by go_simp) (made_c (made_pred (pat_any 64 _ _ _ h135)))
              · intro r W hc hf hs hd hB
                have hBV := HBV.out W hB
                refine want_n rfl ?_
                have e : r (.tmp 0) = (.slice (some ⟨pb, po, none⟩) l.length cap) := hs 0 (of_decide_eq_true (by kernel_rfl))
                exact sc_value (v := (.slice (some ⟨pb, po, none⟩) l.length cap)) rfl (by decide) (by go_simp) (fun _ => rfl)
              · intro r W hc hf hs hd hB
                have hBV := HBV.out W hB
                refine want_n rfl ?_
                have e : r (.tmp 10) = (.int .i64 i) := hs 10 (of_decide_eq_true (by kernel_rfl))
                exact sc_value (v := (.int .i64 i)) rfl (by decide) (by go_simp) (fun _ => rfl)
              · intro r W hc hf hs hd hB
                have hBV := HBV.out W hB
                refine want_n rfl ?_
                have e137 : r (.tmp 137) = (.slice (some ⟨pb, po, none⟩) l.length cap) := (hd 137 (by kernel_rfl)) rfl
                have e138 : r (.tmp 138) = (.int .i64 i) := (hd 138 (by kernel_rfl)) rfl
                exact sc_value (v := (.pointer (some ⟨pb, po + i * 6, none⟩))) rfl (by decide) (by go_simp) (fun _ => rfl)
              · intro r W hc hf hs hd hB
                have hBV := HBV.out W hB
                refine want_n rfl ?_
                have e : r (.tmp 139) = (.pointer (some ⟨pb, po + i * 6, none⟩)) := (hd 139 (by kernel_rfl)) rfl
                obtain ⟨qk, qvk, qvn, qva, qvl, qvc, qn, qa, ql, qc, g0, g1, g2, g3, g4, g5, hv⟩ := AtP.below HAT.out hBV
                exact sc_value (v := .agg #[.int .u8 qk, .int .u8 qvk, .int .i64 qvn, .slice qva qvl qvc, .int .i64 qn, .slice qa ql qc]) rfl (by decide) (by go_simp) (fun _ => hv)
              · intro r W hc hf hs hd hB
                have hBV := HBV.out W hB
                refine want_n rfl ?_
                have h140 : PIn W t (r (.tmp 140)) := (hd 140 (by kernel_rfl)) rfl
                exact sc_call (f := 29) (args := #[r (.tmp 140)]) rfl (by decide) (by go_simp) (made_c (made_pred (pall_any _ _ _ h140)))
              · intro r W hc hf hs hd hB
                have hBV := HBV.out W hB
                refine want_n rfl ?_
                have e : r (.tmp 0) = (.slice (some ⟨pb, po, none⟩) l.length cap) := hs 0 (of_decide_eq_true (by kernel_rfl))
                exact sc_value (v := (.slice (some ⟨pb, po, none⟩) l.length cap)) rfl (by decide) (by go_simp) (fun _ => rfl)
              · intro r W hc hf hs hd hB
                have hBV := HBV.out W hB
                refine want_n rfl ?_
                have e : r (.tmp 10) = (.int .i64 i) := hs 10 (of_decide_eq_true (by kernel_rfl))
                exact sc_value (v := (.int .i64 i)) rfl (by decide) (by go_simp) (fun _ => rfl)
              · intro r W hc hf hs hd hB
                have hBV := HBV.out W hB
                refine want_n rfl ?_
                have e142 : r (.tmp 142) = (.slice (some ⟨pb, po, none⟩) l.length cap) := (hd 142 (by kernel_rfl)) rfl
                have e143 : r (.tmp 143) = (.int .i64 i) := (hd 143 (by kernel_rfl)) rfl
                exact sc_value (v := (.pointer (some ⟨pb, po + i * 6, none⟩))) rfl (by decide) (by go_simp) (fun _ => rfl)
              · intro r W hc hf hs hd hB
                have hBV := HBV.out W hB
                refine want_n rfl ?_
                have e : r (.tmp 144) = (.pointer (some ⟨pb, po + i * 6, none⟩)) := (hd 144 (by kernel_rfl)) rfl
                obtain ⟨qk, qvk, qvn, qva, qvl, qvc, qn, qa, ql, qc, g0, g1, g2, g3, g4, g5, hv⟩ := AtP.below HAT.out hBV
                exact sc_value (v := .agg #[.int .u8 qk, .int .u8 qvk, .int .i64 qvn, .slice qva qvl qvc, .int .i64 qn, .slice qa ql qc]) rfl (by decide) (by go_simp) (fun _ => hv)
              · intro r W hc hf hs hd hB
                have hBV := HBV.out W hB
                refine want_n rfl ?_
                have h145 : PIn W t (r (.tmp 145)) := (hd 145 (by kernel_rfl)) rfl
                exact sc_call (f := 30) (args := #[r (.tmp 145)]) rfl (by decide) (by go_simp) (made_c (made_pred (pany_any _ _ _ h145)))
              · intro r W hc hf hs hd hB
                have hBV := HBV.out W hB
                refine want_n rfl ?_
                have e : r (.tmp 0) = (.slice (some ⟨pb, po, none⟩) l.length cap) := hs 0 (of_decide_eq_true (by kernel_rfl))
                exact sc_value (v := (.slice (some ⟨pb, po, none⟩) l.length cap)) rfl (by decide) (by go_simp) (fun _ => rfl)
              · intro r W hc hf hs hd hB
                have hBV := HBV.out W hB
                refine want_n rfl ?_
                have e : r (.tmp 10) = (.int .i64 i) := hs 10 (of_decide_eq_true (by kernel_rfl))
                exact sc_value (v := (.int .i64 i)) rfl (by decide) (by go_simp) (fun _ => rfl)
              · intro r W hc hf hs hd hB
                have hBV := HBV.out W hB
                refine want_n rfl ?_
                have e147 : r (.tmp 147) = (.slice (some ⟨pb, po, none⟩) l.length cap) := (hd 147 (by kernel_rfl)) rfl
                have e148 : r (.tmp 148) = (.int .i64 i) := (hd 148 (by kernel_rfl)) rfl
                exact sc_value (v := (.pointer (some ⟨pb, po + i * 6, none⟩))) rfl (by decide) (by go_simp) (fun _ => rfl)
              · intro r W hc hf hs hd hB
                have hBV := HBV.out W hB
                refine want_n rfl ?_
                have e : r (.tmp 149) = (.pointer (some ⟨pb, po + i * 6, none⟩)) := (hd 149 (by kernel_rfl)) rfl
                obtain ⟨qk, qvk, qvn, qva, qvl, qvc, qn, qa, ql, qc, g0, g1, g2, g3, g4, g5, hv⟩ := AtP.below HAT.out hBV
                exact sc_value (v := .agg #[.int .u8 qk, .int .u8 qvk, .int .i64 qvn, .slice qva qvl qvc, .int .i64 qn, .slice qa ql qc]) rfl (by decide) (by go_simp) (fun _ => hv)
              · intro r W hc hf hs hd hB
                have hBV := HBV.out W hB
                refine want_n rfl ?_
                have h150 : PIn W t (r (.tmp 150)) := (hd 150 (by kernel_rfl)) rfl
                exact sc_call (f := 31) (args := #[r (.tmp 150)]) rfl (by decide) (by go_simp) (made_c (made_pred (plen_any _ _ _ h150)))
              · intro r W hc hf hs hd hB
                have hBV := HBV.out W hB
                refine want_n rfl ?_
                have h131 : PIn W (tN t) (r (.tmp 131)) := (hd 131 (by kernel_rfl)) rfl
                obtain ⟨k131, vk131, vn131, va131, vl131, vc131, n131, a131, l131, c131, e131⟩ := PIn.agg h131
                rw [e131] at h131
                have h136 : PIn W (tAtn 64 t) (r (.tmp 136)) := (hd 136 (by kernel_rfl)) rfl
                obtain ⟨k136, vk136, vn136, va136, vl136, vc136, n136, a136, l136, c136, e136⟩ := PIn.agg h136
                rw [e136] at h136
                have h141 : PIn W (tAl t) (r (.tmp 141)) := (hd 141 (by kernel_rfl)) rfl
                obtain ⟨k141, vk141, vn141, va141, vl141, vc141, n141, a141, l141, c141, e141⟩ := PIn.agg h141
                rw [e141] at h141
                have h146 : PIn W (tAn t) (r (.tmp 146)) := (hd 146 (by kernel_rfl)) rfl
                obtain ⟨k146, vk146, vn146, va146, vl146, vc146, n146, a146, l146, c146, e146⟩ := PIn.agg h146
                rw [e146] at h146
                have h151 : PIn W (tLn t) (r (.tmp 151)) := (hd 151 (by kernel_rfl)) rfl
                obtain ⟨k151, vk151, vn151, va151, vl151, vc151, n151, a151, l151, c151, e151⟩ := PIn.agg h151
                rw [e151] at h151
                exact sc_new (v := .slice (some ⟨W.heap.size, 0, none⟩) 5 5) (w' := W.alloc (.cells #[.int .u8 k131, .int .u8 vk131, .int .i64 vn131, .slice va131 vl131 vc131, .int .i64 n131, .slice a131 l131 c131, .int .u8 k136, .int .u8 vk136, .int .i64 vn136, .slice va136 vl136 vc136, .int .i64 n136, .slice a136 l136 c136, .int .u8 k141, .int .u8 vk141, .int .i64 vn141, .slice va141 vl141 vc141, .int .i64 n141, .slice a141 l141 c141, .int .u8 k146, .int .u8 vk146, .int .i64 vn146, .slice va146 vl146 vc146, .int .i64 n146, .slice a146 l146 c146, .int .u8 k151, .int .u8 vk151, .int .i64 vn151, .slice va151 vl151 vc151, .int .i64 n151, .slice a151 l151 c151] 27)) rfl (by decide) (by go_simp) (Below.al _) (fun _ => ⟨_, _, _, rfl, rfl, (prow_cons (v0 := .int .u8 k131) (v1 := .int .u8 vk131) (v2 := .int .i64 vn131) (v3 := .slice va131 vl131 vc131) (v4 := .int .i64 n131) (v5 := .slice a131 l131 c131) (by go_simp) (by go_simp) (by go_simp) (by go_simp) (by go_simp) (by go_simp) (h131.below (Below.al _)) (prow_cons (v0 := .int .u8 k136) (v1 := .int .u8 vk136) (v2 := .int .i64 vn136) (v3 := .slice va136 vl136 vc136) (v4 := .int .i64 n136) (v5 := .slice a136 l136 c136) (by go_simp) (by go_simp) (by go_simp) (by go_simp) (by go_simp) (by go_simp) (h136.below (Below.al _)) (prow_cons (v0 := .int .u8 k141) (v1 := .int .u8 vk141) (v2 := .int .i64 vn141) (v3 := .slice va141 vl141 vc141) (v4 := .int .i64 n141) (v5 := .slice a141 l141 c141) (by go_simp) (by go_simp) (by go_simp) (by go_simp) (by go_simp) (by go_simp) (h141.below (Below.al _)) (prow_cons (v0 := .int .u8 k146) (v1 := .int .u8 vk146) (v2 := .int .i64 vn146) (v3 := .slice va146 vl146 vc146) (v4 := .int .i64 n146) (v5 := .slice a146 l146 c146) (by go_simp) (by go_simp) (by go_simp) (by go_simp) (by go_simp) (by go_simp) (h146.below (Below.al _)) (prow_cons (v0 := .int .u8 k151) (v1 := .int .u8 vk151) (v2 := .int .i64 vn151) (v3 := .slice va151 vl151 vc151) (v4 := .int .i64 n151) (v5 := .slice a151 l151 c151) (by go_simp) (by go_simp) (by go_simp) (by go_simp) (by go_simp) (by go_simp) (h151.below (Below.al _)) prow_nil)))))⟩)
              · intro r W hc hf hs hd hB
                have hBV := HBV.out W hB
                refine want_n rfl ?_
                obtain ⟨ae, ne, ce, e, hne, hre⟩ : PQ.ok (.row [(tN t), (tAtn 64 t), (tAl t), (tAn t), (tLn t)]) (r (.tmp 152)) W := (hd 152 (by kernel_rfl)) rfl
                subst hne
                exact sc_value (v := (.int .i64 5)) rfl (by decide) (by go_simp) (fun _ => rfl)
              · intro r W hc hf hs hd hB
                have hBV := HBV.out W hB
                refine want_n rfl ?_
                exact sc_value (v := (.int .i64 0)) rfl (by decide) (by go_simp) (fun _ => rfl)
            intro f5 wD hfd hB5
            obtain ⟨a5, n5, c5, z152, hn5, hrow5⟩ : PQ.ok (.row [tN t, tAtn 64 t, tAl t, tAn t, tLn t]) (f5 152) wD := hfd 152 (of_decide_eq_true (by kernel_rfl)) rfl
            have z153 : f5 153 = .int .i64 5 := hfd 153 (of_decide_eq_true (by kernel_rfl)) rfl
            have z154 : f5 154 = .int .i64 0 := hfd 154 (of_decide_eq_true (by kernel_rfl)) rfl
            have mD := HBV.out wD hB5
            replace hn5 : n5 = 5 := hn5
            subst hn5
            have HROW := Lib.hid hrow5
            rw [show dstsTo _ _ = [127, 128, 129, 130, 131, 132, 133, 134, 135, 136, 137, 138, 139, 140, 141, 142, 143, 144, 145, 146, 147, 148, 149, 150, 151, 152, 153, 154] from by kernel_rfl]
            simp only [fill, List.setIfInBounds_toArray, List.set_cons_succ, List.set_cons_zero, z152, z153, z154]
            replace hW := hW.trans (mD.mono hW.size)
            clear hfd z152 z153 z154 hB5 mD HBV HAT hrow5
            go_wp2_with fail
            go_loopw [154] (fun x wr => ∃ j : Nat, x = .int .i64 j ∧ j ≤ 5 ∧ Below wD.heap.size wD wr) (fun x _ => 5 - (intOf x).toNat)
            case atStart => exact ⟨0, rfl, by omega, Below.refl _ _⟩
            case round =>
              obtain ⟨j, rfl, hj, hV⟩ := hrel
              rename World => wV
              by_cases hjt : j < 5
              · have hj5 : j < [tN t, tAtn 64 t, tAl t, tAn t, tLn t].length := hjt
                have hjb : (j : Int) < 5 := by omega
                obtain ⟨b6, o6, rfl, x1, x2, x3, x4, g0, g1, g2, g3, g4, g5, hu⟩ := (HROW.out.below hV).got j hj5
                have hmem : [tN t, tAtn 64 t, tAl t, tAn t, tLn t][j] ∈ five t := List.getElem_mem hj5
                obtain ⟨u, hue⟩ : ∃ u, u = [tN t, tAtn 64 t, tAl t, tAn t, tLn t][j] := ⟨_, rfl⟩
                rw [← hue] at g0 g1 g2 g3 g4 g5 hu hmem
                have HMU := Lib.hid (HMM.out u hmem)
                have HSU := Lib.hid (HS5.out u hmem)
                clear hue hmem
                obtain ⟨w6, hw6, m6, -, q0, q1, q2, q3, q4, q5⟩ := box6 wV (.int .u8 u.kind) (.int .u8 u.val.kind) (.int .i64 u.val.num) (.slice x1 u.val.items.length x2) (.int .i64 u.num) (.slice x3 u.args.length x4) 27
                have HW6 := Lib.hid hw6; clear hw6
                go_upto_region 20 with fail
                rw [HW6.out]
                have hu6 := hu.below m6
                have z1 : (m != m) = false := by simp
                clear g0 g1 g2 g3 g4 g5 hu HW6
                go_wp2_with fail
                refine (pmay_any u _ _ HSU.out.1 HSU.out.2 hu6).mono ?_
                rintro e wn ⟨rfl, hbn⟩
                rw [HMU.out]
                replace hV := hV.trans ((m6.trans (hbn.mono m6.size)).mono hV.size)
                clear hbn m6 hu6
                go_wp2_with fail
                go_roundw
                case rel => exact ⟨j + 1, by go_num, by omega, hV⟩
                case measure => simp [intOf]; omega
              · have hjb : ¬ (j : Int) < 5 := by omega
                go_wp2_with fail
                go_roundw
                case rel => exact ⟨i + 1, by go_num, by omega, hW.trans (hV.mono hW.size)⟩
                case measure => simp [intOf]; omega
        · have hii : i = l.length := by omega
          subst hii
          have n9 : decide ((l.length : Int) < (l.length : Int)) = false := by simp
          replace HBX := Lib.hid (HBX.out.below hW)
          replace hB := hB.trans (hW.mono hB.size)
          clear hW hr hlt hi
          obtain ⟨m2, hm2⟩ : ∃ m2, ((VT.mk xk xn xl).may && decide ((VT.mk xk xn xl).size < 512)) = m2 := ⟨_, rfl⟩
          obtain ⟨vm, hvm⟩ : ∃ vm, (VT.mk xk xn xl).may = vm := ⟨_, rfl⟩
          obtain ⟨sz, hsz⟩ : ∃ sz, (VT.mk xk xn xl).size = sz := ⟨_, rfl⟩
          have HME := Lib.hid ((tEqv_may (.mk xk xn xl)).trans hm2)
          have HML := Lib.hid ((tLev_may (.mk xk xn xl)).trans hm2)
          have HNE := Lib.hid (show (tEqv (.mk xk xn xl)).nodes = 1 + sz by rw [tEqv_nodes, hsz])
          have HSE := Lib.hid (tEqv_small HSX.out)
          have HSL := Lib.hid (tLev_small HSX.out)
          rw [hvm, hsz] at hm2
          have hszb : sz < 6000 := by rw [← hsz]; exact HSX.out
          have HM2 := Lib.hid hm2; have HVM := Lib.hid hvm; have HSZ := Lib.hid hsz
          clear hm2 hvm hsz
          obtain ⟨xk', xn', xa', xl', xc', p0, p1, p2, hy⟩ := HBX.out
          go_upto_region 23 with fail
          go_cut [14] (fun s wx => s = .bool m2 ∧ Below wS.heap.size wS wx)
          case first =>
            have hC := Below.refl wS.heap.size wS
            go_wp2_with fail
            refine (may_any _ _ _ (by have := HSX.out; omega) hy).mono ?_
            rintro e wn ⟨rfl, hbn⟩
            rw [HVM.out]
            replace p0 := cell_stays hbn p0
            replace p1 := cell_stays hbn p1
            replace p2 := cell_stays hbn p2
            replace hy := hy.below hbn
            replace hC := hC.trans (hbn.mono hC.size)
            clear hbn
            cases vm
            · go_wp2_with fail
              go_meet
              exact ⟨by rw [← HM2.out]; rfl, hC⟩
            · go_wp2_with fail
              refine (size_any _ _ _ (by have := HSX.out; omega) hy).mono ?_
              rintro e wn ⟨rfl, hbn⟩
              rw [HSZ.out]
              replace hC := hC.trans (hbn.mono hC.size)
              clear hbn
              go_wp2_with fail
              go_meet
              exact ⟨by rw [← HM2.out]; simp; omega, hC⟩
          case rest =>
            obtain ⟨rfl, hC⟩ := hcut
            rename World => wc
            replace HBX := Lib.hid (HBX.out.below hC)
            replace hB := hB.trans (hC.mono hB.size)
            have HBV := Lib.hid (fun W (h : Below wc.drew.heap.size wc.drew W) => (Below.refl _ wc).drew.trans h)
            clear p0 p1 p2 hy hC
            go_wp2_with fail
            refine wp_region_all (kindC [(170, (true, .val (VT.mk xk xn xl))), (171, (true, .pred (tEqv (VT.mk xk xn xl)))), (172, (true, .fixed (.bool m2))), (173, (true, .fixed (.bool m2))), (174, (true, .fixed (.bool true))), (175, (true, .fixed (.bool true))), (176, (true, .val (VT.mk xk xn xl))), (177, (true, .pred (tLev (VT.mk xk xn xl)))), (178, (true, .fixed (.bool m2))), (179, (true, .fixed (.bool m2))), (180, (true, .fixed (.bool true))), (181, (true, .fixed (.bool true))), (182, (true, .fixed (.bool true))), (183, (true, .val (VT.mk xk xn xl))), (184, (true, .pred (tEqv (VT.mk xk xn xl)))), (185, (true, .fixed (.int .i64 ((1 + sz : Nat) : Int)))), (186, (true, .val (VT.mk xk xn xl))), (187, (true, .fixed (.int .i64 sz))), (188, (true, .fixed (.int .i64 ((1 + sz : Nat) : Int)))), (189, (true, .fixed (.bool true))), (190, (true, .fixed (.bool true))), (4, (true, .fixed (.bool true)))]) 191 (by kernel_rfl) (by kernel_rfl) (by rfl) (kindC_mono _) ?_ ?_
            · refine (fm ?_ (fm ?_ (fm ?_ (fm ?_ (fm ?_ (fm ?_ (fm ?_ (fm ?_ (fm ?_ (fm ?_ (fm ?_ (fm ?_ (fm ?_ (fm ?_ (fm ?_ (fm ?_ (fm ?_ (fm ?_ (fm ?_ (fm ?_ (fm ?_ (fm ?_ fmnil))))))))))))))))))))))
              · intro r W hc hf hs hd hB
                have hBV := HBV.out W hB
                refine want_n rfl ?_
                have e : r (.tmp 3) = .pointer (some ⟨w.heap.size, 0, none⟩) := hs 3 (of_decide_eq_true (by kernel_rfl))
                obtain ⟨qk, qn, qa, ql, qc, g0, g1, g2, hv⟩ := BoxV.below HBX.out hBV
                exact sc_value (v := .agg #[.int .u8 qk, .int .i64 qn, .slice qa ql qc]) rfl (by decide) (by go_simp) (fun _ => hv)
              · intro r W hc hf hs hd hB
                have hBV := HBV.out W hB
                refine want_n rfl ?_
                have h170 : VIn W (VT.mk xk xn xl) (r (.tmp 170)) := (hd 170 (by kernel_rfl)) rfl
                exact sc_call (f := 20) (args := #[r (.tmp 170)]) rfl (by decide) (by go_simp) (made_c (made_pred (peq_any _ _ _ h170)))
              · intro r W hc hf hs hd hB
                have hBV := HBV.out W hB
                refine want_n rfl ?_
                have h171 : PIn W (tEqv (VT.mk xk xn xl)) (r (.tmp 171)) := (hd 171 (by kernel_rfl)) rfl
                exact sc_call (f := 37) (args := #[r (.tmp 171)]) rfl (by decide) (by go_simp) (made_c (made_may HME.out HSE.out h171))
              · intro r W hc hf hs hd hB
                have hBV := HBV.out W hB
                refine want_n rfl ?_
                have e : r (.tmp 14) = (.bool m2) := hs 14 (of_decide_eq_true (by kernel_rfl))
                exact sc_value (v := (.bool m2)) rfl (by decide) (by go_simp) (fun _ => rfl)
              · intro r W hc hf hs hd hB
                have hBV := HBV.out W hB
                refine want_n rfl ?_
                have e172 : r (.tmp 172) = (.bool m2) := (hd 172 (by kernel_rfl)) rfl
                have e173 : r (.tmp 173) = (.bool m2) := (hd 173 (by kernel_rfl)) rfl
                exact sc_value (v := (.bool true)) rfl (by decide) (by go_simp) (fun _ => rfl)
              · intro r W hc hf hs hd hB
                have hBV := HBV.out W hB
                refine want_n rfl ?_
                have e : r (.tmp 174) = (.bool true) := (hd 174 (by kernel_rfl)) rfl
                exact sc_value (v := (.bool true)) rfl (by decide) (by go_simp) (fun _ => rfl)
              · intro r W hc hf hs hd hB
                have hBV := HBV.out W hB
                refine want_g 5 175 rfl (by kernel_rfl) ((hd 175 (by kernel_rfl)) rfl : r (.tmp 175) = .bool true) ?_
                have e : r (.tmp 3) = .pointer (some ⟨w.heap.size, 0, none⟩) := hs 3 (of_decide_eq_true (by kernel_rfl))
                obtain ⟨qk, qn, qa, ql, qc, g0, g1, g2, hv⟩ := BoxV.below HBX.out hBV
                exact sc_value (v := .agg #[.int .u8 qk, .int .i64 qn, .slice qa ql qc]) rfl (by decide) (by go_simp) (fun _ => hv)
              · intro r W hc hf hs hd hB
                have hBV := HBV.out W hB
                refine want_g 5 175 rfl (by kernel_rfl) ((hd 175 (by kernel_rfl)) rfl : r (.tmp 175) = .bool true) ?_
                have h176 : VIn W (VT.mk xk xn xl) (r (.tmp 176)) := (hd 176 (by kernel_rfl)) rfl
                exact sc_call (f := 19) (args := #[r (.tmp 176)]) rfl (by decide) (by go_simp) (made_c (made_pred (pless_any _ _ _ h176)))
              · intro r W hc hf hs hd hB
                have hBV := HBV.out W hB
                refine want_g 5 175 rfl (by kernel_rfl) ((hd 175 (by kernel_rfl)) rfl : r (.tmp 175) = .bool true) ?_
                have h177 : PIn W (tLev (VT.mk xk xn xl)) (r (.tmp 177)) := (hd 177 (by kernel_rfl)) rfl
                exact sc_call (f := 37) (args := #[r (.tmp 177)]) rfl (by decide) (by go_simp) (made_c (made_may HML.out HSL.out h177))
              · intro r W hc hf hs hd hB
                have hBV := HBV.out W hB
                refine want_g 5 175 rfl (by kernel_rfl) ((hd 175 (by kernel_rfl)) rfl : r (.tmp 175) = .bool true) ?_
                have e : r (.tmp 14) = (.bool m2) := hs 14 (of_decide_eq_true (by kernel_rfl))
                exact sc_value (v := (.bool m2)) rfl (by decide) (by go_simp) (fun _ => rfl)
              · intro r W hc hf hs hd hB
                have hBV := HBV.out W hB
                refine want_g 5 175 rfl (by kernel_rfl) ((hd 175 (by kernel_rfl)) rfl : r (.tmp 175) = .bool true) ?_
                have e178 : r (.tmp 178) = (.bool m2) := (hd 178 (by kernel_rfl)) rfl
                have e179 : r (.tmp 179) = (.bool m2) := (hd 179 (by kernel_rfl)) rfl
                exact sc_value (v := (.bool true)) rfl (by decide) (by go_simp) (fun _ => rfl)
              · intro r W hc hf hs hd hB
                have hBV := HBV.out W hB
                refine want_n rfl ?_
                have e175 : r (.tmp 175) = (.bool true) := (hd 175 (by kernel_rfl)) rfl
                have e180 : r (.tmp 180) = (.bool true) := (hd 180 (by kernel_rfl)) rfl
                exact sc_value (v := (.bool true)) rfl (by decide) (by go_simp) (fun _ => rfl)
              · intro r W hc hf hs hd hB
                have hBV := HBV.out W hB
                refine want_n rfl ?_
                have e : r (.tmp 181) = (.bool true) := (hd 181 (by kernel_rfl)) rfl
                exact sc_value (v := (.bool true)) rfl (by decide) (by go_simp) (fun _ => rfl)
              · intro r W hc hf hs hd hB
                have hBV := HBV.out W hB
                refine want_g 12 182 rfl (by kernel_rfl) ((hd 182 (by kernel_rfl)) rfl : r (.tmp 182) = .bool true) ?_
                have e : r (.tmp 3) = .pointer (some ⟨w.heap.size, 0, none⟩) := hs 3 (of_decide_eq_true (by kernel_rfl))
                obtain ⟨qk, qn, qa, ql, qc, g0, g1, g2, hv⟩ := BoxV.below HBX.out hBV
                exact sc_value (v := .agg #[.int .u8 qk, .int .i64 qn, .slice qa ql qc]) rfl (by decide) (by go_simp) (fun _ => hv)
              · intro r W hc hf hs hd hB
                have hBV := HBV.out W hB
                refine want_g 12 182 rfl (by kernel_rfl) ((hd 182 (by kernel_rfl)) rfl : r (.tmp 182) = .bool true) ?_
                have h183 : VIn W (VT.mk xk xn xl) (r (.tmp 183)) := (hd 183 (by kernel_rfl)) rfl
                exact sc_call (f := 20) (args := #[r (.tmp 183)]) rfl (by decide) (by go_simp) (made_c (made_pred (peq_any _ _ _ h183)))
              · intro r W hc hf hs hd hB
                have hBV := HBV.out W hB
                refine want_g 12 182 rfl (by kernel_rfl) ((hd 182 (by kernel_rfl)) rfl : r (.tmp 182) = .bool true) ?_
                have h184 : PIn W (tEqv (VT.mk xk xn xl)) (r (.tmp 184)) := (hd 184 (by kernel_rfl)) rfl
                exact sc_call (f := 39) (args := #[r (.tmp 184)]) rfl (by decide) (by go_simp) (made_c (made_nodes HNE.out HSE.out h184))
              · intro r W hc hf hs hd hB
                have hBV := HBV.out W hB
                refine want_g 12 182 rfl (by kernel_rfl) ((hd 182 (by kernel_rfl)) rfl : r (.tmp 182) = .bool true) ?_
                have e : r (.tmp 3) = .pointer (some ⟨w.heap.size, 0, none⟩) := hs 3 (of_decide_eq_true (by kernel_rfl))
                obtain ⟨qk, qn, qa, ql, qc, g0, g1, g2, hv⟩ := BoxV.below HBX.out hBV
                exact sc_value (v := .agg #[.int .u8 qk, .int .i64 qn, .slice qa ql qc]) rfl (by decide) (by go_simp) (fun _ => hv)
              · intro r W hc hf hs hd hB
                have hBV := HBV.out W hB
                refine want_g 12 182 rfl (by kernel_rfl) ((hd 182 (by kernel_rfl)) rfl : r (.tmp 182) = .bool true) ?_
                have h186 : VIn W (VT.mk xk xn xl) (r (.tmp 186)) := (hd 186 (by kernel_rfl)) rfl
                exact sc_call (f := 18) (args := #[r (.tmp 186)]) rfl (by decide) (by go_simp) (made_c (made_size HSZ.out (by have := HSX.out; omega) h186))
              · intro r W hc hf hs hd hB
                have hBV := HBV.out W hB
                refine want_g 12 182 rfl (by kernel_rfl) ((hd 182 (by kernel_rfl)) rfl : r (.tmp 182) = .bool true) ?_
                have e187 : r (.tmp 187) = (.int .i64 sz) := (hd 187 (by kernel_rfl)) rfl
                exact sc_value (v := (.int .i64 ((1 + sz : Nat) : Int))) rfl (by decide) (by go_simp <;> (rw [IntKind.wrap_i64]; omega)) (fun _ => rfl)
              · intro r W hc hf hs hd hB
                have hBV := HBV.out W hB
                refine want_g 12 182 rfl (by kernel_rfl) ((hd 182 (by kernel_rfl)) rfl : r (.tmp 182) = .bool true) ?_
                have e185 : r (.tmp 185) = (.int .i64 ((1 + sz : Nat) : Int)) := (hd 185 (by kernel_rfl)) rfl
                have e188 : r (.tmp 188) = (.int .i64 ((1 + sz : Nat) : Int)) := (hd 188 (by kernel_rfl)) rfl
                exact sc_value (v := (.bool true)) rfl (by decide) (by go_simp) (fun _ => rfl)
              · intro r W hc hf hs hd hB
                have hBV := HBV.out W hB
                refine want_n rfl ?_
                have e182 : r (.tmp 182) = (.bool true) := (hd 182 (by kernel_rfl)) rfl
                have e189 : r (.tmp 189) = (.bool true) := (hd 189 (by kernel_rfl)) rfl
                exact sc_value (v := (.bool true)) rfl (by decide) (by go_simp) (fun _ => rfl)
              · intro r W hc hf hs hd hB
                have hBV := HBV.out W hB
                refine want_n rfl ?_
                have e : r (.tmp 190) = (.bool true) := (hd 190 (by kernel_rfl)) rfl
                exact sc_value (v := (.bool true)) rfl (by decide) (by go_simp) (fun _ => rfl)
            intro f5 wD hfd hB5
            have z4 : f5 4 = .bool true := hfd 4 (of_decide_eq_true (by kernel_rfl)) rfl
            have mD := HBV.out wD hB5
            rw [show dstsTo _ _ = [170, 171, 172, 173, 174, 175, 176, 177, 178, 179, 180, 181, 182, 183, 184, 185, 186, 187, 188, 189, 190, 4] from by kernel_rfl]
            simp only [fill, List.setIfInBounds_toArray, List.set_cons_succ, List.set_cons_zero, z4]
            clear hfd z4
            go_wp2_with fail
            go_ret
            exact ⟨rfl, hB.trans (mD.mono hB.size)⟩
end Go.Proofs.Ytclmnpfdnhfbmaa
