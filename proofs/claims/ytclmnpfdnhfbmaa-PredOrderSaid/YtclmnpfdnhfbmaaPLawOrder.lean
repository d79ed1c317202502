/- PredOrder: the walk of the law. -/
import Derived.Test.YtclmnpfdnhfbmaaPLawHolds
import Derived.Test.YtclmnpfdnhfbmaaPOrder
import Derived.Deep.RegionHeld3
namespace Go.Proofs.Ytclmnpfdnhfbmaa
open Go.RowKit

theorem pholds_val {K : Int} {v X : VT} {x y : Value} {w : World} (hx : PIn w (.mk K v 0 []) x) (hs : v.size ≤ 250) (hy : VIn w X y) :
    Calls Try.prog 15 #[x, y] w fun e w' => e = .returned (.bool (PT.hold (.mk K v 0 []) X)) ∧ Below w.heap.size w w' :=
  pholds_any _ X x y w (by simp only [PT.cnt, PT.cnts]; omega) (by simp only [PT.fat, PT.fats]; omega) hx hy
theorem pholds_neither {v X : VT} {x y : Value} {w : World} (hx : PIn w (tNeither v) x) (hs : v.size ≤ 250) (hy : VIn w X y) :
    Calls Try.prog 15 #[x, y] w fun e w' => e = .returned (.bool (PT.hold (tNeither v) X)) ∧ Below w.heap.size w w' :=
  pholds_any _ X x y w (by simp only [tNeither, PT.cnt, PT.cnts]; omega) (by
    have : vNone.size = 1 := by decide
    simp only [tNeither, PT.fat, PT.fats, this]; omega) hx hy
theorem por_len {l : List PT} {a : Option Addr} {n cap : Nat} {w : World} (hr : PRow w l a) (hn : l.length = n) (hl : l.length ≤ 1759218604390) : Calls Try.prog 24 #[.slice a n cap] w (PCopyOf (.mk 7 vNone 0 l) w) := by
  subst hn; exact por_any l a cap w hl hr
theorem VT.long_three {a b c : VT} (h : VT.long [a, b, c] = false) : a.size < 6000 ∧ b.size < 6000 ∧ c.size < 6000 := by
  have := VT.not_long h
  simp only [VT.sizes] at this
  omega


set_option maxRecDepth 100000 in
set_option maxHeartbeats 8000000 in
theorem predOrder_any (a : VT) (va : Value) (b : VT) (vb : Value) (c : VT) (vc : Value) (w : World) (ha : VIn w a va) (hb0 : VIn w b vb) (hc : VIn w c vc) :
    Calls Try.prog 4 #[va, vb, vc] w fun e w' => e = .returned (.bool true) ∧ Below w.heap.size w w' := by
  obtain ⟨ka, na, la⟩ := a
  obtain ⟨kb, nb, lb⟩ := b
  obtain ⟨kc, nc, lc⟩ := c
  obtain ⟨pa, qa, -, rfl, -⟩ := ha.open
  obtain ⟨pb, qb, -, rfl, -⟩ := hb0.open
  obtain ⟨pc, qc, -, rfl, -⟩ := hc.open
  obtain ⟨w0, hw0, m0, -, x0, x1, x2, -⟩ := box3 w (.int .u8 ka) (.int .i64 na) (.slice pa la.length qa) 24
  obtain ⟨w1, hw1, m1, -, y0, y1, y2, -⟩ := box3 w0 (.int .u8 kb) (.int .i64 nb) (.slice pb lb.length qb) 24
  obtain ⟨w2, hw2, m2, -, z0, z1, z2, -⟩ := box3 w1 (.int .u8 kc) (.int .i64 nc) (.slice pc lc.length qc) 24
  have m12 := m1.trans (m2.mono m1.size)
  have hB : Below w.heap.size w w2 := m0.trans (m12.mono m0.size)
  replace x0 := cell_stays m12 x0
  replace x1 := cell_stays m12 x1
  replace x2 := cell_stays m12 x2
  replace y0 := cell_stays m2 y0
  replace y1 := cell_stays m2 y1
  replace y2 := cell_stays m2 y2
  replace ha := ha.below hB
  replace hb0 := hb0.below hB
  replace hc := hc.below hB
  clear m0 m1 m2 m12
  obtain ⟨b, hb⟩ : ∃ b, b = VT.long [.mk ka na la, .mk kb nb lb, .mk kc nc lc] := ⟨_, rfl⟩
  have HB := Lib.hid hb; clear hb
  go_enter Try.func4, Try.ntmps4
  go_wp2_with fail
  refine (long_any [.mk ka na la, .mk kb nb lb, .mk kc nc lc] _ _ _ (by simp) (vrow_cons (v0 := .int .u8 ka) (v1 := .int .i64 na) (v2 := .slice pa la.length qa) (by go_simp) (by go_simp) (by go_simp) (ha.below (Below.al _)) (vrow_cons (v0 := .int .u8 kb) (v1 := .int .i64 nb) (v2 := .slice pb lb.length qb) (by go_simp) (by go_simp) (by go_simp) (hb0.below (Below.al _)) (vrow_cons (v0 := .int .u8 kc) (v1 := .int .i64 nc) (v2 := .slice pc lc.length qc) (by go_simp) (by go_simp) (by go_simp) (hc.below (Below.al _)) vrow_nil)))).mono ?_
  rintro e w3 ⟨rfl, hb1⟩
  rw [← HB.out]
  have hbn := (Below.al _).trans (hb1.mono (by simp))
  replace x0 := cell_stays hbn x0
  replace x1 := cell_stays hbn x1
  replace x2 := cell_stays hbn x2
  replace y0 := cell_stays hbn y0
  replace y1 := cell_stays hbn y1
  replace y2 := cell_stays hbn y2
  replace z0 := cell_stays hbn z0
  replace z1 := cell_stays hbn z1
  replace z2 := cell_stays hbn z2
  replace ha := ha.below hbn
  replace hb0 := hb0.below hbn
  replace hc := hc.below hbn
  replace hB := hB.trans (hbn.mono hB.size)
  clear hb1 hbn hw0 hw1 hw2
  cases b
  case true =>
    go_wp2_with fail
    refine (pawake_any _).mono ?_
    rintro e wz ⟨rfl, hbz⟩
    go_wp2_with fail
    go_ret
    exact ⟨rfl, hB.trans (hbz.mono hB.size)⟩
  case false =>
  have HSZ := Lib.hid (VT.long_three HB.out.symm)
  go_wp2_with fail
  refine (may_any _ _ _ (by have := HSZ.out; omega) ha).mono ?_
  rintro e wn ⟨rfl, hbn⟩
  replace x0 := cell_stays hbn x0
  replace x1 := cell_stays hbn x1
  replace x2 := cell_stays hbn x2
  replace y0 := cell_stays hbn y0
  replace y1 := cell_stays hbn y1
  replace y2 := cell_stays hbn y2
  replace z0 := cell_stays hbn z0
  replace z1 := cell_stays hbn z1
  replace z2 := cell_stays hbn z2
  replace ha := ha.below hbn
  replace hb0 := hb0.below hbn
  replace hc := hc.below hbn
  replace hB := hB.trans (hbn.mono hB.size)
  clear hbn
  obtain ⟨b, hb⟩ : ∃ b, b = (VT.mk ka na la).may := ⟨_, rfl⟩
  rw [← hb]
  have Mha := Lib.hid hb; clear hb
  cases b
  case false =>
    go_wp2_with fail
    refine (pawake_any _).mono ?_
    rintro e wz ⟨rfl, hbz⟩
    go_wp2_with fail
    go_ret
    exact ⟨rfl, hB.trans (hbz.mono hB.size)⟩
  case true =>
  go_wp2_with fail
  refine (may_any _ _ _ (by have := HSZ.out; omega) hb0).mono ?_
  rintro e wn ⟨rfl, hbn⟩
  replace x0 := cell_stays hbn x0
  replace x1 := cell_stays hbn x1
  replace x2 := cell_stays hbn x2
  replace y0 := cell_stays hbn y0
  replace y1 := cell_stays hbn y1
  replace y2 := cell_stays hbn y2
  replace z0 := cell_stays hbn z0
  replace z1 := cell_stays hbn z1
  replace z2 := cell_stays hbn z2
  replace ha := ha.below hbn
  replace hb0 := hb0.below hbn
  replace hc := hc.below hbn
  replace hB := hB.trans (hbn.mono hB.size)
  clear hbn
  obtain ⟨b, hb⟩ : ∃ b, b = (VT.mk kb nb lb).may := ⟨_, rfl⟩
  rw [← hb]
  have Mhb0 := Lib.hid hb; clear hb
  cases b
  case false =>
    go_wp2_with fail
    refine (pawake_any _).mono ?_
    rintro e wz ⟨rfl, hbz⟩
    go_wp2_with fail
    go_ret
    exact ⟨rfl, hB.trans (hbz.mono hB.size)⟩
  case true =>
  go_wp2_with fail
  refine (may_any _ _ _ (by have := HSZ.out; omega) hc).mono ?_
  rintro e wn ⟨rfl, hbn⟩
  replace x0 := cell_stays hbn x0
  replace x1 := cell_stays hbn x1
  replace x2 := cell_stays hbn x2
  replace y0 := cell_stays hbn y0
  replace y1 := cell_stays hbn y1
  replace y2 := cell_stays hbn y2
  replace z0 := cell_stays hbn z0
  replace z1 := cell_stays hbn z1
  replace z2 := cell_stays hbn z2
  replace ha := ha.below hbn
  replace hb0 := hb0.below hbn
  replace hc := hc.below hbn
  replace hB := hB.trans (hbn.mono hB.size)
  clear hbn
  obtain ⟨b, hb⟩ : ∃ b, b = (VT.mk kc nc lc).may := ⟨_, rfl⟩
  rw [← hb]
  have Mhc := Lib.hid hb; clear hb
  cases b
  case false =>
    go_wp2_with fail
    refine (pawake_any _).mono ?_
    rintro e wz ⟨rfl, hbz⟩
    go_wp2_with fail
    go_ret
    exact ⟨rfl, hB.trans (hbz.mono hB.size)⟩
  case true =>
  go_wp2_with fail
  refine (size_any _ _ _ (by have := HSZ.out; omega) hb0).mono ?_
  rintro e wn ⟨rfl, hbn⟩
  replace x0 := cell_stays hbn x0
  replace x1 := cell_stays hbn x1
  replace x2 := cell_stays hbn x2
  replace y0 := cell_stays hbn y0
  replace y1 := cell_stays hbn y1
  replace y2 := cell_stays hbn y2
  replace z0 := cell_stays hbn z0
  replace z1 := cell_stays hbn z1
  replace z2 := cell_stays hbn z2
  replace ha := ha.below hbn
  replace hb0 := hb0.below hbn
  replace hc := hc.below hbn
  replace hB := hB.trans (hbn.mono hB.size)
  clear hbn
  obtain ⟨s, hs⟩ : ∃ s, s = VT.size (VT.mk kb nb lb) := ⟨_, rfl⟩
  rw [← hs]
  have Shb0 := Lib.hid hs; clear hs
  by_cases h250 : 250 < s
  case pos =>
    go_wp2_with fail
    refine (pawake_any _).mono ?_
    rintro e wz ⟨rfl, hbz⟩
    go_wp2_with fail
    go_ret
    exact ⟨rfl, hB.trans (hbz.mono hB.size)⟩
  case neg =>
  have Zhb0 := Lib.hid (show VT.size (VT.mk kb nb lb) ≤ 250 by rw [← Shb0.out]; omega)
  clear Shb0
  go_wp2_with fail
  refine (size_any _ _ _ (by have := HSZ.out; omega) hc).mono ?_
  rintro e wn ⟨rfl, hbn⟩
  replace x0 := cell_stays hbn x0
  replace x1 := cell_stays hbn x1
  replace x2 := cell_stays hbn x2
  replace y0 := cell_stays hbn y0
  replace y1 := cell_stays hbn y1
  replace y2 := cell_stays hbn y2
  replace z0 := cell_stays hbn z0
  replace z1 := cell_stays hbn z1
  replace z2 := cell_stays hbn z2
  replace ha := ha.below hbn
  replace hb0 := hb0.below hbn
  replace hc := hc.below hbn
  replace hB := hB.trans (hbn.mono hB.size)
  clear hbn
  obtain ⟨s, hs⟩ : ∃ s, s = VT.size (VT.mk kc nc lc) := ⟨_, rfl⟩
  rw [← hs]
  have Shc := Lib.hid hs; clear hs
  by_cases h250 : 250 < s
  case pos =>
    go_wp2_with fail
    refine (pawake_any _).mono ?_
    rintro e wz ⟨rfl, hbz⟩
    go_wp2_with fail
    go_ret
    exact ⟨rfl, hB.trans (hbz.mono hB.size)⟩
  case neg =>
  have Zhc := Lib.hid (show VT.size (VT.mk kc nc lc) ≤ 250 by rw [← Shc.out]; omega)
  clear Shc
  go_wp2_with fail
  refine (size_any _ _ _ (by have := HSZ.out; omega) ha).mono ?_
  rintro e wn ⟨rfl, hbn⟩
  replace x0 := cell_stays hbn x0
  replace x1 := cell_stays hbn x1
  replace x2 := cell_stays hbn x2
  replace y0 := cell_stays hbn y0
  replace y1 := cell_stays hbn y1
  replace y2 := cell_stays hbn y2
  replace z0 := cell_stays hbn z0
  replace z1 := cell_stays hbn z1
  replace z2 := cell_stays hbn z2
  replace ha := ha.below hbn
  replace hb0 := hb0.below hbn
  replace hc := hc.below hbn
  replace hB := hB.trans (hbn.mono hB.size)
  clear hbn
  obtain ⟨s, hs⟩ : ∃ s, s = VT.size (VT.mk ka na la) := ⟨_, rfl⟩
  rw [← hs]
  have Sha := Lib.hid hs; clear hs
  by_cases h250 : 250 < s
  case pos =>
    go_wp2_with fail
    refine (pawake_any _).mono ?_
    rintro e wz ⟨rfl, hbz⟩
    go_wp2_with fail
    go_ret
    exact ⟨rfl, hB.trans (hbz.mono hB.size)⟩
  case neg =>
  have Zha := Lib.hid (show VT.size (VT.mk ka na la) ≤ 250 by rw [← Sha.out]; omega)
  clear Sha
  go_wp2_with fail
  refine (pawake_any _).mono ?_
  rintro e wn ⟨rfl, hbn⟩
  replace x0 := cell_stays hbn x0
  replace x1 := cell_stays hbn x1
  replace x2 := cell_stays hbn x2
  replace y0 := cell_stays hbn y0
  replace y1 := cell_stays hbn y1
  replace y2 := cell_stays hbn y2
  replace z0 := cell_stays hbn z0
  replace z1 := cell_stays hbn z1
  replace z2 := cell_stays hbn z2
  replace ha := ha.below hbn
  replace hb0 := hb0.below hbn
  replace hc := hc.below hbn
  replace hB := hB.trans (hbn.mono hB.size)
  clear hbn
  obtain ⟨b1, h1⟩ : ∃ b, PT.hold (.mk 4 (.mk kb nb lb) 0 []) (.mk ka na la) = b := ⟨_, rfl⟩
  obtain ⟨b2, h2⟩ : ∃ b, PT.hold (.mk 3 (.mk kb nb lb) 0 []) (.mk ka na la) = b := ⟨_, rfl⟩
  obtain ⟨b3, h3⟩ : ∃ b, PT.hold (.mk 4 (.mk ka na la) 0 []) (.mk kb nb lb) = b := ⟨_, rfl⟩
  have H1 := Lib.hid h1; have H2 := Lib.hid h2; have H3 := Lib.hid h3
  clear h1 h2 h3
  go_wp2_with fail
  rename World => wS
  have HBase : Below wS.heap.size wS wS.drew := (Below.refl _ _).drew
  go_region_held3 (fun W => W.cell? ⟨w.heap.size, 0, none⟩ = some (.int .u8 ka) ∧ W.cell? ⟨w.heap.size, 1, none⟩ = some (.int .i64 na) ∧ W.cell? ⟨w.heap.size, 2, none⟩ = some (.slice pa la.length qa) ∧ W.cell? ⟨w0.heap.size, 0, none⟩ = some (.int .u8 kb) ∧ W.cell? ⟨w0.heap.size, 1, none⟩ = some (.int .i64 nb) ∧ W.cell? ⟨w0.heap.size, 2, none⟩ = some (.slice pb lb.length qb) ∧ W.cell? ⟨w1.heap.size, 0, none⟩ = some (.int .u8 kc) ∧ W.cell? ⟨w1.heap.size, 1, none⟩ = some (.int .i64 nc) ∧ W.cell? ⟨w1.heap.size, 2, none⟩ = some (.slice pc lc.length qc)) (first | exact ⟨cell_stays HBase x0, cell_stays HBase x1, cell_stays HBase x2, cell_stays HBase y0, cell_stays HBase y1, cell_stays HBase y2, cell_stays HBase z0, cell_stays HBase z1, cell_stays HBase z2⟩ | exact ⟨cell_stays (HBase.trans ((Below.al _).mono HBase.size)) x0, cell_stays (HBase.trans ((Below.al _).mono HBase.size)) x1, cell_stays (HBase.trans ((Below.al _).mono HBase.size)) x2, cell_stays (HBase.trans ((Below.al _).mono HBase.size)) y0, cell_stays (HBase.trans ((Below.al _).mono HBase.size)) y1, cell_stays (HBase.trans ((Below.al _).mono HBase.size)) y2, cell_stays (HBase.trans ((Below.al _).mono HBase.size)) z0, cell_stays (HBase.trans ((Below.al _).mono HBase.size)) z1, cell_stays (HBase.trans ((Below.al _).mono HBase.size)) z2⟩) (first | (go_at_call 19; refine (pless_any _ _ _ (by first | exact ha.below HBase | exact hb0.below HBase | exact hc.below HBase)).mono ?_; rintro e W ⟨xz, rfl, hf, hb⟩; (try clear P); have P := PFIn.pin _ _ hf; clear hf; replace HBase := HBase.trans (hb.mono HBase.size); clear hb) | (go_at_call 20; refine (peq_any _ _ _ (by first | exact ha.below HBase | exact hb0.below HBase | exact hc.below HBase)).mono ?_; rintro e W ⟨xz, rfl, hf, hb⟩; (try clear P); have P := PFIn.pin _ _ hf; clear hf; replace HBase := HBase.trans (hb.mono HBase.size); clear hb) | (go_at_call 15; refine (pholds_val P (by first | exact Zha.out | exact Zhb0.out | exact Zhc.out) (by first | exact ha.below HBase | exact hb0.below HBase | exact hc.below HBase)).mono ?_; rintro e W ⟨rfl, hb⟩; (first | rw [H1.out] | rw [H2.out] | rw [H3.out]); replace HBase := HBase.trans (hb.mono HBase.size); clear hb))
  clear P
  rename World => wZ
  replace x0 := cell_stays HBase x0
  replace x1 := cell_stays HBase x1
  replace x2 := cell_stays HBase x2
  replace y0 := cell_stays HBase y0
  replace y1 := cell_stays HBase y1
  replace y2 := cell_stays HBase y2
  replace z0 := cell_stays HBase z0
  replace z1 := cell_stays HBase z1
  replace z2 := cell_stays HBase z2
  replace ha := ha.below HBase
  replace hb0 := hb0.below HBase
  replace hc := hc.below HBase
  replace hB := hB.trans (HBase.mono hB.size)
  clear HBase
  have hl := ord_law (X := .mk kc nc lc) Mha.out.symm Mhb0.out.symm Mhc.out.symm Zhb0.out Zhc.out
  have e1 : decide (VT.cmp (.mk ka na la) (.mk kb nb lb) < 0) = b1 := by rw [← H1.out, PT.hold_less Mhb0.out.symm Zhb0.out]
  have e2 : VT.same (.mk ka na la) (.mk kb nb lb) = b2 := by rw [← H2.out, PT.hold_eq Mhb0.out.symm Zhb0.out]
  have e3 : decide (VT.cmp (.mk kb nb lb) (.mk ka na la) < 0) = b3 := by rw [← H3.out, PT.hold_less Mha.out.symm Zha.out]
  rw [e1, e2, e3] at hl
  obtain ⟨p, hp⟩ : ∃ p, VT.cmp (.mk ka na la) (.mk kb nb lb) = p := ⟨_, rfl⟩
  obtain ⟨q, hq⟩ : ∃ q, VT.cmp (.mk kb nb lb) (.mk kc nc lc) = q := ⟨_, rfl⟩
  rw [hp] at e1
  have hnext := hl.next
  rw [hq] at hnext
  have HP := Lib.hid hp; have HQ := Lib.hid hq; have HE := Lib.hid e2; have HN := Lib.hid hl.neither; have HX := Lib.hid hnext
  have hone := hl.one
  clear hl hp hq e2 e3 hnext H1 H2 H3
  rcases hone with ⟨rfl, rfl, rfl⟩ | ⟨rfl, rfl, rfl⟩ | ⟨rfl, rfl, rfl⟩
  · obtain ⟨wB, hwB, mB, c0, c1, c2⟩ : ∃ wB, wZ.alloc (.cells #[.bool true, .bool false, .bool false] 4) = wB ∧ Below wZ.heap.size wZ wB ∧ wB.cell? ⟨wZ.heap.size, 0, none⟩ = some (.bool true) ∧ wB.cell? ⟨wZ.heap.size, 1, none⟩ = some (.bool false) ∧ wB.cell? ⟨wZ.heap.size, 2, none⟩ = some (.bool false) := ⟨_, rfl, Below.al _, by go_simp, by go_simp, by go_simp⟩
    go_wp2_with fail
    go_loopw [10, 70] (fun x y wr => ∃ (c i : Nat), x = .int .i64 c ∧ y = .int .i64 i ∧ i ≤ 3 ∧ c = ([true, false, false].take i).countP id ∧ Below wB.heap.size wB wr) (fun _ y _ => 3 - (intOf y).toNat)
    case atStart => exact ⟨0, 0, rfl, rfl, by omega, rfl, Below.refl _ _⟩
    case round =>
      obtain ⟨c, i, rfl, rfl, hi, hc, hW⟩ := hrel
      rename World => wS
      replace c0 := cell_stays hW c0
      replace c1 := cell_stays hW c1
      replace c2 := cell_stays hW c2
      have hi4 : i = 0 ∨ i = 1 ∨ i = 2 ∨ i = 3 := by omega
      rcases hi4 with rfl | rfl | rfl | rfl
      · subst hc
        go_wp2_with fail
        go_roundw
        case rel => exact ⟨_, 1, by go_num, by go_num, by omega, by rfl, hW⟩
        case measure => simp [intOf]
      · subst hc
        go_wp2_with fail
        go_roundw
        case rel => exact ⟨_, 2, by go_num, by go_num, by omega, by rfl, hW⟩
        case measure => simp [intOf]
      · subst hc
        go_wp2_with fail
        go_roundw
        case rel => exact ⟨_, 3, by go_num, by go_num, by omega, by rfl, hW⟩
        case measure => simp [intOf]
      · subst hc
        replace mB := mB.trans (hW.mono mB.size)
        replace x0 := cell_stays mB x0
        replace x1 := cell_stays mB x1
        replace x2 := cell_stays mB x2
        replace y0 := cell_stays mB y0
        replace y1 := cell_stays mB y1
        replace y2 := cell_stays mB y2
        replace z0 := cell_stays mB z0
        replace z1 := cell_stays mB z1
        replace z2 := cell_stays mB z2
        replace ha := ha.below mB
        replace hb0 := hb0.below mB
        replace hc := hc.below mB
        replace hB := hB.trans (mB.mono hB.size)
        clear mB hW c0 c1 c2 hwB
        go_wp2_with fail
        have HBase : Below wS.heap.size wS wS.drew := (Below.refl _ _).drew
        go_region_held3 (fun W => W.cell? ⟨w.heap.size, 0, none⟩ = some (.int .u8 ka) ∧ W.cell? ⟨w.heap.size, 1, none⟩ = some (.int .i64 na) ∧ W.cell? ⟨w.heap.size, 2, none⟩ = some (.slice pa la.length qa) ∧ W.cell? ⟨w0.heap.size, 0, none⟩ = some (.int .u8 kb) ∧ W.cell? ⟨w0.heap.size, 1, none⟩ = some (.int .i64 nb) ∧ W.cell? ⟨w0.heap.size, 2, none⟩ = some (.slice pb lb.length qb) ∧ W.cell? ⟨w1.heap.size, 0, none⟩ = some (.int .u8 kc) ∧ W.cell? ⟨w1.heap.size, 1, none⟩ = some (.int .i64 nc) ∧ W.cell? ⟨w1.heap.size, 2, none⟩ = some (.slice pc lc.length qc)) (first | exact ⟨cell_stays HBase x0, cell_stays HBase x1, cell_stays HBase x2, cell_stays HBase y0, cell_stays HBase y1, cell_stays HBase y2, cell_stays HBase z0, cell_stays HBase z1, cell_stays HBase z2⟩ | exact ⟨cell_stays (HBase.trans ((Below.al _).mono HBase.size)) x0, cell_stays (HBase.trans ((Below.al _).mono HBase.size)) x1, cell_stays (HBase.trans ((Below.al _).mono HBase.size)) x2, cell_stays (HBase.trans ((Below.al _).mono HBase.size)) y0, cell_stays (HBase.trans ((Below.al _).mono HBase.size)) y1, cell_stays (HBase.trans ((Below.al _).mono HBase.size)) y2, cell_stays (HBase.trans ((Below.al _).mono HBase.size)) z0, cell_stays (HBase.trans ((Below.al _).mono HBase.size)) z1, cell_stays (HBase.trans ((Below.al _).mono HBase.size)) z2⟩) (first | (go_at_call 21; refine (cmp_any 6000 _ _ _ _ _ (by have := HSZ.out; omega) (ha.below HBase) (hb0.below HBase)).mono ?_; rintro e W ⟨rfl, hb⟩; rw [HP.out]; replace HBase := HBase.trans (hb.mono HBase.size); clear hb) | (go_at_call 22; refine (same_any 6000 _ _ _ _ _ (by have := HSZ.out; omega) (ha.below HBase) (hb0.below HBase)).mono ?_; rintro e W ⟨rfl, hb⟩; rw [HE.out]; replace HBase := HBase.trans (hb.mono HBase.size); clear hb) | (go_at_call 19; refine (pless_any _ _ _ (by first | exact ha.below HBase | exact hb0.below HBase | exact hc.below HBase)).mono ?_; rintro e W ⟨xz, rfl, hf, hb⟩; have P1 := PFIn.pin _ _ hf; obtain ⟨va1, vc1, a1, cap1, -, -, rfl, -, -⟩ := hf.open; simp only [VT.kind, VT.num, VT.items, List.length_nil] at P1 ⊢; clear hf; replace HBase := HBase.trans (hb.mono HBase.size); clear hb) | (go_at_call 20; refine (peq_any _ _ _ (by first | exact ha.below HBase | exact hb0.below HBase | exact hc.below HBase)).mono ?_; rintro e W ⟨xz, rfl, hf, hb⟩; have P2 := PFIn.pin _ _ hf; obtain ⟨va2, vc2, a2, cap2, -, -, rfl, -, -⟩ := hf.open; simp only [VT.kind, VT.num, VT.items, List.length_nil] at P2 ⊢; clear hf; replace P1 := PIn.below hb P1; replace HBase := HBase.trans (hb.mono HBase.size); clear hb) | (go_at_call 24; refine (por_len (l := [.mk 4 (.mk kb nb lb) 0 [], .mk 3 (.mk kb nb lb) 0 []]) (prow_cons (v0 := .int .u8 4) (v1 := .int .u8 kb) (v2 := .int .i64 nb) (v3 := .slice va1 lb.length vc1) (v4 := .int .i64 0) (v5 := .slice a1 0 cap1) (by (go_simp; done)) (by (go_simp; done)) (by (go_simp; done)) (by (go_simp; done)) (by (go_simp; done)) (by (go_simp; done)) (P1.below (Below.al _)) (prow_cons (v0 := .int .u8 3) (v1 := .int .u8 kb) (v2 := .int .i64 nb) (v3 := .slice va2 lb.length vc2) (v4 := .int .i64 0) (v5 := .slice a2 0 cap2) (by (go_simp; done)) (by (go_simp; done)) (by (go_simp; done)) (by (go_simp; done)) (by (go_simp; done)) (by (go_simp; done)) (P2.below (Below.al _)) prow_nil)) (by rfl) (by simp)).mono ?_; rintro e W ⟨xz, rfl, hf, hb⟩; have P3 := PFIn.pin _ _ hf; clear hf P1 P2; (first | (replace hb := (Below.al _).trans (hb.mono (by simp)); replace HBase := HBase.trans (hb.mono HBase.size); clear hb) | (replace HBase := HBase.trans (hb.mono HBase.size); clear hb))) | (go_at_call 23; refine (pnot_any _ _ _ P3).mono ?_; rintro e W ⟨xz, rfl, hf, hb⟩; have P4 := PFIn.pin _ _ hf; clear hf P3; replace HBase := HBase.trans (hb.mono HBase.size); clear hb) | (go_at_call 15; refine (pholds_neither P4 Zhb0.out (ha.below HBase)).mono ?_; rintro e W ⟨rfl, hb⟩; rw [HN.out]; clear P4; replace HBase := HBase.trans (hb.mono HBase.size); clear hb))
        rename World => wZ
        replace x0 := cell_stays HBase x0
        replace x1 := cell_stays HBase x1
        replace x2 := cell_stays HBase x2
        replace y0 := cell_stays HBase y0
        replace y1 := cell_stays HBase y1
        replace y2 := cell_stays HBase y2
        replace z0 := cell_stays HBase z0
        replace z1 := cell_stays HBase z1
        replace z2 := cell_stays HBase z2
        replace ha := ha.below HBase
        replace hb0 := hb0.below HBase
        replace hc := hc.below HBase
        replace hB := hB.trans (HBase.mono hB.size)
        clear HBase
        by_cases hq0 : 0 < q
        · have hd : decide (0 < q) = true := by simpa using hq0
          rename World => wS
          have Q := Lib.hid (regrown (w := wS) fun W hW => by have := cmp_any 6000 _ _ _ _ W (by have := HSZ.out; omega) (hb0.below hW) (hc.below hW); rwa [HQ.out] at this)
          have cx0 := cell_regrown x0
          have cx1 := cell_regrown x1
          have cx2 := cell_regrown x2
          have cy0 := cell_regrown y0
          have cy1 := cell_regrown y1
          have cy2 := cell_regrown y2
          have cz0 := cell_regrown z0
          have cz1 := cell_regrown z1
          have cz2 := cell_regrown z2
          go_wp2_with fail
          refine wp_region_quiet_below (by kernel_rfl) (by kernel_rfl) ?_
          repeat (go_big_quiet_step (first | with_reducible exact Q.out _ _))
          refine wpQuiet_nil ?_
          intro _ hw'
          obtain ⟨⟨dq, osq⟩, hw''⟩ := hw'
          subst hw''
          go_wp2_with fail
          go_ret
          exact ⟨rfl, hB.trans ((below_regrown wS dq osq).mono hB.size)⟩
        · have hd : decide (0 < q) = false := by simpa using hq0
          have HL := Lib.hid (HX.out (by trivial) (by omega))
          rename World => wS
          go_wp2_with fail
          have HBase : Below wS.heap.size wS wS.drew := (Below.refl _ _).drew
          go_region_held3 (fun W => W.cell? ⟨w.heap.size, 0, none⟩ = some (.int .u8 ka) ∧ W.cell? ⟨w.heap.size, 1, none⟩ = some (.int .i64 na) ∧ W.cell? ⟨w.heap.size, 2, none⟩ = some (.slice pa la.length qa) ∧ W.cell? ⟨w0.heap.size, 0, none⟩ = some (.int .u8 kb) ∧ W.cell? ⟨w0.heap.size, 1, none⟩ = some (.int .i64 nb) ∧ W.cell? ⟨w0.heap.size, 2, none⟩ = some (.slice pb lb.length qb) ∧ W.cell? ⟨w1.heap.size, 0, none⟩ = some (.int .u8 kc) ∧ W.cell? ⟨w1.heap.size, 1, none⟩ = some (.int .i64 nc) ∧ W.cell? ⟨w1.heap.size, 2, none⟩ = some (.slice pc lc.length qc)) (first | exact ⟨cell_stays HBase x0, cell_stays HBase x1, cell_stays HBase x2, cell_stays HBase y0, cell_stays HBase y1, cell_stays HBase y2, cell_stays HBase z0, cell_stays HBase z1, cell_stays HBase z2⟩ | exact ⟨cell_stays (HBase.trans ((Below.al _).mono HBase.size)) x0, cell_stays (HBase.trans ((Below.al _).mono HBase.size)) x1, cell_stays (HBase.trans ((Below.al _).mono HBase.size)) x2, cell_stays (HBase.trans ((Below.al _).mono HBase.size)) y0, cell_stays (HBase.trans ((Below.al _).mono HBase.size)) y1, cell_stays (HBase.trans ((Below.al _).mono HBase.size)) y2, cell_stays (HBase.trans ((Below.al _).mono HBase.size)) z0, cell_stays (HBase.trans ((Below.al _).mono HBase.size)) z1, cell_stays (HBase.trans ((Below.al _).mono HBase.size)) z2⟩) (first | (go_at_call 21; refine (cmp_any 6000 _ _ _ _ _ (by have := HSZ.out; omega) (hb0.below HBase) (hc.below HBase)).mono ?_; rintro e W ⟨rfl, hb⟩; rw [HQ.out]; replace HBase := HBase.trans (hb.mono HBase.size); clear hb) | (go_at_call 19; refine (pless_any _ _ _ (by first | exact ha.below HBase | exact hb0.below HBase | exact hc.below HBase)).mono ?_; rintro e W ⟨xz, rfl, hf, hb⟩; (try clear P); have P := PFIn.pin _ _ hf; clear hf; replace HBase := HBase.trans (hb.mono HBase.size); clear hb) | (go_at_call 15; refine (pholds_val P Zhc.out (ha.below HBase)).mono ?_; rintro e W ⟨rfl, hb⟩; rw [HL.out]; clear P; replace HBase := HBase.trans (hb.mono HBase.size); clear hb))
          rename World => wZ
          replace x0 := cell_stays HBase x0
          replace x1 := cell_stays HBase x1
          replace x2 := cell_stays HBase x2
          replace y0 := cell_stays HBase y0
          replace y1 := cell_stays HBase y1
          replace y2 := cell_stays HBase y2
          replace z0 := cell_stays HBase z0
          replace z1 := cell_stays HBase z1
          replace z2 := cell_stays HBase z2
          replace ha := ha.below HBase
          replace hb0 := hb0.below HBase
          replace hc := hc.below HBase
          replace hB := hB.trans (HBase.mono hB.size)
          clear HBase
          go_wp2_with fail
          go_ret
          exact ⟨rfl, hB⟩
  · obtain ⟨wB, hwB, mB, c0, c1, c2⟩ : ∃ wB, wZ.alloc (.cells #[.bool false, .bool true, .bool false] 4) = wB ∧ Below wZ.heap.size wZ wB ∧ wB.cell? ⟨wZ.heap.size, 0, none⟩ = some (.bool false) ∧ wB.cell? ⟨wZ.heap.size, 1, none⟩ = some (.bool true) ∧ wB.cell? ⟨wZ.heap.size, 2, none⟩ = some (.bool false) := ⟨_, rfl, Below.al _, by go_simp, by go_simp, by go_simp⟩
    go_wp2_with fail
    go_loopw [10, 70] (fun x y wr => ∃ (c i : Nat), x = .int .i64 c ∧ y = .int .i64 i ∧ i ≤ 3 ∧ c = ([false, true, false].take i).countP id ∧ Below wB.heap.size wB wr) (fun _ y _ => 3 - (intOf y).toNat)
    case atStart => exact ⟨0, 0, rfl, rfl, by omega, rfl, Below.refl _ _⟩
    case round =>
      obtain ⟨c, i, rfl, rfl, hi, hc, hW⟩ := hrel
      rename World => wS
      replace c0 := cell_stays hW c0
      replace c1 := cell_stays hW c1
      replace c2 := cell_stays hW c2
      have hi4 : i = 0 ∨ i = 1 ∨ i = 2 ∨ i = 3 := by omega
      rcases hi4 with rfl | rfl | rfl | rfl
      · subst hc
        go_wp2_with fail
        go_roundw
        case rel => exact ⟨_, 1, by go_num, by go_num, by omega, by rfl, hW⟩
        case measure => simp [intOf]
      · subst hc
        go_wp2_with fail
        go_roundw
        case rel => exact ⟨_, 2, by go_num, by go_num, by omega, by rfl, hW⟩
        case measure => simp [intOf]
      · subst hc
        go_wp2_with fail
        go_roundw
        case rel => exact ⟨_, 3, by go_num, by go_num, by omega, by rfl, hW⟩
        case measure => simp [intOf]
      · subst hc
        replace mB := mB.trans (hW.mono mB.size)
        replace x0 := cell_stays mB x0
        replace x1 := cell_stays mB x1
        replace x2 := cell_stays mB x2
        replace y0 := cell_stays mB y0
        replace y1 := cell_stays mB y1
        replace y2 := cell_stays mB y2
        replace z0 := cell_stays mB z0
        replace z1 := cell_stays mB z1
        replace z2 := cell_stays mB z2
        replace ha := ha.below mB
        replace hb0 := hb0.below mB
        replace hc := hc.below mB
        replace hB := hB.trans (mB.mono hB.size)
        clear mB hW c0 c1 c2 hwB
        go_wp2_with fail
        have HBase : Below wS.heap.size wS wS.drew := (Below.refl _ _).drew
        go_region_held3 (fun W => W.cell? ⟨w.heap.size, 0, none⟩ = some (.int .u8 ka) ∧ W.cell? ⟨w.heap.size, 1, none⟩ = some (.int .i64 na) ∧ W.cell? ⟨w.heap.size, 2, none⟩ = some (.slice pa la.length qa) ∧ W.cell? ⟨w0.heap.size, 0, none⟩ = some (.int .u8 kb) ∧ W.cell? ⟨w0.heap.size, 1, none⟩ = some (.int .i64 nb) ∧ W.cell? ⟨w0.heap.size, 2, none⟩ = some (.slice pb lb.length qb) ∧ W.cell? ⟨w1.heap.size, 0, none⟩ = some (.int .u8 kc) ∧ W.cell? ⟨w1.heap.size, 1, none⟩ = some (.int .i64 nc) ∧ W.cell? ⟨w1.heap.size, 2, none⟩ = some (.slice pc lc.length qc)) (first | exact ⟨cell_stays HBase x0, cell_stays HBase x1, cell_stays HBase x2, cell_stays HBase y0, cell_stays HBase y1, cell_stays HBase y2, cell_stays HBase z0, cell_stays HBase z1, cell_stays HBase z2⟩ | exact ⟨cell_stays (HBase.trans ((Below.al _).mono HBase.size)) x0, cell_stays (HBase.trans ((Below.al _).mono HBase.size)) x1, cell_stays (HBase.trans ((Below.al _).mono HBase.size)) x2, cell_stays (HBase.trans ((Below.al _).mono HBase.size)) y0, cell_stays (HBase.trans ((Below.al _).mono HBase.size)) y1, cell_stays (HBase.trans ((Below.al _).mono HBase.size)) y2, cell_stays (HBase.trans ((Below.al _).mono HBase.size)) z0, cell_stays (HBase.trans ((Below.al _).mono HBase.size)) z1, cell_stays (HBase.trans ((Below.al _).mono HBase.size)) z2⟩) (first | (go_at_call 21; refine (cmp_any 6000 _ _ _ _ _ (by have := HSZ.out; omega) (ha.below HBase) (hb0.below HBase)).mono ?_; rintro e W ⟨rfl, hb⟩; rw [HP.out]; replace HBase := HBase.trans (hb.mono HBase.size); clear hb) | (go_at_call 22; refine (same_any 6000 _ _ _ _ _ (by have := HSZ.out; omega) (ha.below HBase) (hb0.below HBase)).mono ?_; rintro e W ⟨rfl, hb⟩; rw [HE.out]; replace HBase := HBase.trans (hb.mono HBase.size); clear hb) | (go_at_call 19; refine (pless_any _ _ _ (by first | exact ha.below HBase | exact hb0.below HBase | exact hc.below HBase)).mono ?_; rintro e W ⟨xz, rfl, hf, hb⟩; have P1 := PFIn.pin _ _ hf; obtain ⟨va1, vc1, a1, cap1, -, -, rfl, -, -⟩ := hf.open; simp only [VT.kind, VT.num, VT.items, List.length_nil] at P1 ⊢; clear hf; replace HBase := HBase.trans (hb.mono HBase.size); clear hb) | (go_at_call 20; refine (peq_any _ _ _ (by first | exact ha.below HBase | exact hb0.below HBase | exact hc.below HBase)).mono ?_; rintro e W ⟨xz, rfl, hf, hb⟩; have P2 := PFIn.pin _ _ hf; obtain ⟨va2, vc2, a2, cap2, -, -, rfl, -, -⟩ := hf.open; simp only [VT.kind, VT.num, VT.items, List.length_nil] at P2 ⊢; clear hf; replace P1 := PIn.below hb P1; replace HBase := HBase.trans (hb.mono HBase.size); clear hb) | (go_at_call 24; refine (por_len (l := [.mk 4 (.mk kb nb lb) 0 [], .mk 3 (.mk kb nb lb) 0 []]) (prow_cons (v0 := .int .u8 4) (v1 := .int .u8 kb) (v2 := .int .i64 nb) (v3 := .slice va1 lb.length vc1) (v4 := .int .i64 0) (v5 := .slice a1 0 cap1) (by (go_simp; done)) (by (go_simp; done)) (by (go_simp; done)) (by (go_simp; done)) (by (go_simp; done)) (by (go_simp; done)) (P1.below (Below.al _)) (prow_cons (v0 := .int .u8 3) (v1 := .int .u8 kb) (v2 := .int .i64 nb) (v3 := .slice va2 lb.length vc2) (v4 := .int .i64 0) (v5 := .slice a2 0 cap2) (by (go_simp; done)) (by (go_simp; done)) (by (go_simp; done)) (by (go_simp; done)) (by (go_simp; done)) (by (go_simp; done)) (P2.below (Below.al _)) prow_nil)) (by rfl) (by simp)).mono ?_; rintro e W ⟨xz, rfl, hf, hb⟩; have P3 := PFIn.pin _ _ hf; clear hf P1 P2; (first | (replace hb := (Below.al _).trans (hb.mono (by simp)); replace HBase := HBase.trans (hb.mono HBase.size); clear hb) | (replace HBase := HBase.trans (hb.mono HBase.size); clear hb))) | (go_at_call 23; refine (pnot_any _ _ _ P3).mono ?_; rintro e W ⟨xz, rfl, hf, hb⟩; have P4 := PFIn.pin _ _ hf; clear hf P3; replace HBase := HBase.trans (hb.mono HBase.size); clear hb) | (go_at_call 15; refine (pholds_neither P4 Zhb0.out (ha.below HBase)).mono ?_; rintro e W ⟨rfl, hb⟩; rw [HN.out]; clear P4; replace HBase := HBase.trans (hb.mono HBase.size); clear hb))
        rename World => wZ
        replace x0 := cell_stays HBase x0
        replace x1 := cell_stays HBase x1
        replace x2 := cell_stays HBase x2
        replace y0 := cell_stays HBase y0
        replace y1 := cell_stays HBase y1
        replace y2 := cell_stays HBase y2
        replace z0 := cell_stays HBase z0
        replace z1 := cell_stays HBase z1
        replace z2 := cell_stays HBase z2
        replace ha := ha.below HBase
        replace hb0 := hb0.below HBase
        replace hc := hc.below HBase
        replace hB := hB.trans (HBase.mono hB.size)
        clear HBase
        rename World => wS
        have Q := Lib.hid (regrown (w := wS) fun W hW => pawake_any W)
        have cx0 := cell_regrown x0
        have cx1 := cell_regrown x1
        have cx2 := cell_regrown x2
        have cy0 := cell_regrown y0
        have cy1 := cell_regrown y1
        have cy2 := cell_regrown y2
        have cz0 := cell_regrown z0
        have cz1 := cell_regrown z1
        have cz2 := cell_regrown z2
        go_wp2_with fail
        refine wp_region_quiet_below (by kernel_rfl) (by kernel_rfl) ?_
        repeat (go_big_quiet_step (first | with_reducible exact Q.out _ _))
        refine wpQuiet_nil ?_
        intro _ hw'
        obtain ⟨⟨dq, osq⟩, hw''⟩ := hw'
        subst hw''
        go_wp2_with fail
        go_ret
        exact ⟨rfl, hB.trans ((below_regrown wS dq osq).mono hB.size)⟩
  · obtain ⟨wB, hwB, mB, c0, c1, c2⟩ : ∃ wB, wZ.alloc (.cells #[.bool false, .bool false, .bool true] 4) = wB ∧ Below wZ.heap.size wZ wB ∧ wB.cell? ⟨wZ.heap.size, 0, none⟩ = some (.bool false) ∧ wB.cell? ⟨wZ.heap.size, 1, none⟩ = some (.bool false) ∧ wB.cell? ⟨wZ.heap.size, 2, none⟩ = some (.bool true) := ⟨_, rfl, Below.al _, by go_simp, by go_simp, by go_simp⟩
    go_wp2_with fail
    go_loopw [10, 70] (fun x y wr => ∃ (c i : Nat), x = .int .i64 c ∧ y = .int .i64 i ∧ i ≤ 3 ∧ c = ([false, false, true].take i).countP id ∧ Below wB.heap.size wB wr) (fun _ y _ => 3 - (intOf y).toNat)
    case atStart => exact ⟨0, 0, rfl, rfl, by omega, rfl, Below.refl _ _⟩
    case round =>
      obtain ⟨c, i, rfl, rfl, hi, hc, hW⟩ := hrel
      rename World => wS
      replace c0 := cell_stays hW c0
      replace c1 := cell_stays hW c1
      replace c2 := cell_stays hW c2
      have hi4 : i = 0 ∨ i = 1 ∨ i = 2 ∨ i = 3 := by omega
      rcases hi4 with rfl | rfl | rfl | rfl
      · subst hc
        go_wp2_with fail
        go_roundw
        case rel => exact ⟨_, 1, by go_num, by go_num, by omega, by rfl, hW⟩
        case measure => simp [intOf]
      · subst hc
        go_wp2_with fail
        go_roundw
        case rel => exact ⟨_, 2, by go_num, by go_num, by omega, by rfl, hW⟩
        case measure => simp [intOf]
      · subst hc
        go_wp2_with fail
        go_roundw
        case rel => exact ⟨_, 3, by go_num, by go_num, by omega, by rfl, hW⟩
        case measure => simp [intOf]
      · subst hc
        replace mB := mB.trans (hW.mono mB.size)
        replace x0 := cell_stays mB x0
        replace x1 := cell_stays mB x1
        replace x2 := cell_stays mB x2
        replace y0 := cell_stays mB y0
        replace y1 := cell_stays mB y1
        replace y2 := cell_stays mB y2
        replace z0 := cell_stays mB z0
        replace z1 := cell_stays mB z1
        replace z2 := cell_stays mB z2
        replace ha := ha.below mB
        replace hb0 := hb0.below mB
        replace hc := hc.below mB
        replace hB := hB.trans (mB.mono hB.size)
        clear mB hW c0 c1 c2 hwB
        go_wp2_with fail
        have HBase : Below wS.heap.size wS wS.drew := (Below.refl _ _).drew
        go_region_held3 (fun W => W.cell? ⟨w.heap.size, 0, none⟩ = some (.int .u8 ka) ∧ W.cell? ⟨w.heap.size, 1, none⟩ = some (.int .i64 na) ∧ W.cell? ⟨w.heap.size, 2, none⟩ = some (.slice pa la.length qa) ∧ W.cell? ⟨w0.heap.size, 0, none⟩ = some (.int .u8 kb) ∧ W.cell? ⟨w0.heap.size, 1, none⟩ = some (.int .i64 nb) ∧ W.cell? ⟨w0.heap.size, 2, none⟩ = some (.slice pb lb.length qb) ∧ W.cell? ⟨w1.heap.size, 0, none⟩ = some (.int .u8 kc) ∧ W.cell? ⟨w1.heap.size, 1, none⟩ = some (.int .i64 nc) ∧ W.cell? ⟨w1.heap.size, 2, none⟩ = some (.slice pc lc.length qc)) (first | exact ⟨cell_stays HBase x0, cell_stays HBase x1, cell_stays HBase x2, cell_stays HBase y0, cell_stays HBase y1, cell_stays HBase y2, cell_stays HBase z0, cell_stays HBase z1, cell_stays HBase z2⟩ | exact ⟨cell_stays (HBase.trans ((Below.al _).mono HBase.size)) x0, cell_stays (HBase.trans ((Below.al _).mono HBase.size)) x1, cell_stays (HBase.trans ((Below.al _).mono HBase.size)) x2, cell_stays (HBase.trans ((Below.al _).mono HBase.size)) y0, cell_stays (HBase.trans ((Below.al _).mono HBase.size)) y1, cell_stays (HBase.trans ((Below.al _).mono HBase.size)) y2, cell_stays (HBase.trans ((Below.al _).mono HBase.size)) z0, cell_stays (HBase.trans ((Below.al _).mono HBase.size)) z1, cell_stays (HBase.trans ((Below.al _).mono HBase.size)) z2⟩) (first | (go_at_call 21; refine (cmp_any 6000 _ _ _ _ _ (by have := HSZ.out; omega) (ha.below HBase) (hb0.below HBase)).mono ?_; rintro e W ⟨rfl, hb⟩; rw [HP.out]; replace HBase := HBase.trans (hb.mono HBase.size); clear hb) | (go_at_call 22; refine (same_any 6000 _ _ _ _ _ (by have := HSZ.out; omega) (ha.below HBase) (hb0.below HBase)).mono ?_; rintro e W ⟨rfl, hb⟩; rw [HE.out]; replace HBase := HBase.trans (hb.mono HBase.size); clear hb) | (go_at_call 19; refine (pless_any _ _ _ (by first | exact ha.below HBase | exact hb0.below HBase | exact hc.below HBase)).mono ?_; rintro e W ⟨xz, rfl, hf, hb⟩; have P1 := PFIn.pin _ _ hf; obtain ⟨va1, vc1, a1, cap1, -, -, rfl, -, -⟩ := hf.open; simp only [VT.kind, VT.num, VT.items, List.length_nil] at P1 ⊢; clear hf; replace HBase := HBase.trans (hb.mono HBase.size); clear hb) | (go_at_call 20; refine (peq_any _ _ _ (by first | exact ha.below HBase | exact hb0.below HBase | exact hc.below HBase)).mono ?_; rintro e W ⟨xz, rfl, hf, hb⟩; have P2 := PFIn.pin _ _ hf; obtain ⟨va2, vc2, a2, cap2, -, -, rfl, -, -⟩ := hf.open; simp only [VT.kind, VT.num, VT.items, List.length_nil] at P2 ⊢; clear hf; replace P1 := PIn.below hb P1; replace HBase := HBase.trans (hb.mono HBase.size); clear hb) | (go_at_call 24; refine (por_len (l := [.mk 4 (.mk kb nb lb) 0 [], .mk 3 (.mk kb nb lb) 0 []]) (prow_cons (v0 := .int .u8 4) (v1 := .int .u8 kb) (v2 := .int .i64 nb) (v3 := .slice va1 lb.length vc1) (v4 := .int .i64 0) (v5 := .slice a1 0 cap1) (by (go_simp; done)) (by (go_simp; done)) (by (go_simp; done)) (by (go_simp; done)) (by (go_simp; done)) (by (go_simp; done)) (P1.below (Below.al _)) (prow_cons (v0 := .int .u8 3) (v1 := .int .u8 kb) (v2 := .int .i64 nb) (v3 := .slice va2 lb.length vc2) (v4 := .int .i64 0) (v5 := .slice a2 0 cap2) (by (go_simp; done)) (by (go_simp; done)) (by (go_simp; done)) (by (go_simp; done)) (by (go_simp; done)) (by (go_simp; done)) (P2.below (Below.al _)) prow_nil)) (by rfl) (by simp)).mono ?_; rintro e W ⟨xz, rfl, hf, hb⟩; have P3 := PFIn.pin _ _ hf; clear hf P1 P2; (first | (replace hb := (Below.al _).trans (hb.mono (by simp)); replace HBase := HBase.trans (hb.mono HBase.size); clear hb) | (replace HBase := HBase.trans (hb.mono HBase.size); clear hb))) | (go_at_call 23; refine (pnot_any _ _ _ P3).mono ?_; rintro e W ⟨xz, rfl, hf, hb⟩; have P4 := PFIn.pin _ _ hf; clear hf P3; replace HBase := HBase.trans (hb.mono HBase.size); clear hb) | (go_at_call 15; refine (pholds_neither P4 Zhb0.out (ha.below HBase)).mono ?_; rintro e W ⟨rfl, hb⟩; rw [HN.out]; clear P4; replace HBase := HBase.trans (hb.mono HBase.size); clear hb))
        rename World => wZ
        replace x0 := cell_stays HBase x0
        replace x1 := cell_stays HBase x1
        replace x2 := cell_stays HBase x2
        replace y0 := cell_stays HBase y0
        replace y1 := cell_stays HBase y1
        replace y2 := cell_stays HBase y2
        replace z0 := cell_stays HBase z0
        replace z1 := cell_stays HBase z1
        replace z2 := cell_stays HBase z2
        replace ha := ha.below HBase
        replace hb0 := hb0.below HBase
        replace hc := hc.below HBase
        replace hB := hB.trans (HBase.mono hB.size)
        clear HBase
        rename World => wS
        have Q := Lib.hid (regrown (w := wS) fun W hW => pawake_any W)
        have cx0 := cell_regrown x0
        have cx1 := cell_regrown x1
        have cx2 := cell_regrown x2
        have cy0 := cell_regrown y0
        have cy1 := cell_regrown y1
        have cy2 := cell_regrown y2
        have cz0 := cell_regrown z0
        have cz1 := cell_regrown z1
        have cz2 := cell_regrown z2
        go_wp2_with fail
        refine wp_region_quiet_below (by kernel_rfl) (by kernel_rfl) ?_
        repeat (go_big_quiet_step (first | with_reducible exact Q.out _ _))
        refine wpQuiet_nil ?_
        intro _ hw'
        obtain ⟨⟨dq, osq⟩, hw''⟩ := hw'
        subst hw''
        go_wp2_with fail
        go_ret
        exact ⟨rfl, hB.trans ((below_regrown wS dq osq).mono hB.size)⟩
end Go.Proofs.Ytclmnpfdnhfbmaa
