/- PredRows: the walk of the law. -/
import Derived.Test.YtclmnpfdnhfbmaaPLawHolds
import Derived.Test.YtclmnpfdnhfbmaaPRows
import Derived.Deep.RegionHeld3
namespace Go.Proofs.Ytclmnpfdnhfbmaa
open Go.RowKit

set_option maxRecDepth 100000 in
set_option maxHeartbeats 8000000 in
theorem predRows_any (l : List PT) (a : Option Addr) (cap : Nat) (X : VT) (y : Value) (again turn : Int) (w : World) (hlen : l.length ≤ 1759218604390) (hr : PRow w l a) (hy : VIn w X y) (ha0 : 0 ≤ again) (ha1 : again ≤ 255) (hb0 : 0 ≤ turn) (hb1 : turn ≤ 255) :
    Calls Try.prog 7 #[.slice a l.length cap, y, .int .u8 again, .int .u8 turn] w fun e w' => e = .returned (.bool true) ∧ Below w.heap.size w w' := by
  obtain ⟨xk, xn, xl⟩ := X
  obtain ⟨xa, xc, hxl, rfl, -⟩ := hy.open
  obtain ⟨w0, hw0, m0, -, p0, p1, p2, -⟩ := box3 w (.int .u8 xk) (.int .i64 xn) (.slice xa xl.length xc) 24
  have hB : Below w.heap.size w w0 := m0
  replace hr := hr.below m0
  replace hy := hy.below m0
  clear m0
  obtain ⟨b, hb⟩ : ∃ b, b = PT.long l := ⟨_, rfl⟩
  obtain ⟨c, hc⟩ : ∃ c, c = VT.long [.mk xk xn xl] := ⟨_, rfl⟩
  obtain ⟨d, hd⟩ : ∃ d, d = l.all PT.allT := ⟨_, rfl⟩
  have HB := Lib.hid hb; have HC := Lib.hid hc; have HD := Lib.hid hd; clear hb hc hd
  go_enter Try.func7, Try.ntmps7
  by_cases hl0 : l.length = 0
  case pos =>
    go_wp2_with fail
    refine (pawake_any _).mono ?_
    rintro e wz ⟨rfl, hbz⟩
    go_wp2_with fail
    go_ret
    exact ⟨rfl, hB.trans (hbz.mono hB.size)⟩
  case neg =>
  have n0 : ((l.length : Int) == 0) = false := by rw [beq_eq_false_iff_ne]; omega
  by_cases hl4 : 4 < l.length
  case pos =>
    go_wp2_with fail
    refine (pawake_any _).mono ?_
    rintro e wz ⟨rfl, hbz⟩
    go_wp2_with fail
    go_ret
    exact ⟨rfl, hB.trans (hbz.mono hB.size)⟩
  case neg =>
  have n4 : decide (4 < (l.length : Int)) = false := by simp; omega
  go_wp2_with fail
  refine (plong_any l _ _ _ hlen hr).mono ?_
  rintro e w3 ⟨rfl, hb3⟩
  rw [← HB.out]
  replace p0 := cell_stays hb3 p0
  replace p1 := cell_stays hb3 p1
  replace p2 := cell_stays hb3 p2
  replace hr := hr.below hb3
  replace hy := hy.below hb3
  replace hB := hB.trans (hb3.mono hB.size)
  clear hb3
  cases b
  case true =>
    go_wp2_with fail
    refine (pawake_any _).mono ?_
    rintro e wz ⟨rfl, hbz⟩
    go_wp2_with fail
    go_ret
    exact ⟨rfl, hB.trans (hbz.mono hB.size)⟩
  case false =>
  have HSM := Lib.hid (PT.not_long HB.out.symm)
  obtain ⟨w4, hw4, m4, -, r0, r1, r2, -⟩ := box3 w3 (.int .u8 xk) (.int .i64 xn) (.slice xa xl.length xc) 24
  have hrow : VRow w4 [.mk xk xn xl] (some ⟨w3.heap.size, 0, none⟩) := vrow_cons r0 r1 r2 (hy.below m4) vrow_nil
  clear r0 r1 r2
  go_wp2_with fail
  refine (long_any [.mk xk xn xl] _ 1 _ (by simp) hrow).mono ?_
  rintro e w5 ⟨rfl, hb5⟩
  rw [← HC.out]
  have m5 := m4.trans (hb5.mono m4.size)
  replace p0 := cell_stays m5 p0
  replace p1 := cell_stays m5 p1
  replace p2 := cell_stays m5 p2
  replace hr := hr.below m5
  replace hy := hy.below m5
  replace hB := hB.trans (m5.mono hB.size)
  clear hrow m4 hb5 m5
  cases c
  case true =>
    go_wp2_with fail
    refine (pawake_any _).mono ?_
    rintro e wz ⟨rfl, hbz⟩
    go_wp2_with fail
    go_ret
    exact ⟨rfl, hB.trans (hbz.mono hB.size)⟩
  case false =>
  go_wp2_with fail
  refine (all_any l _ _ _ hlen hr (by have := HSM.out; omega) (by have := HSM.out; omega)).mono ?_
  rintro e w7 ⟨rfl, hb7⟩
  rw [← HD.out]
  replace p0 := cell_stays hb7 p0
  replace p1 := cell_stays hb7 p1
  replace p2 := cell_stays hb7 p2
  replace hr := hr.below hb7
  replace hy := hy.below hb7
  replace hB := hB.trans (hb7.mono hB.size)
  clear hb7
  cases d
  case false =>
    go_wp2_with fail
    refine (pawake_any _).mono ?_
    rintro e wz ⟨rfl, hbz⟩
    go_wp2_with fail
    go_ret
    exact ⟨rfl, hB.trans (hbz.mono hB.size)⟩
  case true =>
  go_wp2_with fail
  refine (pawake_any _).mono ?_
  rintro e w8 ⟨rfl, hb8⟩
  replace p0 := cell_stays hb8 p0
  replace p1 := cell_stays hb8 p1
  replace p2 := cell_stays hb8 p2
  replace hr := hr.below hb8
  replace hy := hy.below hb8
  replace hB := hB.trans (hb8.mono hB.size)
  clear hb8 hw0 hw4
  have HALL := Lib.hid (fun t ht => List.all_eq_true.1 HD.out.symm t ht)
  obtain ⟨f, hf⟩ : ∃ f : PT → Bool, f = fun t => t.hold (.mk xk xn xl) := ⟨_, rfl⟩
  have HF := Lib.hid hf; clear hf
  obtain ⟨u, rfl⟩ : ∃ u : Nat, turn = u := ⟨turn.toNat, by omega⟩
  obtain ⟨v, rfl⟩ : ∃ v : Nat, again = v := ⟨again.toNat, by omega⟩
  have hpos : 0 < l.length := by omega
  go_wp2_with fail
  go_loopw [9, 10, 11, 12] (fun x e s y wr => ∃ (i : Nat) (a' : Option Addr) (cap' : Nat) (xs : List Value) (e0 s0 : Bool), x = .slice a' i cap' ∧ e = .bool e0 ∧ s = .bool s0 ∧ y = .int .i64 i ∧ i ≤ l.length ∧ e0 = (l.take i).all f ∧ s0 = (l.take i).any f ∧
    Grown wr w8.heap.size 27 6 i xs a' cap' ∧ PIt w8 (turned l u i) xs ∧ Below w8.heap.size w8 wr) (fun _ _ _ y _ => l.length - (intOf y).toNat)
  case atStart => exact ⟨0, none, 0, [], true, false, rfl, rfl, rfl, rfl, by omega, by simp, by simp, Grown.nil _ _ _ _, PIt.nil _, Below.refl _ _⟩
  case round =>
    obtain ⟨i, a', cap', xs, e0, s0, rfl, rfl, rfl, rfl, hi, he0, hs0, hg, hit, hW⟩ := hrel
    have HG := Lib.hid hg; have HIT := Lib.hid hit; have HE0 := Lib.hid he0; have HS0 := Lib.hid hs0; clear hg hit he0 hs0
    rename World => wR
    by_cases hlt : i < l.length
    · have hlt' : (i : Int) < l.length := by omega
      have hml : (i + u) % l.length < l.length := Nat.mod_lt _ hpos
      have b0 : (0 : Int) ≤ ((i : Int) + (u : Int)) % (l.length : Int) := Int.emod_nonneg _ (by omega)
      have b1 : ((i : Int) + (u : Int)) % (l.length : Int) < (l.length : Int) := Int.emod_lt_of_pos _ (by omega)
      have hta := turnedAt_eq hml
      obtain ⟨pb, po, rfl, ax, ac, a2, cap2, d0, d1, d2, d3, d4, d5, hx⟩ := hr.got _ hml
      obtain ⟨pb', po', e', bx, bc, b2, bcap2, f0, f1, f2, f3, f4, f5, hxi⟩ := hr.got i hlt
      cases e'
      obtain ⟨t, ht⟩ : ∃ t, t = l[(i + u) % l.length] := ⟨_, rfl⟩
      rw [← ht] at d0 d1 d2 d3 d4 d5 hx hta
      obtain ⟨z, hz⟩ : ∃ z, z = f l[i] := ⟨_, rfl⟩
      have HZ := Lib.hid (show PT.hold l[i] (.mk xk xn xl) = z by rw [hz, HF.out])
      have HEV := Lib.hid (show (l.take (i + 1)).all f = (e0 && z) by rw [all_upto hlt, hz, HE0.out])
      have HSO := Lib.hid (show (l.take (i + 1)).any f = (s0 || z) by rw [any_upto hlt, hz, HS0.out])
      have HTA := Lib.hid hta; clear hta hz ht
      replace d0 := cell_stays hW d0
      replace d1 := cell_stays hW d1
      replace d2 := cell_stays hW d2
      replace d3 := cell_stays hW d3
      replace d4 := cell_stays hW d4
      replace d5 := cell_stays hW d5
      obtain ⟨wB, hwB, mB, -, r0, r1, r2, r3, r4, r5⟩ := box6 wR (.int .u8 t.kind) (.int .u8 t.val.kind) (.int .i64 t.val.num) (.slice ax t.val.items.length ac) (.int .i64 t.num) (.slice a2 t.args.length cap2) 27
      have mW := hW.trans (mB.mono hW.size)
      obtain ⟨a6, c6, w6, ys, hap, hg6, hi6, hb6⟩ := ppush (w00 := w8) mW.size (HG.out.below mB) HIT.out hx r0 r1 r2 r3 r4 r5 ⟨rfl, rfl, rfl, rfl, rfl, rfl⟩ (by omega)
      have HAP := Lib.hid hap; have HG6 := Lib.hid hg6; have HI6 := Lib.hid (show PIt w8 (turned l u (i + 1)) ys by rw [turned_succ, HTA.out]; exact hi6)
      clear hap hg6 hi6 r0 r1 r2 r3 r4 r5 hx
      have m6 := mW.trans hb6
      replace p0 := cell_stays m6 p0
      replace p1 := cell_stays m6 p1
      replace p2 := cell_stays m6 p2
      replace f0 := cell_stays m6 f0
      replace f1 := cell_stays m6 f1
      replace f2 := cell_stays m6 f2
      replace f3 := cell_stays m6 f3
      replace f4 := cell_stays m6 f4
      replace f5 := cell_stays m6 f5
      replace hxi := hxi.below m6
      replace hy := hy.below m6
      clear hr HG HIT HTA mW hb6 mB
      go_wp2_with (at_builtin; refine wpList_append_run _ rfl _ _ _ rfl (.slice a' i cap') (.slice (some ⟨wR.heap.size, 0, none⟩) 1 1) _ _ rfl rfl HAP.out ?_)
      refine region_tail 5 (by kernel_rfl) (by kernel_rfl) ?_
      simp only [List.take_succ_cons, List.take_zero, List.drop_succ_cons, List.drop_zero]
      repeat still_step
      refine wpStill_nil ?_
      go_wp2_with fail
      refine (pholds_any _ _ _ _ _ (by have := PT.cnts_get hlt; have := HSM.out; omega) (by have := PT.fats_get hlt; have := HSM.out; omega) (hxi.below (Below.refl _ _).drew) (hy.below (Below.refl _ _).drew)).mono ?_
      rintro e w9 ⟨rfl, hb9⟩
      rw [HZ.out]
      have m9 := m6.trans (((Below.refl _ _).drew.trans hb9).mono m6.size)
      clear p0 p1 p2 f0 f1 f2 f3 f4 f5 hxi m6 HE0 HS0 HZ
      cases e0 <;> cases s0
      all_goals
        go_wp2_with fail
        go_roundw
        case rel => exact ⟨i + 1, a6, c6, ys, _, _, rfl, rfl, rfl, by go_num, by omega, HEV.out.symm, HSO.out.symm, (HG6.out.below (Below.refl _ _).drew).below hb9, HI6.out, m9⟩
        case measure => simp [intOf]; omega
    · have hii : i = l.length := by omega
      subst hii
      have n4 : decide ((l.length : Int) < (l.length : Int)) = false := by simp
      have hml : (v + 0) % l.length < l.length := Nat.mod_lt _ hpos
      rw [Nat.add_zero] at hml
      have b0 : (0 : Int) ≤ (v : Int) % (l.length : Int) := Int.emod_nonneg _ (by omega)
      have b1 : (v : Int) % (l.length : Int) < (l.length : Int) := Int.emod_lt_of_pos _ (by omega)
      have hta : turnedAt l 0 v = l[v % l.length] := turnedAt_eq (b := 0) hml
      obtain ⟨pb, po, rfl, ax, ac, a2, cap2, d0, d1, d2, d3, d4, d5, hx⟩ := hr.got _ hml
      obtain ⟨pb', po', e', bx, bc, b2, bcap2, f0, f1, f2, f3, f4, f5, hx0⟩ := hr.got 0 hpos
      cases e'
      simp only [Nat.zero_mul, Nat.add_zero] at f0 f1 f2 f3 f4 f5
      have h0l : l[0] ∈ l := List.getElem_mem _
      obtain ⟨t, ht⟩ : ∃ t, t = l[v % l.length] := ⟨_, rfl⟩
      obtain ⟨s, hs⟩ : ∃ s, s = l[0] := ⟨_, rfl⟩
      rw [← ht] at d0 d1 d2 d3 d4 d5 hx hta
      rw [← hs] at f0 f1 f2 f3 f4 f5 hx0 h0l
      obtain ⟨z, hz⟩ : ∃ z, z = s.hold (.mk xk xn xl) := ⟨_, rfl⟩
      have hE : e0 = l.all f := by rw [HE0.out, List.take_length]
      have hS : s0 = l.any f := by rw [HS0.out, List.take_length]
      have hmm := mixed_mem hpos v u
      obtain ⟨ml, hml2⟩ : ∃ ml, ml = turned l u l.length ++ [turnedAt l 0 v] := ⟨_, rfl⟩
      have hmlen : l.length + 1 = ml.length := by rw [hml2, List.length_append, turned_len]; rfl
      rw [← hml2] at hmm
      have HALM : ∀ t ∈ ml, t.allT = true := fun t h => HALL.out t ((hmm t).1 h)
      have r1 : PT.hold (.mk 6 vNone 0 l) (.mk xk xn xl) = e0 := by rw [PT.hold_and (by omega) HALL.out, hE, HF.out]
      have r2 : PT.hold (.mk 7 vNone 0 l) (.mk xk xn xl) = s0 := by rw [PT.hold_or (by omega) HALL.out, hS, HF.out]
      have r3 : PT.hold (.mk 6 vNone 0 ml) (.mk xk xn xl) = e0 := by rw [PT.hold_and (by omega) HALM, hE, HF.out, all_mem hmm]
      have r4 : PT.hold (.mk 7 vNone 0 ml) (.mk xk xn xl) = s0 := by rw [PT.hold_or (by omega) HALM, hS, HF.out, any_mem hmm]
      have r5 : PT.hold (.mk 6 vNone 0 []) (.mk xk xn xl) = true := by rw [PT.hold_and (by simp) (by simp)]; rfl
      have r6 : PT.hold (.mk 7 vNone 0 []) (.mk xk xn xl) = false := by rw [PT.hold_or (by simp) (by simp)]; rfl
      have r7 : PT.hold (.mk 6 vNone 0 [s]) (.mk xk xn xl) = z := by rw [PT.hold_and (by simp) (by simpa using HALL.out s h0l), hz]; simp
      have r8 : PT.hold (.mk 7 vNone 0 [s]) (.mk xk xn xl) = z := by rw [PT.hold_or (by simp) (by simpa using HALL.out s h0l), hz]; simp
      have hmc : PT.cnts ml ≤ 900000 ∧ PT.fats ml ≤ 100000 := by
        have h1 := PT.cnts_sub l ml (fun t h => (hmm t).1 h)
        have h2 := PT.fats_sub l ml (fun t h => (hmm t).1 h)
        have h3 := HSM.out
        rw [← hmlen] at h1
        have h4 : PT.cnts l * (l.length + 1) ≤ 3000 * 5 := Nat.mul_le_mul (by omega) (by omega)
        omega
      have hsc : PT.cnts [s] ≤ 900000 ∧ PT.fats [s] ≤ 100000 := by
        have h1 := PT.cnts_mem l s h0l
        have h2 := PT.fats_mem l s h0l
        have h3 := HSM.out
        simp only [PT.cnts, PT.fats]; omega
      have hlc : PT.cnts l ≤ 900000 ∧ PT.fats l ≤ 100000 := by have h3 := HSM.out; omega
      have R1 := Lib.hid r1; have R2 := Lib.hid r2; have R3 := Lib.hid r3; have R4 := Lib.hid r4; have R5 := Lib.hid r5; have R6 := Lib.hid r6; have R7 := Lib.hid r7; have R8 := Lib.hid r8
      have HMC := Lib.hid hmc; have HSC := Lib.hid hsc; have HLC := Lib.hid hlc; have HZ := Lib.hid hz.symm
      clear r1 r2 r3 r4 r5 r6 r7 r8 hmc hsc hlc hE hS hz HE0 HS0 HALM hmm h0l ht hs
      replace d0 := cell_stays hW d0
      replace d1 := cell_stays hW d1
      replace d2 := cell_stays hW d2
      replace d3 := cell_stays hW d3
      replace d4 := cell_stays hW d4
      replace d5 := cell_stays hW d5
      obtain ⟨wB, hwB, mB, -, r0, r1, r2, r3, r4, r5⟩ := box6 wR (.int .u8 t.kind) (.int .u8 t.val.kind) (.int .i64 t.val.num) (.slice ax t.val.items.length ac) (.int .i64 t.num) (.slice a2 t.args.length cap2) 27
      have mW := hW.trans (mB.mono hW.size)
      obtain ⟨a6, c6, w6, ys, hap, hg6, hi6, hb6⟩ := ppush (w00 := w8) mW.size (HG.out.below mB) HIT.out hx r0 r1 r2 r3 r4 r5 ⟨rfl, rfl, rfl, rfl, rfl, rfl⟩ (by omega)
      rw [← hta, ← hml2] at hi6
      have m6 := mW.trans hb6
      have hrm : PRow w6 ml a6 := grown_prow hmlen hg6 hi6 m6
      have HAP := Lib.hid hap
      have HMLEN := Lib.hid hmlen
      clear hmlen hap hg6 hi6 r0 r1 r2 r3 r4 r5 hx mW hb6 mB HG HIT hml2 hta hW
      replace p0 := cell_stays m6 p0
      replace p1 := cell_stays m6 p1
      replace p2 := cell_stays m6 p2
      replace hr := hr.below m6
      replace hy := hy.below m6
      replace hB := hB.trans (m6.mono hB.size)
      replace f0 := cell_stays m6 f0
      replace f1 := cell_stays m6 f1
      replace f2 := cell_stays m6 f2
      replace f3 := cell_stays m6 f3
      replace f4 := cell_stays m6 f4
      replace f5 := cell_stays m6 f5
      replace hx0 := hx0.below m6
      go_wp2_with (at_builtin; refine wpList_append_run _ rfl _ _ _ rfl (.slice a' l.length cap') (.slice (some ⟨wR.heap.size, 0, none⟩) 1 1) _ _ rfl rfl HAP.out ?_)
      clear b0 b1 HAP hwB m6 d0 d1 d2 d3 d4 d5
      simp only [List.append_eq, List.cons_append, List.nil_append]
      have HBase : Below w6.heap.size w6 w6.drew := (Below.refl _ _).drew
      have x1 : (e0 == e0) = true := by simp
      have x2 : (s0 == s0) = true := by simp
      have x3 : (z == z) = true := by simp
      all_goals
        go_region_held3 (fun W => W.cell? ⟨w.heap.size, 0, none⟩ = some (.int .u8 xk) ∧ W.cell? ⟨w.heap.size, 1, none⟩ = some (.int .i64 xn) ∧ W.cell? ⟨w.heap.size, 2, none⟩ = some (.slice xa xl.length xc) ∧ W.cell? ⟨pb, po, none⟩ = some (.int .u8 s.kind) ∧ W.cell? ⟨pb, po + 1, none⟩ = some (.int .u8 s.val.kind) ∧ W.cell? ⟨pb, po + 2, none⟩ = some (.int .i64 s.val.num) ∧ W.cell? ⟨pb, po + 3, none⟩ = some (.slice bx s.val.items.length bc) ∧ W.cell? ⟨pb, po + 4, none⟩ = some (.int .i64 s.num) ∧ W.cell? ⟨pb, po + 5, none⟩ = some (.slice b2 s.args.length bcap2)) (first | exact ⟨cell_stays HBase p0, cell_stays HBase p1, cell_stays HBase p2, cell_stays HBase f0, cell_stays HBase f1, cell_stays HBase f2, cell_stays HBase f3, cell_stays HBase f4, cell_stays HBase f5⟩ | exact ⟨cell_stays (HBase.trans ((Below.al _).mono HBase.size)) p0, cell_stays (HBase.trans ((Below.al _).mono HBase.size)) p1, cell_stays (HBase.trans ((Below.al _).mono HBase.size)) p2, cell_stays (HBase.trans ((Below.al _).mono HBase.size)) f0, cell_stays (HBase.trans ((Below.al _).mono HBase.size)) f1, cell_stays (HBase.trans ((Below.al _).mono HBase.size)) f2, cell_stays (HBase.trans ((Below.al _).mono HBase.size)) f3, cell_stays (HBase.trans ((Below.al _).mono HBase.size)) f4, cell_stays (HBase.trans ((Below.al _).mono HBase.size)) f5⟩) (first | (go_at_call 27; (with_reducible show Calls _ _ #[.slice none 0 0] _ _); refine (pand_n (l := []) rfl (by simp) prow_nil).mono ?_; rintro e W ⟨xz, rfl, hf, hb⟩; (try clear P); have P := PFIn.pin _ _ hf; clear hf; replace HBase := HBase.trans (hb.mono HBase.size); clear hb) | (go_at_call 27; (with_reducible show Calls _ _ #[.slice _ 1 _] _ _); refine (pand_n (l := [s]) rfl (by simp) (prow_cons (v0 := .int .u8 s.kind) (v1 := .int .u8 s.val.kind) (v2 := .int .i64 s.val.num) (v3 := .slice bx s.val.items.length bc) (v4 := .int .i64 s.num) (v5 := .slice b2 s.args.length bcap2) (by (go_simp; done)) (by (go_simp; done)) (by (go_simp; done)) (by (go_simp; done)) (by (go_simp; done)) (by (go_simp; done)) ((hx0.below HBase).below (Below.al _)) prow_nil)).mono ?_; rintro e W ⟨xz, rfl, hf, hb⟩; (try clear P); have P := PFIn.pin _ _ hf; clear hf; (first | (replace hb := (Below.al _).trans (hb.mono (by simp)); replace HBase := HBase.trans (hb.mono HBase.size); clear hb) | (replace HBase := HBase.trans (hb.mono HBase.size); clear hb))) | (go_at_call 27; (with_reducible show Calls _ _ #[.slice _ (l.length + 1) _] _ _); refine (pand_n HMLEN.out (by omega) (hrm.below HBase)).mono ?_; rintro e W ⟨xz, rfl, hf, hb⟩; (try clear P); have P := PFIn.pin _ _ hf; clear hf; replace HBase := HBase.trans (hb.mono HBase.size); clear hb) | (go_at_call 27; (with_reducible show Calls _ _ #[.slice _ l.length _] _ _); refine (pand_any l _ _ _ hlen (hr.below HBase)).mono ?_; rintro e W ⟨xz, rfl, hf, hb⟩; (try clear P); have P := PFIn.pin _ _ hf; clear hf; replace HBase := HBase.trans (hb.mono HBase.size); clear hb) | (go_at_call 24; (with_reducible show Calls _ _ #[.slice none 0 0] _ _); refine (por_n (l := []) rfl (by simp) prow_nil).mono ?_; rintro e W ⟨xz, rfl, hf, hb⟩; (try clear P); have P := PFIn.pin _ _ hf; clear hf; replace HBase := HBase.trans (hb.mono HBase.size); clear hb) | (go_at_call 24; (with_reducible show Calls _ _ #[.slice _ 1 _] _ _); refine (por_n (l := [s]) rfl (by simp) (prow_cons (v0 := .int .u8 s.kind) (v1 := .int .u8 s.val.kind) (v2 := .int .i64 s.val.num) (v3 := .slice bx s.val.items.length bc) (v4 := .int .i64 s.num) (v5 := .slice b2 s.args.length bcap2) (by (go_simp; done)) (by (go_simp; done)) (by (go_simp; done)) (by (go_simp; done)) (by (go_simp; done)) (by (go_simp; done)) ((hx0.below HBase).below (Below.al _)) prow_nil)).mono ?_; rintro e W ⟨xz, rfl, hf, hb⟩; (try clear P); have P := PFIn.pin _ _ hf; clear hf; (first | (replace hb := (Below.al _).trans (hb.mono (by simp)); replace HBase := HBase.trans (hb.mono HBase.size); clear hb) | (replace HBase := HBase.trans (hb.mono HBase.size); clear hb))) | (go_at_call 24; (with_reducible show Calls _ _ #[.slice _ (l.length + 1) _] _ _); refine (por_n HMLEN.out (by omega) (hrm.below HBase)).mono ?_; rintro e W ⟨xz, rfl, hf, hb⟩; (try clear P); have P := PFIn.pin _ _ hf; clear hf; replace HBase := HBase.trans (hb.mono HBase.size); clear hb) | (go_at_call 24; (with_reducible show Calls _ _ #[.slice _ l.length _] _ _); refine (por_any l _ _ _ hlen (hr.below HBase)).mono ?_; rintro e W ⟨xz, rfl, hf, hb⟩; (try clear P); have P := PFIn.pin _ _ hf; clear hf; replace HBase := HBase.trans (hb.mono HBase.size); clear hb) | (go_at_call 15; (with_reducible show Calls _ _ #[.agg _, _] _ _); refine (pholds_any _ _ _ _ _ (by have := HSC.out; simp only [PT.cnts] at this; omega) (by have := HSC.out; simp only [PT.fats] at this; omega) (hx0.below HBase) (hy.below HBase)).mono ?_; rintro e W ⟨rfl, hb⟩; rw [HZ.out]; replace HBase := HBase.trans (hb.mono HBase.size); clear hb) | (go_at_call 15; refine (pholds_row P (by first | with_reducible exact HLC.out.1 | with_reducible exact HMC.out.1 | with_reducible exact HSC.out.1 | (simp [PT.cnts]; done)) (by first | with_reducible exact HLC.out.2 | with_reducible exact HMC.out.2 | with_reducible exact HSC.out.2 | (simp [PT.fats]; done)) (hy.below HBase)).mono ?_; rintro e W ⟨rfl, hb⟩; (first | rw [R1.out] | rw [R2.out] | rw [R3.out] | rw [R4.out] | rw [R5.out] | rw [R6.out] | rw [R7.out] | rw [R8.out]); clear P; replace HBase := HBase.trans (hb.mono HBase.size); clear hb))
        go_wp2_with fail
        go_ret
        exact ⟨rfl, hB.trans (HBase.mono hB.size)⟩
end Go.Proofs.Ytclmnpfdnhfbmaa
