/- Texts of this claim laid into one: TCheckB. -/
import Derived.Test.YteebbffecaeciaaM21
import Derived.Test.YteebbffecaeciaaM22
import Derived.Test.YteebbffecaeciaaM23
/- term.Check, May, closed, Bulk, High. -/
namespace Go.Proofs.Yteebbffecaeciaa
open Go.RowKit


theorem TT.meas_small {t : TT} (h : t.bulk 0 ≤ 4096) : t.meas = (t.bulk 0, t.high 0) := by unfold TT.meas; rw [if_pos h]
theorem TT.meas_much {t : TT} (h : ¬ t.bulk 0 ≤ 4096) : t.meas = (4097, 0) := by unfold TT.meas; rw [if_neg h]
theorem TT.chk_sane {m : Int} {t : TT} (h : (t.chk m 0 1 false).2 = 0) : t.sane false = true := ((TT.chk_ok m t 0 1 false).1 h).1
theorem TT.check_eq {t : TT} (h : (t.chk 12 0 1 false).2 = 0) : t.check = if 512 < t.nodes ∨ 4096 < t.meas.1 then (0, 5) else if 128 < t.meas.2 then (0, 9) else (0, 0) := by
  unfold TT.check
  rw [if_neg (by simpa using h)]
  by_cases hb : t.bulk 0 ≤ 4096
  · rw [TT.meas_small hb]
  · rw [TT.meas_much hb, if_pos (by omega), if_pos (by simp)]
set_option maxRecDepth 100000 in
set_option maxHeartbeats 8000000 in
theorem tcheck_any (t : TT) (x : Value) (w : World) (hs : t.cnt ≤ 3000000) (hln : t.lean = true) (hx : TIn w t x) :
    Calls Try.prog 53 #[x] w fun e w' => e = .returned (.tuple #[.int .i64 t.check.1, .int .i64 t.check.2]) ∧ Below w.heap.size w w' := by
  have hx0 := hx
  obtain ⟨k, v, vs, lo, hi, ws, p, l⟩ := t
  obtain ⟨⟨va, vc, sa, sc, wa, wc, qa, qc, pa, pc, aa, ac⟩, rfl, hok⟩ := hx
  obtain ⟨⟨hal, hsl, hwl⟩, hv, hs, hw, hp, hr⟩ := hok.parts
  simp only [TT.v, TT.vs, TT.ws, TT.p, TT.args] at hal hsl hwl hv hs hw hp hr
  simp only [TT.val, TT.kind, TT.v, TT.vs, TT.lo, TT.hi, TT.ws, TT.p, TT.args]
  obtain ⟨w0, hw0, m0, s0, R0, q0, q1, q2, q3, q4, q5, q6, q7, q8, q9, q10, q11, q12, q13, q14⟩ := box15 w (.int .u8 k) (.int .u8 v.kind) (.int .i64 v.num) (.slice va v.items.length vc) (.slice sa vs.length sc) (.int .i64 lo) (.int .i64 hi) (.slice wa ws.length wc)
    (.int .u8 p.kind) (.int .u8 p.val.kind) (.int .i64 p.val.num) (.slice qa p.val.items.length qc) (.int .i64 p.num) (.slice pa p.args.length pc) (.slice aa l.length ac) 47
  have hv0 := hv.below m0
  have hs0 := hs.below m0
  have hw0' := hw.below m0
  have hp0 := hp.below m0
  have hr0 := hr.below m0
  have hB0 := Below.refl w0.heap.size w0
  clear hok hv hs hw hp hr R0
  have hx1 := hx0.below m0
  simp only [TT.val, TT.kind, TT.v, TT.vs, TT.lo, TT.hi, TT.ws, TT.p, TT.args] at hx1
  clear hv0 hs0 hw0' hp0 hr0 hx0
  have hnl := TT.nodes_le _ hln
  have hmeas : (TT.mk k v vs lo hi ws p l).meas.1 ≤ 4097 ∧ (TT.mk k v vs lo hi ws p l).meas.2 ≤ 100000000 ∨ True := .inr trivial
  obtain ⟨⟨r, z⟩, hz⟩ : ∃ z, z = (TT.mk k v vs lo hi ws p l).chk 12 0 1 false := ⟨_, rfl⟩
  have HZ := Lib.hid hz; have HS := Lib.hid hs; have HL := Lib.hid hln
  clear hz hmeas
  go_enter Try.func53, Try.ntmps53
  go_wp2_with fail
  refine (tchk_any 12 _ _ 0 1 false _ HS.out HL.out (by omega) (by have := HS.out; omega) (by omega) (by have := HS.out; omega) hx1).mono ?_
  rintro e w1 ⟨rfl, hb1⟩
  rw [← HZ.out]
  have q0 := cell_stays hb1 q0
  have q1 := cell_stays hb1 q1
  have q2 := cell_stays hb1 q2
  have q3 := cell_stays hb1 q3
  have q4 := cell_stays hb1 q4
  have q5 := cell_stays hb1 q5
  have q6 := cell_stays hb1 q6
  have q7 := cell_stays hb1 q7
  have q8 := cell_stays hb1 q8
  have q9 := cell_stays hb1 q9
  have q10 := cell_stays hb1 q10
  have q11 := cell_stays hb1 q11
  have q12 := cell_stays hb1 q12
  have q13 := cell_stays hb1 q13
  have q14 := cell_stays hb1 q14
  have hx2 := hx1.below hb1
  have hB1 := m0.trans (hb1.mono m0.size)
  clear hx1 hb1 hs hln
  by_cases hz0 : z = 0
  · subst hz0
    have hsane := TT.chk_sane (m := 12) (t := .mk k v vs lo hi ws p l) (by rw [← HZ.out])
    have hceq := TT.check_eq (t := .mk k v vs lo hi ws p l) (by rw [← HZ.out])
    have HSANE := Lib.hid hsane
    obtain ⟨⟨bb, hh⟩, hm⟩ : ∃ z, z = (TT.mk k v vs lo hi ws p l).meas := ⟨_, rfl⟩
    obtain ⟨nn, hn⟩ : ∃ z, z = (TT.mk k v vs lo hi ws p l).nodes := ⟨_, rfl⟩
    rw [← hm, ← hn] at hceq
    have HM := Lib.hid hm; have HN := Lib.hid hn; have HCE := Lib.hid hceq
    clear hsane hm hn hceq
    go_wp2_with fail
    refine (measure_any _ _ _ HSANE.out HL.out hx2).mono ?_
    rintro e w2 ⟨rfl, hb2⟩
    rw [← HM.out]
    have q0 := cell_stays hb2 q0
    have q1 := cell_stays hb2 q1
    have q2 := cell_stays hb2 q2
    have q3 := cell_stays hb2 q3
    have q4 := cell_stays hb2 q4
    have q5 := cell_stays hb2 q5
    have q6 := cell_stays hb2 q6
    have q7 := cell_stays hb2 q7
    have q8 := cell_stays hb2 q8
    have q9 := cell_stays hb2 q9
    have q10 := cell_stays hb2 q10
    have q11 := cell_stays hb2 q11
    have q12 := cell_stays hb2 q12
    have q13 := cell_stays hb2 q13
    have q14 := cell_stays hb2 q14
    have hx3 := hx2.below hb2
    have hB2 := hB1.trans (hb2.mono hB1.size)
    clear hx2 hb2 hB1
    go_wp2_with fail
    refine (tnodes_any 3000000 (by omega) _ _ _ HS.out HL.out hx3).mono ?_
    rintro e w3 ⟨rfl, hb3⟩
    rw [← HN.out]
    have hB3 := hB2.trans (hb3.mono hB2.size)
    clear hx3 hb3 hB2 q0 q1 q2 q3 q4 q5 q6 q7 q8 q9 q10 q11 q12 q13 q14
    by_cases h1 : 512 < nn
    · go_wp2_with fail
      refine bodyPost_ret (v := .tuple #[.int .i64 0, .int .i64 5]) (by simp [results, Try.results53, go_sem]) rfl ⟨by rw [HCE.out, if_pos (by left; omega)], hB3⟩
    · by_cases h2 : 4096 < bb
      · go_wp2_with fail
        refine bodyPost_ret (v := .tuple #[.int .i64 0, .int .i64 5]) (by simp [results, Try.results53, go_sem]) rfl ⟨by rw [HCE.out, if_pos (by right; show 4096 < bb; omega)], hB3⟩
      · by_cases h3 : 128 < hh
        · go_wp2_with fail
          refine bodyPost_ret (v := .tuple #[.int .i64 0, .int .i64 9]) (by simp [results, Try.results53, go_sem]) rfl ⟨by rw [HCE.out, if_neg (by show ¬ (512 < nn ∨ 4096 < bb); omega), if_pos (by show 128 < hh; omega)], hB3⟩
        · go_wp2_with fail
          refine bodyPost_ret (v := .tuple #[.int .i64 0, .int .i64 0]) (by simp [results, Try.results53, go_sem]) rfl ⟨by rw [HCE.out, if_neg (by show ¬ (512 < nn ∨ 4096 < bb); omega), if_neg (by show ¬ 128 < hh; omega)], hB3⟩
  · have hzb : (z != 0) = true := by simpa using hz0
    have hceq : (TT.mk k v vs lo hi ws p l).check = (r, z) := by unfold TT.check; rw [← HZ.out, if_pos hz0]
    have HCE := Lib.hid hceq
    clear hz0 hceq
    go_wp2_with fail
    refine bodyPost_ret (v := .tuple #[.int .i64 r, .int .i64 z]) (by simp [results, Try.results53, go_sem]) rfl ⟨by rw [HCE.out], hB1⟩
set_option maxRecDepth 100000 in
set_option maxHeartbeats 4000000 in
theorem tmay_any (t : TT) (x : Value) (w : World) (hs : t.cnt ≤ 3000000) (hln : t.lean = true) (hx : TIn w t x) :
    Calls Try.prog 82 #[x] w fun e w' => e = .returned (.bool t.may) ∧ Below w.heap.size w w' := by
  have hx0 := hx
  obtain ⟨k, v, vs, lo, hi, ws, p, l⟩ := t
  obtain ⟨⟨va, vc, sa, sc, wa, wc, qa, qc, pa, pc, aa, ac⟩, rfl, hok⟩ := hx
  obtain ⟨⟨hal, hsl, hwl⟩, hv, hs, hw, hp, hr⟩ := hok.parts
  simp only [TT.v, TT.vs, TT.ws, TT.p, TT.args] at hal hsl hwl hv hs hw hp hr
  simp only [TT.val, TT.kind, TT.v, TT.vs, TT.lo, TT.hi, TT.ws, TT.p, TT.args]
  obtain ⟨w0, hw0, m0, s0, R0, q0, q1, q2, q3, q4, q5, q6, q7, q8, q9, q10, q11, q12, q13, q14⟩ := box15 w (.int .u8 k) (.int .u8 v.kind) (.int .i64 v.num) (.slice va v.items.length vc) (.slice sa vs.length sc) (.int .i64 lo) (.int .i64 hi) (.slice wa ws.length wc)
    (.int .u8 p.kind) (.int .u8 p.val.kind) (.int .i64 p.val.num) (.slice qa p.val.items.length qc) (.int .i64 p.num) (.slice pa p.args.length pc) (.slice aa l.length ac) 47
  have hv0 := hv.below m0
  have hs0 := hs.below m0
  have hw0' := hw.below m0
  have hp0 := hp.below m0
  have hr0 := hr.below m0
  have hB0 := Below.refl w0.heap.size w0
  clear hok hv hs hw hp hr R0
  have hx1 := hx0.below m0
  simp only [TT.val, TT.kind, TT.v, TT.vs, TT.lo, TT.hi, TT.ws, TT.p, TT.args] at hx1
  clear hv0 hs0 hw0' hp0 hr0 hx0
  have HS := Lib.hid hs; have HL := Lib.hid hln
  clear hs hln
  go_enter Try.func82, Try.ntmps82
  go_wp2_with fail
  refine (tcheck_any _ _ _ HS.out HL.out hx1).mono ?_
  rintro e w1 ⟨rfl, hb1⟩
  go_wp2_with fail
  go_ret
  exact ⟨ret_bool rfl, m0.trans (hb1.mono m0.size)⟩
theorem TT.closed_eq {t : TT} (h : t.cnt ≤ 3000000) : ((t.chk 4611686018427387904 0 1 false).2 == 0) = t.sane false := by
  have h1 := TT.chk_ok 4611686018427387904 t 0 1 false
  have h2 := (TT.deep_le t).2
  rw [Bool.eq_iff_iff, beq_iff_eq, h1]
  exact ⟨fun h => h.1, fun h => ⟨h, by omega⟩⟩
set_option maxRecDepth 100000 in
set_option maxHeartbeats 4000000 in
theorem closed_any (t : TT) (x : Value) (w : World) (hs : t.cnt ≤ 3000000) (hln : t.lean = true) (hx : TIn w t x) :
    Calls Try.prog 77 #[x] w fun e w' => e = .returned (.bool (t.sane false)) ∧ Below w.heap.size w w' := by
  have hx0 := hx
  obtain ⟨k, v, vs, lo, hi, ws, p, l⟩ := t
  obtain ⟨⟨va, vc, sa, sc, wa, wc, qa, qc, pa, pc, aa, ac⟩, rfl, hok⟩ := hx
  obtain ⟨⟨hal, hsl, hwl⟩, hv, hs, hw, hp, hr⟩ := hok.parts
  simp only [TT.v, TT.vs, TT.ws, TT.p, TT.args] at hal hsl hwl hv hs hw hp hr
  simp only [TT.val, TT.kind, TT.v, TT.vs, TT.lo, TT.hi, TT.ws, TT.p, TT.args]
  obtain ⟨w0, hw0, m0, s0, R0, q0, q1, q2, q3, q4, q5, q6, q7, q8, q9, q10, q11, q12, q13, q14⟩ := box15 w (.int .u8 k) (.int .u8 v.kind) (.int .i64 v.num) (.slice va v.items.length vc) (.slice sa vs.length sc) (.int .i64 lo) (.int .i64 hi) (.slice wa ws.length wc)
    (.int .u8 p.kind) (.int .u8 p.val.kind) (.int .i64 p.val.num) (.slice qa p.val.items.length qc) (.int .i64 p.num) (.slice pa p.args.length pc) (.slice aa l.length ac) 47
  have hv0 := hv.below m0
  have hs0 := hs.below m0
  have hw0' := hw.below m0
  have hp0 := hp.below m0
  have hr0 := hr.below m0
  have hB0 := Below.refl w0.heap.size w0
  clear hok hv hs hw hp hr R0
  have hx1 := hx0.below m0
  simp only [TT.val, TT.kind, TT.v, TT.vs, TT.lo, TT.hi, TT.ws, TT.p, TT.args] at hx1
  clear hv0 hs0 hw0' hp0 hr0 hx0
  have HS := Lib.hid hs; have HL := Lib.hid hln
  have HC := Lib.hid (tchk_any 4611686018427387904 _ _ 0 1 false _ hs hln (by omega) (by omega) (by omega) (by omega) hx1)
  have HE := Lib.hid (TT.closed_eq hs)
  clear hs hln hx1
  go_enter Try.func77, Try.ntmps77
  go_wp2_with fail
  refine HC.out.mono ?_
  rintro e w1 ⟨rfl, hb1⟩
  clear HC
  obtain ⟨r, hr⟩ : ∃ r, r = ((TT.mk k v vs lo hi ws p l).chk 4611686018427387904 0 1 false) := ⟨_, rfl⟩
  rw [← hr]
  have HR := Lib.hid hr
  clear hr
  go_wp2_with fail
  go_ret
  exact ⟨ret_bool (by rw [← HE.out, ← HR.out]), m0.trans (hb1.mono m0.size)⟩
theorem TT.Bulk_meas {t : TT} (h : t.sane false = true) : t.Bulk = t.meas.1 := by
  unfold TT.Bulk TT.meas
  rw [if_pos h]
  split
  · omega
  · omega
theorem TT.High_meas {t : TT} (h : t.sane false = true) : t.High = t.meas.2 := by
  unfold TT.High TT.meas
  by_cases hb : t.bulk 0 ≤ 4096
  · rw [if_pos (by simp [h, hb]), if_pos hb]
  · rw [if_neg (by simp [hb]), if_neg hb]
theorem TT.Bulk_not {t : TT} (h : t.sane false = false) : t.Bulk = 0 := by unfold TT.Bulk; rw [if_neg (by simp [h])]
theorem TT.High_not {t : TT} (h : t.sane false = false) : t.High = 0 := by unfold TT.High; rw [if_neg (by simp [h])]
set_option maxRecDepth 100000 in
set_option maxHeartbeats 4000000 in
theorem tbulk_any (t : TT) (x : Value) (w : World) (hs : t.cnt ≤ 3000000) (hln : t.lean = true) (hx : TIn w t x) :
    Calls Try.prog 36 #[x] w fun e w' => e = .returned (.int .i64 t.Bulk) ∧ Below w.heap.size w w' := by
  have hx0 := hx
  obtain ⟨k, v, vs, lo, hi, ws, p, l⟩ := t
  obtain ⟨⟨va, vc, sa, sc, wa, wc, qa, qc, pa, pc, aa, ac⟩, rfl, hok⟩ := hx
  obtain ⟨⟨hal, hsl, hwl⟩, hv, hs, hw, hp, hr⟩ := hok.parts
  simp only [TT.v, TT.vs, TT.ws, TT.p, TT.args] at hal hsl hwl hv hs hw hp hr
  simp only [TT.val, TT.kind, TT.v, TT.vs, TT.lo, TT.hi, TT.ws, TT.p, TT.args]
  obtain ⟨w0, hw0, m0, s0, R0, q0, q1, q2, q3, q4, q5, q6, q7, q8, q9, q10, q11, q12, q13, q14⟩ := box15 w (.int .u8 k) (.int .u8 v.kind) (.int .i64 v.num) (.slice va v.items.length vc) (.slice sa vs.length sc) (.int .i64 lo) (.int .i64 hi) (.slice wa ws.length wc)
    (.int .u8 p.kind) (.int .u8 p.val.kind) (.int .i64 p.val.num) (.slice qa p.val.items.length qc) (.int .i64 p.num) (.slice pa p.args.length pc) (.slice aa l.length ac) 47
  have hv0 := hv.below m0
  have hs0 := hs.below m0
  have hw0' := hw.below m0
  have hp0 := hp.below m0
  have hr0 := hr.below m0
  have hB0 := Below.refl w0.heap.size w0
  clear hok hv hs hw hp hr R0
  have hx1 := hx0.below m0
  simp only [TT.val, TT.kind, TT.v, TT.vs, TT.lo, TT.hi, TT.ws, TT.p, TT.args] at hx1
  clear hv0 hs0 hw0' hp0 hr0 hx0
  have HS := Lib.hid hs; have HL := Lib.hid hln
  clear hs hln
  obtain ⟨b, hb⟩ : ∃ b, b = (TT.mk k v vs lo hi ws p l).sane false := ⟨_, rfl⟩
  have HB := Lib.hid hb
  clear hb
  go_enter Try.func36, Try.ntmps36
  go_wp2_with fail
  refine (closed_any _ _ _ HS.out HL.out hx1).mono ?_
  rintro e w1 ⟨rfl, hb1⟩
  rw [← HB.out]
  have q0 := cell_stays hb1 q0
  have q1 := cell_stays hb1 q1
  have q2 := cell_stays hb1 q2
  have q3 := cell_stays hb1 q3
  have q4 := cell_stays hb1 q4
  have q5 := cell_stays hb1 q5
  have q6 := cell_stays hb1 q6
  have q7 := cell_stays hb1 q7
  have q8 := cell_stays hb1 q8
  have q9 := cell_stays hb1 q9
  have q10 := cell_stays hb1 q10
  have q11 := cell_stays hb1 q11
  have q12 := cell_stays hb1 q12
  have q13 := cell_stays hb1 q13
  have q14 := cell_stays hb1 q14
  have hx2 := hx1.below hb1
  have hB1 := m0.trans (hb1.mono m0.size)
  clear hx1 hb1
  cases b
  · go_wp2_with fail
    go_ret
    exact ⟨ret_int (by rw [TT.Bulk_not HB.out.symm]; rfl), hB1⟩
  · obtain ⟨⟨bb, hh⟩, hm⟩ : ∃ z, z = (TT.mk k v vs lo hi ws p l).meas := ⟨_, rfl⟩
    have HM := Lib.hid hm
    clear hm
    go_wp2_with fail
    refine (measure_any _ _ _ HB.out.symm HL.out hx2).mono ?_
    rintro e w2 ⟨rfl, hb2⟩
    rw [← HM.out]
    clear hx2
    go_wp2_with fail
    go_ret
    exact ⟨ret_int (by rw [TT.Bulk_meas HB.out.symm, ← HM.out]), hB1.trans (hb2.mono hB1.size)⟩
set_option maxRecDepth 100000 in
set_option maxHeartbeats 4000000 in
theorem thigh_any (t : TT) (x : Value) (w : World) (hs : t.cnt ≤ 3000000) (hln : t.lean = true) (hx : TIn w t x) :
    Calls Try.prog 37 #[x] w fun e w' => e = .returned (.int .i64 t.High) ∧ Below w.heap.size w w' := by
  have hx0 := hx
  obtain ⟨k, v, vs, lo, hi, ws, p, l⟩ := t
  obtain ⟨⟨va, vc, sa, sc, wa, wc, qa, qc, pa, pc, aa, ac⟩, rfl, hok⟩ := hx
  obtain ⟨⟨hal, hsl, hwl⟩, hv, hs, hw, hp, hr⟩ := hok.parts
  simp only [TT.v, TT.vs, TT.ws, TT.p, TT.args] at hal hsl hwl hv hs hw hp hr
  simp only [TT.val, TT.kind, TT.v, TT.vs, TT.lo, TT.hi, TT.ws, TT.p, TT.args]
  obtain ⟨w0, hw0, m0, s0, R0, q0, q1, q2, q3, q4, q5, q6, q7, q8, q9, q10, q11, q12, q13, q14⟩ := box15 w (.int .u8 k) (.int .u8 v.kind) (.int .i64 v.num) (.slice va v.items.length vc) (.slice sa vs.length sc) (.int .i64 lo) (.int .i64 hi) (.slice wa ws.length wc)
    (.int .u8 p.kind) (.int .u8 p.val.kind) (.int .i64 p.val.num) (.slice qa p.val.items.length qc) (.int .i64 p.num) (.slice pa p.args.length pc) (.slice aa l.length ac) 47
  have hv0 := hv.below m0
  have hs0 := hs.below m0
  have hw0' := hw.below m0
  have hp0 := hp.below m0
  have hr0 := hr.below m0
  have hB0 := Below.refl w0.heap.size w0
  clear hok hv hs hw hp hr R0
  have hx1 := hx0.below m0
  simp only [TT.val, TT.kind, TT.v, TT.vs, TT.lo, TT.hi, TT.ws, TT.p, TT.args] at hx1
  clear hv0 hs0 hw0' hp0 hr0 hx0
  have HS := Lib.hid hs; have HL := Lib.hid hln
  clear hs hln
  obtain ⟨b, hb⟩ : ∃ b, b = (TT.mk k v vs lo hi ws p l).sane false := ⟨_, rfl⟩
  have HB := Lib.hid hb
  clear hb
  go_enter Try.func37, Try.ntmps37
  go_wp2_with fail
  refine (closed_any _ _ _ HS.out HL.out hx1).mono ?_
  rintro e w1 ⟨rfl, hb1⟩
  rw [← HB.out]
  have q0 := cell_stays hb1 q0
  have q1 := cell_stays hb1 q1
  have q2 := cell_stays hb1 q2
  have q3 := cell_stays hb1 q3
  have q4 := cell_stays hb1 q4
  have q5 := cell_stays hb1 q5
  have q6 := cell_stays hb1 q6
  have q7 := cell_stays hb1 q7
  have q8 := cell_stays hb1 q8
  have q9 := cell_stays hb1 q9
  have q10 := cell_stays hb1 q10
  have q11 := cell_stays hb1 q11
  have q12 := cell_stays hb1 q12
  have q13 := cell_stays hb1 q13
  have q14 := cell_stays hb1 q14
  have hx2 := hx1.below hb1
  have hB1 := m0.trans (hb1.mono m0.size)
  clear hx1 hb1
  cases b
  · go_wp2_with fail
    go_ret
    exact ⟨ret_int (by rw [TT.High_not HB.out.symm]; rfl), hB1⟩
  · obtain ⟨⟨bb, hh⟩, hm⟩ : ∃ z, z = (TT.mk k v vs lo hi ws p l).meas := ⟨_, rfl⟩
    have HM := Lib.hid hm
    clear hm
    go_wp2_with fail
    refine (measure_any _ _ _ HB.out.symm HL.out hx2).mono ?_
    rintro e w2 ⟨rfl, hb2⟩
    rw [← HM.out]
    clear hx2
    go_wp2_with fail
    go_ret
    exact ⟨ret_int (by rw [TT.High_meas HB.out.symm, ← HM.out]), hB1.trans (hb2.mono hB1.size)⟩
end Go.Proofs.Yteebbffecaeciaa
