/- Texts of this claim laid into one: TCheckB. -/
import Derived.Test.YteebbffecaeciaaM21
import Derived.Test.YteebbffecaeciaaM22
import Derived.Test.YteebbffecaeciaaM23
/- term.Check, May, closed, Bulk, High. -/
namespace Go.Proofs.Yteebbffecaeciaa
open Go.RowKit


theorem TT.closed_eq {t : TT} (h : t.cnt ≤ 3000000) : ((t.chk 4611686018427387904 0 1 false).2 == 0) = t.sane false := by
  have h1 := TT.chk_ok 4611686018427387904 t 0 1 false
  have h2 := (TT.deep_le t).2
  rw [Bool.eq_iff_iff, beq_iff_eq, h1]
  exact ⟨fun h => h.1, fun h => ⟨h, by omega⟩⟩
set_option maxRecDepth 100000 in
set_option maxHeartbeats 4000000 in
theorem closed_any (t : TT) (x : Value) (w : World) (hs : t.cnt ≤ 3000000) (hln : t.lean = true) (hx : TIn w t x) :
    Calls Try.prog 77 #[x] w fun e w' => e = .returned (.bool (t.sane false)) ∧ Below w.heap.size w w' := by
  have hx0 := hx
  obtain ⟨k, v, vs, lo, hi, ws, p, l⟩ := t
  obtain ⟨⟨va, vc, sa, sc, wa, wc, qa, qc, pa, pc, aa, ac⟩, rfl, hok⟩ := hx
  obtain ⟨⟨hal, hsl, hwl⟩, hv, hs, hw, hp, hr⟩ := hok.parts
  simp only [TT.v, TT.vs, TT.ws, TT.p, TT.args] at hal hsl hwl hv hs hw hp hr
  simp only [TT.val, TT.kind, TT.v, TT.vs, TT.lo, TT.hi, TT.ws, TT.p, TT.args]
  obtain ⟨w0, hw0, m0, s0, R0, q0, q1, q2, q3, q4, q5, q6, q7, q8, q9, q10, q11, q12, q13, q14⟩ := box15 w (.int .u8 k) (.int .u8 v.kind) (.int .i64 v.num) (.slice va v.items.length vc) (.slice sa vs.length sc) (.int .i64 lo) (.int .i64 hi) (.slice wa ws.length wc)
    (.int .u8 p.kind) (.int .u8 p.val.kind) (.int .i64 p.val.num) (.slice qa p.val.items.length qc) (.int .i64 p.num) (.slice pa p.args.length pc) (.slice aa l.length ac) 47
  have hv0 := hv.below m0
  have hs0 := hs.below m0
  have hw0' := hw.below m0
  have hp0 := hp.below m0
  have hr0 := hr.below m0
  have hB0 := Below.refl w0.heap.size w0
  clear hok hv hs hw hp hr R0
  have hx1 := hx0.below m0
  simp only [TT.val, TT.kind, TT.v, TT.vs, TT.lo, TT.hi, TT.ws, TT.p, TT.args] at hx1
  clear hv0 hs0 hw0' hp0 hr0 hx0
  have HS := Lib.hid hs; have HL := Lib.hid hln
  have HC := Lib.hid (tchk_any 4611686018427387904 _ _ 0 1 false _ hs hln (by omega) (by omega) (by omega) (by omega) hx1)
  have HE := Lib.hid (TT.closed_eq hs)
  clear hs hln hx1
  go_enter Try.func77, Try.ntmps77
  go_wp2_with fail
  refine HC.out.mono ?_
  rintro e w1 ⟨rfl, hb1⟩
  clear HC
  obtain ⟨r, hr⟩ : ∃ r, r = ((TT.mk k v vs lo hi ws p l).chk 4611686018427387904 0 1 false) := ⟨_, rfl⟩
  rw [← hr]
  have HR := Lib.hid hr
  clear hr
  go_wp2_with fail
  go_ret
  exact ⟨ret_bool (by rw [← HE.out, ← HR.out]), m0.trans (hb1.mono m0.size)⟩
theorem TT.Bulk_meas {t : TT} (h : t.sane false = true) : t.Bulk = t.meas.1 := by
  unfold TT.Bulk TT.meas
  rw [if_pos h]
  split
  · omega
  · omega
theorem TT.High_meas {t : TT} (h : t.sane false = true) : t.High = t.meas.2 := by
  unfold TT.High TT.meas
  by_cases hb : t.bulk 0 ≤ 4096
  · rw [if_pos (by simp [h, hb]), if_pos hb]
  · rw [if_neg (by simp [hb]), if_neg hb]
theorem TT.Bulk_not {t : TT} (h : t.sane false = false) : t.Bulk = 0 := by unfold TT.Bulk; rw [if_neg (by simp [h])]
theorem TT.High_not {t : TT} (h : t.sane false = false) : t.High = 0 := by unfold TT.High; rw [if_neg (by simp [h])]
set_option maxRecDepth 100000 in
set_option maxHeartbeats 4000000 in
theorem tbulk_any (t : TT) (x : Value) (w : World) (hs : t.cnt ≤ 3000000) (hln : t.lean = true) (hx : TIn w t x) :
    Calls Try.prog 36 #[x] w fun e w' => e = .returned (.int .i64 t.Bulk) ∧ Below w.heap.size w w' := by
  have hx0 := hx
  obtain ⟨k, v, vs, lo, hi, ws, p, l⟩ := t
  obtain ⟨⟨va, vc, sa, sc, wa, wc, qa, qc, pa, pc, aa, ac⟩, rfl, hok⟩ := hx
  obtain ⟨⟨hal, hsl, hwl⟩, hv, hs, hw, hp, hr⟩ := hok.parts
  simp only [TT.v, TT.vs, TT.ws, TT.p, TT.args] at hal hsl hwl hv hs hw hp hr
  simp only [TT.val, TT.kind, TT.v, TT.vs, TT.lo, TT.hi, TT.ws, TT.p, TT.args]
  obtain ⟨w0, hw0, m0, s0, R0, q0, q1, q2, q3, q4, q5, q6, q7, q8, q9, q10, q11, q12, q13, q14⟩ := box15 w (.int .u8 k) (.int .u8 v.kind) (.int .i64 v.num) (.slice va v.items.length vc) (.slice sa vs.length sc) (.int .i64 lo) (.int .i64 hi) (.slice wa ws.length wc)
    (.int .u8 p.kind) (.int .u8 p.val.kind) (.int .i64 p.val.num) (.slice qa p.val.items.length qc) (.int .i64 p.num) (.slice pa p.args.length pc) (.slice aa l.length ac) 47
  have hv0 := hv.below m0
  have hs0 := hs.below m0
  have hw0' := hw.below m0
  have hp0 := hp.below m0
  have hr0 := hr.below m0
  have hB0 := Below.refl w0.heap.size w0
  clear hok hv hs hw hp hr R0
  have hx1 := hx0.below m0
  simp only [TT.val, TT.kind, TT.v, TT.vs, TT.lo, TT.hi, TT.ws, TT.p, TT.args] at hx1
  clear hv0 hs0 hw0' hp0 hr0 hx0
  have HS := Lib.hid hs; have HL := Lib.hid hln
  clear hs hln
  obtain ⟨b, hb⟩ : ∃ b, b = (TT.mk k v vs lo hi ws p l).sane false := ⟨_, rfl⟩
  have HB := Lib.hid hb
  clear hb
  go_enter Try.func36, Try.ntmps36
  go_wp2_with fail
  refine (closed_any _ _ _ HS.out HL.out hx1).mono ?_
  rintro e w1 ⟨rfl, hb1⟩
  rw [← HB.out]
  have q0 := cell_stays hb1 q0
  have q1 := cell_stays hb1 q1
  have q2 := cell_stays hb1 q2
  have q3 := cell_stays hb1 q3
  have q4 := cell_stays hb1 q4
  have q5 := cell_stays hb1 q5
  have q6 := cell_stays hb1 q6
  have q7 := cell_stays hb1 q7
  have q8 := cell_stays hb1 q8
  have q9 := cell_stays hb1 q9
  have q10 := cell_stays hb1 q10
  have q11 := cell_stays hb1 q11
  have q12 := cell_stays hb1 q12
  have q13 := cell_stays hb1 q13
  have q14 := cell_stays hb1 q14
  have hx2 := hx1.below hb1
  have hB1 := m0.trans (hb1.mono m0.size)
  clear hx1 hb1
  cases b
  · go_wp2_with fail
    go_ret
    exact ⟨ret_int (by rw [TT.Bulk_not HB.out.symm]; rfl), hB1⟩
  · obtain ⟨⟨bb, hh⟩, hm⟩ : ∃ z, z = (TT.mk k v vs lo hi ws p l).meas := ⟨_, rfl⟩
    have HM := Lib.hid hm
    clear hm
    go_wp2_with fail
    refine (measure_any _ _ _ HB.out.symm HL.out hx2).mono ?_
    rintro e w2 ⟨rfl, hb2⟩
    rw [← HM.out]
    clear hx2
    go_wp2_with fail
    go_ret
    exact ⟨ret_int (by rw [TT.Bulk_meas HB.out.symm, ← HM.out]), hB1.trans (hb2.mono hB1.size)⟩
set_option maxRecDepth 100000 in
set_option maxHeartbeats 4000000 in
theorem thigh_any (t : TT) (x : Value) (w : World) (hs : t.cnt ≤ 3000000) (hln : t.lean = true) (hx : TIn w t x) :
    Calls Try.prog 37 #[x] w fun e w' => e = .returned (.int .i64 t.High) ∧ Below w.heap.size w w' := by
  have hx0 := hx
  obtain ⟨k, v, vs, lo, hi, ws, p, l⟩ := t
  obtain ⟨⟨va, vc, sa, sc, wa, wc, qa, qc, pa, pc, aa, ac⟩, rfl, hok⟩ := hx
  obtain ⟨⟨hal, hsl, hwl⟩, hv, hs, hw, hp, hr⟩ := hok.parts
  simp only [TT.v, TT.vs, TT.ws, TT.p, TT.args] at hal hsl hwl hv hs hw hp hr
  simp only [TT.val, TT.kind, TT.v, TT.vs, TT.lo, TT.hi, TT.ws, TT.p, TT.args]
  obtain ⟨w0, hw0, m0, s0, R0, q0, q1, q2, q3, q4, q5, q6, q7, q8, q9, q10, q11, q12, q13, q14⟩ := box15 w (.int .u8 k) (.int .u8 v.kind) (.int .i64 v.num) (.slice va v.items.length vc) (.slice sa vs.length sc) (.int .i64 lo) (.int .i64 hi) (.slice wa ws.length wc)
    (.int .u8 p.kind) (.int .u8 p.val.kind) (.int .i64 p.val.num) (.slice qa p.val.items.length qc) (.int .i64 p.num) (.slice pa p.args.length pc) (.slice aa l.length ac) 47
  have hv0 := hv.below m0
  have hs0 := hs.below m0
  have hw0' := hw.below m0
  have hp0 := hp.below m0
  have hr0 := hr.below m0
  have hB0 := Below.refl w0.heap.size w0
  clear hok hv hs hw hp hr R0
  have hx1 := hx0.below m0
  simp only [TT.val, TT.kind, TT.v, TT.vs, TT.lo, TT.hi, TT.ws, TT.p, TT.args] at hx1
  clear hv0 hs0 hw0' hp0 hr0 hx0
  have HS := Lib.hid hs; have HL := Lib.hid hln
  clear hs hln
  obtain ⟨b, hb⟩ : ∃ b, b = (TT.mk k v vs lo hi ws p l).sane false := ⟨_, rfl⟩
  have HB := Lib.hid hb
  clear hb
  go_enter Try.func37, Try.ntmps37
  go_wp2_with fail
  refine (closed_any _ _ _ HS.out HL.out hx1).mono ?_
  rintro e w1 ⟨rfl, hb1⟩
  rw [← HB.out]
  have q0 := cell_stays hb1 q0
  have q1 := cell_stays hb1 q1
  have q2 := cell_stays hb1 q2
  have q3 := cell_stays hb1 q3
  have q4 := cell_stays hb1 q4
  have q5 := cell_stays hb1 q5
  have q6 := cell_stays hb1 q6
  have q7 := cell_stays hb1 q7
  have q8 := cell_stays hb1 q8
  have q9 := cell_stays hb1 q9
  have q10 := cell_stays hb1 q10
  have q11 := cell_stays hb1 q11
  have q12 := cell_stays hb1 q12
  have q13 := cell_stays hb1 q13
  have q14 := cell_stays hb1 q14
  have hx2 := hx1.below hb1
  have hB1 := m0.trans (hb1.mono m0.size)
  clear hx1 hb1
  cases b
  · go_wp2_with fail
    go_ret
    exact ⟨ret_int (by rw [TT.High_not HB.out.symm]; rfl), hB1⟩
  · obtain ⟨⟨bb, hh⟩, hm⟩ : ∃ z, z = (TT.mk k v vs lo hi ws p l).meas := ⟨_, rfl⟩
    have HM := Lib.hid hm
    clear hm
    go_wp2_with fail
    refine (measure_any _ _ _ HB.out.symm HL.out hx2).mono ?_
    rintro e w2 ⟨rfl, hb2⟩
    rw [← HM.out]
    clear hx2
    go_wp2_with fail
    go_ret
    exact ⟨ret_int (by rw [TT.High_meas HB.out.symm, ← HM.out]), hB1.trans (hb2.mono hB1.size)⟩
end Go.Proofs.Yteebbffecaeciaa
