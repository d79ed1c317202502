/- Texts of this claim laid into one: TRefA. -/
import Derived.Test.YteebbffecaeciaaM11
import Derived.Test.YteebbffecaeciaaM05
/- The document's words over a node: ends, has, Node. -/
namespace Go.Proofs.Yteebbffecaeciaa
open Go.RowKit

set_option maxRecDepth 100000 in
set_option maxHeartbeats 4000000 in
theorem rends_any (t : TT) (x : Value) (w : World) (hx : TIn w t x) :
    Calls Try.prog 138 #[x] w fun e w' => e = .returned (.int .i64 (TT.ends t.kind t.lo t.hi t.args.length)) ∧ Below w.heap.size w w' := by
  obtain ⟨k, v, vs, lo, hi, ws, p, l⟩ := t
  obtain ⟨⟨va, vc, sa, sc, wa, wc, qa, qc, pa, pc, aa, ac⟩, rfl, hok⟩ := hx
  obtain ⟨⟨hal, hsl, hwl⟩, hv, hs, hw, hp, hr⟩ := hok.parts
  simp only [TT.v, TT.vs, TT.ws, TT.p, TT.args] at hal hsl hwl hv hs hw hp hr
  simp only [TT.val, TT.kind, TT.v, TT.vs, TT.lo, TT.hi, TT.ws, TT.p, TT.args]
  obtain ⟨w0, hw0, m0, s0, R0, q0, q1, q2, q3, q4, q5, q6, q7, q8, q9, q10, q11, q12, q13, q14⟩ := box15 w (.int .u8 k) (.int .u8 v.kind) (.int .i64 v.num) (.slice va v.items.length vc) (.slice sa vs.length sc) (.int .i64 lo) (.int .i64 hi) (.slice wa ws.length wc)
    (.int .u8 p.kind) (.int .u8 p.val.kind) (.int .i64 p.val.num) (.slice qa p.val.items.length qc) (.int .i64 p.num) (.slice pa p.args.length pc) (.slice aa l.length ac) 47
  have hv0 := hv.below m0
  have hs0 := hs.below m0
  have hw0' := hw.below m0
  have hp0 := hp.below m0
  have hr0 := hr.below m0
  have hB0 := Below.refl w0.heap.size w0
  clear hok hv hs hw hp hr R0
  clear hv0 hs0 hw0' hp0 hr0
  have hn0 : (0 : Int) ≤ l.length := by omega
  obtain ⟨z, hz⟩ : ∃ z, z = TT.ends k lo hi l.length := ⟨_, rfl⟩
  rw [← hz]
  unfold TT.ends at hz
  by_cases hk : k = 2
  · subst hk
    rw [if_pos rfl] at hz
    have HZ := Lib.hid hz; clear hz
    go_enter Try.func138, Try.ntmps138
    go_wp2_with fail
    all_goals (go_ret; exact ⟨ret_int (by rw [HZ.out]; split <;> omega), m0⟩)
  · rw [if_neg hk] at hz
    by_cases hk6 : k = 6
    · subst hk6
      rw [if_pos rfl] at hz
      have HZ := Lib.hid hz; clear hz hk
      go_enter Try.func138, Try.ntmps138
      go_wp2_with fail
      all_goals (go_ret; exact ⟨ret_int (by rw [HZ.out]; split <;> omega), m0⟩)
    · rw [if_neg hk6] at hz
      by_cases hk8 : k = 8
      · subst hk8
        rw [if_pos rfl] at hz
        have HZ := Lib.hid hz; clear hz hk hk6
        rcases (by omega : hi = 0 ∨ hi ≠ 0) with hh | hh
        · have bh : (hi != 0) = false := by simp [hh]
          have HH := Lib.hid hh; clear hh
          go_enter Try.func138, Try.ntmps138
          go_wp2_with fail
          all_goals (go_ret; exact ⟨ret_int (by have hh := HH.out; rw [HZ.out]; split <;> (try split) <;> omega), m0⟩)
        · have bh : (hi != 0) = true := by simp [hh]
          have HH := Lib.hid hh; clear hh
          go_enter Try.func138, Try.ntmps138
          go_wp2_with fail
          all_goals (go_ret; exact ⟨ret_int (by have hh := HH.out; rw [HZ.out]; split <;> (try split) <;> omega), m0⟩)
      · rw [if_neg hk8] at hz
        by_cases hk10 : k = 10
        · subst hk10
          rw [if_pos rfl] at hz
          have HZ := Lib.hid hz; clear hz hk hk6 hk8
          rcases (by omega : hi = 0 ∨ hi ≠ 0) with hh | hh
          · have bh : (hi != 0) = false := by simp [hh]
            have HH := Lib.hid hh; clear hh
            go_enter Try.func138, Try.ntmps138
            go_wp2_with fail
            all_goals (go_ret; exact ⟨ret_int (by have hh := HH.out; rw [HZ.out]; split <;> (try split) <;> omega), m0⟩)
          · have bh : (hi != 0) = true := by simp [hh]
            have HH := Lib.hid hh; clear hh
            go_enter Try.func138, Try.ntmps138
            go_wp2_with fail
            all_goals (go_ret; exact ⟨ret_int (by have hh := HH.out; rw [HZ.out]; split <;> (try split) <;> omega), m0⟩)
        · rw [if_neg hk10] at hz
          have HZ := Lib.hid hz; clear hz
          have b2 : (k == 2) = false := by simpa using hk
          have b6 : (k == 6) = false := by simpa using hk6
          have b8 : (k == 8) = false := by simpa using hk8
          have b10 : (k == 10) = false := by simpa using hk10
          clear hk hk6 hk8 hk10
          rcases (by omega : hi = 0 ∨ hi ≠ 0) with hh | hh
          · have bh : (hi != 0) = false := by simp [hh]
            have HH := Lib.hid hh; clear hh
            rcases (by omega : lo = 0 ∨ lo ≠ 0) with hlo | hlo
            · have bl : (lo != 0) = false := by simp [hlo]
              have HL := Lib.hid hlo; clear hlo
              go_enter Try.func138, Try.ntmps138
              go_wp2_with fail
              all_goals (go_ret; exact ⟨ret_int (by have hh := HH.out; have hlo := HL.out; rw [HZ.out]; split <;> omega), m0⟩)
            · have bl : (lo != 0) = true := by simp [hlo]
              have HL := Lib.hid hlo; clear hlo
              go_enter Try.func138, Try.ntmps138
              go_wp2_with fail
              all_goals (go_ret; exact ⟨ret_int (by have hh := HH.out; have hlo := HL.out; rw [HZ.out]; split <;> omega), m0⟩)
          · have bh : (hi != 0) = true := by simp [hh]
            have HH := Lib.hid hh; clear hh
            rcases (by omega : lo = 0 ∨ lo ≠ 0) with hlo | hlo
            · have bl : (lo != 0) = false := by simp [hlo]
              have HL := Lib.hid hlo; clear hlo
              go_enter Try.func138, Try.ntmps138
              go_wp2_with fail
              all_goals (go_ret; exact ⟨ret_int (by have hh := HH.out; have hlo := HL.out; rw [HZ.out]; split <;> omega), m0⟩)
            · have bl : (lo != 0) = true := by simp [hlo]
              have HL := Lib.hid hlo; clear hlo
              go_enter Try.func138, Try.ntmps138
              go_wp2_with fail
              all_goals (go_ret; exact ⟨ret_int (by have hh := HH.out; have hlo := HL.out; rw [HZ.out]; split <;> omega), m0⟩)
/-! has -/
def TT.hasE (k : Int) (v : VT) (vs : List VT) (ws : List Int) (p : PT) : Int := if TT.values k v vs ≠ 0 then TT.values k v vs else TT.weights k ws p
theorem TT.has_v {k : Int} {v : VT} {vs : List VT} {ws : List Int} {p : PT} (h : TT.values k v vs ≠ 0) : TT.hasE k v vs ws p = TT.values k v vs := by unfold TT.hasE; rw [if_pos h]
theorem TT.has_w {k : Int} {v : VT} {vs : List VT} {ws : List Int} {p : PT} (h : TT.values k v vs = 0) : TT.hasE k v vs ws p = TT.weights k ws p := by unfold TT.hasE; rw [if_neg (by simp [h])]
set_option maxRecDepth 100000 in
set_option maxHeartbeats 8000000 in
theorem rhas_any (t : TT) (x : Value) (w : World) (hln : t.lean = true) (hx : TIn w t x) :
    Calls Try.prog 137 #[x] w fun e w' => e = .returned (.int .i64 (TT.hasE t.kind t.v t.vs t.ws t.p)) ∧ Below w.heap.size w w' := by
  have hlp := (TT.lean_parts hln).1
  obtain ⟨k, v, vs, lo, hi, ws, p, l⟩ := t
  obtain ⟨⟨va, vc, sa, sc, wa, wc, qa, qc, pa, pc, aa, ac⟩, rfl, hok⟩ := hx
  obtain ⟨⟨hal, hsl, hwl⟩, hv, hs, hw, hp, hr⟩ := hok.parts
  simp only [TT.v, TT.vs, TT.ws, TT.p, TT.args] at hal hsl hwl hv hs hw hp hr
  simp only [TT.val, TT.kind, TT.v, TT.vs, TT.lo, TT.hi, TT.ws, TT.p, TT.args]
  obtain ⟨w0, hw0, m0, s0, R0, q0, q1, q2, q3, q4, q5, q6, q7, q8, q9, q10, q11, q12, q13, q14⟩ := box15 w (.int .u8 k) (.int .u8 v.kind) (.int .i64 v.num) (.slice va v.items.length vc) (.slice sa vs.length sc) (.int .i64 lo) (.int .i64 hi) (.slice wa ws.length wc)
    (.int .u8 p.kind) (.int .u8 p.val.kind) (.int .i64 p.val.num) (.slice qa p.val.items.length qc) (.int .i64 p.num) (.slice pa p.args.length pc) (.slice aa l.length ac) 47
  have hv0 := hv.below m0
  have hs0 := hs.below m0
  have hw0' := hw.below m0
  have hp0 := hp.below m0
  have hr0 := hr.below m0
  have hB0 := Below.refl w0.heap.size w0
  clear hok hv hs hw hp hr R0
  simp only [TT.p, TT.v, TT.vs, TT.ws] at hlp
  have HLP := Lib.hid hlp
  clear hlp hln hr0 hB0
  have hB := m0
  clear m0
  by_cases hk : k = 1
  · have b1 : (k == 1) = true := by simp [hk]
    have b4 : (k != 4) = true := by simp [hk]
    have HK := Lib.hid hk; clear hk
    obtain ⟨z, hz⟩ : ∃ z, z = v.check := ⟨_, rfl⟩
    have HZV := Lib.hid hz; clear hz
    go_enter Try.func137, Try.ntmps137
    go_wp2_with fail
    refine (rcheck_any v _ _ (by have := HLP.out.1; omega) hv0).mono ?_
    rintro e w1 ⟨rfl, hb1⟩
    rw [← HZV.out]
    replace q0 := cell_stays hb1 q0
    replace q4 := cell_stays hb1 q4
    replace q7 := cell_stays hb1 q7
    replace q8 := cell_stays hb1 q8; replace q9 := cell_stays hb1 q9; replace q10 := cell_stays hb1 q10; replace q11 := cell_stays hb1 q11; replace q12 := cell_stays hb1 q12; replace q13 := cell_stays hb1 q13
    replace hs0 := hs0.below hb1
    replace hw0' := hw0'.below hb1
    replace hp0 := hp0.below hb1
    replace hB := hB.trans (hb1.mono hB.size)
    clear hb1
    by_cases hz0 : z = 0
    · have zb0 : (z != 0) = false := by simp [hz0]
      have HVA : Hid (TT.values k v vs = if vs.length = 0 then 0 else 3) := Lib.hid (by rw [HK.out]; exact TT.values1' (by rw [← HZV.out]; exact hz0))
      clear hz0
      rcases Nat.eq_zero_or_pos vs.length with hvz | hvz
      · have vb : decide (0 < vs.length) = false := decide_eq_false (by omega)
        have vb2 : decide (0 < (vs.length : Int)) = false := decide_eq_false (by omega)
        have HVK : Hid (TT.values k v vs = VT.checks vs) := Lib.hid (by rw [HVA.out, if_pos hvz, List.length_eq_zero_iff.1 hvz, VT.checks])
        clear hvz
        go_wp2_with fail
        rename World => wB
        go_loopw [4] (fun x wr => ∃ i : Nat, x = .int .i64 i ∧ i ≤ vs.length ∧ VT.checks vs = VT.checks (vs.drop i) ∧ Below wB.heap.size wB wr) (fun x _ => vs.length - (intOf x).toNat)
        case atStart => exact ⟨0, rfl, by omega, by simp, Below.refl _ _⟩
        case round =>
          obtain ⟨i, rfl, hi, hc, hbr⟩ := hrel
          have HCD := Lib.hid hc; clear hc
          have HBR := Lib.hid hbr
          replace q0 := cell_stays hbr q0
          replace q4 := cell_stays hbr q4
          replace q7 := cell_stays hbr q7
          replace q8 := cell_stays hbr q8; replace q9 := cell_stays hbr q9; replace q10 := cell_stays hbr q10; replace q11 := cell_stays hbr q11; replace q12 := cell_stays hbr q12; replace q13 := cell_stays hbr q13
          replace hs0 := hs0.below hbr
          replace hw0' := hw0'.below hbr
          replace hp0 := hp0.below hbr
          replace hB := hB.trans (hbr.mono hB.size)
          clear hbr
          by_cases hlt : i < vs.length
          · as_aux_lemma =>
            have g1 : decide ((i : Int) < vs.length) = true := decide_eq_true (by omega)
            have g2 : decide (i < vs.length) = true := decide_eq_true hlt
            obtain ⟨b, o, rfl, ax, cx, d0, d1, d2, hvi⟩ := hs0.got i hlt
            have hsl := VT.sizes_get hlt
            have hsz : vs[i].size ≤ 100000 := by have := HLP.out.2.1; omega
            have hd := VT.checks_drop hlt
            obtain ⟨y, hy⟩ : ∃ y, y = vs[i].check := ⟨_, rfl⟩
            rw [← hy] at hd
            have HD := Lib.hid hd; have HY := Lib.hid hy; have HSZ := Lib.hid hsz
            clear hd hy hsl hsz
            go_wp2_with fail
            refine (rcheck_any vs[i] _ _ (by have := HSZ.out; omega) hvi).mono ?_
            rintro e w4 ⟨rfl, hb4⟩
            rw [← HY.out]
            have hB4 := HBR.out.trans (hb4.mono HBR.out.size)
            have hB5 := hB.trans (hb4.mono hB.size)
            clear d0 d1 d2 hvi hb4
            by_cases hy0 : y = 0
            · have yb : (y != 0) = false := by simp [hy0]
              have HY0 := Lib.hid hy0; clear hy0
              go_wp2_with fail
              go_roundw
              case rel => exact ⟨i + 1, by go_num, by omega, by rw [HCD.out, HD.out, if_neg (by simp [HY0.out])], hB4⟩
              case measure => simp [intOf]; omega
            · have yb : (y != 0) = true := by simp [hy0]
              have HY0 := Lib.hid hy0; clear hy0
              have HVE : Hid (TT.hasE k v vs ws p = y) := Lib.hid (by
                have e : TT.values k v vs = y := by rw [HVK.out, HCD.out, HD.out, if_pos HY0.out]
                rw [TT.has_v (by rw [e]; exact HY0.out), e])
              go_wp2_with fail
              refine bodyPost_ret (v := .int .i64 y) (by simp [results, Try.results137, go_sem]) rfl ⟨by rw [HVE.out], hB5⟩
          · as_aux_lemma =>
            have g1 : decide ((i : Int) < vs.length) = false := decide_eq_false (by omega)
            have g2 : decide (i < vs.length) = false := decide_eq_false hlt
            have HV : Hid (TT.hasE k v vs ws p = TT.weights k ws p) := Lib.hid (TT.has_w (by rw [HVK.out, HCD.out, drop_nil hlt, VT.checks]))
            clear hi hlt HBR HCD
            by_cases h9 : k = 9
            · have b9 : (k == 9) = true := by simp [h9]
              have b3 : (k == 3) = false := by simp [h9]
              have b4' : (k == 4) = false := by simp [h9]
              have HK9 := Lib.hid h9; clear h9
              obtain ⟨⟨c1, z⟩, hz⟩ : ∃ z, z = p.check := ⟨_, rfl⟩
              have HZ := Lib.hid hz; have HZ2 : Hid (p.check.2 = z) := Lib.hid (by rw [← hz]); clear hz
              go_wp2_with fail
              refine (rpcheck_any p _ _ HLP.out.2.2.2.1 HLP.out.2.2.2.2 hp0).mono ?_
              rintro e w6 ⟨rfl, hb6⟩
              rw [← HZ.out]
              replace q0 := cell_stays hb6 q0
              replace q4 := cell_stays hb6 q4
              replace q7 := cell_stays hb6 q7
              replace q8 := cell_stays hb6 q8; replace q9 := cell_stays hb6 q9; replace q10 := cell_stays hb6 q10; replace q11 := cell_stays hb6 q11; replace q12 := cell_stays hb6 q12; replace q13 := cell_stays hb6 q13
              replace hs0 := hs0.below hb6
              replace hw0' := hw0'.below hb6
              replace hp0 := hp0.below hb6
              replace hB := hB.trans (hb6.mono hB.size)
              clear hb6
              by_cases hz0 : z = 0
              · have HC : Hid (TT.weights k ws p = if ws.length = 0 then 0 else 3) := Lib.hid (by rw [HK9.out]; exact TT.weights9' (by rw [HZ2.out]; exact hz0))
                have zb : (z != 0) = false := by simp [hz0]
                clear hz0
                rcases Nat.eq_zero_or_pos ws.length with hwz | hwz
                · have hwb : decide (0 < ws.length) = false := decide_eq_false (by omega)
                  have hwb2 : decide (0 < (ws.length : Int)) = false := decide_eq_false (by omega)
                  have HWZ := Lib.hid hwz; clear hwz
                  go_wp2_with fail
                  go_ret
                  exact ⟨ret_int (by rw [HV.out, HC.out, if_pos HWZ.out]), hB⟩
                · have hwb : decide (0 < ws.length) = true := decide_eq_true hwz
                  have hwb2 : decide (0 < (ws.length : Int)) = true := decide_eq_true (by omega)
                  have HWZ := Lib.hid hwz; clear hwz
                  go_wp2_with fail
                  go_ret
                  exact ⟨ret_int (by rw [HV.out, HC.out, if_neg (by have := HWZ.out; omega)]), hB⟩
              · have HC : Hid (TT.weights k ws p = z) := Lib.hid (by rw [HK9.out, TT.weights9 (by rw [HZ2.out]; exact hz0)]; exact HZ2.out)
                have zb : (z != 0) = true := by simp [hz0]
                clear hz0
                go_wp2_with fail
                go_ret
                exact ⟨ret_int (by rw [HV.out, HC.out]), hB⟩
            · have b9 : (k == 9) = false := by simp [h9]
              have HK9 := Lib.hid h9; clear h9
              obtain ⟨z, hz⟩ : ∃ z, z = p.nothing := ⟨_, rfl⟩
              have HZ := Lib.hid hz; clear hz
              go_wp2_with fail
              refine (rnothing_any p _ _ hp0).mono ?_
              rintro e w6 ⟨rfl, hb6⟩
              rw [← HZ.out]
              replace q0 := cell_stays hb6 q0
              replace q4 := cell_stays hb6 q4
              replace q7 := cell_stays hb6 q7
              replace q8 := cell_stays hb6 q8; replace q9 := cell_stays hb6 q9; replace q10 := cell_stays hb6 q10; replace q11 := cell_stays hb6 q11; replace q12 := cell_stays hb6 q12; replace q13 := cell_stays hb6 q13
              replace hs0 := hs0.below hb6
              replace hw0' := hw0'.below hb6
              replace hp0 := hp0.below hb6
              replace hB := hB.trans (hb6.mono hB.size)
              clear hb6
              cases z
              · have HC := Lib.hid (TT.weightsN (ws := ws) HK9.out HZ.out.symm)
                go_wp2_with fail
                go_ret
                exact ⟨ret_int (by rw [HV.out, HC.out]), hB⟩
              · by_cases h3 : k = 3
                · have HC := Lib.hid (TT.weightsW (ws := ws) (.inl h3) HZ.out.symm)
                  have b3 : (k == 3) = true := by simp [h3]
                  clear h3
                  go_wp2_with fail
                  refine (wrongW_any ws wa wc _ hw0').mono ?_
                  rintro e w8 ⟨rfl, hb8⟩
                  go_wp2_with fail
                  go_ret
                  exact ⟨ret_int (by rw [HV.out, HC.out]), hB.trans (hb8.mono hB.size)⟩
                · have b3 : (k == 3) = false := by simp [h3]
                  by_cases h4 : k = 4
                  · have HC := Lib.hid (TT.weightsW (ws := ws) (.inr h4) HZ.out.symm)
                    have b4' : (k == 4) = true := by simp [h4]
                    clear h3 h4
                    go_wp2_with fail
                    refine (wrongW_any ws wa wc _ hw0').mono ?_
                    rintro e w8 ⟨rfl, hb8⟩
                    go_wp2_with fail
                    go_ret
                    exact ⟨ret_int (by rw [HV.out, HC.out]), hB.trans (hb8.mono hB.size)⟩
                  · have HC := Lib.hid (TT.weightsO (ws := ws) HK9.out h3 h4 HZ.out.symm)
                    have b4' : (k == 4) = false := by simp [h4]
                    clear h3 h4
                    rcases Nat.eq_zero_or_pos ws.length with hwz | hwz
                    · have hwb : decide (0 < ws.length) = false := decide_eq_false (by omega)
                      have hwb2 : decide (0 < (ws.length : Int)) = false := decide_eq_false (by omega)
                      have HWZ := Lib.hid hwz; clear hwz
                      go_wp2_with fail
                      go_ret
                      exact ⟨ret_int (by rw [HV.out, HC.out, if_pos HWZ.out]), hB⟩
                    · have hwb : decide (0 < ws.length) = true := decide_eq_true hwz
                      have hwb2 : decide (0 < (ws.length : Int)) = true := decide_eq_true (by omega)
                      have HWZ := Lib.hid hwz; clear hwz
                      go_wp2_with fail
                      go_ret
                      exact ⟨ret_int (by rw [HV.out, HC.out, if_neg (by have := HWZ.out; omega)]), hB⟩
      · have vb : decide (0 < vs.length) = true := decide_eq_true hvz
        have vb2 : decide (0 < (vs.length : Int)) = true := decide_eq_true (by omega)
        have HVE : Hid (TT.hasE k v vs ws p = 3) := Lib.hid (by
          have e : TT.values k v vs = 3 := by rw [HVA.out, if_neg (by omega)]
          rw [TT.has_v (by rw [e]; decide), e])
        go_wp2_with fail
        go_ret
        exact ⟨ret_int (by rw [HVE.out]), hB⟩
    · have zb0 : (z != 0) = true := by simp [hz0]
      have HVA : Hid (TT.hasE k v vs ws p = z) := Lib.hid (by rw [TT.has_v (by rw [HK.out, TT.values1 (by rw [← HZV.out]; exact hz0)]; rw [← HZV.out]; exact hz0), HK.out, TT.values1 (by rw [← HZV.out]; exact hz0)]; exact HZV.out.symm)
      clear hz0
      go_wp2_with fail
      go_ret
      exact ⟨ret_int (by rw [HVA.out]), hB⟩
  · have b1 : (k == 1) = false := by simp [hk]
    have HK := Lib.hid hk; clear hk
    obtain ⟨z, hz⟩ : ∃ z, z = v.none := ⟨_, rfl⟩
    have HZV := Lib.hid hz; clear hz
    go_enter Try.func137, Try.ntmps137
    go_wp2_with fail
    refine (rtnone_any _ _ _ _ _ _).mono ?_
    rintro e w1 ⟨rfl, hb1⟩
    rw [← PT.none_eq, ← HZV.out]
    replace q0 := cell_stays hb1 q0
    replace q4 := cell_stays hb1 q4
    replace q7 := cell_stays hb1 q7
    replace q8 := cell_stays hb1 q8; replace q9 := cell_stays hb1 q9; replace q10 := cell_stays hb1 q10; replace q11 := cell_stays hb1 q11; replace q12 := cell_stays hb1 q12; replace q13 := cell_stays hb1 q13
    replace hs0 := hs0.below hb1
    replace hw0' := hw0'.below hb1
    replace hp0 := hp0.below hb1
    replace hB := hB.trans (hb1.mono hB.size)
    clear hb1
    cases z
    · have HVE : Hid (TT.hasE k v vs ws p = 3) := Lib.hid (by
        have e := TT.valuesN (vs := vs) HK.out HZV.out.symm
        rw [TT.has_v (by rw [e]; decide), e])
      go_wp2_with fail
      go_ret
      exact ⟨ret_int (by rw [HVE.out]), hB⟩
    · by_cases h4 : k = 4
      · have b4 : (k != 4) = false := by simp [h4]
        have HVK : Hid (TT.values k v vs = VT.checks vs) := Lib.hid (by rw [h4]; exact TT.values4 HZV.out.symm)
        clear h4
        go_wp2_with fail
        rename World => wB
        go_loopw [4] (fun x wr => ∃ i : Nat, x = .int .i64 i ∧ i ≤ vs.length ∧ VT.checks vs = VT.checks (vs.drop i) ∧ Below wB.heap.size wB wr) (fun x _ => vs.length - (intOf x).toNat)
        case atStart => exact ⟨0, rfl, by omega, by simp, Below.refl _ _⟩
        case round =>
          obtain ⟨i, rfl, hi, hc, hbr⟩ := hrel
          have HCD := Lib.hid hc; clear hc
          have HBR := Lib.hid hbr
          replace q0 := cell_stays hbr q0
          replace q4 := cell_stays hbr q4
          replace q7 := cell_stays hbr q7
          replace q8 := cell_stays hbr q8; replace q9 := cell_stays hbr q9; replace q10 := cell_stays hbr q10; replace q11 := cell_stays hbr q11; replace q12 := cell_stays hbr q12; replace q13 := cell_stays hbr q13
          replace hs0 := hs0.below hbr
          replace hw0' := hw0'.below hbr
          replace hp0 := hp0.below hbr
          replace hB := hB.trans (hbr.mono hB.size)
          clear hbr
          by_cases hlt : i < vs.length
          · as_aux_lemma =>
            have g1 : decide ((i : Int) < vs.length) = true := decide_eq_true (by omega)
            have g2 : decide (i < vs.length) = true := decide_eq_true hlt
            obtain ⟨b, o, rfl, ax, cx, d0, d1, d2, hvi⟩ := hs0.got i hlt
            have hsl := VT.sizes_get hlt
            have hsz : vs[i].size ≤ 100000 := by have := HLP.out.2.1; omega
            have hd := VT.checks_drop hlt
            obtain ⟨y, hy⟩ : ∃ y, y = vs[i].check := ⟨_, rfl⟩
            rw [← hy] at hd
            have HD := Lib.hid hd; have HY := Lib.hid hy; have HSZ := Lib.hid hsz
            clear hd hy hsl hsz
            go_wp2_with fail
            refine (rcheck_any vs[i] _ _ (by have := HSZ.out; omega) hvi).mono ?_
            rintro e w4 ⟨rfl, hb4⟩
            rw [← HY.out]
            have hB4 := HBR.out.trans (hb4.mono HBR.out.size)
            have hB5 := hB.trans (hb4.mono hB.size)
            clear d0 d1 d2 hvi hb4
            by_cases hy0 : y = 0
            · have yb : (y != 0) = false := by simp [hy0]
              have HY0 := Lib.hid hy0; clear hy0
              go_wp2_with fail
              go_roundw
              case rel => exact ⟨i + 1, by go_num, by omega, by rw [HCD.out, HD.out, if_neg (by simp [HY0.out])], hB4⟩
              case measure => simp [intOf]; omega
            · have yb : (y != 0) = true := by simp [hy0]
              have HY0 := Lib.hid hy0; clear hy0
              have HVE : Hid (TT.hasE k v vs ws p = y) := Lib.hid (by
                have e : TT.values k v vs = y := by rw [HVK.out, HCD.out, HD.out, if_pos HY0.out]
                rw [TT.has_v (by rw [e]; exact HY0.out), e])
              go_wp2_with fail
              refine bodyPost_ret (v := .int .i64 y) (by simp [results, Try.results137, go_sem]) rfl ⟨by rw [HVE.out], hB5⟩
          · as_aux_lemma =>
            have g1 : decide ((i : Int) < vs.length) = false := decide_eq_false (by omega)
            have g2 : decide (i < vs.length) = false := decide_eq_false hlt
            have HV : Hid (TT.hasE k v vs ws p = TT.weights k ws p) := Lib.hid (TT.has_w (by rw [HVK.out, HCD.out, drop_nil hlt, VT.checks]))
            clear hi hlt HBR HCD
            by_cases h9 : k = 9
            · have b9 : (k == 9) = true := by simp [h9]
              have b3 : (k == 3) = false := by simp [h9]
              have b4' : (k == 4) = false := by simp [h9]
              have HK9 := Lib.hid h9; clear h9
              obtain ⟨⟨c1, z⟩, hz⟩ : ∃ z, z = p.check := ⟨_, rfl⟩
              have HZ := Lib.hid hz; have HZ2 : Hid (p.check.2 = z) := Lib.hid (by rw [← hz]); clear hz
              go_wp2_with fail
              refine (rpcheck_any p _ _ HLP.out.2.2.2.1 HLP.out.2.2.2.2 hp0).mono ?_
              rintro e w6 ⟨rfl, hb6⟩
              rw [← HZ.out]
              replace q0 := cell_stays hb6 q0
              replace q4 := cell_stays hb6 q4
              replace q7 := cell_stays hb6 q7
              replace q8 := cell_stays hb6 q8; replace q9 := cell_stays hb6 q9; replace q10 := cell_stays hb6 q10; replace q11 := cell_stays hb6 q11; replace q12 := cell_stays hb6 q12; replace q13 := cell_stays hb6 q13
              replace hs0 := hs0.below hb6
              replace hw0' := hw0'.below hb6
              replace hp0 := hp0.below hb6
              replace hB := hB.trans (hb6.mono hB.size)
              clear hb6
              by_cases hz0 : z = 0
              · have HC : Hid (TT.weights k ws p = if ws.length = 0 then 0 else 3) := Lib.hid (by rw [HK9.out]; exact TT.weights9' (by rw [HZ2.out]; exact hz0))
                have zb : (z != 0) = false := by simp [hz0]
                clear hz0
                rcases Nat.eq_zero_or_pos ws.length with hwz | hwz
                · have hwb : decide (0 < ws.length) = false := decide_eq_false (by omega)
                  have hwb2 : decide (0 < (ws.length : Int)) = false := decide_eq_false (by omega)
                  have HWZ := Lib.hid hwz; clear hwz
                  go_wp2_with fail
                  go_ret
                  exact ⟨ret_int (by rw [HV.out, HC.out, if_pos HWZ.out]), hB⟩
                · have hwb : decide (0 < ws.length) = true := decide_eq_true hwz
                  have hwb2 : decide (0 < (ws.length : Int)) = true := decide_eq_true (by omega)
                  have HWZ := Lib.hid hwz; clear hwz
                  go_wp2_with fail
                  go_ret
                  exact ⟨ret_int (by rw [HV.out, HC.out, if_neg (by have := HWZ.out; omega)]), hB⟩
              · have HC : Hid (TT.weights k ws p = z) := Lib.hid (by rw [HK9.out, TT.weights9 (by rw [HZ2.out]; exact hz0)]; exact HZ2.out)
                have zb : (z != 0) = true := by simp [hz0]
                clear hz0
                go_wp2_with fail
                go_ret
                exact ⟨ret_int (by rw [HV.out, HC.out]), hB⟩
            · have b9 : (k == 9) = false := by simp [h9]
              have HK9 := Lib.hid h9; clear h9
              obtain ⟨z, hz⟩ : ∃ z, z = p.nothing := ⟨_, rfl⟩
              have HZ := Lib.hid hz; clear hz
              go_wp2_with fail
              refine (rnothing_any p _ _ hp0).mono ?_
              rintro e w6 ⟨rfl, hb6⟩
              rw [← HZ.out]
              replace q0 := cell_stays hb6 q0
              replace q4 := cell_stays hb6 q4
              replace q7 := cell_stays hb6 q7
              replace q8 := cell_stays hb6 q8; replace q9 := cell_stays hb6 q9; replace q10 := cell_stays hb6 q10; replace q11 := cell_stays hb6 q11; replace q12 := cell_stays hb6 q12; replace q13 := cell_stays hb6 q13
              replace hs0 := hs0.below hb6
              replace hw0' := hw0'.below hb6
              replace hp0 := hp0.below hb6
              replace hB := hB.trans (hb6.mono hB.size)
              clear hb6
              cases z
              · have HC := Lib.hid (TT.weightsN (ws := ws) HK9.out HZ.out.symm)
                go_wp2_with fail
                go_ret
                exact ⟨ret_int (by rw [HV.out, HC.out]), hB⟩
              · by_cases h3 : k = 3
                · have HC := Lib.hid (TT.weightsW (ws := ws) (.inl h3) HZ.out.symm)
                  have b3 : (k == 3) = true := by simp [h3]
                  clear h3
                  go_wp2_with fail
                  refine (wrongW_any ws wa wc _ hw0').mono ?_
                  rintro e w8 ⟨rfl, hb8⟩
                  go_wp2_with fail
                  go_ret
                  exact ⟨ret_int (by rw [HV.out, HC.out]), hB.trans (hb8.mono hB.size)⟩
                · have b3 : (k == 3) = false := by simp [h3]
                  by_cases h4 : k = 4
                  · have HC := Lib.hid (TT.weightsW (ws := ws) (.inr h4) HZ.out.symm)
                    have b4' : (k == 4) = true := by simp [h4]
                    clear h3 h4
                    go_wp2_with fail
                    refine (wrongW_any ws wa wc _ hw0').mono ?_
                    rintro e w8 ⟨rfl, hb8⟩
                    go_wp2_with fail
                    go_ret
                    exact ⟨ret_int (by rw [HV.out, HC.out]), hB.trans (hb8.mono hB.size)⟩
                  · have HC := Lib.hid (TT.weightsO (ws := ws) HK9.out h3 h4 HZ.out.symm)
                    have b4' : (k == 4) = false := by simp [h4]
                    clear h3 h4
                    rcases Nat.eq_zero_or_pos ws.length with hwz | hwz
                    · have hwb : decide (0 < ws.length) = false := decide_eq_false (by omega)
                      have hwb2 : decide (0 < (ws.length : Int)) = false := decide_eq_false (by omega)
                      have HWZ := Lib.hid hwz; clear hwz
                      go_wp2_with fail
                      go_ret
                      exact ⟨ret_int (by rw [HV.out, HC.out, if_pos HWZ.out]), hB⟩
                    · have hwb : decide (0 < ws.length) = true := decide_eq_true hwz
                      have hwb2 : decide (0 < (ws.length : Int)) = true := decide_eq_true (by omega)
                      have HWZ := Lib.hid hwz; clear hwz
                      go_wp2_with fail
                      go_ret
                      exact ⟨ret_int (by rw [HV.out, HC.out, if_neg (by have := HWZ.out; omega)]), hB⟩
      · have b4 : (k != 4) = true := by simp [h4]
        have HVA := Lib.hid (TT.valuesO (vs := vs) HK.out h4 HZV.out.symm)
        clear h4
        rcases Nat.eq_zero_or_pos vs.length with hvz | hvz
        · have vb : decide (0 < vs.length) = false := decide_eq_false (by omega)
          have vb2 : decide (0 < (vs.length : Int)) = false := decide_eq_false (by omega)
          have HVK : Hid (TT.values k v vs = VT.checks vs) := Lib.hid (by rw [HVA.out, if_pos hvz, List.length_eq_zero_iff.1 hvz, VT.checks])
          clear hvz
          go_wp2_with fail
          rename World => wB
          go_loopw [4] (fun x wr => ∃ i : Nat, x = .int .i64 i ∧ i ≤ vs.length ∧ VT.checks vs = VT.checks (vs.drop i) ∧ Below wB.heap.size wB wr) (fun x _ => vs.length - (intOf x).toNat)
          case atStart => exact ⟨0, rfl, by omega, by simp, Below.refl _ _⟩
          case round =>
            obtain ⟨i, rfl, hi, hc, hbr⟩ := hrel
            have HCD := Lib.hid hc; clear hc
            have HBR := Lib.hid hbr
            replace q0 := cell_stays hbr q0
            replace q4 := cell_stays hbr q4
            replace q7 := cell_stays hbr q7
            replace q8 := cell_stays hbr q8; replace q9 := cell_stays hbr q9; replace q10 := cell_stays hbr q10; replace q11 := cell_stays hbr q11; replace q12 := cell_stays hbr q12; replace q13 := cell_stays hbr q13
            replace hs0 := hs0.below hbr
            replace hw0' := hw0'.below hbr
            replace hp0 := hp0.below hbr
            replace hB := hB.trans (hbr.mono hB.size)
            clear hbr
            by_cases hlt : i < vs.length
            · as_aux_lemma =>
              have g1 : decide ((i : Int) < vs.length) = true := decide_eq_true (by omega)
              have g2 : decide (i < vs.length) = true := decide_eq_true hlt
              obtain ⟨b, o, rfl, ax, cx, d0, d1, d2, hvi⟩ := hs0.got i hlt
              have hsl := VT.sizes_get hlt
              have hsz : vs[i].size ≤ 100000 := by have := HLP.out.2.1; omega
              have hd := VT.checks_drop hlt
              obtain ⟨y, hy⟩ : ∃ y, y = vs[i].check := ⟨_, rfl⟩
              rw [← hy] at hd
              have HD := Lib.hid hd; have HY := Lib.hid hy; have HSZ := Lib.hid hsz
              clear hd hy hsl hsz
              go_wp2_with fail
              refine (rcheck_any vs[i] _ _ (by have := HSZ.out; omega) hvi).mono ?_
              rintro e w4 ⟨rfl, hb4⟩
              rw [← HY.out]
              have hB4 := HBR.out.trans (hb4.mono HBR.out.size)
              have hB5 := hB.trans (hb4.mono hB.size)
              clear d0 d1 d2 hvi hb4
              by_cases hy0 : y = 0
              · have yb : (y != 0) = false := by simp [hy0]
                have HY0 := Lib.hid hy0; clear hy0
                go_wp2_with fail
                go_roundw
                case rel => exact ⟨i + 1, by go_num, by omega, by rw [HCD.out, HD.out, if_neg (by simp [HY0.out])], hB4⟩
                case measure => simp [intOf]; omega
              · have yb : (y != 0) = true := by simp [hy0]
                have HY0 := Lib.hid hy0; clear hy0
                have HVE : Hid (TT.hasE k v vs ws p = y) := Lib.hid (by
                  have e : TT.values k v vs = y := by rw [HVK.out, HCD.out, HD.out, if_pos HY0.out]
                  rw [TT.has_v (by rw [e]; exact HY0.out), e])
                go_wp2_with fail
                refine bodyPost_ret (v := .int .i64 y) (by simp [results, Try.results137, go_sem]) rfl ⟨by rw [HVE.out], hB5⟩
            · as_aux_lemma =>
              have g1 : decide ((i : Int) < vs.length) = false := decide_eq_false (by omega)
              have g2 : decide (i < vs.length) = false := decide_eq_false hlt
              have HV : Hid (TT.hasE k v vs ws p = TT.weights k ws p) := Lib.hid (TT.has_w (by rw [HVK.out, HCD.out, drop_nil hlt, VT.checks]))
              clear hi hlt HBR HCD
              by_cases h9 : k = 9
              · have b9 : (k == 9) = true := by simp [h9]
                have b3 : (k == 3) = false := by simp [h9]
                have b4' : (k == 4) = false := by simp [h9]
                have HK9 := Lib.hid h9; clear h9
                obtain ⟨⟨c1, z⟩, hz⟩ : ∃ z, z = p.check := ⟨_, rfl⟩
                have HZ := Lib.hid hz; have HZ2 : Hid (p.check.2 = z) := Lib.hid (by rw [← hz]); clear hz
                go_wp2_with fail
                refine (rpcheck_any p _ _ HLP.out.2.2.2.1 HLP.out.2.2.2.2 hp0).mono ?_
                rintro e w6 ⟨rfl, hb6⟩
                rw [← HZ.out]
                replace q0 := cell_stays hb6 q0
                replace q4 := cell_stays hb6 q4
                replace q7 := cell_stays hb6 q7
                replace q8 := cell_stays hb6 q8; replace q9 := cell_stays hb6 q9; replace q10 := cell_stays hb6 q10; replace q11 := cell_stays hb6 q11; replace q12 := cell_stays hb6 q12; replace q13 := cell_stays hb6 q13
                replace hs0 := hs0.below hb6
                replace hw0' := hw0'.below hb6
                replace hp0 := hp0.below hb6
                replace hB := hB.trans (hb6.mono hB.size)
                clear hb6
                by_cases hz0 : z = 0
                · have HC : Hid (TT.weights k ws p = if ws.length = 0 then 0 else 3) := Lib.hid (by rw [HK9.out]; exact TT.weights9' (by rw [HZ2.out]; exact hz0))
                  have zb : (z != 0) = false := by simp [hz0]
                  clear hz0
                  rcases Nat.eq_zero_or_pos ws.length with hwz | hwz
                  · have hwb : decide (0 < ws.length) = false := decide_eq_false (by omega)
                    have hwb2 : decide (0 < (ws.length : Int)) = false := decide_eq_false (by omega)
                    have HWZ := Lib.hid hwz; clear hwz
                    go_wp2_with fail
                    go_ret
                    exact ⟨ret_int (by rw [HV.out, HC.out, if_pos HWZ.out]), hB⟩
                  · have hwb : decide (0 < ws.length) = true := decide_eq_true hwz
                    have hwb2 : decide (0 < (ws.length : Int)) = true := decide_eq_true (by omega)
                    have HWZ := Lib.hid hwz; clear hwz
                    go_wp2_with fail
                    go_ret
                    exact ⟨ret_int (by rw [HV.out, HC.out, if_neg (by have := HWZ.out; omega)]), hB⟩
                · have HC : Hid (TT.weights k ws p = z) := Lib.hid (by rw [HK9.out, TT.weights9 (by rw [HZ2.out]; exact hz0)]; exact HZ2.out)
                  have zb : (z != 0) = true := by simp [hz0]
                  clear hz0
                  go_wp2_with fail
                  go_ret
                  exact ⟨ret_int (by rw [HV.out, HC.out]), hB⟩
              · have b9 : (k == 9) = false := by simp [h9]
                have HK9 := Lib.hid h9; clear h9
                obtain ⟨z, hz⟩ : ∃ z, z = p.nothing := ⟨_, rfl⟩
                have HZ := Lib.hid hz; clear hz
                go_wp2_with fail
                refine (rnothing_any p _ _ hp0).mono ?_
                rintro e w6 ⟨rfl, hb6⟩
                rw [← HZ.out]
                replace q0 := cell_stays hb6 q0
                replace q4 := cell_stays hb6 q4
                replace q7 := cell_stays hb6 q7
                replace q8 := cell_stays hb6 q8; replace q9 := cell_stays hb6 q9; replace q10 := cell_stays hb6 q10; replace q11 := cell_stays hb6 q11; replace q12 := cell_stays hb6 q12; replace q13 := cell_stays hb6 q13
                replace hs0 := hs0.below hb6
                replace hw0' := hw0'.below hb6
                replace hp0 := hp0.below hb6
                replace hB := hB.trans (hb6.mono hB.size)
                clear hb6
                cases z
                · have HC := Lib.hid (TT.weightsN (ws := ws) HK9.out HZ.out.symm)
                  go_wp2_with fail
                  go_ret
                  exact ⟨ret_int (by rw [HV.out, HC.out]), hB⟩
                · by_cases h3 : k = 3
                  · have HC := Lib.hid (TT.weightsW (ws := ws) (.inl h3) HZ.out.symm)
                    have b3 : (k == 3) = true := by simp [h3]
                    clear h3
                    go_wp2_with fail
                    refine (wrongW_any ws wa wc _ hw0').mono ?_
                    rintro e w8 ⟨rfl, hb8⟩
                    go_wp2_with fail
                    go_ret
                    exact ⟨ret_int (by rw [HV.out, HC.out]), hB.trans (hb8.mono hB.size)⟩
                  · have b3 : (k == 3) = false := by simp [h3]
                    by_cases h4 : k = 4
                    · have HC := Lib.hid (TT.weightsW (ws := ws) (.inr h4) HZ.out.symm)
                      have b4' : (k == 4) = true := by simp [h4]
                      clear h3 h4
                      go_wp2_with fail
                      refine (wrongW_any ws wa wc _ hw0').mono ?_
                      rintro e w8 ⟨rfl, hb8⟩
                      go_wp2_with fail
                      go_ret
                      exact ⟨ret_int (by rw [HV.out, HC.out]), hB.trans (hb8.mono hB.size)⟩
                    · have HC := Lib.hid (TT.weightsO (ws := ws) HK9.out h3 h4 HZ.out.symm)
                      have b4' : (k == 4) = false := by simp [h4]
                      clear h3 h4
                      rcases Nat.eq_zero_or_pos ws.length with hwz | hwz
                      · have hwb : decide (0 < ws.length) = false := decide_eq_false (by omega)
                        have hwb2 : decide (0 < (ws.length : Int)) = false := decide_eq_false (by omega)
                        have HWZ := Lib.hid hwz; clear hwz
                        go_wp2_with fail
                        go_ret
                        exact ⟨ret_int (by rw [HV.out, HC.out, if_pos HWZ.out]), hB⟩
                      · have hwb : decide (0 < ws.length) = true := decide_eq_true hwz
                        have hwb2 : decide (0 < (ws.length : Int)) = true := decide_eq_true (by omega)
                        have HWZ := Lib.hid hwz; clear hwz
                        go_wp2_with fail
                        go_ret
                        exact ⟨ret_int (by rw [HV.out, HC.out, if_neg (by have := HWZ.out; omega)]), hB⟩
        · have vb : decide (0 < vs.length) = true := decide_eq_true hvz
          have vb2 : decide (0 < (vs.length : Int)) = true := decide_eq_true (by omega)
          have HVE : Hid (TT.hasE k v vs ws p = 3) := Lib.hid (by
            have e : TT.values k v vs = 3 := by rw [HVA.out, if_neg (by omega)]
            rw [TT.has_v (by rw [e]; decide), e])
          go_wp2_with fail
          go_ret
          exact ⟨ret_int (by rw [HVE.out]), hB⟩
end Go.Proofs.Yteebbffecaeciaa
