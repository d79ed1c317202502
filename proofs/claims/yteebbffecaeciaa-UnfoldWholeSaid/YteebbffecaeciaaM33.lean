/- Texts of this claim laid into one: TLong. -/
import Derived.Test.YteebbffecaeciaaM32
import Derived.Test.YteebbffecaeciaaM08
/- The law's weigh and Long, over terms. -/
namespace Go.Proofs.Yteebbffecaeciaa
open Go.RowKit

set_option maxRecDepth 100000 in
set_option maxHeartbeats 8000000 in
theorem tweigh_any (N : Nat) : ∀ (t : TT) (x : Value) (m : Int) (w : World), m ≤ N → TIn w t x → 1 ≤ m → m ≤ 1500 →
    Calls Try.prog 68 #[x, .int .i64 m] w fun e w' => e = .returned (.int .i64 (t.weigh m)) ∧ Below w.heap.size w w' := by
  induction N with
  | zero => intro t x m w h1 _ h2; omega
  | succ N ih =>
    intro t x m w hN hx h1 h2
    have IH := Lib.hid ih; clear ih
    obtain ⟨k, v, vs, lo, hi0, ws, p, l⟩ := t
    obtain ⟨⟨va, vc, sa, sc, wa, wc, qa, qc, pa, pc, aa, ac⟩, rfl, hok⟩ := hx
    obtain ⟨hlen, hv, hs, hw, hp, hr⟩ := hok.parts
    simp only [TT.v, TT.vs, TT.ws, TT.p, TT.args] at hlen hv hs hw hp hr
    simp only [TT.val, TT.kind, TT.v, TT.vs, TT.lo, TT.hi, TT.ws, TT.p, TT.args]
    obtain ⟨w0, hw0, m0, s0, R0, q0, q1, q2, q3, q4, q5, q6, q7, q8, q9, q10, q11, q12, q13, q14⟩ := box15 w (.int .u8 k) (.int .u8 v.kind) (.int .i64 v.num) (.slice va v.items.length vc) (.slice sa vs.length sc) (.int .i64 lo) (.int .i64 hi0) (.slice wa ws.length wc) (.int .u8 p.kind) (.int .u8 p.val.kind) (.int .i64 p.val.num) (.slice qa p.val.items.length qc) (.int .i64 p.num) (.slice pa p.args.length pc) (.slice aa l.length ac) 47
    obtain ⟨w1, hw1, m1, s1, p0, p1, p2, _⟩ := box3 w0 (.int .u8 v.kind) (.int .i64 v.num) (.slice va v.items.length vc) 25
    have hB1 : Below w.heap.size w w1 := m0.trans (m1.mono m0.size)
    have hrow : VRow w1 [v] (some ⟨w0.heap.size, 0, none⟩) := vrow_cons p0 p1 p2 (hv.below hB1) vrow_nil
    have q1 := cell_stays m1 q1
    have q2 := cell_stays m1 q2
    have q3 := cell_stays m1 q3
    have q4 := cell_stays m1 q4
    have q7 := cell_stays m1 q7
    have q8 := cell_stays m1 q8
    have q9 := cell_stays m1 q9
    have q10 := cell_stays m1 q10
    have q11 := cell_stays m1 q11
    have q12 := cell_stays m1 q12
    have q13 := cell_stays m1 q13
    have q14 := cell_stays m1 q14
    have hs := hs.below hB1; have hp := hp.below hB1; have hr := hr.below hB1
    clear hok hv hw q0 q5 q6 R0 p0 p1 p2 m0 m1
    rw [TT.weigh]
    obtain ⟨b1, hb1⟩ : ∃ b, b = VT.long [v] := ⟨_, rfl⟩
    obtain ⟨b2, hb2⟩ : ∃ b, b = VT.long vs := ⟨_, rfl⟩
    obtain ⟨b3, hb3⟩ : ∃ b, b = PT.long [p] := ⟨_, rfl⟩
    obtain ⟨r, hr0⟩ : ∃ r, r = (if TT.great v vs ws p = true then m else TT.weighAll m (TT.own v vs ws p) l) := ⟨_, rfl⟩
    rw [← hr0]
    have HV1 := Lib.hid hb1; have HV2 := Lib.hid hb2; have HV3 := Lib.hid hb3; have HRES := Lib.hid hr0; have HLEN := Lib.hid hlen
    clear hb1 hb2 hb3 hr0 hlen
    go_enter Try.func68, Try.ntmps68
    go_wp2_with fail
    refine (long_any [v] _ 1 _ (by simp) hrow).mono ?_
    rintro e w2 ⟨rfl, hb⟩
    rw [← HV1.out]
    have q1 := cell_stays hb q1
    have q2 := cell_stays hb q2
    have q3 := cell_stays hb q3
    have q4 := cell_stays hb q4
    have q7 := cell_stays hb q7
    have q8 := cell_stays hb q8
    have q9 := cell_stays hb q9
    have q10 := cell_stays hb q10
    have q11 := cell_stays hb q11
    have q12 := cell_stays hb q12
    have q13 := cell_stays hb q13
    have q14 := cell_stays hb q14
    have hB2 := hB1.trans (hb.mono hB1.size)
    have hs := hs.below hb; have hp := hp.below hb; have hr := hr.below hb
    clear hrow hB1 hb
    cases b1
    · go_wp2_with fail
      refine (long_any vs _ sc _ HLEN.out.2.1 hs).mono ?_
      rintro e w3 ⟨rfl, hb⟩
      rw [← HV2.out]
      have q1 := cell_stays hb q1
      have q2 := cell_stays hb q2
      have q3 := cell_stays hb q3
      have q4 := cell_stays hb q4
      have q7 := cell_stays hb q7
      have q8 := cell_stays hb q8
      have q9 := cell_stays hb q9
      have q10 := cell_stays hb q10
      have q11 := cell_stays hb q11
      have q12 := cell_stays hb q12
      have q13 := cell_stays hb q13
      have q14 := cell_stays hb q14
      have hB3 := hB2.trans (hb.mono hB2.size)
      have hp := hp.below hb; have hr := hr.below hb
      clear hB2 hb hs
      cases b2
      · obtain ⟨w4, hw4, m4, s4, p0, p1, p2, p3, p4, p5⟩ := box6 w3 (.int .u8 p.kind) (.int .u8 p.val.kind) (.int .i64 p.val.num) (.slice qa p.val.items.length qc) (.int .i64 p.num) (.slice pa p.args.length pc) 28
        have hprow : PRow w4 [p] (some ⟨w3.heap.size, 0, none⟩) := prow_cons p0 p1 p2 p3 p4 p5 (hp.below m4) prow_nil
        have hB4 := hB3.trans (m4.mono hB3.size)
        have q1 := cell_stays m4 q1
        have q2 := cell_stays m4 q2
        have q3 := cell_stays m4 q3
        have q4 := cell_stays m4 q4
        have q7 := cell_stays m4 q7
        have q8 := cell_stays m4 q8
        have q9 := cell_stays m4 q9
        have q10 := cell_stays m4 q10
        have q11 := cell_stays m4 q11
        have q12 := cell_stays m4 q12
        have q13 := cell_stays m4 q13
        have q14 := cell_stays m4 q14
        have hr := hr.below m4
        clear p0 p1 p2 p3 p4 p5 hp hB3 m4
        go_wp2_with fail
        refine (plong_any [p] _ 1 _ (by simp) hprow).mono ?_
        rintro e w5 ⟨rfl, hb⟩
        rw [← HV3.out]
        have q1 := cell_stays hb q1
        have q2 := cell_stays hb q2
        have q3 := cell_stays hb q3
        have q4 := cell_stays hb q4
        have q7 := cell_stays hb q7
        have q8 := cell_stays hb q8
        have q9 := cell_stays hb q9
        have q10 := cell_stays hb q10
        have q11 := cell_stays hb q11
        have q12 := cell_stays hb q12
        have q13 := cell_stays hb q13
        have q14 := cell_stays hb q14
        have hB5 := hB4.trans (hb.mono hB4.size)
        have hr := hr.below hb
        clear hB4 hb hprow hw4 s4
        cases b3
        · have hll := HLEN.out.1
          by_cases hw1 : 200 < ws.length
          · as_aux_lemma =>
            go_wp2_with fail
            go_ret
            exact ⟨ret_int (by rw [HRES.out, if_pos (by rw [TT.great, ← HV1.out, ← HV2.out, ← HV3.out, decide_eq_true hw1]; simp)]), hB5⟩
          · by_cases hw2 : 200 < vs.length
            · as_aux_lemma =>
              go_wp2_with fail
              go_ret
              exact ⟨ret_int (by rw [HRES.out, if_pos (by rw [TT.great, ← HV1.out, ← HV2.out, ← HV3.out, decide_eq_true hw2]; simp)]), hB5⟩
            · by_cases h0 : 0 < v.items.length
              · by_cases hp0 : p.kind = 0
                · have HR2 := Lib.hid (show r = TT.weighAll m (41 + vs.length + ws.length + 0) l by rw [HRES.out, if_neg (by rw [TT.great, ← HV1.out, ← HV2.out, ← HV3.out]; simp [hw1, hw2]), TT.own, if_pos h0, if_pos hp0])
                  as_aux_lemma =>
                    have hdd1 : decide (200 < (ws.length : Int)) = false := decide_eq_false (by omega)
                    have hdd2 : decide (200 < (vs.length : Int)) = false := decide_eq_false (by omega)
                    skip
                    go_wp2_with fail
                    go_loopw [5, 6] (fun x y wr => ∃ (u : Int) (i : Nat), x = .int .i64 u ∧ y = .int .i64 i ∧ i ≤ l.length ∧ 1 ≤ u ∧ u ≤ m + 461 ∧ TT.weighAll m (41 + vs.length + ws.length + 0) l = TT.weighAll m u (l.drop i) ∧ Below w5.heap.size w5 wr) (fun _ y _ => l.length - (intOf y).toNat)
                    case atStart => exact ⟨_, 0, rfl, rfl, by omega, by omega, by omega, by simp, Below.refl _ _⟩
                    case round =>
                      obtain ⟨u, i, rfl, rfl, hi, hp1, hpm, hw, hB⟩ := hrel
                      have HW := Lib.hid hw; clear hw
                      have f14 := cell_stays hB q14
                      by_cases hlt : i < l.length
                      · by_cases hlm : u < m
                        · obtain ⟨b, o, rfl, X, hcl, hx⟩ := (hr.below hB).get i hlt
                          obtain ⟨d0, d1, d2, d3, d4, d5, d6, d7, d8, d9, d10, d11, d12, d13, d14⟩ := hcl
                          have hwb := TT.weigh_bd (m - u) (by omega) l[i]
                          go_wp2_with fail
                          refine (IH.out l[i] _ (m - u) _ (by omega) ⟨X, rfl, hx⟩ (by omega) (by omega)).mono ?_
                          rintro e w6 ⟨rfl, hb3⟩
                          have hB3 := hB.trans (hb3.mono hB.size)
                          clear hB hb3 hx d0 d1 d2 d3 d4 d5 d6 d7 d8 d9 d10 d11 d12 d13 d14 f14
                          go_wp2_with fail
                          go_roundw
                          case rel => exact ⟨u + TT.weigh (m - u) l[i], i + 1, rfl, by go_num, by omega, by omega, by omega, by rw [HW.out, drop_cons hlt, TT.weighAll, if_pos hlm], hB3⟩
                          case measure => simp [intOf]; omega
                        · go_wp2_with fail
                          go_ret
                          exact ⟨ret_int (by rw [HR2.out, HW.out, drop_cons hlt, TT.weighAll, if_neg (by omega)]), hB5.trans (hB.mono hB5.size)⟩
                      · go_wp2_with fail
                        go_ret
                        exact ⟨ret_int (by rw [HR2.out, HW.out, drop_nil hlt, TT.weighAll]), hB5.trans (hB.mono hB5.size)⟩
                · have HR2 := Lib.hid (show r = TT.weighAll m (41 + vs.length + ws.length + 20) l by rw [HRES.out, if_neg (by rw [TT.great, ← HV1.out, ← HV2.out, ← HV3.out]; simp [hw1, hw2]), TT.own, if_pos h0, if_neg hp0])
                  as_aux_lemma =>
                    have hdd1 : decide (200 < (ws.length : Int)) = false := decide_eq_false (by omega)
                    have hdd2 : decide (200 < (vs.length : Int)) = false := decide_eq_false (by omega)
                    have hpd : decide (p.kind = 0) = false := decide_eq_false hp0
                    have hpd1 : (!decide (p.kind = 0)) = true := by simp [hp0]
                    have hpd2 : decide (¬ p.kind = 0) = true := decide_eq_true hp0
                    have hpd3 : (p.kind == 0) = false := by simp [hp0]
                    have hpd4 : (p.kind != 0) = true := by simp [hp0]
                    go_wp2_with fail
                    go_loopw [5, 6] (fun x y wr => ∃ (u : Int) (i : Nat), x = .int .i64 u ∧ y = .int .i64 i ∧ i ≤ l.length ∧ 1 ≤ u ∧ u ≤ m + 461 ∧ TT.weighAll m (41 + vs.length + ws.length + 20) l = TT.weighAll m u (l.drop i) ∧ Below w5.heap.size w5 wr) (fun _ y _ => l.length - (intOf y).toNat)
                    case atStart => exact ⟨_, 0, rfl, rfl, by omega, by omega, by omega, by simp, Below.refl _ _⟩
                    case round =>
                      obtain ⟨u, i, rfl, rfl, hi, hp1, hpm, hw, hB⟩ := hrel
                      have HW := Lib.hid hw; clear hw
                      have f14 := cell_stays hB q14
                      by_cases hlt : i < l.length
                      · by_cases hlm : u < m
                        · obtain ⟨b, o, rfl, X, hcl, hx⟩ := (hr.below hB).get i hlt
                          obtain ⟨d0, d1, d2, d3, d4, d5, d6, d7, d8, d9, d10, d11, d12, d13, d14⟩ := hcl
                          have hwb := TT.weigh_bd (m - u) (by omega) l[i]
                          go_wp2_with fail
                          refine (IH.out l[i] _ (m - u) _ (by omega) ⟨X, rfl, hx⟩ (by omega) (by omega)).mono ?_
                          rintro e w6 ⟨rfl, hb3⟩
                          have hB3 := hB.trans (hb3.mono hB.size)
                          clear hB hb3 hx d0 d1 d2 d3 d4 d5 d6 d7 d8 d9 d10 d11 d12 d13 d14 f14
                          go_wp2_with fail
                          go_roundw
                          case rel => exact ⟨u + TT.weigh (m - u) l[i], i + 1, rfl, by go_num, by omega, by omega, by omega, by rw [HW.out, drop_cons hlt, TT.weighAll, if_pos hlm], hB3⟩
                          case measure => simp [intOf]; omega
                        · go_wp2_with fail
                          go_ret
                          exact ⟨ret_int (by rw [HR2.out, HW.out, drop_cons hlt, TT.weighAll, if_neg (by omega)]), hB5.trans (hB.mono hB5.size)⟩
                      · go_wp2_with fail
                        go_ret
                        exact ⟨ret_int (by rw [HR2.out, HW.out, drop_nil hlt, TT.weighAll]), hB5.trans (hB.mono hB5.size)⟩
              · by_cases hp0 : p.kind = 0
                · have HR2 := Lib.hid (show r = TT.weighAll m (1 + vs.length + ws.length + 0) l by rw [HRES.out, if_neg (by rw [TT.great, ← HV1.out, ← HV2.out, ← HV3.out]; simp [hw1, hw2]), TT.own, if_neg h0, if_pos hp0])
                  as_aux_lemma =>
                    have hdd1 : decide (200 < (ws.length : Int)) = false := decide_eq_false (by omega)
                    have hdd2 : decide (200 < (vs.length : Int)) = false := decide_eq_false (by omega)
                    skip
                    go_wp2_with fail
                    go_loopw [5, 6] (fun x y wr => ∃ (u : Int) (i : Nat), x = .int .i64 u ∧ y = .int .i64 i ∧ i ≤ l.length ∧ 1 ≤ u ∧ u ≤ m + 461 ∧ TT.weighAll m (1 + vs.length + ws.length + 0) l = TT.weighAll m u (l.drop i) ∧ Below w5.heap.size w5 wr) (fun _ y _ => l.length - (intOf y).toNat)
                    case atStart => exact ⟨_, 0, rfl, rfl, by omega, by omega, by omega, by simp, Below.refl _ _⟩
                    case round =>
                      obtain ⟨u, i, rfl, rfl, hi, hp1, hpm, hw, hB⟩ := hrel
                      have HW := Lib.hid hw; clear hw
                      have f14 := cell_stays hB q14
                      by_cases hlt : i < l.length
                      · by_cases hlm : u < m
                        · obtain ⟨b, o, rfl, X, hcl, hx⟩ := (hr.below hB).get i hlt
                          obtain ⟨d0, d1, d2, d3, d4, d5, d6, d7, d8, d9, d10, d11, d12, d13, d14⟩ := hcl
                          have hwb := TT.weigh_bd (m - u) (by omega) l[i]
                          go_wp2_with fail
                          refine (IH.out l[i] _ (m - u) _ (by omega) ⟨X, rfl, hx⟩ (by omega) (by omega)).mono ?_
                          rintro e w6 ⟨rfl, hb3⟩
                          have hB3 := hB.trans (hb3.mono hB.size)
                          clear hB hb3 hx d0 d1 d2 d3 d4 d5 d6 d7 d8 d9 d10 d11 d12 d13 d14 f14
                          go_wp2_with fail
                          go_roundw
                          case rel => exact ⟨u + TT.weigh (m - u) l[i], i + 1, rfl, by go_num, by omega, by omega, by omega, by rw [HW.out, drop_cons hlt, TT.weighAll, if_pos hlm], hB3⟩
                          case measure => simp [intOf]; omega
                        · go_wp2_with fail
                          go_ret
                          exact ⟨ret_int (by rw [HR2.out, HW.out, drop_cons hlt, TT.weighAll, if_neg (by omega)]), hB5.trans (hB.mono hB5.size)⟩
                      · go_wp2_with fail
                        go_ret
                        exact ⟨ret_int (by rw [HR2.out, HW.out, drop_nil hlt, TT.weighAll]), hB5.trans (hB.mono hB5.size)⟩
                · have HR2 := Lib.hid (show r = TT.weighAll m (1 + vs.length + ws.length + 20) l by rw [HRES.out, if_neg (by rw [TT.great, ← HV1.out, ← HV2.out, ← HV3.out]; simp [hw1, hw2]), TT.own, if_neg h0, if_neg hp0])
                  as_aux_lemma =>
                    have hdd1 : decide (200 < (ws.length : Int)) = false := decide_eq_false (by omega)
                    have hdd2 : decide (200 < (vs.length : Int)) = false := decide_eq_false (by omega)
                    have hpd : decide (p.kind = 0) = false := decide_eq_false hp0
                    have hpd1 : (!decide (p.kind = 0)) = true := by simp [hp0]
                    have hpd2 : decide (¬ p.kind = 0) = true := decide_eq_true hp0
                    have hpd3 : (p.kind == 0) = false := by simp [hp0]
                    have hpd4 : (p.kind != 0) = true := by simp [hp0]
                    go_wp2_with fail
                    go_loopw [5, 6] (fun x y wr => ∃ (u : Int) (i : Nat), x = .int .i64 u ∧ y = .int .i64 i ∧ i ≤ l.length ∧ 1 ≤ u ∧ u ≤ m + 461 ∧ TT.weighAll m (1 + vs.length + ws.length + 20) l = TT.weighAll m u (l.drop i) ∧ Below w5.heap.size w5 wr) (fun _ y _ => l.length - (intOf y).toNat)
                    case atStart => exact ⟨_, 0, rfl, rfl, by omega, by omega, by omega, by simp, Below.refl _ _⟩
                    case round =>
                      obtain ⟨u, i, rfl, rfl, hi, hp1, hpm, hw, hB⟩ := hrel
                      have HW := Lib.hid hw; clear hw
                      have f14 := cell_stays hB q14
                      by_cases hlt : i < l.length
                      · by_cases hlm : u < m
                        · obtain ⟨b, o, rfl, X, hcl, hx⟩ := (hr.below hB).get i hlt
                          obtain ⟨d0, d1, d2, d3, d4, d5, d6, d7, d8, d9, d10, d11, d12, d13, d14⟩ := hcl
                          have hwb := TT.weigh_bd (m - u) (by omega) l[i]
                          go_wp2_with fail
                          refine (IH.out l[i] _ (m - u) _ (by omega) ⟨X, rfl, hx⟩ (by omega) (by omega)).mono ?_
                          rintro e w6 ⟨rfl, hb3⟩
                          have hB3 := hB.trans (hb3.mono hB.size)
                          clear hB hb3 hx d0 d1 d2 d3 d4 d5 d6 d7 d8 d9 d10 d11 d12 d13 d14 f14
                          go_wp2_with fail
                          go_roundw
                          case rel => exact ⟨u + TT.weigh (m - u) l[i], i + 1, rfl, by go_num, by omega, by omega, by omega, by rw [HW.out, drop_cons hlt, TT.weighAll, if_pos hlm], hB3⟩
                          case measure => simp [intOf]; omega
                        · go_wp2_with fail
                          go_ret
                          exact ⟨ret_int (by rw [HR2.out, HW.out, drop_cons hlt, TT.weighAll, if_neg (by omega)]), hB5.trans (hB.mono hB5.size)⟩
                      · go_wp2_with fail
                        go_ret
                        exact ⟨ret_int (by rw [HR2.out, HW.out, drop_nil hlt, TT.weighAll]), hB5.trans (hB.mono hB5.size)⟩
        · as_aux_lemma =>
          go_wp2_with fail
          go_ret
          exact ⟨ret_int (by rw [HRES.out, if_pos (by rw [TT.great, ← HV3.out]; simp)]), hB5⟩
      · as_aux_lemma =>
        go_wp2_with fail
        go_ret
        exact ⟨ret_int (by rw [HRES.out, if_pos (by rw [TT.great, ← HV2.out]; simp)]), hB3⟩
    · as_aux_lemma =>
      go_wp2_with fail
      go_ret
      exact ⟨ret_int (by rw [HRES.out, if_pos (by rw [TT.great, ← HV1.out]; simp)]), hB2⟩

set_option maxRecDepth 100000 in
set_option maxHeartbeats 4000000 in
theorem tlong_any (l : List TT) (a : Option Addr) (cap : Nat) (w : World) (hlen : l.length ≤ 651562446070) (hr : TRow w l a) :
    Calls Try.prog 27 #[.slice a l.length cap] w fun e w' => e = .returned (.bool (TT.long l)) ∧ Below w.heap.size w w' := by
  go_enter Try.func27, Try.ntmps27
  go_wp2_with fail
  go_loopw [3, 4] (fun x i wr => ∃ (p : Int) (k : Nat), x = .int .i64 p ∧ i = .int .i64 k ∧ k ≤ l.length ∧ 0 ≤ p ∧ p ≤ 1961 ∧ TT.weighAll 1500 0 l = TT.weighAll 1500 p (l.drop k) ∧ Below w.heap.size w wr) (fun _ i _ => l.length - (intOf i).toNat)
  case atStart => exact ⟨0, 0, rfl, rfl, by omega, by omega, by omega, by simp, Below.refl _ _⟩
  case round =>
    obtain ⟨p, i, rfl, rfl, hi, hp1, hpm, hw, hB⟩ := hrel
    have HW := Lib.hid hw; clear hw
    by_cases hlt : i < l.length
    · by_cases hlm : p < 1500
      · obtain ⟨b, o, rfl, X, hcl, hx⟩ := (hr.below hB).get i hlt
        obtain ⟨d0, d1, d2, d3, d4, d5, d6, d7, d8, d9, d10, d11, d12, d13, d14⟩ := hcl
        have hwb := TT.weigh_bd (1500 - p) (by omega) l[i]
        go_wp2_with fail
        refine (tweigh_any (1500 - p).toNat l[i] _ (1500 - p) _ (by omega) ⟨X, rfl, hx⟩ (by omega) (by omega)).mono ?_
        rintro e w3 ⟨rfl, hb3⟩
        have hB3 := hB.trans (hb3.mono hB.size)
        clear hB hb3 hx d0 d1 d2 d3 d4 d5 d6 d7 d8 d9 d10 d11 d12 d13 d14
        go_wp2_with fail
        go_roundw
        case rel => exact ⟨p + TT.weigh (1500 - p) l[i], i + 1, rfl, by go_num, by omega, by omega, by omega, by rw [HW.out, drop_cons hlt, TT.weighAll, if_pos hlm], hB3⟩
        case measure => simp [intOf]; omega
      · go_wp2_with fail
        go_ret
        refine ⟨ret_bool ?_, hB⟩
        unfold TT.long
        rw [HW.out, drop_cons hlt, TT.weighAll, if_neg (by omega), Bool.eq_iff_iff]
        simp
        try omega
    · go_wp2_with fail
      go_ret
      refine ⟨ret_bool ?_, hB⟩
      unfold TT.long
      rw [HW.out, drop_nil hlt, TT.weighAll]
end Go.Proofs.Yteebbffecaeciaa
