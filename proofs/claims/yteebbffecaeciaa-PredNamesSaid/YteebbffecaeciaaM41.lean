/- Texts of this claim laid into one: TRefS. -/
import Derived.Test.YteebbffecaeciaaM26
import Derived.Test.YteebbffecaeciaaM40
import Derived.Test.YteebbffecaeciaaM32
import Derived.Test.YteebbffecaeciaaM28
/- The document's Same. -/
namespace Go.Proofs.Yteebbffecaeciaa
open Go.RowKit

theorem sameAll_len : ∀ {l m : List TT}, l.length ≠ m.length → TT.sameAll l m = false
  | [], [], h => absurd rfl h
  | [], _ :: _, _ => by simp [TT.sameAll]
  | _ :: _, [], _ => by simp [TT.sameAll]
  | a :: l, b :: m, h => by rw [TT.sameAll, sameAll_len (l := l) (m := m) (by simpa using h), Bool.and_false]
theorem wpStill_load15 {ops : Array Oper} {rest : List Oper} {o : Oper} {a : Act} {w : World} {Q : Act → Prop} {t : TT} {A : TA} {B q : Nat} {po : Operand} (g : o.guard = none) (h : o.op = .load 47 po) (e : a.eval po = .pointer (some ⟨B, q, none⟩)) (hc : TCells w B q t A)
    (hk : wpStill Try.prog ops w Q rest (a.put o.dst (t.val A))) : wpStill Try.prog ops w Q (o :: rest) a := by
  refine wpStill_step fun K hK => ?_
  have hw : Region.wanted o (yielded ops a.tmps) = true := by unfold Region.wanted; rw [g]
  rw [if_pos hw]
  unfold Oper.still
  rw [run_load15 hc h e]
  exact ⟨rfl, hK _ hk⟩
set_option maxRecDepth 100000 in
set_option maxHeartbeats 8000000 in
theorem rtsame_any (N : Nat) : ∀ (s t : TT) (x y : Value) (w : World), s.cnt ≤ N → TIn w s x → TIn w t y →
    Calls Try.prog 31 #[x, y] w fun e w' => e = .returned (.bool (TT.same s t)) ∧ Below w.heap.size w w' := by
  induction N with
  | zero => intro s t x y w h; have := TT.cnt_pos s; omega
  | succ N ih =>
    intro s t x y w hcn hx hy
    have IH := Lib.hid ih; clear ih
    obtain ⟨k, v, vs, lo, hi, ws, p, l⟩ := s
    obtain ⟨k', v', vs', lo', hi', ws', p', l'⟩ := t
    obtain ⟨⟨va, vc, sa, sc, wa, wc, qa, qc, pa, pc, aa, ac⟩, rfl, hok⟩ := hx
    obtain ⟨⟨va', vc', sa', sc', wa', wc', qa', qc', pa', pc', aa', ac'⟩, rfl, hok'⟩ := hy
    obtain ⟨⟨hal, hsl, hwl⟩, hv, hs, hw, hp, hr⟩ := hok.parts
    obtain ⟨⟨hal', hsl', hwl'⟩, hv', hs', hw', hp', hr'⟩ := hok'.parts
    simp only [TT.v, TT.vs, TT.ws, TT.p, TT.args] at hal hsl hwl hv hs hw hp hr hal' hsl' hwl' hv' hs' hw' hp' hr'
    simp only [TT.val, TT.kind, TT.v, TT.vs, TT.lo, TT.hi, TT.ws, TT.p, TT.args]
    obtain ⟨w0, hw0, m0, s0, R0, q0, q1, q2, q3, q4, q5, q6, q7, q8, q9, q10, q11, q12, q13, q14⟩ := box15 w (.int .u8 k) (.int .u8 v.kind) (.int .i64 v.num) (.slice va v.items.length vc) (.slice sa vs.length sc) (.int .i64 lo) (.int .i64 hi) (.slice wa ws.length wc)
      (.int .u8 p.kind) (.int .u8 p.val.kind) (.int .i64 p.val.num) (.slice qa p.val.items.length qc) (.int .i64 p.num) (.slice pa p.args.length pc) (.slice aa l.length ac) 47
    obtain ⟨w1, hw1, m1, s1, R1, u0, u1, u2, u3, u4, u5, u6, u7, u8, u9, u10, u11, u12, u13, u14⟩ := box15 w0 (.int .u8 k') (.int .u8 v'.kind) (.int .i64 v'.num) (.slice va' v'.items.length vc') (.slice sa' vs'.length sc') (.int .i64 lo') (.int .i64 hi') (.slice wa' ws'.length wc')
      (.int .u8 p'.kind) (.int .u8 p'.val.kind) (.int .i64 p'.val.num) (.slice qa' p'.val.items.length qc') (.int .i64 p'.num) (.slice pa' p'.args.length pc') (.slice aa' l'.length ac') 47
    have q0 := cell_stays m1 q0
    have q1 := cell_stays m1 q1
    have q2 := cell_stays m1 q2
    have q3 := cell_stays m1 q3
    have q4 := cell_stays m1 q4
    have q5 := cell_stays m1 q5
    have q6 := cell_stays m1 q6
    have q7 := cell_stays m1 q7
    have q8 := cell_stays m1 q8
    have q9 := cell_stays m1 q9
    have q10 := cell_stays m1 q10
    have q11 := cell_stays m1 q11
    have q12 := cell_stays m1 q12
    have q13 := cell_stays m1 q13
    have q14 := cell_stays m1 q14
    have hB1 : Below w.heap.size w w1 := m0.trans (m1.mono (Nat.le_of_lt s0))
    have hv1 := hv.below hB1
    have hv1' := hv'.below hB1
    have hs1 := hs.below hB1
    have hs1' := hs'.below hB1
    have hw1' := hw.below hB1
    have hw1'' := hw'.below hB1
    have hp1 := hp.below hB1
    have hp1' := hp'.below hB1
    have hr1 := hr.below hB1
    have hr1' := hr'.below hB1
    have HS := Lib.hid (show TT.same (.mk k v vs lo hi ws p l) (.mk k' v' vs' lo' hi' ws' p' l') = (k == k' && lo == lo' && hi == hi' && VT.same v v' && VT.sameAll vs vs' && ws == ws' && PT.same p p' && TT.sameAll l l') by rw [TT.same])
    have hcs : ∀ i (h : i < l.length), l[i].cnt ≤ N := fun i h => by have := TT.cnts_get h; rw [TT.cnt] at hcn; omega
    have HCS := Lib.hid hcs
    clear hok hok' hv hv' hs hs' hw hw' hp hp' hr hr' R0 R1 m0 m1 hcs hcn
    cases h1 : (k == k')
    · have H1 := Lib.hid h1
      have b1 : (k != k') = true := by simp only [bne, h1, Bool.not_false]
      go_enter Try.func31, Try.ntmps31
      go_wp2_with fail
      go_ret
      exact ⟨ret_bool (by rw [HS.out, H1.out]; simp), hB1⟩
    have n1 : (k != k') = false := by simp only [bne, h1, Bool.not_true]
    cases h2 : (lo == lo')
    · have H2 := Lib.hid h2
      have b2 : (lo != lo') = true := by simp only [bne, h2, Bool.not_false]
      go_enter Try.func31, Try.ntmps31
      go_wp2_with fail
      go_ret
      exact ⟨ret_bool (by rw [HS.out, H2.out]; simp), hB1⟩
    have n2 : (lo != lo') = false := by simp only [bne, h2, Bool.not_true]
    cases h3 : (hi == hi')
    · have H3 := Lib.hid h3
      have b3 : (hi != hi') = true := by simp only [bne, h3, Bool.not_false]
      go_enter Try.func31, Try.ntmps31
      go_wp2_with fail
      go_ret
      exact ⟨ret_bool (by rw [HS.out, H3.out]; simp), hB1⟩
    have HS2 := Lib.hid (show TT.same (.mk k v vs lo hi ws p l) (.mk k' v' vs' lo' hi' ws' p' l') = (VT.same v v' && VT.sameAll vs vs' && PT.same p p' && ws == ws' && TT.sameAll l l') by
      rw [HS.out, h1, h2, h3]
      cases VT.same v v' <;> cases VT.sameAll vs vs' <;> cases (ws == ws') <;> cases PT.same p p' <;> rfl)
    clear HS
    obtain ⟨z1, hz1⟩ : ∃ z, z = VT.same v v' := ⟨_, rfl⟩
    obtain ⟨z2, hz2⟩ : ∃ z, z = VT.sameAll vs vs' := ⟨_, rfl⟩
    obtain ⟨z3, hz3⟩ : ∃ z, z = PT.same p p' := ⟨_, rfl⟩
    rw [← hz1, ← hz2, ← hz3] at HS2
    have Z1 := Lib.hid hz1; have Z2 := Lib.hid hz2; have Z3 := Lib.hid hz3
    have HK1 : (k != k') = false := by simp only [bne, h1, Bool.not_true]
    have HK2 : (lo != lo') = false := by simp only [bne, h2, Bool.not_true]
    have HK3 : (hi != hi') = false := by simp only [bne, h3, Bool.not_true]
    clear hz1 hz2 hz3
    go_enter Try.func31, Try.ntmps31
    go_wp2_with fail
    refine (rsame_any _ _ _ _ _ _ (Nat.le_refl _) hv1 hv1').mono ?_
    rintro e w2 ⟨rfl, hb2⟩
    rw [← Z1.out]
    replace q4 := cell_stays hb2 q4; replace u4 := cell_stays hb2 u4
    replace q7 := cell_stays hb2 q7; replace u7 := cell_stays hb2 u7
    replace q8 := cell_stays hb2 q8; replace u8 := cell_stays hb2 u8
    replace q9 := cell_stays hb2 q9; replace u9 := cell_stays hb2 u9
    replace q10 := cell_stays hb2 q10; replace u10 := cell_stays hb2 u10
    replace q11 := cell_stays hb2 q11; replace u11 := cell_stays hb2 u11
    replace q12 := cell_stays hb2 q12; replace u12 := cell_stays hb2 u12
    replace q13 := cell_stays hb2 q13; replace u13 := cell_stays hb2 u13
    replace q14 := cell_stays hb2 q14; replace u14 := cell_stays hb2 u14
    replace hs1 := hs1.below hb2; replace hs1' := hs1'.below hb2; replace hw1' := hw1'.below hb2; replace hw1'' := hw1''.below hb2; replace hp1 := hp1.below hb2; replace hp1' := hp1'.below hb2; replace hr1 := hr1.below hb2; replace hr1' := hr1'.below hb2
    replace hB1 := hB1.trans (hb2.mono hB1.size)
    clear hb2
    clear hv1 hv1' q0 q1 q2 q3 q5 q6 u0 u1 u2 u3 u5 u6
    cases z1
    · go_wp2_with fail
      go_ret
      exact ⟨ret_bool (by rw [HS2.out]; simp), hB1⟩
    go_wp2_with fail
    refine (rsameAll_any vs vs' sa sa' sc sc' _ hsl hsl' hs1 hs1').mono ?_
    rintro e w3 ⟨rfl, hb3⟩
    rw [← Z2.out]
    replace q4 := cell_stays hb3 q4; replace u4 := cell_stays hb3 u4
    replace q7 := cell_stays hb3 q7; replace u7 := cell_stays hb3 u7
    replace q8 := cell_stays hb3 q8; replace u8 := cell_stays hb3 u8
    replace q9 := cell_stays hb3 q9; replace u9 := cell_stays hb3 u9
    replace q10 := cell_stays hb3 q10; replace u10 := cell_stays hb3 u10
    replace q11 := cell_stays hb3 q11; replace u11 := cell_stays hb3 u11
    replace q12 := cell_stays hb3 q12; replace u12 := cell_stays hb3 u12
    replace q13 := cell_stays hb3 q13; replace u13 := cell_stays hb3 u13
    replace q14 := cell_stays hb3 q14; replace u14 := cell_stays hb3 u14
    replace hs1 := hs1.below hb3; replace hs1' := hs1'.below hb3; replace hw1' := hw1'.below hb3; replace hw1'' := hw1''.below hb3; replace hp1 := hp1.below hb3; replace hp1' := hp1'.below hb3; replace hr1 := hr1.below hb3; replace hr1' := hr1'.below hb3
    replace hB1 := hB1.trans (hb3.mono hB1.size)
    clear hb3
    cases z2
    · go_wp2_with fail
      go_ret
      exact ⟨ret_bool (by rw [HS2.out]; simp), hB1⟩
    go_wp2_with fail
    refine (rpsame_any _ _ _ _ _ _ (Nat.le_refl _) hp1 hp1').mono ?_
    rintro e w4 ⟨rfl, hb4⟩
    rw [← Z3.out]
    replace q4 := cell_stays hb4 q4; replace u4 := cell_stays hb4 u4
    replace q7 := cell_stays hb4 q7; replace u7 := cell_stays hb4 u7
    replace q8 := cell_stays hb4 q8; replace u8 := cell_stays hb4 u8
    replace q9 := cell_stays hb4 q9; replace u9 := cell_stays hb4 u9
    replace q10 := cell_stays hb4 q10; replace u10 := cell_stays hb4 u10
    replace q11 := cell_stays hb4 q11; replace u11 := cell_stays hb4 u11
    replace q12 := cell_stays hb4 q12; replace u12 := cell_stays hb4 u12
    replace q13 := cell_stays hb4 q13; replace u13 := cell_stays hb4 u13
    replace q14 := cell_stays hb4 q14; replace u14 := cell_stays hb4 u14
    replace hs1 := hs1.below hb4; replace hs1' := hs1'.below hb4; replace hw1' := hw1'.below hb4; replace hw1'' := hw1''.below hb4; replace hp1 := hp1.below hb4; replace hp1' := hp1'.below hb4; replace hr1 := hr1.below hb4; replace hr1' := hr1'.below hb4
    replace hB1 := hB1.trans (hb4.mono hB1.size)
    clear hb4
    cases z3
    · go_wp2_with fail
      go_ret
      exact ⟨ret_bool (by rw [HS2.out]; simp), hB1⟩
    by_cases hwn : ws.length = ws'.length
    · have bw : ((ws.length : Int) != (ws'.length : Int)) = false := by simp [hwn]
      by_cases hln : l.length = l'.length
      · have bl : ((l.length : Int) != (l'.length : Int)) = false := by simp [hln]
        have HWN := Lib.hid hwn; have HLN := Lib.hid hln
        clear hwn hln
        go_wp2_with fail
        rename World => wL
        clear bw bl n1 n2 HK1 HK2 HK3
        go_loopw [5] (fun x wr => ∃ i : Nat, x = .int .i64 i ∧ i ≤ ws.length ∧ (ws == ws') = (ws.drop i == ws'.drop i) ∧ Below wL.heap.size wL wr) (fun x _ => ws.length - (intOf x).toNat)
        case atStart => exact ⟨0, rfl, by omega, by simp, Below.refl _ _⟩
        case round =>
          obtain ⟨i, rfl, hin, hc, hB⟩ := hrel
          have HC := Lib.hid hc; clear hc
          have hb5 := hB
          replace q7 := cell_stays hb5 q7; replace u7 := cell_stays hb5 u7; replace q14 := cell_stays hb5 q14; replace u14 := cell_stays hb5 u14
          replace hw1' := hw1'.below hb5; replace hw1'' := hw1''.below hb5; replace hr1 := hr1.below hb5; replace hr1' := hr1'.below hb5
          replace hB1 := hB1.trans (hb5.mono hB1.size)
          clear hb5
          by_cases hlt : i < ws.length
          · as_aux_lemma =>
            have hlt' : i < ws'.length := by have := HWN.out; omega
            have g1 : decide ((i : Int) < ws.length) = true := decide_eq_true (by omega)
            have g2 : decide (i < ws.length) = true := decide_eq_true hlt
            have g3 : decide ((i : Int) < ws'.length) = true := decide_eq_true (by omega)
            have g4 : decide (i < ws'.length) = true := decide_eq_true hlt'
            obtain ⟨b, o, ea, d0⟩ := hw1'.get i hlt
            obtain ⟨b', o', ea', e0⟩ := hw1''.get i hlt'
            rw [ea] at q7
            rw [ea'] at u7
            have HD := Lib.hid (beq_drop hlt hlt')
            obtain ⟨x, hx⟩ : ∃ x, x = ws[i] := ⟨_, rfl⟩
            obtain ⟨y, hy⟩ : ∃ y, y = ws'[i] := ⟨_, rfl⟩
            rw [← hx] at d0 HD
            rw [← hy] at e0 HD
            clear hx hy ea ea'
            by_cases hxy : x = y
            · have hb2 : (x != y) = false := by simpa using hxy
              have HXY := Lib.hid (show (x == y) = true by simpa using hxy)
              clear hxy
              go_wp2_with fail
              go_region
              go_wp2_with fail
              go_roundw
              case rel => exact ⟨i + 1, by go_num, by omega, by rw [HC.out, HD.out, HXY.out, Bool.true_and], hB.drew⟩
              case measure => simp [intOf]; omega
            · have hb2 : (x != y) = true := by simpa using hxy
              have HXY := Lib.hid (show (x == y) = false by simpa using hxy)
              clear hxy
              go_wp2_with fail
              go_region
              go_wp2_with fail
              refine bodyPost_ret (v := .bool false) (by simp [results, Try.results31, go_sem]) rfl ⟨by rw [HS2.out, HC.out, HD.out, HXY.out]; simp, hB1.drew⟩
          · as_aux_lemma =>
            have g1 : decide ((i : Int) < ws.length) = false := decide_eq_false (by omega)
            have g2 : decide (i < ws.length) = false := decide_eq_false hlt
            have HE : Hid (TT.same (.mk k v vs lo hi ws p l) (.mk k' v' vs' lo' hi' ws' p' l') = TT.sameAll l l') := Lib.hid (by
              have e : (ws == ws') = true := by
                rw [HC.out, List.drop_eq_nil_of_le (by omega), List.drop_eq_nil_of_le (by have := HWN.out; omega)]; rfl
              rw [HS2.out, e]; simp)
            clear HC HS2 hin hlt hB
            go_wp2_with fail
            rename World => wM
            have hb6 := hB1
            go_loopw [6] (fun x wr => ∃ i : Nat, x = .int .i64 i ∧ i ≤ l.length ∧ TT.sameAll l l' = TT.sameAll (l.drop i) (l'.drop i) ∧ Below wM.heap.size wM wr) (fun x _ => l.length - (intOf x).toNat)
            case atStart => exact ⟨0, rfl, by omega, by simp, Below.refl _ _⟩
            case round =>
              obtain ⟨i, rfl, hin, hc, hB⟩ := hrel
              have HC := Lib.hid hc; clear hc
              replace q14 := cell_stays hB q14; replace u14 := cell_stays hB u14
              replace hr1 := hr1.below hB; replace hr1' := hr1'.below hB
              replace hB1 := hB1.trans (hB.mono hB1.size)
              by_cases hlt : i < l.length
              · as_aux_lemma =>
                have hlt' : i < l'.length := by have := HLN.out; omega
                have g1 : decide ((i : Int) < l.length) = true := decide_eq_true (by omega)
                have g2 : decide (i < l.length) = true := decide_eq_true hlt
                have g3 : decide ((i : Int) < l'.length) = true := decide_eq_true (by omega)
                have g4 : decide (i < l'.length) = true := decide_eq_true hlt'
                obtain ⟨b, o, ea, X, hcX, hkX⟩ := hr1.get i hlt
                obtain ⟨b', o', ea', Y, hcY, hkY⟩ := hr1'.get i hlt'
                rw [ea] at q14
                rw [ea'] at u14
                have HCX := Lib.hid (hcX.below (Below.refl _ wr).drew); have HKX := Lib.hid (hkX.below (Below.refl _ wr).drew)
                have HCY := Lib.hid (hcY.below (Below.refl _ wr).drew); have HKY := Lib.hid (hkY.below (Below.refl _ wr).drew)
                have hd := TT.sameAll_drop hlt hlt'
                obtain ⟨r, hr0⟩ : ∃ r, r = TT.same l[i] l'[i] := ⟨_, rfl⟩
                rw [← hr0] at hd
                have HD := Lib.hid hd; have HR := Lib.hid hr0; clear hr0 hd ea ea' hcX hcY hkX hkY
                go_wp2_with fail
                refine region_tail 10 (by kernel_rfl) (by kernel_rfl) ?_
                simp only [List.take_succ_cons, List.take_zero, List.drop_succ_cons, List.drop_zero]
                repeat (first | refine wpStill_load15 (by rfl) (by rfl) (by rfl) HCX.out ?_ | refine wpStill_load15 (by rfl) (by rfl) (by rfl) HCY.out ?_ | still_step)
                refine wpStill_nil ?_
                go_wp2_with fail
                refine (IH.out l[i] l'[i] _ _ _ (HCS.out i hlt) ⟨_, rfl, HKX.out⟩ ⟨_, rfl, HKY.out⟩).mono ?_
                rintro e w3 ⟨rfl, hb3⟩
                rw [← HR.out]
                have hbd := (Below.refl _ wr).drew.trans hb3
                have hB3 := hB.trans (hbd.mono hB.size)
                replace hB1 := hB1.trans (hbd.mono hB1.size)
                clear hB hb3 hbd q14 u14
                cases r
                · go_wp2_with fail
                  go_ret
                  exact ⟨ret_bool (by rw [HE.out, HC.out, HD.out]; simp), hB1⟩
                · go_wp2_with fail
                  go_roundw
                  case rel => exact ⟨i + 1, by go_num, by omega, by rw [HC.out, HD.out, Bool.true_and], hB3⟩
                  case measure => simp [intOf]; omega
              · as_aux_lemma =>
                have g1 : decide ((i : Int) < l.length) = false := decide_eq_false (by omega)
                have g2 : decide (i < l.length) = false := decide_eq_false hlt
                go_wp2_with fail
                go_ret
                exact ⟨ret_bool (by rw [HE.out, HC.out, List.drop_eq_nil_of_le (by omega), List.drop_eq_nil_of_le (by have := HLN.out; omega)]; simp [TT.sameAll]), hB1⟩
      · have bl : ((l.length : Int) != (l'.length : Int)) = true := by simp; omega
        have HE : Hid (TT.sameAll l l' = false) := Lib.hid (sameAll_len hln)
        clear hwn hln
        go_wp2_with fail
        go_ret
        exact ⟨ret_bool (by rw [HS2.out, HE.out]; simp), hB1⟩
    · have bw : ((ws.length : Int) != (ws'.length : Int)) = true := by simp; omega
      have HE : Hid ((ws == ws') = false) := Lib.hid (by rw [beq_eq_false_iff_ne]; exact fun e => hwn (by rw [e]))
      clear hwn
      go_wp2_with fail
      go_ret
      exact ⟨ret_bool (by rw [HS2.out, HE.out]; simp), hB1⟩
end Go.Proofs.Yteebbffecaeciaa
