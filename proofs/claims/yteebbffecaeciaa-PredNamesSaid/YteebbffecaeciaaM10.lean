/- Texts of this claim laid into one: TNodeA. -/
import Derived.Test.YteebbffecaeciaaM08
import Derived.Test.YteebbffecaeciaaM09
/- term.values, weights, ends, arguments. -/
namespace Go.Proofs.Yteebbffecaeciaa
open Go.RowKit


/-! values -/
theorem TT.values1 {v : VT} {vs : List VT} (h : v.check ≠ 0) : TT.values 1 v vs = v.check := by unfold TT.values; rw [if_pos ⟨rfl, h⟩]
theorem TT.values1' {v : VT} {vs : List VT} (h : v.check = 0) : TT.values 1 v vs = if vs.length = 0 then 0 else 3 := by unfold TT.values; rw [if_neg (by simp [h]), if_neg (by simp), if_pos (by omega)]
theorem TT.valuesN {k : Int} {v : VT} {vs : List VT} (hk : k ≠ 1) (h : v.none = false) : TT.values k v vs = 3 := by unfold TT.values; rw [if_neg (by simp [hk]), if_pos ⟨hk, h⟩]
theorem TT.values4 {v : VT} {vs : List VT} (h : v.none = true) : TT.values 4 v vs = VT.checks vs := by unfold TT.values; rw [if_neg (by simp), if_neg (by simp [h]), if_neg (by simp)]
theorem TT.valuesO {k : Int} {v : VT} {vs : List VT} (hk : k ≠ 1) (h4 : k ≠ 4) (h : v.none = true) : TT.values k v vs = if vs.length = 0 then 0 else 3 := by unfold TT.values; rw [if_neg (by simp [hk]), if_neg (by simp [h]), if_pos h4]
theorem unless_len (n : Nat) : unlessI ((n : Int) == 0) = if n = 0 then 0 else 3 := by
  unfold unlessI
  by_cases h : n = 0
  · simp [h]
  · rw [if_neg h, if_neg (by simp; omega)]

set_option maxRecDepth 100000 in
set_option maxHeartbeats 4000000 in
theorem values_any (t : TT) (x : Value) (w : World) (hln : t.lean = true) (hx : TIn w t x) :
    Calls Try.prog 85 #[x] w fun e w' => e = .returned (.int .i64 (TT.values t.kind t.v t.vs)) ∧ Below w.heap.size w w' := by
  have hlp := (TT.lean_parts hln).1
  obtain ⟨k, v, vs, lo, hi, ws, p, l⟩ := t
  obtain ⟨⟨va, vc, sa, sc, wa, wc, qa, qc, pa, pc, aa, ac⟩, rfl, hok⟩ := hx
  obtain ⟨⟨hal, hsl, hwl⟩, hv, hs, hw, hp, hr⟩ := hok.parts
  simp only [TT.v, TT.vs, TT.ws, TT.p, TT.args] at hal hsl hwl hv hs hw hp hr
  simp only [TT.val, TT.kind, TT.v, TT.vs, TT.lo, TT.hi, TT.ws, TT.p, TT.args]
  obtain ⟨w0, hw0, m0, s0, R0, q0, q1, q2, q3, q4, q5, q6, q7, q8, q9, q10, q11, q12, q13, q14⟩ := box15 w (.int .u8 k) (.int .u8 v.kind) (.int .i64 v.num) (.slice va v.items.length vc) (.slice sa vs.length sc) (.int .i64 lo) (.int .i64 hi) (.slice wa ws.length wc)
    (.int .u8 p.kind) (.int .u8 p.val.kind) (.int .i64 p.val.num) (.slice qa p.val.items.length qc) (.int .i64 p.num) (.slice pa p.args.length pc) (.slice aa l.length ac) 47
  have hv0 := hv.below m0
  have hs0 := hs.below m0
  have hw0' := hw.below m0
  have hp0 := hp.below m0
  have hr0 := hr.below m0
  have hB0 := Below.refl w0.heap.size w0
  clear hok hv hs hw hp hr R0
  simp only [TT.v, TT.vs] at hlp
  have HLP := Lib.hid hlp
  clear hlp hln hw0' hp0 hr0
  by_cases hk : k = 1
  · subst hk
    obtain ⟨z, hz⟩ : ∃ z, z = v.check := ⟨_, rfl⟩
    have HZ := Lib.hid hz; clear hz
    go_enter Try.func85, Try.ntmps85
    go_wp2_with fail
    refine (unless_any _ _).mono ?_
    rintro e w' ⟨rfl, rfl⟩
    go_wp2_with fail
    refine (check_any v _ _ HLP.out.1 hv0).mono ?_
    rintro e w1 ⟨rfl, hb1⟩
    rw [← HZ.out]
    have q0 := cell_stays hb1 q0
    have q4 := cell_stays hb1 q4
    by_cases hz0 : z = 0
    · subst hz0
      have HC := Lib.hid (TT.values1' (vs := vs) HZ.out.symm)
      go_wp2_with fail
      refine (unless_any _ _).mono ?_
      rintro e w' ⟨rfl, rfl⟩
      go_wp2_with fail
      go_ret
      exact ⟨ret_int (by rw [HC.out, unless_len]), m0.trans (hb1.mono m0.size)⟩
    · have HC := Lib.hid (TT.values1 (vs := vs) (v := v) (by rw [← HZ.out]; exact hz0))
      have hzb : (z != 0) = true := by simpa using hz0
      clear hz0
      go_wp2_with fail
      go_ret
      exact ⟨ret_int (by rw [HC.out, HZ.out]), m0.trans (hb1.mono m0.size)⟩
  · have hkb : (k == 1) = false := by simpa using hk
    obtain ⟨z, hz⟩ : ∃ z, z = v.none := ⟨_, rfl⟩
    have HZ := Lib.hid hz; have HK := Lib.hid hk
    clear hz hk
    go_enter Try.func85, Try.ntmps85
    go_wp2_with fail
    refine (tnone_any _ _ _ _ _ _).mono ?_
    rintro e w1 ⟨rfl, hb1⟩
    rw [← PT.none_eq, ← HZ.out]
    have q0 := cell_stays hb1 q0
    have q4 := cell_stays hb1 q4
    have hs1 := hs0.below hb1
    go_wp2_with fail
    refine (unless_any _ _).mono ?_
    rintro e w' ⟨rfl, rfl⟩
    cases z
    · have HC := Lib.hid (TT.valuesN (vs := vs) HK.out HZ.out.symm)
      simp only [unlessI]
      go_wp2_with fail
      go_ret
      exact ⟨ret_int (by rw [HC.out]), m0.trans (hb1.mono m0.size)⟩
    · simp only [unlessI]
      by_cases h4 : k = 4
      · subst h4
        have HC4 := Lib.hid (TT.values4 (vs := vs) HZ.out.symm)
        go_wp2_with fail
        go_loopw [36] (fun x wr => ∃ i : Nat, x = .int .i64 i ∧ i ≤ vs.length ∧ VT.checks vs = VT.checks (vs.drop i) ∧ Below w1.heap.size w1 wr) (fun x _ => vs.length - (intOf x).toNat)
        case atStart => exact ⟨0, rfl, by omega, by simp, Below.refl _ _⟩
        case round =>
          obtain ⟨i, rfl, hi, hc, hB⟩ := hrel
          have HC := Lib.hid hc; clear hc
          by_cases hlt : i < vs.length
          · obtain ⟨b, o, rfl, ax, cx, d0, d1, d2, hvi⟩ := (hs1.below hB).got i hlt
            have hsl := VT.sizes_get hlt
            have hsz : vs[i].size ≤ 100000 := by have := HLP.out.2.1; omega
            have hd := VT.checks_drop hlt
            obtain ⟨y, hy⟩ : ∃ y, y = vs[i].check := ⟨_, rfl⟩
            rw [← hy] at hd
            have HD := Lib.hid hd; have HY := Lib.hid hy; have HSZ := Lib.hid hsz
            clear hd hy hsl hsz
            obtain ⟨w3, hw3, m3, s3, r0, r1, r2, _⟩ := box3 wr (.int .u8 vs[i].kind) (.int .i64 vs[i].num) (.slice ax vs[i].items.length cx) 25
            go_wp2_with fail
            refine (check_any vs[i] _ _ HSZ.out (hvi.below m3)).mono ?_
            rintro e w4 ⟨rfl, hb4⟩
            rw [← HY.out]
            have hB4 := hB.trans ((m3.trans (hb4.mono m3.size)).mono hB.size)
            clear hB hb4 m3 d0 d1 d2 hvi r0 r1 r2
            by_cases hy0 : y = 0
            · subst hy0
              go_wp2_with fail
              go_roundw
              case rel => exact ⟨i + 1, by go_num, by omega, by rw [HC.out, HD.out, if_neg (by simp)], hB4⟩
              case measure => simp [intOf]; omega
            · have hyb : (y != 0) = true := by simpa using hy0
              have HY0 := Lib.hid hy0; clear hy0
              go_wp2_with fail
              go_ret
              exact ⟨ret_int (by rw [HC4.out, HC.out, HD.out, if_pos HY0.out]), m0.trans ((hb1.trans (hB4.mono hb1.size)).mono m0.size)⟩
          · go_wp2_with fail
            go_ret
            exact ⟨ret_int (by rw [HC4.out, HC.out, drop_nil hlt, VT.checks]), m0.trans ((hb1.trans (hB.mono hb1.size)).mono m0.size)⟩
      · have h4b : (k != 4) = true := by simpa using h4
        have HC := Lib.hid (TT.valuesO (vs := vs) HK.out h4 HZ.out.symm)
        clear h4
        go_wp2_with fail
        refine (unless_any _ _).mono ?_
        rintro e w' ⟨rfl, rfl⟩
        go_wp2_with fail
        go_ret
        exact ⟨ret_int (by rw [HC.out, unless_len]), m0.trans (hb1.mono m0.size)⟩

/-! weights -/
theorem TT.weights9 {ws : List Int} {p : PT} (h : p.check.2 ≠ 0) : TT.weights 9 ws p = p.check.2 := by unfold TT.weights; rw [if_pos ⟨rfl, h⟩]
theorem TT.weights9' {ws : List Int} {p : PT} (h : p.check.2 = 0) : TT.weights 9 ws p = if ws.length = 0 then 0 else 3 := by unfold TT.weights; rw [if_neg (by simp [h]), if_neg (by simp), if_neg (by omega)]
theorem TT.weightsN {k : Int} {ws : List Int} {p : PT} (hk : k ≠ 9) (h : p.nothing = false) : TT.weights k ws p = 3 := by unfold TT.weights; rw [if_neg (by simp [hk]), if_pos ⟨hk, h⟩]
theorem TT.weightsW {k : Int} {ws : List Int} {p : PT} (hk : k = 3 ∨ k = 4) (h : p.nothing = true) : TT.weights k ws p = TT.wts ws := by unfold TT.weights; rw [if_neg (by omega), if_neg (by simp [h]), if_pos hk]
theorem TT.weightsO {k : Int} {ws : List Int} {p : PT} (hk : k ≠ 9) (h3 : k ≠ 3) (h4 : k ≠ 4) (h : p.nothing = true) : TT.weights k ws p = if ws.length = 0 then 0 else 3 := by unfold TT.weights; rw [if_neg (by simp [hk]), if_neg (by simp [h]), if_neg (by omega)]

set_option maxRecDepth 100000 in
set_option maxHeartbeats 4000000 in
theorem weights_any (t : TT) (x : Value) (w : World) (hln : t.lean = true) (hx : TIn w t x) :
    Calls Try.prog 86 #[x] w fun e w' => e = .returned (.int .i64 (TT.weights t.kind t.ws t.p)) ∧ Below w.heap.size w w' := by
  have hlp := (TT.lean_parts hln).1
  obtain ⟨k, v, vs, lo, hi, ws, p, l⟩ := t
  obtain ⟨⟨va, vc, sa, sc, wa, wc, qa, qc, pa, pc, aa, ac⟩, rfl, hok⟩ := hx
  obtain ⟨⟨hal, hsl, hwl⟩, hv, hs, hw, hp, hr⟩ := hok.parts
  simp only [TT.v, TT.vs, TT.ws, TT.p, TT.args] at hal hsl hwl hv hs hw hp hr
  simp only [TT.val, TT.kind, TT.v, TT.vs, TT.lo, TT.hi, TT.ws, TT.p, TT.args]
  obtain ⟨w0, hw0, m0, s0, R0, q0, q1, q2, q3, q4, q5, q6, q7, q8, q9, q10, q11, q12, q13, q14⟩ := box15 w (.int .u8 k) (.int .u8 v.kind) (.int .i64 v.num) (.slice va v.items.length vc) (.slice sa vs.length sc) (.int .i64 lo) (.int .i64 hi) (.slice wa ws.length wc)
    (.int .u8 p.kind) (.int .u8 p.val.kind) (.int .i64 p.val.num) (.slice qa p.val.items.length qc) (.int .i64 p.num) (.slice pa p.args.length pc) (.slice aa l.length ac) 47
  have hv0 := hv.below m0
  have hs0 := hs.below m0
  have hw0' := hw.below m0
  have hp0 := hp.below m0
  have hr0 := hr.below m0
  have hB0 := Below.refl w0.heap.size w0
  clear hok hv hs hw hp hr R0
  simp only [TT.p] at hlp
  have HLP := Lib.hid hlp
  clear hlp hln hv0 hs0 hr0
  by_cases hk : k = 9
  · subst hk
    obtain ⟨⟨c1, z⟩, hz⟩ : ∃ z, z = p.check := ⟨_, rfl⟩
    have hz2 : p.check.2 = z := by rw [← hz]
    have HZ := Lib.hid hz; have HZ2 := Lib.hid hz2; clear hz hz2
    go_enter Try.func86, Try.ntmps86
    go_wp2_with fail
    refine (pcheck_any p _ _ HLP.out.2.2.2.1 HLP.out.2.2.2.2 hp0).mono ?_
    rintro e w1 ⟨rfl, hb1⟩
    rw [← HZ.out]
    have q0 := cell_stays hb1 q0
    have q7 := cell_stays hb1 q7
    by_cases hz0 : z = 0
    · subst hz0
      have HC := Lib.hid (TT.weights9' (ws := ws) HZ2.out)
      go_wp2_with fail
      refine (unless_any _ _).mono ?_
      rintro e w' ⟨rfl, rfl⟩
      go_wp2_with fail
      go_ret
      exact ⟨ret_int (by rw [HC.out, unless_len]), m0.trans (hb1.mono m0.size)⟩
    · have HC := Lib.hid (TT.weights9 (ws := ws) (p := p) (by rw [HZ2.out]; exact hz0))
      have hzb : (z != 0) = true := by simpa using hz0
      clear hz0
      go_wp2_with fail
      go_ret
      exact ⟨ret_int (by rw [HC.out, HZ2.out]), m0.trans (hb1.mono m0.size)⟩
  · have hkb : (k == 9) = false := by simpa using hk
    obtain ⟨z, hz⟩ : ∃ z, z = p.nothing := ⟨_, rfl⟩
    have HZ := Lib.hid hz; have HK := Lib.hid hk
    clear hz hk
    go_enter Try.func86, Try.ntmps86
    go_wp2_with fail
    refine (nothing_any p _ _ hp0).mono ?_
    rintro e w1 ⟨rfl, hb1⟩
    rw [← HZ.out]
    have q0 := cell_stays hb1 q0
    have q7 := cell_stays hb1 q7
    have hw1 := hw0'.below hb1
    cases z
    · have HC := Lib.hid (TT.weightsN (ws := ws) HK.out HZ.out.symm)
      go_wp2_with fail
      go_ret
      exact ⟨ret_int HC.out.symm, m0.trans (hb1.mono m0.size)⟩
    · by_cases h3 : k = 3
      · have HC := Lib.hid (TT.weightsW (ws := ws) (.inl h3) HZ.out.symm)
        subst h3
        go_wp2_with fail
        refine (freqNew_any ws wa wc _ hw1).mono ?_
        rintro e w2 ⟨tp, rfl, hb2⟩
        go_wp2_with fail
        go_ret
        exact ⟨ret_int HC.out.symm, m0.trans ((hb1.trans (hb2.mono hb1.size)).mono m0.size)⟩
      · by_cases h4 : k = 4
        · have HC := Lib.hid (TT.weightsW (ws := ws) (.inr h4) HZ.out.symm)
          subst h4
          clear h3
          go_wp2_with fail
          refine (freqNew_any ws wa wc _ hw1).mono ?_
          rintro e w2 ⟨tp, rfl, hb2⟩
          go_wp2_with fail
          go_ret
          exact ⟨ret_int HC.out.symm, m0.trans ((hb1.trans (hb2.mono hb1.size)).mono m0.size)⟩
        · have HC := Lib.hid (TT.weightsO (ws := ws) HK.out h3 h4 HZ.out.symm)
          have h3b : (k != 3) = true := by simpa using h3
          have h4b : (k != 4) = true := by simpa using h4
          clear h3 h4
          go_wp2_with fail
          refine (unless_any _ _).mono ?_
          rintro e w' ⟨rfl, rfl⟩
          go_wp2_with fail
          go_ret
          exact ⟨ret_int (by rw [HC.out, unless_len]), m0.trans (hb1.mono m0.size)⟩

/-! ends, arguments -/
theorem within_b (n a b : Int) (c : Bool) (h : (decide (a ≤ n) && decide (n ≤ b)) = c) (w : World) : Calls Try.prog 115 #[.int .i64 n, .int .i64 a, .int .i64 b] w fun e w' => e = .returned (.bool c) ∧ w = w' := by
  subst h; exact within_any n a b w
theorem TT.ends8 (lo hi : Int) (n : Nat) : TT.ends 8 lo hi n = if 0 ≤ lo ∧ lo ≤ n then (if hi = 0 then 0 else 3) else 1 := by simp [TT.ends]
set_option maxRecDepth 100000 in
set_option maxHeartbeats 8000000 in
theorem ends_any (t : TT) (x : Value) (w : World) (hx : TIn w t x) :
    Calls Try.prog 87 #[x] w fun e w' => e = .returned (.int .i64 (TT.ends t.kind t.lo t.hi t.args.length)) ∧ Below w.heap.size w w' := by
  obtain ⟨k, v, vs, lo, hi, ws, p, l⟩ := t
  obtain ⟨⟨va, vc, sa, sc, wa, wc, qa, qc, pa, pc, aa, ac⟩, rfl, hok⟩ := hx
  obtain ⟨⟨hal, hsl, hwl⟩, hv, hs, hw, hp, hr⟩ := hok.parts
  simp only [TT.v, TT.vs, TT.ws, TT.p, TT.args] at hal hsl hwl hv hs hw hp hr
  simp only [TT.val, TT.kind, TT.v, TT.vs, TT.lo, TT.hi, TT.ws, TT.p, TT.args]
  obtain ⟨w0, hw0, m0, s0, R0, q0, q1, q2, q3, q4, q5, q6, q7, q8, q9, q10, q11, q12, q13, q14⟩ := box15 w (.int .u8 k) (.int .u8 v.kind) (.int .i64 v.num) (.slice va v.items.length vc) (.slice sa vs.length sc) (.int .i64 lo) (.int .i64 hi) (.slice wa ws.length wc)
    (.int .u8 p.kind) (.int .u8 p.val.kind) (.int .i64 p.val.num) (.slice qa p.val.items.length qc) (.int .i64 p.num) (.slice pa p.args.length pc) (.slice aa l.length ac) 47
  have hv0 := hv.below m0
  have hs0 := hs.below m0
  have hw0' := hw.below m0
  have hp0 := hp.below m0
  have hr0 := hr.below m0
  have hB0 := Below.refl w0.heap.size w0
  clear hok hv hs hw hp hr R0
  clear hv0 hs0 hw0' hp0 hr0
  have hk : k = 2 ∨ k = 6 ∨ k = 8 ∨ k = 10 ∨ (k ≠ 2 ∧ k ≠ 6 ∧ k ≠ 8 ∧ k ≠ 10) := by omega
  rcases hk with rfl | rfl | rfl | rfl | ⟨h2, h6, h8, h10⟩
  · obtain ⟨c1, h1⟩ : ∃ c, (decide (-1099511627776 ≤ lo) && decide (lo ≤ hi)) = c := ⟨_, rfl⟩
    obtain ⟨c2, h2⟩ : ∃ c, (decide (lo ≤ hi) && decide (hi ≤ 1099511627776)) = c := ⟨_, rfl⟩
    have H1 := Lib.hid h1; have H2 := Lib.hid h2; clear h1 h2
    cases hz : (hi == 0) <;> cases c1 <;> cases c2
    all_goals
      go_enter Try.func87, Try.ntmps87
      go_wp2_with (first | (go_at_call 115; first | ((with_reducible refine (within_b _ _ _ _ H1.out _).mono ?_); rintro e w' ⟨rfl, rfl⟩) | ((with_reducible refine (within_b _ _ _ _ H2.out _).mono ?_); rintro e w' ⟨rfl, rfl⟩)) | (go_at_call 111; refine (unless_any _ _).mono ?_; rintro e w' ⟨rfl, rfl⟩))
      go_ret
      exact ⟨ret_int (by have a := H1.out; have b := H2.out; simp only [Bool.and_eq_true, Bool.and_eq_false_iff, decide_eq_true_eq, decide_eq_false_iff_not] at a b; simp only [TT.ends, unlessI, if_true]; (repeat' split) <;> omega), m0⟩
  · obtain ⟨c1, h1⟩ : ∃ c, (decide (0 ≤ lo) && decide (lo ≤ hi)) = c := ⟨_, rfl⟩
    obtain ⟨c2, h2⟩ : ∃ c, (decide (lo ≤ hi) && decide (hi ≤ 16)) = c := ⟨_, rfl⟩
    have H1 := Lib.hid h1; have H2 := Lib.hid h2; clear h1 h2
    cases hz : (hi == 0) <;> cases c1 <;> cases c2
    all_goals
      go_enter Try.func87, Try.ntmps87
      go_wp2_with (first | (go_at_call 115; first | ((with_reducible refine (within_b _ _ _ _ H1.out _).mono ?_); rintro e w' ⟨rfl, rfl⟩) | ((with_reducible refine (within_b _ _ _ _ H2.out _).mono ?_); rintro e w' ⟨rfl, rfl⟩)) | (go_at_call 111; refine (unless_any _ _).mono ?_; rintro e w' ⟨rfl, rfl⟩))
      go_ret
      exact ⟨ret_int (by have a := H1.out; have b := H2.out; simp only [Bool.and_eq_true, Bool.and_eq_false_iff, decide_eq_true_eq, decide_eq_false_iff_not] at a b; simp only [TT.ends, unlessI, if_true]; (repeat' split) <;> omega), m0⟩
  · obtain ⟨c1, h1⟩ : ∃ c, (decide (0 ≤ lo) && decide (lo ≤ (l.length : Int))) = c := ⟨_, rfl⟩
    have H1 := Lib.hid h1; clear h1
    cases hz : (hi == 0) <;> cases c1
    all_goals
      go_enter Try.func87, Try.ntmps87
      go_wp2_with (first | (go_at_call 115; (with_reducible refine (within_b _ _ _ _ H1.out _).mono ?_); rintro e w' ⟨rfl, rfl⟩) | (go_at_call 111; refine (unless_any _ _).mono ?_; rintro e w' ⟨rfl, rfl⟩))
      go_ret
      exact ⟨ret_int (by have a := H1.out; simp only [Bool.and_eq_true, Bool.and_eq_false_iff, decide_eq_true_eq, decide_eq_false_iff_not] at a; simp at hz; simp [TT.ends8, unlessI, hz] <;> omega), m0⟩
  · obtain ⟨c1, h1⟩ : ∃ c, (decide (0 ≤ lo) && decide (lo ≤ 8)) = c := ⟨_, rfl⟩
    have H1 := Lib.hid h1; clear h1
    cases hz : (hi == 0) <;> cases c1
    all_goals
      go_enter Try.func87, Try.ntmps87
      go_wp2_with (first | (go_at_call 115; (with_reducible refine (within_b _ _ _ _ H1.out _).mono ?_); rintro e w' ⟨rfl, rfl⟩) | (go_at_call 111; refine (unless_any _ _).mono ?_; rintro e w' ⟨rfl, rfl⟩))
      go_ret
      exact ⟨ret_int (by have a := H1.out; simp only [Bool.and_eq_true, Bool.and_eq_false_iff, decide_eq_true_eq, decide_eq_false_iff_not] at a; simp at hz; simp [TT.ends10, unlessI, hz] <;> omega), m0⟩
  · have b2 : (k == 2) = false := by simpa using h2
    have b6 : (k == 6) = false := by simpa using h6
    have b8 : (k == 8) = false := by simpa using h8
    have b10 : (k == 10) = false := by simpa using h10
    have hc : TT.ends k lo hi l.length = if lo = 0 ∧ hi = 0 then 0 else 3 := by unfold TT.ends; rw [if_neg h2, if_neg h6, if_neg h8, if_neg h10]
    have HC := Lib.hid hc
    clear hc h2 h6 h8 h10
    cases h1 : (lo == 0) <;> cases h4 : (hi == 0)
    all_goals
      go_enter Try.func87, Try.ntmps87
      go_wp2_with (go_at_call 111; refine (unless_any _ _).mono ?_; rintro e w' ⟨rfl, rfl⟩)
      go_ret
      exact ⟨ret_int (by rw [HC.out]; simp at h1 h4; simp [unlessI, h1, h4]), m0⟩

set_option maxRecDepth 100000 in
set_option maxHeartbeats 8000000 in
theorem arguments_any (t : TT) (x : Value) (w : World) (hx : TIn w t x) :
    Calls Try.prog 88 #[x] w fun e w' => e = .returned (.int .i64 (TT.argsW t.kind t.vs.length t.ws.length t.args.length)) ∧ Below w.heap.size w w' := by
  obtain ⟨k, v, vs, lo, hi, ws, p, l⟩ := t
  obtain ⟨⟨va, vc, sa, sc, wa, wc, qa, qc, pa, pc, aa, ac⟩, rfl, hok⟩ := hx
  obtain ⟨⟨hal, hsl, hwl⟩, hv, hs, hw, hp, hr⟩ := hok.parts
  simp only [TT.v, TT.vs, TT.ws, TT.p, TT.args] at hal hsl hwl hv hs hw hp hr
  simp only [TT.val, TT.kind, TT.v, TT.vs, TT.lo, TT.hi, TT.ws, TT.p, TT.args]
  obtain ⟨w0, hw0, m0, s0, R0, q0, q1, q2, q3, q4, q5, q6, q7, q8, q9, q10, q11, q12, q13, q14⟩ := box15 w (.int .u8 k) (.int .u8 v.kind) (.int .i64 v.num) (.slice va v.items.length vc) (.slice sa vs.length sc) (.int .i64 lo) (.int .i64 hi) (.slice wa ws.length wc)
    (.int .u8 p.kind) (.int .u8 p.val.kind) (.int .i64 p.val.num) (.slice qa p.val.items.length qc) (.int .i64 p.num) (.slice pa p.args.length pc) (.slice aa l.length ac) 47
  have hv0 := hv.below m0
  have hs0 := hs.below m0
  have hw0' := hw.below m0
  have hp0 := hp.below m0
  have hr0 := hr.below m0
  have hB0 := Below.refl w0.heap.size w0
  clear hok hv hs hw hp hr R0
  clear hv0 hs0 hw0' hp0 hr0
  have hk : k = 3 ∨ k = 5 ∨ k = 7 ∨ k = 8 ∨ k = 6 ∨ k = 9 ∨ k = 10 ∨ k = 4 ∨ (k ≠ 3 ∧ k ≠ 5 ∧ k ≠ 7 ∧ k ≠ 8 ∧ k ≠ 6 ∧ k ≠ 9 ∧ k ≠ 10 ∧ k ≠ 4) := by omega
  rcases hk with rfl | rfl | rfl | rfl | rfl | rfl | rfl | rfl | ⟨h3, h5, h7, h8, h6, h9, h10, h4⟩
  case inr.inr.inr.inr.inr.inr.inr.inl =>
    have hc : TT.argsW 4 vs.length ws.length l.length = if many vs.length ws.length ws.length ≠ 0 then many vs.length ws.length ws.length else many l.length 0 0 := by simp [TT.argsW]
    rw [hc]
    clear hc
    obtain ⟨y, hy⟩ : ∃ y, y = many vs.length ws.length ws.length := ⟨_, rfl⟩
    rw [← hy]
    have HY := Lib.hid hy; clear hy
    go_enter Try.func88, Try.ntmps88
    go_wp2_with fail
    refine (many_any _ _ _ _).mono ?_
    rintro e w' ⟨rfl, rfl⟩
    rw [← HY.out]
    by_cases hy0 : y = 0
    · subst hy0
      go_wp2_with (go_at_call 116; refine (many_any _ _ _ _).mono ?_; rintro e w' ⟨rfl, rfl⟩)
      go_ret
      exact ⟨rfl, m0⟩
    · have hyb : (y != 0) = true := by simpa using hy0
      have HY0 := Lib.hid hy0
      clear hy0
      go_wp2_with fail
      go_ret
      exact ⟨ret_int (by have := HY0.out; simp), m0⟩
  case inr.inr.inr.inr.inr.inr.inr.inr =>
    have b3 : (k == 3) = false := by simpa using h3
    have b5 : (k == 5) = false := by simpa using h5
    have b7 : (k == 7) = false := by simpa using h7
    have b8 : (k == 8) = false := by simpa using h8
    have b6 : (k == 6) = false := by simpa using h6
    have b9 : (k == 9) = false := by simpa using h9
    have b10 : (k == 10) = false := by simpa using h10
    have b4 : (k == 4) = false := by simpa using h4
    have hc : TT.argsW k vs.length ws.length l.length = many l.length 0 0 := by simp [TT.argsW, h3, h5, h7, h8, h6, h9, h10, h4]
    rw [hc]
    clear hc h3 h5 h7 h8 h6 h9 h10 h4
    go_enter Try.func88, Try.ntmps88
    go_wp2_with (go_at_call 116; refine (many_any _ _ _ _).mono ?_; rintro e w' ⟨rfl, rfl⟩)
    go_ret
    exact ⟨rfl, m0⟩
  all_goals
    go_enter Try.func88, Try.ntmps88
    go_wp2_with (go_at_call 116; refine (many_any _ _ _ _).mono ?_; rintro e w' ⟨rfl, rfl⟩)
    go_ret
    exact ⟨ret_int (by simp [TT.argsW]), m0⟩

end Go.Proofs.Yteebbffecaeciaa
