/- Texts of this claim laid into one: TTermC. -/
import Derived.Test.YteebbffecaeciaaM17
/- (*walk).term: the kinds that go into their arguments. -/
namespace Go.Proofs.Yteebbffecaeciaa
open Go.RowKit


set_option maxRecDepth 100000 in
set_option maxHeartbeats 8000000 in
theorem term_freq (wb : World) (B : Nat) (t : TT) (fs : List (TT × Nat)) (hk : t.kind = 3) (hle0 : frH fs ≤ frB fs) (hd : ∀ (i : Nat) (h : i < t.args.length), TermDoes wb B t.args[i] fs) (hsane : t.sane (!fs.isEmpty) = true) (hln : t.lean = true) : TermDoes wb B t fs := by
  intro w x fp n times hat hx h1 h2 hf
  have hR := TT.right (TT.sane_parts hsane).1
  have hlp := (TT.lean_parts hln).1
  have HF := Lib.hid hf
  clear hf
  obtain ⟨k, v, vs, lo, hi, ws, p, l⟩ := t
  obtain ⟨⟨va, vc, sa, sc, wa, wc, qa, qc, pa, pc, aa, ac⟩, rfl, hok⟩ := hx
  obtain ⟨⟨hal, hsl, hwl⟩, hv, hs, hw, hp, hr⟩ := hok.parts
  simp only [TT.v, TT.vs, TT.ws, TT.p, TT.args] at hal hsl hwl hv hs hw hp hr
  simp only [TT.val, TT.kind, TT.v, TT.vs, TT.lo, TT.hi, TT.ws, TT.p, TT.args]
  obtain ⟨w0, hw0, m0, s0, R0, q0, q1, q2, q3, q4, q5, q6, q7, q8, q9, q10, q11, q12, q13, q14⟩ := box15 w (.int .u8 k) (.int .u8 v.kind) (.int .i64 v.num) (.slice va v.items.length vc) (.slice sa vs.length sc) (.int .i64 lo) (.int .i64 hi) (.slice wa ws.length wc)
    (.int .u8 p.kind) (.int .u8 p.val.kind) (.int .i64 p.val.num) (.slice qa p.val.items.length qc) (.int .i64 p.num) (.slice pa p.args.length pc) (.slice aa l.length ac) 47
  have hat0 := hat.al m0
  have hne : w.heap.size ≠ B := Nat.ne_of_gt hat.row.lt
  clear R0
  simp only [TT.kind] at hk
  subst hk
  rw [TT.bulkA _ _ _ _ _ _ _ _ (by omega), TT.highF _ _ _ _ _ _ _ _ (by omega)]
  have hhl := TT.highs_le l 3 0 _ _ _ (by omega) (TT.sane_parts hsane).2.2 hle0
  clear hv hs hw hp hr hln hsane hR hlp hle0
  by_cases hle : n + times ≤ 4096
  · have HSP := Lib.hid (spend_ok B n times w0 hat0.row hat0.cell hle)
    have hat1 := hat0.spent hle
    have hk1 := (Kp.grow (Nat.le_of_lt hat.row.lt) m0).trans (Kp.set w0 0 (.int .i64 (n + times : Nat)))
    have hx0 : TIn wb (.mk 3 v vs lo hi ws p l) ((TT.mk 3 v vs lo hi ws p l).val ⟨va, vc, sa, sc, wa, wc, qa, qc, pa, pc, aa, ac⟩) := ⟨_, rfl, hok⟩
    simp only [TT.val, TT.kind, TT.v, TT.vs, TT.lo, TT.hi, TT.ws, TT.p, TT.args] at hx0
    have hcall := all_of wb B _ _ fs fp _ (n + times) times hat1 hx0 h1 h2 (HF.out.kp hk1) hd
    simp only [TT.args] at hcall
    have HC := Lib.hid hcall; have HK1 := Lib.hid hk1; have HHL := Lib.hid hhl
    have q0 := (Kp.set w0 0 (.int .i64 (n + times : Nat))).cell hne q0
    have q1 := (Kp.set w0 0 (.int .i64 (n + times : Nat))).cell hne q1
    have q2 := (Kp.set w0 0 (.int .i64 (n + times : Nat))).cell hne q2
    have q3 := (Kp.set w0 0 (.int .i64 (n + times : Nat))).cell hne q3
    have q4 := (Kp.set w0 0 (.int .i64 (n + times : Nat))).cell hne q4
    have q5 := (Kp.set w0 0 (.int .i64 (n + times : Nat))).cell hne q5
    have q6 := (Kp.set w0 0 (.int .i64 (n + times : Nat))).cell hne q6
    have q7 := (Kp.set w0 0 (.int .i64 (n + times : Nat))).cell hne q7
    have q8 := (Kp.set w0 0 (.int .i64 (n + times : Nat))).cell hne q8
    have q9 := (Kp.set w0 0 (.int .i64 (n + times : Nat))).cell hne q9
    have q10 := (Kp.set w0 0 (.int .i64 (n + times : Nat))).cell hne q10
    have q11 := (Kp.set w0 0 (.int .i64 (n + times : Nat))).cell hne q11
    have q12 := (Kp.set w0 0 (.int .i64 (n + times : Nat))).cell hne q12
    have q13 := (Kp.set w0 0 (.int .i64 (n + times : Nat))).cell hne q13
    have q14 := (Kp.set w0 0 (.int .i64 (n + times : Nat))).cell hne q14
    clear hat hat0 hat1 hk1 hx0 hcall hok hd HF hhl
    generalize hW1 : w0.setCell ⟨B, 0, none⟩ (.int .i64 (n + times : Nat)) = w1 at *
    go_enter Try.func104, Try.ntmps104
    go_wp2_with fail
    refine HSP.out.mono ?_
    rintro e w2' ⟨rfl, rfl⟩
    go_wp2_with fail
    refine HC.out.mono ?_
    rintro e w2 hsp
    rcases Spent.after (n := n) (c' := times * (1 + TT.bulks l (frB fs))) HK1.out (by rw [Nat.mul_add, Nat.mul_one]; omega) hsp with ⟨hk2, hr2, ⟨hle2, rfl, hc2⟩ | ⟨hgt, rfl⟩⟩
    · have hhb : TT.highs l (frH fs) ≤ 4096 := by
        have := HHL.out
        have h3 := Nat.mul_le_mul_right (1 + TT.bulks l (frB fs)) h1
        omega
      obtain ⟨hh, hhe⟩ : ∃ hh, hh = TT.highs l (frH fs) := ⟨_, rfl⟩
      have HP : Hid (Spent B w n (times * (1 + TT.bulks l (frB fs))) (TT.highs l (frH fs)) (.returned (.int .i64 hh)) w2) := Lib.hid ⟨hk2, hr2, .inl ⟨hle2, by rw [hhe], hc2⟩⟩
      rw [← hhe] at hhb ⊢
      clear hk2 hr2 hc2 hsp hhe
      go_wp2_with fail
      go_ret
      exact HP.out
    · have HP := Lib.hid (Spent.much (h := TT.highs l (frH fs)) hk2 hr2 hgt)
      clear hk2 hr2 hsp
      go_wp2_with fail
      exact ⟨rfl, HP.out⟩
  · have HSP := Lib.hid (spend_much B n times w0 hat0.row hat0.cell hat0.le (by omega) (by omega))
    have HP := Lib.hid (Spent.much (h := TT.highs l (frH fs)) (c := times * (1 + TT.bulks l (frB fs))) ((Kp.grow (Nat.le_of_lt hat.row.lt) m0).trans (Kp.set w0 0 (.int .i64 (n + times : Nat)))) (hat0.row.set _ _ rfl) (show 4096 < n + times * (1 + TT.bulks l (frB fs)) by have := Nat.mul_le_mul_left times (show 1 ≤ (1 + TT.bulks l (frB fs)) by omega); omega))
    clear hat hat0 hok hd
    generalize hW1 : w0.setCell ⟨B, 0, none⟩ (.int .i64 (n + times : Nat)) = w1 at *
    go_enter Try.func104, Try.ntmps104
    go_wp2_with fail
    refine HSP.out.mono ?_
    rintro e w2' ⟨rfl, rfl⟩
    go_wp2_with fail
    exact ⟨rfl, HP.out⟩
set_option maxRecDepth 100000 in
set_option maxHeartbeats 8000000 in
theorem term_filter (wb : World) (B : Nat) (t : TT) (fs : List (TT × Nat)) (hk : t.kind = 9) (hle0 : frH fs ≤ frB fs) (hd : ∀ (i : Nat) (h : i < t.args.length), TermDoes wb B t.args[i] fs) (hsane : t.sane (!fs.isEmpty) = true) (hln : t.lean = true) : TermDoes wb B t fs := by
  intro w x fp n times hat hx h1 h2 hf
  have hR := TT.right (TT.sane_parts hsane).1
  have hlp := (TT.lean_parts hln).1
  have HF := Lib.hid hf
  clear hf
  obtain ⟨k, v, vs, lo, hi, ws, p, l⟩ := t
  obtain ⟨⟨va, vc, sa, sc, wa, wc, qa, qc, pa, pc, aa, ac⟩, rfl, hok⟩ := hx
  obtain ⟨⟨hal, hsl, hwl⟩, hv, hs, hw, hp, hr⟩ := hok.parts
  simp only [TT.v, TT.vs, TT.ws, TT.p, TT.args] at hal hsl hwl hv hs hw hp hr
  simp only [TT.val, TT.kind, TT.v, TT.vs, TT.lo, TT.hi, TT.ws, TT.p, TT.args]
  obtain ⟨w0, hw0, m0, s0, R0, q0, q1, q2, q3, q4, q5, q6, q7, q8, q9, q10, q11, q12, q13, q14⟩ := box15 w (.int .u8 k) (.int .u8 v.kind) (.int .i64 v.num) (.slice va v.items.length vc) (.slice sa vs.length sc) (.int .i64 lo) (.int .i64 hi) (.slice wa ws.length wc)
    (.int .u8 p.kind) (.int .u8 p.val.kind) (.int .i64 p.val.num) (.slice qa p.val.items.length qc) (.int .i64 p.num) (.slice pa p.args.length pc) (.slice aa l.length ac) 47
  have hat0 := hat.al m0
  have hne : w.heap.size ≠ B := Nat.ne_of_gt hat.row.lt
  clear R0
  simp only [TT.kind] at hk
  subst hk
  rw [TT.bulkA _ _ _ _ _ _ _ _ (by omega), TT.highF _ _ _ _ _ _ _ _ (by omega)]
  have hhl := TT.highs_le l 9 0 _ _ _ (by omega) (TT.sane_parts hsane).2.2 hle0
  clear hv hs hw hp hr hln hsane hR hlp hle0
  by_cases hle : n + times ≤ 4096
  · have HSP := Lib.hid (spend_ok B n times w0 hat0.row hat0.cell hle)
    have hat1 := hat0.spent hle
    have hk1 := (Kp.grow (Nat.le_of_lt hat.row.lt) m0).trans (Kp.set w0 0 (.int .i64 (n + times : Nat)))
    have hx0 : TIn wb (.mk 9 v vs lo hi ws p l) ((TT.mk 9 v vs lo hi ws p l).val ⟨va, vc, sa, sc, wa, wc, qa, qc, pa, pc, aa, ac⟩) := ⟨_, rfl, hok⟩
    simp only [TT.val, TT.kind, TT.v, TT.vs, TT.lo, TT.hi, TT.ws, TT.p, TT.args] at hx0
    have hcall := all_of wb B _ _ fs fp _ (n + times) times hat1 hx0 h1 h2 (HF.out.kp hk1) hd
    simp only [TT.args] at hcall
    have HC := Lib.hid hcall; have HK1 := Lib.hid hk1; have HHL := Lib.hid hhl
    have q0 := (Kp.set w0 0 (.int .i64 (n + times : Nat))).cell hne q0
    have q1 := (Kp.set w0 0 (.int .i64 (n + times : Nat))).cell hne q1
    have q2 := (Kp.set w0 0 (.int .i64 (n + times : Nat))).cell hne q2
    have q3 := (Kp.set w0 0 (.int .i64 (n + times : Nat))).cell hne q3
    have q4 := (Kp.set w0 0 (.int .i64 (n + times : Nat))).cell hne q4
    have q5 := (Kp.set w0 0 (.int .i64 (n + times : Nat))).cell hne q5
    have q6 := (Kp.set w0 0 (.int .i64 (n + times : Nat))).cell hne q6
    have q7 := (Kp.set w0 0 (.int .i64 (n + times : Nat))).cell hne q7
    have q8 := (Kp.set w0 0 (.int .i64 (n + times : Nat))).cell hne q8
    have q9 := (Kp.set w0 0 (.int .i64 (n + times : Nat))).cell hne q9
    have q10 := (Kp.set w0 0 (.int .i64 (n + times : Nat))).cell hne q10
    have q11 := (Kp.set w0 0 (.int .i64 (n + times : Nat))).cell hne q11
    have q12 := (Kp.set w0 0 (.int .i64 (n + times : Nat))).cell hne q12
    have q13 := (Kp.set w0 0 (.int .i64 (n + times : Nat))).cell hne q13
    have q14 := (Kp.set w0 0 (.int .i64 (n + times : Nat))).cell hne q14
    clear hat hat0 hat1 hk1 hx0 hcall hok hd HF hhl
    generalize hW1 : w0.setCell ⟨B, 0, none⟩ (.int .i64 (n + times : Nat)) = w1 at *
    go_enter Try.func104, Try.ntmps104
    go_wp2_with fail
    refine HSP.out.mono ?_
    rintro e w2' ⟨rfl, rfl⟩
    go_wp2_with fail
    refine HC.out.mono ?_
    rintro e w2 hsp
    rcases Spent.after (n := n) (c' := times * (1 + TT.bulks l (frB fs))) HK1.out (by rw [Nat.mul_add, Nat.mul_one]; omega) hsp with ⟨hk2, hr2, ⟨hle2, rfl, hc2⟩ | ⟨hgt, rfl⟩⟩
    · have hhb : TT.highs l (frH fs) ≤ 4096 := by
        have := HHL.out
        have h3 := Nat.mul_le_mul_right (1 + TT.bulks l (frB fs)) h1
        omega
      obtain ⟨hh, hhe⟩ : ∃ hh, hh = TT.highs l (frH fs) := ⟨_, rfl⟩
      have HP : Hid (Spent B w n (times * (1 + TT.bulks l (frB fs))) (TT.highs l (frH fs)) (.returned (.int .i64 hh)) w2) := Lib.hid ⟨hk2, hr2, .inl ⟨hle2, by rw [hhe], hc2⟩⟩
      rw [← hhe] at hhb ⊢
      clear hk2 hr2 hc2 hsp hhe
      go_wp2_with fail
      go_ret
      exact HP.out
    · have HP := Lib.hid (Spent.much (h := TT.highs l (frH fs)) hk2 hr2 hgt)
      clear hk2 hr2 hsp
      go_wp2_with fail
      exact ⟨rfl, HP.out⟩
  · have HSP := Lib.hid (spend_much B n times w0 hat0.row hat0.cell hat0.le (by omega) (by omega))
    have HP := Lib.hid (Spent.much (h := TT.highs l (frH fs)) (c := times * (1 + TT.bulks l (frB fs))) ((Kp.grow (Nat.le_of_lt hat.row.lt) m0).trans (Kp.set w0 0 (.int .i64 (n + times : Nat)))) (hat0.row.set _ _ rfl) (show 4096 < n + times * (1 + TT.bulks l (frB fs)) by have := Nat.mul_le_mul_left times (show 1 ≤ (1 + TT.bulks l (frB fs)) by omega); omega))
    clear hat hat0 hok hd
    generalize hW1 : w0.setCell ⟨B, 0, none⟩ (.int .i64 (n + times : Nat)) = w1 at *
    go_enter Try.func104, Try.ntmps104
    go_wp2_with fail
    refine HSP.out.mono ?_
    rintro e w2' ⟨rfl, rfl⟩
    go_wp2_with fail
    exact ⟨rfl, HP.out⟩
set_option maxRecDepth 100000 in
set_option maxHeartbeats 8000000 in
theorem term_tuple (wb : World) (B : Nat) (t : TT) (fs : List (TT × Nat)) (hk : t.kind = 5) (hle0 : frH fs ≤ frB fs) (hd : ∀ (i : Nat) (h : i < t.args.length), TermDoes wb B t.args[i] fs) (hsane : t.sane (!fs.isEmpty) = true) (hln : t.lean = true) : TermDoes wb B t fs := by
  intro w x fp n times hat hx h1 h2 hf
  have hR := TT.right (TT.sane_parts hsane).1
  have hlp := (TT.lean_parts hln).1
  have HF := Lib.hid hf
  clear hf
  obtain ⟨k, v, vs, lo, hi, ws, p, l⟩ := t
  obtain ⟨⟨va, vc, sa, sc, wa, wc, qa, qc, pa, pc, aa, ac⟩, rfl, hok⟩ := hx
  obtain ⟨⟨hal, hsl, hwl⟩, hv, hs, hw, hp, hr⟩ := hok.parts
  simp only [TT.v, TT.vs, TT.ws, TT.p, TT.args] at hal hsl hwl hv hs hw hp hr
  simp only [TT.val, TT.kind, TT.v, TT.vs, TT.lo, TT.hi, TT.ws, TT.p, TT.args]
  obtain ⟨w0, hw0, m0, s0, R0, q0, q1, q2, q3, q4, q5, q6, q7, q8, q9, q10, q11, q12, q13, q14⟩ := box15 w (.int .u8 k) (.int .u8 v.kind) (.int .i64 v.num) (.slice va v.items.length vc) (.slice sa vs.length sc) (.int .i64 lo) (.int .i64 hi) (.slice wa ws.length wc)
    (.int .u8 p.kind) (.int .u8 p.val.kind) (.int .i64 p.val.num) (.slice qa p.val.items.length qc) (.int .i64 p.num) (.slice pa p.args.length pc) (.slice aa l.length ac) 47
  have hat0 := hat.al m0
  have hne : w.heap.size ≠ B := Nat.ne_of_gt hat.row.lt
  clear R0
  simp only [TT.kind] at hk
  subst hk
  rw [TT.bulkA _ _ _ _ _ _ _ _ (by omega), TT.highA _ _ _ _ _ _ _ _ (by omega)]
  have hhl := TT.highs_le l 5 0 _ _ _ (by omega) (TT.sane_parts hsane).2.2 hle0
  clear hv hs hw hp hr hln hsane hR hlp hle0
  by_cases hle : n + times ≤ 4096
  · have HSP := Lib.hid (spend_ok B n times w0 hat0.row hat0.cell hle)
    have hat1 := hat0.spent hle
    have hk1 := (Kp.grow (Nat.le_of_lt hat.row.lt) m0).trans (Kp.set w0 0 (.int .i64 (n + times : Nat)))
    have hx0 : TIn wb (.mk 5 v vs lo hi ws p l) ((TT.mk 5 v vs lo hi ws p l).val ⟨va, vc, sa, sc, wa, wc, qa, qc, pa, pc, aa, ac⟩) := ⟨_, rfl, hok⟩
    simp only [TT.val, TT.kind, TT.v, TT.vs, TT.lo, TT.hi, TT.ws, TT.p, TT.args] at hx0
    have hcall := all_of wb B _ _ fs fp _ (n + times) times hat1 hx0 h1 h2 (HF.out.kp hk1) hd
    simp only [TT.args] at hcall
    have HC := Lib.hid hcall; have HK1 := Lib.hid hk1; have HHL := Lib.hid hhl
    have q0 := (Kp.set w0 0 (.int .i64 (n + times : Nat))).cell hne q0
    have q1 := (Kp.set w0 0 (.int .i64 (n + times : Nat))).cell hne q1
    have q2 := (Kp.set w0 0 (.int .i64 (n + times : Nat))).cell hne q2
    have q3 := (Kp.set w0 0 (.int .i64 (n + times : Nat))).cell hne q3
    have q4 := (Kp.set w0 0 (.int .i64 (n + times : Nat))).cell hne q4
    have q5 := (Kp.set w0 0 (.int .i64 (n + times : Nat))).cell hne q5
    have q6 := (Kp.set w0 0 (.int .i64 (n + times : Nat))).cell hne q6
    have q7 := (Kp.set w0 0 (.int .i64 (n + times : Nat))).cell hne q7
    have q8 := (Kp.set w0 0 (.int .i64 (n + times : Nat))).cell hne q8
    have q9 := (Kp.set w0 0 (.int .i64 (n + times : Nat))).cell hne q9
    have q10 := (Kp.set w0 0 (.int .i64 (n + times : Nat))).cell hne q10
    have q11 := (Kp.set w0 0 (.int .i64 (n + times : Nat))).cell hne q11
    have q12 := (Kp.set w0 0 (.int .i64 (n + times : Nat))).cell hne q12
    have q13 := (Kp.set w0 0 (.int .i64 (n + times : Nat))).cell hne q13
    have q14 := (Kp.set w0 0 (.int .i64 (n + times : Nat))).cell hne q14
    clear hat hat0 hat1 hk1 hx0 hcall hok hd HF hhl
    generalize hW1 : w0.setCell ⟨B, 0, none⟩ (.int .i64 (n + times : Nat)) = w1 at *
    go_enter Try.func104, Try.ntmps104
    go_wp2_with fail
    refine HSP.out.mono ?_
    rintro e w2' ⟨rfl, rfl⟩
    go_wp2_with fail
    refine HC.out.mono ?_
    rintro e w2 hsp
    rcases Spent.after (n := n) (c' := times * (1 + TT.bulks l (frB fs))) HK1.out (by rw [Nat.mul_add, Nat.mul_one]; omega) hsp with ⟨hk2, hr2, ⟨hle2, rfl, hc2⟩ | ⟨hgt, rfl⟩⟩
    · have hhb : TT.highs l (frH fs) ≤ 4096 := by
        have := HHL.out
        have h3 := Nat.mul_le_mul_right (1 + TT.bulks l (frB fs)) h1
        omega
      obtain ⟨hh, hhe⟩ : ∃ hh, hh = TT.highs l (frH fs) := ⟨_, rfl⟩
      have HP : Hid (Spent B w n (times * (1 + TT.bulks l (frB fs))) (1 + TT.highs l (frH fs)) (.returned (.int .i64 (1 + (hh : Int)))) w2) := Lib.hid ⟨hk2, hr2, .inl ⟨hle2, by rw [hhe, Int.natCast_add]; rfl, hc2⟩⟩
      rw [← hhe] at hhb ⊢
      clear hk2 hr2 hc2 hsp hhe
      go_wp2_with fail
      go_ret
      exact HP.out
    · have HP := Lib.hid (Spent.much (h := 1 + TT.highs l (frH fs)) hk2 hr2 hgt)
      clear hk2 hr2 hsp
      go_wp2_with fail
      exact ⟨rfl, HP.out⟩
  · have HSP := Lib.hid (spend_much B n times w0 hat0.row hat0.cell hat0.le (by omega) (by omega))
    have HP := Lib.hid (Spent.much (h := 1 + TT.highs l (frH fs)) (c := times * (1 + TT.bulks l (frB fs))) ((Kp.grow (Nat.le_of_lt hat.row.lt) m0).trans (Kp.set w0 0 (.int .i64 (n + times : Nat)))) (hat0.row.set _ _ rfl) (show 4096 < n + times * (1 + TT.bulks l (frB fs)) by have := Nat.mul_le_mul_left times (show 1 ≤ (1 + TT.bulks l (frB fs)) by omega); omega))
    clear hat hat0 hok hd
    generalize hW1 : w0.setCell ⟨B, 0, none⟩ (.int .i64 (n + times : Nat)) = w1 at *
    go_enter Try.func104, Try.ntmps104
    go_wp2_with fail
    refine HSP.out.mono ?_
    rintro e w2' ⟨rfl, rfl⟩
    go_wp2_with fail
    exact ⟨rfl, HP.out⟩
set_option maxRecDepth 100000 in
set_option maxHeartbeats 8000000 in
theorem term_shuffle (wb : World) (B : Nat) (t : TT) (fs : List (TT × Nat)) (hk : t.kind = 7) (hle0 : frH fs ≤ frB fs) (hd : ∀ (i : Nat) (h : i < t.args.length), TermDoes wb B t.args[i] fs) (hsane : t.sane (!fs.isEmpty) = true) (hln : t.lean = true) : TermDoes wb B t fs := by
  intro w x fp n times hat hx h1 h2 hf
  have hR := TT.right (TT.sane_parts hsane).1
  have hlp := (TT.lean_parts hln).1
  have HF := Lib.hid hf
  clear hf
  obtain ⟨k, v, vs, lo, hi, ws, p, l⟩ := t
  obtain ⟨⟨va, vc, sa, sc, wa, wc, qa, qc, pa, pc, aa, ac⟩, rfl, hok⟩ := hx
  obtain ⟨⟨hal, hsl, hwl⟩, hv, hs, hw, hp, hr⟩ := hok.parts
  simp only [TT.v, TT.vs, TT.ws, TT.p, TT.args] at hal hsl hwl hv hs hw hp hr
  simp only [TT.val, TT.kind, TT.v, TT.vs, TT.lo, TT.hi, TT.ws, TT.p, TT.args]
  obtain ⟨w0, hw0, m0, s0, R0, q0, q1, q2, q3, q4, q5, q6, q7, q8, q9, q10, q11, q12, q13, q14⟩ := box15 w (.int .u8 k) (.int .u8 v.kind) (.int .i64 v.num) (.slice va v.items.length vc) (.slice sa vs.length sc) (.int .i64 lo) (.int .i64 hi) (.slice wa ws.length wc)
    (.int .u8 p.kind) (.int .u8 p.val.kind) (.int .i64 p.val.num) (.slice qa p.val.items.length qc) (.int .i64 p.num) (.slice pa p.args.length pc) (.slice aa l.length ac) 47
  have hat0 := hat.al m0
  have hne : w.heap.size ≠ B := Nat.ne_of_gt hat.row.lt
  clear R0
  simp only [TT.kind] at hk
  subst hk
  rw [TT.bulkA _ _ _ _ _ _ _ _ (by omega), TT.highA _ _ _ _ _ _ _ _ (by omega)]
  have hhl := TT.highs_le l 7 0 _ _ _ (by omega) (TT.sane_parts hsane).2.2 hle0
  clear hv hs hw hp hr hln hsane hR hlp hle0
  by_cases hle : n + times ≤ 4096
  · have HSP := Lib.hid (spend_ok B n times w0 hat0.row hat0.cell hle)
    have hat1 := hat0.spent hle
    have hk1 := (Kp.grow (Nat.le_of_lt hat.row.lt) m0).trans (Kp.set w0 0 (.int .i64 (n + times : Nat)))
    have hx0 : TIn wb (.mk 7 v vs lo hi ws p l) ((TT.mk 7 v vs lo hi ws p l).val ⟨va, vc, sa, sc, wa, wc, qa, qc, pa, pc, aa, ac⟩) := ⟨_, rfl, hok⟩
    simp only [TT.val, TT.kind, TT.v, TT.vs, TT.lo, TT.hi, TT.ws, TT.p, TT.args] at hx0
    have hcall := all_of wb B _ _ fs fp _ (n + times) times hat1 hx0 h1 h2 (HF.out.kp hk1) hd
    simp only [TT.args] at hcall
    have HC := Lib.hid hcall; have HK1 := Lib.hid hk1; have HHL := Lib.hid hhl
    have q0 := (Kp.set w0 0 (.int .i64 (n + times : Nat))).cell hne q0
    have q1 := (Kp.set w0 0 (.int .i64 (n + times : Nat))).cell hne q1
    have q2 := (Kp.set w0 0 (.int .i64 (n + times : Nat))).cell hne q2
    have q3 := (Kp.set w0 0 (.int .i64 (n + times : Nat))).cell hne q3
    have q4 := (Kp.set w0 0 (.int .i64 (n + times : Nat))).cell hne q4
    have q5 := (Kp.set w0 0 (.int .i64 (n + times : Nat))).cell hne q5
    have q6 := (Kp.set w0 0 (.int .i64 (n + times : Nat))).cell hne q6
    have q7 := (Kp.set w0 0 (.int .i64 (n + times : Nat))).cell hne q7
    have q8 := (Kp.set w0 0 (.int .i64 (n + times : Nat))).cell hne q8
    have q9 := (Kp.set w0 0 (.int .i64 (n + times : Nat))).cell hne q9
    have q10 := (Kp.set w0 0 (.int .i64 (n + times : Nat))).cell hne q10
    have q11 := (Kp.set w0 0 (.int .i64 (n + times : Nat))).cell hne q11
    have q12 := (Kp.set w0 0 (.int .i64 (n + times : Nat))).cell hne q12
    have q13 := (Kp.set w0 0 (.int .i64 (n + times : Nat))).cell hne q13
    have q14 := (Kp.set w0 0 (.int .i64 (n + times : Nat))).cell hne q14
    clear hat hat0 hat1 hk1 hx0 hcall hok hd HF hhl
    generalize hW1 : w0.setCell ⟨B, 0, none⟩ (.int .i64 (n + times : Nat)) = w1 at *
    go_enter Try.func104, Try.ntmps104
    go_wp2_with fail
    refine HSP.out.mono ?_
    rintro e w2' ⟨rfl, rfl⟩
    go_wp2_with fail
    refine HC.out.mono ?_
    rintro e w2 hsp
    rcases Spent.after (n := n) (c' := times * (1 + TT.bulks l (frB fs))) HK1.out (by rw [Nat.mul_add, Nat.mul_one]; omega) hsp with ⟨hk2, hr2, ⟨hle2, rfl, hc2⟩ | ⟨hgt, rfl⟩⟩
    · have hhb : TT.highs l (frH fs) ≤ 4096 := by
        have := HHL.out
        have h3 := Nat.mul_le_mul_right (1 + TT.bulks l (frB fs)) h1
        omega
      obtain ⟨hh, hhe⟩ : ∃ hh, hh = TT.highs l (frH fs) := ⟨_, rfl⟩
      have HP : Hid (Spent B w n (times * (1 + TT.bulks l (frB fs))) (1 + TT.highs l (frH fs)) (.returned (.int .i64 (1 + (hh : Int)))) w2) := Lib.hid ⟨hk2, hr2, .inl ⟨hle2, by rw [hhe, Int.natCast_add]; rfl, hc2⟩⟩
      rw [← hhe] at hhb ⊢
      clear hk2 hr2 hc2 hsp hhe
      go_wp2_with fail
      go_ret
      exact HP.out
    · have HP := Lib.hid (Spent.much (h := 1 + TT.highs l (frH fs)) hk2 hr2 hgt)
      clear hk2 hr2 hsp
      go_wp2_with fail
      exact ⟨rfl, HP.out⟩
  · have HSP := Lib.hid (spend_much B n times w0 hat0.row hat0.cell hat0.le (by omega) (by omega))
    have HP := Lib.hid (Spent.much (h := 1 + TT.highs l (frH fs)) (c := times * (1 + TT.bulks l (frB fs))) ((Kp.grow (Nat.le_of_lt hat.row.lt) m0).trans (Kp.set w0 0 (.int .i64 (n + times : Nat)))) (hat0.row.set _ _ rfl) (show 4096 < n + times * (1 + TT.bulks l (frB fs)) by have := Nat.mul_le_mul_left times (show 1 ≤ (1 + TT.bulks l (frB fs)) by omega); omega))
    clear hat hat0 hok hd
    generalize hW1 : w0.setCell ⟨B, 0, none⟩ (.int .i64 (n + times : Nat)) = w1 at *
    go_enter Try.func104, Try.ntmps104
    go_wp2_with fail
    refine HSP.out.mono ?_
    rintro e w2' ⟨rfl, rfl⟩
    go_wp2_with fail
    exact ⟨rfl, HP.out⟩
set_option maxRecDepth 100000 in
set_option maxHeartbeats 8000000 in
theorem term_pick (wb : World) (B : Nat) (t : TT) (fs : List (TT × Nat)) (hk : t.kind = 8) (hle0 : frH fs ≤ frB fs) (hd : ∀ (i : Nat) (h : i < t.args.length), TermDoes wb B t.args[i] fs) (hsane : t.sane (!fs.isEmpty) = true) (hln : t.lean = true) : TermDoes wb B t fs := by
  intro w x fp n times hat hx h1 h2 hf
  have hR := TT.right (TT.sane_parts hsane).1
  have hlp := (TT.lean_parts hln).1
  have HF := Lib.hid hf
  clear hf
  obtain ⟨k, v, vs, lo, hi, ws, p, l⟩ := t
  obtain ⟨⟨va, vc, sa, sc, wa, wc, qa, qc, pa, pc, aa, ac⟩, rfl, hok⟩ := hx
  obtain ⟨⟨hal, hsl, hwl⟩, hv, hs, hw, hp, hr⟩ := hok.parts
  simp only [TT.v, TT.vs, TT.ws, TT.p, TT.args] at hal hsl hwl hv hs hw hp hr
  simp only [TT.val, TT.kind, TT.v, TT.vs, TT.lo, TT.hi, TT.ws, TT.p, TT.args]
  obtain ⟨w0, hw0, m0, s0, R0, q0, q1, q2, q3, q4, q5, q6, q7, q8, q9, q10, q11, q12, q13, q14⟩ := box15 w (.int .u8 k) (.int .u8 v.kind) (.int .i64 v.num) (.slice va v.items.length vc) (.slice sa vs.length sc) (.int .i64 lo) (.int .i64 hi) (.slice wa ws.length wc)
    (.int .u8 p.kind) (.int .u8 p.val.kind) (.int .i64 p.val.num) (.slice qa p.val.items.length qc) (.int .i64 p.num) (.slice pa p.args.length pc) (.slice aa l.length ac) 47
  have hat0 := hat.al m0
  have hne : w.heap.size ≠ B := Nat.ne_of_gt hat.row.lt
  clear R0
  simp only [TT.kind] at hk
  subst hk
  rw [TT.bulkA _ _ _ _ _ _ _ _ (by omega), TT.highA _ _ _ _ _ _ _ _ (by omega)]
  have hhl := TT.highs_le l 8 0 _ _ _ (by omega) (TT.sane_parts hsane).2.2 hle0
  clear hv hs hw hp hr hln hsane hR hlp hle0
  by_cases hle : n + times ≤ 4096
  · have HSP := Lib.hid (spend_ok B n times w0 hat0.row hat0.cell hle)
    have hat1 := hat0.spent hle
    have hk1 := (Kp.grow (Nat.le_of_lt hat.row.lt) m0).trans (Kp.set w0 0 (.int .i64 (n + times : Nat)))
    have hx0 : TIn wb (.mk 8 v vs lo hi ws p l) ((TT.mk 8 v vs lo hi ws p l).val ⟨va, vc, sa, sc, wa, wc, qa, qc, pa, pc, aa, ac⟩) := ⟨_, rfl, hok⟩
    simp only [TT.val, TT.kind, TT.v, TT.vs, TT.lo, TT.hi, TT.ws, TT.p, TT.args] at hx0
    have hcall := all_of wb B _ _ fs fp _ (n + times) times hat1 hx0 h1 h2 (HF.out.kp hk1) hd
    simp only [TT.args] at hcall
    have HC := Lib.hid hcall; have HK1 := Lib.hid hk1; have HHL := Lib.hid hhl
    have q0 := (Kp.set w0 0 (.int .i64 (n + times : Nat))).cell hne q0
    have q1 := (Kp.set w0 0 (.int .i64 (n + times : Nat))).cell hne q1
    have q2 := (Kp.set w0 0 (.int .i64 (n + times : Nat))).cell hne q2
    have q3 := (Kp.set w0 0 (.int .i64 (n + times : Nat))).cell hne q3
    have q4 := (Kp.set w0 0 (.int .i64 (n + times : Nat))).cell hne q4
    have q5 := (Kp.set w0 0 (.int .i64 (n + times : Nat))).cell hne q5
    have q6 := (Kp.set w0 0 (.int .i64 (n + times : Nat))).cell hne q6
    have q7 := (Kp.set w0 0 (.int .i64 (n + times : Nat))).cell hne q7
    have q8 := (Kp.set w0 0 (.int .i64 (n + times : Nat))).cell hne q8
    have q9 := (Kp.set w0 0 (.int .i64 (n + times : Nat))).cell hne q9
    have q10 := (Kp.set w0 0 (.int .i64 (n + times : Nat))).cell hne q10
    have q11 := (Kp.set w0 0 (.int .i64 (n + times : Nat))).cell hne q11
    have q12 := (Kp.set w0 0 (.int .i64 (n + times : Nat))).cell hne q12
    have q13 := (Kp.set w0 0 (.int .i64 (n + times : Nat))).cell hne q13
    have q14 := (Kp.set w0 0 (.int .i64 (n + times : Nat))).cell hne q14
    clear hat hat0 hat1 hk1 hx0 hcall hok hd HF hhl
    generalize hW1 : w0.setCell ⟨B, 0, none⟩ (.int .i64 (n + times : Nat)) = w1 at *
    go_enter Try.func104, Try.ntmps104
    go_wp2_with fail
    refine HSP.out.mono ?_
    rintro e w2' ⟨rfl, rfl⟩
    go_wp2_with fail
    refine HC.out.mono ?_
    rintro e w2 hsp
    rcases Spent.after (n := n) (c' := times * (1 + TT.bulks l (frB fs))) HK1.out (by rw [Nat.mul_add, Nat.mul_one]; omega) hsp with ⟨hk2, hr2, ⟨hle2, rfl, hc2⟩ | ⟨hgt, rfl⟩⟩
    · have hhb : TT.highs l (frH fs) ≤ 4096 := by
        have := HHL.out
        have h3 := Nat.mul_le_mul_right (1 + TT.bulks l (frB fs)) h1
        omega
      obtain ⟨hh, hhe⟩ : ∃ hh, hh = TT.highs l (frH fs) := ⟨_, rfl⟩
      have HP : Hid (Spent B w n (times * (1 + TT.bulks l (frB fs))) (1 + TT.highs l (frH fs)) (.returned (.int .i64 (1 + (hh : Int)))) w2) := Lib.hid ⟨hk2, hr2, .inl ⟨hle2, by rw [hhe, Int.natCast_add]; rfl, hc2⟩⟩
      rw [← hhe] at hhb ⊢
      clear hk2 hr2 hc2 hsp hhe
      go_wp2_with fail
      go_ret
      exact HP.out
    · have HP := Lib.hid (Spent.much (h := 1 + TT.highs l (frH fs)) hk2 hr2 hgt)
      clear hk2 hr2 hsp
      go_wp2_with fail
      exact ⟨rfl, HP.out⟩
  · have HSP := Lib.hid (spend_much B n times w0 hat0.row hat0.cell hat0.le (by omega) (by omega))
    have HP := Lib.hid (Spent.much (h := 1 + TT.highs l (frH fs)) (c := times * (1 + TT.bulks l (frB fs))) ((Kp.grow (Nat.le_of_lt hat.row.lt) m0).trans (Kp.set w0 0 (.int .i64 (n + times : Nat)))) (hat0.row.set _ _ rfl) (show 4096 < n + times * (1 + TT.bulks l (frB fs)) by have := Nat.mul_le_mul_left times (show 1 ≤ (1 + TT.bulks l (frB fs)) by omega); omega))
    clear hat hat0 hok hd
    generalize hW1 : w0.setCell ⟨B, 0, none⟩ (.int .i64 (n + times : Nat)) = w1 at *
    go_enter Try.func104, Try.ntmps104
    go_wp2_with fail
    refine HSP.out.mono ?_
    rintro e w2' ⟨rfl, rfl⟩
    go_wp2_with fail
    exact ⟨rfl, HP.out⟩
end Go.Proofs.Yteebbffecaeciaa
