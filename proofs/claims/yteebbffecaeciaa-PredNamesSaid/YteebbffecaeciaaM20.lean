/- Texts of this claim laid into one: TTermD, TTermL, TTerm. -/
import Derived.Test.YteebbffecaeciaaM17
import Derived.Test.YteebbffecaeciaaM18
import Derived.Test.YteebbffecaeciaaM19
/- (*walk).term: an Alias. -/
namespace Go.Proofs.Yteebbffecaeciaa
open Go.RowKit



/-- how far the values of an Alias are counted. -/
def AliasRel (wb : World) (B : Nat) (w1 : World) (vs : List VT) (n times : Nat) (wr : World) (h i : Nat) : Prop :=
  h = VT.deeps (vs.take i) ∧ ∃ m, m = n + times + times * VT.sizes (vs.take i) ∧ At wb B wr m ∧ Kp B w1 wr
set_option maxRecDepth 100000 in
set_option maxHeartbeats 8000000 in
theorem term_alias (wb : World) (B : Nat) (t : TT) (fs : List (TT × Nat)) (hk : t.kind = 4) (hsane : t.sane (!fs.isEmpty) = true) (hln : t.lean = true) : TermDoes wb B t fs := by
  intro w x fp n times hat hx h1 h2 hf
  have hR := TT.right (TT.sane_parts hsane).1
  have hlp := (TT.lean_parts hln).1
  have HF := Lib.hid hf
  clear hf
  obtain ⟨k, v, vs, lo, hi, ws, p, l⟩ := t
  obtain ⟨⟨va, vc, sa, sc, wa, wc, qa, qc, pa, pc, aa, ac⟩, rfl, hok⟩ := hx
  obtain ⟨⟨hal, hsl, hwl⟩, hv, hs, hw, hp, hr⟩ := hok.parts
  simp only [TT.v, TT.vs, TT.ws, TT.p, TT.args] at hal hsl hwl hv hs hw hp hr
  simp only [TT.val, TT.kind, TT.v, TT.vs, TT.lo, TT.hi, TT.ws, TT.p, TT.args]
  obtain ⟨w0, hw0, m0, s0, R0, q0, q1, q2, q3, q4, q5, q6, q7, q8, q9, q10, q11, q12, q13, q14⟩ := box15 w (.int .u8 k) (.int .u8 v.kind) (.int .i64 v.num) (.slice va v.items.length vc) (.slice sa vs.length sc) (.int .i64 lo) (.int .i64 hi) (.slice wa ws.length wc)
    (.int .u8 p.kind) (.int .u8 p.val.kind) (.int .i64 p.val.num) (.slice qa p.val.items.length qc) (.int .i64 p.num) (.slice pa p.args.length pc) (.slice aa l.length ac) 47
  have hat0 := hat.al m0
  have hne : w.heap.size ≠ B := Nat.ne_of_gt hat.row.lt
  clear R0
  simp only [TT.kind] at hk
  subst hk
  rw [TT.bulk4, TT.high4]
  have hal4 := (hR.alias rfl).2.2.2
  simp only [TT.vs] at hal4
  have hvb : VT.sizes vs ≤ 100000 := hlp.2.1
  have HAL := Lib.hid hal4; have HVB := Lib.hid hvb; have HVS := Lib.hid hs
  clear hv hs hw hp hr hok hln hsane hR hlp hal4 hvb
  by_cases hle : n + times ≤ 4096
  · have HSP := Lib.hid (spend_ok B n times w0 hat0.row hat0.cell hle)
    have hat1 := hat0.spent hle
    have hk1 := (Kp.grow (Nat.le_of_lt hat.row.lt) m0).trans (Kp.set w0 0 (.int .i64 (n + times : Nat)))
    have q0 := (Kp.set w0 0 (.int .i64 (n + times : Nat))).cell hne q0
    have q4 := (Kp.set w0 0 (.int .i64 (n + times : Nat))).cell hne q4
    have HAT1 := Lib.hid hat1; have HK1 := Lib.hid hk1
    clear hat hat0 hat1 hk1
    generalize hW1 : w0.setCell ⟨B, 0, none⟩ (.int .i64 (n + times : Nat)) = w1 at *
    go_enter Try.func104, Try.ntmps104
    go_wp2_with fail
    refine HSP.out.mono ?_
    rintro e w2' ⟨rfl, rfl⟩
    go_wp2_with fail
    clear q1 q2 q3 q5 q6 q7 q8 q9 q10 q11 q12 q13 q14 hw0
    go_loopw [9, 65] (fun x y wr => ∃ h i : Nat, x = .int .i64 h ∧ y = .int .i64 i ∧ i ≤ vs.length ∧ AliasRel wb B w1 vs n times wr h i) (fun _ y _ => vs.length - (intOf y).toNat)
    case atStart => exact ⟨0, 0, rfl, rfl, by omega, by simp [VT.deeps], n + times, by simp [VT.sizes], HAT1.out, Kp.refl _ _⟩
    case round =>
      obtain ⟨h, i, rfl, rfl, hi, hh, m, hm, hat, hk⟩ := hrel
      have HH := Lib.hid hh; have HM := Lib.hid hm; have HKR := Lib.hid hk
      clear hh hm hk
      by_cases hlt : i < vs.length
      · obtain ⟨b, o, rfl, ax, cx, d0, d1, d2, hvi⟩ := HVS.out.got i hlt
        have d0 := cell_stays hat.below d0
        have d1 := cell_stays hat.below d1
        have d2 := cell_stays hat.below d2
        have hch := VT.check_zero (VT.checks_get HAL.out hlt)
        have hsz4 := hch.2.2
        have hsz : vs[i].size ≤ 100000 := by omega
        have HUP := Lib.hid (mul_up (times := times) (VT.sizes_upto hlt))
        have HDU := Lib.hid (VT.deeps_upto hlt)
        have HBL := Lib.hid (Nat.mul_le_mul_left times (VT.sizes_upto_le vs (i + 1)))
        have hmul : times * vs[i].size ≤ 65536 * 4096 := Nat.mul_le_mul h2 hsz4
        obtain ⟨w3, hw3, m3, s3, r0, r1, r2, _⟩ := box3 wr (.int .u8 vs[i].kind) (.int .i64 vs[i].num) (.slice ax vs[i].items.length cx) 25
        have hne3 : wr.heap.size ≠ B := Nat.ne_of_gt hat.row.lt
        have hat3 := hat.al m3
        have hk3 := HKR.out.trans (Kp.grow (Nat.le_of_lt hat.row.lt) m3)
        have hv3 := hvi.below hat3.below
        have HVI := Lib.hid hvi; have HAT3 := Lib.hid hat3; have HK3 := Lib.hid hk3; have HSZ := Lib.hid hsz
        clear hat hat3 hk3 hch hsz4 hsz hvi m3
        obtain ⟨sz, hsz'⟩ : ∃ sz, sz = vs[i].size := ⟨_, rfl⟩
        rw [← hsz'] at HUP hmul
        have HS' := Lib.hid hsz'
        clear hsz'
        obtain ⟨c, hc⟩ : ∃ c, c = times * sz := ⟨_, rfl⟩
        have hwr : IntKind.i64.wrap ((times : Int) * (sz : Int)) = (c : Int) := by rw [hc]; exact wrap_mul _ _ (by omega)
        rw [← hc] at HUP hmul
        have HWR := Lib.hid hwr
        clear hc hwr
        go_wp2_with fail
        refine (size_any vs[i] _ _ HSZ.out hv3).mono ?_
        rintro e w4 ⟨rfl, hb4⟩
        rw [← HS'.out]
        have hat4 := HAT3.out.al hb4
        have hk4 := HK3.out.trans (Kp.grow (Nat.le_of_lt HAT3.out.row.lt) hb4)
        have r0 := cell_stays hb4 r0
        have r1 := cell_stays hb4 r1
        have r2 := cell_stays hb4 r2
        have hwr := HWR.out
        clear hv3 hb4 d0 d1 d2
        by_cases hle2 : m + c ≤ 4096
        · have HSP := Lib.hid (spend_ok B m c w4 hat4.row hat4.cell hle2)
          have hat5 := hat4.spent hle2
          have r0 := (Kp.set w4 0 (.int .i64 (m + c : Nat))).cell hne3 r0
          have r1 := (Kp.set w4 0 (.int .i64 (m + c : Nat))).cell hne3 r1
          have r2 := (Kp.set w4 0 (.int .i64 (m + c : Nat))).cell hne3 r2
          have HK5 := Lib.hid (hk4.trans (Kp.set w4 0 (.int .i64 (m + c : Nat))))
          have hv5 := HVI.out.below hat5.below
          have HAT5 := Lib.hid hat5
          clear hat4 hat5 hk4
          generalize hW5 : w4.setCell ⟨B, 0, none⟩ (.int .i64 (m + c : Nat)) = w5 at *
          go_wp2_with fail
          refine HSP.out.mono ?_
          rintro e w5' ⟨rfl, rfl⟩
          clear hwr
          go_wp2_with fail
          refine (vdeep_any vs[i] _ _ HSZ.out hv5).mono ?_
          rintro e w6 ⟨rfl, hb6⟩
          obtain ⟨dd, hdd⟩ : ∃ dd, dd = vs[i].deep := ⟨_, rfl⟩
          rw [← hdd] at HDU ⊢
          have HNE := Lib.hid (show ∀ h', h' = VT.deeps (vs.take (i + 1)) → AliasRel wb B w1 vs n times w6 h' (i + 1) from fun h' e => ⟨e, m + c, by rw [HUP.out, ← Nat.add_assoc, ← HM.out], HAT5.out.al hb6, HK5.out.trans (Kp.grow (Nat.le_of_lt HAT5.out.row.lt) hb6)⟩)
          clear hdd hv5 hb6 r0 r1 r2
          go_wp2_with fail
          all_goals
            go_roundw
            case rel => first | exact ⟨h, i + 1, rfl, by go_num, by omega, HNE.out _ (by rw [HDU.out, ← HH.out]; omega)⟩ | exact ⟨dd, i + 1, rfl, by go_num, by omega, HNE.out _ (by rw [HDU.out, ← HH.out]; omega)⟩ | exact ⟨max h dd, i + 1, by go_num, by go_num, by omega, HNE.out _ (by rw [HDU.out, ← HH.out])⟩
            case measure => simp [intOf]; omega
        · have HSP := Lib.hid (spend_much B m c w4 hat4.row hat4.cell hat4.le (by omega) (by omega))
          have HP := Lib.hid (Spent.much (h := VT.deeps vs) (n := n) (c := times * (1 + VT.sizes vs)) (HK1.out.trans (hk4.trans (Kp.set w4 0 (.int .i64 (m + c : Nat))))) (hat4.row.set _ _ rfl) (by
            have := HUP.out; have := HBL.out; have := HM.out
            rw [Nat.mul_add, Nat.mul_one]; omega))
          clear hat4 hk4
          generalize hW5 : w4.setCell ⟨B, 0, none⟩ (.int .i64 (m + c : Nat)) = w5 at *
          go_wp2_with fail
          refine HSP.out.mono ?_
          rintro e w5' ⟨rfl, rfl⟩
          clear hwr
          go_wp2_with fail
          exact ⟨rfl, HP.out⟩
      · have hii : i = vs.length := by omega
        subst hii
        have n4 : decide ((vs.length : Int) < (vs.length : Int)) = false := by simp
        have hh := HH.out
        have hm := HM.out
        rw [List.take_length] at hh hm
        have hmm : m = n + times * (1 + VT.sizes vs) := by rw [hm, Nat.mul_add, Nat.mul_one]; omega
        have HP : Hid (Spent B w n (times * (1 + VT.sizes vs)) (VT.deeps vs) (.returned (.int .i64 h)) wr) := Lib.hid ⟨HK1.out.trans HKR.out, hat.row, .inl ⟨by rw [← hmm]; exact hat.le, by rw [hh], by rw [← hmm]; exact hat.cell⟩⟩
        clear hh hm hmm hat
        go_wp2_with fail
        go_ret
        exact HP.out
  · have HSP := Lib.hid (spend_much B n times w0 hat0.row hat0.cell hat0.le (by omega) (by omega))
    have HP := Lib.hid (Spent.much (h := VT.deeps vs) (c := times * (1 + VT.sizes vs)) ((Kp.grow (Nat.le_of_lt hat.row.lt) m0).trans (Kp.set w0 0 (.int .i64 (n + times : Nat)))) (hat0.row.set _ _ rfl) (show 4096 < n + times * (1 + VT.sizes vs) by have := Nat.mul_le_mul_left times (show 1 ≤ (1 + VT.sizes vs) by omega); omega))
    clear hat hat0
    generalize hW1 : w0.setCell ⟨B, 0, none⟩ (.int .i64 (n + times : Nat)) = w1 at *
    go_enter Try.func104, Try.ntmps104
    go_wp2_with fail
    refine HSP.out.mono ?_
    rintro e w2' ⟨rfl, rfl⟩
    go_wp2_with fail
    exact ⟨rfl, HP.out⟩
end Go.Proofs.Yteebbffecaeciaa
/- (*walk).term: a List, an Alias. -/
namespace Go.Proofs.Yteebbffecaeciaa
open Go.RowKit


theorem times_max {times : Nat} {hi : Int} {n : Nat} (h : n + times ≤ 4096) (h1 : 1 ≤ times) (h0 : 0 ≤ hi) (h16 : hi ≤ 16) : ∃ H : Nat, H = (max 1 hi).toNat ∧ 1 ≤ times * H ∧ times * H ≤ 65536 ∧ ((hi = 0 ∧ H = 1) ∨ (hi = 1 ∧ H = 1) ∨ 1 < hi ∧ (H : Int) = hi ∧ IntKind.i64.wrap ((times : Int) * hi) = ((times * H : Nat) : Int)) := by
  refine ⟨_, rfl, ?_, ?_, ?_⟩
  · have := Nat.mul_le_mul h1 (show 1 ≤ (max 1 hi).toNat by omega); omega
  · have := Nat.mul_le_mul (show times ≤ 4096 by omega) (show (max 1 hi).toNat ≤ 16 by omega); omega
  · by_cases hh : hi ≤ 1
    · rcases (show hi = 0 ∨ hi = 1 by omega) with h | h
      · exact .inl ⟨h, by omega⟩
      · exact .inr (.inl ⟨h, by omega⟩)
    · refine .inr (.inr ⟨by omega, by omega, ?_⟩)
      have e : hi = ((max 1 hi).toNat : Int) := by omega
      have := Nat.mul_le_mul (show times ≤ 4096 by omega) (show (max 1 hi).toNat ≤ 16 by omega)
      have h2 := wrap_mul times (max 1 hi).toNat (by omega)
      rw [← e] at h2; exact h2
set_option maxRecDepth 100000 in
set_option maxHeartbeats 8000000 in
theorem term_list (wb : World) (B : Nat) (t : TT) (fs : List (TT × Nat)) (hk : t.kind = 6) (hle0 : frH fs ≤ frB fs) (hd : ∀ (i : Nat) (h : i < t.args.length), TermDoes wb B t.args[i] fs) (hsane : t.sane (!fs.isEmpty) = true) (hln : t.lean = true) : TermDoes wb B t fs := by
  intro w x fp n times hat hx h1 h2 hf
  have hR := TT.right (TT.sane_parts hsane).1
  have hlp := (TT.lean_parts hln).1
  have HF := Lib.hid hf
  clear hf
  obtain ⟨k, v, vs, lo, hi, ws, p, l⟩ := t
  obtain ⟨⟨va, vc, sa, sc, wa, wc, qa, qc, pa, pc, aa, ac⟩, rfl, hok⟩ := hx
  obtain ⟨⟨hal, hsl, hwl⟩, hv, hs, hw, hp, hr⟩ := hok.parts
  simp only [TT.v, TT.vs, TT.ws, TT.p, TT.args] at hal hsl hwl hv hs hw hp hr
  simp only [TT.val, TT.kind, TT.v, TT.vs, TT.lo, TT.hi, TT.ws, TT.p, TT.args]
  obtain ⟨w0, hw0, m0, s0, R0, q0, q1, q2, q3, q4, q5, q6, q7, q8, q9, q10, q11, q12, q13, q14⟩ := box15 w (.int .u8 k) (.int .u8 v.kind) (.int .i64 v.num) (.slice va v.items.length vc) (.slice sa vs.length sc) (.int .i64 lo) (.int .i64 hi) (.slice wa ws.length wc)
    (.int .u8 p.kind) (.int .u8 p.val.kind) (.int .i64 p.val.num) (.slice qa p.val.items.length qc) (.int .i64 p.num) (.slice pa p.args.length pc) (.slice aa l.length ac) 47
  have hat0 := hat.al m0
  have hne : w.heap.size ≠ B := Nat.ne_of_gt hat.row.lt
  clear R0
  simp only [TT.kind] at hk
  subst hk
  rw [TT.bulk6, TT.high6]
  have hhl := TT.highs_le l 6 0 _ _ _ (by omega) (TT.sane_parts hsane).2.2 hle0
  have hlist := hR.list rfl
  simp only [TT.lo, TT.hi] at hlist
  clear hv hs hw hp hr hln hsane hR hlp hle0
  by_cases hle : n + times ≤ 4096
  · obtain ⟨HH, hHH, ht1, ht2, hcase⟩ := times_max hle h1 (show 0 ≤ hi by omega) hlist.2.2
    have HSP := Lib.hid (spend_ok B n times w0 hat0.row hat0.cell hle)
    have hat1 := hat0.spent hle
    have hk1 := (Kp.grow (Nat.le_of_lt hat.row.lt) m0).trans (Kp.set w0 0 (.int .i64 (n + times : Nat)))
    have hx0 : TIn wb (.mk 6 v vs lo hi ws p l) ((TT.mk 6 v vs lo hi ws p l).val ⟨va, vc, sa, sc, wa, wc, qa, qc, pa, pc, aa, ac⟩) := ⟨_, rfl, hok⟩
    simp only [TT.val, TT.kind, TT.v, TT.vs, TT.lo, TT.hi, TT.ws, TT.p, TT.args] at hx0
    have hcall := all_of wb B _ _ fs fp _ (n + times) (times * HH) hat1 hx0 ht1 ht2 (HF.out.kp hk1) hd
    simp only [TT.args] at hcall
    have HC := Lib.hid hcall; have HK1 := Lib.hid hk1; have HHL := Lib.hid hhl
    have hHH1 : 1 ≤ HH := by omega
    have hDD : 1 + HH * TT.bulks l (frB fs) = (1 + (max 1 hi).toNat * TT.bulks l (frB fs)) := by rw [hHH]
    rw [← hDD]
    have HE := Lib.hid (show n + times + times * HH * TT.bulks l (frB fs) = n + times * (1 + HH * TT.bulks l (frB fs)) by rw [Nat.mul_add, Nat.mul_one, Nat.mul_assoc]; omega)
    have q0 := (Kp.set w0 0 (.int .i64 (n + times : Nat))).cell hne q0
    have q1 := (Kp.set w0 0 (.int .i64 (n + times : Nat))).cell hne q1
    have q2 := (Kp.set w0 0 (.int .i64 (n + times : Nat))).cell hne q2
    have q3 := (Kp.set w0 0 (.int .i64 (n + times : Nat))).cell hne q3
    have q4 := (Kp.set w0 0 (.int .i64 (n + times : Nat))).cell hne q4
    have q5 := (Kp.set w0 0 (.int .i64 (n + times : Nat))).cell hne q5
    have q6 := (Kp.set w0 0 (.int .i64 (n + times : Nat))).cell hne q6
    have q7 := (Kp.set w0 0 (.int .i64 (n + times : Nat))).cell hne q7
    have q8 := (Kp.set w0 0 (.int .i64 (n + times : Nat))).cell hne q8
    have q9 := (Kp.set w0 0 (.int .i64 (n + times : Nat))).cell hne q9
    have q10 := (Kp.set w0 0 (.int .i64 (n + times : Nat))).cell hne q10
    have q11 := (Kp.set w0 0 (.int .i64 (n + times : Nat))).cell hne q11
    have q12 := (Kp.set w0 0 (.int .i64 (n + times : Nat))).cell hne q12
    have q13 := (Kp.set w0 0 (.int .i64 (n + times : Nat))).cell hne q13
    have q14 := (Kp.set w0 0 (.int .i64 (n + times : Nat))).cell hne q14
    clear hat hat0 hat1 hk1 hx0 hcall hok hd HF hhl hHH hDD ht1 ht2 hlist
    generalize hW1 : w0.setCell ⟨B, 0, none⟩ (.int .i64 (n + times : Nat)) = w1 at *
    obtain ⟨hg, hhg⟩ : ∃ hg, hg = (if hi = 0 then 1 else 1 + TT.highs l (frH fs)) := ⟨_, rfl⟩
    rw [← hhg]
    have HHG := Lib.hid hhg
    clear hhg
    rcases hcase with ⟨rfl, rfl⟩ | ⟨rfl, rfl⟩ | ⟨hca, hcb, hcw⟩
    · simp only [Nat.mul_one, Nat.one_mul] at HC HE ⊢
      go_enter Try.func104, Try.ntmps104
      go_wp2_with fail
      refine HSP.out.mono ?_
      rintro e w2' ⟨rfl, rfl⟩
      go_wp2_with fail
      (with_reducible refine HC.out.mono ?_)
      rintro e w2 hsp
      have q6 := hsp.1.cell hne q6
      rcases Spent.after (n := n) (c' := times * (1 + TT.bulks l (frB fs))) HK1.out HE.out hsp with ⟨hk2, hr2, ⟨hle2, rfl, hc2⟩ | ⟨hgt, rfl⟩⟩
      · obtain ⟨hh, hhe⟩ : ∃ hh, hh = TT.highs l (frH fs) := ⟨_, rfl⟩
        have hhb : hh ≤ 4096 := by
          have := HHL.out
          have h3 := Nat.mul_le_mul_right (1 + TT.bulks l (frB fs)) h1
          
          omega
        have HP : Hid (Spent B w n (times * (1 + TT.bulks l (frB fs))) hg (.returned (.int .i64 1)) w2) := Lib.hid ⟨hk2, hr2, .inl ⟨hle2, by rw [HHG.out]; simp, hc2⟩⟩
        rw [← hhe]
        clear hk2 hr2 hc2 hsp hhe
        go_wp2_with fail
        go_ret
        exact HP.out
      · have HP := Lib.hid (Spent.much (h := hg) hk2 hr2 hgt)
        clear hk2 hr2 hsp
        go_wp2_with fail
        exact ⟨rfl, HP.out⟩
    · simp only [Nat.mul_one, Nat.one_mul] at HC HE ⊢
      go_enter Try.func104, Try.ntmps104
      go_wp2_with fail
      refine HSP.out.mono ?_
      rintro e w2' ⟨rfl, rfl⟩
      go_wp2_with fail
      (with_reducible refine HC.out.mono ?_)
      rintro e w2 hsp
      have q6 := hsp.1.cell hne q6
      rcases Spent.after (n := n) (c' := times * (1 + TT.bulks l (frB fs))) HK1.out HE.out hsp with ⟨hk2, hr2, ⟨hle2, rfl, hc2⟩ | ⟨hgt, rfl⟩⟩
      · obtain ⟨hh, hhe⟩ : ∃ hh, hh = TT.highs l (frH fs) := ⟨_, rfl⟩
        have hhb : hh ≤ 4096 := by
          have := HHL.out
          have h3 := Nat.mul_le_mul_right (1 + TT.bulks l (frB fs)) h1
          
          omega
        have HP : Hid (Spent B w n (times * (1 + TT.bulks l (frB fs))) hg (.returned (.int .i64 (1 + (hh : Int)))) w2) := Lib.hid ⟨hk2, hr2, .inl ⟨hle2, by rw [HHG.out, if_neg (by omega), ← hhe, Int.natCast_add]; rfl, hc2⟩⟩
        rw [← hhe]
        clear hk2 hr2 hc2 hsp hhe
        go_wp2_with fail
        go_ret
        exact HP.out
      · have HP := Lib.hid (Spent.much (h := hg) hk2 hr2 hgt)
        clear hk2 hr2 hsp
        go_wp2_with fail
        exact ⟨rfl, HP.out⟩
    · have hz : (hi == 0) = false := by simp; omega
      have hcv : ((times * HH : Nat) : Int) = (times : Int) * hi := by rw [Int.natCast_mul, hcb]
      have hc' := HC.out
      rw [hcv] at hc'
      replace HC := Lib.hid hc'
      clear hcv hc'
      go_enter Try.func104, Try.ntmps104
      go_wp2_with fail
      refine HSP.out.mono ?_
      rintro e w2' ⟨rfl, rfl⟩
      go_wp2_with fail
      (with_reducible refine HC.out.mono ?_)
      rintro e w2 hsp
      have q6 := hsp.1.cell hne q6
      rcases Spent.after (n := n) (c' := times * (1 + HH * TT.bulks l (frB fs))) HK1.out HE.out hsp with ⟨hk2, hr2, ⟨hle2, rfl, hc2⟩ | ⟨hgt, rfl⟩⟩
      · obtain ⟨hh, hhe⟩ : ∃ hh, hh = TT.highs l (frH fs) := ⟨_, rfl⟩
        have hhb : hh ≤ 4096 := by
          have := HHL.out
          have h3 := Nat.mul_le_mul_right (1 + HH * TT.bulks l (frB fs)) h1
          have h4 := Nat.le_mul_of_pos_left (TT.bulks l (frB fs)) (show 0 < HH by omega)
          omega
        have HP : Hid (Spent B w n (times * (1 + HH * TT.bulks l (frB fs))) hg (.returned (.int .i64 (1 + (hh : Int)))) w2) := Lib.hid ⟨hk2, hr2, .inl ⟨hle2, by rw [HHG.out, if_neg (by omega), ← hhe, Int.natCast_add]; rfl, hc2⟩⟩
        rw [← hhe]
        clear hk2 hr2 hc2 hsp hhe
        go_wp2_with fail
        go_ret
        exact HP.out
      · have HP := Lib.hid (Spent.much (h := hg) hk2 hr2 hgt)
        clear hk2 hr2 hsp
        go_wp2_with fail
        exact ⟨rfl, HP.out⟩
  · have HSP := Lib.hid (spend_much B n times w0 hat0.row hat0.cell hat0.le (by omega) (by omega))
    have HP := Lib.hid (Spent.much (h := (if hi = 0 then 1 else 1 + TT.highs l (frH fs))) (c := times * (1 + (max 1 hi).toNat * TT.bulks l (frB fs))) ((Kp.grow (Nat.le_of_lt hat.row.lt) m0).trans (Kp.set w0 0 (.int .i64 (n + times : Nat)))) (hat0.row.set _ _ rfl) (show 4096 < n + times * (1 + (max 1 hi).toNat * TT.bulks l (frB fs)) by have := Nat.mul_le_mul_left times (show 1 ≤ (1 + (max 1 hi).toNat * TT.bulks l (frB fs)) by omega); omega))
    clear hat hat0 hok hd
    obtain ⟨hg, hhg⟩ : ∃ hg, hg = (if hi = 0 then 1 else 1 + TT.highs l (frH fs)) := ⟨_, rfl⟩
    rw [← hhg] at HP ⊢
    clear hhg
    generalize hW1 : w0.setCell ⟨B, 0, none⟩ (.int .i64 (n + times : Nat)) = w1 at *
    go_enter Try.func104, Try.ntmps104
    go_wp2_with fail
    refine HSP.out.mono ?_
    rintro e w2' ⟨rfl, rfl⟩
    go_wp2_with fail
    exact ⟨rfl, HP.out⟩
end Go.Proofs.Yteebbffecaeciaa
/- (*walk).term: any term. -/
namespace Go.Proofs.Yteebbffecaeciaa
open Go.RowKit

theorem term_of (wb : World) (B : Nat) (N : Nat) : ∀ (t : TT), t.cnt ≤ N → ∀ (fs : List (TT × Nat)), Good wb B fs → t.sane (!fs.isEmpty) = true → t.lean = true → TermDoes wb B t fs := by
  induction N with
  | zero => intro t h; have := TT.cnt_pos t; omega
  | succ N ih =>
    intro t hN fs hG hs hl
    have hle := hG.le
    obtain ⟨hn, _, hsa⟩ := TT.sane_parts hs
    have hR := TT.right hn
    have hls := (TT.lean_parts hl).2
    have hcn : ∀ (i : Nat) (h : i < t.args.length), t.args[i].cnt ≤ N := fun i h => by
      have := TT.cnts_get h
      have hc : t.cnt = 1 + TT.cnts t.args := by obtain ⟨k, v, vs, lo, hi, ws, p, l⟩ := t; rw [TT.cnt]; rfl
      omega
    have hd : t.kind ≠ 10 → ∀ (i : Nat) (h : i < t.args.length), TermDoes wb B t.args[i] fs := fun hk i h => by
      have h1 := TT.sanes_get hsa i h
      rw [beq_eq_false_iff_ne.2 hk, Bool.false_and, Bool.or_false] at h1
      exact ih _ (hcn i h) fs hG h1 (TT.leans_get hls h)
    rcases kinds hR.k1 hR.k2 with hk | hk | hk | hk | hk | hk | hk | hk | hk | hk | hk
    · exact term_const wb B t fs hk hs hl
    · exact term_range wb B t fs hk hs hl
    · exact term_freq wb B t fs hk hle (hd (by omega)) hs hl
    · exact term_alias wb B t fs hk hs hl
    · exact term_tuple wb B t fs hk hle (hd (by omega)) hs hl
    · exact term_list wb B t fs hk hle (hd (by omega)) hs hl
    · exact term_shuffle wb B t fs hk hle (hd (by omega)) hs hl
    · exact term_pick wb B t fs hk hle (hd (by omega)) hs hl
    · exact term_filter wb B t fs hk hle (hd (by omega)) hs hl
    · refine term_sized wb B t fs hk ?_ hs hl
      have h2 := hR.len2 hk
      obtain ⟨k, v, vs, lo, hi, ws, p, l⟩ := t
      simp only [TT.kind, TT.args] at hk h2 hsa hls hcn
      subst hk
      obtain ⟨c, s, rfl⟩ := two_of h2
      have hc0 := hcn 0 (by simp)
      have hc1 := hcn 1 (by simp)
      have hs0 := TT.sanes_get hsa 0 (by simp)
      have hs1 := TT.sanes_get hsa 1 (by simp)
      have hl0 := TT.leans_get hls (i := 0) (by simp)
      have hl1 := TT.leans_get hls (i := 1) (by simp)
      simp only [List.getElem_cons_zero, List.getElem_cons_succ] at hc0 hc1 hs0 hs1 hl0 hl1
      refine fun j hj => sized_of wb B fs c s v vs lo hi ws p (ih c hc0 fs hG (by simpa using hs0) hl0) (fun j hg => ih s hc1 _ hg (by simpa using hs1) hl1) (fun j => TT.high10_le _ j _ _ _ hsa hle) j hj
    · exact term_self wb B t fs hk hG hs hl
end Go.Proofs.Yteebbffecaeciaa
