/- Texts of this claim laid into one: TAllW. -/
import Derived.Test.YteebbffecaeciaaM12
/- (*walk).all, (*walk).sized. -/
namespace Go.Proofs.Yteebbffecaeciaa
open Go.RowKit


theorem TCells.below2 {wb w : World} (hb : Below wb.heap.size wb w) {b o : Nat} {t : TT} {A : TA} (h : TCells wb b o t A) : TCells w b o t A := h.below hb
theorem Spent.after {B n c c' h : Nat} {w w2 : World} {m : Nat} (hk : Kp B w w2) (hm : m + c = n + c') {e : Ending} {w' : World} (hs : Spent B w2 m c h e w') : Spent B w n c' h e w' := by
  obtain ⟨k, r, hor⟩ := hs
  exact ⟨hk.trans k, r, by rw [← hm]; exact hor⟩
theorem Spent.much {B n c h : Nat} {w w' : World} (hk : Kp B w w') (hr : RowAt w' 120 B 1) (h4 : 4096 < n + c) : Spent B w n c h (.panicked [{ v := tooMuchV, recovered := false }]) w' := ⟨hk, hr, .inr ⟨h4, rfl⟩⟩
/-- how far 'all' has come. -/
def AllRel (wb : World) (B : Nat) (w0 : World) (l : List TT) (fs : List (TT × Nat)) (n times : Nat) (wr : World) (h i : Nat) : Prop :=
  h = TT.highs (l.take i) (frH fs) ∧ ∃ m, m = n + times * TT.bulks (l.take i) (frB fs) ∧ At wb B wr m ∧ Kp B w0 wr
theorem mul_up {times a b c : Nat} (h : c = a + b) : times * c = times * a + times * b := by rw [h, Nat.mul_add]
set_option maxRecDepth 100000 in
set_option maxHeartbeats 4000000 in
theorem all_of (wb : World) (B : Nat) (t : TT) (x : Value) (fs : List (TT × Nat)) (fp : Option Addr) (w : World) (n times : Nat) (hat : At wb B w n) (hx : TIn wb t x) (h1 : 1 ≤ times) (h2 : times ≤ 65536) (hf : FrIn wb B w fs fp)
    (hd : ∀ (i : Nat) (h : i < t.args.length), TermDoes wb B t.args[i] fs) :
    Calls Try.prog 130 #[.pointer (some ⟨B, 0, none⟩), x, .pointer fp, .int .i64 times] w (Spent B w n (times * TT.bulks t.args (frB fs)) (TT.highs t.args (frH fs))) := by
  have HF := Lib.hid hf; have HD := Lib.hid hd
  clear hf hd
  obtain ⟨k, v, vs, lo, hi, ws, p, l⟩ := t
  obtain ⟨⟨va, vc, sa, sc, wa, wc, qa, qc, pa, pc, aa, ac⟩, rfl, hok⟩ := hx
  obtain ⟨⟨hal, hsl, hwl⟩, hv, hs, hw, hp, hr⟩ := hok.parts
  simp only [TT.v, TT.vs, TT.ws, TT.p, TT.args] at hal hsl hwl hv hs hw hp hr
  simp only [TT.val, TT.kind, TT.v, TT.vs, TT.lo, TT.hi, TT.ws, TT.p, TT.args]
  obtain ⟨w0, hw0, m0, s0, R0, q0, q1, q2, q3, q4, q5, q6, q7, q8, q9, q10, q11, q12, q13, q14⟩ := box15 w (.int .u8 k) (.int .u8 v.kind) (.int .i64 v.num) (.slice va v.items.length vc) (.slice sa vs.length sc) (.int .i64 lo) (.int .i64 hi) (.slice wa ws.length wc)
    (.int .u8 p.kind) (.int .u8 p.val.kind) (.int .i64 p.val.num) (.slice qa p.val.items.length qc) (.int .i64 p.num) (.slice pa p.args.length pc) (.slice aa l.length ac) 47
  have hat0 := hat.al m0
  have hne : w.heap.size ≠ B := Nat.ne_of_gt hat.row.lt
  clear R0
  have hdd := HD.out
  simp only [TT.args] at hdd
  have HD := Lib.hid hdd
  clear hdd hv hs hw hp
  have HAT := Lib.hid hat0; have HR := Lib.hid hr
  have HK := Lib.hid (Kp.grow (Nat.le_of_lt hat.row.lt) m0)
  clear hat hat0 hr hok
  go_enter Try.func130, Try.ntmps130
  go_wp2_with fail
  clear q0 q1 q2 q3 q4 q5 q6 q7 q8 q9 q10 q11 q12 q13 q14
  go_loopw [9, 15] (fun x y wr => ∃ h i : Nat, x = .int .i64 h ∧ y = .int .i64 i ∧ i ≤ l.length ∧ AllRel wb B w0 l fs n times wr h i) (fun _ y _ => l.length - (intOf y).toNat)
  case atStart => exact ⟨0, 0, rfl, rfl, by omega, by simp [TT.highs], n, by simp [TT.bulks], HAT.out, Kp.refl _ _⟩
  case round =>
    obtain ⟨h, i, rfl, rfl, hi, hh, m, hm, hat, hk⟩ := hrel
    have HH := Lib.hid hh; have HM := Lib.hid hm; have HKR := Lib.hid hk
    clear hh hm hk
    by_cases hlt : i < l.length
    · obtain ⟨b, o, rfl, A, hcells, hiok⟩ := HR.out.get i hlt
      have hx : TIn wb l[i] (l[i].val A) := ⟨A, rfl, hiok⟩
      obtain ⟨d0, d1, d2, d3, d4, d5, d6, d7, d8, d9, d10, d11, d12, d13, d14⟩ := hcells
      clear hiok
      simp only [TT.val] at hx
      have d0 := cell_stays hat.below d0
      have d1 := cell_stays hat.below d1
      have d2 := cell_stays hat.below d2
      have d3 := cell_stays hat.below d3
      have d4 := cell_stays hat.below d4
      have d5 := cell_stays hat.below d5
      have d6 := cell_stays hat.below d6
      have d7 := cell_stays hat.below d7
      have d8 := cell_stays hat.below d8
      have d9 := cell_stays hat.below d9
      have d10 := cell_stays hat.below d10
      have d11 := cell_stays hat.below d11
      have d12 := cell_stays hat.below d12
      have d13 := cell_stays hat.below d13
      have d14 := cell_stays hat.below d14
      
      obtain ⟨w3, hw3, m3, s3, R3, r0, r1, r2, r3, r4, r5, r6, r7, r8, r9, r10, r11, r12, r13, r14⟩ := box15 wr (.int .u8 l[i].kind) (.int .u8 l[i].v.kind) (.int .i64 l[i].v.num) (.slice A.va l[i].v.items.length A.vc) (.slice A.sa l[i].vs.length A.sc) (.int .i64 l[i].lo) (.int .i64 l[i].hi) (.slice A.wa l[i].ws.length A.wc)
        (.int .u8 l[i].p.kind) (.int .u8 l[i].p.val.kind) (.int .i64 l[i].p.val.num) (.slice A.qa l[i].p.val.items.length A.qc) (.int .i64 l[i].p.num) (.slice A.pa l[i].p.args.length A.pc) (.slice A.aa l[i].args.length A.ac) 47
      have hc := HD.out i hlt w3 _ fp m times (hat.al m3) hx h1 h2 (HF.out.kp ((HK.out.trans HKR.out).trans (Kp.grow (Nat.le_of_lt hat.row.lt) m3)))
      have HC := Lib.hid hc
      have HAT3 := Lib.hid (hat.al m3)
      have HK3 := Lib.hid ((HK.out.trans HKR.out).trans (Kp.grow (Nat.le_of_lt hat.row.lt) m3))
      have HK03 := Lib.hid (HKR.out.trans (Kp.grow (Nat.le_of_lt hat.row.lt) m3))
      have HHU := Lib.hid (TT.highs_upto hlt (frH fs))
      have HBU := Lib.hid (mul_up (times := times) (TT.bulks_upto hlt (frB fs)))
      have HBL := Lib.hid (Nat.mul_le_mul_left times (TT.bulks_upto_le l (i + 1) (frB fs)))
      clear hc hat hx
      go_wp2_with fail
      refine HC.out.mono ?_
      rintro e w4 ⟨hk4, hr4, ⟨hle, rfl, hc4⟩ | ⟨hgt, rfl⟩⟩
      · have HAT4 := Lib.hid (HAT3.out.kp hk4 hr4 hc4 hle)
        have HK4 := Lib.hid (HK03.out.trans hk4)
        obtain ⟨hi2, hhi⟩ : ∃ hi2, hi2 = l[i].high (frH fs) := ⟨_, rfl⟩
        rw [← hhi] at HHU ⊢
        clear d0 d1 d2 d3 d4 d5 d6 d7 d8 d9 d10 d11 d12 d13 d14
        clear r0 r1 r2 r3 r4 r5 r6 r7 r8 r9 r10 r11 r12 r13 r14
        clear hk4 hr4 hc4 hhi m3
        have HNE : ∀ h', h' = TT.highs (l.take (i + 1)) (frH fs) → AllRel wb B w0 l fs n times w4 h' (i + 1) := fun h' e => ⟨e, _, by rw [HBU.out, ← Nat.add_assoc, ← HM.out], HAT4.out, HK4.out⟩
        have HNE := Lib.hid HNE
        go_wp2_with fail
        all_goals
          go_roundw
          case rel => first | exact ⟨h, i + 1, rfl, by go_num, by omega, HNE.out _ (by rw [HHU.out, ← HH.out]; omega)⟩ | exact ⟨hi2, i + 1, rfl, by go_num, by omega, HNE.out _ (by rw [HHU.out, ← HH.out]; omega)⟩ | exact ⟨max h hi2, i + 1, by go_num, by go_num, by omega, HNE.out _ (by rw [HHU.out, ← HH.out])⟩
          case measure => simp [intOf]; omega
      · have HP := Lib.hid (Spent.much (h := TT.highs l (frH fs)) (n := n) (c := times * TT.bulks l (frB fs)) (HK3.out.trans hk4) hr4 (by have := HBU.out; have := HBL.out; have := HM.out; omega))
        clear hk4 hr4
        go_wp2_with fail
        exact ⟨rfl, HP.out⟩
    · have hii : i = l.length := by omega
      subst hii
      have n4 : decide ((l.length : Int) < (l.length : Int)) = false := by simp
      have hh := HH.out
      have hm := HM.out
      rw [List.take_length] at hh hm
      have HP : Hid (Spent B w n (times * TT.bulks l (frB fs)) (TT.highs l (frH fs)) (.returned (.int .i64 h)) wr) := Lib.hid ⟨HK.out.trans HKR.out, hat.row, .inl ⟨by rw [← hm]; exact hat.le, by rw [hh], by rw [← hm]; exact hat.cell⟩⟩
      clear hh hm hat
      go_wp2_with fail
      go_ret
      exact HP.out
end Go.Proofs.Yteebbffecaeciaa
