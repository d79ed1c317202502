/- Texts of this claim laid into one: TRefJ. -/
import Derived.Test.YteebbffecaeciaaM45
/- The document's Check and Sound. -/
namespace Go.Proofs.Yteebbffecaeciaa
open Go.RowKit

set_option maxRecDepth 100000 in
set_option maxHeartbeats 8000000 in
theorem rtSound_any (t : TT) (x : Value) (w : World) (hcn : t.cnt ≤ 3000000) (hln : t.lean = true) (hx : TIn w t x) :
    Calls Try.prog 69 #[x] w fun e w' => e = .returned (.bool t.sound) ∧ Below w.heap.size w w' := by
  obtain ⟨A, rfl, hok⟩ := hx
  obtain ⟨w0, hw0, m0, s0, hc0, _⟩ := row1_new w t A
  have HX : Hid (BoxA w0 w.heap.size t A) := Lib.hid ⟨hc0, hok.below m0⟩
  have hBA := m0
  have hs : t.sound = (decide (0 < t.Bulk) && decide (t.Bulk ≤ 4096) && decide (t.High ≤ 128)) := rfl
  obtain ⟨b, hb⟩ : ∃ b, b = t.Bulk := ⟨_, rfl⟩
  obtain ⟨h, hh⟩ : ∃ h, h = t.High := ⟨_, rfl⟩
  rw [← hb, ← hh] at hs
  have HS := Lib.hid hs; have HB := Lib.hid hb.symm; have HH := Lib.hid hh.symm
  clear hs hb hh hok hc0 m0
  unfold TT.val
  go_enter Try.func69, Try.ntmps69
  go_wp2_with (refine wpList_load15 (by rfl) (by rfl) (by rfl) HX.out.1 ?_)
  refine (rtBulk_any t _ _ hcn hln HX.out.tin).mono ?_
  rintro e w1 ⟨rfl, hb1⟩
  rw [HB.out]
  replace HX := Lib.hid (HX.out.below hb1); replace hBA := hBA.trans (hb1.mono hBA.size)
  clear hb1
  by_cases h0 : 0 < b
  · have d0 : decide ((0 : Int) < b) = true := decide_eq_true (by omega)
    have e0 : decide (0 < b) = true := decide_eq_true h0
    have HS2 : Hid (t.sound = (decide (b ≤ 4096) && decide (h ≤ 128))) := Lib.hid (by rw [HS.out, e0, Bool.true_and])
    obtain ⟨q0, q1, q2, q3, q4, q5, q6, q7, q8, q9, q10, q11, q12, q13, q14⟩ := HX.out.1
    go_wp2_with fail
    refine (rtBulk_any t _ _ hcn hln HX.out.tin).mono ?_
    rintro e w2 ⟨rfl, hb2⟩
    rw [HB.out]
    clear q0 q1 q2 q3 q4 q5 q6 q7 q8 q9 q10 q11 q12 q13 q14
    replace HX := Lib.hid (HX.out.below hb2); replace hBA := hBA.trans (hb2.mono hBA.size)
    clear hb2
    by_cases h4 : b ≤ 4096
    · have d1 : decide ((b : Int) ≤ 4096) = true := decide_eq_true (by omega)
      have e1 : decide (b ≤ 4096) = true := decide_eq_true h4
      have HS3 : Hid (t.sound = decide (h ≤ 128)) := Lib.hid (by rw [HS2.out, e1, Bool.true_and])
      obtain ⟨q0, q1, q2, q3, q4, q5, q6, q7, q8, q9, q10, q11, q12, q13, q14⟩ := HX.out.1
      go_wp2_with fail
      refine (rtHigh_any t _ _ hcn hln HX.out.tin).mono ?_
      rintro e w3 ⟨rfl, hb3⟩
      rw [HH.out]
      clear q0 q1 q2 q3 q4 q5 q6 q7 q8 q9 q10 q11 q12 q13 q14
      replace hBA := hBA.trans (hb3.mono hBA.size)
      clear hb3
      by_cases h1 : h ≤ 128
      · have d2 : decide ((h : Int) ≤ 128) = true := decide_eq_true (by omega)
        have e2 : decide (h ≤ 128) = true := decide_eq_true h1
        have HE : Hid (t.sound = true) := Lib.hid (by rw [HS3.out, e2])
        clear h1
        go_wp2_with fail
        go_ret
        exact ⟨ret_bool (by rw [HE.out]), hBA⟩
      · have d2 : decide ((h : Int) ≤ 128) = false := decide_eq_false (by omega)
        have e2 : decide (h ≤ 128) = false := decide_eq_false h1
        have HE : Hid (t.sound = false) := Lib.hid (by rw [HS3.out, e2])
        clear h1
        go_wp2_with fail
        go_ret
        exact ⟨ret_bool (by rw [HE.out]), hBA⟩
    · have d1 : decide ((b : Int) ≤ 4096) = false := decide_eq_false (by omega)
      have e1 : decide (b ≤ 4096) = false := decide_eq_false h4
      go_wp2_with fail
      go_ret
      exact ⟨ret_bool (by rw [HS2.out, e1, Bool.false_and]), hBA⟩
  · have d0 : decide ((0 : Int) < b) = false := decide_eq_false (by omega)
    have e0 : decide (0 < b) = false := decide_eq_false h0
    go_wp2_with fail
    go_ret
    exact ⟨ret_bool (by rw [HS.out, e0]; simp), hBA⟩
end Go.Proofs.Yteebbffecaeciaa
