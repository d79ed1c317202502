/- Texts of this claim laid into one: PWalkC. -/
import Derived.Test.YteebbffecaeciaaM04
import Derived.Test.YteebbffecaeciaaM05
/- tombolaref17.Node. -/
namespace Go.Proofs.Yteebbffecaeciaa
open Go.RowKit


set_option maxRecDepth 100000 in
set_option maxHeartbeats 16000000 in
theorem rNode_any (k n : Int) (v : VT) (va a : Option Addr) (vc len cap : Nat) (w : World) (hv : VIn w v (.agg #[.int .u8 v.kind, .int .i64 v.num, .slice va v.items.length vc])) (hs : v.size ≤ 100000) :
    Calls Try.prog 150 #[.agg #[.int .u8 k, .int .u8 v.kind, .int .i64 v.num, .slice va v.items.length vc, .int .i64 n, .slice a len cap]] w fun e w' => e = .returned (.int .i64 (PT.node k v n len)) ∧ Below w.heap.size w w' := by
  obtain ⟨w0, hw0, m0, s0, q0, q1, q2, q3, q4, q5⟩ := box6 w (.int .u8 k) (.int .u8 v.kind) (.int .i64 v.num) (.slice va v.items.length vc) (.int .i64 n) (.slice a len cap) 28
  have hv0 := hv.below m0
  clear hv
  have hk : k = 1 ∨ k = 2 ∨ k = 3 ∨ k = 4 ∨ k = 5 ∨ k = 6 ∨ k = 7 ∨ k = 8 ∨ k = 9 ∨ k = 10 ∨ k = 11 ∨ k < 1 ∨ 11 < k := by omega
  rcases hk with rfl | rfl | rfl | rfl | rfl | rfl | rfl | rfl | rfl | rfl | rfl | h | h
  case inr.inr.inr.inr.inr.inr.inr.inr.inr.inr.inr.inl =>
    have hc : PT.node k v n len = 11 := by unfold PT.node; rw [if_pos (.inl h)]
    have HC := Lib.hid hc; clear hc
    go_enter Try.func150, Try.ntmps150
    go_wp2_with fail
    go_ret
    exact ⟨ret_int (by rw [HC.out]), m0⟩
  case inr.inr.inr.inr.inr.inr.inr.inr.inr.inr.inr.inr =>
    have hc : PT.node k v n len = 11 := by unfold PT.node; rw [if_pos (.inr h)]
    have HC := Lib.hid hc; clear hc
    go_enter Try.func150, Try.ntmps150
    go_wp2_with fail
    go_ret
    exact ⟨ret_int (by rw [HC.out]), m0⟩
  case inr.inr.inl =>
    go_enter Try.func150, Try.ntmps150
    go_wp2_with fail
    refine (rcheck_any v _ _ (by omega) hv0).mono ?_
    rintro e w1 ⟨rfl, hb1⟩
    obtain ⟨z, hz⟩ : ∃ z, z = v.check := ⟨_, rfl⟩
    rw [← hz]
    have HZ := Lib.hid hz; clear hz
    by_cases hz0 : z = 0
    · have hc : PT.node 3 v n len = if PT.number 3 n ≠ 0 then PT.number 3 n else if (len : Int) < PT.least 3 then 4 else if PT.most 3 < (len : Int) then 5 else 0 := by
        unfold PT.node; rw [if_neg (by omega), if_neg (by rw [← HZ.out, hz0]; simp), if_neg (by simp)]
      subst hz0
      have HC := Lib.hid hc; clear hc
      have g0 := cell_stays hb1 q0
      have g4 := cell_stays hb1 q4
      have g5 := cell_stays hb1 q5
      clear q0 q1 q2 q3 q4 q5
      go_wp2_with fail
      all_goals
        go_ret
        exact ⟨ret_int (by rw [HC.out]; simp only [PT.number, PT.least, PT.most, Int.reduceEq, or_false, or_true, if_true, if_false, true_and, false_and, ne_eq, not_false_eq_true, bne_iff_ne, bne_eq_false_iff_eq] at *; (repeat' split) <;> omega), m0.trans (hb1.mono m0.size)⟩
    · have hc : PT.node 3 v n len = z := by
        unfold PT.node; rw [if_neg (by omega), if_pos ⟨by omega, by rw [← HZ.out]; exact hz0⟩, HZ.out]
      have HC := Lib.hid hc; clear hc
      have hzb : (z != 0) = true := by simpa using hz0
      go_wp2_with fail
      go_ret
      exact ⟨ret_int (by rw [HC.out]), m0.trans (hb1.mono m0.size)⟩
  case inr.inr.inr.inl =>
    go_enter Try.func150, Try.ntmps150
    go_wp2_with fail
    refine (rcheck_any v _ _ (by omega) hv0).mono ?_
    rintro e w1 ⟨rfl, hb1⟩
    obtain ⟨z, hz⟩ : ∃ z, z = v.check := ⟨_, rfl⟩
    rw [← hz]
    have HZ := Lib.hid hz; clear hz
    by_cases hz0 : z = 0
    · have hc : PT.node 4 v n len = if PT.number 4 n ≠ 0 then PT.number 4 n else if (len : Int) < PT.least 4 then 4 else if PT.most 4 < (len : Int) then 5 else 0 := by
        unfold PT.node; rw [if_neg (by omega), if_neg (by rw [← HZ.out, hz0]; simp), if_neg (by simp)]
      subst hz0
      have HC := Lib.hid hc; clear hc
      have g0 := cell_stays hb1 q0
      have g4 := cell_stays hb1 q4
      have g5 := cell_stays hb1 q5
      clear q0 q1 q2 q3 q4 q5
      go_wp2_with fail
      all_goals
        go_ret
        exact ⟨ret_int (by rw [HC.out]; simp only [PT.number, PT.least, PT.most, Int.reduceEq, or_false, or_true, if_true, if_false, true_and, false_and, ne_eq, not_false_eq_true, bne_iff_ne, bne_eq_false_iff_eq] at *; (repeat' split) <;> omega), m0.trans (hb1.mono m0.size)⟩
    · have hc : PT.node 4 v n len = z := by
        unfold PT.node; rw [if_neg (by omega), if_pos ⟨by omega, by rw [← HZ.out]; exact hz0⟩, HZ.out]
      have HC := Lib.hid hc; clear hc
      have hzb : (z != 0) = true := by simpa using hz0
      go_wp2_with fail
      go_ret
      exact ⟨ret_int (by rw [HC.out]), m0.trans (hb1.mono m0.size)⟩
  case inl =>
    go_enter Try.func150, Try.ntmps150
    go_wp2_with fail
    refine (rnone_any _ _ _ _ _ _).mono ?_
    rintro e w1 ⟨rfl, hb1⟩
    obtain ⟨z, hz⟩ : ∃ z, z = v.none := ⟨_, rfl⟩
    rw [← PT.none_eq, ← hz]
    have HZ := Lib.hid hz; clear hz
    cases z
    · have hc : PT.node 1 v n len = 3 := by
        unfold PT.node; rw [if_neg (by omega), if_neg (fun h => by have := h.1; omega), if_pos ⟨by omega, HZ.out.symm⟩]
      have HC := Lib.hid hc; clear hc
      go_wp2_with fail
      go_ret
      exact ⟨ret_int (by rw [HC.out]), m0.trans (hb1.mono m0.size)⟩
    · have hc : PT.node 1 v n len = if PT.number 1 n ≠ 0 then PT.number 1 n else if (len : Int) < PT.least 1 then 4 else if PT.most 1 < (len : Int) then 5 else 0 := by
        unfold PT.node; rw [if_neg (by omega), if_neg (fun h => by have := h.1; omega), if_neg (by rintro ⟨_, h⟩; rw [← HZ.out] at h; simp at h)]
      have HC := Lib.hid hc; clear hc
      have g0 := cell_stays hb1 q0
      have g4 := cell_stays hb1 q4
      have g5 := cell_stays hb1 q5
      clear q0 q1 q2 q3 q4 q5
      go_wp2_with fail
      all_goals
        go_ret
        exact ⟨ret_int (by rw [HC.out]; simp only [PT.number, PT.least, PT.most, Int.reduceEq, or_false, if_true, if_false, true_and, false_and, ne_eq, not_false_eq_true, bne_iff_ne, bne_eq_false_iff_eq] at *; (repeat' split) <;> omega), m0.trans (hb1.mono m0.size)⟩
  case inr.inl =>
    go_enter Try.func150, Try.ntmps150
    go_wp2_with fail
    refine (rnone_any _ _ _ _ _ _).mono ?_
    rintro e w1 ⟨rfl, hb1⟩
    obtain ⟨z, hz⟩ : ∃ z, z = v.none := ⟨_, rfl⟩
    rw [← PT.none_eq, ← hz]
    have HZ := Lib.hid hz; clear hz
    cases z
    · have hc : PT.node 2 v n len = 3 := by
        unfold PT.node; rw [if_neg (by omega), if_neg (fun h => by have := h.1; omega), if_pos ⟨by omega, HZ.out.symm⟩]
      have HC := Lib.hid hc; clear hc
      go_wp2_with fail
      go_ret
      exact ⟨ret_int (by rw [HC.out]), m0.trans (hb1.mono m0.size)⟩
    · have hc : PT.node 2 v n len = if PT.number 2 n ≠ 0 then PT.number 2 n else if (len : Int) < PT.least 2 then 4 else if PT.most 2 < (len : Int) then 5 else 0 := by
        unfold PT.node; rw [if_neg (by omega), if_neg (fun h => by have := h.1; omega), if_neg (by rintro ⟨_, h⟩; rw [← HZ.out] at h; simp at h)]
      have HC := Lib.hid hc; clear hc
      have g0 := cell_stays hb1 q0
      have g4 := cell_stays hb1 q4
      have g5 := cell_stays hb1 q5
      clear q0 q1 q2 q3 q4 q5
      go_wp2_with fail
      all_goals
        go_ret
        exact ⟨ret_int (by rw [HC.out]; simp only [PT.number, PT.least, PT.most, Int.reduceEq, or_false, or_true, if_true, if_false, true_and, false_and, ne_eq, not_false_eq_true, bne_iff_ne, bne_eq_false_iff_eq] at *; (repeat' split) <;> omega), m0.trans (hb1.mono m0.size)⟩
  case inr.inr.inr.inr.inl =>
    go_enter Try.func150, Try.ntmps150
    go_wp2_with fail
    refine (rnone_any _ _ _ _ _ _).mono ?_
    rintro e w1 ⟨rfl, hb1⟩
    obtain ⟨z, hz⟩ : ∃ z, z = v.none := ⟨_, rfl⟩
    rw [← PT.none_eq, ← hz]
    have HZ := Lib.hid hz; clear hz
    cases z
    · have hc : PT.node 5 v n len = 3 := by
        unfold PT.node; rw [if_neg (by omega), if_neg (fun h => by have := h.1; omega), if_pos ⟨by omega, HZ.out.symm⟩]
      have HC := Lib.hid hc; clear hc
      go_wp2_with fail
      go_ret
      exact ⟨ret_int (by rw [HC.out]), m0.trans (hb1.mono m0.size)⟩
    · have hc : PT.node 5 v n len = if PT.number 5 n ≠ 0 then PT.number 5 n else if (len : Int) < PT.least 5 then 4 else if PT.most 5 < (len : Int) then 5 else 0 := by
        unfold PT.node; rw [if_neg (by omega), if_neg (fun h => by have := h.1; omega), if_neg (by rintro ⟨_, h⟩; rw [← HZ.out] at h; simp at h)]
      have HC := Lib.hid hc; clear hc
      have g0 := cell_stays hb1 q0
      have g4 := cell_stays hb1 q4
      have g5 := cell_stays hb1 q5
      clear q0 q1 q2 q3 q4 q5
      go_wp2_with fail
      all_goals
        go_ret
        exact ⟨ret_int (by rw [HC.out]; simp only [PT.number, PT.least, PT.most, Int.reduceEq, or_false, if_false, true_and, false_and, ne_eq, not_false_eq_true, bne_iff_ne, bne_eq_false_iff_eq] at *; (repeat' split) <;> omega), m0.trans (hb1.mono m0.size)⟩
  case inr.inr.inr.inr.inr.inl =>
    go_enter Try.func150, Try.ntmps150
    go_wp2_with fail
    refine (rnone_any _ _ _ _ _ _).mono ?_
    rintro e w1 ⟨rfl, hb1⟩
    obtain ⟨z, hz⟩ : ∃ z, z = v.none := ⟨_, rfl⟩
    rw [← PT.none_eq, ← hz]
    have HZ := Lib.hid hz; clear hz
    cases z
    · have hc : PT.node 6 v n len = 3 := by
        unfold PT.node; rw [if_neg (by omega), if_neg (fun h => by have := h.1; omega), if_pos ⟨by omega, HZ.out.symm⟩]
      have HC := Lib.hid hc; clear hc
      go_wp2_with fail
      go_ret
      exact ⟨ret_int (by rw [HC.out]), m0.trans (hb1.mono m0.size)⟩
    · have hc : PT.node 6 v n len = if PT.number 6 n ≠ 0 then PT.number 6 n else if (len : Int) < PT.least 6 then 4 else if PT.most 6 < (len : Int) then 5 else 0 := by
        unfold PT.node; rw [if_neg (by omega), if_neg (fun h => by have := h.1; omega), if_neg (by rintro ⟨_, h⟩; rw [← HZ.out] at h; simp at h)]
      have HC := Lib.hid hc; clear hc
      have g0 := cell_stays hb1 q0
      have g4 := cell_stays hb1 q4
      have g5 := cell_stays hb1 q5
      clear q0 q1 q2 q3 q4 q5
      go_wp2_with fail
      all_goals
        go_ret
        exact ⟨ret_int (by rw [HC.out]; simp only [PT.number, PT.least, PT.most, Int.reduceEq, or_false, or_true, if_true, if_false, true_and, false_and, ne_eq, not_false_eq_true, bne_iff_ne, bne_eq_false_iff_eq] at *; (repeat' split) <;> omega), m0.trans (hb1.mono m0.size)⟩
  case inr.inr.inr.inr.inr.inr.inl =>
    go_enter Try.func150, Try.ntmps150
    go_wp2_with fail
    refine (rnone_any _ _ _ _ _ _).mono ?_
    rintro e w1 ⟨rfl, hb1⟩
    obtain ⟨z, hz⟩ : ∃ z, z = v.none := ⟨_, rfl⟩
    rw [← PT.none_eq, ← hz]
    have HZ := Lib.hid hz; clear hz
    cases z
    · have hc : PT.node 7 v n len = 3 := by
        unfold PT.node; rw [if_neg (by omega), if_neg (fun h => by have := h.1; omega), if_pos ⟨by omega, HZ.out.symm⟩]
      have HC := Lib.hid hc; clear hc
      go_wp2_with fail
      go_ret
      exact ⟨ret_int (by rw [HC.out]), m0.trans (hb1.mono m0.size)⟩
    · have hc : PT.node 7 v n len = if PT.number 7 n ≠ 0 then PT.number 7 n else if (len : Int) < PT.least 7 then 4 else if PT.most 7 < (len : Int) then 5 else 0 := by
        unfold PT.node; rw [if_neg (by omega), if_neg (fun h => by have := h.1; omega), if_neg (by rintro ⟨_, h⟩; rw [← HZ.out] at h; simp at h)]
      have HC := Lib.hid hc; clear hc
      have g0 := cell_stays hb1 q0
      have g4 := cell_stays hb1 q4
      have g5 := cell_stays hb1 q5
      clear q0 q1 q2 q3 q4 q5
      go_wp2_with fail
      all_goals
        go_ret
        exact ⟨ret_int (by rw [HC.out]; simp only [PT.number, PT.least, PT.most, Int.reduceEq, or_false, or_true, if_true, if_false, true_and, false_and, ne_eq, not_false_eq_true, bne_iff_ne, bne_eq_false_iff_eq] at *; (repeat' split) <;> omega), m0.trans (hb1.mono m0.size)⟩
  case inr.inr.inr.inr.inr.inr.inr.inl =>
    go_enter Try.func150, Try.ntmps150
    go_wp2_with fail
    refine (rnone_any _ _ _ _ _ _).mono ?_
    rintro e w1 ⟨rfl, hb1⟩
    obtain ⟨z, hz⟩ : ∃ z, z = v.none := ⟨_, rfl⟩
    rw [← PT.none_eq, ← hz]
    have HZ := Lib.hid hz; clear hz
    cases z
    · have hc : PT.node 8 v n len = 3 := by
        unfold PT.node; rw [if_neg (by omega), if_neg (fun h => by have := h.1; omega), if_pos ⟨by omega, HZ.out.symm⟩]
      have HC := Lib.hid hc; clear hc
      go_wp2_with fail
      go_ret
      exact ⟨ret_int (by rw [HC.out]), m0.trans (hb1.mono m0.size)⟩
    · have hc : PT.node 8 v n len = if PT.number 8 n ≠ 0 then PT.number 8 n else if (len : Int) < PT.least 8 then 4 else if PT.most 8 < (len : Int) then 5 else 0 := by
        unfold PT.node; rw [if_neg (by omega), if_neg (fun h => by have := h.1; omega), if_neg (by rintro ⟨_, h⟩; rw [← HZ.out] at h; simp at h)]
      have HC := Lib.hid hc; clear hc
      have g0 := cell_stays hb1 q0
      have g4 := cell_stays hb1 q4
      have g5 := cell_stays hb1 q5
      clear q0 q1 q2 q3 q4 q5
      go_wp2_with fail
      all_goals
        go_ret
        exact ⟨ret_int (by rw [HC.out]; simp only [PT.number, PT.least, PT.most, Int.reduceEq, or_false, if_false, true_and, false_and, ne_eq, not_true_eq_false] at *; (repeat' split) <;> omega), m0.trans (hb1.mono m0.size)⟩
  case inr.inr.inr.inr.inr.inr.inr.inr.inl =>
    go_enter Try.func150, Try.ntmps150
    go_wp2_with fail
    refine (rnone_any _ _ _ _ _ _).mono ?_
    rintro e w1 ⟨rfl, hb1⟩
    obtain ⟨z, hz⟩ : ∃ z, z = v.none := ⟨_, rfl⟩
    rw [← PT.none_eq, ← hz]
    have HZ := Lib.hid hz; clear hz
    cases z
    · have hc : PT.node 9 v n len = 3 := by
        unfold PT.node; rw [if_neg (by omega), if_neg (fun h => by have := h.1; omega), if_pos ⟨by omega, HZ.out.symm⟩]
      have HC := Lib.hid hc; clear hc
      go_wp2_with fail
      go_ret
      exact ⟨ret_int (by rw [HC.out]), m0.trans (hb1.mono m0.size)⟩
    · have hc : PT.node 9 v n len = if PT.number 9 n ≠ 0 then PT.number 9 n else if (len : Int) < PT.least 9 then 4 else if PT.most 9 < (len : Int) then 5 else 0 := by
        unfold PT.node; rw [if_neg (by omega), if_neg (fun h => by have := h.1; omega), if_neg (by rintro ⟨_, h⟩; rw [← HZ.out] at h; simp at h)]
      have HC := Lib.hid hc; clear hc
      have g0 := cell_stays hb1 q0
      have g4 := cell_stays hb1 q4
      have g5 := cell_stays hb1 q5
      clear q0 q1 q2 q3 q4 q5
      go_wp2_with fail
      all_goals
        go_ret
        exact ⟨ret_int (by rw [HC.out]; simp only [PT.number, PT.least, PT.most, Int.reduceEq, or_false, if_false, true_and, false_and, ne_eq, not_false_eq_true, bne_iff_ne, bne_eq_false_iff_eq] at *; (repeat' split) <;> omega), m0.trans (hb1.mono m0.size)⟩
  case inr.inr.inr.inr.inr.inr.inr.inr.inr.inl =>
    go_enter Try.func150, Try.ntmps150
    go_wp2_with fail
    refine (rnone_any _ _ _ _ _ _).mono ?_
    rintro e w1 ⟨rfl, hb1⟩
    obtain ⟨z, hz⟩ : ∃ z, z = v.none := ⟨_, rfl⟩
    rw [← PT.none_eq, ← hz]
    have HZ := Lib.hid hz; clear hz
    cases z
    · have hc : PT.node 10 v n len = 3 := by
        unfold PT.node; rw [if_neg (by omega), if_neg (fun h => by have := h.1; omega), if_pos ⟨by omega, HZ.out.symm⟩]
      have HC := Lib.hid hc; clear hc
      go_wp2_with fail
      go_ret
      exact ⟨ret_int (by rw [HC.out]), m0.trans (hb1.mono m0.size)⟩
    · have hc : PT.node 10 v n len = if PT.number 10 n ≠ 0 then PT.number 10 n else if (len : Int) < PT.least 10 then 4 else if PT.most 10 < (len : Int) then 5 else 0 := by
        unfold PT.node; rw [if_neg (by omega), if_neg (fun h => by have := h.1; omega), if_neg (by rintro ⟨_, h⟩; rw [← HZ.out] at h; simp at h)]
      have HC := Lib.hid hc; clear hc
      have g0 := cell_stays hb1 q0
      have g4 := cell_stays hb1 q4
      have g5 := cell_stays hb1 q5
      clear q0 q1 q2 q3 q4 q5
      go_wp2_with fail
      all_goals
        go_ret
        exact ⟨ret_int (by rw [HC.out]; simp only [PT.number, PT.least, PT.most, Int.reduceEq, or_false, if_false, true_and, false_and, ne_eq, not_false_eq_true, bne_iff_ne, bne_eq_false_iff_eq] at *; (repeat' split) <;> omega), m0.trans (hb1.mono m0.size)⟩
  case inr.inr.inr.inr.inr.inr.inr.inr.inr.inr.inl =>
    go_enter Try.func150, Try.ntmps150
    go_wp2_with fail
    refine (rnone_any _ _ _ _ _ _).mono ?_
    rintro e w1 ⟨rfl, hb1⟩
    obtain ⟨z, hz⟩ : ∃ z, z = v.none := ⟨_, rfl⟩
    rw [← PT.none_eq, ← hz]
    have HZ := Lib.hid hz; clear hz
    cases z
    · have hc : PT.node 11 v n len = 3 := by
        unfold PT.node; rw [if_neg (by omega), if_neg (fun h => by have := h.1; omega), if_pos ⟨by omega, HZ.out.symm⟩]
      have HC := Lib.hid hc; clear hc
      go_wp2_with fail
      go_ret
      exact ⟨ret_int (by rw [HC.out]), m0.trans (hb1.mono m0.size)⟩
    · have hc : PT.node 11 v n len = if PT.number 11 n ≠ 0 then PT.number 11 n else if (len : Int) < PT.least 11 then 4 else if PT.most 11 < (len : Int) then 5 else 0 := by
        unfold PT.node; rw [if_neg (by omega), if_neg (fun h => by have := h.1; omega), if_neg (by rintro ⟨_, h⟩; rw [← HZ.out] at h; simp at h)]
      have HC := Lib.hid hc; clear hc
      have g0 := cell_stays hb1 q0
      have g4 := cell_stays hb1 q4
      have g5 := cell_stays hb1 q5
      clear q0 q1 q2 q3 q4 q5
      go_wp2_with fail
      all_goals
        go_ret
        exact ⟨ret_int (by rw [HC.out]; simp only [PT.number, PT.least, PT.most, Int.reduceEq, or_false, if_false, true_and, false_and, ne_eq, not_false_eq_true, bne_iff_ne, bne_eq_false_iff_eq] at *; (repeat' split) <;> omega), m0.trans (hb1.mono m0.size)⟩
end Go.Proofs.Yteebbffecaeciaa
