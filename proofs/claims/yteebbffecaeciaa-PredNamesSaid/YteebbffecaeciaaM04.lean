/- Texts of this claim laid into one: PWalkB. -/
import Derived.Test.YteebbffecaeciaaM01
import Derived.Test.YteebbffecaeciaaM03
/- pred.number, pred.node. -/
namespace Go.Proofs.Yteebbffecaeciaa
open Go.RowKit

set_option maxRecDepth 100000 in
set_option maxHeartbeats 2000000 in
theorem number_any (k vk vn n : Int) (va a : Option Addr) (vl vc len cap : Nat) (w : World) :
    Calls Try.prog 117 #[.agg #[.int .u8 k, .int .u8 vk, .int .i64 vn, .slice va vl vc, .int .i64 n, .slice a len cap]] w fun e w' => e = .returned (.int .i64 (PT.number k n)) ∧ Below w.heap.size w w' := by
  by_cases hk : k = 8
  · subst hk
    go_enter Try.func117, Try.ntmps117
    go_wp2_with fail
    all_goals
      go_ret
      exact ⟨ret_int (by unfold PT.number; split <;> (try split) <;> omega), Below.al _⟩
  · have h1 : (k == 8) = false := by simpa using hk
    have h2 : (k != 8) = true := by simpa using hk
    have HK := Lib.hid hk; clear hk
    cases h3 : (n != 0)
    all_goals
      go_enter Try.func117, Try.ntmps117
      go_wp2_with fail
      go_ret
      exact ⟨ret_int (by have := HK.out; simp at h3; unfold PT.number; split <;> (try split) <;> omega), Below.al _⟩

theorem PT.none_eq {v : VT} : v.none = (v.kind == 0 && v.num == 0 && v.items.length == 0) := rfl

set_option maxRecDepth 100000 in
set_option maxHeartbeats 8000000 in
theorem node_any (k n : Int) (v : VT) (va a : Option Addr) (vc len cap : Nat) (w : World) (hv : VIn w v (.agg #[.int .u8 v.kind, .int .i64 v.num, .slice va v.items.length vc])) (hs : v.size ≤ 100000) :
    Calls Try.prog 93 #[.agg #[.int .u8 k, .int .u8 v.kind, .int .i64 v.num, .slice va v.items.length vc, .int .i64 n, .slice a len cap]] w fun e w' => e = .returned (.int .i64 (PT.node k v n len)) ∧ Below w.heap.size w w' := by
  obtain ⟨w0, hw0, m0, s0, q0, q1, q2, q3, q4, q5⟩ := box6 w (.int .u8 k) (.int .u8 v.kind) (.int .i64 v.num) (.slice va v.items.length vc) (.int .i64 n) (.slice a len cap) 28
  have hv0 := hv.below m0
  have hB := Below.refl w0.heap.size w0
  by_cases hk : k < 1 ∨ 11 < k
  · have hc : PT.node k v n len = 11 := by unfold PT.node; rw [if_pos hk]
    have HC := Lib.hid hc; clear hc
    rcases hk with h | h
    all_goals
      go_enter Try.func93, Try.ntmps93
      go_wp2_with fail
      go_ret
      exact ⟨ret_int (by rw [HC.out]), m0⟩
  · have k1 : ¬ k < 1 := fun h => hk (.inl h)
    have k2 : ¬ 11 < k := fun h => hk (.inr h)
    go_enter Try.func93, Try.ntmps93
    go_wp2_with fail
    refine (hasValue_any k _).mono ?_
    rintro e w' ⟨rfl, rfl⟩
    obtain ⟨b, hb⟩ : ∃ b, b = decide (k = 3 ∨ k = 4) := ⟨_, rfl⟩
    rw [← hb]
    have HB := Lib.hid hb; clear hb
    have HK := Lib.hid hk; clear hk
    cases b
    · go_wp2_with fail
      refine (none_any _ _ _ _ _ _).mono ?_
      rintro e w1 ⟨rfl, hb1⟩
      obtain ⟨z, hz⟩ : ∃ z, z = v.none := ⟨_, rfl⟩
      rw [← PT.none_eq, ← hz]
      have HZ := Lib.hid hz; clear hz
      cases z
      · have hc : PT.node k v n len = 3 := by
          have h34 : ¬ (k = 3 ∨ k = 4) := by have := HB.out; simpa using this.symm
          unfold PT.node; rw [if_neg HK.out, if_neg (fun h => h34 h.1), if_pos ⟨h34, HZ.out.symm⟩]
        have HC := Lib.hid hc; clear hc
        go_wp2_with fail
        go_ret
        exact ⟨ret_int (by rw [HC.out]), m0.trans (hb1.mono m0.size)⟩
      · have hc : PT.node k v n len = if PT.number k n ≠ 0 then PT.number k n else if (len : Int) < PT.least k then 4 else if PT.most k < (len : Int) then 5 else 0 := by
          have h34 : ¬ (k = 3 ∨ k = 4) := by have := HB.out; simpa using this.symm
          unfold PT.node; rw [if_neg HK.out, if_neg (fun h => h34 h.1), if_neg (by rintro ⟨_, h⟩; rw [← HZ.out] at h; simp at h)]
        have HC := Lib.hid hc; clear hc
        have g0 := cell_stays hb1 q0
        have g1 := cell_stays hb1 q1
        have g2 := cell_stays hb1 q2
        have g3 := cell_stays hb1 q3
        have g4 := cell_stays hb1 q4
        have g5 := cell_stays hb1 q5
        clear q0 q1 q2 q3 q4 q5
        go_wp2_with fail
        refine (number_any _ _ _ _ _ _ _ _ _ _ _).mono ?_
        rintro e w2 ⟨rfl, hb2⟩
        have hB2 := hb1.trans (hb2.mono hb1.size)
        have p0 := cell_stays hb2 g0
        have p5 := cell_stays hb2 g5
        clear g0 g1 g2 g3 g4 g5 hb2
        obtain ⟨y, hy⟩ : ∃ y, y = PT.number k n := ⟨_, rfl⟩
        rw [← hy]
        rw [← hy] at HC
        clear hy
        by_cases hy0 : y = 0
        · subst hy0
          have hl : PT.least k ≤ 1 ∧ 0 ≤ PT.least k := by unfold PT.least; split <;> omega
          have hm : PT.most k ≤ 64 ∧ 0 ≤ PT.most k := by unfold PT.most; split <;> (try split) <;> omega
          go_wp2_with fail
          refine (room_any k _).mono ?_
          rintro e w' ⟨rfl, rfl⟩
          obtain ⟨x, hx⟩ : ∃ x, x = PT.least k := ⟨_, rfl⟩
          obtain ⟨y, hy⟩ : ∃ y, y = PT.most k := ⟨_, rfl⟩
          rw [← hx] at hl HC ⊢
          rw [← hy] at hm HC ⊢
          clear hx hy
          by_cases h1 : (len : Int) < x
          · go_wp2_with fail
            go_ret
            exact ⟨ret_int (by rw [HC.out, if_neg (by simp), if_pos h1]), m0.trans (hB2.mono m0.size)⟩
          · by_cases h2 : y < (len : Int)
            · go_wp2_with fail
              go_ret
              exact ⟨ret_int (by rw [HC.out, if_neg (by simp), if_neg (by omega), if_pos (by omega)]), m0.trans (hB2.mono m0.size)⟩
            · go_wp2_with fail
              go_ret
              exact ⟨ret_int (by rw [HC.out, if_neg (by simp), if_neg (by omega), if_neg (by omega)]), m0.trans (hB2.mono m0.size)⟩
        · have hyb : (y != 0) = true := by simpa using hy0
          have HY := Lib.hid hy0; clear hy0
          go_wp2_with fail
          go_ret
          exact ⟨ret_int (by rw [HC.out, if_pos HY.out]), m0.trans (hB2.mono m0.size)⟩
    · go_wp2_with fail
      refine (check_any v _ _ hs hv0).mono ?_
      rintro e w1 ⟨rfl, hb1⟩
      obtain ⟨z, hz⟩ : ∃ z, z = v.check := ⟨_, rfl⟩
      rw [← hz]
      have HZ := Lib.hid hz; clear hz
      by_cases hz0 : z = 0
      · have hc : PT.node k v n len = if PT.number k n ≠ 0 then PT.number k n else if (len : Int) < PT.least k then 4 else if PT.most k < (len : Int) then 5 else 0 := by
          have h34 : (k = 3 ∨ k = 4) := by have := HB.out; simpa using this.symm
          unfold PT.node; rw [if_neg HK.out, if_neg (by rw [← HZ.out, hz0]; simp), if_neg (by simp [h34])]
        subst hz0
        have HC := Lib.hid hc; clear hc
        have g0 := cell_stays hb1 q0
        have g1 := cell_stays hb1 q1
        have g2 := cell_stays hb1 q2
        have g3 := cell_stays hb1 q3
        have g4 := cell_stays hb1 q4
        have g5 := cell_stays hb1 q5
        clear q0 q1 q2 q3 q4 q5
        go_wp2_with fail
        refine (number_any _ _ _ _ _ _ _ _ _ _ _).mono ?_
        rintro e w2 ⟨rfl, hb2⟩
        have hB2 := hb1.trans (hb2.mono hb1.size)
        have p0 := cell_stays hb2 g0
        have p5 := cell_stays hb2 g5
        clear g0 g1 g2 g3 g4 g5 hb2
        obtain ⟨y, hy⟩ : ∃ y, y = PT.number k n := ⟨_, rfl⟩
        rw [← hy]
        rw [← hy] at HC
        clear hy
        by_cases hy0 : y = 0
        · subst hy0
          have hl : PT.least k ≤ 1 ∧ 0 ≤ PT.least k := by unfold PT.least; split <;> omega
          have hm : PT.most k ≤ 64 ∧ 0 ≤ PT.most k := by unfold PT.most; split <;> (try split) <;> omega
          go_wp2_with fail
          refine (room_any k _).mono ?_
          rintro e w' ⟨rfl, rfl⟩
          obtain ⟨x, hx⟩ : ∃ x, x = PT.least k := ⟨_, rfl⟩
          obtain ⟨y, hy⟩ : ∃ y, y = PT.most k := ⟨_, rfl⟩
          rw [← hx] at hl HC ⊢
          rw [← hy] at hm HC ⊢
          clear hx hy
          by_cases h1 : (len : Int) < x
          · go_wp2_with fail
            go_ret
            exact ⟨ret_int (by rw [HC.out, if_neg (by simp), if_pos h1]), m0.trans (hB2.mono m0.size)⟩
          · by_cases h2 : y < (len : Int)
            · go_wp2_with fail
              go_ret
              exact ⟨ret_int (by rw [HC.out, if_neg (by simp), if_neg (by omega), if_pos (by omega)]), m0.trans (hB2.mono m0.size)⟩
            · go_wp2_with fail
              go_ret
              exact ⟨ret_int (by rw [HC.out, if_neg (by simp), if_neg (by omega), if_neg (by omega)]), m0.trans (hB2.mono m0.size)⟩
        · have hyb : (y != 0) = true := by simpa using hy0
          have HY := Lib.hid hy0; clear hy0
          go_wp2_with fail
          go_ret
          exact ⟨ret_int (by rw [HC.out, if_pos HY.out]), m0.trans (hB2.mono m0.size)⟩
      · have hc : PT.node k v n len = z := by
          have h34 : (k = 3 ∨ k = 4) := by have := HB.out; simpa using this.symm
          unfold PT.node; rw [if_neg HK.out, if_pos ⟨h34, by rw [← HZ.out]; exact hz0⟩, HZ.out]
        have HC := Lib.hid hc; clear hc
        have hzb : (z != 0) = true := by simpa using hz0
        go_wp2_with fail
        go_ret
        exact ⟨ret_int (by rw [HC.out]), m0.trans (hb1.mono m0.size)⟩
end Go.Proofs.Yteebbffecaeciaa
