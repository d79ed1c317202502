/- tombolaref14.Cmp. -/
import Derived.Test.YtclmnpfdnhfbmaaVBox
namespace Go.Proofs.Ytclmnpfdnhfbmaa
open Go.RowKit

set_option maxRecDepth 100000 in
set_option maxHeartbeats 4000000 in
theorem rcmp_any (N : Nat) : ∀ (s t : VT) (v u : Value) (w : World), s.size ≤ N → VIn w s v → VIn w t u →
    Calls Try.prog 73 #[v, u] w fun e w' => e = .returned (.int .i64 (VT.cmp s t)) ∧ Below w.heap.size w w' := by
  induction N with
  | zero => intro s t v u w h; have := VT.size_pos s; omega
  | succ N ih =>
    intro s t v u w hN hs ht
    obtain ⟨k, n, l⟩ := s
    obtain ⟨k', n', m⟩ := t
    obtain ⟨a, cap, hl, rfl, hr⟩ := hs.open
    obtain ⟨a', cap', hm, rfl, hr'⟩ := ht.open
    rw [VT.size] at hN
    have IH := Lib.hid ih; clear ih hs ht
    obtain ⟨w0, hw0, m0, s0, q0, q1, q2, _⟩ := box3 w (.int .u8 k) (.int .i64 n) (.slice a l.length cap) 24
    obtain ⟨w1, hw1, m1, s1, p0, p1, p2, _⟩ := box3 w0 (.int .u8 k') (.int .i64 n') (.slice a' m.length cap') 24
    have q0 := cell_stays m1 q0
    have q1 := cell_stays m1 q1
    have q2 := cell_stays m1 q2
    have hB0 : Below w.heap.size w w1 := m0.trans (m1.mono m0.size)
    have hr0 := hr.below hB0
    have hr0' := hr'.below hB0
    clear hr hr' m0 m1
    by_cases hk : k = k'
    · subst hk
      by_cases hlf : k = 1 ∨ k = 2
      · have hc : VT.cmp (.mk k n l) (.mk k n' m) = cmpI n n' := by rw [VT.cmp, if_neg (by simp), if_pos hlf]
        have HC := Lib.hid hc; clear hc
        rcases hlf with rfl | rfl <;> rcases Int.lt_trichotomy n n' with h | rfl | h
        all_goals
          go_enter Try.func73, Try.ntmps73
          go_wp2_with fail
          go_ret
          exact ⟨ret_int (by rw [HC.out]; unfold cmpI; split <;> (try split) <;> omega), hB0⟩
      · by_cases hrow : k = 3 ∨ k = 4
        · have hc : VT.cmp (.mk k n l) (.mk k n' m) = VT.cmpAll l m := by rw [VT.cmp, if_neg (by simp), if_neg hlf, if_neg (by omega)]
          have HC := Lib.hid hc; clear hc
          rcases hrow with rfl | rfl
          all_goals
            go_enter Try.func73, Try.ntmps73
            go_wp2_with fail
            go_loopw [5] (fun x wr => ∃ i : Nat, x = .int .i64 i ∧ i ≤ l.length ∧ i ≤ m.length ∧ VT.cmpAll l m = VT.cmpAll (l.drop i) (m.drop i) ∧ Below w1.heap.size w1 wr) (fun x _ => l.length - (intOf x).toNat)
            case atStart => exact ⟨0, rfl, by omega, by omega, by simp, Below.refl _ _⟩
            case round =>
              obtain ⟨i, rfl, hi, hi', hc, hb⟩ := hrel
              have HD0 := Lib.hid hc; clear hc
              have g0 := cell_stays hb q0
              have g1 := cell_stays hb q1
              have g2 := cell_stays hb q2
              have f0 := cell_stays hb p0
              have f1 := cell_stays hb p1
              have f2 := cell_stays hb p2
              by_cases hlt : i < l.length ∧ i < m.length
              · obtain ⟨hlt, hlt'⟩ := hlt
                obtain ⟨b, o, rfl, ax, cx, d0, d1, d2, hv⟩ := (hr0.below hb).got i hlt
                obtain ⟨b', o', rfl, ay, cy, d0', d1', d2', hv'⟩ := (hr0'.below hb).got i hlt'
                have hsl := VT.sizes_get hlt
                have HD := Lib.hid (VT.cmpAll_drop hlt hlt')
                by_cases he : VT.cmp l[i] m[i] = 0
                · have HE := Lib.hid he
                  go_wp2_with fail
                  refine region_tail 10 (by kernel_rfl) (by kernel_rfl) ?_
                  simp only [List.take_succ_cons, List.take_zero, List.drop_succ_cons, List.drop_zero]
                  repeat still_step
                  refine wpStill_nil ?_
                  go_wp2_with fail
                  refine (IH.out l[i] m[i] _ _ _ (by omega) (hv.below (Below.refl _ _).drew) (hv'.below (Below.refl _ _).drew)).mono ?_
                  rintro e w2 ⟨rfl, hb2⟩
                  rw [HE.out]
                  have hb3 := hb.drew.trans (hb2.mono hb.size)
                  clear g0 g1 g2 f0 f1 f2 d0 d1 d2 d0' d1' d2' hb2 he
                  go_wp2_with fail
                  go_roundw
                  case rel => exact ⟨i + 1, by go_num, by omega, by omega, by rw [HD0.out, HD.out, if_pos HE.out], hb3⟩
                  case measure => simp [intOf]; omega
                · have he' : (VT.cmp l[i] m[i] != 0) = true := by simpa using he
                  have HE := Lib.hid he; clear he
                  go_wp2_with fail
                  refine region_tail 10 (by kernel_rfl) (by kernel_rfl) ?_
                  simp only [List.take_succ_cons, List.take_zero, List.drop_succ_cons, List.drop_zero]
                  repeat still_step
                  refine wpStill_nil ?_
                  go_wp2_with fail
                  refine (IH.out l[i] m[i] _ _ _ (by omega) (hv.below (Below.refl _ _).drew) (hv'.below (Below.refl _ _).drew)).mono ?_
                  rintro e w2 ⟨rfl, hb2⟩
                  have hb3 := hb.drew.trans (hb2.mono hb.size)
                  clear g0 g1 g2 f0 f1 f2 d0 d1 d2 d0' d1' d2' hb2
                  go_wp2_with fail
                  go_ret
                  exact ⟨ret_int (by rw [HC.out, HD0.out, HD.out, if_neg HE.out]), hB0.trans (hb3.mono hB0.size)⟩
              · have HD := Lib.hid (VT.cmpAll_end (l := l) (m := m) (i := i) (by omega))
                have HE := Lib.hid hlt; clear hlt
                by_cases x1 : i < l.length <;> by_cases x2 : i < m.length <;> by_cases x3 : l.length < m.length <;> by_cases x4 : m.length < l.length
                all_goals
                  first
                  | (exfalso; have := HE.out; omega)
                  | (go_wp2_with fail
                     go_ret
                     exact ⟨ret_int (by rw [HC.out, HD0.out, HD.out]; unfold cmpI; split <;> (try split) <;> omega), hB0.trans (hb.mono hB0.size)⟩)
        · have hc : VT.cmp (.mk k n l) (.mk k n' m) = 0 := by rw [VT.cmp, if_neg (by simp), if_neg hlf, if_pos (by omega)]
          have HC := Lib.hid hc; clear hc
          have h1 : (k == 1) = false := by simp; omega
          have h2 : (k == 2) = false := by simp; omega
          have h3 : (k != 3) = true := by simp; omega
          have h4 : (k != 4) = true := by simp; omega
          go_enter Try.func73, Try.ntmps73
          go_wp2_with fail
          go_ret
          exact ⟨ret_int (by rw [HC.out]), hB0⟩
    · have hc : VT.cmp (.mk k n l) (.mk k' n' m) = cmpI k k' := by rw [VT.cmp, if_pos hk]
      have HC := Lib.hid hc; clear hc
      have hkb : (k != k') = true := by simpa using hk
      have hkk : decide (k < k') = true ∨ decide (k < k') = false := by cases h : decide (k < k') <;> simp
      have HK := Lib.hid hk; clear hk
      rcases hkk with h | h
      all_goals
        go_enter Try.func73, Try.ntmps73
        go_wp2_with fail
        go_ret
        exact ⟨ret_int (by rw [HC.out]; have := HK.out; simp at h; unfold cmpI; split <;> (try split) <;> omega), hB0⟩
end Go.Proofs.Ytclmnpfdnhfbmaa
