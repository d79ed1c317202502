/- val.Cmp. -/
import Derived.Test.YtclmnpfdnhfbmaaVWalkA
namespace Go.Proofs.Ytclmnpfdnhfbmaa
open Go.RowKit

set_option maxRecDepth 100000 in
set_option maxHeartbeats 2000000 in
theorem cmp_any (N : Nat) : ∀ (s t : VT) (v u : Value) (w : World), s.size ≤ N → VIn w s v → VIn w t u →
    Calls Try.prog 21 #[v, u] w fun e w' => e = .returned (.int .i64 (VT.cmp s t)) ∧ Below w.heap.size w w' := by
  induction N with
  | zero => intro s t v u w h; have := VT.size_pos s; omega
  | succ N ih =>
    intro s t v u w hN hs ht
    obtain ⟨k, n, l⟩ := s
    obtain ⟨k', n', m⟩ := t
    obtain ⟨a, cap, hl, rfl, hr⟩ := hs.open
    obtain ⟨a', cap', hm, rfl, hr'⟩ := ht.open
    rw [VT.size] at hN
    have IH := Lib.hid ih; clear ih hs ht
    by_cases hk : k = k'
    · subst hk
      by_cases hlf : k = 1 ∨ k = 2
      · have hb : leafB k = true := by unfold leafB; simpa using hlf
        go_enter Try.func21, Try.ntmps21
        go_wp2_with (first | (go_at_call 59; refine (leaf_any _ _).mono ?_; rintro e w' ⟨rfl, rfl⟩) | (go_at_call 60; refine (cmp64 _ _ _).mono ?_; rintro e w' ⟨rfl, rfl⟩))
        go_ret
        exact ⟨ret_int (by rw [VT.cmp, if_neg (by simp), if_pos hlf]), ((Below.refl _ _).alloc (Nat.le_refl _) _).alloc (by simp) _⟩
      · have hb : leafB k = false := by unfold leafB; simpa using hlf
        by_cases hrow : k = 3 ∨ k = 4
        · have hmn : l.length ≤ m.length ∨ ¬ l.length ≤ m.length := Decidable.em _
          rcases hrow with rfl | rfl <;> rcases hmn with hmn | hmn
          all_goals
            go_enter Try.func21, Try.ntmps21
            go_wp2_with (first | (go_at_call 59; refine (leaf_any _ _).mono ?_; rintro e w' ⟨rfl, rfl⟩))
            go_loopw [43] (fun x wr => ∃ i : Nat, x = .int .i64 i ∧ i ≤ l.length ∧ i ≤ m.length ∧ VT.cmpAll l m = VT.cmpAll (l.drop i) (m.drop i) ∧ Below w.heap.size w wr ∧ wr.cell? ⟨w.heap.size, 2, none⟩ = some (.slice a l.length cap) ∧ wr.cell? ⟨w.heap.size + 1, 2, none⟩ = some (.slice a' m.length cap') ∧ w.heap.size + 1 < wr.heap.size) (fun x _ => l.length - (intOf x).toNat)
            case atStart => exact ⟨0, rfl, by omega, by omega, by simp, ((Below.refl _ _).alloc (Nat.le_refl _) _).alloc (by simp) _, by go_simp, by go_simp, by simp⟩
            case round =>
              obtain ⟨i, rfl, hi, hi', hc, hb, c2, c2', hsz⟩ := hrel
              have HC := Lib.hid hc; clear hc
              by_cases hlt : i < l.length ∧ i < m.length
              · obtain ⟨hlt, hlt'⟩ := hlt
                obtain ⟨b, o, rfl, ax, cx, d0, d1, d2, hv⟩ := (hr.below hb).got i hlt
                obtain ⟨b', o', rfl, ay, cy, d0', d1', d2', hv'⟩ := (hr'.below hb).got i hlt'
                have hsl := VT.sizes_get hlt
                have HD := Lib.hid (VT.cmpAll_drop hlt hlt')
                by_cases he : VT.cmp l[i] m[i] = 0
                · have HE := Lib.hid he
                  go_wp2_with fail
                  refine region_tail 10 (by kernel_rfl) (by kernel_rfl) ?_
                  simp only [List.take_succ_cons, List.take_zero, List.drop_succ_cons, List.drop_zero]
                  repeat still_step
                  refine wpStill_nil ?_
                  go_wp2_with (go_at_call 21; refine (IH.out l[i] m[i] _ _ _ (by omega) (hv.below (Below.refl _ _).drew) (hv'.below (Below.refl _ _).drew)).mono ?_; rintro e w1 ⟨rfl, hb1⟩; have e2 := cell_stays (w := wr.drew) hb1 c2; have e2' := cell_stays (w := wr.drew) hb1 c2')
                  go_roundw
                  case rel => exact ⟨i + 1, by go_num, by omega, by omega, by rw [HC.out, HD.out, if_pos HE.out], hb.drew.trans (hb1.mono (Nat.le_of_lt (Nat.lt_of_succ_lt hsz))), e2, e2', Nat.lt_of_lt_of_le hsz hb1.size⟩
                  case measure => simp [intOf]; omega
                · have HE := Lib.hid he
                  have he' : (VT.cmp l[i] m[i] != 0) = true := by simpa using he
                  go_wp2_with fail
                  refine region_tail 10 (by kernel_rfl) (by kernel_rfl) ?_
                  simp only [List.take_succ_cons, List.take_zero, List.drop_succ_cons, List.drop_zero]
                  repeat still_step
                  refine wpStill_nil ?_
                  go_wp2_with (go_at_call 21; refine (IH.out l[i] m[i] _ _ _ (by omega) (hv.below (Below.refl _ _).drew) (hv'.below (Below.refl _ _).drew)).mono ?_; rintro e w1 ⟨rfl, hb1⟩)
                  go_ret
                  exact ⟨ret_int (by rw [VT.cmp, if_neg (by simp), if_neg hlf, if_neg (by omega), HC.out, HD.out, if_neg HE.out]), hb.drew.trans (hb1.mono (Nat.le_of_lt (Nat.lt_of_succ_lt hsz)))⟩
              · have HD := Lib.hid (VT.cmpAll_end (l := l) (m := m) (i := i) (by omega))
                go_wp2_with (go_at_call 61; refine (cmpInt _ _ _).mono ?_; rintro e w' ⟨rfl, rfl⟩)
                go_ret
                exact ⟨ret_int (by rw [VT.cmp, if_neg (by simp), if_neg hlf, if_neg (by omega), HC.out, HD.out]), hb⟩
        · have h3 : ¬ k = 3 := fun h => hrow (.inl h)
          have h4 : ¬ k = 4 := fun h => hrow (.inr h)
          have h3b : (k != 3) = true := by simpa using h3
          have h4b : (k != 4) = true := by simpa using h4
          go_enter Try.func21, Try.ntmps21
          go_wp2_with (first | (go_at_call 59; refine (leaf_any _ _).mono ?_; rintro e w' ⟨rfl, rfl⟩))
          go_ret
          exact ⟨ret_int (by rw [VT.cmp, if_neg (by simp), if_neg hlf, if_pos ⟨h3, h4⟩]), ((Below.refl _ _).alloc (Nat.le_refl _) _).alloc (by simp) _⟩
    · go_enter Try.func21, Try.ntmps21
      go_wp2_with (first | (go_at_call 58; refine (cmp8 _ _ _).mono ?_; rintro e w' ⟨rfl, rfl⟩))
      go_ret
      exact ⟨ret_int (by rw [VT.cmp, if_pos hk]), ((Below.refl _ _).alloc (Nat.le_refl _) _).alloc (by simp) _⟩
end Go.Proofs.Ytclmnpfdnhfbmaa
