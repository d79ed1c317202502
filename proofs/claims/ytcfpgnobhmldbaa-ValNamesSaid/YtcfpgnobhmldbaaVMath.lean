/- The order of values, on trees: plain law. -/
import Derived.Test.YtcfpgnobhmldbaaVBase
namespace Go.Proofs.Ytcfpgnobhmldbaa

theorem cmpI_range (x y : Int) : -1 ≤ cmpI x y ∧ cmpI x y ≤ 1 := by unfold cmpI; split <;> (try split) <;> omega
theorem cmpI_anti (x y : Int) : cmpI y x = - cmpI x y := by unfold cmpI; split <;> (try split) <;> (try split) <;> omega
theorem cmpI_zero (x y : Int) : cmpI x y = 0 ↔ x = y := by unfold cmpI; split <;> (try split) <;> omega
theorem cmpI_neg (x y : Int) : cmpI x y < 0 ↔ x < y := by unfold cmpI; split <;> (try split) <;> omega
theorem cmpI_le (x y : Int) : cmpI x y ≤ 0 ↔ x ≤ y := by unfold cmpI; split <;> (try split) <;> omega

mutual
theorem VT.cmp_range : ∀ a b : VT, -1 ≤ VT.cmp a b ∧ VT.cmp a b ≤ 1
  | .mk k n l, .mk k' n' l' => by
    rw [VT.cmp]
    have h1 := cmpI_range k k'
    have h2 := cmpI_range n n'
    have h3 := VT.cmpAll_range l l'
    split
    · exact h1
    · split
      · exact h2
      · split
        · omega
        · exact h3
theorem VT.cmpAll_range : ∀ l m : List VT, -1 ≤ VT.cmpAll l m ∧ VT.cmpAll l m ≤ 1
  | [], [] => by simp [VT.cmpAll]
  | [], _ :: _ => by simp [VT.cmpAll]
  | _ :: _, [] => by simp [VT.cmpAll]
  | a :: l, b :: m => by
    rw [VT.cmpAll]
    split
    · exact VT.cmpAll_range l m
    · exact VT.cmp_range a b
end
mutual
theorem VT.cmp_anti : ∀ a b : VT, VT.cmp b a = - VT.cmp a b
  | .mk k n l, .mk k' n' l' => by
    rw [VT.cmp, VT.cmp]
    by_cases hk : k = k'
    · subst hk
      simp only [ne_eq, not_true_eq_false, if_false]
      by_cases h1 : k = 1 ∨ k = 2
      · rw [if_pos h1, if_pos h1]; exact cmpI_anti n n'
      · rw [if_neg h1, if_neg h1]
        by_cases h2 : ¬ k = 3 ∧ ¬ k = 4
        · rw [if_pos h2, if_pos h2]; rfl
        · rw [if_neg h2, if_neg h2]; exact VT.cmpAll_anti l l'
    · rw [if_pos (Ne.symm hk), if_pos hk]; exact cmpI_anti k k'
theorem VT.cmpAll_anti : ∀ l m : List VT, VT.cmpAll m l = - VT.cmpAll l m
  | [], [] => by simp [VT.cmpAll]
  | [], _ :: _ => by simp [VT.cmpAll]
  | _ :: _, [] => by simp [VT.cmpAll]
  | a :: l, b :: m => by
    rw [VT.cmpAll, VT.cmpAll, VT.cmp_anti a b, VT.cmpAll_anti l m]
    by_cases h : VT.cmp a b = 0
    · rw [if_pos h, if_pos (by omega)]
    · rw [if_neg h, if_neg (by omega)]
end
mutual
theorem VT.cmp_refl : ∀ a : VT, VT.cmp a a = 0
  | .mk k n l => by
    rw [VT.cmp, VT.cmpAll_refl l]
    simp only [ne_eq, not_true_eq_false, if_false]
    have : cmpI n n = 0 := (cmpI_zero n n).2 rfl
    split <;> (try split) <;> first | assumption | rfl
theorem VT.cmpAll_refl : ∀ l : List VT, VT.cmpAll l l = 0
  | [] => by rw [VT.cmpAll]
  | a :: l => by rw [VT.cmpAll, VT.cmp_refl a, if_pos rfl, VT.cmpAll_refl l]
end
mutual
/-- equal in the order: carried on. -/
theorem VT.cmp_eq : ∀ a b c : VT, VT.cmp a b = 0 → VT.cmp b c = VT.cmp a c
  | .mk k n l, .mk k' n' l', .mk k2 n2 l2, h => by
    rw [VT.cmp] at h
    by_cases hk : k = k'
    · subst hk
      simp only [ne_eq, not_true_eq_false, if_false] at h
      rw [VT.cmp, VT.cmp]
      by_cases hk2 : k = k2
      · subst hk2
        simp only [ne_eq, not_true_eq_false, if_false]
        by_cases h1 : k = 1 ∨ k = 2
        · rw [if_pos h1] at h ⊢
          rw [if_pos h1, (cmpI_zero _ _).1 h]
        · rw [if_neg h1] at h ⊢
          rw [if_neg h1]
          by_cases h2 : ¬ k = 3 ∧ ¬ k = 4
          · rw [if_pos h2, if_pos h2]
          · rw [if_neg h2] at h ⊢
            rw [if_neg h2]
            exact VT.cmpAll_eq l l' l2 h
      · rw [if_pos hk2, if_pos hk2]
    · rw [if_pos hk] at h
      exact absurd ((cmpI_zero _ _).1 h) hk
theorem VT.cmpAll_eq : ∀ l m n : List VT, VT.cmpAll l m = 0 → VT.cmpAll m n = VT.cmpAll l n
  | [], [], _, _ => rfl
  | [], _ :: _, _, h => by simp [VT.cmpAll] at h
  | _ :: _, [], _, h => by simp [VT.cmpAll] at h
  | a :: l, b :: m, [], h => by rw [VT.cmpAll, VT.cmpAll]
  | a :: l, b :: m, c :: n, h => by
    rw [VT.cmpAll] at h
    by_cases h0 : VT.cmp a b = 0
    · rw [if_pos h0] at h
      rw [VT.cmpAll, VT.cmpAll, VT.cmp_eq a b c h0, VT.cmpAll_eq l m n h]
    · rw [if_neg h0] at h; exact absurd h h0
end
mutual
/-- less, and less: less. -/
theorem VT.cmp_lt : ∀ a b c : VT, VT.cmp a b < 0 → VT.cmp b c < 0 → VT.cmp a c < 0
  | .mk k n l, .mk k' n' l', .mk k2 n2 l2, h, g => by
    rw [VT.cmp] at h g ⊢
    by_cases hk : k = k'
    · subst hk
      by_cases hk2 : k = k2
      · subst hk2
        simp only [ne_eq, not_true_eq_false, if_false] at h g ⊢
        by_cases h1 : k = 1 ∨ k = 2
        · rw [if_pos h1] at h g ⊢
          rw [cmpI_neg] at h g ⊢; omega
        · rw [if_neg h1] at h g ⊢
          by_cases h2 : ¬ k = 3 ∧ ¬ k = 4
          · rw [if_pos h2] at h; omega
          · rw [if_neg h2] at h g ⊢
            exact VT.cmpAll_lt l l' l2 h g
      · rw [if_pos hk2] at g ⊢; exact g
    · by_cases hk2 : k' = k2
      · subst hk2
        rw [if_pos hk] at h ⊢; exact h
      · rw [if_pos hk] at h
        rw [if_pos hk2] at g
        rw [cmpI_neg] at h g
        rw [if_pos (by omega), cmpI_neg]; omega
theorem VT.cmpAll_lt : ∀ l m n : List VT, VT.cmpAll l m < 0 → VT.cmpAll m n < 0 → VT.cmpAll l n < 0
  | [], [], _, h, _ => by simp [VT.cmpAll] at h
  | [], _ :: _, [], _, g => by simp [VT.cmpAll] at g
  | [], _ :: _, _ :: _, _, _ => by simp [VT.cmpAll]
  | _ :: _, [], _, h, _ => by simp [VT.cmpAll] at h
  | _ :: _, _ :: _, [], _, g => by simp [VT.cmpAll] at g
  | a :: l, b :: m, c :: n, h, g => by
    rw [VT.cmpAll] at h g ⊢
    by_cases h0 : VT.cmp a b = 0
    · rw [if_pos h0] at h
      rw [VT.cmp_eq a b c h0] at g
      by_cases g0 : VT.cmp a c = 0
      · rw [if_pos g0] at g ⊢
        exact VT.cmpAll_lt l m n h g
      · rw [if_neg g0] at g ⊢; exact g
    · rw [if_neg h0] at h
      by_cases g0 : VT.cmp b c = 0
      · rw [if_pos g0] at g
        have e1 := VT.cmp_eq c b a (by have := VT.cmp_anti b c; omega)
        have e2 := VT.cmp_anti a b
        have e3 := VT.cmp_anti a c
        rw [if_neg (by omega)]; omega
      · rw [if_neg g0] at g
        have := VT.cmp_lt a b c h g
        rw [if_neg (by omega)]; exact this
end
mutual
/-- of values that may be, equal in the order is the same. -/
theorem VT.cmp_same : ∀ a b : VT, a.first = 0 → b.first = 0 → VT.cmp a b = 0 → a = b
  | .mk k n l, .mk k' n' l', ha, hb, h => by
    rw [VT.first] at ha hb
    have wa : VT.wrong k n l.length = 0 := by
      by_cases e : VT.wrong k n l.length = 0
      · exact e
      · rw [if_pos e] at ha; exact ha
    have wb : VT.wrong k' n' l'.length = 0 := by
      by_cases e : VT.wrong k' n' l'.length = 0
      · exact e
      · rw [if_pos e] at hb; exact hb
    rw [if_neg (by omega)] at ha hb
    rw [VT.cmp] at h
    by_cases hk : k = k'
    · subst hk
      simp only [ne_eq, not_true_eq_false, if_false] at h
      by_cases h1 : k = 1 ∨ k = 2
      · rw [if_pos h1] at h
        obtain rfl := (cmpI_zero _ _).1 h
        have la : l.length = 0 := by unfold VT.wrong at wa; (repeat' split at wa) <;> omega
        have lb : l'.length = 0 := by unfold VT.wrong at wb; (repeat' split at wb) <;> omega
        rw [List.length_eq_zero_iff.1 la, List.length_eq_zero_iff.1 lb]
      · rw [if_neg h1] at h
        by_cases h2 : ¬ k = 3 ∧ ¬ k = 4
        · unfold VT.wrong at wa; (repeat' split at wa) <;> omega
        · rw [if_neg h2] at h
          have na : n = 0 := by unfold VT.wrong at wa; (repeat' split at wa) <;> omega
          have nb : n' = 0 := by unfold VT.wrong at wb; (repeat' split at wb) <;> omega
          rw [na, nb, VT.cmpAll_same l l' ha hb h]
    · rw [if_pos hk] at h
      exact absurd ((cmpI_zero _ _).1 h) hk
theorem VT.cmpAll_same : ∀ l m : List VT, VT.firsts l = 0 → VT.firsts m = 0 → VT.cmpAll l m = 0 → l = m
  | [], [], _, _, _ => rfl
  | [], _ :: _, _, _, h => by simp [VT.cmpAll] at h
  | _ :: _, [], _, _, h => by simp [VT.cmpAll] at h
  | a :: l, b :: m, ha, hb, h => by
    rw [VT.firsts] at ha hb
    have fa : a.first = 0 := by
      by_cases e : a.first = 0
      · exact e
      · rw [if_pos e] at ha; exact ha
    have fb : b.first = 0 := by
      by_cases e : b.first = 0
      · exact e
      · rw [if_pos e] at hb; exact hb
    rw [if_neg (by omega)] at ha hb
    rw [VT.cmpAll] at h
    by_cases h0 : VT.cmp a b = 0
    · rw [if_pos h0] at h
      rw [VT.cmp_same a b fa fb h0, VT.cmpAll_same l m ha hb h]
    · rw [if_neg h0] at h; exact absurd h h0
end
theorem VT.may_first {a : VT} (h : a.may = true) : a.first = 0 := by
  unfold VT.may VT.check at h
  by_cases e : a.first = 0
  · exact e
  · rw [if_pos e] at h; simpa using h
end Go.Proofs.Ytcfpgnobhmldbaa
