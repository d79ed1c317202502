/- When predicates may be; what makers' predicates hold of. -/
import Derived.Test.YtclmnpfdnhfbmaaPFacts
import Derived.Test.YtclmnpfdnhfbmaaPWalkF
namespace Go.Proofs.Ytclmnpfdnhfbmaa
open Go.RowKit

mutual
/-- nothing is wrong of any node by itself. -/
def PT.good : PT → Bool
  | .mk k v n l => decide (PT.node k v n l.length = 0) && PT.goods l
def PT.goods : List PT → Bool
  | [] => true
  | t :: ts => t.good && PT.goods ts
end
mutual
theorem PT.chk_iff : ∀ (t : PT) (p d : Int), (t.chk p d).2 = 0 ↔ (t.good = true ∧ d + t.deep ≤ 13)
  | .mk k v n l, p, d => by
    rw [PT.chk, PT.good, PT.deep]
    by_cases h1 : 12 < d
    · rw [if_pos h1]
      constructor
      · intro h; simp at h
      · intro h; exact absurd h.2 (by omega)
    · rw [if_neg h1]
      by_cases h2 : PT.node k v n l.length = 0
      · rw [if_neg (by simpa using h2), PT.chks_iff l (p + 1) d (by omega)]
        simp only [h2, decide_true, Bool.true_and]
        constructor
        · rintro ⟨h, h'⟩; exact ⟨h, by omega⟩
        · rintro ⟨h, h'⟩; exact ⟨h, by omega⟩
      · rw [if_pos h2]
        constructor
        · intro h; exact absurd h h2
        · intro h; simp [h2] at h
theorem PT.chks_iff : ∀ (l : List PT) (p d : Int) (_ : d ≤ 12), (PT.chks l p d).2 = 0 ↔ (PT.goods l = true ∧ d + 1 + PT.deeps l ≤ 13)
  | [], p, d, h => by rw [PT.chks, PT.goods, PT.deeps]; simp; omega
  | t :: ts, p, d, h => by
    rw [PT.chks, PT.goods, PT.deeps]
    have h1 := PT.chk_iff t p (d + 1)
    have h2 := PT.chks_iff ts (t.chk p (d + 1)).1 d h
    by_cases h3 : (t.chk p (d + 1)).2 = 0
    · rw [if_neg (by simpa using h3), h2, Bool.and_eq_true]
      have h4 := h1.1 h3
      constructor
      · rintro ⟨h5, h6⟩; exact ⟨⟨h4.1, h5⟩, by omega⟩
      · rintro ⟨h5, h6⟩; exact ⟨h5.2, by omega⟩
    · rw [if_pos h3, Bool.and_eq_true]
      constructor
      · intro h; exact absurd h h3
      · rintro ⟨h5, h6⟩; exact absurd (h1.2 ⟨h5.1, by omega⟩) h3
end
theorem PT.may_iff (t : PT) : t.may = true ↔ (t.good = true ∧ t.deep ≤ 12 ∧ t.nodes ≤ 512) := by
  have h := PT.chk_iff t 0 1
  have e : t.may = true ↔ t.check.2 = 0 := by simp [PT.may]
  rw [e]
  unfold PT.check
  by_cases h0 : (t.chk 0 1).2 = 0
  · rw [if_neg (by simpa using h0)]
    have := h.1 h0
    by_cases h1 : 512 < t.nodes
    · rw [if_pos h1]
      constructor
      · intro h; exact absurd h (by decide)
      · intro h; omega
    · rw [if_neg h1]
      exact ⟨fun _ => ⟨this.1, by omega, by omega⟩, fun _ => rfl⟩
  · rw [if_pos h0]
    constructor
    · intro h; exact absurd h h0
    · rintro ⟨h1, h2, h3⟩; exact absurd (h.2 ⟨h1, by omega⟩) h0
/-- the value that is none (as vNone of the makers' text). -/
theorem PT.good_one {k n : Int} {t : PT} (hk : k = 5 ∨ k = 9 ∨ k = 10 ∨ k = 11) (hn : n = 0) : PT.good (.mk k (.mk 0 0 []) n [t]) = t.good := by
  subst hn
  have : PT.node k (.mk 0 0 []) 0 1 = 0 := by rcases hk with rfl | rfl | rfl | rfl <;> decide
  rw [PT.good, PT.goods, PT.goods, List.length_singleton, this]; simp
theorem PT.good_at {n : Int} {t : PT} (h0 : 0 ≤ n) (h1 : n ≤ 64) : PT.good (.mk 8 (.mk 0 0 []) n [t]) = t.good := by
  have : PT.node 8 (.mk 0 0 []) n 1 = 0 := by
    unfold PT.node PT.number PT.least PT.most VT.none
    simp [VT.kind, VT.num, VT.items]
    omega
  rw [PT.good, PT.goods, PT.goods, List.length_singleton, this]; simp
theorem PT.good_and {k : Int} {l : List PT} (hk : k = 6 ∨ k = 7) : PT.good (.mk k (.mk 0 0 []) 0 l) = (decide (l.length ≤ 64) && PT.goods l) := by
  rw [PT.good]
  congr 1
  rw [decide_eq_decide]
  rcases hk with rfl | rfl
  all_goals
    unfold PT.node PT.number PT.least PT.most VT.none
    simp [VT.kind, VT.num, VT.items]
    omega
theorem PT.good_leaf {k : Int} (hk : k = 1 ∨ k = 2) : PT.good (.mk k (.mk 0 0 []) 0 []) = true := by rcases hk with rfl | rfl <;> decide
theorem PT.good_val {k : Int} {v : VT} (hk : k = 3 ∨ k = 4) : PT.good (.mk k v 0 []) = v.may := by
  have : PT.node k v 0 0 = v.check := by
    unfold PT.node PT.number PT.least PT.most
    rcases hk with rfl | rfl
    all_goals
      simp
      intro h; exact h.symm
  rw [PT.good, PT.goods, List.length_nil, this, Bool.and_true]
  unfold VT.may
  rw [Bool.eq_iff_iff]; simp
end Go.Proofs.Ytclmnpfdnhfbmaa
