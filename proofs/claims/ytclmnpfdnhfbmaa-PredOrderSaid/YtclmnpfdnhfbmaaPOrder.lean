/- PredOrder: the plain law. -/
import Derived.Test.YtclmnpfdnhfbmaaPItems
import Derived.Test.YtclmnpfdnhfbmaaVMath
namespace Go.Proofs.Ytclmnpfdnhfbmaa
open Go.RowKit

theorem PT.may_val {k : Int} {v : VT} (hk : k = 3 ∨ k = 4) (h : v.may = true) (hs : v.size ≤ 250) : PT.may (.mk k v 0 []) = true := by
  rw [PT.may_iff, PT.good_val hk, PT.deep, PT.deeps, PT.nodes, if_pos hk, PT.nodess]
  exact ⟨h, by omega, by omega⟩
theorem PT.hold_less {v x : VT} (h : v.may = true) (hs : v.size ≤ 250) : PT.hold (.mk 4 v 0 []) x = decide (VT.cmp x v < 0) := by
  rw [PT.hold_may (PT.may_val (.inr rfl) h hs), PT.holds4]
theorem PT.hold_eq {v x : VT} (h : v.may = true) (hs : v.size ≤ 250) : PT.hold (.mk 3 v 0 []) x = VT.same x v := by
  rw [PT.hold_may (PT.may_val (.inl rfl) h hs), PT.holds3]
/-- neither less nor the same. -/
def tNeither (v : VT) : PT := .mk 5 vNone 0 [.mk 7 vNone 0 [.mk 4 v 0 [], .mk 3 v 0 []]]
theorem PT.hold_neither {v x : VT} (h : v.may = true) (hs : v.size ≤ 250) : PT.hold (tNeither v) x = !(decide (VT.cmp x v < 0) || VT.same x v) := by
  have hm : (tNeither v).may = true := by
    rw [PT.may_iff]
    unfold tNeither vNone
    refine ⟨?_, ?_, ?_⟩
    · rw [PT.good_one (.inl rfl) rfl, PT.good_and (.inr rfl)]
      simp only [List.length_cons, List.length_nil, PT.goods, PT.good_val (.inr rfl : (4 : Int) = 3 ∨ (4 : Int) = 4), PT.good_val (.inl rfl : (3 : Int) = 3 ∨ (3 : Int) = 4), h]
      rfl
    · simp only [PT.deep, PT.deeps]; omega
    · simp only [PT.nodes, PT.nodess]
      simp
      omega
  rw [PT.hold_may hm]
  unfold tNeither
  rw [PT.holds5, PT.fst, PT.holds7, PT.some, PT.some, PT.some, PT.holds4, PT.holds3, Bool.or_false]
/-- of values that may be just one holds. -/
structure OrdLaw (V W X : VT) (less same more : Bool) : Prop where
  one : (less = true ∧ same = false ∧ more = false) ∨ (less = false ∧ same = true ∧ more = false) ∨ (less = false ∧ same = false ∧ more = true)
  neither : PT.hold (tNeither W) V = more
  next : less = true → VT.cmp W X ≤ 0 → PT.hold (.mk 4 X 0 []) V = true
theorem ord_law {V W X : VT} (hV : V.may = true) (hW : W.may = true) (hX : X.may = true) (sW : W.size ≤ 250) (sX : X.size ≤ 250) :
    OrdLaw V W X (decide (VT.cmp V W < 0)) (VT.same V W) (decide (VT.cmp W V < 0)) := by
  have hanti := VT.cmp_anti V W
  have hsame : VT.same V W = true ↔ VT.cmp V W = 0 := by
    rw [VT.same_iff]
    exact ⟨fun h => by rw [h]; exact VT.cmp_refl _, fun h => VT.cmp_same V W (VT.may_first hV) (VT.may_first hW) h⟩
  refine ⟨?_, ?_, fun h1 h2 => ?_⟩
  · rcases Int.lt_trichotomy (VT.cmp V W) 0 with h | h | h
    · exact .inl ⟨by simpa using h, by rw [Bool.eq_false_iff, ne_eq, hsame]; omega, by simp; omega⟩
    · exact .inr (.inl ⟨by simp; omega, hsame.2 h, by simp; omega⟩)
    · exact .inr (.inr ⟨by simp; omega, by rw [Bool.eq_false_iff, ne_eq, hsame]; omega, by simp; omega⟩)
  · rw [PT.hold_neither hW sW]
    rcases Int.lt_trichotomy (VT.cmp V W) 0 with h | h | h
    · rw [decide_eq_true h, decide_eq_false (by omega)]; rfl
    · rw [decide_eq_false (by omega), hsame.2 h, decide_eq_false (by omega)]; rfl
    · have : VT.same V W = false := by rw [Bool.eq_false_iff, ne_eq, hsame]; omega
      rw [decide_eq_false (by omega), this, decide_eq_true (by omega)]; rfl
  · rw [PT.hold_less hX sX, decide_eq_true_eq]
    have h1' : VT.cmp V W < 0 := by simpa using h1
    rcases Int.lt_or_eq_of_le h2 with h | h
    · exact VT.cmp_lt V W X h1' h
    · have e := VT.cmp_eq W X V h
      have a1 := VT.cmp_anti V X
      have a2 := VT.cmp_anti V W
      omega
end Go.Proofs.Ytclmnpfdnhfbmaa
