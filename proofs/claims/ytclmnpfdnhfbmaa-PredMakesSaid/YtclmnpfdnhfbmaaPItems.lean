/- PredItems: the plain law. -/
import Derived.Test.YtclmnpfdnhfbmaaPMath
import Derived.Test.YtclmnpfdnhfbmaaPAll
import Derived.Test.YtclmnpfdnhfbmaaPMake
namespace Go.Proofs.Ytclmnpfdnhfbmaa
open Go.RowKit

theorem PT.hold_may {t : PT} (h : t.may = true) (X : VT) : t.hold X = t.holds X := by unfold PT.hold; rw [h]; rfl
theorem PT.nodes_one {k n : Int} {t : PT} (hk : ¬ (k = 3 ∨ k = 4)) : PT.nodes (.mk k vNone n [t]) = 1 + t.nodes := by
  rw [PT.nodes, if_neg hk, PT.nodess, PT.nodess]; omega
theorem PT.deep_one {k n : Int} {v : VT} {t : PT} : PT.deep (.mk k v n [t]) = t.deep + 1 := by
  rw [PT.deep, PT.deeps, PT.deeps]; omega
theorem PT.may_one {k : Int} {t : PT} (hk : k = 5 ∨ k = 9 ∨ k = 10 ∨ k = 11) (h : t.allT = true) : PT.may (.mk k vNone 0 [t]) = true := by
  rw [PT.allT_iff] at h
  have hm := (PT.may_iff t).1 h.1
  rw [PT.may_iff, PT.deep_one, PT.nodes_one (by omega)]
  unfold vNone
  rw [PT.good_one hk rfl]
  exact ⟨hm.1, by omega, by omega⟩
theorem PT.may_at {n : Int} {t : PT} (h0 : 0 ≤ n) (h1 : n ≤ 64) (h : t.allT = true) : PT.may (.mk 8 vNone n [t]) = true := by
  rw [PT.allT_iff] at h
  have hm := (PT.may_iff t).1 h.1
  rw [PT.may_iff, PT.deep_one, PT.nodes_one (by omega)]
  unfold vNone
  rw [PT.good_at h0 h1]
  exact ⟨hm.1, by omega, by omega⟩
theorem PT.hold_no {k n : Int} {t : PT} {X : VT} (hk : 8 ≤ k) (hX : ¬ (X.kind = 3 ∨ X.kind = 4)) : PT.hold (.mk k vNone n [t]) X = false := by
  unfold PT.hold; rw [PT.holdsN _ _ _ _ k hk hX, Bool.and_false]
theorem all_count {α : Type} (f : α → Bool) (l : List α) : l.all f = decide (l.countP f = l.length) := by
  rw [Bool.eq_iff_iff, List.all_eq_true, decide_eq_true_eq, List.countP_eq_length]
theorem any_count {α : Type} (f : α → Bool) (l : List α) : l.any f = decide (0 < l.countP f) := by
  rw [Bool.eq_iff_iff, List.any_eq_true, decide_eq_true_eq, List.countP_pos_iff]
theorem count_upto {α : Type} {f : α → Bool} {l : List α} {i : Nat} (h : i < l.length) : (l.take (i + 1)).countP f = (l.take i).countP f + if f l[i] = true then 1 else 0 := by
  rw [List.take_add_one, List.getElem?_eq_getElem h, Option.toList_some, List.countP_append, List.countP_singleton]
end Go.Proofs.Ytclmnpfdnhfbmaa
