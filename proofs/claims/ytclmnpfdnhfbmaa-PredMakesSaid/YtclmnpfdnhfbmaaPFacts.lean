/- Plain facts of 'fit' and 'holds' on trees of predicates. -/
import Derived.Test.YtclmnpfdnhfbmaaPBase
namespace Go.Proofs.Ytclmnpfdnhfbmaa
open Go.RowKit

mutual
/-- each node is of a kind, with the arguments that it wants. -/
def PT.fit : PT → Bool
  | .mk k _ n l => decide (1 ≤ k) && decide (k ≤ 11) && (decide (k ≠ 8) || decide (0 ≤ n)) && decide (PT.least k ≤ l.length) && PT.fits l
def PT.fits : List PT → Bool
  | [] => true
  | t :: ts => t.fit && PT.fits ts
end
theorem PT.fits_mem : ∀ (l : List PT), PT.fits l = true → ∀ t ∈ l, t.fit = true
  | a :: l, h, t, ht => by
    rw [PT.fits, Bool.and_eq_true] at h
    rcases List.mem_cons.1 ht with rfl | ht
    · exact h.1
    · exact PT.fits_mem l h.2 t ht
theorem PT.fits_get {l : List PT} {i : Nat} (h : PT.fits l = true) (hi : i < l.length) : l[i].fit = true := PT.fits_mem l h _ (List.getElem_mem hi)
theorem PT.fst_eq {l : List PT} (h : 0 < l.length) (x : VT) : PT.fst l x = l[0].holds x := by
  cases l with
  | nil => simp at h
  | cons a l => rw [PT.fst]; rfl
theorem PT.every_drop {l : List PT} {i : Nat} (h : i < l.length) (x : VT) : PT.every (l.drop i) x = (l[i].holds x && PT.every (l.drop (i + 1)) x) := by rw [drop_cons h, PT.every]
theorem PT.some_drop {l : List PT} {i : Nat} (h : i < l.length) (x : VT) : PT.some (l.drop i) x = (l[i].holds x || PT.some (l.drop (i + 1)) x) := by rw [drop_cons h, PT.some]
section
variable (v : VT) (n : Int) (l : List PT) (x : VT)
theorem PT.holds1 : PT.holds (.mk 1 v n l) x = true := by rw [PT.holds]; simp
theorem PT.holds2 : PT.holds (.mk 2 v n l) x = false := by rw [PT.holds]; simp
theorem PT.holds3 : PT.holds (.mk 3 v n l) x = VT.same x v := by rw [PT.holds]; simp
theorem PT.holds4 : PT.holds (.mk 4 v n l) x = decide (VT.cmp x v < 0) := by rw [PT.holds]; simp
theorem PT.holds5 : PT.holds (.mk 5 v n l) x = !PT.fst l x := by rw [PT.holds]; simp
theorem PT.holds6 : PT.holds (.mk 6 v n l) x = PT.every l x := by rw [PT.holds]; simp
theorem PT.holds7 : PT.holds (.mk 7 v n l) x = PT.some l x := by rw [PT.holds]; simp
theorem PT.holdsN (k : Int) (h1 : 8 ≤ k) (h : ¬ (x.kind = 3 ∨ x.kind = 4)) : PT.holds (.mk k v n l) x = false := by
  rw [PT.holds, if_neg (by omega), if_neg (by omega), if_neg (by omega), if_neg (by omega), if_neg (by omega), if_neg (by omega), if_neg (by omega), if_pos h]
theorem PT.holds8 (h : x.kind = 3 ∨ x.kind = 4) : PT.holds (.mk 8 v n l) x = if h : 0 ≤ n ∧ n.toNat < x.items.length then PT.fst l x.items[n.toNat] else false := by rw [PT.holds]; simp [h]
theorem PT.holds9 (h : x.kind = 3 ∨ x.kind = 4) : PT.holds (.mk 9 v n l) x = x.items.all (fun i => PT.fst l i) := by rw [PT.holds]; simp [h]
theorem PT.holds10 (h : x.kind = 3 ∨ x.kind = 4) : PT.holds (.mk 10 v n l) x = x.items.any (fun i => PT.fst l i) := by rw [PT.holds]; simp [h]
theorem PT.holds11 (h : x.kind = 3 ∨ x.kind = 4) : PT.holds (.mk 11 v n l) x = PT.fst l (.mk 1 x.items.length []) := by rw [PT.holds]; simp [h]
end
theorem all_upto {α : Type} {f : α → Bool} {l : List α} {i : Nat} (h : i < l.length) : (l.take (i + 1)).all f = ((l.take i).all f && f l[i]) := by
  rw [List.take_add_one, List.getElem?_eq_getElem h, Option.toList_some, List.all_append]; simp
theorem any_upto {α : Type} {f : α → Bool} {l : List α} {i : Nat} (h : i < l.length) : (l.take (i + 1)).any f = ((l.take i).any f || f l[i]) := by
  rw [List.take_add_one, List.getElem?_eq_getElem h, Option.toList_some, List.any_append]; simp
end Go.Proofs.Ytclmnpfdnhfbmaa
