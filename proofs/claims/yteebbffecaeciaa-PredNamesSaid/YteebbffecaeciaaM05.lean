/- Texts of this claim laid into one: VRefA, VRefB. -/
import Derived.Test.YteebbffecaeciaaM01
/- tombolaref14.Size, Deep, node, all, Check. -/
namespace Go.Proofs.Yteebbffecaeciaa
open Go.RowKit

theorem VT.sizes_upto {l : List VT} {i : Nat} (h : i < l.length) : VT.sizes (l.take (i + 1)) = VT.sizes (l.take i) + l[i].size := by
  induction l generalizing i with
  | nil => simp at h
  | cons a l ih =>
    cases i with
    | zero => simp [VT.sizes]
    | succ i => simp only [List.take_succ_cons, VT.sizes, List.getElem_cons_succ]; rw [ih (by simpa using h)]; omega
theorem VT.deeps_upto {l : List VT} {i : Nat} (h : i < l.length) : VT.deeps (l.take (i + 1)) = max (VT.deeps (l.take i)) l[i].deep := by
  induction l generalizing i with
  | nil => simp at h
  | cons a l ih =>
    cases i with
    | zero => simp [VT.deeps]
    | succ i => simp only [List.take_succ_cons, VT.deeps, List.getElem_cons_succ]; rw [ih (by simpa using h)]; omega
theorem VT.sizes_upto_le (l : List VT) (i : Nat) : VT.sizes (l.take i) ≤ VT.sizes l := by
  induction l generalizing i with
  | nil => simp
  | cons a l ih => cases i with
    | zero => simp [VT.sizes]
    | succ i => simp only [List.take_succ_cons, VT.sizes]; have := ih i; omega
end Go.Proofs.Yteebbffecaeciaa
/- tombolaref14.all, Check. -/
namespace Go.Proofs.Yteebbffecaeciaa
open Go.RowKit

/-- what 'all' knows behind i items. -/
def VT.so (k n : Int) (l : List VT) (i : Nat) : Int := if VT.wrong k n l.length ≠ 0 then VT.wrong k n l.length else VT.firsts (l.take i)
end Go.Proofs.Yteebbffecaeciaa
