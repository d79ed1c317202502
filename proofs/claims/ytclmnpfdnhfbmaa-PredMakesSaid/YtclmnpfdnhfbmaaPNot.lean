/- PredNot: the plain law. -/
import Derived.Test.YtclmnpfdnhfbmaaPRows
namespace Go.Proofs.Ytclmnpfdnhfbmaa
open Go.RowKit

def tN (p : PT) : PT := .mk 5 vNone 0 [p]
def tA (l : List PT) : PT := .mk 6 vNone 0 l
def tO (l : List PT) : PT := .mk 7 vNone 0 l
def tAl (p : PT) : PT := .mk 9 vNone 0 [p]
def tAn (p : PT) : PT := .mk 10 vNone 0 [p]
def tYes : PT := .mk 1 vNone 0 []
def tNo : PT := .mk 2 vNone 0 []
theorem tN_good (p : PT) : (tN p).good = p.good := PT.good_one (.inl rfl) rfl
theorem tAl_good (p : PT) : (tAl p).good = p.good := PT.good_one (.inr (.inl rfl)) rfl
theorem tAn_good (p : PT) : (tAn p).good = p.good := PT.good_one (.inr (.inr (.inl rfl))) rfl
theorem tA_good (l : List PT) : (tA l).good = (decide (l.length ≤ 64) && PT.goods l) := PT.good_and (.inl rfl)
theorem tO_good (l : List PT) : (tO l).good = (decide (l.length ≤ 64) && PT.goods l) := PT.good_and (.inr rfl)
theorem tN_deep (p : PT) : (tN p).deep = p.deep + 1 := PT.deep_one
theorem tAl_deep (p : PT) : (tAl p).deep = p.deep + 1 := PT.deep_one
theorem tAn_deep (p : PT) : (tAn p).deep = p.deep + 1 := PT.deep_one
theorem tA_deep (l : List PT) : (tA l).deep = PT.deeps l + 1 := by rw [tA, PT.deep]
theorem tO_deep (l : List PT) : (tO l).deep = PT.deeps l + 1 := by rw [tO, PT.deep]
theorem tN_nodes (p : PT) : (tN p).nodes = 1 + p.nodes := PT.nodes_one (by omega)
theorem tAl_nodes (p : PT) : (tAl p).nodes = 1 + p.nodes := PT.nodes_one (by omega)
theorem tAn_nodes (p : PT) : (tAn p).nodes = 1 + p.nodes := PT.nodes_one (by omega)
theorem tA_nodes (l : List PT) : (tA l).nodes = 1 + PT.nodess l := by rw [tA, PT.nodes, if_neg (by omega)]
theorem tO_nodes (l : List PT) : (tO l).nodes = 1 + PT.nodess l := by rw [tO, PT.nodes, if_neg (by omega)]
/-- what of these predicates holds. -/
structure NotLaw (p q : PT) (X : VT) (hp hq : Bool) : Prop where
  n0 : PT.hold (tN p) X = !hp
  n1 : PT.hold (tN (tA [p, q])) X = !(hp && hq)
  n2 : PT.hold (tO [tN p, tN q]) X = !(hp && hq)
  n3 : PT.hold (tN (tO [p, q])) X = !(hp || hq)
  n4 : PT.hold (tA [tN p, tN q]) X = !(hp || hq)
  n5 : PT.hold (tN tYes) X = false
  n6 : PT.hold tNo X = false
theorem may3 {t : PT} (g : t.good = true) (d : t.deep ≤ 12) (n : t.nodes ≤ 512) : t.may = true := (PT.may_iff t).2 ⟨g, d, n⟩
theorem not_law {p q : PT} {X : VT} (h1 : p.allT = true) (h2 : q.allT = true) : NotLaw p q X (p.hold X) (q.hold X) := by
  rw [PT.allT_iff] at h1 h2
  have m1 := (PT.may_iff p).1 h1.1
  have m2 := (PT.may_iff q).1 h2.1
  have e1 := PT.hold_may h1.1 X
  have e2 := PT.hold_may h2.1 X
  rw [e1, e2]
  refine ⟨?_, ?_, ?_, ?_, ?_, by rfl, by rfl⟩
  · rw [PT.hold_may (may3 (by rw [tN_good, m1.1]) (by rw [tN_deep]; omega) (by rw [tN_nodes]; omega)), tN, PT.holds5, PT.fst]
  · rw [PT.hold_may (may3 (by rw [tN_good, tA_good, PT.goods, PT.goods, PT.goods, m1.1, m2.1]; rfl) (by rw [tN_deep, tA_deep]; simp only [PT.deeps]; omega) (by rw [tN_nodes, tA_nodes]; simp only [PT.nodess]; omega)), tN, PT.holds5, PT.fst, tA, PT.holds6, PT.every, PT.every, PT.every, Bool.and_true]
  · rw [PT.hold_may (may3 (by rw [tO_good, PT.goods, PT.goods, PT.goods, tN_good, tN_good, m1.1, m2.1]; rfl) (by rw [tO_deep]; simp only [PT.deeps, tN_deep]; omega) (by rw [tO_nodes]; simp only [PT.nodess, tN_nodes]; omega)), tO, PT.holds7, PT.some, PT.some, PT.some, tN, PT.holds5, tN, PT.holds5, PT.fst, PT.fst, Bool.or_false, Bool.not_and]
  · rw [PT.hold_may (may3 (by rw [tN_good, tO_good, PT.goods, PT.goods, PT.goods, m1.1, m2.1]; rfl) (by rw [tN_deep, tO_deep]; simp only [PT.deeps]; omega) (by rw [tN_nodes, tO_nodes]; simp only [PT.nodess]; omega)), tN, PT.holds5, PT.fst, tO, PT.holds7, PT.some, PT.some, PT.some, Bool.or_false]
  · rw [PT.hold_may (may3 (by rw [tA_good, PT.goods, PT.goods, PT.goods, tN_good, tN_good, m1.1, m2.1]; rfl) (by rw [tA_deep]; simp only [PT.deeps, tN_deep]; omega) (by rw [tA_nodes]; simp only [PT.nodess, tN_nodes]; omega)), tA, PT.holds6, PT.every, PT.every, PT.every, tN, PT.holds5, tN, PT.holds5, PT.fst, PT.fst, Bool.and_true, Bool.not_or]
/-- of a value that has no items none holds; of one that has the one is Not of the other. -/
theorem not_none {p : PT} {X : VT} (hX : ¬ (X.kind = 3 ∨ X.kind = 4)) : PT.hold (tAl p) X = false ∧ PT.hold (tAn p) X = false := ⟨PT.hold_no (by omega) hX, PT.hold_no (by omega) hX⟩
theorem not_row {p : PT} {X : VT} (h1 : p.allT = true) (hX : X.kind = 3 ∨ X.kind = 4) : PT.hold (tN (tAl p)) X = PT.hold (tAn (tN p)) X ∧ PT.hold (tN (tAn p)) X = PT.hold (tAl (tN p)) X := by
  rw [PT.allT_iff] at h1
  have m1 := (PT.may_iff p).1 h1.1
  have ev : ∀ x, PT.fst [tN p] x = !p.holds x := fun x => by rw [PT.fst, tN, PT.holds5, PT.fst]
  have e0 : ∀ x, PT.fst [p] x = p.holds x := fun x => by rw [PT.fst]
  constructor
  · rw [PT.hold_may (may3 (by rw [tN_good, tAl_good, m1.1]) (by rw [tN_deep, tAl_deep]; omega) (by rw [tN_nodes, tAl_nodes]; omega)), PT.hold_may (may3 (by rw [tAn_good, tN_good, m1.1]) (by rw [tAn_deep, tN_deep]; omega) (by rw [tAn_nodes, tN_nodes]; omega))]
    rw [show PT.holds (tN (tAl p)) X = !(tAl p).holds X by rw [tN, PT.holds5, PT.fst], tAl, PT.holds9 _ _ _ _ hX, tAn, PT.holds10 _ _ _ _ hX]
    simp only [ev, e0, List.not_all_eq_any_not]
  · rw [PT.hold_may (may3 (by rw [tN_good, tAn_good, m1.1]) (by rw [tN_deep, tAn_deep]; omega) (by rw [tN_nodes, tAn_nodes]; omega)), PT.hold_may (may3 (by rw [tAl_good, tN_good, m1.1]) (by rw [tAl_deep, tN_deep]; omega) (by rw [tAl_nodes, tN_nodes]; omega))]
    rw [show PT.holds (tN (tAn p)) X = !(tAn p).holds X by rw [tN, PT.holds5, PT.fst], tAn, PT.holds10 _ _ _ _ hX, tAl, PT.holds9 _ _ _ _ hX]
    simp only [ev, e0, List.not_any_eq_all_not]
theorem tN_cnt (p : PT) : (tN p).cnt = 1 + p.cnt := by rw [tN, PT.cnt, PT.cnts, PT.cnts]; omega
theorem tAl_cnt (p : PT) : (tAl p).cnt = 1 + p.cnt := by rw [tAl, PT.cnt, PT.cnts, PT.cnts]; omega
theorem tAn_cnt (p : PT) : (tAn p).cnt = 1 + p.cnt := by rw [tAn, PT.cnt, PT.cnts, PT.cnts]; omega
theorem tA_cnt (l : List PT) : (tA l).cnt = 1 + PT.cnts l := by rw [tA, PT.cnt]
theorem tO_cnt (l : List PT) : (tO l).cnt = 1 + PT.cnts l := by rw [tO, PT.cnt]
theorem vNone_size : vNone.size = 1 := by decide
theorem tN_fat (p : PT) : (tN p).fat = max 1 p.fat := by rw [tN, PT.fat, PT.fats, PT.fats, vNone_size]; omega
theorem tAl_fat (p : PT) : (tAl p).fat = max 1 p.fat := by rw [tAl, PT.fat, PT.fats, PT.fats, vNone_size]; omega
theorem tAn_fat (p : PT) : (tAn p).fat = max 1 p.fat := by rw [tAn, PT.fat, PT.fats, PT.fats, vNone_size]; omega
theorem tA_fat (l : List PT) : (tA l).fat = max 1 (PT.fats l) := by rw [tA, PT.fat, vNone_size]
theorem tO_fat (l : List PT) : (tO l).fat = max 1 (PT.fats l) := by rw [tO, PT.fat, vNone_size]
theorem pholds_b {t : PT} {X : VT} {x y : Value} {w : World} {b : Bool} (hb : t.hold X = b) (hs : t.cnt ≤ 1000000 ∧ t.fat ≤ 100000) (hx : PIn w t x) (hy : VIn w X y) :
    Calls Try.prog 15 #[x, y] w fun e w' => ∃ v, e = .returned v ∧ v = .bool b ∧ Below w.heap.size w w' :=
  (pholds_any t X x y w hs.1 hs.2 hx hy).mono fun e w' ⟨he, hbw⟩ => ⟨.bool b, by rw [he, hb], rfl, hbw⟩
end Go.Proofs.Ytclmnpfdnhfbmaa
