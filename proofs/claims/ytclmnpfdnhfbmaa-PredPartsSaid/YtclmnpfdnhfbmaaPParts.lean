/- PredParts: the plain law. -/
import Derived.Test.YtclmnpfdnhfbmaaPNot
namespace Go.Proofs.Ytclmnpfdnhfbmaa
open Go.RowKit

theorem PT.goods_of : ∀ l : List PT, (∀ t ∈ l, t.may = true) → PT.goods l = true
  | [], _ => by rw [PT.goods]
  | t :: l, h => by rw [PT.goods, ((PT.may_iff t).1 (h t (by simp))).1, PT.goods_of l (fun t ht => h t (by simp [ht]))]; rfl
theorem PT.all_of_goods : ∀ l : List PT, PT.goods l = true → PT.deeps l ≤ 12 → PT.nodess l ≤ 512 → ∀ t ∈ l, t.may = true
  | [], _, _, _, _, h => by cases h
  | a :: l, hg, hd, hn, t, ht => by
    rw [PT.goods, Bool.and_eq_true] at hg
    rw [PT.deeps] at hd
    rw [PT.nodess] at hn
    rcases List.mem_cons.1 ht with rfl | ht
    · exact (PT.may_iff t).2 ⟨hg.1, by omega, by omega⟩
    · exact PT.all_of_goods l hg.2 (by omega) (by omega) t ht
theorem tA_may (l : List PT) : (tA l).may = (l.all PT.may && (decide (PT.deeps l < 12) && (decide (1 + PT.nodess l ≤ 512) && decide (l.length ≤ 64)))) := by
  rw [Bool.eq_iff_iff, PT.may_iff, tA_good, tA_deep, tA_nodes]
  simp only [Bool.and_eq_true, decide_eq_true_eq, List.all_eq_true]
  constructor
  · rintro ⟨⟨h1, h2⟩, h3, h4⟩
    exact ⟨PT.all_of_goods l h2 (by omega) (by omega), by omega, by omega, h1⟩
  · rintro ⟨h1, h2, h3, h4⟩
    exact ⟨⟨h4, PT.goods_of l h1⟩, by omega, by omega⟩
theorem tO_may (l : List PT) : (tO l).may = (tA l).may := by
  rw [Bool.eq_iff_iff, PT.may_iff, PT.may_iff, tA_good, tO_good, tA_deep, tO_deep, tA_nodes, tO_nodes]
def tAtn (n : Int) (p : PT) : PT := .mk 8 vNone n [p]
def tLn (p : PT) : PT := .mk 11 vNone 0 [p]
/-- one of five makers' predicates. -/
def five (t : PT) : List PT := [tN t, tAtn 64 t, tAl t, tAn t, tLn t]
theorem may_made {t u : PT} (hg : u.good = t.good) (hd : u.deep = t.deep + 1) (hn : u.nodes = 1 + t.nodes) : u.may = (t.may && (decide (t.deep < 12) && decide (t.nodes < 512))) := by
  rw [Bool.eq_iff_iff, PT.may_iff, hg, hd, hn]
  simp only [Bool.and_eq_true, decide_eq_true_eq, PT.may_iff]
  constructor
  · rintro ⟨h1, h2, h3⟩; exact ⟨⟨h1, by omega, by omega⟩, by omega, by omega⟩
  · rintro ⟨⟨h1, _, _⟩, h2, h3⟩; exact ⟨h1, by omega, by omega⟩
theorem five_may (t : PT) : ∀ u ∈ five t, u.may = (t.may && (decide (t.deep < 12) && decide (t.nodes < 512))) := by
  intro u hu
  simp only [five, List.mem_cons, List.not_mem_nil, or_false] at hu
  rcases hu with rfl | rfl | rfl | rfl | rfl
  · exact may_made (tN_good t) (tN_deep t) (tN_nodes t)
  · exact may_made (PT.good_at (by omega) (by omega)) PT.deep_one (PT.nodes_one (by omega))
  · exact may_made (tAl_good t) (tAl_deep t) (tAl_nodes t)
  · exact may_made (tAn_good t) (tAn_deep t) (tAn_nodes t)
  · exact may_made (PT.good_one (.inr (.inr (.inr rfl))) rfl) PT.deep_one (PT.nodes_one (by omega))
theorem five_small {t : PT} (h : t.cnt ≤ 3000 ∧ t.fat ≤ 6000) : ∀ u ∈ five t, u.cnt ≤ 1000000 ∧ u.fat ≤ 100000 := by
  intro u hu
  simp only [five, List.mem_cons, List.not_mem_nil, or_false] at hu
  rcases hu with rfl | rfl | rfl | rfl | rfl
  · rw [tN_cnt, tN_fat]; omega
  · rw [tAtn, PT.cnt, PT.cnts, PT.cnts, PT.fat, PT.fats, PT.fats, vNone_size]; omega
  · rw [tAl_cnt, tAl_fat]; omega
  · rw [tAn_cnt, tAn_fat]; omega
  · rw [tLn, PT.cnt, PT.cnts, PT.cnts, PT.fat, PT.fats, PT.fats, vNone_size]; omega
def tEqv (v : VT) : PT := .mk 3 v 0 []
def tLev (v : VT) : PT := .mk 4 v 0 []
theorem tEqv_may (v : VT) : (tEqv v).may = (v.may && decide (v.size < 512)) := by
  rw [Bool.eq_iff_iff, PT.may_iff, tEqv, PT.good_val (.inl rfl), PT.deep, PT.deeps, PT.nodes, if_pos (.inl rfl), PT.nodess]
  simp only [Bool.and_eq_true, decide_eq_true_eq]
  constructor
  · rintro ⟨h1, h2, h3⟩; exact ⟨h1, by omega⟩
  · rintro ⟨h1, h2⟩; exact ⟨h1, by omega, by omega⟩
theorem tLev_may (v : VT) : (tLev v).may = (v.may && decide (v.size < 512)) := by
  rw [Bool.eq_iff_iff, PT.may_iff, tLev, PT.good_val (.inr rfl), PT.deep, PT.deeps, PT.nodes, if_pos (.inr rfl), PT.nodess]
  simp only [Bool.and_eq_true, decide_eq_true_eq]
  constructor
  · rintro ⟨h1, h2, h3⟩; exact ⟨h1, by omega⟩
  · rintro ⟨h1, h2⟩; exact ⟨h1, by omega, by omega⟩
theorem tEqv_nodes (v : VT) : (tEqv v).nodes = 1 + v.size := by rw [tEqv, PT.nodes, if_pos (.inl rfl), PT.nodess]; omega
theorem tEqv_small {v : VT} (h : v.size < 6000) : (tEqv v).cnt ≤ 1000000 ∧ (tEqv v).fat ≤ 100000 := by rw [tEqv, PT.cnt, PT.cnts, PT.fat, PT.fats]; omega
theorem tLev_small {v : VT} (h : v.size < 6000) : (tLev v).cnt ≤ 1000000 ∧ (tLev v).fat ≤ 100000 := by rw [tLev, PT.cnt, PT.cnts, PT.fat, PT.fats]; omega
theorem tA_small {l : List PT} (h : PT.cnts l < 3000 ∧ PT.fats l < 6000) : (tA l).cnt ≤ 1000000 ∧ (tA l).fat ≤ 100000 := by rw [tA_cnt, tA_fat]; omega
theorem tO_small {l : List PT} (h : PT.cnts l < 3000 ∧ PT.fats l < 6000) : (tO l).cnt ≤ 1000000 ∧ (tO l).fat ≤ 100000 := by rw [tO_cnt, tO_fat]; omega
theorem made_may {t : PT} {x : Value} {w : World} {b : Bool} (hb : t.may = b) (hs : t.cnt ≤ 1000000 ∧ t.fat ≤ 100000) (hx : PIn w t x) : Calls Try.prog 37 #[x] w fun e w' => ∃ v, e = .returned v ∧ v = .bool b ∧ Below w.heap.size w w' :=
  (pmay_any t x w hs.1 hs.2 hx).mono fun e w' ⟨he, hbw⟩ => ⟨.bool b, by rw [he, hb], rfl, hbw⟩
theorem made_deep {t : PT} {x : Value} {w : World} {n : Nat} (hb : t.deep = n) (hs : t.cnt ≤ 1000000 ∧ t.fat ≤ 100000) (hx : PIn w t x) : Calls Try.prog 38 #[x] w fun e w' => ∃ v, e = .returned v ∧ v = .int .i64 n ∧ Below w.heap.size w w' :=
  (deep_any 1000000 (by omega) t x w hs.1 hx).mono fun e w' ⟨he, hbw⟩ => ⟨.int .i64 n, by rw [he, hb], rfl, hbw⟩
theorem made_nodes {t : PT} {x : Value} {w : World} {n : Nat} (hb : t.nodes = n) (hs : t.cnt ≤ 1000000 ∧ t.fat ≤ 100000) (hx : PIn w t x) : Calls Try.prog 39 #[x] w fun e w' => ∃ v, e = .returned v ∧ v = .int .i64 n ∧ Below w.heap.size w w' :=
  (nodes_any 1000000 (by omega) t x w hs.1 hs.2 hx).mono fun e w' ⟨he, hbw⟩ => ⟨.int .i64 n, by rw [he, hb], rfl, hbw⟩
theorem made_size {t : VT} {x : Value} {w : World} {n : Nat} (hb : t.size = n) (hs : t.size ≤ 100000) (hx : VIn w t x) : Calls Try.prog 18 #[x] w fun e w' => ∃ v, e = .returned v ∧ v = .int .i64 n ∧ Below w.heap.size w w' :=
  (size_any t x w hs hx).mono fun e w' ⟨he, hbw⟩ => ⟨.int .i64 n, by rw [he, hb], rfl, hbw⟩
end Go.Proofs.Ytclmnpfdnhfbmaa
