/- PredRows: the plain law, and rows of predicates that append builds. -/
import Derived.Test.YtclmnpfdnhfbmaaPItems
import Derived.Test.YtclmnpfdnhfbmaaPHolds
import Derived.Test.YtclmnpfdnhfbmaaVGrow
namespace Go.Proofs.Ytclmnpfdnhfbmaa
open Go.RowKit

theorem PT.every_all (x : VT) : ∀ l : List PT, PT.every l x = l.all fun t => t.holds x
  | [] => by rw [PT.every]; rfl
  | t :: l => by rw [PT.every, PT.every_all x l]; rfl
theorem PT.some_any (x : VT) : ∀ l : List PT, PT.some l x = l.any fun t => t.holds x
  | [] => by rw [PT.some]; rfl
  | t :: l => by rw [PT.some, PT.some_any x l]; rfl
theorem PT.goods_all : ∀ l : List PT, (∀ t ∈ l, t.allT = true) → PT.goods l = true ∧ PT.deeps l ≤ 9 ∧ PT.nodess l ≤ 100 * l.length
  | [], _ => by rw [PT.goods, PT.deeps, PT.nodess]; simp
  | t :: l, h => by
    have h1 := (PT.allT_iff t).1 (h t (by simp))
    have h2 := (PT.may_iff t).1 h1.1
    have h3 := PT.goods_all l (fun t ht => h t (by simp [ht]))
    rw [PT.goods, PT.deeps, PT.nodess, h2.1, h3.1, List.length_cons]
    exact ⟨rfl, by omega, by omega⟩
theorem PT.may_row {K : Int} {l : List PT} (hK : K = 6 ∨ K = 7) (hn : l.length ≤ 5) (h : ∀ t ∈ l, t.allT = true) : PT.may (.mk K vNone 0 l) = true := by
  have h1 := PT.goods_all l h
  rw [PT.may_iff]
  unfold vNone
  rw [PT.good_and hK, PT.deep, PT.nodes, if_neg (by omega), h1.1, Bool.and_true, decide_eq_true_eq]
  exact ⟨by omega, by omega, by omega⟩
theorem PT.hold_and {l : List PT} {x : VT} (hn : l.length ≤ 5) (h : ∀ t ∈ l, t.allT = true) : PT.hold (.mk 6 vNone 0 l) x = l.all fun t => t.hold x := by
  rw [PT.hold_may (PT.may_row (.inl rfl) hn h), PT.holds6, PT.every_all, Bool.eq_iff_iff, List.all_eq_true, List.all_eq_true]
  refine forall_congr' fun t => forall_congr' fun ht => ?_
  rw [PT.hold_may ((PT.allT_iff t).1 (h t ht)).1]
theorem PT.hold_or {l : List PT} {x : VT} (hn : l.length ≤ 5) (h : ∀ t ∈ l, t.allT = true) : PT.hold (.mk 7 vNone 0 l) x = l.any fun t => t.hold x := by
  rw [PT.hold_may (PT.may_row (.inr rfl) hn h), PT.holds7, PT.some_any, Bool.eq_iff_iff, List.any_eq_true, List.any_eq_true]
  refine exists_congr fun t => and_congr_right fun ht => ?_
  rw [PT.hold_may ((PT.allT_iff t).1 (h t ht)).1]
/-- the predicate i of a row, from by on, round about. -/
def turnedAt (l : List PT) (b j : Nat) : PT := l.getD ((j + b) % l.length) (.mk 0 vNone 0 [])
def turned (l : List PT) (b i : Nat) : List PT := (List.range i).map (turnedAt l b)
theorem turnedAt_eq {l : List PT} {b j : Nat} (h : (j + b) % l.length < l.length) : turnedAt l b j = l[(j + b) % l.length] := by
  unfold turnedAt; rw [List.getD_eq_getElem?_getD, List.getElem?_eq_getElem h]; rfl
theorem turned_succ (l : List PT) (b i : Nat) : turned l b (i + 1) = turned l b i ++ [turnedAt l b i] := by
  unfold turned; rw [List.range_succ, List.map_append]; rfl
theorem turned_len (l : List PT) (b i : Nat) : (turned l b i).length = i := by simp [turned]
theorem turnedAt_mem {l : List PT} (hl : 0 < l.length) (b j : Nat) : turnedAt l b j ∈ l := by
  rw [turnedAt_eq (Nat.mod_lt _ hl)]; exact List.getElem_mem _
theorem turn_back {n b k : Nat} (h : k < n) : (((k + (n - b % n)) % n) + b) % n = k := by
  have hb := Nat.mod_lt b (show 0 < n by omega)
  rw [Nat.mod_add_mod, show k + (n - b % n) + b = k + n * (b / n + 1) by
    have := Nat.div_add_mod b n
    rw [Nat.mul_add]; omega, Nat.add_mul_mod_self_left, Nat.mod_eq_of_lt h]
theorem turned_mem {l : List PT} (hl : 0 < l.length) (b : Nat) (t : PT) : t ∈ turned l b l.length ↔ t ∈ l := by
  constructor
  · intro h
    obtain ⟨j, _, rfl⟩ := List.mem_map.1 h
    exact turnedAt_mem hl b j
  · intro h
    obtain ⟨k, hk, rfl⟩ := List.getElem_of_mem h
    refine List.mem_map.2 ⟨(k + (l.length - b % l.length)) % l.length, List.mem_range.2 (Nat.mod_lt _ hl), ?_⟩
    have e := turn_back (b := b) hk
    rw [turnedAt_eq (by rw [e]; exact hk)]
    congr 1
theorem mixed_mem {l : List PT} (hl : 0 < l.length) (a b : Nat) (t : PT) : t ∈ turned l b l.length ++ [turnedAt l 0 a] ↔ t ∈ l := by
  rw [List.mem_append, turned_mem hl, List.mem_singleton]
  exact ⟨fun h => h.elim id (fun e => e ▸ turnedAt_mem hl 0 a), .inl⟩
theorem all_mem {α : Type} {l m : List α} {f : α → Bool} (h : ∀ t, t ∈ m ↔ t ∈ l) : m.all f = l.all f := by
  rw [Bool.eq_iff_iff, List.all_eq_true, List.all_eq_true]; exact forall_congr' fun t => by rw [h t]
theorem any_mem {α : Type} {l m : List α} {f : α → Bool} (h : ∀ t, t ∈ m ↔ t ∈ l) : m.any f = l.any f := by
  rw [Bool.eq_iff_iff, List.any_eq_true, List.any_eq_true]; exact exists_congr fun t => by rw [h t]
theorem PT.cnts_sub (l : List PT) : ∀ (m : List PT), (∀ t ∈ m, t ∈ l) → PT.cnts m ≤ PT.cnts l * m.length
  | [], _ => by simp [PT.cnts]
  | t :: m, h => by
    have h1 := PT.cnts_mem l t (h t (by simp))
    have h2 := PT.cnts_sub l m (fun t ht => h t (by simp [ht]))
    rw [PT.cnts, List.length_cons, Nat.mul_succ]; omega
theorem PT.fats_sub (l : List PT) : ∀ (m : List PT), (∀ t ∈ m, t ∈ l) → PT.fats m ≤ PT.fats l
  | [], _ => by simp [PT.fats]
  | t :: m, h => by
    have h1 := PT.fats_mem l t (h t (by simp))
    have h2 := PT.fats_sub l m (fun t ht => h t (by simp [ht]))
    rw [PT.fats]; omega

/-- the cells xs read, in the world w, as the predicates. -/
def PIt (w : World) (l : List PT) (xs : List Value) : Prop := xs.length = l.length * 6 ∧ ∀ i (h : i < l.length), ∃ v0 v1 v2 v3 v4 v5, xs[i * 6]? = some v0 ∧ xs[i * 6 + 1]? = some v1 ∧ xs[i * 6 + 2]? = some v2 ∧
  xs[i * 6 + 3]? = some v3 ∧ xs[i * 6 + 4]? = some v4 ∧ xs[i * 6 + 5]? = some v5 ∧ PIn w l[i] (.agg #[v0, v1, v2, v3, v4, v5])
theorem PIt.nil (w : World) : PIt w [] [] := ⟨rfl, fun i h => by simp at h⟩
theorem PIt.append {w : World} {l m : List PT} {xs ys : List Value} (h : PIt w l xs) (k : PIt w m ys) : PIt w (l ++ m) (xs ++ ys) := by
  have h1 := h.1; have k1 := k.1
  refine ⟨by rw [List.length_append, List.length_append, h1, k1]; omega, fun i hi => ?_⟩
  rw [List.length_append] at hi
  by_cases hlt : i < l.length
  · obtain ⟨v0, v1, v2, v3, v4, v5, e0, e1, e2, e3, e4, e5, hv⟩ := h.2 i hlt
    refine ⟨v0, v1, v2, v3, v4, v5, ?_, ?_, ?_, ?_, ?_, ?_, by rw [List.getElem_append_left hlt]; exact hv⟩
    all_goals rw [List.getElem?_append_left (by omega)]; assumption
  · obtain ⟨v0, v1, v2, v3, v4, v5, e0, e1, e2, e3, e4, e5, hv⟩ := k.2 (i - l.length) (by omega)
    refine ⟨v0, v1, v2, v3, v4, v5, ?_, ?_, ?_, ?_, ?_, ?_, by rw [List.getElem_append_right (by omega)]; exact hv⟩
    · rw [List.getElem?_append_right (by omega), ← e0]; congr 1; omega
    · rw [List.getElem?_append_right (by omega), ← e1]; congr 1; omega
    · rw [List.getElem?_append_right (by omega), ← e2]; congr 1; omega
    · rw [List.getElem?_append_right (by omega), ← e3]; congr 1; omega
    · rw [List.getElem?_append_right (by omega), ← e4]; congr 1; omega
    · rw [List.getElem?_append_right (by omega), ← e5]; congr 1; omega
theorem PIt.one {w : World} {t : PT} {v0 v1 v2 v3 v4 v5 : Value} (h : PIn w t (.agg #[v0, v1, v2, v3, v4, v5])) : PIt w [t] [v0, v1, v2, v3, v4, v5] :=
  ⟨rfl, fun i hi => by
    have : i = 0 := by simpa using hi
    subst this
    exact ⟨v0, v1, v2, v3, v4, v5, rfl, rfl, rfl, rfl, rfl, rfl, h⟩⟩
theorem grown_prow {w00 w : World} {B cap : Nat} {l : List PT} {xs : List Value} {a : Option Addr} {n : Nat} (hn : n = l.length) (hg : Grown w B 27 6 n xs a cap) (hi : PIt w00 l xs) (hb : Below w00.heap.size w00 w) : PRow w l a := by
  subst hn
  by_cases h0 : l = []
  · subst h0; rw [PRow]; trivial
  · have hpos : 0 < l.length := List.length_pos_iff.2 h0
    obtain ⟨b, rfl, _, _, hc⟩ := hg.cells (by rw [hi.1]; omega)
    refine PRow.of b l 0 fun i h => ?_
    obtain ⟨v0, v1, v2, v3, v4, v5, e0, e1, e2, e3, e4, e5, hv⟩ := hi.2 i h
    exact ⟨v0, v1, v2, v3, v4, v5, by rw [Nat.zero_add]; exact hc _ _ e0, by rw [Nat.zero_add]; exact hc _ _ e1, by rw [Nat.zero_add]; exact hc _ _ e2, by rw [Nat.zero_add]; exact hc _ _ e3, by rw [Nat.zero_add]; exact hc _ _ e4, by rw [Nat.zero_add]; exact hc _ _ e5, hv.below hb⟩
/-- append of one predicate, in a box made just now. -/
theorem ppush {w00 w : World} {B n cap X : Nat} {k : List PT} {xs : List Value} {a : Option Addr} {t : PT} {v0 v1 v2 v3 v4 v5 : Value} (hB : B ≤ w.heap.size) (hg : Grown w B 27 6 n xs a cap) (hi : PIt w00 k xs) (ht : PIn w00 t (.agg #[v0, v1, v2, v3, v4, v5]))
    (h0 : w.cell? ⟨X, 0, none⟩ = some v0) (h1 : w.cell? ⟨X, 1, none⟩ = some v1) (h2 : w.cell? ⟨X, 2, none⟩ = some v2) (h3 : w.cell? ⟨X, 3, none⟩ = some v3) (h4 : w.cell? ⟨X, 4, none⟩ = some v4) (h5 : w.cell? ⟨X, 5, none⟩ = some v5)
    (o : v0.oneCell' = true ∧ v1.oneCell' = true ∧ v2.oneCell' = true ∧ v3.oneCell' = true ∧ v4.oneCell' = true ∧ v5.oneCell' = true) (hn : n + 1 ≤ 100000) :
    ∃ a' cap' w' ys, (Builtin.append_ #[25, 25] 25 #[.slice a n cap, .slice (some ⟨X, 0, none⟩) 1 1]).run Try.prog w = .ok (.slice a' (n + 1) cap') w' ∧ Grown w' B 27 6 (n + 1) ys a' cap' ∧ PIt w00 (k ++ [t]) ys ∧ Below B w w' := by
  obtain ⟨i0, hi0, hz0, hz1, hz2⟩ := info_parts zeroP
  obtain ⟨a', cap', w', hap, hg', hb', _⟩ := grown_append (P := Try.prog) (ty := 25) hB hg Try.underlying25 hi0 hz0 hz1 rfl hz2 (Src.ofSlice w Try.underlying25 ⟨X, 0, none⟩ 1 1 [v0, v1, v2, v3, v4, v5] rfl (fun j u hu => by
    rw [Addr.add_lit]
    rcases j with _ | _ | _ | _ | _ | _ | j
    · simp only [List.getElem?_cons_zero, Option.some.injEq] at hu; subst hu; exact h0
    · simp only [List.getElem?_cons_succ, List.getElem?_cons_zero, Option.some.injEq] at hu; subst hu; exact h1
    · simp only [List.getElem?_cons_succ, List.getElem?_cons_zero, Option.some.injEq] at hu; subst hu; exact h2
    · simp only [List.getElem?_cons_succ, List.getElem?_cons_zero, Option.some.injEq] at hu; subst hu; exact h3
    · simp only [List.getElem?_cons_succ, List.getElem?_cons_zero, Option.some.injEq] at hu; subst hu; exact h4
    · simp only [List.getElem?_cons_succ, List.getElem?_cons_zero, Option.some.injEq] at hu; subst hu; exact h5
    · simp at hu) (fun u hu => by
    simp only [List.mem_cons, List.not_mem_nil, or_false] at hu
    rcases hu with rfl | rfl | rfl | rfl | rfl | rfl
    · exact o.1
    · exact o.2.1
    · exact o.2.2.1
    · exact o.2.2.2.1
    · exact o.2.2.2.2.1
    · exact o.2.2.2.2.2)) (by omega) (by omega)
  exact ⟨a', cap', w', _, hap, hg', hi.append (PIt.one ht), hb'⟩
theorem pand_n {l : List PT} {a : Option Addr} {n cap : Nat} {w : World} (hn : n = l.length) (hl : n ≤ 100000) (hr : PRow w l a) : Calls Try.prog 27 #[.slice a n cap] w (PCopyOf (.mk 6 vNone 0 l) w) := by subst hn; exact pand_any l a cap w (by omega) hr
theorem por_n {l : List PT} {a : Option Addr} {n cap : Nat} {w : World} (hn : n = l.length) (hl : n ≤ 100000) (hr : PRow w l a) : Calls Try.prog 24 #[.slice a n cap] w (PCopyOf (.mk 7 vNone 0 l) w) := by subst hn; exact por_any l a cap w (by omega) hr
theorem pholds_row {K M : Int} {l : List PT} {X : VT} {x y : Value} {w : World} (hx : PIn w (.mk K vNone M l) x) (hs : PT.cnts l ≤ 900000) (hf : PT.fats l ≤ 100000) (hy : VIn w X y) :
    Calls Try.prog 15 #[x, y] w fun e w' => e = .returned (.bool (PT.hold (.mk K vNone M l) X)) ∧ Below w.heap.size w w' :=
  pholds_any _ X x y w (by rw [PT.cnt]; omega) (by
    have : vNone.size = 1 := by decide
    rw [PT.fat, this]; omega) hx hy
end Go.Proofs.Ytclmnpfdnhfbmaa
