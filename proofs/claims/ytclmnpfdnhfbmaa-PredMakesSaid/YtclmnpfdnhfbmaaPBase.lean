/- Plain words for api.Pred: the tree that a predicate reads as, and what it means that a predicate in memory reads so. -/
import Derived.Test.YtclmnpfdnhfbmaaVBase
namespace Go.Proofs.Ytclmnpfdnhfbmaa
open Go.RowKit

/-- What an api.Pred reads as. -/
inductive PT where
  | mk (kind : Int) (v : VT) (n : Int) (args : List PT)
namespace PT
def kind : PT → Int | .mk k _ _ _ => k
def val : PT → VT | .mk _ v _ _ => v
def num : PT → Int | .mk _ _ n _ => n
def args : PT → List PT | .mk _ _ _ l => l
end PT

mutual
/-- In the world w the value x reads as the tree. -/
def PIn (w : World) : PT → Value → Prop
  | .mk k v n l, x => ∃ vk vn va vl vc a cap, l.length ≤ 1759218604390 ∧ x = .agg #[.int .u8 k, .int .u8 vk, .int .i64 vn, .slice va vl vc, .int .i64 n, .slice a l.length cap] ∧
      VIn w v (.agg #[.int .u8 vk, .int .i64 vn, .slice va vl vc]) ∧ PRow w l a
/-- From the address a on lie predicates that read as the list. -/
def PRow (w : World) : List PT → Option Addr → Prop
  | [], _ => True
  | t :: ts, a => ∃ b o, a = some ⟨b, o, none⟩ ∧ (∃ v0 v1 v2 v3 v4 v5, w.cell? ⟨b, o, none⟩ = some v0 ∧ w.cell? ⟨b, o + 1, none⟩ = some v1 ∧ w.cell? ⟨b, o + 2, none⟩ = some v2 ∧
      w.cell? ⟨b, o + 3, none⟩ = some v3 ∧ w.cell? ⟨b, o + 4, none⟩ = some v4 ∧ w.cell? ⟨b, o + 5, none⟩ = some v5 ∧ PIn w t (.agg #[v0, v1, v2, v3, v4, v5])) ∧ PRow w ts (some ⟨b, o + 6, none⟩)
end

mutual
theorem PIn.mono {w w' : World} (hc : ∀ b o v, w.cell? ⟨b, o, none⟩ = some v → w'.cell? ⟨b, o, none⟩ = some v) : ∀ (t : PT) (x : Value), PIn w t x → PIn w' t x
  | .mk k v n l, x, h => by
    rw [PIn] at h ⊢
    obtain ⟨vk, vn, va, vl, vc, a, cap, hl, hx, hv, hr⟩ := h
    exact ⟨vk, vn, va, vl, vc, a, cap, hl, hx, hv.mono hc, PRow.mono hc l a hr⟩
theorem PRow.mono {w w' : World} (hc : ∀ b o v, w.cell? ⟨b, o, none⟩ = some v → w'.cell? ⟨b, o, none⟩ = some v) : ∀ (l : List PT) (a : Option Addr), PRow w l a → PRow w' l a
  | [], _, _ => by rw [PRow]; trivial
  | t :: ts, a, h => by
    rw [PRow] at h ⊢
    obtain ⟨b, o, ha, ⟨v0, v1, v2, v3, v4, v5, h0, h1, h2, h3, h4, h5, ht⟩, hr⟩ := h
    exact ⟨b, o, ha, ⟨v0, v1, v2, v3, v4, v5, hc _ _ _ h0, hc _ _ _ h1, hc _ _ _ h2, hc _ _ _ h3, hc _ _ _ h4, hc _ _ _ h5, PIn.mono hc t _ ht⟩, PRow.mono hc ts _ hr⟩
end
theorem PIn.below {w w' : World} (hb : Below w.heap.size w w') {t : PT} {x : Value} (h : PIn w t x) : PIn w' t x := h.mono (fun _ _ _ hc => cell_stays hb hc) t x
theorem PRow.below {w w' : World} (hb : Below w.heap.size w w') {l : List PT} {a : Option Addr} (h : PRow w l a) : PRow w' l a := h.mono (fun _ _ _ hc => cell_stays hb hc) l a
/-- a predicate, its cells written out. -/
theorem PIn.open {w : World} {k n : Int} {v : VT} {l : List PT} {x : Value} (h : PIn w (.mk k v n l) x) : ∃ va vc a cap, l.length ≤ 1759218604390 ∧ v.items.length ≤ 3518437208780 ∧
    x = .agg #[.int .u8 k, .int .u8 v.kind, .int .i64 v.num, .slice va v.items.length vc, .int .i64 n, .slice a l.length cap] ∧ VIn w v (.agg #[.int .u8 v.kind, .int .i64 v.num, .slice va v.items.length vc]) ∧ PRow w l a := by
  rw [PIn] at h
  obtain ⟨vk, vn, va, vl, vc, a, cap, hl, hx, hv, hr⟩ := h
  obtain ⟨k', n', its⟩ := v
  obtain ⟨va', vc', hl', he, hr'⟩ := hv.open
  simp only [Value.agg.injEq, Array.mk.injEq, List.cons.injEq, Value.slice.injEq, Value.int.injEq, and_true, true_and] at he
  obtain ⟨rfl, rfl, rfl, rfl, rfl⟩ := he
  exact ⟨_, _, a, cap, hl, hl', hx, hv, hr⟩
theorem PIn.shut {w : World} {k n vk vn : Int} {v : VT} {l : List PT} {va a : Option Addr} {vl vc cap : Nat} (hl : l.length ≤ 1759218604390) (hv : VIn w v (.agg #[.int .u8 vk, .int .i64 vn, .slice va vl vc])) (hr : PRow w l a) :
    PIn w (.mk k v n l) (.agg #[.int .u8 k, .int .u8 vk, .int .i64 vn, .slice va vl vc, .int .i64 n, .slice a l.length cap]) := by rw [PIn]; exact ⟨vk, vn, va, vl, vc, a, cap, hl, rfl, hv, hr⟩

/-- predicate i of a row. -/
theorem PRow.get {w : World} : ∀ {l : List PT} {a : Option Addr} (_ : PRow w l a) (i : Nat) (hi : i < l.length),
    ∃ b o, a = some ⟨b, o, none⟩ ∧ ∃ v0 v1 v2 v3 v4 v5, w.cell? ⟨b, o + i * 6, none⟩ = some v0 ∧ w.cell? ⟨b, o + i * 6 + 1, none⟩ = some v1 ∧ w.cell? ⟨b, o + i * 6 + 2, none⟩ = some v2 ∧
      w.cell? ⟨b, o + i * 6 + 3, none⟩ = some v3 ∧ w.cell? ⟨b, o + i * 6 + 4, none⟩ = some v4 ∧ w.cell? ⟨b, o + i * 6 + 5, none⟩ = some v5 ∧ PIn w (l[i]) (.agg #[v0, v1, v2, v3, v4, v5]) := by
  intro l
  induction l with
  | nil => intro a _ i hi; simp at hi
  | cons t ts ih =>
    intro a h i hi
    rw [PRow] at h
    obtain ⟨b, o, rfl, hc, hr⟩ := h
    refine ⟨b, o, rfl, ?_⟩
    cases i with
    | zero => simpa using hc
    | succ i =>
      obtain ⟨b', o', he, v0, v1, v2, v3, v4, v5, h0, h1, h2, h3, h4, h5, hv⟩ := ih hr i (by simpa using hi)
      simp only [Option.some.injEq, Addr.mk.injEq] at he
      obtain ⟨rfl, rfl, _⟩ := he
      refine ⟨v0, v1, v2, v3, v4, v5, ?_, ?_, ?_, ?_, ?_, ?_, by simpa using hv⟩
      · rw [← h0]; congr 2; omega
      · rw [← h1]; congr 2; omega
      · rw [← h2]; congr 2; omega
      · rw [← h3]; congr 2; omega
      · rw [← h4]; congr 2; omega
      · rw [← h5]; congr 2; omega
/-- predicate i of a row, its cells written out. -/
theorem PRow.got {w : World} {l : List PT} {a : Option Addr} (h : PRow w l a) (i : Nat) (hi : i < l.length) :
    ∃ b o, a = some ⟨b, o, none⟩ ∧ ∃ va vc a' cap', w.cell? ⟨b, o + i * 6, none⟩ = some (.int .u8 l[i].kind) ∧ w.cell? ⟨b, o + i * 6 + 1, none⟩ = some (.int .u8 l[i].val.kind) ∧
      w.cell? ⟨b, o + i * 6 + 2, none⟩ = some (.int .i64 l[i].val.num) ∧ w.cell? ⟨b, o + i * 6 + 3, none⟩ = some (.slice va l[i].val.items.length vc) ∧ w.cell? ⟨b, o + i * 6 + 4, none⟩ = some (.int .i64 l[i].num) ∧
      w.cell? ⟨b, o + i * 6 + 5, none⟩ = some (.slice a' l[i].args.length cap') ∧
      PIn w (l[i]) (.agg #[.int .u8 l[i].kind, .int .u8 l[i].val.kind, .int .i64 l[i].val.num, .slice va l[i].val.items.length vc, .int .i64 l[i].num, .slice a' l[i].args.length cap']) := by
  obtain ⟨b, o, ha, v0, v1, v2, v3, v4, v5, h0, h1, h2, h3, h4, h5, hv⟩ := h.get i hi
  generalize l[i] = t at hv
  obtain ⟨k, v, n, its⟩ := t
  obtain ⟨va, vc, a', cap', hl, hl', he, hr⟩ := hv.open
  simp only [Value.agg.injEq, Array.mk.injEq, List.cons.injEq, and_true] at he
  obtain ⟨rfl, rfl, rfl, rfl, rfl, rfl⟩ := he
  exact ⟨b, o, ha, va, vc, a', cap', h0, h1, h2, h3, h4, h5, hv⟩
theorem prow_nil {w : World} {a : Option Addr} : PRow w [] a := by rw [PRow]; trivial
theorem prow_cons {w : World} {t : PT} {ts : List PT} {b o : Nat} {v0 v1 v2 v3 v4 v5 : Value} (h0 : w.cell? ⟨b, o, none⟩ = some v0) (h1 : w.cell? ⟨b, o + 1, none⟩ = some v1) (h2 : w.cell? ⟨b, o + 2, none⟩ = some v2)
    (h3 : w.cell? ⟨b, o + 3, none⟩ = some v3) (h4 : w.cell? ⟨b, o + 4, none⟩ = some v4) (h5 : w.cell? ⟨b, o + 5, none⟩ = some v5)
    (hv : PIn w t (.agg #[v0, v1, v2, v3, v4, v5])) (hr : PRow w ts (some ⟨b, o + 6, none⟩)) : PRow w (t :: ts) (some ⟨b, o, none⟩) := by rw [PRow]; exact ⟨b, o, rfl, ⟨v0, v1, v2, v3, v4, v5, h0, h1, h2, h3, h4, h5, hv⟩, hr⟩
/-- a row, item by item. -/
theorem PRow.of {w : World} (b : Nat) : ∀ (l : List PT) (o : Nat) (_ : ∀ (i : Nat) (hi : i < l.length), ∃ v0 v1 v2 v3 v4 v5, w.cell? ⟨b, o + i * 6, none⟩ = some v0 ∧ w.cell? ⟨b, o + i * 6 + 1, none⟩ = some v1 ∧ w.cell? ⟨b, o + i * 6 + 2, none⟩ = some v2 ∧
      w.cell? ⟨b, o + i * 6 + 3, none⟩ = some v3 ∧ w.cell? ⟨b, o + i * 6 + 4, none⟩ = some v4 ∧ w.cell? ⟨b, o + i * 6 + 5, none⟩ = some v5 ∧ PIn w (l[i]) (.agg #[v0, v1, v2, v3, v4, v5])), PRow w l (some ⟨b, o, none⟩)
  | [], o, _ => by rw [PRow]; trivial
  | t :: ts, o, h => by
    rw [PRow]
    have h0 : _ := h 0 (by simp)
    simp only [Nat.zero_mul, Nat.add_zero, List.getElem_cons_zero] at h0
    refine ⟨b, o, rfl, h0, PRow.of b ts (o + 6) fun i hi => ?_⟩
    obtain ⟨v0, v1, v2, v3, v4, v5, h0, h1, h2, h3, h4, h5, hv⟩ := h (i + 1) (by simpa using hi)
    refine ⟨v0, v1, v2, v3, v4, v5, ?_, ?_, ?_, ?_, ?_, ?_, by simpa using hv⟩
    · rw [← h0]; congr 2; omega
    · rw [← h1]; congr 2; omega
    · rw [← h2]; congr 2; omega
    · rw [← h3]; congr 2; omega
    · rw [← h4]; congr 2; omega
    · rw [← h5]; congr 2; omega

/-! what the layer computes -/
def VT.none (v : VT) : Bool := v.kind == 0 && v.num == 0 && v.items.length == 0
def PT.nothing (t : PT) : Bool := t.kind == 0 && t.val.none && t.num == 0 && t.args.length == 0
mutual
/-- how many nodes, values not counted. -/
def PT.cnt : PT → Nat
  | .mk _ _ _ l => 1 + PT.cnts l
def PT.cnts : List PT → Nat
  | [] => 0
  | t :: ts => t.cnt + PT.cnts ts
end
mutual
/-- the size of the greatest value. -/
def PT.fat : PT → Nat
  | .mk _ v _ l => max v.size (PT.fats l)
def PT.fats : List PT → Nat
  | [] => 0
  | t :: ts => max t.fat (PT.fats ts)
end
mutual
def PT.nodes : PT → Nat
  | .mk k v _ l => (if k = 3 ∨ k = 4 then 1 + v.size else 1) + PT.nodess l
def PT.nodess : List PT → Nat
  | [] => 0
  | t :: ts => t.nodes + PT.nodess ts
end
mutual
def PT.deep : PT → Nat
  | .mk _ _ _ l => PT.deeps l + 1
def PT.deeps : List PT → Nat
  | [] => 0
  | t :: ts => max t.deep (PT.deeps ts)
end
def PT.number (k n : Int) : Int := if k = 8 ∧ (n < 0 ∨ 64 < n) then 1 else if k ≠ 8 ∧ n ≠ 0 then 3 else 0
def PT.least (k : Int) : Int := if k = 1 ∨ k = 2 ∨ k = 3 ∨ k = 4 ∨ k = 6 ∨ k = 7 then 0 else 1
def PT.most (k : Int) : Int := if k = 1 ∨ k = 2 ∨ k = 3 ∨ k = 4 then 0 else if k = 6 ∨ k = 7 then 64 else 1
/-- what is wrong of a node by itself. -/
def PT.node (k : Int) (v : VT) (n : Int) (len : Nat) : Int :=
  if k < 1 ∨ 11 < k then 11 else
  if (k = 3 ∨ k = 4) ∧ v.check ≠ 0 then v.check else
  if ¬ (k = 3 ∨ k = 4) ∧ v.none = false then 3 else
  if PT.number k n ≠ 0 then PT.number k n else
  if (len : Int) < PT.least k then 4 else if PT.most k < (len : Int) then 5 else 0
mutual
def PT.chk : PT → Int → Int → Int × Int
  | .mk k v n l, p, d => if 12 < d then (p, 9) else if PT.node k v n l.length ≠ 0 then (p, PT.node k v n l.length) else PT.chks l (p + 1) d
def PT.chks : List PT → Int → Int → Int × Int
  | [], p, _ => (p, 0)
  | t :: ts, p, d => if (t.chk p (d + 1)).2 ≠ 0 then t.chk p (d + 1) else PT.chks ts (t.chk p (d + 1)).1 d
end
def PT.check (t : PT) : Int × Int := if (t.chk 0 1).2 ≠ 0 then t.chk 0 1 else if 512 < t.nodes then (0, 5) else (0, 0)
def PT.may (t : PT) : Bool := t.check.2 == 0
mutual
/-- does a predicate hold of a value? (of one that may be) -/
def PT.holds : PT → VT → Bool
  | .mk k v n l, x =>
    if k = 1 then true else if k = 2 then false else if k = 3 then VT.same x v else if k = 4 then decide (VT.cmp x v < 0)
    else if k = 5 then !PT.fst l x else if k = 6 then PT.every l x else if k = 7 then PT.some l x
    else if ¬ (x.kind = 3 ∨ x.kind = 4) then false
    else if k = 8 then (if h : 0 ≤ n ∧ n.toNat < x.items.length then PT.fst l x.items[n.toNat] else false)
    else if k = 9 then x.items.all (fun i => PT.fst l i)
    else if k = 10 then x.items.any (fun i => PT.fst l i)
    else PT.fst l (.mk 1 x.items.length [])
def PT.fst : List PT → VT → Bool
  | [], _ => false
  | t :: _, x => t.holds x
def PT.every : List PT → VT → Bool
  | [], _ => true
  | t :: ts, x => t.holds x && PT.every ts x
def PT.some : List PT → VT → Bool
  | [], _ => false
  | t :: ts, x => t.holds x || PT.some ts x
end
def PT.hold (t : PT) (x : VT) : Bool := t.may && t.holds x
mutual
def PT.same : PT → PT → Bool
  | .mk k v n l, .mk k' v' n' l' => k == k' && n == n' && VT.same v v' && PT.sameAll l l'
def PT.sameAll : List PT → List PT → Bool
  | [], [] => true
  | a :: l, b :: m => PT.same a b && PT.sameAll l m
  | _, _ => false
end
end Go.Proofs.Ytclmnpfdnhfbmaa
