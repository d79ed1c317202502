/- Texts of this claim laid into one: VBase, PBase, TBase, VFresh, VBox, PWalkA, VWalkA, VIter, VSize. -/
import Derived.Test.YteebbffecaeciaaRows
import Derived.WalkKit
import Derived.WalkSpells
import Derived.Lib.Hide
import Derived.BigQuiet
import Derived.Deep.QuietTactic
import Derived.WalkLawsBesides
import Derived.Outline
import Derived.StillTailTactics
import Derived.Lib.QuietBelow
import Derived.RangeFuncNested
import Derived.RangeFuncBound
import Derived.RangeFuncCalls
import Derived.RangeFuncLeaves
import Derived.RangeFuncWrites
import Derived.RangeFuncFrom
import Derived.Shelf.Abstract
import Derived.OwnWalkIn
import Derived.TacticsInMore
import Derived.LoopNIn
import Derived.LoopIn
import Derived.Laws.EntriesVeiled
/- Plain words for api.Value: the tree that a value reads as, and what it means that a value in memory reads so. No program in sight. -/
namespace Go.Proofs.Yteebbffecaeciaa
open Go.RowKit

theorem ret_int {k : IntKind} {a b : Int} (h : a = b) : Ending.returned (.int k a) = .returned (.int k b) := by rw [h]
theorem ret_bool {a b : Bool} (h : a = b) : Ending.returned (.bool a) = .returned (.bool b) := by rw [h]
theorem drop_cons {α : Type} {l : List α} {i : Nat} (h : i < l.length) : l.drop i = l[i] :: l.drop (i + 1) := (List.getElem_cons_drop h).symm
theorem drop_nil {α : Type} {l : List α} {i : Nat} (h : ¬ i < l.length) : l.drop i = [] := List.drop_of_length_le (by omega)
theorem lt_of_cell {w : World} {b o : Nat} {v : Value} (h : w.cell? ⟨b, o, none⟩ = some v) : b < w.heap.size := by
  rcases Nat.lt_or_ge b w.heap.size with h' | h'
  · exact h'
  · simp [World.cell?, Array.getElem?_eq_none h'] at h
/-- a cell that is there stays through 'Below'. -/
theorem cell_stay {B : Nat} {w w' : World} {b o : Nat} {v : Value} (hb : Below B w w') (h : b < B) (hc : w.cell? ⟨b, o, none⟩ = some v) : w'.cell? ⟨b, o, none⟩ = some v := (hb.cell (p := ⟨b, o, none⟩) h).trans hc
theorem cell_stays {w w' : World} {b o : Nat} {v : Value} (hb : Below w.heap.size w w') (hc : w.cell? ⟨b, o, none⟩ = some v) : w'.cell? ⟨b, o, none⟩ = some v := cell_stay hb (lt_of_cell hc) hc
theorem frozen_stay {B : Nat} {w w' : World} {b o : Nat} {f : Bool} (hb : Below B w w') (h : b < B) (hc : w.frozen? ⟨b, o, none⟩ = f) : w'.frozen? ⟨b, o, none⟩ = f := (hb.frozen (p := ⟨b, o, none⟩) h).trans hc

/-- a region that draws its order: the reads first, in the text's order, then the tail. -/
theorem region_tail {P : Program} {id : Nat} {Q : Exit → Act → World → Prop} {a : Act} {w : World} {l : List Oper} (n : Nat) (hm : P.follows .mixedOrders = true) (hB : Region.lexTailB .any l.toArray n = true)
    (h : wpStill P l.toArray w.drew (fun a' => wpList P l.toArray Q (l.drop n) a' w.drew) (l.take n) a) : (Code.region id l.toArray true).wp P Q a w := wp_region_still_tail n hm hB h
/-- What an api.Value reads as. -/
inductive VT where
  | mk (kind : Int) (n : Int) (items : List VT)
namespace VT
def kind : VT → Int | .mk k _ _ => k
def num : VT → Int | .mk _ n _ => n
def items : VT → List VT | .mk _ _ l => l
end VT

mutual
/-- In the world w the value v reads as the tree. -/
def VIn (w : World) : VT → Value → Prop
  | .mk k n its, v => ∃ a cap, its.length ≤ 3518437208780 ∧ v = .agg #[.int .u8 k, .int .i64 n, .slice a its.length cap] ∧ VRow w its a
/-- From the address a on lie values that read as the list. -/
def VRow (w : World) : List VT → Option Addr → Prop
  | [], _ => True
  | t :: ts, a => ∃ b o, a = some ⟨b, o, none⟩ ∧ (∃ v0 v1 v2, w.cell? ⟨b, o, none⟩ = some v0 ∧ w.cell? ⟨b, o + 1, none⟩ = some v1 ∧
      w.cell? ⟨b, o + 2, none⟩ = some v2 ∧ VIn w t (.agg #[v0, v1, v2])) ∧ VRow w ts (some ⟨b, o + 3, none⟩)
end

mutual
theorem VIn.mono {w w' : World} (hc : ∀ b o v, w.cell? ⟨b, o, none⟩ = some v → w'.cell? ⟨b, o, none⟩ = some v) : ∀ (t : VT) (v : Value), VIn w t v → VIn w' t v
  | .mk k n its, v, h => by
    rw [VIn] at h ⊢
    obtain ⟨a, cap, hl, hv, hr⟩ := h
    exact ⟨a, cap, hl, hv, VRow.mono hc its a hr⟩
theorem VRow.mono {w w' : World} (hc : ∀ b o v, w.cell? ⟨b, o, none⟩ = some v → w'.cell? ⟨b, o, none⟩ = some v) : ∀ (l : List VT) (a : Option Addr), VRow w l a → VRow w' l a
  | [], _, _ => by rw [VRow]; trivial
  | t :: ts, a, h => by
    rw [VRow] at h ⊢
    obtain ⟨b, o, ha, ⟨v0, v1, v2, h0, h1, h2, ht⟩, hr⟩ := h
    exact ⟨b, o, ha, ⟨v0, v1, v2, hc _ _ _ h0, hc _ _ _ h1, hc _ _ _ h2, VIn.mono hc t _ ht⟩, VRow.mono hc ts _ hr⟩
end
theorem VIn.below {w w' : World} (hb : Below w.heap.size w w') {t : VT} {v : Value} (h : VIn w t v) : VIn w' t v := h.mono (fun _ _ _ hc => cell_stays hb hc) t v
theorem VRow.below {w w' : World} (hb : Below w.heap.size w w') {l : List VT} {a : Option Addr} (h : VRow w l a) : VRow w' l a := h.mono (fun _ _ _ hc => cell_stays hb hc) l a
theorem VIn.open {w : World} {k n : Int} {its : List VT} {v : Value} (h : VIn w (.mk k n its) v) : ∃ a cap, its.length ≤ 3518437208780 ∧ v = .agg #[.int .u8 k, .int .i64 n, .slice a its.length cap] ∧ VRow w its a := by rw [VIn] at h; exact h
theorem VIn.shut {w : World} {k n : Int} {its : List VT} {a : Option Addr} {cap : Nat} (hl : its.length ≤ 3518437208780) (hr : VRow w its a) : VIn w (.mk k n its) (.agg #[.int .u8 k, .int .i64 n, .slice a its.length cap]) := by rw [VIn]; exact ⟨a, cap, hl, rfl, hr⟩
theorem VIn.leaf {w : World} (k n : Int) : VIn w (.mk k n []) (.agg #[.int .u8 k, .int .i64 n, .slice none 0 0]) := VIn.shut (by simp) (by rw [VRow]; trivial)

/-- item i of a row. -/
theorem VRow.get {w : World} : ∀ {l : List VT} {a : Option Addr} (_ : VRow w l a) (i : Nat) (hi : i < l.length),
    ∃ b o, a = some ⟨b, o, none⟩ ∧ ∃ v0 v1 v2, w.cell? ⟨b, o + i * 3, none⟩ = some v0 ∧ w.cell? ⟨b, o + i * 3 + 1, none⟩ = some v1 ∧
      w.cell? ⟨b, o + i * 3 + 2, none⟩ = some v2 ∧ VIn w (l[i]) (.agg #[v0, v1, v2]) := by
  intro l
  induction l with
  | nil => intro a _ i hi; simp at hi
  | cons t ts ih =>
    intro a h i hi
    rw [VRow] at h
    obtain ⟨b, o, rfl, hc, hr⟩ := h
    refine ⟨b, o, rfl, ?_⟩
    cases i with
    | zero => simpa using hc
    | succ i =>
      obtain ⟨b', o', he, v0, v1, v2, h0, h1, h2, hv⟩ := ih hr i (by simpa using hi)
      simp only [Option.some.injEq, Addr.mk.injEq] at he
      obtain ⟨rfl, rfl, _⟩ := he
      refine ⟨v0, v1, v2, ?_, ?_, ?_, by simpa using hv⟩
      · rw [← h0]; congr 2; omega
      · rw [← h1]; congr 2; omega
      · rw [← h2]; congr 2; omega
/-- item i of a row, its cells written out. -/
theorem VRow.got {w : World} {l : List VT} {a : Option Addr} (h : VRow w l a) (i : Nat) (hi : i < l.length) :
    ∃ b o, a = some ⟨b, o, none⟩ ∧ ∃ a' cap', w.cell? ⟨b, o + i * 3, none⟩ = some (.int .u8 l[i].kind) ∧ w.cell? ⟨b, o + i * 3 + 1, none⟩ = some (.int .i64 l[i].num) ∧
      w.cell? ⟨b, o + i * 3 + 2, none⟩ = some (.slice a' l[i].items.length cap') ∧ VIn w (l[i]) (.agg #[.int .u8 l[i].kind, .int .i64 l[i].num, .slice a' l[i].items.length cap']) := by
  obtain ⟨b, o, ha, v0, v1, v2, h0, h1, h2, hv⟩ := h.get i hi
  generalize l[i] = t at hv
  obtain ⟨k, n, its⟩ := t
  obtain ⟨a', cap', hl, he, hr⟩ := hv.open
  simp only [Value.agg.injEq, Array.mk.injEq, List.cons.injEq, and_true] at he
  obtain ⟨rfl, rfl, rfl⟩ := he
  exact ⟨b, o, ha, a', cap', h0, h1, h2, hv⟩
/-- a row, item by item. -/
theorem VRow.of {w : World} (b : Nat) : ∀ (l : List VT) (o : Nat) (_ : ∀ (i : Nat) (hi : i < l.length), ∃ v0 v1 v2, w.cell? ⟨b, o + i * 3, none⟩ = some v0 ∧ w.cell? ⟨b, o + i * 3 + 1, none⟩ = some v1 ∧
      w.cell? ⟨b, o + i * 3 + 2, none⟩ = some v2 ∧ VIn w (l[i]) (.agg #[v0, v1, v2])), VRow w l (some ⟨b, o, none⟩)
  | [], o, _ => by rw [VRow]; trivial
  | t :: ts, o, h => by
    rw [VRow]
    have h0 : _ := h 0 (by simp)
    simp only [Nat.zero_mul, Nat.add_zero, List.getElem_cons_zero] at h0
    refine ⟨b, o, rfl, h0, VRow.of b ts (o + 3) fun i hi => ?_⟩
    obtain ⟨v0, v1, v2, h0, h1, h2, hv⟩ := h (i + 1) (by simpa using hi)
    refine ⟨v0, v1, v2, ?_, ?_, ?_, by simpa using hv⟩
    · rw [← h0]; congr 2; omega
    · rw [← h1]; congr 2; omega
    · rw [← h2]; congr 2; omega

/-! the functions of chapter 14 on trees -/
mutual
def VT.size : VT → Nat
  | .mk _ _ its => 1 + VT.sizes its
def VT.sizes : List VT → Nat
  | [] => 0
  | t :: ts => t.size + VT.sizes ts
end
mutual
def VT.deep : VT → Nat
  | .mk _ _ its => VT.deeps its + 1
def VT.deeps : List VT → Nat
  | [] => 0
  | t :: ts => max t.deep (VT.deeps ts)
end
def cmpI (x y : Int) : Int := if x < y then -1 else if y < x then 1 else 0
mutual
def VT.cmp : VT → VT → Int
  | .mk k n l, .mk k' n' l' => if k ≠ k' then cmpI k k' else if k = 1 ∨ k = 2 then cmpI n n' else if k ≠ 3 ∧ k ≠ 4 then 0 else VT.cmpAll l l'
def VT.cmpAll : List VT → List VT → Int
  | [], [] => 0
  | [], _ :: _ => -1
  | _ :: _, [] => 1
  | a :: l, b :: m => if VT.cmp a b = 0 then VT.cmpAll l m else VT.cmp a b
end
mutual
def VT.same : VT → VT → Bool
  | .mk k n l, .mk k' n' l' => k == k' && n == n' && VT.sameAll l l'
def VT.sameAll : List VT → List VT → Bool
  | [], [] => true
  | a :: l, b :: m => VT.same a b && VT.sameAll l m
  | _, _ => false
end
/-- what is wrong of a value by itself. -/
def VT.wrong (k n : Int) (len : Nat) : Int :=
  if k = 1 ∧ (n < -1099511627776 ∨ 1099511627776 < n) then 1 else if k = 2 ∧ n ≠ 0 ∧ n ≠ 1 then 1 else if (k = 3 ∨ k = 4) ∧ n ≠ 0 then 3
  else if k ≠ 1 ∧ k ≠ 2 ∧ k ≠ 3 ∧ k ≠ 4 then 11 else if (k = 1 ∨ k = 2) ∧ 0 < len then 3 else if 64 < len then 5 else 0
mutual
/-- the first that is wrong, a value ahead of its items. -/
def VT.first : VT → Int
  | .mk k n its => if VT.wrong k n its.length ≠ 0 then VT.wrong k n its.length else VT.firsts its
def VT.firsts : List VT → Int
  | [] => 0
  | t :: ts => if t.first ≠ 0 then t.first else VT.firsts ts
end
def VT.check (t : VT) : Int := if t.first ≠ 0 then t.first else if 128 < t.deep then 9 else if 4096 < t.size then 5 else 0
def VT.may (t : VT) : Bool := t.check == 0

/-! weigh, Long -/
mutual
def VT.weigh (m : Int) : VT → Int
  | .mk _ _ its => VT.weighAll m 1 its
def VT.weighAll (m : Int) (n : Int) : List VT → Int
  | [] => n
  | t :: ts => if n < m then VT.weighAll m (n + t.weigh (m - n)) ts else n
end
/-- Long: is there more than a statement goes over? -/
def VT.long (l : List VT) : Bool := decide (6000 ≤ VT.weighAll 6000 0 l)
theorem VT.size_pos : ∀ t : VT, 1 ≤ t.size | .mk _ _ _ => by rw [VT.size]; omega
theorem VT.sizes_mem : ∀ (l : List VT) (t : VT), t ∈ l → t.size ≤ VT.sizes l
  | [], _, h => by simp at h
  | a :: l, t, h => by
    rw [VT.sizes]
    rcases List.mem_cons.1 h with rfl | h
    · omega
    · have := VT.sizes_mem l t h; omega
mutual
theorem VT.deep_le : ∀ t : VT, 1 ≤ t.deep ∧ t.deep ≤ t.size
  | .mk _ _ its => by rw [VT.deep, VT.size]; have := VT.deeps_le its; omega
theorem VT.deeps_le : ∀ l : List VT, VT.deeps l ≤ VT.sizes l
  | [] => by rw [VT.deeps]; omega
  | t :: ts => by rw [VT.deeps, VT.sizes]; have := VT.deep_le t; have := VT.deeps_le ts; omega
end
theorem VT.sizes_get {l : List VT} {i : Nat} (h : i < l.length) : l[i].size ≤ VT.sizes l := VT.sizes_mem l _ (List.getElem_mem h)
theorem VT.cmpAll_drop {l m : List VT} {i : Nat} (hl : i < l.length) (hm : i < m.length) : VT.cmpAll (l.drop i) (m.drop i) = if VT.cmp l[i] m[i] = 0 then VT.cmpAll (l.drop (i + 1)) (m.drop (i + 1)) else VT.cmp l[i] m[i] := by
  rw [drop_cons hl, drop_cons hm, VT.cmpAll]
theorem VT.cmpAll_end {l m : List VT} {i : Nat} (h : i = min l.length m.length) : VT.cmpAll (l.drop i) (m.drop i) = cmpI l.length m.length := by
  unfold cmpI
  rcases Nat.lt_trichotomy l.length m.length with hlt | heq | hgt
  · have : i = l.length := by omega
    subst this
    rw [List.drop_length, drop_cons hlt, VT.cmpAll, if_pos (by omega)]
  · have h1 : i = l.length := by omega
    have h2 : i = m.length := by omega
    rw [drop_nil (by omega), drop_nil (by omega), VT.cmpAll, if_neg (by omega), if_neg (by omega)]
  · have : i = m.length := by omega
    subst this
    rw [List.drop_length, drop_cons hgt, VT.cmpAll, if_neg (by omega), if_pos (by omega)]
theorem VT.sameAll_drop {l m : List VT} {i : Nat} (hl : i < l.length) (hm : i < m.length) : VT.sameAll (l.drop i) (m.drop i) = (VT.same l[i] m[i] && VT.sameAll (l.drop (i + 1)) (m.drop (i + 1))) := by
  rw [drop_cons hl, drop_cons hm, VT.sameAll]
theorem VT.sameAll_len : ∀ l m : List VT, l.length ≠ m.length → VT.sameAll l m = false
  | [], [], h => by simp at h
  | [], _ :: _, _ => by simp [VT.sameAll]
  | _ :: _, [], _ => by simp [VT.sameAll]
  | a :: l, b :: m, h => by rw [VT.sameAll, VT.sameAll_len l m (by simpa using h), Bool.and_false]
end Go.Proofs.Yteebbffecaeciaa
/- Plain words for api.Pred: the tree that a predicate reads as, and what it means that a predicate in memory reads so. -/
namespace Go.Proofs.Yteebbffecaeciaa
open Go.RowKit

/-- What an api.Pred reads as. -/
inductive PT where
  | mk (kind : Int) (v : VT) (n : Int) (args : List PT)
namespace PT
def kind : PT → Int | .mk k _ _ _ => k
def val : PT → VT | .mk _ v _ _ => v
def num : PT → Int | .mk _ _ n _ => n
def args : PT → List PT | .mk _ _ _ l => l
end PT

mutual
/-- In the world w the value x reads as the tree. -/
def PIn (w : World) : PT → Value → Prop
  | .mk k v n l, x => ∃ vk vn va vl vc a cap, l.length ≤ 1759218604390 ∧ x = .agg #[.int .u8 k, .int .u8 vk, .int .i64 vn, .slice va vl vc, .int .i64 n, .slice a l.length cap] ∧
      VIn w v (.agg #[.int .u8 vk, .int .i64 vn, .slice va vl vc]) ∧ PRow w l a
/-- From the address a on lie predicates that read as the list. -/
def PRow (w : World) : List PT → Option Addr → Prop
  | [], _ => True
  | t :: ts, a => ∃ b o, a = some ⟨b, o, none⟩ ∧ (∃ v0 v1 v2 v3 v4 v5, w.cell? ⟨b, o, none⟩ = some v0 ∧ w.cell? ⟨b, o + 1, none⟩ = some v1 ∧ w.cell? ⟨b, o + 2, none⟩ = some v2 ∧
      w.cell? ⟨b, o + 3, none⟩ = some v3 ∧ w.cell? ⟨b, o + 4, none⟩ = some v4 ∧ w.cell? ⟨b, o + 5, none⟩ = some v5 ∧ PIn w t (.agg #[v0, v1, v2, v3, v4, v5])) ∧ PRow w ts (some ⟨b, o + 6, none⟩)
end

mutual
theorem PIn.mono {w w' : World} (hc : ∀ b o v, w.cell? ⟨b, o, none⟩ = some v → w'.cell? ⟨b, o, none⟩ = some v) : ∀ (t : PT) (x : Value), PIn w t x → PIn w' t x
  | .mk k v n l, x, h => by
    rw [PIn] at h ⊢
    obtain ⟨vk, vn, va, vl, vc, a, cap, hl, hx, hv, hr⟩ := h
    exact ⟨vk, vn, va, vl, vc, a, cap, hl, hx, hv.mono hc, PRow.mono hc l a hr⟩
theorem PRow.mono {w w' : World} (hc : ∀ b o v, w.cell? ⟨b, o, none⟩ = some v → w'.cell? ⟨b, o, none⟩ = some v) : ∀ (l : List PT) (a : Option Addr), PRow w l a → PRow w' l a
  | [], _, _ => by rw [PRow]; trivial
  | t :: ts, a, h => by
    rw [PRow] at h ⊢
    obtain ⟨b, o, ha, ⟨v0, v1, v2, v3, v4, v5, h0, h1, h2, h3, h4, h5, ht⟩, hr⟩ := h
    exact ⟨b, o, ha, ⟨v0, v1, v2, v3, v4, v5, hc _ _ _ h0, hc _ _ _ h1, hc _ _ _ h2, hc _ _ _ h3, hc _ _ _ h4, hc _ _ _ h5, PIn.mono hc t _ ht⟩, PRow.mono hc ts _ hr⟩
end
theorem PIn.below {w w' : World} (hb : Below w.heap.size w w') {t : PT} {x : Value} (h : PIn w t x) : PIn w' t x := h.mono (fun _ _ _ hc => cell_stays hb hc) t x
theorem PRow.below {w w' : World} (hb : Below w.heap.size w w') {l : List PT} {a : Option Addr} (h : PRow w l a) : PRow w' l a := h.mono (fun _ _ _ hc => cell_stays hb hc) l a
/-- a predicate, its cells written out. -/
theorem PIn.open {w : World} {k n : Int} {v : VT} {l : List PT} {x : Value} (h : PIn w (.mk k v n l) x) : ∃ va vc a cap, l.length ≤ 1759218604390 ∧ v.items.length ≤ 3518437208780 ∧
    x = .agg #[.int .u8 k, .int .u8 v.kind, .int .i64 v.num, .slice va v.items.length vc, .int .i64 n, .slice a l.length cap] ∧ VIn w v (.agg #[.int .u8 v.kind, .int .i64 v.num, .slice va v.items.length vc]) ∧ PRow w l a := by
  rw [PIn] at h
  obtain ⟨vk, vn, va, vl, vc, a, cap, hl, hx, hv, hr⟩ := h
  obtain ⟨k', n', its⟩ := v
  obtain ⟨va', vc', hl', he, hr'⟩ := hv.open
  simp only [Value.agg.injEq, Array.mk.injEq, List.cons.injEq, Value.slice.injEq, Value.int.injEq, and_true, true_and] at he
  obtain ⟨rfl, rfl, rfl, rfl, rfl⟩ := he
  exact ⟨_, _, a, cap, hl, hl', hx, hv, hr⟩
theorem PIn.shut {w : World} {k n vk vn : Int} {v : VT} {l : List PT} {va a : Option Addr} {vl vc cap : Nat} (hl : l.length ≤ 1759218604390) (hv : VIn w v (.agg #[.int .u8 vk, .int .i64 vn, .slice va vl vc])) (hr : PRow w l a) :
    PIn w (.mk k v n l) (.agg #[.int .u8 k, .int .u8 vk, .int .i64 vn, .slice va vl vc, .int .i64 n, .slice a l.length cap]) := by rw [PIn]; exact ⟨vk, vn, va, vl, vc, a, cap, hl, rfl, hv, hr⟩

/-- predicate i of a row. -/
theorem PRow.get {w : World} : ∀ {l : List PT} {a : Option Addr} (_ : PRow w l a) (i : Nat) (hi : i < l.length),
    ∃ b o, a = some ⟨b, o, none⟩ ∧ ∃ v0 v1 v2 v3 v4 v5, w.cell? ⟨b, o + i * 6, none⟩ = some v0 ∧ w.cell? ⟨b, o + i * 6 + 1, none⟩ = some v1 ∧ w.cell? ⟨b, o + i * 6 + 2, none⟩ = some v2 ∧
      w.cell? ⟨b, o + i * 6 + 3, none⟩ = some v3 ∧ w.cell? ⟨b, o + i * 6 + 4, none⟩ = some v4 ∧ w.cell? ⟨b, o + i * 6 + 5, none⟩ = some v5 ∧ PIn w (l[i]) (.agg #[v0, v1, v2, v3, v4, v5]) := by
  intro l
  induction l with
  | nil => intro a _ i hi; simp at hi
  | cons t ts ih =>
    intro a h i hi
    rw [PRow] at h
    obtain ⟨b, o, rfl, hc, hr⟩ := h
    refine ⟨b, o, rfl, ?_⟩
    cases i with
    | zero => simpa using hc
    | succ i =>
      obtain ⟨b', o', he, v0, v1, v2, v3, v4, v5, h0, h1, h2, h3, h4, h5, hv⟩ := ih hr i (by simpa using hi)
      simp only [Option.some.injEq, Addr.mk.injEq] at he
      obtain ⟨rfl, rfl, _⟩ := he
      refine ⟨v0, v1, v2, v3, v4, v5, ?_, ?_, ?_, ?_, ?_, ?_, by simpa using hv⟩
      · rw [← h0]; congr 2; omega
      · rw [← h1]; congr 2; omega
      · rw [← h2]; congr 2; omega
      · rw [← h3]; congr 2; omega
      · rw [← h4]; congr 2; omega
      · rw [← h5]; congr 2; omega
/-- predicate i of a row, its cells written out. -/
theorem PRow.got {w : World} {l : List PT} {a : Option Addr} (h : PRow w l a) (i : Nat) (hi : i < l.length) :
    ∃ b o, a = some ⟨b, o, none⟩ ∧ ∃ va vc a' cap', w.cell? ⟨b, o + i * 6, none⟩ = some (.int .u8 l[i].kind) ∧ w.cell? ⟨b, o + i * 6 + 1, none⟩ = some (.int .u8 l[i].val.kind) ∧
      w.cell? ⟨b, o + i * 6 + 2, none⟩ = some (.int .i64 l[i].val.num) ∧ w.cell? ⟨b, o + i * 6 + 3, none⟩ = some (.slice va l[i].val.items.length vc) ∧ w.cell? ⟨b, o + i * 6 + 4, none⟩ = some (.int .i64 l[i].num) ∧
      w.cell? ⟨b, o + i * 6 + 5, none⟩ = some (.slice a' l[i].args.length cap') ∧
      PIn w (l[i]) (.agg #[.int .u8 l[i].kind, .int .u8 l[i].val.kind, .int .i64 l[i].val.num, .slice va l[i].val.items.length vc, .int .i64 l[i].num, .slice a' l[i].args.length cap']) := by
  obtain ⟨b, o, ha, v0, v1, v2, v3, v4, v5, h0, h1, h2, h3, h4, h5, hv⟩ := h.get i hi
  generalize l[i] = t at hv
  obtain ⟨k, v, n, its⟩ := t
  obtain ⟨va, vc, a', cap', hl, hl', he, hr⟩ := hv.open
  simp only [Value.agg.injEq, Array.mk.injEq, List.cons.injEq, and_true] at he
  obtain ⟨rfl, rfl, rfl, rfl, rfl, rfl⟩ := he
  exact ⟨b, o, ha, va, vc, a', cap', h0, h1, h2, h3, h4, h5, hv⟩
theorem prow_nil {w : World} {a : Option Addr} : PRow w [] a := by rw [PRow]; trivial
theorem prow_cons {w : World} {t : PT} {ts : List PT} {b o : Nat} {v0 v1 v2 v3 v4 v5 : Value} (h0 : w.cell? ⟨b, o, none⟩ = some v0) (h1 : w.cell? ⟨b, o + 1, none⟩ = some v1) (h2 : w.cell? ⟨b, o + 2, none⟩ = some v2)
    (h3 : w.cell? ⟨b, o + 3, none⟩ = some v3) (h4 : w.cell? ⟨b, o + 4, none⟩ = some v4) (h5 : w.cell? ⟨b, o + 5, none⟩ = some v5)
    (hv : PIn w t (.agg #[v0, v1, v2, v3, v4, v5])) (hr : PRow w ts (some ⟨b, o + 6, none⟩)) : PRow w (t :: ts) (some ⟨b, o, none⟩) := by rw [PRow]; exact ⟨b, o, rfl, ⟨v0, v1, v2, v3, v4, v5, h0, h1, h2, h3, h4, h5, hv⟩, hr⟩
/-- a row, item by item. -/
theorem PRow.of {w : World} (b : Nat) : ∀ (l : List PT) (o : Nat) (_ : ∀ (i : Nat) (hi : i < l.length), ∃ v0 v1 v2 v3 v4 v5, w.cell? ⟨b, o + i * 6, none⟩ = some v0 ∧ w.cell? ⟨b, o + i * 6 + 1, none⟩ = some v1 ∧ w.cell? ⟨b, o + i * 6 + 2, none⟩ = some v2 ∧
      w.cell? ⟨b, o + i * 6 + 3, none⟩ = some v3 ∧ w.cell? ⟨b, o + i * 6 + 4, none⟩ = some v4 ∧ w.cell? ⟨b, o + i * 6 + 5, none⟩ = some v5 ∧ PIn w (l[i]) (.agg #[v0, v1, v2, v3, v4, v5])), PRow w l (some ⟨b, o, none⟩)
  | [], o, _ => by rw [PRow]; trivial
  | t :: ts, o, h => by
    rw [PRow]
    have h0 : _ := h 0 (by simp)
    simp only [Nat.zero_mul, Nat.add_zero, List.getElem_cons_zero] at h0
    refine ⟨b, o, rfl, h0, PRow.of b ts (o + 6) fun i hi => ?_⟩
    obtain ⟨v0, v1, v2, v3, v4, v5, h0, h1, h2, h3, h4, h5, hv⟩ := h (i + 1) (by simpa using hi)
    refine ⟨v0, v1, v2, v3, v4, v5, ?_, ?_, ?_, ?_, ?_, ?_, by simpa using hv⟩
    · rw [← h0]; congr 2; omega
    · rw [← h1]; congr 2; omega
    · rw [← h2]; congr 2; omega
    · rw [← h3]; congr 2; omega
    · rw [← h4]; congr 2; omega
    · rw [← h5]; congr 2; omega

/-! what the layer computes -/
def VT.none (v : VT) : Bool := v.kind == 0 && v.num == 0 && v.items.length == 0
def PT.nothing (t : PT) : Bool := t.kind == 0 && t.val.none && t.num == 0 && t.args.length == 0
mutual
/-- how many nodes, values not counted. -/
def PT.cnt : PT → Nat
  | .mk _ _ _ l => 1 + PT.cnts l
def PT.cnts : List PT → Nat
  | [] => 0
  | t :: ts => t.cnt + PT.cnts ts
end
mutual
/-- the size of the greatest value. -/
def PT.fat : PT → Nat
  | .mk _ v _ l => max v.size (PT.fats l)
def PT.fats : List PT → Nat
  | [] => 0
  | t :: ts => max t.fat (PT.fats ts)
end
mutual
def PT.nodes : PT → Nat
  | .mk k v _ l => (if k = 3 ∨ k = 4 then 1 + v.size else 1) + PT.nodess l
def PT.nodess : List PT → Nat
  | [] => 0
  | t :: ts => t.nodes + PT.nodess ts
end
mutual
def PT.deep : PT → Nat
  | .mk _ _ _ l => PT.deeps l + 1
def PT.deeps : List PT → Nat
  | [] => 0
  | t :: ts => max t.deep (PT.deeps ts)
end
def PT.number (k n : Int) : Int := if k = 8 ∧ (n < 0 ∨ 64 < n) then 1 else if k ≠ 8 ∧ n ≠ 0 then 3 else 0
def PT.least (k : Int) : Int := if k = 1 ∨ k = 2 ∨ k = 3 ∨ k = 4 ∨ k = 6 ∨ k = 7 then 0 else 1
def PT.most (k : Int) : Int := if k = 1 ∨ k = 2 ∨ k = 3 ∨ k = 4 then 0 else if k = 6 ∨ k = 7 then 64 else 1
/-- what is wrong of a node by itself. -/
def PT.node (k : Int) (v : VT) (n : Int) (len : Nat) : Int :=
  if k < 1 ∨ 11 < k then 11 else
  if (k = 3 ∨ k = 4) ∧ v.check ≠ 0 then v.check else
  if ¬ (k = 3 ∨ k = 4) ∧ v.none = false then 3 else
  if PT.number k n ≠ 0 then PT.number k n else
  if (len : Int) < PT.least k then 4 else if PT.most k < (len : Int) then 5 else 0
mutual
def PT.chk : PT → Int → Int → Int × Int
  | .mk k v n l, p, d => if 12 < d then (p, 9) else if PT.node k v n l.length ≠ 0 then (p, PT.node k v n l.length) else PT.chks l (p + 1) d
def PT.chks : List PT → Int → Int → Int × Int
  | [], p, _ => (p, 0)
  | t :: ts, p, d => if (t.chk p (d + 1)).2 ≠ 0 then t.chk p (d + 1) else PT.chks ts (t.chk p (d + 1)).1 d
end
def PT.check (t : PT) : Int × Int := if (t.chk 0 1).2 ≠ 0 then t.chk 0 1 else if 512 < t.nodes then (0, 5) else (0, 0)
def PT.may (t : PT) : Bool := t.check.2 == 0
mutual
/-- does a predicate hold of a value? (of one that may be) -/
def PT.holds : PT → VT → Bool
  | .mk k v n l, x =>
    if k = 1 then true else if k = 2 then false else if k = 3 then VT.same x v else if k = 4 then decide (VT.cmp x v < 0)
    else if k = 5 then !PT.fst l x else if k = 6 then PT.every l x else if k = 7 then PT.some l x
    else if ¬ (x.kind = 3 ∨ x.kind = 4) then false
    else if k = 8 then (if h : 0 ≤ n ∧ n.toNat < x.items.length then PT.fst l x.items[n.toNat] else false)
    else if k = 9 then x.items.all (fun i => PT.fst l i)
    else if k = 10 then x.items.any (fun i => PT.fst l i)
    else PT.fst l (.mk 1 x.items.length [])
def PT.fst : List PT → VT → Bool
  | [], _ => false
  | t :: _, x => t.holds x
def PT.every : List PT → VT → Bool
  | [], _ => true
  | t :: ts, x => t.holds x && PT.every ts x
def PT.some : List PT → VT → Bool
  | [], _ => false
  | t :: ts, x => t.holds x || PT.some ts x
end
def PT.hold (t : PT) (x : VT) : Bool := t.may && t.holds x
mutual
def PT.same : PT → PT → Bool
  | .mk k v n l, .mk k' v' n' l' => k == k' && n == n' && VT.same v v' && PT.sameAll l l'
def PT.sameAll : List PT → List PT → Bool
  | [], [] => true
  | a :: l, b :: m => PT.same a b && PT.sameAll l m
  | _, _ => false
end
end Go.Proofs.Yteebbffecaeciaa
/- Plain words for api.Term: the tree that a term reads as, and what it means that a term in memory reads so. -/
namespace Go.Proofs.Yteebbffecaeciaa
open Go.RowKit

/-- What an api.Term reads as. -/
inductive TT where
  | mk (kind : Int) (v : VT) (vs : List VT) (lo hi : Int) (ws : List Int) (p : PT) (args : List TT)
namespace TT
def kind : TT → Int | .mk k _ _ _ _ _ _ _ => k
def v : TT → VT | .mk _ v _ _ _ _ _ _ => v
def vs : TT → List VT | .mk _ _ vs _ _ _ _ _ => vs
def lo : TT → Int | .mk _ _ _ lo _ _ _ _ => lo
def hi : TT → Int | .mk _ _ _ _ hi _ _ _ => hi
def ws : TT → List Int | .mk _ _ _ _ _ ws _ _ => ws
def p : TT → PT | .mk _ _ _ _ _ _ p _ => p
def args : TT → List TT | .mk _ _ _ _ _ _ _ l => l
end TT
/-- where the rows of a term lie, and how much room they have. -/
structure TA where
  va : Option Addr
  vc : Nat
  sa : Option Addr
  sc : Nat
  wa : Option Addr
  wc : Nat
  qa : Option Addr
  qc : Nat
  pa : Option Addr
  pc : Nat
  aa : Option Addr
  ac : Nat
/-- the term, as a value. -/
def TT.val (t : TT) (A : TA) : Value := .agg #[.int .u8 t.kind, .int .u8 t.v.kind, .int .i64 t.v.num, .slice A.va t.v.items.length A.vc, .slice A.sa t.vs.length A.sc, .int .i64 t.lo, .int .i64 t.hi, .slice A.wa t.ws.length A.wc,
  .int .u8 t.p.kind, .int .u8 t.p.val.kind, .int .i64 t.p.val.num, .slice A.qa t.p.val.items.length A.qc, .int .i64 t.p.num, .slice A.pa t.p.args.length A.pc, .slice A.aa t.args.length A.ac]
/-- the term's cells from an address on. -/
def TCells (w : World) (b o : Nat) (t : TT) (A : TA) : Prop :=
  w.cell? ⟨b, o, none⟩ = some (.int .u8 t.kind) ∧ w.cell? ⟨b, o + 1, none⟩ = some (.int .u8 t.v.kind) ∧ w.cell? ⟨b, o + 2, none⟩ = some (.int .i64 t.v.num) ∧ w.cell? ⟨b, o + 3, none⟩ = some (.slice A.va t.v.items.length A.vc) ∧
  w.cell? ⟨b, o + 4, none⟩ = some (.slice A.sa t.vs.length A.sc) ∧ w.cell? ⟨b, o + 5, none⟩ = some (.int .i64 t.lo) ∧ w.cell? ⟨b, o + 6, none⟩ = some (.int .i64 t.hi) ∧ w.cell? ⟨b, o + 7, none⟩ = some (.slice A.wa t.ws.length A.wc) ∧
  w.cell? ⟨b, o + 8, none⟩ = some (.int .u8 t.p.kind) ∧ w.cell? ⟨b, o + 9, none⟩ = some (.int .u8 t.p.val.kind) ∧ w.cell? ⟨b, o + 10, none⟩ = some (.int .i64 t.p.val.num) ∧ w.cell? ⟨b, o + 11, none⟩ = some (.slice A.qa t.p.val.items.length A.qc) ∧
  w.cell? ⟨b, o + 12, none⟩ = some (.int .i64 t.p.num) ∧ w.cell? ⟨b, o + 13, none⟩ = some (.slice A.pa t.p.args.length A.pc) ∧ w.cell? ⟨b, o + 14, none⟩ = some (.slice A.aa t.args.length A.ac)
/-- whole numbers from an address on. -/
def WRow (w : World) : List Int → Option Addr → Prop
  | [], _ => True
  | x :: xs, a => ∃ b o, a = some ⟨b, o, none⟩ ∧ w.cell? ⟨b, o, none⟩ = some (.int .i64 x) ∧ WRow w xs (some ⟨b, o + 1, none⟩)

mutual
/-- In the world w the rows read as the tree has them. -/
def TOk (w : World) : TT → TA → Prop
  | .mk _ v vs _ _ ws p l, A => (l.length ≤ 651562446070 ∧ vs.length ≤ 3518437208780 ∧ ws.length ≤ 17592186043904) ∧ VIn w v (.agg #[.int .u8 v.kind, .int .i64 v.num, .slice A.va v.items.length A.vc]) ∧ VRow w vs A.sa ∧ WRow w ws A.wa ∧
      PIn w p (.agg #[.int .u8 p.kind, .int .u8 p.val.kind, .int .i64 p.val.num, .slice A.qa p.val.items.length A.qc, .int .i64 p.num, .slice A.pa p.args.length A.pc]) ∧ TRow w l A.aa
/-- From the address a on lie terms that read as the list. -/
def TRow (w : World) : List TT → Option Addr → Prop
  | [], _ => True
  | t :: ts, a => ∃ b o, a = some ⟨b, o, none⟩ ∧ (∃ A, TCells w b o t A ∧ TOk w t A) ∧ TRow w ts (some ⟨b, o + 15, none⟩)
end
/-- In the world w the value x reads as the tree. -/
def TIn (w : World) (t : TT) (x : Value) : Prop := ∃ A, x = t.val A ∧ TOk w t A

theorem TCells.mono {w w' : World} (hc : ∀ b o v, w.cell? ⟨b, o, none⟩ = some v → w'.cell? ⟨b, o, none⟩ = some v) {b o : Nat} {t : TT} {A : TA} (h : TCells w b o t A) : TCells w' b o t A := by
  obtain ⟨h0, h1, h2, h3, h4, h5, h6, h7, h8, h9, h10, h11, h12, h13, h14⟩ := h
  exact ⟨hc _ _ _ h0, hc _ _ _ h1, hc _ _ _ h2, hc _ _ _ h3, hc _ _ _ h4, hc _ _ _ h5, hc _ _ _ h6, hc _ _ _ h7, hc _ _ _ h8, hc _ _ _ h9, hc _ _ _ h10, hc _ _ _ h11, hc _ _ _ h12, hc _ _ _ h13, hc _ _ _ h14⟩
theorem TCells.below {w w' : World} (hb : Below w.heap.size w w') {b o : Nat} {t : TT} {A : TA} (h : TCells w b o t A) : TCells w' b o t A := h.mono (fun _ _ _ hc => cell_stays hb hc)
theorem WRow.mono {w w' : World} (hc : ∀ b o v, w.cell? ⟨b, o, none⟩ = some v → w'.cell? ⟨b, o, none⟩ = some v) : ∀ (l : List Int) (a : Option Addr), WRow w l a → WRow w' l a
  | [], _, _ => by rw [WRow]; trivial
  | x :: xs, a, h => by
    rw [WRow] at h ⊢
    obtain ⟨b, o, ha, h0, hr⟩ := h
    exact ⟨b, o, ha, hc _ _ _ h0, WRow.mono hc xs _ hr⟩
theorem WRow.below {w w' : World} (hb : Below w.heap.size w w') {l : List Int} {a : Option Addr} (h : WRow w l a) : WRow w' l a := h.mono (fun _ _ _ hc => cell_stays hb hc) l a
theorem wrow_nil {w : World} {a : Option Addr} : WRow w [] a := by rw [WRow]; trivial
theorem wrow_cons {w : World} {x : Int} {xs : List Int} {b o : Nat} (h0 : w.cell? ⟨b, o, none⟩ = some (.int .i64 x)) (hr : WRow w xs (some ⟨b, o + 1, none⟩)) : WRow w (x :: xs) (some ⟨b, o, none⟩) := by rw [WRow]; exact ⟨b, o, rfl, h0, hr⟩
/-- number i of a row. -/
theorem WRow.get {w : World} : ∀ {l : List Int} {a : Option Addr} (_ : WRow w l a) (i : Nat) (hi : i < l.length), ∃ b o, a = some ⟨b, o, none⟩ ∧ w.cell? ⟨b, o + i, none⟩ = some (.int .i64 l[i]) := by
  intro l
  induction l with
  | nil => intro a _ i hi; simp at hi
  | cons t ts ih =>
    intro a h i hi
    rw [WRow] at h
    obtain ⟨b, o, rfl, hc, hr⟩ := h
    refine ⟨b, o, rfl, ?_⟩
    cases i with
    | zero => simpa using hc
    | succ i =>
      obtain ⟨b', o', he, h0⟩ := ih hr i (by simpa using hi)
      simp only [Option.some.injEq, Addr.mk.injEq] at he
      obtain ⟨rfl, rfl, _⟩ := he
      rw [List.getElem_cons_succ, ← h0]; congr 2; omega
theorem WRow.of {w : World} (b : Nat) : ∀ (l : List Int) (o : Nat) (_ : ∀ (i : Nat) (hi : i < l.length), w.cell? ⟨b, o + i, none⟩ = some (.int .i64 l[i])), WRow w l (some ⟨b, o, none⟩)
  | [], o, _ => by rw [WRow]; trivial
  | t :: ts, o, h => by
    rw [WRow]
    have h0 := h 0 (by simp)
    simp only [Nat.add_zero, List.getElem_cons_zero] at h0
    refine ⟨b, o, rfl, h0, WRow.of b ts (o + 1) fun i hi => ?_⟩
    have h1 := h (i + 1) (by simpa using hi)
    rw [List.getElem_cons_succ] at h1
    rw [← h1]; congr 2; omega
mutual
theorem TOk.mono {w w' : World} (hc : ∀ b o v, w.cell? ⟨b, o, none⟩ = some v → w'.cell? ⟨b, o, none⟩ = some v) : ∀ (t : TT) (A : TA), TOk w t A → TOk w' t A
  | .mk k v vs lo hi ws p l, A, h => by
    rw [TOk] at h ⊢
    obtain ⟨hl, hv, hs, hw, hp, hr⟩ := h
    exact ⟨hl, hv.mono hc, hs.mono hc, hw.mono hc, hp.mono hc, TRow.mono hc l _ hr⟩
theorem TRow.mono {w w' : World} (hc : ∀ b o v, w.cell? ⟨b, o, none⟩ = some v → w'.cell? ⟨b, o, none⟩ = some v) : ∀ (l : List TT) (a : Option Addr), TRow w l a → TRow w' l a
  | [], _, _ => by rw [TRow]; trivial
  | t :: ts, a, h => by
    rw [TRow] at h ⊢
    obtain ⟨b, o, ha, ⟨A, h0, ht⟩, hr⟩ := h
    exact ⟨b, o, ha, ⟨A, h0.mono hc, TOk.mono hc t A ht⟩, TRow.mono hc ts _ hr⟩
end
theorem TOk.below {w w' : World} (hb : Below w.heap.size w w') {t : TT} {A : TA} (h : TOk w t A) : TOk w' t A := h.mono (fun _ _ _ hc => cell_stays hb hc) t A
theorem TRow.below {w w' : World} (hb : Below w.heap.size w w') {l : List TT} {a : Option Addr} (h : TRow w l a) : TRow w' l a := h.mono (fun _ _ _ hc => cell_stays hb hc) l a
theorem TIn.mono {w w' : World} (hc : ∀ b o v, w.cell? ⟨b, o, none⟩ = some v → w'.cell? ⟨b, o, none⟩ = some v) {t : TT} {x : Value} (h : TIn w t x) : TIn w' t x := by
  obtain ⟨A, e, h⟩ := h; exact ⟨A, e, h.mono hc t A⟩
theorem TIn.below {w w' : World} (hb : Below w.heap.size w w') {t : TT} {x : Value} (h : TIn w t x) : TIn w' t x := h.mono (fun _ _ _ hc => cell_stays hb hc)
theorem trow_nil {w : World} {a : Option Addr} : TRow w [] a := by rw [TRow]; trivial
theorem trow_cons {w : World} {t : TT} {ts : List TT} {b o : Nat} {A : TA} (h : TCells w b o t A) (ht : TOk w t A) (hr : TRow w ts (some ⟨b, o + 15, none⟩)) : TRow w (t :: ts) (some ⟨b, o, none⟩) := by
  rw [TRow]; exact ⟨b, o, rfl, ⟨A, h, ht⟩, hr⟩
theorem TOk.parts {w : World} {t : TT} {A : TA} (h : TOk w t A) : (t.args.length ≤ 651562446070 ∧ t.vs.length ≤ 3518437208780 ∧ t.ws.length ≤ 17592186043904) ∧ VIn w t.v (.agg #[.int .u8 t.v.kind, .int .i64 t.v.num, .slice A.va t.v.items.length A.vc]) ∧ VRow w t.vs A.sa ∧ WRow w t.ws A.wa ∧
      PIn w t.p (.agg #[.int .u8 t.p.kind, .int .u8 t.p.val.kind, .int .i64 t.p.val.num, .slice A.qa t.p.val.items.length A.qc, .int .i64 t.p.num, .slice A.pa t.p.args.length A.pc]) ∧ TRow w t.args A.aa := by
  obtain ⟨k, v, vs, lo, hi, ws, p, l⟩ := t
  rw [TOk] at h; exact h
theorem TOk.of {w : World} {t : TT} {A : TA} (h : (t.args.length ≤ 651562446070 ∧ t.vs.length ≤ 3518437208780 ∧ t.ws.length ≤ 17592186043904) ∧ VIn w t.v (.agg #[.int .u8 t.v.kind, .int .i64 t.v.num, .slice A.va t.v.items.length A.vc]) ∧ VRow w t.vs A.sa ∧ WRow w t.ws A.wa ∧
      PIn w t.p (.agg #[.int .u8 t.p.kind, .int .u8 t.p.val.kind, .int .i64 t.p.val.num, .slice A.qa t.p.val.items.length A.qc, .int .i64 t.p.num, .slice A.pa t.p.args.length A.pc]) ∧ TRow w t.args A.aa) : TOk w t A := by
  obtain ⟨k, v, vs, lo, hi, ws, p, l⟩ := t
  rw [TOk]; exact h
/-- term i of a row. -/
theorem TRow.get {w : World} : ∀ {l : List TT} {a : Option Addr} (_ : TRow w l a) (i : Nat) (hi : i < l.length),
    ∃ b o, a = some ⟨b, o, none⟩ ∧ ∃ A, TCells w b (o + i * 15) l[i] A ∧ TOk w l[i] A := by
  intro l
  induction l with
  | nil => intro a _ i hi; simp at hi
  | cons t ts ih =>
    intro a h i hi
    rw [TRow] at h
    obtain ⟨b, o, rfl, hc, hr⟩ := h
    refine ⟨b, o, rfl, ?_⟩
    cases i with
    | zero => simpa using hc
    | succ i =>
      obtain ⟨b', o', he, A, h0, hv⟩ := ih hr i (by simpa using hi)
      simp only [Option.some.injEq, Addr.mk.injEq] at he
      obtain ⟨rfl, rfl, _⟩ := he
      have e : o + 15 + i * 15 = o + (i + 1) * 15 := by omega
      exact ⟨A, by rw [← e]; simpa using h0, by simpa using hv⟩
theorem TRow.of {w : World} (b : Nat) : ∀ (l : List TT) (o : Nat) (_ : ∀ (i : Nat) (hi : i < l.length), ∃ A, TCells w b (o + i * 15) l[i] A ∧ TOk w l[i] A), TRow w l (some ⟨b, o, none⟩)
  | [], o, _ => by rw [TRow]; trivial
  | t :: ts, o, h => by
    have h0 := h 0 (by simp)
    simp only [Nat.zero_mul, Nat.add_zero, List.getElem_cons_zero] at h0
    obtain ⟨A, hA, ht⟩ := h0
    refine trow_cons hA ht (TRow.of b ts (o + 15) fun i hi => ?_)
    have h1 := h (i + 1) (by simpa using hi)
    have e : o + (i + 1) * 15 = o + 15 + i * 15 := by omega
    rw [e] at h1
    simpa using h1

/-! what the layer computes -/
mutual
/-- how many nodes, values and predicates not counted. -/
def TT.cnt : TT → Nat
  | .mk _ _ _ _ _ _ _ l => 1 + TT.cnts l
def TT.cnts : List TT → Nat
  | [] => 0
  | t :: ts => t.cnt + TT.cnts ts
end
mutual
/-- no value, and no predicate, is too great to be gone over. -/
def TT.lean : TT → Bool
  | .mk _ v vs _ _ ws p l => decide (v.size ≤ 100000) && decide (VT.sizes vs ≤ 100000) && decide (ws.length ≤ 100000) && decide (p.cnt ≤ 1000000) && decide (p.fat ≤ 100000) && TT.leans l
def TT.leans : List TT → Bool
  | [] => true
  | t :: ts => t.lean && TT.leans ts
end
mutual
def TT.nodes : TT → Nat
  | .mk k v vs _ _ _ p l => (if k = 1 then 1 + v.size else if k = 4 then 1 + VT.sizes vs else if k = 9 then 1 + p.nodes else 1) + TT.nodess l
def TT.nodess : List TT → Nat
  | [] => 0
  | t :: ts => t.nodes + TT.nodess ts
end
mutual
def TT.deep : TT → Nat
  | .mk _ _ _ _ _ _ _ l => TT.deeps l + 1
def TT.deeps : List TT → Nat
  | [] => 0
  | t :: ts => max t.deep (TT.deeps ts)
end
/-- the first error of values. -/
def VT.checks : List VT → Int
  | [] => 0
  | t :: ts => if t.check ≠ 0 then t.check else VT.checks ts
def TT.values (k : Int) (v : VT) (vs : List VT) : Int :=
  if k = 1 ∧ v.check ≠ 0 then v.check else if ¬ k = 1 ∧ v.none = false then 3 else if k ≠ 4 then (if vs.length = 0 then 0 else 3) else VT.checks vs
/-- is a weight none? -/
def badW (x : Int) : Bool := decide (x < 0) || decide (1048576 < x)
def sumW (l : List Int) : Int := l.foldr (· + ·) 0
def TT.wts (ws : List Int) : Int := if ws.length = 0 then 4 else if 64 < ws.length then 5 else if ws.any badW then 1 else if sumW ws = 0 then 7 else 0
def TT.weights (k : Int) (ws : List Int) (p : PT) : Int :=
  if k = 9 ∧ p.check.2 ≠ 0 then p.check.2 else if ¬ k = 9 ∧ p.nothing = false then 3 else if k = 3 ∨ k = 4 then TT.wts ws else if ws.length = 0 then 0 else 3
def TT.ends (k lo hi : Int) (n : Nat) : Int :=
  if k = 2 then (if -1099511627776 ≤ lo ∧ lo ≤ hi ∧ hi ≤ 1099511627776 then 0 else 1)
  else if k = 6 then (if 0 ≤ lo ∧ lo ≤ hi ∧ hi ≤ 16 then 0 else 1)
  else if k = 8 then (if 0 ≤ lo ∧ lo ≤ n then (if hi = 0 then 0 else 3) else 1)
  else if k = 10 then (if 0 ≤ lo ∧ lo ≤ 8 then (if hi = 0 then 0 else 3) else 1)
  else if lo = 0 ∧ hi = 0 then 0 else 3
def many (n least most : Int) : Int := if n < least then 4 else if most < n then 5 else 0
def TT.argsW (k : Int) (vn wn n : Nat) : Int :=
  if k = 3 then many n wn wn else if k = 5 ∨ k = 7 ∨ k = 8 then many n 0 64 else if k = 6 ∨ k = 9 then many n 1 1 else if k = 10 then many n 2 2
  else if k = 4 ∧ many vn wn wn ≠ 0 then many vn wn wn else many n 0 0
/-- what is wrong of a node by itself. -/
def TT.node1 (k : Int) (v : VT) (vs : List VT) (lo hi : Int) (ws : List Int) (p : PT) (n : Nat) : Int :=
  if k < 1 ∨ 11 < k then 11 else if TT.values k v vs ≠ 0 then TT.values k v vs else if TT.weights k ws p ≠ 0 then TT.weights k ws p
  else if TT.ends k lo hi n ≠ 0 then TT.ends k lo hi n else TT.argsW k vs.length ws.length n
def TT.node (t : TT) : Int := TT.node1 t.kind t.v t.vs t.lo t.hi t.ws t.p t.args.length
mutual
def TT.chk (most : Int) : TT → Int → Int → Bool → Int × Int
  | .mk k v vs lo hi ws q l, p, d, inn => if most < d then (p, 9) else if TT.node (.mk k v vs lo hi ws q l) ≠ 0 then (p, TT.node (.mk k v vs lo hi ws q l)) else if k = 11 ∧ inn = false then (p, 10) else TT.chks most k 0 l (p + 1) d inn
def TT.chks (most : Int) (k : Int) (i : Nat) : List TT → Int → Int → Bool → Int × Int
  | [], p, _, _ => (p, 0)
  | t :: ts, p, d, inn => if (t.chk most p (d + 1) (inn || (k == 10 && i == 1))).2 ≠ 0 then t.chk most p (d + 1) (inn || (k == 10 && i == 1)) else TT.chks most k (i + 1) ts (t.chk most p (d + 1) (inn || (k == 10 && i == 1))).1 d inn
end
mutual
/-- all nodes are right, and all Selfs belong. -/
def TT.sane (inn : Bool) : TT → Bool
  | .mk k v vs lo hi ws q l => TT.node (.mk k v vs lo hi ws q l) == 0 && (k != 11 || inn) && TT.sanes inn k 0 l
def TT.sanes (inn : Bool) (k : Int) (i : Nat) : List TT → Bool
  | [] => true
  | t :: ts => t.sane (inn || (k == 10 && i == 1)) && TT.sanes inn k (i + 1) ts
end
def iter (f : Nat → Nat) : Nat → Nat → Nat
  | 0, x => x
  | n + 1, x => f (iter f n x)
mutual
/-- the bulk, of a Self whose bulk is s. -/
def TT.bulk : TT → Nat → Nat
  | .mk k v vs lo hi _ _ l, s => if k = 1 then v.size else if k = 11 then s else if k = 10 then TT.bulk10 l lo.toNat s else if k = 2 then 1 else if k = 4 then 1 + VT.sizes vs
      else if k = 6 then 1 + (max 1 hi).toNat * TT.bulks l s else 1 + TT.bulks l s
def TT.bulks : List TT → Nat → Nat
  | [], _ => 0
  | t :: ts, s => t.bulk s + TT.bulks ts s
def TT.bulk10 : List TT → Nat → Nat → Nat
  | [], _, _ => 1
  | a :: l, n, s => TT.bulk10s l n (1 + a.bulk s)
def TT.bulk10s : List TT → Nat → Nat → Nat
  | [], _, _ => 1
  | b :: _, n, s => iter (fun r => 1 + b.bulk r) n s
end
mutual
/-- the height, of a Self whose height is s. -/
def TT.high : TT → Nat → Nat
  | .mk k v vs lo hi _ _ l, s => if k = 1 then v.deep else if k = 11 then s else if k = 10 then TT.high10 l lo.toNat s else if k = 2 then 1 else if k = 4 then VT.deeps vs
      else if k = 6 then (if hi = 0 then 1 else 1 + TT.highs l s) else if k = 3 ∨ k = 9 then TT.highs l s else 1 + TT.highs l s
def TT.highs : List TT → Nat → Nat
  | [], _ => 0
  | t :: ts, s => max (t.high s) (TT.highs ts s)
def TT.high10 : List TT → Nat → Nat → Nat
  | [], _, _ => 1
  | a :: l, n, s => TT.high10s l n (a.high s)
def TT.high10s : List TT → Nat → Nat → Nat
  | [], _, _ => 1
  | b :: _, n, s => iter (fun r => b.high r) n s
end
def TT.Bulk (t : TT) : Nat := if t.sane false then min (t.bulk 0) 4097 else 0
def TT.High (t : TT) : Nat := if t.sane false && decide (t.bulk 0 ≤ 4096) then t.high 0 else 0
def TT.sound (t : TT) : Bool := decide (0 < t.Bulk) && decide (t.Bulk ≤ 4096) && decide (t.High ≤ 128)
def TT.check (t : TT) : Int × Int := if (t.chk 12 0 1 false).2 ≠ 0 then t.chk 12 0 1 false else if 512 < t.nodes ∨ 4096 < t.bulk 0 then (0, 5) else if 128 < t.high 0 then (0, 9) else (0, 0)
def TT.may (t : TT) : Bool := t.check.2 == 0
mutual
def TT.same : TT → TT → Bool
  | .mk k v vs lo hi ws p l, .mk k' v' vs' lo' hi' ws' p' l' => k == k' && lo == lo' && hi == hi' && VT.same v v' && VT.sameAll vs vs' && ws == ws' && PT.same p p' && TT.sameAll l l'
def TT.sameAll : List TT → List TT → Bool
  | [], [] => true
  | a :: l, b :: m => TT.same a b && TT.sameAll l m
  | _, _ => false
end
mutual
/-- a term, with another one for each Self that belongs to no Sized in it. -/
def TT.put : TT → TT → TT
  | .mk k v vs lo hi ws p l, s => if k = 11 then s else .mk k v vs lo hi ws p (TT.puts k 0 l s)
def TT.puts (k : Int) (i : Nat) : List TT → TT → List TT
  | [], _ => []
  | t :: ts, s => (if k = 10 ∧ i = 1 then t else t.put s) :: TT.puts k (i + 1) ts s
end
def TT.less : TT → TT | .mk k v vs lo hi ws p l => .mk k v vs (lo - 1) hi ws p l
/-- what a Sized is unfolded to, by one step. -/
def TT.step (t : TT) : TT := match t.args with
  | a :: b :: _ => if t.lo = 0 then a else b.put t.less
  | _ => t
end Go.Proofs.Yteebbffecaeciaa
/- Plain words on memory that a call has made: values all of whose items lie in blocks of the call's own. -/
namespace Go.Proofs.Yteebbffecaeciaa
open Go.RowKit

theorem cell_set_other {w : World} {p : Addr} {b o : Nat} {u : Value} (h : p.block ≠ b) : (w.setCell p u).cell? ⟨b, o, none⟩ = w.cell? ⟨b, o, none⟩ :=
  World.cell?_of_block (w := w) (Below.heap_setCell w p u b (Ne.symm h))
theorem cell_set_off {w : World} {b o o' : Nat} {u : Value} (h : o' ≠ o) : (w.setCell ⟨b, o', none⟩ u).cell? ⟨b, o, none⟩ = w.cell? ⟨b, o, none⟩ :=
  World.cell?_setCell_other _ _ _ _ (fun e => h (by cases e; rfl))

/-- block b is a row of n cells, none of them frozen. -/
def RowAt (w : World) (t b n : Nat) : Prop := ∃ c : Array Value, w.heap[b]? = some (.cells c t (0, 0)) ∧ c.size = n
theorem RowAt.cell {w : World} {t b n : Nat} (h : RowAt w t b n) (i : Nat) (hi : i < n) : ∃ v, w.cell? ⟨b, i, none⟩ = some v := by
  obtain ⟨c, hc, hn⟩ := h
  exact ⟨c[i], by simp [World.cell?, hc, Array.getElem?_eq_getElem (show i < c.size by omega)]⟩
theorem RowAt.frozen {w : World} {t b n : Nat} (h : RowAt w t b n) (i : Nat) : w.frozen? ⟨b, i, none⟩ = false := by
  obtain ⟨c, hc, hn⟩ := h
  simp [World.frozen?, hc]
theorem RowAt.lt {w : World} {t b n : Nat} (h : RowAt w t b n) : b < w.heap.size := by
  obtain ⟨c, hc, hn⟩ := h
  exact (Array.getElem?_eq_some_iff.1 hc).1
theorem RowAt.below {w w' : World} {t b n B : Nat} (h : RowAt w t b n) (hB : b < B) (hb : Below B w w') : RowAt w' t b n := by
  obtain ⟨c, hc, hn⟩ := h
  exact ⟨c, (hb.block b hB).trans hc, hn⟩
theorem RowAt.set {w : World} {t b n : Nat} (h : RowAt w t b n) (p : Addr) (v : Value) (hp : p.spot = none) : RowAt (w.setCell p v) t b n := by
  obtain ⟨c, hc, hn⟩ := h
  by_cases e : p.block = b
  · obtain ⟨pb, po, ps⟩ := p
    simp only at e hp
    subst e hp
    refine ⟨c.setIfInBounds po v, ?_, by simpa using hn⟩
    have hlt := (Array.getElem?_eq_some_iff.1 hc).1
    have hval := (Array.getElem?_eq_some_iff.1 hc).2
    show (w.heap.modify pb _)[pb]? = _
    rw [Array.getElem?_eq_getElem (by rw [Array.size_modify]; exact hlt), Array.getElem_modify_self, hval]
    rfl
  · exact ⟨c, (Below.heap_setCell w p v b (Ne.symm e)).trans hc, hn⟩
theorem RowAt.new (w : World) (c : Array Value) (t : Nat) : RowAt (w.alloc (.cells c t)) t w.heap.size c.size := ⟨c, by show (w.heap.push _)[w.heap.size]? = _; simp, rfl⟩

theorem set_same {w : World} {b o : Nat} {u v : Value} (h : w.cell? ⟨b, o, none⟩ = some u) : (w.setCell ⟨b, o, none⟩ v).cell? ⟨b, o, none⟩ = some v := World.cell?_setCell_same' _ _ _ (by rw [h]; rfl)
theorem set_off {w : World} {b o o' : Nat} {u v : Value} (h : w.cell? ⟨b, o, none⟩ = some u) (hne : o' ≠ o) : (w.setCell ⟨b, o', none⟩ v).cell? ⟨b, o, none⟩ = some u := by rw [cell_set_off hne]; exact h
theorem set_blk {w : World} {b b' o o' : Nat} {u v : Value} (h : w.cell? ⟨b, o, none⟩ = some u) (hne : b' ≠ b) : (w.setCell ⟨b', o', none⟩ v).cell? ⟨b, o, none⟩ = some u := by rw [cell_set_other hne]; exact h
mutual
/-- v reads as the tree, and all its items lie in blocks from lo on, each row at its block's head. -/
def FIn (w : World) (lo : Nat) : VT → Value → Prop
  | .mk k n its, v => ∃ a cap, its.length ≤ 3518437208780 ∧ v = .agg #[.int .u8 k, .int .i64 n, .slice a its.length cap] ∧ (its = [] ∨ ∃ b, a = some ⟨b, 0, none⟩ ∧ lo ≤ b ∧ FRow w lo its b 0)
def FRow (w : World) (lo : Nat) : List VT → Nat → Nat → Prop
  | [], _, _ => True
  | t :: ts, b, o => (∃ v0 v1 v2, w.cell? ⟨b, o, none⟩ = some v0 ∧ w.cell? ⟨b, o + 1, none⟩ = some v1 ∧ w.cell? ⟨b, o + 2, none⟩ = some v2 ∧
      w.frozen? ⟨b, o, none⟩ = false ∧ w.frozen? ⟨b, o + 1, none⟩ = false ∧ w.frozen? ⟨b, o + 2, none⟩ = false ∧ FIn w lo t (.agg #[v0, v1, v2])) ∧ FRow w lo ts b (o + 3)
end
theorem FRow.of {w : World} {lo : Nat} (b : Nat) : ∀ (l : List VT) (o : Nat) (_ : ∀ (i : Nat) (hi : i < l.length), ∃ v0 v1 v2, w.cell? ⟨b, o + i * 3, none⟩ = some v0 ∧ w.cell? ⟨b, o + i * 3 + 1, none⟩ = some v1 ∧
      w.cell? ⟨b, o + i * 3 + 2, none⟩ = some v2 ∧ w.frozen? ⟨b, o + i * 3, none⟩ = false ∧ w.frozen? ⟨b, o + i * 3 + 1, none⟩ = false ∧ w.frozen? ⟨b, o + i * 3 + 2, none⟩ = false ∧ FIn w lo (l[i]) (.agg #[v0, v1, v2])), FRow w lo l b o
  | [], o, _ => by rw [FRow]; trivial
  | t :: ts, o, h => by
    rw [FRow]
    have h0 := h 0 (by simp)
    simp only [Nat.zero_mul, Nat.add_zero, List.getElem_cons_zero] at h0
    refine ⟨h0, FRow.of b ts (o + 3) fun i hi => ?_⟩
    have h1 := h (i + 1) (by simpa using hi)
    have e : o + (i + 1) * 3 = o + 3 + i * 3 := by omega
    rw [e] at h1
    simpa using h1
theorem FRow.get {w : World} {lo b : Nat} : ∀ {l : List VT} {o : Nat} (_ : FRow w lo l b o) (i : Nat) (hi : i < l.length), ∃ v0 v1 v2, w.cell? ⟨b, o + i * 3, none⟩ = some v0 ∧ w.cell? ⟨b, o + i * 3 + 1, none⟩ = some v1 ∧
      w.cell? ⟨b, o + i * 3 + 2, none⟩ = some v2 ∧ w.frozen? ⟨b, o + i * 3, none⟩ = false ∧ w.frozen? ⟨b, o + i * 3 + 1, none⟩ = false ∧ w.frozen? ⟨b, o + i * 3 + 2, none⟩ = false ∧ FIn w lo (l[i]) (.agg #[v0, v1, v2]) := by
  intro l
  induction l with
  | nil => intro o _ i hi; simp at hi
  | cons t ts ih =>
    intro o h i hi
    rw [FRow] at h
    cases i with
    | zero => simpa using h.1
    | succ i =>
      have h1 := ih h.2 i (by simpa using hi)
      have e : o + (i + 1) * 3 = o + 3 + i * 3 := by omega
      rw [e]
      simpa using h1
mutual
theorem FIn.mono {w w' : World} {lo lo' : Nat} (hlo : lo' ≤ lo) (hc : ∀ b o v, lo ≤ b → w.cell? ⟨b, o, none⟩ = some v → w'.cell? ⟨b, o, none⟩ = some v) (hf : ∀ b o v, lo ≤ b → w.cell? ⟨b, o, none⟩ = some v → w.frozen? ⟨b, o, none⟩ = false → w'.frozen? ⟨b, o, none⟩ = false) :
    ∀ (t : VT) (v : Value), FIn w lo t v → FIn w' lo' t v
  | .mk k n its, v, h => by
    rw [FIn] at h ⊢
    obtain ⟨a, cap, hl, hv, hr⟩ := h
    refine ⟨a, cap, hl, hv, hr.imp id ?_⟩
    rintro ⟨b, ha, hb, hr⟩
    exact ⟨b, ha, by omega, FRow.mono hlo hc hf its b 0 hb hr⟩
theorem FRow.mono {w w' : World} {lo lo' : Nat} (hlo : lo' ≤ lo) (hc : ∀ b o v, lo ≤ b → w.cell? ⟨b, o, none⟩ = some v → w'.cell? ⟨b, o, none⟩ = some v) (hf : ∀ b o v, lo ≤ b → w.cell? ⟨b, o, none⟩ = some v → w.frozen? ⟨b, o, none⟩ = false → w'.frozen? ⟨b, o, none⟩ = false) :
    ∀ (l : List VT) (b o : Nat), lo ≤ b → FRow w lo l b o → FRow w' lo' l b o
  | [], _, _, _, _ => by rw [FRow]; trivial
  | t :: ts, b, o, hb, h => by
    rw [FRow] at h ⊢
    obtain ⟨⟨v0, v1, v2, h0, h1, h2, f0, f1, f2, ht⟩, hr⟩ := h
    exact ⟨⟨v0, v1, v2, hc _ _ _ hb h0, hc _ _ _ hb h1, hc _ _ _ hb h2, hf _ _ _ hb h0 f0, hf _ _ _ hb h1 f1, hf _ _ _ hb h2 f2, FIn.mono hlo hc hf t _ ht⟩, FRow.mono hlo hc hf ts b (o + 3) hb hr⟩
end
theorem FIn.below {w w' : World} {lo : Nat} {t : VT} {v : Value} (h : FIn w lo t v) (hb : Below w.heap.size w w') : FIn w' lo t v :=
  h.mono (Nat.le_refl _) (fun _ _ _ _ hc => cell_stays hb hc) (fun _ _ _ _ hc hf => frozen_stay hb (lt_of_cell hc) hf) t v
theorem FIn.set {w : World} {lo : Nat} {t : VT} {v : Value} (h : FIn w lo t v) {p : Addr} (hp : p.block < lo) (u : Value) : FIn (w.setCell p u) lo t v :=
  h.mono (Nat.le_refl _) (fun b _ _ hb hc => by rw [cell_set_other (by omega)]; exact hc) (fun _ _ _ _ _ hf => by rw [World.frozen?_setCell]; exact hf) t v
theorem FIn.less {w : World} {lo lo' : Nat} {t : VT} {v : Value} (h : FIn w lo t v) (hl : lo' ≤ lo) : FIn w lo' t v := h.mono hl (fun _ _ _ _ hc => hc) (fun _ _ _ _ _ hf => hf) t v
theorem FRow.less {w : World} {lo lo' : Nat} (hl : lo' ≤ lo) : ∀ (l : List VT) (b o : Nat), FRow w lo l b o → FRow w lo' l b o
  | [], _, _, _ => by rw [FRow]; trivial
  | t :: ts, b, o, h => by
    rw [FRow] at h ⊢
    obtain ⟨⟨v0, v1, v2, h0, h1, h2, f0, f1, f2, ht⟩, hr⟩ := h
    exact ⟨⟨v0, v1, v2, h0, h1, h2, f0, f1, f2, ht.less hl⟩, FRow.less hl ts b (o + 3) hr⟩
mutual
theorem FIn.vin {w : World} {lo : Nat} : ∀ (t : VT) (v : Value), FIn w lo t v → VIn w t v
  | .mk k n its, v, h => by
    rw [FIn] at h; rw [VIn]
    obtain ⟨a, cap, hl, hv, hr⟩ := h
    refine ⟨a, cap, hl, hv, ?_⟩
    rcases hr with rfl | ⟨b, rfl, _, hr⟩
    · rw [VRow]; trivial
    · exact FRow.vrow its b 0 hr
theorem FRow.vrow {w : World} {lo : Nat} : ∀ (l : List VT) (b o : Nat), FRow w lo l b o → VRow w l (some ⟨b, o, none⟩)
  | [], _, _, _ => by rw [VRow]; trivial
  | t :: ts, b, o, h => by
    rw [FRow] at h; rw [VRow]
    obtain ⟨⟨v0, v1, v2, h0, h1, h2, _, _, _, ht⟩, hr⟩ := h
    exact ⟨b, o, rfl, ⟨v0, v1, v2, h0, h1, h2, FIn.vin t _ ht⟩, FRow.vrow ts b (o + 3) hr⟩
end
theorem FIn.open {w : World} {lo : Nat} {k n : Int} {its : List VT} {v : Value} (h : FIn w lo (.mk k n its) v) : ∃ a cap, its.length ≤ 3518437208780 ∧ v = .agg #[.int .u8 k, .int .i64 n, .slice a its.length cap] ∧ (its = [] ∨ ∃ b, a = some ⟨b, 0, none⟩ ∧ lo ≤ b ∧ FRow w lo its b 0) := by rw [FIn] at h; exact h
end Go.Proofs.Yteebbffecaeciaa
/- A value laid into a box of its own. -/
namespace Go.Proofs.Yteebbffecaeciaa
open Go.RowKit
theorem box3 (w : World) (x y z : Value) (T : Nat) : ∃ w4, w.alloc (.cells #[x, y, z] T) = w4 ∧ Below w.heap.size w w4 ∧ w.heap.size < w4.heap.size ∧
    w4.cell? ⟨w.heap.size, 0, none⟩ = some x ∧ w4.cell? ⟨w.heap.size, 1, none⟩ = some y ∧ w4.cell? ⟨w.heap.size, 2, none⟩ = some z ∧ (∀ o, w4.frozen? ⟨w.heap.size, o, none⟩ = false) := by
  refine ⟨_, rfl, ?_, ?_, ?_, ?_, ?_, ?_⟩
  · exact (Below.refl _ _).alloc (Nat.le_refl _) _
  · show w.heap.size < (w.heap.push _).size; simp
  · go_simp
  · go_simp
  · go_simp
  · intro o; exact (RowAt.new w #[x, y, z] T).frozen o

theorem vrow_nil {w : World} {a : Option Addr} : VRow w [] a := by rw [VRow]; trivial
theorem vrow_cons {w : World} {t : VT} {ts : List VT} {b o : Nat} {v0 v1 v2 : Value} (h0 : w.cell? ⟨b, o, none⟩ = some v0) (h1 : w.cell? ⟨b, o + 1, none⟩ = some v1) (h2 : w.cell? ⟨b, o + 2, none⟩ = some v2)
    (hv : VIn w t (.agg #[v0, v1, v2])) (hr : VRow w ts (some ⟨b, o + 3, none⟩)) : VRow w (t :: ts) (some ⟨b, o, none⟩) := by rw [VRow]; exact ⟨b, o, rfl, ⟨v0, v1, v2, h0, h1, h2, hv⟩, hr⟩
theorem vin_of {w : World} {k n : Int} {its : List VT} {a : Option Addr} {len cap : Nat} (hlen : len = its.length) (hl : its.length ≤ 3518437208780) (hr : VRow w its a) : VIn w (.mk k n its) (.agg #[.int .u8 k, .int .i64 n, .slice a len cap]) := by subst hlen; exact VIn.shut hl hr
theorem Below.al {w : World} (o : Obj) : Below w.heap.size w (w.alloc o) := (Below.refl _ _).alloc (Nat.le_refl _) o
end Go.Proofs.Yteebbffecaeciaa
/- pred's and the document's small functions over a node. -/
namespace Go.Proofs.Yteebbffecaeciaa
open Go.RowKit

theorem box6 (w : World) (x y z x' y' z' : Value) (T : Nat) : ∃ w4, w.alloc (.cells #[x, y, z, x', y', z'] T) = w4 ∧ Below w.heap.size w w4 ∧ w.heap.size < w4.heap.size ∧
    w4.cell? ⟨w.heap.size, 0, none⟩ = some x ∧ w4.cell? ⟨w.heap.size, 1, none⟩ = some y ∧ w4.cell? ⟨w.heap.size, 2, none⟩ = some z ∧
    w4.cell? ⟨w.heap.size, 3, none⟩ = some x' ∧ w4.cell? ⟨w.heap.size, 4, none⟩ = some y' ∧ w4.cell? ⟨w.heap.size, 5, none⟩ = some z' := by
  refine ⟨_, rfl, ?_, ?_, ?_, ?_, ?_, ?_, ?_, ?_⟩
  · exact (Below.refl _ _).alloc (Nat.le_refl _) _
  · show w.heap.size < (w.heap.push _).size; simp
  all_goals go_simp

theorem none_any (k n : Int) (a : Option Addr) (len cap : Nat) (w : World) :
    Calls Try.prog 67 #[.agg #[.int .u8 k, .int .i64 n, .slice a len cap]] w fun e w' => e = .returned (.bool (k == 0 && n == 0 && len == 0)) ∧ Below w.heap.size w w' := by
  have hk : (k == 0) = true ∨ (k == 0) = false := by cases h : (k == 0) <;> simp
  have hn : (n == 0) = true ∨ (n == 0) = false := by cases h : (n == 0) <;> simp
  rcases hk with hk | hk
  · rcases hn with hn | hn
    · go_enter Try.func67, Try.ntmps67
      go_wp2_with fail
      go_ret
      exact ⟨ret_bool (by rw [hk, hn, Bool.eq_iff_iff]; simp), Below.al _⟩
    · go_enter Try.func67, Try.ntmps67
      go_wp2_with fail
      go_ret
      exact ⟨ret_bool (by rw [hk, hn]; rfl), Below.al _⟩
  · go_enter Try.func67, Try.ntmps67
    go_wp2_with fail
    go_ret
    exact ⟨ret_bool (by rw [hk]; rfl), Below.al _⟩
theorem hasValue_any (k : Int) (w : World) : Calls Try.prog 65 #[.int .u8 k] w fun e w' => e = .returned (.bool (decide (k = 3 ∨ k = 4))) ∧ w = w' := by
  go_enter Try.func65, Try.ntmps65
  go_wp2
  all_goals
    go_ret
    exact ⟨ret_bool (by rw [Bool.eq_iff_iff]; simp <;> omega), rfl⟩
theorem prow_any (k n : Int) (a : Option Addr) (len cap : Nat) (w : World) : Calls Try.prog 178 #[.agg #[.int .u8 k, .int .i64 n, .slice a len cap]] w fun e w' => e = .returned (.bool (decide (k = 3 ∨ k = 4))) ∧ Below w.heap.size w w' := by
  go_enter Try.func178, Try.ntmps178
  go_wp2_with fail
  all_goals
    go_ret
    exact ⟨ret_bool (by rw [Bool.eq_iff_iff]; simp <;> omega), Below.al _⟩
theorem room_any (k : Int) (w : World) : Calls Try.prog 118 #[.int .u8 k] w fun e w' => e = .returned (.tuple #[.int .i64 (PT.least k), .int .i64 (PT.most k)]) ∧ w = w' := by
  have hk : k = 1 ∨ k = 2 ∨ k = 3 ∨ k = 4 ∨ k = 6 ∨ k = 7 ∨ (k ≠ 1 ∧ k ≠ 2 ∧ k ≠ 3 ∧ k ≠ 4 ∧ k ≠ 6 ∧ k ≠ 7) := by omega
  rcases hk with rfl | rfl | rfl | rfl | rfl | rfl | ⟨h1, h2, h3, h4, h5, h6⟩
  all_goals
    go_enter Try.func118, Try.ntmps118
    go_wp2
    refine bodyPost_ret (v := .tuple #[.int .i64 (PT.least _), .int .i64 (PT.most _)]) (by first | (simp [results, Try.results118, go_sem, PT.least, PT.most]; done) | (simp [results, Try.results118, go_sem, PT.least, PT.most, h1, h2, h3, h4, h5, h6]; done)) rfl ⟨rfl, rfl⟩
end Go.Proofs.Yteebbffecaeciaa
/- The walks of cmp.Compare, and of the functions of package val that make nothing new. -/
namespace Go.Proofs.Yteebbffecaeciaa
open Go.RowKit

theorem nan8 (x : Int) (w : World) : Calls Try.prog 172 #[.int .u8 x] w fun e w' => e = .returned (.bool false) ∧ w = w' := by
  go_enter Try.func172, Try.ntmps172
  go_wp2
  go_ret
  exact ⟨ret_bool (by simp), rfl⟩
theorem nan64 (x : Int) (w : World) : Calls Try.prog 173 #[.int .i64 x] w fun e w' => e = .returned (.bool false) ∧ w = w' := by
  go_enter Try.func173, Try.ntmps173
  go_wp2
  go_ret
  exact ⟨ret_bool (by simp), rfl⟩
theorem nanI (x : Int) (w : World) : Calls Try.prog 174 #[.int .i64 x] w fun e w' => e = .returned (.bool false) ∧ w = w' := by
  go_enter Try.func174, Try.ntmps174
  go_wp2
  go_ret
  exact ⟨ret_bool (by simp), rfl⟩
set_option maxHeartbeats 1000000 in
theorem cmp8 (x y : Int) (w : World) : Calls Try.prog 169 #[.int .u8 x, .int .u8 y] w fun e w' => e = .returned (.int .i64 (cmpI x y)) ∧ w = w' := by
  rcases Int.lt_trichotomy x y with h | h | h
  all_goals
    go_enter Try.func169, Try.ntmps169
    go_wp2_with (go_at_call 172; refine (nan8 _ _).mono ?_; rintro e w' ⟨rfl, rfl⟩)
    go_ret
    exact ⟨ret_int (by unfold cmpI; split <;> (try split) <;> omega), rfl⟩
set_option maxHeartbeats 1000000 in
theorem cmp64 (x y : Int) (w : World) : Calls Try.prog 170 #[.int .i64 x, .int .i64 y] w fun e w' => e = .returned (.int .i64 (cmpI x y)) ∧ w = w' := by
  rcases Int.lt_trichotomy x y with h | h | h
  all_goals
    go_enter Try.func170, Try.ntmps170
    go_wp2_with (go_at_call 173; refine (nan64 _ _).mono ?_; rintro e w' ⟨rfl, rfl⟩)
    go_ret
    exact ⟨ret_int (by unfold cmpI; split <;> (try split) <;> omega), rfl⟩
set_option maxHeartbeats 1000000 in
theorem cmpInt (x y : Int) (w : World) : Calls Try.prog 171 #[.int .i64 x, .int .i64 y] w fun e w' => e = .returned (.int .i64 (cmpI x y)) ∧ w = w' := by
  rcases Int.lt_trichotomy x y with h | h | h
  all_goals
    go_enter Try.func171, Try.ntmps171
    go_wp2_with (go_at_call 174; refine (nanI _ _).mono ?_; rintro e w' ⟨rfl, rfl⟩)
    go_ret
    exact ⟨ret_int (by unfold cmpI; split <;> (try split) <;> omega), rfl⟩
def leafB (k : Int) : Bool := decide (k = 1 ∨ k = 2)
theorem leaf_any (k : Int) (w : World) : Calls Try.prog 136 #[.int .u8 k] w fun e w' => e = .returned (.bool (leafB k)) ∧ w = w' := by
  go_enter Try.func136, Try.ntmps136
  go_wp2
  all_goals
    go_ret
    exact ⟨ret_bool (by unfold leafB; rw [Bool.eq_iff_iff]; simp <;> omega), rfl⟩
end Go.Proofs.Yteebbffecaeciaa
/- The iterator of package val: 'all' hands a value and then its items to its body, each with its depth. -/
namespace Go.Proofs.Yteebbffecaeciaa
open Go.RowKit Go.Shelf
attribute [local go_sem] Oper.semAt_some

theorem room_of_none {F : Fence} (hd : F.depth = none) (k : Nat) : F.room k := fun d h => by rw [hd] at h; cases h
theorem roundIn_any {F : Fence} (hd : F.depth = none) {m m' : Nat} {P : Program} {l : Nat} {f : FuncId} {tmps : Array Value} {assign body : Code} {w : World} {R : Ending → World → Prop}
    (h : RoundIn F m P l f tmps assign body w R) : RoundIn F m' P l f tmps assign body w R := ⟨h.1, fun c cs _ => h.2 c cs (room_of_none hd _)⟩
theorem yieldAt_any {F : Fence} (hd : F.depth = none) {m : Nat} (m' : Nat) {P : Program} {l : Nat} {args : Array Value} {W : World} {R : Ending → World → Prop} (h : YieldAt F m P l args W R) : YieldAt F m' P l args W R := by
  obtain ⟨fn, tmps, assign, body, hy, hR⟩ := h
  exact ⟨fn, tmps, assign, body, hy, roundIn_any hd hR⟩

/-- what a round keeps: all cells but those of the blocks from n₀ up to m (the caller's own variables). -/
structure KpBut (n₀ m : Nat) (W W' : World) : Prop where
  size : W.heap.size ≤ W'.heap.size
  cell : ∀ b o v, (b < n₀ ∨ m ≤ b) → W.cell? ⟨b, o, none⟩ = some v → W'.cell? ⟨b, o, none⟩ = some v
theorem KpBut.refl (n₀ m : Nat) (W : World) : KpBut n₀ m W W := ⟨Nat.le_refl _, fun _ _ _ _ h => h⟩
theorem KpBut.trans {n₀ m : Nat} {A B C : World} (h : KpBut n₀ m A B) (k : KpBut n₀ m B C) : KpBut n₀ m A C := ⟨Nat.le_trans h.size k.size, fun b o v hb hc => k.cell b o v hb (h.cell b o v hb hc)⟩
theorem KpBut.alloc {n₀ m : Nat} {A B : World} (h : KpBut n₀ m A B) (o : Obj) : KpBut n₀ m A (B.alloc o) :=
  h.trans ⟨by simp, fun _ _ _ _ hc => cell_stays ((Below.refl _ B).alloc (Nat.le_refl _) o) hc⟩
theorem KpBut.setCell {n₀ m : Nat} {A B : World} (h : KpBut n₀ m A B) {p : Addr} (h1 : n₀ ≤ p.block) (h2 : p.block < m) (v : Value) : KpBut n₀ m A (B.setCell p v) :=
  h.trans ⟨by simp [World.setCell], fun b o u hb hc => by
    rw [World.cell?_of_block (w := B) (a := ⟨b, o, none⟩) (Below.heap_setCell B p v b (by omega))]; exact hc⟩
theorem KpBut.drew {n₀ m : Nat} {A B : World} (h : KpBut n₀ m A B) : KpBut n₀ m A B.drew := ⟨h.size, fun b o v hb hc => by simpa using h.cell b o v hb hc⟩
theorem KpBut.below {n₀ m : Nat} {A B C : World} (h : KpBut n₀ m A B) (k : Below B.heap.size B C) : KpBut n₀ m A C := h.trans ⟨k.size, fun _ _ _ _ hc => cell_stays k hc⟩
theorem kpBut_b {n₀ m : Nat} (W : World) (l : Nat) (o o' : Obj) (_ : m ≤ l) (h : W.heap[l]? = some o) (hc : o.isCells = false) (_ : o.isWalk = false) : KpBut n₀ m W (W.putObj l o') :=
  ⟨by simp, fun b off v _ hv => by
    have hne : b ≠ l := fun e => by
      subst e
      simp only [World.cell?, h] at hv
      cases o <;> simp_all [Obj.isCells]
    rw [World.cell?_of_block (w := W) (a := ⟨b, off, none⟩) (World.putObj_heap_other hne)]; exact hv⟩

/-- what the iterator hands on: how deep, and a value. -/
structure Nd where
  d : Int
  k : Int
  n : Int
  a : Option Addr
  len : Nat
  cap : Nat
def Nd.v (x : Nd) : Value := .agg #[.int .u8 x.k, .int .i64 x.n, .slice x.a x.len x.cap]
def Nd.encs (x : Nd) : Array Value := #[.int .i64 x.d, .agg #[.int .u8 x.k, .int .i64 x.n, .slice x.a x.len x.cap]]
def Nd.sh (x : Nd) : Int × Int × Int × Nat := (x.d, x.k, x.n, x.len)
mutual
def VT.flat (d : Int) : VT → List (Int × Int × Int × Nat)
  | .mk k n its => (d, k, n, its.length) :: VT.flats (d + 1) its
def VT.flats (d : Int) : List VT → List (Int × Int × Int × Nat)
  | [] => []
  | t :: ts => t.flat d ++ VT.flats d ts
end
mutual
theorem VT.flat_length (d : Int) : ∀ t : VT, (t.flat d).length = t.size
  | .mk k n its => by rw [VT.flat, VT.size, List.length_cons, VT.flats_length (d + 1) its]; omega
theorem VT.flats_length (d : Int) : ∀ l : List VT, (VT.flats d l).length = VT.sizes l
  | [] => by rw [VT.flats, VT.sizes]; rfl
  | t :: ts => by rw [VT.flats, VT.sizes, List.length_append, VT.flat_length d t, VT.flats_length d ts]
end
theorem VT.sizes_split {l : List VT} {i : Nat} (h : i < l.length) : VT.sizes (l.drop i) = l[i].size + VT.sizes (l.drop (i + 1)) := by rw [drop_cons h, VT.sizes]

/-- all cells of the first world are there. -/
def Holds (A B : World) : Prop := ∀ b o v, A.cell? ⟨b, o, none⟩ = some v → B.cell? ⟨b, o, none⟩ = some v
theorem Holds.kp {W0 A B : World} {m : Nat} (h : Holds W0 A) (k : KpBut W0.heap.size m A B) : Holds W0 B := fun b o v hc => k.cell b o v (.inl (lt_of_cell hc)) (h b o v hc)

set_option maxRecDepth 100000 in
set_option maxHeartbeats 2000000 in
/-- the closure 'visit': by induction on the tree. -/
theorem visit_in (F : Fence) (hd : F.depth = none) (h41 : F.fn 120) (hro : F.round = none) (l m N : Nat) (W0 : World) (J Jx : List Nd → World → Prop)
    (hJ : ∀ pre W o, W0.heap.size ≤ W.heap.size → J pre W → J pre (W.alloc o))
    (hY : ∀ mm pre x W, J pre W → pre.length < N → YieldAt F mm Try.prog l (Nd.encs x) W fun e W' =>
      (e = .returned (.bool true) ∧ J (pre ++ [x]) W' ∧ KpBut W0.heap.size m W W') ∨ (e = .returned (.bool false) ∧ Jx (pre ++ [x]) W'))
    (bY bV : Nat) (hbY : m ≤ bY) (hbV : m ≤ bV) (hm : W0.heap.size ≤ m) (M : Nat) :
    ∀ (t : VT) (n : Nat) (d : Int) (v : Value) (pre : List Nd) (W : World), t.size ≤ M → VIn W0 t v → Holds W0 W → m ≤ W.heap.size →
      W.cell? ⟨bY, 0, none⟩ = some (.func (.yield l) #[] #[]) → W.cell? ⟨bV, 0, none⟩ = some (.func (.func 120) #[] #[.pointer (some ⟨bY, 0, none⟩), .pointer (some ⟨bV, 0, none⟩)]) →
      J pre W → pre.length + t.size ≤ N → 0 ≤ d → d + M ≤ 1000000 →
      CallsIn F n Try.prog 120 #[.int .i64 d, v, .pointer (some ⟨bY, 0, none⟩), .pointer (some ⟨bV, 0, none⟩)] W fun e W' =>
        (e = .returned (.bool true) ∧ (∃ xs, xs.map Nd.sh = t.flat d ∧ J (pre ++ xs) W') ∧ KpBut W0.heap.size m W W') ∨
        (e = .returned (.bool false) ∧ ∃ xs rest, xs.map Nd.sh ++ rest = t.flat d ∧ Jx (pre ++ xs) W') := by
  induction M with
  | zero => intro t n d v pre W h; have := VT.size_pos t; omega
  | succ M ih =>
    intro t n d v pre W hM hv hH hmW cY cV hj hN hd0 hdM
    obtain ⟨k, nn, its⟩ := t
    obtain ⟨a, cap, hlen, rfl, hr⟩ := hv.open
    rw [VT.size] at hM hN
    have IH := Lib.hid ih; clear ih
    have HY := Lib.hid hY; clear hY
    have HJ := Lib.hid hJ; clear hJ
    have HV := Lib.hid hv; clear hv
    have hdd : ∀ k : Nat, (F.depth.isSome = true → 1 ≤ k) := fun k h => by rw [hd] at h; cases h
    have Hdd := Lib.hid hdd; clear hdd
    have hy1 := HY.out (n - 1) pre ⟨d, k, nn, a, its.length, cap⟩ (W.alloc (.cells #[.int .u8 k, .int .i64 nn, .slice a its.length cap] 25)) (HJ.out _ _ _ (Nat.le_trans hm hmW) hj) (by omega)
    obtain ⟨fn, tmps, assign, body, hy, hR⟩ := hy1
    have HR := Lib.hid hR; clear hR
    dsimp only [Nd.encs] at hy
    have hbY2 := lt_of_cell cY
    have hbV2 := lt_of_cell cV
    refine callsIn_of_wp Try.func120 rfl h41 ?_ hro
    simp only [Try.ntmps120, List.size_toArray, List.length_cons, List.length_nil, Nat.reduceAdd, Nat.reduceSub, Array.replicate_succ, Array.replicate_zero, List.push_toArray, List.append_toArray, List.nil_append, List.cons_append]
    gi_wp2_with fail
    refine HR.out.mono ?_
    rintro e W1 (⟨rfl, hj1, hk1⟩ | ⟨rfl, hx1⟩)
    · have hk0 : KpBut W0.heap.size m W W1 := ((KpBut.refl _ _ W).alloc _).trans hk1
      have hB1 : W1.cell? ⟨W.heap.size, 2, none⟩ = some (.slice a its.length cap) := hk1.cell _ _ _ (.inr hmW) (by go_simp)
      have cY1 := hk0.cell _ _ _ (.inr hbY) cY
      have cV1 := hk0.cell _ _ _ (.inr hbV) cV
      have hf1 : (Nd.sh ⟨d, k, nn, a, its.length, cap⟩) :: VT.flats (d + 1) its = (VT.mk k nn its).flat d := by rw [VT.flat]; rfl
      have HF := Lib.hid hf1; clear hf1
      gi_wp2_with fail
      gi_loopw [17] (fun x wr => ∃ (i : Nat) (xs : List Nd), x = .int .i64 i ∧ i ≤ its.length ∧ xs.map Nd.sh ++ VT.flats (d + 1) (its.drop i) = (VT.mk k nn its).flat d ∧ J (pre ++ xs) wr ∧ KpBut W0.heap.size m W wr ∧ W.heap.size < wr.heap.size) (fun x _ => its.length - (intOf x).toNat)
      case atStart => exact ⟨0, [⟨d, k, nn, a, its.length, cap⟩], rfl, by omega, HF.out, hj1, hk0, by have := hk1.size; simp at this; omega⟩
      case round =>
        obtain ⟨i, xs, rfl, hi, hxs, hjr, hkr, hszr⟩ := hrel
        have cYr := hkr.cell _ _ _ (.inr hbY) cY
        have cVr := hkr.cell _ _ _ (.inr hbV) cV
        have hbYr := lt_of_cell cYr
        have hbVr := lt_of_cell cVr
        have hLen := congrArg List.length hxs
        rw [List.length_append, List.length_map, VT.flats_length, VT.flat_length, VT.size] at hLen
        have HX := Lib.hid hxs; clear hxs
        by_cases hlt : i < its.length
        · obtain ⟨b, o, rfl, ax, cx, d0, d1, d2, hvi⟩ := hr.got i hlt
          have d0' := hH.kp hkr _ _ _ d0
          have d1' := hH.kp hkr _ _ _ d1
          have d2' := hH.kp hkr _ _ _ d2
          have hsl := VT.sizes_get hlt
          have hsp := VT.sizes_split hlt
          have HI := Lib.hid (IH.out its[i] (n - 1) (d + 1) _ (pre ++ xs) (wr.alloc (.cells #[.int .u8 its[i].kind, .int .i64 its[i].num, .slice ax its[i].items.length cx] 25)) (by omega) hvi ((hH.kp hkr).kp ((KpBut.refl _ m _).alloc _)) (by simp; omega) (cell_stays ((Below.refl _ wr).alloc (Nat.le_refl _) _) cYr) (cell_stays ((Below.refl _ wr).alloc (Nat.le_refl _) _) cVr) (HJ.out _ _ _ (by omega) hjr) (by simp; omega) (by omega) (by omega))
          clear hLen hsp
          have HS := Lib.hid (show VT.flats (d + 1) (its.drop i) = its[i].flat (d + 1) ++ VT.flats (d + 1) (its.drop (i + 1)) by rw [drop_cons hlt, VT.flats])
          gi_wp2_with fail
          refine HI.out.mono ?_
          rintro e W2 (⟨rfl, ⟨ys, hys, hjy⟩, hky⟩ | ⟨rfl, ys, rest, hys, hxy⟩)
          · have HYS := Lib.hid hys; clear hys
            gi_wp2_with fail
            go_roundw
            case rel => exact ⟨i + 1, xs ++ ys, by go_num, by omega, by rw [List.map_append, HYS.out, List.append_assoc, ← HS.out, HX.out], by rw [← List.append_assoc]; exact hjy, (hkr.alloc _).trans hky, by have := hky.size; simp at this; omega⟩
            case measure => simp [intOf]; omega
          · have HYS := Lib.hid hys; clear hys
            gi_wp2_with fail
            go_ret
            exact .inr ⟨rfl, xs ++ ys, rest ++ VT.flats (d + 1) (its.drop (i + 1)), by rw [← HX.out, HS.out, ← HYS.out]; simp, by rw [← List.append_assoc]; exact hxy⟩
        · gi_wp2_with fail
          go_ret
          exact .inl ⟨rfl, ⟨xs, by rw [← HX.out, drop_nil hlt, VT.flats, List.append_nil], hjr⟩, hkr⟩
    · gi_wp2_with fail
      go_ret
      exact .inr ⟨rfl, [⟨d, k, nn, a, its.length, cap⟩], VT.flats (d + 1) its, by rw [VT.flat]; rfl, hx1⟩

set_option maxRecDepth 100000 in
set_option maxHeartbeats 2000000 in
/-- the function value that 'all' hands back. -/
theorem all1_in (F : Fence) (hd : F.depth = none) (h40 : F.fn 119) (h41 : F.fn 120) (hro : F.round = none) (n l m Bt : Nat) (W0 : World) (t : VT) (v : Value) (J Jx : List Nd → World → Prop)
    (hJ : ∀ pre W o, W0.heap.size ≤ W.heap.size → J pre W → J pre (W.alloc o))
    (hY : ∀ mm pre x W, J pre W → pre.length < t.size → YieldAt F mm Try.prog l (Nd.encs x) W fun e W' =>
      (e = .returned (.bool true) ∧ J (pre ++ [x]) W' ∧ KpBut W0.heap.size m W W') ∨ (e = .returned (.bool false) ∧ Jx (pre ++ [x]) W'))
    (hm : W0.heap.size ≤ m) (ht : t.size ≤ 100000) (W : World) (hv : VIn W0 t v) (hH : Holds W0 W) (hmW : m ≤ W.heap.size) (v0 v1 v2 : Value) (hvv : v = .agg #[v0, v1, v2])
    (c0 : W.cell? ⟨Bt, 0, none⟩ = some v0) (c1 : W.cell? ⟨Bt, 1, none⟩ = some v1) (c2 : W.cell? ⟨Bt, 2, none⟩ = some v2) (h0 : J [] W) :
    CallsIn F n Try.prog 119 #[.func (.yield l) #[] #[], .pointer (some ⟨Bt, 0, none⟩)] W fun e W' => (∃ v, e = .returned v) ∧
      ((∃ xs, xs.map Nd.sh = t.flat 1 ∧ J xs W') ∨ (∃ pre, (∃ rest, pre.map Nd.sh ++ rest = t.flat 1) ∧ Jx pre W')) := by
  subst hvv
  have hdd : ∀ k : Nat, (F.depth.isSome = true → 1 ≤ k) := fun k h => by rw [hd] at h; cases h
  have hbt := lt_of_cell c0
  have HI := Lib.hid (visit_in F hd h41 hro l m t.size W0 J Jx hJ hY W.heap.size (W.heap.size + 1) hmW (by omega) hm t.size t (n - 1) 1 (.agg #[v0, v1, v2]) []
    ((W.alloc (.cells #[.func (.yield l) #[] #[]] 135)).alloc (.cells #[.func (.func 120) #[] #[.pointer (some ⟨W.heap.size, 0, none⟩), .pointer (some ⟨W.heap.size + 1, 0, none⟩)]] 135)) (Nat.le_refl _) hv
    (hH.kp (((KpBut.refl _ m _).alloc _).alloc _)) (by simp; omega) (by go_simp) (by go_simp) (hJ _ _ _ (by simp; omega) (hJ _ _ _ (by omega) h0)) (by simp) (by omega) (by omega))
  clear hY hJ
  refine callsIn_of_wp Try.func119 rfl h40 ?_ hro
  simp only [Try.ntmps119, List.size_toArray, List.length_cons, List.length_nil, Nat.reduceAdd, Nat.reduceSub, Array.replicate_succ, Array.replicate_zero, List.push_toArray, List.append_toArray, List.nil_append, List.cons_append]
  gi_wp2_with fail
  refine HI.out.mono ?_
  rintro e W2 (⟨rfl, ⟨ys, hys, hjy⟩, _⟩ | ⟨rfl, ys, rest, hys, hxy⟩)
  · have HYS := Lib.hid hys; clear hys
    gi_wp2_with fail
    go_end0
    exact ⟨⟨_, rfl⟩, .inl ⟨ys, HYS.out, hjy⟩⟩
  · have HYS := Lib.hid hys; clear hys
    gi_wp2_with fail
    go_end0
    exact ⟨⟨_, rfl⟩, .inr ⟨ys, ⟨rest, HYS.out⟩, hxy⟩⟩

set_option maxHeartbeats 1000000 in
theorem all_in (F : Fence) (n : Nat) (h33 : F.fn 94) (hro : F.round = none) (v0 v1 v2 : Value) (w : World) :
    CallsIn F n Try.prog 94 #[.agg #[v0, v1, v2]] w fun e w' => e = .returned (.func (.func 119) #[] #[.pointer (some ⟨w.heap.size, 0, none⟩)]) ∧ w.alloc (.cells #[v0, v1, v2] 25) = w' := by
  refine callsIn_of_wp Try.func94 rfl h33 ?_ hro
  simp only [Try.ntmps94, List.size_toArray, List.length_cons, List.length_nil, Nat.reduceAdd, Nat.reduceSub, Array.replicate_succ, Array.replicate_zero, List.push_toArray, List.append_toArray, List.nil_append, List.cons_append]
  have hmf : ∀ (fn : Fn) (first cap : Array Value) (w : World), (Instr.makeFunc fn first cap).run Try.prog w = .ok (.func fn first cap) w := fun _ _ _ _ => rfl
  gi_wp2
  go_ret
  exact ⟨rfl, rfl⟩

/-- all(v) hands back a value that stops as a range over a function wants: w0 is the world in which v was read, w the one in which the loop begins. -/
theorem all_stops (n Bt : Nat) (W0 w : World) (t : VT) (v0 v1 v2 : Value) (hb : Below W0.heap.size W0 w) (ht : t.size ≤ 100000) (hv : VIn W0 t (.agg #[v0, v1, v2]))
    (c0 : w.cell? ⟨Bt, 0, none⟩ = some v0) (c1 : w.cell? ⟨Bt, 1, none⟩ = some v1) (c2 : w.cell? ⟨Bt, 2, none⟩ = some v2) :
    SeqStopsK Fence.wide n Try.prog 119 #[.pointer (some ⟨Bt, 0, none⟩)] Nd.encs (KpBut W0.heap.size w.heap.size) (fun ys => ys.map Nd.sh = t.flat 1) (fun pre => ∃ rest, pre.map Nd.sh ++ rest = t.flat 1) t.size w :=
  fun l J Jx W hW hJ _ hY h0 =>
    all1_in Fence.wide rfl trivial trivial rfl n l w.heap.size Bt W0 t (.agg #[v0, v1, v2]) J Jx (fun pre W' o _ hj => hJ pre W' _ none hj (World.grownBy_alloc W' o none) (fun r e => by cases e))
      (fun mm pre x W' hj hl => yieldAt_any rfl mm (hY pre x W' hj hl)) hb.size ht W hv (fun b o v hc => cell_stays hW (cell_stays hb hc)) hW.size v0 v1 v2 rfl (cell_stays hW c0) (cell_stays hW c1) (cell_stays hW c2) h0

end Go.Proofs.Yteebbffecaeciaa
/- val.Size. -/
namespace Go.Proofs.Yteebbffecaeciaa
open Go.RowKit Go.Shelf
attribute [local go_sem] Oper.semAt_some

set_option maxRecDepth 100000 in
set_option maxHeartbeats 2000000 in
theorem size_any (t : VT) (v : Value) (w : World) (ht : t.size ≤ 100000) (hv : VIn w t v) : Calls Try.prog 66 #[v] w fun e w' => e = .returned (.int .i64 t.size) ∧ Below w.heap.size w w' := by
  refine (callsIn_wide (n := 9)).1 ?_
  obtain ⟨k, n, its⟩ := t
  obtain ⟨a, cap, hlen, rfl, hr⟩ := hv.open
  have HT := Lib.hid ht; clear ht
  refine callsIn_of_wp_marks Try.func66 rfl trivial ?_ rfl
  simp only [Try.ntmps66, List.size_toArray, List.length_cons, List.length_nil, Nat.reduceAdd, Nat.reduceSub, Array.replicate_succ, Array.replicate_zero, List.push_toArray, List.append_toArray, List.nil_append, List.cons_append]
  gi_wp2_with fail
  refine ⟨trivial, ?_⟩
  refine (all_in Fence.wide _ trivial rfl _ _ _ _).mono ?_
  rintro e w' ⟨rfl, rfl⟩
  gi_wp2_with fail
  obtain ⟨w3, hw3⟩ : ∃ w3, ((w.alloc (.cells #[.int .u8 k, .int .i64 n, .slice a its.length cap] 25)).alloc (.cells #[.int .i64 0] 3)).alloc (.cells #[.int .u8 k, .int .i64 n, .slice a its.length cap] 25) = w3 := ⟨_, rfl⟩
  have hB0 : Below w.heap.size w w3 := by subst hw3; exact (((Below.refl _ w).alloc (Nat.le_refl _) _).alloc (by simp) _).alloc (by simp; omega) _
  have hsz : w3.heap.size = w.heap.size + 3 := by subst hw3; simp
  have hn : w3.cell? ⟨w.heap.size + 1, 0, none⟩ = some (.int .i64 0) ∧ w3.frozen? ⟨w.heap.size + 1, 0, none⟩ = false := by subst hw3; constructor <;> go_simp
  have hc : w3.cell? ⟨w.heap.size + 1 + 1, 0, none⟩ = some (.int .u8 k) ∧ w3.cell? ⟨w.heap.size + 1 + 1, 1, none⟩ = some (.int .i64 n) ∧ w3.cell? ⟨w.heap.size + 1 + 1, 2, none⟩ = some (.slice a its.length cap) := by subst hw3; refine ⟨?_, ?_, ?_⟩ <;> go_simp
  rw [hw3]; clear hw3
  refine wpIn_rangeFunc_ownF rfl (by omega) (gf := 119) (lb := #[.pointer (some ⟨w.heap.size + 1 + 1, 0, none⟩)]) rfl trivial (enters_of Try.func119 (by kernel_rfl) rfl)
    (all_stops (9 - 1) (w.heap.size + 1 + 1) w w3 (.mk k n its) _ _ _ hB0 HT.out hv hc.1 hc.2.1 hc.2.2) KpBut.trans (kpBut_b) (Below.refl _ _) (fun _ => rfl)
    (fun pre W => (W.cell? ⟨w.heap.size + 1, 0, none⟩ = some (.int .i64 pre.length) ∧ W.frozen? ⟨w.heap.size + 1, 0, none⟩ = false) ∧ Below w.heap.size w W)
    (fun _ _ _ => False)
    (OwnFrom.and (Own.from (fun s A B row hs hg hr => ⟨cell_kept hs.1 hg hr, (frozen_kept hs.1 hg hr).trans hs.2⟩) _) (ownFrom_below (by omega) (by omega)))
    (fun _ _ _ _ _ hs _ _ => hs)
    ⟨⟨hn.1, hn.2⟩, hB0⟩
    (fun x => { tmps := #[.agg #[.int .u8 k, .int .i64 n, .slice a its.length cap], .pointer (some ⟨w.heap.size, 0, none⟩), .int .i64 0, .pointer (some ⟨w.heap.size + 1, 0, none⟩), .agg #[.int .u8 k, .int .i64 n, .slice a its.length cap], .func (.func 119) #[] #[.pointer (some ⟨w.heap.size + 1 + 1, 0, none⟩)], .int .i64 x.d, .agg #[.int .u8 x.k, .int .i64 x.n, .slice x.a x.len x.cap], undef, undef, undef], defers := [] }) ?assign ?body ?done ?stop
  case assign =>
    intro l x W K hK
    dsimp only [Nd.encs]
    gi_wp2
    simpa using hK
  case body =>
    rintro l pre x W ⟨⟨hc, hf⟩, hB⟩ hlen
    have HT2 := HT.out
    gi_wp2
    exact ⟨KeepsOthers.setCell _ _ _, (KpBut.refl _ _ W).setCell (p := ⟨w.heap.size + 1, 0, none⟩) (by simp) (by simp; omega) _, ⟨by rw [List.length_append]; exact World.cell?_setCell_same' _ _ _ (by rw [hc]; rfl), by rw [World.frozen?_setCell]; exact hf⟩, hB.setCell (p := ⟨w.heap.size + 1, 0, none⟩) (by simp) _⟩
  case done =>
    rintro D ys W hD hys ⟨⟨hc, _⟩, hB⟩ hK
    have hl : ys.length = (VT.mk k n its).size := by rw [← VT.flat_length 1, ← hys, List.length_map]
    have HL := Lib.hid hl; clear hl hys
    gi_wp2
    refine ⟨by simp, .inl ⟨_, _, rfl, run_takeDeferred hK, ?_⟩⟩
    refine ⟨_, results_tmp rfl _ _ _, ?_, ?_⟩
    · exact ret_int (by rw [HL.out])
    · exact hB.trans (belowK_b (w := w) (Nat.le_refl _) W D _ _ (by omega) hK rfl rfl)
  case stop =>
    rintro D c pre W _ _ h _
    exact h.elim

def maxd (l : List Nd) : Int := l.foldl (fun m x => max m x.d) 0
theorem maxd_snoc (l : List Nd) (x : Nd) : maxd (l ++ [x]) = max (maxd l) x.d := by simp [maxd]
theorem maxd_eq (l : List Nd) : maxd l = (l.map Nd.sh).foldl (fun m x => max m x.1) 0 := by rw [List.foldl_map]; rfl
mutual
theorem VT.flat_max_from (d m : Int) : ∀ t : VT, (t.flat d).foldl (fun m x => max m x.1) m = max m (d + t.deep - 1)
  | .mk k n its => by
    rw [VT.flat, List.foldl_cons, VT.flats_max_from (d + 1) _ its, VT.deep]
    split <;> simp <;> omega
theorem VT.flats_max_from (d m : Int) : ∀ l : List VT, (VT.flats d l).foldl (fun m x => max m x.1) m = if VT.deeps l = 0 then m else max m (d + VT.deeps l - 1)
  | [] => by simp [VT.flats, VT.deeps]
  | t :: ts => by
    have := VT.deep_le t
    rw [VT.flats, List.foldl_append, VT.flat_max_from d m t, VT.flats_max_from d _ ts, VT.deeps]
    split <;> rw [if_neg (by omega)] <;> omega
end
theorem VT.flat_max (t : VT) : (t.flat 1).foldl (fun m x => max m x.1) 0 = (t.deep : Int) := by rw [VT.flat_max_from]; omega
end Go.Proofs.Yteebbffecaeciaa
