/- Plain words for api.Value: the tree that a value reads as, and what it means that a value in memory reads so. No program in sight. -/
import Derived.Test.YtclmnpfdnhfbmaaRows
import Derived.WalkKit
import Derived.WalkSpells
import Derived.Lib.Hide
import Derived.BigQuiet
import Derived.Deep.QuietTactic
import Derived.WalkLawsBesides
import Derived.Outline
import Derived.StillTailTactics
import Derived.Lib.QuietBelow
namespace Go.Proofs.Ytclmnpfdnhfbmaa
open Go.RowKit

theorem ret_int {k : IntKind} {a b : Int} (h : a = b) : Ending.returned (.int k a) = .returned (.int k b) := by rw [h]
theorem ret_bool {a b : Bool} (h : a = b) : Ending.returned (.bool a) = .returned (.bool b) := by rw [h]
theorem drop_cons {α : Type} {l : List α} {i : Nat} (h : i < l.length) : l.drop i = l[i] :: l.drop (i + 1) := (List.getElem_cons_drop h).symm
theorem drop_nil {α : Type} {l : List α} {i : Nat} (h : ¬ i < l.length) : l.drop i = [] := List.drop_of_length_le (by omega)
theorem lt_of_cell {w : World} {b o : Nat} {v : Value} (h : w.cell? ⟨b, o, none⟩ = some v) : b < w.heap.size := by
  rcases Nat.lt_or_ge b w.heap.size with h' | h'
  · exact h'
  · simp [World.cell?, Array.getElem?_eq_none h'] at h
/-- a cell that is there stays through 'Below'. -/
theorem cell_stay {B : Nat} {w w' : World} {b o : Nat} {v : Value} (hb : Below B w w') (h : b < B) (hc : w.cell? ⟨b, o, none⟩ = some v) : w'.cell? ⟨b, o, none⟩ = some v := (hb.cell (p := ⟨b, o, none⟩) h).trans hc
theorem cell_stays {w w' : World} {b o : Nat} {v : Value} (hb : Below w.heap.size w w') (hc : w.cell? ⟨b, o, none⟩ = some v) : w'.cell? ⟨b, o, none⟩ = some v := cell_stay hb (lt_of_cell hc) hc
theorem frozen_stay {B : Nat} {w w' : World} {b o : Nat} {f : Bool} (hb : Below B w w') (h : b < B) (hc : w.frozen? ⟨b, o, none⟩ = f) : w'.frozen? ⟨b, o, none⟩ = f := (hb.frozen (p := ⟨b, o, none⟩) h).trans hc

/-- a region that draws its order: the reads first, in the text's order, then the tail. -/
theorem region_tail {P : Program} {id : Nat} {Q : Exit → Act → World → Prop} {a : Act} {w : World} {l : List Oper} (n : Nat) (hm : P.follows .mixedOrders = true) (hB : Region.lexTailB .any l.toArray n = true)
    (h : wpStill P l.toArray w.drew (fun a' => wpList P l.toArray Q (l.drop n) a' w.drew) (l.take n) a) : (Code.region id l.toArray true).wp P Q a w := wp_region_still_tail n hm hB h
/-- What an api.Value reads as. -/
inductive VT where
  | mk (kind : Int) (n : Int) (items : List VT)
namespace VT
def kind : VT → Int | .mk k _ _ => k
def num : VT → Int | .mk _ n _ => n
def items : VT → List VT | .mk _ _ l => l
end VT

mutual
/-- In the world w the value v reads as the tree. -/
def VIn (w : World) : VT → Value → Prop
  | .mk k n its, v => ∃ a cap, its.length ≤ 3518437208780 ∧ v = .agg #[.int .u8 k, .int .i64 n, .slice a its.length cap] ∧ VRow w its a
/-- From the address a on lie values that read as the list. -/
def VRow (w : World) : List VT → Option Addr → Prop
  | [], _ => True
  | t :: ts, a => ∃ b o, a = some ⟨b, o, none⟩ ∧ (∃ v0 v1 v2, w.cell? ⟨b, o, none⟩ = some v0 ∧ w.cell? ⟨b, o + 1, none⟩ = some v1 ∧
      w.cell? ⟨b, o + 2, none⟩ = some v2 ∧ VIn w t (.agg #[v0, v1, v2])) ∧ VRow w ts (some ⟨b, o + 3, none⟩)
end

mutual
theorem VIn.mono {w w' : World} (hc : ∀ b o v, w.cell? ⟨b, o, none⟩ = some v → w'.cell? ⟨b, o, none⟩ = some v) : ∀ (t : VT) (v : Value), VIn w t v → VIn w' t v
  | .mk k n its, v, h => by
    rw [VIn] at h ⊢
    obtain ⟨a, cap, hl, hv, hr⟩ := h
    exact ⟨a, cap, hl, hv, VRow.mono hc its a hr⟩
theorem VRow.mono {w w' : World} (hc : ∀ b o v, w.cell? ⟨b, o, none⟩ = some v → w'.cell? ⟨b, o, none⟩ = some v) : ∀ (l : List VT) (a : Option Addr), VRow w l a → VRow w' l a
  | [], _, _ => by rw [VRow]; trivial
  | t :: ts, a, h => by
    rw [VRow] at h ⊢
    obtain ⟨b, o, ha, ⟨v0, v1, v2, h0, h1, h2, ht⟩, hr⟩ := h
    exact ⟨b, o, ha, ⟨v0, v1, v2, hc _ _ _ h0, hc _ _ _ h1, hc _ _ _ h2, VIn.mono hc t _ ht⟩, VRow.mono hc ts _ hr⟩
end
theorem VIn.below {w w' : World} (hb : Below w.heap.size w w') {t : VT} {v : Value} (h : VIn w t v) : VIn w' t v := h.mono (fun _ _ _ hc => cell_stays hb hc) t v
theorem VRow.below {w w' : World} (hb : Below w.heap.size w w') {l : List VT} {a : Option Addr} (h : VRow w l a) : VRow w' l a := h.mono (fun _ _ _ hc => cell_stays hb hc) l a
theorem VIn.open {w : World} {k n : Int} {its : List VT} {v : Value} (h : VIn w (.mk k n its) v) : ∃ a cap, its.length ≤ 3518437208780 ∧ v = .agg #[.int .u8 k, .int .i64 n, .slice a its.length cap] ∧ VRow w its a := by rw [VIn] at h; exact h
theorem VIn.shut {w : World} {k n : Int} {its : List VT} {a : Option Addr} {cap : Nat} (hl : its.length ≤ 3518437208780) (hr : VRow w its a) : VIn w (.mk k n its) (.agg #[.int .u8 k, .int .i64 n, .slice a its.length cap]) := by rw [VIn]; exact ⟨a, cap, hl, rfl, hr⟩
theorem VIn.leaf {w : World} (k n : Int) : VIn w (.mk k n []) (.agg #[.int .u8 k, .int .i64 n, .slice none 0 0]) := VIn.shut (by simp) (by rw [VRow]; trivial)

/-- item i of a row. -/
theorem VRow.get {w : World} : ∀ {l : List VT} {a : Option Addr} (_ : VRow w l a) (i : Nat) (hi : i < l.length),
    ∃ b o, a = some ⟨b, o, none⟩ ∧ ∃ v0 v1 v2, w.cell? ⟨b, o + i * 3, none⟩ = some v0 ∧ w.cell? ⟨b, o + i * 3 + 1, none⟩ = some v1 ∧
      w.cell? ⟨b, o + i * 3 + 2, none⟩ = some v2 ∧ VIn w (l[i]) (.agg #[v0, v1, v2]) := by
  intro l
  induction l with
  | nil => intro a _ i hi; simp at hi
  | cons t ts ih =>
    intro a h i hi
    rw [VRow] at h
    obtain ⟨b, o, rfl, hc, hr⟩ := h
    refine ⟨b, o, rfl, ?_⟩
    cases i with
    | zero => simpa using hc
    | succ i =>
      obtain ⟨b', o', he, v0, v1, v2, h0, h1, h2, hv⟩ := ih hr i (by simpa using hi)
      simp only [Option.some.injEq, Addr.mk.injEq] at he
      obtain ⟨rfl, rfl, _⟩ := he
      refine ⟨v0, v1, v2, ?_, ?_, ?_, by simpa using hv⟩
      · rw [← h0]; congr 2; omega
      · rw [← h1]; congr 2; omega
      · rw [← h2]; congr 2; omega
/-- item i of a row, its cells written out. -/
theorem VRow.got {w : World} {l : List VT} {a : Option Addr} (h : VRow w l a) (i : Nat) (hi : i < l.length) :
    ∃ b o, a = some ⟨b, o, none⟩ ∧ ∃ a' cap', w.cell? ⟨b, o + i * 3, none⟩ = some (.int .u8 l[i].kind) ∧ w.cell? ⟨b, o + i * 3 + 1, none⟩ = some (.int .i64 l[i].num) ∧
      w.cell? ⟨b, o + i * 3 + 2, none⟩ = some (.slice a' l[i].items.length cap') ∧ VIn w (l[i]) (.agg #[.int .u8 l[i].kind, .int .i64 l[i].num, .slice a' l[i].items.length cap']) := by
  obtain ⟨b, o, ha, v0, v1, v2, h0, h1, h2, hv⟩ := h.get i hi
  generalize l[i] = t at hv
  obtain ⟨k, n, its⟩ := t
  obtain ⟨a', cap', hl, he, hr⟩ := hv.open
  simp only [Value.agg.injEq, Array.mk.injEq, List.cons.injEq, and_true] at he
  obtain ⟨rfl, rfl, rfl⟩ := he
  exact ⟨b, o, ha, a', cap', h0, h1, h2, hv⟩
/-- a row, item by item. -/
theorem VRow.of {w : World} (b : Nat) : ∀ (l : List VT) (o : Nat) (_ : ∀ (i : Nat) (hi : i < l.length), ∃ v0 v1 v2, w.cell? ⟨b, o + i * 3, none⟩ = some v0 ∧ w.cell? ⟨b, o + i * 3 + 1, none⟩ = some v1 ∧
      w.cell? ⟨b, o + i * 3 + 2, none⟩ = some v2 ∧ VIn w (l[i]) (.agg #[v0, v1, v2])), VRow w l (some ⟨b, o, none⟩)
  | [], o, _ => by rw [VRow]; trivial
  | t :: ts, o, h => by
    rw [VRow]
    have h0 : _ := h 0 (by simp)
    simp only [Nat.zero_mul, Nat.add_zero, List.getElem_cons_zero] at h0
    refine ⟨b, o, rfl, h0, VRow.of b ts (o + 3) fun i hi => ?_⟩
    obtain ⟨v0, v1, v2, h0, h1, h2, hv⟩ := h (i + 1) (by simpa using hi)
    refine ⟨v0, v1, v2, ?_, ?_, ?_, by simpa using hv⟩
    · rw [← h0]; congr 2; omega
    · rw [← h1]; congr 2; omega
    · rw [← h2]; congr 2; omega

/-! the functions of chapter 14 on trees -/
mutual
def VT.size : VT → Nat
  | .mk _ _ its => 1 + VT.sizes its
def VT.sizes : List VT → Nat
  | [] => 0
  | t :: ts => t.size + VT.sizes ts
end
mutual
def VT.deep : VT → Nat
  | .mk _ _ its => VT.deeps its + 1
def VT.deeps : List VT → Nat
  | [] => 0
  | t :: ts => max t.deep (VT.deeps ts)
end
def cmpI (x y : Int) : Int := if x < y then -1 else if y < x then 1 else 0
mutual
def VT.cmp : VT → VT → Int
  | .mk k n l, .mk k' n' l' => if k ≠ k' then cmpI k k' else if k = 1 ∨ k = 2 then cmpI n n' else if k ≠ 3 ∧ k ≠ 4 then 0 else VT.cmpAll l l'
def VT.cmpAll : List VT → List VT → Int
  | [], [] => 0
  | [], _ :: _ => -1
  | _ :: _, [] => 1
  | a :: l, b :: m => if VT.cmp a b = 0 then VT.cmpAll l m else VT.cmp a b
end
mutual
def VT.same : VT → VT → Bool
  | .mk k n l, .mk k' n' l' => k == k' && n == n' && VT.sameAll l l'
def VT.sameAll : List VT → List VT → Bool
  | [], [] => true
  | a :: l, b :: m => VT.same a b && VT.sameAll l m
  | _, _ => false
end
/-- what is wrong of a value by itself. -/
def VT.wrong (k n : Int) (len : Nat) : Int :=
  if k = 1 ∧ (n < -1099511627776 ∨ 1099511627776 < n) then 1 else if k = 2 ∧ n ≠ 0 ∧ n ≠ 1 then 1 else if (k = 3 ∨ k = 4) ∧ n ≠ 0 then 3
  else if k ≠ 1 ∧ k ≠ 2 ∧ k ≠ 3 ∧ k ≠ 4 then 11 else if (k = 1 ∨ k = 2) ∧ 0 < len then 3 else if 64 < len then 5 else 0
mutual
/-- the first that is wrong, a value ahead of its items. -/
def VT.first : VT → Int
  | .mk k n its => if VT.wrong k n its.length ≠ 0 then VT.wrong k n its.length else VT.firsts its
def VT.firsts : List VT → Int
  | [] => 0
  | t :: ts => if t.first ≠ 0 then t.first else VT.firsts ts
end
def VT.check (t : VT) : Int := if t.first ≠ 0 then t.first else if 128 < t.deep then 9 else if 4096 < t.size then 5 else 0
def VT.may (t : VT) : Bool := t.check == 0

/-! weigh, Long -/
mutual
def VT.weigh (m : Int) : VT → Int
  | .mk _ _ its => VT.weighAll m 1 its
def VT.weighAll (m : Int) (n : Int) : List VT → Int
  | [] => n
  | t :: ts => if n < m then VT.weighAll m (n + t.weigh (m - n)) ts else n
end
mutual
theorem VT.weigh_bd (m : Int) (h : 1 ≤ m) : ∀ t : VT, 1 ≤ t.weigh m ∧ t.weigh m ≤ m
  | .mk k n its => by
    rw [VT.weigh]
    have := VT.weighAll_bd m 1 (by omega) h its
    omega
theorem VT.weighAll_bd (m n : Int) (h : 0 ≤ n) (hm : n ≤ m) : ∀ l : List VT, n ≤ VT.weighAll m n l ∧ VT.weighAll m n l ≤ m
  | [] => by rw [VT.weighAll]; omega
  | t :: ts => by
    rw [VT.weighAll]
    split
    · rename_i hlt
      have h1 := VT.weigh_bd (m - n) (by omega) t
      have h2 := VT.weighAll_bd m (n + t.weigh (m - n)) (by omega) (by omega) ts
      omega
    · omega
end
mutual
/-- weighed below the bound, nothing was passed over: it is the size. -/
theorem VT.weigh_eq (m : Int) (_hm : 1 ≤ m) : ∀ t : VT, t.weigh m < m → t.weigh m = t.size
  | .mk k n its, h => by
    rw [VT.weigh] at h ⊢; rw [VT.size]
    have := VT.weighAll_eq m 1 (by omega) its h
    omega
theorem VT.weighAll_eq (m n : Int) (h0 : 0 ≤ n) : ∀ l : List VT, VT.weighAll m n l < m → VT.weighAll m n l = n + VT.sizes l
  | [], _ => by rw [VT.weighAll, VT.sizes]; omega
  | t :: ts, h => by
    rw [VT.weighAll] at h ⊢; rw [VT.sizes]
    by_cases hlt : n < m
    · rw [if_pos hlt] at h ⊢
      have h1 := VT.weigh_bd (m - n) (by omega) t
      have h2 := VT.weighAll_bd m (n + t.weigh (m - n)) (by omega) (by omega) ts
      have h3 := VT.weigh_eq (m - n) (by omega) t (by omega)
      have h4 := VT.weighAll_eq m (n + t.weigh (m - n)) (by omega) ts h
      rw [h4, h3]; omega
    · rw [if_neg hlt] at h; omega
end
/-- Long: is there more than a statement goes over? -/
def VT.long (l : List VT) : Bool := decide (6000 ≤ VT.weighAll 6000 0 l)
theorem VT.not_long {l : List VT} (h : VT.long l = false) : VT.sizes l < 6000 := by
  have h1 : VT.weighAll 6000 0 l < 6000 := by simpa [VT.long] using h
  have := VT.weighAll_eq 6000 0 (by omega) l h1
  omega
theorem VT.size_pos : ∀ t : VT, 1 ≤ t.size | .mk _ _ _ => by rw [VT.size]; omega
theorem VT.sizes_mem : ∀ (l : List VT) (t : VT), t ∈ l → t.size ≤ VT.sizes l
  | [], _, h => by simp at h
  | a :: l, t, h => by
    rw [VT.sizes]
    rcases List.mem_cons.1 h with rfl | h
    · omega
    · have := VT.sizes_mem l t h; omega
theorem VT.length_le_sizes : ∀ l : List VT, l.length ≤ VT.sizes l
  | [] => by simp
  | a :: l => by rw [VT.sizes, List.length_cons]; have := VT.length_le_sizes l; have := VT.size_pos a; omega
mutual
theorem VT.deep_le : ∀ t : VT, 1 ≤ t.deep ∧ t.deep ≤ t.size
  | .mk _ _ its => by rw [VT.deep, VT.size]; have := VT.deeps_le its; omega
theorem VT.deeps_le : ∀ l : List VT, VT.deeps l ≤ VT.sizes l
  | [] => by rw [VT.deeps]; omega
  | t :: ts => by rw [VT.deeps, VT.sizes]; have := VT.deep_le t; have := VT.deeps_le ts; omega
end
mutual
theorem VT.same_iff : ∀ a b : VT, VT.same a b = true ↔ a = b
  | .mk k n l, .mk k' n' l' => by rw [VT.same]; simp [VT.sameAll_iff l l', and_assoc]
theorem VT.sameAll_iff : ∀ l m : List VT, VT.sameAll l m = true ↔ l = m
  | [], [] => by simp [VT.sameAll]
  | [], _ :: _ => by simp [VT.sameAll]
  | _ :: _, [] => by simp [VT.sameAll]
  | a :: l, b :: m => by rw [VT.sameAll]; simp [VT.same_iff a b, VT.sameAll_iff l m]
end
theorem VT.same_refl (a : VT) : VT.same a a = true := (VT.same_iff a a).2 rfl
theorem VT.sizes_get {l : List VT} {i : Nat} (h : i < l.length) : l[i].size ≤ VT.sizes l := VT.sizes_mem l _ (List.getElem_mem h)
theorem VT.cmpAll_drop {l m : List VT} {i : Nat} (hl : i < l.length) (hm : i < m.length) : VT.cmpAll (l.drop i) (m.drop i) = if VT.cmp l[i] m[i] = 0 then VT.cmpAll (l.drop (i + 1)) (m.drop (i + 1)) else VT.cmp l[i] m[i] := by
  rw [drop_cons hl, drop_cons hm, VT.cmpAll]
theorem VT.cmpAll_end {l m : List VT} {i : Nat} (h : i = min l.length m.length) : VT.cmpAll (l.drop i) (m.drop i) = cmpI l.length m.length := by
  unfold cmpI
  rcases Nat.lt_trichotomy l.length m.length with hlt | heq | hgt
  · have : i = l.length := by omega
    subst this
    rw [List.drop_length, drop_cons hlt, VT.cmpAll, if_pos (by omega)]
  · have h1 : i = l.length := by omega
    have h2 : i = m.length := by omega
    rw [drop_nil (by omega), drop_nil (by omega), VT.cmpAll, if_neg (by omega), if_neg (by omega)]
  · have : i = m.length := by omega
    subst this
    rw [List.drop_length, drop_cons hgt, VT.cmpAll, if_neg (by omega), if_pos (by omega)]
theorem VT.sameAll_drop {l m : List VT} {i : Nat} (hl : i < l.length) (hm : i < m.length) : VT.sameAll (l.drop i) (m.drop i) = (VT.same l[i] m[i] && VT.sameAll (l.drop (i + 1)) (m.drop (i + 1))) := by
  rw [drop_cons hl, drop_cons hm, VT.sameAll]
theorem VT.sameAll_len : ∀ l m : List VT, l.length ≠ m.length → VT.sameAll l m = false
  | [], [], h => by simp at h
  | [], _ :: _, _ => by simp [VT.sameAll]
  | _ :: _, [], _ => by simp [VT.sameAll]
  | a :: l, b :: m, h => by rw [VT.sameAll, VT.sameAll_len l m (by simpa using h), Bool.and_false]
end Go.Proofs.Ytclmnpfdnhfbmaa
