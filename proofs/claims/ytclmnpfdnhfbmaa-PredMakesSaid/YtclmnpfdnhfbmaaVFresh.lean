/- Plain words on memory that a call has made: values all of whose items lie in blocks of the call's own. -/
import Derived.Test.YtclmnpfdnhfbmaaVBase
namespace Go.Proofs.Ytclmnpfdnhfbmaa
open Go.RowKit

theorem cell_set_other {w : World} {p : Addr} {b o : Nat} {u : Value} (h : p.block ≠ b) : (w.setCell p u).cell? ⟨b, o, none⟩ = w.cell? ⟨b, o, none⟩ :=
  World.cell?_of_block (w := w) (Below.heap_setCell w p u b (Ne.symm h))
theorem cell_set_off {w : World} {b o o' : Nat} {u : Value} (h : o' ≠ o) : (w.setCell ⟨b, o', none⟩ u).cell? ⟨b, o, none⟩ = w.cell? ⟨b, o, none⟩ :=
  World.cell?_setCell_other _ _ _ _ (fun e => h (by cases e; rfl))

/-- block b is a row of n cells, none of them frozen. -/
def RowAt (w : World) (t b n : Nat) : Prop := ∃ c : Array Value, w.heap[b]? = some (.cells c t (0, 0)) ∧ c.size = n
theorem RowAt.cell {w : World} {t b n : Nat} (h : RowAt w t b n) (i : Nat) (hi : i < n) : ∃ v, w.cell? ⟨b, i, none⟩ = some v := by
  obtain ⟨c, hc, hn⟩ := h
  exact ⟨c[i], by simp [World.cell?, hc, Array.getElem?_eq_getElem (show i < c.size by omega)]⟩
theorem RowAt.frozen {w : World} {t b n : Nat} (h : RowAt w t b n) (i : Nat) : w.frozen? ⟨b, i, none⟩ = false := by
  obtain ⟨c, hc, hn⟩ := h
  simp [World.frozen?, hc]
theorem RowAt.lt {w : World} {t b n : Nat} (h : RowAt w t b n) : b < w.heap.size := by
  obtain ⟨c, hc, hn⟩ := h
  exact (Array.getElem?_eq_some_iff.1 hc).1
theorem RowAt.below {w w' : World} {t b n B : Nat} (h : RowAt w t b n) (hB : b < B) (hb : Below B w w') : RowAt w' t b n := by
  obtain ⟨c, hc, hn⟩ := h
  exact ⟨c, (hb.block b hB).trans hc, hn⟩
theorem RowAt.set {w : World} {t b n : Nat} (h : RowAt w t b n) (p : Addr) (v : Value) (hp : p.spot = none) : RowAt (w.setCell p v) t b n := by
  obtain ⟨c, hc, hn⟩ := h
  by_cases e : p.block = b
  · obtain ⟨pb, po, ps⟩ := p
    simp only at e hp
    subst e hp
    refine ⟨c.setIfInBounds po v, ?_, by simpa using hn⟩
    have hlt := (Array.getElem?_eq_some_iff.1 hc).1
    have hval := (Array.getElem?_eq_some_iff.1 hc).2
    show (w.heap.modify pb _)[pb]? = _
    rw [Array.getElem?_eq_getElem (by rw [Array.size_modify]; exact hlt), Array.getElem_modify_self, hval]
    rfl
  · exact ⟨c, (Below.heap_setCell w p v b (Ne.symm e)).trans hc, hn⟩
theorem RowAt.new (w : World) (c : Array Value) (t : Nat) : RowAt (w.alloc (.cells c t)) t w.heap.size c.size := ⟨c, by show (w.heap.push _)[w.heap.size]? = _; simp, rfl⟩

theorem set_same {w : World} {b o : Nat} {u v : Value} (h : w.cell? ⟨b, o, none⟩ = some u) : (w.setCell ⟨b, o, none⟩ v).cell? ⟨b, o, none⟩ = some v := World.cell?_setCell_same' _ _ _ (by rw [h]; rfl)
theorem set_off {w : World} {b o o' : Nat} {u v : Value} (h : w.cell? ⟨b, o, none⟩ = some u) (hne : o' ≠ o) : (w.setCell ⟨b, o', none⟩ v).cell? ⟨b, o, none⟩ = some u := by rw [cell_set_off hne]; exact h
theorem set_blk {w : World} {b b' o o' : Nat} {u v : Value} (h : w.cell? ⟨b, o, none⟩ = some u) (hne : b' ≠ b) : (w.setCell ⟨b', o', none⟩ v).cell? ⟨b, o, none⟩ = some u := by rw [cell_set_other hne]; exact h
mutual
/-- v reads as the tree, and all its items lie in blocks from lo on, each row at its block's head. -/
def FIn (w : World) (lo : Nat) : VT → Value → Prop
  | .mk k n its, v => ∃ a cap, its.length ≤ 3518437208780 ∧ v = .agg #[.int .u8 k, .int .i64 n, .slice a its.length cap] ∧ (its = [] ∨ ∃ b, a = some ⟨b, 0, none⟩ ∧ lo ≤ b ∧ FRow w lo its b 0)
def FRow (w : World) (lo : Nat) : List VT → Nat → Nat → Prop
  | [], _, _ => True
  | t :: ts, b, o => (∃ v0 v1 v2, w.cell? ⟨b, o, none⟩ = some v0 ∧ w.cell? ⟨b, o + 1, none⟩ = some v1 ∧ w.cell? ⟨b, o + 2, none⟩ = some v2 ∧
      w.frozen? ⟨b, o, none⟩ = false ∧ w.frozen? ⟨b, o + 1, none⟩ = false ∧ w.frozen? ⟨b, o + 2, none⟩ = false ∧ FIn w lo t (.agg #[v0, v1, v2])) ∧ FRow w lo ts b (o + 3)
end
theorem FRow.of {w : World} {lo : Nat} (b : Nat) : ∀ (l : List VT) (o : Nat) (_ : ∀ (i : Nat) (hi : i < l.length), ∃ v0 v1 v2, w.cell? ⟨b, o + i * 3, none⟩ = some v0 ∧ w.cell? ⟨b, o + i * 3 + 1, none⟩ = some v1 ∧
      w.cell? ⟨b, o + i * 3 + 2, none⟩ = some v2 ∧ w.frozen? ⟨b, o + i * 3, none⟩ = false ∧ w.frozen? ⟨b, o + i * 3 + 1, none⟩ = false ∧ w.frozen? ⟨b, o + i * 3 + 2, none⟩ = false ∧ FIn w lo (l[i]) (.agg #[v0, v1, v2])), FRow w lo l b o
  | [], o, _ => by rw [FRow]; trivial
  | t :: ts, o, h => by
    rw [FRow]
    have h0 := h 0 (by simp)
    simp only [Nat.zero_mul, Nat.add_zero, List.getElem_cons_zero] at h0
    refine ⟨h0, FRow.of b ts (o + 3) fun i hi => ?_⟩
    have h1 := h (i + 1) (by simpa using hi)
    have e : o + (i + 1) * 3 = o + 3 + i * 3 := by omega
    rw [e] at h1
    simpa using h1
theorem FRow.get {w : World} {lo b : Nat} : ∀ {l : List VT} {o : Nat} (_ : FRow w lo l b o) (i : Nat) (hi : i < l.length), ∃ v0 v1 v2, w.cell? ⟨b, o + i * 3, none⟩ = some v0 ∧ w.cell? ⟨b, o + i * 3 + 1, none⟩ = some v1 ∧
      w.cell? ⟨b, o + i * 3 + 2, none⟩ = some v2 ∧ w.frozen? ⟨b, o + i * 3, none⟩ = false ∧ w.frozen? ⟨b, o + i * 3 + 1, none⟩ = false ∧ w.frozen? ⟨b, o + i * 3 + 2, none⟩ = false ∧ FIn w lo (l[i]) (.agg #[v0, v1, v2]) := by
  intro l
  induction l with
  | nil => intro o _ i hi; simp at hi
  | cons t ts ih =>
    intro o h i hi
    rw [FRow] at h
    cases i with
    | zero => simpa using h.1
    | succ i =>
      have h1 := ih h.2 i (by simpa using hi)
      have e : o + (i + 1) * 3 = o + 3 + i * 3 := by omega
      rw [e]
      simpa using h1
mutual
theorem FIn.mono {w w' : World} {lo lo' : Nat} (hlo : lo' ≤ lo) (hc : ∀ b o v, lo ≤ b → w.cell? ⟨b, o, none⟩ = some v → w'.cell? ⟨b, o, none⟩ = some v) (hf : ∀ b o v, lo ≤ b → w.cell? ⟨b, o, none⟩ = some v → w.frozen? ⟨b, o, none⟩ = false → w'.frozen? ⟨b, o, none⟩ = false) :
    ∀ (t : VT) (v : Value), FIn w lo t v → FIn w' lo' t v
  | .mk k n its, v, h => by
    rw [FIn] at h ⊢
    obtain ⟨a, cap, hl, hv, hr⟩ := h
    refine ⟨a, cap, hl, hv, hr.imp id ?_⟩
    rintro ⟨b, ha, hb, hr⟩
    exact ⟨b, ha, by omega, FRow.mono hlo hc hf its b 0 hb hr⟩
theorem FRow.mono {w w' : World} {lo lo' : Nat} (hlo : lo' ≤ lo) (hc : ∀ b o v, lo ≤ b → w.cell? ⟨b, o, none⟩ = some v → w'.cell? ⟨b, o, none⟩ = some v) (hf : ∀ b o v, lo ≤ b → w.cell? ⟨b, o, none⟩ = some v → w.frozen? ⟨b, o, none⟩ = false → w'.frozen? ⟨b, o, none⟩ = false) :
    ∀ (l : List VT) (b o : Nat), lo ≤ b → FRow w lo l b o → FRow w' lo' l b o
  | [], _, _, _, _ => by rw [FRow]; trivial
  | t :: ts, b, o, hb, h => by
    rw [FRow] at h ⊢
    obtain ⟨⟨v0, v1, v2, h0, h1, h2, f0, f1, f2, ht⟩, hr⟩ := h
    exact ⟨⟨v0, v1, v2, hc _ _ _ hb h0, hc _ _ _ hb h1, hc _ _ _ hb h2, hf _ _ _ hb h0 f0, hf _ _ _ hb h1 f1, hf _ _ _ hb h2 f2, FIn.mono hlo hc hf t _ ht⟩, FRow.mono hlo hc hf ts b (o + 3) hb hr⟩
end
theorem FIn.below {w w' : World} {lo : Nat} {t : VT} {v : Value} (h : FIn w lo t v) (hb : Below w.heap.size w w') : FIn w' lo t v :=
  h.mono (Nat.le_refl _) (fun _ _ _ _ hc => cell_stays hb hc) (fun _ _ _ _ hc hf => frozen_stay hb (lt_of_cell hc) hf) t v
theorem FIn.set {w : World} {lo : Nat} {t : VT} {v : Value} (h : FIn w lo t v) {p : Addr} (hp : p.block < lo) (u : Value) : FIn (w.setCell p u) lo t v :=
  h.mono (Nat.le_refl _) (fun b _ _ hb hc => by rw [cell_set_other (by omega)]; exact hc) (fun _ _ _ _ _ hf => by rw [World.frozen?_setCell]; exact hf) t v
theorem FIn.less {w : World} {lo lo' : Nat} {t : VT} {v : Value} (h : FIn w lo t v) (hl : lo' ≤ lo) : FIn w lo' t v := h.mono hl (fun _ _ _ _ hc => hc) (fun _ _ _ _ _ hf => hf) t v
theorem FRow.less {w : World} {lo lo' : Nat} (hl : lo' ≤ lo) : ∀ (l : List VT) (b o : Nat), FRow w lo l b o → FRow w lo' l b o
  | [], _, _, _ => by rw [FRow]; trivial
  | t :: ts, b, o, h => by
    rw [FRow] at h ⊢
    obtain ⟨⟨v0, v1, v2, h0, h1, h2, f0, f1, f2, ht⟩, hr⟩ := h
    exact ⟨⟨v0, v1, v2, h0, h1, h2, f0, f1, f2, ht.less hl⟩, FRow.less hl ts b (o + 3) hr⟩
mutual
theorem FIn.vin {w : World} {lo : Nat} : ∀ (t : VT) (v : Value), FIn w lo t v → VIn w t v
  | .mk k n its, v, h => by
    rw [FIn] at h; rw [VIn]
    obtain ⟨a, cap, hl, hv, hr⟩ := h
    refine ⟨a, cap, hl, hv, ?_⟩
    rcases hr with rfl | ⟨b, rfl, _, hr⟩
    · rw [VRow]; trivial
    · exact FRow.vrow its b 0 hr
theorem FRow.vrow {w : World} {lo : Nat} : ∀ (l : List VT) (b o : Nat), FRow w lo l b o → VRow w l (some ⟨b, o, none⟩)
  | [], _, _, _ => by rw [VRow]; trivial
  | t :: ts, b, o, h => by
    rw [FRow] at h; rw [VRow]
    obtain ⟨⟨v0, v1, v2, h0, h1, h2, _, _, _, ht⟩, hr⟩ := h
    exact ⟨b, o, rfl, ⟨v0, v1, v2, h0, h1, h2, FIn.vin t _ ht⟩, FRow.vrow ts b (o + 3) hr⟩
end
theorem FIn.open {w : World} {lo : Nat} {k n : Int} {its : List VT} {v : Value} (h : FIn w lo (.mk k n its) v) : ∃ a cap, its.length ≤ 3518437208780 ∧ v = .agg #[.int .u8 k, .int .i64 n, .slice a its.length cap] ∧ (its = [] ∨ ∃ b, a = some ⟨b, 0, none⟩ ∧ lo ≤ b ∧ FRow w lo its b 0) := by rw [FIn] at h; exact h
end Go.Proofs.Ytclmnpfdnhfbmaa
