/- Plain words on memory that a call has made: predicates all of whose rows lie in blocks of the call's own. -/
import Derived.Test.YtclmnpfdnhfbmaaPBase
import Derived.Test.YtclmnpfdnhfbmaaVFresh
import Derived.Test.YtclmnpfdnhfbmaaVBox
namespace Go.Proofs.Ytclmnpfdnhfbmaa
open Go.RowKit

mutual
/-- x reads as the tree, and all its rows lie in blocks from lo on, each at its block's head. -/
def PFIn (w : World) (lo : Nat) : PT → Value → Prop
  | .mk k v n l, x => ∃ vk vn va vl vc a cap, l.length ≤ 1759218604390 ∧ x = .agg #[.int .u8 k, .int .u8 vk, .int .i64 vn, .slice va vl vc, .int .i64 n, .slice a l.length cap] ∧
      FIn w lo v (.agg #[.int .u8 vk, .int .i64 vn, .slice va vl vc]) ∧ (l = [] ∨ ∃ b, a = some ⟨b, 0, none⟩ ∧ lo ≤ b ∧ PFRow w lo l b 0)
def PFRow (w : World) (lo : Nat) : List PT → Nat → Nat → Prop
  | [], _, _ => True
  | t :: ts, b, o => (∃ v0 v1 v2 v3 v4 v5, w.cell? ⟨b, o, none⟩ = some v0 ∧ w.cell? ⟨b, o + 1, none⟩ = some v1 ∧ w.cell? ⟨b, o + 2, none⟩ = some v2 ∧ w.cell? ⟨b, o + 3, none⟩ = some v3 ∧ w.cell? ⟨b, o + 4, none⟩ = some v4 ∧
      w.cell? ⟨b, o + 5, none⟩ = some v5 ∧ (∀ j, j < 6 → w.frozen? ⟨b, o + j, none⟩ = false) ∧ PFIn w lo t (.agg #[v0, v1, v2, v3, v4, v5])) ∧ PFRow w lo ts b (o + 6)
end
theorem PFRow.of {w : World} {lo : Nat} (b : Nat) : ∀ (l : List PT) (o : Nat) (_ : ∀ (i : Nat) (hi : i < l.length), ∃ v0 v1 v2 v3 v4 v5, w.cell? ⟨b, o + i * 6, none⟩ = some v0 ∧ w.cell? ⟨b, o + i * 6 + 1, none⟩ = some v1 ∧
      w.cell? ⟨b, o + i * 6 + 2, none⟩ = some v2 ∧ w.cell? ⟨b, o + i * 6 + 3, none⟩ = some v3 ∧ w.cell? ⟨b, o + i * 6 + 4, none⟩ = some v4 ∧ w.cell? ⟨b, o + i * 6 + 5, none⟩ = some v5 ∧
      (∀ j, j < 6 → w.frozen? ⟨b, o + i * 6 + j, none⟩ = false) ∧ PFIn w lo (l[i]) (.agg #[v0, v1, v2, v3, v4, v5])), PFRow w lo l b o
  | [], o, _ => by rw [PFRow]; trivial
  | t :: ts, o, h => by
    rw [PFRow]
    have h0 := h 0 (by simp)
    simp only [Nat.zero_mul, Nat.add_zero, List.getElem_cons_zero] at h0
    refine ⟨h0, PFRow.of b ts (o + 6) fun i hi => ?_⟩
    have h1 := h (i + 1) (by simpa using hi)
    have e : o + (i + 1) * 6 = o + 6 + i * 6 := by omega
    rw [e] at h1
    simpa using h1
theorem PFRow.get {w : World} {lo b : Nat} : ∀ {l : List PT} {o : Nat} (_ : PFRow w lo l b o) (i : Nat) (hi : i < l.length), ∃ v0 v1 v2 v3 v4 v5, w.cell? ⟨b, o + i * 6, none⟩ = some v0 ∧ w.cell? ⟨b, o + i * 6 + 1, none⟩ = some v1 ∧
      w.cell? ⟨b, o + i * 6 + 2, none⟩ = some v2 ∧ w.cell? ⟨b, o + i * 6 + 3, none⟩ = some v3 ∧ w.cell? ⟨b, o + i * 6 + 4, none⟩ = some v4 ∧ w.cell? ⟨b, o + i * 6 + 5, none⟩ = some v5 ∧
      (∀ j, j < 6 → w.frozen? ⟨b, o + i * 6 + j, none⟩ = false) ∧ PFIn w lo (l[i]) (.agg #[v0, v1, v2, v3, v4, v5]) := by
  intro l
  induction l with
  | nil => intro o _ i hi; simp at hi
  | cons t ts ih =>
    intro o h i hi
    rw [PFRow] at h
    cases i with
    | zero => simpa using h.1
    | succ i =>
      have h1 := ih h.2 i (by simpa using hi)
      have e : o + (i + 1) * 6 = o + 6 + i * 6 := by omega
      rw [e]
      simpa using h1
mutual
theorem PFIn.mono {w w' : World} {lo lo' : Nat} (hlo : lo' ≤ lo) (hc : ∀ b o v, lo ≤ b → w.cell? ⟨b, o, none⟩ = some v → w'.cell? ⟨b, o, none⟩ = some v) (hf : ∀ b o v, lo ≤ b → w.cell? ⟨b, o, none⟩ = some v → w.frozen? ⟨b, o, none⟩ = false → w'.frozen? ⟨b, o, none⟩ = false) :
    ∀ (t : PT) (x : Value), PFIn w lo t x → PFIn w' lo' t x
  | .mk k v n l, x, h => by
    rw [PFIn] at h ⊢
    obtain ⟨vk, vn, va, vl, vc, a, cap, hl, hx, hv, hr⟩ := h
    refine ⟨vk, vn, va, vl, vc, a, cap, hl, hx, hv.mono hlo hc hf, hr.imp id ?_⟩
    rintro ⟨b, ha, hb, hr⟩
    exact ⟨b, ha, by omega, PFRow.mono hlo hc hf l b 0 hb hr⟩
theorem PFRow.mono {w w' : World} {lo lo' : Nat} (hlo : lo' ≤ lo) (hc : ∀ b o v, lo ≤ b → w.cell? ⟨b, o, none⟩ = some v → w'.cell? ⟨b, o, none⟩ = some v) (hf : ∀ b o v, lo ≤ b → w.cell? ⟨b, o, none⟩ = some v → w.frozen? ⟨b, o, none⟩ = false → w'.frozen? ⟨b, o, none⟩ = false) :
    ∀ (l : List PT) (b o : Nat), lo ≤ b → PFRow w lo l b o → PFRow w' lo' l b o
  | [], _, _, _, _ => by rw [PFRow]; trivial
  | t :: ts, b, o, hb, h => by
    rw [PFRow] at h ⊢
    obtain ⟨⟨v0, v1, v2, v3, v4, v5, h0, h1, h2, h3, h4, h5, f, ht⟩, hr⟩ := h
    refine ⟨⟨v0, v1, v2, v3, v4, v5, hc _ _ _ hb h0, hc _ _ _ hb h1, hc _ _ _ hb h2, hc _ _ _ hb h3, hc _ _ _ hb h4, hc _ _ _ hb h5, fun j hj => ?_, PFIn.mono hlo hc hf t _ ht⟩, PFRow.mono hlo hc hf ts b (o + 6) hb hr⟩
    rcases (by omega : j = 0 ∨ j = 1 ∨ j = 2 ∨ j = 3 ∨ j = 4 ∨ j = 5) with rfl | rfl | rfl | rfl | rfl | rfl
    · exact hf _ _ _ hb h0 (f 0 hj)
    · exact hf _ _ _ hb h1 (f 1 hj)
    · exact hf _ _ _ hb h2 (f 2 hj)
    · exact hf _ _ _ hb h3 (f 3 hj)
    · exact hf _ _ _ hb h4 (f 4 hj)
    · exact hf _ _ _ hb h5 (f 5 hj)
end
theorem PFIn.below {w w' : World} {lo : Nat} {t : PT} {x : Value} (h : PFIn w lo t x) (hb : Below w.heap.size w w') : PFIn w' lo t x :=
  h.mono (Nat.le_refl _) (fun _ _ _ _ hc => cell_stays hb hc) (fun _ _ _ _ hc hf => frozen_stay hb (lt_of_cell hc) hf) t x
theorem PFRow.below {w w' : World} {lo b o : Nat} {l : List PT} (h : PFRow w lo l b o) (hlo : lo ≤ b) (hb : Below w.heap.size w w') : PFRow w' lo l b o :=
  PFRow.mono (Nat.le_refl _) (fun _ _ _ _ hc => cell_stays hb hc) (fun _ _ _ _ hc hf => frozen_stay hb (lt_of_cell hc) hf) l b o hlo h
theorem PFIn.set {w : World} {lo : Nat} {t : PT} {x : Value} (h : PFIn w lo t x) {p : Addr} (hp : p.block < lo) (u : Value) : PFIn (w.setCell p u) lo t x :=
  h.mono (Nat.le_refl _) (fun b _ _ hb hc => by rw [cell_set_other (by omega)]; exact hc) (fun _ _ _ _ _ hf => by rw [World.frozen?_setCell]; exact hf) t x
theorem PFIn.less {w : World} {lo lo' : Nat} {t : PT} {x : Value} (h : PFIn w lo t x) (hl : lo' ≤ lo) : PFIn w lo' t x := h.mono hl (fun _ _ _ _ hc => hc) (fun _ _ _ _ _ hf => hf) t x
theorem PFRow.less {w : World} {lo lo' : Nat} (hl : lo' ≤ lo) : ∀ (l : List PT) (b o : Nat), PFRow w lo l b o → PFRow w lo' l b o
  | [], _, _, _ => by rw [PFRow]; trivial
  | t :: ts, b, o, h => by
    rw [PFRow] at h ⊢
    obtain ⟨⟨v0, v1, v2, v3, v4, v5, h0, h1, h2, h3, h4, h5, f, ht⟩, hr⟩ := h
    exact ⟨⟨v0, v1, v2, v3, v4, v5, h0, h1, h2, h3, h4, h5, f, ht.less hl⟩, PFRow.less hl ts b (o + 6) hr⟩
mutual
theorem PFIn.pin {w : World} {lo : Nat} : ∀ (t : PT) (x : Value), PFIn w lo t x → PIn w t x
  | .mk k v n l, x, h => by
    rw [PFIn] at h; rw [PIn]
    obtain ⟨vk, vn, va, vl, vc, a, cap, hl, hx, hv, hr⟩ := h
    refine ⟨vk, vn, va, vl, vc, a, cap, hl, hx, hv.vin, ?_⟩
    rcases hr with rfl | ⟨b, rfl, _, hr⟩
    · rw [PRow]; trivial
    · exact PFRow.prow l b 0 hr
theorem PFRow.prow {w : World} {lo : Nat} : ∀ (l : List PT) (b o : Nat), PFRow w lo l b o → PRow w l (some ⟨b, o, none⟩)
  | [], _, _, _ => by rw [PRow]; trivial
  | t :: ts, b, o, h => by
    rw [PFRow] at h; rw [PRow]
    obtain ⟨⟨v0, v1, v2, v3, v4, v5, h0, h1, h2, h3, h4, h5, f, ht⟩, hr⟩ := h
    exact ⟨b, o, rfl, ⟨v0, v1, v2, v3, v4, v5, h0, h1, h2, h3, h4, h5, PFIn.pin t _ ht⟩, PFRow.prow ts b (o + 6) hr⟩
end
/-- such a predicate, its cells written out. -/
theorem PFIn.open {w : World} {lo : Nat} {k n : Int} {v : VT} {l : List PT} {x : Value} (h : PFIn w lo (.mk k v n l) x) : ∃ va vc a cap, l.length ≤ 1759218604390 ∧ v.items.length ≤ 3518437208780 ∧
    x = .agg #[.int .u8 k, .int .u8 v.kind, .int .i64 v.num, .slice va v.items.length vc, .int .i64 n, .slice a l.length cap] ∧ FIn w lo v (.agg #[.int .u8 v.kind, .int .i64 v.num, .slice va v.items.length vc]) ∧
    (l = [] ∨ ∃ b, a = some ⟨b, 0, none⟩ ∧ lo ≤ b ∧ PFRow w lo l b 0) := by
  rw [PFIn] at h
  obtain ⟨vk, vn, va, vl, vc, a, cap, hl, hx, hv, hr⟩ := h
  obtain ⟨k', n', its⟩ := v
  obtain ⟨va', vc', hl', he, hr'⟩ := hv.open
  simp only [Value.agg.injEq, Array.mk.injEq, List.cons.injEq, Value.slice.injEq, Value.int.injEq, and_true, true_and] at he
  obtain ⟨rfl, rfl, rfl, rfl, rfl⟩ := he
  exact ⟨_, _, a, cap, hl, hl', hx, hv, hr⟩
theorem PFIn.shut {w : World} {lo : Nat} {k n vk vn : Int} {v : VT} {l : List PT} {va a : Option Addr} {vl vc cap : Nat} (hl : l.length ≤ 1759218604390) (hv : FIn w lo v (.agg #[.int .u8 vk, .int .i64 vn, .slice va vl vc]))
    (hr : l = [] ∨ ∃ b, a = some ⟨b, 0, none⟩ ∧ lo ≤ b ∧ PFRow w lo l b 0) : PFIn w lo (.mk k v n l) (.agg #[.int .u8 k, .int .u8 vk, .int .i64 vn, .slice va vl vc, .int .i64 n, .slice a l.length cap]) := by rw [PFIn]; exact ⟨vk, vn, va, vl, vc, a, cap, hl, rfl, hv, hr⟩

/-! six cells written -/
theorem set6_out {w : World} {B q : Nat} {u0 u1 u2 u3 u4 u5 : Value} {b o : Nat} (h : b = B → o < q ∨ q + 6 ≤ o) :
    ((((((w.setCell ⟨B, q, none⟩ u0).setCell ⟨B, q + 1, none⟩ u1).setCell ⟨B, q + 2, none⟩ u2).setCell ⟨B, q + 3, none⟩ u3).setCell ⟨B, q + 4, none⟩ u4).setCell ⟨B, q + 5, none⟩ u5).cell? ⟨b, o, none⟩ = w.cell? ⟨b, o, none⟩ := by
  by_cases e : b = B
  · subst e
    have := h rfl
    rw [cell_set_off (by omega), cell_set_off (by omega), cell_set_off (by omega), cell_set_off (by omega), cell_set_off (by omega), cell_set_off (by omega)]
  · have e' : B ≠ b := fun h => e h.symm
    rw [cell_set_other e', cell_set_other e', cell_set_other e', cell_set_other e', cell_set_other e', cell_set_other e']
theorem set6_in {w : World} {B q : Nat} {u0 u1 u2 u3 u4 u5 : Value} {x0 x1 x2 x3 x4 x5 : Value} (q0 : w.cell? ⟨B, q, none⟩ = some x0) (q1 : w.cell? ⟨B, q + 1, none⟩ = some x1) (q2 : w.cell? ⟨B, q + 2, none⟩ = some x2)
    (q3 : w.cell? ⟨B, q + 3, none⟩ = some x3) (q4 : w.cell? ⟨B, q + 4, none⟩ = some x4) (q5 : w.cell? ⟨B, q + 5, none⟩ = some x5) :
    let w' := (((((w.setCell ⟨B, q, none⟩ u0).setCell ⟨B, q + 1, none⟩ u1).setCell ⟨B, q + 2, none⟩ u2).setCell ⟨B, q + 3, none⟩ u3).setCell ⟨B, q + 4, none⟩ u4).setCell ⟨B, q + 5, none⟩ u5
    w'.cell? ⟨B, q, none⟩ = some u0 ∧ w'.cell? ⟨B, q + 1, none⟩ = some u1 ∧ w'.cell? ⟨B, q + 2, none⟩ = some u2 ∧ w'.cell? ⟨B, q + 3, none⟩ = some u3 ∧ w'.cell? ⟨B, q + 4, none⟩ = some u4 ∧ w'.cell? ⟨B, q + 5, none⟩ = some u5 := by
  refine ⟨?_, ?_, ?_, ?_, ?_, ?_⟩
  · exact set_off (set_off (set_off (set_off (set_off (set_same q0) (by omega)) (by omega)) (by omega)) (by omega)) (by omega)
  · exact set_off (set_off (set_off (set_off (set_same (set_off q1 (by omega))) (by omega)) (by omega)) (by omega)) (by omega)
  · exact set_off (set_off (set_off (set_same (set_off (set_off q2 (by omega)) (by omega))) (by omega)) (by omega)) (by omega)
  · exact set_off (set_off (set_same (set_off (set_off (set_off q3 (by omega)) (by omega)) (by omega))) (by omega)) (by omega)
  · exact set_off (set_same (set_off (set_off (set_off (set_off q4 (by omega)) (by omega)) (by omega)) (by omega))) (by omega)
  · exact set_same (set_off (set_off (set_off (set_off (set_off q5 (by omega)) (by omega)) (by omega)) (by omega)) (by omega))
theorem set6_frozen {w : World} {B q : Nat} {u0 u1 u2 u3 u4 u5 : Value} {p : Addr} :
    ((((((w.setCell ⟨B, q, none⟩ u0).setCell ⟨B, q + 1, none⟩ u1).setCell ⟨B, q + 2, none⟩ u2).setCell ⟨B, q + 3, none⟩ u3).setCell ⟨B, q + 4, none⟩ u4).setCell ⟨B, q + 5, none⟩ u5).frozen? p = w.frozen? p := by
  rw [World.frozen?_setCell, World.frozen?_setCell, World.frozen?_setCell, World.frozen?_setCell, World.frozen?_setCell, World.frozen?_setCell]
end Go.Proofs.Ytclmnpfdnhfbmaa
