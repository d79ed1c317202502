/- the law ValItems: the plain words. -/
import Derived.Test.YtcfpgnobhmldbaaVMake
import Derived.Test.YtcfpgnobhmldbaaVMath
import Derived.Test.YtcfpgnobhmldbaaVGrow
namespace Go.Proofs.Ytcfpgnobhmldbaa
open Go.RowKit

/-! the plain law -/
theorem VT.cmp_tuple (l m : List VT) : VT.cmp (.mk 3 0 l) (.mk 3 0 m) = VT.cmpAll l m := by rw [VT.cmp]; simp
theorem VT.cmp_list (l m : List VT) : VT.cmp (.mk 4 0 l) (.mk 4 0 m) = VT.cmpAll l m := by rw [VT.cmp]; simp
theorem VT.cmp_tuple_list (l m : List VT) : VT.cmp (.mk 3 0 l) (.mk 4 0 m) = -1 := by rw [VT.cmp]; simp [cmpI]
theorem VT.cmpAll_ahead : ∀ (k l m : List VT), VT.cmpAll (k ++ l) (k ++ m) = VT.cmpAll l m
  | [], _, _ => rfl
  | a :: k, l, m => by rw [List.cons_append, List.cons_append, VT.cmpAll, VT.cmp_refl, if_pos rfl, VT.cmpAll_ahead k l m]
theorem VT.cmpAll_nil_cons {l : List VT} (h : 0 < l.length) : VT.cmpAll [] l = -1 := by
  cases l with
  | nil => simp at h
  | cons a l => rw [VT.cmpAll]
theorem VT.cmpAll_cons_nil {l : List VT} (h : 0 < l.length) : VT.cmpAll l [] = 1 := by
  cases l with
  | nil => simp at h
  | cons a l => rw [VT.cmpAll]
theorem VT.cmpAll_whole {k l : List VT} (h : 0 < l.length) : VT.cmpAll k (k ++ l) = -1 := by
  have := VT.cmpAll_ahead k [] l
  rw [List.append_nil] at this
  rw [this, VT.cmpAll_nil_cons h]
theorem VT.cmpAll_first {l m : List VT} (hl : 0 < l.length) (hm : 0 < m.length) (h : VT.cmp l[0] m[0] ≠ 0) : VT.cmpAll l m = VT.cmp l[0] m[0] := by
  cases l with
  | nil => simp at hl
  | cons a l =>
    cases m with
    | nil => simp at hm
    | cons b m => rw [VT.cmpAll]; simp only [List.getElem_cons_zero] at h ⊢; rw [if_neg h]

/-! rows that append builds of rows that were there -/
/-- the cells xs read, in the world w, as the values. -/
def Items (w : World) (l : List VT) (xs : List Value) : Prop := xs.length = l.length * 3 ∧ ∀ i (h : i < l.length), ∃ v0 v1 v2, xs[i * 3]? = some v0 ∧ xs[i * 3 + 1]? = some v1 ∧ xs[i * 3 + 2]? = some v2 ∧ VIn w l[i] (.agg #[v0, v1, v2])
theorem Items.nil (w : World) : Items w [] [] := ⟨rfl, fun i h => by simp at h⟩
theorem Items.append {w : World} {l m : List VT} {xs ys : List Value} (h : Items w l xs) (k : Items w m ys) : Items w (l ++ m) (xs ++ ys) := by
  have h1 := h.1; have k1 := k.1
  refine ⟨by rw [List.length_append, List.length_append, h1, k1]; omega, fun i hi => ?_⟩
  rw [List.length_append] at hi
  by_cases hlt : i < l.length
  · obtain ⟨v0, v1, v2, e0, e1, e2, hv⟩ := h.2 i hlt
    refine ⟨v0, v1, v2, ?_, ?_, ?_, by rw [List.getElem_append_left hlt]; exact hv⟩
    all_goals rw [List.getElem?_append_left (by omega)]; assumption
  · obtain ⟨v0, v1, v2, e0, e1, e2, hv⟩ := k.2 (i - l.length) (by omega)
    refine ⟨v0, v1, v2, ?_, ?_, ?_, by rw [List.getElem_append_right (by omega)]; exact hv⟩
    · rw [List.getElem?_append_right (by omega), ← e0]; congr 1; omega
    · rw [List.getElem?_append_right (by omega), ← e1]; congr 1; omega
    · rw [List.getElem?_append_right (by omega), ← e2]; congr 1; omega
/-- a row that was there, as what append takes. -/
theorem vsrc {w00 w : World} {l : List VT} {a : Option Addr} (cap : Nat) (hr : VRow w00 l a) (hb : Below w00.heap.size w00 w) : ∃ news, Src Try.prog 3 23 (.slice a l.length cap) l.length news w ∧ Items w00 l news := by
  by_cases h0 : l = []
  · subst h0
    refine ⟨[], ?_, Items.nil _⟩
    cases a with
    | none => exact Src.ofNil w Try.underlying23 cap
    | some p => exact Src.ofSlice w Try.underlying23 p 0 cap [] rfl (fun j u h => by simp at h) (fun u h => by cases h)
  · have hpos : 0 < l.length := List.length_pos_iff.2 h0
    obtain ⟨b, o, rfl, _⟩ := hr.got 0 hpos
    have key : ∀ j, j < l.length * 3 → ∃ u, w00.cell? ⟨b, o + j, none⟩ = some u ∧ u.oneCell' = true := fun j hj => by
      obtain ⟨b', o', e, a', cap', d0, d1, d2, _⟩ := hr.got (j / 3) (by omega)
      cases e
      rcases (by omega : j = j / 3 * 3 ∨ j = j / 3 * 3 + 1 ∨ j = j / 3 * 3 + 2) with e | e | e
      · exact ⟨_, by rw [e]; exact d0, rfl⟩
      · exact ⟨_, by rw [e]; exact d1, rfl⟩
      · exact ⟨_, by rw [e]; exact d2, rfl⟩
    have hget : ∀ j, j < l.length * 3 → ∀ u, w00.cell? ⟨b, o + j, none⟩ = some u → ((List.range (l.length * 3)).map fun j => (w00.cell? ⟨b, o + j, none⟩).getD .nilIface)[j]? = some u := fun j hj u hu => by
      rw [List.getElem?_map, List.getElem?_range hj]; simp [hu]
    refine ⟨(List.range (l.length * 3)).map fun j => (w00.cell? ⟨b, o + j, none⟩).getD .nilIface, Src.ofSlice w Try.underlying23 _ _ cap _ (by simp) (fun j u h => ?_) (fun u h => ?_), by simp, fun i hi => ?_⟩
    · obtain ⟨hj, he⟩ := List.getElem?_eq_some_iff.1 h
      have hj' : j < l.length * 3 := by simpa using hj
      obtain ⟨v, hv, _⟩ := key j hj'
      simp only [List.getElem_map, List.getElem_range, hv, Option.getD_some] at he
      subst he
      rw [Addr.add_lit]; exact cell_stays hb hv
    · obtain ⟨j, hj, rfl⟩ := List.mem_map.1 h
      obtain ⟨v, hv, h1⟩ := key j (by simpa using hj)
      rw [hv]; exact h1
    · obtain ⟨b', o', e, a', cap', d0, d1, d2, hv⟩ := hr.got i hi
      cases e
      exact ⟨_, _, _, hget _ (by omega) _ d0, hget _ (by omega) _ d1, hget _ (by omega) _ d2, hv⟩
theorem grown_vrow {w00 w : World} {B cap : Nat} {l : List VT} {xs : List Value} {a : Option Addr} {n : Nat} (hn : n = l.length) (hg : Grown w B 27 3 n xs a cap) (hi : Items w00 l xs) (hb : Below w00.heap.size w00 w) : VRow w l a := by
  subst hn
  by_cases h0 : l = []
  · subst h0; rw [VRow]; trivial
  · have hpos : 0 < l.length := List.length_pos_iff.2 h0
    obtain ⟨b, rfl, _, _, hc⟩ := hg.cells (by rw [hi.1]; omega)
    refine VRow.of b l 0 fun i h => ?_
    obtain ⟨v0, v1, v2, e0, e1, e2, hv⟩ := hi.2 i h
    exact ⟨v0, v1, v2, by rw [Nat.zero_add]; exact hc _ _ e0, by rw [Nat.zero_add]; exact hc _ _ e1, by rw [Nat.zero_add]; exact hc _ _ e2, hv.below hb⟩
/-- append of a row that was there. -/
theorem vappend {w00 w : World} {B n cap : Nat} {k l : List VT} {xs : List Value} {a b : Option Addr} (c : Nat) (hB : B ≤ w.heap.size) (hg : Grown w B 27 3 n xs a cap) (hi : Items w00 k xs) (hr : VRow w00 l b) (hb : Below w00.heap.size w00 w) (hn : n + l.length ≤ 100000) :
    ∃ a' cap' w' ys, (Builtin.append_ #[23, 23] 23 #[.slice a n cap, .slice b l.length c]).run Try.prog w = .ok (.slice a' (n + l.length) cap') w' ∧ Grown w' B 27 3 (n + l.length) ys a' cap' ∧ Items w00 (k ++ l) ys ∧ Below B w w' := by
  obtain ⟨i0, hi0, hz0, hz1, hz2⟩ := info_parts zeroV
  obtain ⟨news, hs, hni⟩ := vsrc c hr hb
  obtain ⟨a', cap', w', hap, hg', hb', _⟩ := grown_append (P := Try.prog) (ty := 23) hB hg Try.underlying23 hi0 hz0 hz1 rfl hz2 hs (by omega) (by omega)
  exact ⟨a', cap', w', _, hap, hg', hi.append hni, hb'⟩
theorem tuple_n {l : List VT} {a : Option Addr} {n cap : Nat} {w : World} (hn : n = l.length) (hl : n ≤ 100000) (hr : VRow w l a) : Calls Try.prog 21 #[.slice a n cap] w (MadeOf (.mk 3 0 l) w) := by subst hn; exact tuple_any l a cap w (by omega) hr
theorem list_n {l : List VT} {a : Option Addr} {n cap : Nat} {w : World} (hn : n = l.length) (hl : n ≤ 100000) (hr : VRow w l a) : Calls Try.prog 22 #[.slice a n cap] w (MadeOf (.mk 4 0 l) w) := by subst hn; exact list_any l a cap w (by omega) hr
end Go.Proofs.Ytcfpgnobhmldbaa
