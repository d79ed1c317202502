/- the law ValNames: the walk. -/
import Derived.Deep.DeepCutAuto
import Derived.Test.YtcfpgnobhmldbaaVAwake
import Derived.Test.YtcfpgnobhmldbaaVWalkC
import Derived.Test.YtcfpgnobhmldbaaVItems
import Derived.Test.YtcfpgnobhmldbaaVTab
namespace Go.Proofs.Ytcfpgnobhmldbaa
open Go.RowKit

theorem row_cmp0 : ∀ i k : Fin 13, VT.cmp (rowT[i.val]'i.isLt) (rowT[k.val]'k.isLt) = cmpI i.val k.val := by decide
theorem row_same0 : ∀ i k : Fin 13, VT.same (rowT[i.val]'i.isLt) (rowT[k.val]'k.isLt) = decide (i = k) := by decide
theorem row_cmp (i k : Nat) (hi : i < rowT.length) (hk : k < rowT.length) : VT.cmp rowT[i] rowT[k] = cmpI i k := row_cmp0 ⟨i, hi⟩ ⟨k, hk⟩
theorem row_same (i k : Nat) (hi : i < rowT.length) (hk : k < rowT.length) : VT.same rowT[i] rowT[k] = decide (i = k) := by
  refine (row_same0 ⟨i, hi⟩ ⟨k, hk⟩).trans ?_
  rw [decide_eq_decide, Fin.ext_iff]

/-- a tuple in lists, so deep. -/
def deepT : Nat → VT
  | 0 => rT []
  | n + 1 => rL [deepT n]
theorem frow_one {w : World} {lo b : Nat} {t : VT} {v0 v1 v2 : Value} (h0 : w.cell? ⟨b, 0, none⟩ = some v0) (h1 : w.cell? ⟨b, 1, none⟩ = some v1) (h2 : w.cell? ⟨b, 2, none⟩ = some v2) (hf : ∀ j, w.frozen? ⟨b, j, none⟩ = false)
    (ht : FIn w lo t (.agg #[v0, v1, v2])) : FRow w lo [t] b 0 := by
  rw [FRow]
  exact ⟨⟨v0, v1, v2, h0, by simpa using h1, by simpa using h2, hf _, hf _, hf _, ht⟩, by rw [FRow]; trivial⟩
theorem fin_set3 {w : World} {lo B : Nat} {t : VT} {v : Value} (h : FIn w lo t v) (hB : B < lo) (u0 u1 u2 : Value) : FIn (((w.setCell ⟨B, 0, none⟩ u0).setCell ⟨B, 1, none⟩ u1).setCell ⟨B, 2, none⟩ u2) lo t v :=
  ((h.set (p := ⟨B, 0, none⟩) hB _).set (p := ⟨B, 1, none⟩) hB _).set (p := ⟨B, 2, none⟩) hB _
/-- one list more around it. -/
theorem deep_step {wr wB wC : World} {X i : Nat} {kk : Int} {a : Option Addr} {len cap : Nat} (hX : X < wr.heap.size) (hf : FIn wr (X + 1) (deepT i) (.agg #[.int .u8 kk, .int .i64 0, .slice a len cap]))
    (mB : Below wr.heap.size wr wB) (y0 : wB.cell? ⟨wr.heap.size, 0, none⟩ = some (.int .u8 kk)) (y1 : wB.cell? ⟨wr.heap.size, 1, none⟩ = some (.int .i64 0)) (y2 : wB.cell? ⟨wr.heap.size, 2, none⟩ = some (.slice a len cap))
    (fB : ∀ o, wB.frozen? ⟨wr.heap.size, o, none⟩ = false) (hb : Below wB.heap.size wB wC) (u0 u1 u2 : Value) :
    FIn (((wC.setCell ⟨X, 0, none⟩ u0).setCell ⟨X, 1, none⟩ u1).setCell ⟨X, 2, none⟩ u2) (X + 1) (deepT (i + 1)) (.agg #[.int .u8 4, .int .i64 0, .slice (some ⟨wr.heap.size, 0, none⟩) 1 1]) := by
  have hlt := lt_of_cell y0
  refine fin_set3 ?_ (Nat.lt_succ_self X) _ _ _
  unfold deepT rL
  rw [FIn]
  exact ⟨_, 1, by simp, rfl, .inr ⟨wr.heap.size, rfl, by omega, frow_one (cell_stays hb y0) (cell_stays hb y1) (cell_stays hb y2) (fun j => frozen_stay hb hlt (fB j)) ((hf.below mB).below hb)⟩⟩

/-- k numbers 0. -/
def zs (k : Nat) : List VT := List.replicate k (rN 0)
theorem many_row {w : World} {B : Nat} (h : ∀ q, q < 65 → w.cell? ⟨B, q * 3, none⟩ = some (.int .u8 1) ∧ w.cell? ⟨B, q * 3 + 1, none⟩ = some (.int .i64 0) ∧ w.cell? ⟨B, q * 3 + 2, none⟩ = some (.slice none 0 0)) (k : Nat) (hk : k ≤ 65) : VRow w (zs k) (some ⟨B, 0, none⟩) := by
  refine VRow.of B _ 0 fun i hi => ?_
  have hi' : i < k := by simpa [zs] using hi
  obtain ⟨h0, h1, h2⟩ := h i (by omega)
  refine ⟨_, _, _, by rw [Nat.zero_add]; exact h0, by rw [Nat.zero_add]; exact h1, by rw [Nat.zero_add]; exact h2, ?_⟩
  have : (zs k)[i] = rN 0 := by simp [zs]
  rw [this]
  exact VIn.leaf 1 0
theorem many_in {w : World} {B : Nat} (h : ∀ q, q < 65 → w.cell? ⟨B, q * 3, none⟩ = some (.int .u8 1) ∧ w.cell? ⟨B, q * 3 + 1, none⟩ = some (.int .i64 0) ∧ w.cell? ⟨B, q * 3 + 2, none⟩ = some (.slice none 0 0)) (k : Nat) (hk : k ≤ 65) (kind : Int) :
    VIn w (.mk kind 0 (zs k)) (.agg #[.int .u8 kind, .int .i64 0, .slice (some ⟨B, 0, none⟩) k 65]) :=
  vin_of (by simp [zs]) (by simp [zs]; omega) (many_row h k hk)
theorem items_one {w : World} {t : VT} {v0 v1 v2 : Value} (h : VIn w t (.agg #[v0, v1, v2])) : Items w [t] [v0, v1, v2] :=
  ⟨rfl, fun i hi => by
    have : i = 0 := by simpa using hi
    subst this
    exact ⟨v0, v1, v2, rfl, rfl, rfl, h⟩⟩
/-- append of one value, made just now. -/
theorem vpush {w00 w : World} {B n cap X : Nat} {k : List VT} {xs : List Value} {a : Option Addr} {t : VT} {v0 v1 v2 : Value} (hB : B ≤ w.heap.size) (hg : Grown w B 27 3 n xs a cap) (hi : Items w00 k xs) (ht : VIn w00 t (.agg #[v0, v1, v2]))
    (h0 : w.cell? ⟨X, 0, none⟩ = some v0) (h1 : w.cell? ⟨X, 1, none⟩ = some v1) (h2 : w.cell? ⟨X, 2, none⟩ = some v2) (o : v0.oneCell' = true ∧ v1.oneCell' = true ∧ v2.oneCell' = true) (hn : n + 1 ≤ 100000) :
    ∃ a' cap' w' ys, (Builtin.append_ #[23, 23] 23 #[.slice a n cap, .slice (some ⟨X, 0, none⟩) 1 1]).run Try.prog w = .ok (.slice a' (n + 1) cap') w' ∧ Grown w' B 27 3 (n + 1) ys a' cap' ∧ Items w00 (k ++ [t]) ys ∧ Below B w w' := by
  obtain ⟨i0, hi0, hz0, hz1, hz2⟩ := info_parts zeroV
  obtain ⟨a', cap', w', hap, hg', hb', _⟩ := grown_append (P := Try.prog) (ty := 23) hB hg Try.underlying23 hi0 hz0 hz1 rfl hz2 (Src.ofSlice w Try.underlying23 ⟨X, 0, none⟩ 1 1 [v0, v1, v2] rfl (fun j u hu => by
    rw [Addr.add_lit]
    rcases j with _ | _ | _ | j
    · simp only [List.getElem?_cons_zero, Option.some.injEq] at hu; subst hu; exact h0
    · simp only [List.getElem?_cons_succ, List.getElem?_cons_zero, Option.some.injEq] at hu; subst hu; exact h1
    · simp only [List.getElem?_cons_succ, List.getElem?_cons_zero, Option.some.injEq] at hu; subst hu; exact h2
    · simp at hu) (fun u hu => by
    simp only [List.mem_cons, List.not_mem_nil, or_false] at hu
    rcases hu with rfl | rfl | rfl
    · exact o.1
    · exact o.2.1
    · exact o.2.2)) (by omega) (by omega)
  exact ⟨a', cap', w', _, hap, hg', hi.append (items_one ht), hb'⟩

/-- the row 'full': 64 lists, the first i of 64 numbers, the others of 62. -/
def Full (w00 w : World) (F c i : Nat) : Prop := RowAt w 27 F (c * 3) ∧ 64 ≤ c ∧ ∀ q, q < 64 → ∃ v0 v1 v2, w.cell? ⟨F, q * 3, none⟩ = some v0 ∧ w.cell? ⟨F, q * 3 + 1, none⟩ = some v1 ∧ w.cell? ⟨F, q * 3 + 2, none⟩ = some v2 ∧ VIn w00 (rL (zs (if q < i then 64 else 62))) (.agg #[v0, v1, v2])
theorem Full.step {w00 w w' : World} {F c i : Nat} {u0 u1 u2 : Value} (h : Full w00 w F c i) (hi : i < 64) (hv : VIn w00 (rL (zs 64)) (.agg #[u0, u1, u2])) (hb : Below w.heap.size w w') :
    Full w00 (((w'.setCell ⟨F, i * 3, none⟩ u0).setCell ⟨F, i * 3 + 1, none⟩ u1).setCell ⟨F, i * 3 + 2, none⟩ u2) F c (i + 1) := by
  obtain ⟨hrow, hc, hq⟩ := h
  have hrow2 := hrow.below hrow.lt hb
  refine ⟨((hrow2.set _ _ rfl).set _ _ rfl).set _ _ rfl, hc, fun q hqt => ?_⟩
  by_cases e : q = i
  · subst e
    obtain ⟨x0, q0⟩ := hrow2.cell (q * 3) (by omega)
    obtain ⟨x1, q1⟩ := hrow2.cell (q * 3 + 1) (by omega)
    obtain ⟨x2, q2⟩ := hrow2.cell (q * 3 + 2) (by omega)
    exact ⟨u0, u1, u2, set_off (set_off (set_same q0) (by omega)) (by omega), set_off (set_same (set_off q1 (by omega))) (by omega), set_same (set_off (set_off q2 (by omega)) (by omega)), by rw [if_pos (by omega)]; exact hv⟩
  · obtain ⟨v0, v1, v2, c0, c1, c2, ht⟩ := hq q hqt
    refine ⟨v0, v1, v2, set_off (set_off (set_off (cell_stays hb c0) (by omega)) (by omega)) (by omega), set_off (set_off (set_off (cell_stays hb c1) (by omega)) (by omega)) (by omega), set_off (set_off (set_off (cell_stays hb c2) (by omega)) (by omega)) (by omega), ?_⟩
    have : (if q < i + 1 then 64 else 62) = if q < i then 64 else 62 := by by_cases h1 : q < i <;> simp [h1] <;> omega
    rw [this]; exact ht
theorem Full.of {w00 w : World} {F c : Nat} {xs : List Value} (hrow : RowAt w 27 F (c * 3)) (hc : 64 ≤ c) (hx : ∀ j v, xs[j]? = some v → w.cell? ⟨F, j, none⟩ = some v) (hi : Items w00 (List.replicate 64 (rL (zs 62))) xs) : Full w00 w F c 0 := by
  refine ⟨hrow, hc, fun q hq => ?_⟩
  obtain ⟨v0, v1, v2, e0, e1, e2, hv⟩ := hi.2 q (by simpa using hq)
  exact ⟨v0, v1, v2, hx _ _ e0, hx _ _ e1, hx _ _ e2, by rw [List.getElem_replicate] at hv; rw [if_neg (by omega)]; exact hv⟩

/-- the lists of 'full'. -/
def fullL (i : Nat) : List VT := (List.range 64).map fun q => rL (zs (if q < i then 64 else 62))
theorem fullL_len (i : Nat) : (fullL i).length = 64 := by simp [fullL]
theorem Full.vrow {w00 w : World} {F c i : Nat} (h : Full w00 w F c i) (hb : Below w00.heap.size w00 w) : VRow w (fullL i) (some ⟨F, 0, none⟩) := by
  refine VRow.of F _ 0 fun q hq => ?_
  have hq' : q < 64 := by rw [fullL_len] at hq; exact hq
  obtain ⟨v0, v1, v2, c0, c1, c2, hv⟩ := h.2.2 q hq'
  refine ⟨v0, v1, v2, by rw [Nat.zero_add]; exact c0, by rw [Nat.zero_add]; exact c1, by rw [Nat.zero_add]; exact c2, ?_⟩
  simp only [fullL, List.getElem_map, List.getElem_range]
  exact hv.below hb

theorem Full.below {w00 w w' : World} {F c i : Nat} (h : Full w00 w F c i) (hb : Below w.heap.size w w') : Full w00 w' F c i :=
  ⟨h.1.below h.1.lt hb, h.2.1, fun q hq => by
    obtain ⟨v0, v1, v2, c0, c1, c2, hv⟩ := h.2.2 q hq
    exact ⟨v0, v1, v2, cell_stays hb c0, cell_stays hb c1, cell_stays hb c2, hv⟩⟩
/-- the row of 'just': a list of 63 numbers, 31 of 64, 32 of 62. -/
def justL : List VT := (List.range 64).map fun q => rL (zs (if q = 0 then 63 else if q < 32 then 64 else 62))
theorem justL_len : justL.length = 64 := by simp [justL]
theorem Full.just {w00 w w' : World} {F c : Nat} {u0 u1 u2 : Value} (h : Full w00 w F c 32) (hv : VIn w00 (rL (zs 63)) (.agg #[u0, u1, u2])) (hw : w' = ((w.setCell ⟨F, 0, none⟩ u0).setCell ⟨F, 1, none⟩ u1).setCell ⟨F, 2, none⟩ u2) (hb : Below w00.heap.size w00 w') : VRow w' justL (some ⟨F, 0, none⟩) := by
  refine VRow.of F _ 0 fun q hq => ?_
  have hq' : q < 64 := by rw [justL_len] at hq; exact hq
  by_cases e : q = 0
  · subst e
    obtain ⟨x0, q0⟩ := h.1.cell 0 (by have := h.2.1; omega)
    obtain ⟨x1, q1⟩ := h.1.cell 1 (by have := h.2.1; omega)
    obtain ⟨x2, q2⟩ := h.1.cell 2 (by have := h.2.1; omega)
    refine ⟨u0, u1, u2, ?_, ?_, ?_, ?_⟩
    · rw [hw]; exact set_off (set_off (set_same q0) (by omega)) (by omega)
    · rw [hw]; exact set_off (set_same (set_off q1 (by omega))) (by omega)
    · rw [hw]; exact set_same (set_off (set_off q2 (by omega)) (by omega))
    · simp only [justL, List.getElem_map, List.getElem_range]
      exact hv.below hb
  · obtain ⟨v0, v1, v2, c0, c1, c2, ht⟩ := h.2.2 q hq'
    refine ⟨v0, v1, v2, ?_, ?_, ?_, ?_⟩
    · rw [hw, Nat.zero_add]; exact set_off (set_off (set_off c0 (by omega)) (by omega)) (by omega)
    · rw [hw, Nat.zero_add]; exact set_off (set_off (set_off c1 (by omega)) (by omega)) (by omega)
    · rw [hw, Nat.zero_add]; exact set_off (set_off (set_off c2 (by omega)) (by omega)) (by omega)
    · simp only [justL, List.getElem_map, List.getElem_range]
      rw [if_neg e]
      exact ht.below hb
/-- 'full', as what append takes. -/
theorem Full.src {w00 w w' : World} {F c i : Nat} (h : Full w00 w F c i) (hb : Below w.heap.size w w') : ∃ news, Src Try.prog 3 23 (.slice (some ⟨F, 0, none⟩) 64 c) 64 news w' ∧ Items w00 (fullL i) news := by
  have key : ∀ j, j < 64 * 3 → ∃ u, w.cell? ⟨F, j, none⟩ = some u ∧ u.oneCell' = true := fun j hj => by
    obtain ⟨v0, v1, v2, d0, d1, d2, hv⟩ := h.2.2 (j / 3) (by omega)
    unfold rL at hv
    obtain ⟨a', cap', _, e, _⟩ := hv.open
    simp only [Value.agg.injEq, Array.mk.injEq, List.cons.injEq, and_true] at e
    obtain ⟨rfl, rfl, rfl⟩ := e
    rcases (by omega : j = j / 3 * 3 ∨ j = j / 3 * 3 + 1 ∨ j = j / 3 * 3 + 2) with e | e | e
    · exact ⟨_, by rw [e]; exact d0, rfl⟩
    · exact ⟨_, by rw [e]; exact d1, rfl⟩
    · exact ⟨_, by rw [e]; exact d2, rfl⟩
  have hget : ∀ j, j < 64 * 3 → ∀ u, w.cell? ⟨F, j, none⟩ = some u → ((List.range (64 * 3)).map fun j => (w.cell? ⟨F, j, none⟩).getD .nilIface)[j]? = some u := fun j hj u hu => by
    rw [List.getElem?_map, List.getElem?_range hj]; simp [hu]
  refine ⟨(List.range (64 * 3)).map fun j => (w.cell? ⟨F, j, none⟩).getD .nilIface, Src.ofSlice w' Try.underlying23 _ _ c _ (by simp) (fun j u h => ?_) (fun u h => ?_), by rw [fullL_len]; simp, fun q hq => ?_⟩
  · obtain ⟨hj, he⟩ := List.getElem?_eq_some_iff.1 h
    have hj' : j < 64 * 3 := by simpa using hj
    obtain ⟨v, hv, _⟩ := key j hj'
    simp only [List.getElem_map, List.getElem_range, hv, Option.getD_some] at he
    subst he
    rw [Addr.add_lit]; exact cell_stays hb (by rw [Nat.zero_add]; exact hv)
  · obtain ⟨j, hj, rfl⟩ := List.mem_map.1 h
    obtain ⟨v, hv, h1⟩ := key j (by simpa using hj)
    rw [hv]; exact h1
  · have hq' : q < 64 := by rw [fullL_len] at hq; exact hq
    obtain ⟨v0, v1, v2, d0, d1, d2, hv⟩ := h.2.2 q hq'
    refine ⟨v0, v1, v2, hget _ (by omega) _ d0, hget _ (by omega) _ d1, hget _ (by omega) _ d2, ?_⟩
    simp only [fullL, List.getElem_map, List.getElem_range]
    exact hv
theorem full_append {w00 w w' : World} {F c i X : Nat} (h : Full w00 w F c i) (hb : Below w.heap.size w w') : ∃ b cap' w2 ys, (Builtin.append_ #[23, 23] 23 #[.slice (some ⟨X, 0, none⟩) 0 0, .slice (some ⟨F, 0, none⟩) 64 c]).run Try.prog w' = .ok (.slice (some ⟨b, 0, none⟩) 64 cap') w2 ∧
    w.heap.size ≤ b ∧ (∀ j v, ys[j]? = some v → w2.cell? ⟨b, j, none⟩ = some v) ∧ Items w00 (fullL i) ys ∧ Below w.heap.size w w2 := by
  obtain ⟨i0, hi0, hz0, hz1, hz2⟩ := info_parts zeroV
  obtain ⟨news, hs, hni⟩ := h.src hb
  obtain ⟨a', cap', w2, hap, hg', hb', _⟩ := grown_append (P := Try.prog) (ty := 23) hb.size (Grown.empty w' w.heap.size 27 3 X) Try.underlying23 hi0 hz0 hz1 rfl hz2 hs (by omega) (by omega)
  simp only [Nat.zero_add, List.nil_append] at hap hg'
  obtain ⟨b, rfl, hB, _, hc⟩ := hg'.cells (by rw [hni.1, fullL_len]; omega)
  exact ⟨b, cap', w2, _, hap, hB, hc, hni, hb.trans hb'⟩
/-- a row in another block stays, as three cells are written over. -/
theorem row_sets {w00 w w' : World} {b F : Nat} {l : List VT} {xs : List Value} {u0 u1 u2 : Value} (hi : Items w00 l xs) (hc : ∀ j v, xs[j]? = some v → w.cell? ⟨b, j, none⟩ = some v) (hne : F ≠ b) (hw : w' = ((w.setCell ⟨F, 0, none⟩ u0).setCell ⟨F, 1, none⟩ u1).setCell ⟨F, 2, none⟩ u2) (hb : Below w00.heap.size w00 w') : VRow w' l (some ⟨b, 0, none⟩) := by
  refine VRow.of b l 0 fun i h => ?_
  obtain ⟨v0, v1, v2, e0, e1, e2, hv⟩ := hi.2 i h
  refine ⟨v0, v1, v2, ?_, ?_, ?_, hv.below hb⟩
  · rw [hw, Nat.zero_add]; exact set_blk (set_blk (set_blk (hc _ _ e0) hne) hne) hne
  · rw [hw, Nat.zero_add]; exact set_blk (set_blk (set_blk (hc _ _ e1) hne) hne) hne
  · rw [hw, Nat.zero_add]; exact set_blk (set_blk (set_blk (hc _ _ e2) hne) hne) hne

/-- the table. -/
def tabL : List (VT × Int) := [((VT.mk 0 0 []), 11), ((rN 1099511627776), 0), ((rN 1099511627777), 1), ((rN (-1099511627777)), 1), ((VT.mk 2 (-1) []), 1), ((VT.mk 3 1 []), 3), ((VT.mk 2 0 rowT), 3), ((rT (zs 65)), 5), ((rT (zs 64)), 0), ((deepT 127), 0), ((rT [(deepT 127)]), 9), ((rT [(deepT 127), (VT.mk 0 0 [])]), 11), ((rT (List.replicate 64 (rL (zs 62)))), 0), ((rT justL), 0), ((rT (fullL 32)), 5), ((rT [(rT (fullL 32)), (rN 1099511627777)]), 1), ((rT [(rN 1099511627777), (VT.mk 0 0 [])]), 1)]
/-- what the temporaries of the table's region hold. -/
def tabK (B : Nat) : List PK := [.val (VT.mk 0 0 []), .elem (VT.mk 0 0 []) 11, .val (rN 1099511627776), .elem (rN 1099511627776) 0, .val (rN 1099511627777), .elem (rN 1099511627777) 1, .val (rN (-1099511627777)), .elem (rN (-1099511627777)) 1, .val (VT.mk 2 (-1) []), .elem (VT.mk 2 (-1) []) 1, .val (VT.mk 3 1 []), .elem (VT.mk 3 1 []) 3, .slice rowT, .val (VT.mk 2 0 rowT), .elem (VT.mk 2 0 rowT) 3, .slice (zs 65), .val (rT (zs 65)), .elem (rT (zs 65)) 5, .fixed (.slice (some ⟨B, 0, none⟩) 65 65), .slice (zs 64), .val (rT (zs 64)), .elem (rT (zs 64)) 0, .val (deepT 127), .elem (deepT 127) 0, .val (deepT 127), .slice [(deepT 127)], .val (rT [(deepT 127)]), .elem (rT [(deepT 127)]) 9, .val (deepT 127), .val (VT.mk 0 0 []), .slice [(deepT 127), (VT.mk 0 0 [])], .val (rT [(deepT 127), (VT.mk 0 0 [])]), .elem (rT [(deepT 127), (VT.mk 0 0 [])]) 11, .val (rT (List.replicate 64 (rL (zs 62)))), .elem (rT (List.replicate 64 (rL (zs 62)))) 0, .val (rT justL), .elem (rT justL) 0, .val (rT (fullL 32)), .elem (rT (fullL 32)) 5, .val (rT (fullL 32)), .val (rN 1099511627777), .slice [(rT (fullL 32)), (rN 1099511627777)], .val (rT [(rT (fullL 32)), (rN 1099511627777)]), .elem (rT [(rT (fullL 32)), (rN 1099511627777)]) 1, .val (rN 1099511627777), .val (VT.mk 0 0 []), .slice [(rN 1099511627777), (VT.mk 0 0 [])], .val (rT [(rN 1099511627777), (VT.mk 0 0 [])]), .elem (rT [(rN 1099511627777), (VT.mk 0 0 [])]) 1, .table tabL, .fixed (.int .i64 17), .fixed (.int .i64 0)]
theorem tab_chk0 : ∀ i : Fin 17, (tabL[i.val]'i.isLt).1.check = (tabL[i.val]'i.isLt).2 ∧ (tabL[i.val]'i.isLt).1.size ≤ 5000 := by decide +kernel
theorem tab_chk (i : Nat) (h : i < tabL.length) : tabL[i].1.check = tabL[i].2 ∧ tabL[i].1.size ≤ 5000 := tab_chk0 ⟨i, h⟩
theorem over_size : ((rT (fullL 32)).size : Int) = 4097 := by kernel_rfl
theorem just_size : ((rT justL).size : Int) = 4096 := by kernel_rfl
theorem most_size : ((rT (List.replicate 64 (rL (zs 62)))).size : Int) = 4033 := by kernel_rfl
theorem deep_deep : ((deepT 127).deep : Int) = 128 := by kernel_rfl

set_option maxRecDepth 100000 in
set_option maxHeartbeats 8000000 in
theorem names_walk (w : World) : Calls Try.prog 3 #[] w fun e w' => e = .returned (.bool true) ∧ Below w.heap.size w w' := by
  go_enter Try.func3, Try.ntmps3
  go_wp2_with fail
  refine (awake_any _).mono ?_
  rintro e w1 ⟨rfl, hb1⟩
  go_wp2_with fail
  refine (row_any _).mono ?_
  rintro e w2 ⟨b, rfl, hr, hb2⟩
  have hB2 := hb1.trans (hb2.mono hb1.size)
  clear hb1 hb2
  go_wp2_with fail
  go_loopw [2] (fun x wr => ∃ i : Nat, x = .int .i64 i ∧ i ≤ 13 ∧ Below w2.heap.size w2 wr) (fun x _ => 13 - (intOf x).toNat)
  case atStart => exact ⟨0, rfl, by omega, Below.refl _ _⟩
  case round =>
    obtain ⟨i, rfl, hi, hA⟩ := hrel
    rename World => wA
    by_cases hlt : i < 13
    · have hbi : (i : Int) < 13 := by omega
      have hdi : decide ((i : Int) < 13) = true := by simpa using hbi
      go_wp2_with fail
      go_loopw [3] (fun x wr => ∃ k : Nat, x = .int .i64 k ∧ k ≤ 13 ∧ Below w2.heap.size w2 wr) (fun x _ => 13 - (intOf x).toNat)
      case atStart => exact ⟨0, rfl, by omega, hA⟩
      case round =>
        obtain ⟨k, rfl, hk, hK⟩ := hrel
        rename World => wK
        by_cases hkt : k < 13
        · have hbk : (k : Int) < 13 := by omega
          have hi' : i < rowT.length := by have : rowT.length = 13 := rfl; omega
          have hk' : k < rowT.length := by have : rowT.length = 13 := rfl; omega
          obtain ⟨b0, o0, he0, ax, ac, d0, d1, d2, hx⟩ := (hr.below hK).got i hi'
          obtain ⟨b1, o1, he1, ay, ac', e0, e1, e2, hy⟩ := (hr.below hK).got k hk'
          cases he0; cases he1
          simp only [Nat.zero_add] at d0 d1 d2 e0 e1 e2
          have hc := row_cmp i k hi' hk'
          have hs := row_same i k hi' hk'
          go_wp2_with fail
          refine region_tail 8 (by kernel_rfl) (by kernel_rfl) ?_
          simp only [List.take_succ_cons, List.take_zero, List.drop_succ_cons, List.drop_zero]
          repeat still_step
          refine wpStill_nil ?_
          go_wp2_with fail
          refine (cmp_any _ _ _ _ _ _ (Nat.le_refl _) (hx.below (Below.refl _ _).drew) (hy.below (Below.refl _ _).drew)).mono ?_
          rintro e wC ⟨rfl, hbC⟩
          rw [hc]
          have hbC := (Below.refl _ wK).drew.trans hbC
          have hx := hx.below hbC
          have hy := hy.below hbC
          have d0 := cell_stays hbC d0
          have d1 := cell_stays hbC d1
          have d2 := cell_stays hbC d2
          have e0 := cell_stays hbC e0
          have e1 := cell_stays hbC e1
          have e2 := cell_stays hbC e2
          have hK := hK.trans (hbC.mono hK.size)
          have Q := Lib.hid (regrown (w := wC) fun W hW => by have := same_any _ _ _ _ _ W (Nat.le_refl _) (hx.below hW) (hy.below hW); rwa [hs] at this)
          have c0 := cell_regrown d0
          have c1 := cell_regrown d1
          have c2 := cell_regrown d2
          have c3 := cell_regrown e0
          have c4 := cell_regrown e1
          have c5 := cell_regrown e2
          have QX := Lib.hid (regrown (w := wC) fun W hW => by have := same_any _ _ _ _ _ W (Nat.le_refl _) (hx.below hW) (hx.below hW); rwa [VT.same_refl] at this)
          clear hbC hx hy hc hs
          rcases Nat.lt_trichotomy i k with hik | hik | hik
          · have z : cmpI (i : Int) (k : Int) = -1 := by unfold cmpI; rw [if_pos (by omega)]
            have z1 : decide ((i : Int) < (k : Int)) = true := by simpa using hik
            have z2 : ((i : Int) == (k : Int)) = false := by rw [beq_eq_false_iff_ne]; omega
            rw [show decide (i = k) = false by simp; omega] at Q
            rw [z]
            clear z
            go_wp2_with fail
            refine wp_region_quiet_below (by kernel_rfl) (by kernel_rfl) ?_
            repeat (go_big_quiet_step (first | with_reducible exact Q.out _ _))
            refine wpQuiet_nil ?_
            intro _ hw'
            obtain ⟨⟨dq, osq⟩, hw''⟩ := hw'
            subst hw''
            go_wp2_with fail
            go_roundw
            case rel => exact ⟨k + 1, by go_num, by omega, hK.trans ((below_regrown wC dq osq).mono hK.size)⟩
            case measure => simp [intOf]; omega
          · subst hik
            have z : cmpI (i : Int) (i : Int) = 0 := by unfold cmpI; rw [if_neg (by omega), if_neg (by omega)]
            have z1 : decide ((i : Int) < (i : Int)) = false := by simp
            have z3 : decide (i < i) = false := by simp
            have z4 : (i == i) = true := by simp
            have z2 : ((i : Int) == (i : Int)) = true := by simp
            replace Q := QX
            clear QX
            rw [z]
            clear z
            go_wp2_with fail
            refine wp_region_quiet_below (by kernel_rfl) (by kernel_rfl) ?_
            repeat (go_big_quiet_step (first | with_reducible exact Q.out _ _))
            refine wpQuiet_nil ?_
            intro _ hw'
            obtain ⟨⟨dq, osq⟩, hw''⟩ := hw'
            subst hw''
            go_wp2_with fail
            go_roundw
            case rel => exact ⟨i + 1, by go_num, by omega, hK.trans ((below_regrown wC dq osq).mono hK.size)⟩
            case measure => simp [intOf]; omega
          · have z : cmpI (i : Int) (k : Int) = 1 := by unfold cmpI; rw [if_neg (by omega), if_pos (by omega)]
            have z1 : decide ((i : Int) < (k : Int)) = false := by simp; omega
            have z3 : decide (i < k) = false := by simp; omega
            have z4 : (i == k) = false := by simp; omega
            have z2 : ((i : Int) == (k : Int)) = false := by rw [beq_eq_false_iff_ne]; omega
            rw [show decide (i = k) = false by simp; omega] at Q
            rw [z]
            clear z
            go_wp2_with fail
            refine wp_region_quiet_below (by kernel_rfl) (by kernel_rfl) ?_
            repeat (go_big_quiet_step (first | with_reducible exact Q.out _ _))
            refine wpQuiet_nil ?_
            intro _ hw'
            obtain ⟨⟨dq, osq⟩, hw''⟩ := hw'
            subst hw''
            go_wp2_with fail
            go_roundw
            case rel => exact ⟨k + 1, by go_num, by omega, hK.trans ((below_regrown wC dq osq).mono hK.size)⟩
            case measure => simp [intOf]; omega
        · have hbk : ¬ (k : Int) < 13 := by omega
          go_wp2_with fail
          go_roundw
          case rel => exact ⟨i + 1, by go_num, by omega, hK⟩
          case measure => simp [intOf]; omega
    · have hbi : ¬ (i : Int) < 13 := by omega
      have hr := hr.below hA
      have hB3 := hB2.trans (hA.mono hB2.size)
      obtain ⟨wM, hwM, mM, RM⟩ : ∃ wM, wA.alloc (.cells (zeroCells 65) 27) = wM ∧ Below wA.heap.size wA wM ∧ RowAt wM 27 wA.heap.size (65 * 3) := ⟨_, rfl, Below.al _, by have := RowAt.new wA (zeroCells 65) 27; rwa [zeroCells_size] at this⟩
      have hmk : (Instr.makeSlice 23 (.int .i64 65) (.int .i64 65)).run Try.prog wA = .ok (.slice (some ⟨wA.heap.size, 0, none⟩) 65 65) wM := by rw [← hwM]; exact make_vals 65 (by omega) wA
      clear hA hB2 hi hlt
      go_wp2_with fail
      clear hmk
      go_loopw [6] (fun x wr => ∃ j : Nat, x = .int .i64 j ∧ j ≤ 65 ∧ RowAt wr 27 wA.heap.size (65 * 3) ∧ (∀ q, q < j → wr.cell? ⟨wA.heap.size, q * 3, none⟩ = some (.int .u8 1) ∧ wr.cell? ⟨wA.heap.size, q * 3 + 1, none⟩ = some (.int .i64 0) ∧ wr.cell? ⟨wA.heap.size, q * 3 + 2, none⟩ = some (.slice none 0 0)) ∧ Below wA.heap.size wA wr) (fun x _ => 65 - (intOf x).toNat)
      case atStart => exact ⟨0, rfl, by omega, RM, fun q h => by omega, mM⟩
      case round =>
        obtain ⟨j, rfl, hj, hrow, hcells, hJ⟩ := hrel
        rename World => wJ
        have HCE := Lib.hid hcells; clear hcells
        have hsz := hrow.lt
        by_cases hjt : j < 65
        · have hbj : (j : Int) < 65 := by omega
          go_wp2_with fail
          refine (lnum_any 0 _).mono ?_
          rintro e wN ⟨rfl, hbN⟩
          have hrow2 := hrow.below hsz hbN
          obtain ⟨u0, q0⟩ := hrow2.cell (j * 3) (by omega)
          obtain ⟨u1, q1⟩ := hrow2.cell (j * 3 + 1) (by omega)
          obtain ⟨u2, q2⟩ := hrow2.cell (j * 3 + 2) (by omega)
          have g0 := hrow2.frozen (j * 3)
          have g1 := hrow2.frozen (j * 3 + 1)
          have g2 := hrow2.frozen (j * 3 + 2)
          go_wp2_with fail
          go_roundw
          case rel =>
            refine ⟨j + 1, by go_num, by omega, ((hrow2.set _ _ rfl).set _ _ rfl).set _ _ rfl, fun q hq => ?_, (((hJ.trans (hbN.mono hJ.size)).setCell (Nat.le_refl _) _).setCell (Nat.le_refl _) _).setCell (Nat.le_refl _) _⟩
            by_cases e : q = j
            · subst e
              exact ⟨set_off (set_off (set_same q0) (by omega)) (by omega), set_off (set_same (set_off q1 (by omega))) (by omega), set_same (set_off (set_off q2 (by omega)) (by omega))⟩
            · obtain ⟨c0, c1, c2⟩ := HCE.out q (by omega)
              exact ⟨set_off (set_off (set_off (cell_stays hbN c0) (by omega)) (by omega)) (by omega), set_off (set_off (set_off (cell_stays hbN c1) (by omega)) (by omega)) (by omega), set_off (set_off (set_off (cell_stays hbN c2) (by omega)) (by omega)) (by omega)⟩
          case measure => simp [intOf]; omega
        · have hbj : ¬ (j : Int) < 65 := by omega
          go_wp2_with fail
          have hB4 := hB3.trans (hJ.mono hB3.size)
          have hr := hr.below hJ
          have hcm := HCE.out
          have hMany : ∀ q, q < 65 → wJ.cell? ⟨wA.heap.size, q * 3, none⟩ = some (.int .u8 1) ∧ wJ.cell? ⟨wA.heap.size, q * 3 + 1, none⟩ = some (.int .i64 0) ∧ wJ.cell? ⟨wA.heap.size, q * 3 + 2, none⟩ = some (.slice none 0 0) := fun q hq => hcm q (by omega)
          have HM := Lib.hid hMany
          have hAlt : wA.heap.size < wJ.heap.size := hsz
          clear hcm hMany HCE hrow RM mM hJ hB3 hj hjt hsz hwM
          refine (lpair_any _ _ _ _).mono ?_
          rintro e wP ⟨rfl, hbP⟩
          obtain ⟨wD, hwD, mD, sD, x0, x1, x2, fD⟩ := box3 wP (.int .u8 3) (.int .i64 0) (.slice none 0 0) 27
          have RD : RowAt wD 27 wP.heap.size 3 := by rw [← hwD]; exact RowAt.new wP _ _
          have hD : Below wJ.heap.size wJ wD := hbP.trans (mD.mono hbP.size)
          have hlow := hbP.size
          have HWD := Lib.hid hwD
          clear hbP mD fD hwD
          go_wp2_with fail
          rw [HWD.out]
          go_loopw [8] (fun x wr => ∃ (j : Nat) (kk : Int) (a : Option Addr) (len cap : Nat), x = .int .i64 (j + 1 : Nat) ∧ j ≤ 127 ∧ RowAt wr 27 wP.heap.size 3 ∧ wr.cell? ⟨wP.heap.size, 0, none⟩ = some (.int .u8 kk) ∧ wr.cell? ⟨wP.heap.size, 1, none⟩ = some (.int .i64 0) ∧
            wr.cell? ⟨wP.heap.size, 2, none⟩ = some (.slice a len cap) ∧ FIn wr (wP.heap.size + 1) (deepT j) (.agg #[.int .u8 kk, .int .i64 0, .slice a len cap]) ∧ Below wJ.heap.size wJ wr) (fun x _ => 128 - (intOf x).toNat)
          case atStart => exact ⟨0, 3, none, 0, 0, rfl, by omega, RD, x0, x1, x2, by unfold deepT rT; rw [FIn]; exact ⟨none, 0, by simp, rfl, .inl rfl⟩, hD⟩
          case round =>
            obtain ⟨q, kk, da, dl, dc, rfl, hq, hrow, x0, x1, x2, hf, hJ⟩ := hrel
            rename World => wQ
            have HF := Lib.hid hf; clear hf
            by_cases hqt : q + 1 < 128
            · have hbq : ((q + 1 : Nat) : Int) < 128 := by omega
              have hsz := hrow.lt
              obtain ⟨wB, hwB, mB, sB, y0, y1, y2, fB⟩ := box3 wQ (.int .u8 kk) (.int .i64 0) (.slice da dl dc) 27
              go_wp2_with fail
              refine (llist_any _ _ _ _).mono ?_
              rintro e wC ⟨rfl, hbC⟩
              have mC := mB.trans (hbC.mono mB.size)
              have hrow2 := hrow.below hsz mC
              have x0 := cell_stays mC x0
              have x1 := cell_stays mC x1
              have x2 := cell_stays mC x2
              have g0 := hrow2.frozen 0
              have g1 := hrow2.frozen 1
              have g2 := hrow2.frozen 2
              have hstep := deep_step hsz HF.out mB y0 y1 y2 fB hbC (.int .u8 4) (.int .i64 0) (.slice (some ⟨wQ.heap.size, 0, none⟩) 1 1)
              have HST := Lib.hid hstep
              clear hstep
              go_wp2_with fail
              go_roundw
              case rel =>
                exact ⟨q + 1, 4, _, 1, 1, by go_num, by omega, ((hrow2.set _ _ rfl).set _ _ rfl).set _ _ rfl, set_off (set_off (set_same x0) (by omega)) (by omega), set_off (set_same (set_off x1 (by omega))) (by omega), set_same (set_off (set_off x2 (by omega)) (by omega)), HST.out,
                  (((hJ.trans (mC.mono hJ.size)).setCell hlow _).setCell hlow _).setCell hlow _⟩
              case measure => simp [intOf]; omega
            · have hbq : ¬ ((q + 1 : Nat) : Int) < 128 := by omega
              have hq1 : q = 127 := by omega
              subst hq1
              go_wp2_with fail
              have hB5 := hB4.trans (hJ.mono hB4.size)
              have hr := hr.below hJ
              have hMany : ∀ q, q < 65 → wQ.cell? ⟨wA.heap.size, q * 3, none⟩ = some (.int .u8 1) ∧ wQ.cell? ⟨wA.heap.size, q * 3 + 1, none⟩ = some (.int .i64 0) ∧ wQ.cell? ⟨wA.heap.size, q * 3 + 2, none⟩ = some (.slice none 0 0) := fun q hq =>
                ⟨cell_stays hJ (HM.out q hq).1, cell_stays hJ (HM.out q hq).2.1, cell_stays hJ (HM.out q hq).2.2⟩
              have HMQ := Lib.hid hMany
              have HDP := Lib.hid (FIn.vin _ _ HF.out)
              clear hMany hB4 HM RD hq hqt hrow sD HF
              go_loopw [9, 10] (fun x y wr => ∃ (i : Nat) (a : Option Addr) (cap : Nat) (xs : List Value), x = .slice a i cap ∧ y = .int .i64 i ∧ i ≤ 64 ∧ Grown wr wQ.heap.size 27 3 i xs a cap ∧ Items wQ (List.replicate i (rL (zs 62))) xs ∧ Below wQ.heap.size wQ wr) (fun _ y _ => 64 - (intOf y).toNat)
              case atStart => exact ⟨0, none, 0, [], rfl, rfl, by omega, Grown.nil _ _ _ _, Items.nil _, Below.refl _ _⟩
              case round =>
                obtain ⟨q, ga, gc, xs, rfl, rfl, hq, hg, hi, hQ⟩ := hrel
                rename World => wR
                have HG := Lib.hid hg; have HI := Lib.hid hi; clear hg hi
                by_cases hqt : q < 64
                · have hbq : (q : Int) < 64 := by omega
                  go_wp2_with fail
                  refine (llist_any _ _ _ _).mono ?_
                  rintro e wC ⟨rfl, hbC⟩
                  obtain ⟨wB, hwB, mB, sB, y0, y1, y2, fB⟩ := box3 wC (.int .u8 4) (.int .i64 0) (.slice (some ⟨wA.heap.size, 0, none⟩) 62 65) 27
                  have mC := hbC.trans (mB.mono hbC.size)
                  have hQB := hQ.trans (mC.mono hQ.size)
                  obtain ⟨a6, c6, w6, ys, hap, hg6, hi6, hb6⟩ := vpush (w00 := wQ) hQB.size (HG.out.below mC) HI.out (many_in HMQ.out 62 (by omega) 4) y0 y1 y2 ⟨rfl, rfl, rfl⟩ (by omega)
                  have HAP := Lib.hid hap; have HG6 := Lib.hid hg6; have HI6 := Lib.hid hi6
                  clear hap hg6 hi6 y0 y1 y2 fB
                  go_wp2_with (at_builtin; refine wpList_append_run _ rfl _ _ _ rfl (.slice ga q gc) (.slice (some ⟨wC.heap.size, 0, none⟩) 1 1) _ _ rfl rfl HAP.out ?_)
                  go_roundw
                  case rel => exact ⟨q + 1, a6, c6, ys, rfl, by go_num, by omega, HG6.out, by rw [List.replicate_succ']; exact HI6.out, hQB.trans hb6⟩
                  case measure => simp [intOf]; omega
                · have hbq : ¬ (q : Int) < 64 := by omega
                  have hq1 : q = 64 := by omega
                  subst hq1
                  have hB6 := hB5.trans (hQ.mono hB5.size)
                  have hr := hr.below hQ
                  have x0 := cell_stays hQ x0
                  have x1 := cell_stays hQ x1
                  have x2 := cell_stays hQ x2
                  have hMany : ∀ q, q < 65 → wR.cell? ⟨wA.heap.size, q * 3, none⟩ = some (.int .u8 1) ∧ wR.cell? ⟨wA.heap.size, q * 3 + 1, none⟩ = some (.int .i64 0) ∧ wR.cell? ⟨wA.heap.size, q * 3 + 2, none⟩ = some (.slice none 0 0) := fun q hq =>
                    ⟨cell_stays hQ (HMQ.out q hq).1, cell_stays hQ (HMQ.out q hq).2.1, cell_stays hQ (HMQ.out q hq).2.2⟩
                  have HMR := Lib.hid hMany
                  have HDR := Lib.hid (VIn.below hQ HDP.out)
                  have HWI := Lib.hid (grown_vrow (by simp) HG.out HI.out hQ)
                  clear hMany HMQ HDP HG HI hQ hB5
                  go_wp2_with fail
                  refine (lpair_any _ _ _ _).mono ?_
                  rintro e wS ⟨rfl, hbS⟩
                  obtain ⟨wT, hwT, mT, sT, k0, k1, k2, -⟩ := box3 wS (.int .u8 3) (.int .i64 0) (.slice ga 64 gc) 27
                  have HWT := Lib.hid hwT
                  have mR := hbS.trans (mT.mono hbS.size)
                  clear hwT hbS mT
                  go_upto_region 29 with fail
                  rw [HWT.out]
                  have hB7 := hB6.trans (mR.mono hB6.size)
                  have x0 := cell_stays mR x0
                  have x1 := cell_stays mR x1
                  have x2 := cell_stays mR x2
                  have hMany : ∀ q, q < 65 → wT.cell? ⟨wA.heap.size, q * 3, none⟩ = some (.int .u8 1) ∧ wT.cell? ⟨wA.heap.size, q * 3 + 1, none⟩ = some (.int .i64 0) ∧ wT.cell? ⟨wA.heap.size, q * 3 + 2, none⟩ = some (.slice none 0 0) := fun q hq =>
                    ⟨cell_stays mR (HMR.out q hq).1, cell_stays mR (HMR.out q hq).2.1, cell_stays mR (HMR.out q hq).2.2⟩
                  have HMT := Lib.hid hMany
                  have HDT := Lib.hid (VIn.below mR HDR.out)
                  have hr := hr.below mR
                  have hw64 := HWI.out.below mR
                  obtain ⟨wU, hwU, mU⟩ : ∃ wU, wT.alloc (.cells #[] 27) = wU ∧ Below wT.heap.size wT wU := ⟨_, rfl, Below.al _⟩
                  obtain ⟨a6, c6, w6, y6, hap, hg6, hi6, hb6⟩ := vappend (w00 := wT) (k := []) (xs := []) gc mU.size (Grown.empty wU wT.heap.size 27 3 wT.heap.size) (Items.nil wT) hw64 mU (by simp)
                  simp only [Nat.zero_add, List.nil_append, List.length_replicate] at hap hg6 hi6
                  have m6 := mU.trans hb6
                  obtain ⟨F, rfl, hF, hrow6, hc6⟩ := hg6.cells (by rw [hi6.1]; simp)
                  have hfull := Full.of hrow6 hg6.le hc6 hi6
                  have HAP := Lib.hid hap; have HFU := Lib.hid hfull; have HWT64 := Lib.hid hw64
                  clear hMany HMR HDR HWI hap hg6 hi6 hb6 hc6 hfull hw64 mR hB6
                  go_wp2_with (at_builtin; refine wpList_append_run _ rfl _ _ _ rfl (.slice (some ⟨wT.heap.size, 0, none⟩) 0 0) (.slice ga 64 gc) _ _ rfl rfl HAP.out ?_)
                  refine (llist_any _ _ _ _).mono ?_
                  rintro e wV ⟨rfl, hbV⟩
                  have hrowV := hrow6.below hrow6.lt hbV
                  have hle := HFU.out.2.1
                  obtain ⟨u0, q0⟩ := hrowV.cell 0 (by omega)
                  obtain ⟨u1, q1⟩ := hrowV.cell 1 (by omega)
                  obtain ⟨u2, q2⟩ := hrowV.cell 2 (by omega)
                  have g0 := hrowV.frozen 0
                  have g1 := hrowV.frozen 1
                  have g2 := hrowV.frozen 2
                  have hst := HFU.out.step (i := 0) (by omega) (many_in HMT.out 64 (by omega) 4) hbV
                  simp only [Nat.zero_mul, Nat.zero_add] at hst
                  have HST := Lib.hid hst
                  have mV := m6.trans (hbV.mono m6.size)
                  clear hst hbV m6 HFU hrow6 hwU mU
                  go_wp2_with fail
                  go_loopw [13] (fun x wr => ∃ i : Nat, x = .int .i64 i ∧ 1 ≤ i ∧ i ≤ 32 ∧ Full wT wr F c6 i ∧ Below wT.heap.size wT wr) (fun x _ => 32 - (intOf x).toNat)
                  case atStart => exact ⟨1, rfl, by omega, by omega, HST.out, ((mV.setCell hF _).setCell hF _).setCell hF _⟩
                  case round =>
                    obtain ⟨q, rfl, hq1, hq, hfu, hT⟩ := hrel
                    rename World => wX
                    have HFX := Lib.hid hfu; clear hfu
                    by_cases hqt : q < 32
                    · have hbq : (q : Int) < 32 := by omega
                      have hq64 : (q : Int) < 64 := by omega
                      go_wp2_with fail
                      refine (llist_any _ _ _ _).mono ?_
                      rintro e wV2 ⟨rfl, hbV⟩
                      have hrowV := HFX.out.1.below HFX.out.1.lt hbV
                      obtain ⟨u0, q0⟩ := hrowV.cell (q * 3) (by omega)
                      obtain ⟨u1, q1⟩ := hrowV.cell (q * 3 + 1) (by omega)
                      obtain ⟨u2, q2⟩ := hrowV.cell (q * 3 + 2) (by omega)
                      have g0 := hrowV.frozen (q * 3)
                      have g1 := hrowV.frozen (q * 3 + 1)
                      have g2 := hrowV.frozen (q * 3 + 2)
                      have HS2 := Lib.hid (HFX.out.step (i := q) (by omega) (many_in HMT.out 64 (by omega) 4) hbV)
                      have mX := hT.trans (hbV.mono hT.size)
                      clear hbV hT
                      go_wp2_with fail
                      go_roundw
                      case rel => exact ⟨q + 1, by go_num, by omega, by omega, HS2.out, ((mX.setCell hF _).setCell hF _).setCell hF _⟩
                      case measure => simp [intOf]; omega
                    · have hbq : ¬ (q : Int) < 32 := by omega
                      have hq32 : q = 32 := by omega
                      subst hq32
                      obtain ⟨wY, hwY, mY⟩ : ∃ wY, wX.alloc (.cells #[] 27) = wY ∧ Below wX.heap.size wX wY := ⟨_, rfl, Below.al _⟩
                      obtain ⟨b7, c7, w7, y7, hap, hb7, hc7, hi7, m7⟩ := full_append (X := wX.heap.size) HFX.out mY
                      have HAP2 := Lib.hid hap; have HC7 := Lib.hid hc7; have HI7 := Lib.hid hi7
                      clear hap hc7 hi7 mY
                      go_wp2_with (at_builtin; refine wpList_append_run _ rfl _ _ _ rfl (.slice (some ⟨wX.heap.size, 0, none⟩) 0 0) (.slice (some ⟨F, 0, none⟩) 64 c6) _ _ rfl rfl HAP2.out ?_)
                      refine (lpair_any _ _ _ _).mono ?_
                      rintro e wP2 ⟨rfl, hbP⟩
                      obtain ⟨wO, hwO, mO, sO, o0, o1, o2, -⟩ := box3 wP2 (.int .u8 3) (.int .i64 0) (.slice (some ⟨b7, 0, none⟩) 64 c7) 27
                      have HWO := Lib.hid hwO; clear hwO
                      go_upto_region 36 with fail
                      rw [HWO.out]
                      have m7O := hbP.trans (mO.mono hbP.size)
                      have mXO := m7.trans (m7O.mono m7.size)
                      have hFX := HFX.out.1.lt
                      have hFP : F < wP2.heap.size := Nat.lt_of_lt_of_le hFX (Nat.le_trans m7.size hbP.size)
                      have HFO := Lib.hid (HFX.out.below mXO)
                      have mTO := hT.trans (mXO.mono hT.size)
                      clear HWO hbP mO mXO HAP2 hwY HFX
                      go_wp2_with fail
                      refine (llist_any _ _ _ _).mono ?_
                      rintro e wL ⟨rfl, hbL⟩
                      replace o0 := cell_stays hbL o0
                      replace o1 := cell_stays hbL o1
                      replace o2 := cell_stays hbL o2
                      have HFL := Lib.hid (HFO.out.below hbL)
                      have mTL := mTO.trans (hbL.mono mTO.size)
                      have m7L := m7O.trans (hbL.mono m7O.size)
                      have hrowV := HFL.out.1
                      have hle := HFL.out.2.1
                      obtain ⟨u0, q0⟩ := hrowV.cell 0 (by omega)
                      obtain ⟨u1, q1⟩ := hrowV.cell 1 (by omega)
                      obtain ⟨u2, q2⟩ := hrowV.cell 2 (by omega)
                      have g0 := hrowV.frozen 0
                      have g1 := hrowV.frozen 1
                      have g2 := hrowV.frozen 2
                      obtain ⟨wM2, hwM2⟩ : ∃ wM2, ((wL.setCell ⟨F, 0, none⟩ (.int .u8 4)).setCell ⟨F, 1, none⟩ (.int .i64 0)).setCell ⟨F, 2, none⟩ (.slice (some ⟨wA.heap.size, 0, none⟩) 63 65) = wM2 := ⟨_, rfl⟩
                      have mTM : Below wT.heap.size wT wM2 := by rw [← hwM2]; exact ((mTL.setCell hF _).setCell hF _).setCell hF _
                      have hjust : VRow wM2 justL (some ⟨F, 0, none⟩) := HFL.out.just (many_in HMT.out 63 (by omega) 4) hwM2.symm mTM
                      have hne : F ≠ b7 := by omega
                      have hover : VRow wM2 (fullL 32) (some ⟨b7, 0, none⟩) := row_sets HI7.out (fun j v h => cell_stays m7L (HC7.out j v h)) hne hwM2.symm mTM
                      have hO : wP2.heap.size ≠ F := by omega
                      replace o0 : wM2.cell? ⟨wP2.heap.size, 0, none⟩ = some (.int .u8 3) := by rw [← hwM2]; exact set_blk (set_blk (set_blk o0 (by omega)) (by omega)) (by omega)
                      replace o1 : wM2.cell? ⟨wP2.heap.size, 1, none⟩ = some (.int .i64 0) := by rw [← hwM2]; exact set_blk (set_blk (set_blk o1 (by omega)) (by omega)) (by omega)
                      replace o2 : wM2.cell? ⟨wP2.heap.size, 2, none⟩ = some (.slice (some ⟨b7, 0, none⟩) 64 c7) := by rw [← hwM2]; exact set_blk (set_blk (set_blk o2 (by omega)) (by omega)) (by omega)
                      replace x0 := cell_stays mTM x0
                      replace x1 := cell_stays mTM x1
                      replace x2 := cell_stays mTM x2
                      replace k0 := cell_stays mTM k0
                      replace k1 := cell_stays mTM k1
                      replace k2 := cell_stays mTM k2
                      replace hr := hr.below mTM
                      have HMM := Lib.hid (fun k (hk : k ≤ 65) => (many_row HMT.out k hk).below mTM)
                      have HDM := Lib.hid (HDT.out.below mTM)
                      have HWM := Lib.hid (HWT64.out.below mTM)
                      have HJM := Lib.hid hjust; have HOM := Lib.hid hover
                      have hBM := hB7.trans (mTM.mono hB7.size)
                      clear HFL hjust hover HC7 HI7 HMT HDT HWT64 m7O m7L mTL hbL hB7 m7 hT
                      go_wp2_with fail
                      refine (lpair_any _ _ _ _).mono ?_
                      rintro e wN2 ⟨rfl, hbN⟩
                      obtain ⟨wV3, hwV3, mV3, sV3, j0, j1, j2, -⟩ := box3 wN2 (.int .u8 3) (.int .i64 0) (.slice (some ⟨F, 0, none⟩) 64 c6) 27
                      have HWV3 := Lib.hid hwV3; clear hwV3
                      go_upto_region 38 with fail
                      rw [HWV3.out]
                      have mMV := hbN.trans (mV3.mono hbN.size)
                      have HRW := Lib.hid (hr.below mMV)
                      have HZS := Lib.hid (fun k hk => (HMM.out k hk).below mMV)
                      replace x0 := cell_stays mMV x0
                      replace x1 := cell_stays mMV x1
                      replace x2 := cell_stays mMV x2
                      replace k0 := cell_stays mMV k0
                      replace k1 := cell_stays mMV k1
                      replace k2 := cell_stays mMV k2
                      replace o0 := cell_stays mMV o0
                      replace o1 := cell_stays mMV o1
                      replace o2 := cell_stays mMV o2
                      have HVD : Hid (∃ kd nd ad ld cd, wV3.cell? ⟨wP.heap.size, 0, none⟩ = some (.int .u8 kd) ∧ wV3.cell? ⟨wP.heap.size, 1, none⟩ = some (.int .i64 nd) ∧ wV3.cell? ⟨wP.heap.size, 2, none⟩ = some (.slice ad ld cd) ∧ VIn wV3 (deepT 127) (.agg #[.int .u8 kd, .int .i64 nd, .slice ad ld cd])) := Lib.hid ⟨_, _, _, _, _, x0, x1, x2, HDM.out.below mMV⟩
                      have HVW : Hid (∃ kd nd ad ld cd, wV3.cell? ⟨wS.heap.size, 0, none⟩ = some (.int .u8 kd) ∧ wV3.cell? ⟨wS.heap.size, 1, none⟩ = some (.int .i64 nd) ∧ wV3.cell? ⟨wS.heap.size, 2, none⟩ = some (.slice ad ld cd) ∧ VIn wV3 (rT (List.replicate 64 (rL (zs 62)))) (.agg #[.int .u8 kd, .int .i64 nd, .slice ad ld cd])) := Lib.hid ⟨_, _, _, _, _, k0, k1, k2, vin_items rfl (by simp) (by simp) (HWM.out.below mMV)⟩
                      have HVO : Hid (∃ kd nd ad ld cd, wV3.cell? ⟨wP2.heap.size, 0, none⟩ = some (.int .u8 kd) ∧ wV3.cell? ⟨wP2.heap.size, 1, none⟩ = some (.int .i64 nd) ∧ wV3.cell? ⟨wP2.heap.size, 2, none⟩ = some (.slice ad ld cd) ∧ VIn wV3 (rT (fullL 32)) (.agg #[.int .u8 kd, .int .i64 nd, .slice ad ld cd])) := Lib.hid ⟨_, _, _, _, _, o0, o1, o2, vin_items rfl (by rw [fullL_len]) (by rw [fullL_len]; omega) (HOM.out.below mMV)⟩
                      have HVJ : Hid (∃ kd nd ad ld cd, wV3.cell? ⟨wN2.heap.size, 0, none⟩ = some (.int .u8 kd) ∧ wV3.cell? ⟨wN2.heap.size, 1, none⟩ = some (.int .i64 nd) ∧ wV3.cell? ⟨wN2.heap.size, 2, none⟩ = some (.slice ad ld cd) ∧ VIn wV3 (rT justL) (.agg #[.int .u8 kd, .int .i64 nd, .slice ad ld cd])) := Lib.hid ⟨_, _, _, _, _, j0, j1, j2, vin_items rfl (by rw [justL_len]) (by rw [justL_len]; omega) (HJM.out.below mMV)⟩
                      have HBV := Lib.hid (fun W (h : Below wV3.drew.heap.size wV3.drew W) => (Below.refl _ wV3).drew.trans h)
                      have hBV3 := hBM.trans (mMV.mono hBM.size)
                      clear x0 x1 x2 k0 k1 k2 o0 o1 o2 j0 j1 j2 hr HMM HDM HWM HOM HJM mMV hbN mV3 sV3 hBM mTM HFO hwM2 hO hne hFP hFX g0 g1 g2 q0 q1 q2 hrowV hle mTO
                      try simp only [List.append_eq, List.cons_append, List.nil_append]
                      refine wp_region_each (kindAt 139 (tabK wA.heap.size)) 246 (by kernel_rfl) (by kernel_rfl) (by rfl) (kindAt_mono _ _) ?_ ?_
                      · refine (fm ?_ (fm ?_ (fm ?_ (fm ?_ (fm ?_ (fm ?_ (fm ?_ (fm ?_ (fm ?_ (fm ?_ (fm ?_ (fm ?_ (fm ?_ (fm ?_ (fm ?_ (fm ?_ (fm ?_ (fm ?_ (fm ?_ (fm ?_ (fm ?_ (fm ?_ (fm ?_ (fm ?_ (fm ?_ (fm ?_ (fm ?_ (fm ?_ (fm ?_ (fm ?_ (fm ?_ (fm ?_ (fm ?_ (fm ?_ (fm ?_ (fm ?_ (fm ?_ (fm ?_ (fm ?_ (fm ?_ (fm ?_ (fm ?_ (fm ?_ (fm ?_ (fm ?_ (fm ?_ (fm ?_ (fm ?_ (fm ?_ (fm ?_ (fm ?_ (fm ?_ fmnil))))))))))))))))))))))))))))))))))))))))))))))))))))
                        · intro r W hc hf hs hd hB
                          have hBV := HBV.out W hB
                          exact st_value (v := .agg #[.int .u8 0, .int .i64 0, .slice none 0 0]) rfl (by go_simp) (VIn.leaf _ _)
                        · intro r W hc hf hs hd hB
                          have hBV := HBV.out W hB
                          have h : VIn W (VT.mk 0 0 []) (r (.tmp 139)) := hd 139 (by kernel_rfl)
                          obtain ⟨k139, n139, a139, l139, c139, e⟩ := VIn.agg h
                          rw [e] at h
                          exact st_value (v := .agg #[.int .u8 k139, .int .i64 n139, .slice a139 l139 c139, .int .i64 11]) rfl (by go_simp) (EIn.of h)
                        · intro r W hc hf hs hd hB
                          have hBV := HBV.out W hB
                          exact st_call (f := 13) (args := #[.int .i64 1099511627776]) rfl (by go_simp) (num_made 1099511627776 _)
                        · intro r W hc hf hs hd hB
                          have hBV := HBV.out W hB
                          have h : VIn W (rN 1099511627776) (r (.tmp 141)) := hd 141 (by kernel_rfl)
                          obtain ⟨k141, n141, a141, l141, c141, e⟩ := VIn.agg h
                          rw [e] at h
                          exact st_value (v := .agg #[.int .u8 k141, .int .i64 n141, .slice a141 l141 c141, .int .i64 0]) rfl (by go_simp) (EIn.of h)
                        · intro r W hc hf hs hd hB
                          have hBV := HBV.out W hB
                          exact st_call (f := 13) (args := #[.int .i64 1099511627777]) rfl (by go_simp) (num_made 1099511627777 _)
                        · intro r W hc hf hs hd hB
                          have hBV := HBV.out W hB
                          have h : VIn W (rN 1099511627777) (r (.tmp 143)) := hd 143 (by kernel_rfl)
                          obtain ⟨k143, n143, a143, l143, c143, e⟩ := VIn.agg h
                          rw [e] at h
                          exact st_value (v := .agg #[.int .u8 k143, .int .i64 n143, .slice a143 l143 c143, .int .i64 1]) rfl (by go_simp) (EIn.of h)
                        · intro r W hc hf hs hd hB
                          have hBV := HBV.out W hB
                          exact st_call (f := 13) (args := #[.int .i64 (-1099511627777)]) rfl (by go_simp) (num_made (-1099511627777) _)
                        · intro r W hc hf hs hd hB
                          have hBV := HBV.out W hB
                          have h : VIn W (rN (-1099511627777)) (r (.tmp 145)) := hd 145 (by kernel_rfl)
                          obtain ⟨k145, n145, a145, l145, c145, e⟩ := VIn.agg h
                          rw [e] at h
                          exact st_value (v := .agg #[.int .u8 k145, .int .i64 n145, .slice a145 l145 c145, .int .i64 1]) rfl (by go_simp) (EIn.of h)
                        · intro r W hc hf hs hd hB
                          have hBV := HBV.out W hB
                          exact st_value (v := .agg #[.int .u8 2, .int .i64 (-1), .slice none 0 0]) rfl (by go_simp) (VIn.leaf _ _)
                        · intro r W hc hf hs hd hB
                          have hBV := HBV.out W hB
                          have h : VIn W (VT.mk 2 (-1) []) (r (.tmp 147)) := hd 147 (by kernel_rfl)
                          obtain ⟨k147, n147, a147, l147, c147, e⟩ := VIn.agg h
                          rw [e] at h
                          exact st_value (v := .agg #[.int .u8 k147, .int .i64 n147, .slice a147 l147 c147, .int .i64 1]) rfl (by go_simp) (EIn.of h)
                        · intro r W hc hf hs hd hB
                          have hBV := HBV.out W hB
                          exact st_value (v := .agg #[.int .u8 3, .int .i64 1, .slice none 0 0]) rfl (by go_simp) (VIn.leaf _ _)
                        · intro r W hc hf hs hd hB
                          have hBV := HBV.out W hB
                          have h : VIn W (VT.mk 3 1 []) (r (.tmp 149)) := hd 149 (by kernel_rfl)
                          obtain ⟨k149, n149, a149, l149, c149, e⟩ := VIn.agg h
                          rw [e] at h
                          exact st_value (v := .agg #[.int .u8 k149, .int .i64 n149, .slice a149 l149 c149, .int .i64 3]) rfl (by go_simp) (EIn.of h)
                        · intro r W hc hf hs hd hB
                          have hBV := HBV.out W hB
                          have e : r (.tmp 1) = .slice (some ⟨b, 0, none⟩) 13 13 := hs 1 (of_decide_eq_true (by kernel_rfl))
                          exact st_value (v := .slice (some ⟨b, 0, none⟩) 13 13) rfl (by go_simp) ⟨_, _, _, rfl, rfl, HRW.out.below hBV⟩
                        · intro r W hc hf hs hd hB
                          have hBV := HBV.out W hB
                          obtain ⟨pa, pn, pc, e, hn, hr⟩ : PK.ok (.slice rowT) (r (.tmp 151)) W := hd 151 (by kernel_rfl)
                          exact st_value (v := .agg #[.int .u8 2, .int .i64 0, .slice pa pn pc]) rfl (by go_simp) (vin_items rfl hn (by decide) hr)
                        · intro r W hc hf hs hd hB
                          have hBV := HBV.out W hB
                          have h : VIn W (VT.mk 2 0 rowT) (r (.tmp 152)) := hd 152 (by kernel_rfl)
                          obtain ⟨k152, n152, a152, l152, c152, e⟩ := VIn.agg h
                          rw [e] at h
                          exact st_value (v := .agg #[.int .u8 k152, .int .i64 n152, .slice a152 l152 c152, .int .i64 3]) rfl (by go_simp) (EIn.of h)
                        · intro r W hc hf hs hd hB
                          have hBV := HBV.out W hB
                          have e : r (.tmp 5) = .slice (some ⟨wA.heap.size, 0, none⟩) 65 65 := hs 5 (of_decide_eq_true (by kernel_rfl))
                          exact st_value (v := .slice (some ⟨wA.heap.size, 0, none⟩) 65 65) rfl (by go_simp) ⟨_, _, _, rfl, rfl, (HZS.out 65 (by omega)).below hBV⟩
                        · intro r W hc hf hs hd hB
                          have hBV := HBV.out W hB
                          obtain ⟨pa, pn, pc, e, hn, hr⟩ : PK.ok (.slice (zs 65)) (r (.tmp 154)) W := hd 154 (by kernel_rfl)
                          exact st_call (f := 14) (args := #[.slice pa pn pc]) rfl (by go_simp) (pair_made rfl hn (by simp [zs]) hr)
                        · intro r W hc hf hs hd hB
                          have hBV := HBV.out W hB
                          have h : VIn W (rT (zs 65)) (r (.tmp 155)) := hd 155 (by kernel_rfl)
                          obtain ⟨k155, n155, a155, l155, c155, e⟩ := VIn.agg h
                          rw [e] at h
                          exact st_value (v := .agg #[.int .u8 k155, .int .i64 n155, .slice a155 l155 c155, .int .i64 5]) rfl (by go_simp) (EIn.of h)
                        · intro r W hc hf hs hd hB
                          have hBV := HBV.out W hB
                          have e : r (.tmp 5) = .slice (some ⟨wA.heap.size, 0, none⟩) 65 65 := hs 5 (of_decide_eq_true (by kernel_rfl))
                          exact st_value (v := .slice (some ⟨wA.heap.size, 0, none⟩) 65 65) rfl (by go_simp) rfl
                        · intro r W hc hf hs hd hB
                          have hBV := HBV.out W hB
                          have e : r (.tmp 157) = .slice (some ⟨wA.heap.size, 0, none⟩) 65 65 := hd 157 (by kernel_rfl)
                          exact st_value (v := .slice (some ⟨wA.heap.size, 0, none⟩) 64 65) rfl (by go_simp) ⟨_, _, _, rfl, rfl, (HZS.out 64 (by omega)).below hBV⟩
                        · intro r W hc hf hs hd hB
                          have hBV := HBV.out W hB
                          obtain ⟨pa, pn, pc, e, hn, hr⟩ : PK.ok (.slice (zs 64)) (r (.tmp 158)) W := hd 158 (by kernel_rfl)
                          exact st_call (f := 14) (args := #[.slice pa pn pc]) rfl (by go_simp) (pair_made rfl hn (by simp [zs]) hr)
                        · intro r W hc hf hs hd hB
                          have hBV := HBV.out W hB
                          have h : VIn W (rT (zs 64)) (r (.tmp 159)) := hd 159 (by kernel_rfl)
                          obtain ⟨k159, n159, a159, l159, c159, e⟩ := VIn.agg h
                          rw [e] at h
                          exact st_value (v := .agg #[.int .u8 k159, .int .i64 n159, .slice a159 l159 c159, .int .i64 0]) rfl (by go_simp) (EIn.of h)
                        · intro r W hc hf hs hd hB
                          have hBV := HBV.out W hB
                          have e : r (.tmp 7) = .pointer (some ⟨wP.heap.size, 0, none⟩) := hs 7 (of_decide_eq_true (by kernel_rfl))
                          obtain ⟨kd, nd, ad, ld, cd, g0, g1, g2, hv⟩ := HVD.out
                          replace g0 := cell_stays hBV g0
                          replace g1 := cell_stays hBV g1
                          replace g2 := cell_stays hBV g2
                          exact st_value (v := .agg #[.int .u8 kd, .int .i64 nd, .slice ad ld cd]) rfl (by go_simp) (hv.below hBV)
                        · intro r W hc hf hs hd hB
                          have hBV := HBV.out W hB
                          have h : VIn W (deepT 127) (r (.tmp 161)) := hd 161 (by kernel_rfl)
                          obtain ⟨k161, n161, a161, l161, c161, e⟩ := VIn.agg h
                          rw [e] at h
                          exact st_value (v := .agg #[.int .u8 k161, .int .i64 n161, .slice a161 l161 c161, .int .i64 0]) rfl (by go_simp) (EIn.of h)
                        · intro r W hc hf hs hd hB
                          have hBV := HBV.out W hB
                          have e : r (.tmp 7) = .pointer (some ⟨wP.heap.size, 0, none⟩) := hs 7 (of_decide_eq_true (by kernel_rfl))
                          obtain ⟨kd, nd, ad, ld, cd, g0, g1, g2, hv⟩ := HVD.out
                          replace g0 := cell_stays hBV g0
                          replace g1 := cell_stays hBV g1
                          replace g2 := cell_stays hBV g2
                          exact st_value (v := .agg #[.int .u8 kd, .int .i64 nd, .slice ad ld cd]) rfl (by go_simp) (hv.below hBV)
                        · intro r W hc hf hs hd hB
                          have hBV := HBV.out W hB
                          have h163 : VIn W (deepT 127) (r (.tmp 163)) := hd 163 (by kernel_rfl)
                          obtain ⟨k163, n163, a163, l163, c163, e163⟩ := VIn.agg h163
                          rw [e163] at h163
                          exact st_new (v := .slice (some ⟨W.heap.size, 0, none⟩) 1 1) (w' := W.alloc (.cells #[.int .u8 k163, .int .i64 n163, .slice a163 l163 c163] 27)) rfl (by go_simp) (Below.al _) ⟨_, _, _, rfl, rfl, (vrow_cons (v0 := .int .u8 k163) (v1 := .int .i64 n163) (v2 := .slice a163 l163 c163) (by go_simp) (by go_simp) (by go_simp) (h163.below (Below.al _)) vrow_nil)⟩
                        · intro r W hc hf hs hd hB
                          have hBV := HBV.out W hB
                          obtain ⟨pa, pn, pc, e, hn, hr⟩ : PK.ok (.slice [(deepT 127)]) (r (.tmp 164)) W := hd 164 (by kernel_rfl)
                          exact st_call (f := 14) (args := #[.slice pa pn pc]) rfl (by go_simp) (pair_made rfl hn (by simp) hr)
                        · intro r W hc hf hs hd hB
                          have hBV := HBV.out W hB
                          have h : VIn W (rT [(deepT 127)]) (r (.tmp 165)) := hd 165 (by kernel_rfl)
                          obtain ⟨k165, n165, a165, l165, c165, e⟩ := VIn.agg h
                          rw [e] at h
                          exact st_value (v := .agg #[.int .u8 k165, .int .i64 n165, .slice a165 l165 c165, .int .i64 9]) rfl (by go_simp) (EIn.of h)
                        · intro r W hc hf hs hd hB
                          have hBV := HBV.out W hB
                          have e : r (.tmp 7) = .pointer (some ⟨wP.heap.size, 0, none⟩) := hs 7 (of_decide_eq_true (by kernel_rfl))
                          obtain ⟨kd, nd, ad, ld, cd, g0, g1, g2, hv⟩ := HVD.out
                          replace g0 := cell_stays hBV g0
                          replace g1 := cell_stays hBV g1
                          replace g2 := cell_stays hBV g2
                          exact st_value (v := .agg #[.int .u8 kd, .int .i64 nd, .slice ad ld cd]) rfl (by go_simp) (hv.below hBV)
                        · intro r W hc hf hs hd hB
                          have hBV := HBV.out W hB
                          exact st_value (v := .agg #[.int .u8 0, .int .i64 0, .slice none 0 0]) rfl (by go_simp) (VIn.leaf _ _)
                        · intro r W hc hf hs hd hB
                          have hBV := HBV.out W hB
                          have h167 : VIn W (deepT 127) (r (.tmp 167)) := hd 167 (by kernel_rfl)
                          obtain ⟨k167, n167, a167, l167, c167, e167⟩ := VIn.agg h167
                          rw [e167] at h167
                          have h168 : VIn W (VT.mk 0 0 []) (r (.tmp 168)) := hd 168 (by kernel_rfl)
                          obtain ⟨k168, n168, a168, l168, c168, e168⟩ := VIn.agg h168
                          rw [e168] at h168
                          exact st_new (v := .slice (some ⟨W.heap.size, 0, none⟩) 2 2) (w' := W.alloc (.cells #[.int .u8 k167, .int .i64 n167, .slice a167 l167 c167, .int .u8 k168, .int .i64 n168, .slice a168 l168 c168] 27)) rfl (by go_simp) (Below.al _) ⟨_, _, _, rfl, rfl, (vrow_cons (v0 := .int .u8 k167) (v1 := .int .i64 n167) (v2 := .slice a167 l167 c167) (by go_simp) (by go_simp) (by go_simp) (h167.below (Below.al _)) (vrow_cons (v0 := .int .u8 k168) (v1 := .int .i64 n168) (v2 := .slice a168 l168 c168) (by go_simp) (by go_simp) (by go_simp) (h168.below (Below.al _)) vrow_nil))⟩
                        · intro r W hc hf hs hd hB
                          have hBV := HBV.out W hB
                          obtain ⟨pa, pn, pc, e, hn, hr⟩ : PK.ok (.slice [(deepT 127), (VT.mk 0 0 [])]) (r (.tmp 169)) W := hd 169 (by kernel_rfl)
                          exact st_call (f := 14) (args := #[.slice pa pn pc]) rfl (by go_simp) (pair_made rfl hn (by simp) hr)
                        · intro r W hc hf hs hd hB
                          have hBV := HBV.out W hB
                          have h : VIn W (rT [(deepT 127), (VT.mk 0 0 [])]) (r (.tmp 170)) := hd 170 (by kernel_rfl)
                          obtain ⟨k170, n170, a170, l170, c170, e⟩ := VIn.agg h
                          rw [e] at h
                          exact st_value (v := .agg #[.int .u8 k170, .int .i64 n170, .slice a170 l170 c170, .int .i64 11]) rfl (by go_simp) (EIn.of h)
                        · intro r W hc hf hs hd hB
                          have hBV := HBV.out W hB
                          have e : r (.tmp 11) = .pointer (some ⟨wS.heap.size, 0, none⟩) := hs 11 (of_decide_eq_true (by kernel_rfl))
                          obtain ⟨kd, nd, ad, ld, cd, g0, g1, g2, hv⟩ := HVW.out
                          replace g0 := cell_stays hBV g0
                          replace g1 := cell_stays hBV g1
                          replace g2 := cell_stays hBV g2
                          exact st_value (v := .agg #[.int .u8 kd, .int .i64 nd, .slice ad ld cd]) rfl (by go_simp) (hv.below hBV)
                        · intro r W hc hf hs hd hB
                          have hBV := HBV.out W hB
                          have h : VIn W (rT (List.replicate 64 (rL (zs 62)))) (r (.tmp 172)) := hd 172 (by kernel_rfl)
                          obtain ⟨k172, n172, a172, l172, c172, e⟩ := VIn.agg h
                          rw [e] at h
                          exact st_value (v := .agg #[.int .u8 k172, .int .i64 n172, .slice a172 l172 c172, .int .i64 0]) rfl (by go_simp) (EIn.of h)
                        · intro r W hc hf hs hd hB
                          have hBV := HBV.out W hB
                          have e : r (.tmp 15) = .pointer (some ⟨wN2.heap.size, 0, none⟩) := hs 15 (of_decide_eq_true (by kernel_rfl))
                          obtain ⟨kd, nd, ad, ld, cd, g0, g1, g2, hv⟩ := HVJ.out
                          replace g0 := cell_stays hBV g0
                          replace g1 := cell_stays hBV g1
                          replace g2 := cell_stays hBV g2
                          exact st_value (v := .agg #[.int .u8 kd, .int .i64 nd, .slice ad ld cd]) rfl (by go_simp) (hv.below hBV)
                        · intro r W hc hf hs hd hB
                          have hBV := HBV.out W hB
                          have h : VIn W (rT justL) (r (.tmp 174)) := hd 174 (by kernel_rfl)
                          obtain ⟨k174, n174, a174, l174, c174, e⟩ := VIn.agg h
                          rw [e] at h
                          exact st_value (v := .agg #[.int .u8 k174, .int .i64 n174, .slice a174 l174 c174, .int .i64 0]) rfl (by go_simp) (EIn.of h)
                        · intro r W hc hf hs hd hB
                          have hBV := HBV.out W hB
                          have e : r (.tmp 14) = .pointer (some ⟨wP2.heap.size, 0, none⟩) := hs 14 (of_decide_eq_true (by kernel_rfl))
                          obtain ⟨kd, nd, ad, ld, cd, g0, g1, g2, hv⟩ := HVO.out
                          replace g0 := cell_stays hBV g0
                          replace g1 := cell_stays hBV g1
                          replace g2 := cell_stays hBV g2
                          exact st_value (v := .agg #[.int .u8 kd, .int .i64 nd, .slice ad ld cd]) rfl (by go_simp) (hv.below hBV)
                        · intro r W hc hf hs hd hB
                          have hBV := HBV.out W hB
                          have h : VIn W (rT (fullL 32)) (r (.tmp 176)) := hd 176 (by kernel_rfl)
                          obtain ⟨k176, n176, a176, l176, c176, e⟩ := VIn.agg h
                          rw [e] at h
                          exact st_value (v := .agg #[.int .u8 k176, .int .i64 n176, .slice a176 l176 c176, .int .i64 5]) rfl (by go_simp) (EIn.of h)
                        · intro r W hc hf hs hd hB
                          have hBV := HBV.out W hB
                          have e : r (.tmp 14) = .pointer (some ⟨wP2.heap.size, 0, none⟩) := hs 14 (of_decide_eq_true (by kernel_rfl))
                          obtain ⟨kd, nd, ad, ld, cd, g0, g1, g2, hv⟩ := HVO.out
                          replace g0 := cell_stays hBV g0
                          replace g1 := cell_stays hBV g1
                          replace g2 := cell_stays hBV g2
                          exact st_value (v := .agg #[.int .u8 kd, .int .i64 nd, .slice ad ld cd]) rfl (by go_simp) (hv.below hBV)
                        · intro r W hc hf hs hd hB
                          have hBV := HBV.out W hB
                          exact st_call (f := 13) (args := #[.int .i64 1099511627777]) rfl (by go_simp) (num_made 1099511627777 _)
                        · intro r W hc hf hs hd hB
                          have hBV := HBV.out W hB
                          have h178 : VIn W (rT (fullL 32)) (r (.tmp 178)) := hd 178 (by kernel_rfl)
                          obtain ⟨k178, n178, a178, l178, c178, e178⟩ := VIn.agg h178
                          rw [e178] at h178
                          have h179 : VIn W (rN 1099511627777) (r (.tmp 179)) := hd 179 (by kernel_rfl)
                          obtain ⟨k179, n179, a179, l179, c179, e179⟩ := VIn.agg h179
                          rw [e179] at h179
                          exact st_new (v := .slice (some ⟨W.heap.size, 0, none⟩) 2 2) (w' := W.alloc (.cells #[.int .u8 k178, .int .i64 n178, .slice a178 l178 c178, .int .u8 k179, .int .i64 n179, .slice a179 l179 c179] 27)) rfl (by go_simp) (Below.al _) ⟨_, _, _, rfl, rfl, (vrow_cons (v0 := .int .u8 k178) (v1 := .int .i64 n178) (v2 := .slice a178 l178 c178) (by go_simp) (by go_simp) (by go_simp) (h178.below (Below.al _)) (vrow_cons (v0 := .int .u8 k179) (v1 := .int .i64 n179) (v2 := .slice a179 l179 c179) (by go_simp) (by go_simp) (by go_simp) (h179.below (Below.al _)) vrow_nil))⟩
                        · intro r W hc hf hs hd hB
                          have hBV := HBV.out W hB
                          obtain ⟨pa, pn, pc, e, hn, hr⟩ : PK.ok (.slice [(rT (fullL 32)), (rN 1099511627777)]) (r (.tmp 180)) W := hd 180 (by kernel_rfl)
                          exact st_call (f := 14) (args := #[.slice pa pn pc]) rfl (by go_simp) (pair_made rfl hn (by simp) hr)
                        · intro r W hc hf hs hd hB
                          have hBV := HBV.out W hB
                          have h : VIn W (rT [(rT (fullL 32)), (rN 1099511627777)]) (r (.tmp 181)) := hd 181 (by kernel_rfl)
                          obtain ⟨k181, n181, a181, l181, c181, e⟩ := VIn.agg h
                          rw [e] at h
                          exact st_value (v := .agg #[.int .u8 k181, .int .i64 n181, .slice a181 l181 c181, .int .i64 1]) rfl (by go_simp) (EIn.of h)
                        · intro r W hc hf hs hd hB
                          have hBV := HBV.out W hB
                          exact st_value (v := .agg #[.int .u8 1, .int .i64 1099511627777, .slice none 0 0]) rfl (by go_simp) (VIn.leaf _ _)
                        · intro r W hc hf hs hd hB
                          have hBV := HBV.out W hB
                          exact st_value (v := .agg #[.int .u8 0, .int .i64 0, .slice none 0 0]) rfl (by go_simp) (VIn.leaf _ _)
                        · intro r W hc hf hs hd hB
                          have hBV := HBV.out W hB
                          have h183 : VIn W (rN 1099511627777) (r (.tmp 183)) := hd 183 (by kernel_rfl)
                          obtain ⟨k183, n183, a183, l183, c183, e183⟩ := VIn.agg h183
                          rw [e183] at h183
                          have h184 : VIn W (VT.mk 0 0 []) (r (.tmp 184)) := hd 184 (by kernel_rfl)
                          obtain ⟨k184, n184, a184, l184, c184, e184⟩ := VIn.agg h184
                          rw [e184] at h184
                          exact st_new (v := .slice (some ⟨W.heap.size, 0, none⟩) 2 2) (w' := W.alloc (.cells #[.int .u8 k183, .int .i64 n183, .slice a183 l183 c183, .int .u8 k184, .int .i64 n184, .slice a184 l184 c184] 27)) rfl (by go_simp) (Below.al _) ⟨_, _, _, rfl, rfl, (vrow_cons (v0 := .int .u8 k183) (v1 := .int .i64 n183) (v2 := .slice a183 l183 c183) (by go_simp) (by go_simp) (by go_simp) (h183.below (Below.al _)) (vrow_cons (v0 := .int .u8 k184) (v1 := .int .i64 n184) (v2 := .slice a184 l184 c184) (by go_simp) (by go_simp) (by go_simp) (h184.below (Below.al _)) vrow_nil))⟩
                        · intro r W hc hf hs hd hB
                          have hBV := HBV.out W hB
                          obtain ⟨pa, pn, pc, e, hn, hr⟩ : PK.ok (.slice [(rN 1099511627777), (VT.mk 0 0 [])]) (r (.tmp 185)) W := hd 185 (by kernel_rfl)
                          exact st_call (f := 14) (args := #[.slice pa pn pc]) rfl (by go_simp) (pair_made rfl hn (by simp) hr)
                        · intro r W hc hf hs hd hB
                          have hBV := HBV.out W hB
                          have h : VIn W (rT [(rN 1099511627777), (VT.mk 0 0 [])]) (r (.tmp 186)) := hd 186 (by kernel_rfl)
                          obtain ⟨k186, n186, a186, l186, c186, e⟩ := VIn.agg h
                          rw [e] at h
                          exact st_value (v := .agg #[.int .u8 k186, .int .i64 n186, .slice a186 l186 c186, .int .i64 1]) rfl (by go_simp) (EIn.of h)
                        · intro r W hc hf hs hd hB
                          have hBV := HBV.out W hB
                          obtain ⟨k140, n140, a140, l140, c140, e140, h140⟩ : EIn W (VT.mk 0 0 []) 11 (r (.tmp 140)) := hd 140 (by kernel_rfl)
                          obtain ⟨k142, n142, a142, l142, c142, e142, h142⟩ : EIn W (rN 1099511627776) 0 (r (.tmp 142)) := hd 142 (by kernel_rfl)
                          obtain ⟨k144, n144, a144, l144, c144, e144, h144⟩ : EIn W (rN 1099511627777) 1 (r (.tmp 144)) := hd 144 (by kernel_rfl)
                          obtain ⟨k146, n146, a146, l146, c146, e146, h146⟩ : EIn W (rN (-1099511627777)) 1 (r (.tmp 146)) := hd 146 (by kernel_rfl)
                          obtain ⟨k148, n148, a148, l148, c148, e148, h148⟩ : EIn W (VT.mk 2 (-1) []) 1 (r (.tmp 148)) := hd 148 (by kernel_rfl)
                          obtain ⟨k150, n150, a150, l150, c150, e150, h150⟩ : EIn W (VT.mk 3 1 []) 3 (r (.tmp 150)) := hd 150 (by kernel_rfl)
                          obtain ⟨k153, n153, a153, l153, c153, e153, h153⟩ : EIn W (VT.mk 2 0 rowT) 3 (r (.tmp 153)) := hd 153 (by kernel_rfl)
                          obtain ⟨k156, n156, a156, l156, c156, e156, h156⟩ : EIn W (rT (zs 65)) 5 (r (.tmp 156)) := hd 156 (by kernel_rfl)
                          obtain ⟨k160, n160, a160, l160, c160, e160, h160⟩ : EIn W (rT (zs 64)) 0 (r (.tmp 160)) := hd 160 (by kernel_rfl)
                          obtain ⟨k162, n162, a162, l162, c162, e162, h162⟩ : EIn W (deepT 127) 0 (r (.tmp 162)) := hd 162 (by kernel_rfl)
                          obtain ⟨k166, n166, a166, l166, c166, e166, h166⟩ : EIn W (rT [(deepT 127)]) 9 (r (.tmp 166)) := hd 166 (by kernel_rfl)
                          obtain ⟨k171, n171, a171, l171, c171, e171, h171⟩ : EIn W (rT [(deepT 127), (VT.mk 0 0 [])]) 11 (r (.tmp 171)) := hd 171 (by kernel_rfl)
                          obtain ⟨k173, n173, a173, l173, c173, e173, h173⟩ : EIn W (rT (List.replicate 64 (rL (zs 62)))) 0 (r (.tmp 173)) := hd 173 (by kernel_rfl)
                          obtain ⟨k175, n175, a175, l175, c175, e175, h175⟩ : EIn W (rT justL) 0 (r (.tmp 175)) := hd 175 (by kernel_rfl)
                          obtain ⟨k177, n177, a177, l177, c177, e177, h177⟩ : EIn W (rT (fullL 32)) 5 (r (.tmp 177)) := hd 177 (by kernel_rfl)
                          obtain ⟨k182, n182, a182, l182, c182, e182, h182⟩ : EIn W (rT [(rT (fullL 32)), (rN 1099511627777)]) 1 (r (.tmp 182)) := hd 182 (by kernel_rfl)
                          obtain ⟨k187, n187, a187, l187, c187, e187, h187⟩ : EIn W (rT [(rN 1099511627777), (VT.mk 0 0 [])]) 1 (r (.tmp 187)) := hd 187 (by kernel_rfl)
                          refine st_new (v := .slice (some ⟨W.heap.size, 0, none⟩) 17 17) (w' := W.alloc (.cells #[.int .u8 k140, .int .i64 n140, .slice a140 l140 c140, .int .i64 11, .int .u8 k142, .int .i64 n142, .slice a142 l142 c142, .int .i64 0, .int .u8 k144, .int .i64 n144, .slice a144 l144 c144, .int .i64 1, .int .u8 k146, .int .i64 n146, .slice a146 l146 c146, .int .i64 1, .int .u8 k148, .int .i64 n148, .slice a148 l148 c148, .int .i64 1, .int .u8 k150, .int .i64 n150, .slice a150 l150 c150, .int .i64 3, .int .u8 k153, .int .i64 n153, .slice a153 l153 c153, .int .i64 3, .int .u8 k156, .int .i64 n156, .slice a156 l156 c156, .int .i64 5, .int .u8 k160, .int .i64 n160, .slice a160 l160 c160, .int .i64 0, .int .u8 k162, .int .i64 n162, .slice a162 l162 c162, .int .i64 0, .int .u8 k166, .int .i64 n166, .slice a166 l166 c166, .int .i64 9, .int .u8 k171, .int .i64 n171, .slice a171 l171 c171, .int .i64 11, .int .u8 k173, .int .i64 n173, .slice a173 l173 c173, .int .i64 0, .int .u8 k175, .int .i64 n175, .slice a175 l175 c175, .int .i64 0, .int .u8 k177, .int .i64 n177, .slice a177 l177 c177, .int .i64 5, .int .u8 k182, .int .i64 n182, .slice a182 l182 c182, .int .i64 1, .int .u8 k187, .int .i64 n187, .slice a187 l187 c187, .int .i64 1] 32)) rfl (by go_simp) (Below.al _) ⟨_, rfl, fun i hi => ?_⟩
                          have hi : i < 17 := hi
                          rcases (by omega : i = 0 ∨ i = 1 ∨ i = 2 ∨ i = 3 ∨ i = 4 ∨ i = 5 ∨ i = 6 ∨ i = 7 ∨ i = 8 ∨ i = 9 ∨ i = 10 ∨ i = 11 ∨ i = 12 ∨ i = 13 ∨ i = 14 ∨ i = 15 ∨ i = 16) with rfl | rfl | rfl | rfl | rfl | rfl | rfl | rfl | rfl | rfl | rfl | rfl | rfl | rfl | rfl | rfl | rfl
                          · exact ⟨.int .u8 k140, .int .i64 n140, .slice a140 l140 c140, by go_simp, by go_simp, by go_simp, by (go_simp <;> rfl), h140.below (Below.al _)⟩
                          · exact ⟨.int .u8 k142, .int .i64 n142, .slice a142 l142 c142, by go_simp, by go_simp, by go_simp, by (go_simp <;> rfl), h142.below (Below.al _)⟩
                          · exact ⟨.int .u8 k144, .int .i64 n144, .slice a144 l144 c144, by go_simp, by go_simp, by go_simp, by (go_simp <;> rfl), h144.below (Below.al _)⟩
                          · exact ⟨.int .u8 k146, .int .i64 n146, .slice a146 l146 c146, by go_simp, by go_simp, by go_simp, by (go_simp <;> rfl), h146.below (Below.al _)⟩
                          · exact ⟨.int .u8 k148, .int .i64 n148, .slice a148 l148 c148, by go_simp, by go_simp, by go_simp, by (go_simp <;> rfl), h148.below (Below.al _)⟩
                          · exact ⟨.int .u8 k150, .int .i64 n150, .slice a150 l150 c150, by go_simp, by go_simp, by go_simp, by (go_simp <;> rfl), h150.below (Below.al _)⟩
                          · exact ⟨.int .u8 k153, .int .i64 n153, .slice a153 l153 c153, by go_simp, by go_simp, by go_simp, by (go_simp <;> rfl), h153.below (Below.al _)⟩
                          · exact ⟨.int .u8 k156, .int .i64 n156, .slice a156 l156 c156, by go_simp, by go_simp, by go_simp, by (go_simp <;> rfl), h156.below (Below.al _)⟩
                          · exact ⟨.int .u8 k160, .int .i64 n160, .slice a160 l160 c160, by go_simp, by go_simp, by go_simp, by (go_simp <;> rfl), h160.below (Below.al _)⟩
                          · exact ⟨.int .u8 k162, .int .i64 n162, .slice a162 l162 c162, by go_simp, by go_simp, by go_simp, by (go_simp <;> rfl), h162.below (Below.al _)⟩
                          · exact ⟨.int .u8 k166, .int .i64 n166, .slice a166 l166 c166, by go_simp, by go_simp, by go_simp, by (go_simp <;> rfl), h166.below (Below.al _)⟩
                          · exact ⟨.int .u8 k171, .int .i64 n171, .slice a171 l171 c171, by go_simp, by go_simp, by go_simp, by (go_simp <;> rfl), h171.below (Below.al _)⟩
                          · exact ⟨.int .u8 k173, .int .i64 n173, .slice a173 l173 c173, by go_simp, by go_simp, by go_simp, by (go_simp <;> rfl), h173.below (Below.al _)⟩
                          · exact ⟨.int .u8 k175, .int .i64 n175, .slice a175 l175 c175, by go_simp, by go_simp, by go_simp, by (go_simp <;> rfl), h175.below (Below.al _)⟩
                          · exact ⟨.int .u8 k177, .int .i64 n177, .slice a177 l177 c177, by go_simp, by go_simp, by go_simp, by (go_simp <;> rfl), h177.below (Below.al _)⟩
                          · exact ⟨.int .u8 k182, .int .i64 n182, .slice a182 l182 c182, by go_simp, by go_simp, by go_simp, by (go_simp <;> rfl), h182.below (Below.al _)⟩
                          · exact ⟨.int .u8 k187, .int .i64 n187, .slice a187 l187 c187, by go_simp, by go_simp, by go_simp, by (go_simp <;> rfl), h187.below (Below.al _)⟩
                        · intro r W hc hf hs hd hB
                          have hBV := HBV.out W hB
                          obtain ⟨tb, e, -⟩ : PK.ok (.table tabL) (r (.tmp 188)) W := hd 188 (by kernel_rfl)
                          replace e : r (.tmp 188) = .slice (some ⟨tb, 0, none⟩) 17 17 := e
                          exact st_value (v := .int .i64 17) rfl (by go_simp) rfl
                        · intro r W hc hf hs hd hB
                          have hBV := HBV.out W hB
                          exact st_value (v := .int .i64 0) rfl (by go_simp) rfl
                      · intro f w' hfd hB'
                        obtain ⟨tb, ht0, htr⟩ : PK.ok (.table tabL) (f 188) w' := hfd 188 (of_decide_eq_true (by kernel_rfl))
                        replace ht0 : f 188 = .slice (some ⟨tb, 0, none⟩) 17 17 := ht0
                        have ht1 : f 189 = .int .i64 17 := hfd 189 (of_decide_eq_true (by kernel_rfl))
                        have ht2 : f 190 = .int .i64 0 := hfd 190 (of_decide_eq_true (by kernel_rfl))
                        clear hfd
                        have hVw := HBV.out w' hB'
                        have HTR := Lib.hid htr
                        clear htr HZS HRW
                        rw [show dstsOf _ = [139, 140, 141, 142, 143, 144, 145, 146, 147, 148, 149, 150, 151, 152, 153, 154, 155, 156, 157, 158, 159, 160, 161, 162, 163, 164, 165, 166, 167, 168, 169, 170, 171, 172, 173, 174, 175, 176, 177, 178, 179, 180, 181, 182, 183, 184, 185, 186, 187, 188, 189, 190] from by kernel_rfl]
                        simp only [fill, List.setIfInBounds_toArray, List.set_cons_succ, List.set_cons_zero, ht0, ht1, ht2]
                        clear ht0 ht1 ht2
                        go_wp2_with fail
                        go_loopw [190] (fun x wr => ∃ i : Nat, x = .int .i64 i ∧ i ≤ 17 ∧ Below w'.heap.size w' wr) (fun x _ => 17 - (intOf x).toNat)
                        case atStart => exact ⟨0, rfl, by omega, Below.refl _ _⟩
                        case round =>
                          obtain ⟨q, rfl, hq, hQ⟩ := hrel
                          rename World => wR
                          by_cases hqt : q < 17
                          · have hbq : (q : Int) < 17 := by omega
                            have htl : tabL.length = 17 := rfl
                            obtain ⟨v0, v1, v2, y0, y1, y2, y3, hv⟩ := HTR.out q (by omega)
                            have hck := tab_chk q (by omega)
                            obtain ⟨t, ht⟩ : ∃ t, t = (tabL[q]'(by omega)).1 := ⟨_, rfl⟩
                            obtain ⟨ee, hee⟩ : ∃ ee, ee = (tabL[q]'(by omega)).2 := ⟨_, rfl⟩
                            rw [← ht, ← hee] at hck
                            rw [← hee] at y3
                            rw [← ht] at hv
                            obtain ⟨tk, tn, ta, tl, tc, hagg⟩ := hv.agg
                            simp only [Value.agg.injEq, Array.mk.injEq, List.cons.injEq, and_true] at hagg
                            obtain ⟨rfl, rfl, rfl⟩ := hagg
                            replace y0 := cell_stays hQ y0
                            replace y1 := cell_stays hQ y1
                            replace y2 := cell_stays hQ y2
                            replace y3 := cell_stays hQ y3
                            clear ht hee htl
                            obtain ⟨w4, hw4, m4, g0, g1, g2, g3⟩ := box4 wR (.int .u8 tk) (.int .i64 tn) (.slice ta tl tc) (.int .i64 ee) 32
                            have hv4 := (hv.below hQ).below m4
                            have HW4 := Lib.hid hw4; clear hw4
                            go_upto_region 41 with fail
                            rw [HW4.out]
                            have Q1 := Lib.hid (regrown (w := w4) fun W hW => by have := check_any t _ W (by have := hck.2; omega) (hv4.below hW); rwa [hck.1] at this)
                            have Q2 := Lib.hid (regrown (w := w4) fun W hW => by have := may_any t _ W (by have := hck.2; omega) (hv4.below hW); rwa [show t.may = (ee == 0) by unfold VT.may; rw [hck.1]] at this)
                            have z1 : (ee != ee) = false := by simp
                            have z2 : ((ee == 0) != (ee == 0)) = false := by simp
                            have cg0 := cell_regrown g0
                            have cg1 := cell_regrown g1
                            have cg2 := cell_regrown g2
                            have cg3 := cell_regrown g3
                            clear hck hv hv4 y0 y1 y2 y3 HW4
                            go_wp2_with fail
                            refine wp_region_quiet_below (by kernel_rfl) (by kernel_rfl) ?_
                            repeat (go_big_quiet_step (first | with_reducible exact Q1.out _ _ | with_reducible exact Q2.out _ _))
                            refine wpQuiet_nil ?_
                            intro _ hw'
                            obtain ⟨⟨dq, osq⟩, hw''⟩ := hw'
                            subst hw''
                            go_wp2_with fail
                            go_roundw
                            case rel => exact ⟨q + 1, by go_num, by omega, hQ.trans ((m4.trans ((below_regrown w4 dq osq).mono m4.size)).mono hQ.size)⟩
                            case measure => simp [intOf]; omega
                          · have hbq : ¬ (q : Int) < 17 := by omega
                            have hVR := hVw.trans (hQ.mono hVw.size)
                            obtain ⟨dk, dn, da, dl, dc, d0, d1, d2, dv⟩ := HVD.out
                            obtain ⟨mk, mn, ma, ml, mc, m0, m1, m2, mv⟩ := HVW.out
                            obtain ⟨ok, on, oa, ol, oc, o0, o1, o2, ov⟩ := HVO.out
                            obtain ⟨jk, jn, ja, jl, jc, j0, j1, j2, jv⟩ := HVJ.out
                            have hE := hBV3.trans (hVR.mono hBV3.size)
                            replace d0 := cell_stays hVR d0
                            replace d1 := cell_stays hVR d1
                            replace d2 := cell_stays hVR d2
                            replace m0 := cell_stays hVR m0
                            replace m1 := cell_stays hVR m1
                            replace m2 := cell_stays hVR m2
                            replace o0 := cell_stays hVR o0
                            replace o1 := cell_stays hVR o1
                            replace o2 := cell_stays hVR o2
                            replace j0 := cell_stays hVR j0
                            replace j1 := cell_stays hVR j1
                            replace j2 := cell_stays hVR j2
                            replace dv := dv.below hVR
                            replace mv := mv.below hVR
                            replace ov := ov.below hVR
                            replace jv := jv.below hVR
                            clear HVD HVW HVO HVJ hVR hQ HBV hVw HTR
                            go_wp2_with fail
                            refine (size_any _ _ _ (by decide +kernel) ov).mono ?_
                            rintro e wn ⟨rfl, hbn⟩
                            rw [over_size]
                            replace d0 := cell_stays hbn d0
                            replace d1 := cell_stays hbn d1
                            replace d2 := cell_stays hbn d2
                            replace m0 := cell_stays hbn m0
                            replace m1 := cell_stays hbn m1
                            replace m2 := cell_stays hbn m2
                            replace o0 := cell_stays hbn o0
                            replace o1 := cell_stays hbn o1
                            replace o2 := cell_stays hbn o2
                            replace j0 := cell_stays hbn j0
                            replace j1 := cell_stays hbn j1
                            replace j2 := cell_stays hbn j2
                            replace dv := dv.below hbn
                            replace mv := mv.below hbn
                            replace ov := ov.below hbn
                            replace jv := jv.below hbn
                            replace hE := hE.trans (hbn.mono hE.size)
                            clear hbn
                            go_wp2_with fail
                            refine (size_any _ _ _ (by decide +kernel) jv).mono ?_
                            rintro e wn ⟨rfl, hbn⟩
                            rw [just_size]
                            replace d0 := cell_stays hbn d0
                            replace d1 := cell_stays hbn d1
                            replace d2 := cell_stays hbn d2
                            replace m0 := cell_stays hbn m0
                            replace m1 := cell_stays hbn m1
                            replace m2 := cell_stays hbn m2
                            replace o0 := cell_stays hbn o0
                            replace o1 := cell_stays hbn o1
                            replace o2 := cell_stays hbn o2
                            replace j0 := cell_stays hbn j0
                            replace j1 := cell_stays hbn j1
                            replace j2 := cell_stays hbn j2
                            replace dv := dv.below hbn
                            replace mv := mv.below hbn
                            replace ov := ov.below hbn
                            replace jv := jv.below hbn
                            replace hE := hE.trans (hbn.mono hE.size)
                            clear hbn
                            go_wp2_with fail
                            refine (size_any _ _ _ (by decide +kernel) mv).mono ?_
                            rintro e wn ⟨rfl, hbn⟩
                            rw [most_size]
                            replace d0 := cell_stays hbn d0
                            replace d1 := cell_stays hbn d1
                            replace d2 := cell_stays hbn d2
                            replace m0 := cell_stays hbn m0
                            replace m1 := cell_stays hbn m1
                            replace m2 := cell_stays hbn m2
                            replace o0 := cell_stays hbn o0
                            replace o1 := cell_stays hbn o1
                            replace o2 := cell_stays hbn o2
                            replace j0 := cell_stays hbn j0
                            replace j1 := cell_stays hbn j1
                            replace j2 := cell_stays hbn j2
                            replace dv := dv.below hbn
                            replace mv := mv.below hbn
                            replace ov := ov.below hbn
                            replace jv := jv.below hbn
                            replace hE := hE.trans (hbn.mono hE.size)
                            clear hbn
                            go_wp2_with fail
                            refine (deep_any _ _ _ (by decide +kernel) dv).mono ?_
                            rintro e wn ⟨rfl, hbn⟩
                            rw [deep_deep]
                            replace d0 := cell_stays hbn d0
                            replace d1 := cell_stays hbn d1
                            replace d2 := cell_stays hbn d2
                            replace m0 := cell_stays hbn m0
                            replace m1 := cell_stays hbn m1
                            replace m2 := cell_stays hbn m2
                            replace o0 := cell_stays hbn o0
                            replace o1 := cell_stays hbn o1
                            replace o2 := cell_stays hbn o2
                            replace j0 := cell_stays hbn j0
                            replace j1 := cell_stays hbn j1
                            replace j2 := cell_stays hbn j2
                            replace dv := dv.below hbn
                            replace mv := mv.below hbn
                            replace ov := ov.below hbn
                            replace jv := jv.below hbn
                            replace hE := hE.trans (hbn.mono hE.size)
                            clear hbn
                            go_wp2_with fail
                            refine (cmp_any 100 (.mk 0 0 []) (.mk 0 7 []) _ _ _ (by decide) (VIn.leaf 0 0) (VIn.leaf 0 7)).mono ?_
                            rintro e wn ⟨rfl, hbn⟩
                            rw [show VT.cmp (.mk 0 0 []) (.mk 0 7 []) = 0 from by decide]
                            replace d0 := cell_stays hbn d0
                            replace d1 := cell_stays hbn d1
                            replace d2 := cell_stays hbn d2
                            replace m0 := cell_stays hbn m0
                            replace m1 := cell_stays hbn m1
                            replace m2 := cell_stays hbn m2
                            replace o0 := cell_stays hbn o0
                            replace o1 := cell_stays hbn o1
                            replace o2 := cell_stays hbn o2
                            replace j0 := cell_stays hbn j0
                            replace j1 := cell_stays hbn j1
                            replace j2 := cell_stays hbn j2
                            replace dv := dv.below hbn
                            replace mv := mv.below hbn
                            replace ov := ov.below hbn
                            replace jv := jv.below hbn
                            replace hE := hE.trans (hbn.mono hE.size)
                            clear hbn
                            go_wp2_with fail
                            refine (same_any 100 (.mk 0 0 []) (.mk 0 7 []) _ _ _ (by decide) (VIn.leaf 0 0) (VIn.leaf 0 7)).mono ?_
                            rintro e wn ⟨rfl, hbn⟩
                            rw [show VT.same (.mk 0 0 []) (.mk 0 7 []) = false from by decide]
                            replace d0 := cell_stays hbn d0
                            replace d1 := cell_stays hbn d1
                            replace d2 := cell_stays hbn d2
                            replace m0 := cell_stays hbn m0
                            replace m1 := cell_stays hbn m1
                            replace m2 := cell_stays hbn m2
                            replace o0 := cell_stays hbn o0
                            replace o1 := cell_stays hbn o1
                            replace o2 := cell_stays hbn o2
                            replace j0 := cell_stays hbn j0
                            replace j1 := cell_stays hbn j1
                            replace j2 := cell_stays hbn j2
                            replace dv := dv.below hbn
                            replace mv := mv.below hbn
                            replace ov := ov.below hbn
                            replace jv := jv.below hbn
                            replace hE := hE.trans (hbn.mono hE.size)
                            clear hbn
                            go_wp2_with fail
                            refine (llist_any none 0 0 _).mono ?_
                            rintro e wn ⟨rfl, hbn⟩
                            replace d0 := cell_stays hbn d0
                            replace d1 := cell_stays hbn d1
                            replace d2 := cell_stays hbn d2
                            replace m0 := cell_stays hbn m0
                            replace m1 := cell_stays hbn m1
                            replace m2 := cell_stays hbn m2
                            replace o0 := cell_stays hbn o0
                            replace o1 := cell_stays hbn o1
                            replace o2 := cell_stays hbn o2
                            replace j0 := cell_stays hbn j0
                            replace j1 := cell_stays hbn j1
                            replace j2 := cell_stays hbn j2
                            replace dv := dv.below hbn
                            replace mv := mv.below hbn
                            replace ov := ov.below hbn
                            replace jv := jv.below hbn
                            replace hE := hE.trans (hbn.mono hE.size)
                            clear hbn
                            go_wp2_with fail
                            refine (cmp_any 100 (.mk 9 0 []) (.mk 4 0 []) _ _ _ (by decide) (VIn.leaf 9 0) (VIn.leaf 4 0)).mono ?_
                            rintro e wn ⟨rfl, hbn⟩
                            rw [show VT.cmp (.mk 9 0 []) (.mk 4 0 []) = 1 from by decide]
                            replace d0 := cell_stays hbn d0
                            replace d1 := cell_stays hbn d1
                            replace d2 := cell_stays hbn d2
                            replace m0 := cell_stays hbn m0
                            replace m1 := cell_stays hbn m1
                            replace m2 := cell_stays hbn m2
                            replace o0 := cell_stays hbn o0
                            replace o1 := cell_stays hbn o1
                            replace o2 := cell_stays hbn o2
                            replace j0 := cell_stays hbn j0
                            replace j1 := cell_stays hbn j1
                            replace j2 := cell_stays hbn j2
                            replace dv := dv.below hbn
                            replace mv := mv.below hbn
                            replace ov := ov.below hbn
                            replace jv := jv.below hbn
                            replace hE := hE.trans (hbn.mono hE.size)
                            clear hbn
                            go_wp2_with fail
                            go_ret
                            exact ⟨rfl, hE⟩
end Go.Proofs.Ytcfpgnobhmldbaa
