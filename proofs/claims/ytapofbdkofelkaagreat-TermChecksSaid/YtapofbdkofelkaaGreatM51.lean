/- Texts of this claim laid into one: TGrowS. -/
import Derived.Test.YtapofbdkofelkaaGreatM42
/- A row of terms that append builds, whatever some blocks hold. -/
namespace Go.Proofs.YtapofbdkofelkaaGreat
open Go.RowKit

def OwnS (S : Nat → Prop) (a : Option Addr) (k : Nat) : Prop := S k ∨ a = some ⟨k, 0, none⟩
/-- the row's terms read so whatever the blocks of S, and the row's own, hold. -/
structure GRow (S : Nat → Prop) (B0 : Nat) (w : World) (L : List (TT × TA)) (a : Option Addr) (cap : Nat) : Prop where
  grown : Grown w B0 31 15 L.length (cellsL L) a cap
  elems : ∀ p ∈ L, TOkA (OwnS S a) w p.1 p.2
  blk : ∀ b, a = some ⟨b, 0, none⟩ → b < w.heap.size
  new : ∀ b, a = some ⟨b, 0, none⟩ → B0 ≤ b
theorem GRow.nil (S : Nat → Prop) (B0 : Nat) (w : World) : GRow S B0 w [] none 0 := ⟨Grown.nil _ _ _ _, (fun _ h => by cases h), (fun _ h => by cases h), (fun _ h => by cases h)⟩
theorem GRow.below {S : Nat → Prop} {B0 : Nat} {w w' : World} {L : List (TT × TA)} {a : Option Addr} {cap : Nat} (h : GRow S B0 w L a cap) (hb : Below w.heap.size w w') : GRow S B0 w' L a cap :=
  ⟨h.grown.below hb, fun p hp => (h.elems p hp).below hb, fun b e => Nat.lt_of_lt_of_le (h.blk b e) hb.size, h.new⟩
theorem GRow.append {S : Nat → Prop} {B0 B : Nat} {w : World} {L : List (TT × TA)} {a : Option Addr} {cap : Nat} {t : TT} {A : TA} (h : GRow S B0 w L a cap) (hB : B0 ≤ w.heap.size) (hc : TCells w B 0 t A) (ht : TOkA (OwnS S a) w t A) (hL : L.length < 651562446070) :
    ∃ a' cap' w', (Builtin.append_ #[29, 29] 29 #[.slice a L.length cap, .slice (some ⟨B, 0, none⟩) 1 1]).run Tryz.prog w = .ok (.slice a' (L.length + 1) cap') w' ∧ GRow S B0 w' (L ++ [(t, A)]) a' cap' ∧ Below B0 w w' ∧ OnlyRow w w' a a' := by
  obtain ⟨i0, hi0, hz0, hz1, hz2⟩ := info_parts zeroT
  obtain ⟨a', cap', w', hap, hg', hb', hk'⟩ := grown_append (P := Tryz.prog) (ty := 29) hB h.grown Tryz.underlying29 hi0 hz0 hz1 rfl hz2
    (Src.ofSlice w Tryz.underlying29 ⟨B, 0, none⟩ 1 1 (cellsOf t A).toList (by simp [cellsOf]) (fun j u hu => by rw [Addr.add_lit]; have := hc.range j u hu; simpa using this) (fun u hu => by
      obtain ⟨j, hj, rfl⟩ := List.getElem_of_mem hu
      have hj' : j < 15 := by simpa [cellsOf] using hj
      have h1 := hc.range j _ (List.getElem?_eq_getElem hj)
      obtain ⟨u', hu', ho⟩ := hc.one j hj'
      rw [h1] at hu'
      cases hu'; exact ho)) (by omega) (by omega)
  have hnew : Grown w' B0 31 15 (L ++ [(t, A)]).length (cellsL (L ++ [(t, A)])) a' cap' := by rw [cellsL_append, List.length_append]; exact hg'
  have hstep : ∀ (s : TT) (X : TA), TOkA (OwnS S a) w s X → TOkA (OwnS S a') w' s X := fun s X hs => hs.step hb'.size fun k h1 h2 => by
    have hn : ∀ b', a = some ⟨b', 0, none⟩ → k ≠ b' := fun b' e hkb => h2 (.inr (by rw [hkb]; exact e))
    obtain ⟨e1, e2⟩ := hk' k h1 hn
    refine ⟨fun ho => ?_, e1⟩
    rcases ho with ho | ho
    · exact h2 (.inl ho)
    · exact e2 k ho rfl
  refine ⟨a', cap', w', hap, ⟨hnew, fun p hp => ?_, fun b e => ?_, fun b e => ?_⟩, hb', hk'⟩
  · rcases List.mem_append.1 hp with hp | hp
    · exact hstep _ _ (h.elems p hp)
    · simp only [List.mem_singleton] at hp; subst hp; exact hstep _ _ ht
  · obtain ⟨b', e', _, hr, _⟩ := hnew.cells (by rw [cellsL_length]; simp)
    rw [e] at e'; cases e'
    exact hr.lt
  · obtain ⟨b', e', hB', _, _⟩ := hnew.cells (by rw [cellsL_length]; simp)
    rw [e] at e'; cases e'
    exact hB'
/-- another block of S is written. -/
theorem GRow.other {S : Nat → Prop} {B0 bo : Nat} {w w' : World} {L : List (TT × TA)} {a : Option Addr} {cap : Nat} (h : GRow S B0 w L a cap) (hS : S bo) (hne : bo < B0) (hk : ∀ k, k ≠ bo → w'.heap[k]? = w.heap[k]?) (hs : w'.heap.size = w.heap.size) : GRow S B0 w' L a cap := by
  refine ⟨⟨h.grown.size, h.grown.le, h.grown.row.imp id fun ⟨b, ha, hB, hr, hc⟩ => ⟨b, ha, hB, row_block (hk b (by omega)) hr, fun j v hv => cell_block (hk b (by omega)) (hc j v hv)⟩⟩, fun p hp => (h.elems p hp).step (Nat.le_of_eq hs.symm) fun k _ h2 => ⟨h2, hk k fun e => h2 (.inl (by rw [e]; exact hS))⟩, fun b e => by rw [hs]; exact h.blk b e, h.new⟩
theorem GRow.trow {S S' : Nat → Prop} {B0 : Nat} {w : World} {L : List (TT × TA)} {a : Option Addr} {cap : Nat} (h : GRow S' B0 w L a cap) (hS : ∀ k, S k → S' k) (hB : ∀ k, S k → k < B0) : ∀ W, AgreeS S w W → TRow W (L.map (·.1)) a := fun W hW => by
  by_cases h0 : L.length = 0
  · have : L = [] := List.length_eq_zero_iff.1 h0
    subst this; exact trow_nil
  · obtain ⟨b, e, hb, hr, hc⟩ := h.grown.cells (by rw [cellsL_length]; omega)
    rw [e]
    refine TRow.of b _ 0 fun i hi => ?_
    have hi' : i < L.length := by simpa using hi
    rw [List.getElem_map, Nat.zero_add]
    have hnb : ¬ S b := fun hs => by have := hB b hs; omega
    have hg : ∀ q v, q < 15 → ((cellsOf L[i].1 L[i].2).toList)[q]? = some v → W.cell? ⟨b, i * 15 + q, none⟩ = some v := fun q v hq hv => hW.cell hnb (hc _ v (by rw [cellsL_get L i q hi' hq]; exact hv))
    refine ⟨L[i].2, ⟨hg 0 _ (by decide) rfl, hg 1 _ (by decide) rfl, hg 2 _ (by decide) rfl, hg 3 _ (by decide) rfl, hg 4 _ (by decide) rfl, hg 5 _ (by decide) rfl, hg 6 _ (by decide) rfl, hg 7 _ (by decide) rfl, hg 8 _ (by decide) rfl, hg 9 _ (by decide) rfl, hg 10 _ (by decide) rfl, hg 11 _ (by decide) rfl, hg 12 _ (by decide) rfl, hg 13 _ (by decide) rfl, hg 14 _ (by decide) rfl⟩, ?_⟩
    exact h.elems _ (List.getElem_mem hi') W ⟨hW.1, fun k h1 h2 => hW.2 k h1 fun hs => h2 (.inl (hS k hs))⟩
theorem wp_append_run {P : Program} {o : Oper} {a : Act} {w w' : World} {K : Act → World → Prop} {Q : Exit → Act → World → Prop} {s x : Operand} {t : TypeId} {sv xv v : Value} (hop : o.op = Op.call { callee := Callee.builtin Builtin.append, args := #[s, x], argTypes := #[t, t] }) (hs : a.eval s = sv) (hx : a.eval x = xv)
    (hrun : (Builtin.append_ #[t, t] o.type #[sv, xv]).run P w = .ok v w') (hK : K (a.put o.dst v) w') : o.wp P a w K Q := by
  unfold Oper.wp
  simp [execOp, hop, resolve, invoke, builtin, hs, hx, hrun, Result.andThen]
  exact hK
end Go.Proofs.YtapofbdkofelkaaGreat
