/- Texts of this claim laid into one: VAnyS. -/
import Derived.Test.YteebbffecaeciaaM32
/- As VAnyW, of a region that runs its operations in their row. -/
namespace Go.Proofs.Yteebbffecaeciaa
open Go.RowKit
/-- the first i operations have run. -/
structure SeqG (ops : Array Oper) (Ph : Nat → Value → World → Prop) (a0 : Act) (w0 : World) (i : Nat) (a : Act) (w : World) : Prop where
  size : a.tmps.size = a0.tmps.size
  defers : a.defers = a0.defers
  below : Below w0.heap.size w0 w
  same : ∀ k, (∀ j o, j < i → ops[j]? = some o → o.dst ≠ some k) → a.tmps[k]? = a0.tmps[k]?
  has : ∀ j o d, j < i → ops[j]? = some o → o.dst = some d → Ph d (a.eval (.tmp d)) w
theorem reach_back {m n : Nat} {ops : Array Oper} (hp : partR m n ops = true) (hm : m = ops.size) : ∀ (f i j : Nat), reachB ops f i j = true → j ≤ i
  | 0, i, j, h => by
    unfold reachB at h
    exact Nat.le_of_eq (eq_of_beq h).symm
  | f + 1, i, j, h => by
    unfold reachB at h
    rw [Bool.or_eq_true] at h
    rcases h with h | h
    · exact Nat.le_of_eq (eq_of_beq h).symm
    · cases ho : ops[i]? with
      | none => rw [ho] at h; simp at h
      | some o =>
        rw [ho] at h
        simp only [Array.any_eq_true] at h
        obtain ⟨k, hk, hb⟩ := h
        rw [Bool.and_eq_true] at hb
        have hi : i < ops.size := (Array.getElem?_eq_some_iff.1 ho).1
        have h1 := (partR_op hp (by omega) ho).1 o.after[k] (Array.getElem_mem hk) hb.1
        have h2 := reach_back hp hm f o.after[k].on j hb.2
        omega
section
variable {P : Program} {l : List Oper} {Q : Exit → Act → World → Prop} {n : Nat} {Ph : Nat → Value → World → Prop} {a0 : Act} {w0 : World}
theorem seqW_any (hp : partR l.length n l.toArray = true) (hn : n = a0.tmps.size) (hmono : ∀ d v w w', Ph d v w → Below w.heap.size w w' → Ph d v w') (hstep : ∀ i o, i < l.length → l.toArray[i]? = some o → StepW [] P l.length l.toArray Ph a0 w0 i o)
    (hend : ∀ (f : Nat → Value) (w : World), (∀ d ∈ dstsTo l.length l.toArray, Ph d (f d) w) → Below w0.heap.size w0 w → Q .normal ⟨fill a0.tmps f (dstsTo l.length l.toArray), a0.defers⟩ w) :
    ∀ (k i : Nat) (a : Act) (w : World), i + k = l.length → SeqG l.toArray Ph a0 w0 i a w → wpList P l.toArray Q (l.drop i) a w := by
  intro k
  induction k with
  | zero =>
    intro i a w he H
    have hi : i = l.length := by omega
    subst hi
    rw [List.drop_length]
    have ha : a = ⟨fill a0.tmps (fun d => a.eval (.tmp d)) (dstsTo l.length l.toArray), a0.defers⟩ := by
      obtain ⟨tm, df⟩ := a
      have e1 : tm = fill a0.tmps (fun d => Act.eval ⟨tm, df⟩ (.tmp d)) (dstsTo l.length l.toArray) := by
        refine Array.ext_getElem? fun k => ?_
        by_cases hk : k < a0.tmps.size
        · rw [fill_get _ _ _ _ hk]
          have hk' : k < tm.size := by have := H.size; simp only at this; omega
          by_cases hm : k ∈ dstsTo l.length l.toArray
          · rw [if_pos hm]; simp [Act.eval, hk']
          · rw [if_neg hm]
            exact H.same k fun j o hj ho hd => hm (mem_dstsTo.2 ⟨j, o, hj, ho, hd⟩)
        · have hk' : ¬ k < tm.size := by have := H.size; simp only at this; omega
          rw [Array.getElem?_eq_none (by omega), Array.getElem?_eq_none (by rw [fill_size]; omega)]
      have e2 : df = a0.defers := H.defers
      rw [← e2, ← e1]
    refine wpList_nil ?_
    rw [ha]
    exact hend _ _ (fun d hd => by
      obtain ⟨j, o, hj, ho, hd⟩ := mem_dstsTo.1 hd
      exact H.has j o d hj ho hd) H.below
  | succ k ih =>
    intro i a w he H
    have hlt : i < l.length := by omega
    obtain ⟨o, hol⟩ : ∃ o, o = l[i] := ⟨_, rfl⟩
    have ho : l.toArray[i]? = some o := by rw [hol]; simp [hlt]
    rw [List.drop_eq_getElem_cons hlt, ← hol]
    obtain ⟨hbefore, ⟨d, hd, hdn⟩, hgd⟩ := partR_op hp hlt ho
    have hds : d < a.tmps.size := by rw [H.size, ← hn]; exact hdn
    have hso := hstep i o hlt ho a.eval w (fun v => rfl) (fun f => rfl) (fun k hk => by
        have := H.same k fun j p hj hpj hdj => by
          have h1 := List.all_eq_true.1 hk j (List.mem_range.2 (by omega))
          rw [hpj] at h1
          simp only [hdj, bne_self_eq_false, Bool.false_or, Array.any_eq_true] at h1
          obtain ⟨q, hq, hb⟩ := h1
          rw [Bool.and_eq_true] at hb
          have h2 := (partR_op hp (by omega) hpj).1 p.after[q] (Array.getElem_mem hq) hb.1
          have h3 := reach_back hp (by simp) 6 p.after[q].on i hb.2
          omega
        simp [Act.eval, this]) (fun k hk => by
        unfold waitsOn at hk
        rw [Array.any_eq_true] at hk
        obtain ⟨j, hj, hb⟩ := hk
        rw [Bool.and_eq_true] at hb
        have hdst := eq_of_beq hb.2
        obtain ⟨o', ho', hd'⟩ := Option.bind_eq_some_iff.1 hdst
        exact H.has _ o' k (hbefore _ (Array.getElem_mem hj) hb.1) ho' hd') H.below
    have next : ∀ (v : Value) (w' : World), Ph d v w' → Below w.heap.size w w' → wpList P l.toArray Q (l.drop (i + 1)) (a.put o.dst v) w' := fun v w' hv hb => by
      refine ih (i + 1) _ _ (by omega) ?_
      rw [hd]
      have own : Act.eval (a.put (some d) v) (.tmp d) = v := by simp [Act.eval, Act.put, hds]
      have oth : ∀ k, k ≠ d → Act.eval (a.put (some d) v) (.tmp k) = a.eval (.tmp k) := fun k hne => by
        simp only [Act.eval, Act.put, Array.getD_eq_getD_getElem?]
        rw [Array.getElem?_setIfInBounds_ne (fun h => hne h.symm)]
      refine ⟨by simp [Act.put, H.size], H.defers, H.below.trans (hb.mono H.below.size), fun k hk => ?_, fun j o' k hj hjo hk => ?_⟩
      · have hne : k ≠ d := fun e => hk i o (by omega) ho (by rw [e]; exact hd)
        simp only [Act.put]
        rw [Array.getElem?_setIfInBounds_ne (fun e => hne e.symm)]
        exact H.same k fun j o' hj hjo => hk j o' (by omega) hjo
      · by_cases e : j = i
        · subst e
          rw [ho] at hjo; cases hjo
          rw [hd] at hk; cases hk
          rw [own]; exact hv
        · have hjl : j < l.length := by omega
          have hne : k ≠ d := fun h => e (partR_one hp hjl hlt hjo ho hk (by rw [h]; exact hd))
          rw [oth k hne]
          exact hmono _ _ _ _ (H.has j o' k (by omega) hjo hk) hb
    refine wpList_step fun K hK => ?_
    rw [wanted_eq (n := n) (by rw [hn, H.size]) hgd]
    by_cases hw : wantedR l.toArray a.eval o = true
    · rw [if_pos hw]
      exact OpDoes.wp (hso.1 hw) fun v w' hv => hK _ _ (next v w' (hv.1 d hd).1 hv.2)
    · rw [if_neg hw]
      rw [Bool.not_eq_true] at hw
      exact hK _ _ (next undef w (hso.2 hw d hd).1 (Below.refl _ _))
end
/-- behind a function's last region its result's slot alone matters. -/
theorem fill_end {Q : Exit → Act → World → Prop} {t : Array Value} {f : Nat → Value} {D : List Nat} {df : List Deferred} {w : World} (hD : 0 ∈ D) (ht : 0 < t.size) (h : ∀ tm : Array Value, tm[0]? = some (f 0) → Q .normal ⟨tm, df⟩ w) : Q .normal ⟨fill t f D, df⟩ w :=
  h _ (by rw [fill_get f 0 D t ht, if_pos hD])
/-- all operations of a region that keeps their row, each by itself. -/
theorem wp_region_allS {P : Program} {id : Nat} {Q : Exit → Act → World → Prop} {a : Act} {w : World} {l : List Oper} (Ph : Nat → Value → World → Prop) (n : Nat) (hp : partR l.length n l.toArray = true) (hn : n = a.tmps.size)
    (hmono : ∀ d v w w', Ph d v w → Below w.heap.size w w' → Ph d v w') (hstep : ∀ p ∈ (List.range l.length).zip l, StepW [] P l.length l.toArray Ph a w p.1 p.2)
    (hend : ∀ (f : Nat → Value) (w' : World), (∀ d ∈ dstsTo l.length l.toArray, Ph d (f d) w') → Below w.heap.size w w' → Q .normal ⟨fill a.tmps f (dstsTo l.length l.toArray), a.defers⟩ w') : (Code.region id l.toArray false).wp P Q a w := by
  refine wp_region_lit ?_
  have h := seqW_any (Q := Q) (a0 := a) (w0 := w) hp hn hmono (fun i o hi ho => hstep (i, o) (by
    have ho' : l[i]? = some o := by simpa using ho
    exact List.mem_iff_getElem?.2 ⟨i, by rw [List.getElem?_zip_eq_some]; exact ⟨List.getElem?_range hi, ho'⟩⟩)) hend l.length 0 a w (by omega)
  rw [List.drop_zero] at h
  exact h ⟨rfl, rfl, Below.refl _ _, fun _ _ => rfl, fun _ _ _ hj => absurd hj (Nat.not_lt_zero _)⟩
end Go.Proofs.Yteebbffecaeciaa
