/- From the form's reading of a predicate to the tree that it reads as. -/
import Derived.Test.YtclmnpfdnhfbmaaPBase
import Derived.Test.YtclmnpfdnhfbmaaVFrame
namespace Go.Proofs.Ytclmnpfdnhfbmaa
open Go.ChangeShapes Go.WideShapes Go.ChangeAt Go.RowKit Go.Deep

theorem cellsP : Try.prog.cellsOf 27 = 6 := by kernel_rfl
theorem cellsPs : Try.prog.cellsOf 25 = 1 := by kernel_rfl
theorem bytesP : Try.prog.bytesOf 27 = 80 := by kernel_rfl

section
variable {H : Type} {enc : TypeId × Value → H} {spare : Nat → Bool} {held : Bool} {W : World}

theorem cells6 {a : Addr} {cs : List Value} (h : W.cells? 0 a 6 = some cs) : ∃ b o v0 v1 v2 v3 v4 v5, a = ⟨b, o, none⟩ ∧ cs = [v0, v1, v2, v3, v4, v5] ∧ W.cell? ⟨b, o, none⟩ = some v0 ∧ W.cell? ⟨b, o + 1, none⟩ = some v1 ∧
    W.cell? ⟨b, o + 2, none⟩ = some v2 ∧ W.cell? ⟨b, o + 3, none⟩ = some v3 ∧ W.cell? ⟨b, o + 4, none⟩ = some v4 ∧ W.cell? ⟨b, o + 5, none⟩ = some v5 := by
  obtain ⟨b, o, s⟩ := a
  unfold World.cells? at h
  rw [if_pos (Nat.zero_le _)] at h
  have hl := mapM_some_length h
  have h0 := mapM_some_get h 0 0 (by simp)
  have h1 := mapM_some_get h 1 1 (by simp)
  have h2 := mapM_some_get h 2 2 (by simp)
  have h3 := mapM_some_get h 3 3 (by simp)
  have h4 := mapM_some_get h 4 4 (by simp)
  have h5 := mapM_some_get h 5 5 (by simp)
  match cs, hl with
  | [v0, v1, v2, v3, v4, v5], _ =>
    simp only [Addr.add, Nat.add_zero, List.getElem?_cons_zero, List.getElem?_cons_succ] at h0 h1 h2 h3 h4 h5
    cases s with
    | none => exact ⟨b, o, v0, v1, v2, v3, v4, v5, rfl, rfl, h0, h1, h2, h3, h4, h5⟩
    | some s =>
      unfold World.cell? at h0
      split at h0 <;> simp at h0

theorem read_pred (fuel : Nat) : (∀ (cs : List Value) (x : DataW H × List MemPlace), DataW.trod enc Try.prog W 0 spare held fuel 27 cs = some x → Small x.1 27 →
      ∃ t v0 v1 v2 v3 v4 v5, cs = [v0, v1, v2, v3, v4, v5] ∧ PIn W t (.agg #[v0, v1, v2, v3, v4, v5])) ∧
    (∀ (cs : List Value) (x : DataW H × List MemPlace), DataW.trod enc Try.prog W 0 spare held fuel 25 cs = some x → Small x.1 25 →
      ∃ l a cap, cs = [.slice a (List.length l) cap] ∧ l.length ≤ 1759218604390 ∧ PRow W l a) := by
  induction fuel with
  | zero => exact ⟨fun cs x h => by simp [DataW.trod] at h, fun cs x h => by simp [DataW.trod] at h⟩
  | succ n ih =>
    constructor
    · intro cs x h hs
      obtain ⟨xs, m, hm, rfl, hl, hlen, hf⟩ := DataW.trod_struct Try.underlying27 h
      obtain rfl : m = n := by omega
      rw [cellsP] at hl
      match cs, hl, xs, hlen with
      | [v0, v1, v2, v3, v4, v5], _, [y0, y1, y2, y3], _ =>
        have h0 : DataW.trod enc Try.prog W 0 spare held m 5 [v0] = some y0 := by simpa [cells8] using hf 0 _ rfl
        have h1 : DataW.trod enc Try.prog W 0 spare held m 24 [v1, v2, v3] = some y1 := by simpa [cells8, cellsV] using hf 1 _ rfl
        have h2 : DataW.trod enc Try.prog W 0 spare held m 2 [v4] = some y2 := by simpa [cells8, cellsV, cells64] using hf 2 _ rfl
        have h3 : DataW.trod enc Try.prog W 0 spare held m 25 [v5] = some y3 := by simpa [cells8, cellsV, cells64, cellsPs] using hf 3 _ rfl
        obtain ⟨k, hk, _, _⟩ := DataW.trod_int Try.underlying5 h0
        obtain ⟨q, hq, _, _⟩ := DataW.trod_int Try.underlying2 h2
        simp only [List.cons.injEq, and_true] at hk hq
        subst hk hq
        unfold Small at hs
        simp only [DataW.weights, Try.underlying27, List.map_cons, List.map_nil, DataW.weightsEach, List.all_append, Bool.and_eq_true] at hs
        obtain ⟨t, u0, u1, u2, hu, hv⟩ := (read_val m).1 _ _ h1 hs.2.1
        simp only [List.cons.injEq, and_true] at hu
        obtain ⟨rfl, rfl, rfl⟩ := hu
        obtain ⟨l, a, cap, hc, hb, hr⟩ := ih.2 _ _ h3 hs.2.2.2.1
        simp only [List.cons.injEq, and_true] at hc
        subst hc
        obtain ⟨tk, tn, its⟩ := t
        obtain ⟨va, vc, _, he, _⟩ := hv.open
        simp only [Value.agg.injEq, Array.mk.injEq, List.cons.injEq, and_true] at he
        obtain ⟨rfl, rfl, rfl⟩ := he
        exact ⟨.mk k (.mk tk tn its) q l, _, _, _, _, _, _, rfl, PIn.shut hb hv hr⟩
    · intro cs x h hs
      rcases DataW.trod_slice Try.underlying25 h with ⟨rfl, rfl⟩ | ⟨a, len, cap, elems, rest, m, hm, rfl, rfl, _, hlc, hcm, hel, hE, _, _⟩
      · exact ⟨[], none, 0, rfl, by simp, prow_nil⟩
      · obtain rfl : m = n := by omega
        unfold Small at hs
        simp only [DataW.weights, Try.underlying25, List.all_cons, List.all_append, Bool.and_eq_true, List.length_map, bytesP, reachBytes] at hs
        have hlen : len ≤ 1759218604390 := by have := of_decide_eq_true hs.1; rw [hel] at this; omega
        have hsm := small_mem hs.2.1
        by_cases h0 : len = 0
        · subst h0
          exact ⟨[], some a, cap, rfl, by simp, prow_nil⟩
        · have key : ∀ i, i < len → ∃ (t : PT) (b o : Nat) (v0 v1 v2 v3 v4 v5 : Value), a.add (i * 6) = ⟨b, o, none⟩ ∧ W.cell? ⟨b, o, none⟩ = some v0 ∧ W.cell? ⟨b, o + 1, none⟩ = some v1 ∧ W.cell? ⟨b, o + 2, none⟩ = some v2 ∧
              W.cell? ⟨b, o + 3, none⟩ = some v3 ∧ W.cell? ⟨b, o + 4, none⟩ = some v4 ∧ W.cell? ⟨b, o + 5, none⟩ = some v5 ∧ PIn W t (.agg #[v0, v1, v2, v3, v4, v5]) := fun i hi => by
            have hi' := hE i hi
            rw [cellsP, List.getElem?_eq_getElem (by omega), Option.bind_eq_some_iff] at hi'
            obtain ⟨cs', hc', ht'⟩ := hi'
            obtain ⟨b, o, v0, v1, v2, v3, v4, v5, ha, rfl, q0, q1, q2, q3, q4, q5⟩ := cells6 hc'
            obtain ⟨t, u0, u1, u2, u3, u4, u5, hu, hv⟩ := ih.1 _ _ ht' (hsm _ (List.mem_map.2 ⟨_, List.getElem_mem (by omega), rfl⟩))
            simp only [List.cons.injEq, and_true] at hu
            obtain ⟨rfl, rfl, rfl, rfl, rfl, rfl⟩ := hu
            exact ⟨t, b, o, v0, v1, v2, v3, v4, v5, ha, q0, q1, q2, q3, q4, q5, hv⟩
          obtain ⟨_, b, o, _, _, _, _, _, _, ha, _⟩ := key 0 (by omega)
          have ha' : a = ⟨b, o, none⟩ := by rw [← ha]; simp [Addr.add]
          subst ha'
          haveI : Inhabited PT := ⟨.mk 0 (.mk 0 0 []) 0 []⟩
          obtain ⟨f, hf⟩ := choose_lt key
          refine ⟨(List.range len).map f, some ⟨b, o, none⟩, cap, by simp, by simpa using hlen, ?_⟩
          refine PRow.of b _ o fun i hi => ?_
          have hi' : i < len := by simpa using hi
          obtain ⟨b', o', v0, v1, v2, v3, v4, v5, he, q0, q1, q2, q3, q4, q5, hv⟩ := hf i hi'
          rw [add_plain] at he
          simp only [Addr.mk.injEq, and_true] at he
          obtain ⟨rfl, rfl⟩ := he
          exact ⟨v0, v1, v2, v3, v4, v5, q0, q1, q2, q3, q4, q5, by simpa using hv⟩

theorem open_pred {r : Reach} {b0 : Nat} {v : Value} {d : DataW H} {ps : List MemPlace} {spare : Nat → Bool} {held : Bool} (hv : Value.okWide Try.prog W r b0 27 v) (h : DataW.Trod enc Try.prog W 0 spare held 27 v d ps) (hs : Small d 27) : ∃ t, PIn W t v := by
  obtain ⟨cs, rfl, _⟩ := okWide_struct Try.underlying27 hv
  obtain ⟨fuel, hf⟩ := h
  obtain ⟨t, v0, v1, v2, v3, v4, v5, hc, ht⟩ := (read_pred fuel).1 _ _ hf hs
  have : cs = #[v0, v1, v2, v3, v4, v5] := by
    have h2 : cs.toList = [v0, v1, v2, v3, v4, v5] := by simpa [Value.cells] using hc
    rw [← Array.toArray_toList (xs := cs), h2]
  exact ⟨t, by rw [this]; exact ht⟩
theorem open_preds {r : Reach} {b0 : Nat} {v : Value} {d : DataW H} {ps : List MemPlace} {spare : Nat → Bool} {held : Bool} (hv : Value.okWide Try.prog W r b0 25 v) (h : DataW.Trod enc Try.prog W 0 spare held 25 v d ps) (hs : Small d 25) :
    ∃ (l : List PT) (a : Option Addr) (cap : Nat), v = .slice a l.length cap ∧ l.length ≤ 1759218604390 ∧ PRow W l a := by
  obtain ⟨a0, len, cap, rfl⟩ := okWide_slice Try.underlying25 hv
  obtain ⟨fuel, hf⟩ := h
  obtain ⟨l, a, cap', hc, hl, hr⟩ := (read_pred fuel).2 _ _ hf hs
  simp only [Value.cells, List.cons.injEq, Value.slice.injEq, and_true] at hc
  obtain ⟨rfl, rfl, rfl⟩ := hc
  exact ⟨l, _, _, rfl, hl, hr⟩
end
end Go.Proofs.Ytclmnpfdnhfbmaa
