/- From the form's reading of an argument to the tree that it reads as. -/
import Derived.Test.YtclmnpfdnhfbmaaVBase
import Derived.ProofKit
import Derived.Deep.Slices
namespace Go.Proofs.Ytclmnpfdnhfbmaa
open Go.ChangeShapes Go.WideShapes Go.ChangeAt Go.RowKit Go.Deep

theorem cellsV : Try.prog.cellsOf 24 = 3 := by kernel_rfl
theorem cells8 : Try.prog.cellsOf 5 = 1 := by kernel_rfl
theorem cells64 : Try.prog.cellsOf 2 = 1 := by kernel_rfl
theorem cellsVs : Try.prog.cellsOf 22 = 1 := by kernel_rfl
theorem bytesV : Try.prog.bytesOf 24 = 40 := by kernel_rfl

section
variable {H : Type} {enc : TypeId × Value → H} {spare : Nat → Bool} {held : Bool} {W : World}

theorem cells3 {a : Addr} {cs : List Value} (h : W.cells? 0 a 3 = some cs) : ∃ b o v0 v1 v2, a = ⟨b, o, none⟩ ∧ cs = [v0, v1, v2] ∧ W.cell? ⟨b, o, none⟩ = some v0 ∧ W.cell? ⟨b, o + 1, none⟩ = some v1 ∧ W.cell? ⟨b, o + 2, none⟩ = some v2 := by
  obtain ⟨b, o, s⟩ := a
  unfold World.cells? at h
  rw [if_pos (Nat.zero_le _)] at h
  have hl := mapM_some_length h
  have h0 := mapM_some_get h 0 0 (by simp)
  have h1 := mapM_some_get h 1 1 (by simp)
  have h2 := mapM_some_get h 2 2 (by simp)
  match cs, hl with
  | [v0, v1, v2], _ =>
    simp only [Addr.add, Nat.add_zero, List.getElem?_cons_zero, List.getElem?_cons_succ] at h0 h1 h2
    cases s with
    | none => exact ⟨b, o, v0, v1, v2, rfl, rfl, h0, h1, h2⟩
    | some s =>
      unfold World.cell? at h0
      split at h0 <;> simp at h0

/-- what the reach says of a list of items. -/
def Small (x : DataW H) (t : TypeId) : Prop := (x.weights Try.prog t).all (· ≤ reachBytes) = true
theorem small_mem {l : List (DataW H)} {t : TypeId} (h : (DataW.weightsAll Try.prog t l).all (· ≤ reachBytes) = true) : ∀ d ∈ l, Small d t := by
  induction l with
  | nil => intro d hd; cases hd
  | cons x l ih =>
    rw [DataW.weightsAll, List.all_append, Bool.and_eq_true] at h
    intro d hd
    rcases List.mem_cons.1 hd with rfl | hd
    · exact h.1
    · exact ih h.2 d hd

theorem read_val (fuel : Nat) : (∀ (cs : List Value) (x : DataW H × List MemPlace), DataW.trod enc Try.prog W 0 spare held fuel 24 cs = some x → Small x.1 24 →
      ∃ t v0 v1 v2, cs = [v0, v1, v2] ∧ VIn W t (.agg #[v0, v1, v2])) ∧
    (∀ (cs : List Value) (x : DataW H × List MemPlace), DataW.trod enc Try.prog W 0 spare held fuel 22 cs = some x → Small x.1 22 →
      ∃ l a cap, cs = [.slice a (List.length l) cap] ∧ l.length ≤ 3518437208780 ∧ VRow W l a) := by
  induction fuel with
  | zero => exact ⟨fun cs x h => by simp [DataW.trod] at h, fun cs x h => by simp [DataW.trod] at h⟩
  | succ n ih =>
    constructor
    · intro cs x h hs
      obtain ⟨xs, m, hm, rfl, hl, hlen, hf⟩ := DataW.trod_struct Try.underlying24 h
      obtain rfl : m = n := by omega
      rw [cellsV] at hl
      match cs, hl, xs, hlen with
      | [v0, v1, v2], _, [y0, y1, y2], _ =>
        have h0 : DataW.trod enc Try.prog W 0 spare held m 5 [v0] = some y0 := by simpa [cells8] using hf 0 _ rfl
        have h1 : DataW.trod enc Try.prog W 0 spare held m 2 [v1] = some y1 := by simpa [cells64] using hf 1 _ rfl
        have h2 : DataW.trod enc Try.prog W 0 spare held m 22 [v2] = some y2 := by simpa [cellsVs] using hf 2 _ rfl
        obtain ⟨k, hk, _, _⟩ := DataW.trod_int Try.underlying5 h0
        obtain ⟨q, hq, _, _⟩ := DataW.trod_int Try.underlying2 h1
        simp only [List.cons.injEq, and_true] at hk hq
        subst hk hq
        have hs2 : Small y2.1 22 := by
          unfold Small at hs ⊢
          simp only [DataW.weights, Try.underlying24, List.map_cons, List.map_nil, DataW.weightsEach, List.all_append, Bool.and_eq_true] at hs
          exact hs.2.2.1
        obtain ⟨l, a, cap, hc, hb, hr⟩ := ih.2 _ _ h2 hs2
        simp only [List.cons.injEq, and_true] at hc
        subst hc
        exact ⟨.mk k q l, _, _, _, rfl, VIn.shut hb hr⟩
    · intro cs x h hs
      rcases DataW.trod_slice Try.underlying22 h with ⟨rfl, rfl⟩ | ⟨a, len, cap, elems, rest, m, hm, rfl, rfl, _, hlc, hcm, hel, hE, _, _⟩
      · exact ⟨[], none, 0, rfl, by simp, by rw [VRow]; trivial⟩
      · obtain rfl : m = n := by omega
        unfold Small at hs
        simp only [DataW.weights, Try.underlying22, List.all_cons, List.all_append, Bool.and_eq_true, List.length_map, bytesV, reachBytes] at hs
        have hlen : len ≤ 3518437208780 := by have := of_decide_eq_true hs.1; rw [hel] at this; omega
        have hsm := small_mem hs.2.1
        by_cases h0 : len = 0
        · subst h0
          exact ⟨[], some a, cap, rfl, by simp, by rw [VRow]; trivial⟩
        · have key : ∀ i, i < len → ∃ (t : VT) (b o : Nat) (v0 v1 v2 : Value), a.add (i * 3) = ⟨b, o, none⟩ ∧ W.cell? ⟨b, o, none⟩ = some v0 ∧ W.cell? ⟨b, o + 1, none⟩ = some v1 ∧ W.cell? ⟨b, o + 2, none⟩ = some v2 ∧ VIn W t (.agg #[v0, v1, v2]) := fun i hi => by
            have hi' := hE i hi
            rw [cellsV, List.getElem?_eq_getElem (by omega), Option.bind_eq_some_iff] at hi'
            obtain ⟨cs', hc', ht'⟩ := hi'
            obtain ⟨b, o, v0, v1, v2, ha, rfl, q0, q1, q2⟩ := cells3 hc'
            obtain ⟨t, u0, u1, u2, hu, hv⟩ := ih.1 _ _ ht' (hsm _ (List.mem_map.2 ⟨_, List.getElem_mem (by omega), rfl⟩))
            simp only [List.cons.injEq, and_true] at hu
            obtain ⟨rfl, rfl, rfl⟩ := hu
            exact ⟨t, b, o, v0, v1, v2, ha, q0, q1, q2, hv⟩
          obtain ⟨_, b, o, _, _, _, ha, _⟩ := key 0 (by omega)
          have ha' : a = ⟨b, o, none⟩ := by rw [← ha]; simp [Addr.add]
          subst ha'
          haveI : Inhabited VT := ⟨.mk 0 0 []⟩
          obtain ⟨f, hf⟩ := choose_lt key
          refine ⟨(List.range len).map f, some ⟨b, o, none⟩, cap, by simp, by simpa using hlen, ?_⟩
          refine VRow.of b _ o fun i hi => ?_
          have hi' : i < len := by simpa using hi
          obtain ⟨b', o', v0, v1, v2, he, q0, q1, q2, hv⟩ := hf i hi'
          rw [add_plain] at he
          simp only [Addr.mk.injEq, and_true] at he
          obtain ⟨rfl, rfl⟩ := he
          exact ⟨v0, v1, v2, q0, q1, q2, by simpa using hv⟩
end
end Go.Proofs.Ytclmnpfdnhfbmaa
