/- Texts of this claim laid into one: VRead, VFrame, PRead, TRead, POpen, TLawStep, TOpenC. -/
import Derived.Test.YteebbffecaeciaaM01
import Derived.ProofKit
import Derived.Deep.Slices
import Derived.Test.YteebbffecaeciaaM28
import Derived.Test.YteebbffecaeciaaM33
import Derived.Carry
/- From the form's reading of an argument to the tree that it reads as. -/
namespace Go.Proofs.Yteebbffecaeciaa
open Go.ChangeShapes Go.WideShapes Go.ChangeAt Go.RowKit Go.Deep

theorem cellsV : Try.prog.cellsOf 25 = 3 := by kernel_rfl
theorem cells8 : Try.prog.cellsOf 5 = 1 := by kernel_rfl
theorem cells64 : Try.prog.cellsOf 2 = 1 := by kernel_rfl
theorem cellsVs : Try.prog.cellsOf 23 = 1 := by kernel_rfl
theorem bytesV : Try.prog.bytesOf 25 = 40 := by kernel_rfl

section
variable {H : Type} {enc : TypeId × Value → H} {spare : Nat → Bool} {held : Bool} {W : World}

theorem cells3 {a : Addr} {cs : List Value} (h : W.cells? 0 a 3 = some cs) : ∃ b o v0 v1 v2, a = ⟨b, o, none⟩ ∧ cs = [v0, v1, v2] ∧ W.cell? ⟨b, o, none⟩ = some v0 ∧ W.cell? ⟨b, o + 1, none⟩ = some v1 ∧ W.cell? ⟨b, o + 2, none⟩ = some v2 := by
  obtain ⟨b, o, s⟩ := a
  unfold World.cells? at h
  rw [if_pos (Nat.zero_le _)] at h
  have hl := mapM_some_length h
  have h0 := mapM_some_get h 0 0 (by simp)
  have h1 := mapM_some_get h 1 1 (by simp)
  have h2 := mapM_some_get h 2 2 (by simp)
  match cs, hl with
  | [v0, v1, v2], _ =>
    simp only [Addr.add, Nat.add_zero, List.getElem?_cons_zero, List.getElem?_cons_succ] at h0 h1 h2
    cases s with
    | none => exact ⟨b, o, v0, v1, v2, rfl, rfl, h0, h1, h2⟩
    | some s =>
      unfold World.cell? at h0
      split at h0 <;> simp at h0

/-- what the reach says of a list of items. -/
def Small (x : DataW H) (t : TypeId) : Prop := (x.weights Try.prog t).all (· ≤ reachBytes) = true
theorem small_mem {l : List (DataW H)} {t : TypeId} (h : (DataW.weightsAll Try.prog t l).all (· ≤ reachBytes) = true) : ∀ d ∈ l, Small d t := by
  induction l with
  | nil => intro d hd; cases hd
  | cons x l ih =>
    rw [DataW.weightsAll, List.all_append, Bool.and_eq_true] at h
    intro d hd
    rcases List.mem_cons.1 hd with rfl | hd
    · exact h.1
    · exact ih h.2 d hd

set_option maxRecDepth 100000 in
theorem read_val (fuel : Nat) : (∀ (cs : List Value) (x : DataW H × List MemPlace), DataW.trod enc Try.prog W 0 spare held fuel 25 cs = some x → Small x.1 25 →
      ∃ t v0 v1 v2, cs = [v0, v1, v2] ∧ VIn W t (.agg #[v0, v1, v2])) ∧
    (∀ (cs : List Value) (x : DataW H × List MemPlace), DataW.trod enc Try.prog W 0 spare held fuel 23 cs = some x → Small x.1 23 →
      ∃ l a cap, cs = [.slice a (List.length l) cap] ∧ l.length ≤ 3518437208780 ∧ VRow W l a) := by
  induction fuel with
  | zero => exact ⟨fun cs x h => by simp [DataW.trod] at h, fun cs x h => by simp [DataW.trod] at h⟩
  | succ n ih =>
    constructor
    · intro cs x h hs
      obtain ⟨xs, m, hm, rfl, hl, hlen, hf⟩ := DataW.trod_struct Try.underlying25 h
      obtain rfl : m = n := by omega
      rw [cellsV] at hl
      match cs, hl, xs, hlen with
      | [v0, v1, v2], _, [y0, y1, y2], _ =>
        have h0 : DataW.trod enc Try.prog W 0 spare held m 5 [v0] = some y0 := by simpa [cells8] using hf 0 _ rfl
        have h1 : DataW.trod enc Try.prog W 0 spare held m 2 [v1] = some y1 := by simpa [cells64] using hf 1 _ rfl
        have h2 : DataW.trod enc Try.prog W 0 spare held m 23 [v2] = some y2 := by simpa [cellsVs] using hf 2 _ rfl
        obtain ⟨k, hk, _, _⟩ := DataW.trod_int Try.underlying5 h0
        obtain ⟨q, hq, _, _⟩ := DataW.trod_int Try.underlying2 h1
        simp only [List.cons.injEq, and_true] at hk hq
        subst hk hq
        have hs2 : Small y2.1 23 := by
          unfold Small at hs ⊢
          simp only [DataW.weights, Try.underlying25, List.map_cons, List.map_nil, DataW.weightsEach, List.all_append, Bool.and_eq_true] at hs
          exact hs.2.2.1
        obtain ⟨l, a, cap, hc, hb, hr⟩ := ih.2 _ _ h2 hs2
        simp only [List.cons.injEq, and_true] at hc
        subst hc
        exact ⟨.mk k q l, _, _, _, rfl, VIn.shut hb hr⟩
    · intro cs x h hs
      rcases DataW.trod_slice Try.underlying23 h with ⟨rfl, rfl⟩ | ⟨a, len, cap, elems, rest, m, hm, rfl, rfl, _, hlc, hcm, hel, hE, _, _⟩
      · exact ⟨[], none, 0, rfl, by simp, by rw [VRow]; trivial⟩
      · obtain rfl : m = n := by omega
        unfold Small at hs
        simp only [DataW.weights, Try.underlying23, List.all_cons, List.all_append, Bool.and_eq_true, List.length_map, bytesV, reachBytes] at hs
        have hlen : len ≤ 3518437208780 := by have := of_decide_eq_true hs.1; rw [hel] at this; omega
        have hsm := small_mem hs.2.1
        by_cases h0 : len = 0
        · subst h0
          exact ⟨[], some a, cap, rfl, by simp, by rw [VRow]; trivial⟩
        · have key : ∀ i, i < len → ∃ (t : VT) (b o : Nat) (v0 v1 v2 : Value), a.add (i * 3) = ⟨b, o, none⟩ ∧ W.cell? ⟨b, o, none⟩ = some v0 ∧ W.cell? ⟨b, o + 1, none⟩ = some v1 ∧ W.cell? ⟨b, o + 2, none⟩ = some v2 ∧ VIn W t (.agg #[v0, v1, v2]) := fun i hi => by
            have hi' := hE i hi
            rw [cellsV, List.getElem?_eq_getElem (by omega), Option.bind_eq_some_iff] at hi'
            obtain ⟨cs', hc', ht'⟩ := hi'
            obtain ⟨b, o, v0, v1, v2, ha, rfl, q0, q1, q2⟩ := cells3 hc'
            obtain ⟨t, u0, u1, u2, hu, hv⟩ := ih.1 _ _ ht' (hsm _ (List.mem_map.2 ⟨_, List.getElem_mem (by omega), rfl⟩))
            simp only [List.cons.injEq, and_true] at hu
            obtain ⟨rfl, rfl, rfl⟩ := hu
            exact ⟨t, b, o, v0, v1, v2, ha, q0, q1, q2, hv⟩
          obtain ⟨_, b, o, _, _, _, ha, _⟩ := key 0 (by omega)
          have ha' : a = ⟨b, o, none⟩ := by rw [← ha]; simp [Addr.add]
          subst ha'
          haveI : Inhabited VT := ⟨.mk 0 0 []⟩
          obtain ⟨f, hf⟩ := choose_lt key
          refine ⟨(List.range len).map f, some ⟨b, o, none⟩, cap, by simp, by simpa using hlen, ?_⟩
          refine VRow.of b _ o fun i hi => ?_
          have hi' : i < len := by simpa using hi
          obtain ⟨b', o', v0, v1, v2, he, q0, q1, q2, hv⟩ := hf i hi'
          rw [add_plain] at he
          simp only [Addr.mk.injEq, and_true] at he
          obtain ⟨rfl, rfl⟩ := he
          exact ⟨v0, v1, v2, q0, q1, q2, by simpa using hv⟩
end
end Go.Proofs.Yteebbffecaeciaa
/- The frame of a law: from the walk of the law's function to its statement. -/
namespace Go.Proofs.Yteebbffecaeciaa
open Go.ChangeShapes Go.WideShapes Go.ChangeAt Go.RowKit Go.Deep

theorem Try.own : ownKnob Try.prog.godebug = none := by kernel_rfl
theorem Try.laidOut : laidOutB Try.prog = true := by kernel_rfl

section
variable {H : Type} {enc : TypeId × Value → H} {W W' : World}
theorem trodAll_below (hb : Below W.heap.size W W') : ∀ {ts : List TypeId} {vs : List Value} {ds : List (DataW H)} {ps : List MemPlace} (_ : ∀ t ∈ ts, Try.prog.readableRec t = true ∧ t < Try.prog.types.size)
    (_ : DataW.TrodAll enc Try.prog W 0 (fun _ => true) true ts vs ds ps) (_ : ∀ x ∈ ps, x.block < W.heap.size), DataW.TrodAll enc Try.prog W' 0 (fun b => decide (b < W.heap.size)) true ts vs ds ps := by
  intro ts
  induction ts with
  | nil => intro vs ds ps _ h _; cases vs <;> cases ds <;> first | exact h | exact h.elim
  | cons t ts ih =>
    intro vs ds ps hts h hlt
    cases vs with
    | nil => cases ds <;> exact h.elim
    | cons v vs =>
      cases ds with
      | nil => exact h.elim
      | cons d ds =>
        obtain ⟨p, q, h1, h2, rfl⟩ := h
        have ht := hts t (List.mem_cons_self ..)
        exact ⟨p, q, Below.trod Try.laidOut ht.1 ht.2 h1 hb (fun x hx => hlt x (List.mem_append.2 (.inl hx))), ih (fun t' h' => hts t' (List.mem_cons_of_mem _ h')) h2 (fun x hx => hlt x (List.mem_append.2 (.inr hx))), rfl⟩

/-- what is owed behind a law's walk. -/
theorem law_post {f : Func} {s : ChangeSpec} {args : Array Value} {ds gs : List (DataW H)} {before : List MemPlace} (hvars : s.vars = []) (hres : f.resultTypes = #[4])
    (hts : ∀ t ∈ f.params.toList, Try.prog.readableRec t = true ∧ t < Try.prog.types.size)
    (hW : DataW.Whole enc Try.prog f.params.toList s.vars false W args.toList ds gs before) (hfn : (s.fn H (ds ++ gs)).results = [.lit (.bool true)] ∧ (s.fn H (ds ++ gs)).args = ds ∧ (s.fn H (ds ++ gs)).vars = [])
    (hb : Below W.heap.size W W') : s.post enc Try.prog f false true false false W args (.bool true) W' := by
  have hW' := hW
  obtain ⟨p, q, hA, hV, rfl, hfz, hnd⟩ := hW
  rw [hvars] at hV
  have hq : q = [] := by
    cases gs with
    | nil => exact hV
    | cons g gs => exact hV.elim
  subst hq
  refine ⟨ds, gs, p ++ [], [], p, [], hW', ?_, ?_, ?_, ?_, fun h => by cases h⟩
  · rw [hfn.1, hres]
    exact trodAll_mk1 (shut_bool Try.underlying4 true)
  · rw [hfn.2.1]
    exact trodAll_below hb hts hA (fun x hx => hW'.lt x (List.mem_append.2 (.inl hx)))
  · rw [hfn.2.2, hvars]; rfl
  · exact hb.frame _
end
end Go.Proofs.Yteebbffecaeciaa
/- From the form's reading of a predicate to the tree that it reads as. -/
namespace Go.Proofs.Yteebbffecaeciaa
open Go.ChangeShapes Go.WideShapes Go.ChangeAt Go.RowKit Go.Deep

theorem cellsP : Try.prog.cellsOf 28 = 6 := by kernel_rfl
theorem cellsPs : Try.prog.cellsOf 26 = 1 := by kernel_rfl
theorem bytesP : Try.prog.bytesOf 28 = 80 := by kernel_rfl

section
variable {H : Type} {enc : TypeId × Value → H} {spare : Nat → Bool} {held : Bool} {W : World}

theorem cells6 {a : Addr} {cs : List Value} (h : W.cells? 0 a 6 = some cs) : ∃ b o v0 v1 v2 v3 v4 v5, a = ⟨b, o, none⟩ ∧ cs = [v0, v1, v2, v3, v4, v5] ∧ W.cell? ⟨b, o, none⟩ = some v0 ∧ W.cell? ⟨b, o + 1, none⟩ = some v1 ∧
    W.cell? ⟨b, o + 2, none⟩ = some v2 ∧ W.cell? ⟨b, o + 3, none⟩ = some v3 ∧ W.cell? ⟨b, o + 4, none⟩ = some v4 ∧ W.cell? ⟨b, o + 5, none⟩ = some v5 := by
  obtain ⟨b, o, s⟩ := a
  unfold World.cells? at h
  rw [if_pos (Nat.zero_le _)] at h
  have hl := mapM_some_length h
  have h0 := mapM_some_get h 0 0 (by simp)
  have h1 := mapM_some_get h 1 1 (by simp)
  have h2 := mapM_some_get h 2 2 (by simp)
  have h3 := mapM_some_get h 3 3 (by simp)
  have h4 := mapM_some_get h 4 4 (by simp)
  have h5 := mapM_some_get h 5 5 (by simp)
  match cs, hl with
  | [v0, v1, v2, v3, v4, v5], _ =>
    simp only [Addr.add, Nat.add_zero, List.getElem?_cons_zero, List.getElem?_cons_succ] at h0 h1 h2 h3 h4 h5
    cases s with
    | none => exact ⟨b, o, v0, v1, v2, v3, v4, v5, rfl, rfl, h0, h1, h2, h3, h4, h5⟩
    | some s =>
      unfold World.cell? at h0
      split at h0 <;> simp at h0

set_option maxRecDepth 100000 in
theorem read_pred (fuel : Nat) : (∀ (cs : List Value) (x : DataW H × List MemPlace), DataW.trod enc Try.prog W 0 spare held fuel 28 cs = some x → Small x.1 28 →
      ∃ t v0 v1 v2 v3 v4 v5, cs = [v0, v1, v2, v3, v4, v5] ∧ PIn W t (.agg #[v0, v1, v2, v3, v4, v5])) ∧
    (∀ (cs : List Value) (x : DataW H × List MemPlace), DataW.trod enc Try.prog W 0 spare held fuel 26 cs = some x → Small x.1 26 →
      ∃ l a cap, cs = [.slice a (List.length l) cap] ∧ l.length ≤ 1759218604390 ∧ PRow W l a) := by
  induction fuel with
  | zero => exact ⟨fun cs x h => by simp [DataW.trod] at h, fun cs x h => by simp [DataW.trod] at h⟩
  | succ n ih =>
    constructor
    · intro cs x h hs
      obtain ⟨xs, m, hm, rfl, hl, hlen, hf⟩ := DataW.trod_struct Try.underlying28 h
      obtain rfl : m = n := by omega
      rw [cellsP] at hl
      match cs, hl, xs, hlen with
      | [v0, v1, v2, v3, v4, v5], _, [y0, y1, y2, y3], _ =>
        have h0 : DataW.trod enc Try.prog W 0 spare held m 5 [v0] = some y0 := by simpa [cells8] using hf 0 _ rfl
        have h1 : DataW.trod enc Try.prog W 0 spare held m 25 [v1, v2, v3] = some y1 := by simpa [cells8, cellsV] using hf 1 _ rfl
        have h2 : DataW.trod enc Try.prog W 0 spare held m 2 [v4] = some y2 := by simpa [cells8, cellsV, cells64] using hf 2 _ rfl
        have h3 : DataW.trod enc Try.prog W 0 spare held m 26 [v5] = some y3 := by simpa [cells8, cellsV, cells64, cellsPs] using hf 3 _ rfl
        obtain ⟨k, hk, _, _⟩ := DataW.trod_int Try.underlying5 h0
        obtain ⟨q, hq, _, _⟩ := DataW.trod_int Try.underlying2 h2
        simp only [List.cons.injEq, and_true] at hk hq
        subst hk hq
        unfold Small at hs
        simp only [DataW.weights, Try.underlying28, List.map_cons, List.map_nil, DataW.weightsEach, List.all_append, Bool.and_eq_true] at hs
        obtain ⟨t, u0, u1, u2, hu, hv⟩ := (read_val m).1 _ _ h1 hs.2.1
        simp only [List.cons.injEq, and_true] at hu
        obtain ⟨rfl, rfl, rfl⟩ := hu
        obtain ⟨l, a, cap, hc, hb, hr⟩ := ih.2 _ _ h3 hs.2.2.2.1
        simp only [List.cons.injEq, and_true] at hc
        subst hc
        obtain ⟨tk, tn, its⟩ := t
        obtain ⟨va, vc, _, he, _⟩ := hv.open
        simp only [Value.agg.injEq, Array.mk.injEq, List.cons.injEq, and_true] at he
        obtain ⟨rfl, rfl, rfl⟩ := he
        exact ⟨.mk k (.mk tk tn its) q l, _, _, _, _, _, _, rfl, PIn.shut hb hv hr⟩
    · intro cs x h hs
      rcases DataW.trod_slice Try.underlying26 h with ⟨rfl, rfl⟩ | ⟨a, len, cap, elems, rest, m, hm, rfl, rfl, _, hlc, hcm, hel, hE, _, _⟩
      · exact ⟨[], none, 0, rfl, by simp, prow_nil⟩
      · obtain rfl : m = n := by omega
        unfold Small at hs
        simp only [DataW.weights, Try.underlying26, List.all_cons, List.all_append, Bool.and_eq_true, List.length_map, bytesP, reachBytes] at hs
        have hlen : len ≤ 1759218604390 := by have := of_decide_eq_true hs.1; rw [hel] at this; omega
        have hsm := small_mem hs.2.1
        by_cases h0 : len = 0
        · subst h0
          exact ⟨[], some a, cap, rfl, by simp, prow_nil⟩
        · have key : ∀ i, i < len → ∃ (t : PT) (b o : Nat) (v0 v1 v2 v3 v4 v5 : Value), a.add (i * 6) = ⟨b, o, none⟩ ∧ W.cell? ⟨b, o, none⟩ = some v0 ∧ W.cell? ⟨b, o + 1, none⟩ = some v1 ∧ W.cell? ⟨b, o + 2, none⟩ = some v2 ∧
              W.cell? ⟨b, o + 3, none⟩ = some v3 ∧ W.cell? ⟨b, o + 4, none⟩ = some v4 ∧ W.cell? ⟨b, o + 5, none⟩ = some v5 ∧ PIn W t (.agg #[v0, v1, v2, v3, v4, v5]) := fun i hi => by
            have hi' := hE i hi
            rw [cellsP, List.getElem?_eq_getElem (by omega), Option.bind_eq_some_iff] at hi'
            obtain ⟨cs', hc', ht'⟩ := hi'
            obtain ⟨b, o, v0, v1, v2, v3, v4, v5, ha, rfl, q0, q1, q2, q3, q4, q5⟩ := cells6 hc'
            obtain ⟨t, u0, u1, u2, u3, u4, u5, hu, hv⟩ := ih.1 _ _ ht' (hsm _ (List.mem_map.2 ⟨_, List.getElem_mem (by omega), rfl⟩))
            simp only [List.cons.injEq, and_true] at hu
            obtain ⟨rfl, rfl, rfl, rfl, rfl, rfl⟩ := hu
            exact ⟨t, b, o, v0, v1, v2, v3, v4, v5, ha, q0, q1, q2, q3, q4, q5, hv⟩
          obtain ⟨_, b, o, _, _, _, _, _, _, ha, _⟩ := key 0 (by omega)
          have ha' : a = ⟨b, o, none⟩ := by rw [← ha]; simp [Addr.add]
          subst ha'
          haveI : Inhabited PT := ⟨.mk 0 (.mk 0 0 []) 0 []⟩
          obtain ⟨f, hf⟩ := choose_lt key
          refine ⟨(List.range len).map f, some ⟨b, o, none⟩, cap, by simp, by simpa using hlen, ?_⟩
          refine PRow.of b _ o fun i hi => ?_
          have hi' : i < len := by simpa using hi
          obtain ⟨b', o', v0, v1, v2, v3, v4, v5, he, q0, q1, q2, q3, q4, q5, hv⟩ := hf i hi'
          rw [add_plain] at he
          simp only [Addr.mk.injEq, and_true] at he
          obtain ⟨rfl, rfl⟩ := he
          exact ⟨v0, v1, v2, v3, v4, v5, q0, q1, q2, q3, q4, q5, by simpa using hv⟩

end
end Go.Proofs.Yteebbffecaeciaa
/- From the form's reading of a term to the tree that it reads as. -/
namespace Go.Proofs.Yteebbffecaeciaa
open Go.ChangeShapes Go.WideShapes Go.ChangeAt Go.RowKit Go.Deep

theorem cellsT_ : Try.prog.cellsOf 47 = 15 := by kernel_rfl
theorem cellsTs : Try.prog.cellsOf 45 = 1 := by kernel_rfl
theorem bytesT : Try.prog.bytesOf 47 = 216 := by kernel_rfl
theorem cellsWs : Try.prog.cellsOf 44 = 1 := by kernel_rfl
theorem bytesW : Try.prog.bytesOf 2 = 8 := by kernel_rfl

section
variable {H : Type} {enc : TypeId × Value → H} {spare : Nat → Bool} {held : Bool} {W : World}

theorem cells1 {a : Addr} {cs : List Value} (h : W.cells? 0 a 1 = some cs) : ∃ b o v0, a = ⟨b, o, none⟩ ∧ cs = [v0] ∧ W.cell? ⟨b, o, none⟩ = some v0 := by
  obtain ⟨b, o, s⟩ := a
  unfold World.cells? at h
  rw [if_pos (Nat.zero_le _)] at h
  have hl := mapM_some_length h
  have h0 := mapM_some_get h 0 0 (by simp)
  match cs, hl with
  | [v0], _ =>
    simp only [Addr.add, Nat.add_zero, List.getElem?_cons_zero] at h0
    cases s with
    | none => exact ⟨b, o, v0, rfl, rfl, h0⟩
    | some s =>
      unfold World.cell? at h0
      split at h0 <;> simp at h0
theorem cells15_ {a : Addr} {cs : List Value} (h : W.cells? 0 a 15 = some cs) : ∃ b o v0 v1 v2 v3 v4 v5 v6 v7 v8 v9 v10 v11 v12 v13 v14, a = ⟨b, o, none⟩ ∧ cs = [v0, v1, v2, v3, v4, v5, v6, v7, v8, v9, v10, v11, v12, v13, v14] ∧ W.cell? ⟨b, o, none⟩ = some v0 ∧ W.cell? ⟨b, o + 1, none⟩ = some v1 ∧ W.cell? ⟨b, o + 2, none⟩ = some v2 ∧ W.cell? ⟨b, o + 3, none⟩ = some v3 ∧ W.cell? ⟨b, o + 4, none⟩ = some v4 ∧ W.cell? ⟨b, o + 5, none⟩ = some v5 ∧ W.cell? ⟨b, o + 6, none⟩ = some v6 ∧ W.cell? ⟨b, o + 7, none⟩ = some v7 ∧ W.cell? ⟨b, o + 8, none⟩ = some v8 ∧ W.cell? ⟨b, o + 9, none⟩ = some v9 ∧ W.cell? ⟨b, o + 10, none⟩ = some v10 ∧ W.cell? ⟨b, o + 11, none⟩ = some v11 ∧ W.cell? ⟨b, o + 12, none⟩ = some v12 ∧ W.cell? ⟨b, o + 13, none⟩ = some v13 ∧ W.cell? ⟨b, o + 14, none⟩ = some v14 := by
  obtain ⟨b, o, s⟩ := a
  unfold World.cells? at h
  rw [if_pos (Nat.zero_le _)] at h
  have hl := mapM_some_length h
  have h0 := mapM_some_get h 0 0 (by simp)
  have h1 := mapM_some_get h 1 1 (by simp)
  have h2 := mapM_some_get h 2 2 (by simp)
  have h3 := mapM_some_get h 3 3 (by simp)
  have h4 := mapM_some_get h 4 4 (by simp)
  have h5 := mapM_some_get h 5 5 (by simp)
  have h6 := mapM_some_get h 6 6 (by simp)
  have h7 := mapM_some_get h 7 7 (by simp)
  have h8 := mapM_some_get h 8 8 (by simp)
  have h9 := mapM_some_get h 9 9 (by simp)
  have h10 := mapM_some_get h 10 10 (by simp)
  have h11 := mapM_some_get h 11 11 (by simp)
  have h12 := mapM_some_get h 12 12 (by simp)
  have h13 := mapM_some_get h 13 13 (by simp)
  have h14 := mapM_some_get h 14 14 (by simp)
  match cs, hl with
  | [v0, v1, v2, v3, v4, v5, v6, v7, v8, v9, v10, v11, v12, v13, v14], _ =>
    simp only [Addr.add, Nat.add_zero, List.getElem?_cons_zero, List.getElem?_cons_succ] at h0 h1 h2 h3 h4 h5 h6 h7 h8 h9 h10 h11 h12 h13 h14
    cases s with
    | none => exact ⟨b, o, v0, v1, v2, v3, v4, v5, v6, v7, v8, v9, v10, v11, v12, v13, v14, rfl, rfl, h0, h1, h2, h3, h4, h5, h6, h7, h8, h9, h10, h11, h12, h13, h14⟩
    | some s =>
      unfold World.cell? at h0
      split at h0 <;> simp at h0

theorem read_nums (fuel : Nat) (cs : List Value) (x : DataW H × List MemPlace) (h : DataW.trod enc Try.prog W 0 spare held fuel 44 cs = some x) (hs : Small x.1 44) :
    ∃ l a cap, cs = [.slice a (List.length l) cap] ∧ l.length ≤ 17592186043904 ∧ WRow W l a := by
  cases fuel with
  | zero => simp [DataW.trod] at h
  | succ n =>
    rcases DataW.trod_slice Try.underlying44 h with ⟨rfl, rfl⟩ | ⟨a, len, cap, elems, rest, m, hm, rfl, rfl, _, hlc, hcm, hel, hE, _, _⟩
    · exact ⟨[], none, 0, rfl, by simp, wrow_nil⟩
    · unfold Small at hs
      simp only [DataW.weights, Try.underlying44, List.all_cons, List.all_append, Bool.and_eq_true, List.length_map, bytesW, reachBytes] at hs
      have hlen : len ≤ 17592186043904 := by have := of_decide_eq_true hs.1; rw [hel] at this; omega
      by_cases h0 : len = 0
      · subst h0
        exact ⟨[], some a, cap, rfl, by simp, wrow_nil⟩
      · have key : ∀ i, i < len → ∃ (t : Int) (b o : Nat), a.add (i * 1) = ⟨b, o, none⟩ ∧ W.cell? ⟨b, o, none⟩ = some (.int .i64 t) := fun i hi => by
          have hi' := hE i hi
          rw [cells64, List.getElem?_eq_getElem (by omega), Option.bind_eq_some_iff] at hi'
          obtain ⟨cs', hc', ht'⟩ := hi'
          obtain ⟨b, o, v0, ha, rfl, q0⟩ := cells1 hc'
          obtain ⟨q, hq, _, _⟩ := DataW.trod_int Try.underlying2 ht'
          simp only [List.cons.injEq, and_true] at hq
          subst hq
          exact ⟨q, b, o, ha, q0⟩
        obtain ⟨_, b, o, ha, _⟩ := key 0 (by omega)
        have ha' : a = ⟨b, o, none⟩ := by rw [← ha]; simp [Addr.add]
        subst ha'
        obtain ⟨f, hf⟩ := choose_lt key
        refine ⟨(List.range len).map f, some ⟨b, o, none⟩, cap, by simp, by simpa using hlen, ?_⟩
        refine WRow.of b _ o fun i hi => ?_
        have hi' : i < len := by simpa using hi
        obtain ⟨b', o', he, q0⟩ := hf i hi'
        rw [add_plain] at he
        simp only [Addr.mk.injEq, and_true, Nat.mul_one] at he
        obtain ⟨rfl, rfl⟩ := he
        simpa using q0

set_option maxRecDepth 100000 in
set_option maxHeartbeats 2000000 in
theorem read_term (fuel : Nat) : (∀ (cs : List Value) (x : DataW H × List MemPlace), DataW.trod enc Try.prog W 0 spare held fuel 47 cs = some x → Small x.1 47 →
      ∃ t A, cs = (TT.val t A).cells.toList ∧ TOk W t A) ∧
    (∀ (cs : List Value) (x : DataW H × List MemPlace), DataW.trod enc Try.prog W 0 spare held fuel 45 cs = some x → Small x.1 45 →
      ∃ l a cap, cs = [.slice a (List.length l) cap] ∧ l.length ≤ 651562446070 ∧ TRow W l a) := by
  induction fuel with
  | zero => exact ⟨fun cs x h => by simp [DataW.trod] at h, fun cs x h => by simp [DataW.trod] at h⟩
  | succ n ih =>
    constructor
    · intro cs x h hs
      obtain ⟨xs, m, hm, rfl, hl, hlen, hf⟩ := DataW.trod_struct Try.underlying47 h
      obtain rfl : m = n := by omega
      rw [cellsT_] at hl
      match cs, hl, xs, hlen with
      | [v0, v1, v2, v3, v4, v5, v6, v7, v8, v9, v10, v11, v12, v13, v14], _, [y0, y1, y2, y3, y4, y5, y6, y7], _ =>
        have h0 : DataW.trod enc Try.prog W 0 spare held m 5 [v0] = some y0 := by simpa [cells8, cells64, cellsV, cellsVs, cellsWs, cellsP, cellsTs] using hf 0 _ rfl
        have h1 : DataW.trod enc Try.prog W 0 spare held m 25 [v1, v2, v3] = some y1 := by simpa [cells8, cells64, cellsV, cellsVs, cellsWs, cellsP, cellsTs] using hf 1 _ rfl
        have h2 : DataW.trod enc Try.prog W 0 spare held m 23 [v4] = some y2 := by simpa [cells8, cells64, cellsV, cellsVs, cellsWs, cellsP, cellsTs] using hf 2 _ rfl
        have h3 : DataW.trod enc Try.prog W 0 spare held m 2 [v5] = some y3 := by simpa [cells8, cells64, cellsV, cellsVs, cellsWs, cellsP, cellsTs] using hf 3 _ rfl
        have h4 : DataW.trod enc Try.prog W 0 spare held m 2 [v6] = some y4 := by simpa [cells8, cells64, cellsV, cellsVs, cellsWs, cellsP, cellsTs] using hf 4 _ rfl
        have h5 : DataW.trod enc Try.prog W 0 spare held m 44 [v7] = some y5 := by simpa [cells8, cells64, cellsV, cellsVs, cellsWs, cellsP, cellsTs] using hf 5 _ rfl
        have h6 : DataW.trod enc Try.prog W 0 spare held m 28 [v8, v9, v10, v11, v12, v13] = some y6 := by simpa [cells8, cells64, cellsV, cellsVs, cellsWs, cellsP, cellsTs] using hf 6 _ rfl
        have h7 : DataW.trod enc Try.prog W 0 spare held m 45 [v14] = some y7 := by simpa [cells8, cells64, cellsV, cellsVs, cellsWs, cellsP, cellsTs] using hf 7 _ rfl
        obtain ⟨k, hk, _, _⟩ := DataW.trod_int Try.underlying5 h0
        obtain ⟨lo, hlo, _, _⟩ := DataW.trod_int Try.underlying2 h3
        obtain ⟨hi, hhi, _, _⟩ := DataW.trod_int Try.underlying2 h4
        simp only [List.cons.injEq, and_true] at hk hlo hhi
        subst hk hlo hhi
        unfold Small at hs
        simp only [DataW.weights, Try.underlying47, List.map_cons, List.map_nil, DataW.weightsEach, List.all_append, Bool.and_eq_true] at hs
        obtain ⟨t, u0, u1, u2, hu, hv⟩ := (read_val m).1 _ _ h1 hs.2.1
        simp only [List.cons.injEq, and_true] at hu
        obtain ⟨rfl, rfl, rfl⟩ := hu
        obtain ⟨tk, tn, its⟩ := t
        obtain ⟨va, vc, _, he, _⟩ := hv.open
        simp only [Value.agg.injEq, Array.mk.injEq, List.cons.injEq, and_true] at he
        obtain ⟨rfl, rfl, rfl⟩ := he
        obtain ⟨vs, sa, sc, hc, hb2, hr2⟩ := (read_val m).2 _ _ h2 hs.2.2.1
        simp only [List.cons.injEq, and_true] at hc
        subst hc
        obtain ⟨ws, wa, wc, hc, hb5, hr5⟩ := read_nums m _ _ h5 hs.2.2.2.2.2.1
        simp only [List.cons.injEq, and_true] at hc
        subst hc
        obtain ⟨p, u0, u1, u2, u3, u4, u5, hu, hp⟩ := (read_pred m).1 _ _ h6 hs.2.2.2.2.2.2.1
        simp only [List.cons.injEq, and_true] at hu
        obtain ⟨rfl, rfl, rfl, rfl, rfl, rfl⟩ := hu
        obtain ⟨pk, pv, pn, pl⟩ := p
        obtain ⟨qa, qc, pa, pc, _, _, he, _⟩ := hp.open
        simp only [Value.agg.injEq, Array.mk.injEq, List.cons.injEq, and_true] at he
        obtain ⟨rfl, rfl, rfl, rfl, rfl, rfl⟩ := he
        obtain ⟨l, aa, ac, hc, hb, hr⟩ := ih.2 _ _ h7 hs.2.2.2.2.2.2.2.1
        simp only [List.cons.injEq, and_true] at hc
        subst hc
        exact ⟨.mk k (.mk tk tn its) vs lo hi ws (.mk pk pv pn pl) l, ⟨va, vc, sa, sc, wa, wc, qa, qc, pa, pc, aa, ac⟩, rfl, TOk.of ⟨⟨hb, hb2, hb5⟩, hv, hr2, hr5, hp, hr⟩⟩
    · intro cs x h hs
      rcases DataW.trod_slice Try.underlying45 h with ⟨rfl, rfl⟩ | ⟨a, len, cap, elems, rest, m, hm, rfl, rfl, _, hlc, hcm, hel, hE, _, _⟩
      · exact ⟨[], none, 0, rfl, by simp, trow_nil⟩
      · obtain rfl : m = n := by omega
        unfold Small at hs
        simp only [DataW.weights, Try.underlying45, List.all_cons, List.all_append, Bool.and_eq_true, List.length_map, bytesT, reachBytes] at hs
        have hlen : len ≤ 651562446070 := by have := of_decide_eq_true hs.1; rw [hel] at this; omega
        have hsm := small_mem hs.2.1
        by_cases h0 : len = 0
        · subst h0
          exact ⟨[], some a, cap, rfl, by simp, trow_nil⟩
        · have key : ∀ i, i < len → ∃ (t : TT) (b o : Nat), a.add (i * 15) = ⟨b, o, none⟩ ∧ ∃ A, TCells W b o t A ∧ TOk W t A := fun i hi => by
            have hi' := hE i hi
            rw [cellsT_, List.getElem?_eq_getElem (by omega), Option.bind_eq_some_iff] at hi'
            obtain ⟨cs', hc', ht'⟩ := hi'
            obtain ⟨b, o, v0, v1, v2, v3, v4, v5, v6, v7, v8, v9, v10, v11, v12, v13, v14, ha, rfl, q0, q1, q2, q3, q4, q5, q6, q7, q8, q9, q10, q11, q12, q13, q14⟩ := cells15_ hc'
            obtain ⟨t, A, hu, hv⟩ := ih.1 _ _ ht' (hsm _ (List.mem_map.2 ⟨_, List.getElem_mem (by omega), rfl⟩))
            simp only [TT.val, Value.cells, List.cons.injEq, and_true] at hu
            obtain ⟨rfl, rfl, rfl, rfl, rfl, rfl, rfl, rfl, rfl, rfl, rfl, rfl, rfl, rfl, rfl⟩ := hu
            exact ⟨t, b, o, ha, A, ⟨q0, q1, q2, q3, q4, q5, q6, q7, q8, q9, q10, q11, q12, q13, q14⟩, hv⟩
          obtain ⟨_, b, o, ha, _⟩ := key 0 (by omega)
          have ha' : a = ⟨b, o, none⟩ := by rw [← ha]; simp [Addr.add]
          subst ha'
          haveI : Inhabited TT := ⟨.mk 0 (.mk 0 0 []) [] 0 0 [] (.mk 0 (.mk 0 0 []) 0 []) []⟩
          obtain ⟨f, hf⟩ := choose_lt key
          refine ⟨(List.range len).map f, some ⟨b, o, none⟩, cap, by simp, by simpa using hlen, ?_⟩
          refine TRow.of b _ o fun i hi => ?_
          have hi' : i < len := by simpa using hi
          obtain ⟨b', o', he, A, hA, hv⟩ := hf i hi'
          rw [add_plain] at he
          simp only [Addr.mk.injEq, and_true] at he
          obtain ⟨rfl, rfl⟩ := he
          exact ⟨A, by simpa using hA, by simpa using hv⟩

set_option maxRecDepth 100000 in
theorem open_term {r : Reach} {b0 : Nat} {v : Value} {d : DataW H} {ps : List MemPlace} {spare : Nat → Bool} {held : Bool} (hv : Value.okWide Try.prog W r b0 47 v) (h : DataW.Trod enc Try.prog W 0 spare held 47 v d ps) (hs : Small d 47) : ∃ t, TIn W t v := by
  obtain ⟨cs, rfl, _⟩ := okWide_struct Try.underlying47 hv
  obtain ⟨fuel, hf⟩ := h
  obtain ⟨t, A, hc, ht⟩ := (read_term fuel).1 _ _ hf hs
  refine ⟨t, A, ?_, ht⟩
  have h2 : cs.toList = (TT.val t A).cells.toList := by simpa [Value.cells] using hc
  have h3 : cs = (TT.val t A).cells := by rw [← Array.toArray_toList (xs := cs), h2]
  rw [h3]; rfl
set_option maxRecDepth 100000 in
theorem open_terms {r : Reach} {b0 : Nat} {v : Value} {d : DataW H} {ps : List MemPlace} {spare : Nat → Bool} {held : Bool} (hv : Value.okWide Try.prog W r b0 45 v) (h : DataW.Trod enc Try.prog W 0 spare held 45 v d ps) (hs : Small d 45) :
    ∃ (l : List TT) (a : Option Addr) (cap : Nat), v = .slice a l.length cap ∧ l.length ≤ 651562446070 ∧ TRow W l a := by
  obtain ⟨a0, len, cap, rfl⟩ := okWide_slice Try.underlying45 hv
  obtain ⟨fuel, hf⟩ := h
  obtain ⟨l, a, cap', hc, hl, hr⟩ := (read_term fuel).2 _ _ hf hs
  simp only [Value.cells, List.cons.injEq, Value.slice.injEq, and_true] at hc
  obtain ⟨rfl, rfl, rfl⟩ := hc
  exact ⟨l, _, _, rfl, hl, hr⟩
end
end Go.Proofs.Yteebbffecaeciaa
/- From the form's reading of a byte to its number. -/
namespace Go.Proofs.Yteebbffecaeciaa
open Go.ChangeShapes Go.WideShapes Go.ChangeAt Go.RowKit Go.Deep
set_option maxRecDepth 100000 in
theorem open_u8 {W : World} {r : Reach} {b0 : Nat} {v : Value} (h : Value.okWide Try.prog W r b0 5 v) : ∃ n, v = .int .u8 n ∧ 0 ≤ n ∧ n ≤ 255 := by
  obtain ⟨n, rfl⟩ := okWide_int Try.underlying5 h
  refine ⟨n, rfl, ?_⟩
  simp only [Value.okWide, Try.underlying5, Cell.okWide, Cell.ok] at h
  have h2 : IntKind.u8.has n := by simpa using h
  unfold IntKind.has at h2
  have a1 : IntKind.u8.min = 0 := by decide
  have a2 : IntKind.u8.max = 255 := by decide
  omega
end Go.Proofs.Yteebbffecaeciaa
/- TermStep: the law's function, walked. -/
namespace Go.Proofs.Yteebbffecaeciaa
open Go.RowKit

theorem step_cnt {b s : TT} (h : false = TT.long [b, s]) (m : Int) : ((tSized m b s).cnt ≤ 3000000 ∧ (tSized m b s).lean = true) ∧ (stepX m b s).cnt ≤ 3000000 ∧ (stepX m b s).lean = true := by
  obtain ⟨h1, h2⟩ := TT.not_long h.symm
  simp only [TT.cnts, TT.leans, Bool.and_eq_true, Nat.add_zero] at h1 h2
  have hT : ∀ m, (tSized m b s).cnt = 1 + (b.cnt + s.cnt) := fun m => by rw [tSized, TT.cnt, TT.cnts, TT.cnts, TT.cnts]; omega
  have hL : ∀ m, (tSized m b s).lean = true := fun m => by
    rw [tSized, TT.lean, TT.leans, TT.leans, TT.leans, h2.1, h2.2.1]
    decide
  refine ⟨⟨by rw [hT]; omega, hL m⟩, ?_, ?_⟩
  · unfold stepX
    split
    · have := TT.cnt_putL (tSized (m - 1) b s) s
      rw [hT] at this
      have h3 : s.cnt * (1 + (b.cnt + s.cnt)) ≤ 1500 * 1500 := Nat.mul_le_mul (by omega) (by omega)
      omega
    · omega
  · unfold stepX
    split
    · exact TT.lean_putL _ (hL _) s h2.2.1
    · exact h2.1
end Go.Proofs.Yteebbffecaeciaa
/- Five arguments; the room of a slice that came in. -/
namespace Go.Proofs.Yteebbffecaeciaa
open Go.ChangeShapes Go.WideShapes Go.ChangeAt Go.RowKit
set_option maxRecDepth 100000 in
theorem okWide_cap {W : World} {r : Reach} {b0 e : Nat} {t : TypeId} {a : Option Addr} {len cap : Nat} (ht : Try.prog.underlying t = some (.slice e)) (h : Value.okWide Try.prog W r b0 t (.slice a len cap)) : len ≤ cap := by
  simp only [Value.okWide, ht, Cell.okWide] at h
  cases a with
  | none =>
    cases len with
    | zero => exact Nat.zero_le _
    | succ n => simp [Cell.ok, ht] at h
  | some a => simp [Cell.ok, ht] at h; exact h.1
end Go.Proofs.Yteebbffecaeciaa
