/- Texts of this claim laid into one: VTwo. -/
import Derived.Test.YtapofbdkofelkaaM44
import Derived.OrdersHeld
/- Two boxes made in a region that draws its order, whose reads are taken first. -/
namespace Go.Proofs.Ytapofbdkofelkaa
open Go.RowKit
section
variable {P : Program} {ops : Array Oper} {Q : Exit → Act → World → Prop} {S : World → Prop} {a : Act} {w : World}
theorem wpOp_val {i : Nat} {o : Oper} {v : Value} {w' : World} {K : Act → World → Prop} (ho : ops[i]? = some o) (hg : o.guard = none) (h : (execOp a.eval o).run P w = .ok (.value v) w') (hK : K (a.put o.dst v) w') : wpOp P ops Q i K a w := by
  have hw : Region.wanted o (yielded ops a.tmps) = true := by unfold Region.wanted; rw [hg]
  unfold wpOp
  simp only [ho, hw, if_true, Oper.wp, h, Oper.upon]
  exact .inl hK
theorem wpOp_skip {i : Nat} {o : Oper} {w' : World} {K : Act → World → Prop} (ho : ops[i]? = some o) (hg : o.guard = none) (hd : o.dst = none) (h : (execOp a.eval o).run P w = .ok .skip w') (hK : K a w') : wpOp P ops Q i K a w := by
  have hw : Region.wanted o (yielded ops a.tmps) = true := by unfold Region.wanted; rw [hg]
  unfold wpOp
  simp only [ho, hw, if_true, Oper.wp, h, Oper.upon, hd]
  exact .inl hK
theorem put_comm {a : Act} {d e : Nat} (h : d ≠ e) (u v : Value) : (a.put (some d) u).put (some e) v = (a.put (some e) v).put (some d) u := by
  simp only [Act.put]
  rw [Array.setIfInBounds_comm _ _ h]
/-- a step in a held region: what may come up is one. -/
theorem held_one {i fuel : Nat} {listed : Array Bool} (hr : Region.ready .any ops listed = [i]) (h : wpOp P ops Q i (fun a' w' => S w' ∧ wpAnyH P .any ops Q S fuel (listed.setIfInBounds i true) a' w') a w) : wpAnyH P .any ops Q S (fuel + 1) listed a w :=
  wpAnyH_all hr (by simp) fun j hj => by rw [List.mem_singleton] at hj; subst hj; exact h
/-- what yields in every world that meets S is taken first; the operation is said outright. -/
theorem held_take {i d fuel : Nat} {listed : Array Bool} {v : Value} (op : Op) (hop : (ops[i]?).map (fun o => (o.op, o.guard, o.dst)) = some (op, none, some d)) (hs : Region.noSelect ops = true) (hf : Region.free .any ops listed i = true) (hr : (Region.ready .any ops listed).contains i = true)
    (hQ : ∀ c a w, Q (.panic c) (a.put (some d) v) w → Q (.panic c) a w) (hv : ∀ o : Oper, o.op = op → ∀ W, S W → (execOp a.eval o).run P W = .ok (.value v) W) (hS : S w) (h : wpAnyH P .any ops Q S fuel (listed.setIfInBounds i true) (a.put (some d) v) w) : wpAnyH P .any ops Q S (fuel + 1) listed a w := by
  cases ho : ops[i]? with
  | none => rw [ho] at hop; simp at hop
  | some o =>
    rw [ho] at hop
    simp only [Option.map_some, Option.some.injEq, Prod.mk.injEq] at hop
    have hw : Region.wanted o (yielded ops a.tmps) = true := by unfold Region.wanted; rw [hop.2.1]
    refine wpAnyH_take (v := v) ho hs hf hr ?_ (.inl ⟨hw, hv o hop.1⟩) hS ?_
    · rw [hop.2.2]; exact hQ
    · rw [hop.2.2]; exact h
/-- two boxes of one type are made, in whichever row. -/
theorem held_two_allocs {T k i j di dj fuel : Nat} {oi oj : Oper} {listed : Array Bool} (hi : ops[i]? = some oi) (hj : ops[j]? = some oj) (gi : oi.guard = none) (gj : oj.guard = none) (ai : oi.op = .alloc T) (aj : oj.op = .alloc T) (ei : oi.dst = some di) (ej : oj.dst = some dj) (hne : decide (di ≠ dj) = true) (hij : decide (i ≠ j) = true)
    (hr : Region.ready .any ops listed = [i, j]) (hri : Region.ready .any ops (listed.setIfInBounds i true) = [j]) (hrj : Region.ready .any ops (listed.setIfInBounds j true) = [i]) (hinfo : (P.info? T).map (·.size) = some k) (hz : ((P.info? T).bind (·.zero)).map (·.cells.size) = some k)
    (hS : ∀ w w', S w → Below w.heap.size w w' → S w') (h0 : S w)
    (hK : ∀ b b' w', b ≠ b' → w.heap.size ≤ b → w.heap.size ≤ b' → b < w'.heap.size → b' < w'.heap.size → RowAt w' T b k → RowAt w' T b' k → Below w.heap.size w w' → S w' → wpAnyH P .any ops Q S fuel ((listed.setIfInBounds i true).setIfInBounds j true) ((a.put (some di) (.pointer (some ⟨b, 0, none⟩))).put (some dj) (.pointer (some ⟨b', 0, none⟩))) w') :
    wpAnyH P .any ops Q S (fuel + 1 + 1) listed a w := by
  have hne := of_decide_eq_true hne
  have hij := of_decide_eq_true hij
  have two : ∀ (z z' : Array Value), z.size = k → z'.size = k → ∃ w2, (w.alloc (.cells z T)).alloc (.cells z' T) = w2 ∧ w.heap.size + 1 = (w.alloc (.cells z T)).heap.size ∧ w.heap.size + 1 < w2.heap.size ∧ RowAt w2 T w.heap.size k ∧ RowAt w2 T (w.heap.size + 1) k ∧ Below w.heap.size w (w.alloc (.cells z T)) ∧ Below w.heap.size w w2 := fun z z' hz hz' => by
    have e : w.heap.size + 1 = (w.alloc (.cells z T)).heap.size := by simp
    have r1 := RowAt.new w z T
    have r2 := RowAt.new (w.alloc (.cells z T)) z' T
    rw [hz] at r1
    rw [hz', ← e] at r2
    have b1 : Below w.heap.size w (w.alloc (.cells z T)) := Below.al _
    have b2 : Below (w.alloc (.cells z T)).heap.size (w.alloc (.cells z T)) ((w.alloc (.cells z T)).alloc (.cells z' T)) := Below.al _
    exact ⟨_, rfl, e, by simp, r1.below (by simp) b2, r2, b1, b1.trans (b2.mono (by simp))⟩
  refine wpAnyH_all hr (by simp) fun x hx => ?_
  simp only [List.mem_cons, List.not_mem_nil, or_false] at hx
  rcases hx with rfl | rfl
  · obtain ⟨z, hzs, hrun⟩ := run_allocM (w := w) (r := a.eval) ai hinfo hz
    refine wpOp_val hi gi hrun ?_
    obtain ⟨z', hzs', hrun'⟩ := run_allocM (w := w.alloc (.cells z T)) (r := (a.put oi.dst (.pointer (some ⟨w.heap.size, 0, none⟩))).eval) aj hinfo hz
    obtain ⟨w2, hw2, e, hl, R1, R2, B1, B2⟩ := two z z' hzs hzs'
    rw [hw2, ← e] at hrun'
    refine ⟨hS _ _ h0 B1, held_one hri (wpOp_val hj gj hrun' ⟨hS _ _ h0 B2, ?_⟩)⟩
    rw [ei, ej]
    exact hK _ _ _ (by omega) (by omega) (by omega) (by omega) (by omega) R1 R2 B2 (hS _ _ h0 B2)
  · obtain ⟨z, hzs, hrun⟩ := run_allocM (w := w) (r := a.eval) aj hinfo hz
    refine wpOp_val hj gj hrun ?_
    obtain ⟨z', hzs', hrun'⟩ := run_allocM (w := w.alloc (.cells z T)) (r := (a.put oj.dst (.pointer (some ⟨w.heap.size, 0, none⟩))).eval) ai hinfo hz
    obtain ⟨w2, hw2, e, hl, R1, R2, B1, B2⟩ := two z z' hzs hzs'
    rw [hw2, ← e] at hrun'
    refine ⟨hS _ _ h0 B1, held_one hrj (wpOp_val hi gi hrun' ⟨hS _ _ h0 B2, ?_⟩)⟩
    rw [ei, ej, put_comm (fun h => hne h.symm), Array.setIfInBounds_comm _ _ (fun h => hij h.symm)]
    exact hK _ _ _ (by omega) (by omega) (by omega) (by omega) (by omega) R2 R1 B2 (hS _ _ h0 B2)
end
end Go.Proofs.Ytapofbdkofelkaa
