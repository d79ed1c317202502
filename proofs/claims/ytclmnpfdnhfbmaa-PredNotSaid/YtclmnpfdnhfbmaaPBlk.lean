/- What the temporaries of a region hold that makes boxes for predicates. -/
import Derived.Test.YtclmnpfdnhfbmaaVBlocks
import Derived.Test.YtclmnpfdnhfbmaaPTab
import Derived.Test.YtclmnpfdnhfbmaaPOf
namespace Go.Proofs.Ytclmnpfdnhfbmaa
open Go.RowKit

theorem Agree.frozen {S : Nat → Prop} {w W : World} (h : Agree S w W) {b o : Nat} {v : Value} (hb : ¬ S b) (hc : w.cell? ⟨b, o, none⟩ = some v) (hf : w.frozen? ⟨b, o, none⟩ = false) : W.frozen? ⟨b, o, none⟩ = false := by
  have e := h.2 b (lt_of_cell hc) hb
  rw [← hf]
  unfold World.frozen?
  rw [e]
def PQ.okX : PQ → Value → World → (Nat → Prop) → Prop
  | .pred t, v, w, X => ∀ W, Agree X w W → PIn W t v
  | .val t, v, w, X => ∀ W, Agree X w W → VIn W t v
  | .row _, _, _, _ => True
  | .fixed u, v, _, _ => v = u
  | .box T n, v, w, _ => ∃ b, IsBlock v b ∧ b < w.heap.size ∧ RowAt w T b n
def kindX (ks : List (Nat × PQ)) (d : Nat) (v : Value) (w : World) (X : Nat → Prop) : Prop := ((ks.lookup d).getD (.fixed v)).okX v w X
theorem Agree.less {X X' : Nat → Prop} {w W : World} (h : ∀ k, X' k → X k) (ha : Agree X' w W) : Agree X w W := ⟨ha.1, fun k hk hn => ha.2 k hk (fun hx => hn (h k hx))⟩
theorem PQ.subX {w : World} {X X' : Nat → Prop} (h : ∀ k, X' k → X k) : ∀ (k : PQ) (v : Value), k.okX v w X → k.okX v w X'
  | .pred _, _, hk => fun W ha => hk W (ha.less h)
  | .val _, _, hk => fun W ha => hk W (ha.less h)
  | .row _, _, hk => hk
  | .fixed _, _, hk => hk
  | .box _ _, _, hk => hk
theorem Agree.back {X : Nat → Prop} {w w' W : World} (hb : Below w.heap.size w w') (ha : Agree (fun k => X k ∨ w.heap.size ≤ k) w' W) : Agree X w W :=
  ⟨Nat.le_trans hb.size ha.1, fun k hk hn => (ha.2 k (Nat.lt_of_lt_of_le hk hb.size) (fun h => h.elim hn (fun h => by omega))).trans (hb.block k hk)⟩
theorem PQ.growX {w w' : World} {X : Nat → Prop} (hb : Below w.heap.size w w') : ∀ (k : PQ) (v : Value), k.okX v w X → k.okX v w' (fun k => X k ∨ w.heap.size ≤ k)
  | .pred _, _, hk => fun W ha => hk W (ha.back hb)
  | .val _, _, hk => fun W ha => hk W (ha.back hb)
  | .row _, _, hk => hk
  | .fixed _, _, hk => hk
  | .box _ _, _, ⟨b, e, hlt, h⟩ => ⟨b, e, Nat.lt_of_lt_of_le hlt hb.size, h.below hlt hb⟩
theorem kindX_sub (ks : List (Nat × PQ)) (d : Nat) (v : Value) (w : World) (X X' : Nat → Prop) (h : ∀ k, X' k → X k) (hk : kindX ks d v w X) : kindX ks d v w X' := PQ.subX h _ _ hk
theorem kindX_grow (ks : List (Nat × PQ)) (d : Nat) (v : Value) (w w' : World) (X : Nat → Prop) (hk : kindX ks d v w X) (hb : Below w.heap.size w w') : kindX ks d v w' (fun k => X k ∨ w.heap.size ≤ k) := PQ.growX hb _ _ hk
section
variable {A : List Nat} {o : Oper} {r : Operand → Value} {w : World} {d : Nat} {ks : List (Nat × PQ)} {X : Nat → Prop}
theorem notA (hA : decide (d ∉ A) = true) : ∀ k, (X k ∨ (d ∈ A ∧ k = w.heap.size)) → X k := fun _ h => h.elim id (fun h => absurd h.1 (of_decide_eq_true hA))
theorem sb_value {v : Value} (hd : o.dst = some d) (hA : decide (d ∉ A) = true) (h : (execOp r o).run Try.prog w = .ok (.value v) w) (hk : kindX ks d v w X) :
    OpDoes Try.prog o r w fun v w' => (∀ d, o.dst = some d → kindX ks d v w' (fun k => X k ∨ (d ∈ A ∧ k = w.heap.size)) ∧ (d ∈ A → IsBlock v w.heap.size ∧ w.heap.size < w'.heap.size)) ∧ Below w.heap.size w w' :=
  .value h ⟨fun d' e => by rw [hd] at e; cases e; exact ⟨kindX_sub _ _ _ _ _ _ (notA hA) hk, fun h => absurd h (of_decide_eq_true hA)⟩, Below.refl _ _⟩
theorem sb_call {f : FuncId} {args : Array Value} (hd : o.dst = some d) (hA : decide (d ∉ A) = true) (h : (execOp r o).run Try.prog w = .ok (.enter f args) w) (hc : Calls Try.prog f args w fun e w' => ∃ v, e = .returned v ∧ kindX ks d v w' X ∧ Below w.heap.size w w') :
    OpDoes Try.prog o r w fun v w' => (∀ d, o.dst = some d → kindX ks d v w' (fun k => X k ∨ (d ∈ A ∧ k = w.heap.size)) ∧ (d ∈ A → IsBlock v w.heap.size ∧ w.heap.size < w'.heap.size)) ∧ Below w.heap.size w w' :=
  .enter h (hc.mono fun e w' ⟨v, he, hk, hb⟩ => ⟨v, he, fun d' e => by rw [hd] at e; cases e; exact ⟨kindX_sub _ _ _ _ _ _ (notA hA) hk, fun h => absurd h (of_decide_eq_true hA)⟩, hb⟩)
theorem sb_block {w' : World} (hd : o.dst = some d) (h : (execOp r o).run Try.prog w = .ok (.value (.pointer (some ⟨w.heap.size, 0, none⟩))) w') (hb : Below w.heap.size w w') (hlt : w.heap.size < w'.heap.size) (hk : ∀ X, kindX ks d (.pointer (some ⟨w.heap.size, 0, none⟩)) w' X) :
    OpDoes Try.prog o r w fun v w' => (∀ d, o.dst = some d → kindX ks d v w' (fun k => X k ∨ (d ∈ A ∧ k = w.heap.size)) ∧ (d ∈ A → IsBlock v w.heap.size ∧ w.heap.size < w'.heap.size)) ∧ Below w.heap.size w w' :=
  .value h ⟨fun d' e => by rw [hd] at e; cases e; exact ⟨hk _, fun _ => ⟨rfl, hlt⟩⟩, hb⟩
end
/-- what was there before the region. -/
theorem pin_old {wb w : World} {X : Nat → Prop} {t : PT} {v : Value} (h : PIn wb t v) (hb : Below wb.heap.size wb w) (hX : ∀ k, X k → wb.heap.size ≤ k) : PQ.okX (.pred t) v w X := fun W ha =>
  h.mono (fun b o u hc => ha.cell (fun hx => by have := hX b hx; have := lt_of_cell hc; omega) (cell_stays hb hc)) t v
/-- what a maker has made. -/
theorem madeX {f : FuncId} {args : Array Value} {w : World} {t : PT} {X : Nat → Prop} (hX : ∀ k, X k → k < w.heap.size) (h : Calls Try.prog f args w (PCopyOf t w)) : Calls Try.prog f args w fun e w' => ∃ v, e = .returned v ∧ PQ.okX (.pred t) v w' X ∧ Below w.heap.size w w' :=
  h.mono fun e w' ⟨x, he, hf, hb⟩ => ⟨x, he, fun W ha => PFIn.pin _ _ (hf.mono (Nat.le_refl _) (fun b o u hlo hc => ha.cell (fun hx => by have := hX b hx; omega) hc) (fun b o u hlo hc hz => ha.frozen (fun hx => by have := hX b hx; omega) hc hz) t x), hb⟩
theorem Agree.refl (X : Nat → Prop) (w : World) : Agree X w w := ⟨Nat.le_refl _, fun _ _ _ => rfl⟩
end Go.Proofs.Ytclmnpfdnhfbmaa
