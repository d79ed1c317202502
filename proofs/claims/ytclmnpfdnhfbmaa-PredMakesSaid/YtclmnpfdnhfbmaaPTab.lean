/- What the temporaries of a region over predicates hold. -/
import Derived.Test.YtclmnpfdnhfbmaaVAnyG
import Derived.Test.YtclmnpfdnhfbmaaPRows
namespace Go.Proofs.Ytclmnpfdnhfbmaa
open Go.RowKit

/-- what a temporary holds. -/
inductive PQ where
  | pred (t : PT)
  | val (t : VT)
  | row (l : List PT)
  | fixed (v : Value)
  | box (T n : Nat)
def PQ.ok : PQ → Value → World → Prop
  | .pred t, v, w => PIn w t v
  | .val t, v, w => VIn w t v
  | .row l, v, w => ∃ a n cap, v = .slice a n cap ∧ n = l.length ∧ PRow w l a
  | .fixed u, v, _ => v = u
  | .box T n, v, w => ∃ b, IsBlock v b ∧ b < w.heap.size ∧ RowAt w T b n
theorem PQ.mono {w w' : World} (hb : Below w.heap.size w w') : ∀ (k : PQ) (v : Value), k.ok v w → k.ok v w'
  | .pred _, _, h => PIn.below hb h
  | .val _, _, h => VIn.below hb h
  | .row _, _, ⟨a, n, cap, e, hn, h⟩ => ⟨a, n, cap, e, hn, h.below hb⟩
  | .fixed _, _, h => h
  | .box _ _, _, ⟨b, e, hlt, h⟩ => ⟨b, e, Nat.lt_of_lt_of_le hlt hb.size, h.below hlt hb⟩
/-- the kinds of the temporaries. -/
def kindP (ks : List (Nat × PQ)) (d : Nat) (v : Value) (w : World) : Prop := ((ks.lookup d).getD (.fixed v)).ok v w
theorem kindP_mono (ks : List (Nat × PQ)) (d : Nat) (v : Value) (w w' : World) (h : kindP ks d v w) (hb : Below w.heap.size w w') : kindP ks d v w' := PQ.mono hb _ _ h
theorem kindP_box {ks : List (Nat × PQ)} {d T n : Nat} (hl : ks.lookup d = some (.box T n)) {v : Value} {w : World} (h : kindP ks d v w) : ∃ b, IsBlock v b ∧ b < w.heap.size := by
  unfold kindP at h
  rw [hl] at h
  obtain ⟨b, e, hlt, _⟩ := h
  exact ⟨b, e, hlt⟩

section
variable {A : List Nat} {o : Oper} {r : Operand → Value} {w : World} {d : Nat} {ks : List (Nat × PQ)}
theorem sg_value {v : Value} (hd : o.dst = some d) (hA : decide (d ∉ A) = true) (h : (execOp r o).run Try.prog w = .ok (.value v) w) (hk : kindP ks d v w) :
    OpDoes Try.prog o r w fun v w' => (∀ d, o.dst = some d → kindP ks d v w' ∧ (d ∈ A → IsBlock v w.heap.size)) ∧ Below w.heap.size w w' :=
  .value h ⟨fun d' e => by rw [hd] at e; cases e; exact ⟨hk, fun h => absurd h (of_decide_eq_true hA)⟩, Below.refl _ _⟩
theorem sg_new {v : Value} {w' : World} (hd : o.dst = some d) (hA : decide (d ∉ A) = true) (h : (execOp r o).run Try.prog w = .ok (.value v) w') (hb : Below w.heap.size w w') (hk : kindP ks d v w') :
    OpDoes Try.prog o r w fun v w' => (∀ d, o.dst = some d → kindP ks d v w' ∧ (d ∈ A → IsBlock v w.heap.size)) ∧ Below w.heap.size w w' :=
  .value h ⟨fun d' e => by rw [hd] at e; cases e; exact ⟨hk, fun h => absurd h (of_decide_eq_true hA)⟩, hb⟩
theorem sg_block {w' : World} (hd : o.dst = some d) (h : (execOp r o).run Try.prog w = .ok (.value (.pointer (some ⟨w.heap.size, 0, none⟩))) w') (hb : Below w.heap.size w w') (hk : kindP ks d (.pointer (some ⟨w.heap.size, 0, none⟩)) w') :
    OpDoes Try.prog o r w fun v w' => (∀ d, o.dst = some d → kindP ks d v w' ∧ (d ∈ A → IsBlock v w.heap.size)) ∧ Below w.heap.size w w' :=
  .value h ⟨fun d' e => by rw [hd] at e; cases e; exact ⟨hk, fun _ => rfl⟩, hb⟩
theorem sg_call {f : FuncId} {args : Array Value} (hd : o.dst = some d) (hA : decide (d ∉ A) = true) (h : (execOp r o).run Try.prog w = .ok (.enter f args) w) (hc : Calls Try.prog f args w fun e w' => ∃ v, e = .returned v ∧ kindP ks d v w' ∧ Below w.heap.size w w') :
    OpDoes Try.prog o r w fun v w' => (∀ d, o.dst = some d → kindP ks d v w' ∧ (d ∈ A → IsBlock v w.heap.size)) ∧ Below w.heap.size w w' :=
  .enter h (hc.mono fun e w' ⟨v, he, hk, hb⟩ => ⟨v, he, fun d' e => by rw [hd] at e; cases e; exact ⟨hk, fun h => absurd h (of_decide_eq_true hA)⟩, hb⟩)
end
theorem made_pred {f : FuncId} {args : Array Value} {w : World} {t : PT} (h : Calls Try.prog f args w (PCopyOf t w)) : Calls Try.prog f args w fun e w' => ∃ v, e = .returned v ∧ PIn w' t v ∧ Below w.heap.size w w' :=
  h.mono fun e w' ⟨x, he, hf, hb⟩ => ⟨x, he, PFIn.pin _ _ hf, hb⟩
theorem made_bool {f : FuncId} {args : Array Value} {w : World} {b c : Bool} (hc : c = b) (h : Calls Try.prog f args w fun e w' => e = .returned (.bool c) ∧ Below w.heap.size w w') : Calls Try.prog f args w fun e w' => ∃ v, e = .returned v ∧ v = .bool b ∧ Below w.heap.size w w' :=
  h.mono fun e w' ⟨he, hb⟩ => ⟨.bool b, by rw [he, hc], rfl, hb⟩
theorem made_int {f : FuncId} {args : Array Value} {w : World} {b c : Int} (hc : c = b) (h : Calls Try.prog f args w fun e w' => e = .returned (.int .i64 c) ∧ Below w.heap.size w w') : Calls Try.prog f args w fun e w' => ∃ v, e = .returned v ∧ v = .int .i64 b ∧ Below w.heap.size w w' :=
  h.mono fun e w' ⟨he, hb⟩ => ⟨.int .i64 b, by rw [he, hc], rfl, hb⟩
theorem fm {α : Type} {p : α → Prop} {a : α} {l : List α} (h : p a) (hl : ∀ x ∈ l, p x) : ∀ x ∈ a :: l, p x := List.forall_mem_cons.2 ⟨h, hl⟩
theorem fmnil {α : Type} {p : α → Prop} : ∀ x ∈ ([] : List α), p x := fun _ h => by cases h
theorem PIn.agg {w : World} {t : PT} {v : Value} (h : PIn w t v) : ∃ k vk vn va vl vc n a len cap, v = .agg #[.int .u8 k, .int .u8 vk, .int .i64 vn, .slice va vl vc, .int .i64 n, .slice a len cap] := by
  obtain ⟨k, x, n, l⟩ := t
  rw [PIn] at h
  obtain ⟨vk, vn, va, vl, vc, a, cap, _, e, _⟩ := h
  exact ⟨k, vk, vn, va, vl, vc, n, a, l.length, cap, e⟩
theorem VIn.agg {w : World} {t : VT} {v : Value} (h : VIn w t v) : ∃ k n a len cap, v = .agg #[.int .u8 k, .int .i64 n, .slice a len cap] := by
  obtain ⟨k, n, l⟩ := t
  obtain ⟨a, cap, _, e, _⟩ := h.open
  exact ⟨k, n, a, l.length, cap, e⟩
/-- a predicate in a box. -/
def BoxP (w : World) (B : Nat) (t : PT) : Prop := ∃ k vk vn va vl vc n a len cap, w.cell? ⟨B, 0, none⟩ = some (.int .u8 k) ∧ w.cell? ⟨B, 1, none⟩ = some (.int .u8 vk) ∧ w.cell? ⟨B, 2, none⟩ = some (.int .i64 vn) ∧ w.cell? ⟨B, 3, none⟩ = some (.slice va vl vc) ∧
  w.cell? ⟨B, 4, none⟩ = some (.int .i64 n) ∧ w.cell? ⟨B, 5, none⟩ = some (.slice a len cap) ∧ PIn w t (.agg #[.int .u8 k, .int .u8 vk, .int .i64 vn, .slice va vl vc, .int .i64 n, .slice a len cap])
theorem BoxP.below {w w' : World} {B : Nat} {t : PT} (h : BoxP w B t) (hb : Below w.heap.size w w') : BoxP w' B t := by
  obtain ⟨k, vk, vn, va, vl, vc, n, a, len, cap, h0, h1, h2, h3, h4, h5, hv⟩ := h
  exact ⟨k, vk, vn, va, vl, vc, n, a, len, cap, cell_stays hb h0, cell_stays hb h1, cell_stays hb h2, cell_stays hb h3, cell_stays hb h4, cell_stays hb h5, hv.below hb⟩
def BoxV (w : World) (B : Nat) (t : VT) : Prop := ∃ k n a len cap, w.cell? ⟨B, 0, none⟩ = some (.int .u8 k) ∧ w.cell? ⟨B, 1, none⟩ = some (.int .i64 n) ∧ w.cell? ⟨B, 2, none⟩ = some (.slice a len cap) ∧ VIn w t (.agg #[.int .u8 k, .int .i64 n, .slice a len cap])
theorem BoxV.below {w w' : World} {B : Nat} {t : VT} (h : BoxV w B t) (hb : Below w.heap.size w w') : BoxV w' B t := by
  obtain ⟨k, n, a, len, cap, h0, h1, h2, hv⟩ := h
  exact ⟨k, n, a, len, cap, cell_stays hb h0, cell_stays hb h1, cell_stays hb h2, hv.below hb⟩
end Go.Proofs.Ytclmnpfdnhfbmaa
