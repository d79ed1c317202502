/- Texts of this claim laid into one: UBlk. -/
import Derived.Test.YteebbffecaeciaaM49
import Derived.Test.YteebbffecaeciaaM57
/- UnfoldNames: what the temporaries of a region hold that makes a box beside a call; unfold.Put. -/
namespace Go.Proofs.Yteebbffecaeciaa
open Go.RowKit

inductive UQ where
  | term (t : TT)
  | tup (t : TT) (z : Int)
  | fixed (v : Value)
  | box (T n : Nat)
def UQ.okX : UQ → Value → World → (Nat → Prop) → Prop
  | .term t, v, w, X => TInA X w t v
  | .tup t z, v, w, X => ∃ x, v = .tuple #[x, .int .i64 z] ∧ TInA X w t x
  | .fixed u, v, _, _ => v = u
  | .box T n, v, w, _ => ∃ b, IsBlock v b ∧ b < w.heap.size ∧ RowAt w T b n
def kindU (ks : List (Nat × UQ)) (d : Nat) (v : Value) (w : World) (X : Nat → Prop) : Prop := ((ks.lookup d).getD (.fixed v)).okX v w X
theorem TInA.sub {w : World} {X X' : Nat → Prop} (h : ∀ k, X' k → X k) {t : TT} {v : Value} (hk : TInA X w t v) : TInA X' w t v := by
  obtain ⟨A, e, hk⟩ := hk
  exact ⟨A, e, hk.step (Nat.le_refl _) fun k _ h2 => ⟨fun hx => h2 (h k hx), rfl⟩⟩
theorem TInA.growX {w w' : World} {X : Nat → Prop} (hb : Below w.heap.size w w') {t : TT} {v : Value} (hk : TInA X w t v) : TInA (fun k => X k ∨ w.heap.size ≤ k) w' t v := by
  obtain ⟨A, e, hk⟩ := hk
  exact ⟨A, e, hk.step hb.size fun k h1 h2 => ⟨fun h => h.elim h2 (fun h => by omega), hb.block k h1⟩⟩
theorem kindU_sub (ks : List (Nat × UQ)) (d : Nat) (v : Value) (w : World) (X X' : Nat → Prop) (h : ∀ k, X' k → X k) (hk : kindU ks d v w X) : kindU ks d v w X' := by
  unfold kindU at *
  generalize (ks.lookup d).getD (.fixed v) = q at *
  cases q with
  | term t => exact hk.sub h
  | tup t z => obtain ⟨x, e, hx⟩ := hk; exact ⟨x, e, hx.sub h⟩
  | fixed u => exact hk
  | box T n => exact hk
theorem kindU_grow (ks : List (Nat × UQ)) (d : Nat) (v : Value) (w w' : World) (X : Nat → Prop) (hk : kindU ks d v w X) (hb : Below w.heap.size w w') : kindU ks d v w' (fun k => X k ∨ w.heap.size ≤ k) := by
  unfold kindU at *
  generalize (ks.lookup d).getD (.fixed v) = q at *
  cases q with
  | term t => exact hk.growX hb
  | tup t z => obtain ⟨x, e, hx⟩ := hk; exact ⟨x, e, hx.growX hb⟩
  | fixed u => exact hk
  | box T n => obtain ⟨b, e, hlt, h⟩ := hk; exact ⟨b, e, Nat.lt_of_lt_of_le hlt hb.size, h.below hlt hb⟩
theorem ufm {α : Type} {p : α → Prop} {a : α} {l : List α} (h : p a) (hl : ∀ x ∈ l, p x) : ∀ x ∈ a :: l, p x := List.forall_mem_cons.2 ⟨h, hl⟩
theorem ufmnil {α : Type} {p : α → Prop} : ∀ x ∈ ([] : List α), p x := fun _ h => by cases h
section
variable {A : List Nat} {o : Oper} {r : Operand → Value} {w : World} {d : Nat} {ks : List (Nat × UQ)} {X : Nat → Prop}
theorem unotA (hA : decide (d ∉ A) = true) : ∀ k, (X k ∨ (d ∈ A ∧ k = w.heap.size)) → X k := fun _ h => h.elim id (fun h => absurd h.1 (of_decide_eq_true hA))
theorem ub_value {v : Value} (hd : o.dst = some d) (hA : decide (d ∉ A) = true) (h : (execOp r o).run Try.prog w = .ok (.value v) w) (hk : kindU ks d v w X) :
    OpDoes Try.prog o r w fun v w' => (∀ d, o.dst = some d → kindU ks d v w' (fun k => X k ∨ (d ∈ A ∧ k = w.heap.size)) ∧ (d ∈ A → IsBlock v w.heap.size ∧ w.heap.size < w'.heap.size)) ∧ Below w.heap.size w w' :=
  .value h ⟨fun d' e => by rw [hd] at e; cases e; exact ⟨kindU_sub _ _ _ _ _ _ (unotA hA) hk, fun h => absurd h (of_decide_eq_true hA)⟩, Below.refl _ _⟩
theorem ub_call {f : FuncId} {args : Array Value} (hd : o.dst = some d) (hA : decide (d ∉ A) = true) (h : (execOp r o).run Try.prog w = .ok (.enter f args) w) (hc : Calls Try.prog f args w fun e w' => ∃ v, e = .returned v ∧ kindU ks d v w' X ∧ Below w.heap.size w w') :
    OpDoes Try.prog o r w fun v w' => (∀ d, o.dst = some d → kindU ks d v w' (fun k => X k ∨ (d ∈ A ∧ k = w.heap.size)) ∧ (d ∈ A → IsBlock v w.heap.size ∧ w.heap.size < w'.heap.size)) ∧ Below w.heap.size w w' :=
  .enter h (hc.mono fun e w' ⟨v, he, hk, hb⟩ => ⟨v, he, fun d' e => by rw [hd] at e; cases e; exact ⟨kindU_sub _ _ _ _ _ _ (unotA hA) hk, fun h => absurd h (of_decide_eq_true hA)⟩, hb⟩)
theorem ub_block {w' : World} (hd : o.dst = some d) (h : (execOp r o).run Try.prog w = .ok (.value (.pointer (some ⟨w.heap.size, 0, none⟩))) w') (hb : Below w.heap.size w w') (hlt : w.heap.size < w'.heap.size) (hk : ∀ X, kindU ks d (.pointer (some ⟨w.heap.size, 0, none⟩)) w' X) :
    OpDoes Try.prog o r w fun v w' => (∀ d, o.dst = some d → kindU ks d v w' (fun k => X k ∨ (d ∈ A ∧ k = w.heap.size)) ∧ (d ∈ A → IsBlock v w.heap.size ∧ w.heap.size < w'.heap.size)) ∧ Below w.heap.size w w' :=
  .value h ⟨fun d' e => by rw [hd] at e; cases e; exact ⟨hk _, fun _ => ⟨rfl, hlt⟩⟩, hb⟩
end
theorem u_leaf {f : FuncId} {args : Array Value} {w : World} {t : TT} {X : Nat → Prop} (h1 : t.v.items = []) (h2 : t.vs = []) (h3 : t.ws = []) (h4 : t.p = pNone) (h5 : t.args = []) (h : Calls Try.prog f args w (TMade t w)) : Calls Try.prog f args w fun e w' => ∃ v, e = .returned v ∧ TInA X w' t v ∧ Below w.heap.size w w' :=
  h.mono fun _ _ ⟨x, he, ⟨A, e', k⟩, hb⟩ => ⟨x, he, ⟨A, e', k.leaf h1 h2 h3 h4 h5 X⟩, hb⟩
theorem u_made {f : FuncId} {args : Array Value} {w : World} {r : TT × Int} {X : Nat → Prop} (hX : ∀ k, X k → k < w.heap.size) (h : Calls Try.prog f args w (UMade r w)) : Calls Try.prog f args w fun e w' => ∃ v, e = .returned v ∧ UQ.okX (.tup r.1 r.2) v w' X ∧ Below w.heap.size w w' :=
  h.mono fun _ _ ⟨x, he, hx, hb⟩ => ⟨_, he, ⟨x, rfl, hx.robust hX hb.size⟩, hb⟩
theorem wpList_rowK {ops : Array Oper} {rest : List Oper} {o : Oper} {a : Act} {w : World} {Q : Exit → Act → World → Prop} {n : Nat} {parts : Array (Nat × Operand)} (L : List (TT × TA)) (g : o.guard = none) (ho : o.op = .buildSlice 45 n parts) (hn : n = L.length) (h0 : 0 < n) (hs : n ≤ 1000) (hp : (parts.map fun (i, x) => (i, a.eval x)).toList = ((L.map fun x => x.1.val x.2).zipIdx 0).map fun x => (x.2, x.1))
    (hk : ∀ p ∈ L, TOk w p.1 p.2) (hK : ∀ w2, TRow w2 (L.map (·.1)) (some ⟨w.heap.size, 0, none⟩) → Below w.heap.size w w2 → wpList Try.prog ops Q rest (a.put o.dst (.slice (some ⟨w.heap.size, 0, none⟩) n n)) w2) : wpList Try.prog ops Q (o :: rest) a w := by
  obtain ⟨w2, hrun, hb, hlt, hc⟩ := run_rowK (w := w) (r := a.eval) L hn h0 hs hp
  exact wpList_plain g fun K hK' => wp_val (hrun o ho) (hK' _ _ (hK w2 (trow_of hc fun p hp => (hk p hp).below hb) hb))
set_option maxRecDepth 100000 in
set_option maxHeartbeats 8000000 in
theorem uPut_any (t s : TT) (x y : Value) (w : World) (hx : TIn w t x) (hy : TIn w s y) : Calls Try.prog 43 #[x, y] w (TCopyOf (t.put s) w) := by
  obtain ⟨A, rfl, hok⟩ := hx
  obtain ⟨A', rfl, hok'⟩ := hy
  obtain ⟨w0, hw0, m0, s0, hc2, _⟩ := row1_new w t A
  obtain ⟨w1, hw1, m1, s1, hc3, _⟩ := row1_new w0 s A'
  obtain ⟨w2, hw2, m2, s2, R4, _⟩ := box15 w1 (.int .u8 0) (.int .u8 0) (.int .i64 0) (.slice none 0 0) (.slice none 0 0) (.int .i64 0) (.int .i64 0) (.slice none 0 0) (.int .u8 0) (.int .u8 0) (.int .i64 0) (.slice none 0 0) (.int .i64 0) (.slice none 0 0) (.slice none 0 0) 47
  have hB2 : Below w.heap.size w w2 := m0.trans ((m1.trans (m2.mono (Nat.le_of_lt s1))).mono (Nat.le_of_lt s0))
  have HC2 := Lib.hid ((hc2.below m1).below m2); have HC3 := Lib.hid (hc3.below m2); have HR := Lib.hid R4; have HB := Lib.hid hB2; have HOK := Lib.hid (hok.below hB2); have HOK' := Lib.hid (hok'.below hB2); have HZ := Lib.hid (And.intro s0 (And.intro s1 s2))
  clear hc2 hc3 R4 hB2 m0 m1 m2 s0 s1 s2 hok hok'
  unfold TT.val
  go_enter Try.func43, Try.ntmps43
  go_wp2_with (first | refine wpList_load15 (by rfl) (by rfl) (by rfl) HC2.out ?_ | refine wpList_load15 (by rfl) (by rfl) (by rfl) HC3.out ?_)
  refine (uput_any _ t s (t.val A) (s.val A') _ (fun _ => False) (Nat.le_refl _) (TIn.any ⟨A, rfl, HOK.out⟩) (TIn.any ⟨A', rfl, HOK'.out⟩) (fun _ h => h.elim)).mono ?_
  rintro e w3 ⟨z, rfl, ⟨Y, rfl, hY⟩, hb3⟩
  have HY : Hid (TIn w3 (t.put s) (TT.val (t.put s) Y)) := Lib.hid ⟨Y, rfl, hY.ok⟩
  replace HR := Lib.hid (HR.out.below HR.out.lt hb3); replace HB := Lib.hid (HB.out.trans (hb3.mono HB.out.size))
  clear hY hb3
  go_wp2_with fail
  refine (tcopy_any _ (t.put s) _ _ (Nat.le_refl _) HY.out).mono ?_
  rintro e w5 ⟨z, rfl, ⟨Z, rfl, hZ⟩, hb5⟩
  have HZ5 := Lib.hid hZ; have HLT := Lib.hid HR.out.lt
  replace HR := Lib.hid (HR.out.below HR.out.lt hb5); replace HB := Lib.hid (HB.out.trans (hb5.mono HB.out.size))
  clear hZ hb5
  go_wp2_with (first | refine wpList_store15 (t := t.put s) (A := Z) (by rfl) (by rfl) (by rfl) (by rfl) (by rfl) HR.out (by decide) ?_)
  intro wE hcl hkE hsE hbl
  have hz := HZ.out
  have hbe : Below w.heap.size w wE := hbl _ _ (by omega) HB.out
  have HP : Hid (TFOk wE w.heap.size (t.put s) Z) := Lib.hid ((tfok_stored HZ5.out HLT.out hkE).less (by have := HLT.out; omega))
  have HBE2 := Lib.hid hbe
  clear hbl hbe hz hkE hsE
  go_wp2_with fail
  refine bodyPost_ret (v := TT.val (t.put s) Z) ?_ rfl ⟨_, rfl, ⟨Z, rfl, HP.out⟩, HBE2.out⟩
  exact results_cell Try.results43 rfl hcl
end Go.Proofs.Yteebbffecaeciaa
