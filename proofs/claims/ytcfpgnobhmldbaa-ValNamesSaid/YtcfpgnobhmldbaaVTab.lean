/- Tables of values and what is wrong of them, as a region that draws its order makes them. -/
import Derived.Test.YtcfpgnobhmldbaaVAny
import Derived.Test.YtcfpgnobhmldbaaVBox
import Derived.Test.YtcfpgnobhmldbaaVMakeL
import Derived.Test.YtcfpgnobhmldbaaVRowW
namespace Go.Proofs.Ytcfpgnobhmldbaa
open Go.RowKit

/-- what a temporary holds. -/
inductive PK where
  | val (t : VT)
  | elem (t : VT) (e : Int)
  | slice (l : List VT)
  | fixed (v : Value)
  | table (l : List (VT × Int))
/-- row i of a table. -/
def TRow (w : World) (b : Nat) (l : List (VT × Int)) : Prop := ∀ i (h : i < l.length), ∃ v0 v1 v2, w.cell? ⟨b, i * 4, none⟩ = some v0 ∧ w.cell? ⟨b, i * 4 + 1, none⟩ = some v1 ∧ w.cell? ⟨b, i * 4 + 2, none⟩ = some v2 ∧ w.cell? ⟨b, i * 4 + 3, none⟩ = some (.int .i64 l[i].2) ∧ VIn w l[i].1 (.agg #[v0, v1, v2])
def EIn (w : World) (t : VT) (e : Int) (v : Value) : Prop := ∃ k n a len cap, v = .agg #[.int .u8 k, .int .i64 n, .slice a len cap, .int .i64 e] ∧ VIn w t (.agg #[.int .u8 k, .int .i64 n, .slice a len cap])
def PK.ok : PK → Value → World → Prop
  | .val t, v, w => VIn w t v
  | .elem t e, v, w => EIn w t e v
  | .slice l, v, w => ∃ a n cap, v = .slice a n cap ∧ n = l.length ∧ VRow w l a
  | .fixed u, v, _ => v = u
  | .table l, v, w => ∃ b, v = .slice (some ⟨b, 0, none⟩) l.length l.length ∧ TRow w b l
theorem TRow.below {w w' : World} {b : Nat} {l : List (VT × Int)} (h : TRow w b l) (hb : Below w.heap.size w w') : TRow w' b l := fun i hi => by
  obtain ⟨v0, v1, v2, h0, h1, h2, h3, hv⟩ := h i hi
  exact ⟨v0, v1, v2, cell_stays hb h0, cell_stays hb h1, cell_stays hb h2, cell_stays hb h3, hv.below hb⟩
theorem PK.mono {w w' : World} (hb : Below w.heap.size w w') : ∀ (k : PK) (v : Value), k.ok v w → k.ok v w'
  | .val _, _, h => VIn.below hb h
  | .elem _ _, _, ⟨k, n, a, len, cap, e, h⟩ => ⟨k, n, a, len, cap, e, h.below hb⟩
  | .slice _, _, ⟨a, n, cap, e, hn, h⟩ => ⟨a, n, cap, e, hn, h.below hb⟩
  | .fixed _, _, h => h
  | .table _, _, ⟨b, e, h⟩ => ⟨b, e, h.below hb⟩
/-- the kinds from the temporary lo on. -/
def kindAt (lo : Nat) (ks : List PK) (d : Nat) (v : Value) (w : World) : Prop := (ks.getD (d - lo) (.fixed v)).ok v w
theorem kindAt_mono (lo : Nat) (ks : List PK) (d : Nat) (v : Value) (w w' : World) (h : kindAt lo ks d v w) (hb : Below w.heap.size w w') : kindAt lo ks d v w' := PK.mono hb _ _ h

section
variable {o : Oper} {r : Operand → Value} {w : World} {d : Nat} {lo : Nat} {ks : List PK}
/-- an operation that leaves a value, and the world as it was. -/
theorem st_value {v : Value} (hd : o.dst = some d) (h : (execOp r o).run Try.prog w = .ok (.value v) w) (hk : kindAt lo ks d v w) : OpDoes Try.prog o r w fun v w' => (∀ d, o.dst = some d → kindAt lo ks d v w') ∧ Below w.heap.size w w' :=
  .value h ⟨fun d' e => by rw [hd] at e; cases e; exact hk, Below.refl _ _⟩
theorem st_new {v : Value} {w' : World} (hd : o.dst = some d) (h : (execOp r o).run Try.prog w = .ok (.value v) w') (hb : Below w.heap.size w w') (hk : kindAt lo ks d v w') : OpDoes Try.prog o r w fun v w' => (∀ d, o.dst = some d → kindAt lo ks d v w') ∧ Below w.heap.size w w' :=
  .value h ⟨fun d' e => by rw [hd] at e; cases e; exact hk, hb⟩
theorem st_call {f : FuncId} {args : Array Value} (hd : o.dst = some d) (h : (execOp r o).run Try.prog w = .ok (.enter f args) w) (hc : Calls Try.prog f args w fun e w' => ∃ v, e = .returned v ∧ kindAt lo ks d v w' ∧ Below w.heap.size w w') : OpDoes Try.prog o r w fun v w' => (∀ d, o.dst = some d → kindAt lo ks d v w') ∧ Below w.heap.size w w' :=
  .enter h (hc.mono fun e w' ⟨v, he, hk, hb⟩ => ⟨v, he, fun d' e => by rw [hd] at e; cases e; exact hk, hb⟩)
end
theorem fm {α : Type} {p : α → Prop} {a : α} {l : List α} (h : p a) (hl : ∀ x ∈ l, p x) : ∀ x ∈ a :: l, p x := List.forall_mem_cons.2 ⟨h, hl⟩
theorem fmnil {α : Type} {p : α → Prop} : ∀ x ∈ ([] : List α), p x := fun _ h => by cases h
theorem VIn.agg {w : World} {t : VT} {v : Value} (h : VIn w t v) : ∃ k n a len cap, v = .agg #[.int .u8 k, .int .i64 n, .slice a len cap] := by
  obtain ⟨k, n, l⟩ := t
  obtain ⟨a, cap, _, e, _⟩ := h.open
  exact ⟨k, n, a, l.length, cap, e⟩
theorem EIn.of {w : World} {t : VT} {e k n : Int} {a : Option Addr} {len cap : Nat} (h : VIn w t (.agg #[.int .u8 k, .int .i64 n, .slice a len cap])) : EIn w t e (.agg #[.int .u8 k, .int .i64 n, .slice a len cap, .int .i64 e]) := ⟨k, n, a, len, cap, rfl, h⟩
theorem pair_made {t : VT} {l : List VT} {a : Option Addr} {n cap : Nat} {w : World} (ht : t = .mk 3 0 l) (hn : n = l.length) (hl : l.length ≤ 3518437208780) (hr : VRow w l a) :
    Calls Try.prog 14 #[.slice a n cap] w fun e w' => ∃ v, e = .returned v ∧ VIn w' t v ∧ Below w.heap.size w w' :=
  (lpair_any a n cap w).mono fun e w' ⟨he, hb⟩ => ⟨_, he, by subst ht hn; exact VIn.shut hl (hr.below hb), hb⟩
theorem num_made (n : Int) (w : World) : Calls Try.prog 13 #[.int .i64 n] w fun e w' => ∃ v, e = .returned v ∧ VIn w' (.mk 1 n []) v ∧ Below w.heap.size w w' :=
  (lnum_any n w).mono fun e w' ⟨he, hb⟩ => ⟨_, he, VIn.leaf 1 n, hb⟩
theorem vin_items {w : World} {t : VT} {l : List VT} {k n : Int} {a : Option Addr} {m cap : Nat} (ht : t = .mk k n l) (hm : m = l.length) (hl : l.length ≤ 3518437208780) (hr : VRow w l a) : VIn w t (.agg #[.int .u8 k, .int .i64 n, .slice a m cap]) := by
  subst ht hm; exact VIn.shut hl hr
theorem box4 (w : World) (x y z u : Value) (T : Nat) : ∃ w4, w.alloc (.cells #[x, y, z, u] T) = w4 ∧ Below w.heap.size w w4 ∧
    w4.cell? ⟨w.heap.size, 0, none⟩ = some x ∧ w4.cell? ⟨w.heap.size, 1, none⟩ = some y ∧ w4.cell? ⟨w.heap.size, 2, none⟩ = some z ∧ w4.cell? ⟨w.heap.size, 3, none⟩ = some u := by
  refine ⟨_, rfl, Below.al _, ?_, ?_, ?_, ?_⟩
  · go_simp
  · go_simp
  · go_simp
  · go_simp
end Go.Proofs.Ytcfpgnobhmldbaa
