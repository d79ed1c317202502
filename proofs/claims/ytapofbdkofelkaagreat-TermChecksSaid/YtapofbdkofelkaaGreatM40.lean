/- Texts of this claim laid into one: TRobust. -/
import Derived.Test.YtapofbdkofelkaaGreatM35
import Derived.Test.YtapofbdkofelkaaGreatM39
/- Rows and terms made anew, in all worlds that are as this one but for some blocks. -/
namespace Go.Proofs.YtapofbdkofelkaaGreat
open Go.RowKit

/-- a row that reads so in all worlds that are as this one but for the blocks of S. -/
def TRowA (S : Nat → Prop) (w : World) (l : List TT) (a : Option Addr) : Prop := ∀ W, AgreeS S w W → TRow W l a
theorem TRowA.below {S : Nat → Prop} {w w' : World} {l : List TT} {a : Option Addr} (h : TRowA S w l a) (hb : Below w.heap.size w w') : TRowA S w' l a := fun W ha => h W (ha.back' hb.size fun k h1 h2 => ⟨h2, hb.block k h1⟩)
theorem TRowA.row {S : Nat → Prop} {w : World} {l : List TT} {a : Option Addr} (h : TRowA S w l a) : TRow w l a := h w ⟨Nat.le_refl _, fun _ _ _ => rfl⟩
theorem TRowA.nil {S : Nat → Prop} {w : World} {a : Option Addr} : TRowA S w [] a := fun _ _ => trow_nil
theorem TRowA.cons {S : Nat → Prop} {w : World} {t : TT} {ts : List TT} {b o : Nat} {A : TA} (hS : ¬ S b) (h : TCells w b o t A) (ht : TOkA S w t A) (hr : TRowA S w ts (some ⟨b, o + 15, none⟩)) : TRowA S w (t :: ts) (some ⟨b, o, none⟩) := fun W ha =>
  trow_cons (h.keep fun _ _ hv => ha.cell hS hv) (ht W ha) (hr W ha)
theorem wpList_row1A {S : Nat → Prop} {ops : Array Oper} {rest : List Oper} {o : Oper} {a : Act} {w : World} {Q : Exit → Act → World → Prop} {s : TT} {A : TA} {x0 : Operand} (hS : ∀ q, S q → q < w.heap.size) (g : o.guard = none) (ho : o.op = .buildSlice 29 1 #[(0, x0)]) (e0 : a.eval x0 = s.val A) (h0 : TOkA S w s A)
    (hk : ∀ w2, TRowA S w2 [s] (some ⟨w.heap.size, 0, none⟩) → Below w.heap.size w w2 → wpList Tryz.prog ops Q rest (a.put o.dst (.slice (some ⟨w.heap.size, 0, none⟩) 1 1)) w2) : wpList Tryz.prog ops Q (o :: rest) a w := by
  obtain ⟨w2, hw2, m2, s2, hc2, _⟩ := row1_new w s A
  exact wpList_plain g fun _ hK => wp_val (run_row1 ho e0 hw2) (hK _ _ (hk w2 (.cons (fun h => by have := hS _ h; omega) hc2 (h0.below m2) .nil) m2))
theorem wpList_store15R {ops : Array Oper} {rest : List Oper} {o : Oper} {a : Act} {w : World} {Q : Exit → Act → World → Prop} {t : TT} {A : TA} {B n T : Nat} {po xo : Operand} (g : o.guard = none) (h : o.op = .store 31 po xo) (d2 : o.dst = none) (e1 : a.eval po = .pointer (some ⟨B, 0, none⟩)) (e2 : a.eval xo = t.val A)
    (hrow : RowAt w T B n) (hq : 15 ≤ n) (hk : ∀ wE, TCells wE B 0 t A → RowAt wE T B n → (∀ b, b ≠ B → wE.heap[b]? = w.heap[b]?) → wE.heap.size = w.heap.size → (∀ lo a, lo ≤ B → Below lo a w → Below lo a wE) → wpList Tryz.prog ops Q rest a wE) : wpList Tryz.prog ops Q (o :: rest) a w :=
  wpList_plain g fun _ hK => wp_skip (run_store15 hrow (q := 0) (by omega) h e1 e2) d2 (hK _ _ (hk _ (cells15 hrow hq) (setL_row B _ w hrow) (fun b hb => setL_block B hb _ w) (setL_size B _ w) (fun lo a hlo h => setL_below B hlo _ _ h)))
theorem TOk.leaf {w : World} {t : TT} {A : TA} (h : TOk w t A) (h1 : t.v.items = []) (h2 : t.vs = []) (h3 : t.ws = []) (h4 : t.p = pNone) (h5 : t.args = []) (S : Nat → Prop) : TOkA S w t A := fun W _ => by
  obtain ⟨k, ⟨vk, vn, vi⟩, vs, lo, hi, ws, p, l⟩ := t
  simp only [TT.v, TT.vs, TT.ws, TT.p, TT.args, VT.items] at h1 h2 h3 h4 h5
  subst h1 h2 h3 h4 h5
  refine TOk.of ⟨⟨by simp [TT.args], by simp [TT.vs], by simp [TT.ws]⟩, VIn.shut (by simp) (by rw [VRow]; trivial), by rw [TT.vs, VRow]; trivial, wrow_nil, PIn.shut (by simp) (VIn.shut (by simp) (by rw [VRow]; trivial)) prow_nil, trow_nil⟩

set_option maxRecDepth 100000 in
set_option maxHeartbeats 4000000 in
theorem lofA (S : Nat → Prop) (k : Int) (l : List TT) (a : Option Addr) (cap : Nat) (w : World) (hl : l.length ≤ 651562446070) (hr : TRowA S w l a) : Calls Tryz.prog 18 #[.int .u8 k, .slice a l.length cap] w fun e w' => ∃ x', e = .returned x' ∧ TInA S w' (tOf k l) x' ∧ Below w.heap.size w w' := by
  obtain ⟨w1, hw1, m1, s1, R1, _⟩ := box15 w (.int .u8 0) (.int .u8 0) (.int .i64 0) (.slice none 0 0) (.slice none 0 0) (.int .i64 0) (.int .i64 0) (.slice none 0 0) (.int .u8 0) (.int .u8 0) (.int .i64 0) (.slice none 0 0) (.int .i64 0) (.slice none 0 0) (.slice none 0 0) 31
  have HTH := Lib.hid (R1.there (q := 0) (m := 15) (by decide))
  obtain ⟨wE, hwE, hc, _, hbe⟩ := stored15 R1 (tOf k l) (plainA a cap)
  have hB := hbe _ _ (Nat.le_refl _) m1
  have HB := Lib.hid hB; have HW := Lib.hid hwE
  clear hB hwE hbe R1 m1
  go_enter Tryz.func18, Tryz.ntmps18
  go_wp2_with (refine wpList_store_mid rfl 31 _ _ rfl w.heap.size 0 _ rfl rfl HTH.out size15 (by simp [Value.oneCell']) ?_)
  generalize hWF : World.setCells w1 w.heap.size 0 _ = wF
  obtain rfl : wE = wF := HW.out.symm.trans hWF
  clear hWF
  exact bodyPost_ret (v := TT.val (tOf k l) (plainA a cap)) (results_cell Tryz.results18 rfl hc) rfl ⟨_, rfl, ⟨_, rfl, fun W ha => tok_plain hl (hr.below HB.out W ha)⟩, HB.out⟩
end Go.Proofs.YtapofbdkofelkaaGreat
