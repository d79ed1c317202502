/- Texts of this claim laid into one: TMakeT. -/
import Derived.Test.YtapofbdkofelkaaGreatM14
/- The makers of chapter 19's law: num, span, self, of, list, sized. -/
namespace Go.Proofs.YtapofbdkofelkaaGreat
open Go.RowKit

/-- what a maker of t hands back. -/
def TMade (t : TT) (w : World) (e : Ending) (w' : World) : Prop := ∃ x', e = .returned x' ∧ TIn w' t x' ∧ Below w.heap.size w w'
theorem stored15 {w1 : World} {B T : Nat} (hrow : RowAt w1 T B 15) (t : TT) (A : TA) : ∃ wE, w1.setCells B 0 [.int .u8 t.kind, .int .u8 t.v.kind, .int .i64 t.v.num, .slice A.va t.v.items.length A.vc, .slice A.sa t.vs.length A.sc, .int .i64 t.lo, .int .i64 t.hi, .slice A.wa t.ws.length A.wc, .int .u8 t.p.kind, .int .u8 t.p.val.kind, .int .i64 t.p.val.num, .slice A.qa t.p.val.items.length A.qc, .int .i64 t.p.num, .slice A.pa t.p.args.length A.pc, .slice A.aa t.args.length A.ac] = wE ∧
    TCells wE B 0 t A ∧ (∀ b o v, b ≠ B → w1.cell? ⟨b, o, none⟩ = some v → wE.cell? ⟨b, o, none⟩ = some v) ∧ ∀ lo a, lo ≤ B → Below lo a w1 → Below lo a wE :=
  ⟨setL B (cellsT 0 t A) w1, setCells_setL B _ 0 w1, cells15 hrow (Nat.le_refl _), fun b o v hb h => by rw [setL_out B b o _ w1 (fun e => absurd e hb)]; exact h, fun lo a hlo h => setL_below B hlo _ _ h⟩
theorem vin_plain (w : World) (k n : Int) : VIn w (.mk k n []) (.agg #[.int .u8 k, .int .i64 n, .slice none 0 0]) := VIn.shut (by simp) (by rw [VRow]; trivial)
theorem pin_none (w : World) : PIn w pNone (.agg #[.int .u8 0, .int .u8 0, .int .i64 0, .slice none 0 0, .int .i64 0, .slice none 0 0]) := PIn.shut (by simp) (vin_plain w 0 0) prow_nil
/-- a term with just a value of no items, two numbers, and arguments. -/
def plainA (aa : Option Addr) (ac : Nat) : TA := ⟨none, 0, none, 0, none, 0, none, 0, none, 0, aa, ac⟩
theorem tok_plain {w : World} {k vk vn lo hi : Int} {l : List TT} {aa : Option Addr} {ac : Nat} (hl : l.length ≤ 651562446070) (hr : TRow w l aa) : TOk w (.mk k (.mk vk vn []) [] lo hi [] pNone l) (plainA aa ac) :=
  TOk.of ⟨⟨hl, by simp [TT.vs], by simp [TT.ws]⟩, vin_plain w vk vn, by rw [TT.vs, VRow]; trivial, wrow_nil, pin_none w, hr⟩

set_option maxRecDepth 100000 in
set_option maxHeartbeats 4000000 in
theorem lnum_any (n : Int) (w : World) : Calls Tryz.prog 17 #[.int .i64 n] w (TMade (.mk 1 (.mk 1 n []) [] 0 0 [] pNone []) w) := by
  obtain ⟨w1, hw1, m1, s1, R1, _⟩ := box15 w (.int .u8 0) (.int .u8 0) (.int .i64 0) (.slice none 0 0) (.slice none 0 0) (.int .i64 0) (.int .i64 0) (.slice none 0 0) (.int .u8 0) (.int .u8 0) (.int .i64 0) (.slice none 0 0) (.int .i64 0) (.slice none 0 0) (.slice none 0 0) 31
  have HTH := Lib.hid (R1.there (q := 0) (m := 15) (by decide))
  have HIN : Hid ((Tryz.prog.info? 31).map (·.size) = some 15) := Lib.hid (by
    obtain ⟨i0, hi, hz0, hz1, hz2⟩ := info_parts zeroT
    rw [hi, Option.map_some, hz1])
  obtain ⟨wE, hwE, hc, _, hbe⟩ := stored15 R1 (.mk 1 (.mk 1 n []) [] 0 0 [] pNone []) (plainA none 0)
  obtain ⟨z0, z1, z2, z3, z4, z5, z6, z7, z8, z9, z10, z11, z12, z13, z14⟩ := hc
  have hB := hbe _ _ (Nat.le_refl _) m1
  have HB := Lib.hid hB; have HW := Lib.hid hwE
  clear hB hwE hbe R1 m1
  go_enter Tryz.func17, Tryz.ntmps17
  go_wp2_with (refine wpList_store_mid rfl 31 _ _ rfl w.heap.size 0 _ rfl rfl HTH.out HIN.out (by simp [Value.oneCell']) ?_)
  generalize hWF : World.setCells w1 w.heap.size 0 _ = wF
  obtain rfl : wE = wF := HW.out.symm.trans hWF
  clear hWF
  refine bodyPost_ret (v := TT.val (.mk 1 (.mk 1 n []) [] 0 0 [] pNone []) (plainA none 0)) ?_ rfl ⟨_, rfl, ⟨_, rfl, tok_plain (by simp) (trow_nil)⟩, HB.out⟩
  simp [results, Tryz.results17, go_sem, TT.val, pNone, vNone, plainA, TT.kind, TT.v, TT.vs, TT.lo, TT.hi, TT.ws, TT.p, TT.args, VT.kind, VT.num, VT.items, PT.kind, PT.val, PT.num, PT.args] at z0 z1 z2 z3 z4 z5 z6 z7 z8 z9 z10 z11 z12 z13 z14 ⊢
  simp [z0, z1, z2, z3, z4, z5, z6, z7, z8, z9, z10, z11, z12, z13, z14]
set_option maxRecDepth 100000 in
set_option maxHeartbeats 4000000 in
theorem lspan_any (lo hi : Int) (w : World) : Calls Tryz.prog 20 #[.int .i64 lo, .int .i64 hi] w (TMade (.mk 2 (.mk 0 0 []) [] lo hi [] pNone []) w) := by
  obtain ⟨w1, hw1, m1, s1, R1, _⟩ := box15 w (.int .u8 0) (.int .u8 0) (.int .i64 0) (.slice none 0 0) (.slice none 0 0) (.int .i64 0) (.int .i64 0) (.slice none 0 0) (.int .u8 0) (.int .u8 0) (.int .i64 0) (.slice none 0 0) (.int .i64 0) (.slice none 0 0) (.slice none 0 0) 31
  have HTH := Lib.hid (R1.there (q := 0) (m := 15) (by decide))
  have HIN : Hid ((Tryz.prog.info? 31).map (·.size) = some 15) := Lib.hid (by
    obtain ⟨i0, hi, hz0, hz1, hz2⟩ := info_parts zeroT
    rw [hi, Option.map_some, hz1])
  obtain ⟨wE, hwE, hc, _, hbe⟩ := stored15 R1 (.mk 2 (.mk 0 0 []) [] lo hi [] pNone []) (plainA none 0)
  obtain ⟨z0, z1, z2, z3, z4, z5, z6, z7, z8, z9, z10, z11, z12, z13, z14⟩ := hc
  have hB := hbe _ _ (Nat.le_refl _) m1
  have HB := Lib.hid hB; have HW := Lib.hid hwE
  clear hB hwE hbe R1 m1
  go_enter Tryz.func20, Tryz.ntmps20
  go_wp2_with (refine wpList_store_mid rfl 31 _ _ rfl w.heap.size 0 _ rfl rfl HTH.out HIN.out (by simp [Value.oneCell']) ?_)
  generalize hWF : World.setCells w1 w.heap.size 0 _ = wF
  obtain rfl : wE = wF := HW.out.symm.trans hWF
  clear hWF
  refine bodyPost_ret (v := TT.val (.mk 2 (.mk 0 0 []) [] lo hi [] pNone []) (plainA none 0)) ?_ rfl ⟨_, rfl, ⟨_, rfl, tok_plain (by simp) (trow_nil)⟩, HB.out⟩
  simp [results, Tryz.results20, go_sem, TT.val, pNone, vNone, plainA, TT.kind, TT.v, TT.vs, TT.lo, TT.hi, TT.ws, TT.p, TT.args, VT.kind, VT.num, VT.items, PT.kind, PT.val, PT.num, PT.args] at z0 z1 z2 z3 z4 z5 z6 z7 z8 z9 z10 z11 z12 z13 z14 ⊢
  simp [z0, z1, z2, z3, z4, z5, z6, z7, z8, z9, z10, z11, z12, z13, z14]
set_option maxRecDepth 100000 in
set_option maxHeartbeats 4000000 in
theorem lself_any (w : World) : Calls Tryz.prog 19 #[] w (TMade (.mk 11 (.mk 0 0 []) [] 0 0 [] pNone []) w) := by
  obtain ⟨w1, hw1, m1, s1, R1, _⟩ := box15 w (.int .u8 0) (.int .u8 0) (.int .i64 0) (.slice none 0 0) (.slice none 0 0) (.int .i64 0) (.int .i64 0) (.slice none 0 0) (.int .u8 0) (.int .u8 0) (.int .i64 0) (.slice none 0 0) (.int .i64 0) (.slice none 0 0) (.slice none 0 0) 31
  have HTH := Lib.hid (R1.there (q := 0) (m := 15) (by decide))
  have HIN : Hid ((Tryz.prog.info? 31).map (·.size) = some 15) := Lib.hid (by
    obtain ⟨i0, hi, hz0, hz1, hz2⟩ := info_parts zeroT
    rw [hi, Option.map_some, hz1])
  obtain ⟨wE, hwE, hc, _, hbe⟩ := stored15 R1 (.mk 11 (.mk 0 0 []) [] 0 0 [] pNone []) (plainA none 0)
  obtain ⟨z0, z1, z2, z3, z4, z5, z6, z7, z8, z9, z10, z11, z12, z13, z14⟩ := hc
  have hB := hbe _ _ (Nat.le_refl _) m1
  have HB := Lib.hid hB; have HW := Lib.hid hwE
  clear hB hwE hbe R1 m1
  go_enter Tryz.func19, Tryz.ntmps19
  go_wp2_with (refine wpList_store_mid rfl 31 _ _ rfl w.heap.size 0 _ rfl rfl HTH.out HIN.out (by simp [Value.oneCell']) ?_)
  generalize hWF : World.setCells w1 w.heap.size 0 _ = wF
  obtain rfl : wE = wF := HW.out.symm.trans hWF
  clear hWF
  refine bodyPost_ret (v := TT.val (.mk 11 (.mk 0 0 []) [] 0 0 [] pNone []) (plainA none 0)) ?_ rfl ⟨_, rfl, ⟨_, rfl, tok_plain (by simp) (trow_nil)⟩, HB.out⟩
  simp [results, Tryz.results19, go_sem, TT.val, pNone, vNone, plainA, TT.kind, TT.v, TT.vs, TT.lo, TT.hi, TT.ws, TT.p, TT.args, VT.kind, VT.num, VT.items, PT.kind, PT.val, PT.num, PT.args] at z0 z1 z2 z3 z4 z5 z6 z7 z8 z9 z10 z11 z12 z13 z14 ⊢
  simp [z0, z1, z2, z3, z4, z5, z6, z7, z8, z9, z10, z11, z12, z13, z14]
set_option maxRecDepth 100000 in
set_option maxHeartbeats 4000000 in
theorem lof_any (k : Int) (l : List TT) (a : Option Addr) (cap : Nat) (w : World) (hl : l.length ≤ 651562446070) (hr : TRow w l a) : Calls Tryz.prog 18 #[.int .u8 k, .slice a l.length cap] w (TMade (.mk k (.mk 0 0 []) [] 0 0 [] pNone l) w) := by
  obtain ⟨w1, hw1, m1, s1, R1, _⟩ := box15 w (.int .u8 0) (.int .u8 0) (.int .i64 0) (.slice none 0 0) (.slice none 0 0) (.int .i64 0) (.int .i64 0) (.slice none 0 0) (.int .u8 0) (.int .u8 0) (.int .i64 0) (.slice none 0 0) (.int .i64 0) (.slice none 0 0) (.slice none 0 0) 31
  have HTH := Lib.hid (R1.there (q := 0) (m := 15) (by decide))
  have HIN : Hid ((Tryz.prog.info? 31).map (·.size) = some 15) := Lib.hid (by
    obtain ⟨i0, hi, hz0, hz1, hz2⟩ := info_parts zeroT
    rw [hi, Option.map_some, hz1])
  obtain ⟨wE, hwE, hc, _, hbe⟩ := stored15 R1 (.mk k (.mk 0 0 []) [] 0 0 [] pNone l) (plainA a cap)
  obtain ⟨z0, z1, z2, z3, z4, z5, z6, z7, z8, z9, z10, z11, z12, z13, z14⟩ := hc
  have hB := hbe _ _ (Nat.le_refl _) m1
  have HB := Lib.hid hB; have HW := Lib.hid hwE
  clear hB hwE hbe R1 m1
  go_enter Tryz.func18, Tryz.ntmps18
  go_wp2_with (refine wpList_store_mid rfl 31 _ _ rfl w.heap.size 0 _ rfl rfl HTH.out HIN.out (by simp [Value.oneCell']) ?_)
  generalize hWF : World.setCells w1 w.heap.size 0 _ = wF
  obtain rfl : wE = wF := HW.out.symm.trans hWF
  clear hWF
  refine bodyPost_ret (v := TT.val (.mk k (.mk 0 0 []) [] 0 0 [] pNone l) (plainA a cap)) ?_ rfl ⟨_, rfl, ⟨_, rfl, tok_plain hl (hr.below HB.out)⟩, HB.out⟩
  simp [results, Tryz.results18, go_sem, TT.val, pNone, vNone, plainA, TT.kind, TT.v, TT.vs, TT.lo, TT.hi, TT.ws, TT.p, TT.args, VT.kind, VT.num, VT.items, PT.kind, PT.val, PT.num, PT.args] at z0 z1 z2 z3 z4 z5 z6 z7 z8 z9 z10 z11 z12 z13 z14 ⊢
  simp [z0, z1, z2, z3, z4, z5, z6, z7, z8, z9, z10, z11, z12, z13, z14]
/-- a box that holds a term. -/
def BoxT (w : World) (B : Nat) (t : TT) : Prop := ∃ A, TCells w B 0 t A ∧ TOk w t A
theorem BoxT.below {w w' : World} {B : Nat} {t : TT} (h : BoxT w B t) (hb : Below w.heap.size w w') : BoxT w' B t := by
  obtain ⟨A, h0, h1⟩ := h; exact ⟨A, h0.below hb, h1.below hb⟩
theorem TCells.range {w : World} {b o : Nat} {t : TT} {A : TA} (h : TCells w b o t A) : w.rangeAt b o (cellsOf t A).toList := by
  obtain ⟨h0, h1, h2, h3, h4, h5, h6, h7, h8, h9, h10, h11, h12, h13, h14⟩ := h
  intro j v hj
  have hlt : j < 15 := (List.getElem?_eq_some_iff.1 hj).1
  rcases (by omega : j = 0 ∨ j = 1 ∨ j = 2 ∨ j = 3 ∨ j = 4 ∨ j = 5 ∨ j = 6 ∨ j = 7 ∨ j = 8 ∨ j = 9 ∨ j = 10 ∨ j = 11 ∨ j = 12 ∨ j = 13 ∨ j = 14) with rfl | rfl | rfl | rfl | rfl | rfl | rfl | rfl | rfl | rfl | rfl | rfl | rfl | rfl | rfl
  all_goals (cases hj; assumption)
theorem size15 : (Tryz.prog.info? 31).map (·.size) = some 15 := by
  obtain ⟨i0, hi, hz0, hz1, hz2⟩ := info_parts zeroT
  rw [hi, Option.map_some, hz1]
theorem run_load15 {w : World} {B q : Nat} {t : TT} {A : TA} (hc : TCells w B q t A) {o : Oper} {r : Operand → Value} {po : Operand} (ho : o.op = .load 31 po) (e1 : r po = .pointer (some ⟨B, q, none⟩)) :
    (execOp r o).run Tryz.prog w = .ok (.value (t.val A)) w := by
  obtain ⟨od, oo, ot, op, oa, og⟩ := o
  simp only at ho
  subst ho
  have h := run_loadAt_mid (P := Tryz.prog) w B q 31 _ _ hc.range Tryz.underlying31 rfl size15
  unfold execOp
  simp only [e1, Sem.run_bind, Sem.run_pure, h, Result.andThen_ok]
  rfl
theorem row1_new (w : World) (t : TT) (A : TA) : ∃ w2, w.alloc (.cells #[.int .u8 t.kind, .int .u8 t.v.kind, .int .i64 t.v.num, .slice A.va t.v.items.length A.vc, .slice A.sa t.vs.length A.sc, .int .i64 t.lo, .int .i64 t.hi, .slice A.wa t.ws.length A.wc, .int .u8 t.p.kind, .int .u8 t.p.val.kind, .int .i64 t.p.val.num, .slice A.qa t.p.val.items.length A.qc, .int .i64 t.p.num, .slice A.pa t.p.args.length A.pc, .slice A.aa t.args.length A.ac] 31) = w2 ∧
    Below w.heap.size w w2 ∧ w.heap.size < w2.heap.size ∧ TCells w2 w.heap.size 0 t A ∧ RowAt w2 31 w.heap.size 15 := by
  obtain ⟨w2, h, m, s, R, hc⟩ := box15 w (.int .u8 t.kind) (.int .u8 t.v.kind) (.int .i64 t.v.num) (.slice A.va t.v.items.length A.vc) (.slice A.sa t.vs.length A.sc) (.int .i64 t.lo) (.int .i64 t.hi) (.slice A.wa t.ws.length A.wc) (.int .u8 t.p.kind) (.int .u8 t.p.val.kind) (.int .i64 t.p.val.num) (.slice A.qa t.p.val.items.length A.qc) (.int .i64 t.p.num) (.slice A.pa t.p.args.length A.pc) (.slice A.aa t.args.length A.ac) 31
  exact ⟨w2, h, m, s, hc, R⟩
set_option maxRecDepth 100000 in
set_option maxHeartbeats 4000000 in
theorem llist_any (lo hi : Int) (t : TT) (x : Value) (w : World) (hx : TIn w t x) : Calls Tryz.prog 21 #[.int .i64 lo, .int .i64 hi, x] w (TMade (tList lo hi t) w) := by
  obtain ⟨A, rfl, hok⟩ := hx
  obtain ⟨w0, hw0, m0, s0, hc0, R0⟩ := row1_new w t A
  obtain ⟨w1, hw1, m1, s1, R1, _⟩ := box15 w0 (.int .u8 0) (.int .u8 0) (.int .i64 0) (.slice none 0 0) (.slice none 0 0) (.int .i64 0) (.int .i64 0) (.slice none 0 0) (.int .u8 0) (.int .u8 0) (.int .i64 0) (.slice none 0 0) (.int .i64 0) (.slice none 0 0) (.slice none 0 0) 31
  have HTH := Lib.hid (R1.there (q := 0) (m := 15) (by decide))
  have HIN : Hid ((Tryz.prog.info? 31).map (·.size) = some 15) := Lib.hid (by
    obtain ⟨i0, hi, hz0, hz1, hz2⟩ := info_parts zeroT
    rw [hi, Option.map_some, hz1])
  obtain ⟨w2, hw2, m2, s2, hc2, R2⟩ := row1_new w1 t A
  have R1 := R1.below s1 m2
  have HTH := Lib.hid (R1.there (q := 0) (m := 15) (by decide))
  obtain ⟨wE, hwE, hc, hk, hbe⟩ := stored15 R1 (tList lo hi t) (plainA (some ⟨w1.heap.size, 0, none⟩) 1)
  have hB : Below w.heap.size w wE := hbe _ _ (Nat.le_of_lt s0) (m0.trans ((m1.trans (m2.mono (Nat.le_of_lt s1))).mono (Nat.le_of_lt s0)))
  have hrow : TRow wE [t] (some ⟨w1.heap.size, 0, none⟩) := trow_cons (hc2.keep fun o v h => hk _ _ _ (by omega) h) (hok.below hB) trow_nil
  have g := hc0.below m1
  obtain ⟨g0, g1, g2, g3, g4, g5, g6, g7, g8, g9, g10, g11, g12, g13, g14⟩ := g
  obtain ⟨z0, z1, z2, z3, z4, z5, z6, z7, z8, z9, z10, z11, z12, z13, z14⟩ := hc
  have HB := Lib.hid hB; have HW := Lib.hid hwE; have HROW := Lib.hid hrow
  clear hB hwE hbe R1 m1 hc2 R2 m2 R0 m0 hc0 hrow hk hok s0 s1 s2
  subst hw2
  unfold TT.val
  go_enter Tryz.func21, Tryz.ntmps21
  go_wp2_with (refine wpList_store_mid rfl 31 _ _ rfl w0.heap.size 0 _ rfl rfl HTH.out HIN.out (by simp [Value.oneCell']) ?_)
  generalize hWF : World.setCells _ w0.heap.size 0 _ = wF
  obtain rfl : wE = wF := HW.out.symm.trans hWF
  clear hWF
  refine bodyPost_ret (v := TT.val (tList lo hi t) (plainA (some ⟨w1.heap.size, 0, none⟩) 1)) ?_ rfl ⟨_, rfl, ⟨_, rfl, tok_plain (by simp) HROW.out⟩, HB.out⟩
  simp [results, Tryz.results21, go_sem, TT.val, tList, pNone, vNone, plainA, TT.kind, TT.v, TT.vs, TT.lo, TT.hi, TT.ws, TT.p, TT.args, VT.kind, VT.num, VT.items, PT.kind, PT.val, PT.num, PT.args] at z0 z1 z2 z3 z4 z5 z6 z7 z8 z9 z10 z11 z12 z13 z14 ⊢
  simp [z0, z1, z2, z3, z4, z5, z6, z7, z8, z9, z10, z11, z12, z13, z14]
end Go.Proofs.YtapofbdkofelkaaGreat
