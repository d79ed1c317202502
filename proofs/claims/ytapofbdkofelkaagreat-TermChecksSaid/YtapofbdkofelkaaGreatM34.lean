/- Texts of this claim laid into one: TAwake. -/
import Derived.Test.YtapofbdkofelkaaGreatM17
import Derived.Test.YtapofbdkofelkaaGreatM13
import Derived.Test.YtapofbdkofelkaaGreatM28
import Derived.Test.YtapofbdkofelkaaGreatM32
import Derived.Test.YtapofbdkofelkaaGreatM33
/- The law's awake: the examples are as they are told. -/
namespace Go.Proofs.YtapofbdkofelkaaGreat
open Go.RowKit

theorem mnum (n : Int) (w : World) : Calls Tryz.prog 17 #[.int .i64 n] w (TMade (tNum n) w) := lnum_any n w
theorem mspan (lo hi : Int) (w : World) : Calls Tryz.prog 20 #[.int .i64 lo, .int .i64 hi] w (TMade (tSpan lo hi) w) := lspan_any lo hi w
theorem mself (w : World) : Calls Tryz.prog 19 #[] w (TMade tSelf w) := lself_any w
theorem mof (k : Int) (l : List TT) (a : Option Addr) (cap : Nat) (w : World) (hl : l.length ≤ 651562446070) (hr : TRow w l a) : Calls Tryz.prog 18 #[.int .u8 k, .slice a l.length cap] w (TMade (tOf k l) w) := lof_any k l a cap w hl hr
theorem made_term {f : FuncId} {args : Array Value} {w : World} {t : TT} (h : Calls Tryz.prog f args w (TMade t w)) : Calls Tryz.prog f args w fun e w' => ∃ v, e = .returned v ∧ TIn w' t v ∧ Below w.heap.size w w' := h
theorem made_copy {f : FuncId} {args : Array Value} {w : World} {t : TT} (h : Calls Tryz.prog f args w (TCopyOf t w)) : Calls Tryz.prog f args w fun e w' => ∃ v, e = .returned v ∧ TIn w' t v ∧ Below w.heap.size w w' := h.mono fun _e _w' ⟨x, he, hf, hb⟩ => ⟨x, he, hf.tin, hb⟩
theorem made_fix {f : FuncId} {args : Array Value} {w : World} {u v : Value} (hv : u = v) (h : Calls Tryz.prog f args w fun e w' => e = .returned u ∧ Below w.heap.size w w') : Calls Tryz.prog f args w fun e w' => ∃ x, e = .returned x ∧ x = v ∧ Below w.heap.size w w' := h.mono fun _e _w' ⟨he, hb⟩ => ⟨u, he, hv, hb⟩
def exX : TT := tSized 2 (tNum 0) (tOf 5 [tSelf, tSpan 0 1])
theorem exX_cnt : exX.cnt ≤ 3000000 := by decide +kernel
theorem exX_lean : exX.lean = true := by decide +kernel
theorem exX_check : exX.check = (0, 0) := by decide +kernel
theorem exX_may : exX.may = true := by decide +kernel
theorem exX_sound : exX.sound = true := by decide +kernel
theorem exX_bulk : exX.Bulk = 8 := by decide +kernel
theorem exX_high : exX.High = 3 := by decide +kernel
theorem exX_nodes : exX.nodes = 6 := by decide +kernel
theorem exX_deep : exX.deep = 3 := by decide +kernel
theorem ex7_cnt : (tNum 7).cnt ≤ 3000000 := by decide +kernel
theorem ex7_lean : (tNum 7).lean = true := by decide +kernel
theorem ex7_bulk : (tNum 7).Bulk = 1 := by decide +kernel
theorem ex7_high : (tNum 7).High = 1 := by decide +kernel
theorem exS_cnt : tSelf.cnt ≤ 3000000 := by decide +kernel
theorem exS_lean : tSelf.lean = true := by decide +kernel
theorem exS_sound : tSelf.sound = false := by decide +kernel
theorem exX_same : TT.same exX exX = true := by decide +kernel
theorem exX_diff : TT.same exX (tNum 0) = false := by decide +kernel
theorem exA_cnt : (tOf 5 [tNum 1, tSelf]).cnt ≤ 3000000 := by decide +kernel
theorem exA_lean : (tOf 5 [tNum 1, tSelf]).lean = true := by decide +kernel
theorem exA_check : (tOf 5 [tNum 1, tSelf]).check = (2, 10) := by decide +kernel
theorem exL_cnt : (tList 0 17 (tNum 1)).cnt ≤ 3000000 := by decide +kernel
theorem exL_lean : (tList 0 17 (tNum 1)).lean = true := by decide +kernel
theorem exL_check : (tList 0 17 (tNum 1)).check = (0, 1) := by decide +kernel
def exF : TT := .mk 3 vNone [] 0 0 [1, 2] pNone [tNum 1]
theorem exF_cnt : exF.cnt ≤ 3000000 := by decide +kernel
theorem exF_lean : exF.lean = true := by decide +kernel
theorem exF_check : exF.check = (0, 4) := by decide +kernel
theorem row2i_new (w : World) (a b : Int) : ∃ w2, w.alloc (.cells #[.int .i64 a, .int .i64 b] 2) = w2 ∧ Below w.heap.size w w2 ∧ w.heap.size < w2.heap.size ∧ WRow w2 [a, b] (some ⟨w.heap.size, 0, none⟩) := by
  refine ⟨_, rfl, Below.al _, by simp, wrow_cons ?_ (wrow_cons ?_ wrow_nil)⟩ <;> go_simp
theorem exF_tok {w : World} {wa aa : Option Addr} (hw : WRow w [1, 2] wa) (hr : TRow w [tNum 1] aa) : TOk w exF ⟨none, 0, none, 0, wa, 2, none, 0, none, 0, aa, 1⟩ :=
  TOk.of ⟨⟨by decide, by decide, by decide⟩, vin_plain w 0 0, by rw [show exF.vs = [] from rfl, VRow]; trivial, hw, pin_none w, hr⟩
theorem run_alloc15 {w : World} {o : Oper} {r : Operand → Value} (ho : o.op = .alloc 31) : (execOp r o).run Tryz.prog w = .ok (.value (.pointer (some ⟨w.heap.size, 0, none⟩))) (w.alloc (.cells #[.int .u8 0, .int .u8 0, .int .i64 0, .slice none 0 0, .slice none 0 0, .int .i64 0, .int .i64 0, .slice none 0 0, .int .u8 0, .int .u8 0, .int .i64 0, .slice none 0 0, .int .i64 0, .slice none 0 0, .slice none 0 0] 31)) := by
  obtain ⟨od, oo, ot, op, oa, og⟩ := o
  simp only at ho
  subst ho
  go_simp
theorem wpList_box15 {ops : Array Oper} {rest : List Oper} {o1 o2 : Oper} {a : Act} {w : World} {Q : Exit → Act → World → Prop} {t : TT} {A : TA} {d : Nat} {xo : Operand} (g1 : o1.guard = none) (h1 : o1.op = .alloc 31) (d1 : o1.dst = some d) (g2 : o2.guard = none) (h2 : o2.op = .store 31 (.tmp d) xo) (d2 : o2.dst = none)
    (e1 : (a.put (some d) (.pointer (some ⟨w.heap.size, 0, none⟩))).eval (.tmp d) = .pointer (some ⟨w.heap.size, 0, none⟩)) (e2 : (a.put (some d) (.pointer (some ⟨w.heap.size, 0, none⟩))).eval xo = t.val A)
    (hk : ∀ wE, TCells wE w.heap.size 0 t A → Below w.heap.size w wE → w.heap.size < wE.heap.size → RowAt wE 31 w.heap.size 15 → wpList Tryz.prog ops Q rest (a.put (some d) (.pointer (some ⟨w.heap.size, 0, none⟩))) wE) : wpList Tryz.prog ops Q (o1 :: o2 :: rest) a w := by
  refine wpList_plain g1 fun K hK => wp_val (run_alloc15 h1) (hK _ _ ?_)
  rw [d1]
  refine wpList_plain g2 fun K' hK' => ?_
  have R : RowAt (w.alloc (.cells #[.int .u8 0, .int .u8 0, .int .i64 0, .slice none 0 0, .slice none 0 0, .int .i64 0, .int .i64 0, .slice none 0 0, .int .u8 0, .int .u8 0, .int .i64 0, .slice none 0 0, .int .i64 0, .slice none 0 0, .slice none 0 0] 31)) 31 w.heap.size 15 := RowAt.new w _ _
  have hb := setL_below w.heap.size (Nat.le_refl _) (cellsT 0 t A) _ (Below.al (w := w) (.cells #[.int .u8 0, .int .u8 0, .int .i64 0, .slice none 0 0, .slice none 0 0, .int .i64 0, .int .i64 0, .slice none 0 0, .int .u8 0, .int .u8 0, .int .i64 0, .slice none 0 0, .int .i64 0, .slice none 0 0, .slice none 0 0] 31))
  exact wp_skip (run_store15 R (q := 0) (by decide) h2 e1 e2) d2 (hK' _ _ (hk _ (cells15 R (by decide)) hb (by rw [setL_size]; simp) (setL_row _ _ _ R)))
theorem wpList_load15 {ops : Array Oper} {rest : List Oper} {o : Oper} {a : Act} {w : World} {Q : Exit → Act → World → Prop} {t : TT} {A : TA} {B q : Nat} {po : Operand} (g : o.guard = none) (h : o.op = .load 31 po) (e : a.eval po = .pointer (some ⟨B, q, none⟩)) (hc : TCells w B q t A)
    (hk : wpList Tryz.prog ops Q rest (a.put o.dst (t.val A)) w) : wpList Tryz.prog ops Q (o :: rest) a w :=
  wpList_plain g fun _ hK => wp_val (run_load15 hc h e) (hK _ _ hk)
theorem wpList_loadB {ops : Array Oper} {rest : List Oper} {o : Oper} {a : Act} {w : World} {Q : Exit → Act → World → Prop} {t : TT} {B : Nat} {po : Operand} (g : o.guard = none) (h : o.op = .load 31 po) (e : a.eval po = .pointer (some ⟨B, 0, none⟩)) (hX : BoxT w B t)
    (hk : ∀ A, TOk w t A → wpList Tryz.prog ops Q rest (a.put o.dst (t.val A)) w) : wpList Tryz.prog ops Q (o :: rest) a w := by
  obtain ⟨A, hc, ht⟩ := hX
  exact wpList_load15 g h e hc (hk A ht)

set_option maxRecDepth 100000 in
set_option maxHeartbeats 8000000 in
theorem tawake_any (w : World) : Calls Tryz.prog 5 #[] w fun e w' => e = .returned (.bool true) ∧ Below w.heap.size w w' := by
  go_enter Tryz.func5, Tryz.ntmps5
  go_wp2_with fail
  refine (mnum 0 _).mono ?_
  rintro e w1 ⟨x1, rfl, ⟨A1, rfl, k1⟩, b1⟩
  go_wp2_with fail
  refine (mself _).mono ?_
  rintro e w2 ⟨x2, rfl, ⟨A2, rfl, k2⟩, b2⟩
  replace k1 := k1.below b2; replace b1 := b1.trans (b2.mono b1.size)
  go_wp2_with fail
  refine (mspan 0 1 _).mono ?_
  rintro e w3 ⟨x3, rfl, ⟨A3, rfl, k3⟩, b3⟩
  replace k1 := k1.below b3; replace k2 := k2.below b3; replace b1 := b1.trans (b3.mono b1.size)
  obtain ⟨w4, hw4, m4, s4, c4, c4'⟩ := row2_new w3 tSelf (tSpan 0 1) A2 A3
  replace k1 := k1.below m4; replace b1 := b1.trans (m4.mono b1.size)
  have hrow : TRow w4 [tSelf, tSpan 0 1] (some ⟨w3.heap.size, 0, none⟩) := trow_cons c4 (k2.below m4) (trow_cons c4' (k3.below m4) trow_nil)
  clear c4 c4' m4 k2 k3 b2 b3
  unfold TT.val
  go_wp2_with fail
  refine (mof 5 [tSelf, tSpan 0 1] _ 2 w4 (by decide) hrow).mono ?_
  rintro e w5 ⟨x5, rfl, ⟨A5, rfl, k5⟩, b5⟩
  replace k1 := k1.below b5; replace b1 := b1.trans (b5.mono b1.size)
  clear hrow hw4 s4 b5
  go_wp2_with fail
  refine (lsized_any 2 _ _ _ _ w5 ⟨A1, rfl, k1⟩ ⟨A5, rfl, k5⟩).mono ?_
  rintro e w6 ⟨x6, rfl, ⟨A6, rfl, k6⟩, b6⟩
  replace b1 := b1.trans (b6.mono b1.size)
  clear k1 k5 b6
  obtain ⟨X, hX⟩ : ∃ X, X = tSized 2 (tNum 0) (tOf 5 [tSelf, tSpan 0 1]) := ⟨_, rfl⟩
  rw [← hX] at k6 ⊢
  have HXE : Hid (X = exX) := Lib.hid hX
  clear hX
  go_wp2_with (refine wpList_box15 (t := X) (A := A6) rfl rfl rfl rfl rfl rfl rfl rfl ?_)
  intro w8 hc8 hb8 _ _
  have HX : Hid (BoxT w8 w6.heap.size X) := Lib.hid ⟨A6, hc8, k6.below hb8⟩
  replace b1 := b1.trans (hb8.mono b1.size)
  clear hc8 k6 hb8
  go_wp2_with (refine wpList_loadB (by rfl) (by rfl) (by rfl) HX.out fun AX hkX => ?_)
  refine (tcheck_any X _ _ (HXE.out ▸ exX_cnt) (HXE.out ▸ exX_lean) ?hx).mono ?_
  case hx => exact ⟨_, rfl, by assumption⟩
  rintro e w9 ⟨rfl, b9⟩
  rw [show X.check = (0, 0) from HXE.out ▸ exX_check]
  replace HX := Lib.hid (HX.out.below b9)
  replace b1 := b1.trans (b9.mono b1.size)
  clear b9
  go_wp2_with fail
  refine (mnum 1 _).mono ?_
  rintro e w10 ⟨x1, rfl, ⟨A1, rfl, k1⟩, b2⟩
  replace HX := Lib.hid (HX.out.below b2); replace b1 := b1.trans (b2.mono b1.size)
  go_wp2_with fail
  refine (mself _).mono ?_
  rintro e w11 ⟨x2, rfl, ⟨A2, rfl, k2⟩, b2⟩
  replace HX := Lib.hid (HX.out.below b2); replace b1 := b1.trans (b2.mono b1.size)
  replace k1 := k1.below b2
  obtain ⟨w12, hw12, m4, s4, c4, c4'⟩ := row2_new w11 (tNum 1) tSelf A1 A2
  replace HX := Lib.hid (HX.out.below m4); replace b1 := b1.trans (m4.mono b1.size)
  have hrow : TRow w12 [tNum 1, tSelf] (some ⟨w11.heap.size, 0, none⟩) := trow_cons c4 (k1.below m4) (trow_cons c4' (k2.below m4) trow_nil)
  clear c4 c4' m4 k2 k1
  unfold TT.val
  go_wp2_with fail
  refine (mof 5 [tNum 1, tSelf] _ 2 w12 (by decide) hrow).mono ?_
  rintro e w13 ⟨x3, rfl, hx3, b2⟩
  replace HX := Lib.hid (HX.out.below b2); replace b1 := b1.trans (b2.mono b1.size)
  clear hrow hw12 s4 b2
  go_wp2_with fail
  refine (tcheck_any _ _ _ exA_cnt exA_lean hx3).mono ?_
  rintro e w14 ⟨rfl, b2⟩
  rw [exA_check]
  replace HX := Lib.hid (HX.out.below b2); replace b1 := b1.trans (b2.mono b1.size)
  clear hx3 b2
  go_wp2_with fail
  refine (mnum 1 _).mono ?_
  rintro e w15 ⟨x1, rfl, k1, b2⟩
  replace HX := Lib.hid (HX.out.below b2); replace b1 := b1.trans (b2.mono b1.size)
  go_wp2_with fail
  refine (llist_any 0 17 _ _ _ k1).mono ?_
  rintro e w16 ⟨x2, rfl, hx3, b2⟩
  replace HX := Lib.hid (HX.out.below b2); replace b1 := b1.trans (b2.mono b1.size)
  clear k1 b2
  go_wp2_with fail
  refine (tcheck_any _ _ _ exL_cnt exL_lean hx3).mono ?_
  rintro e w17 ⟨rfl, b2⟩
  rw [exL_check]
  replace HX := Lib.hid (HX.out.below b2); replace b1 := b1.trans (b2.mono b1.size)
  clear hx3 b2
  obtain ⟨w18, hw18, m4, s4, hwr⟩ := row2i_new w17 1 2
  replace HX := Lib.hid (HX.out.below m4); replace b1 := b1.trans (m4.mono b1.size)
  clear m4
  go_wp2_with fail
  refine (mnum 1 _).mono ?_
  rintro e w19 ⟨x1, rfl, ⟨A1, rfl, k1⟩, b2⟩
  replace HX := Lib.hid (HX.out.below b2); replace b1 := b1.trans (b2.mono b1.size)
  replace hwr := hwr.below b2
  obtain ⟨w20, hw20, m4, s5, c4, _⟩ := row1_new w19 (tNum 1) A1
  replace HX := Lib.hid (HX.out.below m4); replace b1 := b1.trans (m4.mono b1.size)
  replace hwr := hwr.below m4
  have hF : TIn w20 exF (exF.val ⟨none, 0, none, 0, some ⟨w17.heap.size, 0, none⟩, 2, none, 0, none, 0, some ⟨w19.heap.size, 0, none⟩, 1⟩) := ⟨_, rfl, exF_tok hwr (trow_cons c4 (k1.below m4) trow_nil)⟩
  clear c4 m4 k1 hwr b2
  unfold TT.val
  go_wp2_with fail
  refine (tcheck_any exF _ _ exF_cnt exF_lean hF).mono ?_
  rintro e w21 ⟨rfl, b2⟩
  rw [exF_check]
  replace HX := Lib.hid (HX.out.below b2); replace b1 := b1.trans (b2.mono b1.size)
  clear hF b2 hw18 hw20 s4 s5
  have HBV := Lib.hid (fun W (h : Below w21.drew.heap.size w21.drew W) => (Below.refl _ w21).drew.trans h)
  have HXC : X.cnt ≤ 3000000 := HXE.out ▸ exX_cnt
  have HXL : X.lean = true := HXE.out ▸ exX_lean
  go_wp2_with fail
  simp only [List.append_eq, List.cons_append, List.nil_append]
  refine wp_region_all (kindT [(43, .fixed (.int .i64 0)), (44, .fixed (.bool true)), (45, .fixed (.bool true)), (46, .fixed (.int .i64 0)), (47, .fixed (.bool true)), (48, .fixed (.bool true)), (49, .fixed (.bool true)), (50, .term (X)), (51, .fixed (.bool true)), (52, .fixed (.bool true)), (53, .fixed (.bool true)), (54, .term (X)), (55, .fixed (.bool true)), (56, .fixed (.bool true)), (57, .fixed (.bool true)), (58, .term (X)), (59, .fixed (.int .i64 8)), (60, .fixed (.bool true)), (61, .fixed (.bool true)), (62, .fixed (.bool true)), (63, .term (X)), (64, .fixed (.int .i64 3)), (65, .fixed (.bool true)), (66, .fixed (.bool true)), (67, .fixed (.bool true)), (68, .term (X)), (69, .fixed (.int .i64 6)), (70, .fixed (.bool true)), (71, .fixed (.bool true)), (72, .fixed (.bool true)), (73, .term (X)), (74, .fixed (.int .i64 3)), (75, .fixed (.bool true)), (76, .fixed (.bool true)), (77, .fixed (.bool true)), (78, .fixed (.int .i64 2)), (79, .fixed (.bool true)), (80, .fixed (.bool true)), (81, .fixed (.bool true)), (82, .fixed (.int .i64 10)), (83, .fixed (.bool true)), (84, .fixed (.bool true)), (85, .fixed (.bool true)), (86, .fixed (.int .i64 1)), (87, .fixed (.bool true)), (88, .fixed (.bool true)), (89, .fixed (.bool true)), (90, .fixed (.int .i64 4)), (91, .fixed (.bool true)), (92, .fixed (.bool true)), (93, .fixed (.bool true)), (94, .term (tNum 7)), (95, .fixed (.int .i64 1)), (96, .fixed (.bool true)), (97, .fixed (.bool true)), (98, .fixed (.bool true)), (99, .term (tNum 7)), (100, .fixed (.int .i64 1)), (101, .fixed (.bool true)), (102, .fixed (.bool true)), (103, .fixed (.bool true)), (104, .term (tSelf)), (105, .fixed (.bool false)), (106, .fixed (.bool true)), (107, .fixed (.bool true)), (108, .fixed (.bool true)), (109, .term (X)), (110, .term (X)), (111, .term (X)), (112, .fixed (.bool true)), (113, .fixed (.bool true)), (114, .fixed (.bool true)), (115, .term (X)), (116, .term (tNum 0)), (117, .fixed (.bool false)), (118, .fixed (.bool true)), (119, .fixed (.bool true)), (0, .fixed (.bool true))]) 120 (by kernel_rfl) (by kernel_rfl) (by rfl) (kindT_mono _) ?_ ?_
  · as_aux_lemma =>
    show ∀ o ∈ [_, _, _, _, _, _, _, _, _, _, _, _, _, _, _, _, _, _, _, _, _, _, _, _, _, _, _, _, _, _, _, _, _, _, _, _, _, _, _, _, _, _, _, _, _, _, _, _, _, _, _, _, _, _, _, _, _, _, _, _, _, _, _, _, _, _, _, _, _, _, _, _, _, _, _, _, _, _], _
    refine (tfm ?_ (tfm ?_ (tfm ?_ (tfm ?_ (tfm ?_ (tfm ?_ (tfm ?_ (tfm ?_ (tfm ?_ (tfm ?_ (tfm ?_ (tfm ?_ (tfm ?_ (tfm ?_ (tfm ?_ (tfm ?_ (tfm ?_ (tfm ?_ (tfm ?_ (tfm ?_ (tfm ?_ (tfm ?_ (tfm ?_ (tfm ?_ (tfm ?_ (tfm ?_ (tfm ?_ (tfm ?_ (tfm ?_ (tfm ?_ (tfm ?_ (tfm ?_ (tfm ?_ (tfm ?_ (tfm ?_ (tfm ?_ (tfm ?_ (tfm ?_ (tfm ?_ (tfm ?_ (tfm ?_ (tfm ?_ (tfm ?_ (tfm ?_ (tfm ?_ (tfm ?_ (tfm ?_ (tfm ?_ (tfm ?_ (tfm ?_ (tfm ?_ (tfm ?_ (tfm ?_ (tfm ?_ (tfm ?_ (tfm ?_ (tfm ?_ (tfm ?_ (tfm ?_ (tfm ?_ (tfm ?_ (tfm ?_ (tfm ?_ (tfm ?_ (tfm ?_ (tfm ?_ (tfm ?_ (tfm ?_ (tfm ?_ (tfm ?_ (tfm ?_ (tfm ?_ (tfm ?_ (tfm ?_ (tfm ?_ (tfm ?_ (tfm ?_ (tfm ?_ tfmnil))))))))))))))))))))))))))))))))))))))))))))))))))))))))))))))))))))))))))))))
    · intro r W hc hf hs hd hB
      have hBV := HBV.out W hB
      refine want_n rfl ?_
      have e : r (.tmp 2) = .int .i64 0 := hs 2 (of_decide_eq_true (by kernel_rfl))
      exact st_value (v := .int .i64 0) rfl (by decide) (by go_simp) rfl
    · intro r W hc hf hs hd hB
      have hBV := HBV.out W hB
      refine want_n rfl ?_
      have e43 : r (.tmp 43) = .int .i64 0 := hd 43 (by kernel_rfl)
      exact st_value (v := .bool true) rfl (by decide) (by go_simp) rfl
    · intro r W hc hf hs hd hB
      have hBV := HBV.out W hB
      refine want_n rfl ?_
      have e : r (.tmp 44) = .bool true := hd 44 (by kernel_rfl)
      exact st_value (v := .bool true) rfl (by decide) (by go_simp) rfl
    · intro r W hc hf hs hd hB
      have hBV := HBV.out W hB
      refine want_g 2 45 rfl (by kernel_rfl) (hd 45 (by kernel_rfl) : r (.tmp 45) = .bool true) ?_
      have e : r (.tmp 3) = .int .i64 0 := hs 3 (of_decide_eq_true (by kernel_rfl))
      exact st_value (v := .int .i64 0) rfl (by decide) (by go_simp) rfl
    · intro r W hc hf hs hd hB
      have hBV := HBV.out W hB
      refine want_g 2 45 rfl (by kernel_rfl) (hd 45 (by kernel_rfl) : r (.tmp 45) = .bool true) ?_
      have e46 : r (.tmp 46) = .int .i64 0 := hd 46 (by kernel_rfl)
      exact st_value (v := .bool true) rfl (by decide) (by go_simp) rfl
    · intro r W hc hf hs hd hB
      have hBV := HBV.out W hB
      refine want_n rfl ?_
      have e45 : r (.tmp 45) = .bool true := hd 45 (by kernel_rfl)
      have e47 : r (.tmp 47) = .bool true := hd 47 (by kernel_rfl)
      exact st_value (v := .bool true) rfl (by decide) (by go_simp) rfl
    · intro r W hc hf hs hd hB
      have hBV := HBV.out W hB
      refine want_n rfl ?_
      have e : r (.tmp 48) = .bool true := hd 48 (by kernel_rfl)
      exact st_value (v := .bool true) rfl (by decide) (by go_simp) rfl
    · intro r W hc hf hs hd hB
      have hBV := HBV.out W hB
      refine want_g 6 49 rfl (by kernel_rfl) (hd 49 (by kernel_rfl) : r (.tmp 49) = .bool true) ?_
      have e : r (.tmp 1) = .pointer (some ⟨w6.heap.size, 0, none⟩) := hs 1 (of_decide_eq_true (by kernel_rfl))
      obtain ⟨A, hcl, hok⟩ := BoxT.below HX.out hBV
      exact st_value (v := TT.val (X) A) rfl (by decide) (run_load15 hcl rfl e) ⟨A, rfl, hok⟩
    · intro r W hc hf hs hd hB
      have hBV := HBV.out W hB
      refine want_g 6 49 rfl (by kernel_rfl) (hd 49 (by kernel_rfl) : r (.tmp 49) = .bool true) ?_
      have h50 : TIn W (X) (r (.tmp 50)) := hd 50 (by kernel_rfl)
      exact st_call (f := 10) (args := #[r (.tmp 50)]) rfl (by decide) (by go_simp) (made_fix (by rw [HXE.out, exX_may]) (tmay_any _ _ _ HXC HXL h50))
    · intro r W hc hf hs hd hB
      have hBV := HBV.out W hB
      refine want_n rfl ?_
      have e49 : r (.tmp 49) = .bool true := hd 49 (by kernel_rfl)
      have e51 : r (.tmp 51) = .bool true := hd 51 (by kernel_rfl)
      exact st_value (v := .bool true) rfl (by decide) (by go_simp) rfl
    · intro r W hc hf hs hd hB
      have hBV := HBV.out W hB
      refine want_n rfl ?_
      have e : r (.tmp 52) = .bool true := hd 52 (by kernel_rfl)
      exact st_value (v := .bool true) rfl (by decide) (by go_simp) rfl
    · intro r W hc hf hs hd hB
      have hBV := HBV.out W hB
      refine want_g 10 53 rfl (by kernel_rfl) (hd 53 (by kernel_rfl) : r (.tmp 53) = .bool true) ?_
      have e : r (.tmp 1) = .pointer (some ⟨w6.heap.size, 0, none⟩) := hs 1 (of_decide_eq_true (by kernel_rfl))
      obtain ⟨A, hcl, hok⟩ := BoxT.below HX.out hBV
      exact st_value (v := TT.val (X) A) rfl (by decide) (run_load15 hcl rfl e) ⟨A, rfl, hok⟩
    · intro r W hc hf hs hd hB
      have hBV := HBV.out W hB
      refine want_g 10 53 rfl (by kernel_rfl) (hd 53 (by kernel_rfl) : r (.tmp 53) = .bool true) ?_
      have h54 : TIn W (X) (r (.tmp 54)) := hd 54 (by kernel_rfl)
      exact st_call (f := 11) (args := #[r (.tmp 54)]) rfl (by decide) (by go_simp) (made_fix (by rw [HXE.out, exX_sound]) (sound_any _ _ _ HXC HXL h54))
    · intro r W hc hf hs hd hB
      have hBV := HBV.out W hB
      refine want_n rfl ?_
      have e53 : r (.tmp 53) = .bool true := hd 53 (by kernel_rfl)
      have e55 : r (.tmp 55) = .bool true := hd 55 (by kernel_rfl)
      exact st_value (v := .bool true) rfl (by decide) (by go_simp) rfl
    · intro r W hc hf hs hd hB
      have hBV := HBV.out W hB
      refine want_n rfl ?_
      have e : r (.tmp 56) = .bool true := hd 56 (by kernel_rfl)
      exact st_value (v := .bool true) rfl (by decide) (by go_simp) rfl
    · intro r W hc hf hs hd hB
      have hBV := HBV.out W hB
      refine want_g 14 57 rfl (by kernel_rfl) (hd 57 (by kernel_rfl) : r (.tmp 57) = .bool true) ?_
      have e : r (.tmp 1) = .pointer (some ⟨w6.heap.size, 0, none⟩) := hs 1 (of_decide_eq_true (by kernel_rfl))
      obtain ⟨A, hcl, hok⟩ := BoxT.below HX.out hBV
      exact st_value (v := TT.val (X) A) rfl (by decide) (run_load15 hcl rfl e) ⟨A, rfl, hok⟩
    · intro r W hc hf hs hd hB
      have hBV := HBV.out W hB
      refine want_g 14 57 rfl (by kernel_rfl) (hd 57 (by kernel_rfl) : r (.tmp 57) = .bool true) ?_
      have h58 : TIn W (X) (r (.tmp 58)) := hd 58 (by kernel_rfl)
      exact st_call (f := 22) (args := #[r (.tmp 58)]) rfl (by decide) (by go_simp) (made_fix (by rw [HXE.out, exX_bulk]; rfl) (tbulk_any _ _ _ HXC HXL h58))
    · intro r W hc hf hs hd hB
      have hBV := HBV.out W hB
      refine want_g 14 57 rfl (by kernel_rfl) (hd 57 (by kernel_rfl) : r (.tmp 57) = .bool true) ?_
      have e59 : r (.tmp 59) = .int .i64 8 := hd 59 (by kernel_rfl)
      exact st_value (v := .bool true) rfl (by decide) (by go_simp) rfl
    · intro r W hc hf hs hd hB
      have hBV := HBV.out W hB
      refine want_n rfl ?_
      have e57 : r (.tmp 57) = .bool true := hd 57 (by kernel_rfl)
      have e60 : r (.tmp 60) = .bool true := hd 60 (by kernel_rfl)
      exact st_value (v := .bool true) rfl (by decide) (by go_simp) rfl
    · intro r W hc hf hs hd hB
      have hBV := HBV.out W hB
      refine want_n rfl ?_
      have e : r (.tmp 61) = .bool true := hd 61 (by kernel_rfl)
      exact st_value (v := .bool true) rfl (by decide) (by go_simp) rfl
    · intro r W hc hf hs hd hB
      have hBV := HBV.out W hB
      refine want_g 19 62 rfl (by kernel_rfl) (hd 62 (by kernel_rfl) : r (.tmp 62) = .bool true) ?_
      have e : r (.tmp 1) = .pointer (some ⟨w6.heap.size, 0, none⟩) := hs 1 (of_decide_eq_true (by kernel_rfl))
      obtain ⟨A, hcl, hok⟩ := BoxT.below HX.out hBV
      exact st_value (v := TT.val (X) A) rfl (by decide) (run_load15 hcl rfl e) ⟨A, rfl, hok⟩
    · intro r W hc hf hs hd hB
      have hBV := HBV.out W hB
      refine want_g 19 62 rfl (by kernel_rfl) (hd 62 (by kernel_rfl) : r (.tmp 62) = .bool true) ?_
      have h63 : TIn W (X) (r (.tmp 63)) := hd 63 (by kernel_rfl)
      exact st_call (f := 23) (args := #[r (.tmp 63)]) rfl (by decide) (by go_simp) (made_fix (by rw [HXE.out, exX_high]; rfl) (thigh_any _ _ _ HXC HXL h63))
    · intro r W hc hf hs hd hB
      have hBV := HBV.out W hB
      refine want_g 19 62 rfl (by kernel_rfl) (hd 62 (by kernel_rfl) : r (.tmp 62) = .bool true) ?_
      have e64 : r (.tmp 64) = .int .i64 3 := hd 64 (by kernel_rfl)
      exact st_value (v := .bool true) rfl (by decide) (by go_simp) rfl
    · intro r W hc hf hs hd hB
      have hBV := HBV.out W hB
      refine want_n rfl ?_
      have e62 : r (.tmp 62) = .bool true := hd 62 (by kernel_rfl)
      have e65 : r (.tmp 65) = .bool true := hd 65 (by kernel_rfl)
      exact st_value (v := .bool true) rfl (by decide) (by go_simp) rfl
    · intro r W hc hf hs hd hB
      have hBV := HBV.out W hB
      refine want_n rfl ?_
      have e : r (.tmp 66) = .bool true := hd 66 (by kernel_rfl)
      exact st_value (v := .bool true) rfl (by decide) (by go_simp) rfl
    · intro r W hc hf hs hd hB
      have hBV := HBV.out W hB
      refine want_g 24 67 rfl (by kernel_rfl) (hd 67 (by kernel_rfl) : r (.tmp 67) = .bool true) ?_
      have e : r (.tmp 1) = .pointer (some ⟨w6.heap.size, 0, none⟩) := hs 1 (of_decide_eq_true (by kernel_rfl))
      obtain ⟨A, hcl, hok⟩ := BoxT.below HX.out hBV
      exact st_value (v := TT.val (X) A) rfl (by decide) (run_load15 hcl rfl e) ⟨A, rfl, hok⟩
    · intro r W hc hf hs hd hB
      have hBV := HBV.out W hB
      refine want_g 24 67 rfl (by kernel_rfl) (hd 67 (by kernel_rfl) : r (.tmp 67) = .bool true) ?_
      have h68 : TIn W (X) (r (.tmp 68)) := hd 68 (by kernel_rfl)
      exact st_call (f := 24) (args := #[r (.tmp 68)]) rfl (by decide) (by go_simp) (made_fix (by rw [HXE.out, exX_nodes]; rfl) (tnodes_any 3000000 (by decide) _ _ _ HXC HXL h68))
    · intro r W hc hf hs hd hB
      have hBV := HBV.out W hB
      refine want_g 24 67 rfl (by kernel_rfl) (hd 67 (by kernel_rfl) : r (.tmp 67) = .bool true) ?_
      have e69 : r (.tmp 69) = .int .i64 6 := hd 69 (by kernel_rfl)
      exact st_value (v := .bool true) rfl (by decide) (by go_simp) rfl
    · intro r W hc hf hs hd hB
      have hBV := HBV.out W hB
      refine want_n rfl ?_
      have e67 : r (.tmp 67) = .bool true := hd 67 (by kernel_rfl)
      have e70 : r (.tmp 70) = .bool true := hd 70 (by kernel_rfl)
      exact st_value (v := .bool true) rfl (by decide) (by go_simp) rfl
    · intro r W hc hf hs hd hB
      have hBV := HBV.out W hB
      refine want_n rfl ?_
      have e : r (.tmp 71) = .bool true := hd 71 (by kernel_rfl)
      exact st_value (v := .bool true) rfl (by decide) (by go_simp) rfl
    · intro r W hc hf hs hd hB
      have hBV := HBV.out W hB
      refine want_g 29 72 rfl (by kernel_rfl) (hd 72 (by kernel_rfl) : r (.tmp 72) = .bool true) ?_
      have e : r (.tmp 1) = .pointer (some ⟨w6.heap.size, 0, none⟩) := hs 1 (of_decide_eq_true (by kernel_rfl))
      obtain ⟨A, hcl, hok⟩ := BoxT.below HX.out hBV
      exact st_value (v := TT.val (X) A) rfl (by decide) (run_load15 hcl rfl e) ⟨A, rfl, hok⟩
    · intro r W hc hf hs hd hB
      have hBV := HBV.out W hB
      refine want_g 29 72 rfl (by kernel_rfl) (hd 72 (by kernel_rfl) : r (.tmp 72) = .bool true) ?_
      have h73 : TIn W (X) (r (.tmp 73)) := hd 73 (by kernel_rfl)
      exact st_call (f := 25) (args := #[r (.tmp 73)]) rfl (by decide) (by go_simp) (made_fix (by rw [HXE.out, exX_deep]; rfl) (tdeep_any 3000000 (by decide) _ _ _ HXC h73))
    · intro r W hc hf hs hd hB
      have hBV := HBV.out W hB
      refine want_g 29 72 rfl (by kernel_rfl) (hd 72 (by kernel_rfl) : r (.tmp 72) = .bool true) ?_
      have e74 : r (.tmp 74) = .int .i64 3 := hd 74 (by kernel_rfl)
      exact st_value (v := .bool true) rfl (by decide) (by go_simp) rfl
    · intro r W hc hf hs hd hB
      have hBV := HBV.out W hB
      refine want_n rfl ?_
      have e72 : r (.tmp 72) = .bool true := hd 72 (by kernel_rfl)
      have e75 : r (.tmp 75) = .bool true := hd 75 (by kernel_rfl)
      exact st_value (v := .bool true) rfl (by decide) (by go_simp) rfl
    · intro r W hc hf hs hd hB
      have hBV := HBV.out W hB
      refine want_n rfl ?_
      have e : r (.tmp 76) = .bool true := hd 76 (by kernel_rfl)
      exact st_value (v := .bool true) rfl (by decide) (by go_simp) rfl
    · intro r W hc hf hs hd hB
      have hBV := HBV.out W hB
      refine want_g 34 77 rfl (by kernel_rfl) (hd 77 (by kernel_rfl) : r (.tmp 77) = .bool true) ?_
      have e : r (.tmp 4) = .int .i64 2 := hs 4 (of_decide_eq_true (by kernel_rfl))
      exact st_value (v := .int .i64 2) rfl (by decide) (by go_simp) rfl
    · intro r W hc hf hs hd hB
      have hBV := HBV.out W hB
      refine want_g 34 77 rfl (by kernel_rfl) (hd 77 (by kernel_rfl) : r (.tmp 77) = .bool true) ?_
      have e78 : r (.tmp 78) = .int .i64 2 := hd 78 (by kernel_rfl)
      exact st_value (v := .bool true) rfl (by decide) (by go_simp) rfl
    · intro r W hc hf hs hd hB
      have hBV := HBV.out W hB
      refine want_n rfl ?_
      have e77 : r (.tmp 77) = .bool true := hd 77 (by kernel_rfl)
      have e79 : r (.tmp 79) = .bool true := hd 79 (by kernel_rfl)
      exact st_value (v := .bool true) rfl (by decide) (by go_simp) rfl
    · intro r W hc hf hs hd hB
      have hBV := HBV.out W hB
      refine want_n rfl ?_
      have e : r (.tmp 80) = .bool true := hd 80 (by kernel_rfl)
      exact st_value (v := .bool true) rfl (by decide) (by go_simp) rfl
    · intro r W hc hf hs hd hB
      have hBV := HBV.out W hB
      refine want_g 38 81 rfl (by kernel_rfl) (hd 81 (by kernel_rfl) : r (.tmp 81) = .bool true) ?_
      have e : r (.tmp 5) = .int .i64 10 := hs 5 (of_decide_eq_true (by kernel_rfl))
      exact st_value (v := .int .i64 10) rfl (by decide) (by go_simp) rfl
    · intro r W hc hf hs hd hB
      have hBV := HBV.out W hB
      refine want_g 38 81 rfl (by kernel_rfl) (hd 81 (by kernel_rfl) : r (.tmp 81) = .bool true) ?_
      have e82 : r (.tmp 82) = .int .i64 10 := hd 82 (by kernel_rfl)
      exact st_value (v := .bool true) rfl (by decide) (by go_simp) rfl
    · intro r W hc hf hs hd hB
      have hBV := HBV.out W hB
      refine want_n rfl ?_
      have e81 : r (.tmp 81) = .bool true := hd 81 (by kernel_rfl)
      have e83 : r (.tmp 83) = .bool true := hd 83 (by kernel_rfl)
      exact st_value (v := .bool true) rfl (by decide) (by go_simp) rfl
    · intro r W hc hf hs hd hB
      have hBV := HBV.out W hB
      refine want_n rfl ?_
      have e : r (.tmp 84) = .bool true := hd 84 (by kernel_rfl)
      exact st_value (v := .bool true) rfl (by decide) (by go_simp) rfl
    · intro r W hc hf hs hd hB
      have hBV := HBV.out W hB
      refine want_g 42 85 rfl (by kernel_rfl) (hd 85 (by kernel_rfl) : r (.tmp 85) = .bool true) ?_
      have e : r (.tmp 7) = .int .i64 1 := hs 7 (of_decide_eq_true (by kernel_rfl))
      exact st_value (v := .int .i64 1) rfl (by decide) (by go_simp) rfl
    · intro r W hc hf hs hd hB
      have hBV := HBV.out W hB
      refine want_g 42 85 rfl (by kernel_rfl) (hd 85 (by kernel_rfl) : r (.tmp 85) = .bool true) ?_
      have e86 : r (.tmp 86) = .int .i64 1 := hd 86 (by kernel_rfl)
      exact st_value (v := .bool true) rfl (by decide) (by go_simp) rfl
    · intro r W hc hf hs hd hB
      have hBV := HBV.out W hB
      refine want_n rfl ?_
      have e85 : r (.tmp 85) = .bool true := hd 85 (by kernel_rfl)
      have e87 : r (.tmp 87) = .bool true := hd 87 (by kernel_rfl)
      exact st_value (v := .bool true) rfl (by decide) (by go_simp) rfl
    · intro r W hc hf hs hd hB
      have hBV := HBV.out W hB
      refine want_n rfl ?_
      have e : r (.tmp 88) = .bool true := hd 88 (by kernel_rfl)
      exact st_value (v := .bool true) rfl (by decide) (by go_simp) rfl
    · intro r W hc hf hs hd hB
      have hBV := HBV.out W hB
      refine want_g 46 89 rfl (by kernel_rfl) (hd 89 (by kernel_rfl) : r (.tmp 89) = .bool true) ?_
      have e : r (.tmp 9) = .int .i64 4 := hs 9 (of_decide_eq_true (by kernel_rfl))
      exact st_value (v := .int .i64 4) rfl (by decide) (by go_simp) rfl
    · intro r W hc hf hs hd hB
      have hBV := HBV.out W hB
      refine want_g 46 89 rfl (by kernel_rfl) (hd 89 (by kernel_rfl) : r (.tmp 89) = .bool true) ?_
      have e90 : r (.tmp 90) = .int .i64 4 := hd 90 (by kernel_rfl)
      exact st_value (v := .bool true) rfl (by decide) (by go_simp) rfl
    · intro r W hc hf hs hd hB
      have hBV := HBV.out W hB
      refine want_n rfl ?_
      have e89 : r (.tmp 89) = .bool true := hd 89 (by kernel_rfl)
      have e91 : r (.tmp 91) = .bool true := hd 91 (by kernel_rfl)
      exact st_value (v := .bool true) rfl (by decide) (by go_simp) rfl
    · intro r W hc hf hs hd hB
      have hBV := HBV.out W hB
      refine want_n rfl ?_
      have e : r (.tmp 92) = .bool true := hd 92 (by kernel_rfl)
      exact st_value (v := .bool true) rfl (by decide) (by go_simp) rfl
    · intro r W hc hf hs hd hB
      have hBV := HBV.out W hB
      refine want_g 50 93 rfl (by kernel_rfl) (hd 93 (by kernel_rfl) : r (.tmp 93) = .bool true) ?_
      
      exact st_call (f := 17) (args := #[.int .i64 7]) rfl (by decide) (by go_simp) (made_term (mnum 7 _))
    · intro r W hc hf hs hd hB
      have hBV := HBV.out W hB
      refine want_g 50 93 rfl (by kernel_rfl) (hd 93 (by kernel_rfl) : r (.tmp 93) = .bool true) ?_
      have h94 : TIn W (tNum 7) (r (.tmp 94)) := hd 94 (by kernel_rfl)
      exact st_call (f := 22) (args := #[r (.tmp 94)]) rfl (by decide) (by go_simp) (made_fix (by rw [ex7_bulk]; rfl) (tbulk_any _ _ _ ex7_cnt ex7_lean h94))
    · intro r W hc hf hs hd hB
      have hBV := HBV.out W hB
      refine want_g 50 93 rfl (by kernel_rfl) (hd 93 (by kernel_rfl) : r (.tmp 93) = .bool true) ?_
      have e95 : r (.tmp 95) = .int .i64 1 := hd 95 (by kernel_rfl)
      exact st_value (v := .bool true) rfl (by decide) (by go_simp) rfl
    · intro r W hc hf hs hd hB
      have hBV := HBV.out W hB
      refine want_n rfl ?_
      have e93 : r (.tmp 93) = .bool true := hd 93 (by kernel_rfl)
      have e96 : r (.tmp 96) = .bool true := hd 96 (by kernel_rfl)
      exact st_value (v := .bool true) rfl (by decide) (by go_simp) rfl
    · intro r W hc hf hs hd hB
      have hBV := HBV.out W hB
      refine want_n rfl ?_
      have e : r (.tmp 97) = .bool true := hd 97 (by kernel_rfl)
      exact st_value (v := .bool true) rfl (by decide) (by go_simp) rfl
    · intro r W hc hf hs hd hB
      have hBV := HBV.out W hB
      refine want_g 55 98 rfl (by kernel_rfl) (hd 98 (by kernel_rfl) : r (.tmp 98) = .bool true) ?_
      
      exact st_call (f := 17) (args := #[.int .i64 7]) rfl (by decide) (by go_simp) (made_term (mnum 7 _))
    · intro r W hc hf hs hd hB
      have hBV := HBV.out W hB
      refine want_g 55 98 rfl (by kernel_rfl) (hd 98 (by kernel_rfl) : r (.tmp 98) = .bool true) ?_
      have h99 : TIn W (tNum 7) (r (.tmp 99)) := hd 99 (by kernel_rfl)
      exact st_call (f := 23) (args := #[r (.tmp 99)]) rfl (by decide) (by go_simp) (made_fix (by rw [ex7_high]; rfl) (thigh_any _ _ _ ex7_cnt ex7_lean h99))
    · intro r W hc hf hs hd hB
      have hBV := HBV.out W hB
      refine want_g 55 98 rfl (by kernel_rfl) (hd 98 (by kernel_rfl) : r (.tmp 98) = .bool true) ?_
      have e100 : r (.tmp 100) = .int .i64 1 := hd 100 (by kernel_rfl)
      exact st_value (v := .bool true) rfl (by decide) (by go_simp) rfl
    · intro r W hc hf hs hd hB
      have hBV := HBV.out W hB
      refine want_n rfl ?_
      have e98 : r (.tmp 98) = .bool true := hd 98 (by kernel_rfl)
      have e101 : r (.tmp 101) = .bool true := hd 101 (by kernel_rfl)
      exact st_value (v := .bool true) rfl (by decide) (by go_simp) rfl
    · intro r W hc hf hs hd hB
      have hBV := HBV.out W hB
      refine want_n rfl ?_
      have e : r (.tmp 102) = .bool true := hd 102 (by kernel_rfl)
      exact st_value (v := .bool true) rfl (by decide) (by go_simp) rfl
    · intro r W hc hf hs hd hB
      have hBV := HBV.out W hB
      refine want_g 60 103 rfl (by kernel_rfl) (hd 103 (by kernel_rfl) : r (.tmp 103) = .bool true) ?_
      
      exact st_call (f := 19) (args := #[]) rfl (by decide) (by go_simp) (made_term (mself _))
    · intro r W hc hf hs hd hB
      have hBV := HBV.out W hB
      refine want_g 60 103 rfl (by kernel_rfl) (hd 103 (by kernel_rfl) : r (.tmp 103) = .bool true) ?_
      have h104 : TIn W (tSelf) (r (.tmp 104)) := hd 104 (by kernel_rfl)
      exact st_call (f := 11) (args := #[r (.tmp 104)]) rfl (by decide) (by go_simp) (made_fix (by rw [exS_sound]) (sound_any _ _ _ exS_cnt exS_lean h104))
    · intro r W hc hf hs hd hB
      have hBV := HBV.out W hB
      refine want_g 60 103 rfl (by kernel_rfl) (hd 103 (by kernel_rfl) : r (.tmp 103) = .bool true) ?_
      have e105 : r (.tmp 105) = .bool false := hd 105 (by kernel_rfl)
      exact st_value (v := .bool true) rfl (by decide) (by go_simp) rfl
    · intro r W hc hf hs hd hB
      have hBV := HBV.out W hB
      refine want_n rfl ?_
      have e103 : r (.tmp 103) = .bool true := hd 103 (by kernel_rfl)
      have e106 : r (.tmp 106) = .bool true := hd 106 (by kernel_rfl)
      exact st_value (v := .bool true) rfl (by decide) (by go_simp) rfl
    · intro r W hc hf hs hd hB
      have hBV := HBV.out W hB
      refine want_n rfl ?_
      have e : r (.tmp 107) = .bool true := hd 107 (by kernel_rfl)
      exact st_value (v := .bool true) rfl (by decide) (by go_simp) rfl
    · intro r W hc hf hs hd hB
      have hBV := HBV.out W hB
      refine want_g 65 108 rfl (by kernel_rfl) (hd 108 (by kernel_rfl) : r (.tmp 108) = .bool true) ?_
      have e : r (.tmp 1) = .pointer (some ⟨w6.heap.size, 0, none⟩) := hs 1 (of_decide_eq_true (by kernel_rfl))
      obtain ⟨A, hcl, hok⟩ := BoxT.below HX.out hBV
      exact st_value (v := TT.val (X) A) rfl (by decide) (run_load15 hcl rfl e) ⟨A, rfl, hok⟩
    · intro r W hc hf hs hd hB
      have hBV := HBV.out W hB
      refine want_g 65 108 rfl (by kernel_rfl) (hd 108 (by kernel_rfl) : r (.tmp 108) = .bool true) ?_
      have e : r (.tmp 1) = .pointer (some ⟨w6.heap.size, 0, none⟩) := hs 1 (of_decide_eq_true (by kernel_rfl))
      obtain ⟨A, hcl, hok⟩ := BoxT.below HX.out hBV
      exact st_value (v := TT.val (X) A) rfl (by decide) (run_load15 hcl rfl e) ⟨A, rfl, hok⟩
    · intro r W hc hf hs hd hB
      have hBV := HBV.out W hB
      refine want_g 65 108 rfl (by kernel_rfl) (hd 108 (by kernel_rfl) : r (.tmp 108) = .bool true) ?_
      have h110 : TIn W (X) (r (.tmp 110)) := hd 110 (by kernel_rfl)
      exact st_call (f := 26) (args := #[r (.tmp 110)]) rfl (by decide) (by go_simp) (made_copy (tcopy_any 3000000 _ _ _ HXC h110))
    · intro r W hc hf hs hd hB
      have hBV := HBV.out W hB
      refine want_g 65 108 rfl (by kernel_rfl) (hd 108 (by kernel_rfl) : r (.tmp 108) = .bool true) ?_
      have h109 : TIn W (X) (r (.tmp 109)) := hd 109 (by kernel_rfl)
      have h111 : TIn W (X) (r (.tmp 111)) := hd 111 (by kernel_rfl)
      exact st_call (f := 13) (args := #[r (.tmp 109), r (.tmp 111)]) rfl (by decide) (by go_simp) (made_fix (by rw [HXE.out, exX_same]) (tsame_any 3000000 _ _ _ _ _ HXC h109 h111))
    · intro r W hc hf hs hd hB
      have hBV := HBV.out W hB
      refine want_n rfl ?_
      have e108 : r (.tmp 108) = .bool true := hd 108 (by kernel_rfl)
      have e112 : r (.tmp 112) = .bool true := hd 112 (by kernel_rfl)
      exact st_value (v := .bool true) rfl (by decide) (by go_simp) rfl
    · intro r W hc hf hs hd hB
      have hBV := HBV.out W hB
      refine want_n rfl ?_
      have e : r (.tmp 113) = .bool true := hd 113 (by kernel_rfl)
      exact st_value (v := .bool true) rfl (by decide) (by go_simp) rfl
    · intro r W hc hf hs hd hB
      have hBV := HBV.out W hB
      refine want_g 71 114 rfl (by kernel_rfl) (hd 114 (by kernel_rfl) : r (.tmp 114) = .bool true) ?_
      have e : r (.tmp 1) = .pointer (some ⟨w6.heap.size, 0, none⟩) := hs 1 (of_decide_eq_true (by kernel_rfl))
      obtain ⟨A, hcl, hok⟩ := BoxT.below HX.out hBV
      exact st_value (v := TT.val (X) A) rfl (by decide) (run_load15 hcl rfl e) ⟨A, rfl, hok⟩
    · intro r W hc hf hs hd hB
      have hBV := HBV.out W hB
      refine want_g 71 114 rfl (by kernel_rfl) (hd 114 (by kernel_rfl) : r (.tmp 114) = .bool true) ?_
      
      exact st_call (f := 17) (args := #[.int .i64 0]) rfl (by decide) (by go_simp) (made_term (mnum 0 _))
    · intro r W hc hf hs hd hB
      have hBV := HBV.out W hB
      refine want_g 71 114 rfl (by kernel_rfl) (hd 114 (by kernel_rfl) : r (.tmp 114) = .bool true) ?_
      have h115 : TIn W (X) (r (.tmp 115)) := hd 115 (by kernel_rfl)
      have h116 : TIn W (tNum 0) (r (.tmp 116)) := hd 116 (by kernel_rfl)
      exact st_call (f := 13) (args := #[r (.tmp 115), r (.tmp 116)]) rfl (by decide) (by go_simp) (made_fix (by rw [HXE.out, exX_diff]) (tsame_any 3000000 _ _ _ _ _ HXC h115 h116))
    · intro r W hc hf hs hd hB
      have hBV := HBV.out W hB
      refine want_g 71 114 rfl (by kernel_rfl) (hd 114 (by kernel_rfl) : r (.tmp 114) = .bool true) ?_
      have e117 : r (.tmp 117) = .bool false := hd 117 (by kernel_rfl)
      exact st_value (v := .bool true) rfl (by decide) (by go_simp) rfl
    · intro r W hc hf hs hd hB
      have hBV := HBV.out W hB
      refine want_n rfl ?_
      have e114 : r (.tmp 114) = .bool true := hd 114 (by kernel_rfl)
      have e118 : r (.tmp 118) = .bool true := hd 118 (by kernel_rfl)
      exact st_value (v := .bool true) rfl (by decide) (by go_simp) rfl
    · intro r W hc hf hs hd hB
      have hBV := HBV.out W hB
      refine want_n rfl ?_
      have e : r (.tmp 119) = .bool true := hd 119 (by kernel_rfl)
      exact st_value (v := .bool true) rfl (by decide) (by go_simp) rfl
  intro f w22 hfd hB'
  have z0 : f 0 = .bool true := hfd 0 (of_decide_eq_true (by kernel_rfl))
  have hB2 := HBV.out w22 hB'
  rw [show dstsTo _ _ = [43, 44, 45, 46, 47, 48, 49, 50, 51, 52, 53, 54, 55, 56, 57, 58, 59, 60, 61, 62, 63, 64, 65, 66, 67, 68, 69, 70, 71, 72, 73, 74, 75, 76, 77, 78, 79, 80, 81, 82, 83, 84, 85, 86, 87, 88, 89, 90, 91, 92, 93, 94, 95, 96, 97, 98, 99, 100, 101, 102, 103, 104, 105, 106, 107, 108, 109, 110, 111, 112, 113, 114, 115, 116, 117, 118, 119, 0] from by kernel_rfl]
  simp only [fill, List.setIfInBounds_toArray, List.set_cons_succ, List.set_cons_zero, z0]
  clear hfd z0 hB'
  go_wp2_with fail
  go_ret
  exact ⟨rfl, b1.trans (hB2.mono b1.size)⟩
end Go.Proofs.YtapofbdkofelkaaGreat
