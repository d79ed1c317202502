/- Texts of this claim laid into one: TAwake, TPutA, TPut, TOps, VAnyR, TRobust, UMath, ULaws, UEachA, TSpoilW. -/
import Derived.Test.YteebbffecaeciaaM14
import Derived.Test.YteebbffecaeciaaM12
import Derived.Test.YteebbffecaeciaaM25
import Derived.Test.YteebbffecaeciaaM26
import Derived.Test.YteebbffecaeciaaM27
import Derived.Test.YteebbffecaeciaaM13
/- The law's awake: the examples are as they are told. -/
namespace Go.Proofs.Yteebbffecaeciaa
open Go.RowKit

theorem mnum (n : Int) (w : World) : Calls Try.prog 47 #[.int .i64 n] w (TMade (tNum n) w) := lnum_any n w
theorem mspan (lo hi : Int) (w : World) : Calls Try.prog 49 #[.int .i64 lo, .int .i64 hi] w (TMade (tSpan lo hi) w) := lspan_any lo hi w
theorem mself (w : World) : Calls Try.prog 50 #[] w (TMade tSelf w) := lself_any w
theorem mof (k : Int) (l : List TT) (a : Option Addr) (cap : Nat) (w : World) (hl : l.length ≤ 651562446070) (hr : TRow w l a) : Calls Try.prog 48 #[.int .u8 k, .slice a l.length cap] w (TMade (tOf k l) w) := lof_any k l a cap w hl hr
theorem made_term {f : FuncId} {args : Array Value} {w : World} {t : TT} (h : Calls Try.prog f args w (TMade t w)) : Calls Try.prog f args w fun e w' => ∃ v, e = .returned v ∧ TIn w' t v ∧ Below w.heap.size w w' := h
theorem made_copy {f : FuncId} {args : Array Value} {w : World} {t : TT} (h : Calls Try.prog f args w (TCopyOf t w)) : Calls Try.prog f args w fun e w' => ∃ v, e = .returned v ∧ TIn w' t v ∧ Below w.heap.size w w' := h.mono fun _e _w' ⟨x, he, hf, hb⟩ => ⟨x, he, hf.tin, hb⟩
theorem made_fix {f : FuncId} {args : Array Value} {w : World} {u v : Value} (hv : u = v) (h : Calls Try.prog f args w fun e w' => e = .returned u ∧ Below w.heap.size w w') : Calls Try.prog f args w fun e w' => ∃ x, e = .returned x ∧ x = v ∧ Below w.heap.size w w' := h.mono fun _e _w' ⟨he, hb⟩ => ⟨u, he, hv, hb⟩
def exX : TT := tSized 2 (tNum 0) (tOf 5 [tSelf, tSpan 0 1])
theorem exX_cnt : exX.cnt ≤ 3000000 := by decide +kernel
theorem exX_lean : exX.lean = true := by decide +kernel
theorem exX_check : exX.check = (0, 0) := by decide +kernel
theorem exX_may : exX.may = true := by decide +kernel
theorem exX_sound : exX.sound = true := by decide +kernel
theorem exX_bulk : exX.Bulk = 8 := by decide +kernel
theorem exX_high : exX.High = 3 := by decide +kernel
theorem exX_nodes : exX.nodes = 6 := by decide +kernel
theorem exX_deep : exX.deep = 3 := by decide +kernel
theorem ex7_cnt : (tNum 7).cnt ≤ 3000000 := by decide +kernel
theorem ex7_lean : (tNum 7).lean = true := by decide +kernel
theorem ex7_bulk : (tNum 7).Bulk = 1 := by decide +kernel
theorem ex7_high : (tNum 7).High = 1 := by decide +kernel
theorem exS_cnt : tSelf.cnt ≤ 3000000 := by decide +kernel
theorem exS_lean : tSelf.lean = true := by decide +kernel
theorem exS_sound : tSelf.sound = false := by decide +kernel
theorem exX_same : TT.same exX exX = true := by decide +kernel
theorem exX_diff : TT.same exX (tNum 0) = false := by decide +kernel
theorem exA_cnt : (tOf 5 [tNum 1, tSelf]).cnt ≤ 3000000 := by decide +kernel
theorem exA_lean : (tOf 5 [tNum 1, tSelf]).lean = true := by decide +kernel
theorem exA_check : (tOf 5 [tNum 1, tSelf]).check = (2, 10) := by decide +kernel
theorem exL_cnt : (tList 0 17 (tNum 1)).cnt ≤ 3000000 := by decide +kernel
theorem exL_lean : (tList 0 17 (tNum 1)).lean = true := by decide +kernel
theorem exL_check : (tList 0 17 (tNum 1)).check = (0, 1) := by decide +kernel
def exF : TT := .mk 3 vNone [] 0 0 [1, 2] pNone [tNum 1]
theorem exF_cnt : exF.cnt ≤ 3000000 := by decide +kernel
theorem exF_lean : exF.lean = true := by decide +kernel
theorem exF_check : exF.check = (0, 4) := by decide +kernel
theorem row2i_new (w : World) (a b : Int) : ∃ w2, w.alloc (.cells #[.int .i64 a, .int .i64 b] 2) = w2 ∧ Below w.heap.size w w2 ∧ w.heap.size < w2.heap.size ∧ WRow w2 [a, b] (some ⟨w.heap.size, 0, none⟩) := by
  refine ⟨_, rfl, Below.al _, by simp, wrow_cons ?_ (wrow_cons ?_ wrow_nil)⟩ <;> go_simp
theorem exF_tok {w : World} {wa aa : Option Addr} (hw : WRow w [1, 2] wa) (hr : TRow w [tNum 1] aa) : TOk w exF ⟨none, 0, none, 0, wa, 2, none, 0, none, 0, aa, 1⟩ :=
  TOk.of ⟨⟨by decide, by decide, by decide⟩, vin_plain w 0 0, by rw [show exF.vs = [] from rfl, VRow]; trivial, hw, pin_none w, hr⟩
theorem run_alloc15 {w : World} {o : Oper} {r : Operand → Value} (ho : o.op = .alloc 47) : (execOp r o).run Try.prog w = .ok (.value (.pointer (some ⟨w.heap.size, 0, none⟩))) (w.alloc (.cells #[.int .u8 0, .int .u8 0, .int .i64 0, .slice none 0 0, .slice none 0 0, .int .i64 0, .int .i64 0, .slice none 0 0, .int .u8 0, .int .u8 0, .int .i64 0, .slice none 0 0, .int .i64 0, .slice none 0 0, .slice none 0 0] 47)) := by
  obtain ⟨od, oo, ot, op, oa, og⟩ := o
  simp only at ho
  subst ho
  go_simp
theorem wpList_box15 {ops : Array Oper} {rest : List Oper} {o1 o2 : Oper} {a : Act} {w : World} {Q : Exit → Act → World → Prop} {t : TT} {A : TA} {d : Nat} {xo : Operand} (g1 : o1.guard = none) (h1 : o1.op = .alloc 47) (d1 : o1.dst = some d) (g2 : o2.guard = none) (h2 : o2.op = .store 47 (.tmp d) xo) (d2 : o2.dst = none)
    (e1 : (a.put (some d) (.pointer (some ⟨w.heap.size, 0, none⟩))).eval (.tmp d) = .pointer (some ⟨w.heap.size, 0, none⟩)) (e2 : (a.put (some d) (.pointer (some ⟨w.heap.size, 0, none⟩))).eval xo = t.val A)
    (hk : ∀ wE, TCells wE w.heap.size 0 t A → Below w.heap.size w wE → w.heap.size < wE.heap.size → RowAt wE 47 w.heap.size 15 → wpList Try.prog ops Q rest (a.put (some d) (.pointer (some ⟨w.heap.size, 0, none⟩))) wE) : wpList Try.prog ops Q (o1 :: o2 :: rest) a w := by
  refine wpList_plain g1 fun K hK => wp_val (run_alloc15 h1) (hK _ _ ?_)
  rw [d1]
  refine wpList_plain g2 fun K' hK' => ?_
  have R : RowAt (w.alloc (.cells #[.int .u8 0, .int .u8 0, .int .i64 0, .slice none 0 0, .slice none 0 0, .int .i64 0, .int .i64 0, .slice none 0 0, .int .u8 0, .int .u8 0, .int .i64 0, .slice none 0 0, .int .i64 0, .slice none 0 0, .slice none 0 0] 47)) 47 w.heap.size 15 := RowAt.new w _ _
  have hb := setL_below w.heap.size (Nat.le_refl _) (cellsT 0 t A) _ (Below.al (w := w) (.cells #[.int .u8 0, .int .u8 0, .int .i64 0, .slice none 0 0, .slice none 0 0, .int .i64 0, .int .i64 0, .slice none 0 0, .int .u8 0, .int .u8 0, .int .i64 0, .slice none 0 0, .int .i64 0, .slice none 0 0, .slice none 0 0] 47))
  exact wp_skip (run_store15 R (q := 0) (by decide) h2 e1 e2) d2 (hK' _ _ (hk _ (cells15 R (by decide)) hb (by rw [setL_size]; simp) (setL_row _ _ _ R)))
theorem wpList_load15 {ops : Array Oper} {rest : List Oper} {o : Oper} {a : Act} {w : World} {Q : Exit → Act → World → Prop} {t : TT} {A : TA} {B q : Nat} {po : Operand} (g : o.guard = none) (h : o.op = .load 47 po) (e : a.eval po = .pointer (some ⟨B, q, none⟩)) (hc : TCells w B q t A)
    (hk : wpList Try.prog ops Q rest (a.put o.dst (t.val A)) w) : wpList Try.prog ops Q (o :: rest) a w :=
  wpList_plain g fun _ hK => wp_val (run_load15 hc h e) (hK _ _ hk)
theorem wpList_loadB {ops : Array Oper} {rest : List Oper} {o : Oper} {a : Act} {w : World} {Q : Exit → Act → World → Prop} {t : TT} {B : Nat} {po : Operand} (g : o.guard = none) (h : o.op = .load 47 po) (e : a.eval po = .pointer (some ⟨B, 0, none⟩)) (hX : BoxT w B t)
    (hk : ∀ A, TOk w t A → wpList Try.prog ops Q rest (a.put o.dst (t.val A)) w) : wpList Try.prog ops Q (o :: rest) a w := by
  obtain ⟨A, hc, ht⟩ := hX
  exact wpList_load15 g h e hc (hk A ht)

set_option maxRecDepth 100000 in
set_option maxHeartbeats 8000000 in
theorem tawake_any (w : World) : Calls Try.prog 44 #[] w fun e w' => e = .returned (.bool true) ∧ Below w.heap.size w w' := by
  go_enter Try.func44, Try.ntmps44
  go_wp2_with fail
  refine (mnum 0 _).mono ?_
  rintro e w1 ⟨x1, rfl, ⟨A1, rfl, k1⟩, b1⟩
  go_wp2_with fail
  refine (mself _).mono ?_
  rintro e w2 ⟨x2, rfl, ⟨A2, rfl, k2⟩, b2⟩
  replace k1 := k1.below b2; replace b1 := b1.trans (b2.mono b1.size)
  go_wp2_with fail
  refine (mspan 0 1 _).mono ?_
  rintro e w3 ⟨x3, rfl, ⟨A3, rfl, k3⟩, b3⟩
  replace k1 := k1.below b3; replace k2 := k2.below b3; replace b1 := b1.trans (b3.mono b1.size)
  obtain ⟨w4, hw4, m4, s4, c4, c4'⟩ := row2_new w3 tSelf (tSpan 0 1) A2 A3
  replace k1 := k1.below m4; replace b1 := b1.trans (m4.mono b1.size)
  have hrow : TRow w4 [tSelf, tSpan 0 1] (some ⟨w3.heap.size, 0, none⟩) := trow_cons c4 (k2.below m4) (trow_cons c4' (k3.below m4) trow_nil)
  clear c4 c4' m4 k2 k3 b2 b3
  unfold TT.val
  go_wp2_with fail
  refine (mof 5 [tSelf, tSpan 0 1] _ 2 w4 (by decide) hrow).mono ?_
  rintro e w5 ⟨x5, rfl, ⟨A5, rfl, k5⟩, b5⟩
  replace k1 := k1.below b5; replace b1 := b1.trans (b5.mono b1.size)
  clear hrow hw4 s4 b5
  go_wp2_with fail
  refine (lsized_any 2 _ _ _ _ w5 ⟨A1, rfl, k1⟩ ⟨A5, rfl, k5⟩).mono ?_
  rintro e w6 ⟨x6, rfl, ⟨A6, rfl, k6⟩, b6⟩
  replace b1 := b1.trans (b6.mono b1.size)
  clear k1 k5 b6
  obtain ⟨X, hX⟩ : ∃ X, X = tSized 2 (tNum 0) (tOf 5 [tSelf, tSpan 0 1]) := ⟨_, rfl⟩
  rw [← hX] at k6 ⊢
  have HXE : Hid (X = exX) := Lib.hid hX
  clear hX
  go_wp2_with (refine wpList_box15 (t := X) (A := A6) rfl rfl rfl rfl rfl rfl rfl rfl ?_)
  intro w8 hc8 hb8 _ _
  have HX : Hid (BoxT w8 w6.heap.size X) := Lib.hid ⟨A6, hc8, k6.below hb8⟩
  replace b1 := b1.trans (hb8.mono b1.size)
  clear hc8 k6 hb8
  go_wp2_with (refine wpList_loadB (by rfl) (by rfl) (by rfl) HX.out fun AX hkX => ?_)
  refine (tcheck_any X _ _ (HXE.out ▸ exX_cnt) (HXE.out ▸ exX_lean) ?hx).mono ?_
  case hx => exact ⟨_, rfl, by assumption⟩
  rintro e w9 ⟨rfl, b9⟩
  rw [show X.check = (0, 0) from HXE.out ▸ exX_check]
  replace HX := Lib.hid (HX.out.below b9)
  replace b1 := b1.trans (b9.mono b1.size)
  clear b9
  go_wp2_with fail
  refine (mnum 1 _).mono ?_
  rintro e w10 ⟨x1, rfl, ⟨A1, rfl, k1⟩, b2⟩
  replace HX := Lib.hid (HX.out.below b2); replace b1 := b1.trans (b2.mono b1.size)
  go_wp2_with fail
  refine (mself _).mono ?_
  rintro e w11 ⟨x2, rfl, ⟨A2, rfl, k2⟩, b2⟩
  replace HX := Lib.hid (HX.out.below b2); replace b1 := b1.trans (b2.mono b1.size)
  replace k1 := k1.below b2
  obtain ⟨w12, hw12, m4, s4, c4, c4'⟩ := row2_new w11 (tNum 1) tSelf A1 A2
  replace HX := Lib.hid (HX.out.below m4); replace b1 := b1.trans (m4.mono b1.size)
  have hrow : TRow w12 [tNum 1, tSelf] (some ⟨w11.heap.size, 0, none⟩) := trow_cons c4 (k1.below m4) (trow_cons c4' (k2.below m4) trow_nil)
  clear c4 c4' m4 k2 k1
  unfold TT.val
  go_wp2_with fail
  refine (mof 5 [tNum 1, tSelf] _ 2 w12 (by decide) hrow).mono ?_
  rintro e w13 ⟨x3, rfl, hx3, b2⟩
  replace HX := Lib.hid (HX.out.below b2); replace b1 := b1.trans (b2.mono b1.size)
  clear hrow hw12 s4 b2
  go_wp2_with fail
  refine (tcheck_any _ _ _ exA_cnt exA_lean hx3).mono ?_
  rintro e w14 ⟨rfl, b2⟩
  rw [exA_check]
  replace HX := Lib.hid (HX.out.below b2); replace b1 := b1.trans (b2.mono b1.size)
  clear hx3 b2
  go_wp2_with fail
  refine (mnum 1 _).mono ?_
  rintro e w15 ⟨x1, rfl, k1, b2⟩
  replace HX := Lib.hid (HX.out.below b2); replace b1 := b1.trans (b2.mono b1.size)
  go_wp2_with fail
  refine (llist_any 0 17 _ _ _ k1).mono ?_
  rintro e w16 ⟨x2, rfl, hx3, b2⟩
  replace HX := Lib.hid (HX.out.below b2); replace b1 := b1.trans (b2.mono b1.size)
  clear k1 b2
  go_wp2_with fail
  refine (tcheck_any _ _ _ exL_cnt exL_lean hx3).mono ?_
  rintro e w17 ⟨rfl, b2⟩
  rw [exL_check]
  replace HX := Lib.hid (HX.out.below b2); replace b1 := b1.trans (b2.mono b1.size)
  clear hx3 b2
  obtain ⟨w18, hw18, m4, s4, hwr⟩ := row2i_new w17 1 2
  replace HX := Lib.hid (HX.out.below m4); replace b1 := b1.trans (m4.mono b1.size)
  clear m4
  go_wp2_with fail
  refine (mnum 1 _).mono ?_
  rintro e w19 ⟨x1, rfl, ⟨A1, rfl, k1⟩, b2⟩
  replace HX := Lib.hid (HX.out.below b2); replace b1 := b1.trans (b2.mono b1.size)
  replace hwr := hwr.below b2
  obtain ⟨w20, hw20, m4, s5, c4, _⟩ := row1_new w19 (tNum 1) A1
  replace HX := Lib.hid (HX.out.below m4); replace b1 := b1.trans (m4.mono b1.size)
  replace hwr := hwr.below m4
  have hF : TIn w20 exF (exF.val ⟨none, 0, none, 0, some ⟨w17.heap.size, 0, none⟩, 2, none, 0, none, 0, some ⟨w19.heap.size, 0, none⟩, 1⟩) := ⟨_, rfl, exF_tok hwr (trow_cons c4 (k1.below m4) trow_nil)⟩
  clear c4 m4 k1 hwr b2
  unfold TT.val
  go_wp2_with fail
  refine (tcheck_any exF _ _ exF_cnt exF_lean hF).mono ?_
  rintro e w21 ⟨rfl, b2⟩
  rw [exF_check]
  replace HX := Lib.hid (HX.out.below b2); replace b1 := b1.trans (b2.mono b1.size)
  clear hF b2 hw18 hw20 s4 s5
  have HBV := Lib.hid (fun W (h : Below w21.drew.heap.size w21.drew W) => (Below.refl _ w21).drew.trans h)
  have HXC : X.cnt ≤ 3000000 := HXE.out ▸ exX_cnt
  have HXL : X.lean = true := HXE.out ▸ exX_lean
  go_wp2_with fail
  simp only [List.append_eq, List.cons_append, List.nil_append]
  refine wp_region_all (kindT [(43, .fixed (.int .i64 0)), (44, .fixed (.bool true)), (45, .fixed (.bool true)), (46, .fixed (.int .i64 0)), (47, .fixed (.bool true)), (48, .fixed (.bool true)), (49, .fixed (.bool true)), (50, .term (X)), (51, .fixed (.bool true)), (52, .fixed (.bool true)), (53, .fixed (.bool true)), (54, .term (X)), (55, .fixed (.bool true)), (56, .fixed (.bool true)), (57, .fixed (.bool true)), (58, .term (X)), (59, .fixed (.int .i64 8)), (60, .fixed (.bool true)), (61, .fixed (.bool true)), (62, .fixed (.bool true)), (63, .term (X)), (64, .fixed (.int .i64 3)), (65, .fixed (.bool true)), (66, .fixed (.bool true)), (67, .fixed (.bool true)), (68, .term (X)), (69, .fixed (.int .i64 6)), (70, .fixed (.bool true)), (71, .fixed (.bool true)), (72, .fixed (.bool true)), (73, .term (X)), (74, .fixed (.int .i64 3)), (75, .fixed (.bool true)), (76, .fixed (.bool true)), (77, .fixed (.bool true)), (78, .fixed (.int .i64 2)), (79, .fixed (.bool true)), (80, .fixed (.bool true)), (81, .fixed (.bool true)), (82, .fixed (.int .i64 10)), (83, .fixed (.bool true)), (84, .fixed (.bool true)), (85, .fixed (.bool true)), (86, .fixed (.int .i64 1)), (87, .fixed (.bool true)), (88, .fixed (.bool true)), (89, .fixed (.bool true)), (90, .fixed (.int .i64 4)), (91, .fixed (.bool true)), (92, .fixed (.bool true)), (93, .fixed (.bool true)), (94, .term (tNum 7)), (95, .fixed (.int .i64 1)), (96, .fixed (.bool true)), (97, .fixed (.bool true)), (98, .fixed (.bool true)), (99, .term (tNum 7)), (100, .fixed (.int .i64 1)), (101, .fixed (.bool true)), (102, .fixed (.bool true)), (103, .fixed (.bool true)), (104, .term (tSelf)), (105, .fixed (.bool false)), (106, .fixed (.bool true)), (107, .fixed (.bool true)), (108, .fixed (.bool true)), (109, .term (X)), (110, .term (X)), (111, .term (X)), (112, .fixed (.bool true)), (113, .fixed (.bool true)), (114, .fixed (.bool true)), (115, .term (X)), (116, .term (tNum 0)), (117, .fixed (.bool false)), (118, .fixed (.bool true)), (119, .fixed (.bool true)), (0, .fixed (.bool true))]) 120 (by kernel_rfl) (by kernel_rfl) (by rfl) (kindT_mono _) ?_ ?_
  · as_aux_lemma =>
    show ∀ o ∈ [_, _, _, _, _, _, _, _, _, _, _, _, _, _, _, _, _, _, _, _, _, _, _, _, _, _, _, _, _, _, _, _, _, _, _, _, _, _, _, _, _, _, _, _, _, _, _, _, _, _, _, _, _, _, _, _, _, _, _, _, _, _, _, _, _, _, _, _, _, _, _, _, _, _, _, _, _, _], _
    refine (tfm ?_ (tfm ?_ (tfm ?_ (tfm ?_ (tfm ?_ (tfm ?_ (tfm ?_ (tfm ?_ (tfm ?_ (tfm ?_ (tfm ?_ (tfm ?_ (tfm ?_ (tfm ?_ (tfm ?_ (tfm ?_ (tfm ?_ (tfm ?_ (tfm ?_ (tfm ?_ (tfm ?_ (tfm ?_ (tfm ?_ (tfm ?_ (tfm ?_ (tfm ?_ (tfm ?_ (tfm ?_ (tfm ?_ (tfm ?_ (tfm ?_ (tfm ?_ (tfm ?_ (tfm ?_ (tfm ?_ (tfm ?_ (tfm ?_ (tfm ?_ (tfm ?_ (tfm ?_ (tfm ?_ (tfm ?_ (tfm ?_ (tfm ?_ (tfm ?_ (tfm ?_ (tfm ?_ (tfm ?_ (tfm ?_ (tfm ?_ (tfm ?_ (tfm ?_ (tfm ?_ (tfm ?_ (tfm ?_ (tfm ?_ (tfm ?_ (tfm ?_ (tfm ?_ (tfm ?_ (tfm ?_ (tfm ?_ (tfm ?_ (tfm ?_ (tfm ?_ (tfm ?_ (tfm ?_ (tfm ?_ (tfm ?_ (tfm ?_ (tfm ?_ (tfm ?_ (tfm ?_ (tfm ?_ (tfm ?_ (tfm ?_ (tfm ?_ (tfm ?_ tfmnil))))))))))))))))))))))))))))))))))))))))))))))))))))))))))))))))))))))))))))))
    · intro r W hc hf hs hd hB
      have hBV := HBV.out W hB
      refine want_n rfl ?_
      have e : r (.tmp 2) = .int .i64 0 := hs 2 (of_decide_eq_true (by kernel_rfl))
      exact st_value (v := .int .i64 0) rfl (by decide) (by go_simp) rfl
    · intro r W hc hf hs hd hB
      have hBV := HBV.out W hB
      refine want_n rfl ?_
      have e43 : r (.tmp 43) = .int .i64 0 := hd 43 (by kernel_rfl)
      exact st_value (v := .bool true) rfl (by decide) (by go_simp) rfl
    · intro r W hc hf hs hd hB
      have hBV := HBV.out W hB
      refine want_n rfl ?_
      have e : r (.tmp 44) = .bool true := hd 44 (by kernel_rfl)
      exact st_value (v := .bool true) rfl (by decide) (by go_simp) rfl
    · intro r W hc hf hs hd hB
      have hBV := HBV.out W hB
      refine want_g 2 45 rfl (by kernel_rfl) (hd 45 (by kernel_rfl) : r (.tmp 45) = .bool true) ?_
      have e : r (.tmp 3) = .int .i64 0 := hs 3 (of_decide_eq_true (by kernel_rfl))
      exact st_value (v := .int .i64 0) rfl (by decide) (by go_simp) rfl
    · intro r W hc hf hs hd hB
      have hBV := HBV.out W hB
      refine want_g 2 45 rfl (by kernel_rfl) (hd 45 (by kernel_rfl) : r (.tmp 45) = .bool true) ?_
      have e46 : r (.tmp 46) = .int .i64 0 := hd 46 (by kernel_rfl)
      exact st_value (v := .bool true) rfl (by decide) (by go_simp) rfl
    · intro r W hc hf hs hd hB
      have hBV := HBV.out W hB
      refine want_n rfl ?_
      have e45 : r (.tmp 45) = .bool true := hd 45 (by kernel_rfl)
      have e47 : r (.tmp 47) = .bool true := hd 47 (by kernel_rfl)
      exact st_value (v := .bool true) rfl (by decide) (by go_simp) rfl
    · intro r W hc hf hs hd hB
      have hBV := HBV.out W hB
      refine want_n rfl ?_
      have e : r (.tmp 48) = .bool true := hd 48 (by kernel_rfl)
      exact st_value (v := .bool true) rfl (by decide) (by go_simp) rfl
    · intro r W hc hf hs hd hB
      have hBV := HBV.out W hB
      refine want_g 6 49 rfl (by kernel_rfl) (hd 49 (by kernel_rfl) : r (.tmp 49) = .bool true) ?_
      have e : r (.tmp 1) = .pointer (some ⟨w6.heap.size, 0, none⟩) := hs 1 (of_decide_eq_true (by kernel_rfl))
      obtain ⟨A, hcl, hok⟩ := BoxT.below HX.out hBV
      exact st_value (v := TT.val (X) A) rfl (by decide) (run_load15 hcl rfl e) ⟨A, rfl, hok⟩
    · intro r W hc hf hs hd hB
      have hBV := HBV.out W hB
      refine want_g 6 49 rfl (by kernel_rfl) (hd 49 (by kernel_rfl) : r (.tmp 49) = .bool true) ?_
      have h50 : TIn W (X) (r (.tmp 50)) := hd 50 (by kernel_rfl)
      exact st_call (f := 82) (args := #[r (.tmp 50)]) rfl (by decide) (by go_simp) (made_fix (by rw [HXE.out, exX_may]) (tmay_any _ _ _ HXC HXL h50))
    · intro r W hc hf hs hd hB
      have hBV := HBV.out W hB
      refine want_n rfl ?_
      have e49 : r (.tmp 49) = .bool true := hd 49 (by kernel_rfl)
      have e51 : r (.tmp 51) = .bool true := hd 51 (by kernel_rfl)
      exact st_value (v := .bool true) rfl (by decide) (by go_simp) rfl
    · intro r W hc hf hs hd hB
      have hBV := HBV.out W hB
      refine want_n rfl ?_
      have e : r (.tmp 52) = .bool true := hd 52 (by kernel_rfl)
      exact st_value (v := .bool true) rfl (by decide) (by go_simp) rfl
    · intro r W hc hf hs hd hB
      have hBV := HBV.out W hB
      refine want_g 10 53 rfl (by kernel_rfl) (hd 53 (by kernel_rfl) : r (.tmp 53) = .bool true) ?_
      have e : r (.tmp 1) = .pointer (some ⟨w6.heap.size, 0, none⟩) := hs 1 (of_decide_eq_true (by kernel_rfl))
      obtain ⟨A, hcl, hok⟩ := BoxT.below HX.out hBV
      exact st_value (v := TT.val (X) A) rfl (by decide) (run_load15 hcl rfl e) ⟨A, rfl, hok⟩
    · intro r W hc hf hs hd hB
      have hBV := HBV.out W hB
      refine want_g 10 53 rfl (by kernel_rfl) (hd 53 (by kernel_rfl) : r (.tmp 53) = .bool true) ?_
      have h54 : TIn W (X) (r (.tmp 54)) := hd 54 (by kernel_rfl)
      exact st_call (f := 35) (args := #[r (.tmp 54)]) rfl (by decide) (by go_simp) (made_fix (by rw [HXE.out, exX_sound]) (sound_any _ _ _ HXC HXL h54))
    · intro r W hc hf hs hd hB
      have hBV := HBV.out W hB
      refine want_n rfl ?_
      have e53 : r (.tmp 53) = .bool true := hd 53 (by kernel_rfl)
      have e55 : r (.tmp 55) = .bool true := hd 55 (by kernel_rfl)
      exact st_value (v := .bool true) rfl (by decide) (by go_simp) rfl
    · intro r W hc hf hs hd hB
      have hBV := HBV.out W hB
      refine want_n rfl ?_
      have e : r (.tmp 56) = .bool true := hd 56 (by kernel_rfl)
      exact st_value (v := .bool true) rfl (by decide) (by go_simp) rfl
    · intro r W hc hf hs hd hB
      have hBV := HBV.out W hB
      refine want_g 14 57 rfl (by kernel_rfl) (hd 57 (by kernel_rfl) : r (.tmp 57) = .bool true) ?_
      have e : r (.tmp 1) = .pointer (some ⟨w6.heap.size, 0, none⟩) := hs 1 (of_decide_eq_true (by kernel_rfl))
      obtain ⟨A, hcl, hok⟩ := BoxT.below HX.out hBV
      exact st_value (v := TT.val (X) A) rfl (by decide) (run_load15 hcl rfl e) ⟨A, rfl, hok⟩
    · intro r W hc hf hs hd hB
      have hBV := HBV.out W hB
      refine want_g 14 57 rfl (by kernel_rfl) (hd 57 (by kernel_rfl) : r (.tmp 57) = .bool true) ?_
      have h58 : TIn W (X) (r (.tmp 58)) := hd 58 (by kernel_rfl)
      exact st_call (f := 36) (args := #[r (.tmp 58)]) rfl (by decide) (by go_simp) (made_fix (by rw [HXE.out, exX_bulk]; rfl) (tbulk_any _ _ _ HXC HXL h58))
    · intro r W hc hf hs hd hB
      have hBV := HBV.out W hB
      refine want_g 14 57 rfl (by kernel_rfl) (hd 57 (by kernel_rfl) : r (.tmp 57) = .bool true) ?_
      have e59 : r (.tmp 59) = .int .i64 8 := hd 59 (by kernel_rfl)
      exact st_value (v := .bool true) rfl (by decide) (by go_simp) rfl
    · intro r W hc hf hs hd hB
      have hBV := HBV.out W hB
      refine want_n rfl ?_
      have e57 : r (.tmp 57) = .bool true := hd 57 (by kernel_rfl)
      have e60 : r (.tmp 60) = .bool true := hd 60 (by kernel_rfl)
      exact st_value (v := .bool true) rfl (by decide) (by go_simp) rfl
    · intro r W hc hf hs hd hB
      have hBV := HBV.out W hB
      refine want_n rfl ?_
      have e : r (.tmp 61) = .bool true := hd 61 (by kernel_rfl)
      exact st_value (v := .bool true) rfl (by decide) (by go_simp) rfl
    · intro r W hc hf hs hd hB
      have hBV := HBV.out W hB
      refine want_g 19 62 rfl (by kernel_rfl) (hd 62 (by kernel_rfl) : r (.tmp 62) = .bool true) ?_
      have e : r (.tmp 1) = .pointer (some ⟨w6.heap.size, 0, none⟩) := hs 1 (of_decide_eq_true (by kernel_rfl))
      obtain ⟨A, hcl, hok⟩ := BoxT.below HX.out hBV
      exact st_value (v := TT.val (X) A) rfl (by decide) (run_load15 hcl rfl e) ⟨A, rfl, hok⟩
    · intro r W hc hf hs hd hB
      have hBV := HBV.out W hB
      refine want_g 19 62 rfl (by kernel_rfl) (hd 62 (by kernel_rfl) : r (.tmp 62) = .bool true) ?_
      have h63 : TIn W (X) (r (.tmp 63)) := hd 63 (by kernel_rfl)
      exact st_call (f := 37) (args := #[r (.tmp 63)]) rfl (by decide) (by go_simp) (made_fix (by rw [HXE.out, exX_high]; rfl) (thigh_any _ _ _ HXC HXL h63))
    · intro r W hc hf hs hd hB
      have hBV := HBV.out W hB
      refine want_g 19 62 rfl (by kernel_rfl) (hd 62 (by kernel_rfl) : r (.tmp 62) = .bool true) ?_
      have e64 : r (.tmp 64) = .int .i64 3 := hd 64 (by kernel_rfl)
      exact st_value (v := .bool true) rfl (by decide) (by go_simp) rfl
    · intro r W hc hf hs hd hB
      have hBV := HBV.out W hB
      refine want_n rfl ?_
      have e62 : r (.tmp 62) = .bool true := hd 62 (by kernel_rfl)
      have e65 : r (.tmp 65) = .bool true := hd 65 (by kernel_rfl)
      exact st_value (v := .bool true) rfl (by decide) (by go_simp) rfl
    · intro r W hc hf hs hd hB
      have hBV := HBV.out W hB
      refine want_n rfl ?_
      have e : r (.tmp 66) = .bool true := hd 66 (by kernel_rfl)
      exact st_value (v := .bool true) rfl (by decide) (by go_simp) rfl
    · intro r W hc hf hs hd hB
      have hBV := HBV.out W hB
      refine want_g 24 67 rfl (by kernel_rfl) (hd 67 (by kernel_rfl) : r (.tmp 67) = .bool true) ?_
      have e : r (.tmp 1) = .pointer (some ⟨w6.heap.size, 0, none⟩) := hs 1 (of_decide_eq_true (by kernel_rfl))
      obtain ⟨A, hcl, hok⟩ := BoxT.below HX.out hBV
      exact st_value (v := TT.val (X) A) rfl (by decide) (run_load15 hcl rfl e) ⟨A, rfl, hok⟩
    · intro r W hc hf hs hd hB
      have hBV := HBV.out W hB
      refine want_g 24 67 rfl (by kernel_rfl) (hd 67 (by kernel_rfl) : r (.tmp 67) = .bool true) ?_
      have h68 : TIn W (X) (r (.tmp 68)) := hd 68 (by kernel_rfl)
      exact st_call (f := 54) (args := #[r (.tmp 68)]) rfl (by decide) (by go_simp) (made_fix (by rw [HXE.out, exX_nodes]; rfl) (tnodes_any 3000000 (by decide) _ _ _ HXC HXL h68))
    · intro r W hc hf hs hd hB
      have hBV := HBV.out W hB
      refine want_g 24 67 rfl (by kernel_rfl) (hd 67 (by kernel_rfl) : r (.tmp 67) = .bool true) ?_
      have e69 : r (.tmp 69) = .int .i64 6 := hd 69 (by kernel_rfl)
      exact st_value (v := .bool true) rfl (by decide) (by go_simp) rfl
    · intro r W hc hf hs hd hB
      have hBV := HBV.out W hB
      refine want_n rfl ?_
      have e67 : r (.tmp 67) = .bool true := hd 67 (by kernel_rfl)
      have e70 : r (.tmp 70) = .bool true := hd 70 (by kernel_rfl)
      exact st_value (v := .bool true) rfl (by decide) (by go_simp) rfl
    · intro r W hc hf hs hd hB
      have hBV := HBV.out W hB
      refine want_n rfl ?_
      have e : r (.tmp 71) = .bool true := hd 71 (by kernel_rfl)
      exact st_value (v := .bool true) rfl (by decide) (by go_simp) rfl
    · intro r W hc hf hs hd hB
      have hBV := HBV.out W hB
      refine want_g 29 72 rfl (by kernel_rfl) (hd 72 (by kernel_rfl) : r (.tmp 72) = .bool true) ?_
      have e : r (.tmp 1) = .pointer (some ⟨w6.heap.size, 0, none⟩) := hs 1 (of_decide_eq_true (by kernel_rfl))
      obtain ⟨A, hcl, hok⟩ := BoxT.below HX.out hBV
      exact st_value (v := TT.val (X) A) rfl (by decide) (run_load15 hcl rfl e) ⟨A, rfl, hok⟩
    · intro r W hc hf hs hd hB
      have hBV := HBV.out W hB
      refine want_g 29 72 rfl (by kernel_rfl) (hd 72 (by kernel_rfl) : r (.tmp 72) = .bool true) ?_
      have h73 : TIn W (X) (r (.tmp 73)) := hd 73 (by kernel_rfl)
      exact st_call (f := 83) (args := #[r (.tmp 73)]) rfl (by decide) (by go_simp) (made_fix (by rw [HXE.out, exX_deep]; rfl) (tdeep_any 3000000 (by decide) _ _ _ HXC h73))
    · intro r W hc hf hs hd hB
      have hBV := HBV.out W hB
      refine want_g 29 72 rfl (by kernel_rfl) (hd 72 (by kernel_rfl) : r (.tmp 72) = .bool true) ?_
      have e74 : r (.tmp 74) = .int .i64 3 := hd 74 (by kernel_rfl)
      exact st_value (v := .bool true) rfl (by decide) (by go_simp) rfl
    · intro r W hc hf hs hd hB
      have hBV := HBV.out W hB
      refine want_n rfl ?_
      have e72 : r (.tmp 72) = .bool true := hd 72 (by kernel_rfl)
      have e75 : r (.tmp 75) = .bool true := hd 75 (by kernel_rfl)
      exact st_value (v := .bool true) rfl (by decide) (by go_simp) rfl
    · intro r W hc hf hs hd hB
      have hBV := HBV.out W hB
      refine want_n rfl ?_
      have e : r (.tmp 76) = .bool true := hd 76 (by kernel_rfl)
      exact st_value (v := .bool true) rfl (by decide) (by go_simp) rfl
    · intro r W hc hf hs hd hB
      have hBV := HBV.out W hB
      refine want_g 34 77 rfl (by kernel_rfl) (hd 77 (by kernel_rfl) : r (.tmp 77) = .bool true) ?_
      have e : r (.tmp 4) = .int .i64 2 := hs 4 (of_decide_eq_true (by kernel_rfl))
      exact st_value (v := .int .i64 2) rfl (by decide) (by go_simp) rfl
    · intro r W hc hf hs hd hB
      have hBV := HBV.out W hB
      refine want_g 34 77 rfl (by kernel_rfl) (hd 77 (by kernel_rfl) : r (.tmp 77) = .bool true) ?_
      have e78 : r (.tmp 78) = .int .i64 2 := hd 78 (by kernel_rfl)
      exact st_value (v := .bool true) rfl (by decide) (by go_simp) rfl
    · intro r W hc hf hs hd hB
      have hBV := HBV.out W hB
      refine want_n rfl ?_
      have e77 : r (.tmp 77) = .bool true := hd 77 (by kernel_rfl)
      have e79 : r (.tmp 79) = .bool true := hd 79 (by kernel_rfl)
      exact st_value (v := .bool true) rfl (by decide) (by go_simp) rfl
    · intro r W hc hf hs hd hB
      have hBV := HBV.out W hB
      refine want_n rfl ?_
      have e : r (.tmp 80) = .bool true := hd 80 (by kernel_rfl)
      exact st_value (v := .bool true) rfl (by decide) (by go_simp) rfl
    · intro r W hc hf hs hd hB
      have hBV := HBV.out W hB
      refine want_g 38 81 rfl (by kernel_rfl) (hd 81 (by kernel_rfl) : r (.tmp 81) = .bool true) ?_
      have e : r (.tmp 5) = .int .i64 10 := hs 5 (of_decide_eq_true (by kernel_rfl))
      exact st_value (v := .int .i64 10) rfl (by decide) (by go_simp) rfl
    · intro r W hc hf hs hd hB
      have hBV := HBV.out W hB
      refine want_g 38 81 rfl (by kernel_rfl) (hd 81 (by kernel_rfl) : r (.tmp 81) = .bool true) ?_
      have e82 : r (.tmp 82) = .int .i64 10 := hd 82 (by kernel_rfl)
      exact st_value (v := .bool true) rfl (by decide) (by go_simp) rfl
    · intro r W hc hf hs hd hB
      have hBV := HBV.out W hB
      refine want_n rfl ?_
      have e81 : r (.tmp 81) = .bool true := hd 81 (by kernel_rfl)
      have e83 : r (.tmp 83) = .bool true := hd 83 (by kernel_rfl)
      exact st_value (v := .bool true) rfl (by decide) (by go_simp) rfl
    · intro r W hc hf hs hd hB
      have hBV := HBV.out W hB
      refine want_n rfl ?_
      have e : r (.tmp 84) = .bool true := hd 84 (by kernel_rfl)
      exact st_value (v := .bool true) rfl (by decide) (by go_simp) rfl
    · intro r W hc hf hs hd hB
      have hBV := HBV.out W hB
      refine want_g 42 85 rfl (by kernel_rfl) (hd 85 (by kernel_rfl) : r (.tmp 85) = .bool true) ?_
      have e : r (.tmp 7) = .int .i64 1 := hs 7 (of_decide_eq_true (by kernel_rfl))
      exact st_value (v := .int .i64 1) rfl (by decide) (by go_simp) rfl
    · intro r W hc hf hs hd hB
      have hBV := HBV.out W hB
      refine want_g 42 85 rfl (by kernel_rfl) (hd 85 (by kernel_rfl) : r (.tmp 85) = .bool true) ?_
      have e86 : r (.tmp 86) = .int .i64 1 := hd 86 (by kernel_rfl)
      exact st_value (v := .bool true) rfl (by decide) (by go_simp) rfl
    · intro r W hc hf hs hd hB
      have hBV := HBV.out W hB
      refine want_n rfl ?_
      have e85 : r (.tmp 85) = .bool true := hd 85 (by kernel_rfl)
      have e87 : r (.tmp 87) = .bool true := hd 87 (by kernel_rfl)
      exact st_value (v := .bool true) rfl (by decide) (by go_simp) rfl
    · intro r W hc hf hs hd hB
      have hBV := HBV.out W hB
      refine want_n rfl ?_
      have e : r (.tmp 88) = .bool true := hd 88 (by kernel_rfl)
      exact st_value (v := .bool true) rfl (by decide) (by go_simp) rfl
    · intro r W hc hf hs hd hB
      have hBV := HBV.out W hB
      refine want_g 46 89 rfl (by kernel_rfl) (hd 89 (by kernel_rfl) : r (.tmp 89) = .bool true) ?_
      have e : r (.tmp 9) = .int .i64 4 := hs 9 (of_decide_eq_true (by kernel_rfl))
      exact st_value (v := .int .i64 4) rfl (by decide) (by go_simp) rfl
    · intro r W hc hf hs hd hB
      have hBV := HBV.out W hB
      refine want_g 46 89 rfl (by kernel_rfl) (hd 89 (by kernel_rfl) : r (.tmp 89) = .bool true) ?_
      have e90 : r (.tmp 90) = .int .i64 4 := hd 90 (by kernel_rfl)
      exact st_value (v := .bool true) rfl (by decide) (by go_simp) rfl
    · intro r W hc hf hs hd hB
      have hBV := HBV.out W hB
      refine want_n rfl ?_
      have e89 : r (.tmp 89) = .bool true := hd 89 (by kernel_rfl)
      have e91 : r (.tmp 91) = .bool true := hd 91 (by kernel_rfl)
      exact st_value (v := .bool true) rfl (by decide) (by go_simp) rfl
    · intro r W hc hf hs hd hB
      have hBV := HBV.out W hB
      refine want_n rfl ?_
      have e : r (.tmp 92) = .bool true := hd 92 (by kernel_rfl)
      exact st_value (v := .bool true) rfl (by decide) (by go_simp) rfl
    · intro r W hc hf hs hd hB
      have hBV := HBV.out W hB
      refine want_g 50 93 rfl (by kernel_rfl) (hd 93 (by kernel_rfl) : r (.tmp 93) = .bool true) ?_
      
      exact st_call (f := 47) (args := #[.int .i64 7]) rfl (by decide) (by go_simp) (made_term (mnum 7 _))
    · intro r W hc hf hs hd hB
      have hBV := HBV.out W hB
      refine want_g 50 93 rfl (by kernel_rfl) (hd 93 (by kernel_rfl) : r (.tmp 93) = .bool true) ?_
      have h94 : TIn W (tNum 7) (r (.tmp 94)) := hd 94 (by kernel_rfl)
      exact st_call (f := 36) (args := #[r (.tmp 94)]) rfl (by decide) (by go_simp) (made_fix (by rw [ex7_bulk]; rfl) (tbulk_any _ _ _ ex7_cnt ex7_lean h94))
    · intro r W hc hf hs hd hB
      have hBV := HBV.out W hB
      refine want_g 50 93 rfl (by kernel_rfl) (hd 93 (by kernel_rfl) : r (.tmp 93) = .bool true) ?_
      have e95 : r (.tmp 95) = .int .i64 1 := hd 95 (by kernel_rfl)
      exact st_value (v := .bool true) rfl (by decide) (by go_simp) rfl
    · intro r W hc hf hs hd hB
      have hBV := HBV.out W hB
      refine want_n rfl ?_
      have e93 : r (.tmp 93) = .bool true := hd 93 (by kernel_rfl)
      have e96 : r (.tmp 96) = .bool true := hd 96 (by kernel_rfl)
      exact st_value (v := .bool true) rfl (by decide) (by go_simp) rfl
    · intro r W hc hf hs hd hB
      have hBV := HBV.out W hB
      refine want_n rfl ?_
      have e : r (.tmp 97) = .bool true := hd 97 (by kernel_rfl)
      exact st_value (v := .bool true) rfl (by decide) (by go_simp) rfl
    · intro r W hc hf hs hd hB
      have hBV := HBV.out W hB
      refine want_g 55 98 rfl (by kernel_rfl) (hd 98 (by kernel_rfl) : r (.tmp 98) = .bool true) ?_
      
      exact st_call (f := 47) (args := #[.int .i64 7]) rfl (by decide) (by go_simp) (made_term (mnum 7 _))
    · intro r W hc hf hs hd hB
      have hBV := HBV.out W hB
      refine want_g 55 98 rfl (by kernel_rfl) (hd 98 (by kernel_rfl) : r (.tmp 98) = .bool true) ?_
      have h99 : TIn W (tNum 7) (r (.tmp 99)) := hd 99 (by kernel_rfl)
      exact st_call (f := 37) (args := #[r (.tmp 99)]) rfl (by decide) (by go_simp) (made_fix (by rw [ex7_high]; rfl) (thigh_any _ _ _ ex7_cnt ex7_lean h99))
    · intro r W hc hf hs hd hB
      have hBV := HBV.out W hB
      refine want_g 55 98 rfl (by kernel_rfl) (hd 98 (by kernel_rfl) : r (.tmp 98) = .bool true) ?_
      have e100 : r (.tmp 100) = .int .i64 1 := hd 100 (by kernel_rfl)
      exact st_value (v := .bool true) rfl (by decide) (by go_simp) rfl
    · intro r W hc hf hs hd hB
      have hBV := HBV.out W hB
      refine want_n rfl ?_
      have e98 : r (.tmp 98) = .bool true := hd 98 (by kernel_rfl)
      have e101 : r (.tmp 101) = .bool true := hd 101 (by kernel_rfl)
      exact st_value (v := .bool true) rfl (by decide) (by go_simp) rfl
    · intro r W hc hf hs hd hB
      have hBV := HBV.out W hB
      refine want_n rfl ?_
      have e : r (.tmp 102) = .bool true := hd 102 (by kernel_rfl)
      exact st_value (v := .bool true) rfl (by decide) (by go_simp) rfl
    · intro r W hc hf hs hd hB
      have hBV := HBV.out W hB
      refine want_g 60 103 rfl (by kernel_rfl) (hd 103 (by kernel_rfl) : r (.tmp 103) = .bool true) ?_
      
      exact st_call (f := 50) (args := #[]) rfl (by decide) (by go_simp) (made_term (mself _))
    · intro r W hc hf hs hd hB
      have hBV := HBV.out W hB
      refine want_g 60 103 rfl (by kernel_rfl) (hd 103 (by kernel_rfl) : r (.tmp 103) = .bool true) ?_
      have h104 : TIn W (tSelf) (r (.tmp 104)) := hd 104 (by kernel_rfl)
      exact st_call (f := 35) (args := #[r (.tmp 104)]) rfl (by decide) (by go_simp) (made_fix (by rw [exS_sound]) (sound_any _ _ _ exS_cnt exS_lean h104))
    · intro r W hc hf hs hd hB
      have hBV := HBV.out W hB
      refine want_g 60 103 rfl (by kernel_rfl) (hd 103 (by kernel_rfl) : r (.tmp 103) = .bool true) ?_
      have e105 : r (.tmp 105) = .bool false := hd 105 (by kernel_rfl)
      exact st_value (v := .bool true) rfl (by decide) (by go_simp) rfl
    · intro r W hc hf hs hd hB
      have hBV := HBV.out W hB
      refine want_n rfl ?_
      have e103 : r (.tmp 103) = .bool true := hd 103 (by kernel_rfl)
      have e106 : r (.tmp 106) = .bool true := hd 106 (by kernel_rfl)
      exact st_value (v := .bool true) rfl (by decide) (by go_simp) rfl
    · intro r W hc hf hs hd hB
      have hBV := HBV.out W hB
      refine want_n rfl ?_
      have e : r (.tmp 107) = .bool true := hd 107 (by kernel_rfl)
      exact st_value (v := .bool true) rfl (by decide) (by go_simp) rfl
    · intro r W hc hf hs hd hB
      have hBV := HBV.out W hB
      refine want_g 65 108 rfl (by kernel_rfl) (hd 108 (by kernel_rfl) : r (.tmp 108) = .bool true) ?_
      have e : r (.tmp 1) = .pointer (some ⟨w6.heap.size, 0, none⟩) := hs 1 (of_decide_eq_true (by kernel_rfl))
      obtain ⟨A, hcl, hok⟩ := BoxT.below HX.out hBV
      exact st_value (v := TT.val (X) A) rfl (by decide) (run_load15 hcl rfl e) ⟨A, rfl, hok⟩
    · intro r W hc hf hs hd hB
      have hBV := HBV.out W hB
      refine want_g 65 108 rfl (by kernel_rfl) (hd 108 (by kernel_rfl) : r (.tmp 108) = .bool true) ?_
      have e : r (.tmp 1) = .pointer (some ⟨w6.heap.size, 0, none⟩) := hs 1 (of_decide_eq_true (by kernel_rfl))
      obtain ⟨A, hcl, hok⟩ := BoxT.below HX.out hBV
      exact st_value (v := TT.val (X) A) rfl (by decide) (run_load15 hcl rfl e) ⟨A, rfl, hok⟩
    · intro r W hc hf hs hd hB
      have hBV := HBV.out W hB
      refine want_g 65 108 rfl (by kernel_rfl) (hd 108 (by kernel_rfl) : r (.tmp 108) = .bool true) ?_
      have h110 : TIn W (X) (r (.tmp 110)) := hd 110 (by kernel_rfl)
      exact st_call (f := 71) (args := #[r (.tmp 110)]) rfl (by decide) (by go_simp) (made_copy (tcopy_any 3000000 _ _ _ HXC h110))
    · intro r W hc hf hs hd hB
      have hBV := HBV.out W hB
      refine want_g 65 108 rfl (by kernel_rfl) (hd 108 (by kernel_rfl) : r (.tmp 108) = .bool true) ?_
      have h109 : TIn W (X) (r (.tmp 109)) := hd 109 (by kernel_rfl)
      have h111 : TIn W (X) (r (.tmp 111)) := hd 111 (by kernel_rfl)
      exact st_call (f := 84) (args := #[r (.tmp 109), r (.tmp 111)]) rfl (by decide) (by go_simp) (made_fix (by rw [HXE.out, exX_same]) (tsame_any 3000000 _ _ _ _ _ HXC h109 h111))
    · intro r W hc hf hs hd hB
      have hBV := HBV.out W hB
      refine want_n rfl ?_
      have e108 : r (.tmp 108) = .bool true := hd 108 (by kernel_rfl)
      have e112 : r (.tmp 112) = .bool true := hd 112 (by kernel_rfl)
      exact st_value (v := .bool true) rfl (by decide) (by go_simp) rfl
    · intro r W hc hf hs hd hB
      have hBV := HBV.out W hB
      refine want_n rfl ?_
      have e : r (.tmp 113) = .bool true := hd 113 (by kernel_rfl)
      exact st_value (v := .bool true) rfl (by decide) (by go_simp) rfl
    · intro r W hc hf hs hd hB
      have hBV := HBV.out W hB
      refine want_g 71 114 rfl (by kernel_rfl) (hd 114 (by kernel_rfl) : r (.tmp 114) = .bool true) ?_
      have e : r (.tmp 1) = .pointer (some ⟨w6.heap.size, 0, none⟩) := hs 1 (of_decide_eq_true (by kernel_rfl))
      obtain ⟨A, hcl, hok⟩ := BoxT.below HX.out hBV
      exact st_value (v := TT.val (X) A) rfl (by decide) (run_load15 hcl rfl e) ⟨A, rfl, hok⟩
    · intro r W hc hf hs hd hB
      have hBV := HBV.out W hB
      refine want_g 71 114 rfl (by kernel_rfl) (hd 114 (by kernel_rfl) : r (.tmp 114) = .bool true) ?_
      
      exact st_call (f := 47) (args := #[.int .i64 0]) rfl (by decide) (by go_simp) (made_term (mnum 0 _))
    · intro r W hc hf hs hd hB
      have hBV := HBV.out W hB
      refine want_g 71 114 rfl (by kernel_rfl) (hd 114 (by kernel_rfl) : r (.tmp 114) = .bool true) ?_
      have h115 : TIn W (X) (r (.tmp 115)) := hd 115 (by kernel_rfl)
      have h116 : TIn W (tNum 0) (r (.tmp 116)) := hd 116 (by kernel_rfl)
      exact st_call (f := 84) (args := #[r (.tmp 115), r (.tmp 116)]) rfl (by decide) (by go_simp) (made_fix (by rw [HXE.out, exX_diff]) (tsame_any 3000000 _ _ _ _ _ HXC h115 h116))
    · intro r W hc hf hs hd hB
      have hBV := HBV.out W hB
      refine want_g 71 114 rfl (by kernel_rfl) (hd 114 (by kernel_rfl) : r (.tmp 114) = .bool true) ?_
      have e117 : r (.tmp 117) = .bool false := hd 117 (by kernel_rfl)
      exact st_value (v := .bool true) rfl (by decide) (by go_simp) rfl
    · intro r W hc hf hs hd hB
      have hBV := HBV.out W hB
      refine want_n rfl ?_
      have e114 : r (.tmp 114) = .bool true := hd 114 (by kernel_rfl)
      have e118 : r (.tmp 118) = .bool true := hd 118 (by kernel_rfl)
      exact st_value (v := .bool true) rfl (by decide) (by go_simp) rfl
    · intro r W hc hf hs hd hB
      have hBV := HBV.out W hB
      refine want_n rfl ?_
      have e : r (.tmp 119) = .bool true := hd 119 (by kernel_rfl)
      exact st_value (v := .bool true) rfl (by decide) (by go_simp) rfl
  intro f w22 hfd hB'
  have z0 : f 0 = .bool true := hfd 0 (of_decide_eq_true (by kernel_rfl))
  have hB2 := HBV.out w22 hB'
  rw [show dstsTo _ _ = [43, 44, 45, 46, 47, 48, 49, 50, 51, 52, 53, 54, 55, 56, 57, 58, 59, 60, 61, 62, 63, 64, 65, 66, 67, 68, 69, 70, 71, 72, 73, 74, 75, 76, 77, 78, 79, 80, 81, 82, 83, 84, 85, 86, 87, 88, 89, 90, 91, 92, 93, 94, 95, 96, 97, 98, 99, 100, 101, 102, 103, 104, 105, 106, 107, 108, 109, 110, 111, 112, 113, 114, 115, 116, 117, 118, 119, 0] from by kernel_rfl]
  simp only [fill, List.setIfInBounds_toArray, List.set_cons_succ, List.set_cons_zero, z0]
  clear hfd z0 hB'
  go_wp2_with fail
  go_ret
  exact ⟨rfl, b1.trans (hB2.mono b1.size)⟩
end Go.Proofs.Yteebbffecaeciaa
/- The law's put: a term, with another one for each Self that belongs to no Sized in it. -/
namespace Go.Proofs.Yteebbffecaeciaa
open Go.RowKit

section
variable {k lo hi : Int} {v : VT} {vs : List VT} {ws : List Int} {p : PT} {l : List TT}
theorem TT.kind_mk : TT.kind (.mk k v vs lo hi ws p l) = k := rfl
theorem TT.v_mk : TT.v (.mk k v vs lo hi ws p l) = v := rfl
theorem TT.vs_mk : TT.vs (.mk k v vs lo hi ws p l) = vs := rfl
theorem TT.lo_mk : TT.lo (.mk k v vs lo hi ws p l) = lo := rfl
theorem TT.hi_mk : TT.hi (.mk k v vs lo hi ws p l) = hi := rfl
theorem TT.ws_mk : TT.ws (.mk k v vs lo hi ws p l) = ws := rfl
theorem TT.p_mk : TT.p (.mk k v vs lo hi ws p l) = p := rfl
theorem TT.args_mk : TT.args (.mk k v vs lo hi ws p l) = l := rfl
end
/-- rounds of put's loop: the elements before i are put, the rest is as it was. -/
structure PutG (S' : Nat → Prop) (l' : List TT) (B c : Nat) (w3 wr : World) (i : Nat) : Prop where
  below : Below B w3 wr
  size : w3.heap.size ≤ wr.heap.size
  same : ∀ k, k < w3.heap.size → k ≠ B → wr.heap[k]? = w3.heap[k]?
  row : RowAt wr 47 B (c * 15)
  done : ∀ j (_ : j < i) (hj : j < l'.length), ∃ A, TCells wr B (j * 15) l'[j] A ∧ TOkA S' wr l'[j] A
  rest : ∀ j u, i * 15 ≤ j → w3.cell? ⟨B, j, none⟩ = some u → wr.cell? ⟨B, j, none⟩ = some u
theorem PutG.step {S' : Nat → Prop} {l' : List TT} {B c i : Nat} {w3 wr w5 : World} (hSB : S' B) (h : PutG S' l' B c w3 wr i) (hi : i < l'.length) (hB : B < wr.heap.size) (hc : l'.length ≤ c) (hb : Below wr.heap.size wr w5) {Y : TA} (hY : TOkA S' w5 l'[i] Y) : PutG S' l' B c w3 (setL B (cellsT (i * 15) l'[i] Y) w5) (i + 1) := by
  have hrow5 := h.row.below hB hb
  have hne : ∀ k, k ≠ B → (setL B (cellsT (i * 15) l'[i] Y) w5).heap[k]? = w5.heap[k]? := fun k hk => setL_block B hk _ _
  have hout : ∀ o, o < i * 15 ∨ i * 15 + 15 ≤ o → ∀ v, w5.cell? ⟨B, o, none⟩ = some v → (setL B (cellsT (i * 15) l'[i] Y) w5).cell? ⟨B, o, none⟩ = some v := fun o ho v hv => by
    rw [setL_out B B o _ w5 (fun _ hm => by obtain ⟨p, hp, rfl⟩ := List.mem_map.1 hm; have := cellsT_off _ _ _ p hp; omega)]; exact hv
  have hz : (setL B (cellsT (i * 15) l'[i] Y) w5).heap.size = w5.heap.size := setL_size _ _ _
  have hin : ∀ p ∈ cellsT (i * 15) l'[i] Y, (setL B (cellsT (i * 15) l'[i] Y) w5).cell? ⟨B, p.1, none⟩ = some p.2 := setL_in B _ w5 (by simp [cellsT]) (fun p hp => hrow5.cell p.1 (by have := cellsT_off _ _ _ p hp; omega))
  have hrow6 : RowAt (setL B (cellsT (i * 15) l'[i] Y) w5) 47 B (c * 15) := setL_row B _ _ hrow5
  have hY6 : TOkA S' (setL B (cellsT (i * 15) l'[i] Y) w5) l'[i] Y := hY.step (Nat.le_of_eq hz.symm) fun k _ hk => ⟨hk, hne k (fun e => hk (e ▸ hSB))⟩
  have hcl : TCells (setL B (cellsT (i * 15) l'[i] Y) w5) B (i * 15) l'[i] Y := by
    refine ⟨?_, ?_, ?_, ?_, ?_, ?_, ?_, ?_, ?_, ?_, ?_, ?_, ?_, ?_, ?_⟩
    all_goals exact hin (_, _) (by simp [cellsT])
  have hbl : Below B w3 (setL B (cellsT (i * 15) l'[i] Y) w5) := setL_below B (Nat.le_refl _) _ _ (h.below.trans (hb.mono (Nat.le_of_lt hB)))
  generalize setL B (cellsT (i * 15) l'[i] Y) w5 = w6 at *
  have hs5 := hb.size; have hs := h.size
  refine ⟨hbl, by omega, fun k h1 h2 => (hne k h2).trans ((hb.block k (by omega)).trans (h.same k h1 h2)), hrow6, fun j hj hj' => ?_, fun j u h1 h2 => hout j (.inr (by omega)) u (cell_stays hb (h.rest j u (by omega) h2))⟩
  by_cases e : j = i
  · subst e; exact ⟨Y, hcl, hY6⟩
  · obtain ⟨A, hc1, hok⟩ := h.done j (by omega) hj'
    have hcl5 := hc1.below hb
    refine ⟨A, ?_, (hok.below hb).step (by omega) fun k _ hk => ⟨hk, hne k (fun e => hk (e ▸ hSB))⟩⟩
    obtain ⟨h0, h1, h2, h3, h4, h5, h6, h7, h8, h9, h10, h11, h12, h13, h14⟩ := hcl5
    exact ⟨hout _ (.inl (by omega)) _ h0, hout _ (.inl (by omega)) _ h1, hout _ (.inl (by omega)) _ h2, hout _ (.inl (by omega)) _ h3, hout _ (.inl (by omega)) _ h4, hout _ (.inl (by omega)) _ h5, hout _ (.inl (by omega)) _ h6, hout _ (.inl (by omega)) _ h7, hout _ (.inl (by omega)) _ h8, hout _ (.inl (by omega)) _ h9, hout _ (.inl (by omega)) _ h10, hout _ (.inl (by omega)) _ h11, hout _ (.inl (by omega)) _ h12, hout _ (.inl (by omega)) _ h13, hout _ (.inl (by omega)) _ h14⟩
theorem PutG.skip {S' : Nat → Prop} {l' : List TT} {B c i : Nat} {w3 wr : World} (h : PutG S' l' B c w3 wr i) (hn : ∀ hj : i < l'.length, ∃ A, TCells wr B (i * 15) l'[i] A ∧ TOkA S' wr l'[i] A) : PutG S' l' B c w3 wr (i + 1) :=
  ⟨h.below, h.size, h.same, h.row, fun j hj hj' => by
    by_cases e : j = i
    · subst e; exact hn hj'
    · exact h.done j (by omega) hj', fun j u h1 h2 => h.rest j u (by omega) h2⟩
theorem TCells.one_addr {w : World} {b o : Nat} {t : TT} {A A' : TA} (h : TCells w b o t A) (h' : TCells w b o t A') : A = A' := by
  obtain ⟨h0, h1, h2, h3, h4, h5, h6, h7, h8, h9, h10, h11, h12, h13, h14⟩ := h
  obtain ⟨k0, k1, k2, k3, k4, k5, k6, k7, k8, k9, k10, k11, k12, k13, k14⟩ := h'
  rw [h3] at k3; rw [h4] at k4; rw [h7] at k7; rw [h11] at k11; rw [h13] at k13; rw [h14] at k14
  obtain ⟨a1, a2, a3, a4, a5, a6, a7, a8, a9, a10, a11, a12⟩ := A
  obtain ⟨b1, b2, b3, b4, b5, b6, b7, b8, b9, b10, b11, b12⟩ := A'
  simp only [Option.some.injEq, Value.slice.injEq] at k3 k4 k7 k11 k13 k14
  obtain ⟨rfl, _, rfl⟩ := k3
  obtain ⟨rfl, _, rfl⟩ := k4
  obtain ⟨rfl, _, rfl⟩ := k7
  obtain ⟨rfl, _, rfl⟩ := k11
  obtain ⟨rfl, _, rfl⟩ := k13
  obtain ⟨rfl, _, rfl⟩ := k14
  rfl
open Classical in
/-- w with nothing in the blocks of S. -/
noncomputable def eraseS (S : Nat → Prop) (w : World) : World := { w with heap := w.heap.mapIdx fun k o => if S k then .cells #[] 0 else o }
theorem eraseS_agree (S : Nat → Prop) (w : World) : AgreeS S w (eraseS S w) := by
  refine ⟨by simp [eraseS], fun k hk hn => ?_⟩
  simp [eraseS, hn, hk]
theorem eraseS_cell {S : Nat → Prop} {w : World} {b o : Nat} {v : Value} (h : (eraseS S w).cell? ⟨b, o, none⟩ = some v) : ¬ S b := fun hS => by
  have hlt := lt_of_cell h
  have hb : (eraseS S w).heap[b]? = some (.cells #[] 0) := by
    have : b < w.heap.size := by simpa [eraseS] using hlt
    simp [eraseS, hS, this]
  unfold World.cell? at h
  rw [hb] at h
  simp at h
theorem elemA {S : Nat → Prop} {w : World} {l : List TT} {aa : Option Addr} (h : ∀ W, AgreeS S w W → TRow W l aa) {i : Nat} (hi : i < l.length) : ∃ b o X, aa = some ⟨b, o, none⟩ ∧ ¬ S b ∧ TCells w b (o + i * 15) l[i] X ∧ TOkA S w l[i] X := by
  obtain ⟨b, o, e, X, hc, hk⟩ := (h w ⟨Nat.le_refl _, fun _ _ _ => rfl⟩).get i hi
  have hS : ¬ S b := by
    obtain ⟨b', o', e', X', hc', _⟩ := (h _ (eraseS_agree S w)).get i hi
    rw [e] at e'
    cases e'
    exact eraseS_cell hc'.1
  refine ⟨b, o, X, e, hS, hc, fun W ha => ?_⟩
  obtain ⟨b', o', e', X', hc', hk'⟩ := (h W ha).get i hi
  rw [e] at e'
  cases e'
  have hcW : TCells W b (o + i * 15) l[i] X := hc.keep fun o v hv => ha.cell hS hv
  rw [hcW.one_addr hc']
  exact hk'
theorem tok_args {S S' : Nat → Prop} {w w' : World} {k lo hi : Int} {v : VT} {vs : List VT} {ws : List Int} {p : PT} {l l' : List TT} {A : TA} {a' : Option Addr} {c' : Nat} (h : TOkA S w (.mk k v vs lo hi ws p l) A) (hs : w.heap.size ≤ w'.heap.size) (hk : ∀ k, k < w.heap.size → ¬ S k → ¬ S' k ∧ w'.heap[k]? = w.heap[k]?)
    (hl : l'.length ≤ 651562446070) (hr : ∀ W, AgreeS S' w' W → TRow W l' a') : TOkA S' w' (.mk k v vs lo hi ws p l') { A with aa := a', ac := c' } := fun W ha => by
  obtain ⟨h1, h2, h3, h4, h5, _⟩ := (h W (ha.back' hs hk)).parts
  exact TOk.of ⟨⟨hl, h1.2⟩, h2, h3, h4, h5, hr W ha⟩
end Go.Proofs.Yteebbffecaeciaa
/- The law's put, walked. -/
namespace Go.Proofs.Yteebbffecaeciaa
open Go.RowKit

theorem wpList_store15 {ops : Array Oper} {rest : List Oper} {o : Oper} {a : Act} {w : World} {Q : Exit → Act → World → Prop} {t : TT} {A : TA} {B n T : Nat} {po xo : Operand} (g : o.guard = none) (h : o.op = .store 47 po xo) (d2 : o.dst = none) (e1 : a.eval po = .pointer (some ⟨B, 0, none⟩)) (e2 : a.eval xo = t.val A)
    (hrow : RowAt w T B n) (hq : 15 ≤ n) (hk : ∀ wE, TCells wE B 0 t A → (∀ b, b ≠ B → wE.heap[b]? = w.heap[b]?) → wE.heap.size = w.heap.size → (∀ lo a, lo ≤ B → Below lo a w → Below lo a wE) → wpList Try.prog ops Q rest a wE) : wpList Try.prog ops Q (o :: rest) a w :=
  wpList_plain g fun _ hK => wp_skip (run_store15 hrow (q := 0) (by omega) h e1 e2) d2 (hK _ _ (hk _ (cells15 hrow hq) (fun b hb => setL_block B hb _ w) (setL_size B _ w) (fun lo a hlo h => setL_below B hlo _ _ h)))
theorem results_cell {fn : Func} {tmps : Array Value} {d : Nat} {w : World} {t : TT} {A : TA} {B : Nat} (hr : fn.results = #[.cell d 47]) (hd : tmps.getD d undef = .pointer (some ⟨B, 0, none⟩)) (hc : TCells w B 0 t A) : (results fn tmps).run Try.prog w = .ok (t.val A) w := by
  have h := run_loadVar_mid (P := Try.prog) w B 0 47 _ _ hc.range Try.underlying47 rfl size15
  unfold results
  rw [hr]
  simp only [Array.mapM_eq_mapM_toList, List.mapM_cons, List.mapM_nil, hd, asAddr, Sem.run_bind, Sem.run_pure, Result.andThen_ok, h, map_eq_pure_bind, bind_assoc, pure_bind]
  rfl
/-- the row of put's loop. -/
def PutR (S' : Nat → Prop) (l' : List TT) (a' : Option Addr) (c lo : Nat) (w3 wr : World) (i : Nat) : Prop := (l'.length = 0 ∧ wr = w3) ∨ ∃ B, a' = some ⟨B, 0, none⟩ ∧ lo ≤ B ∧ B < w3.heap.size ∧ l'.length ≤ c ∧ PutG S' l' B c w3 wr i
theorem PutR.old {S' : Nat → Prop} {l' : List TT} {a' : Option Addr} {c lo i : Nat} {w3 wr : World} (h : PutR S' l' a' c lo w3 wr i) {k : Nat} (hk : k < lo) (h3 : k < w3.heap.size) : wr.heap[k]? = w3.heap[k]? := by
  rcases h with ⟨_, rfl⟩ | ⟨B, _, hB, _, _, h⟩
  · rfl
  · exact h.same k h3 (by omega)
theorem PutR.size {S' : Nat → Prop} {l' : List TT} {a' : Option Addr} {c lo i : Nat} {w3 wr : World} (h : PutR S' l' a' c lo w3 wr i) : w3.heap.size ≤ wr.heap.size := by
  rcases h with ⟨_, rfl⟩ | ⟨B, _, hB, _, _, h⟩
  · exact Nat.le_refl _
  · exact h.size
theorem PutR.below {S' : Nat → Prop} {l' : List TT} {a' : Option Addr} {c lo i : Nat} {w3 wr : World} (h : PutR S' l' a' c lo w3 wr i) {k : Nat} (hk : k ≤ lo) : Below k w3 wr := by
  rcases h with ⟨_, rfl⟩ | ⟨B, _, hB, _, _, h⟩
  · exact Below.refl _ _
  · exact h.below.mono (by omega)
theorem cell_block {w w' : World} {b o : Nat} {v : Value} (hb : w'.heap[b]? = w.heap[b]?) (h : w.cell? ⟨b, o, none⟩ = some v) : w'.cell? ⟨b, o, none⟩ = some v := by
  rw [World.cell?_of_block (w := w) (a := ⟨b, o, none⟩) hb]; exact h
theorem row_block {w w' : World} {T b n : Nat} (hb : w'.heap[b]? = w.heap[b]?) (h : RowAt w T b n) : RowAt w' T b n := by
  obtain ⟨x, hx, hn⟩ := h
  exact ⟨x, hb.trans hx, hn⟩

end Go.Proofs.Yteebbffecaeciaa
/- Laws at the list of a plain region's operations, over terms. -/
namespace Go.Proofs.Yteebbffecaeciaa
open Go.RowKit

theorem run_row1 {w w2 : World} {o : Oper} {r : Operand → Value} {x0 : Operand} {s : TT} {A : TA} (ho : o.op = .buildSlice 45 1 #[(0, x0)]) (e0 : r x0 = s.val A) (hw : w.alloc (.cells #[.int .u8 s.kind, .int .u8 s.v.kind, .int .i64 s.v.num, .slice A.va s.v.items.length A.vc, .slice A.sa s.vs.length A.sc, .int .i64 s.lo, .int .i64 s.hi, .slice A.wa s.ws.length A.wc, .int .u8 s.p.kind, .int .u8 s.p.val.kind, .int .i64 s.p.val.num, .slice A.qa s.p.val.items.length A.qc, .int .i64 s.p.num, .slice A.pa s.p.args.length A.pc, .slice A.aa s.args.length A.ac] 47) = w2) :
    (execOp r o).run Try.prog w = .ok (.value (.slice (some ⟨w.heap.size, 0, none⟩) 1 1)) w2 := by
  obtain ⟨od, oo, ot, op, oa, og⟩ := o
  simp only at ho
  subst ho
  unfold TT.val at e0
  rw [← hw]
  go_simp
theorem run_row2 {w w2 : World} {o : Oper} {r : Operand → Value} {x0 x1 : Operand} {s t : TT} {A B : TA} (ho : o.op = .buildSlice 45 2 #[(0, x0), (1, x1)]) (e0 : r x0 = s.val A) (e1 : r x1 = t.val B) (hw : w.alloc (.cells #[.int .u8 s.kind, .int .u8 s.v.kind, .int .i64 s.v.num, .slice A.va s.v.items.length A.vc, .slice A.sa s.vs.length A.sc, .int .i64 s.lo, .int .i64 s.hi, .slice A.wa s.ws.length A.wc, .int .u8 s.p.kind, .int .u8 s.p.val.kind, .int .i64 s.p.val.num, .slice A.qa s.p.val.items.length A.qc, .int .i64 s.p.num, .slice A.pa s.p.args.length A.pc, .slice A.aa s.args.length A.ac, .int .u8 t.kind, .int .u8 t.v.kind, .int .i64 t.v.num, .slice B.va t.v.items.length B.vc, .slice B.sa t.vs.length B.sc, .int .i64 t.lo, .int .i64 t.hi, .slice B.wa t.ws.length B.wc, .int .u8 t.p.kind, .int .u8 t.p.val.kind, .int .i64 t.p.val.num, .slice B.qa t.p.val.items.length B.qc, .int .i64 t.p.num, .slice B.pa t.p.args.length B.pc, .slice B.aa t.args.length B.ac] 47) = w2) :
    (execOp r o).run Try.prog w = .ok (.value (.slice (some ⟨w.heap.size, 0, none⟩) 2 2)) w2 := by
  obtain ⟨od, oo, ot, op, oa, og⟩ := o
  simp only at ho
  subst ho
  unfold TT.val at e0 e1
  rw [← hw]
  go_simp
theorem wpList_row1 {ops : Array Oper} {rest : List Oper} {o : Oper} {a : Act} {w : World} {Q : Exit → Act → World → Prop} {s : TT} {A : TA} {x0 : Operand} (g : o.guard = none) (ho : o.op = .buildSlice 45 1 #[(0, x0)]) (e0 : a.eval x0 = s.val A) (h0 : TOk w s A)
    (hk : ∀ w2, TRow w2 [s] (some ⟨w.heap.size, 0, none⟩) → Below w.heap.size w w2 → wpList Try.prog ops Q rest (a.put o.dst (.slice (some ⟨w.heap.size, 0, none⟩) 1 1)) w2) : wpList Try.prog ops Q (o :: rest) a w := by
  obtain ⟨w2, hw2, m2, s2, hc2, _⟩ := row1_new w s A
  exact wpList_plain g fun _ hK => wp_val (run_row1 ho e0 hw2) (hK _ _ (hk w2 (trow_cons hc2 (h0.below m2) trow_nil) m2))
theorem wpList_row2 {ops : Array Oper} {rest : List Oper} {o : Oper} {a : Act} {w : World} {Q : Exit → Act → World → Prop} {s t : TT} {A B : TA} {x0 x1 : Operand} (g : o.guard = none) (ho : o.op = .buildSlice 45 2 #[(0, x0), (1, x1)]) (e0 : a.eval x0 = s.val A) (e1 : a.eval x1 = t.val B) (h0 : TOk w s A) (h1 : TOk w t B)
    (hk : ∀ w2, TRow w2 [s, t] (some ⟨w.heap.size, 0, none⟩) → Below w.heap.size w w2 → wpList Try.prog ops Q rest (a.put o.dst (.slice (some ⟨w.heap.size, 0, none⟩) 2 2)) w2) : wpList Try.prog ops Q (o :: rest) a w := by
  obtain ⟨w2, hw2, m2, s2, hc2, hc3⟩ := row2_new w s t A B
  exact wpList_plain g fun _ hK => wp_val (run_row2 ho e0 e1 hw2) (hK _ _ (hk w2 (trow_cons hc2 (h0.below m2) (trow_cons hc3 (h1.below m2) trow_nil)) m2))
/-- a box whose term is known with its address. -/
def BoxA (w : World) (B : Nat) (t : TT) (A : TA) : Prop := TCells w B 0 t A ∧ TOk w t A
theorem BoxA.below {w w' : World} {B : Nat} {t : TT} {A : TA} (h : BoxA w B t A) (hb : Below w.heap.size w w') : BoxA w' B t A := ⟨h.1.below hb, h.2.below hb⟩
theorem BoxA.tin {w : World} {B : Nat} {t : TT} {A : TA} (h : BoxA w B t A) : TIn w t (t.val A) := ⟨A, rfl, h.2⟩
end Go.Proofs.Yteebbffecaeciaa
/- As VAnyG, where an operation may wait, by what does not bind, for a later one. -/
namespace Go.Proofs.Yteebbffecaeciaa
open Go.RowKit
/-- the first m operations have temporaries of their own, and wait for earlier ones alone; the others wait for them all. -/
def partR (m n : Nat) (ops : Array Oper) : Bool :=
  ((List.range m).all fun i => match ops[i]? with
    | none => false
    | some o => o.after.all (fun e => !Region.binds .any e || decide (e.on < i)) && (match o.dst with | none => false | some d => decide (d < n)) &&
      (match o.guard with | none => true | some (j, _) => (match (ops[j]?).bind (·.dst) with | some d => decide (d < n) | none => false))) &&
  ((List.range ops.size).all fun i => decide (i < m) || match ops[i]? with
    | none => true
    | some o => (List.range m).all fun j => o.after.any fun e => Region.binds .any e && reachB ops 6 e.on j) &&
  decide ((ops.toList.take m).map (·.dst)).Nodup
theorem partR_op {m n : Nat} {ops : Array Oper} (h : partR m n ops = true) {i : Nat} {o : Oper} (hm : i < m) (hi : ops[i]? = some o) :
    (∀ e ∈ o.after, Region.binds .any e = true → e.on < i) ∧ (∃ d, o.dst = some d ∧ d < n) ∧ ∀ j want, o.guard = some (j, want) → ∃ d, (ops[j]?).bind (·.dst) = some d ∧ d < n := by
  unfold partR at h
  rw [Bool.and_eq_true, Bool.and_eq_true, List.all_eq_true] at h
  have h1 := h.1.1 i (List.mem_range.2 hm)
  rw [hi] at h1
  simp only [Bool.and_eq_true] at h1
  refine ⟨fun e he hb => ?_, ?_, fun j want hg => ?_⟩
  · have := Array.all_eq_true_iff_forall_mem.1 h1.1.1 e he
    rw [hb] at this
    simpa using this
  · have h2 := h1.1.2
    cases hd : o.dst with
    | none => rw [hd] at h2; simp at h2
    | some d => rw [hd] at h2; exact ⟨d, rfl, by simpa using h2⟩
  · have h2 := h1.2
    rw [hg] at h2
    simp only at h2
    cases hd : (ops[j]?).bind (·.dst) with
    | none => rw [hd] at h2; simp at h2
    | some d => rw [hd] at h2; exact ⟨d, rfl, by simpa using h2⟩
theorem partR_there {m n : Nat} {ops : Array Oper} (h : partR m n ops = true) {i : Nat} (hm : i < m) : i < ops.size := by
  unfold partR at h
  rw [Bool.and_eq_true, Bool.and_eq_true, List.all_eq_true] at h
  have h1 := h.1.1 i (List.mem_range.2 hm)
  rcases Nat.lt_or_ge i ops.size with hl | hl
  · exact hl
  · rw [Array.getElem?_eq_none hl] at h1; simp at h1
theorem partR_rest {m n : Nat} {ops : Array Oper} (h : partR m n ops = true) {i : Nat} {o : Oper} (hm : ¬ i < m) (hi : ops[i]? = some o) {j : Nat} (hj : j < m) : ∃ e ∈ o.after, Region.binds .any e = true ∧ reachB ops 6 e.on j = true := by
  unfold partR at h
  rw [Bool.and_eq_true, Bool.and_eq_true] at h
  have h1 := List.all_eq_true.1 h.1.2 i (List.mem_range.2 (Array.getElem?_eq_some_iff.1 hi).1)
  rw [hi, decide_eq_false hm, Bool.false_or] at h1
  have h2 := List.all_eq_true.1 h1 j (List.mem_range.2 hj)
  rw [Array.any_eq_true] at h2
  obtain ⟨k, hk, hb⟩ := h2
  rw [Bool.and_eq_true] at hb
  exact ⟨o.after[k], Array.getElem_mem hk, hb.1, hb.2⟩
theorem partR_one {m n : Nat} {ops : Array Oper} (h : partR m n ops = true) {i j : Nat} {o o' : Oper} {d : Nat} (hm : i < m) (hm' : j < m) (hi : ops[i]? = some o) (hj : ops[j]? = some o') (hd : o.dst = some d) (hd' : o'.dst = some d) : i = j := by
  unfold partR at h
  rw [Bool.and_eq_true] at h
  have h2 := of_decide_eq_true h.2
  have e1 : ((ops.toList.take m).map (·.dst))[i]? = some (some d) := by rw [List.getElem?_map, List.getElem?_take_of_lt hm, Array.getElem?_toList, hi]; simp [hd]
  have e2 : ((ops.toList.take m).map (·.dst))[j]? = some (some d) := by rw [List.getElem?_map, List.getElem?_take_of_lt hm', Array.getElem?_toList, hj]; simp [hd']
  obtain ⟨l1, g1⟩ := List.getElem?_eq_some_iff.1 e1
  obtain ⟨l2, g2⟩ := List.getElem?_eq_some_iff.1 e2
  have h3 := List.pairwise_iff_getElem.1 h2
  rcases Nat.lt_trichotomy i j with hlt | heq | hgt
  · exact absurd (g1.trans g2.symm) (h3 i j l1 l2 hlt)
  · exact heq
  · exact absurd (g2.trans g1.symm) (h3 j i l2 l1 hgt)
section
variable {P : Program} {ops : Array Oper} {Q : Exit → Act → World → Prop} {m n : Nat} {Ph : Nat → Value → World → Prop} {a0 : Act} {w0 : World} {A : List Nat}
end
end Go.Proofs.Yteebbffecaeciaa
/- Rows and terms made anew, in all worlds that are as this one but for some blocks. -/
namespace Go.Proofs.Yteebbffecaeciaa
open Go.RowKit

/-- a row that reads so in all worlds that are as this one but for the blocks of S. -/
def TRowA (S : Nat → Prop) (w : World) (l : List TT) (a : Option Addr) : Prop := ∀ W, AgreeS S w W → TRow W l a
theorem TRowA.below {S : Nat → Prop} {w w' : World} {l : List TT} {a : Option Addr} (h : TRowA S w l a) (hb : Below w.heap.size w w') : TRowA S w' l a := fun W ha => h W (ha.back' hb.size fun k h1 h2 => ⟨h2, hb.block k h1⟩)
theorem TRowA.row {S : Nat → Prop} {w : World} {l : List TT} {a : Option Addr} (h : TRowA S w l a) : TRow w l a := h w ⟨Nat.le_refl _, fun _ _ _ => rfl⟩
theorem TRowA.nil {S : Nat → Prop} {w : World} {a : Option Addr} : TRowA S w [] a := fun _ _ => trow_nil
theorem TRowA.cons {S : Nat → Prop} {w : World} {t : TT} {ts : List TT} {b o : Nat} {A : TA} (hS : ¬ S b) (h : TCells w b o t A) (ht : TOkA S w t A) (hr : TRowA S w ts (some ⟨b, o + 15, none⟩)) : TRowA S w (t :: ts) (some ⟨b, o, none⟩) := fun W ha =>
  trow_cons (h.keep fun _ _ hv => ha.cell hS hv) (ht W ha) (hr W ha)
theorem wpList_row1A {S : Nat → Prop} {ops : Array Oper} {rest : List Oper} {o : Oper} {a : Act} {w : World} {Q : Exit → Act → World → Prop} {s : TT} {A : TA} {x0 : Operand} (hS : ∀ q, S q → q < w.heap.size) (g : o.guard = none) (ho : o.op = .buildSlice 45 1 #[(0, x0)]) (e0 : a.eval x0 = s.val A) (h0 : TOkA S w s A)
    (hk : ∀ w2, TRowA S w2 [s] (some ⟨w.heap.size, 0, none⟩) → Below w.heap.size w w2 → wpList Try.prog ops Q rest (a.put o.dst (.slice (some ⟨w.heap.size, 0, none⟩) 1 1)) w2) : wpList Try.prog ops Q (o :: rest) a w := by
  obtain ⟨w2, hw2, m2, s2, hc2, _⟩ := row1_new w s A
  exact wpList_plain g fun _ hK => wp_val (run_row1 ho e0 hw2) (hK _ _ (hk w2 (.cons (fun h => by have := hS _ h; omega) hc2 (h0.below m2) .nil) m2))
theorem wpList_store15R {ops : Array Oper} {rest : List Oper} {o : Oper} {a : Act} {w : World} {Q : Exit → Act → World → Prop} {t : TT} {A : TA} {B n T : Nat} {po xo : Operand} (g : o.guard = none) (h : o.op = .store 47 po xo) (d2 : o.dst = none) (e1 : a.eval po = .pointer (some ⟨B, 0, none⟩)) (e2 : a.eval xo = t.val A)
    (hrow : RowAt w T B n) (hq : 15 ≤ n) (hk : ∀ wE, TCells wE B 0 t A → RowAt wE T B n → (∀ b, b ≠ B → wE.heap[b]? = w.heap[b]?) → wE.heap.size = w.heap.size → (∀ lo a, lo ≤ B → Below lo a w → Below lo a wE) → wpList Try.prog ops Q rest a wE) : wpList Try.prog ops Q (o :: rest) a w :=
  wpList_plain g fun _ hK => wp_skip (run_store15 hrow (q := 0) (by omega) h e1 e2) d2 (hK _ _ (hk _ (cells15 hrow hq) (setL_row B _ w hrow) (fun b hb => setL_block B hb _ w) (setL_size B _ w) (fun lo a hlo h => setL_below B hlo _ _ h)))
theorem TOk.leaf {w : World} {t : TT} {A : TA} (h : TOk w t A) (h1 : t.v.items = []) (h2 : t.vs = []) (h3 : t.ws = []) (h4 : t.p = pNone) (h5 : t.args = []) (S : Nat → Prop) : TOkA S w t A := fun W _ => by
  obtain ⟨k, ⟨vk, vn, vi⟩, vs, lo, hi, ws, p, l⟩ := t
  simp only [TT.v, TT.vs, TT.ws, TT.p, TT.args, VT.items] at h1 h2 h3 h4 h5
  subst h1 h2 h3 h4 h5
  refine TOk.of ⟨⟨by simp [TT.args], by simp [TT.vs], by simp [TT.ws]⟩, VIn.shut (by simp) (by rw [VRow]; trivial), by rw [TT.vs, VRow]; trivial, wrow_nil, PIn.shut (by simp) (VIn.shut (by simp) (by rw [VRow]; trivial)) prow_nil, trow_nil⟩

set_option maxRecDepth 100000 in
set_option maxHeartbeats 4000000 in
theorem lofA (S : Nat → Prop) (k : Int) (l : List TT) (a : Option Addr) (cap : Nat) (w : World) (hl : l.length ≤ 651562446070) (hr : TRowA S w l a) : Calls Try.prog 48 #[.int .u8 k, .slice a l.length cap] w fun e w' => ∃ x', e = .returned x' ∧ TInA S w' (tOf k l) x' ∧ Below w.heap.size w w' := by
  obtain ⟨w1, hw1, m1, s1, R1, _⟩ := box15 w (.int .u8 0) (.int .u8 0) (.int .i64 0) (.slice none 0 0) (.slice none 0 0) (.int .i64 0) (.int .i64 0) (.slice none 0 0) (.int .u8 0) (.int .u8 0) (.int .i64 0) (.slice none 0 0) (.int .i64 0) (.slice none 0 0) (.slice none 0 0) 47
  have HTH := Lib.hid (R1.there (q := 0) (m := 15) (by decide))
  obtain ⟨wE, hwE, hc, _, hbe⟩ := stored15 R1 (tOf k l) (plainA a cap)
  have hB := hbe _ _ (Nat.le_refl _) m1
  have HB := Lib.hid hB; have HW := Lib.hid hwE
  clear hB hwE hbe R1 m1
  go_enter Try.func48, Try.ntmps48
  go_wp2_with (refine wpList_store_mid rfl 47 _ _ rfl w.heap.size 0 _ rfl rfl HTH.out size15 (by simp [Value.oneCell']) ?_)
  generalize hWF : World.setCells w1 w.heap.size 0 _ = wF
  obtain rfl : wE = wF := HW.out.symm.trans hWF
  clear hWF
  exact bodyPost_ret (v := TT.val (tOf k l) (plainA a cap)) (results_cell Try.results48 rfl hc) rfl ⟨_, rfl, ⟨_, rfl, fun W ha => tok_plain hl (hr.below HB.out W ha)⟩, HB.out⟩
end Go.Proofs.Yteebbffecaeciaa
/- Plain words for chapter 21: free Selfs, and a term unfolded wholly. -/
namespace Go.Proofs.Yteebbffecaeciaa
open Go.RowKit

mutual
/-- how many free Selfs there are. -/
def TT.selfs : TT → Nat
  | .mk k _ _ _ _ _ _ l => if k = 11 then 1 else TT.selfss k 0 l
def TT.selfss (k : Int) (i : Nat) : List TT → Nat
  | [] => 0
  | t :: ts => (if k = 10 ∧ i = 1 then 0 else t.selfs) + TT.selfss k (i + 1) ts
end
def TT.withArgs (t : TT) (l : List TT) : TT := .mk t.kind t.v t.vs t.lo t.hi t.ws t.p l
/-- steps, as long as it is a Sized. -/
def TT.unf : Nat → TT → TT
  | 0, t => t
  | n + 1, t => if t.kind = 10 then TT.unf n t.step else t
/-- unfolded wholly. -/
def TT.whole : Nat → TT → TT
  | 0, t => t
  | n + 1, t => (t.unf (n + 1)).withArgs ((t.unf (n + 1)).args.map (TT.whole n))
mutual
/-- neither a Sized, nor a Self. -/
def TT.bare : TT → Bool
  | .mk k _ _ _ _ _ _ l => k != 10 && k != 11 && TT.bares l
def TT.bares : List TT → Bool
  | [] => true
  | t :: ts => t.bare && TT.bares ts
end
theorem node1_kind {k lo hi : Int} {v : VT} {vs : List VT} {ws : List Int} {p : PT} {n : Nat} (h : TT.node1 k v vs lo hi ws p n = 0) : 1 ≤ k ∧ k ≤ 11 := by
  unfold TT.node1 at h
  split at h
  · simp at h
  · omega
theorem TT.sane_kind {t : TT} (h : t.sane false = true) : 1 ≤ t.kind ∧ t.kind ≤ 10 := by
  obtain ⟨hn, h11, _⟩ := TT.sane_parts h
  have h1 := node1_kind hn
  have h11' : t.kind ≠ 11 := fun e => by have := h11 e; simp at this
  omega
theorem TT.sanes_every {k : Int} (hk : k ≠ 10) : ∀ (l : List TT) (i : Nat), TT.sanes false k i l = true ↔ ∀ t ∈ l, t.sane false = true
  | [], i => by simp [TT.sanes]
  | t :: ts, i => by
    rw [TT.sanes, Bool.and_eq_true, TT.sanes_every hk ts (i + 1)]
    have hb : (k == 10) = false := by simpa using hk
    simp [hb]
theorem TT.sane_args {t : TT} (h : t.sane false = true) (hk : t.kind ≠ 10) : ∀ u ∈ t.args, u.sane false = true :=
  (TT.sanes_every hk _ _).1 (TT.sane_parts h).2.2
/-- an argument of a term that is no Sized has less bulk. -/
theorem TT.bulk_arg {t : TT} (h : t.sane false = true) (hk : t.kind ≠ 10) {u : TT} (hu : u ∈ t.args) : u.bulk 0 < t.bulk 0 := by
  have hmem : ∀ l : List TT, u ∈ l → u.bulk 0 ≤ TT.bulks l 0 := fun l => by
    induction l with
    | nil => intro h; cases h
    | cons a l ih =>
      intro h
      rw [TT.bulks]
      rcases List.mem_cons.1 h with rfl | h
      · omega
      · have := ih h; omega
  have hm := hmem _ hu
  have hr := TT.right (TT.sane_parts h).1
  have hkind := TT.sane_kind h
  have hpos : 0 < t.args.length := List.length_pos_iff.2 (fun e => by rw [e] at hu; cases hu)
  have h1 : t.kind ≠ 1 := fun e => by have := hr.len0 (.inl e); omega
  have h4 : t.kind ≠ 4 := fun e => by have := hr.len0 (.inr (.inr (.inl e))); omega
  obtain ⟨k, v, vs, lo, hi, ws, p, l⟩ := t
  simp only [TT.kind, TT.args] at *
  rw [TT.bulk, if_neg h1, if_neg (by omega), if_neg hk]
  by_cases h2 : k = 2
  · have := hr.len0 (.inr (.inl h2)); simp only [TT.args] at this; omega
  · rw [if_neg h2, if_neg h4]
    split
    · have : 1 ≤ (max 1 hi).toNat := by omega
      have := Nat.mul_le_mul_right (TT.bulks l 0) this
      omega
    · omega
theorem TT.unf_more : ∀ (n m : Nat) (t : TT), t.sane false = true → t.bulk 0 ≤ n → n ≤ m → t.unf m = t.unf n
  | 0, m, t, hs, hb, _ => by have := TT.bulk_pos0 hs; omega
  | n + 1, 0, t, _, _, h => by omega
  | n + 1, m + 1, t, hs, hb, h => by
    rw [TT.unf, TT.unf]
    by_cases hk : t.kind = 10
    · rw [if_pos hk, if_pos hk]
      obtain ⟨h1, h2, _, _⟩ := TT.step_facts hk hs
      exact TT.unf_more n m t.step h1 (by omega) (by omega)
    · rw [if_neg hk, if_neg hk]
theorem TT.unf_not {n : Nat} {t : TT} (hk : t.kind ≠ 10) : t.unf n = t := by
  cases n with
  | zero => rfl
  | succ n => rw [TT.unf, if_neg hk]
end Go.Proofs.Yteebbffecaeciaa
/- Chapter 21's laws in plain words. -/
namespace Go.Proofs.Yteebbffecaeciaa
open Go.RowKit

/-- unfolded wholly, of a sound term. -/
def TT.Whole (t : TT) : TT := t.whole 4096
/-- what each makes of a term. -/
def TT.each (g : TT → TT) (t : TT) : TT := t.withArgs (t.args.mapIdx fun i a => if t.kind = 10 ∧ i = 1 then a else g a)
theorem TT.puts_each (k : Int) (s : TT) : ∀ (l : List TT) (i : Nat), TT.puts k i l s = l.mapIdx fun j a => if k = 10 ∧ i + j = 1 then a else a.put s
  | [], _ => by rw [TT.puts]; rfl
  | a :: l, i => by
    rw [TT.puts, TT.puts_each k s l (i + 1), List.mapIdx_cons]
    congr 1
    congr 1
    funext j a
    have : i + 1 + j = i + (j + 1) := by omega
    rw [this]
theorem TT.put_each {t s : TT} (hk : t.kind ≠ 11) : t.put s = t.each (fun a => a.put s) := by
  obtain ⟨k, v, vs, lo, hi, ws, p, l⟩ := t
  rw [TT.put, if_neg (show ¬ k = 11 from hk), TT.puts_each]
  simp only [Nat.zero_add]
  rfl
/-- a term that is no Sized has all of its arguments handed on. -/
theorem TT.each_all {t : TT} {g : TT → TT} (hk : t.kind ≠ 10) : t.each g = t.withArgs (t.args.map g) := by
  have h : ∀ (l : List TT), (l.mapIdx fun i a => if t.kind = 10 ∧ i = 1 then a else g a) = l.map g := fun l => by
    refine List.ext_getElem (by simp) fun i h1 h2 => ?_
    rw [List.getElem_mapIdx, List.getElem_map, if_neg (fun h => hk h.1)]
  unfold TT.each
  rw [h]
end Go.Proofs.Yteebbffecaeciaa
/- Rounds of each's loop: what the row of arguments holds. -/
namespace Go.Proofs.Yteebbffecaeciaa
open Go.RowKit

/-- the arguments before i are made; but for the row, and the blocks from lo up to hi, nothing of what was has turned. -/
structure EachG (lo hi : Nat) (S' : Nat → Prop) (l' : List TT) (B c : Nat) (w3 wr : World) (i : Nat) : Prop where
  os : wr.os = w3.os
  tape : wr.tape = w3.tape
  output : wr.output = w3.output
  size : w3.heap.size ≤ wr.heap.size
  same : ∀ k, k < w3.heap.size → k ≠ B → (k < lo ∨ hi ≤ k) → wr.heap[k]? = w3.heap[k]?
  row : RowAt wr 47 B (c * 15)
  done : ∀ j (_ : j < i) (hj : j < l'.length), ∃ A, TCells wr B (j * 15) l'[j] A ∧ TOkA S' wr l'[j] A
theorem setL_os (B : Nat) : ∀ (l : List (Nat × Value)) (w : World), (setL B l w).os = w.os ∧ (setL B l w).tape = w.tape ∧ (setL B l w).output = w.output
  | [], _ => ⟨rfl, rfl, rfl⟩
  | (o, v) :: l, w => by
    have h := setL_os B l (w.setCell ⟨B, o, none⟩ v)
    exact ⟨h.1.trans rfl, h.2.1.trans rfl, h.2.2.trans rfl⟩
theorem EachG.step {lo hi : Nat} {S' : Nat → Prop} {l' : List TT} {B c i : Nat} {w3 wr w5 : World} (hSB : S' B) (hBhi : hi ≤ B) (hSS : ∀ q, lo ≤ q → q < hi → S' q) (h : EachG lo hi S' l' B c w3 wr i) (hi' : i < l'.length) (hB : B < wr.heap.size) (hc : l'.length ≤ c) (hb : Only lo hi wr w5) {Y : TA} (hY : TOkA S' w5 l'[i] Y) :
    EachG lo hi S' l' B c w3 (setL B (cellsT (i * 15) l'[i] Y) w5) (i + 1) := by
  have hblk : w5.heap[B]? = wr.heap[B]? := hb.block B hB (.inr hBhi)
  have hrow5 : RowAt w5 47 B (c * 15) := row_block hblk h.row
  have hne : ∀ k, k ≠ B → (setL B (cellsT (i * 15) l'[i] Y) w5).heap[k]? = w5.heap[k]? := fun k hk => setL_block B hk _ _
  have hout : ∀ o, o < i * 15 ∨ i * 15 + 15 ≤ o → ∀ v, w5.cell? ⟨B, o, none⟩ = some v → (setL B (cellsT (i * 15) l'[i] Y) w5).cell? ⟨B, o, none⟩ = some v := fun o ho v hv => by
    rw [setL_out B B o _ w5 (fun _ hm => by obtain ⟨p, hp, rfl⟩ := List.mem_map.1 hm; have := cellsT_off _ _ _ p hp; omega)]; exact hv
  have hz : (setL B (cellsT (i * 15) l'[i] Y) w5).heap.size = w5.heap.size := setL_size _ _ _
  have hin : ∀ p ∈ cellsT (i * 15) l'[i] Y, (setL B (cellsT (i * 15) l'[i] Y) w5).cell? ⟨B, p.1, none⟩ = some p.2 := setL_in B _ w5 (by simp [cellsT]) (fun p hp => hrow5.cell p.1 (by have := cellsT_off _ _ _ p hp; omega))
  have hrow6 : RowAt (setL B (cellsT (i * 15) l'[i] Y) w5) 47 B (c * 15) := setL_row B _ _ hrow5
  have hY6 : TOkA S' (setL B (cellsT (i * 15) l'[i] Y) w5) l'[i] Y := hY.step (Nat.le_of_eq hz.symm) fun k _ hk => ⟨hk, hne k (fun e => hk (e ▸ hSB))⟩
  have hcl : TCells (setL B (cellsT (i * 15) l'[i] Y) w5) B (i * 15) l'[i] Y := by
    refine ⟨?_, ?_, ?_, ?_, ?_, ?_, ?_, ?_, ?_, ?_, ?_, ?_, ?_, ?_, ?_⟩
    all_goals exact hin (_, _) (by simp [cellsT])
  obtain ⟨o1, o2, o3⟩ := setL_os B (cellsT (i * 15) l'[i] Y) w5
  generalize setL B (cellsT (i * 15) l'[i] Y) w5 = w6 at *
  have hs5 := hb.size; have hs := h.size
  refine ⟨o1.trans (hb.os.trans h.os), o2.trans (hb.tape.trans h.tape), o3.trans (hb.output.trans h.output), by omega, fun k h1 h2 h3 => (hne k h2).trans ((hb.block k (by omega) h3).trans (h.same k h1 h2 h3)), hrow6, fun j hj hj' => ?_⟩
  by_cases e : j = i
  · subst e; exact ⟨Y, hcl, hY6⟩
  · obtain ⟨A, hc1, hok⟩ := h.done j (by omega) hj'
    have hcl5 := TCells.block hblk hc1
    have hok5 : TOkA S' w5 l'[j] A := hok.step hs5 fun k h1 h2 => ⟨h2, hb.block k h1 (by
      by_cases h3 : k < lo
      · exact .inl h3
      · by_cases h4 : k < hi
        · exact absurd (hSS k (by omega) h4) h2
        · exact .inr (by omega))⟩
    refine ⟨A, ?_, hok5.step (by omega) fun k _ hk => ⟨hk, hne k (fun e => hk (e ▸ hSB))⟩⟩
    obtain ⟨h0, h1, h2, h3, h4, h5, h6, h7, h8, h9, h10, h11, h12, h13, h14⟩ := hcl5
    exact ⟨hout _ (.inl (by omega)) _ h0, hout _ (.inl (by omega)) _ h1, hout _ (.inl (by omega)) _ h2, hout _ (.inl (by omega)) _ h3, hout _ (.inl (by omega)) _ h4, hout _ (.inl (by omega)) _ h5, hout _ (.inl (by omega)) _ h6, hout _ (.inl (by omega)) _ h7, hout _ (.inl (by omega)) _ h8, hout _ (.inl (by omega)) _ h9, hout _ (.inl (by omega)) _ h10, hout _ (.inl (by omega)) _ h11, hout _ (.inl (by omega)) _ h12, hout _ (.inl (by omega)) _ h13, hout _ (.inl (by omega)) _ h14⟩
theorem TT.put_self {t s : TT} (hk : t.kind = 11) : t.put s = s := by
  obtain ⟨k, v, vs, lo, hi, ws, p, l⟩ := t
  rw [TT.put, if_pos (show k = 11 from hk)]
theorem TT.selfs_self {t : TT} (hk : t.kind = 11) : t.selfs = 1 := by
  obtain ⟨k, v, vs, lo, hi, ws, p, l⟩ := t
  rw [TT.selfs, if_pos (show k = 11 from hk)]
theorem TT.selfs_not {t : TT} (hk : ¬ t.kind = 11) : t.selfs = TT.selfss t.kind 0 t.args := by
  obtain ⟨k, v, vs, lo, hi, ws, p, l⟩ := t
  rw [TT.selfs, if_neg (show ¬ k = 11 from hk)]
  rfl
theorem Only.nil {k : Nat} {a b : World} (h : Only k k a b) : Below a.heap.size a b := ⟨h.os, h.tape, h.output, h.size, fun i hi => h.block i hi (by omega)⟩
/-- what is made anew holds whatever older blocks hold. -/
theorem TFIn.robust {w : World} {lo : Nat} {t : TT} {x : Value} (h : TFIn w lo t x) {S : Nat → Prop} (hS : ∀ q, S q → q < lo) (_hlo : lo ≤ w.heap.size) : TInA S w t x := by
  obtain ⟨A, e, h⟩ := h
  exact ⟨A, e, fun W ha => (h.mono (lo' := lo) (Nat.le_refl _) (fun b o v hb hc => ha.cell (fun hs => by have := hS b hs; omega) hc) (fun b o v hb hc hf => by
    have hlt := lt_of_cell hc
    rw [World.frozen?_of_block (w := w) (a := ⟨b, o, none⟩) (ha.2 b hlt (fun hs => by have := hS b hs; omega))]; exact hf) t A).tok t A⟩
/-- the field of the arguments is written. -/
theorem args_set {w : World} {bo n c' : Nat} {a' : Option Addr} {t0 : TT} {A0 : TA} (h0 : TCells w bo 0 t0 A0) : ∃ w7, w.setCell ⟨bo, 14, none⟩ (.slice a' n c') = w7 ∧ (∀ k, k ≠ bo → w7.heap[k]? = w.heap[k]?) ∧ w7.heap.size = w.heap.size ∧ (∀ lo a, lo ≤ bo → Below lo a w → Below lo a w7) ∧
    (∀ (t : TT) (A : TA), t.kind = t0.kind → t.v = t0.v → t.vs = t0.vs → t.lo = t0.lo → t.hi = t0.hi → t.ws = t0.ws → t.p = t0.p → { A with aa := A0.aa, ac := A0.ac } = A0 → Value.slice A.aa t.args.length A.ac = Value.slice a' n c' → TCells w7 bo 0 t A) ∧ (∀ p, w7.frozen? p = w.frozen? p) ∧ (∀ T m, RowAt w T bo m → RowAt w7 T bo m) := by
  refine ⟨setL bo [(14, .slice a' n c')] w, rfl, fun b hb => setL_block _ hb _ _, setL_size _ _ _, fun lo a h h' => setL_below _ h _ _ h', ?_, fun p => setL_frozen _ _ _ _, fun T m h => setL_row _ _ _ h⟩
  intro t A e1 e2 e3 e4 e5 e6 e7 e8 e9
  obtain ⟨c0, c1, c2, c3, c4, c5, c6, c7, c8, c9, c10, c11, c12, c13, c14⟩ := h0
  have ho : ∀ o v, o ≠ 14 → w.cell? ⟨bo, o, none⟩ = some v → (setL bo [(14, .slice a' n c')] w).cell? ⟨bo, o, none⟩ = some v := fun o v hne hv => by rw [setL_out _ _ _ _ _ (fun _ => by simpa using hne)]; exact hv
  have h14 : (setL bo [(14, .slice a' n c')] w).cell? ⟨bo, 14, none⟩ = some (.slice a' n c') := setL_in _ _ _ (by simp) (fun q hq => by simp only [List.mem_singleton] at hq; subst hq; exact ⟨_, c14⟩) (14, _) (by simp)
  rw [← e8] at c3 c4 c7 c11 c13
  rw [← e1] at c0; rw [← e2] at c1 c2 c3; rw [← e3] at c4; rw [← e4] at c5; rw [← e5] at c6; rw [← e6] at c7; rw [← e7] at c8 c9 c10 c11 c12 c13
  exact ⟨ho _ _ (by decide) c0, ho _ _ (by decide) c1, ho _ _ (by decide) c2, ho _ _ (by decide) c3, ho _ _ (by decide) c4, ho _ _ (by decide) c5, ho _ _ (by decide) c6, ho _ _ (by decide) c7, ho _ _ (by decide) c8, ho _ _ (by decide) c9, ho _ _ (by decide) c10, ho _ _ (by decide) c11, ho _ _ (by decide) c12, ho _ _ (by decide) c13, by rw [e9]; exact h14⟩
end Go.Proofs.Yteebbffecaeciaa
/- The law's spoil of terms. -/
namespace Go.Proofs.Yteebbffecaeciaa
open Go.RowKit

theorem Spot.get {w : World} {lo hi K : Nat} {E : Nat → Nat → Prop} {a : Option Addr} {n i : Nat} (h : Spot w lo hi K E a n) (hi' : i < n) : ∃ b, a = some ⟨b, 0, none⟩ ∧ lo ≤ b ∧ b < hi ∧ (∀ j, j < K → w.frozen? ⟨b, i * K + j, none⟩ = false) ∧ E b (i * K) := by
  rcases h with h | ⟨b, ha, h1, h2, hr⟩
  · omega
  · exact ⟨b, ha, h1, h2, (hr i hi').1, (hr i hi').2⟩
theorem wpList_store15W {ops : Array Oper} {rest : List Oper} {o : Oper} {a : Act} {w : World} {Q : Exit → Act → World → Prop} {t : TT} {A : TA} {B q : Nat} {po xo : Operand} (g : o.guard = none) (h : o.op = .store 47 po xo) (d2 : o.dst = none) (e1 : a.eval po = .pointer (some ⟨B, q, none⟩)) (e2 : a.eval xo = t.val A)
    (hrow : w.there B q 15) (hk : ∀ wE, Hid (wE = setL B (cellsT q t A) w) → wpList Try.prog ops Q rest a wE) : wpList Try.prog ops Q (o :: rest) a w := by
  refine wpList_plain g fun K hK => wp_skip (K := K) (w' := setL B (cellsT q t A) w) ?_ d2 (hK _ _ (hk _ (Lib.hid rfl)))
  have hrun := run_at15W (t := t) (A := A) hrow
  obtain ⟨od, oo, ot, op, oa, og⟩ := o
  simp only at h
  subst h
  unfold execOp
  simp only [e1, e2, Sem.run_bind, Sem.run_pure, hrun, Result.andThen_ok]
def A99 : TA := ⟨none, 0, none, 0, none, 0, none, 0, none, 0, none, 0⟩
end Go.Proofs.Yteebbffecaeciaa
