/- Texts of this claim laid into one: UAwake. -/
import Derived.Test.YteebbffecaeciaaM38
import Derived.Test.YteebbffecaeciaaM39
import Derived.Test.YteebbffecaeciaaM41
import Derived.Test.YteebbffecaeciaaM28
/- Chapter 21's awake: the examples are as they are told. -/
namespace Go.Proofs.Yteebbffecaeciaa
open Go.RowKit

def ezT : TT := tSized 2 (tNum 0) (tOf 5 [tSelf])
theorem ez_cnt : ezT.cnt ≤ 3000000 := by decide +kernel
theorem ez_lean : ezT.lean = true := by decide +kernel
theorem ez_same1 : TT.same ezT.stepE.1 (tOf 5 [tSized 1 (tNum 0) (tOf 5 [tSelf])]) = true := by decide +kernel
theorem ez_e1 : ezT.stepE.2 = 0 := by decide +kernel
theorem ez_c1 : ezT.stepE.1.cnt ≤ 3000000 := by decide +kernel
theorem ez_same2 : TT.same ezT.wholeE.1 (tOf 5 [tOf 5 [tNum 0]]) = true := by decide +kernel
theorem ez_e2 : ezT.wholeE.2 = 0 := by decide +kernel
theorem ez_c2 : ezT.wholeE.1.cnt ≤ 3000000 := by decide +kernel
theorem ez_e3 : (tNum 1).stepE.2 = 11 := by decide +kernel
theorem ez_e4 : tSelf.stepE.2 = 3 := by decide +kernel
theorem ez_self2 : (tOf 5 [tSelf, tSelf]).selfs = 2 := by decide +kernel
theorem ez_self1 : (tSized 1 tSelf tSelf).selfs = 1 := by decide +kernel
set_option maxRecDepth 100000 in
set_option maxHeartbeats 8000000 in
theorem uawake_any (w : World) : Calls Try.prog 28 #[] w fun e w' => e = .returned (.bool true) ∧ Below w.heap.size w w' := by
  go_enter Try.func28, Try.ntmps28
  go_wp2_with fail
  refine (uNum 0 _).mono ?_
  rintro e w1 ⟨x1, rfl, ⟨A1, rfl, k1⟩, b1⟩
  go_wp2_with fail
  refine (uSelf _).mono ?_
  rintro e w2 ⟨x2, rfl, ⟨A2, rfl, k2⟩, b2⟩
  replace k1 := k1.below b2; replace b1 := b1.trans (b2.mono b1.size)
  go_wp2_with (first | refine wpList_row1 (s := tSelf) (A := A2) (by rfl) (by rfl) (by rfl) k2 ?_)
  intro w3 hrow b3
  replace k1 := k1.below b3; replace b1 := b1.trans (b3.mono b1.size)
  clear b2 b3 k2
  go_wp2_with fail
  refine (uTuple [tSelf] _ 1 w3 (by simp) hrow).mono ?_
  rintro e w5 ⟨x5, rfl, ⟨A5, rfl, k5⟩, b5⟩
  replace k1 := k1.below b5; replace b1 := b1.trans (b5.mono b1.size)
  clear hrow b5
  go_wp2_with fail
  refine (usized_any 2 _ _ _ _ w5 ⟨A1, rfl, k1⟩ ⟨A5, rfl, k5⟩).mono ?_
  rintro e w6 ⟨x6, rfl, ⟨A6, rfl, k6⟩, b6⟩
  replace b1 := b1.trans (b6.mono b1.size)
  clear k1 k5 b6
  obtain ⟨X, hX⟩ : ∃ X, X = tSized 2 (tNum 0) (tOf 5 [tSelf]) := ⟨_, rfl⟩
  rw [← hX] at k6 ⊢
  have HXE : Hid (X = ezT) := Lib.hid hX
  clear hX
  go_wp2_with (refine wpList_box15 (t := X) (A := A6) (by rfl) (by rfl) (by rfl) (by rfl) (by rfl) (by rfl) (by rfl) (by rfl) ?_)
  intro w8 hc8 hb8 _ _
  have HX : Hid (BoxA w8 w6.heap.size X A6) := Lib.hid ⟨hc8, k6.below hb8⟩
  replace b1 := b1.trans (hb8.mono b1.size)
  clear hc8 k6 hb8
  go_wp2_with (first | refine wpList_load15 (by rfl) (by rfl) (by rfl) HX.out.1 ?_)
  refine (uStep_any X _ _ (HXE.out ▸ ez_cnt) (HXE.out ▸ ez_lean) HX.out.tin).mono ?_
  rintro e w9 ⟨x9, rfl, h9, b9⟩
  obtain ⟨A9, rfl, k9⟩ := h9.tin
  obtain ⟨Xa, hXa⟩ : ∃ Xa, Xa = X.stepE.1 := ⟨_, rfl⟩
  rw [← hXa] at k9 ⊢
  have HCA : Hid (Xa.cnt ≤ 3000000) := Lib.hid (by rw [hXa, HXE.out]; exact ez_c1)
  have HSA : Hid (TT.same Xa (tOf 5 [tSized 1 (tNum 0) (tOf 5 [tSelf])]) = true) := Lib.hid (by rw [hXa, HXE.out]; exact ez_same1)
  rw [show X.stepE.2 = 0 from by rw [HXE.out]; exact ez_e1]
  replace HX := Lib.hid (HX.out.below b9); replace b1 := b1.trans (b9.mono b1.size)
  clear b9 hXa h9
  go_wp2_with (refine wpList_box15 (t := Xa) (A := A9) (by rfl) (by rfl) (by rfl) (by rfl) (by rfl) (by rfl) (by rfl) (by rfl) ?_)
  intro w10 hc8 hb8 _ _
  obtain ⟨b2, hb2⟩ : ∃ b2, b2 = w9.heap.size := ⟨_, rfl⟩
  rw [← hb2] at hc8 ⊢
  have HA : Hid (BoxT w10 b2 Xa) := Lib.hid ⟨A9, hc8, k9.below hb8⟩
  replace HX := Lib.hid (HX.out.below hb8); replace b1 := b1.trans (hb8.mono b1.size)
  clear hc8 k9 hb8 hb2
  go_wp2_with (first | refine wpList_load15 (by rfl) (by rfl) (by rfl) HX.out.1 ?_)
  refine (uWhole_any X _ _ (HXE.out ▸ ez_cnt) (HXE.out ▸ ez_lean) HX.out.tin).mono ?_
  rintro e w11 ⟨x9, rfl, h9, b9⟩
  obtain ⟨A9, rfl, k9⟩ := h9.tin
  obtain ⟨Xb, hXb⟩ : ∃ Xb, Xb = X.wholeE.1 := ⟨_, rfl⟩
  rw [← hXb] at k9 ⊢
  have HCB : Hid (Xb.cnt ≤ 3000000) := Lib.hid (by rw [hXb, HXE.out]; exact ez_c2)
  have HSB : Hid (TT.same Xb (tOf 5 [tOf 5 [tNum 0]]) = true) := Lib.hid (by rw [hXb, HXE.out]; exact ez_same2)
  rw [show X.wholeE.2 = 0 from by rw [HXE.out]; exact ez_e2]
  replace HA := Lib.hid (HA.out.below b9); replace b1 := b1.trans (b9.mono b1.size)
  clear b9 hXb h9 HX HXE
  go_wp2_with (refine wpList_box15 (t := Xb) (A := A9) (by rfl) (by rfl) (by rfl) (by rfl) (by rfl) (by rfl) (by rfl) (by rfl) ?_)
  intro w12 hc8 hb8 _ _
  obtain ⟨b4, hb4⟩ : ∃ b4, b4 = w11.heap.size := ⟨_, rfl⟩
  rw [← hb4] at hc8 ⊢
  have HBx : Hid (BoxT w12 b4 Xb) := Lib.hid ⟨A9, hc8, k9.below hb8⟩
  replace HA := Lib.hid (HA.out.below hb8); replace b1 := b1.trans (hb8.mono b1.size)
  clear hc8 k9 hb8 hb4
  go_wp2_with fail
  refine (uNum 1 _).mono ?_
  rintro e w13 ⟨x13, rfl, h13, b9⟩
  replace HA := Lib.hid (HA.out.below b9); replace HBx := Lib.hid (HBx.out.below b9); replace b1 := b1.trans (b9.mono b1.size)
  clear b9
  go_wp2_with fail
  refine (uStep_any (tNum 1) _ _ (by decide +kernel) (by decide +kernel) h13).mono ?_
  rintro e w14 ⟨x9, rfl, h9, b9⟩
  obtain ⟨A9, rfl, k9⟩ := h9.tin
  rw [ez_e3]
  replace HA := Lib.hid (HA.out.below b9); replace HBx := Lib.hid (HBx.out.below b9); replace b1 := b1.trans (b9.mono b1.size)
  clear b9 h9 h13
  go_wp2_with (refine wpList_box15 (t := (tNum 1).stepE.1) (A := A9) (by rfl) (by rfl) (by rfl) (by rfl) (by rfl) (by rfl) (by rfl) (by rfl) ?_)
  intro w15 _ hb8 _ _
  replace HA := Lib.hid (HA.out.below hb8); replace HBx := Lib.hid (HBx.out.below hb8); replace b1 := b1.trans (hb8.mono b1.size)
  clear k9 hb8
  go_wp2_with fail
  refine (uSelf _).mono ?_
  rintro e w16 ⟨x13, rfl, h13, b9⟩
  replace HA := Lib.hid (HA.out.below b9); replace HBx := Lib.hid (HBx.out.below b9); replace b1 := b1.trans (b9.mono b1.size)
  clear b9
  go_wp2_with fail
  refine (uStep_any tSelf _ _ (by decide +kernel) (by decide +kernel) h13).mono ?_
  rintro e w17 ⟨x9, rfl, h9, b9⟩
  obtain ⟨A9, rfl, k9⟩ := h9.tin
  rw [ez_e4]
  replace HA := Lib.hid (HA.out.below b9); replace HBx := Lib.hid (HBx.out.below b9); replace b1 := b1.trans (b9.mono b1.size)
  clear b9 h9 h13
  go_wp2_with (refine wpList_box15 (t := tSelf.stepE.1) (A := A9) (by rfl) (by rfl) (by rfl) (by rfl) (by rfl) (by rfl) (by rfl) (by rfl) ?_)
  intro w18 _ hb8 _ _
  replace HA := Lib.hid (HA.out.below hb8); replace HBx := Lib.hid (HBx.out.below hb8); replace b1 := b1.trans (hb8.mono b1.size)
  clear k9 hb8
  go_wp2_with fail
  have HBV := Lib.hid (fun W (h : Below w18.drew.heap.size w18.drew W) => (Below.refl _ w18).drew.trans h)
  try simp only [List.append_eq, List.cons_append, List.nil_append]
  refine wp_region_allW (kindT [(35, .fixed (.int .i64 0)), (36, .fixed (.bool true)), (37, .fixed (.bool true)), (38, .term (Xa)), (39, .term (tNum 0)), (40, .term (tSelf)), (41, .row [tSelf]), (42, .term (tOf 5 [tSelf])), (43, .term (tSized 1 (tNum 0) (tOf 5 [tSelf]))), (44, .row [tSized 1 (tNum 0) (tOf 5 [tSelf])]), (45, .term (tOf 5 [tSized 1 (tNum 0) (tOf 5 [tSelf])])), (46, .fixed (.bool true)), (47, .fixed (.bool true)), (48, .fixed (.bool true)), (49, .fixed (.int .i64 0)), (50, .fixed (.bool true)), (51, .fixed (.bool true)), (52, .fixed (.bool true)), (53, .term (Xb)), (54, .term (tNum 0)), (55, .row [tNum 0]), (56, .term (tOf 5 [tNum 0])), (57, .row [tOf 5 [tNum 0]]), (58, .term (tOf 5 [tOf 5 [tNum 0]])), (59, .fixed (.bool true)), (60, .fixed (.bool true)), (61, .fixed (.bool true)), (62, .fixed (.int .i64 11)), (63, .fixed (.bool true)), (64, .fixed (.bool true)), (65, .fixed (.bool true)), (66, .fixed (.int .i64 3)), (67, .fixed (.bool true)), (68, .fixed (.bool true)), (69, .fixed (.bool true)), (70, .term (tSelf)), (71, .term (tSelf)), (72, .row [tSelf, tSelf]), (73, .term (tOf 5 [tSelf, tSelf])), (74, .fixed (.int .i64 2)), (75, .fixed (.bool true)), (76, .fixed (.bool true)), (77, .fixed (.bool true)), (78, .term (tSelf)), (79, .term (tSelf)), (80, .term (tSized 1 tSelf tSelf)), (81, .fixed (.int .i64 1)), (82, .fixed (.bool true)), (83, .fixed (.bool true)), (0, .fixed (.bool true))]) 84 (by kernel_rfl) (by kernel_rfl) (by rfl) (kindT_mono _) ?_ ?_
  · as_aux_lemma =>
    show ∀ o ∈ [(0, _), (1, _), (2, _), (3, _), (4, _), (5, _), (6, _), (7, _), (8, _), (9, _), (10, _), (11, _), (12, _), (13, _), (14, _), (15, _), (16, _), (17, _), (18, _), (19, _), (20, _), (21, _), (22, _), (23, _), (24, _), (25, _), (26, _), (27, _), (28, _), (29, _), (30, _), (31, _), (32, _), (33, _), (34, _), (35, _), (36, _), (37, _), (38, _), (39, _), (40, _), (41, _), (42, _), (43, _), (44, _), (45, _), (46, _), (47, _), (48, _), (49, _)], _
    refine (tfm ?_ (tfm ?_ (tfm ?_ (tfm ?_ (tfm ?_ (tfm ?_ (tfm ?_ (tfm ?_ (tfm ?_ (tfm ?_ (tfm ?_ (tfm ?_ (tfm ?_ (tfm ?_ (tfm ?_ (tfm ?_ (tfm ?_ (tfm ?_ (tfm ?_ (tfm ?_ (tfm ?_ (tfm ?_ (tfm ?_ (tfm ?_ (tfm ?_ (tfm ?_ (tfm ?_ (tfm ?_ (tfm ?_ (tfm ?_ (tfm ?_ (tfm ?_ (tfm ?_ (tfm ?_ (tfm ?_ (tfm ?_ (tfm ?_ (tfm ?_ (tfm ?_ (tfm ?_ (tfm ?_ (tfm ?_ (tfm ?_ (tfm ?_ (tfm ?_ (tfm ?_ (tfm ?_ (tfm ?_ (tfm ?_ (tfm ?_ tfmnil))))))))))))))))))))))))))))))))))))))))))))))))))
    · intro r W hc hf hs hd hB
      have hBV := HBV.out W hB
      refine want_n rfl ?_
      have e : r (.tmp 3) = .int .i64 0 := hs 3 (by kernel_rfl)
      exact st_value (v := .int .i64 0) rfl (by decide) (by go_simp) rfl
    · intro r W hc hf hs hd hB
      have hBV := HBV.out W hB
      refine want_n rfl ?_
      have e35 : r (.tmp 35) = .int .i64 0 := hd 35 (by kernel_rfl)
      exact st_value (v := .bool true) rfl (by decide) (by go_simp) rfl
    · intro r W hc hf hs hd hB
      have hBV := HBV.out W hB
      refine want_n rfl ?_
      have e : r (.tmp 36) = .bool true := hd 36 (by kernel_rfl)
      exact st_value (v := .bool true) rfl (by decide) (by go_simp) rfl
    · intro r W hc hf hs hd hB
      have hBV := HBV.out W hB
      refine want_g 2 37 rfl (by kernel_rfl) (hd 37 (by kernel_rfl) : r (.tmp 37) = .bool true) ?_
      have e : r (.tmp 2) = .pointer (some ⟨b2, 0, none⟩) := hs 2 (by kernel_rfl)
      obtain ⟨A, hcl, hok⟩ := BoxT.below HA.out hBV
      exact st_value (v := TT.val (Xa) A) rfl (by decide) (run_load15 hcl rfl e) ⟨A, rfl, hok⟩
    · intro r W hc hf hs hd hB
      have hBV := HBV.out W hB
      refine want_g 2 37 rfl (by kernel_rfl) (hd 37 (by kernel_rfl) : r (.tmp 37) = .bool true) ?_
      
      exact st_call (f := 42) (args := #[.int .i64 0]) rfl (by decide) (by go_simp) (made_term (uNum 0 W))
    · intro r W hc hf hs hd hB
      have hBV := HBV.out W hB
      refine want_g 2 37 rfl (by kernel_rfl) (hd 37 (by kernel_rfl) : r (.tmp 37) = .bool true) ?_
      
      exact st_call (f := 41) (args := #[]) rfl (by decide) (by go_simp) (made_term (uSelf W))
    · intro r W hc hf hs hd hB
      have hBV := HBV.out W hB
      refine want_g 2 37 rfl (by kernel_rfl) (hd 37 (by kernel_rfl) : r (.tmp 37) = .bool true) ?_
      have h40 : TIn W (tSelf) (r (.tmp 40)) := hd 40 (by kernel_rfl)
      obtain ⟨A40, e40, k40⟩ := h40
      obtain ⟨w2, hw2, m2, s2, hc2, _⟩ := row1_new W (tSelf) A40
      exact st_new (v := .slice (some ⟨W.heap.size, 0, none⟩) 1 1) (w' := w2) rfl (by decide) (run_row1 rfl e40 hw2) m2 ⟨_, _, _, rfl, rfl, by simp, trow_cons hc2 (k40.below m2) trow_nil⟩
    · intro r W hc hf hs hd hB
      have hBV := HBV.out W hB
      refine want_g 2 37 rfl (by kernel_rfl) (hd 37 (by kernel_rfl) : r (.tmp 37) = .bool true) ?_
      obtain ⟨ah41, nh41, ch41, h41, hnh41, hlh41, hrh41⟩ : TQ.ok (.row [tSelf]) (r (.tmp 41)) W := hd 41 (by kernel_rfl)
      exact st_call (f := 40) (args := #[.slice ah41 nh41 ch41]) rfl (by decide) (by go_simp) (by rw [hnh41]; exact made_term (uTuple [tSelf] ah41 ch41 W (by simp) hrh41))
    · intro r W hc hf hs hd hB
      have hBV := HBV.out W hB
      refine want_g 2 37 rfl (by kernel_rfl) (hd 37 (by kernel_rfl) : r (.tmp 37) = .bool true) ?_
      have h39 : TIn W (tNum 0) (r (.tmp 39)) := hd 39 (by kernel_rfl)
      have h42 : TIn W (tOf 5 [tSelf]) (r (.tmp 42)) := hd 42 (by kernel_rfl)
      exact st_call (f := 33) (args := #[.int .i64 1, r (.tmp 39), r (.tmp 42)]) rfl (by decide) (by go_simp) (made_term (usized_any 1 _ _ _ _ W h39 h42))
    · intro r W hc hf hs hd hB
      have hBV := HBV.out W hB
      refine want_g 2 37 rfl (by kernel_rfl) (hd 37 (by kernel_rfl) : r (.tmp 37) = .bool true) ?_
      have h43 : TIn W (tSized 1 (tNum 0) (tOf 5 [tSelf])) (r (.tmp 43)) := hd 43 (by kernel_rfl)
      obtain ⟨A43, e43, k43⟩ := h43
      obtain ⟨w2, hw2, m2, s2, hc2, _⟩ := row1_new W (tSized 1 (tNum 0) (tOf 5 [tSelf])) A43
      exact st_new (v := .slice (some ⟨W.heap.size, 0, none⟩) 1 1) (w' := w2) rfl (by decide) (run_row1 rfl e43 hw2) m2 ⟨_, _, _, rfl, rfl, by simp, trow_cons hc2 (k43.below m2) trow_nil⟩
    · intro r W hc hf hs hd hB
      have hBV := HBV.out W hB
      refine want_g 2 37 rfl (by kernel_rfl) (hd 37 (by kernel_rfl) : r (.tmp 37) = .bool true) ?_
      obtain ⟨ah44, nh44, ch44, h44, hnh44, hlh44, hrh44⟩ : TQ.ok (.row [tSized 1 (tNum 0) (tOf 5 [tSelf])]) (r (.tmp 44)) W := hd 44 (by kernel_rfl)
      exact st_call (f := 40) (args := #[.slice ah44 nh44 ch44]) rfl (by decide) (by go_simp) (by rw [hnh44]; exact made_term (uTuple [tSized 1 (tNum 0) (tOf 5 [tSelf])] ah44 ch44 W (by simp) hrh44))
    · intro r W hc hf hs hd hB
      have hBV := HBV.out W hB
      refine want_g 2 37 rfl (by kernel_rfl) (hd 37 (by kernel_rfl) : r (.tmp 37) = .bool true) ?_
      have h38 : TIn W (Xa) (r (.tmp 38)) := hd 38 (by kernel_rfl)
      have h45 : TIn W (tOf 5 [tSized 1 (tNum 0) (tOf 5 [tSelf])]) (r (.tmp 45)) := hd 45 (by kernel_rfl)
      exact st_call (f := 31) (args := #[r (.tmp 38), r (.tmp 45)]) rfl (by decide) (by go_simp) (made_fix (by rw [HSA.out]) (rtsame_any 3000000 Xa (tOf 5 [tSized 1 (tNum 0) (tOf 5 [tSelf])]) _ _ W HCA.out h38 h45))
    · intro r W hc hf hs hd hB
      have hBV := HBV.out W hB
      refine want_n rfl ?_
      have e37 : r (.tmp 37) = .bool true := hd 37 (by kernel_rfl)
      have e46 : r (.tmp 46) = .bool true := hd 46 (by kernel_rfl)
      exact st_value (v := .bool true) rfl (by decide) (by go_simp) rfl
    · intro r W hc hf hs hd hB
      have hBV := HBV.out W hB
      refine want_n rfl ?_
      have e : r (.tmp 47) = .bool true := hd 47 (by kernel_rfl)
      exact st_value (v := .bool true) rfl (by decide) (by go_simp) rfl
    · intro r W hc hf hs hd hB
      have hBV := HBV.out W hB
      refine want_g 13 48 rfl (by kernel_rfl) (hd 48 (by kernel_rfl) : r (.tmp 48) = .bool true) ?_
      have e : r (.tmp 5) = .int .i64 0 := hs 5 (by kernel_rfl)
      exact st_value (v := .int .i64 0) rfl (by decide) (by go_simp) rfl
    · intro r W hc hf hs hd hB
      have hBV := HBV.out W hB
      refine want_g 13 48 rfl (by kernel_rfl) (hd 48 (by kernel_rfl) : r (.tmp 48) = .bool true) ?_
      have e49 : r (.tmp 49) = .int .i64 0 := hd 49 (by kernel_rfl)
      exact st_value (v := .bool true) rfl (by decide) (by go_simp) rfl
    · intro r W hc hf hs hd hB
      have hBV := HBV.out W hB
      refine want_n rfl ?_
      have e48 : r (.tmp 48) = .bool true := hd 48 (by kernel_rfl)
      have e50 : r (.tmp 50) = .bool true := hd 50 (by kernel_rfl)
      exact st_value (v := .bool true) rfl (by decide) (by go_simp) rfl
    · intro r W hc hf hs hd hB
      have hBV := HBV.out W hB
      refine want_n rfl ?_
      have e : r (.tmp 51) = .bool true := hd 51 (by kernel_rfl)
      exact st_value (v := .bool true) rfl (by decide) (by go_simp) rfl
    · intro r W hc hf hs hd hB
      have hBV := HBV.out W hB
      refine want_g 17 52 rfl (by kernel_rfl) (hd 52 (by kernel_rfl) : r (.tmp 52) = .bool true) ?_
      have e : r (.tmp 4) = .pointer (some ⟨b4, 0, none⟩) := hs 4 (by kernel_rfl)
      obtain ⟨A, hcl, hok⟩ := BoxT.below HBx.out hBV
      exact st_value (v := TT.val (Xb) A) rfl (by decide) (run_load15 hcl rfl e) ⟨A, rfl, hok⟩
    · intro r W hc hf hs hd hB
      have hBV := HBV.out W hB
      refine want_g 17 52 rfl (by kernel_rfl) (hd 52 (by kernel_rfl) : r (.tmp 52) = .bool true) ?_
      
      exact st_call (f := 42) (args := #[.int .i64 0]) rfl (by decide) (by go_simp) (made_term (uNum 0 W))
    · intro r W hc hf hs hd hB
      have hBV := HBV.out W hB
      refine want_g 17 52 rfl (by kernel_rfl) (hd 52 (by kernel_rfl) : r (.tmp 52) = .bool true) ?_
      have h54 : TIn W (tNum 0) (r (.tmp 54)) := hd 54 (by kernel_rfl)
      obtain ⟨A54, e54, k54⟩ := h54
      obtain ⟨w2, hw2, m2, s2, hc2, _⟩ := row1_new W (tNum 0) A54
      exact st_new (v := .slice (some ⟨W.heap.size, 0, none⟩) 1 1) (w' := w2) rfl (by decide) (run_row1 rfl e54 hw2) m2 ⟨_, _, _, rfl, rfl, by simp, trow_cons hc2 (k54.below m2) trow_nil⟩
    · intro r W hc hf hs hd hB
      have hBV := HBV.out W hB
      refine want_g 17 52 rfl (by kernel_rfl) (hd 52 (by kernel_rfl) : r (.tmp 52) = .bool true) ?_
      obtain ⟨ah55, nh55, ch55, h55, hnh55, hlh55, hrh55⟩ : TQ.ok (.row [tNum 0]) (r (.tmp 55)) W := hd 55 (by kernel_rfl)
      exact st_call (f := 40) (args := #[.slice ah55 nh55 ch55]) rfl (by decide) (by go_simp) (by rw [hnh55]; exact made_term (uTuple [tNum 0] ah55 ch55 W (by simp) hrh55))
    · intro r W hc hf hs hd hB
      have hBV := HBV.out W hB
      refine want_g 17 52 rfl (by kernel_rfl) (hd 52 (by kernel_rfl) : r (.tmp 52) = .bool true) ?_
      have h56 : TIn W (tOf 5 [tNum 0]) (r (.tmp 56)) := hd 56 (by kernel_rfl)
      obtain ⟨A56, e56, k56⟩ := h56
      obtain ⟨w2, hw2, m2, s2, hc2, _⟩ := row1_new W (tOf 5 [tNum 0]) A56
      exact st_new (v := .slice (some ⟨W.heap.size, 0, none⟩) 1 1) (w' := w2) rfl (by decide) (run_row1 rfl e56 hw2) m2 ⟨_, _, _, rfl, rfl, by simp, trow_cons hc2 (k56.below m2) trow_nil⟩
    · intro r W hc hf hs hd hB
      have hBV := HBV.out W hB
      refine want_g 17 52 rfl (by kernel_rfl) (hd 52 (by kernel_rfl) : r (.tmp 52) = .bool true) ?_
      obtain ⟨ah57, nh57, ch57, h57, hnh57, hlh57, hrh57⟩ : TQ.ok (.row [tOf 5 [tNum 0]]) (r (.tmp 57)) W := hd 57 (by kernel_rfl)
      exact st_call (f := 40) (args := #[.slice ah57 nh57 ch57]) rfl (by decide) (by go_simp) (by rw [hnh57]; exact made_term (uTuple [tOf 5 [tNum 0]] ah57 ch57 W (by simp) hrh57))
    · intro r W hc hf hs hd hB
      have hBV := HBV.out W hB
      refine want_g 17 52 rfl (by kernel_rfl) (hd 52 (by kernel_rfl) : r (.tmp 52) = .bool true) ?_
      have h53 : TIn W (Xb) (r (.tmp 53)) := hd 53 (by kernel_rfl)
      have h58 : TIn W (tOf 5 [tOf 5 [tNum 0]]) (r (.tmp 58)) := hd 58 (by kernel_rfl)
      exact st_call (f := 31) (args := #[r (.tmp 53), r (.tmp 58)]) rfl (by decide) (by go_simp) (made_fix (by rw [HSB.out]) (rtsame_any 3000000 Xb (tOf 5 [tOf 5 [tNum 0]]) _ _ W HCB.out h53 h58))
    · intro r W hc hf hs hd hB
      have hBV := HBV.out W hB
      refine want_n rfl ?_
      have e52 : r (.tmp 52) = .bool true := hd 52 (by kernel_rfl)
      have e59 : r (.tmp 59) = .bool true := hd 59 (by kernel_rfl)
      exact st_value (v := .bool true) rfl (by decide) (by go_simp) rfl
    · intro r W hc hf hs hd hB
      have hBV := HBV.out W hB
      refine want_n rfl ?_
      have e : r (.tmp 60) = .bool true := hd 60 (by kernel_rfl)
      exact st_value (v := .bool true) rfl (by decide) (by go_simp) rfl
    · intro r W hc hf hs hd hB
      have hBV := HBV.out W hB
      refine want_g 26 61 rfl (by kernel_rfl) (hd 61 (by kernel_rfl) : r (.tmp 61) = .bool true) ?_
      have e : r (.tmp 7) = .int .i64 11 := hs 7 (by kernel_rfl)
      exact st_value (v := .int .i64 11) rfl (by decide) (by go_simp) rfl
    · intro r W hc hf hs hd hB
      have hBV := HBV.out W hB
      refine want_g 26 61 rfl (by kernel_rfl) (hd 61 (by kernel_rfl) : r (.tmp 61) = .bool true) ?_
      have e62 : r (.tmp 62) = .int .i64 11 := hd 62 (by kernel_rfl)
      exact st_value (v := .bool true) rfl (by decide) (by go_simp) rfl
    · intro r W hc hf hs hd hB
      have hBV := HBV.out W hB
      refine want_n rfl ?_
      have e61 : r (.tmp 61) = .bool true := hd 61 (by kernel_rfl)
      have e63 : r (.tmp 63) = .bool true := hd 63 (by kernel_rfl)
      exact st_value (v := .bool true) rfl (by decide) (by go_simp) rfl
    · intro r W hc hf hs hd hB
      have hBV := HBV.out W hB
      refine want_n rfl ?_
      have e : r (.tmp 64) = .bool true := hd 64 (by kernel_rfl)
      exact st_value (v := .bool true) rfl (by decide) (by go_simp) rfl
    · intro r W hc hf hs hd hB
      have hBV := HBV.out W hB
      refine want_g 30 65 rfl (by kernel_rfl) (hd 65 (by kernel_rfl) : r (.tmp 65) = .bool true) ?_
      have e : r (.tmp 9) = .int .i64 3 := hs 9 (by kernel_rfl)
      exact st_value (v := .int .i64 3) rfl (by decide) (by go_simp) rfl
    · intro r W hc hf hs hd hB
      have hBV := HBV.out W hB
      refine want_g 30 65 rfl (by kernel_rfl) (hd 65 (by kernel_rfl) : r (.tmp 65) = .bool true) ?_
      have e66 : r (.tmp 66) = .int .i64 3 := hd 66 (by kernel_rfl)
      exact st_value (v := .bool true) rfl (by decide) (by go_simp) rfl
    · intro r W hc hf hs hd hB
      have hBV := HBV.out W hB
      refine want_n rfl ?_
      have e65 : r (.tmp 65) = .bool true := hd 65 (by kernel_rfl)
      have e67 : r (.tmp 67) = .bool true := hd 67 (by kernel_rfl)
      exact st_value (v := .bool true) rfl (by decide) (by go_simp) rfl
    · intro r W hc hf hs hd hB
      have hBV := HBV.out W hB
      refine want_n rfl ?_
      have e : r (.tmp 68) = .bool true := hd 68 (by kernel_rfl)
      exact st_value (v := .bool true) rfl (by decide) (by go_simp) rfl
    · intro r W hc hf hs hd hB
      have hBV := HBV.out W hB
      refine want_g 34 69 rfl (by kernel_rfl) (hd 69 (by kernel_rfl) : r (.tmp 69) = .bool true) ?_
      
      exact st_call (f := 41) (args := #[]) rfl (by decide) (by go_simp) (made_term (uSelf W))
    · intro r W hc hf hs hd hB
      have hBV := HBV.out W hB
      refine want_g 34 69 rfl (by kernel_rfl) (hd 69 (by kernel_rfl) : r (.tmp 69) = .bool true) ?_
      
      exact st_call (f := 41) (args := #[]) rfl (by decide) (by go_simp) (made_term (uSelf W))
    · intro r W hc hf hs hd hB
      have hBV := HBV.out W hB
      refine want_g 34 69 rfl (by kernel_rfl) (hd 69 (by kernel_rfl) : r (.tmp 69) = .bool true) ?_
      have h70 : TIn W (tSelf) (r (.tmp 70)) := hd 70 (by kernel_rfl)
      obtain ⟨A70, e70, k70⟩ := h70
      have h71 : TIn W (tSelf) (r (.tmp 71)) := hd 71 (by kernel_rfl)
      obtain ⟨A71, e71, k71⟩ := h71
      obtain ⟨w2, hw2, m2, s2, hc2, hc3⟩ := row2_new W (tSelf) (tSelf) A70 A71
      exact st_new (v := .slice (some ⟨W.heap.size, 0, none⟩) 2 2) (w' := w2) rfl (by decide) (run_row2 rfl e70 e71 hw2) m2 ⟨_, _, _, rfl, rfl, by simp, trow_cons hc2 (k70.below m2) (trow_cons hc3 (k71.below m2) trow_nil)⟩
    · intro r W hc hf hs hd hB
      have hBV := HBV.out W hB
      refine want_g 34 69 rfl (by kernel_rfl) (hd 69 (by kernel_rfl) : r (.tmp 69) = .bool true) ?_
      obtain ⟨ah72, nh72, ch72, h72, hnh72, hlh72, hrh72⟩ : TQ.ok (.row [tSelf, tSelf]) (r (.tmp 72)) W := hd 72 (by kernel_rfl)
      exact st_call (f := 40) (args := #[.slice ah72 nh72 ch72]) rfl (by decide) (by go_simp) (by rw [hnh72]; exact made_term (uTuple [tSelf, tSelf] ah72 ch72 W (by simp) hrh72))
    · intro r W hc hf hs hd hB
      have hBV := HBV.out W hB
      refine want_g 34 69 rfl (by kernel_rfl) (hd 69 (by kernel_rfl) : r (.tmp 69) = .bool true) ?_
      have h73 : TIn W (tOf 5 [tSelf, tSelf]) (r (.tmp 73)) := hd 73 (by kernel_rfl)
      exact st_call (f := 38) (args := #[r (.tmp 73)]) rfl (by decide) (by go_simp) (made_fix (by rw [ez_self2]; rfl) (uselfs_any 3000000 (by decide) _ _ W (by decide +kernel) h73))
    · intro r W hc hf hs hd hB
      have hBV := HBV.out W hB
      refine want_g 34 69 rfl (by kernel_rfl) (hd 69 (by kernel_rfl) : r (.tmp 69) = .bool true) ?_
      have e74 : r (.tmp 74) = .int .i64 2 := hd 74 (by kernel_rfl)
      exact st_value (v := .bool true) rfl (by decide) (by go_simp) rfl
    · intro r W hc hf hs hd hB
      have hBV := HBV.out W hB
      refine want_n rfl ?_
      have e69 : r (.tmp 69) = .bool true := hd 69 (by kernel_rfl)
      have e75 : r (.tmp 75) = .bool true := hd 75 (by kernel_rfl)
      exact st_value (v := .bool true) rfl (by decide) (by go_simp) rfl
    · intro r W hc hf hs hd hB
      have hBV := HBV.out W hB
      refine want_n rfl ?_
      have e : r (.tmp 76) = .bool true := hd 76 (by kernel_rfl)
      exact st_value (v := .bool true) rfl (by decide) (by go_simp) rfl
    · intro r W hc hf hs hd hB
      have hBV := HBV.out W hB
      refine want_g 42 77 rfl (by kernel_rfl) (hd 77 (by kernel_rfl) : r (.tmp 77) = .bool true) ?_
      
      exact st_call (f := 41) (args := #[]) rfl (by decide) (by go_simp) (made_term (uSelf W))
    · intro r W hc hf hs hd hB
      have hBV := HBV.out W hB
      refine want_g 42 77 rfl (by kernel_rfl) (hd 77 (by kernel_rfl) : r (.tmp 77) = .bool true) ?_
      
      exact st_call (f := 41) (args := #[]) rfl (by decide) (by go_simp) (made_term (uSelf W))
    · intro r W hc hf hs hd hB
      have hBV := HBV.out W hB
      refine want_g 42 77 rfl (by kernel_rfl) (hd 77 (by kernel_rfl) : r (.tmp 77) = .bool true) ?_
      have h78 : TIn W (tSelf) (r (.tmp 78)) := hd 78 (by kernel_rfl)
      have h79 : TIn W (tSelf) (r (.tmp 79)) := hd 79 (by kernel_rfl)
      exact st_call (f := 33) (args := #[.int .i64 1, r (.tmp 78), r (.tmp 79)]) rfl (by decide) (by go_simp) (made_term (usized_any 1 _ _ _ _ W h78 h79))
    · intro r W hc hf hs hd hB
      have hBV := HBV.out W hB
      refine want_g 42 77 rfl (by kernel_rfl) (hd 77 (by kernel_rfl) : r (.tmp 77) = .bool true) ?_
      have h80 : TIn W (tSized 1 tSelf tSelf) (r (.tmp 80)) := hd 80 (by kernel_rfl)
      exact st_call (f := 38) (args := #[r (.tmp 80)]) rfl (by decide) (by go_simp) (made_fix (by rw [ez_self1]; rfl) (uselfs_any 3000000 (by decide) _ _ W (by decide +kernel) h80))
    · intro r W hc hf hs hd hB
      have hBV := HBV.out W hB
      refine want_g 42 77 rfl (by kernel_rfl) (hd 77 (by kernel_rfl) : r (.tmp 77) = .bool true) ?_
      have e81 : r (.tmp 81) = .int .i64 1 := hd 81 (by kernel_rfl)
      exact st_value (v := .bool true) rfl (by decide) (by go_simp) rfl
    · intro r W hc hf hs hd hB
      have hBV := HBV.out W hB
      refine want_n rfl ?_
      have e77 : r (.tmp 77) = .bool true := hd 77 (by kernel_rfl)
      have e82 : r (.tmp 82) = .bool true := hd 82 (by kernel_rfl)
      exact st_value (v := .bool true) rfl (by decide) (by go_simp) rfl
    · intro r W hc hf hs hd hB
      have hBV := HBV.out W hB
      refine want_n rfl ?_
      have e : r (.tmp 83) = .bool true := hd 83 (by kernel_rfl)
      exact st_value (v := .bool true) rfl (by decide) (by go_simp) rfl
  intro f w19 hfd hB'
  have z0 : f 0 = .bool true := hfd 0 (of_decide_eq_true (by kernel_rfl))
  have hbR := HBV.out w19 hB'
  rw [show dstsTo _ _ = [35, 36, 37, 38, 39, 40, 41, 42, 43, 44, 45, 46, 47, 48, 49, 50, 51, 52, 53, 54, 55, 56, 57, 58, 59, 60, 61, 62, 63, 64, 65, 66, 67, 68, 69, 70, 71, 72, 73, 74, 75, 76, 77, 78, 79, 80, 81, 82, 83, 0] from by kernel_rfl]
  simp only [fill, List.setIfInBounds_toArray, List.set_cons_succ, List.set_cons_zero, z0]
  clear hfd hB' HBV z0
  go_wp2_with fail
  go_ret
  exact ⟨rfl, b1.trans (hbR.mono b1.size)⟩
end Go.Proofs.Yteebbffecaeciaa
