/- TermCounts: the law returns true for all that can be read, and what was handed in reads afterwards as it read before. -/
import Derived.Test.YtapofbdkofelkaaM59
import Derived.Test.YtapofbdkofelkaaM37
import Derived.Test.YtapofbdkofelkaaM38
/- TermCounts: the law's function, walked. -/
namespace Go.Proofs.Ytapofbdkofelkaa
open Go.RowKit

set_option maxRecDepth 100000 in
set_option maxHeartbeats 8000000 in
theorem termCounts_any (t : TT) (x : Value) (w : World) (hx : TIn w t x) : Calls Try.prog 3 #[x] w fun e w' => e = .returned (.bool true) ∧ Below w.heap.size w w' := by
  obtain ⟨A, rfl, hok⟩ := hx
  obtain ⟨w1, hw1, m1, s1, hc2, _⟩ := row1_new w t A
  have HX : Hid (BoxA w1 w.heap.size t A) := Lib.hid ⟨hc2, hok.below m1⟩
  have hBA := m1
  obtain ⟨lg, hlg⟩ : ∃ lg, lg = TT.long [t] := ⟨_, rfl⟩
  have HLG := Lib.hid hlg; clear hlg hc2 hok m1
  unfold TT.val
  go_enter Try.func3, Try.ntmps3
  go_wp2_with (first | refine wpList_load15 (by rfl) (by rfl) (by rfl) HX.out.1 ?_ | refine wpList_row1 (s := t) (A := A) (by rfl) (by rfl) (by rfl) HX.out.2 ?_)
  intro w2 hrow hb2
  replace HX := Lib.hid (HX.out.below hb2)
  replace hBA := hBA.trans (hb2.mono hBA.size)
  clear hb2
  go_wp2_with fail
  refine (tlong_any [t] _ 1 w2 (by simp) hrow).mono ?_
  rintro e w3 ⟨rfl, hb3⟩
  rw [← HLG.out]
  replace HX := Lib.hid (HX.out.below hb3)
  replace hBA := hBA.trans (hb3.mono hBA.size)
  clear hrow hb3
  cases lg
  · obtain ⟨hcn, hln⟩ := TT.not_long HLG.out.symm
    simp only [TT.cnts, TT.leans, Bool.and_eq_true, Nat.add_zero, and_true] at hcn hln
    have HL := Lib.hid hln; have HC : Hid (t.cnt ≤ 3000000) := Lib.hid (by omega)
    clear hln hcn
    go_wp2_with fail
    have HBV := Lib.hid (fun W (h : Below w3.drew.heap.size w3.drew W) => (Below.refl _ w3).drew.trans h)
    try simp only [List.append_eq, List.cons_append, List.nil_append]
    refine wp_region_allW (kindT [(7, .fixed (TT.val t A)), (8, .fixed (.int .i64 (t.nodes : Int))), (9, .fixed (TT.val t A)), (10, .fixed (.int .i64 (t.nodes : Int))), (11, .fixed (.bool true)), (12, .fixed (.bool true)), (13, .fixed (TT.val t A)), (14, .fixed (.int .i64 (t.deep : Int))), (15, .fixed (TT.val t A)), (16, .fixed (.int .i64 (t.deep : Int))), (17, .fixed (.bool true)), (18, .fixed (.bool true)), (19, .fixed (.bool true)), (20, .fixed (TT.val t A)), (21, .fixed (.int .i64 (t.Bulk : Int))), (22, .fixed (TT.val t A)), (23, .fixed (.int .i64 (t.Bulk : Int))), (24, .fixed (.bool true)), (25, .fixed (.bool true)), (26, .fixed (.bool true)), (27, .fixed (TT.val t A)), (28, .fixed (.int .i64 (t.High : Int))), (29, .fixed (TT.val t A)), (30, .fixed (.int .i64 (t.High : Int))), (31, .fixed (.bool true)), (32, .fixed (.bool true)), (33, .fixed (.bool true)), (34, .fixed (.bool true)), (35, .fixed (.bool true)), (2, .fixed (.bool true))]) 36 (by kernel_rfl) (by kernel_rfl) (by rfl) (kindT_mono _) ?_ ?_
    · as_aux_lemma =>
      show ∀ o ∈ [(0, _), (1, _), (2, _), (3, _), (4, _), (5, _), (6, _), (7, _), (8, _), (9, _), (10, _), (11, _), (12, _), (13, _), (14, _), (15, _), (16, _), (17, _), (18, _), (19, _), (20, _), (21, _), (22, _), (23, _), (24, _), (25, _), (26, _), (27, _), (28, _), (29, _)], _
      refine (tfm ?_ (tfm ?_ (tfm ?_ (tfm ?_ (tfm ?_ (tfm ?_ (tfm ?_ (tfm ?_ (tfm ?_ (tfm ?_ (tfm ?_ (tfm ?_ (tfm ?_ (tfm ?_ (tfm ?_ (tfm ?_ (tfm ?_ (tfm ?_ (tfm ?_ (tfm ?_ (tfm ?_ (tfm ?_ (tfm ?_ (tfm ?_ (tfm ?_ (tfm ?_ (tfm ?_ (tfm ?_ (tfm ?_ (tfm ?_ tfmnil))))))))))))))))))))))))))))))
      · intro r W hc hf hs hd hB
        have hBV := HBV.out W hB
        refine want_n rfl ?_
        have e1 : r (.tmp 1) = .pointer (some ⟨w.heap.size, 0, none⟩) := hs 1 (by kernel_rfl)
        exact st_value (v := TT.val t A) rfl (by decide) (run_load15 (HX.out.1.below hBV) rfl e1) rfl
      · intro r W hc hf hs hd hB
        have hBV := HBV.out W hB
        refine want_n rfl ?_
        have e7 : r (.tmp 7) = TT.val t A := hd 7 (by kernel_rfl)
        exact st_call (f := 13) (args := #[TT.val t A]) rfl (by decide) (by go_simp) (made_fix rfl (tnodes_any 3000000 (by decide) t _ W HC.out HL.out ⟨A, rfl, HX.out.2.below hBV⟩))
      · intro r W hc hf hs hd hB
        have hBV := HBV.out W hB
        refine want_n rfl ?_
        have e1 : r (.tmp 1) = .pointer (some ⟨w.heap.size, 0, none⟩) := hs 1 (by kernel_rfl)
        exact st_value (v := TT.val t A) rfl (by decide) (run_load15 (HX.out.1.below hBV) rfl e1) rfl
      · intro r W hc hf hs hd hB
        have hBV := HBV.out W hB
        refine want_n rfl ?_
        have e9 : r (.tmp 9) = TT.val t A := hd 9 (by kernel_rfl)
        exact st_call (f := 14) (args := #[TT.val t A]) rfl (by decide) (by go_simp) (made_fix rfl (rtnodes_any 3000000 (by decide) t _ W HC.out HL.out ⟨A, rfl, HX.out.2.below hBV⟩))
      · intro r W hc hf hs hd hB
        have hBV := HBV.out W hB
        refine want_n rfl ?_
        have e8 : r (.tmp 8) = .int .i64 (t.nodes : Int) := hd 8 (by kernel_rfl)
        have e10 : r (.tmp 10) = .int .i64 (t.nodes : Int) := hd 10 (by kernel_rfl)
        exact st_value (v := .bool true) rfl (by decide) (by go_simp) rfl
      · intro r W hc hf hs hd hB
        have hBV := HBV.out W hB
        refine want_n rfl ?_
        have e11 : r (.tmp 11) = .bool true := hd 11 (by kernel_rfl)
        exact st_value (v := .bool true) rfl (by decide) (by go_simp) rfl
      · intro r W hc hf hs hd hB
        have hBV := HBV.out W hB
        refine want_g 5 12 rfl (by kernel_rfl) (hd 12 (by kernel_rfl) : r (.tmp 12) = .bool true) ?_
        have e1 : r (.tmp 1) = .pointer (some ⟨w.heap.size, 0, none⟩) := hs 1 (by kernel_rfl)
        exact st_value (v := TT.val t A) rfl (by decide) (run_load15 (HX.out.1.below hBV) rfl e1) rfl
      · intro r W hc hf hs hd hB
        have hBV := HBV.out W hB
        refine want_g 5 12 rfl (by kernel_rfl) (hd 12 (by kernel_rfl) : r (.tmp 12) = .bool true) ?_
        have e13 : r (.tmp 13) = TT.val t A := hd 13 (by kernel_rfl)
        exact st_call (f := 15) (args := #[TT.val t A]) rfl (by decide) (by go_simp) (made_fix rfl (tdeep_any 3000000 (by decide) t _ W HC.out ⟨A, rfl, HX.out.2.below hBV⟩))
      · intro r W hc hf hs hd hB
        have hBV := HBV.out W hB
        refine want_g 5 12 rfl (by kernel_rfl) (hd 12 (by kernel_rfl) : r (.tmp 12) = .bool true) ?_
        have e1 : r (.tmp 1) = .pointer (some ⟨w.heap.size, 0, none⟩) := hs 1 (by kernel_rfl)
        exact st_value (v := TT.val t A) rfl (by decide) (run_load15 (HX.out.1.below hBV) rfl e1) rfl
      · intro r W hc hf hs hd hB
        have hBV := HBV.out W hB
        refine want_g 5 12 rfl (by kernel_rfl) (hd 12 (by kernel_rfl) : r (.tmp 12) = .bool true) ?_
        have e15 : r (.tmp 15) = TT.val t A := hd 15 (by kernel_rfl)
        exact st_call (f := 16) (args := #[TT.val t A]) rfl (by decide) (by go_simp) (made_fix rfl (rtdeep_any 3000000 (by decide) t _ W HC.out ⟨A, rfl, HX.out.2.below hBV⟩))
      · intro r W hc hf hs hd hB
        have hBV := HBV.out W hB
        refine want_g 5 12 rfl (by kernel_rfl) (hd 12 (by kernel_rfl) : r (.tmp 12) = .bool true) ?_
        have e14 : r (.tmp 14) = .int .i64 (t.deep : Int) := hd 14 (by kernel_rfl)
        have e16 : r (.tmp 16) = .int .i64 (t.deep : Int) := hd 16 (by kernel_rfl)
        exact st_value (v := .bool true) rfl (by decide) (by go_simp) rfl
      · intro r W hc hf hs hd hB
        have hBV := HBV.out W hB
        refine want_n rfl ?_
        have e12 : r (.tmp 12) = .bool true := hd 12 (by kernel_rfl)
        have e17 : r (.tmp 17) = .bool true := hd 17 (by kernel_rfl)
        exact st_value (v := .bool true) rfl (by decide) (by go_simp) rfl
      · intro r W hc hf hs hd hB
        have hBV := HBV.out W hB
        refine want_n rfl ?_
        have e18 : r (.tmp 18) = .bool true := hd 18 (by kernel_rfl)
        exact st_value (v := .bool true) rfl (by decide) (by go_simp) rfl
      · intro r W hc hf hs hd hB
        have hBV := HBV.out W hB
        refine want_g 12 19 rfl (by kernel_rfl) (hd 19 (by kernel_rfl) : r (.tmp 19) = .bool true) ?_
        have e1 : r (.tmp 1) = .pointer (some ⟨w.heap.size, 0, none⟩) := hs 1 (by kernel_rfl)
        exact st_value (v := TT.val t A) rfl (by decide) (run_load15 (HX.out.1.below hBV) rfl e1) rfl
      · intro r W hc hf hs hd hB
        have hBV := HBV.out W hB
        refine want_g 12 19 rfl (by kernel_rfl) (hd 19 (by kernel_rfl) : r (.tmp 19) = .bool true) ?_
        have e20 : r (.tmp 20) = TT.val t A := hd 20 (by kernel_rfl)
        exact st_call (f := 17) (args := #[TT.val t A]) rfl (by decide) (by go_simp) (made_fix rfl (tbulk_any t _ W HC.out HL.out ⟨A, rfl, HX.out.2.below hBV⟩))
      · intro r W hc hf hs hd hB
        have hBV := HBV.out W hB
        refine want_g 12 19 rfl (by kernel_rfl) (hd 19 (by kernel_rfl) : r (.tmp 19) = .bool true) ?_
        have e1 : r (.tmp 1) = .pointer (some ⟨w.heap.size, 0, none⟩) := hs 1 (by kernel_rfl)
        exact st_value (v := TT.val t A) rfl (by decide) (run_load15 (HX.out.1.below hBV) rfl e1) rfl
      · intro r W hc hf hs hd hB
        have hBV := HBV.out W hB
        refine want_g 12 19 rfl (by kernel_rfl) (hd 19 (by kernel_rfl) : r (.tmp 19) = .bool true) ?_
        have e22 : r (.tmp 22) = TT.val t A := hd 22 (by kernel_rfl)
        exact st_call (f := 18) (args := #[TT.val t A]) rfl (by decide) (by go_simp) (made_fix rfl (rtBulk_any t _ W HC.out HL.out ⟨A, rfl, HX.out.2.below hBV⟩))
      · intro r W hc hf hs hd hB
        have hBV := HBV.out W hB
        refine want_g 12 19 rfl (by kernel_rfl) (hd 19 (by kernel_rfl) : r (.tmp 19) = .bool true) ?_
        have e21 : r (.tmp 21) = .int .i64 (t.Bulk : Int) := hd 21 (by kernel_rfl)
        have e23 : r (.tmp 23) = .int .i64 (t.Bulk : Int) := hd 23 (by kernel_rfl)
        exact st_value (v := .bool true) rfl (by decide) (by go_simp) rfl
      · intro r W hc hf hs hd hB
        have hBV := HBV.out W hB
        refine want_n rfl ?_
        have e19 : r (.tmp 19) = .bool true := hd 19 (by kernel_rfl)
        have e24 : r (.tmp 24) = .bool true := hd 24 (by kernel_rfl)
        exact st_value (v := .bool true) rfl (by decide) (by go_simp) rfl
      · intro r W hc hf hs hd hB
        have hBV := HBV.out W hB
        refine want_n rfl ?_
        have e25 : r (.tmp 25) = .bool true := hd 25 (by kernel_rfl)
        exact st_value (v := .bool true) rfl (by decide) (by go_simp) rfl
      · intro r W hc hf hs hd hB
        have hBV := HBV.out W hB
        refine want_g 19 26 rfl (by kernel_rfl) (hd 26 (by kernel_rfl) : r (.tmp 26) = .bool true) ?_
        have e1 : r (.tmp 1) = .pointer (some ⟨w.heap.size, 0, none⟩) := hs 1 (by kernel_rfl)
        exact st_value (v := TT.val t A) rfl (by decide) (run_load15 (HX.out.1.below hBV) rfl e1) rfl
      · intro r W hc hf hs hd hB
        have hBV := HBV.out W hB
        refine want_g 19 26 rfl (by kernel_rfl) (hd 26 (by kernel_rfl) : r (.tmp 26) = .bool true) ?_
        have e27 : r (.tmp 27) = TT.val t A := hd 27 (by kernel_rfl)
        exact st_call (f := 19) (args := #[TT.val t A]) rfl (by decide) (by go_simp) (made_fix rfl (thigh_any t _ W HC.out HL.out ⟨A, rfl, HX.out.2.below hBV⟩))
      · intro r W hc hf hs hd hB
        have hBV := HBV.out W hB
        refine want_g 19 26 rfl (by kernel_rfl) (hd 26 (by kernel_rfl) : r (.tmp 26) = .bool true) ?_
        have e1 : r (.tmp 1) = .pointer (some ⟨w.heap.size, 0, none⟩) := hs 1 (by kernel_rfl)
        exact st_value (v := TT.val t A) rfl (by decide) (run_load15 (HX.out.1.below hBV) rfl e1) rfl
      · intro r W hc hf hs hd hB
        have hBV := HBV.out W hB
        refine want_g 19 26 rfl (by kernel_rfl) (hd 26 (by kernel_rfl) : r (.tmp 26) = .bool true) ?_
        have e29 : r (.tmp 29) = TT.val t A := hd 29 (by kernel_rfl)
        exact st_call (f := 20) (args := #[TT.val t A]) rfl (by decide) (by go_simp) (made_fix rfl (rtHigh_any t _ W HC.out HL.out ⟨A, rfl, HX.out.2.below hBV⟩))
      · intro r W hc hf hs hd hB
        have hBV := HBV.out W hB
        refine want_g 19 26 rfl (by kernel_rfl) (hd 26 (by kernel_rfl) : r (.tmp 26) = .bool true) ?_
        have e28 : r (.tmp 28) = .int .i64 (t.High : Int) := hd 28 (by kernel_rfl)
        have e30 : r (.tmp 30) = .int .i64 (t.High : Int) := hd 30 (by kernel_rfl)
        exact st_value (v := .bool true) rfl (by decide) (by go_simp) rfl
      · intro r W hc hf hs hd hB
        have hBV := HBV.out W hB
        refine want_n rfl ?_
        have e26 : r (.tmp 26) = .bool true := hd 26 (by kernel_rfl)
        have e31 : r (.tmp 31) = .bool true := hd 31 (by kernel_rfl)
        exact st_value (v := .bool true) rfl (by decide) (by go_simp) rfl
      · intro r W hc hf hs hd hB
        have hBV := HBV.out W hB
        refine want_n rfl ?_
        have e32 : r (.tmp 32) = .bool true := hd 32 (by kernel_rfl)
        exact st_value (v := .bool true) rfl (by decide) (by go_simp) rfl
      · intro r W hc hf hs hd hB
        have hBV := HBV.out W hB
        refine want_g 26 33 rfl (by kernel_rfl) (hd 33 (by kernel_rfl) : r (.tmp 33) = .bool true) ?_
        exact st_call (f := 12) (args := #[]) rfl (by decide) (by go_simp) (made_fix rfl (tawake_any W))
      · intro r W hc hf hs hd hB
        have hBV := HBV.out W hB
        refine want_n rfl ?_
        have e33 : r (.tmp 33) = .bool true := hd 33 (by kernel_rfl)
        have e34 : r (.tmp 34) = .bool true := hd 34 (by kernel_rfl)
        exact st_value (v := .bool true) rfl (by decide) (by go_simp) rfl
      · intro r W hc hf hs hd hB
        have hBV := HBV.out W hB
        refine want_n rfl ?_
        have e35 : r (.tmp 35) = .bool true := hd 35 (by kernel_rfl)
        exact st_value (v := .bool true) rfl (by decide) (by go_simp) rfl
    intro f w4 hfd hB'
    have z2 : f 2 = .bool true := hfd 2 (of_decide_eq_true (by kernel_rfl))
    have hb4 := HBV.out w4 hB'
    rw [show dstsTo _ _ = [7, 8, 9, 10, 11, 12, 13, 14, 15, 16, 17, 18, 19, 20, 21, 22, 23, 24, 25, 26, 27, 28, 29, 30, 31, 32, 33, 34, 35, 2] from by kernel_rfl]
    simp only [fill, List.setIfInBounds_toArray, List.set_cons_succ, List.set_cons_zero, z2]
    clear hfd hB' z2
    go_wp2_with fail
    go_ret
    exact ⟨rfl, hBA.trans (hb4.mono hBA.size)⟩
  · go_wp2_with fail
    refine (tawake_any _).mono ?_
    rintro e w4 ⟨rfl, hb4⟩
    go_wp2_with fail
    go_ret
    exact ⟨rfl, hBA.trans (hb4.mono hBA.size)⟩
end Go.Proofs.Ytapofbdkofelkaa
/- TermCounts: the law returns true for all that can be read, and what was handed in reads afterwards as it read before. -/
namespace Go.Proofs.Ytapofbdkofelkaa
open Go.ChangeShapes Go.WideShapes Go.ChangeAt Go.RowKit

set_option maxRecDepth 100000 in
theorem termCounts_lifted (os : Os) (started : os.Started) (H : Type) (enc : TypeId × Value → H) :
    ReturnsInHanded {} Try.checked os 3 .any (Rows.termCountsSpec.pre6 enc Try.prog Try.f3 Rows.termCountsRow.domain false) (Rows.termCountsSpec.post enc Try.prog Try.f3 false true false false) := by
  refine returnsInHanded_of_change_sized (C := Try.checked) Try.own started (by kernel_rfl) Try.func3
    (ChangeSpec.witness6 (enc := enc) (C := Try.checked) false ⟨#[], #[.agg #[.int .u8 0, .int .u8 0, .int .i64 0, .slice none 0 0, .slice none 0 0, .int .i64 0, .int .i64 0, .slice none 0 0, .int .u8 0, .int .u8 0, .int .i64 0, .slice none 0 0, .int .i64 0, .slice none 0 0, .slice none 0 0]], []⟩ 8 (by kernel_rfl) (by kernel_rfl) (by kernel_rfl) (by kernel_rfl)) ?_
  intro W base args ds gs before hval0 hW hcnd hsz hass
  have hval : ∀ (j : Nat) t v, Try.f3.params[j]? = some t → args[j]? = some v → Value.okWide Try.prog W .any base t v := hval0
  have hW' := hW
  obtain ⟨p, q, hA0, hV, rfl, hfz, hnd⟩ := hW
  have hA : DataW.TrodAll enc Try.prog W 0 (fun _ => true) true Try.f3.params.toList args.toList ds p := hA0
  rw [Try.params3] at hA hval
  obtain ⟨v0, d0, rfl, rfl, h0⟩ := trodAll_one hA
  obtain ⟨rfl, rfl⟩ := trodVars_none hV
  have hsz' : (DataW.weightsEach Try.prog [31] ([d0] ++ [])).all (· ≤ reachBytes) = true := hsz
  simp only [List.append_nil, DataW.weightsEach] at hsz'
  obtain ⟨a0, ha0⟩ := open_term (hval 0 31 v0 rfl rfl) h0 hsz'
  refine (termCounts_any a0 v0 W ha0).mono fun e W' ⟨he, hbw⟩ => ?_
  subst he
  exact ⟨_, rfl, law_post rfl rfl (by rw [Try.params3]; intro t ht; simp at ht; subst ht <;> exact ⟨by kernel_rfl, of_decide_eq_true (by kernel_rfl)⟩) hW' ⟨rfl, rfl, rfl⟩ hbw⟩

theorem termCounts_holds : Rows.TermCountsSaid :=
  OpenClaim.holds_of_wide 3 Try.f3 rfl rfl rfl rfl rfl rfl rfl ⟨rfl, rfl, rfl, rfl, rfl⟩ rfl rfl rfl rfl rfl (by kernel_rfl) Try.func3 (by kernel_rfl)
    (of_decide_eq_true (by kernel_rfl)) (by unfold Func.isWrapper; first | (rw [if_pos (by decide +kernel)]; kernel_rfl) | (rw [if_neg (by decide +kernel)]; exact ⟨rfl, rfl⟩))
    (fun os started H enc _ => termCounts_lifted os started H enc)
end Go.Proofs.Ytapofbdkofelkaa
