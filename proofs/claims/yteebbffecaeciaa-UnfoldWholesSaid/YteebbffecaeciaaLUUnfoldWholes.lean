/- UnfoldWholes: the law returns true for all that can be read, and what was handed in reads afterwards as it read before. -/
import Derived.Test.YteebbffecaeciaaM47
import Derived.Test.YteebbffecaeciaaM48
/- UnfoldWholes: the law's function, walked. -/
namespace Go.Proofs.Yteebbffecaeciaa
open Go.RowKit

set_option maxRecDepth 100000 in
set_option maxHeartbeats 8000000 in
theorem unfoldWholes_any (t : TT) (x : Value) (w : World) (hx : TIn w t x) : Calls Try.prog 4 #[x] w fun e w' => e = .returned (.bool true) ∧ Below w.heap.size w w' := by
  obtain ⟨A, rfl, hok⟩ := hx
  obtain ⟨w1, hw1, m1, s1, hc2, _⟩ := row1_new w t A
  have HX : Hid (BoxA w1 w.heap.size t A) := Lib.hid ⟨hc2, hok.below m1⟩
  have hBA := m1
  obtain ⟨lg, hlg⟩ : ∃ lg, lg = TT.long [t] := ⟨_, rfl⟩
  have HLG := Lib.hid hlg; clear hlg hc2 hok m1
  unfold TT.val
  go_enter Try.func4, Try.ntmps4
  go_wp2_with (first | refine wpList_load15 (by rfl) (by rfl) (by rfl) HX.out.1 ?_ | refine wpList_row1 (s := t) (A := A) (by rfl) (by rfl) (by rfl) HX.out.2 ?_)
  intro w2 hrow hb2
  replace HX := Lib.hid (HX.out.below hb2)
  replace hBA := hBA.trans (hb2.mono hBA.size)
  clear hb2
  go_wp2_with fail
  refine (tlong_any [t] _ 1 w2 (by simp) hrow).mono ?_
  rintro e w3 ⟨rfl, hb3⟩
  rw [← HLG.out]
  replace HX := Lib.hid (HX.out.below hb3)
  replace hBA := hBA.trans (hb3.mono hBA.size)
  clear hrow hb3
  cases lg
  · obtain ⟨hcn, hln⟩ := TT.not_long HLG.out.symm
    simp only [TT.cnts, TT.leans, Bool.and_eq_true, Nat.add_zero, and_true] at hcn hln
    have HL := Lib.hid hln; have HC : Hid (t.cnt ≤ 3000000) := Lib.hid (by omega)
    clear hln hcn
    obtain ⟨B, hB⟩ : ∃ B, B = t.wholeE := ⟨_, rfl⟩
    have HWE := Lib.hid hB
    clear hB
    go_wp2_with (first | refine wpList_load15 (by rfl) (by rfl) (by rfl) HX.out.1 ?_)
    refine (rtWhole_any t _ _ HC.out HL.out HX.out.tin).mono ?_
    rintro e w4 ⟨x4, rfl, ⟨A4, rfl, k4⟩, hb4⟩
    rw [← HWE.out] at k4 ⊢
    obtain ⟨Y, z⟩ := B
    dsimp only at k4 ⊢
    replace HX := Lib.hid (HX.out.below hb4)
    replace hBA := hBA.trans (hb4.mono hBA.size)
    clear hb4
    go_wp2_with (refine wpList_box15 (t := Y) (A := A4) (by rfl) (by rfl) (by rfl) (by rfl) (by rfl) (by rfl) (by rfl) (by rfl) ?_)
    intro w5 hc5 hb5 _ _
    obtain ⟨b3, hb3⟩ : ∃ b, b = w4.heap.size := ⟨_, rfl⟩
    rw [← hb3] at hc5 ⊢
    have HY : Hid (BoxA w5 b3 Y A4) := Lib.hid ⟨hc5, k4.below hb5⟩
    replace HX := Lib.hid (HX.out.below hb5)
    replace hBA := hBA.trans (hb5.mono hBA.size)
    clear hb5 hc5 k4 hb3
    go_wp2_with fail
    go_loopw [5] (fun x wr => ∃ i : Nat, x = .int .i64 i ∧ i ≤ 2 ∧ Below w5.heap.size w5 wr) (fun x _ => 2 - (intOf x).toNat)
    case atStart => exact ⟨0, rfl, by omega, Below.refl _ _⟩
    case round =>
      obtain ⟨i, rfl, hi, hbr⟩ := hrel
      have HXr := Lib.hid (HX.out.below hbr); have HYr := Lib.hid (HY.out.below hbr)
      have HBR := Lib.hid hbr
      clear hbr
      by_cases hlt : i < 2
      · as_aux_lemma =>
        have d1 : decide ((i : Int) < 2) = true := decide_eq_true (by omega)
        have d2 : decide (i < 2) = true := decide_eq_true hlt
        go_wp2_with (first | refine wpList_load15 (by rfl) (by rfl) (by rfl) HXr.out.1 ?_)
        refine (uWhole_any t _ _ HC.out HL.out HXr.out.tin).mono ?_
        rintro e w7 ⟨x7, rfl, ⟨A7, rfl, hf7⟩, hb7⟩
        rw [← HWE.out] at hf7 ⊢
        dsimp only at hf7 ⊢
        have HW7 := Lib.hid (hf7.tw Y A7); have HK7 := Lib.hid (hf7.tok Y A7); have HB7 := Lib.hid hb7
        have HY7 := Lib.hid (HYr.out.below hb7)
        clear hf7 hb7
        go_wp2_with (refine wpList_box15 (t := Y) (A := A7) (by rfl) (by rfl) (by rfl) (by rfl) (by rfl) (by rfl) (by rfl) (by rfl) ?_)
        intro w8 hc8 hb8 _ _
        have HZ8 : Hid (BoxA w8 w7.heap.size Y A7) := Lib.hid ⟨hc8, HK7.out.below hb8⟩
        have HY8 := Lib.hid (HY7.out.below hb8); have HB8 := Lib.hid hb8
        clear hc8 hb8
        go_wp2_with (first | refine wpList_load15G (by rfl) (by rfl) (by rfl) HZ8.out.1 ?_ | refine wpList_load15G (by rfl) (by rfl) (by rfl) HY8.out.1 ?_)
        refine (rtsame_refl Y _ _ _ HZ8.out.tin HY8.out.tin).mono ?_
        rintro e w9 ⟨rfl, hb9⟩
        have HZ9 := Lib.hid (HZ8.out.below hb9)
        have HB79 : Hid (Below w7.heap.size w7 w9) := Lib.hid (HB8.out.trans (hb9.mono HB8.out.size))
        clear hb9
        go_wp2_with (first | refine wpList_load15 (by rfl) (by rfl) (by rfl) HZ9.out.1 ?_)
        refine (uspoil_any wr.heap.size w7.heap.size Y.deep Y A7 w9 (TW.fade (Fades.of_below HB79.out (Nat.le_refl _)) _ _ _ HW7.out) HB79.out.size).mono ?_
        rintro e w10 ⟨rfl, hF10⟩
        have hb10 : Below wr.heap.size wr w10 := (HB7.out.trans (HB79.out.mono HB7.out.size)).trans (hF10.1.below (Nat.le_trans HB7.out.size HB79.out.size))
        have HN := Lib.hid (HBR.out.trans (hb10.mono HBR.out.size))
        clear hF10 hb10 HW7
        go_wp2_with fail
        go_roundw
        case rel => exact ⟨i + 1, by go_num, by omega, HN.out⟩
        case measure => simp [intOf]; omega
      · as_aux_lemma =>
        have d1 : decide ((i : Int) < 2) = false := decide_eq_false (by omega)
        have d2 : decide (i < 2) = false := decide_eq_false hlt
        go_wp2_with fail
        refine (uawake_any _).mono ?_
        rintro e w6 ⟨rfl, hb6⟩
        go_wp2_with fail
        go_ret
        exact ⟨rfl, hBA.trans ((HBR.out.trans (hb6.mono HBR.out.size)).mono hBA.size)⟩
  · go_wp2_with fail
    refine (uawake_any _).mono ?_
    rintro e w4 ⟨rfl, hb4⟩
    go_wp2_with fail
    go_ret
    exact ⟨rfl, hBA.trans (hb4.mono hBA.size)⟩
end Go.Proofs.Yteebbffecaeciaa
/- UnfoldWholes: the law returns true for all that can be read, and what was handed in reads afterwards as it read before. -/
namespace Go.Proofs.Yteebbffecaeciaa
open Go.ChangeShapes Go.WideShapes Go.ChangeAt Go.RowKit

set_option maxRecDepth 100000 in
theorem unfoldWholes_lifted (os : Os) (started : os.Started) (H : Type) (enc : TypeId × Value → H) :
    ReturnsInHanded {} Try.checked os 4 .any (Rows.unfoldWholesSpec.pre6 enc Try.prog Try.f4 Rows.unfoldWholesRow.domain false) (Rows.unfoldWholesSpec.post enc Try.prog Try.f4 false true false false) := by
  refine returnsInHanded_of_change_sized (C := Try.checked) Try.own started (by kernel_rfl) Try.func4
    (ChangeSpec.witness6 (enc := enc) (C := Try.checked) false ⟨#[], #[.agg #[.int .u8 0, .int .u8 0, .int .i64 0, .slice none 0 0, .slice none 0 0, .int .i64 0, .int .i64 0, .slice none 0 0, .int .u8 0, .int .u8 0, .int .i64 0, .slice none 0 0, .int .i64 0, .slice none 0 0, .slice none 0 0]], []⟩ 8 (by kernel_rfl) (by kernel_rfl) (by kernel_rfl) (by kernel_rfl)) ?_
  intro W base args ds gs before hval0 hW hcnd hsz hass
  have hval : ∀ (j : Nat) t v, Try.f4.params[j]? = some t → args[j]? = some v → Value.okWide Try.prog W .any base t v := hval0
  have hW' := hW
  obtain ⟨p, q, hA0, hV, rfl, hfz, hnd⟩ := hW
  have hA : DataW.TrodAll enc Try.prog W 0 (fun _ => true) true Try.f4.params.toList args.toList ds p := hA0
  rw [Try.params4] at hA hval
  obtain ⟨v0, d0, rfl, rfl, h0⟩ := trodAll_one hA
  obtain ⟨rfl, rfl⟩ := trodVars_none hV
  have hsz' : (DataW.weightsEach Try.prog [47] ([d0] ++ [])).all (· ≤ reachBytes) = true := hsz
  simp only [List.append_nil, DataW.weightsEach] at hsz'
  obtain ⟨a0, ha0⟩ := open_term (hval 0 47 v0 rfl rfl) h0 hsz'
  refine (unfoldWholes_any a0 v0 W ha0).mono fun e W' ⟨he, hbw⟩ => ?_
  subst he
  exact ⟨_, rfl, law_post rfl rfl (by rw [Try.params4]; intro t ht; simp at ht; subst ht <;> exact ⟨by kernel_rfl, of_decide_eq_true (by kernel_rfl)⟩) hW' ⟨rfl, rfl, rfl⟩ hbw⟩

theorem unfoldWholes_holds : Rows.UnfoldWholesSaid :=
  OpenClaim.holds_of_wide 4 Try.f4 rfl rfl rfl rfl rfl rfl rfl ⟨rfl, rfl, rfl, rfl, rfl⟩ rfl rfl rfl rfl rfl (by kernel_rfl) Try.func4 (by kernel_rfl)
    (of_decide_eq_true (by kernel_rfl)) (by unfold Func.isWrapper; first | (rw [if_pos (by decide +kernel)]; kernel_rfl) | (rw [if_neg (by decide +kernel)]; exact ⟨rfl, rfl⟩))
    (fun os started H enc _ => unfoldWholes_lifted os started H enc)
end Go.Proofs.Yteebbffecaeciaa
