/- TermCopies: the law returns true for all that can be read, and what was handed in reads afterwards as it read before. -/
import Derived.Test.YtapofbdkofelkaaM60
import Derived.Test.YtapofbdkofelkaaM61
import Derived.Test.YtapofbdkofelkaaM37
import Derived.Test.YtapofbdkofelkaaM35
import Derived.Test.YtapofbdkofelkaaM38
/- TermCopies: the law's function, walked. -/
namespace Go.Proofs.Ytapofbdkofelkaa
open Go.RowKit

mutual
theorem PT.same_iff : ∀ a b : PT, PT.same a b = true ↔ a = b
  | .mk k v n l, .mk k' v' n' l' => by
    rw [PT.same]
    simp only [Bool.and_eq_true, beq_iff_eq, VT.same_iff, PT.sameAll_iff l l', PT.mk.injEq]
    constructor
    · intro h; simp_all
    · intro h; simp_all
theorem PT.sameAll_iff : ∀ l m : List PT, PT.sameAll l m = true ↔ l = m
  | [], [] => by simp [PT.sameAll]
  | [], _ :: _ => by simp [PT.sameAll]
  | _ :: _, [] => by simp [PT.sameAll]
  | a :: l, b :: m => by rw [PT.sameAll]; simp [PT.same_iff a b, PT.sameAll_iff l m]
end
mutual
theorem TT.same_iff : ∀ a b : TT, TT.same a b = true ↔ a = b
  | .mk k v vs lo hi ws p l, .mk k' v' vs' lo' hi' ws' p' l' => by
    rw [TT.same]
    simp only [Bool.and_eq_true, beq_iff_eq, VT.same_iff, VT.sameAll_iff, PT.same_iff, TT.sameAll_iff l l', TT.mk.injEq]
    constructor
    · rintro ⟨⟨⟨⟨⟨⟨⟨h1, h2⟩, h3⟩, h4⟩, h5⟩, h6⟩, h7⟩, h8⟩
      exact ⟨h1, h4, h5, h2, h3, h6, h7, h8⟩
    · rintro ⟨h1, h4, h5, h2, h3, h6, h7, h8⟩
      exact ⟨⟨⟨⟨⟨⟨⟨h1, h2⟩, h3⟩, h4⟩, h5⟩, h6⟩, h7⟩, h8⟩
theorem TT.sameAll_iff : ∀ l m : List TT, TT.sameAll l m = true ↔ l = m
  | [], [] => by simp [TT.sameAll]
  | [], _ :: _ => by simp [TT.sameAll]
  | _ :: _, [] => by simp [TT.sameAll]
  | a :: l, b :: m => by rw [TT.sameAll]; simp [TT.same_iff a b, TT.sameAll_iff l m]
end
theorem TT.same_refl (a : TT) : TT.same a a = true := (TT.same_iff a a).2 rfl
set_option maxRecDepth 100000 in
set_option maxHeartbeats 8000000 in
theorem termCopies_any (t : TT) (x : Value) (w : World) (hx : TIn w t x) : Calls Try.prog 4 #[x] w fun e w' => e = .returned (.bool true) ∧ Below w.heap.size w w' := by
  obtain ⟨A, rfl, hok⟩ := hx
  obtain ⟨w1, hw1, m1, s1, hc2, _⟩ := row1_new w t A
  have HX : Hid (BoxA w1 w.heap.size t A) := Lib.hid ⟨hc2, hok.below m1⟩
  have hBA := m1
  obtain ⟨lg, hlg⟩ : ∃ lg, lg = TT.long [t] := ⟨_, rfl⟩
  have HLG := Lib.hid hlg; clear hlg hc2 hok m1
  have HSM : Hid (TT.same t t = true) := Lib.hid (TT.same_refl t)
  unfold TT.val
  go_enter Try.func4, Try.ntmps4
  go_wp2_with (first | refine wpList_load15 (by rfl) (by rfl) (by rfl) HX.out.1 ?_ | refine wpList_row1 (s := t) (A := A) (by rfl) (by rfl) (by rfl) HX.out.2 ?_)
  intro w2 hrow hb2
  replace HX := Lib.hid (HX.out.below hb2); replace hBA := hBA.trans (hb2.mono hBA.size)
  clear hb2
  go_wp2_with fail
  refine (tlong_any [t] _ 1 w2 (by simp) hrow).mono ?_
  rintro e w3 ⟨rfl, hb3⟩
  rw [← HLG.out]
  replace HX := Lib.hid (HX.out.below hb3); replace hBA := hBA.trans (hb3.mono hBA.size)
  clear hb3
  clear hrow
  cases lg
  · go_wp2_with (refine wpList_load15 (by rfl) (by rfl) (by rfl) HX.out.1 ?_)
    refine (tcopy_any t.cnt t _ _ (Nat.le_refl _) HX.out.tin).mono ?_
    rintro e w4 ⟨x1, rfl, ⟨A1, rfl, hf1⟩, hb4⟩
    have HF1 := Lib.hid (hf1.tok t A1)
    replace HX := Lib.hid (HX.out.below hb4); replace hBA := hBA.trans (hb4.mono hBA.size)
    clear hb4
    clear hf1
    go_wp2_with (refine wpList_box15 (t := t) (A := A1) (by rfl) (by rfl) (by rfl) (by rfl) (by rfl) (by rfl) (by rfl) (by rfl) ?_)
    intro w5 hc5 hb5 _ _
    have HX3 : Hid (BoxA w5 w4.heap.size t A1) := Lib.hid ⟨hc5, HF1.out.below hb5⟩
    replace HX := Lib.hid (HX.out.below hb5); replace hBA := hBA.trans (hb5.mono hBA.size)
    clear hb5
    clear hc5 HF1
    go_wp2_with (first | refine wpList_load15 (by rfl) (by rfl) (by rfl) HX.out.1 ?_ | refine wpList_load15 (by rfl) (by rfl) (by rfl) HX3.out.1 ?_)
    refine (rtsame_any t.cnt t t _ _ _ (Nat.le_refl _) HX3.out.tin HX.out.tin).mono ?_
    rintro e w6 ⟨rfl, hb6⟩
    rw [HSM.out]
    replace HX3 := Lib.hid (HX3.out.below hb6)
    replace HX := Lib.hid (HX.out.below hb6); replace hBA := hBA.trans (hb6.mono hBA.size)
    clear hb6
    go_wp2_with (refine wpList_load15 (by rfl) (by rfl) (by rfl) HX.out.1 ?_)
    refine (tcopy_any t.cnt t _ _ (Nat.le_refl _) HX.out.tin).mono ?_
    rintro e w7 ⟨x2, rfl, ⟨A2, rfl, hf2⟩, hb7⟩
    have HW2 := Lib.hid (hf2.tw t A2); have HB7 := Lib.hid hb7
    clear hf2 hb7
    go_wp2_with fail
    refine (tspoil_any w6.heap.size w7.heap.size t.deep t A2 w7 HW2.out (Nat.le_refl _)).mono ?_
    rintro e w8 ⟨rfl, hF8⟩
    have hb8 : Below w6.heap.size w6 w8 := HB7.out.trans (hF8.1.below HB7.out.size)
    replace HX3 := Lib.hid (HX3.out.below hb8)
    replace HX := Lib.hid (HX.out.below hb8); replace hBA := hBA.trans (hb8.mono hBA.size)
    clear hb8
    clear hF8 HW2 HB7
    go_wp2_with (first | refine wpList_load15 (by rfl) (by rfl) (by rfl) HX.out.1 ?_ | refine wpList_load15 (by rfl) (by rfl) (by rfl) HX3.out.1 ?_)
    refine (rtsame_any t.cnt t t _ _ _ (Nat.le_refl _) HX3.out.tin HX.out.tin).mono ?_
    rintro e w9 ⟨rfl, hb9⟩
    rw [HSM.out]
    replace HX3 := Lib.hid (HX3.out.below hb9)
    replace HX := Lib.hid (HX.out.below hb9); replace hBA := hBA.trans (hb9.mono hBA.size)
    clear hb9
    go_wp2_with fail
    refine (tawake_any _).mono ?_
    rintro e w10 ⟨rfl, hb10⟩
    go_wp2_with fail
    go_ret
    exact ⟨rfl, hBA.trans (hb10.mono hBA.size)⟩
  · go_wp2_with fail
    refine (tawake_any _).mono ?_
    rintro e w4 ⟨rfl, hb4⟩
    go_wp2_with fail
    go_ret
    exact ⟨rfl, hBA.trans (hb4.mono hBA.size)⟩
end Go.Proofs.Ytapofbdkofelkaa
/- TermCopies: the law returns true for all that can be read, and what was handed in reads afterwards as it read before. -/
namespace Go.Proofs.Ytapofbdkofelkaa
open Go.ChangeShapes Go.WideShapes Go.ChangeAt Go.RowKit

set_option maxRecDepth 100000 in
theorem termCopies_lifted (os : Os) (started : os.Started) (H : Type) (enc : TypeId × Value → H) :
    ReturnsInHanded {} Try.checked os 4 .any (Rows.termCopiesSpec.pre6 enc Try.prog Try.f4 Rows.termCopiesRow.domain false) (Rows.termCopiesSpec.post enc Try.prog Try.f4 false true false false) := by
  refine returnsInHanded_of_change_sized (C := Try.checked) Try.own started (by kernel_rfl) Try.func4
    (ChangeSpec.witness6 (enc := enc) (C := Try.checked) false ⟨#[], #[.agg #[.int .u8 0, .int .u8 0, .int .i64 0, .slice none 0 0, .slice none 0 0, .int .i64 0, .int .i64 0, .slice none 0 0, .int .u8 0, .int .u8 0, .int .i64 0, .slice none 0 0, .int .i64 0, .slice none 0 0, .slice none 0 0]], []⟩ 8 (by kernel_rfl) (by kernel_rfl) (by kernel_rfl) (by kernel_rfl)) ?_
  intro W base args ds gs before hval0 hW hcnd hsz hass
  have hval : ∀ (j : Nat) t v, Try.f4.params[j]? = some t → args[j]? = some v → Value.okWide Try.prog W .any base t v := hval0
  have hW' := hW
  obtain ⟨p, q, hA0, hV, rfl, hfz, hnd⟩ := hW
  have hA : DataW.TrodAll enc Try.prog W 0 (fun _ => true) true Try.f4.params.toList args.toList ds p := hA0
  rw [Try.params4] at hA hval
  obtain ⟨v0, d0, rfl, rfl, h0⟩ := trodAll_one hA
  obtain ⟨rfl, rfl⟩ := trodVars_none hV
  have hsz' : (DataW.weightsEach Try.prog [31] ([d0] ++ [])).all (· ≤ reachBytes) = true := hsz
  simp only [List.append_nil, DataW.weightsEach] at hsz'
  obtain ⟨a0, ha0⟩ := open_term (hval 0 31 v0 rfl rfl) h0 hsz'
  refine (termCopies_any a0 v0 W ha0).mono fun e W' ⟨he, hbw⟩ => ?_
  subst he
  exact ⟨_, rfl, law_post rfl rfl (by rw [Try.params4]; intro t ht; simp at ht; subst ht <;> exact ⟨by kernel_rfl, of_decide_eq_true (by kernel_rfl)⟩) hW' ⟨rfl, rfl, rfl⟩ hbw⟩

theorem termCopies_holds : Rows.TermCopiesSaid :=
  OpenClaim.holds_of_wide 4 Try.f4 rfl rfl rfl rfl rfl rfl rfl ⟨rfl, rfl, rfl, rfl, rfl⟩ rfl rfl rfl rfl rfl (by kernel_rfl) Try.func4 (by kernel_rfl)
    (of_decide_eq_true (by kernel_rfl)) (by unfold Func.isWrapper; first | (rw [if_pos (by decide +kernel)]; kernel_rfl) | (rw [if_neg (by decide +kernel)]; exact ⟨rfl, rfl⟩))
    (fun os started H enc _ => termCopies_lifted os started H enc)
end Go.Proofs.Ytapofbdkofelkaa
