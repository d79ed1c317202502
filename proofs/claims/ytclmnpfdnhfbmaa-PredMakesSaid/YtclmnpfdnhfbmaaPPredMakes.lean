/- PredMakes: the law returns true for all that can be read, and what was handed in reads afterwards as it read before. -/
import Derived.Test.YtclmnpfdnhfbmaaPLawMakes
import Derived.Test.YtclmnpfdnhfbmaaPRead
import Derived.Carry
namespace Go.Proofs.Ytclmnpfdnhfbmaa
open Go.ChangeShapes Go.WideShapes Go.ChangeAt Go.RowKit

set_option maxRecDepth 100000 in
theorem predMakes_lifted (os : Os) (started : os.Started) (H : Type) (enc : TypeId × Value → H) :
    ReturnsInHanded {} Try.checked os 5 .any (Rows.predMakesSpec.pre6 enc Try.prog Try.f5 Rows.predMakesRow.domain false) (Rows.predMakesSpec.post enc Try.prog Try.f5 false true false false) := by
  refine returnsInHanded_of_change_sized (C := Try.checked) Try.own started (by kernel_rfl) Try.func5
    (ChangeSpec.witness6 (enc := enc) (C := Try.checked) false ⟨#[], #[.agg #[.int .u8 0, .int .u8 0, .int .i64 0, .slice none 0 0, .int .i64 0, .slice none 0 0], .slice none 0 0, .agg #[.int .u8 0, .int .i64 0, .slice none 0 0], .int .i64 0], []⟩ 8 (by kernel_rfl) (by kernel_rfl) (by kernel_rfl) (by kernel_rfl)) ?_
  intro W base args ds gs before hval0 hW hcnd hsz hass
  have hval : ∀ (j : Nat) t v, Try.f5.params[j]? = some t → args[j]? = some v → Value.okWide Try.prog W .any base t v := hval0
  have hW' := hW
  obtain ⟨p, q, hA0, hV, rfl, hfz, hnd⟩ := hW
  have hA : DataW.TrodAll enc Try.prog W 0 (fun _ => true) true Try.f5.params.toList args.toList ds p := hA0
  rw [Try.params5] at hA hval
  obtain ⟨v0, v1, v2, v3, d0, d1, d2, d3, p0, p1, p2, p3, rfl, rfl, rfl, h0, h1, h2, h3⟩ := trodAll_four hA
  obtain ⟨rfl, rfl⟩ := trodVars_none hV
  have hsz' : (DataW.weightsEach Try.prog [27, 25, 24, 2] ([d0, d1, d2, d3] ++ [])).all (· ≤ reachBytes) = true := hsz
  simp only [List.append_nil, DataW.weightsEach, List.all_append, Bool.and_eq_true] at hsz'
  obtain ⟨a0, ha0⟩ := open_pred (hval 0 27 v0 rfl rfl) h0 hsz'.1
  obtain ⟨a1, r1, c1, rfl, hl1, ha1⟩ := open_preds (hval 1 25 v1 rfl rfl) h1 hsz'.2.1
  obtain ⟨a2, ha2⟩ := open_val (hval 2 24 v2 rfl rfl) h2 hsz'.2.2.1
  obtain ⟨a3, rfl⟩ := okWide_int Try.underlying2 (hval 3 2 v3 rfl rfl)
  refine (predMakes_any a0 v0 a1 r1 c1 a2 v2 a3 W ha0 hl1 ha1 ha2).mono fun e W' ⟨he, hbw⟩ => ?_
  subst he
  exact ⟨_, rfl, law_post rfl rfl (by rw [Try.params5]; intro t ht; simp at ht; rcases ht with rfl | rfl | rfl | rfl <;> exact ⟨by kernel_rfl, of_decide_eq_true (by kernel_rfl)⟩) hW' ⟨rfl, rfl, rfl⟩ hbw⟩

theorem predMakes_holds : Rows.PredMakesSaid :=
  OpenClaim.holds_of_wide 5 Try.f5 rfl rfl rfl rfl rfl rfl rfl ⟨rfl, rfl, rfl, rfl, rfl⟩ rfl rfl rfl rfl rfl (by kernel_rfl) Try.func5 (by kernel_rfl)
    (of_decide_eq_true (by kernel_rfl)) (by unfold Func.isWrapper; first | (rw [if_pos (by decide +kernel)]; kernel_rfl) | (rw [if_neg (by decide +kernel)]; exact ⟨rfl, rfl⟩))
    (fun os started H enc _ => predMakes_lifted os started H enc)
end Go.Proofs.Ytclmnpfdnhfbmaa
