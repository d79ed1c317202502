/- ValOrder: for every three values that can be read the law returns true, and each reads afterwards as it read before. -/
import Derived.Test.YtcfpgnobhmldbaaVOrderLaw
import Derived.Test.YtcfpgnobhmldbaaVMath
import Derived.Test.YtcfpgnobhmldbaaVFrame
namespace Go.Proofs.Ytcfpgnobhmldbaa
open Go.ChangeShapes Go.WideShapes Go.ChangeAt Go.RowKit

theorem ord_facts (a b c : VT) : OrdFacts a b c :=
  { lo := (VT.cmp_range a b).1
    hi := (VT.cmp_range a b).2
    anti := VT.cmp_anti a b
    refl := VT.cmp_refl a
    same := fun ha hb => ⟨fun h => (VT.same_iff a b).2 (VT.cmp_same a b (VT.may_first ha) (VT.may_first hb) h), fun h => by rw [(VT.same_iff a b).1 h]; exact VT.cmp_refl b⟩
    same0 := fun h => by rw [(VT.same_iff a b).1 h]; exact VT.cmp_refl b
    trans := fun h g => by
      have r1 := VT.cmp_range a b
      have r2 := VT.cmp_range b c
      by_cases h0 : VT.cmp a b = 0
      · have e := VT.cmp_eq a b c h0
        exact ⟨by omega, fun hz => ⟨h0, by omega⟩⟩
      · by_cases g0 : VT.cmp b c = 0
        · have e1 := VT.cmp_eq c b a (by have := VT.cmp_anti b c; omega)
          have e2 := VT.cmp_anti a b
          have e3 := VT.cmp_anti a c
          exact ⟨by omega, fun hz => by omega⟩
        · have := VT.cmp_lt a b c (by omega) (by omega)
          exact ⟨by omega, fun hz => by omega⟩ }

set_option maxRecDepth 100000 in
set_option maxHeartbeats 2000000 in
theorem order_long (a b c : VT) (va vb vc : Value) (w : World) (ha : VIn w a va) (hb : VIn w b vb) (hc : VIn w c vc) (hl : VT.long [a, b, c] = true) :
    Calls Try.prog 4 #[va, vb, vc] w fun e w' => e = .returned (.bool true) ∧ Below w.heap.size w w' := by
  obtain ⟨ka, na, la⟩ := a
  obtain ⟨kb, nb, lb⟩ := b
  obtain ⟨kc, nc, lc⟩ := c
  obtain ⟨pa, qa, ga, rfl, ra⟩ := ha.open
  obtain ⟨pb, qb, gb, rfl, rb⟩ := hb.open
  obtain ⟨pc, qc, gc, rfl, rc⟩ := hc.open
  have hB0 : Below w.heap.size w ((((w.alloc (.cells #[.int .u8 ka, .int .i64 na, .slice pa la.length qa] 27)).alloc (.cells #[.int .u8 kb, .int .i64 nb, .slice pb lb.length qb] 27)).alloc (.cells #[.int .u8 kc, .int .i64 nc, .slice pc lc.length qc] 27)).alloc (.cells #[.int .u8 ka, .int .i64 na, .slice pa la.length qa, .int .u8 kb, .int .i64 nb, .slice pb lb.length qb, .int .u8 kc, .int .i64 nc, .slice pc lc.length qc] 27)) := (((Below.al _).alloc (by simp) _).alloc (by simp; omega) _).alloc (by simp; omega) _
  go_enter Try.func4, Try.ntmps4
  go_wp2_with fail
  refine (long_any [.mk ka na la, .mk kb nb lb, .mk kc nc lc] _ _ _ (by simp) (vrow_cons (v0 := .int .u8 ka) (v1 := .int .i64 na) (v2 := .slice pa la.length qa) (by go_simp) (by go_simp) (by go_simp) (ha.below hB0) (vrow_cons (v0 := .int .u8 kb) (v1 := .int .i64 nb) (v2 := .slice pb lb.length qb) (by go_simp) (by go_simp) (by go_simp) (hb.below hB0) (vrow_cons (v0 := .int .u8 kc) (v1 := .int .i64 nc) (v2 := .slice pc lc.length qc) (by go_simp) (by go_simp) (by go_simp) (hc.below hB0) vrow_nil)))).mono ?_
  rintro e w1 ⟨rfl, hb1⟩
  rw [hl]
  have hB := hB0.trans (hb1.mono hB0.size)
  go_wp2_with fail
  refine (awake_any _).mono ?_
  rintro e w2 ⟨rfl, hb2⟩
  go_wp2_with fail
  go_ret
  exact ⟨rfl, hB.trans (hb2.mono hB.size)⟩

theorem order_any (a b c : VT) (va vb vc : Value) (w : World) (ha : VIn w a va) (hb : VIn w b vb) (hc : VIn w c vc) :
    Calls Try.prog 4 #[va, vb, vc] w fun e w' => e = .returned (.bool true) ∧ Below w.heap.size w w' := by
  cases h : VT.long [a, b, c] with
  | true => exact order_long a b c va vb vc w ha hb hc h
  | false => exact order_walk a b c va vb vc w ha hb hc (ord_facts a b c) h

set_option maxRecDepth 100000 in
theorem order_lifted (os : Os) (started : os.Started) (H : Type) (enc : TypeId × Value → H) :
    ReturnsInHanded {} Try.checked os 4 .any (Rows.valOrderSpec.pre6 enc Try.prog Try.f4 Rows.valOrderRow.domain false) (Rows.valOrderSpec.post enc Try.prog Try.f4 false true false false) := by
  refine returnsInHanded_of_change_sized (C := Try.checked) Try.own started (by kernel_rfl) Try.func4
    (ChangeSpec.witness6 (enc := enc) (C := Try.checked) false ⟨#[], #[.agg #[.int .u8 0, .int .i64 0, .slice none 0 0], .agg #[.int .u8 0, .int .i64 0, .slice none 0 0], .agg #[.int .u8 0, .int .i64 0, .slice none 0 0]], []⟩ 8 (by kernel_rfl) (by kernel_rfl) (by kernel_rfl) (by kernel_rfl)) ?_
  intro W base args ds gs before hval0 hW hcnd hsz hass
  have hval : ∀ (j : Nat) t v, Try.f4.params[j]? = some t → args[j]? = some v → Value.okWide Try.prog W .any base t v := hval0
  have hW' := hW
  obtain ⟨p, q, hA0, hV, rfl, hfz, hnd⟩ := hW
  have hA : DataW.TrodAll enc Try.prog W 0 (fun _ => true) true Try.f4.params.toList args.toList ds p := hA0
  rw [Try.params4] at hA hval
  obtain ⟨v0, v1, v2, d0, d1, d2, p0, p1, p2, rfl, rfl, rfl, h0, h1, h2⟩ := trodAll_three hA
  obtain ⟨rfl, rfl⟩ := trodVars_none hV
  have hsz' : (DataW.weightsEach Try.prog [27, 27, 27] ([d0, d1, d2] ++ [])).all (· ≤ reachBytes) = true := hsz
  simp only [List.append_nil, DataW.weightsEach, List.all_append, Bool.and_eq_true] at hsz'
  obtain ⟨a, ha⟩ := open_val (hval 0 27 v0 rfl rfl) h0 hsz'.1
  obtain ⟨b, hb⟩ := open_val (hval 1 27 v1 rfl rfl) h1 hsz'.2.1
  obtain ⟨c, hc⟩ := open_val (hval 2 27 v2 rfl rfl) h2 hsz'.2.2
  refine (order_any a b c v0 v1 v2 W ha hb hc).mono fun e W' ⟨he, hbw⟩ => ?_
  subst he
  exact ⟨_, rfl, law_post rfl rfl (by rw [Try.params4]; intro t ht; simp at ht; subst ht; exact ⟨by kernel_rfl, of_decide_eq_true (by kernel_rfl)⟩) hW' ⟨rfl, rfl, rfl⟩ hbw⟩

theorem order_holds : Rows.ValOrderSaid :=
  OpenClaim.holds_of_wide 4 Try.f4 rfl rfl rfl rfl rfl rfl rfl ⟨rfl, rfl, rfl, rfl, rfl⟩ rfl rfl rfl rfl rfl (by kernel_rfl) Try.func4 (by kernel_rfl)
    (of_decide_eq_true (by kernel_rfl)) (by unfold Func.isWrapper; first | (rw [if_pos (by decide +kernel)]; kernel_rfl) | (rw [if_neg (by decide +kernel)]; exact ⟨rfl, rfl⟩))
    (fun os started H enc _ => order_lifted os started H enc)
end Go.Proofs.Ytcfpgnobhmldbaa
