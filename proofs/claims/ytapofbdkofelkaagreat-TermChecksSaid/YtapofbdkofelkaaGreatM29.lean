/- Texts of this claim laid into one: VWalkD. -/
import Derived.Test.YtapofbdkofelkaaGreatM01
/- tombolaref14.Same, SameAll. -/
namespace Go.Proofs.YtapofbdkofelkaaGreat
open Go.RowKit

set_option maxRecDepth 100000 in
set_option maxHeartbeats 2000000 in
theorem rsame_any (N : Nat) : ∀ (s t : VT) (v u : Value) (w : World), s.size ≤ N → VIn w s v → VIn w t u →
    Calls Tryz.prog 45 #[v, u] w fun e w' => e = .returned (.bool (VT.same s t)) ∧ Below w.heap.size w w' := by
  induction N with
  | zero => intro s t v u w h; have := VT.size_pos s; omega
  | succ N ih =>
    intro s t v u w hN hs ht
    obtain ⟨k, n, l⟩ := s
    obtain ⟨k', n', m⟩ := t
    obtain ⟨a, cap, hl, rfl, hr⟩ := hs.open
    obtain ⟨a', cap', hm, rfl, hr'⟩ := ht.open
    rw [VT.size] at hN
    have IH := Lib.hid ih; clear ih hs ht
    by_cases hk : k = k'
    · subst hk
      by_cases hn : n = n'
      · subst hn
        by_cases hlm : l.length = m.length
        · have HLM := Lib.hid hlm
          have hle : l.length ≤ m.length := by omega
          have hge : m.length ≤ l.length := by omega
          have hb1 : ((l.length : Int) != (m.length : Int)) = false := by simp [hlm]
          clear hlm
          go_enter Tryz.func45, Tryz.ntmps45
          go_wp2_with fail
          go_loopw [5] (fun x wr => ∃ i : Nat, x = .int .i64 i ∧ i ≤ l.length ∧ VT.sameAll l m = VT.sameAll (l.drop i) (m.drop i) ∧ Below w.heap.size w wr ∧ wr.cell? ⟨w.heap.size, 2, none⟩ = some (.slice a l.length cap) ∧ wr.cell? ⟨w.heap.size + 1, 2, none⟩ = some (.slice a' m.length cap') ∧ w.heap.size + 1 < wr.heap.size) (fun x _ => l.length - (intOf x).toNat)
          case atStart => exact ⟨0, rfl, by omega, by simp, ((Below.refl _ _).alloc (Nat.le_refl _) _).alloc (by simp) _, by go_simp, by go_simp, by simp⟩
          case round =>
            obtain ⟨i, rfl, hi, hc, hb, c2, c2', hsz⟩ := hrel
            have HC := Lib.hid hc; clear hc
            by_cases hlt : i < l.length
            · have hlt' : i < m.length := by omega
              obtain ⟨b, o, rfl, ax, cx, d0, d1, d2, hv⟩ := (hr.below hb).got i hlt
              obtain ⟨b', o', rfl, ay, cy, d0', d1', d2', hv'⟩ := (hr'.below hb).got i hlt'
              have hsl := VT.sizes_get hlt
              have HD := Lib.hid (VT.sameAll_drop hlt hlt')
              have hbl := lt_of_cell d0'
              obtain ⟨r, hr0⟩ : ∃ r, r = VT.same l[i] m[i] := ⟨_, rfl⟩
              have HR := Lib.hid hr0; clear hr0
              cases r
              all_goals
                go_wp2_with fail
                refine region_tail 10 (by kernel_rfl) (by kernel_rfl) ?_
                simp only [List.take_succ_cons, List.take_zero, List.drop_succ_cons, List.drop_zero]
                repeat still_step
                refine wpStill_nil ?_
                go_wp2_with fail
                refine (IH.out l[i] m[i] _ _ _ (by omega) (hv.below (Below.refl _ _).drew) (hv'.below (Below.refl _ _).drew)).mono ?_
                rintro e w1 ⟨rfl, hb1⟩
                rw [← HR.out]
                have hw1 : Below wr.heap.size wr w1 := (Below.refl _ wr).drew.trans hb1
                have e2 := cell_stays hw1 c2
                have e2' := cell_stays hw1 c2'
                have hsz1 := hw1.size
                go_wp2_with fail
              · go_ret
                exact ⟨ret_bool (by rw [VT.same, HC.out, HD.out, ← HR.out]; simp), hb.trans (hw1.mono (by omega))⟩
              · go_roundw
                case rel => exact ⟨i + 1, by go_num, by omega, by rw [HC.out, HD.out, ← HR.out, Bool.true_and], hb.trans (hw1.mono (by omega)), e2, e2', by omega⟩
                case measure => simp [intOf]; omega
            · go_wp2_with fail
              go_ret
              exact ⟨ret_bool (by rw [VT.same, HC.out, drop_nil hlt, drop_nil (by omega)]; simp [VT.sameAll]), hb⟩
        · have hb1 : ((l.length : Int) != (m.length : Int)) = true := by simp; omega
          go_enter Tryz.func45, Tryz.ntmps45
          go_wp2_with fail
          go_ret
          exact ⟨ret_bool (by rw [VT.same, VT.sameAll_len _ _ hlm, Bool.and_false]), ((Below.refl _ _).alloc (Nat.le_refl _) _).alloc (by simp) _⟩
      · have hb1 : (n != n') = true := by simpa using hn
        go_enter Tryz.func45, Tryz.ntmps45
        go_wp2_with fail
        go_ret
        exact ⟨ret_bool (by rw [VT.same, beq_eq_false_iff_ne.2 hn]; simp), ((Below.refl _ _).alloc (Nat.le_refl _) _).alloc (by simp) _⟩
    · have hb1 : (k != k') = true := by simpa using hk
      go_enter Tryz.func45, Tryz.ntmps45
      go_wp2_with fail
      go_ret
      exact ⟨ret_bool (by rw [VT.same, beq_eq_false_iff_ne.2 hk]; simp), ((Below.refl _ _).alloc (Nat.le_refl _) _).alloc (by simp) _⟩
end Go.Proofs.YtapofbdkofelkaaGreat
