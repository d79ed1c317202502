/- the law ValOrder: the walk. -/
import Derived.Deep.DeepCutAuto
import Derived.Test.YtcfpgnobhmldbaaVAwake
import Derived.Test.YtcfpgnobhmldbaaVWeigh
import Derived.Test.YtcfpgnobhmldbaaVWalkC
namespace Go.Proofs.Ytcfpgnobhmldbaa
open Go.RowKit

/-- what the order owes. -/
structure OrdFacts (a b c : VT) : Prop where
  lo : -1 ≤ VT.cmp a b
  hi : VT.cmp a b ≤ 1
  anti : VT.cmp b a = - VT.cmp a b
  refl : VT.cmp a a = 0
  same : a.may = true → b.may = true → (VT.cmp a b = 0 ↔ VT.same a b = true)
  same0 : VT.same a b = true → VT.cmp a b = 0
  trans : VT.cmp a b ≤ 0 → VT.cmp b c ≤ 0 → VT.cmp a c ≤ 0 ∧ (VT.cmp a c = 0 → VT.cmp a b = 0 ∧ VT.cmp b c = 0)

set_option maxRecDepth 100000 in
set_option maxHeartbeats 4000000 in
theorem order_walk (a b c : VT) (va vb vc : Value) (w : World) (ha : VIn w a va) (hb : VIn w b vb) (hc : VIn w c vc) (hf : OrdFacts a b c) (hl : VT.long [a, b, c] = false) :
    Calls Try.prog 4 #[va, vb, vc] w fun e w' => e = .returned (.bool true) ∧ Below w.heap.size w w' := by
  have hsz : a.size < 6000 ∧ b.size < 6000 ∧ c.size < 6000 := by
    have := VT.not_long hl
    simp only [VT.sizes] at this
    omega
  obtain ⟨s1, s2, s3⟩ := hsz
  obtain ⟨ka, na, la⟩ := a
  obtain ⟨kb, nb, lb⟩ := b
  obtain ⟨kc, nc, lc⟩ := c
  obtain ⟨pa, qa, ga, rfl, ra⟩ := ha.open
  obtain ⟨pb, qb, gb, rfl, rb⟩ := hb.open
  obtain ⟨pc, qc, gc, rfl, rc⟩ := hc.open
  obtain ⟨w0, hw0⟩ : ∃ w0, ((w.alloc (.cells #[.int .u8 ka, .int .i64 na, .slice pa la.length qa] 27)).alloc (.cells #[.int .u8 kb, .int .i64 nb, .slice pb lb.length qb] 27)).alloc (.cells #[.int .u8 kc, .int .i64 nc, .slice pc lc.length qc] 27) = w0 := ⟨_, rfl⟩
  have hz0 : w0.heap.size = w.heap.size + 3 := by subst hw0; simp
  have hB0 : Below w.heap.size w w0 := by subst hw0; exact ((Below.al _).alloc (by simp) _).alloc (by simp; omega) _
  have A : ∀ W, Below w0.heap.size w0 W → W.cell? ⟨w.heap.size, 0, none⟩ = some (.int .u8 ka) ∧ W.cell? ⟨w.heap.size, 1, none⟩ = some (.int .i64 na) ∧ W.cell? ⟨w.heap.size, 2, none⟩ = some (.slice pa la.length qa) ∧ W.cell? ⟨w.heap.size + 1, 0, none⟩ = some (.int .u8 kb) ∧ W.cell? ⟨w.heap.size + 1, 1, none⟩ = some (.int .i64 nb) ∧ W.cell? ⟨w.heap.size + 1, 2, none⟩ = some (.slice pb lb.length qb) ∧ W.cell? ⟨w.heap.size + 1 + 1, 0, none⟩ = some (.int .u8 kc) ∧ W.cell? ⟨w.heap.size + 1 + 1, 1, none⟩ = some (.int .i64 nc) ∧ W.cell? ⟨w.heap.size + 1 + 1, 2, none⟩ = some (.slice pc lc.length qc) ∧ w0.heap.size ≤ W.heap.size := fun W hW => ⟨cell_stays hW (by subst hw0; go_simp), cell_stays hW (by subst hw0; go_simp), cell_stays hW (by subst hw0; go_simp), cell_stays hW (by subst hw0; go_simp), cell_stays hW (by subst hw0; go_simp), cell_stays hW (by subst hw0; go_simp), cell_stays hW (by subst hw0; go_simp), cell_stays hW (by subst hw0; go_simp), cell_stays hW (by subst hw0; go_simp), hW.size⟩
  have HA := Lib.hid A; clear A
  have wa := ha.below hB0
  have wb := hb.below hB0
  have wc' := hc.below hB0
  clear ha hb hc
  obtain ⟨x0, x1, x2, y0, y1, y2, z0, z1, z2, hz⟩ := HA.out w0 (Below.refl _ _)
  have hB := Below.refl w0.heap.size w0
  have f1 := hf.lo
  have f2 := hf.hi
  have HF := Lib.hid hf; clear hf
  go_enter Try.func4, Try.ntmps4
  go_wp2_with fail
  refine (long_any [.mk ka na la, .mk kb nb lb, .mk kc nc lc] _ _ _ (by simp) (vrow_cons (v0 := .int .u8 ka) (v1 := .int .i64 na) (v2 := .slice pa la.length qa) (by go_simp) (by go_simp) (by go_simp) (wa.below (Below.al _)) (vrow_cons (v0 := .int .u8 kb) (v1 := .int .i64 nb) (v2 := .slice pb lb.length qb) (by go_simp) (by go_simp) (by go_simp) (wb.below (Below.al _)) (vrow_cons (v0 := .int .u8 kc) (v1 := .int .i64 nc) (v2 := .slice pc lc.length qc) (by go_simp) (by go_simp) (by go_simp) (wc'.below (Below.al _)) vrow_nil)))).mono ?_
  rintro e w1 ⟨rfl, hb1⟩
  rw [hl]
  have hB := hB.trans (((Below.al _).trans (hb1.mono (by simp))))
  clear hb1
  clear x0 x1 x2 y0 y1 y2 z0 z1 z2 hz
  obtain ⟨x0, x1, x2, y0, y1, y2, z0, z1, z2, hz⟩ := HA.out w1 hB
  go_wp2_with fail
  refine (awake_any _).mono ?_
  rintro e w2 ⟨rfl, hb1⟩
  have hB := hB.trans (hb1.mono hB.size)
  clear hb1
  clear x0 x1 x2 y0 y1 y2 z0 z1 z2 hz
  obtain ⟨x0, x1, x2, y0, y1, y2, z0, z1, z2, hz⟩ := HA.out w2 hB
  go_wp2_with fail
  refine (cmp_any 6000 _ _ _ _ _ (by omega) (wa.below hB) (wb.below hB)).mono ?_
  rintro e w3 ⟨rfl, hb1⟩
  have hB := hB.trans (hb1.mono hB.size)
  clear hb1
  clear x0 x1 x2 y0 y1 y2 z0 z1 z2 hz
  obtain ⟨x0, x1, x2, y0, y1, y2, z0, z1, z2, hz⟩ := HA.out w3 hB
  generalize hp : VT.cmp (.mk ka na la) (.mk kb nb lb) = p at f1 f2
  have HP := Lib.hid hp; clear hp
  go_wp2_with fail
  refine (cmp_any 6000 _ _ _ _ _ (by omega) (wb.below hB) (wa.below hB)).mono ?_
  rintro e w4 ⟨rfl, hb1⟩
  have hB := hB.trans (hb1.mono hB.size)
  clear hb1
  clear x0 x1 x2 y0 y1 y2 z0 z1 z2 hz
  obtain ⟨x0, x1, x2, y0, y1, y2, z0, z1, z2, hz⟩ := HA.out w4 hB
  rw [HF.out.anti, HP.out]
  go_wp2_with fail
  refine (cmp_any 6000 _ _ _ _ _ (by omega) (wa.below hB) (wa.below hB)).mono ?_
  rintro e w5 ⟨rfl, hb1⟩
  have hB := hB.trans (hb1.mono hB.size)
  clear hb1
  clear x0 x1 x2 y0 y1 y2 z0 z1 z2 hz
  obtain ⟨x0, x1, x2, y0, y1, y2, z0, z1, z2, hz⟩ := HA.out w5 hB
  rw [HF.out.refl]
  go_upto_region 6 with fail
  go_cut [63] (fun t wx => t = .bool false ∧ Below w0.heap.size w0 wx)
  case first =>
    obtain ⟨ma, hma⟩ : ∃ ma, ma = (VT.mk ka na la).may := ⟨_, rfl⟩
    obtain ⟨mb, hmb⟩ : ∃ mb, mb = (VT.mk kb nb lb).may := ⟨_, rfl⟩
    obtain ⟨sm, hsm⟩ : ∃ sm, sm = VT.same (.mk ka na la) (.mk kb nb lb) := ⟨_, rfl⟩
    have HMA := Lib.hid hma; have HMB := Lib.hid hmb; have HSM := Lib.hid hsm
    clear hma hmb hsm
    go_wp2_with fail
    refine (may_any _ _ _ (by omega) (wa.below hB)).mono ?_
    rintro e w6 ⟨rfl, hb1⟩
    have hB := hB.trans (hb1.mono hB.size)
    clear hb1
    clear x0 x1 x2 y0 y1 y2 z0 z1 z2 hz
    obtain ⟨x0, x1, x2, y0, y1, y2, z0, z1, z2, hz⟩ := HA.out w6 hB
    rw [← HMA.out]
    have hend : sm = true → p = 0 := fun h => by rw [← HP.out]; exact HF.out.same0 (by rw [← HSM.out]; exact h)
    have HE := Lib.hid hend; clear hend
    cases ma
    · cases sm
      · go_wp2_with fail
        refine (same_any 6000 _ _ _ _ _ (by omega) (wa.below hB) (wb.below hB)).mono ?_
        rintro e w7 ⟨rfl, hb1⟩
        have hB := hB.trans (hb1.mono hB.size)
        rw [← HSM.out]
        go_wp2_with fail
        go_meet
        exact ⟨rfl, hB⟩
      · have hp0 : (p != 0) = false := by rw [HE.out rfl]; rfl
        go_wp2_with fail
        refine (same_any 6000 _ _ _ _ _ (by omega) (wa.below hB) (wb.below hB)).mono ?_
        rintro e w7 ⟨rfl, hb1⟩
        have hB := hB.trans (hb1.mono hB.size)
        rw [← HSM.out]
        go_wp2_with fail
        go_meet
        exact ⟨rfl, hB⟩
    · go_wp2_with fail
      refine (may_any _ _ _ (by omega) (wb.below hB)).mono ?_
      rintro e w7 ⟨rfl, hb1⟩
      have hB := hB.trans (hb1.mono hB.size)
      clear hb1
      clear x0 x1 x2 y0 y1 y2 z0 z1 z2 hz
      obtain ⟨x0, x1, x2, y0, y1, y2, z0, z1, z2, hz⟩ := HA.out w7 hB
      rw [← HMB.out]
      have hiff : mb = true → (p == 0) = sm := fun h => by
        have := HF.out.same HMA.out.symm (HMB.out.symm.trans h)
        rw [HP.out, ← HSM.out] at this
        rw [Bool.eq_iff_iff, ← this]; simp
      have HI := Lib.hid hiff; clear hiff
      cases mb
      · cases sm
        · go_wp2_with fail
          refine (same_any 6000 _ _ _ _ _ (by omega) (wa.below hB) (wb.below hB)).mono ?_
          rintro e w8 ⟨rfl, hb1⟩
          have hB := hB.trans (hb1.mono hB.size)
          rw [← HSM.out]
          go_wp2_with fail
          go_meet
          exact ⟨rfl, hB⟩
        · have hp0 : (p != 0) = false := by rw [HE.out rfl]; rfl
          go_wp2_with fail
          refine (same_any 6000 _ _ _ _ _ (by omega) (wa.below hB) (wb.below hB)).mono ?_
          rintro e w8 ⟨rfl, hb1⟩
          have hB := hB.trans (hb1.mono hB.size)
          rw [← HSM.out]
          go_wp2_with fail
          go_meet
          exact ⟨rfl, hB⟩
      · cases sm
        · have hp0 : (p == 0) = false := HI.out rfl
          go_wp2_with fail
          refine (same_any 6000 _ _ _ _ _ (by omega) (wa.below hB) (wb.below hB)).mono ?_
          rintro e w8 ⟨rfl, hb1⟩
          have hB := hB.trans (hb1.mono hB.size)
          clear hb1
          clear x0 x1 x2 y0 y1 y2 z0 z1 z2 hz
          obtain ⟨x0, x1, x2, y0, y1, y2, z0, z1, z2, hz⟩ := HA.out w8 hB
          rw [← HSM.out]
          go_wp2_with fail
          refine (same_any 6000 _ _ _ _ _ (by omega) (wa.below hB) (wb.below hB)).mono ?_
          rintro e w9 ⟨rfl, hb1⟩
          have hB := hB.trans (hb1.mono hB.size)
          rw [← HSM.out]
          go_wp2_with fail
          go_meet
          exact ⟨rfl, hB⟩
        · have hp0 : (p == 0) = true := HI.out rfl
          have hp1 : (p != 0) = false := by rw [HE.out rfl]; rfl
          go_wp2_with fail
          refine (same_any 6000 _ _ _ _ _ (by omega) (wa.below hB) (wb.below hB)).mono ?_
          rintro e w8 ⟨rfl, hb1⟩
          have hB := hB.trans (hb1.mono hB.size)
          clear hb1
          clear x0 x1 x2 y0 y1 y2 z0 z1 z2 hz
          obtain ⟨x0, x1, x2, y0, y1, y2, z0, z1, z2, hz⟩ := HA.out w8 hB
          rw [← HSM.out]
          go_wp2_with fail
          refine (same_any 6000 _ _ _ _ _ (by omega) (wa.below hB) (wb.below hB)).mono ?_
          rintro e w9 ⟨rfl, hb1⟩
          have hB := hB.trans (hb1.mono hB.size)
          rw [← HSM.out]
          go_wp2_with fail
          go_meet
          exact ⟨rfl, hB⟩
  case rest =>
    obtain ⟨rfl, hB⟩ := hcut
    clear x0 x1 x2 y0 y1 y2 z0 z1 z2 hz
    obtain ⟨x0, x1, x2, y0, y1, y2, z0, z1, z2, hz⟩ := HA.out wc hB
    obtain ⟨q, hq⟩ : ∃ q, q = VT.cmp (.mk kb nb lb) (.mk kc nc lc) := ⟨_, rfl⟩
    obtain ⟨r, hr⟩ : ∃ r, r = VT.cmp (.mk ka na la) (.mk kc nc lc) := ⟨_, rfl⟩
    have htr : p ≤ 0 → q ≤ 0 → r ≤ 0 ∧ (r = 0 → p = 0 ∧ q = 0) := fun h1 h2 => by
      have := HF.out.trans (by rw [HP.out]; exact h1) (by rw [← hq]; exact h2)
      rwa [← hr, ← hq, HP.out] at this
    have HTR := Lib.hid htr; have HQ := Lib.hid hq; have HR := Lib.hid hr
    clear htr hq hr
    by_cases hp0 : 0 < p
    · go_wp2_with fail
      go_ret
      exact ⟨rfl, hB0.trans (hB.mono hB0.size)⟩
    · go_wp2_with fail
      refine (cmp_any 6000 _ _ _ _ _ (by omega) (wb.below hB) (wc'.below hB)).mono ?_
      rintro e w10 ⟨rfl, hb1⟩
      have hB := hB.trans (hb1.mono hB.size)
      clear hb1
      clear x0 x1 x2 y0 y1 y2 z0 z1 z2 hz
      obtain ⟨x0, x1, x2, y0, y1, y2, z0, z1, z2, hz⟩ := HA.out w10 hB
      rw [← HQ.out]
      by_cases hq0 : 0 < q
      · go_wp2_with fail
        go_ret
        exact ⟨rfl, hB0.trans (hB.mono hB0.size)⟩
      · have hr0 : r ≤ 0 := (HTR.out (by omega) (by omega)).1
        go_wp2_with fail
        refine (cmp_any 6000 _ _ _ _ _ (by omega) (wa.below hB) (wc'.below hB)).mono ?_
        rintro e w11 ⟨rfl, hb1⟩
        have hB := hB.trans (hb1.mono hB.size)
        clear hb1
        clear x0 x1 x2 y0 y1 y2 z0 z1 z2 hz
        obtain ⟨x0, x1, x2, y0, y1, y2, z0, z1, z2, hz⟩ := HA.out w11 hB
        rw [← HR.out]
        go_wp2_with fail
        refine (cmp_any 6000 _ _ _ _ _ (by omega) (wa.below hB) (wc'.below hB)).mono ?_
        rintro e w12 ⟨rfl, hb1⟩
        have hB := hB.trans (hb1.mono hB.size)
        clear hb1
        clear x0 x1 x2 y0 y1 y2 z0 z1 z2 hz
        obtain ⟨x0, x1, x2, y0, y1, y2, z0, z1, z2, hz⟩ := HA.out w12 hB
        rw [← HR.out]
        by_cases hr1 : r < 0
        · go_wp2_with fail
          go_ret
          exact ⟨rfl, hB0.trans (hB.mono hB0.size)⟩
        · have h2 := (HTR.out (by omega) (by omega)).2 (by omega)
          have e1 : (p == 0) = true := by rw [h2.1]; rfl
          have e2 : (q == 0) = true := by rw [h2.2]; rfl
          clear h2
          go_wp2_with fail
          refine (cmp_any 6000 _ _ _ _ _ (by omega) (wb.below hB) (wc'.below hB)).mono ?_
          rintro e w13 ⟨rfl, hb1⟩
          have hB := hB.trans (hb1.mono hB.size)
          clear hb1
          clear x0 x1 x2 y0 y1 y2 z0 z1 z2 hz
          obtain ⟨x0, x1, x2, y0, y1, y2, z0, z1, z2, hz⟩ := HA.out w13 hB
          rw [← HQ.out]
          go_wp2_with fail
          go_ret
          exact ⟨rfl, hB0.trans (hB.mono hB0.size)⟩
end Go.Proofs.Ytcfpgnobhmldbaa
