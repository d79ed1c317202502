/- the law ValItems: the walk. -/
import Derived.Test.YtcfpgnobhmldbaaVAwake
import Derived.Test.YtcfpgnobhmldbaaVWeigh
import Derived.Test.YtcfpgnobhmldbaaVItems
namespace Go.Proofs.Ytcfpgnobhmldbaa
open Go.RowKit

set_option maxRecDepth 100000 in
set_option maxHeartbeats 8000000 in
theorem items_any (k : List VT) (ka : Option Addr) (kc : Nat) (l : List VT) (la : Option Addr) (lc : Nat) (m : List VT) (ma : Option Addr) (mc : Nat) (w : World)
    (hk : k.length ≤ 3518437208780) (hkr : VRow w k ka) (hl : l.length ≤ 3518437208780) (hlr : VRow w l la) (hm : m.length ≤ 3518437208780) (hmr : VRow w m ma) :
    Calls Try.prog 5 #[.slice ka k.length kc, .slice la l.length lc, .slice ma m.length mc] w fun e w' => e = .returned (.bool true) ∧ Below w.heap.size w w' := by
  obtain ⟨b1, h1⟩ : ∃ b, b = VT.long k := ⟨_, rfl⟩
  obtain ⟨b2, h2⟩ : ∃ b, b = VT.long l := ⟨_, rfl⟩
  obtain ⟨b3, h3⟩ : ∃ b, b = VT.long m := ⟨_, rfl⟩
  have H1 := Lib.hid h1; have H2 := Lib.hid h2; have H3 := Lib.hid h3
  clear h1 h2 h3
  go_enter Try.func5, Try.ntmps5
  go_wp2_with fail
  refine (long_any k ka kc w hk hkr).mono ?_
  rintro e w1 ⟨rfl, hb1⟩
  rw [← H1.out]
  cases b1
  case true =>
    go_wp2_with fail
    refine (awake_any _).mono ?_
    rintro e wz ⟨rfl, hbz⟩
    go_wp2_with fail
    go_ret
    exact ⟨rfl, hb1.trans (hbz.mono hb1.size)⟩
  case false =>
  go_wp2_with fail
  refine (long_any l la lc w1 hl (hlr.below hb1)).mono ?_
  rintro e w2 ⟨rfl, hb2⟩
  rw [← H2.out]
  have hB2 := hb1.trans (hb2.mono hb1.size)
  cases b2
  case true =>
    go_wp2_with fail
    refine (awake_any _).mono ?_
    rintro e wz ⟨rfl, hbz⟩
    go_wp2_with fail
    go_ret
    exact ⟨rfl, hB2.trans (hbz.mono hB2.size)⟩
  case false =>
  go_wp2_with fail
  refine (long_any m ma mc w2 hm (hmr.below hB2)).mono ?_
  rintro e w3 ⟨rfl, hb3⟩
  rw [← H3.out]
  have hB3 := hB2.trans (hb3.mono hB2.size)
  cases b3
  case true =>
    go_wp2_with fail
    refine (awake_any _).mono ?_
    rintro e wz ⟨rfl, hbz⟩
    go_wp2_with fail
    go_ret
    exact ⟨rfl, hB3.trans (hbz.mono hB3.size)⟩
  case false =>
  go_wp2_with fail
  refine (awake_any w3).mono ?_
  rintro e w4 ⟨rfl, hb4⟩
  have hB4 := hB3.trans (hb4.mono hB3.size)
  clear hb1 hb2 hb3 hb4 hB2 hB3
  have n1 := VT.not_long H1.out.symm
  have n2 := VT.not_long H2.out.symm
  have n3 := VT.not_long H3.out.symm
  have o1 := VT.length_le_sizes k
  have o2 := VT.length_le_sizes l
  have o3 := VT.length_le_sizes m
  have g1 : k.length ≤ 6000 := by omega
  have g2 : l.length ≤ 6000 := by omega
  have g3 : m.length ≤ 6000 := by omega
  clear n1 n2 n3 o1 o2 o3 hk hl hm
  obtain ⟨w5, hw5, m5⟩ : ∃ w5, w4.alloc (.cells #[] 27) = w5 ∧ Below w4.heap.size w4 w5 := ⟨_, rfl, Below.al _⟩
  have hB5 := hB4.trans (m5.mono hB4.size)
  obtain ⟨a6, c6, w6, y6, hap6, hg6, hi6, hb6⟩ := vappend (w00 := w) (k := []) (xs := []) kc hB5.size (Grown.empty w5 w.heap.size 27 3 w4.heap.size) (Items.nil w) hkr hB5 (by omega)
  simp only [Nat.zero_add, List.nil_append] at hap6 hg6 hi6
  have hB6 := hB5.trans hb6
  obtain ⟨a7, c7, w7, y7, hap7, hg7, hi7, hb7⟩ := vappend (w00 := w) lc hB6.size hg6 hi6 hlr hB6 (by omega)
  have hB7 := hB6.trans hb7
  have hP := grown_vrow (by simp) hg7 hi7 hB7
  obtain ⟨w8, hw8, m8⟩ : ∃ w8, w7.alloc (.cells #[] 27) = w8 ∧ Below w7.heap.size w7 w8 := ⟨_, rfl, Below.al _⟩
  have hB8 := hB7.trans (m8.mono hB7.size)
  obtain ⟨a9, c9, w9, y9, hap9, hg9, hi9, hb9⟩ := vappend (w00 := w) (k := []) (xs := []) kc m8.size (Grown.empty w8 w7.heap.size 27 3 w7.heap.size) (Items.nil w) hkr hB8 (by omega)
  simp only [Nat.zero_add, List.nil_append] at hap9 hg9 hi9
  have m9 := m8.trans hb9
  have hB9 := hB7.trans (m9.mono hB7.size)
  obtain ⟨a10, c10, w10, y10, hap10, hg10, hi10, hb10⟩ := vappend (w00 := w) mc m9.size hg9 hi9 hmr hB9 (by omega)
  have m10 := m9.trans hb10
  have hC := hB7.trans (m10.mono hB7.size)
  have hQ := grown_vrow (by simp) hg10 hi10 hC
  have hP := hP.below m10
  have HA6 := Lib.hid hap6; have HA7 := Lib.hid hap7; have HA9 := Lib.hid hap9; have HA10 := Lib.hid hap10
  clear hap6 hg6 hi6 hb6 hap7 hg7 hi7 hb7 hap9 hg9 hi9 hb9 hap10 hg10 hi10 hb10 hB4 hB5 hB6 hB7 hB8 hB9 m5 m8 m9 m10
  go_wp2_with (at_builtin; first | refine wpList_append_run _ rfl _ _ _ rfl (.slice (some ⟨w4.heap.size, 0, none⟩) 0 0) (.slice ka k.length kc) _ _ rfl rfl HA6.out ?_ | refine wpList_append_run _ rfl _ _ _ rfl (.slice a6 k.length c6) (.slice la l.length lc) _ _ rfl rfl HA7.out ?_ | refine wpList_append_run _ rfl _ _ _ rfl (.slice (some ⟨w7.heap.size, 0, none⟩) 0 0) (.slice ka k.length kc) _ _ rfl rfl HA9.out ?_ | refine wpList_append_run _ rfl _ _ _ rfl (.slice a9 k.length c9) (.slice ma m.length mc) _ _ rfl rfl HA10.out ?_)
  clear HA6 HA7 HA9 HA10 hw5 hw8
  refine (tuple_n (by simp) (by omega) (hlr.below hC)).mono ?_
  rintro e wn ⟨y, rfl, hf, hbn⟩
  have V1 : VIn wn (.mk 3 0 l) y := hf.vin
  have hP := hP.below hbn
  have hQ := hQ.below hbn
  have hC := hC.trans (hbn.mono hC.size)
  clear hf
  clear hbn
  go_wp2_with fail
  refine (tuple_n (by simp) (by omega) (hmr.below hC)).mono ?_
  rintro e wn ⟨y, rfl, hf, hbn⟩
  have V2 : VIn wn (.mk 3 0 m) y := hf.vin
  have hP := hP.below hbn
  have hQ := hQ.below hbn
  have hC := hC.trans (hbn.mono hC.size)
  clear hf
  have V1 := V1.below hbn
  clear hbn
  go_wp2_with fail
  refine (cmp_any _ _ _ _ _ _ (Nat.le_refl _) V1 V2).mono ?_
  rintro e wn ⟨rfl, hbn⟩
  have hP := hP.below hbn
  have hQ := hQ.below hbn
  have hC := hC.trans (hbn.mono hC.size)
  clear hbn
  rw [VT.cmp_tuple]
  obtain ⟨c, hc⟩ : ∃ c, c = VT.cmpAll l m := ⟨_, rfl⟩
  rw [← hc]
  have HCC := Lib.hid hc
  have fc : (c != c) = false := by simp
  clear hc V1 V2
  go_wp2_with fail
  refine (tuple_n (by simp) (by omega) hP).mono ?_
  rintro e wn ⟨y, rfl, hf, hbn⟩
  have V1 : VIn wn (.mk 3 0 (k ++ l)) y := hf.vin
  have hP := hP.below hbn
  have hQ := hQ.below hbn
  have hC := hC.trans (hbn.mono hC.size)
  clear hf
  clear hbn
  go_wp2_with fail
  refine (tuple_n (by simp) (by omega) hQ).mono ?_
  rintro e wn ⟨y, rfl, hf, hbn⟩
  have V2 : VIn wn (.mk 3 0 (k ++ m)) y := hf.vin
  have hP := hP.below hbn
  have hQ := hQ.below hbn
  have hC := hC.trans (hbn.mono hC.size)
  clear hf
  have V1 := V1.below hbn
  clear hbn
  go_wp2_with fail
  refine (cmp_any _ _ _ _ _ _ (Nat.le_refl _) V1 V2).mono ?_
  rintro e wn ⟨rfl, hbn⟩
  have hP := hP.below hbn
  have hQ := hQ.below hbn
  have hC := hC.trans (hbn.mono hC.size)
  clear hbn
  rw [VT.cmp_tuple, VT.cmpAll_ahead, ← HCC.out]
  clear V1 V2
  go_wp2_with fail
  refine (list_n (by simp) (by omega) hP).mono ?_
  rintro e wn ⟨y, rfl, hf, hbn⟩
  have V1 : VIn wn (.mk 4 0 (k ++ l)) y := hf.vin
  have hP := hP.below hbn
  have hQ := hQ.below hbn
  have hC := hC.trans (hbn.mono hC.size)
  clear hf
  clear hbn
  go_wp2_with fail
  refine (list_n (by simp) (by omega) hQ).mono ?_
  rintro e wn ⟨y, rfl, hf, hbn⟩
  have V2 : VIn wn (.mk 4 0 (k ++ m)) y := hf.vin
  have hP := hP.below hbn
  have hQ := hQ.below hbn
  have hC := hC.trans (hbn.mono hC.size)
  clear hf
  have V1 := V1.below hbn
  clear hbn
  go_wp2_with fail
  refine (cmp_any _ _ _ _ _ _ (Nat.le_refl _) V1 V2).mono ?_
  rintro e wn ⟨rfl, hbn⟩
  have hP := hP.below hbn
  have hQ := hQ.below hbn
  have hC := hC.trans (hbn.mono hC.size)
  clear hbn
  rw [VT.cmp_list, VT.cmpAll_ahead, ← HCC.out]
  clear V1 V2
  go_wp2_with fail
  refine (tuple_n (by simp) (by omega) hP).mono ?_
  rintro e wn ⟨y, rfl, hf, hbn⟩
  have V1 : VIn wn (.mk 3 0 (k ++ l)) y := hf.vin
  have hP := hP.below hbn
  have hQ := hQ.below hbn
  have hC := hC.trans (hbn.mono hC.size)
  clear hf
  clear hbn
  go_wp2_with fail
  refine (list_n (by simp) (by omega) hQ).mono ?_
  rintro e wn ⟨y, rfl, hf, hbn⟩
  have V2 : VIn wn (.mk 4 0 (k ++ m)) y := hf.vin
  have hP := hP.below hbn
  have hQ := hQ.below hbn
  have hC := hC.trans (hbn.mono hC.size)
  clear hf
  have V1 := V1.below hbn
  clear hbn
  go_wp2_with fail
  refine (cmp_any _ _ _ _ _ _ (Nat.le_refl _) V1 V2).mono ?_
  rintro e wn ⟨rfl, hbn⟩
  have hP := hP.below hbn
  have hQ := hQ.below hbn
  have hC := hC.trans (hbn.mono hC.size)
  clear hbn
  rw [VT.cmp_tuple_list]
  clear V1 V2
  by_cases hl0 : 0 < l.length
  · have fl : ((l.length : Int) == 0) = false := by rw [beq_eq_false_iff_ne]; omega
    go_wp2_with fail
    refine (list_n (by simp) (by omega) (hkr.below hC)).mono ?_
    rintro e wn ⟨y, rfl, hf, hbn⟩
    have V1 : VIn wn (.mk 4 0 k) y := hf.vin
    have hP := hP.below hbn
    have hQ := hQ.below hbn
    have hC := hC.trans (hbn.mono hC.size)
    clear hf
    clear hbn
    go_wp2_with fail
    refine (list_n (by simp) (by omega) hP).mono ?_
    rintro e wn ⟨y, rfl, hf, hbn⟩
    have V2 : VIn wn (.mk 4 0 (k ++ l)) y := hf.vin
    have hP := hP.below hbn
    have hQ := hQ.below hbn
    have hC := hC.trans (hbn.mono hC.size)
    clear hf
    have V1 := V1.below hbn
    clear hbn
    go_wp2_with fail
    refine (cmp_any _ _ _ _ _ _ (Nat.le_refl _) V1 V2).mono ?_
    rintro e wn ⟨rfl, hbn⟩
    have hP := hP.below hbn
    have hQ := hQ.below hbn
    have hC := hC.trans (hbn.mono hC.size)
    clear hbn
    rw [VT.cmp_list, VT.cmpAll_whole hl0]
    clear V1 V2
    by_cases hm0 : 0 < m.length
    · have fm : ((m.length : Int) == 0) = false := by rw [beq_eq_false_iff_ne]; omega
      obtain ⟨b, o, rfl, ax, ac, d0, d1, d2, hx⟩ := (hlr.below hC).got 0 hl0
      obtain ⟨b', o', rfl, ay, ac', e0, e1, e2, hy⟩ := (hmr.below hC).got 0 hm0
      simp only [Nat.zero_mul, Nat.add_zero] at d0 d1 d2 e0 e1 e2
      obtain ⟨f, hf⟩ : ∃ f, f = VT.cmp l[0] m[0] := ⟨_, rfl⟩
      have hfc : f ≠ 0 → c = f := fun h => by rw [HCC.out, hf]; exact VT.cmpAll_first hl0 hm0 (by rw [← hf]; exact h)
      have HF := Lib.hid hf; have HFC := Lib.hid hfc; clear hf hfc
      go_wp2_with fail
      refine region_tail 6 (by kernel_rfl) (by kernel_rfl) ?_
      simp only [List.take_succ_cons, List.take_zero, List.drop_succ_cons, List.drop_zero]
      repeat still_step
      refine wpStill_nil ?_
      go_wp2_with fail
      refine (cmp_any _ _ _ _ _ _ (Nat.le_refl _) (hx.below (Below.refl _ _).drew) (hy.below (Below.refl _ _).drew)).mono ?_
      rintro e wn ⟨rfl, hbn⟩
      rw [← HF.out]
      have hC := hC.trans (((Below.refl _ _).drew.trans hbn).mono hC.size)
      clear d0 d1 d2 e0 e1 e2 hx hy hbn
      by_cases h0 : f = 0
      · have ff : (f == 0) = true := by simpa using h0
        clear h0
        go_wp2_with fail
        go_ret
        exact ⟨rfl, hC⟩
      · have ff : (f == 0) = false := by simpa using h0
        have fe : (c == f) = true := by rw [HFC.out h0]; simp
        clear h0
        go_wp2_with fail
        go_ret
        exact ⟨rfl, hC⟩
    · have hm1 : m.length = 0 := by omega
      have hmn : m = [] := List.length_eq_zero_iff.1 hm1
      have hc1 : c = 1 := by rw [HCC.out, hmn]; exact VT.cmpAll_cons_nil hl0
      clear HCC
      subst hmn hc1
      go_wp2_with fail
      go_ret
      exact ⟨ret_bool (by first | (simp; done) | (simp; omega)), hC⟩
  · have hl1 : l.length = 0 := by omega
    have hln : l = [] := List.length_eq_zero_iff.1 hl1
    by_cases hm0 : 0 < m.length
    · have hc1 : c = -1 := by rw [HCC.out, hln]; exact VT.cmpAll_nil_cons hm0
      clear HCC
      subst hln hc1
      go_wp2_with fail
      go_ret
      exact ⟨ret_bool (by first | (simp; done) | (simp; omega)), hC⟩
    · have hmn : m = [] := List.length_eq_zero_iff.1 (by omega)
      have hc1 : c = 0 := by rw [HCC.out, hln, hmn, VT.cmpAll]
      clear HCC
      subst hln hmn hc1
      go_wp2_with fail
      go_ret
      exact ⟨ret_bool (by simp), hC⟩
end Go.Proofs.Ytcfpgnobhmldbaa
