/- UnfoldLess: the law returns true for all that can be read, and what was handed in reads afterwards as it read before. -/
import Derived.Test.YteebbffecaeciaaM47
import Derived.Test.YteebbffecaeciaaM48
/- UnfoldLess: the law's function, walked. -/
namespace Go.Proofs.Yteebbffecaeciaa
open Go.RowKit

theorem step_isX {m : Int} {b s : TT} (hm : 0 ≤ m) (hs : (tSized m b s).sane false = true) : (tSized m b s).step = stepX m b s := by
  unfold stepX
  by_cases h0 : 0 < m
  · rw [if_pos h0]
    have hb : s.sane true = true := by
      have := (TT.sane_parts hs).2.2
      simp only [tSized, TT.kind, TT.args, TT.sanes, Bool.and_eq_true] at this
      simpa using this.2.1
    rw [TT.putL_put _ s _ hb]
    show (if m = 0 then b else _) = _
    rw [if_neg (by omega)]; rfl
  · rw [if_neg h0]
    show (if m = 0 then b else _) = _
    rw [if_pos (by omega)]
set_option maxRecDepth 100000 in
set_option maxHeartbeats 8000000 in
theorem unfoldLess_any (b : TT) (x : Value) (s : TT) (y : Value) (n : Int) (w : World) (hx : TIn w b x) (hy : TIn w s y) (hn0 : 0 ≤ n) (hn1 : n ≤ 255) : Calls Try.prog 5 #[x, y, .int .u8 n] w fun e w' => e = .returned (.bool true) ∧ Below w.heap.size w w' := by
  obtain ⟨A, rfl, hok⟩ := hx
  obtain ⟨A', rfl, hok'⟩ := hy
  obtain ⟨w0, hw0, m0, s0, hc3, _⟩ := row1_new w b A
  obtain ⟨w1, hw1, m1, s1, hc4, _⟩ := row1_new w0 s A'
  have hB : Below w.heap.size w w1 := m0.trans (m1.mono (Nat.le_of_lt s0))
  have HX3 : Hid (BoxA w1 w.heap.size b A) := Lib.hid ⟨hc3.below m1, hok.below hB⟩
  have HX4 : Hid (BoxA w1 w0.heap.size s A') := Lib.hid ⟨hc4, hok'.below hB⟩
  clear hc3 hc4 hok hok' m0 m1
  obtain ⟨lg, hlg⟩ : ∃ lg, lg = TT.long [b, s] := ⟨_, rfl⟩
  have HLG := Lib.hid hlg; clear hlg
  unfold TT.val
  go_enter Try.func5, Try.ntmps5
  go_wp2_with (first | refine wpList_load15 (by rfl) (by rfl) (by rfl) HX3.out.1 ?_ | refine wpList_load15 (by rfl) (by rfl) (by rfl) HX4.out.1 ?_ | refine wpList_row2 (s := b) (t := s) (by rfl) (by rfl) (by rfl) (by rfl) HX3.out.2 HX4.out.2 ?_)
  intro w2 hrow hb2
  replace HX3 := Lib.hid (HX3.out.below hb2); replace HX4 := Lib.hid (HX4.out.below hb2); replace hB := hB.trans (hb2.mono hB.size)
  clear hb2
  go_wp2_with fail
  refine (tlong_any [b, s] _ 2 w2 (by simp) hrow).mono ?_
  rintro e w3 ⟨rfl, hb2⟩
  rw [← HLG.out]
  replace HX3 := Lib.hid (HX3.out.below hb2); replace HX4 := Lib.hid (HX4.out.below hb2); replace hB := hB.trans (hb2.mono hB.size)
  clear hb2 hrow
  cases lg
  · go_wp2_with fail
    refine (uawake_any _).mono ?_
    rintro e w4 ⟨rfl, hb2⟩
    replace HX3 := Lib.hid (HX3.out.below hb2); replace HX4 := Lib.hid (HX4.out.below hb2); replace hB := hB.trans (hb2.mono hB.size)
    clear hb2
    go_wp2_with (first | refine wpList_load15 (by rfl) (by rfl) (by rfl) HX3.out.1 ?_ | refine wpList_load15 (by rfl) (by rfl) (by rfl) HX4.out.1 ?_)
    obtain ⟨m, hm⟩ : ∃ m, m = n % 9 := ⟨_, rfl⟩
    rw [← hm]
    have HM : Hid (0 ≤ m ∧ m ≤ 8) := Lib.hid (by omega)
    clear hm hn0 hn1
    refine (usized_any m b s _ _ w4 HX3.out.tin HX4.out.tin).mono ?_
    rintro e w5 ⟨x5, rfl, ⟨A5, rfl, k5⟩, hb2⟩
    replace HX3 := Lib.hid (HX3.out.below hb2); replace HX4 := Lib.hid (HX4.out.below hb2); replace hB := hB.trans (hb2.mono hB.size)
    obtain ⟨T, hT⟩ : ∃ T, T = tSized m b s := ⟨_, rfl⟩
    rw [← hT] at k5 ⊢
    have HT := Lib.hid hT
    have HX7C : Hid (T.cnt ≤ 3000000) := Lib.hid (by rw [hT]; exact (step_cnt HLG.out m).1.1)
    have HX7L : Hid (T.lean = true) := Lib.hid (by rw [hT]; exact (step_cnt HLG.out m).1.2)
    clear hT hb2
    go_wp2_with (refine wpList_box15 (t := T) (A := A5) (by rfl) (by rfl) (by rfl) (by rfl) (by rfl) (by rfl) (by rfl) (by rfl) ?_)
    intro w6 hc7 hb2 _ _
    obtain ⟨b7, hb7⟩ : ∃ b7, b7 = w5.heap.size := ⟨_, rfl⟩
    rw [← hb7] at hc7 ⊢
    replace HX3 := Lib.hid (HX3.out.below hb2); replace HX4 := Lib.hid (HX4.out.below hb2); replace hB := hB.trans (hb2.mono hB.size)
    have HX7 : Hid (BoxA w6 b7 T A5) := Lib.hid ⟨hc7, k5.below hb2⟩
    clear hc7 k5 hb2 hb7
    go_wp2_with (refine wpList_load15 (by rfl) (by rfl) (by rfl) HX7.out.1 ?_)
    refine (uStep_any T _ _ HX7C.out HX7L.out HX7.out.tin).mono ?_
    rintro e w7 ⟨x7, rfl, h7, hb2⟩
    obtain ⟨A7, rfl, k7⟩ := h7.tin
    obtain ⟨X, z, hXz⟩ : ∃ X z, (X, z) = T.stepE := ⟨T.stepE.1, T.stepE.2, rfl⟩
    rw [← hXz] at k7 ⊢
    dsimp only at k7 ⊢
    replace HX3 := Lib.hid (HX3.out.below hb2); replace HX4 := Lib.hid (HX4.out.below hb2); replace hB := hB.trans (hb2.mono hB.size)
    replace HX7 := Lib.hid (HX7.out.below hb2)
    have HXZ := Lib.hid hXz
    clear hb2 h7 hXz
    go_wp2_with (refine wpList_box15 (t := X) (A := A7) (by rfl) (by rfl) (by rfl) (by rfl) (by rfl) (by rfl) (by rfl) (by rfl) ?_)
    intro w6' hc8 hb2 _ _
    obtain ⟨b8, hb8⟩ : ∃ b8, b8 = w7.heap.size := ⟨_, rfl⟩
    rw [← hb8] at hc8 ⊢
    replace HX3 := Lib.hid (HX3.out.below hb2); replace HX4 := Lib.hid (HX4.out.below hb2); replace hB := hB.trans (hb2.mono hB.size)
    replace HX7 := Lib.hid (HX7.out.below hb2)
    have HX8 : Hid (BoxA w6' b8 X A7) := Lib.hid ⟨hc8, k7.below hb2⟩
    clear hc8 k7 hb2 hb8
    go_wp2_with (refine wpList_load15 (by rfl) (by rfl) (by rfl) HX7.out.1 ?_)
    refine (sound_any T _ _ HX7C.out HX7L.out HX7.out.tin).mono ?_
    rintro e w8 ⟨rfl, hb2⟩
    replace HX3 := Lib.hid (HX3.out.below hb2); replace HX4 := Lib.hid (HX4.out.below hb2); replace hB := hB.trans (hb2.mono hB.size)
    replace HX7 := Lib.hid (HX7.out.below hb2); replace HX8 := Lib.hid (HX8.out.below hb2)
    clear hb2 HX4
    obtain ⟨sd, hsd⟩ : ∃ sd, sd = T.sound := ⟨_, rfl⟩
    rw [← hsd]
    have HSD := Lib.hid hsd; clear hsd
    cases sd
    · as_aux_lemma =>
      obtain ⟨hX, hz⟩ : X = tZero ∧ z = 3 := by have h := HXZ.out; unfold TT.stepE at h; rw [← HSD.out] at h; simpa using h
      subst hX hz
      go_wp2_with (first | refine wpList_load15G (by rfl) (by rfl) (by rfl) HX8.out.1 ?_)
      refine (rtsame_refl tZero _ _ _ HX8.out.tin (tfin_zero _ 0).tin).mono ?_
      rintro e w9 ⟨rfl, hb9⟩
      go_wp2_with fail
      go_ret
      exact ⟨rfl, hB.trans (hb9.mono hB.size)⟩
    · obtain ⟨hX, hz⟩ : X = T.step ∧ z = 0 := by have h := HXZ.out; unfold TT.stepE at h; rw [← HSD.out, if_pos rfl, if_pos (by rw [HT.out]; rfl)] at h; simpa using h
      have hkT : T.kind = 10 := by rw [HT.out]; rfl
      have hl := less_law hkT HSD.out.symm
      have hsx : X = stepX m b s := by rw [hX, HT.out]; exact step_isX HM.out.1 (by rw [← HT.out]; exact (TT.sound_parts HSD.out.symm).1)
      have HX8C : Hid (X.cnt ≤ 3000000) := Lib.hid (by rw [hsx]; exact (step_cnt HLG.out m).2.1)
      have HX8L : Hid (X.lean = true) := Lib.hid (by rw [hsx]; exact (step_cnt HLG.out m).2.2)
      obtain ⟨bx, hbx⟩ : ∃ bx, X.Bulk = bx := ⟨_, rfl⟩
      obtain ⟨hx, hhx⟩ : ∃ hx, X.High = hx := ⟨_, rfl⟩
      have hb4 : bx ≤ 4096 := by rw [← hbx, hX]; have := (TT.sound_parts hl.1); omega
      have HLAW : Hid (X.sound = true ∧ X.Bulk = bx ∧ T.Bulk = bx + 1 ∧ X.High = hx ∧ T.High = hx ∧ X.selfs = 0) := Lib.hid ⟨by rw [hX]; exact hl.1, hbx, by rw [← hbx, hX]; exact hl.2.1.symm, hhx, by rw [← hhx, hX]; exact hl.2.2.1.symm, by rw [hX]; exact hl.2.2.2.1⟩
      have HXB0 : Hid (¬ 0 < m → X = b) := Lib.hid fun h => by rw [hsx, stepX, if_neg h]
      have HQ5 : Hid (w8.cell? ⟨b7, 5, none⟩ = some (.int .i64 m)) := Lib.hid (by
        obtain ⟨_, _, _, _, _, q5, _⟩ := HX7.out.1
        rw [show T.lo = m by rw [HT.out]; rfl] at q5
        exact q5)
      replace HX3 : Hid (BoxT w8 w.heap.size b) := Lib.hid ⟨_, HX3.out⟩
      replace HX7 : Hid (BoxT w8 b7 T) := Lib.hid ⟨_, HX7.out⟩
      replace HX8 : Hid (BoxT w8 b8 X) := Lib.hid ⟨_, HX8.out⟩
      subst hz
      clear hX hkT hl hsx hbx hhx HXZ
      by_cases h0 : 0 < m
      · as_aux_lemma =>
        have HG : Hid (decide (0 < m) = true) := Lib.hid (decide_eq_true h0)
        clear h0
        go_wp2_with fail
        have HBV := Lib.hid (fun W (h : Below w8.drew.heap.size w8.drew W) => (Below.refl _ w8).drew.trans h)
        try simp only [List.append_eq, List.cons_append, List.nil_append]
        refine wp_region_allW (kindT [(40, .fixed (.int .i64 0)), (41, .fixed (.bool true)), (42, .fixed (.bool true)), (43, .term (X)), (44, .fixed (.bool true)), (45, .fixed (.bool true)), (46, .fixed (.bool true)), (47, .term (X)), (48, .fixed (.int .i64 (bx : Int))), (49, .term (T)), (50, .fixed (.int .i64 ((bx : Int) + 1))), (51, .fixed (.int .i64 (bx : Int))), (52, .fixed (.bool true)), (53, .fixed (.bool true)), (54, .fixed (.bool true)), (55, .term (X)), (56, .fixed (.int .i64 (hx : Int))), (57, .term (T)), (58, .fixed (.int .i64 (hx : Int))), (59, .fixed (.bool true)), (60, .fixed (.bool true)), (61, .fixed (.bool true)), (62, .term (X)), (63, .fixed (.int .i64 0)), (64, .fixed (.bool true)), (65, .fixed (.bool true)), (66, .fixed (.bool true)), (67, .fixed (.pointer (some ⟨b7, 5, none⟩))), (68, .fixed (.int .i64 m)), (69, .fixed (.bool true)), (70, .fixed (.bool true)), (71, .fixed undef), (72, .fixed undef), (73, .fixed undef), (74, .fixed (.bool true)), (75, .fixed (.bool true)), (6, .fixed (.bool true))]) 76 (by kernel_rfl) (by kernel_rfl) (by rfl) (kindT_mono _) ?_ ?_
        · as_aux_lemma =>
          show ∀ o ∈ [(0, _), (1, _), (2, _), (3, _), (4, _), (5, _), (6, _), (7, _), (8, _), (9, _), (10, _), (11, _), (12, _), (13, _), (14, _), (15, _), (16, _), (17, _), (18, _), (19, _), (20, _), (21, _), (22, _), (23, _), (24, _), (25, _), (26, _), (27, _), (28, _), (29, _), (30, _), (31, _), (32, _), (33, _), (34, _), (35, _), (36, _)], _
          refine (tfm ?_ (tfm ?_ (tfm ?_ (tfm ?_ (tfm ?_ (tfm ?_ (tfm ?_ (tfm ?_ (tfm ?_ (tfm ?_ (tfm ?_ (tfm ?_ (tfm ?_ (tfm ?_ (tfm ?_ (tfm ?_ (tfm ?_ (tfm ?_ (tfm ?_ (tfm ?_ (tfm ?_ (tfm ?_ (tfm ?_ (tfm ?_ (tfm ?_ (tfm ?_ (tfm ?_ (tfm ?_ (tfm ?_ (tfm ?_ (tfm ?_ (tfm ?_ (tfm ?_ (tfm ?_ (tfm ?_ (tfm ?_ (tfm ?_ tfmnil)))))))))))))))))))))))))))))))))))))
          · intro r W hc hf hs hd hB
            have hBV := HBV.out W hB
            refine want_n rfl ?_
            have e : r (.tmp 9) = .int .i64 0 := hs 9 (by kernel_rfl)
            exact st_value (v := .int .i64 0) rfl (by decide) (by go_simp) rfl
          · intro r W hc hf hs hd hB
            have hBV := HBV.out W hB
            refine want_n rfl ?_
            have e40 : r (.tmp 40) = .int .i64 0 := hd 40 (by kernel_rfl)
            exact st_value (v := .bool true) rfl (by decide) (by go_simp) rfl
          · intro r W hc hf hs hd hB
            have hBV := HBV.out W hB
            refine want_n rfl ?_
            have e : r (.tmp 41) = .bool true := hd 41 (by kernel_rfl)
            exact st_value (v := .bool true) rfl (by decide) (by go_simp) rfl
          · intro r W hc hf hs hd hB
            have hBV := HBV.out W hB
            refine want_g 2 42 rfl (by kernel_rfl) (hd 42 (by kernel_rfl) : r (.tmp 42) = .bool true) ?_
            have e : r (.tmp 8) = .pointer (some ⟨b8, 0, none⟩) := hs 8 (by kernel_rfl)
            obtain ⟨A, hcl, hok⟩ := BoxT.below HX8.out hBV
            exact st_value (v := TT.val (X) A) rfl (by decide) (run_load15 hcl rfl e) ⟨A, rfl, hok⟩
          · intro r W hc hf hs hd hB
            have hBV := HBV.out W hB
            refine want_g 2 42 rfl (by kernel_rfl) (hd 42 (by kernel_rfl) : r (.tmp 42) = .bool true) ?_
            have h43 : TIn W (X) (r (.tmp 43)) := hd 43 (by kernel_rfl)
            exact st_call (f := 35) (args := #[r (.tmp 43)]) rfl (by decide) (by go_simp) (made_fix (by rw [HLAW.out.1]) (sound_any X _ W HX8C.out HX8L.out h43))
          · intro r W hc hf hs hd hB
            have hBV := HBV.out W hB
            refine want_n rfl ?_
            have e42 : r (.tmp 42) = .bool true := hd 42 (by kernel_rfl)
            have e44 : r (.tmp 44) = .bool true := hd 44 (by kernel_rfl)
            exact st_value (v := .bool true) rfl (by decide) (by go_simp) rfl
          · intro r W hc hf hs hd hB
            have hBV := HBV.out W hB
            refine want_n rfl ?_
            have e : r (.tmp 45) = .bool true := hd 45 (by kernel_rfl)
            exact st_value (v := .bool true) rfl (by decide) (by go_simp) rfl
          · intro r W hc hf hs hd hB
            have hBV := HBV.out W hB
            refine want_g 6 46 rfl (by kernel_rfl) (hd 46 (by kernel_rfl) : r (.tmp 46) = .bool true) ?_
            have e : r (.tmp 8) = .pointer (some ⟨b8, 0, none⟩) := hs 8 (by kernel_rfl)
            obtain ⟨A, hcl, hok⟩ := BoxT.below HX8.out hBV
            exact st_value (v := TT.val (X) A) rfl (by decide) (run_load15 hcl rfl e) ⟨A, rfl, hok⟩
          · intro r W hc hf hs hd hB
            have hBV := HBV.out W hB
            refine want_g 6 46 rfl (by kernel_rfl) (hd 46 (by kernel_rfl) : r (.tmp 46) = .bool true) ?_
            have h47 : TIn W (X) (r (.tmp 47)) := hd 47 (by kernel_rfl)
            exact st_call (f := 36) (args := #[r (.tmp 47)]) rfl (by decide) (by go_simp) (made_fix (by rw [HLAW.out.2.1]) (tbulk_any X _ W HX8C.out HX8L.out h47))
          · intro r W hc hf hs hd hB
            have hBV := HBV.out W hB
            refine want_g 6 46 rfl (by kernel_rfl) (hd 46 (by kernel_rfl) : r (.tmp 46) = .bool true) ?_
            have e : r (.tmp 7) = .pointer (some ⟨b7, 0, none⟩) := hs 7 (by kernel_rfl)
            obtain ⟨A, hcl, hok⟩ := BoxT.below HX7.out hBV
            exact st_value (v := TT.val (T) A) rfl (by decide) (run_load15 hcl rfl e) ⟨A, rfl, hok⟩
          · intro r W hc hf hs hd hB
            have hBV := HBV.out W hB
            refine want_g 6 46 rfl (by kernel_rfl) (hd 46 (by kernel_rfl) : r (.tmp 46) = .bool true) ?_
            have h49 : TIn W (T) (r (.tmp 49)) := hd 49 (by kernel_rfl)
            exact st_call (f := 36) (args := #[r (.tmp 49)]) rfl (by decide) (by go_simp) (made_fix (by rw [HLAW.out.2.2.1]; rfl) (tbulk_any T _ W HX7C.out HX7L.out h49))
          · intro r W hc hf hs hd hB
            have hBV := HBV.out W hB
            refine want_g 6 46 rfl (by kernel_rfl) (hd 46 (by kernel_rfl) : r (.tmp 46) = .bool true) ?_
            have e50 : r (.tmp 50) = .int .i64 ((bx : Int) + 1) := hd 50 (by kernel_rfl)
            exact st_value (v := .int .i64 (bx : Int)) rfl (by decide) (by go_simp <;> (rw [IntKind.wrap_i64]; omega)) rfl
          · intro r W hc hf hs hd hB
            have hBV := HBV.out W hB
            refine want_g 6 46 rfl (by kernel_rfl) (hd 46 (by kernel_rfl) : r (.tmp 46) = .bool true) ?_
            have e48 : r (.tmp 48) = .int .i64 (bx : Int) := hd 48 (by kernel_rfl)
            have e51 : r (.tmp 51) = .int .i64 (bx : Int) := hd 51 (by kernel_rfl)
            exact st_value (v := .bool true) rfl (by decide) (by go_simp) rfl
          · intro r W hc hf hs hd hB
            have hBV := HBV.out W hB
            refine want_n rfl ?_
            have e46 : r (.tmp 46) = .bool true := hd 46 (by kernel_rfl)
            have e52 : r (.tmp 52) = .bool true := hd 52 (by kernel_rfl)
            exact st_value (v := .bool true) rfl (by decide) (by go_simp) rfl
          · intro r W hc hf hs hd hB
            have hBV := HBV.out W hB
            refine want_n rfl ?_
            have e : r (.tmp 53) = .bool true := hd 53 (by kernel_rfl)
            exact st_value (v := .bool true) rfl (by decide) (by go_simp) rfl
          · intro r W hc hf hs hd hB
            have hBV := HBV.out W hB
            refine want_g 14 54 rfl (by kernel_rfl) (hd 54 (by kernel_rfl) : r (.tmp 54) = .bool true) ?_
            have e : r (.tmp 8) = .pointer (some ⟨b8, 0, none⟩) := hs 8 (by kernel_rfl)
            obtain ⟨A, hcl, hok⟩ := BoxT.below HX8.out hBV
            exact st_value (v := TT.val (X) A) rfl (by decide) (run_load15 hcl rfl e) ⟨A, rfl, hok⟩
          · intro r W hc hf hs hd hB
            have hBV := HBV.out W hB
            refine want_g 14 54 rfl (by kernel_rfl) (hd 54 (by kernel_rfl) : r (.tmp 54) = .bool true) ?_
            have h55 : TIn W (X) (r (.tmp 55)) := hd 55 (by kernel_rfl)
            exact st_call (f := 37) (args := #[r (.tmp 55)]) rfl (by decide) (by go_simp) (made_fix (by rw [HLAW.out.2.2.2.1]) (thigh_any X _ W HX8C.out HX8L.out h55))
          · intro r W hc hf hs hd hB
            have hBV := HBV.out W hB
            refine want_g 14 54 rfl (by kernel_rfl) (hd 54 (by kernel_rfl) : r (.tmp 54) = .bool true) ?_
            have e : r (.tmp 7) = .pointer (some ⟨b7, 0, none⟩) := hs 7 (by kernel_rfl)
            obtain ⟨A, hcl, hok⟩ := BoxT.below HX7.out hBV
            exact st_value (v := TT.val (T) A) rfl (by decide) (run_load15 hcl rfl e) ⟨A, rfl, hok⟩
          · intro r W hc hf hs hd hB
            have hBV := HBV.out W hB
            refine want_g 14 54 rfl (by kernel_rfl) (hd 54 (by kernel_rfl) : r (.tmp 54) = .bool true) ?_
            have h57 : TIn W (T) (r (.tmp 57)) := hd 57 (by kernel_rfl)
            exact st_call (f := 37) (args := #[r (.tmp 57)]) rfl (by decide) (by go_simp) (made_fix (by rw [HLAW.out.2.2.2.2.1]) (thigh_any T _ W HX7C.out HX7L.out h57))
          · intro r W hc hf hs hd hB
            have hBV := HBV.out W hB
            refine want_g 14 54 rfl (by kernel_rfl) (hd 54 (by kernel_rfl) : r (.tmp 54) = .bool true) ?_
            have e56 : r (.tmp 56) = .int .i64 (hx : Int) := hd 56 (by kernel_rfl)
            have e58 : r (.tmp 58) = .int .i64 (hx : Int) := hd 58 (by kernel_rfl)
            exact st_value (v := .bool true) rfl (by decide) (by go_simp) rfl
          · intro r W hc hf hs hd hB
            have hBV := HBV.out W hB
            refine want_n rfl ?_
            have e54 : r (.tmp 54) = .bool true := hd 54 (by kernel_rfl)
            have e59 : r (.tmp 59) = .bool true := hd 59 (by kernel_rfl)
            exact st_value (v := .bool true) rfl (by decide) (by go_simp) rfl
          · intro r W hc hf hs hd hB
            have hBV := HBV.out W hB
            refine want_n rfl ?_
            have e : r (.tmp 60) = .bool true := hd 60 (by kernel_rfl)
            exact st_value (v := .bool true) rfl (by decide) (by go_simp) rfl
          · intro r W hc hf hs hd hB
            have hBV := HBV.out W hB
            refine want_g 21 61 rfl (by kernel_rfl) (hd 61 (by kernel_rfl) : r (.tmp 61) = .bool true) ?_
            have e : r (.tmp 8) = .pointer (some ⟨b8, 0, none⟩) := hs 8 (by kernel_rfl)
            obtain ⟨A, hcl, hok⟩ := BoxT.below HX8.out hBV
            exact st_value (v := TT.val (X) A) rfl (by decide) (run_load15 hcl rfl e) ⟨A, rfl, hok⟩
          · intro r W hc hf hs hd hB
            have hBV := HBV.out W hB
            refine want_g 21 61 rfl (by kernel_rfl) (hd 61 (by kernel_rfl) : r (.tmp 61) = .bool true) ?_
            have h62 : TIn W (X) (r (.tmp 62)) := hd 62 (by kernel_rfl)
            exact st_call (f := 38) (args := #[r (.tmp 62)]) rfl (by decide) (by go_simp) (made_fix (by rw [HLAW.out.2.2.2.2.2]; rfl) (uselfs_any 3000000 (by decide) X _ W HX8C.out h62))
          · intro r W hc hf hs hd hB
            have hBV := HBV.out W hB
            refine want_g 21 61 rfl (by kernel_rfl) (hd 61 (by kernel_rfl) : r (.tmp 61) = .bool true) ?_
            have e63 : r (.tmp 63) = .int .i64 0 := hd 63 (by kernel_rfl)
            exact st_value (v := .bool true) rfl (by decide) (by go_simp) rfl
          · intro r W hc hf hs hd hB
            have hBV := HBV.out W hB
            refine want_n rfl ?_
            have e61 : r (.tmp 61) = .bool true := hd 61 (by kernel_rfl)
            have e64 : r (.tmp 64) = .bool true := hd 64 (by kernel_rfl)
            exact st_value (v := .bool true) rfl (by decide) (by go_simp) rfl
          · intro r W hc hf hs hd hB
            have hBV := HBV.out W hB
            refine want_n rfl ?_
            have e : r (.tmp 65) = .bool true := hd 65 (by kernel_rfl)
            exact st_value (v := .bool true) rfl (by decide) (by go_simp) rfl
          · intro r W hc hf hs hd hB
            have hBV := HBV.out W hB
            refine want_g 26 66 rfl (by kernel_rfl) (hd 66 (by kernel_rfl) : r (.tmp 66) = .bool true) ?_
            have e : r (.tmp 7) = .pointer (some ⟨b7, 0, none⟩) := hs 7 (by kernel_rfl)
            exact st_value (v := .pointer (some ⟨b7, 5, none⟩)) rfl (by decide) (by go_simp) rfl
          · intro r W hc hf hs hd hB
            have hBV := HBV.out W hB
            refine want_g 26 66 rfl (by kernel_rfl) (hd 66 (by kernel_rfl) : r (.tmp 66) = .bool true) ?_
            have e : r (.tmp 67) = .pointer (some ⟨b7, 5, none⟩) := hd 67 (by kernel_rfl)
            have g := cell_stays hBV HQ5.out
            exact st_value (v := .int .i64 m) rfl (by decide) (by go_simp) rfl
          · intro r W hc hf hs hd hB
            have hBV := HBV.out W hB
            refine want_g 26 66 rfl (by kernel_rfl) (hd 66 (by kernel_rfl) : r (.tmp 66) = .bool true) ?_
            have e : r (.tmp 68) = .int .i64 m := hd 68 (by kernel_rfl)
            have hg := HG.out
            exact st_value (v := .bool true) rfl (by decide) (by go_simp) rfl
          · intro r W hc hf hs hd hB
            have hBV := HBV.out W hB
            refine want_g 26 66 rfl (by kernel_rfl) (hd 66 (by kernel_rfl) : r (.tmp 66) = .bool true) ?_
            have e : r (.tmp 69) = .bool true := hd 69 (by kernel_rfl)
            exact st_value (v := .bool true) rfl (by decide) (by go_simp) rfl
          · intro r W hc hf hs hd hB
            exact want_not 30 70 rfl (by kernel_rfl) (hd 70 (by kernel_rfl)) (fun d e => by cases e; exact ⟨rfl, by simp⟩)
          · intro r W hc hf hs hd hB
            exact want_not 30 70 rfl (by kernel_rfl) (hd 70 (by kernel_rfl)) (fun d e => by cases e; exact ⟨rfl, by simp⟩)
          · intro r W hc hf hs hd hB
            exact want_not 30 70 rfl (by kernel_rfl) (hd 70 (by kernel_rfl)) (fun d e => by cases e; exact ⟨rfl, by simp⟩)
          · intro r W hc hf hs hd hB
            have hBV := HBV.out W hB
            refine want_g 26 66 rfl (by kernel_rfl) (hd 66 (by kernel_rfl) : r (.tmp 66) = .bool true) ?_
            have e70 : r (.tmp 70) = .bool true := hd 70 (by kernel_rfl)
            have e73 : r (.tmp 73) = undef := hd 73 (by kernel_rfl)
            exact st_value (v := .bool true) rfl (by decide) (by go_simp) rfl
          · intro r W hc hf hs hd hB
            have hBV := HBV.out W hB
            refine want_n rfl ?_
            have e66 : r (.tmp 66) = .bool true := hd 66 (by kernel_rfl)
            have e74 : r (.tmp 74) = .bool true := hd 74 (by kernel_rfl)
            exact st_value (v := .bool true) rfl (by decide) (by go_simp) rfl
          · intro r W hc hf hs hd hB
            have hBV := HBV.out W hB
            refine want_n rfl ?_
            have e : r (.tmp 75) = .bool true := hd 75 (by kernel_rfl)
            exact st_value (v := .bool true) rfl (by decide) (by go_simp) rfl
        intro f w9 hfd hB'
        have z6 : f 6 = .bool true := hfd 6 (of_decide_eq_true (by kernel_rfl))
        have hbR := HBV.out w9 hB'
        rw [show dstsTo _ _ = [40, 41, 42, 43, 44, 45, 46, 47, 48, 49, 50, 51, 52, 53, 54, 55, 56, 57, 58, 59, 60, 61, 62, 63, 64, 65, 66, 67, 68, 69, 70, 71, 72, 73, 74, 75, 6] from by kernel_rfl]
        simp only [fill, List.setIfInBounds_toArray, List.set_cons_succ, List.set_cons_zero, z6]
        clear hfd hB' HBV z6
        go_wp2_with fail
        go_ret
        exact ⟨rfl, hB.trans (hbR.mono hB.size)⟩
      · as_aux_lemma =>
        have HG : Hid (decide (0 < m) = false) := Lib.hid (decide_eq_false h0)
        have HXB := Lib.hid (HXB0.out h0)
        clear h0
        go_wp2_with fail
        have HBV := Lib.hid (fun W (h : Below w8.drew.heap.size w8.drew W) => (Below.refl _ w8).drew.trans h)
        try simp only [List.append_eq, List.cons_append, List.nil_append]
        refine wp_region_allW (kindT [(40, .fixed (.int .i64 0)), (41, .fixed (.bool true)), (42, .fixed (.bool true)), (43, .term (X)), (44, .fixed (.bool true)), (45, .fixed (.bool true)), (46, .fixed (.bool true)), (47, .term (X)), (48, .fixed (.int .i64 (bx : Int))), (49, .term (T)), (50, .fixed (.int .i64 ((bx : Int) + 1))), (51, .fixed (.int .i64 (bx : Int))), (52, .fixed (.bool true)), (53, .fixed (.bool true)), (54, .fixed (.bool true)), (55, .term (X)), (56, .fixed (.int .i64 (hx : Int))), (57, .term (T)), (58, .fixed (.int .i64 (hx : Int))), (59, .fixed (.bool true)), (60, .fixed (.bool true)), (61, .fixed (.bool true)), (62, .term (X)), (63, .fixed (.int .i64 0)), (64, .fixed (.bool true)), (65, .fixed (.bool true)), (66, .fixed (.bool true)), (67, .fixed (.pointer (some ⟨b7, 5, none⟩))), (68, .fixed (.int .i64 m)), (69, .fixed (.bool false)), (70, .fixed (.bool false)), (71, .term (X)), (72, .term (b)), (73, .fixed (.bool true)), (74, .fixed (.bool true)), (75, .fixed (.bool true)), (6, .fixed (.bool true))]) 76 (by kernel_rfl) (by kernel_rfl) (by rfl) (kindT_mono _) ?_ ?_
        · as_aux_lemma =>
          show ∀ o ∈ [(0, _), (1, _), (2, _), (3, _), (4, _), (5, _), (6, _), (7, _), (8, _), (9, _), (10, _), (11, _), (12, _), (13, _), (14, _), (15, _), (16, _), (17, _), (18, _), (19, _), (20, _), (21, _), (22, _), (23, _), (24, _), (25, _), (26, _), (27, _), (28, _), (29, _), (30, _), (31, _), (32, _), (33, _), (34, _), (35, _), (36, _)], _
          refine (tfm ?_ (tfm ?_ (tfm ?_ (tfm ?_ (tfm ?_ (tfm ?_ (tfm ?_ (tfm ?_ (tfm ?_ (tfm ?_ (tfm ?_ (tfm ?_ (tfm ?_ (tfm ?_ (tfm ?_ (tfm ?_ (tfm ?_ (tfm ?_ (tfm ?_ (tfm ?_ (tfm ?_ (tfm ?_ (tfm ?_ (tfm ?_ (tfm ?_ (tfm ?_ (tfm ?_ (tfm ?_ (tfm ?_ (tfm ?_ (tfm ?_ (tfm ?_ (tfm ?_ (tfm ?_ (tfm ?_ (tfm ?_ (tfm ?_ tfmnil)))))))))))))))))))))))))))))))))))))
          · intro r W hc hf hs hd hB
            have hBV := HBV.out W hB
            refine want_n rfl ?_
            have e : r (.tmp 9) = .int .i64 0 := hs 9 (by kernel_rfl)
            exact st_value (v := .int .i64 0) rfl (by decide) (by go_simp) rfl
          · intro r W hc hf hs hd hB
            have hBV := HBV.out W hB
            refine want_n rfl ?_
            have e40 : r (.tmp 40) = .int .i64 0 := hd 40 (by kernel_rfl)
            exact st_value (v := .bool true) rfl (by decide) (by go_simp) rfl
          · intro r W hc hf hs hd hB
            have hBV := HBV.out W hB
            refine want_n rfl ?_
            have e : r (.tmp 41) = .bool true := hd 41 (by kernel_rfl)
            exact st_value (v := .bool true) rfl (by decide) (by go_simp) rfl
          · intro r W hc hf hs hd hB
            have hBV := HBV.out W hB
            refine want_g 2 42 rfl (by kernel_rfl) (hd 42 (by kernel_rfl) : r (.tmp 42) = .bool true) ?_
            have e : r (.tmp 8) = .pointer (some ⟨b8, 0, none⟩) := hs 8 (by kernel_rfl)
            obtain ⟨A, hcl, hok⟩ := BoxT.below HX8.out hBV
            exact st_value (v := TT.val (X) A) rfl (by decide) (run_load15 hcl rfl e) ⟨A, rfl, hok⟩
          · intro r W hc hf hs hd hB
            have hBV := HBV.out W hB
            refine want_g 2 42 rfl (by kernel_rfl) (hd 42 (by kernel_rfl) : r (.tmp 42) = .bool true) ?_
            have h43 : TIn W (X) (r (.tmp 43)) := hd 43 (by kernel_rfl)
            exact st_call (f := 35) (args := #[r (.tmp 43)]) rfl (by decide) (by go_simp) (made_fix (by rw [HLAW.out.1]) (sound_any X _ W HX8C.out HX8L.out h43))
          · intro r W hc hf hs hd hB
            have hBV := HBV.out W hB
            refine want_n rfl ?_
            have e42 : r (.tmp 42) = .bool true := hd 42 (by kernel_rfl)
            have e44 : r (.tmp 44) = .bool true := hd 44 (by kernel_rfl)
            exact st_value (v := .bool true) rfl (by decide) (by go_simp) rfl
          · intro r W hc hf hs hd hB
            have hBV := HBV.out W hB
            refine want_n rfl ?_
            have e : r (.tmp 45) = .bool true := hd 45 (by kernel_rfl)
            exact st_value (v := .bool true) rfl (by decide) (by go_simp) rfl
          · intro r W hc hf hs hd hB
            have hBV := HBV.out W hB
            refine want_g 6 46 rfl (by kernel_rfl) (hd 46 (by kernel_rfl) : r (.tmp 46) = .bool true) ?_
            have e : r (.tmp 8) = .pointer (some ⟨b8, 0, none⟩) := hs 8 (by kernel_rfl)
            obtain ⟨A, hcl, hok⟩ := BoxT.below HX8.out hBV
            exact st_value (v := TT.val (X) A) rfl (by decide) (run_load15 hcl rfl e) ⟨A, rfl, hok⟩
          · intro r W hc hf hs hd hB
            have hBV := HBV.out W hB
            refine want_g 6 46 rfl (by kernel_rfl) (hd 46 (by kernel_rfl) : r (.tmp 46) = .bool true) ?_
            have h47 : TIn W (X) (r (.tmp 47)) := hd 47 (by kernel_rfl)
            exact st_call (f := 36) (args := #[r (.tmp 47)]) rfl (by decide) (by go_simp) (made_fix (by rw [HLAW.out.2.1]) (tbulk_any X _ W HX8C.out HX8L.out h47))
          · intro r W hc hf hs hd hB
            have hBV := HBV.out W hB
            refine want_g 6 46 rfl (by kernel_rfl) (hd 46 (by kernel_rfl) : r (.tmp 46) = .bool true) ?_
            have e : r (.tmp 7) = .pointer (some ⟨b7, 0, none⟩) := hs 7 (by kernel_rfl)
            obtain ⟨A, hcl, hok⟩ := BoxT.below HX7.out hBV
            exact st_value (v := TT.val (T) A) rfl (by decide) (run_load15 hcl rfl e) ⟨A, rfl, hok⟩
          · intro r W hc hf hs hd hB
            have hBV := HBV.out W hB
            refine want_g 6 46 rfl (by kernel_rfl) (hd 46 (by kernel_rfl) : r (.tmp 46) = .bool true) ?_
            have h49 : TIn W (T) (r (.tmp 49)) := hd 49 (by kernel_rfl)
            exact st_call (f := 36) (args := #[r (.tmp 49)]) rfl (by decide) (by go_simp) (made_fix (by rw [HLAW.out.2.2.1]; rfl) (tbulk_any T _ W HX7C.out HX7L.out h49))
          · intro r W hc hf hs hd hB
            have hBV := HBV.out W hB
            refine want_g 6 46 rfl (by kernel_rfl) (hd 46 (by kernel_rfl) : r (.tmp 46) = .bool true) ?_
            have e50 : r (.tmp 50) = .int .i64 ((bx : Int) + 1) := hd 50 (by kernel_rfl)
            exact st_value (v := .int .i64 (bx : Int)) rfl (by decide) (by go_simp <;> (rw [IntKind.wrap_i64]; omega)) rfl
          · intro r W hc hf hs hd hB
            have hBV := HBV.out W hB
            refine want_g 6 46 rfl (by kernel_rfl) (hd 46 (by kernel_rfl) : r (.tmp 46) = .bool true) ?_
            have e48 : r (.tmp 48) = .int .i64 (bx : Int) := hd 48 (by kernel_rfl)
            have e51 : r (.tmp 51) = .int .i64 (bx : Int) := hd 51 (by kernel_rfl)
            exact st_value (v := .bool true) rfl (by decide) (by go_simp) rfl
          · intro r W hc hf hs hd hB
            have hBV := HBV.out W hB
            refine want_n rfl ?_
            have e46 : r (.tmp 46) = .bool true := hd 46 (by kernel_rfl)
            have e52 : r (.tmp 52) = .bool true := hd 52 (by kernel_rfl)
            exact st_value (v := .bool true) rfl (by decide) (by go_simp) rfl
          · intro r W hc hf hs hd hB
            have hBV := HBV.out W hB
            refine want_n rfl ?_
            have e : r (.tmp 53) = .bool true := hd 53 (by kernel_rfl)
            exact st_value (v := .bool true) rfl (by decide) (by go_simp) rfl
          · intro r W hc hf hs hd hB
            have hBV := HBV.out W hB
            refine want_g 14 54 rfl (by kernel_rfl) (hd 54 (by kernel_rfl) : r (.tmp 54) = .bool true) ?_
            have e : r (.tmp 8) = .pointer (some ⟨b8, 0, none⟩) := hs 8 (by kernel_rfl)
            obtain ⟨A, hcl, hok⟩ := BoxT.below HX8.out hBV
            exact st_value (v := TT.val (X) A) rfl (by decide) (run_load15 hcl rfl e) ⟨A, rfl, hok⟩
          · intro r W hc hf hs hd hB
            have hBV := HBV.out W hB
            refine want_g 14 54 rfl (by kernel_rfl) (hd 54 (by kernel_rfl) : r (.tmp 54) = .bool true) ?_
            have h55 : TIn W (X) (r (.tmp 55)) := hd 55 (by kernel_rfl)
            exact st_call (f := 37) (args := #[r (.tmp 55)]) rfl (by decide) (by go_simp) (made_fix (by rw [HLAW.out.2.2.2.1]) (thigh_any X _ W HX8C.out HX8L.out h55))
          · intro r W hc hf hs hd hB
            have hBV := HBV.out W hB
            refine want_g 14 54 rfl (by kernel_rfl) (hd 54 (by kernel_rfl) : r (.tmp 54) = .bool true) ?_
            have e : r (.tmp 7) = .pointer (some ⟨b7, 0, none⟩) := hs 7 (by kernel_rfl)
            obtain ⟨A, hcl, hok⟩ := BoxT.below HX7.out hBV
            exact st_value (v := TT.val (T) A) rfl (by decide) (run_load15 hcl rfl e) ⟨A, rfl, hok⟩
          · intro r W hc hf hs hd hB
            have hBV := HBV.out W hB
            refine want_g 14 54 rfl (by kernel_rfl) (hd 54 (by kernel_rfl) : r (.tmp 54) = .bool true) ?_
            have h57 : TIn W (T) (r (.tmp 57)) := hd 57 (by kernel_rfl)
            exact st_call (f := 37) (args := #[r (.tmp 57)]) rfl (by decide) (by go_simp) (made_fix (by rw [HLAW.out.2.2.2.2.1]) (thigh_any T _ W HX7C.out HX7L.out h57))
          · intro r W hc hf hs hd hB
            have hBV := HBV.out W hB
            refine want_g 14 54 rfl (by kernel_rfl) (hd 54 (by kernel_rfl) : r (.tmp 54) = .bool true) ?_
            have e56 : r (.tmp 56) = .int .i64 (hx : Int) := hd 56 (by kernel_rfl)
            have e58 : r (.tmp 58) = .int .i64 (hx : Int) := hd 58 (by kernel_rfl)
            exact st_value (v := .bool true) rfl (by decide) (by go_simp) rfl
          · intro r W hc hf hs hd hB
            have hBV := HBV.out W hB
            refine want_n rfl ?_
            have e54 : r (.tmp 54) = .bool true := hd 54 (by kernel_rfl)
            have e59 : r (.tmp 59) = .bool true := hd 59 (by kernel_rfl)
            exact st_value (v := .bool true) rfl (by decide) (by go_simp) rfl
          · intro r W hc hf hs hd hB
            have hBV := HBV.out W hB
            refine want_n rfl ?_
            have e : r (.tmp 60) = .bool true := hd 60 (by kernel_rfl)
            exact st_value (v := .bool true) rfl (by decide) (by go_simp) rfl
          · intro r W hc hf hs hd hB
            have hBV := HBV.out W hB
            refine want_g 21 61 rfl (by kernel_rfl) (hd 61 (by kernel_rfl) : r (.tmp 61) = .bool true) ?_
            have e : r (.tmp 8) = .pointer (some ⟨b8, 0, none⟩) := hs 8 (by kernel_rfl)
            obtain ⟨A, hcl, hok⟩ := BoxT.below HX8.out hBV
            exact st_value (v := TT.val (X) A) rfl (by decide) (run_load15 hcl rfl e) ⟨A, rfl, hok⟩
          · intro r W hc hf hs hd hB
            have hBV := HBV.out W hB
            refine want_g 21 61 rfl (by kernel_rfl) (hd 61 (by kernel_rfl) : r (.tmp 61) = .bool true) ?_
            have h62 : TIn W (X) (r (.tmp 62)) := hd 62 (by kernel_rfl)
            exact st_call (f := 38) (args := #[r (.tmp 62)]) rfl (by decide) (by go_simp) (made_fix (by rw [HLAW.out.2.2.2.2.2]; rfl) (uselfs_any 3000000 (by decide) X _ W HX8C.out h62))
          · intro r W hc hf hs hd hB
            have hBV := HBV.out W hB
            refine want_g 21 61 rfl (by kernel_rfl) (hd 61 (by kernel_rfl) : r (.tmp 61) = .bool true) ?_
            have e63 : r (.tmp 63) = .int .i64 0 := hd 63 (by kernel_rfl)
            exact st_value (v := .bool true) rfl (by decide) (by go_simp) rfl
          · intro r W hc hf hs hd hB
            have hBV := HBV.out W hB
            refine want_n rfl ?_
            have e61 : r (.tmp 61) = .bool true := hd 61 (by kernel_rfl)
            have e64 : r (.tmp 64) = .bool true := hd 64 (by kernel_rfl)
            exact st_value (v := .bool true) rfl (by decide) (by go_simp) rfl
          · intro r W hc hf hs hd hB
            have hBV := HBV.out W hB
            refine want_n rfl ?_
            have e : r (.tmp 65) = .bool true := hd 65 (by kernel_rfl)
            exact st_value (v := .bool true) rfl (by decide) (by go_simp) rfl
          · intro r W hc hf hs hd hB
            have hBV := HBV.out W hB
            refine want_g 26 66 rfl (by kernel_rfl) (hd 66 (by kernel_rfl) : r (.tmp 66) = .bool true) ?_
            have e : r (.tmp 7) = .pointer (some ⟨b7, 0, none⟩) := hs 7 (by kernel_rfl)
            exact st_value (v := .pointer (some ⟨b7, 5, none⟩)) rfl (by decide) (by go_simp) rfl
          · intro r W hc hf hs hd hB
            have hBV := HBV.out W hB
            refine want_g 26 66 rfl (by kernel_rfl) (hd 66 (by kernel_rfl) : r (.tmp 66) = .bool true) ?_
            have e : r (.tmp 67) = .pointer (some ⟨b7, 5, none⟩) := hd 67 (by kernel_rfl)
            have g := cell_stays hBV HQ5.out
            exact st_value (v := .int .i64 m) rfl (by decide) (by go_simp) rfl
          · intro r W hc hf hs hd hB
            have hBV := HBV.out W hB
            refine want_g 26 66 rfl (by kernel_rfl) (hd 66 (by kernel_rfl) : r (.tmp 66) = .bool true) ?_
            have e : r (.tmp 68) = .int .i64 m := hd 68 (by kernel_rfl)
            have hg := HG.out
            exact st_value (v := .bool false) rfl (by decide) (by go_simp) rfl
          · intro r W hc hf hs hd hB
            have hBV := HBV.out W hB
            refine want_g 26 66 rfl (by kernel_rfl) (hd 66 (by kernel_rfl) : r (.tmp 66) = .bool true) ?_
            have e : r (.tmp 69) = .bool false := hd 69 (by kernel_rfl)
            exact st_value (v := .bool false) rfl (by decide) (by go_simp) rfl
          · intro r W hc hf hs hd hB
            have hBV := HBV.out W hB
            refine want_g 30 70 rfl (by kernel_rfl) (hd 70 (by kernel_rfl) : r (.tmp 70) = .bool false) ?_
            have e : r (.tmp 8) = .pointer (some ⟨b8, 0, none⟩) := hs 8 (by kernel_rfl)
            obtain ⟨A, hcl, hok⟩ := BoxT.below HX8.out hBV
            exact st_value (v := TT.val (X) A) rfl (by decide) (run_load15 hcl rfl e) ⟨A, rfl, hok⟩
          · intro r W hc hf hs hd hB
            have hBV := HBV.out W hB
            refine want_g 30 70 rfl (by kernel_rfl) (hd 70 (by kernel_rfl) : r (.tmp 70) = .bool false) ?_
            have e : r (.tmp 3) = .pointer (some ⟨w.heap.size, 0, none⟩) := hs 3 (by kernel_rfl)
            obtain ⟨A, hcl, hok⟩ := BoxT.below HX3.out hBV
            exact st_value (v := TT.val (b) A) rfl (by decide) (run_load15 hcl rfl e) ⟨A, rfl, hok⟩
          · intro r W hc hf hs hd hB
            have hBV := HBV.out W hB
            refine want_g 30 70 rfl (by kernel_rfl) (hd 70 (by kernel_rfl) : r (.tmp 70) = .bool false) ?_
            have h71 : TIn W (X) (r (.tmp 71)) := hd 71 (by kernel_rfl)
            have h72 : TIn W (b) (r (.tmp 72)) := hd 72 (by kernel_rfl)
            exact st_call (f := 31) (args := #[r (.tmp 71), r (.tmp 72)]) rfl (by decide) (by go_simp) (made_fix (by rw [HXB.out, TT.same_refl]) (rtsame_any 3000000 X b _ _ W HX8C.out h71 h72))
          · intro r W hc hf hs hd hB
            have hBV := HBV.out W hB
            refine want_g 26 66 rfl (by kernel_rfl) (hd 66 (by kernel_rfl) : r (.tmp 66) = .bool true) ?_
            have e70 : r (.tmp 70) = .bool false := hd 70 (by kernel_rfl)
            have e73 : r (.tmp 73) = .bool true := hd 73 (by kernel_rfl)
            exact st_value (v := .bool true) rfl (by decide) (by go_simp) rfl
          · intro r W hc hf hs hd hB
            have hBV := HBV.out W hB
            refine want_n rfl ?_
            have e66 : r (.tmp 66) = .bool true := hd 66 (by kernel_rfl)
            have e74 : r (.tmp 74) = .bool true := hd 74 (by kernel_rfl)
            exact st_value (v := .bool true) rfl (by decide) (by go_simp) rfl
          · intro r W hc hf hs hd hB
            have hBV := HBV.out W hB
            refine want_n rfl ?_
            have e : r (.tmp 75) = .bool true := hd 75 (by kernel_rfl)
            exact st_value (v := .bool true) rfl (by decide) (by go_simp) rfl
        intro f w9 hfd hB'
        have z6 : f 6 = .bool true := hfd 6 (of_decide_eq_true (by kernel_rfl))
        have hbR := HBV.out w9 hB'
        rw [show dstsTo _ _ = [40, 41, 42, 43, 44, 45, 46, 47, 48, 49, 50, 51, 52, 53, 54, 55, 56, 57, 58, 59, 60, 61, 62, 63, 64, 65, 66, 67, 68, 69, 70, 71, 72, 73, 74, 75, 6] from by kernel_rfl]
        simp only [fill, List.setIfInBounds_toArray, List.set_cons_succ, List.set_cons_zero, z6]
        clear hfd hB' HBV z6
        go_wp2_with fail
        go_ret
        exact ⟨rfl, hB.trans (hbR.mono hB.size)⟩
  · go_wp2_with fail
    refine (uawake_any _).mono ?_
    rintro e w4 ⟨rfl, hb2⟩
    go_wp2_with fail
    go_ret
    exact ⟨rfl, hB.trans (hb2.mono hB.size)⟩
end Go.Proofs.Yteebbffecaeciaa
/- UnfoldLess: the law returns true for all that can be read, and what was handed in reads afterwards as it read before. -/
namespace Go.Proofs.Yteebbffecaeciaa
open Go.ChangeShapes Go.WideShapes Go.ChangeAt Go.RowKit

set_option maxRecDepth 100000 in
theorem unfoldLess_lifted (os : Os) (started : os.Started) (H : Type) (enc : TypeId × Value → H) :
    ReturnsInHanded {} Try.checked os 5 .any (Rows.unfoldLessSpec.pre6 enc Try.prog Try.f5 Rows.unfoldLessRow.domain false) (Rows.unfoldLessSpec.post enc Try.prog Try.f5 false true false false) := by
  refine returnsInHanded_of_change_sized (C := Try.checked) Try.own started (by kernel_rfl) Try.func5
    (ChangeSpec.witness6 (enc := enc) (C := Try.checked) false ⟨#[], #[.agg #[.int .u8 0, .int .u8 0, .int .i64 0, .slice none 0 0, .slice none 0 0, .int .i64 0, .int .i64 0, .slice none 0 0, .int .u8 0, .int .u8 0, .int .i64 0, .slice none 0 0, .int .i64 0, .slice none 0 0, .slice none 0 0], .agg #[.int .u8 0, .int .u8 0, .int .i64 0, .slice none 0 0, .slice none 0 0, .int .i64 0, .int .i64 0, .slice none 0 0, .int .u8 0, .int .u8 0, .int .i64 0, .slice none 0 0, .int .i64 0, .slice none 0 0, .slice none 0 0], .int .u8 0], []⟩ 8 (by kernel_rfl) (by kernel_rfl) (by kernel_rfl) (by kernel_rfl)) ?_
  intro W base args ds gs before hval0 hW hcnd hsz hass
  have hval : ∀ (j : Nat) t v, Try.f5.params[j]? = some t → args[j]? = some v → Value.okWide Try.prog W .any base t v := hval0
  have hW' := hW
  obtain ⟨p, q, hA0, hV, rfl, hfz, hnd⟩ := hW
  have hA : DataW.TrodAll enc Try.prog W 0 (fun _ => true) true Try.f5.params.toList args.toList ds p := hA0
  rw [Try.params5] at hA hval
  obtain ⟨v0, v1, v2, d0, d1, d2, p0, p1, p2, rfl, rfl, rfl, h0, h1, h2⟩ := trodAll_three hA
  obtain ⟨rfl, rfl⟩ := trodVars_none hV
  have hsz' : (DataW.weightsEach Try.prog [47, 47, 5] ([d0, d1, d2] ++ [])).all (· ≤ reachBytes) = true := hsz
  simp only [List.append_nil, DataW.weightsEach, List.all_append, Bool.and_eq_true] at hsz'
  obtain ⟨a0, ha0⟩ := open_term (hval 0 47 v0 rfl rfl) h0 hsz'.1
  obtain ⟨a1, ha1⟩ := open_term (hval 1 47 v1 rfl rfl) h1 hsz'.2.1
  obtain ⟨a2, rfl, la2, ua2⟩ := open_u8 (hval 2 5 v2 rfl rfl)
  refine (unfoldLess_any a0 v0 a1 v1 a2 W ha0 ha1 la2 ua2).mono fun e W' ⟨he, hbw⟩ => ?_
  subst he
  exact ⟨_, rfl, law_post rfl rfl (by rw [Try.params5]; intro t ht; simp at ht; rcases ht with rfl | rfl <;> exact ⟨by kernel_rfl, of_decide_eq_true (by kernel_rfl)⟩) hW' ⟨rfl, rfl, rfl⟩ hbw⟩

theorem unfoldLess_holds : Rows.UnfoldLessSaid :=
  OpenClaim.holds_of_wide 5 Try.f5 rfl rfl rfl rfl rfl rfl rfl ⟨rfl, rfl, rfl, rfl, rfl⟩ rfl rfl rfl rfl rfl (by kernel_rfl) Try.func5 (by kernel_rfl)
    (of_decide_eq_true (by kernel_rfl)) (by unfold Func.isWrapper; first | (rw [if_pos (by decide +kernel)]; kernel_rfl) | (rw [if_neg (by decide +kernel)]; exact ⟨rfl, rfl⟩))
    (fun os started H enc _ => unfoldLess_lifted os started H enc)
end Go.Proofs.Yteebbffecaeciaa
