/- UnfoldWhole: the law returns true for all that can be read, and what was handed in reads afterwards as it read before. -/
import Derived.Test.YteebbffecaeciaaM47
import Derived.Test.YteebbffecaeciaaM48
/- UnfoldWhole: the law's function, walked. -/
namespace Go.Proofs.Yteebbffecaeciaa
open Go.RowKit

theorem TT.step_small {t : TT} (hk : t.kind = 10) (hs : t.sane false = true) (hc : t.cnt ≤ 1500) : t.step.cnt ≤ 3000000 := by
  obtain ⟨hn, _, hl⟩ := TT.sane_parts hs
  have h2 := (TT.right hn).len2 hk
  obtain ⟨k, v, vs, lo, hi, ws, p, l⟩ := t
  simp only [TT.kind, TT.args] at hk hl h2
  subst hk
  obtain ⟨a, b, rfl⟩ := two_of h2
  rw [TT.cnt, TT.cnts, TT.cnts, TT.cnts] at hc
  have hb : b.sane true = true := by
    simp only [TT.sanes, Bool.and_eq_true] at hl
    simpa using hl.2.1
  show (if lo = 0 then a else b.put (.mk 10 v vs (lo - 1) hi ws p [a, b])).cnt ≤ 3000000
  split
  · omega
  · rw [← TT.putL_put _ b _ hb]
    have h := TT.cnt_putL (.mk 10 v vs (lo - 1) hi ws p [a, b]) b
    rw [TT.cnt, TT.cnts, TT.cnts, TT.cnts] at h
    have h3 : b.cnt * (1 + (a.cnt + (b.cnt + 0))) ≤ 1500 * 1500 := Nat.mul_le_mul (by omega) (by omega)
    omega
set_option maxRecDepth 100000 in
set_option maxHeartbeats 8000000 in
theorem unfoldWhole_any (t : TT) (x : Value) (w : World) (hx : TIn w t x) : Calls Try.prog 6 #[x] w fun e w' => e = .returned (.bool true) ∧ Below w.heap.size w w' := by
  obtain ⟨A, rfl, hok⟩ := hx
  obtain ⟨w1, hw1, m1, s1, hc2, _⟩ := row1_new w t A
  have HX : Hid (BoxA w1 w.heap.size t A) := Lib.hid ⟨hc2, hok.below m1⟩
  have hBA := m1
  obtain ⟨lg, hlg⟩ : ∃ lg, lg = TT.long [t] := ⟨_, rfl⟩
  have HLG := Lib.hid hlg; clear hlg hc2 hok m1
  unfold TT.val
  go_enter Try.func6, Try.ntmps6
  go_wp2_with (first | refine wpList_load15 (by rfl) (by rfl) (by rfl) HX.out.1 ?_ | refine wpList_row1 (s := t) (A := A) (by rfl) (by rfl) (by rfl) HX.out.2 ?_)
  intro w2 hrow hb2
  replace HX := Lib.hid (HX.out.below hb2); replace hBA := hBA.trans (hb2.mono hBA.size)
  clear hb2
  go_wp2_with fail
  refine (tlong_any [t] _ 1 w2 (by simp) hrow).mono ?_
  rintro e w3 ⟨rfl, hb3⟩
  rw [← HLG.out]
  replace HX := Lib.hid (HX.out.below hb3); replace hBA := hBA.trans (hb3.mono hBA.size)
  clear hrow hb3
  cases lg
  · obtain ⟨hcn, hln⟩ := TT.not_long HLG.out.symm
    simp only [TT.cnts, TT.leans, Bool.and_eq_true, Nat.add_zero, and_true] at hcn hln
    have HL := Lib.hid hln; have HC : Hid (t.cnt ≤ 3000000) := Lib.hid (by omega); have HCS : Hid (t.cnt ≤ 1500) := Lib.hid (by omega)
    clear hln hcn
    go_wp2_with fail
    refine (uawake_any _).mono ?_
    rintro e w4 ⟨rfl, hb3⟩
    replace HX := Lib.hid (HX.out.below hb3); replace hBA := hBA.trans (hb3.mono hBA.size)
    clear hb3
    go_wp2_with (first | refine wpList_load15 (by rfl) (by rfl) (by rfl) HX.out.1 ?_)
    refine (uWhole_any t _ _ HC.out HL.out HX.out.tin).mono ?_
    rintro e w7 ⟨x7, rfl, h7, hb2⟩
    obtain ⟨A7, rfl, k7⟩ := h7.tin
    obtain ⟨X, z, hXz⟩ : ∃ X z, (X, z) = t.wholeE := ⟨t.wholeE.1, t.wholeE.2, rfl⟩
    rw [← hXz] at k7 ⊢
    dsimp only at k7 ⊢
    replace HX := Lib.hid (HX.out.below hb2); replace hBA := hBA.trans (hb2.mono hBA.size)
    have HXZ := Lib.hid hXz
    clear hb2 h7 hXz
    go_wp2_with (refine wpList_box15 (t := X) (A := A7) (by rfl) (by rfl) (by rfl) (by rfl) (by rfl) (by rfl) (by rfl) (by rfl) ?_)
    intro w8 hc8 hb2 _ _
    obtain ⟨b3, hb3⟩ : ∃ b, b = w7.heap.size := ⟨_, rfl⟩
    rw [← hb3] at hc8 ⊢
    replace HX := Lib.hid (HX.out.below hb2); replace hBA := hBA.trans (hb2.mono hBA.size)
    have HX3 : Hid (BoxA w8 b3 X A7) := Lib.hid ⟨hc8, k7.below hb2⟩
    clear hc8 k7 hb2 hb3
    go_wp2_with (refine wpList_load15 (by rfl) (by rfl) (by rfl) HX.out.1 ?_)
    refine (sound_any t _ _ HC.out HL.out HX.out.tin).mono ?_
    rintro e w9 ⟨rfl, hb2⟩
    replace HX := Lib.hid (HX.out.below hb2); replace hBA := hBA.trans (hb2.mono hBA.size); replace HX3 := Lib.hid (HX3.out.below hb2)
    clear hb2
    obtain ⟨sd, hsd⟩ : ∃ sd, sd = t.sound := ⟨_, rfl⟩
    rw [← hsd]
    have HSD := Lib.hid hsd; clear hsd
    cases sd
    · as_aux_lemma =>
      obtain ⟨hX, hz⟩ : X = tZero ∧ z = 3 := by have h := HXZ.out; unfold TT.wholeE at h; rw [← HSD.out] at h; simpa using h
      subst hX hz
      go_wp2_with (first | refine wpList_load15G (by rfl) (by rfl) (by rfl) HX3.out.1 ?_)
      refine (rtsame_refl tZero _ _ _ HX3.out.tin (tfin_zero _ 0).tin).mono ?_
      rintro e w10 ⟨rfl, hb9⟩
      go_wp2_with fail
      go_ret
      exact ⟨rfl, hBA.trans (hb9.mono hBA.size)⟩
    · obtain ⟨hX, hz⟩ : X = t.Whole ∧ z = 0 := by have h := HXZ.out; unfold TT.wholeE at h; rw [← HSD.out, if_pos rfl] at h; simpa using h
      have hl := whole_law HSD.out.symm
      rw [← hX] at hl
      have HXC : Hid (X.cnt ≤ 3000000) := Lib.hid (by have := hl.2.2.2.2.2.1; omega)
      have HXL : Hid (X.lean = true) := Lib.hid (hl.2.2.2.2.2.2.2.1 HL.out)
      have HWX : Hid (X.wholeE = (X, 0)) := Lib.hid (by unfold TT.wholeE; rw [hl.1, if_pos rfl, hl.2.2.1])
      obtain ⟨bx, hbx⟩ : ∃ bx, X.Bulk = bx := ⟨_, rfl⟩
      obtain ⟨bt, hbt⟩ : ∃ bt, t.Bulk = bt := ⟨_, rfl⟩
      obtain ⟨hx, hhx⟩ : ∃ hx, X.High = hx := ⟨_, rfl⟩
      have HLAW : Hid (X.sound = true ∧ X.bare = true ∧ X.Bulk = bx ∧ t.Bulk = bt ∧ X.High = hx ∧ t.High = hx) := Lib.hid ⟨hl.1, hl.2.1, hbx, hbt, hhx, by rw [← hhx]; exact hl.2.2.2.2.1.symm⟩
      have HGT : Hid (bx ≤ bt) := Lib.hid (by have := hl.2.2.2.1; omega)
      have HST : Hid (t.kind = 10 → t.step.sound = true ∧ t.step.Whole = X ∧ t.step.cnt ≤ 3000000 ∧ t.step.lean = true) := Lib.hid fun hk => ⟨(less_law hk HSD.out.symm).1, by rw [hX]; exact (hl.2.2.2.2.2.2.2.2 hk).trans hX, TT.step_small hk (TT.sound_parts HSD.out.symm).1 HCS.out, (TT.step_facts hk (TT.sound_parts HSD.out.symm).1).2.2.2 HL.out⟩
      subst hz
      clear hX hl hbx hbt hhx HXZ
      go_wp2_with (refine wpList_load15 (by rfl) (by rfl) (by rfl) HX3.out.1 ?_)
      refine (uWhole_any X _ _ HXC.out HXL.out HX3.out.tin).mono ?_
      rintro e w10 ⟨x10, rfl, h10, hb2⟩
      obtain ⟨A10, rfl, k10⟩ := h10.tin
      rw [HWX.out] at k10 ⊢
      dsimp only at k10 ⊢
      replace HX := Lib.hid (HX.out.below hb2); replace hBA := hBA.trans (hb2.mono hBA.size); replace HX3 := Lib.hid (HX3.out.below hb2)
      clear hb2 h10
      go_wp2_with (refine wpList_box15 (t := X) (A := A10) (by rfl) (by rfl) (by rfl) (by rfl) (by rfl) (by rfl) (by rfl) (by rfl) ?_)
      intro w11 hc8 hb2 _ _
      obtain ⟨b5, hb5⟩ : ∃ b, b = w10.heap.size := ⟨_, rfl⟩
      rw [← hb5] at hc8 ⊢
      replace HX := Lib.hid (HX.out.below hb2); replace hBA := hBA.trans (hb2.mono hBA.size); replace HX3 := Lib.hid (HX3.out.below hb2)
      have HX5 : Hid (BoxT w11 b5 X) := Lib.hid ⟨A10, hc8, k10.below hb2⟩
      have HX1 : Hid (BoxT w11 w.heap.size t) := Lib.hid ⟨_, HX.out⟩
      have HX3A := HX3
      replace HX3 : Hid (BoxT w11 b3 X) := Lib.hid ⟨_, HX3.out⟩
      clear hc8 k10 hb2 hb5
      go_wp2_with fail
      have HBV := Lib.hid (fun W (h : Below w11.drew.heap.size w11.drew W) => (Below.refl _ w11).drew.trans h)
      try simp only [List.append_eq, List.cons_append, List.nil_append]
      refine wp_region_allW (kindT [(39, .fixed (.int .i64 0)), (40, .fixed (.bool false)), (41, .fixed (.bool false)), (42, .fixed (.int .i64 0)), (43, .fixed (.bool false)), (44, .fixed (.bool false)), (45, .fixed (.bool false)), (46, .term (X)), (47, .term (X)), (48, .fixed (.bool true)), (49, .fixed (.bool false)), (50, .fixed (.bool false)), (51, .fixed (.bool false)), (52, .term (X)), (53, .fixed (.bool true)), (54, .fixed (.bool false)), (55, .fixed (.bool false)), (56, .fixed (.bool false)), (57, .term (X)), (58, .fixed (.bool true)), (59, .fixed (.bool false)), (60, .fixed (.bool false)), (61, .fixed (.bool false)), (62, .term (X)), (63, .fixed (.int .i64 (bx : Int))), (64, .term (t)), (65, .fixed (.int .i64 (bt : Int))), (66, .fixed (.bool false)), (67, .fixed (.bool false)), (68, .fixed (.bool false)), (69, .term (X)), (70, .fixed (.int .i64 (hx : Int))), (71, .term (t)), (72, .fixed (.int .i64 (hx : Int))), (73, .fixed (.bool false)), (74, .fixed (.bool false))]) 106 (by kernel_rfl) (by kernel_rfl) (by rfl) (kindT_mono _) ?_ ?_
      · as_aux_lemma =>
        show ∀ o ∈ [(0, _), (1, _), (2, _), (3, _), (4, _), (5, _), (6, _), (7, _), (8, _), (9, _), (10, _), (11, _), (12, _), (13, _), (14, _), (15, _), (16, _), (17, _), (18, _), (19, _), (20, _), (21, _), (22, _), (23, _), (24, _), (25, _), (26, _), (27, _), (28, _), (29, _), (30, _), (31, _), (32, _), (33, _), (34, _), (35, _)], _
        refine (tfm ?_ (tfm ?_ (tfm ?_ (tfm ?_ (tfm ?_ (tfm ?_ (tfm ?_ (tfm ?_ (tfm ?_ (tfm ?_ (tfm ?_ (tfm ?_ (tfm ?_ (tfm ?_ (tfm ?_ (tfm ?_ (tfm ?_ (tfm ?_ (tfm ?_ (tfm ?_ (tfm ?_ (tfm ?_ (tfm ?_ (tfm ?_ (tfm ?_ (tfm ?_ (tfm ?_ (tfm ?_ (tfm ?_ (tfm ?_ (tfm ?_ (tfm ?_ (tfm ?_ (tfm ?_ (tfm ?_ (tfm ?_ tfmnil))))))))))))))))))))))))))))))))))))
        · intro r W hc hf hs hd hB
          have hBV := HBV.out W hB
          refine want_n rfl ?_
          have e : r (.tmp 4) = .int .i64 0 := hs 4 (by kernel_rfl)
          exact st_value (v := .int .i64 0) rfl (by decide) (by go_simp) rfl
        · intro r W hc hf hs hd hB
          have hBV := HBV.out W hB
          refine want_n rfl ?_
          have e39 : r (.tmp 39) = .int .i64 0 := hd 39 (by kernel_rfl)
          exact st_value (v := .bool false) rfl (by decide) (by go_simp) rfl
        · intro r W hc hf hs hd hB
          have hBV := HBV.out W hB
          refine want_n rfl ?_
          have e : r (.tmp 40) = .bool false := hd 40 (by kernel_rfl)
          exact st_value (v := .bool false) rfl (by decide) (by go_simp) rfl
        · intro r W hc hf hs hd hB
          have hBV := HBV.out W hB
          refine want_g 2 41 rfl (by kernel_rfl) (hd 41 (by kernel_rfl) : r (.tmp 41) = .bool false) ?_
          have e : r (.tmp 6) = .int .i64 0 := hs 6 (by kernel_rfl)
          exact st_value (v := .int .i64 0) rfl (by decide) (by go_simp) rfl
        · intro r W hc hf hs hd hB
          have hBV := HBV.out W hB
          refine want_g 2 41 rfl (by kernel_rfl) (hd 41 (by kernel_rfl) : r (.tmp 41) = .bool false) ?_
          have e42 : r (.tmp 42) = .int .i64 0 := hd 42 (by kernel_rfl)
          exact st_value (v := .bool false) rfl (by decide) (by go_simp) rfl
        · intro r W hc hf hs hd hB
          have hBV := HBV.out W hB
          refine want_n rfl ?_
          have e41 : r (.tmp 41) = .bool false := hd 41 (by kernel_rfl)
          have e43 : r (.tmp 43) = .bool false := hd 43 (by kernel_rfl)
          exact st_value (v := .bool false) rfl (by decide) (by go_simp) rfl
        · intro r W hc hf hs hd hB
          have hBV := HBV.out W hB
          refine want_n rfl ?_
          have e : r (.tmp 44) = .bool false := hd 44 (by kernel_rfl)
          exact st_value (v := .bool false) rfl (by decide) (by go_simp) rfl
        · intro r W hc hf hs hd hB
          have hBV := HBV.out W hB
          refine want_g 6 45 rfl (by kernel_rfl) (hd 45 (by kernel_rfl) : r (.tmp 45) = .bool false) ?_
          have e : r (.tmp 3) = .pointer (some ⟨b3, 0, none⟩) := hs 3 (by kernel_rfl)
          obtain ⟨A, hcl, hok⟩ := BoxT.below HX3.out hBV
          exact st_value (v := TT.val (X) A) rfl (by decide) (run_load15 hcl rfl e) ⟨A, rfl, hok⟩
        · intro r W hc hf hs hd hB
          have hBV := HBV.out W hB
          refine want_g 6 45 rfl (by kernel_rfl) (hd 45 (by kernel_rfl) : r (.tmp 45) = .bool false) ?_
          have e : r (.tmp 5) = .pointer (some ⟨b5, 0, none⟩) := hs 5 (by kernel_rfl)
          obtain ⟨A, hcl, hok⟩ := BoxT.below HX5.out hBV
          exact st_value (v := TT.val (X) A) rfl (by decide) (run_load15 hcl rfl e) ⟨A, rfl, hok⟩
        · intro r W hc hf hs hd hB
          have hBV := HBV.out W hB
          refine want_g 6 45 rfl (by kernel_rfl) (hd 45 (by kernel_rfl) : r (.tmp 45) = .bool false) ?_
          have h46 : TIn W (X) (r (.tmp 46)) := hd 46 (by kernel_rfl)
          have h47 : TIn W (X) (r (.tmp 47)) := hd 47 (by kernel_rfl)
          exact st_call (f := 31) (args := #[r (.tmp 46), r (.tmp 47)]) rfl (by decide) (by go_simp) (made_fix (by rw [TT.same_refl]) (rtsame_any 3000000 X X _ _ W HXC.out h46 h47))
        · intro r W hc hf hs hd hB
          have hBV := HBV.out W hB
          refine want_g 6 45 rfl (by kernel_rfl) (hd 45 (by kernel_rfl) : r (.tmp 45) = .bool false) ?_
          have e48 : r (.tmp 48) = .bool true := hd 48 (by kernel_rfl)
          exact st_value (v := .bool false) rfl (by decide) (by go_simp) rfl
        · intro r W hc hf hs hd hB
          have hBV := HBV.out W hB
          refine want_n rfl ?_
          have e45 : r (.tmp 45) = .bool false := hd 45 (by kernel_rfl)
          have e49 : r (.tmp 49) = .bool false := hd 49 (by kernel_rfl)
          exact st_value (v := .bool false) rfl (by decide) (by go_simp) rfl
        · intro r W hc hf hs hd hB
          have hBV := HBV.out W hB
          refine want_n rfl ?_
          have e : r (.tmp 50) = .bool false := hd 50 (by kernel_rfl)
          exact st_value (v := .bool false) rfl (by decide) (by go_simp) rfl
        · intro r W hc hf hs hd hB
          have hBV := HBV.out W hB
          refine want_g 12 51 rfl (by kernel_rfl) (hd 51 (by kernel_rfl) : r (.tmp 51) = .bool false) ?_
          have e : r (.tmp 3) = .pointer (some ⟨b3, 0, none⟩) := hs 3 (by kernel_rfl)
          obtain ⟨A, hcl, hok⟩ := BoxT.below HX3.out hBV
          exact st_value (v := TT.val (X) A) rfl (by decide) (run_load15 hcl rfl e) ⟨A, rfl, hok⟩
        · intro r W hc hf hs hd hB
          have hBV := HBV.out W hB
          refine want_g 12 51 rfl (by kernel_rfl) (hd 51 (by kernel_rfl) : r (.tmp 51) = .bool false) ?_
          have h52 : TIn W (X) (r (.tmp 52)) := hd 52 (by kernel_rfl)
          exact st_call (f := 39) (args := #[r (.tmp 52)]) rfl (by decide) (by go_simp) (made_fix (by rw [HLAW.out.2.1]) (ubare_any 3000000 X _ W HXC.out h52))
        · intro r W hc hf hs hd hB
          have hBV := HBV.out W hB
          refine want_g 12 51 rfl (by kernel_rfl) (hd 51 (by kernel_rfl) : r (.tmp 51) = .bool false) ?_
          have e53 : r (.tmp 53) = .bool true := hd 53 (by kernel_rfl)
          exact st_value (v := .bool false) rfl (by decide) (by go_simp) rfl
        · intro r W hc hf hs hd hB
          have hBV := HBV.out W hB
          refine want_n rfl ?_
          have e51 : r (.tmp 51) = .bool false := hd 51 (by kernel_rfl)
          have e54 : r (.tmp 54) = .bool false := hd 54 (by kernel_rfl)
          exact st_value (v := .bool false) rfl (by decide) (by go_simp) rfl
        · intro r W hc hf hs hd hB
          have hBV := HBV.out W hB
          refine want_n rfl ?_
          have e : r (.tmp 55) = .bool false := hd 55 (by kernel_rfl)
          exact st_value (v := .bool false) rfl (by decide) (by go_simp) rfl
        · intro r W hc hf hs hd hB
          have hBV := HBV.out W hB
          refine want_g 17 56 rfl (by kernel_rfl) (hd 56 (by kernel_rfl) : r (.tmp 56) = .bool false) ?_
          have e : r (.tmp 3) = .pointer (some ⟨b3, 0, none⟩) := hs 3 (by kernel_rfl)
          obtain ⟨A, hcl, hok⟩ := BoxT.below HX3.out hBV
          exact st_value (v := TT.val (X) A) rfl (by decide) (run_load15 hcl rfl e) ⟨A, rfl, hok⟩
        · intro r W hc hf hs hd hB
          have hBV := HBV.out W hB
          refine want_g 17 56 rfl (by kernel_rfl) (hd 56 (by kernel_rfl) : r (.tmp 56) = .bool false) ?_
          have h57 : TIn W (X) (r (.tmp 57)) := hd 57 (by kernel_rfl)
          exact st_call (f := 35) (args := #[r (.tmp 57)]) rfl (by decide) (by go_simp) (made_fix (by rw [HLAW.out.1]) (sound_any X _ W HXC.out HXL.out h57))
        · intro r W hc hf hs hd hB
          have hBV := HBV.out W hB
          refine want_g 17 56 rfl (by kernel_rfl) (hd 56 (by kernel_rfl) : r (.tmp 56) = .bool false) ?_
          have e58 : r (.tmp 58) = .bool true := hd 58 (by kernel_rfl)
          exact st_value (v := .bool false) rfl (by decide) (by go_simp) rfl
        · intro r W hc hf hs hd hB
          have hBV := HBV.out W hB
          refine want_n rfl ?_
          have e56 : r (.tmp 56) = .bool false := hd 56 (by kernel_rfl)
          have e59 : r (.tmp 59) = .bool false := hd 59 (by kernel_rfl)
          exact st_value (v := .bool false) rfl (by decide) (by go_simp) rfl
        · intro r W hc hf hs hd hB
          have hBV := HBV.out W hB
          refine want_n rfl ?_
          have e : r (.tmp 60) = .bool false := hd 60 (by kernel_rfl)
          exact st_value (v := .bool false) rfl (by decide) (by go_simp) rfl
        · intro r W hc hf hs hd hB
          have hBV := HBV.out W hB
          refine want_g 22 61 rfl (by kernel_rfl) (hd 61 (by kernel_rfl) : r (.tmp 61) = .bool false) ?_
          have e : r (.tmp 3) = .pointer (some ⟨b3, 0, none⟩) := hs 3 (by kernel_rfl)
          obtain ⟨A, hcl, hok⟩ := BoxT.below HX3.out hBV
          exact st_value (v := TT.val (X) A) rfl (by decide) (run_load15 hcl rfl e) ⟨A, rfl, hok⟩
        · intro r W hc hf hs hd hB
          have hBV := HBV.out W hB
          refine want_g 22 61 rfl (by kernel_rfl) (hd 61 (by kernel_rfl) : r (.tmp 61) = .bool false) ?_
          have h62 : TIn W (X) (r (.tmp 62)) := hd 62 (by kernel_rfl)
          exact st_call (f := 36) (args := #[r (.tmp 62)]) rfl (by decide) (by go_simp) (made_fix (by rw [HLAW.out.2.2.1]) (tbulk_any X _ W HXC.out HXL.out h62))
        · intro r W hc hf hs hd hB
          have hBV := HBV.out W hB
          refine want_g 22 61 rfl (by kernel_rfl) (hd 61 (by kernel_rfl) : r (.tmp 61) = .bool false) ?_
          have e : r (.tmp 1) = .pointer (some ⟨w.heap.size, 0, none⟩) := hs 1 (by kernel_rfl)
          obtain ⟨A, hcl, hok⟩ := BoxT.below HX1.out hBV
          exact st_value (v := TT.val (t) A) rfl (by decide) (run_load15 hcl rfl e) ⟨A, rfl, hok⟩
        · intro r W hc hf hs hd hB
          have hBV := HBV.out W hB
          refine want_g 22 61 rfl (by kernel_rfl) (hd 61 (by kernel_rfl) : r (.tmp 61) = .bool false) ?_
          have h64 : TIn W (t) (r (.tmp 64)) := hd 64 (by kernel_rfl)
          exact st_call (f := 36) (args := #[r (.tmp 64)]) rfl (by decide) (by go_simp) (made_fix (by rw [HLAW.out.2.2.2.1]) (tbulk_any t _ W HC.out HL.out h64))
        · intro r W hc hf hs hd hB
          have hBV := HBV.out W hB
          refine want_g 22 61 rfl (by kernel_rfl) (hd 61 (by kernel_rfl) : r (.tmp 61) = .bool false) ?_
          have e63 : r (.tmp 63) = .int .i64 (bx : Int) := hd 63 (by kernel_rfl)
          have e65 : r (.tmp 65) = .int .i64 (bt : Int) := hd 65 (by kernel_rfl)
          have g := HGT.out
          exact st_value (v := .bool false) rfl (by decide) (by go_simp) rfl
        · intro r W hc hf hs hd hB
          have hBV := HBV.out W hB
          refine want_n rfl ?_
          have e61 : r (.tmp 61) = .bool false := hd 61 (by kernel_rfl)
          have e66 : r (.tmp 66) = .bool false := hd 66 (by kernel_rfl)
          exact st_value (v := .bool false) rfl (by decide) (by go_simp) rfl
        · intro r W hc hf hs hd hB
          have hBV := HBV.out W hB
          refine want_n rfl ?_
          have e : r (.tmp 67) = .bool false := hd 67 (by kernel_rfl)
          exact st_value (v := .bool false) rfl (by decide) (by go_simp) rfl
        · intro r W hc hf hs hd hB
          have hBV := HBV.out W hB
          refine want_g 29 68 rfl (by kernel_rfl) (hd 68 (by kernel_rfl) : r (.tmp 68) = .bool false) ?_
          have e : r (.tmp 3) = .pointer (some ⟨b3, 0, none⟩) := hs 3 (by kernel_rfl)
          obtain ⟨A, hcl, hok⟩ := BoxT.below HX3.out hBV
          exact st_value (v := TT.val (X) A) rfl (by decide) (run_load15 hcl rfl e) ⟨A, rfl, hok⟩
        · intro r W hc hf hs hd hB
          have hBV := HBV.out W hB
          refine want_g 29 68 rfl (by kernel_rfl) (hd 68 (by kernel_rfl) : r (.tmp 68) = .bool false) ?_
          have h69 : TIn W (X) (r (.tmp 69)) := hd 69 (by kernel_rfl)
          exact st_call (f := 37) (args := #[r (.tmp 69)]) rfl (by decide) (by go_simp) (made_fix (by rw [HLAW.out.2.2.2.2.1]) (thigh_any X _ W HXC.out HXL.out h69))
        · intro r W hc hf hs hd hB
          have hBV := HBV.out W hB
          refine want_g 29 68 rfl (by kernel_rfl) (hd 68 (by kernel_rfl) : r (.tmp 68) = .bool false) ?_
          have e : r (.tmp 1) = .pointer (some ⟨w.heap.size, 0, none⟩) := hs 1 (by kernel_rfl)
          obtain ⟨A, hcl, hok⟩ := BoxT.below HX1.out hBV
          exact st_value (v := TT.val (t) A) rfl (by decide) (run_load15 hcl rfl e) ⟨A, rfl, hok⟩
        · intro r W hc hf hs hd hB
          have hBV := HBV.out W hB
          refine want_g 29 68 rfl (by kernel_rfl) (hd 68 (by kernel_rfl) : r (.tmp 68) = .bool false) ?_
          have h71 : TIn W (t) (r (.tmp 71)) := hd 71 (by kernel_rfl)
          exact st_call (f := 37) (args := #[r (.tmp 71)]) rfl (by decide) (by go_simp) (made_fix (by rw [HLAW.out.2.2.2.2.2]) (thigh_any t _ W HC.out HL.out h71))
        · intro r W hc hf hs hd hB
          have hBV := HBV.out W hB
          refine want_g 29 68 rfl (by kernel_rfl) (hd 68 (by kernel_rfl) : r (.tmp 68) = .bool false) ?_
          have e70 : r (.tmp 70) = .int .i64 (hx : Int) := hd 70 (by kernel_rfl)
          have e72 : r (.tmp 72) = .int .i64 (hx : Int) := hd 72 (by kernel_rfl)
          exact st_value (v := .bool false) rfl (by decide) (by go_simp) rfl
        · intro r W hc hf hs hd hB
          have hBV := HBV.out W hB
          refine want_n rfl ?_
          have e68 : r (.tmp 68) = .bool false := hd 68 (by kernel_rfl)
          have e73 : r (.tmp 73) = .bool false := hd 73 (by kernel_rfl)
          exact st_value (v := .bool false) rfl (by decide) (by go_simp) rfl
      intro f w12 hfd hB'
      have z74 : f 74 = .bool false := hfd 74 (of_decide_eq_true (by kernel_rfl))
      have hbR := HBV.out w12 hB'
      rw [show dstsTo _ _ = [39, 40, 41, 42, 43, 44, 45, 46, 47, 48, 49, 50, 51, 52, 53, 54, 55, 56, 57, 58, 59, 60, 61, 62, 63, 64, 65, 66, 67, 68, 69, 70, 71, 72, 73, 74] from by kernel_rfl]
      simp only [fill, List.setIfInBounds_toArray, List.set_cons_succ, List.set_cons_zero, z74]
      clear hfd hB' HBV z74
      have HX3 : Hid (BoxA w12 b3 X A7) := Lib.hid (HX3A.out.below hbR)
      replace HX := Lib.hid (HX.out.below hbR); replace hBA := hBA.trans (hbR.mono hBA.size)
      clear hbR HX5 HX1 HX3A
      go_wp2_with (refine wpList_load15 (by rfl) (by rfl) (by rfl) HX.out.1 ?_)
      refine (uStep_any t _ _ HC.out HL.out HX.out.tin).mono ?_
      rintro e w13 ⟨x13, rfl, h13, hb2⟩
      obtain ⟨A13, rfl, k13⟩ := h13.tin
      obtain ⟨Y, z, hYz⟩ : ∃ Y z, (Y, z) = t.stepE := ⟨t.stepE.1, t.stepE.2, rfl⟩
      rw [← hYz] at k13 ⊢
      dsimp only at k13 ⊢
      replace HX := Lib.hid (HX.out.below hb2); replace hBA := hBA.trans (hb2.mono hBA.size); replace HX3 := Lib.hid (HX3.out.below hb2)
      have HYZ := Lib.hid hYz
      clear hb2 h13 hYz
      go_wp2_with (refine wpList_box15 (t := Y) (A := A13) (by rfl) (by rfl) (by rfl) (by rfl) (by rfl) (by rfl) (by rfl) (by rfl) ?_)
      intro w14 hc8 hb2 _ _
      obtain ⟨b7, hb7⟩ : ∃ b, b = w13.heap.size := ⟨_, rfl⟩
      rw [← hb7] at hc8 ⊢
      replace HX := Lib.hid (HX.out.below hb2); replace hBA := hBA.trans (hb2.mono hBA.size); replace HX3 := Lib.hid (HX3.out.below hb2)
      have HX7 : Hid (BoxA w14 b7 Y A13) := Lib.hid ⟨hc8, k13.below hb2⟩
      clear hc8 k13 hb2 hb7
      have q0 : w14.cell? ⟨w.heap.size, 0, none⟩ = some (.int .u8 t.kind) := HX.out.1.1
      by_cases hk : t.kind = 10
      · as_aux_lemma =>
        obtain ⟨hY, hz⟩ : Y = t.step ∧ z = 0 := by have h := HYZ.out; unfold TT.stepE at h; rw [← HSD.out, if_pos rfl, if_pos hk] at h; simpa using h
        subst hz
        obtain ⟨g1, g2, g3, g4⟩ := HST.out hk
        rw [← hY] at g1 g2 g3 g4
        have HWY : Hid (Y.wholeE = (X, 0)) := Lib.hid (by unfold TT.wholeE; rw [g1, if_pos rfl, g2])
        have HYC := Lib.hid (And.intro g3 g4)
        have kb : (t.kind == 10) = true := by simp [hk]
        clear hk hY HYZ g1 g2 g3 g4
        go_wp2_with (refine wpList_load15 (by rfl) (by rfl) (by rfl) HX7.out.1 ?_)
        refine (uWhole_any Y _ _ HYC.out.1 HYC.out.2 HX7.out.tin).mono ?_
        rintro e w15 ⟨x15, rfl, h15, hb2⟩
        obtain ⟨A15, rfl, k15⟩ := h15.tin
        rw [HWY.out] at k15 ⊢
        dsimp only at k15 ⊢
        replace HX := Lib.hid (HX.out.below hb2); replace hBA := hBA.trans (hb2.mono hBA.size); replace HX3 := Lib.hid (HX3.out.below hb2)
        replace q0 := cell_stays hb2 q0
        clear hb2 h15
        go_wp2_with (refine wpList_box15 (t := X) (A := A15) (by rfl) (by rfl) (by rfl) (by rfl) (by rfl) (by rfl) (by rfl) (by rfl) ?_)
        intro w16 hc8 hb2 _ _
        replace HX := Lib.hid (HX.out.below hb2); replace hBA := hBA.trans (hb2.mono hBA.size); replace HX3 := Lib.hid (HX3.out.below hb2)
        replace q0 := cell_stays hb2 q0
        have HX9 : Hid (BoxA w16 w15.heap.size X A15) := Lib.hid ⟨hc8, k15.below hb2⟩
        clear hc8 k15 hb2
        go_wp2_with (first | refine wpList_load15G (by rfl) (by rfl) (by rfl) HX9.out.1 ?_ | refine wpList_load15G (by rfl) (by rfl) (by rfl) HX3.out.1 ?_)
        refine (rtsame_refl X _ _ _ HX9.out.tin HX3.out.tin).mono ?_
        rintro e w17 ⟨rfl, hb9⟩
        go_wp2_with fail
        go_ret
        exact ⟨rfl, hBA.trans (hb9.mono hBA.size)⟩
      · as_aux_lemma =>
        obtain ⟨hY, hz⟩ : Y = tZero ∧ z = 11 := by have h := HYZ.out; unfold TT.stepE at h; rw [← HSD.out, if_pos rfl, if_neg hk] at h; simpa using h
        subst hz
        have kb : (t.kind != 10) = true := by simpa using hk
        clear hk hY HYZ
        go_wp2_with fail
        go_ret
        exact ⟨rfl, hBA⟩
  · go_wp2_with fail
    refine (uawake_any _).mono ?_
    rintro e w4 ⟨rfl, hb4⟩
    go_wp2_with fail
    go_ret
    exact ⟨rfl, hBA.trans (hb4.mono hBA.size)⟩
end Go.Proofs.Yteebbffecaeciaa
/- UnfoldWhole: the law returns true for all that can be read, and what was handed in reads afterwards as it read before. -/
namespace Go.Proofs.Yteebbffecaeciaa
open Go.ChangeShapes Go.WideShapes Go.ChangeAt Go.RowKit

set_option maxRecDepth 100000 in
theorem unfoldWhole_lifted (os : Os) (started : os.Started) (H : Type) (enc : TypeId × Value → H) :
    ReturnsInHanded {} Try.checked os 6 .any (Rows.unfoldWholeSpec.pre6 enc Try.prog Try.f6 Rows.unfoldWholeRow.domain false) (Rows.unfoldWholeSpec.post enc Try.prog Try.f6 false true false false) := by
  refine returnsInHanded_of_change_sized (C := Try.checked) Try.own started (by kernel_rfl) Try.func6
    (ChangeSpec.witness6 (enc := enc) (C := Try.checked) false ⟨#[], #[.agg #[.int .u8 0, .int .u8 0, .int .i64 0, .slice none 0 0, .slice none 0 0, .int .i64 0, .int .i64 0, .slice none 0 0, .int .u8 0, .int .u8 0, .int .i64 0, .slice none 0 0, .int .i64 0, .slice none 0 0, .slice none 0 0]], []⟩ 8 (by kernel_rfl) (by kernel_rfl) (by kernel_rfl) (by kernel_rfl)) ?_
  intro W base args ds gs before hval0 hW hcnd hsz hass
  have hval : ∀ (j : Nat) t v, Try.f6.params[j]? = some t → args[j]? = some v → Value.okWide Try.prog W .any base t v := hval0
  have hW' := hW
  obtain ⟨p, q, hA0, hV, rfl, hfz, hnd⟩ := hW
  have hA : DataW.TrodAll enc Try.prog W 0 (fun _ => true) true Try.f6.params.toList args.toList ds p := hA0
  rw [Try.params6] at hA hval
  obtain ⟨v0, d0, rfl, rfl, h0⟩ := trodAll_one hA
  obtain ⟨rfl, rfl⟩ := trodVars_none hV
  have hsz' : (DataW.weightsEach Try.prog [47] ([d0] ++ [])).all (· ≤ reachBytes) = true := hsz
  simp only [List.append_nil, DataW.weightsEach] at hsz'
  obtain ⟨a0, ha0⟩ := open_term (hval 0 47 v0 rfl rfl) h0 hsz'
  refine (unfoldWhole_any a0 v0 W ha0).mono fun e W' ⟨he, hbw⟩ => ?_
  subst he
  exact ⟨_, rfl, law_post rfl rfl (by rw [Try.params6]; intro t ht; simp at ht; subst ht <;> exact ⟨by kernel_rfl, of_decide_eq_true (by kernel_rfl)⟩) hW' ⟨rfl, rfl, rfl⟩ hbw⟩

theorem unfoldWhole_holds : Rows.UnfoldWholeSaid :=
  OpenClaim.holds_of_wide 6 Try.f6 rfl rfl rfl rfl rfl rfl rfl ⟨rfl, rfl, rfl, rfl, rfl⟩ rfl rfl rfl rfl rfl (by kernel_rfl) Try.func6 (by kernel_rfl)
    (of_decide_eq_true (by kernel_rfl)) (by unfold Func.isWrapper; first | (rw [if_pos (by decide +kernel)]; kernel_rfl) | (rw [if_neg (by decide +kernel)]; exact ⟨rfl, rfl⟩))
    (fun os started H enc _ => unfoldWhole_lifted os started H enc)
end Go.Proofs.Yteebbffecaeciaa
