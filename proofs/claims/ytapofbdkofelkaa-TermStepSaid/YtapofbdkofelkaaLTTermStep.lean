/- TermStep: the law returns true for all that can be read, and what was handed in reads afterwards as it read before. -/
import Derived.Test.YtapofbdkofelkaaM35
import Derived.Test.YtapofbdkofelkaaM37
import Derived.Test.YtapofbdkofelkaaM38
/- TermStep: the law's function, walked. -/
namespace Go.Proofs.Ytapofbdkofelkaa
open Go.RowKit

theorem step_cnt {b s : TT} (h : false = TT.long [b, s]) (m : Int) : ((tSized m b s).cnt ≤ 3000000 ∧ (tSized m b s).lean = true) ∧ (stepX m b s).cnt ≤ 3000000 ∧ (stepX m b s).lean = true := by
  obtain ⟨h1, h2⟩ := TT.not_long h.symm
  simp only [TT.cnts, TT.leans, Bool.and_eq_true, Nat.add_zero] at h1 h2
  have hT : ∀ m, (tSized m b s).cnt = 1 + (b.cnt + s.cnt) := fun m => by rw [tSized, TT.cnt, TT.cnts, TT.cnts, TT.cnts]; omega
  have hL : ∀ m, (tSized m b s).lean = true := fun m => by
    rw [tSized, TT.lean, TT.leans, TT.leans, TT.leans, h2.1, h2.2.1]
    decide
  refine ⟨⟨by rw [hT]; omega, hL m⟩, ?_, ?_⟩
  · unfold stepX
    split
    · have := TT.cnt_putL (tSized (m - 1) b s) s
      rw [hT] at this
      have h3 : s.cnt * (1 + (b.cnt + s.cnt)) ≤ 1500 * 1500 := Nat.mul_le_mul (by omega) (by omega)
      omega
    · omega
  · unfold stepX
    split
    · exact TT.lean_putL _ (hL _) s h2.2.1
    · exact h2.1
set_option maxRecDepth 100000 in
set_option maxHeartbeats 8000000 in
theorem termStep_any (b : TT) (x : Value) (s : TT) (y : Value) (n : Int) (w : World) (hx : TIn w b x) (hy : TIn w s y) (hn0 : 0 ≤ n) (hn1 : n ≤ 255) : Calls Try.prog 6 #[x, y, .int .u8 n] w fun e w' => e = .returned (.bool true) ∧ Below w.heap.size w w' := by
  obtain ⟨A, rfl, hok⟩ := hx
  obtain ⟨A', rfl, hok'⟩ := hy
  obtain ⟨w0, hw0, m0, s0, hc3, _⟩ := row1_new w b A
  obtain ⟨w1, hw1, m1, s1, hc4, _⟩ := row1_new w0 s A'
  have hB : Below w.heap.size w w1 := m0.trans (m1.mono (Nat.le_of_lt s0))
  have HX3 : Hid (BoxA w1 w.heap.size b A) := Lib.hid ⟨hc3.below m1, hok.below hB⟩
  have HX4 : Hid (BoxA w1 w0.heap.size s A') := Lib.hid ⟨hc4, hok'.below hB⟩
  have HK3 := HX3; have HK4 := HX4
  replace HK3 : Hid (TOk w1 b A) := Lib.hid HX3.out.2
  replace HK4 : Hid (TOk w1 s A') := Lib.hid HX4.out.2
  have HB1 : Hid (Below w1.heap.size w1 w1) := Lib.hid (Below.refl _ _)
  clear hc3 hc4 hok hok' m0 m1
  obtain ⟨lg, hlg⟩ : ∃ lg, lg = TT.long [b, s] := ⟨_, rfl⟩
  have HLG := Lib.hid hlg; clear hlg
  unfold TT.val
  go_enter Try.func6, Try.ntmps6
  go_wp2_with (first | refine wpList_load15 (by rfl) (by rfl) (by rfl) HX3.out.1 ?_ | refine wpList_load15 (by rfl) (by rfl) (by rfl) HX4.out.1 ?_ | refine wpList_row2 (s := b) (t := s) (by rfl) (by rfl) (by rfl) (by rfl) HX3.out.2 HX4.out.2 ?_)
  intro w2 hrow hb2
  replace HX3 := Lib.hid (HX3.out.below hb2); replace HX4 := Lib.hid (HX4.out.below hb2); replace hB := hB.trans (hb2.mono hB.size); replace HB1 := Lib.hid (HB1.out.trans (hb2.mono HB1.out.size))
  clear hb2
  go_wp2_with fail
  refine (tlong_any [b, s] _ 2 w2 (by simp) hrow).mono ?_
  rintro e w3 ⟨rfl, hb2⟩
  rw [← HLG.out]
  replace HX3 := Lib.hid (HX3.out.below hb2); replace HX4 := Lib.hid (HX4.out.below hb2); replace hB := hB.trans (hb2.mono hB.size); replace HB1 := Lib.hid (HB1.out.trans (hb2.mono HB1.out.size))
  clear hb2 hrow
  cases lg
  · go_wp2_with fail
    refine (tawake_any _).mono ?_
    rintro e w4 ⟨rfl, hb2⟩
    replace HX3 := Lib.hid (HX3.out.below hb2); replace HX4 := Lib.hid (HX4.out.below hb2); replace hB := hB.trans (hb2.mono hB.size); replace HB1 := Lib.hid (HB1.out.trans (hb2.mono HB1.out.size))
    clear hb2
    go_wp2_with (first | refine wpList_load15 (by rfl) (by rfl) (by rfl) HX3.out.1 ?_ | refine wpList_load15 (by rfl) (by rfl) (by rfl) HX4.out.1 ?_)
    obtain ⟨m, hm⟩ : ∃ m, m = n % 9 := ⟨_, rfl⟩
    rw [← hm]
    have HM : Hid (0 ≤ m ∧ m ≤ 8) := Lib.hid (by omega)
    clear hm hn0 hn1
    refine (lsized_any m b s _ _ w4 HX3.out.tin HX4.out.tin).mono ?_
    rintro e w5 ⟨x5, rfl, ⟨A5, rfl, k5⟩, hb2⟩
    replace HX3 := Lib.hid (HX3.out.below hb2); replace HX4 := Lib.hid (HX4.out.below hb2); replace hB := hB.trans (hb2.mono hB.size); replace HB1 := Lib.hid (HB1.out.trans (hb2.mono HB1.out.size))
    have hs5 : w.heap.size ≤ w5.heap.size := hB.size
    have hs51 : w1.heap.size ≤ w5.heap.size := HB1.out.size
    obtain ⟨T, hT⟩ : ∃ T, T = tSized m b s := ⟨_, rfl⟩
    rw [← hT] at k5 ⊢
    have HT := Lib.hid hT
    have HX7C : Hid (T.cnt ≤ 3000000) := Lib.hid (by rw [hT]; exact (step_cnt HLG.out m).1.1)
    have HX7L : Hid (T.lean = true) := Lib.hid (by rw [hT]; exact (step_cnt HLG.out m).1.2)
    clear hT hb2
    go_wp2_with (refine wpList_box15 (t := T) (A := A5) rfl rfl rfl rfl rfl rfl rfl rfl ?_)
    intro w6 hc7 hb2 hs6 _
    replace HX3 := Lib.hid (HX3.out.below hb2); replace HX4 := Lib.hid (HX4.out.below hb2); replace hB := hB.trans (hb2.mono hB.size); replace HB1 := Lib.hid (HB1.out.trans (hb2.mono HB1.out.size))
    have HX7 : Hid (BoxA w6 w5.heap.size T A5) := Lib.hid ⟨hc7, k5.below hb2⟩
    have HK7 : Hid (TOk w5 T A5) := Lib.hid k5
    have HB5 : Hid (Below w5.heap.size w5 w6) := Lib.hid hb2
    clear hc7 k5 hb2
    go_wp2_with (refine wpList_load15 (by rfl) (by rfl) (by rfl) HX7.out.1 ?_)
    refine (sound_any T _ _ HX7C.out HX7L.out HX7.out.tin).mono ?_
    rintro e w7 ⟨rfl, hb2⟩
    replace HX3 := Lib.hid (HX3.out.below hb2); replace HX4 := Lib.hid (HX4.out.below hb2); replace hB := hB.trans (hb2.mono hB.size); replace HB1 := Lib.hid (HB1.out.trans (hb2.mono HB1.out.size))
    replace HX7 := Lib.hid (HX7.out.below hb2)
    replace HB5 := Lib.hid (HB5.out.trans (hb2.mono HB5.out.size))
    have hs7 : w5.heap.size < w7.heap.size := by have := hb2.size; omega
    clear hb2
    obtain ⟨sd, hsd⟩ : ∃ sd, sd = T.sound := ⟨_, rfl⟩
    rw [← hsd]
    have HSD := Lib.hid hsd; clear hsd
    cases sd
    · go_wp2_with fail
      go_ret
      exact ⟨rfl, hB⟩
    · obtain ⟨X, hX⟩ : ∃ X, X = stepX m b s := ⟨_, rfl⟩
      have hlaw := step_law (a := b) (b := s) (n := m) HM.out.1 (by rw [← HT.out]; exact HSD.out.symm)
      rw [← HT.out, ← hX] at hlaw
      have HX8C : Hid (X.cnt ≤ 3000000) := Lib.hid (by rw [hX]; exact (step_cnt HLG.out m).2.1)
      have HX8L : Hid (X.lean = true) := Lib.hid (by rw [hX]; exact (step_cnt HLG.out m).2.2)
      have HLAW : Hid (X.sound = true ∧ T.Bulk = 1 + X.Bulk ∧ T.High = X.High ∧ X.Bulk ≤ 4096) := Lib.hid ⟨hlaw.1, hlaw.2.1, hlaw.2.2, by obtain ⟨_, g1, _, g2, _⟩ := TT.sound_parts hlaw.1; omega⟩
      clear hlaw
      go_wp2_with (first | refine wpList_load15 (by rfl) (by rfl) (by rfl) HX3.out.1 ?_ | refine wpList_box15 (t := b) (A := A) (by rfl) (by rfl) (by rfl) (by rfl) (by rfl) (by rfl) (by rfl) (by rfl) ?_)
      intro w8 hc8 hb2 hs8 R8
      replace HX3 := Lib.hid (HX3.out.below hb2); replace HX4 := Lib.hid (HX4.out.below hb2); replace hB := hB.trans (hb2.mono hB.size); replace HB1 := Lib.hid (HB1.out.trans (hb2.mono HB1.out.size))
      replace HX7 := Lib.hid (HX7.out.below hb2)
      replace HB5 := Lib.hid (HB5.out.trans (hb2.mono HB5.out.size))
      clear hb2
      have HC8 := Lib.hid hc8
      have q5 : w8.cell? ⟨w5.heap.size, 5, none⟩ = some (.int .i64 m) := by
        obtain ⟨_, _, _, _, _, q5, _⟩ := HX7.out.1
        rw [show T.lo = m by rw [HT.out]; rfl] at q5
        exact q5
      have HQ5 := Lib.hid q5
      clear hc8
      by_cases h0 : 0 < m
      · as_aux_lemma =>
        replace hX : X = s.putL (tSized (m - 1) b s) := by rw [hX, stepX, if_pos h0]
        subst hX
        obtain ⟨S8, hS8⟩ : ∃ S8 : Nat → Prop, S8 = fun q => q = w7.heap.size := ⟨_, rfl⟩
        have HS8 : Hid (∀ k, S8 k → w1.heap.size ≤ k) := Lib.hid (fun k hk => by rw [hS8] at hk; subst hk; omega)
        have HS9 : Hid (∀ k, S8 k → k < w8.heap.size) := Lib.hid (fun k hk => by rw [hS8] at hk; subst hk; exact hs8)
        have HBV := Lib.hid (fun W (h : Below w8.drew.heap.size w8.drew W) => (Below.refl _ w8).drew.trans h)
        have HR8 := Lib.hid R8
        go_wp2_with fail
        refine wp_region_part [] (kindT [(31, .fixed (TT.val s A')), (32, .fixed (.pointer (some ⟨w5.heap.size, 5, none⟩))), (33, .fixed (.int .i64 m)), (34, .fixed (.int .i64 (m - 1))), (35, .fixed (TT.val b A)), (36, .fixed (TT.val s A')), (37, .prop (fun x w => TInA S8 w (tSized (m - 1) b s) x) (fun _ _ _ h hb => h.below hb)), (38, .prop (fun x w => TInA S8 w (s.putL (tSized (m - 1) b s)) x) (fun _ _ _ h hb => h.below hb))]) 8 56 (by kernel_rfl) (by kernel_rfl) (by rfl) (by decide) (fun _ h => by cases h) (kindT_mono _) ?_ ?_
        · as_aux_lemma =>
          show ∀ o ∈ [_, _, _, _, _, _, _, _], _
          refine (tfm ?_ (tfm ?_ (tfm ?_ (tfm ?_ (tfm ?_ (tfm ?_ (tfm ?_ (tfm ?_ tfmnil))))))))
          · intro r W hc hf hs hd hB
            have hBV := HBV.out W hB
            refine want_n rfl ?_
            have e4 : r (.tmp 4) = .pointer (some ⟨w0.heap.size, 0, none⟩) := hs 4 (of_decide_eq_true (by kernel_rfl))
            exact st_value (v := TT.val s A') rfl (by decide) (run_load15 (HX4.out.below hBV).1 rfl e4) rfl
          · intro r W hc hf hs hd hB
            have hBV := HBV.out W hB
            refine want_n rfl ?_
            have e7 : r (.tmp 7) = .pointer (some ⟨w5.heap.size, 0, none⟩) := hs 7 (of_decide_eq_true (by kernel_rfl))
            exact st_value (v := .pointer (some ⟨w5.heap.size, 5, none⟩)) rfl (by decide) (by go_simp) rfl
          · intro r W hc hf hs hd hB
            have hBV := HBV.out W hB
            refine want_n rfl ?_
            have e32 : r (.tmp 32) = .pointer (some ⟨w5.heap.size, 5, none⟩) := hd 32 (by kernel_rfl)
            have g := cell_stays hBV HQ5.out
            exact st_value (v := .int .i64 m) rfl (by decide) (by go_simp) rfl
          · intro r W hc hf hs hd hB
            have hBV := HBV.out W hB
            refine want_n rfl ?_
            have e33 : r (.tmp 33) = .int .i64 m := hd 33 (by kernel_rfl)
            have hm := HM.out
            exact st_value (v := .int .i64 (m - 1)) rfl (by decide) (by go_simp <;> (rw [IntKind.wrap_i64]; omega)) rfl
          · intro r W hc hf hs hd hB
            have hBV := HBV.out W hB
            refine want_n rfl ?_
            have e3 : r (.tmp 3) = .pointer (some ⟨w.heap.size, 0, none⟩) := hs 3 (of_decide_eq_true (by kernel_rfl))
            exact st_value (v := TT.val b A) rfl (by decide) (run_load15 (HX3.out.below hBV).1 rfl e3) rfl
          · intro r W hc hf hs hd hB
            have hBV := HBV.out W hB
            refine want_n rfl ?_
            have e4 : r (.tmp 4) = .pointer (some ⟨w0.heap.size, 0, none⟩) := hs 4 (of_decide_eq_true (by kernel_rfl))
            exact st_value (v := TT.val s A') rfl (by decide) (run_load15 (HX4.out.below hBV).1 rfl e4) rfl
          · intro r W hc hf hs hd hB
            have hBV := HBV.out W hB
            refine want_n rfl ?_
            have e34 : r (.tmp 34) = .int .i64 (m - 1) := hd 34 (by kernel_rfl)
            have e35 : r (.tmp 35) = TT.val b A := hd 35 (by kernel_rfl)
            have e36 : r (.tmp 36) = TT.val s A' := hd 36 (by kernel_rfl)
            have hW := HB1.out.trans (hBV.mono HB1.out.size)
            exact st_call (f := 30) (args := #[.int .i64 (m - 1), TT.val b A, TT.val s A']) rfl (by decide) (by go_simp) (lsizedA S8 (m - 1) b s _ _ W ⟨A, rfl, HK3.out.old hW HS8.out⟩ ⟨A', rfl, HK4.out.old hW HS8.out⟩ (fun q hq => Nat.lt_of_lt_of_le (HS9.out q hq) hBV.size))
          · intro r W hc hf hs hd hB
            have hBV := HBV.out W hB
            refine want_n rfl ?_
            have e31 : r (.tmp 31) = TT.val s A' := hd 31 (by kernel_rfl)
            have h37 : TInA S8 W (tSized (m - 1) b s) (r (.tmp 37)) := hd 37 (by kernel_rfl)
            have hW := HB1.out.trans (hBV.mono HB1.out.size)
            exact st_call (f := 34) (args := #[TT.val s A', r (.tmp 37)]) rfl (by decide) (by go_simp) (tput_any s.cnt s (tSized (m - 1) b s) _ _ W S8 (Nat.le_refl _) ⟨A', rfl, HK4.out.old hW HS8.out⟩ h37 (fun q hq => Nat.lt_of_lt_of_le (HS9.out q hq) hBV.size))
        intro f w10 fuel hfuel hfd _ hB'
        have z38 : TInA S8 w10 (s.putL (tSized (m - 1) b s)) (f 38) := hfd 38 (of_decide_eq_true (by kernel_rfl))
        obtain ⟨X, hX⟩ : ∃ X, X = s.putL (tSized (m - 1) b s) := ⟨_, rfl⟩
        rw [← hX] at z38 HX8C HX8L HLAW
        clear hX
        obtain ⟨Y, z38, hY⟩ := z38
        have hb2 := HBV.out w10 hB'
        replace HX3 := Lib.hid (HX3.out.below hb2); replace HX4 := Lib.hid (HX4.out.below hb2); replace hB := hB.trans (hb2.mono hB.size); replace HB1 := Lib.hid (HB1.out.trans (hb2.mono HB1.out.size))
        replace HX7 := Lib.hid (HX7.out.below hb2)
        replace HB5 := Lib.hid (HB5.out.trans (hb2.mono HB5.out.size))
        have HR10 := Lib.hid (HR8.out.below hs8 hb2)
        obtain ⟨fuel, rfl⟩ : ∃ k, fuel = k + 1 := ⟨fuel - 1, by have h2 : 1 ≤ fuel := hfuel; omega⟩
        rw [show dstsTo 8 _ = [31, 32, 33, 34, 35, 36, 37, 38] from by kernel_rfl]
        simp only [fill, List.setIfInBounds_toArray, List.set_cons_succ, List.set_cons_zero, z38]
        obtain ⟨wz, hwz⟩ : ∃ wz, wz = setL w7.heap.size (cellsT 0 X Y) w10 := ⟨_, rfl⟩
        have hbz : ∀ lo a, lo ≤ w7.heap.size → Below lo a w10 → Below lo a wz := fun lo a h h' => by rw [hwz]; exact setL_below _ h _ _ h'
        have hkz : ∀ k, k ≠ w7.heap.size → wz.heap[k]? = w10.heap[k]? := fun k hk => by rw [hwz]; exact setL_block _ hk _ _
        have hsz : wz.heap.size = w10.heap.size := by rw [hwz]; exact setL_size _ _ _
        have HX8 : Hid (BoxA wz w7.heap.size X Y) := Lib.hid ⟨by rw [hwz]; exact cells15 HR10.out (by decide), hY wz ⟨Nat.le_of_eq hsz.symm, fun k _ hk => hkz k (fun e => hk (by rw [hS8]; exact e))⟩⟩
        replace HX7 : Hid (BoxA wz w5.heap.size T A5) := Lib.hid ⟨TCells.block (hkz _ (by omega)) HX7.out.1, HK7.out.below (hbz _ _ (by omega) HB5.out)⟩
        have hle : w.heap.size ≤ w7.heap.size := by omega
        replace hB := hbz _ _ hle hB
        refine wpAny_next (i := 8) (by kernel_rfl) (by rfl) rfl (wp_skip (w' := wz) (by rw [hwz]; exact run_store15 HR10.out (q := 0) (by decide) rfl rfl rfl) rfl ?_)
        refine wpAny_done (by kernel_rfl) ?_ _
        clear z38 hfd hfuel hY hB' hb2 hwz hbz hkz hsz HX3 HX4 HR10 HR8 HQ5 q5 R8 HBV
        have HBV := Lib.hid (fun W (h : Below wz.drew.heap.size wz.drew W) => (Below.refl _ wz).drew.trans h)
        go_wp2_with fail
        try simp only [List.append_eq, List.cons_append, List.nil_append]
        refine wp_region_all (kindT [(39, .fixed (TT.val X Y)), (40, .fixed (.bool true)), (41, .fixed (.bool true)), (42, .fixed (TT.val T A5)), (43, .fixed (.int .i64 (1 + X.Bulk))), (44, .fixed (TT.val X Y)), (45, .fixed (.int .i64 X.Bulk)), (46, .fixed (.int .i64 (1 + X.Bulk))), (47, .fixed (.bool true)), (48, .fixed (.bool true)), (49, .fixed (.bool true)), (50, .fixed (TT.val T A5)), (51, .fixed (.int .i64 X.High)), (52, .fixed (TT.val X Y)), (53, .fixed (.int .i64 X.High)), (54, .fixed (.bool true)), (55, .fixed (.bool true)), (6, .fixed (.bool true))]) 56 (by kernel_rfl) (by kernel_rfl) (by rfl) (kindT_mono _) ?_ ?_
        · as_aux_lemma =>
          show ∀ o ∈ [_, _, _, _, _, _, _, _, _, _, _, _, _, _, _, _, _, _], _
          refine (tfm ?_ (tfm ?_ (tfm ?_ (tfm ?_ (tfm ?_ (tfm ?_ (tfm ?_ (tfm ?_ (tfm ?_ (tfm ?_ (tfm ?_ (tfm ?_ (tfm ?_ (tfm ?_ (tfm ?_ (tfm ?_ (tfm ?_ (tfm ?_ tfmnil))))))))))))))))))
          · intro r W hc hf hs hd hB
            have hBV := HBV.out W hB
            refine want_n rfl ?_
            have e8 : r (.tmp 8) = .pointer (some ⟨w7.heap.size, 0, none⟩) := hs 8 (of_decide_eq_true (by kernel_rfl))
            exact st_value (v := TT.val X Y) rfl (by decide) (run_load15 (HX8.out.below hBV).1 rfl e8) rfl
          · intro r W hc hf hs hd hB
            have hBV := HBV.out W hB
            refine want_n rfl ?_
            have e39 : r (.tmp 39) = TT.val X Y := hd 39 (by kernel_rfl)
            exact st_call (f := 33) (args := #[TT.val X Y]) rfl (by decide) (by go_simp) (made_fix (by rw [HLAW.out.1]) (sound_any _ _ _ HX8C.out HX8L.out (HX8.out.below hBV).tin))
          · intro r W hc hf hs hd hB
            have hBV := HBV.out W hB
            refine want_n rfl ?_
            have e40 : r (.tmp 40) = .bool true := hd 40 (by kernel_rfl)
            exact st_value (v := .bool true) rfl (by decide) (by go_simp) rfl
          · intro r W hc hf hs hd hB
            have hBV := HBV.out W hB
            refine want_g 2 41 rfl (by kernel_rfl) (hd 41 (by kernel_rfl) : r (.tmp 41) = .bool true) ?_
            have e7 : r (.tmp 7) = .pointer (some ⟨w5.heap.size, 0, none⟩) := hs 7 (of_decide_eq_true (by kernel_rfl))
            exact st_value (v := TT.val T A5) rfl (by decide) (run_load15 (HX7.out.below hBV).1 rfl e7) rfl
          · intro r W hc hf hs hd hB
            have hBV := HBV.out W hB
            refine want_g 2 41 rfl (by kernel_rfl) (hd 41 (by kernel_rfl) : r (.tmp 41) = .bool true) ?_
            have e42 : r (.tmp 42) = TT.val T A5 := hd 42 (by kernel_rfl)
            exact st_call (f := 17) (args := #[TT.val T A5]) rfl (by decide) (by go_simp) (made_fix (by rw [HLAW.out.2.1]; rfl) (tbulk_any _ _ _ HX7C.out HX7L.out (HX7.out.below hBV).tin))
          · intro r W hc hf hs hd hB
            have hBV := HBV.out W hB
            refine want_g 2 41 rfl (by kernel_rfl) (hd 41 (by kernel_rfl) : r (.tmp 41) = .bool true) ?_
            have e8 : r (.tmp 8) = .pointer (some ⟨w7.heap.size, 0, none⟩) := hs 8 (of_decide_eq_true (by kernel_rfl))
            exact st_value (v := TT.val X Y) rfl (by decide) (run_load15 (HX8.out.below hBV).1 rfl e8) rfl
          · intro r W hc hf hs hd hB
            have hBV := HBV.out W hB
            refine want_g 2 41 rfl (by kernel_rfl) (hd 41 (by kernel_rfl) : r (.tmp 41) = .bool true) ?_
            have e44 : r (.tmp 44) = TT.val X Y := hd 44 (by kernel_rfl)
            exact st_call (f := 17) (args := #[TT.val X Y]) rfl (by decide) (by go_simp) (made_fix (rfl) (tbulk_any _ _ _ HX8C.out HX8L.out (HX8.out.below hBV).tin))
          · intro r W hc hf hs hd hB
            have hBV := HBV.out W hB
            refine want_g 2 41 rfl (by kernel_rfl) (hd 41 (by kernel_rfl) : r (.tmp 41) = .bool true) ?_
            have e45 : r (.tmp 45) = .int .i64 X.Bulk := hd 45 (by kernel_rfl)
            have hb := HLAW.out.2.2.2
            exact st_value (v := .int .i64 (1 + X.Bulk)) rfl (by decide) (by go_simp <;> (rw [IntKind.wrap_i64]; omega)) rfl
          · intro r W hc hf hs hd hB
            have hBV := HBV.out W hB
            refine want_g 2 41 rfl (by kernel_rfl) (hd 41 (by kernel_rfl) : r (.tmp 41) = .bool true) ?_
            have e43 : r (.tmp 43) = .int .i64 (1 + X.Bulk) := hd 43 (by kernel_rfl)
            have e46 : r (.tmp 46) = .int .i64 (1 + X.Bulk) := hd 46 (by kernel_rfl)
            exact st_value (v := .bool true) rfl (by decide) (by go_simp) rfl
          · intro r W hc hf hs hd hB
            have hBV := HBV.out W hB
            refine want_n rfl ?_
            have e41 : r (.tmp 41) = .bool true := hd 41 (by kernel_rfl)
            have e47 : r (.tmp 47) = .bool true := hd 47 (by kernel_rfl)
            exact st_value (v := .bool true) rfl (by decide) (by go_simp) rfl
          · intro r W hc hf hs hd hB
            have hBV := HBV.out W hB
            refine want_n rfl ?_
            have e48 : r (.tmp 48) = .bool true := hd 48 (by kernel_rfl)
            exact st_value (v := .bool true) rfl (by decide) (by go_simp) rfl
          · intro r W hc hf hs hd hB
            have hBV := HBV.out W hB
            refine want_g 10 49 rfl (by kernel_rfl) (hd 49 (by kernel_rfl) : r (.tmp 49) = .bool true) ?_
            have e7 : r (.tmp 7) = .pointer (some ⟨w5.heap.size, 0, none⟩) := hs 7 (of_decide_eq_true (by kernel_rfl))
            exact st_value (v := TT.val T A5) rfl (by decide) (run_load15 (HX7.out.below hBV).1 rfl e7) rfl
          · intro r W hc hf hs hd hB
            have hBV := HBV.out W hB
            refine want_g 10 49 rfl (by kernel_rfl) (hd 49 (by kernel_rfl) : r (.tmp 49) = .bool true) ?_
            have e50 : r (.tmp 50) = TT.val T A5 := hd 50 (by kernel_rfl)
            exact st_call (f := 19) (args := #[TT.val T A5]) rfl (by decide) (by go_simp) (made_fix (by rw [HLAW.out.2.2.1]) (thigh_any _ _ _ HX7C.out HX7L.out (HX7.out.below hBV).tin))
          · intro r W hc hf hs hd hB
            have hBV := HBV.out W hB
            refine want_g 10 49 rfl (by kernel_rfl) (hd 49 (by kernel_rfl) : r (.tmp 49) = .bool true) ?_
            have e8 : r (.tmp 8) = .pointer (some ⟨w7.heap.size, 0, none⟩) := hs 8 (of_decide_eq_true (by kernel_rfl))
            exact st_value (v := TT.val X Y) rfl (by decide) (run_load15 (HX8.out.below hBV).1 rfl e8) rfl
          · intro r W hc hf hs hd hB
            have hBV := HBV.out W hB
            refine want_g 10 49 rfl (by kernel_rfl) (hd 49 (by kernel_rfl) : r (.tmp 49) = .bool true) ?_
            have e52 : r (.tmp 52) = TT.val X Y := hd 52 (by kernel_rfl)
            exact st_call (f := 19) (args := #[TT.val X Y]) rfl (by decide) (by go_simp) (made_fix (rfl) (thigh_any _ _ _ HX8C.out HX8L.out (HX8.out.below hBV).tin))
          · intro r W hc hf hs hd hB
            have hBV := HBV.out W hB
            refine want_g 10 49 rfl (by kernel_rfl) (hd 49 (by kernel_rfl) : r (.tmp 49) = .bool true) ?_
            have e51 : r (.tmp 51) = .int .i64 X.High := hd 51 (by kernel_rfl)
            have e53 : r (.tmp 53) = .int .i64 X.High := hd 53 (by kernel_rfl)
            exact st_value (v := .bool true) rfl (by decide) (by go_simp) rfl
          · intro r W hc hf hs hd hB
            have hBV := HBV.out W hB
            refine want_n rfl ?_
            have e49 : r (.tmp 49) = .bool true := hd 49 (by kernel_rfl)
            have e54 : r (.tmp 54) = .bool true := hd 54 (by kernel_rfl)
            exact st_value (v := .bool true) rfl (by decide) (by go_simp) rfl
          · intro r W hc hf hs hd hB
            have hBV := HBV.out W hB
            refine want_n rfl ?_
            have e55 : r (.tmp 55) = .bool true := hd 55 (by kernel_rfl)
            exact st_value (v := .bool true) rfl (by decide) (by go_simp) rfl
        intro f w12 hfd hB'
        have z0 : f 6 = .bool true := hfd 6 (of_decide_eq_true (by kernel_rfl))
        have hB2 := HBV.out w12 hB'
        rw [show dstsTo _ _ = [39, 40, 41, 42, 43, 44, 45, 46, 47, 48, 49, 50, 51, 52, 53, 54, 55, 6] from by kernel_rfl]
        simp only [fill, List.setIfInBounds_toArray, List.set_cons_succ, List.set_cons_zero, z0]
        clear hfd z0 hB'
        go_wp2_with fail
        go_ret
        exact ⟨rfl, hB.trans (hB2.mono hB.size)⟩
      · as_aux_lemma =>
        replace hX : X = b := by rw [hX, stepX, if_neg h0]
        subst hX
        have HX8 : Hid (BoxA w8 w7.heap.size X A) := Lib.hid ⟨HC8.out, HX3.out.2⟩
        obtain ⟨Y, hYA⟩ : ∃ Y, Y = A := ⟨A, rfl⟩
        rw [← hYA] at HX8
        obtain ⟨wz, hwz⟩ : ∃ wz, wz = w8 := ⟨w8, rfl⟩
        subst hwz
        clear hYA R8
        have HBV := Lib.hid (fun W (h : Below wz.drew.heap.size wz.drew W) => (Below.refl _ wz).drew.trans h)
        go_wp2_with fail
        try simp only [List.append_eq, List.cons_append, List.nil_append]
        refine wp_region_all (kindT [(39, .fixed (TT.val X Y)), (40, .fixed (.bool true)), (41, .fixed (.bool true)), (42, .fixed (TT.val T A5)), (43, .fixed (.int .i64 (1 + X.Bulk))), (44, .fixed (TT.val X Y)), (45, .fixed (.int .i64 X.Bulk)), (46, .fixed (.int .i64 (1 + X.Bulk))), (47, .fixed (.bool true)), (48, .fixed (.bool true)), (49, .fixed (.bool true)), (50, .fixed (TT.val T A5)), (51, .fixed (.int .i64 X.High)), (52, .fixed (TT.val X Y)), (53, .fixed (.int .i64 X.High)), (54, .fixed (.bool true)), (55, .fixed (.bool true)), (6, .fixed (.bool true))]) 56 (by kernel_rfl) (by kernel_rfl) (by rfl) (kindT_mono _) ?_ ?_
        · as_aux_lemma =>
          show ∀ o ∈ [_, _, _, _, _, _, _, _, _, _, _, _, _, _, _, _, _, _], _
          refine (tfm ?_ (tfm ?_ (tfm ?_ (tfm ?_ (tfm ?_ (tfm ?_ (tfm ?_ (tfm ?_ (tfm ?_ (tfm ?_ (tfm ?_ (tfm ?_ (tfm ?_ (tfm ?_ (tfm ?_ (tfm ?_ (tfm ?_ (tfm ?_ tfmnil))))))))))))))))))
          · intro r W hc hf hs hd hB
            have hBV := HBV.out W hB
            refine want_n rfl ?_
            have e8 : r (.tmp 8) = .pointer (some ⟨w7.heap.size, 0, none⟩) := hs 8 (of_decide_eq_true (by kernel_rfl))
            exact st_value (v := TT.val X Y) rfl (by decide) (run_load15 (HX8.out.below hBV).1 rfl e8) rfl
          · intro r W hc hf hs hd hB
            have hBV := HBV.out W hB
            refine want_n rfl ?_
            have e39 : r (.tmp 39) = TT.val X Y := hd 39 (by kernel_rfl)
            exact st_call (f := 33) (args := #[TT.val X Y]) rfl (by decide) (by go_simp) (made_fix (by rw [HLAW.out.1]) (sound_any _ _ _ HX8C.out HX8L.out (HX8.out.below hBV).tin))
          · intro r W hc hf hs hd hB
            have hBV := HBV.out W hB
            refine want_n rfl ?_
            have e40 : r (.tmp 40) = .bool true := hd 40 (by kernel_rfl)
            exact st_value (v := .bool true) rfl (by decide) (by go_simp) rfl
          · intro r W hc hf hs hd hB
            have hBV := HBV.out W hB
            refine want_g 2 41 rfl (by kernel_rfl) (hd 41 (by kernel_rfl) : r (.tmp 41) = .bool true) ?_
            have e7 : r (.tmp 7) = .pointer (some ⟨w5.heap.size, 0, none⟩) := hs 7 (of_decide_eq_true (by kernel_rfl))
            exact st_value (v := TT.val T A5) rfl (by decide) (run_load15 (HX7.out.below hBV).1 rfl e7) rfl
          · intro r W hc hf hs hd hB
            have hBV := HBV.out W hB
            refine want_g 2 41 rfl (by kernel_rfl) (hd 41 (by kernel_rfl) : r (.tmp 41) = .bool true) ?_
            have e42 : r (.tmp 42) = TT.val T A5 := hd 42 (by kernel_rfl)
            exact st_call (f := 17) (args := #[TT.val T A5]) rfl (by decide) (by go_simp) (made_fix (by rw [HLAW.out.2.1]; rfl) (tbulk_any _ _ _ HX7C.out HX7L.out (HX7.out.below hBV).tin))
          · intro r W hc hf hs hd hB
            have hBV := HBV.out W hB
            refine want_g 2 41 rfl (by kernel_rfl) (hd 41 (by kernel_rfl) : r (.tmp 41) = .bool true) ?_
            have e8 : r (.tmp 8) = .pointer (some ⟨w7.heap.size, 0, none⟩) := hs 8 (of_decide_eq_true (by kernel_rfl))
            exact st_value (v := TT.val X Y) rfl (by decide) (run_load15 (HX8.out.below hBV).1 rfl e8) rfl
          · intro r W hc hf hs hd hB
            have hBV := HBV.out W hB
            refine want_g 2 41 rfl (by kernel_rfl) (hd 41 (by kernel_rfl) : r (.tmp 41) = .bool true) ?_
            have e44 : r (.tmp 44) = TT.val X Y := hd 44 (by kernel_rfl)
            exact st_call (f := 17) (args := #[TT.val X Y]) rfl (by decide) (by go_simp) (made_fix (rfl) (tbulk_any _ _ _ HX8C.out HX8L.out (HX8.out.below hBV).tin))
          · intro r W hc hf hs hd hB
            have hBV := HBV.out W hB
            refine want_g 2 41 rfl (by kernel_rfl) (hd 41 (by kernel_rfl) : r (.tmp 41) = .bool true) ?_
            have e45 : r (.tmp 45) = .int .i64 X.Bulk := hd 45 (by kernel_rfl)
            have hb := HLAW.out.2.2.2
            exact st_value (v := .int .i64 (1 + X.Bulk)) rfl (by decide) (by go_simp <;> (rw [IntKind.wrap_i64]; omega)) rfl
          · intro r W hc hf hs hd hB
            have hBV := HBV.out W hB
            refine want_g 2 41 rfl (by kernel_rfl) (hd 41 (by kernel_rfl) : r (.tmp 41) = .bool true) ?_
            have e43 : r (.tmp 43) = .int .i64 (1 + X.Bulk) := hd 43 (by kernel_rfl)
            have e46 : r (.tmp 46) = .int .i64 (1 + X.Bulk) := hd 46 (by kernel_rfl)
            exact st_value (v := .bool true) rfl (by decide) (by go_simp) rfl
          · intro r W hc hf hs hd hB
            have hBV := HBV.out W hB
            refine want_n rfl ?_
            have e41 : r (.tmp 41) = .bool true := hd 41 (by kernel_rfl)
            have e47 : r (.tmp 47) = .bool true := hd 47 (by kernel_rfl)
            exact st_value (v := .bool true) rfl (by decide) (by go_simp) rfl
          · intro r W hc hf hs hd hB
            have hBV := HBV.out W hB
            refine want_n rfl ?_
            have e48 : r (.tmp 48) = .bool true := hd 48 (by kernel_rfl)
            exact st_value (v := .bool true) rfl (by decide) (by go_simp) rfl
          · intro r W hc hf hs hd hB
            have hBV := HBV.out W hB
            refine want_g 10 49 rfl (by kernel_rfl) (hd 49 (by kernel_rfl) : r (.tmp 49) = .bool true) ?_
            have e7 : r (.tmp 7) = .pointer (some ⟨w5.heap.size, 0, none⟩) := hs 7 (of_decide_eq_true (by kernel_rfl))
            exact st_value (v := TT.val T A5) rfl (by decide) (run_load15 (HX7.out.below hBV).1 rfl e7) rfl
          · intro r W hc hf hs hd hB
            have hBV := HBV.out W hB
            refine want_g 10 49 rfl (by kernel_rfl) (hd 49 (by kernel_rfl) : r (.tmp 49) = .bool true) ?_
            have e50 : r (.tmp 50) = TT.val T A5 := hd 50 (by kernel_rfl)
            exact st_call (f := 19) (args := #[TT.val T A5]) rfl (by decide) (by go_simp) (made_fix (by rw [HLAW.out.2.2.1]) (thigh_any _ _ _ HX7C.out HX7L.out (HX7.out.below hBV).tin))
          · intro r W hc hf hs hd hB
            have hBV := HBV.out W hB
            refine want_g 10 49 rfl (by kernel_rfl) (hd 49 (by kernel_rfl) : r (.tmp 49) = .bool true) ?_
            have e8 : r (.tmp 8) = .pointer (some ⟨w7.heap.size, 0, none⟩) := hs 8 (of_decide_eq_true (by kernel_rfl))
            exact st_value (v := TT.val X Y) rfl (by decide) (run_load15 (HX8.out.below hBV).1 rfl e8) rfl
          · intro r W hc hf hs hd hB
            have hBV := HBV.out W hB
            refine want_g 10 49 rfl (by kernel_rfl) (hd 49 (by kernel_rfl) : r (.tmp 49) = .bool true) ?_
            have e52 : r (.tmp 52) = TT.val X Y := hd 52 (by kernel_rfl)
            exact st_call (f := 19) (args := #[TT.val X Y]) rfl (by decide) (by go_simp) (made_fix (rfl) (thigh_any _ _ _ HX8C.out HX8L.out (HX8.out.below hBV).tin))
          · intro r W hc hf hs hd hB
            have hBV := HBV.out W hB
            refine want_g 10 49 rfl (by kernel_rfl) (hd 49 (by kernel_rfl) : r (.tmp 49) = .bool true) ?_
            have e51 : r (.tmp 51) = .int .i64 X.High := hd 51 (by kernel_rfl)
            have e53 : r (.tmp 53) = .int .i64 X.High := hd 53 (by kernel_rfl)
            exact st_value (v := .bool true) rfl (by decide) (by go_simp) rfl
          · intro r W hc hf hs hd hB
            have hBV := HBV.out W hB
            refine want_n rfl ?_
            have e49 : r (.tmp 49) = .bool true := hd 49 (by kernel_rfl)
            have e54 : r (.tmp 54) = .bool true := hd 54 (by kernel_rfl)
            exact st_value (v := .bool true) rfl (by decide) (by go_simp) rfl
          · intro r W hc hf hs hd hB
            have hBV := HBV.out W hB
            refine want_n rfl ?_
            have e55 : r (.tmp 55) = .bool true := hd 55 (by kernel_rfl)
            exact st_value (v := .bool true) rfl (by decide) (by go_simp) rfl
        intro f w12 hfd hB'
        have z0 : f 6 = .bool true := hfd 6 (of_decide_eq_true (by kernel_rfl))
        have hB2 := HBV.out w12 hB'
        rw [show dstsTo _ _ = [39, 40, 41, 42, 43, 44, 45, 46, 47, 48, 49, 50, 51, 52, 53, 54, 55, 6] from by kernel_rfl]
        simp only [fill, List.setIfInBounds_toArray, List.set_cons_succ, List.set_cons_zero, z0]
        clear hfd z0 hB'
        go_wp2_with fail
        go_ret
        exact ⟨rfl, hB.trans (hB2.mono hB.size)⟩
  · go_wp2_with fail
    refine (tawake_any _).mono ?_
    rintro e w4 ⟨rfl, hb4⟩
    go_wp2_with fail
    go_ret
    exact ⟨rfl, hB.trans (hb4.mono hB.size)⟩
end Go.Proofs.Ytapofbdkofelkaa
/- TermStep: the law returns true for all that can be read, and what was handed in reads afterwards as it read before. -/
namespace Go.Proofs.Ytapofbdkofelkaa
open Go.ChangeShapes Go.WideShapes Go.ChangeAt Go.RowKit

set_option maxRecDepth 100000 in
theorem termStep_lifted (os : Os) (started : os.Started) (H : Type) (enc : TypeId × Value → H) :
    ReturnsInHanded {} Try.checked os 6 .any (Rows.termStepSpec.pre6 enc Try.prog Try.f6 Rows.termStepRow.domain false) (Rows.termStepSpec.post enc Try.prog Try.f6 false true false false) := by
  refine returnsInHanded_of_change_sized (C := Try.checked) Try.own started (by kernel_rfl) Try.func6
    (ChangeSpec.witness6 (enc := enc) (C := Try.checked) false ⟨#[], #[.agg #[.int .u8 0, .int .u8 0, .int .i64 0, .slice none 0 0, .slice none 0 0, .int .i64 0, .int .i64 0, .slice none 0 0, .int .u8 0, .int .u8 0, .int .i64 0, .slice none 0 0, .int .i64 0, .slice none 0 0, .slice none 0 0], .agg #[.int .u8 0, .int .u8 0, .int .i64 0, .slice none 0 0, .slice none 0 0, .int .i64 0, .int .i64 0, .slice none 0 0, .int .u8 0, .int .u8 0, .int .i64 0, .slice none 0 0, .int .i64 0, .slice none 0 0, .slice none 0 0], .int .u8 0], []⟩ 8 (by kernel_rfl) (by kernel_rfl) (by kernel_rfl) (by kernel_rfl)) ?_
  intro W base args ds gs before hval0 hW hcnd hsz hass
  have hval : ∀ (j : Nat) t v, Try.f6.params[j]? = some t → args[j]? = some v → Value.okWide Try.prog W .any base t v := hval0
  have hW' := hW
  obtain ⟨p, q, hA0, hV, rfl, hfz, hnd⟩ := hW
  have hA : DataW.TrodAll enc Try.prog W 0 (fun _ => true) true Try.f6.params.toList args.toList ds p := hA0
  rw [Try.params6] at hA hval
  obtain ⟨v0, v1, v2, d0, d1, d2, p0, p1, p2, rfl, rfl, rfl, h0, h1, h2⟩ := trodAll_three hA
  obtain ⟨rfl, rfl⟩ := trodVars_none hV
  have hsz' : (DataW.weightsEach Try.prog [31, 31, 5] ([d0, d1, d2] ++ [])).all (· ≤ reachBytes) = true := hsz
  simp only [List.append_nil, DataW.weightsEach, List.all_append, Bool.and_eq_true] at hsz'
  obtain ⟨a0, ha0⟩ := open_term (hval 0 31 v0 rfl rfl) h0 hsz'.1
  obtain ⟨a1, ha1⟩ := open_term (hval 1 31 v1 rfl rfl) h1 hsz'.2.1
  obtain ⟨a2, rfl, la2, ua2⟩ := open_u8 (hval 2 5 v2 rfl rfl)
  refine (termStep_any a0 v0 a1 v1 a2 W ha0 ha1 la2 ua2).mono fun e W' ⟨he, hbw⟩ => ?_
  subst he
  exact ⟨_, rfl, law_post rfl rfl (by rw [Try.params6]; intro t ht; simp at ht; rcases ht with rfl | rfl <;> exact ⟨by kernel_rfl, of_decide_eq_true (by kernel_rfl)⟩) hW' ⟨rfl, rfl, rfl⟩ hbw⟩

theorem termStep_holds : Rows.TermStepSaid :=
  OpenClaim.holds_of_wide 6 Try.f6 rfl rfl rfl rfl rfl rfl rfl ⟨rfl, rfl, rfl, rfl, rfl⟩ rfl rfl rfl rfl rfl (by kernel_rfl) Try.func6 (by kernel_rfl)
    (of_decide_eq_true (by kernel_rfl)) (by unfold Func.isWrapper; first | (rw [if_pos (by decide +kernel)]; kernel_rfl) | (rw [if_neg (by decide +kernel)]; exact ⟨rfl, rfl⟩))
    (fun os started H enc _ => termStep_lifted os started H enc)
end Go.Proofs.Ytapofbdkofelkaa
