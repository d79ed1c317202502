/- TermChecks: the law returns true for all that can be read, and what was handed in reads afterwards as it read before. -/
import Derived.Test.YtapofbdkofelkaaGreatM62
import Derived.Test.YtapofbdkofelkaaGreatM61
import Derived.Test.YtapofbdkofelkaaGreatM37
import Derived.Test.YtapofbdkofelkaaGreatM38
/- TermChecks: the law's function, walked. -/
namespace Go.Proofs.YtapofbdkofelkaaGreat
open Go.RowKit

set_option maxRecDepth 100000 in
set_option maxHeartbeats 8000000 in
theorem termChecks_any (t : TT) (x : Value) (u : TT) (y : Value) (w : World) (hx : TIn w t x) (hy : TIn w u y) : Calls Tryz.prog 3 #[x, y] w fun e w' => e = .returned (.bool true) ∧ Below w.heap.size w w' := by
  obtain ⟨A, rfl, hok⟩ := hx
  obtain ⟨A', rfl, hok'⟩ := hy
  obtain ⟨w0, hw0, m0, s0, hc2, _⟩ := row1_new w t A
  obtain ⟨w1, hw1, m1, s1, hc3, _⟩ := row1_new w0 u A'
  have hBA : Below w.heap.size w w1 := m0.trans (m1.mono (Nat.le_of_lt s0))
  have HX : Hid (BoxA w1 w.heap.size t A) := Lib.hid ⟨hc2.below m1, hok.below hBA⟩
  have HY : Hid (BoxA w1 w0.heap.size u A') := Lib.hid ⟨hc3, hok'.below hBA⟩
  obtain ⟨lg, hlg⟩ : ∃ lg, lg = TT.long [t, u] := ⟨_, rfl⟩
  have HLG := Lib.hid hlg; clear hlg hc2 hc3 hok hok' m0 m1
  obtain ⟨z1, hz1⟩ : ∃ z, z = t.check.1 := ⟨_, rfl⟩
  obtain ⟨z2, hz2⟩ : ∃ z, z = t.check.2 := ⟨_, rfl⟩
  have HZ1 := Lib.hid hz1.symm; have HZ2 := Lib.hid hz2.symm
  have HMAY : Hid ((z2 == 0) = t.may) := Lib.hid (by rw [hz2]; rfl)
  have HSM : Hid (TT.same t t = true) := Lib.hid (TT.same_refl t)
  clear hz1 hz2
  unfold TT.val
  go_enter Tryz.func3, Tryz.ntmps3
  go_wp2_with (first | refine wpList_load15 (by rfl) (by rfl) (by rfl) HX.out.1 ?_ | refine wpList_load15 (by rfl) (by rfl) (by rfl) HY.out.1 ?_ | refine wpList_row2 (s := t) (t := u) (by rfl) (by rfl) (by rfl) (by rfl) HX.out.2 HY.out.2 ?_)
  intro w2 hrow hb2
  replace HX := Lib.hid (HX.out.below hb2); replace HY := Lib.hid (HY.out.below hb2)
  replace hBA := hBA.trans (hb2.mono hBA.size)
  clear hb2
  go_wp2_with fail
  refine (tlong_any [t, u] _ 2 w2 (by simp) hrow).mono ?_
  rintro e w3 ⟨rfl, hb3⟩
  rw [← HLG.out]
  replace HX := Lib.hid (HX.out.below hb3); replace HY := Lib.hid (HY.out.below hb3)
  replace hBA := hBA.trans (hb3.mono hBA.size)
  clear hb3
  clear hrow
  cases lg
  · obtain ⟨hcn, hln⟩ := TT.not_long HLG.out.symm
    simp only [TT.cnts, TT.leans, Bool.and_eq_true, Nat.add_zero, and_true] at hcn hln
    have HL := Lib.hid hln.1; have HC : Hid (t.cnt ≤ 3000000) := Lib.hid (by omega)
    clear hln hcn
    go_wp2_with (refine wpList_load15 (by rfl) (by rfl) (by rfl) HX.out.1 ?_)
    refine (tcheck_any t _ _ HC.out HL.out HX.out.tin).mono ?_
    rintro e w4 ⟨rfl, hb4⟩
    rw [HZ1.out, HZ2.out]
    replace HX := Lib.hid (HX.out.below hb4); replace HY := Lib.hid (HY.out.below hb4)
    replace hBA := hBA.trans (hb4.mono hBA.size)
    clear hb4
    go_wp2_with (refine wpList_load15 (by rfl) (by rfl) (by rfl) HX.out.1 ?_)
    refine (rtCheck_any t _ _ HC.out HL.out HX.out.tin).mono ?_
    rintro e w5 ⟨rfl, hb5⟩
    rw [HZ1.out, HZ2.out]
    replace HX := Lib.hid (HX.out.below hb5); replace HY := Lib.hid (HY.out.below hb5)
    replace hBA := hBA.trans (hb5.mono hBA.size)
    clear hb5
    go_wp2_with fail
    have HBV := Lib.hid (fun W (h : Below w5.drew.heap.size w5.drew W) => (Below.refl _ w5).drew.trans h)
    try simp only [List.append_eq, List.cons_append, List.nil_append]
    refine wp_region_allW (kindT [(24, .fixed (.int .i64 z1)), (25, .fixed (.int .i64 z1)), (26, .fixed (.bool true)), (27, .fixed (.bool true)), (28, .fixed (.int .i64 z2)), (29, .fixed (.int .i64 z2)), (30, .fixed (.bool true)), (31, .fixed (.bool true)), (32, .fixed (.bool true)), (33, .fixed (TT.val t A)), (34, .fixed (.int .i64 t.node)), (35, .fixed (TT.val t A)), (36, .fixed (.int .i64 t.node)), (37, .fixed (.bool true)), (38, .fixed (.bool true)), (39, .fixed (.bool true)), (40, .fixed (TT.val t A)), (41, .fixed (.bool t.may)), (42, .fixed (.int .i64 z2)), (43, .fixed (.bool t.may)), (44, .fixed (.bool true)), (45, .fixed (.bool true)), (46, .fixed (.bool true)), (47, .fixed (TT.val t A)), (48, .fixed (.bool t.sound)), (49, .fixed (TT.val t A)), (50, .fixed (.bool t.sound)), (51, .fixed (.bool true)), (52, .fixed (.bool true)), (53, .fixed (.bool true)), (54, .fixed (TT.val t A)), (55, .fixed (TT.val u A')), (56, .fixed (.bool (TT.same t u))), (57, .fixed (TT.val t A)), (58, .fixed (TT.val u A')), (59, .fixed (.bool (TT.same t u))), (60, .fixed (.bool true)), (61, .fixed (.bool true)), (62, .fixed (.bool true)), (63, .fixed (TT.val t A)), (64, .fixed (TT.val t A)), (65, .fixed (.bool true)), (66, .fixed (.bool true)), (67, .fixed (.bool true)), (68, .fixed (.bool true)), (69, .fixed (.bool true)), (4, .fixed (.bool true))]) 70 (by kernel_rfl) (by kernel_rfl) (by rfl) (kindT_mono _) ?_ ?_
    · as_aux_lemma =>
      show ∀ o ∈ [(0, _), (1, _), (2, _), (3, _), (4, _), (5, _), (6, _), (7, _), (8, _), (9, _), (10, _), (11, _), (12, _), (13, _), (14, _), (15, _), (16, _), (17, _), (18, _), (19, _), (20, _), (21, _), (22, _), (23, _), (24, _), (25, _), (26, _), (27, _), (28, _), (29, _), (30, _), (31, _), (32, _), (33, _), (34, _), (35, _), (36, _), (37, _), (38, _), (39, _), (40, _), (41, _), (42, _), (43, _), (44, _), (45, _), (46, _)], _
      refine (tfm ?_ (tfm ?_ (tfm ?_ (tfm ?_ (tfm ?_ (tfm ?_ (tfm ?_ (tfm ?_ (tfm ?_ (tfm ?_ (tfm ?_ (tfm ?_ (tfm ?_ (tfm ?_ (tfm ?_ (tfm ?_ (tfm ?_ (tfm ?_ (tfm ?_ (tfm ?_ (tfm ?_ (tfm ?_ (tfm ?_ (tfm ?_ (tfm ?_ (tfm ?_ (tfm ?_ (tfm ?_ (tfm ?_ (tfm ?_ (tfm ?_ (tfm ?_ (tfm ?_ (tfm ?_ (tfm ?_ (tfm ?_ (tfm ?_ (tfm ?_ (tfm ?_ (tfm ?_ (tfm ?_ (tfm ?_ (tfm ?_ (tfm ?_ (tfm ?_ (tfm ?_ (tfm ?_ tfmnil)))))))))))))))))))))))))))))))))))))))))))))))
      · intro r W hc hf hs hd hB
        have hBV := HBV.out W hB
        refine want_n rfl ?_
        have e5 : r (.tmp 5) = .int .i64 z1 := hs 5 (by kernel_rfl)
        exact st_value (v := .int .i64 z1) rfl (by decide) (by go_simp) rfl
      · intro r W hc hf hs hd hB
        have hBV := HBV.out W hB
        refine want_n rfl ?_
        have e7 : r (.tmp 7) = .int .i64 z1 := hs 7 (by kernel_rfl)
        exact st_value (v := .int .i64 z1) rfl (by decide) (by go_simp) rfl
      · intro r W hc hf hs hd hB
        have hBV := HBV.out W hB
        refine want_n rfl ?_
        have e24 : r (.tmp 24) = .int .i64 z1 := hd 24 (by kernel_rfl)
        have e25 : r (.tmp 25) = .int .i64 z1 := hd 25 (by kernel_rfl)
        exact st_value (v := .bool true) rfl (by decide) (by go_simp) rfl
      · intro r W hc hf hs hd hB
        have hBV := HBV.out W hB
        refine want_n rfl ?_
        have e26 : r (.tmp 26) = .bool true := hd 26 (by kernel_rfl)
        exact st_value (v := .bool true) rfl (by decide) (by go_simp) rfl
      · intro r W hc hf hs hd hB
        have hBV := HBV.out W hB
        refine want_g 3 27 rfl (by kernel_rfl) (hd 27 (by kernel_rfl) : r (.tmp 27) = .bool true) ?_
        have e6 : r (.tmp 6) = .int .i64 z2 := hs 6 (by kernel_rfl)
        exact st_value (v := .int .i64 z2) rfl (by decide) (by go_simp) rfl
      · intro r W hc hf hs hd hB
        have hBV := HBV.out W hB
        refine want_g 3 27 rfl (by kernel_rfl) (hd 27 (by kernel_rfl) : r (.tmp 27) = .bool true) ?_
        have e8 : r (.tmp 8) = .int .i64 z2 := hs 8 (by kernel_rfl)
        exact st_value (v := .int .i64 z2) rfl (by decide) (by go_simp) rfl
      · intro r W hc hf hs hd hB
        have hBV := HBV.out W hB
        refine want_g 3 27 rfl (by kernel_rfl) (hd 27 (by kernel_rfl) : r (.tmp 27) = .bool true) ?_
        have e28 : r (.tmp 28) = .int .i64 z2 := hd 28 (by kernel_rfl)
        have e29 : r (.tmp 29) = .int .i64 z2 := hd 29 (by kernel_rfl)
        exact st_value (v := .bool true) rfl (by decide) (by go_simp) rfl
      · intro r W hc hf hs hd hB
        have hBV := HBV.out W hB
        refine want_n rfl ?_
        have e27 : r (.tmp 27) = .bool true := hd 27 (by kernel_rfl)
        have e30 : r (.tmp 30) = .bool true := hd 30 (by kernel_rfl)
        exact st_value (v := .bool true) rfl (by decide) (by go_simp) rfl
      · intro r W hc hf hs hd hB
        have hBV := HBV.out W hB
        refine want_n rfl ?_
        have e31 : r (.tmp 31) = .bool true := hd 31 (by kernel_rfl)
        exact st_value (v := .bool true) rfl (by decide) (by go_simp) rfl
      · intro r W hc hf hs hd hB
        have hBV := HBV.out W hB
        refine want_g 8 32 rfl (by kernel_rfl) (hd 32 (by kernel_rfl) : r (.tmp 32) = .bool true) ?_
        have e2 : r (.tmp 2) = .pointer (some ⟨w.heap.size, 0, none⟩) := hs 2 (by kernel_rfl)
        exact st_value (v := TT.val t A) rfl (by decide) (run_load15 (HX.out.1.below hBV) rfl e2) rfl
      · intro r W hc hf hs hd hB
        have hBV := HBV.out W hB
        refine want_g 8 32 rfl (by kernel_rfl) (hd 32 (by kernel_rfl) : r (.tmp 32) = .bool true) ?_
        have e33 : r (.tmp 33) = TT.val t A := hd 33 (by kernel_rfl)
        exact st_call (f := 8) (args := #[TT.val t A]) rfl (by decide) (by go_simp) (made_fix rfl (tnode_any t _ W HL.out ⟨A, rfl, HX.out.2.below hBV⟩))
      · intro r W hc hf hs hd hB
        have hBV := HBV.out W hB
        refine want_g 8 32 rfl (by kernel_rfl) (hd 32 (by kernel_rfl) : r (.tmp 32) = .bool true) ?_
        have e2 : r (.tmp 2) = .pointer (some ⟨w.heap.size, 0, none⟩) := hs 2 (by kernel_rfl)
        exact st_value (v := TT.val t A) rfl (by decide) (run_load15 (HX.out.1.below hBV) rfl e2) rfl
      · intro r W hc hf hs hd hB
        have hBV := HBV.out W hB
        refine want_g 8 32 rfl (by kernel_rfl) (hd 32 (by kernel_rfl) : r (.tmp 32) = .bool true) ?_
        have e35 : r (.tmp 35) = TT.val t A := hd 35 (by kernel_rfl)
        exact st_call (f := 9) (args := #[TT.val t A]) rfl (by decide) (by go_simp) (made_fix rfl (rtnode_any t _ W HL.out ⟨A, rfl, HX.out.2.below hBV⟩))
      · intro r W hc hf hs hd hB
        have hBV := HBV.out W hB
        refine want_g 8 32 rfl (by kernel_rfl) (hd 32 (by kernel_rfl) : r (.tmp 32) = .bool true) ?_
        have e34 : r (.tmp 34) = .int .i64 t.node := hd 34 (by kernel_rfl)
        have e36 : r (.tmp 36) = .int .i64 t.node := hd 36 (by kernel_rfl)
        exact st_value (v := .bool true) rfl (by decide) (by go_simp) rfl
      · intro r W hc hf hs hd hB
        have hBV := HBV.out W hB
        refine want_n rfl ?_
        have e32 : r (.tmp 32) = .bool true := hd 32 (by kernel_rfl)
        have e37 : r (.tmp 37) = .bool true := hd 37 (by kernel_rfl)
        exact st_value (v := .bool true) rfl (by decide) (by go_simp) rfl
      · intro r W hc hf hs hd hB
        have hBV := HBV.out W hB
        refine want_n rfl ?_
        have e38 : r (.tmp 38) = .bool true := hd 38 (by kernel_rfl)
        exact st_value (v := .bool true) rfl (by decide) (by go_simp) rfl
      · intro r W hc hf hs hd hB
        have hBV := HBV.out W hB
        refine want_g 15 39 rfl (by kernel_rfl) (hd 39 (by kernel_rfl) : r (.tmp 39) = .bool true) ?_
        have e2 : r (.tmp 2) = .pointer (some ⟨w.heap.size, 0, none⟩) := hs 2 (by kernel_rfl)
        exact st_value (v := TT.val t A) rfl (by decide) (run_load15 (HX.out.1.below hBV) rfl e2) rfl
      · intro r W hc hf hs hd hB
        have hBV := HBV.out W hB
        refine want_g 15 39 rfl (by kernel_rfl) (hd 39 (by kernel_rfl) : r (.tmp 39) = .bool true) ?_
        have e40 : r (.tmp 40) = TT.val t A := hd 40 (by kernel_rfl)
        exact st_call (f := 10) (args := #[TT.val t A]) rfl (by decide) (by go_simp) (made_fix rfl (tmay_any t _ W HC.out HL.out ⟨A, rfl, HX.out.2.below hBV⟩))
      · intro r W hc hf hs hd hB
        have hBV := HBV.out W hB
        refine want_g 15 39 rfl (by kernel_rfl) (hd 39 (by kernel_rfl) : r (.tmp 39) = .bool true) ?_
        have e8 : r (.tmp 8) = .int .i64 z2 := hs 8 (by kernel_rfl)
        exact st_value (v := .int .i64 z2) rfl (by decide) (by go_simp) rfl
      · intro r W hc hf hs hd hB
        have hBV := HBV.out W hB
        refine want_g 15 39 rfl (by kernel_rfl) (hd 39 (by kernel_rfl) : r (.tmp 39) = .bool true) ?_
        have e42 : r (.tmp 42) = .int .i64 z2 := hd 42 (by kernel_rfl)
        exact st_value (v := .bool t.may) rfl (by decide) (by have h := HMAY.out; go_simp) rfl
      · intro r W hc hf hs hd hB
        have hBV := HBV.out W hB
        refine want_g 15 39 rfl (by kernel_rfl) (hd 39 (by kernel_rfl) : r (.tmp 39) = .bool true) ?_
        have e41 : r (.tmp 41) = .bool t.may := hd 41 (by kernel_rfl)
        have e43 : r (.tmp 43) = .bool t.may := hd 43 (by kernel_rfl)
        exact st_value (v := .bool true) rfl (by decide) (by go_simp) rfl
      · intro r W hc hf hs hd hB
        have hBV := HBV.out W hB
        refine want_n rfl ?_
        have e39 : r (.tmp 39) = .bool true := hd 39 (by kernel_rfl)
        have e44 : r (.tmp 44) = .bool true := hd 44 (by kernel_rfl)
        exact st_value (v := .bool true) rfl (by decide) (by go_simp) rfl
      · intro r W hc hf hs hd hB
        have hBV := HBV.out W hB
        refine want_n rfl ?_
        have e45 : r (.tmp 45) = .bool true := hd 45 (by kernel_rfl)
        exact st_value (v := .bool true) rfl (by decide) (by go_simp) rfl
      · intro r W hc hf hs hd hB
        have hBV := HBV.out W hB
        refine want_g 22 46 rfl (by kernel_rfl) (hd 46 (by kernel_rfl) : r (.tmp 46) = .bool true) ?_
        have e2 : r (.tmp 2) = .pointer (some ⟨w.heap.size, 0, none⟩) := hs 2 (by kernel_rfl)
        exact st_value (v := TT.val t A) rfl (by decide) (run_load15 (HX.out.1.below hBV) rfl e2) rfl
      · intro r W hc hf hs hd hB
        have hBV := HBV.out W hB
        refine want_g 22 46 rfl (by kernel_rfl) (hd 46 (by kernel_rfl) : r (.tmp 46) = .bool true) ?_
        have e47 : r (.tmp 47) = TT.val t A := hd 47 (by kernel_rfl)
        exact st_call (f := 11) (args := #[TT.val t A]) rfl (by decide) (by go_simp) (made_fix rfl (sound_any t _ W HC.out HL.out ⟨A, rfl, HX.out.2.below hBV⟩))
      · intro r W hc hf hs hd hB
        have hBV := HBV.out W hB
        refine want_g 22 46 rfl (by kernel_rfl) (hd 46 (by kernel_rfl) : r (.tmp 46) = .bool true) ?_
        have e2 : r (.tmp 2) = .pointer (some ⟨w.heap.size, 0, none⟩) := hs 2 (by kernel_rfl)
        exact st_value (v := TT.val t A) rfl (by decide) (run_load15 (HX.out.1.below hBV) rfl e2) rfl
      · intro r W hc hf hs hd hB
        have hBV := HBV.out W hB
        refine want_g 22 46 rfl (by kernel_rfl) (hd 46 (by kernel_rfl) : r (.tmp 46) = .bool true) ?_
        have e49 : r (.tmp 49) = TT.val t A := hd 49 (by kernel_rfl)
        exact st_call (f := 12) (args := #[TT.val t A]) rfl (by decide) (by go_simp) (made_fix rfl (rtSound_any t _ W HC.out HL.out ⟨A, rfl, HX.out.2.below hBV⟩))
      · intro r W hc hf hs hd hB
        have hBV := HBV.out W hB
        refine want_g 22 46 rfl (by kernel_rfl) (hd 46 (by kernel_rfl) : r (.tmp 46) = .bool true) ?_
        have e48 : r (.tmp 48) = .bool t.sound := hd 48 (by kernel_rfl)
        have e50 : r (.tmp 50) = .bool t.sound := hd 50 (by kernel_rfl)
        exact st_value (v := .bool true) rfl (by decide) (by go_simp) rfl
      · intro r W hc hf hs hd hB
        have hBV := HBV.out W hB
        refine want_n rfl ?_
        have e46 : r (.tmp 46) = .bool true := hd 46 (by kernel_rfl)
        have e51 : r (.tmp 51) = .bool true := hd 51 (by kernel_rfl)
        exact st_value (v := .bool true) rfl (by decide) (by go_simp) rfl
      · intro r W hc hf hs hd hB
        have hBV := HBV.out W hB
        refine want_n rfl ?_
        have e52 : r (.tmp 52) = .bool true := hd 52 (by kernel_rfl)
        exact st_value (v := .bool true) rfl (by decide) (by go_simp) rfl
      · intro r W hc hf hs hd hB
        have hBV := HBV.out W hB
        refine want_g 29 53 rfl (by kernel_rfl) (hd 53 (by kernel_rfl) : r (.tmp 53) = .bool true) ?_
        have e2 : r (.tmp 2) = .pointer (some ⟨w.heap.size, 0, none⟩) := hs 2 (by kernel_rfl)
        exact st_value (v := TT.val t A) rfl (by decide) (run_load15 (HX.out.1.below hBV) rfl e2) rfl
      · intro r W hc hf hs hd hB
        have hBV := HBV.out W hB
        refine want_g 29 53 rfl (by kernel_rfl) (hd 53 (by kernel_rfl) : r (.tmp 53) = .bool true) ?_
        have e3 : r (.tmp 3) = .pointer (some ⟨w0.heap.size, 0, none⟩) := hs 3 (by kernel_rfl)
        exact st_value (v := TT.val u A') rfl (by decide) (run_load15 (HY.out.1.below hBV) rfl e3) rfl
      · intro r W hc hf hs hd hB
        have hBV := HBV.out W hB
        refine want_g 29 53 rfl (by kernel_rfl) (hd 53 (by kernel_rfl) : r (.tmp 53) = .bool true) ?_
        have e54 : r (.tmp 54) = TT.val t A := hd 54 (by kernel_rfl)
        have e55 : r (.tmp 55) = TT.val u A' := hd 55 (by kernel_rfl)
        exact st_call (f := 13) (args := #[TT.val t A, TT.val u A']) rfl (by decide) (by go_simp) (made_fix rfl (tsame_any t.cnt t u _ _ W (Nat.le_refl _) ⟨A, rfl, HX.out.2.below hBV⟩ ⟨A', rfl, HY.out.2.below hBV⟩))
      · intro r W hc hf hs hd hB
        have hBV := HBV.out W hB
        refine want_g 29 53 rfl (by kernel_rfl) (hd 53 (by kernel_rfl) : r (.tmp 53) = .bool true) ?_
        have e2 : r (.tmp 2) = .pointer (some ⟨w.heap.size, 0, none⟩) := hs 2 (by kernel_rfl)
        exact st_value (v := TT.val t A) rfl (by decide) (run_load15 (HX.out.1.below hBV) rfl e2) rfl
      · intro r W hc hf hs hd hB
        have hBV := HBV.out W hB
        refine want_g 29 53 rfl (by kernel_rfl) (hd 53 (by kernel_rfl) : r (.tmp 53) = .bool true) ?_
        have e3 : r (.tmp 3) = .pointer (some ⟨w0.heap.size, 0, none⟩) := hs 3 (by kernel_rfl)
        exact st_value (v := TT.val u A') rfl (by decide) (run_load15 (HY.out.1.below hBV) rfl e3) rfl
      · intro r W hc hf hs hd hB
        have hBV := HBV.out W hB
        refine want_g 29 53 rfl (by kernel_rfl) (hd 53 (by kernel_rfl) : r (.tmp 53) = .bool true) ?_
        have e57 : r (.tmp 57) = TT.val t A := hd 57 (by kernel_rfl)
        have e58 : r (.tmp 58) = TT.val u A' := hd 58 (by kernel_rfl)
        exact st_call (f := 14) (args := #[TT.val t A, TT.val u A']) rfl (by decide) (by go_simp) (made_fix rfl (rtsame_any t.cnt t u _ _ W (Nat.le_refl _) ⟨A, rfl, HX.out.2.below hBV⟩ ⟨A', rfl, HY.out.2.below hBV⟩))
      · intro r W hc hf hs hd hB
        have hBV := HBV.out W hB
        refine want_g 29 53 rfl (by kernel_rfl) (hd 53 (by kernel_rfl) : r (.tmp 53) = .bool true) ?_
        have e56 : r (.tmp 56) = .bool (TT.same t u) := hd 56 (by kernel_rfl)
        have e59 : r (.tmp 59) = .bool (TT.same t u) := hd 59 (by kernel_rfl)
        exact st_value (v := .bool true) rfl (by decide) (by go_simp) rfl
      · intro r W hc hf hs hd hB
        have hBV := HBV.out W hB
        refine want_n rfl ?_
        have e53 : r (.tmp 53) = .bool true := hd 53 (by kernel_rfl)
        have e60 : r (.tmp 60) = .bool true := hd 60 (by kernel_rfl)
        exact st_value (v := .bool true) rfl (by decide) (by go_simp) rfl
      · intro r W hc hf hs hd hB
        have hBV := HBV.out W hB
        refine want_n rfl ?_
        have e61 : r (.tmp 61) = .bool true := hd 61 (by kernel_rfl)
        exact st_value (v := .bool true) rfl (by decide) (by go_simp) rfl
      · intro r W hc hf hs hd hB
        have hBV := HBV.out W hB
        refine want_g 38 62 rfl (by kernel_rfl) (hd 62 (by kernel_rfl) : r (.tmp 62) = .bool true) ?_
        have e2 : r (.tmp 2) = .pointer (some ⟨w.heap.size, 0, none⟩) := hs 2 (by kernel_rfl)
        exact st_value (v := TT.val t A) rfl (by decide) (run_load15 (HX.out.1.below hBV) rfl e2) rfl
      · intro r W hc hf hs hd hB
        have hBV := HBV.out W hB
        refine want_g 38 62 rfl (by kernel_rfl) (hd 62 (by kernel_rfl) : r (.tmp 62) = .bool true) ?_
        have e2 : r (.tmp 2) = .pointer (some ⟨w.heap.size, 0, none⟩) := hs 2 (by kernel_rfl)
        exact st_value (v := TT.val t A) rfl (by decide) (run_load15 (HX.out.1.below hBV) rfl e2) rfl
      · intro r W hc hf hs hd hB
        have hBV := HBV.out W hB
        refine want_g 38 62 rfl (by kernel_rfl) (hd 62 (by kernel_rfl) : r (.tmp 62) = .bool true) ?_
        have e63 : r (.tmp 63) = TT.val t A := hd 63 (by kernel_rfl)
        have e64 : r (.tmp 64) = TT.val t A := hd 64 (by kernel_rfl)
        exact st_call (f := 13) (args := #[TT.val t A, TT.val t A]) rfl (by decide) (by go_simp) (made_fix (by rw [HSM.out]) (tsame_any t.cnt t t _ _ W (Nat.le_refl _) ⟨A, rfl, HX.out.2.below hBV⟩ ⟨A, rfl, HX.out.2.below hBV⟩))
      · intro r W hc hf hs hd hB
        have hBV := HBV.out W hB
        refine want_n rfl ?_
        have e62 : r (.tmp 62) = .bool true := hd 62 (by kernel_rfl)
        have e65 : r (.tmp 65) = .bool true := hd 65 (by kernel_rfl)
        exact st_value (v := .bool true) rfl (by decide) (by go_simp) rfl
      · intro r W hc hf hs hd hB
        have hBV := HBV.out W hB
        refine want_n rfl ?_
        have e66 : r (.tmp 66) = .bool true := hd 66 (by kernel_rfl)
        exact st_value (v := .bool true) rfl (by decide) (by go_simp) rfl
      · intro r W hc hf hs hd hB
        have hBV := HBV.out W hB
        refine want_g 43 67 rfl (by kernel_rfl) (hd 67 (by kernel_rfl) : r (.tmp 67) = .bool true) ?_
        exact st_call (f := 5) (args := #[]) rfl (by decide) (by go_simp) (made_fix rfl (tawake_any W))
      · intro r W hc hf hs hd hB
        have hBV := HBV.out W hB
        refine want_n rfl ?_
        have e67 : r (.tmp 67) = .bool true := hd 67 (by kernel_rfl)
        have e68 : r (.tmp 68) = .bool true := hd 68 (by kernel_rfl)
        exact st_value (v := .bool true) rfl (by decide) (by go_simp) rfl
      · intro r W hc hf hs hd hB
        have hBV := HBV.out W hB
        refine want_n rfl ?_
        have e69 : r (.tmp 69) = .bool true := hd 69 (by kernel_rfl)
        exact st_value (v := .bool true) rfl (by decide) (by go_simp) rfl
    intro f w6 hfd hB'
    have zz : f 4 = .bool true := hfd 4 (of_decide_eq_true (by kernel_rfl))
    have hb6 := HBV.out w6 hB'
    rw [show dstsTo _ _ = [24, 25, 26, 27, 28, 29, 30, 31, 32, 33, 34, 35, 36, 37, 38, 39, 40, 41, 42, 43, 44, 45, 46, 47, 48, 49, 50, 51, 52, 53, 54, 55, 56, 57, 58, 59, 60, 61, 62, 63, 64, 65, 66, 67, 68, 69, 4] from by kernel_rfl]
    simp only [fill, List.setIfInBounds_toArray, List.set_cons_succ, List.set_cons_zero, zz]
    clear hfd hB' zz
    go_wp2_with fail
    go_ret
    exact ⟨rfl, hBA.trans (hb6.mono hBA.size)⟩
  · go_wp2_with fail
    refine (tawake_any _).mono ?_
    rintro e w4 ⟨rfl, hb4⟩
    go_wp2_with fail
    go_ret
    exact ⟨rfl, hBA.trans (hb4.mono hBA.size)⟩
end Go.Proofs.YtapofbdkofelkaaGreat
/- TermChecks: the law returns true for all that can be read, and what was handed in reads afterwards as it read before. -/
namespace Go.Proofs.YtapofbdkofelkaaGreat
open Go.ChangeShapes Go.WideShapes Go.ChangeAt Go.RowKit

set_option maxRecDepth 100000 in
theorem termChecks_lifted (os : Os) (started : os.Started) (H : Type) (enc : TypeId × Value → H) :
    ReturnsInHanded {} Tryz.checked os 3 .any (Rows.termChecksSpec.pre6 enc Tryz.prog Tryz.f3 Rows.termChecksRow.domain false) (Rows.termChecksSpec.post enc Tryz.prog Tryz.f3 false true false false) := by
  refine returnsInHanded_of_change_sized (C := Tryz.checked) Tryz.own started (by kernel_rfl) Tryz.func3
    (ChangeSpec.witness6 (enc := enc) (C := Tryz.checked) false ⟨#[], #[.agg #[.int .u8 0, .int .u8 0, .int .i64 0, .slice none 0 0, .slice none 0 0, .int .i64 0, .int .i64 0, .slice none 0 0, .int .u8 0, .int .u8 0, .int .i64 0, .slice none 0 0, .int .i64 0, .slice none 0 0, .slice none 0 0], .agg #[.int .u8 0, .int .u8 0, .int .i64 0, .slice none 0 0, .slice none 0 0, .int .i64 0, .int .i64 0, .slice none 0 0, .int .u8 0, .int .u8 0, .int .i64 0, .slice none 0 0, .int .i64 0, .slice none 0 0, .slice none 0 0]], []⟩ 8 (by kernel_rfl) (by kernel_rfl) (by kernel_rfl) (by kernel_rfl)) ?_
  intro W base args ds gs before hval0 hW hcnd hsz hass
  have hval : ∀ (j : Nat) t v, Tryz.f3.params[j]? = some t → args[j]? = some v → Value.okWide Tryz.prog W .any base t v := hval0
  have hW' := hW
  obtain ⟨p, q, hA0, hV, rfl, hfz, hnd⟩ := hW
  have hA : DataW.TrodAll enc Tryz.prog W 0 (fun _ => true) true Tryz.f3.params.toList args.toList ds p := hA0
  rw [Tryz.params3] at hA hval
  obtain ⟨v0, v1, d0, d1, p0, p1, rfl, rfl, rfl, h0, h1⟩ := trodAll_two hA
  obtain ⟨rfl, rfl⟩ := trodVars_none hV
  have hsz' : (DataW.weightsEach Tryz.prog [31, 31] ([d0, d1] ++ [])).all (· ≤ reachBytes) = true := hsz
  simp only [List.append_nil, DataW.weightsEach, List.all_append, Bool.and_eq_true] at hsz'
  obtain ⟨a0, ha0⟩ := open_term (hval 0 31 v0 rfl rfl) h0 hsz'.1
  obtain ⟨a1, ha1⟩ := open_term (hval 1 31 v1 rfl rfl) h1 hsz'.2
  refine (termChecks_any a0 v0 a1 v1 W ha0 ha1).mono fun e W' ⟨he, hbw⟩ => ?_
  subst he
  exact ⟨_, rfl, law_post rfl rfl (by rw [Tryz.params3]; intro t ht; simp at ht; subst ht <;> exact ⟨by kernel_rfl, of_decide_eq_true (by kernel_rfl)⟩) hW' ⟨rfl, rfl, rfl⟩ hbw⟩

theorem termChecks_holds : Rows.TermChecksSaid :=
  OpenClaim.holds_of_wide 3 Tryz.f3 rfl rfl rfl rfl rfl rfl rfl ⟨rfl, rfl, rfl, rfl, rfl⟩ rfl rfl rfl rfl rfl (by kernel_rfl) Tryz.func3 (by kernel_rfl)
    (of_decide_eq_true (by kernel_rfl)) (by unfold Func.isWrapper; first | (rw [if_pos (by decide +kernel)]; kernel_rfl) | (rw [if_neg (by decide +kernel)]; exact ⟨rfl, rfl⟩))
    (fun os started H enc _ => termChecks_lifted os started H enc)
end Go.Proofs.YtapofbdkofelkaaGreat
