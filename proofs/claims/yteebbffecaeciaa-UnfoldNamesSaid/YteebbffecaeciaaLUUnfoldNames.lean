/- UnfoldNames: the law returns true for all that can be read, and what was handed in reads afterwards as it read before. -/
import Derived.Test.YteebbffecaeciaaM58
import Derived.Test.YteebbffecaeciaaM48
/- UnfoldNames: the law's function, walked. -/
namespace Go.Proofs.Yteebbffecaeciaa
open Go.RowKit

def inT : TT := tSized 1 tSelf (tOf 5 [tSelf])
set_option maxRecDepth 100000 in
set_option maxHeartbeats 16000000 in
theorem unfoldNames_any (w : World) : Calls Try.prog 8 #[] w fun e w' => e = .returned (.bool true) ∧ Below w.heap.size w w' := by
  go_enter Try.func8, Try.ntmps8
  go_wp2_with fail
  refine (uawake_any _).mono ?_
  rintro e w0 ⟨rfl, hB⟩
  go_wp2_with fail
  refine (uSelf _).mono ?_
  rintro e w1 ⟨x28, rfl, ⟨A28, rfl, k28⟩, hb⟩
  replace hB := hB.trans (hb.mono hB.size)
  clear hb
  have K28 : Hid (TOk w1 (tSelf) A28) := Lib.hid k28
  clear k28
  go_wp2_with fail
  refine (uSelf _).mono ?_
  rintro e w2 ⟨x29, rfl, ⟨A29, rfl, k29⟩, hb⟩
  replace K28 := Lib.hid (K28.out.below hb)
  replace hB := hB.trans (hb.mono hB.size)
  clear hb
  have K29 : Hid (TOk w2 (tSelf) A29) := Lib.hid k29
  clear k29
  go_wp2_with (refine wpList_rowK (n := 1) (parts := #[(0, .tmp 29)]) [(tSelf, A29)] (by rfl) (by rfl) (by rfl) (by decide) (by decide) (by simp only [List.map_toArray, List.map_cons, List.map_nil]; rfl) (by intro p hp; simp only [List.mem_cons, List.not_mem_nil, or_false] at hp; subst hp; exact K29.out) ?_)
  intro w3 hrow hb
  replace K28 := Lib.hid (K28.out.below hb)
  replace K29 := Lib.hid (K29.out.below hb)
  replace hB := hB.trans (hb.mono hB.size)
  clear hb
  have HROW := Lib.hid hrow; clear hrow
  clear K29
  go_wp2_with fail
  refine (uTuple [tSelf] _ 1 _ (by simp) HROW.out).mono ?_
  rintro e w4 ⟨x31, rfl, ⟨A31, rfl, k31⟩, hb⟩
  replace K28 := Lib.hid (K28.out.below hb)
  replace hB := hB.trans (hb.mono hB.size)
  clear hb
  have K31 : Hid (TOk w4 (tOf 5 [tSelf]) A31) := Lib.hid k31
  clear k31
  clear HROW
  go_wp2_with fail
  refine (usized_any 1 (tSelf) (tOf 5 [tSelf]) _ _ _ ⟨A28, rfl, K28.out⟩ ⟨A31, rfl, K31.out⟩).mono ?_
  rintro e w5 ⟨x32, rfl, ⟨A32, rfl, k32⟩, hb⟩
  replace K28 := Lib.hid (K28.out.below hb)
  replace K31 := Lib.hid (K31.out.below hb)
  replace hB := hB.trans (hb.mono hB.size)
  clear hb
  have K32 : Hid (TOk w5 (tSized 1 (tSelf) (tOf 5 [tSelf])) A32) := Lib.hid k32
  clear k32
  clear K28 K31
  obtain ⟨IN, hIN⟩ : ∃ X, X = tSized 1 tSelf (tOf 5 [tSelf]) := ⟨_, rfl⟩
  rw [← hIN] at K32 ⊢
  have HIN : Hid (IN = inT) := Lib.hid hIN
  clear hIN
  go_wp2_with (refine wpList_box15 (t := IN) (A := A32) (by rfl) (by rfl) (by rfl) (by rfl) (by rfl) (by rfl) (by rfl) (by rfl) ?_)
  intro w6 hc hb _ _
  obtain ⟨b1, he⟩ : ∃ b, b = w5.heap.size := ⟨_, rfl⟩
  rw [← he] at hc ⊢
  clear he
  replace K32 := Lib.hid (K32.out.below hb)
  replace hB := hB.trans (hb.mono hB.size)
  clear hb
  have Hb1 : Hid (BoxA w6 b1 (IN) A32) := Lib.hid ⟨hc, K32.out⟩
  clear hc
  clear K32
  go_wp2_with fail
  have HBV := Lib.hid (fun W (h : Below w6.drew.heap.size w6.drew W) => (Below.refl _ w6).drew.trans h)
  obtain ⟨TT1, hT1⟩ : ∃ X, X = tSized 1 (tNum 1) IN := ⟨_, rfl⟩
  have HT1 := Lib.hid hT1; clear hT1
  have HTC : Hid (TT1.cnt ≤ 3000000 ∧ TT1.lean = true) := Lib.hid (by rw [HT1.out, HIN.out]; exact ⟨by decide +kernel, by decide +kernel⟩)
  try simp only [List.append_eq, List.cons_append, List.nil_append]
  refine wp_region_late [2] (kindU [(34, .term (tNum 1)), (35, .term IN), (36, .term TT1), (37, .tup (TT1.stepE.1) (TT1.stepE.2)), (33, .tup (TT1.stepE.1) (TT1.stepE.2)), (38, .term (TT1.stepE.1)), (39, .fixed (.int .i64 (TT1.stepE.2))), (2, .box 47 15)]) (fun f _ w2 => ∃ b A, f 2 = .pointer (some ⟨b, 0, none⟩) ∧ (TCells w2 b 0 (TT1.stepE.1) A ∧ TOk w2 (TT1.stepE.1) A) ∧ Below w6.heap.size w6 w2) 8 221 6 39 _ _ (by kernel_rfl) (by kernel_rfl) (by kernel_rfl) (by kernel_rfl) (by rfl) (by rfl) (kindU_sub _) (kindU_grow _) (by kernel_rfl) rfl rfl rfl rfl rfl (ufm ?_ (ufm ?_ (ufm ?_ (ufm ?_ (ufm ?_ (ufm ?_ (ufm ?_ (ufm ?_ ufmnil)))))))) ?_ ?_ ?_
  · intro r W X hc hf hs hX hd hB
    have hBV := HBV.out W hB
    exact ub_call (f := 42) (args := #[.int .i64 1]) rfl (by decide) (by go_simp) (u_leaf rfl rfl rfl rfl rfl (uNum 1 W))
  · intro r W X hc hf hs hX hd hB
    have hBV := HBV.out W hB
    have e1 : r (.tmp 1) = .pointer (some ⟨b1, 0, none⟩) := hs 1 (of_decide_eq_true (by kernel_rfl))
    exact ub_value (v := IN.val A32) rfl (by decide) (run_load15 (Hb1.out.1.below hBV) rfl e1) ⟨A32, rfl, TOk.old Hb1.out.2 hBV (fun k hk => (hX k hk).1)⟩
  · intro r W X hc hf hs hX hd hB
    have hBV := HBV.out W hB
    have h1 : TInA X W (tNum 1) (r (.tmp 34)) := hd 34 (by kernel_rfl)
    have h2 : TInA X W IN (r (.tmp 35)) := hd 35 (by kernel_rfl)
    exact ub_call (f := 33) (args := #[.int .i64 1, r (.tmp 34), r (.tmp 35)]) rfl (by decide) (by go_simp) (by show Calls _ _ _ _ fun e w' => ∃ v, e = .returned v ∧ TInA X w' TT1 v ∧ _; rw [HT1.out]; exact usizedA X 1 (tNum 1) IN _ _ W h1 h2 (fun q hq => (hX q hq).2))
  · intro r W X hc hf hs hX hd hB
    have hBV := HBV.out W hB
    have h1 : TInA X W TT1 (r (.tmp 36)) := hd 36 (by kernel_rfl)
    exact ub_call (f := 34) (args := #[r (.tmp 36)]) rfl (by decide) (by go_simp) (u_made (fun k hk => (hX k hk).2) (uStep_any TT1 _ W HTC.out.1 HTC.out.2 h1.tin))
  · intro r W X hc hf hs hX hd hB
    have hBV := HBV.out W hB
    have h1 : UQ.okX (.tup (TT1.stepE.1) (TT1.stepE.2)) (r (.tmp 37)) W X := hd 37 (by kernel_rfl)
    exact ub_value (v := r (.tmp 37)) rfl (by decide) (by go_simp) h1
  · intro r W X hc hf hs hX hd hB
    have hBV := HBV.out W hB
    obtain ⟨x, ex, kx⟩ : UQ.okX (.tup (TT1.stepE.1) (TT1.stepE.2)) (r (.tmp 33)) W X := hd 33 (by kernel_rfl)
    exact ub_value (v := x) rfl (by decide) (by go_simp) kx
  · intro r W X hc hf hs hX hd hB
    have hBV := HBV.out W hB
    obtain ⟨x, ex, kx⟩ : UQ.okX (.tup (TT1.stepE.1) (TT1.stepE.2)) (r (.tmp 33)) W X := hd 33 (by kernel_rfl)
    exact ub_value (v := .int .i64 (TT1.stepE.2)) rfl (by decide) (by go_simp) rfl
  · intro r W X hc hf hs hX hd hB
    have hBV := HBV.out W hB
    exact ub_block (w' := W.alloc (.cells #[.int .u8 0, .int .u8 0, .int .i64 0, .slice none 0 0, .slice none 0 0, .int .i64 0, .int .i64 0, .slice none 0 0, .int .u8 0, .int .u8 0, .int .i64 0, .slice none 0 0, .int .i64 0, .slice none 0 0, .slice none 0 0] 47)) rfl (by go_simp) (Below.al _) (by simp) (fun X => ⟨W.heap.size, rfl, by simp, RowAt.new W _ _⟩)
  · intro r W X hd
    obtain ⟨x, ex, kx⟩ : UQ.okX (.tup (TT1.stepE.1) (TT1.stepE.2)) (r (.tmp 33)) W X := hd 33 (by kernel_rfl)
    exact ⟨.int .i64 (TT1.stepE.2), rfl, fun w2 => by go_simp⟩
  · intro f W X hE r hr
    obtain ⟨A9, e9, k9⟩ : TInA X W (TT1.stepE.1) (f 38) := hE.has 38 (of_decide_eq_true (by kernel_rfl))
    obtain ⟨b9, eb, -, R9⟩ : UQ.okX (.box 47 15) (f 2) W X := hE.has 2 (of_decide_eq_true (by kernel_rfl))
    obtain ⟨c9, eb', lo9, lt9, Y9⟩ := hE.new 2 (by simp) (of_decide_eq_true (by kernel_rfl))
    unfold IsBlock at eb eb'
    rw [eb] at eb'
    cases eb'
    have h1 : r (.tmp 2) = .pointer (some ⟨b9, 0, none⟩) := (hr 2 (by decide)).trans ((eval_fill (of_decide_eq_true (by kernel_rfl)) (of_decide_eq_true (by kernel_rfl))).trans eb)
    have h2 : r (.tmp 38) = TT.val (TT1.stepE.1) A9 := (hr 38 (by decide)).trans ((eval_fill (of_decide_eq_true (by kernel_rfl)) (of_decide_eq_true (by kernel_rfl))).trans e9)
    obtain ⟨wF, hwF⟩ : ∃ wF, wF = setL b9 (cellsT 0 (TT1.stepE.1) A9) W := ⟨_, rfl⟩
    have hbw : Below w6.heap.size w6 wF := by rw [hwF]; exact setL_below _ (by have h := lo9; simpa using h) _ _ (HBV.out W hE.below)
    have hk9 : TOk wF (TT1.stepE.1) A9 := by rw [hwF]; exact k9 _ ⟨Nat.le_of_eq (setL_size _ _ _).symm, fun q _ hq => setL_block _ (fun e => hq (by rw [e]; exact Y9)) _ _⟩
    have hc9 : TCells wF b9 0 (TT1.stepE.1) A9 := by rw [hwF]; exact cells15 R9 (Nat.le_refl _)
    exact ⟨wF, by rw [hwF]; exact run_store15 (q := 0) R9 (by decide) rfl h1 h2, b9, A9, eb, ⟨hc9, hk9⟩, hbw⟩
  intro f v9 w7 fuel X9 hfuel hE hS
  obtain ⟨b2, A38, eb, ⟨hc9, hk9⟩, hbw⟩ := hS
  have z9 : f 39 = .int .i64 (TT1.stepE.2) := hE.has 39 (of_decide_eq_true (by kernel_rfl))
  obtain ⟨fuel, rfl⟩ : ∃ k, fuel = k + 1 := ⟨fuel - 1, by have h2 : 1 ≤ fuel := hfuel; omega⟩
  rw [show dstsTo 8 _ = [34, 35, 36, 37, 33, 38, 39, 2] from by kernel_rfl]
  simp only [fill, Act.put, List.setIfInBounds_toArray, List.set_cons_succ, List.set_cons_zero, eb, z9]
  refine wpAny_val (i := 9) (v := .int .i64 (TT1.stepE.2)) (w' := w7) (by kernel_rfl) (by rfl) rfl rfl (by go_simp) ?_
  refine wpAny_done (by kernel_rfl) ?_ _
  obtain ⟨Xa, hX⟩ : ∃ X, X = TT1.stepE.1 := ⟨_, rfl⟩
  rw [← hX] at hk9 hc9
  have HCXa : Hid (Xa.cnt ≤ 3000000 ∧ Xa.lean = true) := Lib.hid (by rw [hX, HT1.out, HIN.out]; exact ⟨by decide +kernel, by decide +kernel⟩)
  have HSXa0 : Hid (TT.same Xa (tSized 1 (tSized 0 (tNum 1) inT) (tOf 5 [tSelf])) = true) := Lib.hid (by rw [hX, HT1.out, HIN.out]; decide +kernel)
  have HSXa1 : Hid (TT.same Xa.stepE.1 (tOf 5 [tSized 0 (tSized 0 (tNum 1) inT) (tOf 5 [tSelf])]) = true) := Lib.hid (by rw [hX, HT1.out, HIN.out]; decide +kernel)
  have HSXa2 : Hid (Xa.stepE.2 = 0 ∧ Xa.stepE.1.cnt ≤ 3000000 ∧ Xa.stepE.1.lean = true) := Lib.hid (by rw [hX, HT1.out, HIN.out]; decide +kernel)
  rw [show TT1.stepE.2 = 0 from by rw [HT1.out, HIN.out]; decide +kernel]
  clear hX z9 eb hE hfuel HT1 HTC HBV
  replace Hb1 := Lib.hid (Hb1.out.below hbw)
  replace hB := hB.trans (hbw.mono hB.size)
  clear hbw
  have Hb2 : Hid (BoxA w7 b2 Xa A38) := Lib.hid ⟨hc9, hk9⟩
  clear hc9 hk9
  go_wp2_with (refine wpList_load15 (by rfl) (by rfl) (by rfl) Hb2.out.1 ?_)
  refine (uStep_any Xa _ _ HCXa.out.1 HCXa.out.2 ⟨A38, rfl, Hb2.out.2⟩).mono ?_
  rintro e w8 ⟨x42, rfl, h42, hb⟩
  obtain ⟨A42, rfl, k42⟩ := h42.tin
  obtain ⟨Xb, hX⟩ : ∃ X, X = Xa.stepE.1 := ⟨_, rfl⟩
  rw [← hX] at k42 ⊢
  rw [HSXa2.out.1]
  have HCXb : Hid (Xb.cnt ≤ 3000000) := Lib.hid (by rw [hX]; exact HSXa2.out.2.1)
  have HSXb0 : Hid (TT.same Xb (tOf 5 [tSized 0 (tSized 0 (tNum 1) IN) (tOf 5 [tSelf])]) = true) := Lib.hid (by rw [hX, HIN.out]; have h := HSXa1.out; exact h)
  clear hX h42
  replace Hb1 := Lib.hid (Hb1.out.below hb)
  replace Hb2 := Lib.hid (Hb2.out.below hb)
  replace hB := hB.trans (hb.mono hB.size)
  clear hb
  have K42 : Hid (TOk w8 Xb A42) := Lib.hid k42
  clear k42
  go_wp2_with (refine wpList_box15 (t := Xb) (A := A42) (by rfl) (by rfl) (by rfl) (by rfl) (by rfl) (by rfl) (by rfl) (by rfl) ?_)
  intro w9 hc hb _ _
  obtain ⟨b4, he⟩ : ∃ b, b = w8.heap.size := ⟨_, rfl⟩
  rw [← he] at hc ⊢
  clear he
  replace Hb1 := Lib.hid (Hb1.out.below hb)
  replace Hb2 := Lib.hid (Hb2.out.below hb)
  replace K42 := Lib.hid (K42.out.below hb)
  replace hB := hB.trans (hb.mono hB.size)
  clear hb
  have Hb4 : Hid (BoxA w9 b4 (Xb) A42) := Lib.hid ⟨hc, K42.out⟩
  clear hc
  clear K42
  go_wp2_with fail
  have HBV := Lib.hid (fun W (h : Below w9.drew.heap.size w9.drew W) => (Below.refl _ w9).drew.trans h)
  obtain ⟨TT1, hT1⟩ : ∃ X, X = tSized 1 (tNum 1) IN := ⟨_, rfl⟩
  have HT1 := Lib.hid hT1; clear hT1
  have HTC : Hid (TT1.cnt ≤ 3000000 ∧ TT1.lean = true) := Lib.hid (by rw [HT1.out, HIN.out]; exact ⟨by decide +kernel, by decide +kernel⟩)
  try simp only [List.append_eq, List.cons_append, List.nil_append]
  refine wp_region_late [6] (kindU [(46, .term (tNum 1)), (47, .term IN), (48, .term TT1), (49, .tup (TT1.wholeE.1) (TT1.wholeE.2)), (45, .tup (TT1.wholeE.1) (TT1.wholeE.2)), (50, .term (TT1.wholeE.1)), (51, .fixed (.int .i64 (TT1.wholeE.2))), (6, .box 47 15)]) (fun f _ w2 => ∃ b A, f 6 = .pointer (some ⟨b, 0, none⟩) ∧ (TCells w2 b 0 (TT1.wholeE.1) A ∧ TOk w2 (TT1.wholeE.1) A) ∧ Below w9.heap.size w9 w2) 8 221 6 51 _ _ (by kernel_rfl) (by kernel_rfl) (by kernel_rfl) (by kernel_rfl) (by rfl) (by rfl) (kindU_sub _) (kindU_grow _) (by kernel_rfl) rfl rfl rfl rfl rfl (ufm ?_ (ufm ?_ (ufm ?_ (ufm ?_ (ufm ?_ (ufm ?_ (ufm ?_ (ufm ?_ ufmnil)))))))) ?_ ?_ ?_
  · intro r W X hc hf hs hX hd hB
    have hBV := HBV.out W hB
    exact ub_call (f := 42) (args := #[.int .i64 1]) rfl (by decide) (by go_simp) (u_leaf rfl rfl rfl rfl rfl (uNum 1 W))
  · intro r W X hc hf hs hX hd hB
    have hBV := HBV.out W hB
    have e1 : r (.tmp 1) = .pointer (some ⟨b1, 0, none⟩) := hs 1 (of_decide_eq_true (by kernel_rfl))
    exact ub_value (v := IN.val A32) rfl (by decide) (run_load15 (Hb1.out.1.below hBV) rfl e1) ⟨A32, rfl, TOk.old Hb1.out.2 hBV (fun k hk => (hX k hk).1)⟩
  · intro r W X hc hf hs hX hd hB
    have hBV := HBV.out W hB
    have h1 : TInA X W (tNum 1) (r (.tmp 46)) := hd 46 (by kernel_rfl)
    have h2 : TInA X W IN (r (.tmp 47)) := hd 47 (by kernel_rfl)
    exact ub_call (f := 33) (args := #[.int .i64 1, r (.tmp 46), r (.tmp 47)]) rfl (by decide) (by go_simp) (by show Calls _ _ _ _ fun e w' => ∃ v, e = .returned v ∧ TInA X w' TT1 v ∧ _; rw [HT1.out]; exact usizedA X 1 (tNum 1) IN _ _ W h1 h2 (fun q hq => (hX q hq).2))
  · intro r W X hc hf hs hX hd hB
    have hBV := HBV.out W hB
    have h1 : TInA X W TT1 (r (.tmp 48)) := hd 48 (by kernel_rfl)
    exact ub_call (f := 30) (args := #[r (.tmp 48)]) rfl (by decide) (by go_simp) (u_made (fun k hk => (hX k hk).2) (uWhole_any TT1 _ W HTC.out.1 HTC.out.2 h1.tin))
  · intro r W X hc hf hs hX hd hB
    have hBV := HBV.out W hB
    have h1 : UQ.okX (.tup (TT1.wholeE.1) (TT1.wholeE.2)) (r (.tmp 49)) W X := hd 49 (by kernel_rfl)
    exact ub_value (v := r (.tmp 49)) rfl (by decide) (by go_simp) h1
  · intro r W X hc hf hs hX hd hB
    have hBV := HBV.out W hB
    obtain ⟨x, ex, kx⟩ : UQ.okX (.tup (TT1.wholeE.1) (TT1.wholeE.2)) (r (.tmp 45)) W X := hd 45 (by kernel_rfl)
    exact ub_value (v := x) rfl (by decide) (by go_simp) kx
  · intro r W X hc hf hs hX hd hB
    have hBV := HBV.out W hB
    obtain ⟨x, ex, kx⟩ : UQ.okX (.tup (TT1.wholeE.1) (TT1.wholeE.2)) (r (.tmp 45)) W X := hd 45 (by kernel_rfl)
    exact ub_value (v := .int .i64 (TT1.wholeE.2)) rfl (by decide) (by go_simp) rfl
  · intro r W X hc hf hs hX hd hB
    have hBV := HBV.out W hB
    exact ub_block (w' := W.alloc (.cells #[.int .u8 0, .int .u8 0, .int .i64 0, .slice none 0 0, .slice none 0 0, .int .i64 0, .int .i64 0, .slice none 0 0, .int .u8 0, .int .u8 0, .int .i64 0, .slice none 0 0, .int .i64 0, .slice none 0 0, .slice none 0 0] 47)) rfl (by go_simp) (Below.al _) (by simp) (fun X => ⟨W.heap.size, rfl, by simp, RowAt.new W _ _⟩)
  · intro r W X hd
    obtain ⟨x, ex, kx⟩ : UQ.okX (.tup (TT1.wholeE.1) (TT1.wholeE.2)) (r (.tmp 45)) W X := hd 45 (by kernel_rfl)
    exact ⟨.int .i64 (TT1.wholeE.2), rfl, fun w2 => by go_simp⟩
  · intro f W X hE r hr
    obtain ⟨A9, e9, k9⟩ : TInA X W (TT1.wholeE.1) (f 50) := hE.has 50 (of_decide_eq_true (by kernel_rfl))
    obtain ⟨b9, eb, -, R9⟩ : UQ.okX (.box 47 15) (f 6) W X := hE.has 6 (of_decide_eq_true (by kernel_rfl))
    obtain ⟨c9, eb', lo9, lt9, Y9⟩ := hE.new 6 (by simp) (of_decide_eq_true (by kernel_rfl))
    unfold IsBlock at eb eb'
    rw [eb] at eb'
    cases eb'
    have h1 : r (.tmp 6) = .pointer (some ⟨b9, 0, none⟩) := (hr 6 (by decide)).trans ((eval_fill (of_decide_eq_true (by kernel_rfl)) (of_decide_eq_true (by kernel_rfl))).trans eb)
    have h2 : r (.tmp 50) = TT.val (TT1.wholeE.1) A9 := (hr 50 (by decide)).trans ((eval_fill (of_decide_eq_true (by kernel_rfl)) (of_decide_eq_true (by kernel_rfl))).trans e9)
    obtain ⟨wF, hwF⟩ : ∃ wF, wF = setL b9 (cellsT 0 (TT1.wholeE.1) A9) W := ⟨_, rfl⟩
    have hbw : Below w9.heap.size w9 wF := by rw [hwF]; exact setL_below _ (by have h := lo9; simpa using h) _ _ (HBV.out W hE.below)
    have hk9 : TOk wF (TT1.wholeE.1) A9 := by rw [hwF]; exact k9 _ ⟨Nat.le_of_eq (setL_size _ _ _).symm, fun q _ hq => setL_block _ (fun e => hq (by rw [e]; exact Y9)) _ _⟩
    have hc9 : TCells wF b9 0 (TT1.wholeE.1) A9 := by rw [hwF]; exact cells15 R9 (Nat.le_refl _)
    exact ⟨wF, by rw [hwF]; exact run_store15 (q := 0) R9 (by decide) rfl h1 h2, b9, A9, eb, ⟨hc9, hk9⟩, hbw⟩
  intro f v9 w10 fuel X9 hfuel hE hS
  obtain ⟨b6, A50, eb, ⟨hc9, hk9⟩, hbw⟩ := hS
  have z9 : f 51 = .int .i64 (TT1.wholeE.2) := hE.has 51 (of_decide_eq_true (by kernel_rfl))
  obtain ⟨fuel, rfl⟩ : ∃ k, fuel = k + 1 := ⟨fuel - 1, by have h2 : 1 ≤ fuel := hfuel; omega⟩
  rw [show dstsTo 8 _ = [46, 47, 48, 49, 45, 50, 51, 6] from by kernel_rfl]
  simp only [fill, List.setIfInBounds_toArray, List.set_cons_succ, List.set_cons_zero, eb, z9]
  refine wpAny_val (i := 9) (v := .int .i64 (TT1.wholeE.2)) (w' := w10) (by kernel_rfl) (by rfl) rfl rfl (by go_simp) ?_
  refine wpAny_done (by kernel_rfl) ?_ _
  obtain ⟨Xc, hX⟩ : ∃ X, X = TT1.wholeE.1 := ⟨_, rfl⟩
  rw [← hX] at hk9 hc9
  have HCXc : Hid (Xc.cnt ≤ 3000000 ∧ Xc.lean = true) := Lib.hid (by rw [hX, HT1.out, HIN.out]; exact ⟨by decide +kernel, by decide +kernel⟩)
  have HSXc0 : Hid (TT.same Xc (tOf 5 [tNum 1]) = true) := Lib.hid (by rw [hX, HT1.out, HIN.out]; decide +kernel)
  rw [show TT1.wholeE.2 = 0 from by rw [HT1.out, HIN.out]; decide +kernel]
  clear hX z9 eb hE hfuel HT1 HTC HBV
  replace Hb1 := Lib.hid (Hb1.out.below hbw)
  replace Hb2 := Lib.hid (Hb2.out.below hbw)
  replace Hb4 := Lib.hid (Hb4.out.below hbw)
  replace hB := hB.trans (hbw.mono hB.size)
  clear hbw
  have Hb6 : Hid (BoxA w10 b6 Xc A50) := Lib.hid ⟨hc9, hk9⟩
  clear hc9 hk9
  go_wp2_with fail
  refine (uNum 0 _).mono ?_
  rintro e w11 ⟨x53, rfl, ⟨A53, rfl, k53⟩, hb⟩
  replace Hb1 := Lib.hid (Hb1.out.below hb)
  replace Hb2 := Lib.hid (Hb2.out.below hb)
  replace Hb4 := Lib.hid (Hb4.out.below hb)
  replace Hb6 := Lib.hid (Hb6.out.below hb)
  replace hB := hB.trans (hb.mono hB.size)
  clear hb
  have K53 : Hid (TOk w11 (tNum 0) A53) := Lib.hid k53
  clear k53
  go_wp2_with fail
  refine (uSelf _).mono ?_
  rintro e w12 ⟨x54, rfl, ⟨A54, rfl, k54⟩, hb⟩
  replace Hb1 := Lib.hid (Hb1.out.below hb)
  replace Hb2 := Lib.hid (Hb2.out.below hb)
  replace Hb4 := Lib.hid (Hb4.out.below hb)
  replace Hb6 := Lib.hid (Hb6.out.below hb)
  replace K53 := Lib.hid (K53.out.below hb)
  replace hB := hB.trans (hb.mono hB.size)
  clear hb
  have K54 : Hid (TOk w12 (tSelf) A54) := Lib.hid k54
  clear k54
  go_wp2_with fail
  refine (uNum 5 _).mono ?_
  rintro e w13 ⟨x55, rfl, ⟨A55, rfl, k55⟩, hb⟩
  replace Hb1 := Lib.hid (Hb1.out.below hb)
  replace Hb2 := Lib.hid (Hb2.out.below hb)
  replace Hb4 := Lib.hid (Hb4.out.below hb)
  replace Hb6 := Lib.hid (Hb6.out.below hb)
  replace K53 := Lib.hid (K53.out.below hb)
  replace K54 := Lib.hid (K54.out.below hb)
  replace hB := hB.trans (hb.mono hB.size)
  clear hb
  have K55 : Hid (TOk w13 (tNum 5) A55) := Lib.hid k55
  clear k55
  go_wp2_with (refine wpList_rowK (n := 2) (parts := #[(0, .tmp 54), (1, .tmp 55)]) [(tSelf, A54), (tNum 5, A55)] (by rfl) (by rfl) (by rfl) (by decide) (by decide) (by simp only [List.map_toArray, List.map_cons, List.map_nil]; rfl) (by intro p hp; simp only [List.mem_cons, List.not_mem_nil, or_false] at hp; rcases hp with rfl | rfl; exact K54.out; exact K55.out) ?_)
  intro w14 hrow hb
  replace Hb1 := Lib.hid (Hb1.out.below hb)
  replace Hb2 := Lib.hid (Hb2.out.below hb)
  replace Hb4 := Lib.hid (Hb4.out.below hb)
  replace Hb6 := Lib.hid (Hb6.out.below hb)
  replace K53 := Lib.hid (K53.out.below hb)
  replace K54 := Lib.hid (K54.out.below hb)
  replace K55 := Lib.hid (K55.out.below hb)
  replace hB := hB.trans (hb.mono hB.size)
  clear hb
  have HROW := Lib.hid hrow; clear hrow
  clear K54 K55
  go_wp2_with fail
  refine (uTuple [tSelf, tNum 5] _ 2 _ (by simp) HROW.out).mono ?_
  rintro e w15 ⟨x57, rfl, ⟨A57, rfl, k57⟩, hb⟩
  replace Hb1 := Lib.hid (Hb1.out.below hb)
  replace Hb2 := Lib.hid (Hb2.out.below hb)
  replace Hb4 := Lib.hid (Hb4.out.below hb)
  replace Hb6 := Lib.hid (Hb6.out.below hb)
  replace K53 := Lib.hid (K53.out.below hb)
  replace hB := hB.trans (hb.mono hB.size)
  clear hb
  have K57 : Hid (TOk w15 (tOf 5 [tSelf, tNum 5]) A57) := Lib.hid k57
  clear k57
  clear HROW
  go_wp2_with fail
  refine (usized_any 3 (tNum 0) (tOf 5 [tSelf, tNum 5]) _ _ _ ⟨A53, rfl, K53.out⟩ ⟨A57, rfl, K57.out⟩).mono ?_
  rintro e w16 ⟨x58, rfl, ⟨A58, rfl, k58⟩, hb⟩
  replace Hb1 := Lib.hid (Hb1.out.below hb)
  replace Hb2 := Lib.hid (Hb2.out.below hb)
  replace Hb4 := Lib.hid (Hb4.out.below hb)
  replace Hb6 := Lib.hid (Hb6.out.below hb)
  replace K53 := Lib.hid (K53.out.below hb)
  replace K57 := Lib.hid (K57.out.below hb)
  replace hB := hB.trans (hb.mono hB.size)
  clear hb
  have K58 : Hid (TOk w16 (tSized 3 (tNum 0) (tOf 5 [tSelf, tNum 5])) A58) := Lib.hid k58
  clear k58
  clear K53 K57
  go_wp2_with fail
  refine (uWhole_any (tSized 3 (tNum 0) (tOf 5 [tSelf, tNum 5])) _ _ (by decide +kernel) (by decide +kernel) ⟨A58, rfl, K58.out⟩).mono ?_
  rintro e w17 ⟨x59, rfl, h59, hb⟩
  obtain ⟨A59, rfl, k59⟩ := h59.tin
  obtain ⟨Xd, hX⟩ : ∃ X, X = ((tSized 3 (tNum 0) (tOf 5 [tSelf, tNum 5])).wholeE).1 := ⟨_, rfl⟩
  rw [← hX] at k59 ⊢
  rw [show ((tSized 3 (tNum 0) (tOf 5 [tSelf, tNum 5])).wholeE).2 = 0 from by decide +kernel]
  have HCXd : Hid (Xd.cnt ≤ 3000000 ∧ Xd.lean = true) := Lib.hid (by rw [hX]; exact ⟨by decide +kernel, by decide +kernel⟩)
  have HSXd0 : Hid (TT.same Xd (tOf 5 [tOf 5 [tOf 5 [tNum 0, tNum 5], tNum 5], tNum 5]) = true) := Lib.hid (by rw [hX]; decide +kernel)
  clear hX h59
  replace Hb1 := Lib.hid (Hb1.out.below hb)
  replace Hb2 := Lib.hid (Hb2.out.below hb)
  replace Hb4 := Lib.hid (Hb4.out.below hb)
  replace Hb6 := Lib.hid (Hb6.out.below hb)
  replace K58 := Lib.hid (K58.out.below hb)
  replace hB := hB.trans (hb.mono hB.size)
  clear hb
  have K59 : Hid (TOk w17 Xd A59) := Lib.hid k59
  clear k59
  clear K58
  go_wp2_with (refine wpList_box15 (t := Xd) (A := A59) (by rfl) (by rfl) (by rfl) (by rfl) (by rfl) (by rfl) (by rfl) (by rfl) ?_)
  intro w18 hc hb _ _
  obtain ⟨b8, he⟩ : ∃ b, b = w17.heap.size := ⟨_, rfl⟩
  rw [← he] at hc ⊢
  clear he
  replace Hb1 := Lib.hid (Hb1.out.below hb)
  replace Hb2 := Lib.hid (Hb2.out.below hb)
  replace Hb4 := Lib.hid (Hb4.out.below hb)
  replace Hb6 := Lib.hid (Hb6.out.below hb)
  replace K59 := Lib.hid (K59.out.below hb)
  replace hB := hB.trans (hb.mono hB.size)
  clear hb
  have Hb8 : Hid (BoxA w18 b8 (Xd) A59) := Lib.hid ⟨hc, K59.out⟩
  clear hc
  clear K59
  go_wp2_with fail
  refine (uNum 1 _).mono ?_
  rintro e w19 ⟨x63, rfl, ⟨A63, rfl, k63⟩, hb⟩
  replace Hb1 := Lib.hid (Hb1.out.below hb)
  replace Hb2 := Lib.hid (Hb2.out.below hb)
  replace Hb4 := Lib.hid (Hb4.out.below hb)
  replace Hb6 := Lib.hid (Hb6.out.below hb)
  replace Hb8 := Lib.hid (Hb8.out.below hb)
  replace hB := hB.trans (hb.mono hB.size)
  clear hb
  have K63 : Hid (TOk w19 (tNum 1) A63) := Lib.hid k63
  clear k63
  go_wp2_with fail
  refine (uStep_any (tNum 1) _ _ (by decide +kernel) (by decide +kernel) ⟨A63, rfl, K63.out⟩).mono ?_
  rintro e w20 ⟨x64, rfl, h64, hb⟩
  obtain ⟨A64, rfl, k64⟩ := h64.tin
  obtain ⟨Xi, hX⟩ : ∃ X, X = ((tNum 1).stepE).1 := ⟨_, rfl⟩
  rw [← hX] at k64 ⊢
  rw [show ((tNum 1).stepE).2 = 11 from by decide +kernel]
  have HCXi : Hid (Xi.cnt ≤ 3000000 ∧ Xi.lean = true) := Lib.hid (by rw [hX]; exact ⟨by decide +kernel, by decide +kernel⟩)
  clear hX h64
  replace Hb1 := Lib.hid (Hb1.out.below hb)
  replace Hb2 := Lib.hid (Hb2.out.below hb)
  replace Hb4 := Lib.hid (Hb4.out.below hb)
  replace Hb6 := Lib.hid (Hb6.out.below hb)
  replace Hb8 := Lib.hid (Hb8.out.below hb)
  replace K63 := Lib.hid (K63.out.below hb)
  replace hB := hB.trans (hb.mono hB.size)
  clear hb
  have K64 : Hid (TOk w20 Xi A64) := Lib.hid k64
  clear k64
  clear K63
  go_wp2_with (refine wpList_box15 (t := Xi) (A := A64) (by rfl) (by rfl) (by rfl) (by rfl) (by rfl) (by rfl) (by rfl) (by rfl) ?_)
  intro w21 hc hb _ _
  obtain ⟨b10, he⟩ : ∃ b, b = w20.heap.size := ⟨_, rfl⟩
  rw [← he] at hc ⊢
  clear he
  replace Hb1 := Lib.hid (Hb1.out.below hb)
  replace Hb2 := Lib.hid (Hb2.out.below hb)
  replace Hb4 := Lib.hid (Hb4.out.below hb)
  replace Hb6 := Lib.hid (Hb6.out.below hb)
  replace Hb8 := Lib.hid (Hb8.out.below hb)
  replace K64 := Lib.hid (K64.out.below hb)
  replace hB := hB.trans (hb.mono hB.size)
  clear hb
  have Hb10 : Hid (BoxA w21 b10 (Xi) A64) := Lib.hid ⟨hc, K64.out⟩
  clear hc
  clear K64
  clear Hb10
  go_wp2_with fail
  refine (uSelf _).mono ?_
  rintro e w22 ⟨x68, rfl, ⟨A68, rfl, k68⟩, hb⟩
  replace Hb1 := Lib.hid (Hb1.out.below hb)
  replace Hb2 := Lib.hid (Hb2.out.below hb)
  replace Hb4 := Lib.hid (Hb4.out.below hb)
  replace Hb6 := Lib.hid (Hb6.out.below hb)
  replace Hb8 := Lib.hid (Hb8.out.below hb)
  replace hB := hB.trans (hb.mono hB.size)
  clear hb
  have K68 : Hid (TOk w22 (tSelf) A68) := Lib.hid k68
  clear k68
  go_wp2_with fail
  refine (uStep_any tSelf _ _ (by decide +kernel) (by decide +kernel) ⟨A68, rfl, K68.out⟩).mono ?_
  rintro e w23 ⟨x69, rfl, h69, hb⟩
  obtain ⟨A69, rfl, k69⟩ := h69.tin
  obtain ⟨Xj, hX⟩ : ∃ X, X = (tSelf.stepE).1 := ⟨_, rfl⟩
  rw [← hX] at k69 ⊢
  rw [show (tSelf.stepE).2 = 3 from by decide +kernel]
  have HCXj : Hid (Xj.cnt ≤ 3000000 ∧ Xj.lean = true) := Lib.hid (by rw [hX]; exact ⟨by decide +kernel, by decide +kernel⟩)
  clear hX h69
  replace Hb1 := Lib.hid (Hb1.out.below hb)
  replace Hb2 := Lib.hid (Hb2.out.below hb)
  replace Hb4 := Lib.hid (Hb4.out.below hb)
  replace Hb6 := Lib.hid (Hb6.out.below hb)
  replace Hb8 := Lib.hid (Hb8.out.below hb)
  replace K68 := Lib.hid (K68.out.below hb)
  replace hB := hB.trans (hb.mono hB.size)
  clear hb
  have K69 : Hid (TOk w23 Xj A69) := Lib.hid k69
  clear k69
  clear K68
  go_wp2_with (refine wpList_box15 (t := Xj) (A := A69) (by rfl) (by rfl) (by rfl) (by rfl) (by rfl) (by rfl) (by rfl) (by rfl) ?_)
  intro w24 hc hb _ _
  obtain ⟨b12, he⟩ : ∃ b, b = w23.heap.size := ⟨_, rfl⟩
  rw [← he] at hc ⊢
  clear he
  replace Hb1 := Lib.hid (Hb1.out.below hb)
  replace Hb2 := Lib.hid (Hb2.out.below hb)
  replace Hb4 := Lib.hid (Hb4.out.below hb)
  replace Hb6 := Lib.hid (Hb6.out.below hb)
  replace Hb8 := Lib.hid (Hb8.out.below hb)
  replace K69 := Lib.hid (K69.out.below hb)
  replace hB := hB.trans (hb.mono hB.size)
  clear hb
  have Hb12 : Hid (BoxA w24 b12 (Xj) A69) := Lib.hid ⟨hc, K69.out⟩
  clear hc
  clear K69
  clear Hb12
  go_wp2_with fail
  refine (uNum 0 _).mono ?_
  rintro e w25 ⟨x73, rfl, ⟨A73, rfl, k73⟩, hb⟩
  replace Hb1 := Lib.hid (Hb1.out.below hb)
  replace Hb2 := Lib.hid (Hb2.out.below hb)
  replace Hb4 := Lib.hid (Hb4.out.below hb)
  replace Hb6 := Lib.hid (Hb6.out.below hb)
  replace Hb8 := Lib.hid (Hb8.out.below hb)
  replace hB := hB.trans (hb.mono hB.size)
  clear hb
  have K73 : Hid (TOk w25 (tNum 0) A73) := Lib.hid k73
  clear k73
  go_wp2_with fail
  refine (uSelf _).mono ?_
  rintro e w26 ⟨x74, rfl, ⟨A74, rfl, k74⟩, hb⟩
  replace Hb1 := Lib.hid (Hb1.out.below hb)
  replace Hb2 := Lib.hid (Hb2.out.below hb)
  replace Hb4 := Lib.hid (Hb4.out.below hb)
  replace Hb6 := Lib.hid (Hb6.out.below hb)
  replace Hb8 := Lib.hid (Hb8.out.below hb)
  replace K73 := Lib.hid (K73.out.below hb)
  replace hB := hB.trans (hb.mono hB.size)
  clear hb
  have K74 : Hid (TOk w26 (tSelf) A74) := Lib.hid k74
  clear k74
  go_wp2_with fail
  refine (usized_any 9 (tNum 0) (tSelf) _ _ _ ⟨A73, rfl, K73.out⟩ ⟨A74, rfl, K74.out⟩).mono ?_
  rintro e w27 ⟨x75, rfl, ⟨A75, rfl, k75⟩, hb⟩
  replace Hb1 := Lib.hid (Hb1.out.below hb)
  replace Hb2 := Lib.hid (Hb2.out.below hb)
  replace Hb4 := Lib.hid (Hb4.out.below hb)
  replace Hb6 := Lib.hid (Hb6.out.below hb)
  replace Hb8 := Lib.hid (Hb8.out.below hb)
  replace K73 := Lib.hid (K73.out.below hb)
  replace K74 := Lib.hid (K74.out.below hb)
  replace hB := hB.trans (hb.mono hB.size)
  clear hb
  have K75 : Hid (TOk w27 (tSized 9 (tNum 0) (tSelf)) A75) := Lib.hid k75
  clear k75
  clear K73 K74
  go_wp2_with fail
  refine (uStep_any (tSized 9 (tNum 0) tSelf) _ _ (by decide +kernel) (by decide +kernel) ⟨A75, rfl, K75.out⟩).mono ?_
  rintro e w28 ⟨x76, rfl, h76, hb⟩
  obtain ⟨A76, rfl, k76⟩ := h76.tin
  obtain ⟨Xk, hX⟩ : ∃ X, X = ((tSized 9 (tNum 0) tSelf).stepE).1 := ⟨_, rfl⟩
  rw [← hX] at k76 ⊢
  rw [show ((tSized 9 (tNum 0) tSelf).stepE).2 = 3 from by decide +kernel]
  have HCXk : Hid (Xk.cnt ≤ 3000000 ∧ Xk.lean = true) := Lib.hid (by rw [hX]; exact ⟨by decide +kernel, by decide +kernel⟩)
  clear hX h76
  replace Hb1 := Lib.hid (Hb1.out.below hb)
  replace Hb2 := Lib.hid (Hb2.out.below hb)
  replace Hb4 := Lib.hid (Hb4.out.below hb)
  replace Hb6 := Lib.hid (Hb6.out.below hb)
  replace Hb8 := Lib.hid (Hb8.out.below hb)
  replace K75 := Lib.hid (K75.out.below hb)
  replace hB := hB.trans (hb.mono hB.size)
  clear hb
  have K76 : Hid (TOk w28 Xk A76) := Lib.hid k76
  clear k76
  clear K75
  go_wp2_with (refine wpList_box15 (t := Xk) (A := A76) (by rfl) (by rfl) (by rfl) (by rfl) (by rfl) (by rfl) (by rfl) (by rfl) ?_)
  intro w29 hc hb _ _
  obtain ⟨b14, he⟩ : ∃ b, b = w28.heap.size := ⟨_, rfl⟩
  rw [← he] at hc ⊢
  clear he
  replace Hb1 := Lib.hid (Hb1.out.below hb)
  replace Hb2 := Lib.hid (Hb2.out.below hb)
  replace Hb4 := Lib.hid (Hb4.out.below hb)
  replace Hb6 := Lib.hid (Hb6.out.below hb)
  replace Hb8 := Lib.hid (Hb8.out.below hb)
  replace K76 := Lib.hid (K76.out.below hb)
  replace hB := hB.trans (hb.mono hB.size)
  clear hb
  have Hb14 : Hid (BoxA w29 b14 (Xk) A76) := Lib.hid ⟨hc, K76.out⟩
  clear hc
  clear K76
  clear Hb14
  go_wp2_with fail
  refine (uNum 0 _).mono ?_
  rintro e w30 ⟨x80, rfl, ⟨A80, rfl, k80⟩, hb⟩
  replace Hb1 := Lib.hid (Hb1.out.below hb)
  replace Hb2 := Lib.hid (Hb2.out.below hb)
  replace Hb4 := Lib.hid (Hb4.out.below hb)
  replace Hb6 := Lib.hid (Hb6.out.below hb)
  replace Hb8 := Lib.hid (Hb8.out.below hb)
  replace hB := hB.trans (hb.mono hB.size)
  clear hb
  have K80 : Hid (TOk w30 (tNum 0) A80) := Lib.hid k80
  clear k80
  go_wp2_with fail
  refine (uSelf _).mono ?_
  rintro e w31 ⟨x81, rfl, ⟨A81, rfl, k81⟩, hb⟩
  replace Hb1 := Lib.hid (Hb1.out.below hb)
  replace Hb2 := Lib.hid (Hb2.out.below hb)
  replace Hb4 := Lib.hid (Hb4.out.below hb)
  replace Hb6 := Lib.hid (Hb6.out.below hb)
  replace Hb8 := Lib.hid (Hb8.out.below hb)
  replace K80 := Lib.hid (K80.out.below hb)
  replace hB := hB.trans (hb.mono hB.size)
  clear hb
  have K81 : Hid (TOk w31 (tSelf) A81) := Lib.hid k81
  clear k81
  go_wp2_with fail
  refine (uSelf _).mono ?_
  rintro e w32 ⟨x82, rfl, ⟨A82, rfl, k82⟩, hb⟩
  replace Hb1 := Lib.hid (Hb1.out.below hb)
  replace Hb2 := Lib.hid (Hb2.out.below hb)
  replace Hb4 := Lib.hid (Hb4.out.below hb)
  replace Hb6 := Lib.hid (Hb6.out.below hb)
  replace Hb8 := Lib.hid (Hb8.out.below hb)
  replace K80 := Lib.hid (K80.out.below hb)
  replace K81 := Lib.hid (K81.out.below hb)
  replace hB := hB.trans (hb.mono hB.size)
  clear hb
  have K82 : Hid (TOk w32 (tSelf) A82) := Lib.hid k82
  clear k82
  go_wp2_with fail
  refine (uSelf _).mono ?_
  rintro e w33 ⟨x83, rfl, ⟨A83, rfl, k83⟩, hb⟩
  replace Hb1 := Lib.hid (Hb1.out.below hb)
  replace Hb2 := Lib.hid (Hb2.out.below hb)
  replace Hb4 := Lib.hid (Hb4.out.below hb)
  replace Hb6 := Lib.hid (Hb6.out.below hb)
  replace Hb8 := Lib.hid (Hb8.out.below hb)
  replace K80 := Lib.hid (K80.out.below hb)
  replace K81 := Lib.hid (K81.out.below hb)
  replace K82 := Lib.hid (K82.out.below hb)
  replace hB := hB.trans (hb.mono hB.size)
  clear hb
  have K83 : Hid (TOk w33 (tSelf) A83) := Lib.hid k83
  clear k83
  go_wp2_with (refine wpList_rowK (n := 3) (parts := #[(0, .tmp 81), (1, .tmp 82), (2, .tmp 83)]) [(tSelf, A81), (tSelf, A82), (tSelf, A83)] (by rfl) (by rfl) (by rfl) (by decide) (by decide) (by simp only [List.map_toArray, List.map_cons, List.map_nil]; rfl) (by intro p hp; simp only [List.mem_cons, List.not_mem_nil, or_false] at hp; rcases hp with rfl | rfl | rfl; exact K81.out; exact K82.out; exact K83.out) ?_)
  intro w34 hrow hb
  replace Hb1 := Lib.hid (Hb1.out.below hb)
  replace Hb2 := Lib.hid (Hb2.out.below hb)
  replace Hb4 := Lib.hid (Hb4.out.below hb)
  replace Hb6 := Lib.hid (Hb6.out.below hb)
  replace Hb8 := Lib.hid (Hb8.out.below hb)
  replace K80 := Lib.hid (K80.out.below hb)
  replace K81 := Lib.hid (K81.out.below hb)
  replace K82 := Lib.hid (K82.out.below hb)
  replace K83 := Lib.hid (K83.out.below hb)
  replace hB := hB.trans (hb.mono hB.size)
  clear hb
  have HROW := Lib.hid hrow; clear hrow
  clear K81 K82 K83
  go_wp2_with fail
  refine (uTuple [tSelf, tSelf, tSelf] _ 3 _ (by simp) HROW.out).mono ?_
  rintro e w35 ⟨x85, rfl, ⟨A85, rfl, k85⟩, hb⟩
  replace Hb1 := Lib.hid (Hb1.out.below hb)
  replace Hb2 := Lib.hid (Hb2.out.below hb)
  replace Hb4 := Lib.hid (Hb4.out.below hb)
  replace Hb6 := Lib.hid (Hb6.out.below hb)
  replace Hb8 := Lib.hid (Hb8.out.below hb)
  replace K80 := Lib.hid (K80.out.below hb)
  replace hB := hB.trans (hb.mono hB.size)
  clear hb
  have K85 : Hid (TOk w35 (tOf 5 [tSelf, tSelf, tSelf]) A85) := Lib.hid k85
  clear k85
  clear HROW
  go_wp2_with fail
  refine (usized_any 8 (tNum 0) (tOf 5 [tSelf, tSelf, tSelf]) _ _ _ ⟨A80, rfl, K80.out⟩ ⟨A85, rfl, K85.out⟩).mono ?_
  rintro e w36 ⟨x86, rfl, ⟨A86, rfl, k86⟩, hb⟩
  replace Hb1 := Lib.hid (Hb1.out.below hb)
  replace Hb2 := Lib.hid (Hb2.out.below hb)
  replace Hb4 := Lib.hid (Hb4.out.below hb)
  replace Hb6 := Lib.hid (Hb6.out.below hb)
  replace Hb8 := Lib.hid (Hb8.out.below hb)
  replace K80 := Lib.hid (K80.out.below hb)
  replace K85 := Lib.hid (K85.out.below hb)
  replace hB := hB.trans (hb.mono hB.size)
  clear hb
  have K86 : Hid (TOk w36 (tSized 8 (tNum 0) (tOf 5 [tSelf, tSelf, tSelf])) A86) := Lib.hid k86
  clear k86
  clear K80 K85
  go_wp2_with fail
  refine (uWhole_any (tSized 8 (tNum 0) (tOf 5 [tSelf, tSelf, tSelf])) _ _ (by decide +kernel) (by decide +kernel) ⟨A86, rfl, K86.out⟩).mono ?_
  rintro e w37 ⟨x87, rfl, h87, hb⟩
  obtain ⟨A87, rfl, k87⟩ := h87.tin
  obtain ⟨Xl, hX⟩ : ∃ X, X = ((tSized 8 (tNum 0) (tOf 5 [tSelf, tSelf, tSelf])).wholeE).1 := ⟨_, rfl⟩
  rw [← hX] at k87 ⊢
  rw [show ((tSized 8 (tNum 0) (tOf 5 [tSelf, tSelf, tSelf])).wholeE).2 = 3 from by decide +kernel]
  have HCXl : Hid (Xl.cnt ≤ 3000000 ∧ Xl.lean = true) := Lib.hid (by rw [hX]; exact ⟨by decide +kernel, by decide +kernel⟩)
  clear hX h87
  replace Hb1 := Lib.hid (Hb1.out.below hb)
  replace Hb2 := Lib.hid (Hb2.out.below hb)
  replace Hb4 := Lib.hid (Hb4.out.below hb)
  replace Hb6 := Lib.hid (Hb6.out.below hb)
  replace Hb8 := Lib.hid (Hb8.out.below hb)
  replace K86 := Lib.hid (K86.out.below hb)
  replace hB := hB.trans (hb.mono hB.size)
  clear hb
  have K87 : Hid (TOk w37 Xl A87) := Lib.hid k87
  clear k87
  clear K86
  go_wp2_with (refine wpList_box15 (t := Xl) (A := A87) (by rfl) (by rfl) (by rfl) (by rfl) (by rfl) (by rfl) (by rfl) (by rfl) ?_)
  intro w38 hc hb _ _
  obtain ⟨b16, he⟩ : ∃ b, b = w37.heap.size := ⟨_, rfl⟩
  rw [← he] at hc ⊢
  clear he
  replace Hb1 := Lib.hid (Hb1.out.below hb)
  replace Hb2 := Lib.hid (Hb2.out.below hb)
  replace Hb4 := Lib.hid (Hb4.out.below hb)
  replace Hb6 := Lib.hid (Hb6.out.below hb)
  replace Hb8 := Lib.hid (Hb8.out.below hb)
  replace K87 := Lib.hid (K87.out.below hb)
  replace hB := hB.trans (hb.mono hB.size)
  clear hb
  have Hb16 : Hid (BoxA w38 b16 (Xl) A87) := Lib.hid ⟨hc, K87.out⟩
  clear hc
  clear K87
  clear Hb16
  go_wp2_with fail
  refine (uNum 4 _).mono ?_
  rintro e w39 ⟨x91, rfl, ⟨A91, rfl, k91⟩, hb⟩
  replace Hb1 := Lib.hid (Hb1.out.below hb)
  replace Hb2 := Lib.hid (Hb2.out.below hb)
  replace Hb4 := Lib.hid (Hb4.out.below hb)
  replace Hb6 := Lib.hid (Hb6.out.below hb)
  replace Hb8 := Lib.hid (Hb8.out.below hb)
  replace hB := hB.trans (hb.mono hB.size)
  clear hb
  have K91 : Hid (TOk w39 (tNum 4) A91) := Lib.hid k91
  clear k91
  go_wp2_with fail
  refine (uSelf _).mono ?_
  rintro e w40 ⟨x92, rfl, ⟨A92, rfl, k92⟩, hb⟩
  replace Hb1 := Lib.hid (Hb1.out.below hb)
  replace Hb2 := Lib.hid (Hb2.out.below hb)
  replace Hb4 := Lib.hid (Hb4.out.below hb)
  replace Hb6 := Lib.hid (Hb6.out.below hb)
  replace Hb8 := Lib.hid (Hb8.out.below hb)
  replace K91 := Lib.hid (K91.out.below hb)
  replace hB := hB.trans (hb.mono hB.size)
  clear hb
  have K92 : Hid (TOk w40 (tSelf) A92) := Lib.hid k92
  clear k92
  go_wp2_with fail
  refine (uSelf _).mono ?_
  rintro e w41 ⟨x93, rfl, ⟨A93, rfl, k93⟩, hb⟩
  replace Hb1 := Lib.hid (Hb1.out.below hb)
  replace Hb2 := Lib.hid (Hb2.out.below hb)
  replace Hb4 := Lib.hid (Hb4.out.below hb)
  replace Hb6 := Lib.hid (Hb6.out.below hb)
  replace Hb8 := Lib.hid (Hb8.out.below hb)
  replace K91 := Lib.hid (K91.out.below hb)
  replace K92 := Lib.hid (K92.out.below hb)
  replace hB := hB.trans (hb.mono hB.size)
  clear hb
  have K93 : Hid (TOk w41 (tSelf) A93) := Lib.hid k93
  clear k93
  go_wp2_with fail
  refine (uSelf _).mono ?_
  rintro e w42 ⟨x94, rfl, ⟨A94, rfl, k94⟩, hb⟩
  replace Hb1 := Lib.hid (Hb1.out.below hb)
  replace Hb2 := Lib.hid (Hb2.out.below hb)
  replace Hb4 := Lib.hid (Hb4.out.below hb)
  replace Hb6 := Lib.hid (Hb6.out.below hb)
  replace Hb8 := Lib.hid (Hb8.out.below hb)
  replace K91 := Lib.hid (K91.out.below hb)
  replace K92 := Lib.hid (K92.out.below hb)
  replace K93 := Lib.hid (K93.out.below hb)
  replace hB := hB.trans (hb.mono hB.size)
  clear hb
  have K94 : Hid (TOk w42 (tSelf) A94) := Lib.hid k94
  clear k94
  go_wp2_with (refine wpList_rowK (n := 3) (parts := #[(0, .tmp 92), (1, .tmp 93), (2, .tmp 94)]) [(tSelf, A92), (tSelf, A93), (tSelf, A94)] (by rfl) (by rfl) (by rfl) (by decide) (by decide) (by simp only [List.map_toArray, List.map_cons, List.map_nil]; rfl) (by intro p hp; simp only [List.mem_cons, List.not_mem_nil, or_false] at hp; rcases hp with rfl | rfl | rfl; exact K92.out; exact K93.out; exact K94.out) ?_)
  intro w43 hrow hb
  replace Hb1 := Lib.hid (Hb1.out.below hb)
  replace Hb2 := Lib.hid (Hb2.out.below hb)
  replace Hb4 := Lib.hid (Hb4.out.below hb)
  replace Hb6 := Lib.hid (Hb6.out.below hb)
  replace Hb8 := Lib.hid (Hb8.out.below hb)
  replace K91 := Lib.hid (K91.out.below hb)
  replace K92 := Lib.hid (K92.out.below hb)
  replace K93 := Lib.hid (K93.out.below hb)
  replace K94 := Lib.hid (K94.out.below hb)
  replace hB := hB.trans (hb.mono hB.size)
  clear hb
  have HROW := Lib.hid hrow; clear hrow
  clear K92 K93 K94
  go_wp2_with fail
  refine (uTuple [tSelf, tSelf, tSelf] _ 3 _ (by simp) HROW.out).mono ?_
  rintro e w44 ⟨x96, rfl, ⟨A96, rfl, k96⟩, hb⟩
  replace Hb1 := Lib.hid (Hb1.out.below hb)
  replace Hb2 := Lib.hid (Hb2.out.below hb)
  replace Hb4 := Lib.hid (Hb4.out.below hb)
  replace Hb6 := Lib.hid (Hb6.out.below hb)
  replace Hb8 := Lib.hid (Hb8.out.below hb)
  replace K91 := Lib.hid (K91.out.below hb)
  replace hB := hB.trans (hb.mono hB.size)
  clear hb
  have K96 : Hid (TOk w44 (tOf 5 [tSelf, tSelf, tSelf]) A96) := Lib.hid k96
  clear k96
  clear HROW
  go_wp2_with fail
  refine (usized_any 0 (tNum 4) (tOf 5 [tSelf, tSelf, tSelf]) _ _ _ ⟨A91, rfl, K91.out⟩ ⟨A96, rfl, K96.out⟩).mono ?_
  rintro e w45 ⟨x97, rfl, ⟨A97, rfl, k97⟩, hb⟩
  replace Hb1 := Lib.hid (Hb1.out.below hb)
  replace Hb2 := Lib.hid (Hb2.out.below hb)
  replace Hb4 := Lib.hid (Hb4.out.below hb)
  replace Hb6 := Lib.hid (Hb6.out.below hb)
  replace Hb8 := Lib.hid (Hb8.out.below hb)
  replace K91 := Lib.hid (K91.out.below hb)
  replace K96 := Lib.hid (K96.out.below hb)
  replace hB := hB.trans (hb.mono hB.size)
  clear hb
  have K97 : Hid (TOk w45 (tSized 0 (tNum 4) (tOf 5 [tSelf, tSelf, tSelf])) A97) := Lib.hid k97
  clear k97
  clear K91 K96
  go_wp2_with fail
  refine (uWhole_any (tSized 0 (tNum 4) (tOf 5 [tSelf, tSelf, tSelf])) _ _ (by decide +kernel) (by decide +kernel) ⟨A97, rfl, K97.out⟩).mono ?_
  rintro e w46 ⟨x98, rfl, h98, hb⟩
  obtain ⟨A98, rfl, k98⟩ := h98.tin
  obtain ⟨Xm, hX⟩ : ∃ X, X = ((tSized 0 (tNum 4) (tOf 5 [tSelf, tSelf, tSelf])).wholeE).1 := ⟨_, rfl⟩
  rw [← hX] at k98 ⊢
  rw [show ((tSized 0 (tNum 4) (tOf 5 [tSelf, tSelf, tSelf])).wholeE).2 = 0 from by decide +kernel]
  have HCXm : Hid (Xm.cnt ≤ 3000000 ∧ Xm.lean = true) := Lib.hid (by rw [hX]; exact ⟨by decide +kernel, by decide +kernel⟩)
  have HSXm0 : Hid (TT.same Xm (tNum 4) = true) := Lib.hid (by rw [hX]; decide +kernel)
  clear hX h98
  replace Hb1 := Lib.hid (Hb1.out.below hb)
  replace Hb2 := Lib.hid (Hb2.out.below hb)
  replace Hb4 := Lib.hid (Hb4.out.below hb)
  replace Hb6 := Lib.hid (Hb6.out.below hb)
  replace Hb8 := Lib.hid (Hb8.out.below hb)
  replace K97 := Lib.hid (K97.out.below hb)
  replace hB := hB.trans (hb.mono hB.size)
  clear hb
  have K98 : Hid (TOk w46 Xm A98) := Lib.hid k98
  clear k98
  clear K97
  go_wp2_with (refine wpList_box15 (t := Xm) (A := A98) (by rfl) (by rfl) (by rfl) (by rfl) (by rfl) (by rfl) (by rfl) (by rfl) ?_)
  intro w47 hc hb _ _
  obtain ⟨b18, he⟩ : ∃ b, b = w46.heap.size := ⟨_, rfl⟩
  rw [← he] at hc ⊢
  clear he
  replace Hb1 := Lib.hid (Hb1.out.below hb)
  replace Hb2 := Lib.hid (Hb2.out.below hb)
  replace Hb4 := Lib.hid (Hb4.out.below hb)
  replace Hb6 := Lib.hid (Hb6.out.below hb)
  replace Hb8 := Lib.hid (Hb8.out.below hb)
  replace K98 := Lib.hid (K98.out.below hb)
  replace hB := hB.trans (hb.mono hB.size)
  clear hb
  have Hb18 : Hid (BoxA w47 b18 (Xm) A98) := Lib.hid ⟨hc, K98.out⟩
  clear hc
  clear K98
  replace Hb1 : Hid (BoxT w47 b1 IN) := Lib.hid ⟨_, Hb1.out⟩
  replace Hb2 : Hid (BoxT w47 b2 Xa) := Lib.hid ⟨_, Hb2.out⟩
  replace Hb4 : Hid (BoxT w47 b4 Xb) := Lib.hid ⟨_, Hb4.out⟩
  replace Hb6 : Hid (BoxT w47 b6 Xc) := Lib.hid ⟨_, Hb6.out⟩
  replace Hb8 : Hid (BoxT w47 b8 Xd) := Lib.hid ⟨_, Hb8.out⟩
  replace Hb18 : Hid (BoxT w47 b18 Xm) := Lib.hid ⟨_, Hb18.out⟩
  have HSXa0' : Hid (TT.same Xa (tSized 1 (tSized 0 (tNum 1) IN) (tOf 5 [tSelf])) = true) := Lib.hid (by rw [HIN.out]; exact HSXa0.out)
  have HSXb0' : Hid (TT.same Xb (tOf 5 [tSized 0 (tSized 0 (tNum 1) IN) (tOf 5 [tSelf])]) = true) := Lib.hid (by rw [HIN.out]; have h := HSXb0.out; rw [HIN.out] at h; exact h)
  go_wp2_with fail
  have HBV := Lib.hid (fun W (h : Below w47.drew.heap.size w47.drew W) => (Below.refl _ w47).drew.trans h)
  try simp only [List.append_eq, List.cons_append, List.nil_append]
  refine wp_region_allW (kindT [(101, .fixed (.int .i64 0)), (102, .fixed (.bool false)), (103, .fixed (.bool false)), (104, .term (Xa)), (105, .term (tNum 1)), (106, .term (IN)), (107, .term (tSized 0 (tNum 1) IN)), (108, .term (tSelf)), (109, .row [tSelf]), (110, .term (tOf 5 [tSelf])), (111, .term (tSized 1 (tSized 0 (tNum 1) IN) (tOf 5 [tSelf]))), (112, .fixed (.bool true)), (113, .fixed (.bool false)), (114, .fixed (.bool false)), (115, .fixed (.bool false)), (116, .fixed (.int .i64 0)), (117, .fixed (.bool false)), (118, .fixed (.bool false)), (119, .fixed (.bool false)), (120, .term (Xb)), (121, .term (tNum 1)), (122, .term (IN)), (123, .term (tSized 0 (tNum 1) IN)), (124, .term (tSelf)), (125, .row [tSelf]), (126, .term (tOf 5 [tSelf])), (127, .term (tSized 0 (tSized 0 (tNum 1) IN) (tOf 5 [tSelf]))), (128, .row [tSized 0 (tSized 0 (tNum 1) IN) (tOf 5 [tSelf])]), (129, .term (tOf 5 [tSized 0 (tSized 0 (tNum 1) IN) (tOf 5 [tSelf])])), (130, .fixed (.bool true)), (131, .fixed (.bool false)), (132, .fixed (.bool false)), (133, .fixed (.bool false)), (134, .fixed (.int .i64 0)), (135, .fixed (.bool false)), (136, .fixed (.bool false)), (137, .fixed (.bool false)), (138, .term (Xc)), (139, .term (tNum 1)), (140, .row [tNum 1]), (141, .term (tOf 5 [tNum 1])), (142, .fixed (.bool true)), (143, .fixed (.bool false)), (144, .fixed (.bool false)), (145, .fixed (.bool false)), (146, .fixed (.int .i64 0)), (147, .fixed (.bool false)), (148, .fixed (.bool false)), (149, .fixed (.bool false)), (150, .term (Xd)), (151, .term (tNum 0)), (152, .term (tNum 5)), (153, .row [tNum 0, tNum 5]), (154, .term (tOf 5 [tNum 0, tNum 5])), (155, .term (tNum 5)), (156, .row [tOf 5 [tNum 0, tNum 5], tNum 5]), (157, .term (tOf 5 [tOf 5 [tNum 0, tNum 5], tNum 5])), (158, .term (tNum 5)), (159, .row [tOf 5 [tOf 5 [tNum 0, tNum 5], tNum 5], tNum 5]), (160, .term (tOf 5 [tOf 5 [tOf 5 [tNum 0, tNum 5], tNum 5], tNum 5])), (161, .fixed (.bool true)), (162, .fixed (.bool false)), (163, .fixed (.bool false))]) 221 (by kernel_rfl) (by kernel_rfl) (by rfl) (kindT_mono _) ?_ ?_
  · as_aux_lemma =>
    show ∀ o ∈ [(0, _), (1, _), (2, _), (3, _), (4, _), (5, _), (6, _), (7, _), (8, _), (9, _), (10, _), (11, _), (12, _), (13, _), (14, _), (15, _), (16, _), (17, _), (18, _), (19, _), (20, _), (21, _), (22, _), (23, _), (24, _), (25, _), (26, _), (27, _), (28, _), (29, _), (30, _), (31, _), (32, _), (33, _), (34, _), (35, _), (36, _), (37, _), (38, _), (39, _), (40, _), (41, _), (42, _), (43, _), (44, _), (45, _), (46, _), (47, _), (48, _), (49, _), (50, _), (51, _), (52, _), (53, _), (54, _), (55, _), (56, _), (57, _), (58, _), (59, _), (60, _), (61, _), (62, _)], _
    refine (tfm ?_ (tfm ?_ (tfm ?_ (tfm ?_ (tfm ?_ (tfm ?_ (tfm ?_ (tfm ?_ (tfm ?_ (tfm ?_ (tfm ?_ (tfm ?_ (tfm ?_ (tfm ?_ (tfm ?_ (tfm ?_ (tfm ?_ (tfm ?_ (tfm ?_ (tfm ?_ (tfm ?_ (tfm ?_ (tfm ?_ (tfm ?_ (tfm ?_ (tfm ?_ (tfm ?_ (tfm ?_ (tfm ?_ (tfm ?_ (tfm ?_ (tfm ?_ (tfm ?_ (tfm ?_ (tfm ?_ (tfm ?_ (tfm ?_ (tfm ?_ (tfm ?_ (tfm ?_ (tfm ?_ (tfm ?_ (tfm ?_ (tfm ?_ (tfm ?_ (tfm ?_ (tfm ?_ (tfm ?_ (tfm ?_ (tfm ?_ (tfm ?_ (tfm ?_ (tfm ?_ (tfm ?_ (tfm ?_ (tfm ?_ (tfm ?_ (tfm ?_ (tfm ?_ (tfm ?_ (tfm ?_ (tfm ?_ (tfm ?_ tfmnil)))))))))))))))))))))))))))))))))))))))))))))))))))))))))))))))
    · intro r W hc hf hs hd hB
      have hBV := HBV.out W hB
      refine want_n rfl ?_
      have e : r (.tmp 3) = .int .i64 0 := hs 3 (by kernel_rfl)
      exact st_value (v := .int .i64 0) rfl (by decide) (by go_simp) rfl
    · intro r W hc hf hs hd hB
      have hBV := HBV.out W hB
      refine want_n rfl ?_
      have e101 : r (.tmp 101) = .int .i64 0 := hd 101 (by kernel_rfl)
      exact st_value (v := .bool false) rfl (by decide) (by go_simp) rfl
    · intro r W hc hf hs hd hB
      have hBV := HBV.out W hB
      refine want_n rfl ?_
      have e : r (.tmp 102) = .bool false := hd 102 (by kernel_rfl)
      exact st_value (v := .bool false) rfl (by decide) (by go_simp) rfl
    · intro r W hc hf hs hd hB
      have hBV := HBV.out W hB
      refine want_g 2 103 rfl (by kernel_rfl) (hd 103 (by kernel_rfl) : r (.tmp 103) = .bool false) ?_
      have e : r (.tmp 2) = .pointer (some ⟨b2, 0, none⟩) := hs 2 (by kernel_rfl)
      obtain ⟨A, hcl, hok⟩ := BoxT.below Hb2.out hBV
      exact st_value (v := TT.val (Xa) A) rfl (by decide) (run_load15 hcl rfl e) ⟨A, rfl, hok⟩
    · intro r W hc hf hs hd hB
      have hBV := HBV.out W hB
      refine want_g 2 103 rfl (by kernel_rfl) (hd 103 (by kernel_rfl) : r (.tmp 103) = .bool false) ?_
      
      exact st_call (f := 42) (args := #[.int .i64 1]) rfl (by decide) (by go_simp) (made_term (uNum 1 W))
    · intro r W hc hf hs hd hB
      have hBV := HBV.out W hB
      refine want_g 2 103 rfl (by kernel_rfl) (hd 103 (by kernel_rfl) : r (.tmp 103) = .bool false) ?_
      have e : r (.tmp 1) = .pointer (some ⟨b1, 0, none⟩) := hs 1 (by kernel_rfl)
      obtain ⟨A, hcl, hok⟩ := BoxT.below Hb1.out hBV
      exact st_value (v := TT.val (IN) A) rfl (by decide) (run_load15 hcl rfl e) ⟨A, rfl, hok⟩
    · intro r W hc hf hs hd hB
      have hBV := HBV.out W hB
      refine want_g 2 103 rfl (by kernel_rfl) (hd 103 (by kernel_rfl) : r (.tmp 103) = .bool false) ?_
      have h105 : TIn W (tNum 1) (r (.tmp 105)) := hd 105 (by kernel_rfl)
      have h106 : TIn W (IN) (r (.tmp 106)) := hd 106 (by kernel_rfl)
      exact st_call (f := 33) (args := #[.int .i64 0, r (.tmp 105), r (.tmp 106)]) rfl (by decide) (by go_simp) (made_term (usized_any 0 _ _ _ _ W h105 h106))
    · intro r W hc hf hs hd hB
      have hBV := HBV.out W hB
      refine want_g 2 103 rfl (by kernel_rfl) (hd 103 (by kernel_rfl) : r (.tmp 103) = .bool false) ?_
      
      exact st_call (f := 41) (args := #[]) rfl (by decide) (by go_simp) (made_term (uSelf W))
    · intro r W hc hf hs hd hB
      have hBV := HBV.out W hB
      refine want_g 2 103 rfl (by kernel_rfl) (hd 103 (by kernel_rfl) : r (.tmp 103) = .bool false) ?_
      have h108 : TIn W (tSelf) (r (.tmp 108)) := hd 108 (by kernel_rfl)
      obtain ⟨A108, e108, k108⟩ := h108
      obtain ⟨w2, hw2, m2, s2, hc2, _⟩ := row1_new W (tSelf) A108
      exact st_new (v := .slice (some ⟨W.heap.size, 0, none⟩) 1 1) (w' := w2) rfl (by decide) (run_row1 rfl e108 hw2) m2 ⟨_, _, _, rfl, rfl, by simp, trow_cons hc2 (k108.below m2) trow_nil⟩
    · intro r W hc hf hs hd hB
      have hBV := HBV.out W hB
      refine want_g 2 103 rfl (by kernel_rfl) (hd 103 (by kernel_rfl) : r (.tmp 103) = .bool false) ?_
      obtain ⟨ah109, nh109, ch109, h109, hnh109, hlh109, hrh109⟩ : TQ.ok (.row [tSelf]) (r (.tmp 109)) W := hd 109 (by kernel_rfl)
      exact st_call (f := 40) (args := #[.slice ah109 nh109 ch109]) rfl (by decide) (by go_simp) (by rw [hnh109]; exact made_term (uTuple [tSelf] ah109 ch109 W (by simp) hrh109))
    · intro r W hc hf hs hd hB
      have hBV := HBV.out W hB
      refine want_g 2 103 rfl (by kernel_rfl) (hd 103 (by kernel_rfl) : r (.tmp 103) = .bool false) ?_
      have h107 : TIn W (tSized 0 (tNum 1) IN) (r (.tmp 107)) := hd 107 (by kernel_rfl)
      have h110 : TIn W (tOf 5 [tSelf]) (r (.tmp 110)) := hd 110 (by kernel_rfl)
      exact st_call (f := 33) (args := #[.int .i64 1, r (.tmp 107), r (.tmp 110)]) rfl (by decide) (by go_simp) (made_term (usized_any 1 _ _ _ _ W h107 h110))
    · intro r W hc hf hs hd hB
      have hBV := HBV.out W hB
      refine want_g 2 103 rfl (by kernel_rfl) (hd 103 (by kernel_rfl) : r (.tmp 103) = .bool false) ?_
      have h104 : TIn W (Xa) (r (.tmp 104)) := hd 104 (by kernel_rfl)
      have h111 : TIn W (tSized 1 (tSized 0 (tNum 1) IN) (tOf 5 [tSelf])) (r (.tmp 111)) := hd 111 (by kernel_rfl)
      exact st_call (f := 31) (args := #[r (.tmp 104), r (.tmp 111)]) rfl (by decide) (by go_simp) (made_fix (by rw [HSXa0'.out]) (rtsame_any 3000000 Xa (tSized 1 (tSized 0 (tNum 1) IN) (tOf 5 [tSelf])) _ _ W HCXa.out.1 h104 h111))
    · intro r W hc hf hs hd hB
      have hBV := HBV.out W hB
      refine want_g 2 103 rfl (by kernel_rfl) (hd 103 (by kernel_rfl) : r (.tmp 103) = .bool false) ?_
      have e112 : r (.tmp 112) = .bool true := hd 112 (by kernel_rfl)
      exact st_value (v := .bool false) rfl (by decide) (by go_simp) rfl
    · intro r W hc hf hs hd hB
      have hBV := HBV.out W hB
      refine want_n rfl ?_
      have e103 : r (.tmp 103) = .bool false := hd 103 (by kernel_rfl)
      have e113 : r (.tmp 113) = .bool false := hd 113 (by kernel_rfl)
      exact st_value (v := .bool false) rfl (by decide) (by go_simp) rfl
    · intro r W hc hf hs hd hB
      have hBV := HBV.out W hB
      refine want_n rfl ?_
      have e : r (.tmp 114) = .bool false := hd 114 (by kernel_rfl)
      exact st_value (v := .bool false) rfl (by decide) (by go_simp) rfl
    · intro r W hc hf hs hd hB
      have hBV := HBV.out W hB
      refine want_g 14 115 rfl (by kernel_rfl) (hd 115 (by kernel_rfl) : r (.tmp 115) = .bool false) ?_
      have e : r (.tmp 5) = .int .i64 0 := hs 5 (by kernel_rfl)
      exact st_value (v := .int .i64 0) rfl (by decide) (by go_simp) rfl
    · intro r W hc hf hs hd hB
      have hBV := HBV.out W hB
      refine want_g 14 115 rfl (by kernel_rfl) (hd 115 (by kernel_rfl) : r (.tmp 115) = .bool false) ?_
      have e116 : r (.tmp 116) = .int .i64 0 := hd 116 (by kernel_rfl)
      exact st_value (v := .bool false) rfl (by decide) (by go_simp) rfl
    · intro r W hc hf hs hd hB
      have hBV := HBV.out W hB
      refine want_n rfl ?_
      have e115 : r (.tmp 115) = .bool false := hd 115 (by kernel_rfl)
      have e117 : r (.tmp 117) = .bool false := hd 117 (by kernel_rfl)
      exact st_value (v := .bool false) rfl (by decide) (by go_simp) rfl
    · intro r W hc hf hs hd hB
      have hBV := HBV.out W hB
      refine want_n rfl ?_
      have e : r (.tmp 118) = .bool false := hd 118 (by kernel_rfl)
      exact st_value (v := .bool false) rfl (by decide) (by go_simp) rfl
    · intro r W hc hf hs hd hB
      have hBV := HBV.out W hB
      refine want_g 18 119 rfl (by kernel_rfl) (hd 119 (by kernel_rfl) : r (.tmp 119) = .bool false) ?_
      have e : r (.tmp 4) = .pointer (some ⟨b4, 0, none⟩) := hs 4 (by kernel_rfl)
      obtain ⟨A, hcl, hok⟩ := BoxT.below Hb4.out hBV
      exact st_value (v := TT.val (Xb) A) rfl (by decide) (run_load15 hcl rfl e) ⟨A, rfl, hok⟩
    · intro r W hc hf hs hd hB
      have hBV := HBV.out W hB
      refine want_g 18 119 rfl (by kernel_rfl) (hd 119 (by kernel_rfl) : r (.tmp 119) = .bool false) ?_
      
      exact st_call (f := 42) (args := #[.int .i64 1]) rfl (by decide) (by go_simp) (made_term (uNum 1 W))
    · intro r W hc hf hs hd hB
      have hBV := HBV.out W hB
      refine want_g 18 119 rfl (by kernel_rfl) (hd 119 (by kernel_rfl) : r (.tmp 119) = .bool false) ?_
      have e : r (.tmp 1) = .pointer (some ⟨b1, 0, none⟩) := hs 1 (by kernel_rfl)
      obtain ⟨A, hcl, hok⟩ := BoxT.below Hb1.out hBV
      exact st_value (v := TT.val (IN) A) rfl (by decide) (run_load15 hcl rfl e) ⟨A, rfl, hok⟩
    · intro r W hc hf hs hd hB
      have hBV := HBV.out W hB
      refine want_g 18 119 rfl (by kernel_rfl) (hd 119 (by kernel_rfl) : r (.tmp 119) = .bool false) ?_
      have h121 : TIn W (tNum 1) (r (.tmp 121)) := hd 121 (by kernel_rfl)
      have h122 : TIn W (IN) (r (.tmp 122)) := hd 122 (by kernel_rfl)
      exact st_call (f := 33) (args := #[.int .i64 0, r (.tmp 121), r (.tmp 122)]) rfl (by decide) (by go_simp) (made_term (usized_any 0 _ _ _ _ W h121 h122))
    · intro r W hc hf hs hd hB
      have hBV := HBV.out W hB
      refine want_g 18 119 rfl (by kernel_rfl) (hd 119 (by kernel_rfl) : r (.tmp 119) = .bool false) ?_
      
      exact st_call (f := 41) (args := #[]) rfl (by decide) (by go_simp) (made_term (uSelf W))
    · intro r W hc hf hs hd hB
      have hBV := HBV.out W hB
      refine want_g 18 119 rfl (by kernel_rfl) (hd 119 (by kernel_rfl) : r (.tmp 119) = .bool false) ?_
      have h124 : TIn W (tSelf) (r (.tmp 124)) := hd 124 (by kernel_rfl)
      obtain ⟨A124, e124, k124⟩ := h124
      obtain ⟨w2, hw2, m2, s2, hc2, _⟩ := row1_new W (tSelf) A124
      exact st_new (v := .slice (some ⟨W.heap.size, 0, none⟩) 1 1) (w' := w2) rfl (by decide) (run_row1 rfl e124 hw2) m2 ⟨_, _, _, rfl, rfl, by simp, trow_cons hc2 (k124.below m2) trow_nil⟩
    · intro r W hc hf hs hd hB
      have hBV := HBV.out W hB
      refine want_g 18 119 rfl (by kernel_rfl) (hd 119 (by kernel_rfl) : r (.tmp 119) = .bool false) ?_
      obtain ⟨ah125, nh125, ch125, h125, hnh125, hlh125, hrh125⟩ : TQ.ok (.row [tSelf]) (r (.tmp 125)) W := hd 125 (by kernel_rfl)
      exact st_call (f := 40) (args := #[.slice ah125 nh125 ch125]) rfl (by decide) (by go_simp) (by rw [hnh125]; exact made_term (uTuple [tSelf] ah125 ch125 W (by simp) hrh125))
    · intro r W hc hf hs hd hB
      have hBV := HBV.out W hB
      refine want_g 18 119 rfl (by kernel_rfl) (hd 119 (by kernel_rfl) : r (.tmp 119) = .bool false) ?_
      have h123 : TIn W (tSized 0 (tNum 1) IN) (r (.tmp 123)) := hd 123 (by kernel_rfl)
      have h126 : TIn W (tOf 5 [tSelf]) (r (.tmp 126)) := hd 126 (by kernel_rfl)
      exact st_call (f := 33) (args := #[.int .i64 0, r (.tmp 123), r (.tmp 126)]) rfl (by decide) (by go_simp) (made_term (usized_any 0 _ _ _ _ W h123 h126))
    · intro r W hc hf hs hd hB
      have hBV := HBV.out W hB
      refine want_g 18 119 rfl (by kernel_rfl) (hd 119 (by kernel_rfl) : r (.tmp 119) = .bool false) ?_
      have h127 : TIn W (tSized 0 (tSized 0 (tNum 1) IN) (tOf 5 [tSelf])) (r (.tmp 127)) := hd 127 (by kernel_rfl)
      obtain ⟨A127, e127, k127⟩ := h127
      obtain ⟨w2, hw2, m2, s2, hc2, _⟩ := row1_new W (tSized 0 (tSized 0 (tNum 1) IN) (tOf 5 [tSelf])) A127
      exact st_new (v := .slice (some ⟨W.heap.size, 0, none⟩) 1 1) (w' := w2) rfl (by decide) (run_row1 rfl e127 hw2) m2 ⟨_, _, _, rfl, rfl, by simp, trow_cons hc2 (k127.below m2) trow_nil⟩
    · intro r W hc hf hs hd hB
      have hBV := HBV.out W hB
      refine want_g 18 119 rfl (by kernel_rfl) (hd 119 (by kernel_rfl) : r (.tmp 119) = .bool false) ?_
      obtain ⟨ah128, nh128, ch128, h128, hnh128, hlh128, hrh128⟩ : TQ.ok (.row [tSized 0 (tSized 0 (tNum 1) IN) (tOf 5 [tSelf])]) (r (.tmp 128)) W := hd 128 (by kernel_rfl)
      exact st_call (f := 40) (args := #[.slice ah128 nh128 ch128]) rfl (by decide) (by go_simp) (by rw [hnh128]; exact made_term (uTuple [tSized 0 (tSized 0 (tNum 1) IN) (tOf 5 [tSelf])] ah128 ch128 W (by simp) hrh128))
    · intro r W hc hf hs hd hB
      have hBV := HBV.out W hB
      refine want_g 18 119 rfl (by kernel_rfl) (hd 119 (by kernel_rfl) : r (.tmp 119) = .bool false) ?_
      have h120 : TIn W (Xb) (r (.tmp 120)) := hd 120 (by kernel_rfl)
      have h129 : TIn W (tOf 5 [tSized 0 (tSized 0 (tNum 1) IN) (tOf 5 [tSelf])]) (r (.tmp 129)) := hd 129 (by kernel_rfl)
      exact st_call (f := 31) (args := #[r (.tmp 120), r (.tmp 129)]) rfl (by decide) (by go_simp) (made_fix (by rw [HSXb0'.out]) (rtsame_any 3000000 Xb (tOf 5 [tSized 0 (tSized 0 (tNum 1) IN) (tOf 5 [tSelf])]) _ _ W HCXb.out h120 h129))
    · intro r W hc hf hs hd hB
      have hBV := HBV.out W hB
      refine want_g 18 119 rfl (by kernel_rfl) (hd 119 (by kernel_rfl) : r (.tmp 119) = .bool false) ?_
      have e130 : r (.tmp 130) = .bool true := hd 130 (by kernel_rfl)
      exact st_value (v := .bool false) rfl (by decide) (by go_simp) rfl
    · intro r W hc hf hs hd hB
      have hBV := HBV.out W hB
      refine want_n rfl ?_
      have e119 : r (.tmp 119) = .bool false := hd 119 (by kernel_rfl)
      have e131 : r (.tmp 131) = .bool false := hd 131 (by kernel_rfl)
      exact st_value (v := .bool false) rfl (by decide) (by go_simp) rfl
    · intro r W hc hf hs hd hB
      have hBV := HBV.out W hB
      refine want_n rfl ?_
      have e : r (.tmp 132) = .bool false := hd 132 (by kernel_rfl)
      exact st_value (v := .bool false) rfl (by decide) (by go_simp) rfl
    · intro r W hc hf hs hd hB
      have hBV := HBV.out W hB
      refine want_g 32 133 rfl (by kernel_rfl) (hd 133 (by kernel_rfl) : r (.tmp 133) = .bool false) ?_
      have e : r (.tmp 7) = .int .i64 0 := hs 7 (by kernel_rfl)
      exact st_value (v := .int .i64 0) rfl (by decide) (by go_simp) rfl
    · intro r W hc hf hs hd hB
      have hBV := HBV.out W hB
      refine want_g 32 133 rfl (by kernel_rfl) (hd 133 (by kernel_rfl) : r (.tmp 133) = .bool false) ?_
      have e134 : r (.tmp 134) = .int .i64 0 := hd 134 (by kernel_rfl)
      exact st_value (v := .bool false) rfl (by decide) (by go_simp) rfl
    · intro r W hc hf hs hd hB
      have hBV := HBV.out W hB
      refine want_n rfl ?_
      have e133 : r (.tmp 133) = .bool false := hd 133 (by kernel_rfl)
      have e135 : r (.tmp 135) = .bool false := hd 135 (by kernel_rfl)
      exact st_value (v := .bool false) rfl (by decide) (by go_simp) rfl
    · intro r W hc hf hs hd hB
      have hBV := HBV.out W hB
      refine want_n rfl ?_
      have e : r (.tmp 136) = .bool false := hd 136 (by kernel_rfl)
      exact st_value (v := .bool false) rfl (by decide) (by go_simp) rfl
    · intro r W hc hf hs hd hB
      have hBV := HBV.out W hB
      refine want_g 36 137 rfl (by kernel_rfl) (hd 137 (by kernel_rfl) : r (.tmp 137) = .bool false) ?_
      have e : r (.tmp 6) = .pointer (some ⟨b6, 0, none⟩) := hs 6 (by kernel_rfl)
      obtain ⟨A, hcl, hok⟩ := BoxT.below Hb6.out hBV
      exact st_value (v := TT.val (Xc) A) rfl (by decide) (run_load15 hcl rfl e) ⟨A, rfl, hok⟩
    · intro r W hc hf hs hd hB
      have hBV := HBV.out W hB
      refine want_g 36 137 rfl (by kernel_rfl) (hd 137 (by kernel_rfl) : r (.tmp 137) = .bool false) ?_
      
      exact st_call (f := 42) (args := #[.int .i64 1]) rfl (by decide) (by go_simp) (made_term (uNum 1 W))
    · intro r W hc hf hs hd hB
      have hBV := HBV.out W hB
      refine want_g 36 137 rfl (by kernel_rfl) (hd 137 (by kernel_rfl) : r (.tmp 137) = .bool false) ?_
      have h139 : TIn W (tNum 1) (r (.tmp 139)) := hd 139 (by kernel_rfl)
      obtain ⟨A139, e139, k139⟩ := h139
      obtain ⟨w2, hw2, m2, s2, hc2, _⟩ := row1_new W (tNum 1) A139
      exact st_new (v := .slice (some ⟨W.heap.size, 0, none⟩) 1 1) (w' := w2) rfl (by decide) (run_row1 rfl e139 hw2) m2 ⟨_, _, _, rfl, rfl, by simp, trow_cons hc2 (k139.below m2) trow_nil⟩
    · intro r W hc hf hs hd hB
      have hBV := HBV.out W hB
      refine want_g 36 137 rfl (by kernel_rfl) (hd 137 (by kernel_rfl) : r (.tmp 137) = .bool false) ?_
      obtain ⟨ah140, nh140, ch140, h140, hnh140, hlh140, hrh140⟩ : TQ.ok (.row [tNum 1]) (r (.tmp 140)) W := hd 140 (by kernel_rfl)
      exact st_call (f := 40) (args := #[.slice ah140 nh140 ch140]) rfl (by decide) (by go_simp) (by rw [hnh140]; exact made_term (uTuple [tNum 1] ah140 ch140 W (by simp) hrh140))
    · intro r W hc hf hs hd hB
      have hBV := HBV.out W hB
      refine want_g 36 137 rfl (by kernel_rfl) (hd 137 (by kernel_rfl) : r (.tmp 137) = .bool false) ?_
      have h138 : TIn W (Xc) (r (.tmp 138)) := hd 138 (by kernel_rfl)
      have h141 : TIn W (tOf 5 [tNum 1]) (r (.tmp 141)) := hd 141 (by kernel_rfl)
      exact st_call (f := 31) (args := #[r (.tmp 138), r (.tmp 141)]) rfl (by decide) (by go_simp) (made_fix (by rw [HSXc0.out]) (rtsame_any 3000000 Xc (tOf 5 [tNum 1]) _ _ W HCXc.out.1 h138 h141))
    · intro r W hc hf hs hd hB
      have hBV := HBV.out W hB
      refine want_g 36 137 rfl (by kernel_rfl) (hd 137 (by kernel_rfl) : r (.tmp 137) = .bool false) ?_
      have e142 : r (.tmp 142) = .bool true := hd 142 (by kernel_rfl)
      exact st_value (v := .bool false) rfl (by decide) (by go_simp) rfl
    · intro r W hc hf hs hd hB
      have hBV := HBV.out W hB
      refine want_n rfl ?_
      have e137 : r (.tmp 137) = .bool false := hd 137 (by kernel_rfl)
      have e143 : r (.tmp 143) = .bool false := hd 143 (by kernel_rfl)
      exact st_value (v := .bool false) rfl (by decide) (by go_simp) rfl
    · intro r W hc hf hs hd hB
      have hBV := HBV.out W hB
      refine want_n rfl ?_
      have e : r (.tmp 144) = .bool false := hd 144 (by kernel_rfl)
      exact st_value (v := .bool false) rfl (by decide) (by go_simp) rfl
    · intro r W hc hf hs hd hB
      have hBV := HBV.out W hB
      refine want_g 44 145 rfl (by kernel_rfl) (hd 145 (by kernel_rfl) : r (.tmp 145) = .bool false) ?_
      have e : r (.tmp 9) = .int .i64 0 := hs 9 (by kernel_rfl)
      exact st_value (v := .int .i64 0) rfl (by decide) (by go_simp) rfl
    · intro r W hc hf hs hd hB
      have hBV := HBV.out W hB
      refine want_g 44 145 rfl (by kernel_rfl) (hd 145 (by kernel_rfl) : r (.tmp 145) = .bool false) ?_
      have e146 : r (.tmp 146) = .int .i64 0 := hd 146 (by kernel_rfl)
      exact st_value (v := .bool false) rfl (by decide) (by go_simp) rfl
    · intro r W hc hf hs hd hB
      have hBV := HBV.out W hB
      refine want_n rfl ?_
      have e145 : r (.tmp 145) = .bool false := hd 145 (by kernel_rfl)
      have e147 : r (.tmp 147) = .bool false := hd 147 (by kernel_rfl)
      exact st_value (v := .bool false) rfl (by decide) (by go_simp) rfl
    · intro r W hc hf hs hd hB
      have hBV := HBV.out W hB
      refine want_n rfl ?_
      have e : r (.tmp 148) = .bool false := hd 148 (by kernel_rfl)
      exact st_value (v := .bool false) rfl (by decide) (by go_simp) rfl
    · intro r W hc hf hs hd hB
      have hBV := HBV.out W hB
      refine want_g 48 149 rfl (by kernel_rfl) (hd 149 (by kernel_rfl) : r (.tmp 149) = .bool false) ?_
      have e : r (.tmp 8) = .pointer (some ⟨b8, 0, none⟩) := hs 8 (by kernel_rfl)
      obtain ⟨A, hcl, hok⟩ := BoxT.below Hb8.out hBV
      exact st_value (v := TT.val (Xd) A) rfl (by decide) (run_load15 hcl rfl e) ⟨A, rfl, hok⟩
    · intro r W hc hf hs hd hB
      have hBV := HBV.out W hB
      refine want_g 48 149 rfl (by kernel_rfl) (hd 149 (by kernel_rfl) : r (.tmp 149) = .bool false) ?_
      
      exact st_call (f := 42) (args := #[.int .i64 0]) rfl (by decide) (by go_simp) (made_term (uNum 0 W))
    · intro r W hc hf hs hd hB
      have hBV := HBV.out W hB
      refine want_g 48 149 rfl (by kernel_rfl) (hd 149 (by kernel_rfl) : r (.tmp 149) = .bool false) ?_
      
      exact st_call (f := 42) (args := #[.int .i64 5]) rfl (by decide) (by go_simp) (made_term (uNum 5 W))
    · intro r W hc hf hs hd hB
      have hBV := HBV.out W hB
      refine want_g 48 149 rfl (by kernel_rfl) (hd 149 (by kernel_rfl) : r (.tmp 149) = .bool false) ?_
      have h151 : TIn W (tNum 0) (r (.tmp 151)) := hd 151 (by kernel_rfl)
      obtain ⟨A151, e151, k151⟩ := h151
      have h152 : TIn W (tNum 5) (r (.tmp 152)) := hd 152 (by kernel_rfl)
      obtain ⟨A152, e152, k152⟩ := h152
      obtain ⟨w2, hw2, m2, s2, hc2, hc3⟩ := row2_new W (tNum 0) (tNum 5) A151 A152
      exact st_new (v := .slice (some ⟨W.heap.size, 0, none⟩) 2 2) (w' := w2) rfl (by decide) (run_row2 rfl e151 e152 hw2) m2 ⟨_, _, _, rfl, rfl, by simp, trow_cons hc2 (k151.below m2) (trow_cons hc3 (k152.below m2) trow_nil)⟩
    · intro r W hc hf hs hd hB
      have hBV := HBV.out W hB
      refine want_g 48 149 rfl (by kernel_rfl) (hd 149 (by kernel_rfl) : r (.tmp 149) = .bool false) ?_
      obtain ⟨ah153, nh153, ch153, h153, hnh153, hlh153, hrh153⟩ : TQ.ok (.row [tNum 0, tNum 5]) (r (.tmp 153)) W := hd 153 (by kernel_rfl)
      exact st_call (f := 40) (args := #[.slice ah153 nh153 ch153]) rfl (by decide) (by go_simp) (by rw [hnh153]; exact made_term (uTuple [tNum 0, tNum 5] ah153 ch153 W (by simp) hrh153))
    · intro r W hc hf hs hd hB
      have hBV := HBV.out W hB
      refine want_g 48 149 rfl (by kernel_rfl) (hd 149 (by kernel_rfl) : r (.tmp 149) = .bool false) ?_
      
      exact st_call (f := 42) (args := #[.int .i64 5]) rfl (by decide) (by go_simp) (made_term (uNum 5 W))
    · intro r W hc hf hs hd hB
      have hBV := HBV.out W hB
      refine want_g 48 149 rfl (by kernel_rfl) (hd 149 (by kernel_rfl) : r (.tmp 149) = .bool false) ?_
      have h154 : TIn W (tOf 5 [tNum 0, tNum 5]) (r (.tmp 154)) := hd 154 (by kernel_rfl)
      obtain ⟨A154, e154, k154⟩ := h154
      have h155 : TIn W (tNum 5) (r (.tmp 155)) := hd 155 (by kernel_rfl)
      obtain ⟨A155, e155, k155⟩ := h155
      obtain ⟨w2, hw2, m2, s2, hc2, hc3⟩ := row2_new W (tOf 5 [tNum 0, tNum 5]) (tNum 5) A154 A155
      exact st_new (v := .slice (some ⟨W.heap.size, 0, none⟩) 2 2) (w' := w2) rfl (by decide) (run_row2 rfl e154 e155 hw2) m2 ⟨_, _, _, rfl, rfl, by simp, trow_cons hc2 (k154.below m2) (trow_cons hc3 (k155.below m2) trow_nil)⟩
    · intro r W hc hf hs hd hB
      have hBV := HBV.out W hB
      refine want_g 48 149 rfl (by kernel_rfl) (hd 149 (by kernel_rfl) : r (.tmp 149) = .bool false) ?_
      obtain ⟨ah156, nh156, ch156, h156, hnh156, hlh156, hrh156⟩ : TQ.ok (.row [tOf 5 [tNum 0, tNum 5], tNum 5]) (r (.tmp 156)) W := hd 156 (by kernel_rfl)
      exact st_call (f := 40) (args := #[.slice ah156 nh156 ch156]) rfl (by decide) (by go_simp) (by rw [hnh156]; exact made_term (uTuple [tOf 5 [tNum 0, tNum 5], tNum 5] ah156 ch156 W (by simp) hrh156))
    · intro r W hc hf hs hd hB
      have hBV := HBV.out W hB
      refine want_g 48 149 rfl (by kernel_rfl) (hd 149 (by kernel_rfl) : r (.tmp 149) = .bool false) ?_
      
      exact st_call (f := 42) (args := #[.int .i64 5]) rfl (by decide) (by go_simp) (made_term (uNum 5 W))
    · intro r W hc hf hs hd hB
      have hBV := HBV.out W hB
      refine want_g 48 149 rfl (by kernel_rfl) (hd 149 (by kernel_rfl) : r (.tmp 149) = .bool false) ?_
      have h157 : TIn W (tOf 5 [tOf 5 [tNum 0, tNum 5], tNum 5]) (r (.tmp 157)) := hd 157 (by kernel_rfl)
      obtain ⟨A157, e157, k157⟩ := h157
      have h158 : TIn W (tNum 5) (r (.tmp 158)) := hd 158 (by kernel_rfl)
      obtain ⟨A158, e158, k158⟩ := h158
      obtain ⟨w2, hw2, m2, s2, hc2, hc3⟩ := row2_new W (tOf 5 [tOf 5 [tNum 0, tNum 5], tNum 5]) (tNum 5) A157 A158
      exact st_new (v := .slice (some ⟨W.heap.size, 0, none⟩) 2 2) (w' := w2) rfl (by decide) (run_row2 rfl e157 e158 hw2) m2 ⟨_, _, _, rfl, rfl, by simp, trow_cons hc2 (k157.below m2) (trow_cons hc3 (k158.below m2) trow_nil)⟩
    · intro r W hc hf hs hd hB
      have hBV := HBV.out W hB
      refine want_g 48 149 rfl (by kernel_rfl) (hd 149 (by kernel_rfl) : r (.tmp 149) = .bool false) ?_
      obtain ⟨ah159, nh159, ch159, h159, hnh159, hlh159, hrh159⟩ : TQ.ok (.row [tOf 5 [tOf 5 [tNum 0, tNum 5], tNum 5], tNum 5]) (r (.tmp 159)) W := hd 159 (by kernel_rfl)
      exact st_call (f := 40) (args := #[.slice ah159 nh159 ch159]) rfl (by decide) (by go_simp) (by rw [hnh159]; exact made_term (uTuple [tOf 5 [tOf 5 [tNum 0, tNum 5], tNum 5], tNum 5] ah159 ch159 W (by simp) hrh159))
    · intro r W hc hf hs hd hB
      have hBV := HBV.out W hB
      refine want_g 48 149 rfl (by kernel_rfl) (hd 149 (by kernel_rfl) : r (.tmp 149) = .bool false) ?_
      have h150 : TIn W (Xd) (r (.tmp 150)) := hd 150 (by kernel_rfl)
      have h160 : TIn W (tOf 5 [tOf 5 [tOf 5 [tNum 0, tNum 5], tNum 5], tNum 5]) (r (.tmp 160)) := hd 160 (by kernel_rfl)
      exact st_call (f := 31) (args := #[r (.tmp 150), r (.tmp 160)]) rfl (by decide) (by go_simp) (made_fix (by rw [HSXd0.out]) (rtsame_any 3000000 Xd (tOf 5 [tOf 5 [tOf 5 [tNum 0, tNum 5], tNum 5], tNum 5]) _ _ W HCXd.out.1 h150 h160))
    · intro r W hc hf hs hd hB
      have hBV := HBV.out W hB
      refine want_g 48 149 rfl (by kernel_rfl) (hd 149 (by kernel_rfl) : r (.tmp 149) = .bool false) ?_
      have e161 : r (.tmp 161) = .bool true := hd 161 (by kernel_rfl)
      exact st_value (v := .bool false) rfl (by decide) (by go_simp) rfl
    · intro r W hc hf hs hd hB
      have hBV := HBV.out W hB
      refine want_n rfl ?_
      have e149 : r (.tmp 149) = .bool false := hd 149 (by kernel_rfl)
      have e162 : r (.tmp 162) = .bool false := hd 162 (by kernel_rfl)
      exact st_value (v := .bool false) rfl (by decide) (by go_simp) rfl
  intro f w48 hfd hB'
  have z163 : f 163 = .bool false := hfd 163 (of_decide_eq_true (by kernel_rfl))
  have hbR := HBV.out w48 hB'
  rw [show dstsTo _ _ = [101, 102, 103, 104, 105, 106, 107, 108, 109, 110, 111, 112, 113, 114, 115, 116, 117, 118, 119, 120, 121, 122, 123, 124, 125, 126, 127, 128, 129, 130, 131, 132, 133, 134, 135, 136, 137, 138, 139, 140, 141, 142, 143, 144, 145, 146, 147, 148, 149, 150, 151, 152, 153, 154, 155, 156, 157, 158, 159, 160, 161, 162, 163] from by kernel_rfl]
  simp only [fill, List.setIfInBounds_toArray, List.set_cons_succ, List.set_cons_zero, z163]
  clear hfd hB' HBV z163
  replace Hb1 := Lib.hid (Hb1.out.below hbR)
  replace Hb18 := Lib.hid (Hb18.out.below hbR)
  replace hB := hB.trans (hbR.mono hB.size)
  clear hbR
  go_wp2_with fail
  have HBV := Lib.hid (fun W (h : Below w48.drew.heap.size w48.drew W) => (Below.refl _ w48).drew.trans h)
  try simp only [List.append_eq, List.cons_append, List.nil_append]
  refine wp_region_allW (kindT [(164, .fixed (.int .i64 11)), (165, .fixed (.bool true)), (166, .fixed (.bool true)), (167, .fixed (.int .i64 3)), (168, .fixed (.bool true)), (169, .fixed (.bool true)), (170, .fixed (.bool true)), (171, .fixed (.int .i64 3)), (172, .fixed (.bool true)), (173, .fixed (.bool true)), (174, .fixed (.bool true)), (175, .fixed (.int .i64 3)), (176, .fixed (.bool true)), (177, .fixed (.bool true)), (178, .fixed (.bool true)), (179, .fixed (.int .i64 0)), (180, .fixed (.bool true)), (181, .fixed (.bool true)), (182, .fixed (.bool true)), (183, .term (Xm)), (184, .term (tNum 4)), (185, .fixed (.bool true)), (186, .fixed (.bool true)), (187, .fixed (.bool true)), (188, .term (tSelf)), (189, .term (IN)), (190, .term (tSelf)), (191, .row [tSelf, IN, tSelf]), (192, .term (tOf 5 [tSelf, IN, tSelf])), (193, .fixed (.int .i64 3)), (194, .fixed (.bool true)), (195, .fixed (.bool true)), (196, .fixed (.bool true)), (197, .term (tNum 0)), (198, .term (tSelf)), (199, .term (tSized 1 (tNum 0) tSelf)), (200, .fixed (.int .i64 0)), (201, .fixed (.bool true)), (202, .fixed (.bool true)), (203, .fixed (.bool true)), (204, .term (tSelf)), (205, .term (tNum 9)), (206, .term (tSelf.put (tNum 9))), (207, .term (tNum 9)), (208, .fixed (.bool true)), (209, .fixed (.bool true)), (210, .fixed (.bool true)), (211, .term (IN)), (212, .term (tNum 9)), (213, .term (IN.put (tNum 9))), (214, .term (tNum 9)), (215, .term (tSelf)), (216, .row [tSelf]), (217, .term (tOf 5 [tSelf])), (218, .term (tSized 1 (tNum 9) (tOf 5 [tSelf]))), (219, .fixed (.bool true)), (220, .fixed (.bool true)), (0, .fixed (.bool true))]) 221 (by kernel_rfl) (by kernel_rfl) (by rfl) (kindT_mono _) ?_ ?_
  · as_aux_lemma =>
    show ∀ o ∈ [(0, _), (1, _), (2, _), (3, _), (4, _), (5, _), (6, _), (7, _), (8, _), (9, _), (10, _), (11, _), (12, _), (13, _), (14, _), (15, _), (16, _), (17, _), (18, _), (19, _), (20, _), (21, _), (22, _), (23, _), (24, _), (25, _), (26, _), (27, _), (28, _), (29, _), (30, _), (31, _), (32, _), (33, _), (34, _), (35, _), (36, _), (37, _), (38, _), (39, _), (40, _), (41, _), (42, _), (43, _), (44, _), (45, _), (46, _), (47, _), (48, _), (49, _), (50, _), (51, _), (52, _), (53, _), (54, _), (55, _), (56, _), (57, _)], _
    refine (tfm ?_ (tfm ?_ (tfm ?_ (tfm ?_ (tfm ?_ (tfm ?_ (tfm ?_ (tfm ?_ (tfm ?_ (tfm ?_ (tfm ?_ (tfm ?_ (tfm ?_ (tfm ?_ (tfm ?_ (tfm ?_ (tfm ?_ (tfm ?_ (tfm ?_ (tfm ?_ (tfm ?_ (tfm ?_ (tfm ?_ (tfm ?_ (tfm ?_ (tfm ?_ (tfm ?_ (tfm ?_ (tfm ?_ (tfm ?_ (tfm ?_ (tfm ?_ (tfm ?_ (tfm ?_ (tfm ?_ (tfm ?_ (tfm ?_ (tfm ?_ (tfm ?_ (tfm ?_ (tfm ?_ (tfm ?_ (tfm ?_ (tfm ?_ (tfm ?_ (tfm ?_ (tfm ?_ (tfm ?_ (tfm ?_ (tfm ?_ (tfm ?_ (tfm ?_ (tfm ?_ (tfm ?_ (tfm ?_ (tfm ?_ (tfm ?_ (tfm ?_ tfmnil))))))))))))))))))))))))))))))))))))))))))))))))))))))))))
    · intro r W hc hf hs hd hB
      have hBV := HBV.out W hB
      refine want_n rfl ?_
      have e : r (.tmp 11) = .int .i64 11 := hs 11 (by kernel_rfl)
      exact st_value (v := .int .i64 11) rfl (by decide) (by go_simp) rfl
    · intro r W hc hf hs hd hB
      have hBV := HBV.out W hB
      refine want_n rfl ?_
      have e164 : r (.tmp 164) = .int .i64 11 := hd 164 (by kernel_rfl)
      exact st_value (v := .bool true) rfl (by decide) (by go_simp) rfl
    · intro r W hc hf hs hd hB
      have hBV := HBV.out W hB
      refine want_n rfl ?_
      have e : r (.tmp 165) = .bool true := hd 165 (by kernel_rfl)
      exact st_value (v := .bool true) rfl (by decide) (by go_simp) rfl
    · intro r W hc hf hs hd hB
      have hBV := HBV.out W hB
      refine want_g 2 166 rfl (by kernel_rfl) (hd 166 (by kernel_rfl) : r (.tmp 166) = .bool true) ?_
      have e : r (.tmp 13) = .int .i64 3 := hs 13 (by kernel_rfl)
      exact st_value (v := .int .i64 3) rfl (by decide) (by go_simp) rfl
    · intro r W hc hf hs hd hB
      have hBV := HBV.out W hB
      refine want_g 2 166 rfl (by kernel_rfl) (hd 166 (by kernel_rfl) : r (.tmp 166) = .bool true) ?_
      have e167 : r (.tmp 167) = .int .i64 3 := hd 167 (by kernel_rfl)
      exact st_value (v := .bool true) rfl (by decide) (by go_simp) rfl
    · intro r W hc hf hs hd hB
      have hBV := HBV.out W hB
      refine want_n rfl ?_
      have e166 : r (.tmp 166) = .bool true := hd 166 (by kernel_rfl)
      have e168 : r (.tmp 168) = .bool true := hd 168 (by kernel_rfl)
      exact st_value (v := .bool true) rfl (by decide) (by go_simp) rfl
    · intro r W hc hf hs hd hB
      have hBV := HBV.out W hB
      refine want_n rfl ?_
      have e : r (.tmp 169) = .bool true := hd 169 (by kernel_rfl)
      exact st_value (v := .bool true) rfl (by decide) (by go_simp) rfl
    · intro r W hc hf hs hd hB
      have hBV := HBV.out W hB
      refine want_g 6 170 rfl (by kernel_rfl) (hd 170 (by kernel_rfl) : r (.tmp 170) = .bool true) ?_
      have e : r (.tmp 15) = .int .i64 3 := hs 15 (by kernel_rfl)
      exact st_value (v := .int .i64 3) rfl (by decide) (by go_simp) rfl
    · intro r W hc hf hs hd hB
      have hBV := HBV.out W hB
      refine want_g 6 170 rfl (by kernel_rfl) (hd 170 (by kernel_rfl) : r (.tmp 170) = .bool true) ?_
      have e171 : r (.tmp 171) = .int .i64 3 := hd 171 (by kernel_rfl)
      exact st_value (v := .bool true) rfl (by decide) (by go_simp) rfl
    · intro r W hc hf hs hd hB
      have hBV := HBV.out W hB
      refine want_n rfl ?_
      have e170 : r (.tmp 170) = .bool true := hd 170 (by kernel_rfl)
      have e172 : r (.tmp 172) = .bool true := hd 172 (by kernel_rfl)
      exact st_value (v := .bool true) rfl (by decide) (by go_simp) rfl
    · intro r W hc hf hs hd hB
      have hBV := HBV.out W hB
      refine want_n rfl ?_
      have e : r (.tmp 173) = .bool true := hd 173 (by kernel_rfl)
      exact st_value (v := .bool true) rfl (by decide) (by go_simp) rfl
    · intro r W hc hf hs hd hB
      have hBV := HBV.out W hB
      refine want_g 10 174 rfl (by kernel_rfl) (hd 174 (by kernel_rfl) : r (.tmp 174) = .bool true) ?_
      have e : r (.tmp 17) = .int .i64 3 := hs 17 (by kernel_rfl)
      exact st_value (v := .int .i64 3) rfl (by decide) (by go_simp) rfl
    · intro r W hc hf hs hd hB
      have hBV := HBV.out W hB
      refine want_g 10 174 rfl (by kernel_rfl) (hd 174 (by kernel_rfl) : r (.tmp 174) = .bool true) ?_
      have e175 : r (.tmp 175) = .int .i64 3 := hd 175 (by kernel_rfl)
      exact st_value (v := .bool true) rfl (by decide) (by go_simp) rfl
    · intro r W hc hf hs hd hB
      have hBV := HBV.out W hB
      refine want_n rfl ?_
      have e174 : r (.tmp 174) = .bool true := hd 174 (by kernel_rfl)
      have e176 : r (.tmp 176) = .bool true := hd 176 (by kernel_rfl)
      exact st_value (v := .bool true) rfl (by decide) (by go_simp) rfl
    · intro r W hc hf hs hd hB
      have hBV := HBV.out W hB
      refine want_n rfl ?_
      have e : r (.tmp 177) = .bool true := hd 177 (by kernel_rfl)
      exact st_value (v := .bool true) rfl (by decide) (by go_simp) rfl
    · intro r W hc hf hs hd hB
      have hBV := HBV.out W hB
      refine want_g 14 178 rfl (by kernel_rfl) (hd 178 (by kernel_rfl) : r (.tmp 178) = .bool true) ?_
      have e : r (.tmp 19) = .int .i64 0 := hs 19 (by kernel_rfl)
      exact st_value (v := .int .i64 0) rfl (by decide) (by go_simp) rfl
    · intro r W hc hf hs hd hB
      have hBV := HBV.out W hB
      refine want_g 14 178 rfl (by kernel_rfl) (hd 178 (by kernel_rfl) : r (.tmp 178) = .bool true) ?_
      have e179 : r (.tmp 179) = .int .i64 0 := hd 179 (by kernel_rfl)
      exact st_value (v := .bool true) rfl (by decide) (by go_simp) rfl
    · intro r W hc hf hs hd hB
      have hBV := HBV.out W hB
      refine want_n rfl ?_
      have e178 : r (.tmp 178) = .bool true := hd 178 (by kernel_rfl)
      have e180 : r (.tmp 180) = .bool true := hd 180 (by kernel_rfl)
      exact st_value (v := .bool true) rfl (by decide) (by go_simp) rfl
    · intro r W hc hf hs hd hB
      have hBV := HBV.out W hB
      refine want_n rfl ?_
      have e : r (.tmp 181) = .bool true := hd 181 (by kernel_rfl)
      exact st_value (v := .bool true) rfl (by decide) (by go_simp) rfl
    · intro r W hc hf hs hd hB
      have hBV := HBV.out W hB
      refine want_g 18 182 rfl (by kernel_rfl) (hd 182 (by kernel_rfl) : r (.tmp 182) = .bool true) ?_
      have e : r (.tmp 18) = .pointer (some ⟨b18, 0, none⟩) := hs 18 (by kernel_rfl)
      obtain ⟨A, hcl, hok⟩ := BoxT.below Hb18.out hBV
      exact st_value (v := TT.val (Xm) A) rfl (by decide) (run_load15 hcl rfl e) ⟨A, rfl, hok⟩
    · intro r W hc hf hs hd hB
      have hBV := HBV.out W hB
      refine want_g 18 182 rfl (by kernel_rfl) (hd 182 (by kernel_rfl) : r (.tmp 182) = .bool true) ?_
      
      exact st_call (f := 42) (args := #[.int .i64 4]) rfl (by decide) (by go_simp) (made_term (uNum 4 W))
    · intro r W hc hf hs hd hB
      have hBV := HBV.out W hB
      refine want_g 18 182 rfl (by kernel_rfl) (hd 182 (by kernel_rfl) : r (.tmp 182) = .bool true) ?_
      have h183 : TIn W (Xm) (r (.tmp 183)) := hd 183 (by kernel_rfl)
      have h184 : TIn W (tNum 4) (r (.tmp 184)) := hd 184 (by kernel_rfl)
      exact st_call (f := 31) (args := #[r (.tmp 183), r (.tmp 184)]) rfl (by decide) (by go_simp) (made_fix (by rw [HSXm0.out]) (rtsame_any 3000000 Xm (tNum 4) _ _ W HCXm.out.1 h183 h184))
    · intro r W hc hf hs hd hB
      have hBV := HBV.out W hB
      refine want_n rfl ?_
      have e182 : r (.tmp 182) = .bool true := hd 182 (by kernel_rfl)
      have e185 : r (.tmp 185) = .bool true := hd 185 (by kernel_rfl)
      exact st_value (v := .bool true) rfl (by decide) (by go_simp) rfl
    · intro r W hc hf hs hd hB
      have hBV := HBV.out W hB
      refine want_n rfl ?_
      have e : r (.tmp 186) = .bool true := hd 186 (by kernel_rfl)
      exact st_value (v := .bool true) rfl (by decide) (by go_simp) rfl
    · intro r W hc hf hs hd hB
      have hBV := HBV.out W hB
      refine want_g 23 187 rfl (by kernel_rfl) (hd 187 (by kernel_rfl) : r (.tmp 187) = .bool true) ?_
      
      exact st_call (f := 41) (args := #[]) rfl (by decide) (by go_simp) (made_term (uSelf W))
    · intro r W hc hf hs hd hB
      have hBV := HBV.out W hB
      refine want_g 23 187 rfl (by kernel_rfl) (hd 187 (by kernel_rfl) : r (.tmp 187) = .bool true) ?_
      have e : r (.tmp 1) = .pointer (some ⟨b1, 0, none⟩) := hs 1 (by kernel_rfl)
      obtain ⟨A, hcl, hok⟩ := BoxT.below Hb1.out hBV
      exact st_value (v := TT.val (IN) A) rfl (by decide) (run_load15 hcl rfl e) ⟨A, rfl, hok⟩
    · intro r W hc hf hs hd hB
      have hBV := HBV.out W hB
      refine want_g 23 187 rfl (by kernel_rfl) (hd 187 (by kernel_rfl) : r (.tmp 187) = .bool true) ?_
      
      exact st_call (f := 41) (args := #[]) rfl (by decide) (by go_simp) (made_term (uSelf W))
    · intro r W hc hf hs hd hB
      have hBV := HBV.out W hB
      refine want_g 23 187 rfl (by kernel_rfl) (hd 187 (by kernel_rfl) : r (.tmp 187) = .bool true) ?_
      have h188 : TIn W (tSelf) (r (.tmp 188)) := hd 188 (by kernel_rfl)
      obtain ⟨A188, e188, k188⟩ := h188
      have h189 : TIn W (IN) (r (.tmp 189)) := hd 189 (by kernel_rfl)
      obtain ⟨A189, e189, k189⟩ := h189
      have h190 : TIn W (tSelf) (r (.tmp 190)) := hd 190 (by kernel_rfl)
      obtain ⟨A190, e190, k190⟩ := h190
      obtain ⟨w2, hrun, hb, hlt, hc2⟩ := run_rowK (w := W) (r := r) (parts := #[(0, .tmp 188), (1, .tmp 189), (2, .tmp 190)]) [(tSelf, A188), (IN, A189), (tSelf, A190)] rfl (by simp) (by simp) (by simp only [List.map_toArray, List.map_cons, List.map_nil, e188, e189, e190]; rfl)
      exact st_new rfl (by decide) (hrun _ rfl) hb ⟨_, _, _, rfl, rfl, by simp, trow_of hc2 (by intro p hp; simp only [List.mem_cons, List.not_mem_nil, or_false] at hp; rcases hp with rfl | rfl | rfl; exact k188.below hb; exact k189.below hb; exact k190.below hb)⟩
    · intro r W hc hf hs hd hB
      have hBV := HBV.out W hB
      refine want_g 23 187 rfl (by kernel_rfl) (hd 187 (by kernel_rfl) : r (.tmp 187) = .bool true) ?_
      obtain ⟨ah191, nh191, ch191, h191, hnh191, hlh191, hrh191⟩ : TQ.ok (.row [tSelf, IN, tSelf]) (r (.tmp 191)) W := hd 191 (by kernel_rfl)
      exact st_call (f := 40) (args := #[.slice ah191 nh191 ch191]) rfl (by decide) (by go_simp) (by rw [hnh191]; exact made_term (uTuple [tSelf, IN, tSelf] ah191 ch191 W (by simp) hrh191))
    · intro r W hc hf hs hd hB
      have hBV := HBV.out W hB
      refine want_g 23 187 rfl (by kernel_rfl) (hd 187 (by kernel_rfl) : r (.tmp 187) = .bool true) ?_
      have h192 : TIn W (tOf 5 [tSelf, IN, tSelf]) (r (.tmp 192)) := hd 192 (by kernel_rfl)
      exact st_call (f := 38) (args := #[r (.tmp 192)]) rfl (by decide) (by go_simp) (made_fix (by rw [show (tOf 5 [tSelf, IN, tSelf]).selfs = 3 from by rw [HIN.out]; decide +kernel]; rfl) (uselfs_any 3000000 (by decide) _ _ W (by rw [HIN.out]; decide +kernel) h192))
    · intro r W hc hf hs hd hB
      have hBV := HBV.out W hB
      refine want_g 23 187 rfl (by kernel_rfl) (hd 187 (by kernel_rfl) : r (.tmp 187) = .bool true) ?_
      have e193 : r (.tmp 193) = .int .i64 3 := hd 193 (by kernel_rfl)
      exact st_value (v := .bool true) rfl (by decide) (by go_simp) rfl
    · intro r W hc hf hs hd hB
      have hBV := HBV.out W hB
      refine want_n rfl ?_
      have e187 : r (.tmp 187) = .bool true := hd 187 (by kernel_rfl)
      have e194 : r (.tmp 194) = .bool true := hd 194 (by kernel_rfl)
      exact st_value (v := .bool true) rfl (by decide) (by go_simp) rfl
    · intro r W hc hf hs hd hB
      have hBV := HBV.out W hB
      refine want_n rfl ?_
      have e : r (.tmp 195) = .bool true := hd 195 (by kernel_rfl)
      exact st_value (v := .bool true) rfl (by decide) (by go_simp) rfl
    · intro r W hc hf hs hd hB
      have hBV := HBV.out W hB
      refine want_g 32 196 rfl (by kernel_rfl) (hd 196 (by kernel_rfl) : r (.tmp 196) = .bool true) ?_
      
      exact st_call (f := 42) (args := #[.int .i64 0]) rfl (by decide) (by go_simp) (made_term (uNum 0 W))
    · intro r W hc hf hs hd hB
      have hBV := HBV.out W hB
      refine want_g 32 196 rfl (by kernel_rfl) (hd 196 (by kernel_rfl) : r (.tmp 196) = .bool true) ?_
      
      exact st_call (f := 41) (args := #[]) rfl (by decide) (by go_simp) (made_term (uSelf W))
    · intro r W hc hf hs hd hB
      have hBV := HBV.out W hB
      refine want_g 32 196 rfl (by kernel_rfl) (hd 196 (by kernel_rfl) : r (.tmp 196) = .bool true) ?_
      have h197 : TIn W (tNum 0) (r (.tmp 197)) := hd 197 (by kernel_rfl)
      have h198 : TIn W (tSelf) (r (.tmp 198)) := hd 198 (by kernel_rfl)
      exact st_call (f := 33) (args := #[.int .i64 1, r (.tmp 197), r (.tmp 198)]) rfl (by decide) (by go_simp) (made_term (usized_any 1 _ _ _ _ W h197 h198))
    · intro r W hc hf hs hd hB
      have hBV := HBV.out W hB
      refine want_g 32 196 rfl (by kernel_rfl) (hd 196 (by kernel_rfl) : r (.tmp 196) = .bool true) ?_
      have h199 : TIn W (tSized 1 (tNum 0) tSelf) (r (.tmp 199)) := hd 199 (by kernel_rfl)
      exact st_call (f := 38) (args := #[r (.tmp 199)]) rfl (by decide) (by go_simp) (made_fix (by rw [show (tSized 1 (tNum 0) tSelf).selfs = 0 from by decide +kernel]; rfl) (uselfs_any 3000000 (by decide) _ _ W (by decide +kernel) h199))
    · intro r W hc hf hs hd hB
      have hBV := HBV.out W hB
      refine want_g 32 196 rfl (by kernel_rfl) (hd 196 (by kernel_rfl) : r (.tmp 196) = .bool true) ?_
      have e200 : r (.tmp 200) = .int .i64 0 := hd 200 (by kernel_rfl)
      exact st_value (v := .bool true) rfl (by decide) (by go_simp) rfl
    · intro r W hc hf hs hd hB
      have hBV := HBV.out W hB
      refine want_n rfl ?_
      have e196 : r (.tmp 196) = .bool true := hd 196 (by kernel_rfl)
      have e201 : r (.tmp 201) = .bool true := hd 201 (by kernel_rfl)
      exact st_value (v := .bool true) rfl (by decide) (by go_simp) rfl
    · intro r W hc hf hs hd hB
      have hBV := HBV.out W hB
      refine want_n rfl ?_
      have e : r (.tmp 202) = .bool true := hd 202 (by kernel_rfl)
      exact st_value (v := .bool true) rfl (by decide) (by go_simp) rfl
    · intro r W hc hf hs hd hB
      have hBV := HBV.out W hB
      refine want_g 39 203 rfl (by kernel_rfl) (hd 203 (by kernel_rfl) : r (.tmp 203) = .bool true) ?_
      
      exact st_call (f := 41) (args := #[]) rfl (by decide) (by go_simp) (made_term (uSelf W))
    · intro r W hc hf hs hd hB
      have hBV := HBV.out W hB
      refine want_g 39 203 rfl (by kernel_rfl) (hd 203 (by kernel_rfl) : r (.tmp 203) = .bool true) ?_
      
      exact st_call (f := 42) (args := #[.int .i64 9]) rfl (by decide) (by go_simp) (made_term (uNum 9 W))
    · intro r W hc hf hs hd hB
      have hBV := HBV.out W hB
      refine want_g 39 203 rfl (by kernel_rfl) (hd 203 (by kernel_rfl) : r (.tmp 203) = .bool true) ?_
      have h204 : TIn W (tSelf) (r (.tmp 204)) := hd 204 (by kernel_rfl)
      have h205 : TIn W (tNum 9) (r (.tmp 205)) := hd 205 (by kernel_rfl)
      exact st_call (f := 43) (args := #[r (.tmp 204), r (.tmp 205)]) rfl (by decide) (by go_simp) (made_copy (uPut_any _ _ _ _ W h204 h205))
    · intro r W hc hf hs hd hB
      have hBV := HBV.out W hB
      refine want_g 39 203 rfl (by kernel_rfl) (hd 203 (by kernel_rfl) : r (.tmp 203) = .bool true) ?_
      
      exact st_call (f := 42) (args := #[.int .i64 9]) rfl (by decide) (by go_simp) (made_term (uNum 9 W))
    · intro r W hc hf hs hd hB
      have hBV := HBV.out W hB
      refine want_g 39 203 rfl (by kernel_rfl) (hd 203 (by kernel_rfl) : r (.tmp 203) = .bool true) ?_
      have h206 : TIn W (tSelf.put (tNum 9)) (r (.tmp 206)) := hd 206 (by kernel_rfl)
      have h207 : TIn W (tNum 9) (r (.tmp 207)) := hd 207 (by kernel_rfl)
      exact st_call (f := 31) (args := #[r (.tmp 206), r (.tmp 207)]) rfl (by decide) (by go_simp) (made_fix (by rw [show TT.same (tSelf.put (tNum 9)) (tNum 9) = true from by decide +kernel]) (rtsame_any 3000000 _ _ _ _ W (by decide +kernel) h206 h207))
    · intro r W hc hf hs hd hB
      have hBV := HBV.out W hB
      refine want_n rfl ?_
      have e203 : r (.tmp 203) = .bool true := hd 203 (by kernel_rfl)
      have e208 : r (.tmp 208) = .bool true := hd 208 (by kernel_rfl)
      exact st_value (v := .bool true) rfl (by decide) (by go_simp) rfl
    · intro r W hc hf hs hd hB
      have hBV := HBV.out W hB
      refine want_n rfl ?_
      have e : r (.tmp 209) = .bool true := hd 209 (by kernel_rfl)
      exact st_value (v := .bool true) rfl (by decide) (by go_simp) rfl
    · intro r W hc hf hs hd hB
      have hBV := HBV.out W hB
      refine want_g 46 210 rfl (by kernel_rfl) (hd 210 (by kernel_rfl) : r (.tmp 210) = .bool true) ?_
      have e : r (.tmp 1) = .pointer (some ⟨b1, 0, none⟩) := hs 1 (by kernel_rfl)
      obtain ⟨A, hcl, hok⟩ := BoxT.below Hb1.out hBV
      exact st_value (v := TT.val (IN) A) rfl (by decide) (run_load15 hcl rfl e) ⟨A, rfl, hok⟩
    · intro r W hc hf hs hd hB
      have hBV := HBV.out W hB
      refine want_g 46 210 rfl (by kernel_rfl) (hd 210 (by kernel_rfl) : r (.tmp 210) = .bool true) ?_
      
      exact st_call (f := 42) (args := #[.int .i64 9]) rfl (by decide) (by go_simp) (made_term (uNum 9 W))
    · intro r W hc hf hs hd hB
      have hBV := HBV.out W hB
      refine want_g 46 210 rfl (by kernel_rfl) (hd 210 (by kernel_rfl) : r (.tmp 210) = .bool true) ?_
      have h211 : TIn W (IN) (r (.tmp 211)) := hd 211 (by kernel_rfl)
      have h212 : TIn W (tNum 9) (r (.tmp 212)) := hd 212 (by kernel_rfl)
      exact st_call (f := 43) (args := #[r (.tmp 211), r (.tmp 212)]) rfl (by decide) (by go_simp) (made_copy (uPut_any _ _ _ _ W h211 h212))
    · intro r W hc hf hs hd hB
      have hBV := HBV.out W hB
      refine want_g 46 210 rfl (by kernel_rfl) (hd 210 (by kernel_rfl) : r (.tmp 210) = .bool true) ?_
      
      exact st_call (f := 42) (args := #[.int .i64 9]) rfl (by decide) (by go_simp) (made_term (uNum 9 W))
    · intro r W hc hf hs hd hB
      have hBV := HBV.out W hB
      refine want_g 46 210 rfl (by kernel_rfl) (hd 210 (by kernel_rfl) : r (.tmp 210) = .bool true) ?_
      
      exact st_call (f := 41) (args := #[]) rfl (by decide) (by go_simp) (made_term (uSelf W))
    · intro r W hc hf hs hd hB
      have hBV := HBV.out W hB
      refine want_g 46 210 rfl (by kernel_rfl) (hd 210 (by kernel_rfl) : r (.tmp 210) = .bool true) ?_
      have h215 : TIn W (tSelf) (r (.tmp 215)) := hd 215 (by kernel_rfl)
      obtain ⟨A215, e215, k215⟩ := h215
      obtain ⟨w2, hw2, m2, s2, hc2, _⟩ := row1_new W (tSelf) A215
      exact st_new (v := .slice (some ⟨W.heap.size, 0, none⟩) 1 1) (w' := w2) rfl (by decide) (run_row1 rfl e215 hw2) m2 ⟨_, _, _, rfl, rfl, by simp, trow_cons hc2 (k215.below m2) trow_nil⟩
    · intro r W hc hf hs hd hB
      have hBV := HBV.out W hB
      refine want_g 46 210 rfl (by kernel_rfl) (hd 210 (by kernel_rfl) : r (.tmp 210) = .bool true) ?_
      obtain ⟨ah216, nh216, ch216, h216, hnh216, hlh216, hrh216⟩ : TQ.ok (.row [tSelf]) (r (.tmp 216)) W := hd 216 (by kernel_rfl)
      exact st_call (f := 40) (args := #[.slice ah216 nh216 ch216]) rfl (by decide) (by go_simp) (by rw [hnh216]; exact made_term (uTuple [tSelf] ah216 ch216 W (by simp) hrh216))
    · intro r W hc hf hs hd hB
      have hBV := HBV.out W hB
      refine want_g 46 210 rfl (by kernel_rfl) (hd 210 (by kernel_rfl) : r (.tmp 210) = .bool true) ?_
      have h214 : TIn W (tNum 9) (r (.tmp 214)) := hd 214 (by kernel_rfl)
      have h217 : TIn W (tOf 5 [tSelf]) (r (.tmp 217)) := hd 217 (by kernel_rfl)
      exact st_call (f := 33) (args := #[.int .i64 1, r (.tmp 214), r (.tmp 217)]) rfl (by decide) (by go_simp) (made_term (usized_any 1 _ _ _ _ W h214 h217))
    · intro r W hc hf hs hd hB
      have hBV := HBV.out W hB
      refine want_g 46 210 rfl (by kernel_rfl) (hd 210 (by kernel_rfl) : r (.tmp 210) = .bool true) ?_
      have h213 : TIn W (IN.put (tNum 9)) (r (.tmp 213)) := hd 213 (by kernel_rfl)
      have h218 : TIn W (tSized 1 (tNum 9) (tOf 5 [tSelf])) (r (.tmp 218)) := hd 218 (by kernel_rfl)
      exact st_call (f := 31) (args := #[r (.tmp 213), r (.tmp 218)]) rfl (by decide) (by go_simp) (made_fix (by rw [show TT.same (IN.put (tNum 9)) (tSized 1 (tNum 9) (tOf 5 [tSelf])) = true from by rw [HIN.out]; decide +kernel]) (rtsame_any 3000000 _ _ _ _ W (by rw [HIN.out]; decide +kernel) h213 h218))
    · intro r W hc hf hs hd hB
      have hBV := HBV.out W hB
      refine want_n rfl ?_
      have e210 : r (.tmp 210) = .bool true := hd 210 (by kernel_rfl)
      have e219 : r (.tmp 219) = .bool true := hd 219 (by kernel_rfl)
      exact st_value (v := .bool true) rfl (by decide) (by go_simp) rfl
    · intro r W hc hf hs hd hB
      have hBV := HBV.out W hB
      refine want_n rfl ?_
      have e : r (.tmp 220) = .bool true := hd 220 (by kernel_rfl)
      exact st_value (v := .bool true) rfl (by decide) (by go_simp) rfl
  intro f w49 hfd hB'
  have z0 : f 0 = .bool true := hfd 0 (of_decide_eq_true (by kernel_rfl))
  have hbR := HBV.out w49 hB'
  rw [show dstsTo _ _ = [164, 165, 166, 167, 168, 169, 170, 171, 172, 173, 174, 175, 176, 177, 178, 179, 180, 181, 182, 183, 184, 185, 186, 187, 188, 189, 190, 191, 192, 193, 194, 195, 196, 197, 198, 199, 200, 201, 202, 203, 204, 205, 206, 207, 208, 209, 210, 211, 212, 213, 214, 215, 216, 217, 218, 219, 220, 0] from by kernel_rfl]
  simp only [fill, List.setIfInBounds_toArray, List.set_cons_succ, List.set_cons_zero, z0]
  clear hfd hB' HBV z0
  go_wp2_with fail
  go_ret
  exact ⟨rfl, hB.trans (hbR.mono hB.size)⟩
end Go.Proofs.Yteebbffecaeciaa
/- UnfoldNames: the law returns true for all that can be read, and what was handed in reads afterwards as it read before. -/
namespace Go.Proofs.Yteebbffecaeciaa
open Go.ChangeShapes Go.WideShapes Go.ChangeAt Go.RowKit

set_option maxRecDepth 100000 in
theorem unfoldNames_lifted (os : Os) (started : os.Started) (H : Type) (enc : TypeId × Value → H) :
    ReturnsInHanded {} Try.checked os 8 .any (Rows.unfoldNamesSpec.pre6 enc Try.prog Try.f8 Rows.unfoldNamesRow.domain false) (Rows.unfoldNamesSpec.post enc Try.prog Try.f8 false true false false) := by
  refine returnsInHanded_of_change_sized (C := Try.checked) Try.own started (by kernel_rfl) Try.func8
    (ChangeSpec.witness6 (enc := enc) (C := Try.checked) false ⟨#[], #[], []⟩ 8 (by kernel_rfl) (by kernel_rfl) (by kernel_rfl) (by kernel_rfl)) ?_
  intro W base args ds gs before hval0 hW hcnd hsz hass
  have hval : ∀ (j : Nat) t v, Try.f8.params[j]? = some t → args[j]? = some v → Value.okWide Try.prog W .any base t v := hval0
  have hW' := hW
  obtain ⟨p, q, hA0, hV, rfl, hfz, hnd⟩ := hW
  have hA : DataW.TrodAll enc Try.prog W 0 (fun _ => true) true Try.f8.params.toList args.toList ds p := hA0
  rw [Try.params8] at hA hval
  obtain ⟨rfl, rfl, rfl⟩ := trodAll_none hA
  obtain ⟨rfl, rfl⟩ := trodVars_none hV
  refine (unfoldNames_any  W ).mono fun e W' ⟨he, hbw⟩ => ?_
  subst he
  exact ⟨_, rfl, law_post rfl rfl (by rw [Try.params8]; intro t ht; simp at ht; skip) hW' ⟨rfl, rfl, rfl⟩ hbw⟩

theorem unfoldNames_holds : Rows.UnfoldNamesSaid :=
  OpenClaim.holds_of_wide 8 Try.f8 rfl rfl rfl rfl rfl rfl rfl ⟨rfl, rfl, rfl, rfl, rfl⟩ rfl rfl rfl rfl rfl (by kernel_rfl) Try.func8 (by kernel_rfl)
    (of_decide_eq_true (by kernel_rfl)) (by unfold Func.isWrapper; first | (rw [if_pos (by decide +kernel)]; kernel_rfl) | (rw [if_neg (by decide +kernel)]; exact ⟨rfl, rfl⟩))
    (fun os started H enc _ => unfoldNames_lifted os started H enc)
end Go.Proofs.Yteebbffecaeciaa
