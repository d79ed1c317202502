/- Texts of this claim laid into one: TRefC. -/
import Derived.Test.YteebbffecaeciaaM31
import Derived.Test.YteebbffecaeciaaM28
import Derived.Test.YteebbffecaeciaaM32
import Derived.Test.YteebbffecaeciaaM34
/- The document's check. -/
namespace Go.Proofs.Yteebbffecaeciaa
open Go.RowKit

set_option maxRecDepth 100000 in
set_option maxHeartbeats 16000000 in
theorem rtchk_any (m : Int) (N : Nat) (hN : N ≤ 3000000) : ∀ (t : TT) (x : Value) (p d : Int) (inn : Bool) (w : World), t.cnt ≤ N → t.lean = true → 0 ≤ p → p ≤ 1000000000 - t.cnt → 0 ≤ d → d ≤ 1000000000 - t.cnt → TIn w t x →
    Calls Try.prog 123 #[x, .int .i64 p, .int .i64 d, .int .i64 m, .bool inn] w fun e w' => e = .returned (.tuple #[.int .i64 (t.chk m p d inn).1, .int .i64 (t.chk m p d inn).2]) ∧ Below w.heap.size w w' := by
  induction N with
  | zero => intro t x p d inn w h; have := TT.cnt_pos t; omega
  | succ N ih =>
    intro t x pl d inn w hcn hln hp0 hp1 hd0 hd1 hx
    have IH := Lib.hid (ih (by omega)); clear ih
    obtain ⟨A, rfl, hok⟩ := hx
    obtain ⟨k, v, vs, lo, hi0, ws, p, l⟩ := t
    have hrow : TRow w l A.aa := hok.parts.2.2.2.2.2
    have hll : l.length ≤ 651562446070 := hok.parts.1.1
    rw [TT.cnt] at hcn hp1 hd1
    obtain ⟨w0, hw0, m0, s0, hc0, _⟩ := row1_new w (.mk k v vs lo hi0 ws p l) A
    have HOK : Hid (TIn w0 (.mk k v vs lo hi0 ws p l) (TT.val (.mk k v vs lo hi0 ws p l) A)) := Lib.hid ⟨A, rfl, hok.below m0⟩
    have HC0 := Lib.hid hc0; have HROW := Lib.hid (hrow.below m0); have HLN := Lib.hid hln
    have HLS : Hid (TT.leans l = true) := Lib.hid (TT.lean_parts hln).2
    obtain ⟨z, hz⟩ : ∃ z, z = TT.node (.mk k v vs lo hi0 ws p l) := ⟨_, rfl⟩
    have HZ := Lib.hid hz.symm; clear hz
    clear hok hrow hln hc0
    have hBe := m0
    by_cases hmd : m < d
    · have hd : decide (m < d) = true := decide_eq_true hmd
      have HC : Hid ((TT.mk k v vs lo hi0 ws p l).chk m pl d inn = (pl, 9)) := Lib.hid (by rw [TT.chk, if_pos hmd])
      clear hmd
      unfold TT.val
      simp only [TT.kind_mk, TT.v_mk, TT.vs_mk, TT.lo_mk, TT.hi_mk, TT.ws_mk, TT.p_mk, TT.args_mk] at hw0 ⊢
      go_enter Try.func123, Try.ntmps123
      go_wp2_with fail
      refine bodyPost_ret (v := .tuple #[.int .i64 pl, .int .i64 9]) (by simp [results, Try.results123, go_sem]) rfl ⟨by rw [HC.out], hBe⟩
    · have hd : decide (m < d) = false := decide_eq_false hmd
      have HD := Lib.hid hmd; clear hmd
      unfold TT.val
      simp only [TT.kind_mk, TT.v_mk, TT.vs_mk, TT.lo_mk, TT.hi_mk, TT.ws_mk, TT.p_mk, TT.args_mk] at hw0 ⊢
      go_enter Try.func123, Try.ntmps123
      go_wp2_with (refine wpList_load15 (by rfl) (by rfl) (by rfl) HC0.out ?_)
      refine (rtnode_any _ _ _ HLN.out HOK.out).mono ?_
      rintro e w1 ⟨rfl, hb1⟩
      rw [HZ.out]
      replace hBe := hBe.trans (hb1.mono hBe.size)
      replace HC0 := Lib.hid (HC0.out.below hb1); replace HROW := Lib.hid (HROW.out.below hb1)
      obtain ⟨q0, _, _, _, _, _, _, _, _, _, _, _, _, _, q14⟩ := HC0.out
      simp only [TT.kind_mk, TT.args_mk] at q0 q14
      clear hb1 hd
      by_cases hz0 : z = 0
      · subst hz0
        by_cases h11 : k = 11 ∧ inn = false
        · have HC : Hid ((TT.mk k v vs lo hi0 ws p l).chk m pl d inn = (pl, 10)) := Lib.hid (by rw [TT.chk, if_neg (by have := HD.out; omega), if_neg (by rw [HZ.out]; simp), if_pos h11])
          have hkb : (k == 11) = true := by simp [h11.1]
          have hib : inn = false := h11.2
          clear h11
          subst hib
          go_wp2_with fail
          refine bodyPost_ret (v := .tuple #[.int .i64 pl, .int .i64 10]) (by simp [results, Try.results123, go_sem]) rfl ⟨by rw [HC.out], hBe⟩
        · have HC : Hid ((TT.mk k v vs lo hi0 ws p l).chk m pl d inn = TT.chks m k 0 l (pl + 1) d inn) := Lib.hid (by rw [TT.chk, if_neg (by have := HD.out; omega), if_neg (by rw [HZ.out]; simp), if_neg h11])
          have hkb : ((k == 11) && !inn) = false := by cases inn <;> simp_all
          clear h11
          have hwp : IntKind.i64.wrap (pl + 1) = pl + 1 := by rw [IntKind.wrap_i64] <;> omega
          have HWD : Hid (IntKind.i64.wrap (d + 1) = d + 1) := Lib.hid (by rw [IntKind.wrap_i64] <;> omega)
          cases inn
          · have hkb2 : (k == 11) = false := by simpa using hkb
            clear hkb
            go_wp2_with fail
            clear hkb2 hwp
            go_loopw [1, 12, 13] (fun x y z wr => ∃ (q : Int) (i : Nat), x = .int .i64 q ∧ y = .int .i64 0 ∧ z = .int .i64 i ∧ i ≤ l.length ∧ 0 ≤ q ∧ q ≤ 1000000000 - TT.cnts (l.drop i) ∧ ChkRel m k l (pl + 1) d false q i ∧ Below w1.heap.size w1 wr) (fun _ _ z _ => l.length - (intOf z).toNat)
            case atStart => exact ⟨pl + 1, 0, by go_num, rfl, rfl, by omega, by omega, by simp; omega, rfl, Below.refl _ _⟩
            case round =>
              obtain ⟨q, i, rfl, rfl, rfl, hi, hq0, hq1, hc, hB⟩ := hrel
              have HQ := Lib.hid hc; clear hc
              have H0 := Lib.hid (cell_stays hB q0)
              by_cases hlt : i < l.length
              · as_aux_lemma =>
                obtain ⟨b, o, ea, X, hcX, hkX⟩ := HROW.out.get i hlt
                have c14 := cell_stays hB q14
                rw [ea] at c14
                have H14 := Lib.hid c14
                have HCX := Lib.hid (hcX.below hB); have HKX := Lib.hid (hkX.below hB)
                have HG : Hid (decide ((i : Int) < l.length) = true ∧ decide (i < l.length) = true) := Lib.hid ⟨decide_eq_true (by omega), decide_eq_true hlt⟩
                have hxs := TT.cnts_get hlt
                have hcd := TT.cnts_drop hlt
                have HXF := Lib.hid (TT.leans_get HLS.out hlt)
                have HXC : Hid (l[i].cnt ≤ N) := Lib.hid (by omega)
                have HQB : Hid (0 ≤ q ∧ q ≤ 1000000000 - l[i].cnt ∧ 0 ≤ d + 1 ∧ d + 1 ≤ 1000000000 - l[i].cnt) := Lib.hid (by omega)
                obtain ⟨bb, ⟨rr, y⟩, hbb, hcc, hle, hnext, hfound⟩ := HQ.out.both hlt
                have HCC := Lib.hid hcc; have HNEXT := Lib.hid hnext; have HFOUND := Lib.hid hfound
                simp only at hle
                have hr1' : rr ≤ 1000000000 - TT.cnts (l.drop (i + 1)) := by omega
                have hr0' : 0 ≤ rr := by omega
                clear hcc hnext hfound hcX hkX ea hxs hcd hle q0 q14
                have g1 := HG.out.1
                have g2 := HG.out.2
                rcases step_cases k i with ⟨h10, hi1, hi1'⟩ | ⟨h10, hi1, hi1'⟩ | ⟨h10, hi1, hi1'⟩
                · have HK10 := Lib.hid h10
                  simp only [h10, Bool.false_and, Bool.or_false] at hbb
                  subst hbb
                  clear h10 hi1 hi1'
                  go_wp2_with fail
                  clear c14
                  have HBV := Lib.hid (fun W (h : Below wr.drew.heap.size wr.drew W) => (Below.refl _ wr).drew.trans h)
                  try simp only [List.append_eq, List.cons_append, List.nil_append]
                  refine wp_region_allW (kindT [(45, .fixed (.pointer (some ⟨w.heap.size, 14, none⟩))), (46, .fixed (.slice (some ⟨b, o, none⟩) l.length A.ac)), (47, .fixed (.int .i64 i)), (48, .fixed (.pointer (some ⟨b, o + i * 15, none⟩))), (49, .fixed (TT.val l[i] X)), (50, .fixed (.int .i64 q)), (51, .fixed (.int .i64 d)), (52, .fixed (.int .i64 (d + 1))), (53, .fixed (.int .i64 m)), (54, .fixed (.bool false)), (55, .fixed (.bool false)), (56, .fixed (.pointer (some ⟨w.heap.size, 0, none⟩))), (57, .fixed (.int .u8 k)), (58, .fixed (.bool false)), (59, .fixed (.bool false)), (60, .fixed (undef)), (61, .fixed (undef)), (62, .fixed (.bool false)), (63, .fixed (.bool false)), (64, .fixed (.tuple #[.int .i64 rr, .int .i64 y])), (44, .fixed (.tuple #[.int .i64 rr, .int .i64 y])), (65, .fixed (.int .i64 rr)), (66, .fixed (.int .i64 y)), (1, .fixed (.int .i64 rr)), (12, .fixed (.int .i64 y))]) 72 (by kernel_rfl) (by kernel_rfl) (by rfl) (kindT_mono _) ?_ ?_
                  · as_aux_lemma =>
                    show ∀ o ∈ [(0, _), (1, _), (2, _), (3, _), (4, _), (5, _), (6, _), (7, _), (8, _), (9, _), (10, _), (11, _), (12, _), (13, _), (14, _), (15, _), (16, _), (17, _), (18, _), (19, _), (20, _), (21, _), (22, _), (23, _), (24, _)], _
                    refine (tfm ?_ (tfm ?_ (tfm ?_ (tfm ?_ (tfm ?_ (tfm ?_ (tfm ?_ (tfm ?_ (tfm ?_ (tfm ?_ (tfm ?_ (tfm ?_ (tfm ?_ (tfm ?_ (tfm ?_ (tfm ?_ (tfm ?_ (tfm ?_ (tfm ?_ (tfm ?_ (tfm ?_ (tfm ?_ (tfm ?_ (tfm ?_ (tfm ?_ tfmnil)))))))))))))))))))))))))
                    · intro r W hc hf hs hd hB
                      have hBV := HBV.out W hB
                      refine want_n rfl ?_
                      have e5 : r (.tmp 5) = .pointer (some ⟨w.heap.size, 0, none⟩) := hs 5 (by kernel_rfl)
                      exact st_value (v := .pointer (some ⟨w.heap.size, 14, none⟩)) rfl (by decide) (by go_simp) rfl
                    · intro r W hc hf hs hd hB
                      have hBV := HBV.out W hB
                      refine want_n rfl ?_
                      have e45 : r (.tmp 45) = .pointer (some ⟨w.heap.size, 14, none⟩) := hd 45 (by kernel_rfl)
                      have c14 := cell_stays hBV H14.out
                      exact st_value (v := .slice (some ⟨b, o, none⟩) l.length A.ac) rfl (by decide) (by go_simp) rfl
                    · intro r W hc hf hs hd hB
                      have hBV := HBV.out W hB
                      refine want_n rfl ?_
                      have e13 : r (.tmp 13) = .int .i64 i := hs 13 (by kernel_rfl)
                      exact st_value (v := .int .i64 i) rfl (by decide) (by go_simp) rfl
                    · intro r W hc hf hs hd hB
                      have hBV := HBV.out W hB
                      refine want_n rfl ?_
                      have e46 : r (.tmp 46) = .slice (some ⟨b, o, none⟩) l.length A.ac := hd 46 (by kernel_rfl)
                      have e47 : r (.tmp 47) = .int .i64 i := hd 47 (by kernel_rfl)
                      have g1 := HG.out.1
                      have g2 := HG.out.2
                      exact st_value (v := .pointer (some ⟨b, o + i * 15, none⟩)) rfl (by decide) (by go_simp) rfl
                    · intro r W hc hf hs hd hB
                      have hBV := HBV.out W hB
                      refine want_n rfl ?_
                      have e48 : r (.tmp 48) = .pointer (some ⟨b, o + i * 15, none⟩) := hd 48 (by kernel_rfl)
                      exact st_value (v := TT.val l[i] X) rfl (by decide) (run_load15 (HCX.out.below hBV) rfl e48) rfl
                    · intro r W hc hf hs hd hB
                      have hBV := HBV.out W hB
                      refine want_n rfl ?_
                      have e1 : r (.tmp 1) = .int .i64 q := hs 1 (by kernel_rfl)
                      exact st_value (v := .int .i64 q) rfl (by decide) (by go_simp) rfl
                    · intro r W hc hf hs hd hB
                      have hBV := HBV.out W hB
                      refine want_n rfl ?_
                      have e2 : r (.tmp 2) = .int .i64 d := hs 2 (by kernel_rfl)
                      exact st_value (v := .int .i64 d) rfl (by decide) (by go_simp) rfl
                    · intro r W hc hf hs hd hB
                      have hBV := HBV.out W hB
                      refine want_n rfl ?_
                      have e51 : r (.tmp 51) = .int .i64 d := hd 51 (by kernel_rfl)
                      have hw := HWD.out
                      exact st_value (v := .int .i64 (d + 1)) rfl (by decide) (by go_simp) rfl
                    · intro r W hc hf hs hd hB
                      have hBV := HBV.out W hB
                      refine want_n rfl ?_
                      have e3 : r (.tmp 3) = .int .i64 m := hs 3 (by kernel_rfl)
                      exact st_value (v := .int .i64 m) rfl (by decide) (by go_simp) rfl
                    · intro r W hc hf hs hd hB
                      have hBV := HBV.out W hB
                      refine want_n rfl ?_
                      have e4 : r (.tmp 4) = .bool false := hs 4 (by kernel_rfl)
                      exact st_value (v := .bool false) rfl (by decide) (by go_simp) rfl
                    · intro r W hc hf hs hd hB
                      have hBV := HBV.out W hB
                      refine want_n rfl ?_
                      have e54 : r (.tmp 54) = .bool false := hd 54 (by kernel_rfl)
                      exact st_value (v := .bool false) rfl (by decide) (by go_simp) rfl
                    · intro r W hc hf hs hd hB
                      have hBV := HBV.out W hB
                      refine want_g 10 55 rfl (by kernel_rfl) (hd 55 (by kernel_rfl) : r (.tmp 55) = .bool false) ?_
                      have e5 : r (.tmp 5) = .pointer (some ⟨w.heap.size, 0, none⟩) := hs 5 (by kernel_rfl)
                      exact st_value (v := .pointer (some ⟨w.heap.size, 0, none⟩)) rfl (by decide) (by go_simp) rfl
                    · intro r W hc hf hs hd hB
                      have hBV := HBV.out W hB
                      refine want_g 10 55 rfl (by kernel_rfl) (hd 55 (by kernel_rfl) : r (.tmp 55) = .bool false) ?_
                      have e56 : r (.tmp 56) = .pointer (some ⟨w.heap.size, 0, none⟩) := hd 56 (by kernel_rfl)
                      have c0 := cell_stays hBV H0.out
                      exact st_value (v := .int .u8 k) rfl (by decide) (by go_simp) rfl
                    · intro r W hc hf hs hd hB
                      have hBV := HBV.out W hB
                      refine want_g 10 55 rfl (by kernel_rfl) (hd 55 (by kernel_rfl) : r (.tmp 55) = .bool false) ?_
                      have e57 : r (.tmp 57) = .int .u8 k := hd 57 (by kernel_rfl)
                      have hk10 := HK10.out
                      exact st_value (v := .bool false) rfl (by decide) (by go_simp) rfl
                    · intro r W hc hf hs hd hB
                      have hBV := HBV.out W hB
                      refine want_g 10 55 rfl (by kernel_rfl) (hd 55 (by kernel_rfl) : r (.tmp 55) = .bool false) ?_
                      have e58 : r (.tmp 58) = .bool false := hd 58 (by kernel_rfl)
                      exact st_value (v := .bool false) rfl (by decide) (by go_simp) rfl
                    · intro r W hc hf hs hd hB
                      have hBV := HBV.out W hB
                      exact want_not 14 59 rfl (by kernel_rfl) (hd 59 (by kernel_rfl)) (fun d e => by cases e; exact ⟨rfl, by simp⟩)
                    · intro r W hc hf hs hd hB
                      have hBV := HBV.out W hB
                      exact want_not 14 59 rfl (by kernel_rfl) (hd 59 (by kernel_rfl)) (fun d e => by cases e; exact ⟨rfl, by simp⟩)
                    · intro r W hc hf hs hd hB
                      have hBV := HBV.out W hB
                      refine want_g 10 55 rfl (by kernel_rfl) (hd 55 (by kernel_rfl) : r (.tmp 55) = .bool false) ?_
                      have e59 : r (.tmp 59) = .bool false := hd 59 (by kernel_rfl)
                      have e61 : r (.tmp 61) = undef := hd 61 (by kernel_rfl)
                      exact st_value (v := .bool false) rfl (by decide) (by go_simp) rfl
                    · intro r W hc hf hs hd hB
                      have hBV := HBV.out W hB
                      refine want_n rfl ?_
                      have e55 : r (.tmp 55) = .bool false := hd 55 (by kernel_rfl)
                      have e62 : r (.tmp 62) = .bool false := hd 62 (by kernel_rfl)
                      exact st_value (v := .bool false) rfl (by decide) (by go_simp) rfl
                    · intro r W hc hf hs hd hB
                      have hBV := HBV.out W hB
                      refine want_n rfl ?_
                      have e49 : r (.tmp 49) = TT.val l[i] X := hd 49 (by kernel_rfl)
                      have e50 : r (.tmp 50) = .int .i64 q := hd 50 (by kernel_rfl)
                      have e52 : r (.tmp 52) = .int .i64 (d + 1) := hd 52 (by kernel_rfl)
                      have e53 : r (.tmp 53) = .int .i64 m := hd 53 (by kernel_rfl)
                      have e63 : r (.tmp 63) = .bool false := hd 63 (by kernel_rfl)
                      exact st_call (f := 123) (args := #[TT.val l[i] X, .int .i64 q, .int .i64 (d + 1), .int .i64 m, .bool false]) rfl (by decide) (by go_simp) (made_fix (by rw [HCC.out]) (IH.out l[i] _ q (d + 1) false W HXC.out HXF.out HQB.out.1 HQB.out.2.1 HQB.out.2.2.1 HQB.out.2.2.2 ⟨_, rfl, HKX.out.below hBV⟩))
                    · intro r W hc hf hs hd hB
                      have hBV := HBV.out W hB
                      refine want_n rfl ?_
                      have e64 : r (.tmp 64) = .tuple #[.int .i64 rr, .int .i64 y] := hd 64 (by kernel_rfl)
                      exact st_value (v := .tuple #[.int .i64 rr, .int .i64 y]) rfl (by decide) (by go_simp) rfl
                    · intro r W hc hf hs hd hB
                      have hBV := HBV.out W hB
                      refine want_n rfl ?_
                      have e44 : r (.tmp 44) = .tuple #[.int .i64 rr, .int .i64 y] := hd 44 (by kernel_rfl)
                      exact st_value (v := .int .i64 rr) rfl (by decide) (by go_simp) rfl
                    · intro r W hc hf hs hd hB
                      have hBV := HBV.out W hB
                      refine want_n rfl ?_
                      have e44 : r (.tmp 44) = .tuple #[.int .i64 rr, .int .i64 y] := hd 44 (by kernel_rfl)
                      exact st_value (v := .int .i64 y) rfl (by decide) (by go_simp) rfl
                    · intro r W hc hf hs hd hB
                      have hBV := HBV.out W hB
                      refine want_n rfl ?_
                      have e65 : r (.tmp 65) = .int .i64 rr := hd 65 (by kernel_rfl)
                      exact st_value (v := .int .i64 rr) rfl (by decide) (by go_simp) rfl
                    · intro r W hc hf hs hd hB
                      have hBV := HBV.out W hB
                      refine want_n rfl ?_
                      have e66 : r (.tmp 66) = .int .i64 y := hd 66 (by kernel_rfl)
                      exact st_value (v := .int .i64 y) rfl (by decide) (by go_simp) rfl
                  intro f w2 hfd hB'
                  have z1 : f 1 = .int .i64 rr := hfd 1 (of_decide_eq_true (by kernel_rfl))
                  have z12 : f 12 = .int .i64 y := hfd 12 (of_decide_eq_true (by kernel_rfl))
                  have hb2 := HBV.out w2 hB'
                  rw [show dstsTo _ _ = [45, 46, 47, 48, 49, 50, 51, 52, 53, 54, 55, 56, 57, 58, 59, 60, 61, 62, 63, 64, 44, 65, 66, 1, 12] from by kernel_rfl]
                  simp only [fill, List.setIfInBounds_toArray, List.set_cons_succ, List.set_cons_zero, z1, z12]
                  clear hfd hB' z1 z12
                  have hB2 := hB.trans (hb2.mono hB.size)
                  clear hb2
                  by_cases hy0 : y = 0
                  · have HN := Lib.hid (HNEXT.out hy0)
                    subst hy0
                    go_wp2_with fail
                    go_roundw
                    case rel => exact ⟨rr, i + 1, rfl, rfl, by go_num, by omega, hr0', hr1', HN.out, hB2⟩
                    case measure => simp [intOf]; omega
                  · have HN := Lib.hid (HFOUND.out hy0)
                    have hyb : (y != 0) = true := by simpa using hy0
                    clear hy0
                    go_wp2_with fail
                    refine bodyPost_ret (v := .tuple #[.int .i64 rr, .int .i64 y]) (by simp [results, Try.results123, go_sem]) rfl ⟨by rw [HC.out, HN.out], hBe.trans (hB2.mono hBe.size)⟩
                · have HK10 := Lib.hid h10; have HI1 := Lib.hid hi1
                  simp only [h10, hi1', Bool.true_and, Bool.or_false] at hbb
                  subst hbb
                  clear h10 hi1 hi1'
                  go_wp2_with fail
                  clear c14
                  have HBV := Lib.hid (fun W (h : Below wr.drew.heap.size wr.drew W) => (Below.refl _ wr).drew.trans h)
                  try simp only [List.append_eq, List.cons_append, List.nil_append]
                  refine wp_region_allW (kindT [(45, .fixed (.pointer (some ⟨w.heap.size, 14, none⟩))), (46, .fixed (.slice (some ⟨b, o, none⟩) l.length A.ac)), (47, .fixed (.int .i64 i)), (48, .fixed (.pointer (some ⟨b, o + i * 15, none⟩))), (49, .fixed (TT.val l[i] X)), (50, .fixed (.int .i64 q)), (51, .fixed (.int .i64 d)), (52, .fixed (.int .i64 (d + 1))), (53, .fixed (.int .i64 m)), (54, .fixed (.bool false)), (55, .fixed (.bool false)), (56, .fixed (.pointer (some ⟨w.heap.size, 0, none⟩))), (57, .fixed (.int .u8 k)), (58, .fixed (.bool true)), (59, .fixed (.bool true)), (60, .fixed (.int .i64 i)), (61, .fixed (.bool false)), (62, .fixed (.bool false)), (63, .fixed (.bool false)), (64, .fixed (.tuple #[.int .i64 rr, .int .i64 y])), (44, .fixed (.tuple #[.int .i64 rr, .int .i64 y])), (65, .fixed (.int .i64 rr)), (66, .fixed (.int .i64 y)), (1, .fixed (.int .i64 rr)), (12, .fixed (.int .i64 y))]) 72 (by kernel_rfl) (by kernel_rfl) (by rfl) (kindT_mono _) ?_ ?_
                  · as_aux_lemma =>
                    show ∀ o ∈ [(0, _), (1, _), (2, _), (3, _), (4, _), (5, _), (6, _), (7, _), (8, _), (9, _), (10, _), (11, _), (12, _), (13, _), (14, _), (15, _), (16, _), (17, _), (18, _), (19, _), (20, _), (21, _), (22, _), (23, _), (24, _)], _
                    refine (tfm ?_ (tfm ?_ (tfm ?_ (tfm ?_ (tfm ?_ (tfm ?_ (tfm ?_ (tfm ?_ (tfm ?_ (tfm ?_ (tfm ?_ (tfm ?_ (tfm ?_ (tfm ?_ (tfm ?_ (tfm ?_ (tfm ?_ (tfm ?_ (tfm ?_ (tfm ?_ (tfm ?_ (tfm ?_ (tfm ?_ (tfm ?_ (tfm ?_ tfmnil)))))))))))))))))))))))))
                    · intro r W hc hf hs hd hB
                      have hBV := HBV.out W hB
                      refine want_n rfl ?_
                      have e5 : r (.tmp 5) = .pointer (some ⟨w.heap.size, 0, none⟩) := hs 5 (by kernel_rfl)
                      exact st_value (v := .pointer (some ⟨w.heap.size, 14, none⟩)) rfl (by decide) (by go_simp) rfl
                    · intro r W hc hf hs hd hB
                      have hBV := HBV.out W hB
                      refine want_n rfl ?_
                      have e45 : r (.tmp 45) = .pointer (some ⟨w.heap.size, 14, none⟩) := hd 45 (by kernel_rfl)
                      have c14 := cell_stays hBV H14.out
                      exact st_value (v := .slice (some ⟨b, o, none⟩) l.length A.ac) rfl (by decide) (by go_simp) rfl
                    · intro r W hc hf hs hd hB
                      have hBV := HBV.out W hB
                      refine want_n rfl ?_
                      have e13 : r (.tmp 13) = .int .i64 i := hs 13 (by kernel_rfl)
                      exact st_value (v := .int .i64 i) rfl (by decide) (by go_simp) rfl
                    · intro r W hc hf hs hd hB
                      have hBV := HBV.out W hB
                      refine want_n rfl ?_
                      have e46 : r (.tmp 46) = .slice (some ⟨b, o, none⟩) l.length A.ac := hd 46 (by kernel_rfl)
                      have e47 : r (.tmp 47) = .int .i64 i := hd 47 (by kernel_rfl)
                      have g1 := HG.out.1
                      have g2 := HG.out.2
                      exact st_value (v := .pointer (some ⟨b, o + i * 15, none⟩)) rfl (by decide) (by go_simp) rfl
                    · intro r W hc hf hs hd hB
                      have hBV := HBV.out W hB
                      refine want_n rfl ?_
                      have e48 : r (.tmp 48) = .pointer (some ⟨b, o + i * 15, none⟩) := hd 48 (by kernel_rfl)
                      exact st_value (v := TT.val l[i] X) rfl (by decide) (run_load15 (HCX.out.below hBV) rfl e48) rfl
                    · intro r W hc hf hs hd hB
                      have hBV := HBV.out W hB
                      refine want_n rfl ?_
                      have e1 : r (.tmp 1) = .int .i64 q := hs 1 (by kernel_rfl)
                      exact st_value (v := .int .i64 q) rfl (by decide) (by go_simp) rfl
                    · intro r W hc hf hs hd hB
                      have hBV := HBV.out W hB
                      refine want_n rfl ?_
                      have e2 : r (.tmp 2) = .int .i64 d := hs 2 (by kernel_rfl)
                      exact st_value (v := .int .i64 d) rfl (by decide) (by go_simp) rfl
                    · intro r W hc hf hs hd hB
                      have hBV := HBV.out W hB
                      refine want_n rfl ?_
                      have e51 : r (.tmp 51) = .int .i64 d := hd 51 (by kernel_rfl)
                      have hw := HWD.out
                      exact st_value (v := .int .i64 (d + 1)) rfl (by decide) (by go_simp) rfl
                    · intro r W hc hf hs hd hB
                      have hBV := HBV.out W hB
                      refine want_n rfl ?_
                      have e3 : r (.tmp 3) = .int .i64 m := hs 3 (by kernel_rfl)
                      exact st_value (v := .int .i64 m) rfl (by decide) (by go_simp) rfl
                    · intro r W hc hf hs hd hB
                      have hBV := HBV.out W hB
                      refine want_n rfl ?_
                      have e4 : r (.tmp 4) = .bool false := hs 4 (by kernel_rfl)
                      exact st_value (v := .bool false) rfl (by decide) (by go_simp) rfl
                    · intro r W hc hf hs hd hB
                      have hBV := HBV.out W hB
                      refine want_n rfl ?_
                      have e54 : r (.tmp 54) = .bool false := hd 54 (by kernel_rfl)
                      exact st_value (v := .bool false) rfl (by decide) (by go_simp) rfl
                    · intro r W hc hf hs hd hB
                      have hBV := HBV.out W hB
                      refine want_g 10 55 rfl (by kernel_rfl) (hd 55 (by kernel_rfl) : r (.tmp 55) = .bool false) ?_
                      have e5 : r (.tmp 5) = .pointer (some ⟨w.heap.size, 0, none⟩) := hs 5 (by kernel_rfl)
                      exact st_value (v := .pointer (some ⟨w.heap.size, 0, none⟩)) rfl (by decide) (by go_simp) rfl
                    · intro r W hc hf hs hd hB
                      have hBV := HBV.out W hB
                      refine want_g 10 55 rfl (by kernel_rfl) (hd 55 (by kernel_rfl) : r (.tmp 55) = .bool false) ?_
                      have e56 : r (.tmp 56) = .pointer (some ⟨w.heap.size, 0, none⟩) := hd 56 (by kernel_rfl)
                      have c0 := cell_stays hBV H0.out
                      exact st_value (v := .int .u8 k) rfl (by decide) (by go_simp) rfl
                    · intro r W hc hf hs hd hB
                      have hBV := HBV.out W hB
                      refine want_g 10 55 rfl (by kernel_rfl) (hd 55 (by kernel_rfl) : r (.tmp 55) = .bool false) ?_
                      have e57 : r (.tmp 57) = .int .u8 k := hd 57 (by kernel_rfl)
                      have hk10 := HK10.out
                      exact st_value (v := .bool true) rfl (by decide) (by go_simp) rfl
                    · intro r W hc hf hs hd hB
                      have hBV := HBV.out W hB
                      refine want_g 10 55 rfl (by kernel_rfl) (hd 55 (by kernel_rfl) : r (.tmp 55) = .bool false) ?_
                      have e58 : r (.tmp 58) = .bool true := hd 58 (by kernel_rfl)
                      exact st_value (v := .bool true) rfl (by decide) (by go_simp) rfl
                    · intro r W hc hf hs hd hB
                      have hBV := HBV.out W hB
                      refine want_g 14 59 rfl (by kernel_rfl) (hd 59 (by kernel_rfl) : r (.tmp 59) = .bool true) ?_
                      have e13 : r (.tmp 13) = .int .i64 i := hs 13 (by kernel_rfl)
                      exact st_value (v := .int .i64 i) rfl (by decide) (by go_simp) rfl
                    · intro r W hc hf hs hd hB
                      have hBV := HBV.out W hB
                      refine want_g 14 59 rfl (by kernel_rfl) (hd 59 (by kernel_rfl) : r (.tmp 59) = .bool true) ?_
                      have e60 : r (.tmp 60) = .int .i64 i := hd 60 (by kernel_rfl)
                      have hi1 := HI1.out
                      exact st_value (v := .bool false) rfl (by decide) (by go_simp) rfl
                    · intro r W hc hf hs hd hB
                      have hBV := HBV.out W hB
                      refine want_g 10 55 rfl (by kernel_rfl) (hd 55 (by kernel_rfl) : r (.tmp 55) = .bool false) ?_
                      have e59 : r (.tmp 59) = .bool true := hd 59 (by kernel_rfl)
                      have e61 : r (.tmp 61) = .bool false := hd 61 (by kernel_rfl)
                      exact st_value (v := .bool false) rfl (by decide) (by go_simp) rfl
                    · intro r W hc hf hs hd hB
                      have hBV := HBV.out W hB
                      refine want_n rfl ?_
                      have e55 : r (.tmp 55) = .bool false := hd 55 (by kernel_rfl)
                      have e62 : r (.tmp 62) = .bool false := hd 62 (by kernel_rfl)
                      exact st_value (v := .bool false) rfl (by decide) (by go_simp) rfl
                    · intro r W hc hf hs hd hB
                      have hBV := HBV.out W hB
                      refine want_n rfl ?_
                      have e49 : r (.tmp 49) = TT.val l[i] X := hd 49 (by kernel_rfl)
                      have e50 : r (.tmp 50) = .int .i64 q := hd 50 (by kernel_rfl)
                      have e52 : r (.tmp 52) = .int .i64 (d + 1) := hd 52 (by kernel_rfl)
                      have e53 : r (.tmp 53) = .int .i64 m := hd 53 (by kernel_rfl)
                      have e63 : r (.tmp 63) = .bool false := hd 63 (by kernel_rfl)
                      exact st_call (f := 123) (args := #[TT.val l[i] X, .int .i64 q, .int .i64 (d + 1), .int .i64 m, .bool false]) rfl (by decide) (by go_simp) (made_fix (by rw [HCC.out]) (IH.out l[i] _ q (d + 1) false W HXC.out HXF.out HQB.out.1 HQB.out.2.1 HQB.out.2.2.1 HQB.out.2.2.2 ⟨_, rfl, HKX.out.below hBV⟩))
                    · intro r W hc hf hs hd hB
                      have hBV := HBV.out W hB
                      refine want_n rfl ?_
                      have e64 : r (.tmp 64) = .tuple #[.int .i64 rr, .int .i64 y] := hd 64 (by kernel_rfl)
                      exact st_value (v := .tuple #[.int .i64 rr, .int .i64 y]) rfl (by decide) (by go_simp) rfl
                    · intro r W hc hf hs hd hB
                      have hBV := HBV.out W hB
                      refine want_n rfl ?_
                      have e44 : r (.tmp 44) = .tuple #[.int .i64 rr, .int .i64 y] := hd 44 (by kernel_rfl)
                      exact st_value (v := .int .i64 rr) rfl (by decide) (by go_simp) rfl
                    · intro r W hc hf hs hd hB
                      have hBV := HBV.out W hB
                      refine want_n rfl ?_
                      have e44 : r (.tmp 44) = .tuple #[.int .i64 rr, .int .i64 y] := hd 44 (by kernel_rfl)
                      exact st_value (v := .int .i64 y) rfl (by decide) (by go_simp) rfl
                    · intro r W hc hf hs hd hB
                      have hBV := HBV.out W hB
                      refine want_n rfl ?_
                      have e65 : r (.tmp 65) = .int .i64 rr := hd 65 (by kernel_rfl)
                      exact st_value (v := .int .i64 rr) rfl (by decide) (by go_simp) rfl
                    · intro r W hc hf hs hd hB
                      have hBV := HBV.out W hB
                      refine want_n rfl ?_
                      have e66 : r (.tmp 66) = .int .i64 y := hd 66 (by kernel_rfl)
                      exact st_value (v := .int .i64 y) rfl (by decide) (by go_simp) rfl
                  intro f w2 hfd hB'
                  have z1 : f 1 = .int .i64 rr := hfd 1 (of_decide_eq_true (by kernel_rfl))
                  have z12 : f 12 = .int .i64 y := hfd 12 (of_decide_eq_true (by kernel_rfl))
                  have hb2 := HBV.out w2 hB'
                  rw [show dstsTo _ _ = [45, 46, 47, 48, 49, 50, 51, 52, 53, 54, 55, 56, 57, 58, 59, 60, 61, 62, 63, 64, 44, 65, 66, 1, 12] from by kernel_rfl]
                  simp only [fill, List.setIfInBounds_toArray, List.set_cons_succ, List.set_cons_zero, z1, z12]
                  clear hfd hB' z1 z12
                  have hB2 := hB.trans (hb2.mono hB.size)
                  clear hb2
                  by_cases hy0 : y = 0
                  · have HN := Lib.hid (HNEXT.out hy0)
                    subst hy0
                    go_wp2_with fail
                    go_roundw
                    case rel => exact ⟨rr, i + 1, rfl, rfl, by go_num, by omega, hr0', hr1', HN.out, hB2⟩
                    case measure => simp [intOf]; omega
                  · have HN := Lib.hid (HFOUND.out hy0)
                    have hyb : (y != 0) = true := by simpa using hy0
                    clear hy0
                    go_wp2_with fail
                    refine bodyPost_ret (v := .tuple #[.int .i64 rr, .int .i64 y]) (by simp [results, Try.results123, go_sem]) rfl ⟨by rw [HC.out, HN.out], hBe.trans (hB2.mono hBe.size)⟩
                · have HK10 := Lib.hid h10; have HI1 := Lib.hid hi1
                  simp only [h10, hi1', Bool.true_and, Bool.or_true] at hbb
                  subst hbb
                  clear h10 hi1 hi1'
                  go_wp2_with fail
                  clear c14
                  have HBV := Lib.hid (fun W (h : Below wr.drew.heap.size wr.drew W) => (Below.refl _ wr).drew.trans h)
                  try simp only [List.append_eq, List.cons_append, List.nil_append]
                  refine wp_region_allW (kindT [(45, .fixed (.pointer (some ⟨w.heap.size, 14, none⟩))), (46, .fixed (.slice (some ⟨b, o, none⟩) l.length A.ac)), (47, .fixed (.int .i64 i)), (48, .fixed (.pointer (some ⟨b, o + i * 15, none⟩))), (49, .fixed (TT.val l[i] X)), (50, .fixed (.int .i64 q)), (51, .fixed (.int .i64 d)), (52, .fixed (.int .i64 (d + 1))), (53, .fixed (.int .i64 m)), (54, .fixed (.bool false)), (55, .fixed (.bool false)), (56, .fixed (.pointer (some ⟨w.heap.size, 0, none⟩))), (57, .fixed (.int .u8 k)), (58, .fixed (.bool true)), (59, .fixed (.bool true)), (60, .fixed (.int .i64 i)), (61, .fixed (.bool true)), (62, .fixed (.bool true)), (63, .fixed (.bool true)), (64, .fixed (.tuple #[.int .i64 rr, .int .i64 y])), (44, .fixed (.tuple #[.int .i64 rr, .int .i64 y])), (65, .fixed (.int .i64 rr)), (66, .fixed (.int .i64 y)), (1, .fixed (.int .i64 rr)), (12, .fixed (.int .i64 y))]) 72 (by kernel_rfl) (by kernel_rfl) (by rfl) (kindT_mono _) ?_ ?_
                  · as_aux_lemma =>
                    show ∀ o ∈ [(0, _), (1, _), (2, _), (3, _), (4, _), (5, _), (6, _), (7, _), (8, _), (9, _), (10, _), (11, _), (12, _), (13, _), (14, _), (15, _), (16, _), (17, _), (18, _), (19, _), (20, _), (21, _), (22, _), (23, _), (24, _)], _
                    refine (tfm ?_ (tfm ?_ (tfm ?_ (tfm ?_ (tfm ?_ (tfm ?_ (tfm ?_ (tfm ?_ (tfm ?_ (tfm ?_ (tfm ?_ (tfm ?_ (tfm ?_ (tfm ?_ (tfm ?_ (tfm ?_ (tfm ?_ (tfm ?_ (tfm ?_ (tfm ?_ (tfm ?_ (tfm ?_ (tfm ?_ (tfm ?_ (tfm ?_ tfmnil)))))))))))))))))))))))))
                    · intro r W hc hf hs hd hB
                      have hBV := HBV.out W hB
                      refine want_n rfl ?_
                      have e5 : r (.tmp 5) = .pointer (some ⟨w.heap.size, 0, none⟩) := hs 5 (by kernel_rfl)
                      exact st_value (v := .pointer (some ⟨w.heap.size, 14, none⟩)) rfl (by decide) (by go_simp) rfl
                    · intro r W hc hf hs hd hB
                      have hBV := HBV.out W hB
                      refine want_n rfl ?_
                      have e45 : r (.tmp 45) = .pointer (some ⟨w.heap.size, 14, none⟩) := hd 45 (by kernel_rfl)
                      have c14 := cell_stays hBV H14.out
                      exact st_value (v := .slice (some ⟨b, o, none⟩) l.length A.ac) rfl (by decide) (by go_simp) rfl
                    · intro r W hc hf hs hd hB
                      have hBV := HBV.out W hB
                      refine want_n rfl ?_
                      have e13 : r (.tmp 13) = .int .i64 i := hs 13 (by kernel_rfl)
                      exact st_value (v := .int .i64 i) rfl (by decide) (by go_simp) rfl
                    · intro r W hc hf hs hd hB
                      have hBV := HBV.out W hB
                      refine want_n rfl ?_
                      have e46 : r (.tmp 46) = .slice (some ⟨b, o, none⟩) l.length A.ac := hd 46 (by kernel_rfl)
                      have e47 : r (.tmp 47) = .int .i64 i := hd 47 (by kernel_rfl)
                      have g1 := HG.out.1
                      have g2 := HG.out.2
                      exact st_value (v := .pointer (some ⟨b, o + i * 15, none⟩)) rfl (by decide) (by go_simp) rfl
                    · intro r W hc hf hs hd hB
                      have hBV := HBV.out W hB
                      refine want_n rfl ?_
                      have e48 : r (.tmp 48) = .pointer (some ⟨b, o + i * 15, none⟩) := hd 48 (by kernel_rfl)
                      exact st_value (v := TT.val l[i] X) rfl (by decide) (run_load15 (HCX.out.below hBV) rfl e48) rfl
                    · intro r W hc hf hs hd hB
                      have hBV := HBV.out W hB
                      refine want_n rfl ?_
                      have e1 : r (.tmp 1) = .int .i64 q := hs 1 (by kernel_rfl)
                      exact st_value (v := .int .i64 q) rfl (by decide) (by go_simp) rfl
                    · intro r W hc hf hs hd hB
                      have hBV := HBV.out W hB
                      refine want_n rfl ?_
                      have e2 : r (.tmp 2) = .int .i64 d := hs 2 (by kernel_rfl)
                      exact st_value (v := .int .i64 d) rfl (by decide) (by go_simp) rfl
                    · intro r W hc hf hs hd hB
                      have hBV := HBV.out W hB
                      refine want_n rfl ?_
                      have e51 : r (.tmp 51) = .int .i64 d := hd 51 (by kernel_rfl)
                      have hw := HWD.out
                      exact st_value (v := .int .i64 (d + 1)) rfl (by decide) (by go_simp) rfl
                    · intro r W hc hf hs hd hB
                      have hBV := HBV.out W hB
                      refine want_n rfl ?_
                      have e3 : r (.tmp 3) = .int .i64 m := hs 3 (by kernel_rfl)
                      exact st_value (v := .int .i64 m) rfl (by decide) (by go_simp) rfl
                    · intro r W hc hf hs hd hB
                      have hBV := HBV.out W hB
                      refine want_n rfl ?_
                      have e4 : r (.tmp 4) = .bool false := hs 4 (by kernel_rfl)
                      exact st_value (v := .bool false) rfl (by decide) (by go_simp) rfl
                    · intro r W hc hf hs hd hB
                      have hBV := HBV.out W hB
                      refine want_n rfl ?_
                      have e54 : r (.tmp 54) = .bool false := hd 54 (by kernel_rfl)
                      exact st_value (v := .bool false) rfl (by decide) (by go_simp) rfl
                    · intro r W hc hf hs hd hB
                      have hBV := HBV.out W hB
                      refine want_g 10 55 rfl (by kernel_rfl) (hd 55 (by kernel_rfl) : r (.tmp 55) = .bool false) ?_
                      have e5 : r (.tmp 5) = .pointer (some ⟨w.heap.size, 0, none⟩) := hs 5 (by kernel_rfl)
                      exact st_value (v := .pointer (some ⟨w.heap.size, 0, none⟩)) rfl (by decide) (by go_simp) rfl
                    · intro r W hc hf hs hd hB
                      have hBV := HBV.out W hB
                      refine want_g 10 55 rfl (by kernel_rfl) (hd 55 (by kernel_rfl) : r (.tmp 55) = .bool false) ?_
                      have e56 : r (.tmp 56) = .pointer (some ⟨w.heap.size, 0, none⟩) := hd 56 (by kernel_rfl)
                      have c0 := cell_stays hBV H0.out
                      exact st_value (v := .int .u8 k) rfl (by decide) (by go_simp) rfl
                    · intro r W hc hf hs hd hB
                      have hBV := HBV.out W hB
                      refine want_g 10 55 rfl (by kernel_rfl) (hd 55 (by kernel_rfl) : r (.tmp 55) = .bool false) ?_
                      have e57 : r (.tmp 57) = .int .u8 k := hd 57 (by kernel_rfl)
                      have hk10 := HK10.out
                      exact st_value (v := .bool true) rfl (by decide) (by go_simp) rfl
                    · intro r W hc hf hs hd hB
                      have hBV := HBV.out W hB
                      refine want_g 10 55 rfl (by kernel_rfl) (hd 55 (by kernel_rfl) : r (.tmp 55) = .bool false) ?_
                      have e58 : r (.tmp 58) = .bool true := hd 58 (by kernel_rfl)
                      exact st_value (v := .bool true) rfl (by decide) (by go_simp) rfl
                    · intro r W hc hf hs hd hB
                      have hBV := HBV.out W hB
                      refine want_g 14 59 rfl (by kernel_rfl) (hd 59 (by kernel_rfl) : r (.tmp 59) = .bool true) ?_
                      have e13 : r (.tmp 13) = .int .i64 i := hs 13 (by kernel_rfl)
                      exact st_value (v := .int .i64 i) rfl (by decide) (by go_simp) rfl
                    · intro r W hc hf hs hd hB
                      have hBV := HBV.out W hB
                      refine want_g 14 59 rfl (by kernel_rfl) (hd 59 (by kernel_rfl) : r (.tmp 59) = .bool true) ?_
                      have e60 : r (.tmp 60) = .int .i64 i := hd 60 (by kernel_rfl)
                      have hi1 := HI1.out
                      exact st_value (v := .bool true) rfl (by decide) (by go_simp) rfl
                    · intro r W hc hf hs hd hB
                      have hBV := HBV.out W hB
                      refine want_g 10 55 rfl (by kernel_rfl) (hd 55 (by kernel_rfl) : r (.tmp 55) = .bool false) ?_
                      have e59 : r (.tmp 59) = .bool true := hd 59 (by kernel_rfl)
                      have e61 : r (.tmp 61) = .bool true := hd 61 (by kernel_rfl)
                      exact st_value (v := .bool true) rfl (by decide) (by go_simp) rfl
                    · intro r W hc hf hs hd hB
                      have hBV := HBV.out W hB
                      refine want_n rfl ?_
                      have e55 : r (.tmp 55) = .bool false := hd 55 (by kernel_rfl)
                      have e62 : r (.tmp 62) = .bool true := hd 62 (by kernel_rfl)
                      exact st_value (v := .bool true) rfl (by decide) (by go_simp) rfl
                    · intro r W hc hf hs hd hB
                      have hBV := HBV.out W hB
                      refine want_n rfl ?_
                      have e49 : r (.tmp 49) = TT.val l[i] X := hd 49 (by kernel_rfl)
                      have e50 : r (.tmp 50) = .int .i64 q := hd 50 (by kernel_rfl)
                      have e52 : r (.tmp 52) = .int .i64 (d + 1) := hd 52 (by kernel_rfl)
                      have e53 : r (.tmp 53) = .int .i64 m := hd 53 (by kernel_rfl)
                      have e63 : r (.tmp 63) = .bool true := hd 63 (by kernel_rfl)
                      exact st_call (f := 123) (args := #[TT.val l[i] X, .int .i64 q, .int .i64 (d + 1), .int .i64 m, .bool true]) rfl (by decide) (by go_simp) (made_fix (by rw [HCC.out]) (IH.out l[i] _ q (d + 1) true W HXC.out HXF.out HQB.out.1 HQB.out.2.1 HQB.out.2.2.1 HQB.out.2.2.2 ⟨_, rfl, HKX.out.below hBV⟩))
                    · intro r W hc hf hs hd hB
                      have hBV := HBV.out W hB
                      refine want_n rfl ?_
                      have e64 : r (.tmp 64) = .tuple #[.int .i64 rr, .int .i64 y] := hd 64 (by kernel_rfl)
                      exact st_value (v := .tuple #[.int .i64 rr, .int .i64 y]) rfl (by decide) (by go_simp) rfl
                    · intro r W hc hf hs hd hB
                      have hBV := HBV.out W hB
                      refine want_n rfl ?_
                      have e44 : r (.tmp 44) = .tuple #[.int .i64 rr, .int .i64 y] := hd 44 (by kernel_rfl)
                      exact st_value (v := .int .i64 rr) rfl (by decide) (by go_simp) rfl
                    · intro r W hc hf hs hd hB
                      have hBV := HBV.out W hB
                      refine want_n rfl ?_
                      have e44 : r (.tmp 44) = .tuple #[.int .i64 rr, .int .i64 y] := hd 44 (by kernel_rfl)
                      exact st_value (v := .int .i64 y) rfl (by decide) (by go_simp) rfl
                    · intro r W hc hf hs hd hB
                      have hBV := HBV.out W hB
                      refine want_n rfl ?_
                      have e65 : r (.tmp 65) = .int .i64 rr := hd 65 (by kernel_rfl)
                      exact st_value (v := .int .i64 rr) rfl (by decide) (by go_simp) rfl
                    · intro r W hc hf hs hd hB
                      have hBV := HBV.out W hB
                      refine want_n rfl ?_
                      have e66 : r (.tmp 66) = .int .i64 y := hd 66 (by kernel_rfl)
                      exact st_value (v := .int .i64 y) rfl (by decide) (by go_simp) rfl
                  intro f w2 hfd hB'
                  have z1 : f 1 = .int .i64 rr := hfd 1 (of_decide_eq_true (by kernel_rfl))
                  have z12 : f 12 = .int .i64 y := hfd 12 (of_decide_eq_true (by kernel_rfl))
                  have hb2 := HBV.out w2 hB'
                  rw [show dstsTo _ _ = [45, 46, 47, 48, 49, 50, 51, 52, 53, 54, 55, 56, 57, 58, 59, 60, 61, 62, 63, 64, 44, 65, 66, 1, 12] from by kernel_rfl]
                  simp only [fill, List.setIfInBounds_toArray, List.set_cons_succ, List.set_cons_zero, z1, z12]
                  clear hfd hB' z1 z12
                  have hB2 := hB.trans (hb2.mono hB.size)
                  clear hb2
                  by_cases hy0 : y = 0
                  · have HN := Lib.hid (HNEXT.out hy0)
                    subst hy0
                    go_wp2_with fail
                    go_roundw
                    case rel => exact ⟨rr, i + 1, rfl, rfl, by go_num, by omega, hr0', hr1', HN.out, hB2⟩
                    case measure => simp [intOf]; omega
                  · have HN := Lib.hid (HFOUND.out hy0)
                    have hyb : (y != 0) = true := by simpa using hy0
                    clear hy0
                    go_wp2_with fail
                    refine bodyPost_ret (v := .tuple #[.int .i64 rr, .int .i64 y]) (by simp [results, Try.results123, go_sem]) rfl ⟨by rw [HC.out, HN.out], hBe.trans (hB2.mono hBe.size)⟩
              · as_aux_lemma =>
                have g1 : decide ((i : Int) < l.length) = false := decide_eq_false (by omega)
                have g2 : decide (i < l.length) = false := decide_eq_false hlt
                have c14 := cell_stays hB q14
                have HN := Lib.hid (HQ.out.done hlt)
                go_wp2_with fail
                refine bodyPost_ret (v := .tuple #[.int .i64 q, .int .i64 0]) (by simp [results, Try.results123, go_sem]) rfl ⟨by rw [HC.out, HN.out], hBe.trans (hB.mono hBe.size)⟩
          · clear hkb
            cases hk11 : (k == 11)
            all_goals
              go_wp2_with fail
              clear hk11 hwp
              go_loopw [1, 12, 13] (fun x y z wr => ∃ (q : Int) (i : Nat), x = .int .i64 q ∧ y = .int .i64 0 ∧ z = .int .i64 i ∧ i ≤ l.length ∧ 0 ≤ q ∧ q ≤ 1000000000 - TT.cnts (l.drop i) ∧ ChkRel m k l (pl + 1) d true q i ∧ Below w1.heap.size w1 wr) (fun _ _ z _ => l.length - (intOf z).toNat)
              case atStart => exact ⟨pl + 1, 0, by go_num, rfl, rfl, by omega, by omega, by simp; omega, rfl, Below.refl _ _⟩
              case round =>
                obtain ⟨q, i, rfl, rfl, rfl, hi, hq0, hq1, hc, hB⟩ := hrel
                have HQ := Lib.hid hc; clear hc
                have H0 := Lib.hid (cell_stays hB q0)
                by_cases hlt : i < l.length
                · as_aux_lemma =>
                  obtain ⟨b, o, ea, X, hcX, hkX⟩ := HROW.out.get i hlt
                  have c14 := cell_stays hB q14
                  rw [ea] at c14
                  have H14 := Lib.hid c14
                  have HCX := Lib.hid (hcX.below hB); have HKX := Lib.hid (hkX.below hB)
                  have HG : Hid (decide ((i : Int) < l.length) = true ∧ decide (i < l.length) = true) := Lib.hid ⟨decide_eq_true (by omega), decide_eq_true hlt⟩
                  have hxs := TT.cnts_get hlt
                  have hcd := TT.cnts_drop hlt
                  have HXF := Lib.hid (TT.leans_get HLS.out hlt)
                  have HXC : Hid (l[i].cnt ≤ N) := Lib.hid (by omega)
                  have HQB : Hid (0 ≤ q ∧ q ≤ 1000000000 - l[i].cnt ∧ 0 ≤ d + 1 ∧ d + 1 ≤ 1000000000 - l[i].cnt) := Lib.hid (by omega)
                  obtain ⟨bb, ⟨rr, y⟩, hbb, hcc, hle, hnext, hfound⟩ := HQ.out.both hlt
                  have HCC := Lib.hid hcc; have HNEXT := Lib.hid hnext; have HFOUND := Lib.hid hfound
                  simp only at hle
                  have hr1' : rr ≤ 1000000000 - TT.cnts (l.drop (i + 1)) := by omega
                  have hr0' : 0 ≤ rr := by omega
                  clear hcc hnext hfound hcX hkX ea hxs hcd hle q0 q14
                  have g1 := HG.out.1
                  have g2 := HG.out.2
                  have hbb2 : bb = true := by rw [← hbb]; rfl
                  subst hbb2
                  clear hbb
                  go_wp2_with fail
                  clear c14
                  have HBV := Lib.hid (fun W (h : Below wr.drew.heap.size wr.drew W) => (Below.refl _ wr).drew.trans h)
                  try simp only [List.append_eq, List.cons_append, List.nil_append]
                  refine wp_region_allW (kindT [(45, .fixed (.pointer (some ⟨w.heap.size, 14, none⟩))), (46, .fixed (.slice (some ⟨b, o, none⟩) l.length A.ac)), (47, .fixed (.int .i64 i)), (48, .fixed (.pointer (some ⟨b, o + i * 15, none⟩))), (49, .fixed (TT.val l[i] X)), (50, .fixed (.int .i64 q)), (51, .fixed (.int .i64 d)), (52, .fixed (.int .i64 (d + 1))), (53, .fixed (.int .i64 m)), (54, .fixed (.bool true)), (55, .fixed (.bool true)), (56, .fixed (undef)), (57, .fixed (undef)), (58, .fixed (undef)), (59, .fixed (undef)), (60, .fixed (undef)), (61, .fixed (undef)), (62, .fixed (undef)), (63, .fixed (.bool true)), (64, .fixed (.tuple #[.int .i64 rr, .int .i64 y])), (44, .fixed (.tuple #[.int .i64 rr, .int .i64 y])), (65, .fixed (.int .i64 rr)), (66, .fixed (.int .i64 y)), (1, .fixed (.int .i64 rr)), (12, .fixed (.int .i64 y))]) 72 (by kernel_rfl) (by kernel_rfl) (by rfl) (kindT_mono _) ?_ ?_
                  · as_aux_lemma =>
                    show ∀ o ∈ [(0, _), (1, _), (2, _), (3, _), (4, _), (5, _), (6, _), (7, _), (8, _), (9, _), (10, _), (11, _), (12, _), (13, _), (14, _), (15, _), (16, _), (17, _), (18, _), (19, _), (20, _), (21, _), (22, _), (23, _), (24, _)], _
                    refine (tfm ?_ (tfm ?_ (tfm ?_ (tfm ?_ (tfm ?_ (tfm ?_ (tfm ?_ (tfm ?_ (tfm ?_ (tfm ?_ (tfm ?_ (tfm ?_ (tfm ?_ (tfm ?_ (tfm ?_ (tfm ?_ (tfm ?_ (tfm ?_ (tfm ?_ (tfm ?_ (tfm ?_ (tfm ?_ (tfm ?_ (tfm ?_ (tfm ?_ tfmnil)))))))))))))))))))))))))
                    · intro r W hc hf hs hd hB
                      have hBV := HBV.out W hB
                      refine want_n rfl ?_
                      have e5 : r (.tmp 5) = .pointer (some ⟨w.heap.size, 0, none⟩) := hs 5 (by kernel_rfl)
                      exact st_value (v := .pointer (some ⟨w.heap.size, 14, none⟩)) rfl (by decide) (by go_simp) rfl
                    · intro r W hc hf hs hd hB
                      have hBV := HBV.out W hB
                      refine want_n rfl ?_
                      have e45 : r (.tmp 45) = .pointer (some ⟨w.heap.size, 14, none⟩) := hd 45 (by kernel_rfl)
                      have c14 := cell_stays hBV H14.out
                      exact st_value (v := .slice (some ⟨b, o, none⟩) l.length A.ac) rfl (by decide) (by go_simp) rfl
                    · intro r W hc hf hs hd hB
                      have hBV := HBV.out W hB
                      refine want_n rfl ?_
                      have e13 : r (.tmp 13) = .int .i64 i := hs 13 (by kernel_rfl)
                      exact st_value (v := .int .i64 i) rfl (by decide) (by go_simp) rfl
                    · intro r W hc hf hs hd hB
                      have hBV := HBV.out W hB
                      refine want_n rfl ?_
                      have e46 : r (.tmp 46) = .slice (some ⟨b, o, none⟩) l.length A.ac := hd 46 (by kernel_rfl)
                      have e47 : r (.tmp 47) = .int .i64 i := hd 47 (by kernel_rfl)
                      have g1 := HG.out.1
                      have g2 := HG.out.2
                      exact st_value (v := .pointer (some ⟨b, o + i * 15, none⟩)) rfl (by decide) (by go_simp) rfl
                    · intro r W hc hf hs hd hB
                      have hBV := HBV.out W hB
                      refine want_n rfl ?_
                      have e48 : r (.tmp 48) = .pointer (some ⟨b, o + i * 15, none⟩) := hd 48 (by kernel_rfl)
                      exact st_value (v := TT.val l[i] X) rfl (by decide) (run_load15 (HCX.out.below hBV) rfl e48) rfl
                    · intro r W hc hf hs hd hB
                      have hBV := HBV.out W hB
                      refine want_n rfl ?_
                      have e1 : r (.tmp 1) = .int .i64 q := hs 1 (by kernel_rfl)
                      exact st_value (v := .int .i64 q) rfl (by decide) (by go_simp) rfl
                    · intro r W hc hf hs hd hB
                      have hBV := HBV.out W hB
                      refine want_n rfl ?_
                      have e2 : r (.tmp 2) = .int .i64 d := hs 2 (by kernel_rfl)
                      exact st_value (v := .int .i64 d) rfl (by decide) (by go_simp) rfl
                    · intro r W hc hf hs hd hB
                      have hBV := HBV.out W hB
                      refine want_n rfl ?_
                      have e51 : r (.tmp 51) = .int .i64 d := hd 51 (by kernel_rfl)
                      have hw := HWD.out
                      exact st_value (v := .int .i64 (d + 1)) rfl (by decide) (by go_simp) rfl
                    · intro r W hc hf hs hd hB
                      have hBV := HBV.out W hB
                      refine want_n rfl ?_
                      have e3 : r (.tmp 3) = .int .i64 m := hs 3 (by kernel_rfl)
                      exact st_value (v := .int .i64 m) rfl (by decide) (by go_simp) rfl
                    · intro r W hc hf hs hd hB
                      have hBV := HBV.out W hB
                      refine want_n rfl ?_
                      have e4 : r (.tmp 4) = .bool true := hs 4 (by kernel_rfl)
                      exact st_value (v := .bool true) rfl (by decide) (by go_simp) rfl
                    · intro r W hc hf hs hd hB
                      have hBV := HBV.out W hB
                      refine want_n rfl ?_
                      have e54 : r (.tmp 54) = .bool true := hd 54 (by kernel_rfl)
                      exact st_value (v := .bool true) rfl (by decide) (by go_simp) rfl
                    · intro r W hc hf hs hd hB
                      have hBV := HBV.out W hB
                      exact want_not 10 55 rfl (by kernel_rfl) (hd 55 (by kernel_rfl)) (fun d e => by cases e; exact ⟨rfl, by simp⟩)
                    · intro r W hc hf hs hd hB
                      have hBV := HBV.out W hB
                      exact want_not 10 55 rfl (by kernel_rfl) (hd 55 (by kernel_rfl)) (fun d e => by cases e; exact ⟨rfl, by simp⟩)
                    · intro r W hc hf hs hd hB
                      have hBV := HBV.out W hB
                      exact want_not 10 55 rfl (by kernel_rfl) (hd 55 (by kernel_rfl)) (fun d e => by cases e; exact ⟨rfl, by simp⟩)
                    · intro r W hc hf hs hd hB
                      have hBV := HBV.out W hB
                      exact want_not 10 55 rfl (by kernel_rfl) (hd 55 (by kernel_rfl)) (fun d e => by cases e; exact ⟨rfl, by simp⟩)
                    · intro r W hc hf hs hd hB
                      have hBV := HBV.out W hB
                      exact want_und 14 59 rfl (by kernel_rfl) (hd 59 (by kernel_rfl)) (fun d e => by cases e; exact ⟨rfl, by simp⟩)
                    · intro r W hc hf hs hd hB
                      have hBV := HBV.out W hB
                      exact want_und 14 59 rfl (by kernel_rfl) (hd 59 (by kernel_rfl)) (fun d e => by cases e; exact ⟨rfl, by simp⟩)
                    · intro r W hc hf hs hd hB
                      have hBV := HBV.out W hB
                      exact want_not 10 55 rfl (by kernel_rfl) (hd 55 (by kernel_rfl)) (fun d e => by cases e; exact ⟨rfl, by simp⟩)
                    · intro r W hc hf hs hd hB
                      have hBV := HBV.out W hB
                      refine want_n rfl ?_
                      have e55 : r (.tmp 55) = .bool true := hd 55 (by kernel_rfl)
                      have e62 : r (.tmp 62) = undef := hd 62 (by kernel_rfl)
                      exact st_value (v := .bool true) rfl (by decide) (by go_simp) rfl
                    · intro r W hc hf hs hd hB
                      have hBV := HBV.out W hB
                      refine want_n rfl ?_
                      have e49 : r (.tmp 49) = TT.val l[i] X := hd 49 (by kernel_rfl)
                      have e50 : r (.tmp 50) = .int .i64 q := hd 50 (by kernel_rfl)
                      have e52 : r (.tmp 52) = .int .i64 (d + 1) := hd 52 (by kernel_rfl)
                      have e53 : r (.tmp 53) = .int .i64 m := hd 53 (by kernel_rfl)
                      have e63 : r (.tmp 63) = .bool true := hd 63 (by kernel_rfl)
                      exact st_call (f := 123) (args := #[TT.val l[i] X, .int .i64 q, .int .i64 (d + 1), .int .i64 m, .bool true]) rfl (by decide) (by go_simp) (made_fix (by rw [HCC.out]) (IH.out l[i] _ q (d + 1) true W HXC.out HXF.out HQB.out.1 HQB.out.2.1 HQB.out.2.2.1 HQB.out.2.2.2 ⟨_, rfl, HKX.out.below hBV⟩))
                    · intro r W hc hf hs hd hB
                      have hBV := HBV.out W hB
                      refine want_n rfl ?_
                      have e64 : r (.tmp 64) = .tuple #[.int .i64 rr, .int .i64 y] := hd 64 (by kernel_rfl)
                      exact st_value (v := .tuple #[.int .i64 rr, .int .i64 y]) rfl (by decide) (by go_simp) rfl
                    · intro r W hc hf hs hd hB
                      have hBV := HBV.out W hB
                      refine want_n rfl ?_
                      have e44 : r (.tmp 44) = .tuple #[.int .i64 rr, .int .i64 y] := hd 44 (by kernel_rfl)
                      exact st_value (v := .int .i64 rr) rfl (by decide) (by go_simp) rfl
                    · intro r W hc hf hs hd hB
                      have hBV := HBV.out W hB
                      refine want_n rfl ?_
                      have e44 : r (.tmp 44) = .tuple #[.int .i64 rr, .int .i64 y] := hd 44 (by kernel_rfl)
                      exact st_value (v := .int .i64 y) rfl (by decide) (by go_simp) rfl
                    · intro r W hc hf hs hd hB
                      have hBV := HBV.out W hB
                      refine want_n rfl ?_
                      have e65 : r (.tmp 65) = .int .i64 rr := hd 65 (by kernel_rfl)
                      exact st_value (v := .int .i64 rr) rfl (by decide) (by go_simp) rfl
                    · intro r W hc hf hs hd hB
                      have hBV := HBV.out W hB
                      refine want_n rfl ?_
                      have e66 : r (.tmp 66) = .int .i64 y := hd 66 (by kernel_rfl)
                      exact st_value (v := .int .i64 y) rfl (by decide) (by go_simp) rfl
                  intro f w2 hfd hB'
                  have z1 : f 1 = .int .i64 rr := hfd 1 (of_decide_eq_true (by kernel_rfl))
                  have z12 : f 12 = .int .i64 y := hfd 12 (of_decide_eq_true (by kernel_rfl))
                  have hb2 := HBV.out w2 hB'
                  rw [show dstsTo _ _ = [45, 46, 47, 48, 49, 50, 51, 52, 53, 54, 55, 56, 57, 58, 59, 60, 61, 62, 63, 64, 44, 65, 66, 1, 12] from by kernel_rfl]
                  simp only [fill, List.setIfInBounds_toArray, List.set_cons_succ, List.set_cons_zero, z1, z12]
                  clear hfd hB' z1 z12
                  have hB2 := hB.trans (hb2.mono hB.size)
                  clear hb2
                  by_cases hy0 : y = 0
                  · have HN := Lib.hid (HNEXT.out hy0)
                    subst hy0
                    go_wp2_with fail
                    go_roundw
                    case rel => exact ⟨rr, i + 1, rfl, rfl, by go_num, by omega, hr0', hr1', HN.out, hB2⟩
                    case measure => simp [intOf]; omega
                  · have HN := Lib.hid (HFOUND.out hy0)
                    have hyb : (y != 0) = true := by simpa using hy0
                    clear hy0
                    go_wp2_with fail
                    refine bodyPost_ret (v := .tuple #[.int .i64 rr, .int .i64 y]) (by simp [results, Try.results123, go_sem]) rfl ⟨by rw [HC.out, HN.out], hBe.trans (hB2.mono hBe.size)⟩
                · as_aux_lemma =>
                  have g1 : decide ((i : Int) < l.length) = false := decide_eq_false (by omega)
                  have g2 : decide (i < l.length) = false := decide_eq_false hlt
                  have c14 := cell_stays hB q14
                  have HN := Lib.hid (HQ.out.done hlt)
                  go_wp2_with fail
                  refine bodyPost_ret (v := .tuple #[.int .i64 q, .int .i64 0]) (by simp [results, Try.results123, go_sem]) rfl ⟨by rw [HC.out, HN.out], hBe.trans (hB.mono hBe.size)⟩
      · have hz1 : (z == 0) = false := by simp [hz0]
        have hz2 : (z != 0) = true := by simp [hz0]
        have HC : Hid ((TT.mk k v vs lo hi0 ws p l).chk m pl d inn = (pl, z)) := Lib.hid (by rw [TT.chk, if_neg (by have := HD.out; omega), if_pos (by rw [HZ.out]; exact hz0), HZ.out])
        clear hz0
        go_wp2_with fail
        refine bodyPost_ret (v := .tuple #[.int .i64 pl, .int .i64 z]) (by simp [results, Try.results123, go_sem]) rfl ⟨by rw [HC.out], hBe⟩
end Go.Proofs.Yteebbffecaeciaa
