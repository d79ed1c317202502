/- TermParts: the law returns true for all that can be read, and what was handed in reads afterwards as it read before. -/
import Derived.Test.YtapofbdkofelkaaM49
import Derived.Test.YtapofbdkofelkaaM48
import Derived.Test.YtapofbdkofelkaaM37
import Derived.Test.YtapofbdkofelkaaM34
import Derived.Test.YtapofbdkofelkaaM36
import Derived.Test.YtapofbdkofelkaaM38
import Derived.Test.YtapofbdkofelkaaM50
/- TermParts: the law's function, walked. -/
namespace Go.Proofs.Ytapofbdkofelkaa
open Go.RowKit

set_option maxRecDepth 100000 in
set_option maxHeartbeats 8000000 in
theorem termParts_any (l : List TT) (a : Option Addr) (cap : Nat) (lo hi : Int) (ws : List Int) (wa : Option Addr) (wc : Nat) (p : PT) (x : Value) (w : World) (hl : l.length ≤ 651562446070) (hr : TRow w l a) (hcap : l.length ≤ cap) (l0 : 0 ≤ lo) (l1 : lo ≤ 255) (h0 : 0 ≤ hi) (h1 : hi ≤ 255) (hwl : ws.length ≤ 17592186043904) (hwr : WRow w ws wa) (hp : PIn w p x) :
    Calls Try.prog 7 #[.slice a l.length cap, .int .u8 lo, .int .u8 hi, .slice wa ws.length wc, x] w fun e w' => e = .returned (.bool true) ∧ Below w.heap.size w w' := by
  obtain ⟨lg, hlg⟩ : ∃ lg, lg = TT.long l := ⟨_, rfl⟩
  obtain ⟨lp, hlp⟩ : ∃ lp, lp = PT.long [p] := ⟨_, rfl⟩
  have HLG := Lib.hid hlg; have HLP := Lib.hid hlp; clear hlg hlp
  obtain ⟨qa, qc, pa, pc, rfl⟩ := hp.vals
  obtain ⟨w0, hw0, m0, s0, hpb⟩ := pbox_new hp
  have HPB := Lib.hid hpb
  have HR := Lib.hid (hr.below m0); have HWR := Lib.hid (hwr.below m0)
  have hB : Below w.heap.size w w0 := m0
  clear hr hwr hp hpb m0
  unfold predV
  go_enter Try.func7, Try.ntmps7
  by_cases hz : l.length = 0
  · as_aux_lemma =>
    have f1 : decide (l.length = 0) = true := decide_eq_true hz
    have f2 : decide ((l.length : Int) = 0) = true := decide_eq_true (by omega)
    go_wp2_with fail
    refine (tawake_any _).mono ?_
    rintro e w9 ⟨rfl, hb9⟩
    go_wp2_with fail
    go_ret
    exact ⟨rfl, hB.trans (hb9.mono hB.size)⟩
  · by_cases h20 : 20 < l.length
    · as_aux_lemma =>
      have f1 : decide (20 < l.length) = true := decide_eq_true h20
      have f2 : decide (20 < (l.length : Int)) = true := decide_eq_true (by omega)
      go_wp2_with fail
      refine (tawake_any _).mono ?_
      rintro e w9 ⟨rfl, hb9⟩
      go_wp2_with fail
      go_ret
      exact ⟨rfl, hB.trans (hb9.mono hB.size)⟩
    · have f1 : decide (l.length = 0) = false := decide_eq_false hz
      have f2 : decide ((l.length : Int) = 0) = false := decide_eq_false (by omega)
      have f7 : ((l.length : Int) == 0) = false := by rw [beq_eq_false_iff_ne]; omega
      have f8 : (l.length == 0) = false := by rw [beq_eq_false_iff_ne]; omega
      have f3 : decide (20 < l.length) = false := decide_eq_false h20
      have f4 : decide (20 < (l.length : Int)) = false := decide_eq_false (by omega)
      go_wp2_with fail
      refine (tlong_any l a cap _ hl HR.out).mono ?_
      rintro e w1 ⟨rfl, hb1⟩
      rw [← HLG.out]
      clear hw0
      replace HR := Lib.hid (HR.out.below hb1); replace HWR := Lib.hid (HWR.out.below hb1); replace HPB := Lib.hid (HPB.out.below hb1)
      replace hB := hB.trans (hb1.mono hB.size)
      clear hb1
      cases lg
      · by_cases h30 : 30 < ws.length
        · as_aux_lemma =>
          have f5 : decide (30 < ws.length) = true := decide_eq_true h30
          have f6 : decide (30 < (ws.length : Int)) = true := decide_eq_true (by omega)
          go_wp2_with fail
          refine (tawake_any _).mono ?_
          rintro e w9 ⟨rfl, hb9⟩
          go_wp2_with fail
          go_ret
          exact ⟨rfl, hB.trans (hb9.mono hB.size)⟩
        · have f5 : decide (30 < ws.length) = false := decide_eq_false h30
          have f6 : decide (30 < (ws.length : Int)) = false := decide_eq_false (by omega)
          obtain ⟨w2, hw2, hb2, s2, hpb2⟩ := pbox_new HPB.out.2
          have HROW := Lib.hid hpb2.row
          obtain ⟨⟨q0, q1, q2, q3, q4, q5⟩, -⟩ := HPB.out
          go_wp2_with fail
          refine (plong_any [p] _ 1 _ (by simp) HROW.out).mono ?_
          rintro e w3 ⟨rfl, hb3⟩
          rw [← HLP.out]
          clear hw2 hpb2 q0 q1 q2 q3 q4 q5 s2 HROW
          replace HR := Lib.hid (HR.out.below hb2); replace HWR := Lib.hid (HWR.out.below hb2); replace HPB := Lib.hid (HPB.out.below hb2)
          replace hB := hB.trans (hb2.mono hB.size)
          clear hb2
          replace HR := Lib.hid (HR.out.below hb3); replace HWR := Lib.hid (HWR.out.below hb3); replace HPB := Lib.hid (HPB.out.below hb3)
          replace hB := hB.trans (hb3.mono hB.size)
          clear hb3
          cases lp
          · obtain ⟨hcnt, hfat⟩ := PT.not_long HLP.out.symm
            simp only [PT.cnts, PT.fats, Nat.add_zero] at hcnt hfat
            have HCF := Lib.hid (And.intro hcnt hfat)
            clear hcnt hfat
            obtain ⟨np, hnp⟩ : ∃ np, np = p.nodes := ⟨_, rfl⟩
            have HNP := Lib.hid hnp; clear hnp
            obtain ⟨⟨q0, q1, q2, q3, q4, q5⟩, -⟩ := HPB.out
            go_wp2_with fail
            refine (nodes_any 1000000 (by omega) p _ _ (by have := HCF.out; omega) (by have := HCF.out; omega) HPB.out.2).mono ?_
            rintro e w4 ⟨rfl, hb4⟩
            rw [← HNP.out]
            clear q0 q1 q2 q3 q4 q5
            replace HR := Lib.hid (HR.out.below hb4); replace HWR := Lib.hid (HWR.out.below hb4); replace HPB := Lib.hid (HPB.out.below hb4)
            replace hB := hB.trans (hb4.mono hB.size)
            clear hb4
            by_cases h300 : 300 < np
            · as_aux_lemma =>
              have g5 : decide (300 < np) = true := decide_eq_true h300
              have g6 : decide (300 < (np : Int)) = true := decide_eq_true (by omega)
              go_wp2_with fail
              refine (tawake_any _).mono ?_
              rintro e w9 ⟨rfl, hb9⟩
              go_wp2_with fail
              go_ret
              exact ⟨rfl, hB.trans (hb9.mono hB.size)⟩
            · have g5 : decide (300 < np) = false := decide_eq_false h300
              have g6 : decide (300 < (np : Int)) = false := decide_eq_false (by omega)
              go_wp2_with fail
              refine (tawake_any _).mono ?_
              rintro e w5 ⟨rfl, hb5⟩
              replace HR := Lib.hid (HR.out.below hb5); replace HWR := Lib.hid (HWR.out.below hb5); replace HPB := Lib.hid (HPB.out.below hb5)
              replace hB := hB.trans (hb5.mono hB.size)
              clear hb5
              obtain ⟨hcn, hln⟩ := TT.not_long HLG.out.symm
              have HCN := Lib.hid hcn; have HLN := Lib.hid hln
              clear hcn hln
              go_wp2_with fail
              clear f1 f2 f3 f4 f5 f6 f7 f8 g5 g6 HLG HLP HNP h300
              go_loopw [11, 12, 13, 14] (fun s d e y wr => ∃ (i sb mh : Nat) (ev : Bool), s = .int .i64 sb ∧ d = .int .i64 mh ∧ e = .bool ev ∧ y = .int .i64 i ∧ i ≤ l.length ∧ sb = sumBulk (l.take i) ∧ mh = maxHigh (l.take i) ∧ (∀ t ∈ l.take i, t.Bulk ≠ 0) ∧ (ev = true → (l.take i).all TT.sound = true) ∧ Below w5.heap.size w5 wr) (fun _ _ _ y _ => l.length - (intOf y).toNat)
              case atStart => exact ⟨0, 0, 0, true, rfl, rfl, rfl, rfl, by omega, by simp [sumBulk], by simp [maxHigh], by simp, by simp, Below.refl _ _⟩
              case round =>
                obtain ⟨i, sb, mh, ev, rfl, rfl, rfl, rfl, hi, hsb, hmh, hall, hev, hbr⟩ := hrel
                have hsb2 : sb ≤ 20 * 4097 := by have h := sumBulk_le (l.take i); rw [List.length_take] at h; have : min i l.length * 4097 ≤ 20 * 4097 := Nat.mul_le_mul_right _ (by omega); omega
                have hmh2 : mh ≤ 4096 := by rw [hmh]; exact maxHigh_le _
                have HSB := Lib.hid hsb; have HMH := Lib.hid hmh; have HALL := Lib.hid hall; have HEV := Lib.hid hev
                clear hsb hmh hall hev
                by_cases hlt : i < l.length
                · as_aux_lemma =>
                  have g1 : decide ((i : Int) < l.length) = true := decide_eq_true (by omega)
                  have g2 : decide (i < l.length) = true := decide_eq_true hlt
                  obtain ⟨b, o, rfl, X, hcX, hkX⟩ := HR.out.get i hlt
                  have HCX := Lib.hid (hcX.below hbr); have HKX : Hid (TIn wr l[i] (TT.val l[i] X)) := Lib.hid ⟨_, rfl, hkX.below hbr⟩
                  have HCI : Hid (l[i].cnt ≤ 3000000) := Lib.hid (by have h1 := TT.cnts_get hlt; have h2 := HCN.out; omega)
                  have HLI : Hid (l[i].lean = true) := Lib.hid (TT.leans_get HLN.out hlt)
                  obtain ⟨bu, hbu⟩ : ∃ bu, bu = l[i].Bulk := ⟨_, rfl⟩
                  obtain ⟨hh, hhh⟩ : ∃ hh, hh = l[i].High := ⟨_, rfl⟩
                  have HBU := Lib.hid hbu.symm; have HHH := Lib.hid hhh.symm
                  have hbu2 : bu ≤ 4097 := by rw [hbu]; exact TT.Bulk_le _
                  have hhh2 : hh ≤ 4096 := by rw [hhh]; exact TT.High_le _
                  clear hcX hkX hbu hhh
                  go_wp2_with fail
                  have HBV := Lib.hid (fun W (h : Below wr.drew.heap.size wr.drew W) => (Below.refl _ wr).drew.trans h)
                  try simp only [List.append_eq, List.cons_append, List.nil_append]
                  refine wp_region_allR (kindT [(60, .fixed (.slice (some ⟨b, o, none⟩) l.length cap)), (61, .fixed (.int .i64 i)), (62, .fixed (.pointer (some ⟨b, o + i * 15, none⟩))), (63, .fixed (TT.val l[i] X)), (64, .fixed (.int .i64 bu)), (65, .fixed (.slice (some ⟨b, o, none⟩) l.length cap)), (66, .fixed (.int .i64 i)), (67, .fixed (.pointer (some ⟨b, o + i * 15, none⟩))), (68, .fixed (TT.val l[i] X)), (69, .fixed (.int .i64 hh)), (15, .fixed (.int .i64 bu)), (16, .fixed (.int .i64 hh))]) 238 (by kernel_rfl) (by kernel_rfl) (by rfl) (kindT_mono _) ?_ ?_
                  · as_aux_lemma =>
                    show ∀ o ∈ [_, _, _, _, _, _, _, _, _, _, _, _], _
                    refine (tfm ?_ (tfm ?_ (tfm ?_ (tfm ?_ (tfm ?_ (tfm ?_ (tfm ?_ (tfm ?_ (tfm ?_ (tfm ?_ (tfm ?_ (tfm ?_ tfmnil))))))))))))
                    · intro r W hc hf hs hd hB
                      have hBV := HBV.out W hB
                      refine want_n rfl ?_
                      have e0 : r (.tmp 0) = .slice (some ⟨b, o, none⟩) l.length cap := hs 0 (of_decide_eq_true (by kernel_rfl))
                      exact st_value (v := .slice (some ⟨b, o, none⟩) l.length cap) rfl (by decide) (by go_simp) rfl
                    · intro r W hc hf hs hd hB
                      have hBV := HBV.out W hB
                      refine want_n rfl ?_
                      have e14 : r (.tmp 14) = .int .i64 i := hs 14 (of_decide_eq_true (by kernel_rfl))
                      exact st_value (v := .int .i64 i) rfl (by decide) (by go_simp) rfl
                    · intro r W hc hf hs hd hB
                      have hBV := HBV.out W hB
                      refine want_n rfl ?_
                      have e60 : r (.tmp 60) = .slice (some ⟨b, o, none⟩) l.length cap := hd 60 (by kernel_rfl)
                      have e61 : r (.tmp 61) = .int .i64 i := hd 61 (by kernel_rfl)
                      exact st_value (v := .pointer (some ⟨b, o + i * 15, none⟩)) rfl (by decide) (by go_simp) rfl
                    · intro r W hc hf hs hd hB
                      have hBV := HBV.out W hB
                      refine want_n rfl ?_
                      have e62 : r (.tmp 62) = .pointer (some ⟨b, o + i * 15, none⟩) := hd 62 (by kernel_rfl)
                      exact st_value (v := TT.val l[i] X) rfl (by decide) (run_load15 (HCX.out.below hBV) rfl e62) rfl
                    · intro r W hc hf hs hd hB
                      have hBV := HBV.out W hB
                      refine want_n rfl ?_
                      have e63 : r (.tmp 63) = TT.val l[i] X := hd 63 (by kernel_rfl)
                      exact st_call (f := 17) (args := #[TT.val l[i] X]) rfl (by decide) (by go_simp) (made_fix (by rw [HBU.out]) (tbulk_any _ _ _ HCI.out HLI.out (HKX.out.below hBV)))
                    · intro r W hc hf hs hd hB
                      have hBV := HBV.out W hB
                      refine want_n rfl ?_
                      have e0 : r (.tmp 0) = .slice (some ⟨b, o, none⟩) l.length cap := hs 0 (of_decide_eq_true (by kernel_rfl))
                      exact st_value (v := .slice (some ⟨b, o, none⟩) l.length cap) rfl (by decide) (by go_simp) rfl
                    · intro r W hc hf hs hd hB
                      have hBV := HBV.out W hB
                      refine want_n rfl ?_
                      have e14 : r (.tmp 14) = .int .i64 i := hs 14 (of_decide_eq_true (by kernel_rfl))
                      exact st_value (v := .int .i64 i) rfl (by decide) (by go_simp) rfl
                    · intro r W hc hf hs hd hB
                      have hBV := HBV.out W hB
                      refine want_n rfl ?_
                      have e65 : r (.tmp 65) = .slice (some ⟨b, o, none⟩) l.length cap := hd 65 (by kernel_rfl)
                      have e66 : r (.tmp 66) = .int .i64 i := hd 66 (by kernel_rfl)
                      exact st_value (v := .pointer (some ⟨b, o + i * 15, none⟩)) rfl (by decide) (by go_simp) rfl
                    · intro r W hc hf hs hd hB
                      have hBV := HBV.out W hB
                      refine want_n rfl ?_
                      have e67 : r (.tmp 67) = .pointer (some ⟨b, o + i * 15, none⟩) := hd 67 (by kernel_rfl)
                      exact st_value (v := TT.val l[i] X) rfl (by decide) (run_load15 (HCX.out.below hBV) rfl e67) rfl
                    · intro r W hc hf hs hd hB
                      have hBV := HBV.out W hB
                      refine want_n rfl ?_
                      have e68 : r (.tmp 68) = TT.val l[i] X := hd 68 (by kernel_rfl)
                      exact st_call (f := 19) (args := #[TT.val l[i] X]) rfl (by decide) (by go_simp) (made_fix (by rw [HHH.out]) (thigh_any _ _ _ HCI.out HLI.out (HKX.out.below hBV)))
                    · intro r W hc hf hs hd hB
                      have hBV := HBV.out W hB
                      refine want_n rfl ?_
                      have e64 : r (.tmp 64) = .int .i64 bu := hd 64 (by kernel_rfl)
                      exact st_value (v := .int .i64 bu) rfl (by decide) (by go_simp) rfl
                    · intro r W hc hf hs hd hB
                      have hBV := HBV.out W hB
                      refine want_n rfl ?_
                      have e69 : r (.tmp 69) = .int .i64 hh := hd 69 (by kernel_rfl)
                      exact st_value (v := .int .i64 hh) rfl (by decide) (by go_simp) rfl
                  intro f w6 hfd hB'
                  have z60 : f 60 = .slice (some ⟨b, o, none⟩) l.length cap := hfd 60 (of_decide_eq_true (by kernel_rfl))
                  have z61 : f 61 = .int .i64 i := hfd 61 (of_decide_eq_true (by kernel_rfl))
                  have z62 : f 62 = .pointer (some ⟨b, o + i * 15, none⟩) := hfd 62 (of_decide_eq_true (by kernel_rfl))
                  have z63 : f 63 = TT.val l[i] X := hfd 63 (of_decide_eq_true (by kernel_rfl))
                  have z64 : f 64 = .int .i64 bu := hfd 64 (of_decide_eq_true (by kernel_rfl))
                  have z65 : f 65 = .slice (some ⟨b, o, none⟩) l.length cap := hfd 65 (of_decide_eq_true (by kernel_rfl))
                  have z66 : f 66 = .int .i64 i := hfd 66 (of_decide_eq_true (by kernel_rfl))
                  have z67 : f 67 = .pointer (some ⟨b, o + i * 15, none⟩) := hfd 67 (of_decide_eq_true (by kernel_rfl))
                  have z68 : f 68 = TT.val l[i] X := hfd 68 (of_decide_eq_true (by kernel_rfl))
                  have z69 : f 69 = .int .i64 hh := hfd 69 (of_decide_eq_true (by kernel_rfl))
                  have z15 : f 15 = .int .i64 bu := hfd 15 (of_decide_eq_true (by kernel_rfl))
                  have z16 : f 16 = .int .i64 hh := hfd 16 (of_decide_eq_true (by kernel_rfl))
                  have hb_w6 := HBV.out w6 hB'
                  rw [show dstsTo _ _ = [60, 61, 62, 63, 64, 65, 66, 67, 68, 69, 15, 16] from by kernel_rfl]
                  simp only [fill, Act.put, List.setIfInBounds_toArray, List.set_cons_succ, List.set_cons_zero, z60, z61, z62, z63, z64, z65, z66, z67, z68, z69, z15, z16]
                  clear hfd hB' z60 z61 z62 z63 z64 z65 z66 z67 z68 z69 z15 z16 HBV
                  have hb6 := hbr.trans (hb_w6.mono hbr.size)
                  have HKX6 : Hid (TIn w6 l[i] (TT.val l[i] X)) := Lib.hid (HKX.out.below hb_w6)
                  replace HCX := Lib.hid (HCX.out.below hb_w6)
                  clear HKX hb_w6 hbr
                  by_cases hb0 : bu = 0
                  · have e1 : decide ((bu : Int) = 0) = true := decide_eq_true (by omega)
                    have e2 : decide (bu = 0) = true := decide_eq_true hb0
                    go_wp2_with fail
                    refine bodyPost_ret (v := .bool true) (by simp [results, Try.results7, go_sem]) rfl ⟨rfl, hB.trans (hb6.mono hB.size)⟩
                  · have e1 : decide ((bu : Int) = 0) = false := decide_eq_false (by omega)
                    have e2 : decide (bu = 0) = false := decide_eq_false hb0
                    have e3 : (bu == 0) = false := by simp [hb0]
                    have hwr1 : IntKind.i64.wrap ((sb : Int) + bu) = ((sb + bu : Nat) : Int) := by rw [IntKind.wrap_i64] <;> omega
                    have hmx : max (mh : Int) (hh : Int) = ((max mh hh : Nat) : Int) := by omega
                    have HNX : Hid (sb + bu = sumBulk (l.take (i + 1)) ∧ max mh hh = maxHigh (l.take (i + 1)) ∧ (∀ t ∈ l.take (i + 1), t.Bulk ≠ 0)) := Lib.hid (by
                      refine ⟨by rw [sumBulk_upto hlt, ← HSB.out, HBU.out], by rw [maxHigh_upto hlt, ← HMH.out, HHH.out], fun t ht => ?_⟩
                      rw [take_one hlt] at ht
                      rcases List.mem_append.1 ht with ht | ht
                      · exact HALL.out t ht
                      · rw [List.mem_singleton] at ht; rw [ht, HBU.out]; exact hb0)
                    cases ev
                    · go_wp2_with fail
                      all_goals
                        go_roundw
                        case rel => exact ⟨i + 1, sb + bu, max mh hh, false, by first | rfl | (rw [hwr1]) | skip, by first | rfl | (congr 1; split <;> omega) | (congr 1; omega) | (congr 1; simp; omega), rfl, by go_num, by omega, HNX.out.1, HNX.out.2.1, HNX.out.2.2, (fun h => by cases h), hb6⟩
                        case measure => simp [intOf]; omega
                    · obtain ⟨sd, hsd⟩ : ∃ sd, sd = l[i].sound := ⟨_, rfl⟩
                      have HSD := Lib.hid hsd; clear hsd
                      obtain ⟨q0, q1, q2, q3, q4, q5, q6, q7, q8, q9, q10, q11, q12, q13, q14⟩ := HCX.out
                      go_wp2_with fail
                      all_goals
                        refine (sound_any _ _ _ HCI.out HLI.out HKX6.out).mono ?_
                        rintro e w7 ⟨rfl, hb7⟩
                        rw [← HSD.out]
                        have hb8 := hb6.trans (hb7.mono hb6.size)
                        have HEV2 : Hid (sd = true → (l.take (i + 1)).all TT.sound = true) := Lib.hid (fun h => by
                          rw [take_one hlt, List.all_append, HEV.out (by trivial), Bool.true_and]
                          simp [← HSD.out, h])
                        clear hb7 q0 q1 q2 q3 q4 q5 q6 q7 q8 q9 q10 q11 q12 q13 q14
                        go_wp2_with fail
                        go_roundw
                        case rel => exact ⟨i + 1, sb + bu, max mh hh, sd, by first | rfl | (rw [hwr1]) | skip, by first | rfl | (congr 1; split <;> omega) | (congr 1; omega) | (congr 1; simp; omega), rfl, by go_num, by omega, HNX.out.1, HNX.out.2.1, HNX.out.2.2, HEV2.out, hb8⟩
                        case measure => simp [intOf]; omega
                · have hie : i = l.length := by omega
                  subst hie
                  have hsb' : sb = sumBulk l := by have h := HSB.out; rwa [List.take_length] at h
                  have hmh' : mh = maxHigh l := by have h := HMH.out; rwa [List.take_length] at h
                  have hall' : ∀ t ∈ l, t.Bulk ≠ 0 := by have h := HALL.out; rwa [List.take_length] at h
                  have hev' : ev = true → l.all TT.sound = true := by have h := HEV.out; rwa [List.take_length] at h
                  have HS := Lib.hid (And.intro hsb' (And.intro hmh' (And.intro hall' hev')))
                  clear hsb' hmh' hall' hev' HSB HMH HALL HEV
                  have g1 : decide ((l.length : Int) < l.length) = false := decide_eq_false (by omega)
                  have g2 : decide (l.length < l.length) = false := decide_eq_false (by omega)
                  have g5 : decide (l.length + 1 = 0) = false := decide_eq_false (by omega)
                  have g6 : decide ((l.length : Int) + 1 = 0) = false := decide_eq_false (by omega)
                  have g7 : ((l.length : Int) + 1 == 0) = false := by rw [beq_eq_false_iff_ne]; omega
                  have g8 : decide (0 < l.length) = true := decide_eq_true (by omega)
                  have g9 : decide (0 < (l.length : Int)) = true := decide_eq_true (by omega)
                  replace HR := Lib.hid (HR.out.below hbr); replace HWR := Lib.hid (HWR.out.below hbr); replace HPB := Lib.hid (HPB.out.below hbr)
                  replace hB := hB.trans (hbr.mono hB.size)
                  clear hbr
                  have hpos : 0 < l.length := by omega
                  obtain ⟨b, o, rfl, X, hcX, hkX⟩ := HR.out.get 0 hpos
                  rw [Nat.zero_mul, Nat.add_zero] at hcX
                  obtain ⟨t0, ht0⟩ : ∃ t0, t0 = l[0] := ⟨_, rfl⟩
                  rw [← ht0] at hcX hkX
                  have HX0 : Hid (TCells wr b o t0 X ∧ TOk wr t0 X) := Lib.hid ⟨hcX, hkX⟩
                  have HT0 : Hid (t0.cnt ≤ 3000000 ∧ t0.lean = true ∧ t0.Bulk ≠ 0 ∧ (ev = true → t0.sound = true)) := Lib.hid (by
                    rw [ht0]
                    refine ⟨by have h1 := TT.cnts_get hpos; have h2 := HCN.out; omega, TT.leans_get HLN.out hpos, HS.out.2.2.1 _ (List.getElem_mem hpos), fun h => ?_⟩
                    exact List.all_eq_true.1 (HS.out.2.2.2 h) _ (List.getElem_mem hpos))
                  have HT00 : Hid (l[0] = t0) := Lib.hid ht0.symm
                  clear hcX hkX hi hlt ht0
                  go_wp2_with fail
                  clear g1 g2 g5 g6 g7
                  obtain ⟨n, hn⟩ : ∃ n, n = lo % ((l.length : Int) + 1) := ⟨_, rfl⟩
                  obtain ⟨fr, hfr⟩ : ∃ n, n = lo % 17 := ⟨_, rfl⟩
                  obtain ⟨to, hto⟩ : ∃ n, n = hi % 17 := ⟨_, rfl⟩
                  rw [← hn, ← hfr, ← hto]
                  have hto2 : 0 ≤ to ∧ to ≤ 16 := by omega
                  have HTO := Lib.hid hto2
                  clear hn hfr hto g8 g9
                  obtain ⟨bu, hbu⟩ : ∃ bu, bu = t0.Bulk := ⟨_, rfl⟩
                  obtain ⟨hh, hhh⟩ : ∃ hh, hh = t0.High := ⟨_, rfl⟩
                  have HBU := Lib.hid hbu.symm; have HHH := Lib.hid hhh.symm
                  have hbu2 : bu ≤ 4097 := by rw [hbu]; exact TT.Bulk_le _
                  have hhh2 : hh ≤ 4096 := by rw [hhh]; exact TT.High_le _
                  obtain ⟨mx, hmx⟩ : ∃ mx : Nat, mx = (max 1 to).toNat := ⟨_, rfl⟩
                  have hmx2 : (mx : Int) = max 1 to ∧ mx ≤ 16 := by omega
                  have HMX := Lib.hid hmx2
                  have hmb : mx * bu ≤ 16 * 4097 := Nat.mul_le_mul (by omega) (by omega)
                  obtain ⟨mb, hmbe⟩ : ∃ mb, mb = mx * bu := ⟨_, rfl⟩
                  rw [← hmbe] at hmb
                  have hmbi : (mx : Int) * (bu : Int) = (mb : Int) := by rw [hmbe]; simp
                  have HMB := Lib.hid (And.intro hmbe hmbi)
                  have HN : Hid (IntKind.i64.wrap (1 + (sb : Int)) = 1 + sb ∧ IntKind.i64.wrap (1 + (mh : Int)) = 1 + mh ∧ IntKind.i64.wrap ((mx : Int) * (bu : Int)) = mb ∧ IntKind.i64.wrap (1 + (mb : Int)) = 1 + mb ∧ IntKind.i64.wrap (1 + (hh : Int)) = 1 + hh ∧ IntKind.i64.wrap (1 + (bu : Int)) = 1 + bu) := Lib.hid (by
                    rw [hmbi]
                    refine ⟨?_, ?_, ?_, ?_, ?_, ?_⟩ <;> (rw [IntKind.wrap_i64] <;> omega))
                  have HCAP : Hid (1 ≤ cap) := Lib.hid (by omega)
                  have HLN0 : Hid (0 < l.length ∧ l.length ≤ 651562446070 ∧ ws.length ≤ 17592186043904) := Lib.hid ⟨hpos, hl, hwl⟩
                  obtain ⟨nl, hnl⟩ : ∃ nl, nl = l.length := ⟨_, rfl⟩
                  clear hmx hmx2 hmbe hmbi hbu hhh hmb hto2
                  have HBV := Lib.hid (fun W (h : Below wr.drew.heap.size wr.drew W) => (Below.refl _ wr).drew.trans h)
                  try simp only [List.append_eq, List.cons_append, List.nil_append]
                  refine wp_region_allR (kindT [(98, .fixed (.slice (some ⟨b, o, none⟩) l.length cap)), (99, .term (tOf 5 l)), (100, .fixed (.int .i64 sb)), (101, .fixed (.int .i64 (1 + (sb : Int)))), (102, .fixed (.int .i64 mh)), (103, .fixed (.int .i64 (1 + (mh : Int)))), (104, TQ.tb (tOf 5 l) (1 + (sb : Int)) (1 + (mh : Int))), (105, .fixed (.slice (some ⟨b, o, none⟩) l.length cap)), (106, .term (tOf 7 l)), (107, .fixed (.int .i64 sb)), (108, .fixed (.int .i64 (1 + (sb : Int)))), (109, .fixed (.int .i64 mh)), (110, .fixed (.int .i64 (1 + (mh : Int)))), (111, TQ.tb (tOf 7 l) (1 + (sb : Int)) (1 + (mh : Int))), (112, .fixed (.int .i64 n)), (113, .fixed (.slice (some ⟨b, o, none⟩) l.length cap)), (114, .term (tPick n l)), (115, .fixed (.int .i64 sb)), (116, .fixed (.int .i64 (1 + (sb : Int)))), (117, .fixed (.int .i64 mh)), (118, .fixed (.int .i64 (1 + (mh : Int)))), (119, TQ.tb (tPick n l) (1 + (sb : Int)) (1 + (mh : Int))), (120, .fixed (.slice wa ws.length wc)), (121, .fixed (.slice (some ⟨b, o, none⟩) l.length cap)), (122, .term (tFreq ws l)), (123, .fixed (.int .i64 sb)), (124, .fixed (.int .i64 (1 + (sb : Int)))), (125, .fixed (.int .i64 mh)), (126, TQ.tb (tFreq ws l) (1 + (sb : Int)) ((mh : Int))), (127, .fixed (.int .i64 fr)), (128, .fixed (.int .i64 to)), (129, .fixed (.slice (some ⟨b, o, none⟩) l.length cap)), (130, .fixed (.pointer (some ⟨b, o, none⟩))), (131, .fixed (TT.val t0 X)), (132, .term (tList fr to t0)), (133, .fixed (.int .i64 to)), (134, .fixed (.int .i64 mx)), (135, .fixed (.slice (some ⟨b, o, none⟩) l.length cap)), (136, .fixed (.pointer (some ⟨b, o, none⟩))), (137, .fixed (TT.val t0 X)), (138, .fixed (.int .i64 bu)), (139, .fixed (.int .i64 mb)), (140, .fixed (.int .i64 (1 + (mb : Int)))), (141, .fixed (.slice (some ⟨b, o, none⟩) l.length cap)), (142, .fixed (.pointer (some ⟨b, o, none⟩))), (143, .fixed (TT.val t0 X)), (144, .fixed (.int .i64 hh)), (145, .fixed (.int .i64 (1 + (hh : Int)))), (146, TQ.tb (tList fr to t0) (1 + (mb : Int)) (1 + (hh : Int))), (147, .fixed (predV p qa qc pa pc)), (148, .fixed (.slice (some ⟨b, o, none⟩) l.length cap)), (149, .fixed (.slice (some ⟨b, o, none⟩) 1 cap)), (150, .term (tFilter p t0)), (151, .fixed (.slice (some ⟨b, o, none⟩) l.length cap)), (152, .fixed (.pointer (some ⟨b, o, none⟩))), (153, .fixed (TT.val t0 X)), (154, .fixed (.int .i64 bu)), (155, .fixed (.int .i64 (1 + (bu : Int)))), (156, .fixed (.slice (some ⟨b, o, none⟩) l.length cap)), (157, .fixed (.pointer (some ⟨b, o, none⟩))), (158, .fixed (TT.val t0 X)), (159, .fixed (.int .i64 hh)), (160, TQ.tb (tFilter p t0) (1 + (bu : Int)) ((hh : Int))), (161, TQ.tab [(tOf 5 l, 1 + (sb : Int), 1 + (mh : Int)), (tOf 7 l, 1 + (sb : Int), 1 + (mh : Int)), (tPick n l, 1 + (sb : Int), 1 + (mh : Int)), (tFreq ws l, 1 + (sb : Int), (mh : Int)), (tList fr to t0, 1 + (mb : Int), 1 + (hh : Int)), (tFilter p t0, 1 + (bu : Int), (hh : Int))]), (162, .fixed (.int .i64 6)), (163, .fixed (.int .i64 0))]) 238 (by kernel_rfl) (by kernel_rfl) (by rfl) (kindT_mono _) ?_ ?_
                  · as_aux_lemma =>
                    show ∀ o ∈ [_, _, _, _, _, _, _, _, _, _, _, _, _, _, _, _, _, _, _, _, _, _, _, _, _, _, _, _, _, _, _, _, _, _, _, _, _, _, _, _, _, _, _, _, _, _, _, _, _, _, _, _, _, _, _, _, _, _, _, _, _, _, _, _, _, _], _
                    refine (tfm ?_ (tfm ?_ (tfm ?_ (tfm ?_ (tfm ?_ (tfm ?_ (tfm ?_ (tfm ?_ (tfm ?_ (tfm ?_ (tfm ?_ (tfm ?_ (tfm ?_ (tfm ?_ (tfm ?_ (tfm ?_ (tfm ?_ (tfm ?_ (tfm ?_ (tfm ?_ (tfm ?_ (tfm ?_ (tfm ?_ (tfm ?_ (tfm ?_ (tfm ?_ (tfm ?_ (tfm ?_ (tfm ?_ (tfm ?_ (tfm ?_ (tfm ?_ (tfm ?_ (tfm ?_ (tfm ?_ (tfm ?_ (tfm ?_ (tfm ?_ (tfm ?_ (tfm ?_ (tfm ?_ (tfm ?_ (tfm ?_ (tfm ?_ (tfm ?_ (tfm ?_ (tfm ?_ (tfm ?_ (tfm ?_ (tfm ?_ (tfm ?_ (tfm ?_ (tfm ?_ (tfm ?_ (tfm ?_ (tfm ?_ (tfm ?_ (tfm ?_ (tfm ?_ (tfm ?_ (tfm ?_ (tfm ?_ (tfm ?_ (tfm ?_ (tfm ?_ (tfm ?_ tfmnil))))))))))))))))))))))))))))))))))))))))))))))))))))))))))))))))))
                    · intro r W hc hf hs hd hB
                      have hBV := HBV.out W hB
                      refine want_n rfl ?_
                      have e0 : r (.tmp 0) = .slice (some ⟨b, o, none⟩) l.length cap := hs 0 (of_decide_eq_true (by kernel_rfl))
                      exact st_value (v := .slice (some ⟨b, o, none⟩) l.length cap) rfl (by decide) (by go_simp) rfl
                    · intro r W hc hf hs hd hB
                      have hBV := HBV.out W hB
                      refine want_n rfl ?_
                      have e98 : r (.tmp 98) = .slice (some ⟨b, o, none⟩) l.length cap := hd 98 (by kernel_rfl)
                      exact st_call (f := 27) (args := #[.int .u8 5, .slice (some ⟨b, o, none⟩) l.length cap]) rfl (by decide) (by go_simp) (mof 5 l _ cap W HLN0.out.2.1 (HR.out.below hBV))
                    · intro r W hc hf hs hd hB
                      have hBV := HBV.out W hB
                      refine want_n rfl ?_
                      have e11 : r (.tmp 11) = .int .i64 sb := hs 11 (of_decide_eq_true (by kernel_rfl))
                      exact st_value (v := .int .i64 sb) rfl (by decide) (by go_simp) rfl
                    · intro r W hc hf hs hd hB
                      have hBV := HBV.out W hB
                      refine want_n rfl ?_
                      have e100 : r (.tmp 100) = .int .i64 sb := hd 100 (by kernel_rfl)
                      have hw := HN.out.1
                      exact st_value (v := .int .i64 (1 + (sb : Int))) rfl (by decide) (by go_simp) rfl
                    · intro r W hc hf hs hd hB
                      have hBV := HBV.out W hB
                      refine want_n rfl ?_
                      have e12 : r (.tmp 12) = .int .i64 mh := hs 12 (of_decide_eq_true (by kernel_rfl))
                      exact st_value (v := .int .i64 mh) rfl (by decide) (by go_simp) rfl
                    · intro r W hc hf hs hd hB
                      have hBV := HBV.out W hB
                      refine want_n rfl ?_
                      have e102 : r (.tmp 102) = .int .i64 mh := hd 102 (by kernel_rfl)
                      have hw := HN.out.2.1
                      exact st_value (v := .int .i64 (1 + (mh : Int))) rfl (by decide) (by go_simp) rfl
                    · intro r W hc hf hs hd hB
                      have hBV := HBV.out W hB
                      refine want_n rfl ?_
                      obtain ⟨A, eA, kA⟩ : TIn W (tOf 5 l) (r (.tmp 99)) := hd 99 (by kernel_rfl)
                      have e101 : r (.tmp 101) = .int .i64 (1 + (sb : Int)) := hd 101 (by kernel_rfl)
                      have e103 : r (.tmp 103) = .int .i64 (1 + (mh : Int)) := hd 103 (by kernel_rfl)
                      exact st_value (v := TB.val ⟨tOf 5 l, A, 1 + (sb : Int), 1 + (mh : Int)⟩) rfl (by decide) (run_tb ⟨tOf 5 l, A, 1 + (sb : Int), 1 + (mh : Int)⟩ rfl eA e101 e103) ⟨A, rfl, kA⟩
                    · intro r W hc hf hs hd hB
                      have hBV := HBV.out W hB
                      refine want_n rfl ?_
                      have e0 : r (.tmp 0) = .slice (some ⟨b, o, none⟩) l.length cap := hs 0 (of_decide_eq_true (by kernel_rfl))
                      exact st_value (v := .slice (some ⟨b, o, none⟩) l.length cap) rfl (by decide) (by go_simp) rfl
                    · intro r W hc hf hs hd hB
                      have hBV := HBV.out W hB
                      refine want_n rfl ?_
                      have e105 : r (.tmp 105) = .slice (some ⟨b, o, none⟩) l.length cap := hd 105 (by kernel_rfl)
                      exact st_call (f := 27) (args := #[.int .u8 7, .slice (some ⟨b, o, none⟩) l.length cap]) rfl (by decide) (by go_simp) (mof 7 l _ cap W HLN0.out.2.1 (HR.out.below hBV))
                    · intro r W hc hf hs hd hB
                      have hBV := HBV.out W hB
                      refine want_n rfl ?_
                      have e11 : r (.tmp 11) = .int .i64 sb := hs 11 (of_decide_eq_true (by kernel_rfl))
                      exact st_value (v := .int .i64 sb) rfl (by decide) (by go_simp) rfl
                    · intro r W hc hf hs hd hB
                      have hBV := HBV.out W hB
                      refine want_n rfl ?_
                      have e107 : r (.tmp 107) = .int .i64 sb := hd 107 (by kernel_rfl)
                      have hw := HN.out.1
                      exact st_value (v := .int .i64 (1 + (sb : Int))) rfl (by decide) (by go_simp) rfl
                    · intro r W hc hf hs hd hB
                      have hBV := HBV.out W hB
                      refine want_n rfl ?_
                      have e12 : r (.tmp 12) = .int .i64 mh := hs 12 (of_decide_eq_true (by kernel_rfl))
                      exact st_value (v := .int .i64 mh) rfl (by decide) (by go_simp) rfl
                    · intro r W hc hf hs hd hB
                      have hBV := HBV.out W hB
                      refine want_n rfl ?_
                      have e109 : r (.tmp 109) = .int .i64 mh := hd 109 (by kernel_rfl)
                      have hw := HN.out.2.1
                      exact st_value (v := .int .i64 (1 + (mh : Int))) rfl (by decide) (by go_simp) rfl
                    · intro r W hc hf hs hd hB
                      have hBV := HBV.out W hB
                      refine want_n rfl ?_
                      obtain ⟨A, eA, kA⟩ : TIn W (tOf 7 l) (r (.tmp 106)) := hd 106 (by kernel_rfl)
                      have e108 : r (.tmp 108) = .int .i64 (1 + (sb : Int)) := hd 108 (by kernel_rfl)
                      have e110 : r (.tmp 110) = .int .i64 (1 + (mh : Int)) := hd 110 (by kernel_rfl)
                      exact st_value (v := TB.val ⟨tOf 7 l, A, 1 + (sb : Int), 1 + (mh : Int)⟩) rfl (by decide) (run_tb ⟨tOf 7 l, A, 1 + (sb : Int), 1 + (mh : Int)⟩ rfl eA e108 e110) ⟨A, rfl, kA⟩
                    · intro r W hc hf hs hd hB
                      have hBV := HBV.out W hB
                      refine want_n rfl ?_
                      have e17 : r (.tmp 17) = .int .i64 n := hs 17 (of_decide_eq_true (by kernel_rfl))
                      exact st_value (v := .int .i64 n) rfl (by decide) (by go_simp) rfl
                    · intro r W hc hf hs hd hB
                      have hBV := HBV.out W hB
                      refine want_n rfl ?_
                      have e0 : r (.tmp 0) = .slice (some ⟨b, o, none⟩) l.length cap := hs 0 (of_decide_eq_true (by kernel_rfl))
                      exact st_value (v := .slice (some ⟨b, o, none⟩) l.length cap) rfl (by decide) (by go_simp) rfl
                    · intro r W hc hf hs hd hB
                      have hBV := HBV.out W hB
                      refine want_n rfl ?_
                      have e112 : r (.tmp 112) = .int .i64 n := hd 112 (by kernel_rfl)
                      have e113 : r (.tmp 113) = .slice (some ⟨b, o, none⟩) l.length cap := hd 113 (by kernel_rfl)
                      exact st_value (v := TT.val (tPick n l) (plainA (some ⟨b, o, none⟩) cap)) rfl (by decide) (run_pick rfl (hc _) e112 e113 rfl) ⟨_, rfl, tok_plain HLN0.out.2.1 (HR.out.below hBV)⟩
                    · intro r W hc hf hs hd hB
                      have hBV := HBV.out W hB
                      refine want_n rfl ?_
                      have e11 : r (.tmp 11) = .int .i64 sb := hs 11 (of_decide_eq_true (by kernel_rfl))
                      exact st_value (v := .int .i64 sb) rfl (by decide) (by go_simp) rfl
                    · intro r W hc hf hs hd hB
                      have hBV := HBV.out W hB
                      refine want_n rfl ?_
                      have e115 : r (.tmp 115) = .int .i64 sb := hd 115 (by kernel_rfl)
                      have hw := HN.out.1
                      exact st_value (v := .int .i64 (1 + (sb : Int))) rfl (by decide) (by go_simp) rfl
                    · intro r W hc hf hs hd hB
                      have hBV := HBV.out W hB
                      refine want_n rfl ?_
                      have e12 : r (.tmp 12) = .int .i64 mh := hs 12 (of_decide_eq_true (by kernel_rfl))
                      exact st_value (v := .int .i64 mh) rfl (by decide) (by go_simp) rfl
                    · intro r W hc hf hs hd hB
                      have hBV := HBV.out W hB
                      refine want_n rfl ?_
                      have e117 : r (.tmp 117) = .int .i64 mh := hd 117 (by kernel_rfl)
                      have hw := HN.out.2.1
                      exact st_value (v := .int .i64 (1 + (mh : Int))) rfl (by decide) (by go_simp) rfl
                    · intro r W hc hf hs hd hB
                      have hBV := HBV.out W hB
                      refine want_n rfl ?_
                      obtain ⟨A, eA, kA⟩ : TIn W (tPick n l) (r (.tmp 114)) := hd 114 (by kernel_rfl)
                      have e116 : r (.tmp 116) = .int .i64 (1 + (sb : Int)) := hd 116 (by kernel_rfl)
                      have e118 : r (.tmp 118) = .int .i64 (1 + (mh : Int)) := hd 118 (by kernel_rfl)
                      exact st_value (v := TB.val ⟨tPick n l, A, 1 + (sb : Int), 1 + (mh : Int)⟩) rfl (by decide) (run_tb ⟨tPick n l, A, 1 + (sb : Int), 1 + (mh : Int)⟩ rfl eA e116 e118) ⟨A, rfl, kA⟩
                    · intro r W hc hf hs hd hB
                      have hBV := HBV.out W hB
                      refine want_n rfl ?_
                      have e3 : r (.tmp 3) = .slice wa ws.length wc := hs 3 (of_decide_eq_true (by kernel_rfl))
                      exact st_value (v := .slice wa ws.length wc) rfl (by decide) (by go_simp) rfl
                    · intro r W hc hf hs hd hB
                      have hBV := HBV.out W hB
                      refine want_n rfl ?_
                      have e0 : r (.tmp 0) = .slice (some ⟨b, o, none⟩) l.length cap := hs 0 (of_decide_eq_true (by kernel_rfl))
                      exact st_value (v := .slice (some ⟨b, o, none⟩) l.length cap) rfl (by decide) (by go_simp) rfl
                    · intro r W hc hf hs hd hB
                      have hBV := HBV.out W hB
                      refine want_n rfl ?_
                      have e120 : r (.tmp 120) = .slice wa ws.length wc := hd 120 (by kernel_rfl)
                      have e121 : r (.tmp 121) = .slice (some ⟨b, o, none⟩) l.length cap := hd 121 (by kernel_rfl)
                      exact st_value (v := TT.val (tFreq ws l) (freqA wa wc (some ⟨b, o, none⟩) cap)) rfl (by decide) (run_freqT rfl (hc _) e120 e121 rfl rfl) ⟨_, rfl, tok_freq HLN0.out.2.1 HLN0.out.2.2 (HWR.out.below hBV) (HR.out.below hBV)⟩
                    · intro r W hc hf hs hd hB
                      have hBV := HBV.out W hB
                      refine want_n rfl ?_
                      have e11 : r (.tmp 11) = .int .i64 sb := hs 11 (of_decide_eq_true (by kernel_rfl))
                      exact st_value (v := .int .i64 sb) rfl (by decide) (by go_simp) rfl
                    · intro r W hc hf hs hd hB
                      have hBV := HBV.out W hB
                      refine want_n rfl ?_
                      have e123 : r (.tmp 123) = .int .i64 sb := hd 123 (by kernel_rfl)
                      have hw := HN.out.1
                      exact st_value (v := .int .i64 (1 + (sb : Int))) rfl (by decide) (by go_simp) rfl
                    · intro r W hc hf hs hd hB
                      have hBV := HBV.out W hB
                      refine want_n rfl ?_
                      have e12 : r (.tmp 12) = .int .i64 mh := hs 12 (of_decide_eq_true (by kernel_rfl))
                      exact st_value (v := .int .i64 mh) rfl (by decide) (by go_simp) rfl
                    · intro r W hc hf hs hd hB
                      have hBV := HBV.out W hB
                      refine want_n rfl ?_
                      obtain ⟨A, eA, kA⟩ : TIn W (tFreq ws l) (r (.tmp 122)) := hd 122 (by kernel_rfl)
                      have e124 : r (.tmp 124) = .int .i64 (1 + (sb : Int)) := hd 124 (by kernel_rfl)
                      have e125 : r (.tmp 125) = .int .i64 mh := hd 125 (by kernel_rfl)
                      exact st_value (v := TB.val ⟨tFreq ws l, A, 1 + (sb : Int), (mh : Int)⟩) rfl (by decide) (run_tb ⟨tFreq ws l, A, 1 + (sb : Int), (mh : Int)⟩ rfl eA e124 e125) ⟨A, rfl, kA⟩
                    · intro r W hc hf hs hd hB
                      have hBV := HBV.out W hB
                      refine want_n rfl ?_
                      have e18 : r (.tmp 18) = .int .i64 fr := hs 18 (of_decide_eq_true (by kernel_rfl))
                      exact st_value (v := .int .i64 fr) rfl (by decide) (by go_simp) rfl
                    · intro r W hc hf hs hd hB
                      have hBV := HBV.out W hB
                      refine want_n rfl ?_
                      have e19 : r (.tmp 19) = .int .i64 to := hs 19 (of_decide_eq_true (by kernel_rfl))
                      exact st_value (v := .int .i64 to) rfl (by decide) (by go_simp) rfl
                    · intro r W hc hf hs hd hB
                      have hBV := HBV.out W hB
                      refine want_n rfl ?_
                      have e0 : r (.tmp 0) = .slice (some ⟨b, o, none⟩) l.length cap := hs 0 (of_decide_eq_true (by kernel_rfl))
                      exact st_value (v := .slice (some ⟨b, o, none⟩) l.length cap) rfl (by decide) (by go_simp) rfl
                    · intro r W hc hf hs hd hB
                      have hBV := HBV.out W hB
                      refine want_n rfl ?_
                      have e129 : r (.tmp 129) = .slice (some ⟨b, o, none⟩) l.length cap := hd 129 (by kernel_rfl)
                      have hp0 := HLN0.out.1
                      have hd0 : decide (0 < l.length) = true := decide_eq_true hp0
                      exact st_value (v := .pointer (some ⟨b, o, none⟩)) rfl (by decide) (by go_simp) rfl
                    · intro r W hc hf hs hd hB
                      have hBV := HBV.out W hB
                      refine want_n rfl ?_
                      have e130 : r (.tmp 130) = .pointer (some ⟨b, o, none⟩) := hd 130 (by kernel_rfl)
                      exact st_value (v := TT.val t0 X) rfl (by decide) (run_load15 (HX0.out.1.below hBV) rfl e130) rfl
                    · intro r W hc hf hs hd hB
                      have hBV := HBV.out W hB
                      refine want_n rfl ?_
                      have e127 : r (.tmp 127) = .int .i64 fr := hd 127 (by kernel_rfl)
                      have e128 : r (.tmp 128) = .int .i64 to := hd 128 (by kernel_rfl)
                      have e131 : r (.tmp 131) = TT.val t0 X := hd 131 (by kernel_rfl)
                      exact st_call (f := 31) (args := #[.int .i64 fr, .int .i64 to, TT.val t0 X]) rfl (by decide) (by go_simp) (llist_any fr to t0 _ W ⟨_, rfl, HX0.out.2.below hBV⟩)
                    · intro r W hc hf hs hd hB
                      have hBV := HBV.out W hB
                      refine want_n rfl ?_
                      have e19 : r (.tmp 19) = .int .i64 to := hs 19 (of_decide_eq_true (by kernel_rfl))
                      exact st_value (v := .int .i64 to) rfl (by decide) (by go_simp) rfl
                    · intro r W hc hf hs hd hB
                      have hBV := HBV.out W hB
                      refine want_n rfl ?_
                      have e133 : r (.tmp 133) = .int .i64 to := hd 133 (by kernel_rfl)
                      have hm := HMX.out.1
                      by_cases hx : 1 < to
                      · have hm2 : (mx : Int) = to := by omega
                        have hx2 : decide (1 < to) = true := decide_eq_true hx
                        clear hm
                        exact st_value (v := .int .i64 mx) rfl (by decide) (by rw [hm2]; clear hm2; go_simp) rfl
                      · have hm2 : (mx : Int) = 1 := by omega
                        have hx2 : decide (1 < to) = false := decide_eq_false (by omega)
                        clear hm
                        exact st_value (v := .int .i64 mx) rfl (by decide) (by rw [hm2]; clear hm2; go_simp) rfl
                    · intro r W hc hf hs hd hB
                      have hBV := HBV.out W hB
                      refine want_n rfl ?_
                      have e0 : r (.tmp 0) = .slice (some ⟨b, o, none⟩) l.length cap := hs 0 (of_decide_eq_true (by kernel_rfl))
                      exact st_value (v := .slice (some ⟨b, o, none⟩) l.length cap) rfl (by decide) (by go_simp) rfl
                    · intro r W hc hf hs hd hB
                      have hBV := HBV.out W hB
                      refine want_n rfl ?_
                      have e135 : r (.tmp 135) = .slice (some ⟨b, o, none⟩) l.length cap := hd 135 (by kernel_rfl)
                      have hp0 := HLN0.out.1
                      have hd0 : decide (0 < l.length) = true := decide_eq_true hp0
                      exact st_value (v := .pointer (some ⟨b, o, none⟩)) rfl (by decide) (by go_simp) rfl
                    · intro r W hc hf hs hd hB
                      have hBV := HBV.out W hB
                      refine want_n rfl ?_
                      have e136 : r (.tmp 136) = .pointer (some ⟨b, o, none⟩) := hd 136 (by kernel_rfl)
                      exact st_value (v := TT.val t0 X) rfl (by decide) (run_load15 (HX0.out.1.below hBV) rfl e136) rfl
                    · intro r W hc hf hs hd hB
                      have hBV := HBV.out W hB
                      refine want_n rfl ?_
                      have e137 : r (.tmp 137) = TT.val t0 X := hd 137 (by kernel_rfl)
                      exact st_call (f := 17) (args := #[TT.val t0 X]) rfl (by decide) (by go_simp) (made_fix (by rw [HBU.out]) (tbulk_any _ _ _ HT0.out.1 HT0.out.2.1 ⟨_, rfl, HX0.out.2.below hBV⟩))
                    · intro r W hc hf hs hd hB
                      have hBV := HBV.out W hB
                      refine want_n rfl ?_
                      have e134 : r (.tmp 134) = .int .i64 mx := hd 134 (by kernel_rfl)
                      have e138 : r (.tmp 138) = .int .i64 bu := hd 138 (by kernel_rfl)
                      have hw := HN.out.2.2.1
                      exact st_value (v := .int .i64 mb) rfl (by decide) (by go_simp) rfl
                    · intro r W hc hf hs hd hB
                      have hBV := HBV.out W hB
                      refine want_n rfl ?_
                      have e139 : r (.tmp 139) = .int .i64 mb := hd 139 (by kernel_rfl)
                      have hw := HN.out.2.2.2.1
                      exact st_value (v := .int .i64 (1 + (mb : Int))) rfl (by decide) (by go_simp) rfl
                    · intro r W hc hf hs hd hB
                      have hBV := HBV.out W hB
                      refine want_n rfl ?_
                      have e0 : r (.tmp 0) = .slice (some ⟨b, o, none⟩) l.length cap := hs 0 (of_decide_eq_true (by kernel_rfl))
                      exact st_value (v := .slice (some ⟨b, o, none⟩) l.length cap) rfl (by decide) (by go_simp) rfl
                    · intro r W hc hf hs hd hB
                      have hBV := HBV.out W hB
                      refine want_n rfl ?_
                      have e141 : r (.tmp 141) = .slice (some ⟨b, o, none⟩) l.length cap := hd 141 (by kernel_rfl)
                      have hp0 := HLN0.out.1
                      have hd0 : decide (0 < l.length) = true := decide_eq_true hp0
                      exact st_value (v := .pointer (some ⟨b, o, none⟩)) rfl (by decide) (by go_simp) rfl
                    · intro r W hc hf hs hd hB
                      have hBV := HBV.out W hB
                      refine want_n rfl ?_
                      have e142 : r (.tmp 142) = .pointer (some ⟨b, o, none⟩) := hd 142 (by kernel_rfl)
                      exact st_value (v := TT.val t0 X) rfl (by decide) (run_load15 (HX0.out.1.below hBV) rfl e142) rfl
                    · intro r W hc hf hs hd hB
                      have hBV := HBV.out W hB
                      refine want_n rfl ?_
                      have e143 : r (.tmp 143) = TT.val t0 X := hd 143 (by kernel_rfl)
                      exact st_call (f := 19) (args := #[TT.val t0 X]) rfl (by decide) (by go_simp) (made_fix (by rw [HHH.out]) (thigh_any _ _ _ HT0.out.1 HT0.out.2.1 ⟨_, rfl, HX0.out.2.below hBV⟩))
                    · intro r W hc hf hs hd hB
                      have hBV := HBV.out W hB
                      refine want_n rfl ?_
                      have e144 : r (.tmp 144) = .int .i64 hh := hd 144 (by kernel_rfl)
                      have hw := HN.out.2.2.2.2.1
                      exact st_value (v := .int .i64 (1 + (hh : Int))) rfl (by decide) (by go_simp) rfl
                    · intro r W hc hf hs hd hB
                      have hBV := HBV.out W hB
                      refine want_n rfl ?_
                      obtain ⟨A, eA, kA⟩ : TIn W (tList fr to t0) (r (.tmp 132)) := hd 132 (by kernel_rfl)
                      have e140 : r (.tmp 140) = .int .i64 (1 + (mb : Int)) := hd 140 (by kernel_rfl)
                      have e145 : r (.tmp 145) = .int .i64 (1 + (hh : Int)) := hd 145 (by kernel_rfl)
                      exact st_value (v := TB.val ⟨tList fr to t0, A, 1 + (mb : Int), 1 + (hh : Int)⟩) rfl (by decide) (run_tb ⟨tList fr to t0, A, 1 + (mb : Int), 1 + (hh : Int)⟩ rfl eA e140 e145) ⟨A, rfl, kA⟩
                    · intro r W hc hf hs hd hB
                      have hBV := HBV.out W hB
                      refine want_n rfl ?_
                      have e9 : r (.tmp 9) = .pointer (some ⟨w.heap.size, 0, none⟩) := hs 9 (of_decide_eq_true (by kernel_rfl))
                      obtain ⟨⟨q0, q1, q2, q3, q4, q5⟩, -⟩ := HPB.out.below hBV
                      exact st_value (v := predV p qa qc pa pc) rfl (by decide) (by unfold predV; go_simp) rfl
                    · intro r W hc hf hs hd hB
                      have hBV := HBV.out W hB
                      refine want_n rfl ?_
                      have e0 : r (.tmp 0) = .slice (some ⟨b, o, none⟩) l.length cap := hs 0 (of_decide_eq_true (by kernel_rfl))
                      exact st_value (v := .slice (some ⟨b, o, none⟩) l.length cap) rfl (by decide) (by go_simp) rfl
                    · intro r W hc hf hs hd hB
                      have hBV := HBV.out W hB
                      refine want_n rfl ?_
                      have e148 : r (.tmp 148) = .slice (some ⟨b, o, none⟩) l.length cap := hd 148 (by kernel_rfl)
                      have hc1 := HCAP.out
                      have hc2 : decide (1 ≤ cap) = true := decide_eq_true hc1
                      exact st_value (v := .slice (some ⟨b, o, none⟩) 1 cap) rfl (by decide) (by go_simp; intro hq; exact absurd hq (by omega)) rfl
                    · intro r W hc hf hs hd hB
                      have hBV := HBV.out W hB
                      refine want_n rfl ?_
                      have e147 : r (.tmp 147) = predV p qa qc pa pc := hd 147 (by kernel_rfl)
                      have e149 : r (.tmp 149) = .slice (some ⟨b, o, none⟩) 1 cap := hd 149 (by kernel_rfl)
                      exact st_value (v := TT.val (tFilter p t0) (filterA qa qc pa pc (some ⟨b, o, none⟩) cap)) rfl (by decide) (run_filterT rfl (hc _) e147 e149 rfl) ⟨_, rfl, tok_filter (l := [t0]) (by simp) (HPB.out.below hBV).2 (trow_cons (HX0.out.1.below hBV) (HX0.out.2.below hBV) trow_nil)⟩
                    · intro r W hc hf hs hd hB
                      have hBV := HBV.out W hB
                      refine want_n rfl ?_
                      have e0 : r (.tmp 0) = .slice (some ⟨b, o, none⟩) l.length cap := hs 0 (of_decide_eq_true (by kernel_rfl))
                      exact st_value (v := .slice (some ⟨b, o, none⟩) l.length cap) rfl (by decide) (by go_simp) rfl
                    · intro r W hc hf hs hd hB
                      have hBV := HBV.out W hB
                      refine want_n rfl ?_
                      have e151 : r (.tmp 151) = .slice (some ⟨b, o, none⟩) l.length cap := hd 151 (by kernel_rfl)
                      have hp0 := HLN0.out.1
                      have hd0 : decide (0 < l.length) = true := decide_eq_true hp0
                      exact st_value (v := .pointer (some ⟨b, o, none⟩)) rfl (by decide) (by go_simp) rfl
                    · intro r W hc hf hs hd hB
                      have hBV := HBV.out W hB
                      refine want_n rfl ?_
                      have e152 : r (.tmp 152) = .pointer (some ⟨b, o, none⟩) := hd 152 (by kernel_rfl)
                      exact st_value (v := TT.val t0 X) rfl (by decide) (run_load15 (HX0.out.1.below hBV) rfl e152) rfl
                    · intro r W hc hf hs hd hB
                      have hBV := HBV.out W hB
                      refine want_n rfl ?_
                      have e153 : r (.tmp 153) = TT.val t0 X := hd 153 (by kernel_rfl)
                      exact st_call (f := 17) (args := #[TT.val t0 X]) rfl (by decide) (by go_simp) (made_fix (by rw [HBU.out]) (tbulk_any _ _ _ HT0.out.1 HT0.out.2.1 ⟨_, rfl, HX0.out.2.below hBV⟩))
                    · intro r W hc hf hs hd hB
                      have hBV := HBV.out W hB
                      refine want_n rfl ?_
                      have e154 : r (.tmp 154) = .int .i64 bu := hd 154 (by kernel_rfl)
                      have hw := HN.out.2.2.2.2.2
                      exact st_value (v := .int .i64 (1 + (bu : Int))) rfl (by decide) (by go_simp) rfl
                    · intro r W hc hf hs hd hB
                      have hBV := HBV.out W hB
                      refine want_n rfl ?_
                      have e0 : r (.tmp 0) = .slice (some ⟨b, o, none⟩) l.length cap := hs 0 (of_decide_eq_true (by kernel_rfl))
                      exact st_value (v := .slice (some ⟨b, o, none⟩) l.length cap) rfl (by decide) (by go_simp) rfl
                    · intro r W hc hf hs hd hB
                      have hBV := HBV.out W hB
                      refine want_n rfl ?_
                      have e156 : r (.tmp 156) = .slice (some ⟨b, o, none⟩) l.length cap := hd 156 (by kernel_rfl)
                      have hp0 := HLN0.out.1
                      have hd0 : decide (0 < l.length) = true := decide_eq_true hp0
                      exact st_value (v := .pointer (some ⟨b, o, none⟩)) rfl (by decide) (by go_simp) rfl
                    · intro r W hc hf hs hd hB
                      have hBV := HBV.out W hB
                      refine want_n rfl ?_
                      have e157 : r (.tmp 157) = .pointer (some ⟨b, o, none⟩) := hd 157 (by kernel_rfl)
                      exact st_value (v := TT.val t0 X) rfl (by decide) (run_load15 (HX0.out.1.below hBV) rfl e157) rfl
                    · intro r W hc hf hs hd hB
                      have hBV := HBV.out W hB
                      refine want_n rfl ?_
                      have e158 : r (.tmp 158) = TT.val t0 X := hd 158 (by kernel_rfl)
                      exact st_call (f := 19) (args := #[TT.val t0 X]) rfl (by decide) (by go_simp) (made_fix (by rw [HHH.out]) (thigh_any _ _ _ HT0.out.1 HT0.out.2.1 ⟨_, rfl, HX0.out.2.below hBV⟩))
                    · intro r W hc hf hs hd hB
                      have hBV := HBV.out W hB
                      refine want_n rfl ?_
                      obtain ⟨A, eA, kA⟩ : TIn W (tFilter p t0) (r (.tmp 150)) := hd 150 (by kernel_rfl)
                      have e155 : r (.tmp 155) = .int .i64 (1 + (bu : Int)) := hd 155 (by kernel_rfl)
                      have e159 : r (.tmp 159) = .int .i64 hh := hd 159 (by kernel_rfl)
                      exact st_value (v := TB.val ⟨tFilter p t0, A, 1 + (bu : Int), (hh : Int)⟩) rfl (by decide) (run_tb ⟨tFilter p t0, A, 1 + (bu : Int), (hh : Int)⟩ rfl eA e155 e159) ⟨A, rfl, kA⟩
                    · intro r W hc hf hs hd hB
                      have hBV := HBV.out W hB
                      refine want_n rfl ?_
                      obtain ⟨A104, e104, k104⟩ : TbOk (tOf 5 l) (1 + (sb : Int)) (1 + (mh : Int)) (r (.tmp 104)) W := hd 104 (by kernel_rfl)
                      obtain ⟨A111, e111, k111⟩ : TbOk (tOf 7 l) (1 + (sb : Int)) (1 + (mh : Int)) (r (.tmp 111)) W := hd 111 (by kernel_rfl)
                      obtain ⟨A119, e119, k119⟩ : TbOk (tPick n l) (1 + (sb : Int)) (1 + (mh : Int)) (r (.tmp 119)) W := hd 119 (by kernel_rfl)
                      obtain ⟨A126, e126, k126⟩ : TbOk (tFreq ws l) (1 + (sb : Int)) ((mh : Int)) (r (.tmp 126)) W := hd 126 (by kernel_rfl)
                      obtain ⟨A146, e146, k146⟩ : TbOk (tList fr to t0) (1 + (mb : Int)) (1 + (hh : Int)) (r (.tmp 146)) W := hd 146 (by kernel_rfl)
                      obtain ⟨A160, e160, k160⟩ : TbOk (tFilter p t0) (1 + (bu : Int)) ((hh : Int)) (r (.tmp 160)) W := hd 160 (by kernel_rfl)
                      obtain ⟨w2, hrun, hb2, htab⟩ := run_tab (w := W) (r := r) (n := 6) (parts := #[(0, .tmp 104), (1, .tmp 111), (2, .tmp 119), (3, .tmp 126), (4, .tmp 146), (5, .tmp 160)]) [(tOf 5 l, 1 + (sb : Int), 1 + (mh : Int)), (tOf 7 l, 1 + (sb : Int), 1 + (mh : Int)), (tPick n l, 1 + (sb : Int), 1 + (mh : Int)), (tFreq ws l, 1 + (sb : Int), (mh : Int)), (tList fr to t0, 1 + (mb : Int), 1 + (hh : Int)), (tFilter p t0, 1 + (bu : Int), (hh : Int))] [A104, A111, A119, A126, A146, A160] rfl rfl (by decide) (by decide) (by simp [e104, e111, e119, e126, e146, e160]) (by simp [k104, k111, k119, k126, k146, k160])
                      exact st_new (v := .slice (some ⟨W.heap.size, 0, none⟩) 6 6) rfl (by decide) (hrun _ rfl) hb2 htab
                    · intro r W hc hf hs hd hB
                      have hBV := HBV.out W hB
                      refine want_n rfl ?_
                      obtain ⟨B, eB, -⟩ : TabOk [(tOf 5 l, 1 + (sb : Int), 1 + (mh : Int)), (tOf 7 l, 1 + (sb : Int), 1 + (mh : Int)), (tPick n l, 1 + (sb : Int), 1 + (mh : Int)), (tFreq ws l, 1 + (sb : Int), (mh : Int)), (tList fr to t0, 1 + (mb : Int), 1 + (hh : Int)), (tFilter p t0, 1 + (bu : Int), (hh : Int))] (r (.tmp 161)) W := hd 161 (by kernel_rfl)
                      exact st_value (v := .int .i64 6) rfl (by decide) (by go_simp) rfl
                    · intro r W hc hf hs hd hB
                      have hBV := HBV.out W hB
                      refine want_n rfl ?_
                      exact st_value (v := .int .i64 0) rfl (by decide) (by go_simp) rfl
                  intro f w6 hfd hB'
                  obtain ⟨B6, z161', htab⟩ : TabOk [(tOf 5 l, 1 + (sb : Int), 1 + (mh : Int)), (tOf 7 l, 1 + (sb : Int), 1 + (mh : Int)), (tPick n l, 1 + (sb : Int), 1 + (mh : Int)), (tFreq ws l, 1 + (sb : Int), (mh : Int)), (tList fr to t0, 1 + (mb : Int), 1 + (hh : Int)), (tFilter p t0, 1 + (bu : Int), (hh : Int))] (f 161) w6 := hfd 161 (of_decide_eq_true (by kernel_rfl))
                  have z161 : f 161 = .slice (some ⟨B6, 0, none⟩) 6 6 := z161'
                  clear z161'
                  have z162 : f 162 = .int .i64 6 := hfd 162 (of_decide_eq_true (by kernel_rfl))
                  have z163 : f 163 = .int .i64 0 := hfd 163 (of_decide_eq_true (by kernel_rfl))
                  have hb6 := HBV.out w6 hB'
                  rw [show dstsTo _ _ = [98, 99, 100, 101, 102, 103, 104, 105, 106, 107, 108, 109, 110, 111, 112, 113, 114, 115, 116, 117, 118, 119, 120, 121, 122, 123, 124, 125, 126, 127, 128, 129, 130, 131, 132, 133, 134, 135, 136, 137, 138, 139, 140, 141, 142, 143, 144, 145, 146, 147, 148, 149, 150, 151, 152, 153, 154, 155, 156, 157, 158, 159, 160, 161, 162, 163] from by kernel_rfl]
                  simp only [fill, Act.put, List.setIfInBounds_toArray, List.set_cons_succ, List.set_cons_zero, z161, z162, z163]
                  have hrows := parts_rows (mb := mb) (l := l) (ws := ws) (p := p) (t0 := t0) (n := n) (fr := fr) (to := to) HS.out.1 HS.out.2.1 HS.out.2.2.1 HBU.out HHH.out (by rw [← HBU.out]; exact HT0.out.2.2.1) (by have h1 := HMB.out.1; have h2 := HMX.out.1; rw [h1]; congr 1; omega) HTO.out.2 (by omega) (by have := HCN.out; omega) HLN.out (by rw [← HT00.out]; have h1 := TT.cnts_get hpos; have h2 := HCN.out; omega) HT0.out.2.1 (by omega) (by have := HCF.out; omega) (by have := HCF.out; omega)
                  obtain ⟨ts, hts⟩ : ∃ ts, ts = [(tOf 5 l, 1 + (sb : Int), 1 + (mh : Int)), (tOf 7 l, 1 + (sb : Int), 1 + (mh : Int)), (tPick n l, 1 + (sb : Int), 1 + (mh : Int)), (tFreq ws l, 1 + (sb : Int), (mh : Int)), (tList fr to t0, 1 + (mb : Int), 1 + (hh : Int)), (tFilter p t0, 1 + (bu : Int), (hh : Int))] := ⟨_, rfl⟩
                  rw [← hts] at htab hrows
                  have hlts : ts.length = 6 := by rw [hts]; rfl
                  have HT : Hid (∀ i (h : i < ts.length), (∃ A, w6.rangeAt B6 (i * 17) (TB.cells ⟨ts[i].1, A, ts[i].2.1, ts[i].2.2⟩).toList ∧ TOk w6 ts[i].1 A) ∧ PartRow to ts[i]) := Lib.hid (fun i h => ⟨htab i h, hrows _ (List.getElem_mem h)⟩)
                  replace HX0 := Lib.hid (And.intro (HX0.out.1.below hb6) (HX0.out.2.below hb6))
                  replace HR := Lib.hid (HR.out.below hb6); replace HWR := Lib.hid (HWR.out.below hb6); replace HPB := Lib.hid (HPB.out.below hb6)
                  replace hB := hB.trans (hb6.mono hB.size)
                  clear hb6
                  clear HT00 hfd hB' z161 z162 z163 HBV htab hrows hts HMB HMX HN HCAP hpos hcap hl hwl HLN0
                  go_wp2_with fail
                  go_loopw [163] (fun x wr => ∃ i : Nat, x = .int .i64 i ∧ i ≤ 6 ∧ Below w6.heap.size w6 wr) (fun x _ => 6 - (intOf x).toNat)
                  case atStart => exact ⟨0, rfl, by omega, Below.refl _ _⟩
                  case round =>
                    obtain ⟨i, rfl, hi, hb6⟩ := hrel
                    by_cases hlt : i < 6
                    · as_aux_lemma =>
                      obtain ⟨⟨A, hrg, hok⟩, bq, hq, eb, eh, hb0, hh0, hpart, hsm⟩ := HT.out i (by omega)
                      obtain ⟨t, ht⟩ : ∃ t, t = (ts[i]'(by omega)).1 := ⟨_, rfl⟩
                      rw [← ht] at hok hpart hsm
                      rw [← ht, eb, eh] at hrg
                      have HRG := Lib.hid (range_below hb6 hrg); have HSM := Lib.hid hsm; have HPART := Lib.hid hpart
                      have HOK := Lib.hid (hok.below hb6)
                      clear hrg hsm hpart hok ht eb eh
                      have g1 : decide ((i : Int) < 6) = true := decide_eq_true (by omega)
                      have g2 : decide (i < 6) = true := decide_eq_true hlt
                      go_wp2_with (first | refine wpList_loadM (cells := TB.cells ⟨t, A, bq, hq⟩) (by rfl) (by rfl) (by rfl) HRG.out Try.underlying59 rfl (by rw [TB.cells_size]; kernel_rfl) ?_ | refine wpList_boxM (k := 17) (cells := TB.cells ⟨t, A, bq, hq⟩) (by rfl) (by rfl) (by rfl) (by rfl) (by rfl) (by rfl) (by rfl) (by rfl) (by kernel_rfl) (by kernel_rfl) (TB.cells_size _) (TB.cells_one _) ?_)
                      intro wE hrE hbE hsE RE
                      obtain ⟨hxc, c15, c16⟩ := TB.at hrE
                      have HXC := Lib.hid hxc
                      obtain ⟨q0, q1, q2, q3, q4, q5, q6, q7, q8, q9, q10, q11, q12, q13, q14⟩ := hxc
                      have HTI : Hid (TIn wE t (TT.val t A)) := Lib.hid ⟨A, rfl, HOK.out.below hbE⟩
                      have hb7 := hb6.trans (hbE.mono hb6.size)
                      have hle : w6.heap.size ≤ wr.heap.size := hb6.size
                      have HOE := Lib.hid HOK.out; have HBE := Lib.hid hbE; have HRE := Lib.hid RE
                      clear hrE hbE HRG RE HOK
                      simp only [Nat.zero_add] at c15 c16 q1 q2 q3 q4 q5 q6 q7 q8 q9 q10 q11 q12 q13 q14
                      go_wp2_with fail
                      refine (tnode_any t _ _ HSM.out.2 HTI.out).mono ?_
                      rintro e w8 ⟨rfl, hb8⟩
                      obtain ⟨nd, hnd⟩ : ∃ nd, nd = t.node := ⟨_, rfl⟩
                      rw [← hnd]
                      replace HRE := Lib.hid (HRE.out.below hsE hb8); replace HBE := Lib.hid (HBE.out.trans (hb8.mono HBE.out.size))
                      have hsE8 : wr.heap.size < w8.heap.size := Nat.lt_of_lt_of_le hsE hb8.size
                      replace q0 := cell_stays hb8 q0; replace q1 := cell_stays hb8 q1; replace q2 := cell_stays hb8 q2; replace q3 := cell_stays hb8 q3; replace q4 := cell_stays hb8 q4; replace q5 := cell_stays hb8 q5; replace q6 := cell_stays hb8 q6; replace q7 := cell_stays hb8 q7
                      replace q8 := cell_stays hb8 q8; replace q9 := cell_stays hb8 q9; replace q10 := cell_stays hb8 q10; replace q11 := cell_stays hb8 q11; replace q12 := cell_stays hb8 q12; replace q13 := cell_stays hb8 q13; replace q14 := cell_stays hb8 q14
                      replace c15 := cell_stays hb8 c15; replace c16 := cell_stays hb8 c16
                      replace HTI := Lib.hid (HTI.out.below hb8); replace HXC := Lib.hid (HXC.out.below hb8)
                      replace hb7 := hb7.trans (hb8.mono hb7.size)
                      clear hb8
                      by_cases hn0 : nd = 0
                      · have HPT := Lib.hid (HPART.out.2 (by rw [← hnd]; exact hn0))
                        have hd1 : decide (nd = 0) = true := decide_eq_true hn0
                        have hd2 : (nd == 0) = true := by simp [hn0]
                        have hd3 : (nd != 0) = false := by simp [hn0]
                        obtain ⟨mn, hmn⟩ : ∃ mn, mn = min bq 4097 := ⟨_, rfl⟩
                        have HMN : Hid (t.Bulk = mn ∧ mn = min bq 4097) := Lib.hid ⟨by rw [hmn]; exact HPT.out.1, hmn⟩
                        have HN0 := Lib.hid hn0
                        clear hmn hnd HPART hn0
                        by_cases hk6 : t.kind = 6
                        · have hd4 : decide (t.kind = 6) = true := decide_eq_true hk6
                          have hd5 : (t.kind == 6) = true := by simp [hk6]
                          have HK6 := Lib.hid hk6
                          clear hk6
                          by_cases hto0 : to = 0
                          · have hd6 : decide (to = 0) = true := decide_eq_true hto0
                            have hd7 : (to == 0) = true := by simp [hto0]
                            have HTO0 := Lib.hid hto0
                            clear hto0
                            obtain ⟨wS, hwS⟩ : ∃ wS, w8.setCell ⟨wr.heap.size, 16, none⟩ (.int .i64 1) = wS := ⟨_, rfl⟩
                            have hf16 := HRE.out.frozen 16
                            obtain ⟨hq, hhz⟩ : ∃ k : Nat, k = 1 := ⟨1, rfl⟩
                            have hz1 : ((hq : Nat) : Int) = 1 := by rw [hhz]; rfl
                            have HNEW : Hid ((∀ o v, o ≠ 16 → w8.cell? ⟨wr.heap.size, o, none⟩ = some v → wS.cell? ⟨wr.heap.size, o, none⟩ = some v) ∧ wS.cell? ⟨wr.heap.size, 16, none⟩ = some (.int .i64 (hq : Int)) ∧ TIn wS t (TT.val t A) ∧ Below w6.heap.size w6 wS) := Lib.hid (by
                              rw [← hwS, hz1]
                              refine ⟨fun o v ho hv => ?_, set_same c16, ⟨A, rfl, HOE.out.mono (fun b' o' v' hv => ?_) t A⟩, hb7.setCell (p := ⟨wr.heap.size, 16, none⟩) hle _⟩
                              · rw [World.cell?_setCell_other _ _ _ _ (fun e => ho (by injection e with _ e2 _; exact e2.symm))]; exact hv
                              · rw [cell_set_other (show wr.heap.size ≠ b' by have := lt_of_cell hv; omega)]
                                exact cell_stays HBE.out hv)
                            go_wp2_with fail
                            clear hwS hf16 hd1 hd2 hd3 hd4 hd5 hd6 hd7
                            replace q0 := HNEW.out.1 _ _ (by decide) q0
                            replace q1 := HNEW.out.1 _ _ (by decide) q1
                            replace q2 := HNEW.out.1 _ _ (by decide) q2
                            replace q3 := HNEW.out.1 _ _ (by decide) q3
                            replace q4 := HNEW.out.1 _ _ (by decide) q4
                            replace q5 := HNEW.out.1 _ _ (by decide) q5
                            replace q6 := HNEW.out.1 _ _ (by decide) q6
                            replace q7 := HNEW.out.1 _ _ (by decide) q7
                            replace q8 := HNEW.out.1 _ _ (by decide) q8
                            replace q9 := HNEW.out.1 _ _ (by decide) q9
                            replace q10 := HNEW.out.1 _ _ (by decide) q10
                            replace q11 := HNEW.out.1 _ _ (by decide) q11
                            replace q12 := HNEW.out.1 _ _ (by decide) q12
                            replace q13 := HNEW.out.1 _ _ (by decide) q13
                            replace q14 := HNEW.out.1 _ _ (by decide) q14
                            replace c15 := HNEW.out.1 _ _ (by decide) c15
                            replace c16 := HNEW.out.2.1
                            replace HTI := Lib.hid HNEW.out.2.2.1
                            replace hb7 := HNEW.out.2.2.2
                            replace HXC : Hid (TCells wS wr.heap.size 0 t A) := Lib.hid ⟨q0, q1, q2, q3, q4, q5, q6, q7, q8, q9, q10, q11, q12, q13, q14⟩
                            have HPO : Hid ((4096 < bq → t.High = 0 ∧ t.sound = false) ∧ (bq ≤ 4096 → t.High = hq ∧ t.sound = decide (hq ≤ 128))) := Lib.hid (by have h := HPT.out.2; rw [if_pos ⟨HK6.out, HTO0.out⟩, ← hhz] at h; exact h)
                            clear HPT hhz hz1 HNEW
                            as_aux_lemma =>
                            rename World => wS
                            have HBV := Lib.hid (fun W (h : Below wS.drew.heap.size wS.drew W) => (Below.refl _ wS).drew.trans h)
                            try simp only [List.append_eq, List.cons_append, List.nil_append]
                            refine wp_region_allR (kindT [(195, .fixed (.pointer (some ⟨wr.heap.size, 0, none⟩))), (196, .fixed (TT.val t A)), (197, .fixed (.int .i64 mn)), (198, .fixed (.pointer (some ⟨wr.heap.size, 15, none⟩))), (199, .fixed (.int .i64 bq)), (200, .fixed (.int .i64 mn)), (201, .fixed (.bool false))]) 238 (by kernel_rfl) (by kernel_rfl) (by rfl) (kindT_mono _) ?_ ?_
                            · as_aux_lemma =>
                              show ∀ o ∈ [_, _, _, _, _, _, _], _
                              refine (tfm ?_ (tfm ?_ (tfm ?_ (tfm ?_ (tfm ?_ (tfm ?_ (tfm ?_ tfmnil)))))))
                              · intro r W hc hf hs hd hB
                                have hBV := HBV.out W hB
                                refine want_n rfl ?_
                                have e21 : r (.tmp 21) = .pointer (some ⟨wr.heap.size, 0, none⟩) := hs 21 (of_decide_eq_true (by kernel_rfl))
                                exact st_value (v := .pointer (some ⟨wr.heap.size, 0, none⟩)) rfl (by decide) (by go_simp) rfl
                              · intro r W hc hf hs hd hB
                                have hBV := HBV.out W hB
                                refine want_n rfl ?_
                                have e195 : r (.tmp 195) = .pointer (some ⟨wr.heap.size, 0, none⟩) := hd 195 (by kernel_rfl)
                                exact st_value (v := TT.val t A) rfl (by decide) (run_load15 (HXC.out.below hBV) rfl e195) rfl
                              · intro r W hc hf hs hd hB
                                have hBV := HBV.out W hB
                                refine want_n rfl ?_
                                have e196 : r (.tmp 196) = TT.val t A := hd 196 (by kernel_rfl)
                                exact st_call (f := 17) (args := #[TT.val t A]) rfl (by decide) (by go_simp) (made_fix (by rw [HMN.out.1]) (tbulk_any _ _ _ HSM.out.1 HSM.out.2 (HTI.out.below hBV)))
                              · intro r W hc hf hs hd hB
                                have hBV := HBV.out W hB
                                refine want_n rfl ?_
                                have e21 : r (.tmp 21) = .pointer (some ⟨wr.heap.size, 0, none⟩) := hs 21 (of_decide_eq_true (by kernel_rfl))
                                exact st_value (v := .pointer (some ⟨wr.heap.size, 15, none⟩)) rfl (by decide) (by go_simp) rfl
                              · intro r W hc hf hs hd hB
                                have hBV := HBV.out W hB
                                refine want_n rfl ?_
                                have e198 : r (.tmp 198) = .pointer (some ⟨wr.heap.size, 15, none⟩) := hd 198 (by kernel_rfl)
                                have cc := cell_stays hBV c15
                                exact st_value (v := .int .i64 bq) rfl (by decide) (by go_simp) rfl
                              · intro r W hc hf hs hd hB
                                have hBV := HBV.out W hB
                                refine want_n rfl ?_
                                have e199 : r (.tmp 199) = .int .i64 bq := hd 199 (by kernel_rfl)
                                by_cases hx : (4097 : Int) < bq
                                · have hm2 : (mn : Int) = 4097 := by have := HMN.out.2; omega
                                  have hx2 : decide ((4097 : Int) < bq) = true := decide_eq_true hx
                                  exact st_value (v := .int .i64 mn) rfl (by decide) (by rw [hm2]; clear hm2; go_simp) rfl
                                · have hm2 : (mn : Int) = bq := by have := HMN.out.2; omega
                                  have hx2 : decide ((4097 : Int) < bq) = false := decide_eq_false hx
                                  exact st_value (v := .int .i64 mn) rfl (by decide) (by rw [hm2]; clear hm2; go_simp) rfl
                              · intro r W hc hf hs hd hB
                                have hBV := HBV.out W hB
                                refine want_n rfl ?_
                                have e197 : r (.tmp 197) = .int .i64 mn := hd 197 (by kernel_rfl)
                                have e200 : r (.tmp 200) = .int .i64 mn := hd 200 (by kernel_rfl)
                                exact st_value (v := .bool false) rfl (by decide) (by go_simp) rfl
                            intro f w10 hfd hB'
                            have z195 : f 195 = .pointer (some ⟨wr.heap.size, 0, none⟩) := hfd 195 (of_decide_eq_true (by kernel_rfl))
                            have z196 : f 196 = TT.val t A := hfd 196 (of_decide_eq_true (by kernel_rfl))
                            have z197 : f 197 = .int .i64 mn := hfd 197 (of_decide_eq_true (by kernel_rfl))
                            have z198 : f 198 = .pointer (some ⟨wr.heap.size, 15, none⟩) := hfd 198 (of_decide_eq_true (by kernel_rfl))
                            have z199 : f 199 = .int .i64 bq := hfd 199 (of_decide_eq_true (by kernel_rfl))
                            have z200 : f 200 = .int .i64 mn := hfd 200 (of_decide_eq_true (by kernel_rfl))
                            have z201 : f 201 = .bool false := hfd 201 (of_decide_eq_true (by kernel_rfl))
                            have hb_w10 := HBV.out w10 hB'
                            rw [show dstsTo _ _ = [195, 196, 197, 198, 199, 200, 201] from by kernel_rfl]
                            simp only [fill, Act.put, List.setIfInBounds_toArray, List.set_cons_succ, List.set_cons_zero, z195, z196, z197, z198, z199, z200, z201]
                            clear hfd hB' z195 z196 z197 z198 z199 z200 z201 HBV
                            
                            replace q0 := cell_stays hb_w10 q0; replace q1 := cell_stays hb_w10 q1; replace q2 := cell_stays hb_w10 q2; replace q3 := cell_stays hb_w10 q3; replace q4 := cell_stays hb_w10 q4; replace q5 := cell_stays hb_w10 q5; replace q6 := cell_stays hb_w10 q6; replace q7 := cell_stays hb_w10 q7
                            replace q8 := cell_stays hb_w10 q8; replace q9 := cell_stays hb_w10 q9; replace q10 := cell_stays hb_w10 q10; replace q11 := cell_stays hb_w10 q11; replace q12 := cell_stays hb_w10 q12; replace q13 := cell_stays hb_w10 q13; replace q14 := cell_stays hb_w10 q14
                            replace c15 := cell_stays hb_w10 c15; replace c16 := cell_stays hb_w10 c16
                            replace HTI := Lib.hid (HTI.out.below hb_w10); replace HXC := Lib.hid (HXC.out.below hb_w10)
                            replace hb7 := hb7.trans (hb_w10.mono hb7.size)
                            clear hb_w10
                            by_cases hgt : 4096 < bq
                            · have hx1 : decide ((4096 : Int) < bq) = true := decide_eq_true (by omega)
                              have hx2 : decide (4096 < bq) = true := decide_eq_true hgt
                              go_wp2_with fail
                              refine (thigh_any t _ _ HSM.out.1 HSM.out.2 HTI.out).mono ?_
                              rintro e w11 ⟨rfl, hb11⟩
                              rw [(HPO.out.1 hgt).1]
                              replace q0 := cell_stays hb11 q0; replace q1 := cell_stays hb11 q1; replace q2 := cell_stays hb11 q2; replace q3 := cell_stays hb11 q3; replace q4 := cell_stays hb11 q4; replace q5 := cell_stays hb11 q5; replace q6 := cell_stays hb11 q6; replace q7 := cell_stays hb11 q7
                              replace q8 := cell_stays hb11 q8; replace q9 := cell_stays hb11 q9; replace q10 := cell_stays hb11 q10; replace q11 := cell_stays hb11 q11; replace q12 := cell_stays hb11 q12; replace q13 := cell_stays hb11 q13; replace q14 := cell_stays hb11 q14
                              replace c15 := cell_stays hb11 c15; replace c16 := cell_stays hb11 c16
                              replace HTI := Lib.hid (HTI.out.below hb11); replace HXC := Lib.hid (HXC.out.below hb11)
                              replace hb7 := hb7.trans (hb11.mono hb7.size)
                              clear hb11
                              go_wp2_with fail
                              refine (sound_any t _ _ HSM.out.1 HSM.out.2 HTI.out).mono ?_
                              rintro e w12 ⟨rfl, hb12⟩
                              rw [(HPO.out.1 hgt).2]
                              replace q0 := cell_stays hb12 q0; replace q1 := cell_stays hb12 q1; replace q2 := cell_stays hb12 q2; replace q3 := cell_stays hb12 q3; replace q4 := cell_stays hb12 q4; replace q5 := cell_stays hb12 q5; replace q6 := cell_stays hb12 q6; replace q7 := cell_stays hb12 q7
                              replace q8 := cell_stays hb12 q8; replace q9 := cell_stays hb12 q9; replace q10 := cell_stays hb12 q10; replace q11 := cell_stays hb12 q11; replace q12 := cell_stays hb12 q12; replace q13 := cell_stays hb12 q13; replace q14 := cell_stays hb12 q14
                              replace c15 := cell_stays hb12 c15; replace c16 := cell_stays hb12 c16
                              replace HTI := Lib.hid (HTI.out.below hb12); replace HXC := Lib.hid (HXC.out.below hb12)
                              replace hb7 := hb7.trans (hb12.mono hb7.size)
                              clear hb12
                              go_wp2_with fail
                              go_roundw
                              case rel => exact ⟨i + 1, by go_num, by omega, hb7⟩
                              case measure => simp [intOf]; omega
                            · have hx1 : decide ((4096 : Int) < bq) = false := decide_eq_false (by omega)
                              have hx2 : decide (4096 < bq) = false := decide_eq_false hgt
                              obtain ⟨sd, hsd⟩ : ∃ sd, sd = t.sound := ⟨_, rfl⟩
                              have HSD := Lib.hid hsd.symm
                              have HHQ : Hid (t.High = hq) := Lib.hid (HPO.out.2 (by omega)).1
                              have HDD : Hid (decide ((hq : Int) ≤ 128) = sd ∧ decide (hq ≤ 128) = sd) := Lib.hid (by
                                have := (HPO.out.2 (by omega)).2
                                rw [← hsd] at this
                                refine ⟨?_, this.symm⟩
                                rw [this]
                                by_cases h8 : hq ≤ 128
                                · rw [decide_eq_true h8, decide_eq_true (by omega)]
                                · rw [decide_eq_false h8, decide_eq_false (by omega)])
                              clear hsd
                              go_wp2_with fail
                              have HBV := Lib.hid (fun W (h : Below w10.drew.heap.size w10.drew W) => (Below.refl _ w10).drew.trans h)
                              try simp only [List.append_eq, List.cons_append, List.nil_append]
                              refine wp_region_allR (kindT [(214, .fixed (.pointer (some ⟨wr.heap.size, 0, none⟩))), (215, .fixed (TT.val t A)), (216, .fixed (.int .i64 hq)), (217, .fixed (.pointer (some ⟨wr.heap.size, 16, none⟩))), (218, .fixed (.int .i64 hq)), (219, .fixed (.bool false)), (220, .fixed (.bool false)), (221, .fixed (.pointer (some ⟨wr.heap.size, 0, none⟩))), (222, .fixed (TT.val t A)), (223, .fixed (.bool sd)), (224, .fixed (.pointer (some ⟨wr.heap.size, 16, none⟩))), (225, .fixed (.int .i64 hq)), (226, .fixed (.bool sd)), (227, .fixed (.bool false)), (228, .fixed (.bool false))]) 238 (by kernel_rfl) (by kernel_rfl) (by rfl) (kindT_mono _) ?_ ?_
                              · as_aux_lemma =>
                                show ∀ o ∈ [_, _, _, _, _, _, _, _, _, _, _, _, _, _, _], _
                                refine (tfm ?_ (tfm ?_ (tfm ?_ (tfm ?_ (tfm ?_ (tfm ?_ (tfm ?_ (tfm ?_ (tfm ?_ (tfm ?_ (tfm ?_ (tfm ?_ (tfm ?_ (tfm ?_ (tfm ?_ tfmnil)))))))))))))))
                                · intro r W hc hf hs hd hB
                                  have hBV := HBV.out W hB
                                  refine want_n rfl ?_
                                  have e21 : r (.tmp 21) = .pointer (some ⟨wr.heap.size, 0, none⟩) := hs 21 (of_decide_eq_true (by kernel_rfl))
                                  exact st_value (v := .pointer (some ⟨wr.heap.size, 0, none⟩)) rfl (by decide) (by go_simp) rfl
                                · intro r W hc hf hs hd hB
                                  have hBV := HBV.out W hB
                                  refine want_n rfl ?_
                                  have e214 : r (.tmp 214) = .pointer (some ⟨wr.heap.size, 0, none⟩) := hd 214 (by kernel_rfl)
                                  exact st_value (v := TT.val t A) rfl (by decide) (run_load15 (HXC.out.below hBV) rfl e214) rfl
                                · intro r W hc hf hs hd hB
                                  have hBV := HBV.out W hB
                                  refine want_n rfl ?_
                                  have e215 : r (.tmp 215) = TT.val t A := hd 215 (by kernel_rfl)
                                  exact st_call (f := 19) (args := #[TT.val t A]) rfl (by decide) (by go_simp) (made_fix (by rw [HHQ.out]) (thigh_any _ _ _ HSM.out.1 HSM.out.2 (HTI.out.below hBV)))
                                · intro r W hc hf hs hd hB
                                  have hBV := HBV.out W hB
                                  refine want_n rfl ?_
                                  have e21 : r (.tmp 21) = .pointer (some ⟨wr.heap.size, 0, none⟩) := hs 21 (of_decide_eq_true (by kernel_rfl))
                                  exact st_value (v := .pointer (some ⟨wr.heap.size, 16, none⟩)) rfl (by decide) (by go_simp) rfl
                                · intro r W hc hf hs hd hB
                                  have hBV := HBV.out W hB
                                  refine want_n rfl ?_
                                  have e217 : r (.tmp 217) = .pointer (some ⟨wr.heap.size, 16, none⟩) := hd 217 (by kernel_rfl)
                                  have cc := cell_stays hBV c16
                                  exact st_value (v := .int .i64 hq) rfl (by decide) (by go_simp) rfl
                                · intro r W hc hf hs hd hB
                                  have hBV := HBV.out W hB
                                  refine want_n rfl ?_
                                  have e216 : r (.tmp 216) = .int .i64 hq := hd 216 (by kernel_rfl)
                                  have e218 : r (.tmp 218) = .int .i64 hq := hd 218 (by kernel_rfl)
                                  exact st_value (v := .bool false) rfl (by decide) (by go_simp) rfl
                                · intro r W hc hf hs hd hB
                                  have hBV := HBV.out W hB
                                  refine want_n rfl ?_
                                  have e219 : r (.tmp 219) = .bool false := hd 219 (by kernel_rfl)
                                  exact st_value (v := .bool false) rfl (by decide) (by go_simp) rfl
                                · intro r W hc hf hs hd hB
                                  have hBV := HBV.out W hB
                                  refine want_g 6 220 rfl (by kernel_rfl) (hd 220 (by kernel_rfl) : r (.tmp 220) = .bool false) ?_
                                  have e21 : r (.tmp 21) = .pointer (some ⟨wr.heap.size, 0, none⟩) := hs 21 (of_decide_eq_true (by kernel_rfl))
                                  exact st_value (v := .pointer (some ⟨wr.heap.size, 0, none⟩)) rfl (by decide) (by go_simp) rfl
                                · intro r W hc hf hs hd hB
                                  have hBV := HBV.out W hB
                                  refine want_g 6 220 rfl (by kernel_rfl) (hd 220 (by kernel_rfl) : r (.tmp 220) = .bool false) ?_
                                  have e221 : r (.tmp 221) = .pointer (some ⟨wr.heap.size, 0, none⟩) := hd 221 (by kernel_rfl)
                                  exact st_value (v := TT.val t A) rfl (by decide) (run_load15 (HXC.out.below hBV) rfl e221) rfl
                                · intro r W hc hf hs hd hB
                                  have hBV := HBV.out W hB
                                  refine want_g 6 220 rfl (by kernel_rfl) (hd 220 (by kernel_rfl) : r (.tmp 220) = .bool false) ?_
                                  have e222 : r (.tmp 222) = TT.val t A := hd 222 (by kernel_rfl)
                                  exact st_call (f := 33) (args := #[TT.val t A]) rfl (by decide) (by go_simp) (made_fix (by rw [HSD.out]) (sound_any _ _ _ HSM.out.1 HSM.out.2 (HTI.out.below hBV)))
                                · intro r W hc hf hs hd hB
                                  have hBV := HBV.out W hB
                                  refine want_g 6 220 rfl (by kernel_rfl) (hd 220 (by kernel_rfl) : r (.tmp 220) = .bool false) ?_
                                  have e21 : r (.tmp 21) = .pointer (some ⟨wr.heap.size, 0, none⟩) := hs 21 (of_decide_eq_true (by kernel_rfl))
                                  exact st_value (v := .pointer (some ⟨wr.heap.size, 16, none⟩)) rfl (by decide) (by go_simp) rfl
                                · intro r W hc hf hs hd hB
                                  have hBV := HBV.out W hB
                                  refine want_g 6 220 rfl (by kernel_rfl) (hd 220 (by kernel_rfl) : r (.tmp 220) = .bool false) ?_
                                  have e224 : r (.tmp 224) = .pointer (some ⟨wr.heap.size, 16, none⟩) := hd 224 (by kernel_rfl)
                                  have cc := cell_stays hBV c16
                                  exact st_value (v := .int .i64 hq) rfl (by decide) (by go_simp) rfl
                                · intro r W hc hf hs hd hB
                                  have hBV := HBV.out W hB
                                  refine want_g 6 220 rfl (by kernel_rfl) (hd 220 (by kernel_rfl) : r (.tmp 220) = .bool false) ?_
                                  have e225 : r (.tmp 225) = .int .i64 hq := hd 225 (by kernel_rfl)
                                  have hdd := HDD.out.1
                                  have hdd2 := HDD.out.2
                                  exact st_value (v := .bool sd) rfl (by decide) (by go_simp) rfl
                                · intro r W hc hf hs hd hB
                                  have hBV := HBV.out W hB
                                  refine want_g 6 220 rfl (by kernel_rfl) (hd 220 (by kernel_rfl) : r (.tmp 220) = .bool false) ?_
                                  have e223 : r (.tmp 223) = .bool sd := hd 223 (by kernel_rfl)
                                  have e226 : r (.tmp 226) = .bool sd := hd 226 (by kernel_rfl)
                                  exact st_value (v := .bool false) rfl (by decide) (by go_simp) rfl
                                · intro r W hc hf hs hd hB
                                  have hBV := HBV.out W hB
                                  refine want_n rfl ?_
                                  have e220 : r (.tmp 220) = .bool false := hd 220 (by kernel_rfl)
                                  have e227 : r (.tmp 227) = .bool false := hd 227 (by kernel_rfl)
                                  exact st_value (v := .bool false) rfl (by decide) (by go_simp) rfl
                              intro f w13 hfd hB'
                              have z214 : f 214 = .pointer (some ⟨wr.heap.size, 0, none⟩) := hfd 214 (of_decide_eq_true (by kernel_rfl))
                              have z215 : f 215 = TT.val t A := hfd 215 (of_decide_eq_true (by kernel_rfl))
                              have z216 : f 216 = .int .i64 hq := hfd 216 (of_decide_eq_true (by kernel_rfl))
                              have z217 : f 217 = .pointer (some ⟨wr.heap.size, 16, none⟩) := hfd 217 (of_decide_eq_true (by kernel_rfl))
                              have z218 : f 218 = .int .i64 hq := hfd 218 (of_decide_eq_true (by kernel_rfl))
                              have z219 : f 219 = .bool false := hfd 219 (of_decide_eq_true (by kernel_rfl))
                              have z220 : f 220 = .bool false := hfd 220 (of_decide_eq_true (by kernel_rfl))
                              have z221 : f 221 = .pointer (some ⟨wr.heap.size, 0, none⟩) := hfd 221 (of_decide_eq_true (by kernel_rfl))
                              have z222 : f 222 = TT.val t A := hfd 222 (of_decide_eq_true (by kernel_rfl))
                              have z223 : f 223 = .bool sd := hfd 223 (of_decide_eq_true (by kernel_rfl))
                              have z224 : f 224 = .pointer (some ⟨wr.heap.size, 16, none⟩) := hfd 224 (of_decide_eq_true (by kernel_rfl))
                              have z225 : f 225 = .int .i64 hq := hfd 225 (of_decide_eq_true (by kernel_rfl))
                              have z226 : f 226 = .bool sd := hfd 226 (of_decide_eq_true (by kernel_rfl))
                              have z227 : f 227 = .bool false := hfd 227 (of_decide_eq_true (by kernel_rfl))
                              have z228 : f 228 = .bool false := hfd 228 (of_decide_eq_true (by kernel_rfl))
                              have hb_w13 := HBV.out w13 hB'
                              rw [show dstsTo _ _ = [214, 215, 216, 217, 218, 219, 220, 221, 222, 223, 224, 225, 226, 227, 228] from by kernel_rfl]
                              simp only [fill, Act.put, List.setIfInBounds_toArray, List.set_cons_succ, List.set_cons_zero, z214, z215, z216, z217, z218, z219, z220, z221, z222, z223, z224, z225, z226, z227, z228]
                              clear hfd hB' z214 z215 z216 z217 z218 z219 z220 z221 z222 z223 z224 z225 z226 z227 z228 HBV
                              clear hx1 hx2
                              replace q0 := cell_stays hb_w13 q0; replace q1 := cell_stays hb_w13 q1; replace q2 := cell_stays hb_w13 q2; replace q3 := cell_stays hb_w13 q3; replace q4 := cell_stays hb_w13 q4; replace q5 := cell_stays hb_w13 q5; replace q6 := cell_stays hb_w13 q6; replace q7 := cell_stays hb_w13 q7
                              replace q8 := cell_stays hb_w13 q8; replace q9 := cell_stays hb_w13 q9; replace q10 := cell_stays hb_w13 q10; replace q11 := cell_stays hb_w13 q11; replace q12 := cell_stays hb_w13 q12; replace q13 := cell_stays hb_w13 q13; replace q14 := cell_stays hb_w13 q14
                              replace c15 := cell_stays hb_w13 c15; replace c16 := cell_stays hb_w13 c16
                              replace HTI := Lib.hid (HTI.out.below hb_w13); replace HXC := Lib.hid (HXC.out.below hb_w13)
                              replace hb7 := hb7.trans (hb_w13.mono hb7.size)
                              clear hb_w13
                              go_wp2_with fail
                              go_roundw
                              case rel => exact ⟨i + 1, by go_num, by omega, hb7⟩
                              case measure => simp [intOf]; omega
                          · have hd6 : decide (to = 0) = false := decide_eq_false hto0
                            have hd7 : (to == 0) = false := by simp [hto0]
                            have HTO0 := Lib.hid hto0
                            clear hto0
                            have HPO : Hid ((4096 < bq → t.High = 0 ∧ t.sound = false) ∧ (bq ≤ 4096 → t.High = hq ∧ t.sound = decide (hq ≤ 128))) := Lib.hid (by have h := HPT.out.2; rw [if_neg (fun e => HTO0.out e.2)] at h; exact h)
                            clear HPT
                            go_wp2_with fail
                            clear hd1 hd2 hd3 hd4 hd5 hd6 hd7
                            as_aux_lemma =>
                            rename World => wS
                            have HBV := Lib.hid (fun W (h : Below wS.drew.heap.size wS.drew W) => (Below.refl _ wS).drew.trans h)
                            try simp only [List.append_eq, List.cons_append, List.nil_append]
                            refine wp_region_allR (kindT [(195, .fixed (.pointer (some ⟨wr.heap.size, 0, none⟩))), (196, .fixed (TT.val t A)), (197, .fixed (.int .i64 mn)), (198, .fixed (.pointer (some ⟨wr.heap.size, 15, none⟩))), (199, .fixed (.int .i64 bq)), (200, .fixed (.int .i64 mn)), (201, .fixed (.bool false))]) 238 (by kernel_rfl) (by kernel_rfl) (by rfl) (kindT_mono _) ?_ ?_
                            · as_aux_lemma =>
                              show ∀ o ∈ [_, _, _, _, _, _, _], _
                              refine (tfm ?_ (tfm ?_ (tfm ?_ (tfm ?_ (tfm ?_ (tfm ?_ (tfm ?_ tfmnil)))))))
                              · intro r W hc hf hs hd hB
                                have hBV := HBV.out W hB
                                refine want_n rfl ?_
                                have e21 : r (.tmp 21) = .pointer (some ⟨wr.heap.size, 0, none⟩) := hs 21 (of_decide_eq_true (by kernel_rfl))
                                exact st_value (v := .pointer (some ⟨wr.heap.size, 0, none⟩)) rfl (by decide) (by go_simp) rfl
                              · intro r W hc hf hs hd hB
                                have hBV := HBV.out W hB
                                refine want_n rfl ?_
                                have e195 : r (.tmp 195) = .pointer (some ⟨wr.heap.size, 0, none⟩) := hd 195 (by kernel_rfl)
                                exact st_value (v := TT.val t A) rfl (by decide) (run_load15 (HXC.out.below hBV) rfl e195) rfl
                              · intro r W hc hf hs hd hB
                                have hBV := HBV.out W hB
                                refine want_n rfl ?_
                                have e196 : r (.tmp 196) = TT.val t A := hd 196 (by kernel_rfl)
                                exact st_call (f := 17) (args := #[TT.val t A]) rfl (by decide) (by go_simp) (made_fix (by rw [HMN.out.1]) (tbulk_any _ _ _ HSM.out.1 HSM.out.2 (HTI.out.below hBV)))
                              · intro r W hc hf hs hd hB
                                have hBV := HBV.out W hB
                                refine want_n rfl ?_
                                have e21 : r (.tmp 21) = .pointer (some ⟨wr.heap.size, 0, none⟩) := hs 21 (of_decide_eq_true (by kernel_rfl))
                                exact st_value (v := .pointer (some ⟨wr.heap.size, 15, none⟩)) rfl (by decide) (by go_simp) rfl
                              · intro r W hc hf hs hd hB
                                have hBV := HBV.out W hB
                                refine want_n rfl ?_
                                have e198 : r (.tmp 198) = .pointer (some ⟨wr.heap.size, 15, none⟩) := hd 198 (by kernel_rfl)
                                have cc := cell_stays hBV c15
                                exact st_value (v := .int .i64 bq) rfl (by decide) (by go_simp) rfl
                              · intro r W hc hf hs hd hB
                                have hBV := HBV.out W hB
                                refine want_n rfl ?_
                                have e199 : r (.tmp 199) = .int .i64 bq := hd 199 (by kernel_rfl)
                                by_cases hx : (4097 : Int) < bq
                                · have hm2 : (mn : Int) = 4097 := by have := HMN.out.2; omega
                                  have hx2 : decide ((4097 : Int) < bq) = true := decide_eq_true hx
                                  exact st_value (v := .int .i64 mn) rfl (by decide) (by rw [hm2]; clear hm2; go_simp) rfl
                                · have hm2 : (mn : Int) = bq := by have := HMN.out.2; omega
                                  have hx2 : decide ((4097 : Int) < bq) = false := decide_eq_false hx
                                  exact st_value (v := .int .i64 mn) rfl (by decide) (by rw [hm2]; clear hm2; go_simp) rfl
                              · intro r W hc hf hs hd hB
                                have hBV := HBV.out W hB
                                refine want_n rfl ?_
                                have e197 : r (.tmp 197) = .int .i64 mn := hd 197 (by kernel_rfl)
                                have e200 : r (.tmp 200) = .int .i64 mn := hd 200 (by kernel_rfl)
                                exact st_value (v := .bool false) rfl (by decide) (by go_simp) rfl
                            intro f w10 hfd hB'
                            have z195 : f 195 = .pointer (some ⟨wr.heap.size, 0, none⟩) := hfd 195 (of_decide_eq_true (by kernel_rfl))
                            have z196 : f 196 = TT.val t A := hfd 196 (of_decide_eq_true (by kernel_rfl))
                            have z197 : f 197 = .int .i64 mn := hfd 197 (of_decide_eq_true (by kernel_rfl))
                            have z198 : f 198 = .pointer (some ⟨wr.heap.size, 15, none⟩) := hfd 198 (of_decide_eq_true (by kernel_rfl))
                            have z199 : f 199 = .int .i64 bq := hfd 199 (of_decide_eq_true (by kernel_rfl))
                            have z200 : f 200 = .int .i64 mn := hfd 200 (of_decide_eq_true (by kernel_rfl))
                            have z201 : f 201 = .bool false := hfd 201 (of_decide_eq_true (by kernel_rfl))
                            have hb_w10 := HBV.out w10 hB'
                            rw [show dstsTo _ _ = [195, 196, 197, 198, 199, 200, 201] from by kernel_rfl]
                            simp only [fill, Act.put, List.setIfInBounds_toArray, List.set_cons_succ, List.set_cons_zero, z195, z196, z197, z198, z199, z200, z201]
                            clear hfd hB' z195 z196 z197 z198 z199 z200 z201 HBV
                            
                            replace q0 := cell_stays hb_w10 q0; replace q1 := cell_stays hb_w10 q1; replace q2 := cell_stays hb_w10 q2; replace q3 := cell_stays hb_w10 q3; replace q4 := cell_stays hb_w10 q4; replace q5 := cell_stays hb_w10 q5; replace q6 := cell_stays hb_w10 q6; replace q7 := cell_stays hb_w10 q7
                            replace q8 := cell_stays hb_w10 q8; replace q9 := cell_stays hb_w10 q9; replace q10 := cell_stays hb_w10 q10; replace q11 := cell_stays hb_w10 q11; replace q12 := cell_stays hb_w10 q12; replace q13 := cell_stays hb_w10 q13; replace q14 := cell_stays hb_w10 q14
                            replace c15 := cell_stays hb_w10 c15; replace c16 := cell_stays hb_w10 c16
                            replace HTI := Lib.hid (HTI.out.below hb_w10); replace HXC := Lib.hid (HXC.out.below hb_w10)
                            replace hb7 := hb7.trans (hb_w10.mono hb7.size)
                            clear hb_w10
                            by_cases hgt : 4096 < bq
                            · have hx1 : decide ((4096 : Int) < bq) = true := decide_eq_true (by omega)
                              have hx2 : decide (4096 < bq) = true := decide_eq_true hgt
                              go_wp2_with fail
                              refine (thigh_any t _ _ HSM.out.1 HSM.out.2 HTI.out).mono ?_
                              rintro e w11 ⟨rfl, hb11⟩
                              rw [(HPO.out.1 hgt).1]
                              replace q0 := cell_stays hb11 q0; replace q1 := cell_stays hb11 q1; replace q2 := cell_stays hb11 q2; replace q3 := cell_stays hb11 q3; replace q4 := cell_stays hb11 q4; replace q5 := cell_stays hb11 q5; replace q6 := cell_stays hb11 q6; replace q7 := cell_stays hb11 q7
                              replace q8 := cell_stays hb11 q8; replace q9 := cell_stays hb11 q9; replace q10 := cell_stays hb11 q10; replace q11 := cell_stays hb11 q11; replace q12 := cell_stays hb11 q12; replace q13 := cell_stays hb11 q13; replace q14 := cell_stays hb11 q14
                              replace c15 := cell_stays hb11 c15; replace c16 := cell_stays hb11 c16
                              replace HTI := Lib.hid (HTI.out.below hb11); replace HXC := Lib.hid (HXC.out.below hb11)
                              replace hb7 := hb7.trans (hb11.mono hb7.size)
                              clear hb11
                              go_wp2_with fail
                              refine (sound_any t _ _ HSM.out.1 HSM.out.2 HTI.out).mono ?_
                              rintro e w12 ⟨rfl, hb12⟩
                              rw [(HPO.out.1 hgt).2]
                              replace q0 := cell_stays hb12 q0; replace q1 := cell_stays hb12 q1; replace q2 := cell_stays hb12 q2; replace q3 := cell_stays hb12 q3; replace q4 := cell_stays hb12 q4; replace q5 := cell_stays hb12 q5; replace q6 := cell_stays hb12 q6; replace q7 := cell_stays hb12 q7
                              replace q8 := cell_stays hb12 q8; replace q9 := cell_stays hb12 q9; replace q10 := cell_stays hb12 q10; replace q11 := cell_stays hb12 q11; replace q12 := cell_stays hb12 q12; replace q13 := cell_stays hb12 q13; replace q14 := cell_stays hb12 q14
                              replace c15 := cell_stays hb12 c15; replace c16 := cell_stays hb12 c16
                              replace HTI := Lib.hid (HTI.out.below hb12); replace HXC := Lib.hid (HXC.out.below hb12)
                              replace hb7 := hb7.trans (hb12.mono hb7.size)
                              clear hb12
                              go_wp2_with fail
                              go_roundw
                              case rel => exact ⟨i + 1, by go_num, by omega, hb7⟩
                              case measure => simp [intOf]; omega
                            · have hx1 : decide ((4096 : Int) < bq) = false := decide_eq_false (by omega)
                              have hx2 : decide (4096 < bq) = false := decide_eq_false hgt
                              obtain ⟨sd, hsd⟩ : ∃ sd, sd = t.sound := ⟨_, rfl⟩
                              have HSD := Lib.hid hsd.symm
                              have HHQ : Hid (t.High = hq) := Lib.hid (HPO.out.2 (by omega)).1
                              have HDD : Hid (decide ((hq : Int) ≤ 128) = sd ∧ decide (hq ≤ 128) = sd) := Lib.hid (by
                                have := (HPO.out.2 (by omega)).2
                                rw [← hsd] at this
                                refine ⟨?_, this.symm⟩
                                rw [this]
                                by_cases h8 : hq ≤ 128
                                · rw [decide_eq_true h8, decide_eq_true (by omega)]
                                · rw [decide_eq_false h8, decide_eq_false (by omega)])
                              clear hsd
                              go_wp2_with fail
                              have HBV := Lib.hid (fun W (h : Below w10.drew.heap.size w10.drew W) => (Below.refl _ w10).drew.trans h)
                              try simp only [List.append_eq, List.cons_append, List.nil_append]
                              refine wp_region_allR (kindT [(214, .fixed (.pointer (some ⟨wr.heap.size, 0, none⟩))), (215, .fixed (TT.val t A)), (216, .fixed (.int .i64 hq)), (217, .fixed (.pointer (some ⟨wr.heap.size, 16, none⟩))), (218, .fixed (.int .i64 hq)), (219, .fixed (.bool false)), (220, .fixed (.bool false)), (221, .fixed (.pointer (some ⟨wr.heap.size, 0, none⟩))), (222, .fixed (TT.val t A)), (223, .fixed (.bool sd)), (224, .fixed (.pointer (some ⟨wr.heap.size, 16, none⟩))), (225, .fixed (.int .i64 hq)), (226, .fixed (.bool sd)), (227, .fixed (.bool false)), (228, .fixed (.bool false))]) 238 (by kernel_rfl) (by kernel_rfl) (by rfl) (kindT_mono _) ?_ ?_
                              · as_aux_lemma =>
                                show ∀ o ∈ [_, _, _, _, _, _, _, _, _, _, _, _, _, _, _], _
                                refine (tfm ?_ (tfm ?_ (tfm ?_ (tfm ?_ (tfm ?_ (tfm ?_ (tfm ?_ (tfm ?_ (tfm ?_ (tfm ?_ (tfm ?_ (tfm ?_ (tfm ?_ (tfm ?_ (tfm ?_ tfmnil)))))))))))))))
                                · intro r W hc hf hs hd hB
                                  have hBV := HBV.out W hB
                                  refine want_n rfl ?_
                                  have e21 : r (.tmp 21) = .pointer (some ⟨wr.heap.size, 0, none⟩) := hs 21 (of_decide_eq_true (by kernel_rfl))
                                  exact st_value (v := .pointer (some ⟨wr.heap.size, 0, none⟩)) rfl (by decide) (by go_simp) rfl
                                · intro r W hc hf hs hd hB
                                  have hBV := HBV.out W hB
                                  refine want_n rfl ?_
                                  have e214 : r (.tmp 214) = .pointer (some ⟨wr.heap.size, 0, none⟩) := hd 214 (by kernel_rfl)
                                  exact st_value (v := TT.val t A) rfl (by decide) (run_load15 (HXC.out.below hBV) rfl e214) rfl
                                · intro r W hc hf hs hd hB
                                  have hBV := HBV.out W hB
                                  refine want_n rfl ?_
                                  have e215 : r (.tmp 215) = TT.val t A := hd 215 (by kernel_rfl)
                                  exact st_call (f := 19) (args := #[TT.val t A]) rfl (by decide) (by go_simp) (made_fix (by rw [HHQ.out]) (thigh_any _ _ _ HSM.out.1 HSM.out.2 (HTI.out.below hBV)))
                                · intro r W hc hf hs hd hB
                                  have hBV := HBV.out W hB
                                  refine want_n rfl ?_
                                  have e21 : r (.tmp 21) = .pointer (some ⟨wr.heap.size, 0, none⟩) := hs 21 (of_decide_eq_true (by kernel_rfl))
                                  exact st_value (v := .pointer (some ⟨wr.heap.size, 16, none⟩)) rfl (by decide) (by go_simp) rfl
                                · intro r W hc hf hs hd hB
                                  have hBV := HBV.out W hB
                                  refine want_n rfl ?_
                                  have e217 : r (.tmp 217) = .pointer (some ⟨wr.heap.size, 16, none⟩) := hd 217 (by kernel_rfl)
                                  have cc := cell_stays hBV c16
                                  exact st_value (v := .int .i64 hq) rfl (by decide) (by go_simp) rfl
                                · intro r W hc hf hs hd hB
                                  have hBV := HBV.out W hB
                                  refine want_n rfl ?_
                                  have e216 : r (.tmp 216) = .int .i64 hq := hd 216 (by kernel_rfl)
                                  have e218 : r (.tmp 218) = .int .i64 hq := hd 218 (by kernel_rfl)
                                  exact st_value (v := .bool false) rfl (by decide) (by go_simp) rfl
                                · intro r W hc hf hs hd hB
                                  have hBV := HBV.out W hB
                                  refine want_n rfl ?_
                                  have e219 : r (.tmp 219) = .bool false := hd 219 (by kernel_rfl)
                                  exact st_value (v := .bool false) rfl (by decide) (by go_simp) rfl
                                · intro r W hc hf hs hd hB
                                  have hBV := HBV.out W hB
                                  refine want_g 6 220 rfl (by kernel_rfl) (hd 220 (by kernel_rfl) : r (.tmp 220) = .bool false) ?_
                                  have e21 : r (.tmp 21) = .pointer (some ⟨wr.heap.size, 0, none⟩) := hs 21 (of_decide_eq_true (by kernel_rfl))
                                  exact st_value (v := .pointer (some ⟨wr.heap.size, 0, none⟩)) rfl (by decide) (by go_simp) rfl
                                · intro r W hc hf hs hd hB
                                  have hBV := HBV.out W hB
                                  refine want_g 6 220 rfl (by kernel_rfl) (hd 220 (by kernel_rfl) : r (.tmp 220) = .bool false) ?_
                                  have e221 : r (.tmp 221) = .pointer (some ⟨wr.heap.size, 0, none⟩) := hd 221 (by kernel_rfl)
                                  exact st_value (v := TT.val t A) rfl (by decide) (run_load15 (HXC.out.below hBV) rfl e221) rfl
                                · intro r W hc hf hs hd hB
                                  have hBV := HBV.out W hB
                                  refine want_g 6 220 rfl (by kernel_rfl) (hd 220 (by kernel_rfl) : r (.tmp 220) = .bool false) ?_
                                  have e222 : r (.tmp 222) = TT.val t A := hd 222 (by kernel_rfl)
                                  exact st_call (f := 33) (args := #[TT.val t A]) rfl (by decide) (by go_simp) (made_fix (by rw [HSD.out]) (sound_any _ _ _ HSM.out.1 HSM.out.2 (HTI.out.below hBV)))
                                · intro r W hc hf hs hd hB
                                  have hBV := HBV.out W hB
                                  refine want_g 6 220 rfl (by kernel_rfl) (hd 220 (by kernel_rfl) : r (.tmp 220) = .bool false) ?_
                                  have e21 : r (.tmp 21) = .pointer (some ⟨wr.heap.size, 0, none⟩) := hs 21 (of_decide_eq_true (by kernel_rfl))
                                  exact st_value (v := .pointer (some ⟨wr.heap.size, 16, none⟩)) rfl (by decide) (by go_simp) rfl
                                · intro r W hc hf hs hd hB
                                  have hBV := HBV.out W hB
                                  refine want_g 6 220 rfl (by kernel_rfl) (hd 220 (by kernel_rfl) : r (.tmp 220) = .bool false) ?_
                                  have e224 : r (.tmp 224) = .pointer (some ⟨wr.heap.size, 16, none⟩) := hd 224 (by kernel_rfl)
                                  have cc := cell_stays hBV c16
                                  exact st_value (v := .int .i64 hq) rfl (by decide) (by go_simp) rfl
                                · intro r W hc hf hs hd hB
                                  have hBV := HBV.out W hB
                                  refine want_g 6 220 rfl (by kernel_rfl) (hd 220 (by kernel_rfl) : r (.tmp 220) = .bool false) ?_
                                  have e225 : r (.tmp 225) = .int .i64 hq := hd 225 (by kernel_rfl)
                                  have hdd := HDD.out.1
                                  have hdd2 := HDD.out.2
                                  exact st_value (v := .bool sd) rfl (by decide) (by go_simp) rfl
                                · intro r W hc hf hs hd hB
                                  have hBV := HBV.out W hB
                                  refine want_g 6 220 rfl (by kernel_rfl) (hd 220 (by kernel_rfl) : r (.tmp 220) = .bool false) ?_
                                  have e223 : r (.tmp 223) = .bool sd := hd 223 (by kernel_rfl)
                                  have e226 : r (.tmp 226) = .bool sd := hd 226 (by kernel_rfl)
                                  exact st_value (v := .bool false) rfl (by decide) (by go_simp) rfl
                                · intro r W hc hf hs hd hB
                                  have hBV := HBV.out W hB
                                  refine want_n rfl ?_
                                  have e220 : r (.tmp 220) = .bool false := hd 220 (by kernel_rfl)
                                  have e227 : r (.tmp 227) = .bool false := hd 227 (by kernel_rfl)
                                  exact st_value (v := .bool false) rfl (by decide) (by go_simp) rfl
                              intro f w13 hfd hB'
                              have z214 : f 214 = .pointer (some ⟨wr.heap.size, 0, none⟩) := hfd 214 (of_decide_eq_true (by kernel_rfl))
                              have z215 : f 215 = TT.val t A := hfd 215 (of_decide_eq_true (by kernel_rfl))
                              have z216 : f 216 = .int .i64 hq := hfd 216 (of_decide_eq_true (by kernel_rfl))
                              have z217 : f 217 = .pointer (some ⟨wr.heap.size, 16, none⟩) := hfd 217 (of_decide_eq_true (by kernel_rfl))
                              have z218 : f 218 = .int .i64 hq := hfd 218 (of_decide_eq_true (by kernel_rfl))
                              have z219 : f 219 = .bool false := hfd 219 (of_decide_eq_true (by kernel_rfl))
                              have z220 : f 220 = .bool false := hfd 220 (of_decide_eq_true (by kernel_rfl))
                              have z221 : f 221 = .pointer (some ⟨wr.heap.size, 0, none⟩) := hfd 221 (of_decide_eq_true (by kernel_rfl))
                              have z222 : f 222 = TT.val t A := hfd 222 (of_decide_eq_true (by kernel_rfl))
                              have z223 : f 223 = .bool sd := hfd 223 (of_decide_eq_true (by kernel_rfl))
                              have z224 : f 224 = .pointer (some ⟨wr.heap.size, 16, none⟩) := hfd 224 (of_decide_eq_true (by kernel_rfl))
                              have z225 : f 225 = .int .i64 hq := hfd 225 (of_decide_eq_true (by kernel_rfl))
                              have z226 : f 226 = .bool sd := hfd 226 (of_decide_eq_true (by kernel_rfl))
                              have z227 : f 227 = .bool false := hfd 227 (of_decide_eq_true (by kernel_rfl))
                              have z228 : f 228 = .bool false := hfd 228 (of_decide_eq_true (by kernel_rfl))
                              have hb_w13 := HBV.out w13 hB'
                              rw [show dstsTo _ _ = [214, 215, 216, 217, 218, 219, 220, 221, 222, 223, 224, 225, 226, 227, 228] from by kernel_rfl]
                              simp only [fill, Act.put, List.setIfInBounds_toArray, List.set_cons_succ, List.set_cons_zero, z214, z215, z216, z217, z218, z219, z220, z221, z222, z223, z224, z225, z226, z227, z228]
                              clear hfd hB' z214 z215 z216 z217 z218 z219 z220 z221 z222 z223 z224 z225 z226 z227 z228 HBV
                              clear hx1 hx2
                              replace q0 := cell_stays hb_w13 q0; replace q1 := cell_stays hb_w13 q1; replace q2 := cell_stays hb_w13 q2; replace q3 := cell_stays hb_w13 q3; replace q4 := cell_stays hb_w13 q4; replace q5 := cell_stays hb_w13 q5; replace q6 := cell_stays hb_w13 q6; replace q7 := cell_stays hb_w13 q7
                              replace q8 := cell_stays hb_w13 q8; replace q9 := cell_stays hb_w13 q9; replace q10 := cell_stays hb_w13 q10; replace q11 := cell_stays hb_w13 q11; replace q12 := cell_stays hb_w13 q12; replace q13 := cell_stays hb_w13 q13; replace q14 := cell_stays hb_w13 q14
                              replace c15 := cell_stays hb_w13 c15; replace c16 := cell_stays hb_w13 c16
                              replace HTI := Lib.hid (HTI.out.below hb_w13); replace HXC := Lib.hid (HXC.out.below hb_w13)
                              replace hb7 := hb7.trans (hb_w13.mono hb7.size)
                              clear hb_w13
                              go_wp2_with fail
                              go_roundw
                              case rel => exact ⟨i + 1, by go_num, by omega, hb7⟩
                              case measure => simp [intOf]; omega
                        · have hd4 : decide (t.kind = 6) = false := decide_eq_false hk6
                          have hd5 : (t.kind == 6) = false := by simp [hk6]
                          have HK6 := Lib.hid hk6
                          clear hk6
                          have HPO : Hid ((4096 < bq → t.High = 0 ∧ t.sound = false) ∧ (bq ≤ 4096 → t.High = hq ∧ t.sound = decide (hq ≤ 128))) := Lib.hid (by have h := HPT.out.2; rw [if_neg (fun e => HK6.out e.1)] at h; exact h)
                          clear HPT
                          go_wp2_with fail
                          clear hd1 hd2 hd3 hd4 hd5
                          as_aux_lemma =>
                          rename World => wS
                          have HBV := Lib.hid (fun W (h : Below wS.drew.heap.size wS.drew W) => (Below.refl _ wS).drew.trans h)
                          try simp only [List.append_eq, List.cons_append, List.nil_append]
                          refine wp_region_allR (kindT [(195, .fixed (.pointer (some ⟨wr.heap.size, 0, none⟩))), (196, .fixed (TT.val t A)), (197, .fixed (.int .i64 mn)), (198, .fixed (.pointer (some ⟨wr.heap.size, 15, none⟩))), (199, .fixed (.int .i64 bq)), (200, .fixed (.int .i64 mn)), (201, .fixed (.bool false))]) 238 (by kernel_rfl) (by kernel_rfl) (by rfl) (kindT_mono _) ?_ ?_
                          · as_aux_lemma =>
                            show ∀ o ∈ [_, _, _, _, _, _, _], _
                            refine (tfm ?_ (tfm ?_ (tfm ?_ (tfm ?_ (tfm ?_ (tfm ?_ (tfm ?_ tfmnil)))))))
                            · intro r W hc hf hs hd hB
                              have hBV := HBV.out W hB
                              refine want_n rfl ?_
                              have e21 : r (.tmp 21) = .pointer (some ⟨wr.heap.size, 0, none⟩) := hs 21 (of_decide_eq_true (by kernel_rfl))
                              exact st_value (v := .pointer (some ⟨wr.heap.size, 0, none⟩)) rfl (by decide) (by go_simp) rfl
                            · intro r W hc hf hs hd hB
                              have hBV := HBV.out W hB
                              refine want_n rfl ?_
                              have e195 : r (.tmp 195) = .pointer (some ⟨wr.heap.size, 0, none⟩) := hd 195 (by kernel_rfl)
                              exact st_value (v := TT.val t A) rfl (by decide) (run_load15 (HXC.out.below hBV) rfl e195) rfl
                            · intro r W hc hf hs hd hB
                              have hBV := HBV.out W hB
                              refine want_n rfl ?_
                              have e196 : r (.tmp 196) = TT.val t A := hd 196 (by kernel_rfl)
                              exact st_call (f := 17) (args := #[TT.val t A]) rfl (by decide) (by go_simp) (made_fix (by rw [HMN.out.1]) (tbulk_any _ _ _ HSM.out.1 HSM.out.2 (HTI.out.below hBV)))
                            · intro r W hc hf hs hd hB
                              have hBV := HBV.out W hB
                              refine want_n rfl ?_
                              have e21 : r (.tmp 21) = .pointer (some ⟨wr.heap.size, 0, none⟩) := hs 21 (of_decide_eq_true (by kernel_rfl))
                              exact st_value (v := .pointer (some ⟨wr.heap.size, 15, none⟩)) rfl (by decide) (by go_simp) rfl
                            · intro r W hc hf hs hd hB
                              have hBV := HBV.out W hB
                              refine want_n rfl ?_
                              have e198 : r (.tmp 198) = .pointer (some ⟨wr.heap.size, 15, none⟩) := hd 198 (by kernel_rfl)
                              have cc := cell_stays hBV c15
                              exact st_value (v := .int .i64 bq) rfl (by decide) (by go_simp) rfl
                            · intro r W hc hf hs hd hB
                              have hBV := HBV.out W hB
                              refine want_n rfl ?_
                              have e199 : r (.tmp 199) = .int .i64 bq := hd 199 (by kernel_rfl)
                              by_cases hx : (4097 : Int) < bq
                              · have hm2 : (mn : Int) = 4097 := by have := HMN.out.2; omega
                                have hx2 : decide ((4097 : Int) < bq) = true := decide_eq_true hx
                                exact st_value (v := .int .i64 mn) rfl (by decide) (by rw [hm2]; clear hm2; go_simp) rfl
                              · have hm2 : (mn : Int) = bq := by have := HMN.out.2; omega
                                have hx2 : decide ((4097 : Int) < bq) = false := decide_eq_false hx
                                exact st_value (v := .int .i64 mn) rfl (by decide) (by rw [hm2]; clear hm2; go_simp) rfl
                            · intro r W hc hf hs hd hB
                              have hBV := HBV.out W hB
                              refine want_n rfl ?_
                              have e197 : r (.tmp 197) = .int .i64 mn := hd 197 (by kernel_rfl)
                              have e200 : r (.tmp 200) = .int .i64 mn := hd 200 (by kernel_rfl)
                              exact st_value (v := .bool false) rfl (by decide) (by go_simp) rfl
                          intro f w10 hfd hB'
                          have z195 : f 195 = .pointer (some ⟨wr.heap.size, 0, none⟩) := hfd 195 (of_decide_eq_true (by kernel_rfl))
                          have z196 : f 196 = TT.val t A := hfd 196 (of_decide_eq_true (by kernel_rfl))
                          have z197 : f 197 = .int .i64 mn := hfd 197 (of_decide_eq_true (by kernel_rfl))
                          have z198 : f 198 = .pointer (some ⟨wr.heap.size, 15, none⟩) := hfd 198 (of_decide_eq_true (by kernel_rfl))
                          have z199 : f 199 = .int .i64 bq := hfd 199 (of_decide_eq_true (by kernel_rfl))
                          have z200 : f 200 = .int .i64 mn := hfd 200 (of_decide_eq_true (by kernel_rfl))
                          have z201 : f 201 = .bool false := hfd 201 (of_decide_eq_true (by kernel_rfl))
                          have hb_w10 := HBV.out w10 hB'
                          rw [show dstsTo _ _ = [195, 196, 197, 198, 199, 200, 201] from by kernel_rfl]
                          simp only [fill, Act.put, List.setIfInBounds_toArray, List.set_cons_succ, List.set_cons_zero, z195, z196, z197, z198, z199, z200, z201]
                          clear hfd hB' z195 z196 z197 z198 z199 z200 z201 HBV
                          
                          replace q0 := cell_stays hb_w10 q0; replace q1 := cell_stays hb_w10 q1; replace q2 := cell_stays hb_w10 q2; replace q3 := cell_stays hb_w10 q3; replace q4 := cell_stays hb_w10 q4; replace q5 := cell_stays hb_w10 q5; replace q6 := cell_stays hb_w10 q6; replace q7 := cell_stays hb_w10 q7
                          replace q8 := cell_stays hb_w10 q8; replace q9 := cell_stays hb_w10 q9; replace q10 := cell_stays hb_w10 q10; replace q11 := cell_stays hb_w10 q11; replace q12 := cell_stays hb_w10 q12; replace q13 := cell_stays hb_w10 q13; replace q14 := cell_stays hb_w10 q14
                          replace c15 := cell_stays hb_w10 c15; replace c16 := cell_stays hb_w10 c16
                          replace HTI := Lib.hid (HTI.out.below hb_w10); replace HXC := Lib.hid (HXC.out.below hb_w10)
                          replace hb7 := hb7.trans (hb_w10.mono hb7.size)
                          clear hb_w10
                          by_cases hgt : 4096 < bq
                          · have hx1 : decide ((4096 : Int) < bq) = true := decide_eq_true (by omega)
                            have hx2 : decide (4096 < bq) = true := decide_eq_true hgt
                            go_wp2_with fail
                            refine (thigh_any t _ _ HSM.out.1 HSM.out.2 HTI.out).mono ?_
                            rintro e w11 ⟨rfl, hb11⟩
                            rw [(HPO.out.1 hgt).1]
                            replace q0 := cell_stays hb11 q0; replace q1 := cell_stays hb11 q1; replace q2 := cell_stays hb11 q2; replace q3 := cell_stays hb11 q3; replace q4 := cell_stays hb11 q4; replace q5 := cell_stays hb11 q5; replace q6 := cell_stays hb11 q6; replace q7 := cell_stays hb11 q7
                            replace q8 := cell_stays hb11 q8; replace q9 := cell_stays hb11 q9; replace q10 := cell_stays hb11 q10; replace q11 := cell_stays hb11 q11; replace q12 := cell_stays hb11 q12; replace q13 := cell_stays hb11 q13; replace q14 := cell_stays hb11 q14
                            replace c15 := cell_stays hb11 c15; replace c16 := cell_stays hb11 c16
                            replace HTI := Lib.hid (HTI.out.below hb11); replace HXC := Lib.hid (HXC.out.below hb11)
                            replace hb7 := hb7.trans (hb11.mono hb7.size)
                            clear hb11
                            go_wp2_with fail
                            refine (sound_any t _ _ HSM.out.1 HSM.out.2 HTI.out).mono ?_
                            rintro e w12 ⟨rfl, hb12⟩
                            rw [(HPO.out.1 hgt).2]
                            replace q0 := cell_stays hb12 q0; replace q1 := cell_stays hb12 q1; replace q2 := cell_stays hb12 q2; replace q3 := cell_stays hb12 q3; replace q4 := cell_stays hb12 q4; replace q5 := cell_stays hb12 q5; replace q6 := cell_stays hb12 q6; replace q7 := cell_stays hb12 q7
                            replace q8 := cell_stays hb12 q8; replace q9 := cell_stays hb12 q9; replace q10 := cell_stays hb12 q10; replace q11 := cell_stays hb12 q11; replace q12 := cell_stays hb12 q12; replace q13 := cell_stays hb12 q13; replace q14 := cell_stays hb12 q14
                            replace c15 := cell_stays hb12 c15; replace c16 := cell_stays hb12 c16
                            replace HTI := Lib.hid (HTI.out.below hb12); replace HXC := Lib.hid (HXC.out.below hb12)
                            replace hb7 := hb7.trans (hb12.mono hb7.size)
                            clear hb12
                            go_wp2_with fail
                            go_roundw
                            case rel => exact ⟨i + 1, by go_num, by omega, hb7⟩
                            case measure => simp [intOf]; omega
                          · have hx1 : decide ((4096 : Int) < bq) = false := decide_eq_false (by omega)
                            have hx2 : decide (4096 < bq) = false := decide_eq_false hgt
                            obtain ⟨sd, hsd⟩ : ∃ sd, sd = t.sound := ⟨_, rfl⟩
                            have HSD := Lib.hid hsd.symm
                            have HHQ : Hid (t.High = hq) := Lib.hid (HPO.out.2 (by omega)).1
                            have HDD : Hid (decide ((hq : Int) ≤ 128) = sd ∧ decide (hq ≤ 128) = sd) := Lib.hid (by
                              have := (HPO.out.2 (by omega)).2
                              rw [← hsd] at this
                              refine ⟨?_, this.symm⟩
                              rw [this]
                              by_cases h8 : hq ≤ 128
                              · rw [decide_eq_true h8, decide_eq_true (by omega)]
                              · rw [decide_eq_false h8, decide_eq_false (by omega)])
                            clear hsd
                            go_wp2_with fail
                            have HBV := Lib.hid (fun W (h : Below w10.drew.heap.size w10.drew W) => (Below.refl _ w10).drew.trans h)
                            try simp only [List.append_eq, List.cons_append, List.nil_append]
                            refine wp_region_allR (kindT [(214, .fixed (.pointer (some ⟨wr.heap.size, 0, none⟩))), (215, .fixed (TT.val t A)), (216, .fixed (.int .i64 hq)), (217, .fixed (.pointer (some ⟨wr.heap.size, 16, none⟩))), (218, .fixed (.int .i64 hq)), (219, .fixed (.bool false)), (220, .fixed (.bool false)), (221, .fixed (.pointer (some ⟨wr.heap.size, 0, none⟩))), (222, .fixed (TT.val t A)), (223, .fixed (.bool sd)), (224, .fixed (.pointer (some ⟨wr.heap.size, 16, none⟩))), (225, .fixed (.int .i64 hq)), (226, .fixed (.bool sd)), (227, .fixed (.bool false)), (228, .fixed (.bool false))]) 238 (by kernel_rfl) (by kernel_rfl) (by rfl) (kindT_mono _) ?_ ?_
                            · as_aux_lemma =>
                              show ∀ o ∈ [_, _, _, _, _, _, _, _, _, _, _, _, _, _, _], _
                              refine (tfm ?_ (tfm ?_ (tfm ?_ (tfm ?_ (tfm ?_ (tfm ?_ (tfm ?_ (tfm ?_ (tfm ?_ (tfm ?_ (tfm ?_ (tfm ?_ (tfm ?_ (tfm ?_ (tfm ?_ tfmnil)))))))))))))))
                              · intro r W hc hf hs hd hB
                                have hBV := HBV.out W hB
                                refine want_n rfl ?_
                                have e21 : r (.tmp 21) = .pointer (some ⟨wr.heap.size, 0, none⟩) := hs 21 (of_decide_eq_true (by kernel_rfl))
                                exact st_value (v := .pointer (some ⟨wr.heap.size, 0, none⟩)) rfl (by decide) (by go_simp) rfl
                              · intro r W hc hf hs hd hB
                                have hBV := HBV.out W hB
                                refine want_n rfl ?_
                                have e214 : r (.tmp 214) = .pointer (some ⟨wr.heap.size, 0, none⟩) := hd 214 (by kernel_rfl)
                                exact st_value (v := TT.val t A) rfl (by decide) (run_load15 (HXC.out.below hBV) rfl e214) rfl
                              · intro r W hc hf hs hd hB
                                have hBV := HBV.out W hB
                                refine want_n rfl ?_
                                have e215 : r (.tmp 215) = TT.val t A := hd 215 (by kernel_rfl)
                                exact st_call (f := 19) (args := #[TT.val t A]) rfl (by decide) (by go_simp) (made_fix (by rw [HHQ.out]) (thigh_any _ _ _ HSM.out.1 HSM.out.2 (HTI.out.below hBV)))
                              · intro r W hc hf hs hd hB
                                have hBV := HBV.out W hB
                                refine want_n rfl ?_
                                have e21 : r (.tmp 21) = .pointer (some ⟨wr.heap.size, 0, none⟩) := hs 21 (of_decide_eq_true (by kernel_rfl))
                                exact st_value (v := .pointer (some ⟨wr.heap.size, 16, none⟩)) rfl (by decide) (by go_simp) rfl
                              · intro r W hc hf hs hd hB
                                have hBV := HBV.out W hB
                                refine want_n rfl ?_
                                have e217 : r (.tmp 217) = .pointer (some ⟨wr.heap.size, 16, none⟩) := hd 217 (by kernel_rfl)
                                have cc := cell_stays hBV c16
                                exact st_value (v := .int .i64 hq) rfl (by decide) (by go_simp) rfl
                              · intro r W hc hf hs hd hB
                                have hBV := HBV.out W hB
                                refine want_n rfl ?_
                                have e216 : r (.tmp 216) = .int .i64 hq := hd 216 (by kernel_rfl)
                                have e218 : r (.tmp 218) = .int .i64 hq := hd 218 (by kernel_rfl)
                                exact st_value (v := .bool false) rfl (by decide) (by go_simp) rfl
                              · intro r W hc hf hs hd hB
                                have hBV := HBV.out W hB
                                refine want_n rfl ?_
                                have e219 : r (.tmp 219) = .bool false := hd 219 (by kernel_rfl)
                                exact st_value (v := .bool false) rfl (by decide) (by go_simp) rfl
                              · intro r W hc hf hs hd hB
                                have hBV := HBV.out W hB
                                refine want_g 6 220 rfl (by kernel_rfl) (hd 220 (by kernel_rfl) : r (.tmp 220) = .bool false) ?_
                                have e21 : r (.tmp 21) = .pointer (some ⟨wr.heap.size, 0, none⟩) := hs 21 (of_decide_eq_true (by kernel_rfl))
                                exact st_value (v := .pointer (some ⟨wr.heap.size, 0, none⟩)) rfl (by decide) (by go_simp) rfl
                              · intro r W hc hf hs hd hB
                                have hBV := HBV.out W hB
                                refine want_g 6 220 rfl (by kernel_rfl) (hd 220 (by kernel_rfl) : r (.tmp 220) = .bool false) ?_
                                have e221 : r (.tmp 221) = .pointer (some ⟨wr.heap.size, 0, none⟩) := hd 221 (by kernel_rfl)
                                exact st_value (v := TT.val t A) rfl (by decide) (run_load15 (HXC.out.below hBV) rfl e221) rfl
                              · intro r W hc hf hs hd hB
                                have hBV := HBV.out W hB
                                refine want_g 6 220 rfl (by kernel_rfl) (hd 220 (by kernel_rfl) : r (.tmp 220) = .bool false) ?_
                                have e222 : r (.tmp 222) = TT.val t A := hd 222 (by kernel_rfl)
                                exact st_call (f := 33) (args := #[TT.val t A]) rfl (by decide) (by go_simp) (made_fix (by rw [HSD.out]) (sound_any _ _ _ HSM.out.1 HSM.out.2 (HTI.out.below hBV)))
                              · intro r W hc hf hs hd hB
                                have hBV := HBV.out W hB
                                refine want_g 6 220 rfl (by kernel_rfl) (hd 220 (by kernel_rfl) : r (.tmp 220) = .bool false) ?_
                                have e21 : r (.tmp 21) = .pointer (some ⟨wr.heap.size, 0, none⟩) := hs 21 (of_decide_eq_true (by kernel_rfl))
                                exact st_value (v := .pointer (some ⟨wr.heap.size, 16, none⟩)) rfl (by decide) (by go_simp) rfl
                              · intro r W hc hf hs hd hB
                                have hBV := HBV.out W hB
                                refine want_g 6 220 rfl (by kernel_rfl) (hd 220 (by kernel_rfl) : r (.tmp 220) = .bool false) ?_
                                have e224 : r (.tmp 224) = .pointer (some ⟨wr.heap.size, 16, none⟩) := hd 224 (by kernel_rfl)
                                have cc := cell_stays hBV c16
                                exact st_value (v := .int .i64 hq) rfl (by decide) (by go_simp) rfl
                              · intro r W hc hf hs hd hB
                                have hBV := HBV.out W hB
                                refine want_g 6 220 rfl (by kernel_rfl) (hd 220 (by kernel_rfl) : r (.tmp 220) = .bool false) ?_
                                have e225 : r (.tmp 225) = .int .i64 hq := hd 225 (by kernel_rfl)
                                have hdd := HDD.out.1
                                have hdd2 := HDD.out.2
                                exact st_value (v := .bool sd) rfl (by decide) (by go_simp) rfl
                              · intro r W hc hf hs hd hB
                                have hBV := HBV.out W hB
                                refine want_g 6 220 rfl (by kernel_rfl) (hd 220 (by kernel_rfl) : r (.tmp 220) = .bool false) ?_
                                have e223 : r (.tmp 223) = .bool sd := hd 223 (by kernel_rfl)
                                have e226 : r (.tmp 226) = .bool sd := hd 226 (by kernel_rfl)
                                exact st_value (v := .bool false) rfl (by decide) (by go_simp) rfl
                              · intro r W hc hf hs hd hB
                                have hBV := HBV.out W hB
                                refine want_n rfl ?_
                                have e220 : r (.tmp 220) = .bool false := hd 220 (by kernel_rfl)
                                have e227 : r (.tmp 227) = .bool false := hd 227 (by kernel_rfl)
                                exact st_value (v := .bool false) rfl (by decide) (by go_simp) rfl
                            intro f w13 hfd hB'
                            have z214 : f 214 = .pointer (some ⟨wr.heap.size, 0, none⟩) := hfd 214 (of_decide_eq_true (by kernel_rfl))
                            have z215 : f 215 = TT.val t A := hfd 215 (of_decide_eq_true (by kernel_rfl))
                            have z216 : f 216 = .int .i64 hq := hfd 216 (of_decide_eq_true (by kernel_rfl))
                            have z217 : f 217 = .pointer (some ⟨wr.heap.size, 16, none⟩) := hfd 217 (of_decide_eq_true (by kernel_rfl))
                            have z218 : f 218 = .int .i64 hq := hfd 218 (of_decide_eq_true (by kernel_rfl))
                            have z219 : f 219 = .bool false := hfd 219 (of_decide_eq_true (by kernel_rfl))
                            have z220 : f 220 = .bool false := hfd 220 (of_decide_eq_true (by kernel_rfl))
                            have z221 : f 221 = .pointer (some ⟨wr.heap.size, 0, none⟩) := hfd 221 (of_decide_eq_true (by kernel_rfl))
                            have z222 : f 222 = TT.val t A := hfd 222 (of_decide_eq_true (by kernel_rfl))
                            have z223 : f 223 = .bool sd := hfd 223 (of_decide_eq_true (by kernel_rfl))
                            have z224 : f 224 = .pointer (some ⟨wr.heap.size, 16, none⟩) := hfd 224 (of_decide_eq_true (by kernel_rfl))
                            have z225 : f 225 = .int .i64 hq := hfd 225 (of_decide_eq_true (by kernel_rfl))
                            have z226 : f 226 = .bool sd := hfd 226 (of_decide_eq_true (by kernel_rfl))
                            have z227 : f 227 = .bool false := hfd 227 (of_decide_eq_true (by kernel_rfl))
                            have z228 : f 228 = .bool false := hfd 228 (of_decide_eq_true (by kernel_rfl))
                            have hb_w13 := HBV.out w13 hB'
                            rw [show dstsTo _ _ = [214, 215, 216, 217, 218, 219, 220, 221, 222, 223, 224, 225, 226, 227, 228] from by kernel_rfl]
                            simp only [fill, Act.put, List.setIfInBounds_toArray, List.set_cons_succ, List.set_cons_zero, z214, z215, z216, z217, z218, z219, z220, z221, z222, z223, z224, z225, z226, z227, z228]
                            clear hfd hB' z214 z215 z216 z217 z218 z219 z220 z221 z222 z223 z224 z225 z226 z227 z228 HBV
                            clear hx1 hx2
                            replace q0 := cell_stays hb_w13 q0; replace q1 := cell_stays hb_w13 q1; replace q2 := cell_stays hb_w13 q2; replace q3 := cell_stays hb_w13 q3; replace q4 := cell_stays hb_w13 q4; replace q5 := cell_stays hb_w13 q5; replace q6 := cell_stays hb_w13 q6; replace q7 := cell_stays hb_w13 q7
                            replace q8 := cell_stays hb_w13 q8; replace q9 := cell_stays hb_w13 q9; replace q10 := cell_stays hb_w13 q10; replace q11 := cell_stays hb_w13 q11; replace q12 := cell_stays hb_w13 q12; replace q13 := cell_stays hb_w13 q13; replace q14 := cell_stays hb_w13 q14
                            replace c15 := cell_stays hb_w13 c15; replace c16 := cell_stays hb_w13 c16
                            replace HTI := Lib.hid (HTI.out.below hb_w13); replace HXC := Lib.hid (HXC.out.below hb_w13)
                            replace hb7 := hb7.trans (hb_w13.mono hb7.size)
                            clear hb_w13
                            go_wp2_with fail
                            go_roundw
                            case rel => exact ⟨i + 1, by go_num, by omega, hb7⟩
                            case measure => simp [intOf]; omega
                      · have HPT := Lib.hid (HPART.out.1 (by rw [← hnd]; exact hn0))
                        have hd1 : decide (nd = 0) = false := decide_eq_false hn0
                        have hd2 : (nd == 0) = false := by simp [hn0]
                        have hd3 : (nd != 0) = true := by simp [hn0]
                        have HN0 := Lib.hid hn0
                        clear hnd HPART hn0
                        go_wp2_with fail
                        refine (tbulk_any t _ _ HSM.out.1 HSM.out.2 HTI.out).mono ?_
                        rintro e w9 ⟨rfl, hb9⟩
                        rw [HPT.out.1]
                        replace q0 := cell_stays hb9 q0; replace q1 := cell_stays hb9 q1; replace q2 := cell_stays hb9 q2; replace q3 := cell_stays hb9 q3; replace q4 := cell_stays hb9 q4; replace q5 := cell_stays hb9 q5; replace q6 := cell_stays hb9 q6; replace q7 := cell_stays hb9 q7
                        replace q8 := cell_stays hb9 q8; replace q9 := cell_stays hb9 q9; replace q10 := cell_stays hb9 q10; replace q11 := cell_stays hb9 q11; replace q12 := cell_stays hb9 q12; replace q13 := cell_stays hb9 q13; replace q14 := cell_stays hb9 q14
                        replace c15 := cell_stays hb9 c15; replace c16 := cell_stays hb9 c16
                        replace HTI := Lib.hid (HTI.out.below hb9); replace HXC := Lib.hid (HXC.out.below hb9)
                        replace hb7 := hb7.trans (hb9.mono hb7.size)
                        clear hb9
                        go_wp2_with fail
                        refine (thigh_any t _ _ HSM.out.1 HSM.out.2 HTI.out).mono ?_
                        rintro e w10 ⟨rfl, hb10⟩
                        rw [HPT.out.2.1]
                        replace q0 := cell_stays hb10 q0; replace q1 := cell_stays hb10 q1; replace q2 := cell_stays hb10 q2; replace q3 := cell_stays hb10 q3; replace q4 := cell_stays hb10 q4; replace q5 := cell_stays hb10 q5; replace q6 := cell_stays hb10 q6; replace q7 := cell_stays hb10 q7
                        replace q8 := cell_stays hb10 q8; replace q9 := cell_stays hb10 q9; replace q10 := cell_stays hb10 q10; replace q11 := cell_stays hb10 q11; replace q12 := cell_stays hb10 q12; replace q13 := cell_stays hb10 q13; replace q14 := cell_stays hb10 q14
                        replace c15 := cell_stays hb10 c15; replace c16 := cell_stays hb10 c16
                        replace HTI := Lib.hid (HTI.out.below hb10); replace HXC := Lib.hid (HXC.out.below hb10)
                        replace hb7 := hb7.trans (hb10.mono hb7.size)
                        clear hb10
                        go_wp2_with fail
                        refine (sound_any t _ _ HSM.out.1 HSM.out.2 HTI.out).mono ?_
                        rintro e w11 ⟨rfl, hb11⟩
                        rw [HPT.out.2.2]
                        replace q0 := cell_stays hb11 q0; replace q1 := cell_stays hb11 q1; replace q2 := cell_stays hb11 q2; replace q3 := cell_stays hb11 q3; replace q4 := cell_stays hb11 q4; replace q5 := cell_stays hb11 q5; replace q6 := cell_stays hb11 q6; replace q7 := cell_stays hb11 q7
                        replace q8 := cell_stays hb11 q8; replace q9 := cell_stays hb11 q9; replace q10 := cell_stays hb11 q10; replace q11 := cell_stays hb11 q11; replace q12 := cell_stays hb11 q12; replace q13 := cell_stays hb11 q13; replace q14 := cell_stays hb11 q14
                        replace c15 := cell_stays hb11 c15; replace c16 := cell_stays hb11 c16
                        replace HTI := Lib.hid (HTI.out.below hb11); replace HXC := Lib.hid (HXC.out.below hb11)
                        replace hb7 := hb7.trans (hb11.mono hb7.size)
                        clear hb11
                        go_wp2_with fail
                        go_roundw
                        case rel => exact ⟨i + 1, by go_num, by omega, hb7⟩
                        case measure => simp [intOf]; omega
                    · have hie : i = 6 := by omega
                      subst hie
                      obtain ⟨q0, q1, q2, q3, q4, q5, q6, q7, q8, q9, q10, q11, q12, q13, q14⟩ := HX0.out.1.below hb6
                      have HTI : Hid (TIn wr t0 (TT.val t0 X)) := Lib.hid ⟨X, rfl, HX0.out.2.below hb6⟩
                      have hp0 : 0 < l.length := by omega
                      have hd0 : decide (0 < l.length) = true := decide_eq_true hp0
                      cases ev
                      · go_wp2_with fail
                        go_ret
                        exact ⟨rfl, hB.trans (hb6.mono hB.size)⟩
                      · have HSO : Hid (t0.sound = true) := Lib.hid (HT0.out.2.2.2 (by trivial))
                        go_wp2_with fail
                        refine (sound_any t0 _ _ HT0.out.1 HT0.out.2.1 HTI.out).mono ?_
                        rintro e w7 ⟨rfl, hb7⟩
                        rw [HSO.out]
                        go_wp2_with fail
                        go_ret
                        exact ⟨rfl, hB.trans ((hb6.trans (hb7.mono hb6.size)).mono hB.size)⟩
          · go_wp2_with fail
            refine (tawake_any _).mono ?_
            rintro e w9 ⟨rfl, hb9⟩
            go_wp2_with fail
            go_ret
            exact ⟨rfl, hB.trans (hb9.mono hB.size)⟩
      · go_wp2_with fail
        refine (tawake_any _).mono ?_
        rintro e w9 ⟨rfl, hb9⟩
        go_wp2_with fail
        go_ret
        exact ⟨rfl, hB.trans (hb9.mono hB.size)⟩
end Go.Proofs.Ytapofbdkofelkaa
/- TermParts: the law returns true for all that can be read, and what was handed in reads afterwards as it read before. -/
namespace Go.Proofs.Ytapofbdkofelkaa
open Go.ChangeShapes Go.WideShapes Go.ChangeAt Go.RowKit

set_option maxRecDepth 100000 in
theorem termParts_lifted (os : Os) (started : os.Started) (H : Type) (enc : TypeId × Value → H) :
    ReturnsInHanded {} Try.checked os 7 .any (Rows.termPartsSpec.pre6 enc Try.prog Try.f7 Rows.termPartsRow.domain false) (Rows.termPartsSpec.post enc Try.prog Try.f7 false true false false) := by
  refine returnsInHanded_of_change_sized (C := Try.checked) Try.own started (by kernel_rfl) Try.func7
    (ChangeSpec.witness6 (enc := enc) (C := Try.checked) false ⟨#[], #[.slice none 0 0, .int .u8 0, .int .u8 0, .slice none 0 0, .agg #[.int .u8 0, .int .u8 0, .int .i64 0, .slice none 0 0, .int .i64 0, .slice none 0 0]], []⟩ 8 (by kernel_rfl) (by kernel_rfl) (by kernel_rfl) (by kernel_rfl)) ?_
  intro W base args ds gs before hval0 hW hcnd hsz hass
  have hval : ∀ (j : Nat) t v, Try.f7.params[j]? = some t → args[j]? = some v → Value.okWide Try.prog W .any base t v := hval0
  have hW' := hW
  obtain ⟨p, q, hA0, hV, rfl, hfz, hnd⟩ := hW
  have hA : DataW.TrodAll enc Try.prog W 0 (fun _ => true) true Try.f7.params.toList args.toList ds p := hA0
  rw [Try.params7] at hA hval
  obtain ⟨v0, v1, v2, v3, v4, d0, d1, d2, d3, d4, p0, p1, p2, p3, p4, rfl, rfl, rfl, h0, h1, h2, h3, h4⟩ := trodAll_five hA
  obtain ⟨rfl, rfl⟩ := trodVars_none hV
  have hsz' : (DataW.weightsEach Try.prog [29, 5, 5, 25, 28] ([d0, d1, d2, d3, d4] ++ [])).all (· ≤ reachBytes) = true := hsz
  simp only [List.append_nil, DataW.weightsEach, List.all_append, Bool.and_eq_true] at hsz'
  obtain ⟨a0, r0, c0, rfl, hl0, ha0⟩ := open_terms (hval 0 29 v0 rfl rfl) h0 hsz'.1
  have hc0 := okWide_cap Try.underlying29 (hval 0 29 _ rfl rfl)
  obtain ⟨a1, rfl, la1, ua1⟩ := open_u8 (hval 1 5 v1 rfl rfl)
  obtain ⟨a2, rfl, la2, ua2⟩ := open_u8 (hval 2 5 v2 rfl rfl)
  obtain ⟨a3, r3, c3, rfl, hl3, ha3⟩ := open_nums (hval 3 25 v3 rfl rfl) h3 hsz'.2.2.2.1
  obtain ⟨a4, ha4⟩ := open_pred (hval 4 28 v4 rfl rfl) h4 hsz'.2.2.2.2
  refine (termParts_any a0 r0 c0 a1 a2 a3 r3 c3 a4 v4 W hl0 ha0 hc0 la1 ua1 la2 ua2 hl3 ha3 ha4).mono fun e W' ⟨he, hbw⟩ => ?_
  subst he
  exact ⟨_, rfl, law_post rfl rfl (by rw [Try.params7]; intro t ht; simp at ht; rcases ht with rfl | rfl | rfl | rfl <;> exact ⟨by kernel_rfl, of_decide_eq_true (by kernel_rfl)⟩) hW' ⟨rfl, rfl, rfl⟩ hbw⟩

theorem termParts_holds : Rows.TermPartsSaid :=
  OpenClaim.holds_of_wide 7 Try.f7 rfl rfl rfl rfl rfl rfl rfl ⟨rfl, rfl, rfl, rfl, rfl⟩ rfl rfl rfl rfl rfl (by kernel_rfl) Try.func7 (by kernel_rfl)
    (of_decide_eq_true (by kernel_rfl)) (by unfold Func.isWrapper; first | (rw [if_pos (by decide +kernel)]; kernel_rfl) | (rw [if_neg (by decide +kernel)]; exact ⟨rfl, rfl⟩))
    (fun os started H enc _ => termParts_lifted os started H enc)
end Go.Proofs.Ytapofbdkofelkaa
