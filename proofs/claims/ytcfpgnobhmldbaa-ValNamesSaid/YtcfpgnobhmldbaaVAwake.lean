/- The law's awake. -/
import Derived.Test.YtcfpgnobhmldbaaVDeep
import Derived.Test.YtcfpgnobhmldbaaVRowW
import Derived.Test.YtcfpgnobhmldbaaVWalkB
import Derived.Test.YtcfpgnobhmldbaaVSize
import Derived.Test.YtcfpgnobhmldbaaVCheck
namespace Go.Proofs.Ytcfpgnobhmldbaa
open Go.RowKit

theorem row_facts (i : Nat) (h : i + 1 < rowT.length) : VT.cmp rowT[i] rowT[i + 1] = -1 ∧ VT.cmp rowT[i + 1] rowT[i] = 1 ∧ rowT[i].check = 0 ∧ rowT[i].size ≤ 100 ∧ rowT[i + 1].size ≤ 100 := by
  have h' : i < 12 := by have : rowT.length = 13 := rfl; omega
  rcases (by omega : i = 0 ∨ i = 1 ∨ i = 2 ∨ i = 3 ∨ i = 4 ∨ i = 5 ∨ i = 6 ∨ i = 7 ∨ i = 8 ∨ i = 9 ∨ i = 10 ∨ i = 11) with rfl | rfl | rfl | rfl | rfl | rfl | rfl | rfl | rfl | rfl | rfl | rfl
  all_goals exact ⟨rfl, rfl, rfl, Nat.le_of_ble_eq_true rfl, Nat.le_of_ble_eq_true rfl⟩

/-- a call that hands back one value and turns nothing that was there, in a region that draws its order. -/
theorem regrown {f : FuncId} {args : Array Value} {w : World} {v : Value} (h : ∀ W, Below w.heap.size w W → Calls Try.prog f args W fun e w' => e = .returned v ∧ Below W.heap.size W w') :
    ∀ d os, Calls Try.prog f args (Go.Sort.grow (redrawn w d) os) fun e w'' => e = .returned v ∧ ∃ p : Regrown, w'' = Go.Sort.grow (redrawn w p.d) p.os :=
  fun d os => Calls.regrown_of (h _ (below_regrown w d os))

set_option maxRecDepth 100000 in
set_option maxHeartbeats 4000000 in
theorem awake_any (w : World) : Calls Try.prog 9 #[] w fun e w' => e = .returned (.bool true) ∧ Below w.heap.size w w' := by
  go_enter Try.func9, Try.ntmps9
  go_wp2_with fail
  refine (row_any _).mono ?_
  rintro e w1 ⟨b, rfl, hr, hb1⟩
  go_wp2_with fail
  go_loopw [2] (fun x wr => ∃ i : Nat, x = .int .i64 i ∧ i ≤ 12 ∧ Below w1.heap.size w1 wr) (fun x _ => 12 - (intOf x).toNat)
  case atStart => exact ⟨0, rfl, by omega, Below.refl _ _⟩
  case round =>
    obtain ⟨i, rfl, hi, hbl⟩ := hrel
    by_cases hlt : i < 12
    · have hx : i < rowT.length := show i < 13 by omega
      have hy : i + 1 < rowT.length := show i + 1 < 13 by omega
      obtain ⟨k1, k2, k3, k4, k5⟩ := row_facts i hy
      obtain ⟨b0, o, he, ax, cx, d0, d1, d2, hv⟩ := (hr.below hbl).got i hx
      obtain ⟨b1, o1, he1, ay, cy, d0', d1', d2', hv'⟩ := (hr.below hbl).got (i + 1) hy
      simp only [Option.some.injEq, Addr.mk.injEq, and_true] at he he1
      obtain ⟨rfl, rfl⟩ := he
      obtain ⟨rfl, rfl⟩ := he1
      simp only [Nat.zero_add] at d0 d1 d2 d0' d1' d2'
      have c0 := cell_regrown d0
      have c1 := cell_regrown d1
      have c2 := cell_regrown d2
      have c0' := cell_regrown d0'
      have c1' := cell_regrown d1'
      have c2' := cell_regrown d2'
      have q1 := regrown (w := wr) (fun W hW => by have := cmp_any 100 rowT[i] rowT[i + 1] _ _ W k4 (hv.below hW) (hv'.below hW); rwa [k1] at this)
      have q2 := regrown (w := wr) (fun W hW => by have := cmp_any 100 rowT[i + 1] rowT[i] _ _ W k5 (hv'.below hW) (hv.below hW); rwa [k2] at this)
      have q3 := regrown (w := wr) (fun W hW => by have := may_any rowT[i] _ W (Nat.le_trans k4 (by omega)) (hv.below hW); rwa [show rowT[i].may = true by unfold VT.may; rw [k3]; rfl] at this)
      have Q1 := Lib.hid q1
      have Q2 := Lib.hid q2
      have Q3 := Lib.hid q3
      clear q1 q2 q3 d0 d1 d2 d0' d1' d2' hv hv' k1 k2 k3 k4 k5
      have b1 : (i : Int) < 13 := by omega
      have b2 : (i : Int) + 1 < 13 := by omega
      go_wp2_with fail
      have b3 : (0 : Int) ≤ (i : Int) + 1 := by omega
      have b4 : ((i : Int) + 1).toNat = i + 1 := by omega
      have b5 : IntKind.i64.wrap ((i : Int) + 1) = (i : Int) + 1 := IntWalk.i64_in _ (by omega)
      refine wp_region_quiet_below (by kernel_rfl) (by kernel_rfl) ?_
      repeat (go_big_quiet_step (first | with_reducible exact Q1.out _ _ | with_reducible exact Q2.out _ _ | with_reducible exact Q3.out _ _))
      refine wpQuiet_nil ?_
      intro _ hw'
      obtain ⟨⟨dq, osq⟩, hw''⟩ := hw'
      subst hw''
      clear b3 b4 b5
      have hgr := below_regrown wr dq osq
      go_wp2_with fail
      go_roundw
      case rel => exact ⟨i + 1, by go_num, by omega, hbl.trans (hgr.mono hbl.size)⟩
      case measure => simp [intOf]; omega
    · have b1 : ¬ (i : Int) + 1 < 13 := by omega
      go_wp2_with fail
      have hrr := hr.below hbl
      refine (lnum_any _ _).mono ?_
      rintro e w2 ⟨rfl, hc2⟩
      go_wp2_with fail
      refine (lnum_any _ _).mono ?_
      rintro e w3 ⟨rfl, hc3⟩
      go_wp2_with fail
      refine (lnum_any _ _).mono ?_
      rintro e w4 ⟨rfl, hc4⟩
      have ha4 : Below wr.heap.size wr w4 := hc2.trans ((hc3.trans (hc4.mono hc3.size)).mono hc2.size)
      clear hc2 hc3 hc4
      go_wp2_with fail
      refine (llist_any _ _ _ _).mono ?_
      rintro e w5 ⟨rfl, hc5⟩
      have fI : VRow w5 [rN 2, rN 3] (some ⟨w4.heap.size, 0, none⟩) := VRow.below hc5 (vrow_cons (v0 := .int .u8 1) (v1 := .int .i64 2) (v2 := .slice none 0 0) (by go_simp) (by go_simp) (by go_simp) (vin_of rfl (by simp) vrow_nil) (vrow_cons (v0 := .int .u8 1) (v1 := .int .i64 3) (v2 := .slice none 0 0) (by go_simp) (by go_simp) (by go_simp) (vin_of rfl (by simp) vrow_nil) vrow_nil))
      have ha5 : Below wr.heap.size wr w5 := ha4.trans (((Below.al _).trans (hc5.mono (by simp))).mono ha4.size)
      clear hc5 ha4
      go_wp2_with fail
      refine (lpair_any _ _ _ _).mono ?_
      rintro e w6 ⟨rfl, hc6⟩
      have fO : VRow w6 [rN 1, rL [rN 2, rN 3]] (some ⟨w5.heap.size, 0, none⟩) := VRow.below hc6 (vrow_cons (v0 := .int .u8 1) (v1 := .int .i64 1) (v2 := .slice none 0 0) (by go_simp) (by go_simp) (by go_simp) (vin_of rfl (by simp) vrow_nil) (vrow_cons (v0 := .int .u8 4) (v1 := .int .i64 0) (v2 := .slice (some ⟨w4.heap.size, 0, none⟩) 2 2) (by go_simp) (by go_simp) (by go_simp) (vin_of rfl (by simp) (VRow.below (Below.al _) fI)) vrow_nil))
      have ha6 : Below wr.heap.size wr w6 := ha5.trans (((Below.al _).trans (hc6.mono (by simp))).mono ha5.size)
      clear hc6 ha5 fI
      have hvt : VIn w6 (rT [rN 1, rL [rN 2, rN 3]]) (.agg #[.int .u8 3, .int .i64 0, .slice (some ⟨w5.heap.size, 0, none⟩) 2 2]) := vin_of rfl (by simp) fO
      go_wp2_with fail
      refine (size_any (rT [rN 1, rL [rN 2, rN 3]]) _ _ (by decide) (hvt.below (Below.al _))).mono ?_
      rintro e w7 ⟨rfl, hc7⟩
      rw [show ((rT [rN 1, rL [rN 2, rN 3]]).size : Int) = 5 from rfl]
      have e0 := cell_stays hc7 (show (w6.alloc (.cells #[.int .u8 3, .int .i64 0, .slice (some ⟨w5.heap.size, 0, none⟩) 2 2] 27)).cell? ⟨w6.heap.size, 0, none⟩ = some (.int .u8 3) by go_simp)
      have e1 := cell_stays hc7 (show (w6.alloc (.cells #[.int .u8 3, .int .i64 0, .slice (some ⟨w5.heap.size, 0, none⟩) 2 2] 27)).cell? ⟨w6.heap.size, 1, none⟩ = some (.int .i64 0) by go_simp)
      have e2 := cell_stays hc7 (show (w6.alloc (.cells #[.int .u8 3, .int .i64 0, .slice (some ⟨w5.heap.size, 0, none⟩) 2 2] 27)).cell? ⟨w6.heap.size, 2, none⟩ = some (.slice (some ⟨w5.heap.size, 0, none⟩) 2 2) by go_simp)
      have hw7 : Below w6.heap.size w6 w7 := (Below.al _).trans (hc7.mono (by simp))
      have ha7 : Below wr.heap.size wr w7 := ha6.trans (hw7.mono ha6.size)
      have hv7 := hvt.below hw7
      clear hc7 hw7 ha6 hvt fO
      go_wp2_with fail
      refine (deep_any (rT [rN 1, rL [rN 2, rN 3]]) _ _ (by decide) hv7).mono ?_
      rintro e w8 ⟨rfl, hc8⟩
      rw [show ((rT [rN 1, rL [rN 2, rN 3]]).deep : Int) = 3 from rfl]
      have e0 := cell_stays hc8 e0
      have e1 := cell_stays hc8 e1
      have e2 := cell_stays hc8 e2
      have ha8 := ha7.trans (hc8.mono ha7.size)
      have hv8 := hv7.below hc8
      clear hc8 ha7 hv7
      go_wp2_with fail
      refine (check_any (rT [rN 1, rL [rN 2, rN 3]]) _ _ (by decide) hv8).mono ?_
      rintro e w9 ⟨rfl, hc9⟩
      rw [show (rT [rN 1, rL [rN 2, rN 3]]).check = 0 from rfl]
      have ha9 := ha8.trans (hc9.mono ha8.size)
      clear hc9 ha8 hv8 e0 e1 e2
      go_wp2_with fail
      refine (check_any (.mk 2 2 []) _ _ (by decide) (VIn.leaf 2 2)).mono ?_
      rintro e w10 ⟨rfl, hc10⟩
      rw [show (VT.mk 2 2 []).check = 1 from rfl]
      have ha10 := ha9.trans (hc10.mono ha9.size)
      clear hc10 ha9
      go_wp2_with fail
      refine (check_any (.mk 1 0 rowT) _ _ (by decide) (vin_of rfl (by decide) (hrr.below ha10))).mono ?_
      rintro e w11 ⟨rfl, hc11⟩
      rw [show (VT.mk 1 0 rowT).check = 3 from rfl]
      have ha11 := ha10.trans (hc11.mono ha10.size)
      clear hc11 ha10
      go_wp2_with fail
      refine (check_any (.mk 9 0 []) _ _ (by decide) (VIn.leaf 9 0)).mono ?_
      rintro e w12 ⟨rfl, hc12⟩
      rw [show (VT.mk 9 0 []).check = 11 from rfl]
      have ha12 := ha11.trans (hc12.mono ha11.size)
      clear hc12 ha11
      go_wp2_with fail
      go_ret
      exact ⟨rfl, hb1.trans ((hbl.trans (ha12.mono hbl.size)).mono hb1.size)⟩
end Go.Proofs.Ytcfpgnobhmldbaa
