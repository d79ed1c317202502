/- PredNames: the law returns true for all that can be read, and what was handed in reads afterwards as it read before. -/
import Derived.Test.YteebbffecaeciaaM55
import Derived.Test.YteebbffecaeciaaM56
import Derived.Test.YteebbffecaeciaaM60
import Derived.Test.YteebbffecaeciaaM61
import Derived.Deep.DeepCutAuto
import Derived.Test.YteebbffecaeciaaM48
/- PredNames: the walk of the law (under way). -/
namespace Go.Proofs.Yteebbffecaeciaa
open Go.RowKit

def zeroPs (n : Nat) : Array Value := madeCells (Value.agg #[.int .u8 0, .int .u8 0, .int .i64 0, .slice none 0 0, .int .i64 0, .slice none 0 0]).cells (n * 6)
theorem zeroPs_size (n : Nat) : (zeroPs n).size = n * 6 := size_madeCells _ _
theorem make_preds (n : Nat) (h : n ≤ 1759218604390) (w : World) : (Instr.makeSlice 26 (.int .i64 n) (.int .i64 n)).run Try.prog w = .ok (.slice (some ⟨w.heap.size, 0, none⟩) n n) (w.alloc (.cells (zeroPs n) 28)) := by
  obtain ⟨i0, hi, hz0, hz1, hz2⟩ := info_parts zeroP
  have := run_make (P := Try.prog) w 26 28 i0 _ Try.underlying26 hi hz0 .i64 .i64 n n (by omega) (by omega) (by rw [hz2]; omega) (by omega)
  rw [hz1] at this
  exact this
theorem agree_set6 {X : Nat → Prop} {w W : World} {B : Nat} (h : Agree X w W) (hB : X B) (u0 u1 u2 u3 u4 u5 : Value) : Agree X w ((((((W.setCell ⟨B, 0, none⟩ u0).setCell ⟨B, 1, none⟩ u1).setCell ⟨B, 2, none⟩ u2).setCell ⟨B, 3, none⟩ u3).setCell ⟨B, 4, none⟩ u4).setCell ⟨B, 5, none⟩ u5) := by
  have one : ∀ (W : World) (q : Nat) (u : Value), Agree X w W → Agree X w (W.setCell ⟨B, q, none⟩ u) := fun W q u h => ⟨by simp [World.setCell]; exact h.1, fun k hk hn => (Below.heap_setCell W ⟨B, q, none⟩ u k (fun e => hn (by rw [e]; exact hB))).trans (h.2 k hk hn)⟩
  exact one _ _ _ (one _ _ _ (one _ _ _ (one _ _ _ (one _ _ _ (one _ _ _ h)))))
set_option maxRecDepth 100000 in
set_option maxHeartbeats 40000000 in
theorem predNames_any (w : World) : Calls Try.prog 3 #[] w fun e w' => e = .returned (.bool true) ∧ Below w.heap.size w w' := by
  go_enter Try.func3, Try.ntmps3
  go_wp2_with fail
  refine (pawake_any _).mono ?_
  rintro e w1 ⟨rfl, hb1⟩
  obtain ⟨w2, hw2, m2, -, n0, n1, n2, -⟩ := box3 w1 (.int .u8 1) (.int .i64 5) (.slice none 0 0) 25
  have hB : Below w.heap.size w w2 := hb1.trans (m2.mono hb1.size)
  have HW2 := Lib.hid hw2; clear hw2
  go_upto_region 4 with fail
  rw [HW2.out]
  clear HW2 hb1 m2
  go_wp2_with fail
  refine (pyes_any _).mono ?_
  rintro e w3 ⟨xz, rfl, hf, hb3⟩
  obtain ⟨va, vc, a, cp, -, -, rfl, -, -⟩ := hf.open
  have hy := PFIn.pin _ _ hf
  simp only [vNone, VT.kind, VT.num, VT.items, List.length_nil] at hy hf ⊢
  obtain ⟨w4, hw4, m4, -, y0, y1, y2, y3, y4, y5⟩ := box6 w3 (.int .u8 1) (.int .u8 0) (.int .i64 0) (.slice va 0 vc) (.int .i64 0) (.slice a 0 cp) 28
  have HW4 := Lib.hid hw4; clear hw4
  go_upto_region 5 with fail
  rw [HW4.out]
  have m24 := hb3.trans (m4.mono hb3.size)
  replace n0 := cell_stays m24 n0
  replace n1 := cell_stays m24 n1
  replace n2 := cell_stays m24 n2
  replace hB := hB.trans (m24.mono hB.size)
  replace hy := hy.below m4
  replace hf := hf.below m4
  clear HW4 hb3 m4 m24
  obtain ⟨w5, hw5, m5, hs5, R5, z0, z1, z2, z3, z4, z5⟩ := box6r w4 (.int .u8 1) (.int .u8 0) (.int .i64 0) (.slice va 0 vc) (.int .i64 0) (.slice a 0 cp) 28
  have HW5 := Lib.hid hw5; clear hw5
  go_upto_region 6 with fail
  rw [HW5.out]
  have h5 : w4.heap.size < w5.heap.size := by omega
  have hf5 : PFIn w5 (w4.heap.size + 1) (deepP 0) (.agg #[.int .u8 1, .int .u8 0, .int .i64 0, .slice va 0 vc, .int .i64 0, .slice a 0 cp]) := PFIn.shut (l := []) (by simp) (by unfold vNone; rw [FIn]; exact ⟨va, vc, by simp, rfl, .inl rfl⟩) (.inl rfl)
  clear HW5 hf
  go_wp2_with fail
  go_loopw [4] (fun x wr => ∃ (i : Nat) (k vk vn : Int) (va : Option Addr) (vl vc : Nat) (n : Int) (a : Option Addr) (len cap : Nat), x = .int .i64 (i + 1 : Nat) ∧ i ≤ 11 ∧ RowAt wr 28 w4.heap.size 6 ∧ wr.cell? ⟨w4.heap.size, 0, none⟩ = some (.int .u8 k) ∧ wr.cell? ⟨w4.heap.size, 1, none⟩ = some (.int .u8 vk) ∧ wr.cell? ⟨w4.heap.size, 2, none⟩ = some (.int .i64 vn) ∧
    wr.cell? ⟨w4.heap.size, 3, none⟩ = some (.slice va vl vc) ∧ wr.cell? ⟨w4.heap.size, 4, none⟩ = some (.int .i64 n) ∧ wr.cell? ⟨w4.heap.size, 5, none⟩ = some (.slice a len cap) ∧ PFIn wr (w4.heap.size + 1) (deepP i) (.agg #[.int .u8 k, .int .u8 vk, .int .i64 vn, .slice va vl vc, .int .i64 n, .slice a len cap]) ∧ Below w4.heap.size w4 wr) (fun x _ => 12 - (intOf x).toNat)
  case atStart => exact ⟨0, _, _, _, _, _, _, _, _, _, _, rfl, by omega, R5, z0, z1, z2, z3, z4, z5, hf5, m5⟩
  case round =>
    clear z0 z1 z2 z3 z4 z5 hf5 m5 R5
    obtain ⟨i, k, vk, vn, wa, wl, wc, n, ba, bl, bc, rfl, hi, hrow, z0, z1, z2, z3, z4, z5, hd, hW⟩ := hrel
    rename World => wR
    have HD := Lib.hid hd; clear hd
    by_cases hit : i + 1 < 12
    · have hib : ((i + 1 : Nat) : Int) < 12 := by omega
      have hlt := hrow.lt
      go_wp2_with fail
      refine (pnot_any _ _ _ (PFIn.pin _ _ HD.out)).mono ?_
      rintro e w6 ⟨xz, rfl, hf, hb6⟩
      obtain ⟨k1, vk1, vn1, va1, vl1, vc1, n1, a1, l1, c1, rfl⟩ := PIn.agg (PFIn.pin _ _ hf)
      have hrow6 := hrow.below hlt hb6
      replace z0 := cell_stays hb6 z0
      replace z1 := cell_stays hb6 z1
      replace z2 := cell_stays hb6 z2
      replace z3 := cell_stays hb6 z3
      replace z4 := cell_stays hb6 z4
      replace z5 := cell_stays hb6 z5
      have g0 := hrow6.frozen 0
      have g1 := hrow6.frozen 1
      have g2 := hrow6.frozen 2
      have g3 := hrow6.frozen 3
      have g4 := hrow6.frozen 4
      have g5 := hrow6.frozen 5
      obtain ⟨w7, hw7, y0', y1', y2', y3', y4', y5', k7, f7, sz7, bl7⟩ := set6_all (u0 := .int .u8 k1) (u1 := .int .u8 vk1) (u2 := .int .i64 vn1) (u3 := .slice va1 vl1 vc1) (u4 := .int .i64 n1) (u5 := .slice a1 l1 c1) z0 z1 z2 z3 z4 z5
      have hrow7 : RowAt w7 28 w4.heap.size 6 := by
        have := hrow6.set6 w4.heap.size 0 (.int .u8 k1) (.int .u8 vk1) (.int .i64 vn1) (.slice va1 vl1 vc1) (.int .i64 n1) (.slice a1 l1 c1)
        simp only [Nat.zero_add] at this
        rwa [hw7] at this
      have hW7 : Below w4.heap.size w4 w7 := bl7 _ _ (hW.trans (hb6.mono hW.size)) (Nat.le_refl _)
      have HN := Lib.hid ((hf.mono (Nat.le_refl _) (fun b o u hb hc => k7 b o u (by omega) hc) (fun b o u hb hc hz => by rw [f7]; exact hz) _ _).less (lo' := w4.heap.size + 1) (by omega))
      have HY := Lib.hid (And.intro y0' (And.intro y1' (And.intro y2' (And.intro y3' (And.intro y4' y5')))))
      clear f7 k7 sz7 bl7 hf hb6 hW hrow y0' y1' y2' y3' y4' y5'
      go_wp2_with fail
      go_roundw
      case rel => exact ⟨i + 1, _, _, _, _, _, _, _, _, _, _, by go_num, by omega, hrow7, HY.out.1, HY.out.2.1, HY.out.2.2.1, HY.out.2.2.2.1, HY.out.2.2.2.2.1, HY.out.2.2.2.2.2, HN.out, hW7⟩
      case measure => simp [intOf]; omega
    · have hib : ¬ ((i + 1 : Nat) : Int) < 12 := by omega
      have hi11 : i = 11 := by omega
      subst hi11
      have HBD : Hid (BoxP wR w4.heap.size (deepP 11)) := Lib.hid ⟨_, _, _, _, _, _, _, _, _, _, z0, z1, z2, z3, z4, z5, PFIn.pin _ _ HD.out⟩
      have mR : Below w4.heap.size w4 wR := hW
      replace n0 := cell_stays mR n0
      replace n1 := cell_stays mR n1
      replace n2 := cell_stays mR n2
      replace y0 := cell_stays mR y0
      replace y1 := cell_stays mR y1
      replace y2 := cell_stays mR y2
      replace y3 := cell_stays mR y3
      replace y4 := cell_stays mR y4
      replace y5 := cell_stays mR y5
      replace hy := hy.below mR
      replace hB := hB.trans (mR.mono hB.size)
      obtain ⟨wM, hwM, mM, RM⟩ : ∃ wM, wR.alloc (.cells (zeroPs 64) 28) = wM ∧ Below wR.heap.size wR wM ∧ RowAt wM 28 wR.heap.size (64 * 6) := ⟨_, rfl, Below.al _, by have := RowAt.new wR (zeroPs 64) 28; rwa [zeroPs_size] at this⟩
      have hmk : (Instr.makeSlice 26 (.int .i64 64) (.int .i64 64)).run Try.prog wR = .ok (.slice (some ⟨wR.heap.size, 0, none⟩) 64 64) wM := by rw [← hwM]; exact make_preds 64 (by omega) wR
      clear z0 z1 z2 z3 z4 z5 HD hrow hW mR hi hit
      go_wp2_with fail
      clear hmk
      go_loopw [6] (fun x wr => ∃ i : Nat, x = .int .i64 i ∧ i ≤ 64 ∧ RowAt wr 28 wR.heap.size (64 * 6) ∧ (∀ q, q < i → wr.cell? ⟨wR.heap.size, q * 6, none⟩ = some (.int .u8 1) ∧ wr.cell? ⟨wR.heap.size, q * 6 + 1, none⟩ = some (.int .u8 0) ∧ wr.cell? ⟨wR.heap.size, q * 6 + 2, none⟩ = some (.int .i64 0) ∧
        wr.cell? ⟨wR.heap.size, q * 6 + 3, none⟩ = some (.slice va 0 vc) ∧ wr.cell? ⟨wR.heap.size, q * 6 + 4, none⟩ = some (.int .i64 0) ∧ wr.cell? ⟨wR.heap.size, q * 6 + 5, none⟩ = some (.slice a 0 cp)) ∧ Below wR.heap.size wR wr) (fun x _ => 64 - (intOf x).toNat)
      case atStart => exact ⟨0, rfl, by omega, RM, fun q h => by omega, mM⟩
      case round =>
        clear RM mM
        obtain ⟨i, rfl, hi, hrow, hcells, hV⟩ := hrel
        rename World => wV
        have HC := Lib.hid hcells; clear hcells
        by_cases hit : i < 64
        · have hib : (i : Int) < 64 := by omega
          have t0 := cell_stays hV y0
          have t1 := cell_stays hV y1
          have t2 := cell_stays hV y2
          have t3 := cell_stays hV y3
          have t4 := cell_stays hV y4
          have t5 := cell_stays hV y5
          obtain ⟨u0, q0⟩ := hrow.cell (i * 6) (by omega)
          obtain ⟨u1, q1⟩ := hrow.cell (i * 6 + 1) (by omega)
          obtain ⟨u2, q2⟩ := hrow.cell (i * 6 + 2) (by omega)
          obtain ⟨u3, q3⟩ := hrow.cell (i * 6 + 3) (by omega)
          obtain ⟨u4, q4⟩ := hrow.cell (i * 6 + 4) (by omega)
          obtain ⟨u5, q5⟩ := hrow.cell (i * 6 + 5) (by omega)
          have g0 := hrow.frozen (i * 6)
          have g1 := hrow.frozen (i * 6 + 1)
          have g2 := hrow.frozen (i * 6 + 2)
          have g3 := hrow.frozen (i * 6 + 3)
          have g4 := hrow.frozen (i * 6 + 4)
          have g5 := hrow.frozen (i * 6 + 5)
          have hs6 := hrow.set6 wR.heap.size (i * 6) (.int .u8 1) (.int .u8 0) (.int .i64 0) (.slice va 0 vc) (.int .i64 0) (.slice a 0 cp)
          have hb6 := below_set6 hV (Nat.le_refl _) (i * 6) (.int .u8 1) (.int .u8 0) (.int .i64 0) (.slice va 0 vc) (.int .i64 0) (.slice a 0 cp)
          have hin := set6_in (u0 := .int .u8 1) (u1 := .int .u8 0) (u2 := .int .i64 0) (u3 := .slice va 0 vc) (u4 := .int .i64 0) (u5 := .slice a 0 cp) q0 q1 q2 q3 q4 q5
          have hout := fun (o : Nat) (h : o < i * 6 ∨ i * 6 + 6 ≤ o) => set6_out (w := wV) (B := wR.heap.size) (q := i * 6) (u0 := .int .u8 1) (u1 := .int .u8 0) (u2 := .int .i64 0) (u3 := .slice va 0 vc) (u4 := .int .i64 0) (u5 := .slice a 0 cp) (b := wR.heap.size) (o := o) (fun _ => h)
          have HS6 := Lib.hid hs6; have HB6 := Lib.hid hb6; have HIN := Lib.hid hin; have HOUT := Lib.hid hout
          clear hs6 hb6 hin hout
          go_wp2_with fail
          go_roundw
          case rel =>
            refine ⟨i + 1, by go_num, by omega, HS6.out, fun q hq => ?_, HB6.out⟩
            by_cases e : q = i
            · subst e; exact HIN.out
            · obtain ⟨c0, c1, c2, c3, c4, c5⟩ := HC.out q (by omega)
              exact ⟨(HOUT.out _ (by omega)).trans c0, (HOUT.out _ (by omega)).trans c1, (HOUT.out _ (by omega)).trans c2, (HOUT.out _ (by omega)).trans c3, (HOUT.out _ (by omega)).trans c4, (HOUT.out _ (by omega)).trans c5⟩
          case measure => simp [intOf]; omega
        · have hib : ¬ (i : Int) < 64 := by omega
          have hzs : ∀ k, k ≤ 64 → PRow wV (yesL k) (some ⟨wR.heap.size, 0, none⟩) := fun k hk => PRow.of _ _ 0 fun q hq => by
            have hq' : q < k := by simpa [yesL] using hq
            obtain ⟨c0, c1, c2, c3, c4, c5⟩ := HC.out q (by omega)
            have hyq : (yesL k)[q] = tYes := by simp [yesL]
            rw [hyq]
            exact ⟨_, _, _, _, _, _, by rw [Nat.zero_add]; exact c0, by rw [Nat.zero_add]; exact c1, by rw [Nat.zero_add]; exact c2, by rw [Nat.zero_add]; exact c3, by rw [Nat.zero_add]; exact c4, by rw [Nat.zero_add]; exact c5, hy.below hV⟩
          have HZS := Lib.hid hzs
          have HBV := Lib.hid (fun W (h : Below wV.drew.heap.size wV.drew W) => (Below.refl _ wV).drew.trans h)
          clear hzs hrow HC
          go_wp2_with fail
          refine wp_region_blocks [7] (kindX [(46, .fixed (.slice (some ⟨wR.heap.size, 0, none⟩) 64 64)), (47, .pred wideA), (48, .fixed (.slice (some ⟨wR.heap.size, 0, none⟩) 64 64)), (49, .pred wideA), (50, .fixed (.slice (some ⟨wR.heap.size, 0, none⟩) 64 64)), (51, .pred wideA), (52, .fixed (.slice (some ⟨wR.heap.size, 0, none⟩) 64 64)), (53, .pred wideA), (54, .fixed (.slice (some ⟨wR.heap.size, 0, none⟩) 64 64)), (55, .pred wideA), (56, .fixed (.slice (some ⟨wR.heap.size, 0, none⟩) 64 64)), (57, .pred wideA), (58, .fixed (.slice (some ⟨wR.heap.size, 0, none⟩) 64 64)), (59, .pred wideA), (60, .fixed (.slice (some ⟨wR.heap.size, 0, none⟩) 64 64)), (61, .fixed (.slice (some ⟨wR.heap.size, 0, none⟩) 55 64)), (62, .pred (tO (yesL 55))), (63, .row [wideA, wideA, wideA, wideA, wideA, wideA, wideA, (tO (yesL 55))]), (64, .pred fullP), (7, .box 28 6)]) 20 334 (by kernel_rfl) (by kernel_rfl) (by kernel_rfl) (by rfl) (by rfl) (kindX_sub _) (kindX_grow _) ?_ ?_
          · refine (fm ?_ (fm ?_ (fm ?_ (fm ?_ (fm ?_ (fm ?_ (fm ?_ (fm ?_ (fm ?_ (fm ?_ (fm ?_ (fm ?_ (fm ?_ (fm ?_ (fm ?_ (fm ?_ (fm ?_ (fm ?_ (fm ?_ (fm ?_ fmnil))))))))))))))))))))
            · intro r W X hc hf hs hX hd hB
              have hBV := HBV.out W hB
              have e : r (.tmp 5) = .slice (some ⟨wR.heap.size, 0, none⟩) 64 64 := hs 5 (of_decide_eq_true (by kernel_rfl))
              exact sb_value (v := .slice (some ⟨wR.heap.size, 0, none⟩) 64 64) rfl (by decide) (by go_simp) rfl
            · intro r W X hc hf hs hX hd hB
              have hBV := HBV.out W hB
              have e : r (.tmp 46) = .slice (some ⟨wR.heap.size, 0, none⟩) 64 64 := hd 46 (by kernel_rfl)
              exact sb_call (f := 13) (args := #[.slice (some ⟨wR.heap.size, 0, none⟩) 64 64]) rfl (by decide) (by go_simp) (madeX (fun k hk => (hX k hk).2) (pand_n (l := yesL 64) (by simp [yesL]) (by omega) ((HZS.out 64 (by omega)).below hBV)))
            · intro r W X hc hf hs hX hd hB
              have hBV := HBV.out W hB
              have e : r (.tmp 5) = .slice (some ⟨wR.heap.size, 0, none⟩) 64 64 := hs 5 (of_decide_eq_true (by kernel_rfl))
              exact sb_value (v := .slice (some ⟨wR.heap.size, 0, none⟩) 64 64) rfl (by decide) (by go_simp) rfl
            · intro r W X hc hf hs hX hd hB
              have hBV := HBV.out W hB
              have e : r (.tmp 48) = .slice (some ⟨wR.heap.size, 0, none⟩) 64 64 := hd 48 (by kernel_rfl)
              exact sb_call (f := 13) (args := #[.slice (some ⟨wR.heap.size, 0, none⟩) 64 64]) rfl (by decide) (by go_simp) (madeX (fun k hk => (hX k hk).2) (pand_n (l := yesL 64) (by simp [yesL]) (by omega) ((HZS.out 64 (by omega)).below hBV)))
            · intro r W X hc hf hs hX hd hB
              have hBV := HBV.out W hB
              have e : r (.tmp 5) = .slice (some ⟨wR.heap.size, 0, none⟩) 64 64 := hs 5 (of_decide_eq_true (by kernel_rfl))
              exact sb_value (v := .slice (some ⟨wR.heap.size, 0, none⟩) 64 64) rfl (by decide) (by go_simp) rfl
            · intro r W X hc hf hs hX hd hB
              have hBV := HBV.out W hB
              have e : r (.tmp 50) = .slice (some ⟨wR.heap.size, 0, none⟩) 64 64 := hd 50 (by kernel_rfl)
              exact sb_call (f := 13) (args := #[.slice (some ⟨wR.heap.size, 0, none⟩) 64 64]) rfl (by decide) (by go_simp) (madeX (fun k hk => (hX k hk).2) (pand_n (l := yesL 64) (by simp [yesL]) (by omega) ((HZS.out 64 (by omega)).below hBV)))
            · intro r W X hc hf hs hX hd hB
              have hBV := HBV.out W hB
              have e : r (.tmp 5) = .slice (some ⟨wR.heap.size, 0, none⟩) 64 64 := hs 5 (of_decide_eq_true (by kernel_rfl))
              exact sb_value (v := .slice (some ⟨wR.heap.size, 0, none⟩) 64 64) rfl (by decide) (by go_simp) rfl
            · intro r W X hc hf hs hX hd hB
              have hBV := HBV.out W hB
              have e : r (.tmp 52) = .slice (some ⟨wR.heap.size, 0, none⟩) 64 64 := hd 52 (by kernel_rfl)
              exact sb_call (f := 13) (args := #[.slice (some ⟨wR.heap.size, 0, none⟩) 64 64]) rfl (by decide) (by go_simp) (madeX (fun k hk => (hX k hk).2) (pand_n (l := yesL 64) (by simp [yesL]) (by omega) ((HZS.out 64 (by omega)).below hBV)))
            · intro r W X hc hf hs hX hd hB
              have hBV := HBV.out W hB
              have e : r (.tmp 5) = .slice (some ⟨wR.heap.size, 0, none⟩) 64 64 := hs 5 (of_decide_eq_true (by kernel_rfl))
              exact sb_value (v := .slice (some ⟨wR.heap.size, 0, none⟩) 64 64) rfl (by decide) (by go_simp) rfl
            · intro r W X hc hf hs hX hd hB
              have hBV := HBV.out W hB
              have e : r (.tmp 54) = .slice (some ⟨wR.heap.size, 0, none⟩) 64 64 := hd 54 (by kernel_rfl)
              exact sb_call (f := 13) (args := #[.slice (some ⟨wR.heap.size, 0, none⟩) 64 64]) rfl (by decide) (by go_simp) (madeX (fun k hk => (hX k hk).2) (pand_n (l := yesL 64) (by simp [yesL]) (by omega) ((HZS.out 64 (by omega)).below hBV)))
            · intro r W X hc hf hs hX hd hB
              have hBV := HBV.out W hB
              have e : r (.tmp 5) = .slice (some ⟨wR.heap.size, 0, none⟩) 64 64 := hs 5 (of_decide_eq_true (by kernel_rfl))
              exact sb_value (v := .slice (some ⟨wR.heap.size, 0, none⟩) 64 64) rfl (by decide) (by go_simp) rfl
            · intro r W X hc hf hs hX hd hB
              have hBV := HBV.out W hB
              have e : r (.tmp 56) = .slice (some ⟨wR.heap.size, 0, none⟩) 64 64 := hd 56 (by kernel_rfl)
              exact sb_call (f := 13) (args := #[.slice (some ⟨wR.heap.size, 0, none⟩) 64 64]) rfl (by decide) (by go_simp) (madeX (fun k hk => (hX k hk).2) (pand_n (l := yesL 64) (by simp [yesL]) (by omega) ((HZS.out 64 (by omega)).below hBV)))
            · intro r W X hc hf hs hX hd hB
              have hBV := HBV.out W hB
              have e : r (.tmp 5) = .slice (some ⟨wR.heap.size, 0, none⟩) 64 64 := hs 5 (of_decide_eq_true (by kernel_rfl))
              exact sb_value (v := .slice (some ⟨wR.heap.size, 0, none⟩) 64 64) rfl (by decide) (by go_simp) rfl
            · intro r W X hc hf hs hX hd hB
              have hBV := HBV.out W hB
              have e : r (.tmp 58) = .slice (some ⟨wR.heap.size, 0, none⟩) 64 64 := hd 58 (by kernel_rfl)
              exact sb_call (f := 13) (args := #[.slice (some ⟨wR.heap.size, 0, none⟩) 64 64]) rfl (by decide) (by go_simp) (madeX (fun k hk => (hX k hk).2) (pand_n (l := yesL 64) (by simp [yesL]) (by omega) ((HZS.out 64 (by omega)).below hBV)))
            · intro r W X hc hf hs hX hd hB
              have hBV := HBV.out W hB
              have e : r (.tmp 5) = .slice (some ⟨wR.heap.size, 0, none⟩) 64 64 := hs 5 (of_decide_eq_true (by kernel_rfl))
              exact sb_value (v := .slice (some ⟨wR.heap.size, 0, none⟩) 64 64) rfl (by decide) (by go_simp) rfl
            · intro r W X hc hf hs hX hd hB
              have hBV := HBV.out W hB
              have e : r (.tmp 60) = .slice (some ⟨wR.heap.size, 0, none⟩) 64 64 := hd 60 (by kernel_rfl)
              exact sb_value (v := .slice (some ⟨wR.heap.size, 0, none⟩) 55 64) rfl (by decide) (by go_simp) rfl
            · intro r W X hc hf hs hX hd hB
              have hBV := HBV.out W hB
              have e : r (.tmp 61) = .slice (some ⟨wR.heap.size, 0, none⟩) 55 64 := hd 61 (by kernel_rfl)
              exact sb_call (f := 14) (args := #[.slice (some ⟨wR.heap.size, 0, none⟩) 55 64]) rfl (by decide) (by go_simp) (madeX (fun k hk => (hX k hk).2) (por_n (l := yesL 55) (by simp [yesL]) (by omega) ((HZS.out 55 (by omega)).below hBV)))
            · intro r W X hc hf hs hX hd hB
              have hBV := HBV.out W hB
              have h47 : PQ.okX (.pred wideA) (r (.tmp 47)) W X := hd 47 (by kernel_rfl)
              obtain ⟨k47, vk47, vn47, va47, vl47, vc47, n47, a47, l47, c47, e47⟩ := PIn.agg (h47 W (Agree.refl _ _))
              rw [e47] at h47
              have h49 : PQ.okX (.pred wideA) (r (.tmp 49)) W X := hd 49 (by kernel_rfl)
              obtain ⟨k49, vk49, vn49, va49, vl49, vc49, n49, a49, l49, c49, e49⟩ := PIn.agg (h49 W (Agree.refl _ _))
              rw [e49] at h49
              have h51 : PQ.okX (.pred wideA) (r (.tmp 51)) W X := hd 51 (by kernel_rfl)
              obtain ⟨k51, vk51, vn51, va51, vl51, vc51, n51, a51, l51, c51, e51⟩ := PIn.agg (h51 W (Agree.refl _ _))
              rw [e51] at h51
              have h53 : PQ.okX (.pred wideA) (r (.tmp 53)) W X := hd 53 (by kernel_rfl)
              obtain ⟨k53, vk53, vn53, va53, vl53, vc53, n53, a53, l53, c53, e53⟩ := PIn.agg (h53 W (Agree.refl _ _))
              rw [e53] at h53
              have h55 : PQ.okX (.pred wideA) (r (.tmp 55)) W X := hd 55 (by kernel_rfl)
              obtain ⟨k55, vk55, vn55, va55, vl55, vc55, n55, a55, l55, c55, e55⟩ := PIn.agg (h55 W (Agree.refl _ _))
              rw [e55] at h55
              have h57 : PQ.okX (.pred wideA) (r (.tmp 57)) W X := hd 57 (by kernel_rfl)
              obtain ⟨k57, vk57, vn57, va57, vl57, vc57, n57, a57, l57, c57, e57⟩ := PIn.agg (h57 W (Agree.refl _ _))
              rw [e57] at h57
              have h59 : PQ.okX (.pred wideA) (r (.tmp 59)) W X := hd 59 (by kernel_rfl)
              obtain ⟨k59, vk59, vn59, va59, vl59, vc59, n59, a59, l59, c59, e59⟩ := PIn.agg (h59 W (Agree.refl _ _))
              rw [e59] at h59
              have h62 : PQ.okX (.pred (tO (yesL 55))) (r (.tmp 62)) W X := hd 62 (by kernel_rfl)
              obtain ⟨k62, vk62, vn62, va62, vl62, vc62, n62, a62, l62, c62, e62⟩ := PIn.agg (h62 W (Agree.refl _ _))
              rw [e62] at h62
              have hno : ¬ X W.heap.size := fun hx => absurd (hX _ hx).2 (Nat.lt_irrefl _)
              exact sb_new (v := .slice (some ⟨W.heap.size, 0, none⟩) 8 8) (w' := W.alloc (.cells #[.int .u8 k47, .int .u8 vk47, .int .i64 vn47, .slice va47 vl47 vc47, .int .i64 n47, .slice a47 l47 c47, .int .u8 k49, .int .u8 vk49, .int .i64 vn49, .slice va49 vl49 vc49, .int .i64 n49, .slice a49 l49 c49, .int .u8 k51, .int .u8 vk51, .int .i64 vn51, .slice va51 vl51 vc51, .int .i64 n51, .slice a51 l51 c51, .int .u8 k53, .int .u8 vk53, .int .i64 vn53, .slice va53 vl53 vc53, .int .i64 n53, .slice a53 l53 c53, .int .u8 k55, .int .u8 vk55, .int .i64 vn55, .slice va55 vl55 vc55, .int .i64 n55, .slice a55 l55 c55, .int .u8 k57, .int .u8 vk57, .int .i64 vn57, .slice va57 vl57 vc57, .int .i64 n57, .slice a57 l57 c57, .int .u8 k59, .int .u8 vk59, .int .i64 vn59, .slice va59 vl59 vc59, .int .i64 n59, .slice a59 l59 c59, .int .u8 k62, .int .u8 vk62, .int .i64 vn62, .slice va62 vl62 vc62, .int .i64 n62, .slice a62 l62 c62] 28)) rfl (by decide) (by go_simp) (Below.al _) ⟨_, _, _, rfl, rfl, fun W2 ha => (prow_cons (v0 := .int .u8 k47) (v1 := .int .u8 vk47) (v2 := .int .i64 vn47) (v3 := .slice va47 vl47 vc47) (v4 := .int .i64 n47) (v5 := .slice a47 l47 c47) (ha.cell hno (by go_simp)) (ha.cell hno (by go_simp)) (ha.cell hno (by go_simp)) (ha.cell hno (by go_simp)) (ha.cell hno (by go_simp)) (ha.cell hno (by go_simp)) (h47 W2 ha.al) (prow_cons (v0 := .int .u8 k49) (v1 := .int .u8 vk49) (v2 := .int .i64 vn49) (v3 := .slice va49 vl49 vc49) (v4 := .int .i64 n49) (v5 := .slice a49 l49 c49) (ha.cell hno (by go_simp)) (ha.cell hno (by go_simp)) (ha.cell hno (by go_simp)) (ha.cell hno (by go_simp)) (ha.cell hno (by go_simp)) (ha.cell hno (by go_simp)) (h49 W2 ha.al) (prow_cons (v0 := .int .u8 k51) (v1 := .int .u8 vk51) (v2 := .int .i64 vn51) (v3 := .slice va51 vl51 vc51) (v4 := .int .i64 n51) (v5 := .slice a51 l51 c51) (ha.cell hno (by go_simp)) (ha.cell hno (by go_simp)) (ha.cell hno (by go_simp)) (ha.cell hno (by go_simp)) (ha.cell hno (by go_simp)) (ha.cell hno (by go_simp)) (h51 W2 ha.al) (prow_cons (v0 := .int .u8 k53) (v1 := .int .u8 vk53) (v2 := .int .i64 vn53) (v3 := .slice va53 vl53 vc53) (v4 := .int .i64 n53) (v5 := .slice a53 l53 c53) (ha.cell hno (by go_simp)) (ha.cell hno (by go_simp)) (ha.cell hno (by go_simp)) (ha.cell hno (by go_simp)) (ha.cell hno (by go_simp)) (ha.cell hno (by go_simp)) (h53 W2 ha.al) (prow_cons (v0 := .int .u8 k55) (v1 := .int .u8 vk55) (v2 := .int .i64 vn55) (v3 := .slice va55 vl55 vc55) (v4 := .int .i64 n55) (v5 := .slice a55 l55 c55) (ha.cell hno (by go_simp)) (ha.cell hno (by go_simp)) (ha.cell hno (by go_simp)) (ha.cell hno (by go_simp)) (ha.cell hno (by go_simp)) (ha.cell hno (by go_simp)) (h55 W2 ha.al) (prow_cons (v0 := .int .u8 k57) (v1 := .int .u8 vk57) (v2 := .int .i64 vn57) (v3 := .slice va57 vl57 vc57) (v4 := .int .i64 n57) (v5 := .slice a57 l57 c57) (ha.cell hno (by go_simp)) (ha.cell hno (by go_simp)) (ha.cell hno (by go_simp)) (ha.cell hno (by go_simp)) (ha.cell hno (by go_simp)) (ha.cell hno (by go_simp)) (h57 W2 ha.al) (prow_cons (v0 := .int .u8 k59) (v1 := .int .u8 vk59) (v2 := .int .i64 vn59) (v3 := .slice va59 vl59 vc59) (v4 := .int .i64 n59) (v5 := .slice a59 l59 c59) (ha.cell hno (by go_simp)) (ha.cell hno (by go_simp)) (ha.cell hno (by go_simp)) (ha.cell hno (by go_simp)) (ha.cell hno (by go_simp)) (ha.cell hno (by go_simp)) (h59 W2 ha.al) (prow_cons (v0 := .int .u8 k62) (v1 := .int .u8 vk62) (v2 := .int .i64 vn62) (v3 := .slice va62 vl62 vc62) (v4 := .int .i64 n62) (v5 := .slice a62 l62 c62) (ha.cell hno (by go_simp)) (ha.cell hno (by go_simp)) (ha.cell hno (by go_simp)) (ha.cell hno (by go_simp)) (ha.cell hno (by go_simp)) (ha.cell hno (by go_simp)) (h62 W2 ha.al) prow_nil))))))))⟩
            · intro r W X hc hf hs hX hd hB
              have hBV := HBV.out W hB
              obtain ⟨qa, qn, qc, e, hqn, hqr⟩ : PQ.okX (.row [wideA, wideA, wideA, wideA, wideA, wideA, wideA, (tO (yesL 55))]) (r (.tmp 63)) W X := hd 63 (by kernel_rfl)
              exact sb_call (f := 13) (args := #[.slice qa qn qc]) rfl (by decide) (by go_simp) (madeX (fun k hk => (hX k hk).2) (pand_n hqn (by rw [hqn]; simp) (hqr W (Agree.refl _ _))))
            · intro r W X hc hf hs hX hd hB
              exact sb_block (w' := W.alloc (.cells #[.int .u8 0, .int .u8 0, .int .i64 0, .slice none 0 0, .int .i64 0, .slice none 0 0] 28)) rfl (by go_simp) (Below.al _) (by simp) (fun X => ⟨W.heap.size, rfl, by simp, RowAt.new W _ _⟩)
          intro f w' fuel Y hfuel hfd hnew hap hB'
          have h64 : PQ.okX (.pred fullP) (f 64) w' Y := hfd 64 (of_decide_eq_true (by kernel_rfl))
          obtain ⟨b7, e7, -, R7⟩ : PQ.okX (.box 28 6) (f 7) w' Y := hfd 7 (of_decide_eq_true (by kernel_rfl))
          obtain ⟨c7, e7', lo7, lt7, Y7⟩ := hnew 7 (by simp) (of_decide_eq_true (by kernel_rfl))
          unfold IsBlock at e7 e7'
          rw [e7] at e7'
          cases e7'
          obtain ⟨k1, vk1, vn1, va1, vl1, vc1, nn1, a1, l1, c1, e64⟩ := PIn.agg (h64 w' (Agree.refl _ _))
          rw [e64] at h64
          obtain ⟨x0, x1, x2, x3, x4, x5, d0, d1, d2, d3, d4, d5⟩ : ∃ x0 x1 x2 x3 x4 x5, w'.cell? ⟨b7, 0, none⟩ = some x0 ∧ w'.cell? ⟨b7, 1, none⟩ = some x1 ∧ w'.cell? ⟨b7, 2, none⟩ = some x2 ∧ w'.cell? ⟨b7, 3, none⟩ = some x3 ∧ w'.cell? ⟨b7, 4, none⟩ = some x4 ∧ w'.cell? ⟨b7, 5, none⟩ = some x5 := by
            obtain ⟨x0, d0⟩ := R7.cell 0 (by omega); obtain ⟨x1, d1⟩ := R7.cell 1 (by omega); obtain ⟨x2, d2⟩ := R7.cell 2 (by omega); obtain ⟨x3, d3⟩ := R7.cell 3 (by omega); obtain ⟨x4, d4⟩ := R7.cell 4 (by omega); obtain ⟨x5, d5⟩ := R7.cell 5 (by omega)
            exact ⟨x0, x1, x2, x3, x4, x5, d0, d1, d2, d3, d4, d5⟩
          have fz0 := R7.frozen 0
          have fz1 := R7.frozen 1
          have fz2 := R7.frozen 2
          have fz3 := R7.frozen 3
          have fz4 := R7.frozen 4
          have fz5 := R7.frozen 5
          have hag := agree_set6 (Agree.refl Y w') Y7 (.int .u8 k1) (.int .u8 vk1) (.int .i64 vn1) (.slice va1 vl1 vc1) (.int .i64 nn1) (.slice a1 l1 c1)
          obtain ⟨wF, hwF, z0, z1, z2, z3, z4, z5, k6, f6, sz6, bl6⟩ := set6_all (u0 := .int .u8 k1) (u1 := .int .u8 vk1) (u2 := .int .i64 vn1) (u3 := .slice va1 vl1 vc1) (u4 := .int .i64 nn1) (u5 := .slice a1 l1 c1) d0 d1 d2 d3 d4 d5
          rw [hwF] at hag
          obtain ⟨fuel, rfl⟩ : ∃ k, fuel = k + 1 := ⟨fuel - 1, by have h2 : 1 ≤ fuel := hfuel; omega⟩
          rw [show dstsTo 20 _ = [46, 47, 48, 49, 50, 51, 52, 53, 54, 55, 56, 57, 58, 59, 60, 61, 62, 63, 64, 7] from by kernel_rfl]
          simp only [fill, List.setIfInBounds_toArray, List.set_cons_succ, List.set_cons_zero, e64, e7]
          refine wpAny_next (i := 20) (by kernel_rfl) (by rfl) rfl (wp_skip (w' := wF) (by go_simp) rfl ?_)
          refine wpAny_done (by kernel_rfl) ?_ _
          have hBw := HBV.out w' hB'
          have hBF : Below wV.heap.size wV wF := bl6 _ _ hBw lo7
          have HFP : Hid (BoxP wF b7 fullP) := Lib.hid ⟨_, _, _, _, _, _, _, _, _, _, z0, z1, z2, z3, z4, z5, h64 wF hag⟩
          clear hag h64 e64 e7 hap hnew hfd fz0 fz1 fz2 fz3 fz4 fz5 d0 d1 d2 d3 d4 d5 z0 z1 z2 z3 z4 z5 k6 f6 sz6 bl6 R7 lo7 lt7 Y7 hBw hwF hfuel hB'
          have HZF := Lib.hid (fun k hk => (HZS.out k hk).below hBF)
          clear HZS HBV
          have HZS := HZF
          clear HZF
          have HBV := Lib.hid (fun W (h : Below wF.drew.heap.size wF.drew W) => (Below.refl _ wF).drew.trans h)
          have hVF := hV.trans (hBF.mono hV.size)
          clear hV
          have bsz := hBF.size
          clear hBF
          go_wp2_with fail
          refine wp_region_blocks [8] (kindX [(65, .fixed (.slice (some ⟨wR.heap.size, 0, none⟩) 64 64)), (66, .pred wideA), (67, .fixed (.slice (some ⟨wR.heap.size, 0, none⟩) 64 64)), (68, .pred wideA), (69, .fixed (.slice (some ⟨wR.heap.size, 0, none⟩) 64 64)), (70, .pred wideA), (71, .fixed (.slice (some ⟨wR.heap.size, 0, none⟩) 64 64)), (72, .pred wideA), (73, .fixed (.slice (some ⟨wR.heap.size, 0, none⟩) 64 64)), (74, .pred wideA), (75, .fixed (.slice (some ⟨wR.heap.size, 0, none⟩) 64 64)), (76, .pred wideA), (77, .fixed (.slice (some ⟨wR.heap.size, 0, none⟩) 64 64)), (78, .pred wideA), (79, .fixed (.slice (some ⟨wR.heap.size, 0, none⟩) 64 64)), (80, .fixed (.slice (some ⟨wR.heap.size, 0, none⟩) 56 64)), (81, .pred (tO (yesL 56))), (82, .row [wideA, wideA, wideA, wideA, wideA, wideA, wideA, (tO (yesL 56))]), (83, .pred moreP), (8, .box 28 6)]) 20 334 (by kernel_rfl) (by kernel_rfl) (by kernel_rfl) (by rfl) (by rfl) (kindX_sub _) (kindX_grow _) ?_ ?_
          · refine (fm ?_ (fm ?_ (fm ?_ (fm ?_ (fm ?_ (fm ?_ (fm ?_ (fm ?_ (fm ?_ (fm ?_ (fm ?_ (fm ?_ (fm ?_ (fm ?_ (fm ?_ (fm ?_ (fm ?_ (fm ?_ (fm ?_ (fm ?_ fmnil))))))))))))))))))))
            · intro r W X hc hf hs hX hd hB
              have hBV := HBV.out W hB
              have e : r (.tmp 5) = .slice (some ⟨wR.heap.size, 0, none⟩) 64 64 := hs 5 (of_decide_eq_true (by kernel_rfl))
              exact sb_value (v := .slice (some ⟨wR.heap.size, 0, none⟩) 64 64) rfl (by decide) (by go_simp) rfl
            · intro r W X hc hf hs hX hd hB
              have hBV := HBV.out W hB
              have e : r (.tmp 65) = .slice (some ⟨wR.heap.size, 0, none⟩) 64 64 := hd 65 (by kernel_rfl)
              exact sb_call (f := 13) (args := #[.slice (some ⟨wR.heap.size, 0, none⟩) 64 64]) rfl (by decide) (by go_simp) (madeX (fun k hk => (hX k hk).2) (pand_n (l := yesL 64) (by simp [yesL]) (by omega) ((HZS.out 64 (by omega)).below hBV)))
            · intro r W X hc hf hs hX hd hB
              have hBV := HBV.out W hB
              have e : r (.tmp 5) = .slice (some ⟨wR.heap.size, 0, none⟩) 64 64 := hs 5 (of_decide_eq_true (by kernel_rfl))
              exact sb_value (v := .slice (some ⟨wR.heap.size, 0, none⟩) 64 64) rfl (by decide) (by go_simp) rfl
            · intro r W X hc hf hs hX hd hB
              have hBV := HBV.out W hB
              have e : r (.tmp 67) = .slice (some ⟨wR.heap.size, 0, none⟩) 64 64 := hd 67 (by kernel_rfl)
              exact sb_call (f := 13) (args := #[.slice (some ⟨wR.heap.size, 0, none⟩) 64 64]) rfl (by decide) (by go_simp) (madeX (fun k hk => (hX k hk).2) (pand_n (l := yesL 64) (by simp [yesL]) (by omega) ((HZS.out 64 (by omega)).below hBV)))
            · intro r W X hc hf hs hX hd hB
              have hBV := HBV.out W hB
              have e : r (.tmp 5) = .slice (some ⟨wR.heap.size, 0, none⟩) 64 64 := hs 5 (of_decide_eq_true (by kernel_rfl))
              exact sb_value (v := .slice (some ⟨wR.heap.size, 0, none⟩) 64 64) rfl (by decide) (by go_simp) rfl
            · intro r W X hc hf hs hX hd hB
              have hBV := HBV.out W hB
              have e : r (.tmp 69) = .slice (some ⟨wR.heap.size, 0, none⟩) 64 64 := hd 69 (by kernel_rfl)
              exact sb_call (f := 13) (args := #[.slice (some ⟨wR.heap.size, 0, none⟩) 64 64]) rfl (by decide) (by go_simp) (madeX (fun k hk => (hX k hk).2) (pand_n (l := yesL 64) (by simp [yesL]) (by omega) ((HZS.out 64 (by omega)).below hBV)))
            · intro r W X hc hf hs hX hd hB
              have hBV := HBV.out W hB
              have e : r (.tmp 5) = .slice (some ⟨wR.heap.size, 0, none⟩) 64 64 := hs 5 (of_decide_eq_true (by kernel_rfl))
              exact sb_value (v := .slice (some ⟨wR.heap.size, 0, none⟩) 64 64) rfl (by decide) (by go_simp) rfl
            · intro r W X hc hf hs hX hd hB
              have hBV := HBV.out W hB
              have e : r (.tmp 71) = .slice (some ⟨wR.heap.size, 0, none⟩) 64 64 := hd 71 (by kernel_rfl)
              exact sb_call (f := 13) (args := #[.slice (some ⟨wR.heap.size, 0, none⟩) 64 64]) rfl (by decide) (by go_simp) (madeX (fun k hk => (hX k hk).2) (pand_n (l := yesL 64) (by simp [yesL]) (by omega) ((HZS.out 64 (by omega)).below hBV)))
            · intro r W X hc hf hs hX hd hB
              have hBV := HBV.out W hB
              have e : r (.tmp 5) = .slice (some ⟨wR.heap.size, 0, none⟩) 64 64 := hs 5 (of_decide_eq_true (by kernel_rfl))
              exact sb_value (v := .slice (some ⟨wR.heap.size, 0, none⟩) 64 64) rfl (by decide) (by go_simp) rfl
            · intro r W X hc hf hs hX hd hB
              have hBV := HBV.out W hB
              have e : r (.tmp 73) = .slice (some ⟨wR.heap.size, 0, none⟩) 64 64 := hd 73 (by kernel_rfl)
              exact sb_call (f := 13) (args := #[.slice (some ⟨wR.heap.size, 0, none⟩) 64 64]) rfl (by decide) (by go_simp) (madeX (fun k hk => (hX k hk).2) (pand_n (l := yesL 64) (by simp [yesL]) (by omega) ((HZS.out 64 (by omega)).below hBV)))
            · intro r W X hc hf hs hX hd hB
              have hBV := HBV.out W hB
              have e : r (.tmp 5) = .slice (some ⟨wR.heap.size, 0, none⟩) 64 64 := hs 5 (of_decide_eq_true (by kernel_rfl))
              exact sb_value (v := .slice (some ⟨wR.heap.size, 0, none⟩) 64 64) rfl (by decide) (by go_simp) rfl
            · intro r W X hc hf hs hX hd hB
              have hBV := HBV.out W hB
              have e : r (.tmp 75) = .slice (some ⟨wR.heap.size, 0, none⟩) 64 64 := hd 75 (by kernel_rfl)
              exact sb_call (f := 13) (args := #[.slice (some ⟨wR.heap.size, 0, none⟩) 64 64]) rfl (by decide) (by go_simp) (madeX (fun k hk => (hX k hk).2) (pand_n (l := yesL 64) (by simp [yesL]) (by omega) ((HZS.out 64 (by omega)).below hBV)))
            · intro r W X hc hf hs hX hd hB
              have hBV := HBV.out W hB
              have e : r (.tmp 5) = .slice (some ⟨wR.heap.size, 0, none⟩) 64 64 := hs 5 (of_decide_eq_true (by kernel_rfl))
              exact sb_value (v := .slice (some ⟨wR.heap.size, 0, none⟩) 64 64) rfl (by decide) (by go_simp) rfl
            · intro r W X hc hf hs hX hd hB
              have hBV := HBV.out W hB
              have e : r (.tmp 77) = .slice (some ⟨wR.heap.size, 0, none⟩) 64 64 := hd 77 (by kernel_rfl)
              exact sb_call (f := 13) (args := #[.slice (some ⟨wR.heap.size, 0, none⟩) 64 64]) rfl (by decide) (by go_simp) (madeX (fun k hk => (hX k hk).2) (pand_n (l := yesL 64) (by simp [yesL]) (by omega) ((HZS.out 64 (by omega)).below hBV)))
            · intro r W X hc hf hs hX hd hB
              have hBV := HBV.out W hB
              have e : r (.tmp 5) = .slice (some ⟨wR.heap.size, 0, none⟩) 64 64 := hs 5 (of_decide_eq_true (by kernel_rfl))
              exact sb_value (v := .slice (some ⟨wR.heap.size, 0, none⟩) 64 64) rfl (by decide) (by go_simp) rfl
            · intro r W X hc hf hs hX hd hB
              have hBV := HBV.out W hB
              have e : r (.tmp 79) = .slice (some ⟨wR.heap.size, 0, none⟩) 64 64 := hd 79 (by kernel_rfl)
              exact sb_value (v := .slice (some ⟨wR.heap.size, 0, none⟩) 56 64) rfl (by decide) (by go_simp) rfl
            · intro r W X hc hf hs hX hd hB
              have hBV := HBV.out W hB
              have e : r (.tmp 80) = .slice (some ⟨wR.heap.size, 0, none⟩) 56 64 := hd 80 (by kernel_rfl)
              exact sb_call (f := 14) (args := #[.slice (some ⟨wR.heap.size, 0, none⟩) 56 64]) rfl (by decide) (by go_simp) (madeX (fun k hk => (hX k hk).2) (por_n (l := yesL 56) (by simp [yesL]) (by omega) ((HZS.out 56 (by omega)).below hBV)))
            · intro r W X hc hf hs hX hd hB
              have hBV := HBV.out W hB
              have h66 : PQ.okX (.pred wideA) (r (.tmp 66)) W X := hd 66 (by kernel_rfl)
              obtain ⟨k66, vk66, vn66, va66, vl66, vc66, n66, a66, l66, c66, e66⟩ := PIn.agg (h66 W (Agree.refl _ _))
              rw [e66] at h66
              have h68 : PQ.okX (.pred wideA) (r (.tmp 68)) W X := hd 68 (by kernel_rfl)
              obtain ⟨k68, vk68, vn68, va68, vl68, vc68, n68, a68, l68, c68, e68⟩ := PIn.agg (h68 W (Agree.refl _ _))
              rw [e68] at h68
              have h70 : PQ.okX (.pred wideA) (r (.tmp 70)) W X := hd 70 (by kernel_rfl)
              obtain ⟨k70, vk70, vn70, va70, vl70, vc70, n70, a70, l70, c70, e70⟩ := PIn.agg (h70 W (Agree.refl _ _))
              rw [e70] at h70
              have h72 : PQ.okX (.pred wideA) (r (.tmp 72)) W X := hd 72 (by kernel_rfl)
              obtain ⟨k72, vk72, vn72, va72, vl72, vc72, n72, a72, l72, c72, e72⟩ := PIn.agg (h72 W (Agree.refl _ _))
              rw [e72] at h72
              have h74 : PQ.okX (.pred wideA) (r (.tmp 74)) W X := hd 74 (by kernel_rfl)
              obtain ⟨k74, vk74, vn74, va74, vl74, vc74, n74, a74, l74, c74, e74⟩ := PIn.agg (h74 W (Agree.refl _ _))
              rw [e74] at h74
              have h76 : PQ.okX (.pred wideA) (r (.tmp 76)) W X := hd 76 (by kernel_rfl)
              obtain ⟨k76, vk76, vn76, va76, vl76, vc76, n76, a76, l76, c76, e76⟩ := PIn.agg (h76 W (Agree.refl _ _))
              rw [e76] at h76
              have h78 : PQ.okX (.pred wideA) (r (.tmp 78)) W X := hd 78 (by kernel_rfl)
              obtain ⟨k78, vk78, vn78, va78, vl78, vc78, n78, a78, l78, c78, e78⟩ := PIn.agg (h78 W (Agree.refl _ _))
              rw [e78] at h78
              have h81 : PQ.okX (.pred (tO (yesL 56))) (r (.tmp 81)) W X := hd 81 (by kernel_rfl)
              obtain ⟨k81, vk81, vn81, va81, vl81, vc81, n81, a81, l81, c81, e81⟩ := PIn.agg (h81 W (Agree.refl _ _))
              rw [e81] at h81
              have hno : ¬ X W.heap.size := fun hx => absurd (hX _ hx).2 (Nat.lt_irrefl _)
              exact sb_new (v := .slice (some ⟨W.heap.size, 0, none⟩) 8 8) (w' := W.alloc (.cells #[.int .u8 k66, .int .u8 vk66, .int .i64 vn66, .slice va66 vl66 vc66, .int .i64 n66, .slice a66 l66 c66, .int .u8 k68, .int .u8 vk68, .int .i64 vn68, .slice va68 vl68 vc68, .int .i64 n68, .slice a68 l68 c68, .int .u8 k70, .int .u8 vk70, .int .i64 vn70, .slice va70 vl70 vc70, .int .i64 n70, .slice a70 l70 c70, .int .u8 k72, .int .u8 vk72, .int .i64 vn72, .slice va72 vl72 vc72, .int .i64 n72, .slice a72 l72 c72, .int .u8 k74, .int .u8 vk74, .int .i64 vn74, .slice va74 vl74 vc74, .int .i64 n74, .slice a74 l74 c74, .int .u8 k76, .int .u8 vk76, .int .i64 vn76, .slice va76 vl76 vc76, .int .i64 n76, .slice a76 l76 c76, .int .u8 k78, .int .u8 vk78, .int .i64 vn78, .slice va78 vl78 vc78, .int .i64 n78, .slice a78 l78 c78, .int .u8 k81, .int .u8 vk81, .int .i64 vn81, .slice va81 vl81 vc81, .int .i64 n81, .slice a81 l81 c81] 28)) rfl (by decide) (by go_simp) (Below.al _) ⟨_, _, _, rfl, rfl, fun W2 ha => (prow_cons (v0 := .int .u8 k66) (v1 := .int .u8 vk66) (v2 := .int .i64 vn66) (v3 := .slice va66 vl66 vc66) (v4 := .int .i64 n66) (v5 := .slice a66 l66 c66) (ha.cell hno (by go_simp)) (ha.cell hno (by go_simp)) (ha.cell hno (by go_simp)) (ha.cell hno (by go_simp)) (ha.cell hno (by go_simp)) (ha.cell hno (by go_simp)) (h66 W2 ha.al) (prow_cons (v0 := .int .u8 k68) (v1 := .int .u8 vk68) (v2 := .int .i64 vn68) (v3 := .slice va68 vl68 vc68) (v4 := .int .i64 n68) (v5 := .slice a68 l68 c68) (ha.cell hno (by go_simp)) (ha.cell hno (by go_simp)) (ha.cell hno (by go_simp)) (ha.cell hno (by go_simp)) (ha.cell hno (by go_simp)) (ha.cell hno (by go_simp)) (h68 W2 ha.al) (prow_cons (v0 := .int .u8 k70) (v1 := .int .u8 vk70) (v2 := .int .i64 vn70) (v3 := .slice va70 vl70 vc70) (v4 := .int .i64 n70) (v5 := .slice a70 l70 c70) (ha.cell hno (by go_simp)) (ha.cell hno (by go_simp)) (ha.cell hno (by go_simp)) (ha.cell hno (by go_simp)) (ha.cell hno (by go_simp)) (ha.cell hno (by go_simp)) (h70 W2 ha.al) (prow_cons (v0 := .int .u8 k72) (v1 := .int .u8 vk72) (v2 := .int .i64 vn72) (v3 := .slice va72 vl72 vc72) (v4 := .int .i64 n72) (v5 := .slice a72 l72 c72) (ha.cell hno (by go_simp)) (ha.cell hno (by go_simp)) (ha.cell hno (by go_simp)) (ha.cell hno (by go_simp)) (ha.cell hno (by go_simp)) (ha.cell hno (by go_simp)) (h72 W2 ha.al) (prow_cons (v0 := .int .u8 k74) (v1 := .int .u8 vk74) (v2 := .int .i64 vn74) (v3 := .slice va74 vl74 vc74) (v4 := .int .i64 n74) (v5 := .slice a74 l74 c74) (ha.cell hno (by go_simp)) (ha.cell hno (by go_simp)) (ha.cell hno (by go_simp)) (ha.cell hno (by go_simp)) (ha.cell hno (by go_simp)) (ha.cell hno (by go_simp)) (h74 W2 ha.al) (prow_cons (v0 := .int .u8 k76) (v1 := .int .u8 vk76) (v2 := .int .i64 vn76) (v3 := .slice va76 vl76 vc76) (v4 := .int .i64 n76) (v5 := .slice a76 l76 c76) (ha.cell hno (by go_simp)) (ha.cell hno (by go_simp)) (ha.cell hno (by go_simp)) (ha.cell hno (by go_simp)) (ha.cell hno (by go_simp)) (ha.cell hno (by go_simp)) (h76 W2 ha.al) (prow_cons (v0 := .int .u8 k78) (v1 := .int .u8 vk78) (v2 := .int .i64 vn78) (v3 := .slice va78 vl78 vc78) (v4 := .int .i64 n78) (v5 := .slice a78 l78 c78) (ha.cell hno (by go_simp)) (ha.cell hno (by go_simp)) (ha.cell hno (by go_simp)) (ha.cell hno (by go_simp)) (ha.cell hno (by go_simp)) (ha.cell hno (by go_simp)) (h78 W2 ha.al) (prow_cons (v0 := .int .u8 k81) (v1 := .int .u8 vk81) (v2 := .int .i64 vn81) (v3 := .slice va81 vl81 vc81) (v4 := .int .i64 n81) (v5 := .slice a81 l81 c81) (ha.cell hno (by go_simp)) (ha.cell hno (by go_simp)) (ha.cell hno (by go_simp)) (ha.cell hno (by go_simp)) (ha.cell hno (by go_simp)) (ha.cell hno (by go_simp)) (h81 W2 ha.al) prow_nil))))))))⟩
            · intro r W X hc hf hs hX hd hB
              have hBV := HBV.out W hB
              obtain ⟨qa, qn, qc, e, hqn, hqr⟩ : PQ.okX (.row [wideA, wideA, wideA, wideA, wideA, wideA, wideA, (tO (yesL 56))]) (r (.tmp 82)) W X := hd 82 (by kernel_rfl)
              exact sb_call (f := 13) (args := #[.slice qa qn qc]) rfl (by decide) (by go_simp) (madeX (fun k hk => (hX k hk).2) (pand_n hqn (by rw [hqn]; simp) (hqr W (Agree.refl _ _))))
            · intro r W X hc hf hs hX hd hB
              exact sb_block (w' := W.alloc (.cells #[.int .u8 0, .int .u8 0, .int .i64 0, .slice none 0 0, .int .i64 0, .slice none 0 0] 28)) rfl (by go_simp) (Below.al _) (by simp) (fun X => ⟨W.heap.size, rfl, by simp, RowAt.new W _ _⟩)
          intro f w' fuel Y hfuel hfd hnew hap hB'
          have h83 : PQ.okX (.pred moreP) (f 83) w' Y := hfd 83 (of_decide_eq_true (by kernel_rfl))
          obtain ⟨b8, e8, -, R8⟩ : PQ.okX (.box 28 6) (f 8) w' Y := hfd 8 (of_decide_eq_true (by kernel_rfl))
          obtain ⟨c8, e8', lo8, lt8, Y8⟩ := hnew 8 (by simp) (of_decide_eq_true (by kernel_rfl))
          unfold IsBlock at e8 e8'
          rw [e8] at e8'
          cases e8'
          obtain ⟨k1, vk1, vn1, va1, vl1, vc1, nn1, a1, l1, c1, e83⟩ := PIn.agg (h83 w' (Agree.refl _ _))
          rw [e83] at h83
          obtain ⟨x0, x1, x2, x3, x4, x5, d0, d1, d2, d3, d4, d5⟩ : ∃ x0 x1 x2 x3 x4 x5, w'.cell? ⟨b8, 0, none⟩ = some x0 ∧ w'.cell? ⟨b8, 1, none⟩ = some x1 ∧ w'.cell? ⟨b8, 2, none⟩ = some x2 ∧ w'.cell? ⟨b8, 3, none⟩ = some x3 ∧ w'.cell? ⟨b8, 4, none⟩ = some x4 ∧ w'.cell? ⟨b8, 5, none⟩ = some x5 := by
            obtain ⟨x0, d0⟩ := R8.cell 0 (by omega); obtain ⟨x1, d1⟩ := R8.cell 1 (by omega); obtain ⟨x2, d2⟩ := R8.cell 2 (by omega); obtain ⟨x3, d3⟩ := R8.cell 3 (by omega); obtain ⟨x4, d4⟩ := R8.cell 4 (by omega); obtain ⟨x5, d5⟩ := R8.cell 5 (by omega)
            exact ⟨x0, x1, x2, x3, x4, x5, d0, d1, d2, d3, d4, d5⟩
          have fz0 := R8.frozen 0
          have fz1 := R8.frozen 1
          have fz2 := R8.frozen 2
          have fz3 := R8.frozen 3
          have fz4 := R8.frozen 4
          have fz5 := R8.frozen 5
          have hag := agree_set6 (Agree.refl Y w') Y8 (.int .u8 k1) (.int .u8 vk1) (.int .i64 vn1) (.slice va1 vl1 vc1) (.int .i64 nn1) (.slice a1 l1 c1)
          obtain ⟨wM, hwM, z0, z1, z2, z3, z4, z5, k6, f6, sz6, bl6⟩ := set6_all (u0 := .int .u8 k1) (u1 := .int .u8 vk1) (u2 := .int .i64 vn1) (u3 := .slice va1 vl1 vc1) (u4 := .int .i64 nn1) (u5 := .slice a1 l1 c1) d0 d1 d2 d3 d4 d5
          rw [hwM] at hag
          obtain ⟨fuel, rfl⟩ : ∃ k, fuel = k + 1 := ⟨fuel - 1, by have h2 : 1 ≤ fuel := hfuel; omega⟩
          rw [show dstsTo 20 _ = [65, 66, 67, 68, 69, 70, 71, 72, 73, 74, 75, 76, 77, 78, 79, 80, 81, 82, 83, 8] from by kernel_rfl]
          simp only [fill, List.setIfInBounds_toArray, List.set_cons_succ, List.set_cons_zero, e83, e8]
          refine wpAny_next (i := 20) (by kernel_rfl) (by rfl) rfl (wp_skip (w' := wM) (by go_simp) rfl ?_)
          refine wpAny_done (by kernel_rfl) ?_ _
          have hBw := HBV.out w' hB'
          have hBM : Below wF.heap.size wF wM := bl6 _ _ hBw lo8
          have HMP : Hid (BoxP wM b8 moreP) := Lib.hid ⟨_, _, _, _, _, _, _, _, _, _, z0, z1, z2, z3, z4, z5, h83 wM hag⟩
          replace HFP := Lib.hid (HFP.out.below hBM)
          clear hag h83 e83 e8 hap hnew hfd fz0 fz1 fz2 fz3 fz4 fz5 d0 d1 d2 d3 d4 d5 z0 z1 z2 z3 z4 z5 k6 f6 sz6 bl6 R8 lo8 lt8 Y8 hBw hwM hfuel hB'
          have hRM := hVF.trans (hBM.mono hVF.size)
          have HZM := Lib.hid (fun k hk => (HZS.out k hk).below hBM)
          clear hVF hBM bsz HBV HZS
          have HZS := HZM
          clear HZM
          replace hB := hB.trans (hRM.mono hB.size)
          obtain ⟨wZ, hwZ, mZ, RZ⟩ : ∃ wZ, wM.alloc (.cells (zeroCells 64) 25) = wZ ∧ Below wM.heap.size wM wZ ∧ RowAt wZ 25 wM.heap.size (64 * 3) := ⟨_, rfl, Below.al _, by have := RowAt.new wM (zeroCells 64) 25; rwa [zeroCells_size] at this⟩
          have hmk : (Instr.makeSlice 23 (.int .i64 64) (.int .i64 64)).run Try.prog wM = .ok (.slice (some ⟨wM.heap.size, 0, none⟩) 64 64) wZ := by rw [← hwZ]; exact make_vals 64 (by omega) wM
          have hz64 : VIn wZ (.mk 4 0 zeroV64) (.agg #[.int .u8 4, .int .i64 0, .slice (some ⟨wM.heap.size, 0, none⟩) 64 64]) := by
            rw [VIn]
            exact ⟨_, 64, by simp [zeroV64], by simp [zeroV64], hwZ ▸ vrow_zero wM 64 _⟩
          have HZ64 := Lib.hid hz64; clear hz64 hwZ
          go_wp2_with fail
          clear hmk
          refine (peq_any (.mk 4 0 zeroV64) _ _ HZ64.out).mono ?_
          rintro e w7 ⟨xz, rfl, hf, hb7⟩
          obtain ⟨c9, rfl⟩ := PIn.pc (PFIn.pin _ _ hf)
          have hin9 := PFIn.pin _ _ hf
          have hMZ : Below wM.heap.size wM w7 := mZ.trans (hb7.mono mZ.size)
          obtain ⟨w8, hw8, m8, -, q0, q1, q2, q3, q4, q5⟩ := box6 w7 (.int .u8 c9.k) (.int .u8 c9.vk) (.int .i64 c9.vn) (.slice c9.va c9.vl c9.vc) (.int .i64 c9.n) (.slice c9.a c9.len c9.cap) 28
          have hM8 : Below wM.heap.size wM w8 := hMZ.trans (m8.mono hMZ.size)
          have hR8 : Below wR.heap.size wR w8 := hRM.trans (hM8.mono hRM.size)
          obtain ⟨b1, hb1⟩ : ∃ b, b = w1.heap.size := ⟨_, rfl⟩
          obtain ⟨b2, hb2⟩ : ∃ b, b = w3.heap.size := ⟨_, rfl⟩
          obtain ⟨b3, hb3⟩ : ∃ b, b = w4.heap.size := ⟨_, rfl⟩
          obtain ⟨bw, hbw⟩ : ∃ b, b = wR.heap.size := ⟨_, rfl⟩
          obtain ⟨b9, hb9⟩ : ∃ b, b = w7.heap.size := ⟨_, rfl⟩
          obtain ⟨DP, hDP⟩ : ∃ X, X = deepP 11 := ⟨_, rfl⟩
          obtain ⟨FU, hFU⟩ : ∃ X, X = fullP := ⟨_, rfl⟩
          obtain ⟨MO, hMO⟩ : ∃ X, X = moreP := ⟨_, rfl⟩
          obtain ⟨BI, hBI⟩ : ∃ X, X = bigP := ⟨_, rfl⟩
          obtain ⟨Y64, hY64⟩ : ∃ X, X = yesL 64 := ⟨_, rfl⟩
          obtain ⟨Y65, hY65⟩ : ∃ X, X = yesL 64 ++ [tYes] := ⟨_, rfl⟩
          have HV1 : Hid (BoxV w8 b1 num5) := Lib.hid (by rw [hb1]; exact ⟨1, 5, none, 0, 0, cell_stays hR8 n0, cell_stays hR8 n1, cell_stays hR8 n2, VIn.leaf 1 5⟩)
          have HP2 : Hid (BoxP w8 b2 tYes) := Lib.hid (by rw [hb2]; exact ⟨_, _, _, _, _, _, _, _, _, _, cell_stays hR8 y0, cell_stays hR8 y1, cell_stays hR8 y2, cell_stays hR8 y3, cell_stays hR8 y4, cell_stays hR8 y5, hy.below hR8⟩)
          have HP3 : Hid (BoxP w8 b3 DP) := Lib.hid (by rw [hb3, hDP]; exact BoxP.below HBD.out hR8)
          have HP7 : Hid (BoxP w8 b7 FU) := Lib.hid (by rw [hFU]; exact BoxP.below HFP.out hM8)
          have HP8 : Hid (BoxP w8 b8 MO) := Lib.hid (by rw [hMO]; exact BoxP.below HMP.out hM8)
          have HP9 : Hid (BoxP w8 b9 BI) := Lib.hid (by rw [hb9, hBI]; exact ⟨c9.k, c9.vk, c9.vn, c9.va, c9.vl, c9.vc, c9.n, c9.a, c9.len, c9.cap, q0, q1, q2, q3, q4, q5, hin9.below m8⟩)
          have HZ : Hid (∀ k, k ≤ 64 → PRow w8 (yesL k) (some ⟨bw, 0, none⟩)) := Lib.hid (by rw [hbw]; exact fun k hk => (HZS.out k hk).below hM8)
          have HT1 : Hid (T1Fact (tab1G DP FU MO BI Y64 Y65)) := Lib.hid (by rw [hDP, hFU, hMO, hBI, hY64, hY65]; exact t1Fact_all)
          have HEG : Hid (EndsG DP FU) := Lib.hid (by rw [hDP, hFU]; exact endsG_all)
          have HY : Hid (Y64 = yesL 64 ∧ Y64.length = 64 ∧ Y64 ++ [tYes] = Y65 ∧ Y65.length = 65) := Lib.hid ⟨hY64, by rw [hY64]; simp [yesL], by rw [hY64, hY65], by rw [hY65]; simp [yesL]⟩
          have hB8 : Below w.heap.size w w8 := hB.trans (hM8.mono hB.size)
          try rw [← hb1]
          try rw [← hb2]
          try rw [← hb3]
          try rw [← hbw]
          clear hDP hFU hMO hBI hY64 hY65 hin9 hMZ m8 q0 q1 q2 q3 q4 q5 hM8 hR8 hb1 hb2 hb3 hbw HBD HFP HMP HZS hB hRM mZ RZ HZ64 hf hb7 n0 n1 n2 y0 y1 y2 y3 y4 y5 hy
          simp only [PC.cells]
          go_wp2_with fail
          rw [← hb9]
          clear hw8 hb9
          have HBV := Lib.hid (fun W (h : Below w8.drew.heap.size w8.drew W) => (Below.refl _ w8).drew.trans h)
          try simp only [List.append_eq, List.cons_append, List.nil_append]
          refine wp_region_allW (kindN [(87, .q (.pred (.mk 0 vNone 0 []))), (88, .prop (R1Ok (.mk 0 vNone 0 []) 0 11) (R1Ok.mono _ _ _)), (89, .q (.pred (.mk 12 vNone 0 []))), (90, .prop (R1Ok (.mk 12 vNone 0 []) 0 11) (R1Ok.mono _ _ _)), (91, .q (.val num5)), (92, .q (.pred (.mk 1 num5 0 []))), (93, .prop (R1Ok (.mk 1 num5 0 []) 0 3) (R1Ok.mono _ _ _)), (94, .q (.pred (.mk 3 vNone 0 []))), (95, .prop (R1Ok (.mk 3 vNone 0 []) 0 11) (R1Ok.mono _ _ _)), (96, .q (.val (.mk 2 2 []))), (97, .q (.pred (eqP (.mk 2 2 [])))), (98, .prop (R1Ok (eqP (.mk 2 2 [])) 0 1) (R1Ok.mono _ _ _)), (99, .q (.val num5)), (100, .q (.pred (.mk 3 num5 1 []))), (101, .prop (R1Ok (.mk 3 num5 1 []) 0 3) (R1Ok.mono _ _ _)), (102, .q (.pred tYes)), (103, .q (.pred (tAtp (-1) tYes))), (104, .prop (R1Ok (tAtp (-1) tYes) 0 1) (R1Ok.mono _ _ _)), (105, .q (.pred tYes)), (106, .q (.pred (tAtp 65 tYes))), (107, .prop (R1Ok (tAtp 65 tYes) 0 1) (R1Ok.mono _ _ _)), (108, .q (.pred tYes)), (109, .q (.pred (tAtp 64 tYes))), (110, .prop (R1Ok (tAtp 64 tYes) 0 0) (R1Ok.mono _ _ _)), (111, .q (.pred (.mk 8 vNone 65 []))), (112, .prop (R1Ok (.mk 8 vNone 65 []) 0 1) (R1Ok.mono _ _ _)), (113, .q (.pred (.mk 5 vNone 0 []))), (114, .prop (R1Ok (.mk 5 vNone 0 []) 0 4) (R1Ok.mono _ _ _)), (115, .q (.fixed (.slice (some ⟨bw, 0, none⟩) 64 64))), (116, .q (.row (yesL 1))), (117, .q (.pred (.mk 1 vNone 0 (yesL 1)))), (118, .prop (R1Ok (.mk 1 vNone 0 (yesL 1)) 0 5) (R1Ok.mono _ _ _)), (119, .q (.fixed (.slice (some ⟨bw, 0, none⟩) 64 64))), (120, .q (.row (yesL 2))), (121, .q (.pred (.mk 11 vNone 0 (yesL 2)))), (122, .prop (R1Ok (.mk 11 vNone 0 (yesL 2)) 0 5) (R1Ok.mono _ _ _)), (123, .q (.fixed (.slice (some ⟨bw, 0, none⟩) 64 64))), (124, .q (.pred tYes)), (125, .q (.row [tYes])), (126, .q (.row Y65)), (127, .q (.pred (tA Y65))), (128, .prop (R1Ok (tA Y65) 0 5) (R1Ok.mono _ _ _)), (129, .q (.fixed (.slice (some ⟨bw, 0, none⟩) 64 64))), (130, .q (.pred (tO Y64))), (131, .prop (R1Ok (tO Y64) 0 0) (R1Ok.mono _ _ _)), (132, .q (.pred DP)), (133, .prop (R1Ok DP 0 0) (R1Ok.mono _ _ _)), (134, .q (.pred DP)), (135, .q (.pred (tN DP))), (136, .prop (R1Ok (tN DP) 12 9) (R1Ok.mono _ _ _)), (137, .q (.pred tYes)), (138, .q (.pred tYes)), (139, .q (.pred (tN tYes))), (140, .q (.pred (.mk 13 vNone 0 []))), (141, .q (.pred (tAl (.mk 13 vNone 0 [])))), (142, .q (.row [tYes, tN tYes, tAl (.mk 13 vNone 0 [])])), (143, .q (.pred (tA [tYes, tN tYes, tAl (.mk 13 vNone 0 [])]))), (144, .prop (R1Ok (tA [tYes, tN tYes, tAl (.mk 13 vNone 0 [])]) 5 11) (R1Ok.mono _ _ _)), (145, .q (.pred FU)), (146, .prop (R1Ok FU 0 0) (R1Ok.mono _ _ _)), (147, .q (.pred MO)), (148, .prop (R1Ok MO 0 5) (R1Ok.mono _ _ _)), (149, .q (.pred BI)), (150, .prop (R1Ok BI 0 11) (R1Ok.mono _ _ _)), (151, .q (.val (.mk 0 1 []))), (152, .q (.pred (.mk 2 (.mk 0 1 []) 0 []))), (153, .q (.row [.mk 2 (.mk 0 1 []) 0 []])), (154, .q (.pred (.mk 5 vNone 0 [.mk 2 (.mk 0 1 []) 0 []]))), (155, .prop (R1Ok (.mk 5 vNone 0 [.mk 2 (.mk 0 1 []) 0 []]) 1 3) (R1Ok.mono _ _ _)), (156, .prop (T1Ok (tab1G DP FU MO BI Y64 Y65)) (T1Ok.mono _)), (157, .q (.fixed (.int .i64 22))), (158, .q (.fixed (.int .i64 0)))]) 334 (by kernel_rfl) (by kernel_rfl) (by rfl) (kindN_mono _) ?_ ?_
          · as_aux_lemma =>
            show ∀ o ∈ [(0, _), (1, _), (2, _), (3, _), (4, _), (5, _), (6, _), (7, _), (8, _), (9, _), (10, _), (11, _), (12, _), (13, _), (14, _), (15, _), (16, _), (17, _), (18, _), (19, _), (20, _), (21, _), (22, _), (23, _), (24, _), (25, _), (26, _), (27, _), (28, _), (29, _), (30, _), (31, _), (32, _), (33, _), (34, _), (35, _), (36, _), (37, _), (38, _), (39, _), (40, _), (41, _), (42, _), (43, _), (44, _), (45, _), (46, _), (47, _), (48, _), (49, _), (50, _), (51, _), (52, _), (53, _), (54, _), (55, _), (56, _), (57, _), (58, _), (59, _), (60, _), (61, _), (62, _), (63, _), (64, _), (65, _), (66, _), (67, _), (68, _), (69, _), (70, _), (71, _)], _
            refine (fm ?_ (fm ?_ (fm ?_ (fm ?_ (fm ?_ (fm ?_ (fm ?_ (fm ?_ (fm ?_ (fm ?_ (fm ?_ (fm ?_ (fm ?_ (fm ?_ (fm ?_ (fm ?_ (fm ?_ (fm ?_ (fm ?_ (fm ?_ (fm ?_ (fm ?_ (fm ?_ (fm ?_ (fm ?_ (fm ?_ (fm ?_ (fm ?_ (fm ?_ (fm ?_ (fm ?_ (fm ?_ (fm ?_ (fm ?_ (fm ?_ (fm ?_ (fm ?_ (fm ?_ (fm ?_ (fm ?_ (fm ?_ (fm ?_ (fm ?_ (fm ?_ (fm ?_ (fm ?_ (fm ?_ (fm ?_ (fm ?_ (fm ?_ (fm ?_ (fm ?_ (fm ?_ (fm ?_ (fm ?_ (fm ?_ (fm ?_ (fm ?_ (fm ?_ (fm ?_ (fm ?_ (fm ?_ (fm ?_ (fm ?_ (fm ?_ (fm ?_ (fm ?_ (fm ?_ (fm ?_ (fm ?_ (fm ?_ (fm ?_ fmnil))))))))))))))))))))))))))))))))))))))))))))))))))))))))))))))))))))))))
            · intro r W hc hf hs hd hB
              have hBV := HBV.out W hB
              refine want_n rfl ?_
              exact sn_value (v := .agg #[.int .u8 0, .int .u8 0, .int .i64 0, .slice none 0 0, .int .i64 0, .slice none 0 0]) rfl (by decide) (by go_simp) (PIn.shut (by simp) (VIn.leaf 0 0) prow_nil)
            · intro r W hc hf hs hd hB
              have hBV := HBV.out W hB
              refine want_n rfl ?_
              have h87 : PIn W (.mk 0 vNone 0 []) (r (.tmp 87)) := hd 87 (by kernel_rfl)
              obtain ⟨c87, e87⟩ := PIn.pc h87
              exact sn_value (v := .agg (R1cells c87 0 11)) rfl (by decide) (run_r1 c87 0 11 rfl e87 (hc _) (hc _)) ⟨c87, rfl, by rw [e87] at h87; exact h87⟩
            · intro r W hc hf hs hd hB
              have hBV := HBV.out W hB
              refine want_n rfl ?_
              exact sn_value (v := .agg #[.int .u8 12, .int .u8 0, .int .i64 0, .slice none 0 0, .int .i64 0, .slice none 0 0]) rfl (by decide) (by go_simp) (PIn.shut (by simp) (VIn.leaf 0 0) prow_nil)
            · intro r W hc hf hs hd hB
              have hBV := HBV.out W hB
              refine want_n rfl ?_
              have h89 : PIn W (.mk 12 vNone 0 []) (r (.tmp 89)) := hd 89 (by kernel_rfl)
              obtain ⟨c89, e89⟩ := PIn.pc h89
              exact sn_value (v := .agg (R1cells c89 0 11)) rfl (by decide) (run_r1 c89 0 11 rfl e89 (hc _) (hc _)) ⟨c89, rfl, by rw [e89] at h89; exact h89⟩
            · intro r W hc hf hs hd hB
              have hBV := HBV.out W hB
              refine want_n rfl ?_
              have e1 : r (.tmp 1) = .pointer (some ⟨b1, 0, none⟩) := hs 1 (by kernel_rfl)
              obtain ⟨c, ⟨g0, g1, g2⟩, hin⟩ := BoxV.vc (BoxV.below HV1.out hBV)
              exact sn_value (v := .agg c.cells) rfl (by decide) (by unfold VC.cells; go_simp) hin
            · intro r W hc hf hs hd hB
              have hBV := HBV.out W hB
              refine want_n rfl ?_
              have h91 : VIn W num5 (r (.tmp 91)) := hd 91 (by kernel_rfl)
              obtain ⟨c91, e91⟩ := VIn.vc h91
              have E91 : r (.tmp 91) = .agg #[.int .u8 c91.k, .int .i64 c91.n, .slice c91.a c91.len c91.cap] := e91
              rw [e91] at h91
              clear e91
              exact sn_value (v := .agg #[.int .u8 1, .int .u8 c91.k, .int .i64 c91.n, .slice c91.a c91.len c91.cap, .int .i64 0, .slice none 0 0]) rfl (by decide) (by go_simp) (PIn.shut (by simp) h91 prow_nil)
            · intro r W hc hf hs hd hB
              have hBV := HBV.out W hB
              refine want_n rfl ?_
              have h92 : PIn W (.mk 1 num5 0 []) (r (.tmp 92)) := hd 92 (by kernel_rfl)
              obtain ⟨c92, e92⟩ := PIn.pc h92
              exact sn_value (v := .agg (R1cells c92 0 3)) rfl (by decide) (run_r1 c92 0 3 rfl e92 (hc _) (hc _)) ⟨c92, rfl, by rw [e92] at h92; exact h92⟩
            · intro r W hc hf hs hd hB
              have hBV := HBV.out W hB
              refine want_n rfl ?_
              exact sn_value (v := .agg #[.int .u8 3, .int .u8 0, .int .i64 0, .slice none 0 0, .int .i64 0, .slice none 0 0]) rfl (by decide) (by go_simp) (PIn.shut (by simp) (VIn.leaf 0 0) prow_nil)
            · intro r W hc hf hs hd hB
              have hBV := HBV.out W hB
              refine want_n rfl ?_
              have h94 : PIn W (.mk 3 vNone 0 []) (r (.tmp 94)) := hd 94 (by kernel_rfl)
              obtain ⟨c94, e94⟩ := PIn.pc h94
              exact sn_value (v := .agg (R1cells c94 0 11)) rfl (by decide) (run_r1 c94 0 11 rfl e94 (hc _) (hc _)) ⟨c94, rfl, by rw [e94] at h94; exact h94⟩
            · intro r W hc hf hs hd hB
              have hBV := HBV.out W hB
              refine want_n rfl ?_
              exact sn_value (v := .agg #[.int .u8 2, .int .i64 2, .slice none 0 0]) rfl (by decide) (by go_simp) (VIn.leaf 2 2)
            · intro r W hc hf hs hd hB
              have hBV := HBV.out W hB
              refine want_n rfl ?_
              have h96 : VIn W (.mk 2 2 []) (r (.tmp 96)) := hd 96 (by kernel_rfl)
              exact sn_call (f := 15) (args := #[r (.tmp 96)]) rfl (by decide) (by go_simp) (made_pred (peq_any _ _ W h96))
            · intro r W hc hf hs hd hB
              have hBV := HBV.out W hB
              refine want_n rfl ?_
              have h97 : PIn W (eqP (.mk 2 2 [])) (r (.tmp 97)) := hd 97 (by kernel_rfl)
              obtain ⟨c97, e97⟩ := PIn.pc h97
              exact sn_value (v := .agg (R1cells c97 0 1)) rfl (by decide) (run_r1 c97 0 1 rfl e97 (hc _) (hc _)) ⟨c97, rfl, by rw [e97] at h97; exact h97⟩
            · intro r W hc hf hs hd hB
              have hBV := HBV.out W hB
              refine want_n rfl ?_
              have e1 : r (.tmp 1) = .pointer (some ⟨b1, 0, none⟩) := hs 1 (by kernel_rfl)
              obtain ⟨c, ⟨g0, g1, g2⟩, hin⟩ := BoxV.vc (BoxV.below HV1.out hBV)
              exact sn_value (v := .agg c.cells) rfl (by decide) (by unfold VC.cells; go_simp) hin
            · intro r W hc hf hs hd hB
              have hBV := HBV.out W hB
              refine want_n rfl ?_
              have h99 : VIn W num5 (r (.tmp 99)) := hd 99 (by kernel_rfl)
              obtain ⟨c99, e99⟩ := VIn.vc h99
              have E99 : r (.tmp 99) = .agg #[.int .u8 c99.k, .int .i64 c99.n, .slice c99.a c99.len c99.cap] := e99
              rw [e99] at h99
              clear e99
              exact sn_value (v := .agg #[.int .u8 3, .int .u8 c99.k, .int .i64 c99.n, .slice c99.a c99.len c99.cap, .int .i64 1, .slice none 0 0]) rfl (by decide) (by go_simp) (PIn.shut (by simp) h99 prow_nil)
            · intro r W hc hf hs hd hB
              have hBV := HBV.out W hB
              refine want_n rfl ?_
              have h100 : PIn W (.mk 3 num5 1 []) (r (.tmp 100)) := hd 100 (by kernel_rfl)
              obtain ⟨c100, e100⟩ := PIn.pc h100
              exact sn_value (v := .agg (R1cells c100 0 3)) rfl (by decide) (run_r1 c100 0 3 rfl e100 (hc _) (hc _)) ⟨c100, rfl, by rw [e100] at h100; exact h100⟩
            · intro r W hc hf hs hd hB
              have hBV := HBV.out W hB
              refine want_n rfl ?_
              have e2 : r (.tmp 2) = .pointer (some ⟨b2, 0, none⟩) := hs 2 (by kernel_rfl)
              obtain ⟨c, ⟨g0, g1, g2, g3, g4, g5⟩, hin⟩ := BoxP.pc (BoxP.below HP2.out hBV)
              exact sn_value (v := .agg c.cells) rfl (by decide) (by unfold PC.cells; go_simp) hin
            · intro r W hc hf hs hd hB
              have hBV := HBV.out W hB
              refine want_n rfl ?_
              have h102 : PIn W tYes (r (.tmp 102)) := hd 102 (by kernel_rfl)
              exact sn_call (f := 16) (args := #[.int .i64 (-1), r (.tmp 102)]) rfl (by decide) (by go_simp) (made_pred (pat_any (-1) _ _ W h102))
            · intro r W hc hf hs hd hB
              have hBV := HBV.out W hB
              refine want_n rfl ?_
              have h103 : PIn W (tAtp (-1) tYes) (r (.tmp 103)) := hd 103 (by kernel_rfl)
              obtain ⟨c103, e103⟩ := PIn.pc h103
              exact sn_value (v := .agg (R1cells c103 0 1)) rfl (by decide) (run_r1 c103 0 1 rfl e103 (hc _) (hc _)) ⟨c103, rfl, by rw [e103] at h103; exact h103⟩
            · intro r W hc hf hs hd hB
              have hBV := HBV.out W hB
              refine want_n rfl ?_
              have e2 : r (.tmp 2) = .pointer (some ⟨b2, 0, none⟩) := hs 2 (by kernel_rfl)
              obtain ⟨c, ⟨g0, g1, g2, g3, g4, g5⟩, hin⟩ := BoxP.pc (BoxP.below HP2.out hBV)
              exact sn_value (v := .agg c.cells) rfl (by decide) (by unfold PC.cells; go_simp) hin
            · intro r W hc hf hs hd hB
              have hBV := HBV.out W hB
              refine want_n rfl ?_
              have h105 : PIn W tYes (r (.tmp 105)) := hd 105 (by kernel_rfl)
              exact sn_call (f := 16) (args := #[.int .i64 (65), r (.tmp 105)]) rfl (by decide) (by go_simp) (made_pred (pat_any (65) _ _ W h105))
            · intro r W hc hf hs hd hB
              have hBV := HBV.out W hB
              refine want_n rfl ?_
              have h106 : PIn W (tAtp 65 tYes) (r (.tmp 106)) := hd 106 (by kernel_rfl)
              obtain ⟨c106, e106⟩ := PIn.pc h106
              exact sn_value (v := .agg (R1cells c106 0 1)) rfl (by decide) (run_r1 c106 0 1 rfl e106 (hc _) (hc _)) ⟨c106, rfl, by rw [e106] at h106; exact h106⟩
            · intro r W hc hf hs hd hB
              have hBV := HBV.out W hB
              refine want_n rfl ?_
              have e2 : r (.tmp 2) = .pointer (some ⟨b2, 0, none⟩) := hs 2 (by kernel_rfl)
              obtain ⟨c, ⟨g0, g1, g2, g3, g4, g5⟩, hin⟩ := BoxP.pc (BoxP.below HP2.out hBV)
              exact sn_value (v := .agg c.cells) rfl (by decide) (by unfold PC.cells; go_simp) hin
            · intro r W hc hf hs hd hB
              have hBV := HBV.out W hB
              refine want_n rfl ?_
              have h108 : PIn W tYes (r (.tmp 108)) := hd 108 (by kernel_rfl)
              exact sn_call (f := 16) (args := #[.int .i64 (64), r (.tmp 108)]) rfl (by decide) (by go_simp) (made_pred (pat_any (64) _ _ W h108))
            · intro r W hc hf hs hd hB
              have hBV := HBV.out W hB
              refine want_n rfl ?_
              have h109 : PIn W (tAtp 64 tYes) (r (.tmp 109)) := hd 109 (by kernel_rfl)
              obtain ⟨c109, e109⟩ := PIn.pc h109
              exact sn_value (v := .agg (R1cells c109 0 0)) rfl (by decide) (run_r1 c109 0 0 rfl e109 (hc _) (hc _)) ⟨c109, rfl, by rw [e109] at h109; exact h109⟩
            · intro r W hc hf hs hd hB
              have hBV := HBV.out W hB
              refine want_n rfl ?_
              exact sn_value (v := .agg #[.int .u8 8, .int .u8 0, .int .i64 0, .slice none 0 0, .int .i64 65, .slice none 0 0]) rfl (by decide) (by go_simp) (PIn.shut (by simp) (VIn.leaf 0 0) prow_nil)
            · intro r W hc hf hs hd hB
              have hBV := HBV.out W hB
              refine want_n rfl ?_
              have h111 : PIn W (.mk 8 vNone 65 []) (r (.tmp 111)) := hd 111 (by kernel_rfl)
              obtain ⟨c111, e111⟩ := PIn.pc h111
              exact sn_value (v := .agg (R1cells c111 0 1)) rfl (by decide) (run_r1 c111 0 1 rfl e111 (hc _) (hc _)) ⟨c111, rfl, by rw [e111] at h111; exact h111⟩
            · intro r W hc hf hs hd hB
              have hBV := HBV.out W hB
              refine want_n rfl ?_
              exact sn_value (v := .agg #[.int .u8 5, .int .u8 0, .int .i64 0, .slice none 0 0, .int .i64 0, .slice none 0 0]) rfl (by decide) (by go_simp) (PIn.shut (by simp) (VIn.leaf 0 0) prow_nil)
            · intro r W hc hf hs hd hB
              have hBV := HBV.out W hB
              refine want_n rfl ?_
              have h113 : PIn W (.mk 5 vNone 0 []) (r (.tmp 113)) := hd 113 (by kernel_rfl)
              obtain ⟨c113, e113⟩ := PIn.pc h113
              exact sn_value (v := .agg (R1cells c113 0 4)) rfl (by decide) (run_r1 c113 0 4 rfl e113 (hc _) (hc _)) ⟨c113, rfl, by rw [e113] at h113; exact h113⟩
            · intro r W hc hf hs hd hB
              have hBV := HBV.out W hB
              refine want_n rfl ?_
              have e5 : r (.tmp 5) = .slice (some ⟨bw, 0, none⟩) 64 64 := hs 5 (by kernel_rfl)
              exact sn_value (v := .slice (some ⟨bw, 0, none⟩) 64 64) rfl (by decide) (by go_simp) rfl
            · intro r W hc hf hs hd hB
              have hBV := HBV.out W hB
              refine want_n rfl ?_
              have e115 : r (.tmp 115) = .slice (some ⟨bw, 0, none⟩) 64 64 := hd 115 (by kernel_rfl)
              exact sn_value (v := .slice (some ⟨bw, 0, none⟩) 1 64) rfl (by decide) (by go_simp) ⟨_, _, _, rfl, rfl, (HZ.out 1 (by omega)).below hBV⟩
            · intro r W hc hf hs hd hB
              have hBV := HBV.out W hB
              refine want_n rfl ?_
              obtain ⟨qa116, qn116, qc116, e116, hn116, hr116⟩ : PQ.ok (.row (yesL 1)) (r (.tmp 116)) W := hd 116 (by kernel_rfl)
              subst hn116
              exact sn_value (v := .agg #[.int .u8 1, .int .u8 0, .int .i64 0, .slice none 0 0, .int .i64 0, .slice qa116 (yesL 1 : List PT).length qc116]) rfl (by decide) (by go_simp) (PIn.shut (by simp [yesL]) (VIn.leaf 0 0) hr116)
            · intro r W hc hf hs hd hB
              have hBV := HBV.out W hB
              refine want_n rfl ?_
              have h117 : PIn W (.mk 1 vNone 0 (yesL 1)) (r (.tmp 117)) := hd 117 (by kernel_rfl)
              obtain ⟨c117, e117⟩ := PIn.pc h117
              exact sn_value (v := .agg (R1cells c117 0 5)) rfl (by decide) (run_r1 c117 0 5 rfl e117 (hc _) (hc _)) ⟨c117, rfl, by rw [e117] at h117; exact h117⟩
            · intro r W hc hf hs hd hB
              have hBV := HBV.out W hB
              refine want_n rfl ?_
              have e5 : r (.tmp 5) = .slice (some ⟨bw, 0, none⟩) 64 64 := hs 5 (by kernel_rfl)
              exact sn_value (v := .slice (some ⟨bw, 0, none⟩) 64 64) rfl (by decide) (by go_simp) rfl
            · intro r W hc hf hs hd hB
              have hBV := HBV.out W hB
              refine want_n rfl ?_
              have e119 : r (.tmp 119) = .slice (some ⟨bw, 0, none⟩) 64 64 := hd 119 (by kernel_rfl)
              exact sn_value (v := .slice (some ⟨bw, 0, none⟩) 2 64) rfl (by decide) (by go_simp) ⟨_, _, _, rfl, rfl, (HZ.out 2 (by omega)).below hBV⟩
            · intro r W hc hf hs hd hB
              have hBV := HBV.out W hB
              refine want_n rfl ?_
              obtain ⟨qa120, qn120, qc120, e120, hn120, hr120⟩ : PQ.ok (.row (yesL 2)) (r (.tmp 120)) W := hd 120 (by kernel_rfl)
              subst hn120
              exact sn_value (v := .agg #[.int .u8 11, .int .u8 0, .int .i64 0, .slice none 0 0, .int .i64 0, .slice qa120 (yesL 2 : List PT).length qc120]) rfl (by decide) (by go_simp) (PIn.shut (by simp [yesL]) (VIn.leaf 0 0) hr120)
            · intro r W hc hf hs hd hB
              have hBV := HBV.out W hB
              refine want_n rfl ?_
              have h121 : PIn W (.mk 11 vNone 0 (yesL 2)) (r (.tmp 121)) := hd 121 (by kernel_rfl)
              obtain ⟨c121, e121⟩ := PIn.pc h121
              exact sn_value (v := .agg (R1cells c121 0 5)) rfl (by decide) (run_r1 c121 0 5 rfl e121 (hc _) (hc _)) ⟨c121, rfl, by rw [e121] at h121; exact h121⟩
            · intro r W hc hf hs hd hB
              have hBV := HBV.out W hB
              refine want_n rfl ?_
              have e5 : r (.tmp 5) = .slice (some ⟨bw, 0, none⟩) 64 64 := hs 5 (by kernel_rfl)
              exact sn_value (v := .slice (some ⟨bw, 0, none⟩) 64 64) rfl (by decide) (by go_simp) rfl
            · intro r W hc hf hs hd hB
              have hBV := HBV.out W hB
              refine want_n rfl ?_
              have e2 : r (.tmp 2) = .pointer (some ⟨b2, 0, none⟩) := hs 2 (by kernel_rfl)
              obtain ⟨c, ⟨g0, g1, g2, g3, g4, g5⟩, hin⟩ := BoxP.pc (BoxP.below HP2.out hBV)
              exact sn_value (v := .agg c.cells) rfl (by decide) (by unfold PC.cells; go_simp) hin
            · intro r W hc hf hs hd hB
              have hBV := HBV.out W hB
              refine want_n rfl ?_
              have h124 : PIn W tYes (r (.tmp 124)) := hd 124 (by kernel_rfl)
              obtain ⟨c124, e124⟩ := PIn.pc h124
              have H124 : PIn W tYes (.agg c124.cells) := by rw [e124] at h124; exact h124
              obtain ⟨w2, hrun, hb, hrow⟩ := run_prow (w := W) (r := r) (n := 1) (parts := #[(0, .tmp 124)]) [(tYes, c124)] rfl (by decide) (by decide) (by simp only [List.map_toArray, List.map_cons, List.map_nil, e124]; rfl) (by intro x hx; simp only [List.mem_cons, List.not_mem_nil, or_false] at hx; subst hx; exact H124)
              exact sn_new (v := .slice (some ⟨W.heap.size, 0, none⟩) 1 1) rfl (by decide) (hrun _ rfl) hb ⟨_, _, _, rfl, rfl, hrow⟩
            · intro r W hc hf hs hd hB
              have hBV := HBV.out W hB
              refine want_n rfl ?_
              have e123 : r (.tmp 123) = .slice (some ⟨bw, 0, none⟩) 64 64 := hd 123 (by kernel_rfl)
              obtain ⟨qa125, qn125, qc125, e125, hn125, hr125⟩ : PQ.ok (.row [tYes]) (r (.tmp 125)) W := hd 125 (by kernel_rfl)
              obtain ⟨cap', w', hrun, hrow, hb⟩ := pfull (w := W) (l := Y64) (m := [tYes]) (b := bw) (c := qc125) (a := qa125) (by rw [HY.out.1]; exact (HZ.out 64 (by omega)).below hBV) hr125 (by rw [HY.out.2.1]; decide) (by decide) (by rw [HY.out.2.1]; decide)
              rw [HY.out.2.1] at hrun
              rw [HY.out.2.2.1] at hrow
              exact sn_new rfl (by decide) (run_appendP rfl e123 (by rw [e125, hn125]) hrun) hb ⟨_, _, _, rfl, by rw [HY.out.2.2.2]; rfl, hrow⟩
            · intro r W hc hf hs hd hB
              have hBV := HBV.out W hB
              refine want_n rfl ?_
              obtain ⟨qa126, qn126, qc126, e126, hn126, hr126⟩ : PQ.ok (.row Y65) (r (.tmp 126)) W := hd 126 (by kernel_rfl)
              exact sn_call (f := 13) (args := #[.slice qa126 qn126 qc126]) rfl (by decide) (by go_simp) (made_pred (pand_n hn126 (by rw [hn126]; rw [HY.out.2.2.2]; decide) hr126))
            · intro r W hc hf hs hd hB
              have hBV := HBV.out W hB
              refine want_n rfl ?_
              have h127 : PIn W (tA Y65) (r (.tmp 127)) := hd 127 (by kernel_rfl)
              obtain ⟨c127, e127⟩ := PIn.pc h127
              exact sn_value (v := .agg (R1cells c127 0 5)) rfl (by decide) (run_r1 c127 0 5 rfl e127 (hc _) (hc _)) ⟨c127, rfl, by rw [e127] at h127; exact h127⟩
            · intro r W hc hf hs hd hB
              have hBV := HBV.out W hB
              refine want_n rfl ?_
              have e5 : r (.tmp 5) = .slice (some ⟨bw, 0, none⟩) 64 64 := hs 5 (by kernel_rfl)
              exact sn_value (v := .slice (some ⟨bw, 0, none⟩) 64 64) rfl (by decide) (by go_simp) rfl
            · intro r W hc hf hs hd hB
              have hBV := HBV.out W hB
              refine want_n rfl ?_
              have e129 : r (.tmp 129) = .slice (some ⟨bw, 0, none⟩) 64 64 := hd 129 (by kernel_rfl)
              exact sn_call (f := 14) (args := #[.slice (some ⟨bw, 0, none⟩) 64 64]) rfl (by decide) (by go_simp) (made_pred (por_n (l := Y64) (by rw [HY.out.2.1]) (by decide) (by rw [HY.out.1]; exact (HZ.out 64 (by omega)).below hBV)))
            · intro r W hc hf hs hd hB
              have hBV := HBV.out W hB
              refine want_n rfl ?_
              have h130 : PIn W (tO Y64) (r (.tmp 130)) := hd 130 (by kernel_rfl)
              obtain ⟨c130, e130⟩ := PIn.pc h130
              exact sn_value (v := .agg (R1cells c130 0 0)) rfl (by decide) (run_r1 c130 0 0 rfl e130 (hc _) (hc _)) ⟨c130, rfl, by rw [e130] at h130; exact h130⟩
            · intro r W hc hf hs hd hB
              have hBV := HBV.out W hB
              refine want_n rfl ?_
              have e3 : r (.tmp 3) = .pointer (some ⟨b3, 0, none⟩) := hs 3 (by kernel_rfl)
              obtain ⟨c, ⟨g0, g1, g2, g3, g4, g5⟩, hin⟩ := BoxP.pc (BoxP.below HP3.out hBV)
              exact sn_value (v := .agg c.cells) rfl (by decide) (by unfold PC.cells; go_simp) hin
            · intro r W hc hf hs hd hB
              have hBV := HBV.out W hB
              refine want_n rfl ?_
              have h132 : PIn W DP (r (.tmp 132)) := hd 132 (by kernel_rfl)
              obtain ⟨c132, e132⟩ := PIn.pc h132
              exact sn_value (v := .agg (R1cells c132 0 0)) rfl (by decide) (run_r1 c132 0 0 rfl e132 (hc _) (hc _)) ⟨c132, rfl, by rw [e132] at h132; exact h132⟩
            · intro r W hc hf hs hd hB
              have hBV := HBV.out W hB
              refine want_n rfl ?_
              have e3 : r (.tmp 3) = .pointer (some ⟨b3, 0, none⟩) := hs 3 (by kernel_rfl)
              obtain ⟨c, ⟨g0, g1, g2, g3, g4, g5⟩, hin⟩ := BoxP.pc (BoxP.below HP3.out hBV)
              exact sn_value (v := .agg c.cells) rfl (by decide) (by unfold PC.cells; go_simp) hin
            · intro r W hc hf hs hd hB
              have hBV := HBV.out W hB
              refine want_n rfl ?_
              have h134 : PIn W DP (r (.tmp 134)) := hd 134 (by kernel_rfl)
              exact sn_call (f := 12) (args := #[r (.tmp 134)]) rfl (by decide) (by go_simp) (made_pred (pnot_any _ _ W h134))
            · intro r W hc hf hs hd hB
              have hBV := HBV.out W hB
              refine want_n rfl ?_
              have h135 : PIn W (tN DP) (r (.tmp 135)) := hd 135 (by kernel_rfl)
              obtain ⟨c135, e135⟩ := PIn.pc h135
              exact sn_value (v := .agg (R1cells c135 12 9)) rfl (by decide) (run_r1 c135 12 9 rfl e135 (hc _) (hc _)) ⟨c135, rfl, by rw [e135] at h135; exact h135⟩
            · intro r W hc hf hs hd hB
              have hBV := HBV.out W hB
              refine want_n rfl ?_
              have e2 : r (.tmp 2) = .pointer (some ⟨b2, 0, none⟩) := hs 2 (by kernel_rfl)
              obtain ⟨c, ⟨g0, g1, g2, g3, g4, g5⟩, hin⟩ := BoxP.pc (BoxP.below HP2.out hBV)
              exact sn_value (v := .agg c.cells) rfl (by decide) (by unfold PC.cells; go_simp) hin
            · intro r W hc hf hs hd hB
              have hBV := HBV.out W hB
              refine want_n rfl ?_
              have e2 : r (.tmp 2) = .pointer (some ⟨b2, 0, none⟩) := hs 2 (by kernel_rfl)
              obtain ⟨c, ⟨g0, g1, g2, g3, g4, g5⟩, hin⟩ := BoxP.pc (BoxP.below HP2.out hBV)
              exact sn_value (v := .agg c.cells) rfl (by decide) (by unfold PC.cells; go_simp) hin
            · intro r W hc hf hs hd hB
              have hBV := HBV.out W hB
              refine want_n rfl ?_
              have h138 : PIn W tYes (r (.tmp 138)) := hd 138 (by kernel_rfl)
              exact sn_call (f := 12) (args := #[r (.tmp 138)]) rfl (by decide) (by go_simp) (made_pred (pnot_any _ _ W h138))
            · intro r W hc hf hs hd hB
              have hBV := HBV.out W hB
              refine want_n rfl ?_
              exact sn_value (v := .agg #[.int .u8 13, .int .u8 0, .int .i64 0, .slice none 0 0, .int .i64 0, .slice none 0 0]) rfl (by decide) (by go_simp) (PIn.shut (by simp) (VIn.leaf 0 0) prow_nil)
            · intro r W hc hf hs hd hB
              have hBV := HBV.out W hB
              refine want_n rfl ?_
              have h140 : PIn W (.mk 13 vNone 0 []) (r (.tmp 140)) := hd 140 (by kernel_rfl)
              exact sn_call (f := 17) (args := #[r (.tmp 140)]) rfl (by decide) (by go_simp) (made_pred (pall_any _ _ W h140))
            · intro r W hc hf hs hd hB
              have hBV := HBV.out W hB
              refine want_n rfl ?_
              have h137 : PIn W tYes (r (.tmp 137)) := hd 137 (by kernel_rfl)
              obtain ⟨c137, e137⟩ := PIn.pc h137
              have h139 : PIn W (tN tYes) (r (.tmp 139)) := hd 139 (by kernel_rfl)
              obtain ⟨c139, e139⟩ := PIn.pc h139
              have h141 : PIn W (tAl (.mk 13 vNone 0 [])) (r (.tmp 141)) := hd 141 (by kernel_rfl)
              obtain ⟨c141, e141⟩ := PIn.pc h141
              have H137 : PIn W tYes (.agg c137.cells) := by rw [e137] at h137; exact h137
              have H139 : PIn W (tN tYes) (.agg c139.cells) := by rw [e139] at h139; exact h139
              have H141 : PIn W (tAl (.mk 13 vNone 0 [])) (.agg c141.cells) := by rw [e141] at h141; exact h141
              obtain ⟨w2, hrun, hb, hrow⟩ := run_prow (w := W) (r := r) (n := 3) (parts := #[(0, .tmp 137), (1, .tmp 139), (2, .tmp 141)]) [(tYes, c137), (tN tYes, c139), (tAl (.mk 13 vNone 0 []), c141)] rfl (by decide) (by decide) (by simp only [List.map_toArray, List.map_cons, List.map_nil, e137, e139, e141]; rfl) (by intro x hx; simp only [List.mem_cons, List.not_mem_nil, or_false] at hx; rcases hx with rfl | rfl | rfl; exact H137; exact H139; exact H141)
              exact sn_new (v := .slice (some ⟨W.heap.size, 0, none⟩) 3 3) rfl (by decide) (hrun _ rfl) hb ⟨_, _, _, rfl, rfl, hrow⟩
            · intro r W hc hf hs hd hB
              have hBV := HBV.out W hB
              refine want_n rfl ?_
              obtain ⟨qa142, qn142, qc142, e142, hn142, hr142⟩ : PQ.ok (.row [tYes, tN tYes, tAl (.mk 13 vNone 0 [])]) (r (.tmp 142)) W := hd 142 (by kernel_rfl)
              exact sn_call (f := 13) (args := #[.slice qa142 qn142 qc142]) rfl (by decide) (by go_simp) (made_pred (pand_n hn142 (by rw [hn142]; decide) hr142))
            · intro r W hc hf hs hd hB
              have hBV := HBV.out W hB
              refine want_n rfl ?_
              have h143 : PIn W (tA [tYes, tN tYes, tAl (.mk 13 vNone 0 [])]) (r (.tmp 143)) := hd 143 (by kernel_rfl)
              obtain ⟨c143, e143⟩ := PIn.pc h143
              exact sn_value (v := .agg (R1cells c143 5 11)) rfl (by decide) (run_r1 c143 5 11 rfl e143 (hc _) (hc _)) ⟨c143, rfl, by rw [e143] at h143; exact h143⟩
            · intro r W hc hf hs hd hB
              have hBV := HBV.out W hB
              refine want_n rfl ?_
              have e7 : r (.tmp 7) = .pointer (some ⟨b7, 0, none⟩) := hs 7 (by kernel_rfl)
              obtain ⟨c, ⟨g0, g1, g2, g3, g4, g5⟩, hin⟩ := BoxP.pc (BoxP.below HP7.out hBV)
              exact sn_value (v := .agg c.cells) rfl (by decide) (by unfold PC.cells; go_simp) hin
            · intro r W hc hf hs hd hB
              have hBV := HBV.out W hB
              refine want_n rfl ?_
              have h145 : PIn W FU (r (.tmp 145)) := hd 145 (by kernel_rfl)
              obtain ⟨c145, e145⟩ := PIn.pc h145
              exact sn_value (v := .agg (R1cells c145 0 0)) rfl (by decide) (run_r1 c145 0 0 rfl e145 (hc _) (hc _)) ⟨c145, rfl, by rw [e145] at h145; exact h145⟩
            · intro r W hc hf hs hd hB
              have hBV := HBV.out W hB
              refine want_n rfl ?_
              have e8 : r (.tmp 8) = .pointer (some ⟨b8, 0, none⟩) := hs 8 (by kernel_rfl)
              obtain ⟨c, ⟨g0, g1, g2, g3, g4, g5⟩, hin⟩ := BoxP.pc (BoxP.below HP8.out hBV)
              exact sn_value (v := .agg c.cells) rfl (by decide) (by unfold PC.cells; go_simp) hin
            · intro r W hc hf hs hd hB
              have hBV := HBV.out W hB
              refine want_n rfl ?_
              have h147 : PIn W MO (r (.tmp 147)) := hd 147 (by kernel_rfl)
              obtain ⟨c147, e147⟩ := PIn.pc h147
              exact sn_value (v := .agg (R1cells c147 0 5)) rfl (by decide) (run_r1 c147 0 5 rfl e147 (hc _) (hc _)) ⟨c147, rfl, by rw [e147] at h147; exact h147⟩
            · intro r W hc hf hs hd hB
              have hBV := HBV.out W hB
              refine want_n rfl ?_
              have e9 : r (.tmp 9) = .pointer (some ⟨b9, 0, none⟩) := hs 9 (by kernel_rfl)
              obtain ⟨c, ⟨g0, g1, g2, g3, g4, g5⟩, hin⟩ := BoxP.pc (BoxP.below HP9.out hBV)
              exact sn_value (v := .agg c.cells) rfl (by decide) (by unfold PC.cells; go_simp) hin
            · intro r W hc hf hs hd hB
              have hBV := HBV.out W hB
              refine want_n rfl ?_
              have h149 : PIn W BI (r (.tmp 149)) := hd 149 (by kernel_rfl)
              obtain ⟨c149, e149⟩ := PIn.pc h149
              exact sn_value (v := .agg (R1cells c149 0 11)) rfl (by decide) (run_r1 c149 0 11 rfl e149 (hc _) (hc _)) ⟨c149, rfl, by rw [e149] at h149; exact h149⟩
            · intro r W hc hf hs hd hB
              have hBV := HBV.out W hB
              refine want_n rfl ?_
              exact sn_value (v := .agg #[.int .u8 0, .int .i64 1, .slice none 0 0]) rfl (by decide) (by go_simp) (VIn.leaf 0 1)
            · intro r W hc hf hs hd hB
              have hBV := HBV.out W hB
              refine want_n rfl ?_
              have h151 : VIn W (.mk 0 1 []) (r (.tmp 151)) := hd 151 (by kernel_rfl)
              obtain ⟨c151, e151⟩ := VIn.vc h151
              have E151 : r (.tmp 151) = .agg #[.int .u8 c151.k, .int .i64 c151.n, .slice c151.a c151.len c151.cap] := e151
              rw [e151] at h151
              clear e151
              exact sn_value (v := .agg #[.int .u8 2, .int .u8 c151.k, .int .i64 c151.n, .slice c151.a c151.len c151.cap, .int .i64 0, .slice none 0 0]) rfl (by decide) (by go_simp) (PIn.shut (by simp) h151 prow_nil)
            · intro r W hc hf hs hd hB
              have hBV := HBV.out W hB
              refine want_n rfl ?_
              have h152 : PIn W (.mk 2 (.mk 0 1 []) 0 []) (r (.tmp 152)) := hd 152 (by kernel_rfl)
              obtain ⟨c152, e152⟩ := PIn.pc h152
              have H152 : PIn W (.mk 2 (.mk 0 1 []) 0 []) (.agg c152.cells) := by rw [e152] at h152; exact h152
              obtain ⟨w2, hrun, hb, hrow⟩ := run_prow (w := W) (r := r) (n := 1) (parts := #[(0, .tmp 152)]) [(.mk 2 (.mk 0 1 []) 0 [], c152)] rfl (by decide) (by decide) (by simp only [List.map_toArray, List.map_cons, List.map_nil, e152]; rfl) (by intro x hx; simp only [List.mem_cons, List.not_mem_nil, or_false] at hx; subst hx; exact H152)
              exact sn_new (v := .slice (some ⟨W.heap.size, 0, none⟩) 1 1) rfl (by decide) (hrun _ rfl) hb ⟨_, _, _, rfl, rfl, hrow⟩
            · intro r W hc hf hs hd hB
              have hBV := HBV.out W hB
              refine want_n rfl ?_
              obtain ⟨qa153, qn153, qc153, e153, hn153, hr153⟩ : PQ.ok (.row [.mk 2 (.mk 0 1 []) 0 []]) (r (.tmp 153)) W := hd 153 (by kernel_rfl)
              subst hn153
              exact sn_value (v := .agg #[.int .u8 5, .int .u8 0, .int .i64 0, .slice none 0 0, .int .i64 0, .slice qa153 ([.mk 2 (.mk 0 1 []) 0 []] : List PT).length qc153]) rfl (by decide) (by go_simp) (PIn.shut (by simp) (VIn.leaf 0 0) hr153)
            · intro r W hc hf hs hd hB
              have hBV := HBV.out W hB
              refine want_n rfl ?_
              have h154 : PIn W (.mk 5 vNone 0 [.mk 2 (.mk 0 1 []) 0 []]) (r (.tmp 154)) := hd 154 (by kernel_rfl)
              obtain ⟨c154, e154⟩ := PIn.pc h154
              exact sn_value (v := .agg (R1cells c154 1 3)) rfl (by decide) (run_r1 c154 1 3 rfl e154 (hc _) (hc _)) ⟨c154, rfl, by rw [e154] at h154; exact h154⟩
            · intro r W hc hf hs hd hB
              have hBV := HBV.out W hB
              refine want_n rfl ?_
              obtain ⟨c88, e88, k88⟩ : R1Ok (.mk 0 vNone 0 []) 0 11 (r (.tmp 88)) W := hd 88 (by kernel_rfl)
              obtain ⟨c90, e90, k90⟩ : R1Ok (.mk 12 vNone 0 []) 0 11 (r (.tmp 90)) W := hd 90 (by kernel_rfl)
              obtain ⟨c93, e93, k93⟩ : R1Ok (.mk 1 num5 0 []) 0 3 (r (.tmp 93)) W := hd 93 (by kernel_rfl)
              obtain ⟨c95, e95, k95⟩ : R1Ok (.mk 3 vNone 0 []) 0 11 (r (.tmp 95)) W := hd 95 (by kernel_rfl)
              obtain ⟨c98, e98, k98⟩ : R1Ok (eqP (.mk 2 2 [])) 0 1 (r (.tmp 98)) W := hd 98 (by kernel_rfl)
              obtain ⟨c101, e101, k101⟩ : R1Ok (.mk 3 num5 1 []) 0 3 (r (.tmp 101)) W := hd 101 (by kernel_rfl)
              obtain ⟨c104, e104, k104⟩ : R1Ok (tAtp (-1) tYes) 0 1 (r (.tmp 104)) W := hd 104 (by kernel_rfl)
              obtain ⟨c107, e107, k107⟩ : R1Ok (tAtp 65 tYes) 0 1 (r (.tmp 107)) W := hd 107 (by kernel_rfl)
              obtain ⟨c110, e110, k110⟩ : R1Ok (tAtp 64 tYes) 0 0 (r (.tmp 110)) W := hd 110 (by kernel_rfl)
              obtain ⟨c112, e112, k112⟩ : R1Ok (.mk 8 vNone 65 []) 0 1 (r (.tmp 112)) W := hd 112 (by kernel_rfl)
              obtain ⟨c114, e114, k114⟩ : R1Ok (.mk 5 vNone 0 []) 0 4 (r (.tmp 114)) W := hd 114 (by kernel_rfl)
              obtain ⟨c118, e118, k118⟩ : R1Ok (.mk 1 vNone 0 (yesL 1)) 0 5 (r (.tmp 118)) W := hd 118 (by kernel_rfl)
              obtain ⟨c122, e122, k122⟩ : R1Ok (.mk 11 vNone 0 (yesL 2)) 0 5 (r (.tmp 122)) W := hd 122 (by kernel_rfl)
              obtain ⟨c128, e128, k128⟩ : R1Ok (tA Y65) 0 5 (r (.tmp 128)) W := hd 128 (by kernel_rfl)
              obtain ⟨c131, e131, k131⟩ : R1Ok (tO Y64) 0 0 (r (.tmp 131)) W := hd 131 (by kernel_rfl)
              obtain ⟨c133, e133, k133⟩ : R1Ok DP 0 0 (r (.tmp 133)) W := hd 133 (by kernel_rfl)
              obtain ⟨c136, e136, k136⟩ : R1Ok (tN DP) 12 9 (r (.tmp 136)) W := hd 136 (by kernel_rfl)
              obtain ⟨c144, e144, k144⟩ : R1Ok (tA [tYes, tN tYes, tAl (.mk 13 vNone 0 [])]) 5 11 (r (.tmp 144)) W := hd 144 (by kernel_rfl)
              obtain ⟨c146, e146, k146⟩ : R1Ok FU 0 0 (r (.tmp 146)) W := hd 146 (by kernel_rfl)
              obtain ⟨c148, e148, k148⟩ : R1Ok MO 0 5 (r (.tmp 148)) W := hd 148 (by kernel_rfl)
              obtain ⟨c150, e150, k150⟩ : R1Ok BI 0 11 (r (.tmp 150)) W := hd 150 (by kernel_rfl)
              obtain ⟨c155, e155, k155⟩ : R1Ok (.mk 5 vNone 0 [.mk 2 (.mk 0 1 []) 0 []]) 1 3 (r (.tmp 155)) W := hd 155 (by kernel_rfl)
              obtain ⟨w2, hrun, hb, hok⟩ := run_t1 (w := W) (r := r) (n := 22) (parts := #[(0, .tmp 88), (1, .tmp 90), (2, .tmp 93), (3, .tmp 95), (4, .tmp 98), (5, .tmp 101), (6, .tmp 104), (7, .tmp 107), (8, .tmp 110), (9, .tmp 112), (10, .tmp 114), (11, .tmp 118), (12, .tmp 122), (13, .tmp 128), (14, .tmp 131), (15, .tmp 133), (16, .tmp 136), (17, .tmp 144), (18, .tmp 146), (19, .tmp 148), (20, .tmp 150), (21, .tmp 155)]) (tab1G DP FU MO BI Y64 Y65) [c88, c90, c93, c95, c98, c101, c104, c107, c110, c112, c114, c118, c122, c128, c131, c133, c136, c144, c146, c148, c150, c155] rfl rfl (by decide) (by decide) (by simp only [List.map_toArray, List.map_cons, List.map_nil, e88, e90, e93, e95, e98, e101, e104, e107, e110, e112, e114, e118, e122, e128, e131, e133, e136, e144, e146, e148, e150, e155]; rfl) (by simp only [tab1G, List.zip_cons_cons, List.zip_nil_right, List.forall_mem_cons]; exact ⟨k88, k90, k93, k95, k98, k101, k104, k107, k110, k112, k114, k118, k122, k128, k131, k133, k136, k144, k146, k148, k150, k155, fun _ h => by cases h⟩)
              exact sn_new (v := .slice (some ⟨W.heap.size, 0, none⟩) 22 22) rfl (by decide) (hrun _ rfl) hb hok
            · intro r W hc hf hs hd hB
              have hBV := HBV.out W hB
              refine want_n rfl ?_
              obtain ⟨B, eB, -⟩ : T1Ok (tab1G DP FU MO BI Y64 Y65) (r (.tmp 156)) W := hd 156 (by kernel_rfl)
              rw [tab1G_length] at eB
              exact sn_value (v := .int .i64 22) rfl (by decide) (by go_simp) rfl
            · intro r W hc hf hs hd hB
              have hBV := HBV.out W hB
              refine want_n rfl ?_
              exact sn_value (v := .int .i64 0) rfl (by decide) (by go_simp) rfl
          intro f w9 hfd hB'
          have z157 : f 157 = .int .i64 22 := hfd 157 (of_decide_eq_true (by kernel_rfl))
          have z158 : f 158 = .int .i64 0 := hfd 158 (of_decide_eq_true (by kernel_rfl))
          obtain ⟨BT, zt, htab⟩ : T1Ok (tab1G DP FU MO BI Y64 Y65) (f 156) w9 := hfd 156 (of_decide_eq_true (by kernel_rfl))
          have z156 : f 156 = .slice (some ⟨BT, 0, none⟩) 22 22 := zt
          have hbR := HBV.out w9 hB'
          rw [show dstsTo _ _ = [87, 88, 89, 90, 91, 92, 93, 94, 95, 96, 97, 98, 99, 100, 101, 102, 103, 104, 105, 106, 107, 108, 109, 110, 111, 112, 113, 114, 115, 116, 117, 118, 119, 120, 121, 122, 123, 124, 125, 126, 127, 128, 129, 130, 131, 132, 133, 134, 135, 136, 137, 138, 139, 140, 141, 142, 143, 144, 145, 146, 147, 148, 149, 150, 151, 152, 153, 154, 155, 156, 157, 158] from by kernel_rfl]
          simp only [fill, List.setIfInBounds_toArray, List.set_cons_succ, List.set_cons_zero, z157, z158, z156]
          clear hfd hB' HBV z157 z158 z156
          clear zt
          obtain ⟨ts, hts⟩ : ∃ ts, ts = tab1G DP FU MO BI Y64 Y65 := ⟨_, rfl⟩
          rw [← hts] at htab HT1
          have hlts : ts.length = 22 := by rw [hts]; rfl
          have HTAB := Lib.hid htab
          replace HV1 := Lib.hid (BoxV.below HV1.out hbR); replace HP3 := Lib.hid (BoxP.below HP3.out hbR); replace HP7 := Lib.hid (BoxP.below HP7.out hbR)
          replace hB8 := hB8.trans (hbR.mono hB8.size)
          clear htab hts hbR HP8 HP9 HP2 HZ HY
          go_wp2_with fail
          go_loopw [158] (fun x wr => ∃ i : Nat, x = .int .i64 i ∧ i ≤ 22 ∧ Below w9.heap.size w9 wr) (fun x _ => 22 - (intOf x).toNat)
          case atStart => exact ⟨0, rfl, by omega, Below.refl _ _⟩
          case round =>
            obtain ⟨i, rfl, hi, hbr⟩ := hrel
            by_cases hlt : i < 22
            · as_aux_lemma =>
              have d1 : decide ((i : Int) < 22) = true := decide_eq_true (by omega)
              have d2 : decide (i < 22) = true := decide_eq_true hlt
              obtain ⟨c, hrg, hok⟩ := HTAB.out i (by omega)
              obtain ⟨hchk, hcnt, hfat⟩ := HT1.out i (by omega)
              obtain ⟨t, ht⟩ : ∃ t, t = (ts[i]'(by omega)).1 := ⟨_, rfl⟩
              obtain ⟨pl, hpl⟩ : ∃ z, z = (ts[i]'(by omega)).2.1 := ⟨_, rfl⟩
              obtain ⟨er, her⟩ : ∃ z, z = (ts[i]'(by omega)).2.2 := ⟨_, rfl⟩
              rw [← hpl, ← her] at hrg
              rw [← ht] at hok hcnt hfat
              have hck : t.check = (pl, er) := by rw [ht, hpl, her]; exact hchk
              have HRG : Hid (wr.rangeAt BT (i * 8) (R1cells c pl er).toList) := Lib.hid (range_stay hbr hrg)
              have HOK := Lib.hid (hok.below hbr); have HCK := Lib.hid hck; have HLC := Lib.hid (And.intro hcnt hfat)
              clear hrg hok hchk hck hcnt hfat ht hpl her hlts
              go_wp2_with (first | refine wpList_loadM (cells := R1cells c pl er) (by rfl) (by rfl) (by rfl) HRG.out Try.underlying34 rfl (by rw [show (R1cells c pl er).size = 8 from rfl]; kernel_rfl) ?_ | refine wpList_boxM (k := 8) (cells := R1cells c pl er) (by rfl) (by rfl) (by rfl) (by rfl) (by rfl) (by rfl) (by rfl) (by rfl) (by kernel_rfl) (by kernel_rfl) rfl (by kernel_rfl) ?_)
              intro wE hrE hbE _ _
              have g0 := hrE 0 _ rfl
              have g1 := hrE 1 _ rfl
              have g2 := hrE 2 _ rfl
              have g3 := hrE 3 _ rfl
              have g4 := hrE 4 _ rfl
              have g5 := hrE 5 _ rfl
              have g6 := hrE 6 _ rfl
              have g7 := hrE 7 _ rfl
              simp only [Nat.zero_add] at g0 g1 g2 g3 g4 g5 g6 g7
              have HIN : Hid (PIn wE t (.agg c.cells)) := Lib.hid (HOK.out.below hbE)
              have hb7 := hbr.trans (hbE.mono hbr.size)
              clear hrE hbE HRG HOK hbr
              go_wp2_with fail
              refine (pcheck_any t _ _ HLC.out.1 HLC.out.2 HIN.out).mono ?_
              rintro e w10 ⟨rfl, hb8⟩
              rw [HCK.out]
              dsimp only
              replace g6 := cell_stays hb8 g6
              replace g7 := cell_stays hb8 g7
              replace hb7 := hb7.trans (hb8.mono hb7.size)
              clear hb8 g0 g1 g2 g3 g4 g5
              go_wp2_with fail
              go_roundw
              case rel => exact ⟨i + 1, by go_num, by omega, hb7⟩
              case measure => simp [intOf]; omega
            · as_aux_lemma =>
              have hie : i = 22 := by omega
              subst hie
              have d1 : decide ((22 : Int) < 22) = false := by decide
              have d2 : decide (22 < 22) = false := by decide
              replace HV1 := Lib.hid (BoxV.below HV1.out hbr); replace HP3 := Lib.hid (BoxP.below HP3.out hbr); replace HP7 := Lib.hid (BoxP.below HP7.out hbr)
              replace hB8 := hB8.trans (hbr.mono hB8.size)
              clear hbr HTAB HT1 hlts hi hlt
              obtain ⟨c, ⟨n0, n1, n2⟩, hin⟩ := BoxV.vc HV1.out
              have HIN := Lib.hid hin
              clear hin
              have HL2 : Hid (∀ x ∈ [(num5, c), (VT.mk 2 1 [], (⟨2, 1, none, 0, 0⟩ : VC))], VIn wr x.1 (.agg x.2.cells)) := Lib.hid (by intro x hx; simp only [List.mem_cons, List.not_mem_nil, or_false] at hx; rcases hx with rfl | rfl; exact HIN.out; exact VIn.leaf 2 1)
              go_wp2_with (refine wpList_vrow (n := 2) (parts := #[(0, .tmp 179), (1, .tmp 180)]) [(num5, c), (VT.mk 2 1 [], (⟨2, 1, none, 0, 0⟩ : VC))] (by rfl) (by rfl) (by rfl) (by decide) (by decide) (by simp only [List.map_toArray, List.map_cons, List.map_nil]; rfl) HL2.out ?_)
              intro w11 hb hrow
              have HROW : Hid (VRow w11 [num5, .mk 2 1 []] (some ⟨wr.heap.size, 0, none⟩)) := Lib.hid hrow
              replace HV1 := Lib.hid (BoxV.below HV1.out hb); replace HP3 := Lib.hid (BoxP.below HP3.out hb); replace HP7 := Lib.hid (BoxP.below HP7.out hb)
              replace hB8 := hB8.trans (hb.mono hB8.size)
              obtain ⟨bt, hbt⟩ : ∃ b, b = wr.heap.size := ⟨_, rfl⟩
              rw [← hbt] at HROW ⊢
              obtain ⟨w12, hw12, m12, -, t0, t1, t2, -⟩ := box3 w11 (.int .u8 3) (.int .i64 0) (.slice (some ⟨bt, 0, none⟩) 2 2) 25
              obtain ⟨w13, hw13, m13, -, u0, u1, u2, -⟩ := box3 w12 (.int .u8 4) (.int .i64 0) (.slice none 0 0) 25
              have m23 := m12.trans (m13.mono m12.size)
              obtain ⟨b14, hb14⟩ : ∃ b, b = w11.heap.size := ⟨_, rfl⟩
              obtain ⟨b15, hb15⟩ : ∃ b, b = w12.heap.size := ⟨_, rfl⟩
              have HV14 : Hid (BoxV w13 b14 tupleV) := Lib.hid (by rw [hb14]; exact ⟨_, _, _, _, _, cell_stays m13 t0, cell_stays m13 t1, cell_stays m13 t2, vin_of rfl (by simp) (HROW.out.below m23)⟩)
              have HV15 : Hid (BoxV w13 b15 emptyV) := Lib.hid (by rw [hb15]; exact ⟨_, _, _, _, _, u0, u1, u2, VIn.leaf 4 0⟩)
              replace HV1 := Lib.hid (BoxV.below HV1.out m23); replace HP3 := Lib.hid (BoxP.below HP3.out m23); replace HP7 := Lib.hid (BoxP.below HP7.out m23)
              replace hB8 := hB8.trans (m23.mono hB8.size)
              clear hb hrow HL2 hbt HROW m12 m13 m23 t0 t1 t2 u0 u1 u2 HIN n0 n1 n2 d1 d2
              have HW12 := Lib.hid hw12; have HW13 := Lib.hid hw13
              clear hw12 hw13
              go_upto_region 26 with fail
              rw [HW12.out]
              go_upto_region 27 with fail
              rw [HW13.out]
              rw [← hb14, ← hb15]
              clear HW12 HW13 hb14 hb15
              have HBV := Lib.hid (fun W (h : Below w13.drew.heap.size w13.drew W) => (Below.refl _ w13).drew.trans h)
              try simp only [List.append_eq, List.cons_append, List.nil_append]
              refine wp_region_allW (kindN [(184, .q (.pred tYes)), (185, .q (.val (.mk 0 0 []))), (186, .prop (R2Ok tYes (.mk 0 0 []) true) (R2Ok.mono _ _ _)), (187, .q (.pred tNo)), (188, .q (.val num5)), (189, .prop (R2Ok tNo num5 false) (R2Ok.mono _ _ _)), (190, .q (.val num5)), (191, .q (.pred (eqP num5))), (192, .q (.val num5)), (193, .prop (R2Ok (eqP num5) num5 true) (R2Ok.mono _ _ _)), (194, .q (.val tupleV)), (195, .q (.pred (eqP tupleV))), (196, .q (.val tupleV)), (197, .prop (R2Ok (eqP tupleV) tupleV true) (R2Ok.mono _ _ _)), (198, .q (.val tupleV)), (199, .q (.pred (eqP tupleV))), (200, .q (.val emptyV)), (201, .prop (R2Ok (eqP tupleV) emptyV false) (R2Ok.mono _ _ _)), (202, .q (.val tupleV)), (203, .q (.pred (lessP tupleV))), (204, .q (.val num5)), (205, .prop (R2Ok (lessP tupleV) num5 true) (R2Ok.mono _ _ _)), (206, .q (.val tupleV)), (207, .q (.pred (lessP tupleV))), (208, .q (.val emptyV)), (209, .prop (R2Ok (lessP tupleV) emptyV false) (R2Ok.mono _ _ _)), (210, .q (.pred (tA []))), (211, .q (.val num5)), (212, .prop (R2Ok (tA []) num5 true) (R2Ok.mono _ _ _)), (213, .q (.pred (tO []))), (214, .q (.val num5)), (215, .prop (R2Ok (tO []) num5 false) (R2Ok.mono _ _ _)), (216, .q (.pred tNo)), (217, .q (.val num5)), (218, .q (.pred (eqP num5))), (219, .q (.row [tNo, eqP num5])), (220, .q (.pred (tO [tNo, eqP num5]))), (221, .q (.val num5)), (222, .prop (R2Ok (tO [tNo, eqP num5]) num5 true) (R2Ok.mono _ _ _)), (223, .q (.pred tYes)), (224, .q (.pred tNo)), (225, .q (.row [tYes, tNo])), (226, .q (.pred (tA [tYes, tNo]))), (227, .q (.val num5)), (228, .prop (R2Ok (tA [tYes, tNo]) num5 false) (R2Ok.mono _ _ _)), (229, .q (.val num5)), (230, .q (.pred (eqP num5))), (231, .q (.pred (tAtp 0 (eqP num5)))), (232, .q (.val tupleV)), (233, .prop (R2Ok (tAtp 0 (eqP num5)) tupleV true) (R2Ok.mono _ _ _)), (234, .q (.val num5)), (235, .q (.pred (eqP num5))), (236, .q (.pred (tAtp 1 (eqP num5)))), (237, .q (.val tupleV)), (238, .prop (R2Ok (tAtp 1 (eqP num5)) tupleV false) (R2Ok.mono _ _ _)), (239, .q (.pred tYes)), (240, .q (.pred (tAtp 2 tYes))), (241, .q (.val tupleV)), (242, .prop (R2Ok (tAtp 2 tYes) tupleV false) (R2Ok.mono _ _ _)), (243, .q (.pred tYes)), (244, .q (.pred (tAtp 0 tYes))), (245, .q (.val num5)), (246, .prop (R2Ok (tAtp 0 tYes) num5 false) (R2Ok.mono _ _ _)), (247, .q (.pred tNo)), (248, .q (.pred (tAl tNo))), (249, .q (.val emptyV)), (250, .prop (R2Ok (tAl tNo) emptyV true) (R2Ok.mono _ _ _)), (251, .q (.pred tYes)), (252, .q (.pred (tAn tYes))), (253, .q (.val emptyV)), (254, .prop (R2Ok (tAn tYes) emptyV false) (R2Ok.mono _ _ _)), (255, .q (.pred tYes)), (256, .q (.pred (tAl tYes))), (257, .q (.val num5)), (258, .prop (R2Ok (tAl tYes) num5 false) (R2Ok.mono _ _ _)), (259, .q (.val num5)), (260, .q (.pred (eqP num5))), (261, .q (.pred (tAn (eqP num5)))), (262, .q (.val tupleV)), (263, .prop (R2Ok (tAn (eqP num5)) tupleV true) (R2Ok.mono _ _ _)), (264, .q (.val num5)), (265, .q (.pred (eqP num5))), (266, .q (.pred (tAl (eqP num5)))), (267, .q (.val tupleV)), (268, .prop (R2Ok (tAl (eqP num5)) tupleV false) (R2Ok.mono _ _ _)), (269, .q (.val (.mk 1 2 []))), (270, .q (.pred (eqP (.mk 1 2 [])))), (271, .q (.pred (tLenp (eqP (.mk 1 2 []))))), (272, .q (.val tupleV)), (273, .prop (R2Ok (tLenp (eqP (.mk 1 2 []))) tupleV true) (R2Ok.mono _ _ _)), (274, .q (.pred tYes)), (275, .q (.pred (tLenp tYes))), (276, .q (.val num5)), (277, .prop (R2Ok (tLenp tYes) num5 false) (R2Ok.mono _ _ _)), (278, .q (.pred tYes)), (279, .q (.pred (tLenp tYes))), (280, .q (.pred (tN (tLenp tYes)))), (281, .q (.val num5)), (282, .prop (R2Ok (tN (tLenp tYes)) num5 true) (R2Ok.mono _ _ _)), (283, .q (.pred (.mk 12 vNone 0 []))), (284, .q (.pred (tN (.mk 12 vNone 0 [])))), (285, .q (.val num5)), (286, .prop (R2Ok (tN (.mk 12 vNone 0 [])) num5 false) (R2Ok.mono _ _ _)), (287, .q (.pred (.mk 0 vNone 0 []))), (288, .q (.val num5)), (289, .prop (R2Ok (.mk 0 vNone 0 []) num5 false) (R2Ok.mono _ _ _)), (290, .prop (T2Ok holdL) (T2Ok.mono _)), (291, .q (.fixed (.int .i64 25))), (292, .q (.fixed (.int .i64 0)))]) 334 (by kernel_rfl) (by kernel_rfl) (by rfl) (kindN_mono _) ?_ ?_
              · as_aux_lemma =>
                show ∀ o ∈ [(0, _), (1, _), (2, _), (3, _), (4, _), (5, _), (6, _), (7, _), (8, _), (9, _), (10, _), (11, _), (12, _), (13, _), (14, _), (15, _), (16, _), (17, _), (18, _), (19, _), (20, _), (21, _), (22, _), (23, _), (24, _), (25, _), (26, _), (27, _), (28, _), (29, _), (30, _), (31, _), (32, _), (33, _), (34, _), (35, _), (36, _), (37, _), (38, _), (39, _), (40, _), (41, _), (42, _), (43, _), (44, _), (45, _), (46, _), (47, _), (48, _), (49, _), (50, _), (51, _), (52, _), (53, _), (54, _), (55, _), (56, _), (57, _), (58, _), (59, _), (60, _), (61, _), (62, _), (63, _), (64, _), (65, _), (66, _), (67, _), (68, _), (69, _), (70, _), (71, _), (72, _), (73, _), (74, _), (75, _), (76, _), (77, _), (78, _), (79, _), (80, _), (81, _), (82, _), (83, _), (84, _), (85, _), (86, _), (87, _), (88, _), (89, _), (90, _), (91, _), (92, _), (93, _), (94, _), (95, _), (96, _), (97, _), (98, _), (99, _), (100, _), (101, _), (102, _), (103, _), (104, _), (105, _), (106, _), (107, _), (108, _)], _
                refine (fm ?_ (fm ?_ (fm ?_ (fm ?_ (fm ?_ (fm ?_ (fm ?_ (fm ?_ (fm ?_ (fm ?_ (fm ?_ (fm ?_ (fm ?_ (fm ?_ (fm ?_ (fm ?_ (fm ?_ (fm ?_ (fm ?_ (fm ?_ (fm ?_ (fm ?_ (fm ?_ (fm ?_ (fm ?_ (fm ?_ (fm ?_ (fm ?_ (fm ?_ (fm ?_ (fm ?_ (fm ?_ (fm ?_ (fm ?_ (fm ?_ (fm ?_ (fm ?_ (fm ?_ (fm ?_ (fm ?_ (fm ?_ (fm ?_ (fm ?_ (fm ?_ (fm ?_ (fm ?_ (fm ?_ (fm ?_ (fm ?_ (fm ?_ (fm ?_ (fm ?_ (fm ?_ (fm ?_ (fm ?_ (fm ?_ (fm ?_ (fm ?_ (fm ?_ (fm ?_ (fm ?_ (fm ?_ (fm ?_ (fm ?_ (fm ?_ (fm ?_ (fm ?_ (fm ?_ (fm ?_ (fm ?_ (fm ?_ (fm ?_ (fm ?_ (fm ?_ (fm ?_ (fm ?_ (fm ?_ (fm ?_ (fm ?_ (fm ?_ (fm ?_ (fm ?_ (fm ?_ (fm ?_ (fm ?_ (fm ?_ (fm ?_ (fm ?_ (fm ?_ (fm ?_ (fm ?_ (fm ?_ (fm ?_ (fm ?_ (fm ?_ (fm ?_ (fm ?_ (fm ?_ (fm ?_ (fm ?_ (fm ?_ (fm ?_ (fm ?_ (fm ?_ (fm ?_ (fm ?_ (fm ?_ (fm ?_ (fm ?_ fmnil)))))))))))))))))))))))))))))))))))))))))))))))))))))))))))))))))))))))))))))))))))))))))))))))))))))))))))))
                · intro r W hc hf hs hd hB
                  have hBV := HBV.out W hB
                  refine want_n rfl ?_
                  exact sn_call (f := 11) (args := #[]) rfl (by decide) (by go_simp) (made_pred (pyes_any W))
                · intro r W hc hf hs hd hB
                  have hBV := HBV.out W hB
                  refine want_n rfl ?_
                  exact sn_value (v := .agg #[.int .u8 0, .int .i64 0, .slice none 0 0]) rfl (by decide) (by go_simp) (VIn.leaf 0 0)
                · intro r W hc hf hs hd hB
                  have hBV := HBV.out W hB
                  refine want_n rfl ?_
                  have h184 : PIn W tYes (r (.tmp 184)) := hd 184 (by kernel_rfl)
                  obtain ⟨c184, e184⟩ := PIn.pc h184
                  have h185 : VIn W (.mk 0 0 []) (r (.tmp 185)) := hd 185 (by kernel_rfl)
                  obtain ⟨d185, e185⟩ := VIn.vc h185
                  exact sn_value (v := .agg (R2cells c184 d185 true)) rfl (by decide) (run_r2 c184 d185 true rfl e184 e185 (hc _)) ⟨c184, d185, rfl, by rw [e184] at h184; exact h184, by rw [e185] at h185; exact h185⟩
                · intro r W hc hf hs hd hB
                  have hBV := HBV.out W hB
                  refine want_n rfl ?_
                  exact sn_call (f := 19) (args := #[]) rfl (by decide) (by go_simp) (made_pred (pno_any W))
                · intro r W hc hf hs hd hB
                  have hBV := HBV.out W hB
                  refine want_n rfl ?_
                  have e1 : r (.tmp 1) = .pointer (some ⟨b1, 0, none⟩) := hs 1 (by kernel_rfl)
                  obtain ⟨c, ⟨g0, g1, g2⟩, hin⟩ := BoxV.vc (BoxV.below HV1.out hBV)
                  exact sn_value (v := .agg c.cells) rfl (by decide) (by unfold VC.cells; go_simp) hin
                · intro r W hc hf hs hd hB
                  have hBV := HBV.out W hB
                  refine want_n rfl ?_
                  have h187 : PIn W tNo (r (.tmp 187)) := hd 187 (by kernel_rfl)
                  obtain ⟨c187, e187⟩ := PIn.pc h187
                  have h188 : VIn W num5 (r (.tmp 188)) := hd 188 (by kernel_rfl)
                  obtain ⟨d188, e188⟩ := VIn.vc h188
                  exact sn_value (v := .agg (R2cells c187 d188 false)) rfl (by decide) (run_r2 c187 d188 false rfl e187 e188 (hc _)) ⟨c187, d188, rfl, by rw [e187] at h187; exact h187, by rw [e188] at h188; exact h188⟩
                · intro r W hc hf hs hd hB
                  have hBV := HBV.out W hB
                  refine want_n rfl ?_
                  have e1 : r (.tmp 1) = .pointer (some ⟨b1, 0, none⟩) := hs 1 (by kernel_rfl)
                  obtain ⟨c, ⟨g0, g1, g2⟩, hin⟩ := BoxV.vc (BoxV.below HV1.out hBV)
                  exact sn_value (v := .agg c.cells) rfl (by decide) (by unfold VC.cells; go_simp) hin
                · intro r W hc hf hs hd hB
                  have hBV := HBV.out W hB
                  refine want_n rfl ?_
                  have h190 : VIn W num5 (r (.tmp 190)) := hd 190 (by kernel_rfl)
                  exact sn_call (f := 15) (args := #[r (.tmp 190)]) rfl (by decide) (by go_simp) (made_pred (peq_any _ _ W h190))
                · intro r W hc hf hs hd hB
                  have hBV := HBV.out W hB
                  refine want_n rfl ?_
                  have e1 : r (.tmp 1) = .pointer (some ⟨b1, 0, none⟩) := hs 1 (by kernel_rfl)
                  obtain ⟨c, ⟨g0, g1, g2⟩, hin⟩ := BoxV.vc (BoxV.below HV1.out hBV)
                  exact sn_value (v := .agg c.cells) rfl (by decide) (by unfold VC.cells; go_simp) hin
                · intro r W hc hf hs hd hB
                  have hBV := HBV.out W hB
                  refine want_n rfl ?_
                  have h191 : PIn W (eqP num5) (r (.tmp 191)) := hd 191 (by kernel_rfl)
                  obtain ⟨c191, e191⟩ := PIn.pc h191
                  have h192 : VIn W num5 (r (.tmp 192)) := hd 192 (by kernel_rfl)
                  obtain ⟨d192, e192⟩ := VIn.vc h192
                  exact sn_value (v := .agg (R2cells c191 d192 true)) rfl (by decide) (run_r2 c191 d192 true rfl e191 e192 (hc _)) ⟨c191, d192, rfl, by rw [e191] at h191; exact h191, by rw [e192] at h192; exact h192⟩
                · intro r W hc hf hs hd hB
                  have hBV := HBV.out W hB
                  refine want_n rfl ?_
                  have e14 : r (.tmp 14) = .pointer (some ⟨b14, 0, none⟩) := hs 14 (by kernel_rfl)
                  obtain ⟨c, ⟨g0, g1, g2⟩, hin⟩ := BoxV.vc (BoxV.below HV14.out hBV)
                  exact sn_value (v := .agg c.cells) rfl (by decide) (by unfold VC.cells; go_simp) hin
                · intro r W hc hf hs hd hB
                  have hBV := HBV.out W hB
                  refine want_n rfl ?_
                  have h194 : VIn W tupleV (r (.tmp 194)) := hd 194 (by kernel_rfl)
                  exact sn_call (f := 15) (args := #[r (.tmp 194)]) rfl (by decide) (by go_simp) (made_pred (peq_any _ _ W h194))
                · intro r W hc hf hs hd hB
                  have hBV := HBV.out W hB
                  refine want_n rfl ?_
                  have e14 : r (.tmp 14) = .pointer (some ⟨b14, 0, none⟩) := hs 14 (by kernel_rfl)
                  obtain ⟨c, ⟨g0, g1, g2⟩, hin⟩ := BoxV.vc (BoxV.below HV14.out hBV)
                  exact sn_value (v := .agg c.cells) rfl (by decide) (by unfold VC.cells; go_simp) hin
                · intro r W hc hf hs hd hB
                  have hBV := HBV.out W hB
                  refine want_n rfl ?_
                  have h195 : PIn W (eqP tupleV) (r (.tmp 195)) := hd 195 (by kernel_rfl)
                  obtain ⟨c195, e195⟩ := PIn.pc h195
                  have h196 : VIn W tupleV (r (.tmp 196)) := hd 196 (by kernel_rfl)
                  obtain ⟨d196, e196⟩ := VIn.vc h196
                  exact sn_value (v := .agg (R2cells c195 d196 true)) rfl (by decide) (run_r2 c195 d196 true rfl e195 e196 (hc _)) ⟨c195, d196, rfl, by rw [e195] at h195; exact h195, by rw [e196] at h196; exact h196⟩
                · intro r W hc hf hs hd hB
                  have hBV := HBV.out W hB
                  refine want_n rfl ?_
                  have e14 : r (.tmp 14) = .pointer (some ⟨b14, 0, none⟩) := hs 14 (by kernel_rfl)
                  obtain ⟨c, ⟨g0, g1, g2⟩, hin⟩ := BoxV.vc (BoxV.below HV14.out hBV)
                  exact sn_value (v := .agg c.cells) rfl (by decide) (by unfold VC.cells; go_simp) hin
                · intro r W hc hf hs hd hB
                  have hBV := HBV.out W hB
                  refine want_n rfl ?_
                  have h198 : VIn W tupleV (r (.tmp 198)) := hd 198 (by kernel_rfl)
                  exact sn_call (f := 15) (args := #[r (.tmp 198)]) rfl (by decide) (by go_simp) (made_pred (peq_any _ _ W h198))
                · intro r W hc hf hs hd hB
                  have hBV := HBV.out W hB
                  refine want_n rfl ?_
                  have e15 : r (.tmp 15) = .pointer (some ⟨b15, 0, none⟩) := hs 15 (by kernel_rfl)
                  obtain ⟨c, ⟨g0, g1, g2⟩, hin⟩ := BoxV.vc (BoxV.below HV15.out hBV)
                  exact sn_value (v := .agg c.cells) rfl (by decide) (by unfold VC.cells; go_simp) hin
                · intro r W hc hf hs hd hB
                  have hBV := HBV.out W hB
                  refine want_n rfl ?_
                  have h199 : PIn W (eqP tupleV) (r (.tmp 199)) := hd 199 (by kernel_rfl)
                  obtain ⟨c199, e199⟩ := PIn.pc h199
                  have h200 : VIn W emptyV (r (.tmp 200)) := hd 200 (by kernel_rfl)
                  obtain ⟨d200, e200⟩ := VIn.vc h200
                  exact sn_value (v := .agg (R2cells c199 d200 false)) rfl (by decide) (run_r2 c199 d200 false rfl e199 e200 (hc _)) ⟨c199, d200, rfl, by rw [e199] at h199; exact h199, by rw [e200] at h200; exact h200⟩
                · intro r W hc hf hs hd hB
                  have hBV := HBV.out W hB
                  refine want_n rfl ?_
                  have e14 : r (.tmp 14) = .pointer (some ⟨b14, 0, none⟩) := hs 14 (by kernel_rfl)
                  obtain ⟨c, ⟨g0, g1, g2⟩, hin⟩ := BoxV.vc (BoxV.below HV14.out hBV)
                  exact sn_value (v := .agg c.cells) rfl (by decide) (by unfold VC.cells; go_simp) hin
                · intro r W hc hf hs hd hB
                  have hBV := HBV.out W hB
                  refine want_n rfl ?_
                  have h202 : VIn W tupleV (r (.tmp 202)) := hd 202 (by kernel_rfl)
                  exact sn_call (f := 20) (args := #[r (.tmp 202)]) rfl (by decide) (by go_simp) (made_pred (pless_any _ _ W h202))
                · intro r W hc hf hs hd hB
                  have hBV := HBV.out W hB
                  refine want_n rfl ?_
                  have e1 : r (.tmp 1) = .pointer (some ⟨b1, 0, none⟩) := hs 1 (by kernel_rfl)
                  obtain ⟨c, ⟨g0, g1, g2⟩, hin⟩ := BoxV.vc (BoxV.below HV1.out hBV)
                  exact sn_value (v := .agg c.cells) rfl (by decide) (by unfold VC.cells; go_simp) hin
                · intro r W hc hf hs hd hB
                  have hBV := HBV.out W hB
                  refine want_n rfl ?_
                  have h203 : PIn W (lessP tupleV) (r (.tmp 203)) := hd 203 (by kernel_rfl)
                  obtain ⟨c203, e203⟩ := PIn.pc h203
                  have h204 : VIn W num5 (r (.tmp 204)) := hd 204 (by kernel_rfl)
                  obtain ⟨d204, e204⟩ := VIn.vc h204
                  exact sn_value (v := .agg (R2cells c203 d204 true)) rfl (by decide) (run_r2 c203 d204 true rfl e203 e204 (hc _)) ⟨c203, d204, rfl, by rw [e203] at h203; exact h203, by rw [e204] at h204; exact h204⟩
                · intro r W hc hf hs hd hB
                  have hBV := HBV.out W hB
                  refine want_n rfl ?_
                  have e14 : r (.tmp 14) = .pointer (some ⟨b14, 0, none⟩) := hs 14 (by kernel_rfl)
                  obtain ⟨c, ⟨g0, g1, g2⟩, hin⟩ := BoxV.vc (BoxV.below HV14.out hBV)
                  exact sn_value (v := .agg c.cells) rfl (by decide) (by unfold VC.cells; go_simp) hin
                · intro r W hc hf hs hd hB
                  have hBV := HBV.out W hB
                  refine want_n rfl ?_
                  have h206 : VIn W tupleV (r (.tmp 206)) := hd 206 (by kernel_rfl)
                  exact sn_call (f := 20) (args := #[r (.tmp 206)]) rfl (by decide) (by go_simp) (made_pred (pless_any _ _ W h206))
                · intro r W hc hf hs hd hB
                  have hBV := HBV.out W hB
                  refine want_n rfl ?_
                  have e15 : r (.tmp 15) = .pointer (some ⟨b15, 0, none⟩) := hs 15 (by kernel_rfl)
                  obtain ⟨c, ⟨g0, g1, g2⟩, hin⟩ := BoxV.vc (BoxV.below HV15.out hBV)
                  exact sn_value (v := .agg c.cells) rfl (by decide) (by unfold VC.cells; go_simp) hin
                · intro r W hc hf hs hd hB
                  have hBV := HBV.out W hB
                  refine want_n rfl ?_
                  have h207 : PIn W (lessP tupleV) (r (.tmp 207)) := hd 207 (by kernel_rfl)
                  obtain ⟨c207, e207⟩ := PIn.pc h207
                  have h208 : VIn W emptyV (r (.tmp 208)) := hd 208 (by kernel_rfl)
                  obtain ⟨d208, e208⟩ := VIn.vc h208
                  exact sn_value (v := .agg (R2cells c207 d208 false)) rfl (by decide) (run_r2 c207 d208 false rfl e207 e208 (hc _)) ⟨c207, d208, rfl, by rw [e207] at h207; exact h207, by rw [e208] at h208; exact h208⟩
                · intro r W hc hf hs hd hB
                  have hBV := HBV.out W hB
                  refine want_n rfl ?_
                  exact sn_call (f := 13) (args := #[.slice none 0 0]) rfl (by decide) (by go_simp) (made_pred (pand_n (l := []) rfl (by decide) prow_nil))
                · intro r W hc hf hs hd hB
                  have hBV := HBV.out W hB
                  refine want_n rfl ?_
                  have e1 : r (.tmp 1) = .pointer (some ⟨b1, 0, none⟩) := hs 1 (by kernel_rfl)
                  obtain ⟨c, ⟨g0, g1, g2⟩, hin⟩ := BoxV.vc (BoxV.below HV1.out hBV)
                  exact sn_value (v := .agg c.cells) rfl (by decide) (by unfold VC.cells; go_simp) hin
                · intro r W hc hf hs hd hB
                  have hBV := HBV.out W hB
                  refine want_n rfl ?_
                  have h210 : PIn W (tA []) (r (.tmp 210)) := hd 210 (by kernel_rfl)
                  obtain ⟨c210, e210⟩ := PIn.pc h210
                  have h211 : VIn W num5 (r (.tmp 211)) := hd 211 (by kernel_rfl)
                  obtain ⟨d211, e211⟩ := VIn.vc h211
                  exact sn_value (v := .agg (R2cells c210 d211 true)) rfl (by decide) (run_r2 c210 d211 true rfl e210 e211 (hc _)) ⟨c210, d211, rfl, by rw [e210] at h210; exact h210, by rw [e211] at h211; exact h211⟩
                · intro r W hc hf hs hd hB
                  have hBV := HBV.out W hB
                  refine want_n rfl ?_
                  exact sn_call (f := 14) (args := #[.slice none 0 0]) rfl (by decide) (by go_simp) (made_pred (por_n (l := []) rfl (by decide) prow_nil))
                · intro r W hc hf hs hd hB
                  have hBV := HBV.out W hB
                  refine want_n rfl ?_
                  have e1 : r (.tmp 1) = .pointer (some ⟨b1, 0, none⟩) := hs 1 (by kernel_rfl)
                  obtain ⟨c, ⟨g0, g1, g2⟩, hin⟩ := BoxV.vc (BoxV.below HV1.out hBV)
                  exact sn_value (v := .agg c.cells) rfl (by decide) (by unfold VC.cells; go_simp) hin
                · intro r W hc hf hs hd hB
                  have hBV := HBV.out W hB
                  refine want_n rfl ?_
                  have h213 : PIn W (tO []) (r (.tmp 213)) := hd 213 (by kernel_rfl)
                  obtain ⟨c213, e213⟩ := PIn.pc h213
                  have h214 : VIn W num5 (r (.tmp 214)) := hd 214 (by kernel_rfl)
                  obtain ⟨d214, e214⟩ := VIn.vc h214
                  exact sn_value (v := .agg (R2cells c213 d214 false)) rfl (by decide) (run_r2 c213 d214 false rfl e213 e214 (hc _)) ⟨c213, d214, rfl, by rw [e213] at h213; exact h213, by rw [e214] at h214; exact h214⟩
                · intro r W hc hf hs hd hB
                  have hBV := HBV.out W hB
                  refine want_n rfl ?_
                  exact sn_call (f := 19) (args := #[]) rfl (by decide) (by go_simp) (made_pred (pno_any W))
                · intro r W hc hf hs hd hB
                  have hBV := HBV.out W hB
                  refine want_n rfl ?_
                  have e1 : r (.tmp 1) = .pointer (some ⟨b1, 0, none⟩) := hs 1 (by kernel_rfl)
                  obtain ⟨c, ⟨g0, g1, g2⟩, hin⟩ := BoxV.vc (BoxV.below HV1.out hBV)
                  exact sn_value (v := .agg c.cells) rfl (by decide) (by unfold VC.cells; go_simp) hin
                · intro r W hc hf hs hd hB
                  have hBV := HBV.out W hB
                  refine want_n rfl ?_
                  have h217 : VIn W num5 (r (.tmp 217)) := hd 217 (by kernel_rfl)
                  exact sn_call (f := 15) (args := #[r (.tmp 217)]) rfl (by decide) (by go_simp) (made_pred (peq_any _ _ W h217))
                · intro r W hc hf hs hd hB
                  have hBV := HBV.out W hB
                  refine want_n rfl ?_
                  have h216 : PIn W tNo (r (.tmp 216)) := hd 216 (by kernel_rfl)
                  obtain ⟨c216, e216⟩ := PIn.pc h216
                  have h218 : PIn W (eqP num5) (r (.tmp 218)) := hd 218 (by kernel_rfl)
                  obtain ⟨c218, e218⟩ := PIn.pc h218
                  have H216 : PIn W tNo (.agg c216.cells) := by rw [e216] at h216; exact h216
                  have H218 : PIn W (eqP num5) (.agg c218.cells) := by rw [e218] at h218; exact h218
                  obtain ⟨w2, hrun, hb, hrow⟩ := run_prow (w := W) (r := r) (n := 2) (parts := #[(0, .tmp 216), (1, .tmp 218)]) [(tNo, c216), (eqP num5, c218)] rfl (by decide) (by decide) (by simp only [List.map_toArray, List.map_cons, List.map_nil, e216, e218]; rfl) (by intro x hx; simp only [List.mem_cons, List.not_mem_nil, or_false] at hx; rcases hx with rfl | rfl; exact H216; exact H218)
                  exact sn_new (v := .slice (some ⟨W.heap.size, 0, none⟩) 2 2) rfl (by decide) (hrun _ rfl) hb ⟨_, _, _, rfl, rfl, hrow⟩
                · intro r W hc hf hs hd hB
                  have hBV := HBV.out W hB
                  refine want_n rfl ?_
                  obtain ⟨qa219, qn219, qc219, e219, hn219, hr219⟩ : PQ.ok (.row [tNo, eqP num5]) (r (.tmp 219)) W := hd 219 (by kernel_rfl)
                  exact sn_call (f := 14) (args := #[.slice qa219 qn219 qc219]) rfl (by decide) (by go_simp) (made_pred (por_n hn219 (by rw [hn219]; decide) hr219))
                · intro r W hc hf hs hd hB
                  have hBV := HBV.out W hB
                  refine want_n rfl ?_
                  have e1 : r (.tmp 1) = .pointer (some ⟨b1, 0, none⟩) := hs 1 (by kernel_rfl)
                  obtain ⟨c, ⟨g0, g1, g2⟩, hin⟩ := BoxV.vc (BoxV.below HV1.out hBV)
                  exact sn_value (v := .agg c.cells) rfl (by decide) (by unfold VC.cells; go_simp) hin
                · intro r W hc hf hs hd hB
                  have hBV := HBV.out W hB
                  refine want_n rfl ?_
                  have h220 : PIn W (tO [tNo, eqP num5]) (r (.tmp 220)) := hd 220 (by kernel_rfl)
                  obtain ⟨c220, e220⟩ := PIn.pc h220
                  have h221 : VIn W num5 (r (.tmp 221)) := hd 221 (by kernel_rfl)
                  obtain ⟨d221, e221⟩ := VIn.vc h221
                  exact sn_value (v := .agg (R2cells c220 d221 true)) rfl (by decide) (run_r2 c220 d221 true rfl e220 e221 (hc _)) ⟨c220, d221, rfl, by rw [e220] at h220; exact h220, by rw [e221] at h221; exact h221⟩
                · intro r W hc hf hs hd hB
                  have hBV := HBV.out W hB
                  refine want_n rfl ?_
                  exact sn_call (f := 11) (args := #[]) rfl (by decide) (by go_simp) (made_pred (pyes_any W))
                · intro r W hc hf hs hd hB
                  have hBV := HBV.out W hB
                  refine want_n rfl ?_
                  exact sn_call (f := 19) (args := #[]) rfl (by decide) (by go_simp) (made_pred (pno_any W))
                · intro r W hc hf hs hd hB
                  have hBV := HBV.out W hB
                  refine want_n rfl ?_
                  have h223 : PIn W tYes (r (.tmp 223)) := hd 223 (by kernel_rfl)
                  obtain ⟨c223, e223⟩ := PIn.pc h223
                  have h224 : PIn W tNo (r (.tmp 224)) := hd 224 (by kernel_rfl)
                  obtain ⟨c224, e224⟩ := PIn.pc h224
                  have H223 : PIn W tYes (.agg c223.cells) := by rw [e223] at h223; exact h223
                  have H224 : PIn W tNo (.agg c224.cells) := by rw [e224] at h224; exact h224
                  obtain ⟨w2, hrun, hb, hrow⟩ := run_prow (w := W) (r := r) (n := 2) (parts := #[(0, .tmp 223), (1, .tmp 224)]) [(tYes, c223), (tNo, c224)] rfl (by decide) (by decide) (by simp only [List.map_toArray, List.map_cons, List.map_nil, e223, e224]; rfl) (by intro x hx; simp only [List.mem_cons, List.not_mem_nil, or_false] at hx; rcases hx with rfl | rfl; exact H223; exact H224)
                  exact sn_new (v := .slice (some ⟨W.heap.size, 0, none⟩) 2 2) rfl (by decide) (hrun _ rfl) hb ⟨_, _, _, rfl, rfl, hrow⟩
                · intro r W hc hf hs hd hB
                  have hBV := HBV.out W hB
                  refine want_n rfl ?_
                  obtain ⟨qa225, qn225, qc225, e225, hn225, hr225⟩ : PQ.ok (.row [tYes, tNo]) (r (.tmp 225)) W := hd 225 (by kernel_rfl)
                  exact sn_call (f := 13) (args := #[.slice qa225 qn225 qc225]) rfl (by decide) (by go_simp) (made_pred (pand_n hn225 (by rw [hn225]; decide) hr225))
                · intro r W hc hf hs hd hB
                  have hBV := HBV.out W hB
                  refine want_n rfl ?_
                  have e1 : r (.tmp 1) = .pointer (some ⟨b1, 0, none⟩) := hs 1 (by kernel_rfl)
                  obtain ⟨c, ⟨g0, g1, g2⟩, hin⟩ := BoxV.vc (BoxV.below HV1.out hBV)
                  exact sn_value (v := .agg c.cells) rfl (by decide) (by unfold VC.cells; go_simp) hin
                · intro r W hc hf hs hd hB
                  have hBV := HBV.out W hB
                  refine want_n rfl ?_
                  have h226 : PIn W (tA [tYes, tNo]) (r (.tmp 226)) := hd 226 (by kernel_rfl)
                  obtain ⟨c226, e226⟩ := PIn.pc h226
                  have h227 : VIn W num5 (r (.tmp 227)) := hd 227 (by kernel_rfl)
                  obtain ⟨d227, e227⟩ := VIn.vc h227
                  exact sn_value (v := .agg (R2cells c226 d227 false)) rfl (by decide) (run_r2 c226 d227 false rfl e226 e227 (hc _)) ⟨c226, d227, rfl, by rw [e226] at h226; exact h226, by rw [e227] at h227; exact h227⟩
                · intro r W hc hf hs hd hB
                  have hBV := HBV.out W hB
                  refine want_n rfl ?_
                  have e1 : r (.tmp 1) = .pointer (some ⟨b1, 0, none⟩) := hs 1 (by kernel_rfl)
                  obtain ⟨c, ⟨g0, g1, g2⟩, hin⟩ := BoxV.vc (BoxV.below HV1.out hBV)
                  exact sn_value (v := .agg c.cells) rfl (by decide) (by unfold VC.cells; go_simp) hin
                · intro r W hc hf hs hd hB
                  have hBV := HBV.out W hB
                  refine want_n rfl ?_
                  have h229 : VIn W num5 (r (.tmp 229)) := hd 229 (by kernel_rfl)
                  exact sn_call (f := 15) (args := #[r (.tmp 229)]) rfl (by decide) (by go_simp) (made_pred (peq_any _ _ W h229))
                · intro r W hc hf hs hd hB
                  have hBV := HBV.out W hB
                  refine want_n rfl ?_
                  have h230 : PIn W (eqP num5) (r (.tmp 230)) := hd 230 (by kernel_rfl)
                  exact sn_call (f := 16) (args := #[.int .i64 (0), r (.tmp 230)]) rfl (by decide) (by go_simp) (made_pred (pat_any (0) _ _ W h230))
                · intro r W hc hf hs hd hB
                  have hBV := HBV.out W hB
                  refine want_n rfl ?_
                  have e14 : r (.tmp 14) = .pointer (some ⟨b14, 0, none⟩) := hs 14 (by kernel_rfl)
                  obtain ⟨c, ⟨g0, g1, g2⟩, hin⟩ := BoxV.vc (BoxV.below HV14.out hBV)
                  exact sn_value (v := .agg c.cells) rfl (by decide) (by unfold VC.cells; go_simp) hin
                · intro r W hc hf hs hd hB
                  have hBV := HBV.out W hB
                  refine want_n rfl ?_
                  have h231 : PIn W (tAtp 0 (eqP num5)) (r (.tmp 231)) := hd 231 (by kernel_rfl)
                  obtain ⟨c231, e231⟩ := PIn.pc h231
                  have h232 : VIn W tupleV (r (.tmp 232)) := hd 232 (by kernel_rfl)
                  obtain ⟨d232, e232⟩ := VIn.vc h232
                  exact sn_value (v := .agg (R2cells c231 d232 true)) rfl (by decide) (run_r2 c231 d232 true rfl e231 e232 (hc _)) ⟨c231, d232, rfl, by rw [e231] at h231; exact h231, by rw [e232] at h232; exact h232⟩
                · intro r W hc hf hs hd hB
                  have hBV := HBV.out W hB
                  refine want_n rfl ?_
                  have e1 : r (.tmp 1) = .pointer (some ⟨b1, 0, none⟩) := hs 1 (by kernel_rfl)
                  obtain ⟨c, ⟨g0, g1, g2⟩, hin⟩ := BoxV.vc (BoxV.below HV1.out hBV)
                  exact sn_value (v := .agg c.cells) rfl (by decide) (by unfold VC.cells; go_simp) hin
                · intro r W hc hf hs hd hB
                  have hBV := HBV.out W hB
                  refine want_n rfl ?_
                  have h234 : VIn W num5 (r (.tmp 234)) := hd 234 (by kernel_rfl)
                  exact sn_call (f := 15) (args := #[r (.tmp 234)]) rfl (by decide) (by go_simp) (made_pred (peq_any _ _ W h234))
                · intro r W hc hf hs hd hB
                  have hBV := HBV.out W hB
                  refine want_n rfl ?_
                  have h235 : PIn W (eqP num5) (r (.tmp 235)) := hd 235 (by kernel_rfl)
                  exact sn_call (f := 16) (args := #[.int .i64 (1), r (.tmp 235)]) rfl (by decide) (by go_simp) (made_pred (pat_any (1) _ _ W h235))
                · intro r W hc hf hs hd hB
                  have hBV := HBV.out W hB
                  refine want_n rfl ?_
                  have e14 : r (.tmp 14) = .pointer (some ⟨b14, 0, none⟩) := hs 14 (by kernel_rfl)
                  obtain ⟨c, ⟨g0, g1, g2⟩, hin⟩ := BoxV.vc (BoxV.below HV14.out hBV)
                  exact sn_value (v := .agg c.cells) rfl (by decide) (by unfold VC.cells; go_simp) hin
                · intro r W hc hf hs hd hB
                  have hBV := HBV.out W hB
                  refine want_n rfl ?_
                  have h236 : PIn W (tAtp 1 (eqP num5)) (r (.tmp 236)) := hd 236 (by kernel_rfl)
                  obtain ⟨c236, e236⟩ := PIn.pc h236
                  have h237 : VIn W tupleV (r (.tmp 237)) := hd 237 (by kernel_rfl)
                  obtain ⟨d237, e237⟩ := VIn.vc h237
                  exact sn_value (v := .agg (R2cells c236 d237 false)) rfl (by decide) (run_r2 c236 d237 false rfl e236 e237 (hc _)) ⟨c236, d237, rfl, by rw [e236] at h236; exact h236, by rw [e237] at h237; exact h237⟩
                · intro r W hc hf hs hd hB
                  have hBV := HBV.out W hB
                  refine want_n rfl ?_
                  exact sn_call (f := 11) (args := #[]) rfl (by decide) (by go_simp) (made_pred (pyes_any W))
                · intro r W hc hf hs hd hB
                  have hBV := HBV.out W hB
                  refine want_n rfl ?_
                  have h239 : PIn W tYes (r (.tmp 239)) := hd 239 (by kernel_rfl)
                  exact sn_call (f := 16) (args := #[.int .i64 (2), r (.tmp 239)]) rfl (by decide) (by go_simp) (made_pred (pat_any (2) _ _ W h239))
                · intro r W hc hf hs hd hB
                  have hBV := HBV.out W hB
                  refine want_n rfl ?_
                  have e14 : r (.tmp 14) = .pointer (some ⟨b14, 0, none⟩) := hs 14 (by kernel_rfl)
                  obtain ⟨c, ⟨g0, g1, g2⟩, hin⟩ := BoxV.vc (BoxV.below HV14.out hBV)
                  exact sn_value (v := .agg c.cells) rfl (by decide) (by unfold VC.cells; go_simp) hin
                · intro r W hc hf hs hd hB
                  have hBV := HBV.out W hB
                  refine want_n rfl ?_
                  have h240 : PIn W (tAtp 2 tYes) (r (.tmp 240)) := hd 240 (by kernel_rfl)
                  obtain ⟨c240, e240⟩ := PIn.pc h240
                  have h241 : VIn W tupleV (r (.tmp 241)) := hd 241 (by kernel_rfl)
                  obtain ⟨d241, e241⟩ := VIn.vc h241
                  exact sn_value (v := .agg (R2cells c240 d241 false)) rfl (by decide) (run_r2 c240 d241 false rfl e240 e241 (hc _)) ⟨c240, d241, rfl, by rw [e240] at h240; exact h240, by rw [e241] at h241; exact h241⟩
                · intro r W hc hf hs hd hB
                  have hBV := HBV.out W hB
                  refine want_n rfl ?_
                  exact sn_call (f := 11) (args := #[]) rfl (by decide) (by go_simp) (made_pred (pyes_any W))
                · intro r W hc hf hs hd hB
                  have hBV := HBV.out W hB
                  refine want_n rfl ?_
                  have h243 : PIn W tYes (r (.tmp 243)) := hd 243 (by kernel_rfl)
                  exact sn_call (f := 16) (args := #[.int .i64 (0), r (.tmp 243)]) rfl (by decide) (by go_simp) (made_pred (pat_any (0) _ _ W h243))
                · intro r W hc hf hs hd hB
                  have hBV := HBV.out W hB
                  refine want_n rfl ?_
                  have e1 : r (.tmp 1) = .pointer (some ⟨b1, 0, none⟩) := hs 1 (by kernel_rfl)
                  obtain ⟨c, ⟨g0, g1, g2⟩, hin⟩ := BoxV.vc (BoxV.below HV1.out hBV)
                  exact sn_value (v := .agg c.cells) rfl (by decide) (by unfold VC.cells; go_simp) hin
                · intro r W hc hf hs hd hB
                  have hBV := HBV.out W hB
                  refine want_n rfl ?_
                  have h244 : PIn W (tAtp 0 tYes) (r (.tmp 244)) := hd 244 (by kernel_rfl)
                  obtain ⟨c244, e244⟩ := PIn.pc h244
                  have h245 : VIn W num5 (r (.tmp 245)) := hd 245 (by kernel_rfl)
                  obtain ⟨d245, e245⟩ := VIn.vc h245
                  exact sn_value (v := .agg (R2cells c244 d245 false)) rfl (by decide) (run_r2 c244 d245 false rfl e244 e245 (hc _)) ⟨c244, d245, rfl, by rw [e244] at h244; exact h244, by rw [e245] at h245; exact h245⟩
                · intro r W hc hf hs hd hB
                  have hBV := HBV.out W hB
                  refine want_n rfl ?_
                  exact sn_call (f := 19) (args := #[]) rfl (by decide) (by go_simp) (made_pred (pno_any W))
                · intro r W hc hf hs hd hB
                  have hBV := HBV.out W hB
                  refine want_n rfl ?_
                  have h247 : PIn W tNo (r (.tmp 247)) := hd 247 (by kernel_rfl)
                  exact sn_call (f := 17) (args := #[r (.tmp 247)]) rfl (by decide) (by go_simp) (made_pred (pall_any _ _ W h247))
                · intro r W hc hf hs hd hB
                  have hBV := HBV.out W hB
                  refine want_n rfl ?_
                  have e15 : r (.tmp 15) = .pointer (some ⟨b15, 0, none⟩) := hs 15 (by kernel_rfl)
                  obtain ⟨c, ⟨g0, g1, g2⟩, hin⟩ := BoxV.vc (BoxV.below HV15.out hBV)
                  exact sn_value (v := .agg c.cells) rfl (by decide) (by unfold VC.cells; go_simp) hin
                · intro r W hc hf hs hd hB
                  have hBV := HBV.out W hB
                  refine want_n rfl ?_
                  have h248 : PIn W (tAl tNo) (r (.tmp 248)) := hd 248 (by kernel_rfl)
                  obtain ⟨c248, e248⟩ := PIn.pc h248
                  have h249 : VIn W emptyV (r (.tmp 249)) := hd 249 (by kernel_rfl)
                  obtain ⟨d249, e249⟩ := VIn.vc h249
                  exact sn_value (v := .agg (R2cells c248 d249 true)) rfl (by decide) (run_r2 c248 d249 true rfl e248 e249 (hc _)) ⟨c248, d249, rfl, by rw [e248] at h248; exact h248, by rw [e249] at h249; exact h249⟩
                · intro r W hc hf hs hd hB
                  have hBV := HBV.out W hB
                  refine want_n rfl ?_
                  exact sn_call (f := 11) (args := #[]) rfl (by decide) (by go_simp) (made_pred (pyes_any W))
                · intro r W hc hf hs hd hB
                  have hBV := HBV.out W hB
                  refine want_n rfl ?_
                  have h251 : PIn W tYes (r (.tmp 251)) := hd 251 (by kernel_rfl)
                  exact sn_call (f := 21) (args := #[r (.tmp 251)]) rfl (by decide) (by go_simp) (made_pred (pany_any _ _ W h251))
                · intro r W hc hf hs hd hB
                  have hBV := HBV.out W hB
                  refine want_n rfl ?_
                  have e15 : r (.tmp 15) = .pointer (some ⟨b15, 0, none⟩) := hs 15 (by kernel_rfl)
                  obtain ⟨c, ⟨g0, g1, g2⟩, hin⟩ := BoxV.vc (BoxV.below HV15.out hBV)
                  exact sn_value (v := .agg c.cells) rfl (by decide) (by unfold VC.cells; go_simp) hin
                · intro r W hc hf hs hd hB
                  have hBV := HBV.out W hB
                  refine want_n rfl ?_
                  have h252 : PIn W (tAn tYes) (r (.tmp 252)) := hd 252 (by kernel_rfl)
                  obtain ⟨c252, e252⟩ := PIn.pc h252
                  have h253 : VIn W emptyV (r (.tmp 253)) := hd 253 (by kernel_rfl)
                  obtain ⟨d253, e253⟩ := VIn.vc h253
                  exact sn_value (v := .agg (R2cells c252 d253 false)) rfl (by decide) (run_r2 c252 d253 false rfl e252 e253 (hc _)) ⟨c252, d253, rfl, by rw [e252] at h252; exact h252, by rw [e253] at h253; exact h253⟩
                · intro r W hc hf hs hd hB
                  have hBV := HBV.out W hB
                  refine want_n rfl ?_
                  exact sn_call (f := 11) (args := #[]) rfl (by decide) (by go_simp) (made_pred (pyes_any W))
                · intro r W hc hf hs hd hB
                  have hBV := HBV.out W hB
                  refine want_n rfl ?_
                  have h255 : PIn W tYes (r (.tmp 255)) := hd 255 (by kernel_rfl)
                  exact sn_call (f := 17) (args := #[r (.tmp 255)]) rfl (by decide) (by go_simp) (made_pred (pall_any _ _ W h255))
                · intro r W hc hf hs hd hB
                  have hBV := HBV.out W hB
                  refine want_n rfl ?_
                  have e1 : r (.tmp 1) = .pointer (some ⟨b1, 0, none⟩) := hs 1 (by kernel_rfl)
                  obtain ⟨c, ⟨g0, g1, g2⟩, hin⟩ := BoxV.vc (BoxV.below HV1.out hBV)
                  exact sn_value (v := .agg c.cells) rfl (by decide) (by unfold VC.cells; go_simp) hin
                · intro r W hc hf hs hd hB
                  have hBV := HBV.out W hB
                  refine want_n rfl ?_
                  have h256 : PIn W (tAl tYes) (r (.tmp 256)) := hd 256 (by kernel_rfl)
                  obtain ⟨c256, e256⟩ := PIn.pc h256
                  have h257 : VIn W num5 (r (.tmp 257)) := hd 257 (by kernel_rfl)
                  obtain ⟨d257, e257⟩ := VIn.vc h257
                  exact sn_value (v := .agg (R2cells c256 d257 false)) rfl (by decide) (run_r2 c256 d257 false rfl e256 e257 (hc _)) ⟨c256, d257, rfl, by rw [e256] at h256; exact h256, by rw [e257] at h257; exact h257⟩
                · intro r W hc hf hs hd hB
                  have hBV := HBV.out W hB
                  refine want_n rfl ?_
                  have e1 : r (.tmp 1) = .pointer (some ⟨b1, 0, none⟩) := hs 1 (by kernel_rfl)
                  obtain ⟨c, ⟨g0, g1, g2⟩, hin⟩ := BoxV.vc (BoxV.below HV1.out hBV)
                  exact sn_value (v := .agg c.cells) rfl (by decide) (by unfold VC.cells; go_simp) hin
                · intro r W hc hf hs hd hB
                  have hBV := HBV.out W hB
                  refine want_n rfl ?_
                  have h259 : VIn W num5 (r (.tmp 259)) := hd 259 (by kernel_rfl)
                  exact sn_call (f := 15) (args := #[r (.tmp 259)]) rfl (by decide) (by go_simp) (made_pred (peq_any _ _ W h259))
                · intro r W hc hf hs hd hB
                  have hBV := HBV.out W hB
                  refine want_n rfl ?_
                  have h260 : PIn W (eqP num5) (r (.tmp 260)) := hd 260 (by kernel_rfl)
                  exact sn_call (f := 21) (args := #[r (.tmp 260)]) rfl (by decide) (by go_simp) (made_pred (pany_any _ _ W h260))
                · intro r W hc hf hs hd hB
                  have hBV := HBV.out W hB
                  refine want_n rfl ?_
                  have e14 : r (.tmp 14) = .pointer (some ⟨b14, 0, none⟩) := hs 14 (by kernel_rfl)
                  obtain ⟨c, ⟨g0, g1, g2⟩, hin⟩ := BoxV.vc (BoxV.below HV14.out hBV)
                  exact sn_value (v := .agg c.cells) rfl (by decide) (by unfold VC.cells; go_simp) hin
                · intro r W hc hf hs hd hB
                  have hBV := HBV.out W hB
                  refine want_n rfl ?_
                  have h261 : PIn W (tAn (eqP num5)) (r (.tmp 261)) := hd 261 (by kernel_rfl)
                  obtain ⟨c261, e261⟩ := PIn.pc h261
                  have h262 : VIn W tupleV (r (.tmp 262)) := hd 262 (by kernel_rfl)
                  obtain ⟨d262, e262⟩ := VIn.vc h262
                  exact sn_value (v := .agg (R2cells c261 d262 true)) rfl (by decide) (run_r2 c261 d262 true rfl e261 e262 (hc _)) ⟨c261, d262, rfl, by rw [e261] at h261; exact h261, by rw [e262] at h262; exact h262⟩
                · intro r W hc hf hs hd hB
                  have hBV := HBV.out W hB
                  refine want_n rfl ?_
                  have e1 : r (.tmp 1) = .pointer (some ⟨b1, 0, none⟩) := hs 1 (by kernel_rfl)
                  obtain ⟨c, ⟨g0, g1, g2⟩, hin⟩ := BoxV.vc (BoxV.below HV1.out hBV)
                  exact sn_value (v := .agg c.cells) rfl (by decide) (by unfold VC.cells; go_simp) hin
                · intro r W hc hf hs hd hB
                  have hBV := HBV.out W hB
                  refine want_n rfl ?_
                  have h264 : VIn W num5 (r (.tmp 264)) := hd 264 (by kernel_rfl)
                  exact sn_call (f := 15) (args := #[r (.tmp 264)]) rfl (by decide) (by go_simp) (made_pred (peq_any _ _ W h264))
                · intro r W hc hf hs hd hB
                  have hBV := HBV.out W hB
                  refine want_n rfl ?_
                  have h265 : PIn W (eqP num5) (r (.tmp 265)) := hd 265 (by kernel_rfl)
                  exact sn_call (f := 17) (args := #[r (.tmp 265)]) rfl (by decide) (by go_simp) (made_pred (pall_any _ _ W h265))
                · intro r W hc hf hs hd hB
                  have hBV := HBV.out W hB
                  refine want_n rfl ?_
                  have e14 : r (.tmp 14) = .pointer (some ⟨b14, 0, none⟩) := hs 14 (by kernel_rfl)
                  obtain ⟨c, ⟨g0, g1, g2⟩, hin⟩ := BoxV.vc (BoxV.below HV14.out hBV)
                  exact sn_value (v := .agg c.cells) rfl (by decide) (by unfold VC.cells; go_simp) hin
                · intro r W hc hf hs hd hB
                  have hBV := HBV.out W hB
                  refine want_n rfl ?_
                  have h266 : PIn W (tAl (eqP num5)) (r (.tmp 266)) := hd 266 (by kernel_rfl)
                  obtain ⟨c266, e266⟩ := PIn.pc h266
                  have h267 : VIn W tupleV (r (.tmp 267)) := hd 267 (by kernel_rfl)
                  obtain ⟨d267, e267⟩ := VIn.vc h267
                  exact sn_value (v := .agg (R2cells c266 d267 false)) rfl (by decide) (run_r2 c266 d267 false rfl e266 e267 (hc _)) ⟨c266, d267, rfl, by rw [e266] at h266; exact h266, by rw [e267] at h267; exact h267⟩
                · intro r W hc hf hs hd hB
                  have hBV := HBV.out W hB
                  refine want_n rfl ?_
                  exact sn_value (v := .agg #[.int .u8 1, .int .i64 2, .slice none 0 0]) rfl (by decide) (by go_simp) (VIn.leaf 1 2)
                · intro r W hc hf hs hd hB
                  have hBV := HBV.out W hB
                  refine want_n rfl ?_
                  have h269 : VIn W (.mk 1 2 []) (r (.tmp 269)) := hd 269 (by kernel_rfl)
                  exact sn_call (f := 15) (args := #[r (.tmp 269)]) rfl (by decide) (by go_simp) (made_pred (peq_any _ _ W h269))
                · intro r W hc hf hs hd hB
                  have hBV := HBV.out W hB
                  refine want_n rfl ?_
                  have h270 : PIn W (eqP (.mk 1 2 [])) (r (.tmp 270)) := hd 270 (by kernel_rfl)
                  exact sn_call (f := 22) (args := #[r (.tmp 270)]) rfl (by decide) (by go_simp) (made_pred (plen_any _ _ W h270))
                · intro r W hc hf hs hd hB
                  have hBV := HBV.out W hB
                  refine want_n rfl ?_
                  have e14 : r (.tmp 14) = .pointer (some ⟨b14, 0, none⟩) := hs 14 (by kernel_rfl)
                  obtain ⟨c, ⟨g0, g1, g2⟩, hin⟩ := BoxV.vc (BoxV.below HV14.out hBV)
                  exact sn_value (v := .agg c.cells) rfl (by decide) (by unfold VC.cells; go_simp) hin
                · intro r W hc hf hs hd hB
                  have hBV := HBV.out W hB
                  refine want_n rfl ?_
                  have h271 : PIn W (tLenp (eqP (.mk 1 2 []))) (r (.tmp 271)) := hd 271 (by kernel_rfl)
                  obtain ⟨c271, e271⟩ := PIn.pc h271
                  have h272 : VIn W tupleV (r (.tmp 272)) := hd 272 (by kernel_rfl)
                  obtain ⟨d272, e272⟩ := VIn.vc h272
                  exact sn_value (v := .agg (R2cells c271 d272 true)) rfl (by decide) (run_r2 c271 d272 true rfl e271 e272 (hc _)) ⟨c271, d272, rfl, by rw [e271] at h271; exact h271, by rw [e272] at h272; exact h272⟩
                · intro r W hc hf hs hd hB
                  have hBV := HBV.out W hB
                  refine want_n rfl ?_
                  exact sn_call (f := 11) (args := #[]) rfl (by decide) (by go_simp) (made_pred (pyes_any W))
                · intro r W hc hf hs hd hB
                  have hBV := HBV.out W hB
                  refine want_n rfl ?_
                  have h274 : PIn W tYes (r (.tmp 274)) := hd 274 (by kernel_rfl)
                  exact sn_call (f := 22) (args := #[r (.tmp 274)]) rfl (by decide) (by go_simp) (made_pred (plen_any _ _ W h274))
                · intro r W hc hf hs hd hB
                  have hBV := HBV.out W hB
                  refine want_n rfl ?_
                  have e1 : r (.tmp 1) = .pointer (some ⟨b1, 0, none⟩) := hs 1 (by kernel_rfl)
                  obtain ⟨c, ⟨g0, g1, g2⟩, hin⟩ := BoxV.vc (BoxV.below HV1.out hBV)
                  exact sn_value (v := .agg c.cells) rfl (by decide) (by unfold VC.cells; go_simp) hin
                · intro r W hc hf hs hd hB
                  have hBV := HBV.out W hB
                  refine want_n rfl ?_
                  have h275 : PIn W (tLenp tYes) (r (.tmp 275)) := hd 275 (by kernel_rfl)
                  obtain ⟨c275, e275⟩ := PIn.pc h275
                  have h276 : VIn W num5 (r (.tmp 276)) := hd 276 (by kernel_rfl)
                  obtain ⟨d276, e276⟩ := VIn.vc h276
                  exact sn_value (v := .agg (R2cells c275 d276 false)) rfl (by decide) (run_r2 c275 d276 false rfl e275 e276 (hc _)) ⟨c275, d276, rfl, by rw [e275] at h275; exact h275, by rw [e276] at h276; exact h276⟩
                · intro r W hc hf hs hd hB
                  have hBV := HBV.out W hB
                  refine want_n rfl ?_
                  exact sn_call (f := 11) (args := #[]) rfl (by decide) (by go_simp) (made_pred (pyes_any W))
                · intro r W hc hf hs hd hB
                  have hBV := HBV.out W hB
                  refine want_n rfl ?_
                  have h278 : PIn W tYes (r (.tmp 278)) := hd 278 (by kernel_rfl)
                  exact sn_call (f := 22) (args := #[r (.tmp 278)]) rfl (by decide) (by go_simp) (made_pred (plen_any _ _ W h278))
                · intro r W hc hf hs hd hB
                  have hBV := HBV.out W hB
                  refine want_n rfl ?_
                  have h279 : PIn W (tLenp tYes) (r (.tmp 279)) := hd 279 (by kernel_rfl)
                  exact sn_call (f := 12) (args := #[r (.tmp 279)]) rfl (by decide) (by go_simp) (made_pred (pnot_any _ _ W h279))
                · intro r W hc hf hs hd hB
                  have hBV := HBV.out W hB
                  refine want_n rfl ?_
                  have e1 : r (.tmp 1) = .pointer (some ⟨b1, 0, none⟩) := hs 1 (by kernel_rfl)
                  obtain ⟨c, ⟨g0, g1, g2⟩, hin⟩ := BoxV.vc (BoxV.below HV1.out hBV)
                  exact sn_value (v := .agg c.cells) rfl (by decide) (by unfold VC.cells; go_simp) hin
                · intro r W hc hf hs hd hB
                  have hBV := HBV.out W hB
                  refine want_n rfl ?_
                  have h280 : PIn W (tN (tLenp tYes)) (r (.tmp 280)) := hd 280 (by kernel_rfl)
                  obtain ⟨c280, e280⟩ := PIn.pc h280
                  have h281 : VIn W num5 (r (.tmp 281)) := hd 281 (by kernel_rfl)
                  obtain ⟨d281, e281⟩ := VIn.vc h281
                  exact sn_value (v := .agg (R2cells c280 d281 true)) rfl (by decide) (run_r2 c280 d281 true rfl e280 e281 (hc _)) ⟨c280, d281, rfl, by rw [e280] at h280; exact h280, by rw [e281] at h281; exact h281⟩
                · intro r W hc hf hs hd hB
                  have hBV := HBV.out W hB
                  refine want_n rfl ?_
                  exact sn_value (v := .agg #[.int .u8 12, .int .u8 0, .int .i64 0, .slice none 0 0, .int .i64 0, .slice none 0 0]) rfl (by decide) (by go_simp) (PIn.shut (by simp) (VIn.leaf 0 0) prow_nil)
                · intro r W hc hf hs hd hB
                  have hBV := HBV.out W hB
                  refine want_n rfl ?_
                  have h283 : PIn W (.mk 12 vNone 0 []) (r (.tmp 283)) := hd 283 (by kernel_rfl)
                  exact sn_call (f := 12) (args := #[r (.tmp 283)]) rfl (by decide) (by go_simp) (made_pred (pnot_any _ _ W h283))
                · intro r W hc hf hs hd hB
                  have hBV := HBV.out W hB
                  refine want_n rfl ?_
                  have e1 : r (.tmp 1) = .pointer (some ⟨b1, 0, none⟩) := hs 1 (by kernel_rfl)
                  obtain ⟨c, ⟨g0, g1, g2⟩, hin⟩ := BoxV.vc (BoxV.below HV1.out hBV)
                  exact sn_value (v := .agg c.cells) rfl (by decide) (by unfold VC.cells; go_simp) hin
                · intro r W hc hf hs hd hB
                  have hBV := HBV.out W hB
                  refine want_n rfl ?_
                  have h284 : PIn W (tN (.mk 12 vNone 0 [])) (r (.tmp 284)) := hd 284 (by kernel_rfl)
                  obtain ⟨c284, e284⟩ := PIn.pc h284
                  have h285 : VIn W num5 (r (.tmp 285)) := hd 285 (by kernel_rfl)
                  obtain ⟨d285, e285⟩ := VIn.vc h285
                  exact sn_value (v := .agg (R2cells c284 d285 false)) rfl (by decide) (run_r2 c284 d285 false rfl e284 e285 (hc _)) ⟨c284, d285, rfl, by rw [e284] at h284; exact h284, by rw [e285] at h285; exact h285⟩
                · intro r W hc hf hs hd hB
                  have hBV := HBV.out W hB
                  refine want_n rfl ?_
                  exact sn_value (v := .agg #[.int .u8 0, .int .u8 0, .int .i64 0, .slice none 0 0, .int .i64 0, .slice none 0 0]) rfl (by decide) (by go_simp) (PIn.shut (by simp) (VIn.leaf 0 0) prow_nil)
                · intro r W hc hf hs hd hB
                  have hBV := HBV.out W hB
                  refine want_n rfl ?_
                  have e1 : r (.tmp 1) = .pointer (some ⟨b1, 0, none⟩) := hs 1 (by kernel_rfl)
                  obtain ⟨c, ⟨g0, g1, g2⟩, hin⟩ := BoxV.vc (BoxV.below HV1.out hBV)
                  exact sn_value (v := .agg c.cells) rfl (by decide) (by unfold VC.cells; go_simp) hin
                · intro r W hc hf hs hd hB
                  have hBV := HBV.out W hB
                  refine want_n rfl ?_
                  have h287 : PIn W (.mk 0 vNone 0 []) (r (.tmp 287)) := hd 287 (by kernel_rfl)
                  obtain ⟨c287, e287⟩ := PIn.pc h287
                  have h288 : VIn W num5 (r (.tmp 288)) := hd 288 (by kernel_rfl)
                  obtain ⟨d288, e288⟩ := VIn.vc h288
                  exact sn_value (v := .agg (R2cells c287 d288 false)) rfl (by decide) (run_r2 c287 d288 false rfl e287 e288 (hc _)) ⟨c287, d288, rfl, by rw [e287] at h287; exact h287, by rw [e288] at h288; exact h288⟩
                · intro r W hc hf hs hd hB
                  have hBV := HBV.out W hB
                  refine want_n rfl ?_
                  obtain ⟨c186, d186, e186, k186, m186⟩ : R2Ok tYes (.mk 0 0 []) true (r (.tmp 186)) W := hd 186 (by kernel_rfl)
                  obtain ⟨c189, d189, e189, k189, m189⟩ : R2Ok tNo num5 false (r (.tmp 189)) W := hd 189 (by kernel_rfl)
                  obtain ⟨c193, d193, e193, k193, m193⟩ : R2Ok (eqP num5) num5 true (r (.tmp 193)) W := hd 193 (by kernel_rfl)
                  obtain ⟨c197, d197, e197, k197, m197⟩ : R2Ok (eqP tupleV) tupleV true (r (.tmp 197)) W := hd 197 (by kernel_rfl)
                  obtain ⟨c201, d201, e201, k201, m201⟩ : R2Ok (eqP tupleV) emptyV false (r (.tmp 201)) W := hd 201 (by kernel_rfl)
                  obtain ⟨c205, d205, e205, k205, m205⟩ : R2Ok (lessP tupleV) num5 true (r (.tmp 205)) W := hd 205 (by kernel_rfl)
                  obtain ⟨c209, d209, e209, k209, m209⟩ : R2Ok (lessP tupleV) emptyV false (r (.tmp 209)) W := hd 209 (by kernel_rfl)
                  obtain ⟨c212, d212, e212, k212, m212⟩ : R2Ok (tA []) num5 true (r (.tmp 212)) W := hd 212 (by kernel_rfl)
                  obtain ⟨c215, d215, e215, k215, m215⟩ : R2Ok (tO []) num5 false (r (.tmp 215)) W := hd 215 (by kernel_rfl)
                  obtain ⟨c222, d222, e222, k222, m222⟩ : R2Ok (tO [tNo, eqP num5]) num5 true (r (.tmp 222)) W := hd 222 (by kernel_rfl)
                  obtain ⟨c228, d228, e228, k228, m228⟩ : R2Ok (tA [tYes, tNo]) num5 false (r (.tmp 228)) W := hd 228 (by kernel_rfl)
                  obtain ⟨c233, d233, e233, k233, m233⟩ : R2Ok (tAtp 0 (eqP num5)) tupleV true (r (.tmp 233)) W := hd 233 (by kernel_rfl)
                  obtain ⟨c238, d238, e238, k238, m238⟩ : R2Ok (tAtp 1 (eqP num5)) tupleV false (r (.tmp 238)) W := hd 238 (by kernel_rfl)
                  obtain ⟨c242, d242, e242, k242, m242⟩ : R2Ok (tAtp 2 tYes) tupleV false (r (.tmp 242)) W := hd 242 (by kernel_rfl)
                  obtain ⟨c246, d246, e246, k246, m246⟩ : R2Ok (tAtp 0 tYes) num5 false (r (.tmp 246)) W := hd 246 (by kernel_rfl)
                  obtain ⟨c250, d250, e250, k250, m250⟩ : R2Ok (tAl tNo) emptyV true (r (.tmp 250)) W := hd 250 (by kernel_rfl)
                  obtain ⟨c254, d254, e254, k254, m254⟩ : R2Ok (tAn tYes) emptyV false (r (.tmp 254)) W := hd 254 (by kernel_rfl)
                  obtain ⟨c258, d258, e258, k258, m258⟩ : R2Ok (tAl tYes) num5 false (r (.tmp 258)) W := hd 258 (by kernel_rfl)
                  obtain ⟨c263, d263, e263, k263, m263⟩ : R2Ok (tAn (eqP num5)) tupleV true (r (.tmp 263)) W := hd 263 (by kernel_rfl)
                  obtain ⟨c268, d268, e268, k268, m268⟩ : R2Ok (tAl (eqP num5)) tupleV false (r (.tmp 268)) W := hd 268 (by kernel_rfl)
                  obtain ⟨c273, d273, e273, k273, m273⟩ : R2Ok (tLenp (eqP (.mk 1 2 []))) tupleV true (r (.tmp 273)) W := hd 273 (by kernel_rfl)
                  obtain ⟨c277, d277, e277, k277, m277⟩ : R2Ok (tLenp tYes) num5 false (r (.tmp 277)) W := hd 277 (by kernel_rfl)
                  obtain ⟨c282, d282, e282, k282, m282⟩ : R2Ok (tN (tLenp tYes)) num5 true (r (.tmp 282)) W := hd 282 (by kernel_rfl)
                  obtain ⟨c286, d286, e286, k286, m286⟩ : R2Ok (tN (.mk 12 vNone 0 [])) num5 false (r (.tmp 286)) W := hd 286 (by kernel_rfl)
                  obtain ⟨c289, d289, e289, k289, m289⟩ : R2Ok (.mk 0 vNone 0 []) num5 false (r (.tmp 289)) W := hd 289 (by kernel_rfl)
                  obtain ⟨w2, hrun, hb, hok⟩ := run_t2 (w := W) (r := r) (n := 25) (parts := #[(0, .tmp 186), (1, .tmp 189), (2, .tmp 193), (3, .tmp 197), (4, .tmp 201), (5, .tmp 205), (6, .tmp 209), (7, .tmp 212), (8, .tmp 215), (9, .tmp 222), (10, .tmp 228), (11, .tmp 233), (12, .tmp 238), (13, .tmp 242), (14, .tmp 246), (15, .tmp 250), (16, .tmp 254), (17, .tmp 258), (18, .tmp 263), (19, .tmp 268), (20, .tmp 273), (21, .tmp 277), (22, .tmp 282), (23, .tmp 286), (24, .tmp 289)]) holdL [(c186, d186), (c189, d189), (c193, d193), (c197, d197), (c201, d201), (c205, d205), (c209, d209), (c212, d212), (c215, d215), (c222, d222), (c228, d228), (c233, d233), (c238, d238), (c242, d242), (c246, d246), (c250, d250), (c254, d254), (c258, d258), (c263, d263), (c268, d268), (c273, d273), (c277, d277), (c282, d282), (c286, d286), (c289, d289)] rfl rfl (by decide) (by decide) (by simp only [List.map_toArray, List.map_cons, List.map_nil, e186, e189, e193, e197, e201, e205, e209, e212, e215, e222, e228, e233, e238, e242, e246, e250, e254, e258, e263, e268, e273, e277, e282, e286, e289]; rfl) (by simp only [holdL, List.zip_cons_cons, List.zip_nil_right, List.forall_mem_cons]; exact ⟨⟨k186, m186⟩, ⟨k189, m189⟩, ⟨k193, m193⟩, ⟨k197, m197⟩, ⟨k201, m201⟩, ⟨k205, m205⟩, ⟨k209, m209⟩, ⟨k212, m212⟩, ⟨k215, m215⟩, ⟨k222, m222⟩, ⟨k228, m228⟩, ⟨k233, m233⟩, ⟨k238, m238⟩, ⟨k242, m242⟩, ⟨k246, m246⟩, ⟨k250, m250⟩, ⟨k254, m254⟩, ⟨k258, m258⟩, ⟨k263, m263⟩, ⟨k268, m268⟩, ⟨k273, m273⟩, ⟨k277, m277⟩, ⟨k282, m282⟩, ⟨k286, m286⟩, ⟨k289, m289⟩, fun _ h => by cases h⟩)
                  exact sn_new (v := .slice (some ⟨W.heap.size, 0, none⟩) 25 25) rfl (by decide) (hrun _ rfl) hb hok
                · intro r W hc hf hs hd hB
                  have hBV := HBV.out W hB
                  refine want_n rfl ?_
                  obtain ⟨B, eB, -⟩ : T2Ok holdL (r (.tmp 290)) W := hd 290 (by kernel_rfl)
                  rw [holdL_length] at eB
                  exact sn_value (v := .int .i64 25) rfl (by decide) (by go_simp) rfl
                · intro r W hc hf hs hd hB
                  have hBV := HBV.out W hB
                  refine want_n rfl ?_
                  exact sn_value (v := .int .i64 0) rfl (by decide) (by go_simp) rfl
              intro f w14 hfd hB'
              have z291 : f 291 = .int .i64 25 := hfd 291 (of_decide_eq_true (by kernel_rfl))
              have z292 : f 292 = .int .i64 0 := hfd 292 (of_decide_eq_true (by kernel_rfl))
              obtain ⟨BT, zt, htab⟩ : T2Ok holdL (f 290) w14 := hfd 290 (of_decide_eq_true (by kernel_rfl))
              have z290 : f 290 = .slice (some ⟨BT, 0, none⟩) 25 25 := zt
              have hbR := HBV.out w14 hB'
              rw [show dstsTo _ _ = [184, 185, 186, 187, 188, 189, 190, 191, 192, 193, 194, 195, 196, 197, 198, 199, 200, 201, 202, 203, 204, 205, 206, 207, 208, 209, 210, 211, 212, 213, 214, 215, 216, 217, 218, 219, 220, 221, 222, 223, 224, 225, 226, 227, 228, 229, 230, 231, 232, 233, 234, 235, 236, 237, 238, 239, 240, 241, 242, 243, 244, 245, 246, 247, 248, 249, 250, 251, 252, 253, 254, 255, 256, 257, 258, 259, 260, 261, 262, 263, 264, 265, 266, 267, 268, 269, 270, 271, 272, 273, 274, 275, 276, 277, 278, 279, 280, 281, 282, 283, 284, 285, 286, 287, 288, 289, 290, 291, 292] from by kernel_rfl]
              simp only [fill, List.setIfInBounds_toArray, List.set_cons_succ, List.set_cons_zero, z291, z292, z290]
              clear hfd hB' HBV z291 z292 z290
              clear zt
              have HTAB := Lib.hid htab
              replace HV1 := Lib.hid (BoxV.below HV1.out hbR); replace HV14 := Lib.hid (BoxV.below HV14.out hbR); replace HP3 := Lib.hid (BoxP.below HP3.out hbR); replace HP7 := Lib.hid (BoxP.below HP7.out hbR)
              replace hB8 := hB8.trans (hbR.mono hB8.size)
              clear htab hbR HV15
              go_wp2_with fail
              go_loopw [292] (fun x wr => ∃ i : Nat, x = .int .i64 i ∧ i ≤ 25 ∧ Below w14.heap.size w14 wr) (fun x _ => 25 - (intOf x).toNat)
              case atStart => exact ⟨0, rfl, by omega, Below.refl _ _⟩
              case round =>
                obtain ⟨i, rfl, hi, hbr⟩ := hrel
                by_cases hlt : i < 25
                · as_aux_lemma =>
                  have d1 : decide ((i : Int) < 25) = true := decide_eq_true (by omega)
                  have d2 : decide (i < 25) = true := decide_eq_true hlt
                  have hlt' : i < holdL.length := by rw [holdL_length]; exact hlt
                  obtain ⟨c, d, hrg, hok, hok2⟩ := HTAB.out i hlt'
                  obtain ⟨hhold, hcnt, hfat⟩ := holdL_get i hlt'
                  obtain ⟨t, ht⟩ : ∃ t, t = holdL[i].1 := ⟨_, rfl⟩
                  obtain ⟨X, hX⟩ : ∃ z, z = holdL[i].2.1 := ⟨_, rfl⟩
                  obtain ⟨bl, hbl⟩ : ∃ z, z = holdL[i].2.2 := ⟨_, rfl⟩
                  rw [← hbl] at hrg hhold
                  rw [← ht] at hok hcnt hfat hhold
                  rw [← hX] at hok2 hhold
                  have HRG : Hid (wr.rangeAt BT (i * 10) (R2cells c d bl).toList) := Lib.hid (range_stay hbr hrg)
                  have HOK := Lib.hid (And.intro (hok.below hbr) (hok2.below hbr)); have HHO := Lib.hid hhold; have HLC := Lib.hid (And.intro hcnt hfat)
                  clear hrg hok hok2 hhold hcnt hfat ht hX hbl hlt'
                  go_wp2_with (first | refine wpList_loadM (cells := R2cells c d bl) (by rfl) (by rfl) (by rfl) HRG.out Try.underlying39 rfl (by rw [show (R2cells c d bl).size = 10 from rfl]; kernel_rfl) ?_ | refine wpList_boxM (k := 10) (cells := R2cells c d bl) (by rfl) (by rfl) (by rfl) (by rfl) (by rfl) (by rfl) (by rfl) (by rfl) (by kernel_rfl) (by kernel_rfl) rfl (by kernel_rfl) ?_)
                  intro wE hrE hbE _ _
                  have G : Hid (∀ j v, (R2cells c d bl).toList[j]? = some v → wE.cell? ⟨wr.heap.size, j, none⟩ = some v) := Lib.hid fun j v hj => by have := hrE j v hj; rwa [Nat.zero_add] at this
                  have HIN : Hid (PIn wE t (.agg c.cells) ∧ VIn wE X (.agg d.cells)) := Lib.hid ⟨HOK.out.1.below hbE, HOK.out.2.below hbE⟩
                  have hb7 := hbr.trans (hbE.mono hbr.size)
                  clear hrE hbE HRG HOK hbr
                  go_wp2_with fail
                  have HBV := Lib.hid (fun W (h : Below wE.drew.heap.size wE.drew W) => (Below.refl _ wE).drew.trans h)
                  try simp only [List.append_eq, List.cons_append, List.nil_append]
                  refine wp_region_allW (kindN [(296, .q (.fixed (.pointer (some ⟨wr.heap.size, 0, none⟩)))), (297, .q (.fixed (.agg #[.int .u8 c.k, .int .u8 c.vk, .int .i64 c.vn, .slice c.va c.vl c.vc, .int .i64 c.n, .slice c.a c.len c.cap]))), (298, .q (.fixed (.pointer (some ⟨wr.heap.size, 6, none⟩)))), (299, .q (.fixed (.agg #[.int .u8 d.k, .int .i64 d.n, .slice d.a d.len d.cap]))), (300, .q (.fixed (.bool bl))), (301, .q (.fixed (.pointer (some ⟨wr.heap.size, 9, none⟩)))), (302, .q (.fixed (.bool bl))), (303, .q (.fixed (.bool false)))]) 334 (by kernel_rfl) (by kernel_rfl) (by rfl) (kindN_mono _) ?_ ?_
                  · as_aux_lemma =>
                    show ∀ o ∈ [(0, _), (1, _), (2, _), (3, _), (4, _), (5, _), (6, _), (7, _)], _
                    refine (fm ?_ (fm ?_ (fm ?_ (fm ?_ (fm ?_ (fm ?_ (fm ?_ (fm ?_ fmnil))))))))
                    · intro r W hc hf hs hd hB
                      have hBV := HBV.out W hB
                      refine want_n rfl ?_
                      have e17 : r (.tmp 17) = .pointer (some ⟨wr.heap.size, 0, none⟩) := hs 17 (by kernel_rfl)
                      exact sn_value (v := .pointer (some ⟨wr.heap.size, 0, none⟩)) rfl (by decide) (by go_simp) rfl
                    · intro r W hc hf hs hd hB
                      have hBV := HBV.out W hB
                      refine want_n rfl ?_
                      have e296 : r (.tmp 296) = .pointer (some ⟨wr.heap.size, 0, none⟩) := hd 296 (by kernel_rfl)
                      have g0 := cell_stays hBV (G.out 0 _ rfl)
                      have g1 := cell_stays hBV (G.out 1 _ rfl)
                      have g2 := cell_stays hBV (G.out 2 _ rfl)
                      have g3 := cell_stays hBV (G.out 3 _ rfl)
                      have g4 := cell_stays hBV (G.out 4 _ rfl)
                      have g5 := cell_stays hBV (G.out 5 _ rfl)
                      exact sn_value (v := .agg #[.int .u8 c.k, .int .u8 c.vk, .int .i64 c.vn, .slice c.va c.vl c.vc, .int .i64 c.n, .slice c.a c.len c.cap]) rfl (by decide) (by go_simp) rfl
                    · intro r W hc hf hs hd hB
                      have hBV := HBV.out W hB
                      refine want_n rfl ?_
                      have e17 : r (.tmp 17) = .pointer (some ⟨wr.heap.size, 0, none⟩) := hs 17 (by kernel_rfl)
                      exact sn_value (v := .pointer (some ⟨wr.heap.size, 6, none⟩)) rfl (by decide) (by go_simp) rfl
                    · intro r W hc hf hs hd hB
                      have hBV := HBV.out W hB
                      refine want_n rfl ?_
                      have e298 : r (.tmp 298) = .pointer (some ⟨wr.heap.size, 6, none⟩) := hd 298 (by kernel_rfl)
                      have g6 := cell_stays hBV (G.out 6 _ rfl)
                      have g7 := cell_stays hBV (G.out 7 _ rfl)
                      have g8 := cell_stays hBV (G.out 8 _ rfl)
                      exact sn_value (v := .agg #[.int .u8 d.k, .int .i64 d.n, .slice d.a d.len d.cap]) rfl (by decide) (by go_simp) rfl
                    · intro r W hc hf hs hd hB
                      have hBV := HBV.out W hB
                      refine want_n rfl ?_
                      have e297 : r (.tmp 297) = .agg #[.int .u8 c.k, .int .u8 c.vk, .int .i64 c.vn, .slice c.va c.vl c.vc, .int .i64 c.n, .slice c.a c.len c.cap] := hd 297 (by kernel_rfl)
                      have e299 : r (.tmp 299) = .agg #[.int .u8 d.k, .int .i64 d.n, .slice d.a d.len d.cap] := hd 299 (by kernel_rfl)
                      exact sn_call (f := 23) (args := #[r (.tmp 297), r (.tmp 299)]) rfl (by decide) (by go_simp) (made_bool HHO.out (by rw [e297, e299]; exact pholds_any t X _ _ W HLC.out.1 HLC.out.2 (HIN.out.1.below hBV) (HIN.out.2.below hBV)))
                    · intro r W hc hf hs hd hB
                      have hBV := HBV.out W hB
                      refine want_n rfl ?_
                      have e17 : r (.tmp 17) = .pointer (some ⟨wr.heap.size, 0, none⟩) := hs 17 (by kernel_rfl)
                      exact sn_value (v := .pointer (some ⟨wr.heap.size, 9, none⟩)) rfl (by decide) (by go_simp) rfl
                    · intro r W hc hf hs hd hB
                      have hBV := HBV.out W hB
                      refine want_n rfl ?_
                      have e301 : r (.tmp 301) = .pointer (some ⟨wr.heap.size, 9, none⟩) := hd 301 (by kernel_rfl)
                      have g9 := cell_stays hBV (G.out 9 _ rfl)
                      exact sn_value (v := .bool bl) rfl (by decide) (by go_simp) rfl
                    · intro r W hc hf hs hd hB
                      have hBV := HBV.out W hB
                      refine want_n rfl ?_
                      have e300 : r (.tmp 300) = .bool bl := hd 300 (by kernel_rfl)
                      have e302 : r (.tmp 302) = .bool bl := hd 302 (by kernel_rfl)
                      exact sn_value (v := .bool false) rfl (by decide) (by go_simp) rfl
                  intro f w16 hfd hB'
                  have z303 : f 303 = .bool false := hfd 303 (of_decide_eq_true (by kernel_rfl))
                  have hbR := HBV.out w16 hB'
                  rw [show dstsTo _ _ = [296, 297, 298, 299, 300, 301, 302, 303] from by kernel_rfl]
                  simp only [fill, List.setIfInBounds_toArray, List.set_cons_succ, List.set_cons_zero, z303]
                  clear hfd hB' HBV z303
                  replace hb7 := hb7.trans (hbR.mono hb7.size)
                  clear hbR
                  go_wp2_with fail
                  go_roundw
                  case rel => exact ⟨i + 1, by go_num, by omega, hb7⟩
                  case measure => simp [intOf]; omega
                · as_aux_lemma =>
                  have hie : i = 25 := by omega
                  subst hie
                  have d1 : decide ((25 : Int) < 25) = false := by decide
                  have d2 : decide (25 < 25) = false := by decide
                  replace HV1 := Lib.hid (BoxV.below HV1.out hbr); replace HV14 := Lib.hid (BoxV.below HV14.out hbr); replace HP3 := Lib.hid (BoxP.below HP3.out hbr); replace HP7 := Lib.hid (BoxP.below HP7.out hbr)
                  replace hB8 := hB8.trans (hbr.mono hB8.size)
                  clear hbr HTAB hi hlt
                  go_upto_region 33 with fail
                  clear d1 d2
                  have HBV := Lib.hid (fun W (h : Below wr.heap.size wr W) => h)
                  try simp only [List.append_eq, List.cons_append, List.nil_append]
                  refine wp_region_allS (kindN [(305, .q (.pred FU)), (306, .q (.fixed (.int .i64 512))), (307, .q (.fixed (.bool true))), (308, .q (.fixed (.bool true))), (309, .q (.pred DP)), (310, .q (.fixed (.int .i64 12))), (311, .q (.fixed (.bool true))), (312, .q (.fixed (.bool true))), (313, .q (.fixed (.bool true))), (314, .q (.val tupleV)), (315, .q (.pred (eqP tupleV))), (316, .q (.fixed (.int .i64 4))), (317, .q (.fixed (.bool true))), (318, .q (.fixed (.bool true))), (319, .q (.fixed (.bool true))), (320, .q (.pred (.mk 0 vNone 0 []))), (321, .q (.fixed (.bool true))), (322, .q (.fixed (.bool true))), (323, .q (.fixed (.bool true))), (324, .q (.pred (.mk 0 vNone 1 []))), (325, .q (.fixed (.bool false))), (326, .q (.fixed (.bool true))), (327, .q (.fixed (.bool true))), (328, .q (.fixed (.bool true))), (329, .q (.val num5)), (330, .q (.pred (.mk 0 num5 0 []))), (331, .q (.fixed (.bool false))), (332, .q (.fixed (.bool true))), (333, .q (.fixed (.bool true))), (0, .q (.fixed (.bool true)))]) 334 (by kernel_rfl) (by rfl) (kindN_mono _) ?_ ?_
                  · as_aux_lemma =>
                    show ∀ o ∈ [(0, _), (1, _), (2, _), (3, _), (4, _), (5, _), (6, _), (7, _), (8, _), (9, _), (10, _), (11, _), (12, _), (13, _), (14, _), (15, _), (16, _), (17, _), (18, _), (19, _), (20, _), (21, _), (22, _), (23, _), (24, _), (25, _), (26, _), (27, _), (28, _), (29, _)], _
                    refine (fm ?_ (fm ?_ (fm ?_ (fm ?_ (fm ?_ (fm ?_ (fm ?_ (fm ?_ (fm ?_ (fm ?_ (fm ?_ (fm ?_ (fm ?_ (fm ?_ (fm ?_ (fm ?_ (fm ?_ (fm ?_ (fm ?_ (fm ?_ (fm ?_ (fm ?_ (fm ?_ (fm ?_ (fm ?_ (fm ?_ (fm ?_ (fm ?_ (fm ?_ (fm ?_ fmnil))))))))))))))))))))))))))))))
                    · intro r W hc hf hs hd hB
                      have hBV := HBV.out W hB
                      refine want_n rfl ?_
                      have e7 : r (.tmp 7) = .pointer (some ⟨b7, 0, none⟩) := hs 7 (by kernel_rfl)
                      obtain ⟨c, ⟨g0, g1, g2, g3, g4, g5⟩, hin⟩ := BoxP.pc (BoxP.below HP7.out hBV)
                      exact sn_value (v := .agg c.cells) rfl (by decide) (by unfold PC.cells; go_simp) hin
                    · intro r W hc hf hs hd hB
                      have hBV := HBV.out W hB
                      refine want_n rfl ?_
                      have h305 : PIn W FU (r (.tmp 305)) := hd 305 (by kernel_rfl)
                      exact sn_call (f := 24) (args := #[r (.tmp 305)]) rfl (by decide) (by go_simp) (made_int HEG.out.n (nodes_any 1000000 (by omega) _ _ W HEG.out.sf.1 HEG.out.sf.2 h305))
                    · intro r W hc hf hs hd hB
                      have hBV := HBV.out W hB
                      refine want_n rfl ?_
                      have e306 : r (.tmp 306) = .int .i64 512 := hd 306 (by kernel_rfl)
                      exact sn_value (v := .bool true) rfl (by decide) (by go_simp) rfl
                    · intro r W hc hf hs hd hB
                      have hBV := HBV.out W hB
                      refine want_n rfl ?_
                      have e307 : r (.tmp 307) = .bool true := hd 307 (by kernel_rfl)
                      exact sn_value (v := .bool true) rfl (by decide) (by go_simp) rfl
                    · intro r W hc hf hs hd hB
                      have hBV := HBV.out W hB
                      refine want_g 3 308 rfl (by kernel_rfl) (hd 308 (by kernel_rfl) : r (.tmp 308) = .bool true) ?_
                      have e3 : r (.tmp 3) = .pointer (some ⟨b3, 0, none⟩) := hs 3 (by kernel_rfl)
                      obtain ⟨c, ⟨g0, g1, g2, g3, g4, g5⟩, hin⟩ := BoxP.pc (BoxP.below HP3.out hBV)
                      exact sn_value (v := .agg c.cells) rfl (by decide) (by unfold PC.cells; go_simp) hin
                    · intro r W hc hf hs hd hB
                      have hBV := HBV.out W hB
                      refine want_g 3 308 rfl (by kernel_rfl) (hd 308 (by kernel_rfl) : r (.tmp 308) = .bool true) ?_
                      have h309 : PIn W DP (r (.tmp 309)) := hd 309 (by kernel_rfl)
                      exact sn_call (f := 25) (args := #[r (.tmp 309)]) rfl (by decide) (by go_simp) (made_int HEG.out.d12 (deep_any 1000000 (by omega) _ _ W HEG.out.sd.1 h309))
                    · intro r W hc hf hs hd hB
                      have hBV := HBV.out W hB
                      refine want_g 3 308 rfl (by kernel_rfl) (hd 308 (by kernel_rfl) : r (.tmp 308) = .bool true) ?_
                      have e310 : r (.tmp 310) = .int .i64 12 := hd 310 (by kernel_rfl)
                      exact sn_value (v := .bool true) rfl (by decide) (by go_simp) rfl
                    · intro r W hc hf hs hd hB
                      have hBV := HBV.out W hB
                      refine want_n rfl ?_
                      have e308 : r (.tmp 308) = .bool true := hd 308 (by kernel_rfl)
                      have e311 : r (.tmp 311) = .bool true := hd 311 (by kernel_rfl)
                      exact sn_value (v := .bool true) rfl (by decide) (by go_simp) rfl
                    · intro r W hc hf hs hd hB
                      have hBV := HBV.out W hB
                      refine want_n rfl ?_
                      have e312 : r (.tmp 312) = .bool true := hd 312 (by kernel_rfl)
                      exact sn_value (v := .bool true) rfl (by decide) (by go_simp) rfl
                    · intro r W hc hf hs hd hB
                      have hBV := HBV.out W hB
                      refine want_g 8 313 rfl (by kernel_rfl) (hd 313 (by kernel_rfl) : r (.tmp 313) = .bool true) ?_
                      have e14 : r (.tmp 14) = .pointer (some ⟨b14, 0, none⟩) := hs 14 (by kernel_rfl)
                      obtain ⟨c, ⟨g0, g1, g2⟩, hin⟩ := BoxV.vc (BoxV.below HV14.out hBV)
                      exact sn_value (v := .agg c.cells) rfl (by decide) (by unfold VC.cells; go_simp) hin
                    · intro r W hc hf hs hd hB
                      have hBV := HBV.out W hB
                      refine want_g 8 313 rfl (by kernel_rfl) (hd 313 (by kernel_rfl) : r (.tmp 313) = .bool true) ?_
                      have h314 : VIn W tupleV (r (.tmp 314)) := hd 314 (by kernel_rfl)
                      exact sn_call (f := 15) (args := #[r (.tmp 314)]) rfl (by decide) (by go_simp) (made_pred (peq_any _ _ W h314))
                    · intro r W hc hf hs hd hB
                      have hBV := HBV.out W hB
                      refine want_g 8 313 rfl (by kernel_rfl) (hd 313 (by kernel_rfl) : r (.tmp 313) = .bool true) ?_
                      have h315 : PIn W (eqP tupleV) (r (.tmp 315)) := hd 315 (by kernel_rfl)
                      exact sn_call (f := 24) (args := #[r (.tmp 315)]) rfl (by decide) (by go_simp) (made_int HEG.out.e4 (nodes_any 1000000 (by omega) _ _ W HEG.out.se.1 HEG.out.se.2 h315))
                    · intro r W hc hf hs hd hB
                      have hBV := HBV.out W hB
                      refine want_g 8 313 rfl (by kernel_rfl) (hd 313 (by kernel_rfl) : r (.tmp 313) = .bool true) ?_
                      have e316 : r (.tmp 316) = .int .i64 4 := hd 316 (by kernel_rfl)
                      exact sn_value (v := .bool true) rfl (by decide) (by go_simp) rfl
                    · intro r W hc hf hs hd hB
                      have hBV := HBV.out W hB
                      refine want_n rfl ?_
                      have e313 : r (.tmp 313) = .bool true := hd 313 (by kernel_rfl)
                      have e317 : r (.tmp 317) = .bool true := hd 317 (by kernel_rfl)
                      exact sn_value (v := .bool true) rfl (by decide) (by go_simp) rfl
                    · intro r W hc hf hs hd hB
                      have hBV := HBV.out W hB
                      refine want_n rfl ?_
                      have e318 : r (.tmp 318) = .bool true := hd 318 (by kernel_rfl)
                      exact sn_value (v := .bool true) rfl (by decide) (by go_simp) rfl
                    · intro r W hc hf hs hd hB
                      have hBV := HBV.out W hB
                      refine want_g 14 319 rfl (by kernel_rfl) (hd 319 (by kernel_rfl) : r (.tmp 319) = .bool true) ?_
                      exact sn_value (v := .agg #[.int .u8 0, .int .u8 0, .int .i64 0, .slice none 0 0, .int .i64 0, .slice none 0 0]) rfl (by decide) (by go_simp) (PIn.shut (by simp) (VIn.leaf 0 0) prow_nil)
                    · intro r W hc hf hs hd hB
                      have hBV := HBV.out W hB
                      refine want_g 14 319 rfl (by kernel_rfl) (hd 319 (by kernel_rfl) : r (.tmp 319) = .bool true) ?_
                      have h320 : PIn W (.mk 0 vNone 0 []) (r (.tmp 320)) := hd 320 (by kernel_rfl)
                      exact sn_call (f := 26) (args := #[r (.tmp 320)]) rfl (by decide) (by go_simp) (made_bool none1 (nothing_any _ _ W h320))
                    · intro r W hc hf hs hd hB
                      have hBV := HBV.out W hB
                      refine want_n rfl ?_
                      have e319 : r (.tmp 319) = .bool true := hd 319 (by kernel_rfl)
                      have e321 : r (.tmp 321) = .bool true := hd 321 (by kernel_rfl)
                      exact sn_value (v := .bool true) rfl (by decide) (by go_simp) rfl
                    · intro r W hc hf hs hd hB
                      have hBV := HBV.out W hB
                      refine want_n rfl ?_
                      have e322 : r (.tmp 322) = .bool true := hd 322 (by kernel_rfl)
                      exact sn_value (v := .bool true) rfl (by decide) (by go_simp) rfl
                    · intro r W hc hf hs hd hB
                      have hBV := HBV.out W hB
                      refine want_g 18 323 rfl (by kernel_rfl) (hd 323 (by kernel_rfl) : r (.tmp 323) = .bool true) ?_
                      exact sn_value (v := .agg #[.int .u8 0, .int .u8 0, .int .i64 0, .slice none 0 0, .int .i64 1, .slice none 0 0]) rfl (by decide) (by go_simp) (PIn.shut (by simp) (VIn.leaf 0 0) prow_nil)
                    · intro r W hc hf hs hd hB
                      have hBV := HBV.out W hB
                      refine want_g 18 323 rfl (by kernel_rfl) (hd 323 (by kernel_rfl) : r (.tmp 323) = .bool true) ?_
                      have h324 : PIn W (.mk 0 vNone 1 []) (r (.tmp 324)) := hd 324 (by kernel_rfl)
                      exact sn_call (f := 26) (args := #[r (.tmp 324)]) rfl (by decide) (by go_simp) (made_bool none2 (nothing_any _ _ W h324))
                    · intro r W hc hf hs hd hB
                      have hBV := HBV.out W hB
                      refine want_g 18 323 rfl (by kernel_rfl) (hd 323 (by kernel_rfl) : r (.tmp 323) = .bool true) ?_
                      have e325 : r (.tmp 325) = .bool false := hd 325 (by kernel_rfl)
                      exact sn_value (v := .bool true) rfl (by decide) (by go_simp) rfl
                    · intro r W hc hf hs hd hB
                      have hBV := HBV.out W hB
                      refine want_n rfl ?_
                      have e323 : r (.tmp 323) = .bool true := hd 323 (by kernel_rfl)
                      have e326 : r (.tmp 326) = .bool true := hd 326 (by kernel_rfl)
                      exact sn_value (v := .bool true) rfl (by decide) (by go_simp) rfl
                    · intro r W hc hf hs hd hB
                      have hBV := HBV.out W hB
                      refine want_n rfl ?_
                      have e327 : r (.tmp 327) = .bool true := hd 327 (by kernel_rfl)
                      exact sn_value (v := .bool true) rfl (by decide) (by go_simp) rfl
                    · intro r W hc hf hs hd hB
                      have hBV := HBV.out W hB
                      refine want_g 23 328 rfl (by kernel_rfl) (hd 328 (by kernel_rfl) : r (.tmp 328) = .bool true) ?_
                      have e1 : r (.tmp 1) = .pointer (some ⟨b1, 0, none⟩) := hs 1 (by kernel_rfl)
                      obtain ⟨c, ⟨g0, g1, g2⟩, hin⟩ := BoxV.vc (BoxV.below HV1.out hBV)
                      exact sn_value (v := .agg c.cells) rfl (by decide) (by unfold VC.cells; go_simp) hin
                    · intro r W hc hf hs hd hB
                      have hBV := HBV.out W hB
                      refine want_g 23 328 rfl (by kernel_rfl) (hd 328 (by kernel_rfl) : r (.tmp 328) = .bool true) ?_
                      have h329 : VIn W num5 (r (.tmp 329)) := hd 329 (by kernel_rfl)
                      obtain ⟨c329, e329⟩ := VIn.vc h329
                      have E329 : r (.tmp 329) = .agg #[.int .u8 c329.k, .int .i64 c329.n, .slice c329.a c329.len c329.cap] := e329
                      rw [e329] at h329
                      clear e329
                      exact sn_value (v := .agg #[.int .u8 0, .int .u8 c329.k, .int .i64 c329.n, .slice c329.a c329.len c329.cap, .int .i64 0, .slice none 0 0]) rfl (by decide) (by go_simp) (PIn.shut (by simp) h329 prow_nil)
                    · intro r W hc hf hs hd hB
                      have hBV := HBV.out W hB
                      refine want_g 23 328 rfl (by kernel_rfl) (hd 328 (by kernel_rfl) : r (.tmp 328) = .bool true) ?_
                      have h330 : PIn W (.mk 0 num5 0 []) (r (.tmp 330)) := hd 330 (by kernel_rfl)
                      exact sn_call (f := 26) (args := #[r (.tmp 330)]) rfl (by decide) (by go_simp) (made_bool none3 (nothing_any _ _ W h330))
                    · intro r W hc hf hs hd hB
                      have hBV := HBV.out W hB
                      refine want_g 23 328 rfl (by kernel_rfl) (hd 328 (by kernel_rfl) : r (.tmp 328) = .bool true) ?_
                      have e331 : r (.tmp 331) = .bool false := hd 331 (by kernel_rfl)
                      exact sn_value (v := .bool true) rfl (by decide) (by go_simp) rfl
                    · intro r W hc hf hs hd hB
                      have hBV := HBV.out W hB
                      refine want_n rfl ?_
                      have e328 : r (.tmp 328) = .bool true := hd 328 (by kernel_rfl)
                      have e332 : r (.tmp 332) = .bool true := hd 332 (by kernel_rfl)
                      exact sn_value (v := .bool true) rfl (by decide) (by go_simp) rfl
                    · intro r W hc hf hs hd hB
                      have hBV := HBV.out W hB
                      refine want_n rfl ?_
                      have e333 : r (.tmp 333) = .bool true := hd 333 (by kernel_rfl)
                      exact sn_value (v := .bool true) rfl (by decide) (by go_simp) rfl
                  intro f w20 hfd hB'
                  have z0 : f 0 = .bool true := hfd 0 (of_decide_eq_true (by kernel_rfl))
                  have hbR := HBV.out w20 hB'
                  refine fill_end (of_decide_eq_true (by kernel_rfl)) (of_decide_eq_true (by kernel_rfl)) ?_
                  intro tm htm
                  rw [z0] at htm
                  clear hfd hB' HBV z0
                  replace hB8 := hB8.trans (hbR.mono hB8.size)
                  clear hbR
                  go_wp2_with fail
                  refine bodyPost_ret (results_tmp rfl _ _ _) rfl ⟨?_, hB8⟩
                  show Ending.returned (tm.getD 0 undef) = _
                  rw [Array.getD_eq_getD_getElem?, htm]
                  rfl
end Go.Proofs.Yteebbffecaeciaa
/- PredNames: the law returns true for all that can be read, and what was handed in reads afterwards as it read before. -/
namespace Go.Proofs.Yteebbffecaeciaa
open Go.ChangeShapes Go.WideShapes Go.ChangeAt Go.RowKit

set_option maxRecDepth 100000 in
theorem predNames_lifted (os : Os) (started : os.Started) (H : Type) (enc : TypeId × Value → H) :
    ReturnsInHanded {} Try.checked os 3 .any (Rows.predNamesSpec.pre6 enc Try.prog Try.f3 Rows.predNamesRow.domain false) (Rows.predNamesSpec.post enc Try.prog Try.f3 false true false false) := by
  refine returnsInHanded_of_change_sized (C := Try.checked) Try.own started (by kernel_rfl) Try.func3
    (ChangeSpec.witness6 (enc := enc) (C := Try.checked) false ⟨#[], #[], []⟩ 8 (by kernel_rfl) (by kernel_rfl) (by kernel_rfl) (by kernel_rfl)) ?_
  intro W base args ds gs before hval0 hW hcnd hsz hass
  have hval : ∀ (j : Nat) t v, Try.f3.params[j]? = some t → args[j]? = some v → Value.okWide Try.prog W .any base t v := hval0
  have hW' := hW
  obtain ⟨p, q, hA0, hV, rfl, hfz, hnd⟩ := hW
  have hA : DataW.TrodAll enc Try.prog W 0 (fun _ => true) true Try.f3.params.toList args.toList ds p := hA0
  rw [Try.params3] at hA hval
  obtain ⟨rfl, rfl, rfl⟩ := trodAll_none hA
  obtain ⟨rfl, rfl⟩ := trodVars_none hV
  refine (predNames_any  W ).mono fun e W' ⟨he, hbw⟩ => ?_
  subst he
  exact ⟨_, rfl, law_post rfl rfl (by rw [Try.params3]; intro t ht; simp at ht; skip) hW' ⟨rfl, rfl, rfl⟩ hbw⟩

theorem predNames_holds : Rows.PredNamesSaid :=
  OpenClaim.holds_of_wide 3 Try.f3 rfl rfl rfl rfl rfl rfl rfl ⟨rfl, rfl, rfl, rfl, rfl⟩ rfl rfl rfl rfl rfl (by kernel_rfl) Try.func3 (by kernel_rfl)
    (of_decide_eq_true (by kernel_rfl)) (by unfold Func.isWrapper; first | (rw [if_pos (by decide +kernel)]; kernel_rfl) | (rw [if_neg (by decide +kernel)]; exact ⟨rfl, rfl⟩))
    (fun os started H enc _ => predNames_lifted os started H enc)
end Go.Proofs.Yteebbffecaeciaa
