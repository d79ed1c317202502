/- TermNames: the law returns true for all that can be read, and what was handed in reads afterwards as it read before. -/
import Derived.Test.YteebbffecaeciaaM52
import Derived.Test.YteebbffecaeciaaM53
import Derived.Test.YteebbffecaeciaaM59
import Derived.Test.YteebbffecaeciaaM61
import Derived.Test.YteebbffecaeciaaM48
/- TermNames: the law's function, walked (under way). -/
namespace Go.Proofs.Yteebbffecaeciaa
open Go.RowKit

/-- a box whose term reads so whatever the blocks of S hold. -/
def BoxS (S : Nat → Prop) (w : World) (B : Nat) (t : TT) : Prop := ∃ A, TCells w B 0 t A ∧ TOkA S w t A
set_option maxRecDepth 100000 in
set_option maxHeartbeats 16000000 in
theorem termNames_any (w : World) : Calls Try.prog 9 #[] w fun e w' => e = .returned (.bool true) ∧ Below w.heap.size w w' := by
  have hmk : ∀ w, (Instr.makeSlice 45 (.int .i64 64) (.int .i64 64)).run Try.prog w = .ok (.slice (some ⟨w.heap.size, 0, none⟩) 64 64) (w.alloc (.cells (zeroTs 64) 47)) := make_terms 64 (by decide)
  have HMK := Lib.hid hmk; clear hmk
  go_enter Try.func9, Try.ntmps9
  go_wp2_with fail
  refine (tawake_any _).mono ?_
  rintro e w1 ⟨rfl, hb1⟩
  go_wp2_with fail
  refine (singles_any _).mono ?_
  rintro e w2 ⟨v, rfl, ⟨BT, rfl, htab⟩, hb2⟩
  have HTAB := Lib.hid htab
  have hB2 := hb1.trans (hb2.mono hb1.size)
  clear htab hb1 hb2
  have hsl : singlesL.length = 51 := by decide
  rw [hsl]
  go_wp2_with fail
  go_loopw [32] (fun x wr => ∃ i : Nat, x = .int .i64 i ∧ i ≤ 51 ∧ Below w2.heap.size w2 wr) (fun x _ => 51 - (intOf x).toNat)
  case atStart => exact ⟨0, rfl, by omega, Below.refl _ _⟩
  case round =>
    obtain ⟨i, rfl, hi, hbr⟩ := hrel
    by_cases hlt : i < 51
    · as_aux_lemma =>
      have d1 : decide ((i : Int) < 51) = true := decide_eq_true (by omega)
      have d2 : decide (i < 51) = true := decide_eq_true hlt
      obtain ⟨A, hrg, hok⟩ := HTAB.out i (by rw [hsl]; exact hlt)
      obtain ⟨hnode, hlean⟩ := singles_get (i := i) (by rw [hsl]; exact hlt)
      obtain ⟨t, ht⟩ : ∃ t, t = (singlesL[i]'(by rw [hsl]; exact hlt)).1 := ⟨_, rfl⟩
      obtain ⟨z, hz⟩ : ∃ z, z = (singlesL[i]'(by rw [hsl]; exact hlt)).2 := ⟨_, rfl⟩
      rw [← ht, ← hz] at hrg hnode
      rw [← ht] at hok hlean
      have HRG : Hid (wr.rangeAt BT (i * 16) (NB.cells ⟨t, A, z⟩).toList) := Lib.hid (range_below hbr hrg)
      have HOK := Lib.hid (hok.below hbr); have HND := Lib.hid hnode; have HLN := Lib.hid hlean
      clear hrg hok hnode hlean ht hz
      go_wp2_with (first | refine wpList_loadM (cells := NB.cells ⟨t, A, z⟩) (by rfl) (by rfl) (by rfl) HRG.out Try.underlying65 rfl (by rw [NB.size']; kernel_rfl) ?_ | refine wpList_boxM (k := 16) (cells := NB.cells ⟨t, A, z⟩) (by rfl) (by rfl) (by rfl) (by rfl) (by rfl) (by rfl) (by rfl) (by rfl) (by kernel_rfl) (by kernel_rfl) (NB.size' _) (NB.cells_one _) ?_)
      intro w3 c3 m3 _ _
      obtain ⟨hc3, he3⟩ := NB.at c3
      have HC := Lib.hid hc3; have HE : Hid (w3.cell? ⟨wr.heap.size, 15, none⟩ = some (.int .i64 z)) := Lib.hid (by simpa using he3)
      replace HOK := Lib.hid (HOK.out.below m3)
      have hb3 := hbr.trans (m3.mono hbr.size)
      clear c3 hc3 he3 m3 HRG hbr
      go_wp2_with fail
      have HBV := Lib.hid (fun W (h : Below w3.drew.heap.size w3.drew W) => (Below.refl _ w3).drew.trans h)
      try simp only [List.append_eq, List.cons_append, List.nil_append]
      refine wp_region_allW (kindT [(36, .fixed (.pointer (some ⟨wr.heap.size, 0, none⟩))), (37, .fixed (TT.val t A)), (38, .fixed (.int .i64 z)), (39, .fixed (.pointer (some ⟨wr.heap.size, 15, none⟩))), (40, .fixed (.int .i64 z)), (41, .fixed (.bool false))]) 294 (by kernel_rfl) (by kernel_rfl) (by rfl) (kindT_mono _) ?_ ?_
      · as_aux_lemma =>
        show ∀ o ∈ [(0, _), (1, _), (2, _), (3, _), (4, _), (5, _)], _
        refine (tfm ?_ (tfm ?_ (tfm ?_ (tfm ?_ (tfm ?_ (tfm ?_ tfmnil))))))
        · intro r W hc hf hs hd hB
          have hBV := HBV.out W hB
          refine want_n rfl ?_
          have e2 : r (.tmp 2) = .pointer (some ⟨wr.heap.size, 0, none⟩) := hs 2 (by kernel_rfl)
          exact st_value (v := .pointer (some ⟨wr.heap.size, 0, none⟩)) rfl (by decide) (by go_simp) rfl
        · intro r W hc hf hs hd hB
          have hBV := HBV.out W hB
          refine want_n rfl ?_
          have e36 : r (.tmp 36) = .pointer (some ⟨wr.heap.size, 0, none⟩) := hd 36 (by kernel_rfl)
          exact st_value (v := TT.val t A) rfl (by decide) (run_load15 (HC.out.below hBV) rfl e36) rfl
        · intro r W hc hf hs hd hB
          have hBV := HBV.out W hB
          refine want_n rfl ?_
          have e37 : r (.tmp 37) = TT.val t A := hd 37 (by kernel_rfl)
          exact st_call (f := 46) (args := #[TT.val t A]) rfl (by decide) (by go_simp) (made_fix (by rw [HND.out]) (tnode_any t _ W HLN.out ⟨A, rfl, HOK.out.below hBV⟩))
        · intro r W hc hf hs hd hB
          have hBV := HBV.out W hB
          refine want_n rfl ?_
          have e2 : r (.tmp 2) = .pointer (some ⟨wr.heap.size, 0, none⟩) := hs 2 (by kernel_rfl)
          exact st_value (v := .pointer (some ⟨wr.heap.size, 15, none⟩)) rfl (by decide) (by go_simp) rfl
        · intro r W hc hf hs hd hB
          have hBV := HBV.out W hB
          refine want_n rfl ?_
          have e39 : r (.tmp 39) = .pointer (some ⟨wr.heap.size, 15, none⟩) := hd 39 (by kernel_rfl)
          have g := cell_stays hBV HE.out
          exact st_value (v := .int .i64 z) rfl (by decide) (by go_simp) rfl
        · intro r W hc hf hs hd hB
          have hBV := HBV.out W hB
          refine want_n rfl ?_
          have e38 : r (.tmp 38) = .int .i64 z := hd 38 (by kernel_rfl)
          have e40 : r (.tmp 40) = .int .i64 z := hd 40 (by kernel_rfl)
          exact st_value (v := .bool false) rfl (by decide) (by go_simp) rfl
      intro f w4 hfd hB'
      have z41 : f 41 = .bool false := hfd 41 (of_decide_eq_true (by kernel_rfl))
      have hb4 := HBV.out w4 hB'
      rw [show dstsTo _ _ = [36, 37, 38, 39, 40, 41] from by kernel_rfl]
      simp only [fill, List.setIfInBounds_toArray, List.set_cons_succ, List.set_cons_zero, z41]
      clear hfd hB' z41
      have hb5 := hb3.trans (hb4.mono hb3.size)
      go_wp2_with fail
      go_roundw
      case rel => exact ⟨i + 1, by go_num, by omega, hb5⟩
      case measure => simp [intOf]; omega
    · as_aux_lemma =>
      have hie : i = 51 := by omega
      subst hie
      have d1 : decide ((51 : Int) < 51) = false := by decide
      have d2 : decide (51 < 51) = false := by decide
      have hB := hB2.trans (hbr.mono hB2.size)
      clear hbr hB2 HTAB hsl
      go_wp2_with fail
      refine (mnum 0 _).mono ?_
      rintro e w3 ⟨x1, rfl, ⟨A1, rfl, k1⟩, hb3⟩
      replace hB := hB.trans (hb3.mono hB.size)
      clear hb3
      obtain ⟨S, hS⟩ : ∃ S : Nat → Prop, S = fun q => q = w3.heap.size := ⟨_, rfl⟩
      have HK1 := Lib.hid (k1.leaf rfl rfl rfl rfl rfl S)
      clear k1
      go_wp2_with (refine wpList_box15 (t := tNum 0) (A := A1) (by rfl) (by rfl) (by rfl) (by rfl) (by rfl) (by rfl) (by rfl) (by rfl) ?_)
      intro w4 hc4 b4 s4 R4
      have hw3 : w.heap.size ≤ w3.heap.size := hB.size
      replace hB := hB.trans (b4.mono hB.size)
      have HBX : Hid (BoxS S w4 w3.heap.size (deepT 0)) := Lib.hid ⟨A1, hc4, HK1.out.below b4⟩
      clear hc4 b4 HK1 d1 d2
      go_wp2_with fail
      go_loopw [4] (fun x wr => ∃ i : Nat, x = .int .i64 ((i + 1 : Nat) : Int) ∧ i ≤ 11 ∧ BoxS S wr w3.heap.size (deepT i) ∧ RowAt wr 47 w3.heap.size 15 ∧ w3.heap.size < wr.heap.size ∧ Below w.heap.size w wr) (fun x _ => 12 - (intOf x).toNat)
      case atStart => exact ⟨0, rfl, by omega, HBX.out, R4, s4, hB⟩
      case round =>
        obtain ⟨i, rfl, hi, hbx, hrw, hlt, hBr⟩ := hrel
        clear hB R4 HBX s4
        by_cases hid : i < 11
        · as_aux_lemma =>
          have hdd : decide (((i + 1 : Nat) : Int) < 12) = true := decide_eq_true (by omega)
          have hde : decide ((i : Int) + 1 < 12) = true := decide_eq_true (by omega)
          obtain ⟨A, hc, hk⟩ := hbx
          have HC := Lib.hid hc; have HK := Lib.hid hk; have HRW := Lib.hid hrw
          have HS : Hid (∀ q, S q → q < wr.heap.size) := Lib.hid (fun q hq => by rw [hS] at hq; subst hq; exact hlt)
          have HSS := Lib.hid hS
          clear hc hk hrw hS
          go_wp2_with (first | refine wpList_load15 (by rfl) (by rfl) (by rfl) HC.out ?_ | refine wpList_row1A (S := S) (s := deepT i) HS.out (by rfl) (by rfl) (by rfl) HK.out ?_)
          intro w5 hrow hb3
          replace HRW := Lib.hid (HRW.out.below hlt hb3)
          have hlt3 : w3.heap.size < w5.heap.size := Nat.lt_of_lt_of_le hlt hb3.size
          replace hBr := hBr.trans (hb3.mono hBr.size)
          clear hb3
          go_wp2_with fail
          refine (lofA S 5 [deepT i] _ 1 w5 (by simp) hrow).mono ?_
          rintro e w6 ⟨x4, rfl, ⟨A4, rfl, k4⟩, hb4⟩
          replace HRW := Lib.hid (HRW.out.below hlt3 hb4)
          have hlt4 : w3.heap.size < w6.heap.size := Nat.lt_of_lt_of_le hlt3 hb4.size
          replace hBr := hBr.trans (hb4.mono hBr.size)
          clear hb4 hrow
          go_wp2_with (refine wpList_store15R (t := tOf 5 [deepT i]) (A := A4) (by rfl) (by rfl) (by rfl) (by rfl) (by rfl) HRW.out (by decide) ?_)
          intro wE hcE hrE hkE hsE hbE
          have hbx : BoxS S wE w3.heap.size (deepT (i + 1)) := ⟨A4, hcE, k4.step (Nat.le_of_eq hsE.symm) fun q _ hq => ⟨hq, hkE q (fun e => hq (by rw [HSS.out]; exact e))⟩⟩
          have HN := Lib.hid (And.intro hbx (And.intro hrE (And.intro (show w3.heap.size < wE.heap.size by omega) (hbE _ _ hw3 hBr))))
          clear hcE hrE hkE hsE hbE hbx k4 hBr HRW
          go_wp2_with fail
          go_roundw
          case rel => exact ⟨i + 1, by go_num, by omega, HN.out⟩
          case measure => simp [intOf]; omega
        · as_aux_lemma =>
          have hie : i = 11 := by omega
          subst hie
          have hdd : decide (((11 + 1 : Nat) : Int) < 12) = false := by decide
          have hde : decide ((12 : Int) < 12) = false := by decide
          have HDEEP : Hid (∃ A, TCells wr w3.heap.size 0 (deepT 11) A ∧ TOk wr (deepT 11) A) := Lib.hid (by obtain ⟨A, hc, hk⟩ := hbx; exact ⟨A, hc, hk.ok⟩)
          clear hbx hrw hS
          obtain ⟨b3, hb3⟩ : ∃ b3, b3 = w3.heap.size := ⟨_, rfl⟩
          rw [← hb3] at HDEEP ⊢
          clear hb3
          rw [show ((11 + 1 : Nat) : Int) = 12 from rfl]
          have hB := hBr
          have hmk := HMK.out
          obtain ⟨w7, hw7, m7, s7, R7⟩ : ∃ w7, wr.alloc (.cells (zeroTs 64) 47) = w7 ∧ Below wr.heap.size wr w7 ∧ wr.heap.size < w7.heap.size ∧ RowAt w7 47 wr.heap.size (64 * 15) := ⟨_, rfl, Below.al _, by simp, by have := RowAt.new wr (zeroTs 64) 47; rwa [zeroTs_size] at this⟩
          go_wp2_with fail
          clear hmk hw7
          obtain ⟨S2, hS2⟩ : ∃ S2 : Nat → Prop, S2 = fun q => q = wr.heap.size := ⟨_, rfl⟩
          have HSB : Hid (S2 wr.heap.size) := Lib.hid (by rw [hS2])
          have HR7 := Lib.hid R7; have HM7 := Lib.hid m7; have HSZ := Lib.hid s7; have HB := Lib.hid hB
          clear hS2 R7 m7 s7 hB hBr
          go_loopw [6] (fun x wx => ∃ i : Nat, x = .int .i64 i ∧ i ≤ 64 ∧ PutG S2 (nums0 64) wr.heap.size 64 w7 wx i) (fun x _ => 64 - (intOf x).toNat)
          case atStart => exact ⟨0, rfl, by omega, ⟨Below.refl _ _, Nat.le_refl _, fun _ _ _ => rfl, HR7.out, fun j hj => absurd hj (Nat.not_lt_zero _), fun _ _ _ h => h⟩⟩
          case round =>
          rename World => wx
          obtain ⟨i, rfl, hi, hG⟩ := hrel
          have HG := Lib.hid hG; clear hG
          have hsz := HSZ.out
          have hlw : wr.heap.size < wx.heap.size := by have := HG.out.size; omega
          by_cases hlt : i < 64
          · as_aux_lemma =>
            have d1 : decide ((i : Int) < 64) = true := decide_eq_true (by omega)
            have d2 : decide (i < 64) = true := decide_eq_true hlt
            go_wp2_with fail
            refine (mnum 0 _).mono ?_
            rintro e w8 ⟨x, rfl, ⟨X, rfl, hX⟩, hb7⟩
            have HK := Lib.hid (hX.leaf rfl rfl rfl rfl rfl S2)
            have hi' : i < (nums0 64).length := by rw [nums0_len]; exact hlt
            have hr7 := HG.out.row.below hlw hb7
            have hg7 := HG.out.step (Y := X) HSB.out hi' hlw (by rw [nums0_len]; omega) hb7 (by rw [nums0_get]; exact HK.out)
            rw [nums0_get] at hg7
            have HG7 := Lib.hid hg7
            have HTH : Hid (w8.there wr.heap.size (i * 15) 15) := Lib.hid (fun j hj => by
              obtain ⟨v, hv⟩ := hr7.cell (i * 15 + j) (by omega)
              exact ⟨by rw [hv]; rfl, hr7.frozen _⟩)
            clear hX hb7 hr7 hg7 HK hi'
            go_wp2_with (refine wpList_store15W (t := tNum 0) (A := X) (by rfl) (by rfl) (by rfl) (by rfl) (by rfl) HTH.out ?_)
            intro w9 h8
            rw [← h8.out] at HG7
            clear h8 HTH
            go_wp2_with fail
            go_roundw
            case rel => exact ⟨i + 1, by go_num, by omega, HG7.out⟩
            case measure => simp [intOf]; omega
          · as_aux_lemma =>
            have hie : i = 64 := by omega
            subst hie
            have d1 : decide ((64 : Int) < 64) = false := by decide
            have d2 : decide (64 < 64) = false := by decide
            have hBx : Below wr.heap.size wr wx := HM7.out.trans HG.out.below
            have HMANY := Lib.hid (many_row HG.out 0 64 (by omega) wx (Below.refl _ _))
            obtain ⟨L61, hl1, hl2, hl3, hl4⟩ := nums_cells (w := wx) (b := wr.heap.size) 61 (fun j hj => by
              obtain ⟨A, hc, _⟩ := HG.out.done j (by omega) (by rw [nums0_len]; omega)
              rw [nums0_get] at hc
              exact ⟨A, hc⟩)
            have HL : Hid (L61.length = 61 ∧ L61.map (·.1) = nums0 61 ∧ (∀ j u, (cellsL L61)[j]? = some u → wx.cell? ⟨wr.heap.size, j, none⟩ = some u) ∧ ∀ p ∈ L61, LeafA p.1 p.2) := Lib.hid ⟨hl1, hl2, cellsL_of hl3, hl4⟩
            have HDEEP : Hid (BoxF wx b3 (deepT 11)) := Lib.hid (BoxF.below HDEEP.out hBx)
            have hB := HB.out.trans (hBx.mono HB.out.size)
            clear hl1 hl2 hl3 hl4 HG hlw hsz HSZ HM7 HB HSB HR7 hBx hi hlt
            obtain ⟨bm, hbm⟩ : ∃ bm, bm = wr.heap.size := ⟨_, rfl⟩
            rw [← hbm] at HMANY HL
            rw [← hbm]
            clear hbm
            go_wp2_with fail
            refine (mof_row _ _ _ HMANY.out).mono ?_
            rintro e w9 ⟨x, rfl, ⟨Ar, rfl, kr⟩, hb9⟩
            go_wp2_with (refine wpList_box15 (t := rowT) (A := Ar) (by rfl) (by rfl) (by rfl) (by rfl) (by rfl) (by rfl) (by rfl) (by rfl) ?_)
            intro w10 hc10 b10 s10 R10
            have hbx : Below wx.heap.size wx w10 := hb9.trans (b10.mono hb9.size)
            have HDEEP : Hid (BoxF w10 b3 (deepT 11)) := Lib.hid (HDEEP.out.below hbx)
            have HL : Hid (L61.length = 61 ∧ L61.map (·.1) = nums0 61 ∧ (∀ j u, (cellsL L61)[j]? = some u → w10.cell? ⟨bm, j, none⟩ = some u) ∧ ∀ p ∈ L61, LeafA p.1 p.2) := Lib.hid ⟨HL.out.1, HL.out.2.1, fun j u hu => cell_stays hbx (HL.out.2.2.1 j u hu), HL.out.2.2.2⟩
            obtain ⟨b7, hb7⟩ : ∃ b, b = w9.heap.size := ⟨_, rfl⟩
            rw [← hb7] at hc10 ⊢
            have HC7 := Lib.hid hc10; have HK7 := Lib.hid (kr.below b10)
            have hB := hB.trans (hbx.mono hB.size)
            clear hbx hc10 b10 s10 R10 hb9 kr HMANY hb7 d1 d2
            go_wp2_with fail
            have HBV := Lib.hid (fun W (h : Below w10.drew.heap.size w10.drew W) => (Below.refl _ w10).drew.trans h)
            obtain ⟨LF, hLF⟩ : ∃ LF, LF = nums0 61 ++ [tSpan 0 1] := ⟨_, rfl⟩
            have hLFn : LF.length = 62 := by rw [hLF]; simp [nums0]
            try simp only [List.append_eq, List.cons_append, List.nil_append]
            refine wp_region_blocksX [8] 9 [70, 72] [70, 72, 73, 74, 75, 76] (kindTX [(64, .fixed (rowT.val Ar)), (65, .fixed (rowT.val Ar)), (66, .fixed (rowT.val Ar)), (67, .empty), (68, .fixed (.slice (some ⟨bm, 0, none⟩) 64 64)), (69, .fixed (.slice (some ⟨bm, 0, none⟩) 61 64)), (70, .grow w10.heap.size (nums0 61)), (71, .leaf (tSpan 0 1)), (72, .src [tSpan 0 1]), (73, .row LF), (74, .term (tOf 5 LF)), (75, .row [rowT, rowT, rowT, tOf 5 LF]), (76, .term (tOf 5 [rowT, rowT, rowT, tOf 5 LF])), (8, .box 47 15)]) 14 294 (by kernel_rfl) (by kernel_rfl) (by kernel_rfl) (by rfl) (by kernel_rfl) (kindTX_sub _) (kindTX_grow _) (by kernel_rfl) (by kernel_rfl) (by kernel_rfl) ?_ ?_
            · as_aux_lemma =>
              show ∀ o ∈ [(0, _), (1, _), (2, _), (3, _), (4, _), (5, _), (6, _), (7, _), (8, _), (9, _), (10, _), (11, _), (12, _), (13, _)], _
              refine (tfm ?_ (tfm ?_ (tfm ?_ (tfm ?_ (tfm ?_ (tfm ?_ (tfm ?_ (tfm ?_ (tfm ?_ (tfm ?_ (tfm ?_ (tfm ?_ (tfm ?_ (tfm ?_ tfmnil))))))))))))))
              · intro r W X hc hf hs hX hd hB
                refine ite_no (by decide) ?_
                have hBV := HBV.out W hB
                have hno : ¬ X W.heap.size := fun hx => absurd (hX _ hx).2 (Nat.lt_irrefl _)
                have e : r (.tmp 7) = .pointer (some ⟨b7, 0, none⟩) := hs 7 (of_decide_eq_true (by kernel_rfl))
                exact tb_value (v := rowT.val Ar) rfl (by decide) (run_load15 (HC7.out.below hBV) rfl e) rfl
              · intro r W X hc hf hs hX hd hB
                refine ite_no (by decide) ?_
                have hBV := HBV.out W hB
                have hno : ¬ X W.heap.size := fun hx => absurd (hX _ hx).2 (Nat.lt_irrefl _)
                have e : r (.tmp 7) = .pointer (some ⟨b7, 0, none⟩) := hs 7 (of_decide_eq_true (by kernel_rfl))
                exact tb_value (v := rowT.val Ar) rfl (by decide) (run_load15 (HC7.out.below hBV) rfl e) rfl
              · intro r W X hc hf hs hX hd hB
                refine ite_no (by decide) ?_
                have hBV := HBV.out W hB
                have hno : ¬ X W.heap.size := fun hx => absurd (hX _ hx).2 (Nat.lt_irrefl _)
                have e : r (.tmp 7) = .pointer (some ⟨b7, 0, none⟩) := hs 7 (of_decide_eq_true (by kernel_rfl))
                exact tb_value (v := rowT.val Ar) rfl (by decide) (run_load15 (HC7.out.below hBV) rfl e) rfl
              · intro r W X hc hf hs hX hd hB
                refine ite_no (by decide) ?_
                have hBV := HBV.out W hB
                have hno : ¬ X W.heap.size := fun hx => absurd (hX _ hx).2 (Nat.lt_irrefl _)
                exact tb_new (v := .slice (some ⟨W.heap.size, 0, none⟩) 0 0) (w' := W.alloc (.cells #[] 47)) rfl (by decide) (by go_simp) (Below.al _) ⟨_, rfl, hno, by simp⟩
              · intro r W X hc hf hs hX hd hB
                refine ite_no (by decide) ?_
                have hBV := HBV.out W hB
                have hno : ¬ X W.heap.size := fun hx => absurd (hX _ hx).2 (Nat.lt_irrefl _)
                have e : r (.tmp 5) = (.slice (some ⟨bm, 0, none⟩) 64 64) := hs 5 (of_decide_eq_true (by kernel_rfl))
                exact tb_value (v := (.slice (some ⟨bm, 0, none⟩) 64 64)) rfl (by decide) (by go_simp) rfl
              · intro r W X hc hf hs hX hd hB
                refine ite_no (by decide) ?_
                have hBV := HBV.out W hB
                have hno : ¬ X W.heap.size := fun hx => absurd (hX _ hx).2 (Nat.lt_irrefl _)
                have e : r (.tmp 68) = (.slice (some ⟨bm, 0, none⟩) 64 64) := hd 68 (by kernel_rfl)
                exact tb_value (v := .slice (some ⟨bm, 0, none⟩) 61 64) rfl (by decide) (by go_simp) rfl
              · intro r W X hc hf hs hX hd hB
                refine ite_no (by decide) ?_
                have hBV := HBV.out W hB
                have hno : ¬ X W.heap.size := fun hx => absurd (hX _ hx).2 (Nat.lt_irrefl _)
                obtain ⟨b0, e0, hx0, hl0⟩ : TX.ok .empty (r (.tmp 67)) W X := hd 67 (by kernel_rfl)
                have e1 : r (.tmp 69) = .slice (some ⟨bm, 0, none⟩) 61 64 := hd 69 (by kernel_rfl)
                obtain ⟨v', w', hrun, hr, hb⟩ := LRow.first (B0 := w10.heap.size) (c := 64) (M := L61) (b := bm) hx0 hl0 hBV.size (fun k hk => (hX k hk).2) (fun j u hu => cell_stays hBV (HL.out.2.2.1 j u hu)) HL.out.2.2.2 (by rw [HL.out.1]; decide) (by rw [HL.out.1]; decide)
                rw [HL.out.1] at hrun
                rw [HL.out.2.1] at hr
                exact tb_new rfl (by decide) (run_append2 rfl e0 e1 hrun) hb hr
              · intro r W X hc hf hs hX hd hB
                refine ite_no (by decide) ?_
                have hBV := HBV.out W hB
                have hno : ¬ X W.heap.size := fun hx => absurd (hX _ hx).2 (Nat.lt_irrefl _)
                exact tb_call (f := 49) (args := #[.int .i64 0, .int .i64 1]) rfl (by decide) (by go_simp) (madeLeaf rfl rfl rfl rfl rfl (mspan 0 1 W))
              · intro r W X hc hf hs hX hd hB
                refine ite_no (by decide) ?_
                have hBV := HBV.out W hB
                have hno : ¬ X W.heap.size := fun hx => absurd (hX _ hx).2 (Nat.lt_irrefl _)
                obtain ⟨A71, e71, k71⟩ : TX.ok (.leaf (tSpan 0 1)) (r (.tmp 71)) W X := hd 71 (by kernel_rfl)
                obtain ⟨w2, hrun, hb, hlt, hc2⟩ := run_rowN (w := W) (r := r) (parts := #[(0, .tmp 71)]) [(tSpan 0 1, A71)] rfl (by simp) (by simp) (by simp only [List.map_toArray, List.map_cons, List.map_nil, e71]; rfl)
                exact tb_new rfl (by decide) (hrun _ rfl) hb ⟨_, [(tSpan 0 1, A71)], rfl, rfl, cellsL_of hc2, by intro p hp; simp only [List.mem_cons, List.not_mem_nil, or_false] at hp; subst hp; exact k71⟩
              · intro r W X hc hf hs hX hd hB
                refine ite_yes rfl ?_
                have hBV := HBV.out W hB
                have hno : ¬ X W.heap.size := fun hx => absurd (hX _ hx).2 (Nat.lt_irrefl _)
                have h1 : LRow X w10.heap.size W (nums0 61) (r (.tmp 70)) := hd 70 (by kernel_rfl)
                obtain ⟨b2, L2, e2, el2, hc2, hl2⟩ : TX.ok (.src [tSpan 0 1]) (r (.tmp 72)) W X := hd 72 (by kernel_rfl)
                have hn2 : L2.length = 1 := by simpa using congrArg List.length el2
                obtain ⟨v', w', hrun, hr, hb, hx⟩ := h1.append (c := L2.length) hBV.size (fun k hk => (hX k hk).2) hc2 hl2 (by omega) (by rw [hn2]; simp [nums0])
                rw [el2, ← hLF] at hr
                exact OpDoes.value (run_append2 rfl rfl e2 hrun) ⟨fun d' e => by cases e; exact ⟨hr.rowA, by decide⟩, hb, fun d v' hdx hA hk => kindTX_wide (by kernel_rfl) hb.size hx d v' hdx hA hk⟩
              · intro r W X hc hf hs hX hd hB
                refine ite_no (by decide) ?_
                have hBV := HBV.out W hB
                have hno : ¬ X W.heap.size := fun hx => absurd (hX _ hx).2 (Nat.lt_irrefl _)
                obtain ⟨a, cap, e, hr⟩ : TX.ok (.row LF) (r (.tmp 73)) W X := hd 73 (by kernel_rfl)
                exact tb_call (f := 48) (args := #[.int .u8 5, .slice a LF.length cap]) rfl (by decide) (by go_simp) (lofA X 5 LF a cap W (by omega) hr)
              · intro r W X hc hf hs hX hd hB
                refine ite_no (by decide) ?_
                have hBV := HBV.out W hB
                have hno : ¬ X W.heap.size := fun hx => absurd (hX _ hx).2 (Nat.lt_irrefl _)
                have e64 : r (.tmp 64) = rowT.val Ar := hd 64 (by kernel_rfl)
                have e65 : r (.tmp 65) = rowT.val Ar := hd 65 (by kernel_rfl)
                have e66 : r (.tmp 66) = rowT.val Ar := hd 66 (by kernel_rfl)
                obtain ⟨A, e, k⟩ : TX.ok (.term (tOf 5 LF)) (r (.tmp 74)) W X := hd 74 (by kernel_rfl)
                obtain ⟨w2, hrun, hb, hlt, hc2⟩ := run_rowN (w := W) (r := r) (parts := #[(0, .tmp 64), (1, .tmp 65), (2, .tmp 66), (3, .tmp 74)]) [(rowT, Ar), (rowT, Ar), (rowT, Ar), (tOf 5 LF, A)] rfl (by simp) (by simp) (by simp only [List.map_toArray, List.map_cons, List.map_nil, e64, e65, e66, e]; rfl)
                have ho : TOkA X w2 rowT Ar := TOk.old HK7.out (hBV.trans (hb.mono hBV.size)) (fun k hk => (hX k hk).1)
                exact tb_new rfl (by decide) (hrun _ rfl) hb ⟨_, _, rfl, rowA_of hno hc2 (by intro p hp; simp only [List.mem_cons, List.not_mem_nil, or_false] at hp; rcases hp with rfl | rfl | rfl | rfl; exact ho; exact ho; exact ho; exact k.below hb)⟩
              · intro r W X hc hf hs hX hd hB
                refine ite_no (by decide) ?_
                have hBV := HBV.out W hB
                have hno : ¬ X W.heap.size := fun hx => absurd (hX _ hx).2 (Nat.lt_irrefl _)
                obtain ⟨a, cap, e, hr⟩ : TX.ok (.row [rowT, rowT, rowT, tOf 5 LF]) (r (.tmp 75)) W X := hd 75 (by kernel_rfl)
                exact tb_call (f := 48) (args := #[.int .u8 5, .slice a 4 cap]) rfl (by decide) (by go_simp) (lofA X 5 [rowT, rowT, rowT, tOf 5 LF] a cap W (by simp) hr)
              · intro r W X hc hf hs hX hd hB
                refine ite_no (by decide) ?_
                have hBV := HBV.out W hB
                have hno : ¬ X W.heap.size := fun hx => absurd (hX _ hx).2 (Nat.lt_irrefl _)
                exact tb_block (w' := W.alloc (.cells #[.int .u8 0, .int .u8 0, .int .i64 0, .slice none 0 0, .slice none 0 0, .int .i64 0, .int .i64 0, .slice none 0 0, .int .u8 0, .int .u8 0, .int .i64 0, .slice none 0 0, .int .i64 0, .slice none 0 0, .slice none 0 0] 47)) rfl (by go_simp) (Below.al _) (by simp) (fun X => ⟨W.heap.size, rfl, by simp, RowAt.new W _ _⟩)
            intro f w' fuel Y hfuel hfd hnew hap hB'
            obtain ⟨A9, e9, k9⟩ : TX.ok (.term (tOf 5 [rowT, rowT, rowT, tOf 5 LF])) (f 76) w' Y := hfd 76 (of_decide_eq_true (by kernel_rfl)) (by decide)
            rw [hLF, show tOf 5 [rowT, rowT, rowT, tOf 5 (nums0 61 ++ [tSpan 0 1])] = fullT from rfl] at e9 k9
            obtain ⟨b8, eb, -, R9⟩ : TX.ok (.box 47 15) (f 8) w' Y := hfd 8 (of_decide_eq_true (by kernel_rfl)) (by decide)
            obtain ⟨c9, eb', lo9, lt9, Y9⟩ := hnew 8 (by simp) (of_decide_eq_true (by kernel_rfl))
            unfold IsBlock at eb eb'
            rw [eb] at eb'
            cases eb'
            obtain ⟨fuel, rfl⟩ : ∃ k, fuel = k + 1 := ⟨fuel - 1, by have h2 : 1 ≤ fuel := hfuel; omega⟩
            rw [show dstsTo 14 _ = [64, 65, 66, 67, 68, 69, 70, 71, 72, 73, 74, 75, 76, 8] from by kernel_rfl]
            obtain ⟨u9, hu9⟩ : ∃ u, u = f 76 := ⟨_, rfl⟩
            rw [← hu9] at e9
            simp only [fill, Act.put, List.setIfInBounds_toArray, List.set_cons_succ, List.set_cons_zero, ← hu9, eb]
            obtain ⟨wF8, hwF⟩ : ∃ wF, wF = setL b8 (cellsT 0 fullT A9) w' := ⟨_, rfl⟩
            have hst : ∀ (r : Operand → Value) (o : Oper), o.op = .store 47 (.tmp 8) (.tmp 76) → r (.tmp 8) = .pointer (some ⟨b8, 0, none⟩) → r (.tmp 76) = u9 → (execOp r o).run Try.prog w' = .ok .skip wF8 := fun r o ho h1 h2 => by rw [hwF]; exact run_store15 (q := 0) R9 (by decide) ho h1 (h2.trans e9)
            refine wpAny_next (i := 14) (by kernel_rfl) (by rfl) rfl (wp_skip (w' := wF8) (hst _ _ (by rfl) (by go_simp) (by go_simp)) rfl ?_)
            refine wpAny_done (by kernel_rfl) ?_ _
            have hBw := HBV.out w' hB'
            have HBX8 : Hid (BoxF wF8 b8 fullT) := Lib.hid (by rw [hwF]; exact BoxF.stored k9 R9 (Nat.le_refl _) Y9)
            have hbw : Below w10.heap.size w10 wF8 := by rw [hwF]; exact setL_below _ (by have h := lo9; simpa using h) _ _ hBw
            replace HC7 := Lib.hid (HC7.out.below hbw); replace HK7 := Lib.hid (HK7.out.below hbw)
            replace HDEEP := Lib.hid (BoxF.below HDEEP.out hbw)
            replace HL : Hid (L61.length = 61 ∧ L61.map (·.1) = nums0 61 ∧ (∀ j u, (cellsL L61)[j]? = some u → wF8.cell? ⟨bm, j, none⟩ = some u) ∧ ∀ p ∈ L61, LeafA p.1 p.2) := Lib.hid ⟨HL.out.1, HL.out.2.1, fun j u hu => cell_stays hbw (HL.out.2.2.1 j u hu), HL.out.2.2.2⟩
            replace hB := hB.trans (hbw.mono hB.size)
            clear hst e9 k9 R9 eb lo9 lt9 Y9 hu9 hwF hBw hfuel hfd hnew hap hB' HBV hLF hLFn hbw
            go_wp2_with fail
            have HBV := Lib.hid (fun W (h : Below wF8.drew.heap.size wF8.drew W) => (Below.refl _ wF8).drew.trans h)
            obtain ⟨LF, hLF⟩ : ∃ LF, LF = nums0 61 ++ [tSpan 0 1, tSpan 0 1] := ⟨_, rfl⟩
            have hLFn : LF.length = 63 := by rw [hLF]; simp [nums0]
            try simp only [List.append_eq, List.cons_append, List.nil_append]
            refine wp_region_blocksX [9] 10 [83, 86] [83, 86, 87, 88, 89, 90] (kindTX [(77, .fixed (rowT.val Ar)), (78, .fixed (rowT.val Ar)), (79, .fixed (rowT.val Ar)), (80, .empty), (81, .fixed (.slice (some ⟨bm, 0, none⟩) 64 64)), (82, .fixed (.slice (some ⟨bm, 0, none⟩) 61 64)), (83, .grow wF8.heap.size (nums0 61)), (84, .leaf (tSpan 0 1)), (85, .leaf (tSpan 0 1)), (86, .src [tSpan 0 1, tSpan 0 1]), (87, .row LF), (88, .term (tOf 5 LF)), (89, .row [rowT, rowT, rowT, tOf 5 LF]), (90, .term (tOf 5 [rowT, rowT, rowT, tOf 5 LF])), (9, .box 47 15)]) 15 294 (by kernel_rfl) (by kernel_rfl) (by kernel_rfl) (by rfl) (by kernel_rfl) (kindTX_sub _) (kindTX_grow _) (by kernel_rfl) (by kernel_rfl) (by kernel_rfl) ?_ ?_
            · as_aux_lemma =>
              show ∀ o ∈ [(0, _), (1, _), (2, _), (3, _), (4, _), (5, _), (6, _), (7, _), (8, _), (9, _), (10, _), (11, _), (12, _), (13, _), (14, _)], _
              refine (tfm ?_ (tfm ?_ (tfm ?_ (tfm ?_ (tfm ?_ (tfm ?_ (tfm ?_ (tfm ?_ (tfm ?_ (tfm ?_ (tfm ?_ (tfm ?_ (tfm ?_ (tfm ?_ (tfm ?_ tfmnil)))))))))))))))
              · intro r W X hc hf hs hX hd hB
                refine ite_no (by decide) ?_
                have hBV := HBV.out W hB
                have hno : ¬ X W.heap.size := fun hx => absurd (hX _ hx).2 (Nat.lt_irrefl _)
                have e : r (.tmp 7) = .pointer (some ⟨b7, 0, none⟩) := hs 7 (of_decide_eq_true (by kernel_rfl))
                exact tb_value (v := rowT.val Ar) rfl (by decide) (run_load15 (HC7.out.below hBV) rfl e) rfl
              · intro r W X hc hf hs hX hd hB
                refine ite_no (by decide) ?_
                have hBV := HBV.out W hB
                have hno : ¬ X W.heap.size := fun hx => absurd (hX _ hx).2 (Nat.lt_irrefl _)
                have e : r (.tmp 7) = .pointer (some ⟨b7, 0, none⟩) := hs 7 (of_decide_eq_true (by kernel_rfl))
                exact tb_value (v := rowT.val Ar) rfl (by decide) (run_load15 (HC7.out.below hBV) rfl e) rfl
              · intro r W X hc hf hs hX hd hB
                refine ite_no (by decide) ?_
                have hBV := HBV.out W hB
                have hno : ¬ X W.heap.size := fun hx => absurd (hX _ hx).2 (Nat.lt_irrefl _)
                have e : r (.tmp 7) = .pointer (some ⟨b7, 0, none⟩) := hs 7 (of_decide_eq_true (by kernel_rfl))
                exact tb_value (v := rowT.val Ar) rfl (by decide) (run_load15 (HC7.out.below hBV) rfl e) rfl
              · intro r W X hc hf hs hX hd hB
                refine ite_no (by decide) ?_
                have hBV := HBV.out W hB
                have hno : ¬ X W.heap.size := fun hx => absurd (hX _ hx).2 (Nat.lt_irrefl _)
                exact tb_new (v := .slice (some ⟨W.heap.size, 0, none⟩) 0 0) (w' := W.alloc (.cells #[] 47)) rfl (by decide) (by go_simp) (Below.al _) ⟨_, rfl, hno, by simp⟩
              · intro r W X hc hf hs hX hd hB
                refine ite_no (by decide) ?_
                have hBV := HBV.out W hB
                have hno : ¬ X W.heap.size := fun hx => absurd (hX _ hx).2 (Nat.lt_irrefl _)
                have e : r (.tmp 5) = (.slice (some ⟨bm, 0, none⟩) 64 64) := hs 5 (of_decide_eq_true (by kernel_rfl))
                exact tb_value (v := (.slice (some ⟨bm, 0, none⟩) 64 64)) rfl (by decide) (by go_simp) rfl
              · intro r W X hc hf hs hX hd hB
                refine ite_no (by decide) ?_
                have hBV := HBV.out W hB
                have hno : ¬ X W.heap.size := fun hx => absurd (hX _ hx).2 (Nat.lt_irrefl _)
                have e : r (.tmp 81) = (.slice (some ⟨bm, 0, none⟩) 64 64) := hd 81 (by kernel_rfl)
                exact tb_value (v := .slice (some ⟨bm, 0, none⟩) 61 64) rfl (by decide) (by go_simp) rfl
              · intro r W X hc hf hs hX hd hB
                refine ite_no (by decide) ?_
                have hBV := HBV.out W hB
                have hno : ¬ X W.heap.size := fun hx => absurd (hX _ hx).2 (Nat.lt_irrefl _)
                obtain ⟨b0, e0, hx0, hl0⟩ : TX.ok .empty (r (.tmp 80)) W X := hd 80 (by kernel_rfl)
                have e1 : r (.tmp 82) = .slice (some ⟨bm, 0, none⟩) 61 64 := hd 82 (by kernel_rfl)
                obtain ⟨v', w', hrun, hr, hb⟩ := LRow.first (B0 := wF8.heap.size) (c := 64) (M := L61) (b := bm) hx0 hl0 hBV.size (fun k hk => (hX k hk).2) (fun j u hu => cell_stays hBV (HL.out.2.2.1 j u hu)) HL.out.2.2.2 (by rw [HL.out.1]; decide) (by rw [HL.out.1]; decide)
                rw [HL.out.1] at hrun
                rw [HL.out.2.1] at hr
                exact tb_new rfl (by decide) (run_append2 rfl e0 e1 hrun) hb hr
              · intro r W X hc hf hs hX hd hB
                refine ite_no (by decide) ?_
                have hBV := HBV.out W hB
                have hno : ¬ X W.heap.size := fun hx => absurd (hX _ hx).2 (Nat.lt_irrefl _)
                exact tb_call (f := 49) (args := #[.int .i64 0, .int .i64 1]) rfl (by decide) (by go_simp) (madeLeaf rfl rfl rfl rfl rfl (mspan 0 1 W))
              · intro r W X hc hf hs hX hd hB
                refine ite_no (by decide) ?_
                have hBV := HBV.out W hB
                have hno : ¬ X W.heap.size := fun hx => absurd (hX _ hx).2 (Nat.lt_irrefl _)
                exact tb_call (f := 49) (args := #[.int .i64 0, .int .i64 1]) rfl (by decide) (by go_simp) (madeLeaf rfl rfl rfl rfl rfl (mspan 0 1 W))
              · intro r W X hc hf hs hX hd hB
                refine ite_no (by decide) ?_
                have hBV := HBV.out W hB
                have hno : ¬ X W.heap.size := fun hx => absurd (hX _ hx).2 (Nat.lt_irrefl _)
                obtain ⟨A84, e84, k84⟩ : TX.ok (.leaf (tSpan 0 1)) (r (.tmp 84)) W X := hd 84 (by kernel_rfl)
                obtain ⟨A85, e85, k85⟩ : TX.ok (.leaf (tSpan 0 1)) (r (.tmp 85)) W X := hd 85 (by kernel_rfl)
                obtain ⟨w2, hrun, hb, hlt, hc2⟩ := run_rowN (w := W) (r := r) (parts := #[(0, .tmp 84), (1, .tmp 85)]) [(tSpan 0 1, A84), (tSpan 0 1, A85)] rfl (by simp) (by simp) (by simp only [List.map_toArray, List.map_cons, List.map_nil, e84, e85]; rfl)
                exact tb_new rfl (by decide) (hrun _ rfl) hb ⟨_, [(tSpan 0 1, A84), (tSpan 0 1, A85)], rfl, rfl, cellsL_of hc2, by intro p hp; simp only [List.mem_cons, List.not_mem_nil, or_false] at hp; rcases hp with rfl | rfl <;> assumption⟩
              · intro r W X hc hf hs hX hd hB
                refine ite_yes rfl ?_
                have hBV := HBV.out W hB
                have hno : ¬ X W.heap.size := fun hx => absurd (hX _ hx).2 (Nat.lt_irrefl _)
                have h1 : LRow X wF8.heap.size W (nums0 61) (r (.tmp 83)) := hd 83 (by kernel_rfl)
                obtain ⟨b2, L2, e2, el2, hc2, hl2⟩ : TX.ok (.src [tSpan 0 1, tSpan 0 1]) (r (.tmp 86)) W X := hd 86 (by kernel_rfl)
                have hn2 : L2.length = 2 := by simpa using congrArg List.length el2
                obtain ⟨v', w', hrun, hr, hb, hx⟩ := h1.append (c := L2.length) hBV.size (fun k hk => (hX k hk).2) hc2 hl2 (by omega) (by rw [hn2]; simp [nums0])
                rw [el2, ← hLF] at hr
                exact OpDoes.value (run_append2 rfl rfl e2 hrun) ⟨fun d' e => by cases e; exact ⟨hr.rowA, by decide⟩, hb, fun d v' hdx hA hk => kindTX_wide (by kernel_rfl) hb.size hx d v' hdx hA hk⟩
              · intro r W X hc hf hs hX hd hB
                refine ite_no (by decide) ?_
                have hBV := HBV.out W hB
                have hno : ¬ X W.heap.size := fun hx => absurd (hX _ hx).2 (Nat.lt_irrefl _)
                obtain ⟨a, cap, e, hr⟩ : TX.ok (.row LF) (r (.tmp 87)) W X := hd 87 (by kernel_rfl)
                exact tb_call (f := 48) (args := #[.int .u8 5, .slice a LF.length cap]) rfl (by decide) (by go_simp) (lofA X 5 LF a cap W (by omega) hr)
              · intro r W X hc hf hs hX hd hB
                refine ite_no (by decide) ?_
                have hBV := HBV.out W hB
                have hno : ¬ X W.heap.size := fun hx => absurd (hX _ hx).2 (Nat.lt_irrefl _)
                have e77 : r (.tmp 77) = rowT.val Ar := hd 77 (by kernel_rfl)
                have e78 : r (.tmp 78) = rowT.val Ar := hd 78 (by kernel_rfl)
                have e79 : r (.tmp 79) = rowT.val Ar := hd 79 (by kernel_rfl)
                obtain ⟨A, e, k⟩ : TX.ok (.term (tOf 5 LF)) (r (.tmp 88)) W X := hd 88 (by kernel_rfl)
                obtain ⟨w2, hrun, hb, hlt, hc2⟩ := run_rowN (w := W) (r := r) (parts := #[(0, .tmp 77), (1, .tmp 78), (2, .tmp 79), (3, .tmp 88)]) [(rowT, Ar), (rowT, Ar), (rowT, Ar), (tOf 5 LF, A)] rfl (by simp) (by simp) (by simp only [List.map_toArray, List.map_cons, List.map_nil, e77, e78, e79, e]; rfl)
                have ho : TOkA X w2 rowT Ar := TOk.old HK7.out (hBV.trans (hb.mono hBV.size)) (fun k hk => (hX k hk).1)
                exact tb_new rfl (by decide) (hrun _ rfl) hb ⟨_, _, rfl, rowA_of hno hc2 (by intro p hp; simp only [List.mem_cons, List.not_mem_nil, or_false] at hp; rcases hp with rfl | rfl | rfl | rfl; exact ho; exact ho; exact ho; exact k.below hb)⟩
              · intro r W X hc hf hs hX hd hB
                refine ite_no (by decide) ?_
                have hBV := HBV.out W hB
                have hno : ¬ X W.heap.size := fun hx => absurd (hX _ hx).2 (Nat.lt_irrefl _)
                obtain ⟨a, cap, e, hr⟩ : TX.ok (.row [rowT, rowT, rowT, tOf 5 LF]) (r (.tmp 89)) W X := hd 89 (by kernel_rfl)
                exact tb_call (f := 48) (args := #[.int .u8 5, .slice a 4 cap]) rfl (by decide) (by go_simp) (lofA X 5 [rowT, rowT, rowT, tOf 5 LF] a cap W (by simp) hr)
              · intro r W X hc hf hs hX hd hB
                refine ite_no (by decide) ?_
                have hBV := HBV.out W hB
                have hno : ¬ X W.heap.size := fun hx => absurd (hX _ hx).2 (Nat.lt_irrefl _)
                exact tb_block (w' := W.alloc (.cells #[.int .u8 0, .int .u8 0, .int .i64 0, .slice none 0 0, .slice none 0 0, .int .i64 0, .int .i64 0, .slice none 0 0, .int .u8 0, .int .u8 0, .int .i64 0, .slice none 0 0, .int .i64 0, .slice none 0 0, .slice none 0 0] 47)) rfl (by go_simp) (Below.al _) (by simp) (fun X => ⟨W.heap.size, rfl, by simp, RowAt.new W _ _⟩)
            intro f w' fuel Y hfuel hfd hnew hap hB'
            obtain ⟨A9, e9, k9⟩ : TX.ok (.term (tOf 5 [rowT, rowT, rowT, tOf 5 LF])) (f 90) w' Y := hfd 90 (of_decide_eq_true (by kernel_rfl)) (by decide)
            rw [hLF, show tOf 5 [rowT, rowT, rowT, tOf 5 (nums0 61 ++ [tSpan 0 1, tSpan 0 1])] = moreT from rfl] at e9 k9
            obtain ⟨b9, eb, -, R9⟩ : TX.ok (.box 47 15) (f 9) w' Y := hfd 9 (of_decide_eq_true (by kernel_rfl)) (by decide)
            obtain ⟨c9, eb', lo9, lt9, Y9⟩ := hnew 9 (by simp) (of_decide_eq_true (by kernel_rfl))
            unfold IsBlock at eb eb'
            rw [eb] at eb'
            cases eb'
            obtain ⟨fuel, rfl⟩ : ∃ k, fuel = k + 1 := ⟨fuel - 1, by have h2 : 1 ≤ fuel := hfuel; omega⟩
            rw [show dstsTo 15 _ = [77, 78, 79, 80, 81, 82, 83, 84, 85, 86, 87, 88, 89, 90, 9] from by kernel_rfl]
            obtain ⟨u9, hu9⟩ : ∃ u, u = f 90 := ⟨_, rfl⟩
            rw [← hu9] at e9
            simp only [fill, List.setIfInBounds_toArray, List.set_cons_succ, List.set_cons_zero, ← hu9, eb]
            obtain ⟨wF9, hwF⟩ : ∃ wF, wF = setL b9 (cellsT 0 moreT A9) w' := ⟨_, rfl⟩
            have hst : ∀ (r : Operand → Value) (o : Oper), o.op = .store 47 (.tmp 9) (.tmp 90) → r (.tmp 9) = .pointer (some ⟨b9, 0, none⟩) → r (.tmp 90) = u9 → (execOp r o).run Try.prog w' = .ok .skip wF9 := fun r o ho h1 h2 => by rw [hwF]; exact run_store15 (q := 0) R9 (by decide) ho h1 (h2.trans e9)
            refine wpAny_next (i := 15) (by kernel_rfl) (by rfl) rfl (wp_skip (w' := wF9) (hst _ _ (by rfl) (by go_simp) (by go_simp)) rfl ?_)
            refine wpAny_done (by kernel_rfl) ?_ _
            have hBw := HBV.out w' hB'
            have HBX9 : Hid (BoxF wF9 b9 moreT) := Lib.hid (by rw [hwF]; exact BoxF.stored k9 R9 (Nat.le_refl _) Y9)
            have hbw : Below wF8.heap.size wF8 wF9 := by rw [hwF]; exact setL_below _ (by have h := lo9; simpa using h) _ _ hBw
            replace HC7 := Lib.hid (HC7.out.below hbw); replace HK7 := Lib.hid (HK7.out.below hbw)
            replace HDEEP := Lib.hid (BoxF.below HDEEP.out hbw)
            replace HBX8 := Lib.hid (BoxF.below HBX8.out hbw)
            replace HL : Hid (L61.length = 61 ∧ L61.map (·.1) = nums0 61 ∧ (∀ j u, (cellsL L61)[j]? = some u → wF9.cell? ⟨bm, j, none⟩ = some u) ∧ ∀ p ∈ L61, LeafA p.1 p.2) := Lib.hid ⟨HL.out.1, HL.out.2.1, fun j u hu => cell_stays hbw (HL.out.2.2.1 j u hu), HL.out.2.2.2⟩
            replace hB := hB.trans (hbw.mono hB.size)
            clear hst e9 k9 R9 eb lo9 lt9 Y9 hu9 hwF hBw hfuel hfd hnew hap hB' HBV hLF hLFn hbw
            clear HC7 HK7 HL
            obtain ⟨b10, hb10⟩ : ∃ b, b = wF9.heap.size := ⟨_, rfl⟩
            obtain ⟨wD, hwD, mD, sD, x0, x1, x2, fD⟩ := box3 wF9 (.int .u8 1) (.int .i64 0) (.slice none 0 0) 25
            have RD : RowAt wD 25 wF9.heap.size 3 := by rw [← hwD]; exact RowAt.new wF9 _ _
            have HWD := Lib.hid hwD
            clear hwD fD
            go_wp2_with fail
            rw [HWD.out]
            rw [← hb10] at RD x0 x1 x2 ⊢
            have hlow : wF9.heap.size ≤ b10 := Nat.le_of_eq hb10.symm
            have hf0 : FIn wD (b10 + 1) (farV 0) (.agg #[.int .u8 1, .int .i64 0, .slice none 0 0]) := by rw [farV, FIn]; exact ⟨none, 0, by simp, rfl, .inl rfl⟩
            clear HWD hb10
            go_loopw [11] (fun x wr => ∃ (q : Nat) (kk : Int) (a : Option Addr) (len cap : Nat), x = .int .i64 (q + 1 : Nat) ∧ q ≤ 127 ∧ RowAt wr 25 b10 3 ∧ wr.cell? ⟨b10, 0, none⟩ = some (.int .u8 kk) ∧ wr.cell? ⟨b10, 1, none⟩ = some (.int .i64 0) ∧
              wr.cell? ⟨b10, 2, none⟩ = some (.slice a len cap) ∧ FIn wr (b10 + 1) (farV q) (.agg #[.int .u8 kk, .int .i64 0, .slice a len cap]) ∧ Below wF9.heap.size wF9 wr) (fun x _ => 128 - (intOf x).toNat)
            case atStart => exact ⟨0, 1, none, 0, 0, rfl, by omega, RD, x0, x1, x2, hf0, mD⟩
            case round =>
              clear x0 x1 x2 hf0 mD RD sD
              obtain ⟨q, kk, da, dl, dc, rfl, hq, hrow, x0, x1, x2, hf, hJ⟩ := hrel
              rename World => wQ
              have HF := Lib.hid hf; clear hf
              by_cases hqt : q + 1 < 128
              · as_aux_lemma =>
                have hbq : ((q + 1 : Nat) : Int) < 128 := by omega
                have hsz := hrow.lt
                obtain ⟨wB, hwB, mB, sB, y0, y1, y2, fB⟩ := box3 wQ (.int .u8 kk) (.int .i64 0) (.slice da dl dc) 25
                have hrow2 := hrow.below hsz mB
                have HST := Lib.hid (far_step hsz HF.out mB y0 y1 y2 fB (.int .u8 4) (.int .i64 0) (.slice (some ⟨wQ.heap.size, 0, none⟩) 1 1))
                have X0 := cell_stays mB x0
                have X1 := cell_stays mB x1
                have X2 := cell_stays mB x2
                have g0 := hrow2.frozen 0
                have g1 := hrow2.frozen 1
                have g2 := hrow2.frozen 2
                have HBJ := Lib.hid ((((hJ.trans (mB.mono hJ.size)).setCell (p := ⟨b10, 0, none⟩) hlow (.int .u8 4)).setCell (p := ⟨b10, 1, none⟩) hlow (.int .i64 0)).setCell (p := ⟨b10, 2, none⟩) hlow (.slice (some ⟨wQ.heap.size, 0, none⟩) 1 1))
                clear mB fB y0 y1 y2 sB hJ hrow
                go_wp2_with fail
                go_roundw
                case rel =>
                  exact ⟨q + 1, 4, _, 1, 1, by go_num, by omega, ((hrow2.set _ _ rfl).set _ _ rfl).set _ _ rfl, set_off (set_off (set_same X0) (by omega)) (by omega), set_off (set_same (set_off X1 (by omega))) (by omega), set_same (set_off (set_off X2 (by omega)) (by omega)), HST.out, HBJ.out⟩
                case measure => simp [intOf]; omega
              · as_aux_lemma =>
                have hbq : ¬ ((q + 1 : Nat) : Int) < 128 := by omega
                have hq1 : q = 127 := by omega
                subst hq1
                obtain ⟨kf, nf, itf, hfv⟩ : ∃ k n l, farV 127 = .mk k n l := ⟨_, _, _, rfl⟩
                have hf := HF.out
                rw [hfv] at hf
                have hvin := FIn.vin _ _ hf
                obtain ⟨a', c', hl', hv', -⟩ := hf.open
                simp only [Value.agg.injEq, Array.mk.injEq, List.cons.injEq, Value.int.injEq, Value.slice.injEq, and_true, true_and] at hv'
                obtain ⟨rfl, rfl, rfl, rfl, rfl⟩ := hv'
                have HVIN := Lib.hid hvin
                have HHI : Hid (TT.mk 1 (.mk kk 0 itf) [] 0 0 [] pNone [] = highT) := Lib.hid (by rw [highT, hfv])
                replace HDEEP := Lib.hid (BoxF.below HDEEP.out hJ); replace HBX8 := Lib.hid (BoxF.below HBX8.out hJ); replace HBX9 := Lib.hid (BoxF.below HBX9.out hJ)
                replace hB := hB.trans (hJ.mono hB.size)
                clear hf hvin hl' hfv HF hJ hrow hq hqt hlow
                go_wp2_with (first | refine wpList_constT (k := kk) (n := 0) (its := itf) (by rfl) (by rfl) (by rfl) rfl ?_ | refine wpList_box15 (t := TT.mk 1 (.mk kk 0 itf) [] 0 0 [] pNone []) (A := constA da dc) (by rfl) (by rfl) (by rfl) (by rfl) (by rfl) (by rfl) (by rfl) (by rfl) ?_)
                intro w12 hc12 hb12 _ _
                obtain ⟨b12, hb12'⟩ : ∃ b, b = wQ.heap.size := ⟨_, rfl⟩
                rw [← hb12'] at hc12 ⊢
                obtain ⟨DP, hDP⟩ : ∃ X, X = deepT 11 := ⟨_, rfl⟩
                obtain ⟨FU, hFU⟩ : ∃ X, X = fullT := ⟨_, rfl⟩
                obtain ⟨MO, hMO⟩ : ∃ X, X = moreT := ⟨_, rfl⟩
                obtain ⟨HI, hHI⟩ : ∃ X, X = highT := ⟨_, rfl⟩
                have HD3 : Hid (BoxT w12 b3 DP) := Lib.hid (by rw [hDP]; exact BoxF.below HDEEP.out hb12)
                have HD8 : Hid (BoxT w12 b8 FU) := Lib.hid (by rw [hFU]; exact BoxF.below HBX8.out hb12)
                have HD9 : Hid (BoxT w12 b9 MO) := Lib.hid (by rw [hMO]; exact BoxF.below HBX9.out hb12)
                have HD12 : Hid (BoxT w12 b12 HI) := Lib.hid (by rw [hHI, ← HHI.out]; exact ⟨_, hc12, (tok_const HVIN.out).below hb12⟩)
                have HTF : Hid (TabFact (tableG DP FU MO HI)) := Lib.hid (by rw [hDP, hFU, hMO, hHI]; exact tabFact_all)
                have HNG : Hid (NamesG DP FU HI) := Lib.hid (by rw [hDP, hFU, hHI]; exact namesG_all)
                replace hB := hB.trans (hb12.mono hB.size)
                clear hc12 hb12 hb12' hDP hFU hMO hHI HDEEP HBX8 HBX9 HVIN HHI x0 x1 x2 hbq
                go_wp2_with fail
                have HBV := Lib.hid (fun W (h : Below w12.drew.heap.size w12.drew W) => (Below.refl _ w12).drew.trans h)
                try simp only [List.append_eq, List.cons_append, List.nil_append]
                refine wp_region_allW (kindT [(101, .term (tSelf)), (102, .prop (PbOk (tSelf) 0 10) (PbOk.mono _ _ _)), (103, .term (DP)), (104, .prop (PbOk (DP) 0 0) (PbOk.mono _ _ _)), (105, .term (DP)), (106, .row [DP]), (107, .term (tOf 5 [DP])), (108, .prop (PbOk (tOf 5 [DP]) 12 9) (PbOk.mono _ _ _)), (109, .term (tNum 0)), (110, .term (tSelf)), (111, .term (tNum 1)), (112, .row [tSelf, tNum 1]), (113, .term (tOf 5 [tSelf, tNum 1])), (114, .term (tSized 1 (tNum 0) (tOf 5 [tSelf, tNum 1]))), (115, .prop (PbOk (tSized 1 (tNum 0) (tOf 5 [tSelf, tNum 1])) 0 0) (PbOk.mono _ _ _)), (116, .term (tSelf)), (117, .term (tNum 1)), (118, .term (tSized 1 tSelf (tNum 1))), (119, .prop (PbOk (tSized 1 tSelf (tNum 1)) 1 10) (PbOk.mono _ _ _)), (120, .term (tNum 0)), (121, .term (tSelf)), (122, .term (tSelf)), (123, .term (tSized 1 tSelf tSelf)), (124, .term (tSized 1 (tNum 0) (tSized 1 tSelf tSelf))), (125, .prop (PbOk (tSized 1 (tNum 0) (tSized 1 tSelf tSelf)) 0 0) (PbOk.mono _ _ _)), (126, .term (tNum 1)), (127, .term (tSelf)), (128, .term (tList 0 1 tSelf)), (129, .row [tNum 1, tList 0 1 tSelf]), (130, .term (tOf 5 [tNum 1, tList 0 1 tSelf])), (131, .prop (PbOk (tOf 5 [tNum 1, tList 0 1 tSelf]) 3 10) (PbOk.mono _ _ _)), (132, .term (tNum 1)), (133, .term (tNum 2)), (134, .row [tNum 2]), (135, .term (tOf 5 [tNum 2])), (136, .term (tSpan 2 1)), (137, .row [tNum 1, tOf 5 [tNum 2], tSpan 2 1]), (138, .term (tOf 5 [tNum 1, tOf 5 [tNum 2], tSpan 2 1])), (139, .prop (PbOk (tOf 5 [tNum 1, tOf 5 [tNum 2], tSpan 2 1]) 4 1) (PbOk.mono _ _ _)), (140, .term (FU)), (141, .prop (PbOk (FU) 0 0) (PbOk.mono _ _ _)), (142, .term (MO)), (143, .prop (PbOk (MO) 0 5) (PbOk.mono _ _ _)), (144, .term (tNum 0)), (145, .term (tList 16 16 (tNum 0))), (146, .term (tList 16 16 (tList 16 16 (tNum 0)))), (147, .term (tList 16 16 (tList 16 16 (tList 16 16 (tNum 0))))), (148, .prop (PbOk (tList 16 16 (tList 16 16 (tList 16 16 (tNum 0)))) 0 5) (PbOk.mono _ _ _)), (149, .term (tNum 0)), (150, .term (tList 0 14 (tNum 0))), (151, .term (tList 16 16 (tList 0 14 (tNum 0)))), (152, .term (tList 16 16 (tList 16 16 (tList 0 14 (tNum 0))))), (153, .prop (PbOk (tList 16 16 (tList 16 16 (tList 0 14 (tNum 0)))) 0 0) (PbOk.mono _ _ _)), (154, .term (HI)), (155, .prop (PbOk (HI) 0 0) (PbOk.mono _ _ _)), (156, .term (HI)), (157, .row [HI]), (158, .term (tOf 5 [HI])), (159, .prop (PbOk (tOf 5 [HI]) 0 9) (PbOk.mono _ _ _)), (160, .term (HI)), (161, .term (tList 0 0 HI)), (162, .prop (PbOk (tList 0 0 HI) 0 0) (PbOk.mono _ _ _)), (163, .term (tNum 0)), (164, .term (tSelf)), (165, .term (tSelf)), (166, .term (tSelf)), (167, .row [tSelf, tSelf, tSelf]), (168, .term (tOf 5 [tSelf, tSelf, tSelf])), (169, .term (tSized 8 (tNum 0) (tOf 5 [tSelf, tSelf, tSelf]))), (170, .prop (PbOk (tSized 8 (tNum 0) (tOf 5 [tSelf, tSelf, tSelf])) 0 5) (PbOk.mono _ _ _)), (171, .term (tNum 0)), (172, .term (tSelf)), (173, .term (tSelf)), (174, .row [tSelf, tSelf]), (175, .term (tOf 5 [tSelf, tSelf])), (176, .term (tSized 8 (tNum 0) (tOf 5 [tSelf, tSelf]))), (177, .prop (PbOk (tSized 8 (tNum 0) (tOf 5 [tSelf, tSelf])) 0 0) (PbOk.mono _ _ _)), (178, .term (tNum 0)), (179, .term (tSelf)), (180, .term (tSelf)), (181, .term (tSelf)), (182, .row [tSelf, tSelf, tSelf]), (183, .term (tOf 5 [tSelf, tSelf, tSelf])), (184, .term (tSized 0 (tNum 0) (tOf 5 [tSelf, tSelf, tSelf]))), (185, .prop (PbOk (tSized 0 (tNum 0) (tOf 5 [tSelf, tSelf, tSelf])) 0 0) (PbOk.mono _ _ _)), (186, .term (HI)), (187, .term (tSpan 2 1)), (188, .row [HI, tSpan 2 1]), (189, .term (tOf 5 [HI, tSpan 2 1])), (190, .prop (PbOk (tOf 5 [HI, tSpan 2 1]) 2 1) (PbOk.mono _ _ _)), (191, .prop (PTabOk (tableG DP FU MO HI)) (PTabOk.mono _)), (192, .fixed (.int .i64 19)), (193, .fixed (.int .i64 0))]) 294 (by kernel_rfl) (by kernel_rfl) (by rfl) (kindT_mono _) ?_ ?_
                · as_aux_lemma =>
                  show ∀ o ∈ [(0, _), (1, _), (2, _), (3, _), (4, _), (5, _), (6, _), (7, _), (8, _), (9, _), (10, _), (11, _), (12, _), (13, _), (14, _), (15, _), (16, _), (17, _), (18, _), (19, _), (20, _), (21, _), (22, _), (23, _), (24, _), (25, _), (26, _), (27, _), (28, _), (29, _), (30, _), (31, _), (32, _), (33, _), (34, _), (35, _), (36, _), (37, _), (38, _), (39, _), (40, _), (41, _), (42, _), (43, _), (44, _), (45, _), (46, _), (47, _), (48, _), (49, _), (50, _), (51, _), (52, _), (53, _), (54, _), (55, _), (56, _), (57, _), (58, _), (59, _), (60, _), (61, _), (62, _), (63, _), (64, _), (65, _), (66, _), (67, _), (68, _), (69, _), (70, _), (71, _), (72, _), (73, _), (74, _), (75, _), (76, _), (77, _), (78, _), (79, _), (80, _), (81, _), (82, _), (83, _), (84, _), (85, _), (86, _), (87, _), (88, _), (89, _), (90, _), (91, _), (92, _)], _
                  refine (tfm ?_ (tfm ?_ (tfm ?_ (tfm ?_ (tfm ?_ (tfm ?_ (tfm ?_ (tfm ?_ (tfm ?_ (tfm ?_ (tfm ?_ (tfm ?_ (tfm ?_ (tfm ?_ (tfm ?_ (tfm ?_ (tfm ?_ (tfm ?_ (tfm ?_ (tfm ?_ (tfm ?_ (tfm ?_ (tfm ?_ (tfm ?_ (tfm ?_ (tfm ?_ (tfm ?_ (tfm ?_ (tfm ?_ (tfm ?_ (tfm ?_ (tfm ?_ (tfm ?_ (tfm ?_ (tfm ?_ (tfm ?_ (tfm ?_ (tfm ?_ (tfm ?_ (tfm ?_ (tfm ?_ (tfm ?_ (tfm ?_ (tfm ?_ (tfm ?_ (tfm ?_ (tfm ?_ (tfm ?_ (tfm ?_ (tfm ?_ (tfm ?_ (tfm ?_ (tfm ?_ (tfm ?_ (tfm ?_ (tfm ?_ (tfm ?_ (tfm ?_ (tfm ?_ (tfm ?_ (tfm ?_ (tfm ?_ (tfm ?_ (tfm ?_ (tfm ?_ (tfm ?_ (tfm ?_ (tfm ?_ (tfm ?_ (tfm ?_ (tfm ?_ (tfm ?_ (tfm ?_ (tfm ?_ (tfm ?_ (tfm ?_ (tfm ?_ (tfm ?_ (tfm ?_ (tfm ?_ (tfm ?_ (tfm ?_ (tfm ?_ (tfm ?_ (tfm ?_ (tfm ?_ (tfm ?_ (tfm ?_ (tfm ?_ (tfm ?_ (tfm ?_ (tfm ?_ (tfm ?_ tfmnil)))))))))))))))))))))))))))))))))))))))))))))))))))))))))))))))))))))))))))))))))))))))))))))
                  · intro r W hc hf hs hd hB
                    have hBV := HBV.out W hB
                    refine want_n rfl ?_
                    
                    exact st_call (f := 50) (args := #[]) rfl (by decide) (by go_simp) (made_term (mself W))
                  · intro r W hc hf hs hd hB
                    have hBV := HBV.out W hB
                    refine want_n rfl ?_
                    obtain ⟨A101, e101, k101⟩ : TIn W (tSelf) (r (.tmp 101)) := hd 101 (by kernel_rfl)
                    exact st_value (v := PB.val ⟨tSelf, A101, 0, 10⟩) rfl (by decide) (run_pb ⟨tSelf, A101, 0, 10⟩ rfl e101 (hc _) (hc _)) ⟨A101, rfl, k101⟩
                  · intro r W hc hf hs hd hB
                    have hBV := HBV.out W hB
                    refine want_n rfl ?_
                    have e : r (.tmp 3) = .pointer (some ⟨b3, 0, none⟩) := hs 3 (by kernel_rfl)
                    obtain ⟨A, hcl, hok⟩ := BoxT.below HD3.out hBV
                    exact st_value (v := TT.val (DP) A) rfl (by decide) (run_load15 hcl rfl e) ⟨A, rfl, hok⟩
                  · intro r W hc hf hs hd hB
                    have hBV := HBV.out W hB
                    refine want_n rfl ?_
                    obtain ⟨A103, e103, k103⟩ : TIn W (DP) (r (.tmp 103)) := hd 103 (by kernel_rfl)
                    exact st_value (v := PB.val ⟨DP, A103, 0, 0⟩) rfl (by decide) (run_pb ⟨DP, A103, 0, 0⟩ rfl e103 (hc _) (hc _)) ⟨A103, rfl, k103⟩
                  · intro r W hc hf hs hd hB
                    have hBV := HBV.out W hB
                    refine want_n rfl ?_
                    have e : r (.tmp 3) = .pointer (some ⟨b3, 0, none⟩) := hs 3 (by kernel_rfl)
                    obtain ⟨A, hcl, hok⟩ := BoxT.below HD3.out hBV
                    exact st_value (v := TT.val (DP) A) rfl (by decide) (run_load15 hcl rfl e) ⟨A, rfl, hok⟩
                  · intro r W hc hf hs hd hB
                    have hBV := HBV.out W hB
                    refine want_n rfl ?_
                    have h105 : TIn W (DP) (r (.tmp 105)) := hd 105 (by kernel_rfl)
                    obtain ⟨A105, e105, k105⟩ := h105
                    obtain ⟨w2, hw2, m2, s2, hc2, _⟩ := row1_new W (DP) A105
                    exact st_new (v := .slice (some ⟨W.heap.size, 0, none⟩) 1 1) (w' := w2) rfl (by decide) (run_row1 rfl e105 hw2) m2 ⟨_, _, _, rfl, rfl, by simp, trow_cons hc2 (k105.below m2) trow_nil⟩
                  · intro r W hc hf hs hd hB
                    have hBV := HBV.out W hB
                    refine want_n rfl ?_
                    obtain ⟨ah106, nh106, ch106, h106, hnh106, hlh106, hrh106⟩ : TQ.ok (.row [DP]) (r (.tmp 106)) W := hd 106 (by kernel_rfl)
                    exact st_call (f := 48) (args := #[.int .u8 5, .slice ah106 nh106 ch106]) rfl (by decide) (by go_simp) (by rw [hnh106]; exact made_term (mof 5 [DP] ah106 ch106 W (by simp) hrh106))
                  · intro r W hc hf hs hd hB
                    have hBV := HBV.out W hB
                    refine want_n rfl ?_
                    obtain ⟨A107, e107, k107⟩ : TIn W (tOf 5 [DP]) (r (.tmp 107)) := hd 107 (by kernel_rfl)
                    exact st_value (v := PB.val ⟨tOf 5 [DP], A107, 12, 9⟩) rfl (by decide) (run_pb ⟨tOf 5 [DP], A107, 12, 9⟩ rfl e107 (hc _) (hc _)) ⟨A107, rfl, k107⟩
                  · intro r W hc hf hs hd hB
                    have hBV := HBV.out W hB
                    refine want_n rfl ?_
                    
                    exact st_call (f := 47) (args := #[.int .i64 0]) rfl (by decide) (by go_simp) (made_term (mnum 0 W))
                  · intro r W hc hf hs hd hB
                    have hBV := HBV.out W hB
                    refine want_n rfl ?_
                    
                    exact st_call (f := 50) (args := #[]) rfl (by decide) (by go_simp) (made_term (mself W))
                  · intro r W hc hf hs hd hB
                    have hBV := HBV.out W hB
                    refine want_n rfl ?_
                    
                    exact st_call (f := 47) (args := #[.int .i64 1]) rfl (by decide) (by go_simp) (made_term (mnum 1 W))
                  · intro r W hc hf hs hd hB
                    have hBV := HBV.out W hB
                    refine want_n rfl ?_
                    have h110 : TIn W (tSelf) (r (.tmp 110)) := hd 110 (by kernel_rfl)
                    obtain ⟨A110, e110, k110⟩ := h110
                    have h111 : TIn W (tNum 1) (r (.tmp 111)) := hd 111 (by kernel_rfl)
                    obtain ⟨A111, e111, k111⟩ := h111
                    obtain ⟨w2, hw2, m2, s2, hc2, hc3⟩ := row2_new W (tSelf) (tNum 1) A110 A111
                    exact st_new (v := .slice (some ⟨W.heap.size, 0, none⟩) 2 2) (w' := w2) rfl (by decide) (run_row2 rfl e110 e111 hw2) m2 ⟨_, _, _, rfl, rfl, by simp, trow_cons hc2 (k110.below m2) (trow_cons hc3 (k111.below m2) trow_nil)⟩
                  · intro r W hc hf hs hd hB
                    have hBV := HBV.out W hB
                    refine want_n rfl ?_
                    obtain ⟨ah112, nh112, ch112, h112, hnh112, hlh112, hrh112⟩ : TQ.ok (.row [tSelf, tNum 1]) (r (.tmp 112)) W := hd 112 (by kernel_rfl)
                    exact st_call (f := 48) (args := #[.int .u8 5, .slice ah112 nh112 ch112]) rfl (by decide) (by go_simp) (by rw [hnh112]; exact made_term (mof 5 [tSelf, tNum 1] ah112 ch112 W (by simp) hrh112))
                  · intro r W hc hf hs hd hB
                    have hBV := HBV.out W hB
                    refine want_n rfl ?_
                    have h109 : TIn W (tNum 0) (r (.tmp 109)) := hd 109 (by kernel_rfl)
                    have h113 : TIn W (tOf 5 [tSelf, tNum 1]) (r (.tmp 113)) := hd 113 (by kernel_rfl)
                    exact st_call (f := 51) (args := #[.int .i64 1, r (.tmp 109), r (.tmp 113)]) rfl (by decide) (by go_simp) (made_term (lsized_any 1 _ _ _ _ W h109 h113))
                  · intro r W hc hf hs hd hB
                    have hBV := HBV.out W hB
                    refine want_n rfl ?_
                    obtain ⟨A114, e114, k114⟩ : TIn W (tSized 1 (tNum 0) (tOf 5 [tSelf, tNum 1])) (r (.tmp 114)) := hd 114 (by kernel_rfl)
                    exact st_value (v := PB.val ⟨tSized 1 (tNum 0) (tOf 5 [tSelf, tNum 1]), A114, 0, 0⟩) rfl (by decide) (run_pb ⟨tSized 1 (tNum 0) (tOf 5 [tSelf, tNum 1]), A114, 0, 0⟩ rfl e114 (hc _) (hc _)) ⟨A114, rfl, k114⟩
                  · intro r W hc hf hs hd hB
                    have hBV := HBV.out W hB
                    refine want_n rfl ?_
                    
                    exact st_call (f := 50) (args := #[]) rfl (by decide) (by go_simp) (made_term (mself W))
                  · intro r W hc hf hs hd hB
                    have hBV := HBV.out W hB
                    refine want_n rfl ?_
                    
                    exact st_call (f := 47) (args := #[.int .i64 1]) rfl (by decide) (by go_simp) (made_term (mnum 1 W))
                  · intro r W hc hf hs hd hB
                    have hBV := HBV.out W hB
                    refine want_n rfl ?_
                    have h116 : TIn W (tSelf) (r (.tmp 116)) := hd 116 (by kernel_rfl)
                    have h117 : TIn W (tNum 1) (r (.tmp 117)) := hd 117 (by kernel_rfl)
                    exact st_call (f := 51) (args := #[.int .i64 1, r (.tmp 116), r (.tmp 117)]) rfl (by decide) (by go_simp) (made_term (lsized_any 1 _ _ _ _ W h116 h117))
                  · intro r W hc hf hs hd hB
                    have hBV := HBV.out W hB
                    refine want_n rfl ?_
                    obtain ⟨A118, e118, k118⟩ : TIn W (tSized 1 tSelf (tNum 1)) (r (.tmp 118)) := hd 118 (by kernel_rfl)
                    exact st_value (v := PB.val ⟨tSized 1 tSelf (tNum 1), A118, 1, 10⟩) rfl (by decide) (run_pb ⟨tSized 1 tSelf (tNum 1), A118, 1, 10⟩ rfl e118 (hc _) (hc _)) ⟨A118, rfl, k118⟩
                  · intro r W hc hf hs hd hB
                    have hBV := HBV.out W hB
                    refine want_n rfl ?_
                    
                    exact st_call (f := 47) (args := #[.int .i64 0]) rfl (by decide) (by go_simp) (made_term (mnum 0 W))
                  · intro r W hc hf hs hd hB
                    have hBV := HBV.out W hB
                    refine want_n rfl ?_
                    
                    exact st_call (f := 50) (args := #[]) rfl (by decide) (by go_simp) (made_term (mself W))
                  · intro r W hc hf hs hd hB
                    have hBV := HBV.out W hB
                    refine want_n rfl ?_
                    
                    exact st_call (f := 50) (args := #[]) rfl (by decide) (by go_simp) (made_term (mself W))
                  · intro r W hc hf hs hd hB
                    have hBV := HBV.out W hB
                    refine want_n rfl ?_
                    have h121 : TIn W (tSelf) (r (.tmp 121)) := hd 121 (by kernel_rfl)
                    have h122 : TIn W (tSelf) (r (.tmp 122)) := hd 122 (by kernel_rfl)
                    exact st_call (f := 51) (args := #[.int .i64 1, r (.tmp 121), r (.tmp 122)]) rfl (by decide) (by go_simp) (made_term (lsized_any 1 _ _ _ _ W h121 h122))
                  · intro r W hc hf hs hd hB
                    have hBV := HBV.out W hB
                    refine want_n rfl ?_
                    have h120 : TIn W (tNum 0) (r (.tmp 120)) := hd 120 (by kernel_rfl)
                    have h123 : TIn W (tSized 1 tSelf tSelf) (r (.tmp 123)) := hd 123 (by kernel_rfl)
                    exact st_call (f := 51) (args := #[.int .i64 1, r (.tmp 120), r (.tmp 123)]) rfl (by decide) (by go_simp) (made_term (lsized_any 1 _ _ _ _ W h120 h123))
                  · intro r W hc hf hs hd hB
                    have hBV := HBV.out W hB
                    refine want_n rfl ?_
                    obtain ⟨A124, e124, k124⟩ : TIn W (tSized 1 (tNum 0) (tSized 1 tSelf tSelf)) (r (.tmp 124)) := hd 124 (by kernel_rfl)
                    exact st_value (v := PB.val ⟨tSized 1 (tNum 0) (tSized 1 tSelf tSelf), A124, 0, 0⟩) rfl (by decide) (run_pb ⟨tSized 1 (tNum 0) (tSized 1 tSelf tSelf), A124, 0, 0⟩ rfl e124 (hc _) (hc _)) ⟨A124, rfl, k124⟩
                  · intro r W hc hf hs hd hB
                    have hBV := HBV.out W hB
                    refine want_n rfl ?_
                    
                    exact st_call (f := 47) (args := #[.int .i64 1]) rfl (by decide) (by go_simp) (made_term (mnum 1 W))
                  · intro r W hc hf hs hd hB
                    have hBV := HBV.out W hB
                    refine want_n rfl ?_
                    
                    exact st_call (f := 50) (args := #[]) rfl (by decide) (by go_simp) (made_term (mself W))
                  · intro r W hc hf hs hd hB
                    have hBV := HBV.out W hB
                    refine want_n rfl ?_
                    have h127 : TIn W (tSelf) (r (.tmp 127)) := hd 127 (by kernel_rfl)
                    exact st_call (f := 52) (args := #[.int .i64 0, .int .i64 1, r (.tmp 127)]) rfl (by decide) (by go_simp) (made_term (llist_any 0 1 _ _ W h127))
                  · intro r W hc hf hs hd hB
                    have hBV := HBV.out W hB
                    refine want_n rfl ?_
                    have h126 : TIn W (tNum 1) (r (.tmp 126)) := hd 126 (by kernel_rfl)
                    obtain ⟨A126, e126, k126⟩ := h126
                    have h128 : TIn W (tList 0 1 tSelf) (r (.tmp 128)) := hd 128 (by kernel_rfl)
                    obtain ⟨A128, e128, k128⟩ := h128
                    obtain ⟨w2, hw2, m2, s2, hc2, hc3⟩ := row2_new W (tNum 1) (tList 0 1 tSelf) A126 A128
                    exact st_new (v := .slice (some ⟨W.heap.size, 0, none⟩) 2 2) (w' := w2) rfl (by decide) (run_row2 rfl e126 e128 hw2) m2 ⟨_, _, _, rfl, rfl, by simp, trow_cons hc2 (k126.below m2) (trow_cons hc3 (k128.below m2) trow_nil)⟩
                  · intro r W hc hf hs hd hB
                    have hBV := HBV.out W hB
                    refine want_n rfl ?_
                    obtain ⟨ah129, nh129, ch129, h129, hnh129, hlh129, hrh129⟩ : TQ.ok (.row [tNum 1, tList 0 1 tSelf]) (r (.tmp 129)) W := hd 129 (by kernel_rfl)
                    exact st_call (f := 48) (args := #[.int .u8 5, .slice ah129 nh129 ch129]) rfl (by decide) (by go_simp) (by rw [hnh129]; exact made_term (mof 5 [tNum 1, tList 0 1 tSelf] ah129 ch129 W (by simp) hrh129))
                  · intro r W hc hf hs hd hB
                    have hBV := HBV.out W hB
                    refine want_n rfl ?_
                    obtain ⟨A130, e130, k130⟩ : TIn W (tOf 5 [tNum 1, tList 0 1 tSelf]) (r (.tmp 130)) := hd 130 (by kernel_rfl)
                    exact st_value (v := PB.val ⟨tOf 5 [tNum 1, tList 0 1 tSelf], A130, 3, 10⟩) rfl (by decide) (run_pb ⟨tOf 5 [tNum 1, tList 0 1 tSelf], A130, 3, 10⟩ rfl e130 (hc _) (hc _)) ⟨A130, rfl, k130⟩
                  · intro r W hc hf hs hd hB
                    have hBV := HBV.out W hB
                    refine want_n rfl ?_
                    
                    exact st_call (f := 47) (args := #[.int .i64 1]) rfl (by decide) (by go_simp) (made_term (mnum 1 W))
                  · intro r W hc hf hs hd hB
                    have hBV := HBV.out W hB
                    refine want_n rfl ?_
                    
                    exact st_call (f := 47) (args := #[.int .i64 2]) rfl (by decide) (by go_simp) (made_term (mnum 2 W))
                  · intro r W hc hf hs hd hB
                    have hBV := HBV.out W hB
                    refine want_n rfl ?_
                    have h133 : TIn W (tNum 2) (r (.tmp 133)) := hd 133 (by kernel_rfl)
                    obtain ⟨A133, e133, k133⟩ := h133
                    obtain ⟨w2, hw2, m2, s2, hc2, _⟩ := row1_new W (tNum 2) A133
                    exact st_new (v := .slice (some ⟨W.heap.size, 0, none⟩) 1 1) (w' := w2) rfl (by decide) (run_row1 rfl e133 hw2) m2 ⟨_, _, _, rfl, rfl, by simp, trow_cons hc2 (k133.below m2) trow_nil⟩
                  · intro r W hc hf hs hd hB
                    have hBV := HBV.out W hB
                    refine want_n rfl ?_
                    obtain ⟨ah134, nh134, ch134, h134, hnh134, hlh134, hrh134⟩ : TQ.ok (.row [tNum 2]) (r (.tmp 134)) W := hd 134 (by kernel_rfl)
                    exact st_call (f := 48) (args := #[.int .u8 5, .slice ah134 nh134 ch134]) rfl (by decide) (by go_simp) (by rw [hnh134]; exact made_term (mof 5 [tNum 2] ah134 ch134 W (by simp) hrh134))
                  · intro r W hc hf hs hd hB
                    have hBV := HBV.out W hB
                    refine want_n rfl ?_
                    
                    exact st_call (f := 49) (args := #[.int .i64 2, .int .i64 1]) rfl (by decide) (by go_simp) (made_term (mspan 2 1 W))
                  · intro r W hc hf hs hd hB
                    have hBV := HBV.out W hB
                    refine want_n rfl ?_
                    have h132 : TIn W (tNum 1) (r (.tmp 132)) := hd 132 (by kernel_rfl)
                    obtain ⟨A132, e132, k132⟩ := h132
                    have h135 : TIn W (tOf 5 [tNum 2]) (r (.tmp 135)) := hd 135 (by kernel_rfl)
                    obtain ⟨A135, e135, k135⟩ := h135
                    have h136 : TIn W (tSpan 2 1) (r (.tmp 136)) := hd 136 (by kernel_rfl)
                    obtain ⟨A136, e136, k136⟩ := h136
                    obtain ⟨w2, hrun, hb, hlt, hc2⟩ := run_rowN (w := W) (r := r) (parts := #[(0, .tmp 132), (1, .tmp 135), (2, .tmp 136)]) [(tNum 1, A132), (tOf 5 [tNum 2], A135), (tSpan 2 1, A136)] rfl (by simp) (by simp) (by simp only [List.map_toArray, List.map_cons, List.map_nil, e132, e135, e136]; rfl)
                    exact st_new (v := .slice (some ⟨W.heap.size, 0, none⟩) 3 3) rfl (by decide) (hrun _ rfl) hb ⟨_, _, _, rfl, rfl, by simp, trow_ofN hc2 (by intro p hp; simp only [List.mem_cons, List.not_mem_nil, or_false] at hp; rcases hp with rfl | rfl | rfl; exact k132.below hb; exact k135.below hb; exact k136.below hb)⟩
                  · intro r W hc hf hs hd hB
                    have hBV := HBV.out W hB
                    refine want_n rfl ?_
                    obtain ⟨ah137, nh137, ch137, h137, hnh137, hlh137, hrh137⟩ : TQ.ok (.row [tNum 1, tOf 5 [tNum 2], tSpan 2 1]) (r (.tmp 137)) W := hd 137 (by kernel_rfl)
                    exact st_call (f := 48) (args := #[.int .u8 5, .slice ah137 nh137 ch137]) rfl (by decide) (by go_simp) (by rw [hnh137]; exact made_term (mof 5 [tNum 1, tOf 5 [tNum 2], tSpan 2 1] ah137 ch137 W (by simp) hrh137))
                  · intro r W hc hf hs hd hB
                    have hBV := HBV.out W hB
                    refine want_n rfl ?_
                    obtain ⟨A138, e138, k138⟩ : TIn W (tOf 5 [tNum 1, tOf 5 [tNum 2], tSpan 2 1]) (r (.tmp 138)) := hd 138 (by kernel_rfl)
                    exact st_value (v := PB.val ⟨tOf 5 [tNum 1, tOf 5 [tNum 2], tSpan 2 1], A138, 4, 1⟩) rfl (by decide) (run_pb ⟨tOf 5 [tNum 1, tOf 5 [tNum 2], tSpan 2 1], A138, 4, 1⟩ rfl e138 (hc _) (hc _)) ⟨A138, rfl, k138⟩
                  · intro r W hc hf hs hd hB
                    have hBV := HBV.out W hB
                    refine want_n rfl ?_
                    have e : r (.tmp 8) = .pointer (some ⟨b8, 0, none⟩) := hs 8 (by kernel_rfl)
                    obtain ⟨A, hcl, hok⟩ := BoxT.below HD8.out hBV
                    exact st_value (v := TT.val (FU) A) rfl (by decide) (run_load15 hcl rfl e) ⟨A, rfl, hok⟩
                  · intro r W hc hf hs hd hB
                    have hBV := HBV.out W hB
                    refine want_n rfl ?_
                    obtain ⟨A140, e140, k140⟩ : TIn W (FU) (r (.tmp 140)) := hd 140 (by kernel_rfl)
                    exact st_value (v := PB.val ⟨FU, A140, 0, 0⟩) rfl (by decide) (run_pb ⟨FU, A140, 0, 0⟩ rfl e140 (hc _) (hc _)) ⟨A140, rfl, k140⟩
                  · intro r W hc hf hs hd hB
                    have hBV := HBV.out W hB
                    refine want_n rfl ?_
                    have e : r (.tmp 9) = .pointer (some ⟨b9, 0, none⟩) := hs 9 (by kernel_rfl)
                    obtain ⟨A, hcl, hok⟩ := BoxT.below HD9.out hBV
                    exact st_value (v := TT.val (MO) A) rfl (by decide) (run_load15 hcl rfl e) ⟨A, rfl, hok⟩
                  · intro r W hc hf hs hd hB
                    have hBV := HBV.out W hB
                    refine want_n rfl ?_
                    obtain ⟨A142, e142, k142⟩ : TIn W (MO) (r (.tmp 142)) := hd 142 (by kernel_rfl)
                    exact st_value (v := PB.val ⟨MO, A142, 0, 5⟩) rfl (by decide) (run_pb ⟨MO, A142, 0, 5⟩ rfl e142 (hc _) (hc _)) ⟨A142, rfl, k142⟩
                  · intro r W hc hf hs hd hB
                    have hBV := HBV.out W hB
                    refine want_n rfl ?_
                    
                    exact st_call (f := 47) (args := #[.int .i64 0]) rfl (by decide) (by go_simp) (made_term (mnum 0 W))
                  · intro r W hc hf hs hd hB
                    have hBV := HBV.out W hB
                    refine want_n rfl ?_
                    have h144 : TIn W (tNum 0) (r (.tmp 144)) := hd 144 (by kernel_rfl)
                    exact st_call (f := 52) (args := #[.int .i64 16, .int .i64 16, r (.tmp 144)]) rfl (by decide) (by go_simp) (made_term (llist_any 16 16 _ _ W h144))
                  · intro r W hc hf hs hd hB
                    have hBV := HBV.out W hB
                    refine want_n rfl ?_
                    have h145 : TIn W (tList 16 16 (tNum 0)) (r (.tmp 145)) := hd 145 (by kernel_rfl)
                    exact st_call (f := 52) (args := #[.int .i64 16, .int .i64 16, r (.tmp 145)]) rfl (by decide) (by go_simp) (made_term (llist_any 16 16 _ _ W h145))
                  · intro r W hc hf hs hd hB
                    have hBV := HBV.out W hB
                    refine want_n rfl ?_
                    have h146 : TIn W (tList 16 16 (tList 16 16 (tNum 0))) (r (.tmp 146)) := hd 146 (by kernel_rfl)
                    exact st_call (f := 52) (args := #[.int .i64 16, .int .i64 16, r (.tmp 146)]) rfl (by decide) (by go_simp) (made_term (llist_any 16 16 _ _ W h146))
                  · intro r W hc hf hs hd hB
                    have hBV := HBV.out W hB
                    refine want_n rfl ?_
                    obtain ⟨A147, e147, k147⟩ : TIn W (tList 16 16 (tList 16 16 (tList 16 16 (tNum 0)))) (r (.tmp 147)) := hd 147 (by kernel_rfl)
                    exact st_value (v := PB.val ⟨tList 16 16 (tList 16 16 (tList 16 16 (tNum 0))), A147, 0, 5⟩) rfl (by decide) (run_pb ⟨tList 16 16 (tList 16 16 (tList 16 16 (tNum 0))), A147, 0, 5⟩ rfl e147 (hc _) (hc _)) ⟨A147, rfl, k147⟩
                  · intro r W hc hf hs hd hB
                    have hBV := HBV.out W hB
                    refine want_n rfl ?_
                    
                    exact st_call (f := 47) (args := #[.int .i64 0]) rfl (by decide) (by go_simp) (made_term (mnum 0 W))
                  · intro r W hc hf hs hd hB
                    have hBV := HBV.out W hB
                    refine want_n rfl ?_
                    have h149 : TIn W (tNum 0) (r (.tmp 149)) := hd 149 (by kernel_rfl)
                    exact st_call (f := 52) (args := #[.int .i64 0, .int .i64 14, r (.tmp 149)]) rfl (by decide) (by go_simp) (made_term (llist_any 0 14 _ _ W h149))
                  · intro r W hc hf hs hd hB
                    have hBV := HBV.out W hB
                    refine want_n rfl ?_
                    have h150 : TIn W (tList 0 14 (tNum 0)) (r (.tmp 150)) := hd 150 (by kernel_rfl)
                    exact st_call (f := 52) (args := #[.int .i64 16, .int .i64 16, r (.tmp 150)]) rfl (by decide) (by go_simp) (made_term (llist_any 16 16 _ _ W h150))
                  · intro r W hc hf hs hd hB
                    have hBV := HBV.out W hB
                    refine want_n rfl ?_
                    have h151 : TIn W (tList 16 16 (tList 0 14 (tNum 0))) (r (.tmp 151)) := hd 151 (by kernel_rfl)
                    exact st_call (f := 52) (args := #[.int .i64 16, .int .i64 16, r (.tmp 151)]) rfl (by decide) (by go_simp) (made_term (llist_any 16 16 _ _ W h151))
                  · intro r W hc hf hs hd hB
                    have hBV := HBV.out W hB
                    refine want_n rfl ?_
                    obtain ⟨A152, e152, k152⟩ : TIn W (tList 16 16 (tList 16 16 (tList 0 14 (tNum 0)))) (r (.tmp 152)) := hd 152 (by kernel_rfl)
                    exact st_value (v := PB.val ⟨tList 16 16 (tList 16 16 (tList 0 14 (tNum 0))), A152, 0, 0⟩) rfl (by decide) (run_pb ⟨tList 16 16 (tList 16 16 (tList 0 14 (tNum 0))), A152, 0, 0⟩ rfl e152 (hc _) (hc _)) ⟨A152, rfl, k152⟩
                  · intro r W hc hf hs hd hB
                    have hBV := HBV.out W hB
                    refine want_n rfl ?_
                    have e : r (.tmp 12) = .pointer (some ⟨b12, 0, none⟩) := hs 12 (by kernel_rfl)
                    obtain ⟨A, hcl, hok⟩ := BoxT.below HD12.out hBV
                    exact st_value (v := TT.val (HI) A) rfl (by decide) (run_load15 hcl rfl e) ⟨A, rfl, hok⟩
                  · intro r W hc hf hs hd hB
                    have hBV := HBV.out W hB
                    refine want_n rfl ?_
                    obtain ⟨A154, e154, k154⟩ : TIn W (HI) (r (.tmp 154)) := hd 154 (by kernel_rfl)
                    exact st_value (v := PB.val ⟨HI, A154, 0, 0⟩) rfl (by decide) (run_pb ⟨HI, A154, 0, 0⟩ rfl e154 (hc _) (hc _)) ⟨A154, rfl, k154⟩
                  · intro r W hc hf hs hd hB
                    have hBV := HBV.out W hB
                    refine want_n rfl ?_
                    have e : r (.tmp 12) = .pointer (some ⟨b12, 0, none⟩) := hs 12 (by kernel_rfl)
                    obtain ⟨A, hcl, hok⟩ := BoxT.below HD12.out hBV
                    exact st_value (v := TT.val (HI) A) rfl (by decide) (run_load15 hcl rfl e) ⟨A, rfl, hok⟩
                  · intro r W hc hf hs hd hB
                    have hBV := HBV.out W hB
                    refine want_n rfl ?_
                    have h156 : TIn W (HI) (r (.tmp 156)) := hd 156 (by kernel_rfl)
                    obtain ⟨A156, e156, k156⟩ := h156
                    obtain ⟨w2, hw2, m2, s2, hc2, _⟩ := row1_new W (HI) A156
                    exact st_new (v := .slice (some ⟨W.heap.size, 0, none⟩) 1 1) (w' := w2) rfl (by decide) (run_row1 rfl e156 hw2) m2 ⟨_, _, _, rfl, rfl, by simp, trow_cons hc2 (k156.below m2) trow_nil⟩
                  · intro r W hc hf hs hd hB
                    have hBV := HBV.out W hB
                    refine want_n rfl ?_
                    obtain ⟨ah157, nh157, ch157, h157, hnh157, hlh157, hrh157⟩ : TQ.ok (.row [HI]) (r (.tmp 157)) W := hd 157 (by kernel_rfl)
                    exact st_call (f := 48) (args := #[.int .u8 5, .slice ah157 nh157 ch157]) rfl (by decide) (by go_simp) (by rw [hnh157]; exact made_term (mof 5 [HI] ah157 ch157 W (by simp) hrh157))
                  · intro r W hc hf hs hd hB
                    have hBV := HBV.out W hB
                    refine want_n rfl ?_
                    obtain ⟨A158, e158, k158⟩ : TIn W (tOf 5 [HI]) (r (.tmp 158)) := hd 158 (by kernel_rfl)
                    exact st_value (v := PB.val ⟨tOf 5 [HI], A158, 0, 9⟩) rfl (by decide) (run_pb ⟨tOf 5 [HI], A158, 0, 9⟩ rfl e158 (hc _) (hc _)) ⟨A158, rfl, k158⟩
                  · intro r W hc hf hs hd hB
                    have hBV := HBV.out W hB
                    refine want_n rfl ?_
                    have e : r (.tmp 12) = .pointer (some ⟨b12, 0, none⟩) := hs 12 (by kernel_rfl)
                    obtain ⟨A, hcl, hok⟩ := BoxT.below HD12.out hBV
                    exact st_value (v := TT.val (HI) A) rfl (by decide) (run_load15 hcl rfl e) ⟨A, rfl, hok⟩
                  · intro r W hc hf hs hd hB
                    have hBV := HBV.out W hB
                    refine want_n rfl ?_
                    have h160 : TIn W (HI) (r (.tmp 160)) := hd 160 (by kernel_rfl)
                    exact st_call (f := 52) (args := #[.int .i64 0, .int .i64 0, r (.tmp 160)]) rfl (by decide) (by go_simp) (made_term (llist_any 0 0 _ _ W h160))
                  · intro r W hc hf hs hd hB
                    have hBV := HBV.out W hB
                    refine want_n rfl ?_
                    obtain ⟨A161, e161, k161⟩ : TIn W (tList 0 0 HI) (r (.tmp 161)) := hd 161 (by kernel_rfl)
                    exact st_value (v := PB.val ⟨tList 0 0 HI, A161, 0, 0⟩) rfl (by decide) (run_pb ⟨tList 0 0 HI, A161, 0, 0⟩ rfl e161 (hc _) (hc _)) ⟨A161, rfl, k161⟩
                  · intro r W hc hf hs hd hB
                    have hBV := HBV.out W hB
                    refine want_n rfl ?_
                    
                    exact st_call (f := 47) (args := #[.int .i64 0]) rfl (by decide) (by go_simp) (made_term (mnum 0 W))
                  · intro r W hc hf hs hd hB
                    have hBV := HBV.out W hB
                    refine want_n rfl ?_
                    
                    exact st_call (f := 50) (args := #[]) rfl (by decide) (by go_simp) (made_term (mself W))
                  · intro r W hc hf hs hd hB
                    have hBV := HBV.out W hB
                    refine want_n rfl ?_
                    
                    exact st_call (f := 50) (args := #[]) rfl (by decide) (by go_simp) (made_term (mself W))
                  · intro r W hc hf hs hd hB
                    have hBV := HBV.out W hB
                    refine want_n rfl ?_
                    
                    exact st_call (f := 50) (args := #[]) rfl (by decide) (by go_simp) (made_term (mself W))
                  · intro r W hc hf hs hd hB
                    have hBV := HBV.out W hB
                    refine want_n rfl ?_
                    have h164 : TIn W (tSelf) (r (.tmp 164)) := hd 164 (by kernel_rfl)
                    obtain ⟨A164, e164, k164⟩ := h164
                    have h165 : TIn W (tSelf) (r (.tmp 165)) := hd 165 (by kernel_rfl)
                    obtain ⟨A165, e165, k165⟩ := h165
                    have h166 : TIn W (tSelf) (r (.tmp 166)) := hd 166 (by kernel_rfl)
                    obtain ⟨A166, e166, k166⟩ := h166
                    obtain ⟨w2, hrun, hb, hlt, hc2⟩ := run_rowN (w := W) (r := r) (parts := #[(0, .tmp 164), (1, .tmp 165), (2, .tmp 166)]) [(tSelf, A164), (tSelf, A165), (tSelf, A166)] rfl (by simp) (by simp) (by simp only [List.map_toArray, List.map_cons, List.map_nil, e164, e165, e166]; rfl)
                    exact st_new (v := .slice (some ⟨W.heap.size, 0, none⟩) 3 3) rfl (by decide) (hrun _ rfl) hb ⟨_, _, _, rfl, rfl, by simp, trow_ofN hc2 (by intro p hp; simp only [List.mem_cons, List.not_mem_nil, or_false] at hp; rcases hp with rfl | rfl | rfl; exact k164.below hb; exact k165.below hb; exact k166.below hb)⟩
                  · intro r W hc hf hs hd hB
                    have hBV := HBV.out W hB
                    refine want_n rfl ?_
                    obtain ⟨ah167, nh167, ch167, h167, hnh167, hlh167, hrh167⟩ : TQ.ok (.row [tSelf, tSelf, tSelf]) (r (.tmp 167)) W := hd 167 (by kernel_rfl)
                    exact st_call (f := 48) (args := #[.int .u8 5, .slice ah167 nh167 ch167]) rfl (by decide) (by go_simp) (by rw [hnh167]; exact made_term (mof 5 [tSelf, tSelf, tSelf] ah167 ch167 W (by simp) hrh167))
                  · intro r W hc hf hs hd hB
                    have hBV := HBV.out W hB
                    refine want_n rfl ?_
                    have h163 : TIn W (tNum 0) (r (.tmp 163)) := hd 163 (by kernel_rfl)
                    have h168 : TIn W (tOf 5 [tSelf, tSelf, tSelf]) (r (.tmp 168)) := hd 168 (by kernel_rfl)
                    exact st_call (f := 51) (args := #[.int .i64 8, r (.tmp 163), r (.tmp 168)]) rfl (by decide) (by go_simp) (made_term (lsized_any 8 _ _ _ _ W h163 h168))
                  · intro r W hc hf hs hd hB
                    have hBV := HBV.out W hB
                    refine want_n rfl ?_
                    obtain ⟨A169, e169, k169⟩ : TIn W (tSized 8 (tNum 0) (tOf 5 [tSelf, tSelf, tSelf])) (r (.tmp 169)) := hd 169 (by kernel_rfl)
                    exact st_value (v := PB.val ⟨tSized 8 (tNum 0) (tOf 5 [tSelf, tSelf, tSelf]), A169, 0, 5⟩) rfl (by decide) (run_pb ⟨tSized 8 (tNum 0) (tOf 5 [tSelf, tSelf, tSelf]), A169, 0, 5⟩ rfl e169 (hc _) (hc _)) ⟨A169, rfl, k169⟩
                  · intro r W hc hf hs hd hB
                    have hBV := HBV.out W hB
                    refine want_n rfl ?_
                    
                    exact st_call (f := 47) (args := #[.int .i64 0]) rfl (by decide) (by go_simp) (made_term (mnum 0 W))
                  · intro r W hc hf hs hd hB
                    have hBV := HBV.out W hB
                    refine want_n rfl ?_
                    
                    exact st_call (f := 50) (args := #[]) rfl (by decide) (by go_simp) (made_term (mself W))
                  · intro r W hc hf hs hd hB
                    have hBV := HBV.out W hB
                    refine want_n rfl ?_
                    
                    exact st_call (f := 50) (args := #[]) rfl (by decide) (by go_simp) (made_term (mself W))
                  · intro r W hc hf hs hd hB
                    have hBV := HBV.out W hB
                    refine want_n rfl ?_
                    have h172 : TIn W (tSelf) (r (.tmp 172)) := hd 172 (by kernel_rfl)
                    obtain ⟨A172, e172, k172⟩ := h172
                    have h173 : TIn W (tSelf) (r (.tmp 173)) := hd 173 (by kernel_rfl)
                    obtain ⟨A173, e173, k173⟩ := h173
                    obtain ⟨w2, hw2, m2, s2, hc2, hc3⟩ := row2_new W (tSelf) (tSelf) A172 A173
                    exact st_new (v := .slice (some ⟨W.heap.size, 0, none⟩) 2 2) (w' := w2) rfl (by decide) (run_row2 rfl e172 e173 hw2) m2 ⟨_, _, _, rfl, rfl, by simp, trow_cons hc2 (k172.below m2) (trow_cons hc3 (k173.below m2) trow_nil)⟩
                  · intro r W hc hf hs hd hB
                    have hBV := HBV.out W hB
                    refine want_n rfl ?_
                    obtain ⟨ah174, nh174, ch174, h174, hnh174, hlh174, hrh174⟩ : TQ.ok (.row [tSelf, tSelf]) (r (.tmp 174)) W := hd 174 (by kernel_rfl)
                    exact st_call (f := 48) (args := #[.int .u8 5, .slice ah174 nh174 ch174]) rfl (by decide) (by go_simp) (by rw [hnh174]; exact made_term (mof 5 [tSelf, tSelf] ah174 ch174 W (by simp) hrh174))
                  · intro r W hc hf hs hd hB
                    have hBV := HBV.out W hB
                    refine want_n rfl ?_
                    have h171 : TIn W (tNum 0) (r (.tmp 171)) := hd 171 (by kernel_rfl)
                    have h175 : TIn W (tOf 5 [tSelf, tSelf]) (r (.tmp 175)) := hd 175 (by kernel_rfl)
                    exact st_call (f := 51) (args := #[.int .i64 8, r (.tmp 171), r (.tmp 175)]) rfl (by decide) (by go_simp) (made_term (lsized_any 8 _ _ _ _ W h171 h175))
                  · intro r W hc hf hs hd hB
                    have hBV := HBV.out W hB
                    refine want_n rfl ?_
                    obtain ⟨A176, e176, k176⟩ : TIn W (tSized 8 (tNum 0) (tOf 5 [tSelf, tSelf])) (r (.tmp 176)) := hd 176 (by kernel_rfl)
                    exact st_value (v := PB.val ⟨tSized 8 (tNum 0) (tOf 5 [tSelf, tSelf]), A176, 0, 0⟩) rfl (by decide) (run_pb ⟨tSized 8 (tNum 0) (tOf 5 [tSelf, tSelf]), A176, 0, 0⟩ rfl e176 (hc _) (hc _)) ⟨A176, rfl, k176⟩
                  · intro r W hc hf hs hd hB
                    have hBV := HBV.out W hB
                    refine want_n rfl ?_
                    
                    exact st_call (f := 47) (args := #[.int .i64 0]) rfl (by decide) (by go_simp) (made_term (mnum 0 W))
                  · intro r W hc hf hs hd hB
                    have hBV := HBV.out W hB
                    refine want_n rfl ?_
                    
                    exact st_call (f := 50) (args := #[]) rfl (by decide) (by go_simp) (made_term (mself W))
                  · intro r W hc hf hs hd hB
                    have hBV := HBV.out W hB
                    refine want_n rfl ?_
                    
                    exact st_call (f := 50) (args := #[]) rfl (by decide) (by go_simp) (made_term (mself W))
                  · intro r W hc hf hs hd hB
                    have hBV := HBV.out W hB
                    refine want_n rfl ?_
                    
                    exact st_call (f := 50) (args := #[]) rfl (by decide) (by go_simp) (made_term (mself W))
                  · intro r W hc hf hs hd hB
                    have hBV := HBV.out W hB
                    refine want_n rfl ?_
                    have h179 : TIn W (tSelf) (r (.tmp 179)) := hd 179 (by kernel_rfl)
                    obtain ⟨A179, e179, k179⟩ := h179
                    have h180 : TIn W (tSelf) (r (.tmp 180)) := hd 180 (by kernel_rfl)
                    obtain ⟨A180, e180, k180⟩ := h180
                    have h181 : TIn W (tSelf) (r (.tmp 181)) := hd 181 (by kernel_rfl)
                    obtain ⟨A181, e181, k181⟩ := h181
                    obtain ⟨w2, hrun, hb, hlt, hc2⟩ := run_rowN (w := W) (r := r) (parts := #[(0, .tmp 179), (1, .tmp 180), (2, .tmp 181)]) [(tSelf, A179), (tSelf, A180), (tSelf, A181)] rfl (by simp) (by simp) (by simp only [List.map_toArray, List.map_cons, List.map_nil, e179, e180, e181]; rfl)
                    exact st_new (v := .slice (some ⟨W.heap.size, 0, none⟩) 3 3) rfl (by decide) (hrun _ rfl) hb ⟨_, _, _, rfl, rfl, by simp, trow_ofN hc2 (by intro p hp; simp only [List.mem_cons, List.not_mem_nil, or_false] at hp; rcases hp with rfl | rfl | rfl; exact k179.below hb; exact k180.below hb; exact k181.below hb)⟩
                  · intro r W hc hf hs hd hB
                    have hBV := HBV.out W hB
                    refine want_n rfl ?_
                    obtain ⟨ah182, nh182, ch182, h182, hnh182, hlh182, hrh182⟩ : TQ.ok (.row [tSelf, tSelf, tSelf]) (r (.tmp 182)) W := hd 182 (by kernel_rfl)
                    exact st_call (f := 48) (args := #[.int .u8 5, .slice ah182 nh182 ch182]) rfl (by decide) (by go_simp) (by rw [hnh182]; exact made_term (mof 5 [tSelf, tSelf, tSelf] ah182 ch182 W (by simp) hrh182))
                  · intro r W hc hf hs hd hB
                    have hBV := HBV.out W hB
                    refine want_n rfl ?_
                    have h178 : TIn W (tNum 0) (r (.tmp 178)) := hd 178 (by kernel_rfl)
                    have h183 : TIn W (tOf 5 [tSelf, tSelf, tSelf]) (r (.tmp 183)) := hd 183 (by kernel_rfl)
                    exact st_call (f := 51) (args := #[.int .i64 0, r (.tmp 178), r (.tmp 183)]) rfl (by decide) (by go_simp) (made_term (lsized_any 0 _ _ _ _ W h178 h183))
                  · intro r W hc hf hs hd hB
                    have hBV := HBV.out W hB
                    refine want_n rfl ?_
                    obtain ⟨A184, e184, k184⟩ : TIn W (tSized 0 (tNum 0) (tOf 5 [tSelf, tSelf, tSelf])) (r (.tmp 184)) := hd 184 (by kernel_rfl)
                    exact st_value (v := PB.val ⟨tSized 0 (tNum 0) (tOf 5 [tSelf, tSelf, tSelf]), A184, 0, 0⟩) rfl (by decide) (run_pb ⟨tSized 0 (tNum 0) (tOf 5 [tSelf, tSelf, tSelf]), A184, 0, 0⟩ rfl e184 (hc _) (hc _)) ⟨A184, rfl, k184⟩
                  · intro r W hc hf hs hd hB
                    have hBV := HBV.out W hB
                    refine want_n rfl ?_
                    have e : r (.tmp 12) = .pointer (some ⟨b12, 0, none⟩) := hs 12 (by kernel_rfl)
                    obtain ⟨A, hcl, hok⟩ := BoxT.below HD12.out hBV
                    exact st_value (v := TT.val (HI) A) rfl (by decide) (run_load15 hcl rfl e) ⟨A, rfl, hok⟩
                  · intro r W hc hf hs hd hB
                    have hBV := HBV.out W hB
                    refine want_n rfl ?_
                    
                    exact st_call (f := 49) (args := #[.int .i64 2, .int .i64 1]) rfl (by decide) (by go_simp) (made_term (mspan 2 1 W))
                  · intro r W hc hf hs hd hB
                    have hBV := HBV.out W hB
                    refine want_n rfl ?_
                    have h186 : TIn W (HI) (r (.tmp 186)) := hd 186 (by kernel_rfl)
                    obtain ⟨A186, e186, k186⟩ := h186
                    have h187 : TIn W (tSpan 2 1) (r (.tmp 187)) := hd 187 (by kernel_rfl)
                    obtain ⟨A187, e187, k187⟩ := h187
                    obtain ⟨w2, hw2, m2, s2, hc2, hc3⟩ := row2_new W (HI) (tSpan 2 1) A186 A187
                    exact st_new (v := .slice (some ⟨W.heap.size, 0, none⟩) 2 2) (w' := w2) rfl (by decide) (run_row2 rfl e186 e187 hw2) m2 ⟨_, _, _, rfl, rfl, by simp, trow_cons hc2 (k186.below m2) (trow_cons hc3 (k187.below m2) trow_nil)⟩
                  · intro r W hc hf hs hd hB
                    have hBV := HBV.out W hB
                    refine want_n rfl ?_
                    obtain ⟨ah188, nh188, ch188, h188, hnh188, hlh188, hrh188⟩ : TQ.ok (.row [HI, tSpan 2 1]) (r (.tmp 188)) W := hd 188 (by kernel_rfl)
                    exact st_call (f := 48) (args := #[.int .u8 5, .slice ah188 nh188 ch188]) rfl (by decide) (by go_simp) (by rw [hnh188]; exact made_term (mof 5 [HI, tSpan 2 1] ah188 ch188 W (by simp) hrh188))
                  · intro r W hc hf hs hd hB
                    have hBV := HBV.out W hB
                    refine want_n rfl ?_
                    obtain ⟨A189, e189, k189⟩ : TIn W (tOf 5 [HI, tSpan 2 1]) (r (.tmp 189)) := hd 189 (by kernel_rfl)
                    exact st_value (v := PB.val ⟨tOf 5 [HI, tSpan 2 1], A189, 2, 1⟩) rfl (by decide) (run_pb ⟨tOf 5 [HI, tSpan 2 1], A189, 2, 1⟩ rfl e189 (hc _) (hc _)) ⟨A189, rfl, k189⟩
                  · intro r W hc hf hs hd hB
                    have hBV := HBV.out W hB
                    refine want_n rfl ?_
                    obtain ⟨A102, e102, k102⟩ : PbOk (tSelf) 0 10 (r (.tmp 102)) W := hd 102 (by kernel_rfl)
                    obtain ⟨A104, e104, k104⟩ : PbOk (DP) 0 0 (r (.tmp 104)) W := hd 104 (by kernel_rfl)
                    obtain ⟨A108, e108, k108⟩ : PbOk (tOf 5 [DP]) 12 9 (r (.tmp 108)) W := hd 108 (by kernel_rfl)
                    obtain ⟨A115, e115, k115⟩ : PbOk (tSized 1 (tNum 0) (tOf 5 [tSelf, tNum 1])) 0 0 (r (.tmp 115)) W := hd 115 (by kernel_rfl)
                    obtain ⟨A119, e119, k119⟩ : PbOk (tSized 1 tSelf (tNum 1)) 1 10 (r (.tmp 119)) W := hd 119 (by kernel_rfl)
                    obtain ⟨A125, e125, k125⟩ : PbOk (tSized 1 (tNum 0) (tSized 1 tSelf tSelf)) 0 0 (r (.tmp 125)) W := hd 125 (by kernel_rfl)
                    obtain ⟨A131, e131, k131⟩ : PbOk (tOf 5 [tNum 1, tList 0 1 tSelf]) 3 10 (r (.tmp 131)) W := hd 131 (by kernel_rfl)
                    obtain ⟨A139, e139, k139⟩ : PbOk (tOf 5 [tNum 1, tOf 5 [tNum 2], tSpan 2 1]) 4 1 (r (.tmp 139)) W := hd 139 (by kernel_rfl)
                    obtain ⟨A141, e141, k141⟩ : PbOk (FU) 0 0 (r (.tmp 141)) W := hd 141 (by kernel_rfl)
                    obtain ⟨A143, e143, k143⟩ : PbOk (MO) 0 5 (r (.tmp 143)) W := hd 143 (by kernel_rfl)
                    obtain ⟨A148, e148, k148⟩ : PbOk (tList 16 16 (tList 16 16 (tList 16 16 (tNum 0)))) 0 5 (r (.tmp 148)) W := hd 148 (by kernel_rfl)
                    obtain ⟨A153, e153, k153⟩ : PbOk (tList 16 16 (tList 16 16 (tList 0 14 (tNum 0)))) 0 0 (r (.tmp 153)) W := hd 153 (by kernel_rfl)
                    obtain ⟨A155, e155, k155⟩ : PbOk (HI) 0 0 (r (.tmp 155)) W := hd 155 (by kernel_rfl)
                    obtain ⟨A159, e159, k159⟩ : PbOk (tOf 5 [HI]) 0 9 (r (.tmp 159)) W := hd 159 (by kernel_rfl)
                    obtain ⟨A162, e162, k162⟩ : PbOk (tList 0 0 HI) 0 0 (r (.tmp 162)) W := hd 162 (by kernel_rfl)
                    obtain ⟨A170, e170, k170⟩ : PbOk (tSized 8 (tNum 0) (tOf 5 [tSelf, tSelf, tSelf])) 0 5 (r (.tmp 170)) W := hd 170 (by kernel_rfl)
                    obtain ⟨A177, e177, k177⟩ : PbOk (tSized 8 (tNum 0) (tOf 5 [tSelf, tSelf])) 0 0 (r (.tmp 177)) W := hd 177 (by kernel_rfl)
                    obtain ⟨A185, e185, k185⟩ : PbOk (tSized 0 (tNum 0) (tOf 5 [tSelf, tSelf, tSelf])) 0 0 (r (.tmp 185)) W := hd 185 (by kernel_rfl)
                    obtain ⟨A190, e190, k190⟩ : PbOk (tOf 5 [HI, tSpan 2 1]) 2 1 (r (.tmp 190)) W := hd 190 (by kernel_rfl)
                    obtain ⟨w2, hrun, hb, hok⟩ := run_ptab (w := W) (r := r) (n := 19) (parts := #[(0, .tmp 102), (1, .tmp 104), (2, .tmp 108), (3, .tmp 115), (4, .tmp 119), (5, .tmp 125), (6, .tmp 131), (7, .tmp 139), (8, .tmp 141), (9, .tmp 143), (10, .tmp 148), (11, .tmp 153), (12, .tmp 155), (13, .tmp 159), (14, .tmp 162), (15, .tmp 170), (16, .tmp 177), (17, .tmp 185), (18, .tmp 190)]) (tableG DP FU MO HI) [A102, A104, A108, A115, A119, A125, A131, A139, A141, A143, A148, A153, A155, A159, A162, A170, A177, A185, A190] rfl rfl (by decide) (by decide) (by simp only [List.map_toArray, List.map_cons, List.map_nil, e102, e104, e108, e115, e119, e125, e131, e139, e141, e143, e148, e153, e155, e159, e162, e170, e177, e185, e190]; rfl) (by simp only [tableG, List.zip_cons_cons, List.zip_nil_right, List.forall_mem_cons]; exact ⟨k102, k104, k108, k115, k119, k125, k131, k139, k141, k143, k148, k153, k155, k159, k162, k170, k177, k185, k190, fun _ h => by cases h⟩)
                    exact st_new (v := .slice (some ⟨W.heap.size, 0, none⟩) 19 19) rfl (by decide) (hrun _ rfl) hb hok
                  · intro r W hc hf hs hd hB
                    have hBV := HBV.out W hB
                    refine want_n rfl ?_
                    obtain ⟨B, eB, -⟩ : PTabOk (tableG DP FU MO HI) (r (.tmp 191)) W := hd 191 (by kernel_rfl)
                    rw [tableG_length] at eB
                    exact st_value (v := .int .i64 19) rfl (by decide) (by go_simp) rfl
                  · intro r W hc hf hs hd hB
                    have hBV := HBV.out W hB
                    refine want_n rfl ?_
                    exact st_value (v := .int .i64 0) rfl (by decide) (by go_simp) rfl
                intro f w13 hfd hB'
                obtain ⟨BT, zt, htab⟩ : PTabOk (tableG DP FU MO HI) (f 191) w13 := hfd 191 (of_decide_eq_true (by kernel_rfl))
                have z191 : f 191 = .slice (some ⟨BT, 0, none⟩) 19 19 := zt
                have z192 : f 192 = .int .i64 19 := hfd 192 (of_decide_eq_true (by kernel_rfl))
                have z193 : f 193 = .int .i64 0 := hfd 193 (of_decide_eq_true (by kernel_rfl))
                have hbR := HBV.out w13 hB'
                rw [show dstsTo _ _ = [101, 102, 103, 104, 105, 106, 107, 108, 109, 110, 111, 112, 113, 114, 115, 116, 117, 118, 119, 120, 121, 122, 123, 124, 125, 126, 127, 128, 129, 130, 131, 132, 133, 134, 135, 136, 137, 138, 139, 140, 141, 142, 143, 144, 145, 146, 147, 148, 149, 150, 151, 152, 153, 154, 155, 156, 157, 158, 159, 160, 161, 162, 163, 164, 165, 166, 167, 168, 169, 170, 171, 172, 173, 174, 175, 176, 177, 178, 179, 180, 181, 182, 183, 184, 185, 186, 187, 188, 189, 190, 191, 192, 193] from by kernel_rfl]
                simp only [fill, List.setIfInBounds_toArray, List.set_cons_succ, List.set_cons_zero, z191, z192, z193]
                clear hfd hB' HBV z191 z192 z193 zt
                obtain ⟨ts, hts⟩ : ∃ ts, ts = tableG DP FU MO HI := ⟨_, rfl⟩
                rw [← hts] at htab HTF
                have hlts : ts.length = 19 := by rw [hts]; rfl
                have HTAB := Lib.hid htab
                replace HD3 := Lib.hid (BoxT.below HD3.out hbR); replace HD8 := Lib.hid (BoxT.below HD8.out hbR); replace HD12 := Lib.hid (BoxT.below HD12.out hbR)
                replace hB := hB.trans (hbR.mono hB.size)
                clear htab hts hbR HD9
                go_wp2_with fail
                go_loopw [193] (fun x wr => ∃ i : Nat, x = .int .i64 i ∧ i ≤ 19 ∧ Below w13.heap.size w13 wr) (fun x _ => 19 - (intOf x).toNat)
                case atStart => exact ⟨0, rfl, by omega, Below.refl _ _⟩
                case round =>
                  obtain ⟨i, rfl, hi, hbr⟩ := hrel
                  by_cases hlt : i < 19
                  · as_aux_lemma =>
                    have d1 : decide ((i : Int) < 19) = true := decide_eq_true (by omega)
                    have d2 : decide (i < 19) = true := decide_eq_true hlt
                    obtain ⟨A, hrg, hok⟩ := HTAB.out i (by omega)
                    obtain ⟨hchk, hlean, hcnt⟩ := HTF.out i (by omega)
                    obtain ⟨t, ht⟩ : ∃ t, t = (ts[i]'(by omega)).1 := ⟨_, rfl⟩
                    obtain ⟨pl, hpl⟩ : ∃ z, z = (ts[i]'(by omega)).2.1 := ⟨_, rfl⟩
                    obtain ⟨er, her⟩ : ∃ z, z = (ts[i]'(by omega)).2.2 := ⟨_, rfl⟩
                    rw [← ht, ← hpl, ← her] at hrg
                    rw [← ht] at hok hlean hcnt
                    rw [← ht, ← hpl, ← her] at hchk
                    have HRG : Hid (wr.rangeAt BT (i * 17) (PB.cells ⟨t, A, pl, er⟩).toList) := Lib.hid (range_below hbr hrg)
                    have HOK := Lib.hid (hok.below hbr); have HCK := Lib.hid hchk; have HLC := Lib.hid (And.intro hcnt hlean)
                    clear hrg hok hchk hlean hcnt ht hpl her hlts
                    go_wp2_with (first | refine wpList_loadM (cells := PB.cells ⟨t, A, pl, er⟩) (by rfl) (by rfl) (by rfl) HRG.out Try.underlying69 rfl (by rw [PB.cells_size]; kernel_rfl) ?_ | refine wpList_boxM (k := 17) (cells := PB.cells ⟨t, A, pl, er⟩) (by rfl) (by rfl) (by rfl) (by rfl) (by rfl) (by rfl) (by rfl) (by rfl) (by kernel_rfl) (by kernel_rfl) (PB.cells_size _) (PB.cells_one _) ?_)
                    intro wE hrE hbE _ _
                    obtain ⟨hxc, c15, c16⟩ := PB.at hrE
                    simp only [Nat.zero_add] at c15 c16
                    have HXC := Lib.hid hxc
                    have HTI : Hid (TIn wE t (TT.val t A)) := Lib.hid ⟨A, rfl, HOK.out.below hbE⟩
                    have hb7 := hbr.trans (hbE.mono hbr.size)
                    clear hrE hxc hbE HRG HOK hbr
                    go_wp2_with (refine wpList_load15 (by rfl) (by rfl) (by rfl) HXC.out ?_)
                    refine (tcheck_any t _ _ HLC.out.1 HLC.out.2 HTI.out).mono ?_
                    rintro e w8 ⟨rfl, hb8⟩
                    rw [HCK.out]
                    dsimp only
                    replace c15 := cell_stays hb8 c15
                    replace c16 := cell_stays hb8 c16
                    replace hb7 := hb7.trans (hb8.mono hb7.size)
                    clear hb8
                    go_wp2_with fail
                    go_roundw
                    case rel => exact ⟨i + 1, by go_num, by omega, hb7⟩
                    case measure => simp [intOf]; omega
                  · as_aux_lemma =>
                    have hie : i = 19 := by omega
                    subst hie
                    have d1 : decide ((19 : Int) < 19) = false := by decide
                    have d2 : decide (19 < 19) = false := by decide
                    replace HD3 := Lib.hid (BoxT.below HD3.out hbr); replace HD8 := Lib.hid (BoxT.below HD8.out hbr); replace HD12 := Lib.hid (BoxT.below HD12.out hbr)
                    replace hB := hB.trans (hbr.mono hB.size)
                    clear hbr HTAB HTF hlts hi hlt
                    go_wp2_with fail
                    refine (mnum 0 _).mono ?_
                    rintro e w14 ⟨x1, rfl, ⟨A1, rfl, k1⟩, hb⟩
                    replace HD3 := Lib.hid (BoxT.below HD3.out hb); replace HD8 := Lib.hid (BoxT.below HD8.out hb); replace HD12 := Lib.hid (BoxT.below HD12.out hb)
                    replace hB := hB.trans (hb.mono hB.size)
                    have K1 := Lib.hid k1
                    clear hb d1 d2 k1
                    go_wp2_with fail
                    refine (mself _).mono ?_
                    rintro e w15 ⟨x2, rfl, ⟨A2, rfl, k2⟩, hb⟩
                    replace HD3 := Lib.hid (BoxT.below HD3.out hb); replace HD8 := Lib.hid (BoxT.below HD8.out hb); replace HD12 := Lib.hid (BoxT.below HD12.out hb)
                    replace hB := hB.trans (hb.mono hB.size); replace K1 := Lib.hid (K1.out.below hb)
                    have K2 := Lib.hid k2
                    clear hb k2
                    go_wp2_with fail
                    refine (mself _).mono ?_
                    rintro e w16 ⟨x3, rfl, ⟨A3, rfl, k3⟩, hb⟩
                    replace HD3 := Lib.hid (BoxT.below HD3.out hb); replace HD8 := Lib.hid (BoxT.below HD8.out hb); replace HD12 := Lib.hid (BoxT.below HD12.out hb)
                    replace hB := hB.trans (hb.mono hB.size); replace K1 := Lib.hid (K1.out.below hb); replace K2 := Lib.hid (K2.out.below hb)
                    have K3 := Lib.hid k3
                    clear hb k3
                    go_wp2_with (first | refine wpList_row2 (s := tSelf) (t := tSelf) (A := A2) (B := A3) (by rfl) (by rfl) (by rfl) (by rfl) K2.out K3.out ?_)
                    intro w17 hrow hb
                    replace HD3 := Lib.hid (BoxT.below HD3.out hb); replace HD8 := Lib.hid (BoxT.below HD8.out hb); replace HD12 := Lib.hid (BoxT.below HD12.out hb)
                    replace hB := hB.trans (hb.mono hB.size); replace K1 := Lib.hid (K1.out.below hb)
                    have HROW := Lib.hid hrow
                    clear hb hrow K2 K3
                    go_wp2_with fail
                    refine (mof 5 [tSelf, tSelf] _ 2 w17 (by simp) HROW.out).mono ?_
                    rintro e w18 ⟨x4, rfl, ⟨A4, rfl, k4⟩, hb⟩
                    replace HD3 := Lib.hid (BoxT.below HD3.out hb); replace HD8 := Lib.hid (BoxT.below HD8.out hb); replace HD12 := Lib.hid (BoxT.below HD12.out hb)
                    replace hB := hB.trans (hb.mono hB.size); replace K1 := Lib.hid (K1.out.below hb)
                    have K4 := Lib.hid k4
                    clear hb k4 HROW
                    go_wp2_with fail
                    refine (lsized_any 8 (tNum 0) (tOf 5 [tSelf, tSelf]) _ _ w18 ⟨A1, rfl, K1.out⟩ ⟨A4, rfl, K4.out⟩).mono ?_
                    rintro e w19 ⟨x5, rfl, ⟨A5, rfl, k5⟩, hb⟩
                    rw [show tSized 8 (tNum 0) (tOf 5 [tSelf, tSelf]) = xT from rfl] at k5 ⊢
                    replace HD3 := Lib.hid (BoxT.below HD3.out hb); replace HD8 := Lib.hid (BoxT.below HD8.out hb); replace HD12 := Lib.hid (BoxT.below HD12.out hb)
                    replace hB := hB.trans (hb.mono hB.size)
                    clear hb K1 K4
                    go_wp2_with (refine wpList_box15 (t := xT) (A := A5) (by rfl) (by rfl) (by rfl) (by rfl) (by rfl) (by rfl) (by rfl) (by rfl) ?_)
                    intro w20 hc20 hb _ _
                    obtain ⟨b17, hb17⟩ : ∃ b, b = w19.heap.size := ⟨_, rfl⟩
                    rw [← hb17] at hc20 ⊢
                    have HD17 : Hid (BoxT w20 b17 xT) := Lib.hid ⟨A5, hc20, k5.below hb⟩
                    replace HD3 := Lib.hid (BoxT.below HD3.out hb); replace HD8 := Lib.hid (BoxT.below HD8.out hb); replace HD12 := Lib.hid (BoxT.below HD12.out hb)
                    replace hB := hB.trans (hb.mono hB.size)
                    clear hc20 hb hb17 k5
                    go_upto_region 36 with fail
                    have HBV := Lib.hid (fun W (h : Below w20.heap.size w20 W) => h)
                    try simp only [List.append_eq, List.cons_append, List.nil_append]
                    refine wp_region_allS (kindT [(220, .term (xT)), (221, .fixed (.int .i64 1022)), (222, .fixed (.bool true)), (223, .fixed (.bool true)), (224, .term (xT)), (225, .fixed (.int .i64 9)), (226, .fixed (.bool true)), (227, .fixed (.bool true)), (228, .fixed (.bool true)), (229, .term (FU)), (230, .fixed (.int .i64 512)), (231, .fixed (.bool true)), (232, .fixed (.bool true)), (233, .fixed (.bool true)), (234, .term (tNum 0)), (235, .term (tSelf)), (236, .term (tSelf)), (237, .term (tSelf)), (238, .row [tSelf, tSelf, tSelf]), (239, .term (tOf 5 [tSelf, tSelf, tSelf])), (240, .term (yT)), (241, .fixed (.int .i64 4097)), (242, .fixed (.bool true)), (243, .fixed (.bool true)), (244, .fixed (.bool true)), (245, .term (tNum 0)), (246, .term (tSelf)), (247, .term (tSelf)), (248, .term (tSelf)), (249, .row [tSelf, tSelf, tSelf]), (250, .term (tOf 5 [tSelf, tSelf, tSelf])), (251, .term (yT)), (252, .fixed (.int .i64 0)), (253, .fixed (.bool true)), (254, .fixed (.bool true)), (255, .fixed (.bool true)), (256, .term (tSelf)), (257, .fixed (.int .i64 0)), (258, .fixed (.bool true)), (259, .fixed (.bool true)), (260, .fixed (.bool true)), (261, .term (tSelf)), (262, .row [tSelf]), (263, .term (tOf 5 [tSelf])), (264, .fixed (.int .i64 0)), (265, .fixed (.bool true)), (266, .fixed (.bool true)), (267, .fixed (.bool true)), (268, .term (tNum 1)), (269, .term (tList 0 0 (tNum 1))), (270, .fixed (.int .i64 2)), (271, .fixed (.bool true)), (272, .fixed (.bool true)), (273, .fixed (.bool true)), (274, .term (HI)), (275, .term (tList 0 0 HI)), (276, .fixed (.int .i64 1)), (277, .fixed (.bool true)), (278, .fixed (.bool true)), (279, .fixed (.bool true)), (280, .term (HI)), (281, .row [HI]), (282, .term (tOf 5 [HI])), (283, .fixed (.bool false)), (284, .fixed (.bool true)), (285, .fixed (.bool true)), (286, .fixed (.bool true)), (287, .term (DP)), (288, .row [DP]), (289, .term (tOf 5 [DP])), (290, .row [tOf 5 [DP]]), (291, .term (tOf 5 [tOf 5 [DP]])), (292, .fixed (.bool true)), (293, .fixed (.bool true)), (0, .fixed (.bool true))]) 294 (by kernel_rfl) (by rfl) (kindT_mono _) ?_ ?_
                    · as_aux_lemma =>
                      show ∀ o ∈ [(0, _), (1, _), (2, _), (3, _), (4, _), (5, _), (6, _), (7, _), (8, _), (9, _), (10, _), (11, _), (12, _), (13, _), (14, _), (15, _), (16, _), (17, _), (18, _), (19, _), (20, _), (21, _), (22, _), (23, _), (24, _), (25, _), (26, _), (27, _), (28, _), (29, _), (30, _), (31, _), (32, _), (33, _), (34, _), (35, _), (36, _), (37, _), (38, _), (39, _), (40, _), (41, _), (42, _), (43, _), (44, _), (45, _), (46, _), (47, _), (48, _), (49, _), (50, _), (51, _), (52, _), (53, _), (54, _), (55, _), (56, _), (57, _), (58, _), (59, _), (60, _), (61, _), (62, _), (63, _), (64, _), (65, _), (66, _), (67, _), (68, _), (69, _), (70, _), (71, _), (72, _), (73, _), (74, _)], _
                      refine (tfm ?_ (tfm ?_ (tfm ?_ (tfm ?_ (tfm ?_ (tfm ?_ (tfm ?_ (tfm ?_ (tfm ?_ (tfm ?_ (tfm ?_ (tfm ?_ (tfm ?_ (tfm ?_ (tfm ?_ (tfm ?_ (tfm ?_ (tfm ?_ (tfm ?_ (tfm ?_ (tfm ?_ (tfm ?_ (tfm ?_ (tfm ?_ (tfm ?_ (tfm ?_ (tfm ?_ (tfm ?_ (tfm ?_ (tfm ?_ (tfm ?_ (tfm ?_ (tfm ?_ (tfm ?_ (tfm ?_ (tfm ?_ (tfm ?_ (tfm ?_ (tfm ?_ (tfm ?_ (tfm ?_ (tfm ?_ (tfm ?_ (tfm ?_ (tfm ?_ (tfm ?_ (tfm ?_ (tfm ?_ (tfm ?_ (tfm ?_ (tfm ?_ (tfm ?_ (tfm ?_ (tfm ?_ (tfm ?_ (tfm ?_ (tfm ?_ (tfm ?_ (tfm ?_ (tfm ?_ (tfm ?_ (tfm ?_ (tfm ?_ (tfm ?_ (tfm ?_ (tfm ?_ (tfm ?_ (tfm ?_ (tfm ?_ (tfm ?_ (tfm ?_ (tfm ?_ (tfm ?_ (tfm ?_ (tfm ?_ tfmnil)))))))))))))))))))))))))))))))))))))))))))))))))))))))))))))))))))))))))))
                      · intro r W hc hf hs hd hB
                        have hBV := HBV.out W hB
                        refine want_n rfl ?_
                        have e : r (.tmp 17) = .pointer (some ⟨b17, 0, none⟩) := hs 17 (by kernel_rfl)
                        obtain ⟨A, hcl, hok⟩ := BoxT.below HD17.out hBV
                        exact st_value (v := TT.val (xT) A) rfl (by decide) (run_load15 hcl rfl e) ⟨A, rfl, hok⟩
                      · intro r W hc hf hs hd hB
                        have hBV := HBV.out W hB
                        refine want_n rfl ?_
                        have h220 : TIn W (xT) (r (.tmp 220)) := hd 220 (by kernel_rfl)
                        exact st_call (f := 36) (args := #[r (.tmp 220)]) rfl (by decide) (by go_simp) (made_fix (by rw [HNG.out.x1]; rfl) (tbulk_any _ _ W HNG.out.lx.2 HNG.out.lx.1 h220))
                      · intro r W hc hf hs hd hB
                        have hBV := HBV.out W hB
                        refine want_n rfl ?_
                        have e221 : r (.tmp 221) = .int .i64 1022 := hd 221 (by kernel_rfl)
                        exact st_value (v := .bool true) rfl (by decide) (by go_simp) rfl
                      · intro r W hc hf hs hd hB
                        have hBV := HBV.out W hB
                        refine want_n rfl ?_
                        have e : r (.tmp 222) = .bool true := hd 222 (by kernel_rfl)
                        exact st_value (v := .bool true) rfl (by decide) (by go_simp) rfl
                      · intro r W hc hf hs hd hB
                        have hBV := HBV.out W hB
                        refine want_g 3 223 rfl (by kernel_rfl) (hd 223 (by kernel_rfl) : r (.tmp 223) = .bool true) ?_
                        have e : r (.tmp 17) = .pointer (some ⟨b17, 0, none⟩) := hs 17 (by kernel_rfl)
                        obtain ⟨A, hcl, hok⟩ := BoxT.below HD17.out hBV
                        exact st_value (v := TT.val (xT) A) rfl (by decide) (run_load15 hcl rfl e) ⟨A, rfl, hok⟩
                      · intro r W hc hf hs hd hB
                        have hBV := HBV.out W hB
                        refine want_g 3 223 rfl (by kernel_rfl) (hd 223 (by kernel_rfl) : r (.tmp 223) = .bool true) ?_
                        have h224 : TIn W (xT) (r (.tmp 224)) := hd 224 (by kernel_rfl)
                        exact st_call (f := 37) (args := #[r (.tmp 224)]) rfl (by decide) (by go_simp) (made_fix (by rw [HNG.out.x2]; rfl) (thigh_any _ _ W HNG.out.lx.2 HNG.out.lx.1 h224))
                      · intro r W hc hf hs hd hB
                        have hBV := HBV.out W hB
                        refine want_g 3 223 rfl (by kernel_rfl) (hd 223 (by kernel_rfl) : r (.tmp 223) = .bool true) ?_
                        have e225 : r (.tmp 225) = .int .i64 9 := hd 225 (by kernel_rfl)
                        exact st_value (v := .bool true) rfl (by decide) (by go_simp) rfl
                      · intro r W hc hf hs hd hB
                        have hBV := HBV.out W hB
                        refine want_n rfl ?_
                        have e223 : r (.tmp 223) = .bool true := hd 223 (by kernel_rfl)
                        have e226 : r (.tmp 226) = .bool true := hd 226 (by kernel_rfl)
                        exact st_value (v := .bool true) rfl (by decide) (by go_simp) rfl
                      · intro r W hc hf hs hd hB
                        have hBV := HBV.out W hB
                        refine want_n rfl ?_
                        have e : r (.tmp 227) = .bool true := hd 227 (by kernel_rfl)
                        exact st_value (v := .bool true) rfl (by decide) (by go_simp) rfl
                      · intro r W hc hf hs hd hB
                        have hBV := HBV.out W hB
                        refine want_g 8 228 rfl (by kernel_rfl) (hd 228 (by kernel_rfl) : r (.tmp 228) = .bool true) ?_
                        have e : r (.tmp 8) = .pointer (some ⟨b8, 0, none⟩) := hs 8 (by kernel_rfl)
                        obtain ⟨A, hcl, hok⟩ := BoxT.below HD8.out hBV
                        exact st_value (v := TT.val (FU) A) rfl (by decide) (run_load15 hcl rfl e) ⟨A, rfl, hok⟩
                      · intro r W hc hf hs hd hB
                        have hBV := HBV.out W hB
                        refine want_g 8 228 rfl (by kernel_rfl) (hd 228 (by kernel_rfl) : r (.tmp 228) = .bool true) ?_
                        have h229 : TIn W (FU) (r (.tmp 229)) := hd 229 (by kernel_rfl)
                        exact st_call (f := 54) (args := #[r (.tmp 229)]) rfl (by decide) (by go_simp) (made_fix (by rw [HNG.out.f1]; rfl) (tnodes_any 3000000 (by decide) _ _ W HNG.out.lf.2 HNG.out.lf.1 h229))
                      · intro r W hc hf hs hd hB
                        have hBV := HBV.out W hB
                        refine want_g 8 228 rfl (by kernel_rfl) (hd 228 (by kernel_rfl) : r (.tmp 228) = .bool true) ?_
                        have e230 : r (.tmp 230) = .int .i64 512 := hd 230 (by kernel_rfl)
                        exact st_value (v := .bool true) rfl (by decide) (by go_simp) rfl
                      · intro r W hc hf hs hd hB
                        have hBV := HBV.out W hB
                        refine want_n rfl ?_
                        have e228 : r (.tmp 228) = .bool true := hd 228 (by kernel_rfl)
                        have e231 : r (.tmp 231) = .bool true := hd 231 (by kernel_rfl)
                        exact st_value (v := .bool true) rfl (by decide) (by go_simp) rfl
                      · intro r W hc hf hs hd hB
                        have hBV := HBV.out W hB
                        refine want_n rfl ?_
                        have e : r (.tmp 232) = .bool true := hd 232 (by kernel_rfl)
                        exact st_value (v := .bool true) rfl (by decide) (by go_simp) rfl
                      · intro r W hc hf hs hd hB
                        have hBV := HBV.out W hB
                        refine want_g 13 233 rfl (by kernel_rfl) (hd 233 (by kernel_rfl) : r (.tmp 233) = .bool true) ?_
                        
                        exact st_call (f := 47) (args := #[.int .i64 0]) rfl (by decide) (by go_simp) (made_term (mnum 0 W))
                      · intro r W hc hf hs hd hB
                        have hBV := HBV.out W hB
                        refine want_g 13 233 rfl (by kernel_rfl) (hd 233 (by kernel_rfl) : r (.tmp 233) = .bool true) ?_
                        
                        exact st_call (f := 50) (args := #[]) rfl (by decide) (by go_simp) (made_term (mself W))
                      · intro r W hc hf hs hd hB
                        have hBV := HBV.out W hB
                        refine want_g 13 233 rfl (by kernel_rfl) (hd 233 (by kernel_rfl) : r (.tmp 233) = .bool true) ?_
                        
                        exact st_call (f := 50) (args := #[]) rfl (by decide) (by go_simp) (made_term (mself W))
                      · intro r W hc hf hs hd hB
                        have hBV := HBV.out W hB
                        refine want_g 13 233 rfl (by kernel_rfl) (hd 233 (by kernel_rfl) : r (.tmp 233) = .bool true) ?_
                        
                        exact st_call (f := 50) (args := #[]) rfl (by decide) (by go_simp) (made_term (mself W))
                      · intro r W hc hf hs hd hB
                        have hBV := HBV.out W hB
                        refine want_g 13 233 rfl (by kernel_rfl) (hd 233 (by kernel_rfl) : r (.tmp 233) = .bool true) ?_
                        have h235 : TIn W (tSelf) (r (.tmp 235)) := hd 235 (by kernel_rfl)
                        obtain ⟨A235, e235, k235⟩ := h235
                        have h236 : TIn W (tSelf) (r (.tmp 236)) := hd 236 (by kernel_rfl)
                        obtain ⟨A236, e236, k236⟩ := h236
                        have h237 : TIn W (tSelf) (r (.tmp 237)) := hd 237 (by kernel_rfl)
                        obtain ⟨A237, e237, k237⟩ := h237
                        obtain ⟨w2, hrun, hb, hlt, hc2⟩ := run_rowN (w := W) (r := r) (parts := #[(0, .tmp 235), (1, .tmp 236), (2, .tmp 237)]) [(tSelf, A235), (tSelf, A236), (tSelf, A237)] rfl (by simp) (by simp) (by simp only [List.map_toArray, List.map_cons, List.map_nil, e235, e236, e237]; rfl)
                        exact st_new (v := .slice (some ⟨W.heap.size, 0, none⟩) 3 3) rfl (by decide) (hrun _ rfl) hb ⟨_, _, _, rfl, rfl, by simp, trow_ofN hc2 (by intro p hp; simp only [List.mem_cons, List.not_mem_nil, or_false] at hp; rcases hp with rfl | rfl | rfl; exact k235.below hb; exact k236.below hb; exact k237.below hb)⟩
                      · intro r W hc hf hs hd hB
                        have hBV := HBV.out W hB
                        refine want_g 13 233 rfl (by kernel_rfl) (hd 233 (by kernel_rfl) : r (.tmp 233) = .bool true) ?_
                        obtain ⟨ah238, nh238, ch238, h238, hnh238, hlh238, hrh238⟩ : TQ.ok (.row [tSelf, tSelf, tSelf]) (r (.tmp 238)) W := hd 238 (by kernel_rfl)
                        exact st_call (f := 48) (args := #[.int .u8 5, .slice ah238 nh238 ch238]) rfl (by decide) (by go_simp) (by rw [hnh238]; exact made_term (mof 5 [tSelf, tSelf, tSelf] ah238 ch238 W (by simp) hrh238))
                      · intro r W hc hf hs hd hB
                        have hBV := HBV.out W hB
                        refine want_g 13 233 rfl (by kernel_rfl) (hd 233 (by kernel_rfl) : r (.tmp 233) = .bool true) ?_
                        have h234 : TIn W (tNum 0) (r (.tmp 234)) := hd 234 (by kernel_rfl)
                        have h239 : TIn W (tOf 5 [tSelf, tSelf, tSelf]) (r (.tmp 239)) := hd 239 (by kernel_rfl)
                        exact st_call (f := 51) (args := #[.int .i64 8, r (.tmp 234), r (.tmp 239)]) rfl (by decide) (by go_simp) (made_term (lsized_any 8 _ _ _ _ W h234 h239))
                      · intro r W hc hf hs hd hB
                        have hBV := HBV.out W hB
                        refine want_g 13 233 rfl (by kernel_rfl) (hd 233 (by kernel_rfl) : r (.tmp 233) = .bool true) ?_
                        have h240 : TIn W (yT) (r (.tmp 240)) := hd 240 (by kernel_rfl)
                        exact st_call (f := 36) (args := #[r (.tmp 240)]) rfl (by decide) (by go_simp) (made_fix (by rw [HNG.out.y1]; rfl) (tbulk_any _ _ W HNG.out.ly.2 HNG.out.ly.1 h240))
                      · intro r W hc hf hs hd hB
                        have hBV := HBV.out W hB
                        refine want_g 13 233 rfl (by kernel_rfl) (hd 233 (by kernel_rfl) : r (.tmp 233) = .bool true) ?_
                        have e241 : r (.tmp 241) = .int .i64 4097 := hd 241 (by kernel_rfl)
                        exact st_value (v := .bool true) rfl (by decide) (by go_simp) rfl
                      · intro r W hc hf hs hd hB
                        have hBV := HBV.out W hB
                        refine want_n rfl ?_
                        have e233 : r (.tmp 233) = .bool true := hd 233 (by kernel_rfl)
                        have e242 : r (.tmp 242) = .bool true := hd 242 (by kernel_rfl)
                        exact st_value (v := .bool true) rfl (by decide) (by go_simp) rfl
                      · intro r W hc hf hs hd hB
                        have hBV := HBV.out W hB
                        refine want_n rfl ?_
                        have e : r (.tmp 243) = .bool true := hd 243 (by kernel_rfl)
                        exact st_value (v := .bool true) rfl (by decide) (by go_simp) rfl
                      · intro r W hc hf hs hd hB
                        have hBV := HBV.out W hB
                        refine want_g 24 244 rfl (by kernel_rfl) (hd 244 (by kernel_rfl) : r (.tmp 244) = .bool true) ?_
                        
                        exact st_call (f := 47) (args := #[.int .i64 0]) rfl (by decide) (by go_simp) (made_term (mnum 0 W))
                      · intro r W hc hf hs hd hB
                        have hBV := HBV.out W hB
                        refine want_g 24 244 rfl (by kernel_rfl) (hd 244 (by kernel_rfl) : r (.tmp 244) = .bool true) ?_
                        
                        exact st_call (f := 50) (args := #[]) rfl (by decide) (by go_simp) (made_term (mself W))
                      · intro r W hc hf hs hd hB
                        have hBV := HBV.out W hB
                        refine want_g 24 244 rfl (by kernel_rfl) (hd 244 (by kernel_rfl) : r (.tmp 244) = .bool true) ?_
                        
                        exact st_call (f := 50) (args := #[]) rfl (by decide) (by go_simp) (made_term (mself W))
                      · intro r W hc hf hs hd hB
                        have hBV := HBV.out W hB
                        refine want_g 24 244 rfl (by kernel_rfl) (hd 244 (by kernel_rfl) : r (.tmp 244) = .bool true) ?_
                        
                        exact st_call (f := 50) (args := #[]) rfl (by decide) (by go_simp) (made_term (mself W))
                      · intro r W hc hf hs hd hB
                        have hBV := HBV.out W hB
                        refine want_g 24 244 rfl (by kernel_rfl) (hd 244 (by kernel_rfl) : r (.tmp 244) = .bool true) ?_
                        have h246 : TIn W (tSelf) (r (.tmp 246)) := hd 246 (by kernel_rfl)
                        obtain ⟨A246, e246, k246⟩ := h246
                        have h247 : TIn W (tSelf) (r (.tmp 247)) := hd 247 (by kernel_rfl)
                        obtain ⟨A247, e247, k247⟩ := h247
                        have h248 : TIn W (tSelf) (r (.tmp 248)) := hd 248 (by kernel_rfl)
                        obtain ⟨A248, e248, k248⟩ := h248
                        obtain ⟨w2, hrun, hb, hlt, hc2⟩ := run_rowN (w := W) (r := r) (parts := #[(0, .tmp 246), (1, .tmp 247), (2, .tmp 248)]) [(tSelf, A246), (tSelf, A247), (tSelf, A248)] rfl (by simp) (by simp) (by simp only [List.map_toArray, List.map_cons, List.map_nil, e246, e247, e248]; rfl)
                        exact st_new (v := .slice (some ⟨W.heap.size, 0, none⟩) 3 3) rfl (by decide) (hrun _ rfl) hb ⟨_, _, _, rfl, rfl, by simp, trow_ofN hc2 (by intro p hp; simp only [List.mem_cons, List.not_mem_nil, or_false] at hp; rcases hp with rfl | rfl | rfl; exact k246.below hb; exact k247.below hb; exact k248.below hb)⟩
                      · intro r W hc hf hs hd hB
                        have hBV := HBV.out W hB
                        refine want_g 24 244 rfl (by kernel_rfl) (hd 244 (by kernel_rfl) : r (.tmp 244) = .bool true) ?_
                        obtain ⟨ah249, nh249, ch249, h249, hnh249, hlh249, hrh249⟩ : TQ.ok (.row [tSelf, tSelf, tSelf]) (r (.tmp 249)) W := hd 249 (by kernel_rfl)
                        exact st_call (f := 48) (args := #[.int .u8 5, .slice ah249 nh249 ch249]) rfl (by decide) (by go_simp) (by rw [hnh249]; exact made_term (mof 5 [tSelf, tSelf, tSelf] ah249 ch249 W (by simp) hrh249))
                      · intro r W hc hf hs hd hB
                        have hBV := HBV.out W hB
                        refine want_g 24 244 rfl (by kernel_rfl) (hd 244 (by kernel_rfl) : r (.tmp 244) = .bool true) ?_
                        have h245 : TIn W (tNum 0) (r (.tmp 245)) := hd 245 (by kernel_rfl)
                        have h250 : TIn W (tOf 5 [tSelf, tSelf, tSelf]) (r (.tmp 250)) := hd 250 (by kernel_rfl)
                        exact st_call (f := 51) (args := #[.int .i64 8, r (.tmp 245), r (.tmp 250)]) rfl (by decide) (by go_simp) (made_term (lsized_any 8 _ _ _ _ W h245 h250))
                      · intro r W hc hf hs hd hB
                        have hBV := HBV.out W hB
                        refine want_g 24 244 rfl (by kernel_rfl) (hd 244 (by kernel_rfl) : r (.tmp 244) = .bool true) ?_
                        have h251 : TIn W (yT) (r (.tmp 251)) := hd 251 (by kernel_rfl)
                        exact st_call (f := 37) (args := #[r (.tmp 251)]) rfl (by decide) (by go_simp) (made_fix (by rw [HNG.out.y2]; rfl) (thigh_any _ _ W HNG.out.ly.2 HNG.out.ly.1 h251))
                      · intro r W hc hf hs hd hB
                        have hBV := HBV.out W hB
                        refine want_g 24 244 rfl (by kernel_rfl) (hd 244 (by kernel_rfl) : r (.tmp 244) = .bool true) ?_
                        have e252 : r (.tmp 252) = .int .i64 0 := hd 252 (by kernel_rfl)
                        exact st_value (v := .bool true) rfl (by decide) (by go_simp) rfl
                      · intro r W hc hf hs hd hB
                        have hBV := HBV.out W hB
                        refine want_n rfl ?_
                        have e244 : r (.tmp 244) = .bool true := hd 244 (by kernel_rfl)
                        have e253 : r (.tmp 253) = .bool true := hd 253 (by kernel_rfl)
                        exact st_value (v := .bool true) rfl (by decide) (by go_simp) rfl
                      · intro r W hc hf hs hd hB
                        have hBV := HBV.out W hB
                        refine want_n rfl ?_
                        have e : r (.tmp 254) = .bool true := hd 254 (by kernel_rfl)
                        exact st_value (v := .bool true) rfl (by decide) (by go_simp) rfl
                      · intro r W hc hf hs hd hB
                        have hBV := HBV.out W hB
                        refine want_g 35 255 rfl (by kernel_rfl) (hd 255 (by kernel_rfl) : r (.tmp 255) = .bool true) ?_
                        
                        exact st_call (f := 50) (args := #[]) rfl (by decide) (by go_simp) (made_term (mself W))
                      · intro r W hc hf hs hd hB
                        have hBV := HBV.out W hB
                        refine want_g 35 255 rfl (by kernel_rfl) (hd 255 (by kernel_rfl) : r (.tmp 255) = .bool true) ?_
                        have h256 : TIn W (tSelf) (r (.tmp 256)) := hd 256 (by kernel_rfl)
                        exact st_call (f := 36) (args := #[r (.tmp 256)]) rfl (by decide) (by go_simp) (made_fix (by rw [HNG.out.s1]; rfl) (tbulk_any _ _ W HNG.out.ls.2 HNG.out.ls.1 h256))
                      · intro r W hc hf hs hd hB
                        have hBV := HBV.out W hB
                        refine want_g 35 255 rfl (by kernel_rfl) (hd 255 (by kernel_rfl) : r (.tmp 255) = .bool true) ?_
                        have e257 : r (.tmp 257) = .int .i64 0 := hd 257 (by kernel_rfl)
                        exact st_value (v := .bool true) rfl (by decide) (by go_simp) rfl
                      · intro r W hc hf hs hd hB
                        have hBV := HBV.out W hB
                        refine want_n rfl ?_
                        have e255 : r (.tmp 255) = .bool true := hd 255 (by kernel_rfl)
                        have e258 : r (.tmp 258) = .bool true := hd 258 (by kernel_rfl)
                        exact st_value (v := .bool true) rfl (by decide) (by go_simp) rfl
                      · intro r W hc hf hs hd hB
                        have hBV := HBV.out W hB
                        refine want_n rfl ?_
                        have e : r (.tmp 259) = .bool true := hd 259 (by kernel_rfl)
                        exact st_value (v := .bool true) rfl (by decide) (by go_simp) rfl
                      · intro r W hc hf hs hd hB
                        have hBV := HBV.out W hB
                        refine want_g 40 260 rfl (by kernel_rfl) (hd 260 (by kernel_rfl) : r (.tmp 260) = .bool true) ?_
                        
                        exact st_call (f := 50) (args := #[]) rfl (by decide) (by go_simp) (made_term (mself W))
                      · intro r W hc hf hs hd hB
                        have hBV := HBV.out W hB
                        refine want_g 40 260 rfl (by kernel_rfl) (hd 260 (by kernel_rfl) : r (.tmp 260) = .bool true) ?_
                        have h261 : TIn W (tSelf) (r (.tmp 261)) := hd 261 (by kernel_rfl)
                        obtain ⟨A261, e261, k261⟩ := h261
                        obtain ⟨w2, hw2, m2, s2, hc2, _⟩ := row1_new W (tSelf) A261
                        exact st_new (v := .slice (some ⟨W.heap.size, 0, none⟩) 1 1) (w' := w2) rfl (by decide) (run_row1 rfl e261 hw2) m2 ⟨_, _, _, rfl, rfl, by simp, trow_cons hc2 (k261.below m2) trow_nil⟩
                      · intro r W hc hf hs hd hB
                        have hBV := HBV.out W hB
                        refine want_g 40 260 rfl (by kernel_rfl) (hd 260 (by kernel_rfl) : r (.tmp 260) = .bool true) ?_
                        obtain ⟨ah262, nh262, ch262, h262, hnh262, hlh262, hrh262⟩ : TQ.ok (.row [tSelf]) (r (.tmp 262)) W := hd 262 (by kernel_rfl)
                        exact st_call (f := 48) (args := #[.int .u8 5, .slice ah262 nh262 ch262]) rfl (by decide) (by go_simp) (by rw [hnh262]; exact made_term (mof 5 [tSelf] ah262 ch262 W (by simp) hrh262))
                      · intro r W hc hf hs hd hB
                        have hBV := HBV.out W hB
                        refine want_g 40 260 rfl (by kernel_rfl) (hd 260 (by kernel_rfl) : r (.tmp 260) = .bool true) ?_
                        have h263 : TIn W (tOf 5 [tSelf]) (r (.tmp 263)) := hd 263 (by kernel_rfl)
                        exact st_call (f := 37) (args := #[r (.tmp 263)]) rfl (by decide) (by go_simp) (made_fix (by rw [HNG.out.s2]; rfl) (thigh_any _ _ W HNG.out.ls2.2 HNG.out.ls2.1 h263))
                      · intro r W hc hf hs hd hB
                        have hBV := HBV.out W hB
                        refine want_g 40 260 rfl (by kernel_rfl) (hd 260 (by kernel_rfl) : r (.tmp 260) = .bool true) ?_
                        have e264 : r (.tmp 264) = .int .i64 0 := hd 264 (by kernel_rfl)
                        exact st_value (v := .bool true) rfl (by decide) (by go_simp) rfl
                      · intro r W hc hf hs hd hB
                        have hBV := HBV.out W hB
                        refine want_n rfl ?_
                        have e260 : r (.tmp 260) = .bool true := hd 260 (by kernel_rfl)
                        have e265 : r (.tmp 265) = .bool true := hd 265 (by kernel_rfl)
                        exact st_value (v := .bool true) rfl (by decide) (by go_simp) rfl
                      · intro r W hc hf hs hd hB
                        have hBV := HBV.out W hB
                        refine want_n rfl ?_
                        have e : r (.tmp 266) = .bool true := hd 266 (by kernel_rfl)
                        exact st_value (v := .bool true) rfl (by decide) (by go_simp) rfl
                      · intro r W hc hf hs hd hB
                        have hBV := HBV.out W hB
                        refine want_g 47 267 rfl (by kernel_rfl) (hd 267 (by kernel_rfl) : r (.tmp 267) = .bool true) ?_
                        
                        exact st_call (f := 47) (args := #[.int .i64 1]) rfl (by decide) (by go_simp) (made_term (mnum 1 W))
                      · intro r W hc hf hs hd hB
                        have hBV := HBV.out W hB
                        refine want_g 47 267 rfl (by kernel_rfl) (hd 267 (by kernel_rfl) : r (.tmp 267) = .bool true) ?_
                        have h268 : TIn W (tNum 1) (r (.tmp 268)) := hd 268 (by kernel_rfl)
                        exact st_call (f := 52) (args := #[.int .i64 0, .int .i64 0, r (.tmp 268)]) rfl (by decide) (by go_simp) (made_term (llist_any 0 0 _ _ W h268))
                      · intro r W hc hf hs hd hB
                        have hBV := HBV.out W hB
                        refine want_g 47 267 rfl (by kernel_rfl) (hd 267 (by kernel_rfl) : r (.tmp 267) = .bool true) ?_
                        have h269 : TIn W (tList 0 0 (tNum 1)) (r (.tmp 269)) := hd 269 (by kernel_rfl)
                        exact st_call (f := 36) (args := #[r (.tmp 269)]) rfl (by decide) (by go_simp) (made_fix (by rw [HNG.out.l1]; rfl) (tbulk_any _ _ W HNG.out.ll.2 HNG.out.ll.1 h269))
                      · intro r W hc hf hs hd hB
                        have hBV := HBV.out W hB
                        refine want_g 47 267 rfl (by kernel_rfl) (hd 267 (by kernel_rfl) : r (.tmp 267) = .bool true) ?_
                        have e270 : r (.tmp 270) = .int .i64 2 := hd 270 (by kernel_rfl)
                        exact st_value (v := .bool true) rfl (by decide) (by go_simp) rfl
                      · intro r W hc hf hs hd hB
                        have hBV := HBV.out W hB
                        refine want_n rfl ?_
                        have e267 : r (.tmp 267) = .bool true := hd 267 (by kernel_rfl)
                        have e271 : r (.tmp 271) = .bool true := hd 271 (by kernel_rfl)
                        exact st_value (v := .bool true) rfl (by decide) (by go_simp) rfl
                      · intro r W hc hf hs hd hB
                        have hBV := HBV.out W hB
                        refine want_n rfl ?_
                        have e : r (.tmp 272) = .bool true := hd 272 (by kernel_rfl)
                        exact st_value (v := .bool true) rfl (by decide) (by go_simp) rfl
                      · intro r W hc hf hs hd hB
                        have hBV := HBV.out W hB
                        refine want_g 53 273 rfl (by kernel_rfl) (hd 273 (by kernel_rfl) : r (.tmp 273) = .bool true) ?_
                        have e : r (.tmp 12) = .pointer (some ⟨b12, 0, none⟩) := hs 12 (by kernel_rfl)
                        obtain ⟨A, hcl, hok⟩ := BoxT.below HD12.out hBV
                        exact st_value (v := TT.val (HI) A) rfl (by decide) (run_load15 hcl rfl e) ⟨A, rfl, hok⟩
                      · intro r W hc hf hs hd hB
                        have hBV := HBV.out W hB
                        refine want_g 53 273 rfl (by kernel_rfl) (hd 273 (by kernel_rfl) : r (.tmp 273) = .bool true) ?_
                        have h274 : TIn W (HI) (r (.tmp 274)) := hd 274 (by kernel_rfl)
                        exact st_call (f := 52) (args := #[.int .i64 0, .int .i64 0, r (.tmp 274)]) rfl (by decide) (by go_simp) (made_term (llist_any 0 0 _ _ W h274))
                      · intro r W hc hf hs hd hB
                        have hBV := HBV.out W hB
                        refine want_g 53 273 rfl (by kernel_rfl) (hd 273 (by kernel_rfl) : r (.tmp 273) = .bool true) ?_
                        have h275 : TIn W (tList 0 0 HI) (r (.tmp 275)) := hd 275 (by kernel_rfl)
                        exact st_call (f := 37) (args := #[r (.tmp 275)]) rfl (by decide) (by go_simp) (made_fix (by rw [HNG.out.h1]; rfl) (thigh_any _ _ W HNG.out.lh.2 HNG.out.lh.1 h275))
                      · intro r W hc hf hs hd hB
                        have hBV := HBV.out W hB
                        refine want_g 53 273 rfl (by kernel_rfl) (hd 273 (by kernel_rfl) : r (.tmp 273) = .bool true) ?_
                        have e276 : r (.tmp 276) = .int .i64 1 := hd 276 (by kernel_rfl)
                        exact st_value (v := .bool true) rfl (by decide) (by go_simp) rfl
                      · intro r W hc hf hs hd hB
                        have hBV := HBV.out W hB
                        refine want_n rfl ?_
                        have e273 : r (.tmp 273) = .bool true := hd 273 (by kernel_rfl)
                        have e277 : r (.tmp 277) = .bool true := hd 277 (by kernel_rfl)
                        exact st_value (v := .bool true) rfl (by decide) (by go_simp) rfl
                      · intro r W hc hf hs hd hB
                        have hBV := HBV.out W hB
                        refine want_n rfl ?_
                        have e : r (.tmp 278) = .bool true := hd 278 (by kernel_rfl)
                        exact st_value (v := .bool true) rfl (by decide) (by go_simp) rfl
                      · intro r W hc hf hs hd hB
                        have hBV := HBV.out W hB
                        refine want_g 59 279 rfl (by kernel_rfl) (hd 279 (by kernel_rfl) : r (.tmp 279) = .bool true) ?_
                        have e : r (.tmp 12) = .pointer (some ⟨b12, 0, none⟩) := hs 12 (by kernel_rfl)
                        obtain ⟨A, hcl, hok⟩ := BoxT.below HD12.out hBV
                        exact st_value (v := TT.val (HI) A) rfl (by decide) (run_load15 hcl rfl e) ⟨A, rfl, hok⟩
                      · intro r W hc hf hs hd hB
                        have hBV := HBV.out W hB
                        refine want_g 59 279 rfl (by kernel_rfl) (hd 279 (by kernel_rfl) : r (.tmp 279) = .bool true) ?_
                        have h280 : TIn W (HI) (r (.tmp 280)) := hd 280 (by kernel_rfl)
                        obtain ⟨A280, e280, k280⟩ := h280
                        obtain ⟨w2, hw2, m2, s2, hc2, _⟩ := row1_new W (HI) A280
                        exact st_new (v := .slice (some ⟨W.heap.size, 0, none⟩) 1 1) (w' := w2) rfl (by decide) (run_row1 rfl e280 hw2) m2 ⟨_, _, _, rfl, rfl, by simp, trow_cons hc2 (k280.below m2) trow_nil⟩
                      · intro r W hc hf hs hd hB
                        have hBV := HBV.out W hB
                        refine want_g 59 279 rfl (by kernel_rfl) (hd 279 (by kernel_rfl) : r (.tmp 279) = .bool true) ?_
                        obtain ⟨ah281, nh281, ch281, h281, hnh281, hlh281, hrh281⟩ : TQ.ok (.row [HI]) (r (.tmp 281)) W := hd 281 (by kernel_rfl)
                        exact st_call (f := 48) (args := #[.int .u8 5, .slice ah281 nh281 ch281]) rfl (by decide) (by go_simp) (by rw [hnh281]; exact made_term (mof 5 [HI] ah281 ch281 W (by simp) hrh281))
                      · intro r W hc hf hs hd hB
                        have hBV := HBV.out W hB
                        refine want_g 59 279 rfl (by kernel_rfl) (hd 279 (by kernel_rfl) : r (.tmp 279) = .bool true) ?_
                        have h282 : TIn W (tOf 5 [HI]) (r (.tmp 282)) := hd 282 (by kernel_rfl)
                        exact st_call (f := 35) (args := #[r (.tmp 282)]) rfl (by decide) (by go_simp) (made_fix (by rw [HNG.out.h2]) (sound_any _ _ W HNG.out.lh2.2 HNG.out.lh2.1 h282))
                      · intro r W hc hf hs hd hB
                        have hBV := HBV.out W hB
                        refine want_g 59 279 rfl (by kernel_rfl) (hd 279 (by kernel_rfl) : r (.tmp 279) = .bool true) ?_
                        have e283 : r (.tmp 283) = .bool false := hd 283 (by kernel_rfl)
                        exact st_value (v := .bool true) rfl (by decide) (by go_simp) rfl
                      · intro r W hc hf hs hd hB
                        have hBV := HBV.out W hB
                        refine want_n rfl ?_
                        have e279 : r (.tmp 279) = .bool true := hd 279 (by kernel_rfl)
                        have e284 : r (.tmp 284) = .bool true := hd 284 (by kernel_rfl)
                        exact st_value (v := .bool true) rfl (by decide) (by go_simp) rfl
                      · intro r W hc hf hs hd hB
                        have hBV := HBV.out W hB
                        refine want_n rfl ?_
                        have e : r (.tmp 285) = .bool true := hd 285 (by kernel_rfl)
                        exact st_value (v := .bool true) rfl (by decide) (by go_simp) rfl
                      · intro r W hc hf hs hd hB
                        have hBV := HBV.out W hB
                        refine want_g 66 286 rfl (by kernel_rfl) (hd 286 (by kernel_rfl) : r (.tmp 286) = .bool true) ?_
                        have e : r (.tmp 3) = .pointer (some ⟨b3, 0, none⟩) := hs 3 (by kernel_rfl)
                        obtain ⟨A, hcl, hok⟩ := BoxT.below HD3.out hBV
                        exact st_value (v := TT.val (DP) A) rfl (by decide) (run_load15 hcl rfl e) ⟨A, rfl, hok⟩
                      · intro r W hc hf hs hd hB
                        have hBV := HBV.out W hB
                        refine want_g 66 286 rfl (by kernel_rfl) (hd 286 (by kernel_rfl) : r (.tmp 286) = .bool true) ?_
                        have h287 : TIn W (DP) (r (.tmp 287)) := hd 287 (by kernel_rfl)
                        obtain ⟨A287, e287, k287⟩ := h287
                        obtain ⟨w2, hw2, m2, s2, hc2, _⟩ := row1_new W (DP) A287
                        exact st_new (v := .slice (some ⟨W.heap.size, 0, none⟩) 1 1) (w' := w2) rfl (by decide) (run_row1 rfl e287 hw2) m2 ⟨_, _, _, rfl, rfl, by simp, trow_cons hc2 (k287.below m2) trow_nil⟩
                      · intro r W hc hf hs hd hB
                        have hBV := HBV.out W hB
                        refine want_g 66 286 rfl (by kernel_rfl) (hd 286 (by kernel_rfl) : r (.tmp 286) = .bool true) ?_
                        obtain ⟨ah288, nh288, ch288, h288, hnh288, hlh288, hrh288⟩ : TQ.ok (.row [DP]) (r (.tmp 288)) W := hd 288 (by kernel_rfl)
                        exact st_call (f := 48) (args := #[.int .u8 5, .slice ah288 nh288 ch288]) rfl (by decide) (by go_simp) (by rw [hnh288]; exact made_term (mof 5 [DP] ah288 ch288 W (by simp) hrh288))
                      · intro r W hc hf hs hd hB
                        have hBV := HBV.out W hB
                        refine want_g 66 286 rfl (by kernel_rfl) (hd 286 (by kernel_rfl) : r (.tmp 286) = .bool true) ?_
                        have h289 : TIn W (tOf 5 [DP]) (r (.tmp 289)) := hd 289 (by kernel_rfl)
                        obtain ⟨A289, e289, k289⟩ := h289
                        obtain ⟨w2, hw2, m2, s2, hc2, _⟩ := row1_new W (tOf 5 [DP]) A289
                        exact st_new (v := .slice (some ⟨W.heap.size, 0, none⟩) 1 1) (w' := w2) rfl (by decide) (run_row1 rfl e289 hw2) m2 ⟨_, _, _, rfl, rfl, by simp, trow_cons hc2 (k289.below m2) trow_nil⟩
                      · intro r W hc hf hs hd hB
                        have hBV := HBV.out W hB
                        refine want_g 66 286 rfl (by kernel_rfl) (hd 286 (by kernel_rfl) : r (.tmp 286) = .bool true) ?_
                        obtain ⟨ah290, nh290, ch290, h290, hnh290, hlh290, hrh290⟩ : TQ.ok (.row [tOf 5 [DP]]) (r (.tmp 290)) W := hd 290 (by kernel_rfl)
                        exact st_call (f := 48) (args := #[.int .u8 5, .slice ah290 nh290 ch290]) rfl (by decide) (by go_simp) (by rw [hnh290]; exact made_term (mof 5 [tOf 5 [DP]] ah290 ch290 W (by simp) hrh290))
                      · intro r W hc hf hs hd hB
                        have hBV := HBV.out W hB
                        refine want_g 66 286 rfl (by kernel_rfl) (hd 286 (by kernel_rfl) : r (.tmp 286) = .bool true) ?_
                        have h291 : TIn W (tOf 5 [tOf 5 [DP]]) (r (.tmp 291)) := hd 291 (by kernel_rfl)
                        exact st_call (f := 35) (args := #[r (.tmp 291)]) rfl (by decide) (by go_simp) (made_fix (by rw [HNG.out.d1]) (sound_any _ _ W HNG.out.ld.2 HNG.out.ld.1 h291))
                      · intro r W hc hf hs hd hB
                        have hBV := HBV.out W hB
                        refine want_n rfl ?_
                        have e286 : r (.tmp 286) = .bool true := hd 286 (by kernel_rfl)
                        have e292 : r (.tmp 292) = .bool true := hd 292 (by kernel_rfl)
                        exact st_value (v := .bool true) rfl (by decide) (by go_simp) rfl
                      · intro r W hc hf hs hd hB
                        have hBV := HBV.out W hB
                        refine want_n rfl ?_
                        have e : r (.tmp 293) = .bool true := hd 293 (by kernel_rfl)
                        exact st_value (v := .bool true) rfl (by decide) (by go_simp) rfl
                    intro f w21 hfd hB'
                    have z0 : f 0 = .bool true := hfd 0 (of_decide_eq_true (by kernel_rfl))
                    have hbR := HBV.out w21 hB'
                    refine fill_end (of_decide_eq_true (by kernel_rfl)) (of_decide_eq_true (by kernel_rfl)) ?_
                    intro tm htm
                    rw [z0] at htm
                    clear hfd hB' HBV z0
                    replace hB := hB.trans (hbR.mono hB.size)
                    clear hbR
                    go_wp2_with fail
                    refine bodyPost_ret (results_tmp rfl _ _ _) rfl ⟨?_, hB⟩
                    show Ending.returned (tm.getD 0 undef) = _
                    rw [Array.getD_eq_getD_getElem?, htm]
                    rfl
end Go.Proofs.Yteebbffecaeciaa
/- TermNames: the law returns true for all that can be read, and what was handed in reads afterwards as it read before. -/
namespace Go.Proofs.Yteebbffecaeciaa
open Go.ChangeShapes Go.WideShapes Go.ChangeAt Go.RowKit

set_option maxRecDepth 100000 in
theorem termNames_lifted (os : Os) (started : os.Started) (H : Type) (enc : TypeId × Value → H) :
    ReturnsInHanded {} Try.checked os 9 .any (Rows.termNamesSpec.pre6 enc Try.prog Try.f9 Rows.termNamesRow.domain false) (Rows.termNamesSpec.post enc Try.prog Try.f9 false true false false) := by
  refine returnsInHanded_of_change_sized (C := Try.checked) Try.own started (by kernel_rfl) Try.func9
    (ChangeSpec.witness6 (enc := enc) (C := Try.checked) false ⟨#[], #[], []⟩ 8 (by kernel_rfl) (by kernel_rfl) (by kernel_rfl) (by kernel_rfl)) ?_
  intro W base args ds gs before hval0 hW hcnd hsz hass
  have hval : ∀ (j : Nat) t v, Try.f9.params[j]? = some t → args[j]? = some v → Value.okWide Try.prog W .any base t v := hval0
  have hW' := hW
  obtain ⟨p, q, hA0, hV, rfl, hfz, hnd⟩ := hW
  have hA : DataW.TrodAll enc Try.prog W 0 (fun _ => true) true Try.f9.params.toList args.toList ds p := hA0
  rw [Try.params9] at hA hval
  obtain ⟨rfl, rfl, rfl⟩ := trodAll_none hA
  obtain ⟨rfl, rfl⟩ := trodVars_none hV
  refine (termNames_any  W ).mono fun e W' ⟨he, hbw⟩ => ?_
  subst he
  exact ⟨_, rfl, law_post rfl rfl (by rw [Try.params9]; intro t ht; simp at ht; skip) hW' ⟨rfl, rfl, rfl⟩ hbw⟩

theorem termNames_holds : Rows.TermNamesSaid :=
  OpenClaim.holds_of_wide 9 Try.f9 rfl rfl rfl rfl rfl rfl rfl ⟨rfl, rfl, rfl, rfl, rfl⟩ rfl rfl rfl rfl rfl (by kernel_rfl) Try.func9 (by kernel_rfl)
    (of_decide_eq_true (by kernel_rfl)) (by unfold Func.isWrapper; first | (rw [if_pos (by decide +kernel)]; kernel_rfl) | (rw [if_neg (by decide +kernel)]; exact ⟨rfl, rfl⟩))
    (fun os started H enc _ => termNames_lifted os started H enc)
end Go.Proofs.Yteebbffecaeciaa
