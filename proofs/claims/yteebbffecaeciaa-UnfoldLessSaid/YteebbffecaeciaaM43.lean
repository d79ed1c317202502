/- Texts of this claim laid into one: USpoil. -/
import Derived.Test.YteebbffecaeciaaM28
/- The spoil of chapter 21. -/
namespace Go.Proofs.Yteebbffecaeciaa
open Go.RowKit

set_option maxRecDepth 100000 in
set_option maxHeartbeats 8000000 in
theorem uspoil_any (lo hi : Nat) : ∀ (d : Nat) (t : TT) (A : TA) (w : World), TW w lo hi d t A → hi ≤ w.heap.size → Calls Try.prog 32 #[t.val A] w (fun e w' => e = .returned (.tuple #[]) ∧ Faded lo hi w w') := by
  intro d
  induction d using Nat.strongRecOn with
  | _ d ih =>
    intro t A w h hh
    have IH := Lib.hid ih; clear ih
    obtain ⟨w0, hw0, m0, s0, hc0, _⟩ := row1_new w t A
    have HT : Hid (TW w0 lo hi d t A) := Lib.hid (TW.fade (Fades.of_below m0 hh) d t A h)
    have HM : Hid (Faded lo hi w w0) := Lib.hid ⟨Only.of_below m0, Fades.of_below m0 hh⟩
    have HB := Lib.hid HT.out.bare
    have HSZ : Hid (hi ≤ w0.heap.size) := Lib.hid (Nat.le_trans hh m0.size)
    obtain ⟨S, hS⟩ : ∃ S, w.heap.size = S := ⟨_, rfl⟩
    have hSh : hi ≤ S := by omega
    rw [hS] at hc0 s0
    obtain ⟨_, _, _, q3, q4, _, _, q7, _, _, _, q11, _, q13, q14⟩ := hc0
    have la := HB.out.la; have ls := HB.out.ls; have lw := HB.out.lw; have lv := HB.out.lv; have lp := HB.out.lp; have lq := HB.out.lq
    clear h m0
    unfold TT.val
    go_enter Try.func32, Try.ntmps32
    go_wp2_with fail
    go_loopw [2] (fun x wr => ∃ i : Nat, x = .int .i64 i ∧ i ≤ t.args.length ∧ Faded lo hi w0 wr) (fun x _ => t.args.length - (intOf x).toNat)
    case atStart => exact ⟨0, rfl, by omega, Only.refl _ _ _, Fades.refl _ _ _⟩
    case round =>
      obtain ⟨i1, rfl, hi', hOF⟩ := hrel
      rename World => i1w
      have HX := Lib.hid hOF
      have g3 := hOF.1.cell (.inr hSh) q3
      have g4 := hOF.1.cell (.inr hSh) q4
      have g7 := hOF.1.cell (.inr hSh) q7
      have g11 := hOF.1.cell (.inr hSh) q11
      have g13 := hOF.1.cell (.inr hSh) q13
      have g14 := hOF.1.cell (.inr hSh) q14
      clear hOF
      by_cases hlt : i1 < t.args.length
      · as_aux_lemma =>
        have d1 : decide ((i1 : Int) < t.args.length) = true := decide_eq_true (by omega)
        have d2 : decide (i1 < t.args.length) = true := decide_eq_true hlt
        obtain ⟨d', b, t', A', hd, ea, hb1, hb2, hfr, hcX, hkX⟩ := (TW.fade HX.out.2 d t A HT.out).arg hlt
        rw [ea] at g14
        have HCX := Lib.hid hcX; have HFR := Lib.hid hfr; have HKX := Lib.hid hkX; have HD := Lib.hid hd
        clear ea hfr hcX hkX hd g3 g4 g7 g11 g13
        go_wp2_with (refine wpList_load15 (by rfl) (by rfl) (by rfl) HCX.out ?_)
        refine (IH.out d' HD.out t' A' _ HKX.out (Nat.le_trans HSZ.out HX.out.1.size)).mono ?_
        rintro e w1 ⟨rfl, hOF1⟩
        have HX1 : Hid (Faded lo hi w0 w1) := Lib.hid ⟨HX.out.1.trans hOF1.1, HX.out.2.trans hOF1.2⟩
        replace g14 := hOF1.1.cell (.inr hSh) g14
        obtain ⟨t2, A2, hc2, _⟩ := hOF1.2.tcells hb1 hb2 HCX.out
        have HTH : Hid (w1.there b (i1 * 15) 15) := Lib.hid (cells_there hc2 fun j hj => (hOF1.2.frozen _ _ hb1 hb2).trans (HFR.out j hj))
        have HN : Hid (Faded lo hi w0 (setL b (cellsT (i1 * 15) t99 A99) w1)) := Lib.hid ⟨Only.setL hb1 hb2 _ HX1.out.1, fades_term HX1.out.2 hc2⟩
        clear hOF1 hc2 HX HCX HFR HKX
        go_wp2_with (refine wpList_store15W (t := t99) (A := A99) (by rfl) (by rfl) (by rfl) (by rfl) (by rfl) HTH.out ?_)
        intro wE hE
        have HNE : Hid (Faded lo hi w0 wE) := Lib.hid (by rw [hE.out]; exact HN.out)
        clear HN hE HTH HX1 g14
        go_wp2_with fail
        go_roundw
        case rel => exact ⟨i1 + 1, by go_num, by omega, HNE.out⟩
        case measure => simp [intOf]; omega
      · as_aux_lemma =>
        have d1 : decide ((i1 : Int) < t.args.length) = false := decide_eq_false (by omega)
        have d2 : decide (i1 < t.args.length) = false := decide_eq_false hlt
        go_wp2_with fail
        clear g3 g4 g7 g11 g13 g14
        go_loopw [3] (fun x wr => ∃ i : Nat, x = .int .i64 i ∧ i ≤ t.ws.length ∧ Faded lo hi w0 wr) (fun x _ => t.ws.length - (intOf x).toNat)
        case atStart => exact ⟨0, rfl, by omega, HX.out⟩
        case round =>
          clear HX
          obtain ⟨i2, rfl, hi', hOF⟩ := hrel
          rename World => i2w
          have HX := Lib.hid hOF
          have g3 := hOF.1.cell (.inr hSh) q3
          have g4 := hOF.1.cell (.inr hSh) q4
          have g7 := hOF.1.cell (.inr hSh) q7
          have g11 := hOF.1.cell (.inr hSh) q11
          have g13 := hOF.1.cell (.inr hSh) q13
          have g14 := hOF.1.cell (.inr hSh) q14
          clear hOF
          by_cases hlt : i2 < t.ws.length
          · as_aux_lemma =>
            have d1 : decide ((i2 : Int) < t.ws.length) = true := decide_eq_true (by omega)
            have d2 : decide (i2 < t.ws.length) = true := decide_eq_true hlt
            obtain ⟨b, ea, hb1, hb2, hfr, x0, e0⟩ := (HB.out.n.fade HX.out.2 fun _ _ h1 h2 => WE.fade HX.out.2 h1 h2).get hlt
            have f0 := hfr 0 (by omega)
            rw [Nat.add_zero, Nat.mul_one] at f0
            rw [Nat.mul_one] at e0
            rw [ea] at g7
            have HN : Hid (Faded lo hi w0 (i2w.setCell ⟨b, i2, none⟩ (.int .i64 (-9)))) := Lib.hid ⟨HX.out.1.set hb1 hb2 _, HX.out.2.set e0 (Fade.i64 _ _)⟩
            clear ea hfr
            go_wp2_with fail
            go_roundw
            case rel => exact ⟨i2 + 1, by go_num, by omega, HN.out⟩
            case measure => simp [intOf]; omega
          · as_aux_lemma =>
            have d1 : decide ((i2 : Int) < t.ws.length) = false := decide_eq_false (by omega)
            have d2 : decide (i2 < t.ws.length) = false := decide_eq_false hlt
            go_wp2_with fail
            clear g3 g4 g7 g11 g13 g14
            go_loopw [4] (fun x wr => ∃ i : Nat, x = .int .i64 i ∧ i ≤ t.vs.length ∧ Faded lo hi w0 wr) (fun x _ => t.vs.length - (intOf x).toNat)
            case atStart => exact ⟨0, rfl, by omega, HX.out⟩
            case round =>
              clear HX
              obtain ⟨i3, rfl, hi', hOF⟩ := hrel
              rename World => i3w
              have HX := Lib.hid hOF
              have g3 := hOF.1.cell (.inr hSh) q3
              have g4 := hOF.1.cell (.inr hSh) q4
              have g7 := hOF.1.cell (.inr hSh) q7
              have g11 := hOF.1.cell (.inr hSh) q11
              have g13 := hOF.1.cell (.inr hSh) q13
              have g14 := hOF.1.cell (.inr hSh) q14
              clear hOF
              by_cases hlt : i3 < t.vs.length
              · as_aux_lemma =>
                have d1 : decide ((i3 : Int) < t.vs.length) = true := decide_eq_true (by omega)
                have d2 : decide (i3 < t.vs.length) = true := decide_eq_true hlt
                obtain ⟨b, ea, hb1, hb2, hfr, k0, n0, l0, a0, c0, hl0, e0, e1, e2, hsp⟩ := (HB.out.s.fade HX.out.2 fun _ _ h1 h2 => VE2.fade HX.out.2 h1 h2).get hlt
                have f0 := hfr 0 (by omega); have f1 := hfr 1 (by omega); have f2 := hfr 2 (by omega)
                rw [Nat.add_zero] at f0
                rw [ea] at g4
                have HN : Hid (Faded lo hi w0 (setL b [(i3 * 3, .int .u8 99), (i3 * 3 + 1, .int .i64 0), (i3 * 3 + 2, .slice none 0 0)] i3w)) := Lib.hid ⟨Only.setL hb1 hb2 _ HX.out.1, fades_val HX.out.2 e0 e1 e2⟩
                clear ea hfr hsp
                go_wp2_with fail
                go_roundw
                case rel => exact ⟨i3 + 1, by go_num, by omega, HN.out⟩
                case measure => simp [intOf]; omega
              · as_aux_lemma =>
                have d1 : decide ((i3 : Int) < t.vs.length) = false := decide_eq_false (by omega)
                have d2 : decide (i3 < t.vs.length) = false := decide_eq_false hlt
                go_wp2_with fail
                clear g3 g4 g7 g11 g13 g14
                go_loopw [5] (fun x wr => ∃ i : Nat, x = .int .i64 i ∧ i ≤ t.v.items.length ∧ Faded lo hi w0 wr) (fun x _ => t.v.items.length - (intOf x).toNat)
                case atStart => exact ⟨0, rfl, by omega, HX.out⟩
                case round =>
                  clear HX
                  obtain ⟨i5, rfl, hi', hOF⟩ := hrel
                  rename World => i5w
                  have HX := Lib.hid hOF
                  have g3 := hOF.1.cell (.inr hSh) q3
                  have g4 := hOF.1.cell (.inr hSh) q4
                  have g7 := hOF.1.cell (.inr hSh) q7
                  have g11 := hOF.1.cell (.inr hSh) q11
                  have g13 := hOF.1.cell (.inr hSh) q13
                  have g14 := hOF.1.cell (.inr hSh) q14
                  clear hOF
                  by_cases hlt : i5 < t.v.items.length
                  · as_aux_lemma =>
                    have d1 : decide ((i5 : Int) < t.v.items.length) = true := decide_eq_true (by omega)
                    have d2 : decide (i5 < t.v.items.length) = true := decide_eq_true hlt
                    obtain ⟨b, ea, hb1, hb2, hfr, k0, n0, l0, a0, c0, e0, e1, e2⟩ := (HB.out.v.fade HX.out.2 fun _ _ h1 h2 => VE.fade HX.out.2 h1 h2).get hlt
                    have f0 := hfr 0 (by omega); have f1 := hfr 1 (by omega); have f2 := hfr 2 (by omega)
                    rw [Nat.add_zero] at f0
                    rw [ea] at g3
                    have HN : Hid (Faded lo hi w0 (setL b [(i5 * 3, .int .u8 99), (i5 * 3 + 1, .int .i64 0), (i5 * 3 + 2, .slice none 0 0)] i5w)) := Lib.hid ⟨Only.setL hb1 hb2 _ HX.out.1, fades_val HX.out.2 e0 e1 e2⟩
                    clear ea hfr
                    go_wp2_with fail
                    go_roundw
                    case rel => exact ⟨i5 + 1, by go_num, by omega, HN.out⟩
                    case measure => simp [intOf]; omega
                  · as_aux_lemma =>
                    have d1 : decide ((i5 : Int) < t.v.items.length) = false := decide_eq_false (by omega)
                    have d2 : decide (i5 < t.v.items.length) = false := decide_eq_false hlt
                    go_wp2_with fail
                    clear g3 g4 g7 g11 g13 g14
                    go_loopw [6] (fun x wr => ∃ i : Nat, x = .int .i64 i ∧ i ≤ t.p.args.length ∧ Faded lo hi w0 wr) (fun x _ => t.p.args.length - (intOf x).toNat)
                    case atStart => exact ⟨0, rfl, by omega, HX.out⟩
                    case round =>
                      clear HX
                      obtain ⟨i6, rfl, hi', hOF⟩ := hrel
                      rename World => i6w
                      have HX := Lib.hid hOF
                      have g3 := hOF.1.cell (.inr hSh) q3
                      have g4 := hOF.1.cell (.inr hSh) q4
                      have g7 := hOF.1.cell (.inr hSh) q7
                      have g11 := hOF.1.cell (.inr hSh) q11
                      have g13 := hOF.1.cell (.inr hSh) q13
                      have g14 := hOF.1.cell (.inr hSh) q14
                      clear hOF
                      by_cases hlt : i6 < t.p.args.length
                      · as_aux_lemma =>
                        have d1 : decide ((i6 : Int) < t.p.args.length) = true := decide_eq_true (by omega)
                        have d2 : decide (i6 < t.p.args.length) = true := decide_eq_true hlt
                        obtain ⟨b, ea, hb1, hb2, hfr, k0, vk0, vn0, l0, va0, vc0, n0, m0, a0, c0, e0, e1, e2, e3, e4, e5⟩ := (HB.out.p.fade HX.out.2 fun _ _ h1 h2 => PE.fade HX.out.2 h1 h2).get hlt
                        have f0 := hfr 0 (by omega); have f1 := hfr 1 (by omega); have f2 := hfr 2 (by omega); have f3 := hfr 3 (by omega); have f4 := hfr 4 (by omega); have f5 := hfr 5 (by omega)
                        rw [Nat.add_zero] at f0
                        rw [ea] at g13
                        obtain ⟨w6, hw6, HN⟩ : ∃ w6, (((((i6w.setCell ⟨b, i6 * 6, none⟩ (.int .u8 99)).setCell ⟨b, i6 * 6 + 1, none⟩ (.int .u8 0)).setCell ⟨b, i6 * 6 + 2, none⟩ (.int .i64 0)).setCell ⟨b, i6 * 6 + 3, none⟩ (.slice none 0 0)).setCell ⟨b, i6 * 6 + 4, none⟩ (.int .i64 0)).setCell ⟨b, i6 * 6 + 5, none⟩ (.slice none 0 0) = w6 ∧ Hid (Faded lo hi w0 w6) :=
                          ⟨setL b [(i6 * 6, .int .u8 99), (i6 * 6 + 1, .int .u8 0), (i6 * 6 + 2, .int .i64 0), (i6 * 6 + 3, .slice none 0 0), (i6 * 6 + 4, .int .i64 0), (i6 * 6 + 5, .slice none 0 0)] i6w, rfl, Lib.hid ⟨Only.setL hb1 hb2 _ HX.out.1, fades_pred HX.out.2 e0 e1 e2 e3 e4 e5⟩⟩
                        clear ea hfr
                        go_wp2_with fail
                        go_roundw
                        case rel => exact ⟨i6 + 1, by go_num, by omega, HN.out⟩
                        case measure => simp [intOf]; omega
                      · as_aux_lemma =>
                        have d1 : decide ((i6 : Int) < t.p.args.length) = false := decide_eq_false (by omega)
                        have d2 : decide (i6 < t.p.args.length) = false := decide_eq_false hlt
                        go_wp2_with fail
                        go_end0
                        exact ⟨rfl, HM.out.1.trans HX.out.1, HM.out.2.trans HX.out.2⟩
end Go.Proofs.Yteebbffecaeciaa
