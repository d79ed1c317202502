/- ValMakes: for every row of values that can be read and every number the law returns true, and they read afterwards as before. -/
import Derived.Test.YtcfpgnobhmldbaaVAwake
import Derived.Test.YtcfpgnobhmldbaaVWeigh
import Derived.Test.YtcfpgnobhmldbaaVFrame
import Derived.Test.YtcfpgnobhmldbaaVSpoil
import Derived.Test.YtcfpgnobhmldbaaVWalkD
namespace Go.Proofs.Ytcfpgnobhmldbaa
open Go.ChangeShapes Go.WideShapes Go.ChangeAt Go.RowKit

set_option maxRecDepth 100000 in
set_option maxHeartbeats 8000000 in
theorem makes_any (l : List VT) (a : Option Addr) (cap : Nat) (n : Int) (w : World) (hlen : l.length ≤ 3518437208780) (hr : VRow w l a) :
    Calls Try.prog 8 #[.slice a l.length cap, .int .i64 n] w fun e w' => e = .returned (.bool true) ∧ Below w.heap.size w w' := by
  cases hl : VT.long l with
  | true =>
    go_enter Try.func8, Try.ntmps8
    go_wp2_with fail
    refine (long_any l a cap _ hlen hr).mono ?_
    rintro e w1 ⟨rfl, hb1⟩
    rw [hl]
    go_wp2_with fail
    refine (awake_any _).mono ?_
    rintro e w2 ⟨rfl, hb2⟩
    go_wp2_with fail
    go_ret
    exact ⟨rfl, hb1.trans (hb2.mono hb1.size)⟩
  | false =>
    have hs := VT.not_long hl
    have hln := VT.length_le_sizes l
    go_enter Try.func8, Try.ntmps8
    go_wp2_with fail
    refine (long_any l a cap _ hlen hr).mono ?_
    rintro e w1 ⟨rfl, hb1⟩
    rw [hl]
    go_wp2_with fail
    go_loopw [5] (fun x wr => ∃ i : Nat, x = .int .i64 i ∧ i ≤ 2 ∧ Below w.heap.size w wr) (fun x _ => 2 - (intOf x).toNat)
    case atStart => exact ⟨0, rfl, by omega, hb1⟩
    case round =>
      clear hb1
      obtain ⟨rd, rfl, hrd, hB⟩ := hrel
      by_cases hrd2 : rd < 2
      · rename World => wA
        have hrd1 : decide ((rd : Int) < 2) = true := by simp; omega
        have hmk := make_vals l.length hlen
        have hrr := hr.below hB
        obtain ⟨B0, hB0⟩ : ∃ B0, wA.heap.size = B0 := ⟨_, rfl⟩
        have hle : w.heap.size ≤ B0 := by have := hB.size; omega
        go_wp2_with fail
        clear hmk
        go_loopw [7] (fun x wq => ∃ i : Nat, x = .int .i64 i ∧ i ≤ l.length ∧ RowAt wq 27 B0 (l.length * 3) ∧ FRow wq (B0 + 1) (l.take i) B0 0 ∧ Below B0 wA wq) (fun x _ => l.length - (intOf x).toNat)
        case atStart =>
          subst hB0
          exact ⟨0, rfl, by omega, by have := RowAt.new wA (zeroCells l.length) 27; rwa [zeroCells_size] at this, by rw [List.take_zero, FRow]; trivial, Below.al _⟩
        case round =>
          obtain ⟨i, rfl, hi, hrow, hfr, hbl⟩ := hrel
          have hsz := hrow.lt
          have hBw := hB.trans (hbl.mono (by omega))
          by_cases hlt : i < l.length
          · obtain ⟨b, o, ho, ax, cx, d0, d1, d2, hv⟩ := (hr.below hBw).got i hlt
            subst ho
            have ht := VT.sizes_get hlt
            go_wp2_with fail
            refine (copy_any 6000 _ _ _ (by omega) hv).mono ?_
            rintro e w2 ⟨v', rfl, hf, hbw⟩
            have hrow2 := hrow.below hsz hbw
            obtain ⟨u0, q0⟩ := hrow2.cell (i * 3) (by omega)
            obtain ⟨u1, q1⟩ := hrow2.cell (i * 3 + 1) (by omega)
            obtain ⟨u2, q2⟩ := hrow2.cell (i * 3 + 2) (by omega)
            have g0 := hrow2.frozen (i * 3)
            have g1 := hrow2.frozen (i * 3 + 1)
            have g2 := hrow2.frozen (i * 3 + 2)
            generalize hti : l[i] = ti at hf hv ht
            obtain ⟨k, m, its⟩ := ti
            obtain ⟨a', cap', hl', rfl, hrest⟩ := hf.open
            have hvb := hv.below hbw
            have hstep := copies_step hlt hrow hfr hbw (by rw [hti]; exact hf)
            have hrowS := ((hrow2.set ⟨B0, i * 3, none⟩ (.int .u8 k) rfl).set ⟨B0, i * 3 + 1, none⟩ (.int .i64 m) rfl).set ⟨B0, i * 3 + 2, none⟩ (.slice a' its.length cap') rfl
            have hbl2 := hbl.trans (hbw.mono (by have := hbl.size; omega))
            have hbS := ((hbl2.setCell (p := ⟨B0, i * 3, none⟩) (Nat.le_refl _) (.int .u8 k)).setCell (p := ⟨B0, i * 3 + 1, none⟩) (Nat.le_refl _) (.int .i64 m)).setCell (p := ⟨B0, i * 3 + 2, none⟩) (Nat.le_refl _) (.slice a' its.length cap')
            have hB2 := hB.trans (hbl2.mono (by omega))
            have hvS : VIn (((w2.setCell ⟨B0, i * 3, none⟩ (.int .u8 k)).setCell ⟨B0, i * 3 + 1, none⟩ (.int .i64 m)).setCell ⟨B0, i * 3 + 2, none⟩ (.slice a' its.length cap')) (.mk k m its) (.agg #[.int .u8 k, .int .i64 m, .slice a' its.length cap']) :=
              (((hf.set (p := ⟨B0, i * 3, none⟩) hsz (.int .u8 k)).set (p := ⟨B0, i * 3 + 1, none⟩) hsz (.int .i64 m)).set (p := ⟨B0, i * 3 + 2, none⟩) hsz (.slice a' its.length cap')).vin
            have p0 : (((w2.setCell ⟨B0, i * 3, none⟩ (.int .u8 k)).setCell ⟨B0, i * 3 + 1, none⟩ (.int .i64 m)).setCell ⟨B0, i * 3 + 2, none⟩ (.slice a' its.length cap')).cell? ⟨B0, i * 3, none⟩ = some (.int .u8 k) := set_off (set_off (set_same q0) (by omega)) (by omega)
            have p1 : (((w2.setCell ⟨B0, i * 3, none⟩ (.int .u8 k)).setCell ⟨B0, i * 3 + 1, none⟩ (.int .i64 m)).setCell ⟨B0, i * 3 + 2, none⟩ (.slice a' its.length cap')).cell? ⟨B0, i * 3 + 1, none⟩ = some (.int .i64 m) := set_off (set_same (set_off q1 (by omega))) (by omega)
            have p2 : (((w2.setCell ⟨B0, i * 3, none⟩ (.int .u8 k)).setCell ⟨B0, i * 3 + 1, none⟩ (.int .i64 m)).setCell ⟨B0, i * 3 + 2, none⟩ (.slice a' its.length cap')).cell? ⟨B0, i * 3 + 2, none⟩ = some (.slice a' its.length cap') := set_same (set_off (set_off q2 (by omega)) (by omega))
            obtain ⟨w5, hw5⟩ : ∃ w5, (((w2.setCell ⟨B0, i * 3, none⟩ (.int .u8 k)).setCell ⟨B0, i * 3 + 1, none⟩ (.int .i64 m)).setCell ⟨B0, i * 3 + 2, none⟩ (.slice a' its.length cap')) = w5 := ⟨_, rfl⟩
            rw [hw5] at hstep hrowS hbS hvS p0 p1 p2
            have hBS := hB.trans (hbS.mono (by omega))
            obtain ⟨b', o', ho, _, _, e0, e1, e2, hvl⟩ := (hr.below hBS).got i hlt
            simp only [Option.some.injEq, Addr.mk.injEq, and_true] at ho
            obtain ⟨rfl, rfl⟩ := ho
            rw [hti] at e0 e1 e2 hvl
            clear hf hrest hfr hrow hrow2 hbl hbl2 hbw d0 d1 d2 hv hvb
            have hsame := (VT.same_iff (.mk k m its) (.mk k m its)).2 rfl
            have HSM := Lib.hid hsame
            have HST := Lib.hid hstep
            clear hsame hstep hti
            go_wp2_with fail
            refine region_tail 8 (by kernel_rfl) (by kernel_rfl) ?_
            simp only [List.take_succ_cons, List.take_zero, List.drop_succ_cons, List.drop_zero]
            repeat still_step
            refine wpStill_nil ?_
            go_wp2_with fail
            refine (rsame_any 6000 (.mk k m its) (.mk k m its) _ _ _ (by omega) (hvS.below (Below.refl _ _).drew) (hvl.below (Below.refl _ _).drew)).mono ?_
            rintro e w6 ⟨rfl, hb6⟩
            rw [HSM.out]
            have hw6 : Below w5.heap.size w5 w6 := (Below.refl _ w5).drew.trans hb6
            have hs5 := hrowS.lt
            go_wp2_with fail
            go_roundw
            case rel => exact ⟨i + 1, by go_num, by omega, hrowS.below hs5 hw6, HST.out.below hw6, hbS.trans (hw6.mono (by omega))⟩
            case measure => simp [intOf]; omega
          · have hii : i = l.length := by omega
            subst hii
            have n4 : decide ((l.length : Int) < (l.length : Int)) = false := by simp
            rw [List.take_length] at hfr
            rename World => wI
            obtain ⟨M, hM⟩ : ∃ M, wI.heap.size = M := ⟨_, rfl⟩
            have hVI := FRow.vrow _ _ _ hfr
            have hM0 := hrow.lt
            have hwild : Wild wI B0 M (VT.deeps l + 1) (.agg #[.int .u8 0, .int .i64 0, .slice (some ⟨B0, 0, none⟩) l.length l.length]) := by
              refine ⟨0, 0, _, _, _, hlen, rfl, .inr ⟨B0, rfl, Nat.le_refl _, by omega, fun i hi => ?_⟩⟩
              have := FRow.wild (lo := B0) l B0 0 (FRow.less (Nat.le_succ B0) _ _ _ hfr) i hi
              rw [hM] at this
              simpa using this
            have hrI := hr.below hBw
            have hfrI := hfr
            clear hlt hi hrow hfr
            go_wp2_with fail
            refine (tuple_any l _ _ _ hlen hVI).mono ?_
            rintro e w2 ⟨vt, rfl, hft, hb2⟩
            have hVI2 := (FRow.vrow _ _ _ (hfrI.below hb2))
            have hwild2 := Wild.below hb2 hwild
            obtain ⟨at', ct', hlt', rfl, _⟩ := hft.open
            clear hVI hwild
            go_wp2_with fail
            refine (list_any l _ _ _ hlen hVI2).mono ?_
            rintro e w3 ⟨vm, rfl, hfm, hb3⟩
            obtain ⟨am, cm, hlm, rfl, _⟩ := hfm.open
            have hft3 := hft.below hb3
            have hfm3 := hfm.less (lo' := M) (by have := hb2.size; omega)
            have hwt : Wild w3 M w3.heap.size _ _ := FIn.wild _ _ (by rw [← hM]; exact hft3)
            have hwm : Wild w3 M w3.heap.size _ _ := FIn.wild _ _ hfm3
            have hwild3 := Wild.below hb3 hwild2
            have hI3 : Below wI.heap.size wI w3 := hb2.trans (hb3.mono hb2.size)
            have hrI3 := hrI.below hI3
            rw [hM] at hft3
            obtain ⟨H, hH⟩ : ∃ H, w3.heap.size = H := ⟨_, rfl⟩
            rw [hH] at hwt hwm
            have hMH : M ≤ H := by have := hI3.size; omega
            have hBI : Below w.heap.size w w3 := hBw.trans (hI3.mono (by have := hBw.size; omega))
            clear hft hfm hVI2 hwild2 hb2 hb3 hrI
            obtain ⟨w4, hw4, m4, s4, x0, x1, x2, _⟩ := box3 w3 (.int .u8 3) (.int .i64 0) (.slice at' l.length ct') 27
            obtain ⟨w5, hw5, m5, s5, y0, y1, y2, _⟩ := box3 w4 (.int .u8 4) (.int .i64 0) (.slice am l.length cm) 27
            have z0 := cell_stays m5 x0
            have z1 := cell_stays m5 x1
            have z2 := cell_stays m5 x2
            rw [hH] at z0 z1 z2 s4
            have hH' : w4.heap.size = H + 1 := by rw [← hw4, ← hH]; simp
            rw [hH'] at y0 y1 y2 s5
            have hm5 : Below w3.heap.size w3 w5 := m4.trans (m5.mono m4.size)
            have hW5 := Wild.below hm5 hwild3
            have hwt5 := Wild.below hm5 hwt
            have hwm5 := Wild.below hm5 hwm
            have hft5 := hft3.below hm5
            have hfm5 := hfm3.below hm5
            have hr5 := hrI3.below hm5
            have hBI5 := hBI.trans (hm5.mono hBI.size)
            clear x0 x1 x2 m4 m5 hwild3 hwt hwm hft3 hfm3 hrI3 hBI hm5
            have H1 := Lib.hid (And.intro hW5 (And.intro hwt5 (And.intro hwm5 (And.intro hft5 (And.intro hfm5 (And.intro hr5 hBI5))))))
            have HW4 := Lib.hid hw4
            have HW5 := Lib.hid hw5
            clear hwt5 hwm5 hft5 hfm5 hr5 hw4 hw5 hH'
            go_wp2_with fail
            rw [HW4.out, HW5.out]
            go_loopw [10] (fun x wq => ∃ i : Nat, x = .int .i64 i ∧ i ≤ l.length ∧ Only B0 M w5 wq ∧ ∀ d v, Wild w5 B0 M d v → Wild wq B0 M d v) (fun x _ => l.length - (intOf x).toNat)
            case atStart => exact ⟨0, rfl, by omega, Only.refl _ _ _, fun _ _ h => h⟩
            case round =>
              obtain ⟨i, rfl, hi', hO, hK⟩ := hrel
              by_cases hlt : i < l.length
              · obtain ⟨_, _, _, _, _, _, he, hr⟩ := hK _ _ hW5
                simp only [Value.agg.injEq, Array.mk.injEq, List.cons.injEq, Value.slice.injEq, Value.int.injEq, and_true, true_and] at he
                obtain ⟨rfl, rfl, rfl, rfl, rfl⟩ := he
                obtain ⟨b, hbb, hb1, hb2, hr⟩ := hr.resolve_left (by omega)
                simp only [Option.some.injEq, Addr.mk.injEq, and_true] at hbb
                subst hbb
                obtain ⟨k0, n0, a0, len0, cap0, c0, c1, c2, f0, f1, f2, hw⟩ := hr i hlt
                clear hr
                go_wp2_with fail
                refine (spoil_any B0 M _ _ _ hw (by have := hO.size; omega)).mono ?_
                rintro e w6 ⟨rfl, hO1, hK1⟩
                have hO2 := hO.trans hO1
                have hK2 : ∀ d v, Wild w5 B0 M d v → Wild w6 B0 M d v := fun d v h => hK1 d v (hK d v h)
                clear hO hO1 hK hK1 c0 c1 c2 f0 f1 f2 hw
                obtain ⟨_, _, _, _, _, _, he, hr⟩ := hK2 _ _ hW5
                simp only [Value.agg.injEq, Array.mk.injEq, List.cons.injEq, Value.slice.injEq, Value.int.injEq, and_true, true_and] at he
                obtain ⟨rfl, rfl, rfl, rfl, rfl⟩ := he
                obtain ⟨b, hbb, hb1, hb2, hr⟩ := hr.resolve_left (by omega)
                simp only [Option.some.injEq, Addr.mk.injEq, and_true] at hbb
                subst hbb
                obtain ⟨k0, n0, a0, len0, cap0, c0, c1, c2, f0, f1, f2, hw⟩ := hr i hlt
                clear hr hw
                go_wp2_with fail
                go_roundw
                case rel =>
                  exact ⟨i + 1, by go_num, by omega, ((hO2.set (p := ⟨B0, i * 3, none⟩) hb1 hb2 _).set (p := ⟨B0, i * 3 + 1, none⟩) hb1 hb2 _).set (p := ⟨B0, i * 3 + 2, none⟩) hb1 hb2 _, fun d v hv => (hK2 d v hv).store 98 c0 c1 c2⟩
                case measure => simp [intOf]; omega
              · have hii : i = l.length := by omega
                subst hii
                have n4 : decide ((l.length : Int) < (l.length : Int)) = false := by simp
                clear hlt hi' hK
                obtain ⟨_, hwt5, hwm5, hft5, hfm5, hr5, hBI5⟩ := H1.out
                rename World => wq
                have v0 := hO.cell (.inr (show M ≤ H by omega)) z0
                have v1 := hO.cell (.inr (show M ≤ H by omega)) z1
                have v2 := hO.cell (.inr (show M ≤ H by omega)) z2
                have u0 := hO.cell (.inr (show M ≤ H + 1 by omega)) y0
                have u1 := hO.cell (.inr (show M ≤ H + 1 by omega)) y1
                have u2 := hO.cell (.inr (show M ≤ H + 1 by omega)) y2
                have hftq := (hO.fin hft5).vin
                have hfmq := (hO.fin hfm5).vin
                have hwtq := Wild.only hO (.inr (Nat.le_refl M)) hwt5
                have hwmq := Wild.only hO (.inr (Nat.le_refl M)) hwm5
                have hBq : Below w.heap.size w wq := hBI5.trans ((hO.below (by omega)).mono hle)
                have hrq := hr.below hBq
                have hHq : H + 1 < wq.heap.size := by have := hO.size; omega
                have hs3 := (VT.same_iff (.mk 3 0 l) (.mk 3 0 l)).2 rfl
                have hs4 := (VT.same_iff (.mk 4 0 l) (.mk 4 0 l)).2 rfl
                have HS3 := Lib.hid hs3
                have HS4 := Lib.hid hs4
                clear hO hft5 hfm5 hwt5 hwm5 hr5 hBI5 z0 z1 z2 y0 y1 y2 hs3 hs4 hW5 hr H1
                go_wp2_with fail
                refine (rsame_any 6000 (.mk 3 0 l) (.mk 3 0 l) _ _ _ (by simp only [VT.size]; omega) hftq (VIn.shut hlen hrq)).mono ?_
                rintro e w6 ⟨rfl, hb6⟩
                rw [HS3.out]
                have a0 := cell_stays hb6 u0
                have a1 := cell_stays hb6 u1
                have a2 := cell_stays hb6 u2
                have b0 := cell_stays hb6 v0
                have b1 := cell_stays hb6 v1
                have b2 := cell_stays hb6 v2
                have hfm6 := hfmq.below hb6
                have hr6 := hrq.below hb6
                have hwt6 := Wild.below hb6 hwtq
                have hwm6 := Wild.below hb6 hwmq
                have hB6 := hBq.trans (hb6.mono hBq.size)
                have hH6 : H + 1 < w6.heap.size := by have := hb6.size; omega
                clear hb6 hftq hfmq hrq hwtq hwmq hBq hHq u0 u1 u2 v0 v1 v2
                go_wp2_with fail
                refine (rsame_any 6000 (.mk 4 0 l) (.mk 4 0 l) _ _ _ (by simp only [VT.size]; omega) hfm6 (VIn.shut hlen hr6)).mono ?_
                rintro e w7 ⟨rfl, hb7⟩
                rw [HS4.out]
                have u0 := cell_stays hb7 a0
                have u1 := cell_stays hb7 a1
                have u2 := cell_stays hb7 a2
                have v0 := cell_stays hb7 b0
                have v1 := cell_stays hb7 b1
                have v2 := cell_stays hb7 b2
                have hwt7 := Wild.below hb7 hwt6
                have hwm7 := Wild.below hb7 hwm6
                have hB7 := hB6.trans (hb7.mono hB6.size)
                have hH7 : H + 1 < w7.heap.size := by have := hb7.size; omega
                clear hb7 hfm6 hr6 hwt6 hwm6 hB6 hH6 a0 a1 a2 b0 b1 b2
                go_wp2_with fail
                refine (spoil_any M H _ _ _ hwt7 (by omega)).mono ?_
                rintro e w8 ⟨rfl, hO8, hK8⟩
                have a0 := hO8.cell (.inr (show H ≤ H + 1 by omega)) u0
                have a1 := hO8.cell (.inr (show H ≤ H + 1 by omega)) u1
                have a2 := hO8.cell (.inr (show H ≤ H + 1 by omega)) u2
                have hwm8 := hK8 _ _ hwm7
                have hB8 : Below w.heap.size w w8 := hB7.trans ((hO8.below (by omega)).mono (by omega))
                have hH8 : H + 1 < w8.heap.size := by have := hO8.size; omega
                clear hO8 hK8 hwt7 hwm7 hB7 hH7 u0 u1 u2 v0 v1 v2
                go_wp2_with fail
                refine (spoil_any M H _ _ _ hwm8 (by omega)).mono ?_
                rintro e w9 ⟨rfl, hO9, hK9⟩
                have hB9 : Below w.heap.size w w9 := hB8.trans ((hO9.below (by omega)).mono (by omega))
                clear hO9 hK9 hwm8 hB8 hH8 a0 a1 a2
                go_wp2_with fail
                go_roundw
                case rel => exact ⟨rd + 1, by go_num, by omega, hB9⟩
                case measure => simp [intOf]; omega
      · have n4 : decide ((rd : Int) < 2) = false := by simp; omega
        go_wp2_with fail
        refine (bool_any true _).mono ?_
        rintro e w2 ⟨rfl, hb2⟩
        have hB2 := hB.trans (hb2.mono hB.size)
        go_wp2_with fail
        refine (bool_any false _).mono ?_
        rintro e w3 ⟨rfl, hb3⟩
        have hB3 := hB2.trans (hb3.mono hB2.size)
        clear hb2 hb3 hB hB2
        go_wp2_with fail
        obtain ⟨w4, hw4, m4, s4, x0, x1, x2, _⟩ := box3 w3 (.int .u8 2) (.int .i64 (boolI true)) (.slice none 0 0) 27
        obtain ⟨w5, hw5, m5, s5, y0, y1, y2, _⟩ := box3 w4 (.int .u8 2) (.int .i64 (boolI false)) (.slice none 0 0) 27
        have hH' : w4.heap.size = w3.heap.size + 1 := by rw [← hw4]; simp
        have z0 := cell_stays m5 x0
        have z1 := cell_stays m5 x1
        have z2 := cell_stays m5 x2
        rw [hH'] at y0 y1 y2
        rw [hw4, hw5]
        have hB5 := hB3.trans ((m4.trans (m5.mono m4.size)).mono hB3.size)
        obtain ⟨S, hS⟩ : ∃ S, w3.heap.size = S := ⟨_, rfl⟩
        rw [hS] at z0 z1 z2 y0 y1 y2 ⊢
        clear hw4 hw5 m4 m5 s4 s5 x0 x1 x2 hH' hS hB3
        have hsn := (VT.same_iff (.mk 1 n []) (.mk 1 n [])).2 rfl
        have hst := (VT.same_iff (.mk 2 1 []) (.mk 2 1 [])).2 rfl
        have hsf := (VT.same_iff (.mk 2 0 []) (.mk 2 0 [])).2 rfl
        have HSN := Lib.hid hsn
        have HST := Lib.hid hst
        have HSF := Lib.hid hsf
        clear hsn hst hsf
        refine (num_any n _).mono ?_
        rintro e w6 ⟨rfl, hb6⟩
        have v0 := cell_stays hb6 z0
        have v1 := cell_stays hb6 z1
        have v2 := cell_stays hb6 z2
        have u0 := cell_stays hb6 y0
        have u1 := cell_stays hb6 y1
        have u2 := cell_stays hb6 y2
        have hB6 := hB5.trans (hb6.mono hB5.size)
        clear hb6 hB5 z0 z1 z2 y0 y1 y2
        go_wp2_with fail
        refine (rsame_any 6000 (.mk 1 n []) (.mk 1 n []) _ _ _ (by simp [VT.size, VT.sizes]) (VIn.shut (by simp) vrow_nil) (VIn.shut (by simp) vrow_nil)).mono ?_
        rintro e w7 ⟨rfl, hb7⟩
        rw [HSN.out]
        have z0 := cell_stays hb7 v0
        have z1 := cell_stays hb7 v1
        have z2 := cell_stays hb7 v2
        have y0 := cell_stays hb7 u0
        have y1 := cell_stays hb7 u1
        have y2 := cell_stays hb7 u2
        have hB7 := hB6.trans (hb7.mono hB6.size)
        clear hb7 hB6 v0 v1 v2 u0 u1 u2
        go_wp2_with fail
        refine (rsame_any 6000 (.mk 2 1 []) (.mk 2 1 []) _ _ _ (by simp [VT.size, VT.sizes]) (VIn.shut (by simp) vrow_nil) (VIn.shut (by simp) vrow_nil)).mono ?_
        rintro e w8 ⟨rfl, hb8⟩
        rw [HST.out]
        have v0 := cell_stays hb8 y0
        have v1 := cell_stays hb8 y1
        have v2 := cell_stays hb8 y2
        have hB8 := hB7.trans (hb8.mono hB7.size)
        clear hb8 hB7 z0 z1 z2 y0 y1 y2
        go_wp2_with fail
        refine (rsame_any 6000 (.mk 2 0 []) (.mk 2 0 []) _ _ _ (by simp [VT.size, VT.sizes]) (VIn.shut (by simp) vrow_nil) (VIn.shut (by simp) vrow_nil)).mono ?_
        rintro e w9 ⟨rfl, hb9⟩
        rw [HSF.out]
        have hB9 := hB8.trans (hb9.mono hB8.size)
        clear hb9 hB8 v0 v1 v2
        go_wp2_with fail
        refine (awake_any _).mono ?_
        rintro e w10 ⟨rfl, hb10⟩
        go_wp2_with fail
        go_ret
        exact ⟨rfl, hB9.trans (hb10.mono hB9.size)⟩
end Go.Proofs.Ytcfpgnobhmldbaa
