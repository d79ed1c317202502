/- ValSizes: for every row of values that can be read the law returns true, and it reads afterwards as it read before. -/
import Derived.Test.YtcfpgnobhmldbaaVAwake
import Derived.Test.YtcfpgnobhmldbaaVWeigh
import Derived.Test.YtcfpgnobhmldbaaVFrame
import Derived.Test.YtcfpgnobhmldbaaVBox
namespace Go.Proofs.Ytcfpgnobhmldbaa
open Go.ChangeShapes Go.WideShapes Go.ChangeAt Go.RowKit

theorem VT.sizes_take {l : List VT} {i : Nat} (h : i < l.length) : VT.sizes (l.take (i + 1)) = VT.sizes (l.take i) + l[i].size := by
  induction l generalizing i with
  | nil => simp at h
  | cons a l ih =>
    cases i with
    | zero => simp [VT.sizes]
    | succ i => simp only [List.take_succ_cons, VT.sizes, List.getElem_cons_succ]; rw [ih (by simpa using h)]; omega
theorem VT.deeps_take {l : List VT} {i : Nat} (h : i < l.length) : VT.deeps (l.take (i + 1)) = max (VT.deeps (l.take i)) l[i].deep := by
  induction l generalizing i with
  | nil => simp at h
  | cons a l ih =>
    cases i with
    | zero => simp [VT.deeps]
    | succ i => simp only [List.take_succ_cons, VT.deeps, List.getElem_cons_succ]; rw [ih (by simpa using h)]; omega
theorem VT.sizes_take_le (l : List VT) (i : Nat) : VT.sizes (l.take i) ≤ VT.sizes l := by
  induction l generalizing i with
  | nil => simp
  | cons a l ih => cases i with
    | zero => simp [VT.sizes]
    | succ i => simp only [List.take_succ_cons, VT.sizes]; have := ih i; omega

set_option maxRecDepth 100000 in
set_option maxHeartbeats 4000000 in
theorem sizes_any (l : List VT) (a : Option Addr) (cap : Nat) (w : World) (hlen : l.length ≤ 3518437208780) (hr : VRow w l a) :
    Calls Try.prog 6 #[.slice a l.length cap] w fun e w' => e = .returned (.bool true) ∧ Below w.heap.size w w' := by
  cases hl : VT.long l with
  | true =>
    go_enter Try.func6, Try.ntmps6
    go_wp2_with fail
    refine (long_any l a cap _ hlen hr).mono ?_
    rintro e w1 ⟨rfl, hb1⟩
    rw [hl]
    go_wp2_with fail
    refine (awake_any _).mono ?_
    rintro e w2 ⟨rfl, hb2⟩
    go_wp2_with fail
    go_ret
    exact ⟨rfl, hb1.trans (hb2.mono hb1.size)⟩
  | false =>
    have hs := VT.not_long hl
    have hln := VT.length_le_sizes l
    go_enter Try.func6, Try.ntmps6
    go_wp2_with fail
    refine (long_any l a cap _ hlen hr).mono ?_
    rintro e w1 ⟨rfl, hb1⟩
    rw [hl]
    go_wp2_with fail
    refine (awake_any _).mono ?_
    rintro e w2 ⟨rfl, hb2⟩
    have hB := hb1.trans (hb2.mono hb1.size)
    clear hb1 hb2
    go_wp2_with fail
    go_loopw [3, 4, 5] (fun x y z wr => ∃ (p d : Int) (i : Nat), x = .int .i64 p ∧ y = .int .i64 d ∧ z = .int .i64 i ∧ i ≤ l.length ∧ p = 1 + VT.sizes (l.take i) ∧ d = 1 + VT.deeps (l.take i) ∧ Below w.heap.size w wr) (fun _ _ z _ => l.length - (intOf z).toNat)
    case atStart => exact ⟨1, 1, 0, rfl, rfl, rfl, by omega, by simp [VT.sizes], by simp [VT.deeps], hB⟩
    case round =>
      obtain ⟨p, d, i, rfl, rfl, rfl, hi, hp, hd, hB⟩ := hrel
      have b0 := VT.sizes_take_le l i
      have b1 := VT.deeps_le (l.take i)
      have b2 : 1 ≤ p ∧ p ≤ 6000 ∧ 1 ≤ d ∧ d ≤ 6000 := by omega
      have HP := Lib.hid hp; have HD := Lib.hid hd
      clear hp hd b0 b1
      by_cases hlt : i < l.length
      · obtain ⟨b, o, rfl, ax, cx, d0, d1, d2, hv⟩ := (hr.below hB).got i hlt
        have hsl := VT.sizes_get hlt
        have hdl := VT.deep_le l[i]
        have e1 := VT.sizes_take hlt
        have e2 := VT.deeps_take hlt
        have E1 := Lib.hid e1; have E2 := Lib.hid e2; clear e1 e2
        go_wp2_with fail
        refine (size_any _ _ _ (by omega) hv).mono ?_
        rintro e w3 ⟨rfl, hb3⟩
        have g0 := cell_stays hb3 d0
        have g1 := cell_stays hb3 d1
        have g2 := cell_stays hb3 d2
        have hv3 := hv.below hb3
        have hB3 := hB.trans (hb3.mono hB.size)
        clear hb3 d0 d1 d2 hv hB
        obtain ⟨q, hq⟩ : ∃ q : Nat, q = l[i].size := ⟨_, rfl⟩
        obtain ⟨r, hrr⟩ : ∃ r : Nat, r = l[i].deep := ⟨_, rfl⟩
        rw [← hq] at hsl hdl
        rw [← hrr] at hdl
        have HQ := Lib.hid hq; have HR := Lib.hid hrr
        rw [← hq]
        clear hq hrr
        go_wp2_with fail
        refine (deep_any _ _ _ (by have := HQ.out; omega) hv3).mono ?_
        rintro e w4 ⟨rfl, hb4⟩
        rw [← HR.out]
        have k0 := cell_regrown (cell_stays hb4 g0)
        have k1 := cell_regrown (cell_stays hb4 g1)
        have k2 := cell_regrown (cell_stays hb4 g2)
        have hv4 := hv3.below hb4
        have hB4 := hB3.trans (hb4.mono hB3.size)
        clear hb4 hv3 hB3 g0 g1 g2
        have c1 := regrown (w := w4) (fun W hW => by have := deep_any l[i] _ W (by have := HQ.out; omega) (hv4.below hW); rwa [← HR.out] at this)
        have c2 := regrown (w := w4) (fun W hW => by have := size_any l[i] _ W (by have := HQ.out; omega) (hv4.below hW); rwa [← HQ.out] at this)
        have C1 := Lib.hid c1; have C2 := Lib.hid c2; clear c1 c2
        have n1 : decide ((r : Int) < 1) = false := by simp; omega
        have n2 : decide ((q : Int) < (r : Int)) = false := by simp; omega
        have n3 : decide (q < r) = false := by simp; omega
        have n4 : (i : Int) < (l.length : Int) := by omega
        go_wp2_with fail
        all_goals
          refine wp_region_quiet_below (by kernel_rfl) (by kernel_rfl) ?_
          repeat (go_big_quiet_step (first | with_reducible exact C1.out _ _ | with_reducible exact C2.out _ _))
          refine wpQuiet_nil ?_
          intro _ hw'
          obtain ⟨⟨dq, osq⟩, hw''⟩ := hw'
          subst hw''
          have hgr := below_regrown w4 dq osq
          go_wp2_with fail
          go_roundw
          case rel => exact ⟨_, _, i + 1, rfl, rfl, by go_num, by omega, by rw [E1.out, HP.out, HQ.out]; omega, by rw [E2.out]; have := HD.out; have := HR.out; omega, hB4.trans (hgr.mono hB4.size)⟩
          case measure => simp [intOf]; omega
      · have hii : i = l.length := by omega
        subst hii
        clear hlt hi
        simp only [List.take_length] at HP HD
        have n4 : decide ((l.length : Int) < (l.length : Int)) = false := by simp
        have hpe := HP.out
        have hde := HD.out
        subst hpe
        subst hde
        go_wp2_with fail
        refine (tuple_any l a cap _ hlen (hr.below hB)).mono ?_
        rintro e w3 ⟨v', rfl, hf, hb3⟩
        obtain ⟨a', cap', hl', rfl, _⟩ := hf.open
        have hv := hf.vin
        have hB3 := hB.trans (hb3.mono hB.size)
        have hr3 := hr.below hB3
        clear hb3 hf hB
        have k1 : (VT.mk 3 0 l).size ≤ 100000 := by simp only [VT.size]; omega
        have k2 : (VT.mk 4 0 l).size ≤ 100000 := by simp only [VT.size]; omega
        have x1 : (VT.mk 3 0 l).size = 1 + VT.sizes l := by simp only [VT.size]
        have x2 : (VT.mk 3 0 l).deep = 1 + VT.deeps l := by simp only [VT.deep, Nat.add_comm]
        have x3 : (VT.mk 4 0 l).size = 1 + VT.sizes l := by simp only [VT.size]
        obtain ⟨w4, hw4, m4, s4, q0, q1, q2, _⟩ := box3 w3 (.int .u8 3) (.int .i64 0) (.slice a' l.length cap') 27
        obtain ⟨S, hS⟩ : ∃ S, w3.heap.size = S := ⟨_, rfl⟩
        rw [hS] at q0 q1 q2 s4
        have hB4 := hB3.trans (m4.mono hB3.size)
        have hv4 := hv.below m4
        have hr4 := hr3.below m4
        clear m4 hv hr3
        go_wp2_with fail
        refine (size_any (.mk 3 0 l) _ _ k1 hv4).mono ?_
        rintro e w5 ⟨rfl, hb5⟩
        rw [x1]
        have q0' := cell_stays hb5 q0
        have q1' := cell_stays hb5 q1
        have q2' := cell_stays hb5 q2
        have hB5 := hB4.trans (hb5.mono hB4.size)
        have hv5 := hv4.below hb5
        have hr5 := hr4.below hb5
        clear hb5
        have t1 : ((1 + VT.sizes l : Nat) : Int) == 1 + (VT.sizes l : Int) := by simp
        have t2 : ((1 + VT.deeps l : Nat) : Int) == 1 + (VT.deeps l : Int) := by simp
        go_wp2_with fail
        refine (deep_any (.mk 3 0 l) _ _ k1 hv5).mono ?_
        rintro e w6 ⟨rfl, hb6⟩
        rw [x2]
        have hB6 := hB5.trans (hb6.mono hB5.size)
        have hr6 := hr5.below hb6
        clear hb6 q0' q1' q2'
        go_wp2_with fail
        refine (list_any l a cap _ hlen hr6).mono ?_
        rintro e w7 ⟨v', rfl, hf, hb7⟩
        obtain ⟨a'', cap'', hl'', rfl, _⟩ := hf.open
        have hv7 := hf.vin
        have hB7 := hB6.trans (hb7.mono hB6.size)
        clear hb7 hf
        go_wp2_with fail
        refine (size_any (.mk 4 0 l) _ _ k2 hv7).mono ?_
        rintro e w8 ⟨rfl, hb8⟩
        rw [x3]
        have hB8 := hB7.trans (hb8.mono hB7.size)
        clear hb8
        go_wp2_with fail
        go_ret
        exact ⟨ret_bool (by go_simp), hB8⟩
end Go.Proofs.Ytcfpgnobhmldbaa
