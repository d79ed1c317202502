/- ValParts: for every value and every row of values that can be read the law returns true, and they read afterwards as before. -/
import Derived.Test.YtcfpgnobhmldbaaVAwake
import Derived.Test.YtcfpgnobhmldbaaVWeigh
import Derived.Test.YtcfpgnobhmldbaaVFrame
import Derived.Test.YtcfpgnobhmldbaaVBox
import Derived.Test.YtcfpgnobhmldbaaVMath
import Derived.Test.YtcfpgnobhmldbaaVWalkD
import Derived.Deep.DeepCutAuto
namespace Go.Proofs.Ytcfpgnobhmldbaa
open Go.ChangeShapes Go.WideShapes Go.ChangeAt Go.RowKit

theorem VT.may_iff (t : VT) : t.may = true ↔ t.first = 0 ∧ t.deep ≤ 128 ∧ t.size ≤ 4096 := by
  unfold VT.may VT.check
  by_cases h1 : t.first = 0
  · by_cases h2 : 128 < t.deep
    · simp [h1, h2]; omega
    · by_cases h3 : 4096 < t.size
      · simp [h1, h2, h3]
      · simp [h1, h2, h3]; omega
  · simp [h1]
theorem VT.firsts_iff : ∀ l : List VT, VT.firsts l = 0 ↔ ∀ x ∈ l, x.first = 0
  | [] => by simp [VT.firsts]
  | a :: l => by
    rw [VT.firsts]
    by_cases h : a.first = 0
    · simp [h, VT.firsts_iff l]
    · simp [h]
theorem VT.mem_size {x : VT} : ∀ {l : List VT}, x ∈ l → x.size ≤ VT.sizes l
  | a :: l, h => by
    rw [VT.sizes]
    rcases List.mem_cons.1 h with rfl | h
    · omega
    · have := VT.mem_size h; omega
theorem VT.mem_deep {x : VT} : ∀ {l : List VT}, x ∈ l → x.deep ≤ VT.deeps l
  | a :: l, h => by
    rw [VT.deeps]
    rcases List.mem_cons.1 h with rfl | h
    · omega
    · have := VT.mem_deep h; omega
/-- the items of a value that may be may be. -/
theorem VT.may_items {k n : Int} {its : List VT} (h : (VT.mk k n its).may = true) {x : VT} (hx : x ∈ its) : x.may = true := by
  obtain ⟨h1, h2, h3⟩ := (VT.may_iff _).1 h
  rw [VT.first] at h1; rw [VT.deep] at h2; rw [VT.size] at h3
  have hw : VT.firsts its = 0 := by
    by_cases e : VT.wrong k n its.length = 0
    · simpa [e] using h1
    · rw [if_pos e] at h1; exact absurd h1 e
  exact (VT.may_iff x).2 ⟨(VT.firsts_iff its).1 hw x hx, by have := VT.mem_deep hx; omega, by have := VT.mem_size hx; omega⟩
theorem VT.may_row (k : Int) (hk : k = 3 ∨ k = 4) (l : List VT) : (VT.mk k 0 l).may = (decide (l.length ≤ 64) && l.all VT.may && decide ((VT.mk 3 0 l).deep ≤ 128) && decide ((VT.mk 3 0 l).size ≤ 4096)) := by
  have hd : (VT.mk k 0 l).deep = (VT.mk 3 0 l).deep := by rw [VT.deep, VT.deep]
  have hs : (VT.mk k 0 l).size = (VT.mk 3 0 l).size := by rw [VT.size, VT.size]
  have hw : VT.wrong k 0 l.length = if 64 < l.length then 5 else 0 := by
    unfold VT.wrong; rcases hk with rfl | rfl <;> simp
  rw [Bool.eq_iff_iff, VT.may_iff, VT.first, hw, hd, hs]
  simp only [Bool.and_eq_true, decide_eq_true_eq, List.all_eq_true]
  constructor
  · rintro ⟨h1, h2, h3⟩
    have h64 : l.length ≤ 64 := by
      by_cases e : 64 < l.length
      · rw [if_pos e] at h1; simp at h1
      · omega
    rw [if_neg (by rw [if_neg (by omega)]; simp)] at h1
    refine ⟨⟨⟨h64, fun x hx => (VT.may_iff x).2 ⟨(VT.firsts_iff l).1 h1 x hx, ?_, ?_⟩⟩, h2⟩, h3⟩
    · have := VT.mem_deep hx; rw [VT.deep] at h2; omega
    · have := VT.mem_size hx; rw [VT.size] at h3; omega
  · rintro ⟨⟨⟨h64, hm⟩, h2⟩, h3⟩
    refine ⟨?_, h2, h3⟩
    rw [if_neg (by rw [if_neg (by omega)]; simp)]
    exact (VT.firsts_iff l).2 fun x hx => ((VT.may_iff x).1 (hm x hx)).1
theorem all_take {α : Type} {f : α → Bool} {l : List α} {i : Nat} (h : i < l.length) : (l.take (i + 1)).all f = ((l.take i).all f && f l[i]) := by
  rw [List.take_add_one, List.getElem?_eq_getElem h, Option.toList_some, List.all_append]; simp

theorem VIn.row {w : World} {k n : Int} {l : List VT} {a : Option Addr} {cap : Nat} (h : VIn w (.mk k n l) (.agg #[.int .u8 k, .int .i64 n, .slice a l.length cap])) : VRow w l a := by
  obtain ⟨a', cap', _, he, hr⟩ := h.open
  simp only [Value.agg.injEq, Array.mk.injEq, List.cons.injEq, Value.slice.injEq, and_true, true_and] at he
  rw [he.1]; exact hr
set_option maxRecDepth 100000 in
set_option maxHeartbeats 4000000 in
theorem parts_any (t : VT) (v : Value) (l : List VT) (a : Option Addr) (cap : Nat) (w : World) (hv : VIn w t v) (hlen : l.length ≤ 3518437208780) (hr : VRow w l a) :
    Calls Try.prog 7 #[v, .slice a l.length cap] w fun e w' => e = .returned (.bool true) ∧ Below w.heap.size w w' := by
  obtain ⟨k, n, its⟩ := t
  obtain ⟨a0, cap0, hlen0, rfl, hr0⟩ := hv.open
  obtain ⟨w0, hw0, m0, s0, q0, q1, q2, _⟩ := box3 w (.int .u8 k) (.int .i64 n) (.slice a0 its.length cap0) 27
  obtain ⟨S, hS⟩ : ∃ S, w.heap.size = S := ⟨_, rfl⟩
  rw [hS] at q0 q1 q2 s0
  have hv0 := hv.below m0
  have hr0' := hr.below m0
  have hits := hr0.below m0
  have hB := Below.refl w0.heap.size w0
  obtain ⟨w1, hw1, m1, s1, p0, p1, p2, _⟩ := box3 w0 (.int .u8 k) (.int .i64 n) (.slice a0 its.length cap0) 27
  have hB1 := hB.trans m1
  cases hl : VT.long [.mk k n its] with
  | true =>
    go_enter Try.func7, Try.ntmps7
    go_wp2_with fail
    refine (long_any [.mk k n its] _ _ _ (by simp) (vrow_cons p0 p1 p2 (hv0.below m1) vrow_nil)).mono ?_
    rintro e w2 ⟨rfl, hb2⟩
    rw [hl]
    have hB2 := hB1.trans (hb2.mono hB1.size)
    go_wp2_with fail
    refine (awake_any _).mono ?_
    rintro e w3 ⟨rfl, hb3⟩
    have hB3 := hB2.trans (hb3.mono hB2.size)
    go_wp2_with fail
    go_ret
    exact ⟨rfl, m0.trans (hB3.mono m0.size)⟩
  | false =>
    cases hl' : VT.long l with
    | true =>
      go_enter Try.func7, Try.ntmps7
      go_wp2_with fail
      refine (long_any [.mk k n its] _ _ _ (by simp) (vrow_cons p0 p1 p2 (hv0.below m1) vrow_nil)).mono ?_
      rintro e w2 ⟨rfl, hb2⟩
      rw [hl]
      have hB2 := hB1.trans (hb2.mono hB1.size)
      go_wp2_with fail
      refine (long_any l a cap _ hlen (hr0'.below hB2)).mono ?_
      rintro e w4 ⟨rfl, hb4⟩
      rw [hl']
      have hB4 := hB2.trans (hb4.mono hB2.size)
      go_wp2_with fail
      refine (awake_any _).mono ?_
      rintro e w3 ⟨rfl, hb3⟩
      have hB3 := hB4.trans (hb3.mono hB4.size)
      go_wp2_with fail
      go_ret
      exact ⟨rfl, m0.trans (hB3.mono m0.size)⟩
    | false =>
      have hs := VT.not_long hl
      have hs' := VT.not_long hl'
      have hln := VT.length_le_sizes l
      have hln0 := VT.length_le_sizes its
      have hsz : (VT.mk k n its).size ≤ 6000 := by simp only [VT.sizes] at hs; omega
      have hsz0 : VT.sizes its ≤ 6000 := by rw [VT.size] at hsz; omega
      go_enter Try.func7, Try.ntmps7
      go_wp2_with fail
      refine (long_any [.mk k n its] _ _ _ (by simp) (vrow_cons p0 p1 p2 (hv0.below m1) vrow_nil)).mono ?_
      rintro e w2 ⟨rfl, hb2⟩
      rw [hl]
      have hB2 := hB1.trans (hb2.mono hB1.size)
      go_wp2_with fail
      refine (long_any l a cap _ hlen (hr0'.below hB2)).mono ?_
      rintro e w4 ⟨rfl, hb4⟩
      rw [hl']
      have hB4 := hB2.trans (hb4.mono hB2.size)
      go_wp2_with fail
      refine (awake_any _).mono ?_
      rintro e w3 ⟨rfl, hb3⟩
      have hB3 := hB4.trans (hb3.mono hB4.size)
      clear hb2 hb3 hb4 hB1 hB2 hB4 m1 p0 p1 p2 hv hr hs hl hl' hB
      obtain ⟨b, hb⟩ : ∃ b, b = (VT.mk k n its).may := ⟨_, rfl⟩
      have hmay : b = true → ∀ x ∈ its, x.may = true := fun h x hx => VT.may_items (hb.symm.trans h) hx
      have HB := Lib.hid hb
      have HM := Lib.hid hmay
      clear hb hmay
      go_wp2_with fail
      go_loopw [5] (fun x wr => ∃ i : Nat, x = .int .i64 i ∧ i ≤ its.length ∧ Below w0.heap.size w0 wr) (fun x _ => its.length - (intOf x).toNat)
      case atStart => exact ⟨0, rfl, by omega, hB3⟩
      case round =>
        obtain ⟨i, rfl, hi, hB⟩ := hrel
        have g0 := cell_stays hB q0
        have g1 := cell_stays hB q1
        have g2 := cell_stays hB q2
        have hvr := hv0.below hB
        by_cases hlt : i < its.length
        · obtain ⟨b', o, ho, ax, cx, d0, d1, d2, hx⟩ := (hits.below hB).got i hlt
          subst ho
          have hxs := VT.sizes_get hlt
          go_wp2_with fail
          refine (may_any _ _ _ (by omega) hvr).mono ?_
          rintro e w5 ⟨rfl, hb5⟩
          rw [← HB.out]
          have hB5 := hB.trans (hb5.mono hB.size)
          have z2 := cell_stays hb5 g2
          have e0 := cell_stays hb5 d0
          have e1 := cell_stays hb5 d1
          have e2 := cell_stays hb5 d2
          have hx5 := hx.below hb5
          clear hB hb5 g0 g1 g2 d0 d1 d2 hx
          cases b
          · go_wp2_with fail
            go_roundw
            case rel => exact ⟨i + 1, by go_num, by omega, hB5⟩
            case measure => simp [intOf]; omega
          · have hmi := HM.out rfl its[i] (List.getElem_mem hlt)
            have HMI := Lib.hid hmi; clear hmi
            go_wp2_with fail
            refine (may_any _ _ _ (by omega) hx5).mono ?_
            rintro e w6 ⟨rfl, hb6⟩
            rw [HMI.out]
            have hB6 := hB5.trans (hb6.mono hB5.size)
            clear hB5 hb6 z2 e0 e1 e2
            go_wp2_with fail
            go_roundw
            case rel => exact ⟨i + 1, by go_num, by omega, hB6⟩
            case measure => simp [intOf]; omega
        · have hii : i = its.length := by omega
          subst hii
          have n4 : decide ((its.length : Int) < (its.length : Int)) = false := by simp
          have hok : decide ((l.length : Int) ≤ 64) = decide (l.length ≤ 64) := by simp; omega
          have HOK := Lib.hid hok
          have hmm := VT.may_row 3 (.inl rfl) l
          have hmm' := VT.may_row 4 (.inr rfl) l
          have HM3 := Lib.hid hmm
          have HM4 := Lib.hid hmm'
          have k1 : (VT.mk 3 0 l).size ≤ 100000 := by simp only [VT.size]; omega
          have k2 : (VT.mk 4 0 l).size ≤ 100000 := by simp only [VT.size]; omega
          have k3 : (VT.mk 3 0 l).deep ≤ 100000 := by have := VT.deep_le (VT.mk 3 0 l); omega
          have hr4 := hr0'.below hB
          clear hok hmm hmm' hlt hi hits hvr HM HB hv0 hr0' hr0
          go_wp2_with fail
          go_loopw [6, 7] (fun x y wr => ∃ i : Nat, x = .bool (decide (l.length ≤ 64) && (l.take i).all VT.may) ∧ y = .int .i64 i ∧ i ≤ l.length ∧ Below w0.heap.size w0 wr ∧ VRow wr l a) (fun _ y _ => l.length - (intOf y).toNat)
          case atStart => exact ⟨0, by simp [HOK.out], rfl, by omega, hB, hr4⟩
          case round =>
            clear hB hr4 g0 g1 g2 n4
            obtain ⟨i, rfl, rfl, hi, hB, hr4⟩ := hrel
            by_cases hlt : i < l.length
            · obtain ⟨b', o, ho, ax, cx, d0, d1, d2, hx⟩ := hr4.got i hlt
              subst ho
              have hxs := VT.sizes_get hlt
              have hal := all_take (f := VT.may) hlt
              have HAL := Lib.hid hal
              clear hal
              obtain ⟨m, hm⟩ : ∃ m, m = (decide (l.length ≤ 64) && (l.take i).all VT.may) := ⟨_, rfl⟩
              rw [← hm]
              have HMM := Lib.hid hm
              clear hm
              cases m
              · go_wp2_with fail
                go_roundw
                case rel => exact ⟨i + 1, by rw [HAL.out, ← Bool.and_assoc, ← HMM.out]; rfl, by go_num, by omega, hB, hr4⟩
                case measure => simp [intOf]; omega
              · go_wp2_with fail
                refine (may_any _ _ _ (by omega) hx).mono ?_
                rintro e w6 ⟨rfl, hb6⟩
                have hB6 := hB.trans (hb6.mono hB.size)
                have hr6 := hr4.below hb6
                clear hB hb6 hr4 d0 d1 d2 hx
                go_wp2_with fail
                go_roundw
                case rel => exact ⟨i + 1, by rw [HAL.out, ← Bool.and_assoc, ← HMM.out]; rfl, by go_num, by omega, hB6, hr6⟩
                case measure => simp [intOf]; omega
            · have hii : i = l.length := by omega
              subst hii
              have n5 : decide ((l.length : Int) < (l.length : Int)) = false := by simp
              rw [List.take_length]
              clear hlt hi
              go_wp2_with fail
              refine (tuple_any l a cap _ hlen hr4).mono ?_
              rintro e w7 ⟨v', rfl, hf, hb7⟩
              obtain ⟨a', cap', hl', rfl, hrt⟩ := hf.open
              have hvt := hf.vin
              have hrt' := VIn.row hvt
              have hB7 := hB.trans (hb7.mono hB.size)
              have hr7 := hr4.below hb7
              clear hb7 hf hB hr4 hrt
              obtain ⟨w8, hw8, m8, s8, g0, g1, g2, _⟩ := box3 w7 (.int .u8 3) (.int .i64 0) (.slice a' l.length cap') 27
              obtain ⟨S8, hS8⟩ : ∃ S, w7.heap.size = S := ⟨_, rfl⟩
              rw [hS8] at g0 g1 g2 s8
              have hB8 := hB7.trans (m8.mono hB7.size)
              have hr8 := hr7.below m8
              have hvt8 := hvt.below m8
              have hrt8 := hrt'.below m8
              clear m8 hvt hrt' hr7 hB7
              obtain ⟨m, hm⟩ : ∃ m, m = (decide (l.length ≤ 64) && l.all VT.may) := ⟨_, rfl⟩
              rw [← hm]
              rw [← hm] at HM3 HM4
              clear hm
              obtain ⟨dd, hdd⟩ : ∃ dd, dd = (VT.mk 3 0 l).deep := ⟨_, rfl⟩
              obtain ⟨ss, hss⟩ : ∃ ss, ss = (VT.mk 3 0 l).size := ⟨_, rfl⟩
              obtain ⟨ok, hok⟩ : ∃ ok, ok = (VT.mk 3 0 l).may := ⟨_, rfl⟩
              rw [← hdd, ← hss] at HM4
              rw [← hdd, ← hss, ← hok] at HM3
              have k4 : dd ≤ 100000 := by omega
              have k5 : ss ≤ 100000 := by omega
              have HDD := Lib.hid hdd
              have HSS := Lib.hid hss
              have HOK2 := Lib.hid hok
              clear hdd hss hok k3
              have hB := Below.refl w8.heap.size w8
              go_upto_region 14 with fail
              go_cut [6] (fun x wx => x = .bool ok ∧ Below w8.heap.size w8 wx)
              case first =>
                cases m
                · go_wp2_with fail
                  go_meet
                  exact ⟨by rw [HM3.out]; rfl, hB⟩
                · go_wp2_with fail
                  refine (deep_any (.mk 3 0 l) _ _ k1 hvt8).mono ?_
                  rintro e w9 ⟨rfl, hb9⟩
                  rw [← HDD.out]
                  have h0 := cell_stays hb9 g0
                  have h1 := cell_stays hb9 g1
                  have h2 := cell_stays hb9 g2
                  have hvt9 := hvt8.below hb9
                  by_cases hd : dd ≤ 128
                  · have hd' : decide ((dd : Int) ≤ 128) = true := by simp; omega
                    go_wp2_with fail
                    refine (size_any (.mk 3 0 l) _ _ k1 hvt9).mono ?_
                    rintro e w10 ⟨rfl, hb10⟩
                    rw [← HSS.out]
                    have hB10 := hb9.trans (hb10.mono hb9.size)
                    clear hb9 hb10 h0 h1 h2
                    go_wp2_with fail
                    go_meet
                    exact ⟨by rw [HM3.out, decide_eq_true hd]; congr 1; rw [Bool.eq_iff_iff]; simp; omega, hB10⟩
                  · have hd' : decide ((dd : Int) ≤ 128) = false := by simp; omega
                    go_wp2_with fail
                    go_meet
                    exact ⟨by rw [HM3.out]; simp; omega, hb9⟩
              case rest =>
                obtain ⟨rfl, hBc⟩ := hcut
                have h0 := cell_stays hBc g0
                have h1 := cell_stays hBc g1
                have h2 := cell_stays hBc g2
                have hvt9 := hvt8.below hBc
                have hrt9 := hrt8.below hBc
                have hr9 := hr8.below hBc
                have hB9 := hB8.trans (hBc.mono hB8.size)
                have hbb : (ok == ok) = true := by simp
                clear hBc hB8 g0 g1 g2 hvt8 hrt8 hr8 hB
                go_wp2_with fail
                refine (may_any (.mk 3 0 l) _ _ k1 hvt9).mono ?_
                rintro e w10 ⟨rfl, hb10⟩
                rw [← HOK2.out]
                have g0 := cell_stays hb10 h0
                have g1 := cell_stays hb10 h1
                have g2 := cell_stays hb10 h2
                have hrt10 := hrt9.below hb10
                have hr10 := hr9.below hb10
                have hB10 := hB9.trans (hb10.mono hB9.size)
                clear hb10 hB9 h0 h1 h2 hvt9 hrt9 hr9
                go_wp2_with fail
                refine (list_any l a cap _ hlen hr10).mono ?_
                rintro e w11 ⟨v', rfl, hf, hb11⟩
                have hvl := hf.vin
                have h0 := cell_stays hb11 g0
                have h1 := cell_stays hb11 g1
                have h2 := cell_stays hb11 g2
                have hrt11 := hrt10.below hb11
                have hr11 := hr10.below hb11
                have hB11 := hB10.trans (hb11.mono hB10.size)
                clear hb11 hB10 g0 g1 g2 hrt10 hr10 hf
                have h43 : (VT.mk 4 0 l).may = ok := by rw [HM4.out, HM3.out]
                have H43 := Lib.hid h43
                clear h43
                go_wp2_with fail
                refine (may_any (.mk 4 0 l) _ _ k2 hvl).mono ?_
                rintro e w12 ⟨rfl, hb12⟩
                rw [H43.out]
                have g0 := cell_stays hb12 h0
                have g1 := cell_stays hb12 h1
                have g2 := cell_stays hb12 h2
                have hrt12 := hrt11.below hb12
                have hr12 := hr11.below hb12
                have hB12 := hB11.trans (hb12.mono hB11.size)
                clear hb12 hB11 h0 h1 h2 hrt11 hr11
                go_wp2_with fail
                refine (rsameAll_any l l _ _ _ _ _ hlen hlen hrt12 hr12).mono ?_
                rintro e w13 ⟨rfl, hb13⟩
                rw [(VT.sameAll_iff l l).2 rfl]
                have hB13 := hB12.trans (hb13.mono hB12.size)
                clear hb13 hB12 g0 g1 g2 hrt12 hr12
                go_wp2_with fail
                go_ret
                exact ⟨rfl, m0.trans (hB13.mono m0.size)⟩
end Go.Proofs.Ytcfpgnobhmldbaa
