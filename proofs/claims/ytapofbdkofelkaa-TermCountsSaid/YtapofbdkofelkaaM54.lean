/- Texts of this claim laid into one: TLawWhere. -/
import Derived.Test.YtapofbdkofelkaaM42
import Derived.Test.YtapofbdkofelkaaM37
import Derived.Deep.Cut
import Derived.Deep.CutRange
/- TermWhere: the law's function, walked. -/
namespace Go.Proofs.Ytapofbdkofelkaa
open Go.RowKit

mutual
theorem TT.pre_lean : ∀ t : TT, t.lean = true → ∀ u ∈ t.pre, u.lean = true
  | .mk k v vs lo hi ws p l, h, u, hu => by
    rw [TT.pre] at hu
    rcases List.mem_cons.1 hu with rfl | hu
    · exact h
    · exact TT.pres_lean l (TT.lean_parts h).2 u hu
theorem TT.pres_lean : ∀ l : List TT, TT.leans l = true → ∀ u ∈ TT.pres l, u.lean = true
  | [], _, u, hu => by rw [TT.pres] at hu; simp at hu
  | t :: ts, h, u, hu => by
    rw [TT.leans, Bool.and_eq_true] at h
    rw [TT.pres] at hu
    rcases List.mem_append.1 hu with hu | hu
    · exact TT.pre_lean t h.1 u hu
    · exact TT.pres_lean ts h.2 u hu
end
theorem want_und {A : List Nat} {P : Program} {ops : Array Oper} {Ph : Nat → Value → World → Prop} {o : Oper} {r : Operand → Value} {w : World} (j : Nat) {b : Bool} (d : Nat) (hg : o.guard = some (j, b)) (hj : (ops[j]?).bind (·.dst) = some d) (hv : r (.tmp d) = undef)
    (h : ∀ d, o.dst = some d → Ph d undef w ∧ d ∉ A) :
    (wantedR ops r o = true → OpDoes P o r w fun v w' => (∀ d, o.dst = some d → Ph d v w' ∧ (d ∈ A → IsBlock v w.heap.size)) ∧ Below w.heap.size w w') ∧ (wantedR ops r o = false → ∀ d, o.dst = some d → Ph d undef w ∧ d ∉ A) :=
  ⟨fun hw => by
    unfold wantedR at hw
    rw [hg] at hw
    simp [hj, hv, undef] at hw, fun _ => h⟩
set_option maxRecDepth 100000 in
set_option maxHeartbeats 8000000 in
theorem termWhere_any (t : TT) (x : Value) (v : VT) (y : Value) (w : World) (hx : TIn w t x) (hy : VIn w v y) : Calls Try.prog 10 #[x, y] w fun e w' => e = .returned (.bool true) ∧ Below w.heap.size w w' := by
  obtain ⟨A, rfl, hok⟩ := hx
  obtain ⟨vk, vn, vi⟩ := v
  obtain ⟨va, vc, hvl, rfl, hvr⟩ := hy.open
  obtain ⟨w0, hw0, m0, s0, hc2, _⟩ := row1_new w t A
  obtain ⟨w1, hw1, m1, s1, d0, d1, d2, _⟩ := box3 w0 (.int .u8 vk) (.int .i64 vn) (.slice va vi.length vc) 24
  have hB : Below w.heap.size w w1 := m0.trans (m1.mono (Nat.le_of_lt s0))
  have HX2 : Hid (BoxA w1 w.heap.size t A) := Lib.hid ⟨hc2.below m1, hok.below hB⟩
  have HK : Hid (TOk w1 t A) := Lib.hid HX2.out.2
  have HV : Hid (VIn w1 (.mk vk vn vi) (.agg #[.int .u8 vk, .int .i64 vn, .slice va vi.length vc])) := Lib.hid (hy.below hB)
  have HB1 : Hid (Below w1.heap.size w1 w1) := Lib.hid (Below.refl _ _)
  have HX2B := HX2; have HVB := HV; have HD0 := Lib.hid d0; have HD1 := Lib.hid d1; have HD2 := Lib.hid d2; have HB0 := Lib.hid hB
  clear hc2 hok hy hvr m0 m1
  obtain ⟨lg, hlg⟩ : ∃ lg, lg = TT.long [t] := ⟨_, rfl⟩
  obtain ⟨lv, hlv⟩ : ∃ lv, lv = VT.long [.mk vk vn vi] := ⟨_, rfl⟩
  have HLG := Lib.hid hlg; have HLV := Lib.hid hlv; clear hlg hlv
  unfold TT.val
  go_enter Try.func10, Try.ntmps10
  go_wp2_with (first | refine wpList_load15 (by rfl) (by rfl) (by rfl) HX2.out.1 ?_ | refine wpList_row1 (s := t) (A := A) (by rfl) (by rfl) (by rfl) HX2.out.2 ?_)
  intro w2 hrow hb2
  replace HX2 := Lib.hid (HX2.out.below hb2); replace HV := Lib.hid (HV.out.below hb2)
  replace d0 := cell_stays hb2 d0
  replace d1 := cell_stays hb2 d1
  replace d2 := cell_stays hb2 d2
  replace HB1 := Lib.hid (HB1.out.trans (hb2.mono HB1.out.size))
  replace hB := hB.trans (hb2.mono hB.size)
  clear hb2
  go_wp2_with fail
  refine (tlong_any [t] _ 1 w2 (by simp) hrow).mono ?_
  rintro e w3 ⟨rfl, hb3⟩
  rw [← HLG.out]
  replace HX2 := Lib.hid (HX2.out.below hb3); replace HV := Lib.hid (HV.out.below hb3)
  replace d0 := cell_stays hb3 d0
  replace d1 := cell_stays hb3 d1
  replace d2 := cell_stays hb3 d2
  replace HB1 := Lib.hid (HB1.out.trans (hb3.mono HB1.out.size))
  replace hB := hB.trans (hb3.mono hB.size)
  clear hb3
  clear hrow
  cases lg
  · obtain ⟨w4, hw4, m4, s4, p0, p1, p2, _⟩ := box3 w3 (.int .u8 vk) (.int .i64 vn) (.slice va vi.length vc) 24
    have hvrow : VRow w4 [.mk vk vn vi] (some ⟨w3.heap.size, 0, none⟩) := vrow_cons p0 p1 p2 (HV.out.below m4) vrow_nil
    have e0 := d0; have e1 := d1; have e2 := d2
    replace HX2 := Lib.hid (HX2.out.below m4); replace HV := Lib.hid (HV.out.below m4)
    replace d0 := cell_stays m4 d0
    replace d1 := cell_stays m4 d1
    replace d2 := cell_stays m4 d2
    replace HB1 := Lib.hid (HB1.out.trans (m4.mono HB1.out.size))
    replace hB := hB.trans (m4.mono hB.size)
    clear m4
    clear p0 p1 p2
    go_wp2_with fail
    refine (long_any [.mk vk vn vi] _ 1 _ (by simp) hvrow).mono ?_
    rintro e w5 ⟨rfl, hb5⟩
    rw [← HLV.out]
    replace HX2 := Lib.hid (HX2.out.below hb5); replace HV := Lib.hid (HV.out.below hb5)
    replace d0 := cell_stays hb5 d0
    replace d1 := cell_stays hb5 d1
    replace d2 := cell_stays hb5 d2
    replace HB1 := Lib.hid (HB1.out.trans (hb5.mono HB1.out.size))
    replace hB := hB.trans (hb5.mono hB.size)
    clear hb5
    clear hvrow hw4 s4 e0 e1 e2
    cases lv
    · have hvs : VT.size (.mk vk vn vi) < 6000 := VT.long_one (by rw [← HLV.out])
      go_wp2_with fail
      refine (size_any (.mk vk vn vi) _ _ (by omega) HV.out).mono ?_
      rintro e w6 ⟨rfl, hb6⟩
      replace HX2 := Lib.hid (HX2.out.below hb6); replace HV := Lib.hid (HV.out.below hb6)
      replace d0 := cell_stays hb6 d0
      replace d1 := cell_stays hb6 d1
      replace d2 := cell_stays hb6 d2
      replace HB1 := Lib.hid (HB1.out.trans (hb6.mono HB1.out.size))
      replace hB := hB.trans (hb6.mono hB.size)
      clear hb6
      obtain ⟨vz, hvz⟩ : ∃ vz, vz = VT.size (.mk vk vn vi) := ⟨_, rfl⟩
      rw [← hvz]
      have HVZ := Lib.hid hvz; clear hvz
      by_cases h1000 : 1000 < vz
      · have hd1 : decide ((1000 : Int) < vz) = true := decide_eq_true (by omega)
        go_wp2_with fail
        refine (tawake_any _).mono ?_
        rintro e w9 ⟨rfl, hb9⟩
        go_wp2_with fail
        go_ret
        exact ⟨rfl, hB.trans (hb9.mono hB.size)⟩
      · have hd1 : decide ((1000 : Int) < vz) = false := decide_eq_false (by omega)
        go_wp2_with fail
        refine (tawake_any _).mono ?_
        rintro e w7 ⟨rfl, hb7⟩
        replace HX2 := Lib.hid (HX2.out.below hb7); replace HV := Lib.hid (HV.out.below hb7)
        replace d0 := cell_stays hb7 d0
        replace d1 := cell_stays hb7 d1
        replace d2 := cell_stays hb7 d2
        replace HB1 := Lib.hid (HB1.out.trans (hb7.mono HB1.out.size))
        replace hB := hB.trans (hb7.mono hB.size)
        clear hb7
        obtain ⟨hcn, hln⟩ := TT.not_long HLG.out.symm
        simp only [TT.cnts, TT.leans, Bool.and_eq_true, Nat.add_zero, and_true] at hcn hln
        have HLN := Lib.hid hln; have HCN := Lib.hid hcn
        clear hln hcn
        go_wp2_with (refine wpList_load15 (by rfl) (by rfl) (by rfl) HX2.out.1 ?_)
        refine (tcheck_any t _ _ (by have := HCN.out; omega) HLN.out HX2.out.tin).mono ?_
        rintro e w8 ⟨rfl, hb8⟩
        replace HX2 := Lib.hid (HX2.out.below hb8); replace HV := Lib.hid (HV.out.below hb8)
        replace d0 := cell_stays hb8 d0
        replace d1 := cell_stays hb8 d1
        replace d2 := cell_stays hb8 d2
        replace HB1 := Lib.hid (HB1.out.trans (hb8.mono HB1.out.size))
        replace hB := hB.trans (hb8.mono hB.size)
        clear hb8
        obtain ⟨j, u, hj, hj1, hbefore, hat, hres⟩ := check_where t
        rw [hj1]
        obtain ⟨ec, hec⟩ : ∃ ec, ec = t.check.2 := ⟨_, rfl⟩
        rw [← hec] at hat hres ⊢
        have HJ := Lib.hid hj; have HBEF := Lib.hid hbefore; have HAT := Lib.hid hat; have HRES := Lib.hid hres
        have HMAY : Hid (t.may = (ec == 0)) := Lib.hid (by rw [hec]; rfl)
        clear hj hj1 hbefore hat hres hec
        go_wp2_with (refine wpList_load15 (by rfl) (by rfl) (by rfl) HX2.out.1 ?_)
        refine (tflat_any w1 t.cnt t A w8 [] none 0 (Nat.le_refl _) HK.out HB1.out ⟨Grown.nil _ _ _ _, fun _ h => by simp at h⟩ (fun b' h => by cases h) (by have := HCN.out; simp; omega)).mono ?_
        rintro e w9 ⟨L, a, cap, rfl, hmap, hL, hbL, hsL, _, hoL⟩
        replace HX2 := Lib.hid (HX2B.out.below hbL); replace HV := Lib.hid (HVB.out.below hbL)
        replace d0 := cell_stays hbL HD0.out
        replace d1 := cell_stays hbL HD1.out
        replace d2 := cell_stays hbL HD2.out
        replace HB1 := Lib.hid hbL
        replace hB := HB0.out.trans (hbL.mono HB0.out.size)
        have hmap' : L.map (·.1) = t.pre := by simpa using hmap
        have hlen : L.length = t.cnt := by rw [← TT.pre_length, ← hmap', List.length_map]
        have hjl : j < L.length := by have := (List.getElem?_eq_some_iff.1 HJ.out).1; rw [TT.pre_length] at this; omega
        obtain ⟨b, rfl, hBb, _, _⟩ := hL.get hjl
        have hpre : ∀ i (h : i < L.length), t.pre[i]? = some L[i].1 := fun i h => by rw [← hmap', List.getElem?_map, List.getElem?_eq_getElem h]; rfl
        have HPRE := Lib.hid hpre; have HL := Lib.hid hL
        have hl3 : L.length ≤ 3000 := by have := HCN.out; omega
        have HLE := Lib.hid hlen
        clear hmap hmap' hL hbL hsL hoL hpre hlen
        have hj0 : decide ((j : Int) < 0) = false := decide_eq_false (by omega)
        have hj2 : decide ((L.length : Int) ≤ (j : Int)) = false := decide_eq_false (by omega)
        have hj3 : decide (L.length ≤ j) = false := decide_eq_false (by omega)
        obtain ⟨q0, q1, q2, q3, q4, q5, q6, q7, q8, q9, q10, q11, q12, q13, q14⟩ := HX2.out.1
        go_wp2_with fail
        refine (tmay_any t _ _ (by have := HCN.out; omega) HLN.out HX2.out.tin).mono ?_
        rintro e w10 ⟨rfl, hb10⟩
        rw [HMAY.out]
        have hme : (!(ec == 0) == (ec == 0)) = false := by cases (ec == 0) <;> rfl
        replace HL := Lib.hid (HL.out.below hb10)
        clear q0 q1 q2 q3 q4 q5 q6 q7 q8 q9 q10 q11 q12 q13 q14
        replace HX2 := Lib.hid (HX2.out.below hb10); replace HV := Lib.hid (HV.out.below hb10)
        replace d0 := cell_stays hb10 d0
        replace d1 := cell_stays hb10 d1
        replace d2 := cell_stays hb10 d2
        replace HB1 := Lib.hid (HB1.out.trans (hb10.mono HB1.out.size))
        replace hB := hB.trans (hb10.mono hB.size)
        clear hb10
        go_wp2_with fail
        clear hme hj0 hj2 hj3 hd1
        go_loopw [8] (fun x wr => ∃ i : Nat, x = .int .i64 i ∧ i ≤ j ∧ Below w10.heap.size w10 wr) (fun x _ => j - (intOf x).toNat)
        case atStart => exact ⟨0, rfl, by omega, Below.refl _ _⟩
        case round =>
          obtain ⟨i, rfl, hi, hbr⟩ := hrel
          by_cases hij : i < j
          · as_aux_lemma =>
            have hil : i < L.length := by omega
            obtain ⟨b', eb, _, hcX, hkX⟩ := (HL.out.below hbr).get hil
            cases eb
            have HCX := Lib.hid hcX
            have HT : Hid (TIn wr L[i].1 (TT.val L[i].1 L[i].2)) := Lib.hid ⟨_, rfl, hkX.below (HB1.out.trans (hbr.mono HB1.out.size))⟩
            have HN : Hid (L[i].1.node = 0) := Lib.hid (HBEF.out i _ hij (HPRE.out i hil))
            have HLN2 : Hid (L[i].1.lean = true) := Lib.hid (TT.pre_lean t HLN.out _ (List.mem_of_getElem? (HPRE.out i hil)))
            have hdi : decide ((i : Int) < (j : Int)) = true := decide_eq_true (by omega)
            have hdj : decide (i < j) = true := decide_eq_true hij
            clear hcX hkX
            go_wp2_with (refine wpList_load15 (by rfl) (by rfl) (by rfl) HCX.out ?_)
            refine (tnode_any _ _ _ HLN2.out HT.out).mono ?_
            rintro e wn ⟨rfl, hbn⟩
            rw [HN.out]
            have hb3 := hbr.trans (hbn.mono hbr.size)
            clear hbn
            go_wp2_with fail
            go_roundw
            case rel => exact ⟨i + 1, by go_num, by omega, hb3⟩
            case measure => simp [intOf]; omega
          · have hij2 : i = j := by omega
            have hdi : decide ((i : Int) < (j : Int)) = false := decide_eq_false (by omega)
            have hdj : decide (i < j) = false := decide_eq_false hij
            replace HX2 := Lib.hid (HX2.out.below hbr); replace HV := Lib.hid (HV.out.below hbr)
            replace d0 := cell_stays hbr d0
            replace d1 := cell_stays hbr d1
            replace d2 := cell_stays hbr d2
            replace HB1 := Lib.hid (HB1.out.trans (hbr.mono HB1.out.size))
            replace hB := hB.trans (hbr.mono hB.size)
            obtain ⟨b', eb, _, hcX, hkX⟩ := (HL.out.below hbr).get hjl
            cases eb
            have HCX := Lib.hid hcX
            have hu : L[j].1 = u := by have := HPRE.out j hjl; rw [HJ.out] at this; exact (Option.some.inj this).symm
            have HT : Hid (TIn wr L[j].1 (TT.val L[j].1 L[j].2)) := Lib.hid ⟨_, rfl, hkX.below HB1.out⟩
            have HLN2 : Hid (L[j].1.lean = true) := Lib.hid (TT.pre_lean t HLN.out _ (List.mem_of_getElem? (HPRE.out j hjl)))
            have HU := Lib.hid hu
            clear hcX hkX hbr hu
            go_wp2_with (refine wpList_load15 (by rfl) (by rfl) (by rfl) HCX.out ?_)
            refine (tnode_any _ _ _ HLN2.out HT.out).mono ?_
            rintro e w11 ⟨rfl, hb11⟩
            rw [HU.out]
            obtain ⟨rn, hrn⟩ : ∃ rn, rn = u.node := ⟨_, rfl⟩
            rw [← hrn] at HAT HRES ⊢
            replace HX2 := Lib.hid (HX2.out.below hb11); replace HV := Lib.hid (HV.out.below hb11)
            replace d0 := cell_stays hb11 d0
            replace d1 := cell_stays hb11 d1
            replace d2 := cell_stays hb11 d2
            replace HB1 := Lib.hid (HB1.out.trans (hb11.mono HB1.out.size))
            replace hB := hB.trans (hb11.mono hB.size)
            clear hb11
            clear hrn hdi hdj
            go_upto_region 13 with fail
            go_cut [99] from 40 to 98 (fun s wx => s = .bool false ∧ wx = w11)
            case first =>
              as_aux_lemma =>
              have hat := HAT.out; have hres := HRES.out
              by_cases h0 : rn = 0
              · rcases hres h0 with h | h | h | h
                all_goals (subst h; subst h0; clear hat hres HAT HRES; go_wp2_with fail; go_meet; exact ⟨rfl, rfl⟩)
              · by_cases h9 : ec = 9
                · subst h9
                  by_cases h10 : rn = 9
                  · subst h10
                    clear hat hres HAT HRES
                    go_wp2_with fail
                    all_goals (go_meet; exact ⟨rfl, rfl⟩)
                  · have f1 : (rn == 0) = false := by simp [h0]
                    have f2 : decide (rn = 0) = false := decide_eq_false h0
                    have f3 : (rn == 9) = false := by simp [h10]
                    have f4 : decide (rn = 9) = false := decide_eq_false h10
                    clear hat hres HAT HRES
                    go_wp2_with fail
                    all_goals (go_meet; exact ⟨rfl, rfl⟩)
                · have he : rn = ec := by omega
                  subst he
                  have f1 : (rn == 0) = false := by simp [h0]
                  have f2 : decide (rn = 0) = false := decide_eq_false h0
                  have f3 : (rn == 9) = false := by simp [h9]
                  clear hat hres HAT HRES
                  go_wp2_with fail
                  all_goals (go_meet; exact ⟨rfl, rfl⟩)
            case rest =>
              obtain ⟨rfl, rfl⟩ := hcut
              clear HAT HRES HCX HT HU HLN2 HPRE HL HBEF HJ
              go_wp2_with fail
              have HBV := Lib.hid (fun W (h : Below wc.drew.heap.size wc.drew W) => (Below.refl _ wc).drew.trans h)
              try simp only [List.append_eq, List.cons_append, List.nil_append]
              refine wp_region_allR (kindT [(100, .fixed (TT.val t A)), (101, .fixed (.int .i64 t.Bulk)), (102, .fixed (TT.val t A)), (103, .fixed (.int .i64 t.High)), (10, .fixed (.int .i64 t.Bulk)), (11, .fixed (.int .i64 t.High))]) 167 (by kernel_rfl) (by kernel_rfl) (by rfl) (kindT_mono _) ?_ ?_
              · as_aux_lemma =>
                show ∀ o ∈ [_, _, _, _, _, _], _
                refine (tfm ?_ (tfm ?_ (tfm ?_ (tfm ?_ (tfm ?_ (tfm ?_ tfmnil))))))
                · intro r W hc hf hs hd hB
                  have hBV := HBV.out W hB
                  refine want_n rfl ?_
                  have e2 : r (.tmp 2) = .pointer (some ⟨w.heap.size, 0, none⟩) := hs 2 (of_decide_eq_true (by kernel_rfl))
                  exact st_value (v := TT.val t A) rfl (by decide) (run_load15 (HX2.out.below hBV).1 rfl e2) rfl
                · intro r W hc hf hs hd hB
                  have hBV := HBV.out W hB
                  refine want_n rfl ?_
                  have e100 : r (.tmp 100) = TT.val t A := hd 100 (by kernel_rfl)
                  exact st_call (f := 17) (args := #[TT.val t A]) rfl (by decide) (by go_simp) (made_fix (rfl) (tbulk_any _ _ _ (by have := HCN.out; omega) HLN.out (HX2.out.below hBV).tin))
                · intro r W hc hf hs hd hB
                  have hBV := HBV.out W hB
                  refine want_n rfl ?_
                  have e2 : r (.tmp 2) = .pointer (some ⟨w.heap.size, 0, none⟩) := hs 2 (of_decide_eq_true (by kernel_rfl))
                  exact st_value (v := TT.val t A) rfl (by decide) (run_load15 (HX2.out.below hBV).1 rfl e2) rfl
                · intro r W hc hf hs hd hB
                  have hBV := HBV.out W hB
                  refine want_n rfl ?_
                  have e102 : r (.tmp 102) = TT.val t A := hd 102 (by kernel_rfl)
                  exact st_call (f := 19) (args := #[TT.val t A]) rfl (by decide) (by go_simp) (made_fix (rfl) (thigh_any _ _ _ (by have := HCN.out; omega) HLN.out (HX2.out.below hBV).tin))
                · intro r W hc hf hs hd hB
                  have hBV := HBV.out W hB
                  refine want_n rfl ?_
                  have e101 : r (.tmp 101) = .int .i64 t.Bulk := hd 101 (by kernel_rfl)
                  exact st_value (v := .int .i64 t.Bulk) rfl (by decide) (by go_simp) rfl
                · intro r W hc hf hs hd hB
                  have hBV := HBV.out W hB
                  refine want_n rfl ?_
                  have e103 : r (.tmp 103) = .int .i64 t.High := hd 103 (by kernel_rfl)
                  exact st_value (v := .int .i64 t.High) rfl (by decide) (by go_simp) rfl
              intro f w12 hfd hB'
              have z10 : f 10 = .int .i64 t.Bulk := hfd 10 (of_decide_eq_true (by kernel_rfl))
              have z11 : f 11 = .int .i64 t.High := hfd 11 (of_decide_eq_true (by kernel_rfl))
              have hb12 := HBV.out w12 hB'
              rw [show dstsTo _ _ = [100, 101, 102, 103, 10, 11] from by kernel_rfl]
              simp only [fill, List.setIfInBounds_toArray, List.set_cons_succ, List.set_cons_zero, z10, z11]
              clear hfd z10 z11 hB' HBV
              replace HX2 := Lib.hid (HX2.out.below hb12); replace HV := Lib.hid (HV.out.below hb12)
              replace d0 := cell_stays hb12 d0
              replace d1 := cell_stays hb12 d1
              replace d2 := cell_stays hb12 d2
              replace HB1 := Lib.hid (HB1.out.trans (hb12.mono HB1.out.size))
              replace hB := hB.trans (hb12.mono hB.size)
              clear hb12
              obtain ⟨bu, hbu⟩ : ∃ bu, bu = t.Bulk := ⟨_, rfl⟩
              obtain ⟨hh, hhh⟩ : ∃ hh, hh = t.High := ⟨_, rfl⟩
              rw [← hbu, ← hhh]
              have HBU := Lib.hid hbu; have HHH := Lib.hid hhh
              clear hbu hhh
              go_upto_region 16 with fail
              go_cut [135] from 104 to 134 (fun s wx => s = .bool false ∧ Below w12.heap.size w12 wx)
              case first =>
                as_aux_lemma =>
                obtain ⟨q0, q1, q2, q3, q4, q5, q6, q7, q8, q9, q10, q11, q12, q13, q14⟩ := HX2.out.1
                obtain ⟨mb, hmb⟩ : ∃ mb, mb = t.may := ⟨_, rfl⟩
                obtain ⟨sd, hsd⟩ : ∃ sd, sd = t.sound := ⟨_, rfl⟩
                have HMB := Lib.hid hmb; have HSD := Lib.hid hsd
                have HBD : Hid (sd = true → 1 ≤ bu ∧ 1 ≤ hh ∧ hh ≤ bu ∧ bu ≤ 4096 ∧ hh ≤ 128) := Lib.hid (fun h => by rw [HBU.out, HHH.out]; exact TT.sound_bounds (by rw [← hsd]; exact h))
                have HMS : Hid (mb = true → sd = true) := Lib.hid (fun h => by rw [hsd]; exact TT.may_sound (by rw [← hmb]; exact h))
                have hcnt : t.cnt ≤ 3000000 := by have := HCN.out; omega
                clear hmb hsd d0 d1 d2
                go_wp2_with fail
                refine (tmay_any t _ _ hcnt HLN.out HX2.out.tin).mono ?_
                rintro e wa ⟨rfl, hba⟩
                rw [← HMB.out]
                replace q0 := cell_stays hba q0; replace q1 := cell_stays hba q1; replace q2 := cell_stays hba q2; replace q3 := cell_stays hba q3; replace q4 := cell_stays hba q4; replace q5 := cell_stays hba q5; replace q6 := cell_stays hba q6; replace q7 := cell_stays hba q7; replace q8 := cell_stays hba q8; replace q9 := cell_stays hba q9; replace q10 := cell_stays hba q10; replace q11 := cell_stays hba q11; replace q12 := cell_stays hba q12; replace q13 := cell_stays hba q13; replace q14 := cell_stays hba q14
                replace HX2 := Lib.hid (HX2.out.below hba)
                cases mb
                · go_wp2_with fail
                  refine (sound_any t _ _ hcnt HLN.out HX2.out.tin).mono ?_
                  rintro e wb ⟨rfl, hbb⟩
                  rw [← HSD.out]
                  have hb2 := hba.trans (hbb.mono hba.size)
                  clear hba hbb q0 q1 q2 q3 q4 q5 q6 q7 q8 q9 q10 q11 q12 q13 q14
                  cases sd
                  · go_wp2_with fail
                    all_goals (go_meet; exact ⟨rfl, hb2⟩)
                  · obtain ⟨g1, g2, g3, g4, g5⟩ := HBD.out rfl
                    have n1 : decide ((bu : Int) < 1) = false := decide_eq_false (by omega)
                    have n2 : decide ((hh : Int) < 1) = false := decide_eq_false (by omega)
                    have n3 : decide ((bu : Int) < (hh : Int)) = false := decide_eq_false (by omega)
                    have n4 : decide ((4096 : Int) < (bu : Int)) = false := decide_eq_false (by omega)
                    have n5 : decide ((128 : Int) < (hh : Int)) = false := decide_eq_false (by omega)
                    have n6 : decide (bu < hh) = false := decide_eq_false (by omega)
                    have n7 : decide (4096 < bu) = false := decide_eq_false (by omega)
                    have n8 : decide (128 < hh) = false := decide_eq_false (by omega)
                    have n9 : decide (bu < 1) = false := decide_eq_false (by omega)
                    have n10 : decide (hh < 1) = false := decide_eq_false (by omega)
                    go_wp2_with fail
                    all_goals (go_meet; exact ⟨rfl, hb2⟩)
                · have hs := HMS.out rfl
                  subst hs
                  obtain ⟨g1, g2, g3, g4, g5⟩ := HBD.out rfl
                  have n1 : decide ((bu : Int) < 1) = false := decide_eq_false (by omega)
                  have n2 : decide ((hh : Int) < 1) = false := decide_eq_false (by omega)
                  have n3 : decide ((bu : Int) < (hh : Int)) = false := decide_eq_false (by omega)
                  have n4 : decide ((4096 : Int) < (bu : Int)) = false := decide_eq_false (by omega)
                  have n5 : decide ((128 : Int) < (hh : Int)) = false := decide_eq_false (by omega)
                  have n6 : decide (bu < hh) = false := decide_eq_false (by omega)
                  have n7 : decide (4096 < bu) = false := decide_eq_false (by omega)
                  have n8 : decide (128 < hh) = false := decide_eq_false (by omega)
                  have n9 : decide (bu < 1) = false := decide_eq_false (by omega)
                  have n10 : decide (hh < 1) = false := decide_eq_false (by omega)
                  go_wp2_with fail
                  refine (sound_any t _ _ hcnt HLN.out HX2.out.tin).mono ?_
                  rintro e wb ⟨rfl, hbb⟩
                  rw [← HSD.out]
                  replace q0 := cell_stays hbb q0; replace q1 := cell_stays hbb q1; replace q2 := cell_stays hbb q2; replace q3 := cell_stays hbb q3; replace q4 := cell_stays hbb q4; replace q5 := cell_stays hbb q5; replace q6 := cell_stays hbb q6; replace q7 := cell_stays hbb q7; replace q8 := cell_stays hbb q8; replace q9 := cell_stays hbb q9; replace q10 := cell_stays hbb q10; replace q11 := cell_stays hbb q11; replace q12 := cell_stays hbb q12; replace q13 := cell_stays hbb q13; replace q14 := cell_stays hbb q14
                  replace HX2 := Lib.hid (HX2.out.below hbb)
                  have hb2 := hba.trans (hbb.mono hba.size)
                  clear hba hbb
                  go_wp2_with fail
                  refine (sound_any t _ _ hcnt HLN.out HX2.out.tin).mono ?_
                  rintro e wd ⟨rfl, hbd⟩
                  rw [← HSD.out]
                  have hb3 := hb2.trans (hbd.mono hb2.size)
                  clear hb2 hbd q0 q1 q2 q3 q4 q5 q6 q7 q8 q9 q10 q11 q12 q13 q14
                  go_wp2_with fail
                  all_goals (go_meet; exact ⟨rfl, hb3⟩)
              case rest =>
                obtain ⟨rfl, hbc⟩ := hcut
                obtain ⟨w13, hw13⟩ : ∃ w13, w13 = wc := ⟨_, rfl⟩
                rw [← hw13] at hbc ⊢
                clear hw13
                replace HX2 := Lib.hid (HX2.out.below hbc); replace HV := Lib.hid (HV.out.below hbc)
                replace d0 := cell_stays hbc d0
                replace d1 := cell_stays hbc d1
                replace d2 := cell_stays hbc d2
                replace HB1 := Lib.hid (HB1.out.trans (hbc.mono HB1.out.size))
                replace hB := hB.trans (hbc.mono hB.size)
                clear hbc
                obtain ⟨AC, hAC⟩ : ∃ AC : TA, AC = ⟨va, vc, none, 0, none, 0, none, 0, none, 0, none, 0⟩ := ⟨_, rfl⟩
                go_wp2_with (refine wpList_box15 (t := tConst (.mk vk vn vi)) (A := ⟨va, vc, none, 0, none, 0, none, 0, none, 0, none, 0⟩) (by rfl) (by rfl) (by rfl) (by rfl) (by rfl) (by rfl) (by rfl) (by rfl) ?_)
                intro w14 hcC hb14 _ _
                rw [← hAC] at hcC
                replace HX2 := Lib.hid (HX2.out.below hb14); replace HV := Lib.hid (HV.out.below hb14)
                replace d0 := cell_stays hb14 d0
                replace d1 := cell_stays hb14 d1
                replace d2 := cell_stays hb14 d2
                replace HB1 := Lib.hid (HB1.out.trans (hb14.mono HB1.out.size))
                replace hB := hB.trans (hb14.mono hB.size)
                clear hb14
                have HXC : Hid (BoxA w14 w13.heap.size (tConst (.mk vk vn vi)) AC) := Lib.hid ⟨hcC, by rw [hAC]; exact TOk.of ⟨⟨by simp [tConst, TT.args], by simp [tConst, TT.vs], by simp [tConst, TT.ws]⟩, HV.out, by rw [show (tConst (.mk vk vn vi)).vs = [] from rfl, VRow]; trivial, wrow_nil, pin_none w14, trow_nil⟩⟩
                have HVS : Hid (VT.size (.mk vk vn vi) ≤ 100000) := Lib.hid (by omega)
                have HCC : Hid ((tConst (.mk vk vn vi)).cnt ≤ 3000000 ∧ (tConst (.mk vk vn vi)).lean = true) := Lib.hid ⟨by rw [tConst, TT.cnt, TT.cnts]; decide, by rw [tConst, TT.lean]; simp only [decide_eq_true HVS.out]; decide⟩
                have HD0 := Lib.hid d0; have HD1 := Lib.hid d1; have HD2 := Lib.hid d2
                have HVB : Hid (vz ≤ 100000) := Lib.hid (by rw [HVZ.out]; exact HVS.out)
                obtain ⟨dp, hdp⟩ : ∃ dp, dp = VT.deep (.mk vk vn vi) := ⟨_, rfl⟩
                have HDP := Lib.hid hdp
                have HBV := Lib.hid (fun W (h : Below w14.drew.heap.size w14.drew W) => (Below.refl _ w14).drew.trans h)
                clear hcC hAC hdp d0 d1 d2
                go_wp2_with fail
                try simp only [List.append_eq, List.cons_append, List.nil_append]
                by_cases hm : VT.may (.mk vk vn vi) = true
                · have HM := Lib.hid hm
                  have hchk : VT.check (.mk vk vn vi) = 0 := by unfold VT.may at hm; simpa using hm
                  have hcl := const_law hchk
                  rw [← HVZ.out, ← HDP.out] at hcl
                  have HCL := Lib.hid hcl
                  clear hm hchk hcl
                  refine wp_region_allR (kindT [(138, .fixed (.agg #[.int .u8 vk, .int .i64 vn, .slice va vi.length vc])), (139, .fixed (.bool true)), (140, .fixed (.bool false)), (141, .fixed (.bool false)), (142, .fixed (TT.val (tConst (VT.mk vk vn vi)) AC)), (143, .fixed (.bool true)), (144, .fixed (.bool true)), (145, .fixed (TT.val (tConst (VT.mk vk vn vi)) AC)), (146, .fixed (.int .i64 vz)), (147, .fixed (.agg #[.int .u8 vk, .int .i64 vn, .slice va vi.length vc])), (148, .fixed (.int .i64 vz)), (149, .fixed (.bool true)), (150, .fixed (.bool true)), (151, .fixed (.bool true)), (152, .fixed (TT.val (tConst (VT.mk vk vn vi)) AC)), (153, .fixed (.int .i64 dp)), (154, .fixed (.agg #[.int .u8 vk, .int .i64 vn, .slice va vi.length vc])), (155, .fixed (.int .i64 dp)), (156, .fixed (.bool true)), (157, .fixed (.bool true)), (158, .fixed (.bool true)), (159, .fixed (TT.val (tConst (VT.mk vk vn vi)) AC)), (160, .fixed (.int .i64 (1 + vz))), (161, .fixed (.agg #[.int .u8 vk, .int .i64 vn, .slice va vi.length vc])), (162, .fixed (.int .i64 vz)), (163, .fixed (.int .i64 (1 + vz))), (164, .fixed (.bool true)), (165, .fixed (.bool true)), (166, .fixed (.bool true)), (4, .fixed (.bool true))]) 167 (by kernel_rfl) (by kernel_rfl) (by rfl) (kindT_mono _) ?_ ?_
                  · as_aux_lemma =>
                    show ∀ o ∈ [_, _, _, _, _, _, _, _, _, _, _, _, _, _, _, _, _, _, _, _, _, _, _, _, _, _, _, _, _, _], _
                    refine (tfm ?_ (tfm ?_ (tfm ?_ (tfm ?_ (tfm ?_ (tfm ?_ (tfm ?_ (tfm ?_ (tfm ?_ (tfm ?_ (tfm ?_ (tfm ?_ (tfm ?_ (tfm ?_ (tfm ?_ (tfm ?_ (tfm ?_ (tfm ?_ (tfm ?_ (tfm ?_ (tfm ?_ (tfm ?_ (tfm ?_ (tfm ?_ (tfm ?_ (tfm ?_ (tfm ?_ (tfm ?_ (tfm ?_ (tfm ?_ tfmnil))))))))))))))))))))))))))))))
                    · intro r W hc hf hs hd hB
                      have hBV := HBV.out W hB
                      refine want_n rfl ?_
                      have e3 : r (.tmp 3) = .pointer (some ⟨w0.heap.size, 0, none⟩) := hs 3 (of_decide_eq_true (by kernel_rfl))
                      have g0 := cell_stays hBV HD0.out
                      have g1 := cell_stays hBV HD1.out
                      have g2 := cell_stays hBV HD2.out
                      exact st_value (v := .agg #[.int .u8 vk, .int .i64 vn, .slice va vi.length vc]) rfl (by decide) (by go_simp) rfl
                    · intro r W hc hf hs hd hB
                      have hBV := HBV.out W hB
                      refine want_n rfl ?_
                      have e138 : r (.tmp 138) = .agg #[.int .u8 vk, .int .i64 vn, .slice va vi.length vc] := hd 138 (by kernel_rfl)
                      exact st_call (f := 41) (args := #[.agg #[.int .u8 vk, .int .i64 vn, .slice va vi.length vc]]) rfl (by decide) (by go_simp) (made_fix (by rw [HM.out]) (may_any (VT.mk vk vn vi) _ _ HVS.out (HV.out.below hBV)))
                    · intro r W hc hf hs hd hB
                      have hBV := HBV.out W hB
                      refine want_n rfl ?_
                      have e139 : r (.tmp 139) = .bool true := hd 139 (by kernel_rfl)
                      exact st_value (v := .bool false) rfl (by decide) (by go_simp) rfl
                    · intro r W hc hf hs hd hB
                      have hBV := HBV.out W hB
                      refine want_n rfl ?_
                      have e140 : r (.tmp 140) = .bool false := hd 140 (by kernel_rfl)
                      exact st_value (v := .bool false) rfl (by decide) (by go_simp) rfl
                    · intro r W hc hf hs hd hB
                      have hBV := HBV.out W hB
                      refine want_g 3 141 rfl (by kernel_rfl) (hd 141 (by kernel_rfl) : r (.tmp 141) = .bool false) ?_
                      have e12 : r (.tmp 12) = .pointer (some ⟨w13.heap.size, 0, none⟩) := hs 12 (of_decide_eq_true (by kernel_rfl))
                      exact st_value (v := TT.val (tConst (VT.mk vk vn vi)) AC) rfl (by decide) (run_load15 (HXC.out.below hBV).1 rfl e12) rfl
                    · intro r W hc hf hs hd hB
                      have hBV := HBV.out W hB
                      refine want_g 3 141 rfl (by kernel_rfl) (hd 141 (by kernel_rfl) : r (.tmp 141) = .bool false) ?_
                      have e142 : r (.tmp 142) = TT.val (tConst (VT.mk vk vn vi)) AC := hd 142 (by kernel_rfl)
                      exact st_call (f := 33) (args := #[TT.val (tConst (VT.mk vk vn vi)) AC]) rfl (by decide) (by go_simp) (made_fix (by rw [HCL.out.1]) (sound_any _ _ _ HCC.out.1 HCC.out.2 (HXC.out.below hBV).tin))
                    · intro r W hc hf hs hd hB
                      have hBV := HBV.out W hB
                      refine want_g 3 141 rfl (by kernel_rfl) (hd 141 (by kernel_rfl) : r (.tmp 141) = .bool false) ?_
                      have e143 : r (.tmp 143) = .bool true := hd 143 (by kernel_rfl)
                      exact st_value (v := .bool true) rfl (by decide) (by go_simp) rfl
                    · intro r W hc hf hs hd hB
                      have hBV := HBV.out W hB
                      refine want_g 6 144 rfl (by kernel_rfl) (hd 144 (by kernel_rfl) : r (.tmp 144) = .bool true) ?_
                      have e12 : r (.tmp 12) = .pointer (some ⟨w13.heap.size, 0, none⟩) := hs 12 (of_decide_eq_true (by kernel_rfl))
                      exact st_value (v := TT.val (tConst (VT.mk vk vn vi)) AC) rfl (by decide) (run_load15 (HXC.out.below hBV).1 rfl e12) rfl
                    · intro r W hc hf hs hd hB
                      have hBV := HBV.out W hB
                      refine want_g 6 144 rfl (by kernel_rfl) (hd 144 (by kernel_rfl) : r (.tmp 144) = .bool true) ?_
                      have e145 : r (.tmp 145) = TT.val (tConst (VT.mk vk vn vi)) AC := hd 145 (by kernel_rfl)
                      exact st_call (f := 17) (args := #[TT.val (tConst (VT.mk vk vn vi)) AC]) rfl (by decide) (by go_simp) (made_fix (by rw [HCL.out.2.1]) (tbulk_any _ _ _ HCC.out.1 HCC.out.2 (HXC.out.below hBV).tin))
                    · intro r W hc hf hs hd hB
                      have hBV := HBV.out W hB
                      refine want_g 6 144 rfl (by kernel_rfl) (hd 144 (by kernel_rfl) : r (.tmp 144) = .bool true) ?_
                      have e3 : r (.tmp 3) = .pointer (some ⟨w0.heap.size, 0, none⟩) := hs 3 (of_decide_eq_true (by kernel_rfl))
                      have g0 := cell_stays hBV HD0.out
                      have g1 := cell_stays hBV HD1.out
                      have g2 := cell_stays hBV HD2.out
                      exact st_value (v := .agg #[.int .u8 vk, .int .i64 vn, .slice va vi.length vc]) rfl (by decide) (by go_simp) rfl
                    · intro r W hc hf hs hd hB
                      have hBV := HBV.out W hB
                      refine want_g 6 144 rfl (by kernel_rfl) (hd 144 (by kernel_rfl) : r (.tmp 144) = .bool true) ?_
                      have e147 : r (.tmp 147) = .agg #[.int .u8 vk, .int .i64 vn, .slice va vi.length vc] := hd 147 (by kernel_rfl)
                      exact st_call (f := 39) (args := #[.agg #[.int .u8 vk, .int .i64 vn, .slice va vi.length vc]]) rfl (by decide) (by go_simp) (made_fix (by rw [HVZ.out]) (size_any (VT.mk vk vn vi) _ _ HVS.out (HV.out.below hBV)))
                    · intro r W hc hf hs hd hB
                      have hBV := HBV.out W hB
                      refine want_g 6 144 rfl (by kernel_rfl) (hd 144 (by kernel_rfl) : r (.tmp 144) = .bool true) ?_
                      have e146 : r (.tmp 146) = .int .i64 vz := hd 146 (by kernel_rfl)
                      have e148 : r (.tmp 148) = .int .i64 vz := hd 148 (by kernel_rfl)
                      exact st_value (v := .bool true) rfl (by decide) (by go_simp) rfl
                    · intro r W hc hf hs hd hB
                      have hBV := HBV.out W hB
                      refine want_g 3 141 rfl (by kernel_rfl) (hd 141 (by kernel_rfl) : r (.tmp 141) = .bool false) ?_
                      have e144 : r (.tmp 144) = .bool true := hd 144 (by kernel_rfl)
                      have e149 : r (.tmp 149) = .bool true := hd 149 (by kernel_rfl)
                      exact st_value (v := .bool true) rfl (by decide) (by go_simp) rfl
                    · intro r W hc hf hs hd hB
                      have hBV := HBV.out W hB
                      refine want_g 3 141 rfl (by kernel_rfl) (hd 141 (by kernel_rfl) : r (.tmp 141) = .bool false) ?_
                      have e150 : r (.tmp 150) = .bool true := hd 150 (by kernel_rfl)
                      exact st_value (v := .bool true) rfl (by decide) (by go_simp) rfl
                    · intro r W hc hf hs hd hB
                      have hBV := HBV.out W hB
                      refine want_g 13 151 rfl (by kernel_rfl) (hd 151 (by kernel_rfl) : r (.tmp 151) = .bool true) ?_
                      have e12 : r (.tmp 12) = .pointer (some ⟨w13.heap.size, 0, none⟩) := hs 12 (of_decide_eq_true (by kernel_rfl))
                      exact st_value (v := TT.val (tConst (VT.mk vk vn vi)) AC) rfl (by decide) (run_load15 (HXC.out.below hBV).1 rfl e12) rfl
                    · intro r W hc hf hs hd hB
                      have hBV := HBV.out W hB
                      refine want_g 13 151 rfl (by kernel_rfl) (hd 151 (by kernel_rfl) : r (.tmp 151) = .bool true) ?_
                      have e152 : r (.tmp 152) = TT.val (tConst (VT.mk vk vn vi)) AC := hd 152 (by kernel_rfl)
                      exact st_call (f := 19) (args := #[TT.val (tConst (VT.mk vk vn vi)) AC]) rfl (by decide) (by go_simp) (made_fix (by rw [HCL.out.2.2.1]) (thigh_any _ _ _ HCC.out.1 HCC.out.2 (HXC.out.below hBV).tin))
                    · intro r W hc hf hs hd hB
                      have hBV := HBV.out W hB
                      refine want_g 13 151 rfl (by kernel_rfl) (hd 151 (by kernel_rfl) : r (.tmp 151) = .bool true) ?_
                      have e3 : r (.tmp 3) = .pointer (some ⟨w0.heap.size, 0, none⟩) := hs 3 (of_decide_eq_true (by kernel_rfl))
                      have g0 := cell_stays hBV HD0.out
                      have g1 := cell_stays hBV HD1.out
                      have g2 := cell_stays hBV HD2.out
                      exact st_value (v := .agg #[.int .u8 vk, .int .i64 vn, .slice va vi.length vc]) rfl (by decide) (by go_simp) rfl
                    · intro r W hc hf hs hd hB
                      have hBV := HBV.out W hB
                      refine want_g 13 151 rfl (by kernel_rfl) (hd 151 (by kernel_rfl) : r (.tmp 151) = .bool true) ?_
                      have e154 : r (.tmp 154) = .agg #[.int .u8 vk, .int .i64 vn, .slice va vi.length vc] := hd 154 (by kernel_rfl)
                      exact st_call (f := 42) (args := #[.agg #[.int .u8 vk, .int .i64 vn, .slice va vi.length vc]]) rfl (by decide) (by go_simp) (made_fix (by rw [HDP.out]) (vdeep_any (VT.mk vk vn vi) _ _ HVS.out (HV.out.below hBV)))
                    · intro r W hc hf hs hd hB
                      have hBV := HBV.out W hB
                      refine want_g 13 151 rfl (by kernel_rfl) (hd 151 (by kernel_rfl) : r (.tmp 151) = .bool true) ?_
                      have e153 : r (.tmp 153) = .int .i64 dp := hd 153 (by kernel_rfl)
                      have e155 : r (.tmp 155) = .int .i64 dp := hd 155 (by kernel_rfl)
                      exact st_value (v := .bool true) rfl (by decide) (by go_simp) rfl
                    · intro r W hc hf hs hd hB
                      have hBV := HBV.out W hB
                      refine want_g 3 141 rfl (by kernel_rfl) (hd 141 (by kernel_rfl) : r (.tmp 141) = .bool false) ?_
                      have e151 : r (.tmp 151) = .bool true := hd 151 (by kernel_rfl)
                      have e156 : r (.tmp 156) = .bool true := hd 156 (by kernel_rfl)
                      exact st_value (v := .bool true) rfl (by decide) (by go_simp) rfl
                    · intro r W hc hf hs hd hB
                      have hBV := HBV.out W hB
                      refine want_g 3 141 rfl (by kernel_rfl) (hd 141 (by kernel_rfl) : r (.tmp 141) = .bool false) ?_
                      have e157 : r (.tmp 157) = .bool true := hd 157 (by kernel_rfl)
                      exact st_value (v := .bool true) rfl (by decide) (by go_simp) rfl
                    · intro r W hc hf hs hd hB
                      have hBV := HBV.out W hB
                      refine want_g 20 158 rfl (by kernel_rfl) (hd 158 (by kernel_rfl) : r (.tmp 158) = .bool true) ?_
                      have e12 : r (.tmp 12) = .pointer (some ⟨w13.heap.size, 0, none⟩) := hs 12 (of_decide_eq_true (by kernel_rfl))
                      exact st_value (v := TT.val (tConst (VT.mk vk vn vi)) AC) rfl (by decide) (run_load15 (HXC.out.below hBV).1 rfl e12) rfl
                    · intro r W hc hf hs hd hB
                      have hBV := HBV.out W hB
                      refine want_g 20 158 rfl (by kernel_rfl) (hd 158 (by kernel_rfl) : r (.tmp 158) = .bool true) ?_
                      have e159 : r (.tmp 159) = TT.val (tConst (VT.mk vk vn vi)) AC := hd 159 (by kernel_rfl)
                      exact st_call (f := 13) (args := #[TT.val (tConst (VT.mk vk vn vi)) AC]) rfl (by decide) (by go_simp) (made_fix (by rw [HCL.out.2.2.2]; rfl) (tnodes_any 3000000 (by decide) _ _ _ HCC.out.1 HCC.out.2 (HXC.out.below hBV).tin))
                    · intro r W hc hf hs hd hB
                      have hBV := HBV.out W hB
                      refine want_g 20 158 rfl (by kernel_rfl) (hd 158 (by kernel_rfl) : r (.tmp 158) = .bool true) ?_
                      have e3 : r (.tmp 3) = .pointer (some ⟨w0.heap.size, 0, none⟩) := hs 3 (of_decide_eq_true (by kernel_rfl))
                      have g0 := cell_stays hBV HD0.out
                      have g1 := cell_stays hBV HD1.out
                      have g2 := cell_stays hBV HD2.out
                      exact st_value (v := .agg #[.int .u8 vk, .int .i64 vn, .slice va vi.length vc]) rfl (by decide) (by go_simp) rfl
                    · intro r W hc hf hs hd hB
                      have hBV := HBV.out W hB
                      refine want_g 20 158 rfl (by kernel_rfl) (hd 158 (by kernel_rfl) : r (.tmp 158) = .bool true) ?_
                      have e161 : r (.tmp 161) = .agg #[.int .u8 vk, .int .i64 vn, .slice va vi.length vc] := hd 161 (by kernel_rfl)
                      exact st_call (f := 39) (args := #[.agg #[.int .u8 vk, .int .i64 vn, .slice va vi.length vc]]) rfl (by decide) (by go_simp) (made_fix (by rw [HVZ.out]) (size_any (VT.mk vk vn vi) _ _ HVS.out (HV.out.below hBV)))
                    · intro r W hc hf hs hd hB
                      have hBV := HBV.out W hB
                      refine want_g 20 158 rfl (by kernel_rfl) (hd 158 (by kernel_rfl) : r (.tmp 158) = .bool true) ?_
                      have e162 : r (.tmp 162) = .int .i64 vz := hd 162 (by kernel_rfl)
                      have hz := HVB.out
                      exact st_value (v := .int .i64 (1 + vz)) rfl (by decide) (by go_simp <;> (rw [IntKind.wrap_i64]; omega)) rfl
                    · intro r W hc hf hs hd hB
                      have hBV := HBV.out W hB
                      refine want_g 20 158 rfl (by kernel_rfl) (hd 158 (by kernel_rfl) : r (.tmp 158) = .bool true) ?_
                      have e160 : r (.tmp 160) = .int .i64 (1 + vz) := hd 160 (by kernel_rfl)
                      have e163 : r (.tmp 163) = .int .i64 (1 + vz) := hd 163 (by kernel_rfl)
                      exact st_value (v := .bool true) rfl (by decide) (by go_simp) rfl
                    · intro r W hc hf hs hd hB
                      have hBV := HBV.out W hB
                      refine want_g 3 141 rfl (by kernel_rfl) (hd 141 (by kernel_rfl) : r (.tmp 141) = .bool false) ?_
                      have e158 : r (.tmp 158) = .bool true := hd 158 (by kernel_rfl)
                      have e164 : r (.tmp 164) = .bool true := hd 164 (by kernel_rfl)
                      exact st_value (v := .bool true) rfl (by decide) (by go_simp) rfl
                    · intro r W hc hf hs hd hB
                      have hBV := HBV.out W hB
                      refine want_n rfl ?_
                      have e141 : r (.tmp 141) = .bool false := hd 141 (by kernel_rfl)
                      have e165 : r (.tmp 165) = .bool true := hd 165 (by kernel_rfl)
                      exact st_value (v := .bool true) rfl (by decide) (by go_simp) rfl
                    · intro r W hc hf hs hd hB
                      have hBV := HBV.out W hB
                      refine want_n rfl ?_
                      have e166 : r (.tmp 166) = .bool true := hd 166 (by kernel_rfl)
                      exact st_value (v := .bool true) rfl (by decide) (by go_simp) rfl
                  intro f w15 hfd hB'
                  have z4 : f 4 = .bool true := hfd 4 (of_decide_eq_true (by kernel_rfl))
                  have hb15 := HBV.out w15 hB'
                  rw [show dstsTo _ _ = [138, 139, 140, 141, 142, 143, 144, 145, 146, 147, 148, 149, 150, 151, 152, 153, 154, 155, 156, 157, 158, 159, 160, 161, 162, 163, 164, 165, 166, 4] from by kernel_rfl]
                  simp only [fill, Act.put, List.setIfInBounds_toArray, List.set_cons_succ, List.set_cons_zero, z4]
                  clear hfd z4 hB'
                  go_wp2_with fail
                  go_ret
                  exact ⟨rfl, hB.trans (hb15.mono hB.size)⟩
                · have HM : Hid (VT.may (.mk vk vn vi) = false) := Lib.hid (by simpa using hm)
                  clear hm
                  refine wp_region_allR (kindT [(138, .fixed (.agg #[.int .u8 vk, .int .i64 vn, .slice va vi.length vc])), (139, .fixed (.bool false)), (140, .fixed (.bool true)), (141, .fixed (.bool true)), (142, .fixed undef), (143, .fixed undef), (144, .fixed undef), (145, .fixed undef), (146, .fixed undef), (147, .fixed undef), (148, .fixed undef), (149, .fixed undef), (150, .fixed undef), (151, .fixed undef), (152, .fixed undef), (153, .fixed undef), (154, .fixed undef), (155, .fixed undef), (156, .fixed undef), (157, .fixed undef), (158, .fixed undef), (159, .fixed undef), (160, .fixed undef), (161, .fixed undef), (162, .fixed undef), (163, .fixed undef), (164, .fixed undef), (165, .fixed undef), (166, .fixed (.bool true)), (4, .fixed (.bool true))]) 167 (by kernel_rfl) (by kernel_rfl) (by rfl) (kindT_mono _) ?_ ?_
                  · as_aux_lemma =>
                    show ∀ o ∈ [_, _, _, _, _, _, _, _, _, _, _, _, _, _, _, _, _, _, _, _, _, _, _, _, _, _, _, _, _, _], _
                    refine (tfm ?_ (tfm ?_ (tfm ?_ (tfm ?_ (tfm ?_ (tfm ?_ (tfm ?_ (tfm ?_ (tfm ?_ (tfm ?_ (tfm ?_ (tfm ?_ (tfm ?_ (tfm ?_ (tfm ?_ (tfm ?_ (tfm ?_ (tfm ?_ (tfm ?_ (tfm ?_ (tfm ?_ (tfm ?_ (tfm ?_ (tfm ?_ (tfm ?_ (tfm ?_ (tfm ?_ (tfm ?_ (tfm ?_ (tfm ?_ tfmnil))))))))))))))))))))))))))))))
                    · intro r W hc hf hs hd hB
                      have hBV := HBV.out W hB
                      refine want_n rfl ?_
                      have e3 : r (.tmp 3) = .pointer (some ⟨w0.heap.size, 0, none⟩) := hs 3 (of_decide_eq_true (by kernel_rfl))
                      have g0 := cell_stays hBV HD0.out
                      have g1 := cell_stays hBV HD1.out
                      have g2 := cell_stays hBV HD2.out
                      exact st_value (v := .agg #[.int .u8 vk, .int .i64 vn, .slice va vi.length vc]) rfl (by decide) (by go_simp) rfl
                    · intro r W hc hf hs hd hB
                      have hBV := HBV.out W hB
                      refine want_n rfl ?_
                      have e138 : r (.tmp 138) = .agg #[.int .u8 vk, .int .i64 vn, .slice va vi.length vc] := hd 138 (by kernel_rfl)
                      exact st_call (f := 41) (args := #[.agg #[.int .u8 vk, .int .i64 vn, .slice va vi.length vc]]) rfl (by decide) (by go_simp) (made_fix (by rw [HM.out]) (may_any (VT.mk vk vn vi) _ _ HVS.out (HV.out.below hBV)))
                    · intro r W hc hf hs hd hB
                      have hBV := HBV.out W hB
                      refine want_n rfl ?_
                      have e139 : r (.tmp 139) = .bool false := hd 139 (by kernel_rfl)
                      exact st_value (v := .bool true) rfl (by decide) (by go_simp) rfl
                    · intro r W hc hf hs hd hB
                      have hBV := HBV.out W hB
                      refine want_n rfl ?_
                      have e140 : r (.tmp 140) = .bool true := hd 140 (by kernel_rfl)
                      exact st_value (v := .bool true) rfl (by decide) (by go_simp) rfl
                    · intro r W hc hf hs hd hB
                      have hBV := HBV.out W hB
                      exact want_not 3 141 rfl (by kernel_rfl) (hd 141 (by kernel_rfl)) (fun d e => by cases e; exact ⟨rfl, by simp⟩)
                    · intro r W hc hf hs hd hB
                      have hBV := HBV.out W hB
                      exact want_not 3 141 rfl (by kernel_rfl) (hd 141 (by kernel_rfl)) (fun d e => by cases e; exact ⟨rfl, by simp⟩)
                    · intro r W hc hf hs hd hB
                      have hBV := HBV.out W hB
                      exact want_not 3 141 rfl (by kernel_rfl) (hd 141 (by kernel_rfl)) (fun d e => by cases e; exact ⟨rfl, by simp⟩)
                    · intro r W hc hf hs hd hB
                      have hBV := HBV.out W hB
                      exact want_und 6 144 rfl (by kernel_rfl) (hd 144 (by kernel_rfl)) (fun d e => by cases e; exact ⟨rfl, by simp⟩)
                    · intro r W hc hf hs hd hB
                      have hBV := HBV.out W hB
                      exact want_und 6 144 rfl (by kernel_rfl) (hd 144 (by kernel_rfl)) (fun d e => by cases e; exact ⟨rfl, by simp⟩)
                    · intro r W hc hf hs hd hB
                      have hBV := HBV.out W hB
                      exact want_und 6 144 rfl (by kernel_rfl) (hd 144 (by kernel_rfl)) (fun d e => by cases e; exact ⟨rfl, by simp⟩)
                    · intro r W hc hf hs hd hB
                      have hBV := HBV.out W hB
                      exact want_und 6 144 rfl (by kernel_rfl) (hd 144 (by kernel_rfl)) (fun d e => by cases e; exact ⟨rfl, by simp⟩)
                    · intro r W hc hf hs hd hB
                      have hBV := HBV.out W hB
                      exact want_und 6 144 rfl (by kernel_rfl) (hd 144 (by kernel_rfl)) (fun d e => by cases e; exact ⟨rfl, by simp⟩)
                    · intro r W hc hf hs hd hB
                      have hBV := HBV.out W hB
                      exact want_not 3 141 rfl (by kernel_rfl) (hd 141 (by kernel_rfl)) (fun d e => by cases e; exact ⟨rfl, by simp⟩)
                    · intro r W hc hf hs hd hB
                      have hBV := HBV.out W hB
                      exact want_not 3 141 rfl (by kernel_rfl) (hd 141 (by kernel_rfl)) (fun d e => by cases e; exact ⟨rfl, by simp⟩)
                    · intro r W hc hf hs hd hB
                      have hBV := HBV.out W hB
                      exact want_und 13 151 rfl (by kernel_rfl) (hd 151 (by kernel_rfl)) (fun d e => by cases e; exact ⟨rfl, by simp⟩)
                    · intro r W hc hf hs hd hB
                      have hBV := HBV.out W hB
                      exact want_und 13 151 rfl (by kernel_rfl) (hd 151 (by kernel_rfl)) (fun d e => by cases e; exact ⟨rfl, by simp⟩)
                    · intro r W hc hf hs hd hB
                      have hBV := HBV.out W hB
                      exact want_und 13 151 rfl (by kernel_rfl) (hd 151 (by kernel_rfl)) (fun d e => by cases e; exact ⟨rfl, by simp⟩)
                    · intro r W hc hf hs hd hB
                      have hBV := HBV.out W hB
                      exact want_und 13 151 rfl (by kernel_rfl) (hd 151 (by kernel_rfl)) (fun d e => by cases e; exact ⟨rfl, by simp⟩)
                    · intro r W hc hf hs hd hB
                      have hBV := HBV.out W hB
                      exact want_und 13 151 rfl (by kernel_rfl) (hd 151 (by kernel_rfl)) (fun d e => by cases e; exact ⟨rfl, by simp⟩)
                    · intro r W hc hf hs hd hB
                      have hBV := HBV.out W hB
                      exact want_not 3 141 rfl (by kernel_rfl) (hd 141 (by kernel_rfl)) (fun d e => by cases e; exact ⟨rfl, by simp⟩)
                    · intro r W hc hf hs hd hB
                      have hBV := HBV.out W hB
                      exact want_not 3 141 rfl (by kernel_rfl) (hd 141 (by kernel_rfl)) (fun d e => by cases e; exact ⟨rfl, by simp⟩)
                    · intro r W hc hf hs hd hB
                      have hBV := HBV.out W hB
                      exact want_und 20 158 rfl (by kernel_rfl) (hd 158 (by kernel_rfl)) (fun d e => by cases e; exact ⟨rfl, by simp⟩)
                    · intro r W hc hf hs hd hB
                      have hBV := HBV.out W hB
                      exact want_und 20 158 rfl (by kernel_rfl) (hd 158 (by kernel_rfl)) (fun d e => by cases e; exact ⟨rfl, by simp⟩)
                    · intro r W hc hf hs hd hB
                      have hBV := HBV.out W hB
                      exact want_und 20 158 rfl (by kernel_rfl) (hd 158 (by kernel_rfl)) (fun d e => by cases e; exact ⟨rfl, by simp⟩)
                    · intro r W hc hf hs hd hB
                      have hBV := HBV.out W hB
                      exact want_und 20 158 rfl (by kernel_rfl) (hd 158 (by kernel_rfl)) (fun d e => by cases e; exact ⟨rfl, by simp⟩)
                    · intro r W hc hf hs hd hB
                      have hBV := HBV.out W hB
                      exact want_und 20 158 rfl (by kernel_rfl) (hd 158 (by kernel_rfl)) (fun d e => by cases e; exact ⟨rfl, by simp⟩)
                    · intro r W hc hf hs hd hB
                      have hBV := HBV.out W hB
                      exact want_und 20 158 rfl (by kernel_rfl) (hd 158 (by kernel_rfl)) (fun d e => by cases e; exact ⟨rfl, by simp⟩)
                    · intro r W hc hf hs hd hB
                      have hBV := HBV.out W hB
                      exact want_not 3 141 rfl (by kernel_rfl) (hd 141 (by kernel_rfl)) (fun d e => by cases e; exact ⟨rfl, by simp⟩)
                    · intro r W hc hf hs hd hB
                      have hBV := HBV.out W hB
                      refine want_n rfl ?_
                      have e141 : r (.tmp 141) = .bool true := hd 141 (by kernel_rfl)
                      have e165 : r (.tmp 165) = undef := hd 165 (by kernel_rfl)
                      exact st_value (v := .bool true) rfl (by decide) (by go_simp) rfl
                    · intro r W hc hf hs hd hB
                      have hBV := HBV.out W hB
                      refine want_n rfl ?_
                      have e166 : r (.tmp 166) = .bool true := hd 166 (by kernel_rfl)
                      exact st_value (v := .bool true) rfl (by decide) (by go_simp) rfl
                  intro f w15 hfd hB'
                  have z4 : f 4 = .bool true := hfd 4 (of_decide_eq_true (by kernel_rfl))
                  have hb15 := HBV.out w15 hB'
                  rw [show dstsTo _ _ = [138, 139, 140, 141, 142, 143, 144, 145, 146, 147, 148, 149, 150, 151, 152, 153, 154, 155, 156, 157, 158, 159, 160, 161, 162, 163, 164, 165, 166, 4] from by kernel_rfl]
                  simp only [fill, Act.put, List.setIfInBounds_toArray, List.set_cons_succ, List.set_cons_zero, z4]
                  clear hfd z4 hB'
                  go_wp2_with fail
                  go_ret
                  exact ⟨rfl, hB.trans (hb15.mono hB.size)⟩
    · go_wp2_with fail
      refine (tawake_any _).mono ?_
      rintro e w9 ⟨rfl, hb9⟩
      go_wp2_with fail
      go_ret
      exact ⟨rfl, hB.trans (hb9.mono hB.size)⟩
  · go_wp2_with fail
    refine (tawake_any _).mono ?_
    rintro e w9 ⟨rfl, hb9⟩
    go_wp2_with fail
    go_ret
    exact ⟨rfl, hB.trans (hb9.mono hB.size)⟩
end Go.Proofs.Ytapofbdkofelkaa
