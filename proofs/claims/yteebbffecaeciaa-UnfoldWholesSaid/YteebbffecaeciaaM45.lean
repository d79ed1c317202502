/- Texts of this claim laid into one: TRefI. -/
import Derived.Test.YteebbffecaeciaaM44
/- The document's Bulk, high, High. -/
namespace Go.Proofs.Yteebbffecaeciaa
open Go.RowKit

set_option maxRecDepth 100000 in
set_option maxHeartbeats 8000000 in
theorem rtBulk_any (t : TT) (x : Value) (w : World) (hcn : t.cnt ≤ 3000000) (hln : t.lean = true) (hx : TIn w t x) :
    Calls Try.prog 97 #[x] w fun e w' => e = .returned (.int .i64 (t.Bulk : Int)) ∧ Below w.heap.size w w' := by
  obtain ⟨A, rfl, hok⟩ := hx
  obtain ⟨w0, hw0, m0, s0, hc0, _⟩ := row1_new w t A
  have HC0 := Lib.hid hc0; have HOK := Lib.hid (hok.below m0)
  obtain ⟨z1, hz1⟩ : ∃ z, z = (t.chk 1099511627776 0 1 false).1 := ⟨_, rfl⟩
  obtain ⟨z2, hz2⟩ : ∃ z, z = (t.chk 1099511627776 0 1 false).2 := ⟨_, rfl⟩
  have HZ1 := Lib.hid hz1.symm; have HZ2 := Lib.hid hz2.symm
  have hdeep := TT.deep_le t
  have HS : Hid (z2 = 0 ↔ t.sane false = true) := Lib.hid (by
    rw [hz2, TT.chk_ok]
    exact ⟨fun h => h.1, fun h => ⟨h, by omega⟩⟩)
  clear hz1 hz2 hc0 hok hdeep
  unfold TT.val
  go_enter Try.func97, Try.ntmps97
  go_wp2_with (refine wpList_load15 (by rfl) (by rfl) (by rfl) HC0.out ?_)
  refine (rtchk_any 1099511627776 3000000 (by decide) t _ 0 1 false _ hcn hln (by omega) (by omega) (by omega) (by omega) ⟨A, rfl, HOK.out⟩).mono ?_
  rintro e w1 ⟨rfl, hb1⟩
  rw [HZ1.out, HZ2.out]
  replace HC0 := Lib.hid (HC0.out.below hb1); replace HOK := Lib.hid (HOK.out.below hb1)
  have hBA := m0.trans (hb1.mono m0.size)
  clear hb1 m0
  by_cases hz : z2 = 0
  · have hsn := HS.out.1 hz
    have hzb : (z2 != 0) = false := by simp [hz]
    have HB : Hid (t.Bulk = min (t.bulk 0) (4096 + 1)) := Lib.hid (by rw [TT.Bulk, if_pos hsn])
    have HSN := Lib.hid hsn
    clear hz hsn
    go_wp2_with (refine wpList_load15 (by rfl) (by rfl) (by rfl) HC0.out ?_)
    refine (rtbulk_any 4096 (by decide) t.cnt t _ _ (Nat.le_refl _) HSN.out hln ⟨A, rfl, HOK.out⟩).mono ?_
    rintro e w2 ⟨rfl, hb2⟩
    rw [← HB.out]
    go_wp2_with fail
    go_ret
    exact ⟨rfl, hBA.trans (hb2.mono hBA.size)⟩
  · have hzb : (z2 != 0) = true := by simpa using hz
    have HB : Hid (t.Bulk = 0) := Lib.hid (by rw [TT.Bulk, if_neg (fun h => hz (HS.out.2 h))])
    clear hz
    go_wp2_with fail
    go_ret
    exact ⟨ret_int (by rw [HB.out]; rfl), hBA⟩
theorem TT.highD {t : TT} (hs : t.sane false = true) (h1 : t.kind ≠ 1) (h2 : t.kind ≠ 2) (h4 : t.kind ≠ 4) (h6 : t.kind = 6 → t.hi ≠ 0) (h10 : t.kind ≠ 10) : ((t.kind = 3 ∨ t.kind = 9 → t.high 0 = TT.highs t.args 0) ∧ (¬ (t.kind = 3 ∨ t.kind = 9) → t.high 0 = TT.highs t.args 0 + 1)) ∧ TT.sanes false t.kind 0 t.args = true ∧ TT.bulks t.args 0 ≤ t.bulk 0 := by
  obtain ⟨hn, h11, hss⟩ := TT.sane_parts hs
  have hD := TT.bulkD hs h1 h4
  obtain ⟨k, v, vs, lo, hi, ws, p, l⟩ := t
  simp only [TT.kind_mk, TT.args_mk, TT.hi_mk] at *
  have h11' : k ≠ 11 := fun h => by simpa using h11 h
  refine ⟨?_, hss, ?_⟩
  · rw [TT.high, if_neg h1, if_neg h11', if_neg h10, if_neg h2, if_neg h4]
    by_cases h : k = 6
    · rw [if_pos h, if_neg (h6 h)]
      exact ⟨fun h3 => by omega, fun _ => by omega⟩
    · rw [if_neg h]
      exact ⟨fun h3 => by rw [if_pos h3], fun h3 => by rw [if_neg h3]; omega⟩
  · by_cases h : k = 6
    · subst h
      rw [TT.bulk6]
      have : 1 ≤ (max 1 hi).toNat := by omega
      have := Nat.mul_le_mul_right (TT.bulks l 0) this
      omega
    · have := (hD h h10 0).1; omega
theorem TT.highs_upto_le (l : List TT) (i s : Nat) : TT.highs (l.take i) s ≤ TT.highs l s := by
  induction l generalizing i with
  | nil => simp
  | cons t ts ih =>
    cases i with
    | zero => simp [TT.highs]
    | succ i => simp only [List.take_succ_cons, TT.highs]; have := ih i; omega
set_option maxRecDepth 100000 in
set_option maxHeartbeats 8000000 in
theorem rthigh_any (B : Nat) : B ≤ 4096 → ∀ (N : Nat) (t : TT) (x : Value) (w : World), t.cnt ≤ N → t.bulk 0 ≤ B → t.sane false = true → t.lean = true → TIn w t x →
    Calls Try.prog 125 #[x] w fun e w' => e = .returned (.int .i64 (t.high 0 : Int)) ∧ Below w.heap.size w w' := by
  induction B using Nat.strongRecOn with
  | _ B ihB =>
    intro hM N
    have IHB := Lib.hid ihB; clear ihB
    induction N with
    | zero => intro t x w h; have := TT.cnt_pos t; omega
    | succ N ih =>
      intro t x w hcn hbk hsn hln hx
      have IH : Hid (∀ (t : TT) (x : Value) (w : World), t.cnt ≤ N → t.bulk 0 ≤ B → t.sane false = true → t.lean = true → TIn w t x → Calls Try.prog 125 #[x] w fun e w' => e = .returned (.int .i64 (t.high 0 : Int)) ∧ Below w.heap.size w w') := Lib.hid ih
      clear ih
      have hpos := TT.bulk_pos0 hsn
      have hle := TT.high_le t false 0 0 hsn (Nat.le_refl _)
      obtain ⟨hnode, h11, hss⟩ := TT.sane_parts hsn
      have hright := TT.right hnode
      have hstep := fun hk => TT.step_facts (t := t) hk hsn
      have hlen2 := fun hk => hright.len2 (t := t) hk
      have hsz := fun hk => hright.sized (t := t) hk
      have hD := TT.highD hsn
      obtain ⟨hlp, hls2⟩ := TT.lean_parts hln
      obtain ⟨A, rfl, hok⟩ := hx
      have hTIN : TIn w t (t.val A) := ⟨A, rfl, hok⟩
      obtain ⟨w0, hw0, m0, s0, hc0, _⟩ := row1_new w t A
      have HT0 : Hid (TIn w0 t (t.val A)) := Lib.hid (hTIN.below m0)
      obtain ⟨k, v, vs, lo, hi0, ws, p, l⟩ := t
      obtain ⟨⟨hll, hsl, _⟩, hv, hs, _, _, hrow⟩ := hok.parts
      simp only [TT.v_mk, TT.vs_mk, TT.ws_mk, TT.p_mk, TT.args_mk, TT.kind_mk, TT.lo_mk, TT.hi_mk] at *
      rw [TT.cnt] at hcn
      have HC0 := Lib.hid hc0; have HROW := Lib.hid (hrow.below m0); have HLS := Lib.hid hls2; have HLP := Lib.hid hlp
      have HV := Lib.hid (hv.below m0); have HS := Lib.hid (hs.below m0); have HPOS := Lib.hid hpos; have HLE := Lib.hid hle; have HBT := Lib.hid hbk
      have HSTEP := Lib.hid hstep; have HLEN2 := Lib.hid hlen2; have HSIZED := Lib.hid hsz; have HD := Lib.hid hD; have HLEAN := Lib.hid hln; have HCN : Hid (TT.cnts l ≤ N) := Lib.hid (by omega)
      obtain ⟨q0, q1, q2, q3, q4, _, q6, _, _, _, _, _, _, _, q14⟩ := hc0
      simp only [TT.v_mk, TT.vs_mk, TT.args_mk, TT.kind_mk, TT.hi_mk] at q0 q1 q2 q3 q4 q6 q14
      have hBA := m0
      clear hpos hnode h11 hss hright hstep hlen2 hsz hD hlp hls2 hok hTIN hv hs hrow hln hcn hsn m0 hle hbk
      unfold TT.val
      simp only [TT.kind_mk, TT.v_mk, TT.vs_mk, TT.lo_mk, TT.hi_mk, TT.ws_mk, TT.p_mk, TT.args_mk] at hw0 ⊢
      by_cases h1 : k = 1
      · as_aux_lemma =>
        have b1 : (k == 1) = true := by simp [h1]
        obtain ⟨n0, hn0⟩ : ∃ n0, n0 = v.deep := ⟨_, rfl⟩
        have HSZ := Lib.hid hn0.symm
        have HSV : Hid (v.size ≤ 100000) := Lib.hid HLP.out.1
        have HE : Hid ((TT.mk k v vs lo hi0 ws p l).high 0 = n0) := Lib.hid (by subst h1; rw [TT.high1, hn0])
        clear h1 hn0
        go_enter Try.func125, Try.ntmps125
        go_wp2_with fail
        refine (rdeep_any 100000 (by decide) v _ _ HSV.out HV.out).mono ?_
        rintro e w1 ⟨rfl, hb1⟩
        rw [HSZ.out]
        replace hBA := hBA.trans (hb1.mono hBA.size)
        clear hb1
        go_wp2_with fail
        go_ret
        exact ⟨ret_int (by rw [HE.out]), hBA⟩
      have b1 : (k == 1) = false := by simp [h1]
      by_cases h2 : k = 2
      · as_aux_lemma =>
        have b2 : (k == 2) = true := by simp [h2]
        have HE : Hid ((TT.mk k v vs lo hi0 ws p l).high 0 = 1) := Lib.hid (by subst h2; rw [TT.high2])
        clear h1 h2
        go_enter Try.func125, Try.ntmps125
        go_wp2_with fail
        go_ret
        exact ⟨ret_int (by rw [HE.out]; rfl), hBA⟩
      have b2 : (k == 2) = false := by simp [h2]
      by_cases h4 : k = 4
      · as_aux_lemma =>
        have b4 : (k == 4) = true := by simp [h4]
        have hsz2 : VT.sizes vs ≤ 100000 := HLP.out.2.1
        have HE : Hid ((TT.mk k v vs lo hi0 ws p l).high 0 = VT.deeps vs) := Lib.hid (by subst h4; rw [TT.high4])
        clear h1 h2 h4
        go_enter Try.func125, Try.ntmps125
        go_wp2_with fail
        go_loopw [3, 4] (fun y x wr => ∃ (i n : Nat), y = .int .i64 n ∧ x = .int .i64 i ∧ i ≤ vs.length ∧ n = VT.deeps (vs.take i) ∧ Below w0.heap.size w0 wr) (fun _ x _ => vs.length - (intOf x).toNat)
        case atStart => exact ⟨0, 0, rfl, rfl, by omega, by simp [VT.deeps], Below.refl _ _⟩
        case round =>
          obtain ⟨i, n, rfl, rfl, hi, hn, hB⟩ := hrel
          have HNI := Lib.hid hn; clear hn
          replace q4 := cell_stays hB q4
          by_cases hlt : i < vs.length
          · as_aux_lemma =>
            have g1 : decide ((i : Int) < vs.length) = true := decide_eq_true (by omega)
            have g2 : decide (i < vs.length) = true := decide_eq_true hlt
            obtain ⟨b, o, ea, ax, cx, d0, d1, d2, hvi⟩ := (HS.out.below hB).got i hlt
            rw [ea] at q4
            obtain ⟨dd, hdd⟩ : ∃ dd, dd = vs[i].deep := ⟨_, rfl⟩
            have HSZ := Lib.hid hdd.symm
            have HNX : Hid (max n dd = VT.deeps (vs.take (i + 1))) := Lib.hid (by rw [VT.deeps_upto hlt, HNI.out, hdd])
            have HSB : Hid (vs[i].size ≤ 100000) := Lib.hid (by have := VT.sizes_get hlt; omega)
            clear hdd ea
            go_wp2_with fail
            refine (rdeep_any 100000 (by decide) vs[i] _ _ HSB.out hvi).mono ?_
            rintro e w2 ⟨rfl, hb2⟩
            rw [HSZ.out]
            have hB2 := hB.trans (hb2.mono hB.size)
            clear hb2 hB d0 d1 d2 hvi q4
            go_wp2_with fail
            all_goals
              go_roundw
              case rel => exact ⟨i + 1, max n dd, by first | rfl | (congr 1; split <;> omega) | (congr 1; omega) | (congr 1; simp; omega), by go_num, by omega, HNX.out, hB2⟩
              case measure => simp [intOf]; omega
          · as_aux_lemma =>
            have hie : i = vs.length := by omega
            subst hie
            have hn : n = VT.deeps vs := by have := HNI.out; rwa [List.take_length] at this
            subst hn
            have g1 : decide ((vs.length : Int) < vs.length) = false := decide_eq_false (by omega)
            have g2 : decide (vs.length < vs.length) = false := decide_eq_false (by omega)
            go_wp2_with fail
            go_ret
            exact ⟨ret_int (by rw [HE.out]), hBA.trans (hB.mono hBA.size)⟩
      have b4 : (k == 4) = false := by simp [h4]
      by_cases h10 : k = 10
      · as_aux_lemma =>
        have b6 : (k == 6) = false := by simp [h10]
        have b10 : (k == 10) = true := by simp [h10]
        obtain ⟨hst, hbk, hhg, hle⟩ := HSTEP.out h10
        obtain ⟨hlo0, hlo8, -⟩ := HSIZED.out h10
        have HL2 := Lib.hid (HLEN2.out h10); have HLO := Lib.hid (And.intro hlo0 hlo8)
        obtain ⟨u, hu⟩ : ∃ u, u = (TT.mk k v vs lo hi0 ws p l).step := ⟨_, rfl⟩
        have HSTU : Hid (u.sane false = true ∧ u.lean = true ∧ u.bulk 0 ≤ B - 1 ∧ 1 ≤ B) := Lib.hid (by rw [hu]; exact ⟨hst, hle HLEAN.out, by have := HBT.out; omega, by have := HBT.out; omega⟩)
        have HE : Hid ((TT.mk k v vs lo hi0 ws p l).high 0 = u.high 0) := Lib.hid (by rw [hhg, hu])
        have HU := Lib.hid hu.symm
        clear h10 hst hbk hle hlo0 hlo8 hu hhg
        go_enter Try.func125, Try.ntmps125
        go_wp2_with (refine wpList_load15 (by rfl) (by rfl) (by rfl) HC0.out ?_)
        refine (rtstep_any (TT.mk k v vs lo hi0 ws p l) _ w0 (fun _ => False) HL2.out HLO.out.1 HLO.out.2 HT0.out.any (fun _ h => h.elim)).mono ?_
        rintro e w1 ⟨x', rfl, hx', hb1⟩
        rw [HU.out] at hx'
        have HX' := Lib.hid hx'.tin
        replace hBA := hBA.trans (hb1.mono hBA.size)
        clear hb1 hx'
        go_wp2_with fail
        refine (IHB.out (B - 1) (by have := HSTU.out.2.2.2; omega) (by omega) u.cnt u x' w1 (Nat.le_refl _) HSTU.out.2.2.1 HSTU.out.1 HSTU.out.2.1 HX'.out).mono ?_
        rintro e w2 ⟨rfl, hb1⟩
        replace hBA := hBA.trans (hb1.mono hBA.size)
        clear hb1
        go_wp2_with fail
        go_ret
        exact ⟨ret_int (by rw [HE.out]), hBA⟩
      have b10 : (k == 10) = false := by simp [h10]
      by_cases h6 : k = 6
      · have b6 : (k == 6) = true := by simp [h6]
        by_cases hh0 : hi0 = 0
        · as_aux_lemma =>
          have bh : (hi0 == 0) = true := by simp [hh0]
          have HE : Hid ((TT.mk k v vs lo hi0 ws p l).high 0 = 1) := Lib.hid (by subst h6; rw [TT.high6, if_pos hh0])
          clear h1 h2 h4 h6 h10 hh0
          go_enter Try.func125, Try.ntmps125
          go_wp2_with fail
          go_ret
          exact ⟨ret_int (by rw [HE.out]; rfl), hBA⟩
        · as_aux_lemma =>
          have bh : (hi0 == 0) = false := by simpa using hh0
          obtain ⟨hh, hsn, hbs⟩ := HD.out h1 h2 h4 (fun _ => hh0) h10
          have hhb : TT.highs l 0 ≤ 4096 := by have h1 := HLE.out; have h2 := HBT.out; by_cases h3 : k = 3 ∨ k = 9; (have := hh.1 h3; omega); (have := hh.2 h3; omega)
          have HH := Lib.hid hh; have HSN := Lib.hid hsn; have HK10 := Lib.hid h10; have HHB := Lib.hid hhb; have HBB : Hid (TT.bulks l 0 ≤ B) := Lib.hid (by have := HBT.out; omega)
          clear h1 h2 h4 h6 h10 hh0 hh hsn hbs hhb
          go_enter Try.func125, Try.ntmps125
          go_wp2_with fail
          go_loopw [3, 5] (fun y x wr => ∃ (i n : Nat), y = .int .i64 n ∧ x = .int .i64 i ∧ i ≤ l.length ∧ n = TT.highs (l.take i) 0 ∧ Below w0.heap.size w0 wr) (fun _ x _ => l.length - (intOf x).toNat)
          case atStart => exact ⟨0, 0, rfl, rfl, by omega, by simp [TT.highs], Below.refl _ _⟩
          case round =>
            obtain ⟨i, n, rfl, rfl, hi, hn, hB⟩ := hrel
            have hnb : n ≤ 4096 := by have := TT.highs_upto_le l i 0; have := HHB.out; omega
            have HNI := Lib.hid hn; clear hn
            replace q14 := cell_stays hB q14; replace q0 := cell_stays hB q0
            by_cases hlt : i < l.length
            · as_aux_lemma =>
              have g1 : decide ((i : Int) < l.length) = true := decide_eq_true (by omega)
              have g2 : decide (i < l.length) = true := decide_eq_true hlt
              obtain ⟨b, o, ea, X, hcX, hkX⟩ := HROW.out.get i hlt
              rw [ea] at q14
              have HCX := Lib.hid (hcX.below hB); have HKX := Lib.hid (hkX.below hB)
              have hsu := TT.sanes_get HSN.out i hlt
              have hf : (k == 10) = false := by simpa using HK10.out
              simp only [hf, Bool.false_and, Bool.or_false] at hsu
              have hup := TT.bulks_upto hlt 0
              have hub := TT.bulks_upto_le l (i + 1) 0
              have HSU : Hid (l[i].sane false = true ∧ l[i].lean = true ∧ l[i].cnt ≤ N ∧ l[i].bulk 0 ≤ B) := Lib.hid ⟨hsu, TT.leans_get HLS.out hlt, by have := TT.cnts_get hlt; have := HCN.out; omega, by have := HBB.out; omega⟩
              obtain ⟨dd, hdd⟩ : ∃ dd, dd = l[i].high 0 := ⟨_, rfl⟩
              have HDD := Lib.hid hdd.symm
              have HNX : Hid (max n dd = TT.highs (l.take (i + 1)) 0) := Lib.hid (by rw [TT.highs_upto hlt, ← HNI.out, hdd])
              clear ea hcX hkX hsu hf hdd hup hub q0
              go_wp2_with (refine wpList_load15 (by rfl) (by rfl) (by rfl) HCX.out ?_)
              refine (IH.out l[i] _ _ HSU.out.2.2.1 HSU.out.2.2.2 HSU.out.1 HSU.out.2.1 ⟨_, rfl, HKX.out⟩).mono ?_
              rintro e w2 ⟨rfl, hb2⟩
              rw [HDD.out]
              have hB2 := hB.trans (hb2.mono hB.size)
              clear hb2 hB q14
              go_wp2_with fail
              all_goals
                go_roundw
                case rel => exact ⟨i + 1, max n dd, by first | rfl | (congr 1; split <;> omega) | (congr 1; omega) | (congr 1; simp; omega), by go_num, by omega, HNX.out, hB2⟩
                case measure => simp [intOf]; omega
            · as_aux_lemma =>
              have hie : i = l.length := by omega
              subst hie
              have hn : n = TT.highs l 0 := by have := HNI.out; rwa [List.take_length] at this
              subst hn
              have g1 : decide ((l.length : Int) < l.length) = false := decide_eq_false (by omega)
              have g2 : decide (l.length < l.length) = false := decide_eq_false (by omega)
              have hw1 : IntKind.i64.wrap ((TT.highs l 0 : Int) + 1) = (TT.highs l 0 : Int) + 1 := by rw [IntKind.wrap_i64] <;> omega
              replace hBA := hBA.trans (hB.mono hBA.size)
              by_cases h3 : k = 3
              · have b3 : (k == 3) = true := by simp [h3]
                have HE : Hid ((TT.mk k v vs lo hi0 ws p l).high 0 = TT.highs l 0) := Lib.hid (by exact HH.out.1 (.inl h3))
                clear h3
                go_wp2_with fail
                go_ret
                exact ⟨ret_int (by rw [HE.out]), hBA⟩
              · have b3 : (k == 3) = false := by simp [h3]
                by_cases h9 : k = 9
                · have b9 : (k == 9) = true := by simp [h9]
                  have HE : Hid ((TT.mk k v vs lo hi0 ws p l).high 0 = TT.highs l 0) := Lib.hid (by exact HH.out.1 (.inr h9))
                  clear h9 h3
                  go_wp2_with fail
                  go_ret
                  exact ⟨ret_int (by rw [HE.out]), hBA⟩
                · have b9 : (k == 9) = false := by simp [h9]
                  have HE : Hid ((TT.mk k v vs lo hi0 ws p l).high 0 = TT.highs l 0 + 1) := Lib.hid (by exact HH.out.2 (by omega))
                  clear h9 h3
                  go_wp2_with fail
                  go_ret
                  exact ⟨ret_int (by rw [HE.out]; simp), hBA⟩
      · as_aux_lemma =>
        have b6 : (k == 6) = false := by simp [h6]
        obtain ⟨hh, hsn, hbs⟩ := HD.out h1 h2 h4 (fun h => absurd h h6) h10
        have hhb : TT.highs l 0 ≤ 4096 := by have h1 := HLE.out; have h2 := HBT.out; by_cases h3 : k = 3 ∨ k = 9; (have := hh.1 h3; omega); (have := hh.2 h3; omega)
        have HH := Lib.hid hh; have HSN := Lib.hid hsn; have HK10 := Lib.hid h10; have HHB := Lib.hid hhb; have HBB : Hid (TT.bulks l 0 ≤ B) := Lib.hid (by have := HBT.out; omega)
        clear h1 h2 h4 h6 h10 hh hsn hbs hhb
        go_enter Try.func125, Try.ntmps125
        go_wp2_with fail
        go_loopw [3, 5] (fun y x wr => ∃ (i n : Nat), y = .int .i64 n ∧ x = .int .i64 i ∧ i ≤ l.length ∧ n = TT.highs (l.take i) 0 ∧ Below w0.heap.size w0 wr) (fun _ x _ => l.length - (intOf x).toNat)
        case atStart => exact ⟨0, 0, rfl, rfl, by omega, by simp [TT.highs], Below.refl _ _⟩
        case round =>
          obtain ⟨i, n, rfl, rfl, hi, hn, hB⟩ := hrel
          have hnb : n ≤ 4096 := by have := TT.highs_upto_le l i 0; have := HHB.out; omega
          have HNI := Lib.hid hn; clear hn
          replace q14 := cell_stays hB q14; replace q0 := cell_stays hB q0
          by_cases hlt : i < l.length
          · as_aux_lemma =>
            have g1 : decide ((i : Int) < l.length) = true := decide_eq_true (by omega)
            have g2 : decide (i < l.length) = true := decide_eq_true hlt
            obtain ⟨b, o, ea, X, hcX, hkX⟩ := HROW.out.get i hlt
            rw [ea] at q14
            have HCX := Lib.hid (hcX.below hB); have HKX := Lib.hid (hkX.below hB)
            have hsu := TT.sanes_get HSN.out i hlt
            have hf : (k == 10) = false := by simpa using HK10.out
            simp only [hf, Bool.false_and, Bool.or_false] at hsu
            have hup := TT.bulks_upto hlt 0
            have hub := TT.bulks_upto_le l (i + 1) 0
            have HSU : Hid (l[i].sane false = true ∧ l[i].lean = true ∧ l[i].cnt ≤ N ∧ l[i].bulk 0 ≤ B) := Lib.hid ⟨hsu, TT.leans_get HLS.out hlt, by have := TT.cnts_get hlt; have := HCN.out; omega, by have := HBB.out; omega⟩
            obtain ⟨dd, hdd⟩ : ∃ dd, dd = l[i].high 0 := ⟨_, rfl⟩
            have HDD := Lib.hid hdd.symm
            have HNX : Hid (max n dd = TT.highs (l.take (i + 1)) 0) := Lib.hid (by rw [TT.highs_upto hlt, ← HNI.out, hdd])
            clear ea hcX hkX hsu hf hdd hup hub q0
            go_wp2_with (refine wpList_load15 (by rfl) (by rfl) (by rfl) HCX.out ?_)
            refine (IH.out l[i] _ _ HSU.out.2.2.1 HSU.out.2.2.2 HSU.out.1 HSU.out.2.1 ⟨_, rfl, HKX.out⟩).mono ?_
            rintro e w2 ⟨rfl, hb2⟩
            rw [HDD.out]
            have hB2 := hB.trans (hb2.mono hB.size)
            clear hb2 hB q14
            go_wp2_with fail
            all_goals
              go_roundw
              case rel => exact ⟨i + 1, max n dd, by first | rfl | (congr 1; split <;> omega) | (congr 1; omega) | (congr 1; simp; omega), by go_num, by omega, HNX.out, hB2⟩
              case measure => simp [intOf]; omega
          · as_aux_lemma =>
            have hie : i = l.length := by omega
            subst hie
            have hn : n = TT.highs l 0 := by have := HNI.out; rwa [List.take_length] at this
            subst hn
            have g1 : decide ((l.length : Int) < l.length) = false := decide_eq_false (by omega)
            have g2 : decide (l.length < l.length) = false := decide_eq_false (by omega)
            have hw1 : IntKind.i64.wrap ((TT.highs l 0 : Int) + 1) = (TT.highs l 0 : Int) + 1 := by rw [IntKind.wrap_i64] <;> omega
            replace hBA := hBA.trans (hB.mono hBA.size)
            by_cases h3 : k = 3
            · have b3 : (k == 3) = true := by simp [h3]
              have HE : Hid ((TT.mk k v vs lo hi0 ws p l).high 0 = TT.highs l 0) := Lib.hid (by exact HH.out.1 (.inl h3))
              clear h3
              go_wp2_with fail
              go_ret
              exact ⟨ret_int (by rw [HE.out]), hBA⟩
            · have b3 : (k == 3) = false := by simp [h3]
              by_cases h9 : k = 9
              · have b9 : (k == 9) = true := by simp [h9]
                have HE : Hid ((TT.mk k v vs lo hi0 ws p l).high 0 = TT.highs l 0) := Lib.hid (by exact HH.out.1 (.inr h9))
                clear h9 h3
                go_wp2_with fail
                go_ret
                exact ⟨ret_int (by rw [HE.out]), hBA⟩
              · have b9 : (k == 9) = false := by simp [h9]
                have HE : Hid ((TT.mk k v vs lo hi0 ws p l).high 0 = TT.highs l 0 + 1) := Lib.hid (by exact HH.out.2 (by omega))
                clear h9 h3
                go_wp2_with fail
                go_ret
                exact ⟨ret_int (by rw [HE.out]; simp), hBA⟩
set_option maxRecDepth 100000 in
set_option maxHeartbeats 8000000 in
theorem rtHigh_any (t : TT) (x : Value) (w : World) (hcn : t.cnt ≤ 3000000) (hln : t.lean = true) (hx : TIn w t x) :
    Calls Try.prog 98 #[x] w fun e w' => e = .returned (.int .i64 (t.High : Int)) ∧ Below w.heap.size w w' := by
  obtain ⟨A, rfl, hok⟩ := hx
  obtain ⟨w0, hw0, m0, s0, hc0, _⟩ := row1_new w t A
  have HC0 := Lib.hid hc0; have HOK := Lib.hid (hok.below m0)
  obtain ⟨b, hb⟩ : ∃ b, b = t.Bulk := ⟨_, rfl⟩
  have HB := Lib.hid hb.symm
  clear hc0 hok
  unfold TT.val
  go_enter Try.func98, Try.ntmps98
  go_wp2_with (refine wpList_load15 (by rfl) (by rfl) (by rfl) HC0.out ?_)
  refine (rtBulk_any t _ _ hcn hln ⟨A, rfl, HOK.out⟩).mono ?_
  rintro e w1 ⟨rfl, hb1⟩
  rw [HB.out]
  replace HC0 := Lib.hid (HC0.out.below hb1); replace HOK := Lib.hid (HOK.out.below hb1)
  have hBA := m0.trans (hb1.mono m0.size)
  clear hb1 m0
  by_cases h0 : b = 0
  · have d0 : decide ((b : Int) = 0) = true := decide_eq_true (by omega)
    have d1 : ((b : Int) == 0) = true := by simp [h0]
    have HE : Hid (t.High = 0) := Lib.hid (by
      have := HB.out
      rw [h0, TT.Bulk] at this
      rw [TT.High]
      by_cases hs : t.sane false = true
      · have := TT.bulk_pos0 hs; rw [if_pos hs] at *; omega
      · simp [hs])
    clear h0 hb
    go_wp2_with fail
    go_ret
    exact ⟨ret_int (by rw [HE.out]; rfl), hBA⟩
  · have d0 : decide ((b : Int) = 0) = false := decide_eq_false (by omega)
    have d1 : ((b : Int) == 0) = false := by simpa using h0
    have hsn : t.sane false = true := by
      by_cases hs : t.sane false = true
      · exact hs
      · exfalso; apply h0; rw [hb, TT.Bulk, if_neg hs]
    have hbb : b = min (t.bulk 0) 4097 := by rw [hb, TT.Bulk, if_pos hsn]
    by_cases h4 : 4096 < b
    · have d2 : decide ((4096 : Int) < b) = true := decide_eq_true (by omega)
      have HE : Hid (t.High = 0) := Lib.hid (by rw [TT.High, hsn]; have : ¬ t.bulk 0 ≤ 4096 := by omega
                                                simp [this])
      clear h0 hb hbb h4
      go_wp2_with fail
      go_ret
      exact ⟨ret_int (by rw [HE.out]; rfl), hBA⟩
    · have d2 : decide ((4096 : Int) < b) = false := decide_eq_false (by omega)
      have hle : t.bulk 0 ≤ 4096 := by omega
      have HE : Hid (t.High = t.high 0) := Lib.hid (by rw [TT.High, hsn]; simp [hle])
      have HSN := Lib.hid hsn; have HLE := Lib.hid hle
      clear h0 hb hbb h4 hle hsn
      go_wp2_with (refine wpList_load15 (by rfl) (by rfl) (by rfl) HC0.out ?_)
      refine (rthigh_any 4096 (by decide) t.cnt t _ _ (Nat.le_refl _) HLE.out HSN.out hln ⟨A, rfl, HOK.out⟩).mono ?_
      rintro e w2 ⟨rfl, hb2⟩
      go_wp2_with fail
      go_ret
      exact ⟨ret_int (by rw [HE.out]), hBA.trans (hb2.mono hBA.size)⟩
end Go.Proofs.Yteebbffecaeciaa
