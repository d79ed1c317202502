/- Texts of this claim laid into one: TRefI, TSpoilA. -/
import Derived.Test.YtapofbdkofelkaaGreatM58
import Derived.Test.YtapofbdkofelkaaGreatM13
/- The document's Bulk, high, High. -/
namespace Go.Proofs.YtapofbdkofelkaaGreat
open Go.RowKit

theorem errI (z : Int) : (z != 0) = decide (z ≠ 0) := by by_cases h : z = 0 <;> simp [h]
set_option maxRecDepth 100000 in
set_option maxHeartbeats 8000000 in
theorem rtBulk_any (t : TT) (x : Value) (w : World) (hcn : t.cnt ≤ 3000000) (hln : t.lean = true) (hx : TIn w t x) :
    Calls Tryz.prog 31 #[x] w fun e w' => e = .returned (.int .i64 (t.Bulk : Int)) ∧ Below w.heap.size w w' := by
  obtain ⟨A, rfl, hok⟩ := hx
  obtain ⟨w0, hw0, m0, s0, hc0, _⟩ := row1_new w t A
  have HC0 := Lib.hid hc0; have HOK := Lib.hid (hok.below m0)
  obtain ⟨z1, hz1⟩ : ∃ z, z = (t.chk 1099511627776 0 1 false).1 := ⟨_, rfl⟩
  obtain ⟨z2, hz2⟩ : ∃ z, z = (t.chk 1099511627776 0 1 false).2 := ⟨_, rfl⟩
  have HZ1 := Lib.hid hz1.symm; have HZ2 := Lib.hid hz2.symm
  have hdeep := TT.deep_le t
  have HS : Hid (z2 = 0 ↔ t.sane false = true) := Lib.hid (by
    rw [hz2, TT.chk_ok]
    exact ⟨fun h => h.1, fun h => ⟨h, by omega⟩⟩)
  clear hz1 hz2 hc0 hok hdeep
  unfold TT.val
  go_enter Tryz.func31, Tryz.ntmps31
  go_wp2_with (refine wpList_load15 (by rfl) (by rfl) (by rfl) HC0.out ?_)
  refine (rtchk_any 1099511627776 3000000 (by decide) t _ 0 1 false _ hcn hln (by omega) (by omega) (by omega) (by omega) ⟨A, rfl, HOK.out⟩).mono ?_
  rintro e w1 ⟨rfl, hb1⟩
  rw [HZ1.out, HZ2.out]
  replace HC0 := Lib.hid (HC0.out.below hb1); replace HOK := Lib.hid (HOK.out.below hb1)
  have hBA := m0.trans (hb1.mono m0.size)
  clear hb1 m0
  by_cases hz : z2 = 0
  · have hsn := HS.out.1 hz
    have hzb : (z2 != 0) = false := by simp [hz]
    have HB : Hid (t.Bulk = min (t.bulk 0) (4096 + 1)) := Lib.hid (by rw [TT.Bulk, if_pos hsn])
    have HSN := Lib.hid hsn
    clear hz hsn
    go_wp2_with (refine wpList_load15 (by rfl) (by rfl) (by rfl) HC0.out ?_)
    refine (rtbulk_any 4096 (by decide) t.cnt t _ _ (Nat.le_refl _) HSN.out hln ⟨A, rfl, HOK.out⟩).mono ?_
    rintro e w2 ⟨rfl, hb2⟩
    rw [← HB.out]
    go_wp2_with fail
    go_ret
    exact ⟨rfl, hBA.trans (hb2.mono hBA.size)⟩
  · have hzb : (z2 != 0) = true := by simpa using hz
    have HB : Hid (t.Bulk = 0) := Lib.hid (by rw [TT.Bulk, if_neg (fun h => hz (HS.out.2 h))])
    clear hz
    go_wp2_with fail
    go_ret
    exact ⟨ret_int (by rw [HB.out]; rfl), hBA⟩
theorem TT.highD {t : TT} (hs : t.sane false = true) (h1 : t.kind ≠ 1) (h2 : t.kind ≠ 2) (h4 : t.kind ≠ 4) (h6 : t.kind = 6 → t.hi ≠ 0) (h10 : t.kind ≠ 10) : ((t.kind = 3 ∨ t.kind = 9 → t.high 0 = TT.highs t.args 0) ∧ (¬ (t.kind = 3 ∨ t.kind = 9) → t.high 0 = TT.highs t.args 0 + 1)) ∧ TT.sanes false t.kind 0 t.args = true ∧ TT.bulks t.args 0 ≤ t.bulk 0 := by
  obtain ⟨hn, h11, hss⟩ := TT.sane_parts hs
  have hD := TT.bulkD hs h1 h4
  obtain ⟨k, v, vs, lo, hi, ws, p, l⟩ := t
  simp only [TT.kind_mk, TT.args_mk, TT.hi_mk] at *
  have h11' : k ≠ 11 := fun h => by simpa using h11 h
  refine ⟨?_, hss, ?_⟩
  · rw [TT.high, if_neg h1, if_neg h11', if_neg h10, if_neg h2, if_neg h4]
    by_cases h : k = 6
    · rw [if_pos h, if_neg (h6 h)]
      exact ⟨fun h3 => by omega, fun _ => by omega⟩
    · rw [if_neg h]
      exact ⟨fun h3 => by rw [if_pos h3], fun h3 => by rw [if_neg h3]; omega⟩
  · by_cases h : k = 6
    · subst h
      rw [TT.bulk6]
      have : 1 ≤ (max 1 hi).toNat := by omega
      have := Nat.mul_le_mul_right (TT.bulks l 0) this
      omega
    · have := (hD h h10 0).1; omega
theorem TT.highs_upto_le (l : List TT) (i s : Nat) : TT.highs (l.take i) s ≤ TT.highs l s := by
  induction l generalizing i with
  | nil => simp
  | cons t ts ih =>
    cases i with
    | zero => simp [TT.highs]
    | succ i => simp only [List.take_succ_cons, TT.highs]; have := ih i; omega
set_option maxRecDepth 100000 in
set_option maxHeartbeats 8000000 in
theorem rthigh_any (B : Nat) : B ≤ 4096 → ∀ (N : Nat) (t : TT) (x : Value) (w : World), t.cnt ≤ N → t.bulk 0 ≤ B → t.sane false = true → t.lean = true → TIn w t x →
    Calls Tryz.prog 63 #[x] w fun e w' => e = .returned (.int .i64 (t.high 0 : Int)) ∧ Below w.heap.size w w' := by
  induction B using Nat.strongRecOn with
  | _ B ihB =>
    intro hM N
    have IHB := Lib.hid ihB; clear ihB
    induction N with
    | zero => intro t x w h; have := TT.cnt_pos t; omega
    | succ N ih =>
      intro t x w hcn hbk hsn hln hx
      have IH : Hid (∀ (t : TT) (x : Value) (w : World), t.cnt ≤ N → t.bulk 0 ≤ B → t.sane false = true → t.lean = true → TIn w t x → Calls Tryz.prog 63 #[x] w fun e w' => e = .returned (.int .i64 (t.high 0 : Int)) ∧ Below w.heap.size w w') := Lib.hid ih
      clear ih
      have hpos := TT.bulk_pos0 hsn
      have hle := TT.high_le t false 0 0 hsn (Nat.le_refl _)
      obtain ⟨hnode, h11, hss⟩ := TT.sane_parts hsn
      have hright := TT.right hnode
      have hstep := fun hk => TT.step_facts (t := t) hk hsn
      have hlen2 := fun hk => hright.len2 (t := t) hk
      have hsz := fun hk => hright.sized (t := t) hk
      have hD := TT.highD hsn
      obtain ⟨hlp, hls2⟩ := TT.lean_parts hln
      obtain ⟨A, rfl, hok⟩ := hx
      have hTIN : TIn w t (t.val A) := ⟨A, rfl, hok⟩
      obtain ⟨w0, hw0, m0, s0, hc0, _⟩ := row1_new w t A
      have HT0 : Hid (TIn w0 t (t.val A)) := Lib.hid (hTIN.below m0)
      obtain ⟨k, v, vs, lo, hi0, ws, p, l⟩ := t
      obtain ⟨⟨hll, hsl, _⟩, hv, hs, _, _, hrow⟩ := hok.parts
      simp only [TT.v_mk, TT.vs_mk, TT.ws_mk, TT.p_mk, TT.args_mk, TT.kind_mk, TT.lo_mk, TT.hi_mk] at *
      rw [TT.cnt] at hcn
      have HC0 := Lib.hid hc0; have HROW := Lib.hid (hrow.below m0); have HLS := Lib.hid hls2; have HLP := Lib.hid hlp
      have HV := Lib.hid (hv.below m0); have HS := Lib.hid (hs.below m0); have HPOS := Lib.hid hpos; have HLE := Lib.hid hle; have HBT := Lib.hid hbk
      have HSTEP := Lib.hid hstep; have HLEN2 := Lib.hid hlen2; have HSIZED := Lib.hid hsz; have HD := Lib.hid hD; have HLEAN := Lib.hid hln; have HCN : Hid (TT.cnts l ≤ N) := Lib.hid (by omega)
      obtain ⟨q0, q1, q2, q3, q4, _, q6, _, _, _, _, _, _, _, q14⟩ := hc0
      simp only [TT.v_mk, TT.vs_mk, TT.args_mk, TT.kind_mk, TT.hi_mk] at q0 q1 q2 q3 q4 q6 q14
      have hBA := m0
      clear hpos hnode h11 hss hright hstep hlen2 hsz hD hlp hls2 hok hTIN hv hs hrow hln hcn hsn m0 hle hbk
      unfold TT.val
      simp only [TT.kind_mk, TT.v_mk, TT.vs_mk, TT.lo_mk, TT.hi_mk, TT.ws_mk, TT.p_mk, TT.args_mk] at hw0 ⊢
      by_cases h1 : k = 1
      · as_aux_lemma =>
        have b1 : (k == 1) = true := by simp [h1]
        obtain ⟨n0, hn0⟩ : ∃ n0, n0 = v.deep := ⟨_, rfl⟩
        have HSZ := Lib.hid hn0.symm
        have HSV : Hid (v.size ≤ 100000) := Lib.hid HLP.out.1
        have HE : Hid ((TT.mk k v vs lo hi0 ws p l).high 0 = n0) := Lib.hid (by subst h1; rw [TT.high1, hn0])
        clear h1 hn0
        go_enter Tryz.func63, Tryz.ntmps63
        go_wp2_with fail
        refine (rdeep_any 100000 (by decide) v _ _ HSV.out HV.out).mono ?_
        rintro e w1 ⟨rfl, hb1⟩
        rw [HSZ.out]
        replace hBA := hBA.trans (hb1.mono hBA.size)
        clear hb1
        go_wp2_with fail
        go_ret
        exact ⟨ret_int (by rw [HE.out]), hBA⟩
      have b1 : (k == 1) = false := by simp [h1]
      by_cases h2 : k = 2
      · as_aux_lemma =>
        have b2 : (k == 2) = true := by simp [h2]
        have HE : Hid ((TT.mk k v vs lo hi0 ws p l).high 0 = 1) := Lib.hid (by subst h2; rw [TT.high2])
        clear h1 h2
        go_enter Tryz.func63, Tryz.ntmps63
        go_wp2_with fail
        go_ret
        exact ⟨ret_int (by rw [HE.out]; rfl), hBA⟩
      have b2 : (k == 2) = false := by simp [h2]
      by_cases h4 : k = 4
      · as_aux_lemma =>
        have b4 : (k == 4) = true := by simp [h4]
        have hsz2 : VT.sizes vs ≤ 100000 := HLP.out.2.1
        have HE : Hid ((TT.mk k v vs lo hi0 ws p l).high 0 = VT.deeps vs) := Lib.hid (by subst h4; rw [TT.high4])
        clear h1 h2 h4
        go_enter Tryz.func63, Tryz.ntmps63
        go_wp2_with fail
        go_loopw [3, 4] (fun y x wr => ∃ (i n : Nat), y = .int .i64 n ∧ x = .int .i64 i ∧ i ≤ vs.length ∧ n = VT.deeps (vs.take i) ∧ Below w0.heap.size w0 wr) (fun _ x _ => vs.length - (intOf x).toNat)
        case atStart => exact ⟨0, 0, rfl, rfl, by omega, by simp [VT.deeps], Below.refl _ _⟩
        case round =>
          obtain ⟨i, n, rfl, rfl, hi, hn, hB⟩ := hrel
          have HNI := Lib.hid hn; clear hn
          replace q4 := cell_stays hB q4
          by_cases hlt : i < vs.length
          · as_aux_lemma =>
            have g1 : decide ((i : Int) < vs.length) = true := decide_eq_true (by omega)
            have g2 : decide (i < vs.length) = true := decide_eq_true hlt
            obtain ⟨b, o, ea, ax, cx, d0, d1, d2, hvi⟩ := (HS.out.below hB).got i hlt
            rw [ea] at q4
            obtain ⟨dd, hdd⟩ : ∃ dd, dd = vs[i].deep := ⟨_, rfl⟩
            have HSZ := Lib.hid hdd.symm
            have HNX : Hid (max n dd = VT.deeps (vs.take (i + 1))) := Lib.hid (by rw [VT.deeps_upto hlt, HNI.out, hdd])
            have HSB : Hid (vs[i].size ≤ 100000) := Lib.hid (by have := VT.sizes_get hlt; omega)
            clear hdd ea
            go_wp2_with fail
            refine (rdeep_any 100000 (by decide) vs[i] _ _ HSB.out hvi).mono ?_
            rintro e w2 ⟨rfl, hb2⟩
            rw [HSZ.out]
            have hB2 := hB.trans (hb2.mono hB.size)
            clear hb2 hB d0 d1 d2 hvi q4
            go_wp2_with fail
            all_goals
              go_roundw
              case rel => exact ⟨i + 1, max n dd, by first | rfl | (congr 1; split <;> omega) | (congr 1; omega) | (congr 1; simp; omega), by go_num, by omega, HNX.out, hB2⟩
              case measure => simp [intOf]; omega
          · as_aux_lemma =>
            have hie : i = vs.length := by omega
            subst hie
            have hn : n = VT.deeps vs := by have := HNI.out; rwa [List.take_length] at this
            subst hn
            have g1 : decide ((vs.length : Int) < vs.length) = false := decide_eq_false (by omega)
            have g2 : decide (vs.length < vs.length) = false := decide_eq_false (by omega)
            go_wp2_with fail
            go_ret
            exact ⟨ret_int (by rw [HE.out]), hBA.trans (hB.mono hBA.size)⟩
      have b4 : (k == 4) = false := by simp [h4]
      by_cases h10 : k = 10
      · as_aux_lemma =>
        have b6 : (k == 6) = false := by simp [h10]
        have b10 : (k == 10) = true := by simp [h10]
        obtain ⟨hst, hbk, hhg, hle⟩ := HSTEP.out h10
        obtain ⟨hlo0, hlo8, -⟩ := HSIZED.out h10
        have HL2 := Lib.hid (HLEN2.out h10); have HLO := Lib.hid (And.intro hlo0 hlo8)
        obtain ⟨u, hu⟩ : ∃ u, u = (TT.mk k v vs lo hi0 ws p l).step := ⟨_, rfl⟩
        have HSTU : Hid (u.sane false = true ∧ u.lean = true ∧ u.bulk 0 ≤ B - 1 ∧ 1 ≤ B) := Lib.hid (by rw [hu]; exact ⟨hst, hle HLEAN.out, by have := HBT.out; omega, by have := HBT.out; omega⟩)
        have HE : Hid ((TT.mk k v vs lo hi0 ws p l).high 0 = u.high 0) := Lib.hid (by rw [hhg, hu])
        have HU := Lib.hid hu.symm
        clear h10 hst hbk hle hlo0 hlo8 hu hhg
        go_enter Tryz.func63, Tryz.ntmps63
        go_wp2_with (refine wpList_load15 (by rfl) (by rfl) (by rfl) HC0.out ?_)
        refine (rtstep_any (TT.mk k v vs lo hi0 ws p l) _ w0 (fun _ => False) HL2.out HLO.out.1 HLO.out.2 HT0.out.any (fun _ h => h.elim)).mono ?_
        rintro e w1 ⟨x', rfl, hx', hb1⟩
        rw [HU.out] at hx'
        have HX' := Lib.hid hx'.tin
        replace hBA := hBA.trans (hb1.mono hBA.size)
        clear hb1 hx'
        go_wp2_with fail
        refine (IHB.out (B - 1) (by have := HSTU.out.2.2.2; omega) (by omega) u.cnt u x' w1 (Nat.le_refl _) HSTU.out.2.2.1 HSTU.out.1 HSTU.out.2.1 HX'.out).mono ?_
        rintro e w2 ⟨rfl, hb1⟩
        replace hBA := hBA.trans (hb1.mono hBA.size)
        clear hb1
        go_wp2_with fail
        go_ret
        exact ⟨ret_int (by rw [HE.out]), hBA⟩
      have b10 : (k == 10) = false := by simp [h10]
      by_cases h6 : k = 6
      · have b6 : (k == 6) = true := by simp [h6]
        by_cases hh0 : hi0 = 0
        · as_aux_lemma =>
          have bh : (hi0 == 0) = true := by simp [hh0]
          have HE : Hid ((TT.mk k v vs lo hi0 ws p l).high 0 = 1) := Lib.hid (by subst h6; rw [TT.high6, if_pos hh0])
          clear h1 h2 h4 h6 h10 hh0
          go_enter Tryz.func63, Tryz.ntmps63
          go_wp2_with fail
          go_ret
          exact ⟨ret_int (by rw [HE.out]; rfl), hBA⟩
        · as_aux_lemma =>
          have bh : (hi0 == 0) = false := by simpa using hh0
          obtain ⟨hh, hsn, hbs⟩ := HD.out h1 h2 h4 (fun _ => hh0) h10
          have hhb : TT.highs l 0 ≤ 4096 := by have h1 := HLE.out; have h2 := HBT.out; by_cases h3 : k = 3 ∨ k = 9; (have := hh.1 h3; omega); (have := hh.2 h3; omega)
          have HH := Lib.hid hh; have HSN := Lib.hid hsn; have HK10 := Lib.hid h10; have HHB := Lib.hid hhb; have HBB : Hid (TT.bulks l 0 ≤ B) := Lib.hid (by have := HBT.out; omega)
          clear h1 h2 h4 h6 h10 hh0 hh hsn hbs hhb
          go_enter Tryz.func63, Tryz.ntmps63
          go_wp2_with fail
          go_loopw [3, 5] (fun y x wr => ∃ (i n : Nat), y = .int .i64 n ∧ x = .int .i64 i ∧ i ≤ l.length ∧ n = TT.highs (l.take i) 0 ∧ Below w0.heap.size w0 wr) (fun _ x _ => l.length - (intOf x).toNat)
          case atStart => exact ⟨0, 0, rfl, rfl, by omega, by simp [TT.highs], Below.refl _ _⟩
          case round =>
            obtain ⟨i, n, rfl, rfl, hi, hn, hB⟩ := hrel
            have hnb : n ≤ 4096 := by have := TT.highs_upto_le l i 0; have := HHB.out; omega
            have HNI := Lib.hid hn; clear hn
            replace q14 := cell_stays hB q14; replace q0 := cell_stays hB q0
            by_cases hlt : i < l.length
            · as_aux_lemma =>
              have g1 : decide ((i : Int) < l.length) = true := decide_eq_true (by omega)
              have g2 : decide (i < l.length) = true := decide_eq_true hlt
              obtain ⟨b, o, ea, X, hcX, hkX⟩ := HROW.out.get i hlt
              rw [ea] at q14
              have HCX := Lib.hid (hcX.below hB); have HKX := Lib.hid (hkX.below hB)
              have hsu := TT.sanes_get HSN.out i hlt
              have hf : (k == 10) = false := by simpa using HK10.out
              simp only [hf, Bool.false_and, Bool.or_false] at hsu
              have hup := TT.bulks_upto hlt 0
              have hub := TT.bulks_upto_le l (i + 1) 0
              have HSU : Hid (l[i].sane false = true ∧ l[i].lean = true ∧ l[i].cnt ≤ N ∧ l[i].bulk 0 ≤ B) := Lib.hid ⟨hsu, TT.leans_get HLS.out hlt, by have := TT.cnts_get hlt; have := HCN.out; omega, by have := HBB.out; omega⟩
              obtain ⟨dd, hdd⟩ : ∃ dd, dd = l[i].high 0 := ⟨_, rfl⟩
              have HDD := Lib.hid hdd.symm
              have HNX : Hid (max n dd = TT.highs (l.take (i + 1)) 0) := Lib.hid (by rw [TT.highs_upto hlt, ← HNI.out, hdd])
              clear ea hcX hkX hsu hf hdd hup hub q0
              go_wp2_with (refine wpList_load15 (by rfl) (by rfl) (by rfl) HCX.out ?_)
              refine (IH.out l[i] _ _ HSU.out.2.2.1 HSU.out.2.2.2 HSU.out.1 HSU.out.2.1 ⟨_, rfl, HKX.out⟩).mono ?_
              rintro e w2 ⟨rfl, hb2⟩
              rw [HDD.out]
              have hB2 := hB.trans (hb2.mono hB.size)
              clear hb2 hB q14
              go_wp2_with fail
              all_goals
                go_roundw
                case rel => exact ⟨i + 1, max n dd, by first | rfl | (congr 1; split <;> omega) | (congr 1; omega) | (congr 1; simp; omega), by go_num, by omega, HNX.out, hB2⟩
                case measure => simp [intOf]; omega
            · as_aux_lemma =>
              have hie : i = l.length := by omega
              subst hie
              have hn : n = TT.highs l 0 := by have := HNI.out; rwa [List.take_length] at this
              subst hn
              have g1 : decide ((l.length : Int) < l.length) = false := decide_eq_false (by omega)
              have g2 : decide (l.length < l.length) = false := decide_eq_false (by omega)
              have hw1 : IntKind.i64.wrap ((TT.highs l 0 : Int) + 1) = (TT.highs l 0 : Int) + 1 := by rw [IntKind.wrap_i64] <;> omega
              replace hBA := hBA.trans (hB.mono hBA.size)
              by_cases h3 : k = 3
              · have b3 : (k == 3) = true := by simp [h3]
                have HE : Hid ((TT.mk k v vs lo hi0 ws p l).high 0 = TT.highs l 0) := Lib.hid (by exact HH.out.1 (.inl h3))
                clear h3
                go_wp2_with fail
                go_ret
                exact ⟨ret_int (by rw [HE.out]), hBA⟩
              · have b3 : (k == 3) = false := by simp [h3]
                by_cases h9 : k = 9
                · have b9 : (k == 9) = true := by simp [h9]
                  have HE : Hid ((TT.mk k v vs lo hi0 ws p l).high 0 = TT.highs l 0) := Lib.hid (by exact HH.out.1 (.inr h9))
                  clear h9 h3
                  go_wp2_with fail
                  go_ret
                  exact ⟨ret_int (by rw [HE.out]), hBA⟩
                · have b9 : (k == 9) = false := by simp [h9]
                  have HE : Hid ((TT.mk k v vs lo hi0 ws p l).high 0 = TT.highs l 0 + 1) := Lib.hid (by exact HH.out.2 (by omega))
                  clear h9 h3
                  go_wp2_with fail
                  go_ret
                  exact ⟨ret_int (by rw [HE.out]; simp), hBA⟩
      · as_aux_lemma =>
        have b6 : (k == 6) = false := by simp [h6]
        obtain ⟨hh, hsn, hbs⟩ := HD.out h1 h2 h4 (fun h => absurd h h6) h10
        have hhb : TT.highs l 0 ≤ 4096 := by have h1 := HLE.out; have h2 := HBT.out; by_cases h3 : k = 3 ∨ k = 9; (have := hh.1 h3; omega); (have := hh.2 h3; omega)
        have HH := Lib.hid hh; have HSN := Lib.hid hsn; have HK10 := Lib.hid h10; have HHB := Lib.hid hhb; have HBB : Hid (TT.bulks l 0 ≤ B) := Lib.hid (by have := HBT.out; omega)
        clear h1 h2 h4 h6 h10 hh hsn hbs hhb
        go_enter Tryz.func63, Tryz.ntmps63
        go_wp2_with fail
        go_loopw [3, 5] (fun y x wr => ∃ (i n : Nat), y = .int .i64 n ∧ x = .int .i64 i ∧ i ≤ l.length ∧ n = TT.highs (l.take i) 0 ∧ Below w0.heap.size w0 wr) (fun _ x _ => l.length - (intOf x).toNat)
        case atStart => exact ⟨0, 0, rfl, rfl, by omega, by simp [TT.highs], Below.refl _ _⟩
        case round =>
          obtain ⟨i, n, rfl, rfl, hi, hn, hB⟩ := hrel
          have hnb : n ≤ 4096 := by have := TT.highs_upto_le l i 0; have := HHB.out; omega
          have HNI := Lib.hid hn; clear hn
          replace q14 := cell_stays hB q14; replace q0 := cell_stays hB q0
          by_cases hlt : i < l.length
          · as_aux_lemma =>
            have g1 : decide ((i : Int) < l.length) = true := decide_eq_true (by omega)
            have g2 : decide (i < l.length) = true := decide_eq_true hlt
            obtain ⟨b, o, ea, X, hcX, hkX⟩ := HROW.out.get i hlt
            rw [ea] at q14
            have HCX := Lib.hid (hcX.below hB); have HKX := Lib.hid (hkX.below hB)
            have hsu := TT.sanes_get HSN.out i hlt
            have hf : (k == 10) = false := by simpa using HK10.out
            simp only [hf, Bool.false_and, Bool.or_false] at hsu
            have hup := TT.bulks_upto hlt 0
            have hub := TT.bulks_upto_le l (i + 1) 0
            have HSU : Hid (l[i].sane false = true ∧ l[i].lean = true ∧ l[i].cnt ≤ N ∧ l[i].bulk 0 ≤ B) := Lib.hid ⟨hsu, TT.leans_get HLS.out hlt, by have := TT.cnts_get hlt; have := HCN.out; omega, by have := HBB.out; omega⟩
            obtain ⟨dd, hdd⟩ : ∃ dd, dd = l[i].high 0 := ⟨_, rfl⟩
            have HDD := Lib.hid hdd.symm
            have HNX : Hid (max n dd = TT.highs (l.take (i + 1)) 0) := Lib.hid (by rw [TT.highs_upto hlt, ← HNI.out, hdd])
            clear ea hcX hkX hsu hf hdd hup hub q0
            go_wp2_with (refine wpList_load15 (by rfl) (by rfl) (by rfl) HCX.out ?_)
            refine (IH.out l[i] _ _ HSU.out.2.2.1 HSU.out.2.2.2 HSU.out.1 HSU.out.2.1 ⟨_, rfl, HKX.out⟩).mono ?_
            rintro e w2 ⟨rfl, hb2⟩
            rw [HDD.out]
            have hB2 := hB.trans (hb2.mono hB.size)
            clear hb2 hB q14
            go_wp2_with fail
            all_goals
              go_roundw
              case rel => exact ⟨i + 1, max n dd, by first | rfl | (congr 1; split <;> omega) | (congr 1; omega) | (congr 1; simp; omega), by go_num, by omega, HNX.out, hB2⟩
              case measure => simp [intOf]; omega
          · as_aux_lemma =>
            have hie : i = l.length := by omega
            subst hie
            have hn : n = TT.highs l 0 := by have := HNI.out; rwa [List.take_length] at this
            subst hn
            have g1 : decide ((l.length : Int) < l.length) = false := decide_eq_false (by omega)
            have g2 : decide (l.length < l.length) = false := decide_eq_false (by omega)
            have hw1 : IntKind.i64.wrap ((TT.highs l 0 : Int) + 1) = (TT.highs l 0 : Int) + 1 := by rw [IntKind.wrap_i64] <;> omega
            replace hBA := hBA.trans (hB.mono hBA.size)
            by_cases h3 : k = 3
            · have b3 : (k == 3) = true := by simp [h3]
              have HE : Hid ((TT.mk k v vs lo hi0 ws p l).high 0 = TT.highs l 0) := Lib.hid (by exact HH.out.1 (.inl h3))
              clear h3
              go_wp2_with fail
              go_ret
              exact ⟨ret_int (by rw [HE.out]), hBA⟩
            · have b3 : (k == 3) = false := by simp [h3]
              by_cases h9 : k = 9
              · have b9 : (k == 9) = true := by simp [h9]
                have HE : Hid ((TT.mk k v vs lo hi0 ws p l).high 0 = TT.highs l 0) := Lib.hid (by exact HH.out.1 (.inr h9))
                clear h9 h3
                go_wp2_with fail
                go_ret
                exact ⟨ret_int (by rw [HE.out]), hBA⟩
              · have b9 : (k == 9) = false := by simp [h9]
                have HE : Hid ((TT.mk k v vs lo hi0 ws p l).high 0 = TT.highs l 0 + 1) := Lib.hid (by exact HH.out.2 (by omega))
                clear h9 h3
                go_wp2_with fail
                go_ret
                exact ⟨ret_int (by rw [HE.out]; simp), hBA⟩
set_option maxRecDepth 100000 in
set_option maxHeartbeats 8000000 in
theorem rtHigh_any (t : TT) (x : Value) (w : World) (hcn : t.cnt ≤ 3000000) (hln : t.lean = true) (hx : TIn w t x) :
    Calls Tryz.prog 32 #[x] w fun e w' => e = .returned (.int .i64 (t.High : Int)) ∧ Below w.heap.size w w' := by
  obtain ⟨A, rfl, hok⟩ := hx
  obtain ⟨w0, hw0, m0, s0, hc0, _⟩ := row1_new w t A
  have HC0 := Lib.hid hc0; have HOK := Lib.hid (hok.below m0)
  obtain ⟨b, hb⟩ : ∃ b, b = t.Bulk := ⟨_, rfl⟩
  have HB := Lib.hid hb.symm
  clear hc0 hok
  unfold TT.val
  go_enter Tryz.func32, Tryz.ntmps32
  go_wp2_with (refine wpList_load15 (by rfl) (by rfl) (by rfl) HC0.out ?_)
  refine (rtBulk_any t _ _ hcn hln ⟨A, rfl, HOK.out⟩).mono ?_
  rintro e w1 ⟨rfl, hb1⟩
  rw [HB.out]
  replace HC0 := Lib.hid (HC0.out.below hb1); replace HOK := Lib.hid (HOK.out.below hb1)
  have hBA := m0.trans (hb1.mono m0.size)
  clear hb1 m0
  by_cases h0 : b = 0
  · have d0 : decide ((b : Int) = 0) = true := decide_eq_true (by omega)
    have d1 : ((b : Int) == 0) = true := by simp [h0]
    have HE : Hid (t.High = 0) := Lib.hid (by
      have := HB.out
      rw [h0, TT.Bulk] at this
      rw [TT.High]
      by_cases hs : t.sane false = true
      · have := TT.bulk_pos0 hs; rw [if_pos hs] at *; omega
      · simp [hs])
    clear h0 hb
    go_wp2_with fail
    go_ret
    exact ⟨ret_int (by rw [HE.out]; rfl), hBA⟩
  · have d0 : decide ((b : Int) = 0) = false := decide_eq_false (by omega)
    have d1 : ((b : Int) == 0) = false := by simpa using h0
    have hsn : t.sane false = true := by
      by_cases hs : t.sane false = true
      · exact hs
      · exfalso; apply h0; rw [hb, TT.Bulk, if_neg hs]
    have hbb : b = min (t.bulk 0) 4097 := by rw [hb, TT.Bulk, if_pos hsn]
    by_cases h4 : 4096 < b
    · have d2 : decide ((4096 : Int) < b) = true := decide_eq_true (by omega)
      have HE : Hid (t.High = 0) := Lib.hid (by rw [TT.High, hsn]; have : ¬ t.bulk 0 ≤ 4096 := by omega
                                                simp [this])
      clear h0 hb hbb h4
      go_wp2_with fail
      go_ret
      exact ⟨ret_int (by rw [HE.out]; rfl), hBA⟩
    · have d2 : decide ((4096 : Int) < b) = false := decide_eq_false (by omega)
      have hle : t.bulk 0 ≤ 4096 := by omega
      have HE : Hid (t.High = t.high 0) := Lib.hid (by rw [TT.High, hsn]; simp [hle])
      have HSN := Lib.hid hsn; have HLE := Lib.hid hle
      clear h0 hb hbb h4 hle hsn
      go_wp2_with (refine wpList_load15 (by rfl) (by rfl) (by rfl) HC0.out ?_)
      refine (rthigh_any 4096 (by decide) t.cnt t _ _ (Nat.le_refl _) HLE.out HSN.out hln ⟨A, rfl, HOK.out⟩).mono ?_
      rintro e w2 ⟨rfl, hb2⟩
      go_wp2_with fail
      go_ret
      exact ⟨ret_int (by rw [HE.out]), hBA.trans (hb2.mono hBA.size)⟩
end Go.Proofs.YtapofbdkofelkaaGreat
/- What the law's spoil of terms may write over: rows at the heads of blocks from lo up to hi; cells keep their sort. -/
namespace Go.Proofs.YtapofbdkofelkaaGreat
open Go.RowKit

/-- only blocks from lo up to hi, and new ones, have turned. -/
structure Only (lo hi : Nat) (w w' : World) : Prop where
  os : w'.os = w.os
  tape : w'.tape = w.tape
  output : w'.output = w.output
  size : w.heap.size ≤ w'.heap.size
  block : ∀ k, k < w.heap.size → (k < lo ∨ hi ≤ k) → w'.heap[k]? = w.heap[k]?
theorem Only.refl (lo hi : Nat) (w : World) : Only lo hi w w := ⟨rfl, rfl, rfl, Nat.le_refl _, fun _ _ _ => rfl⟩
theorem Only.trans {lo hi : Nat} {a b c : World} (h : Only lo hi a b) (k : Only lo hi b c) : Only lo hi a c :=
  ⟨k.os.trans h.os, k.tape.trans h.tape, k.output.trans h.output, Nat.le_trans h.size k.size, fun i hi' ho => (k.block i (Nat.lt_of_lt_of_le hi' h.size) ho).trans (h.block i hi' ho)⟩
theorem Only.of_below {lo hi : Nat} {a b : World} (h : Below a.heap.size a b) : Only lo hi a b := ⟨h.os, h.tape, h.output, h.size, fun k hk _ => h.block k hk⟩
theorem Only.below {lo hi : Nat} {a b : World} (h : Only lo hi a b) (hl : lo ≤ a.heap.size) : Below lo a b := ⟨h.os, h.tape, h.output, h.size, fun k hk => h.block k (by omega) (.inl hk)⟩
theorem Only.set {lo hi : Nat} {a b : World} (h : Only lo hi a b) {p : Addr} (h1 : lo ≤ p.block) (h2 : p.block < hi) (v : Value) : Only lo hi a (b.setCell p v) :=
  h.trans ⟨rfl, rfl, rfl, by simp [World.setCell], fun k _ hk => Below.heap_setCell b p v k (by omega)⟩
theorem Only.setL {lo hi B : Nat} (h1 : lo ≤ B) (h2 : B < hi) : ∀ (l : List (Nat × Value)) {a b : World}, Only lo hi a b → Only lo hi a (setL B l b)
  | [], _, _, h => h
  | (_, v) :: l, _, _, h => Only.setL h1 h2 l (h.set h1 h2 v)
theorem Only.cell {lo hi : Nat} {a b : World} (h : Only lo hi a b) {k o : Nat} {v : Value} (hk : k < lo ∨ hi ≤ k) (hc : a.cell? ⟨k, o, none⟩ = some v) : b.cell? ⟨k, o, none⟩ = some v := by
  rw [World.cell?_of_block (w := a) (a := ⟨k, o, none⟩) (h.block k (lt_of_cell hc) hk)]; exact hc

/-- a cell as it was, or turned into one of the same sort; a slice into nil. -/
def Fade (v v' : Value) : Prop := v' = v ∨ (∃ a b, v = .int .u8 a ∧ v' = .int .u8 b) ∨ (∃ a b, v = .int .i64 a ∧ v' = .int .i64 b) ∨ (∃ a n c, v = .slice a n c ∧ v' = .slice none 0 0)
theorem Fade.refl (v : Value) : Fade v v := .inl rfl
theorem Fade.u8 (a b : Int) : Fade (.int .u8 a) (.int .u8 b) := .inr (.inl ⟨a, b, rfl, rfl⟩)
theorem Fade.i64 (a b : Int) : Fade (.int .i64 a) (.int .i64 b) := .inr (.inr (.inl ⟨a, b, rfl, rfl⟩))
theorem Fade.nil (a : Option Addr) (n c : Nat) : Fade (.slice a n c) (.slice none 0 0) := .inr (.inr (.inr ⟨a, n, c, rfl, rfl⟩))
theorem Fade.trans {a b c : Value} (h : Fade a b) (k : Fade b c) : Fade a c := by
  rcases h with rfl | ⟨x, y, rfl, rfl⟩ | ⟨x, y, rfl, rfl⟩ | ⟨x, n, d, rfl, rfl⟩
  · exact k
  · rcases k with rfl | ⟨x', y', h, rfl⟩ | ⟨x', y', h, rfl⟩ | ⟨x', n', d', h, rfl⟩
    · exact Fade.u8 _ _
    · exact Fade.u8 _ _
    · simp at h
    · simp at h
  · rcases k with rfl | ⟨x', y', h, rfl⟩ | ⟨x', y', h, rfl⟩ | ⟨x', n', d', h, rfl⟩
    · exact Fade.i64 _ _
    · simp at h
    · exact Fade.i64 _ _
    · simp at h
  · rcases k with rfl | ⟨x', y', h, rfl⟩ | ⟨x', y', h, rfl⟩ | ⟨x', n', d', h, rfl⟩
    · exact Fade.nil _ _ _
    · simp at h
    · simp at h
    · exact Fade.nil _ _ _
theorem Fade.of_u8 {a : Int} {v : Value} (h : Fade (.int .u8 a) v) : ∃ b, v = .int .u8 b := by
  rcases h with rfl | ⟨x, y, h, rfl⟩ | ⟨x, y, h, rfl⟩ | ⟨x, n, d, h, rfl⟩
  · exact ⟨_, rfl⟩
  · exact ⟨_, rfl⟩
  · simp at h
  · simp at h
theorem Fade.of_i64 {a : Int} {v : Value} (h : Fade (.int .i64 a) v) : ∃ b, v = .int .i64 b := by
  rcases h with rfl | ⟨x, y, h, rfl⟩ | ⟨x, y, h, rfl⟩ | ⟨x, n, d, h, rfl⟩
  · exact ⟨_, rfl⟩
  · simp at h
  · exact ⟨_, rfl⟩
  · simp at h
/-- as it was, or nothing. -/
def SameOr {α : Type} (l : List α) (a : Option Addr) (l' : List α) (a' : Option Addr) : Prop := l' = [] ∨ l' = l ∧ a' = a
theorem Fade.of_slice {α : Type} {a : Option Addr} {l : List α} {c : Nat} {v : Value} (h : Fade (.slice a l.length c) v) : ∃ l' a' c', v = .slice a' (l' : List α).length c' ∧ SameOr l a l' a' := by
  rcases h with rfl | ⟨x, y, h, rfl⟩ | ⟨x, y, h, rfl⟩ | ⟨x, n, d, h, rfl⟩
  · exact ⟨l, a, c, rfl, .inr ⟨rfl, rfl⟩⟩
  · simp at h
  · simp at h
  · exact ⟨[], none, 0, rfl, .inl rfl⟩
theorem SameOr.len {α : Type} {l l' : List α} {a a' : Option Addr} (h : SameOr l a l' a') {m : Nat} (hl : l.length ≤ m) : l'.length ≤ m := by
  rcases h with rfl | ⟨rfl, _⟩
  · simp
  · exact hl

/-- the cells of blocks from lo up to hi keep their sort. -/
structure Fades (lo hi : Nat) (w w' : World) : Prop where
  cell : ∀ b o v, lo ≤ b → b < hi → w.cell? ⟨b, o, none⟩ = some v → ∃ v', w'.cell? ⟨b, o, none⟩ = some v' ∧ Fade v v'
  frozen : ∀ b o, lo ≤ b → b < hi → w'.frozen? ⟨b, o, none⟩ = w.frozen? ⟨b, o, none⟩
theorem Fades.refl (lo hi : Nat) (w : World) : Fades lo hi w w := ⟨fun _ _ v _ _ h => ⟨v, h, Fade.refl v⟩, fun _ _ _ _ => rfl⟩
theorem Fades.trans {lo hi : Nat} {a b c : World} (h : Fades lo hi a b) (k : Fades lo hi b c) : Fades lo hi a c :=
  ⟨fun x o v h1 h2 hc => by
    obtain ⟨v1, hc1, f1⟩ := h.cell x o v h1 h2 hc
    obtain ⟨v2, hc2, f2⟩ := k.cell x o v1 h1 h2 hc1
    exact ⟨v2, hc2, f1.trans f2⟩, fun x o h1 h2 => (k.frozen x o h1 h2).trans (h.frozen x o h1 h2)⟩
theorem Fades.of_below {lo hi : Nat} {a b : World} (h : Below a.heap.size a b) (hh : hi ≤ a.heap.size) : Fades lo hi a b :=
  ⟨fun x o v _ _ hc => ⟨v, cell_stays h hc, Fade.refl v⟩, fun x o _ h2 => h.frozen (p := ⟨x, o, none⟩) (show x < a.heap.size by omega)⟩
theorem Fades.set {lo hi : Nat} {a b : World} (h : Fades lo hi a b) {x o : Nat} {u v : Value} (hc : b.cell? ⟨x, o, none⟩ = some u) (hf : Fade u v) : Fades lo hi a (b.setCell ⟨x, o, none⟩ v) :=
  h.trans ⟨fun y q z _ _ hz => by
    by_cases e : x = y
    · subst e
      by_cases e2 : o = q
      · subst e2
        rw [hc] at hz
        cases hz
        exact ⟨v, set_same hc, hf⟩
      · exact ⟨z, set_off hz e2, Fade.refl z⟩
    · exact ⟨z, set_blk hz e, Fade.refl z⟩, fun y q _ _ => World.frozen?_setCell ..⟩
theorem Fades.setL {lo hi B : Nat} : ∀ (l : List (Nat × Value)) {a b : World}, (l.map (·.1)).Nodup → (∀ p ∈ l, ∃ u, b.cell? ⟨B, p.1, none⟩ = some u ∧ Fade u p.2) → Fades lo hi a b → Fades lo hi a (setL B l b)
  | [], _, _, _, _, h => h
  | (o, v) :: l, _, b, hn, hc, h => by
    rw [List.map_cons, List.nodup_cons] at hn
    obtain ⟨u, hu, hf⟩ := hc (o, v) (by simp)
    refine Fades.setL l hn.2 (fun p hp => ?_) (h.set hu hf)
    obtain ⟨x, hx, hfx⟩ := hc p (by simp [hp])
    refine ⟨x, set_off hx (fun e => hn.1 ?_), hfx⟩
    rw [List.mem_map]
    exact ⟨p, hp, e.symm⟩

/-- from the address on lie that many elements, at the head of a block from lo up to hi. -/
def Spot (w : World) (lo hi K : Nat) (E : Nat → Nat → Prop) (a : Option Addr) (n : Nat) : Prop :=
  n = 0 ∨ ∃ b, a = some ⟨b, 0, none⟩ ∧ lo ≤ b ∧ b < hi ∧ ∀ i, i < n → (∀ j, j < K → w.frozen? ⟨b, i * K + j, none⟩ = false) ∧ E b (i * K)
theorem Spot.fade {w w' : World} {lo hi K : Nat} {E E' : Nat → Nat → Prop} (h : Fades lo hi w w') (hE : ∀ b o, lo ≤ b → b < hi → E b o → E' b o) {a : Option Addr} {n : Nat} (hs : Spot w lo hi K E a n) : Spot w' lo hi K E' a n :=
  hs.imp id fun ⟨b, ha, h1, h2, hr⟩ => ⟨b, ha, h1, h2, fun i hi => ⟨fun j hj => (h.frozen b _ h1 h2).trans ((hr i hi).1 j hj), hE b _ h1 h2 (hr i hi).2⟩⟩
theorem Spot.to {α : Type} {w : World} {lo hi K : Nat} {E : Nat → Nat → Prop} {l l' : List α} {a a' : Option Addr} (h : SameOr l a l' a') (hs : Spot w lo hi K E a l.length) : Spot w lo hi K E a' l'.length := by
  rcases h with rfl | ⟨rfl, rfl⟩
  · exact .inl rfl
  · exact hs
def VE (w : World) (b o : Nat) : Prop := ∃ k n, ∃ (l : List VT), ∃ a c, w.cell? ⟨b, o, none⟩ = some (.int .u8 k) ∧ w.cell? ⟨b, o + 1, none⟩ = some (.int .i64 n) ∧ w.cell? ⟨b, o + 2, none⟩ = some (.slice a l.length c)
def VE2 (w : World) (lo hi : Nat) (b o : Nat) : Prop := ∃ k n, ∃ (l : List VT), ∃ a c, l.length ≤ 3518437208780 ∧ w.cell? ⟨b, o, none⟩ = some (.int .u8 k) ∧ w.cell? ⟨b, o + 1, none⟩ = some (.int .i64 n) ∧ w.cell? ⟨b, o + 2, none⟩ = some (.slice a l.length c) ∧ Spot w lo hi 3 (VE w) a l.length
def WE (w : World) (b o : Nat) : Prop := ∃ x, w.cell? ⟨b, o, none⟩ = some (.int .i64 x)
def PE (w : World) (b o : Nat) : Prop := ∃ k vk vn, ∃ (l : List VT), ∃ va vc n, ∃ (m : List PT), ∃ a c, w.cell? ⟨b, o, none⟩ = some (.int .u8 k) ∧ w.cell? ⟨b, o + 1, none⟩ = some (.int .u8 vk) ∧ w.cell? ⟨b, o + 2, none⟩ = some (.int .i64 vn) ∧
  w.cell? ⟨b, o + 3, none⟩ = some (.slice va l.length vc) ∧ w.cell? ⟨b, o + 4, none⟩ = some (.int .i64 n) ∧ w.cell? ⟨b, o + 5, none⟩ = some (.slice a m.length c)
section
variable {lo hi : Nat} {w w' : World} (h : Fades lo hi w w')
include h
theorem Fades.u8 {b o : Nat} {k : Int} (h1 : lo ≤ b) (h2 : b < hi) (hc : w.cell? ⟨b, o, none⟩ = some (.int .u8 k)) : ∃ k', w'.cell? ⟨b, o, none⟩ = some (.int .u8 k') := by
  obtain ⟨v, hv, hf⟩ := h.cell b o _ h1 h2 hc
  obtain ⟨k', rfl⟩ := hf.of_u8
  exact ⟨k', hv⟩
theorem Fades.i64 {b o : Nat} {k : Int} (h1 : lo ≤ b) (h2 : b < hi) (hc : w.cell? ⟨b, o, none⟩ = some (.int .i64 k)) : ∃ k', w'.cell? ⟨b, o, none⟩ = some (.int .i64 k') := by
  obtain ⟨v, hv, hf⟩ := h.cell b o _ h1 h2 hc
  obtain ⟨k', rfl⟩ := hf.of_i64
  exact ⟨k', hv⟩
theorem Fades.slice {α : Type} {b o : Nat} {a : Option Addr} {l : List α} {c : Nat} (h1 : lo ≤ b) (h2 : b < hi) (hc : w.cell? ⟨b, o, none⟩ = some (.slice a l.length c)) : ∃ l' a' c', w'.cell? ⟨b, o, none⟩ = some (.slice a' (l' : List α).length c') ∧ SameOr l a l' a' := by
  obtain ⟨v, hv, hf⟩ := h.cell b o _ h1 h2 hc
  obtain ⟨l', a', c', rfl, hs⟩ := hf.of_slice
  exact ⟨l', a', c', hv, hs⟩
theorem VE.fade {b o : Nat} (h1 : lo ≤ b) (h2 : b < hi) (he : VE w b o) : VE w' b o := by
  obtain ⟨k, n, l, a, c, c0, c1, c2⟩ := he
  obtain ⟨k', d0⟩ := h.u8 h1 h2 c0
  obtain ⟨n', d1⟩ := h.i64 h1 h2 c1
  obtain ⟨l', a', c', d2, _⟩ := h.slice h1 h2 c2
  exact ⟨k', n', l', a', c', d0, d1, d2⟩
theorem VE2.fade {b o : Nat} (h1 : lo ≤ b) (h2 : b < hi) (he : VE2 w lo hi b o) : VE2 w' lo hi b o := by
  obtain ⟨k, n, l, a, c, hl, c0, c1, c2, hs⟩ := he
  obtain ⟨k', d0⟩ := h.u8 h1 h2 c0
  obtain ⟨n', d1⟩ := h.i64 h1 h2 c1
  obtain ⟨l', a', c', d2, hso⟩ := h.slice h1 h2 c2
  exact ⟨k', n', l', a', c', hso.len hl, d0, d1, d2, (hs.fade h (fun _ _ h1 h2 => VE.fade h h1 h2)).to hso⟩
theorem WE.fade {b o : Nat} (h1 : lo ≤ b) (h2 : b < hi) (he : WE w b o) : WE w' b o := by
  obtain ⟨x, c0⟩ := he
  exact h.i64 h1 h2 c0
theorem PE.fade {b o : Nat} (h1 : lo ≤ b) (h2 : b < hi) (he : PE w b o) : PE w' b o := by
  obtain ⟨k, vk, vn, l, va, vc, n, m, a, c, c0, c1, c2, c3, c4, c5⟩ := he
  obtain ⟨k', d0⟩ := h.u8 h1 h2 c0
  obtain ⟨vk', d1⟩ := h.u8 h1 h2 c1
  obtain ⟨vn', d2⟩ := h.i64 h1 h2 c2
  obtain ⟨l', va', vc', d3, _⟩ := h.slice h1 h2 c3
  obtain ⟨n', d4⟩ := h.i64 h1 h2 c4
  obtain ⟨m', a', c', d5, _⟩ := h.slice h1 h2 c5
  exact ⟨k', vk', vn', l', va', vc', n', m', a', c', d0, d1, d2, d3, d4, d5⟩
end
/-- the rows of a node by itself. -/
structure TBare (w : World) (lo hi : Nat) (t : TT) (A : TA) : Prop where
  la : t.args.length ≤ 651562446070
  ls : t.vs.length ≤ 3518437208780
  lw : t.ws.length ≤ 17592186043904
  lv : t.v.items.length ≤ 3518437208780
  lp : t.p.args.length ≤ 1759218604390
  lq : t.p.val.items.length ≤ 3518437208780
  v : Spot w lo hi 3 (VE w) A.va t.v.items.length
  s : Spot w lo hi 3 (VE2 w lo hi) A.sa t.vs.length
  n : Spot w lo hi 1 (WE w) A.wa t.ws.length
  p : Spot w lo hi 6 (PE w) A.pa t.p.args.length
  q : Spot w lo hi 3 (VE w) A.qa t.p.val.items.length
/-- a term, no deeper than that, whose rows may be written over. -/
def TW (w : World) (lo hi : Nat) : Nat → TT → TA → Prop
  | 0, t, A => TBare w lo hi t A ∧ t.args = []
  | d + 1, t, A => TBare w lo hi t A ∧ Spot w lo hi 15 (fun b o => ∃ t' A', TCells w b o t' A' ∧ TW w lo hi d t' A') A.aa t.args.length
theorem TW.bare {w : World} {lo hi : Nat} : ∀ {d : Nat} {t : TT} {A : TA}, TW w lo hi d t A → TBare w lo hi t A
  | 0, _, _, h => h.1
  | _ + 1, _, _, h => h.1
/-- what a term has turned to. -/
structure Worn (t : TT) (A : TA) (t' : TT) (A' : TA) : Prop where
  v : SameOr t.v.items A.va t'.v.items A'.va
  s : SameOr t.vs A.sa t'.vs A'.sa
  w : SameOr t.ws A.wa t'.ws A'.wa
  p : SameOr t.p.args A.pa t'.p.args A'.pa
  q : SameOr t.p.val.items A.qa t'.p.val.items A'.qa
  a : SameOr t.args A.aa t'.args A'.aa
theorem Fades.tcells {lo hi : Nat} {w w' : World} (h : Fades lo hi w w') {b o : Nat} {t : TT} {A : TA} (h1 : lo ≤ b) (h2 : b < hi) (hc : TCells w b o t A) : ∃ t' A', TCells w' b o t' A' ∧ Worn t A t' A' := by
  obtain ⟨c0, c1, c2, c3, c4, c5, c6, c7, c8, c9, c10, c11, c12, c13, c14⟩ := hc
  obtain ⟨k, d0⟩ := h.u8 h1 h2 c0
  obtain ⟨vk, d1⟩ := h.u8 h1 h2 c1
  obtain ⟨vn, d2⟩ := h.i64 h1 h2 c2
  obtain ⟨vi, va, vc, d3, s3⟩ := h.slice h1 h2 c3
  obtain ⟨vs, sa, sc, d4, s4⟩ := h.slice h1 h2 c4
  obtain ⟨lo', d5⟩ := h.i64 h1 h2 c5
  obtain ⟨hi', d6⟩ := h.i64 h1 h2 c6
  obtain ⟨ws, wa, wc, d7, s7⟩ := h.slice h1 h2 c7
  obtain ⟨pk, d8⟩ := h.u8 h1 h2 c8
  obtain ⟨qk, d9⟩ := h.u8 h1 h2 c9
  obtain ⟨qn, d10⟩ := h.i64 h1 h2 c10
  obtain ⟨qi, qa, qc, d11, s11⟩ := h.slice h1 h2 c11
  obtain ⟨pn, d12⟩ := h.i64 h1 h2 c12
  obtain ⟨pl, pa, pc, d13, s13⟩ := h.slice h1 h2 c13
  obtain ⟨l, aa, ac, d14, s14⟩ := h.slice h1 h2 c14
  exact ⟨.mk k (.mk vk vn vi) vs lo' hi' ws (.mk pk (.mk qk qn qi) pn pl) l, ⟨va, vc, sa, sc, wa, wc, qa, qc, pa, pc, aa, ac⟩, ⟨d0, d1, d2, d3, d4, d5, d6, d7, d8, d9, d10, d11, d12, d13, d14⟩, ⟨s3, s4, s7, s13, s11, s14⟩⟩
theorem TBare.fade {lo hi : Nat} {w w' : World} (h : Fades lo hi w w') {t : TT} {A : TA} (hb : TBare w lo hi t A) : TBare w' lo hi t A :=
  ⟨hb.la, hb.ls, hb.lw, hb.lv, hb.lp, hb.lq, hb.v.fade h (fun _ _ h1 h2 => VE.fade h h1 h2), hb.s.fade h (fun _ _ h1 h2 => VE2.fade h h1 h2), hb.n.fade h (fun _ _ h1 h2 => WE.fade h h1 h2), hb.p.fade h (fun _ _ h1 h2 => PE.fade h h1 h2), hb.q.fade h (fun _ _ h1 h2 => VE.fade h h1 h2)⟩
theorem TBare.to {lo hi : Nat} {w : World} {t t' : TT} {A A' : TA} (hw : Worn t A t' A') (hb : TBare w lo hi t A) : TBare w lo hi t' A' :=
  ⟨hw.a.len hb.la, hw.s.len hb.ls, hw.w.len hb.lw, hw.v.len hb.lv, hw.p.len hb.lp, hw.q.len hb.lq, hb.v.to hw.v, hb.s.to hw.s, hb.n.to hw.w, hb.p.to hw.p, hb.q.to hw.q⟩
theorem TW.to {lo hi : Nat} {w : World} : ∀ {d : Nat} {t t' : TT} {A A' : TA}, Worn t A t' A' → TW w lo hi d t A → TW w lo hi d t' A'
  | 0, _, _, _, _, hw, ⟨hb, he⟩ => ⟨hb.to hw, by
    rcases hw.a with h | ⟨h, _⟩
    · exact h
    · rw [h, he]⟩
  | _ + 1, _, _, _, _, hw, ⟨hb, hs⟩ => ⟨hb.to hw, hs.to hw.a⟩
theorem TW.fade {lo hi : Nat} {w w' : World} (h : Fades lo hi w w') : ∀ (d : Nat) (t : TT) (A : TA), TW w lo hi d t A → TW w' lo hi d t A
  | 0, _, _, ⟨hb, he⟩ => ⟨hb.fade h, he⟩
  | d + 1, _, _, ⟨hb, hs⟩ => ⟨hb.fade h, hs.fade h fun b o h1 h2 ⟨t', A', hc, hw⟩ => by
    obtain ⟨t2, A2, hc2, hwo⟩ := h.tcells h1 h2 hc
    exact ⟨t2, A2, hc2, (TW.fade h d t' A' hw).to hwo⟩⟩
theorem TW.up {lo hi : Nat} {w : World} : ∀ {d : Nat} {t : TT} {A : TA}, TW w lo hi d t A → TW w lo hi (d + 1) t A
  | 0, _, _, ⟨hb, he⟩ => ⟨hb, .inl (by rw [he]; rfl)⟩
  | d + 1, _, _, ⟨hb, hs⟩ => ⟨hb, hs.fade (Fades.refl lo hi w) fun _ _ _ _ ⟨t', A', hc, hw⟩ => ⟨t', A', hc, hw.up⟩⟩
theorem TW.le {w : World} {lo hi d d' : Nat} {t : TT} {A : TA} (h : TW w lo hi d t A) (hd : d ≤ d') : TW w lo hi d' t A := by
  obtain ⟨j, rfl⟩ : ∃ j, d' = d + j := ⟨d' - d, by omega⟩
  clear hd
  induction j with
  | zero => exact h
  | succ j ih => exact ih.up

/-! what a copy has made may be written over -/
theorem fin_cells {w : World} {lo : Nat} {t : VT} {v0 v1 v2 : Value} (h : FIn w lo t (.agg #[v0, v1, v2])) : ∃ a c, v0 = .int .u8 t.kind ∧ v1 = .int .i64 t.num ∧ v2 = .slice a t.items.length c ∧ t.items.length ≤ 3518437208780 ∧ (t.items = [] ∨ ∃ b, a = some ⟨b, 0, none⟩ ∧ lo ≤ b ∧ FRow w lo t.items b 0) := by
  obtain ⟨k, n, its⟩ := t
  obtain ⟨a, c, hl, hv, hr⟩ := h.open
  simp only [Value.agg.injEq, Array.mk.injEq, List.cons.injEq, and_true] at hv
  obtain ⟨rfl, rfl, rfl⟩ := hv
  exact ⟨a, c, rfl, rfl, rfl, hl, hr⟩
theorem FRow.ve {w : World} {lo b : Nat} {l : List VT} (h : FRow w lo l b 0) {i : Nat} (hi : i < l.length) : b < w.heap.size ∧ (∀ j, j < 3 → w.frozen? ⟨b, i * 3 + j, none⟩ = false) ∧ VE w b (i * 3) := by
  obtain ⟨v0, v1, v2, h0, h1, h2, f0, f1, f2, ht⟩ := h.get i hi
  obtain ⟨a, c, rfl, rfl, rfl, _⟩ := (fin_cells ht)
  simp only [Nat.zero_add] at h0 h1 h2 f0 f1 f2
  refine ⟨lt_of_cell h0, fun j hj => ?_, ⟨_, _, _, _, _, h0, h1, h2⟩⟩
  rcases (by omega : j = 0 ∨ j = 1 ∨ j = 2) with rfl | rfl | rfl
  · exact f0
  · exact f1
  · exact f2
theorem FRow.spot {w : World} {lo : Nat} {a : Option Addr} {l : List VT} (h : l = [] ∨ ∃ b, a = some ⟨b, 0, none⟩ ∧ lo ≤ b ∧ FRow w lo l b 0) : Spot w lo w.heap.size 3 (VE w) a l.length := by
  by_cases h0 : l.length = 0
  · exact .inl h0
  · rcases h with rfl | ⟨b, ha, hb, hr⟩
    · simp at h0
    · exact .inr ⟨b, ha, hb, (hr.ve (i := 0) (by omega)).1, fun i hi => (hr.ve hi).2⟩
theorem FRow.spot2 {w : World} {lo : Nat} {a : Option Addr} {l : List VT} (h : l = [] ∨ ∃ b, a = some ⟨b, 0, none⟩ ∧ lo ≤ b ∧ FRow w lo l b 0) : Spot w lo w.heap.size 3 (VE2 w lo w.heap.size) a l.length := by
  by_cases h0 : l.length = 0
  · exact .inl h0
  · rcases h with rfl | ⟨b, ha, hb, hr⟩
    · simp at h0
    · refine .inr ⟨b, ha, hb, (hr.ve (i := 0) (by omega)).1, fun i hi => ⟨(hr.ve hi).2.1, ?_⟩⟩
      obtain ⟨v0, v1, v2, h0, h1, h2, _, _, _, ht⟩ := hr.get i hi
      obtain ⟨a', c', rfl, rfl, rfl, hl, hr'⟩ := (fin_cells ht)
      simp only [Nat.zero_add] at h0 h1 h2
      exact ⟨_, _, _, _, _, hl, h0, h1, h2, FRow.spot hr'⟩
theorem pfin_cells {w : World} {lo : Nat} {t : PT} {v0 v1 v2 v3 v4 v5 : Value} (h : PFIn w lo t (.agg #[v0, v1, v2, v3, v4, v5])) : ∃ va vc a c, v0 = .int .u8 t.kind ∧ v1 = .int .u8 t.val.kind ∧ v2 = .int .i64 t.val.num ∧ v3 = .slice va t.val.items.length vc ∧ v4 = .int .i64 t.num ∧ v5 = .slice a t.args.length c ∧
    t.args.length ≤ 1759218604390 ∧ t.val.items.length ≤ 3518437208780 ∧ (t.val.items = [] ∨ ∃ b, va = some ⟨b, 0, none⟩ ∧ lo ≤ b ∧ FRow w lo t.val.items b 0) ∧ (t.args = [] ∨ ∃ b, a = some ⟨b, 0, none⟩ ∧ lo ≤ b ∧ PFRow w lo t.args b 0) := by
  obtain ⟨k, v, n, l⟩ := t
  obtain ⟨va, vc, a, c, hl, hvl, hx, hv, hr⟩ := h.open
  simp only [Value.agg.injEq, Array.mk.injEq, List.cons.injEq, and_true] at hx
  obtain ⟨rfl, rfl, rfl, rfl, rfl, rfl⟩ := hx
  obtain ⟨a', c', _, _, e, _, hr'⟩ := (fin_cells hv)
  simp only [Value.slice.injEq] at e
  obtain ⟨rfl, _, rfl⟩ := e
  exact ⟨_, _, _, _, rfl, rfl, rfl, rfl, rfl, rfl, hl, hvl, hr', hr⟩
theorem PFRow.spot {w : World} {lo : Nat} {a : Option Addr} {l : List PT} (h : l = [] ∨ ∃ b, a = some ⟨b, 0, none⟩ ∧ lo ≤ b ∧ PFRow w lo l b 0) : Spot w lo w.heap.size 6 (PE w) a l.length := by
  by_cases h0 : l.length = 0
  · exact .inl h0
  · rcases h with rfl | ⟨b, ha, hb, hr⟩
    · simp at h0
    · refine .inr ⟨b, ha, hb, ?_, fun i hi => ?_⟩
      · obtain ⟨_, _, _, _, _, _, c0, _⟩ := hr.get 0 (by omega)
        exact lt_of_cell c0
      · obtain ⟨v0, v1, v2, v3, v4, v5, h0, h1, h2, h3, h4, h5, hf, ht⟩ := hr.get i hi
        obtain ⟨va, vc, a', c', rfl, rfl, rfl, rfl, rfl, rfl, _⟩ := (pfin_cells ht)
        simp only [Nat.zero_add] at h0 h1 h2 h3 h4 h5 hf
        exact ⟨hf, _, _, _, _, _, _, _, _, _, _, h0, h1, h2, h3, h4, h5⟩
theorem WFRow.get {w : World} {b : Nat} : ∀ {l : List Int} {o : Nat} (_ : WFRow w l b o) (i : Nat) (hi : i < l.length), w.cell? ⟨b, o + i, none⟩ = some (.int .i64 l[i]) ∧ w.frozen? ⟨b, o + i, none⟩ = false := by
  intro l
  induction l with
  | nil => intro o _ i hi; simp at hi
  | cons t ts ih =>
    intro o h i hi
    rw [WFRow] at h
    cases i with
    | zero => exact ⟨h.1, h.2.1⟩
    | succ i =>
      have := ih h.2.2 i (by simpa using hi)
      rw [show o + 1 + i = o + (i + 1) by omega] at this
      simpa using this
theorem WFRow.spot {w : World} {lo : Nat} {a : Option Addr} {l : List Int} (h : l = [] ∨ ∃ b, a = some ⟨b, 0, none⟩ ∧ lo ≤ b ∧ WFRow w l b 0) : Spot w lo w.heap.size 1 (WE w) a l.length := by
  by_cases h0 : l.length = 0
  · exact .inl h0
  · rcases h with rfl | ⟨b, ha, hb, hr⟩
    · simp at h0
    · refine .inr ⟨b, ha, hb, lt_of_cell (hr.get 0 (by omega)).1, fun i hi => ?_⟩
      have := hr.get i hi
      simp only [Nat.zero_add] at this
      refine ⟨fun j hj => ?_, _, by rw [Nat.mul_one]; exact this.1⟩
      rw [show i * 1 + j = i by omega]; exact this.2
theorem TFOk.bare {w : World} {lo : Nat} {t : TT} {A : TA} (h : TFOk w lo t A) : TBare w lo w.heap.size t A := by
  obtain ⟨⟨h1, h2, h3⟩, hv, hs, hw, hp, _⟩ := h.parts
  obtain ⟨a, c, _, _, e, hvl, hvr⟩ := (fin_cells hv)
  simp only [Value.slice.injEq] at e
  obtain ⟨rfl, _, rfl⟩ := e
  obtain ⟨va, vc, a', c', _, _, _, e3, _, e5, hpl, hql, hqr, hpr⟩ := (pfin_cells hp)
  simp only [Value.slice.injEq] at e3 e5
  obtain ⟨rfl, _, rfl⟩ := e3
  obtain ⟨rfl, _, rfl⟩ := e5
  exact ⟨h1, h2, h3, hvl, hpl, hql, FRow.spot hvr, FRow.spot2 hs, WFRow.spot hw, PFRow.spot hpr, FRow.spot hqr⟩
mutual
theorem TFOk.tw {w : World} {lo : Nat} : ∀ (t : TT) (A : TA), TFOk w lo t A → TW w lo w.heap.size t.deep t A
  | .mk k v vs l1 h1 ws p l, A, h => by
    have hb := h.bare
    obtain ⟨_, _, _, _, _, hr⟩ := h.parts
    rw [TT.deep]
    refine ⟨hb, ?_⟩
    by_cases h0 : l.length = 0
    · exact .inl h0
    · rcases hr with hr | ⟨b, ha, hlb, hr⟩
      · exact absurd (show l.length = 0 by simp only [TT.args] at hr; rw [hr]; rfl) h0
      · refine .inr ⟨b, ha, hlb, ?_, fun i hi => ?_⟩
        · obtain ⟨_, hc, _⟩ := TFRow.get hr 0 (by simp only [TT.args]; omega)
          exact lt_of_cell hc.1
        · obtain ⟨t', A', hc, hf, ht⟩ := TFRow.tw l b 0 hr i hi
          simp only [Nat.zero_add] at hc hf
          exact ⟨hf, t', A', hc, ht⟩
theorem TFRow.tw {w : World} {lo : Nat} : ∀ (l : List TT) (b o : Nat), TFRow w lo l b o → ∀ i, i < l.length → ∃ t A, TCells w b (o + i * 15) t A ∧ (∀ j, j < 15 → w.frozen? ⟨b, o + i * 15 + j, none⟩ = false) ∧ TW w lo w.heap.size (TT.deeps l) t A
  | [], _, _, _, i, hi => by simp at hi
  | t :: ts, b, o, h, i, hi => by
    rw [TFRow] at h; rw [TT.deeps]
    obtain ⟨⟨A, hc, hf, ht⟩, hr⟩ := h
    cases i with
    | zero =>
      simp only [Nat.zero_mul, Nat.add_zero]
      exact ⟨t, A, hc, hf, (TFOk.tw t A ht).le (by omega)⟩
    | succ i =>
      obtain ⟨t', A', hc, hf, ht⟩ := TFRow.tw ts b (o + 15) hr i (by simpa using hi)
      have e : o + 15 + i * 15 = o + (i + 1) * 15 := by omega
      rw [e] at hc hf
      exact ⟨t', A', hc, hf, ht.le (by omega)⟩
end
theorem run_at15W {w : World} {B q : Nat} {t : TT} {A : TA} (hrow : w.there B q 15) : (Instr.storeAt 31 (.pointer (some ⟨B, q, none⟩)) (t.val A)).run Tryz.prog w = .ok () (setL B (cellsT q t A) w) := by
  have hi : (Tryz.prog.info? 31).map (·.size) = some 15 := by
    obtain ⟨i0, hi, hz0, hz1, hz2⟩ := info_parts zeroT
    rw [hi, Option.map_some, hz1]
  have h := run_storeAt_mid (P := Tryz.prog) w B q 31 (cellsOf t A) hrow hi (by simp [cellsOf, Value.oneCell'])
  rw [setCells_setL] at h
  exact h
end Go.Proofs.YtapofbdkofelkaaGreat
