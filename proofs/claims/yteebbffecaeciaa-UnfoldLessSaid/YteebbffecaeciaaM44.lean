/- Texts of this claim laid into one: TRefD, TRefE, TRefH. -/
import Derived.Test.YteebbffecaeciaaM35
import Derived.Test.YteebbffecaeciaaM23
import Derived.Test.YteebbffecaeciaaM37
/- The document's Deep. -/
namespace Go.Proofs.Yteebbffecaeciaa
open Go.RowKit

end Go.Proofs.Yteebbffecaeciaa
/- The document's Nodes. -/
namespace Go.Proofs.Yteebbffecaeciaa
open Go.RowKit

end Go.Proofs.Yteebbffecaeciaa
/- The document's bulk. -/
namespace Go.Proofs.Yteebbffecaeciaa
open Go.RowKit

theorem TT.bulkD {t : TT} (hs : t.sane false = true) (h1 : t.kind ≠ 1) (h4 : t.kind ≠ 4) (h6 : t.kind ≠ 6) (h10 : t.kind ≠ 10) (s : Nat) : t.bulk s = 1 + TT.bulks t.args s ∧ TT.sanes false t.kind 0 t.args = true := by
  obtain ⟨hn, h11, hss⟩ := TT.sane_parts hs
  have hr := TT.right hn
  obtain ⟨k, v, vs, lo, hi, ws, p, l⟩ := t
  simp only [TT.kind_mk, TT.args_mk] at *
  refine ⟨?_, hss⟩
  have h11' : k ≠ 11 := fun h => by simpa using h11 h
  rw [TT.bulk, if_neg h1, if_neg h11', if_neg h10]
  by_cases h2 : k = 2
  · have h0 := hr.len0 (.inr (.inl h2))
    simp only [TT.args_mk] at h0
    rw [if_pos h2, List.length_eq_zero_iff.1 h0, TT.bulks]
  · rw [if_neg h2, if_neg h4, if_neg h6]
set_option maxRecDepth 100000 in
set_option maxHeartbeats 8000000 in
theorem rtbulk_any (M : Nat) : M ≤ 4096 → ∀ (N : Nat) (t : TT) (x : Value) (w : World), t.cnt ≤ N → t.sane false = true → t.lean = true → TIn w t x →
    Calls Try.prog 124 #[x, .int .i64 (M : Int)] w fun e w' => e = .returned (.int .i64 ((min (t.bulk 0) (M + 1) : Nat) : Int)) ∧ Below w.heap.size w w' := by
  induction M using Nat.strongRecOn with
  | _ M ihM =>
    intro hM N
    have IHM := Lib.hid ihM; clear ihM
    induction N with
    | zero => intro t x w h; have := TT.cnt_pos t; omega
    | succ N ih =>
      intro t x w hcn hsn hln hx
      have IH : Hid (∀ (t : TT) (x : Value) (w : World), t.cnt ≤ N → t.sane false = true → t.lean = true → TIn w t x → Calls Try.prog 124 #[x, .int .i64 (M : Int)] w fun e w' => e = .returned (.int .i64 ((min (t.bulk 0) (M + 1) : Nat) : Int)) ∧ Below w.heap.size w w') := Lib.hid ih
      clear ih
      have hpos := TT.bulk_pos0 hsn
      obtain ⟨hnode, h11, hss⟩ := TT.sane_parts hsn
      have hright := TT.right hnode
      have hstep := fun hk => TT.step_facts (t := t) hk hsn
      have hlen2 := fun hk => hright.len2 (t := t) hk
      have hlen1 := fun hk => hright.len1 (t := t) hk
      have hsz := fun hk => hright.sized (t := t) hk
      have hls := fun hk => hright.list (t := t) hk
      have hD := TT.bulkD hsn
      obtain ⟨hlp, hls2⟩ := TT.lean_parts hln
      obtain ⟨A, rfl, hok⟩ := hx
      have hTIN : TIn w t (t.val A) := ⟨A, rfl, hok⟩
      obtain ⟨w0, hw0, m0, s0, hc0, _⟩ := row1_new w t A
      have HT0 : Hid (TIn w0 t (t.val A)) := Lib.hid (hTIN.below m0)
      obtain ⟨k, v, vs, lo, hi0, ws, p, l⟩ := t
      obtain ⟨⟨hll, hsl, _⟩, hv, hs, _, _, hrow⟩ := hok.parts
      simp only [TT.v_mk, TT.vs_mk, TT.ws_mk, TT.p_mk, TT.args_mk, TT.kind_mk, TT.lo_mk, TT.hi_mk] at *
      rw [TT.cnt] at hcn
      have HC0 := Lib.hid hc0; have HROW := Lib.hid (hrow.below m0); have HLS := Lib.hid hls2; have HLP := Lib.hid hlp
      have HV := Lib.hid (hv.below m0); have HS := Lib.hid (hs.below m0); have HSS := Lib.hid hss; have HPOS := Lib.hid hpos
      have HSTEP := Lib.hid hstep; have HLEN2 := Lib.hid hlen2; have HLEN1 := Lib.hid hlen1; have HSIZED := Lib.hid hsz; have HLIST := Lib.hid hls; have HD := Lib.hid hD; have HLEAN := Lib.hid hln; have HCN := Lib.hid hcn
      obtain ⟨q0, q1, q2, q3, q4, _, q6, _, _, _, _, _, _, _, q14⟩ := hc0
      simp only [TT.v_mk, TT.vs_mk, TT.args_mk, TT.kind_mk, TT.hi_mk] at q0 q1 q2 q3 q4 q6 q14
      have hBA := m0
      clear hpos hnode h11 hss hright hstep hlen2 hlen1 hsz hls hD hlp hls2 hok hTIN hv hs hrow hln hcn hsn m0
      unfold TT.val
      simp only [TT.kind_mk, TT.v_mk, TT.vs_mk, TT.lo_mk, TT.hi_mk, TT.ws_mk, TT.p_mk, TT.args_mk] at hw0 ⊢
      by_cases hM0 : M = 0
      · as_aux_lemma =>
        subst hM0
        go_enter Try.func124, Try.ntmps124
        go_wp2_with fail
        go_ret
        exact ⟨ret_int (by have := HPOS.out; omega), hBA⟩
      have hM1 : decide ((M : Int) < 1) = false := decide_eq_false (by omega)
      by_cases h1 : k = 1
      · as_aux_lemma =>
        have b1 : (k == 1) = true := by simp [h1]
        obtain ⟨n0, hn0⟩ : ∃ n0, n0 = v.size := ⟨_, rfl⟩
        have HSZ := Lib.hid hn0.symm
        have hn1 : n0 ≤ 100000 := by rw [hn0]; exact HLP.out.1
        have HFIN : Hid (min n0 (M + 1) = min ((TT.mk k v vs lo hi0 ws p l).bulk 0) (M + 1)) := Lib.hid (by subst h1; rw [TT.bulk1, hn0])
        clear h1 hn0
        go_enter Try.func124, Try.ntmps124
        go_wp2_with fail
        refine (rsize_any 100000 (by decide) v _ _ HLP.out.1 HV.out).mono ?_
        rintro e w1 ⟨rfl, hb1⟩
        rw [HSZ.out]
        replace hBA := hBA.trans (hb1.mono hBA.size)
        clear hb1
        have hwm : IntKind.i64.wrap ((M : Int) + 1) = (M : Int) + 1 := by rw [IntKind.wrap_i64] <;> omega
        go_wp2_with fail
        all_goals
          go_ret
          exact ⟨ret_int (by have := HFIN.out; (first | omega | (split <;> omega) | (simp only [Int.min_def] <;> split <;> omega))), hBA⟩
      have b1 : (k == 1) = false := by simp [h1]
      by_cases h4 : k = 4
      · as_aux_lemma =>
        have b4 : (k == 4) = true := by simp [h4]
        obtain ⟨n0, hn0⟩ : ∃ n0, n0 = 1 + VT.sizes vs := ⟨_, rfl⟩
        have hsz2 : VT.sizes vs ≤ 100000 := HLP.out.2.1
        have HFIN : Hid (min n0 (M + 1) = min ((TT.mk k v vs lo hi0 ws p l).bulk 0) (M + 1)) := Lib.hid (by subst h4; rw [TT.bulk4, hn0])
        have HNE := Lib.hid hn0
        clear h1 h4 hn0
        go_enter Try.func124, Try.ntmps124
        go_wp2_with fail
        go_loopw [5, 6] (fun y x wr => ∃ (i n : Nat), y = .int .i64 n ∧ x = .int .i64 i ∧ i ≤ vs.length ∧ n = 1 + VT.sizes (vs.take i) ∧ Below w0.heap.size w0 wr) (fun _ x _ => vs.length - (intOf x).toNat)
        case atStart => exact ⟨0, 1, rfl, rfl, by omega, by simp [VT.sizes], Below.refl _ _⟩
        case round =>
          obtain ⟨i, n, rfl, rfl, hi, hn, hB⟩ := hrel
          have HNI := Lib.hid hn; clear hn
          replace q4 := cell_stays hB q4
          by_cases hlt : i < vs.length
          · as_aux_lemma =>
            have g1 : decide ((i : Int) < vs.length) = true := decide_eq_true (by omega)
            have g2 : decide (i < vs.length) = true := decide_eq_true hlt
            obtain ⟨b, o, ea, ax, cx, d0, d1, d2, hvi⟩ := (HS.out.below hB).got i hlt
            rw [ea] at q4
            obtain ⟨sz, hsz⟩ : ∃ sz, sz = vs[i].size := ⟨_, rfl⟩
            have HSZ := Lib.hid hsz.symm
            have hup := VT.sizes_upto hlt
            have hle := VT.sizes_upto_le vs (i + 1)
            have HNX : Hid (n + sz = 1 + VT.sizes (vs.take (i + 1))) := Lib.hid (by rw [hup, HNI.out, hsz]; omega)
            have HSB : Hid (vs[i].size ≤ 100000) := Lib.hid (by omega)
            have hw : IntKind.i64.wrap ((n : Int) + sz) = ((n + sz : Nat) : Int) := by
              have := HNX.out
              rw [IntKind.wrap_i64] <;> omega
            clear hsz hup hle ea
            go_wp2_with fail
            refine (rsize_any 100000 (by decide) vs[i] _ _ HSB.out hvi).mono ?_
            rintro e w2 ⟨rfl, hb2⟩
            rw [HSZ.out]
            have hB2 := hB.trans (hb2.mono hB.size)
            clear hb2 hB d0 d1 d2 hvi q4
            go_wp2_with fail
            go_roundw
            case rel => exact ⟨i + 1, n + sz, by first | rfl | rw [hw] | simp, by go_num, by omega, HNX.out, hB2⟩
            case measure => simp [intOf]; omega
          · as_aux_lemma =>
            have hie : i = vs.length := by omega
            subst hie
            have hnn : n0 = n := by have := HNI.out; rw [List.take_length] at this; rw [this, HNE.out]
            subst hnn
            have g1 : decide ((vs.length : Int) < vs.length) = false := decide_eq_false (by omega)
            have g2 : decide (vs.length < vs.length) = false := decide_eq_false (by omega)
            replace hBA := hBA.trans (hB.mono hBA.size)
            have hn1 : n0 ≤ 100001 := by have := HNE.out; omega
            have hwm : IntKind.i64.wrap ((M : Int) + 1) = (M : Int) + 1 := by rw [IntKind.wrap_i64] <;> omega
            go_wp2_with fail
            all_goals
              go_ret
              exact ⟨ret_int (by have := HFIN.out; (first | omega | (split <;> omega) | (simp only [Int.min_def] <;> split <;> omega))), hBA⟩
      have b4 : (k == 4) = false := by simp [h4]
      by_cases h6 : k = 6
      · as_aux_lemma =>
        have b6 : (k == 6) = true := by simp [h6]
        obtain ⟨u, rfl⟩ := one_of (HLEN1.out (.inl h6))
        obtain ⟨hlo0, hlohi, hhi⟩ := HLIST.out h6
        obtain ⟨b, o, ea, X, hcX, hkX⟩ := HROW.out.get 0 (by simp)
        simp only [Nat.zero_mul, Nat.add_zero, List.getElem_cons_zero] at hcX hkX
        have hsu := TT.sanes_get HSS.out 0 (by simp)
        simp only [List.getElem_cons_zero, h6, Bool.false_or] at hsu
        have hlu := TT.leans_get HLS.out (i := 0) (by simp)
        simp only [List.getElem_cons_zero] at hlu
        have HU : Hid (u.cnt ≤ N ∧ u.sane false = true ∧ u.lean = true) := Lib.hid ⟨by have := HCN.out; simp only [TT.cnts] at this; omega, by simpa using hsu, hlu⟩
        obtain ⟨r0, hr0⟩ : ∃ r0, r0 = min (u.bulk 0) (M + 1) := ⟨_, rfl⟩
        obtain ⟨m, hm⟩ : ∃ m : Int, m = max 1 hi0 := ⟨_, rfl⟩
        have hm1 : 1 ≤ m := by omega
        have hm2 : m ≤ 16 := by omega
        have hr1 : r0 ≤ 4097 := by omega
        have hmr : 0 ≤ m * r0 ∧ m * r0 ≤ 16 * 4097 := ⟨Int.mul_nonneg (by omega) (by omega), Int.mul_le_mul hm2 (by omega) (by omega) (by omega)⟩
        have HFIN : Hid ((min (1 + m * (r0 : Int)) ((M : Int) + 1)) = ((min ((TT.mk k v vs lo hi0 ws p [u]).bulk 0) (M + 1) : Nat) : Int)) := Lib.hid (by
          subst h6
          rw [TT.bulk6, ← hm]
          simp only [TT.bulks, Nat.add_zero]
          obtain ⟨m', rfl⟩ : ∃ m' : Nat, m = m' := ⟨m.toNat, by omega⟩
          rw [Int.toNat_natCast, hr0]
          have hm' : 1 ≤ m' := by omega
          generalize u.bulk 0 = bu
          by_cases hle : bu ≤ M + 1
          · rw [Nat.min_eq_left hle]
            have e : ((1 + m' * bu : Nat) : Int) = 1 + (m' : Int) * (bu : Int) := by simp
            omega
          · rw [Nat.min_eq_right (by omega : M + 1 ≤ bu)]
            have e1 : 1 * (M + 1) ≤ m' * (M + 1) := Nat.mul_le_mul_right _ hm'
            have e2 : 1 * bu ≤ m' * bu := Nat.mul_le_mul_right _ hm'
            have e : ((m' * (M + 1) : Nat) : Int) = (m' : Int) * ((M + 1 : Nat) : Int) := by simp
            omega)
        have HM : Hid (m = max 1 hi0) := Lib.hid hm
        have HR0 := Lib.hid hr0.symm; have HX := Lib.hid hcX; have HK := Lib.hid hkX
        have HW1 : Hid (IntKind.i64.wrap (m * (r0 : Int)) = m * r0) := Lib.hid (by rw [IntKind.wrap_i64] <;> omega)
        have HW2 : Hid (IntKind.i64.wrap (1 + m * (r0 : Int)) = 1 + m * r0) := Lib.hid (by rw [IntKind.wrap_i64] <;> omega)
        rw [ea] at q14
        have HMR := Lib.hid hmr
        have H6 := Lib.hid q6; have HA14 : Hid (w0.cell? ⟨w.heap.size, 14, none⟩ = some (.slice (some ⟨b, o, none⟩) 1 A.ac)) := Lib.hid q14
        clear h6 hcX hkX hsu hlu hr0 hm hmr ea q14 q6 hlo0 hlohi hhi
        simp only [List.length_cons, List.length_nil, Nat.zero_add] at hw0 ⊢
        go_enter Try.func124, Try.ntmps124
        go_wp2_with fail
        have HBV := Lib.hid (fun W (h : Below w0.drew.heap.size w0.drew W) => (Below.refl _ w0).drew.trans h)
        try simp only [List.append_eq, List.cons_append, List.nil_append]
        refine wp_region_allW (kindT [(61, .fixed (.int .i64 1)), (62, .fixed (.pointer (some ⟨w.heap.size, 6, none⟩))), (63, .fixed (.int .i64 hi0)), (64, .fixed (.int .i64 m)), (65, .fixed (.pointer (some ⟨w.heap.size, 14, none⟩))), (66, .fixed (.slice (some ⟨b, o, none⟩) 1 A.ac)), (67, .fixed (.pointer (some ⟨b, o, none⟩))), (68, .fixed (TT.val u X)), (69, .fixed (.int .i64 (M : Int))), (70, .fixed (.int .i64 (r0 : Int))), (71, .fixed (.int .i64 (m * r0))), (72, .fixed (.int .i64 (1 + m * r0))), (5, .fixed (.int .i64 (1 + m * r0)))]) 86 (by kernel_rfl) (by kernel_rfl) (by rfl) (kindT_mono _) ?_ ?_
        · as_aux_lemma =>
          show ∀ o ∈ [(0, _), (1, _), (2, _), (3, _), (4, _), (5, _), (6, _), (7, _), (8, _), (9, _), (10, _), (11, _), (12, _)], _
          refine (tfm ?_ (tfm ?_ (tfm ?_ (tfm ?_ (tfm ?_ (tfm ?_ (tfm ?_ (tfm ?_ (tfm ?_ (tfm ?_ (tfm ?_ (tfm ?_ (tfm ?_ tfmnil)))))))))))))
          · intro r W hc hf hs hd hB
            have hBV := HBV.out W hB
            refine want_n rfl ?_
            have e5 : r (.tmp 5) = .int .i64 1 := hs 5 (by kernel_rfl)
            exact st_value (v := .int .i64 1) rfl (by decide) (by go_simp) rfl
          · intro r W hc hf hs hd hB
            have hBV := HBV.out W hB
            refine want_n rfl ?_
            have e2 : r (.tmp 2) = .pointer (some ⟨w.heap.size, 0, none⟩) := hs 2 (by kernel_rfl)
            exact st_value (v := .pointer (some ⟨w.heap.size, 6, none⟩)) rfl (by decide) (by go_simp) rfl
          · intro r W hc hf hs hd hB
            have hBV := HBV.out W hB
            refine want_n rfl ?_
            have e62 : r (.tmp 62) = .pointer (some ⟨w.heap.size, 6, none⟩) := hd 62 (by kernel_rfl)
            have g := cell_stays hBV H6.out
            exact st_value (v := .int .i64 hi0) rfl (by decide) (by go_simp) rfl
          · intro r W hc hf hs hd hB
            have hBV := HBV.out W hB
            refine want_n rfl ?_
            have e63 : r (.tmp 63) = .int .i64 hi0 := hd 63 (by kernel_rfl)
            exact st_value (v := .int .i64 m) rfl (by decide) (by go_simp; (first | done | (rw [HM.out]; split <;> omega) | omega)) rfl
          · intro r W hc hf hs hd hB
            have hBV := HBV.out W hB
            refine want_n rfl ?_
            have e2 : r (.tmp 2) = .pointer (some ⟨w.heap.size, 0, none⟩) := hs 2 (by kernel_rfl)
            exact st_value (v := .pointer (some ⟨w.heap.size, 14, none⟩)) rfl (by decide) (by go_simp) rfl
          · intro r W hc hf hs hd hB
            have hBV := HBV.out W hB
            refine want_n rfl ?_
            have e65 : r (.tmp 65) = .pointer (some ⟨w.heap.size, 14, none⟩) := hd 65 (by kernel_rfl)
            have g := cell_stays hBV HA14.out
            exact st_value (v := .slice (some ⟨b, o, none⟩) 1 A.ac) rfl (by decide) (by go_simp) rfl
          · intro r W hc hf hs hd hB
            have hBV := HBV.out W hB
            refine want_n rfl ?_
            have e66 : r (.tmp 66) = .slice (some ⟨b, o, none⟩) 1 A.ac := hd 66 (by kernel_rfl)
            exact st_value (v := .pointer (some ⟨b, o, none⟩)) rfl (by decide) (by go_simp) rfl
          · intro r W hc hf hs hd hB
            have hBV := HBV.out W hB
            refine want_n rfl ?_
            have e67 : r (.tmp 67) = .pointer (some ⟨b, o, none⟩) := hd 67 (by kernel_rfl)
            exact st_value (v := TT.val u X) rfl (by decide) (run_load15 (HX.out.below hBV) rfl e67) rfl
          · intro r W hc hf hs hd hB
            have hBV := HBV.out W hB
            refine want_n rfl ?_
            have e1 : r (.tmp 1) = .int .i64 (M : Int) := hs 1 (by kernel_rfl)
            exact st_value (v := .int .i64 (M : Int)) rfl (by decide) (by go_simp) rfl
          · intro r W hc hf hs hd hB
            have hBV := HBV.out W hB
            refine want_n rfl ?_
            have e68 : r (.tmp 68) = TT.val u X := hd 68 (by kernel_rfl)
            have e69 : r (.tmp 69) = .int .i64 (M : Int) := hd 69 (by kernel_rfl)
            exact st_call (f := 124) (args := #[TT.val u X, .int .i64 (M : Int)]) rfl (by decide) (by go_simp) (made_fix (by rw [HR0.out]) (IH.out u _ W HU.out.1 HU.out.2.1 HU.out.2.2 ⟨_, rfl, HK.out.below hBV⟩))
          · intro r W hc hf hs hd hB
            have hBV := HBV.out W hB
            refine want_n rfl ?_
            have e64 : r (.tmp 64) = .int .i64 m := hd 64 (by kernel_rfl)
            have e70 : r (.tmp 70) = .int .i64 (r0 : Int) := hd 70 (by kernel_rfl)
            have hw := HW1.out
            exact st_value (v := .int .i64 (m * r0)) rfl (by decide) (by go_simp) rfl
          · intro r W hc hf hs hd hB
            have hBV := HBV.out W hB
            refine want_n rfl ?_
            have e61 : r (.tmp 61) = .int .i64 1 := hd 61 (by kernel_rfl)
            have e71 : r (.tmp 71) = .int .i64 (m * r0) := hd 71 (by kernel_rfl)
            have hw := HW2.out
            exact st_value (v := .int .i64 (1 + m * r0)) rfl (by decide) (by go_simp) rfl
          · intro r W hc hf hs hd hB
            have hBV := HBV.out W hB
            refine want_n rfl ?_
            have e72 : r (.tmp 72) = .int .i64 (1 + m * r0) := hd 72 (by kernel_rfl)
            exact st_value (v := .int .i64 (1 + m * r0)) rfl (by decide) (by go_simp) rfl
        intro f w2 hfd hB'
        have z5 : f 5 = .int .i64 (1 + m * r0) := hfd 5 (of_decide_eq_true (by kernel_rfl))
        have hb2 := HBV.out w2 hB'
        rw [show dstsTo _ _ = [61, 62, 63, 64, 65, 66, 67, 68, 69, 70, 71, 72, 5] from by kernel_rfl]
        simp only [fill, List.setIfInBounds_toArray, List.set_cons_succ, List.set_cons_zero, z5]
        clear hfd hB' z5
        replace hBA := hBA.trans (hb2.mono hBA.size)
        clear hb2
        obtain ⟨z, hz⟩ : ∃ z, z = 1 + m * (r0 : Int) := ⟨_, rfl⟩
        rw [← hz] at HFIN ⊢
        have hz1 : 0 ≤ z ∧ z ≤ 1 + 16 * 4097 := by have := HMR.out; omega
        clear hz
        have hwm : IntKind.i64.wrap ((M : Int) + 1) = (M : Int) + 1 := by rw [IntKind.wrap_i64] <;> omega
        go_wp2_with fail
        all_goals
          go_ret
          exact ⟨ret_int (by have := HFIN.out; (first | omega | (split <;> omega) | (simp only [Int.min_def] <;> split <;> omega))), hBA⟩
      have b6 : (k == 6) = false := by simp [h6]
      by_cases h10 : k = 10
      · as_aux_lemma =>
        have b10 : (k == 10) = true := by simp [h10]
        obtain ⟨hst, hbk, -, hle⟩ := HSTEP.out h10
        obtain ⟨hlo0, hlo8, -⟩ := HSIZED.out h10
        have HL2 := Lib.hid (HLEN2.out h10); have HLO := Lib.hid (And.intro hlo0 hlo8)
        obtain ⟨u, hu⟩ : ∃ u, u = (TT.mk k v vs lo hi0 ws p l).step := ⟨_, rfl⟩
        have HSTU : Hid (u.sane false = true ∧ u.lean = true) := Lib.hid (by rw [hu]; exact ⟨hst, hle HLEAN.out⟩)
        obtain ⟨r0, hr0⟩ : ∃ r0, r0 = min (u.bulk 0) (M - 1 + 1) := ⟨_, rfl⟩
        have hr1 : r0 ≤ 4096 := by omega
        have HFIN : Hid (min (1 + r0) (M + 1) = min ((TT.mk k v vs lo hi0 ws p l).bulk 0) (M + 1)) := Lib.hid (by rw [hbk, ← hu]; omega)
        have HR0 := Lib.hid hr0.symm; have HU := Lib.hid hu.symm
        have hw1 : IntKind.i64.wrap ((M : Int) - 1) = ((M - 1 : Nat) : Int) := by rw [IntKind.wrap_i64] <;> omega
        have hw2 : IntKind.i64.wrap (1 + (r0 : Int)) = ((1 + r0 : Nat) : Int) := by rw [IntKind.wrap_i64] <;> omega
        clear h10 hst hbk hle hlo0 hlo8 hu hr0
        go_enter Try.func124, Try.ntmps124
        go_wp2_with (refine wpList_load15 (by rfl) (by rfl) (by rfl) HC0.out ?_)
        refine (rtstep_any (TT.mk k v vs lo hi0 ws p l) _ w0 (fun _ => False) HL2.out HLO.out.1 HLO.out.2 HT0.out.any (fun _ h => h.elim)).mono ?_
        rintro e w1 ⟨x', rfl, hx', hb1⟩
        rw [HU.out] at hx'
        have HX' := Lib.hid hx'.tin
        replace hBA := hBA.trans (hb1.mono hBA.size)
        clear hb1 hx'
        go_wp2_with fail
        refine (IHM.out (M - 1) (by omega) (by omega) u.cnt u x' w1 (Nat.le_refl _) HSTU.out.1 HSTU.out.2 HX'.out).mono ?_
        rintro e w2 ⟨rfl, hb1⟩
        rw [HR0.out]
        replace hBA := hBA.trans (hb1.mono hBA.size)
        clear hb1
        have hwm : IntKind.i64.wrap ((M : Int) + 1) = (M : Int) + 1 := by rw [IntKind.wrap_i64] <;> omega
        go_wp2_with fail
        all_goals
          go_ret
          exact ⟨ret_int (by have := HFIN.out; (first | omega | (split <;> omega))), hBA⟩
      have b10 : (k == 10) = false := by simp [h10]
      as_aux_lemma =>
      obtain ⟨hbk, hsn⟩ := HD.out h1 h4 h6 h10 0
      have HK10 := Lib.hid h10
      have HBK := Lib.hid hbk; have HSN := Lib.hid hsn
      clear h1 h4 h6 h10 hbk hsn
      go_enter Try.func124, Try.ntmps124
      go_wp2_with fail
      go_loopw [5, 7] (fun y x wr => ∃ (i n : Nat), y = .int .i64 n ∧ x = .int .i64 i ∧ i ≤ l.length ∧ 1 ≤ n ∧ n ≤ M + 1 ∧ n = min (1 + TT.bulks (l.take i) 0) (M + 1) ∧ Below w0.heap.size w0 wr) (fun _ x _ => l.length - (intOf x).toNat)
      case atStart => exact ⟨0, 1, rfl, rfl, by omega, by omega, by omega, by simp only [List.take_zero, TT.bulks]; omega, Below.refl _ _⟩
      case round =>
        obtain ⟨i, n, rfl, rfl, hi, hn1, hn2, hn, hB⟩ := hrel
        have HNI := Lib.hid hn; clear hn
        replace q14 := cell_stays hB q14
        by_cases hlt : i < l.length
        · have g1 : decide ((i : Int) < l.length) = true := decide_eq_true (by omega)
          have g2 : decide (i < l.length) = true := decide_eq_true hlt
          by_cases hnm : n ≤ M
          · as_aux_lemma =>
            have g3 : decide ((n : Int) ≤ M) = true := decide_eq_true (by omega)
            have g4 : decide (n ≤ M) = true := decide_eq_true hnm
            obtain ⟨b, o, ea, X, hcX, hkX⟩ := HROW.out.get i hlt
            rw [ea] at q14
            have HCX := Lib.hid (hcX.below hB); have HKX := Lib.hid (hkX.below hB)
            have hsu := TT.sanes_get HSN.out i hlt
            have hf : (k == 10) = false := by simpa using HK10.out
            simp only [hf, Bool.false_and, Bool.or_false] at hsu
            have HSU : Hid (l[i].sane false = true ∧ l[i].lean = true) := Lib.hid ⟨hsu, TT.leans_get HLS.out hlt⟩
            obtain ⟨r0, hr0⟩ : ∃ r0, r0 = min (l[i].bulk 0) (M - n + 1) := ⟨_, rfl⟩
            have HR0 := Lib.hid hr0.symm
            have hup := TT.bulks_upto hlt 0
            have HNX : Hid (1 ≤ n + r0 ∧ n + r0 ≤ M + 1 ∧ n + r0 = min (1 + TT.bulks (l.take (i + 1)) 0) (M + 1)) := Lib.hid (by have := HNI.out; rw [hup]; omega)
            have hr1 : r0 ≤ 4097 := by omega
            have hw1 : IntKind.i64.wrap ((M : Int) - n) = ((M - n : Nat) : Int) := by rw [IntKind.wrap_i64] <;> omega
            have hw2 : IntKind.i64.wrap ((n : Int) + r0) = ((n + r0 : Nat) : Int) := by rw [IntKind.wrap_i64] <;> omega
            have HMN : Hid (M - n < M ∧ M - n ≤ 4096) := Lib.hid (by omega)
            clear ea hcX hkX hsu hf hr0 hup
            go_wp2_with (refine wpList_load15 (by rfl) (by rfl) (by rfl) HCX.out ?_)
            refine (IHM.out (M - n) HMN.out.1 HMN.out.2 l[i].cnt l[i] _ _ (Nat.le_refl _) HSU.out.1 HSU.out.2 ⟨_, rfl, HKX.out⟩).mono ?_
            rintro e w2 ⟨rfl, hb2⟩
            rw [HR0.out]
            have hB2 := hB.trans (hb2.mono hB.size)
            clear hb2 hB q14
            go_wp2_with fail
            go_roundw
            case rel => exact ⟨i + 1, n + r0, by first | rfl | rw [hw2] | simp, by go_num, by omega, HNX.out.1, HNX.out.2.1, HNX.out.2.2, hB2⟩
            case measure => simp [intOf]; omega
          · as_aux_lemma =>
            have g3 : decide ((n : Int) ≤ M) = false := decide_eq_false (by omega)
            have g4 : decide (n ≤ M) = false := decide_eq_false hnm
            have HFIN : Hid (min n (M + 1) = min ((TT.mk k v vs lo hi0 ws p l).bulk 0) (M + 1)) := Lib.hid (by rw [HBK.out]; have := HNI.out; have := TT.bulks_upto_le l i 0; omega)
            replace hBA := hBA.trans (hB.mono hBA.size)
            have hwm : IntKind.i64.wrap ((M : Int) + 1) = (M : Int) + 1 := by rw [IntKind.wrap_i64] <;> omega
            go_wp2_with fail
            all_goals
              go_ret
              exact ⟨ret_int (by have := HFIN.out; (first | omega | (split <;> omega) | (simp only [Int.min_def] <;> split <;> omega))), hBA⟩
        · as_aux_lemma =>
          have hie : i = l.length := by omega
          subst hie
          have g1 : decide ((l.length : Int) < l.length) = false := decide_eq_false (by omega)
          have g2 : decide (l.length < l.length) = false := decide_eq_false (by omega)
          have HFIN : Hid (min n (M + 1) = min ((TT.mk k v vs lo hi0 ws p l).bulk 0) (M + 1)) := Lib.hid (by rw [HBK.out]; have h := HNI.out; rw [List.take_length] at h; omega)
          replace hBA := hBA.trans (hB.mono hBA.size)
          have hwm : IntKind.i64.wrap ((M : Int) + 1) = (M : Int) + 1 := by rw [IntKind.wrap_i64] <;> omega
          go_wp2_with fail
          all_goals
            go_ret
            exact ⟨ret_int (by have := HFIN.out; (first | omega | (split <;> omega) | (simp only [Int.min_def] <;> split <;> omega))), hBA⟩
end Go.Proofs.Yteebbffecaeciaa
