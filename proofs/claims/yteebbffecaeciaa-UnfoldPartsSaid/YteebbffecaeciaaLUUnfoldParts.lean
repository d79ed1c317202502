/- UnfoldParts: the law returns true for all that can be read, and what was handed in reads afterwards as it read before. -/
import Derived.Test.YteebbffecaeciaaM49
import Derived.Test.YteebbffecaeciaaM48
/- UnfoldParts: the law's function, walked. -/
namespace Go.Proofs.Yteebbffecaeciaa
open Go.RowKit

theorem run_shuf {w : World} {o : Oper} {r : Operand → Value} {k : Int} {b : Option Addr} {len cap : Nat} {l : List TT} {x0 x2 : Operand} (ho : o.op = .build 47 #[(0, x0), (7, x2)]) (e0 : r x0 = .int .u8 k) (e2 : r x2 = .slice b len cap) (hl : len = l.length) :
    (execOp r o).run Try.prog w = .ok (.value (TT.val (tOf k l) (plainA b cap))) w :=
  run_built ho _ (by
    have e : (Array.map (fun (x : Nat × Operand) => (x.1, r x.2)) #[(0, x0), (7, x2)]).toList = [(0, .int .u8 k), (7, .slice b len cap)] := by simp [e0, e2]
    subst hl
    exact (congrArg (Program.built Try.prog 47) e).trans (by kernel_rfl))
theorem run_listT {w : World} {o : Oper} {r : Operand → Value} {m n : Int} {b : Option Addr} {len cap : Nat} {t : TT} {x0 x1 x2 x3 : Operand} (ho : o.op = .build 47 #[(0, x0), (3, x1), (4, x2), (7, x3)]) (e0 : r x0 = .int .u8 6) (e1 : r x1 = .int .i64 m) (e2 : r x2 = .int .i64 n) (e3 : r x3 = .slice b len cap) (hl : len = [t].length) :
    (execOp r o).run Try.prog w = .ok (.value (TT.val (tList m n t) (plainA b cap))) w :=
  run_built ho _ (by
    have e : (Array.map (fun (x : Nat × Operand) => (x.1, r x.2)) #[(0, x0), (3, x1), (4, x2), (7, x3)]).toList = [(0, .int .u8 6), (3, .int .i64 m), (4, .int .i64 n), (7, .slice b len cap)] := by simp [e0, e1, e2, e3]
    subst hl
    exact (congrArg (Program.built Try.prog 47) e).trans (by kernel_rfl))
/-- what is so of each term of the table. -/
def PartOk (T : TT) : Prop := T.kind ≠ 10 ∧ T.cnt ≤ 3000000 ∧ T.lean = true ∧ (∀ u ∈ T.args, u.cnt ≤ 3000000 ∧ u.lean = true)
theorem partOk_table {l : List TT} (h : TT.long l = false) {n : Int} {t0 : TT} (h0 : t0 ∈ l) : ∀ T ∈ [tOf 5 l, tOf 7 l, tPick n l, tList 1 2 t0], PartOk T := by
  obtain ⟨hc, hl⟩ := TT.not_long h
  have hm : ∀ u ∈ l, u.cnt ≤ TT.cnts l := fun u hu => by
    obtain ⟨i, hi, rfl⟩ := List.getElem_of_mem hu
    exact TT.cnts_get hi
  have hs : ∀ u ∈ l, u.cnt ≤ 3000000 ∧ u.lean = true := fun u hu => ⟨by have := hm u hu; omega, TT.leans_mem _ hl u hu⟩
  have hL : ∀ (k lo : Int), TT.lean (.mk k vNone [] lo 0 [] pNone l) = true := fun k lo => by
    rw [TT.lean, hl]; rfl
  intro T hT
  simp only [List.mem_cons, List.not_mem_nil, or_false] at hT
  rcases hT with rfl | rfl | rfl | rfl
  · exact ⟨by simp [tOf, TT.kind], by rw [tOf, TT.cnt]; omega, hL _ _, hs⟩
  · exact ⟨by simp [tOf, TT.kind], by rw [tOf, TT.cnt]; omega, hL _ _, hs⟩
  · exact ⟨by simp [tPick, TT.kind], by rw [tPick, TT.cnt]; omega, hL _ _, hs⟩
  · refine ⟨by simp [tList, TT.kind], by rw [tList, TT.cnt, TT.cnts, TT.cnts]; have := hm t0 h0; omega, ?_, fun u hu => ?_⟩
    · rw [tList, TT.lean, TT.leans, TT.leans, (hs t0 h0).2]; rfl
    · rw [show (tList 1 2 t0).args = [t0] from rfl, List.mem_singleton] at hu
      rw [hu]; exact hs t0 h0
set_option maxRecDepth 100000 in
set_option maxHeartbeats 16000000 in
theorem unfoldParts_any (l : List TT) (a : Option Addr) (cap : Nat) (lo : Int) (w : World) (hl : l.length ≤ 651562446070) (hr : TRow w l a) (hcap : l.length ≤ cap) (l0 : 0 ≤ lo) (l1 : lo ≤ 255) :
    Calls Try.prog 7 #[.slice a l.length cap, .int .u8 lo] w fun e w' => e = .returned (.bool true) ∧ Below w.heap.size w w' := by
  obtain ⟨lg, hlg⟩ : ∃ lg, lg = TT.long l := ⟨_, rfl⟩
  have HLG := Lib.hid hlg; clear hlg
  have HR := Lib.hid hr
  clear hr
  go_enter Try.func7, Try.ntmps7
  by_cases hz : l.length = 0
  · as_aux_lemma =>
    have f1 : decide (l.length = 0) = true := decide_eq_true hz
    have f2 : decide ((l.length : Int) = 0) = true := decide_eq_true (by omega)
    go_wp2_with fail
    refine (uawake_any _).mono ?_
    rintro e w9 ⟨rfl, hb9⟩
    go_wp2_with fail
    go_ret
    exact ⟨rfl, hb9⟩
  · by_cases h20 : 20 < l.length
    · as_aux_lemma =>
      have f1 : decide (20 < l.length) = true := decide_eq_true h20
      have f2 : decide (20 < (l.length : Int)) = true := decide_eq_true (by omega)
      go_wp2_with fail
      refine (uawake_any _).mono ?_
      rintro e w9 ⟨rfl, hb9⟩
      go_wp2_with fail
      go_ret
      exact ⟨rfl, hb9⟩
    · have f1 : decide (l.length = 0) = false := decide_eq_false hz
      have f2 : decide ((l.length : Int) = 0) = false := decide_eq_false (by omega)
      have f7 : ((l.length : Int) == 0) = false := by rw [beq_eq_false_iff_ne]; omega
      have f8 : (l.length == 0) = false := by rw [beq_eq_false_iff_ne]; omega
      have f3 : decide (20 < l.length) = false := decide_eq_false h20
      have f4 : decide (20 < (l.length : Int)) = false := decide_eq_false (by omega)
      go_wp2_with fail
      refine (tlong_any l a cap _ hl HR.out).mono ?_
      rintro e w1 ⟨rfl, hb1⟩
      rw [← HLG.out]
      replace HR := Lib.hid (HR.out.below hb1)
      have hB := hb1
      clear hb1
      cases lg
      · as_aux_lemma =>
        go_wp2_with fail
        refine (uawake_any _).mono ?_
        rintro e w4 ⟨rfl, hb2⟩
        replace HR := Lib.hid (HR.out.below hb2)
        replace hB := hB.trans (hb2.mono hB.size)
        clear hb2
        have hpos : 0 < l.length := by omega
        have g5 : decide (l.length + 1 = 0) = false := decide_eq_false (by omega)
        have g6 : decide ((l.length : Int) + 1 = 0) = false := decide_eq_false (by omega)
        have g7 : ((l.length : Int) + 1 == 0) = false := by rw [beq_eq_false_iff_ne]; omega
        obtain ⟨b, o, rfl, X0, hcX, hkX⟩ := HR.out.get 0 hpos
        rw [Nat.zero_mul, Nat.add_zero] at hcX
        obtain ⟨t0, ht0⟩ : ∃ t0, t0 = l[0] := ⟨_, rfl⟩
        rw [← ht0] at hcX hkX
        have HX0 : Hid (TCells w4 b o t0 X0 ∧ TOk w4 t0 X0) := Lib.hid ⟨hcX, hkX⟩
        have HT0 : Hid (t0 ∈ l) := Lib.hid (by rw [ht0]; exact List.getElem_mem hpos)
        clear hcX hkX ht0
        go_wp2_with fail
        obtain ⟨n, hn⟩ : ∃ n, n = lo % ((l.length : Int) + 1) := ⟨_, rfl⟩
        rw [← hn]
        have HCAP : Hid (1 ≤ cap) := Lib.hid (by omega)
        have HLN0 : Hid (0 < l.length ∧ l.length ≤ 651562446070) := Lib.hid ⟨hpos, hl⟩
        clear hn f1 f2 f7 f8 f3 f4 g5 g6 g7 l0 l1 hz h20 hpos hcap
        have HBV := Lib.hid (fun W (h : Below w4.drew.heap.size w4.drew W) => (Below.refl _ w4).drew.trans h)
        try simp only [List.append_eq, List.cons_append, List.nil_append]
        refine wp_region_allW (kindT [(36, .fixed (.slice (some ⟨b, o, none⟩) l.length cap)), (37, .term (tOf 5 l)), (38, .fixed (.slice (some ⟨b, o, none⟩) l.length cap)), (39, .term (tOf 7 l)), (40, .fixed (.int .i64 n)), (41, .fixed (.slice (some ⟨b, o, none⟩) l.length cap)), (42, .term (tPick n l)), (43, .fixed (.slice (some ⟨b, o, none⟩) l.length cap)), (44, .fixed (.slice (some ⟨b, o, none⟩) 1 cap)), (45, .term (tList 1 2 t0)), (46, .row [tOf 5 l, tOf 7 l, tPick n l, tList 1 2 t0]), (47, .fixed (.int .i64 4)), (48, .fixed (.int .i64 0))]) 116 (by kernel_rfl) (by kernel_rfl) (by rfl) (kindT_mono _) ?_ ?_
        · as_aux_lemma =>
          show ∀ o ∈ [(0, _), (1, _), (2, _), (3, _), (4, _), (5, _), (6, _), (7, _), (8, _), (9, _), (10, _), (11, _), (12, _)], _
          refine (tfm ?_ (tfm ?_ (tfm ?_ (tfm ?_ (tfm ?_ (tfm ?_ (tfm ?_ (tfm ?_ (tfm ?_ (tfm ?_ (tfm ?_ (tfm ?_ (tfm ?_ tfmnil)))))))))))))
          · intro r W hc hf hs hd hB
            have hBV := HBV.out W hB
            refine want_n rfl ?_
            have e : r (.tmp 0) = .slice (some ⟨b, o, none⟩) l.length cap := hs 0 (by kernel_rfl)
            exact st_value (v := .slice (some ⟨b, o, none⟩) l.length cap) rfl (by decide) (by go_simp) rfl
          · intro r W hc hf hs hd hB
            have hBV := HBV.out W hB
            refine want_n rfl ?_
            have h36 : r (.tmp 36) = .slice (some ⟨b, o, none⟩) l.length cap := hd 36 (by kernel_rfl)
            exact st_call (f := 40) (args := #[.slice (some ⟨b, o, none⟩) l.length cap]) rfl (by decide) (by go_simp) (made_term (uTuple l (some ⟨b, o, none⟩) cap W HLN0.out.2 (HR.out.below hBV)))
          · intro r W hc hf hs hd hB
            have hBV := HBV.out W hB
            refine want_n rfl ?_
            have e : r (.tmp 0) = .slice (some ⟨b, o, none⟩) l.length cap := hs 0 (by kernel_rfl)
            exact st_value (v := .slice (some ⟨b, o, none⟩) l.length cap) rfl (by decide) (by go_simp) rfl
          · intro r W hc hf hs hd hB
            have hBV := HBV.out W hB
            refine want_n rfl ?_
            have e38 : r (.tmp 38) = .slice (some ⟨b, o, none⟩) l.length cap := hd 38 (by kernel_rfl)
            exact st_value (v := TT.val (tOf 7 l) (plainA (some ⟨b, o, none⟩) cap)) rfl (by decide) (run_shuf rfl (hc _) e38 rfl) ⟨_, rfl, tok_plain HLN0.out.2 (HR.out.below hBV)⟩
          · intro r W hc hf hs hd hB
            have hBV := HBV.out W hB
            refine want_n rfl ?_
            have e : r (.tmp 5) = .int .i64 n := hs 5 (by kernel_rfl)
            exact st_value (v := .int .i64 n) rfl (by decide) (by go_simp) rfl
          · intro r W hc hf hs hd hB
            have hBV := HBV.out W hB
            refine want_n rfl ?_
            have e : r (.tmp 0) = .slice (some ⟨b, o, none⟩) l.length cap := hs 0 (by kernel_rfl)
            exact st_value (v := .slice (some ⟨b, o, none⟩) l.length cap) rfl (by decide) (by go_simp) rfl
          · intro r W hc hf hs hd hB
            have hBV := HBV.out W hB
            refine want_n rfl ?_
            have e40 : r (.tmp 40) = .int .i64 n := hd 40 (by kernel_rfl)
            have e41 : r (.tmp 41) = .slice (some ⟨b, o, none⟩) l.length cap := hd 41 (by kernel_rfl)
            exact st_value (v := TT.val (tPick n l) (plainA (some ⟨b, o, none⟩) cap)) rfl (by decide) (run_pick rfl (hc _) e40 e41 rfl) ⟨_, rfl, tok_plain HLN0.out.2 (HR.out.below hBV)⟩
          · intro r W hc hf hs hd hB
            have hBV := HBV.out W hB
            refine want_n rfl ?_
            have e : r (.tmp 0) = .slice (some ⟨b, o, none⟩) l.length cap := hs 0 (by kernel_rfl)
            exact st_value (v := .slice (some ⟨b, o, none⟩) l.length cap) rfl (by decide) (by go_simp) rfl
          · intro r W hc hf hs hd hB
            have hBV := HBV.out W hB
            refine want_n rfl ?_
            have e43 : r (.tmp 43) = .slice (some ⟨b, o, none⟩) l.length cap := hd 43 (by kernel_rfl)
            have hc1 := HCAP.out
            have hc2 : decide (1 ≤ cap) = true := decide_eq_true hc1
            exact st_value (v := .slice (some ⟨b, o, none⟩) 1 cap) rfl (by decide) (by go_simp; intro hq; exact absurd hq (by omega)) rfl
          · intro r W hc hf hs hd hB
            have hBV := HBV.out W hB
            refine want_n rfl ?_
            have e44 : r (.tmp 44) = .slice (some ⟨b, o, none⟩) 1 cap := hd 44 (by kernel_rfl)
            exact st_value (v := TT.val (tList 1 2 t0) (plainA (some ⟨b, o, none⟩) cap)) rfl (by decide) (run_listT rfl (hc _) (hc _) (hc _) e44 rfl) ⟨_, rfl, tok_plain (l := [t0]) (by simp) (trow_cons (HX0.out.1.below hBV) (HX0.out.2.below hBV) trow_nil)⟩
          · intro r W hc hf hs hd hB
            have hBV := HBV.out W hB
            refine want_n rfl ?_
            have h37 : TIn W (tOf 5 l) (r (.tmp 37)) := hd 37 (by kernel_rfl)
            obtain ⟨A37, e37, k37⟩ := h37
            have h39 : TIn W (tOf 7 l) (r (.tmp 39)) := hd 39 (by kernel_rfl)
            obtain ⟨A39, e39, k39⟩ := h39
            have h42 : TIn W (tPick n l) (r (.tmp 42)) := hd 42 (by kernel_rfl)
            obtain ⟨A42, e42, k42⟩ := h42
            have h45 : TIn W (tList 1 2 t0) (r (.tmp 45)) := hd 45 (by kernel_rfl)
            obtain ⟨A45, e45, k45⟩ := h45
            obtain ⟨w2, hrun, hb, hlt, hc2⟩ := run_rowK (w := W) (r := r) (parts := #[(0, .tmp 37), (1, .tmp 39), (2, .tmp 42), (3, .tmp 45)]) [(tOf 5 l, A37), (tOf 7 l, A39), (tPick n l, A42), (tList 1 2 t0, A45)] rfl (by simp) (by simp) (by simp only [List.map_toArray, List.map_cons, List.map_nil, e37, e39, e42, e45]; rfl)
            exact st_new rfl (by decide) (hrun _ rfl) hb ⟨_, _, _, rfl, rfl, by simp, trow_of hc2 (by intro p hp; simp only [List.mem_cons, List.not_mem_nil, or_false] at hp; rcases hp with rfl | rfl | rfl | rfl; exact k37.below hb; exact k39.below hb; exact k42.below hb; exact k45.below hb)⟩
          · intro r W hc hf hs hd hB
            have hBV := HBV.out W hB
            refine want_n rfl ?_
            obtain ⟨ah46, nh46, ch46, h46, hnh46, hlh46, hrh46⟩ : TQ.ok (.row [tOf 5 l, tOf 7 l, tPick n l, tList 1 2 t0]) (r (.tmp 46)) W := hd 46 (by kernel_rfl)
            subst hnh46
            exact st_value (v := .int .i64 4) rfl (by decide) (by go_simp) rfl
          · intro r W hc hf hs hd hB
            have hBV := HBV.out W hB
            refine want_n rfl ?_
            exact st_value (v := .int .i64 0) rfl (by decide) (by go_simp) rfl
        intro f w5 hfd hB'
        obtain ⟨aT, nT, cT, z46, hnT, -, hrT⟩ : TQ.ok (.row [tOf 5 l, tOf 7 l, tPick n l, tList 1 2 t0]) (f 46) w5 := hfd 46 (of_decide_eq_true (by kernel_rfl))
        have z47 : f 47 = .int .i64 4 := hfd 47 (of_decide_eq_true (by kernel_rfl))
        have z48 : f 48 = .int .i64 0 := hfd 48 (of_decide_eq_true (by kernel_rfl))
        have hbR := HBV.out w5 hB'
        rw [show dstsTo _ _ = [36, 37, 38, 39, 40, 41, 42, 43, 44, 45, 46, 47, 48] from by kernel_rfl]
        simp only [fill, List.setIfInBounds_toArray, List.set_cons_succ, List.set_cons_zero, z46, z47, z48]
        clear hfd hB' HBV z46 z47 z48
        have HTL := Lib.hid (partOk_table (n := n) HLG.out.symm HT0.out)
        obtain ⟨TL, hTL⟩ : ∃ TL, TL = [tOf 5 l, tOf 7 l, tPick n l, tList 1 2 t0] := ⟨_, rfl⟩
        rw [← hTL] at hrT HTL
        have hlen4 : TL.length = 4 := by rw [hTL]; rfl
        have HRT := Lib.hid hrT
        replace hnT : nT = 4 := hnT
        subst hnT
        have HL4 := Lib.hid hlen4
        replace hB := hB.trans (hbR.mono hB.size)
        clear hTL hrT hlen4 HX0 HT0 HCAP HLN0 HR HLG hbR
        go_wp2_with fail
        go_loopw [48] (fun x wr => ∃ i : Nat, x = .int .i64 i ∧ i ≤ 4 ∧ Below w5.heap.size w5 wr) (fun x _ => 4 - (intOf x).toNat)
        case atStart => exact ⟨0, rfl, by omega, Below.refl _ _⟩
        case round =>
          obtain ⟨i, rfl, hi, hbr⟩ := hrel
          have HBI := Lib.hid hbr; clear hbr
          by_cases hlt : i < 4
          · as_aux_lemma =>
            have d1 : decide ((i : Int) < 4) = true := decide_eq_true (by omega)
            have d2 : decide (i < 4) = true := decide_eq_true hlt
            have hlt' : i < TL.length := by rw [HL4.out]; exact hlt
            obtain ⟨bT, oT, rfl, A, hcT, hkT⟩ := (HRT.out.below HBI.out).get i hlt'
            have hpk := HTL.out _ (List.getElem_mem hlt')
            obtain ⟨T, hT⟩ : ∃ T, T = TL[i] := ⟨_, rfl⟩
            rw [← hT] at hcT hkT hpk
            have HCT := Lib.hid hcT; have HKT := Lib.hid hkT; have HP := Lib.hid hpk
            clear hcT hkT hpk hT
            go_wp2_with (first | refine wpList_load15 (by rfl) (by rfl) (by rfl) HCT.out ?_ | refine wpList_box15 (t := T) (A := A) (by rfl) (by rfl) (by rfl) (by rfl) (by rfl) (by rfl) (by rfl) (by rfl) ?_)
            intro w6 hc6 hb6 _ _
            obtain ⟨b7, hb7⟩ : ∃ b, b = wr.heap.size := ⟨_, rfl⟩
            rw [← hb7] at hc6 ⊢
            have HX7 : Hid (BoxA w6 b7 T A) := Lib.hid ⟨hc6, HKT.out.below hb6⟩
            have hB6 := HBI.out.trans (hb6.mono HBI.out.size)
            clear hc6 hb6 hb7 HCT HKT
            go_wp2_with (refine wpList_load15 (by rfl) (by rfl) (by rfl) HX7.out.1 ?_)
            refine (uWhole_any T _ _ HP.out.2.1 HP.out.2.2.1 HX7.out.tin).mono ?_
            rintro e w7 ⟨x7, rfl, h7, hb2⟩
            obtain ⟨AX, rfl, k7⟩ := h7.tin
            obtain ⟨X, z, hXz⟩ : ∃ X z, (X, z) = T.wholeE := ⟨T.wholeE.1, T.wholeE.2, rfl⟩
            rw [← hXz] at k7 ⊢
            dsimp only at k7 ⊢
            replace HX7 := Lib.hid (HX7.out.below hb2); replace hB6 := hB6.trans (hb2.mono hB6.size)
            have HXZ := Lib.hid hXz
            clear hb2 h7 hXz
            go_wp2_with (refine wpList_box15 (t := X) (A := AX) (by rfl) (by rfl) (by rfl) (by rfl) (by rfl) (by rfl) (by rfl) (by rfl) ?_)
            intro w8 hc8 hb2 _ _
            obtain ⟨b8, hb8⟩ : ∃ b, b = w7.heap.size := ⟨_, rfl⟩
            rw [← hb8] at hc8 ⊢
            have HX8A : Hid (BoxA w8 b8 X AX) := Lib.hid ⟨hc8, k7.below hb2⟩
            replace HX7 := Lib.hid (HX7.out.below hb2); replace hB6 := hB6.trans (hb2.mono hB6.size)
            clear hc8 k7 hb2 hb8
            obtain ⟨sd, hsd⟩ : ∃ sd, sd = T.sound := ⟨_, rfl⟩
            have HSD := Lib.hid hsd; clear hsd
            cases sd
            · as_aux_lemma =>
              obtain ⟨hX, hz⟩ : X = tZero ∧ z = 3 := by have h := HXZ.out; unfold TT.wholeE at h; rw [← HSD.out] at h; simpa using h
              subst hz
              go_wp2_with fail
              go_roundw
              case rel => exact ⟨i + 1, by go_num, by omega, hB6⟩
              case measure => simp [intOf]; omega
            · as_aux_lemma =>
              obtain ⟨hX, hz⟩ : X = T.Whole ∧ z = 0 := by have h := HXZ.out; unfold TT.wholeE at h; rw [← HSD.out, if_pos rfl] at h; simpa using h
              subst hz
              have hpl := parts_law HSD.out.symm HP.out.1
              rw [← hX] at hpl
              have HPL := Lib.hid hpl.2
              have hXA : X.args = T.args.map TT.Whole := by rw [hpl.1]; rfl
              have hXk : X.kind = T.kind ∧ X.lo = T.lo ∧ X.hi = T.hi := by rw [hpl.1]; exact ⟨rfl, rfl, rfl⟩
              obtain ⟨na, hna⟩ : ∃ na, na = T.args.length := ⟨_, rfl⟩
              have hnX : X.args.length = na := by rw [hXA, List.length_map, hna]
              have HXA := Lib.hid hXA; have HNA := Lib.hid hna; have HNX := Lib.hid hnX
              obtain ⟨c0, _, _, _, _, c5, c6, _, _, _, _, _, _, _, c14⟩ := HX8A.out.1
              obtain ⟨e0, _, _, _, _, e5, e6, _, _, _, _, _, _, _, e14⟩ := HX7.out.1
              rw [hXk.1] at c0; rw [hXk.2.1] at c5; rw [hXk.2.2] at c6; rw [hnX] at c14; rw [← hna] at e14
              simp only [Nat.zero_add] at c5 c6 c14 e5 e6 e14
              have hnl : na ≤ 651562446070 := by rw [hna]; exact HX7.out.2.parts.1.1
              have HQ7 := Lib.hid e14; have HQ8A := Lib.hid c14
              have HTA := Lib.hid (HX7.out.2.parts.2.2.2.2.2)
              have HXAR := Lib.hid (HX8A.out.2.parts.2.2.2.2.2)
              have HSX : Hid (BoxT w8 b8 X) := Lib.hid ⟨_, HX8A.out⟩
              clear hX hpl hXA hXk hna hnX HX8A HX7 HXZ
              go_wp2_with fail
              clear c0 c5 c6 c14 e0 e5 e6 e14
              go_loopw [10] (fun x wj => ∃ j : Nat, x = .int .i64 j ∧ j ≤ na ∧ Below w8.heap.size w8 wj) (fun x _ => na - (intOf x).toNat)
              case atStart => exact ⟨0, rfl, by omega, Below.refl _ _⟩
              case round =>
                rename World => wj
                obtain ⟨j, rfl, hj, hbj⟩ := hrel
                have q7 := cell_stays hbj HQ7.out
                have HBJ0 := Lib.hid hbj; clear hbj
                by_cases hjlt : j < na
                · as_aux_lemma =>
                  have g1 : decide ((j : Int) < na) = true := decide_eq_true (by omega)
                  have g2 : decide (j < na) = true := decide_eq_true hjlt
                  have hj1 : j < T.args.length := by rw [← HNA.out]; exact hjlt
                  have hj2 : j < X.args.length := by rw [HNX.out]; exact hjlt
                  obtain ⟨ba, oa, eaa, Aa, hca, hka⟩ := (HTA.out.below HBJ0.out).get j hj1
                  obtain ⟨bx, ox, eax, Z, hcz, hkz⟩ := (HXAR.out.below HBJ0.out).get j hj2
                  have hua := HP.out.2.2.2 _ (List.getElem_mem hj1)
                  have hsa := HPL.out _ (List.getElem_mem hj1)
                  obtain ⟨u, hu⟩ : ∃ u, u = T.args[j] := ⟨_, rfl⟩
                  have hxu : X.args[j] = u.Whole := by rw [hu]; simp only [HXA.out, List.getElem_map]
                  rw [hxu] at hcz hkz
                  rw [← hu] at hca hka hua hsa
                  have q8 := cell_stays HBJ0.out HQ8A.out
                  rw [eaa] at q7
                  rw [eax] at q8
                  have HCA := Lib.hid hca; have HKA := Lib.hid hka; have HUA := Lib.hid hua
                  have HELJ : Hid (TCells wj bx (ox + j * 15) u.Whole Z ∧ TOk wj u.Whole Z) := Lib.hid ⟨hcz, hkz⟩
                  have HQ8J := Lib.hid q8
                  have HLT := Lib.hid (And.intro g1 g2)
                  clear eaa eax hca hka hua hcz hkz hxu hu q8 hsa
                  go_wp2_with (refine wpList_load15 (by rfl) (by rfl) (by rfl) HCA.out ?_)
                  refine (uWhole_any u _ _ HUA.out.1 HUA.out.2 ⟨Aa, rfl, HKA.out⟩).mono ?_
                  rintro e w9 ⟨x9, rfl, h9, hb9⟩
                  obtain ⟨AY, rfl, k9⟩ := h9.tin
                  obtain ⟨Y, zy, hYz⟩ : ∃ Y z, (Y, z) = u.wholeE := ⟨u.wholeE.1, u.wholeE.2, rfl⟩
                  rw [← hYz] at k9 ⊢
                  dsimp only at k9 ⊢
                  have HYZ := Lib.hid hYz
                  have HB9 := Lib.hid hb9
                  clear h9 hYz hb9 q7
                  go_wp2_with (refine wpList_box15 (t := Y) (A := AY) (by rfl) (by rfl) (by rfl) (by rfl) (by rfl) (by rfl) (by rfl) (by rfl) ?_)
                  intro w10 hc10 hb10 _ _
                  obtain ⟨b11, hb11⟩ : ∃ b, b = w9.heap.size := ⟨_, rfl⟩
                  rw [← hb11] at hc10 ⊢
                  have hbj10 : Below wj.heap.size wj w10 := HB9.out.trans (hb10.mono HB9.out.size)
                  have HX11 : Hid (BoxT w10 b11 Y) := Lib.hid ⟨AY, hc10, k9.below hb10⟩
                  have HX8 := Lib.hid (HSX.out.below (HBJ0.out.trans (hbj10.mono HBJ0.out.size)))
                  have HQ8 := Lib.hid (cell_stays hbj10 HQ8J.out)
                  have HEL0 := Lib.hid (And.intro (HELJ.out.1.below hbj10) (HELJ.out.2.below hbj10))
                  have HBJ : Hid (Below w8.heap.size w8 w10) := Lib.hid (HBJ0.out.trans (hbj10.mono HBJ0.out.size))
                  clear hc10 hb10 k9 hbj10 hb11 HELJ HQ8J HB9
                  obtain ⟨sy, hsy⟩ : ∃ sy, sy = u.sound := ⟨_, rfl⟩
                  have HSY := Lib.hid hsy; clear hsy
                  cases sy
                  · as_aux_lemma =>
                    obtain ⟨hY, hz⟩ : Y = tZero ∧ zy = 3 := by have h := HYZ.out; unfold TT.wholeE at h; rw [← HSY.out] at h; simpa using h
                    subst hz
                    clear hY
                    go_wp2_with fail
                    have HBV := Lib.hid (fun W (h : Below w10.drew.heap.size w10.drew W) => (Below.refl _ w10).drew.trans h)
                    try simp only [List.append_eq, List.cons_append, List.nil_append]
                    refine wp_region_allW (kindT [(103, .fixed (.int .i64 3)), (104, .fixed (.bool false)), (105, .fixed (.bool false)), (106, .fixed undef), (107, .fixed undef), (108, .fixed undef), (109, .fixed undef), (110, .fixed undef), (111, .fixed undef), (112, .fixed undef), (113, .fixed undef), (114, .fixed (.bool false))]) 116 (by kernel_rfl) (by kernel_rfl) (by rfl) (kindT_mono _) ?_ ?_
                    · as_aux_lemma =>
                      show ∀ o ∈ [(0, _), (1, _), (2, _), (3, _), (4, _), (5, _), (6, _), (7, _), (8, _), (9, _), (10, _), (11, _)], _
                      refine (tfm ?_ (tfm ?_ (tfm ?_ (tfm ?_ (tfm ?_ (tfm ?_ (tfm ?_ (tfm ?_ (tfm ?_ (tfm ?_ (tfm ?_ (tfm ?_ tfmnil))))))))))))
                      · intro r W hc hf hs hd hB
                        have hBV := HBV.out W hB
                        refine want_n rfl ?_
                        have e : r (.tmp 12) = .int .i64 3 := hs 12 (by kernel_rfl)
                        exact st_value (v := .int .i64 3) rfl (by decide) (by go_simp) rfl
                      · intro r W hc hf hs hd hB
                        have hBV := HBV.out W hB
                        refine want_n rfl ?_
                        have e103 : r (.tmp 103) = .int .i64 3 := hd 103 (by kernel_rfl)
                        exact st_value (v := .bool false) rfl (by decide) (by go_simp) rfl
                      · intro r W hc hf hs hd hB
                        have hBV := HBV.out W hB
                        refine want_n rfl ?_
                        have e : r (.tmp 104) = .bool false := hd 104 (by kernel_rfl)
                        exact st_value (v := .bool false) rfl (by decide) (by go_simp) rfl
                      · intro r W hc hf hs hd hB
                        exact want_not 2 105 rfl (by kernel_rfl) (hd 105 (by kernel_rfl)) (fun d e => by cases e; exact ⟨rfl, by simp⟩)
                      · intro r W hc hf hs hd hB
                        exact want_not 2 105 rfl (by kernel_rfl) (hd 105 (by kernel_rfl)) (fun d e => by cases e; exact ⟨rfl, by simp⟩)
                      · intro r W hc hf hs hd hB
                        exact want_not 2 105 rfl (by kernel_rfl) (hd 105 (by kernel_rfl)) (fun d e => by cases e; exact ⟨rfl, by simp⟩)
                      · intro r W hc hf hs hd hB
                        exact want_not 2 105 rfl (by kernel_rfl) (hd 105 (by kernel_rfl)) (fun d e => by cases e; exact ⟨rfl, by simp⟩)
                      · intro r W hc hf hs hd hB
                        exact want_not 2 105 rfl (by kernel_rfl) (hd 105 (by kernel_rfl)) (fun d e => by cases e; exact ⟨rfl, by simp⟩)
                      · intro r W hc hf hs hd hB
                        exact want_not 2 105 rfl (by kernel_rfl) (hd 105 (by kernel_rfl)) (fun d e => by cases e; exact ⟨rfl, by simp⟩)
                      · intro r W hc hf hs hd hB
                        exact want_not 2 105 rfl (by kernel_rfl) (hd 105 (by kernel_rfl)) (fun d e => by cases e; exact ⟨rfl, by simp⟩)
                      · intro r W hc hf hs hd hB
                        exact want_not 2 105 rfl (by kernel_rfl) (hd 105 (by kernel_rfl)) (fun d e => by cases e; exact ⟨rfl, by simp⟩)
                      · intro r W hc hf hs hd hB
                        have hBV := HBV.out W hB
                        refine want_n rfl ?_
                        have e105 : r (.tmp 105) = .bool false := hd 105 (by kernel_rfl)
                        have e113 : r (.tmp 113) = undef := hd 113 (by kernel_rfl)
                        exact st_value (v := .bool false) rfl (by decide) (by go_simp) rfl
                    intro f w11 hfd hB'
                    have z114 : f 114 = .bool false := hfd 114 (of_decide_eq_true (by kernel_rfl))
                    have hbR := HBV.out w11 hB'
                    rw [show dstsTo _ _ = [103, 104, 105, 106, 107, 108, 109, 110, 111, 112, 113, 114] from by kernel_rfl]
                    simp only [fill, List.setIfInBounds_toArray, List.set_cons_succ, List.set_cons_zero, z114]
                    clear hfd hB' HBV z114
                    have hb11 := HBJ.out.trans (hbR.mono HBJ.out.size)
                    clear hbR
                    go_wp2_with fail
                    go_roundw
                    case rel => exact ⟨j + 1, by go_num, by omega, hb11⟩
                    case measure => simp [intOf]; omega
                  · as_aux_lemma =>
                    obtain ⟨hY, hz⟩ : Y = u.Whole ∧ zy = 0 := by have h := HYZ.out; unfold TT.wholeE at h; rw [← HSY.out, if_pos rfl] at h; simpa using h
                    subst hz
                    have HEL : Hid (TCells w10 bx (ox + j * 15) Y Z ∧ TOk w10 Y Z) := Lib.hid (by rw [hY]; exact HEL0.out)
                    clear hY
                    go_wp2_with fail
                    have HBV := Lib.hid (fun W (h : Below w10.drew.heap.size w10.drew W) => (Below.refl _ w10).drew.trans h)
                    try simp only [List.append_eq, List.cons_append, List.nil_append]
                    refine wp_region_allW (kindT [(103, .fixed (.int .i64 0)), (104, .fixed (.bool true)), (105, .fixed (.bool true)), (106, .fixed (.pointer (some ⟨b8, 14, none⟩))), (107, .fixed (.slice (some ⟨bx, ox, none⟩) na AX.ac)), (108, .fixed (.int .i64 j)), (109, .fixed (.pointer (some ⟨bx, ox + j * 15, none⟩))), (110, .term (Y)), (111, .term (Y)), (112, .fixed (.bool true)), (113, .fixed (.bool false)), (114, .fixed (.bool false))]) 116 (by kernel_rfl) (by kernel_rfl) (by rfl) (kindT_mono _) ?_ ?_
                    · as_aux_lemma =>
                      show ∀ o ∈ [(0, _), (1, _), (2, _), (3, _), (4, _), (5, _), (6, _), (7, _), (8, _), (9, _), (10, _), (11, _)], _
                      refine (tfm ?_ (tfm ?_ (tfm ?_ (tfm ?_ (tfm ?_ (tfm ?_ (tfm ?_ (tfm ?_ (tfm ?_ (tfm ?_ (tfm ?_ (tfm ?_ tfmnil))))))))))))
                      · intro r W hc hf hs hd hB
                        have hBV := HBV.out W hB
                        refine want_n rfl ?_
                        have e : r (.tmp 12) = .int .i64 0 := hs 12 (by kernel_rfl)
                        exact st_value (v := .int .i64 0) rfl (by decide) (by go_simp) rfl
                      · intro r W hc hf hs hd hB
                        have hBV := HBV.out W hB
                        refine want_n rfl ?_
                        have e103 : r (.tmp 103) = .int .i64 0 := hd 103 (by kernel_rfl)
                        exact st_value (v := .bool true) rfl (by decide) (by go_simp) rfl
                      · intro r W hc hf hs hd hB
                        have hBV := HBV.out W hB
                        refine want_n rfl ?_
                        have e : r (.tmp 104) = .bool true := hd 104 (by kernel_rfl)
                        exact st_value (v := .bool true) rfl (by decide) (by go_simp) rfl
                      · intro r W hc hf hs hd hB
                        have hBV := HBV.out W hB
                        refine want_g 2 105 rfl (by kernel_rfl) (hd 105 (by kernel_rfl) : r (.tmp 105) = .bool true) ?_
                        have e : r (.tmp 8) = .pointer (some ⟨b8, 0, none⟩) := hs 8 (by kernel_rfl)
                        exact st_value (v := .pointer (some ⟨b8, 14, none⟩)) rfl (by decide) (by go_simp) rfl
                      · intro r W hc hf hs hd hB
                        have hBV := HBV.out W hB
                        refine want_g 2 105 rfl (by kernel_rfl) (hd 105 (by kernel_rfl) : r (.tmp 105) = .bool true) ?_
                        have e : r (.tmp 106) = .pointer (some ⟨b8, 14, none⟩) := hd 106 (by kernel_rfl)
                        have q := cell_stays hBV HQ8.out
                        exact st_value (v := .slice (some ⟨bx, ox, none⟩) na AX.ac) rfl (by decide) (by go_simp) rfl
                      · intro r W hc hf hs hd hB
                        have hBV := HBV.out W hB
                        refine want_g 2 105 rfl (by kernel_rfl) (hd 105 (by kernel_rfl) : r (.tmp 105) = .bool true) ?_
                        have e : r (.tmp 10) = .int .i64 j := hs 10 (by kernel_rfl)
                        exact st_value (v := .int .i64 j) rfl (by decide) (by go_simp) rfl
                      · intro r W hc hf hs hd hB
                        have hBV := HBV.out W hB
                        refine want_g 2 105 rfl (by kernel_rfl) (hd 105 (by kernel_rfl) : r (.tmp 105) = .bool true) ?_
                        have e107 : r (.tmp 107) = .slice (some ⟨bx, ox, none⟩) na AX.ac := hd 107 (by kernel_rfl)
                        have e108 : r (.tmp 108) = .int .i64 j := hd 108 (by kernel_rfl)
                        have g1 := HLT.out.1
                        have g2 := HLT.out.2
                        exact st_value (v := .pointer (some ⟨bx, ox + j * 15, none⟩)) rfl (by decide) (by go_simp) rfl
                      · intro r W hc hf hs hd hB
                        have hBV := HBV.out W hB
                        refine want_g 2 105 rfl (by kernel_rfl) (hd 105 (by kernel_rfl) : r (.tmp 105) = .bool true) ?_
                        have e : r (.tmp 109) = .pointer (some ⟨bx, ox + j * 15, none⟩) := hd 109 (by kernel_rfl)
                        exact st_value (v := TT.val Y Z) rfl (by decide) (run_load15 (HEL.out.1.below hBV) rfl e) ⟨Z, rfl, HEL.out.2.below hBV⟩
                      · intro r W hc hf hs hd hB
                        have hBV := HBV.out W hB
                        refine want_g 2 105 rfl (by kernel_rfl) (hd 105 (by kernel_rfl) : r (.tmp 105) = .bool true) ?_
                        have e : r (.tmp 11) = .pointer (some ⟨b11, 0, none⟩) := hs 11 (by kernel_rfl)
                        obtain ⟨A, hcl, hok⟩ := BoxT.below HX11.out hBV
                        exact st_value (v := TT.val (Y) A) rfl (by decide) (run_load15 hcl rfl e) ⟨A, rfl, hok⟩
                      · intro r W hc hf hs hd hB
                        have hBV := HBV.out W hB
                        refine want_g 2 105 rfl (by kernel_rfl) (hd 105 (by kernel_rfl) : r (.tmp 105) = .bool true) ?_
                        have h110 : TIn W (Y) (r (.tmp 110)) := hd 110 (by kernel_rfl)
                        have h111 : TIn W (Y) (r (.tmp 111)) := hd 111 (by kernel_rfl)
                        exact st_call (f := 31) (args := #[r (.tmp 110), r (.tmp 111)]) rfl (by decide) (by go_simp) (made_fix rfl (rtsame_refl Y _ _ W h110 h111))
                      · intro r W hc hf hs hd hB
                        have hBV := HBV.out W hB
                        refine want_g 2 105 rfl (by kernel_rfl) (hd 105 (by kernel_rfl) : r (.tmp 105) = .bool true) ?_
                        have e112 : r (.tmp 112) = .bool true := hd 112 (by kernel_rfl)
                        exact st_value (v := .bool false) rfl (by decide) (by go_simp) rfl
                      · intro r W hc hf hs hd hB
                        have hBV := HBV.out W hB
                        refine want_n rfl ?_
                        have e105 : r (.tmp 105) = .bool true := hd 105 (by kernel_rfl)
                        have e113 : r (.tmp 113) = .bool false := hd 113 (by kernel_rfl)
                        exact st_value (v := .bool false) rfl (by decide) (by go_simp) rfl
                    intro f w11 hfd hB'
                    have z114 : f 114 = .bool false := hfd 114 (of_decide_eq_true (by kernel_rfl))
                    have hbR := HBV.out w11 hB'
                    rw [show dstsTo _ _ = [103, 104, 105, 106, 107, 108, 109, 110, 111, 112, 113, 114] from by kernel_rfl]
                    simp only [fill, List.setIfInBounds_toArray, List.set_cons_succ, List.set_cons_zero, z114]
                    clear hfd hB' HBV z114
                    have hb11 := HBJ.out.trans (hbR.mono HBJ.out.size)
                    clear hbR
                    go_wp2_with fail
                    go_roundw
                    case rel => exact ⟨j + 1, by go_num, by omega, hb11⟩
                    case measure => simp [intOf]; omega
                · as_aux_lemma =>
                  have g1 : decide ((j : Int) < na) = false := decide_eq_false (by omega)
                  have g2 : decide (j < na) = false := decide_eq_false hjlt
                  have hb10 := hB6.trans (HBJ0.out.mono hB6.size)
                  go_wp2_with fail
                  go_roundw
                  case rel => exact ⟨i + 1, by go_num, by omega, hb10⟩
                  case measure => simp [intOf]; omega
          · as_aux_lemma =>
            have d1 : decide ((i : Int) < 4) = false := decide_eq_false (by omega)
            have d2 : decide (i < 4) = false := decide_eq_false hlt
            go_wp2_with fail
            go_ret
            exact ⟨rfl, hB.trans (HBI.out.mono hB.size)⟩
      · as_aux_lemma =>
        go_wp2_with fail
        refine (uawake_any _).mono ?_
        rintro e w9 ⟨rfl, hb9⟩
        go_wp2_with fail
        go_ret
        exact ⟨rfl, hB.trans (hb9.mono hB.size)⟩
end Go.Proofs.Yteebbffecaeciaa
/- UnfoldParts: the law returns true for all that can be read, and what was handed in reads afterwards as it read before. -/
namespace Go.Proofs.Yteebbffecaeciaa
open Go.ChangeShapes Go.WideShapes Go.ChangeAt Go.RowKit

set_option maxRecDepth 100000 in
theorem unfoldParts_lifted (os : Os) (started : os.Started) (H : Type) (enc : TypeId × Value → H) :
    ReturnsInHanded {} Try.checked os 7 .any (Rows.unfoldPartsSpec.pre6 enc Try.prog Try.f7 Rows.unfoldPartsRow.domain false) (Rows.unfoldPartsSpec.post enc Try.prog Try.f7 false true false false) := by
  refine returnsInHanded_of_change_sized (C := Try.checked) Try.own started (by kernel_rfl) Try.func7
    (ChangeSpec.witness6 (enc := enc) (C := Try.checked) false ⟨#[], #[.slice none 0 0, .int .u8 0], []⟩ 8 (by kernel_rfl) (by kernel_rfl) (by kernel_rfl) (by kernel_rfl)) ?_
  intro W base args ds gs before hval0 hW hcnd hsz hass
  have hval : ∀ (j : Nat) t v, Try.f7.params[j]? = some t → args[j]? = some v → Value.okWide Try.prog W .any base t v := hval0
  have hW' := hW
  obtain ⟨p, q, hA0, hV, rfl, hfz, hnd⟩ := hW
  have hA : DataW.TrodAll enc Try.prog W 0 (fun _ => true) true Try.f7.params.toList args.toList ds p := hA0
  rw [Try.params7] at hA hval
  obtain ⟨v0, v1, d0, d1, p0, p1, rfl, rfl, rfl, h0, h1⟩ := trodAll_two hA
  obtain ⟨rfl, rfl⟩ := trodVars_none hV
  have hsz' : (DataW.weightsEach Try.prog [45, 5] ([d0, d1] ++ [])).all (· ≤ reachBytes) = true := hsz
  simp only [List.append_nil, DataW.weightsEach, List.all_append, Bool.and_eq_true] at hsz'
  obtain ⟨a0, r0, c0, rfl, hl0, ha0⟩ := open_terms (hval 0 45 v0 rfl rfl) h0 hsz'.1
  have hc0 := okWide_cap Try.underlying45 (hval 0 45 _ rfl rfl)
  obtain ⟨a1, rfl, la1, ua1⟩ := open_u8 (hval 1 5 v1 rfl rfl)
  refine (unfoldParts_any a0 r0 c0 a1 W hl0 ha0 hc0 la1 ua1).mono fun e W' ⟨he, hbw⟩ => ?_
  subst he
  exact ⟨_, rfl, law_post rfl rfl (by rw [Try.params7]; intro t ht; simp at ht; rcases ht with rfl | rfl <;> exact ⟨by kernel_rfl, of_decide_eq_true (by kernel_rfl)⟩) hW' ⟨rfl, rfl, rfl⟩ hbw⟩

theorem unfoldParts_holds : Rows.UnfoldPartsSaid :=
  OpenClaim.holds_of_wide 7 Try.f7 rfl rfl rfl rfl rfl rfl rfl ⟨rfl, rfl, rfl, rfl, rfl⟩ rfl rfl rfl rfl rfl (by kernel_rfl) Try.func7 (by kernel_rfl)
    (of_decide_eq_true (by kernel_rfl)) (by unfold Func.isWrapper; first | (rw [if_pos (by decide +kernel)]; kernel_rfl) | (rw [if_neg (by decide +kernel)]; exact ⟨rfl, rfl⟩))
    (fun os started H enc _ => unfoldParts_lifted os started H enc)
end Go.Proofs.Yteebbffecaeciaa
