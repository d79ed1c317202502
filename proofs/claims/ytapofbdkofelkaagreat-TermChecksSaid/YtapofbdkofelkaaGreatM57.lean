/- Texts of this claim laid into one: TRefD, TRefE. -/
import Derived.Test.YtapofbdkofelkaaGreatM55
import Derived.Test.YtapofbdkofelkaaGreatM26
/- The document's Deep. -/
namespace Go.Proofs.YtapofbdkofelkaaGreat
open Go.RowKit

end Go.Proofs.YtapofbdkofelkaaGreat
/- The document's Nodes. -/
namespace Go.Proofs.YtapofbdkofelkaaGreat
open Go.RowKit

set_option maxRecDepth 100000 in
set_option maxHeartbeats 8000000 in
theorem rtnodes_any (N : Nat) (hN : N ≤ 3000000) : ∀ (t : TT) (x : Value) (w : World), t.cnt ≤ N → t.lean = true → TIn w t x →
    Calls Tryz.prog 30 #[x] w fun e w' => e = .returned (.int .i64 t.nodes) ∧ Below w.heap.size w w' := by
  induction N with
  | zero => intro t x w h; have := TT.cnt_pos t; omega
  | succ N ih =>
    intro t x w hcn hln hx
    have IH := Lib.hid (ih (by omega)); clear ih
    obtain ⟨A, rfl, hok⟩ := hx
    obtain ⟨k, v, vs, lo, hi0, ws, p, l⟩ := t
    obtain ⟨⟨hll, hsl, _⟩, hv, hs, _, hp, hrow⟩ := hok.parts
    obtain ⟨hlp, hls⟩ := TT.lean_parts hln
    simp only [TT.v_mk, TT.vs_mk, TT.ws_mk, TT.p_mk, TT.args_mk] at hll hsl hv hs hp hrow hlp hls
    rw [TT.cnt] at hcn
    obtain ⟨w0, hw0, m0, s0, hc0, _⟩ := row1_new w (.mk k v vs lo hi0 ws p l) A
    have HROW := Lib.hid (hrow.below m0); have HLS := Lib.hid hls
    have HV := Lib.hid (hv.below m0); have HS := Lib.hid (hs.below m0); have HP := Lib.hid (hp.below m0)
    have HLP := Lib.hid hlp; have HCN : Hid (TT.cnts l ≤ N) := Lib.hid (by omega)
    have HN0 : Hid (TT.nodess l ≤ 600003000003000000) := Lib.hid (by have := TT.nodess_le l hls; omega)
    obtain ⟨q0, q1, q2, q3, q4, _, _, _, q8, q9, q10, q11, q12, q13, q14⟩ := hc0
    have hBA := m0
    clear hok hrow hv hs hp hln hlp hls hcn m0
    unfold TT.val
    simp only [TT.kind_mk, TT.v_mk, TT.vs_mk, TT.lo_mk, TT.hi_mk, TT.ws_mk, TT.p_mk, TT.args_mk] at hw0 q0 q1 q2 q3 q4 q8 q9 q10 q11 q12 q13 q14 ⊢
    by_cases h1 : k = 1
    · as_aux_lemma =>
      have b1 : (k == 1) = true := by simp [h1]
      have b4 : (k == 4) = false := by simp [h1]
      have b9 : (k == 9) = false := by simp [h1]
      obtain ⟨sz, hsz⟩ : ∃ sz, sz = v.size := ⟨_, rfl⟩
      have HSZ := Lib.hid hsz.symm
      have hsz2 : sz ≤ 100000 := by rw [hsz]; exact HLP.out.1
      obtain ⟨n0, hn0⟩ : ∃ n0, n0 = 1 + sz := ⟨_, rfl⟩
      have HRES : Hid ((TT.mk k v vs lo hi0 ws p l).nodes = n0 + TT.nodess l) := Lib.hid (by rw [TT.nodes, if_pos h1, hn0, hsz])
      have hw : IntKind.i64.wrap (1 + (sz : Int)) = (n0 : Int) := by rw [IntKind.wrap_i64] <;> omega
      replace HN0 : Hid (TT.nodess l ≤ 600003000003000000 ∧ n0 ≤ 100001) := Lib.hid ⟨HN0.out, by omega⟩
      clear h1 hsz hn0
      go_enter Tryz.func30, Tryz.ntmps30
      go_wp2_with fail
      refine (rsize_any 100000 (by decide) v _ _ HLP.out.1 HV.out).mono ?_
      rintro e w1 ⟨rfl, hb1⟩
      rw [HSZ.out]
      replace q0 := cell_stays hb1 q0; replace q4 := cell_stays hb1 q4; replace q8 := cell_stays hb1 q8; replace q9 := cell_stays hb1 q9; replace q10 := cell_stays hb1 q10; replace q11 := cell_stays hb1 q11; replace q12 := cell_stays hb1 q12; replace q13 := cell_stays hb1 q13; replace q14 := cell_stays hb1 q14
      replace HROW := Lib.hid (HROW.out.below hb1); replace HP := Lib.hid (HP.out.below hb1); replace HS := Lib.hid (HS.out.below hb1)
      replace hBA := hBA.trans (hb1.mono hBA.size)
      clear hb1
      go_wp2_with fail
      rename World => wL
      go_loopw [3, 4] (fun y x wr => y = .int .i64 n0 ∧ x = .int .i64 0 ∧ wr = wL) (fun _ _ _ => 0)
      case atStart => exact ⟨rfl, rfl, rfl⟩
      case round =>
        obtain ⟨rfl, rfl, rfl⟩ := hrel
        obtain ⟨bv, hbv⟩ : ∃ bv, bv = decide (0 < vs.length) := ⟨_, rfl⟩
        have dv1 : decide (0 < vs.length) = bv := hbv.symm
        have dv2 : decide ((0 : Int) < vs.length) = bv := by rw [hbv, decide_eq_decide]; omega
        clear hbv
        cases bv
        all_goals
          as_aux_lemma =>
          go_wp2_with fail
          rename World => wA
          go_loopw [3, 5] (fun x y wr => ∃ (i n : Nat), x = .int .i64 n ∧ y = .int .i64 i ∧ i ≤ l.length ∧ n = n0 + TT.nodess (l.take i) ∧ Below wA.heap.size wA wr) (fun _ y _ => l.length - (intOf y).toNat)
          case atStart => exact ⟨0, n0, rfl, rfl, by omega, by simp [TT.nodess], Below.refl _ _⟩
          case round =>
            obtain ⟨i, n, rfl, rfl, hi, hn, hB⟩ := hrel
            have HN := Lib.hid hn; clear hn
            have c14 := cell_stays hB q14
            by_cases hlt : i < l.length
            · as_aux_lemma =>
              obtain ⟨b, o, ea, X, hcX, hkX⟩ := HROW.out.get i hlt
              rw [ea] at c14
              have HCX := Lib.hid (hcX.below hB); have HKX := Lib.hid (hkX.below hB)
              have g1 : decide ((i : Int) < l.length) = true := decide_eq_true (by omega)
              have g2 : decide (i < l.length) = true := decide_eq_true hlt
              have HXC : Hid (l[i].cnt ≤ N) := Lib.hid (by have := TT.cnts_get hlt; have := HCN.out; omega)
              have HXL := Lib.hid (TT.leans_get HLS.out hlt)
              obtain ⟨dd, hdd⟩ : ∃ dd, dd = l[i].nodes := ⟨_, rfl⟩
              have HDD := Lib.hid hdd.symm
              have hup := TT.nodess_upto hlt
              have hle := TT.nodess_upto_le l (i + 1)
              have HNX : Hid (n + dd = n0 + TT.nodess (l.take (i + 1))) := Lib.hid (by rw [hup, HN.out, hdd]; omega)
              have hw : IntKind.i64.wrap ((n : Int) + dd) = ((n + dd : Nat) : Int) := by
                have := HN0.out; have := HNX.out
                rw [IntKind.wrap_i64] <;> omega
              clear hcX hkX ea q14 hdd hup hle
              go_wp2_with (refine wpList_load15 (by rfl) (by rfl) (by rfl) HCX.out ?_)
              refine (IH.out l[i] _ _ HXC.out HXL.out ⟨_, rfl, HKX.out⟩).mono ?_
              rintro e w2 ⟨rfl, hb2⟩
              rw [HDD.out]
              have hB2 := hB.trans (hb2.mono hB.size)
              clear hb2 hB c14
              go_wp2_with fail
              go_roundw
              case rel => exact ⟨i + 1, n + dd, by first | rfl | rw [hw] | simp, by go_num, by omega, HNX.out, hB2⟩
              case measure => simp [intOf]; omega
            · as_aux_lemma =>
              have hie : i = l.length := by omega
              subst hie
              have g1 : decide ((l.length : Int) < l.length) = false := decide_eq_false (by omega)
              have g2 : decide (l.length < l.length) = false := decide_eq_false (by omega)
              go_wp2_with fail
              go_ret
              exact ⟨ret_int (by have := HN.out; rw [List.take_length] at this; rw [HRES.out, this]), hBA.trans (hB.mono hBA.size)⟩
    · by_cases h4 : k = 4
      · as_aux_lemma =>
        have b1 : (k == 1) = false := by simp [h4]
        have b4 : (k == 4) = true := by simp [h4]
        have b9 : (k == 9) = false := by simp [h4]
        have hsz2 : VT.sizes vs ≤ 100000 := HLP.out.2.1
        obtain ⟨n0, hn0⟩ : ∃ n0, n0 = 1 + VT.sizes vs := ⟨_, rfl⟩
        have HRES : Hid ((TT.mk k v vs lo hi0 ws p l).nodes = n0 + TT.nodess l) := Lib.hid (by rw [TT.nodes, if_neg h1, if_pos h4, hn0])
        replace HN0 : Hid (TT.nodess l ≤ 600003000003000000 ∧ n0 ≤ 100001) := Lib.hid ⟨HN0.out, by omega⟩
        have HNE := Lib.hid hn0
        clear h1 h4 hn0
        go_enter Tryz.func30, Tryz.ntmps30
        go_wp2_with fail
        go_loopw [3, 4] (fun y x wr => ∃ (i n : Nat), y = .int .i64 n ∧ x = .int .i64 i ∧ i ≤ vs.length ∧ n = 1 + VT.sizes (vs.take i) ∧ Below w0.heap.size w0 wr) (fun _ x _ => vs.length - (intOf x).toNat)
        case atStart => exact ⟨0, 1, rfl, rfl, by omega, by simp [VT.sizes], Below.refl _ _⟩
        case round =>
          obtain ⟨i, n, rfl, rfl, hi, hn, hB⟩ := hrel
          have HNI := Lib.hid hn; clear hn
          have hBc := hB
          replace q0 := cell_stays hBc q0; replace q4 := cell_stays hBc q4; replace q8 := cell_stays hBc q8; replace q9 := cell_stays hBc q9; replace q10 := cell_stays hBc q10; replace q11 := cell_stays hBc q11; replace q12 := cell_stays hBc q12; replace q13 := cell_stays hBc q13; replace q14 := cell_stays hBc q14
          replace HROW := Lib.hid (HROW.out.below hBc); replace HP := Lib.hid (HP.out.below hBc); replace HS := Lib.hid (HS.out.below hBc)
          replace hBA := hBA.trans (hBc.mono hBA.size)
          clear hBc
          by_cases hlt : i < vs.length
          · as_aux_lemma =>
            have g1 : decide ((i : Int) < vs.length) = true := decide_eq_true (by omega)
            have g2 : decide (i < vs.length) = true := decide_eq_true hlt
            obtain ⟨b, o, ea, ax, cx, d0, d1, d2, hvi⟩ := HS.out.got i hlt
            rw [ea] at q4
            obtain ⟨sz, hsz⟩ : ∃ sz, sz = vs[i].size := ⟨_, rfl⟩
            have HSZ := Lib.hid hsz.symm
            have hup := VT.sizes_upto hlt
            have hle := VT.sizes_upto_le vs (i + 1)
            have HNX : Hid (n + sz = 1 + VT.sizes (vs.take (i + 1))) := Lib.hid (by rw [hup, HNI.out, hsz]; omega)
            have HSB : Hid (vs[i].size ≤ 100000) := Lib.hid (by omega)
            have hw : IntKind.i64.wrap ((n : Int) + sz) = ((n + sz : Nat) : Int) := by
              have := HNX.out
              rw [IntKind.wrap_i64] <;> omega
            clear hsz hup hle ea
            go_wp2_with fail
            refine (rsize_any 100000 (by decide) vs[i] _ _ HSB.out hvi).mono ?_
            rintro e w2 ⟨rfl, hb2⟩
            rw [HSZ.out]
            have hB2 := hB.trans (hb2.mono hB.size)
            clear hb2 hB d0 d1 d2 hvi q0 q4 q8 q9 q10 q11 q12 q13 q14
            go_wp2_with fail
            go_roundw
            case rel => exact ⟨i + 1, n + sz, by first | rfl | rw [hw] | simp, by go_num, by omega, HNX.out, hB2⟩
            case measure => simp [intOf]; omega
          · as_aux_lemma =>
            have hie : i = vs.length := by omega
            subst hie
            have hnn : n0 = n := by have := HNI.out; rw [List.take_length] at this; rw [this, HNE.out]
            subst hnn
            have g1 : decide ((vs.length : Int) < vs.length) = false := decide_eq_false (by omega)
            have g2 : decide (vs.length < vs.length) = false := decide_eq_false (by omega)
            go_wp2_with fail
            rename World => wA
            go_loopw [3, 5] (fun x y wr => ∃ (i n : Nat), x = .int .i64 n ∧ y = .int .i64 i ∧ i ≤ l.length ∧ n = n0 + TT.nodess (l.take i) ∧ Below wA.heap.size wA wr) (fun _ y _ => l.length - (intOf y).toNat)
            case atStart => exact ⟨0, n0, rfl, rfl, by omega, by simp [TT.nodess], Below.refl _ _⟩
            case round =>
              obtain ⟨i, n, rfl, rfl, hi, hn, hB⟩ := hrel
              have HN := Lib.hid hn; clear hn
              have c14 := cell_stays hB q14
              by_cases hlt : i < l.length
              · as_aux_lemma =>
                obtain ⟨b, o, ea, X, hcX, hkX⟩ := HROW.out.get i hlt
                rw [ea] at c14
                have HCX := Lib.hid (hcX.below hB); have HKX := Lib.hid (hkX.below hB)
                have g1 : decide ((i : Int) < l.length) = true := decide_eq_true (by omega)
                have g2 : decide (i < l.length) = true := decide_eq_true hlt
                have HXC : Hid (l[i].cnt ≤ N) := Lib.hid (by have := TT.cnts_get hlt; have := HCN.out; omega)
                have HXL := Lib.hid (TT.leans_get HLS.out hlt)
                obtain ⟨dd, hdd⟩ : ∃ dd, dd = l[i].nodes := ⟨_, rfl⟩
                have HDD := Lib.hid hdd.symm
                have hup := TT.nodess_upto hlt
                have hle := TT.nodess_upto_le l (i + 1)
                have HNX : Hid (n + dd = n0 + TT.nodess (l.take (i + 1))) := Lib.hid (by rw [hup, HN.out, hdd]; omega)
                have hw : IntKind.i64.wrap ((n : Int) + dd) = ((n + dd : Nat) : Int) := by
                  have := HN0.out; have := HNX.out
                  rw [IntKind.wrap_i64] <;> omega
                clear hcX hkX ea q14 hdd hup hle
                go_wp2_with (refine wpList_load15 (by rfl) (by rfl) (by rfl) HCX.out ?_)
                refine (IH.out l[i] _ _ HXC.out HXL.out ⟨_, rfl, HKX.out⟩).mono ?_
                rintro e w2 ⟨rfl, hb2⟩
                rw [HDD.out]
                have hB2 := hB.trans (hb2.mono hB.size)
                clear hb2 hB c14
                go_wp2_with fail
                go_roundw
                case rel => exact ⟨i + 1, n + dd, by first | rfl | rw [hw] | simp, by go_num, by omega, HNX.out, hB2⟩
                case measure => simp [intOf]; omega
              · as_aux_lemma =>
                have hie : i = l.length := by omega
                subst hie
                have g1 : decide ((l.length : Int) < l.length) = false := decide_eq_false (by omega)
                have g2 : decide (l.length < l.length) = false := decide_eq_false (by omega)
                go_wp2_with fail
                go_ret
                exact ⟨ret_int (by have := HN.out; rw [List.take_length] at this; rw [HRES.out, this]), hBA.trans (hB.mono hBA.size)⟩
      · by_cases h9 : k = 9
        · as_aux_lemma =>
          have b1 : (k == 1) = false := by simp [h9]
          have b4 : (k == 4) = false := by simp [h9]
          have b9 : (k == 9) = true := by simp [h9]
          obtain ⟨sz, hsz⟩ : ∃ sz, sz = p.nodes := ⟨_, rfl⟩
          have HSZ := Lib.hid hsz.symm
          have hsz2 : sz ≤ 100001000000 := by rw [hsz]; have := PT.nodes_le 100000 p HLP.out.2.2.2.2; have := HLP.out.2.2.2.1; omega
          obtain ⟨n0, hn0⟩ : ∃ n0, n0 = 1 + sz := ⟨_, rfl⟩
          have HRES : Hid ((TT.mk k v vs lo hi0 ws p l).nodes = n0 + TT.nodess l) := Lib.hid (by rw [TT.nodes, if_neg h1, if_neg h4, if_pos h9, hn0, hsz])
          have hw : IntKind.i64.wrap (1 + (sz : Int)) = (n0 : Int) := by rw [IntKind.wrap_i64] <;> omega
          replace HN0 : Hid (TT.nodess l ≤ 600003000003000000 ∧ n0 ≤ 100001000001) := Lib.hid ⟨HN0.out, by omega⟩
          clear h1 h4 h9 hsz hn0
          go_enter Tryz.func30, Tryz.ntmps30
          go_wp2_with fail
          rename World => wL
          go_loopw [3, 4] (fun y x wr => y = .int .i64 1 ∧ x = .int .i64 0 ∧ wr = wL) (fun _ _ _ => 0)
          case atStart => exact ⟨rfl, rfl, rfl⟩
          case round =>
            obtain ⟨rfl, rfl, rfl⟩ := hrel
            obtain ⟨bv, hbv⟩ : ∃ bv, bv = decide (0 < vs.length) := ⟨_, rfl⟩
            have dv1 : decide (0 < vs.length) = bv := hbv.symm
            have dv2 : decide ((0 : Int) < vs.length) = bv := by rw [hbv, decide_eq_decide]; omega
            clear hbv
            cases bv
            all_goals
              as_aux_lemma =>
              go_wp2_with fail
              refine (rnodes_any 1000000 (by decide) p _ _ HLP.out.2.2.2.1 HLP.out.2.2.2.2 HP.out).mono ?_
              rintro e w1 ⟨rfl, hb1⟩
              rw [HSZ.out]
              replace q0 := cell_stays hb1 q0; replace q4 := cell_stays hb1 q4; replace q8 := cell_stays hb1 q8; replace q9 := cell_stays hb1 q9; replace q10 := cell_stays hb1 q10; replace q11 := cell_stays hb1 q11; replace q12 := cell_stays hb1 q12; replace q13 := cell_stays hb1 q13; replace q14 := cell_stays hb1 q14
              replace HROW := Lib.hid (HROW.out.below hb1); replace HP := Lib.hid (HP.out.below hb1); replace HS := Lib.hid (HS.out.below hb1)
              replace hBA := hBA.trans (hb1.mono hBA.size)
              clear hb1
              go_wp2_with fail
              rename World => wA
              go_loopw [3, 5] (fun x y wr => ∃ (i n : Nat), x = .int .i64 n ∧ y = .int .i64 i ∧ i ≤ l.length ∧ n = n0 + TT.nodess (l.take i) ∧ Below wA.heap.size wA wr) (fun _ y _ => l.length - (intOf y).toNat)
              case atStart => exact ⟨0, n0, rfl, rfl, by omega, by simp [TT.nodess], Below.refl _ _⟩
              case round =>
                obtain ⟨i, n, rfl, rfl, hi, hn, hB⟩ := hrel
                have HN := Lib.hid hn; clear hn
                have c14 := cell_stays hB q14
                by_cases hlt : i < l.length
                · as_aux_lemma =>
                  obtain ⟨b, o, ea, X, hcX, hkX⟩ := HROW.out.get i hlt
                  rw [ea] at c14
                  have HCX := Lib.hid (hcX.below hB); have HKX := Lib.hid (hkX.below hB)
                  have g1 : decide ((i : Int) < l.length) = true := decide_eq_true (by omega)
                  have g2 : decide (i < l.length) = true := decide_eq_true hlt
                  have HXC : Hid (l[i].cnt ≤ N) := Lib.hid (by have := TT.cnts_get hlt; have := HCN.out; omega)
                  have HXL := Lib.hid (TT.leans_get HLS.out hlt)
                  obtain ⟨dd, hdd⟩ : ∃ dd, dd = l[i].nodes := ⟨_, rfl⟩
                  have HDD := Lib.hid hdd.symm
                  have hup := TT.nodess_upto hlt
                  have hle := TT.nodess_upto_le l (i + 1)
                  have HNX : Hid (n + dd = n0 + TT.nodess (l.take (i + 1))) := Lib.hid (by rw [hup, HN.out, hdd]; omega)
                  have hw : IntKind.i64.wrap ((n : Int) + dd) = ((n + dd : Nat) : Int) := by
                    have := HN0.out; have := HNX.out
                    rw [IntKind.wrap_i64] <;> omega
                  clear hcX hkX ea q14 hdd hup hle
                  go_wp2_with (refine wpList_load15 (by rfl) (by rfl) (by rfl) HCX.out ?_)
                  refine (IH.out l[i] _ _ HXC.out HXL.out ⟨_, rfl, HKX.out⟩).mono ?_
                  rintro e w2 ⟨rfl, hb2⟩
                  rw [HDD.out]
                  have hB2 := hB.trans (hb2.mono hB.size)
                  clear hb2 hB c14
                  go_wp2_with fail
                  go_roundw
                  case rel => exact ⟨i + 1, n + dd, by first | rfl | rw [hw] | simp, by go_num, by omega, HNX.out, hB2⟩
                  case measure => simp [intOf]; omega
                · as_aux_lemma =>
                  have hie : i = l.length := by omega
                  subst hie
                  have g1 : decide ((l.length : Int) < l.length) = false := decide_eq_false (by omega)
                  have g2 : decide (l.length < l.length) = false := decide_eq_false (by omega)
                  go_wp2_with fail
                  go_ret
                  exact ⟨ret_int (by have := HN.out; rw [List.take_length] at this; rw [HRES.out, this]), hBA.trans (hB.mono hBA.size)⟩
        · as_aux_lemma =>
          have b1 : (k == 1) = false := by simp [h1]
          have b4 : (k == 4) = false := by simp [h4]
          have b9 : (k == 9) = false := by simp [h9]
          obtain ⟨n0, hn0⟩ : ∃ n0 : Nat, n0 = 1 := ⟨_, rfl⟩
          have HRES : Hid ((TT.mk k v vs lo hi0 ws p l).nodes = n0 + TT.nodess l) := Lib.hid (by rw [TT.nodes, if_neg h1, if_neg h4, if_neg h9, hn0])
          have hw : (1 : Int) = (n0 : Int) := by rw [hn0]; rfl
          replace HN0 : Hid (TT.nodess l ≤ 600003000003000000 ∧ n0 ≤ 100001) := Lib.hid ⟨HN0.out, by omega⟩
          have HW := Lib.hid hw
          clear h1 h4 h9 hn0 hw
          go_enter Tryz.func30, Tryz.ntmps30
          go_wp2_with fail
          rename World => wL
          go_loopw [3, 4] (fun y x wr => y = .int .i64 n0 ∧ x = .int .i64 0 ∧ wr = wL) (fun _ _ _ => 0)
          case atStart => exact ⟨by rw [← HW.out], rfl, rfl⟩
          case round =>
            obtain ⟨rfl, rfl, rfl⟩ := hrel
            obtain ⟨bv, hbv⟩ : ∃ bv, bv = decide (0 < vs.length) := ⟨_, rfl⟩
            have dv1 : decide (0 < vs.length) = bv := hbv.symm
            have dv2 : decide ((0 : Int) < vs.length) = bv := by rw [hbv, decide_eq_decide]; omega
            clear hbv
            cases bv
            all_goals
              as_aux_lemma =>
              go_wp2_with fail
              rename World => wA
              go_loopw [3, 5] (fun x y wr => ∃ (i n : Nat), x = .int .i64 n ∧ y = .int .i64 i ∧ i ≤ l.length ∧ n = n0 + TT.nodess (l.take i) ∧ Below wA.heap.size wA wr) (fun _ y _ => l.length - (intOf y).toNat)
              case atStart => exact ⟨0, n0, rfl, rfl, by omega, by simp [TT.nodess], Below.refl _ _⟩
              case round =>
                obtain ⟨i, n, rfl, rfl, hi, hn, hB⟩ := hrel
                have HN := Lib.hid hn; clear hn
                have c14 := cell_stays hB q14
                by_cases hlt : i < l.length
                · as_aux_lemma =>
                  obtain ⟨b, o, ea, X, hcX, hkX⟩ := HROW.out.get i hlt
                  rw [ea] at c14
                  have HCX := Lib.hid (hcX.below hB); have HKX := Lib.hid (hkX.below hB)
                  have g1 : decide ((i : Int) < l.length) = true := decide_eq_true (by omega)
                  have g2 : decide (i < l.length) = true := decide_eq_true hlt
                  have HXC : Hid (l[i].cnt ≤ N) := Lib.hid (by have := TT.cnts_get hlt; have := HCN.out; omega)
                  have HXL := Lib.hid (TT.leans_get HLS.out hlt)
                  obtain ⟨dd, hdd⟩ : ∃ dd, dd = l[i].nodes := ⟨_, rfl⟩
                  have HDD := Lib.hid hdd.symm
                  have hup := TT.nodess_upto hlt
                  have hle := TT.nodess_upto_le l (i + 1)
                  have HNX : Hid (n + dd = n0 + TT.nodess (l.take (i + 1))) := Lib.hid (by rw [hup, HN.out, hdd]; omega)
                  have hw : IntKind.i64.wrap ((n : Int) + dd) = ((n + dd : Nat) : Int) := by
                    have := HN0.out; have := HNX.out
                    rw [IntKind.wrap_i64] <;> omega
                  clear hcX hkX ea q14 hdd hup hle
                  go_wp2_with (refine wpList_load15 (by rfl) (by rfl) (by rfl) HCX.out ?_)
                  refine (IH.out l[i] _ _ HXC.out HXL.out ⟨_, rfl, HKX.out⟩).mono ?_
                  rintro e w2 ⟨rfl, hb2⟩
                  rw [HDD.out]
                  have hB2 := hB.trans (hb2.mono hB.size)
                  clear hb2 hB c14
                  go_wp2_with fail
                  go_roundw
                  case rel => exact ⟨i + 1, n + dd, by first | rfl | rw [hw] | simp, by go_num, by omega, HNX.out, hB2⟩
                  case measure => simp [intOf]; omega
                · as_aux_lemma =>
                  have hie : i = l.length := by omega
                  subst hie
                  have g1 : decide ((l.length : Int) < l.length) = false := decide_eq_false (by omega)
                  have g2 : decide (l.length < l.length) = false := decide_eq_false (by omega)
                  go_wp2_with fail
                  go_ret
                  exact ⟨ret_int (by have := HN.out; rw [List.take_length] at this; rw [HRES.out, this]), hBA.trans (hB.mono hBA.size)⟩
end Go.Proofs.YtapofbdkofelkaaGreat
