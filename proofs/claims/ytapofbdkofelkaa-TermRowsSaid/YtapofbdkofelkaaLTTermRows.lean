/- TermRows: the law returns true for all that can be read, and what was handed in reads afterwards as it read before. -/
import Derived.Test.YtapofbdkofelkaaM42
import Derived.Test.YtapofbdkofelkaaM37
import Derived.Test.YtapofbdkofelkaaM43
import Derived.Test.YtapofbdkofelkaaM45
import Derived.Test.YtapofbdkofelkaaM47
import Derived.Test.YtapofbdkofelkaaM34
import Derived.Test.YtapofbdkofelkaaM38
import Derived.Carry
/- TermRows: the law's function, walked. -/
namespace Go.Proofs.Ytapofbdkofelkaa
open Go.RowKit

set_option maxRecDepth 100000 in
set_option maxHeartbeats 8000000 in
theorem termRows_any (l : List TT) (a : Option Addr) (cap : Nat) (lo by_ : Int) (ws : List Int) (wa : Option Addr) (wc : Nat) (w : World) (hl : l.length ≤ 651562446070) (hr : TRow w l a) (l0 : 0 ≤ lo) (l1 : lo ≤ 255) (b0 : 0 ≤ by_) (b1 : by_ ≤ 255) (hwl : ws.length ≤ 17592186043904) (hwr : WRow w ws wa) :
    Calls Try.prog 8 #[.slice a l.length cap, .int .u8 lo, .int .u8 by_, .slice wa ws.length wc] w fun e w' => e = .returned (.bool true) ∧ Below w.heap.size w w' := by
  obtain ⟨lg, hlg⟩ : ∃ lg, lg = TT.long l := ⟨_, rfl⟩
  have HLG := Lib.hid hlg; clear hlg
  have HR := Lib.hid hr; have HWR := Lib.hid hwr
  clear hr hwr
  have hB : Below w.heap.size w w := Below.refl _ _
  obtain ⟨bn, rfl⟩ : ∃ bn : Nat, by_ = (bn : Int) := ⟨by_.toNat, by omega⟩
  go_enter Try.func8, Try.ntmps8
  by_cases hz : l.length = 0
  · as_aux_lemma =>
    have f1 : decide (l.length = 0) = true := decide_eq_true hz
    have f2 : decide ((l.length : Int) = 0) = true := decide_eq_true (by omega)
    go_wp2_with fail
    refine (tawake_any _).mono ?_
    rintro e w9 ⟨rfl, hb9⟩
    go_wp2_with fail
    go_ret
    exact ⟨rfl, hB.trans (hb9.mono hB.size)⟩
  · by_cases h20 : 20 < l.length
    · as_aux_lemma =>
      have f1 : decide (20 < l.length) = true := decide_eq_true h20
      have f2 : decide (20 < (l.length : Int)) = true := decide_eq_true (by omega)
      go_wp2_with fail
      refine (tawake_any _).mono ?_
      rintro e w9 ⟨rfl, hb9⟩
      go_wp2_with fail
      go_ret
      exact ⟨rfl, hB.trans (hb9.mono hB.size)⟩
    · have f1 : decide (l.length = 0) = false := decide_eq_false hz
      have f2 : decide ((l.length : Int) = 0) = false := decide_eq_false (by omega)
      have f7 : ((l.length : Int) == 0) = false := by rw [beq_eq_false_iff_ne]; omega
      have f8 : (l.length == 0) = false := by rw [beq_eq_false_iff_ne]; omega
      have f3 : decide (20 < l.length) = false := decide_eq_false h20
      have f4 : decide (20 < (l.length : Int)) = false := decide_eq_false (by omega)
      go_wp2_with fail
      refine (tlong_any l a cap w hl HR.out).mono ?_
      rintro e w1 ⟨rfl, hb1⟩
      rw [← HLG.out]
      replace hB := hb1
      clear hb1
      cases lg
      · by_cases h30 : 30 < ws.length
        · as_aux_lemma =>
          have f5 : decide (30 < ws.length) = true := decide_eq_true h30
          have f6 : decide (30 < (ws.length : Int)) = true := decide_eq_true (by omega)
          go_wp2_with fail
          refine (tawake_any _).mono ?_
          rintro e w9 ⟨rfl, hb9⟩
          go_wp2_with fail
          go_ret
          exact ⟨rfl, hB.trans (hb9.mono hB.size)⟩
        · have f5 : decide (30 < ws.length) = false := decide_eq_false h30
          have f6 : decide (30 < (ws.length : Int)) = false := decide_eq_false (by omega)
          go_wp2_with fail
          refine (tawake_any _).mono ?_
          rintro e w2 ⟨rfl, hb2⟩
          replace hB := hB.trans (hb2.mono hB.size)
          clear hb2
          go_wp2_with fail
          clear f1 f2 f3 f4 f5 f6 f7 f8
          go_loopw [9, 11] (fun y x wr => ∃ (i : Nat) (L : List (TT × TA)) (a' : Option Addr) (cap' : Nat), y = .slice a' L.length cap' ∧ x = .int .i64 i ∧ i ≤ l.length ∧ L.map (·.1) = (rot (bn % l.length) l).take i ∧ FlatRow w wr L a' cap' ∧ Below w.heap.size w wr) (fun _ x _ => l.length - (intOf x).toNat)
          case atStart => exact ⟨0, [], none, 0, rfl, rfl, by omega, by simp, ⟨Grown.nil _ _ _ _, fun _ h => by simp at h⟩, hB⟩
          case round =>
            obtain ⟨i, L, a', cap', rfl, rfl, hi, hmap, hL, hBr⟩ := hrel
            have hLl : L.length = i := by have h := congrArg List.length hmap; simp only [List.length_map, List.length_take, rot_length] at h; omega
            have HMAP := Lib.hid hmap; have HL := Lib.hid hL; have HLL := Lib.hid hLl
            clear hmap hL hLl
            by_cases hlt : i < l.length
            · as_aux_lemma =>
              have g1 : decide ((i : Int) < l.length) = true := decide_eq_true (by omega)
              have g2 : decide (i < l.length) = true := decide_eq_true hlt
              obtain ⟨q, hq⟩ : ∃ q, q = (i + bn) % l.length := ⟨_, rfl⟩
              have hql : q < l.length := by rw [hq]; exact Nat.mod_lt _ (by omega)
              obtain ⟨b, o, rfl, X, hcX, hkX⟩ := HR.out.get q hql
              have HCX := Lib.hid (hcX.below hBr); have HKX := Lib.hid hkX
              have hgi : (rot (bn % l.length) l)[i]? = some l[q] := by
                rw [rot_get (Nat.mod_lt _ (by omega)) hlt, Nat.add_mod_mod, ← hq, List.getElem?_eq_getElem hql]
              have HGI := Lib.hid hgi
              have hqi : ((i : Int) + (bn : Int)) % (l.length : Int) = (q : Int) := by rw [hq]; simp
              clear hcX hkX hgi hq
              go_wp2_with (first | refine wpList_load15 (by rfl) (by rfl) (by rfl) HCX.out ?_ | refine wpList_row1C (s := l[q]) (A := X) (by rfl) (by rfl) (by rfl) ?_)
              intro w3 hc3 hb3 s3
              have hB3 := hBr.trans (hb3.mono hBr.size)
              obtain ⟨a3, cap3, w4, hap, hL4, hb4, _⟩ := flat_append (HL.out.below hb3) hB3.size hc3 HKX.out (by have := HLL.out; omega)
              have HAP := Lib.hid hap
              have HN := Lib.hid (And.intro (show (L ++ [(l[q], X)]).map (·.1) = (rot (bn % l.length) l).take (i + 1) by
                have h := HGI.out
                obtain ⟨hlt', he⟩ := List.getElem?_eq_some_iff.1 h
                rw [List.map_append, HMAP.out, List.take_add_one, h]; rfl) (And.intro hL4 (hB3.trans hb4)))
              have hln : (L ++ [(l[q], X)]).length = L.length + 1 := by simp
              clear hap hL4 hb4 hc3 hb3 hB3
              go_wp2_with (at_builtin; refine wpList_append_run _ rfl _ _ _ rfl _ _ _ _ rfl rfl HAP.out ?_)
              go_roundw
              case rel => exact ⟨i + 1, L ++ [(l[q], X)], a3, cap3, by rw [hln], by go_num, by omega, HN.out⟩
              case measure => simp [intOf]; omega
            · have hie : i = l.length := by omega
              subst hie
              have hM : L.map (·.1) = rot (bn % l.length) l := by have h := HMAP.out; rwa [List.take_of_length_le (by rw [rot_length]; exact Nat.le_refl _)] at h
              obtain ⟨m, hm⟩ : ∃ m, m = rot (bn % l.length) l := ⟨_, rfl⟩
              have hlm : m.length = l.length := by rw [hm, rot_length]
              have hLm : L.length = m.length := by rw [hlm]; exact HLL.out
              have HMR : Hid (TRow wr m a') := Lib.hid (by rw [hm, ← hM]; exact HL.out.trow hBr)
              have HM := Lib.hid hm; have HLM := Lib.hid hlm
              have hll : m.length ≤ 20 := by omega
              rw [hLm]
              have g1 : decide ((l.length : Int) < l.length) = false := decide_eq_false (by omega)
              have g2 : decide (l.length < l.length) = false := decide_eq_false (by omega)
              clear hi hlt hM hm hLm HMAP HL HLL hlm
              go_wp2_with fail
              clear g1 g2
              rename World => wA
              go_loopw [10, 12] (fun y x wr => ∃ (i : Nat) (V : List Int) (b' : Option Addr) (c' : Nat), y = .slice b' V.length c' ∧ x = .int .i64 i ∧ i ≤ ws.length ∧ V = (rot (bn % ws.length) ws).take i ∧ NumRow wr wA.heap.size V b' c' ∧ Below wA.heap.size wA wr) (fun _ x _ => ws.length - (intOf x).toNat)
              case atStart => exact ⟨0, [], none, 0, rfl, rfl, by omega, by simp, Grown.nil _ _ _ _, Below.refl _ _⟩
              case round =>
                obtain ⟨i, V, b', c', rfl, rfl, hi, hV, hN, hBv⟩ := hrel
                have hVl : V.length = i := by rw [hV, List.length_take, rot_length]; omega
                have HV := Lib.hid hV; have HN := Lib.hid hN; have HVL := Lib.hid hVl
                clear hV hN hVl
                by_cases hlt : i < ws.length
                · as_aux_lemma =>
                  have g1 : decide ((i : Int) < ws.length) = true := decide_eq_true (by omega)
                  have g2 : decide (i < ws.length) = true := decide_eq_true hlt
                  have g5 : decide (ws.length = 0) = false := decide_eq_false (by omega)
                  have g6 : decide ((ws.length : Int) = 0) = false := decide_eq_false (by omega)
                  have g7 : ((ws.length : Int) == 0) = false := by rw [beq_eq_false_iff_ne]; omega
                  have g8 : (ws.length == 0) = false := by rw [beq_eq_false_iff_ne]; omega
                  obtain ⟨q, hq⟩ : ∃ q, q = (i + bn) % ws.length := ⟨_, rfl⟩
                  have hql : q < ws.length := by rw [hq]; exact Nat.mod_lt _ (by omega)
                  obtain ⟨b, o, rfl, hcX0⟩ := HWR.out.get q hql
                  have hcX := cell_stays (hBr.trans (hBv.mono hBr.size)) hcX0
                  have hgi : (rot (bn % ws.length) ws)[i]? = some ws[q] := by
                    rw [rot_get (Nat.mod_lt _ (by omega)) hlt, Nat.add_mod_mod, ← hq, List.getElem?_eq_getElem hql]
                  obtain ⟨x, hx⟩ : ∃ x, x = ws[q] := ⟨_, rfl⟩
                  rw [← hx] at hgi hcX
                  have HGI := Lib.hid hgi
                  have hqi : ((i : Int) + (bn : Int)) % (ws.length : Int) = (q : Int) := by rw [hq]; simp
                  have hsz := hBv.size
                  obtain ⟨w5, a3, cap3, w6, hw5, hap, hN3, hb3⟩ := num_append hsz HN.out rfl (by have := HVL.out; omega) x
                  have HAP := Lib.hid hap
                  have HN3 := Lib.hid (And.intro (show V ++ [x] = (rot (bn % ws.length) ws).take (i + 1) by rw [List.take_add_one, HGI.out, HV.out]; simp) (And.intro hN3 (hBv.trans hb3)))
                  have hln : (V ++ [x]).length = V.length + 1 := by simp
                  clear hap hN3 hb3 hgi hq hx hcX0 hsz
                  go_wp2_with (at_builtin; refine wpList_append_run _ rfl _ _ _ rfl _ _ _ _ rfl rfl HAP.out ?_)
                  go_roundw
                  case rel => exact ⟨i + 1, V ++ [x], a3, cap3, by rw [hln], by go_num, by omega, HN3.out⟩
                  case measure => simp [intOf]; omega
                · have hie : i = ws.length := by omega
                  subst hie
                  have hV2 : V = rot (bn % ws.length) ws := by have h := HV.out; rwa [List.take_of_length_le (by rw [rot_length]; exact Nat.le_refl _)] at h
                  have HVR : Hid (WRow wr V b') := Lib.hid HN.out.wrow
                  have HV2 := Lib.hid hV2
                  have hVl : V.length ≤ 30 := by have := HVL.out; omega
                  replace HMR := Lib.hid (HMR.out.below hBv)
                  replace hB := hBr.trans (hBv.mono hBr.size)
                  replace HR := Lib.hid (HR.out.below hB); replace HWR := Lib.hid (HWR.out.below hB)
                  have g1 : decide ((ws.length : Int) < ws.length) = false := decide_eq_false (by omega)
                  have g2 : decide (ws.length < ws.length) = false := decide_eq_false (by omega)
                  have g5 : decide (l.length + 1 = 0) = false := decide_eq_false (by omega)
                  have g6 : decide ((l.length : Int) + 1 = 0) = false := decide_eq_false (by omega)
                  have g7 : ((l.length : Int) + 1 == 0) = false := by rw [beq_eq_false_iff_ne]; omega
                  clear hi hlt hV2 HV HN HVL hBr hBv
                  go_wp2_with fail
                  clear g1 g2 g5 g6 g7
                  obtain ⟨n, hn⟩ : ∃ n, n = lo % ((l.length : Int) + 1) := ⟨_, rfl⟩
                  rw [← hn]
                  have HN0 := Lib.hid hn; clear hn
                  refine (lof_any 5 l a cap _ hl HR.out).mono ?_
                  rintro e w1 ⟨x1, rfl, ⟨A1, rfl, k1⟩, hb1⟩
                  have K1 := Lib.hid k1; clear k1
                  replace HMR := Lib.hid (HMR.out.below hb1); replace HVR := Lib.hid (HVR.out.below hb1); replace HR := Lib.hid (HR.out.below hb1); replace HWR := Lib.hid (HWR.out.below hb1)
                  replace hB := hB.trans (hb1.mono hB.size); clear hb1
                  go_wp2_with fail
                  refine (lof_any 5 m a' cap' _ (by omega) HMR.out).mono ?_
                  rintro e w2 ⟨x2, rfl, ⟨A2, rfl, k2⟩, hb1⟩
                  have K2 := Lib.hid k2; clear k2
                  replace K1 := Lib.hid (K1.out.below hb1)
                  replace HMR := Lib.hid (HMR.out.below hb1); replace HVR := Lib.hid (HVR.out.below hb1); replace HR := Lib.hid (HR.out.below hb1); replace HWR := Lib.hid (HWR.out.below hb1)
                  replace hB := hB.trans (hb1.mono hB.size); clear hb1
                  go_wp2_with (refine wpList_pair ⟨tOf 5 l, A1, tOf 5 m, A2⟩ (by rfl) (by rfl) (by rfl) (by rfl) ?_)
                  refine (lof_any 7 l a cap _ hl HR.out).mono ?_
                  rintro e w3 ⟨x3, rfl, ⟨A3, rfl, k3⟩, hb1⟩
                  have K3 := Lib.hid k3; clear k3
                  replace K1 := Lib.hid (K1.out.below hb1); replace K2 := Lib.hid (K2.out.below hb1)
                  replace HMR := Lib.hid (HMR.out.below hb1); replace HVR := Lib.hid (HVR.out.below hb1); replace HR := Lib.hid (HR.out.below hb1); replace HWR := Lib.hid (HWR.out.below hb1)
                  replace hB := hB.trans (hb1.mono hB.size); clear hb1
                  go_wp2_with fail
                  refine (lof_any 7 m a' cap' _ (by omega) HMR.out).mono ?_
                  rintro e w4 ⟨x4, rfl, ⟨A4, rfl, k4⟩, hb1⟩
                  have K4 := Lib.hid k4; clear k4
                  replace K1 := Lib.hid (K1.out.below hb1); replace K2 := Lib.hid (K2.out.below hb1); replace K3 := Lib.hid (K3.out.below hb1)
                  replace HMR := Lib.hid (HMR.out.below hb1); replace HVR := Lib.hid (HVR.out.below hb1); replace HR := Lib.hid (HR.out.below hb1); replace HWR := Lib.hid (HWR.out.below hb1)
                  replace hB := hB.trans (hb1.mono hB.size); clear hb1
                  go_wp2_with (first | refine wpList_pair ⟨tOf 7 l, A3, tOf 7 m, A4⟩ (by rfl) (by rfl) (by rfl) (by rfl) ?_ | refine wpList_pick (k := 8) (n := n) (l := l) (b := a) (by rfl) (by rfl) (by rfl) (by rfl) (by rfl) rfl ?_ | refine wpList_pick (k := 8) (n := n) (l := m) (b := a') (by rfl) (by rfl) (by rfl) (by rfl) (by rfl) rfl ?_ | refine wpList_freq (ws := ws) (l := l) (by rfl) (by rfl) (by rfl) (by rfl) rfl rfl ?_ | refine wpList_freq (ws := V) (l := m) (by rfl) (by rfl) (by rfl) (by rfl) rfl rfl ?_ | refine wpList_pair ⟨tPick n l, plainA a cap, tPick n m, plainA a' cap'⟩ (by rfl) (by rfl) (by rfl) (by rfl) ?_ | refine wpList_pair ⟨tFreq ws l, freqA wa wc a cap, tFreq V m, freqA b' c' a' cap'⟩ (by rfl) (by rfl) (by rfl) (by rfl) ?_ | refine wpList_pairs4 ⟨tOf 5 l, A1, tOf 5 m, A2⟩ ⟨tOf 7 l, A3, tOf 7 m, A4⟩ ⟨tPick n l, plainA a cap, tPick n m, plainA a' cap'⟩ ⟨tFreq ws l, freqA wa wc a cap, tFreq V m, freqA b' c' a' cap'⟩ (by rfl) (by rfl) (by rfl) (by rfl) (by rfl) (by rfl) ?_)
                  intro w5 hb5 hs5 htab
                  obtain ⟨L4, hL4⟩ : ∃ L4 : List TP, L4 = [⟨tOf 5 l, A1, tOf 5 m, A2⟩, ⟨tOf 7 l, A3, tOf 7 m, A4⟩, ⟨tPick n l, plainA a cap, tPick n m, plainA a' cap'⟩, ⟨tFreq ws l, freqA wa wc a cap, tFreq V m, freqA b' c' a' cap'⟩] := ⟨_, rfl⟩
                  have hlen4 : L4.length = 4 := by rw [hL4]; rfl
                  obtain ⟨hcn, hln⟩ := TT.not_long HLG.out.symm
                  have hsm := rows_all (n := n) (A1 := A1) (A2 := A2) (A3 := A3) (A4 := A4) (a := a) (cap := cap) (a' := a') (cap' := cap') (wa := wa) (wc := wc) (b' := b') (c' := c') HM.out HV2.out (by omega) hln (by omega)
                  have HT : Hid (∀ i (h : i < L4.length), w5.rangeAt w4.heap.size (i * 30) L4[i].cells.toList ∧ (TOk w5 L4[i].s L4[i].A ∧ TOk w5 L4[i].t L4[i].B ∧ L4[i].s.cnt ≤ 3000000 ∧ L4[i].s.lean = true ∧ L4[i].t.cnt ≤ 3000000 ∧ L4[i].t.lean = true) ∧ L4[i].Eqs) := Lib.hid (by
                    intro i h
                    have hmem := hsm L4[i] (by rw [← hL4]; exact List.getElem_mem h)
                    have hok : TOk w5 L4[i].s L4[i].A ∧ TOk w5 L4[i].t L4[i].B := by
                      have : ∀ p ∈ L4, TOk w5 p.s p.A ∧ TOk w5 p.t p.B := by
                        rw [hL4]
                        intro p hp
                        simp only [List.mem_cons, List.not_mem_nil, or_false] at hp
                        rcases hp with rfl | rfl | rfl | rfl
                        · exact ⟨K1.out.below hb5, K2.out.below hb5⟩
                        · exact ⟨K3.out.below hb5, K4.out.below hb5⟩
                        · exact ⟨tok_plain hl (HR.out.below hb5), tok_plain (by omega) (HMR.out.below hb5)⟩
                        · exact ⟨tok_freq hl hwl (HWR.out.below hb5) (HR.out.below hb5), tok_freq (by omega) (by omega) (HVR.out.below hb5) (HMR.out.below hb5)⟩
                      exact this _ (List.getElem_mem h)
                    refine ⟨?_, ⟨hok.1, hok.2, hmem.1⟩, hmem.2⟩
                    subst hL4
                    exact htab i h)
                  replace hB := hB.trans (hb5.mono hB.size)
                  clear htab hsm hcn hln hL4 K1 K2 K3 K4 HMR HVR HR HWR hb5 hl hwl hVl hll HM HV2 HLM HN0 HLG
                  go_wp2_with fail
                  go_loopw [110] (fun x wr => ∃ i : Nat, x = .int .i64 i ∧ i ≤ 4 ∧ Below w5.heap.size w5 wr) (fun x _ => 4 - (intOf x).toNat)
                  case atStart => exact ⟨0, rfl, by omega, Below.refl _ _⟩
                  case round =>
                    obtain ⟨i, rfl, hi, hb6⟩ := hrel
                    by_cases hlt : i < 4
                    · as_aux_lemma =>
                      have hil : i < L4.length := by omega
                      obtain ⟨p, hp⟩ : ∃ p, p = L4[i] := ⟨_, rfl⟩
                      have ht := HT.out i hil
                      rw [← hp] at ht
                      have HC := Lib.hid (range_below hb6 ht.1)
                      have HP : Hid (TOk wr p.s p.A ∧ TOk wr p.t p.B ∧ p.s.cnt ≤ 3000000 ∧ p.s.lean = true ∧ p.t.cnt ≤ 3000000 ∧ p.t.lean = true) := Lib.hid ⟨ht.2.1.1.below hb6, ht.2.1.2.1.below hb6, ht.2.1.2.2⟩
                      obtain ⟨q1, q2, q3, q4, q5, q6, q7⟩ := ht.2.2
                      obtain ⟨nd, hnd⟩ : ∃ x, x = p.s.nodes := ⟨_, rfl⟩
                      obtain ⟨dp, hdp⟩ : ∃ x, x = p.s.deep := ⟨_, rfl⟩
                      obtain ⟨bu, hbu⟩ : ∃ x, x = p.s.Bulk := ⟨_, rfl⟩
                      obtain ⟨hg, hhg⟩ : ∃ x, x = p.s.High := ⟨_, rfl⟩
                      obtain ⟨my, hmy⟩ : ∃ x, x = p.s.may := ⟨_, rfl⟩
                      obtain ⟨sd, hsd⟩ : ∃ x, x = p.s.sound := ⟨_, rfl⟩
                      obtain ⟨no, hno⟩ : ∃ x, x = p.s.node := ⟨_, rfl⟩
                      have EQN : Hid ((p.s.nodes = nd ∧ p.t.nodes = nd) ∧ (p.s.deep = dp ∧ p.t.deep = dp) ∧ (p.s.Bulk = bu ∧ p.t.Bulk = bu) ∧ (p.s.High = hg ∧ p.t.High = hg) ∧ (p.s.may = my ∧ p.t.may = my) ∧ (p.s.sound = sd ∧ p.t.sound = sd) ∧ (p.s.node = no ∧ p.t.node = no)) := Lib.hid (by
                        rw [hnd, hdp, hbu, hhg, hmy, hsd, hno]
                        exact ⟨⟨rfl, q1.symm⟩, ⟨rfl, q2.symm⟩, ⟨rfl, q3.symm⟩, ⟨rfl, q4.symm⟩, ⟨rfl, q5.symm⟩, ⟨rfl, q6.symm⟩, ⟨rfl, q7.symm⟩⟩)
                      have g1 : decide ((i : Int) < 4) = true := decide_eq_true (by omega)
                      have g2 : decide (i < 4) = true := decide_eq_true hlt
                      clear ht hp q1 q2 q3 q4 q5 q6 q7 hnd hdp hbu hhg hmy hsd hno
                      go_wp2_with (first | refine wpList_loadM (cells := p.cells) (by rfl) (by rfl) (by rfl) HC.out Try.underlying62 rfl (by rw [TP.cells_size]; kernel_rfl) ?_ | refine wpList_boxM (k := 30) (cells := p.cells) (by rfl) (by rfl) (by rfl) (by rfl) (by rfl) (by rfl) (by rfl) (by rfl) (by kernel_rfl) (by kernel_rfl) p.cells_size p.cells_one ?_)
                      intro wE hrE hbE hsE RE
                      have HXY : Hid (wE.rangeAt wr.heap.size 0 p.cells.toList) := Lib.hid hrE
                      replace HP : Hid (TOk wE p.s p.A ∧ TOk wE p.t p.B ∧ p.s.cnt ≤ 3000000 ∧ p.s.lean = true ∧ p.t.cnt ≤ 3000000 ∧ p.t.lean = true) := Lib.hid ⟨HP.out.1.below hbE, HP.out.2.1.below hbE, HP.out.2.2⟩
                      have hb7 := hb6.trans (hbE.mono hb6.size)
                      clear hbE RE hrE HC
                      go_wp2_with fail
                      refine wp_region_held (S := fun W => W.rangeAt wr.heap.size 0 p.cells.toList) rfl ?_
                      refine held_take (i := 0) (d := 114) (v := .pointer (some ⟨wr.heap.size, 0, none⟩)) (.indexAddr 62 (.tmp 15) (.const (.int .i64 0))) (by kernel_rfl) (by kernel_rfl) (by kernel_rfl) (by kernel_rfl) (fun _ _ _ h => h) (fun o ho W _ => by obtain ⟨od, oo, ot, op, oa, og⟩ := o; simp only at ho; subst ho; go_simp) (by simpa using HXY.out) ?_
                      simp only [Act.put, List.setIfInBounds_toArray, List.set_cons_zero, List.set_cons_succ]
                      refine held_take (i := 1) (d := 115) (v := TT.val p.s p.A) (.load 31 (.tmp 114)) (by kernel_rfl) (by kernel_rfl) (by kernel_rfl) (by kernel_rfl) (fun _ _ _ h => h) (fun o ho W hW => run_load15 (TP.at hW).1 ho (by rfl)) (by simpa using HXY.out) ?_
                      simp only [Act.put, List.setIfInBounds_toArray, List.set_cons_zero, List.set_cons_succ]
                      refine held_take (i := 2) (d := 116) (v := .pointer (some ⟨wr.heap.size, 15, none⟩)) (.indexAddr 62 (.tmp 15) (.const (.int .i64 1))) (by kernel_rfl) (by kernel_rfl) (by kernel_rfl) (by kernel_rfl) (fun _ _ _ h => h) (fun o ho W _ => by obtain ⟨od, oo, ot, op, oa, og⟩ := o; simp only at ho; subst ho; go_simp) (by simpa using HXY.out) ?_
                      simp only [Act.put, List.setIfInBounds_toArray, List.set_cons_zero, List.set_cons_succ]
                      refine held_take (i := 3) (d := 117) (v := TT.val p.t p.B) (.load 31 (.tmp 116)) (by kernel_rfl) (by kernel_rfl) (by kernel_rfl) (by kernel_rfl) (fun _ _ _ h => h) (fun o ho W hW => run_load15 (TP.at hW).2 ho (by rfl)) (by simpa using HXY.out) ?_
                      simp only [Act.put, List.setIfInBounds_toArray, List.set_cons_zero, List.set_cons_succ]
                      refine held_two_allocs (T := 31) (k := 15) (i := 4) (j := 5) rfl rfl rfl rfl rfl rfl rfl rfl (by kernel_rfl) (by kernel_rfl) (by kernel_rfl) (by kernel_rfl) (by kernel_rfl) size15 (by kernel_rfl) (fun _ _ h hb => range_below hb h) (by simpa using HXY.out) ?_
                      intro b16 b17 w7 hne hlo hlo' hlt16 hlt17 R16 R17 hbd hS7
                      simp only [Act.put, List.setIfInBounds_toArray, List.set_cons_zero, List.set_cons_succ]
                      have hbw : Below wE.heap.size wE w7 := (Below.refl _ wE).drew.trans hbd
                      have hlo2 : wE.heap.size ≤ b16 := by simpa using hlo
                      have hlo3 : wE.heap.size ≤ b17 := by simpa using hlo'
                      obtain ⟨w8, hw8⟩ : ∃ w8, w8 = setL b16 (cellsT 0 p.s p.A) w7 := ⟨_, rfl⟩
                      have R17' : RowAt w8 31 b17 15 := by rw [hw8]; exact setL_row _ _ _ R17
                      have c16 : TCells w8 b16 0 p.s p.A := by rw [hw8]; exact cells15 R16 (Nat.le_refl _)
                      have hb8 : Below wE.heap.size wE w8 := by rw [hw8]; exact setL_below b16 hlo2 _ _ hbw
                      obtain ⟨w9, hw9⟩ : ∃ w9, w9 = setL b17 (cellsT 0 p.t p.B) w8 := ⟨_, rfl⟩
                      have c17 : TCells w9 b17 0 p.t p.B := by rw [hw9]; exact cells15 R17' (Nat.le_refl _)
                      have hb9 : Below wE.heap.size wE w9 := by rw [hw9]; exact setL_below b17 hlo3 _ _ hb8
                      have c16' : TCells w9 b16 0 p.s p.A := by
                        rw [hw9]
                        exact c16.at_block fun o v hv => by rw [setL_out b17 b16 o _ w8 (fun e => absurd e hne)]; exact hv
                      refine held_store15 (i := 6) (.tmp 16) (.tmp 115) (by kernel_rfl) (by kernel_rfl) (by rfl) (by rfl) R16 (Nat.le_refl _) ?_
                      rw [← hw8]
                      refine ⟨range_below hb8 HXY.out, ?_⟩
                      refine held_store15 (i := 7) (.tmp 17) (.tmp 117) (by kernel_rfl) (by kernel_rfl) (by rfl) (by rfl) R17' (Nat.le_refl _) ?_
                      rw [← hw9]
                      refine ⟨range_below hb9 HXY.out, ?_⟩
                      refine wpAnyH_done (by kernel_rfl) ?_ _
                      have HBX : Hid (BoxA w9 b16 p.s p.A) := Lib.hid ⟨c16', HP.out.1.below hb9⟩
                      have HBY : Hid (BoxA w9 b17 p.t p.B) := Lib.hid ⟨c17, HP.out.2.1.below hb9⟩
                      have hb10 := hb7.trans (hb9.mono hb7.size)
                      clear hne hlo hlo' hlt16 hlt17 R16 R17 hbd hS7 hbw hlo2 hlo3 hw8 R17' c16 hb8 hw9 c17 c16' hb9 hb7 hb6 HXY hsE
                      go_wp2_with fail
                      have HBV := Lib.hid (fun W (h : Below w9.drew.heap.size w9.drew W) => (Below.refl _ w9).drew.trans h)
                      try simp only [List.append_eq, List.cons_append, List.nil_append]
                      refine wp_region_allR (kindT [(118, .fixed (TT.val p.s p.A)), (119, .fixed (.int .i64 nd)), (120, .fixed (TT.val p.t p.B)), (121, .fixed (.int .i64 nd)), (122, .fixed (.bool false)), (123, .fixed (.bool false)), (124, .fixed (TT.val p.s p.A)), (125, .fixed (.int .i64 dp)), (126, .fixed (TT.val p.t p.B)), (127, .fixed (.int .i64 dp)), (128, .fixed (.bool false)), (129, .fixed (.bool false)), (130, .fixed (.bool false)), (131, .fixed (TT.val p.s p.A)), (132, .fixed (.int .i64 bu)), (133, .fixed (TT.val p.t p.B)), (134, .fixed (.int .i64 bu)), (135, .fixed (.bool false)), (136, .fixed (.bool false)), (137, .fixed (.bool false)), (138, .fixed (TT.val p.s p.A)), (139, .fixed (.int .i64 hg)), (140, .fixed (TT.val p.t p.B)), (141, .fixed (.int .i64 hg)), (142, .fixed (.bool false)), (143, .fixed (.bool false)), (144, .fixed (.bool false)), (145, .fixed (TT.val p.s p.A)), (146, .fixed (.bool my)), (147, .fixed (TT.val p.t p.B)), (148, .fixed (.bool my)), (149, .fixed (.bool false)), (150, .fixed (.bool false)), (151, .fixed (.bool false)), (152, .fixed (TT.val p.s p.A)), (153, .fixed (.bool sd)), (154, .fixed (TT.val p.t p.B)), (155, .fixed (.bool sd)), (156, .fixed (.bool false)), (157, .fixed (.bool false)), (158, .fixed (.bool false)), (159, .fixed (TT.val p.s p.A)), (160, .fixed (.int .i64 no)), (161, .fixed (.bool (no == 0))), (162, .fixed (TT.val p.t p.B)), (163, .fixed (.int .i64 no)), (164, .fixed (.bool (no == 0))), (165, .fixed (.bool false)), (166, .fixed (.bool false))]) 168 (by kernel_rfl) (by kernel_rfl) (by rfl) (kindT_mono _) ?_ ?_
                      · as_aux_lemma =>
                        show ∀ o ∈ [_, _, _, _, _, _, _, _, _, _, _, _, _, _, _, _, _, _, _, _, _, _, _, _, _, _, _, _, _, _, _, _, _, _, _, _, _, _, _, _, _, _, _, _, _, _, _, _, _], _
                        refine (tfm ?_ (tfm ?_ (tfm ?_ (tfm ?_ (tfm ?_ (tfm ?_ (tfm ?_ (tfm ?_ (tfm ?_ (tfm ?_ (tfm ?_ (tfm ?_ (tfm ?_ (tfm ?_ (tfm ?_ (tfm ?_ (tfm ?_ (tfm ?_ (tfm ?_ (tfm ?_ (tfm ?_ (tfm ?_ (tfm ?_ (tfm ?_ (tfm ?_ (tfm ?_ (tfm ?_ (tfm ?_ (tfm ?_ (tfm ?_ (tfm ?_ (tfm ?_ (tfm ?_ (tfm ?_ (tfm ?_ (tfm ?_ (tfm ?_ (tfm ?_ (tfm ?_ (tfm ?_ (tfm ?_ (tfm ?_ (tfm ?_ (tfm ?_ (tfm ?_ (tfm ?_ (tfm ?_ (tfm ?_ (tfm ?_ tfmnil)))))))))))))))))))))))))))))))))))))))))))))))))
                        · intro r W hc hf hs hd hB
                          have hBV := HBV.out W hB
                          refine want_n rfl ?_
                          have e16 : r (.tmp 16) = .pointer (some ⟨b16, 0, none⟩) := hs 16 (of_decide_eq_true (by kernel_rfl))
                          exact st_value (v := TT.val p.s p.A) rfl (by decide) (run_load15 (HBX.out.below hBV).1 rfl e16) rfl
                        · intro r W hc hf hs hd hB
                          have hBV := HBV.out W hB
                          refine want_n rfl ?_
                          have e118 : r (.tmp 118) = TT.val p.s p.A := hd 118 (by kernel_rfl)
                          exact st_call (f := 13) (args := #[TT.val p.s p.A]) rfl (by decide) (by go_simp) (made_fix (by rw [EQN.out.1.1]) (tnodes_any 3000000 (by decide) _ _ _ HP.out.2.2.1 HP.out.2.2.2.1 (HBX.out.below hBV).tin))
                        · intro r W hc hf hs hd hB
                          have hBV := HBV.out W hB
                          refine want_n rfl ?_
                          have e17 : r (.tmp 17) = .pointer (some ⟨b17, 0, none⟩) := hs 17 (of_decide_eq_true (by kernel_rfl))
                          exact st_value (v := TT.val p.t p.B) rfl (by decide) (run_load15 (HBY.out.below hBV).1 rfl e17) rfl
                        · intro r W hc hf hs hd hB
                          have hBV := HBV.out W hB
                          refine want_n rfl ?_
                          have e120 : r (.tmp 120) = TT.val p.t p.B := hd 120 (by kernel_rfl)
                          exact st_call (f := 13) (args := #[TT.val p.t p.B]) rfl (by decide) (by go_simp) (made_fix (by rw [EQN.out.1.2]) (tnodes_any 3000000 (by decide) _ _ _ HP.out.2.2.2.2.1 HP.out.2.2.2.2.2 (HBY.out.below hBV).tin))
                        · intro r W hc hf hs hd hB
                          have hBV := HBV.out W hB
                          refine want_n rfl ?_
                          have e119 : r (.tmp 119) = .int .i64 nd := hd 119 (by kernel_rfl)
                          have e121 : r (.tmp 121) = .int .i64 nd := hd 121 (by kernel_rfl)
                          exact st_value (v := .bool false) rfl (by decide) (by go_simp) rfl
                        · intro r W hc hf hs hd hB
                          have hBV := HBV.out W hB
                          refine want_n rfl ?_
                          have e122 : r (.tmp 122) = .bool false := hd 122 (by kernel_rfl)
                          exact st_value (v := .bool false) rfl (by decide) (by go_simp) rfl
                        · intro r W hc hf hs hd hB
                          have hBV := HBV.out W hB
                          refine want_g 5 123 rfl (by kernel_rfl) (hd 123 (by kernel_rfl) : r (.tmp 123) = .bool false) ?_
                          have e16 : r (.tmp 16) = .pointer (some ⟨b16, 0, none⟩) := hs 16 (of_decide_eq_true (by kernel_rfl))
                          exact st_value (v := TT.val p.s p.A) rfl (by decide) (run_load15 (HBX.out.below hBV).1 rfl e16) rfl
                        · intro r W hc hf hs hd hB
                          have hBV := HBV.out W hB
                          refine want_g 5 123 rfl (by kernel_rfl) (hd 123 (by kernel_rfl) : r (.tmp 123) = .bool false) ?_
                          have e124 : r (.tmp 124) = TT.val p.s p.A := hd 124 (by kernel_rfl)
                          exact st_call (f := 15) (args := #[TT.val p.s p.A]) rfl (by decide) (by go_simp) (made_fix (by rw [EQN.out.2.1.1]) (tdeep_any 3000000 (by decide) _ _ _ HP.out.2.2.1 (HBX.out.below hBV).tin))
                        · intro r W hc hf hs hd hB
                          have hBV := HBV.out W hB
                          refine want_g 5 123 rfl (by kernel_rfl) (hd 123 (by kernel_rfl) : r (.tmp 123) = .bool false) ?_
                          have e17 : r (.tmp 17) = .pointer (some ⟨b17, 0, none⟩) := hs 17 (of_decide_eq_true (by kernel_rfl))
                          exact st_value (v := TT.val p.t p.B) rfl (by decide) (run_load15 (HBY.out.below hBV).1 rfl e17) rfl
                        · intro r W hc hf hs hd hB
                          have hBV := HBV.out W hB
                          refine want_g 5 123 rfl (by kernel_rfl) (hd 123 (by kernel_rfl) : r (.tmp 123) = .bool false) ?_
                          have e126 : r (.tmp 126) = TT.val p.t p.B := hd 126 (by kernel_rfl)
                          exact st_call (f := 15) (args := #[TT.val p.t p.B]) rfl (by decide) (by go_simp) (made_fix (by rw [EQN.out.2.1.2]) (tdeep_any 3000000 (by decide) _ _ _ HP.out.2.2.2.2.1 (HBY.out.below hBV).tin))
                        · intro r W hc hf hs hd hB
                          have hBV := HBV.out W hB
                          refine want_g 5 123 rfl (by kernel_rfl) (hd 123 (by kernel_rfl) : r (.tmp 123) = .bool false) ?_
                          have e125 : r (.tmp 125) = .int .i64 dp := hd 125 (by kernel_rfl)
                          have e127 : r (.tmp 127) = .int .i64 dp := hd 127 (by kernel_rfl)
                          exact st_value (v := .bool false) rfl (by decide) (by go_simp) rfl
                        · intro r W hc hf hs hd hB
                          have hBV := HBV.out W hB
                          refine want_n rfl ?_
                          have e123 : r (.tmp 123) = .bool false := hd 123 (by kernel_rfl)
                          have e128 : r (.tmp 128) = .bool false := hd 128 (by kernel_rfl)
                          exact st_value (v := .bool false) rfl (by decide) (by go_simp) rfl
                        · intro r W hc hf hs hd hB
                          have hBV := HBV.out W hB
                          refine want_n rfl ?_
                          have e129 : r (.tmp 129) = .bool false := hd 129 (by kernel_rfl)
                          exact st_value (v := .bool false) rfl (by decide) (by go_simp) rfl
                        · intro r W hc hf hs hd hB
                          have hBV := HBV.out W hB
                          refine want_g 12 130 rfl (by kernel_rfl) (hd 130 (by kernel_rfl) : r (.tmp 130) = .bool false) ?_
                          have e16 : r (.tmp 16) = .pointer (some ⟨b16, 0, none⟩) := hs 16 (of_decide_eq_true (by kernel_rfl))
                          exact st_value (v := TT.val p.s p.A) rfl (by decide) (run_load15 (HBX.out.below hBV).1 rfl e16) rfl
                        · intro r W hc hf hs hd hB
                          have hBV := HBV.out W hB
                          refine want_g 12 130 rfl (by kernel_rfl) (hd 130 (by kernel_rfl) : r (.tmp 130) = .bool false) ?_
                          have e131 : r (.tmp 131) = TT.val p.s p.A := hd 131 (by kernel_rfl)
                          exact st_call (f := 17) (args := #[TT.val p.s p.A]) rfl (by decide) (by go_simp) (made_fix (by rw [EQN.out.2.2.1.1]) (tbulk_any _ _ _ HP.out.2.2.1 HP.out.2.2.2.1 (HBX.out.below hBV).tin))
                        · intro r W hc hf hs hd hB
                          have hBV := HBV.out W hB
                          refine want_g 12 130 rfl (by kernel_rfl) (hd 130 (by kernel_rfl) : r (.tmp 130) = .bool false) ?_
                          have e17 : r (.tmp 17) = .pointer (some ⟨b17, 0, none⟩) := hs 17 (of_decide_eq_true (by kernel_rfl))
                          exact st_value (v := TT.val p.t p.B) rfl (by decide) (run_load15 (HBY.out.below hBV).1 rfl e17) rfl
                        · intro r W hc hf hs hd hB
                          have hBV := HBV.out W hB
                          refine want_g 12 130 rfl (by kernel_rfl) (hd 130 (by kernel_rfl) : r (.tmp 130) = .bool false) ?_
                          have e133 : r (.tmp 133) = TT.val p.t p.B := hd 133 (by kernel_rfl)
                          exact st_call (f := 17) (args := #[TT.val p.t p.B]) rfl (by decide) (by go_simp) (made_fix (by rw [EQN.out.2.2.1.2]) (tbulk_any _ _ _ HP.out.2.2.2.2.1 HP.out.2.2.2.2.2 (HBY.out.below hBV).tin))
                        · intro r W hc hf hs hd hB
                          have hBV := HBV.out W hB
                          refine want_g 12 130 rfl (by kernel_rfl) (hd 130 (by kernel_rfl) : r (.tmp 130) = .bool false) ?_
                          have e132 : r (.tmp 132) = .int .i64 bu := hd 132 (by kernel_rfl)
                          have e134 : r (.tmp 134) = .int .i64 bu := hd 134 (by kernel_rfl)
                          exact st_value (v := .bool false) rfl (by decide) (by go_simp) rfl
                        · intro r W hc hf hs hd hB
                          have hBV := HBV.out W hB
                          refine want_n rfl ?_
                          have e130 : r (.tmp 130) = .bool false := hd 130 (by kernel_rfl)
                          have e135 : r (.tmp 135) = .bool false := hd 135 (by kernel_rfl)
                          exact st_value (v := .bool false) rfl (by decide) (by go_simp) rfl
                        · intro r W hc hf hs hd hB
                          have hBV := HBV.out W hB
                          refine want_n rfl ?_
                          have e136 : r (.tmp 136) = .bool false := hd 136 (by kernel_rfl)
                          exact st_value (v := .bool false) rfl (by decide) (by go_simp) rfl
                        · intro r W hc hf hs hd hB
                          have hBV := HBV.out W hB
                          refine want_g 19 137 rfl (by kernel_rfl) (hd 137 (by kernel_rfl) : r (.tmp 137) = .bool false) ?_
                          have e16 : r (.tmp 16) = .pointer (some ⟨b16, 0, none⟩) := hs 16 (of_decide_eq_true (by kernel_rfl))
                          exact st_value (v := TT.val p.s p.A) rfl (by decide) (run_load15 (HBX.out.below hBV).1 rfl e16) rfl
                        · intro r W hc hf hs hd hB
                          have hBV := HBV.out W hB
                          refine want_g 19 137 rfl (by kernel_rfl) (hd 137 (by kernel_rfl) : r (.tmp 137) = .bool false) ?_
                          have e138 : r (.tmp 138) = TT.val p.s p.A := hd 138 (by kernel_rfl)
                          exact st_call (f := 19) (args := #[TT.val p.s p.A]) rfl (by decide) (by go_simp) (made_fix (by rw [EQN.out.2.2.2.1.1]) (thigh_any _ _ _ HP.out.2.2.1 HP.out.2.2.2.1 (HBX.out.below hBV).tin))
                        · intro r W hc hf hs hd hB
                          have hBV := HBV.out W hB
                          refine want_g 19 137 rfl (by kernel_rfl) (hd 137 (by kernel_rfl) : r (.tmp 137) = .bool false) ?_
                          have e17 : r (.tmp 17) = .pointer (some ⟨b17, 0, none⟩) := hs 17 (of_decide_eq_true (by kernel_rfl))
                          exact st_value (v := TT.val p.t p.B) rfl (by decide) (run_load15 (HBY.out.below hBV).1 rfl e17) rfl
                        · intro r W hc hf hs hd hB
                          have hBV := HBV.out W hB
                          refine want_g 19 137 rfl (by kernel_rfl) (hd 137 (by kernel_rfl) : r (.tmp 137) = .bool false) ?_
                          have e140 : r (.tmp 140) = TT.val p.t p.B := hd 140 (by kernel_rfl)
                          exact st_call (f := 19) (args := #[TT.val p.t p.B]) rfl (by decide) (by go_simp) (made_fix (by rw [EQN.out.2.2.2.1.2]) (thigh_any _ _ _ HP.out.2.2.2.2.1 HP.out.2.2.2.2.2 (HBY.out.below hBV).tin))
                        · intro r W hc hf hs hd hB
                          have hBV := HBV.out W hB
                          refine want_g 19 137 rfl (by kernel_rfl) (hd 137 (by kernel_rfl) : r (.tmp 137) = .bool false) ?_
                          have e139 : r (.tmp 139) = .int .i64 hg := hd 139 (by kernel_rfl)
                          have e141 : r (.tmp 141) = .int .i64 hg := hd 141 (by kernel_rfl)
                          exact st_value (v := .bool false) rfl (by decide) (by go_simp) rfl
                        · intro r W hc hf hs hd hB
                          have hBV := HBV.out W hB
                          refine want_n rfl ?_
                          have e137 : r (.tmp 137) = .bool false := hd 137 (by kernel_rfl)
                          have e142 : r (.tmp 142) = .bool false := hd 142 (by kernel_rfl)
                          exact st_value (v := .bool false) rfl (by decide) (by go_simp) rfl
                        · intro r W hc hf hs hd hB
                          have hBV := HBV.out W hB
                          refine want_n rfl ?_
                          have e143 : r (.tmp 143) = .bool false := hd 143 (by kernel_rfl)
                          exact st_value (v := .bool false) rfl (by decide) (by go_simp) rfl
                        · intro r W hc hf hs hd hB
                          have hBV := HBV.out W hB
                          refine want_g 26 144 rfl (by kernel_rfl) (hd 144 (by kernel_rfl) : r (.tmp 144) = .bool false) ?_
                          have e16 : r (.tmp 16) = .pointer (some ⟨b16, 0, none⟩) := hs 16 (of_decide_eq_true (by kernel_rfl))
                          exact st_value (v := TT.val p.s p.A) rfl (by decide) (run_load15 (HBX.out.below hBV).1 rfl e16) rfl
                        · intro r W hc hf hs hd hB
                          have hBV := HBV.out W hB
                          refine want_g 26 144 rfl (by kernel_rfl) (hd 144 (by kernel_rfl) : r (.tmp 144) = .bool false) ?_
                          have e145 : r (.tmp 145) = TT.val p.s p.A := hd 145 (by kernel_rfl)
                          exact st_call (f := 37) (args := #[TT.val p.s p.A]) rfl (by decide) (by go_simp) (made_fix (by rw [EQN.out.2.2.2.2.1.1]) (tmay_any _ _ _ HP.out.2.2.1 HP.out.2.2.2.1 (HBX.out.below hBV).tin))
                        · intro r W hc hf hs hd hB
                          have hBV := HBV.out W hB
                          refine want_g 26 144 rfl (by kernel_rfl) (hd 144 (by kernel_rfl) : r (.tmp 144) = .bool false) ?_
                          have e17 : r (.tmp 17) = .pointer (some ⟨b17, 0, none⟩) := hs 17 (of_decide_eq_true (by kernel_rfl))
                          exact st_value (v := TT.val p.t p.B) rfl (by decide) (run_load15 (HBY.out.below hBV).1 rfl e17) rfl
                        · intro r W hc hf hs hd hB
                          have hBV := HBV.out W hB
                          refine want_g 26 144 rfl (by kernel_rfl) (hd 144 (by kernel_rfl) : r (.tmp 144) = .bool false) ?_
                          have e147 : r (.tmp 147) = TT.val p.t p.B := hd 147 (by kernel_rfl)
                          exact st_call (f := 37) (args := #[TT.val p.t p.B]) rfl (by decide) (by go_simp) (made_fix (by rw [EQN.out.2.2.2.2.1.2]) (tmay_any _ _ _ HP.out.2.2.2.2.1 HP.out.2.2.2.2.2 (HBY.out.below hBV).tin))
                        · intro r W hc hf hs hd hB
                          have hBV := HBV.out W hB
                          refine want_g 26 144 rfl (by kernel_rfl) (hd 144 (by kernel_rfl) : r (.tmp 144) = .bool false) ?_
                          have e146 : r (.tmp 146) = .bool my := hd 146 (by kernel_rfl)
                          have e148 : r (.tmp 148) = .bool my := hd 148 (by kernel_rfl)
                          exact st_value (v := .bool false) rfl (by decide) (by go_simp) rfl
                        · intro r W hc hf hs hd hB
                          have hBV := HBV.out W hB
                          refine want_n rfl ?_
                          have e144 : r (.tmp 144) = .bool false := hd 144 (by kernel_rfl)
                          have e149 : r (.tmp 149) = .bool false := hd 149 (by kernel_rfl)
                          exact st_value (v := .bool false) rfl (by decide) (by go_simp) rfl
                        · intro r W hc hf hs hd hB
                          have hBV := HBV.out W hB
                          refine want_n rfl ?_
                          have e150 : r (.tmp 150) = .bool false := hd 150 (by kernel_rfl)
                          exact st_value (v := .bool false) rfl (by decide) (by go_simp) rfl
                        · intro r W hc hf hs hd hB
                          have hBV := HBV.out W hB
                          refine want_g 33 151 rfl (by kernel_rfl) (hd 151 (by kernel_rfl) : r (.tmp 151) = .bool false) ?_
                          have e16 : r (.tmp 16) = .pointer (some ⟨b16, 0, none⟩) := hs 16 (of_decide_eq_true (by kernel_rfl))
                          exact st_value (v := TT.val p.s p.A) rfl (by decide) (run_load15 (HBX.out.below hBV).1 rfl e16) rfl
                        · intro r W hc hf hs hd hB
                          have hBV := HBV.out W hB
                          refine want_g 33 151 rfl (by kernel_rfl) (hd 151 (by kernel_rfl) : r (.tmp 151) = .bool false) ?_
                          have e152 : r (.tmp 152) = TT.val p.s p.A := hd 152 (by kernel_rfl)
                          exact st_call (f := 33) (args := #[TT.val p.s p.A]) rfl (by decide) (by go_simp) (made_fix (by rw [EQN.out.2.2.2.2.2.1.1]) (sound_any _ _ _ HP.out.2.2.1 HP.out.2.2.2.1 (HBX.out.below hBV).tin))
                        · intro r W hc hf hs hd hB
                          have hBV := HBV.out W hB
                          refine want_g 33 151 rfl (by kernel_rfl) (hd 151 (by kernel_rfl) : r (.tmp 151) = .bool false) ?_
                          have e17 : r (.tmp 17) = .pointer (some ⟨b17, 0, none⟩) := hs 17 (of_decide_eq_true (by kernel_rfl))
                          exact st_value (v := TT.val p.t p.B) rfl (by decide) (run_load15 (HBY.out.below hBV).1 rfl e17) rfl
                        · intro r W hc hf hs hd hB
                          have hBV := HBV.out W hB
                          refine want_g 33 151 rfl (by kernel_rfl) (hd 151 (by kernel_rfl) : r (.tmp 151) = .bool false) ?_
                          have e154 : r (.tmp 154) = TT.val p.t p.B := hd 154 (by kernel_rfl)
                          exact st_call (f := 33) (args := #[TT.val p.t p.B]) rfl (by decide) (by go_simp) (made_fix (by rw [EQN.out.2.2.2.2.2.1.2]) (sound_any _ _ _ HP.out.2.2.2.2.1 HP.out.2.2.2.2.2 (HBY.out.below hBV).tin))
                        · intro r W hc hf hs hd hB
                          have hBV := HBV.out W hB
                          refine want_g 33 151 rfl (by kernel_rfl) (hd 151 (by kernel_rfl) : r (.tmp 151) = .bool false) ?_
                          have e153 : r (.tmp 153) = .bool sd := hd 153 (by kernel_rfl)
                          have e155 : r (.tmp 155) = .bool sd := hd 155 (by kernel_rfl)
                          exact st_value (v := .bool false) rfl (by decide) (by go_simp) rfl
                        · intro r W hc hf hs hd hB
                          have hBV := HBV.out W hB
                          refine want_n rfl ?_
                          have e151 : r (.tmp 151) = .bool false := hd 151 (by kernel_rfl)
                          have e156 : r (.tmp 156) = .bool false := hd 156 (by kernel_rfl)
                          exact st_value (v := .bool false) rfl (by decide) (by go_simp) rfl
                        · intro r W hc hf hs hd hB
                          have hBV := HBV.out W hB
                          refine want_n rfl ?_
                          have e157 : r (.tmp 157) = .bool false := hd 157 (by kernel_rfl)
                          exact st_value (v := .bool false) rfl (by decide) (by go_simp) rfl
                        · intro r W hc hf hs hd hB
                          have hBV := HBV.out W hB
                          refine want_g 40 158 rfl (by kernel_rfl) (hd 158 (by kernel_rfl) : r (.tmp 158) = .bool false) ?_
                          have e16 : r (.tmp 16) = .pointer (some ⟨b16, 0, none⟩) := hs 16 (of_decide_eq_true (by kernel_rfl))
                          exact st_value (v := TT.val p.s p.A) rfl (by decide) (run_load15 (HBX.out.below hBV).1 rfl e16) rfl
                        · intro r W hc hf hs hd hB
                          have hBV := HBV.out W hB
                          refine want_g 40 158 rfl (by kernel_rfl) (hd 158 (by kernel_rfl) : r (.tmp 158) = .bool false) ?_
                          have e159 : r (.tmp 159) = TT.val p.s p.A := hd 159 (by kernel_rfl)
                          exact st_call (f := 25) (args := #[TT.val p.s p.A]) rfl (by decide) (by go_simp) (made_fix (by rw [EQN.out.2.2.2.2.2.2.1]) (tnode_any _ _ _ HP.out.2.2.2.1 (HBX.out.below hBV).tin))
                        · intro r W hc hf hs hd hB
                          have hBV := HBV.out W hB
                          refine want_g 40 158 rfl (by kernel_rfl) (hd 158 (by kernel_rfl) : r (.tmp 158) = .bool false) ?_
                          have e160 : r (.tmp 160) = .int .i64 no := hd 160 (by kernel_rfl)
                          exact st_value (v := .bool (no == 0)) rfl (by decide) (by go_simp) rfl
                        · intro r W hc hf hs hd hB
                          have hBV := HBV.out W hB
                          refine want_g 40 158 rfl (by kernel_rfl) (hd 158 (by kernel_rfl) : r (.tmp 158) = .bool false) ?_
                          have e17 : r (.tmp 17) = .pointer (some ⟨b17, 0, none⟩) := hs 17 (of_decide_eq_true (by kernel_rfl))
                          exact st_value (v := TT.val p.t p.B) rfl (by decide) (run_load15 (HBY.out.below hBV).1 rfl e17) rfl
                        · intro r W hc hf hs hd hB
                          have hBV := HBV.out W hB
                          refine want_g 40 158 rfl (by kernel_rfl) (hd 158 (by kernel_rfl) : r (.tmp 158) = .bool false) ?_
                          have e162 : r (.tmp 162) = TT.val p.t p.B := hd 162 (by kernel_rfl)
                          exact st_call (f := 25) (args := #[TT.val p.t p.B]) rfl (by decide) (by go_simp) (made_fix (by rw [EQN.out.2.2.2.2.2.2.2]) (tnode_any _ _ _ HP.out.2.2.2.2.2 (HBY.out.below hBV).tin))
                        · intro r W hc hf hs hd hB
                          have hBV := HBV.out W hB
                          refine want_g 40 158 rfl (by kernel_rfl) (hd 158 (by kernel_rfl) : r (.tmp 158) = .bool false) ?_
                          have e163 : r (.tmp 163) = .int .i64 no := hd 163 (by kernel_rfl)
                          exact st_value (v := .bool (no == 0)) rfl (by decide) (by go_simp) rfl
                        · intro r W hc hf hs hd hB
                          have hBV := HBV.out W hB
                          refine want_g 40 158 rfl (by kernel_rfl) (hd 158 (by kernel_rfl) : r (.tmp 158) = .bool false) ?_
                          have e161 : r (.tmp 161) = .bool (no == 0) := hd 161 (by kernel_rfl)
                          have e164 : r (.tmp 164) = .bool (no == 0) := hd 164 (by kernel_rfl)
                          exact st_value (v := .bool false) rfl (by decide) (by go_simp) rfl
                        · intro r W hc hf hs hd hB
                          have hBV := HBV.out W hB
                          refine want_n rfl ?_
                          have e158 : r (.tmp 158) = .bool false := hd 158 (by kernel_rfl)
                          have e165 : r (.tmp 165) = .bool false := hd 165 (by kernel_rfl)
                          exact st_value (v := .bool false) rfl (by decide) (by go_simp) rfl
                      intro f w11 hfd hB'
                      have z166 : f 166 = .bool false := hfd 166 (of_decide_eq_true (by kernel_rfl))
                      have hb11 := hb10.trans ((HBV.out w11 hB').mono hb10.size)
                      rw [show dstsTo _ _ = [118, 119, 120, 121, 122, 123, 124, 125, 126, 127, 128, 129, 130, 131, 132, 133, 134, 135, 136, 137, 138, 139, 140, 141, 142, 143, 144, 145, 146, 147, 148, 149, 150, 151, 152, 153, 154, 155, 156, 157, 158, 159, 160, 161, 162, 163, 164, 165, 166] from by kernel_rfl]
                      simp only [fill, Act.put, List.setIfInBounds_toArray, List.set_cons_succ, List.set_cons_zero, z166]
                      clear hfd z166 hB'

                      clear g1 g2
                      go_wp2_with fail
                      go_roundw
                      case rel => exact ⟨i + 1, by go_num, by omega, hb11⟩
                      case measure => simp [intOf]; omega
                    · have hie : i = 4 := by omega
                      subst hie
                      go_wp2_with fail
                      go_ret
                      exact ⟨rfl, hB.trans (hb6.mono hB.size)⟩
      · go_wp2_with fail
        refine (tawake_any _).mono ?_
        rintro e w9 ⟨rfl, hb9⟩
        go_wp2_with fail
        go_ret
        exact ⟨rfl, hB.trans (hb9.mono hB.size)⟩
end Go.Proofs.Ytapofbdkofelkaa
/- TermRows: the law returns true for all that can be read, and what was handed in reads afterwards as it read before. -/
namespace Go.Proofs.Ytapofbdkofelkaa
open Go.ChangeShapes Go.WideShapes Go.ChangeAt Go.RowKit

set_option maxRecDepth 100000 in
theorem termRows_lifted (os : Os) (started : os.Started) (H : Type) (enc : TypeId × Value → H) :
    ReturnsInHanded {} Try.checked os 8 .any (Rows.termRowsSpec.pre6 enc Try.prog Try.f8 Rows.termRowsRow.domain false) (Rows.termRowsSpec.post enc Try.prog Try.f8 false true false false) := by
  refine returnsInHanded_of_change_sized (C := Try.checked) Try.own started (by kernel_rfl) Try.func8
    (ChangeSpec.witness6 (enc := enc) (C := Try.checked) false ⟨#[], #[.slice none 0 0, .int .u8 0, .int .u8 0, .slice none 0 0], []⟩ 8 (by kernel_rfl) (by kernel_rfl) (by kernel_rfl) (by kernel_rfl)) ?_
  intro W base args ds gs before hval0 hW hcnd hsz hass
  have hval : ∀ (j : Nat) t v, Try.f8.params[j]? = some t → args[j]? = some v → Value.okWide Try.prog W .any base t v := hval0
  have hW' := hW
  obtain ⟨p, q, hA0, hV, rfl, hfz, hnd⟩ := hW
  have hA : DataW.TrodAll enc Try.prog W 0 (fun _ => true) true Try.f8.params.toList args.toList ds p := hA0
  rw [Try.params8] at hA hval
  obtain ⟨v0, v1, v2, v3, d0, d1, d2, d3, p0, p1, p2, p3, rfl, rfl, rfl, h0, h1, h2, h3⟩ := trodAll_four hA
  obtain ⟨rfl, rfl⟩ := trodVars_none hV
  have hsz' : (DataW.weightsEach Try.prog [29, 5, 5, 25] ([d0, d1, d2, d3] ++ [])).all (· ≤ reachBytes) = true := hsz
  simp only [List.append_nil, DataW.weightsEach, List.all_append, Bool.and_eq_true] at hsz'
  obtain ⟨a0, r0, c0, rfl, hl0, ha0⟩ := open_terms (hval 0 29 v0 rfl rfl) h0 hsz'.1
  obtain ⟨a1, rfl, la1, ua1⟩ := open_u8 (hval 1 5 v1 rfl rfl)
  obtain ⟨a2, rfl, la2, ua2⟩ := open_u8 (hval 2 5 v2 rfl rfl)
  obtain ⟨a3, r3, c3, rfl, hl3, ha3⟩ := open_nums (hval 3 25 v3 rfl rfl) h3 hsz'.2.2.2
  refine (termRows_any a0 r0 c0 a1 a2 a3 r3 c3 W hl0 ha0 la1 ua1 la2 ua2 hl3 ha3).mono fun e W' ⟨he, hbw⟩ => ?_
  subst he
  exact ⟨_, rfl, law_post rfl rfl (by rw [Try.params8]; intro t ht; simp at ht; rcases ht with rfl | rfl | rfl <;> exact ⟨by kernel_rfl, of_decide_eq_true (by kernel_rfl)⟩) hW' ⟨rfl, rfl, rfl⟩ hbw⟩

theorem termRows_holds : Rows.TermRowsSaid :=
  OpenClaim.holds_of_wide 8 Try.f8 rfl rfl rfl rfl rfl rfl rfl ⟨rfl, rfl, rfl, rfl, rfl⟩ rfl rfl rfl rfl rfl (by kernel_rfl) Try.func8 (by kernel_rfl)
    (of_decide_eq_true (by kernel_rfl)) (by unfold Func.isWrapper; first | (rw [if_pos (by decide +kernel)]; kernel_rfl) | (rw [if_neg (by decide +kernel)]; exact ⟨rfl, rfl⟩))
    (fun os started H enc _ => termRows_lifted os started H enc)
end Go.Proofs.Ytapofbdkofelkaa
