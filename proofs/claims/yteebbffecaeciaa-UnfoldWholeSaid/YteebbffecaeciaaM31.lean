/- Texts of this claim laid into one: TRefB. -/
import Derived.Test.YteebbffecaeciaaM30
/- The document's Node. -/
namespace Go.Proofs.Yteebbffecaeciaa
open Go.RowKit

theorem TT.node_eq (t : TT) : t.node = if t.kind < 1 ∨ 11 < t.kind then 11 else if TT.hasE t.kind t.v t.vs t.ws t.p ≠ 0 then TT.hasE t.kind t.v t.vs t.ws t.p else if TT.ends t.kind t.lo t.hi t.args.length ≠ 0 then TT.ends t.kind t.lo t.hi t.args.length else TT.argsW t.kind t.vs.length t.ws.length t.args.length := by
  unfold TT.node TT.node1 TT.hasE
  split
  · rfl
  · split
    · rename_i h; first | rfl | simp [h]
    · rename_i h
      have h : TT.values t.kind t.v t.vs = 0 := by omega
      simp
set_option maxRecDepth 100000 in
set_option maxHeartbeats 8000000 in
theorem rtnode_any (t : TT) (x : Value) (w : World) (hln : t.lean = true) (hx : TIn w t x) :
    Calls Try.prog 133 #[x] w fun e w' => e = .returned (.int .i64 t.node) ∧ Below w.heap.size w w' := by
  obtain ⟨nd, hnd⟩ : ∃ nd, nd = t.node := ⟨_, rfl⟩
  rw [← hnd]
  rw [TT.node_eq] at hnd
  have HTX := Lib.hid hx
  obtain ⟨T, hT⟩ : ∃ T, T = t := ⟨_, rfl⟩
  have HLN : Hid (T.lean = true) := Lib.hid (by rw [hT]; exact hln)
  rw [← hT] at HTX
  obtain ⟨k, v, vs, lo, hi, ws, p, l⟩ := t
  obtain ⟨⟨va, vc, sa, sc, wa, wc, qa, qc, pa, pc, aa, ac⟩, rfl, hok⟩ := hx
  simp only [TT.val, TT.kind, TT.v, TT.vs, TT.lo, TT.hi, TT.ws, TT.p, TT.args] at HTX ⊢
  obtain ⟨w0, hw0, m0, s0, R0, q0, q1, q2, q3, q4, q5, q6, q7, q8, q9, q10, q11, q12, q13, q14⟩ := box15 w (.int .u8 k) (.int .u8 v.kind) (.int .i64 v.num) (.slice va v.items.length vc) (.slice sa vs.length sc) (.int .i64 lo) (.int .i64 hi) (.slice wa ws.length wc)
    (.int .u8 p.kind) (.int .u8 p.val.kind) (.int .i64 p.val.num) (.slice qa p.val.items.length qc) (.int .i64 p.num) (.slice pa p.args.length pc) (.slice aa l.length ac) 47
  replace hnd : nd = if k < 1 ∨ 11 < k then 11 else if TT.hasE k v vs ws p ≠ 0 then TT.hasE k v vs ws p else if TT.ends k lo hi l.length ≠ 0 then TT.ends k lo hi l.length else TT.argsW k vs.length ws.length l.length := hnd
  replace HTX := Lib.hid (HTX.out.below m0)
  have hB := m0
  clear hok hln m0 R0
  obtain ⟨z1, hz1⟩ : ∃ z, z = TT.hasE k v vs ws p := ⟨_, rfl⟩
  obtain ⟨z2, hz2⟩ : ∃ z, z = TT.ends k lo hi l.length := ⟨_, rfl⟩
  rw [← hz1, ← hz2] at hnd
  have HT1 : Hid (TT.hasE T.kind T.v T.vs T.ws T.p = z1) := Lib.hid (by rw [hT]; exact hz1.symm)
  have HT2 : Hid (TT.ends T.kind T.lo T.hi T.args.length = z2) := Lib.hid (by rw [hT]; exact hz2.symm)
  clear hz1 hz2 hT
  have HND := Lib.hid hnd; clear hnd
  by_cases hk : k < 1
  · have d1 : decide (k < 1) = true := decide_eq_true hk
    have HK := Lib.hid hk; clear hk
    go_enter Try.func133, Try.ntmps133
    go_wp2_with fail
    go_ret
    exact ⟨ret_int (by rw [HND.out, if_pos (.inl HK.out)]), hB⟩
  · have d1 : decide (k < 1) = false := decide_eq_false hk
    by_cases hk2 : 11 < k
    · have d2 : decide (11 < k) = true := decide_eq_true hk2
      have HK := Lib.hid hk2; clear hk2 hk
      go_enter Try.func133, Try.ntmps133
      go_wp2_with fail
      go_ret
      exact ⟨ret_int (by rw [HND.out, if_pos (.inr HK.out)]), hB⟩
    · have d2 : decide (11 < k) = false := decide_eq_false hk2
      replace HND : Hid (nd = if z1 ≠ 0 then z1 else if z2 ≠ 0 then z2 else TT.argsW k vs.length ws.length l.length) := Lib.hid (by rw [HND.out, if_neg (by omega)])
      have HKR := Lib.hid (And.intro hk hk2)
      clear hk hk2
      go_enter Try.func133, Try.ntmps133
      go_wp2_with fail
      refine (rhas_any T _ _ HLN.out HTX.out).mono ?_
      rintro e w1 ⟨rfl, hb1⟩
      rw [HT1.out]
      replace q0 := cell_stays hb1 q0; replace q1 := cell_stays hb1 q1; replace q2 := cell_stays hb1 q2; replace q3 := cell_stays hb1 q3; replace q4 := cell_stays hb1 q4; replace q5 := cell_stays hb1 q5; replace q6 := cell_stays hb1 q6; replace q7 := cell_stays hb1 q7
      replace q8 := cell_stays hb1 q8; replace q9 := cell_stays hb1 q9; replace q10 := cell_stays hb1 q10; replace q11 := cell_stays hb1 q11; replace q12 := cell_stays hb1 q12; replace q13 := cell_stays hb1 q13; replace q14 := cell_stays hb1 q14
      replace HTX := Lib.hid (HTX.out.below hb1)
      replace hB := hB.trans (hb1.mono hB.size)
      clear hb1
      by_cases hz1 : z1 = 0
      · have zb1 : (z1 == 0) = true := by simp [hz1]
        replace HND : Hid (nd = if z2 ≠ 0 then z2 else TT.argsW k vs.length ws.length l.length) := Lib.hid (by rw [HND.out, if_neg (by simp [hz1])])
        clear hz1
        go_wp2_with fail
        refine (rends_any T _ _ HTX.out).mono ?_
        rintro e w2 ⟨rfl, hb2⟩
        rw [HT2.out]
        replace q0 := cell_stays hb2 q0; replace q1 := cell_stays hb2 q1; replace q2 := cell_stays hb2 q2; replace q3 := cell_stays hb2 q3; replace q4 := cell_stays hb2 q4; replace q5 := cell_stays hb2 q5; replace q6 := cell_stays hb2 q6; replace q7 := cell_stays hb2 q7
        replace q8 := cell_stays hb2 q8; replace q9 := cell_stays hb2 q9; replace q10 := cell_stays hb2 q10; replace q11 := cell_stays hb2 q11; replace q12 := cell_stays hb2 q12; replace q13 := cell_stays hb2 q13; replace q14 := cell_stays hb2 q14
        replace HTX := Lib.hid (HTX.out.below hb2)
        replace hB := hB.trans (hb2.mono hB.size)
        clear hb2
        by_cases hz2 : z2 = 0
        · have zb2 : (z2 == 0) = true := by simp [hz2]
          have zb3 : (z2 != 0) = false := by simp [hz2]
          replace HND : Hid (nd = TT.argsW k vs.length ws.length l.length) := Lib.hid (by rw [HND.out, if_neg (by simp [hz2])])
          clear hz2
          by_cases h4 : k = 4
          · have b3 : (k == 3) = false := by simp [h4]
            have b4 : (k == 4) = true := by simp [h4]
            have b5 : (k == 5) = false := by simp [h4]
            have b6 : (k == 6) = false := by simp [h4]
            have b7 : (k == 7) = false := by simp [h4]
            have b8 : (k == 8) = false := by simp [h4]
            have b9 : (k == 9) = false := by simp [h4]
            have b10 : (k == 10) = false := by simp [h4]
            have HK := Lib.hid h4; clear h4
            go_wp2_with fail
            refine (rmany_any _ _ _ _).mono ?_
            rintro e w9 ⟨rfl, rfl⟩
            obtain ⟨z3, hz3⟩ : ∃ z, z = many (vs.length : Int) ws.length ws.length := ⟨_, rfl⟩
            rw [← hz3]
            have HZ3 := Lib.hid hz3; clear hz3
            by_cases hz0 : z3 = 0
            · have zb4 : (z3 != 0) = false := by simp [hz0]
              replace HND : Hid (nd = many (l.length : Int) 0 0) := Lib.hid (by rw [HND.out, HK.out]; simp [TT.argsW, ← HZ3.out, hz0])
              clear hz0
              go_wp2_with fail
              refine (rmany_any _ _ _ _).mono ?_
              rintro e w10 ⟨rfl, rfl⟩
              go_wp2_with fail
              go_ret
              exact ⟨ret_int (by rw [HND.out]), hB⟩
            · have zb4 : (z3 != 0) = true := by simp [hz0]
              replace HND : Hid (nd = z3) := Lib.hid (by rw [HND.out, HK.out]; simp [TT.argsW, ← HZ3.out, hz0])
              clear hz0
              go_wp2_with fail
              go_ret
              exact ⟨ret_int (by rw [HND.out]), hB⟩
          · have b4 : (k == 4) = false := by simp [h4]
            have HK4 := Lib.hid h4; clear h4
            obtain ⟨bb, hbb⟩ : ∃ bb, bb = (k == 3) := ⟨_, rfl⟩
            rcases (by have := HKR.out; omega : k = 3 ∨ k = 5 ∨ k = 7 ∨ k = 8 ∨ k = 6 ∨ k = 9 ∨ k = 10 ∨ (k ≠ 3 ∧ k ≠ 5 ∧ k ≠ 7 ∧ k ≠ 8 ∧ k ≠ 6 ∧ k ≠ 9 ∧ k ≠ 10)) with h | h | h | h | h | h | h | h
            all_goals
              (try simp only [h] at hbb)
              have b3 : (k == 3) = decide (k = 3) := by rw [Bool.eq_iff_iff]; simp
              have b5 : (k == 5) = decide (k = 5) := by rw [Bool.eq_iff_iff]; simp
              have b7 : (k == 7) = decide (k = 7) := by rw [Bool.eq_iff_iff]; simp
              have b8 : (k == 8) = decide (k = 8) := by rw [Bool.eq_iff_iff]; simp
              have b6 : (k == 6) = decide (k = 6) := by rw [Bool.eq_iff_iff]; simp
              have b9 : (k == 9) = decide (k = 9) := by rw [Bool.eq_iff_iff]; simp
              have b10 : (k == 10) = decide (k = 10) := by rw [Bool.eq_iff_iff]; simp
              (first | rw [decide_eq_true (by omega)] at b3 | rw [decide_eq_false (by omega)] at b3)
              (first | rw [decide_eq_true (by omega)] at b5 | rw [decide_eq_false (by omega)] at b5)
              (first | rw [decide_eq_true (by omega)] at b7 | rw [decide_eq_false (by omega)] at b7)
              (first | rw [decide_eq_true (by omega)] at b8 | rw [decide_eq_false (by omega)] at b8)
              (first | rw [decide_eq_true (by omega)] at b6 | rw [decide_eq_false (by omega)] at b6)
              (first | rw [decide_eq_true (by omega)] at b9 | rw [decide_eq_false (by omega)] at b9)
              (first | rw [decide_eq_true (by omega)] at b10 | rw [decide_eq_false (by omega)] at b10)
              have HK := Lib.hid h
              clear h hbb
              go_wp2_with fail
              refine (rmany_any _ _ _ _).mono ?_
              rintro e w9 ⟨rfl, rfl⟩
              go_wp2_with fail
              go_ret
              exact ⟨ret_int (by rw [HND.out]; have hk := HK.out; have hk4 := HK4.out; simp [TT.argsW, hk, hk4]), hB⟩
        · have zb2 : (z2 == 0) = false := by simp [hz2]
          have zb3 : (z2 != 0) = true := by simp [hz2]
          replace HND : Hid (nd = z2) := Lib.hid (by rw [HND.out, if_pos hz2])
          clear hz2
          go_wp2_with fail
          go_ret
          exact ⟨ret_int (by rw [HND.out]), hB⟩
      · have zb1 : (z1 == 0) = false := by simp [hz1]
        have zb3 : (z1 != 0) = true := by simp [hz1]
        replace HND : Hid (nd = z1) := Lib.hid (by rw [HND.out, if_pos hz1])
        clear hz1
        go_wp2_with fail
        go_ret
        exact ⟨ret_int (by rw [HND.out]), hB⟩
end Go.Proofs.Yteebbffecaeciaa
