/- Texts of this claim laid into one: TRefJ, TSameI. -/
import Derived.Test.YtapofbdkofelkaaGreatM59
import Derived.Test.YtapofbdkofelkaaGreatM01
/- The document's Check and Sound. -/
namespace Go.Proofs.YtapofbdkofelkaaGreat
open Go.RowKit

set_option maxRecDepth 100000 in
set_option maxHeartbeats 8000000 in
theorem rtSound_any (t : TT) (x : Value) (w : World) (hcn : t.cnt ≤ 3000000) (hln : t.lean = true) (hx : TIn w t x) :
    Calls Tryz.prog 12 #[x] w fun e w' => e = .returned (.bool t.sound) ∧ Below w.heap.size w w' := by
  obtain ⟨A, rfl, hok⟩ := hx
  obtain ⟨w0, hw0, m0, s0, hc0, _⟩ := row1_new w t A
  have HX : Hid (BoxA w0 w.heap.size t A) := Lib.hid ⟨hc0, hok.below m0⟩
  have hBA := m0
  have hs : t.sound = (decide (0 < t.Bulk) && decide (t.Bulk ≤ 4096) && decide (t.High ≤ 128)) := rfl
  obtain ⟨b, hb⟩ : ∃ b, b = t.Bulk := ⟨_, rfl⟩
  obtain ⟨h, hh⟩ : ∃ h, h = t.High := ⟨_, rfl⟩
  rw [← hb, ← hh] at hs
  have HS := Lib.hid hs; have HB := Lib.hid hb.symm; have HH := Lib.hid hh.symm
  clear hs hb hh hok hc0 m0
  unfold TT.val
  go_enter Tryz.func12, Tryz.ntmps12
  go_wp2_with (refine wpList_load15 (by rfl) (by rfl) (by rfl) HX.out.1 ?_)
  refine (rtBulk_any t _ _ hcn hln HX.out.tin).mono ?_
  rintro e w1 ⟨rfl, hb1⟩
  rw [HB.out]
  replace HX := Lib.hid (HX.out.below hb1); replace hBA := hBA.trans (hb1.mono hBA.size)
  clear hb1
  by_cases h0 : 0 < b
  · have d0 : decide ((0 : Int) < b) = true := decide_eq_true (by omega)
    have e0 : decide (0 < b) = true := decide_eq_true h0
    have HS2 : Hid (t.sound = (decide (b ≤ 4096) && decide (h ≤ 128))) := Lib.hid (by rw [HS.out, e0, Bool.true_and])
    obtain ⟨q0, q1, q2, q3, q4, q5, q6, q7, q8, q9, q10, q11, q12, q13, q14⟩ := HX.out.1
    go_wp2_with fail
    refine (rtBulk_any t _ _ hcn hln HX.out.tin).mono ?_
    rintro e w2 ⟨rfl, hb2⟩
    rw [HB.out]
    clear q0 q1 q2 q3 q4 q5 q6 q7 q8 q9 q10 q11 q12 q13 q14
    replace HX := Lib.hid (HX.out.below hb2); replace hBA := hBA.trans (hb2.mono hBA.size)
    clear hb2
    by_cases h4 : b ≤ 4096
    · have d1 : decide ((b : Int) ≤ 4096) = true := decide_eq_true (by omega)
      have e1 : decide (b ≤ 4096) = true := decide_eq_true h4
      have HS3 : Hid (t.sound = decide (h ≤ 128)) := Lib.hid (by rw [HS2.out, e1, Bool.true_and])
      obtain ⟨q0, q1, q2, q3, q4, q5, q6, q7, q8, q9, q10, q11, q12, q13, q14⟩ := HX.out.1
      go_wp2_with fail
      refine (rtHigh_any t _ _ hcn hln HX.out.tin).mono ?_
      rintro e w3 ⟨rfl, hb3⟩
      rw [HH.out]
      clear q0 q1 q2 q3 q4 q5 q6 q7 q8 q9 q10 q11 q12 q13 q14
      replace hBA := hBA.trans (hb3.mono hBA.size)
      clear hb3
      by_cases h1 : h ≤ 128
      · have d2 : decide ((h : Int) ≤ 128) = true := decide_eq_true (by omega)
        have e2 : decide (h ≤ 128) = true := decide_eq_true h1
        have HE : Hid (t.sound = true) := Lib.hid (by rw [HS3.out, e2])
        clear h1
        go_wp2_with fail
        go_ret
        exact ⟨ret_bool (by rw [HE.out]), hBA⟩
      · have d2 : decide ((h : Int) ≤ 128) = false := decide_eq_false (by omega)
        have e2 : decide (h ≤ 128) = false := decide_eq_false h1
        have HE : Hid (t.sound = false) := Lib.hid (by rw [HS3.out, e2])
        clear h1
        go_wp2_with fail
        go_ret
        exact ⟨ret_bool (by rw [HE.out]), hBA⟩
    · have d1 : decide ((b : Int) ≤ 4096) = false := decide_eq_false (by omega)
      have e1 : decide (b ≤ 4096) = false := decide_eq_false h4
      go_wp2_with fail
      go_ret
      exact ⟨ret_bool (by rw [HS2.out, e1, Bool.false_and]), hBA⟩
  · have d0 : decide ((0 : Int) < b) = false := decide_eq_false (by omega)
    have e0 : decide (0 < b) = false := decide_eq_false h0
    go_wp2_with fail
    go_ret
    exact ⟨ret_bool (by rw [HS.out, e0]; simp), hBA⟩
set_option maxRecDepth 100000 in
set_option maxHeartbeats 8000000 in
theorem rtCheck_any (t : TT) (x : Value) (w : World) (hcn : t.cnt ≤ 3000000) (hln : t.lean = true) (hx : TIn w t x) :
    Calls Tryz.prog 7 #[x] w fun e w' => e = .returned (.tuple #[.int .i64 t.check.1, .int .i64 t.check.2]) ∧ Below w.heap.size w w' := by
  obtain ⟨A, rfl, hok⟩ := hx
  obtain ⟨w0, hw0, m0, s0, hc0, _⟩ := row1_new w t A
  have HX : Hid (BoxA w0 w.heap.size t A) := Lib.hid ⟨hc0, hok.below m0⟩
  have hBA := m0
  obtain ⟨z1, hz1⟩ : ∃ z, z = (t.chk 12 0 1 false).1 := ⟨_, rfl⟩
  obtain ⟨z2, hz2⟩ : ∃ z, z = (t.chk 12 0 1 false).2 := ⟨_, rfl⟩
  have HZ1 := Lib.hid hz1.symm; have HZ2 := Lib.hid hz2.symm
  clear hok hc0 m0 hz1 hz2
  unfold TT.val
  go_enter Tryz.func7, Tryz.ntmps7
  go_wp2_with (refine wpList_load15 (by rfl) (by rfl) (by rfl) HX.out.1 ?_)
  refine (rtchk_any 12 3000000 (by decide) t _ 0 1 false _ hcn hln (by omega) (by omega) (by omega) (by omega) HX.out.tin).mono ?_
  rintro e w1 ⟨rfl, hb1⟩
  rw [HZ1.out, HZ2.out]
  replace HX := Lib.hid (HX.out.below hb1); replace hBA := hBA.trans (hb1.mono hBA.size)
  clear hb1
  by_cases hz : z2 = 0
  · have hzb : (z2 != 0) = false := by simp [hz]
    have hsn : t.sane false = true := ((TT.chk_ok 12 t 0 1 false).1 (by rw [HZ2.out, hz])).1
    have HSN := Lib.hid hsn
    have HC : Hid (t.check = if 512 < t.nodes ∨ 4096 < t.bulk 0 then (0, 5) else if 128 < t.high 0 then (0, 9) else (0, 0)) := Lib.hid (by
      rw [TT.check, if_neg (by rw [HZ2.out, hz]; simp)])
    obtain ⟨n, hn⟩ : ∃ n, n = t.nodes := ⟨_, rfl⟩
    obtain ⟨b, hb⟩ : ∃ b, b = t.Bulk := ⟨_, rfl⟩
    have HN := Lib.hid hn.symm; have HB := Lib.hid hb.symm
    have HBB : Hid (4096 < b ↔ 4096 < t.bulk 0) := Lib.hid (by rw [hb, TT.Bulk, if_pos hsn]; omega)
    clear hz hsn hn hb
    go_wp2_with (refine wpList_load15 (by rfl) (by rfl) (by rfl) HX.out.1 ?_)
    refine (rtnodes_any 3000000 (by decide) t _ _ hcn hln HX.out.tin).mono ?_
    rintro e w2 ⟨rfl, hb2⟩
    rw [HN.out]
    replace HX := Lib.hid (HX.out.below hb2); replace hBA := hBA.trans (hb2.mono hBA.size)
    clear hb2
    by_cases h5 : 512 < n
    · have d0 : decide ((512 : Int) < n) = true := decide_eq_true (by omega)
      have HE : Hid (t.check = (0, 5)) := Lib.hid (by rw [HC.out, if_pos (.inl (by rw [HN.out]; exact h5))])
      clear h5
      go_wp2_with fail
      refine bodyPost_ret (v := .tuple #[.int .i64 0, .int .i64 5]) (by simp [results, Tryz.results7, go_sem]) rfl ⟨by rw [HE.out], hBA⟩
    · have d0 : decide ((512 : Int) < n) = false := decide_eq_false (by omega)
      have H5 := Lib.hid h5; clear h5
      obtain ⟨q0, q1, q2, q3, q4, q5, q6, q7, q8, q9, q10, q11, q12, q13, q14⟩ := HX.out.1
      go_wp2_with fail
      refine (rtBulk_any t _ _ hcn hln HX.out.tin).mono ?_
      rintro e w3 ⟨rfl, hb3⟩
      rw [HB.out]
      clear q0 q1 q2 q3 q4 q5 q6 q7 q8 q9 q10 q11 q12 q13 q14
      replace HX := Lib.hid (HX.out.below hb3); replace hBA := hBA.trans (hb3.mono hBA.size)
      clear hb3
      by_cases h4 : 4096 < b
      · have d1 : decide ((4096 : Int) < b) = true := decide_eq_true (by omega)
        have HE : Hid (t.check = (0, 5)) := Lib.hid (by rw [HC.out, if_pos (.inr (HBB.out.1 h4))])
        clear h4
        go_wp2_with fail
        refine bodyPost_ret (v := .tuple #[.int .i64 0, .int .i64 5]) (by simp [results, Tryz.results7, go_sem]) rfl ⟨by rw [HE.out], hBA⟩
      · have d1 : decide ((4096 : Int) < b) = false := decide_eq_false (by omega)
        have hle : t.bulk 0 ≤ 4096 := by have := HBB.out; omega
        have HC2 : Hid (t.check = if 128 < t.high 0 then (0, 9) else (0, 0)) := Lib.hid (by
          have := H5.out
          have hn : t.nodes = n := HN.out
          rw [HC.out, if_neg (by omega)])
        obtain ⟨h, hh⟩ : ∃ h, h = t.High := ⟨_, rfl⟩
        have HH := Lib.hid hh.symm
        have HHH : Hid (t.high 0 = h) := Lib.hid (by rw [hh, TT.High, HSN.out]; simp [hle])
        clear h4 hle hh
        go_wp2_with (refine wpList_load15 (by rfl) (by rfl) (by rfl) HX.out.1 ?_)
        refine (rtHigh_any t _ _ hcn hln HX.out.tin).mono ?_
        rintro e w4 ⟨rfl, hb4⟩
        rw [HH.out]
        replace hBA := hBA.trans (hb4.mono hBA.size)
        clear hb4
        by_cases h1 : 128 < h
        · have d2 : decide ((128 : Int) < h) = true := decide_eq_true (by omega)
          have HE : Hid (t.check = (0, 9)) := Lib.hid (by rw [HC2.out, if_pos (by rw [HHH.out]; exact h1)])
          clear h1
          go_wp2_with fail
          refine bodyPost_ret (v := .tuple #[.int .i64 0, .int .i64 9]) (by simp [results, Tryz.results7, go_sem]) rfl ⟨by rw [HE.out], hBA⟩
        · have d2 : decide ((128 : Int) < h) = false := decide_eq_false (by omega)
          have HE : Hid (t.check = (0, 0)) := Lib.hid (by rw [HC2.out, if_neg (by rw [HHH.out]; exact h1)])
          clear h1
          go_wp2_with fail
          refine bodyPost_ret (v := .tuple #[.int .i64 0, .int .i64 0]) (by simp [results, Tryz.results7, go_sem]) rfl ⟨by rw [HE.out], hBA⟩
  · have hzb : (z2 != 0) = true := by simpa using hz
    have HE : Hid (t.check = (z1, z2)) := Lib.hid (by rw [TT.check, if_pos (by rw [HZ2.out]; exact hz), ← HZ1.out, ← HZ2.out])
    clear hz
    go_wp2_with fail
    refine bodyPost_ret (v := .tuple #[.int .i64 z1, .int .i64 z2]) (by simp [results, Tryz.results7, go_sem]) rfl ⟨by rw [HE.out], hBA⟩
end Go.Proofs.YtapofbdkofelkaaGreat
/- What Same tells: it is one term. -/
namespace Go.Proofs.YtapofbdkofelkaaGreat
open Go.RowKit

mutual
theorem PT.same_iff : ∀ a b : PT, PT.same a b = true ↔ a = b
  | .mk k v n l, .mk k' v' n' l' => by
    rw [PT.same]
    simp only [Bool.and_eq_true, beq_iff_eq, VT.same_iff, PT.sameAll_iff l l', PT.mk.injEq]
    constructor
    · intro h; simp_all
    · intro h; simp_all
theorem PT.sameAll_iff : ∀ l m : List PT, PT.sameAll l m = true ↔ l = m
  | [], [] => by simp [PT.sameAll]
  | [], _ :: _ => by simp [PT.sameAll]
  | _ :: _, [] => by simp [PT.sameAll]
  | a :: l, b :: m => by rw [PT.sameAll]; simp [PT.same_iff a b, PT.sameAll_iff l m]
end
mutual
theorem TT.same_iff : ∀ a b : TT, TT.same a b = true ↔ a = b
  | .mk k v vs lo hi ws p l, .mk k' v' vs' lo' hi' ws' p' l' => by
    rw [TT.same]
    simp only [Bool.and_eq_true, beq_iff_eq, VT.same_iff, VT.sameAll_iff, PT.same_iff, TT.sameAll_iff l l', TT.mk.injEq]
    constructor
    · rintro ⟨⟨⟨⟨⟨⟨⟨h1, h2⟩, h3⟩, h4⟩, h5⟩, h6⟩, h7⟩, h8⟩
      exact ⟨h1, h4, h5, h2, h3, h6, h7, h8⟩
    · rintro ⟨h1, h4, h5, h2, h3, h6, h7, h8⟩
      exact ⟨⟨⟨⟨⟨⟨⟨h1, h2⟩, h3⟩, h4⟩, h5⟩, h6⟩, h7⟩, h8⟩
theorem TT.sameAll_iff : ∀ l m : List TT, TT.sameAll l m = true ↔ l = m
  | [], [] => by simp [TT.sameAll]
  | [], _ :: _ => by simp [TT.sameAll]
  | _ :: _, [] => by simp [TT.sameAll]
  | a :: l, b :: m => by rw [TT.sameAll]; simp [TT.same_iff a b, TT.sameAll_iff l m]
end
theorem TT.same_refl (a : TT) : TT.same a a = true := (TT.same_iff a a).2 rfl
end Go.Proofs.YtapofbdkofelkaaGreat
