/- tombolaref17.holds: the first kinds. -/
import Derived.Test.YtclmnpfdnhfbmaaPWalkF
import Derived.Test.YtclmnpfdnhfbmaaPFacts
import Derived.Test.YtclmnpfdnhfbmaaVRefC
import Derived.Test.YtclmnpfdnhfbmaaVWalkD
namespace Go.Proofs.Ytclmnpfdnhfbmaa
open Go.RowKit


/-- the document's holds, of predicates of so many nodes. -/
def RHolds (N : Nat) : Prop := ∀ (t : PT) (X : VT) (x y : Value) (w : World), t.cnt ≤ N → t.fit = true → PIn w t x → VIn w X y →
    Calls Try.prog 54 #[x, y] w fun e w' => e = .returned (.bool (t.holds X)) ∧ Below w.heap.size w w'
set_option maxRecDepth 100000 in
set_option maxHeartbeats 4000000 in
theorem rh1 (N : Nat) (ih : RHolds N) (v : VT) (n : Int) (l : List PT) (X : VT) (x y : Value) (w : World) (hs : (PT.mk 1 v n l).cnt ≤ N + 1) (hfit : PT.fit (.mk 1 v n l) = true) (hx : PIn w (.mk 1 v n l) x) (hy : VIn w X y) :
    Calls Try.prog 54 #[x, y] w fun e w' => e = .returned (.bool (PT.holds (.mk 1 v n l) X)) ∧ Below w.heap.size w w' := by
  obtain ⟨xk, xn, xl⟩ := X
  obtain ⟨va, vc, a, cap, hlen, hvl, rfl, hv, hr⟩ := hx.open
  obtain ⟨xa, xc, hxl, rfl, hxr⟩ := hy.open
  have IH := Lib.hid ih; clear ih
  rw [PT.cnt] at hs
  rw [PT.fit] at hfit
  simp only [Bool.and_eq_true, Bool.or_eq_true, decide_eq_true_eq] at hfit
  obtain ⟨⟨⟨⟨hk1, hk2⟩, hn0⟩, hlst⟩, hfits⟩ := hfit
  obtain ⟨w0, hw0, m0, s0, q0, q1, q2, q3, q4, q5⟩ := box6 w (.int .u8 1) (.int .u8 v.kind) (.int .i64 v.num) (.slice va v.items.length vc) (.int .i64 n) (.slice a l.length cap) 27
  obtain ⟨w1, hw1, m1, s1, p0, p1, p2, _⟩ := box3 w0 (.int .u8 xk) (.int .i64 xn) (.slice xa xl.length xc) 24
  have q0 := cell_stays m1 q0
  have q1 := cell_stays m1 q1
  have q2 := cell_stays m1 q2
  have q3 := cell_stays m1 q3
  have q4 := cell_stays m1 q4
  have q5 := cell_stays m1 q5
  have hB0 : Below w.heap.size w w1 := m0.trans (m1.mono m0.size)
  have hv1 := hv.below hB0
  have hr1 := hr.below hB0
  have hy1 := hy.below hB0
  have hxr1 := hxr.below hB0
  clear hx hv hr hy hxr m0 m1
  have HFT := Lib.hid hfits; clear hfits
  have hcs : ∀ i (h : i < l.length), l[i].cnt ≤ N := fun i h => by have := PT.cnts_get h; omega
  have HCS := Lib.hid hcs; clear hcs
  rw [PT.holds1]
  go_enter Try.func54, Try.ntmps54
  go_wp2_with fail
  go_ret
  exact ⟨rfl, hB0⟩
set_option maxRecDepth 100000 in
set_option maxHeartbeats 4000000 in
theorem rh2 (N : Nat) (ih : RHolds N) (v : VT) (n : Int) (l : List PT) (X : VT) (x y : Value) (w : World) (hs : (PT.mk 2 v n l).cnt ≤ N + 1) (hfit : PT.fit (.mk 2 v n l) = true) (hx : PIn w (.mk 2 v n l) x) (hy : VIn w X y) :
    Calls Try.prog 54 #[x, y] w fun e w' => e = .returned (.bool (PT.holds (.mk 2 v n l) X)) ∧ Below w.heap.size w w' := by
  obtain ⟨xk, xn, xl⟩ := X
  obtain ⟨va, vc, a, cap, hlen, hvl, rfl, hv, hr⟩ := hx.open
  obtain ⟨xa, xc, hxl, rfl, hxr⟩ := hy.open
  have IH := Lib.hid ih; clear ih
  rw [PT.cnt] at hs
  rw [PT.fit] at hfit
  simp only [Bool.and_eq_true, Bool.or_eq_true, decide_eq_true_eq] at hfit
  obtain ⟨⟨⟨⟨hk1, hk2⟩, hn0⟩, hlst⟩, hfits⟩ := hfit
  obtain ⟨w0, hw0, m0, s0, q0, q1, q2, q3, q4, q5⟩ := box6 w (.int .u8 2) (.int .u8 v.kind) (.int .i64 v.num) (.slice va v.items.length vc) (.int .i64 n) (.slice a l.length cap) 27
  obtain ⟨w1, hw1, m1, s1, p0, p1, p2, _⟩ := box3 w0 (.int .u8 xk) (.int .i64 xn) (.slice xa xl.length xc) 24
  have q0 := cell_stays m1 q0
  have q1 := cell_stays m1 q1
  have q2 := cell_stays m1 q2
  have q3 := cell_stays m1 q3
  have q4 := cell_stays m1 q4
  have q5 := cell_stays m1 q5
  have hB0 : Below w.heap.size w w1 := m0.trans (m1.mono m0.size)
  have hv1 := hv.below hB0
  have hr1 := hr.below hB0
  have hy1 := hy.below hB0
  have hxr1 := hxr.below hB0
  clear hx hv hr hy hxr m0 m1
  have HFT := Lib.hid hfits; clear hfits
  have hcs : ∀ i (h : i < l.length), l[i].cnt ≤ N := fun i h => by have := PT.cnts_get h; omega
  have HCS := Lib.hid hcs; clear hcs
  rw [PT.holds2]
  go_enter Try.func54, Try.ntmps54
  go_wp2_with fail
  go_ret
  exact ⟨rfl, hB0⟩
set_option maxRecDepth 100000 in
set_option maxHeartbeats 4000000 in
theorem rh3 (N : Nat) (ih : RHolds N) (v : VT) (n : Int) (l : List PT) (X : VT) (x y : Value) (w : World) (hs : (PT.mk 3 v n l).cnt ≤ N + 1) (hfit : PT.fit (.mk 3 v n l) = true) (hx : PIn w (.mk 3 v n l) x) (hy : VIn w X y) :
    Calls Try.prog 54 #[x, y] w fun e w' => e = .returned (.bool (PT.holds (.mk 3 v n l) X)) ∧ Below w.heap.size w w' := by
  obtain ⟨xk, xn, xl⟩ := X
  obtain ⟨va, vc, a, cap, hlen, hvl, rfl, hv, hr⟩ := hx.open
  obtain ⟨xa, xc, hxl, rfl, hxr⟩ := hy.open
  have IH := Lib.hid ih; clear ih
  rw [PT.cnt] at hs
  rw [PT.fit] at hfit
  simp only [Bool.and_eq_true, Bool.or_eq_true, decide_eq_true_eq] at hfit
  obtain ⟨⟨⟨⟨hk1, hk2⟩, hn0⟩, hlst⟩, hfits⟩ := hfit
  obtain ⟨w0, hw0, m0, s0, q0, q1, q2, q3, q4, q5⟩ := box6 w (.int .u8 3) (.int .u8 v.kind) (.int .i64 v.num) (.slice va v.items.length vc) (.int .i64 n) (.slice a l.length cap) 27
  obtain ⟨w1, hw1, m1, s1, p0, p1, p2, _⟩ := box3 w0 (.int .u8 xk) (.int .i64 xn) (.slice xa xl.length xc) 24
  have q0 := cell_stays m1 q0
  have q1 := cell_stays m1 q1
  have q2 := cell_stays m1 q2
  have q3 := cell_stays m1 q3
  have q4 := cell_stays m1 q4
  have q5 := cell_stays m1 q5
  have hB0 : Below w.heap.size w w1 := m0.trans (m1.mono m0.size)
  have hv1 := hv.below hB0
  have hr1 := hr.below hB0
  have hy1 := hy.below hB0
  have hxr1 := hxr.below hB0
  clear hx hv hr hy hxr m0 m1
  have HFT := Lib.hid hfits; clear hfits
  have hcs : ∀ i (h : i < l.length), l[i].cnt ≤ N := fun i h => by have := PT.cnts_get h; omega
  have HCS := Lib.hid hcs; clear hcs
  rw [PT.holds3]
  go_enter Try.func54, Try.ntmps54
  go_wp2_with fail
  refine (rsame_any _ _ _ _ _ _ (Nat.le_refl _) hy1 hv1).mono ?_
  rintro e w2 ⟨rfl, hb2⟩
  go_wp2_with fail
  go_ret
  exact ⟨rfl, hB0.trans (hb2.mono hB0.size)⟩
set_option maxRecDepth 100000 in
set_option maxHeartbeats 4000000 in
theorem rh4 (N : Nat) (ih : RHolds N) (v : VT) (n : Int) (l : List PT) (X : VT) (x y : Value) (w : World) (hs : (PT.mk 4 v n l).cnt ≤ N + 1) (hfit : PT.fit (.mk 4 v n l) = true) (hx : PIn w (.mk 4 v n l) x) (hy : VIn w X y) :
    Calls Try.prog 54 #[x, y] w fun e w' => e = .returned (.bool (PT.holds (.mk 4 v n l) X)) ∧ Below w.heap.size w w' := by
  obtain ⟨xk, xn, xl⟩ := X
  obtain ⟨va, vc, a, cap, hlen, hvl, rfl, hv, hr⟩ := hx.open
  obtain ⟨xa, xc, hxl, rfl, hxr⟩ := hy.open
  have IH := Lib.hid ih; clear ih
  rw [PT.cnt] at hs
  rw [PT.fit] at hfit
  simp only [Bool.and_eq_true, Bool.or_eq_true, decide_eq_true_eq] at hfit
  obtain ⟨⟨⟨⟨hk1, hk2⟩, hn0⟩, hlst⟩, hfits⟩ := hfit
  obtain ⟨w0, hw0, m0, s0, q0, q1, q2, q3, q4, q5⟩ := box6 w (.int .u8 4) (.int .u8 v.kind) (.int .i64 v.num) (.slice va v.items.length vc) (.int .i64 n) (.slice a l.length cap) 27
  obtain ⟨w1, hw1, m1, s1, p0, p1, p2, _⟩ := box3 w0 (.int .u8 xk) (.int .i64 xn) (.slice xa xl.length xc) 24
  have q0 := cell_stays m1 q0
  have q1 := cell_stays m1 q1
  have q2 := cell_stays m1 q2
  have q3 := cell_stays m1 q3
  have q4 := cell_stays m1 q4
  have q5 := cell_stays m1 q5
  have hB0 : Below w.heap.size w w1 := m0.trans (m1.mono m0.size)
  have hv1 := hv.below hB0
  have hr1 := hr.below hB0
  have hy1 := hy.below hB0
  have hxr1 := hxr.below hB0
  clear hx hv hr hy hxr m0 m1
  have HFT := Lib.hid hfits; clear hfits
  have hcs : ∀ i (h : i < l.length), l[i].cnt ≤ N := fun i h => by have := PT.cnts_get h; omega
  have HCS := Lib.hid hcs; clear hcs
  rw [PT.holds4]
  obtain ⟨c, hc⟩ : ∃ c, c = VT.cmp (.mk xk xn xl) v := ⟨_, rfl⟩
  rw [← hc]
  have HC := Lib.hid hc; clear hc
  go_enter Try.func54, Try.ntmps54
  go_wp2_with fail
  refine (rcmp_any _ _ _ _ _ _ (Nat.le_refl _) hy1 hv1).mono ?_
  rintro e w2 ⟨rfl, hb2⟩
  rw [← HC.out]
  go_wp2_with fail
  go_ret
  exact ⟨rfl, hB0.trans (hb2.mono hB0.size)⟩
set_option maxRecDepth 100000 in
set_option maxHeartbeats 4000000 in
theorem rh5 (N : Nat) (ih : RHolds N) (v : VT) (n : Int) (l : List PT) (X : VT) (x y : Value) (w : World) (hs : (PT.mk 5 v n l).cnt ≤ N + 1) (hfit : PT.fit (.mk 5 v n l) = true) (hx : PIn w (.mk 5 v n l) x) (hy : VIn w X y) :
    Calls Try.prog 54 #[x, y] w fun e w' => e = .returned (.bool (PT.holds (.mk 5 v n l) X)) ∧ Below w.heap.size w w' := by
  obtain ⟨xk, xn, xl⟩ := X
  obtain ⟨va, vc, a, cap, hlen, hvl, rfl, hv, hr⟩ := hx.open
  obtain ⟨xa, xc, hxl, rfl, hxr⟩ := hy.open
  have IH := Lib.hid ih; clear ih
  rw [PT.cnt] at hs
  rw [PT.fit] at hfit
  simp only [Bool.and_eq_true, Bool.or_eq_true, decide_eq_true_eq] at hfit
  obtain ⟨⟨⟨⟨hk1, hk2⟩, hn0⟩, hlst⟩, hfits⟩ := hfit
  obtain ⟨w0, hw0, m0, s0, q0, q1, q2, q3, q4, q5⟩ := box6 w (.int .u8 5) (.int .u8 v.kind) (.int .i64 v.num) (.slice va v.items.length vc) (.int .i64 n) (.slice a l.length cap) 27
  obtain ⟨w1, hw1, m1, s1, p0, p1, p2, _⟩ := box3 w0 (.int .u8 xk) (.int .i64 xn) (.slice xa xl.length xc) 24
  have q0 := cell_stays m1 q0
  have q1 := cell_stays m1 q1
  have q2 := cell_stays m1 q2
  have q3 := cell_stays m1 q3
  have q4 := cell_stays m1 q4
  have q5 := cell_stays m1 q5
  have hB0 : Below w.heap.size w w1 := m0.trans (m1.mono m0.size)
  have hv1 := hv.below hB0
  have hr1 := hr.below hB0
  have hy1 := hy.below hB0
  have hxr1 := hxr.below hB0
  clear hx hv hr hy hxr m0 m1
  have HFT := Lib.hid hfits; clear hfits
  have hcs : ∀ i (h : i < l.length), l[i].cnt ≤ N := fun i h => by have := PT.cnts_get h; omega
  have HCS := Lib.hid hcs; clear hcs
  have hl0 : 0 < l.length := by have : PT.least 5 = 1 := by decide
                                omega
  rw [PT.holds5, PT.fst_eq hl0]
  obtain ⟨b, o, rfl, ax, ac, a', cap', d0, d1, d2, d3, d4, d5, hx⟩ := hr1.got 0 hl0
  simp only [Nat.zero_mul, Nat.add_zero] at d0 d1 d2 d3 d4 d5
  go_enter Try.func54, Try.ntmps54
  go_wp2_with fail
  refine region_tail 5 (by kernel_rfl) (by kernel_rfl) ?_
  simp only [List.take_succ_cons, List.take_zero, List.drop_succ_cons, List.drop_zero]
  repeat still_step
  refine wpStill_nil ?_
  go_wp2_with fail
  refine (IH.out _ _ _ _ _ (HCS.out 0 hl0) (PT.fits_get HFT.out hl0) (hx.below (Below.refl _ _).drew) (hy1.below (Below.refl _ _).drew)).mono ?_
  rintro e w2 ⟨rfl, hb2⟩
  go_wp2_with fail
  go_ret
  exact ⟨rfl, hB0.trans (((Below.refl _ _).drew.trans hb2).mono hB0.size)⟩
set_option maxRecDepth 100000 in
set_option maxHeartbeats 4000000 in
theorem rh6 (N : Nat) (ih : RHolds N) (v : VT) (n : Int) (l : List PT) (X : VT) (x y : Value) (w : World) (hs : (PT.mk 6 v n l).cnt ≤ N + 1) (hfit : PT.fit (.mk 6 v n l) = true) (hx : PIn w (.mk 6 v n l) x) (hy : VIn w X y) :
    Calls Try.prog 54 #[x, y] w fun e w' => e = .returned (.bool (PT.holds (.mk 6 v n l) X)) ∧ Below w.heap.size w w' := by
  obtain ⟨xk, xn, xl⟩ := X
  obtain ⟨va, vc, a, cap, hlen, hvl, rfl, hv, hr⟩ := hx.open
  obtain ⟨xa, xc, hxl, rfl, hxr⟩ := hy.open
  have IH := Lib.hid ih; clear ih
  rw [PT.cnt] at hs
  rw [PT.fit] at hfit
  simp only [Bool.and_eq_true, Bool.or_eq_true, decide_eq_true_eq] at hfit
  obtain ⟨⟨⟨⟨hk1, hk2⟩, hn0⟩, hlst⟩, hfits⟩ := hfit
  obtain ⟨w0, hw0, m0, s0, q0, q1, q2, q3, q4, q5⟩ := box6 w (.int .u8 6) (.int .u8 v.kind) (.int .i64 v.num) (.slice va v.items.length vc) (.int .i64 n) (.slice a l.length cap) 27
  obtain ⟨w1, hw1, m1, s1, p0, p1, p2, _⟩ := box3 w0 (.int .u8 xk) (.int .i64 xn) (.slice xa xl.length xc) 24
  have q0 := cell_stays m1 q0
  have q1 := cell_stays m1 q1
  have q2 := cell_stays m1 q2
  have q3 := cell_stays m1 q3
  have q4 := cell_stays m1 q4
  have q5 := cell_stays m1 q5
  have hB0 : Below w.heap.size w w1 := m0.trans (m1.mono m0.size)
  have hv1 := hv.below hB0
  have hr1 := hr.below hB0
  have hy1 := hy.below hB0
  have hxr1 := hxr.below hB0
  clear hx hv hr hy hxr m0 m1
  have HFT := Lib.hid hfits; clear hfits
  have hcs : ∀ i (h : i < l.length), l[i].cnt ≤ N := fun i h => by have := PT.cnts_get h; omega
  have HCS := Lib.hid hcs; clear hcs
  rw [PT.holds6]
  go_enter Try.func54, Try.ntmps54
  go_wp2_with fail
  go_loopw [5] (fun x wr => ∃ i : Nat, x = .int .i64 i ∧ i ≤ l.length ∧ PT.every l (.mk xk xn xl) = PT.every (l.drop i) (.mk xk xn xl) ∧ Below w1.heap.size w1 wr) (fun x _ => l.length - (intOf x).toNat)
  case atStart => exact ⟨0, rfl, by omega, by simp, Below.refl _ _⟩
  case round =>
    obtain ⟨i, rfl, hi, he, hB⟩ := hrel
    have HE := Lib.hid he; clear he
    have f5 := cell_stays hB q5
    have f6 := cell_stays hB p0
    have f7 := cell_stays hB p1
    have f8 := cell_stays hB p2
    by_cases hlt : i < l.length
    · obtain ⟨b, o, rfl, ax, ac, a', cap', d0, d1, d2, d3, d4, d5, hx⟩ := (hr1.below hB).got i hlt
      have hy := hy1.below hB
      have hd := PT.every_drop hlt (.mk xk xn xl)
      obtain ⟨z, hz⟩ : ∃ z, z = l[i].holds (.mk xk xn xl) := ⟨_, rfl⟩
      rw [← hz] at hd
      have HD := Lib.hid hd; have HZ := Lib.hid hz; clear hd hz
      go_wp2_with fail
      refine region_tail 6 (by kernel_rfl) (by kernel_rfl) ?_
      simp only [List.take_succ_cons, List.take_zero, List.drop_succ_cons, List.drop_zero]
      repeat still_step
      refine wpStill_nil ?_
      go_wp2_with fail
      refine (IH.out _ _ _ _ _ (HCS.out i hlt) (PT.fits_get HFT.out hlt) (hx.below (Below.refl _ _).drew) (hy.below (Below.refl _ _).drew)).mono ?_
      rintro e w2 ⟨rfl, hb2⟩
      rw [← HZ.out]
      have hB2 := hB.trans (((Below.refl _ _).drew.trans hb2).mono hB.size)
      clear hB hb2 d0 d1 d2 d3 d4 d5 hx hy f5 f6 f7 f8
      cases z
      · go_wp2_with fail
        go_ret
        exact ⟨ret_bool (by rw [HE.out, HD.out]; rfl), hB0.trans (hB2.mono hB0.size)⟩
      · go_wp2_with fail
        go_roundw
        case rel => exact ⟨i + 1, by go_num, by omega, by rw [HE.out, HD.out]; rfl, hB2⟩
        case measure => simp [intOf]; omega
    · go_wp2_with fail
      go_ret
      exact ⟨ret_bool (by rw [HE.out, drop_nil hlt, PT.every]), hB0.trans (hB.mono hB0.size)⟩
set_option maxRecDepth 100000 in
set_option maxHeartbeats 4000000 in
theorem rh7 (N : Nat) (ih : RHolds N) (v : VT) (n : Int) (l : List PT) (X : VT) (x y : Value) (w : World) (hs : (PT.mk 7 v n l).cnt ≤ N + 1) (hfit : PT.fit (.mk 7 v n l) = true) (hx : PIn w (.mk 7 v n l) x) (hy : VIn w X y) :
    Calls Try.prog 54 #[x, y] w fun e w' => e = .returned (.bool (PT.holds (.mk 7 v n l) X)) ∧ Below w.heap.size w w' := by
  obtain ⟨xk, xn, xl⟩ := X
  obtain ⟨va, vc, a, cap, hlen, hvl, rfl, hv, hr⟩ := hx.open
  obtain ⟨xa, xc, hxl, rfl, hxr⟩ := hy.open
  have IH := Lib.hid ih; clear ih
  rw [PT.cnt] at hs
  rw [PT.fit] at hfit
  simp only [Bool.and_eq_true, Bool.or_eq_true, decide_eq_true_eq] at hfit
  obtain ⟨⟨⟨⟨hk1, hk2⟩, hn0⟩, hlst⟩, hfits⟩ := hfit
  obtain ⟨w0, hw0, m0, s0, q0, q1, q2, q3, q4, q5⟩ := box6 w (.int .u8 7) (.int .u8 v.kind) (.int .i64 v.num) (.slice va v.items.length vc) (.int .i64 n) (.slice a l.length cap) 27
  obtain ⟨w1, hw1, m1, s1, p0, p1, p2, _⟩ := box3 w0 (.int .u8 xk) (.int .i64 xn) (.slice xa xl.length xc) 24
  have q0 := cell_stays m1 q0
  have q1 := cell_stays m1 q1
  have q2 := cell_stays m1 q2
  have q3 := cell_stays m1 q3
  have q4 := cell_stays m1 q4
  have q5 := cell_stays m1 q5
  have hB0 : Below w.heap.size w w1 := m0.trans (m1.mono m0.size)
  have hv1 := hv.below hB0
  have hr1 := hr.below hB0
  have hy1 := hy.below hB0
  have hxr1 := hxr.below hB0
  clear hx hv hr hy hxr m0 m1
  have HFT := Lib.hid hfits; clear hfits
  have hcs : ∀ i (h : i < l.length), l[i].cnt ≤ N := fun i h => by have := PT.cnts_get h; omega
  have HCS := Lib.hid hcs; clear hcs
  rw [PT.holds7]
  go_enter Try.func54, Try.ntmps54
  go_wp2_with fail
  go_loopw [6] (fun x wr => ∃ i : Nat, x = .int .i64 i ∧ i ≤ l.length ∧ PT.some l (.mk xk xn xl) = PT.some (l.drop i) (.mk xk xn xl) ∧ Below w1.heap.size w1 wr) (fun x _ => l.length - (intOf x).toNat)
  case atStart => exact ⟨0, rfl, by omega, by simp, Below.refl _ _⟩
  case round =>
    obtain ⟨i, rfl, hi, he, hB⟩ := hrel
    have HE := Lib.hid he; clear he
    have f5 := cell_stays hB q5
    have f6 := cell_stays hB p0
    have f7 := cell_stays hB p1
    have f8 := cell_stays hB p2
    by_cases hlt : i < l.length
    · obtain ⟨b, o, rfl, ax, ac, a', cap', d0, d1, d2, d3, d4, d5, hx⟩ := (hr1.below hB).got i hlt
      have hy := hy1.below hB
      have hd := PT.some_drop hlt (.mk xk xn xl)
      obtain ⟨z, hz⟩ : ∃ z, z = l[i].holds (.mk xk xn xl) := ⟨_, rfl⟩
      rw [← hz] at hd
      have HD := Lib.hid hd; have HZ := Lib.hid hz; clear hd hz
      go_wp2_with fail
      refine region_tail 6 (by kernel_rfl) (by kernel_rfl) ?_
      simp only [List.take_succ_cons, List.take_zero, List.drop_succ_cons, List.drop_zero]
      repeat still_step
      refine wpStill_nil ?_
      go_wp2_with fail
      refine (IH.out _ _ _ _ _ (HCS.out i hlt) (PT.fits_get HFT.out hlt) (hx.below (Below.refl _ _).drew) (hy.below (Below.refl _ _).drew)).mono ?_
      rintro e w2 ⟨rfl, hb2⟩
      rw [← HZ.out]
      have hB2 := hB.trans (((Below.refl _ _).drew.trans hb2).mono hB.size)
      clear hB hb2 d0 d1 d2 d3 d4 d5 hx hy f5 f6 f7 f8
      cases z
      · go_wp2_with fail
        go_roundw
        case rel => exact ⟨i + 1, by go_num, by omega, by rw [HE.out, HD.out]; rfl, hB2⟩
        case measure => simp [intOf]; omega
      · go_wp2_with fail
        go_ret
        exact ⟨ret_bool (by rw [HE.out, HD.out]; rfl), hB0.trans (hB2.mono hB0.size)⟩
    · go_wp2_with fail
      go_ret
      exact ⟨ret_bool (by rw [HE.out, drop_nil hlt, PT.some]), hB0.trans (hB.mono hB0.size)⟩
end Go.Proofs.Ytclmnpfdnhfbmaa
