/- tombolaref17.holds: All, Any. -/
import Derived.Test.YtclmnpfdnhfbmaaPRefHA
namespace Go.Proofs.Ytclmnpfdnhfbmaa
open Go.RowKit


set_option maxRecDepth 100000 in
set_option maxHeartbeats 4000000 in
theorem rh9row (N : Nat) (ih : RHolds N) (v : VT) (n : Int) (l : List PT) (xk xn : Int) (xl : List VT) (hrow : xk = 3 ∨ xk = 4) (x y : Value) (w : World) (hs : (PT.mk 9 v n l).cnt ≤ N + 1) (hfit : PT.fit (.mk 9 v n l) = true) (hx : PIn w (.mk 9 v n l) x) (hy : VIn w (.mk xk xn xl) y) :
    Calls Try.prog 54 #[x, y] w fun e w' => e = .returned (.bool (PT.holds (.mk 9 v n l) (.mk xk xn xl))) ∧ Below w.heap.size w w' := by
  obtain ⟨va, vc, a, cap, hlen, hvl, rfl, hv, hr⟩ := hx.open
  obtain ⟨xa, xc, hxl, rfl, hxr⟩ := hy.open
  have IH := Lib.hid ih; clear ih
  rw [PT.cnt] at hs
  rw [PT.fit] at hfit
  simp only [Bool.and_eq_true, Bool.or_eq_true, decide_eq_true_eq] at hfit
  obtain ⟨⟨⟨⟨hk1, hk2⟩, hn0⟩, hlst⟩, hfits⟩ := hfit
  obtain ⟨w0, hw0, m0, s0, q0, q1, q2, q3, q4, q5⟩ := box6 w (.int .u8 9) (.int .u8 v.kind) (.int .i64 v.num) (.slice va v.items.length vc) (.int .i64 n) (.slice a l.length cap) 27
  obtain ⟨w1, hw1, m1, s1, p0, p1, p2, _⟩ := box3 w0 (.int .u8 xk) (.int .i64 xn) (.slice xa xl.length xc) 24
  have q0 := cell_stays m1 q0
  have q1 := cell_stays m1 q1
  have q2 := cell_stays m1 q2
  have q3 := cell_stays m1 q3
  have q4 := cell_stays m1 q4
  have q5 := cell_stays m1 q5
  have hB0 : Below w.heap.size w w1 := m0.trans (m1.mono m0.size)
  have hv1 := hv.below hB0
  have hr1 := hr.below hB0
  have hy1 := hy.below hB0
  have hxr1 := hxr.below hB0
  clear hx hv hr hy hxr m0 m1
  have HFT := Lib.hid hfits; clear hfits
  have hcs : ∀ i (h : i < l.length), l[i].cnt ≤ N := fun i h => by have := PT.cnts_get h; omega
  have HCS := Lib.hid hcs; clear hcs
  have hl0 : 0 < l.length := by
    have : PT.least 9 = 1 := by decide
    omega
  have hrd : decide (xk = 3 ∨ xk = 4) = true := by simpa using hrow
  have hXk : (VT.mk xk xn xl).kind = 3 ∨ (VT.mk xk xn xl).kind = 4 := hrow
  have HRD := Lib.hid hrd; have HXK := Lib.hid hXk; clear hrow hrd hXk
  rw [PT.holds9 v n l _ HXK.out]
  have hf : (fun i => PT.fst l i) = fun i => l[0].holds i := funext (PT.fst_eq hl0)
  rw [hf]
  clear hf
  show Calls _ _ _ _ (fun e w' => e = .returned (.bool (xl.all fun i => l[0].holds i)) ∧ _)
  obtain ⟨f, hf⟩ : ∃ f : VT → Bool, f = fun i => l[0].holds i := ⟨_, rfl⟩
  rw [← hf]
  have hfx : ∀ i, l[0].holds i = f i := fun i => by rw [hf]
  have HFX := Lib.hid hfx; clear hf hfx
  obtain ⟨b, o, rfl, ax, ac, a', cap', d0, d1, d2, d3, d4, d5, hx⟩ := hr1.got 0 hl0
  simp only [Nat.zero_mul, Nat.add_zero] at d0 d1 d2 d3 d4 d5
  go_enter Try.func54, Try.ntmps54
  go_wp2_with fail
  refine (rrow_any _ _ _ _ _ _).mono ?_
  rintro e w2 ⟨rfl, hb2⟩
  rw [HRD.out]
  have g0 := cell_stays hb2 q0
  have g4 := cell_stays hb2 q4
  have g5 := cell_stays hb2 q5
  have h0 := cell_stays hb2 p0
  have h1 := cell_stays hb2 p1
  have h2 := cell_stays hb2 p2
  have d0 := cell_stays hb2 d0
  have d1 := cell_stays hb2 d1
  have d2 := cell_stays hb2 d2
  have d3 := cell_stays hb2 d3
  have d4 := cell_stays hb2 d4
  have d5 := cell_stays hb2 d5
  clear q0 q1 q2 q3 q4 q5 p0 p1 p2
  go_wp2_with fail
  have hx := hx.below hb2
  have hxr1 := hxr1.below hb2
  go_loopw [7, 8, 9] (fun x y z wr => ∃ (bs be : Bool) (i : Nat), x = .bool bs ∧ y = .bool be ∧ z = .int .i64 i ∧ i ≤ xl.length ∧ bs = (xl.take i).any f ∧ be = (xl.take i).all f ∧ Below w2.heap.size w2 wr) (fun _ _ z _ => xl.length - (intOf z).toNat)
  case atStart => exact ⟨false, true, 0, rfl, rfl, rfl, by omega, by simp, by simp, Below.refl _ _⟩
  case round =>
    obtain ⟨bs, be, i, rfl, rfl, rfl, hi, hbs, hbe, hB⟩ := hrel
    have HBS := Lib.hid hbs; have HBE := Lib.hid hbe; clear hbs hbe
    have f0 := cell_stays hB g0
    have f5 := cell_stays hB g5
    have f8 := cell_stays hB h2
    have D0 := cell_stays hB d0
    have D1 := cell_stays hB d1
    have D2 := cell_stays hB d2
    have D3 := cell_stays hB d3
    have D4 := cell_stays hB d4
    have D5 := cell_stays hB d5
    by_cases hlt : i < xl.length
    · obtain ⟨b', o', rfl, ay, cy, e0, e1, e2, hy⟩ := (hxr1.below hB).got i hlt
      have hs1 := any_upto (f := f) hlt
      have ha1 := all_upto (f := f) hlt
      obtain ⟨z, hz⟩ : ∃ z, z = f xl[i] := ⟨_, rfl⟩
      rw [← hz] at hs1 ha1
      have hz' := (HFX.out xl[i]).trans hz.symm
      have HS1 := Lib.hid hs1; have HA1 := Lib.hid ha1; have HZ := Lib.hid hz'; clear hs1 ha1 hz hz'
      go_wp2_with fail
      refine region_tail 9 (by kernel_rfl) (by kernel_rfl) ?_
      simp only [List.take_succ_cons, List.take_zero, List.drop_succ_cons, List.drop_zero]
      repeat still_step
      refine wpStill_nil ?_
      go_wp2_with fail
      refine (IH.out _ _ _ _ _ (HCS.out 0 hl0) (PT.fits_get HFT.out hl0) ((hx.below hB).below (Below.refl _ _).drew) (hy.below (Below.refl _ _).drew)).mono ?_
      rintro e w3 ⟨rfl, hb3⟩
      rw [HZ.out]
      have hB3 := hB.trans (((Below.refl _ _).drew.trans hb3).mono hB.size)
      clear hB hb3 f0 f5 f8 D0 D1 D2 D3 D4 D5 e0 e1 e2 hy
      cases z <;> cases bs <;> cases be
      all_goals
        go_wp2_with fail
        go_roundw
        case rel => exact ⟨_, _, i + 1, rfl, rfl, by go_num, by omega, by rw [HS1.out, ← HBS.out]; rfl, by rw [HA1.out, ← HBE.out]; rfl, hB3⟩
        case measure => simp [intOf]; omega
    · have hii : i = xl.length := by omega
      subst hii
      have n4 : decide ((xl.length : Int) < (xl.length : Int)) = false := by simp
      go_wp2_with fail
      go_ret
      exact ⟨ret_bool (by rw [HBE.out, List.take_length]), hB0.trans ((hb2.trans (hB.mono hb2.size)).mono hB0.size)⟩
set_option maxRecDepth 100000 in
set_option maxHeartbeats 4000000 in
theorem rh10row (N : Nat) (ih : RHolds N) (v : VT) (n : Int) (l : List PT) (xk xn : Int) (xl : List VT) (hrow : xk = 3 ∨ xk = 4) (x y : Value) (w : World) (hs : (PT.mk 10 v n l).cnt ≤ N + 1) (hfit : PT.fit (.mk 10 v n l) = true) (hx : PIn w (.mk 10 v n l) x) (hy : VIn w (.mk xk xn xl) y) :
    Calls Try.prog 54 #[x, y] w fun e w' => e = .returned (.bool (PT.holds (.mk 10 v n l) (.mk xk xn xl))) ∧ Below w.heap.size w w' := by
  obtain ⟨va, vc, a, cap, hlen, hvl, rfl, hv, hr⟩ := hx.open
  obtain ⟨xa, xc, hxl, rfl, hxr⟩ := hy.open
  have IH := Lib.hid ih; clear ih
  rw [PT.cnt] at hs
  rw [PT.fit] at hfit
  simp only [Bool.and_eq_true, Bool.or_eq_true, decide_eq_true_eq] at hfit
  obtain ⟨⟨⟨⟨hk1, hk2⟩, hn0⟩, hlst⟩, hfits⟩ := hfit
  obtain ⟨w0, hw0, m0, s0, q0, q1, q2, q3, q4, q5⟩ := box6 w (.int .u8 10) (.int .u8 v.kind) (.int .i64 v.num) (.slice va v.items.length vc) (.int .i64 n) (.slice a l.length cap) 27
  obtain ⟨w1, hw1, m1, s1, p0, p1, p2, _⟩ := box3 w0 (.int .u8 xk) (.int .i64 xn) (.slice xa xl.length xc) 24
  have q0 := cell_stays m1 q0
  have q1 := cell_stays m1 q1
  have q2 := cell_stays m1 q2
  have q3 := cell_stays m1 q3
  have q4 := cell_stays m1 q4
  have q5 := cell_stays m1 q5
  have hB0 : Below w.heap.size w w1 := m0.trans (m1.mono m0.size)
  have hv1 := hv.below hB0
  have hr1 := hr.below hB0
  have hy1 := hy.below hB0
  have hxr1 := hxr.below hB0
  clear hx hv hr hy hxr m0 m1
  have HFT := Lib.hid hfits; clear hfits
  have hcs : ∀ i (h : i < l.length), l[i].cnt ≤ N := fun i h => by have := PT.cnts_get h; omega
  have HCS := Lib.hid hcs; clear hcs
  have hl0 : 0 < l.length := by
    have : PT.least 10 = 1 := by decide
    omega
  have hrd : decide (xk = 3 ∨ xk = 4) = true := by simpa using hrow
  have hXk : (VT.mk xk xn xl).kind = 3 ∨ (VT.mk xk xn xl).kind = 4 := hrow
  have HRD := Lib.hid hrd; have HXK := Lib.hid hXk; clear hrow hrd hXk
  rw [PT.holds10 v n l _ HXK.out]
  have hf : (fun i => PT.fst l i) = fun i => l[0].holds i := funext (PT.fst_eq hl0)
  rw [hf]
  clear hf
  show Calls _ _ _ _ (fun e w' => e = .returned (.bool (xl.any fun i => l[0].holds i)) ∧ _)
  obtain ⟨f, hf⟩ : ∃ f : VT → Bool, f = fun i => l[0].holds i := ⟨_, rfl⟩
  rw [← hf]
  have hfx : ∀ i, l[0].holds i = f i := fun i => by rw [hf]
  have HFX := Lib.hid hfx; clear hf hfx
  obtain ⟨b, o, rfl, ax, ac, a', cap', d0, d1, d2, d3, d4, d5, hx⟩ := hr1.got 0 hl0
  simp only [Nat.zero_mul, Nat.add_zero] at d0 d1 d2 d3 d4 d5
  go_enter Try.func54, Try.ntmps54
  go_wp2_with fail
  refine (rrow_any _ _ _ _ _ _).mono ?_
  rintro e w2 ⟨rfl, hb2⟩
  rw [HRD.out]
  have g0 := cell_stays hb2 q0
  have g4 := cell_stays hb2 q4
  have g5 := cell_stays hb2 q5
  have h0 := cell_stays hb2 p0
  have h1 := cell_stays hb2 p1
  have h2 := cell_stays hb2 p2
  have d0 := cell_stays hb2 d0
  have d1 := cell_stays hb2 d1
  have d2 := cell_stays hb2 d2
  have d3 := cell_stays hb2 d3
  have d4 := cell_stays hb2 d4
  have d5 := cell_stays hb2 d5
  clear q0 q1 q2 q3 q4 q5 p0 p1 p2
  go_wp2_with fail
  have hx := hx.below hb2
  have hxr1 := hxr1.below hb2
  go_loopw [7, 8, 9] (fun x y z wr => ∃ (bs be : Bool) (i : Nat), x = .bool bs ∧ y = .bool be ∧ z = .int .i64 i ∧ i ≤ xl.length ∧ bs = (xl.take i).any f ∧ be = (xl.take i).all f ∧ Below w2.heap.size w2 wr) (fun _ _ z _ => xl.length - (intOf z).toNat)
  case atStart => exact ⟨false, true, 0, rfl, rfl, rfl, by omega, by simp, by simp, Below.refl _ _⟩
  case round =>
    obtain ⟨bs, be, i, rfl, rfl, rfl, hi, hbs, hbe, hB⟩ := hrel
    have HBS := Lib.hid hbs; have HBE := Lib.hid hbe; clear hbs hbe
    have f0 := cell_stays hB g0
    have f5 := cell_stays hB g5
    have f8 := cell_stays hB h2
    have D0 := cell_stays hB d0
    have D1 := cell_stays hB d1
    have D2 := cell_stays hB d2
    have D3 := cell_stays hB d3
    have D4 := cell_stays hB d4
    have D5 := cell_stays hB d5
    by_cases hlt : i < xl.length
    · obtain ⟨b', o', rfl, ay, cy, e0, e1, e2, hy⟩ := (hxr1.below hB).got i hlt
      have hs1 := any_upto (f := f) hlt
      have ha1 := all_upto (f := f) hlt
      obtain ⟨z, hz⟩ : ∃ z, z = f xl[i] := ⟨_, rfl⟩
      rw [← hz] at hs1 ha1
      have hz' := (HFX.out xl[i]).trans hz.symm
      have HS1 := Lib.hid hs1; have HA1 := Lib.hid ha1; have HZ := Lib.hid hz'; clear hs1 ha1 hz hz'
      go_wp2_with fail
      refine region_tail 9 (by kernel_rfl) (by kernel_rfl) ?_
      simp only [List.take_succ_cons, List.take_zero, List.drop_succ_cons, List.drop_zero]
      repeat still_step
      refine wpStill_nil ?_
      go_wp2_with fail
      refine (IH.out _ _ _ _ _ (HCS.out 0 hl0) (PT.fits_get HFT.out hl0) ((hx.below hB).below (Below.refl _ _).drew) (hy.below (Below.refl _ _).drew)).mono ?_
      rintro e w3 ⟨rfl, hb3⟩
      rw [HZ.out]
      have hB3 := hB.trans (((Below.refl _ _).drew.trans hb3).mono hB.size)
      clear hB hb3 f0 f5 f8 D0 D1 D2 D3 D4 D5 e0 e1 e2 hy
      cases z <;> cases bs <;> cases be
      all_goals
        go_wp2_with fail
        go_roundw
        case rel => exact ⟨_, _, i + 1, rfl, rfl, by go_num, by omega, by rw [HS1.out, ← HBS.out]; rfl, by rw [HA1.out, ← HBE.out]; rfl, hB3⟩
        case measure => simp [intOf]; omega
    · have hii : i = xl.length := by omega
      subst hii
      have n4 : decide ((xl.length : Int) < (xl.length : Int)) = false := by simp
      go_wp2_with fail
      go_ret
      exact ⟨ret_bool (by rw [HBS.out, List.take_length]), hB0.trans ((hb2.trans (hB.mono hb2.size)).mono hB0.size)⟩
set_option maxRecDepth 100000 in
set_option maxHeartbeats 4000000 in
theorem rh9not (N : Nat) (ih : RHolds N) (v : VT) (n : Int) (l : List PT) (xk xn : Int) (xl : List VT) (hrow : ¬ (xk = 3 ∨ xk = 4)) (x y : Value) (w : World) (hs : (PT.mk 9 v n l).cnt ≤ N + 1) (hfit : PT.fit (.mk 9 v n l) = true) (hx : PIn w (.mk 9 v n l) x) (hy : VIn w (.mk xk xn xl) y) :
    Calls Try.prog 54 #[x, y] w fun e w' => e = .returned (.bool (PT.holds (.mk 9 v n l) (.mk xk xn xl))) ∧ Below w.heap.size w w' := by
  obtain ⟨va, vc, a, cap, hlen, hvl, rfl, hv, hr⟩ := hx.open
  obtain ⟨xa, xc, hxl, rfl, hxr⟩ := hy.open
  have IH := Lib.hid ih; clear ih
  rw [PT.cnt] at hs
  rw [PT.fit] at hfit
  simp only [Bool.and_eq_true, Bool.or_eq_true, decide_eq_true_eq] at hfit
  obtain ⟨⟨⟨⟨hk1, hk2⟩, hn0⟩, hlst⟩, hfits⟩ := hfit
  obtain ⟨w0, hw0, m0, s0, q0, q1, q2, q3, q4, q5⟩ := box6 w (.int .u8 9) (.int .u8 v.kind) (.int .i64 v.num) (.slice va v.items.length vc) (.int .i64 n) (.slice a l.length cap) 27
  obtain ⟨w1, hw1, m1, s1, p0, p1, p2, _⟩ := box3 w0 (.int .u8 xk) (.int .i64 xn) (.slice xa xl.length xc) 24
  have q0 := cell_stays m1 q0
  have q1 := cell_stays m1 q1
  have q2 := cell_stays m1 q2
  have q3 := cell_stays m1 q3
  have q4 := cell_stays m1 q4
  have q5 := cell_stays m1 q5
  have hB0 : Below w.heap.size w w1 := m0.trans (m1.mono m0.size)
  have hv1 := hv.below hB0
  have hr1 := hr.below hB0
  have hy1 := hy.below hB0
  have hxr1 := hxr.below hB0
  clear hx hv hr hy hxr m0 m1
  have HFT := Lib.hid hfits; clear hfits
  have hcs : ∀ i (h : i < l.length), l[i].cnt ≤ N := fun i h => by have := PT.cnts_get h; omega
  have HCS := Lib.hid hcs; clear hcs
  have hrd : decide (xk = 3 ∨ xk = 4) = false := by simpa using hrow
  rw [PT.holdsN v n l (.mk xk xn xl) 9 (by omega) hrow]
  have HRD := Lib.hid hrd; clear hrow hrd
  go_enter Try.func54, Try.ntmps54
  go_wp2_with fail
  refine (rrow_any _ _ _ _ _ _).mono ?_
  rintro e w2 ⟨rfl, hb2⟩
  rw [HRD.out]
  go_wp2_with fail
  go_ret
  exact ⟨rfl, hB0.trans (hb2.mono hB0.size)⟩
set_option maxRecDepth 100000 in
set_option maxHeartbeats 4000000 in
theorem rh10not (N : Nat) (ih : RHolds N) (v : VT) (n : Int) (l : List PT) (xk xn : Int) (xl : List VT) (hrow : ¬ (xk = 3 ∨ xk = 4)) (x y : Value) (w : World) (hs : (PT.mk 10 v n l).cnt ≤ N + 1) (hfit : PT.fit (.mk 10 v n l) = true) (hx : PIn w (.mk 10 v n l) x) (hy : VIn w (.mk xk xn xl) y) :
    Calls Try.prog 54 #[x, y] w fun e w' => e = .returned (.bool (PT.holds (.mk 10 v n l) (.mk xk xn xl))) ∧ Below w.heap.size w w' := by
  obtain ⟨va, vc, a, cap, hlen, hvl, rfl, hv, hr⟩ := hx.open
  obtain ⟨xa, xc, hxl, rfl, hxr⟩ := hy.open
  have IH := Lib.hid ih; clear ih
  rw [PT.cnt] at hs
  rw [PT.fit] at hfit
  simp only [Bool.and_eq_true, Bool.or_eq_true, decide_eq_true_eq] at hfit
  obtain ⟨⟨⟨⟨hk1, hk2⟩, hn0⟩, hlst⟩, hfits⟩ := hfit
  obtain ⟨w0, hw0, m0, s0, q0, q1, q2, q3, q4, q5⟩ := box6 w (.int .u8 10) (.int .u8 v.kind) (.int .i64 v.num) (.slice va v.items.length vc) (.int .i64 n) (.slice a l.length cap) 27
  obtain ⟨w1, hw1, m1, s1, p0, p1, p2, _⟩ := box3 w0 (.int .u8 xk) (.int .i64 xn) (.slice xa xl.length xc) 24
  have q0 := cell_stays m1 q0
  have q1 := cell_stays m1 q1
  have q2 := cell_stays m1 q2
  have q3 := cell_stays m1 q3
  have q4 := cell_stays m1 q4
  have q5 := cell_stays m1 q5
  have hB0 : Below w.heap.size w w1 := m0.trans (m1.mono m0.size)
  have hv1 := hv.below hB0
  have hr1 := hr.below hB0
  have hy1 := hy.below hB0
  have hxr1 := hxr.below hB0
  clear hx hv hr hy hxr m0 m1
  have HFT := Lib.hid hfits; clear hfits
  have hcs : ∀ i (h : i < l.length), l[i].cnt ≤ N := fun i h => by have := PT.cnts_get h; omega
  have HCS := Lib.hid hcs; clear hcs
  have hrd : decide (xk = 3 ∨ xk = 4) = false := by simpa using hrow
  rw [PT.holdsN v n l (.mk xk xn xl) 10 (by omega) hrow]
  have HRD := Lib.hid hrd; clear hrow hrd
  go_enter Try.func54, Try.ntmps54
  go_wp2_with fail
  refine (rrow_any _ _ _ _ _ _).mono ?_
  rintro e w2 ⟨rfl, hb2⟩
  rw [HRD.out]
  go_wp2_with fail
  go_ret
  exact ⟨rfl, hB0.trans (hb2.mono hB0.size)⟩
end Go.Proofs.Ytclmnpfdnhfbmaa
