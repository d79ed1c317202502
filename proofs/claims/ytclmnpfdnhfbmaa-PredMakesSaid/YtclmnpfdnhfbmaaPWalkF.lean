/- Deep, Nothing of pred and of the document. -/
import Derived.Test.YtclmnpfdnhfbmaaPWalkE
namespace Go.Proofs.Ytclmnpfdnhfbmaa
open Go.RowKit

set_option maxRecDepth 100000 in
set_option maxHeartbeats 4000000 in
theorem deep_any (N : Nat) (hN : N ≤ 1000000) : ∀ (t : PT) (x : Value) (w : World), t.cnt ≤ N → PIn w t x →
    Calls Try.prog 38 #[x] w fun e w' => e = .returned (.int .i64 t.deep) ∧ Below w.heap.size w w' := by
  induction N with
  | zero => intro t x w h; have := PT.cnt_pos t; omega
  | succ N ih =>
    intro t x w hs hx
    obtain ⟨k, v, n, l⟩ := t
    obtain ⟨va, vc, a, cap, hlen, hvl, rfl, hv, hr⟩ := hx.open
    have IH := Lib.hid (ih (by omega)); clear ih
    rw [PT.cnt] at hs
    have hln := PT.length_le_cnts l
    obtain ⟨w0, hw0, m0, s0, q0, q1, q2, q3, q4, q5⟩ := box6 w (.int .u8 k) (.int .u8 v.kind) (.int .i64 v.num) (.slice va v.items.length vc) (.int .i64 n) (.slice a l.length cap) 27
    have hr0 := hr.below m0
    clear hx hv hr
    go_enter Try.func38, Try.ntmps38
    go_wp2_with fail
    go_loopw [3, 9] (fun x y wr => ∃ (p : Int) (i : Nat), x = .int .i64 p ∧ y = .int .i64 i ∧ i ≤ l.length ∧ p = PT.deeps (l.take i) ∧ Below w0.heap.size w0 wr) (fun _ y _ => l.length - (intOf y).toNat)
    case atStart => exact ⟨0, 0, rfl, rfl, by omega, by simp [PT.deeps], Below.refl _ _⟩
    case round =>
      obtain ⟨p, i, rfl, rfl, hi, hp, hB⟩ := hrel
      have b0 := PT.deeps_le (l.take i)
      have b1 := PT.cnts_upto_le l i
      have b2 : 0 ≤ p ∧ p ≤ 1000000 := by omega
      have HP := Lib.hid hp; clear hp b0 b1
      have f5 := cell_stays hB q5
      by_cases hlt : i < l.length
      · obtain ⟨b, o, rfl, ax, ac, a', cap', d0, d1, d2, d3, d4, d5, hx⟩ := (hr0.below hB).got i hlt
        have hxs := PT.cnts_get hlt
        have hup := PT.deeps_upto hlt
        have HUP := Lib.hid hup; clear hup
        have hdl := PT.deep_le l[i]
        go_wp2_with fail
        refine (IH.out l[i] _ _ (by omega) (hx.below (Below.al _))).mono ?_
        rintro e w2 ⟨rfl, hb2⟩
        have hB2 := hB.trans (((Below.al _).trans (hb2.mono (by simp))).mono hB.size)
        obtain ⟨q, hq⟩ : ∃ q : Nat, q = l[i].deep := ⟨_, rfl⟩
        rw [← hq] at hdl ⊢
        rw [← hq] at HUP
        have hqb : q ≤ 1000000 := by omega
        have h5 := cell_stays hB2 q5
        clear hq hb2 hB f5 d0 d1 d2 d3 d4 d5 hx hdl
        go_wp2_with fail
        all_goals
          go_roundw
          case rel => exact ⟨_, i + 1, rfl, by go_num, by omega, by rw [HUP.out]; have := HP.out; omega, hB2⟩
          case measure => simp [intOf]; omega
      · have hii : i = l.length := by omega
        subst hii
        have n4 : decide ((l.length : Int) < (l.length : Int)) = false := by simp
        go_wp2_with fail
        go_ret
        exact ⟨ret_int (by rw [HP.out, List.take_length, PT.deep]; go_num), m0.trans (hB.mono m0.size)⟩
set_option maxRecDepth 100000 in
set_option maxHeartbeats 4000000 in
theorem rpdeep_any (N : Nat) (hN : N ≤ 1000000) : ∀ (t : PT) (x : Value) (w : World), t.cnt ≤ N → PIn w t x →
    Calls Try.prog 44 #[x] w fun e w' => e = .returned (.int .i64 t.deep) ∧ Below w.heap.size w w' := by
  induction N with
  | zero => intro t x w h; have := PT.cnt_pos t; omega
  | succ N ih =>
    intro t x w hs hx
    obtain ⟨k, v, n, l⟩ := t
    obtain ⟨va, vc, a, cap, hlen, hvl, rfl, hv, hr⟩ := hx.open
    have IH := Lib.hid (ih (by omega)); clear ih
    rw [PT.cnt] at hs
    have hln := PT.length_le_cnts l
    obtain ⟨w0, hw0, m0, s0, q0, q1, q2, q3, q4, q5⟩ := box6 w (.int .u8 k) (.int .u8 v.kind) (.int .i64 v.num) (.slice va v.items.length vc) (.int .i64 n) (.slice a l.length cap) 27
    have hr0 := hr.below m0
    clear hx hv hr
    go_enter Try.func44, Try.ntmps44
    go_wp2_with fail
    go_loopw [3, 4] (fun x y wr => ∃ (p : Int) (i : Nat), x = .int .i64 p ∧ y = .int .i64 i ∧ i ≤ l.length ∧ p = PT.deeps (l.take i) ∧ Below w0.heap.size w0 wr) (fun _ y _ => l.length - (intOf y).toNat)
    case atStart => exact ⟨0, 0, rfl, rfl, by omega, by simp [PT.deeps], Below.refl _ _⟩
    case round =>
      obtain ⟨p, i, rfl, rfl, hi, hp, hB⟩ := hrel
      have b0 := PT.deeps_le (l.take i)
      have b1 := PT.cnts_upto_le l i
      have b2 : 0 ≤ p ∧ p ≤ 1000000 := by omega
      have HP := Lib.hid hp; clear hp b0 b1
      have f5 := cell_stays hB q5
      by_cases hlt : i < l.length
      · obtain ⟨b, o, rfl, ax, ac, a', cap', d0, d1, d2, d3, d4, d5, hx⟩ := (hr0.below hB).got i hlt
        have hxs := PT.cnts_get hlt
        have hup := PT.deeps_upto hlt
        have HUP := Lib.hid hup; clear hup
        have hdl := PT.deep_le l[i]
        go_wp2_with fail
        refine (IH.out l[i] _ _ (by omega) (hx.below (Below.refl _ _))).mono ?_
        rintro e w2 ⟨rfl, hb2⟩
        have hB2 := hB.trans (((Below.refl _ _).trans (hb2.mono (by simp))).mono hB.size)
        obtain ⟨q, hq⟩ : ∃ q : Nat, q = l[i].deep := ⟨_, rfl⟩
        rw [← hq] at hdl ⊢
        rw [← hq] at HUP
        have hqb : q ≤ 1000000 := by omega
        have h5 := cell_stays hB2 q5
        clear hq hb2 hB f5 d0 d1 d2 d3 d4 d5 hx hdl
        go_wp2_with fail
        all_goals
          go_roundw
          case rel => exact ⟨_, i + 1, rfl, by go_num, by omega, by rw [HUP.out]; have := HP.out; omega, hB2⟩
          case measure => simp [intOf]; omega
      · have hii : i = l.length := by omega
        subst hii
        have n4 : decide ((l.length : Int) < (l.length : Int)) = false := by simp
        go_wp2_with fail
        go_ret
        exact ⟨ret_int (by rw [HP.out, List.take_length, PT.deep]; go_num), m0.trans (hB.mono m0.size)⟩

set_option maxRecDepth 100000 in
set_option maxHeartbeats 4000000 in
theorem nothing_any (t : PT) (x : Value) (w : World) (hx : PIn w t x) :
    Calls Try.prog 41 #[x] w fun e w' => e = .returned (.bool t.nothing) ∧ Below w.heap.size w w' := by
  obtain ⟨k, v, n, l⟩ := t
  obtain ⟨va, vc, a, cap, hlen, hvl, rfl, hv, hr⟩ := hx.open
  obtain ⟨w0, hw0, m0, s0, q0, q1, q2, q3, q4, q5⟩ := box6 w (.int .u8 k) (.int .u8 v.kind) (.int .i64 v.num) (.slice va v.items.length vc) (.int .i64 n) (.slice a l.length cap) 27
  have hc : (PT.mk k v n l).nothing = (k == 0 && v.none && n == 0 && l.length == 0) := rfl
  have HC := Lib.hid hc; clear hc
  by_cases hk : k = 0
  · subst hk
    obtain ⟨z, hz⟩ : ∃ z, z = v.none := ⟨_, rfl⟩
    rw [← hz] at HC
    have HZ := Lib.hid hz; clear hz
    cases z
    · go_enter Try.func41, Try.ntmps41
      go_wp2_with fail
      refine (none_any _ _ _ _ _ _).mono ?_
      rintro e w1 ⟨rfl, hb1⟩
      rw [← PT.none_eq, ← HZ.out]
      go_wp2_with fail
      go_ret
      exact ⟨ret_bool (by rw [HC.out]; simp), m0.trans (hb1.mono m0.size)⟩
    · cases hn : (n == 0)
      all_goals
        go_enter Try.func41, Try.ntmps41
        go_wp2_with fail
        refine (none_any _ _ _ _ _ _).mono ?_
        rintro e w1 ⟨rfl, hb1⟩
        rw [← PT.none_eq, ← HZ.out]
        have g4 := cell_stays hb1 q4
        have g5 := cell_stays hb1 q5
        clear q0 q1 q2 q3 q4 q5
        go_wp2_with fail
        go_ret
        exact ⟨ret_bool (by rw [HC.out, hn, Bool.eq_iff_iff]; simp), m0.trans (hb1.mono m0.size)⟩
  · have hk0 : (k == 0) = false := by simpa using hk
    go_enter Try.func41, Try.ntmps41
    go_wp2_with fail
    go_ret
    exact ⟨ret_bool (by rw [HC.out, hk0]; simp), m0⟩
set_option maxRecDepth 100000 in
set_option maxHeartbeats 4000000 in
theorem rnothing_any (t : PT) (x : Value) (w : World) (hx : PIn w t x) :
    Calls Try.prog 45 #[x] w fun e w' => e = .returned (.bool t.nothing) ∧ Below w.heap.size w w' := by
  obtain ⟨k, v, n, l⟩ := t
  obtain ⟨va, vc, a, cap, hlen, hvl, rfl, hv, hr⟩ := hx.open
  obtain ⟨w0, hw0, m0, s0, q0, q1, q2, q3, q4, q5⟩ := box6 w (.int .u8 k) (.int .u8 v.kind) (.int .i64 v.num) (.slice va v.items.length vc) (.int .i64 n) (.slice a l.length cap) 27
  have hc : (PT.mk k v n l).nothing = (k == 0 && v.none && n == 0 && l.length == 0) := rfl
  have HC := Lib.hid hc; clear hc
  by_cases hk : k = 0
  · subst hk
    obtain ⟨z, hz⟩ : ∃ z, z = v.none := ⟨_, rfl⟩
    rw [← hz] at HC
    have HZ := Lib.hid hz; clear hz
    cases z
    · go_enter Try.func45, Try.ntmps45
      go_wp2_with fail
      refine (rnone_any _ _ _ _ _ _).mono ?_
      rintro e w1 ⟨rfl, hb1⟩
      rw [← PT.none_eq, ← HZ.out]
      go_wp2_with fail
      go_ret
      exact ⟨ret_bool (by rw [HC.out]; simp), m0.trans (hb1.mono m0.size)⟩
    · cases hn : (n == 0)
      all_goals
        go_enter Try.func45, Try.ntmps45
        go_wp2_with fail
        refine (rnone_any _ _ _ _ _ _).mono ?_
        rintro e w1 ⟨rfl, hb1⟩
        rw [← PT.none_eq, ← HZ.out]
        have g4 := cell_stays hb1 q4
        have g5 := cell_stays hb1 q5
        clear q0 q1 q2 q3 q4 q5
        go_wp2_with fail
        go_ret
        exact ⟨ret_bool (by rw [HC.out, hn, Bool.eq_iff_iff]; simp), m0.trans (hb1.mono m0.size)⟩
  · have hk0 : (k == 0) = false := by simpa using hk
    go_enter Try.func45, Try.ntmps45
    go_wp2_with fail
    go_ret
    exact ⟨ret_bool (by rw [HC.out, hk0]; simp), m0⟩

set_option maxRecDepth 100000 in
set_option maxHeartbeats 4000000 in
theorem pcheck_any (t : PT) (x : Value) (w : World) (hs : t.cnt ≤ 1000000) (hf : t.fat ≤ 100000) (hx : PIn w t x) :
    Calls Try.prog 40 #[x] w fun e w' => e = .returned (.tuple #[.int .i64 t.check.1, .int .i64 t.check.2]) ∧ Below w.heap.size w w' := by
  have hx0 := hx
  obtain ⟨k, v, n, l⟩ := t
  obtain ⟨va, vc, a, cap, hlen, hvl, rfl, hv, hr⟩ := hx.open
  obtain ⟨w0, hw0, m0, s0, q0, q1, q2, q3, q4, q5⟩ := box6 w (.int .u8 k) (.int .u8 v.kind) (.int .i64 v.num) (.slice va v.items.length vc) (.int .i64 n) (.slice a l.length cap) 27
  have hx1 := hx0.below m0
  clear hx hx0 hv hr
  have hc : (PT.mk k v n l).check = if ((PT.mk k v n l).chk 0 1).2 ≠ 0 then (PT.mk k v n l).chk 0 1 else if 512 < (PT.mk k v n l).nodes then (0, 5) else (0, 0) := rfl
  have hnl := PT.nodes_le 100000 (PT.mk k v n l) hf
  obtain ⟨r, hr⟩ : ∃ r, r = (PT.mk k v n l).chk 0 1 := ⟨_, rfl⟩
  obtain ⟨nn, hnn⟩ : ∃ nn, nn = (PT.mk k v n l).nodes := ⟨_, rfl⟩
  rw [← hr, ← hnn] at hc
  rw [← hnn] at hnl
  have hnb : nn ≤ 200000000000 := by omega
  have HC := Lib.hid hc; have HR := Lib.hid hr; have HN := Lib.hid hnn; have HS := Lib.hid hs; have HF := Lib.hid hf
  clear hc hr hnn hnl hs hf
  obtain ⟨r1, r2⟩ := r
  go_enter Try.func40, Try.ntmps40
  go_wp2_with fail
  refine (chk_any 1000000 (by omega) _ _ 0 1 _ HS.out HF.out (by omega) (by have := HS.out; omega) (by omega) (by omega) hx1).mono ?_
  rintro e w1 ⟨rfl, hb1⟩
  rw [← HR.out]
  have g0 := cell_stays hb1 q0
  have g1 := cell_stays hb1 q1
  have g2 := cell_stays hb1 q2
  have g3 := cell_stays hb1 q3
  have g4 := cell_stays hb1 q4
  have g5 := cell_stays hb1 q5
  have hx2 := hx1.below hb1
  clear q0 q1 q2 q3 q4 q5 hx1
  by_cases h0 : r2 = 0
  · subst h0
    go_wp2_with fail
    refine (nodes_any 1000000 (by omega) _ _ _ HS.out HF.out hx2).mono ?_
    rintro e w2 ⟨rfl, hb2⟩
    rw [← HN.out]
    have hB2 := hb1.trans (hb2.mono hb1.size)
    clear hb1 hb2 hx2 g0 g1 g2 g3 g4 g5
    by_cases h5 : 512 < nn
    · go_wp2_with fail
      refine bodyPost_ret (v := .tuple #[.int .i64 0, .int .i64 5]) (by simp [results, Try.results40, go_sem]) rfl ⟨by rw [HC.out, if_neg (by simp), if_pos (by omega)], m0.trans (hB2.mono m0.size)⟩
    · go_wp2_with fail
      refine bodyPost_ret (v := .tuple #[.int .i64 0, .int .i64 0]) (by simp [results, Try.results40, go_sem]) rfl ⟨by rw [HC.out, if_neg (by simp), if_neg (by omega)], m0.trans (hB2.mono m0.size)⟩
  · have hb : (r2 != 0) = true := by simpa using h0
    have H0 := Lib.hid h0; clear h0
    go_wp2_with fail
    refine bodyPost_ret (v := .tuple #[.int .i64 r1, .int .i64 r2]) (by simp [results, Try.results40, go_sem]) rfl ⟨by rw [HC.out, if_pos H0.out], m0.trans (hb1.mono m0.size)⟩
set_option maxRecDepth 100000 in
set_option maxHeartbeats 4000000 in
theorem rpcheck_any (t : PT) (x : Value) (w : World) (hs : t.cnt ≤ 1000000) (hf : t.fat ≤ 100000) (hx : PIn w t x) :
    Calls Try.prog 42 #[x] w fun e w' => e = .returned (.tuple #[.int .i64 t.check.1, .int .i64 t.check.2]) ∧ Below w.heap.size w w' := by
  have hx0 := hx
  obtain ⟨k, v, n, l⟩ := t
  obtain ⟨va, vc, a, cap, hlen, hvl, rfl, hv, hr⟩ := hx.open
  obtain ⟨w0, hw0, m0, s0, q0, q1, q2, q3, q4, q5⟩ := box6 w (.int .u8 k) (.int .u8 v.kind) (.int .i64 v.num) (.slice va v.items.length vc) (.int .i64 n) (.slice a l.length cap) 27
  have hx1 := hx0.below m0
  clear hx hx0 hv hr
  have hc : (PT.mk k v n l).check = if ((PT.mk k v n l).chk 0 1).2 ≠ 0 then (PT.mk k v n l).chk 0 1 else if 512 < (PT.mk k v n l).nodes then (0, 5) else (0, 0) := rfl
  have hnl := PT.nodes_le 100000 (PT.mk k v n l) hf
  obtain ⟨r, hr⟩ : ∃ r, r = (PT.mk k v n l).chk 0 1 := ⟨_, rfl⟩
  obtain ⟨nn, hnn⟩ : ∃ nn, nn = (PT.mk k v n l).nodes := ⟨_, rfl⟩
  rw [← hr, ← hnn] at hc
  rw [← hnn] at hnl
  have hnb : nn ≤ 200000000000 := by omega
  have HC := Lib.hid hc; have HR := Lib.hid hr; have HN := Lib.hid hnn; have HS := Lib.hid hs; have HF := Lib.hid hf
  clear hc hr hnn hnl hs hf
  obtain ⟨r1, r2⟩ := r
  go_enter Try.func42, Try.ntmps42
  go_wp2_with fail
  refine (rchk_any 1000000 (by omega) _ _ 0 1 _ HS.out HF.out (by omega) (by have := HS.out; omega) (by omega) (by omega) hx1).mono ?_
  rintro e w1 ⟨rfl, hb1⟩
  rw [← HR.out]
  have g0 := cell_stays hb1 q0
  have g1 := cell_stays hb1 q1
  have g2 := cell_stays hb1 q2
  have g3 := cell_stays hb1 q3
  have g4 := cell_stays hb1 q4
  have g5 := cell_stays hb1 q5
  have hx2 := hx1.below hb1
  clear q0 q1 q2 q3 q4 q5 hx1
  by_cases h0 : r2 = 0
  · subst h0
    go_wp2_with fail
    refine (rnodes_any 1000000 (by omega) _ _ _ HS.out HF.out hx2).mono ?_
    rintro e w2 ⟨rfl, hb2⟩
    rw [← HN.out]
    have hB2 := hb1.trans (hb2.mono hb1.size)
    clear hb1 hb2 hx2 g0 g1 g2 g3 g4 g5
    by_cases h5 : 512 < nn
    · go_wp2_with fail
      refine bodyPost_ret (v := .tuple #[.int .i64 0, .int .i64 5]) (by simp [results, Try.results42, go_sem]) rfl ⟨by rw [HC.out, if_neg (by simp), if_pos (by omega)], m0.trans (hB2.mono m0.size)⟩
    · go_wp2_with fail
      refine bodyPost_ret (v := .tuple #[.int .i64 0, .int .i64 0]) (by simp [results, Try.results42, go_sem]) rfl ⟨by rw [HC.out, if_neg (by simp), if_neg (by omega)], m0.trans (hB2.mono m0.size)⟩
  · have hb : (r2 != 0) = true := by simpa using h0
    have H0 := Lib.hid h0; clear h0
    go_wp2_with fail
    refine bodyPost_ret (v := .tuple #[.int .i64 r1, .int .i64 r2]) (by simp [results, Try.results42, go_sem]) rfl ⟨by rw [HC.out, if_pos H0.out], m0.trans (hb1.mono m0.size)⟩
set_option maxRecDepth 100000 in
set_option maxHeartbeats 4000000 in
theorem pmay_any (t : PT) (x : Value) (w : World) (hs : t.cnt ≤ 1000000) (hf : t.fat ≤ 100000) (hx : PIn w t x) :
    Calls Try.prog 37 #[x] w fun e w' => e = .returned (.bool t.may) ∧ Below w.heap.size w w' := by
  have hx0 := hx
  obtain ⟨k, v, n, l⟩ := t
  obtain ⟨va, vc, a, cap, hlen, hvl, rfl, hv, hr⟩ := hx.open
  obtain ⟨w0, hw0, m0, s0, q0, q1, q2, q3, q4, q5⟩ := box6 w (.int .u8 k) (.int .u8 v.kind) (.int .i64 v.num) (.slice va v.items.length vc) (.int .i64 n) (.slice a l.length cap) 27
  have hx1 := hx0.below m0
  clear hx hx0 hv hr
  have HS := Lib.hid hs; have HF := Lib.hid hf; clear hs hf
  go_enter Try.func37, Try.ntmps37
  go_wp2_with fail
  refine (pcheck_any _ _ _ HS.out HF.out hx1).mono ?_
  rintro e w1 ⟨rfl, hb1⟩
  go_wp2_with fail
  go_ret
  exact ⟨ret_bool rfl, m0.trans (hb1.mono m0.size)⟩
set_option maxRecDepth 100000 in
set_option maxHeartbeats 4000000 in
theorem rpmay_any (t : PT) (x : Value) (w : World) (hs : t.cnt ≤ 1000000) (hf : t.fat ≤ 100000) (hx : PIn w t x) :
    Calls Try.prog 53 #[x] w fun e w' => e = .returned (.bool t.may) ∧ Below w.heap.size w w' := by
  have hx0 := hx
  obtain ⟨k, v, n, l⟩ := t
  obtain ⟨va, vc, a, cap, hlen, hvl, rfl, hv, hr⟩ := hx.open
  obtain ⟨w0, hw0, m0, s0, q0, q1, q2, q3, q4, q5⟩ := box6 w (.int .u8 k) (.int .u8 v.kind) (.int .i64 v.num) (.slice va v.items.length vc) (.int .i64 n) (.slice a l.length cap) 27
  have hx1 := hx0.below m0
  clear hx hx0 hv hr
  have HS := Lib.hid hs; have HF := Lib.hid hf; clear hs hf
  go_enter Try.func53, Try.ntmps53
  go_wp2_with fail
  refine (rpcheck_any _ _ _ HS.out HF.out hx1).mono ?_
  rintro e w1 ⟨rfl, hb1⟩
  go_wp2_with fail
  go_ret
  exact ⟨ret_bool rfl, m0.trans (hb1.mono m0.size)⟩
end Go.Proofs.Ytclmnpfdnhfbmaa
