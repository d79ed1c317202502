/- Texts of this claim laid into one: TSame. -/
import Derived.Test.YtapofbdkofelkaaGreatM31
/- term.Same. -/
namespace Go.Proofs.YtapofbdkofelkaaGreat
open Go.RowKit

set_option maxRecDepth 100000 in
set_option maxHeartbeats 8000000 in
theorem tsame_any (N : Nat) : ∀ (s t : TT) (x y : Value) (w : World), s.cnt ≤ N → TIn w s x → TIn w t y →
    Calls Tryz.prog 13 #[x, y] w fun e w' => e = .returned (.bool (TT.same s t)) ∧ Below w.heap.size w w' := by
  induction N with
  | zero => intro s t x y w h; have := TT.cnt_pos s; omega
  | succ N ih =>
    intro s t x y w hcn hx hy
    have IH := Lib.hid ih; clear ih
    obtain ⟨k, v, vs, lo, hi, ws, p, l⟩ := s
    obtain ⟨k', v', vs', lo', hi', ws', p', l'⟩ := t
    obtain ⟨⟨va, vc, sa, sc, wa, wc, qa, qc, pa, pc, aa, ac⟩, rfl, hok⟩ := hx
    obtain ⟨⟨va', vc', sa', sc', wa', wc', qa', qc', pa', pc', aa', ac'⟩, rfl, hok'⟩ := hy
    obtain ⟨⟨hal, hsl, hwl⟩, hv, hs, hw, hp, hr⟩ := hok.parts
    obtain ⟨⟨hal', hsl', hwl'⟩, hv', hs', hw', hp', hr'⟩ := hok'.parts
    simp only [TT.v, TT.vs, TT.ws, TT.p, TT.args] at hal hsl hwl hv hs hw hp hr hal' hsl' hwl' hv' hs' hw' hp' hr'
    simp only [TT.val, TT.kind, TT.v, TT.vs, TT.lo, TT.hi, TT.ws, TT.p, TT.args]
    obtain ⟨w0, hw0, m0, s0, R0, q0, q1, q2, q3, q4, q5, q6, q7, q8, q9, q10, q11, q12, q13, q14⟩ := box15 w (.int .u8 k) (.int .u8 v.kind) (.int .i64 v.num) (.slice va v.items.length vc) (.slice sa vs.length sc) (.int .i64 lo) (.int .i64 hi) (.slice wa ws.length wc)
      (.int .u8 p.kind) (.int .u8 p.val.kind) (.int .i64 p.val.num) (.slice qa p.val.items.length qc) (.int .i64 p.num) (.slice pa p.args.length pc) (.slice aa l.length ac) 31
    obtain ⟨w1, hw1, m1, s1, R1, u0, u1, u2, u3, u4, u5, u6, u7, u8, u9, u10, u11, u12, u13, u14⟩ := box15 w0 (.int .u8 k') (.int .u8 v'.kind) (.int .i64 v'.num) (.slice va' v'.items.length vc') (.slice sa' vs'.length sc') (.int .i64 lo') (.int .i64 hi') (.slice wa' ws'.length wc')
      (.int .u8 p'.kind) (.int .u8 p'.val.kind) (.int .i64 p'.val.num) (.slice qa' p'.val.items.length qc') (.int .i64 p'.num) (.slice pa' p'.args.length pc') (.slice aa' l'.length ac') 31
    have q0 := cell_stays m1 q0
    have q1 := cell_stays m1 q1
    have q2 := cell_stays m1 q2
    have q3 := cell_stays m1 q3
    have q4 := cell_stays m1 q4
    have q5 := cell_stays m1 q5
    have q6 := cell_stays m1 q6
    have q7 := cell_stays m1 q7
    have q8 := cell_stays m1 q8
    have q9 := cell_stays m1 q9
    have q10 := cell_stays m1 q10
    have q11 := cell_stays m1 q11
    have q12 := cell_stays m1 q12
    have q13 := cell_stays m1 q13
    have q14 := cell_stays m1 q14
    have hB1 : Below w.heap.size w w1 := m0.trans (m1.mono (Nat.le_of_lt s0))
    have hv1 := hv.below hB1
    have hv1' := hv'.below hB1
    have hs1 := hs.below hB1
    have hs1' := hs'.below hB1
    have hw1' := hw.below hB1
    have hw1'' := hw'.below hB1
    have hp1 := hp.below hB1
    have hp1' := hp'.below hB1
    have hr1 := hr.below hB1
    have hr1' := hr'.below hB1
    have HS := Lib.hid (show TT.same (.mk k v vs lo hi ws p l) (.mk k' v' vs' lo' hi' ws' p' l') = (k == k' && lo == lo' && hi == hi' && VT.same v v' && VT.sameAll vs vs' && ws == ws' && PT.same p p' && TT.sameAll l l') by rw [TT.same])
    have hcs : ∀ i (h : i < l.length), l[i].cnt ≤ N := fun i h => by have := TT.cnts_get h; rw [TT.cnt] at hcn; omega
    have HCS := Lib.hid hcs
    clear hok hok' hv hv' hs hs' hw hw' hp hp' hr hr' R0 R1 m0 m1 hcs hcn
    cases h1 : (k == k')
    · have H1 := Lib.hid h1
      go_enter Tryz.func13, Tryz.ntmps13
      go_wp2_with fail
      go_ret
      exact ⟨ret_bool (by rw [HS.out, H1.out]; simp), hB1⟩
    cases h2 : (lo == lo')
    · have H2 := Lib.hid h2
      go_enter Tryz.func13, Tryz.ntmps13
      go_wp2_with fail
      go_ret
      exact ⟨ret_bool (by rw [HS.out, H2.out]; simp), hB1⟩
    cases h3 : (hi == hi')
    · have H3 := Lib.hid h3
      go_enter Tryz.func13, Tryz.ntmps13
      go_wp2_with fail
      go_ret
      exact ⟨ret_bool (by rw [HS.out, H3.out]; simp), hB1⟩
    have HS2 := Lib.hid (show TT.same (.mk k v vs lo hi ws p l) (.mk k' v' vs' lo' hi' ws' p' l') = (VT.same v v' && VT.sameAll vs vs' && ws == ws' && PT.same p p' && TT.sameAll l l') by rw [HS.out, h1, h2, h3]; simp)
    clear HS
    obtain ⟨z1, hz1⟩ : ∃ z, z = VT.same v v' := ⟨_, rfl⟩
    obtain ⟨z2, hz2⟩ : ∃ z, z = VT.sameAll vs vs' := ⟨_, rfl⟩
    obtain ⟨z3, hz3⟩ : ∃ z, z = (ws == ws') := ⟨_, rfl⟩
    obtain ⟨z4, hz4⟩ : ∃ z, z = PT.same p p' := ⟨_, rfl⟩
    obtain ⟨z5, hz5⟩ : ∃ z, z = TT.sameAll l l' := ⟨_, rfl⟩
    rw [← hz1, ← hz2, ← hz3, ← hz4, ← hz5] at HS2
    have Z1 := Lib.hid hz1; have Z2 := Lib.hid hz2; have Z3 := Lib.hid hz3; have Z4 := Lib.hid hz4; have Z5 := Lib.hid hz5
    clear hz1 hz2 hz3 hz4 hz5
    go_enter Tryz.func13, Tryz.ntmps13
    go_wp2_with fail
    refine (same_any _ _ _ _ _ _ (Nat.le_refl _) hv1 hv1').mono ?_
    rintro e w2 ⟨rfl, hb2⟩
    rw [← Z1.out]
    have q4 := cell_stays hb2 q4
    have u4 := cell_stays hb2 u4
    have q7 := cell_stays hb2 q7
    have u7 := cell_stays hb2 u7
    have q8 := cell_stays hb2 q8
    have u8 := cell_stays hb2 u8
    have q9 := cell_stays hb2 q9
    have u9 := cell_stays hb2 u9
    have q10 := cell_stays hb2 q10
    have u10 := cell_stays hb2 u10
    have q11 := cell_stays hb2 q11
    have u11 := cell_stays hb2 u11
    have q12 := cell_stays hb2 q12
    have u12 := cell_stays hb2 u12
    have q13 := cell_stays hb2 q13
    have u13 := cell_stays hb2 u13
    have q14 := cell_stays hb2 q14
    have u14 := cell_stays hb2 u14
    have hB2 := hB1.trans (hb2.mono hB1.size)
    have hs2 := hs1.below hb2
    have hs2' := hs1'.below hb2
    have hw2 := hw1'.below hb2
    have hw2' := hw1''.below hb2
    have hp2 := hp1.below hb2
    have hp2' := hp1'.below hb2
    have hr2 := hr1.below hb2
    have hr2' := hr1'.below hb2
    clear hb2 hB1 hv1 hv1' hs1 hs1' hw1' hw1'' hp1 hp1' hr1 hr1' q0 q1 q2 q3 q5 q6 u0 u1 u2 u3 u5 u6
    cases z1
    · go_wp2_with fail
      go_ret
      exact ⟨ret_bool (by rw [HS2.out]; simp), hB2⟩
    go_wp2_with fail
    refine (eqfuncV_any vs vs' sa sa' sc sc' _ hsl hsl' hs2 hs2').mono ?_
    rintro e w3 ⟨rfl, hb3⟩
    rw [← Z2.out]
    have q7 := cell_stays hb3 q7
    have u7 := cell_stays hb3 u7
    have q8 := cell_stays hb3 q8
    have u8 := cell_stays hb3 u8
    have q9 := cell_stays hb3 q9
    have u9 := cell_stays hb3 u9
    have q10 := cell_stays hb3 q10
    have u10 := cell_stays hb3 u10
    have q11 := cell_stays hb3 q11
    have u11 := cell_stays hb3 u11
    have q12 := cell_stays hb3 q12
    have u12 := cell_stays hb3 u12
    have q13 := cell_stays hb3 q13
    have u13 := cell_stays hb3 u13
    have q14 := cell_stays hb3 q14
    have u14 := cell_stays hb3 u14
    have hB3 := hB2.trans (hb3.mono hB2.size)
    have hw3 := hw2.below hb3
    have hw3' := hw2'.below hb3
    have hp3 := hp2.below hb3
    have hp3' := hp2'.below hb3
    have hr3 := hr2.below hb3
    have hr3' := hr2'.below hb3
    clear hb3 hB2 hs2 hs2' hw2 hw2' hp2 hp2' hr2 hr2' q4 u4
    cases z2
    · go_wp2_with fail
      go_ret
      exact ⟨ret_bool (by rw [HS2.out]; simp), hB3⟩
    go_wp2_with fail
    refine (equalW_any ws ws' wa wa' wc wc' _ hwl hwl' hw3 hw3').mono ?_
    rintro e w4 ⟨rfl, hb4⟩
    rw [← Z3.out]
    have q8 := cell_stays hb4 q8
    have u8 := cell_stays hb4 u8
    have q9 := cell_stays hb4 q9
    have u9 := cell_stays hb4 u9
    have q10 := cell_stays hb4 q10
    have u10 := cell_stays hb4 u10
    have q11 := cell_stays hb4 q11
    have u11 := cell_stays hb4 u11
    have q12 := cell_stays hb4 q12
    have u12 := cell_stays hb4 u12
    have q13 := cell_stays hb4 q13
    have u13 := cell_stays hb4 u13
    have q14 := cell_stays hb4 q14
    have u14 := cell_stays hb4 u14
    have hB4 := hB3.trans (hb4.mono hB3.size)
    have hp4 := hp3.below hb4
    have hp4' := hp3'.below hb4
    have hr4 := hr3.below hb4
    have hr4' := hr3'.below hb4
    clear hb4 hB3 hw3 hw3' hp3 hp3' hr3 hr3' q7 u7
    cases z3
    · go_wp2_with fail
      go_ret
      exact ⟨ret_bool (by rw [HS2.out]; simp), hB4⟩
    go_wp2_with fail
    refine (psame_any _ p p' _ _ _ (Nat.le_refl _) hp4 hp4').mono ?_
    rintro e w5 ⟨rfl, hb5⟩
    rw [← Z4.out]
    have q14 := cell_stays hb5 q14
    have u14 := cell_stays hb5 u14
    have hB5 := hB4.trans (hb5.mono hB4.size)
    have hr5 := hr4.below hb5
    have hr5' := hr4'.below hb5
    clear hb5 hB4 hp4 hp4' hr4 hr4' q8 q9 q10 q11 q12 q13 u8 u9 u10 u11 u12 u13
    cases z4
    · go_wp2_with fail
      go_ret
      exact ⟨ret_bool (by rw [HS2.out]; simp), hB5⟩
    go_wp2_with fail
    refine (eqfuncT_of l l' aa aa' ac ac' _ hal hal' hr5 hr5' (fun i h h' x y W hx hy => IH.out _ _ x y W (HCS.out i h) hx hy)).mono ?_
    rintro e w6 ⟨rfl, hb6⟩
    rw [← Z5.out]
    go_wp2_with fail
    go_ret
    exact ⟨ret_bool (by rw [HS2.out]; simp), hB5.trans (hb6.mono hB5.size)⟩
end Go.Proofs.YtapofbdkofelkaaGreat
