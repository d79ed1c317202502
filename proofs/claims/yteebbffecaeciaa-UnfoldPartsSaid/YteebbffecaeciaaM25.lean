/- Texts of this claim laid into one: TSound, VWalkC. -/
import Derived.Test.YteebbffecaeciaaM24
import Derived.Test.YteebbffecaeciaaM01
/- term.Sound. -/
namespace Go.Proofs.Yteebbffecaeciaa
open Go.RowKit


/-- a call that hands back one value and turns nothing that was there, in a region that draws its order. -/
theorem regrownT {f : FuncId} {args : Array Value} {w : World} {v : Value} (h : ∀ W, Below w.heap.size w W → Calls Try.prog f args W fun e w' => e = .returned v ∧ Below W.heap.size W w') :
    ∀ d os, Calls Try.prog f args (Go.Sort.grow (redrawn w d) os) fun e w'' => e = .returned v ∧ ∃ p : Regrown, w'' = Go.Sort.grow (redrawn w p.d) p.os :=
  fun d os => Calls.regrown_of (h _ (below_regrown w d os))
set_option maxRecDepth 100000 in
set_option maxHeartbeats 4000000 in
theorem sound_any (t : TT) (x : Value) (w : World) (hs : t.cnt ≤ 3000000) (hln : t.lean = true) (hx : TIn w t x) :
    Calls Try.prog 35 #[x] w fun e w' => e = .returned (.bool t.sound) ∧ Below w.heap.size w w' := by
  have hx0 := hx
  obtain ⟨k, v, vs, lo, hi, ws, p, l⟩ := t
  obtain ⟨⟨va, vc, sa, sc, wa, wc, qa, qc, pa, pc, aa, ac⟩, rfl, hok⟩ := hx
  obtain ⟨⟨hal, hsl, hwl⟩, hv, hs, hw, hp, hr⟩ := hok.parts
  simp only [TT.v, TT.vs, TT.ws, TT.p, TT.args] at hal hsl hwl hv hs hw hp hr
  simp only [TT.val, TT.kind, TT.v, TT.vs, TT.lo, TT.hi, TT.ws, TT.p, TT.args]
  obtain ⟨w0, hw0, m0, s0, R0, q0, q1, q2, q3, q4, q5, q6, q7, q8, q9, q10, q11, q12, q13, q14⟩ := box15 w (.int .u8 k) (.int .u8 v.kind) (.int .i64 v.num) (.slice va v.items.length vc) (.slice sa vs.length sc) (.int .i64 lo) (.int .i64 hi) (.slice wa ws.length wc)
    (.int .u8 p.kind) (.int .u8 p.val.kind) (.int .i64 p.val.num) (.slice qa p.val.items.length qc) (.int .i64 p.num) (.slice pa p.args.length pc) (.slice aa l.length ac) 47
  have hv0 := hv.below m0
  have hs0 := hs.below m0
  have hw0' := hw.below m0
  have hp0 := hp.below m0
  have hr0 := hr.below m0
  have hB0 := Below.refl w0.heap.size w0
  clear hok hv hs hw hp hr R0
  have hx1 := hx0.below m0
  simp only [TT.val, TT.kind, TT.v, TT.vs, TT.lo, TT.hi, TT.ws, TT.p, TT.args] at hx1
  clear hv0 hs0 hw0' hp0 hr0 hx0
  have Q1 := Lib.hid (regrownT (w := w0) fun W hW => tbulk_any _ _ W hs hln (hx1.below hW))
  have Q2 := Lib.hid (regrownT (w := w0) fun W hW => thigh_any _ _ W hs hln (hx1.below hW))
  obtain ⟨bb, hb⟩ : ∃ b, b = (TT.mk k v vs lo hi ws p l).Bulk := ⟨_, rfl⟩
  obtain ⟨hh, hhh⟩ : ∃ b, b = (TT.mk k v vs lo hi ws p l).High := ⟨_, rfl⟩
  rw [← hb] at Q1
  rw [← hhh] at Q2
  have hso : (TT.mk k v vs lo hi ws p l).sound = (decide (0 < bb) && decide (bb ≤ 4096) && decide (hh ≤ 128)) := by unfold TT.sound; rw [hb, hhh]
  have HSO := Lib.hid hso
  clear hs hln hx1 hb hhh hso
  have cq0 := cell_regrown q0
  have cq1 := cell_regrown q1
  have cq2 := cell_regrown q2
  have cq3 := cell_regrown q3
  have cq4 := cell_regrown q4
  have cq5 := cell_regrown q5
  have cq6 := cell_regrown q6
  have cq7 := cell_regrown q7
  have cq8 := cell_regrown q8
  have cq9 := cell_regrown q9
  have cq10 := cell_regrown q10
  have cq11 := cell_regrown q11
  have cq12 := cell_regrown q12
  have cq13 := cell_regrown q13
  have cq14 := cell_regrown q14
  go_enter Try.func35, Try.ntmps35
  go_wp2_with fail
  refine wp_region_quiet_below (by kernel_rfl) (by kernel_rfl) ?_
  repeat (go_big_quiet_step (first | with_reducible exact Q1.out _ _ | with_reducible exact Q2.out _ _))
  refine wpQuiet_nil ?_
  intro _ hw'
  obtain ⟨⟨dq, osq⟩, hw''⟩ := hw'
  subst hw''
  have hB := m0.trans ((below_regrown w0 dq osq).mono m0.size)
  by_cases h1 : 0 < bb
  · by_cases h2 : bb ≤ 4096
    · go_wp2_with fail
      go_ret
      exact ⟨ret_bool (by rw [HSO.out, Bool.eq_iff_iff]; simp <;> omega), hB⟩
    · go_wp2_with fail
      go_ret
      exact ⟨ret_bool (by rw [HSO.out, Bool.eq_iff_iff]; simp <;> omega), hB⟩
  · go_wp2_with fail
    go_ret
    exact ⟨ret_bool (by rw [HSO.out, Bool.eq_iff_iff]; simp <;> omega), hB⟩
end Go.Proofs.Yteebbffecaeciaa
/- val.Same. -/
namespace Go.Proofs.Yteebbffecaeciaa
open Go.RowKit

end Go.Proofs.Yteebbffecaeciaa
