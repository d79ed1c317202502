/- Texts of this claim laid into one: TSound, VWalkC. -/
import Derived.Test.YteebbffecaeciaaM24
import Derived.Test.YteebbffecaeciaaM01
/- term.Sound. -/
namespace Go.Proofs.Yteebbffecaeciaa
open Go.RowKit


/-- a call that hands back one value and turns nothing that was there, in a region that draws its order. -/
theorem regrownT {f : FuncId} {args : Array Value} {w : World} {v : Value} (h : ∀ W, Below w.heap.size w W → Calls Try.prog f args W fun e w' => e = .returned v ∧ Below W.heap.size W w') :
    ∀ d os, Calls Try.prog f args (Go.Sort.grow (redrawn w d) os) fun e w'' => e = .returned v ∧ ∃ p : Regrown, w'' = Go.Sort.grow (redrawn w p.d) p.os :=
  fun d os => Calls.regrown_of (h _ (below_regrown w d os))
set_option maxRecDepth 100000 in
set_option maxHeartbeats 4000000 in
theorem sound_any (t : TT) (x : Value) (w : World) (hs : t.cnt ≤ 3000000) (hln : t.lean = true) (hx : TIn w t x) :
    Calls Try.prog 35 #[x] w fun e w' => e = .returned (.bool t.sound) ∧ Below w.heap.size w w' := by
  have hx0 := hx
  obtain ⟨k, v, vs, lo, hi, ws, p, l⟩ := t
  obtain ⟨⟨va, vc, sa, sc, wa, wc, qa, qc, pa, pc, aa, ac⟩, rfl, hok⟩ := hx
  obtain ⟨⟨hal, hsl, hwl⟩, hv, hs, hw, hp, hr⟩ := hok.parts
  simp only [TT.v, TT.vs, TT.ws, TT.p, TT.args] at hal hsl hwl hv hs hw hp hr
  simp only [TT.val, TT.kind, TT.v, TT.vs, TT.lo, TT.hi, TT.ws, TT.p, TT.args]
  obtain ⟨w0, hw0, m0, s0, R0, q0, q1, q2, q3, q4, q5, q6, q7, q8, q9, q10, q11, q12, q13, q14⟩ := box15 w (.int .u8 k) (.int .u8 v.kind) (.int .i64 v.num) (.slice va v.items.length vc) (.slice sa vs.length sc) (.int .i64 lo) (.int .i64 hi) (.slice wa ws.length wc)
    (.int .u8 p.kind) (.int .u8 p.val.kind) (.int .i64 p.val.num) (.slice qa p.val.items.length qc) (.int .i64 p.num) (.slice pa p.args.length pc) (.slice aa l.length ac) 47
  have hv0 := hv.below m0
  have hs0 := hs.below m0
  have hw0' := hw.below m0
  have hp0 := hp.below m0
  have hr0 := hr.below m0
  have hB0 := Below.refl w0.heap.size w0
  clear hok hv hs hw hp hr R0
  have hx1 := hx0.below m0
  simp only [TT.val, TT.kind, TT.v, TT.vs, TT.lo, TT.hi, TT.ws, TT.p, TT.args] at hx1
  clear hv0 hs0 hw0' hp0 hr0 hx0
  have Q1 := Lib.hid (regrownT (w := w0) fun W hW => tbulk_any _ _ W hs hln (hx1.below hW))
  have Q2 := Lib.hid (regrownT (w := w0) fun W hW => thigh_any _ _ W hs hln (hx1.below hW))
  obtain ⟨bb, hb⟩ : ∃ b, b = (TT.mk k v vs lo hi ws p l).Bulk := ⟨_, rfl⟩
  obtain ⟨hh, hhh⟩ : ∃ b, b = (TT.mk k v vs lo hi ws p l).High := ⟨_, rfl⟩
  rw [← hb] at Q1
  rw [← hhh] at Q2
  have hso : (TT.mk k v vs lo hi ws p l).sound = (decide (0 < bb) && decide (bb ≤ 4096) && decide (hh ≤ 128)) := by unfold TT.sound; rw [hb, hhh]
  have HSO := Lib.hid hso
  clear hs hln hx1 hb hhh hso
  have cq0 := cell_regrown q0
  have cq1 := cell_regrown q1
  have cq2 := cell_regrown q2
  have cq3 := cell_regrown q3
  have cq4 := cell_regrown q4
  have cq5 := cell_regrown q5
  have cq6 := cell_regrown q6
  have cq7 := cell_regrown q7
  have cq8 := cell_regrown q8
  have cq9 := cell_regrown q9
  have cq10 := cell_regrown q10
  have cq11 := cell_regrown q11
  have cq12 := cell_regrown q12
  have cq13 := cell_regrown q13
  have cq14 := cell_regrown q14
  go_enter Try.func35, Try.ntmps35
  go_wp2_with fail
  refine wp_region_quiet_below (by kernel_rfl) (by kernel_rfl) ?_
  repeat (go_big_quiet_step (first | with_reducible exact Q1.out _ _ | with_reducible exact Q2.out _ _))
  refine wpQuiet_nil ?_
  intro _ hw'
  obtain ⟨⟨dq, osq⟩, hw''⟩ := hw'
  subst hw''
  have hB := m0.trans ((below_regrown w0 dq osq).mono m0.size)
  by_cases h1 : 0 < bb
  · by_cases h2 : bb ≤ 4096
    · go_wp2_with fail
      go_ret
      exact ⟨ret_bool (by rw [HSO.out, Bool.eq_iff_iff]; simp <;> omega), hB⟩
    · go_wp2_with fail
      go_ret
      exact ⟨ret_bool (by rw [HSO.out, Bool.eq_iff_iff]; simp <;> omega), hB⟩
  · go_wp2_with fail
    go_ret
    exact ⟨ret_bool (by rw [HSO.out, Bool.eq_iff_iff]; simp <;> omega), hB⟩
end Go.Proofs.Yteebbffecaeciaa
/- val.Same. -/
namespace Go.Proofs.Yteebbffecaeciaa
open Go.RowKit

set_option maxRecDepth 100000 in
set_option maxHeartbeats 2000000 in
theorem same_any (N : Nat) : ∀ (s t : VT) (v u : Value) (w : World), s.size ≤ N → VIn w s v → VIn w t u →
    Calls Try.prog 106 #[v, u] w fun e w' => e = .returned (.bool (VT.same s t)) ∧ Below w.heap.size w w' := by
  induction N with
  | zero => intro s t v u w h; have := VT.size_pos s; omega
  | succ N ih =>
    intro s t v u w hN hs ht
    obtain ⟨k, n, l⟩ := s
    obtain ⟨k', n', m⟩ := t
    obtain ⟨a, cap, hl, rfl, hr⟩ := hs.open
    obtain ⟨a', cap', hm, rfl, hr'⟩ := ht.open
    rw [VT.size] at hN
    have IH := Lib.hid ih; clear ih hs ht
    by_cases hk : k = k'
    · subst hk
      by_cases hn : n = n'
      · subst hn
        by_cases hlm : l.length = m.length
        · have HLM := Lib.hid hlm
          have hle : l.length ≤ m.length := by omega
          have hge : m.length ≤ l.length := by omega
          have hb1 : ((l.length : Int) != (m.length : Int)) = false := by simp [hlm]
          clear hlm
          go_enter Try.func106, Try.ntmps106
          go_wp2_with fail
          go_loopw [31] (fun x wr => ∃ i : Nat, x = .int .i64 i ∧ i ≤ l.length ∧ VT.sameAll l m = VT.sameAll (l.drop i) (m.drop i) ∧ Below w.heap.size w wr ∧ wr.cell? ⟨w.heap.size + 1, 2, none⟩ = some (.slice a' m.length cap') ∧ w.heap.size + 1 < wr.heap.size) (fun x _ => l.length - (intOf x).toNat)
          case atStart => exact ⟨0, rfl, by omega, by simp, ((Below.refl _ _).alloc (Nat.le_refl _) _).alloc (by simp) _, by go_simp, by simp⟩
          case round =>
            obtain ⟨i, rfl, hi, hc, hb, c2', hsz⟩ := hrel
            have HC := Lib.hid hc; clear hc
            by_cases hlt : i < l.length
            · have hlt' : i < m.length := by omega
              obtain ⟨b, o, rfl, ax, cx, d0, d1, d2, hv⟩ := (hr.below hb).got i hlt
              obtain ⟨b', o', rfl, ay, cy, d0', d1', d2', hv'⟩ := (hr'.below hb).got i hlt'
              have hsl := VT.sizes_get hlt
              have HD := Lib.hid (VT.sameAll_drop hlt hlt')
              have hbl := lt_of_cell d0'
              obtain ⟨r, hr0⟩ : ∃ r, r = VT.same l[i] m[i] := ⟨_, rfl⟩
              have HR := Lib.hid hr0; clear hr0
              cases r
              all_goals
                go_wp2_with fail
                refine region_tail 6 (by kernel_rfl) (by kernel_rfl) ?_
                simp only [List.take_succ_cons, List.take_zero, List.drop_succ_cons, List.drop_zero]
                repeat still_step
                refine wpStill_nil ?_
                go_wp2_with fail
                refine (IH.out l[i] m[i] _ _ _ (by omega) (hv.below ((Below.refl _ _).alloc (Nat.le_refl _) _).drew) (hv'.below ((Below.refl _ _).alloc (Nat.le_refl _) _).drew)).mono ?_
                rintro e w1 ⟨rfl, hb1⟩
                rw [← HR.out]
                have hw1 : Below wr.heap.size wr w1 := ((Below.refl _ wr).alloc (Nat.le_refl _) _).drew.trans (hb1.mono (by simp))
                have e2' := cell_stays hw1 c2'
                have hsz1 := hw1.size
                go_wp2_with fail
              · go_ret
                exact ⟨ret_bool (by rw [VT.same, HC.out, HD.out, ← HR.out]; simp), hb.trans (hw1.mono (by omega))⟩
              · go_roundw
                case rel => exact ⟨i + 1, by go_num, by omega, by rw [HC.out, HD.out, ← HR.out, Bool.true_and], hb.trans (hw1.mono (by omega)), e2', by omega⟩
                case measure => simp [intOf]; omega
            · go_wp2_with fail
              go_ret
              exact ⟨ret_bool (by rw [VT.same, HC.out, drop_nil hlt, drop_nil (by omega)]; simp [VT.sameAll]), hb⟩
        · have hb1 : ((l.length : Int) != (m.length : Int)) = true := by simp; omega
          go_enter Try.func106, Try.ntmps106
          go_wp2_with fail
          go_ret
          exact ⟨ret_bool (by rw [VT.same, VT.sameAll_len _ _ hlm, Bool.and_false]), ((Below.refl _ _).alloc (Nat.le_refl _) _).alloc (by simp) _⟩
      · have hb1 : (n != n') = true := by simpa using hn
        go_enter Try.func106, Try.ntmps106
        go_wp2_with fail
        go_ret
        exact ⟨ret_bool (by rw [VT.same, beq_eq_false_iff_ne.2 hn]; simp), ((Below.refl _ _).alloc (Nat.le_refl _) _).alloc (by simp) _⟩
    · have hb1 : (k != k') = true := by simpa using hk
      go_enter Try.func106, Try.ntmps106
      go_wp2_with fail
      go_ret
      exact ⟨ret_bool (by rw [VT.same, beq_eq_false_iff_ne.2 hk]; simp), ((Below.refl _ _).alloc (Nat.le_refl _) _).alloc (by simp) _⟩
end Go.Proofs.Yteebbffecaeciaa
