/- pred.Holds. -/
import Derived.Test.YtclmnpfdnhfbmaaPOf
import Derived.Deep.RegionHeld3
namespace Go.Proofs.Ytclmnpfdnhfbmaa
open Go.RowKit

theorem PT.fit_of_node {k n : Int} {v : VT} {len : Nat} (h : PT.node k v n len = 0) : 1 ≤ k ∧ k ≤ 11 ∧ (k ≠ 8 ∨ 0 ≤ n) ∧ PT.least k ≤ len := by
  unfold PT.node at h
  split at h
  · omega
  · split at h
    · rename_i h1; exact absurd h h1.2
    · split at h
      · omega
      · split at h
        · rename_i h1; exact absurd h h1
        · rename_i h1
          split at h
          · omega
          · refine ⟨by omega, by omega, ?_, by omega⟩
            by_cases hk : k = 8
            · right
              by_cases hn : 0 ≤ n
              · exact hn
              · exact absurd (by unfold PT.number; rw [if_pos ⟨hk, .inl (by omega)⟩]; decide) h1
            · exact .inl hk
mutual
theorem PT.chk_fit : ∀ (t : PT) (p d : Int), (t.chk p d).2 = 0 → t.fit = true
  | .mk k v n l, p, d, h => by
    rw [PT.chk] at h
    split at h
    · simp at h
    · split at h
      · rename_i h1; exact absurd h h1
      · rename_i h1
        have h2 := PT.fit_of_node (by omega : PT.node k v n l.length = 0)
        rw [PT.fit, PT.chks_fit l _ _ h]
        simp [h2.1, h2.2.1, h2.2.2.1, h2.2.2.2]
theorem PT.chks_fit : ∀ (l : List PT) (p d : Int), (PT.chks l p d).2 = 0 → PT.fits l = true
  | [], _, _, _ => by rw [PT.fits]
  | t :: ts, p, d, h => by
    rw [PT.chks] at h
    split at h
    · rename_i h1; exact absurd h h1
    · rename_i h1
      rw [PT.fits, PT.chk_fit t p (d + 1) (by omega), PT.chks_fit ts _ _ h]
      rfl
end
theorem PT.may_fit {t : PT} (h : t.may = true) : t.fit = true := by
  have h1 : t.check.2 = 0 := by simpa [PT.may] using h
  unfold PT.check at h1
  split at h1
  · rename_i h2; exact absurd h1 h2
  · rename_i h2; exact PT.chk_fit t 0 1 (by omega)

set_option maxRecDepth 100000 in
set_option maxHeartbeats 4000000 in
theorem pholds_any (t : PT) (X : VT) (x y : Value) (w : World) (hs : t.cnt ≤ 1000000) (hf : t.fat ≤ 100000) (hx : PIn w t x) (hy : VIn w X y) :
    Calls Try.prog 15 #[x, y] w fun e w' => e = .returned (.bool (t.hold X)) ∧ Below w.heap.size w w' := by
  have hfit : t.may = true → t.fit = true := PT.may_fit
  have hh : t.hold X = (t.may && t.holds X) := rfl
  rw [hh]
  have hx0 := hx
  obtain ⟨k, v, n, l⟩ := t
  obtain ⟨xk, xn, xl⟩ := X
  obtain ⟨va, vc, a, cap, hlen, hvl, rfl, hv, hr⟩ := hx.open
  obtain ⟨xa, xc, hxl, rfl, hxr⟩ := hy.open
  obtain ⟨w0, hw0, m0, s0, q0, q1, q2, q3, q4, q5⟩ := box6 w (.int .u8 k) (.int .u8 v.kind) (.int .i64 v.num) (.slice va v.items.length vc) (.int .i64 n) (.slice a l.length cap) 27
  obtain ⟨w1, hw1, m1, s1, p0, p1, p2, _⟩ := box3 w0 (.int .u8 xk) (.int .i64 xn) (.slice xa xl.length xc) 24
  have q0 := cell_stays m1 q0
  have q1 := cell_stays m1 q1
  have q2 := cell_stays m1 q2
  have q3 := cell_stays m1 q3
  have q4 := cell_stays m1 q4
  have q5 := cell_stays m1 q5
  have hB0 : Below w.heap.size w w1 := m0.trans (m1.mono m0.size)
  have hx1 := hx0.below hB0
  have hy1 := hy.below hB0
  clear hx hx0 hv hr hy hxr m0 m1 hh
  obtain ⟨b, hb⟩ : ∃ b, b = (PT.mk k v n l).may := ⟨_, rfl⟩
  rw [← hb] at hfit ⊢
  have HS := Lib.hid hs; have HF := Lib.hid hf; have HB := Lib.hid hb; have HFIT := Lib.hid hfit; clear hs hf hb hfit
  have hM : ∀ W, Below w1.heap.size w1 W → Calls Try.prog 37 #[.agg #[.int .u8 k, .int .u8 v.kind, .int .i64 v.num, .slice va v.items.length vc, .int .i64 n, .slice a l.length cap]] W fun e w' => e = .returned (.bool b) ∧ Below W.heap.size W w' := fun W hW => by
    have := pmay_any _ _ W HS.out HF.out (hx1.below hW); rwa [← HB.out] at this
  have HM := Lib.hid hM; clear hM
  cases b
  · have Q := Lib.hid (regrown HM.out)
    have c0 := cell_regrown q0
    have c1 := cell_regrown q1
    have c2 := cell_regrown q2
    have c3 := cell_regrown q3
    have c4 := cell_regrown q4
    have c5 := cell_regrown q5
    go_enter Try.func15, Try.ntmps15
    go_wp2_with fail
    refine wp_region_quiet_below (by kernel_rfl) (by kernel_rfl) ?_
    repeat (go_big_quiet_step (first | with_reducible exact Q.out _ _))
    refine wpQuiet_nil ?_
    intro _ hw'
    obtain ⟨⟨dq, osq⟩, hw''⟩ := hw'
    subst hw''
    go_wp2_with fail
    go_ret
    exact ⟨rfl, hB0.trans ((below_regrown w1 dq osq).mono hB0.size)⟩
  · have HFIT1 := Lib.hid (HFIT.out rfl); clear HFIT
    go_enter Try.func15, Try.ntmps15
    go_wp2_with fail
    go_region_with (first | (go_at_call 37; refine (HM.out _ (Below.refl _ _).drew).mono ?_; rintro e w2 ⟨rfl, hb2'⟩; have hb2 : Below w1.heap.size w1 w2 := (Below.refl _ _).drew.trans hb2'; have g0 := cell_stays hb2 q0; have g1 := cell_stays hb2 q1; have g2 := cell_stays hb2 q2; have g3 := cell_stays hb2 q3; have g4 := cell_stays hb2 q4; have g5 := cell_stays hb2 q5; have h0 := cell_stays hb2 p0; have h1 := cell_stays hb2 p1; have h2 := cell_stays hb2 p2; clear q0 q1 q2 q3 q4 q5 p0 p1 p2) | (go_at_call 52; refine (of_any w1 1000000 _ _ _ (fun _ => False) HS.out HFIT1.out hx1 hb2 (fun _ h => h.elim)).mono ?_; rintro e w3 ⟨h, rfl, ⟨T, y, f, rfl, hn, hm, hf, hc⟩, hb3⟩; have h0 := cell_stays hb3 h0; have h1 := cell_stays hb3 h1; have h2 := cell_stays hb3 h2; have hbw : Below w1.heap.size w1 w3 := hb2.trans (hb3.mono hb2.size); have HC := Lib.hid (hc w3 (.mk xk xn xl) _ ⟨Nat.le_refl _, fun _ _ _ => rfl⟩ (hy1.below hbw)); clear hc hb3) | (refine (HC.out).mono ?_; rintro e w4 ⟨rfl, hb4⟩))
    all_goals
      go_wp2_with fail
      go_ret
      exact ⟨rfl, hB0.trans ((hbw.trans (hb4.mono hbw.size)).mono hB0.size)⟩
end Go.Proofs.Ytclmnpfdnhfbmaa
