/- Texts of this claim laid into one: VWalkD, PSame, TSameA, TSame. -/
import Derived.Test.YteebbffecaeciaaM01
import Derived.Test.YteebbffecaeciaaM07
import Derived.Test.YteebbffecaeciaaM25
import Derived.Test.YteebbffecaeciaaM11
/- tombolaref14.Same, SameAll. -/
namespace Go.Proofs.Yteebbffecaeciaa
open Go.RowKit

set_option maxRecDepth 100000 in
set_option maxHeartbeats 2000000 in
theorem rsame_any (N : Nat) : ∀ (s t : VT) (v u : Value) (w : World), s.size ≤ N → VIn w s v → VIn w t u →
    Calls Try.prog 73 #[v, u] w fun e w' => e = .returned (.bool (VT.same s t)) ∧ Below w.heap.size w w' := by
  induction N with
  | zero => intro s t v u w h; have := VT.size_pos s; omega
  | succ N ih =>
    intro s t v u w hN hs ht
    obtain ⟨k, n, l⟩ := s
    obtain ⟨k', n', m⟩ := t
    obtain ⟨a, cap, hl, rfl, hr⟩ := hs.open
    obtain ⟨a', cap', hm, rfl, hr'⟩ := ht.open
    rw [VT.size] at hN
    have IH := Lib.hid ih; clear ih hs ht
    by_cases hk : k = k'
    · subst hk
      by_cases hn : n = n'
      · subst hn
        by_cases hlm : l.length = m.length
        · have HLM := Lib.hid hlm
          have hle : l.length ≤ m.length := by omega
          have hge : m.length ≤ l.length := by omega
          have hb1 : ((l.length : Int) != (m.length : Int)) = false := by simp [hlm]
          clear hlm
          go_enter Try.func73, Try.ntmps73
          go_wp2_with fail
          go_loopw [5] (fun x wr => ∃ i : Nat, x = .int .i64 i ∧ i ≤ l.length ∧ VT.sameAll l m = VT.sameAll (l.drop i) (m.drop i) ∧ Below w.heap.size w wr ∧ wr.cell? ⟨w.heap.size, 2, none⟩ = some (.slice a l.length cap) ∧ wr.cell? ⟨w.heap.size + 1, 2, none⟩ = some (.slice a' m.length cap') ∧ w.heap.size + 1 < wr.heap.size) (fun x _ => l.length - (intOf x).toNat)
          case atStart => exact ⟨0, rfl, by omega, by simp, ((Below.refl _ _).alloc (Nat.le_refl _) _).alloc (by simp) _, by go_simp, by go_simp, by simp⟩
          case round =>
            obtain ⟨i, rfl, hi, hc, hb, c2, c2', hsz⟩ := hrel
            have HC := Lib.hid hc; clear hc
            by_cases hlt : i < l.length
            · have hlt' : i < m.length := by omega
              obtain ⟨b, o, rfl, ax, cx, d0, d1, d2, hv⟩ := (hr.below hb).got i hlt
              obtain ⟨b', o', rfl, ay, cy, d0', d1', d2', hv'⟩ := (hr'.below hb).got i hlt'
              have hsl := VT.sizes_get hlt
              have HD := Lib.hid (VT.sameAll_drop hlt hlt')
              have hbl := lt_of_cell d0'
              obtain ⟨r, hr0⟩ : ∃ r, r = VT.same l[i] m[i] := ⟨_, rfl⟩
              have HR := Lib.hid hr0; clear hr0
              cases r
              all_goals
                go_wp2_with fail
                refine region_tail 10 (by kernel_rfl) (by kernel_rfl) ?_
                simp only [List.take_succ_cons, List.take_zero, List.drop_succ_cons, List.drop_zero]
                repeat still_step
                refine wpStill_nil ?_
                go_wp2_with fail
                refine (IH.out l[i] m[i] _ _ _ (by omega) (hv.below (Below.refl _ _).drew) (hv'.below (Below.refl _ _).drew)).mono ?_
                rintro e w1 ⟨rfl, hb1⟩
                rw [← HR.out]
                have hw1 : Below wr.heap.size wr w1 := (Below.refl _ wr).drew.trans hb1
                have e2 := cell_stays hw1 c2
                have e2' := cell_stays hw1 c2'
                have hsz1 := hw1.size
                go_wp2_with fail
              · go_ret
                exact ⟨ret_bool (by rw [VT.same, HC.out, HD.out, ← HR.out]; simp), hb.trans (hw1.mono (by omega))⟩
              · go_roundw
                case rel => exact ⟨i + 1, by go_num, by omega, by rw [HC.out, HD.out, ← HR.out, Bool.true_and], hb.trans (hw1.mono (by omega)), e2, e2', by omega⟩
                case measure => simp [intOf]; omega
            · go_wp2_with fail
              go_ret
              exact ⟨ret_bool (by rw [VT.same, HC.out, drop_nil hlt, drop_nil (by omega)]; simp [VT.sameAll]), hb⟩
        · have hb1 : ((l.length : Int) != (m.length : Int)) = true := by simp; omega
          go_enter Try.func73, Try.ntmps73
          go_wp2_with fail
          go_ret
          exact ⟨ret_bool (by rw [VT.same, VT.sameAll_len _ _ hlm, Bool.and_false]), ((Below.refl _ _).alloc (Nat.le_refl _) _).alloc (by simp) _⟩
      · have hb1 : (n != n') = true := by simpa using hn
        go_enter Try.func73, Try.ntmps73
        go_wp2_with fail
        go_ret
        exact ⟨ret_bool (by rw [VT.same, beq_eq_false_iff_ne.2 hn]; simp), ((Below.refl _ _).alloc (Nat.le_refl _) _).alloc (by simp) _⟩
    · have hb1 : (k != k') = true := by simpa using hk
      go_enter Try.func73, Try.ntmps73
      go_wp2_with fail
      go_ret
      exact ⟨ret_bool (by rw [VT.same, beq_eq_false_iff_ne.2 hk]; simp), ((Below.refl _ _).alloc (Nat.le_refl _) _).alloc (by simp) _⟩
end Go.Proofs.Yteebbffecaeciaa
/- pred.Same, tombolaref17.Same. -/
namespace Go.Proofs.Yteebbffecaeciaa
open Go.RowKit

theorem PT.sameAll_drop {l m : List PT} {i : Nat} (hl : i < l.length) (hm : i < m.length) : PT.sameAll (l.drop i) (m.drop i) = (PT.same l[i] m[i] && PT.sameAll (l.drop (i + 1)) (m.drop (i + 1))) := by
  rw [drop_cons hl, drop_cons hm, PT.sameAll]
theorem PT.sameAll_len : ∀ l m : List PT, l.length ≠ m.length → PT.sameAll l m = false
  | [], [], h => by simp at h
  | [], _ :: _, _ => by simp [PT.sameAll]
  | _ :: _, [], _ => by simp [PT.sameAll]
  | a :: l, b :: m, h => by rw [PT.sameAll, PT.sameAll_len l m (by simpa using h), Bool.and_false]


set_option maxRecDepth 100000 in
set_option maxHeartbeats 4000000 in
theorem rpsame_any (N : Nat) : ∀ (s t : PT) (x y : Value) (w : World), s.cnt ≤ N → PIn w s x → PIn w t y →
    Calls Try.prog 75 #[x, y] w fun e w' => e = .returned (.bool (PT.same s t)) ∧ Below w.heap.size w w' := by
  induction N with
  | zero => intro s t x y w h; have := PT.cnt_pos s; omega
  | succ N ih =>
    intro s t x y w hs hx hy
    have IH := Lib.hid ih; clear ih
    obtain ⟨k, v, n, l⟩ := s
    obtain ⟨k', v', n', l'⟩ := t
    obtain ⟨va, vc, a, cap, hlen, hvl, rfl, hv, hr⟩ := hx.open
    obtain ⟨va', vc', a', cap', hlen', hvl', rfl, hv', hr'⟩ := hy.open
    rw [PT.same]
    obtain ⟨w0, hw0, m0, s0, q0, q1, q2, q3, q4, q5⟩ := box6 w (.int .u8 k) (.int .u8 v.kind) (.int .i64 v.num) (.slice va v.items.length vc) (.int .i64 n) (.slice a l.length cap) 28
    obtain ⟨w1, hw1, m1, s1, p0, p1, p2, p3, p4, p5⟩ := box6 w0 (.int .u8 k') (.int .u8 v'.kind) (.int .i64 v'.num) (.slice va' v'.items.length vc') (.int .i64 n') (.slice a' l'.length cap') 28
    have q0 := cell_stays m1 q0
    have q1 := cell_stays m1 q1
    have q2 := cell_stays m1 q2
    have q3 := cell_stays m1 q3
    have q4 := cell_stays m1 q4
    have q5 := cell_stays m1 q5
    have hB0 : Below w.heap.size w w1 := m0.trans (m1.mono m0.size)
    have hv := hv.below hB0
    have hr := hr.below hB0
    have hv' := hv'.below hB0
    have hr' := hr'.below hB0
    clear hx hy m0 m1
    rw [PT.cnt] at hs
    have hcs : ∀ i (h : i < l.length), l[i].cnt ≤ N := fun i h => by have := PT.cnts_get h; omega
    have HCS := Lib.hid hcs; clear hcs hs
    by_cases hk : k = k'
    · subst hk
      by_cases hn : n = n'
      · subst hn
        obtain ⟨z, hz⟩ : ∃ z, z = VT.same v v' := ⟨_, rfl⟩
        rw [← hz]
        have HZ := Lib.hid hz; clear hz
        have f1 : (k != k) = false := by simp
        have f2 : (n != n) = false := by simp
        go_enter Try.func75, Try.ntmps75
        go_wp2_with fail
        refine (rsame_any _ _ _ _ _ _ (Nat.le_refl _) hv hv').mono ?_
        rintro e w2 ⟨rfl, hb2⟩
        rw [← HZ.out]
        have q5 := cell_stays hb2 q5
        have p5 := cell_stays hb2 p5
        have hr := hr.below hb2
        have hr' := hr'.below hb2
        have hB2 := hB0.trans (hb2.mono hB0.size)
        clear q0 q1 q2 q3 q4 p0 p1 p2 p3 p4 hb2 hB0 hv hv'
        cases z
        · go_wp2_with fail
          go_ret
          exact ⟨ret_bool (by simp), hB2⟩
        · by_cases hlm : l.length = l'.length
          · have HLM := Lib.hid hlm
            have hle : l.length ≤ l'.length := by omega
            have hge : l'.length ≤ l.length := by omega
            have hb1 : ((l.length : Int) != (l'.length : Int)) = false := by simp [hlm]
            clear hlm
            go_wp2_with fail
            go_loopw [5] (fun x wr => ∃ i : Nat, x = .int .i64 i ∧ i ≤ l.length ∧ PT.sameAll l l' = PT.sameAll (l.drop i) (l'.drop i) ∧ Below w2.heap.size w2 wr) (fun x _ => l.length - (intOf x).toNat)
            case atStart => exact ⟨0, rfl, by omega, by simp, Below.refl _ _⟩
            case round =>
              obtain ⟨i, rfl, hi, hc, hB⟩ := hrel
              have HC := Lib.hid hc; clear hc
              have f5 := cell_stays hB q5
              have f5' := cell_stays hB p5
              by_cases hlt : i < l.length
              · have hlt' : i < l'.length := by omega
                obtain ⟨b, o, rfl, ax, ac, a2, c2, d0, d1, d2, d3, d4, d5, hx⟩ := (hr.below hB).got i hlt
                obtain ⟨b', o', rfl, ay, ac', a2', c2', e0, e1, e2, e3, e4, e5, hy⟩ := (hr'.below hB).got i hlt'
                have hd := PT.sameAll_drop hlt hlt'
                obtain ⟨r, hr0⟩ : ∃ r, r = PT.same l[i] l'[i] := ⟨_, rfl⟩
                rw [← hr0] at hd
                have HD := Lib.hid hd; have HR := Lib.hid hr0; clear hr0 hd
                go_wp2_with fail
                refine region_tail 10 (by kernel_rfl) (by kernel_rfl) ?_
                simp only [List.take_succ_cons, List.take_zero, List.drop_succ_cons, List.drop_zero]
                repeat still_step
                refine wpStill_nil ?_
                go_wp2_with fail
                refine (IH.out l[i] l'[i] _ _ _ (HCS.out i hlt) (hx.below (Below.refl _ _).drew) (hy.below (Below.refl _ _).drew)).mono ?_
                rintro e w3 ⟨rfl, hb3⟩
                rw [← HR.out]
                have hB3 := hB.trans (((Below.refl _ _).drew.trans hb3).mono hB.size)
                clear hB hb3 f5 f5' d0 d1 d2 d3 d4 d5 e0 e1 e2 e3 e4 e5 hx hy
                cases r
                · go_wp2_with fail
                  go_ret
                  exact ⟨ret_bool (by rw [HC.out, HD.out]; simp), hB2.trans (hB3.mono hB2.size)⟩
                · go_wp2_with fail
                  go_roundw
                  case rel => exact ⟨i + 1, by go_num, by omega, by rw [HC.out, HD.out, Bool.true_and], hB3⟩
                  case measure => simp [intOf]; omega
              · go_wp2_with fail
                go_ret
                exact ⟨ret_bool (by rw [HC.out, drop_nil hlt, drop_nil (by omega)]; simp [PT.sameAll]), hB2.trans (hB.mono hB2.size)⟩
          · have hb1 : ((l.length : Int) != (l'.length : Int)) = true := by simp; omega
            have HLM := Lib.hid hlm; clear hlm
            go_wp2_with fail
            go_ret
            exact ⟨ret_bool (by rw [PT.sameAll_len _ _ HLM.out, Bool.and_false]), hB2⟩
      · have hb1 : (n != n') = true := by simpa using hn
        have f1 : (k != k) = false := by simp
        have HN := Lib.hid hn; clear hn
        go_enter Try.func75, Try.ntmps75
        go_wp2_with fail
        go_ret
        exact ⟨ret_bool (by rw [beq_eq_false_iff_ne.2 HN.out]; simp), hB0⟩
    · have hb1 : (k != k') = true := by simpa using hk
      have HK := Lib.hid hk; clear hk
      go_enter Try.func75, Try.ntmps75
      go_wp2_with fail
      go_ret
      exact ⟨ret_bool (by rw [beq_eq_false_iff_ne.2 HK.out]; simp), hB0⟩

end Go.Proofs.Yteebbffecaeciaa
/- term.Same. -/
namespace Go.Proofs.Yteebbffecaeciaa
open Go.RowKit

theorem TT.sameAll_drop {l m : List TT} {i : Nat} (hl : i < l.length) (hm : i < m.length) : TT.sameAll (l.drop i) (m.drop i) = (TT.same l[i] m[i] && TT.sameAll (l.drop (i + 1)) (m.drop (i + 1))) := by
  rw [drop_cons hl, drop_cons hm, TT.sameAll]
theorem TT.sameAll_len : ∀ l m : List TT, l.length ≠ m.length → TT.sameAll l m = false
  | [], [], h => by simp at h
  | [], _ :: _, _ => by simp [TT.sameAll]
  | _ :: _, [], _ => by simp [TT.sameAll]
  | a :: l, b :: m, h => by rw [TT.sameAll, TT.sameAll_len l m (by simpa using h), Bool.and_false]

theorem beq_drop {l m : List Int} {i : Nat} (hl : i < l.length) (hm : i < m.length) : (l.drop i == m.drop i) = (l[i] == m[i] && (l.drop (i + 1) == m.drop (i + 1))) := by rw [drop_cons hl, drop_cons hm]; rfl
end Go.Proofs.Yteebbffecaeciaa
/- term.Same. -/
namespace Go.Proofs.Yteebbffecaeciaa
open Go.RowKit

end Go.Proofs.Yteebbffecaeciaa
