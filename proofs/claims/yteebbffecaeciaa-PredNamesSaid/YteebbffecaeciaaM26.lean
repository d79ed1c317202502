/- Texts of this claim laid into one: VWalkD, PSame, TSameA, TSame. -/
import Derived.Test.YteebbffecaeciaaM01
import Derived.Test.YteebbffecaeciaaM07
import Derived.Test.YteebbffecaeciaaM25
import Derived.Test.YteebbffecaeciaaM11
/- tombolaref14.Same, SameAll. -/
namespace Go.Proofs.Yteebbffecaeciaa
open Go.RowKit

set_option maxRecDepth 100000 in
set_option maxHeartbeats 2000000 in
theorem rsame_any (N : Nat) : ∀ (s t : VT) (v u : Value) (w : World), s.size ≤ N → VIn w s v → VIn w t u →
    Calls Try.prog 73 #[v, u] w fun e w' => e = .returned (.bool (VT.same s t)) ∧ Below w.heap.size w w' := by
  induction N with
  | zero => intro s t v u w h; have := VT.size_pos s; omega
  | succ N ih =>
    intro s t v u w hN hs ht
    obtain ⟨k, n, l⟩ := s
    obtain ⟨k', n', m⟩ := t
    obtain ⟨a, cap, hl, rfl, hr⟩ := hs.open
    obtain ⟨a', cap', hm, rfl, hr'⟩ := ht.open
    rw [VT.size] at hN
    have IH := Lib.hid ih; clear ih hs ht
    by_cases hk : k = k'
    · subst hk
      by_cases hn : n = n'
      · subst hn
        by_cases hlm : l.length = m.length
        · have HLM := Lib.hid hlm
          have hle : l.length ≤ m.length := by omega
          have hge : m.length ≤ l.length := by omega
          have hb1 : ((l.length : Int) != (m.length : Int)) = false := by simp [hlm]
          clear hlm
          go_enter Try.func73, Try.ntmps73
          go_wp2_with fail
          go_loopw [5] (fun x wr => ∃ i : Nat, x = .int .i64 i ∧ i ≤ l.length ∧ VT.sameAll l m = VT.sameAll (l.drop i) (m.drop i) ∧ Below w.heap.size w wr ∧ wr.cell? ⟨w.heap.size, 2, none⟩ = some (.slice a l.length cap) ∧ wr.cell? ⟨w.heap.size + 1, 2, none⟩ = some (.slice a' m.length cap') ∧ w.heap.size + 1 < wr.heap.size) (fun x _ => l.length - (intOf x).toNat)
          case atStart => exact ⟨0, rfl, by omega, by simp, ((Below.refl _ _).alloc (Nat.le_refl _) _).alloc (by simp) _, by go_simp, by go_simp, by simp⟩
          case round =>
            obtain ⟨i, rfl, hi, hc, hb, c2, c2', hsz⟩ := hrel
            have HC := Lib.hid hc; clear hc
            by_cases hlt : i < l.length
            · have hlt' : i < m.length := by omega
              obtain ⟨b, o, rfl, ax, cx, d0, d1, d2, hv⟩ := (hr.below hb).got i hlt
              obtain ⟨b', o', rfl, ay, cy, d0', d1', d2', hv'⟩ := (hr'.below hb).got i hlt'
              have hsl := VT.sizes_get hlt
              have HD := Lib.hid (VT.sameAll_drop hlt hlt')
              have hbl := lt_of_cell d0'
              obtain ⟨r, hr0⟩ : ∃ r, r = VT.same l[i] m[i] := ⟨_, rfl⟩
              have HR := Lib.hid hr0; clear hr0
              cases r
              all_goals
                go_wp2_with fail
                refine region_tail 10 (by kernel_rfl) (by kernel_rfl) ?_
                simp only [List.take_succ_cons, List.take_zero, List.drop_succ_cons, List.drop_zero]
                repeat still_step
                refine wpStill_nil ?_
                go_wp2_with fail
                refine (IH.out l[i] m[i] _ _ _ (by omega) (hv.below (Below.refl _ _).drew) (hv'.below (Below.refl _ _).drew)).mono ?_
                rintro e w1 ⟨rfl, hb1⟩
                rw [← HR.out]
                have hw1 : Below wr.heap.size wr w1 := (Below.refl _ wr).drew.trans hb1
                have e2 := cell_stays hw1 c2
                have e2' := cell_stays hw1 c2'
                have hsz1 := hw1.size
                go_wp2_with fail
              · go_ret
                exact ⟨ret_bool (by rw [VT.same, HC.out, HD.out, ← HR.out]; simp), hb.trans (hw1.mono (by omega))⟩
              · go_roundw
                case rel => exact ⟨i + 1, by go_num, by omega, by rw [HC.out, HD.out, ← HR.out, Bool.true_and], hb.trans (hw1.mono (by omega)), e2, e2', by omega⟩
                case measure => simp [intOf]; omega
            · go_wp2_with fail
              go_ret
              exact ⟨ret_bool (by rw [VT.same, HC.out, drop_nil hlt, drop_nil (by omega)]; simp [VT.sameAll]), hb⟩
        · have hb1 : ((l.length : Int) != (m.length : Int)) = true := by simp; omega
          go_enter Try.func73, Try.ntmps73
          go_wp2_with fail
          go_ret
          exact ⟨ret_bool (by rw [VT.same, VT.sameAll_len _ _ hlm, Bool.and_false]), ((Below.refl _ _).alloc (Nat.le_refl _) _).alloc (by simp) _⟩
      · have hb1 : (n != n') = true := by simpa using hn
        go_enter Try.func73, Try.ntmps73
        go_wp2_with fail
        go_ret
        exact ⟨ret_bool (by rw [VT.same, beq_eq_false_iff_ne.2 hn]; simp), ((Below.refl _ _).alloc (Nat.le_refl _) _).alloc (by simp) _⟩
    · have hb1 : (k != k') = true := by simpa using hk
      go_enter Try.func73, Try.ntmps73
      go_wp2_with fail
      go_ret
      exact ⟨ret_bool (by rw [VT.same, beq_eq_false_iff_ne.2 hk]; simp), ((Below.refl _ _).alloc (Nat.le_refl _) _).alloc (by simp) _⟩
end Go.Proofs.Yteebbffecaeciaa
/- pred.Same, tombolaref17.Same. -/
namespace Go.Proofs.Yteebbffecaeciaa
open Go.RowKit

theorem PT.sameAll_drop {l m : List PT} {i : Nat} (hl : i < l.length) (hm : i < m.length) : PT.sameAll (l.drop i) (m.drop i) = (PT.same l[i] m[i] && PT.sameAll (l.drop (i + 1)) (m.drop (i + 1))) := by
  rw [drop_cons hl, drop_cons hm, PT.sameAll]
theorem PT.sameAll_len : ∀ l m : List PT, l.length ≠ m.length → PT.sameAll l m = false
  | [], [], h => by simp at h
  | [], _ :: _, _ => by simp [PT.sameAll]
  | _ :: _, [], _ => by simp [PT.sameAll]
  | a :: l, b :: m, h => by rw [PT.sameAll, PT.sameAll_len l m (by simpa using h), Bool.and_false]


set_option maxRecDepth 100000 in
set_option maxHeartbeats 4000000 in
theorem rpsame_any (N : Nat) : ∀ (s t : PT) (x y : Value) (w : World), s.cnt ≤ N → PIn w s x → PIn w t y →
    Calls Try.prog 75 #[x, y] w fun e w' => e = .returned (.bool (PT.same s t)) ∧ Below w.heap.size w w' := by
  induction N with
  | zero => intro s t x y w h; have := PT.cnt_pos s; omega
  | succ N ih =>
    intro s t x y w hs hx hy
    have IH := Lib.hid ih; clear ih
    obtain ⟨k, v, n, l⟩ := s
    obtain ⟨k', v', n', l'⟩ := t
    obtain ⟨va, vc, a, cap, hlen, hvl, rfl, hv, hr⟩ := hx.open
    obtain ⟨va', vc', a', cap', hlen', hvl', rfl, hv', hr'⟩ := hy.open
    rw [PT.same]
    obtain ⟨w0, hw0, m0, s0, q0, q1, q2, q3, q4, q5⟩ := box6 w (.int .u8 k) (.int .u8 v.kind) (.int .i64 v.num) (.slice va v.items.length vc) (.int .i64 n) (.slice a l.length cap) 28
    obtain ⟨w1, hw1, m1, s1, p0, p1, p2, p3, p4, p5⟩ := box6 w0 (.int .u8 k') (.int .u8 v'.kind) (.int .i64 v'.num) (.slice va' v'.items.length vc') (.int .i64 n') (.slice a' l'.length cap') 28
    have q0 := cell_stays m1 q0
    have q1 := cell_stays m1 q1
    have q2 := cell_stays m1 q2
    have q3 := cell_stays m1 q3
    have q4 := cell_stays m1 q4
    have q5 := cell_stays m1 q5
    have hB0 : Below w.heap.size w w1 := m0.trans (m1.mono m0.size)
    have hv := hv.below hB0
    have hr := hr.below hB0
    have hv' := hv'.below hB0
    have hr' := hr'.below hB0
    clear hx hy m0 m1
    rw [PT.cnt] at hs
    have hcs : ∀ i (h : i < l.length), l[i].cnt ≤ N := fun i h => by have := PT.cnts_get h; omega
    have HCS := Lib.hid hcs; clear hcs hs
    by_cases hk : k = k'
    · subst hk
      by_cases hn : n = n'
      · subst hn
        obtain ⟨z, hz⟩ : ∃ z, z = VT.same v v' := ⟨_, rfl⟩
        rw [← hz]
        have HZ := Lib.hid hz; clear hz
        have f1 : (k != k) = false := by simp
        have f2 : (n != n) = false := by simp
        go_enter Try.func75, Try.ntmps75
        go_wp2_with fail
        refine (rsame_any _ _ _ _ _ _ (Nat.le_refl _) hv hv').mono ?_
        rintro e w2 ⟨rfl, hb2⟩
        rw [← HZ.out]
        have q5 := cell_stays hb2 q5
        have p5 := cell_stays hb2 p5
        have hr := hr.below hb2
        have hr' := hr'.below hb2
        have hB2 := hB0.trans (hb2.mono hB0.size)
        clear q0 q1 q2 q3 q4 p0 p1 p2 p3 p4 hb2 hB0 hv hv'
        cases z
        · go_wp2_with fail
          go_ret
          exact ⟨ret_bool (by simp), hB2⟩
        · by_cases hlm : l.length = l'.length
          · have HLM := Lib.hid hlm
            have hle : l.length ≤ l'.length := by omega
            have hge : l'.length ≤ l.length := by omega
            have hb1 : ((l.length : Int) != (l'.length : Int)) = false := by simp [hlm]
            clear hlm
            go_wp2_with fail
            go_loopw [5] (fun x wr => ∃ i : Nat, x = .int .i64 i ∧ i ≤ l.length ∧ PT.sameAll l l' = PT.sameAll (l.drop i) (l'.drop i) ∧ Below w2.heap.size w2 wr) (fun x _ => l.length - (intOf x).toNat)
            case atStart => exact ⟨0, rfl, by omega, by simp, Below.refl _ _⟩
            case round =>
              obtain ⟨i, rfl, hi, hc, hB⟩ := hrel
              have HC := Lib.hid hc; clear hc
              have f5 := cell_stays hB q5
              have f5' := cell_stays hB p5
              by_cases hlt : i < l.length
              · have hlt' : i < l'.length := by omega
                obtain ⟨b, o, rfl, ax, ac, a2, c2, d0, d1, d2, d3, d4, d5, hx⟩ := (hr.below hB).got i hlt
                obtain ⟨b', o', rfl, ay, ac', a2', c2', e0, e1, e2, e3, e4, e5, hy⟩ := (hr'.below hB).got i hlt'
                have hd := PT.sameAll_drop hlt hlt'
                obtain ⟨r, hr0⟩ : ∃ r, r = PT.same l[i] l'[i] := ⟨_, rfl⟩
                rw [← hr0] at hd
                have HD := Lib.hid hd; have HR := Lib.hid hr0; clear hr0 hd
                go_wp2_with fail
                refine region_tail 10 (by kernel_rfl) (by kernel_rfl) ?_
                simp only [List.take_succ_cons, List.take_zero, List.drop_succ_cons, List.drop_zero]
                repeat still_step
                refine wpStill_nil ?_
                go_wp2_with fail
                refine (IH.out l[i] l'[i] _ _ _ (HCS.out i hlt) (hx.below (Below.refl _ _).drew) (hy.below (Below.refl _ _).drew)).mono ?_
                rintro e w3 ⟨rfl, hb3⟩
                rw [← HR.out]
                have hB3 := hB.trans (((Below.refl _ _).drew.trans hb3).mono hB.size)
                clear hB hb3 f5 f5' d0 d1 d2 d3 d4 d5 e0 e1 e2 e3 e4 e5 hx hy
                cases r
                · go_wp2_with fail
                  go_ret
                  exact ⟨ret_bool (by rw [HC.out, HD.out]; simp), hB2.trans (hB3.mono hB2.size)⟩
                · go_wp2_with fail
                  go_roundw
                  case rel => exact ⟨i + 1, by go_num, by omega, by rw [HC.out, HD.out, Bool.true_and], hB3⟩
                  case measure => simp [intOf]; omega
              · go_wp2_with fail
                go_ret
                exact ⟨ret_bool (by rw [HC.out, drop_nil hlt, drop_nil (by omega)]; simp [PT.sameAll]), hB2.trans (hB.mono hB2.size)⟩
          · have hb1 : ((l.length : Int) != (l'.length : Int)) = true := by simp; omega
            have HLM := Lib.hid hlm; clear hlm
            go_wp2_with fail
            go_ret
            exact ⟨ret_bool (by rw [PT.sameAll_len _ _ HLM.out, Bool.and_false]), hB2⟩
      · have hb1 : (n != n') = true := by simpa using hn
        have f1 : (k != k) = false := by simp
        have HN := Lib.hid hn; clear hn
        go_enter Try.func75, Try.ntmps75
        go_wp2_with fail
        go_ret
        exact ⟨ret_bool (by rw [beq_eq_false_iff_ne.2 HN.out]; simp), hB0⟩
    · have hb1 : (k != k') = true := by simpa using hk
      have HK := Lib.hid hk; clear hk
      go_enter Try.func75, Try.ntmps75
      go_wp2_with fail
      go_ret
      exact ⟨ret_bool (by rw [beq_eq_false_iff_ne.2 HK.out]; simp), hB0⟩

set_option maxRecDepth 100000 in
set_option maxHeartbeats 4000000 in
theorem eqfunc_of (l m : List PT) (a a' : Option Addr) (cap cap' : Nat) (w : World) (hl : l.length ≤ 1759218604390) (_hm : m.length ≤ 1759218604390) (hr : PRow w l a) (hr' : PRow w m a')
    (ih : ∀ i (h : i < l.length) (h' : i < m.length) (x y : Value) (W : World), PIn W l[i] x → PIn W m[i] y → Calls Try.prog 109 #[x, y] W fun e w' => e = .returned (.bool (PT.same l[i] m[i])) ∧ Below W.heap.size W w') :
    Calls Try.prog 131 #[.slice a l.length cap, .slice a' m.length cap', .func (.func 109) #[] #[]] w fun e w' => e = .returned (.bool (PT.sameAll l m)) ∧ Below w.heap.size w w' := by
  have IH := Lib.hid ih; clear ih
  by_cases hlm : l.length = m.length
  · have HLM := Lib.hid hlm
    have hle : l.length ≤ m.length := by omega
    have hge : m.length ≤ l.length := by omega
    have hb1 : ((l.length : Int) != (m.length : Int)) = false := by simp [hlm]
    clear hlm
    go_enter Try.func131, Try.ntmps131
    go_wp2_with fail
    go_loopw [17] (fun x wr => ∃ i : Nat, x = .int .i64 i ∧ i ≤ l.length ∧ PT.sameAll l m = PT.sameAll (l.drop i) (m.drop i) ∧ Below w.heap.size w wr) (fun x _ => l.length - (intOf x).toNat)
    case atStart => exact ⟨0, rfl, by omega, by simp, Below.refl _ _⟩
    case round =>
      obtain ⟨i, rfl, hi, hc, hB⟩ := hrel
      have HC := Lib.hid hc; clear hc
      by_cases hlt : i < l.length
      · have hlt' : i < m.length := by omega
        obtain ⟨b, o, rfl, ax, ac, a2, c2, d0, d1, d2, d3, d4, d5, hx⟩ := (hr.below hB).got i hlt
        obtain ⟨b', o', rfl, ay, ac', a2', c2', e0, e1, e2, e3, e4, e5, hy⟩ := (hr'.below hB).got i hlt'
        have hd := PT.sameAll_drop hlt hlt'
        obtain ⟨r, hr0⟩ : ∃ r, r = PT.same l[i] m[i] := ⟨_, rfl⟩
        rw [← hr0] at hd
        have HD := Lib.hid hd; have HR := Lib.hid hr0; clear hr0 hd
        obtain ⟨w3, hw3, m3, s3, r0, r1, r2, r3, r4, r5⟩ := box6 wr (.int .u8 l[i].kind) (.int .u8 l[i].val.kind) (.int .i64 l[i].val.num) (.slice ax l[i].val.items.length ac) (.int .i64 l[i].num) (.slice a2 l[i].args.length c2) 28
        obtain ⟨w4, hw4, m4, s4, t0, t1, t2, t3, t4, t5⟩ := box6 w3 (.int .u8 m[i].kind) (.int .u8 m[i].val.kind) (.int .i64 m[i].val.num) (.slice ay m[i].val.items.length ac') (.int .i64 m[i].num) (.slice a2' m[i].args.length c2') 28
        have m34 : Below wr.heap.size wr w4 := m3.trans (m4.mono m3.size)
        have e0 := cell_stays m3 e0
        have e1 := cell_stays m3 e1
        have e2 := cell_stays m3 e2
        have e3 := cell_stays m3 e3
        have e4 := cell_stays m3 e4
        have e5 := cell_stays m3 e5
        have r0 := cell_stays m4 r0
        have r1 := cell_stays m4 r1
        have r2 := cell_stays m4 r2
        have r3 := cell_stays m4 r3
        have r4 := cell_stays m4 r4
        have r5 := cell_stays m4 r5
        go_wp2_with fail
        refine (IH.out i hlt hlt' _ _ _ (hx.below m34) (hy.below m34)).mono ?_
        rintro e w5 ⟨rfl, hb5⟩
        rw [← HR.out]
        have hB5 := hB.trans ((m34.trans (hb5.mono m34.size)).mono hB.size)
        clear hB hb5 m34 m3 m4 d0 d1 d2 d3 d4 d5 e0 e1 e2 e3 e4 e5 r0 r1 r2 r3 r4 r5 t0 t1 t2 t3 t4 t5 hx hy
        cases r
        · go_wp2_with fail
          go_ret
          exact ⟨ret_bool (by rw [HC.out, HD.out]; simp), hB5⟩
        · go_wp2_with fail
          go_roundw
          case rel => exact ⟨i + 1, by go_num, by omega, by rw [HC.out, HD.out, Bool.true_and], hB5⟩
          case measure => simp [intOf]; omega
      · go_wp2_with fail
        go_ret
        exact ⟨ret_bool (by rw [HC.out, drop_nil hlt, drop_nil (by omega)]; simp [PT.sameAll]), hB⟩
  · have hb1 : ((l.length : Int) != (m.length : Int)) = true := by simp; omega
    have HLM := Lib.hid hlm; clear hlm
    go_enter Try.func131, Try.ntmps131
    go_wp2_with fail
    go_ret
    exact ⟨ret_bool (by rw [PT.sameAll_len _ _ HLM.out]), Below.refl _ _⟩

set_option maxRecDepth 100000 in
set_option maxHeartbeats 4000000 in
theorem psame_any (N : Nat) : ∀ (s t : PT) (x y : Value) (w : World), s.cnt ≤ N → PIn w s x → PIn w t y →
    Calls Try.prog 109 #[x, y] w fun e w' => e = .returned (.bool (PT.same s t)) ∧ Below w.heap.size w w' := by
  induction N with
  | zero => intro s t x y w h; have := PT.cnt_pos s; omega
  | succ N ih =>
    intro s t x y w hs hx hy
    have IH := Lib.hid ih; clear ih
    obtain ⟨k, v, n, l⟩ := s
    obtain ⟨k', v', n', l'⟩ := t
    obtain ⟨va, vc, a, cap, hlen, hvl, rfl, hv, hr⟩ := hx.open
    obtain ⟨va', vc', a', cap', hlen', hvl', rfl, hv', hr'⟩ := hy.open
    rw [PT.same]
    obtain ⟨w0, hw0, m0, s0, q0, q1, q2, q3, q4, q5⟩ := box6 w (.int .u8 k) (.int .u8 v.kind) (.int .i64 v.num) (.slice va v.items.length vc) (.int .i64 n) (.slice a l.length cap) 28
    obtain ⟨w1, hw1, m1, s1, p0, p1, p2, p3, p4, p5⟩ := box6 w0 (.int .u8 k') (.int .u8 v'.kind) (.int .i64 v'.num) (.slice va' v'.items.length vc') (.int .i64 n') (.slice a' l'.length cap') 28
    have q0 := cell_stays m1 q0
    have q1 := cell_stays m1 q1
    have q2 := cell_stays m1 q2
    have q3 := cell_stays m1 q3
    have q4 := cell_stays m1 q4
    have q5 := cell_stays m1 q5
    have hB0 : Below w.heap.size w w1 := m0.trans (m1.mono m0.size)
    have hv := hv.below hB0
    have hr := hr.below hB0
    have hv' := hv'.below hB0
    have hr' := hr'.below hB0
    clear hx hy m0 m1
    rw [PT.cnt] at hs
    have hcs : ∀ i (h : i < l.length), l[i].cnt ≤ N := fun i h => by have := PT.cnts_get h; omega
    have HCS := Lib.hid hcs; clear hcs hs
    by_cases hk : k = k'
    · subst hk
      by_cases hn : n = n'
      · subst hn
        obtain ⟨z, hz⟩ : ∃ z, z = VT.same v v' := ⟨_, rfl⟩
        rw [← hz]
        have HZ := Lib.hid hz; clear hz
        have f1 : (k == k) = true := by simp
        have f2 : (n == n) = true := by simp
        go_enter Try.func109, Try.ntmps109
        go_wp2_with fail
        refine (same_any _ _ _ _ _ _ (Nat.le_refl _) hv hv').mono ?_
        rintro e w2 ⟨rfl, hb2⟩
        rw [← HZ.out]
        have q5 := cell_stays hb2 q5
        have p5 := cell_stays hb2 p5
        have hr := hr.below hb2
        have hr' := hr'.below hb2
        have hB2 := hB0.trans (hb2.mono hB0.size)
        clear q0 q1 q2 q3 q4 p0 p1 p2 p3 p4 hb2 hB0 hv hv'
        cases z
        · go_wp2_with fail
          go_ret
          exact ⟨ret_bool (by simp), hB2⟩
        · go_wp2_with fail
          refine (eqfunc_of l l' a a' cap cap' w2 hlen hlen' hr hr' (fun i h h' x y W hx hy => IH.out _ _ x y W (HCS.out i h) hx hy)).mono ?_
          rintro e w3 ⟨rfl, hb3⟩
          go_wp2_with fail
          go_ret
          exact ⟨ret_bool (by simp), hB2.trans (hb3.mono hB2.size)⟩
      · have hb1 : (n == n') = false := by simpa using hn
        have f1 : (k == k) = true := by simp
        have HN := Lib.hid hn; clear hn
        go_enter Try.func109, Try.ntmps109
        go_wp2_with fail
        go_ret
        exact ⟨ret_bool (by rw [beq_eq_false_iff_ne.2 HN.out]; simp), hB0⟩
    · have hb1 : (k == k') = false := by simpa using hk
      have HK := Lib.hid hk; clear hk
      go_enter Try.func109, Try.ntmps109
      go_wp2_with fail
      go_ret
      exact ⟨ret_bool (by rw [beq_eq_false_iff_ne.2 HK.out]; simp), hB0⟩
end Go.Proofs.Yteebbffecaeciaa
/- term.Same. -/
namespace Go.Proofs.Yteebbffecaeciaa
open Go.RowKit

theorem TT.sameAll_drop {l m : List TT} {i : Nat} (hl : i < l.length) (hm : i < m.length) : TT.sameAll (l.drop i) (m.drop i) = (TT.same l[i] m[i] && TT.sameAll (l.drop (i + 1)) (m.drop (i + 1))) := by
  rw [drop_cons hl, drop_cons hm, TT.sameAll]
theorem TT.sameAll_len : ∀ l m : List TT, l.length ≠ m.length → TT.sameAll l m = false
  | [], [], h => by simp at h
  | [], _ :: _, _ => by simp [TT.sameAll]
  | _ :: _, [], _ => by simp [TT.sameAll]
  | a :: l, b :: m, h => by rw [TT.sameAll, TT.sameAll_len l m (by simpa using h), Bool.and_false]

set_option maxRecDepth 100000 in
set_option maxHeartbeats 4000000 in
theorem eqfuncV_any (l m : List VT) (a a' : Option Addr) (cap cap' : Nat) (w : World) (hl : l.length ≤ 3518437208780) (_hm : m.length ≤ 3518437208780) (hr : VRow w l a) (hr' : VRow w m a') :
    Calls Try.prog 107 #[.slice a l.length cap, .slice a' m.length cap', .func (.func 106) #[] #[]] w fun e w' => e = .returned (.bool (VT.sameAll l m)) ∧ Below w.heap.size w w' := by
  by_cases hlm : l.length = m.length
  · have HLM := Lib.hid hlm
    have hle : l.length ≤ m.length := by omega
    have hge : m.length ≤ l.length := by omega
    have hb1 : ((l.length : Int) != (m.length : Int)) = false := by simp [hlm]
    clear hlm
    go_enter Try.func107, Try.ntmps107
    go_wp2_with fail
    go_loopw [17] (fun x wr => ∃ i : Nat, x = .int .i64 i ∧ i ≤ l.length ∧ VT.sameAll l m = VT.sameAll (l.drop i) (m.drop i) ∧ Below w.heap.size w wr) (fun x _ => l.length - (intOf x).toNat)
    case atStart => exact ⟨0, rfl, by omega, by simp, Below.refl _ _⟩
    case round =>
      obtain ⟨i, rfl, hi, hc, hB⟩ := hrel
      have HC := Lib.hid hc; clear hc
      by_cases hlt : i < l.length
      · have hlt' : i < m.length := by omega
        obtain ⟨b, o, rfl, ax, ac, d0, d1, d2, hx⟩ := (hr.below hB).got i hlt
        obtain ⟨b', o', rfl, ay, ac', e0, e1, e2, hy⟩ := (hr'.below hB).got i hlt'
        have hd := VT.sameAll_drop hlt hlt'
        obtain ⟨r, hr0⟩ : ∃ r, r = VT.same l[i] m[i] := ⟨_, rfl⟩
        rw [← hr0] at hd
        have HD := Lib.hid hd; have HR := Lib.hid hr0; clear hr0 hd
        obtain ⟨w3, hw3, m3, s3, r0, r1, r2, _⟩ := box3 wr (.int .u8 l[i].kind) (.int .i64 l[i].num) (.slice ax l[i].items.length ac) 25
        obtain ⟨w4, hw4, m4, s4, t0, t1, t2, _⟩ := box3 w3 (.int .u8 m[i].kind) (.int .i64 m[i].num) (.slice ay m[i].items.length ac') 25
        have m34 : Below wr.heap.size wr w4 := m3.trans (m4.mono (Nat.le_of_lt s3))
        have e0 := cell_stays m3 e0
        have e1 := cell_stays m3 e1
        have e2 := cell_stays m3 e2
        have r0 := cell_stays m4 r0
        have r1 := cell_stays m4 r1
        have r2 := cell_stays m4 r2
        go_wp2_with fail
        refine (same_any _ _ _ _ _ _ (Nat.le_refl _) (hx.below m34) (hy.below m34)).mono ?_
        rintro e w5 ⟨rfl, hb5⟩
        rw [← HR.out]
        have hB5 := hB.trans ((m34.trans (hb5.mono m34.size)).mono hB.size)
        clear hB hb5 m34 m3 m4 d0 d1 d2 e0 e1 e2 r0 r1 r2 t0 t1 t2 hx hy
        cases r
        · go_wp2_with fail
          go_ret
          exact ⟨ret_bool (by rw [HC.out, HD.out]; simp), hB5⟩
        · go_wp2_with fail
          go_roundw
          case rel => exact ⟨i + 1, by go_num, by omega, by rw [HC.out, HD.out, Bool.true_and], hB5⟩
          case measure => simp [intOf]; omega
      · go_wp2_with fail
        go_ret
        exact ⟨ret_bool (by rw [HC.out, drop_nil hlt, drop_nil (by omega)]; simp [VT.sameAll]), hB⟩
  · have hb1 : ((l.length : Int) != (m.length : Int)) = true := by simp; omega
    have HLM := Lib.hid hlm; clear hlm
    go_enter Try.func107, Try.ntmps107
    go_wp2_with fail
    go_ret
    exact ⟨ret_bool (by rw [VT.sameAll_len _ _ HLM.out]), Below.refl _ _⟩

theorem beq_drop {l m : List Int} {i : Nat} (hl : i < l.length) (hm : i < m.length) : (l.drop i == m.drop i) = (l[i] == m[i] && (l.drop (i + 1) == m.drop (i + 1))) := by rw [drop_cons hl, drop_cons hm]; rfl
theorem beq_len {l m : List Int} (h : l.length ≠ m.length) : (l == m) = false := by
  rw [beq_eq_false_iff_ne]; exact fun e => h (by rw [e])
set_option maxRecDepth 100000 in
set_option maxHeartbeats 4000000 in
theorem equalW_any (l m : List Int) (a a' : Option Addr) (cap cap' : Nat) (w : World) (hl : l.length ≤ 17592186043904) (_hm : m.length ≤ 17592186043904) (hr : WRow w l a) (hr' : WRow w m a') :
    Calls Try.prog 108 #[.slice a l.length cap, .slice a' m.length cap'] w fun e w' => e = .returned (.bool (l == m)) ∧ Below w.heap.size w w' := by
  by_cases hlm : l.length = m.length
  · have HLM := Lib.hid hlm
    have hle : l.length ≤ m.length := by omega
    have hge : m.length ≤ l.length := by omega
    have hb1 : ((l.length : Int) != (m.length : Int)) = false := by simp [hlm]
    clear hlm
    go_enter Try.func108, Try.ntmps108
    go_wp2_with fail
    go_loopw [13] (fun x wr => ∃ i : Nat, x = .int .i64 i ∧ i ≤ l.length ∧ (l == m) = (l.drop i == m.drop i) ∧ Below w.heap.size w wr) (fun x _ => l.length - (intOf x).toNat)
    case atStart => exact ⟨0, rfl, by omega, by simp, Below.refl _ _⟩
    case round =>
      obtain ⟨i, rfl, hi, hc, hB⟩ := hrel
      have HC := Lib.hid hc; clear hc
      by_cases hlt : i < l.length
      · have hlt' : i < m.length := by omega
        obtain ⟨b, o, rfl, d0⟩ := (hr.below hB).get i hlt
        obtain ⟨b', o', rfl, e0⟩ := (hr'.below hB).get i hlt'
        have HD := Lib.hid (beq_drop hlt hlt')
        obtain ⟨x, hx⟩ : ∃ x, x = l[i] := ⟨_, rfl⟩
        obtain ⟨y, hy⟩ : ∃ y, y = m[i] := ⟨_, rfl⟩
        rw [← hx] at d0 HD
        rw [← hy] at e0 HD
        clear hx hy
        by_cases hxy : x = y
        · have hb2 : (x != y) = false := by simpa using hxy
          have HXY := Lib.hid (show (x == y) = true by simpa using hxy)
          clear hxy
          go_wp2_with fail
          go_region
          go_wp2_with fail
          go_roundw
          case rel => exact ⟨i + 1, by go_num, by omega, by rw [HC.out, HD.out, HXY.out, Bool.true_and], hB.drew⟩
          case measure => simp [intOf]; omega
        · have hb2 : (x != y) = true := by simpa using hxy
          have HXY := Lib.hid (show (x == y) = false by simpa using hxy)
          clear hxy
          go_wp2_with fail
          go_region
          go_wp2_with fail
          go_ret
          exact ⟨ret_bool (by rw [HC.out, HD.out, HXY.out]; simp), hB.drew⟩
      · go_wp2_with fail
        go_ret
        exact ⟨ret_bool (by rw [HC.out, drop_nil hlt, drop_nil (by omega)]; rfl), hB⟩
  · have hb1 : ((l.length : Int) != (m.length : Int)) = true := by simp; omega
    have HLM := Lib.hid hlm; clear hlm
    go_enter Try.func108, Try.ntmps108
    go_wp2_with fail
    go_ret
    exact ⟨ret_bool (by rw [beq_len HLM.out]), Below.refl _ _⟩

set_option maxRecDepth 100000 in
set_option maxHeartbeats 8000000 in
theorem eqfuncT_of (l m : List TT) (a a' : Option Addr) (cap cap' : Nat) (w : World) (hl : l.length ≤ 651562446070) (_hm : m.length ≤ 651562446070) (hr : TRow w l a) (hr' : TRow w m a')
    (ih : ∀ i (h : i < l.length) (h' : i < m.length) (x y : Value) (W : World), TIn W l[i] x → TIn W m[i] y → Calls Try.prog 84 #[x, y] W fun e w' => e = .returned (.bool (TT.same l[i] m[i])) ∧ Below W.heap.size W w') :
    Calls Try.prog 110 #[.slice a l.length cap, .slice a' m.length cap', .func (.func 84) #[] #[]] w fun e w' => e = .returned (.bool (TT.sameAll l m)) ∧ Below w.heap.size w w' := by
  have IH := Lib.hid ih; clear ih
  by_cases hlm : l.length = m.length
  · have HLM := Lib.hid hlm
    have hle : l.length ≤ m.length := by omega
    have hge : m.length ≤ l.length := by omega
    have hb1 : ((l.length : Int) != (m.length : Int)) = false := by simp [hlm]
    clear hlm
    go_enter Try.func110, Try.ntmps110
    go_wp2_with fail
    go_loopw [17] (fun x wr => ∃ i : Nat, x = .int .i64 i ∧ i ≤ l.length ∧ TT.sameAll l m = TT.sameAll (l.drop i) (m.drop i) ∧ Below w.heap.size w wr) (fun x _ => l.length - (intOf x).toNat)
    case atStart => exact ⟨0, rfl, by omega, by simp, Below.refl _ _⟩
    case round =>
      obtain ⟨i, rfl, hi, hc, hB⟩ := hrel
      have HC := Lib.hid hc; clear hc
      by_cases hlt : i < l.length
      · have hlt' : i < m.length := by omega
        obtain ⟨b, o, rfl, A, hcells, hiok⟩ := (hr.below hB).get i hlt
        have hx : TIn wr l[i] (l[i].val A) := ⟨A, rfl, hiok⟩
        obtain ⟨d0, d1, d2, d3, d4, d5, d6, d7, d8, d9, d10, d11, d12, d13, d14⟩ := hcells
        obtain ⟨b', o', rfl, A', hcells', hiok'⟩ := (hr'.below hB).get i hlt'
        have hy : TIn wr m[i] (m[i].val A') := ⟨A', rfl, hiok'⟩
        obtain ⟨e0, e1, e2, e3, e4, e5, e6, e7, e8, e9, e10, e11, e12, e13, e14⟩ := hcells'
        simp only [TT.val] at hx hy
        clear hiok hiok'
        have hd := TT.sameAll_drop hlt hlt'
        obtain ⟨r, hr0⟩ : ∃ r, r = TT.same l[i] m[i] := ⟨_, rfl⟩
        rw [← hr0] at hd
        have HD := Lib.hid hd; have HR := Lib.hid hr0; clear hr0 hd
        obtain ⟨w3, hw3, m3, s3, R3, r0, r1, r2, r3, r4, r5, r6, r7, r8, r9, r10, r11, r12, r13, r14⟩ := box15 wr (.int .u8 l[i].kind) (.int .u8 l[i].v.kind) (.int .i64 l[i].v.num) (.slice A.va l[i].v.items.length A.vc) (.slice A.sa l[i].vs.length A.sc) (.int .i64 l[i].lo) (.int .i64 l[i].hi) (.slice A.wa l[i].ws.length A.wc) (.int .u8 l[i].p.kind) (.int .u8 l[i].p.val.kind) (.int .i64 l[i].p.val.num) (.slice A.qa l[i].p.val.items.length A.qc) (.int .i64 l[i].p.num) (.slice A.pa l[i].p.args.length A.pc) (.slice A.aa l[i].args.length A.ac) 47
        obtain ⟨w4, hw4, m4, s4, R4, t0, t1, t2, t3, t4, t5, t6, t7, t8, t9, t10, t11, t12, t13, t14⟩ := box15 w3 (.int .u8 m[i].kind) (.int .u8 m[i].v.kind) (.int .i64 m[i].v.num) (.slice A'.va m[i].v.items.length A'.vc) (.slice A'.sa m[i].vs.length A'.sc) (.int .i64 m[i].lo) (.int .i64 m[i].hi) (.slice A'.wa m[i].ws.length A'.wc) (.int .u8 m[i].p.kind) (.int .u8 m[i].p.val.kind) (.int .i64 m[i].p.val.num) (.slice A'.qa m[i].p.val.items.length A'.qc) (.int .i64 m[i].p.num) (.slice A'.pa m[i].p.args.length A'.pc) (.slice A'.aa m[i].args.length A'.ac) 47
        have m34 : Below wr.heap.size wr w4 := m3.trans (m4.mono (Nat.le_of_lt s3))
        have e0 := cell_stays m3 e0
        have e1 := cell_stays m3 e1
        have e2 := cell_stays m3 e2
        have e3 := cell_stays m3 e3
        have e4 := cell_stays m3 e4
        have e5 := cell_stays m3 e5
        have e6 := cell_stays m3 e6
        have e7 := cell_stays m3 e7
        have e8 := cell_stays m3 e8
        have e9 := cell_stays m3 e9
        have e10 := cell_stays m3 e10
        have e11 := cell_stays m3 e11
        have e12 := cell_stays m3 e12
        have e13 := cell_stays m3 e13
        have e14 := cell_stays m3 e14
        have r0 := cell_stays m4 r0
        have r1 := cell_stays m4 r1
        have r2 := cell_stays m4 r2
        have r3 := cell_stays m4 r3
        have r4 := cell_stays m4 r4
        have r5 := cell_stays m4 r5
        have r6 := cell_stays m4 r6
        have r7 := cell_stays m4 r7
        have r8 := cell_stays m4 r8
        have r9 := cell_stays m4 r9
        have r10 := cell_stays m4 r10
        have r11 := cell_stays m4 r11
        have r12 := cell_stays m4 r12
        have r13 := cell_stays m4 r13
        have r14 := cell_stays m4 r14
        clear R3 R4
        go_wp2_with fail
        refine (IH.out i hlt hlt' _ _ _ (hx.below m34) (hy.below m34)).mono ?_
        rintro e w5 ⟨rfl, hb5⟩
        rw [← HR.out]
        have hB5 := hB.trans ((m34.trans (hb5.mono m34.size)).mono hB.size)
        clear hB hb5 m34 m3 m4 d0 d1 d2 d3 d4 d5 d6 d7 d8 d9 d10 d11 d12 d13 d14 e0 e1 e2 e3 e4 e5 e6 e7 e8 e9 e10 e11 e12 e13 e14 r0 r1 r2 r3 r4 r5 r6 r7 r8 r9 r10 r11 r12 r13 r14 t0 t1 t2 t3 t4 t5 t6 t7 t8 t9 t10 t11 t12 t13 t14 hx hy
        cases r
        · go_wp2_with fail
          go_ret
          exact ⟨ret_bool (by rw [HC.out, HD.out]; simp), hB5⟩
        · go_wp2_with fail
          go_roundw
          case rel => exact ⟨i + 1, by go_num, by omega, by rw [HC.out, HD.out, Bool.true_and], hB5⟩
          case measure => simp [intOf]; omega
      · go_wp2_with fail
        go_ret
        exact ⟨ret_bool (by rw [HC.out, drop_nil hlt, drop_nil (by omega)]; simp [TT.sameAll]), hB⟩
  · have hb1 : ((l.length : Int) != (m.length : Int)) = true := by simp; omega
    have HLM := Lib.hid hlm; clear hlm
    go_enter Try.func110, Try.ntmps110
    go_wp2_with fail
    go_ret
    exact ⟨ret_bool (by rw [TT.sameAll_len _ _ HLM.out]), Below.refl _ _⟩
end Go.Proofs.Yteebbffecaeciaa
/- term.Same. -/
namespace Go.Proofs.Yteebbffecaeciaa
open Go.RowKit

set_option maxRecDepth 100000 in
set_option maxHeartbeats 8000000 in
theorem tsame_any (N : Nat) : ∀ (s t : TT) (x y : Value) (w : World), s.cnt ≤ N → TIn w s x → TIn w t y →
    Calls Try.prog 84 #[x, y] w fun e w' => e = .returned (.bool (TT.same s t)) ∧ Below w.heap.size w w' := by
  induction N with
  | zero => intro s t x y w h; have := TT.cnt_pos s; omega
  | succ N ih =>
    intro s t x y w hcn hx hy
    have IH := Lib.hid ih; clear ih
    obtain ⟨k, v, vs, lo, hi, ws, p, l⟩ := s
    obtain ⟨k', v', vs', lo', hi', ws', p', l'⟩ := t
    obtain ⟨⟨va, vc, sa, sc, wa, wc, qa, qc, pa, pc, aa, ac⟩, rfl, hok⟩ := hx
    obtain ⟨⟨va', vc', sa', sc', wa', wc', qa', qc', pa', pc', aa', ac'⟩, rfl, hok'⟩ := hy
    obtain ⟨⟨hal, hsl, hwl⟩, hv, hs, hw, hp, hr⟩ := hok.parts
    obtain ⟨⟨hal', hsl', hwl'⟩, hv', hs', hw', hp', hr'⟩ := hok'.parts
    simp only [TT.v, TT.vs, TT.ws, TT.p, TT.args] at hal hsl hwl hv hs hw hp hr hal' hsl' hwl' hv' hs' hw' hp' hr'
    simp only [TT.val, TT.kind, TT.v, TT.vs, TT.lo, TT.hi, TT.ws, TT.p, TT.args]
    obtain ⟨w0, hw0, m0, s0, R0, q0, q1, q2, q3, q4, q5, q6, q7, q8, q9, q10, q11, q12, q13, q14⟩ := box15 w (.int .u8 k) (.int .u8 v.kind) (.int .i64 v.num) (.slice va v.items.length vc) (.slice sa vs.length sc) (.int .i64 lo) (.int .i64 hi) (.slice wa ws.length wc)
      (.int .u8 p.kind) (.int .u8 p.val.kind) (.int .i64 p.val.num) (.slice qa p.val.items.length qc) (.int .i64 p.num) (.slice pa p.args.length pc) (.slice aa l.length ac) 47
    obtain ⟨w1, hw1, m1, s1, R1, u0, u1, u2, u3, u4, u5, u6, u7, u8, u9, u10, u11, u12, u13, u14⟩ := box15 w0 (.int .u8 k') (.int .u8 v'.kind) (.int .i64 v'.num) (.slice va' v'.items.length vc') (.slice sa' vs'.length sc') (.int .i64 lo') (.int .i64 hi') (.slice wa' ws'.length wc')
      (.int .u8 p'.kind) (.int .u8 p'.val.kind) (.int .i64 p'.val.num) (.slice qa' p'.val.items.length qc') (.int .i64 p'.num) (.slice pa' p'.args.length pc') (.slice aa' l'.length ac') 47
    have q0 := cell_stays m1 q0
    have q1 := cell_stays m1 q1
    have q2 := cell_stays m1 q2
    have q3 := cell_stays m1 q3
    have q4 := cell_stays m1 q4
    have q5 := cell_stays m1 q5
    have q6 := cell_stays m1 q6
    have q7 := cell_stays m1 q7
    have q8 := cell_stays m1 q8
    have q9 := cell_stays m1 q9
    have q10 := cell_stays m1 q10
    have q11 := cell_stays m1 q11
    have q12 := cell_stays m1 q12
    have q13 := cell_stays m1 q13
    have q14 := cell_stays m1 q14
    have hB1 : Below w.heap.size w w1 := m0.trans (m1.mono (Nat.le_of_lt s0))
    have hv1 := hv.below hB1
    have hv1' := hv'.below hB1
    have hs1 := hs.below hB1
    have hs1' := hs'.below hB1
    have hw1' := hw.below hB1
    have hw1'' := hw'.below hB1
    have hp1 := hp.below hB1
    have hp1' := hp'.below hB1
    have hr1 := hr.below hB1
    have hr1' := hr'.below hB1
    have HS := Lib.hid (show TT.same (.mk k v vs lo hi ws p l) (.mk k' v' vs' lo' hi' ws' p' l') = (k == k' && lo == lo' && hi == hi' && VT.same v v' && VT.sameAll vs vs' && ws == ws' && PT.same p p' && TT.sameAll l l') by rw [TT.same])
    have hcs : ∀ i (h : i < l.length), l[i].cnt ≤ N := fun i h => by have := TT.cnts_get h; rw [TT.cnt] at hcn; omega
    have HCS := Lib.hid hcs
    clear hok hok' hv hv' hs hs' hw hw' hp hp' hr hr' R0 R1 m0 m1 hcs hcn
    cases h1 : (k == k')
    · have H1 := Lib.hid h1
      go_enter Try.func84, Try.ntmps84
      go_wp2_with fail
      go_ret
      exact ⟨ret_bool (by rw [HS.out, H1.out]; simp), hB1⟩
    cases h2 : (lo == lo')
    · have H2 := Lib.hid h2
      go_enter Try.func84, Try.ntmps84
      go_wp2_with fail
      go_ret
      exact ⟨ret_bool (by rw [HS.out, H2.out]; simp), hB1⟩
    cases h3 : (hi == hi')
    · have H3 := Lib.hid h3
      go_enter Try.func84, Try.ntmps84
      go_wp2_with fail
      go_ret
      exact ⟨ret_bool (by rw [HS.out, H3.out]; simp), hB1⟩
    have HS2 := Lib.hid (show TT.same (.mk k v vs lo hi ws p l) (.mk k' v' vs' lo' hi' ws' p' l') = (VT.same v v' && VT.sameAll vs vs' && ws == ws' && PT.same p p' && TT.sameAll l l') by rw [HS.out, h1, h2, h3]; simp)
    clear HS
    obtain ⟨z1, hz1⟩ : ∃ z, z = VT.same v v' := ⟨_, rfl⟩
    obtain ⟨z2, hz2⟩ : ∃ z, z = VT.sameAll vs vs' := ⟨_, rfl⟩
    obtain ⟨z3, hz3⟩ : ∃ z, z = (ws == ws') := ⟨_, rfl⟩
    obtain ⟨z4, hz4⟩ : ∃ z, z = PT.same p p' := ⟨_, rfl⟩
    obtain ⟨z5, hz5⟩ : ∃ z, z = TT.sameAll l l' := ⟨_, rfl⟩
    rw [← hz1, ← hz2, ← hz3, ← hz4, ← hz5] at HS2
    have Z1 := Lib.hid hz1; have Z2 := Lib.hid hz2; have Z3 := Lib.hid hz3; have Z4 := Lib.hid hz4; have Z5 := Lib.hid hz5
    clear hz1 hz2 hz3 hz4 hz5
    go_enter Try.func84, Try.ntmps84
    go_wp2_with fail
    refine (same_any _ _ _ _ _ _ (Nat.le_refl _) hv1 hv1').mono ?_
    rintro e w2 ⟨rfl, hb2⟩
    rw [← Z1.out]
    have q4 := cell_stays hb2 q4
    have u4 := cell_stays hb2 u4
    have q7 := cell_stays hb2 q7
    have u7 := cell_stays hb2 u7
    have q8 := cell_stays hb2 q8
    have u8 := cell_stays hb2 u8
    have q9 := cell_stays hb2 q9
    have u9 := cell_stays hb2 u9
    have q10 := cell_stays hb2 q10
    have u10 := cell_stays hb2 u10
    have q11 := cell_stays hb2 q11
    have u11 := cell_stays hb2 u11
    have q12 := cell_stays hb2 q12
    have u12 := cell_stays hb2 u12
    have q13 := cell_stays hb2 q13
    have u13 := cell_stays hb2 u13
    have q14 := cell_stays hb2 q14
    have u14 := cell_stays hb2 u14
    have hB2 := hB1.trans (hb2.mono hB1.size)
    have hs2 := hs1.below hb2
    have hs2' := hs1'.below hb2
    have hw2 := hw1'.below hb2
    have hw2' := hw1''.below hb2
    have hp2 := hp1.below hb2
    have hp2' := hp1'.below hb2
    have hr2 := hr1.below hb2
    have hr2' := hr1'.below hb2
    clear hb2 hB1 hv1 hv1' hs1 hs1' hw1' hw1'' hp1 hp1' hr1 hr1' q0 q1 q2 q3 q5 q6 u0 u1 u2 u3 u5 u6
    cases z1
    · go_wp2_with fail
      go_ret
      exact ⟨ret_bool (by rw [HS2.out]; simp), hB2⟩
    go_wp2_with fail
    refine (eqfuncV_any vs vs' sa sa' sc sc' _ hsl hsl' hs2 hs2').mono ?_
    rintro e w3 ⟨rfl, hb3⟩
    rw [← Z2.out]
    have q7 := cell_stays hb3 q7
    have u7 := cell_stays hb3 u7
    have q8 := cell_stays hb3 q8
    have u8 := cell_stays hb3 u8
    have q9 := cell_stays hb3 q9
    have u9 := cell_stays hb3 u9
    have q10 := cell_stays hb3 q10
    have u10 := cell_stays hb3 u10
    have q11 := cell_stays hb3 q11
    have u11 := cell_stays hb3 u11
    have q12 := cell_stays hb3 q12
    have u12 := cell_stays hb3 u12
    have q13 := cell_stays hb3 q13
    have u13 := cell_stays hb3 u13
    have q14 := cell_stays hb3 q14
    have u14 := cell_stays hb3 u14
    have hB3 := hB2.trans (hb3.mono hB2.size)
    have hw3 := hw2.below hb3
    have hw3' := hw2'.below hb3
    have hp3 := hp2.below hb3
    have hp3' := hp2'.below hb3
    have hr3 := hr2.below hb3
    have hr3' := hr2'.below hb3
    clear hb3 hB2 hs2 hs2' hw2 hw2' hp2 hp2' hr2 hr2' q4 u4
    cases z2
    · go_wp2_with fail
      go_ret
      exact ⟨ret_bool (by rw [HS2.out]; simp), hB3⟩
    go_wp2_with fail
    refine (equalW_any ws ws' wa wa' wc wc' _ hwl hwl' hw3 hw3').mono ?_
    rintro e w4 ⟨rfl, hb4⟩
    rw [← Z3.out]
    have q8 := cell_stays hb4 q8
    have u8 := cell_stays hb4 u8
    have q9 := cell_stays hb4 q9
    have u9 := cell_stays hb4 u9
    have q10 := cell_stays hb4 q10
    have u10 := cell_stays hb4 u10
    have q11 := cell_stays hb4 q11
    have u11 := cell_stays hb4 u11
    have q12 := cell_stays hb4 q12
    have u12 := cell_stays hb4 u12
    have q13 := cell_stays hb4 q13
    have u13 := cell_stays hb4 u13
    have q14 := cell_stays hb4 q14
    have u14 := cell_stays hb4 u14
    have hB4 := hB3.trans (hb4.mono hB3.size)
    have hp4 := hp3.below hb4
    have hp4' := hp3'.below hb4
    have hr4 := hr3.below hb4
    have hr4' := hr3'.below hb4
    clear hb4 hB3 hw3 hw3' hp3 hp3' hr3 hr3' q7 u7
    cases z3
    · go_wp2_with fail
      go_ret
      exact ⟨ret_bool (by rw [HS2.out]; simp), hB4⟩
    go_wp2_with fail
    refine (psame_any _ p p' _ _ _ (Nat.le_refl _) hp4 hp4').mono ?_
    rintro e w5 ⟨rfl, hb5⟩
    rw [← Z4.out]
    have q14 := cell_stays hb5 q14
    have u14 := cell_stays hb5 u14
    have hB5 := hB4.trans (hb5.mono hB4.size)
    have hr5 := hr4.below hb5
    have hr5' := hr4'.below hb5
    clear hb5 hB4 hp4 hp4' hr4 hr4' q8 q9 q10 q11 q12 q13 u8 u9 u10 u11 u12 u13
    cases z4
    · go_wp2_with fail
      go_ret
      exact ⟨ret_bool (by rw [HS2.out]; simp), hB5⟩
    go_wp2_with fail
    refine (eqfuncT_of l l' aa aa' ac ac' _ hal hal' hr5 hr5' (fun i h h' x y W hx hy => IH.out _ _ x y W (HCS.out i h) hx hy)).mono ?_
    rintro e w6 ⟨rfl, hb6⟩
    rw [← Z5.out]
    go_wp2_with fail
    go_ret
    exact ⟨ret_bool (by rw [HS2.out]; simp), hB5.trans (hb6.mono hB5.size)⟩
end Go.Proofs.Yteebbffecaeciaa
