/- pred.Yes, No, Eq, Less, And, Or, Not, At, All, Any, Len. -/
import Derived.Test.YtclmnpfdnhfbmaaPCopy
namespace Go.Proofs.Ytclmnpfdnhfbmaa
open Go.RowKit

theorem pcopies_any (l : List PT) (a : Option Addr) (cap : Nat) (w : World) (hl : l.length ≤ 1759218604390) (hr : PRow w l a) : Calls Try.prog 63 #[.slice a l.length cap] w (PCopiesOf l w) :=
  pcopies_of l a cap w hl hr (fun _ _ x W hx => pcopy_any _ _ x W (Nat.le_refl _) hx)
/-- the value that is none. -/
def vNone : VT := .mk 0 0 []
theorem FIn.none (w : World) (lo : Nat) : FIn w lo vNone (.agg #[.int .u8 0, .int .i64 0, .slice none 0 0]) := by
  unfold vNone
  rw [FIn]
  exact ⟨Option.none, 0, by simp, rfl, .inl rfl⟩

set_option maxHeartbeats 2000000 in
theorem pyes_any (w : World) : Calls Try.prog 25 #[] w (PCopyOf (.mk 1 vNone 0 []) w) := by
  obtain ⟨w1, hw1, m1, s1, R1, p0, p1, p2, p3, p4, p5⟩ := box6r w (.int .u8 0) (.int .u8 0) (.int .i64 0) (.slice none 0 0) (.int .i64 0) (.slice none 0 0) 27
  have h0 := R1.frozen 0
  have h1 := R1.frozen 1
  have h2 := R1.frozen 2
  have h3 := R1.frozen 3
  have h4 := R1.frozen 4
  have h5 := R1.frozen 5
  obtain ⟨w6, hw6, y0, y1, y2, y3, y4, y5, k6, f6, sz6, bl6⟩ := set6_all (u0 := .int .u8 1) (u1 := .int .u8 0) (u2 := .int .i64 0) (u3 := .slice none 0 0) (u4 := .int .i64 0) (u5 := .slice none 0 0) p0 p1 p2 p3 p4 p5
  have hB6 : Below w.heap.size w w6 := bl6 _ _ m1 (Nat.le_refl _)
  have HP := Lib.hid (PFIn.shut (w := w6) (lo := w.heap.size) (k := 1) (n := 0) (l := []) (cap := 0) (by simp) (FIn.none w6 w.heap.size) (.inl rfl) (a := none))
  clear k6 f6 bl6
  go_enter Try.func25, Try.ntmps25
  go_wp2_with fail
  refine bodyPost_ret (v := .agg #[.int .u8 1, .int .u8 0, .int .i64 0, .slice none 0 0, .int .i64 0, .slice none 0 0]) ?_ rfl ⟨_, rfl, HP.out, hB6⟩
  simp [results, Try.results25, go_sem, y0, y1, y2, y3, y4, y5]
set_option maxHeartbeats 2000000 in
theorem pno_any (w : World) : Calls Try.prog 26 #[] w (PCopyOf (.mk 2 vNone 0 []) w) := by
  obtain ⟨w1, hw1, m1, s1, R1, p0, p1, p2, p3, p4, p5⟩ := box6r w (.int .u8 0) (.int .u8 0) (.int .i64 0) (.slice none 0 0) (.int .i64 0) (.slice none 0 0) 27
  have h0 := R1.frozen 0
  have h1 := R1.frozen 1
  have h2 := R1.frozen 2
  have h3 := R1.frozen 3
  have h4 := R1.frozen 4
  have h5 := R1.frozen 5
  obtain ⟨w6, hw6, y0, y1, y2, y3, y4, y5, k6, f6, sz6, bl6⟩ := set6_all (u0 := .int .u8 2) (u1 := .int .u8 0) (u2 := .int .i64 0) (u3 := .slice none 0 0) (u4 := .int .i64 0) (u5 := .slice none 0 0) p0 p1 p2 p3 p4 p5
  have hB6 : Below w.heap.size w w6 := bl6 _ _ m1 (Nat.le_refl _)
  have HP := Lib.hid (PFIn.shut (w := w6) (lo := w.heap.size) (k := 2) (n := 0) (l := []) (cap := 0) (by simp) (FIn.none w6 w.heap.size) (.inl rfl) (a := none))
  clear k6 f6 bl6
  go_enter Try.func26, Try.ntmps26
  go_wp2_with fail
  refine bodyPost_ret (v := .agg #[.int .u8 2, .int .u8 0, .int .i64 0, .slice none 0 0, .int .i64 0, .slice none 0 0]) ?_ rfl ⟨_, rfl, HP.out, hB6⟩
  simp [results, Try.results26, go_sem, y0, y1, y2, y3, y4, y5]

set_option maxRecDepth 100000 in
set_option maxHeartbeats 4000000 in
theorem peq_any (v : VT) (x : Value) (w : World) (hx : VIn w v x) : Calls Try.prog 20 #[x] w (PCopyOf (.mk 3 v 0 []) w) := by
  obtain ⟨xk, xn, xl⟩ := v
  obtain ⟨xa, xc, hxl, rfl, hxr⟩ := hx.open
  obtain ⟨w0, hw0, m0, s0, q0, q1, q2, _⟩ := box3 w (.int .u8 xk) (.int .i64 xn) (.slice xa xl.length xc) 24
  obtain ⟨w1, hw1, m1, s1, R1, p0, p1, p2, p3, p4, p5⟩ := box6r w0 (.int .u8 0) (.int .u8 0) (.int .i64 0) (.slice none 0 0) (.int .i64 0) (.slice none 0 0) 27
  have hB1 : Below w.heap.size w w1 := m0.trans (m1.mono (by omega))
  have q0 := cell_stays m1 q0
  have q1 := cell_stays m1 q1
  have q2 := cell_stays m1 q2
  have hx1 := hx.below hB1
  clear hx hxr m0 m1
  have S1 := Lib.hid s1; clear s1
  go_enter Try.func20, Try.ntmps20
  go_wp2_with fail
  refine (copy_any _ _ _ _ (Nat.le_refl _) hx1).mono ?_
  rintro e w2 ⟨v', rfl, hf, hb2⟩
  obtain ⟨va', vc', rfl⟩ := hf.agg
  have hs1 := S1.out
  have hs2 := hb2.size
  have R1 := R1.below (by omega) hb2
  have p0 := cell_stays hb2 p0
  have p1 := cell_stays hb2 p1
  have p2 := cell_stays hb2 p2
  have p3 := cell_stays hb2 p3
  have p4 := cell_stays hb2 p4
  have p5 := cell_stays hb2 p5
  have h0 := R1.frozen 0
  have h1 := R1.frozen 1
  have h2 := R1.frozen 2
  have h3 := R1.frozen 3
  have h4 := R1.frozen 4
  have h5 := R1.frozen 5
  obtain ⟨w6, hw6, y0, y1, y2, y3, y4, y5, k6, f6, sz6, bl6⟩ := set6_all (u0 := .int .u8 3) (u1 := .int .u8 (VT.mk xk xn xl).kind) (u2 := .int .i64 (VT.mk xk xn xl).num) (u3 := .slice va' (VT.mk xk xn xl).items.length vc') (u4 := .int .i64 0) (u5 := .slice none 0 0) p0 p1 p2 p3 p4 p5
  have hB6 : Below w.heap.size w w6 := bl6 _ _ (hB1.trans (hb2.mono hB1.size)) (by omega)
  have HP := Lib.hid (PFIn.shut (w := w6) (lo := w.heap.size) (k := 3) (n := 0) (l := []) (cap := 0) (by simp) ((hf.sets (fun b o u hb hc => k6 b o u (by omega) hc) f6).less (by omega)) (.inl rfl) (a := none))
  clear k6 f6 bl6 hf hb2
  go_wp2_with fail
  refine bodyPost_ret (v := .agg #[.int .u8 3, .int .u8 (VT.mk xk xn xl).kind, .int .i64 (VT.mk xk xn xl).num, .slice va' (VT.mk xk xn xl).items.length vc', .int .i64 0, .slice none 0 0]) ?_ rfl ⟨_, rfl, HP.out, hB6⟩
  simp [results, Try.results20, go_sem, y0, y1, y2, y3, y4, y5]
set_option maxRecDepth 100000 in
set_option maxHeartbeats 4000000 in
theorem pless_any (v : VT) (x : Value) (w : World) (hx : VIn w v x) : Calls Try.prog 19 #[x] w (PCopyOf (.mk 4 v 0 []) w) := by
  obtain ⟨xk, xn, xl⟩ := v
  obtain ⟨xa, xc, hxl, rfl, hxr⟩ := hx.open
  obtain ⟨w0, hw0, m0, s0, q0, q1, q2, _⟩ := box3 w (.int .u8 xk) (.int .i64 xn) (.slice xa xl.length xc) 24
  obtain ⟨w1, hw1, m1, s1, R1, p0, p1, p2, p3, p4, p5⟩ := box6r w0 (.int .u8 0) (.int .u8 0) (.int .i64 0) (.slice none 0 0) (.int .i64 0) (.slice none 0 0) 27
  have hB1 : Below w.heap.size w w1 := m0.trans (m1.mono (by omega))
  have q0 := cell_stays m1 q0
  have q1 := cell_stays m1 q1
  have q2 := cell_stays m1 q2
  have hx1 := hx.below hB1
  clear hx hxr m0 m1
  have S1 := Lib.hid s1; clear s1
  go_enter Try.func19, Try.ntmps19
  go_wp2_with fail
  refine (copy_any _ _ _ _ (Nat.le_refl _) hx1).mono ?_
  rintro e w2 ⟨v', rfl, hf, hb2⟩
  obtain ⟨va', vc', rfl⟩ := hf.agg
  have hs1 := S1.out
  have hs2 := hb2.size
  have R1 := R1.below (by omega) hb2
  have p0 := cell_stays hb2 p0
  have p1 := cell_stays hb2 p1
  have p2 := cell_stays hb2 p2
  have p3 := cell_stays hb2 p3
  have p4 := cell_stays hb2 p4
  have p5 := cell_stays hb2 p5
  have h0 := R1.frozen 0
  have h1 := R1.frozen 1
  have h2 := R1.frozen 2
  have h3 := R1.frozen 3
  have h4 := R1.frozen 4
  have h5 := R1.frozen 5
  obtain ⟨w6, hw6, y0, y1, y2, y3, y4, y5, k6, f6, sz6, bl6⟩ := set6_all (u0 := .int .u8 4) (u1 := .int .u8 (VT.mk xk xn xl).kind) (u2 := .int .i64 (VT.mk xk xn xl).num) (u3 := .slice va' (VT.mk xk xn xl).items.length vc') (u4 := .int .i64 0) (u5 := .slice none 0 0) p0 p1 p2 p3 p4 p5
  have hB6 : Below w.heap.size w w6 := bl6 _ _ (hB1.trans (hb2.mono hB1.size)) (by omega)
  have HP := Lib.hid (PFIn.shut (w := w6) (lo := w.heap.size) (k := 4) (n := 0) (l := []) (cap := 0) (by simp) ((hf.sets (fun b o u hb hc => k6 b o u (by omega) hc) f6).less (by omega)) (.inl rfl) (a := none))
  clear k6 f6 bl6 hf hb2
  go_wp2_with fail
  refine bodyPost_ret (v := .agg #[.int .u8 4, .int .u8 (VT.mk xk xn xl).kind, .int .i64 (VT.mk xk xn xl).num, .slice va' (VT.mk xk xn xl).items.length vc', .int .i64 0, .slice none 0 0]) ?_ rfl ⟨_, rfl, HP.out, hB6⟩
  simp [results, Try.results19, go_sem, y0, y1, y2, y3, y4, y5]

set_option maxRecDepth 100000 in
set_option maxHeartbeats 4000000 in
theorem pand_any (l : List PT) (a : Option Addr) (cap : Nat) (w : World) (hl : l.length ≤ 1759218604390) (hr : PRow w l a) : Calls Try.prog 27 #[.slice a l.length cap] w (PCopyOf (.mk 6 vNone 0 l) w) := by
  obtain ⟨w1, hw1, m1, s1, R1, p0, p1, p2, p3, p4, p5⟩ := box6r w (.int .u8 0) (.int .u8 0) (.int .i64 0) (.slice none 0 0) (.int .i64 0) (.slice none 0 0) 27
  have hr1 := hr.below m1
  have S1 := Lib.hid s1; clear s1 hr
  go_enter Try.func27, Try.ntmps27
  go_wp2_with fail
  refine (pcopies_any l a cap w1 hl hr1).mono ?_
  rintro e w2 ⟨a', cap', rfl, hf, hb2⟩
  have hs1 := S1.out
  have hs2 := hb2.size
  have R1 := R1.below (by omega) hb2
  have p0 := cell_stays hb2 p0
  have p1 := cell_stays hb2 p1
  have p2 := cell_stays hb2 p2
  have p3 := cell_stays hb2 p3
  have p4 := cell_stays hb2 p4
  have p5 := cell_stays hb2 p5
  have h0 := R1.frozen 0
  have h1 := R1.frozen 1
  have h2 := R1.frozen 2
  have h3 := R1.frozen 3
  have h4 := R1.frozen 4
  have h5 := R1.frozen 5
  obtain ⟨w6, hw6, y0, y1, y2, y3, y4, y5, k6, f6, sz6, bl6⟩ := set6_all (u0 := .int .u8 6) (u1 := .int .u8 0) (u2 := .int .i64 0) (u3 := .slice none 0 0) (u4 := .int .i64 0) (u5 := .slice a' l.length cap') p0 p1 p2 p3 p4 p5
  have hB6 : Below w.heap.size w w6 := bl6 _ _ (m1.trans (hb2.mono m1.size)) (Nat.le_refl _)
  have HP := Lib.hid (PFIn.shut (w := w6) (lo := w.heap.size) (k := 6) (n := 0) (l := l) (cap := cap') hl (FIn.none w6 w.heap.size) (hf.imp id (fun ⟨b, e, hb, hfr⟩ => ⟨b, e, by omega, PFRow.mono (by omega) (fun b o u hb hc => k6 b o u (by omega) hc) (fun b o u hb hc hf => by rw [f6]; exact hf) l b 0 hb hfr⟩)))
  clear k6 f6 bl6 hf hb2 hr1
  go_wp2_with fail
  refine bodyPost_ret (v := .agg #[.int .u8 6, .int .u8 0, .int .i64 0, .slice none 0 0, .int .i64 0, .slice a' l.length cap']) ?_ rfl ⟨_, rfl, HP.out, hB6⟩
  simp [results, Try.results27, go_sem, y0, y1, y2, y3, y4, y5]
set_option maxRecDepth 100000 in
set_option maxHeartbeats 4000000 in
theorem por_any (l : List PT) (a : Option Addr) (cap : Nat) (w : World) (hl : l.length ≤ 1759218604390) (hr : PRow w l a) : Calls Try.prog 24 #[.slice a l.length cap] w (PCopyOf (.mk 7 vNone 0 l) w) := by
  obtain ⟨w1, hw1, m1, s1, R1, p0, p1, p2, p3, p4, p5⟩ := box6r w (.int .u8 0) (.int .u8 0) (.int .i64 0) (.slice none 0 0) (.int .i64 0) (.slice none 0 0) 27
  have hr1 := hr.below m1
  have S1 := Lib.hid s1; clear s1 hr
  go_enter Try.func24, Try.ntmps24
  go_wp2_with fail
  refine (pcopies_any l a cap w1 hl hr1).mono ?_
  rintro e w2 ⟨a', cap', rfl, hf, hb2⟩
  have hs1 := S1.out
  have hs2 := hb2.size
  have R1 := R1.below (by omega) hb2
  have p0 := cell_stays hb2 p0
  have p1 := cell_stays hb2 p1
  have p2 := cell_stays hb2 p2
  have p3 := cell_stays hb2 p3
  have p4 := cell_stays hb2 p4
  have p5 := cell_stays hb2 p5
  have h0 := R1.frozen 0
  have h1 := R1.frozen 1
  have h2 := R1.frozen 2
  have h3 := R1.frozen 3
  have h4 := R1.frozen 4
  have h5 := R1.frozen 5
  obtain ⟨w6, hw6, y0, y1, y2, y3, y4, y5, k6, f6, sz6, bl6⟩ := set6_all (u0 := .int .u8 7) (u1 := .int .u8 0) (u2 := .int .i64 0) (u3 := .slice none 0 0) (u4 := .int .i64 0) (u5 := .slice a' l.length cap') p0 p1 p2 p3 p4 p5
  have hB6 : Below w.heap.size w w6 := bl6 _ _ (m1.trans (hb2.mono m1.size)) (Nat.le_refl _)
  have HP := Lib.hid (PFIn.shut (w := w6) (lo := w.heap.size) (k := 7) (n := 0) (l := l) (cap := cap') hl (FIn.none w6 w.heap.size) (hf.imp id (fun ⟨b, e, hb, hfr⟩ => ⟨b, e, by omega, PFRow.mono (by omega) (fun b o u hb hc => k6 b o u (by omega) hc) (fun b o u hb hc hf => by rw [f6]; exact hf) l b 0 hb hfr⟩)))
  clear k6 f6 bl6 hf hb2 hr1
  go_wp2_with fail
  refine bodyPost_ret (v := .agg #[.int .u8 7, .int .u8 0, .int .i64 0, .slice none 0 0, .int .i64 0, .slice a' l.length cap']) ?_ rfl ⟨_, rfl, HP.out, hB6⟩
  simp [results, Try.results24, go_sem, y0, y1, y2, y3, y4, y5]

/-- a row of one. -/
theorem pfrow_one {w : World} {lo b : Nat} {t : PT} {v0 v1 v2 v3 v4 v5 : Value} (h0 : w.cell? ⟨b, 0, none⟩ = some v0) (h1 : w.cell? ⟨b, 1, none⟩ = some v1) (h2 : w.cell? ⟨b, 2, none⟩ = some v2) (h3 : w.cell? ⟨b, 3, none⟩ = some v3)
    (h4 : w.cell? ⟨b, 4, none⟩ = some v4) (h5 : w.cell? ⟨b, 5, none⟩ = some v5) (hf : ∀ j, w.frozen? ⟨b, j, none⟩ = false) (ht : PFIn w lo t (.agg #[v0, v1, v2, v3, v4, v5])) : PFRow w lo [t] b 0 := by
  rw [PFRow]
  exact ⟨⟨v0, v1, v2, v3, v4, v5, h0, by simpa using h1, by simpa using h2, by simpa using h3, by simpa using h4, by simpa using h5, fun j _ => hf _, ht⟩, by rw [PFRow]; trivial⟩
theorem PFIn.sets {w w' : World} {lo : Nat} (hc : ∀ b o v, lo ≤ b → w.cell? ⟨b, o, none⟩ = some v → w'.cell? ⟨b, o, none⟩ = some v) (hf : ∀ p, w'.frozen? p = w.frozen? p) {t : PT} {v : Value} (h : PFIn w lo t v) : PFIn w' lo t v :=
  h.mono (Nat.le_refl _) hc (fun _ _ _ _ _ h => by rw [hf]; exact h) t v

set_option maxRecDepth 100000 in
set_option maxHeartbeats 4000000 in
theorem one_any (K : Int) (t : PT) (x : Value) (w : World) (hx : PIn w t x) : Calls Try.prog 62 #[.int .u8 K, x] w (PCopyOf (.mk K vNone 0 [t]) w) := by
  obtain ⟨k, v, n, l⟩ := t
  have hx0 := hx
  obtain ⟨va, vc, a, cap, hlen, hvl, rfl, hv, hr⟩ := hx.open
  obtain ⟨w0, hw0, m0, s0, q0, q1, q2, q3, q4, q5⟩ := box6 w (.int .u8 k) (.int .u8 v.kind) (.int .i64 v.num) (.slice va v.items.length vc) (.int .i64 n) (.slice a l.length cap) 27
  obtain ⟨w1, hw1, m1, s1, R1, p0, p1, p2, p3, p4, p5⟩ := box6r w0 (.int .u8 0) (.int .u8 0) (.int .i64 0) (.slice none 0 0) (.int .i64 0) (.slice none 0 0) 27
  have hB1 : Below w.heap.size w w1 := m0.trans (m1.mono (by omega))
  have q0 := cell_stays m1 q0
  have q1 := cell_stays m1 q1
  have q2 := cell_stays m1 q2
  have q3 := cell_stays m1 q3
  have q4 := cell_stays m1 q4
  have q5 := cell_stays m1 q5
  have hx1 := hx0.below hB1
  have hlt : w.heap.size < w0.heap.size := s0
  clear hx hx0 hv hr m0 m1 s0
  have S1 := Lib.hid s1; clear s1
  go_enter Try.func62, Try.ntmps62
  go_wp2_with fail
  refine (pcopy_any _ _ _ _ (Nat.le_refl _) hx1).mono ?_
  rintro e w2 ⟨x', rfl, hf, hb2⟩
  obtain ⟨va', vc', a', cap', hlen', hvl', rfl, hfv, hfr⟩ := hf.open
  have hs1 := S1.out
  have hs2 := hb2.size
  have R1 := R1.below (by omega) hb2
  have p0 := cell_stays hb2 p0
  have p1 := cell_stays hb2 p1
  have p2 := cell_stays hb2 p2
  have p3 := cell_stays hb2 p3
  have p4 := cell_stays hb2 p4
  have p5 := cell_stays hb2 p5
  obtain ⟨w3, hw3, m3, s3, R3, z0, z1, z2, z3, z4, z5⟩ := box6r w2 (.int .u8 k) (.int .u8 v.kind) (.int .i64 v.num) (.slice va' v.items.length vc') (.int .i64 n) (.slice a' l.length cap') 27
  have R1 := R1.below (by omega) m3
  have p0 := cell_stays m3 p0
  have p1 := cell_stays m3 p1
  have p2 := cell_stays m3 p2
  have p3 := cell_stays m3 p3
  have p4 := cell_stays m3 p4
  have p5 := cell_stays m3 p5
  have h0 := R1.frozen 0
  have h1 := R1.frozen 1
  have h2 := R1.frozen 2
  have h3 := R1.frozen 3
  have h4 := R1.frozen 4
  have h5 := R1.frozen 5
  have hf3 := hf.below m3
  obtain ⟨w6, hw6, y0, y1, y2, y3, y4, y5, k6, f6, sz6, bl6⟩ := set6_all (u0 := .int .u8 K) (u1 := .int .u8 0) (u2 := .int .i64 0) (u3 := .slice none 0 0) (u4 := .int .i64 0) (u5 := .slice (some ⟨w2.heap.size, 0, none⟩) 1 1) p0 p1 p2 p3 p4 p5
  have hB6 : Below w.heap.size w w6 := bl6 _ _ (hB1.trans ((hb2.trans (m3.mono hb2.size)).mono hB1.size)) (by omega)
  have hrow : PFRow w6 w.heap.size [.mk k v n l] w2.heap.size 0 := pfrow_one (k6 _ _ _ (by omega) z0) (k6 _ _ _ (by omega) z1) (k6 _ _ _ (by omega) z2) (k6 _ _ _ (by omega) z3) (k6 _ _ _ (by omega) z4) (k6 _ _ _ (by omega) z5)
    (fun j => by rw [f6]; exact R3.frozen j) ((hf3.sets (fun b o u hb hc => k6 b o u (by omega) hc) f6).less (by omega))
  have HP := Lib.hid (PFIn.shut (w := w6) (lo := w.heap.size) (k := K) (n := 0) (l := [.mk k v n l]) (cap := 1) (by simp) (FIn.none w6 w.heap.size) (.inr ⟨w2.heap.size, rfl, by omega, hrow⟩))
  clear k6 f6 bl6 hf hf3 hb2 m3 hfv hfr hrow
  go_wp2_with fail
  refine bodyPost_ret (v := .agg #[.int .u8 K, .int .u8 0, .int .i64 0, .slice none 0 0, .int .i64 0, .slice (some ⟨w2.heap.size, 0, none⟩) 1 1]) ?_ rfl ⟨_, rfl, HP.out, hB6⟩
  simp [results, Try.results62, go_sem, y0, y1, y2, y3, y4, y5]

set_option maxRecDepth 100000 in
set_option maxHeartbeats 4000000 in
theorem pnot_any (t : PT) (x : Value) (w : World) (hx : PIn w t x) : Calls Try.prog 23 #[x] w (PCopyOf (.mk 5 vNone 0 [t]) w) := by
  obtain ⟨k, v, n, l⟩ := t
  have hx0 := hx
  obtain ⟨va, vc, a, cap, hlen, hvl, rfl, hv, hr⟩ := hx.open
  obtain ⟨w0, hw0, m0, s0, q0, q1, q2, q3, q4, q5⟩ := box6 w (.int .u8 k) (.int .u8 v.kind) (.int .i64 v.num) (.slice va v.items.length vc) (.int .i64 n) (.slice a l.length cap) 27
  obtain ⟨w1, hw1, m1, s1, R1, p0, p1, p2, p3, p4, p5⟩ := box6r w0 (.int .u8 0) (.int .u8 0) (.int .i64 0) (.slice none 0 0) (.int .i64 0) (.slice none 0 0) 27
  have hB1 : Below w.heap.size w w1 := m0.trans (m1.mono (by omega))
  have q0 := cell_stays m1 q0
  have q1 := cell_stays m1 q1
  have q2 := cell_stays m1 q2
  have q3 := cell_stays m1 q3
  have q4 := cell_stays m1 q4
  have q5 := cell_stays m1 q5
  have hx1 := hx0.below hB1
  have hlt : w.heap.size < w0.heap.size := s0
  clear hx hx0 hv hr m0 m1 s0
  have S1 := Lib.hid s1; clear s1
  go_enter Try.func23, Try.ntmps23
  go_wp2_with fail
  refine (one_any 5 _ _ _ hx1).mono ?_
  rintro e w2 ⟨x', rfl, hf, hb2⟩
  obtain ⟨va', vc', a', cap', hlen', hvl', rfl, hfv, hfr⟩ := hf.open
  have hs1 := S1.out
  have hs2 := hb2.size
  have R1 := R1.below (by omega) hb2
  have p0 := cell_stays hb2 p0
  have p1 := cell_stays hb2 p1
  have p2 := cell_stays hb2 p2
  have p3 := cell_stays hb2 p3
  have p4 := cell_stays hb2 p4
  have p5 := cell_stays hb2 p5
  have h0 := R1.frozen 0
  have h1 := R1.frozen 1
  have h2 := R1.frozen 2
  have h3 := R1.frozen 3
  have h4 := R1.frozen 4
  have h5 := R1.frozen 5
  simp only [vNone, VT.kind, VT.num, VT.items, List.length_nil, List.length_singleton] at hf hfv ⊢
  obtain ⟨w6, hw6, y0, y1, y2, y3, y4, y5, k6, f6, sz6, bl6⟩ := set6_all (u0 := .int .u8 5) (u1 := .int .u8 0) (u2 := .int .i64 0) (u3 := .slice va' 0 vc') (u4 := .int .i64 0) (u5 := .slice a' 1 cap') p0 p1 p2 p3 p4 p5
  have hB6 : Below w.heap.size w w6 := bl6 _ _ (hB1.trans (hb2.mono hB1.size)) (by omega)
  have HP := Lib.hid ((hf.sets (fun b o u hb hc => k6 b o u (by omega) hc) f6).less (lo' := w.heap.size) (by omega))
  clear k6 f6 bl6 hf hb2 hfv hfr hlen'
  go_wp2_with fail
  refine bodyPost_ret (v := .agg #[.int .u8 5, .int .u8 0, .int .i64 0, .slice va' 0 vc', .int .i64 0, .slice a' 1 cap']) ?_ rfl ⟨_, rfl, HP.out, hB6⟩
  simp [results, Try.results23, go_sem, y0, y1, y2, y3, y4, y5]
set_option maxRecDepth 100000 in
set_option maxHeartbeats 4000000 in
theorem pall_any (t : PT) (x : Value) (w : World) (hx : PIn w t x) : Calls Try.prog 29 #[x] w (PCopyOf (.mk 9 vNone 0 [t]) w) := by
  obtain ⟨k, v, n, l⟩ := t
  have hx0 := hx
  obtain ⟨va, vc, a, cap, hlen, hvl, rfl, hv, hr⟩ := hx.open
  obtain ⟨w0, hw0, m0, s0, q0, q1, q2, q3, q4, q5⟩ := box6 w (.int .u8 k) (.int .u8 v.kind) (.int .i64 v.num) (.slice va v.items.length vc) (.int .i64 n) (.slice a l.length cap) 27
  obtain ⟨w1, hw1, m1, s1, R1, p0, p1, p2, p3, p4, p5⟩ := box6r w0 (.int .u8 0) (.int .u8 0) (.int .i64 0) (.slice none 0 0) (.int .i64 0) (.slice none 0 0) 27
  have hB1 : Below w.heap.size w w1 := m0.trans (m1.mono (by omega))
  have q0 := cell_stays m1 q0
  have q1 := cell_stays m1 q1
  have q2 := cell_stays m1 q2
  have q3 := cell_stays m1 q3
  have q4 := cell_stays m1 q4
  have q5 := cell_stays m1 q5
  have hx1 := hx0.below hB1
  have hlt : w.heap.size < w0.heap.size := s0
  clear hx hx0 hv hr m0 m1 s0
  have S1 := Lib.hid s1; clear s1
  go_enter Try.func29, Try.ntmps29
  go_wp2_with fail
  refine (one_any 9 _ _ _ hx1).mono ?_
  rintro e w2 ⟨x', rfl, hf, hb2⟩
  obtain ⟨va', vc', a', cap', hlen', hvl', rfl, hfv, hfr⟩ := hf.open
  have hs1 := S1.out
  have hs2 := hb2.size
  have R1 := R1.below (by omega) hb2
  have p0 := cell_stays hb2 p0
  have p1 := cell_stays hb2 p1
  have p2 := cell_stays hb2 p2
  have p3 := cell_stays hb2 p3
  have p4 := cell_stays hb2 p4
  have p5 := cell_stays hb2 p5
  have h0 := R1.frozen 0
  have h1 := R1.frozen 1
  have h2 := R1.frozen 2
  have h3 := R1.frozen 3
  have h4 := R1.frozen 4
  have h5 := R1.frozen 5
  simp only [vNone, VT.kind, VT.num, VT.items, List.length_nil, List.length_singleton] at hf hfv ⊢
  obtain ⟨w6, hw6, y0, y1, y2, y3, y4, y5, k6, f6, sz6, bl6⟩ := set6_all (u0 := .int .u8 9) (u1 := .int .u8 0) (u2 := .int .i64 0) (u3 := .slice va' 0 vc') (u4 := .int .i64 0) (u5 := .slice a' 1 cap') p0 p1 p2 p3 p4 p5
  have hB6 : Below w.heap.size w w6 := bl6 _ _ (hB1.trans (hb2.mono hB1.size)) (by omega)
  have HP := Lib.hid ((hf.sets (fun b o u hb hc => k6 b o u (by omega) hc) f6).less (lo' := w.heap.size) (by omega))
  clear k6 f6 bl6 hf hb2 hfv hfr hlen'
  go_wp2_with fail
  refine bodyPost_ret (v := .agg #[.int .u8 9, .int .u8 0, .int .i64 0, .slice va' 0 vc', .int .i64 0, .slice a' 1 cap']) ?_ rfl ⟨_, rfl, HP.out, hB6⟩
  simp [results, Try.results29, go_sem, y0, y1, y2, y3, y4, y5]
set_option maxRecDepth 100000 in
set_option maxHeartbeats 4000000 in
theorem pany_any (t : PT) (x : Value) (w : World) (hx : PIn w t x) : Calls Try.prog 30 #[x] w (PCopyOf (.mk 10 vNone 0 [t]) w) := by
  obtain ⟨k, v, n, l⟩ := t
  have hx0 := hx
  obtain ⟨va, vc, a, cap, hlen, hvl, rfl, hv, hr⟩ := hx.open
  obtain ⟨w0, hw0, m0, s0, q0, q1, q2, q3, q4, q5⟩ := box6 w (.int .u8 k) (.int .u8 v.kind) (.int .i64 v.num) (.slice va v.items.length vc) (.int .i64 n) (.slice a l.length cap) 27
  obtain ⟨w1, hw1, m1, s1, R1, p0, p1, p2, p3, p4, p5⟩ := box6r w0 (.int .u8 0) (.int .u8 0) (.int .i64 0) (.slice none 0 0) (.int .i64 0) (.slice none 0 0) 27
  have hB1 : Below w.heap.size w w1 := m0.trans (m1.mono (by omega))
  have q0 := cell_stays m1 q0
  have q1 := cell_stays m1 q1
  have q2 := cell_stays m1 q2
  have q3 := cell_stays m1 q3
  have q4 := cell_stays m1 q4
  have q5 := cell_stays m1 q5
  have hx1 := hx0.below hB1
  have hlt : w.heap.size < w0.heap.size := s0
  clear hx hx0 hv hr m0 m1 s0
  have S1 := Lib.hid s1; clear s1
  go_enter Try.func30, Try.ntmps30
  go_wp2_with fail
  refine (one_any 10 _ _ _ hx1).mono ?_
  rintro e w2 ⟨x', rfl, hf, hb2⟩
  obtain ⟨va', vc', a', cap', hlen', hvl', rfl, hfv, hfr⟩ := hf.open
  have hs1 := S1.out
  have hs2 := hb2.size
  have R1 := R1.below (by omega) hb2
  have p0 := cell_stays hb2 p0
  have p1 := cell_stays hb2 p1
  have p2 := cell_stays hb2 p2
  have p3 := cell_stays hb2 p3
  have p4 := cell_stays hb2 p4
  have p5 := cell_stays hb2 p5
  have h0 := R1.frozen 0
  have h1 := R1.frozen 1
  have h2 := R1.frozen 2
  have h3 := R1.frozen 3
  have h4 := R1.frozen 4
  have h5 := R1.frozen 5
  simp only [vNone, VT.kind, VT.num, VT.items, List.length_nil, List.length_singleton] at hf hfv ⊢
  obtain ⟨w6, hw6, y0, y1, y2, y3, y4, y5, k6, f6, sz6, bl6⟩ := set6_all (u0 := .int .u8 10) (u1 := .int .u8 0) (u2 := .int .i64 0) (u3 := .slice va' 0 vc') (u4 := .int .i64 0) (u5 := .slice a' 1 cap') p0 p1 p2 p3 p4 p5
  have hB6 : Below w.heap.size w w6 := bl6 _ _ (hB1.trans (hb2.mono hB1.size)) (by omega)
  have HP := Lib.hid ((hf.sets (fun b o u hb hc => k6 b o u (by omega) hc) f6).less (lo' := w.heap.size) (by omega))
  clear k6 f6 bl6 hf hb2 hfv hfr hlen'
  go_wp2_with fail
  refine bodyPost_ret (v := .agg #[.int .u8 10, .int .u8 0, .int .i64 0, .slice va' 0 vc', .int .i64 0, .slice a' 1 cap']) ?_ rfl ⟨_, rfl, HP.out, hB6⟩
  simp [results, Try.results30, go_sem, y0, y1, y2, y3, y4, y5]
set_option maxRecDepth 100000 in
set_option maxHeartbeats 4000000 in
theorem plen_any (t : PT) (x : Value) (w : World) (hx : PIn w t x) : Calls Try.prog 31 #[x] w (PCopyOf (.mk 11 vNone 0 [t]) w) := by
  obtain ⟨k, v, n, l⟩ := t
  have hx0 := hx
  obtain ⟨va, vc, a, cap, hlen, hvl, rfl, hv, hr⟩ := hx.open
  obtain ⟨w0, hw0, m0, s0, q0, q1, q2, q3, q4, q5⟩ := box6 w (.int .u8 k) (.int .u8 v.kind) (.int .i64 v.num) (.slice va v.items.length vc) (.int .i64 n) (.slice a l.length cap) 27
  obtain ⟨w1, hw1, m1, s1, R1, p0, p1, p2, p3, p4, p5⟩ := box6r w0 (.int .u8 0) (.int .u8 0) (.int .i64 0) (.slice none 0 0) (.int .i64 0) (.slice none 0 0) 27
  have hB1 : Below w.heap.size w w1 := m0.trans (m1.mono (by omega))
  have q0 := cell_stays m1 q0
  have q1 := cell_stays m1 q1
  have q2 := cell_stays m1 q2
  have q3 := cell_stays m1 q3
  have q4 := cell_stays m1 q4
  have q5 := cell_stays m1 q5
  have hx1 := hx0.below hB1
  have hlt : w.heap.size < w0.heap.size := s0
  clear hx hx0 hv hr m0 m1 s0
  have S1 := Lib.hid s1; clear s1
  go_enter Try.func31, Try.ntmps31
  go_wp2_with fail
  refine (one_any 11 _ _ _ hx1).mono ?_
  rintro e w2 ⟨x', rfl, hf, hb2⟩
  obtain ⟨va', vc', a', cap', hlen', hvl', rfl, hfv, hfr⟩ := hf.open
  have hs1 := S1.out
  have hs2 := hb2.size
  have R1 := R1.below (by omega) hb2
  have p0 := cell_stays hb2 p0
  have p1 := cell_stays hb2 p1
  have p2 := cell_stays hb2 p2
  have p3 := cell_stays hb2 p3
  have p4 := cell_stays hb2 p4
  have p5 := cell_stays hb2 p5
  have h0 := R1.frozen 0
  have h1 := R1.frozen 1
  have h2 := R1.frozen 2
  have h3 := R1.frozen 3
  have h4 := R1.frozen 4
  have h5 := R1.frozen 5
  simp only [vNone, VT.kind, VT.num, VT.items, List.length_nil, List.length_singleton] at hf hfv ⊢
  obtain ⟨w6, hw6, y0, y1, y2, y3, y4, y5, k6, f6, sz6, bl6⟩ := set6_all (u0 := .int .u8 11) (u1 := .int .u8 0) (u2 := .int .i64 0) (u3 := .slice va' 0 vc') (u4 := .int .i64 0) (u5 := .slice a' 1 cap') p0 p1 p2 p3 p4 p5
  have hB6 : Below w.heap.size w w6 := bl6 _ _ (hB1.trans (hb2.mono hB1.size)) (by omega)
  have HP := Lib.hid ((hf.sets (fun b o u hb hc => k6 b o u (by omega) hc) f6).less (lo' := w.heap.size) (by omega))
  clear k6 f6 bl6 hf hb2 hfv hfr hlen'
  go_wp2_with fail
  refine bodyPost_ret (v := .agg #[.int .u8 11, .int .u8 0, .int .i64 0, .slice va' 0 vc', .int .i64 0, .slice a' 1 cap']) ?_ rfl ⟨_, rfl, HP.out, hB6⟩
  simp [results, Try.results31, go_sem, y0, y1, y2, y3, y4, y5]

theorem set4_in {w : World} {B : Nat} {u x : Value} (q : w.cell? ⟨B, 4, none⟩ = some x) :
    ∃ w', w.setCell ⟨B, 4, none⟩ u = w' ∧ w'.cell? ⟨B, 4, none⟩ = some u ∧ (∀ b o v, (b = B → o ≠ 4) → w.cell? ⟨b, o, none⟩ = some v → w'.cell? ⟨b, o, none⟩ = some v) ∧
      (∀ p, w'.frozen? p = w.frozen? p) ∧ (∀ t b n, RowAt w t b n → RowAt w' t b n) ∧ w'.heap.size = w.heap.size ∧ ∀ lo a, Below lo a w → lo ≤ B → Below lo a w' := by
  refine ⟨_, rfl, set_same q, fun b o v h hc => ?_, fun p => World.frozen?_setCell .., fun t b n h => h.set _ _ rfl, by simp [World.setCell], fun lo a h hl => h.setCell hl _⟩
  by_cases e : b = B
  · subst e
    exact set_off hc (fun e => h rfl e.symm)
  · exact set_blk hc (fun h => e h.symm)
set_option maxRecDepth 100000 in
set_option maxHeartbeats 4000000 in
theorem pat_any (N : Int) (t : PT) (x : Value) (w : World) (hx : PIn w t x) : Calls Try.prog 28 #[.int .i64 N, x] w (PCopyOf (.mk 8 vNone N [t]) w) := by
  obtain ⟨k, v, n, l⟩ := t
  have hx0 := hx
  obtain ⟨va, vc, a, cap, hlen, hvl, rfl, hv, hr⟩ := hx.open
  obtain ⟨w0, hw0, m0, s0, q0, q1, q2, q3, q4, q5⟩ := box6 w (.int .u8 k) (.int .u8 v.kind) (.int .i64 v.num) (.slice va v.items.length vc) (.int .i64 n) (.slice a l.length cap) 27
  obtain ⟨w1, hw1, m1, s1, R1, p0, p1, p2, p3, p4, p5⟩ := box6r w0 (.int .u8 0) (.int .u8 0) (.int .i64 0) (.slice none 0 0) (.int .i64 0) (.slice none 0 0) 27
  have hB1 : Below w.heap.size w w1 := m0.trans (m1.mono (by omega))
  have q0 := cell_stays m1 q0
  have q1 := cell_stays m1 q1
  have q2 := cell_stays m1 q2
  have q3 := cell_stays m1 q3
  have q4 := cell_stays m1 q4
  have q5 := cell_stays m1 q5
  have hx1 := hx0.below hB1
  have hlt : w.heap.size < w0.heap.size := s0
  clear hx hx0 hv hr m0 m1 s0
  have S1 := Lib.hid s1; clear s1
  go_enter Try.func28, Try.ntmps28
  go_wp2_with fail
  refine (one_any 8 _ _ _ hx1).mono ?_
  rintro e w2 ⟨x', rfl, hf, hb2⟩
  obtain ⟨va', vc', a', cap', hlen', hvl', rfl, hfv, hfr⟩ := hf.open
  have hs1 := S1.out
  have hs2 := hb2.size
  have R1 := R1.below (by omega) hb2
  have p0 := cell_stays hb2 p0
  have p1 := cell_stays hb2 p1
  have p2 := cell_stays hb2 p2
  have p3 := cell_stays hb2 p3
  have p4 := cell_stays hb2 p4
  have p5 := cell_stays hb2 p5
  simp only [vNone, VT.kind, VT.num, VT.items, List.length_nil, List.length_singleton] at hf hfv hfr ⊢
  obtain ⟨w3, hw3, m3, s3, R3, z0, z1, z2, z3, z4, z5⟩ := box6r w2 (.int .u8 8) (.int .u8 0) (.int .i64 0) (.slice va' 0 vc') (.int .i64 0) (.slice a' 1 cap') 27
  have R1 := R1.below (by omega) m3
  have p0 := cell_stays m3 p0
  have p1 := cell_stays m3 p1
  have p2 := cell_stays m3 p2
  have p3 := cell_stays m3 p3
  have p4 := cell_stays m3 p4
  have p5 := cell_stays m3 p5
  have g4 := R3.frozen 4
  obtain ⟨w4, hw4, t4, k4, f4, rw4, sz4, bl4⟩ := set4_in (u := .int .i64 N) z4
  have R1 := rw4 _ _ _ R1
  have p0 := k4 _ _ _ (fun e => by omega) p0
  have p1 := k4 _ _ _ (fun e => by omega) p1
  have p2 := k4 _ _ _ (fun e => by omega) p2
  have p3 := k4 _ _ _ (fun e => by omega) p3
  have p4 := k4 _ _ _ (fun e => by omega) p4
  have p5 := k4 _ _ _ (fun e => by omega) p5
  have z0 := k4 _ _ _ (fun _ => by omega) z0
  have z1 := k4 _ _ _ (fun _ => by omega) z1
  have z2 := k4 _ _ _ (fun _ => by omega) z2
  have z3 := k4 _ _ _ (fun _ => by omega) z3
  have z5 := k4 _ _ _ (fun _ => by omega) z5
  have h0 := R1.frozen 0
  have h1 := R1.frozen 1
  have h2 := R1.frozen 2
  have h3 := R1.frozen 3
  have h4 := R1.frozen 4
  have h5 := R1.frozen 5
  obtain ⟨w6, hw6, y0, y1, y2, y3, y4, y5, k6, f6, sz6, bl6⟩ := set6_all (u0 := .int .u8 8) (u1 := .int .u8 0) (u2 := .int .i64 0) (u3 := .slice va' 0 vc') (u4 := .int .i64 N) (u5 := .slice a' 1 cap') p0 p1 p2 p3 p4 p5
  have hB6 : Below w.heap.size w w6 := bl6 _ _ (bl4 _ _ (hB1.trans ((hb2.trans (m3.mono hb2.size)).mono hB1.size)) (by omega)) (by omega)
  have hlo : ∀ b o u, w1.heap.size ≤ b → w2.cell? ⟨b, o, none⟩ = some u → w6.cell? ⟨b, o, none⟩ = some u := fun b o u hb hc => k6 b o u (by omega) (k4 b o u (fun e => by have := lt_of_cell hc; omega) (cell_stays m3 hc))
  have hfz : ∀ b o u, w1.heap.size ≤ b → w2.cell? ⟨b, o, none⟩ = some u → w2.frozen? ⟨b, o, none⟩ = false → w6.frozen? ⟨b, o, none⟩ = false := fun b o u hb hc hf => by rw [f6, f4]; exact frozen_stay m3 (lt_of_cell hc) hf
  have hpost : PFIn w6 w.heap.size (.mk 8 vNone N [.mk k v n l]) (.agg #[.int .u8 8, .int .u8 0, .int .i64 0, .slice va' 0 vc', .int .i64 N, .slice a' 1 cap']) :=
    PFIn.shut (l := [.mk k v n l]) (by simp) (hfv.mono (by omega) hlo hfz _ _) (hfr.imp id (fun ⟨b, e, hb, hr⟩ => ⟨b, e, by omega, PFRow.mono (by omega) hlo hfz _ b 0 hb hr⟩))
  have HP := Lib.hid hpost
  clear k6 f6 bl6 k4 f4 rw4 bl4 hf hb2 m3 hfv hfr hlo hfz hpost hlen'
  go_wp2_with fail
  refine bodyPost_ret (v := .agg #[.int .u8 8, .int .u8 0, .int .i64 0, .slice va' 0 vc', .int .i64 N, .slice a' 1 cap']) ?_ rfl ⟨_, rfl, HP.out, hB6⟩
  simp [results, Try.results28, go_sem, y0, y1, y2, y3, y4, y5]
end Go.Proofs.Ytclmnpfdnhfbmaa
