/- Texts of this claim laid into one: TMeasure. -/
import Derived.Test.YteebbffecaeciaaM20
import Derived.Defers
import Derived.Recover
/- term.measure: the bulk, held, and the height. -/
namespace Go.Proofs.Yteebbffecaeciaa
open Go.RowKit

set_option maxRecDepth 100000 in
theorem catch_panicking (P Q : Nat) (x y : Int) (older : List PanicEntry) (w : World) (hp : w.cell? ⟨P, 0, none⟩ = some (.int .i64 x)) (hq : w.cell? ⟨Q, 0, none⟩ = some (.int .i64 y)) (fp : w.frozen? ⟨P, 0, none⟩ = false) (fq : w.frozen? ⟨Q, 0, none⟩ = false) (hne : P ≠ Q) :
    CallsD Try.prog 103 #[.pointer (some ⟨P, 0, none⟩), .pointer (some ⟨Q, 0, none⟩)] (.panicking ({ v := tooMuchV, recovered := false } :: older)) w fun e u' w' =>
      e = .returned (.tuple #[]) ∧ u' = .panicking ({ v := tooMuchV, recovered := true } :: older) ∧ w' = ((w.alloc (.cells #[] 122)).setCell ⟨P, 0, none⟩ (.int .i64 4097)).setCell ⟨Q, 0, none⟩ (.int .i64 0) := by
  obtain ⟨w1, hw1, m1⟩ : ∃ w1, w.alloc (.cells #[] 122) = w1 ∧ Below w.heap.size w w1 := ⟨_, rfl, Below.al _⟩
  rw [hw1]
  refine callsD_of_wpS Try.func103 rfl fun c₀ cs hu => ?_
  apply wpS_seq
  apply wpS_region
  simp [wpOpsS, go_sem, recoverD, hu, Try.ntmps103, Exit.thenS]
  refine wpS_of_wp ?_
  have hta : ∀ w, (Instr.typeAssert (.iface 122 (.agg #[])) 20 122 true).run Try.prog w = .ok (.tuple #[.agg #[], .bool true]) w := fun w => by kernel_rfl
  have fp1 := frozen_stay m1 (lt_of_cell hp) fp
  have fq1 := frozen_stay m1 (lt_of_cell hq) fq
  have hp1 := cell_stays m1 hp
  have hq1 := cell_stays m1 hq
  have hne' : Q ≠ P := fun e => hne e.symm
  unfold tooMuchV
  simp only [Array.replicate_succ, Array.replicate_zero, List.push_toArray, List.append_toArray, List.nil_append, List.cons_append, List.setIfInBounds_toArray, List.set_cons_succ, List.set_cons_zero]
  go_wp2_with fail
  cases c₀
  simp_all [bodyPostS, results, Try.results103]
set_option maxRecDepth 100000 in
theorem catch_idle (P Q : Nat) (w : World) :
    CallsD Try.prog 103 #[.pointer (some ⟨P, 0, none⟩), .pointer (some ⟨Q, 0, none⟩)] .returning w fun e u' w' => e = .returned (.tuple #[]) ∧ u' = .returning ∧ w' = w := by
  refine callsD_of_wpS Try.func103 rfl fun c₀ cs hu => ?_
  apply wpS_seq
  apply wpS_region
  simp [wpOpsS, go_sem, recoverD, hu, Try.ntmps103, Exit.thenS]
  refine wpS_of_wp ?_
  simp only [Array.replicate_succ, Array.replicate_zero, List.push_toArray, List.append_toArray, List.nil_append, List.cons_append, List.setIfInBounds_toArray, List.set_cons_succ, List.set_cons_zero]
  go_wp2_with fail
  cases c₀
  simp_all [bodyPostS, results, Try.results103]

theorem Kp.row {B : Nat} {w w' : World} (h : Kp B w w') {T b n : Nat} (hb : b ≠ B) (hr : RowAt w T b n) : RowAt w' T b n := by
  have hlt := hr.lt
  obtain ⟨c, hc, hn⟩ := hr
  exact ⟨c, (h.rest b hlt hb).trans hc, hn⟩
/-- what measure tells. -/
def TT.meas (t : TT) : Nat × Nat := if t.bulk 0 ≤ 4096 then (t.bulk 0, t.high 0) else (4097, 0)
set_option maxRecDepth 100000 in
set_option maxHeartbeats 4000000 in
theorem measure_any (t : TT) (x : Value) (w : World) (hs : t.sane false = true) (hln : t.lean = true) (hx : TIn w t x) :
    Calls Try.prog 78 #[x] w fun e w' => e = .returned (.tuple #[.int .i64 t.meas.1, .int .i64 t.meas.2]) ∧ Below w.heap.size w w' := by
  have hmf : ∀ (fn : Fn) (first cap : Array Value) (w : World), (Instr.makeFunc fn first cap).run Try.prog w = .ok (.func fn first cap) w := fun _ _ _ _ => rfl
  have hx0 := hx
  have hdo := fun B => term_of w B t.cnt t (Nat.le_refl _) [] trivial hs hln
  obtain ⟨k, v, vs, lo, hi, ws, p, l⟩ := t
  obtain ⟨⟨va, vc, sa, sc, wa, wc, qa, qc, pa, pc, aa, ac⟩, rfl, hok⟩ := hx
  obtain ⟨⟨hal, hsl, hwl⟩, hv, hs, hw, hp, hr⟩ := hok.parts
  simp only [TT.v, TT.vs, TT.ws, TT.p, TT.args] at hal hsl hwl hv hs hw hp hr
  simp only [TT.val, TT.kind, TT.v, TT.vs, TT.lo, TT.hi, TT.ws, TT.p, TT.args]
  obtain ⟨w0, hw0, m0, s0, R0, q0, q1, q2, q3, q4, q5, q6, q7, q8, q9, q10, q11, q12, q13, q14⟩ := box15 w (.int .u8 k) (.int .u8 v.kind) (.int .i64 v.num) (.slice va v.items.length vc) (.slice sa vs.length sc) (.int .i64 lo) (.int .i64 hi) (.slice wa ws.length wc)
    (.int .u8 p.kind) (.int .u8 p.val.kind) (.int .i64 p.val.num) (.slice qa p.val.items.length qc) (.int .i64 p.num) (.slice pa p.args.length pc) (.slice aa l.length ac) 47
  have hv0 := hv.below m0
  have hs0 := hs.below m0
  have hw0' := hw.below m0
  have hp0 := hp.below m0
  have hr0 := hr.below m0
  have hB0 := Below.refl w0.heap.size w0
  clear hok hv hs hw hp hr R0
  clear hv0 hs0 hw0' hp0 hr0
  obtain ⟨w1, hw1, m1, s1, f1, c1⟩ : ∃ w1, w0.alloc (.cells #[.int .i64 0] 3) = w1 ∧ Below w0.heap.size w0 w1 ∧ w0.heap.size < w1.heap.size ∧ RowAt w1 3 w0.heap.size 1 ∧ w1.cell? ⟨w0.heap.size, 0, none⟩ = some (.int .i64 0) := ⟨_, rfl, Below.al _, by simp, RowAt.new w0 _ _, by go_simp⟩
  obtain ⟨w2, hw2, m2, s2, f2, c2⟩ : ∃ w2, w1.alloc (.cells #[.int .i64 0] 3) = w2 ∧ Below w1.heap.size w1 w2 ∧ w1.heap.size < w2.heap.size ∧ RowAt w2 3 w1.heap.size 1 ∧ w2.cell? ⟨w1.heap.size, 0, none⟩ = some (.int .i64 0) := ⟨_, rfl, Below.al _, by simp, RowAt.new w1 _ _, by go_simp⟩
  obtain ⟨w3, hw3, m3, s3, f3, c3⟩ : ∃ w3, w2.alloc (.cells #[.int .i64 0] 120) = w3 ∧ Below w2.heap.size w2 w3 ∧ w2.heap.size < w3.heap.size ∧ RowAt w3 120 w2.heap.size 1 ∧ w3.cell? ⟨w2.heap.size, 0, none⟩ = some (.int .i64 0) := ⟨_, rfl, Below.al _, by simp, RowAt.new w2 _ _, by go_simp⟩
  have q0 := cell_stays m1 q0
  have q1 := cell_stays m1 q1
  have q2 := cell_stays m1 q2
  have q3 := cell_stays m1 q3
  have q4 := cell_stays m1 q4
  have q5 := cell_stays m1 q5
  have q6 := cell_stays m1 q6
  have q7 := cell_stays m1 q7
  have q8 := cell_stays m1 q8
  have q9 := cell_stays m1 q9
  have q10 := cell_stays m1 q10
  have q11 := cell_stays m1 q11
  have q12 := cell_stays m1 q12
  have q13 := cell_stays m1 q13
  have q14 := cell_stays m1 q14
  have q0 := cell_stays m2 q0
  have q1 := cell_stays m2 q1
  have q2 := cell_stays m2 q2
  have q3 := cell_stays m2 q3
  have q4 := cell_stays m2 q4
  have q5 := cell_stays m2 q5
  have q6 := cell_stays m2 q6
  have q7 := cell_stays m2 q7
  have q8 := cell_stays m2 q8
  have q9 := cell_stays m2 q9
  have q10 := cell_stays m2 q10
  have q11 := cell_stays m2 q11
  have q12 := cell_stays m2 q12
  have q13 := cell_stays m2 q13
  have q14 := cell_stays m2 q14
  have q0 := cell_stays m3 q0
  have q1 := cell_stays m3 q1
  have q2 := cell_stays m3 q2
  have q3 := cell_stays m3 q3
  have q4 := cell_stays m3 q4
  have q5 := cell_stays m3 q5
  have q6 := cell_stays m3 q6
  have q7 := cell_stays m3 q7
  have q8 := cell_stays m3 q8
  have q9 := cell_stays m3 q9
  have q10 := cell_stays m3 q10
  have q11 := cell_stays m3 q11
  have q12 := cell_stays m3 q12
  have q13 := cell_stays m3 q13
  have q14 := cell_stays m3 q14
  have c1 := cell_stays m3 (cell_stays m2 c1)
  have c2 := cell_stays m3 c2
  have f1 := (f1.below s1 m2).below (Nat.lt_trans s1 s2) m3
  have f2 := f2.below s2 m3
  have hB3 : Below w.heap.size w w3 := m0.trans ((m1.trans ((m2.trans (m3.mono (Nat.le_of_lt s2))).mono (Nat.le_of_lt s1))).mono (Nat.le_of_lt s0))
  have hat : At w w2.heap.size w3 0 := ⟨hB3, by omega, f3, c3, by omega⟩
  have hx3 := hx0
  simp only [TT.val, TT.kind, TT.v, TT.vs, TT.lo, TT.hi, TT.ws, TT.p, TT.args] at hx3
  have hcall := hdo w2.heap.size w3 _ none 0 1 hat hx3 (by omega) (by omega) rfl
  simp only [Nat.one_mul, frB, frH] at hcall
  have HCALL := Lib.hid hcall; have F1 := Lib.hid f1; have F2 := Lib.hid f2
  have hn1 : w0.heap.size ≠ w2.heap.size := by omega
  have hn2 : w1.heap.size ≠ w2.heap.size := by omega
  have hn3 : w0.heap.size ≠ w1.heap.size := by omega
  have hn3' : w1.heap.size ≠ w0.heap.size := by omega
  have hn2' : w2.heap.size ≠ w1.heap.size := by omega
  have HS := Lib.hid (And.intro s0 (And.intro s1 s2))
  have hln0 := hln
  clear hcall hx3 hat hdo hx0 m0 m1 m2 m3 s0 s1 s2 s3 f1 f2 f3 hs hln hln0 c3
  obtain ⟨bk, hbk⟩ : ∃ bk, bk = TT.bulk (.mk k v vs lo hi ws p l) 0 := ⟨_, rfl⟩
  obtain ⟨hg, hhg⟩ : ∃ hg, hg = TT.high (.mk k v vs lo hi ws p l) 0 := ⟨_, rfl⟩
  have hme : TT.meas (.mk k v vs lo hi ws p l) = if bk ≤ 4096 then (bk, hg) else (4097, 0) := by rw [hbk, hhg]; rfl
  rw [← hbk, ← hhg] at HCALL
  have HME := Lib.hid hme
  clear hbk hhg hme
  go_enter_defers Try.func78, Try.ntmps78
  go_wp2_with fail
  refine HCALL.out.mono ?_
  rintro e w4 ⟨hk4, hr4, ⟨hle, rfl, hc4⟩ | ⟨hgt, rfl⟩⟩
  · simp only [Nat.zero_add] at hc4 hle
    have c1 := hk4.cell hn1 c1
    have c2 := hk4.cell hn2 c2
    have g2 := (hk4.row hn2 F2.out).frozen 0
    have g1 := (hk4.row hn1 F1.out).frozen 0
    have HK4 := Lib.hid hk4
    clear hk4 hr4 q0 q1 q2 q3 q4 q5 q6 q7 q8 q9 q10 q11 q12 q13 q14
    go_wp2_with fail
    have d1 : (w4.setCell ⟨w1.heap.size, 0, none⟩ (.int .i64 hg)).cell? ⟨w0.heap.size, 0, none⟩ = some (.int .i64 0) := set_blk c1 hn3'
    have d2 : (w4.setCell ⟨w1.heap.size, 0, none⟩ (.int .i64 hg)).cell? ⟨w1.heap.size, 0, none⟩ = some (.int .i64 hg) := set_same c2
    have d3 : (w4.setCell ⟨w1.heap.size, 0, none⟩ (.int .i64 hg)).cell? ⟨w2.heap.size, 0, none⟩ = some (.int .i64 bk) := set_blk hc4 hn2
    have z1 : (w4.setCell ⟨w1.heap.size, 0, none⟩ (.int .i64 hg)).frozen? ⟨w0.heap.size, 0, none⟩ = false := by rw [World.frozen?_setCell]; exact g1
    have z2 : (w4.setCell ⟨w1.heap.size, 0, none⟩ (.int .i64 hg)).frozen? ⟨w1.heap.size, 0, none⟩ = false := by rw [World.frozen?_setCell]; exact g2
    generalize hW5 : w4.setCell ⟨w1.heap.size, 0, none⟩ (.int .i64 hg) = w5 at *
    go_region
    go_wp2_with fail
    refine leaves_cons (f := 103) (args := #[.pointer (some ⟨w0.heap.size, 0, none⟩), .pointer (some ⟨w1.heap.size, 0, none⟩)]) (by simp) (by simp [go_sem]) ?_
    refine (catch_idle w0.heap.size w1.heap.size _).mono ?_
    rintro e u' w'' ⟨rfl, rfl, rfl⟩
    have e1 : (((w5.setCell ⟨w0.heap.size, 0, none⟩ (.int .i64 bk)).setCell ⟨w1.heap.size, 0, none⟩ (.int .i64 hg)).drew).cell? ⟨w0.heap.size, 0, none⟩ = some (.int .i64 bk) := (set_blk (v := .int .i64 hg) (set_same (v := .int .i64 bk) d1) hn3' : _)
    have e2 : (((w5.setCell ⟨w0.heap.size, 0, none⟩ (.int .i64 bk)).setCell ⟨w1.heap.size, 0, none⟩ (.int .i64 hg)).drew).cell? ⟨w1.heap.size, 0, none⟩ = some (.int .i64 hg) := (set_same (set_blk (v := .int .i64 bk) d2 hn3) : _)
    have hs := HS.out
    have hb : Below w.heap.size w ((w5.setCell ⟨w0.heap.size, 0, none⟩ (.int .i64 bk)).setCell ⟨w1.heap.size, 0, none⟩ (.int .i64 hg)).drew := by
      rw [← hW5]
      have h1 : Below w.heap.size w w4 := hB3.trans (HK4.out.below.mono (by omega))
      exact (((h1.setCell (p := ⟨w1.heap.size, 0, none⟩) (by show w.heap.size ≤ w1.heap.size; omega) _).setCell (p := ⟨w0.heap.size, 0, none⟩) (by show w.heap.size ≤ w0.heap.size; omega) _).setCell (p := ⟨w1.heap.size, 0, none⟩) (by show w.heap.size ≤ w1.heap.size; omega) _).drew
    have hme := HME.out
    rw [if_pos hle] at hme
    generalize ((w5.setCell ⟨w0.heap.size, 0, none⟩ (.int .i64 bk)).setCell ⟨w1.heap.size, 0, none⟩ (.int .i64 hg)).drew = wE at e1 e2 hb ⊢
    simp [Leaves, settle, results, Try.results78, go_sem, e1, e2, hme, hb]
  · have c1 := hk4.cell hn1 c1
    have c2 := hk4.cell hn2 c2
    have g2 := (hk4.row hn2 F2.out).frozen 0
    have g1 := (hk4.row hn1 F1.out).frozen 0
    have HK4 := Lib.hid hk4
    clear hk4 hr4 q0 q1 q2 q3 q4 q5 q6 q7 q8 q9 q10 q11 q12 q13 q14
    go_wp2_with fail
    refine leaves_cons (f := 103) (args := #[.pointer (some ⟨w0.heap.size, 0, none⟩), .pointer (some ⟨w1.heap.size, 0, none⟩)]) (by simp) (by simp [go_sem]) ?_
    refine (catch_panicking w0.heap.size w1.heap.size _ _ [] _ c1 c2 g1 g2 hn3).mono ?_
    rintro e u' w'' ⟨rfl, rfl, rfl⟩
    have e0 := cell_stays (Below.al (.cells #[] 122)) c1
    have e0' := cell_stays (Below.al (.cells #[] 122)) c2
    have e1 := set_blk (o' := 0) (v := .int .i64 0) (set_same (v := .int .i64 4097) e0) hn3'
    have e2 := set_same (v := .int .i64 0) (set_blk (o' := 0) (v := .int .i64 4097) e0' hn3)
    have hs := HS.out
    have hb : Below w.heap.size w (((w4.alloc (.cells #[] 122)).setCell ⟨w0.heap.size, 0, none⟩ (.int .i64 4097)).setCell ⟨w1.heap.size, 0, none⟩ (.int .i64 0)) := by
      have h1 : Below w.heap.size w w4 := hB3.trans (HK4.out.below.mono (by omega))
      exact ((h1.alloc h1.size _).setCell (p := ⟨w0.heap.size, 0, none⟩) (by show w.heap.size ≤ w0.heap.size; omega) _).setCell (p := ⟨w1.heap.size, 0, none⟩) (by show w.heap.size ≤ w1.heap.size; omega) _
    have hme := HME.out
    rw [if_neg (by omega)] at hme
    generalize ((w4.alloc (.cells #[] 122)).setCell ⟨w0.heap.size, 0, none⟩ (.int .i64 4097)).setCell ⟨w1.heap.size, 0, none⟩ (.int .i64 0) = wE at e1 e2 hb ⊢
    simp [Leaves, settle, results, Try.results78, go_sem, e1, e2, hme, hb]
end Go.Proofs.Yteebbffecaeciaa
