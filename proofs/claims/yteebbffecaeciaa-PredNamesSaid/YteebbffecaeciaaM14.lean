/- Texts of this claim laid into one: TMakeS. -/
import Derived.Test.YteebbffecaeciaaM13
/- The maker sized of chapter 19's law. -/
namespace Go.Proofs.Yteebbffecaeciaa
open Go.RowKit

theorem row2_new (w : World) (s t : TT) (A B : TA) : ∃ w2, w.alloc (.cells #[.int .u8 s.kind, .int .u8 s.v.kind, .int .i64 s.v.num, .slice A.va s.v.items.length A.vc, .slice A.sa s.vs.length A.sc, .int .i64 s.lo, .int .i64 s.hi, .slice A.wa s.ws.length A.wc, .int .u8 s.p.kind, .int .u8 s.p.val.kind, .int .i64 s.p.val.num, .slice A.qa s.p.val.items.length A.qc, .int .i64 s.p.num, .slice A.pa s.p.args.length A.pc, .slice A.aa s.args.length A.ac, .int .u8 t.kind, .int .u8 t.v.kind, .int .i64 t.v.num, .slice B.va t.v.items.length B.vc, .slice B.sa t.vs.length B.sc, .int .i64 t.lo, .int .i64 t.hi, .slice B.wa t.ws.length B.wc, .int .u8 t.p.kind, .int .u8 t.p.val.kind, .int .i64 t.p.val.num, .slice B.qa t.p.val.items.length B.qc, .int .i64 t.p.num, .slice B.pa t.p.args.length B.pc, .slice B.aa t.args.length B.ac] 47) = w2 ∧
    Below w.heap.size w w2 ∧ w.heap.size < w2.heap.size ∧ TCells w2 w.heap.size 0 s A ∧ TCells w2 w.heap.size 15 t B := by
  refine ⟨_, rfl, Below.al _, by simp, ⟨?_, ?_, ?_, ?_, ?_, ?_, ?_, ?_, ?_, ?_, ?_, ?_, ?_, ?_, ?_⟩, ⟨?_, ?_, ?_, ?_, ?_, ?_, ?_, ?_, ?_, ?_, ?_, ?_, ?_, ?_, ?_⟩⟩
  all_goals go_simp
set_option maxRecDepth 100000 in
set_option maxHeartbeats 8000000 in
theorem lsizedA (S : Nat → Prop) (n : Int) (s t : TT) (x y : Value) (w : World) (hx : TInA S w s x) (hy : TInA S w t y) (hS : ∀ q, S q → q < w.heap.size) : Calls Try.prog 51 #[.int .i64 n, x, y] w fun e w' => ∃ x', e = .returned x' ∧ TInA S w' (tSized n s t) x' ∧ Below w.heap.size w w' := by
  obtain ⟨A, rfl, hok⟩ := hx
  obtain ⟨B, rfl, hok'⟩ := hy
  obtain ⟨w9, hw9, m9, s9, hc9, R9⟩ := row1_new w s A
  obtain ⟨w0, hw0, m0, s0, hc0, R0⟩ := row1_new w9 t B
  obtain ⟨w1, hw1, m1, s1, R1, _⟩ := box15 w0 (.int .u8 0) (.int .u8 0) (.int .i64 0) (.slice none 0 0) (.slice none 0 0) (.int .i64 0) (.int .i64 0) (.slice none 0 0) (.int .u8 0) (.int .u8 0) (.int .i64 0) (.slice none 0 0) (.int .i64 0) (.slice none 0 0) (.slice none 0 0) 47
  have HTH := Lib.hid (R1.there (q := 0) (m := 15) (by decide))
  have HIN : Hid ((Try.prog.info? 47).map (·.size) = some 15) := Lib.hid (by
    obtain ⟨i0, hi, hz0, hz1, hz2⟩ := info_parts zeroT
    rw [hi, Option.map_some, hz1])
  obtain ⟨w2, hw2, m2, s2, hc2, hc2'⟩ := row2_new w1 s t A B
  have R1 := R1.below s1 m2
  have HTH := Lib.hid (R1.there (q := 0) (m := 15) (by decide))
  obtain ⟨wE, hwE, hc, hk, hbe⟩ := stored15 R1 (tSized n s t) (plainA (some ⟨w1.heap.size, 0, none⟩) 2)
  have m90 : Below w.heap.size w w0 := m9.trans (m0.mono (Nat.le_of_lt s9))
  have s90 : w.heap.size < w0.heap.size := Nat.lt_trans s9 s0
  have hB : Below w.heap.size w wE := hbe _ _ (Nat.le_of_lt s90) (m90.trans ((m1.trans (m2.mono (Nat.le_of_lt s1))).mono (Nat.le_of_lt s90)))
  have hnS : ¬ S w1.heap.size := fun h => by have := hS _ h; omega
  have hrow : ∀ W, AgreeS S wE W → TRow W [s, t] (some ⟨w1.heap.size, 0, none⟩) := fun W ha => trow_cons ((hc2.keep fun o v h => hk _ _ _ (by omega) h).keep fun o v h => ha.cell hnS h) (hok.below hB W ha) (trow_cons ((hc2'.keep fun o v h => hk _ _ _ (by omega) h).keep fun o v h => ha.cell hnS h) (hok'.below hB W ha) trow_nil)
  obtain ⟨g0, g1, g2, g3, g4, g5, g6, g7, g8, g9, g10, g11, g12, g13, g14⟩ := (hc9.below m0).below m1
  obtain ⟨h0, h1, h2, h3, h4, h5, h6, h7, h8, h9, h10, h11, h12, h13, h14⟩ := hc0.below m1
  obtain ⟨z0, z1, z2, z3, z4, z5, z6, z7, z8, z9, z10, z11, z12, z13, z14⟩ := hc
  have HB := Lib.hid hB; have HW := Lib.hid hwE; have HROW := Lib.hid hrow
  clear hB hwE hbe R1 m1 hc2 hc2' R9 m2 R0 m0 m9 m90 hc0 hc9 hrow hk hok hok' s0 s1 s2 s9 s90
  subst hw2
  unfold TT.val
  go_enter Try.func51, Try.ntmps51
  go_wp2_with (refine wpList_store_mid rfl 47 _ _ rfl w0.heap.size 0 _ rfl rfl HTH.out HIN.out (by simp [Value.oneCell']) ?_)
  generalize hWF : World.setCells _ w0.heap.size 0 _ = wF
  obtain rfl : wE = wF := HW.out.symm.trans hWF
  clear hWF
  refine bodyPost_ret (v := TT.val (tSized n s t) (plainA (some ⟨w1.heap.size, 0, none⟩) 2)) ?_ rfl ⟨_, rfl, ⟨_, rfl, fun W ha => tok_plain (by simp) (HROW.out W ha)⟩, HB.out⟩
  simp [results, Try.results51, go_sem, TT.val, tSized, pNone, vNone, plainA, TT.kind, TT.v, TT.vs, TT.lo, TT.hi, TT.ws, TT.p, TT.args, VT.kind, VT.num, VT.items, PT.kind, PT.val, PT.num, PT.args] at z0 z1 z2 z3 z4 z5 z6 z7 z8 z9 z10 z11 z12 z13 z14 ⊢
  simp [z0, z1, z2, z3, z4, z5, z6, z7, z8, z9, z10, z11, z12, z13, z14]
theorem lsized_any (n : Int) (s t : TT) (x y : Value) (w : World) (hx : TIn w s x) (hy : TIn w t y) : Calls Try.prog 51 #[.int .i64 n, x, y] w (TMade (tSized n s t) w) :=
  (lsizedA (fun _ => False) n s t x y w hx.any hy.any (fun _ h => h.elim)).mono fun _e _w' ⟨x', he, hx, hb⟩ => ⟨x', he, hx.tin, hb⟩
end Go.Proofs.Yteebbffecaeciaa
