/- Texts of this claim laid into one: UMake. -/
import Derived.Test.YteebbffecaeciaaM14
import Derived.Test.YteebbffecaeciaaM28
import Derived.Test.YteebbffecaeciaaM37
/- The makers of the laws of chapters 21 and 25. -/
namespace Go.Proofs.Yteebbffecaeciaa
open Go.RowKit

set_option maxRecDepth 100000 in
set_option maxHeartbeats 4000000 in
theorem unum_any (n : Int) (w : World) : Calls Try.prog 42 #[.int .i64 n] w (TMade (.mk 1 (.mk 1 n []) [] 0 0 [] pNone []) w) := by
  obtain ⟨w1, hw1, m1, s1, R1, _⟩ := box15 w (.int .u8 0) (.int .u8 0) (.int .i64 0) (.slice none 0 0) (.slice none 0 0) (.int .i64 0) (.int .i64 0) (.slice none 0 0) (.int .u8 0) (.int .u8 0) (.int .i64 0) (.slice none 0 0) (.int .i64 0) (.slice none 0 0) (.slice none 0 0) 47
  have HTH := Lib.hid (R1.there (q := 0) (m := 15) (by decide))
  have HIN : Hid ((Try.prog.info? 47).map (·.size) = some 15) := Lib.hid (by
    obtain ⟨i0, hi, hz0, hz1, hz2⟩ := info_parts zeroT
    rw [hi, Option.map_some, hz1])
  obtain ⟨wE, hwE, hc, _, hbe⟩ := stored15 R1 (.mk 1 (.mk 1 n []) [] 0 0 [] pNone []) (plainA none 0)
  obtain ⟨z0, z1, z2, z3, z4, z5, z6, z7, z8, z9, z10, z11, z12, z13, z14⟩ := hc
  have hB := hbe _ _ (Nat.le_refl _) m1
  have HB := Lib.hid hB; have HW := Lib.hid hwE
  clear hB hwE hbe R1 m1
  go_enter Try.func42, Try.ntmps42
  go_wp2_with (refine wpList_store_mid rfl 47 _ _ rfl w.heap.size 0 _ rfl rfl HTH.out HIN.out (by simp [Value.oneCell']) ?_)
  generalize hWF : World.setCells w1 w.heap.size 0 _ = wF
  obtain rfl : wE = wF := HW.out.symm.trans hWF
  clear hWF
  refine bodyPost_ret (v := TT.val (.mk 1 (.mk 1 n []) [] 0 0 [] pNone []) (plainA none 0)) ?_ rfl ⟨_, rfl, ⟨_, rfl, tok_plain (by simp) (trow_nil)⟩, HB.out⟩
  simp [results, Try.results42, go_sem, TT.val, pNone, vNone, plainA, TT.kind, TT.v, TT.vs, TT.lo, TT.hi, TT.ws, TT.p, TT.args, VT.kind, VT.num, VT.items, PT.kind, PT.val, PT.num, PT.args] at z0 z1 z2 z3 z4 z5 z6 z7 z8 z9 z10 z11 z12 z13 z14 ⊢
  simp [z0, z1, z2, z3, z4, z5, z6, z7, z8, z9, z10, z11, z12, z13, z14]
set_option maxRecDepth 100000 in
set_option maxHeartbeats 4000000 in
theorem uself_any (w : World) : Calls Try.prog 41 #[] w (TMade (.mk 11 (.mk 0 0 []) [] 0 0 [] pNone []) w) := by
  obtain ⟨w1, hw1, m1, s1, R1, _⟩ := box15 w (.int .u8 0) (.int .u8 0) (.int .i64 0) (.slice none 0 0) (.slice none 0 0) (.int .i64 0) (.int .i64 0) (.slice none 0 0) (.int .u8 0) (.int .u8 0) (.int .i64 0) (.slice none 0 0) (.int .i64 0) (.slice none 0 0) (.slice none 0 0) 47
  have HTH := Lib.hid (R1.there (q := 0) (m := 15) (by decide))
  have HIN : Hid ((Try.prog.info? 47).map (·.size) = some 15) := Lib.hid (by
    obtain ⟨i0, hi, hz0, hz1, hz2⟩ := info_parts zeroT
    rw [hi, Option.map_some, hz1])
  obtain ⟨wE, hwE, hc, _, hbe⟩ := stored15 R1 (.mk 11 (.mk 0 0 []) [] 0 0 [] pNone []) (plainA none 0)
  obtain ⟨z0, z1, z2, z3, z4, z5, z6, z7, z8, z9, z10, z11, z12, z13, z14⟩ := hc
  have hB := hbe _ _ (Nat.le_refl _) m1
  have HB := Lib.hid hB; have HW := Lib.hid hwE
  clear hB hwE hbe R1 m1
  go_enter Try.func41, Try.ntmps41
  go_wp2_with (refine wpList_store_mid rfl 47 _ _ rfl w.heap.size 0 _ rfl rfl HTH.out HIN.out (by simp [Value.oneCell']) ?_)
  generalize hWF : World.setCells w1 w.heap.size 0 _ = wF
  obtain rfl : wE = wF := HW.out.symm.trans hWF
  clear hWF
  refine bodyPost_ret (v := TT.val (.mk 11 (.mk 0 0 []) [] 0 0 [] pNone []) (plainA none 0)) ?_ rfl ⟨_, rfl, ⟨_, rfl, tok_plain (by simp) (trow_nil)⟩, HB.out⟩
  simp [results, Try.results41, go_sem, TT.val, pNone, vNone, plainA, TT.kind, TT.v, TT.vs, TT.lo, TT.hi, TT.ws, TT.p, TT.args, VT.kind, VT.num, VT.items, PT.kind, PT.val, PT.num, PT.args] at z0 z1 z2 z3 z4 z5 z6 z7 z8 z9 z10 z11 z12 z13 z14 ⊢
  simp [z0, z1, z2, z3, z4, z5, z6, z7, z8, z9, z10, z11, z12, z13, z14]
set_option maxRecDepth 100000 in
set_option maxHeartbeats 4000000 in
theorem utuple_any (l : List TT) (a : Option Addr) (cap : Nat) (w : World) (hl : l.length ≤ 651562446070) (hr : TRow w l a) : Calls Try.prog 40 #[.slice a l.length cap] w (TMade (.mk 5 (.mk 0 0 []) [] 0 0 [] pNone l) w) := by
  obtain ⟨w1, hw1, m1, s1, R1, _⟩ := box15 w (.int .u8 0) (.int .u8 0) (.int .i64 0) (.slice none 0 0) (.slice none 0 0) (.int .i64 0) (.int .i64 0) (.slice none 0 0) (.int .u8 0) (.int .u8 0) (.int .i64 0) (.slice none 0 0) (.int .i64 0) (.slice none 0 0) (.slice none 0 0) 47
  have HTH := Lib.hid (R1.there (q := 0) (m := 15) (by decide))
  have HIN : Hid ((Try.prog.info? 47).map (·.size) = some 15) := Lib.hid (by
    obtain ⟨i0, hi, hz0, hz1, hz2⟩ := info_parts zeroT
    rw [hi, Option.map_some, hz1])
  obtain ⟨wE, hwE, hc, _, hbe⟩ := stored15 R1 (.mk 5 (.mk 0 0 []) [] 0 0 [] pNone l) (plainA a cap)
  obtain ⟨z0, z1, z2, z3, z4, z5, z6, z7, z8, z9, z10, z11, z12, z13, z14⟩ := hc
  have hB := hbe _ _ (Nat.le_refl _) m1
  have HB := Lib.hid hB; have HW := Lib.hid hwE
  clear hB hwE hbe R1 m1
  go_enter Try.func40, Try.ntmps40
  go_wp2_with (refine wpList_store_mid rfl 47 _ _ rfl w.heap.size 0 _ rfl rfl HTH.out HIN.out (by simp [Value.oneCell']) ?_)
  generalize hWF : World.setCells w1 w.heap.size 0 _ = wF
  obtain rfl : wE = wF := HW.out.symm.trans hWF
  clear hWF
  refine bodyPost_ret (v := TT.val (.mk 5 (.mk 0 0 []) [] 0 0 [] pNone l) (plainA a cap)) ?_ rfl ⟨_, rfl, ⟨_, rfl, tok_plain hl (hr.below HB.out)⟩, HB.out⟩
  simp [results, Try.results40, go_sem, TT.val, pNone, vNone, plainA, TT.kind, TT.v, TT.vs, TT.lo, TT.hi, TT.ws, TT.p, TT.args, VT.kind, VT.num, VT.items, PT.kind, PT.val, PT.num, PT.args] at z0 z1 z2 z3 z4 z5 z6 z7 z8 z9 z10 z11 z12 z13 z14 ⊢
  simp [z0, z1, z2, z3, z4, z5, z6, z7, z8, z9, z10, z11, z12, z13, z14]
set_option maxRecDepth 100000 in
set_option maxHeartbeats 8000000 in
theorem usizedA (S : Nat → Prop) (n : Int) (s t : TT) (x y : Value) (w : World) (hx : TInA S w s x) (hy : TInA S w t y) (hS : ∀ q, S q → q < w.heap.size) : Calls Try.prog 33 #[.int .i64 n, x, y] w fun e w' => ∃ x', e = .returned x' ∧ TInA S w' (tSized n s t) x' ∧ Below w.heap.size w w' := by
  obtain ⟨A, rfl, hok⟩ := hx
  obtain ⟨B, rfl, hok'⟩ := hy
  obtain ⟨w9, hw9, m9, s9, hc9, R9⟩ := row1_new w s A
  obtain ⟨w0, hw0, m0, s0, hc0, R0⟩ := row1_new w9 t B
  obtain ⟨w1, hw1, m1, s1, R1, _⟩ := box15 w0 (.int .u8 0) (.int .u8 0) (.int .i64 0) (.slice none 0 0) (.slice none 0 0) (.int .i64 0) (.int .i64 0) (.slice none 0 0) (.int .u8 0) (.int .u8 0) (.int .i64 0) (.slice none 0 0) (.int .i64 0) (.slice none 0 0) (.slice none 0 0) 47
  have HTH := Lib.hid (R1.there (q := 0) (m := 15) (by decide))
  have HIN : Hid ((Try.prog.info? 47).map (·.size) = some 15) := Lib.hid (by
    obtain ⟨i0, hi, hz0, hz1, hz2⟩ := info_parts zeroT
    rw [hi, Option.map_some, hz1])
  obtain ⟨w2, hw2, m2, s2, hc2, hc2'⟩ := row2_new w1 s t A B
  have R1 := R1.below s1 m2
  have HTH := Lib.hid (R1.there (q := 0) (m := 15) (by decide))
  obtain ⟨wE, hwE, hc, hk, hbe⟩ := stored15 R1 (tSized n s t) (plainA (some ⟨w1.heap.size, 0, none⟩) 2)
  have m90 : Below w.heap.size w w0 := m9.trans (m0.mono (Nat.le_of_lt s9))
  have s90 : w.heap.size < w0.heap.size := Nat.lt_trans s9 s0
  have hB : Below w.heap.size w wE := hbe _ _ (Nat.le_of_lt s90) (m90.trans ((m1.trans (m2.mono (Nat.le_of_lt s1))).mono (Nat.le_of_lt s90)))
  have hnS : ¬ S w1.heap.size := fun h => by have := hS _ h; omega
  have hrow : ∀ W, AgreeS S wE W → TRow W [s, t] (some ⟨w1.heap.size, 0, none⟩) := fun W ha => trow_cons ((hc2.keep fun o v h => hk _ _ _ (by omega) h).keep fun o v h => ha.cell hnS h) (hok.below hB W ha) (trow_cons ((hc2'.keep fun o v h => hk _ _ _ (by omega) h).keep fun o v h => ha.cell hnS h) (hok'.below hB W ha) trow_nil)
  obtain ⟨g0, g1, g2, g3, g4, g5, g6, g7, g8, g9, g10, g11, g12, g13, g14⟩ := (hc9.below m0).below m1
  obtain ⟨h0, h1, h2, h3, h4, h5, h6, h7, h8, h9, h10, h11, h12, h13, h14⟩ := hc0.below m1
  obtain ⟨z0, z1, z2, z3, z4, z5, z6, z7, z8, z9, z10, z11, z12, z13, z14⟩ := hc
  have HB := Lib.hid hB; have HW := Lib.hid hwE; have HROW := Lib.hid hrow
  clear hB hwE hbe R1 m1 hc2 hc2' R9 m2 R0 m0 m9 m90 hc0 hc9 hrow hk hok hok' s0 s1 s2 s9 s90
  subst hw2
  unfold TT.val
  go_enter Try.func33, Try.ntmps33
  go_wp2_with (refine wpList_store_mid rfl 47 _ _ rfl w0.heap.size 0 _ rfl rfl HTH.out HIN.out (by simp [Value.oneCell']) ?_)
  generalize hWF : World.setCells _ w0.heap.size 0 _ = wF
  obtain rfl : wE = wF := HW.out.symm.trans hWF
  clear hWF
  refine bodyPost_ret (v := TT.val (tSized n s t) (plainA (some ⟨w1.heap.size, 0, none⟩) 2)) ?_ rfl ⟨_, rfl, ⟨_, rfl, fun W ha => tok_plain (by simp) (HROW.out W ha)⟩, HB.out⟩
  simp [results, Try.results33, go_sem, TT.val, tSized, pNone, vNone, plainA, TT.kind, TT.v, TT.vs, TT.lo, TT.hi, TT.ws, TT.p, TT.args, VT.kind, VT.num, VT.items, PT.kind, PT.val, PT.num, PT.args] at z0 z1 z2 z3 z4 z5 z6 z7 z8 z9 z10 z11 z12 z13 z14 ⊢
  simp [z0, z1, z2, z3, z4, z5, z6, z7, z8, z9, z10, z11, z12, z13, z14]
theorem usized_any (n : Int) (s t : TT) (x y : Value) (w : World) (hx : TIn w s x) (hy : TIn w t y) : Calls Try.prog 33 #[.int .i64 n, x, y] w (TMade (tSized n s t) w) :=
  (usizedA (fun _ => False) n s t x y w hx.any hy.any (fun _ h => h.elim)).mono fun _e _w' ⟨x', he, hx, hb⟩ => ⟨x', he, hx.tin, hb⟩
theorem uNum (n : Int) (w : World) : Calls Try.prog 42 #[.int .i64 n] w (TMade (tNum n) w) := unum_any n w
theorem uSelf (w : World) : Calls Try.prog 41 #[] w (TMade tSelf w) := uself_any w
theorem uTuple (l : List TT) (a : Option Addr) (cap : Nat) (w : World) (hl : l.length ≤ 651562446070) (hr : TRow w l a) : Calls Try.prog 40 #[.slice a l.length cap] w (TMade (tOf 5 l) w) := utuple_any l a cap w hl hr
end Go.Proofs.Yteebbffecaeciaa
