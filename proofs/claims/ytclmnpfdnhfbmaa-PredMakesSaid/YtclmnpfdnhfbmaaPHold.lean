/- The holders of package pred: what calling 'holds' answers. -/
import Derived.Test.YtclmnpfdnhfbmaaPWalkA
import Derived.Test.YtclmnpfdnhfbmaaVWalkB
import Derived.Test.YtclmnpfdnhfbmaaVWalkC
import Derived.Test.YtclmnpfdnhfbmaaVMake
import Derived.Test.YtclmnpfdnhfbmaaPFacts
namespace Go.Proofs.Ytclmnpfdnhfbmaa
open Go.RowKit

/-- a holder's box, and a value's behind it. -/
theorem boxH3 (w : World) (cs : Array Value) (T : Nat) (x y z : Value) (T' : Nat) : ∃ w4, (w.alloc (.cells cs T)).alloc (.cells #[x, y, z] T') = w4 ∧ Below w.heap.size w w4 ∧ (∀ o v, cs[o]? = some v → w4.cell? ⟨w.heap.size, o, none⟩ = some v) ∧
    w4.cell? ⟨w.heap.size + 1, 0, none⟩ = some x ∧ w4.cell? ⟨w.heap.size + 1, 1, none⟩ = some y ∧ w4.cell? ⟨w.heap.size + 1, 2, none⟩ = some z := by
  refine ⟨_, rfl, (Below.al _).trans ((Below.al _).mono (by simp)), fun o v h => ?_, ?_, ?_, ?_⟩
  · refine cell_stays (Below.al _) ?_
    first | (go_simp; exact h) | go_simp
  · go_simp
  · go_simp
  · go_simp
/-- h is a holder that answers as the tree, in each world that is ok. -/
def Holder (ok : World → Prop) (t : PT) (h : Value) : Prop := ∃ T y f, h = .iface T y ∧ (∀ W, (nilAhead 217 T y "tombola/pred.holds").run Try.prog W = .ok (some false) W) ∧ (∀ W, (method 217 T y "tombola/pred.holds").run Try.prog W = .ok (f, y) W) ∧ (∀ args W, (callFunc f args).run Try.prog W = .ok (.enter f args) W) ∧
  ∀ W X v, ok W → VIn W X v → Calls Try.prog f #[y, v] W fun e w' => e = .returned (.bool (t.holds X)) ∧ Below W.heap.size W w'
theorem PT.hold5 (v : VT) (n : Int) (t : PT) (l : List PT) (x : VT) : PT.holds (.mk 5 v n (t :: l)) x = !t.holds x := by rw [PT.holds, PT.fst]; simp
set_option maxRecDepth 100000 in
set_option maxHeartbeats 4000000 in
theorem not_holds (ok : World → Prop) (hok : ∀ W W', ok W → Below W.heap.size W W' → ok W') (t0 : PT) (h0 : Value) (H : Holder ok t0 h0) (v : VT) (n : Int) (l : List PT) : Holder ok (.mk 5 v n (t0 :: l)) (.iface 86 (.agg #[h0])) := by
  obtain ⟨T, y, f, rfl, hn, hm, hf, hc⟩ := H
  refine ⟨_, _, 107, rfl, fun W => by kernel_rfl, fun W => by kernel_rfl, fun _ W => by kernel_rfl, fun W X xv hW hx => ?_⟩
  obtain ⟨xk, xn, xl⟩ := X
  obtain ⟨xa, xc, hxl, rfl, hxr⟩ := hx.open
  rw [PT.hold5]
  obtain ⟨w0, hw0, hB, q, p0, p1, p2⟩ := boxH3 W #[.iface T y] 86 (.int .u8 xk) (.int .i64 xn) (.slice xa xl.length xc) 24
  have q0 : w0.cell? ⟨W.heap.size, 0, none⟩ = some (.iface T y) := q 0 _ rfl
  have hc0 := hc w0 _ _ (hok _ _ hW hB) (hx.below hB)
  have HC := Lib.hid hc0
  clear hc hx hxr hW hc0 q
  go_enter Try.func107, Try.ntmps107
  go_wp2_with fail
  refine (HC.out).mono ?_
  rintro e w1 ⟨rfl, hb1⟩
  go_wp2_with fail
  go_ret
  exact ⟨rfl, hB.trans (hb1.mono hB.size)⟩

/-- a call that hands back one value and turns nothing that was there, in a region that draws its order. -/
theorem regrown {f : FuncId} {args : Array Value} {w : World} {v : Value} (h : ∀ W, Below w.heap.size w W → Calls Try.prog f args W fun e w' => e = .returned v ∧ Below W.heap.size W w') :
    ∀ d os, Calls Try.prog f args (Go.Sort.grow (redrawn w d) os) fun e w'' => e = .returned v ∧ ∃ p : Regrown, w'' = Go.Sort.grow (redrawn w p.d) p.os :=
  fun d os => Calls.regrown_of (h _ (below_regrown w d os))

theorem always_holds (ok : World → Prop) (b : Bool) (t : PT) (ht : ∀ X, t.holds X = b) : Holder ok t (.iface 82 (.bool b)) := by
  refine ⟨_, _, 105, rfl, fun W => by kernel_rfl, fun W => by kernel_rfl, fun _ W => by kernel_rfl, fun W X xv hW hx => ?_⟩
  rw [ht]
  obtain ⟨xk, xn, xl⟩ := X
  obtain ⟨xa, xc, hxl, rfl, hxr⟩ := hx.open
  clear hx ht hxr
  go_enter Try.func105, Try.ntmps105
  go_wp2_with fail
  go_ret
  exact ⟨rfl, by first | exact Below.refl _ _ | exact Below.al _⟩

set_option maxRecDepth 100000 in
set_option maxHeartbeats 4000000 in
theorem several6_holds (ok : World → Prop) (hok : ∀ W W', ok W → Below W.heap.size W W' → ok W') (l : List PT) (a : Option Addr) (cap : Nat) (hlen : l.length ≤ 1759218604390)
    (H : ∀ i (h : i < l.length), ∃ b hh, a = some ⟨b, 0, none⟩ ∧ Holder ok l[i] hh ∧ ∀ W, ok W → W.cell? ⟨b, i, none⟩ = some hh) (v : VT) (n : Int) : Holder ok (.mk 6 v n l) (.iface 88 (.agg #[.slice a l.length cap, .bool false])) := by
  refine ⟨_, _, 108, rfl, fun W => by kernel_rfl, fun W => by kernel_rfl, fun _ W => by kernel_rfl, fun W X xv hW hx => ?_⟩
  obtain ⟨xk, xn, xl⟩ := X
  obtain ⟨xa, xc, hxl, rfl, hxr⟩ := hx.open
  rw [PT.holds6]
  obtain ⟨w0, hw0, hB, q, p0, p1, p2⟩ := boxH3 W #[.slice a l.length cap, .bool false] 88 (.int .u8 xk) (.int .i64 xn) (.slice xa xl.length xc) 24
  have q0 : w0.cell? ⟨W.heap.size, 0, none⟩ = some (.slice a l.length cap) := q 0 _ rfl
  have q1 : w0.cell? ⟨W.heap.size, 1, none⟩ = some (.bool false) := q 1 _ rfl
  have hok0 := hok _ _ hW hB
  have hx0 := hx.below hB
  have HH := Lib.hid H; have HOK := Lib.hid hok
  clear hx hxr hW q H hok
  go_enter Try.func108, Try.ntmps108
  go_wp2_with fail
  go_loopw [10] (fun x wr => ∃ i : Nat, x = .int .i64 i ∧ i ≤ l.length ∧ PT.every l (.mk xk xn xl) = PT.every (l.drop i) (.mk xk xn xl) ∧ Below w0.heap.size w0 wr) (fun x _ => l.length - (intOf x).toNat)
  case atStart => exact ⟨0, rfl, by omega, by simp, Below.refl _ _⟩
  case round =>
    obtain ⟨i, rfl, hi, he, hBr⟩ := hrel
    have HE := Lib.hid he; clear he
    have f1 := cell_stays hBr q1
    have f6 := cell_stays hBr p0
    have f7 := cell_stays hBr p1
    have f8 := cell_stays hBr p2
    by_cases hlt : i < l.length
    · obtain ⟨b, hh, rfl, ⟨T, y, f, rfl, hn, hm, hf, hc⟩, hcell⟩ := HH.out i hlt
      have hokr := HOK.out _ _ hok0 hBr
      have d0 := hcell wr hokr
      have hd := PT.every_drop hlt (.mk xk xn xl)
      obtain ⟨z, hz⟩ : ∃ z, z = l[i].holds (.mk xk xn xl) := ⟨_, rfl⟩
      rw [← hz] at hd
      have hx := hx0.below hBr
      have Q := Lib.hid (regrown (w := wr) fun W' hW' => by have := hc W' _ _ (HOK.out _ _ hokr hW') (hx.below hW'); rwa [← hz] at this)
      have HD := Lib.hid hd; have HZ := Lib.hid hz; clear hd hz hcell hx hc hokr
      have c1 := cell_regrown f1
      have c6 := cell_regrown f6
      have c7 := cell_regrown f7
      have c8 := cell_regrown f8
      go_wp2_with fail
      refine wp_region_quiet_below (by kernel_rfl) (by kernel_rfl) ?_
      repeat (go_big_quiet_step (first | with_reducible exact Q.out _ _))
      refine wpQuiet_nil ?_
      intro _ hw'
      obtain ⟨⟨dq, osq⟩, hw''⟩ := hw'
      subst hw''
      have hB2 := hBr.trans ((below_regrown wr dq osq).mono hBr.size)
      have f1 := cell_regrown f1 dq osq
      clear c1 c6 c7 c8 f6 f7 f8 d0 Q hBr
      cases z
      case false =>
        go_wp2_with fail
        go_ret
        exact ⟨ret_bool (by rw [HE.out, HD.out]; rfl), hB.trans (hB2.mono hB.size)⟩
      case true =>
        go_wp2_with fail
        go_roundw
        case rel => exact ⟨i + 1, by go_num, by omega, by rw [HE.out, HD.out]; rfl, hB2⟩
        case measure => simp [intOf]; omega
    · go_wp2_with fail
      go_ret
      exact ⟨ret_bool (by rw [HE.out, drop_nil hlt, PT.every]), hB.trans (hBr.mono hB.size)⟩
set_option maxRecDepth 100000 in
set_option maxHeartbeats 4000000 in
theorem several7_holds (ok : World → Prop) (hok : ∀ W W', ok W → Below W.heap.size W W' → ok W') (l : List PT) (a : Option Addr) (cap : Nat) (hlen : l.length ≤ 1759218604390)
    (H : ∀ i (h : i < l.length), ∃ b hh, a = some ⟨b, 0, none⟩ ∧ Holder ok l[i] hh ∧ ∀ W, ok W → W.cell? ⟨b, i, none⟩ = some hh) (v : VT) (n : Int) : Holder ok (.mk 7 v n l) (.iface 88 (.agg #[.slice a l.length cap, .bool true])) := by
  refine ⟨_, _, 108, rfl, fun W => by kernel_rfl, fun W => by kernel_rfl, fun _ W => by kernel_rfl, fun W X xv hW hx => ?_⟩
  obtain ⟨xk, xn, xl⟩ := X
  obtain ⟨xa, xc, hxl, rfl, hxr⟩ := hx.open
  rw [PT.holds7]
  obtain ⟨w0, hw0, hB, q, p0, p1, p2⟩ := boxH3 W #[.slice a l.length cap, .bool true] 88 (.int .u8 xk) (.int .i64 xn) (.slice xa xl.length xc) 24
  have q0 : w0.cell? ⟨W.heap.size, 0, none⟩ = some (.slice a l.length cap) := q 0 _ rfl
  have q1 : w0.cell? ⟨W.heap.size, 1, none⟩ = some (.bool true) := q 1 _ rfl
  have hok0 := hok _ _ hW hB
  have hx0 := hx.below hB
  have HH := Lib.hid H; have HOK := Lib.hid hok
  clear hx hxr hW q H hok
  go_enter Try.func108, Try.ntmps108
  go_wp2_with fail
  go_loopw [10] (fun x wr => ∃ i : Nat, x = .int .i64 i ∧ i ≤ l.length ∧ PT.some l (.mk xk xn xl) = PT.some (l.drop i) (.mk xk xn xl) ∧ Below w0.heap.size w0 wr) (fun x _ => l.length - (intOf x).toNat)
  case atStart => exact ⟨0, rfl, by omega, by simp, Below.refl _ _⟩
  case round =>
    obtain ⟨i, rfl, hi, he, hBr⟩ := hrel
    have HE := Lib.hid he; clear he
    have f1 := cell_stays hBr q1
    have f6 := cell_stays hBr p0
    have f7 := cell_stays hBr p1
    have f8 := cell_stays hBr p2
    by_cases hlt : i < l.length
    · obtain ⟨b, hh, rfl, ⟨T, y, f, rfl, hn, hm, hf, hc⟩, hcell⟩ := HH.out i hlt
      have hokr := HOK.out _ _ hok0 hBr
      have d0 := hcell wr hokr
      have hd := PT.some_drop hlt (.mk xk xn xl)
      obtain ⟨z, hz⟩ : ∃ z, z = l[i].holds (.mk xk xn xl) := ⟨_, rfl⟩
      rw [← hz] at hd
      have hx := hx0.below hBr
      have Q := Lib.hid (regrown (w := wr) fun W' hW' => by have := hc W' _ _ (HOK.out _ _ hokr hW') (hx.below hW'); rwa [← hz] at this)
      have HD := Lib.hid hd; have HZ := Lib.hid hz; clear hd hz hcell hx hc hokr
      have c1 := cell_regrown f1
      have c6 := cell_regrown f6
      have c7 := cell_regrown f7
      have c8 := cell_regrown f8
      go_wp2_with fail
      refine wp_region_quiet_below (by kernel_rfl) (by kernel_rfl) ?_
      repeat (go_big_quiet_step (first | with_reducible exact Q.out _ _))
      refine wpQuiet_nil ?_
      intro _ hw'
      obtain ⟨⟨dq, osq⟩, hw''⟩ := hw'
      subst hw''
      have hB2 := hBr.trans ((below_regrown wr dq osq).mono hBr.size)
      have f1 := cell_regrown f1 dq osq
      clear c1 c6 c7 c8 f6 f7 f8 d0 Q hBr
      cases z
      case true =>
        go_wp2_with fail
        go_ret
        exact ⟨ret_bool (by rw [HE.out, HD.out]; rfl), hB.trans (hB2.mono hB.size)⟩
      case false =>
        go_wp2_with fail
        go_roundw
        case rel => exact ⟨i + 1, by go_num, by omega, by rw [HE.out, HD.out]; rfl, hB2⟩
        case measure => simp [intOf]; omega
    · go_wp2_with fail
      go_ret
      exact ⟨ret_bool (by rw [HE.out, drop_nil hlt, PT.some]), hB.trans (hBr.mono hB.size)⟩

theorem PT.holdF {t : PT} {l : List PT} {x : VT} : PT.fst (t :: l) x = t.holds x := by rw [PT.fst]

theorem than_box (w : World) (a b c d x y z : Value) : ∃ w4, (w.alloc (.cells #[a, b, c, d] 84)).alloc (.cells #[x, y, z] 24) = w4 ∧ Below w.heap.size w w4 ∧
    w4.cell? ⟨w.heap.size, 0, none⟩ = some a ∧ w4.cell? ⟨w.heap.size, 1, none⟩ = some b ∧ w4.cell? ⟨w.heap.size, 2, none⟩ = some c ∧ w4.cell? ⟨w.heap.size, 3, none⟩ = some d ∧
    w4.cell? ⟨w.heap.size + 1, 0, none⟩ = some x ∧ w4.cell? ⟨w.heap.size + 1, 1, none⟩ = some y ∧ w4.cell? ⟨w.heap.size + 1, 2, none⟩ = some z := by
  obtain ⟨w4, h, hb, hc, h0, h1, h2⟩ := boxH3 w #[a, b, c, d] 84 x y z 24
  exact ⟨w4, h, hb, hc 0 _ rfl, hc 1 _ rfl, hc 2 _ rfl, hc 3 _ rfl, h0, h1, h2⟩

set_option maxRecDepth 100000 in
set_option maxHeartbeats 4000000 in
theorem than3_holds (ok : World → Prop) (hok : ∀ W W', ok W → Below W.heap.size W W' → ok W') (v : VT) (n : Int) (l : List PT) (va : Option Addr) (vc : Nat)
    (H : ∀ W, ok W → VIn W v (.agg #[.int .u8 v.kind, .int .i64 v.num, .slice va v.items.length vc])) : Holder ok (.mk 3 v n l) (.iface 84 (.agg #[.int .u8 v.kind, .int .i64 v.num, .slice va v.items.length vc, .bool false])) := by
  refine ⟨_, _, 106, rfl, fun W => by kernel_rfl, fun W => by kernel_rfl, fun _ W => by kernel_rfl, fun W X xv hW hx => ?_⟩
  obtain ⟨xk, xn, xl⟩ := X
  obtain ⟨xa, xc, hxl, rfl, hxr⟩ := hx.open
  rw [PT.holds3]
  obtain ⟨w0, hw0, hB, q0, q1, q2, q3, p0, p1, p2⟩ := than_box W (.int .u8 v.kind) (.int .i64 v.num) (.slice va v.items.length vc) (.bool false) (.int .u8 xk) (.int .i64 xn) (.slice xa xl.length xc)
  have hv := H _ (hok _ _ hW hB)
  have hx0 := hx.below hB
  clear hx hxr hW H hok
  go_enter Try.func106, Try.ntmps106
  go_wp2_with fail
  refine (same_any _ _ _ _ _ _ (Nat.le_refl _) hx0 hv).mono ?_
  rintro e w2 ⟨rfl, hb2⟩
  go_wp2_with fail
  go_ret
  exact ⟨rfl, hB.trans (hb2.mono hB.size)⟩
set_option maxRecDepth 100000 in
set_option maxHeartbeats 4000000 in
theorem than4_holds (ok : World → Prop) (hok : ∀ W W', ok W → Below W.heap.size W W' → ok W') (v : VT) (n : Int) (l : List PT) (va : Option Addr) (vc : Nat)
    (H : ∀ W, ok W → VIn W v (.agg #[.int .u8 v.kind, .int .i64 v.num, .slice va v.items.length vc])) : Holder ok (.mk 4 v n l) (.iface 84 (.agg #[.int .u8 v.kind, .int .i64 v.num, .slice va v.items.length vc, .bool true])) := by
  refine ⟨_, _, 106, rfl, fun W => by kernel_rfl, fun W => by kernel_rfl, fun _ W => by kernel_rfl, fun W X xv hW hx => ?_⟩
  obtain ⟨xk, xn, xl⟩ := X
  obtain ⟨xa, xc, hxl, rfl, hxr⟩ := hx.open
  rw [PT.holds4]
  obtain ⟨w0, hw0, hB, q0, q1, q2, q3, p0, p1, p2⟩ := than_box W (.int .u8 v.kind) (.int .i64 v.num) (.slice va v.items.length vc) (.bool true) (.int .u8 xk) (.int .i64 xn) (.slice xa xl.length xc)
  have hv := H _ (hok _ _ hW hB)
  have hx0 := hx.below hB
  clear hx hxr hW H hok
  obtain ⟨c, hc⟩ : ∃ c, c = VT.cmp (.mk xk xn xl) v := ⟨_, rfl⟩
  rw [← hc]
  have HC := Lib.hid hc; clear hc
  go_enter Try.func106, Try.ntmps106
  go_wp2_with fail
  refine (cmp_any _ _ _ _ _ _ (Nat.le_refl _) hx0 hv).mono ?_
  rintro e w2 ⟨rfl, hb2⟩
  rw [← HC.out]
  go_wp2_with fail
  go_ret
  exact ⟨rfl, hB.trans (hb2.mono hB.size)⟩

theorem PT.hold8 (v : VT) (n : Int) (t : PT) (l : List PT) (x : VT) (h : x.kind = 3 ∨ x.kind = 4) : PT.holds (.mk 8 v n (t :: l)) x = if h : 0 ≤ n ∧ n.toNat < x.items.length then t.holds x.items[n.toNat] else false := by rw [PT.holds8 _ _ _ _ h]; rfl
theorem PT.hold9 (v : VT) (n : Int) (t : PT) (l : List PT) (x : VT) (h : x.kind = 3 ∨ x.kind = 4) : PT.holds (.mk 9 v n (t :: l)) x = x.items.all t.holds := by rw [PT.holds9 _ _ _ _ h]; rfl
theorem PT.hold10 (v : VT) (n : Int) (t : PT) (l : List PT) (x : VT) (h : x.kind = 3 ∨ x.kind = 4) : PT.holds (.mk 10 v n (t :: l)) x = x.items.any t.holds := by rw [PT.holds10 _ _ _ _ h]; rfl
theorem PT.hold11 (v : VT) (n : Int) (t : PT) (l : List PT) (x : VT) (h : x.kind = 3 ∨ x.kind = 4) : PT.holds (.mk 11 v n (t :: l)) x = t.holds (.mk 1 x.items.length []) := by rw [PT.holds11 _ _ _ _ h]; rfl


set_option maxRecDepth 100000 in
set_option maxHeartbeats 4000000 in
theorem many_holds (ok : World → Prop) (hok : ∀ W W', ok W → Below W.heap.size W W' → ok W') (t0 : PT) (h0 : Value) (H : Holder ok t0 h0) (v : VT) (n : Int) (l : List PT) : Holder ok (.mk 11 v n (t0 :: l)) (.iface 93 (.agg #[h0])) := by
  obtain ⟨T, y, f, rfl, hn, hm, hf, hc⟩ := H
  refine ⟨_, _, 112, rfl, fun W => by kernel_rfl, fun W => by kernel_rfl, fun _ W => by kernel_rfl, fun W X xv hW hx => ?_⟩
  obtain ⟨xk, xn, xl⟩ := X
  obtain ⟨xa, xc, hxl, rfl, hxr⟩ := hx.open
  obtain ⟨w0, hw0, hB, q, p0, p1, p2⟩ := boxH3 W #[.iface T y] 93 (.int .u8 xk) (.int .i64 xn) (.slice xa xl.length xc) 24
  have q0 : w0.cell? ⟨W.heap.size, 0, none⟩ = some (.iface T y) := q 0 _ rfl
  have c0 := cell_regrown q0
  have c1 := cell_regrown p0
  have c2 := cell_regrown p1
  have c3 := cell_regrown p2
  have Q1 := Lib.hid (regrown (w := w0) fun W' hW' => prow_any xk xn xa xl.length xc W')
  by_cases hr : xk = 3 ∨ xk = 4
  · rw [PT.hold11 v n t0 l (.mk xk xn xl) hr]
    rw [show decide (xk = 3 ∨ xk = 4) = true by simpa using hr] at Q1
    have hok0 := hok _ _ hW hB
    have Q2 := Lib.hid (regrown (w := w0) fun W' hW' => num_any xl.length W')
    have Q := Lib.hid (regrown (w := w0) fun W' hW' => hc W' (.mk 1 xl.length []) _ (hok _ _ hok0 hW') (VIn.leaf _ _))
    clear hc hx hxr hW q hr hok hok0
    go_enter Try.func112, Try.ntmps112
    go_wp2_with fail
    refine wp_region_quiet_below (by kernel_rfl) (by kernel_rfl) ?_
    repeat (go_big_quiet_step (first | with_reducible exact Q.out _ _ | with_reducible exact Q1.out _ _ | with_reducible exact Q2.out _ _))
    refine wpQuiet_nil ?_
    intro _ hw'
    obtain ⟨⟨dq, osq⟩, hw''⟩ := hw'
    subst hw''
    go_wp2_with fail
    go_ret
    exact ⟨rfl, hB.trans ((below_regrown w0 dq osq).mono hB.size)⟩
  · rw [PT.holdsN v n (t0 :: l) (.mk xk xn xl) 11 (by omega) hr]
    rw [show decide (xk = 3 ∨ xk = 4) = false by simpa using hr] at Q1
    have Q := Q1
    have Q2 := Q1
    clear hc hx hxr hW q hr hok
    go_enter Try.func112, Try.ntmps112
    go_wp2_with fail
    refine wp_region_quiet_below (by kernel_rfl) (by kernel_rfl) ?_
    repeat (go_big_quiet_step (first | with_reducible exact Q.out _ _ | with_reducible exact Q1.out _ _ | with_reducible exact Q2.out _ _))
    refine wpQuiet_nil ?_
    intro _ hw'
    obtain ⟨⟨dq, osq⟩, hw''⟩ := hw'
    subst hw''
    go_wp2_with fail
    go_ret
    exact ⟨rfl, hB.trans ((below_regrown w0 dq osq).mono hB.size)⟩

set_option maxRecDepth 100000 in
set_option maxHeartbeats 4000000 in
theorem at_holds (ok : World → Prop) (hok : ∀ W W', ok W → Below W.heap.size W W' → ok W') (t0 : PT) (h0 : Value) (H : Holder ok t0 h0) (v : VT) (m : Nat) (l : List PT) : Holder ok (.mk 8 v m (t0 :: l)) (.iface 90 (.agg #[.int .i64 m, h0])) := by
  obtain ⟨T, y, f, rfl, hn, hm, hf, hc⟩ := H
  refine ⟨_, _, 109, rfl, fun W => by kernel_rfl, fun W => by kernel_rfl, fun _ W => by kernel_rfl, fun W X xv hW hx => ?_⟩
  obtain ⟨xk, xn, xl⟩ := X
  obtain ⟨xa, xc, hxl, rfl, hxr⟩ := hx.open
  obtain ⟨w0, hw0, hB, q, p0, p1, p2⟩ := boxH3 W #[.int .i64 m, .iface T y] 90 (.int .u8 xk) (.int .i64 xn) (.slice xa xl.length xc) 24
  have q0 : w0.cell? ⟨W.heap.size, 0, none⟩ = some (.int .i64 m) := q 0 _ rfl
  have q1 : w0.cell? ⟨W.heap.size, 1, none⟩ = some (.iface T y) := q 1 _ rfl
  have c0 := cell_regrown q0
  have c0' := cell_regrown q1
  have c1 := cell_regrown p0
  have c2 := cell_regrown p1
  have c3 := cell_regrown p2
  have Q1 := Lib.hid (regrown (w := w0) fun W' hW' => prow_any xk xn xa xl.length xc W')
  by_cases hr : xk = 3 ∨ xk = 4
  · have hh := PT.hold8 v m t0 l (.mk xk xn xl) hr
    rw [show decide (xk = 3 ∨ xk = 4) = true by simpa using hr] at Q1
    by_cases hlt : m < xl.length
    · have hh2 : PT.holds (.mk 8 v m (t0 :: l)) (.mk xk xn xl) = t0.holds xl[m] := by
        rw [hh, dif_pos ⟨by omega, by simpa [VT.items] using hlt⟩]; rfl
      rw [hh2]
      have hok0 := hok _ _ hW hB
      obtain ⟨b', o', rfl, ay, cy, e0, e1, e2, hy⟩ := (hxr.below hB).got m hlt
      have d0 := cell_regrown e0
      have d1 := cell_regrown e1
      have d2 := cell_regrown e2
      have Q := Lib.hid (regrown (w := w0) fun W' hW' => hc W' xl[m] _ (hok _ _ hok0 hW') (hy.below hW'))
      have Q2 := Q1
      clear hc hx hxr hW q hr hok hok0 hh hh2 e0 e1 e2 hy
      go_enter Try.func109, Try.ntmps109
      go_wp2_with fail
      refine wp_region_quiet_below (by kernel_rfl) (by kernel_rfl) ?_
      repeat (go_big_quiet_step (first | with_reducible exact Q.out _ _ | with_reducible exact Q1.out _ _ | with_reducible exact Q2.out _ _))
      refine wpQuiet_nil ?_
      intro _ hw'
      obtain ⟨⟨dq, osq⟩, hw''⟩ := hw'
      subst hw''
      go_wp2_with fail
      go_ret
      exact ⟨rfl, hB.trans ((below_regrown w0 dq osq).mono hB.size)⟩
    · have hh2 : PT.holds (.mk 8 v m (t0 :: l)) (.mk xk xn xl) = false := by
        rw [hh, dif_neg (by rintro ⟨_, h⟩; exact hlt (by simpa [VT.items] using h))]
      rw [hh2]
      have hmb : decide (m < xl.length) = false := by simpa using hlt
      have Q := Q1
      have Q2 := Q1
      clear hc hx hxr hW q hr hok hh hh2 hlt
      go_enter Try.func109, Try.ntmps109
      go_wp2_with fail
      refine wp_region_quiet_below (by kernel_rfl) (by kernel_rfl) ?_
      repeat (go_big_quiet_step (first | with_reducible exact Q.out _ _ | with_reducible exact Q1.out _ _ | with_reducible exact Q2.out _ _))
      refine wpQuiet_nil ?_
      intro _ hw'
      obtain ⟨⟨dq, osq⟩, hw''⟩ := hw'
      subst hw''
      go_wp2_with fail
      go_ret
      exact ⟨rfl, hB.trans ((below_regrown w0 dq osq).mono hB.size)⟩
  · rw [PT.holdsN v m (t0 :: l) (.mk xk xn xl) 8 (by omega) hr]
    rw [show decide (xk = 3 ∨ xk = 4) = false by simpa using hr] at Q1
    have Q := Q1
    have Q2 := Q1
    clear hc hx hxr hW q hr hok
    go_enter Try.func109, Try.ntmps109
    go_wp2_with fail
    refine wp_region_quiet_below (by kernel_rfl) (by kernel_rfl) ?_
    repeat (go_big_quiet_step (first | with_reducible exact Q.out _ _ | with_reducible exact Q1.out _ _ | with_reducible exact Q2.out _ _))
    refine wpQuiet_nil ?_
    intro _ hw'
    obtain ⟨⟨dq, osq⟩, hw''⟩ := hw'
    subst hw''
    go_wp2_with fail
    go_ret
    exact ⟨rfl, hB.trans ((below_regrown w0 dq osq).mono hB.size)⟩

set_option maxRecDepth 100000 in
set_option maxHeartbeats 4000000 in
theorem items9_holds (ok : World → Prop) (hok : ∀ W W', ok W → Below W.heap.size W W' → ok W') (t0 : PT) (h0 : Value) (H : Holder ok t0 h0) (v : VT) (n : Int) (l : List PT) : Holder ok (.mk 9 v n (t0 :: l)) (.iface 92 (.agg #[h0, .bool false])) := by
  obtain ⟨T, y, f, rfl, hn, hm, hf, hc⟩ := H
  refine ⟨_, _, 111, rfl, fun W => by kernel_rfl, fun W => by kernel_rfl, fun _ W => by kernel_rfl, fun W X xv hW hx => ?_⟩
  obtain ⟨xk, xn, xl⟩ := X
  obtain ⟨xa, xc, hxl, rfl, hxr⟩ := hx.open
  obtain ⟨w0, hw0, hB, q, p0, p1, p2⟩ := boxH3 W #[.iface T y, .bool false] 92 (.int .u8 xk) (.int .i64 xn) (.slice xa xl.length xc) 24
  have q0 : w0.cell? ⟨W.heap.size, 0, none⟩ = some (.iface T y) := q 0 _ rfl
  have q1 : w0.cell? ⟨W.heap.size, 1, none⟩ = some (.bool false) := q 1 _ rfl
  by_cases hr : xk = 3 ∨ xk = 4
  · rw [PT.hold9 v n t0 l (.mk xk xn xl) hr]
    show Calls _ _ _ _ (fun e w' => e = .returned (.bool (xl.all t0.holds)) ∧ _)
    have hrd : decide (xk = 3 ∨ xk = 4) = true := by simpa using hr
    have hok0 := hok _ _ hW hB
    have hxr0 := hxr.below hB
    have HC := Lib.hid hc; have HOK := Lib.hid hok; have HRD := Lib.hid hrd
    clear hx hxr hW q hr hc hok hrd
    go_enter Try.func111, Try.ntmps111
    go_wp2_with fail
    refine (prow_any _ _ _ _ _ _).mono ?_
    rintro e w2 ⟨rfl, hb2⟩
    rw [HRD.out]
    have g0 := cell_stays hb2 q0
    have g1 := cell_stays hb2 q1
    have h2 := cell_stays hb2 p2
    have hxr2 := hxr0.below hb2
    have hok2 := HOK.out _ _ hok0 hb2
    clear q0 q1 p0 p1 p2 hxr0 hok0
    go_wp2_with fail
    go_loopw [13] (fun x wr => ∃ i : Nat, x = .int .i64 i ∧ i ≤ xl.length ∧ xl.all t0.holds = (xl.drop i).all t0.holds ∧ Below w2.heap.size w2 wr) (fun x _ => xl.length - (intOf x).toNat)
    case atStart => exact ⟨0, rfl, by omega, by simp, Below.refl _ _⟩
    case round =>
      obtain ⟨i, rfl, hi, he, hBr⟩ := hrel
      have HE := Lib.hid he; clear he
      by_cases hlt : i < xl.length
      · obtain ⟨b', o', rfl, ay, cy, e0, e1, e2, hy⟩ := (hxr2.below hBr).got i hlt
        have hd : (xl.drop i).all t0.holds = and (t0.holds xl[i]) ((xl.drop (i + 1)).all t0.holds) := by rw [drop_cons hlt]; rfl
        obtain ⟨z, hz⟩ : ∃ z, z = t0.holds xl[i] := ⟨_, rfl⟩
        rw [← hz] at hd
        obtain ⟨w3, hw3, m3, s3, r0, r1, r2, _⟩ := box3 wr (.int .u8 xl[i].kind) (.int .i64 xl[i].num) (.slice ay xl[i].items.length cy) 24
        have hB3 := hBr.trans (m3.mono hBr.size)
        have f0 := cell_stays hB3 g0
        have f1 := cell_stays hB3 g1
        have hok3 := HOK.out _ _ hok2 hB3
        have Q := Lib.hid (regrown (w := w3) fun W' hW' => by have := HC.out W' xl[i] _ (HOK.out _ _ hok3 hW') ((hy.below m3).below hW'); rwa [← hz] at this)
        have Q1 := Q
        have Q2 := Q
        have HD := Lib.hid hd; clear hd hz hy hok3
        have c0 := cell_regrown f0
        have c1 := cell_regrown f1
        have d0 := cell_regrown r0
        have d1 := cell_regrown r1
        have d2 := cell_regrown r2
        go_wp2_with fail
        refine wp_region_quiet_below (by kernel_rfl) (by kernel_rfl) ?_
        repeat (go_big_quiet_step (first | with_reducible exact Q.out _ _ | with_reducible exact Q1.out _ _ | with_reducible exact Q2.out _ _))
        refine wpQuiet_nil ?_
        intro _ hw'
        obtain ⟨⟨dq, osq⟩, hw''⟩ := hw'
        subst hw''
        have hB4 := hB3.trans ((below_regrown w3 dq osq).mono hB3.size)
        have f1 := cell_regrown f1 dq osq
        clear c0 c1 d0 d1 d2 f0 Q Q1 Q2 hBr hB3 e0 e1 e2 r0 r1 r2
        cases z
        case false =>
          go_wp2_with fail
          go_ret
          exact ⟨ret_bool (by rw [HE.out, HD.out]; rfl), hB.trans ((hb2.trans (hB4.mono hb2.size)).mono hB.size)⟩
        case true =>
          go_wp2_with fail
          go_roundw
          case rel => exact ⟨i + 1, by go_num, by omega, by rw [HE.out, HD.out]; rfl, hB4⟩
          case measure => simp [intOf]; omega
      · have g1 := cell_stays hBr g1
        go_wp2_with fail
        go_ret
        exact ⟨ret_bool (by rw [HE.out, drop_nil hlt]; rfl), hB.trans ((hb2.trans (hBr.mono hb2.size)).mono hB.size)⟩
  · rw [PT.holdsN v n (t0 :: l) (.mk xk xn xl) 9 (by omega) hr]
    have hrd : decide (xk = 3 ∨ xk = 4) = false := by simpa using hr
    have HRD := Lib.hid hrd
    clear hc hx hxr hW q hr hok hrd
    go_enter Try.func111, Try.ntmps111
    go_wp2_with fail
    refine (prow_any _ _ _ _ _ _).mono ?_
    rintro e w2 ⟨rfl, hb2⟩
    rw [HRD.out]
    go_wp2_with fail
    go_ret
    exact ⟨rfl, hB.trans (hb2.mono hB.size)⟩
set_option maxRecDepth 100000 in
set_option maxHeartbeats 4000000 in
theorem items10_holds (ok : World → Prop) (hok : ∀ W W', ok W → Below W.heap.size W W' → ok W') (t0 : PT) (h0 : Value) (H : Holder ok t0 h0) (v : VT) (n : Int) (l : List PT) : Holder ok (.mk 10 v n (t0 :: l)) (.iface 92 (.agg #[h0, .bool true])) := by
  obtain ⟨T, y, f, rfl, hn, hm, hf, hc⟩ := H
  refine ⟨_, _, 111, rfl, fun W => by kernel_rfl, fun W => by kernel_rfl, fun _ W => by kernel_rfl, fun W X xv hW hx => ?_⟩
  obtain ⟨xk, xn, xl⟩ := X
  obtain ⟨xa, xc, hxl, rfl, hxr⟩ := hx.open
  obtain ⟨w0, hw0, hB, q, p0, p1, p2⟩ := boxH3 W #[.iface T y, .bool true] 92 (.int .u8 xk) (.int .i64 xn) (.slice xa xl.length xc) 24
  have q0 : w0.cell? ⟨W.heap.size, 0, none⟩ = some (.iface T y) := q 0 _ rfl
  have q1 : w0.cell? ⟨W.heap.size, 1, none⟩ = some (.bool true) := q 1 _ rfl
  by_cases hr : xk = 3 ∨ xk = 4
  · rw [PT.hold10 v n t0 l (.mk xk xn xl) hr]
    show Calls _ _ _ _ (fun e w' => e = .returned (.bool (xl.any t0.holds)) ∧ _)
    have hrd : decide (xk = 3 ∨ xk = 4) = true := by simpa using hr
    have hok0 := hok _ _ hW hB
    have hxr0 := hxr.below hB
    have HC := Lib.hid hc; have HOK := Lib.hid hok; have HRD := Lib.hid hrd
    clear hx hxr hW q hr hc hok hrd
    go_enter Try.func111, Try.ntmps111
    go_wp2_with fail
    refine (prow_any _ _ _ _ _ _).mono ?_
    rintro e w2 ⟨rfl, hb2⟩
    rw [HRD.out]
    have g0 := cell_stays hb2 q0
    have g1 := cell_stays hb2 q1
    have h2 := cell_stays hb2 p2
    have hxr2 := hxr0.below hb2
    have hok2 := HOK.out _ _ hok0 hb2
    clear q0 q1 p0 p1 p2 hxr0 hok0
    go_wp2_with fail
    go_loopw [13] (fun x wr => ∃ i : Nat, x = .int .i64 i ∧ i ≤ xl.length ∧ xl.any t0.holds = (xl.drop i).any t0.holds ∧ Below w2.heap.size w2 wr) (fun x _ => xl.length - (intOf x).toNat)
    case atStart => exact ⟨0, rfl, by omega, by simp, Below.refl _ _⟩
    case round =>
      obtain ⟨i, rfl, hi, he, hBr⟩ := hrel
      have HE := Lib.hid he; clear he
      by_cases hlt : i < xl.length
      · obtain ⟨b', o', rfl, ay, cy, e0, e1, e2, hy⟩ := (hxr2.below hBr).got i hlt
        have hd : (xl.drop i).any t0.holds = or (t0.holds xl[i]) ((xl.drop (i + 1)).any t0.holds) := by rw [drop_cons hlt]; rfl
        obtain ⟨z, hz⟩ : ∃ z, z = t0.holds xl[i] := ⟨_, rfl⟩
        rw [← hz] at hd
        obtain ⟨w3, hw3, m3, s3, r0, r1, r2, _⟩ := box3 wr (.int .u8 xl[i].kind) (.int .i64 xl[i].num) (.slice ay xl[i].items.length cy) 24
        have hB3 := hBr.trans (m3.mono hBr.size)
        have f0 := cell_stays hB3 g0
        have f1 := cell_stays hB3 g1
        have hok3 := HOK.out _ _ hok2 hB3
        have Q := Lib.hid (regrown (w := w3) fun W' hW' => by have := HC.out W' xl[i] _ (HOK.out _ _ hok3 hW') ((hy.below m3).below hW'); rwa [← hz] at this)
        have Q1 := Q
        have Q2 := Q
        have HD := Lib.hid hd; clear hd hz hy hok3
        have c0 := cell_regrown f0
        have c1 := cell_regrown f1
        have d0 := cell_regrown r0
        have d1 := cell_regrown r1
        have d2 := cell_regrown r2
        go_wp2_with fail
        refine wp_region_quiet_below (by kernel_rfl) (by kernel_rfl) ?_
        repeat (go_big_quiet_step (first | with_reducible exact Q.out _ _ | with_reducible exact Q1.out _ _ | with_reducible exact Q2.out _ _))
        refine wpQuiet_nil ?_
        intro _ hw'
        obtain ⟨⟨dq, osq⟩, hw''⟩ := hw'
        subst hw''
        have hB4 := hB3.trans ((below_regrown w3 dq osq).mono hB3.size)
        have f1 := cell_regrown f1 dq osq
        clear c0 c1 d0 d1 d2 f0 Q Q1 Q2 hBr hB3 e0 e1 e2 r0 r1 r2
        cases z
        case true =>
          go_wp2_with fail
          go_ret
          exact ⟨ret_bool (by rw [HE.out, HD.out]; rfl), hB.trans ((hb2.trans (hB4.mono hb2.size)).mono hB.size)⟩
        case false =>
          go_wp2_with fail
          go_roundw
          case rel => exact ⟨i + 1, by go_num, by omega, by rw [HE.out, HD.out]; rfl, hB4⟩
          case measure => simp [intOf]; omega
      · have g1 := cell_stays hBr g1
        go_wp2_with fail
        go_ret
        exact ⟨ret_bool (by rw [HE.out, drop_nil hlt]; rfl), hB.trans ((hb2.trans (hBr.mono hb2.size)).mono hB.size)⟩
  · rw [PT.holdsN v n (t0 :: l) (.mk xk xn xl) 10 (by omega) hr]
    have hrd : decide (xk = 3 ∨ xk = 4) = false := by simpa using hr
    have HRD := Lib.hid hrd
    clear hc hx hxr hW q hr hok hrd
    go_enter Try.func111, Try.ntmps111
    go_wp2_with fail
    refine (prow_any _ _ _ _ _ _).mono ?_
    rintro e w2 ⟨rfl, hb2⟩
    rw [HRD.out]
    go_wp2_with fail
    go_ret
    exact ⟨rfl, hB.trans (hb2.mono hB.size)⟩
end Go.Proofs.Ytclmnpfdnhfbmaa
