/- Texts of this claim laid into one: PHold, POf, PHolds, PRows, PTab, PBlk. -/
import Derived.Test.YteebbffecaeciaaM01
import Derived.Test.YteebbffecaeciaaM50
import Derived.Test.YteebbffecaeciaaM25
import Derived.Test.YteebbffecaeciaaM08
import Derived.Test.YteebbffecaeciaaM07
import Derived.Deep.RegionHeld3
import Derived.Test.YteebbffecaeciaaM12
import Derived.Test.YteebbffecaeciaaM49
/- The holders of package pred: what calling 'holds' answers. -/
namespace Go.Proofs.Yteebbffecaeciaa
open Go.RowKit

/-- a holder's box, and a value's behind it. -/
theorem boxH3 (w : World) (cs : Array Value) (T : Nat) (x y z : Value) (T' : Nat) : ∃ w4, (w.alloc (.cells cs T)).alloc (.cells #[x, y, z] T') = w4 ∧ Below w.heap.size w w4 ∧ (∀ o v, cs[o]? = some v → w4.cell? ⟨w.heap.size, o, none⟩ = some v) ∧
    w4.cell? ⟨w.heap.size + 1, 0, none⟩ = some x ∧ w4.cell? ⟨w.heap.size + 1, 1, none⟩ = some y ∧ w4.cell? ⟨w.heap.size + 1, 2, none⟩ = some z := by
  refine ⟨_, rfl, (Below.al _).trans ((Below.al _).mono (by simp)), fun o v h => ?_, ?_, ?_, ?_⟩
  · refine cell_stays (Below.al _) ?_
    first | (go_simp; exact h) | go_simp
  · go_simp
  · go_simp
  · go_simp
/-- h is a holder that answers as the tree, in each world that is ok. -/
def Holder (ok : World → Prop) (t : PT) (h : Value) : Prop := ∃ T y f, h = .iface T y ∧ (∀ W, (nilAhead 270 T y "tombola/pred.holds").run Try.prog W = .ok (some false) W) ∧ (∀ W, (method 270 T y "tombola/pred.holds").run Try.prog W = .ok (f, y) W) ∧ (∀ args W, (callFunc f args).run Try.prog W = .ok (.enter f args) W) ∧
  ∀ W X v, ok W → VIn W X v → Calls Try.prog f #[y, v] W fun e w' => e = .returned (.bool (t.holds X)) ∧ Below W.heap.size W w'
theorem PT.hold5 (v : VT) (n : Int) (t : PT) (l : List PT) (x : VT) : PT.holds (.mk 5 v n (t :: l)) x = !t.holds x := by rw [PT.holds, PT.fst]; simp
set_option maxRecDepth 100000 in
set_option maxHeartbeats 4000000 in
theorem not_holds (ok : World → Prop) (hok : ∀ W W', ok W → Below W.heap.size W W' → ok W') (t0 : PT) (h0 : Value) (H : Holder ok t0 h0) (v : VT) (n : Int) (l : List PT) : Holder ok (.mk 5 v n (t0 :: l)) (.iface 103 (.agg #[h0])) := by
  obtain ⟨T, y, f, rfl, hn, hm, hf, hc⟩ := H
  refine ⟨_, _, 175, rfl, fun W => by kernel_rfl, fun W => by kernel_rfl, fun _ W => by kernel_rfl, fun W X xv hW hx => ?_⟩
  obtain ⟨xk, xn, xl⟩ := X
  obtain ⟨xa, xc, hxl, rfl, hxr⟩ := hx.open
  rw [PT.hold5]
  obtain ⟨w0, hw0, hB, q, p0, p1, p2⟩ := boxH3 W #[.iface T y] 103 (.int .u8 xk) (.int .i64 xn) (.slice xa xl.length xc) 25
  have q0 : w0.cell? ⟨W.heap.size, 0, none⟩ = some (.iface T y) := q 0 _ rfl
  have hc0 := hc w0 _ _ (hok _ _ hW hB) (hx.below hB)
  have HC := Lib.hid hc0
  clear hc hx hxr hW hc0 q
  go_enter Try.func175, Try.ntmps175
  go_wp2_with fail
  refine (HC.out).mono ?_
  rintro e w1 ⟨rfl, hb1⟩
  go_wp2_with fail
  go_ret
  exact ⟨rfl, hB.trans (hb1.mono hB.size)⟩

/-- a call that hands back one value and turns nothing that was there, in a region that draws its order. -/
theorem regrown {f : FuncId} {args : Array Value} {w : World} {v : Value} (h : ∀ W, Below w.heap.size w W → Calls Try.prog f args W fun e w' => e = .returned v ∧ Below W.heap.size W w') :
    ∀ d os, Calls Try.prog f args (Go.Sort.grow (redrawn w d) os) fun e w'' => e = .returned v ∧ ∃ p : Regrown, w'' = Go.Sort.grow (redrawn w p.d) p.os :=
  fun d os => Calls.regrown_of (h _ (below_regrown w d os))

theorem always_holds (ok : World → Prop) (b : Bool) (t : PT) (ht : ∀ X, t.holds X = b) : Holder ok t (.iface 99 (.bool b)) := by
  refine ⟨_, _, 166, rfl, fun W => by kernel_rfl, fun W => by kernel_rfl, fun _ W => by kernel_rfl, fun W X xv hW hx => ?_⟩
  rw [ht]
  obtain ⟨xk, xn, xl⟩ := X
  obtain ⟨xa, xc, hxl, rfl, hxr⟩ := hx.open
  clear hx ht hxr
  go_enter Try.func166, Try.ntmps166
  go_wp2_with fail
  go_ret
  exact ⟨rfl, by first | exact Below.refl _ _ | exact Below.al _⟩

set_option maxRecDepth 100000 in
set_option maxHeartbeats 4000000 in
theorem several6_holds (ok : World → Prop) (hok : ∀ W W', ok W → Below W.heap.size W W' → ok W') (l : List PT) (a : Option Addr) (cap : Nat) (hlen : l.length ≤ 1759218604390)
    (H : ∀ i (h : i < l.length), ∃ b hh, a = some ⟨b, 0, none⟩ ∧ Holder ok l[i] hh ∧ ∀ W, ok W → W.cell? ⟨b, i, none⟩ = some hh) (v : VT) (n : Int) : Holder ok (.mk 6 v n l) (.iface 105 (.agg #[.slice a l.length cap, .bool false])) := by
  refine ⟨_, _, 176, rfl, fun W => by kernel_rfl, fun W => by kernel_rfl, fun _ W => by kernel_rfl, fun W X xv hW hx => ?_⟩
  obtain ⟨xk, xn, xl⟩ := X
  obtain ⟨xa, xc, hxl, rfl, hxr⟩ := hx.open
  rw [PT.holds6]
  obtain ⟨w0, hw0, hB, q, p0, p1, p2⟩ := boxH3 W #[.slice a l.length cap, .bool false] 105 (.int .u8 xk) (.int .i64 xn) (.slice xa xl.length xc) 25
  have q0 : w0.cell? ⟨W.heap.size, 0, none⟩ = some (.slice a l.length cap) := q 0 _ rfl
  have q1 : w0.cell? ⟨W.heap.size, 1, none⟩ = some (.bool false) := q 1 _ rfl
  have hok0 := hok _ _ hW hB
  have hx0 := hx.below hB
  have HH := Lib.hid H; have HOK := Lib.hid hok
  clear hx hxr hW q H hok
  go_enter Try.func176, Try.ntmps176
  go_wp2_with fail
  go_loopw [10] (fun x wr => ∃ i : Nat, x = .int .i64 i ∧ i ≤ l.length ∧ PT.every l (.mk xk xn xl) = PT.every (l.drop i) (.mk xk xn xl) ∧ Below w0.heap.size w0 wr) (fun x _ => l.length - (intOf x).toNat)
  case atStart => exact ⟨0, rfl, by omega, by simp, Below.refl _ _⟩
  case round =>
    obtain ⟨i, rfl, hi, he, hBr⟩ := hrel
    have HE := Lib.hid he; clear he
    have f1 := cell_stays hBr q1
    have f6 := cell_stays hBr p0
    have f7 := cell_stays hBr p1
    have f8 := cell_stays hBr p2
    by_cases hlt : i < l.length
    · obtain ⟨b, hh, rfl, ⟨T, y, f, rfl, hn, hm, hf, hc⟩, hcell⟩ := HH.out i hlt
      have hokr := HOK.out _ _ hok0 hBr
      have d0 := hcell wr hokr
      have hd := PT.every_drop hlt (.mk xk xn xl)
      obtain ⟨z, hz⟩ : ∃ z, z = l[i].holds (.mk xk xn xl) := ⟨_, rfl⟩
      rw [← hz] at hd
      have hx := hx0.below hBr
      have Q := Lib.hid (regrown (w := wr) fun W' hW' => by have := hc W' _ _ (HOK.out _ _ hokr hW') (hx.below hW'); rwa [← hz] at this)
      have HD := Lib.hid hd; have HZ := Lib.hid hz; clear hd hz hcell hx hc hokr
      have c1 := cell_regrown f1
      have c6 := cell_regrown f6
      have c7 := cell_regrown f7
      have c8 := cell_regrown f8
      go_wp2_with fail
      refine wp_region_quiet_below (by kernel_rfl) (by kernel_rfl) ?_
      repeat (go_big_quiet_step (first | with_reducible exact Q.out _ _))
      refine wpQuiet_nil ?_
      intro _ hw'
      obtain ⟨⟨dq, osq⟩, hw''⟩ := hw'
      subst hw''
      have hB2 := hBr.trans ((below_regrown wr dq osq).mono hBr.size)
      have f1 := cell_regrown f1 dq osq
      clear c1 c6 c7 c8 f6 f7 f8 d0 Q hBr
      cases z
      case false =>
        go_wp2_with fail
        go_ret
        exact ⟨ret_bool (by rw [HE.out, HD.out]; rfl), hB.trans (hB2.mono hB.size)⟩
      case true =>
        go_wp2_with fail
        go_roundw
        case rel => exact ⟨i + 1, by go_num, by omega, by rw [HE.out, HD.out]; rfl, hB2⟩
        case measure => simp [intOf]; omega
    · go_wp2_with fail
      go_ret
      exact ⟨ret_bool (by rw [HE.out, drop_nil hlt, PT.every]), hB.trans (hBr.mono hB.size)⟩
set_option maxRecDepth 100000 in
set_option maxHeartbeats 4000000 in
theorem several7_holds (ok : World → Prop) (hok : ∀ W W', ok W → Below W.heap.size W W' → ok W') (l : List PT) (a : Option Addr) (cap : Nat) (hlen : l.length ≤ 1759218604390)
    (H : ∀ i (h : i < l.length), ∃ b hh, a = some ⟨b, 0, none⟩ ∧ Holder ok l[i] hh ∧ ∀ W, ok W → W.cell? ⟨b, i, none⟩ = some hh) (v : VT) (n : Int) : Holder ok (.mk 7 v n l) (.iface 105 (.agg #[.slice a l.length cap, .bool true])) := by
  refine ⟨_, _, 176, rfl, fun W => by kernel_rfl, fun W => by kernel_rfl, fun _ W => by kernel_rfl, fun W X xv hW hx => ?_⟩
  obtain ⟨xk, xn, xl⟩ := X
  obtain ⟨xa, xc, hxl, rfl, hxr⟩ := hx.open
  rw [PT.holds7]
  obtain ⟨w0, hw0, hB, q, p0, p1, p2⟩ := boxH3 W #[.slice a l.length cap, .bool true] 105 (.int .u8 xk) (.int .i64 xn) (.slice xa xl.length xc) 25
  have q0 : w0.cell? ⟨W.heap.size, 0, none⟩ = some (.slice a l.length cap) := q 0 _ rfl
  have q1 : w0.cell? ⟨W.heap.size, 1, none⟩ = some (.bool true) := q 1 _ rfl
  have hok0 := hok _ _ hW hB
  have hx0 := hx.below hB
  have HH := Lib.hid H; have HOK := Lib.hid hok
  clear hx hxr hW q H hok
  go_enter Try.func176, Try.ntmps176
  go_wp2_with fail
  go_loopw [10] (fun x wr => ∃ i : Nat, x = .int .i64 i ∧ i ≤ l.length ∧ PT.some l (.mk xk xn xl) = PT.some (l.drop i) (.mk xk xn xl) ∧ Below w0.heap.size w0 wr) (fun x _ => l.length - (intOf x).toNat)
  case atStart => exact ⟨0, rfl, by omega, by simp, Below.refl _ _⟩
  case round =>
    obtain ⟨i, rfl, hi, he, hBr⟩ := hrel
    have HE := Lib.hid he; clear he
    have f1 := cell_stays hBr q1
    have f6 := cell_stays hBr p0
    have f7 := cell_stays hBr p1
    have f8 := cell_stays hBr p2
    by_cases hlt : i < l.length
    · obtain ⟨b, hh, rfl, ⟨T, y, f, rfl, hn, hm, hf, hc⟩, hcell⟩ := HH.out i hlt
      have hokr := HOK.out _ _ hok0 hBr
      have d0 := hcell wr hokr
      have hd := PT.some_drop hlt (.mk xk xn xl)
      obtain ⟨z, hz⟩ : ∃ z, z = l[i].holds (.mk xk xn xl) := ⟨_, rfl⟩
      rw [← hz] at hd
      have hx := hx0.below hBr
      have Q := Lib.hid (regrown (w := wr) fun W' hW' => by have := hc W' _ _ (HOK.out _ _ hokr hW') (hx.below hW'); rwa [← hz] at this)
      have HD := Lib.hid hd; have HZ := Lib.hid hz; clear hd hz hcell hx hc hokr
      have c1 := cell_regrown f1
      have c6 := cell_regrown f6
      have c7 := cell_regrown f7
      have c8 := cell_regrown f8
      go_wp2_with fail
      refine wp_region_quiet_below (by kernel_rfl) (by kernel_rfl) ?_
      repeat (go_big_quiet_step (first | with_reducible exact Q.out _ _))
      refine wpQuiet_nil ?_
      intro _ hw'
      obtain ⟨⟨dq, osq⟩, hw''⟩ := hw'
      subst hw''
      have hB2 := hBr.trans ((below_regrown wr dq osq).mono hBr.size)
      have f1 := cell_regrown f1 dq osq
      clear c1 c6 c7 c8 f6 f7 f8 d0 Q hBr
      cases z
      case true =>
        go_wp2_with fail
        go_ret
        exact ⟨ret_bool (by rw [HE.out, HD.out]; rfl), hB.trans (hB2.mono hB.size)⟩
      case false =>
        go_wp2_with fail
        go_roundw
        case rel => exact ⟨i + 1, by go_num, by omega, by rw [HE.out, HD.out]; rfl, hB2⟩
        case measure => simp [intOf]; omega
    · go_wp2_with fail
      go_ret
      exact ⟨ret_bool (by rw [HE.out, drop_nil hlt, PT.some]), hB.trans (hBr.mono hB.size)⟩

theorem than_box (w : World) (a b c d x y z : Value) : ∃ w4, (w.alloc (.cells #[a, b, c, d] 101)).alloc (.cells #[x, y, z] 25) = w4 ∧ Below w.heap.size w w4 ∧
    w4.cell? ⟨w.heap.size, 0, none⟩ = some a ∧ w4.cell? ⟨w.heap.size, 1, none⟩ = some b ∧ w4.cell? ⟨w.heap.size, 2, none⟩ = some c ∧ w4.cell? ⟨w.heap.size, 3, none⟩ = some d ∧
    w4.cell? ⟨w.heap.size + 1, 0, none⟩ = some x ∧ w4.cell? ⟨w.heap.size + 1, 1, none⟩ = some y ∧ w4.cell? ⟨w.heap.size + 1, 2, none⟩ = some z := by
  obtain ⟨w4, h, hb, hc, h0, h1, h2⟩ := boxH3 w #[a, b, c, d] 101 x y z 25
  exact ⟨w4, h, hb, hc 0 _ rfl, hc 1 _ rfl, hc 2 _ rfl, hc 3 _ rfl, h0, h1, h2⟩

set_option maxRecDepth 100000 in
set_option maxHeartbeats 4000000 in
theorem than3_holds (ok : World → Prop) (hok : ∀ W W', ok W → Below W.heap.size W W' → ok W') (v : VT) (n : Int) (l : List PT) (va : Option Addr) (vc : Nat)
    (H : ∀ W, ok W → VIn W v (.agg #[.int .u8 v.kind, .int .i64 v.num, .slice va v.items.length vc])) : Holder ok (.mk 3 v n l) (.iface 101 (.agg #[.int .u8 v.kind, .int .i64 v.num, .slice va v.items.length vc, .bool false])) := by
  refine ⟨_, _, 167, rfl, fun W => by kernel_rfl, fun W => by kernel_rfl, fun _ W => by kernel_rfl, fun W X xv hW hx => ?_⟩
  obtain ⟨xk, xn, xl⟩ := X
  obtain ⟨xa, xc, hxl, rfl, hxr⟩ := hx.open
  rw [PT.holds3]
  obtain ⟨w0, hw0, hB, q0, q1, q2, q3, p0, p1, p2⟩ := than_box W (.int .u8 v.kind) (.int .i64 v.num) (.slice va v.items.length vc) (.bool false) (.int .u8 xk) (.int .i64 xn) (.slice xa xl.length xc)
  have hv := H _ (hok _ _ hW hB)
  have hx0 := hx.below hB
  clear hx hxr hW H hok
  go_enter Try.func167, Try.ntmps167
  go_wp2_with fail
  refine (same_any _ _ _ _ _ _ (Nat.le_refl _) hx0 hv).mono ?_
  rintro e w2 ⟨rfl, hb2⟩
  go_wp2_with fail
  go_ret
  exact ⟨rfl, hB.trans (hb2.mono hB.size)⟩
set_option maxRecDepth 100000 in
set_option maxHeartbeats 4000000 in
theorem than4_holds (ok : World → Prop) (hok : ∀ W W', ok W → Below W.heap.size W W' → ok W') (v : VT) (n : Int) (l : List PT) (va : Option Addr) (vc : Nat)
    (H : ∀ W, ok W → VIn W v (.agg #[.int .u8 v.kind, .int .i64 v.num, .slice va v.items.length vc])) : Holder ok (.mk 4 v n l) (.iface 101 (.agg #[.int .u8 v.kind, .int .i64 v.num, .slice va v.items.length vc, .bool true])) := by
  refine ⟨_, _, 167, rfl, fun W => by kernel_rfl, fun W => by kernel_rfl, fun _ W => by kernel_rfl, fun W X xv hW hx => ?_⟩
  obtain ⟨xk, xn, xl⟩ := X
  obtain ⟨xa, xc, hxl, rfl, hxr⟩ := hx.open
  rw [PT.holds4]
  obtain ⟨w0, hw0, hB, q0, q1, q2, q3, p0, p1, p2⟩ := than_box W (.int .u8 v.kind) (.int .i64 v.num) (.slice va v.items.length vc) (.bool true) (.int .u8 xk) (.int .i64 xn) (.slice xa xl.length xc)
  have hv := H _ (hok _ _ hW hB)
  have hx0 := hx.below hB
  clear hx hxr hW H hok
  obtain ⟨c, hc⟩ : ∃ c, c = VT.cmp (.mk xk xn xl) v := ⟨_, rfl⟩
  rw [← hc]
  have HC := Lib.hid hc; clear hc
  go_enter Try.func167, Try.ntmps167
  go_wp2_with fail
  refine (cmp_any _ _ _ _ _ _ (Nat.le_refl _) hx0 hv).mono ?_
  rintro e w2 ⟨rfl, hb2⟩
  rw [← HC.out]
  go_wp2_with fail
  go_ret
  exact ⟨rfl, hB.trans (hb2.mono hB.size)⟩

theorem PT.hold8 (v : VT) (n : Int) (t : PT) (l : List PT) (x : VT) (h : x.kind = 3 ∨ x.kind = 4) : PT.holds (.mk 8 v n (t :: l)) x = if h : 0 ≤ n ∧ n.toNat < x.items.length then t.holds x.items[n.toNat] else false := by rw [PT.holds8 _ _ _ _ h]; rfl
theorem PT.hold9 (v : VT) (n : Int) (t : PT) (l : List PT) (x : VT) (h : x.kind = 3 ∨ x.kind = 4) : PT.holds (.mk 9 v n (t :: l)) x = x.items.all t.holds := by rw [PT.holds9 _ _ _ _ h]; rfl
theorem PT.hold10 (v : VT) (n : Int) (t : PT) (l : List PT) (x : VT) (h : x.kind = 3 ∨ x.kind = 4) : PT.holds (.mk 10 v n (t :: l)) x = x.items.any t.holds := by rw [PT.holds10 _ _ _ _ h]; rfl
theorem PT.hold11 (v : VT) (n : Int) (t : PT) (l : List PT) (x : VT) (h : x.kind = 3 ∨ x.kind = 4) : PT.holds (.mk 11 v n (t :: l)) x = t.holds (.mk 1 x.items.length []) := by rw [PT.holds11 _ _ _ _ h]; rfl


set_option maxRecDepth 100000 in
set_option maxHeartbeats 4000000 in
theorem many_holds (ok : World → Prop) (hok : ∀ W W', ok W → Below W.heap.size W W' → ok W') (t0 : PT) (h0 : Value) (H : Holder ok t0 h0) (v : VT) (n : Int) (l : List PT) : Holder ok (.mk 11 v n (t0 :: l)) (.iface 110 (.agg #[h0])) := by
  obtain ⟨T, y, f, rfl, hn, hm, hf, hc⟩ := H
  refine ⟨_, _, 180, rfl, fun W => by kernel_rfl, fun W => by kernel_rfl, fun _ W => by kernel_rfl, fun W X xv hW hx => ?_⟩
  obtain ⟨xk, xn, xl⟩ := X
  obtain ⟨xa, xc, hxl, rfl, hxr⟩ := hx.open
  obtain ⟨w0, hw0, hB, q, p0, p1, p2⟩ := boxH3 W #[.iface T y] 110 (.int .u8 xk) (.int .i64 xn) (.slice xa xl.length xc) 25
  have q0 : w0.cell? ⟨W.heap.size, 0, none⟩ = some (.iface T y) := q 0 _ rfl
  have c0 := cell_regrown q0
  have c1 := cell_regrown p0
  have c2 := cell_regrown p1
  have c3 := cell_regrown p2
  have Q1 := Lib.hid (regrown (w := w0) fun W' hW' => prow_any xk xn xa xl.length xc W')
  by_cases hr : xk = 3 ∨ xk = 4
  · rw [PT.hold11 v n t0 l (.mk xk xn xl) hr]
    rw [show decide (xk = 3 ∨ xk = 4) = true by simpa using hr] at Q1
    have hok0 := hok _ _ hW hB
    have Q2 := Lib.hid (regrown (w := w0) fun W' hW' => num_any xl.length W')
    have Q := Lib.hid (regrown (w := w0) fun W' hW' => hc W' (.mk 1 xl.length []) _ (hok _ _ hok0 hW') (VIn.leaf _ _))
    clear hc hx hxr hW q hr hok hok0
    go_enter Try.func180, Try.ntmps180
    go_wp2_with fail
    refine wp_region_quiet_below (by kernel_rfl) (by kernel_rfl) ?_
    repeat (go_big_quiet_step (first | with_reducible exact Q.out _ _ | with_reducible exact Q1.out _ _ | with_reducible exact Q2.out _ _))
    refine wpQuiet_nil ?_
    intro _ hw'
    obtain ⟨⟨dq, osq⟩, hw''⟩ := hw'
    subst hw''
    go_wp2_with fail
    go_ret
    exact ⟨rfl, hB.trans ((below_regrown w0 dq osq).mono hB.size)⟩
  · rw [PT.holdsN v n (t0 :: l) (.mk xk xn xl) 11 (by omega) hr]
    rw [show decide (xk = 3 ∨ xk = 4) = false by simpa using hr] at Q1
    have Q := Q1
    have Q2 := Q1
    clear hc hx hxr hW q hr hok
    go_enter Try.func180, Try.ntmps180
    go_wp2_with fail
    refine wp_region_quiet_below (by kernel_rfl) (by kernel_rfl) ?_
    repeat (go_big_quiet_step (first | with_reducible exact Q.out _ _ | with_reducible exact Q1.out _ _ | with_reducible exact Q2.out _ _))
    refine wpQuiet_nil ?_
    intro _ hw'
    obtain ⟨⟨dq, osq⟩, hw''⟩ := hw'
    subst hw''
    go_wp2_with fail
    go_ret
    exact ⟨rfl, hB.trans ((below_regrown w0 dq osq).mono hB.size)⟩

set_option maxRecDepth 100000 in
set_option maxHeartbeats 4000000 in
theorem at_holds (ok : World → Prop) (hok : ∀ W W', ok W → Below W.heap.size W W' → ok W') (t0 : PT) (h0 : Value) (H : Holder ok t0 h0) (v : VT) (m : Nat) (l : List PT) : Holder ok (.mk 8 v m (t0 :: l)) (.iface 107 (.agg #[.int .i64 m, h0])) := by
  obtain ⟨T, y, f, rfl, hn, hm, hf, hc⟩ := H
  refine ⟨_, _, 177, rfl, fun W => by kernel_rfl, fun W => by kernel_rfl, fun _ W => by kernel_rfl, fun W X xv hW hx => ?_⟩
  obtain ⟨xk, xn, xl⟩ := X
  obtain ⟨xa, xc, hxl, rfl, hxr⟩ := hx.open
  obtain ⟨w0, hw0, hB, q, p0, p1, p2⟩ := boxH3 W #[.int .i64 m, .iface T y] 107 (.int .u8 xk) (.int .i64 xn) (.slice xa xl.length xc) 25
  have q0 : w0.cell? ⟨W.heap.size, 0, none⟩ = some (.int .i64 m) := q 0 _ rfl
  have q1 : w0.cell? ⟨W.heap.size, 1, none⟩ = some (.iface T y) := q 1 _ rfl
  have c0 := cell_regrown q0
  have c0' := cell_regrown q1
  have c1 := cell_regrown p0
  have c2 := cell_regrown p1
  have c3 := cell_regrown p2
  have Q1 := Lib.hid (regrown (w := w0) fun W' hW' => prow_any xk xn xa xl.length xc W')
  by_cases hr : xk = 3 ∨ xk = 4
  · have hh := PT.hold8 v m t0 l (.mk xk xn xl) hr
    rw [show decide (xk = 3 ∨ xk = 4) = true by simpa using hr] at Q1
    by_cases hlt : m < xl.length
    · have hh2 : PT.holds (.mk 8 v m (t0 :: l)) (.mk xk xn xl) = t0.holds xl[m] := by
        rw [hh, dif_pos ⟨by omega, by simpa [VT.items] using hlt⟩]; rfl
      rw [hh2]
      have hok0 := hok _ _ hW hB
      obtain ⟨b', o', rfl, ay, cy, e0, e1, e2, hy⟩ := (hxr.below hB).got m hlt
      have d0 := cell_regrown e0
      have d1 := cell_regrown e1
      have d2 := cell_regrown e2
      have Q := Lib.hid (regrown (w := w0) fun W' hW' => hc W' xl[m] _ (hok _ _ hok0 hW') (hy.below hW'))
      have Q2 := Q1
      clear hc hx hxr hW q hr hok hok0 hh hh2 e0 e1 e2 hy
      go_enter Try.func177, Try.ntmps177
      go_wp2_with fail
      refine wp_region_quiet_below (by kernel_rfl) (by kernel_rfl) ?_
      repeat (go_big_quiet_step (first | with_reducible exact Q.out _ _ | with_reducible exact Q1.out _ _ | with_reducible exact Q2.out _ _))
      refine wpQuiet_nil ?_
      intro _ hw'
      obtain ⟨⟨dq, osq⟩, hw''⟩ := hw'
      subst hw''
      go_wp2_with fail
      go_ret
      exact ⟨rfl, hB.trans ((below_regrown w0 dq osq).mono hB.size)⟩
    · have hh2 : PT.holds (.mk 8 v m (t0 :: l)) (.mk xk xn xl) = false := by
        rw [hh, dif_neg (by rintro ⟨_, h⟩; exact hlt (by simpa [VT.items] using h))]
      rw [hh2]
      have hmb : decide (m < xl.length) = false := by simpa using hlt
      have Q := Q1
      have Q2 := Q1
      clear hc hx hxr hW q hr hok hh hh2 hlt
      go_enter Try.func177, Try.ntmps177
      go_wp2_with fail
      refine wp_region_quiet_below (by kernel_rfl) (by kernel_rfl) ?_
      repeat (go_big_quiet_step (first | with_reducible exact Q.out _ _ | with_reducible exact Q1.out _ _ | with_reducible exact Q2.out _ _))
      refine wpQuiet_nil ?_
      intro _ hw'
      obtain ⟨⟨dq, osq⟩, hw''⟩ := hw'
      subst hw''
      go_wp2_with fail
      go_ret
      exact ⟨rfl, hB.trans ((below_regrown w0 dq osq).mono hB.size)⟩
  · rw [PT.holdsN v m (t0 :: l) (.mk xk xn xl) 8 (by omega) hr]
    rw [show decide (xk = 3 ∨ xk = 4) = false by simpa using hr] at Q1
    have Q := Q1
    have Q2 := Q1
    clear hc hx hxr hW q hr hok
    go_enter Try.func177, Try.ntmps177
    go_wp2_with fail
    refine wp_region_quiet_below (by kernel_rfl) (by kernel_rfl) ?_
    repeat (go_big_quiet_step (first | with_reducible exact Q.out _ _ | with_reducible exact Q1.out _ _ | with_reducible exact Q2.out _ _))
    refine wpQuiet_nil ?_
    intro _ hw'
    obtain ⟨⟨dq, osq⟩, hw''⟩ := hw'
    subst hw''
    go_wp2_with fail
    go_ret
    exact ⟨rfl, hB.trans ((below_regrown w0 dq osq).mono hB.size)⟩

set_option maxRecDepth 100000 in
set_option maxHeartbeats 4000000 in
theorem items9_holds (ok : World → Prop) (hok : ∀ W W', ok W → Below W.heap.size W W' → ok W') (t0 : PT) (h0 : Value) (H : Holder ok t0 h0) (v : VT) (n : Int) (l : List PT) : Holder ok (.mk 9 v n (t0 :: l)) (.iface 109 (.agg #[h0, .bool false])) := by
  obtain ⟨T, y, f, rfl, hn, hm, hf, hc⟩ := H
  refine ⟨_, _, 179, rfl, fun W => by kernel_rfl, fun W => by kernel_rfl, fun _ W => by kernel_rfl, fun W X xv hW hx => ?_⟩
  obtain ⟨xk, xn, xl⟩ := X
  obtain ⟨xa, xc, hxl, rfl, hxr⟩ := hx.open
  obtain ⟨w0, hw0, hB, q, p0, p1, p2⟩ := boxH3 W #[.iface T y, .bool false] 109 (.int .u8 xk) (.int .i64 xn) (.slice xa xl.length xc) 25
  have q0 : w0.cell? ⟨W.heap.size, 0, none⟩ = some (.iface T y) := q 0 _ rfl
  have q1 : w0.cell? ⟨W.heap.size, 1, none⟩ = some (.bool false) := q 1 _ rfl
  by_cases hr : xk = 3 ∨ xk = 4
  · rw [PT.hold9 v n t0 l (.mk xk xn xl) hr]
    show Calls _ _ _ _ (fun e w' => e = .returned (.bool (xl.all t0.holds)) ∧ _)
    have hrd : decide (xk = 3 ∨ xk = 4) = true := by simpa using hr
    have hok0 := hok _ _ hW hB
    have hxr0 := hxr.below hB
    have HC := Lib.hid hc; have HOK := Lib.hid hok; have HRD := Lib.hid hrd
    clear hx hxr hW q hr hc hok hrd
    go_enter Try.func179, Try.ntmps179
    go_wp2_with fail
    refine (prow_any _ _ _ _ _ _).mono ?_
    rintro e w2 ⟨rfl, hb2⟩
    rw [HRD.out]
    have g0 := cell_stays hb2 q0
    have g1 := cell_stays hb2 q1
    have h2 := cell_stays hb2 p2
    have hxr2 := hxr0.below hb2
    have hok2 := HOK.out _ _ hok0 hb2
    clear q0 q1 p0 p1 p2 hxr0 hok0
    go_wp2_with fail
    go_loopw [13] (fun x wr => ∃ i : Nat, x = .int .i64 i ∧ i ≤ xl.length ∧ xl.all t0.holds = (xl.drop i).all t0.holds ∧ Below w2.heap.size w2 wr) (fun x _ => xl.length - (intOf x).toNat)
    case atStart => exact ⟨0, rfl, by omega, by simp, Below.refl _ _⟩
    case round =>
      obtain ⟨i, rfl, hi, he, hBr⟩ := hrel
      have HE := Lib.hid he; clear he
      by_cases hlt : i < xl.length
      · obtain ⟨b', o', rfl, ay, cy, e0, e1, e2, hy⟩ := (hxr2.below hBr).got i hlt
        have hd : (xl.drop i).all t0.holds = and (t0.holds xl[i]) ((xl.drop (i + 1)).all t0.holds) := by rw [drop_cons hlt]; rfl
        obtain ⟨z, hz⟩ : ∃ z, z = t0.holds xl[i] := ⟨_, rfl⟩
        rw [← hz] at hd
        obtain ⟨w3, hw3, m3, s3, r0, r1, r2, _⟩ := box3 wr (.int .u8 xl[i].kind) (.int .i64 xl[i].num) (.slice ay xl[i].items.length cy) 25
        have hB3 := hBr.trans (m3.mono hBr.size)
        have f0 := cell_stays hB3 g0
        have f1 := cell_stays hB3 g1
        have hok3 := HOK.out _ _ hok2 hB3
        have Q := Lib.hid (regrown (w := w3) fun W' hW' => by have := HC.out W' xl[i] _ (HOK.out _ _ hok3 hW') ((hy.below m3).below hW'); rwa [← hz] at this)
        have Q1 := Q
        have Q2 := Q
        have HD := Lib.hid hd; clear hd hz hy hok3
        have c0 := cell_regrown f0
        have c1 := cell_regrown f1
        have d0 := cell_regrown r0
        have d1 := cell_regrown r1
        have d2 := cell_regrown r2
        go_wp2_with fail
        refine wp_region_quiet_below (by kernel_rfl) (by kernel_rfl) ?_
        repeat (go_big_quiet_step (first | with_reducible exact Q.out _ _ | with_reducible exact Q1.out _ _ | with_reducible exact Q2.out _ _))
        refine wpQuiet_nil ?_
        intro _ hw'
        obtain ⟨⟨dq, osq⟩, hw''⟩ := hw'
        subst hw''
        have hB4 := hB3.trans ((below_regrown w3 dq osq).mono hB3.size)
        have f1 := cell_regrown f1 dq osq
        clear c0 c1 d0 d1 d2 f0 Q Q1 Q2 hBr hB3 e0 e1 e2 r0 r1 r2
        cases z
        case false =>
          go_wp2_with fail
          go_ret
          exact ⟨ret_bool (by rw [HE.out, HD.out]; rfl), hB.trans ((hb2.trans (hB4.mono hb2.size)).mono hB.size)⟩
        case true =>
          go_wp2_with fail
          go_roundw
          case rel => exact ⟨i + 1, by go_num, by omega, by rw [HE.out, HD.out]; rfl, hB4⟩
          case measure => simp [intOf]; omega
      · have g1 := cell_stays hBr g1
        go_wp2_with fail
        go_ret
        exact ⟨ret_bool (by rw [HE.out, drop_nil hlt]; rfl), hB.trans ((hb2.trans (hBr.mono hb2.size)).mono hB.size)⟩
  · rw [PT.holdsN v n (t0 :: l) (.mk xk xn xl) 9 (by omega) hr]
    have hrd : decide (xk = 3 ∨ xk = 4) = false := by simpa using hr
    have HRD := Lib.hid hrd
    clear hc hx hxr hW q hr hok hrd
    go_enter Try.func179, Try.ntmps179
    go_wp2_with fail
    refine (prow_any _ _ _ _ _ _).mono ?_
    rintro e w2 ⟨rfl, hb2⟩
    rw [HRD.out]
    go_wp2_with fail
    go_ret
    exact ⟨rfl, hB.trans (hb2.mono hB.size)⟩
set_option maxRecDepth 100000 in
set_option maxHeartbeats 4000000 in
theorem items10_holds (ok : World → Prop) (hok : ∀ W W', ok W → Below W.heap.size W W' → ok W') (t0 : PT) (h0 : Value) (H : Holder ok t0 h0) (v : VT) (n : Int) (l : List PT) : Holder ok (.mk 10 v n (t0 :: l)) (.iface 109 (.agg #[h0, .bool true])) := by
  obtain ⟨T, y, f, rfl, hn, hm, hf, hc⟩ := H
  refine ⟨_, _, 179, rfl, fun W => by kernel_rfl, fun W => by kernel_rfl, fun _ W => by kernel_rfl, fun W X xv hW hx => ?_⟩
  obtain ⟨xk, xn, xl⟩ := X
  obtain ⟨xa, xc, hxl, rfl, hxr⟩ := hx.open
  obtain ⟨w0, hw0, hB, q, p0, p1, p2⟩ := boxH3 W #[.iface T y, .bool true] 109 (.int .u8 xk) (.int .i64 xn) (.slice xa xl.length xc) 25
  have q0 : w0.cell? ⟨W.heap.size, 0, none⟩ = some (.iface T y) := q 0 _ rfl
  have q1 : w0.cell? ⟨W.heap.size, 1, none⟩ = some (.bool true) := q 1 _ rfl
  by_cases hr : xk = 3 ∨ xk = 4
  · rw [PT.hold10 v n t0 l (.mk xk xn xl) hr]
    show Calls _ _ _ _ (fun e w' => e = .returned (.bool (xl.any t0.holds)) ∧ _)
    have hrd : decide (xk = 3 ∨ xk = 4) = true := by simpa using hr
    have hok0 := hok _ _ hW hB
    have hxr0 := hxr.below hB
    have HC := Lib.hid hc; have HOK := Lib.hid hok; have HRD := Lib.hid hrd
    clear hx hxr hW q hr hc hok hrd
    go_enter Try.func179, Try.ntmps179
    go_wp2_with fail
    refine (prow_any _ _ _ _ _ _).mono ?_
    rintro e w2 ⟨rfl, hb2⟩
    rw [HRD.out]
    have g0 := cell_stays hb2 q0
    have g1 := cell_stays hb2 q1
    have h2 := cell_stays hb2 p2
    have hxr2 := hxr0.below hb2
    have hok2 := HOK.out _ _ hok0 hb2
    clear q0 q1 p0 p1 p2 hxr0 hok0
    go_wp2_with fail
    go_loopw [13] (fun x wr => ∃ i : Nat, x = .int .i64 i ∧ i ≤ xl.length ∧ xl.any t0.holds = (xl.drop i).any t0.holds ∧ Below w2.heap.size w2 wr) (fun x _ => xl.length - (intOf x).toNat)
    case atStart => exact ⟨0, rfl, by omega, by simp, Below.refl _ _⟩
    case round =>
      obtain ⟨i, rfl, hi, he, hBr⟩ := hrel
      have HE := Lib.hid he; clear he
      by_cases hlt : i < xl.length
      · obtain ⟨b', o', rfl, ay, cy, e0, e1, e2, hy⟩ := (hxr2.below hBr).got i hlt
        have hd : (xl.drop i).any t0.holds = or (t0.holds xl[i]) ((xl.drop (i + 1)).any t0.holds) := by rw [drop_cons hlt]; rfl
        obtain ⟨z, hz⟩ : ∃ z, z = t0.holds xl[i] := ⟨_, rfl⟩
        rw [← hz] at hd
        obtain ⟨w3, hw3, m3, s3, r0, r1, r2, _⟩ := box3 wr (.int .u8 xl[i].kind) (.int .i64 xl[i].num) (.slice ay xl[i].items.length cy) 25
        have hB3 := hBr.trans (m3.mono hBr.size)
        have f0 := cell_stays hB3 g0
        have f1 := cell_stays hB3 g1
        have hok3 := HOK.out _ _ hok2 hB3
        have Q := Lib.hid (regrown (w := w3) fun W' hW' => by have := HC.out W' xl[i] _ (HOK.out _ _ hok3 hW') ((hy.below m3).below hW'); rwa [← hz] at this)
        have Q1 := Q
        have Q2 := Q
        have HD := Lib.hid hd; clear hd hz hy hok3
        have c0 := cell_regrown f0
        have c1 := cell_regrown f1
        have d0 := cell_regrown r0
        have d1 := cell_regrown r1
        have d2 := cell_regrown r2
        go_wp2_with fail
        refine wp_region_quiet_below (by kernel_rfl) (by kernel_rfl) ?_
        repeat (go_big_quiet_step (first | with_reducible exact Q.out _ _ | with_reducible exact Q1.out _ _ | with_reducible exact Q2.out _ _))
        refine wpQuiet_nil ?_
        intro _ hw'
        obtain ⟨⟨dq, osq⟩, hw''⟩ := hw'
        subst hw''
        have hB4 := hB3.trans ((below_regrown w3 dq osq).mono hB3.size)
        have f1 := cell_regrown f1 dq osq
        clear c0 c1 d0 d1 d2 f0 Q Q1 Q2 hBr hB3 e0 e1 e2 r0 r1 r2
        cases z
        case true =>
          go_wp2_with fail
          go_ret
          exact ⟨ret_bool (by rw [HE.out, HD.out]; rfl), hB.trans ((hb2.trans (hB4.mono hb2.size)).mono hB.size)⟩
        case false =>
          go_wp2_with fail
          go_roundw
          case rel => exact ⟨i + 1, by go_num, by omega, by rw [HE.out, HD.out]; rfl, hB4⟩
          case measure => simp [intOf]; omega
      · have g1 := cell_stays hBr g1
        go_wp2_with fail
        go_ret
        exact ⟨ret_bool (by rw [HE.out, drop_nil hlt]; rfl), hB.trans ((hb2.trans (hBr.mono hb2.size)).mono hB.size)⟩
  · rw [PT.holdsN v n (t0 :: l) (.mk xk xn xl) 10 (by omega) hr]
    have hrd : decide (xk = 3 ∨ xk = 4) = false := by simpa using hr
    have HRD := Lib.hid hrd
    clear hc hx hxr hW q hr hok hrd
    go_enter Try.func179, Try.ntmps179
    go_wp2_with fail
    refine (prow_any _ _ _ _ _ _).mono ?_
    rintro e w2 ⟨rfl, hb2⟩
    rw [HRD.out]
    go_wp2_with fail
    go_ret
    exact ⟨rfl, hB.trans (hb2.mono hB.size)⟩
end Go.Proofs.Yteebbffecaeciaa
/- pred.of: the holder that a predicate is turned to. -/
namespace Go.Proofs.Yteebbffecaeciaa
open Go.RowKit

/-- W has all blocks of w as they are there, but for those of S. -/
def Agree (S : Nat → Prop) (w W : World) : Prop := w.heap.size ≤ W.heap.size ∧ ∀ k, k < w.heap.size → ¬ S k → W.heap[k]? = w.heap[k]?
theorem Agree.below {S : Nat → Prop} {w W W' : World} (h : Agree S w W) (hb : Below W.heap.size W W') : Agree S w W' :=
  ⟨Nat.le_trans h.1 hb.size, fun k hk hS => (hb.block k (Nat.lt_of_lt_of_le hk h.1)).trans (h.2 k hk hS)⟩
theorem Agree.cell {S : Nat → Prop} {w W : World} (h : Agree S w W) {b o : Nat} {v : Value} (hb : ¬ S b) (hc : w.cell? ⟨b, o, none⟩ = some v) : W.cell? ⟨b, o, none⟩ = some v := by
  rw [World.cell?_of_block (w := w) (a := ⟨b, o, none⟩) (h.2 b (lt_of_cell hc) hb)]; exact hc
theorem Holder.mono {ok ok' : World → Prop} (h : ∀ W, ok' W → ok W) {t : PT} {v : Value} (H : Holder ok t v) : Holder ok' t v := by
  obtain ⟨T, y, f, e, hn, hm, hf, hc⟩ := H
  exact ⟨T, y, f, e, hn, hm, hf, fun W X x hW hx => hc W X x (h W hW) hx⟩
/-- the blocks of S, and the block of a row. -/
def Plus (S : Nat → Prop) (a : Option Addr) (k : Nat) : Prop := S k ∨ a = some ⟨k, 0, none⟩
theorem agree_step {S : Nat → Prop} {a a' : Option Addr} {wr w5 w6 W : World} (hb : Below wr.heap.size wr w5) (h56 : w5.heap.size ≤ w6.heap.size)
    (hk : ∀ k, k < w5.heap.size → (∀ b', a = some ⟨b', 0, none⟩ → k ≠ b') → w6.heap[k]? = w5.heap[k]? ∧ ∀ b', a' = some ⟨b', 0, none⟩ → k ≠ b') (h : Agree (Plus S a') w6 W) : Agree (Plus S a) wr W := by
  refine ⟨Nat.le_trans hb.size (Nat.le_trans h56 h.1), fun k hlt hn => ?_⟩
  have h5 : k < w5.heap.size := Nat.lt_of_lt_of_le hlt hb.size
  obtain ⟨h1, h2⟩ := hk k h5 (fun b' e hkb => hn (.inr (by rw [e, hkb])))
  rw [h.2 k (Nat.lt_of_lt_of_le h5 h56) (fun hp => hp.elim (fun hs => hn (.inl hs)) (fun e => h2 k e rfl)), h1]
  exact hb.block k hlt

theorem zeroH : (Try.prog.info? 81).map (fun i => (i.zero, i.size, i.bytes)) = some (some .nilIface, 1, 16) := by kernel_rfl
theorem PT.fit_open {k n : Int} {v : VT} {l : List PT} (h : PT.fit (.mk k v n l) = true) : 1 ≤ k ∧ k ≤ 11 ∧ (k = 8 → 0 ≤ n) ∧ PT.least k ≤ l.length ∧ PT.fits l = true := by
  rw [PT.fit] at h
  simp only [Bool.and_eq_true, Bool.or_eq_true, decide_eq_true_eq] at h
  obtain ⟨⟨⟨⟨h1, h2⟩, h3⟩, h4⟩, h5⟩ := h
  exact ⟨h1, h2, fun e => h3.resolve_left (fun h => h e), h4, h5⟩

/-- one more holder in the row. -/
theorem of_step {S : Nat → Prop} {B i cap' cap6 : Nat} {a' a6 : Option Addr} {hs : List Value} {h : Value} {l : List PT} {wr w4 w5 w6 : World} (hg : Grown wr B 81 1 i hs a' cap') (hB5 : Below wr.heap.size wr w5) (h56 : w5.heap.size ≤ w6.heap.size)
    (m5 : Below w4.heap.size w4 w5) (hlt : i < l.length) (hh : Holder (Agree (Plus S a') w4) l[i] h) (hg6 : Grown w6 B 81 1 (i + 1) (hs ++ [h]) a6 cap6)
    (hk6 : ∀ k, k < w5.heap.size → (∀ b', a' = some ⟨b', 0, none⟩ → k ≠ b') → w6.heap[k]? = w5.heap[k]? ∧ ∀ b', a6 = some ⟨b', 0, none⟩ → k ≠ b')
    (hH : ∀ j (h : j < l.length), j < i → ∃ hh, hs[j]? = some hh ∧ Holder (Agree (Plus S a') wr) l[j] hh) :
    (∀ b, a6 = some ⟨b, 0, none⟩ → B ≤ b ∧ b < w6.heap.size) ∧ ∀ j (hj : j < l.length), j < i + 1 → ∃ hh, (hs ++ [h])[j]? = some hh ∧ Holder (Agree (Plus S a6) w6) l[j] hh := by
  have hsz := hg.size
  refine ⟨fun b hb => ?_, fun j hj hji => ?_⟩
  · obtain ⟨b', e, hB, hrow, _⟩ := hg6.cells (by simp)
    rw [hb] at e
    cases e
    exact ⟨hB, hrow.lt⟩
  · by_cases e : j = i
    · subst e
      exact ⟨h, by rw [List.getElem?_append_right (by omega)]; simp [show j - hs.length = 0 by omega], hh.mono fun W hW => agree_step m5 h56 hk6 hW⟩
    · obtain ⟨hh', h1, h2⟩ := hH j hj (by omega)
      exact ⟨hh', by rw [List.getElem?_append_left (by omega)]; exact h1, h2.mono fun W hW => agree_step hB5 h56 hk6 hW⟩
theorem Holder.head {ok : World → Prop} {k n : Int} {v : VT} {l : List PT} {h : Value} (hl : 0 < l.length) (H : ∀ t0 l', l = t0 :: l' → Holder ok (.mk k v n (t0 :: l')) h) : Holder ok (.mk k v n l) h := by
  cases l with
  | nil => simp at hl
  | cons t0 l' => exact H t0 l' rfl
/-- the row of holders, in each world that agrees. -/
theorem of_row {S : Nat → Prop} {B cap' : Nat} {a' : Option Addr} {hs : List Value} {l : List PT} {wr : World} (hg : Grown wr B 81 1 l.length hs a' cap')
    (hH : ∀ j (h : j < l.length), j < l.length → ∃ hh, hs[j]? = some hh ∧ Holder (Agree (Plus S a') wr) l[j] hh) (hp : ∀ W, Agree S wr W → Agree (Plus S a') wr W) (hn : ∀ b, a' = some ⟨b, 0, none⟩ → ¬ S b) :
    ∀ i (h : i < l.length), ∃ b hh, a' = some ⟨b, 0, none⟩ ∧ Holder (Agree S wr) l[i] hh ∧ ∀ W, Agree S wr W → W.cell? ⟨b, i, none⟩ = some hh := fun i h => by
  obtain ⟨hh, h1, h2⟩ := hH i h h
  have hsz := hg.size
  obtain ⟨b, e, _, _, hc⟩ := hg.cells (by omega)
  exact ⟨b, hh, e, h2.mono hp, fun W hW => hW.cell (hn b e) (hc i hh h1)⟩
theorem of_val {S : Nat → Prop} {w00 w w0 wr W : World} {v : VT} {x : Value} (h0 : Below w00.heap.size w00 w) (m0 : Below w.heap.size w w0) (hB : Below w0.heap.size w0 wr) (hS : ∀ k, S k → w00.heap.size ≤ k ∧ k < w.heap.size) (hv : VIn w00 v x) (hW : Agree S wr W) : VIn W v x :=
  hv.mono (fun b o u hc => hW.cell (fun hs => by have := hS b hs; have := lt_of_cell hc; omega) (cell_stays (h0.trans ((m0.trans (hB.mono m0.size)).mono h0.size)) hc)) v x

/-- what 'of' hands back. -/
def OfPost (S : Nat → Prop) (t : PT) (w : World) (e : Ending) (w' : World) : Prop := ∃ h, e = .returned h ∧ Holder (Agree S w') t h ∧ Below w.heap.size w w'

set_option maxRecDepth 100000 in
set_option maxHeartbeats 16000000 in
theorem of_any (w00 : World) (N : Nat) : ∀ (t : PT) (x : Value) (w : World) (S : Nat → Prop), t.cnt ≤ N → t.fit = true → PIn w00 t x → Below w00.heap.size w00 w → (∀ k, S k → w00.heap.size ≤ k ∧ k < w.heap.size) →
    Calls Try.prog 64 #[x] w (OfPost S t w) := by
  induction N with
  | zero => intro t x w S h; have := PT.cnt_pos t; omega
  | succ N ih =>
    intro t x w S hs hfit hx h0 hS
    obtain ⟨k, v, n, l⟩ := t
    obtain ⟨va, vc, a, cap, hlen, hvl, rfl, hv, hr⟩ := hx.open
    have IH := Lib.hid ih; clear ih
    rw [PT.cnt] at hs
    have hcs : ∀ i (h : i < l.length), l[i].cnt ≤ N := fun i h => by have := PT.cnts_get h; omega
    obtain ⟨w0, hw0, m0, s0, q0, q1, q2, q3, q4, q5⟩ := box6 w (.int .u8 k) (.int .u8 v.kind) (.int .i64 v.num) (.slice va v.items.length vc) (.int .i64 n) (.slice a l.length cap) 28
    have h00 : Below w00.heap.size w00 w0 := h0.trans (m0.mono h0.size)
    have HCS := Lib.hid hcs; have HFIT := Lib.hid (PT.fit_open hfit); have HS := Lib.hid hS
    have HV := Lib.hid hv; have HR := Lib.hid hr
    clear hcs hfit hS hs hv hr hx
    go_enter Try.func64, Try.ntmps64
    go_wp2_with fail
    go_loopw [3, 9] (fun x y wr => ∃ (i : Nat) (a' : Option Addr) (cap' : Nat) (hs : List Value), x = .slice a' i cap' ∧ y = .int .i64 i ∧ i ≤ l.length ∧ Grown wr w0.heap.size 81 1 i hs a' cap' ∧
      (∀ b, a' = some ⟨b, 0, none⟩ → w0.heap.size ≤ b ∧ b < wr.heap.size) ∧ (∀ j (h : j < l.length), j < i → ∃ hh, hs[j]? = some hh ∧ Holder (Agree (Plus S a') wr) l[j] hh) ∧ Below w0.heap.size w0 wr) (fun _ y _ => l.length - (intOf y).toNat)
    case atStart => exact ⟨0, none, 0, [], rfl, rfl, by omega, Grown.nil _ _ _ _, fun b h => (by cases h), fun j _ h => (by omega), Below.refl _ _⟩
    case round =>
      obtain ⟨i, a', cap', hs, rfl, rfl, hi, hg, ha, hH, hB⟩ := hrel
      have HG := Lib.hid hg; have HA := Lib.hid ha; have HH := Lib.hid hH
      clear hg ha hH
      have f0 := cell_stays hB q0
      have hBw : Below w00.heap.size w00 wr := h00.trans (hB.mono h00.size)
      by_cases hlt : i < l.length
      · obtain ⟨b, o, rfl, ax, ac, a2, cap2, d0, d1, d2, d3, d4, d5, hx⟩ := HR.out.got i hlt
        have d0 := cell_stays hBw d0
        have d1 := cell_stays hBw d1
        have d2 := cell_stays hBw d2
        have d3 := cell_stays hBw d3
        have d4 := cell_stays hBw d4
        have d5 := cell_stays hBw d5
        obtain ⟨w3, hw3, m3, s3, r0, r1, r2, r3, r4, r5⟩ := box6 wr (.int .u8 l[i].kind) (.int .u8 l[i].val.kind) (.int .i64 l[i].val.num) (.slice ax l[i].val.items.length ac) (.int .i64 l[i].num) (.slice a2 l[i].args.length cap2) 28
        have hB3 : Below w00.heap.size w00 w3 := hBw.trans (m3.mono hBw.size)
        have hS3 : ∀ k, Plus S a' k → w00.heap.size ≤ k ∧ k < w3.heap.size := fun k hk => by
          have e1 := h0.size; have e2 := m0.size; have e3 := hB.size; have e4 := m3.size
          rcases hk with hk | hk
          · have := HS.out k hk; omega
          · have := HA.out k hk; omega
        have HX := Lib.hid hx; have HS3 := Lib.hid hS3
        clear hx hS3
        go_wp2_with fail
        refine (IH.out l[i] _ w3 (Plus S a') (HCS.out i hlt) (PT.fits_get HFIT.out.2.2.2.2 hlt) HX.out hB3 HS3.out).mono ?_
        rintro e w4 ⟨h, rfl, hh, hb4⟩
        obtain ⟨T, y, f, rfl, hh0⟩ := hh
        have hh : Holder (Agree (Plus S a') w4) l[i] (.iface T y) := ⟨T, y, f, rfl, hh0⟩
        clear hh0
        have hB4 : Below wr.heap.size wr w4 := m3.trans (hb4.mono m3.size)
        obtain ⟨w5, hw5, m5, s5⟩ : ∃ w5, w4.alloc (.cells #[.iface T y] 81) = w5 ∧ Below w4.heap.size w4 w5 ∧ w5.cell? ⟨w4.heap.size, 0, none⟩ = some (.iface T y) := ⟨_, rfl, Below.al _, by go_simp⟩
        have hB5 : Below wr.heap.size wr w5 := hB4.trans (m5.mono hB4.size)
        obtain ⟨i0, hi0, hz0, hz1, hz2⟩ := info_parts zeroH
        obtain ⟨a6, cap6, w6, happ, hg6, hb6, hk6⟩ := grown_append (P := Try.prog) (w := w5) (B := w0.heap.size) (T := 81) (k := 1) (Nat.le_trans hB.size hB5.size) (HG.out.below hB5) (t := 98) (tx := 98) (ty := 98)
          Try.underlying98 hi0 hz0 hz1 rfl hz2 (Src.ofSlice w5 Try.underlying98 ⟨w4.heap.size, 0, none⟩ 1 1 [.iface T y] rfl (fun j u hu => by
            cases j with
            | zero => simp only [List.getElem?_cons_zero, Option.some.injEq] at hu; subst hu; exact s5
            | succ j => simp at hu) (fun u hu => by simp only [List.mem_singleton] at hu; subst hu; rfl)) (by omega) (by omega)
        have e5 : w4.heap.size < w5.heap.size := lt_of_cell s5
        have hsz6 : w5.heap.size ≤ w6.heap.size := by have := hb6.size; omega
        have hH2 := of_step HG.out hB5 hsz6 m5 hlt hh hg6 hk6 HH.out
        have HG6 := Lib.hid hg6; have HH2 := Lib.hid hH2
        have hB6 : Below w0.heap.size w0 w6 := hB.trans ((hB5.mono hB.size).trans hb6)
        clear hB4 hb4 hB5 hb6 hk6 hg6 hH2 hh d0 d1 d2 d3 d4 d5 r0 r1 r2 r3 r4 r5 hi0 hz0 hz1 hz2
        have HAP := Lib.hid happ; clear happ
        go_wp2_with (at_builtin; refine wpList_append_run _ rfl _ _ _ rfl _ _ _ _ rfl rfl HAP.out ?_)
        go_roundw
        case rel => exact ⟨i + 1, a6, cap6, _, rfl, by go_num, by omega, HG6.out, HH2.out.1, HH2.out.2, hB6⟩
        case measure => simp [intOf]; omega
      · have hii : i = l.length := by omega
        subst hii
        have n4 : decide ((l.length : Int) < (l.length : Int)) = false := by simp
        have f1 := cell_stays hB q1
        have f2 := cell_stays hB q2
        have f3 := cell_stays hB q3
        have f4 := cell_stays hB q4
        have hBe : Below w.heap.size w wr := m0.trans (hB.mono m0.size)
        have hplus : ∀ W, Agree S wr W → Agree (Plus S a') wr W := fun W h => ⟨h.1, fun k hk hn => h.2 k hk (fun hs => hn (.inl hs))⟩
        have hok : ∀ W W', Agree S wr W → Below W.heap.size W W' → Agree S wr W' := fun _ _ h hb => h.below hb
        have hnS : ∀ b, a' = some ⟨b, 0, none⟩ → ¬ S b := fun b e hs => by
          have h1 := HA.out b e; have h2 := HS.out b hs; have h3 := m0.size; omega
        have HBE := Lib.hid hBe; have HPL := Lib.hid hplus; have HOK := Lib.hid hok; have HNS := Lib.hid hnS
        clear q0 q1 q2 q3 q4 q5 hBe hplus hok hnS hlt
        have hk1 := HFIT.out.1
        have hk2 := HFIT.out.2.1
        have hk : k = 1 ∨ k = 2 ∨ k = 3 ∨ k = 4 ∨ k = 5 ∨ k = 6 ∨ k = 7 ∨ k = 8 ∨ k = 9 ∨ k = 10 ∨ k = 11 := by omega
        rcases hk with rfl | rfl | rfl | rfl | rfl | rfl | rfl | rfl | rfl | rfl | rfl
        · go_wp2_with fail
          go_ret
          exact ⟨_, rfl, always_holds _ true _ (PT.holds1 v n l), HBE.out⟩
        · go_wp2_with fail
          go_ret
          exact ⟨_, rfl, always_holds _ false _ (PT.holds2 v n l), HBE.out⟩
        · go_wp2_with fail
          go_ret
          exact ⟨_, rfl, than3_holds _ HOK.out v n l va vc (fun W hW => of_val h0 m0 hB HS.out HV.out hW), HBE.out⟩
        · go_wp2_with fail
          go_ret
          exact ⟨_, rfl, than4_holds _ HOK.out v n l va vc (fun W hW => of_val h0 m0 hB HS.out HV.out hW), HBE.out⟩
        · have hl0 : 0 < l.length := by have := HFIT.out.2.2.2.1; unfold PT.least at this; simp at this; omega
          have HL0 := Lib.hid hl0
          obtain ⟨b, hh, rfl, hhh, hcell⟩ := of_row HG.out HH.out HPL.out HNS.out 0 hl0
          have f6 := hcell wr ⟨Nat.le_refl _, fun _ _ _ => rfl⟩
          obtain ⟨T, y, f, rfl, hh0⟩ := hhh
          have HHH : Hid (Holder (Agree S wr) l[0] (.iface T y)) := Lib.hid ⟨T, y, f, rfl, hh0⟩
          clear hcell hh0
          go_wp2_with fail
          go_ret
          exact ⟨_, rfl, Holder.head HL0.out fun t0 l' e => not_holds _ HOK.out t0 _ (by subst e; exact HHH.out) v n l', HBE.out⟩
        · go_wp2_with fail
          go_ret
          exact ⟨_, rfl, several6_holds _ HOK.out l a' cap' hlen (of_row HG.out HH.out HPL.out HNS.out) v n, HBE.out⟩
        · go_wp2_with fail
          go_ret
          exact ⟨_, rfl, several7_holds _ HOK.out l a' cap' hlen (of_row HG.out HH.out HPL.out HNS.out) v n, HBE.out⟩
        · have hl0 : 0 < l.length := by have := HFIT.out.2.2.2.1; unfold PT.least at this; simp at this; omega
          have HL0 := Lib.hid hl0
          obtain ⟨b, hh, rfl, hhh, hcell⟩ := of_row HG.out HH.out HPL.out HNS.out 0 hl0
          have f6 := hcell wr ⟨Nat.le_refl _, fun _ _ _ => rfl⟩
          obtain ⟨T, y, f, rfl, hh0⟩ := hhh
          have HHH : Hid (Holder (Agree S wr) l[0] (.iface T y)) := Lib.hid ⟨T, y, f, rfl, hh0⟩
          clear hcell hh0
          obtain ⟨m, rfl⟩ : ∃ m : Nat, n = m := ⟨n.toNat, by have := HFIT.out.2.2.1 rfl; omega⟩
          go_wp2_with fail
          refine region_tail 7 (by kernel_rfl) (by kernel_rfl) ?_
          simp only [List.take_succ_cons, List.take_zero, List.drop_succ_cons, List.drop_zero]
          repeat still_step
          refine wpStill_nil ?_
          go_wp2_with fail
          go_ret
          exact ⟨_, rfl, Holder.head HL0.out fun t0 l' e => at_holds _ (fun _ _ h hb => h.below hb) t0 _ (by subst e; exact HHH.out) v m l', HBE.out.trans (Below.refl _ _).drew⟩
        · have hl0 : 0 < l.length := by have := HFIT.out.2.2.2.1; unfold PT.least at this; simp at this; omega
          have HL0 := Lib.hid hl0
          obtain ⟨b, hh, rfl, hhh, hcell⟩ := of_row HG.out HH.out HPL.out HNS.out 0 hl0
          have f6 := hcell wr ⟨Nat.le_refl _, fun _ _ _ => rfl⟩
          obtain ⟨T, y, f, rfl, hh0⟩ := hhh
          have HHH : Hid (Holder (Agree S wr) l[0] (.iface T y)) := Lib.hid ⟨T, y, f, rfl, hh0⟩
          clear hcell hh0
          go_wp2_with fail
          refine region_tail 8 (by kernel_rfl) (by kernel_rfl) ?_
          simp only [List.take_succ_cons, List.take_zero, List.drop_succ_cons, List.drop_zero]
          repeat still_step
          refine wpStill_nil ?_
          go_wp2_with fail
          go_ret
          exact ⟨_, rfl, Holder.head HL0.out fun t0 l' e => items9_holds _ (fun _ _ h hb => h.below hb) t0 _ (by subst e; exact HHH.out) v n l', HBE.out.trans (Below.refl _ _).drew⟩
        · have hl0 : 0 < l.length := by have := HFIT.out.2.2.2.1; unfold PT.least at this; simp at this; omega
          have HL0 := Lib.hid hl0
          obtain ⟨b, hh, rfl, hhh, hcell⟩ := of_row HG.out HH.out HPL.out HNS.out 0 hl0
          have f6 := hcell wr ⟨Nat.le_refl _, fun _ _ _ => rfl⟩
          obtain ⟨T, y, f, rfl, hh0⟩ := hhh
          have HHH : Hid (Holder (Agree S wr) l[0] (.iface T y)) := Lib.hid ⟨T, y, f, rfl, hh0⟩
          clear hcell hh0
          go_wp2_with fail
          refine region_tail 8 (by kernel_rfl) (by kernel_rfl) ?_
          simp only [List.take_succ_cons, List.take_zero, List.drop_succ_cons, List.drop_zero]
          repeat still_step
          refine wpStill_nil ?_
          go_wp2_with fail
          go_ret
          exact ⟨_, rfl, Holder.head HL0.out fun t0 l' e => items10_holds _ (fun _ _ h hb => h.below hb) t0 _ (by subst e; exact HHH.out) v n l', HBE.out.trans (Below.refl _ _).drew⟩
        · have hl0 : 0 < l.length := by have := HFIT.out.2.2.2.1; unfold PT.least at this; simp at this; omega
          have HL0 := Lib.hid hl0
          obtain ⟨b, hh, rfl, hhh, hcell⟩ := of_row HG.out HH.out HPL.out HNS.out 0 hl0
          have f6 := hcell wr ⟨Nat.le_refl _, fun _ _ _ => rfl⟩
          obtain ⟨T, y, f, rfl, hh0⟩ := hhh
          have HHH : Hid (Holder (Agree S wr) l[0] (.iface T y)) := Lib.hid ⟨T, y, f, rfl, hh0⟩
          clear hcell hh0
          go_wp2_with fail
          go_ret
          exact ⟨_, rfl, Holder.head HL0.out fun t0 l' e => many_holds _ HOK.out t0 _ (by subst e; exact HHH.out) v n l', HBE.out⟩
end Go.Proofs.Yteebbffecaeciaa
/- pred.Holds. -/
namespace Go.Proofs.Yteebbffecaeciaa
open Go.RowKit

theorem PT.fit_of_node {k n : Int} {v : VT} {len : Nat} (h : PT.node k v n len = 0) : 1 ≤ k ∧ k ≤ 11 ∧ (k ≠ 8 ∨ 0 ≤ n) ∧ PT.least k ≤ len := by
  unfold PT.node at h
  split at h
  · omega
  · split at h
    · rename_i h1; exact absurd h h1.2
    · split at h
      · omega
      · split at h
        · rename_i h1; exact absurd h h1
        · rename_i h1
          split at h
          · omega
          · refine ⟨by omega, by omega, ?_, by omega⟩
            by_cases hk : k = 8
            · right
              by_cases hn : 0 ≤ n
              · exact hn
              · exact absurd (by unfold PT.number; rw [if_pos ⟨hk, .inl (by omega)⟩]; decide) h1
            · exact .inl hk
mutual
theorem PT.chk_fit : ∀ (t : PT) (p d : Int), (t.chk p d).2 = 0 → t.fit = true
  | .mk k v n l, p, d, h => by
    rw [PT.chk] at h
    split at h
    · simp at h
    · split at h
      · rename_i h1; exact absurd h h1
      · rename_i h1
        have h2 := PT.fit_of_node (by omega : PT.node k v n l.length = 0)
        rw [PT.fit, PT.chks_fit l _ _ h]
        simp [h2.1, h2.2.1, h2.2.2.1, h2.2.2.2]
theorem PT.chks_fit : ∀ (l : List PT) (p d : Int), (PT.chks l p d).2 = 0 → PT.fits l = true
  | [], _, _, _ => by rw [PT.fits]
  | t :: ts, p, d, h => by
    rw [PT.chks] at h
    split at h
    · rename_i h1; exact absurd h h1
    · rename_i h1
      rw [PT.fits, PT.chk_fit t p (d + 1) (by omega), PT.chks_fit ts _ _ h]
      rfl
end
theorem PT.may_fit {t : PT} (h : t.may = true) : t.fit = true := by
  have h1 : t.check.2 = 0 := by simpa [PT.may] using h
  unfold PT.check at h1
  split at h1
  · rename_i h2; exact absurd h1 h2
  · rename_i h2; exact PT.chk_fit t 0 1 (by omega)

set_option maxRecDepth 100000 in
set_option maxHeartbeats 4000000 in
theorem pholds_any (t : PT) (X : VT) (x y : Value) (w : World) (hs : t.cnt ≤ 1000000) (hf : t.fat ≤ 100000) (hx : PIn w t x) (hy : VIn w X y) :
    Calls Try.prog 23 #[x, y] w fun e w' => e = .returned (.bool (t.hold X)) ∧ Below w.heap.size w w' := by
  have hfit : t.may = true → t.fit = true := PT.may_fit
  have hh : t.hold X = (t.may && t.holds X) := rfl
  rw [hh]
  have hx0 := hx
  obtain ⟨k, v, n, l⟩ := t
  obtain ⟨xk, xn, xl⟩ := X
  obtain ⟨va, vc, a, cap, hlen, hvl, rfl, hv, hr⟩ := hx.open
  obtain ⟨xa, xc, hxl, rfl, hxr⟩ := hy.open
  obtain ⟨w0, hw0, m0, s0, q0, q1, q2, q3, q4, q5⟩ := box6 w (.int .u8 k) (.int .u8 v.kind) (.int .i64 v.num) (.slice va v.items.length vc) (.int .i64 n) (.slice a l.length cap) 28
  obtain ⟨w1, hw1, m1, s1, p0, p1, p2, _⟩ := box3 w0 (.int .u8 xk) (.int .i64 xn) (.slice xa xl.length xc) 25
  have q0 := cell_stays m1 q0
  have q1 := cell_stays m1 q1
  have q2 := cell_stays m1 q2
  have q3 := cell_stays m1 q3
  have q4 := cell_stays m1 q4
  have q5 := cell_stays m1 q5
  have hB0 : Below w.heap.size w w1 := m0.trans (m1.mono m0.size)
  have hx1 := hx0.below hB0
  have hy1 := hy.below hB0
  clear hx hx0 hv hr hy hxr m0 m1 hh
  obtain ⟨b, hb⟩ : ∃ b, b = (PT.mk k v n l).may := ⟨_, rfl⟩
  rw [← hb] at hfit ⊢
  have HS := Lib.hid hs; have HF := Lib.hid hf; have HB := Lib.hid hb; have HFIT := Lib.hid hfit; clear hs hf hb hfit
  have hM : ∀ W, Below w1.heap.size w1 W → Calls Try.prog 63 #[.agg #[.int .u8 k, .int .u8 v.kind, .int .i64 v.num, .slice va v.items.length vc, .int .i64 n, .slice a l.length cap]] W fun e w' => e = .returned (.bool b) ∧ Below W.heap.size W w' := fun W hW => by
    have := pmay_any _ _ W HS.out HF.out (hx1.below hW); rwa [← HB.out] at this
  have HM := Lib.hid hM; clear hM
  cases b
  · have Q := Lib.hid (regrown HM.out)
    have c0 := cell_regrown q0
    have c1 := cell_regrown q1
    have c2 := cell_regrown q2
    have c3 := cell_regrown q3
    have c4 := cell_regrown q4
    have c5 := cell_regrown q5
    go_enter Try.func23, Try.ntmps23
    go_wp2_with fail
    refine wp_region_quiet_below (by kernel_rfl) (by kernel_rfl) ?_
    repeat (go_big_quiet_step (first | with_reducible exact Q.out _ _))
    refine wpQuiet_nil ?_
    intro _ hw'
    obtain ⟨⟨dq, osq⟩, hw''⟩ := hw'
    subst hw''
    go_wp2_with fail
    go_ret
    exact ⟨rfl, hB0.trans ((below_regrown w1 dq osq).mono hB0.size)⟩
  · have HFIT1 := Lib.hid (HFIT.out rfl); clear HFIT
    go_enter Try.func23, Try.ntmps23
    go_wp2_with fail
    go_region_with (first | (go_at_call 63; refine (HM.out _ (Below.refl _ _).drew).mono ?_; rintro e w2 ⟨rfl, hb2'⟩; have hb2 : Below w1.heap.size w1 w2 := (Below.refl _ _).drew.trans hb2'; have g0 := cell_stays hb2 q0; have g1 := cell_stays hb2 q1; have g2 := cell_stays hb2 q2; have g3 := cell_stays hb2 q3; have g4 := cell_stays hb2 q4; have g5 := cell_stays hb2 q5; have h0 := cell_stays hb2 p0; have h1 := cell_stays hb2 p1; have h2 := cell_stays hb2 p2; clear q0 q1 q2 q3 q4 q5 p0 p1 p2) | (go_at_call 64; refine (of_any w1 1000000 _ _ _ (fun _ => False) HS.out HFIT1.out hx1 hb2 (fun _ h => h.elim)).mono ?_; rintro e w3 ⟨h, rfl, ⟨T, y, f, rfl, hn, hm, hf, hc⟩, hb3⟩; have h0 := cell_stays hb3 h0; have h1 := cell_stays hb3 h1; have h2 := cell_stays hb3 h2; have hbw : Below w1.heap.size w1 w3 := hb2.trans (hb3.mono hb2.size); have HC := Lib.hid (hc w3 (.mk xk xn xl) _ ⟨Nat.le_refl _, fun _ _ _ => rfl⟩ (hy1.below hbw)); clear hc hb3) | (refine (HC.out).mono ?_; rintro e w4 ⟨rfl, hb4⟩))
    all_goals
      go_wp2_with fail
      go_ret
      exact ⟨rfl, hB0.trans ((hbw.trans (hb4.mono hbw.size)).mono hB0.size)⟩
end Go.Proofs.Yteebbffecaeciaa
/- PredRows: the plain law, and rows of predicates that append builds. -/
namespace Go.Proofs.Yteebbffecaeciaa
open Go.RowKit

/-- the predicate i of a row, from by on, round about. -/
def turnedAt (l : List PT) (b j : Nat) : PT := l.getD ((j + b) % l.length) (.mk 0 vNone 0 [])
def turned (l : List PT) (b i : Nat) : List PT := (List.range i).map (turnedAt l b)
/-- the cells xs read, in the world w, as the predicates. -/
def PIt (w : World) (l : List PT) (xs : List Value) : Prop := xs.length = l.length * 6 ∧ ∀ i (h : i < l.length), ∃ v0 v1 v2 v3 v4 v5, xs[i * 6]? = some v0 ∧ xs[i * 6 + 1]? = some v1 ∧ xs[i * 6 + 2]? = some v2 ∧
  xs[i * 6 + 3]? = some v3 ∧ xs[i * 6 + 4]? = some v4 ∧ xs[i * 6 + 5]? = some v5 ∧ PIn w l[i] (.agg #[v0, v1, v2, v3, v4, v5])
theorem PIt.nil (w : World) : PIt w [] [] := ⟨rfl, fun i h => by simp at h⟩
theorem PIt.append {w : World} {l m : List PT} {xs ys : List Value} (h : PIt w l xs) (k : PIt w m ys) : PIt w (l ++ m) (xs ++ ys) := by
  have h1 := h.1; have k1 := k.1
  refine ⟨by rw [List.length_append, List.length_append, h1, k1]; omega, fun i hi => ?_⟩
  rw [List.length_append] at hi
  by_cases hlt : i < l.length
  · obtain ⟨v0, v1, v2, v3, v4, v5, e0, e1, e2, e3, e4, e5, hv⟩ := h.2 i hlt
    refine ⟨v0, v1, v2, v3, v4, v5, ?_, ?_, ?_, ?_, ?_, ?_, by rw [List.getElem_append_left hlt]; exact hv⟩
    all_goals rw [List.getElem?_append_left (by omega)]; assumption
  · obtain ⟨v0, v1, v2, v3, v4, v5, e0, e1, e2, e3, e4, e5, hv⟩ := k.2 (i - l.length) (by omega)
    refine ⟨v0, v1, v2, v3, v4, v5, ?_, ?_, ?_, ?_, ?_, ?_, by rw [List.getElem_append_right (by omega)]; exact hv⟩
    · rw [List.getElem?_append_right (by omega), ← e0]; congr 1; omega
    · rw [List.getElem?_append_right (by omega), ← e1]; congr 1; omega
    · rw [List.getElem?_append_right (by omega), ← e2]; congr 1; omega
    · rw [List.getElem?_append_right (by omega), ← e3]; congr 1; omega
    · rw [List.getElem?_append_right (by omega), ← e4]; congr 1; omega
    · rw [List.getElem?_append_right (by omega), ← e5]; congr 1; omega
theorem PIt.one {w : World} {t : PT} {v0 v1 v2 v3 v4 v5 : Value} (h : PIn w t (.agg #[v0, v1, v2, v3, v4, v5])) : PIt w [t] [v0, v1, v2, v3, v4, v5] :=
  ⟨rfl, fun i hi => by
    have : i = 0 := by simpa using hi
    subst this
    exact ⟨v0, v1, v2, v3, v4, v5, rfl, rfl, rfl, rfl, rfl, rfl, h⟩⟩
theorem pand_n {l : List PT} {a : Option Addr} {n cap : Nat} {w : World} (hn : n = l.length) (hl : n ≤ 100000) (hr : PRow w l a) : Calls Try.prog 13 #[.slice a n cap] w (PCopyOf (.mk 6 vNone 0 l) w) := by subst hn; exact pand_any l a cap w (by omega) hr
theorem por_n {l : List PT} {a : Option Addr} {n cap : Nat} {w : World} (hn : n = l.length) (hl : n ≤ 100000) (hr : PRow w l a) : Calls Try.prog 14 #[.slice a n cap] w (PCopyOf (.mk 7 vNone 0 l) w) := by subst hn; exact por_any l a cap w (by omega) hr
end Go.Proofs.Yteebbffecaeciaa
/- What the temporaries of a region over predicates hold. -/
namespace Go.Proofs.Yteebbffecaeciaa
open Go.RowKit

/-- what a temporary holds. -/
inductive PQ where
  | pred (t : PT)
  | val (t : VT)
  | row (l : List PT)
  | fixed (v : Value)
  | box (T n : Nat)
def PQ.ok : PQ → Value → World → Prop
  | .pred t, v, w => PIn w t v
  | .val t, v, w => VIn w t v
  | .row l, v, w => ∃ a n cap, v = .slice a n cap ∧ n = l.length ∧ PRow w l a
  | .fixed u, v, _ => v = u
  | .box T n, v, w => ∃ b, IsBlock v b ∧ b < w.heap.size ∧ RowAt w T b n
theorem PQ.mono {w w' : World} (hb : Below w.heap.size w w') : ∀ (k : PQ) (v : Value), k.ok v w → k.ok v w'
  | .pred _, _, h => PIn.below hb h
  | .val _, _, h => VIn.below hb h
  | .row _, _, ⟨a, n, cap, e, hn, h⟩ => ⟨a, n, cap, e, hn, h.below hb⟩
  | .fixed _, _, h => h
  | .box _ _, _, ⟨b, e, hlt, h⟩ => ⟨b, e, Nat.lt_of_lt_of_le hlt hb.size, h.below hlt hb⟩
section
variable {A : List Nat} {o : Oper} {r : Operand → Value} {w : World} {d : Nat} {ks : List (Nat × PQ)}
end
theorem made_pred {f : FuncId} {args : Array Value} {w : World} {t : PT} (h : Calls Try.prog f args w (PCopyOf t w)) : Calls Try.prog f args w fun e w' => ∃ v, e = .returned v ∧ PIn w' t v ∧ Below w.heap.size w w' :=
  h.mono fun _ _ ⟨x, he, hf, hb⟩ => ⟨x, he, PFIn.pin _ _ hf, hb⟩
theorem made_bool {f : FuncId} {args : Array Value} {w : World} {b c : Bool} (hc : c = b) (h : Calls Try.prog f args w fun e w' => e = .returned (.bool c) ∧ Below w.heap.size w w') : Calls Try.prog f args w fun e w' => ∃ v, e = .returned v ∧ v = .bool b ∧ Below w.heap.size w w' :=
  h.mono fun e w' ⟨he, hb⟩ => ⟨.bool b, by rw [he, hc], rfl, hb⟩
theorem made_int {f : FuncId} {args : Array Value} {w : World} {b c : Int} (hc : c = b) (h : Calls Try.prog f args w fun e w' => e = .returned (.int .i64 c) ∧ Below w.heap.size w w') : Calls Try.prog f args w fun e w' => ∃ v, e = .returned v ∧ v = .int .i64 b ∧ Below w.heap.size w w' :=
  h.mono fun e w' ⟨he, hb⟩ => ⟨.int .i64 b, by rw [he, hc], rfl, hb⟩
theorem fm {α : Type} {p : α → Prop} {a : α} {l : List α} (h : p a) (hl : ∀ x ∈ l, p x) : ∀ x ∈ a :: l, p x := List.forall_mem_cons.2 ⟨h, hl⟩
theorem fmnil {α : Type} {p : α → Prop} : ∀ x ∈ ([] : List α), p x := fun _ h => by cases h
theorem PIn.agg {w : World} {t : PT} {v : Value} (h : PIn w t v) : ∃ k vk vn va vl vc n a len cap, v = .agg #[.int .u8 k, .int .u8 vk, .int .i64 vn, .slice va vl vc, .int .i64 n, .slice a len cap] := by
  obtain ⟨k, x, n, l⟩ := t
  rw [PIn] at h
  obtain ⟨vk, vn, va, vl, vc, a, cap, _, e, _⟩ := h
  exact ⟨k, vk, vn, va, vl, vc, n, a, l.length, cap, e⟩
theorem VIn.agg {w : World} {t : VT} {v : Value} (h : VIn w t v) : ∃ k n a len cap, v = .agg #[.int .u8 k, .int .i64 n, .slice a len cap] := by
  obtain ⟨k, n, l⟩ := t
  obtain ⟨a, cap, _, e, _⟩ := h.open
  exact ⟨k, n, a, l.length, cap, e⟩
/-- a predicate in a box. -/
def BoxP (w : World) (B : Nat) (t : PT) : Prop := ∃ k vk vn va vl vc n a len cap, w.cell? ⟨B, 0, none⟩ = some (.int .u8 k) ∧ w.cell? ⟨B, 1, none⟩ = some (.int .u8 vk) ∧ w.cell? ⟨B, 2, none⟩ = some (.int .i64 vn) ∧ w.cell? ⟨B, 3, none⟩ = some (.slice va vl vc) ∧
  w.cell? ⟨B, 4, none⟩ = some (.int .i64 n) ∧ w.cell? ⟨B, 5, none⟩ = some (.slice a len cap) ∧ PIn w t (.agg #[.int .u8 k, .int .u8 vk, .int .i64 vn, .slice va vl vc, .int .i64 n, .slice a len cap])
theorem BoxP.below {w w' : World} {B : Nat} {t : PT} (h : BoxP w B t) (hb : Below w.heap.size w w') : BoxP w' B t := by
  obtain ⟨k, vk, vn, va, vl, vc, n, a, len, cap, h0, h1, h2, h3, h4, h5, hv⟩ := h
  exact ⟨k, vk, vn, va, vl, vc, n, a, len, cap, cell_stays hb h0, cell_stays hb h1, cell_stays hb h2, cell_stays hb h3, cell_stays hb h4, cell_stays hb h5, hv.below hb⟩
def BoxV (w : World) (B : Nat) (t : VT) : Prop := ∃ k n a len cap, w.cell? ⟨B, 0, none⟩ = some (.int .u8 k) ∧ w.cell? ⟨B, 1, none⟩ = some (.int .i64 n) ∧ w.cell? ⟨B, 2, none⟩ = some (.slice a len cap) ∧ VIn w t (.agg #[.int .u8 k, .int .i64 n, .slice a len cap])
theorem BoxV.below {w w' : World} {B : Nat} {t : VT} (h : BoxV w B t) (hb : Below w.heap.size w w') : BoxV w' B t := by
  obtain ⟨k, n, a, len, cap, h0, h1, h2, hv⟩ := h
  exact ⟨k, n, a, len, cap, cell_stays hb h0, cell_stays hb h1, cell_stays hb h2, hv.below hb⟩
end Go.Proofs.Yteebbffecaeciaa
/- What the temporaries of a region hold that makes boxes for predicates. -/
namespace Go.Proofs.Yteebbffecaeciaa
open Go.RowKit

theorem Agree.frozen {S : Nat → Prop} {w W : World} (h : Agree S w W) {b o : Nat} {v : Value} (hb : ¬ S b) (hc : w.cell? ⟨b, o, none⟩ = some v) (hf : w.frozen? ⟨b, o, none⟩ = false) : W.frozen? ⟨b, o, none⟩ = false := by
  have e := h.2 b (lt_of_cell hc) hb
  rw [← hf]
  unfold World.frozen?
  rw [e]
def PQ.okX : PQ → Value → World → (Nat → Prop) → Prop
  | .pred t, v, w, X => ∀ W, Agree X w W → PIn W t v
  | .val t, v, w, X => ∀ W, Agree X w W → VIn W t v
  | .row l, v, w, X => ∃ a n cap, v = .slice a n cap ∧ n = l.length ∧ ∀ W, Agree X w W → PRow W l a
  | .fixed u, v, _, _ => v = u
  | .box T n, v, w, _ => ∃ b, IsBlock v b ∧ b < w.heap.size ∧ RowAt w T b n
def kindX (ks : List (Nat × PQ)) (d : Nat) (v : Value) (w : World) (X : Nat → Prop) : Prop := ((ks.lookup d).getD (.fixed v)).okX v w X
theorem Agree.less {X X' : Nat → Prop} {w W : World} (h : ∀ k, X' k → X k) (ha : Agree X' w W) : Agree X w W := ⟨ha.1, fun k hk hn => ha.2 k hk (fun hx => hn (h k hx))⟩
theorem PQ.subX {w : World} {X X' : Nat → Prop} (h : ∀ k, X' k → X k) : ∀ (k : PQ) (v : Value), k.okX v w X → k.okX v w X'
  | .pred _, _, hk => fun W ha => hk W (ha.less h)
  | .val _, _, hk => fun W ha => hk W (ha.less h)
  | .row _, _, ⟨a, n, cap, e, hn, hk⟩ => ⟨a, n, cap, e, hn, fun W ha => hk W (ha.less h)⟩
  | .fixed _, _, hk => hk
  | .box _ _, _, hk => hk
theorem Agree.back {X : Nat → Prop} {w w' W : World} (hb : Below w.heap.size w w') (ha : Agree (fun k => X k ∨ w.heap.size ≤ k) w' W) : Agree X w W :=
  ⟨Nat.le_trans hb.size ha.1, fun k hk hn => (ha.2 k (Nat.lt_of_lt_of_le hk hb.size) (fun h => h.elim hn (fun h => by omega))).trans (hb.block k hk)⟩
theorem PQ.growX {w w' : World} {X : Nat → Prop} (hb : Below w.heap.size w w') : ∀ (k : PQ) (v : Value), k.okX v w X → k.okX v w' (fun k => X k ∨ w.heap.size ≤ k)
  | .pred _, _, hk => fun W ha => hk W (ha.back hb)
  | .val _, _, hk => fun W ha => hk W (ha.back hb)
  | .row _, _, ⟨a, n, cap, e, hn, hk⟩ => ⟨a, n, cap, e, hn, fun W ha => hk W (ha.back hb)⟩
  | .fixed _, _, hk => hk
  | .box _ _, _, ⟨b, e, hlt, h⟩ => ⟨b, e, Nat.lt_of_lt_of_le hlt hb.size, h.below hlt hb⟩
theorem kindX_sub (ks : List (Nat × PQ)) (d : Nat) (v : Value) (w : World) (X X' : Nat → Prop) (h : ∀ k, X' k → X k) (hk : kindX ks d v w X) : kindX ks d v w X' := PQ.subX h _ _ hk
theorem kindX_grow (ks : List (Nat × PQ)) (d : Nat) (v : Value) (w w' : World) (X : Nat → Prop) (hk : kindX ks d v w X) (hb : Below w.heap.size w w') : kindX ks d v w' (fun k => X k ∨ w.heap.size ≤ k) := PQ.growX hb _ _ hk
section
variable {A : List Nat} {o : Oper} {r : Operand → Value} {w : World} {d : Nat} {ks : List (Nat × PQ)} {X : Nat → Prop}
theorem notA (hA : decide (d ∉ A) = true) : ∀ k, (X k ∨ (d ∈ A ∧ k = w.heap.size)) → X k := fun _ h => h.elim id (fun h => absurd h.1 (of_decide_eq_true hA))
theorem sb_value {v : Value} (hd : o.dst = some d) (hA : decide (d ∉ A) = true) (h : (execOp r o).run Try.prog w = .ok (.value v) w) (hk : kindX ks d v w X) :
    OpDoes Try.prog o r w fun v w' => (∀ d, o.dst = some d → kindX ks d v w' (fun k => X k ∨ (d ∈ A ∧ k = w.heap.size)) ∧ (d ∈ A → IsBlock v w.heap.size ∧ w.heap.size < w'.heap.size)) ∧ Below w.heap.size w w' :=
  .value h ⟨fun d' e => by rw [hd] at e; cases e; exact ⟨kindX_sub _ _ _ _ _ _ (notA hA) hk, fun h => absurd h (of_decide_eq_true hA)⟩, Below.refl _ _⟩
theorem sb_new {v : Value} {w' : World} (hd : o.dst = some d) (hA : decide (d ∉ A) = true) (h : (execOp r o).run Try.prog w = .ok (.value v) w') (hb : Below w.heap.size w w') (hk : kindX ks d v w' X) :
    OpDoes Try.prog o r w fun v w' => (∀ d, o.dst = some d → kindX ks d v w' (fun k => X k ∨ (d ∈ A ∧ k = w.heap.size)) ∧ (d ∈ A → IsBlock v w.heap.size ∧ w.heap.size < w'.heap.size)) ∧ Below w.heap.size w w' :=
  .value h ⟨fun d' e => by rw [hd] at e; cases e; exact ⟨kindX_sub _ _ _ _ _ _ (notA hA) hk, fun h => absurd h (of_decide_eq_true hA)⟩, hb⟩
theorem sb_call {f : FuncId} {args : Array Value} (hd : o.dst = some d) (hA : decide (d ∉ A) = true) (h : (execOp r o).run Try.prog w = .ok (.enter f args) w) (hc : Calls Try.prog f args w fun e w' => ∃ v, e = .returned v ∧ kindX ks d v w' X ∧ Below w.heap.size w w') :
    OpDoes Try.prog o r w fun v w' => (∀ d, o.dst = some d → kindX ks d v w' (fun k => X k ∨ (d ∈ A ∧ k = w.heap.size)) ∧ (d ∈ A → IsBlock v w.heap.size ∧ w.heap.size < w'.heap.size)) ∧ Below w.heap.size w w' :=
  .enter h (hc.mono fun e w' ⟨v, he, hk, hb⟩ => ⟨v, he, fun d' e => by rw [hd] at e; cases e; exact ⟨kindX_sub _ _ _ _ _ _ (notA hA) hk, fun h => absurd h (of_decide_eq_true hA)⟩, hb⟩)
theorem sb_block {w' : World} (hd : o.dst = some d) (h : (execOp r o).run Try.prog w = .ok (.value (.pointer (some ⟨w.heap.size, 0, none⟩))) w') (hb : Below w.heap.size w w') (hlt : w.heap.size < w'.heap.size) (hk : ∀ X, kindX ks d (.pointer (some ⟨w.heap.size, 0, none⟩)) w' X) :
    OpDoes Try.prog o r w fun v w' => (∀ d, o.dst = some d → kindX ks d v w' (fun k => X k ∨ (d ∈ A ∧ k = w.heap.size)) ∧ (d ∈ A → IsBlock v w.heap.size ∧ w.heap.size < w'.heap.size)) ∧ Below w.heap.size w w' :=
  .value h ⟨fun d' e => by rw [hd] at e; cases e; exact ⟨hk _, fun _ => ⟨rfl, hlt⟩⟩, hb⟩
end
/-- what a maker has made. -/
theorem madeX {f : FuncId} {args : Array Value} {w : World} {t : PT} {X : Nat → Prop} (hX : ∀ k, X k → k < w.heap.size) (h : Calls Try.prog f args w (PCopyOf t w)) : Calls Try.prog f args w fun e w' => ∃ v, e = .returned v ∧ PQ.okX (.pred t) v w' X ∧ Below w.heap.size w w' :=
  h.mono fun e w' ⟨x, he, hf, hb⟩ => ⟨x, he, fun W ha => PFIn.pin _ _ (hf.mono (Nat.le_refl _) (fun b o u hlo hc => ha.cell (fun hx => by have := hX b hx; omega) hc) (fun b o u hlo hc hz => ha.frozen (fun hx => by have := hX b hx; omega) hc hz) t x), hb⟩
/-- before the new block. -/
theorem Agree.al {X : Nat → Prop} {w W : World} {o : Obj} (ha : Agree X (w.alloc o) W) : Agree X w W := ⟨Nat.le_trans (by simp) ha.1, fun k hk hn => (ha.2 k (Nat.lt_of_lt_of_le hk (by simp)) hn).trans ((Below.al o).block k hk)⟩
theorem Agree.refl (X : Nat → Prop) (w : World) : Agree X w w := ⟨Nat.le_refl _, fun _ _ _ => rfl⟩
end Go.Proofs.Yteebbffecaeciaa
