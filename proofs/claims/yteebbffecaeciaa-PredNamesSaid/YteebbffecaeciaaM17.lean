/- Texts of this claim laid into one: VDeepT, TTermA. -/
import Derived.Test.YteebbffecaeciaaM01
import Derived.Test.YteebbffecaeciaaM16
/- val.Deep. -/
namespace Go.Proofs.Yteebbffecaeciaa
open Go.RowKit Go.Shelf
attribute [local go_sem] Oper.semAt_some

set_option maxRecDepth 100000 in
set_option maxHeartbeats 2000000 in
theorem vdeep_any (t : VT) (v : Value) (w : World) (ht : t.size ≤ 100000) (hv : VIn w t v) : Calls Try.prog 128 #[v] w fun e w' => e = .returned (.int .i64 t.deep) ∧ Below w.heap.size w w' := by
  refine (callsIn_wide (n := 9)).1 ?_
  obtain ⟨k, n, its⟩ := t
  obtain ⟨a, cap, hlen, rfl, hr⟩ := hv.open
  have HT := Lib.hid ht; clear ht
  refine callsIn_of_wp_marks Try.func128 rfl trivial ?_ rfl
  simp only [Try.ntmps128, List.size_toArray, List.length_cons, List.length_nil, Nat.reduceAdd, Nat.reduceSub, Array.replicate_succ, Array.replicate_zero, List.push_toArray, List.append_toArray, List.nil_append, List.cons_append]
  gi_wp2_with fail
  refine ⟨trivial, ?_⟩
  refine (all_in Fence.wide _ trivial rfl _ _ _ _).mono ?_
  rintro e w' ⟨rfl, rfl⟩
  gi_wp2_with fail
  obtain ⟨w3, hw3⟩ : ∃ w3, ((w.alloc (.cells #[.int .u8 k, .int .i64 n, .slice a its.length cap] 25)).alloc (.cells #[.int .i64 0] 3)).alloc (.cells #[.int .u8 k, .int .i64 n, .slice a its.length cap] 25) = w3 := ⟨_, rfl⟩
  have hB0 : Below w.heap.size w w3 := by subst hw3; exact (((Below.refl _ w).alloc (Nat.le_refl _) _).alloc (by simp) _).alloc (by simp; omega) _
  have hsz : w3.heap.size = w.heap.size + 3 := by subst hw3; simp
  have hn : w3.cell? ⟨w.heap.size + 1, 0, none⟩ = some (.int .i64 0) ∧ w3.frozen? ⟨w.heap.size + 1, 0, none⟩ = false := by subst hw3; constructor <;> go_simp
  have hc : w3.cell? ⟨w.heap.size + 1 + 1, 0, none⟩ = some (.int .u8 k) ∧ w3.cell? ⟨w.heap.size + 1 + 1, 1, none⟩ = some (.int .i64 n) ∧ w3.cell? ⟨w.heap.size + 1 + 1, 2, none⟩ = some (.slice a its.length cap) := by subst hw3; refine ⟨?_, ?_, ?_⟩ <;> go_simp
  rw [hw3]; clear hw3
  refine wpIn_rangeFunc_ownF rfl (by omega) (gf := 119) (lb := #[.pointer (some ⟨w.heap.size + 1 + 1, 0, none⟩)]) rfl trivial (enters_of Try.func119 (by kernel_rfl) rfl)
    (all_stops (9 - 1) (w.heap.size + 1 + 1) w w3 (.mk k n its) _ _ _ hB0 HT.out hv hc.1 hc.2.1 hc.2.2) KpBut.trans (kpBut_b) (Below.refl _ _) (fun _ => rfl)
    (fun pre W => (W.cell? ⟨w.heap.size + 1, 0, none⟩ = some (.int .i64 (maxd pre)) ∧ W.frozen? ⟨w.heap.size + 1, 0, none⟩ = false) ∧ Below w.heap.size w W)
    (fun _ _ _ => False)
    (OwnFrom.and (Own.from (fun s A B row hs hg hr => ⟨cell_kept hs.1 hg hr, (frozen_kept hs.1 hg hr).trans hs.2⟩) _) (ownFrom_below (by omega) (by omega)))
    (fun _ _ _ _ _ hs _ _ => hs)
    ⟨⟨hn.1, hn.2⟩, hB0⟩
    (fun x => { tmps := #[.agg #[.int .u8 k, .int .i64 n, .slice a its.length cap], .pointer (some ⟨w.heap.size, 0, none⟩), .int .i64 0, .pointer (some ⟨w.heap.size + 1, 0, none⟩), .int .i64 x.d, .agg #[.int .u8 k, .int .i64 n, .slice a its.length cap], .func (.func 119) #[] #[.pointer (some ⟨w.heap.size + 1 + 1, 0, none⟩)], .int .i64 x.d, .agg #[.int .u8 x.k, .int .i64 x.n, .slice x.a x.len x.cap], undef, undef, undef, undef], defers := [] }) ?assign ?body ?done ?stop
  case assign =>
    intro l x W K hK
    dsimp only [Nd.encs]
    gi_wp2
    simpa using hK
  case body =>
    rintro l pre x W ⟨⟨hc, hf⟩, hB⟩ hlen
    gi_wp2
    all_goals
      exact ⟨KeepsOthers.setCell _ _ _, (KpBut.refl _ _ W).setCell (p := ⟨w.heap.size + 1, 0, none⟩) (by simp) (by simp <;> omega) _, ⟨by rw [maxd_snoc]; exact (World.cell?_setCell_same' _ _ _ (by rw [hc]; rfl)).trans (congrArg (fun y => some (Value.int .i64 y)) (by omega)), by rw [World.frozen?_setCell]; exact hf⟩, hB.setCell (p := ⟨w.heap.size + 1, 0, none⟩) (by simp) _⟩
  case done =>
    rintro D ys W hD hys ⟨⟨hc, _⟩, hB⟩ hK
    have hl : maxd ys = (VT.mk k n its).deep := by rw [maxd_eq, hys, VT.flat_max]
    have HL := Lib.hid hl; clear hl hys
    gi_wp2
    refine ⟨by simp, .inl ⟨_, _, rfl, run_takeDeferred hK, ?_⟩⟩
    refine ⟨_, results_tmp rfl _ _ _, ?_, ?_⟩
    · exact ret_int (by rw [HL.out])
    · exact hB.trans (belowK_b (w := w) (Nat.le_refl _) W D _ _ (by omega) hK rfl rfl)
  case stop =>
    rintro D c pre W _ _ h _
    exact h.elim
end Go.Proofs.Yteebbffecaeciaa
/- (*walk).term: goes into a term, so many times: a Const, a Range, an Alias, a Self, a Sized. -/
namespace Go.Proofs.Yteebbffecaeciaa
open Go.RowKit



theorem wrap_mul (a b : Nat) (h : a * b ≤ 1000000000) : IntKind.i64.wrap ((a : Int) * (b : Int)) = ((a * b : Nat) : Int) := by rw [← Int.natCast_mul]; exact IntWalk.i64_in _ ⟨by omega, by omega⟩
theorem spent_val {B n c h : Nat} {w w' : World} (hk : Kp B w w') (hr : RowAt w' 120 B 1) (hc : w'.cell? ⟨B, 0, none⟩ = some (.int .i64 (n + c : Nat))) (hle : n + c ≤ 4096) : Spent B w n c h (.returned (.int .i64 h)) w' := ⟨hk, hr, .inl ⟨hle, rfl, hc⟩⟩
set_option maxRecDepth 100000 in
set_option maxHeartbeats 8000000 in
theorem term_const (wb : World) (B : Nat) (t : TT) (fs : List (TT × Nat)) (hk : t.kind = 1) (hsane : t.sane (!fs.isEmpty) = true) (hln : t.lean = true) : TermDoes wb B t fs := by
  intro w x fp n times hat hx h1 h2 hf
  have hR := TT.right (TT.sane_parts hsane).1
  have hlp := (TT.lean_parts hln).1
  have HF := Lib.hid hf
  clear hf
  obtain ⟨k, v, vs, lo, hi, ws, p, l⟩ := t
  obtain ⟨⟨va, vc, sa, sc, wa, wc, qa, qc, pa, pc, aa, ac⟩, rfl, hok⟩ := hx
  obtain ⟨⟨hal, hsl, hwl⟩, hv, hs, hw, hp, hr⟩ := hok.parts
  simp only [TT.v, TT.vs, TT.ws, TT.p, TT.args] at hal hsl hwl hv hs hw hp hr
  simp only [TT.val, TT.kind, TT.v, TT.vs, TT.lo, TT.hi, TT.ws, TT.p, TT.args]
  obtain ⟨w0, hw0, m0, s0, R0, q0, q1, q2, q3, q4, q5, q6, q7, q8, q9, q10, q11, q12, q13, q14⟩ := box15 w (.int .u8 k) (.int .u8 v.kind) (.int .i64 v.num) (.slice va v.items.length vc) (.slice sa vs.length sc) (.int .i64 lo) (.int .i64 hi) (.slice wa ws.length wc)
    (.int .u8 p.kind) (.int .u8 p.val.kind) (.int .i64 p.val.num) (.slice qa p.val.items.length qc) (.int .i64 p.num) (.slice pa p.args.length pc) (.slice aa l.length ac) 47
  have hat0 := hat.al m0
  have hne : w.heap.size ≠ B := Nat.ne_of_gt hat.row.lt
  clear R0
  simp only [TT.kind] at hk
  subst hk
  have hch := VT.check_zero (hR.const rfl)
  simp only [TT.v] at hch hlp
  have hv0 := (hv.below hat.below).below m0
  have HV := Lib.hid hv
  have HLP := Lib.hid hlp
  have hsz : v.size ≤ 4096 := hch.2.2
  have hmul : times * v.size ≤ 65536 * 4096 := Nat.mul_le_mul h2 hsz
  obtain ⟨sz, hs'⟩ : ∃ sz, sz = v.size := ⟨_, rfl⟩
  have hcc : times * TT.bulk (.mk 1 v vs lo hi ws p l) (frB fs) = times * sz := by rw [TT.bulk1, hs']
  have hhh : TT.high (.mk 1 v vs lo hi ws p l) (frH fs) = v.deep := TT.high1 _ _ _ _ _ _ _ _
  rw [hcc, hhh]
  rw [← hs'] at hmul
  have hwr : IntKind.i64.wrap ((times : Int) * (sz : Int)) = ((times * sz : Nat) : Int) := wrap_mul _ _ (by omega)
  have HS := Lib.hid hs'; have HWR := Lib.hid hwr
  have HAT0 := Lib.hid hat0
  have HK0 := Lib.hid (Kp.grow (Nat.le_of_lt hat.row.lt) m0)
  obtain ⟨c, hc⟩ : ∃ c, c = times * sz := ⟨_, rfl⟩
  rw [← hc] at hmul HWR ⊢
  have HC := Lib.hid hc
  clear hc hcc hhh hs' hwr hv hs hw hp hr hok hln hsane hR hlp hat hat0 hch hsz
  go_enter Try.func104, Try.ntmps104
  go_wp2_with fail
  refine (size_any v _ _ HLP.out.1 hv0).mono ?_
  rintro e w1 ⟨rfl, hb1⟩
  rw [← HS.out]
  have hat1 := HAT0.out.al hb1
  have hk1 := HK0.out.trans (Kp.grow (Nat.le_of_lt HAT0.out.row.lt) hb1)
  have q0 := cell_stays hb1 q0
  have q1 := cell_stays hb1 q1
  have q2 := cell_stays hb1 q2
  have q3 := cell_stays hb1 q3
  have q4 := cell_stays hb1 q4
  have q5 := cell_stays hb1 q5
  have q6 := cell_stays hb1 q6
  have q7 := cell_stays hb1 q7
  have q8 := cell_stays hb1 q8
  have q9 := cell_stays hb1 q9
  have q10 := cell_stays hb1 q10
  have q11 := cell_stays hb1 q11
  have q12 := cell_stays hb1 q12
  have q13 := cell_stays hb1 q13
  have q14 := cell_stays hb1 q14
  have hv1 := hv0.below hb1
  have hwr := HWR.out
  clear hv0 hb1
  by_cases hle : n + c ≤ 4096
  · have HSP := Lib.hid (spend_ok B n c w1 hat1.row hat1.cell hle)
    have hat2 := hat1.spent hle
    have hv2 := HV.out.below hat2.below
    have q1 := (Kp.set w1 0 (.int .i64 (n + c : Nat))).cell hne q1
    have q2 := (Kp.set w1 0 (.int .i64 (n + c : Nat))).cell hne q2
    have q3 := (Kp.set w1 0 (.int .i64 (n + c : Nat))).cell hne q3
    have HK2 := Lib.hid (hk1.trans (Kp.set w1 0 (.int .i64 (n + c : Nat))))
    have HAT2 := Lib.hid hat2
    clear hat1 hat2 hk1 hv1
    generalize hW1 : w1.setCell ⟨B, 0, none⟩ (.int .i64 (n + c : Nat)) = w2 at *
    go_wp2_with fail
    refine HSP.out.mono ?_
    rintro e w2' ⟨rfl, rfl⟩
    clear hwr
    go_wp2_with fail
    refine (vdeep_any v _ _ HLP.out.1 hv2).mono ?_
    rintro e w3 ⟨rfl, hb3⟩
    have HP := Lib.hid (spent_val (h := v.deep) (HK2.out.trans (Kp.grow (Nat.le_of_lt HAT2.out.row.lt) hb3)) (HAT2.out.al hb3).row (HAT2.out.al hb3).cell HAT2.out.le)
    clear hv2 hb3
    go_wp2_with fail
    go_ret
    exact HP.out
  · have HSP := Lib.hid (spend_much B n c w1 hat1.row hat1.cell hat1.le (by omega) (by omega))
    have HP := Lib.hid (Spent.much (h := v.deep) (hk1.trans (Kp.set w1 0 (.int .i64 (n + c : Nat)))) (hat1.row.set _ _ rfl) (show 4096 < n + c by omega))
    clear hat1 hk1 hv1
    generalize hW1 : w1.setCell ⟨B, 0, none⟩ (.int .i64 (n + c : Nat)) = w2 at *
    go_wp2_with fail
    refine HSP.out.mono ?_
    rintro e w2' ⟨rfl, rfl⟩
    clear hwr
    go_wp2_with fail
    exact ⟨rfl, HP.out⟩
set_option maxRecDepth 100000 in
set_option maxHeartbeats 8000000 in
theorem term_range (wb : World) (B : Nat) (t : TT) (fs : List (TT × Nat)) (hk : t.kind = 2) (hsane : t.sane (!fs.isEmpty) = true) (hln : t.lean = true) : TermDoes wb B t fs := by
  intro w x fp n times hat hx h1 h2 hf
  have hR := TT.right (TT.sane_parts hsane).1
  have hlp := (TT.lean_parts hln).1
  have HF := Lib.hid hf
  clear hf
  obtain ⟨k, v, vs, lo, hi, ws, p, l⟩ := t
  obtain ⟨⟨va, vc, sa, sc, wa, wc, qa, qc, pa, pc, aa, ac⟩, rfl, hok⟩ := hx
  obtain ⟨⟨hal, hsl, hwl⟩, hv, hs, hw, hp, hr⟩ := hok.parts
  simp only [TT.v, TT.vs, TT.ws, TT.p, TT.args] at hal hsl hwl hv hs hw hp hr
  simp only [TT.val, TT.kind, TT.v, TT.vs, TT.lo, TT.hi, TT.ws, TT.p, TT.args]
  obtain ⟨w0, hw0, m0, s0, R0, q0, q1, q2, q3, q4, q5, q6, q7, q8, q9, q10, q11, q12, q13, q14⟩ := box15 w (.int .u8 k) (.int .u8 v.kind) (.int .i64 v.num) (.slice va v.items.length vc) (.slice sa vs.length sc) (.int .i64 lo) (.int .i64 hi) (.slice wa ws.length wc)
    (.int .u8 p.kind) (.int .u8 p.val.kind) (.int .i64 p.val.num) (.slice qa p.val.items.length qc) (.int .i64 p.num) (.slice pa p.args.length pc) (.slice aa l.length ac) 47
  have hat0 := hat.al m0
  have hne : w.heap.size ≠ B := Nat.ne_of_gt hat.row.lt
  clear R0
  simp only [TT.kind] at hk
  subst hk
  rw [TT.bulk2, TT.high2, Nat.mul_one]
  clear hv hs hw hp hr hok hln hsane hR hlp
  by_cases hle : n + times ≤ 4096
  · have HSP := Lib.hid (spend_ok B n times w0 hat0.row hat0.cell hle)
    have hat1 := hat0.spent hle
    have HP := Lib.hid (spent_val (h := 1) ((Kp.grow (Nat.le_of_lt hat.row.lt) m0).trans (Kp.set w0 0 (.int .i64 (n + times : Nat)))) hat1.row hat1.cell hle)
    have q0 := (Kp.set w0 0 (.int .i64 (n + times : Nat))).cell hne q0
    clear hat hat0 hat1
    generalize hW1 : w0.setCell ⟨B, 0, none⟩ (.int .i64 (n + times : Nat)) = w1 at *
    go_enter Try.func104, Try.ntmps104
    go_wp2_with fail
    refine HSP.out.mono ?_
    rintro e w2' ⟨rfl, rfl⟩
    go_wp2_with fail
    go_ret
    exact HP.out
  · have HSP := Lib.hid (spend_much B n times w0 hat0.row hat0.cell hat0.le (by omega) (by omega))
    have HP := Lib.hid (Spent.much (h := 1) ((Kp.grow (Nat.le_of_lt hat.row.lt) m0).trans (Kp.set w0 0 (.int .i64 (n + times : Nat)))) (hat0.row.set _ _ rfl) (show 4096 < n + times by omega))
    clear hat hat0
    generalize hW1 : w0.setCell ⟨B, 0, none⟩ (.int .i64 (n + times : Nat)) = w1 at *
    go_enter Try.func104, Try.ntmps104
    go_wp2_with fail
    refine HSP.out.mono ?_
    rintro e w2' ⟨rfl, rfl⟩
    go_wp2_with fail
    exact ⟨rfl, HP.out⟩
set_option maxRecDepth 100000 in
set_option maxHeartbeats 8000000 in
theorem term_sized (wb : World) (B : Nat) (t : TT) (fs : List (TT × Nat)) (hk : t.kind = 10) (hd : ∀ j, j ≤ 8 → SizedDoes wb B t j fs) (hsane : t.sane (!fs.isEmpty) = true) (hln : t.lean = true) : TermDoes wb B t fs := by
  intro w x fp n times hat hx h1 h2 hf
  have hR := TT.right (TT.sane_parts hsane).1
  have hlp := (TT.lean_parts hln).1
  have HF := Lib.hid hf
  clear hf
  obtain ⟨k, v, vs, lo, hi, ws, p, l⟩ := t
  obtain ⟨⟨va, vc, sa, sc, wa, wc, qa, qc, pa, pc, aa, ac⟩, rfl, hok⟩ := hx
  obtain ⟨⟨hal, hsl, hwl⟩, hv, hs, hw, hp, hr⟩ := hok.parts
  simp only [TT.v, TT.vs, TT.ws, TT.p, TT.args] at hal hsl hwl hv hs hw hp hr
  simp only [TT.val, TT.kind, TT.v, TT.vs, TT.lo, TT.hi, TT.ws, TT.p, TT.args]
  obtain ⟨w0, hw0, m0, s0, R0, q0, q1, q2, q3, q4, q5, q6, q7, q8, q9, q10, q11, q12, q13, q14⟩ := box15 w (.int .u8 k) (.int .u8 v.kind) (.int .i64 v.num) (.slice va v.items.length vc) (.slice sa vs.length sc) (.int .i64 lo) (.int .i64 hi) (.slice wa ws.length wc)
    (.int .u8 p.kind) (.int .u8 p.val.kind) (.int .i64 p.val.num) (.slice qa p.val.items.length qc) (.int .i64 p.num) (.slice pa p.args.length pc) (.slice aa l.length ac) 47
  have hat0 := hat.al m0
  have hne : w.heap.size ≠ B := Nat.ne_of_gt hat.row.lt
  clear R0
  simp only [TT.kind] at hk
  subst hk
  have hsz := hR.sized rfl
  simp only [TT.lo, TT.hi] at hsz
  obtain ⟨j, rfl⟩ : ∃ j : Nat, lo = j := ⟨lo.toNat, by omega⟩
  rw [TT.bulkS, TT.highS, Int.toNat_natCast]
  have hx0 : TIn wb (.mk 10 v vs j hi ws p l) ((TT.mk 10 v vs j hi ws p l).val ⟨va, vc, sa, sc, wa, wc, qa, qc, pa, pc, aa, ac⟩) := ⟨_, rfl, hok⟩
  simp only [TT.val, TT.kind, TT.v, TT.vs, TT.lo, TT.hi, TT.ws, TT.p, TT.args] at hx0
  have hcall := hd j (by omega) w0 _ fp n times hat0 hx0 h1 h2 (HF.out.kp (Kp.grow (Nat.le_of_lt hat.row.lt) m0))
  have HC := Lib.hid hcall
  have HK := Lib.hid (Kp.grow (Nat.le_of_lt hat.row.lt) m0)
  clear hv hs hw hp hr hok hln hsane hR hlp hcall hd hx0 hat hat0 HF hsz
  go_enter Try.func104, Try.ntmps104
  go_wp2_with fail
  refine HC.out.mono ?_
  rintro e w1 hsp
  rcases Spent.after (n := n) HK.out rfl hsp with ⟨hk2, hr2, ⟨hle2, rfl, hc2⟩ | ⟨hgt, rfl⟩⟩
  · have HP := Lib.hid (spent_val (h := TT.high10 l j (frH fs)) hk2 hr2 hc2 hle2)
    clear hk2 hr2 hc2 hsp
    go_wp2_with fail
    go_ret
    exact HP.out
  · have HP := Lib.hid (Spent.much (h := TT.high10 l j (frH fs)) hk2 hr2 hgt)
    clear hk2 hr2 hsp
    go_wp2_with fail
    exact ⟨rfl, HP.out⟩
end Go.Proofs.Yteebbffecaeciaa
