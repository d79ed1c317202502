/- Texts of this claim laid into one: TTermB. -/
import Derived.Test.YteebbffecaeciaaM17
/- (*walk).term: a Self. -/
namespace Go.Proofs.Yteebbffecaeciaa
open Go.RowKit


set_option maxRecDepth 100000 in
set_option maxHeartbeats 8000000 in
theorem term_self (wb : World) (B : Nat) (t : TT) (fs : List (TT × Nat)) (hk : t.kind = 11) (hG : Good wb B fs) (hsane : t.sane (!fs.isEmpty) = true) (hln : t.lean = true) : TermDoes wb B t fs := by
  intro w x fp n times hat hx h1 h2 hf
  have hR := TT.right (TT.sane_parts hsane).1
  have hlp := (TT.lean_parts hln).1
  have HF := Lib.hid hf
  clear hf
  obtain ⟨k, v, vs, lo, hi, ws, p, l⟩ := t
  obtain ⟨⟨va, vc, sa, sc, wa, wc, qa, qc, pa, pc, aa, ac⟩, rfl, hok⟩ := hx
  obtain ⟨⟨hal, hsl, hwl⟩, hv, hs, hw, hp, hr⟩ := hok.parts
  simp only [TT.v, TT.vs, TT.ws, TT.p, TT.args] at hal hsl hwl hv hs hw hp hr
  simp only [TT.val, TT.kind, TT.v, TT.vs, TT.lo, TT.hi, TT.ws, TT.p, TT.args]
  obtain ⟨w0, hw0, m0, s0, R0, q0, q1, q2, q3, q4, q5, q6, q7, q8, q9, q10, q11, q12, q13, q14⟩ := box15 w (.int .u8 k) (.int .u8 v.kind) (.int .i64 v.num) (.slice va v.items.length vc) (.slice sa vs.length sc) (.int .i64 lo) (.int .i64 hi) (.slice wa ws.length wc)
    (.int .u8 p.kind) (.int .u8 p.val.kind) (.int .i64 p.val.num) (.slice qa p.val.items.length qc) (.int .i64 p.num) (.slice pa p.args.length pc) (.slice aa l.length ac) 47
  have hat0 := hat.al m0
  have hne : w.heap.size ≠ B := Nat.ne_of_gt hat.row.lt
  clear R0
  simp only [TT.kind] at hk
  subst hk
  have hne0 : fs.isEmpty = false := by have := (TT.sane_parts hsane).2.1 rfl; simpa using this
  rw [TT.bulk11, TT.high11]
  match fs, hne0, hG, HF with
  | (s, j) :: fs', _, hG, HF =>
  obtain ⟨bf, A2, rfl, hbf, hcf, htok, h15, up, h16, hfr⟩ := HF.out
  have hx2 : TIn wb s (s.val A2) := ⟨A2, rfl, htok⟩
  simp only [TT.val] at hx2
  have HCF := Lib.hid (hcf.below m0); have H15 := Lib.hid (cell_stays m0 h15); have H16 := Lib.hid (cell_stays m0 h16)
  have HBV := Lib.hid (fun W (h : Below w0.drew.heap.size w0.drew W) => (Below.refl _ w0).drew.trans h)
  have HFR := Lib.hid hfr; have HX2 := Lib.hid hx2; have HG := Lib.hid hG.1; have HAT := Lib.hid hat0
  have HK := Lib.hid (Kp.grow (Nat.le_of_lt hat.row.lt) m0)
  clear hv hs hw hp hr hok hln hsane hR hlp hat hat0 hx2 hfr h15 h16 hcf htok HF hG
  go_enter Try.func104, Try.ntmps104
  go_wp2_with fail
  refine wp_region_part [] (kindT [(29, .fixed (.pointer (some ⟨B, 0, none⟩))), (30, .fixed (.pointer (some ⟨bf, 0, none⟩))), (31, .fixed (.pointer (some ⟨bf, 0, none⟩))), (32, .fixed (.pointer (some ⟨bf, 0, none⟩))), (33, .fixed (.agg #[.int .u8 s.kind, .int .u8 s.v.kind, .int .i64 s.v.num, .slice A2.va s.v.items.length A2.vc, .slice A2.sa s.vs.length A2.sc, .int .i64 s.lo, .int .i64 s.hi, .slice A2.wa s.ws.length A2.wc, .int .u8 s.p.kind, .int .u8 s.p.val.kind, .int .i64 s.p.val.num, .slice A2.qa s.p.val.items.length A2.qc, .int .i64 s.p.num, .slice A2.pa s.p.args.length A2.pc, .slice A2.aa s.args.length A2.ac])), (34, .fixed (.pointer (some ⟨bf, 0, none⟩))), (35, .fixed (.pointer (some ⟨bf, 0, none⟩))), (36, .fixed (.pointer (some ⟨bf, 15, none⟩))), (37, .fixed (.int .i64 j)), (38, .fixed (.pointer (some ⟨bf, 0, none⟩))), (39, .fixed (.pointer (some ⟨bf, 0, none⟩))), (40, .fixed (.pointer (some ⟨bf, 16, none⟩))), (41, .fixed (.pointer up)), (42, .fixed (.int .i64 times))]) 14 111 (by kernel_rfl) (by kernel_rfl) (by rfl) (by decide) (fun _ h => by cases h) (kindT_mono _) ?_ ?_
  · refine (tfm ?_ (tfm ?_ (tfm ?_ (tfm ?_ (tfm ?_ (tfm ?_ (tfm ?_ (tfm ?_ (tfm ?_ (tfm ?_ (tfm ?_ (tfm ?_ (tfm ?_ (tfm ?_ tfmnil))))))))))))))
    · intro r W hc hf hs hd hB
      have hBV := HBV.out W hB
      refine want_n rfl ?_
      have e0 : r (.tmp 0) = .pointer (some ⟨B, 0, none⟩) := hs 0 (of_decide_eq_true (by kernel_rfl))
      exact st_value (v := .pointer (some ⟨B, 0, none⟩)) rfl (by decide) (by go_simp) rfl
    · intro r W hc hf hs hd hB
      have hBV := HBV.out W hB
      refine want_n rfl ?_
      have e2 : r (.tmp 2) = .pointer (some ⟨bf, 0, none⟩) := hs 2 (of_decide_eq_true (by kernel_rfl))
      exact st_value (v := .pointer (some ⟨bf, 0, none⟩)) rfl (by decide) (by go_simp) rfl
    · intro r W hc hf hs hd hB
      have hBV := HBV.out W hB
      refine want_n rfl ?_
      have e30 : r (.tmp 30) = .pointer (some ⟨bf, 0, none⟩) := hd 30 (by kernel_rfl)
      exact st_value (v := .pointer (some ⟨bf, 0, none⟩)) rfl (by decide) (by go_simp) rfl
    · intro r W hc hf hs hd hB
      have hBV := HBV.out W hB
      refine want_n rfl ?_
      have e31 : r (.tmp 31) = .pointer (some ⟨bf, 0, none⟩) := hd 31 (by kernel_rfl)
      exact st_value (v := .pointer (some ⟨bf, 0, none⟩)) rfl (by decide) (by go_simp) rfl
    · intro r W hc hf hs hd hB
      have hBV := HBV.out W hB
      refine want_n rfl ?_
      have e32 : r (.tmp 32) = .pointer (some ⟨bf, 0, none⟩) := hd 32 (by kernel_rfl)
      obtain ⟨g0, g1, g2, g3, g4, g5, g6, g7, g8, g9, g10, g11, g12, g13, g14⟩ := TCells.below hBV HCF.out
      simp only [Nat.zero_add] at g1 g2 g3 g4 g5 g6 g7 g8 g9 g10 g11 g12 g13 g14
      exact st_value (v := .agg #[.int .u8 s.kind, .int .u8 s.v.kind, .int .i64 s.v.num, .slice A2.va s.v.items.length A2.vc, .slice A2.sa s.vs.length A2.sc, .int .i64 s.lo, .int .i64 s.hi, .slice A2.wa s.ws.length A2.wc, .int .u8 s.p.kind, .int .u8 s.p.val.kind, .int .i64 s.p.val.num, .slice A2.qa s.p.val.items.length A2.qc, .int .i64 s.p.num, .slice A2.pa s.p.args.length A2.pc, .slice A2.aa s.args.length A2.ac]) rfl (by decide) (by go_simp) rfl
    · intro r W hc hf hs hd hB
      have hBV := HBV.out W hB
      refine want_n rfl ?_
      have e2 : r (.tmp 2) = .pointer (some ⟨bf, 0, none⟩) := hs 2 (of_decide_eq_true (by kernel_rfl))
      exact st_value (v := .pointer (some ⟨bf, 0, none⟩)) rfl (by decide) (by go_simp) rfl
    · intro r W hc hf hs hd hB
      have hBV := HBV.out W hB
      refine want_n rfl ?_
      have e34 : r (.tmp 34) = .pointer (some ⟨bf, 0, none⟩) := hd 34 (by kernel_rfl)
      exact st_value (v := .pointer (some ⟨bf, 0, none⟩)) rfl (by decide) (by go_simp) rfl
    · intro r W hc hf hs hd hB
      have hBV := HBV.out W hB
      refine want_n rfl ?_
      have e35 : r (.tmp 35) = .pointer (some ⟨bf, 0, none⟩) := hd 35 (by kernel_rfl)
      exact st_value (v := .pointer (some ⟨bf, 15, none⟩)) rfl (by decide) (by go_simp) rfl
    · intro r W hc hf hs hd hB
      have hBV := HBV.out W hB
      refine want_n rfl ?_
      have e36 : r (.tmp 36) = .pointer (some ⟨bf, 15, none⟩) := hd 36 (by kernel_rfl)
      have g := cell_stays hBV H15.out
      exact st_value (v := .int .i64 j) rfl (by decide) (by go_simp) rfl
    · intro r W hc hf hs hd hB
      have hBV := HBV.out W hB
      refine want_n rfl ?_
      have e2 : r (.tmp 2) = .pointer (some ⟨bf, 0, none⟩) := hs 2 (of_decide_eq_true (by kernel_rfl))
      exact st_value (v := .pointer (some ⟨bf, 0, none⟩)) rfl (by decide) (by go_simp) rfl
    · intro r W hc hf hs hd hB
      have hBV := HBV.out W hB
      refine want_n rfl ?_
      have e38 : r (.tmp 38) = .pointer (some ⟨bf, 0, none⟩) := hd 38 (by kernel_rfl)
      exact st_value (v := .pointer (some ⟨bf, 0, none⟩)) rfl (by decide) (by go_simp) rfl
    · intro r W hc hf hs hd hB
      have hBV := HBV.out W hB
      refine want_n rfl ?_
      have e39 : r (.tmp 39) = .pointer (some ⟨bf, 0, none⟩) := hd 39 (by kernel_rfl)
      exact st_value (v := .pointer (some ⟨bf, 16, none⟩)) rfl (by decide) (by go_simp) rfl
    · intro r W hc hf hs hd hB
      have hBV := HBV.out W hB
      refine want_n rfl ?_
      have e40 : r (.tmp 40) = .pointer (some ⟨bf, 16, none⟩) := hd 40 (by kernel_rfl)
      have g := cell_stays hBV H16.out
      exact st_value (v := .pointer up) rfl (by decide) (by go_simp) rfl
    · intro r W hc hf hs hd hB
      have hBV := HBV.out W hB
      refine want_n rfl ?_
      have e3 : r (.tmp 3) = .int .i64 times := hs 3 (of_decide_eq_true (by kernel_rfl))
      exact st_value (v := .int .i64 times) rfl (by decide) (by go_simp) rfl
  intro f w' fuel hfuel hfd _ hB'
  have z29 : f 29 = .pointer (some ⟨B, 0, none⟩) := hfd 29 (of_decide_eq_true (by kernel_rfl))
  have z33 : f 33 = .agg #[.int .u8 s.kind, .int .u8 s.v.kind, .int .i64 s.v.num, .slice A2.va s.v.items.length A2.vc, .slice A2.sa s.vs.length A2.sc, .int .i64 s.lo, .int .i64 s.hi, .slice A2.wa s.ws.length A2.wc, .int .u8 s.p.kind, .int .u8 s.p.val.kind, .int .i64 s.p.val.num, .slice A2.qa s.p.val.items.length A2.qc, .int .i64 s.p.num, .slice A2.pa s.p.args.length A2.pc, .slice A2.aa s.args.length A2.ac] := hfd 33 (of_decide_eq_true (by kernel_rfl))
  have z37 : f 37 = .int .i64 j := hfd 37 (of_decide_eq_true (by kernel_rfl))
  have z41 : f 41 = .pointer up := hfd 41 (of_decide_eq_true (by kernel_rfl))
  have z42 : f 42 = .int .i64 times := hfd 42 (of_decide_eq_true (by kernel_rfl))
  have hB1 := HBV.out w' hB'
  have hk1 := HK.out.trans (Kp.grow (Nat.le_of_lt HAT.out.row.lt) hB1)
  have hcall := HG.out w' _ up n times (HAT.out.al hB1) HX2.out h1 h2 (HFR.out.kp hk1)
  obtain ⟨fuel, rfl⟩ : ∃ k, fuel = k + 2 := ⟨fuel - 2, by have h2 : 2 ≤ fuel := hfuel; omega⟩
  rw [show dstsTo 14 _ = [29, 30, 31, 32, 33, 34, 35, 36, 37, 38, 39, 40, 41, 42] from by kernel_rfl]
  simp only [fill, List.setIfInBounds_toArray, List.set_cons_succ, List.set_cons_zero, z29, z33, z37, z41, z42]
  clear z29 z33 z37 z41 z42 hfd hfuel
  refine wpAny_next (i := 14) (by kernel_rfl) (by rfl) rfl (wp_enter (w' := w') (by go_simp) hcall (fun u w2 hsp => ?_) (fun u w2 hsp => ?_) (fun w2 hsp => ?_))
  · rcases Spent.after (n := n) hk1 rfl hsp with ⟨hk2, hr2, ⟨hle2, he, hc2⟩ | ⟨_, he⟩⟩
    · cases he
      have HP : Hid (Spent B w n (times * frB ((s, j) :: fs')) (frH ((s, j) :: fs')) (.returned (.int .i64 (TT.high10 s.args j (frH fs')))) w2) := Lib.hid ⟨hk2, hr2, .inl ⟨hle2, by rw [frH], hc2⟩⟩
      refine wpAny_next (i := 15) (by kernel_rfl) (by rfl) rfl (wp_val (v := .int .i64 (TT.high10 s.args j (frH fs'))) (w' := w2) (by go_simp) ?_)
      refine wpAny_done (by kernel_rfl) ?_ _
      clear hk2 hr2 hc2 hsp hk1
      go_wp2_with fail
      go_ret
      exact HP.out
    · cases he
  · rcases Spent.after (n := n) hk1 rfl hsp with ⟨hk2, hr2, ⟨_, he, _⟩ | ⟨hgt, he⟩⟩
    · cases he
    · cases he
      have HP : Hid (Spent B w n (times * frB ((s, j) :: fs')) (frH ((s, j) :: fs')) (.panicked [{ v := tooMuchV, recovered := false }]) w2) := Lib.hid (Spent.much hk2 hr2 hgt)
      clear hk2 hr2 hsp hk1
      go_wp2_with fail
      exact ⟨rfl, HP.out⟩
  · rcases hsp with ⟨_, _, ⟨_, he, _⟩ | ⟨_, he⟩⟩ <;> cases he
end Go.Proofs.Yteebbffecaeciaa
