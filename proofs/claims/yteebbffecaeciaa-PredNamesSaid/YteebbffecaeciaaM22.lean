/- Texts of this claim laid into one: TCheck. -/
import Derived.Test.YteebbffecaeciaaM11
/- term.check. -/
namespace Go.Proofs.Yteebbffecaeciaa
open Go.RowKit


/-- what the loop over the arguments has come to. -/
def ChkRel (m k : Int) (l : List TT) (p d : Int) (b : Bool) (q : Int) (i : Nat) : Prop := TT.chks m k 0 l p d b = TT.chks m k i (l.drop i) q d b
theorem ChkRel.next {m k : Int} {l : List TT} {p d : Int} {b c : Bool} {q : Int} {i : Nat} (h : ChkRel m k l p d b q i) (hlt : i < l.length) (hc : (b || (k == 10 && i == 1)) = c) (h0 : (l[i].chk m q (d + 1) c).2 = 0) : ChkRel m k l p d b (l[i].chk m q (d + 1) c).1 (i + 1) := by
  unfold ChkRel at h ⊢; rw [h, TT.chks_drop hlt, hc, if_neg (by simpa using h0)]
theorem ChkRel.found {m k : Int} {l : List TT} {p d : Int} {b c : Bool} {q : Int} {i : Nat} (h : ChkRel m k l p d b q i) (hlt : i < l.length) (hc : (b || (k == 10 && i == 1)) = c) (h0 : (l[i].chk m q (d + 1) c).2 ≠ 0) : TT.chks m k 0 l p d b = l[i].chk m q (d + 1) c := by
  unfold ChkRel at h; rw [h, TT.chks_drop hlt, hc, if_pos h0]
theorem ChkRel.done {m k : Int} {l : List TT} {p d : Int} {b : Bool} {q : Int} {i : Nat} (h : ChkRel m k l p d b q i) (hlt : ¬ i < l.length) : TT.chks m k 0 l p d b = (q, 0) := by
  unfold ChkRel at h; rw [h, drop_nil hlt, TT.chks]
theorem ChkRel.both {m k : Int} {l : List TT} {p d : Int} {b : Bool} {q : Int} {i : Nat} (h : ChkRel m k l p d b q i) (hlt : i < l.length) : ∃ bb c, (b || (k == 10 && i == 1)) = bb ∧ l[i].chk m q (d + 1) bb = c ∧ (q ≤ c.1 ∧ c.1 ≤ q + l[i].cnt) ∧ (c.2 = 0 → ChkRel m k l p d b c.1 (i + 1)) ∧ (c.2 ≠ 0 → TT.chks m k 0 l p d b = c) :=
  ⟨_, _, rfl, rfl, TT.chk_le m _ _ _ _, fun h0 => h.next hlt rfl h0, fun h0 => h.found hlt rfl h0⟩
theorem step_cases (k : Int) (i : Nat) : ((k == 10) = false ∧ True ∧ (i == 1) = (i == 1)) ∨ ((k == 10) = true ∧ ((i : Int) == 1) = false ∧ (i == 1) = false) ∨ ((k == 10) = true ∧ ((i : Int) == 1) = true ∧ (i == 1) = true) := by
  by_cases h : k = 10
  · by_cases hi : i = 1
    · subst hi; right; right; simp [h]
    · right; left; simp [h, hi]; omega
  · left; simp [h]
set_option maxRecDepth 100000 in
set_option maxHeartbeats 8000000 in
theorem tchk_in (N : Nat) (hN : N ≤ 3000000) (m : Int) : ∀ (t : TT) (x : Value) (p d : Int) (w : World), t.cnt ≤ N → t.lean = true → 0 ≤ p → p ≤ 1000000000 - t.cnt → 0 ≤ d → d ≤ 1000000000 - t.cnt → TIn w t x →
    Calls Try.prog 89 #[x, .int .i64 p, .int .i64 d, .int .i64 m, .bool true] w fun e w' => e = .returned (.tuple #[.int .i64 (t.chk m p d true).1, .int .i64 (t.chk m p d true).2]) ∧ Below w.heap.size w w' := by
  induction N with
  | zero => intro t x p d w h; have := TT.cnt_pos t; omega
  | succ N ih =>
    intro t x pl d w hs hln hpl0 hpl1 hd0 hd1 hx
    have IH := Lib.hid (ih (by omega)); clear ih
    have hx0 := hx
    have hls := (TT.lean_parts hln).2
    obtain ⟨k, v, vs, lo, hi, ws, p, l⟩ := t
    obtain ⟨⟨va, vc, sa, sc, wa, wc, qa, qc, pa, pc, aa, ac⟩, rfl, hok⟩ := hx
    obtain ⟨⟨hal, hsl, hwl⟩, hv, hs, hw, hp, hr⟩ := hok.parts
    simp only [TT.v, TT.vs, TT.ws, TT.p, TT.args] at hal hsl hwl hv hs hw hp hr
    simp only [TT.val, TT.kind, TT.v, TT.vs, TT.lo, TT.hi, TT.ws, TT.p, TT.args]
    obtain ⟨w0, hw0, m0, s0, R0, q0, q1, q2, q3, q4, q5, q6, q7, q8, q9, q10, q11, q12, q13, q14⟩ := box15 w (.int .u8 k) (.int .u8 v.kind) (.int .i64 v.num) (.slice va v.items.length vc) (.slice sa vs.length sc) (.int .i64 lo) (.int .i64 hi) (.slice wa ws.length wc)
      (.int .u8 p.kind) (.int .u8 p.val.kind) (.int .i64 p.val.num) (.slice qa p.val.items.length qc) (.int .i64 p.num) (.slice pa p.args.length pc) (.slice aa l.length ac) 47
    have hv0 := hv.below m0
    have hs0 := hs.below m0
    have hw0' := hw.below m0
    have hp0 := hp.below m0
    have hr0 := hr.below m0
    have hB0 := Below.refl w0.heap.size w0
    clear hok hv hs hw hp hr R0
    have hx1 := hx0.below m0
    simp only [TT.val, TT.kind, TT.v, TT.vs, TT.lo, TT.hi, TT.ws, TT.p, TT.args] at hx1 hls
    have hcall := tnode_any (.mk k v vs lo hi ws p l) _ w0 hln hx1
    rw [TT.cnt] at hs hpl1 hd1
    have hlc := TT.length_le_cnts l
    have HLS := Lib.hid hls
    clear hx0 hln hls hv0 hs0 hw0' hp0 hx1
    obtain ⟨z, hz⟩ : ∃ z, z = TT.node (.mk k v vs lo hi ws p l) := ⟨_, rfl⟩
    rw [← hz] at hcall
    have HZ := Lib.hid hz
    have HCALL := Lib.hid hcall
    clear hz hcall
    by_cases hd : m < d
    · have hc : (TT.mk k v vs lo hi ws p l).chk m pl d true = (pl, 9) := by rw [TT.chk, if_pos hd]
      rw [hc]
      clear hc
      go_enter Try.func89, Try.ntmps89
      go_wp2_with fail
      refine bodyPost_ret (v := .tuple #[.int .i64 pl, .int .i64 9]) (by simp [results, Try.results89, go_sem]) rfl ⟨rfl, m0⟩
    · have HD := Lib.hid hd
      go_enter Try.func89, Try.ntmps89
      go_wp2_with fail
      refine HCALL.out.mono ?_
      rintro e w1 ⟨rfl, hb1⟩
      have q0 := cell_stays hb1 q0
      have q1 := cell_stays hb1 q1
      have q2 := cell_stays hb1 q2
      have q3 := cell_stays hb1 q3
      have q4 := cell_stays hb1 q4
      have q5 := cell_stays hb1 q5
      have q6 := cell_stays hb1 q6
      have q7 := cell_stays hb1 q7
      have q8 := cell_stays hb1 q8
      have q9 := cell_stays hb1 q9
      have q10 := cell_stays hb1 q10
      have q11 := cell_stays hb1 q11
      have q12 := cell_stays hb1 q12
      have q13 := cell_stays hb1 q13
      have q14 := cell_stays hb1 q14
      have hr1 := hr0.below hb1
      have hBe := m0.trans (hb1.mono m0.size)
      clear hd hr0
      by_cases hz0 : z = 0
      · subst hz0
        by_cases h11 : k = 11
        · subst h11
          have hl0 : l = [] := List.length_eq_zero_iff.1 ((TT.right HZ.out.symm).len0 (.inr (.inr (.inr rfl))))
          subst hl0
          have hc : (TT.mk 11 v vs lo hi ws p []).chk m pl d true = (pl + 1, 0) := by rw [TT.chk, if_neg (by have := HD.out; omega), if_neg (by rw [← HZ.out]; simp), if_neg (by simp), TT.chks]
          have HC := Lib.hid hc; clear hc
          simp only [List.length_nil] at q14
          go_wp2_with fail
          go_loopw [1, 12, 42] (fun x y z wr => x = .int .i64 (pl + 1) ∧ y = .int .i64 0 ∧ z = .int .i64 0 ∧ Below w1.heap.size w1 wr) (fun _ _ _ _ => 0)
          case atStart => exact ⟨rfl, rfl, rfl, Below.refl _ _⟩
          case round =>
            obtain ⟨rfl, rfl, rfl, hB⟩ := hrel
            go_wp2_with fail
            refine bodyPost_ret (v := .tuple #[.int .i64 (pl + 1), .int .i64 0]) (by simp [results, Try.results89, go_sem]) rfl ⟨by rw [HC.out], hBe.trans (hB.mono hBe.size)⟩
        · have hc : (TT.mk k v vs lo hi ws p l).chk m pl d true = TT.chks m k 0 l (pl + 1) d true := by rw [TT.chk, if_neg (by have := HD.out; omega), if_neg (by rw [← HZ.out]; simp), if_neg (by simp [h11])]
          have HC := Lib.hid hc; clear hc
          have hkb : (k == 11) = false := by simpa using h11
          clear h11
          go_wp2_with fail
          go_loopw [1, 12, 42] (fun x y z wr => ∃ (q : Int) (i : Nat), x = .int .i64 q ∧ y = .int .i64 0 ∧ z = .int .i64 i ∧ i ≤ l.length ∧ 0 ≤ q ∧ q ≤ 1000000000 - TT.cnts (l.drop i) ∧ ChkRel m k l (pl + 1) d _ q i ∧ Below w1.heap.size w1 wr) (fun _ _ z _ => l.length - (intOf z).toNat)
          case atStart => exact ⟨pl + 1, 0, by go_num, rfl, rfl, by omega, by omega, by simp; omega, rfl, Below.refl _ _⟩
          case round =>
            obtain ⟨q, i, rfl, rfl, rfl, hi, hq0, hq1, hc, hB⟩ := hrel
            have HQ := Lib.hid hc; clear hc
            have q0 := cell_stays hB q0
            have q1 := cell_stays hB q1
            have q2 := cell_stays hB q2
            have q3 := cell_stays hB q3
            have q4 := cell_stays hB q4
            have q5 := cell_stays hB q5
            have q6 := cell_stays hB q6
            have q7 := cell_stays hB q7
            have q8 := cell_stays hB q8
            have q9 := cell_stays hB q9
            have q10 := cell_stays hB q10
            have q11 := cell_stays hB q11
            have q12 := cell_stays hB q12
            have q13 := cell_stays hB q13
            have q14 := cell_stays hB q14
            by_cases hlt : i < l.length
            · obtain ⟨b, o, rfl, A, hcells, hiok⟩ := (hr1.below hB).get i hlt
              have hx : TIn wr l[i] (l[i].val A) := ⟨A, rfl, hiok⟩
              obtain ⟨d0, d1, d2, d3, d4, d5, d6, d7, d8, d9, d10, d11, d12, d13, d14⟩ := hcells
              clear hiok
              simp only [TT.val] at hx
              obtain ⟨w3, hw3, m3, s3, R3, r0, r1, r2, r3, r4, r5, r6, r7, r8, r9, r10, r11, r12, r13, r14⟩ := box15 wr (.int .u8 l[i].kind) (.int .u8 l[i].v.kind) (.int .i64 l[i].v.num) (.slice A.va l[i].v.items.length A.vc) (.slice A.sa l[i].vs.length A.sc) (.int .i64 l[i].lo) (.int .i64 l[i].hi) (.slice A.wa l[i].ws.length A.wc)
                (.int .u8 l[i].p.kind) (.int .u8 l[i].p.val.kind) (.int .i64 l[i].p.val.num) (.slice A.qa l[i].p.val.items.length A.qc) (.int .i64 l[i].p.num) (.slice A.pa l[i].p.args.length A.pc) (.slice A.aa l[i].args.length A.ac) 47
              have e0 := cell_stays m3 q0
              have hxs := TT.cnts_get hlt
              have hcd := TT.cnts_drop hlt
              have HXF := Lib.hid (TT.leans_get HLS.out hlt)
              have HCD := Lib.hid hcd
              have HXS := Lib.hid hxs
              have hxc : l[i].cnt ≤ N := by omega
              clear hcd hxs
              obtain ⟨bb, ⟨r, y⟩, hbb, hcc, hle, hnext, hfound⟩ := HQ.out.both hlt
              have HBB := Lib.hid hbb; have HCC := Lib.hid hcc; have HNEXT := Lib.hid hnext; have HFOUND := Lib.hid hfound
              simp only at hle
              clear hbb hcc hnext hfound
              rcases step_cases k i with ⟨h10, hi1, hi1'⟩ | ⟨h10, hi1, hi1'⟩ | ⟨h10, hi1, hi1'⟩
              all_goals
                have hbb := HBB.out
                simp only [h10, hi1', Bool.false_and, Bool.and_false, Bool.and_true, Bool.or_false, Bool.or_true] at hbb
                subst hbb
                go_wp2_with fail
                (with_reducible refine (IH.out l[i] _ q (d + 1) _ hxc HXF.out hq0 (by have := HCD.out; omega) (by omega) (by have := HXS.out; omega) (hx.below m3)).mono ?_)
                rintro e w2 ⟨rfl, hb2⟩
                have hB2 := hB.trans ((m3.trans (hb2.mono m3.size)).mono hB.size)
                rw [HCC.out]
                have hr1' : r ≤ 1000000000 - TT.cnts (l.drop (i + 1)) := by have := HCD.out; omega
                have hr0' : 0 ≤ r := by omega
                clear q0 q1 q2 q3 q4 q5 q6 q7 q8 q9 q10 q11 q12 q13 q14
                clear d0 d1 d2 d3 d4 d5 d6 d7 d8 d9 d10 d11 d12 d13 d14
                clear r0 r1 r2 r3 r4 r5 r6 r7 r8 r9 r10 r11 r12 r13 r14
                clear hle hx hb2 hB m3 e0
                by_cases hy0 : y = 0
                · have HN := Lib.hid (HNEXT.out hy0)
                  subst hy0
                  go_wp2_with fail
                  go_roundw
                  case rel => exact ⟨r, i + 1, rfl, rfl, by go_num, by omega, hr0', hr1', HN.out, hB2⟩
                  case measure => simp [intOf]; omega
                · have HN := Lib.hid (HFOUND.out hy0)
                  have hyb : (y != 0) = true := by simpa using hy0
                  clear hy0
                  go_wp2_with fail
                  refine bodyPost_ret (v := .tuple #[.int .i64 r, .int .i64 y]) (by simp [results, Try.results89, go_sem]) rfl ⟨by rw [HC.out, HN.out], hBe.trans (hB2.mono hBe.size)⟩
            · have HN := Lib.hid (HQ.out.done hlt)
              go_wp2_with fail
              refine bodyPost_ret (v := .tuple #[.int .i64 q, .int .i64 0]) (by simp [results, Try.results89, go_sem]) rfl ⟨by rw [HC.out, HN.out], hBe.trans (hB.mono hBe.size)⟩
      · have hc : (TT.mk k v vs lo hi ws p l).chk m pl d true = (pl, z) := by rw [TT.chk, if_neg (by have := HD.out; omega), if_pos (by rw [← HZ.out]; exact hz0), HZ.out]
        have HC := Lib.hid hc; clear hc
        have hzb : (z != 0) = true := by simpa using hz0
        have hzb2 : (z == 0) = false := by simpa using hz0
        clear hz0
        go_wp2_with fail
        refine bodyPost_ret (v := .tuple #[.int .i64 pl, .int .i64 z]) (by simp [results, Try.results89, go_sem]) rfl ⟨by rw [HC.out], hBe⟩
set_option maxRecDepth 100000 in
set_option maxHeartbeats 8000000 in
theorem tchk_out (N : Nat) (hN : N ≤ 3000000) (m : Int) : ∀ (t : TT) (x : Value) (p d : Int) (w : World), t.cnt ≤ N → t.lean = true → 0 ≤ p → p ≤ 1000000000 - t.cnt → 0 ≤ d → d ≤ 1000000000 - t.cnt → TIn w t x →
    Calls Try.prog 89 #[x, .int .i64 p, .int .i64 d, .int .i64 m, .bool false] w fun e w' => e = .returned (.tuple #[.int .i64 (t.chk m p d false).1, .int .i64 (t.chk m p d false).2]) ∧ Below w.heap.size w w' := by
  induction N with
  | zero => intro t x p d w h; have := TT.cnt_pos t; omega
  | succ N ih =>
    intro t x pl d w hs hln hpl0 hpl1 hd0 hd1 hx
    have IH := Lib.hid (ih (by omega)); clear ih
    have hx0 := hx
    have hls := (TT.lean_parts hln).2
    obtain ⟨k, v, vs, lo, hi, ws, p, l⟩ := t
    obtain ⟨⟨va, vc, sa, sc, wa, wc, qa, qc, pa, pc, aa, ac⟩, rfl, hok⟩ := hx
    obtain ⟨⟨hal, hsl, hwl⟩, hv, hs, hw, hp, hr⟩ := hok.parts
    simp only [TT.v, TT.vs, TT.ws, TT.p, TT.args] at hal hsl hwl hv hs hw hp hr
    simp only [TT.val, TT.kind, TT.v, TT.vs, TT.lo, TT.hi, TT.ws, TT.p, TT.args]
    obtain ⟨w0, hw0, m0, s0, R0, q0, q1, q2, q3, q4, q5, q6, q7, q8, q9, q10, q11, q12, q13, q14⟩ := box15 w (.int .u8 k) (.int .u8 v.kind) (.int .i64 v.num) (.slice va v.items.length vc) (.slice sa vs.length sc) (.int .i64 lo) (.int .i64 hi) (.slice wa ws.length wc)
      (.int .u8 p.kind) (.int .u8 p.val.kind) (.int .i64 p.val.num) (.slice qa p.val.items.length qc) (.int .i64 p.num) (.slice pa p.args.length pc) (.slice aa l.length ac) 47
    have hv0 := hv.below m0
    have hs0 := hs.below m0
    have hw0' := hw.below m0
    have hp0 := hp.below m0
    have hr0 := hr.below m0
    have hB0 := Below.refl w0.heap.size w0
    clear hok hv hs hw hp hr R0
    have hx1 := hx0.below m0
    simp only [TT.val, TT.kind, TT.v, TT.vs, TT.lo, TT.hi, TT.ws, TT.p, TT.args] at hx1 hls
    have hcall := tnode_any (.mk k v vs lo hi ws p l) _ w0 hln hx1
    rw [TT.cnt] at hs hpl1 hd1
    have hlc := TT.length_le_cnts l
    have HLS := Lib.hid hls
    clear hx0 hln hls hv0 hs0 hw0' hp0 hx1
    obtain ⟨z, hz⟩ : ∃ z, z = TT.node (.mk k v vs lo hi ws p l) := ⟨_, rfl⟩
    rw [← hz] at hcall
    have HZ := Lib.hid hz
    have HCALL := Lib.hid hcall
    clear hz hcall
    by_cases hd : m < d
    · have hc : (TT.mk k v vs lo hi ws p l).chk m pl d false = (pl, 9) := by rw [TT.chk, if_pos hd]
      rw [hc]
      clear hc
      go_enter Try.func89, Try.ntmps89
      go_wp2_with fail
      refine bodyPost_ret (v := .tuple #[.int .i64 pl, .int .i64 9]) (by simp [results, Try.results89, go_sem]) rfl ⟨rfl, m0⟩
    · have HD := Lib.hid hd
      go_enter Try.func89, Try.ntmps89
      go_wp2_with fail
      refine HCALL.out.mono ?_
      rintro e w1 ⟨rfl, hb1⟩
      have q0 := cell_stays hb1 q0
      have q1 := cell_stays hb1 q1
      have q2 := cell_stays hb1 q2
      have q3 := cell_stays hb1 q3
      have q4 := cell_stays hb1 q4
      have q5 := cell_stays hb1 q5
      have q6 := cell_stays hb1 q6
      have q7 := cell_stays hb1 q7
      have q8 := cell_stays hb1 q8
      have q9 := cell_stays hb1 q9
      have q10 := cell_stays hb1 q10
      have q11 := cell_stays hb1 q11
      have q12 := cell_stays hb1 q12
      have q13 := cell_stays hb1 q13
      have q14 := cell_stays hb1 q14
      have hr1 := hr0.below hb1
      have hBe := m0.trans (hb1.mono m0.size)
      clear hd hr0
      by_cases hz0 : z = 0
      · subst hz0
        by_cases h11 : k = 11
        · subst h11
          have hc : (TT.mk 11 v vs lo hi ws p l).chk m pl d false = (pl, 10) := by rw [TT.chk, if_neg (by have := HD.out; omega), if_neg (by rw [← HZ.out]; simp), if_pos ⟨rfl, rfl⟩]
          have HC := Lib.hid hc; clear hc
          go_wp2_with fail
          refine bodyPost_ret (v := .tuple #[.int .i64 pl, .int .i64 10]) (by simp [results, Try.results89, go_sem]) rfl ⟨by rw [HC.out], hBe⟩
        · have hc : (TT.mk k v vs lo hi ws p l).chk m pl d false = TT.chks m k 0 l (pl + 1) d false := by rw [TT.chk, if_neg (by have := HD.out; omega), if_neg (by rw [← HZ.out]; simp), if_neg (by simp [h11])]
          have HC := Lib.hid hc; clear hc
          have hkb : (k == 11) = false := by simpa using h11
          clear h11
          go_wp2_with fail
          go_loopw [1, 12, 42] (fun x y z wr => ∃ (q : Int) (i : Nat), x = .int .i64 q ∧ y = .int .i64 0 ∧ z = .int .i64 i ∧ i ≤ l.length ∧ 0 ≤ q ∧ q ≤ 1000000000 - TT.cnts (l.drop i) ∧ ChkRel m k l (pl + 1) d _ q i ∧ Below w1.heap.size w1 wr) (fun _ _ z _ => l.length - (intOf z).toNat)
          case atStart => exact ⟨pl + 1, 0, by go_num, rfl, rfl, by omega, by omega, by simp; omega, rfl, Below.refl _ _⟩
          case round =>
            obtain ⟨q, i, rfl, rfl, rfl, hi, hq0, hq1, hc, hB⟩ := hrel
            have HQ := Lib.hid hc; clear hc
            have q0 := cell_stays hB q0
            have q1 := cell_stays hB q1
            have q2 := cell_stays hB q2
            have q3 := cell_stays hB q3
            have q4 := cell_stays hB q4
            have q5 := cell_stays hB q5
            have q6 := cell_stays hB q6
            have q7 := cell_stays hB q7
            have q8 := cell_stays hB q8
            have q9 := cell_stays hB q9
            have q10 := cell_stays hB q10
            have q11 := cell_stays hB q11
            have q12 := cell_stays hB q12
            have q13 := cell_stays hB q13
            have q14 := cell_stays hB q14
            by_cases hlt : i < l.length
            · obtain ⟨b, o, rfl, A, hcells, hiok⟩ := (hr1.below hB).get i hlt
              have hx : TIn wr l[i] (l[i].val A) := ⟨A, rfl, hiok⟩
              obtain ⟨d0, d1, d2, d3, d4, d5, d6, d7, d8, d9, d10, d11, d12, d13, d14⟩ := hcells
              clear hiok
              simp only [TT.val] at hx
              obtain ⟨w3, hw3, m3, s3, R3, r0, r1, r2, r3, r4, r5, r6, r7, r8, r9, r10, r11, r12, r13, r14⟩ := box15 wr (.int .u8 l[i].kind) (.int .u8 l[i].v.kind) (.int .i64 l[i].v.num) (.slice A.va l[i].v.items.length A.vc) (.slice A.sa l[i].vs.length A.sc) (.int .i64 l[i].lo) (.int .i64 l[i].hi) (.slice A.wa l[i].ws.length A.wc)
                (.int .u8 l[i].p.kind) (.int .u8 l[i].p.val.kind) (.int .i64 l[i].p.val.num) (.slice A.qa l[i].p.val.items.length A.qc) (.int .i64 l[i].p.num) (.slice A.pa l[i].p.args.length A.pc) (.slice A.aa l[i].args.length A.ac) 47
              have e0 := cell_stays m3 q0
              have hxs := TT.cnts_get hlt
              have hcd := TT.cnts_drop hlt
              have HXF := Lib.hid (TT.leans_get HLS.out hlt)
              have HCD := Lib.hid hcd
              have HXS := Lib.hid hxs
              have hxc : l[i].cnt ≤ N := by omega
              clear hcd hxs
              obtain ⟨bb, ⟨r, y⟩, hbb, hcc, hle, hnext, hfound⟩ := HQ.out.both hlt
              have HBB := Lib.hid hbb; have HCC := Lib.hid hcc; have HNEXT := Lib.hid hnext; have HFOUND := Lib.hid hfound
              simp only at hle
              clear hbb hcc hnext hfound
              rcases step_cases k i with ⟨h10, hi1, hi1'⟩ | ⟨h10, hi1, hi1'⟩ | ⟨h10, hi1, hi1'⟩
              all_goals
                have hbb := HBB.out
                simp only [h10, hi1', Bool.false_and, Bool.and_false, Bool.and_true, Bool.or_false, Bool.or_true] at hbb
                subst hbb
                go_wp2_with fail
                first | (with_reducible refine (IH.out l[i] _ q (d + 1) _ hxc HXF.out hq0 (by have := HCD.out; omega) (by omega) (by have := HXS.out; omega) (hx.below m3)).mono ?_) | (with_reducible refine (tchk_in 3000000 (by omega) m l[i] _ q (d + 1) _ (by omega) HXF.out hq0 (by have := HCD.out; omega) (by omega) (by have := HXS.out; omega) (hx.below m3)).mono ?_)
                rintro e w2 ⟨rfl, hb2⟩
                have hB2 := hB.trans ((m3.trans (hb2.mono m3.size)).mono hB.size)
                rw [HCC.out]
                have hr1' : r ≤ 1000000000 - TT.cnts (l.drop (i + 1)) := by have := HCD.out; omega
                have hr0' : 0 ≤ r := by omega
                clear q0 q1 q2 q3 q4 q5 q6 q7 q8 q9 q10 q11 q12 q13 q14
                clear d0 d1 d2 d3 d4 d5 d6 d7 d8 d9 d10 d11 d12 d13 d14
                clear r0 r1 r2 r3 r4 r5 r6 r7 r8 r9 r10 r11 r12 r13 r14
                clear hle hx hb2 hB m3 e0
                by_cases hy0 : y = 0
                · have HN := Lib.hid (HNEXT.out hy0)
                  subst hy0
                  go_wp2_with fail
                  go_roundw
                  case rel => exact ⟨r, i + 1, rfl, rfl, by go_num, by omega, hr0', hr1', HN.out, hB2⟩
                  case measure => simp [intOf]; omega
                · have HN := Lib.hid (HFOUND.out hy0)
                  have hyb : (y != 0) = true := by simpa using hy0
                  clear hy0
                  go_wp2_with fail
                  refine bodyPost_ret (v := .tuple #[.int .i64 r, .int .i64 y]) (by simp [results, Try.results89, go_sem]) rfl ⟨by rw [HC.out, HN.out], hBe.trans (hB2.mono hBe.size)⟩
            · have HN := Lib.hid (HQ.out.done hlt)
              go_wp2_with fail
              refine bodyPost_ret (v := .tuple #[.int .i64 q, .int .i64 0]) (by simp [results, Try.results89, go_sem]) rfl ⟨by rw [HC.out, HN.out], hBe.trans (hB.mono hBe.size)⟩
      · have hc : (TT.mk k v vs lo hi ws p l).chk m pl d false = (pl, z) := by rw [TT.chk, if_neg (by have := HD.out; omega), if_pos (by rw [← HZ.out]; exact hz0), HZ.out]
        have HC := Lib.hid hc; clear hc
        have hzb : (z != 0) = true := by simpa using hz0
        have hzb2 : (z == 0) = false := by simpa using hz0
        clear hz0
        go_wp2_with fail
        refine bodyPost_ret (v := .tuple #[.int .i64 pl, .int .i64 z]) (by simp [results, Try.results89, go_sem]) rfl ⟨by rw [HC.out], hBe⟩
theorem tchk_any (m : Int) (t : TT) (x : Value) (p d : Int) (inn : Bool) (w : World) (h : t.cnt ≤ 3000000) (hl : t.lean = true) (h0 : 0 ≤ p) (h1 : p ≤ 1000000000 - t.cnt) (h2 : 0 ≤ d) (h3 : d ≤ 1000000000 - t.cnt) (hx : TIn w t x) :
    Calls Try.prog 89 #[x, .int .i64 p, .int .i64 d, .int .i64 m, .bool inn] w fun e w' => e = .returned (.tuple #[.int .i64 (t.chk m p d inn).1, .int .i64 (t.chk m p d inn).2]) ∧ Below w.heap.size w w' := by
  cases inn
  · exact tchk_out 3000000 (by omega) m t x p d w h hl h0 h1 h2 h3 hx
  · exact tchk_in 3000000 (by omega) m t x p d w h hl h0 h1 h2 h3 hx
end Go.Proofs.Yteebbffecaeciaa
