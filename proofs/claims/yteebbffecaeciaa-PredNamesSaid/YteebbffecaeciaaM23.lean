/- Texts of this claim laid into one: TNodes. -/
import Derived.Test.YteebbffecaeciaaM10
/- term.Nodes, term.Deep. -/
namespace Go.Proofs.Yteebbffecaeciaa
open Go.RowKit



set_option maxRecDepth 100000 in
set_option maxHeartbeats 8000000 in
theorem tnodes1 (N : Nat) (hN : N ≤ 3000000) (ih : ∀ (t : TT) (x : Value) (w : World), t.cnt ≤ N → t.lean = true → TIn w t x → Calls Try.prog 54 #[x] w fun e w' => e = .returned (.int .i64 t.nodes) ∧ Below w.heap.size w w')
    (t : TT) (x : Value) (w : World) (hs : t.cnt ≤ N + 1) (hln : t.lean = true) (hx : TIn w t x) (hk : t.kind = 1) :
    Calls Try.prog 54 #[x] w fun e w' => e = .returned (.int .i64 t.nodes) ∧ Below w.heap.size w w' := by
  have IH := Lib.hid ih; clear ih
  obtain ⟨hlp, hls⟩ := TT.lean_parts hln
  obtain ⟨k, v, vs, lo, hi, ws, p, l⟩ := t
  obtain ⟨⟨va, vc, sa, sc, wa, wc, qa, qc, pa, pc, aa, ac⟩, rfl, hok⟩ := hx
  obtain ⟨⟨hal, hsl, hwl⟩, hv, hs, hw, hp, hr⟩ := hok.parts
  simp only [TT.v, TT.vs, TT.ws, TT.p, TT.args] at hal hsl hwl hv hs hw hp hr
  simp only [TT.val, TT.kind, TT.v, TT.vs, TT.lo, TT.hi, TT.ws, TT.p, TT.args]
  obtain ⟨w0, hw0, m0, s0, R0, q0, q1, q2, q3, q4, q5, q6, q7, q8, q9, q10, q11, q12, q13, q14⟩ := box15 w (.int .u8 k) (.int .u8 v.kind) (.int .i64 v.num) (.slice va v.items.length vc) (.slice sa vs.length sc) (.int .i64 lo) (.int .i64 hi) (.slice wa ws.length wc)
    (.int .u8 p.kind) (.int .u8 p.val.kind) (.int .i64 p.val.num) (.slice qa p.val.items.length qc) (.int .i64 p.num) (.slice pa p.args.length pc) (.slice aa l.length ac) 47
  have hv0 := hv.below m0
  have hs0 := hs.below m0
  have hw0' := hw.below m0
  have hp0 := hp.below m0
  have hr0 := hr.below m0
  have hB0 := Below.refl w0.heap.size w0
  clear hok hv hs hw hp hr R0
  simp only [TT.kind] at hk
  simp only [TT.v, TT.vs, TT.ws, TT.p, TT.args] at hls hlp
  rw [TT.cnt] at hs
  have hlc := TT.length_le_cnts l
  have hnl := TT.nodess_le l hls
  have hnl2 : TT.nodess l ≤ 700000000000000000 := by omega
  have HLS := Lib.hid hls; have HNL := Lib.hid hnl2; have HLP := Lib.hid hlp
  clear hln hls hlp hnl hnl2 hw0'
  subst hk
  obtain ⟨vz, hvz⟩ : ∃ vz, vz = v.size := ⟨_, rfl⟩
  have hc : ((TT.mk 1 v vs lo hi ws p l).nodes : Int) = 1 + (vz : Int) + (TT.nodess l : Int) := by rw [TT.nodes, if_pos rfl, hvz]; omega
  have hvb : vz ≤ 100000 := by have := HLP.out.1; omega
  have HRES := Lib.hid hc; have HVZ := Lib.hid hvz
  have HC0 := Lib.hid (show 0 ≤ 1 + (vz : Int) ∧ 1 + (vz : Int) ≤ 100000000000000000 by omega)
  clear hc hvz hs0 hp0
  go_enter Try.func54, Try.ntmps54
  go_wp2_with fail
  refine (size_any v _ _ HLP.out.1 hv0).mono ?_
  rintro e w1 ⟨rfl, hb1⟩
  rw [← HVZ.out]
  have q0 := cell_stays hb1 q0
  have q1 := cell_stays hb1 q1
  have q2 := cell_stays hb1 q2
  have q3 := cell_stays hb1 q3
  have q4 := cell_stays hb1 q4
  have q5 := cell_stays hb1 q5
  have q6 := cell_stays hb1 q6
  have q7 := cell_stays hb1 q7
  have q8 := cell_stays hb1 q8
  have q9 := cell_stays hb1 q9
  have q10 := cell_stays hb1 q10
  have q11 := cell_stays hb1 q11
  have q12 := cell_stays hb1 q12
  have q13 := cell_stays hb1 q13
  have q14 := cell_stays hb1 q14
  have hr1 := hr0.below hb1
  have hB1 := m0.trans (hb1.mono m0.size)
  clear hr0 hv0 hb1
  go_wp2_with fail
  go_loopw [3, 41] (fun x y wr => ∃ (s : Int) (i : Nat), x = .int .i64 s ∧ y = .int .i64 i ∧ i ≤ l.length ∧ s = 1 + (vz : Int) + TT.nodess (l.take i) ∧ Below w1.heap.size w1 wr) (fun _ y _ => l.length - (intOf y).toNat)
  case atStart => exact ⟨_, 0, rfl, rfl, by omega, by simp [TT.nodess], Below.refl _ _⟩
  case round =>
    obtain ⟨s, i, rfl, rfl, hi, hp, hB⟩ := hrel
    have b0 := TT.nodess_upto_le l i
    have b2 : 1 ≤ s ∧ s ≤ 800000000000000000 := by have := HNL.out; have := HC0.out; omega
    have HP := Lib.hid hp; clear hp b0
    have q0 := cell_stays hB q0
    have q1 := cell_stays hB q1
    have q2 := cell_stays hB q2
    have q3 := cell_stays hB q3
    have q4 := cell_stays hB q4
    have q5 := cell_stays hB q5
    have q6 := cell_stays hB q6
    have q7 := cell_stays hB q7
    have q8 := cell_stays hB q8
    have q9 := cell_stays hB q9
    have q10 := cell_stays hB q10
    have q11 := cell_stays hB q11
    have q12 := cell_stays hB q12
    have q13 := cell_stays hB q13
    have q14 := cell_stays hB q14
    by_cases hlt : i < l.length
    · obtain ⟨b, o, rfl, A, hcells, hiok⟩ := (hr1.below hB).get i hlt
      have hx : TIn wr l[i] (l[i].val A) := ⟨A, rfl, hiok⟩
      obtain ⟨d0, d1, d2, d3, d4, d5, d6, d7, d8, d9, d10, d11, d12, d13, d14⟩ := hcells
      clear hiok
      simp only [TT.val] at hx
      obtain ⟨w3, hw3, m3, s3, R3, r0, r1, r2, r3, r4, r5, r6, r7, r8, r9, r10, r11, r12, r13, r14⟩ := box15 wr (.int .u8 l[i].kind) (.int .u8 l[i].v.kind) (.int .i64 l[i].v.num) (.slice A.va l[i].v.items.length A.vc) (.slice A.sa l[i].vs.length A.sc) (.int .i64 l[i].lo) (.int .i64 l[i].hi) (.slice A.wa l[i].ws.length A.wc)
        (.int .u8 l[i].p.kind) (.int .u8 l[i].p.val.kind) (.int .i64 l[i].p.val.num) (.slice A.qa l[i].p.val.items.length A.qc) (.int .i64 l[i].p.num) (.slice A.pa l[i].p.args.length A.pc) (.slice A.aa l[i].args.length A.ac) 47
      have hxs := TT.cnts_get hlt
      have HXF := Lib.hid (TT.leans_get HLS.out hlt)
      have hxc : l[i].cnt ≤ N := by omega
      have hnl := TT.nodes_le l[i] HXF.out
      have hnb : l[i].nodes ≤ 800000000000000000 := by omega
      have HUP := Lib.hid (TT.nodess_upto hlt)
      clear hnl hxs
      go_wp2_with fail
      refine (IH.out l[i] _ _ hxc HXF.out (hx.below m3)).mono ?_
      rintro e w2 ⟨rfl, hb2⟩
      have hB2 := hB.trans ((m3.trans (hb2.mono m3.size)).mono hB.size)
      obtain ⟨q, hq⟩ : ∃ q : Nat, q = l[i].nodes := ⟨_, rfl⟩
      rw [← hq] at hnb HUP ⊢
      clear q0 q1 q2 q3 q4 q5 q6 q7 q8 q9 q10 q11 q12 q13 q14
      clear d0 d1 d2 d3 d4 d5 d6 d7 d8 d9 d10 d11 d12 d13 d14
      clear r0 r1 r2 r3 r4 r5 r6 r7 r8 r9 r10 r11 r12 r13 r14
      clear hq hx hb2 hB m3
      go_wp2_with fail
      go_roundw
      case rel => exact ⟨_, i + 1, rfl, by go_num, by omega, by rw [HUP.out, HP.out]; go_num, hB2⟩
      case measure => simp [intOf]; omega
    · have hii : i = l.length := by omega
      subst hii
      have n4 : decide ((l.length : Int) < (l.length : Int)) = false := by simp
      go_wp2_with fail
      go_ret
      exact ⟨ret_int (by rw [HP.out, List.take_length, HRES.out]), hB1.trans (hB.mono hB1.size)⟩
set_option maxRecDepth 100000 in
set_option maxHeartbeats 8000000 in
theorem tnodes4 (N : Nat) (hN : N ≤ 3000000) (ih : ∀ (t : TT) (x : Value) (w : World), t.cnt ≤ N → t.lean = true → TIn w t x → Calls Try.prog 54 #[x] w fun e w' => e = .returned (.int .i64 t.nodes) ∧ Below w.heap.size w w')
    (t : TT) (x : Value) (w : World) (hs : t.cnt ≤ N + 1) (hln : t.lean = true) (hx : TIn w t x) (hk : t.kind = 4) :
    Calls Try.prog 54 #[x] w fun e w' => e = .returned (.int .i64 t.nodes) ∧ Below w.heap.size w w' := by
  have IH := Lib.hid ih; clear ih
  obtain ⟨hlp, hls⟩ := TT.lean_parts hln
  obtain ⟨k, v, vs, lo, hi, ws, p, l⟩ := t
  obtain ⟨⟨va, vc, sa, sc, wa, wc, qa, qc, pa, pc, aa, ac⟩, rfl, hok⟩ := hx
  obtain ⟨⟨hal, hsl, hwl⟩, hv, hs, hw, hp, hr⟩ := hok.parts
  simp only [TT.v, TT.vs, TT.ws, TT.p, TT.args] at hal hsl hwl hv hs hw hp hr
  simp only [TT.val, TT.kind, TT.v, TT.vs, TT.lo, TT.hi, TT.ws, TT.p, TT.args]
  obtain ⟨w0, hw0, m0, s0, R0, q0, q1, q2, q3, q4, q5, q6, q7, q8, q9, q10, q11, q12, q13, q14⟩ := box15 w (.int .u8 k) (.int .u8 v.kind) (.int .i64 v.num) (.slice va v.items.length vc) (.slice sa vs.length sc) (.int .i64 lo) (.int .i64 hi) (.slice wa ws.length wc)
    (.int .u8 p.kind) (.int .u8 p.val.kind) (.int .i64 p.val.num) (.slice qa p.val.items.length qc) (.int .i64 p.num) (.slice pa p.args.length pc) (.slice aa l.length ac) 47
  have hv0 := hv.below m0
  have hs0 := hs.below m0
  have hw0' := hw.below m0
  have hp0 := hp.below m0
  have hr0 := hr.below m0
  have hB0 := Below.refl w0.heap.size w0
  clear hok hv hs hw hp hr R0
  simp only [TT.kind] at hk
  simp only [TT.v, TT.vs, TT.ws, TT.p, TT.args] at hls hlp
  rw [TT.cnt] at hs
  have hlc := TT.length_le_cnts l
  have hnl := TT.nodess_le l hls
  have hnl2 : TT.nodess l ≤ 700000000000000000 := by omega
  have HLS := Lib.hid hls; have HNL := Lib.hid hnl2; have HLP := Lib.hid hlp
  clear hln hls hlp hnl hnl2 hw0'
  subst hk
  have hc : ((TT.mk 4 v vs lo hi ws p l).nodes : Int) = 1 + (VT.sizes vs : Int) + (TT.nodess l : Int) := by rw [TT.nodes, if_neg (by omega), if_pos rfl]; omega
  have hvb : VT.sizes vs ≤ 100000 := HLP.out.2.1
  have HRES := Lib.hid hc; have HVB := Lib.hid hvb
  clear hc hv0 hp0 hvb
  go_enter Try.func54, Try.ntmps54
  go_wp2_with fail
  go_loopw [3, 22] (fun x y wr => ∃ (s : Int) (i : Nat), x = .int .i64 s ∧ y = .int .i64 i ∧ i ≤ vs.length ∧ s = 1 + VT.sizes (vs.take i) ∧ Below w0.heap.size w0 wr) (fun _ y _ => vs.length - (intOf y).toNat)
  case atStart => exact ⟨1, 0, rfl, rfl, by omega, by simp [VT.sizes], Below.refl _ _⟩
  case round =>
    obtain ⟨s4, i, rfl, rfl, hi, hp, hB⟩ := hrel
    have b0 := VT.sizes_upto_le vs i
    have b2 : 1 ≤ s4 ∧ s4 ≤ 100001 := by have := HVB.out; omega
    have HP := Lib.hid hp; clear hp b0
    by_cases hlt : i < vs.length
    · obtain ⟨b, o, rfl, ax, cx, d0, d1, d2, hvi⟩ := (hs0.below hB).got i hlt
      have hsl := VT.sizes_get hlt
      have hsz : vs[i].size ≤ 100000 := by have := HVB.out; omega
      have HUP := Lib.hid (VT.sizes_upto hlt)
      obtain ⟨w3, hw3, m3, s3, r0, r1, r2, _⟩ := box3 wr (.int .u8 vs[i].kind) (.int .i64 vs[i].num) (.slice ax vs[i].items.length cx) 25
      clear hsl
      go_wp2_with fail
      refine (size_any vs[i] _ _ hsz (hvi.below m3)).mono ?_
      rintro e w4 ⟨rfl, hb4⟩
      have hB4 := hB.trans ((m3.trans (hb4.mono m3.size)).mono hB.size)
      obtain ⟨q, hq⟩ : ∃ q : Nat, q = vs[i].size := ⟨_, rfl⟩
      rw [← hq] at hsz HUP ⊢
      clear hB hb4 m3 d0 d1 d2 hvi r0 r1 r2 hq
      go_wp2_with fail
      go_roundw
      case rel => exact ⟨_, i + 1, rfl, by go_num, by omega, by rw [HUP.out, HP.out]; go_num, hB4⟩
      case measure => simp [intOf]; omega
    · have hii : i = vs.length := by omega
      subst hii
      have hP2 : s4 = 1 + (VT.sizes vs : Int) := by rw [HP.out, List.take_length]
      have hR2 := HRES.out
      rw [← hP2] at hR2
      replace HRES := Lib.hid hR2
      rename World => w1
      have hB1 := m0.trans (hB.mono m0.size)
      have hr1 := hr0.below hB
      have q0 := cell_stays hB q0
      have q1 := cell_stays hB q1
      have q2 := cell_stays hB q2
      have q3 := cell_stays hB q3
      have q4 := cell_stays hB q4
      have q5 := cell_stays hB q5
      have q6 := cell_stays hB q6
      have q7 := cell_stays hB q7
      have q8 := cell_stays hB q8
      have q9 := cell_stays hB q9
      have q10 := cell_stays hB q10
      have q11 := cell_stays hB q11
      have q12 := cell_stays hB q12
      have q13 := cell_stays hB q13
      have q14 := cell_stays hB q14
      have HC0 := Lib.hid (show 0 ≤ s4 ∧ s4 ≤ 100000000000000000 by omega)
      have n5 : decide ((vs.length : Int) < (vs.length : Int)) = false := by simp
      clear hP2 hR2 hlt hB hr0 hs0
      go_wp2_with fail
      clear n5
      go_loopw [3, 41] (fun x y wr => ∃ (s : Int) (i : Nat), x = .int .i64 s ∧ y = .int .i64 i ∧ i ≤ l.length ∧ s = s4 + TT.nodess (l.take i) ∧ Below w1.heap.size w1 wr) (fun _ y _ => l.length - (intOf y).toNat)
      case atStart => exact ⟨_, 0, rfl, rfl, by omega, by simp [TT.nodess], Below.refl _ _⟩
      case round =>
        obtain ⟨s, i, rfl, rfl, hi, hp, hB⟩ := hrel
        have b0 := TT.nodess_upto_le l i
        have b2 : 1 ≤ s ∧ s ≤ 800000000000000000 := by have := HNL.out; have := HC0.out; omega
        have HP := Lib.hid hp; clear hp b0
        have q0 := cell_stays hB q0
        have q1 := cell_stays hB q1
        have q2 := cell_stays hB q2
        have q3 := cell_stays hB q3
        have q4 := cell_stays hB q4
        have q5 := cell_stays hB q5
        have q6 := cell_stays hB q6
        have q7 := cell_stays hB q7
        have q8 := cell_stays hB q8
        have q9 := cell_stays hB q9
        have q10 := cell_stays hB q10
        have q11 := cell_stays hB q11
        have q12 := cell_stays hB q12
        have q13 := cell_stays hB q13
        have q14 := cell_stays hB q14
        by_cases hlt : i < l.length
        · obtain ⟨b, o, rfl, A, hcells, hiok⟩ := (hr1.below hB).get i hlt
          have hx : TIn wr l[i] (l[i].val A) := ⟨A, rfl, hiok⟩
          obtain ⟨d0, d1, d2, d3, d4, d5, d6, d7, d8, d9, d10, d11, d12, d13, d14⟩ := hcells
          clear hiok
          simp only [TT.val] at hx
          obtain ⟨w3, hw3, m3, s3, R3, r0, r1, r2, r3, r4, r5, r6, r7, r8, r9, r10, r11, r12, r13, r14⟩ := box15 wr (.int .u8 l[i].kind) (.int .u8 l[i].v.kind) (.int .i64 l[i].v.num) (.slice A.va l[i].v.items.length A.vc) (.slice A.sa l[i].vs.length A.sc) (.int .i64 l[i].lo) (.int .i64 l[i].hi) (.slice A.wa l[i].ws.length A.wc)
            (.int .u8 l[i].p.kind) (.int .u8 l[i].p.val.kind) (.int .i64 l[i].p.val.num) (.slice A.qa l[i].p.val.items.length A.qc) (.int .i64 l[i].p.num) (.slice A.pa l[i].p.args.length A.pc) (.slice A.aa l[i].args.length A.ac) 47
          have hxs := TT.cnts_get hlt
          have HXF := Lib.hid (TT.leans_get HLS.out hlt)
          have hxc : l[i].cnt ≤ N := by omega
          have hnl := TT.nodes_le l[i] HXF.out
          have hnb : l[i].nodes ≤ 800000000000000000 := by omega
          have HUP := Lib.hid (TT.nodess_upto hlt)
          clear hnl hxs
          go_wp2_with fail
          refine (IH.out l[i] _ _ hxc HXF.out (hx.below m3)).mono ?_
          rintro e w2 ⟨rfl, hb2⟩
          have hB2 := hB.trans ((m3.trans (hb2.mono m3.size)).mono hB.size)
          obtain ⟨q, hq⟩ : ∃ q : Nat, q = l[i].nodes := ⟨_, rfl⟩
          rw [← hq] at hnb HUP ⊢
          clear q0 q1 q2 q3 q4 q5 q6 q7 q8 q9 q10 q11 q12 q13 q14
          clear d0 d1 d2 d3 d4 d5 d6 d7 d8 d9 d10 d11 d12 d13 d14
          clear r0 r1 r2 r3 r4 r5 r6 r7 r8 r9 r10 r11 r12 r13 r14
          clear hq hx hb2 hB m3
          go_wp2_with fail
          go_roundw
          case rel => exact ⟨_, i + 1, rfl, by go_num, by omega, by rw [HUP.out, HP.out]; go_num, hB2⟩
          case measure => simp [intOf]; omega
        · have hii : i = l.length := by omega
          subst hii
          have n4 : decide ((l.length : Int) < (l.length : Int)) = false := by simp
          go_wp2_with fail
          go_ret
          exact ⟨ret_int (by rw [HP.out, List.take_length, HRES.out]), hB1.trans (hB.mono hB1.size)⟩
set_option maxRecDepth 100000 in
set_option maxHeartbeats 8000000 in
theorem tnodes9 (N : Nat) (hN : N ≤ 3000000) (ih : ∀ (t : TT) (x : Value) (w : World), t.cnt ≤ N → t.lean = true → TIn w t x → Calls Try.prog 54 #[x] w fun e w' => e = .returned (.int .i64 t.nodes) ∧ Below w.heap.size w w')
    (t : TT) (x : Value) (w : World) (hs : t.cnt ≤ N + 1) (hln : t.lean = true) (hx : TIn w t x) (hk : t.kind = 9) :
    Calls Try.prog 54 #[x] w fun e w' => e = .returned (.int .i64 t.nodes) ∧ Below w.heap.size w w' := by
  have IH := Lib.hid ih; clear ih
  obtain ⟨hlp, hls⟩ := TT.lean_parts hln
  obtain ⟨k, v, vs, lo, hi, ws, p, l⟩ := t
  obtain ⟨⟨va, vc, sa, sc, wa, wc, qa, qc, pa, pc, aa, ac⟩, rfl, hok⟩ := hx
  obtain ⟨⟨hal, hsl, hwl⟩, hv, hs, hw, hp, hr⟩ := hok.parts
  simp only [TT.v, TT.vs, TT.ws, TT.p, TT.args] at hal hsl hwl hv hs hw hp hr
  simp only [TT.val, TT.kind, TT.v, TT.vs, TT.lo, TT.hi, TT.ws, TT.p, TT.args]
  obtain ⟨w0, hw0, m0, s0, R0, q0, q1, q2, q3, q4, q5, q6, q7, q8, q9, q10, q11, q12, q13, q14⟩ := box15 w (.int .u8 k) (.int .u8 v.kind) (.int .i64 v.num) (.slice va v.items.length vc) (.slice sa vs.length sc) (.int .i64 lo) (.int .i64 hi) (.slice wa ws.length wc)
    (.int .u8 p.kind) (.int .u8 p.val.kind) (.int .i64 p.val.num) (.slice qa p.val.items.length qc) (.int .i64 p.num) (.slice pa p.args.length pc) (.slice aa l.length ac) 47
  have hv0 := hv.below m0
  have hs0 := hs.below m0
  have hw0' := hw.below m0
  have hp0 := hp.below m0
  have hr0 := hr.below m0
  have hB0 := Below.refl w0.heap.size w0
  clear hok hv hs hw hp hr R0
  simp only [TT.kind] at hk
  simp only [TT.v, TT.vs, TT.ws, TT.p, TT.args] at hls hlp
  rw [TT.cnt] at hs
  have hlc := TT.length_le_cnts l
  have hnl := TT.nodess_le l hls
  have hnl2 : TT.nodess l ≤ 700000000000000000 := by omega
  have HLS := Lib.hid hls; have HNL := Lib.hid hnl2; have HLP := Lib.hid hlp
  clear hln hls hlp hnl hnl2 hw0'
  subst hk
  obtain ⟨vz, hvz⟩ : ∃ vz, vz = p.nodes := ⟨_, rfl⟩
  have hc : ((TT.mk 9 v vs lo hi ws p l).nodes : Int) = 1 + (vz : Int) + (TT.nodess l : Int) := by rw [TT.nodes, if_neg (by omega), if_neg (by omega), if_pos rfl, hvz]; omega
  have hvb : vz ≤ 200000000000 := by have := PT.nodes_le 100000 p HLP.out.2.2.2.2; have := HLP.out.2.2.2.1; omega
  have HRES := Lib.hid hc; have HVZ := Lib.hid hvz
  have HC0 := Lib.hid (show 0 ≤ 1 + (vz : Int) ∧ 1 + (vz : Int) ≤ 100000000000000000 by omega)
  clear hc hvz hs0 hv0
  go_enter Try.func54, Try.ntmps54
  go_wp2_with fail
  refine (nodes_any 1000000 (by omega) p _ _ HLP.out.2.2.2.1 HLP.out.2.2.2.2 hp0).mono ?_
  rintro e w1 ⟨rfl, hb1⟩
  rw [← HVZ.out]
  have q0 := cell_stays hb1 q0
  have q1 := cell_stays hb1 q1
  have q2 := cell_stays hb1 q2
  have q3 := cell_stays hb1 q3
  have q4 := cell_stays hb1 q4
  have q5 := cell_stays hb1 q5
  have q6 := cell_stays hb1 q6
  have q7 := cell_stays hb1 q7
  have q8 := cell_stays hb1 q8
  have q9 := cell_stays hb1 q9
  have q10 := cell_stays hb1 q10
  have q11 := cell_stays hb1 q11
  have q12 := cell_stays hb1 q12
  have q13 := cell_stays hb1 q13
  have q14 := cell_stays hb1 q14
  have hr1 := hr0.below hb1
  have hB1 := m0.trans (hb1.mono m0.size)
  clear hr0 hp0 hb1
  go_wp2_with fail
  go_loopw [3, 41] (fun x y wr => ∃ (s : Int) (i : Nat), x = .int .i64 s ∧ y = .int .i64 i ∧ i ≤ l.length ∧ s = 1 + (vz : Int) + TT.nodess (l.take i) ∧ Below w1.heap.size w1 wr) (fun _ y _ => l.length - (intOf y).toNat)
  case atStart => exact ⟨_, 0, rfl, rfl, by omega, by simp [TT.nodess], Below.refl _ _⟩
  case round =>
    obtain ⟨s, i, rfl, rfl, hi, hp, hB⟩ := hrel
    have b0 := TT.nodess_upto_le l i
    have b2 : 1 ≤ s ∧ s ≤ 800000000000000000 := by have := HNL.out; have := HC0.out; omega
    have HP := Lib.hid hp; clear hp b0
    have q0 := cell_stays hB q0
    have q1 := cell_stays hB q1
    have q2 := cell_stays hB q2
    have q3 := cell_stays hB q3
    have q4 := cell_stays hB q4
    have q5 := cell_stays hB q5
    have q6 := cell_stays hB q6
    have q7 := cell_stays hB q7
    have q8 := cell_stays hB q8
    have q9 := cell_stays hB q9
    have q10 := cell_stays hB q10
    have q11 := cell_stays hB q11
    have q12 := cell_stays hB q12
    have q13 := cell_stays hB q13
    have q14 := cell_stays hB q14
    by_cases hlt : i < l.length
    · obtain ⟨b, o, rfl, A, hcells, hiok⟩ := (hr1.below hB).get i hlt
      have hx : TIn wr l[i] (l[i].val A) := ⟨A, rfl, hiok⟩
      obtain ⟨d0, d1, d2, d3, d4, d5, d6, d7, d8, d9, d10, d11, d12, d13, d14⟩ := hcells
      clear hiok
      simp only [TT.val] at hx
      obtain ⟨w3, hw3, m3, s3, R3, r0, r1, r2, r3, r4, r5, r6, r7, r8, r9, r10, r11, r12, r13, r14⟩ := box15 wr (.int .u8 l[i].kind) (.int .u8 l[i].v.kind) (.int .i64 l[i].v.num) (.slice A.va l[i].v.items.length A.vc) (.slice A.sa l[i].vs.length A.sc) (.int .i64 l[i].lo) (.int .i64 l[i].hi) (.slice A.wa l[i].ws.length A.wc)
        (.int .u8 l[i].p.kind) (.int .u8 l[i].p.val.kind) (.int .i64 l[i].p.val.num) (.slice A.qa l[i].p.val.items.length A.qc) (.int .i64 l[i].p.num) (.slice A.pa l[i].p.args.length A.pc) (.slice A.aa l[i].args.length A.ac) 47
      have hxs := TT.cnts_get hlt
      have HXF := Lib.hid (TT.leans_get HLS.out hlt)
      have hxc : l[i].cnt ≤ N := by omega
      have hnl := TT.nodes_le l[i] HXF.out
      have hnb : l[i].nodes ≤ 800000000000000000 := by omega
      have HUP := Lib.hid (TT.nodess_upto hlt)
      clear hnl hxs
      go_wp2_with fail
      refine (IH.out l[i] _ _ hxc HXF.out (hx.below m3)).mono ?_
      rintro e w2 ⟨rfl, hb2⟩
      have hB2 := hB.trans ((m3.trans (hb2.mono m3.size)).mono hB.size)
      obtain ⟨q, hq⟩ : ∃ q : Nat, q = l[i].nodes := ⟨_, rfl⟩
      rw [← hq] at hnb HUP ⊢
      clear q0 q1 q2 q3 q4 q5 q6 q7 q8 q9 q10 q11 q12 q13 q14
      clear d0 d1 d2 d3 d4 d5 d6 d7 d8 d9 d10 d11 d12 d13 d14
      clear r0 r1 r2 r3 r4 r5 r6 r7 r8 r9 r10 r11 r12 r13 r14
      clear hq hx hb2 hB m3
      go_wp2_with fail
      go_roundw
      case rel => exact ⟨_, i + 1, rfl, by go_num, by omega, by rw [HUP.out, HP.out]; go_num, hB2⟩
      case measure => simp [intOf]; omega
    · have hii : i = l.length := by omega
      subst hii
      have n4 : decide ((l.length : Int) < (l.length : Int)) = false := by simp
      go_wp2_with fail
      go_ret
      exact ⟨ret_int (by rw [HP.out, List.take_length, HRES.out]), hB1.trans (hB.mono hB1.size)⟩
set_option maxRecDepth 100000 in
set_option maxHeartbeats 8000000 in
theorem tnodesO (N : Nat) (hN : N ≤ 3000000) (ih : ∀ (t : TT) (x : Value) (w : World), t.cnt ≤ N → t.lean = true → TIn w t x → Calls Try.prog 54 #[x] w fun e w' => e = .returned (.int .i64 t.nodes) ∧ Below w.heap.size w w')
    (t : TT) (x : Value) (w : World) (hs : t.cnt ≤ N + 1) (hln : t.lean = true) (hx : TIn w t x) (hk : t.kind ≠ 1 ∧ t.kind ≠ 4 ∧ t.kind ≠ 9) :
    Calls Try.prog 54 #[x] w fun e w' => e = .returned (.int .i64 t.nodes) ∧ Below w.heap.size w w' := by
  have IH := Lib.hid ih; clear ih
  obtain ⟨hlp, hls⟩ := TT.lean_parts hln
  obtain ⟨k, v, vs, lo, hi, ws, p, l⟩ := t
  obtain ⟨⟨va, vc, sa, sc, wa, wc, qa, qc, pa, pc, aa, ac⟩, rfl, hok⟩ := hx
  obtain ⟨⟨hal, hsl, hwl⟩, hv, hs, hw, hp, hr⟩ := hok.parts
  simp only [TT.v, TT.vs, TT.ws, TT.p, TT.args] at hal hsl hwl hv hs hw hp hr
  simp only [TT.val, TT.kind, TT.v, TT.vs, TT.lo, TT.hi, TT.ws, TT.p, TT.args]
  obtain ⟨w0, hw0, m0, s0, R0, q0, q1, q2, q3, q4, q5, q6, q7, q8, q9, q10, q11, q12, q13, q14⟩ := box15 w (.int .u8 k) (.int .u8 v.kind) (.int .i64 v.num) (.slice va v.items.length vc) (.slice sa vs.length sc) (.int .i64 lo) (.int .i64 hi) (.slice wa ws.length wc)
    (.int .u8 p.kind) (.int .u8 p.val.kind) (.int .i64 p.val.num) (.slice qa p.val.items.length qc) (.int .i64 p.num) (.slice pa p.args.length pc) (.slice aa l.length ac) 47
  have hv0 := hv.below m0
  have hs0 := hs.below m0
  have hw0' := hw.below m0
  have hp0 := hp.below m0
  have hr0 := hr.below m0
  have hB0 := Below.refl w0.heap.size w0
  clear hok hv hs hw hp hr R0
  simp only [TT.kind] at hk
  simp only [TT.v, TT.vs, TT.ws, TT.p, TT.args] at hls hlp
  rw [TT.cnt] at hs
  have hlc := TT.length_le_cnts l
  have hnl := TT.nodess_le l hls
  have hnl2 : TT.nodess l ≤ 700000000000000000 := by omega
  have HLS := Lib.hid hls; have HNL := Lib.hid hnl2; have HLP := Lib.hid hlp
  clear hln hls hlp hnl hnl2 hw0'
  obtain ⟨h1, h4, h9⟩ := hk
  have hc : ((TT.mk k v vs lo hi ws p l).nodes : Int) = 1 + (TT.nodess l : Int) := by rw [TT.nodes, if_neg h1, if_neg h4, if_neg h9]; omega
  have b1 : (k == 1) = false := by simpa using h1
  have b4 : (k == 4) = false := by simpa using h4
  have b9 : (k == 9) = false := by simpa using h9
  have HRES := Lib.hid hc
  have HC0 := Lib.hid (show 0 ≤ (1 : Int) ∧ (1 : Int) ≤ 100000000000000000 by omega)
  clear hc hs0 hv0 hp0 h1 h4 h9
  go_enter Try.func54, Try.ntmps54
  go_wp2_with fail
  have hB1 := m0
  have hr1 := hr0
  clear hr0
  go_loopw [3, 41] (fun x y wr => ∃ (s : Int) (i : Nat), x = .int .i64 s ∧ y = .int .i64 i ∧ i ≤ l.length ∧ s = 1 + TT.nodess (l.take i) ∧ Below w0.heap.size w0 wr) (fun _ y _ => l.length - (intOf y).toNat)
  case atStart => exact ⟨_, 0, rfl, rfl, by omega, by simp [TT.nodess], Below.refl _ _⟩
  case round =>
    obtain ⟨s, i, rfl, rfl, hi, hp, hB⟩ := hrel
    have b0 := TT.nodess_upto_le l i
    have b2 : 1 ≤ s ∧ s ≤ 800000000000000000 := by have := HNL.out; have := HC0.out; omega
    have HP := Lib.hid hp; clear hp b0
    have q0 := cell_stays hB q0
    have q1 := cell_stays hB q1
    have q2 := cell_stays hB q2
    have q3 := cell_stays hB q3
    have q4 := cell_stays hB q4
    have q5 := cell_stays hB q5
    have q6 := cell_stays hB q6
    have q7 := cell_stays hB q7
    have q8 := cell_stays hB q8
    have q9 := cell_stays hB q9
    have q10 := cell_stays hB q10
    have q11 := cell_stays hB q11
    have q12 := cell_stays hB q12
    have q13 := cell_stays hB q13
    have q14 := cell_stays hB q14
    by_cases hlt : i < l.length
    · obtain ⟨b, o, rfl, A, hcells, hiok⟩ := (hr1.below hB).get i hlt
      have hx : TIn wr l[i] (l[i].val A) := ⟨A, rfl, hiok⟩
      obtain ⟨d0, d1, d2, d3, d4, d5, d6, d7, d8, d9, d10, d11, d12, d13, d14⟩ := hcells
      clear hiok
      simp only [TT.val] at hx
      obtain ⟨w3, hw3, m3, s3, R3, r0, r1, r2, r3, r4, r5, r6, r7, r8, r9, r10, r11, r12, r13, r14⟩ := box15 wr (.int .u8 l[i].kind) (.int .u8 l[i].v.kind) (.int .i64 l[i].v.num) (.slice A.va l[i].v.items.length A.vc) (.slice A.sa l[i].vs.length A.sc) (.int .i64 l[i].lo) (.int .i64 l[i].hi) (.slice A.wa l[i].ws.length A.wc)
        (.int .u8 l[i].p.kind) (.int .u8 l[i].p.val.kind) (.int .i64 l[i].p.val.num) (.slice A.qa l[i].p.val.items.length A.qc) (.int .i64 l[i].p.num) (.slice A.pa l[i].p.args.length A.pc) (.slice A.aa l[i].args.length A.ac) 47
      have hxs := TT.cnts_get hlt
      have HXF := Lib.hid (TT.leans_get HLS.out hlt)
      have hxc : l[i].cnt ≤ N := by omega
      have hnl := TT.nodes_le l[i] HXF.out
      have hnb : l[i].nodes ≤ 800000000000000000 := by omega
      have HUP := Lib.hid (TT.nodess_upto hlt)
      clear hnl hxs
      go_wp2_with fail
      refine (IH.out l[i] _ _ hxc HXF.out (hx.below m3)).mono ?_
      rintro e w2 ⟨rfl, hb2⟩
      have hB2 := hB.trans ((m3.trans (hb2.mono m3.size)).mono hB.size)
      obtain ⟨q, hq⟩ : ∃ q : Nat, q = l[i].nodes := ⟨_, rfl⟩
      rw [← hq] at hnb HUP ⊢
      clear q0 q1 q2 q3 q4 q5 q6 q7 q8 q9 q10 q11 q12 q13 q14
      clear d0 d1 d2 d3 d4 d5 d6 d7 d8 d9 d10 d11 d12 d13 d14
      clear r0 r1 r2 r3 r4 r5 r6 r7 r8 r9 r10 r11 r12 r13 r14
      clear hq hx hb2 hB m3
      go_wp2_with fail
      go_roundw
      case rel => exact ⟨_, i + 1, rfl, by go_num, by omega, by rw [HUP.out, HP.out]; go_num, hB2⟩
      case measure => simp [intOf]; omega
    · have hii : i = l.length := by omega
      subst hii
      have n4 : decide ((l.length : Int) < (l.length : Int)) = false := by simp
      go_wp2_with fail
      go_ret
      exact ⟨ret_int (by rw [HP.out, List.take_length, HRES.out]), hB1.trans (hB.mono hB1.size)⟩
theorem tnodes_any (N : Nat) (hN : N ≤ 3000000) : ∀ (t : TT) (x : Value) (w : World), t.cnt ≤ N → t.lean = true → TIn w t x →
    Calls Try.prog 54 #[x] w fun e w' => e = .returned (.int .i64 t.nodes) ∧ Below w.heap.size w w' := by
  induction N with
  | zero => intro t x w h; have := TT.cnt_pos t; omega
  | succ N ih =>
    intro t x w hs hln hx
    have hk : t.kind = 1 ∨ t.kind = 4 ∨ t.kind = 9 ∨ (t.kind ≠ 1 ∧ t.kind ≠ 4 ∧ t.kind ≠ 9) := by omega
    rcases hk with hk | hk | hk | hk
    · exact tnodes1 N (by omega) (ih (by omega)) t x w hs hln hx hk
    · exact tnodes4 N (by omega) (ih (by omega)) t x w hs hln hx hk
    · exact tnodes9 N (by omega) (ih (by omega)) t x w hs hln hx hk
    · exact tnodesO N (by omega) (ih (by omega)) t x w hs hln hx hk
set_option maxRecDepth 100000 in
set_option maxHeartbeats 8000000 in
theorem tdeep_any (N : Nat) (hN : N ≤ 3000000) : ∀ (t : TT) (x : Value) (w : World), t.cnt ≤ N → TIn w t x →
    Calls Try.prog 83 #[x] w fun e w' => e = .returned (.int .i64 t.deep) ∧ Below w.heap.size w w' := by
  induction N with
  | zero => intro t x w h; have := TT.cnt_pos t; omega
  | succ N ih =>
    intro t x w hs hx
    have IH := Lib.hid (ih (by omega)); clear ih
    obtain ⟨k, v, vs, lo, hi, ws, p, l⟩ := t
    obtain ⟨⟨va, vc, sa, sc, wa, wc, qa, qc, pa, pc, aa, ac⟩, rfl, hok⟩ := hx
    obtain ⟨⟨hal, hsl, hwl⟩, hv, hs, hw, hp, hr⟩ := hok.parts
    simp only [TT.v, TT.vs, TT.ws, TT.p, TT.args] at hal hsl hwl hv hs hw hp hr
    simp only [TT.val, TT.kind, TT.v, TT.vs, TT.lo, TT.hi, TT.ws, TT.p, TT.args]
    obtain ⟨w0, hw0, m0, s0, R0, q0, q1, q2, q3, q4, q5, q6, q7, q8, q9, q10, q11, q12, q13, q14⟩ := box15 w (.int .u8 k) (.int .u8 v.kind) (.int .i64 v.num) (.slice va v.items.length vc) (.slice sa vs.length sc) (.int .i64 lo) (.int .i64 hi) (.slice wa ws.length wc)
      (.int .u8 p.kind) (.int .u8 p.val.kind) (.int .i64 p.val.num) (.slice qa p.val.items.length qc) (.int .i64 p.num) (.slice pa p.args.length pc) (.slice aa l.length ac) 47
    have hv0 := hv.below m0
    have hs0 := hs.below m0
    have hw0' := hw.below m0
    have hp0 := hp.below m0
    have hr0 := hr.below m0
    have hB0 := Below.refl w0.heap.size w0
    clear hok hv hs hw hp hr R0
    rw [TT.cnt] at hs
    have hlc := TT.length_le_cnts l
    have hr1 := hr0
    clear hw0' hs0 hv0 hp0 hr0
    go_enter Try.func83, Try.ntmps83
    go_wp2_with fail
    go_loopw [3, 9] (fun x y wr => ∃ (s : Int) (i : Nat), x = .int .i64 s ∧ y = .int .i64 i ∧ i ≤ l.length ∧ s = TT.deeps (l.take i) ∧ Below w0.heap.size w0 wr) (fun _ y _ => l.length - (intOf y).toNat)
    case atStart => exact ⟨0, 0, rfl, rfl, by omega, by simp [TT.deeps], Below.refl _ _⟩
    case round =>
      obtain ⟨s, i, rfl, rfl, hi, hp, hB⟩ := hrel
      have b0 := TT.deeps_le (l.take i)
      have b1 := TT.cnts_upto_le l i
      have b2 : 0 ≤ s ∧ s ≤ 3000000 := by omega
      have HP := Lib.hid hp; clear hp b0 b1
      have q14 := cell_stays hB q14
      by_cases hlt : i < l.length
      · obtain ⟨b, o, rfl, A, hcells, hiok⟩ := (hr1.below hB).get i hlt
        have hx : TIn wr l[i] (l[i].val A) := ⟨A, rfl, hiok⟩
        obtain ⟨d0, d1, d2, d3, d4, d5, d6, d7, d8, d9, d10, d11, d12, d13, d14⟩ := hcells
        clear hiok
        simp only [TT.val] at hx
        obtain ⟨w3, hw3, m3, s3, R3, r0, r1, r2, r3, r4, r5, r6, r7, r8, r9, r10, r11, r12, r13, r14⟩ := box15 wr (.int .u8 l[i].kind) (.int .u8 l[i].v.kind) (.int .i64 l[i].v.num) (.slice A.va l[i].v.items.length A.vc) (.slice A.sa l[i].vs.length A.sc) (.int .i64 l[i].lo) (.int .i64 l[i].hi) (.slice A.wa l[i].ws.length A.wc)
          (.int .u8 l[i].p.kind) (.int .u8 l[i].p.val.kind) (.int .i64 l[i].p.val.num) (.slice A.qa l[i].p.val.items.length A.qc) (.int .i64 l[i].p.num) (.slice A.pa l[i].p.args.length A.pc) (.slice A.aa l[i].args.length A.ac) 47
        have hxs := TT.cnts_get hlt
        have hdl := TT.deep_le l[i]
        have hxc : l[i].cnt ≤ N := by omega
        have hdb : l[i].deep ≤ 3000000 := by omega
        have HUP := Lib.hid (TT.deeps_upto hlt)
        clear hdl hxs
        go_wp2_with fail
        refine (IH.out l[i] _ _ hxc (hx.below m3)).mono ?_
        rintro e w2 ⟨rfl, hb2⟩
        have hB2 := hB.trans ((m3.trans (hb2.mono m3.size)).mono hB.size)
        obtain ⟨q, hq⟩ : ∃ q : Nat, q = l[i].deep := ⟨_, rfl⟩
        rw [← hq] at hdb HUP ⊢
        clear q0 q1 q2 q3 q4 q5 q6 q7 q8 q9 q10 q11 q12 q13 q14
        clear d0 d1 d2 d3 d4 d5 d6 d7 d8 d9 d10 d11 d12 d13 d14
        clear r0 r1 r2 r3 r4 r5 r6 r7 r8 r9 r10 r11 r12 r13 r14
        clear hq hx hb2 hB m3
        go_wp2_with fail
        all_goals
          go_roundw
          case rel => exact ⟨_, i + 1, rfl, by go_num, by omega, by rw [HUP.out]; have := HP.out; omega, hB2⟩
          case measure => simp [intOf]; omega
      · have hii : i = l.length := by omega
        subst hii
        have n4 : decide ((l.length : Int) < (l.length : Int)) = false := by simp
        go_wp2_with fail
        go_ret
        exact ⟨ret_int (by rw [HP.out, List.take_length, TT.deep]; go_num), m0.trans (hB.mono m0.size)⟩
end Go.Proofs.Yteebbffecaeciaa
