/- Texts of this claim laid into one: TCopy. -/
import Derived.Test.YteebbffecaeciaaM13
/- term.Copy. -/
namespace Go.Proofs.Yteebbffecaeciaa
open Go.RowKit


theorem sz' {B : Nat} {a b : World} (h : Below B a.drew b) : a.heap.size ≤ b.heap.size := h.size
theorem frT_of {f : FuncId} {args : Array Value} {w : World} {t : TT} {lo : Nat} (hlo : lo ≤ w.heap.size) (h : Calls Try.prog f args w (TCopyOf t w)) : Calls Try.prog f args w fun e w' => ∃ v, e = .returned v ∧ TFIn w' lo t v ∧ Below w.heap.size w w' :=
  h.mono fun _e _w' ⟨v, he, hf, hb⟩ => ⟨v, he, hf.less hlo, hb⟩
set_option maxRecDepth 100000 in
set_option maxHeartbeats 8000000 in
theorem tcopy_any (N : Nat) : ∀ (t : TT) (x : Value) (w : World), t.cnt ≤ N → TIn w t x → Calls Try.prog 71 #[x] w (TCopyOf t w) := by
  induction N with
  | zero => intro t x w h; have := TT.cnt_pos t; omega
  | succ N ih =>
    intro t x w hcn hx
    have IH := Lib.hid ih; clear ih
    obtain ⟨k, v, vs, lo, hi0, ws, p, l⟩ := t
    obtain ⟨⟨va, vc, sa, sc, wa, wc, qa, qc, pa, pc, aa, ac⟩, rfl, hok⟩ := hx
    obtain ⟨hlen, hv, hs, hw, hp, hr⟩ := hok.parts
    simp only [TT.v, TT.vs, TT.ws, TT.p, TT.args] at hlen hv hs hw hp hr
    simp only [TT.val, TT.kind, TT.v, TT.vs, TT.lo, TT.hi, TT.ws, TT.p, TT.args]
    obtain ⟨w0, hw0, m0, s0, R0, q0, q1, q2, q3, q4, q5, q6, q7, q8, q9, q10, q11, q12, q13, q14⟩ := box15 w (.int .u8 k) (.int .u8 v.kind) (.int .i64 v.num) (.slice va v.items.length vc) (.slice sa vs.length sc) (.int .i64 lo) (.int .i64 hi0) (.slice wa ws.length wc)
      (.int .u8 p.kind) (.int .u8 p.val.kind) (.int .i64 p.val.num) (.slice qa p.val.items.length qc) (.int .i64 p.num) (.slice pa p.args.length pc) (.slice aa l.length ac) 47
    obtain ⟨w1, hw1, m1, s1, R1, u0, u1, u2, u3, u4, u5, u6, u7, u8, u9, u10, u11, u12, u13, u14⟩ := box15 w0 (.int .u8 0) (.int .u8 0) (.int .i64 0) (.slice none 0 0) (.slice none 0 0) (.int .i64 0) (.int .i64 0) (.slice none 0 0) (.int .u8 0) (.int .u8 0) (.int .i64 0) (.slice none 0 0) (.int .i64 0) (.slice none 0 0) (.slice none 0 0) 47
    have q0 := cell_stays m1 q0
    have q1 := cell_stays m1 q1
    have q2 := cell_stays m1 q2
    have q3 := cell_stays m1 q3
    have q4 := cell_stays m1 q4
    have q5 := cell_stays m1 q5
    have q6 := cell_stays m1 q6
    have q7 := cell_stays m1 q7
    have q8 := cell_stays m1 q8
    have q9 := cell_stays m1 q9
    have q10 := cell_stays m1 q10
    have q11 := cell_stays m1 q11
    have q12 := cell_stays m1 q12
    have q13 := cell_stays m1 q13
    have q14 := cell_stays m1 q14
    have hB1 : Below w.heap.size w w1 := m0.trans (m1.mono (Nat.le_of_lt s0))
    have R0 := R0.below s0 m1
    have HLT : Hid (w.heap.size < w1.heap.size) := Lib.hid (by have := m1.size; omega)
    have HV := Lib.hid hv; have HP := Lib.hid hp; have HW := Lib.hid hw; have HVS := Lib.hid hs; have HR := Lib.hid hr; have HLEN := Lib.hid hlen
    have HB1 : Hid (Below w.heap.size w w1.drew) := Lib.hid hB1.drew; have HRR0 : Hid (RowAt w1.drew _ _ _) := Lib.hid R0; have HRR1 := Lib.hid R1; have HS := Lib.hid (And.intro s0 s1)
    have hcs : ∀ i (h : i < l.length), l[i].cnt ≤ N := fun i h => by have := TT.cnts_get h; rw [TT.cnt] at hcn; omega
    have HCS := Lib.hid hcs
    clear hok hv hs hw hp hr m0 m1 hcn hcs hB1 R0 R1 hlen s0 s1 u0 u1 u2 u3 u4 u5 u6 u7 u8 u9 u10 u11 u12 u13 u14
    go_enter Try.func71, Try.ntmps71
    go_wp2_with fail
    refine wp_region_stores w.heap.size offs1 (kindC [(7, .fixed (.pointer (some ⟨w.heap.size, 1, none⟩))), (8, .fixed (.agg #[.int .u8 v.kind, .int .i64 v.num, .slice va v.items.length vc])), (9, .prop (FrV w1.heap.size v) (FrV.ch HLT.out)), (10, .fixed (.pointer (some ⟨w.heap.size, 8, none⟩))), (11, .fixed (.agg #[.int .u8 p.kind, .int .u8 p.val.kind, .int .i64 p.val.num, .slice qa p.val.items.length qc, .int .i64 p.num, .slice pa p.args.length pc])), (12, .prop (FrP w1.heap.size p) (FrP.ch HLT.out)), (13, .fixed (.pointer (some ⟨w.heap.size, 7, none⟩))), (14, .fixed (.slice wa ws.length wc)), (15, .prop (FrW w1.heap.size ws) (FrW.ch HLT.out)), (16, .fixed (.pointer (some ⟨w.heap.size, 1, none⟩))), (17, .fixed (.pointer (some ⟨w.heap.size, 8, none⟩))), (18, .fixed (.pointer (some ⟨w.heap.size, 7, none⟩)))]) (sd1 w1.heap.size w.heap.size v p ws) 58 (by rfl) (by kernel_rfl) (by rfl) HLT.out (kindC_ch _) (sd1_ch HLT.out v p ws) ?_ ?_
    · as_aux_lemma =>
      show ∀ o ∈ [_, _, _, _, _, _, _, _, _, _, _, _, _, _, _], _
      refine (tfm ?_ (tfm ?_ (tfm ?_ (tfm ?_ (tfm ?_ (tfm ?_ (tfm ?_ (tfm ?_ (tfm ?_ (tfm ?_ (tfm ?_ (tfm ?_ (tfm ?_ (tfm ?_ (tfm ?_ tfmnil)))))))))))))))
      · intro r W hc hf hs hd hch
        have e1 : r (.tmp 1) = .pointer (some ⟨w.heap.size, 0, none⟩) := hs 1 (of_decide_eq_true (by kernel_rfl))
        exact did_value (v := .pointer (some ⟨w.heap.size, 1, none⟩)) rfl (by go_simp) rfl
      · intro r W hc hf hs hd hch
        have e7 : r (.tmp 7) = .pointer (some ⟨w.heap.size, 1, none⟩) := hd 7 (by kernel_rfl)
        have g1 := hch.at (by kernel_rfl) q1
        have g2 := hch.at (by kernel_rfl) q2
        have g3 := hch.at (by kernel_rfl) q3
        exact did_value (v := .agg #[.int .u8 v.kind, .int .i64 v.num, .slice va v.items.length vc]) rfl (by go_simp) rfl
      · intro r W hc hf hs hd hch
        have e8 : r (.tmp 8) = .agg #[.int .u8 v.kind, .int .i64 v.num, .slice va v.items.length vc] := hd 8 (by kernel_rfl)
        have hBW := HB1.out.trans hch.below
        exact did_call (f := 61) (args := #[.agg #[.int .u8 v.kind, .int .i64 v.num, .slice va v.items.length vc]]) rfl (by go_simp) (frV_of (sz' hch.below) (copy_any _ _ _ _ (Nat.le_refl _) (HV.out.below hBW)))
      · intro r W hc hf hs hd hch
        have e1 : r (.tmp 1) = .pointer (some ⟨w.heap.size, 0, none⟩) := hs 1 (of_decide_eq_true (by kernel_rfl))
        exact did_value (v := .pointer (some ⟨w.heap.size, 8, none⟩)) rfl (by go_simp) rfl
      · intro r W hc hf hs hd hch
        have e10 : r (.tmp 10) = .pointer (some ⟨w.heap.size, 8, none⟩) := hd 10 (by kernel_rfl)
        have g8 := hch.at (by kernel_rfl) q8
        have g9 := hch.at (by kernel_rfl) q9
        have g10 := hch.at (by kernel_rfl) q10
        have g11 := hch.at (by kernel_rfl) q11
        have g12 := hch.at (by kernel_rfl) q12
        have g13 := hch.at (by kernel_rfl) q13
        exact did_value (v := .agg #[.int .u8 p.kind, .int .u8 p.val.kind, .int .i64 p.val.num, .slice qa p.val.items.length qc, .int .i64 p.num, .slice pa p.args.length pc]) rfl (by go_simp) rfl
      · intro r W hc hf hs hd hch
        have e11 : r (.tmp 11) = .agg #[.int .u8 p.kind, .int .u8 p.val.kind, .int .i64 p.val.num, .slice qa p.val.items.length qc, .int .i64 p.num, .slice pa p.args.length pc] := hd 11 (by kernel_rfl)
        have hBW := HB1.out.trans hch.below
        exact did_call (f := 91) (args := #[.agg #[.int .u8 p.kind, .int .u8 p.val.kind, .int .i64 p.val.num, .slice qa p.val.items.length qc, .int .i64 p.num, .slice pa p.args.length pc]]) rfl (by go_simp) (frP_of (sz' hch.below) (pcopy_any _ _ _ _ (Nat.le_refl _) (HP.out.below hBW)))
      · intro r W hc hf hs hd hch
        have e1 : r (.tmp 1) = .pointer (some ⟨w.heap.size, 0, none⟩) := hs 1 (of_decide_eq_true (by kernel_rfl))
        exact did_value (v := .pointer (some ⟨w.heap.size, 7, none⟩)) rfl (by go_simp) rfl
      · intro r W hc hf hs hd hch
        have e13 : r (.tmp 13) = .pointer (some ⟨w.heap.size, 7, none⟩) := hd 13 (by kernel_rfl)
        have g7 := hch.at (by kernel_rfl) q7
        exact did_value (v := .slice wa ws.length wc) rfl (by go_simp) rfl
      · intro r W hc hf hs hd hch
        have e14 : r (.tmp 14) = .slice wa ws.length wc := hd 14 (by kernel_rfl)
        have hBW := HB1.out.trans hch.below
        exact did_call (f := 100) (args := #[.slice wa ws.length wc]) rfl (by go_simp) (frW_of (sz' hch.below) (HW.out.below hBW) (cloneW _ _ _ _ HLEN.out.2.2 (HW.out.below hBW).cellsAt))
      · intro r W hc hf hs hd hch
        have e1 : r (.tmp 1) = .pointer (some ⟨w.heap.size, 0, none⟩) := hs 1 (of_decide_eq_true (by kernel_rfl))
        exact did_value (v := .pointer (some ⟨w.heap.size, 1, none⟩)) rfl (by go_simp) rfl
      · intro r W hc hf hs hd hch
        have e16 : r (.tmp 16) = .pointer (some ⟨w.heap.size, 1, none⟩) := hd 16 (by kernel_rfl)
        obtain ⟨a9, c9', e9, hf9⟩ : FrV w1.heap.size v (r (.tmp 9)) W := hd 9 (by kernel_rfl)
        rw [e9] at hf9
        have hR := hch.row _ _ HRR0.out
        obtain ⟨y1, c1⟩ := hR.cell 1 (by decide)
        have z1 := hR.frozen 1
        obtain ⟨y2, c2⟩ := hR.cell 2 (by decide)
        have z2 := hR.frozen 2
        obtain ⟨y3, c3⟩ := hR.cell 3 (by decide)
        have z3 := hR.frozen 3
        have hmem : ∀ q ∈ [(1, Value.int .u8 v.kind), (2, Value.int .i64 v.num), (3, Value.slice a9 v.items.length c9')], ∃ x, W.cell? ⟨w.heap.size, q.1, none⟩ = some x := tfm ⟨_, c1⟩ (tfm ⟨_, c2⟩ (tfm ⟨_, c3⟩ (tfmnil)))
        have hset := Ch.set (B := w.heap.size) [(1, Value.int .u8 v.kind), (2, Value.int .i64 v.num), (3, Value.slice a9 v.items.length c9')] W
        refine did_store (w' := setL w.heap.size [(1, Value.int .u8 v.kind), (2, Value.int .i64 v.num), (3, Value.slice a9 v.items.length c9')] W) rfl (by go_simp <;> rfl) hset ?_
        refine ⟨a9, c9', hf9.ch HLT.out hset, ?_, ?_, ?_⟩
        · exact setL_in w.heap.size [(1, Value.int .u8 v.kind), (2, Value.int .i64 v.num), (3, Value.slice a9 v.items.length c9')] W (by simp) hmem (1, _) (by simp)
        · exact setL_in w.heap.size [(1, Value.int .u8 v.kind), (2, Value.int .i64 v.num), (3, Value.slice a9 v.items.length c9')] W (by simp) hmem (2, _) (by simp)
        · exact setL_in w.heap.size [(1, Value.int .u8 v.kind), (2, Value.int .i64 v.num), (3, Value.slice a9 v.items.length c9')] W (by simp) hmem (3, _) (by simp)
      · intro r W hc hf hs hd hch
        have e1 : r (.tmp 1) = .pointer (some ⟨w.heap.size, 0, none⟩) := hs 1 (of_decide_eq_true (by kernel_rfl))
        exact did_value (v := .pointer (some ⟨w.heap.size, 8, none⟩)) rfl (by go_simp) rfl
      · intro r W hc hf hs hd hch
        have e17 : r (.tmp 17) = .pointer (some ⟨w.heap.size, 8, none⟩) := hd 17 (by kernel_rfl)
        obtain ⟨va9, vc9, a9, c9', e12, hf9⟩ : FrP w1.heap.size p (r (.tmp 12)) W := hd 12 (by kernel_rfl)
        rw [e12] at hf9
        have hR := hch.row _ _ HRR0.out
        obtain ⟨y8, c8⟩ := hR.cell 8 (by decide)
        have z8 := hR.frozen 8
        obtain ⟨y9, c9⟩ := hR.cell 9 (by decide)
        have z9 := hR.frozen 9
        obtain ⟨y10, c10⟩ := hR.cell 10 (by decide)
        have z10 := hR.frozen 10
        obtain ⟨y11, c11⟩ := hR.cell 11 (by decide)
        have z11 := hR.frozen 11
        obtain ⟨y12, c12⟩ := hR.cell 12 (by decide)
        have z12 := hR.frozen 12
        obtain ⟨y13, c13⟩ := hR.cell 13 (by decide)
        have z13 := hR.frozen 13
        have hmem : ∀ q ∈ [(8, Value.int .u8 p.kind), (9, Value.int .u8 p.val.kind), (10, Value.int .i64 p.val.num), (11, Value.slice va9 p.val.items.length vc9), (12, Value.int .i64 p.num), (13, Value.slice a9 p.args.length c9')], ∃ x, W.cell? ⟨w.heap.size, q.1, none⟩ = some x := tfm ⟨_, c8⟩ (tfm ⟨_, c9⟩ (tfm ⟨_, c10⟩ (tfm ⟨_, c11⟩ (tfm ⟨_, c12⟩ (tfm ⟨_, c13⟩ (tfmnil))))))
        have hset := Ch.set (B := w.heap.size) [(8, Value.int .u8 p.kind), (9, Value.int .u8 p.val.kind), (10, Value.int .i64 p.val.num), (11, Value.slice va9 p.val.items.length vc9), (12, Value.int .i64 p.num), (13, Value.slice a9 p.args.length c9')] W
        refine did_store (w' := setL w.heap.size [(8, Value.int .u8 p.kind), (9, Value.int .u8 p.val.kind), (10, Value.int .i64 p.val.num), (11, Value.slice va9 p.val.items.length vc9), (12, Value.int .i64 p.num), (13, Value.slice a9 p.args.length c9')] W) rfl (by go_simp <;> rfl) hset ?_
        refine ⟨va9, vc9, a9, c9', hf9.ch HLT.out hset, ?_, ?_, ?_, ?_, ?_, ?_⟩
        · exact setL_in w.heap.size [(8, Value.int .u8 p.kind), (9, Value.int .u8 p.val.kind), (10, Value.int .i64 p.val.num), (11, Value.slice va9 p.val.items.length vc9), (12, Value.int .i64 p.num), (13, Value.slice a9 p.args.length c9')] W (by simp) hmem (8, _) (by simp)
        · exact setL_in w.heap.size [(8, Value.int .u8 p.kind), (9, Value.int .u8 p.val.kind), (10, Value.int .i64 p.val.num), (11, Value.slice va9 p.val.items.length vc9), (12, Value.int .i64 p.num), (13, Value.slice a9 p.args.length c9')] W (by simp) hmem (9, _) (by simp)
        · exact setL_in w.heap.size [(8, Value.int .u8 p.kind), (9, Value.int .u8 p.val.kind), (10, Value.int .i64 p.val.num), (11, Value.slice va9 p.val.items.length vc9), (12, Value.int .i64 p.num), (13, Value.slice a9 p.args.length c9')] W (by simp) hmem (10, _) (by simp)
        · exact setL_in w.heap.size [(8, Value.int .u8 p.kind), (9, Value.int .u8 p.val.kind), (10, Value.int .i64 p.val.num), (11, Value.slice va9 p.val.items.length vc9), (12, Value.int .i64 p.num), (13, Value.slice a9 p.args.length c9')] W (by simp) hmem (11, _) (by simp)
        · exact setL_in w.heap.size [(8, Value.int .u8 p.kind), (9, Value.int .u8 p.val.kind), (10, Value.int .i64 p.val.num), (11, Value.slice va9 p.val.items.length vc9), (12, Value.int .i64 p.num), (13, Value.slice a9 p.args.length c9')] W (by simp) hmem (12, _) (by simp)
        · exact setL_in w.heap.size [(8, Value.int .u8 p.kind), (9, Value.int .u8 p.val.kind), (10, Value.int .i64 p.val.num), (11, Value.slice va9 p.val.items.length vc9), (12, Value.int .i64 p.num), (13, Value.slice a9 p.args.length c9')] W (by simp) hmem (13, _) (by simp)
      · intro r W hc hf hs hd hch
        have e1 : r (.tmp 1) = .pointer (some ⟨w.heap.size, 0, none⟩) := hs 1 (of_decide_eq_true (by kernel_rfl))
        exact did_value (v := .pointer (some ⟨w.heap.size, 7, none⟩)) rfl (by go_simp) rfl
      · intro r W hc hf hs hd hch
        have e18 : r (.tmp 18) = .pointer (some ⟨w.heap.size, 7, none⟩) := hd 18 (by kernel_rfl)
        obtain ⟨a9, c9', e15, hf9⟩ : FrW w1.heap.size ws (r (.tmp 15)) W := hd 15 (by kernel_rfl)
        have hR := hch.row _ _ HRR0.out
        obtain ⟨y7, c7⟩ := hR.cell 7 (by decide)
        have z7 := hR.frozen 7
        have hmem : ∀ q ∈ [(7, Value.slice a9 ws.length c9')], ∃ x, W.cell? ⟨w.heap.size, q.1, none⟩ = some x := tfm ⟨_, c7⟩ (tfmnil)
        have hset := Ch.set (B := w.heap.size) [(7, Value.slice a9 ws.length c9')] W
        refine did_store (w' := setL w.heap.size [(7, Value.slice a9 ws.length c9')] W) rfl (by go_simp <;> rfl) hset ?_
        refine ⟨a9, c9', wf_ch HLT.out hf9 hset, ?_⟩
        · exact setL_in w.heap.size [(7, Value.slice a9 ws.length c9')] W (by simp) hmem (7, _) (by simp)
    intro f w2 hfd hsd hch
    obtain ⟨a1, c1, hf1, y1, y2, y3⟩ : SdV w1.heap.size w.heap.size v w2 := hsd 10 _ rfl rfl
    obtain ⟨a2, c2, a3, c3, hf2, y8, y9, y10, y11, y12, y13⟩ : SdP w1.heap.size w.heap.size p w2 := hsd 12 _ rfl rfl
    obtain ⟨a4, c4, hf3, y7⟩ : SdW w1.heap.size w.heap.size ws w2 := hsd 14 _ rfl rfl
    have p0 := hch.at (by kernel_rfl) q0
    have p4 := hch.at (by kernel_rfl) q4
    have p5 := hch.at (by kernel_rfl) q5
    have p6 := hch.at (by kernel_rfl) q6
    have p14 := hch.at (by kernel_rfl) q14
    have HB2 : Hid (Below w.heap.size w w2.drew) := Lib.hid (HB1.out.trans hch.below).drew
    have HRR2 : Hid (RowAt w2.drew _ _ _) := Lib.hid (hch.row _ _ HRR0.out)
    have HRR3 := Lib.hid (hch.rows HRR1.out)
    have HLT2 : Hid (w.heap.size < w2.heap.size) := Lib.hid (Nat.lt_of_lt_of_le HLT.out (sz' hch.below))
    have HLE := Lib.hid (sz' hch.below)
    have HF1 := Lib.hid hf1; have HF2 := Lib.hid hf2; have HF3 := Lib.hid hf3
    clear hfd hsd hf1 hf2 hf3 q0 q1 q2 q3 q4 q5 q6 q7 q8 q9 q10 q11 q12 q13 q14 hch
    rw [show dstsOf _ = [7, 8, 9, 10, 11, 12, 13, 14, 15, 16, 17, 18] from by kernel_rfl]
    simp only [fill, List.setIfInBounds_toArray, List.set_cons_succ, List.set_cons_zero]
    go_wp2_with fail
    refine wp_region_stores w.heap.size offs2 (kindC [(19, .fixed (.pointer (some ⟨w.heap.size, 4, none⟩))), (20, .fixed (.slice sa vs.length sc)), (21, .prop (ClR w2.heap.size 25 3 vs.length sa w) (ClR.ch HLT2.out)), (22, .fixed (.pointer (some ⟨w.heap.size, 14, none⟩))), (23, .fixed (.slice aa l.length ac)), (24, .prop (ClR w2.heap.size 47 15 l.length aa w) (ClR.ch HLT2.out)), (25, .fixed (.pointer (some ⟨w.heap.size, 4, none⟩))), (26, .fixed (.pointer (some ⟨w.heap.size, 14, none⟩)))]) (sd2 w2.heap.size w.heap.size vs.length l.length sa aa w) 58 (by rfl) (by kernel_rfl) (by rfl) HLT2.out (kindC_ch _) (sd2_ch HLT2.out vs.length l.length sa aa w) ?_ ?_
    · as_aux_lemma =>
      show ∀ o ∈ [_, _, _, _, _, _, _, _, _, _], _
      refine (tfm ?_ (tfm ?_ (tfm ?_ (tfm ?_ (tfm ?_ (tfm ?_ (tfm ?_ (tfm ?_ (tfm ?_ (tfm ?_ tfmnil))))))))))
      · intro r W hc hf hs hd hch
        have e1 : r (.tmp 1) = .pointer (some ⟨w.heap.size, 0, none⟩) := hs 1 (of_decide_eq_true (by kernel_rfl))
        exact did_value (v := .pointer (some ⟨w.heap.size, 4, none⟩)) rfl (by go_simp) rfl
      · intro r W hc hf hs hd hch
        have e19 : r (.tmp 19) = .pointer (some ⟨w.heap.size, 4, none⟩) := hd 19 (by kernel_rfl)
        have g4 := hch.at (by kernel_rfl) p4
        exact did_value (v := .slice sa vs.length sc) rfl (by go_simp) rfl
      · intro r W hc hf hs hd hch
        have e20 : r (.tmp 20) = .slice sa vs.length sc := hd 20 (by kernel_rfl)
        have hBW := HB2.out.trans hch.below
        exact did_call (f := 101) (args := #[.slice sa vs.length sc]) rfl (by go_simp) (clR_of (sz' hch.below) hBW (cloneV _ _ _ _ HLEN.out.2.1 (HVS.out.below hBW).cellsAt))
      · intro r W hc hf hs hd hch
        have e1 : r (.tmp 1) = .pointer (some ⟨w.heap.size, 0, none⟩) := hs 1 (of_decide_eq_true (by kernel_rfl))
        exact did_value (v := .pointer (some ⟨w.heap.size, 14, none⟩)) rfl (by go_simp) rfl
      · intro r W hc hf hs hd hch
        have e22 : r (.tmp 22) = .pointer (some ⟨w.heap.size, 14, none⟩) := hd 22 (by kernel_rfl)
        have g14 := hch.at (by kernel_rfl) p14
        exact did_value (v := .slice aa l.length ac) rfl (by go_simp) rfl
      · intro r W hc hf hs hd hch
        have e23 : r (.tmp 23) = .slice aa l.length ac := hd 23 (by kernel_rfl)
        have hBW := HB2.out.trans hch.below
        exact did_call (f := 102) (args := #[.slice aa l.length ac]) rfl (by go_simp) (clR_of (sz' hch.below) hBW (cloneT _ _ _ _ HLEN.out.1 (HR.out.below hBW).cellsAt))
      · intro r W hc hf hs hd hch
        have e1 : r (.tmp 1) = .pointer (some ⟨w.heap.size, 0, none⟩) := hs 1 (of_decide_eq_true (by kernel_rfl))
        exact did_value (v := .pointer (some ⟨w.heap.size, 4, none⟩)) rfl (by go_simp) rfl
      · intro r W hc hf hs hd hch
        have e25 : r (.tmp 25) = .pointer (some ⟨w.heap.size, 4, none⟩) := hd 25 (by kernel_rfl)
        obtain ⟨a9, c9', e21, hf9⟩ : ClR w2.heap.size 25 3 vs.length sa w (r (.tmp 21)) W := hd 21 (by kernel_rfl)
        have hR := hch.row _ _ HRR2.out
        obtain ⟨y4, c4⟩ := hR.cell 4 (by decide)
        have z4 := hR.frozen 4
        have hmem : ∀ q ∈ [(4, Value.slice a9 vs.length c9')], ∃ x, W.cell? ⟨w.heap.size, q.1, none⟩ = some x := tfm ⟨_, c4⟩ (tfmnil)
        have hset := Ch.set (B := w.heap.size) [(4, Value.slice a9 vs.length c9')] W
        refine did_store (w' := setL w.heap.size [(4, Value.slice a9 vs.length c9')] W) rfl (by go_simp <;> rfl) hset ?_
        refine ⟨_, ClR.ch HLT2.out _ _ _ _ ⟨a9, c9', rfl, hf9⟩ hset, ?_⟩
        · exact setL_in w.heap.size [(4, Value.slice a9 vs.length c9')] W (by simp) hmem (4, _) (by simp)
      · intro r W hc hf hs hd hch
        have e1 : r (.tmp 1) = .pointer (some ⟨w.heap.size, 0, none⟩) := hs 1 (of_decide_eq_true (by kernel_rfl))
        exact did_value (v := .pointer (some ⟨w.heap.size, 14, none⟩)) rfl (by go_simp) rfl
      · intro r W hc hf hs hd hch
        have e26 : r (.tmp 26) = .pointer (some ⟨w.heap.size, 14, none⟩) := hd 26 (by kernel_rfl)
        obtain ⟨a9, c9', e24, hf9⟩ : ClR w2.heap.size 47 15 l.length aa w (r (.tmp 24)) W := hd 24 (by kernel_rfl)
        have hR := hch.row _ _ HRR2.out
        obtain ⟨y14, c14⟩ := hR.cell 14 (by decide)
        have z14 := hR.frozen 14
        have hmem : ∀ q ∈ [(14, Value.slice a9 l.length c9')], ∃ x, W.cell? ⟨w.heap.size, q.1, none⟩ = some x := tfm ⟨_, c14⟩ (tfmnil)
        have hset := Ch.set (B := w.heap.size) [(14, Value.slice a9 l.length c9')] W
        refine did_store (w' := setL w.heap.size [(14, Value.slice a9 l.length c9')] W) rfl (by go_simp <;> rfl) hset ?_
        refine ⟨_, ClR.ch HLT2.out _ _ _ _ ⟨a9, c9', rfl, hf9⟩ hset, ?_⟩
        · exact setL_in w.heap.size [(14, Value.slice a9 l.length c9')] W (by simp) hmem (14, _) (by simp)
    intro f2 w3 hfd hsd hch
    obtain ⟨x4, ⟨a5, c5, rfl, hcv⟩, y4⟩ : SdC w2.heap.size w.heap.size 25 3 vs.length sa w 4 w3 := hsd 7 _ rfl rfl
    obtain ⟨x14, ⟨a6, c6, rfl, hct⟩, y14⟩ : SdC w2.heap.size w.heap.size 47 15 l.length aa w 14 w3 := hsd 9 _ rfl rfl
    have p0 := hch.at (by kernel_rfl) p0
    have y1 := hch.at (by kernel_rfl) y1
    have y2 := hch.at (by kernel_rfl) y2
    have y3 := hch.at (by kernel_rfl) y3
    have p5 := hch.at (by kernel_rfl) p5
    have p6 := hch.at (by kernel_rfl) p6
    have y7 := hch.at (by kernel_rfl) y7
    have y8 := hch.at (by kernel_rfl) y8
    have y9 := hch.at (by kernel_rfl) y9
    have y10 := hch.at (by kernel_rfl) y10
    have y11 := hch.at (by kernel_rfl) y11
    have y12 := hch.at (by kernel_rfl) y12
    have y13 := hch.at (by kernel_rfl) y13
    have HB3 : Hid (Below w.heap.size w w3) := Lib.hid (HB2.out.trans hch.below)
    have HK3 := Lib.hid (fun k (hk : k < w2.heap.size) (hne : k ≠ w.heap.size) => hch.block k hk hne)
    have HRR2 := Lib.hid (hch.row _ _ HRR2.out)
    have HRR3 := Lib.hid (hch.rows HRR3.out)
    have HLT3 : Hid (w2.heap.size ≤ w3.heap.size) := Lib.hid (sz' hch.below)
    have HCV := Lib.hid hcv; have HCT := Lib.hid hct
    clear hfd hsd hcv hct hch p4 p14
    rw [show dstsOf _ = [19, 20, 21, 22, 23, 24, 25, 26] from by kernel_rfl]
    simp only [fill, List.setIfInBounds_toArray, List.set_cons_succ, List.set_cons_zero]
    go_wp2_with fail
    have HOLD : Hid (LoopRowOld 25 vs.length a5 w3) := Lib.hid (HCV.out.imp id fun ⟨B, e1, _, e3, _⟩ => ⟨B, _, e1, e3⟩)
    go_loopw [30] (fun x wr => ∃ i : Nat, x = .int .i64 i ∧ i ≤ vs.length ∧ LoopG 25 3 vs.length (EV w3.heap.size vs) a5 c5 w2.heap.size w3 wr i) (fun x _ => vs.length - (intOf x).toNat)
    case atStart => exact ⟨0, rfl, by omega, LoopG.start (Nat.le_refl _) HCV.out⟩
    case round =>
      obtain ⟨i, rfl, hi, hrel⟩ := hrel
      by_cases hlt : i < vs.length
      · as_aux_lemma =>
        have HI := Lib.hid hlt
        obtain ⟨b, o, rfl, ax, cx, d0, d1, d2, hx⟩ := HVS.out.got i hlt
        obtain ⟨B, rfl, hlo, hltB, hrow, hn, hdone, hrest⟩ := hrel.row.resolve_left (by omega)
        obtain ⟨B', eB, _, _, _, hcc⟩ := HCV.out.resolve_left (by omega)
        cases eB
        have e0 := hrest _ _ (by omega) (by omega) (hcc b o (i * 3) _ rfl (by omega) d0)
        have e1 := hrest _ _ (by omega) (by omega) (hcc b o (i * 3 + 1) _ rfl (by omega) d1)
        have e2 := hrest _ _ (by omega) (by omega) (hcc b o (i * 3 + 2) _ rfl (by omega) d2)
        have y4r := hrel.old HLT2.out y4
        obtain ⟨w4, hw4, m4, s4, r0, r1, r2, _⟩ := box3 wr (.int .u8 vs[i].kind) (.int .i64 vs[i].num) (.slice ax vs[i].items.length cx) 25
        have hbr : Below w.heap.size w wr := HB3.out.trans (hrel.below.mono (Nat.le_of_lt HLT2.out))
        have HX := Lib.hid ((hx.below hbr).below m4)
        have Y4 := Lib.hid (cell_stays m4 y4r); have C0 := Lib.hid r0; have C1 := Lib.hid r1; have C2 := Lib.hid r2
        have HBV := Lib.hid (fun W (h : Below w4.drew.heap.size w4.drew W) => (Below.refl _ w4).drew.trans h)
        have HREL := Lib.hid hrel; have HROW := Lib.hid hrow; have HM4 := Lib.hid (And.intro m4 s4); have HN := Lib.hid hn; have HBB := Lib.hid hltB
        clear d0 d1 d2 hx hcc hrest hdone hrow hlo hltB hbr hn hrel y4r
        go_wp2_with fail
        change Code.wp _ _ _ _ (wr.alloc (.cells #[.int .u8 vs[i].kind, .int .i64 vs[i].num, .slice ax vs[i].items.length cx] 25))
        rw [hw4]
        clear e0 e1 e2 r0 r1 r2
        refine wp_region_part [] (kindT [(35, .fixed (.pointer (some ⟨w.heap.size, 4, none⟩))), (36, .fixed (.slice (some ⟨B, 0, none⟩) vs.length c5)), (37, .fixed (.int .i64 i)), (38, .fixed (.agg #[.int .u8 vs[i].kind, .int .i64 vs[i].num, .slice ax vs[i].items.length cx])), (39, .prop (FrV w4.heap.size vs[i]) (FrV.mono _ _)), (40, .fixed (.pointer (some ⟨B, i * 3, none⟩)))]) 6 58 (by kernel_rfl) (by kernel_rfl) (by rfl) (by decide) (fun _ h => by cases h) (kindT_mono _) ?_ ?_
        · as_aux_lemma =>
          show ∀ o ∈ [_, _, _, _, _, _], _
          refine (tfm ?_ (tfm ?_ (tfm ?_ (tfm ?_ (tfm ?_ (tfm ?_ tfmnil))))))
          · intro r W hc hf hs hd hB
            have hBV := HBV.out W hB
            refine want_n rfl ?_
            have e1 : r (.tmp 1) = .pointer (some ⟨w.heap.size, 0, none⟩) := hs 1 (of_decide_eq_true (by kernel_rfl))
            exact st_value (v := .pointer (some ⟨w.heap.size, 4, none⟩)) rfl (by decide) (by go_simp) rfl
          · intro r W hc hf hs hd hB
            have hBV := HBV.out W hB
            refine want_n rfl ?_
            have e35 : r (.tmp 35) = .pointer (some ⟨w.heap.size, 4, none⟩) := hd 35 (by kernel_rfl)
            have g4 := cell_stays hBV Y4.out
            exact st_value (v := .slice (some ⟨B, 0, none⟩) vs.length c5) rfl (by decide) (by go_simp) rfl
          · intro r W hc hf hs hd hB
            have hBV := HBV.out W hB
            refine want_n rfl ?_
            have e3 : r (.tmp 3) = .int .i64 i := hs 3 (of_decide_eq_true (by kernel_rfl))
            exact st_value (v := .int .i64 i) rfl (by decide) (by go_simp) rfl
          · intro r W hc hf hs hd hB
            have hBV := HBV.out W hB
            refine want_n rfl ?_
            have e4 : r (.tmp 4) = .pointer (some ⟨wr.heap.size, 0, none⟩) := hs 4 (of_decide_eq_true (by kernel_rfl))
            have g0 := cell_stays hBV C0.out
            have g1 := cell_stays hBV C1.out
            have g2 := cell_stays hBV C2.out
            exact st_value (v := .agg #[.int .u8 vs[i].kind, .int .i64 vs[i].num, .slice ax vs[i].items.length cx]) rfl (by decide) (by go_simp) rfl
          · intro r W hc hf hs hd hB
            have hBV := HBV.out W hB
            refine want_n rfl ?_
            have e38 : r (.tmp 38) = .agg #[.int .u8 vs[i].kind, .int .i64 vs[i].num, .slice ax vs[i].items.length cx] := hd 38 (by kernel_rfl)
            exact st_call (f := 61) (args := #[.agg #[.int .u8 vs[i].kind, .int .i64 vs[i].num, .slice ax vs[i].items.length cx]]) rfl (by decide) (by go_simp) (frV_of hBV.size (copy_any _ _ _ _ (Nat.le_refl _) (HX.out.below hBV)))
          · intro r W hc hf hs hd hB
            have hBV := HBV.out W hB
            refine want_n rfl ?_
            have e36 : r (.tmp 36) = .slice (some ⟨B, 0, none⟩) vs.length c5 := hd 36 (by kernel_rfl)
            have e37 : r (.tmp 37) = .int .i64 i := hd 37 (by kernel_rfl)
            exact st_value (v := .pointer (some ⟨B, i * 3, none⟩)) rfl (by decide) (by go_simp) rfl
        intro f w5 fuel hfuel hfd _ hB'
        have z39 : FrV w4.heap.size vs[i] (f 39) w5 := hfd 39 (of_decide_eq_true (by kernel_rfl))
        have z40 : f 40 = .pointer (some ⟨B, i * 3, none⟩) := hfd 40 (of_decide_eq_true (by kernel_rfl))
        obtain ⟨ay, cy, z39, hfv⟩ := z39
        rw [z39] at hfv
        have hB1 := HBV.out w5 hB'
        have hbw : Below wr.heap.size wr w5 := HM4.out.1.trans (hB1.mono (Nat.le_of_lt HM4.out.2))
        have hrow5 := HROW.out.below HROW.out.lt hbw
        obtain ⟨u0, c0⟩ := hrow5.cell (i * 3) (by have := HN.out; omega)
        obtain ⟨u1, c1⟩ := hrow5.cell (i * 3 + 1) (by have := HN.out; omega)
        obtain ⟨u2, c2⟩ := hrow5.cell (i * 3 + 2) (by have := HN.out; omega)
        have g0 := hrow5.frozen (i * 3)
        have g1 := hrow5.frozen (i * 3 + 1)
        have g2 := hrow5.frozen (i * 3 + 2)
        have hsz := HREL.out.below.size
        have HSTEP := Lib.hid (HREL.out.step (EV.keeps _ _) hlt hbw [(i * 3, Value.int .u8 vs[i].kind), (i * 3 + 1, Value.int .i64 vs[i].num), (i * 3 + 2, Value.slice ay vs[i].items.length cy)] (by simp) (EV.new hlt (by have := HN.out; omega) hrow5 HBB.out (hfv.less (by have := HM4.out.2; omega))))
        obtain ⟨fuel, rfl⟩ : ∃ k, fuel = k + 1 := ⟨fuel - 1, by have h2 : 1 ≤ fuel := hfuel; omega⟩
        rw [show dstsTo 6 _ = [35, 36, 37, 38, 39, 40] from by kernel_rfl]
        simp only [fill, List.setIfInBounds_toArray, List.set_cons_succ, List.set_cons_zero, z39, z40]
        clear z39 z40 hfd hfuel hfv hB' hB1 hbw hsz
        refine wpAny_next (i := 6) (by kernel_rfl) (by rfl) rfl (wp_skip (w' := setL B [(i * 3, Value.int .u8 vs[i].kind), (i * 3 + 1, Value.int .i64 vs[i].num), (i * 3 + 2, Value.slice ay vs[i].items.length cy)] w5) (by go_simp <;> rfl) rfl ?_)
        refine wpAny_done (by kernel_rfl) ?_ _
        generalize setL B _ w5 = w6 at HSTEP ⊢
        have hl := HLEN.out.2.1
        clear g0 g1 g2 c0 c1 c2 hrow5
        go_wp2_with fail
        exact ⟨⟨i + 1, by go_num, by have := HI.out; omega, HSTEP.out⟩, by simp [intOf]; have := HI.out; omega⟩
      · as_aux_lemma =>
        have y14r := hrel.old HLT2.out y14
        go_wp2_with fail
        have hb4 : Below w.heap.size w wr := HB3.out.trans (hrel.below.mono (Nat.le_of_lt HLT2.out))
        have hie : i = vs.length := by omega
        have HROWV := Lib.hid hrel; have HEQ := Lib.hid hie
        have HCT4 : Hid (l.length = 0 ∨ ∃ B, a6 = some ⟨B, 0, none⟩ ∧ w2.heap.size ≤ B ∧ RowAt wr 47 B (c6 * 15) ∧ l.length ≤ c6 ∧ ∀ b o j u, aa = some ⟨b, o, none⟩ → j < l.length * 15 → w.cell? ⟨b, o + j, none⟩ = some u → wr.cell? ⟨B, j, none⟩ = some u) :=
          Lib.hid (HCT.out.imp id fun ⟨B, e1, e2, e3, e4, e5⟩ => ⟨B, e1, e2, hrel.otherRow (by decide) HOLD.out e3, e4, fun b o j u f1 f2 f3 => hrel.otherCell (by decide) HOLD.out e3 (e5 b o j u f1 f2 f3)⟩)
        have HC3 : Hid (l.length = 0 ∨ ∃ B, a6 = some ⟨B, 0, none⟩ ∧ w2.heap.size ≤ B ∧ B < w3.heap.size ∧ RowAt wr 47 B (c6 * 15)) := Lib.hid (HCT.out.imp id fun ⟨B, e1, e2, e3, _⟩ => ⟨B, e1, e2, e3.lt, hrel.otherRow (by decide) HOLD.out e3⟩)
        obtain ⟨wb, rfl⟩ : ∃ wb, wb = wr := ⟨wr, rfl⟩
        have HB4 := Lib.hid hb4
        clear hrel hb4 hie
        have y14 := y14r
        clear y14r
        go_loopw [45] (fun x wr => ∃ i : Nat, x = .int .i64 i ∧ i ≤ l.length ∧ LoopG 47 15 l.length (ET wb.heap.size l) a6 c6 w2.heap.size wb wr i) (fun x _ => l.length - (intOf x).toNat)
        case atStart => exact ⟨0, rfl, by omega, LoopG.start (Nat.le_refl _) HCT4.out⟩
        case round =>
          obtain ⟨i, rfl, hi, hrel⟩ := hrel
          by_cases hlt : i < l.length
          · as_aux_lemma =>
            have HI := Lib.hid hlt
            obtain ⟨b, o, rfl, X, hcl, hx⟩ := HR.out.get i hlt
            obtain ⟨B, rfl, hlo, hltB, hrow, hn, hdone, hrest⟩ := hrel.row.resolve_left (by omega)
            obtain ⟨B', eB, _, _, _, hcc⟩ := HCT4.out.resolve_left (by omega)
            cases eB
            obtain ⟨d0, d1, d2, d3, d4, d5, d6, d7, d8, d9, d10, d11, d12, d13, d14⟩ := hcl
            have e0 := hrest _ _ (by omega) (by omega) (hcc b o (i * 15 + 0) _ rfl (by omega) d0)
            have e1 := hrest _ _ (by omega) (by omega) (hcc b o (i * 15 + 1) _ rfl (by omega) d1)
            have e2 := hrest _ _ (by omega) (by omega) (hcc b o (i * 15 + 2) _ rfl (by omega) d2)
            have e3 := hrest _ _ (by omega) (by omega) (hcc b o (i * 15 + 3) _ rfl (by omega) d3)
            have e4 := hrest _ _ (by omega) (by omega) (hcc b o (i * 15 + 4) _ rfl (by omega) d4)
            have e5 := hrest _ _ (by omega) (by omega) (hcc b o (i * 15 + 5) _ rfl (by omega) d5)
            have e6 := hrest _ _ (by omega) (by omega) (hcc b o (i * 15 + 6) _ rfl (by omega) d6)
            have e7 := hrest _ _ (by omega) (by omega) (hcc b o (i * 15 + 7) _ rfl (by omega) d7)
            have e8 := hrest _ _ (by omega) (by omega) (hcc b o (i * 15 + 8) _ rfl (by omega) d8)
            have e9 := hrest _ _ (by omega) (by omega) (hcc b o (i * 15 + 9) _ rfl (by omega) d9)
            have e10 := hrest _ _ (by omega) (by omega) (hcc b o (i * 15 + 10) _ rfl (by omega) d10)
            have e11 := hrest _ _ (by omega) (by omega) (hcc b o (i * 15 + 11) _ rfl (by omega) d11)
            have e12 := hrest _ _ (by omega) (by omega) (hcc b o (i * 15 + 12) _ rfl (by omega) d12)
            have e13 := hrest _ _ (by omega) (by omega) (hcc b o (i * 15 + 13) _ rfl (by omega) d13)
            have e14 := hrest _ _ (by omega) (by omega) (hcc b o (i * 15 + 14) _ rfl (by omega) d14)
            rw [Nat.add_zero] at e0
            have y14r := hrel.old HLT2.out y14
            obtain ⟨w4, hw4, m4, s4, _, r0, r1, r2, r3, r4, r5, r6, r7, r8, r9, r10, r11, r12, r13, r14⟩ := box15 wr (.int .u8 l[i].kind) (.int .u8 l[i].v.kind) (.int .i64 l[i].v.num) (.slice X.va l[i].v.items.length X.vc) (.slice X.sa l[i].vs.length X.sc) (.int .i64 l[i].lo) (.int .i64 l[i].hi) (.slice X.wa l[i].ws.length X.wc) (.int .u8 l[i].p.kind) (.int .u8 l[i].p.val.kind) (.int .i64 l[i].p.val.num) (.slice X.qa l[i].p.val.items.length X.qc) (.int .i64 l[i].p.num) (.slice X.pa l[i].p.args.length X.pc) (.slice X.aa l[i].args.length X.ac) 47
            have hbr : Below w.heap.size w wr := HB4.out.trans (hrel.below.mono (Nat.le_of_lt HLT2.out))
            have HX : Hid (TIn w4 l[i] (.agg #[.int .u8 l[i].kind, .int .u8 l[i].v.kind, .int .i64 l[i].v.num, .slice X.va l[i].v.items.length X.vc, .slice X.sa l[i].vs.length X.sc, .int .i64 l[i].lo, .int .i64 l[i].hi, .slice X.wa l[i].ws.length X.wc, .int .u8 l[i].p.kind, .int .u8 l[i].p.val.kind, .int .i64 l[i].p.val.num, .slice X.qa l[i].p.val.items.length X.qc, .int .i64 l[i].p.num, .slice X.pa l[i].p.args.length X.pc, .slice X.aa l[i].args.length X.ac])) := Lib.hid ⟨X, rfl, (hx.below hbr).below m4⟩
            have Y14 := Lib.hid (cell_stays m4 y14r); have RC := Lib.hid (And.intro r0 (And.intro r1 (And.intro r2 (And.intro r3 (And.intro r4 (And.intro r5 (And.intro r6 (And.intro r7 (And.intro r8 (And.intro r9 (And.intro r10 (And.intro r11 (And.intro r12 (And.intro r13 r14))))))))))))))
            have HBV := Lib.hid (fun W (h : Below w4.drew.heap.size w4.drew W) => (Below.refl _ w4).drew.trans h)
            have HREL := Lib.hid hrel; have HROW := Lib.hid hrow; have HM4 := Lib.hid (And.intro m4 s4); have HN := Lib.hid hn; have HBB := Lib.hid hltB
            have hl := HLEN.out.1
            clear d0 d1 d2 d3 d4 d5 d6 d7 d8 d9 d10 d11 d12 d13 d14 hx hcc hrest hdone hrow hlo hltB hbr hn hrel y14r
            go_wp2_with fail
            change Code.wp _ _ _ _ (wr.alloc (.cells #[.int .u8 l[i].kind, .int .u8 l[i].v.kind, .int .i64 l[i].v.num, .slice X.va l[i].v.items.length X.vc, .slice X.sa l[i].vs.length X.sc, .int .i64 l[i].lo, .int .i64 l[i].hi, .slice X.wa l[i].ws.length X.wc, .int .u8 l[i].p.kind, .int .u8 l[i].p.val.kind, .int .i64 l[i].p.val.num, .slice X.qa l[i].p.val.items.length X.qc, .int .i64 l[i].p.num, .slice X.pa l[i].p.args.length X.pc, .slice X.aa l[i].args.length X.ac] 47))
            rw [hw4]
            clear e0 r0 e1 r1 e2 r2 e3 r3 e4 r4 e5 r5 e6 r6 e7 r7 e8 r8 e9 r9 e10 r10 e11 r11 e12 r12 e13 r13 e14 r14
            refine wp_region_part [] (kindT [(50, .fixed (.pointer (some ⟨w.heap.size, 14, none⟩))), (51, .fixed (.slice (some ⟨B, 0, none⟩) l.length c6)), (52, .fixed (.int .i64 i)), (53, .fixed (.agg #[.int .u8 l[i].kind, .int .u8 l[i].v.kind, .int .i64 l[i].v.num, .slice X.va l[i].v.items.length X.vc, .slice X.sa l[i].vs.length X.sc, .int .i64 l[i].lo, .int .i64 l[i].hi, .slice X.wa l[i].ws.length X.wc, .int .u8 l[i].p.kind, .int .u8 l[i].p.val.kind, .int .i64 l[i].p.val.num, .slice X.qa l[i].p.val.items.length X.qc, .int .i64 l[i].p.num, .slice X.pa l[i].p.args.length X.pc, .slice X.aa l[i].args.length X.ac])), (54, .prop (fun x w => TFIn w w4.heap.size l[i] x) (fun _ _ _ h hb => h.below hb)), (55, .fixed (.pointer (some ⟨B, i * 15, none⟩)))]) 6 58 (by kernel_rfl) (by kernel_rfl) (by rfl) (by decide) (fun _ h => by cases h) (kindT_mono _) ?_ ?_
            · as_aux_lemma =>
              show ∀ o ∈ [_, _, _, _, _, _], _
              refine (tfm ?_ (tfm ?_ (tfm ?_ (tfm ?_ (tfm ?_ (tfm ?_ tfmnil))))))
              · intro r W hc hf hs hd hB
                have hBV := HBV.out W hB
                refine want_n rfl ?_
                have e1 : r (.tmp 1) = .pointer (some ⟨w.heap.size, 0, none⟩) := hs 1 (of_decide_eq_true (by kernel_rfl))
                exact st_value (v := .pointer (some ⟨w.heap.size, 14, none⟩)) rfl (by decide) (by go_simp) rfl
              · intro r W hc hf hs hd hB
                have hBV := HBV.out W hB
                refine want_n rfl ?_
                have e50 : r (.tmp 50) = .pointer (some ⟨w.heap.size, 14, none⟩) := hd 50 (by kernel_rfl)
                have g4 := cell_stays hBV Y14.out
                exact st_value (v := .slice (some ⟨B, 0, none⟩) l.length c6) rfl (by decide) (by go_simp) rfl
              · intro r W hc hf hs hd hB
                have hBV := HBV.out W hB
                refine want_n rfl ?_
                have e5 : r (.tmp 5) = .int .i64 i := hs 5 (of_decide_eq_true (by kernel_rfl))
                exact st_value (v := .int .i64 i) rfl (by decide) (by go_simp) rfl
              · intro r W hc hf hs hd hB
                have hBV := HBV.out W hB
                refine want_n rfl ?_
                have e6 : r (.tmp 6) = .pointer (some ⟨wr.heap.size, 0, none⟩) := hs 6 (of_decide_eq_true (by kernel_rfl))
                obtain ⟨r0, r1, r2, r3, r4, r5, r6, r7, r8, r9, r10, r11, r12, r13, r14⟩ := RC.out
                have g0 := cell_stays hBV r0
                have g1 := cell_stays hBV r1
                have g2 := cell_stays hBV r2
                have g3 := cell_stays hBV r3
                have g4 := cell_stays hBV r4
                have g5 := cell_stays hBV r5
                have g6 := cell_stays hBV r6
                have g7 := cell_stays hBV r7
                have g8 := cell_stays hBV r8
                have g9 := cell_stays hBV r9
                have g10 := cell_stays hBV r10
                have g11 := cell_stays hBV r11
                have g12 := cell_stays hBV r12
                have g13 := cell_stays hBV r13
                have g14 := cell_stays hBV r14
                exact st_value (v := .agg #[.int .u8 l[i].kind, .int .u8 l[i].v.kind, .int .i64 l[i].v.num, .slice X.va l[i].v.items.length X.vc, .slice X.sa l[i].vs.length X.sc, .int .i64 l[i].lo, .int .i64 l[i].hi, .slice X.wa l[i].ws.length X.wc, .int .u8 l[i].p.kind, .int .u8 l[i].p.val.kind, .int .i64 l[i].p.val.num, .slice X.qa l[i].p.val.items.length X.qc, .int .i64 l[i].p.num, .slice X.pa l[i].p.args.length X.pc, .slice X.aa l[i].args.length X.ac]) rfl (by decide) (by go_simp) rfl
              · intro r W hc hf hs hd hB
                have hBV := HBV.out W hB
                refine want_n rfl ?_
                have e53 : r (.tmp 53) = .agg #[.int .u8 l[i].kind, .int .u8 l[i].v.kind, .int .i64 l[i].v.num, .slice X.va l[i].v.items.length X.vc, .slice X.sa l[i].vs.length X.sc, .int .i64 l[i].lo, .int .i64 l[i].hi, .slice X.wa l[i].ws.length X.wc, .int .u8 l[i].p.kind, .int .u8 l[i].p.val.kind, .int .i64 l[i].p.val.num, .slice X.qa l[i].p.val.items.length X.qc, .int .i64 l[i].p.num, .slice X.pa l[i].p.args.length X.pc, .slice X.aa l[i].args.length X.ac] := hd 53 (by kernel_rfl)
                exact st_call (f := 71) (args := #[.agg #[.int .u8 l[i].kind, .int .u8 l[i].v.kind, .int .i64 l[i].v.num, .slice X.va l[i].v.items.length X.vc, .slice X.sa l[i].vs.length X.sc, .int .i64 l[i].lo, .int .i64 l[i].hi, .slice X.wa l[i].ws.length X.wc, .int .u8 l[i].p.kind, .int .u8 l[i].p.val.kind, .int .i64 l[i].p.val.num, .slice X.qa l[i].p.val.items.length X.qc, .int .i64 l[i].p.num, .slice X.pa l[i].p.args.length X.pc, .slice X.aa l[i].args.length X.ac]]) rfl (by decide) (by go_simp) (frT_of hBV.size (IH.out l[i] _ _ (HCS.out i HI.out) (HX.out.below hBV)))
              · intro r W hc hf hs hd hB
                have hBV := HBV.out W hB
                refine want_n rfl ?_
                have e51 : r (.tmp 51) = .slice (some ⟨B, 0, none⟩) l.length c6 := hd 51 (by kernel_rfl)
                have e52 : r (.tmp 52) = .int .i64 i := hd 52 (by kernel_rfl)
                exact st_value (v := .pointer (some ⟨B, i * 15, none⟩)) rfl (by decide) (by go_simp) rfl
            intro f w5 fuel hfuel hfd _ hB'
            have z54 : TFIn w5 w4.heap.size l[i] (f 54) := hfd 54 (of_decide_eq_true (by kernel_rfl))
            have z55 : f 55 = .pointer (some ⟨B, i * 15, none⟩) := hfd 55 (of_decide_eq_true (by kernel_rfl))
            obtain ⟨Y, z54, hfv⟩ := z54
            replace z54 : f 54 = .agg #[.int .u8 l[i].kind, .int .u8 l[i].v.kind, .int .i64 l[i].v.num, .slice Y.va l[i].v.items.length Y.vc, .slice Y.sa l[i].vs.length Y.sc, .int .i64 l[i].lo, .int .i64 l[i].hi, .slice Y.wa l[i].ws.length Y.wc, .int .u8 l[i].p.kind, .int .u8 l[i].p.val.kind, .int .i64 l[i].p.val.num, .slice Y.qa l[i].p.val.items.length Y.qc, .int .i64 l[i].p.num, .slice Y.pa l[i].p.args.length Y.pc, .slice Y.aa l[i].args.length Y.ac] := z54
            have hB1 := HBV.out w5 hB'
            have hbw : Below wr.heap.size wr w5 := HM4.out.1.trans (hB1.mono (Nat.le_of_lt HM4.out.2))
            have hrow5 := HROW.out.below HROW.out.lt hbw
            have hnn := HN.out
            obtain ⟨u0, c0⟩ := hrow5.cell (i * 15 + 0) (by omega)
            obtain ⟨u1, c1⟩ := hrow5.cell (i * 15 + 1) (by omega)
            obtain ⟨u2, c2⟩ := hrow5.cell (i * 15 + 2) (by omega)
            obtain ⟨u3, c3⟩ := hrow5.cell (i * 15 + 3) (by omega)
            obtain ⟨u4, c4⟩ := hrow5.cell (i * 15 + 4) (by omega)
            obtain ⟨u5, c5⟩ := hrow5.cell (i * 15 + 5) (by omega)
            obtain ⟨u6, c6⟩ := hrow5.cell (i * 15 + 6) (by omega)
            obtain ⟨u7, c7⟩ := hrow5.cell (i * 15 + 7) (by omega)
            obtain ⟨u8, c8⟩ := hrow5.cell (i * 15 + 8) (by omega)
            obtain ⟨u9, c9⟩ := hrow5.cell (i * 15 + 9) (by omega)
            obtain ⟨u10, c10⟩ := hrow5.cell (i * 15 + 10) (by omega)
            obtain ⟨u11, c11⟩ := hrow5.cell (i * 15 + 11) (by omega)
            obtain ⟨u12, c12⟩ := hrow5.cell (i * 15 + 12) (by omega)
            obtain ⟨u13, c13⟩ := hrow5.cell (i * 15 + 13) (by omega)
            obtain ⟨u14, c14⟩ := hrow5.cell (i * 15 + 14) (by omega)
            have g0 := hrow5.frozen (i * 15 + 0)
            have g1 := hrow5.frozen (i * 15 + 1)
            have g2 := hrow5.frozen (i * 15 + 2)
            have g3 := hrow5.frozen (i * 15 + 3)
            have g4 := hrow5.frozen (i * 15 + 4)
            have g5 := hrow5.frozen (i * 15 + 5)
            have g6 := hrow5.frozen (i * 15 + 6)
            have g7 := hrow5.frozen (i * 15 + 7)
            have g8 := hrow5.frozen (i * 15 + 8)
            have g9 := hrow5.frozen (i * 15 + 9)
            have g10 := hrow5.frozen (i * 15 + 10)
            have g11 := hrow5.frozen (i * 15 + 11)
            have g12 := hrow5.frozen (i * 15 + 12)
            have g13 := hrow5.frozen (i * 15 + 13)
            have g14 := hrow5.frozen (i * 15 + 14)
            rw [Nat.add_zero] at c0 g0
            have hsz := HREL.out.below.size
            have HROW5 := Lib.hid hrow5
            have HSTEP := Lib.hid (HREL.out.step (ET.keeps _ _) hlt hbw (cellsT (i * 15) l[i] Y) (cellsT_off _ _ _) (ET.new hlt (by omega) hrow5 HBB.out (hfv.less (by have := HM4.out.2; omega))))
            obtain ⟨fuel, rfl⟩ : ∃ k, fuel = k + 1 := ⟨fuel - 1, by have h2 : 1 ≤ fuel := hfuel; omega⟩
            rw [show dstsTo 6 _ = [50, 51, 52, 53, 54, 55] from by kernel_rfl]
            simp only [fill, List.setIfInBounds_toArray, List.set_cons_succ, List.set_cons_zero, z54, z55]
            clear z54 z55 hfd hfuel hfv hB' hB1 hbw hsz
            refine wpAny_next (i := 6) (by kernel_rfl) (by rfl) rfl (wp_skip (w' := setL B (cellsT (i * 15) l[i] Y) w5) (run_store15 HROW5.out (by have := HN.out; omega) rfl rfl rfl) rfl ?_)
            refine wpAny_done (by kernel_rfl) ?_ _
            generalize setL B _ w5 = w6 at HSTEP ⊢
            clear g0 c0 g1 c1 g2 c2 g3 c3 g4 c4 g5 c5 g6 c6 g7 c7 g8 c8 g9 c9 g10 c10 g11 c11 g12 c12 g13 c13 g14 c14 hrow5
            go_wp2_with fail
            exact ⟨⟨i + 1, by go_num, by have := HI.out; omega, HSTEP.out⟩, by simp [intOf]; have := HI.out; omega⟩
          · as_aux_lemma =>
            have hie : i = l.length := by omega
            subst hie
            have HRELT := Lib.hid hrel
            have k0 := hrel.old HLT2.out (HROWV.out.old HLT2.out p0)
            have k1 := hrel.old HLT2.out (HROWV.out.old HLT2.out y1)
            have k2 := hrel.old HLT2.out (HROWV.out.old HLT2.out y2)
            have k3 := hrel.old HLT2.out (HROWV.out.old HLT2.out y3)
            have k4 := hrel.old HLT2.out (HROWV.out.old HLT2.out y4)
            have k5 := hrel.old HLT2.out (HROWV.out.old HLT2.out p5)
            have k6 := hrel.old HLT2.out (HROWV.out.old HLT2.out p6)
            have k7 := hrel.old HLT2.out (HROWV.out.old HLT2.out y7)
            have k8 := hrel.old HLT2.out (HROWV.out.old HLT2.out y8)
            have k9 := hrel.old HLT2.out (HROWV.out.old HLT2.out y9)
            have k10 := hrel.old HLT2.out (HROWV.out.old HLT2.out y10)
            have k11 := hrel.old HLT2.out (HROWV.out.old HLT2.out y11)
            have k12 := hrel.old HLT2.out (HROWV.out.old HLT2.out y12)
            have k13 := hrel.old HLT2.out (HROWV.out.old HLT2.out y13)
            have k14 := hrel.old HLT2.out y14
            have hw0 := HS.out; have hle := HLE.out
            have hrow3 := HRR3.out
            have hrow4 := HROWV.out.oldRow (by omega) hrow3
            have hrow5 := hrel.oldRow (by omega) hrow4
            have HROW5 := Lib.hid hrow5
            have HTH := Lib.hid (hrow5.there (q := 0) (m := 15) (by decide))
            have HIN : Hid ((Try.prog.info? 47).map (·.size) = some 15) := Lib.hid (by
              obtain ⟨i0, hi, hz0, hz1, hz2⟩ := info_parts zeroT
              rw [hi, Option.map_some, hz1])
            clear hrel hrow3 hrow4 hrow5 p0 y1 y2 y3 y4 p5 p6 y7 y8 y9 y10 y11 y12 y13 y14 hw0 hle
            go_wp2_with (refine wpList_store_mid rfl 47 _ _ rfl w0.heap.size 0 _ rfl rfl HTH.out HIN.out (by simp [Value.oneCell']) ?_)
            have hS := HS.out
            obtain ⟨wE, hwE, hpost, hbe, hcells⟩ := copy_end (k := k) (lo := lo) (hi0 := hi0) (T := 47) (by decide) ⟨hS.1, hS.2, HLE.out, HLT3.out, HROWV.out.below.size, HRELT.out.below.size, HK3.out⟩ HLEN.out HF1.out HF2.out HF3.out (HEQ.out ▸ HROWV.out) HRELT.out HC3.out HROW5.out HB4.out
            have HPOST := Lib.hid hpost; have HBE := Lib.hid hbe
            obtain ⟨z0, z1, z2, z3, z4, z5, z6, z7, z8, z9, z10, z11, z12, z13, z14⟩ := hcells
            simp only [TT.kind, TT.v, TT.vs, TT.lo, TT.hi, TT.ws, TT.p, TT.args, Nat.zero_add] at z0 z1 z2 z3 z4 z5 z6 z7 z8 z9 z10 z11 z12 z13 z14
            have HW := Lib.hid hwE
            clear hpost hbe hwE
            with_reducible show bodyPost _ _ _ _ _ _
            rw [show World.setCells wr w0.heap.size 0 _ = wE from HW.out]
            refine bodyPost_ret (v := (TT.mk k v vs lo hi0 ws p l).val ⟨a1, c1, a5, c5, a4, c4, a2, c2, a3, c3, a6, c6⟩) ?_ rfl ⟨_, rfl, ⟨_, rfl, HPOST.out⟩, HBE.out⟩
            clear HPOST HBE HW
            simp only [results, Try.results71, TT.val, TT.kind, TT.v, TT.vs, TT.lo, TT.hi, TT.ws, TT.p, TT.args]
            simp [go_sem, z0, z1, z2, z3, z4, z5, z6, z7, z8, z9, z10, z11, z12, z13, z14]
end Go.Proofs.Yteebbffecaeciaa
