/- Texts of this claim laid into one: TSized. -/
import Derived.Test.YteebbffecaeciaaM15
import Derived.Test.YteebbffecaeciaaM09
/- (*walk).sized: goes into a Sized, with a Lo of its own. -/
namespace Go.Proofs.Yteebbffecaeciaa
open Go.RowKit



/-- a new frame. -/
def FramePtr (B : Nat) (lo : Nat) (fp : Option Addr) (t : TT) (A : TA) (v : Value) (w : World) : Prop := ∃ b, v = .pointer (some ⟨b, 0, none⟩) ∧ b ≠ B ∧ TCells w b 0 t A ∧ w.cell? ⟨b, 15, none⟩ = some (.int .i64 lo) ∧ w.cell? ⟨b, 16, none⟩ = some (.pointer fp)
theorem FramePtr.mono (B : Nat) (lo : Nat) (fp : Option Addr) (t : TT) (A : TA) (v : Value) (w w' : World) (h : FramePtr B lo fp t A v w) (hb : Below w.heap.size w w') : FramePtr B lo fp t A v w' := by
  obtain ⟨b, e, hne, hc, h15, h16⟩ := h
  exact ⟨b, e, hne, hc.below hb, cell_stays hb h15, cell_stays hb h16⟩
theorem framePtr_new {B lo : Nat} {fp : Option Addr} {k hi lo0 : Int} {v : VT} {vs : List VT} {ws : List Int} {p : PT} {l : List TT} {va sa wa qa pa aa : Option Addr} {vc sc wc qc pc ac n : Nat} {W : World} (hne : W.heap.size ≠ B) (hn : n = l.length := by rfl) :
    FramePtr B lo fp (.mk k v vs lo0 hi ws p l) ⟨va, vc, sa, sc, wa, wc, qa, qc, pa, pc, aa, ac⟩ (.pointer (some ⟨W.heap.size, 0, none⟩)) (W.alloc (.cells #[.int .u8 k, .int .u8 v.kind, .int .i64 v.num, .slice va v.items.length vc, .slice sa vs.length sc, .int .i64 lo0, .int .i64 hi, .slice wa ws.length wc, .int .u8 p.kind, .int .u8 p.val.kind, .int .i64 p.val.num, .slice qa p.val.items.length qc, .int .i64 p.num, .slice pa p.args.length pc, .slice aa n ac, .int .i64 lo, .pointer fp] 142)) := by
  subst hn
  refine ⟨_, rfl, hne, ⟨?_, ?_, ?_, ?_, ?_, ?_, ?_, ?_, ?_, ?_, ?_, ?_, ?_, ?_, ?_⟩, ?_, ?_⟩
  all_goals go_simp
  all_goals rfl
theorem Spent.sized {B n c c' h : Nat} {w w1 w2 : World} {m : Nat} (hk : Kp B w w1) (hk2 : Kp B w1 w2) (hm : m + c = n + c') {e : Ending} {w' : World} (hs : Spent B w2 m c h e w') : Spent B w n c' h e w' := Spent.after (hk.trans hk2) hm hs
theorem At.spent {wb : World} {B : Nat} {w : World} {n c : Nat} (h : At wb B w n) (hc : n + c ≤ 4096) : At wb B (w.setCell ⟨B, 0, none⟩ (.int .i64 (n + c : Nat))) (n + c) :=
  h.kp (Kp.set w 0 _) (h.row.set _ _ rfl) (set_same h.cell) hc
set_option maxRecDepth 100000 in
set_option maxHeartbeats 8000000 in
theorem sized_of (wb : World) (B : Nat) (fs : List (TT × Nat)) (c s : TT) (v : VT) (vs : List VT) (lo hi : Int) (ws : List Int) (p : PT) (hA : TermDoes wb B c fs) (hS : ∀ j, Good wb B ((.mk 10 v vs lo hi ws p [c, s], j) :: fs) → TermDoes wb B s ((.mk 10 v vs lo hi ws p [c, s], j) :: fs))
    (hle : ∀ j, TT.high10 [c, s] j (frH fs) ≤ TT.bulk10 [c, s] j (frB fs)) : ∀ j, j ≤ 8 → SizedDoes wb B (.mk 10 v vs lo hi ws p [c, s]) j fs := by
  intro j
  induction j with
  | zero =>
    intro _ w x fp n times hat hx h1 h2 hf
    obtain ⟨⟨va, vc, sa, sc, wa, wc, qa, qc, pa, pc, aa, ac⟩, rfl, hok⟩ := hx
    obtain ⟨⟨hal, hsl, hwl⟩, hv, hs, hw, hp, hr⟩ := hok.parts
    simp only [TT.v, TT.vs, TT.ws, TT.p, TT.args] at hal hsl hwl hv hs hw hp hr
    simp only [TT.val, TT.kind, TT.v, TT.vs, TT.lo, TT.hi, TT.ws, TT.p, TT.args]
    obtain ⟨w0, hw0, m0, s0, R0, q0, q1, q2, q3, q4, q5, q6, q7, q8, q9, q10, q11, q12, q13, q14⟩ := box15 w (.int .u8 10) (.int .u8 v.kind) (.int .i64 v.num) (.slice va v.items.length vc) (.slice sa vs.length sc) (.int .i64 lo) (.int .i64 hi) (.slice wa ws.length wc)
      (.int .u8 p.kind) (.int .u8 p.val.kind) (.int .i64 p.val.num) (.slice qa p.val.items.length qc) (.int .i64 p.num) (.slice pa p.args.length pc) (.slice aa [c, s].length ac) 47
    have hat0 := hat.al m0
    have hne : w.heap.size ≠ B := Nat.ne_of_gt hat.row.lt
    have hk0 := Kp.grow (Nat.le_of_lt hat.row.lt) m0
    have HF := Lib.hid hf; have HA := Lib.hid hA
    clear hf hA hS R0 hv hs hw hp hok hle
    simp only [List.length_cons, List.length_nil, Nat.reduceAdd] at hw0 q14 ⊢
    obtain ⟨b, o, rfl, A1, hcells, hiok⟩ := hr.get 0 (by simp)
    simp only [List.getElem_cons_zero, Nat.zero_mul, Nat.add_zero] at hcells hiok
    by_cases hle : n + times ≤ 4096
    · have hat1 := hat0.spent hle
      have hk1 := hk0.trans (Kp.set w0 0 (.int .i64 (n + times : Nat)))
      have hx1 : TIn wb c (c.val A1) := ⟨A1, rfl, hiok⟩
      simp only [TT.val] at hx1
      have q14 := (Kp.set w0 0 (.int .i64 (n + times : Nat))).cell hne q14
      obtain ⟨d0, d1, d2, d3, d4, d5, d6, d7, d8, d9, d10, d11, d12, d13, d14⟩ := TCells.below2 hat1.below hcells
      have hcall := HA.out _ _ fp (n + times) times hat1 hx1 h1 h2 (HF.out.kp hk1)
      have HCALL := Lib.hid hcall; have HK1 := Lib.hid hk1
      have HSP := Lib.hid (spend_ok B n times w0 hat0.row hat0.cell hle)
      clear hcall hk1 hx1 hiok hcells hr q0 q1 q2 q3 q4 q5 q6 q7 q8 q9 q10 q11 q12 q13 hk0 hat0 hat
      generalize hW1 : w0.setCell ⟨B, 0, none⟩ (.int .i64 (n + times : Nat)) = w1 at *
      go_enter Try.func129, Try.ntmps129
      go_wp2_with fail
      refine HSP.out.mono ?_
      rintro e w1' ⟨rfl, rfl⟩
      go_wp2_with fail
      refine HCALL.out.mono ?_
      rintro e w2 hsp
      have hsp2 := Spent.after (n := n) (c' := times * TT.bulk10 [c, s] 0 (frB fs)) HK1.out (by rw [TT.bulk10_two, iter_zero, Nat.mul_add, Nat.mul_one]; omega) hsp
      rcases hsp2 with ⟨hk2, hr2, ⟨hle2, rfl, hc2⟩ | ⟨hgt, rfl⟩⟩
      · have HP : Hid (Spent B w n (times * TT.bulk10 [c, s] 0 (frB fs)) (TT.high10 [c, s] 0 (frH fs)) (.returned (.int .i64 (c.high (frH fs)))) w2) := Lib.hid ⟨hk2, hr2, .inl ⟨hle2, by rw [TT.high10_two, iter_zero], hc2⟩⟩
        clear hk2 hr2 hc2 hsp
        go_wp2_with fail
        go_ret
        exact HP.out
      · have HP := Lib.hid (Spent.much (h := TT.high10 [c, s] 0 (frH fs)) hk2 hr2 hgt)
        clear hk2 hr2 hsp
        go_wp2_with fail
        exact ⟨rfl, HP.out⟩
    · have hgt : 4096 < n + times := by omega
      have hk1 := hk0.trans (Kp.set w0 0 (.int .i64 (n + times : Nat)))
      have hr1 := hat0.row.set ⟨B, 0, none⟩ (.int .i64 (n + times : Nat)) rfl
      have HSP := Lib.hid (spend_much B n times w0 hat0.row hat0.cell hat0.le (by omega) hgt)
      have HP := Lib.hid (Spent.much (h := TT.high10 [c, s] 0 (frH fs)) (n := n) (c := times * TT.bulk10 [c, s] 0 (frB fs)) hk1 hr1 (by
        have : 1 ≤ TT.bulk10 [c, s] 0 (frB fs) := by rw [TT.bulk10_two]; exact iter_pos (fun x _ => by omega) _ _ (by omega)
        have := Nat.mul_le_mul_left times this
        omega))
      clear hk1 hr1 hiok hcells hr hk0 hat0 hat
      generalize hW1 : w0.setCell ⟨B, 0, none⟩ (.int .i64 (n + times : Nat)) = w1 at *
      go_enter Try.func129, Try.ntmps129
      go_wp2_with fail
      refine HSP.out.mono ?_
      rintro e w1' ⟨rfl, rfl⟩
      go_wp2_with fail
      exact ⟨rfl, HP.out⟩
  | succ j ih =>
    intro hj8 w x fp n times hat hx h1 h2 hf
    have hxwb := hx
    have ihj := ih (by omega)
    obtain ⟨⟨va, vc, sa, sc, wa, wc, qa, qc, pa, pc, aa, ac⟩, rfl, hok⟩ := hx
    obtain ⟨⟨hal, hsl, hwl⟩, hv, hs, hw, hp, hr⟩ := hok.parts
    simp only [TT.v, TT.vs, TT.ws, TT.p, TT.args] at hal hsl hwl hv hs hw hp hr
    simp only [TT.val, TT.kind, TT.v, TT.vs, TT.lo, TT.hi, TT.ws, TT.p, TT.args]
    obtain ⟨w0, hw0, m0, s0, R0, q0, q1, q2, q3, q4, q5, q6, q7, q8, q9, q10, q11, q12, q13, q14⟩ := box15 w (.int .u8 10) (.int .u8 v.kind) (.int .i64 v.num) (.slice va v.items.length vc) (.slice sa vs.length sc) (.int .i64 lo) (.int .i64 hi) (.slice wa ws.length wc)
      (.int .u8 p.kind) (.int .u8 p.val.kind) (.int .i64 p.val.num) (.slice qa p.val.items.length qc) (.int .i64 p.num) (.slice pa p.args.length pc) (.slice aa [c, s].length ac) 47
    have hat0 := hat.al m0
    have hne : w.heap.size ≠ B := Nat.ne_of_gt hat.row.lt
    have hk0 := Kp.grow (Nat.le_of_lt hat.row.lt) m0
    have HF := Lib.hid hf; have HS := Lib.hid hS; have HIH := Lib.hid ihj; have HOK := Lib.hid hok; have HLE := Lib.hid (hle j)
    clear hf hA hS R0 ih ihj hxwb hv hs hw hp hok hle
    simp only [List.length_cons, List.length_nil, Nat.reduceAdd] at hw0 q14 ⊢
    obtain ⟨b, o, rfl, A2, hcells, hiok⟩ := hr.get 1 (by simp)
    simp only [List.getElem_cons_succ, List.getElem_cons_zero, Nat.one_mul] at hcells hiok
    by_cases hle : n + times ≤ 4096
    · have hat1 := hat0.spent hle
      have hk1 := hk0.trans (Kp.set w0 0 (.int .i64 (n + times : Nat)))
      have hx1 : TIn wb s (s.val A2) := ⟨A2, rfl, hiok⟩
      simp only [TT.val] at hx1
      have q0 := (Kp.set w0 0 (.int .i64 (n + times : Nat))).cell hne q0
      have q1 := (Kp.set w0 0 (.int .i64 (n + times : Nat))).cell hne q1
      have q2 := (Kp.set w0 0 (.int .i64 (n + times : Nat))).cell hne q2
      have q3 := (Kp.set w0 0 (.int .i64 (n + times : Nat))).cell hne q3
      have q4 := (Kp.set w0 0 (.int .i64 (n + times : Nat))).cell hne q4
      have q5 := (Kp.set w0 0 (.int .i64 (n + times : Nat))).cell hne q5
      have q6 := (Kp.set w0 0 (.int .i64 (n + times : Nat))).cell hne q6
      have q7 := (Kp.set w0 0 (.int .i64 (n + times : Nat))).cell hne q7
      have q8 := (Kp.set w0 0 (.int .i64 (n + times : Nat))).cell hne q8
      have q9 := (Kp.set w0 0 (.int .i64 (n + times : Nat))).cell hne q9
      have q10 := (Kp.set w0 0 (.int .i64 (n + times : Nat))).cell hne q10
      have q11 := (Kp.set w0 0 (.int .i64 (n + times : Nat))).cell hne q11
      have q12 := (Kp.set w0 0 (.int .i64 (n + times : Nat))).cell hne q12
      have q13 := (Kp.set w0 0 (.int .i64 (n + times : Nat))).cell hne q13
      have q14 := (Kp.set w0 0 (.int .i64 (n + times : Nat))).cell hne q14
      have HC2 := Lib.hid hcells; have HS1 := Lib.hid hat1.below
      have HBW := Lib.hid (show B < (w0.setCell ⟨B, 0, none⟩ (.int .i64 (n + times : Nat))).drew.heap.size from hat1.row.lt)
      have HBV := Lib.hid (fun W (h : Below (w0.setCell ⟨B, 0, none⟩ (.int .i64 (n + times : Nat))).drew.heap.size (w0.setCell ⟨B, 0, none⟩ (.int .i64 (n + times : Nat))).drew W) => (Below.refl _ (w0.setCell ⟨B, 0, none⟩ (.int .i64 (n + times : Nat)))).drew.trans h)
      have HAT1 := Lib.hid hat1; have HK1 := Lib.hid hk1; have HX1 := Lib.hid hx1
      have HF1 := Lib.hid (HF.out.kp hk1)
      have HSP := Lib.hid (spend_ok B n times w0 hat0.row hat0.cell hle)
      have HJ := Lib.hid (show (j : Int) ≤ 8 by omega)
      clear hk1 hx1 hiok hcells hr hk0 hat0 hat hat1 HF
      generalize hW1 : w0.setCell ⟨B, 0, none⟩ (.int .i64 (n + times : Nat)) = w1 at *
      go_enter Try.func129, Try.ntmps129
      go_wp2_with fail
      refine HSP.out.mono ?_
      rintro e w1' ⟨rfl, rfl⟩
      go_wp2_with fail
      refine wp_region_part [] (kindT [(24, .fixed (.pointer (some ⟨B, 0, none⟩))), (25, .fixed (.pointer (some ⟨w.heap.size, 14, none⟩))), (26, .fixed (.slice (some ⟨b, o, none⟩) 2 ac)), (27, .fixed (.pointer (some ⟨b, o + 15, none⟩))), (28, .fixed (.agg #[.int .u8 s.kind, .int .u8 s.v.kind, .int .i64 s.v.num, .slice A2.va s.v.items.length A2.vc, .slice A2.sa s.vs.length A2.sc, .int .i64 s.lo, .int .i64 s.hi, .slice A2.wa s.ws.length A2.wc, .int .u8 s.p.kind, .int .u8 s.p.val.kind, .int .i64 s.p.val.num, .slice A2.qa s.p.val.items.length A2.qc, .int .i64 s.p.num, .slice A2.pa s.p.args.length A2.pc, .slice A2.aa s.args.length A2.ac])), (29, .fixed (.agg #[.int .u8 10, .int .u8 v.kind, .int .i64 v.num, .slice va v.items.length vc, .slice sa vs.length sc, .int .i64 lo, .int .i64 hi, .slice wa ws.length wc, .int .u8 p.kind, .int .u8 p.val.kind, .int .i64 p.val.num, .slice qa p.val.items.length qc, .int .i64 p.num, .slice pa p.args.length pc, .slice (some ⟨b, o, none⟩) 2 ac])), (30, .fixed (.int .i64 (j + 1))), (31, .fixed (.int .i64 j)), (32, .fixed (.pointer fp)), (33, .fixed (.agg #[.int .u8 10, .int .u8 v.kind, .int .i64 v.num, .slice va v.items.length vc, .slice sa vs.length sc, .int .i64 lo, .int .i64 hi, .slice wa ws.length wc, .int .u8 p.kind, .int .u8 p.val.kind, .int .i64 p.val.num, .slice qa p.val.items.length qc, .int .i64 p.num, .slice pa p.args.length pc, .slice (some ⟨b, o, none⟩) 2 ac, .int .i64 j, .pointer fp])), (34, .prop (FramePtr B j fp (.mk 10 v vs lo hi ws p [c, s]) ⟨va, vc, sa, sc, wa, wc, qa, qc, pa, pc, some ⟨b, o, none⟩, ac⟩) (FramePtr.mono _ _ _ _ _)), (35, .fixed (.int .i64 times))]) 12 37 (by kernel_rfl) (by kernel_rfl) (by rfl) (by decide) (fun _ h => by cases h) (kindT_mono _) ?_ ?_
      · refine (tfm ?_ (tfm ?_ (tfm ?_ (tfm ?_ (tfm ?_ (tfm ?_ (tfm ?_ (tfm ?_ (tfm ?_ (tfm ?_ (tfm ?_ (tfm ?_ tfmnil))))))))))))
        · intro r W hc hf hs hd hB
          have hBV := HBV.out W hB
          refine want_n rfl ?_
          have e0 : r (.tmp 0) = .pointer (some ⟨B, 0, none⟩) := hs 0 (of_decide_eq_true (by kernel_rfl))
          exact st_value (v := .pointer (some ⟨B, 0, none⟩)) rfl (by decide) (by go_simp) rfl
        · intro r W hc hf hs hd hB
          have hBV := HBV.out W hB
          refine want_n rfl ?_
          have e6 : r (.tmp 6) = .pointer (some ⟨w.heap.size, 0, none⟩) := hs 6 (of_decide_eq_true (by kernel_rfl))
          exact st_value (v := .pointer (some ⟨w.heap.size, 14, none⟩)) rfl (by decide) (by go_simp) rfl
        · intro r W hc hf hs hd hB
          have hBV := HBV.out W hB
          refine want_n rfl ?_
          have e25 : r (.tmp 25) = (.pointer (some ⟨w.heap.size, 14, none⟩)) := hd 25 (by kernel_rfl)
          have g14 := cell_stays hBV q14
          exact st_value (v := .slice (some ⟨b, o, none⟩) 2 ac) rfl (by decide) (by go_simp) rfl
        · intro r W hc hf hs hd hB
          have hBV := HBV.out W hB
          refine want_n rfl ?_
          have e26 : r (.tmp 26) = (.slice (some ⟨b, o, none⟩) 2 ac) := hd 26 (by kernel_rfl)
          exact st_value (v := .pointer (some ⟨b, o + 15, none⟩)) rfl (by decide) (by go_simp) rfl
        · intro r W hc hf hs hd hB
          have hBV := HBV.out W hB
          refine want_n rfl ?_
          have e27 : r (.tmp 27) = (.pointer (some ⟨b, o + 15, none⟩)) := hd 27 (by kernel_rfl)
          obtain ⟨g0, g1, g2, g3, g4, g5, g6, g7, g8, g9, g10, g11, g12, g13, g14⟩ := TCells.below (HS1.out.trans (hBV.mono HS1.out.size)) HC2.out
          simp only [Nat.add_assoc, Nat.reduceAdd] at g0 g1 g2 g3 g4 g5 g6 g7 g8 g9 g10 g11 g12 g13 g14
          exact st_value (v := .agg #[.int .u8 s.kind, .int .u8 s.v.kind, .int .i64 s.v.num, .slice A2.va s.v.items.length A2.vc, .slice A2.sa s.vs.length A2.sc, .int .i64 s.lo, .int .i64 s.hi, .slice A2.wa s.ws.length A2.wc, .int .u8 s.p.kind, .int .u8 s.p.val.kind, .int .i64 s.p.val.num, .slice A2.qa s.p.val.items.length A2.qc, .int .i64 s.p.num, .slice A2.pa s.p.args.length A2.pc, .slice A2.aa s.args.length A2.ac]) rfl (by decide) (by go_simp) rfl
        · intro r W hc hf hs hd hB
          have hBV := HBV.out W hB
          refine want_n rfl ?_
          have e6 : r (.tmp 6) = .pointer (some ⟨w.heap.size, 0, none⟩) := hs 6 (of_decide_eq_true (by kernel_rfl))
          have g0 := cell_stays hBV q0
          have g1 := cell_stays hBV q1
          have g2 := cell_stays hBV q2
          have g3 := cell_stays hBV q3
          have g4 := cell_stays hBV q4
          have g5 := cell_stays hBV q5
          have g6 := cell_stays hBV q6
          have g7 := cell_stays hBV q7
          have g8 := cell_stays hBV q8
          have g9 := cell_stays hBV q9
          have g10 := cell_stays hBV q10
          have g11 := cell_stays hBV q11
          have g12 := cell_stays hBV q12
          have g13 := cell_stays hBV q13
          have g14 := cell_stays hBV q14
          exact st_value (v := .agg #[.int .u8 10, .int .u8 v.kind, .int .i64 v.num, .slice va v.items.length vc, .slice sa vs.length sc, .int .i64 lo, .int .i64 hi, .slice wa ws.length wc, .int .u8 p.kind, .int .u8 p.val.kind, .int .i64 p.val.num, .slice qa p.val.items.length qc, .int .i64 p.num, .slice pa p.args.length pc, .slice (some ⟨b, o, none⟩) 2 ac]) rfl (by decide) (by go_simp) rfl
        · intro r W hc hf hs hd hB
          have hBV := HBV.out W hB
          refine want_n rfl ?_
          have e2 : r (.tmp 2) = .int .i64 (j + 1) := hs 2 (of_decide_eq_true (by kernel_rfl))
          exact st_value (v := .int .i64 (j + 1)) rfl (by decide) (by go_simp) rfl
        · intro r W hc hf hs hd hB
          have hBV := HBV.out W hB
          refine want_n rfl ?_
          have e30 : r (.tmp 30) = (.int .i64 (j + 1)) := hd 30 (by kernel_rfl)
          have hj := HJ.out
          exact st_value (v := .int .i64 j) rfl (by decide) (by go_simp <;> (rw [IntKind.wrap_i64]; omega)) rfl
        · intro r W hc hf hs hd hB
          have hBV := HBV.out W hB
          refine want_n rfl ?_
          have e3 : r (.tmp 3) = .pointer fp := hs 3 (of_decide_eq_true (by kernel_rfl))
          exact st_value (v := .pointer fp) rfl (by decide) (by go_simp) rfl
        · intro r W hc hf hs hd hB
          have hBV := HBV.out W hB
          refine want_n rfl ?_
          have e29 : r (.tmp 29) = (.agg #[.int .u8 10, .int .u8 v.kind, .int .i64 v.num, .slice va v.items.length vc, .slice sa vs.length sc, .int .i64 lo, .int .i64 hi, .slice wa ws.length wc, .int .u8 p.kind, .int .u8 p.val.kind, .int .i64 p.val.num, .slice qa p.val.items.length qc, .int .i64 p.num, .slice pa p.args.length pc, .slice (some ⟨b, o, none⟩) 2 ac]) := hd 29 (by kernel_rfl)
          have e31 : r (.tmp 31) = (.int .i64 j) := hd 31 (by kernel_rfl)
          have e32 : r (.tmp 32) = (.pointer fp) := hd 32 (by kernel_rfl)
          exact st_value (v := .agg #[.int .u8 10, .int .u8 v.kind, .int .i64 v.num, .slice va v.items.length vc, .slice sa vs.length sc, .int .i64 lo, .int .i64 hi, .slice wa ws.length wc, .int .u8 p.kind, .int .u8 p.val.kind, .int .i64 p.val.num, .slice qa p.val.items.length qc, .int .i64 p.num, .slice pa p.args.length pc, .slice (some ⟨b, o, none⟩) 2 ac, .int .i64 j, .pointer fp]) rfl (by decide) (by go_simp) rfl
        · intro r W hc hf hs hd hB
          have hBV := HBV.out W hB
          refine want_n rfl ?_
          have e33 : r (.tmp 33) = (.agg #[.int .u8 10, .int .u8 v.kind, .int .i64 v.num, .slice va v.items.length vc, .slice sa vs.length sc, .int .i64 lo, .int .i64 hi, .slice wa ws.length wc, .int .u8 p.kind, .int .u8 p.val.kind, .int .i64 p.val.num, .slice qa p.val.items.length qc, .int .i64 p.num, .slice pa p.args.length pc, .slice (some ⟨b, o, none⟩) 2 ac, .int .i64 j, .pointer fp]) := hd 33 (by kernel_rfl)
          exact st_new (v := .pointer (some ⟨W.heap.size, 0, none⟩)) (w' := W.alloc (.cells #[.int .u8 10, .int .u8 v.kind, .int .i64 v.num, .slice va v.items.length vc, .slice sa vs.length sc, .int .i64 lo, .int .i64 hi, .slice wa ws.length wc, .int .u8 p.kind, .int .u8 p.val.kind, .int .i64 p.val.num, .slice qa p.val.items.length qc, .int .i64 p.num, .slice pa p.args.length pc, .slice (some ⟨b, o, none⟩) 2 ac, .int .i64 j, .pointer fp] 142)) rfl (by decide) (by go_simp) (Below.al _) (framePtr_new (Nat.ne_of_gt (Nat.lt_of_lt_of_le HBW.out hBV.size)))
        · intro r W hc hf hs hd hB
          have hBV := HBV.out W hB
          refine want_n rfl ?_
          have e4 : r (.tmp 4) = .int .i64 times := hs 4 (of_decide_eq_true (by kernel_rfl))
          exact st_value (v := .int .i64 times) rfl (by decide) (by go_simp) rfl
      intro f w' fuel hfuel hfd _ hB'
      have z24 : f 24 = .pointer (some ⟨B, 0, none⟩) := hfd 24 (of_decide_eq_true (by kernel_rfl))
      have z28 : f 28 = .agg #[.int .u8 s.kind, .int .u8 s.v.kind, .int .i64 s.v.num, .slice A2.va s.v.items.length A2.vc, .slice A2.sa s.vs.length A2.sc, .int .i64 s.lo, .int .i64 s.hi, .slice A2.wa s.ws.length A2.wc, .int .u8 s.p.kind, .int .u8 s.p.val.kind, .int .i64 s.p.val.num, .slice A2.qa s.p.val.items.length A2.qc, .int .i64 s.p.num, .slice A2.pa s.p.args.length A2.pc, .slice A2.aa s.args.length A2.ac] := hfd 28 (of_decide_eq_true (by kernel_rfl))
      have z35 : f 35 = .int .i64 times := hfd 35 (of_decide_eq_true (by kernel_rfl))
      obtain ⟨bf, z34, hbf, hcf, h15, h16⟩ : FramePtr B j fp (.mk 10 v vs lo hi ws p [c, s]) ⟨va, vc, sa, sc, wa, wc, qa, qc, pa, pc, some ⟨b, o, none⟩, ac⟩ (f 34) w' := hfd 34 (of_decide_eq_true (by kernel_rfl))
      have hB1 := HBV.out w' hB'
      have hk' := HK1.out.trans (Kp.grow (Nat.le_of_lt HAT1.out.row.lt) hB1)
      have hcall := HS.out j ⟨HIH.out, HLE.out⟩ w' _ (some ⟨bf, 0, none⟩) (n + times) times (HAT1.out.al hB1) HX1.out h1 h2 ⟨bf, _, rfl, hbf, hcf, HOK.out, h15, fp, h16, HF1.out.kp (Kp.grow (Nat.le_of_lt HAT1.out.row.lt) hB1)⟩
      obtain ⟨fuel, rfl⟩ : ∃ k, fuel = k + 2 := ⟨fuel - 2, by have h2 : 2 ≤ fuel := hfuel; omega⟩
      rw [show dstsTo 12 _ = [24, 25, 26, 27, 28, 29, 30, 31, 32, 33, 34, 35] from by kernel_rfl]
      simp only [fill, List.setIfInBounds_toArray, List.set_cons_succ, List.set_cons_zero, z24, z28, z34, z35]
      have HM : times * TT.bulk10 [c, s] (j + 1) (frB fs) = times + times * s.bulk (frB ((.mk 10 v vs lo hi ws p [c, s], j) :: fs)) := by
        rw [frB, TT.args, TT.bulk10_two, iter_succ, Nat.mul_add, Nat.mul_one, ← TT.bulk10_two (r := [])]
      have HH : TT.high10 [c, s] (j + 1) (frH fs) = s.high (frH ((.mk 10 v vs lo hi ws p [c, s], j) :: fs)) := by
        rw [frH, TT.args, TT.high10_two, iter_succ, ← TT.high10_two (r := [])]
      clear z24 z28 z34 z35 hfd hfuel
      refine wpAny_next (i := 12) (by kernel_rfl) (by rfl) rfl (wp_enter (w' := w') (by go_simp) hcall (fun u w2 hsp => ?_) (fun u w2 hsp => ?_) (fun w2 hsp => ?_))
      · rcases Spent.after (n := n) (c' := times * TT.bulk10 [c, s] (j + 1) (frB fs)) hk' (by rw [HM]; omega) hsp with ⟨hk2, hr2, ⟨hle2, he, hc2⟩ | ⟨_, he⟩⟩
        · cases he
          have HP : Hid (Spent B w n (times * TT.bulk10 [c, s] (j + 1) (frB fs)) (TT.high10 [c, s] (j + 1) (frH fs)) (.returned (.int .i64 (s.high (frH ((.mk 10 v vs lo hi ws p [c, s], j) :: fs))))) w2) := Lib.hid ⟨hk2, hr2, .inl ⟨hle2, by rw [HH], hc2⟩⟩
          refine wpAny_next (i := 13) (by kernel_rfl) (by rfl) rfl (wp_val (v := .int .i64 (s.high (frH ((.mk 10 v vs lo hi ws p [c, s], j) :: fs)))) (w' := w2) (by go_simp) ?_)
          refine wpAny_done (by kernel_rfl) ?_ _
          clear hk2 hr2 hc2 hsp HM HH hk'
          go_wp2_with fail
          go_ret
          exact HP.out
        · cases he
      · rcases Spent.after (n := n) (c' := times * TT.bulk10 [c, s] (j + 1) (frB fs)) hk' (by rw [HM]; omega) hsp with ⟨hk2, hr2, ⟨_, he, _⟩ | ⟨hgt, he⟩⟩
        · cases he
        · cases he
          have HP := Lib.hid (Spent.much (h := TT.high10 [c, s] (j + 1) (frH fs)) hk2 hr2 hgt)
          clear hk2 hr2 hsp HM HH hk'
          go_wp2_with fail
          exact ⟨rfl, HP.out⟩
      · rcases hsp with ⟨_, _, ⟨_, he, _⟩ | ⟨_, he⟩⟩ <;> cases he
    · have hgt : 4096 < n + times := by omega
      have hk1 := hk0.trans (Kp.set w0 0 (.int .i64 (n + times : Nat)))
      have hr1 := hat0.row.set ⟨B, 0, none⟩ (.int .i64 (n + times : Nat)) rfl
      have HSP := Lib.hid (spend_much B n times w0 hat0.row hat0.cell hat0.le (by omega) hgt)
      have HP := Lib.hid (Spent.much (h := TT.high10 [c, s] (j + 1) (frH fs)) (n := n) (c := times * TT.bulk10 [c, s] (j + 1) (frB fs)) hk1 hr1 (by
        have : 1 ≤ TT.bulk10 [c, s] (j + 1) (frB fs) := by rw [TT.bulk10_two]; exact iter_pos (fun x _ => by omega) _ _ (by omega)
        have := Nat.mul_le_mul_left times this
        omega))
      clear hk1 hr1 hiok hcells hr hk0 hat0 hat
      generalize hW1 : w0.setCell ⟨B, 0, none⟩ (.int .i64 (n + times : Nat)) = w1 at *
      go_enter Try.func129, Try.ntmps129
      go_wp2_with fail
      refine HSP.out.mono ?_
      rintro e w1' ⟨rfl, rfl⟩
      go_wp2_with fail
      exact ⟨rfl, HP.out⟩
end Go.Proofs.Yteebbffecaeciaa
