/- Texts of this claim laid into one: TNode. -/
import Derived.Test.YteebbffecaeciaaM10
/- term.Node. -/
namespace Go.Proofs.Yteebbffecaeciaa
open Go.RowKit

/-! Node -/
def lookOf : Nat → FuncId | 0 => 85 | 1 => 86 | 2 => 87 | _ => 88
def lookErr (t : TT) : Nat → Int | 0 => TT.values t.kind t.v t.vs | 1 => TT.weights t.kind t.ws t.p | 2 => TT.ends t.kind t.lo t.hi t.args.length | _ => TT.argsW t.kind t.vs.length t.ws.length t.args.length
theorem look_any (i : Nat) (t : TT) (x : Value) (w : World) (hln : t.lean = true) (hx : TIn w t x) : Calls Try.prog (lookOf i) #[x] w fun e w' => e = .returned (.int .i64 (lookErr t i)) ∧ Below w.heap.size w w' := by
  match i with
  | 0 => exact values_any t x w hln hx
  | 1 => exact weights_any t x w hln hx
  | 2 => exact ends_any t x w hx
  | n + 3 => exact arguments_any t x w hx
theorem TT.node_look {t : TT} (h : ¬ (t.kind < 1 ∨ 11 < t.kind)) : t.node = if lookErr t 0 ≠ 0 then lookErr t 0 else if lookErr t 1 ≠ 0 then lookErr t 1 else if lookErr t 2 ≠ 0 then lookErr t 2 else lookErr t 3 := by
  unfold TT.node TT.node1; rw [if_neg h]; rfl
/-- the first i looks found nothing. -/
def LookRel (t : TT) (i : Nat) : Prop := ∀ j, j < i → lookErr t j = 0
theorem LookRel.next {t : TT} {i : Nat} (h : LookRel t i) (h0 : lookErr t i = 0) : LookRel t (i + 1) := fun j hj => by
  rcases (by omega : j < i ∨ j = i) with hj | rfl
  · exact h j hj
  · exact h0
theorem LookRel.found {t : TT} {i : Nat} (hn : t.node = if lookErr t 0 ≠ 0 then lookErr t 0 else if lookErr t 1 ≠ 0 then lookErr t 1 else if lookErr t 2 ≠ 0 then lookErr t 2 else lookErr t 3) (h : LookRel t i) (hi : i < 4) (h0 : lookErr t i ≠ 0) : t.node = lookErr t i := by
  rw [hn]
  rcases (by omega : i = 0 ∨ i = 1 ∨ i = 2 ∨ i = 3) with rfl | rfl | rfl | rfl
  · rw [if_pos h0]
  · rw [if_neg (by simp [h 0 (by omega)]), if_pos h0]
  · rw [if_neg (by simp [h 0 (by omega)]), if_neg (by simp [h 1 (by omega)]), if_pos h0]
  · rw [if_neg (by simp [h 0 (by omega)]), if_neg (by simp [h 1 (by omega)]), if_neg (by simp [h 2 (by omega)])]
theorem LookRel.none {t : TT} (hn : t.node = if lookErr t 0 ≠ 0 then lookErr t 0 else if lookErr t 1 ≠ 0 then lookErr t 1 else if lookErr t 2 ≠ 0 then lookErr t 2 else lookErr t 3) (h : LookRel t 4) : t.node = 0 := by
  rw [hn, if_neg (by simp [h 0 (by omega)]), if_neg (by simp [h 1 (by omega)]), if_neg (by simp [h 2 (by omega)])]
  exact h 3 (by omega)
set_option maxRecDepth 100000 in
set_option maxHeartbeats 4000000 in
theorem tnode_any (t : TT) (x : Value) (w : World) (hln : t.lean = true) (hx : TIn w t x) :
    Calls Try.prog 46 #[x] w fun e w' => e = .returned (.int .i64 t.node) ∧ Below w.heap.size w w' := by
  have hx0 := hx
  have ht := TT.node_look (t := t)
  have ht2 : (t.kind < 1 ∨ 11 < t.kind) → t.node = 11 := fun h => by unfold TT.node TT.node1; rw [if_pos h]
  have hlook := fun i x w hx => look_any i t x w hln hx
  obtain ⟨tt, htt⟩ : ∃ tt, tt = t := ⟨_, rfl⟩
  rw [← htt] at ht ht2 hlook ⊢
  have HTT := Lib.hid htt
  clear htt
  obtain ⟨k, v, vs, lo, hi, ws, p, l⟩ := t
  obtain ⟨⟨va, vc, sa, sc, wa, wc, qa, qc, pa, pc, aa, ac⟩, rfl, hok⟩ := hx
  obtain ⟨⟨hal, hsl, hwl⟩, hv, hs, hw, hp, hr⟩ := hok.parts
  simp only [TT.v, TT.vs, TT.ws, TT.p, TT.args] at hal hsl hwl hv hs hw hp hr
  simp only [TT.val, TT.kind, TT.v, TT.vs, TT.lo, TT.hi, TT.ws, TT.p, TT.args]
  obtain ⟨w0, hw0, m0, s0, R0, q0, q1, q2, q3, q4, q5, q6, q7, q8, q9, q10, q11, q12, q13, q14⟩ := box15 w (.int .u8 k) (.int .u8 v.kind) (.int .i64 v.num) (.slice va v.items.length vc) (.slice sa vs.length sc) (.int .i64 lo) (.int .i64 hi) (.slice wa ws.length wc)
    (.int .u8 p.kind) (.int .u8 p.val.kind) (.int .i64 p.val.num) (.slice qa p.val.items.length qc) (.int .i64 p.num) (.slice pa p.args.length pc) (.slice aa l.length ac) 47
  have hv0 := hv.below m0
  have hs0 := hs.below m0
  have hw0' := hw.below m0
  have hp0 := hp.below m0
  have hr0 := hr.below m0
  have hB0 := Below.refl w0.heap.size w0
  clear hok hv hs hw hp hr R0
  have htk : tt.kind = k := by rw [HTT.out]; rfl
  rw [htk] at ht ht2
  have hx1 := hx0.below m0
  simp only [TT.val, TT.kind, TT.v, TT.vs, TT.lo, TT.hi, TT.ws, TT.p, TT.args] at hx1
  have HT := Lib.hid ht; have HT2 := Lib.hid ht2; have HLOOK := Lib.hid hlook
  clear hlook
  clear ht ht2 htk hv0 hs0 hw0' hp0 hr0 hx0 hln
  by_cases hk1 : k < 1
  · have hc := HT2.out (.inl hk1)
    rw [hc]
    clear hc
    go_enter Try.func46, Try.ntmps46
    go_wp2_with fail
    go_ret
    exact ⟨rfl, m0⟩
  · by_cases hk2 : 11 < k
    · have hc := HT2.out (.inr hk2)
      rw [hc]
      clear hc
      go_enter Try.func46, Try.ntmps46
      go_wp2_with fail
      go_ret
      exact ⟨rfl, m0⟩
    · have hc := HT.out (by omega)
      have HC := Lib.hid hc
      clear hc
      rw [HTT.out] at HLOOK
      obtain ⟨w1, hw1, m1, s1, f0, f1, f2, f3⟩ : ∃ w1, w0.alloc (.cells #[.func (.func 85) #[] #[], .func (.func 86) #[] #[], .func (.func 87) #[] #[], .func (.func 88) #[] #[]] 66) = w1 ∧ Below w0.heap.size w0 w1 ∧ w0.heap.size < w1.heap.size ∧
          w1.cell? ⟨w0.heap.size, 0, none⟩ = some (.func (.func 85) #[] #[]) ∧ w1.cell? ⟨w0.heap.size, 1, none⟩ = some (.func (.func 86) #[] #[]) ∧ w1.cell? ⟨w0.heap.size, 2, none⟩ = some (.func (.func 87) #[] #[]) ∧ w1.cell? ⟨w0.heap.size, 3, none⟩ = some (.func (.func 88) #[] #[]) :=
        ⟨_, rfl, Below.al _, by simp, by go_simp, by go_simp, by go_simp, by go_simp⟩
      have q0 := cell_stays m1 q0
      have q1 := cell_stays m1 q1
      have q2 := cell_stays m1 q2
      have q3 := cell_stays m1 q3
      have q4 := cell_stays m1 q4
      have q5 := cell_stays m1 q5
      have q6 := cell_stays m1 q6
      have q7 := cell_stays m1 q7
      have q8 := cell_stays m1 q8
      have q9 := cell_stays m1 q9
      have q10 := cell_stays m1 q10
      have q11 := cell_stays m1 q11
      have q12 := cell_stays m1 q12
      have q13 := cell_stays m1 q13
      have q14 := cell_stays m1 q14
      have hx2 := hx1.below m1
      have hB1 : Below w.heap.size w w1 := m0.trans (m1.mono m0.size)
      clear hx1
      go_enter Try.func46, Try.ntmps46
      go_wp2_with fail
      go_loopw [16] (fun x wr => ∃ i : Nat, x = .int .i64 i ∧ i ≤ 4 ∧ LookRel tt i ∧ Below w1.heap.size w1 wr) (fun x _ => 4 - (intOf x).toNat)
      case atStart => exact ⟨0, rfl, by omega, fun j h => by omega, Below.refl _ _⟩
      case round =>
        obtain ⟨i, rfl, hi, hl, hB⟩ := hrel
        have HL := Lib.hid hl; clear hl
        by_cases hlt : i < 4
        · obtain ⟨y, hy⟩ : ∃ y, y = lookErr tt i := ⟨_, rfl⟩
          have HY := Lib.hid hy; clear hy
          have hcall := HLOOK.out i _ wr (hx2.below hB)
          rw [← HTT.out, ← HY.out] at hcall
          have HCALL := Lib.hid hcall; clear hcall
          have q0 := cell_stays hB q0
          have q1 := cell_stays hB q1
          have q2 := cell_stays hB q2
          have q3 := cell_stays hB q3
          have q4 := cell_stays hB q4
          have q5 := cell_stays hB q5
          have q6 := cell_stays hB q6
          have q7 := cell_stays hB q7
          have q8 := cell_stays hB q8
          have q9 := cell_stays hB q9
          have q10 := cell_stays hB q10
          have q11 := cell_stays hB q11
          have q12 := cell_stays hB q12
          have q13 := cell_stays hB q13
          have q14 := cell_stays hB q14
          have f0 := cell_stays hB f0
          have f1 := cell_stays hB f1
          have f2 := cell_stays hB f2
          have f3 := cell_stays hB f3
          clear hx2
          rcases (by omega : i = 0 ∨ i = 1 ∨ i = 2 ∨ i = 3) with rfl | rfl | rfl | rfl
          all_goals
            go_wp2_with fail
            refine (HCALL.out).mono ?_
            rintro e w2 ⟨rfl, hb2⟩
            have hB2 := hB.trans (hb2.mono hB.size)
            clear q0 q1 q2 q3 q4 q5 q6 q7 q8 q9 q10 q11 q12 q13 q14 f0 f1 f2 f3 hb2 hB
            by_cases hy0 : y = 0
            · subst hy0
              have HN := Lib.hid (LookRel.next HL.out HY.out.symm)
              go_wp2_with fail
              go_roundw
              case rel => exact ⟨_, by first | rfl | go_num, by omega, HN.out, hB2⟩
              case measure => simp [intOf]
            · have hyb : (y != 0) = true := by simpa using hy0
              have HN := Lib.hid (LookRel.found HC.out HL.out hlt (by rw [← HY.out]; exact hy0))
              clear hy0
              go_wp2_with fail
              go_ret
              exact ⟨ret_int (by rw [HN.out, HY.out]), hB1.trans (hB2.mono hB1.size)⟩
        · have hi4 : i = 4 := by omega
          subst hi4
          have HN := Lib.hid (LookRel.none HC.out HL.out)
          go_wp2_with fail
          go_ret
          exact ⟨ret_int (by rw [HN.out]), hB1.trans (hB.mono hB1.size)⟩
end Go.Proofs.Yteebbffecaeciaa
