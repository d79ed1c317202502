/- Texts of this claim laid into one: TSameA. -/
import Derived.Test.YtapofbdkofelkaaGreatM12
import Derived.Test.YtapofbdkofelkaaGreatM30
/- term.Same. -/
namespace Go.Proofs.YtapofbdkofelkaaGreat
open Go.RowKit

theorem TT.sameAll_drop {l m : List TT} {i : Nat} (hl : i < l.length) (hm : i < m.length) : TT.sameAll (l.drop i) (m.drop i) = (TT.same l[i] m[i] && TT.sameAll (l.drop (i + 1)) (m.drop (i + 1))) := by
  rw [drop_cons hl, drop_cons hm, TT.sameAll]
theorem TT.sameAll_len : ∀ l m : List TT, l.length ≠ m.length → TT.sameAll l m = false
  | [], [], h => by simp at h
  | [], _ :: _, _ => by simp [TT.sameAll]
  | _ :: _, [], _ => by simp [TT.sameAll]
  | a :: l, b :: m, h => by rw [TT.sameAll, TT.sameAll_len l m (by simpa using h), Bool.and_false]

set_option maxRecDepth 100000 in
set_option maxHeartbeats 4000000 in
theorem eqfuncV_any (l m : List VT) (a a' : Option Addr) (cap cap' : Nat) (w : World) (hl : l.length ≤ 3518437208780) (_hm : m.length ≤ 3518437208780) (hr : VRow w l a) (hr' : VRow w m a') :
    Calls Tryz.prog 41 #[.slice a l.length cap, .slice a' m.length cap', .func (.func 40) #[] #[]] w fun e w' => e = .returned (.bool (VT.sameAll l m)) ∧ Below w.heap.size w w' := by
  by_cases hlm : l.length = m.length
  · have HLM := Lib.hid hlm
    have hle : l.length ≤ m.length := by omega
    have hge : m.length ≤ l.length := by omega
    have hb1 : ((l.length : Int) != (m.length : Int)) = false := by simp [hlm]
    clear hlm
    go_enter Tryz.func41, Tryz.ntmps41
    go_wp2_with fail
    go_loopw [17] (fun x wr => ∃ i : Nat, x = .int .i64 i ∧ i ≤ l.length ∧ VT.sameAll l m = VT.sameAll (l.drop i) (m.drop i) ∧ Below w.heap.size w wr) (fun x _ => l.length - (intOf x).toNat)
    case atStart => exact ⟨0, rfl, by omega, by simp, Below.refl _ _⟩
    case round =>
      obtain ⟨i, rfl, hi, hc, hB⟩ := hrel
      have HC := Lib.hid hc; clear hc
      by_cases hlt : i < l.length
      · have hlt' : i < m.length := by omega
        obtain ⟨b, o, rfl, ax, ac, d0, d1, d2, hx⟩ := (hr.below hB).got i hlt
        obtain ⟨b', o', rfl, ay, ac', e0, e1, e2, hy⟩ := (hr'.below hB).got i hlt'
        have hd := VT.sameAll_drop hlt hlt'
        obtain ⟨r, hr0⟩ : ∃ r, r = VT.same l[i] m[i] := ⟨_, rfl⟩
        rw [← hr0] at hd
        have HD := Lib.hid hd; have HR := Lib.hid hr0; clear hr0 hd
        obtain ⟨w3, hw3, m3, s3, r0, r1, r2, _⟩ := box3 wr (.int .u8 l[i].kind) (.int .i64 l[i].num) (.slice ax l[i].items.length ac) 24
        obtain ⟨w4, hw4, m4, s4, t0, t1, t2, _⟩ := box3 w3 (.int .u8 m[i].kind) (.int .i64 m[i].num) (.slice ay m[i].items.length ac') 24
        have m34 : Below wr.heap.size wr w4 := m3.trans (m4.mono (Nat.le_of_lt s3))
        have e0 := cell_stays m3 e0
        have e1 := cell_stays m3 e1
        have e2 := cell_stays m3 e2
        have r0 := cell_stays m4 r0
        have r1 := cell_stays m4 r1
        have r2 := cell_stays m4 r2
        go_wp2_with fail
        refine (same_any _ _ _ _ _ _ (Nat.le_refl _) (hx.below m34) (hy.below m34)).mono ?_
        rintro e w5 ⟨rfl, hb5⟩
        rw [← HR.out]
        have hB5 := hB.trans ((m34.trans (hb5.mono m34.size)).mono hB.size)
        clear hB hb5 m34 m3 m4 d0 d1 d2 e0 e1 e2 r0 r1 r2 t0 t1 t2 hx hy
        cases r
        · go_wp2_with fail
          go_ret
          exact ⟨ret_bool (by rw [HC.out, HD.out]; simp), hB5⟩
        · go_wp2_with fail
          go_roundw
          case rel => exact ⟨i + 1, by go_num, by omega, by rw [HC.out, HD.out, Bool.true_and], hB5⟩
          case measure => simp [intOf]; omega
      · go_wp2_with fail
        go_ret
        exact ⟨ret_bool (by rw [HC.out, drop_nil hlt, drop_nil (by omega)]; simp [VT.sameAll]), hB⟩
  · have hb1 : ((l.length : Int) != (m.length : Int)) = true := by simp; omega
    have HLM := Lib.hid hlm; clear hlm
    go_enter Tryz.func41, Tryz.ntmps41
    go_wp2_with fail
    go_ret
    exact ⟨ret_bool (by rw [VT.sameAll_len _ _ HLM.out]), Below.refl _ _⟩

theorem beq_drop {l m : List Int} {i : Nat} (hl : i < l.length) (hm : i < m.length) : (l.drop i == m.drop i) = (l[i] == m[i] && (l.drop (i + 1) == m.drop (i + 1))) := by rw [drop_cons hl, drop_cons hm]; rfl
theorem beq_len {l m : List Int} (h : l.length ≠ m.length) : (l == m) = false := by
  rw [beq_eq_false_iff_ne]; exact fun e => h (by rw [e])
set_option maxRecDepth 100000 in
set_option maxHeartbeats 4000000 in
theorem equalW_any (l m : List Int) (a a' : Option Addr) (cap cap' : Nat) (w : World) (hl : l.length ≤ 17592186043904) (_hm : m.length ≤ 17592186043904) (hr : WRow w l a) (hr' : WRow w m a') :
    Calls Tryz.prog 42 #[.slice a l.length cap, .slice a' m.length cap'] w fun e w' => e = .returned (.bool (l == m)) ∧ Below w.heap.size w w' := by
  by_cases hlm : l.length = m.length
  · have HLM := Lib.hid hlm
    have hle : l.length ≤ m.length := by omega
    have hge : m.length ≤ l.length := by omega
    have hb1 : ((l.length : Int) != (m.length : Int)) = false := by simp [hlm]
    clear hlm
    go_enter Tryz.func42, Tryz.ntmps42
    go_wp2_with fail
    go_loopw [13] (fun x wr => ∃ i : Nat, x = .int .i64 i ∧ i ≤ l.length ∧ (l == m) = (l.drop i == m.drop i) ∧ Below w.heap.size w wr) (fun x _ => l.length - (intOf x).toNat)
    case atStart => exact ⟨0, rfl, by omega, by simp, Below.refl _ _⟩
    case round =>
      obtain ⟨i, rfl, hi, hc, hB⟩ := hrel
      have HC := Lib.hid hc; clear hc
      by_cases hlt : i < l.length
      · have hlt' : i < m.length := by omega
        obtain ⟨b, o, rfl, d0⟩ := (hr.below hB).get i hlt
        obtain ⟨b', o', rfl, e0⟩ := (hr'.below hB).get i hlt'
        have HD := Lib.hid (beq_drop hlt hlt')
        obtain ⟨x, hx⟩ : ∃ x, x = l[i] := ⟨_, rfl⟩
        obtain ⟨y, hy⟩ : ∃ y, y = m[i] := ⟨_, rfl⟩
        rw [← hx] at d0 HD
        rw [← hy] at e0 HD
        clear hx hy
        by_cases hxy : x = y
        · have hb2 : (x != y) = false := by simpa using hxy
          have HXY := Lib.hid (show (x == y) = true by simpa using hxy)
          clear hxy
          go_wp2_with fail
          go_region
          go_wp2_with fail
          go_roundw
          case rel => exact ⟨i + 1, by go_num, by omega, by rw [HC.out, HD.out, HXY.out, Bool.true_and], hB.drew⟩
          case measure => simp [intOf]; omega
        · have hb2 : (x != y) = true := by simpa using hxy
          have HXY := Lib.hid (show (x == y) = false by simpa using hxy)
          clear hxy
          go_wp2_with fail
          go_region
          go_wp2_with fail
          go_ret
          exact ⟨ret_bool (by rw [HC.out, HD.out, HXY.out]; simp), hB.drew⟩
      · go_wp2_with fail
        go_ret
        exact ⟨ret_bool (by rw [HC.out, drop_nil hlt, drop_nil (by omega)]; rfl), hB⟩
  · have hb1 : ((l.length : Int) != (m.length : Int)) = true := by simp; omega
    have HLM := Lib.hid hlm; clear hlm
    go_enter Tryz.func42, Tryz.ntmps42
    go_wp2_with fail
    go_ret
    exact ⟨ret_bool (by rw [beq_len HLM.out]), Below.refl _ _⟩

set_option maxRecDepth 100000 in
set_option maxHeartbeats 8000000 in
theorem eqfuncT_of (l m : List TT) (a a' : Option Addr) (cap cap' : Nat) (w : World) (hl : l.length ≤ 651562446070) (_hm : m.length ≤ 651562446070) (hr : TRow w l a) (hr' : TRow w m a')
    (ih : ∀ i (h : i < l.length) (h' : i < m.length) (x y : Value) (W : World), TIn W l[i] x → TIn W m[i] y → Calls Tryz.prog 13 #[x, y] W fun e w' => e = .returned (.bool (TT.same l[i] m[i])) ∧ Below W.heap.size W w') :
    Calls Tryz.prog 44 #[.slice a l.length cap, .slice a' m.length cap', .func (.func 13) #[] #[]] w fun e w' => e = .returned (.bool (TT.sameAll l m)) ∧ Below w.heap.size w w' := by
  have IH := Lib.hid ih; clear ih
  by_cases hlm : l.length = m.length
  · have HLM := Lib.hid hlm
    have hle : l.length ≤ m.length := by omega
    have hge : m.length ≤ l.length := by omega
    have hb1 : ((l.length : Int) != (m.length : Int)) = false := by simp [hlm]
    clear hlm
    go_enter Tryz.func44, Tryz.ntmps44
    go_wp2_with fail
    go_loopw [17] (fun x wr => ∃ i : Nat, x = .int .i64 i ∧ i ≤ l.length ∧ TT.sameAll l m = TT.sameAll (l.drop i) (m.drop i) ∧ Below w.heap.size w wr) (fun x _ => l.length - (intOf x).toNat)
    case atStart => exact ⟨0, rfl, by omega, by simp, Below.refl _ _⟩
    case round =>
      obtain ⟨i, rfl, hi, hc, hB⟩ := hrel
      have HC := Lib.hid hc; clear hc
      by_cases hlt : i < l.length
      · have hlt' : i < m.length := by omega
        obtain ⟨b, o, rfl, A, hcells, hiok⟩ := (hr.below hB).get i hlt
        have hx : TIn wr l[i] (l[i].val A) := ⟨A, rfl, hiok⟩
        obtain ⟨d0, d1, d2, d3, d4, d5, d6, d7, d8, d9, d10, d11, d12, d13, d14⟩ := hcells
        obtain ⟨b', o', rfl, A', hcells', hiok'⟩ := (hr'.below hB).get i hlt'
        have hy : TIn wr m[i] (m[i].val A') := ⟨A', rfl, hiok'⟩
        obtain ⟨e0, e1, e2, e3, e4, e5, e6, e7, e8, e9, e10, e11, e12, e13, e14⟩ := hcells'
        simp only [TT.val] at hx hy
        clear hiok hiok'
        have hd := TT.sameAll_drop hlt hlt'
        obtain ⟨r, hr0⟩ : ∃ r, r = TT.same l[i] m[i] := ⟨_, rfl⟩
        rw [← hr0] at hd
        have HD := Lib.hid hd; have HR := Lib.hid hr0; clear hr0 hd
        obtain ⟨w3, hw3, m3, s3, R3, r0, r1, r2, r3, r4, r5, r6, r7, r8, r9, r10, r11, r12, r13, r14⟩ := box15 wr (.int .u8 l[i].kind) (.int .u8 l[i].v.kind) (.int .i64 l[i].v.num) (.slice A.va l[i].v.items.length A.vc) (.slice A.sa l[i].vs.length A.sc) (.int .i64 l[i].lo) (.int .i64 l[i].hi) (.slice A.wa l[i].ws.length A.wc) (.int .u8 l[i].p.kind) (.int .u8 l[i].p.val.kind) (.int .i64 l[i].p.val.num) (.slice A.qa l[i].p.val.items.length A.qc) (.int .i64 l[i].p.num) (.slice A.pa l[i].p.args.length A.pc) (.slice A.aa l[i].args.length A.ac) 31
        obtain ⟨w4, hw4, m4, s4, R4, t0, t1, t2, t3, t4, t5, t6, t7, t8, t9, t10, t11, t12, t13, t14⟩ := box15 w3 (.int .u8 m[i].kind) (.int .u8 m[i].v.kind) (.int .i64 m[i].v.num) (.slice A'.va m[i].v.items.length A'.vc) (.slice A'.sa m[i].vs.length A'.sc) (.int .i64 m[i].lo) (.int .i64 m[i].hi) (.slice A'.wa m[i].ws.length A'.wc) (.int .u8 m[i].p.kind) (.int .u8 m[i].p.val.kind) (.int .i64 m[i].p.val.num) (.slice A'.qa m[i].p.val.items.length A'.qc) (.int .i64 m[i].p.num) (.slice A'.pa m[i].p.args.length A'.pc) (.slice A'.aa m[i].args.length A'.ac) 31
        have m34 : Below wr.heap.size wr w4 := m3.trans (m4.mono (Nat.le_of_lt s3))
        have e0 := cell_stays m3 e0
        have e1 := cell_stays m3 e1
        have e2 := cell_stays m3 e2
        have e3 := cell_stays m3 e3
        have e4 := cell_stays m3 e4
        have e5 := cell_stays m3 e5
        have e6 := cell_stays m3 e6
        have e7 := cell_stays m3 e7
        have e8 := cell_stays m3 e8
        have e9 := cell_stays m3 e9
        have e10 := cell_stays m3 e10
        have e11 := cell_stays m3 e11
        have e12 := cell_stays m3 e12
        have e13 := cell_stays m3 e13
        have e14 := cell_stays m3 e14
        have r0 := cell_stays m4 r0
        have r1 := cell_stays m4 r1
        have r2 := cell_stays m4 r2
        have r3 := cell_stays m4 r3
        have r4 := cell_stays m4 r4
        have r5 := cell_stays m4 r5
        have r6 := cell_stays m4 r6
        have r7 := cell_stays m4 r7
        have r8 := cell_stays m4 r8
        have r9 := cell_stays m4 r9
        have r10 := cell_stays m4 r10
        have r11 := cell_stays m4 r11
        have r12 := cell_stays m4 r12
        have r13 := cell_stays m4 r13
        have r14 := cell_stays m4 r14
        clear R3 R4
        go_wp2_with fail
        refine (IH.out i hlt hlt' _ _ _ (hx.below m34) (hy.below m34)).mono ?_
        rintro e w5 ⟨rfl, hb5⟩
        rw [← HR.out]
        have hB5 := hB.trans ((m34.trans (hb5.mono m34.size)).mono hB.size)
        clear hB hb5 m34 m3 m4 d0 d1 d2 d3 d4 d5 d6 d7 d8 d9 d10 d11 d12 d13 d14 e0 e1 e2 e3 e4 e5 e6 e7 e8 e9 e10 e11 e12 e13 e14 r0 r1 r2 r3 r4 r5 r6 r7 r8 r9 r10 r11 r12 r13 r14 t0 t1 t2 t3 t4 t5 t6 t7 t8 t9 t10 t11 t12 t13 t14 hx hy
        cases r
        · go_wp2_with fail
          go_ret
          exact ⟨ret_bool (by rw [HC.out, HD.out]; simp), hB5⟩
        · go_wp2_with fail
          go_roundw
          case rel => exact ⟨i + 1, by go_num, by omega, by rw [HC.out, HD.out, Bool.true_and], hB5⟩
          case measure => simp [intOf]; omega
      · go_wp2_with fail
        go_ret
        exact ⟨ret_bool (by rw [HC.out, drop_nil hlt, drop_nil (by omega)]; simp [TT.sameAll]), hB⟩
  · have hb1 : ((l.length : Int) != (m.length : Int)) = true := by simp; omega
    have HLM := Lib.hid hlm; clear hlm
    go_enter Tryz.func44, Tryz.ntmps44
    go_wp2_with fail
    go_ret
    exact ⟨ret_bool (by rw [TT.sameAll_len _ _ HLM.out]), Below.refl _ _⟩
end Go.Proofs.YtapofbdkofelkaaGreat
