/- Texts of this claim laid into one: VRefA, VRefB. -/
import Derived.Test.YteebbffecaeciaaM01
/- tombolaref14.Size, Deep, node, all, Check. -/
namespace Go.Proofs.Yteebbffecaeciaa
open Go.RowKit

theorem VT.sizes_upto {l : List VT} {i : Nat} (h : i < l.length) : VT.sizes (l.take (i + 1)) = VT.sizes (l.take i) + l[i].size := by
  induction l generalizing i with
  | nil => simp at h
  | cons a l ih =>
    cases i with
    | zero => simp [VT.sizes]
    | succ i => simp only [List.take_succ_cons, VT.sizes, List.getElem_cons_succ]; rw [ih (by simpa using h)]; omega
theorem VT.deeps_upto {l : List VT} {i : Nat} (h : i < l.length) : VT.deeps (l.take (i + 1)) = max (VT.deeps (l.take i)) l[i].deep := by
  induction l generalizing i with
  | nil => simp at h
  | cons a l ih =>
    cases i with
    | zero => simp [VT.deeps]
    | succ i => simp only [List.take_succ_cons, VT.deeps, List.getElem_cons_succ]; rw [ih (by simpa using h)]; omega
theorem VT.sizes_upto_le (l : List VT) (i : Nat) : VT.sizes (l.take i) ≤ VT.sizes l := by
  induction l generalizing i with
  | nil => simp
  | cons a l ih => cases i with
    | zero => simp [VT.sizes]
    | succ i => simp only [List.take_succ_cons, VT.sizes]; have := ih i; omega
set_option maxRecDepth 100000 in
set_option maxHeartbeats 2000000 in
theorem rsize_any (N : Nat) (hN : N ≤ 1000000000) : ∀ (t : VT) (v : Value) (w : World), t.size ≤ N → VIn w t v →
    Calls Try.prog 134 #[v] w fun e w' => e = .returned (.int .i64 t.size) ∧ Below w.heap.size w w' := by
  induction N with
  | zero => intro t v w h; have := VT.size_pos t; omega
  | succ N ih =>
    intro t v w hs hv
    obtain ⟨k, n, l⟩ := t
    obtain ⟨a, cap, hlen, rfl, hr⟩ := hv.open
    have IH := Lib.hid (ih (by omega)); clear ih
    rw [VT.size] at hs
    have hln := VT.length_le_sizes l
    obtain ⟨w0, hw0, m0, s0, q0, q1, q2, _⟩ := box3 w (.int .u8 k) (.int .i64 n) (.slice a l.length cap) 25
    have hr0 := hr.below m0
    clear hr hv
    go_enter Try.func134, Try.ntmps134
    go_wp2_with fail
    go_loopw [3, 4] (fun x y wr => ∃ (p : Int) (i : Nat), x = .int .i64 p ∧ y = .int .i64 i ∧ i ≤ l.length ∧ p = 1 + VT.sizes (l.take i) ∧ Below w0.heap.size w0 wr) (fun _ y _ => l.length - (intOf y).toNat)
    case atStart => exact ⟨1, 0, rfl, rfl, by omega, by simp [VT.sizes], Below.refl _ _⟩
    case round =>
      obtain ⟨p, i, rfl, rfl, hi, hp, hB⟩ := hrel
      have b0 := VT.sizes_upto_le l i
      have b2 : 1 ≤ p ∧ p ≤ 1000000000 := by omega
      have HP := Lib.hid hp; clear hp b0
      have g0 := cell_stays hB q0
      have g1 := cell_stays hB q1
      have g2 := cell_stays hB q2
      by_cases hlt : i < l.length
      · obtain ⟨b, o, rfl, ax, cx, d0, d1, d2, hx⟩ := (hr0.below hB).got i hlt
        have hxs := VT.sizes_get hlt
        have e1 := VT.sizes_upto hlt
        have E1 := Lib.hid e1; clear e1
        go_wp2_with fail
        refine (IH.out l[i] _ _ (by omega) hx).mono ?_
        rintro e w1 ⟨rfl, hb1⟩
        have hB1 := hB.trans (hb1.mono hB.size)
        obtain ⟨q, hq⟩ : ∃ q : Nat, q = l[i].size := ⟨_, rfl⟩
        rw [← hq] at hxs ⊢
        rw [← hq] at E1
        clear hq hb1 hB g0 g1 g2 d0 d1 d2 hx
        go_wp2_with fail
        go_roundw
        case rel => exact ⟨_, i + 1, rfl, by go_num, by omega, by rw [E1.out, HP.out]; go_num, hB1⟩
        case measure => simp [intOf]; omega
      · have hii : i = l.length := by omega
        subst hii
        have n4 : decide ((l.length : Int) < (l.length : Int)) = false := by simp
        go_wp2_with fail
        go_ret
        exact ⟨ret_int (by rw [HP.out, List.take_length, VT.size]; omega), m0.trans (hB.mono m0.size)⟩

set_option maxRecDepth 100000 in
set_option maxHeartbeats 2000000 in
theorem rdeep_any (N : Nat) (hN : N ≤ 1000000000) : ∀ (t : VT) (v : Value) (w : World), t.size ≤ N → VIn w t v →
    Calls Try.prog 135 #[v] w fun e w' => e = .returned (.int .i64 t.deep) ∧ Below w.heap.size w w' := by
  induction N with
  | zero => intro t v w h; have := VT.size_pos t; omega
  | succ N ih =>
    intro t v w hs hv
    obtain ⟨k, n, l⟩ := t
    obtain ⟨a, cap, hlen, rfl, hr⟩ := hv.open
    have IH := Lib.hid (ih (by omega)); clear ih
    rw [VT.size] at hs
    have hln := VT.length_le_sizes l
    obtain ⟨w0, hw0, m0, s0, q0, q1, q2, _⟩ := box3 w (.int .u8 k) (.int .i64 n) (.slice a l.length cap) 25
    have hr0 := hr.below m0
    clear hr hv
    go_enter Try.func135, Try.ntmps135
    go_wp2_with fail
    go_loopw [3, 4] (fun x y wr => ∃ (p : Int) (i : Nat), x = .int .i64 p ∧ y = .int .i64 i ∧ i ≤ l.length ∧ p = VT.deeps (l.take i) ∧ Below w0.heap.size w0 wr) (fun _ y _ => l.length - (intOf y).toNat)
    case atStart => exact ⟨0, 0, rfl, rfl, by omega, by simp [VT.deeps], Below.refl _ _⟩
    case round =>
      obtain ⟨p, i, rfl, rfl, hi, hp, hB⟩ := hrel
      have b0 := VT.deeps_le (l.take i)
      have b1 := VT.sizes_upto_le l i
      have b2 : 0 ≤ p ∧ p ≤ 1000000000 := by omega
      have HP := Lib.hid hp; clear hp b0 b1
      have g0 := cell_stays hB q0
      have g1 := cell_stays hB q1
      have g2 := cell_stays hB q2
      by_cases hlt : i < l.length
      · obtain ⟨b, o, rfl, ax, cx, d0, d1, d2, hx⟩ := (hr0.below hB).got i hlt
        have hxs := VT.sizes_get hlt
        have hdl := VT.deep_le l[i]
        have e1 := VT.deeps_upto hlt
        have E1 := Lib.hid e1; clear e1
        go_wp2_with fail
        refine (IH.out l[i] _ _ (by omega) hx).mono ?_
        rintro e w1 ⟨rfl, hb1⟩
        have hB1 := hB.trans (hb1.mono hB.size)
        obtain ⟨q, hq⟩ : ∃ q : Nat, q = l[i].deep := ⟨_, rfl⟩
        rw [← hq] at hdl ⊢
        rw [← hq] at E1
        have hqb : q ≤ 1000000000 := by omega
        clear hq hb1 hB g0 g1 g2 d0 d1 d2 hx hdl
        go_wp2_with fail
        all_goals
          go_roundw
          case rel => exact ⟨_, i + 1, rfl, by go_num, by omega, by rw [E1.out]; have := HP.out; omega, hB1⟩
          case measure => simp [intOf]; omega
      · have hii : i = l.length := by omega
        subst hii
        have n4 : decide ((l.length : Int) < (l.length : Int)) = false := by simp
        go_wp2_with fail
        go_ret
        exact ⟨ret_int (by rw [HP.out, List.take_length, VT.deep]; go_num), m0.trans (hB.mono m0.size)⟩

set_option maxRecDepth 100000 in
set_option maxHeartbeats 4000000 in
theorem rnode_any (k n : Int) (a : Option Addr) (len cap : Nat) (w : World) :
    Calls Try.prog 149 #[.agg #[.int .u8 k, .int .i64 n, .slice a len cap]] w fun e w' => e = .returned (.int .i64 (VT.wrong k n len)) ∧ Below w.heap.size w w' := by
  have hk : k = 1 ∨ k = 2 ∨ k = 3 ∨ k = 4 ∨ k < 1 ∨ 4 < k := by omega
  rcases hk with rfl | rfl | rfl | rfl | h1 | h1
  all_goals
    go_enter Try.func149, Try.ntmps149
    go_wp2_with fail
    all_goals
      go_ret
      refine ⟨ret_int ?_, Below.al _⟩
      try simp only [bne_iff_ne, ne_eq, bne_eq_false_iff_eq] at *
      simp only [VT.wrong]
      simp (config := { failIfUnchanged := false }) only [*, if_true, if_false, true_and, false_and, or_false, true_or, Int.reduceEq, not_false_eq_true, not_true_eq_false, or_true, ne_eq]
      first | done | ((repeat' split) <;> omega)
end Go.Proofs.Yteebbffecaeciaa
/- tombolaref14.all, Check. -/
namespace Go.Proofs.Yteebbffecaeciaa
open Go.RowKit

theorem VT.firsts_upto : ∀ {l : List VT} {i : Nat} (h : i < l.length), VT.firsts (l.take (i + 1)) = if VT.firsts (l.take i) ≠ 0 then VT.firsts (l.take i) else l[i].first
  | a :: l, 0, _ => by simp [VT.firsts]; exact fun h => h.symm
  | a :: l, i + 1, h => by
    have ih := VT.firsts_upto (l := l) (i := i) (by simpa using h)
    rw [List.take_succ_cons, List.take_succ_cons, VT.firsts, VT.firsts, List.getElem_cons_succ, ih]
    by_cases e : a.first = 0 <;> simp [e]
theorem VT.firsts_stop : ∀ {l : List VT} {i : Nat}, VT.firsts (l.take i) ≠ 0 → VT.firsts l = VT.firsts (l.take i)
  | [], i, h => by simp
  | a :: l, 0, h => by simp [VT.firsts] at h
  | a :: l, i + 1, h => by
    rw [List.take_succ_cons, VT.firsts] at h ⊢
    rw [VT.firsts]
    by_cases e : a.first = 0
    · simp only [e, ne_eq, not_true_eq_false, if_false] at h ⊢
      exact VT.firsts_stop h
    · simp [e]
/-- what 'all' knows behind i items. -/
def VT.so (k n : Int) (l : List VT) (i : Nat) : Int := if VT.wrong k n l.length ≠ 0 then VT.wrong k n l.length else VT.firsts (l.take i)
theorem VT.so_zero (k n : Int) (l : List VT) : VT.so k n l 0 = VT.wrong k n l.length := by
  unfold VT.so; by_cases e : VT.wrong k n l.length = 0 <;> simp [e, VT.firsts]
theorem VT.so_step {k n : Int} {l : List VT} {i : Nat} (h : i < l.length) (h0 : VT.so k n l i = 0) : VT.so k n l (i + 1) = l[i].first := by
  unfold VT.so at *
  by_cases e : VT.wrong k n l.length = 0
  · simp only [e, ne_eq, not_true_eq_false, if_false] at h0 ⊢
    rw [VT.firsts_upto h, h0]; simp
  · simp [e] at h0
theorem VT.so_end {k n : Int} {l : List VT} {i : Nat} (h : i = l.length ∨ VT.so k n l i ≠ 0) : VT.so k n l i = (VT.mk k n l).first := by
  rw [VT.first]
  unfold VT.so at *
  by_cases e : VT.wrong k n l.length = 0
  · simp only [e, ne_eq, not_true_eq_false, if_false] at h ⊢
    rcases h with rfl | h
    · rw [List.take_length]
    · rw [VT.firsts_stop h]
  · simp [e]

set_option maxRecDepth 100000 in
set_option maxHeartbeats 2000000 in
theorem rall_any (N : Nat) (hN : N ≤ 1000000000) : ∀ (t : VT) (v : Value) (w : World), t.size ≤ N → VIn w t v →
    Calls Try.prog 145 #[v] w fun e w' => e = .returned (.int .i64 t.first) ∧ Below w.heap.size w w' := by
  induction N with
  | zero => intro t v w h; have := VT.size_pos t; omega
  | succ N ih =>
    intro t v w hs hv
    obtain ⟨k, n, l⟩ := t
    obtain ⟨a, cap, hlen, rfl, hr⟩ := hv.open
    have IH := Lib.hid (ih (by omega)); clear ih
    rw [VT.size] at hs
    have hln := VT.length_le_sizes l
    obtain ⟨w0, hw0, m0, s0, q0, q1, q2, _⟩ := box3 w (.int .u8 k) (.int .i64 n) (.slice a l.length cap) 25
    have hr0 := hr.below m0
    clear hr hv
    go_enter Try.func145, Try.ntmps145
    go_wp2_with fail
    refine (rnode_any k n a l.length cap _).mono ?_
    rintro e w1 ⟨rfl, hb1⟩
    rw [← VT.so_zero]
    go_wp2_with fail
    go_loopw [3, 4] (fun x y wr => ∃ (p : Int) (i : Nat), x = .int .i64 p ∧ y = .int .i64 i ∧ i ≤ l.length ∧ p = VT.so k n l i ∧ Below w0.heap.size w0 wr) (fun _ y _ => l.length - (intOf y).toNat)
    case atStart => exact ⟨_, 0, rfl, rfl, by omega, rfl, hb1⟩
    case round =>
      clear hb1
      obtain ⟨p, i, rfl, rfl, hi, hp, hB⟩ := hrel
      have HP := Lib.hid hp; clear hp
      have g0 := cell_stays hB q0
      have g1 := cell_stays hB q1
      have g2 := cell_stays hB q2
      by_cases hlt : i < l.length
      · obtain ⟨b, o, rfl, ax, cx, d0, d1, d2, hx⟩ := (hr0.below hB).got i hlt
        have hxs := VT.sizes_get hlt
        by_cases hp0 : p = 0
        · have e1 := VT.so_step hlt (by rw [← HP.out]; exact hp0)
          have E1 := Lib.hid e1; clear e1
          subst hp0
          go_wp2_with fail
          refine (IH.out l[i] _ _ (by omega) hx).mono ?_
          rintro e w1 ⟨rfl, hb1⟩
          have hB1 := hB.trans (hb1.mono hB.size)
          clear hb1 hB g0 g1 g2 d0 d1 d2 hx
          go_wp2_with fail
          go_roundw
          case rel => exact ⟨_, i + 1, rfl, by go_num, by omega, by rw [E1.out], hB1⟩
          case measure => simp [intOf]; omega
        · have hpb : (p == 0) = false := by simpa using hp0
          go_wp2_with fail
          go_ret
          exact ⟨ret_int (by rw [HP.out]; exact VT.so_end (.inr (by rw [← HP.out]; exact hp0))), m0.trans (hB.mono m0.size)⟩
      · have hii : i = l.length := by omega
        have n4 : decide ((i : Int) < (l.length : Int)) = false := by simp; omega
        go_wp2_with fail
        go_ret
        exact ⟨ret_int (by rw [HP.out]; exact VT.so_end (.inl hii)), m0.trans (hB.mono m0.size)⟩

set_option maxRecDepth 100000 in
set_option maxHeartbeats 2000000 in
theorem rcheck_any (t : VT) (v : Value) (w : World) (hs : t.size ≤ 1000000000) (hv : VIn w t v) :
    Calls Try.prog 140 #[v] w fun e w' => e = .returned (.int .i64 t.check) ∧ Below w.heap.size w w' := by
  obtain ⟨k, n, l⟩ := t
  obtain ⟨a, cap, hlen, rfl, hr⟩ := hv.open
  obtain ⟨w0, hw0, m0, s0, q0, q1, q2, _⟩ := box3 w (.int .u8 k) (.int .i64 n) (.slice a l.length cap) 25
  have hv0 := hv.below m0
  clear hr hv
  have hB := Below.refl w0.heap.size w0
  have hdl := VT.deep_le (VT.mk k n l)
  have hc : (VT.mk k n l).check = if (VT.mk k n l).first ≠ 0 then (VT.mk k n l).first else if 128 < (VT.mk k n l).deep then 9 else if 4096 < (VT.mk k n l).size then 5 else 0 := rfl
  obtain ⟨f, hf⟩ : ∃ f, f = (VT.mk k n l).first := ⟨_, rfl⟩
  obtain ⟨dd, hd⟩ : ∃ dd, dd = (VT.mk k n l).deep := ⟨_, rfl⟩
  obtain ⟨ss, hss⟩ : ∃ ss, ss = (VT.mk k n l).size := ⟨_, rfl⟩
  rw [← hf, ← hd, ← hss] at hc
  rw [← hd, ← hss] at hdl
  have HC := Lib.hid hc; have HF := Lib.hid hf; have HD := Lib.hid hd; have HS := Lib.hid hss; have HSZ := Lib.hid hs
  have hsb : ss ≤ 1000000000 := by rw [hss]; exact hs
  clear hc hf hd hss hs
  go_enter Try.func140, Try.ntmps140
  go_wp2_with fail
  refine (rall_any _ HSZ.out _ _ _ (Nat.le_refl _) hv0).mono ?_
  rintro e w1 ⟨rfl, hb1⟩
  rw [← HF.out]
  have g0 := cell_stays hb1 q0
  have g1 := cell_stays hb1 q1
  have g2 := cell_stays hb1 q2
  have hv1 := hv0.below hb1
  by_cases hf0 : f = 0
  · have hc2 : (VT.mk k n l).check = if 128 < dd then 9 else if 4096 < ss then 5 else 0 := by rw [HC.out, if_neg (by simpa using hf0)]
    have HC2 := Lib.hid hc2; clear hc2
    subst hf0
    go_wp2_with fail
    refine (rdeep_any _ HSZ.out _ _ _ (Nat.le_refl _) hv1).mono ?_
    rintro e w2 ⟨rfl, hb2⟩
    rw [← HD.out]
    have p0 := cell_stays hb2 g0
    have p1 := cell_stays hb2 g1
    have p2 := cell_stays hb2 g2
    have hv2 := hv1.below hb2
    have hB2 := hb1.trans (hb2.mono hb1.size)
    clear hb1 hb2 hv0 hv1 q0 q1 q2 g0 g1 g2 hB
    by_cases h1 : 128 < dd
    · have h1' : decide (128 < (dd : Int)) = true := by simp; omega
      go_wp2_with fail
      go_ret
      exact ⟨ret_int (by rw [HC2.out, if_pos h1]), m0.trans (hB2.mono m0.size)⟩
    · have h1' : decide (128 < (dd : Int)) = false := by simp; omega
      go_wp2_with fail
      refine (rsize_any _ HSZ.out _ _ _ (Nat.le_refl _) hv2).mono ?_
      rintro e w3 ⟨rfl, hb3⟩
      rw [← HS.out]
      have hB3 := hB2.trans (hb3.mono hB2.size)
      clear hb3 hB2 p0 p1 p2 hv2
      by_cases h2 : 4096 < ss
      · have h2' : decide (4096 < (ss : Int)) = true := by simp; omega
        go_wp2_with fail
        go_ret
        exact ⟨ret_int (by rw [HC2.out, if_neg h1, if_pos h2]), m0.trans (hB3.mono m0.size)⟩
      · have h2' : decide (4096 < (ss : Int)) = false := by simp; omega
        go_wp2_with fail
        go_ret
        exact ⟨ret_int (by rw [HC2.out, if_neg h1, if_neg h2]), m0.trans (hB3.mono m0.size)⟩
  · have hfb : (f == 0) = false := by simpa using hf0
    go_wp2_with fail
    go_ret
    exact ⟨ret_int (by rw [HC.out, if_pos hf0]), m0.trans (hb1.mono m0.size)⟩
end Go.Proofs.Yteebbffecaeciaa
