/- tombolaref14.Size, Deep, node, all, Check. -/
import Derived.Test.YtclmnpfdnhfbmaaVBox
namespace Go.Proofs.Ytclmnpfdnhfbmaa
open Go.RowKit

theorem VT.sizes_upto {l : List VT} {i : Nat} (h : i < l.length) : VT.sizes (l.take (i + 1)) = VT.sizes (l.take i) + l[i].size := by
  induction l generalizing i with
  | nil => simp at h
  | cons a l ih =>
    cases i with
    | zero => simp [VT.sizes]
    | succ i => simp only [List.take_succ_cons, VT.sizes, List.getElem_cons_succ]; rw [ih (by simpa using h)]; omega
theorem VT.deeps_upto {l : List VT} {i : Nat} (h : i < l.length) : VT.deeps (l.take (i + 1)) = max (VT.deeps (l.take i)) l[i].deep := by
  induction l generalizing i with
  | nil => simp at h
  | cons a l ih =>
    cases i with
    | zero => simp [VT.deeps]
    | succ i => simp only [List.take_succ_cons, VT.deeps, List.getElem_cons_succ]; rw [ih (by simpa using h)]; omega
theorem VT.sizes_upto_le (l : List VT) (i : Nat) : VT.sizes (l.take i) ≤ VT.sizes l := by
  induction l generalizing i with
  | nil => simp
  | cons a l ih => cases i with
    | zero => simp [VT.sizes]
    | succ i => simp only [List.take_succ_cons, VT.sizes]; have := ih i; omega
theorem VT.deeps_upto_le (l : List VT) : VT.deeps l ≤ VT.sizes l := by
  induction l with
  | nil => simp [VT.deeps]
  | cons a l ih => simp only [VT.deeps, VT.sizes]; have := VT.deep_le a; omega

set_option maxRecDepth 100000 in
set_option maxHeartbeats 2000000 in
theorem rsize_any (N : Nat) (hN : N ≤ 1000000000) : ∀ (t : VT) (v : Value) (w : World), t.size ≤ N → VIn w t v →
    Calls Try.prog 69 #[v] w fun e w' => e = .returned (.int .i64 t.size) ∧ Below w.heap.size w w' := by
  induction N with
  | zero => intro t v w h; have := VT.size_pos t; omega
  | succ N ih =>
    intro t v w hs hv
    obtain ⟨k, n, l⟩ := t
    obtain ⟨a, cap, hlen, rfl, hr⟩ := hv.open
    have IH := Lib.hid (ih (by omega)); clear ih
    rw [VT.size] at hs
    have hln := VT.length_le_sizes l
    obtain ⟨w0, hw0, m0, s0, q0, q1, q2, _⟩ := box3 w (.int .u8 k) (.int .i64 n) (.slice a l.length cap) 24
    have hr0 := hr.below m0
    clear hr hv
    go_enter Try.func69, Try.ntmps69
    go_wp2_with fail
    go_loopw [3, 4] (fun x y wr => ∃ (p : Int) (i : Nat), x = .int .i64 p ∧ y = .int .i64 i ∧ i ≤ l.length ∧ p = 1 + VT.sizes (l.take i) ∧ Below w0.heap.size w0 wr) (fun _ y _ => l.length - (intOf y).toNat)
    case atStart => exact ⟨1, 0, rfl, rfl, by omega, by simp [VT.sizes], Below.refl _ _⟩
    case round =>
      obtain ⟨p, i, rfl, rfl, hi, hp, hB⟩ := hrel
      have b0 := VT.sizes_upto_le l i
      have b2 : 1 ≤ p ∧ p ≤ 1000000000 := by omega
      have HP := Lib.hid hp; clear hp b0
      have g0 := cell_stays hB q0
      have g1 := cell_stays hB q1
      have g2 := cell_stays hB q2
      by_cases hlt : i < l.length
      · obtain ⟨b, o, rfl, ax, cx, d0, d1, d2, hx⟩ := (hr0.below hB).got i hlt
        have hxs := VT.sizes_get hlt
        have e1 := VT.sizes_upto hlt
        have E1 := Lib.hid e1; clear e1
        go_wp2_with fail
        refine (IH.out l[i] _ _ (by omega) hx).mono ?_
        rintro e w1 ⟨rfl, hb1⟩
        have hB1 := hB.trans (hb1.mono hB.size)
        obtain ⟨q, hq⟩ : ∃ q : Nat, q = l[i].size := ⟨_, rfl⟩
        rw [← hq] at hxs ⊢
        rw [← hq] at E1
        clear hq hb1 hB g0 g1 g2 d0 d1 d2 hx
        go_wp2_with fail
        go_roundw
        case rel => exact ⟨_, i + 1, rfl, by go_num, by omega, by rw [E1.out, HP.out]; go_num, hB1⟩
        case measure => simp [intOf]; omega
      · have hii : i = l.length := by omega
        subst hii
        have n4 : decide ((l.length : Int) < (l.length : Int)) = false := by simp
        go_wp2_with fail
        go_ret
        exact ⟨ret_int (by rw [HP.out, List.take_length, VT.size]; omega), m0.trans (hB.mono m0.size)⟩

set_option maxRecDepth 100000 in
set_option maxHeartbeats 2000000 in
theorem rdeep_any (N : Nat) (hN : N ≤ 1000000000) : ∀ (t : VT) (v : Value) (w : World), t.size ≤ N → VIn w t v →
    Calls Try.prog 88 #[v] w fun e w' => e = .returned (.int .i64 t.deep) ∧ Below w.heap.size w w' := by
  induction N with
  | zero => intro t v w h; have := VT.size_pos t; omega
  | succ N ih =>
    intro t v w hs hv
    obtain ⟨k, n, l⟩ := t
    obtain ⟨a, cap, hlen, rfl, hr⟩ := hv.open
    have IH := Lib.hid (ih (by omega)); clear ih
    rw [VT.size] at hs
    have hln := VT.length_le_sizes l
    obtain ⟨w0, hw0, m0, s0, q0, q1, q2, _⟩ := box3 w (.int .u8 k) (.int .i64 n) (.slice a l.length cap) 24
    have hr0 := hr.below m0
    clear hr hv
    go_enter Try.func88, Try.ntmps88
    go_wp2_with fail
    go_loopw [3, 4] (fun x y wr => ∃ (p : Int) (i : Nat), x = .int .i64 p ∧ y = .int .i64 i ∧ i ≤ l.length ∧ p = VT.deeps (l.take i) ∧ Below w0.heap.size w0 wr) (fun _ y _ => l.length - (intOf y).toNat)
    case atStart => exact ⟨0, 0, rfl, rfl, by omega, by simp [VT.deeps], Below.refl _ _⟩
    case round =>
      obtain ⟨p, i, rfl, rfl, hi, hp, hB⟩ := hrel
      have b0 := VT.deeps_le (l.take i)
      have b1 := VT.sizes_upto_le l i
      have b2 : 0 ≤ p ∧ p ≤ 1000000000 := by omega
      have HP := Lib.hid hp; clear hp b0 b1
      have g0 := cell_stays hB q0
      have g1 := cell_stays hB q1
      have g2 := cell_stays hB q2
      by_cases hlt : i < l.length
      · obtain ⟨b, o, rfl, ax, cx, d0, d1, d2, hx⟩ := (hr0.below hB).got i hlt
        have hxs := VT.sizes_get hlt
        have hdl := VT.deep_le l[i]
        have e1 := VT.deeps_upto hlt
        have E1 := Lib.hid e1; clear e1
        go_wp2_with fail
        refine (IH.out l[i] _ _ (by omega) hx).mono ?_
        rintro e w1 ⟨rfl, hb1⟩
        have hB1 := hB.trans (hb1.mono hB.size)
        obtain ⟨q, hq⟩ : ∃ q : Nat, q = l[i].deep := ⟨_, rfl⟩
        rw [← hq] at hdl ⊢
        rw [← hq] at E1
        have hqb : q ≤ 1000000000 := by omega
        clear hq hb1 hB g0 g1 g2 d0 d1 d2 hx hdl
        go_wp2_with fail
        all_goals
          go_roundw
          case rel => exact ⟨_, i + 1, rfl, by go_num, by omega, by rw [E1.out]; have := HP.out; omega, hB1⟩
          case measure => simp [intOf]; omega
      · have hii : i = l.length := by omega
        subst hii
        have n4 : decide ((l.length : Int) < (l.length : Int)) = false := by simp
        go_wp2_with fail
        go_ret
        exact ⟨ret_int (by rw [HP.out, List.take_length, VT.deep]; go_num), m0.trans (hB.mono m0.size)⟩

set_option maxRecDepth 100000 in
set_option maxHeartbeats 4000000 in
theorem rnode_any (k n : Int) (a : Option Addr) (len cap : Nat) (w : World) :
    Calls Try.prog 89 #[.agg #[.int .u8 k, .int .i64 n, .slice a len cap]] w fun e w' => e = .returned (.int .i64 (VT.wrong k n len)) ∧ Below w.heap.size w w' := by
  have hk : k = 1 ∨ k = 2 ∨ k = 3 ∨ k = 4 ∨ k < 1 ∨ 4 < k := by omega
  rcases hk with rfl | rfl | rfl | rfl | h1 | h1
  all_goals
    go_enter Try.func89, Try.ntmps89
    go_wp2_with fail
    all_goals
      go_ret
      refine ⟨ret_int ?_, Below.al _⟩
      try simp only [bne_iff_ne, ne_eq, bne_eq_false_iff_eq] at *
      simp only [VT.wrong]
      simp (config := { failIfUnchanged := false }) only [*, if_true, if_false, true_and, false_and, or_false, true_or, Int.reduceEq, not_false_eq_true, not_true_eq_false, or_true, ne_eq]
      first | done | ((repeat' split) <;> omega)
end Go.Proofs.Ytclmnpfdnhfbmaa
