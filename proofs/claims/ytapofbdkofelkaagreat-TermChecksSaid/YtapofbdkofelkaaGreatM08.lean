/- Texts of this claim laid into one: PWalkF, TWalkA, VGrow. -/
import Derived.Test.YtapofbdkofelkaaGreatM07
import Derived.Test.YtapofbdkofelkaaGreatM01
import Derived.Deep.AppendSrc
import Derived.Laws.AppendOwn
import Derived.OwnWalk
/- Deep, Nothing of pred and of the document. -/
namespace Go.Proofs.YtapofbdkofelkaaGreat
open Go.RowKit

set_option maxRecDepth 100000 in
set_option maxHeartbeats 4000000 in
theorem nothing_any (t : PT) (x : Value) (w : World) (hx : PIn w t x) :
    Calls Tryz.prog 68 #[x] w fun e w' => e = .returned (.bool t.nothing) ∧ Below w.heap.size w w' := by
  obtain ⟨k, v, n, l⟩ := t
  obtain ⟨va, vc, a, cap, hlen, hvl, rfl, hv, hr⟩ := hx.open
  obtain ⟨w0, hw0, m0, s0, q0, q1, q2, q3, q4, q5⟩ := box6 w (.int .u8 k) (.int .u8 v.kind) (.int .i64 v.num) (.slice va v.items.length vc) (.int .i64 n) (.slice a l.length cap) 28
  have hc : (PT.mk k v n l).nothing = (k == 0 && v.none && n == 0 && l.length == 0) := rfl
  have HC := Lib.hid hc; clear hc
  by_cases hk : k = 0
  · subst hk
    obtain ⟨z, hz⟩ : ∃ z, z = v.none := ⟨_, rfl⟩
    rw [← hz] at HC
    have HZ := Lib.hid hz; clear hz
    cases z
    · go_enter Tryz.func68, Tryz.ntmps68
      go_wp2_with fail
      refine (none_any _ _ _ _ _ _).mono ?_
      rintro e w1 ⟨rfl, hb1⟩
      rw [← PT.none_eq, ← HZ.out]
      go_wp2_with fail
      go_ret
      exact ⟨ret_bool (by rw [HC.out]; simp), m0.trans (hb1.mono m0.size)⟩
    · cases hn : (n == 0)
      all_goals
        go_enter Tryz.func68, Tryz.ntmps68
        go_wp2_with fail
        refine (none_any _ _ _ _ _ _).mono ?_
        rintro e w1 ⟨rfl, hb1⟩
        rw [← PT.none_eq, ← HZ.out]
        have g4 := cell_stays hb1 q4
        have g5 := cell_stays hb1 q5
        clear q0 q1 q2 q3 q4 q5
        go_wp2_with fail
        go_ret
        exact ⟨ret_bool (by rw [HC.out, hn, Bool.eq_iff_iff]; simp), m0.trans (hb1.mono m0.size)⟩
  · have hk0 : (k == 0) = false := by simpa using hk
    go_enter Tryz.func68, Tryz.ntmps68
    go_wp2_with fail
    go_ret
    exact ⟨ret_bool (by rw [HC.out, hk0]; simp), m0⟩
set_option maxRecDepth 100000 in
set_option maxHeartbeats 4000000 in
theorem rnothing_any (t : PT) (x : Value) (w : World) (hx : PIn w t x) :
    Calls Tryz.prog 75 #[x] w fun e w' => e = .returned (.bool t.nothing) ∧ Below w.heap.size w w' := by
  obtain ⟨k, v, n, l⟩ := t
  obtain ⟨va, vc, a, cap, hlen, hvl, rfl, hv, hr⟩ := hx.open
  obtain ⟨w0, hw0, m0, s0, q0, q1, q2, q3, q4, q5⟩ := box6 w (.int .u8 k) (.int .u8 v.kind) (.int .i64 v.num) (.slice va v.items.length vc) (.int .i64 n) (.slice a l.length cap) 28
  have hc : (PT.mk k v n l).nothing = (k == 0 && v.none && n == 0 && l.length == 0) := rfl
  have HC := Lib.hid hc; clear hc
  by_cases hk : k = 0
  · subst hk
    obtain ⟨z, hz⟩ : ∃ z, z = v.none := ⟨_, rfl⟩
    rw [← hz] at HC
    have HZ := Lib.hid hz; clear hz
    cases z
    · go_enter Tryz.func75, Tryz.ntmps75
      go_wp2_with fail
      refine (rnone_any _ _ _ _ _ _).mono ?_
      rintro e w1 ⟨rfl, hb1⟩
      rw [← PT.none_eq, ← HZ.out]
      go_wp2_with fail
      go_ret
      exact ⟨ret_bool (by rw [HC.out]; simp), m0.trans (hb1.mono m0.size)⟩
    · cases hn : (n == 0)
      all_goals
        go_enter Tryz.func75, Tryz.ntmps75
        go_wp2_with fail
        refine (rnone_any _ _ _ _ _ _).mono ?_
        rintro e w1 ⟨rfl, hb1⟩
        rw [← PT.none_eq, ← HZ.out]
        have g4 := cell_stays hb1 q4
        have g5 := cell_stays hb1 q5
        clear q0 q1 q2 q3 q4 q5
        go_wp2_with fail
        go_ret
        exact ⟨ret_bool (by rw [HC.out, hn, Bool.eq_iff_iff]; simp), m0.trans (hb1.mono m0.size)⟩
  · have hk0 : (k == 0) = false := by simpa using hk
    go_enter Tryz.func75, Tryz.ntmps75
    go_wp2_with fail
    go_ret
    exact ⟨ret_bool (by rw [HC.out, hk0]; simp), m0⟩

set_option maxRecDepth 100000 in
set_option maxHeartbeats 4000000 in
theorem pcheck_any (t : PT) (x : Value) (w : World) (hs : t.cnt ≤ 1000000) (hf : t.fat ≤ 100000) (hx : PIn w t x) :
    Calls Tryz.prog 67 #[x] w fun e w' => e = .returned (.tuple #[.int .i64 t.check.1, .int .i64 t.check.2]) ∧ Below w.heap.size w w' := by
  have hx0 := hx
  obtain ⟨k, v, n, l⟩ := t
  obtain ⟨va, vc, a, cap, hlen, hvl, rfl, hv, hr⟩ := hx.open
  obtain ⟨w0, hw0, m0, s0, q0, q1, q2, q3, q4, q5⟩ := box6 w (.int .u8 k) (.int .u8 v.kind) (.int .i64 v.num) (.slice va v.items.length vc) (.int .i64 n) (.slice a l.length cap) 28
  have hx1 := hx0.below m0
  clear hx hx0 hv hr
  have hc : (PT.mk k v n l).check = if ((PT.mk k v n l).chk 0 1).2 ≠ 0 then (PT.mk k v n l).chk 0 1 else if 512 < (PT.mk k v n l).nodes then (0, 5) else (0, 0) := rfl
  have hnl := PT.nodes_le 100000 (PT.mk k v n l) hf
  obtain ⟨r, hr⟩ : ∃ r, r = (PT.mk k v n l).chk 0 1 := ⟨_, rfl⟩
  obtain ⟨nn, hnn⟩ : ∃ nn, nn = (PT.mk k v n l).nodes := ⟨_, rfl⟩
  rw [← hr, ← hnn] at hc
  rw [← hnn] at hnl
  have hnb : nn ≤ 200000000000 := by omega
  have HC := Lib.hid hc; have HR := Lib.hid hr; have HN := Lib.hid hnn; have HS := Lib.hid hs; have HF := Lib.hid hf
  clear hc hr hnn hnl hs hf
  obtain ⟨r1, r2⟩ := r
  go_enter Tryz.func67, Tryz.ntmps67
  go_wp2_with fail
  refine (chk_any 1000000 (by omega) _ _ 0 1 _ HS.out HF.out (by omega) (by have := HS.out; omega) (by omega) (by omega) hx1).mono ?_
  rintro e w1 ⟨rfl, hb1⟩
  rw [← HR.out]
  have g0 := cell_stays hb1 q0
  have g1 := cell_stays hb1 q1
  have g2 := cell_stays hb1 q2
  have g3 := cell_stays hb1 q3
  have g4 := cell_stays hb1 q4
  have g5 := cell_stays hb1 q5
  have hx2 := hx1.below hb1
  clear q0 q1 q2 q3 q4 q5 hx1
  by_cases h0 : r2 = 0
  · subst h0
    go_wp2_with fail
    refine (nodes_any 1000000 (by omega) _ _ _ HS.out HF.out hx2).mono ?_
    rintro e w2 ⟨rfl, hb2⟩
    rw [← HN.out]
    have hB2 := hb1.trans (hb2.mono hb1.size)
    clear hb1 hb2 hx2 g0 g1 g2 g3 g4 g5
    by_cases h5 : 512 < nn
    · go_wp2_with fail
      refine bodyPost_ret (v := .tuple #[.int .i64 0, .int .i64 5]) (by simp [results, Tryz.results67, go_sem]) rfl ⟨by rw [HC.out, if_neg (by simp), if_pos (by omega)], m0.trans (hB2.mono m0.size)⟩
    · go_wp2_with fail
      refine bodyPost_ret (v := .tuple #[.int .i64 0, .int .i64 0]) (by simp [results, Tryz.results67, go_sem]) rfl ⟨by rw [HC.out, if_neg (by simp), if_neg (by omega)], m0.trans (hB2.mono m0.size)⟩
  · have hb : (r2 != 0) = true := by simpa using h0
    have H0 := Lib.hid h0; clear h0
    go_wp2_with fail
    refine bodyPost_ret (v := .tuple #[.int .i64 r1, .int .i64 r2]) (by simp [results, Tryz.results67, go_sem]) rfl ⟨by rw [HC.out, if_pos H0.out], m0.trans (hb1.mono m0.size)⟩
set_option maxRecDepth 100000 in
set_option maxHeartbeats 4000000 in
theorem rpcheck_any (t : PT) (x : Value) (w : World) (hs : t.cnt ≤ 1000000) (hf : t.fat ≤ 100000) (hx : PIn w t x) :
    Calls Tryz.prog 74 #[x] w fun e w' => e = .returned (.tuple #[.int .i64 t.check.1, .int .i64 t.check.2]) ∧ Below w.heap.size w w' := by
  have hx0 := hx
  obtain ⟨k, v, n, l⟩ := t
  obtain ⟨va, vc, a, cap, hlen, hvl, rfl, hv, hr⟩ := hx.open
  obtain ⟨w0, hw0, m0, s0, q0, q1, q2, q3, q4, q5⟩ := box6 w (.int .u8 k) (.int .u8 v.kind) (.int .i64 v.num) (.slice va v.items.length vc) (.int .i64 n) (.slice a l.length cap) 28
  have hx1 := hx0.below m0
  clear hx hx0 hv hr
  have hc : (PT.mk k v n l).check = if ((PT.mk k v n l).chk 0 1).2 ≠ 0 then (PT.mk k v n l).chk 0 1 else if 512 < (PT.mk k v n l).nodes then (0, 5) else (0, 0) := rfl
  have hnl := PT.nodes_le 100000 (PT.mk k v n l) hf
  obtain ⟨r, hr⟩ : ∃ r, r = (PT.mk k v n l).chk 0 1 := ⟨_, rfl⟩
  obtain ⟨nn, hnn⟩ : ∃ nn, nn = (PT.mk k v n l).nodes := ⟨_, rfl⟩
  rw [← hr, ← hnn] at hc
  rw [← hnn] at hnl
  have hnb : nn ≤ 200000000000 := by omega
  have HC := Lib.hid hc; have HR := Lib.hid hr; have HN := Lib.hid hnn; have HS := Lib.hid hs; have HF := Lib.hid hf
  clear hc hr hnn hnl hs hf
  obtain ⟨r1, r2⟩ := r
  go_enter Tryz.func74, Tryz.ntmps74
  go_wp2_with fail
  refine (rchk_any 1000000 (by omega) _ _ 0 1 _ HS.out HF.out (by omega) (by have := HS.out; omega) (by omega) (by omega) hx1).mono ?_
  rintro e w1 ⟨rfl, hb1⟩
  rw [← HR.out]
  have g0 := cell_stays hb1 q0
  have g1 := cell_stays hb1 q1
  have g2 := cell_stays hb1 q2
  have g3 := cell_stays hb1 q3
  have g4 := cell_stays hb1 q4
  have g5 := cell_stays hb1 q5
  have hx2 := hx1.below hb1
  clear q0 q1 q2 q3 q4 q5 hx1
  by_cases h0 : r2 = 0
  · subst h0
    go_wp2_with fail
    refine (rnodes_any 1000000 (by omega) _ _ _ HS.out HF.out hx2).mono ?_
    rintro e w2 ⟨rfl, hb2⟩
    rw [← HN.out]
    have hB2 := hb1.trans (hb2.mono hb1.size)
    clear hb1 hb2 hx2 g0 g1 g2 g3 g4 g5
    by_cases h5 : 512 < nn
    · go_wp2_with fail
      refine bodyPost_ret (v := .tuple #[.int .i64 0, .int .i64 5]) (by simp [results, Tryz.results74, go_sem]) rfl ⟨by rw [HC.out, if_neg (by simp), if_pos (by omega)], m0.trans (hB2.mono m0.size)⟩
    · go_wp2_with fail
      refine bodyPost_ret (v := .tuple #[.int .i64 0, .int .i64 0]) (by simp [results, Tryz.results74, go_sem]) rfl ⟨by rw [HC.out, if_neg (by simp), if_neg (by omega)], m0.trans (hB2.mono m0.size)⟩
  · have hb : (r2 != 0) = true := by simpa using h0
    have H0 := Lib.hid h0; clear h0
    go_wp2_with fail
    refine bodyPost_ret (v := .tuple #[.int .i64 r1, .int .i64 r2]) (by simp [results, Tryz.results74, go_sem]) rfl ⟨by rw [HC.out, if_pos H0.out], m0.trans (hb1.mono m0.size)⟩
end Go.Proofs.YtapofbdkofelkaaGreat
/- term's and the document's small functions over a node. -/
namespace Go.Proofs.YtapofbdkofelkaaGreat
open Go.RowKit

theorem box15 (w : World) (x0 x1 x2 x3 x4 x5 x6 x7 x8 x9 x10 x11 x12 x13 x14 : Value) (T : Nat) : ∃ w4, w.alloc (.cells #[x0, x1, x2, x3, x4, x5, x6, x7, x8, x9, x10, x11, x12, x13, x14] T) = w4 ∧ Below w.heap.size w w4 ∧ w.heap.size < w4.heap.size ∧ RowAt w4 T w.heap.size 15 ∧
    w4.cell? ⟨w.heap.size, 0, none⟩ = some x0 ∧ w4.cell? ⟨w.heap.size, 1, none⟩ = some x1 ∧ w4.cell? ⟨w.heap.size, 2, none⟩ = some x2 ∧ w4.cell? ⟨w.heap.size, 3, none⟩ = some x3 ∧ w4.cell? ⟨w.heap.size, 4, none⟩ = some x4 ∧ w4.cell? ⟨w.heap.size, 5, none⟩ = some x5 ∧ w4.cell? ⟨w.heap.size, 6, none⟩ = some x6 ∧ w4.cell? ⟨w.heap.size, 7, none⟩ = some x7 ∧ w4.cell? ⟨w.heap.size, 8, none⟩ = some x8 ∧ w4.cell? ⟨w.heap.size, 9, none⟩ = some x9 ∧ w4.cell? ⟨w.heap.size, 10, none⟩ = some x10 ∧ w4.cell? ⟨w.heap.size, 11, none⟩ = some x11 ∧ w4.cell? ⟨w.heap.size, 12, none⟩ = some x12 ∧ w4.cell? ⟨w.heap.size, 13, none⟩ = some x13 ∧ w4.cell? ⟨w.heap.size, 14, none⟩ = some x14 := by
  refine ⟨_, rfl, Below.al _, by simp, RowAt.new w _ T, ?_, ?_, ?_, ?_, ?_, ?_, ?_, ?_, ?_, ?_, ?_, ?_, ?_, ?_, ?_⟩
  all_goals go_simp

theorem tnone_any (k n : Int) (a : Option Addr) (len cap : Nat) (w : World) :
    Calls Tryz.prog 65 #[.agg #[.int .u8 k, .int .i64 n, .slice a len cap]] w fun e w' => e = .returned (.bool (k == 0 && n == 0 && len == 0)) ∧ Below w.heap.size w w' := by
  have hk : (k == 0) = true ∨ (k == 0) = false := by cases h : (k == 0) <;> simp
  have hn : (n == 0) = true ∨ (n == 0) = false := by cases h : (n == 0) <;> simp
  rcases hk with hk | hk
  · rcases hn with hn | hn
    · go_enter Tryz.func65, Tryz.ntmps65
      go_wp2_with fail
      go_ret
      exact ⟨ret_bool (by rw [hk, hn, Bool.eq_iff_iff]; simp), Below.al _⟩
    · go_enter Tryz.func65, Tryz.ntmps65
      go_wp2_with fail
      go_ret
      exact ⟨ret_bool (by rw [hk, hn]; rfl), Below.al _⟩
  · go_enter Tryz.func65, Tryz.ntmps65
    go_wp2_with fail
    go_ret
    exact ⟨ret_bool (by rw [hk]; rfl), Below.al _⟩
theorem rtnone_any (k n : Int) (a : Option Addr) (len cap : Nat) (w : World) :
    Calls Tryz.prog 73 #[.agg #[.int .u8 k, .int .i64 n, .slice a len cap]] w fun e w' => e = .returned (.bool (k == 0 && n == 0 && len == 0)) ∧ Below w.heap.size w w' := by
  have hk : (k == 0) = true ∨ (k == 0) = false := by cases h : (k == 0) <;> simp
  have hn : (n == 0) = true ∨ (n == 0) = false := by cases h : (n == 0) <;> simp
  rcases hk with hk | hk
  · rcases hn with hn | hn
    · go_enter Tryz.func73, Tryz.ntmps73
      go_wp2_with fail
      go_ret
      exact ⟨ret_bool (by rw [hk, hn, Bool.eq_iff_iff]; simp), Below.al _⟩
    · go_enter Tryz.func73, Tryz.ntmps73
      go_wp2_with fail
      go_ret
      exact ⟨ret_bool (by rw [hk, hn]; rfl), Below.al _⟩
  · go_enter Tryz.func73, Tryz.ntmps73
    go_wp2_with fail
    go_ret
    exact ⟨ret_bool (by rw [hk]; rfl), Below.al _⟩
def unlessI (b : Bool) : Int := if b then 0 else 3
theorem unless_any (b : Bool) (w : World) : Calls Tryz.prog 64 #[.bool b] w fun e w' => e = .returned (.int .i64 (unlessI b)) ∧ w = w' := by
  cases b
  all_goals
    go_enter Tryz.func64, Tryz.ntmps64
    go_wp2
    go_ret
    exact ⟨rfl, rfl⟩
theorem within_any (n a b : Int) (w : World) : Calls Tryz.prog 70 #[.int .i64 n, .int .i64 a, .int .i64 b] w fun e w' => e = .returned (.bool (decide (a ≤ n) && decide (n ≤ b))) ∧ w = w' := by
  by_cases h : a ≤ n
  · go_enter Tryz.func70, Tryz.ntmps70
    go_wp2
    go_ret
    exact ⟨ret_bool (by rw [Bool.eq_iff_iff]; simp <;> omega), rfl⟩
  · go_enter Tryz.func70, Tryz.ntmps70
    go_wp2
    go_ret
    exact ⟨ret_bool (by rw [Bool.eq_iff_iff]; simp <;> omega), rfl⟩
theorem many_any (n a b : Int) (w : World) : Calls Tryz.prog 71 #[.int .i64 n, .int .i64 a, .int .i64 b] w fun e w' => e = .returned (.int .i64 (many n a b)) ∧ w = w' := by
  by_cases h : n < a
  · go_enter Tryz.func71, Tryz.ntmps71
    go_wp2
    go_ret
    exact ⟨ret_int (by unfold many; split <;> (try split) <;> omega), rfl⟩
  · by_cases h2 : b < n
    · go_enter Tryz.func71, Tryz.ntmps71
      go_wp2
      go_ret
      exact ⟨ret_int (by unfold many; split <;> (try split) <;> omega), rfl⟩
    · go_enter Tryz.func71, Tryz.ntmps71
      go_wp2
      go_ret
      exact ⟨ret_int (by unfold many; split <;> (try split) <;> omega), rfl⟩
theorem rmany_any (n a b : Int) (w : World) : Calls Tryz.prog 39 #[.int .i64 n, .int .i64 a, .int .i64 b] w fun e w' => e = .returned (.int .i64 (many n a b)) ∧ w = w' := by
  by_cases h : n < a
  · go_enter Tryz.func39, Tryz.ntmps39
    go_wp2
    go_ret
    exact ⟨ret_int (by unfold many; split <;> (try split) <;> omega), rfl⟩
  · by_cases h2 : b < n
    · go_enter Tryz.func39, Tryz.ntmps39
      go_wp2
      go_ret
      exact ⟨ret_int (by unfold many; split <;> (try split) <;> omega), rfl⟩
    · go_enter Tryz.func39, Tryz.ntmps39
      go_wp2
      go_ret
      exact ⟨ret_int (by unfold many; split <;> (try split) <;> omega), rfl⟩

/-! what is wrong of the weights -/
theorem sumW_snoc (l : List Int) (x : Int) : sumW (l ++ [x]) = sumW l + x := by
  induction l with
  | nil => simp [sumW]
  | cons a l ih => simp only [sumW, List.cons_append, List.foldr_cons] at ih ⊢; rw [ih]; omega
theorem sumW_take {l : List Int} {i : Nat} (h : i < l.length) : sumW (l.take (i + 1)) = sumW (l.take i) + l[i] := by
  rw [List.take_add_one, List.getElem?_eq_getElem h, Option.toList_some, sumW_snoc]
theorem badW_take {l : List Int} {i : Nat} (h : i < l.length) : (l.take (i + 1)).any badW = ((l.take i).any badW || badW l[i]) := by rw [List.take_add_one, List.getElem?_eq_getElem h, Option.toList_some, List.any_append]; simp
theorem TT.wts_bad {l : List Int} {i : Nat} (h : i < l.length) (h1 : ¬ l.length = 0) (h2 : ¬ 64 < l.length) (hb : badW l[i] = true) : TT.wts l = 1 := by
  unfold TT.wts
  rw [if_neg h1, if_neg h2, if_pos]
  rw [List.any_eq_true]
  exact ⟨_, List.getElem_mem h, hb⟩
theorem TT.wts_good {l : List Int} (h1 : ¬ l.length = 0) (h2 : ¬ 64 < l.length) (hb : l.any badW = false) : TT.wts l = if sumW l = 0 then 7 else 0 := by
  unfold TT.wts
  rw [if_neg h1, if_neg h2, hb, if_neg (by simp)]
end Go.Proofs.YtapofbdkofelkaaGreat
/- A row that append builds. -/
namespace Go.Proofs.YtapofbdkofelkaaGreat
open Go.RowKit

theorem below_setRow {B : Nat} {a : World} (b : Nat) (hb : B ≤ b) : ∀ (vs : List Value) (o : Nat) (w : World), Below B a w → Below B a (w.setCells b o vs)
  | [], _, _, h => h
  | v :: r, o, _, h => below_setRow b hb r (o + 1) _ (h.setCell (p := ⟨b, o, none⟩) hb v)
theorem heap_setRow (b k : Nat) (h : k ≠ b) : ∀ (vs : List Value) (o : Nat) (w : World), (w.setCells b o vs).heap[k]? = w.heap[k]?
  | [], _, _ => rfl
  | v :: r, o, w => by rw [World.setCells, heap_setRow b k h r]; exact Below.heap_setCell w ⟨b, o, none⟩ v k h
theorem size_setRow (b : Nat) : ∀ (vs : List Value) (o : Nat) (w : World), (w.setCells b o vs).heap.size = w.heap.size
  | [], _, _ => rfl
  | v :: r, o, w => by rw [World.setCells, size_setRow b r]; simp [World.setCell]
theorem RowAt.sets {t b n : Nat} (b' : Nat) : ∀ (vs : List Value) (o : Nat) (w : World), RowAt w t b n → RowAt (w.setCells b' o vs) t b n
  | [], _, _, h => h
  | v :: r, o, _, h => RowAt.sets b' r (o + 1) _ (h.set ⟨b', o, none⟩ v rfl)

/-- a row that grows: len elements of k cells each, and what they hold; its block, if it has one, is younger than B. -/
structure Grown (w : World) (B T k len : Nat) (xs : List Value) (a : Option Addr) (cap : Nat) : Prop where
  size : xs.length = len * k
  le : len ≤ cap
  row : (cap = 0 ∧ (a = none ∨ ∃ b, a = some ⟨b, 0, none⟩)) ∨ ∃ b, a = some ⟨b, 0, none⟩ ∧ B ≤ b ∧ RowAt w T b (cap * k) ∧ ∀ j v, xs[j]? = some v → w.cell? ⟨b, j, none⟩ = some v
theorem Grown.nil (w : World) (B T k : Nat) : Grown w B T k 0 [] none 0 := ⟨by simp, Nat.le_refl _, .inl ⟨rfl, .inl rfl⟩⟩
theorem Grown.empty (w : World) (B T k b : Nat) : Grown w B T k 0 [] (some ⟨b, 0, none⟩) 0 := ⟨by simp, Nat.le_refl _, .inl ⟨rfl, .inr ⟨b, rfl⟩⟩⟩
theorem Grown.below {w w' : World} {B T k len cap : Nat} {xs : List Value} {a : Option Addr} (h : Grown w B T k len xs a cap) (hb : Below w.heap.size w w') : Grown w' B T k len xs a cap :=
  ⟨h.size, h.le, h.row.imp id fun ⟨b, ha, hB, hr, hc⟩ => ⟨b, ha, hB, hr.below hr.lt hb, fun j v hv => cell_stays hb (hc j v hv)⟩⟩
theorem Grown.cells {w : World} {B T k len cap : Nat} {xs : List Value} {a : Option Addr} (h : Grown w B T k len xs a cap) (hk : 0 < xs.length) : ∃ b, a = some ⟨b, 0, none⟩ ∧ B ≤ b ∧ RowAt w T b (cap * k) ∧ ∀ j v, xs[j]? = some v → w.cell? ⟨b, j, none⟩ = some v := by
  rcases h.row with ⟨h0, _⟩ | h1
  · have h2 := h.size; have h3 := h.le
    rw [h0] at h3
    have h4 : len = 0 := by omega
    rw [h4] at h2; simp at h2; rw [h2] at hk; simp at hk
  · exact h1

theorem grown_append {P : Program} {w : World} {B T k len cap : Nat} {xs : List Value} {a : Option Addr} (hB : B ≤ w.heap.size) (h : Grown w B T k len xs a cap)
    {t tx ty : TypeId} {i : TypeInfo} {z : Value} {bytes : Nat} (ht : P.underlying t = some (.slice T)) (hi : P.info? T = some i) (hz : i.zero = some z) (hs : i.size = k) (hzs : z.cells.size = k) (hby : i.bytes = bytes)
    {x : Value} {n : Nat} {news : List Value} (src : Src P k tx x n news w) (hn : (len + n) * bytes ≤ 140737488355328) (h63 : len + n ≤ 9223372036854775807) :
    ∃ a' cap' w', (Builtin.append_ #[t, tx] ty #[.slice a len cap, x]).run P w = .ok (.slice a' (len + n) cap') w' ∧ Grown w' B T k (len + n) (xs ++ news) a' cap' ∧ Below B w w' ∧
      (∀ k, k < w.heap.size → (∀ b', a = some ⟨b', 0, none⟩ → k ≠ b') → w'.heap[k]? = w.heap[k]? ∧ ∀ b', a' = some ⟨b', 0, none⟩ → k ≠ b') := by
  subst hs
  have hnl := src.newsLen
  by_cases hroom : len + n ≤ cap
  · rcases h.row with ⟨h0, hr⟩ | ⟨b, rfl, hb, hrow, hc⟩
    · have e1 : len = 0 := by omega
      have e2 : n = 0 := by omega
      subst h0 e1 e2
      have e3 : news = [] := List.length_eq_zero_iff.1 (by rw [hnl]; simp)
      have e4 : xs = [] := List.length_eq_zero_iff.1 (by rw [h.size]; simp)
      subst e3 e4
      rcases hr with rfl | ⟨b, rfl⟩
      · refine ⟨none, 0, w, ?_, Grown.nil _ _ _ _, Below.refl _ _, fun k _ _ => ⟨rfl, fun b' h => by cases h⟩⟩
        rcases src.kind with ⟨e', hk⟩ | hk <;> simp [Builtin.append_, run_underlying ht, run_underlying hk, sizeOf, typeInfo, hi, src.len, src.cells]
      · refine ⟨_, 0, w, ?_, Grown.empty _ _ _ _ b, Below.refl _ _, fun k _ hn => ⟨rfl, hn⟩⟩
        have := run_append_room_src (ty := ty) w t tx T i ht hi b 0 0 0 x 0 [] src (by omega) (by simp) (by simp)
        simpa [World.setCells] using this
    · have hlt : (len + n) * i.size ≤ cap * i.size := Nat.mul_le_mul_right _ hroom
      rw [Nat.add_mul] at hlt
      have := run_append_room_src (ty := ty) w t tx T i ht hi b 0 len cap x n news src hroom
        (fun j hj => by obtain ⟨v, hv⟩ := hrow.cell (len * i.size + j) (by omega); simp only [Nat.zero_add]; rw [hv]; rfl) (fun j hj => hrow.frozen _)
      simp only [Nat.zero_add] at this
      refine ⟨_, cap, _, this, ⟨?_, hroom, .inr ⟨b, rfl, hb, hrow.sets _ _ _ _, fun j v hv => ?_⟩⟩, below_setRow b hb _ _ _ (Below.refl _ _), fun k _ hn => ⟨heap_setRow b k (hn b rfl) _ _ _, hn⟩⟩
      · rw [List.length_append, h.size, hnl, Nat.add_mul]
      · by_cases hj : j < xs.length
        · rw [List.getElem?_append_left hj] at hv
          rw [World.cell?_setCells_out b news _ w _ (fun _ _ => .inl (by have := h.size; show j < len * i.size; omega))]
          exact hc j v hv
        · rw [List.getElem?_append_right (by omega)] at hv
          obtain ⟨hl, rfl⟩ := List.getElem?_eq_some_iff.1 hv
          have := World.cell?_setCells_in b news (len * i.size) w (fun j hj => by obtain ⟨v, hv⟩ := hrow.cell (len * i.size + j) (by omega); rw [hv]; rfl) (j - xs.length) hl
          rw [← this]; congr 2; have := h.size; omega
  · have hold : (Builtin.firstCells i.size len (.slice a len cap)).run P w.drew = .ok xs.toArray w.drew := by
      rcases h.row with ⟨h0, hr⟩ | ⟨b, rfl, hb, hrow, hc⟩
      · have hle := h.le
        have e1 : len = 0 := by omega
        subst e1 h0
        have e4 : xs = [] := List.length_eq_zero_iff.1 (by rw [h.size]; simp)
        subst e4
        rcases hr with rfl | ⟨b, rfl⟩
        · exact run_firstCells_none _ _ _ _ _
        · exact run_firstCells_some _ _ _ _ _ _ [] (by simp) (by simp)
      · exact run_firstCells_some _ _ _ _ _ _ xs h.size (fun j v hv => by have := hc j v hv; simpa [Addr.add_lit] using this)
    have hfit := growslice_fits (need := len + n) (old := cap) (bytes := i.bytes) (by omega) (by rw [hby]; omega)
    have := run_append_grow_src (ty := ty) w t tx T i z ht hi hz a len cap xs hold x n news src (by omega) (by omega) hfit
    have hge := grownCap_ge w (len + n) cap T
    refine ⟨_, _, _, this, ⟨?_, hge, .inr ⟨w.heap.size, rfl, hB, ?_, fun j v hv => ?_⟩⟩, (Below.refl _ _).drew.alloc hB _, fun k hk _ => ⟨((Below.refl _ w).drew.alloc (Nat.le_refl _) _).block k hk, fun b' h => by cases h; omega⟩⟩
    · rw [List.length_append, h.size, hnl, Nat.add_mul]
    · have hr := RowAt.new w.drew ((xs ++ news).toArray ++ Builtin.zeroCells z.cells (grownCap w (len + n) cap T - (len + n))) T
      have e : ((xs ++ news).toArray ++ Builtin.zeroCells z.cells (grownCap w (len + n) cap T - (len + n))).size = grownCap w (len + n) cap T * i.size := by
        rw [Array.size_append, size_zeroCells, hzs]
        simp only [List.size_toArray, List.length_append, h.size, hnl]
        rw [← Nat.add_mul, ← Nat.add_mul]; congr 1; omega
      rw [e] at hr; exact hr
    · obtain ⟨hl, rfl⟩ := List.getElem?_eq_some_iff.1 hv
      show (World.alloc w.drew _).cell? _ = _
      rw [show w.heap.size = w.drew.heap.size from rfl]
      go_simp
      rw [Array.getElem?_append_left (by simpa using hl)]
      simp

/-- 'append' in a walk, its run known. -/
theorem wpList_append_run {P : Program} (w : World) {ops : Array Oper} {rest : List Oper} {o : Oper} {a : Act} {Q : Exit → Act → World → Prop}
    (hg : o.guard = none) (s x : Operand) (t : TypeId) (hop : o.op = Op.call { callee := Callee.builtin Builtin.append, args := #[s, x], argTypes := #[t, t] }) (sv xv v : Value) (w' : World)
    (hs : a.eval s = sv) (hx : a.eval x = xv) (hrun : (Builtin.append_ #[t, t] o.type #[sv, xv]).run P w = .ok v w') (hK : wpList P ops Q rest (a.put o.dst v) w') : wpList P ops Q (o :: rest) a w := by
  refine wpList_plain hg fun K hK' => ?_
  unfold Oper.wp
  simp [execOp, hop, resolve, invoke, builtin, hs, hx, hrun, Result.andThen]
  exact hK' _ _ hK
end Go.Proofs.YtapofbdkofelkaaGreat
