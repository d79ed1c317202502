/- Texts of this claim laid into one: TFreq, PFresh, TFresh, VCopy, VMake, PCopy. -/
import Derived.Test.YtapofbdkofelkaaGreatM08
import Derived.Test.YtapofbdkofelkaaGreatM01
import Derived.Lib.SliceRun
/- What is wrong of weights: freq.New, tombolaref11.Wrong. -/
namespace Go.Proofs.YtapofbdkofelkaaGreat
open Go.RowKit

theorem zero64 : (Tryz.prog.info? 2).map (fun i => (i.zero, i.size, i.bytes)) = some (some (.int .i64 0), 1, 8) := by kernel_rfl
theorem sumW_bd {l : List Int} (h : l.any badW = false) : 0 ≤ sumW l ∧ sumW l ≤ l.length * 1048576 := by
  induction l with
  | nil => simp [sumW]
  | cons a l ih =>
    rw [List.any_cons, Bool.or_eq_false_iff] at h
    have h1 := ih h.2
    have h2 := h.1
    unfold badW at h2
    rw [Bool.or_eq_false_iff, decide_eq_false_iff_not, decide_eq_false_iff_not] at h2
    have e : sumW (a :: l) = a + sumW l := rfl
    rw [e, List.length_cons]
    omega

/-- one more number stands in a row of numbers. -/
theorem push_int {w : World} {B n cap : Nat} {xs : List Value} {a : Option Addr} (hB : B ≤ w.heap.size) (hg : Grown w B 2 1 n xs a cap) (hn : n ≤ 1000000) (x : Int) :
    ∃ w5 a' cap' w', w.alloc (.cells #[.int .i64 x] 2) = w5 ∧ (Builtin.append_ #[25, 25] 25 #[.slice a n cap, .slice (some ⟨w.heap.size, 0, none⟩) 1 1]).run Tryz.prog w5 = .ok (.slice a' (n + 1) cap') w' ∧
      Grown w' B 2 1 (n + 1) (xs ++ [.int .i64 x]) a' cap' ∧ Below w.heap.size w w5 ∧ Below B w5 w' ∧
      ∀ k, k < w.heap.size → (∀ b', a = some ⟨b', 0, none⟩ → k ≠ b') → w'.heap[k]? = w.heap[k]? ∧ ∀ b', a' = some ⟨b', 0, none⟩ → k ≠ b' := by
  obtain ⟨w5, hw5, m5, s5⟩ : ∃ w5, w.alloc (.cells #[.int .i64 x] 2) = w5 ∧ Below w.heap.size w w5 ∧ w5.cell? ⟨w.heap.size, 0, none⟩ = some (.int .i64 x) := ⟨_, rfl, Below.al _, by go_simp⟩
  obtain ⟨i0, hi0, hz0, hz1, hz2⟩ := info_parts zero64
  obtain ⟨a', cap', w', happ, hg', hb', hk⟩ := grown_append (P := Tryz.prog) (w := w5) (B := B) (T := 2) (k := 1) (Nat.le_trans hB m5.size) (hg.below m5) (t := 25) (tx := 25) (ty := 25)
    Tryz.underlying25 hi0 hz0 hz1 rfl hz2 (Src.ofSlice w5 Tryz.underlying25 ⟨w.heap.size, 0, none⟩ 1 1 [.int .i64 x] rfl (fun j u hu => by
      cases j with
      | zero => simp only [List.getElem?_cons_zero, Option.some.injEq] at hu; subst hu; exact s5
      | succ j => simp at hu) (fun u hu => by simp only [List.mem_singleton] at hu; subst hu; rfl)) (by omega) (by omega)
  refine ⟨w5, a', cap', w', hw5, happ, hg', m5, hb', fun k hk1 hk2 => ?_⟩
  obtain ⟨h1, h2⟩ := hk k (Nat.lt_of_lt_of_le hk1 m5.size) hk2
  exact ⟨h1.trans (m5.block k hk1), h2⟩

/-- what New hands back: only the error is told. -/
def FreqPost (x : Int) (w : World) (e : Ending) (w' : World) : Prop := ∃ p, e = .returned (.tuple #[.pointer p, .int .i64 x]) ∧ Below w.heap.size w w'
/-- the table's cell, and the row of sums behind it. -/
def FreqRel (w wr : World) (i : Nat) : Prop := ∃ xs a cap, wr.cell? ⟨w.heap.size, 0, none⟩ = some (.slice a i cap) ∧ RowAt wr 100 w.heap.size 1 ∧ Grown wr (w.heap.size + 1) 2 1 i xs a cap ∧ (∀ b, a = some ⟨b, 0, none⟩ → b ≠ w.heap.size)
def FreqLoop (ws : List Int) (w wr : World) (s : Int) (i : Nat) : Prop := (ws.take i).any badW = false ∧ s = sumW (ws.take i) ∧ FreqRel w wr i ∧ Below w.heap.size w wr
theorem size_below {w w' : World} {B : Nat} (h : Below B w w') : w.heap.size ≤ w'.heap.size := h.size

set_option maxRecDepth 100000 in
set_option maxHeartbeats 2000000 in
theorem freqNew_any (ws : List Int) (a : Option Addr) (cap : Nat) (w : World) (hr : WRow w ws a) : Calls Tryz.prog 69 #[.slice a ws.length cap] w (FreqPost (TT.wts ws) w) := by
  by_cases h0 : ws.length = 0
  · have hc : TT.wts ws = 4 := by unfold TT.wts; rw [if_pos h0]
    rw [hc]
    have HR := Lib.hid hr; clear hr hc
    go_enter Tryz.func69, Tryz.ntmps69
    go_wp2_with fail
    exact bodyPost_ret (v := .tuple #[.pointer none, .int .i64 4]) (by simp [results, Tryz.results69, go_sem]) rfl ⟨none, rfl, Below.refl _ _⟩
  · by_cases h64 : 64 < ws.length
    · have hc : TT.wts ws = 5 := by unfold TT.wts; rw [if_neg h0, if_pos h64]
      rw [hc]
      have HR := Lib.hid hr; clear hr hc
      go_enter Tryz.func69, Tryz.ntmps69
      go_wp2_with fail
      exact bodyPost_ret (v := .tuple #[.pointer none, .int .i64 5]) (by simp [results, Tryz.results69, go_sem]) rfl ⟨none, rfl, Below.refl _ _⟩
    · have H0 := Lib.hid h0; have H64 := Lib.hid h64
      have hlen : 0 < ws.length := by omega
      have hle : ws.length ≤ 64 := by omega
      clear h0 h64
      obtain ⟨w0, hw0, m0, s0, r0, c0⟩ : ∃ w0, w.alloc (.cells #[.slice none 0 0] 100) = w0 ∧ Below w.heap.size w w0 ∧ w.heap.size < w0.heap.size ∧ RowAt w0 100 w.heap.size 1 ∧ w0.cell? ⟨w.heap.size, 0, none⟩ = some (.slice none 0 0) :=
        ⟨_, rfl, Below.al _, by simp, RowAt.new w _ _, by go_simp⟩
      go_enter Tryz.func69, Tryz.ntmps69
      go_wp2_with fail
      go_loopw [5, 20] (fun x y wr => ∃ (s : Int) (i : Nat), x = .int .i64 s ∧ y = .int .i64 i ∧ i ≤ ws.length ∧ FreqLoop ws w wr s i) (fun _ y _ => ws.length - (intOf y).toNat)
      case atStart => exact ⟨0, 0, rfl, rfl, by omega, ⟨by simp, by simp [sumW], ⟨[], none, 0, c0, r0, Grown.nil _ _ _ _, fun b h => by cases h⟩, m0⟩⟩
      case round =>
        obtain ⟨s, i, rfl, rfl, hi, hbad, hsum, ⟨xs, a1, cap1, hc1, hrow1, hg1, hne⟩, hB⟩ := hrel
        have hbd := sumW_bd hbad
        rw [← hsum, List.length_take] at hbd
        have hs0 : 0 ≤ s ∧ s ≤ 67108864 := by omega
        have HBAD := Lib.hid hbad; have HSUM := Lib.hid hsum; have HNE := Lib.hid hne
        clear hbad hsum hbd hne
        by_cases hlt : i < ws.length
        · obtain ⟨b, o, rfl, d0⟩ := (hr.below hB).get i hlt
          have hup := sumW_take hlt
          have hub := badW_take hlt
          have hwb : badW ws[i] = true → TT.wts ws = 1 := TT.wts_bad hlt H0.out H64.out
          have HWB := Lib.hid hwb; clear hwb
          obtain ⟨x, hx⟩ : ∃ x, x = ws[i] := ⟨_, rfl⟩
          rw [← hx] at hup hub d0
          have HX := Lib.hid hx; have HUP := Lib.hid hup; have HUB := Lib.hid hub
          clear hx hup hub
          by_cases hneg : x < 0
          · have hw1 : TT.wts ws = 1 := HWB.out (by rw [← HX.out]; unfold badW; simp [hneg])
            have HW1 := Lib.hid hw1; clear hw1
            go_wp2_with fail
            exact bodyPost_ret (v := .tuple #[.pointer none, .int .i64 1]) (by simp [results, Tryz.results69, go_sem]) rfl ⟨none, by rw [HW1.out], hB⟩
          · by_cases hbig : 1048576 < x
            · have hw1 : TT.wts ws = 1 := HWB.out (by rw [← HX.out]; unfold badW; simp [hbig])
              have HW1 := Lib.hid hw1; clear hw1
              go_wp2_with fail
              exact bodyPost_ret (v := .tuple #[.pointer none, .int .i64 1]) (by simp [results, Tryz.results69, go_sem]) rfl ⟨none, by rw [HW1.out], hB⟩
            · have hgood : badW x = false := by unfold badW; simp; omega
              have HGOOD := Lib.hid hgood; clear hgood
              have hlt1 := hrow1.lt
              obtain ⟨w5, a6, cap6, w6, hw5, happ, hg6, m5, hb6, hk6⟩ := push_int (B := w.heap.size + 1) (by omega) hg1 (by omega) (s + x)
              have hblk := hk6 w.heap.size hlt1 (fun b' e => (HNE.out b' e).symm)
              have hrow6 : RowAt w6 100 w.heap.size 1 := by obtain ⟨c, hc, hn⟩ := hrow1; exact ⟨c, hblk.1.trans hc, hn⟩
              have hz6 := hrow6.frozen 0
              obtain ⟨u6, hc6⟩ := hrow6.cell 0 (by omega)
              have hc5 := cell_stays m5 hc1
              have hB6 : Below w.heap.size w w6 := hB.trans ((m5.mono (by omega)).trans (hb6.mono (by omega)))
              have hrow7 := hrow6.set ⟨w.heap.size, 0, none⟩ (.slice a6 (i + 1) cap6) rfl
              have hc7 := set_same (v := .slice a6 (i + 1) cap6) hc6
              have hg7 : Grown (w6.setCell ⟨w.heap.size, 0, none⟩ (.slice a6 (i + 1) cap6)) (w.heap.size + 1) 2 1 (i + 1) (xs ++ [.int .i64 (s + x)]) a6 cap6 := by
                refine ⟨hg6.size, hg6.le, hg6.row.imp id ?_⟩
                rintro ⟨b, e, hb, hr, hcc⟩
                exact ⟨b, e, hb, hr.set _ _ rfl, fun j v hj => by rw [cell_set_other (show w.heap.size ≠ b by omega)]; exact hcc j v hj⟩
              have hB7 := hB6.setCell (p := ⟨w.heap.size, 0, none⟩) (Nat.le_refl _) (.slice a6 (i + 1) cap6)
              have HREL : Hid (FreqRel w (w6.setCell ⟨w.heap.size, 0, none⟩ (.slice a6 (i + 1) cap6)) (i + 1)) := Lib.hid ⟨_, a6, cap6, hc7, hrow7, hg7, fun b e h => hblk.2 b e h.symm⟩
              have HB7 := Lib.hid hB7; have HAP := Lib.hid happ
              clear hrow7 hc7 hg7 hB7 hB6 hblk hk6 hb6 hg6 happ hrow6 hg1 hrow1
              go_wp2_with (at_builtin; refine wpList_append_run _ rfl _ _ _ rfl _ _ _ _ rfl rfl HAP.out ?_)
              have HFIN : Hid (FreqLoop ws w (w6.setCell ⟨w.heap.size, 0, none⟩ (.slice a6 (i + 1) cap6)) (s + x) (i + 1)) := Lib.hid ⟨by rw [HUB.out, HBAD.out, HGOOD.out]; rfl, by rw [HUP.out, HSUM.out], HREL.out, HB7.out⟩
              first | (go_roundw; (case rel => exact ⟨s + x, i + 1, rfl, by go_num, by omega, HFIN.out⟩); (case measure => simp [intOf]; omega)) | exact ⟨⟨_, _, _, _, _, ⟨s + x, rfl, i + 1, rfl, by omega, HFIN.out⟩, rfl, rfl, rfl, rfl, by go_num⟩, by simp [intOf]; omega⟩
        · have hii : i = ws.length := by omega
          subst hii
          have hall := HBAD.out
          have hs := HSUM.out
          rw [List.take_length] at hall hs
          have hc := TT.wts_good H0.out H64.out hall
          rw [← hs] at hc
          have HC := Lib.hid hc; clear hc hall hs
          by_cases hz : s = 0
          · have hc : TT.wts ws = 7 := by rw [HC.out, if_pos hz]
            have HC7 := Lib.hid hc
            subst hz
            clear hc
            go_wp2_with fail
            exact bodyPost_ret (v := .tuple #[.pointer none, .int .i64 7]) (by simp [results, Tryz.results69, go_sem]) rfl ⟨none, by rw [HC7.out], hB⟩
          · have hc : TT.wts ws = 0 := by rw [HC.out, if_neg hz]
            have HC0 := Lib.hid hc
            have hzb : (s == 0) = false := by simpa using hz
            clear hc hz
            go_wp2_with fail
            exact bodyPost_ret (v := .tuple #[.pointer (some ⟨w.heap.size, 0, none⟩), .int .i64 0]) (by simp [results, Tryz.results69, go_sem]) rfl ⟨_, by rw [HC0.out], hB⟩

set_option maxRecDepth 100000 in
set_option maxHeartbeats 2000000 in
theorem wrongW_any (ws : List Int) (a : Option Addr) (cap : Nat) (w : World) (hr : WRow w ws a) : Calls Tryz.prog 76 #[.slice a ws.length cap] w fun e w' => e = .returned (.int .i64 (TT.wts ws)) ∧ Below w.heap.size w w' := by
  by_cases h0 : ws.length = 0
  · have hc : TT.wts ws = 4 := by unfold TT.wts; rw [if_pos h0]
    rw [hc]
    have HR := Lib.hid hr; clear hr hc
    go_enter Tryz.func76, Tryz.ntmps76
    go_wp2_with fail
    go_ret
    exact ⟨rfl, Below.refl _ _⟩
  · by_cases h64 : 64 < ws.length
    · have hc : TT.wts ws = 5 := by unfold TT.wts; rw [if_neg h0, if_pos h64]
      rw [hc]
      have HR := Lib.hid hr; clear hr hc
      go_enter Tryz.func76, Tryz.ntmps76
      go_wp2_with fail
      go_ret
      exact ⟨rfl, Below.refl _ _⟩
    · have H0 := Lib.hid h0; have H64 := Lib.hid h64
      have hlen : 0 < ws.length := by omega
      have hle : ws.length ≤ 64 := by omega
      clear h0 h64
      go_enter Tryz.func76, Tryz.ntmps76
      go_wp2_with fail
      go_loop [3, 4] (fun x y => ∃ (s : Int) (i : Nat), x = .int .i64 s ∧ y = .int .i64 i ∧ i ≤ ws.length ∧ (ws.take i).any badW = false ∧ s = sumW (ws.take i)) (fun _ y => ws.length - (intOf y).toNat)
      case atStart => exact ⟨0, 0, rfl, rfl, by omega, by simp, by simp [sumW]⟩
      case round =>
        obtain ⟨s, i, rfl, rfl, hi, hbad, hsum⟩ := hrel
        have hbd := sumW_bd hbad
        rw [← hsum, List.length_take] at hbd
        have hs0 : 0 ≤ s ∧ s ≤ 67108864 := by omega
        have HBAD := Lib.hid hbad; have HSUM := Lib.hid hsum
        clear hbad hsum hbd
        by_cases hlt : i < ws.length
        · obtain ⟨b, o, rfl, d0⟩ := hr.get i hlt
          have hup := sumW_take hlt
          have hub := badW_take hlt
          have hwb : badW ws[i] = true → TT.wts ws = 1 := TT.wts_bad hlt H0.out H64.out
          have HWB := Lib.hid hwb; clear hwb
          obtain ⟨x, hx⟩ : ∃ x, x = ws[i] := ⟨_, rfl⟩
          rw [← hx] at hup hub d0
          have HX := Lib.hid hx; have HUP := Lib.hid hup; have HUB := Lib.hid hub
          clear hx hup hub
          by_cases hneg : x < 0
          · have hw1 : TT.wts ws = 1 := HWB.out (by rw [← HX.out]; unfold badW; simp [hneg])
            have HW1 := Lib.hid hw1; clear hw1
            go_wp2_with fail
            go_ret
            exact ⟨ret_int HW1.out.symm, Below.refl _ _⟩
          · by_cases hbig : 1048576 < x
            · have hw1 : TT.wts ws = 1 := HWB.out (by rw [← HX.out]; unfold badW; simp [hbig])
              have HW1 := Lib.hid hw1; clear hw1
              go_wp2_with fail
              go_ret
              exact ⟨ret_int HW1.out.symm, Below.refl _ _⟩
            · have hgood : badW x = false := by unfold badW; simp; omega
              have HGOOD := Lib.hid hgood; clear hgood
              go_wp2_with fail
              go_round
              case rel => exact ⟨s + x, i + 1, rfl, by go_num, by omega, by rw [HUB.out, HBAD.out, HGOOD.out]; rfl, by rw [HUP.out, HSUM.out]⟩
              case measure => simp [intOf]; omega
        · have hii : i = ws.length := by omega
          subst hii
          have hall := HBAD.out
          have hs := HSUM.out
          rw [List.take_length] at hall hs
          have hc := TT.wts_good H0.out H64.out hall
          rw [← hs] at hc
          have HC := Lib.hid hc; clear hc hall hs
          by_cases hz : s = 0
          · have hc : TT.wts ws = 7 := by rw [HC.out, if_pos hz]
            have HC7 := Lib.hid hc
            subst hz
            clear hc
            go_wp2_with fail
            go_ret
            exact ⟨ret_int HC7.out.symm, Below.refl _ _⟩
          · have hc : TT.wts ws = 0 := by rw [HC.out, if_neg hz]
            have HC0 := Lib.hid hc
            have hzb : (s == 0) = false := by simpa using hz
            clear hc hz
            go_wp2_with fail
            go_ret
            exact ⟨ret_int HC0.out.symm, Below.refl _ _⟩
end Go.Proofs.YtapofbdkofelkaaGreat
/- Plain words on memory that a call has made: predicates all of whose rows lie in blocks of the call's own. -/
namespace Go.Proofs.YtapofbdkofelkaaGreat
open Go.RowKit

mutual
/-- x reads as the tree, and all its rows lie in blocks from lo on, each at its block's head. -/
def PFIn (w : World) (lo : Nat) : PT → Value → Prop
  | .mk k v n l, x => ∃ vk vn va vl vc a cap, l.length ≤ 1759218604390 ∧ x = .agg #[.int .u8 k, .int .u8 vk, .int .i64 vn, .slice va vl vc, .int .i64 n, .slice a l.length cap] ∧
      FIn w lo v (.agg #[.int .u8 vk, .int .i64 vn, .slice va vl vc]) ∧ (l = [] ∨ ∃ b, a = some ⟨b, 0, none⟩ ∧ lo ≤ b ∧ PFRow w lo l b 0)
def PFRow (w : World) (lo : Nat) : List PT → Nat → Nat → Prop
  | [], _, _ => True
  | t :: ts, b, o => (∃ v0 v1 v2 v3 v4 v5, w.cell? ⟨b, o, none⟩ = some v0 ∧ w.cell? ⟨b, o + 1, none⟩ = some v1 ∧ w.cell? ⟨b, o + 2, none⟩ = some v2 ∧ w.cell? ⟨b, o + 3, none⟩ = some v3 ∧ w.cell? ⟨b, o + 4, none⟩ = some v4 ∧
      w.cell? ⟨b, o + 5, none⟩ = some v5 ∧ (∀ j, j < 6 → w.frozen? ⟨b, o + j, none⟩ = false) ∧ PFIn w lo t (.agg #[v0, v1, v2, v3, v4, v5])) ∧ PFRow w lo ts b (o + 6)
end
theorem PFRow.of {w : World} {lo : Nat} (b : Nat) : ∀ (l : List PT) (o : Nat) (_ : ∀ (i : Nat) (hi : i < l.length), ∃ v0 v1 v2 v3 v4 v5, w.cell? ⟨b, o + i * 6, none⟩ = some v0 ∧ w.cell? ⟨b, o + i * 6 + 1, none⟩ = some v1 ∧
      w.cell? ⟨b, o + i * 6 + 2, none⟩ = some v2 ∧ w.cell? ⟨b, o + i * 6 + 3, none⟩ = some v3 ∧ w.cell? ⟨b, o + i * 6 + 4, none⟩ = some v4 ∧ w.cell? ⟨b, o + i * 6 + 5, none⟩ = some v5 ∧
      (∀ j, j < 6 → w.frozen? ⟨b, o + i * 6 + j, none⟩ = false) ∧ PFIn w lo (l[i]) (.agg #[v0, v1, v2, v3, v4, v5])), PFRow w lo l b o
  | [], o, _ => by rw [PFRow]; trivial
  | t :: ts, o, h => by
    rw [PFRow]
    have h0 := h 0 (by simp)
    simp only [Nat.zero_mul, Nat.add_zero, List.getElem_cons_zero] at h0
    refine ⟨h0, PFRow.of b ts (o + 6) fun i hi => ?_⟩
    have h1 := h (i + 1) (by simpa using hi)
    have e : o + (i + 1) * 6 = o + 6 + i * 6 := by omega
    rw [e] at h1
    simpa using h1
theorem PFRow.get {w : World} {lo b : Nat} : ∀ {l : List PT} {o : Nat} (_ : PFRow w lo l b o) (i : Nat) (hi : i < l.length), ∃ v0 v1 v2 v3 v4 v5, w.cell? ⟨b, o + i * 6, none⟩ = some v0 ∧ w.cell? ⟨b, o + i * 6 + 1, none⟩ = some v1 ∧
      w.cell? ⟨b, o + i * 6 + 2, none⟩ = some v2 ∧ w.cell? ⟨b, o + i * 6 + 3, none⟩ = some v3 ∧ w.cell? ⟨b, o + i * 6 + 4, none⟩ = some v4 ∧ w.cell? ⟨b, o + i * 6 + 5, none⟩ = some v5 ∧
      (∀ j, j < 6 → w.frozen? ⟨b, o + i * 6 + j, none⟩ = false) ∧ PFIn w lo (l[i]) (.agg #[v0, v1, v2, v3, v4, v5]) := by
  intro l
  induction l with
  | nil => intro o _ i hi; simp at hi
  | cons t ts ih =>
    intro o h i hi
    rw [PFRow] at h
    cases i with
    | zero => simpa using h.1
    | succ i =>
      have h1 := ih h.2 i (by simpa using hi)
      have e : o + (i + 1) * 6 = o + 6 + i * 6 := by omega
      rw [e]
      simpa using h1
mutual
theorem PFIn.mono {w w' : World} {lo lo' : Nat} (hlo : lo' ≤ lo) (hc : ∀ b o v, lo ≤ b → w.cell? ⟨b, o, none⟩ = some v → w'.cell? ⟨b, o, none⟩ = some v) (hf : ∀ b o v, lo ≤ b → w.cell? ⟨b, o, none⟩ = some v → w.frozen? ⟨b, o, none⟩ = false → w'.frozen? ⟨b, o, none⟩ = false) :
    ∀ (t : PT) (x : Value), PFIn w lo t x → PFIn w' lo' t x
  | .mk k v n l, x, h => by
    rw [PFIn] at h ⊢
    obtain ⟨vk, vn, va, vl, vc, a, cap, hl, hx, hv, hr⟩ := h
    refine ⟨vk, vn, va, vl, vc, a, cap, hl, hx, hv.mono hlo hc hf, hr.imp id ?_⟩
    rintro ⟨b, ha, hb, hr⟩
    exact ⟨b, ha, by omega, PFRow.mono hlo hc hf l b 0 hb hr⟩
theorem PFRow.mono {w w' : World} {lo lo' : Nat} (hlo : lo' ≤ lo) (hc : ∀ b o v, lo ≤ b → w.cell? ⟨b, o, none⟩ = some v → w'.cell? ⟨b, o, none⟩ = some v) (hf : ∀ b o v, lo ≤ b → w.cell? ⟨b, o, none⟩ = some v → w.frozen? ⟨b, o, none⟩ = false → w'.frozen? ⟨b, o, none⟩ = false) :
    ∀ (l : List PT) (b o : Nat), lo ≤ b → PFRow w lo l b o → PFRow w' lo' l b o
  | [], _, _, _, _ => by rw [PFRow]; trivial
  | t :: ts, b, o, hb, h => by
    rw [PFRow] at h ⊢
    obtain ⟨⟨v0, v1, v2, v3, v4, v5, h0, h1, h2, h3, h4, h5, f, ht⟩, hr⟩ := h
    refine ⟨⟨v0, v1, v2, v3, v4, v5, hc _ _ _ hb h0, hc _ _ _ hb h1, hc _ _ _ hb h2, hc _ _ _ hb h3, hc _ _ _ hb h4, hc _ _ _ hb h5, fun j hj => ?_, PFIn.mono hlo hc hf t _ ht⟩, PFRow.mono hlo hc hf ts b (o + 6) hb hr⟩
    rcases (by omega : j = 0 ∨ j = 1 ∨ j = 2 ∨ j = 3 ∨ j = 4 ∨ j = 5) with rfl | rfl | rfl | rfl | rfl | rfl
    · exact hf _ _ _ hb h0 (f 0 hj)
    · exact hf _ _ _ hb h1 (f 1 hj)
    · exact hf _ _ _ hb h2 (f 2 hj)
    · exact hf _ _ _ hb h3 (f 3 hj)
    · exact hf _ _ _ hb h4 (f 4 hj)
    · exact hf _ _ _ hb h5 (f 5 hj)
end
theorem PFIn.below {w w' : World} {lo : Nat} {t : PT} {x : Value} (h : PFIn w lo t x) (hb : Below w.heap.size w w') : PFIn w' lo t x :=
  h.mono (Nat.le_refl _) (fun _ _ _ _ hc => cell_stays hb hc) (fun _ _ _ _ hc hf => frozen_stay hb (lt_of_cell hc) hf) t x
theorem PFRow.below {w w' : World} {lo b o : Nat} {l : List PT} (h : PFRow w lo l b o) (hlo : lo ≤ b) (hb : Below w.heap.size w w') : PFRow w' lo l b o :=
  PFRow.mono (Nat.le_refl _) (fun _ _ _ _ hc => cell_stays hb hc) (fun _ _ _ _ hc hf => frozen_stay hb (lt_of_cell hc) hf) l b o hlo h
theorem PFIn.set {w : World} {lo : Nat} {t : PT} {x : Value} (h : PFIn w lo t x) {p : Addr} (hp : p.block < lo) (u : Value) : PFIn (w.setCell p u) lo t x :=
  h.mono (Nat.le_refl _) (fun b _ _ hb hc => by rw [cell_set_other (by omega)]; exact hc) (fun _ _ _ _ _ hf => by rw [World.frozen?_setCell]; exact hf) t x
theorem PFIn.less {w : World} {lo lo' : Nat} {t : PT} {x : Value} (h : PFIn w lo t x) (hl : lo' ≤ lo) : PFIn w lo' t x := h.mono hl (fun _ _ _ _ hc => hc) (fun _ _ _ _ _ hf => hf) t x
theorem PFRow.less {w : World} {lo lo' : Nat} (hl : lo' ≤ lo) : ∀ (l : List PT) (b o : Nat), PFRow w lo l b o → PFRow w lo' l b o
  | [], _, _, _ => by rw [PFRow]; trivial
  | t :: ts, b, o, h => by
    rw [PFRow] at h ⊢
    obtain ⟨⟨v0, v1, v2, v3, v4, v5, h0, h1, h2, h3, h4, h5, f, ht⟩, hr⟩ := h
    exact ⟨⟨v0, v1, v2, v3, v4, v5, h0, h1, h2, h3, h4, h5, f, ht.less hl⟩, PFRow.less hl ts b (o + 6) hr⟩
mutual
theorem PFIn.pin {w : World} {lo : Nat} : ∀ (t : PT) (x : Value), PFIn w lo t x → PIn w t x
  | .mk k v n l, x, h => by
    rw [PFIn] at h; rw [PIn]
    obtain ⟨vk, vn, va, vl, vc, a, cap, hl, hx, hv, hr⟩ := h
    refine ⟨vk, vn, va, vl, vc, a, cap, hl, hx, hv.vin, ?_⟩
    rcases hr with rfl | ⟨b, rfl, _, hr⟩
    · rw [PRow]; trivial
    · exact PFRow.prow l b 0 hr
theorem PFRow.prow {w : World} {lo : Nat} : ∀ (l : List PT) (b o : Nat), PFRow w lo l b o → PRow w l (some ⟨b, o, none⟩)
  | [], _, _, _ => by rw [PRow]; trivial
  | t :: ts, b, o, h => by
    rw [PFRow] at h; rw [PRow]
    obtain ⟨⟨v0, v1, v2, v3, v4, v5, h0, h1, h2, h3, h4, h5, f, ht⟩, hr⟩ := h
    exact ⟨b, o, rfl, ⟨v0, v1, v2, v3, v4, v5, h0, h1, h2, h3, h4, h5, PFIn.pin t _ ht⟩, PFRow.prow ts b (o + 6) hr⟩
end
/-- such a predicate, its cells written out. -/
theorem PFIn.open {w : World} {lo : Nat} {k n : Int} {v : VT} {l : List PT} {x : Value} (h : PFIn w lo (.mk k v n l) x) : ∃ va vc a cap, l.length ≤ 1759218604390 ∧ v.items.length ≤ 3518437208780 ∧
    x = .agg #[.int .u8 k, .int .u8 v.kind, .int .i64 v.num, .slice va v.items.length vc, .int .i64 n, .slice a l.length cap] ∧ FIn w lo v (.agg #[.int .u8 v.kind, .int .i64 v.num, .slice va v.items.length vc]) ∧
    (l = [] ∨ ∃ b, a = some ⟨b, 0, none⟩ ∧ lo ≤ b ∧ PFRow w lo l b 0) := by
  rw [PFIn] at h
  obtain ⟨vk, vn, va, vl, vc, a, cap, hl, hx, hv, hr⟩ := h
  obtain ⟨k', n', its⟩ := v
  obtain ⟨va', vc', hl', he, hr'⟩ := hv.open
  simp only [Value.agg.injEq, Array.mk.injEq, List.cons.injEq, Value.slice.injEq, Value.int.injEq, and_true, true_and] at he
  obtain ⟨rfl, rfl, rfl, rfl, rfl⟩ := he
  exact ⟨_, _, a, cap, hl, hl', hx, hv, hr⟩
theorem PFIn.shut {w : World} {lo : Nat} {k n vk vn : Int} {v : VT} {l : List PT} {va a : Option Addr} {vl vc cap : Nat} (hl : l.length ≤ 1759218604390) (hv : FIn w lo v (.agg #[.int .u8 vk, .int .i64 vn, .slice va vl vc]))
    (hr : l = [] ∨ ∃ b, a = some ⟨b, 0, none⟩ ∧ lo ≤ b ∧ PFRow w lo l b 0) : PFIn w lo (.mk k v n l) (.agg #[.int .u8 k, .int .u8 vk, .int .i64 vn, .slice va vl vc, .int .i64 n, .slice a l.length cap]) := by rw [PFIn]; exact ⟨vk, vn, va, vl, vc, a, cap, hl, rfl, hv, hr⟩

/-! six cells written -/
theorem set6_out {w : World} {B q : Nat} {u0 u1 u2 u3 u4 u5 : Value} {b o : Nat} (h : b = B → o < q ∨ q + 6 ≤ o) :
    ((((((w.setCell ⟨B, q, none⟩ u0).setCell ⟨B, q + 1, none⟩ u1).setCell ⟨B, q + 2, none⟩ u2).setCell ⟨B, q + 3, none⟩ u3).setCell ⟨B, q + 4, none⟩ u4).setCell ⟨B, q + 5, none⟩ u5).cell? ⟨b, o, none⟩ = w.cell? ⟨b, o, none⟩ := by
  by_cases e : b = B
  · subst e
    have := h rfl
    rw [cell_set_off (by omega), cell_set_off (by omega), cell_set_off (by omega), cell_set_off (by omega), cell_set_off (by omega), cell_set_off (by omega)]
  · have e' : B ≠ b := fun h => e h.symm
    rw [cell_set_other e', cell_set_other e', cell_set_other e', cell_set_other e', cell_set_other e', cell_set_other e']
theorem set6_in {w : World} {B q : Nat} {u0 u1 u2 u3 u4 u5 : Value} {x0 x1 x2 x3 x4 x5 : Value} (q0 : w.cell? ⟨B, q, none⟩ = some x0) (q1 : w.cell? ⟨B, q + 1, none⟩ = some x1) (q2 : w.cell? ⟨B, q + 2, none⟩ = some x2)
    (q3 : w.cell? ⟨B, q + 3, none⟩ = some x3) (q4 : w.cell? ⟨B, q + 4, none⟩ = some x4) (q5 : w.cell? ⟨B, q + 5, none⟩ = some x5) :
    let w' := (((((w.setCell ⟨B, q, none⟩ u0).setCell ⟨B, q + 1, none⟩ u1).setCell ⟨B, q + 2, none⟩ u2).setCell ⟨B, q + 3, none⟩ u3).setCell ⟨B, q + 4, none⟩ u4).setCell ⟨B, q + 5, none⟩ u5
    w'.cell? ⟨B, q, none⟩ = some u0 ∧ w'.cell? ⟨B, q + 1, none⟩ = some u1 ∧ w'.cell? ⟨B, q + 2, none⟩ = some u2 ∧ w'.cell? ⟨B, q + 3, none⟩ = some u3 ∧ w'.cell? ⟨B, q + 4, none⟩ = some u4 ∧ w'.cell? ⟨B, q + 5, none⟩ = some u5 := by
  refine ⟨?_, ?_, ?_, ?_, ?_, ?_⟩
  · exact set_off (set_off (set_off (set_off (set_off (set_same q0) (by omega)) (by omega)) (by omega)) (by omega)) (by omega)
  · exact set_off (set_off (set_off (set_off (set_same (set_off q1 (by omega))) (by omega)) (by omega)) (by omega)) (by omega)
  · exact set_off (set_off (set_off (set_same (set_off (set_off q2 (by omega)) (by omega))) (by omega)) (by omega)) (by omega)
  · exact set_off (set_off (set_same (set_off (set_off (set_off q3 (by omega)) (by omega)) (by omega))) (by omega)) (by omega)
  · exact set_off (set_same (set_off (set_off (set_off (set_off q4 (by omega)) (by omega)) (by omega)) (by omega))) (by omega)
  · exact set_same (set_off (set_off (set_off (set_off (set_off q5 (by omega)) (by omega)) (by omega)) (by omega)) (by omega))
theorem set6_frozen {w : World} {B q : Nat} {u0 u1 u2 u3 u4 u5 : Value} {p : Addr} :
    ((((((w.setCell ⟨B, q, none⟩ u0).setCell ⟨B, q + 1, none⟩ u1).setCell ⟨B, q + 2, none⟩ u2).setCell ⟨B, q + 3, none⟩ u3).setCell ⟨B, q + 4, none⟩ u4).setCell ⟨B, q + 5, none⟩ u5).frozen? p = w.frozen? p := by
  rw [World.frozen?_setCell, World.frozen?_setCell, World.frozen?_setCell, World.frozen?_setCell, World.frozen?_setCell, World.frozen?_setCell]
end Go.Proofs.YtapofbdkofelkaaGreat
/- Plain words on memory that a call has made: terms all of whose rows lie in blocks of the call's own. -/
namespace Go.Proofs.YtapofbdkofelkaaGreat
open Go.RowKit

/-- whole numbers in a row of the call's own. -/
def WFRow (w : World) : List Int → Nat → Nat → Prop
  | [], _, _ => True
  | x :: xs, b, o => w.cell? ⟨b, o, none⟩ = some (.int .i64 x) ∧ w.frozen? ⟨b, o, none⟩ = false ∧ WFRow w xs b (o + 1)
theorem WFRow.mono {w w' : World} {lo : Nat} (hc : ∀ b o v, lo ≤ b → w.cell? ⟨b, o, none⟩ = some v → w'.cell? ⟨b, o, none⟩ = some v) (hf : ∀ b o v, lo ≤ b → w.cell? ⟨b, o, none⟩ = some v → w.frozen? ⟨b, o, none⟩ = false → w'.frozen? ⟨b, o, none⟩ = false) :
    ∀ (l : List Int) (b o : Nat), lo ≤ b → WFRow w l b o → WFRow w' l b o
  | [], _, _, _, _ => by rw [WFRow]; trivial
  | x :: xs, b, o, hb, h => by
    rw [WFRow] at h ⊢
    exact ⟨hc _ _ _ hb h.1, hf _ _ _ hb h.1 h.2.1, WFRow.mono hc hf xs b (o + 1) hb h.2.2⟩
theorem WFRow.wrow {w : World} : ∀ (l : List Int) (b o : Nat), WFRow w l b o → WRow w l (some ⟨b, o, none⟩)
  | [], _, _, _ => by rw [WRow]; trivial
  | x :: xs, b, o, h => by
    rw [WFRow] at h; rw [WRow]
    exact ⟨b, o, rfl, h.1, WFRow.wrow xs b (o + 1) h.2.2⟩
theorem WFRow.of {w : World} (b : Nat) : ∀ (l : List Int) (o : Nat) (_ : ∀ (i : Nat) (hi : i < l.length), w.cell? ⟨b, o + i, none⟩ = some (.int .i64 l[i]) ∧ w.frozen? ⟨b, o + i, none⟩ = false), WFRow w l b o
  | [], o, _ => by rw [WFRow]; trivial
  | t :: ts, o, h => by
    rw [WFRow]
    have h0 := h 0 (by simp)
    simp only [Nat.add_zero, List.getElem_cons_zero] at h0
    refine ⟨h0.1, h0.2, WFRow.of b ts (o + 1) fun i hi => ?_⟩
    have h1 := h (i + 1) (by simpa using hi)
    rw [List.getElem_cons_succ, show o + (i + 1) = o + 1 + i by omega] at h1
    exact h1
mutual
/-- the rows read as the tree has them, and lie in blocks from lo on, each at its block's head. -/
def TFOk (w : World) (lo : Nat) : TT → TA → Prop
  | .mk _ v vs _ _ ws p l, A => (l.length ≤ 651562446070 ∧ vs.length ≤ 3518437208780 ∧ ws.length ≤ 17592186043904) ∧ FIn w lo v (.agg #[.int .u8 v.kind, .int .i64 v.num, .slice A.va v.items.length A.vc]) ∧ (vs = [] ∨ ∃ b, A.sa = some ⟨b, 0, none⟩ ∧ lo ≤ b ∧ FRow w lo vs b 0) ∧
      (ws = [] ∨ ∃ b, A.wa = some ⟨b, 0, none⟩ ∧ lo ≤ b ∧ WFRow w ws b 0) ∧
      PFIn w lo p (.agg #[.int .u8 p.kind, .int .u8 p.val.kind, .int .i64 p.val.num, .slice A.qa p.val.items.length A.qc, .int .i64 p.num, .slice A.pa p.args.length A.pc]) ∧ (l = [] ∨ ∃ b, A.aa = some ⟨b, 0, none⟩ ∧ lo ≤ b ∧ TFRow w lo l b 0)
def TFRow (w : World) (lo : Nat) : List TT → Nat → Nat → Prop
  | [], _, _ => True
  | t :: ts, b, o => (∃ A, TCells w b o t A ∧ (∀ j, j < 15 → w.frozen? ⟨b, o + j, none⟩ = false) ∧ TFOk w lo t A) ∧ TFRow w lo ts b (o + 15)
end
def TFIn (w : World) (lo : Nat) (t : TT) (x : Value) : Prop := ∃ A, x = t.val A ∧ TFOk w lo t A
theorem TFRow.of {w : World} {lo : Nat} (b : Nat) : ∀ (l : List TT) (o : Nat) (_ : ∀ (i : Nat) (hi : i < l.length), ∃ A, TCells w b (o + i * 15) l[i] A ∧ (∀ j, j < 15 → w.frozen? ⟨b, o + i * 15 + j, none⟩ = false) ∧ TFOk w lo l[i] A), TFRow w lo l b o
  | [], o, _ => by rw [TFRow]; trivial
  | t :: ts, o, h => by
    rw [TFRow]
    have h0 := h 0 (by simp)
    simp only [Nat.zero_mul, Nat.add_zero, List.getElem_cons_zero] at h0
    refine ⟨h0, TFRow.of b ts (o + 15) fun i hi => ?_⟩
    have h1 := h (i + 1) (by simpa using hi)
    have e : o + (i + 1) * 15 = o + 15 + i * 15 := by omega
    rw [e] at h1
    simpa using h1
theorem TFRow.get {w : World} {lo b : Nat} : ∀ {l : List TT} {o : Nat} (_ : TFRow w lo l b o) (i : Nat) (hi : i < l.length), ∃ A, TCells w b (o + i * 15) l[i] A ∧ (∀ j, j < 15 → w.frozen? ⟨b, o + i * 15 + j, none⟩ = false) ∧ TFOk w lo l[i] A := by
  intro l
  induction l with
  | nil => intro o _ i hi; simp at hi
  | cons t ts ih =>
    intro o h i hi
    rw [TFRow] at h
    cases i with
    | zero => simpa using h.1
    | succ i =>
      have h1 := ih h.2 i (by simpa using hi)
      have e : o + (i + 1) * 15 = o + 15 + i * 15 := by omega
      rw [e]
      simpa using h1
/-- a cell of a term's cells. -/
theorem TCells.has {w : World} {b o : Nat} {t : TT} {A : TA} (h : TCells w b o t A) : ∀ j, j < 15 → ∃ u, w.cell? ⟨b, o + j, none⟩ = some u := by
  obtain ⟨h0, h1, h2, h3, h4, h5, h6, h7, h8, h9, h10, h11, h12, h13, h14⟩ := h
  intro j hj
  rcases (by omega : j = 0 ∨ j = 1 ∨ j = 2 ∨ j = 3 ∨ j = 4 ∨ j = 5 ∨ j = 6 ∨ j = 7 ∨ j = 8 ∨ j = 9 ∨ j = 10 ∨ j = 11 ∨ j = 12 ∨ j = 13 ∨ j = 14) with rfl | rfl | rfl | rfl | rfl | rfl | rfl | rfl | rfl | rfl | rfl | rfl | rfl | rfl | rfl
  all_goals exact ⟨_, by assumption⟩
theorem TCells.keep {w w' : World} {b o : Nat} {t : TT} {A : TA} (hc : ∀ o v, w.cell? ⟨b, o, none⟩ = some v → w'.cell? ⟨b, o, none⟩ = some v) (h : TCells w b o t A) : TCells w' b o t A := by
  obtain ⟨h0, h1, h2, h3, h4, h5, h6, h7, h8, h9, h10, h11, h12, h13, h14⟩ := h
  exact ⟨hc _ _ h0, hc _ _ h1, hc _ _ h2, hc _ _ h3, hc _ _ h4, hc _ _ h5, hc _ _ h6, hc _ _ h7, hc _ _ h8, hc _ _ h9, hc _ _ h10, hc _ _ h11, hc _ _ h12, hc _ _ h13, hc _ _ h14⟩
mutual
theorem TFOk.mono {w w' : World} {lo lo' : Nat} (hlo : lo' ≤ lo) (hc : ∀ b o v, lo ≤ b → w.cell? ⟨b, o, none⟩ = some v → w'.cell? ⟨b, o, none⟩ = some v) (hf : ∀ b o v, lo ≤ b → w.cell? ⟨b, o, none⟩ = some v → w.frozen? ⟨b, o, none⟩ = false → w'.frozen? ⟨b, o, none⟩ = false) :
    ∀ (t : TT) (A : TA), TFOk w lo t A → TFOk w' lo' t A
  | .mk k v vs lo2 hi ws p l, A, h => by
    rw [TFOk] at h ⊢
    obtain ⟨hl, hv, hs, hw, hp, hr⟩ := h
    refine ⟨hl, hv.mono hlo hc hf, hs.imp id ?_, hw.imp id ?_, hp.mono hlo hc hf, hr.imp id ?_⟩
    · rintro ⟨b, ha, hb, hr⟩
      exact ⟨b, ha, by omega, FRow.mono hlo hc hf vs b 0 hb hr⟩
    · rintro ⟨b, ha, hb, hr⟩
      exact ⟨b, ha, by omega, WFRow.mono hc hf ws b 0 hb hr⟩
    · rintro ⟨b, ha, hb, hr⟩
      exact ⟨b, ha, by omega, TFRow.mono hlo hc hf l b 0 hb hr⟩
theorem TFRow.mono {w w' : World} {lo lo' : Nat} (hlo : lo' ≤ lo) (hc : ∀ b o v, lo ≤ b → w.cell? ⟨b, o, none⟩ = some v → w'.cell? ⟨b, o, none⟩ = some v) (hf : ∀ b o v, lo ≤ b → w.cell? ⟨b, o, none⟩ = some v → w.frozen? ⟨b, o, none⟩ = false → w'.frozen? ⟨b, o, none⟩ = false) :
    ∀ (l : List TT) (b o : Nat), lo ≤ b → TFRow w lo l b o → TFRow w' lo' l b o
  | [], _, _, _, _ => by rw [TFRow]; trivial
  | t :: ts, b, o, hb, h => by
    rw [TFRow] at h ⊢
    obtain ⟨⟨A, h0, hz, ht⟩, hr⟩ := h
    refine ⟨⟨A, h0.keep (fun o v h => hc _ _ _ hb h), fun j hj => ?_, TFOk.mono hlo hc hf t A ht⟩, TFRow.mono hlo hc hf ts b (o + 15) hb hr⟩
    obtain ⟨u, hu⟩ := h0.has j hj
    exact hf _ _ _ hb hu (hz j hj)
end
theorem TFIn.mono {w w' : World} {lo lo' : Nat} (hlo : lo' ≤ lo) (hc : ∀ b o v, lo ≤ b → w.cell? ⟨b, o, none⟩ = some v → w'.cell? ⟨b, o, none⟩ = some v) (hf : ∀ b o v, lo ≤ b → w.cell? ⟨b, o, none⟩ = some v → w.frozen? ⟨b, o, none⟩ = false → w'.frozen? ⟨b, o, none⟩ = false)
    {t : TT} {x : Value} (h : TFIn w lo t x) : TFIn w' lo' t x := by obtain ⟨A, e, h⟩ := h; exact ⟨A, e, h.mono hlo hc hf t A⟩
theorem TFOk.below {w w' : World} {lo : Nat} {t : TT} {A : TA} (h : TFOk w lo t A) (hb : Below w.heap.size w w') : TFOk w' lo t A :=
  h.mono (Nat.le_refl _) (fun _ _ _ _ hc => cell_stays hb hc) (fun _ _ _ _ hc hf => frozen_stay hb (lt_of_cell hc) hf) t A
theorem TFIn.below {w w' : World} {lo : Nat} {t : TT} {x : Value} (h : TFIn w lo t x) (hb : Below w.heap.size w w') : TFIn w' lo t x :=
  h.mono (Nat.le_refl _) (fun _ _ _ _ hc => cell_stays hb hc) (fun _ _ _ _ hc hf => frozen_stay hb (lt_of_cell hc) hf)
theorem TFRow.below {w w' : World} {lo b o : Nat} {l : List TT} (h : TFRow w lo l b o) (hlo : lo ≤ b) (hb : Below w.heap.size w w') : TFRow w' lo l b o :=
  TFRow.mono (Nat.le_refl _) (fun _ _ _ _ hc => cell_stays hb hc) (fun _ _ _ _ hc hf => frozen_stay hb (lt_of_cell hc) hf) l b o hlo h
theorem TFOk.less {w : World} {lo lo' : Nat} {t : TT} {A : TA} (h : TFOk w lo t A) (hl : lo' ≤ lo) : TFOk w lo' t A := h.mono hl (fun _ _ _ _ hc => hc) (fun _ _ _ _ _ hf => hf) t A
theorem TFIn.less {w : World} {lo lo' : Nat} {t : TT} {x : Value} (h : TFIn w lo t x) (hl : lo' ≤ lo) : TFIn w lo' t x := h.mono hl (fun _ _ _ _ hc => hc) (fun _ _ _ _ _ hf => hf)
mutual
theorem TFOk.tok {w : World} {lo : Nat} : ∀ (t : TT) (A : TA), TFOk w lo t A → TOk w t A
  | .mk k v vs lo2 hi ws p l, A, h => by
    rw [TFOk] at h; rw [TOk]
    obtain ⟨hl, hv, hs, hw, hp, hr⟩ := h
    refine ⟨hl, hv.vin, ?_, ?_, PFIn.pin _ _ hp, ?_⟩
    · rcases hs with rfl | ⟨b, e, _, hr⟩
      · rw [VRow]; trivial
      · rw [e]; exact FRow.vrow vs b 0 hr
    · rcases hw with rfl | ⟨b, e, _, hr⟩
      · rw [WRow]; trivial
      · rw [e]; exact WFRow.wrow ws b 0 hr
    · rcases hr with rfl | ⟨b, e, _, hr⟩
      · rw [TRow]; trivial
      · rw [e]; exact TFRow.trow l b 0 hr
theorem TFRow.trow {w : World} {lo : Nat} : ∀ (l : List TT) (b o : Nat), TFRow w lo l b o → TRow w l (some ⟨b, o, none⟩)
  | [], _, _, _ => by rw [TRow]; trivial
  | t :: ts, b, o, h => by
    rw [TFRow] at h
    obtain ⟨⟨A, h0, _, ht⟩, hr⟩ := h
    exact trow_cons h0 (TFOk.tok t A ht) (TFRow.trow ts b (o + 15) hr)
end
theorem TFIn.tin {w : World} {lo : Nat} {t : TT} {x : Value} (h : TFIn w lo t x) : TIn w t x := by obtain ⟨A, e, h⟩ := h; exact ⟨A, e, h.tok t A⟩
theorem TFOk.parts {w : World} {lo : Nat} {t : TT} {A : TA} (h : TFOk w lo t A) : (t.args.length ≤ 651562446070 ∧ t.vs.length ≤ 3518437208780 ∧ t.ws.length ≤ 17592186043904) ∧ FIn w lo t.v (.agg #[.int .u8 t.v.kind, .int .i64 t.v.num, .slice A.va t.v.items.length A.vc]) ∧ (t.vs = [] ∨ ∃ b, A.sa = some ⟨b, 0, none⟩ ∧ lo ≤ b ∧ FRow w lo t.vs b 0) ∧
      (t.ws = [] ∨ ∃ b, A.wa = some ⟨b, 0, none⟩ ∧ lo ≤ b ∧ WFRow w t.ws b 0) ∧
      PFIn w lo t.p (.agg #[.int .u8 t.p.kind, .int .u8 t.p.val.kind, .int .i64 t.p.val.num, .slice A.qa t.p.val.items.length A.qc, .int .i64 t.p.num, .slice A.pa t.p.args.length A.pc]) ∧ (t.args = [] ∨ ∃ b, A.aa = some ⟨b, 0, none⟩ ∧ lo ≤ b ∧ TFRow w lo t.args b 0) := by
  obtain ⟨k, v, vs, lo2, hi, ws, p, l⟩ := t
  rw [TFOk] at h; exact h
theorem TFOk.of {w : World} {lo : Nat} {t : TT} {A : TA} (h : (t.args.length ≤ 651562446070 ∧ t.vs.length ≤ 3518437208780 ∧ t.ws.length ≤ 17592186043904) ∧ FIn w lo t.v (.agg #[.int .u8 t.v.kind, .int .i64 t.v.num, .slice A.va t.v.items.length A.vc]) ∧ (t.vs = [] ∨ ∃ b, A.sa = some ⟨b, 0, none⟩ ∧ lo ≤ b ∧ FRow w lo t.vs b 0) ∧
      (t.ws = [] ∨ ∃ b, A.wa = some ⟨b, 0, none⟩ ∧ lo ≤ b ∧ WFRow w t.ws b 0) ∧
      PFIn w lo t.p (.agg #[.int .u8 t.p.kind, .int .u8 t.p.val.kind, .int .i64 t.p.val.num, .slice A.qa t.p.val.items.length A.qc, .int .i64 t.p.num, .slice A.pa t.p.args.length A.pc]) ∧ (t.args = [] ∨ ∃ b, A.aa = some ⟨b, 0, none⟩ ∧ lo ≤ b ∧ TFRow w lo t.args b 0)) : TFOk w lo t A := by
  obtain ⟨k, v, vs, lo2, hi, ws, p, l⟩ := t
  rw [TFOk]; exact h
end Go.Proofs.YtapofbdkofelkaaGreat
/- val.copies, val.Copy. -/
namespace Go.Proofs.YtapofbdkofelkaaGreat
open Go.RowKit

theorem zeroV : (Tryz.prog.info? 24).map (fun i => (i.zero, i.size, i.bytes)) = some (some (.agg #[.int .u8 0, .int .i64 0, .slice none 0 0]), 3, 40) := by kernel_rfl
def zeroCells (n : Nat) : Array Value := madeCells (Value.agg #[.int .u8 0, .int .i64 0, .slice none 0 0]).cells (n * 3)
theorem zeroCells_size (n : Nat) : (zeroCells n).size = n * 3 := size_madeCells _ _
theorem make_vals (n : Nat) (h : n ≤ 3518437208780) (w : World) : (Instr.makeSlice 22 (.int .i64 n) (.int .i64 n)).run Tryz.prog w = .ok (.slice (some ⟨w.heap.size, 0, none⟩) n n) (w.alloc (.cells (zeroCells n) 24)) := by
  obtain ⟨i0, hi, hz0, hz1, hz2⟩ := info_parts zeroV
  have := run_make (P := Tryz.prog) w 22 24 i0 _ Tryz.underlying22 hi hz0 .i64 .i64 n n (by omega) (by omega) (by rw [hz2]; omega) (by omega)
  rw [hz1] at this
  exact this

/-- what 'Copy' hands back of t. -/
def CopyOf (t : VT) (w : World) (e : Ending) (w' : World) : Prop := ∃ v', e = .returned v' ∧ FIn w' w.heap.size t v' ∧ Below w.heap.size w w'
/-- what 'copies' hands back of l. -/
def CopiesOf (l : List VT) (w : World) (e : Ending) (w' : World) : Prop :=
  ∃ a' cap', e = .returned (.slice a' l.length cap') ∧ (l = [] ∨ ∃ b, a' = some ⟨b, 0, none⟩ ∧ w.heap.size ≤ b ∧ FRow w' w.heap.size l b 0) ∧ Below w.heap.size w w'

theorem take_get {α : Type} {l : List α} {i j : Nat} (h : j < (l.take i).length) : (l.take i)[j] = l[j]'(by rw [List.length_take] at h; omega) := List.getElem_take

/-- one more item stands. -/
theorem copies_step {l : List VT} {i B : Nat} {wr w2 : World} {k n : Int} {a' : Option Addr} {len cap' : Nat} (hi : i < l.length) (hrow : RowAt wr 24 B (l.length * 3)) (hr : FRow wr (B + 1) (l.take i) B 0)
    (hb : Below wr.heap.size wr w2) (hv : FIn w2 (wr.heap.size) l[i] (.agg #[.int .u8 k, .int .i64 n, .slice a' len cap'])) :
    FRow (((w2.setCell ⟨B, i * 3, none⟩ (.int .u8 k)).setCell ⟨B, i * 3 + 1, none⟩ (.int .i64 n)).setCell ⟨B, i * 3 + 2, none⟩ (.slice a' len cap')) (B + 1) (l.take (i + 1)) B 0 := by
  have hlt := hrow.lt
  have hrow2 := hrow.below hlt hb
  obtain ⟨u0, q0⟩ := hrow2.cell (i * 3) (by omega)
  obtain ⟨u1, q1⟩ := hrow2.cell (i * 3 + 1) (by omega)
  obtain ⟨u2, q2⟩ := hrow2.cell (i * 3 + 2) (by omega)
  have hl : (l.take (i + 1)).length = i + 1 := by rw [List.length_take]; omega
  refine FRow.of B _ 0 fun j hj => ?_
  have hj' : j < i + 1 := by omega
  rw [take_get hj, Nat.zero_add]
  have fz : ∀ o, ((((w2.setCell ⟨B, i * 3, none⟩ (.int .u8 k)).setCell ⟨B, i * 3 + 1, none⟩ (.int .i64 n)).setCell ⟨B, i * 3 + 2, none⟩ (.slice a' len cap'))).frozen? ⟨B, o, none⟩ = false := fun o => by
    rw [World.frozen?_setCell, World.frozen?_setCell, World.frozen?_setCell]; exact hrow2.frozen o
  by_cases e : j = i
  · subst e
    refine ⟨.int .u8 k, .int .i64 n, .slice a' len cap', ?_, ?_, ?_, fz _, fz _, fz _, ?_⟩
    · rw [cell_set_off (by omega), cell_set_off (by omega)]
      exact World.cell?_setCell_same' _ _ _ (by rw [q0]; rfl)
    · rw [cell_set_off (by omega)]
      exact World.cell?_setCell_same' _ _ _ (by rw [cell_set_off (by omega), q1]; rfl)
    · exact World.cell?_setCell_same' _ _ _ (by rw [cell_set_off (by omega), cell_set_off (by omega), q2]; rfl)
    · exact (((hv.set (p := ⟨B, j * 3, none⟩) hlt _).set (p := ⟨B, j * 3 + 1, none⟩) hlt _).set (p := ⟨B, j * 3 + 2, none⟩) hlt _).less hlt
  · obtain ⟨v0, v1, v2, h0, h1, h2, _, _, _, ht⟩ := hr.get j (by rw [List.length_take]; omega)
    rw [Nat.zero_add] at h0 h1 h2
    rw [take_get (by rw [List.length_take]; omega)] at ht
    have put : ∀ o v, o ≠ i * 3 → o ≠ i * 3 + 1 → o ≠ i * 3 + 2 → wr.cell? ⟨B, o, none⟩ = some v → ((((w2.setCell ⟨B, i * 3, none⟩ (.int .u8 k)).setCell ⟨B, i * 3 + 1, none⟩ (.int .i64 n)).setCell ⟨B, i * 3 + 2, none⟩ (.slice a' len cap'))).cell? ⟨B, o, none⟩ = some v := fun o v e0 e1 e2 hc => by
      rw [cell_set_off (Ne.symm e2), cell_set_off (Ne.symm e1), cell_set_off (Ne.symm e0)]; exact cell_stays hb hc
    refine ⟨v0, v1, v2, put _ _ (by omega) (by omega) (by omega) h0, put _ _ (by omega) (by omega) (by omega) h1, put _ _ (by omega) (by omega) (by omega) h2, fz _, fz _, fz _, ?_⟩
    exact (((ht.below hb).set (p := ⟨B, i * 3, none⟩) (Nat.lt_succ_self _) _).set (p := ⟨B, i * 3 + 1, none⟩) (Nat.lt_succ_self _) _).set (p := ⟨B, i * 3 + 2, none⟩) (Nat.lt_succ_self _) _

set_option maxRecDepth 100000 in
set_option maxHeartbeats 2000000 in
theorem copies_of (l : List VT) (a : Option Addr) (cap : Nat) (w : World) (hl : l.length ≤ 3518437208780) (hr : VRow w l a)
    (hC : ∀ (i : Nat) (hi : i < l.length) (v : Value) (W : World), VIn W l[i] v → Calls Tryz.prog 53 #[v] W (CopyOf l[i] W)) :
    Calls Tryz.prog 82 #[.slice a l.length cap] w (CopiesOf l w) := by
  have HC := Lib.hid hC; clear hC
  by_cases h0 : l = []
  · subst h0
    go_enter Tryz.func82, Tryz.ntmps82
    go_wp2_with fail
    go_ret
    exact ⟨none, 0, rfl, .inl rfl, Below.refl _ _⟩
  · have hpos : 0 < l.length := List.length_pos_iff.2 h0
    have hb : ((l.length : Int) == 0) = false := by simp; omega
    have hmk := make_vals l.length hl
    go_enter Tryz.func82, Tryz.ntmps82
    go_wp2_with fail
    clear hmk
    go_loopw [14] (fun x wr => ∃ i : Nat, x = .int .i64 i ∧ i ≤ l.length ∧ RowAt wr 24 w.heap.size (l.length * 3) ∧ FRow wr (w.heap.size + 1) (l.take i) w.heap.size 0 ∧ Below w.heap.size w wr) (fun x _ => l.length - (intOf x).toNat)
    case atStart => exact ⟨0, rfl, by omega, by have := RowAt.new w (zeroCells l.length) 24; rwa [zeroCells_size] at this, by rw [List.take_zero, FRow]; trivial, (Below.refl _ _).alloc (Nat.le_refl _) _⟩
    case round =>
      obtain ⟨i, rfl, hi, hrow, hfr, hbl⟩ := hrel
      have hsz := hrow.lt
      by_cases hlt : i < l.length
      · obtain ⟨b, o, rfl, ax, cx, d0, d1, d2, hv⟩ := (hr.below hbl).got i hlt
        go_wp2_with fail
        refine (HC.out i hlt _ _ (hv.below ((Below.refl _ _).alloc (Nat.le_refl _) _))).mono ?_
        rintro e w2 ⟨v', rfl, hf, hb2⟩
        have hbw : Below wr.heap.size wr w2 := ((Below.refl _ wr).alloc (Nat.le_refl _) _).trans (hb2.mono (by simp))
        have hrow2 := hrow.below hsz hbw
        obtain ⟨u0, q0⟩ := hrow2.cell (i * 3) (by omega)
        obtain ⟨u1, q1⟩ := hrow2.cell (i * 3 + 1) (by omega)
        obtain ⟨u2, q2⟩ := hrow2.cell (i * 3 + 2) (by omega)
        have g0 := hrow2.frozen (i * 3)
        have g1 := hrow2.frozen (i * 3 + 1)
        have g2 := hrow2.frozen (i * 3 + 2)
        generalize hti : l[i] = ti at hf
        obtain ⟨k, n, its⟩ := ti
        obtain ⟨a', cap', hl', rfl, hrest⟩ := hf.open
        have HF := Lib.hid hf
        have HTI := Lib.hid hti
        clear hf hti hrest
        go_wp2_with fail
        have hstep := copies_step hlt hrow hfr hbw (by rw [HTI.out]; exact HF.out.less (by simp))
        exact ⟨⟨i + 1, by go_num, by omega, ((hrow2.set _ _ rfl).set _ _ rfl).set _ _ rfl, hstep, (((hbl.trans (hbw.mono (Nat.le_of_lt hsz))).setCell (Nat.le_refl _) _).setCell (Nat.le_refl _) _).setCell (Nat.le_refl _) _⟩, by simp [intOf]; omega⟩
      · go_wp2_with fail
        go_ret
        exact ⟨some ⟨w.heap.size, 0, none⟩, l.length, rfl, .inr ⟨w.heap.size, rfl, Nat.le_refl _, by rw [List.take_of_length_le (by omega)] at hfr; exact FRow.less (Nat.le_succ _) _ _ _ hfr⟩, hbl⟩

set_option maxRecDepth 100000 in
set_option maxHeartbeats 1000000 in
theorem copy_any (N : Nat) : ∀ (t : VT) (v : Value) (w : World), t.size ≤ N → VIn w t v → Calls Tryz.prog 53 #[v] w (CopyOf t w) := by
  induction N with
  | zero => intro t v w h; have := VT.size_pos t; omega
  | succ N ih =>
    intro t v w hN hv
    obtain ⟨k, n, its⟩ := t
    obtain ⟨a, cap, hlen, rfl, hr⟩ := hv.open
    rw [VT.size] at hN
    have IH := Lib.hid ih; clear ih hv
    go_enter Tryz.func53, Tryz.ntmps53
    go_wp2_with fail
    refine (copies_of its a cap _ hlen (hr.below (((Below.refl _ w).alloc (Nat.le_refl _) _).alloc (by simp) _)) (fun i hi v W hvi => IH.out _ v W (by have := VT.sizes_get hi; omega) hvi)).mono ?_
    rintro e w1 ⟨a', cap', rfl, hf, hb1⟩
    have HF := Lib.hid hf; clear hf
    have hsz := hb1.size
    simp only [World.size_alloc] at hsz
    have c0 : w1.cell? ⟨w.heap.size, 0, none⟩ = some (.int .u8 k) := cell_stay hb1 (by simp; omega) (by go_simp)
    have c1 : w1.cell? ⟨w.heap.size, 1, none⟩ = some (.int .i64 n) := cell_stay hb1 (by simp; omega) (by go_simp)
    have c2 : w1.cell? ⟨w.heap.size, 2, none⟩ = some (.slice a its.length cap) := cell_stay hb1 (by simp; omega) (by go_simp)
    have f2 : w1.frozen? ⟨w.heap.size, 2, none⟩ = false := frozen_stay hb1 (by simp; omega) (by go_simp)
    have e0 : w1.cell? ⟨w.heap.size + 1, 0, none⟩ = some (.int .u8 0) := cell_stay hb1 (by simp) (by go_simp)
    have e1 : w1.cell? ⟨w.heap.size + 1, 1, none⟩ = some (.int .i64 0) := cell_stay hb1 (by simp) (by go_simp)
    have e2 : w1.cell? ⟨w.heap.size + 1, 2, none⟩ = some (.slice none 0 0) := cell_stay hb1 (by simp) (by go_simp)
    have g0 : w1.frozen? ⟨w.heap.size + 1, 0, none⟩ = false := frozen_stay hb1 (by simp) (by go_simp)
    have g1 : w1.frozen? ⟨w.heap.size + 1, 1, none⟩ = false := frozen_stay hb1 (by simp) (by go_simp)
    have g2 : w1.frozen? ⟨w.heap.size + 1, 2, none⟩ = false := frozen_stay hb1 (by simp) (by go_simp)
    have hbw : Below w.heap.size w w1 := (((Below.refl _ w).alloc (Nat.le_refl _) _).alloc (by simp) _).trans (hb1.mono (by simp; omega))
    go_wp2_with fail
    have q0 := set_same (v := .int .u8 k) (set_blk (o' := 2) (v := .slice a' its.length cap') e0 (show w.heap.size ≠ w.heap.size + 1 by omega))
    have q1 := set_same (v := .int .i64 n) (set_off (o' := 0) (v := .int .u8 k) (set_blk (o' := 2) (v := .slice a' its.length cap') e1 (show w.heap.size ≠ w.heap.size + 1 by omega)) (by omega))
    have q2 := set_same (v := .slice a' its.length cap') (set_off (o' := 1) (v := .int .i64 n) (set_off (o' := 0) (v := .int .u8 k) (set_blk (o' := 2) (v := .slice a' its.length cap') e2 (show w.heap.size ≠ w.heap.size + 1 by omega)) (by omega)) (by omega))
    refine bodyPost_ret (v := .agg #[.int .u8 k, .int .i64 n, .slice a' its.length cap']) ?_ rfl ⟨_, rfl, ?_, ?_⟩
    · simp [results, Tryz.results53, go_sem, q0, q1, q2]
    · rw [FIn]
      refine ⟨a', cap', hlen, rfl, HF.out.imp id ?_⟩
      rintro ⟨b, hb, hlo, hfr⟩
      simp only [World.size_alloc] at hlo hfr
      refine ⟨b, hb, by omega, ?_⟩
      refine FRow.mono (lo := w.heap.size + 1 + 1) (by omega) (fun b' o v hb' hc => ?_) (fun b' o v hb' hc hf => ?_) its b 0 hlo hfr
      · rw [cell_set_other (by simp; omega), cell_set_other (by simp; omega), cell_set_other (by simp; omega), cell_set_other (by simp; omega)]; exact hc
      · rw [World.frozen?_setCell, World.frozen?_setCell, World.frozen?_setCell, World.frozen?_setCell]; exact hf
    · exact (((hbw.setCell (by simp) _).setCell (by simp) _).setCell (by simp) _).setCell (by simp) _
end Go.Proofs.YtapofbdkofelkaaGreat
/- val.Num, Bool, Tuple, List. -/
namespace Go.Proofs.YtapofbdkofelkaaGreat
open Go.RowKit

theorem copies_any (l : List VT) (a : Option Addr) (cap : Nat) (w : World) (hl : l.length ≤ 3518437208780) (hr : VRow w l a) : Calls Tryz.prog 82 #[.slice a l.length cap] w (CopiesOf l w) :=
  copies_of l a cap w hl hr (fun _ _ v W hv => copy_any _ _ v W (Nat.le_refl _) hv)

def boolI (b : Bool) : Int := if b then 1 else 0
/-- what Tuple, List hand back. -/
def MadeOf (t : VT) (w : World) (e : Ending) (w' : World) : Prop := ∃ v', e = .returned v' ∧ FIn w' w.heap.size t v' ∧ Below w.heap.size w w'
theorem fin_of_copies {k n : Int} {l : List VT} {w w' : World} {B : Nat} {a' : Option Addr} {cap' : Nat} (hl : l.length ≤ 3518437208780) (hB : w.heap.size ≤ B) (h : l = [] ∨ ∃ b, a' = some ⟨b, 0, none⟩ ∧ B ≤ b ∧ FRow w' B l b 0) :
    FIn w' w.heap.size (.mk k n l) (.agg #[.int .u8 k, .int .i64 n, .slice a' l.length cap']) := by
  rw [FIn]
  refine ⟨a', cap', hl, rfl, h.imp id ?_⟩
  rintro ⟨b, hb, hlo, hf⟩
  exact ⟨b, hb, by omega, FRow.less hB _ _ _ hf⟩
end Go.Proofs.YtapofbdkofelkaaGreat
/- slices.Clone of predicates, pred.copies, pred.Copy. -/
namespace Go.Proofs.YtapofbdkofelkaaGreat
open Go.RowKit

theorem zeroP : (Tryz.prog.info? 28).map (fun i => (i.zero, i.size, i.bytes)) = some (some (.agg #[.int .u8 0, .int .u8 0, .int .i64 0, .slice none 0 0, .int .i64 0, .slice none 0 0]), 6, 80) := by kernel_rfl
/-- each cell of a row is there, and is one. -/
theorem PRow.cell_at {w : World} {l : List PT} {b o : Nat} (h : PRow w l (some ⟨b, o, none⟩)) (j : Nat) (hj : j < l.length * 6) : ∃ u, w.cell? ⟨b, o + j, none⟩ = some u ∧ u.oneCell' = true := by
  have hi : j / 6 < l.length := by omega
  obtain ⟨b', o', e, va, vc, a', cap', d0, d1, d2, d3, d4, d5, _⟩ := h.got (j / 6) hi
  cases e
  rcases (by omega : j = j / 6 * 6 ∨ j = j / 6 * 6 + 1 ∨ j = j / 6 * 6 + 2 ∨ j = j / 6 * 6 + 3 ∨ j = j / 6 * 6 + 4 ∨ j = j / 6 * 6 + 5) with e | e | e | e | e | e
  · exact ⟨_, by rw [e]; exact d0, rfl⟩
  · exact ⟨_, by rw [e]; exact d1, rfl⟩
  · exact ⟨_, by rw [e]; exact d2, rfl⟩
  · exact ⟨_, by rw [e]; exact d3, rfl⟩
  · exact ⟨_, by rw [e]; exact d4, rfl⟩
  · exact ⟨_, by rw [e]; exact d5, rfl⟩
/-- what 'Clone' hands back of the row at a. -/
def CloneOf (l : List PT) (a : Option Addr) (w : World) (e : Ending) (w' : World) : Prop := ∃ a' cap', e = .returned (.slice a' l.length cap') ∧ Below w.heap.size w w' ∧ (l = [] ∨ ∃ B, a' = some ⟨B, 0, none⟩ ∧ w.heap.size ≤ B ∧ RowAt w' 28 B (cap' * 6) ∧ l.length ≤ cap' ∧
    ∀ b o j u, a = some ⟨b, o, none⟩ → j < l.length * 6 → w.cell? ⟨b, o + j, none⟩ = some u → w'.cell? ⟨B, j, none⟩ = some u)
theorem clone_any (l : List PT) (a : Option Addr) (cap : Nat) (w : World) (hl : l.length ≤ 1759218604390) (hr : PRow w l a) : Calls Tryz.prog 98 #[.slice a l.length cap] w (CloneOf l a w) := by
  have qT : ∀ (w : World) (a : Option Addr) (n c n' c' : Nat), (binOp .eql 26 (.slice a n c) (.slice none n' c')).run Tryz.prog w = .ok (.bool a.isNone) w := fun w a n c n' c' => Lib.run_eql_slice_nil w _ _ a n c n' c' Tryz.underlying26
  cases a with
  | none =>
    cases l with
    | cons t ts => rw [PRow] at hr; obtain ⟨b, o, h, _⟩ := hr; cases h
    | nil =>
      go_enter Tryz.func98, Tryz.ntmps98
      go_wp2_with fail
      go_ret
      exact ⟨none, 0, rfl, Below.refl _ _, .inl rfl⟩
  | some p =>
    obtain ⟨w1, hw1, m1⟩ : ∃ w1, w.alloc (.cells #[] 28) = w1 ∧ Below w.heap.size w w1 := ⟨_, rfl, Below.al _⟩
    obtain ⟨i0, hi0, hz0, hz1, hz2⟩ := info_parts zeroP
    have hsrc : ∃ news : List Value, news.length = l.length * 6 ∧ (∀ j u, news[j]? = some u → w.cell? (p.add j) = some u ∧ u.oneCell' = true) := by
      by_cases h0 : l = []
      · subst h0; exact ⟨[], by simp, fun j u h => by simp at h⟩
      · have hpos : 0 < l.length := List.length_pos_iff.2 h0
        obtain ⟨b, o, e, _⟩ := hr.got 0 hpos
        cases e
        refine ⟨(List.range (l.length * 6)).map fun j => (w.cell? ⟨b, o + j, none⟩).getD .nilIface, by simp, fun j u h => ?_⟩
        obtain ⟨hj, he⟩ := List.getElem?_eq_some_iff.1 h
        have hj' : j < l.length * 6 := by simpa using hj
        obtain ⟨v, hv, h1⟩ := hr.cell_at j hj'
        simp only [List.getElem_map, List.getElem_range, hv, Option.getD_some] at he
        subst he
        exact ⟨by rw [Addr.add_lit]; exact hv, h1⟩
    obtain ⟨news, hnl, hnews⟩ := hsrc
    obtain ⟨a6, cap6, w6, happ, hg6, hb6, _⟩ := grown_append (P := Tryz.prog) (w := w1) (B := w.heap.size) (T := 28) (k := 6) (xs := []) m1.size (Grown.empty w1 w.heap.size 28 6 w.heap.size) (t := 26) (tx := 26) (ty := 26)
      Tryz.underlying26 hi0 hz0 hz1 rfl hz2 (Src.ofSlice w1 Tryz.underlying26 p l.length cap news hnl (fun j u hu => by
        have := (hnews j u hu).1
        exact (m1.cell (block_lt_of_cell this)).trans this) (fun u hu => by
        obtain ⟨j, hj, rfl⟩ := List.getElem_of_mem hu
        exact (hnews j _ (List.getElem?_eq_getElem hj)).2)) (by omega) (by omega)
    simp only [Nat.zero_add, List.nil_append] at happ hg6
    have HG := Lib.hid hg6; have HN := Lib.hid hnews; have HNL := Lib.hid hnl; have HAP := Lib.hid happ; have HR := Lib.hid hr
    clear hg6 hnews happ hi0 hz0 hz1 hz2 hnl hr
    go_enter Tryz.func98, Tryz.ntmps98
    go_wp2_with (at_builtin; refine wpList_append_run _ rfl _ _ _ rfl _ _ _ _ rfl rfl HAP.out ?_)
    go_ret
    refine ⟨a6, cap6, rfl, m1.trans (hb6.mono (Nat.le_refl _)), ?_⟩
    by_cases h0 : l = []
    · exact .inl h0
    · have hpos : 0 < l.length := List.length_pos_iff.2 h0
      obtain ⟨B, e, hB, hrow, hc⟩ := HG.out.cells (by rw [HNL.out]; omega)
      refine .inr ⟨B, e, hB, hrow, HG.out.le, fun b o j u ha hj hu => ?_⟩
      cases ha
      have hjn : j < news.length := by rw [HNL.out]; exact hj
      have h1 := (HN.out j _ (List.getElem?_eq_getElem hjn)).1
      rw [Addr.add_lit, hu] at h1
      exact hc j u (by rw [List.getElem?_eq_getElem hjn]; exact h1.symm)

/-- what 'Copy' hands back of t. -/
def PCopyOf (t : PT) (w : World) (e : Ending) (w' : World) : Prop := ∃ x', e = .returned x' ∧ PFIn w' w.heap.size t x' ∧ Below w.heap.size w w'
/-- what 'copies' hands back of l. -/
def PCopiesOf (l : List PT) (w : World) (e : Ending) (w' : World) : Prop :=
  ∃ a' cap', e = .returned (.slice a' l.length cap') ∧ (l = [] ∨ ∃ b, a' = some ⟨b, 0, none⟩ ∧ w.heap.size ≤ b ∧ PFRow w' w.heap.size l b 0) ∧ Below w.heap.size w w'

/-- one more predicate stands. -/
theorem pcopies_step {l : List PT} {i B n : Nat} {wr w2 : World} {u0 u1 u2 u3 u4 u5 : Value} (hi : i < l.length) (hn : l.length * 6 ≤ n) (hrow : RowAt wr 28 B n) (hr : PFRow wr (B + 1) (l.take i) B 0)
    (hb : Below wr.heap.size wr w2) (hv : PFIn w2 wr.heap.size l[i] (.agg #[u0, u1, u2, u3, u4, u5])) :
    PFRow ((((((w2.setCell ⟨B, i * 6, none⟩ u0).setCell ⟨B, i * 6 + 1, none⟩ u1).setCell ⟨B, i * 6 + 2, none⟩ u2).setCell ⟨B, i * 6 + 3, none⟩ u3).setCell ⟨B, i * 6 + 4, none⟩ u4).setCell ⟨B, i * 6 + 5, none⟩ u5) (B + 1) (l.take (i + 1)) B 0 := by
  have hlt := hrow.lt
  have hrow2 := hrow.below hlt hb
  have hl : (l.take (i + 1)).length = i + 1 := by rw [List.length_take]; omega
  refine PFRow.of B _ 0 fun j hj => ?_
  have hj' : j < i + 1 := by omega
  rw [take_get hj, Nat.zero_add]
  by_cases e : j = i
  · subst e
    obtain ⟨x0, c0⟩ := hrow2.cell (j * 6) (by omega)
    obtain ⟨x1, c1⟩ := hrow2.cell (j * 6 + 1) (by omega)
    obtain ⟨x2, c2⟩ := hrow2.cell (j * 6 + 2) (by omega)
    obtain ⟨x3, c3⟩ := hrow2.cell (j * 6 + 3) (by omega)
    obtain ⟨x4, c4⟩ := hrow2.cell (j * 6 + 4) (by omega)
    obtain ⟨x5, c5⟩ := hrow2.cell (j * 6 + 5) (by omega)
    obtain ⟨r0, r1, r2, r3, r4, r5⟩ := set6_in (u0 := u0) (u1 := u1) (u2 := u2) (u3 := u3) (u4 := u4) (u5 := u5) c0 c1 c2 c3 c4 c5
    refine ⟨u0, u1, u2, u3, u4, u5, r0, r1, r2, r3, r4, r5, fun j' _ => by rw [set6_frozen]; exact hrow2.frozen _, ?_⟩
    exact ((((((hv.set (p := ⟨B, j * 6, none⟩) hlt _).set (p := ⟨B, j * 6 + 1, none⟩) hlt _).set (p := ⟨B, j * 6 + 2, none⟩) hlt _).set (p := ⟨B, j * 6 + 3, none⟩) hlt _).set (p := ⟨B, j * 6 + 4, none⟩) hlt _).set (p := ⟨B, j * 6 + 5, none⟩) hlt _).less hlt
  · obtain ⟨v0, v1, v2, v3, v4, v5, h0, h1, h2, h3, h4, h5, _, ht⟩ := hr.get j (by rw [List.length_take]; omega)
    rw [Nat.zero_add] at h0 h1 h2 h3 h4 h5
    rw [take_get (by rw [List.length_take]; omega)] at ht
    refine ⟨v0, v1, v2, v3, v4, v5, ?_, ?_, ?_, ?_, ?_, ?_, fun j' _ => by rw [set6_frozen]; exact hrow2.frozen _, ?_⟩
    · rw [set6_out (fun _ => by omega)]; exact cell_stays hb h0
    · rw [set6_out (fun _ => by omega)]; exact cell_stays hb h1
    · rw [set6_out (fun _ => by omega)]; exact cell_stays hb h2
    · rw [set6_out (fun _ => by omega)]; exact cell_stays hb h3
    · rw [set6_out (fun _ => by omega)]; exact cell_stays hb h4
    · rw [set6_out (fun _ => by omega)]; exact cell_stays hb h5
    · exact ((((((ht.below hb).set (p := ⟨B, i * 6, none⟩) (Nat.lt_succ_self _) _).set (p := ⟨B, i * 6 + 1, none⟩) (Nat.lt_succ_self _) _).set (p := ⟨B, i * 6 + 2, none⟩) (Nat.lt_succ_self _) _).set (p := ⟨B, i * 6 + 3, none⟩) (Nat.lt_succ_self _) _).set (p := ⟨B, i * 6 + 4, none⟩) (Nat.lt_succ_self _) _).set (p := ⟨B, i * 6 + 5, none⟩) (Nat.lt_succ_self _) _

theorem RowAt.set6 {t b n : Nat} {w : World} (h : RowAt w t b n) (B q : Nat) (u0 u1 u2 u3 u4 u5 : Value) : RowAt ((((((w.setCell ⟨B, q, none⟩ u0).setCell ⟨B, q + 1, none⟩ u1).setCell ⟨B, q + 2, none⟩ u2).setCell ⟨B, q + 3, none⟩ u3).setCell ⟨B, q + 4, none⟩ u4).setCell ⟨B, q + 5, none⟩ u5) t b n :=
  (((((h.set _ _ rfl).set _ _ rfl).set _ _ rfl).set _ _ rfl).set _ _ rfl).set _ _ rfl
theorem below_set6 {lo : Nat} {a w : World} (h : Below lo a w) {B : Nat} (hB : lo ≤ B) (q : Nat) (u0 u1 u2 u3 u4 u5 : Value) : Below lo a ((((((w.setCell ⟨B, q, none⟩ u0).setCell ⟨B, q + 1, none⟩ u1).setCell ⟨B, q + 2, none⟩ u2).setCell ⟨B, q + 3, none⟩ u3).setCell ⟨B, q + 4, none⟩ u4).setCell ⟨B, q + 5, none⟩ u5) :=
  (((((h.setCell hB _).setCell hB _).setCell hB _).setCell hB _).setCell hB _).setCell hB _

set_option maxRecDepth 100000 in
set_option maxHeartbeats 4000000 in
theorem pcopies_of (l : List PT) (a : Option Addr) (cap : Nat) (w : World) (hl : l.length ≤ 1759218604390) (hr : PRow w l a)
    (hC : ∀ (i : Nat) (hi : i < l.length) (x : Value) (W : World), PIn W l[i] x → Calls Tryz.prog 54 #[x] W (PCopyOf l[i] W)) :
    Calls Tryz.prog 83 #[.slice a l.length cap] w (PCopiesOf l w) := by
  have HC := Lib.hid hC; clear hC
  have HR := Lib.hid hr; clear hr
  go_enter Tryz.func83, Tryz.ntmps83
  go_wp2_with fail
  refine (clone_any l a cap w hl HR.out).mono ?_
  rintro e w1 ⟨a', cap', rfl, hb1, hcl⟩
  by_cases h0 : l = []
  · subst h0
    have HCL := Lib.hid hcl; clear hcl
    go_wp2_with fail
    go_loopw [10] (fun x wr => x = .int .i64 0 ∧ Below w.heap.size w wr) (fun _ _ => 0)
    case atStart => exact ⟨rfl, hb1⟩
    case round =>
      obtain ⟨rfl, hB⟩ := hrel
      go_wp2_with fail
      go_ret
      exact ⟨a', cap', rfl, .inl rfl, hB⟩
  · obtain ⟨B, rfl, hB, hrow, hle, hcells⟩ := hcl.resolve_left h0
    have HCE := Lib.hid hcells; clear hcells hcl h0
    go_wp2_with fail
    go_loopw [10] (fun x wr => ∃ i : Nat, x = .int .i64 i ∧ i ≤ l.length ∧ RowAt wr 28 B (cap' * 6) ∧ PFRow wr (B + 1) (l.take i) B 0 ∧ (∀ j u, i * 6 ≤ j → j < l.length * 6 → w1.cell? ⟨B, j, none⟩ = some u → wr.cell? ⟨B, j, none⟩ = some u) ∧ Below w.heap.size w wr) (fun x _ => l.length - (intOf x).toNat)
    case atStart => exact ⟨0, rfl, by omega, hrow, by rw [List.take_zero, PFRow]; trivial, fun _ _ _ _ h => h, hb1⟩
    case round =>
      obtain ⟨i, rfl, hi, hrow, hfr, hrest, hbl⟩ := hrel
      have hsz := hrow.lt
      have HREST := Lib.hid hrest; clear hrest
      by_cases hlt : i < l.length
      · obtain ⟨b, o, rfl, ax, ac, a2, c2, d0, d1, d2, d3, d4, d5, hx⟩ := HR.out.got i hlt
        have e0 := HREST.out _ _ (by omega) (by omega) (HCE.out b o (i * 6) _ rfl (by omega) d0)
        have e1 := HREST.out _ _ (by omega) (by omega) (HCE.out b o (i * 6 + 1) _ rfl (by omega) d1)
        have e2 := HREST.out _ _ (by omega) (by omega) (HCE.out b o (i * 6 + 2) _ rfl (by omega) d2)
        have e3 := HREST.out _ _ (by omega) (by omega) (HCE.out b o (i * 6 + 3) _ rfl (by omega) d3)
        have e4 := HREST.out _ _ (by omega) (by omega) (HCE.out b o (i * 6 + 4) _ rfl (by omega) d4)
        have e5 := HREST.out _ _ (by omega) (by omega) (HCE.out b o (i * 6 + 5) _ rfl (by omega) d5)
        obtain ⟨w3, hw3, m3, s3, r0, r1, r2, r3, r4, r5⟩ := box6 wr (.int .u8 l[i].kind) (.int .u8 l[i].val.kind) (.int .i64 l[i].val.num) (.slice ax l[i].val.items.length ac) (.int .i64 l[i].num) (.slice a2 l[i].args.length c2) 28
        have hx3 := (hx.below hbl).below m3
        clear d0 d1 d2 d3 d4 d5 hx
        go_wp2_with fail
        refine (HC.out i hlt _ _ hx3).mono ?_
        rintro e w2 ⟨x', rfl, hf, hb2⟩
        have hbw : Below wr.heap.size wr w2 := m3.trans (hb2.mono m3.size)
        have hrow2 := hrow.below hsz hbw
        obtain ⟨u0, q0⟩ := hrow2.cell (i * 6) (by omega)
        obtain ⟨u1, q1⟩ := hrow2.cell (i * 6 + 1) (by omega)
        obtain ⟨u2, q2⟩ := hrow2.cell (i * 6 + 2) (by omega)
        obtain ⟨u3, q3⟩ := hrow2.cell (i * 6 + 3) (by omega)
        obtain ⟨u4, q4⟩ := hrow2.cell (i * 6 + 4) (by omega)
        obtain ⟨u5, q5⟩ := hrow2.cell (i * 6 + 5) (by omega)
        have g0 := hrow2.frozen (i * 6)
        have g1 := hrow2.frozen (i * 6 + 1)
        have g2 := hrow2.frozen (i * 6 + 2)
        have g3 := hrow2.frozen (i * 6 + 3)
        have g4 := hrow2.frozen (i * 6 + 4)
        have g5 := hrow2.frozen (i * 6 + 5)
        generalize hti : l[i] = ti at hf
        obtain ⟨k, v, n, its⟩ := ti
        obtain ⟨va', vc', a3, cap3, hl', hvl', rfl, hrest⟩ := hf.open
        have HF := Lib.hid hf
        have HTI := Lib.hid hti
        clear hf hti hrest e0 e1 e2 e3 e4 e5 r0 r1 r2 r3 r4 r5 hb2 hx3
        go_wp2_with fail
        have hstep := pcopies_step hlt (by omega) hrow hfr hbw (by rw [HTI.out]; exact HF.out.less m3.size)
        refine ⟨⟨i + 1, by go_num, by omega, hrow2.set6 _ _ _ _ _ _ _ _, hstep, fun j u h1 h2 h3 => ?_, below_set6 (hbl.trans (hbw.mono hbl.size)) hB _ _ _ _ _ _ _⟩, by simp [intOf]; omega⟩
        rw [set6_out (fun _ => .inr (by omega))]
        exact cell_stays hbw (HREST.out j u (by omega) h2 h3)
      · go_wp2_with fail
        go_ret
        exact ⟨some ⟨B, 0, none⟩, cap', rfl, .inr ⟨B, rfl, hB, by rw [List.take_of_length_le (by omega)] at hfr; exact PFRow.less (Nat.le_succ_of_le hB) _ _ _ hfr⟩, hbl⟩

theorem box6r (w : World) (a b c d e f : Value) (T : Nat) : ∃ w4, w.alloc (.cells #[a, b, c, d, e, f] T) = w4 ∧ Below w.heap.size w w4 ∧ w4.heap.size = w.heap.size + 1 ∧ RowAt w4 T w.heap.size 6 ∧
    w4.cell? ⟨w.heap.size, 0, none⟩ = some a ∧ w4.cell? ⟨w.heap.size, 1, none⟩ = some b ∧ w4.cell? ⟨w.heap.size, 2, none⟩ = some c ∧ w4.cell? ⟨w.heap.size, 3, none⟩ = some d ∧ w4.cell? ⟨w.heap.size, 4, none⟩ = some e ∧ w4.cell? ⟨w.heap.size, 5, none⟩ = some f := by
  refine ⟨_, rfl, Below.al _, by simp, RowAt.new w #[a, b, c, d, e, f] T, ?_, ?_, ?_, ?_, ?_, ?_⟩
  all_goals go_simp
theorem FIn.agg {w : World} {lo : Nat} {v : VT} {x : Value} (h : FIn w lo v x) : ∃ a cap, x = .agg #[.int .u8 v.kind, .int .i64 v.num, .slice a v.items.length cap] := by
  obtain ⟨k, n, its⟩ := v
  obtain ⟨a, cap, _, hx, _⟩ := h.open
  exact ⟨a, cap, hx⟩
theorem set3_in {w : World} {B : Nat} {u1 u2 u3 x1 x2 x3 : Value} (q1 : w.cell? ⟨B, 1, none⟩ = some x1) (q2 : w.cell? ⟨B, 2, none⟩ = some x2) (q3 : w.cell? ⟨B, 3, none⟩ = some x3) :
    ∃ w', ((w.setCell ⟨B, 1, none⟩ u1).setCell ⟨B, 2, none⟩ u2).setCell ⟨B, 3, none⟩ u3 = w' ∧ w'.cell? ⟨B, 1, none⟩ = some u1 ∧ w'.cell? ⟨B, 2, none⟩ = some u2 ∧ w'.cell? ⟨B, 3, none⟩ = some u3 ∧ (∀ b o v, (b = B → o = 0 ∨ 4 ≤ o) → w.cell? ⟨b, o, none⟩ = some v → w'.cell? ⟨b, o, none⟩ = some v) ∧
      (∀ p, w'.frozen? p = w.frozen? p) ∧ (∀ t b n, RowAt w t b n → RowAt w' t b n) ∧ w'.heap.size = w.heap.size ∧ ∀ lo a, Below lo a w → lo ≤ B → Below lo a w' := by
  refine ⟨_, rfl, ?_, ?_, ?_, fun b o v h hc => ?_, fun p => ?_, fun t b n h => ((h.set _ _ rfl).set _ _ rfl).set _ _ rfl, by simp [World.setCell], fun lo a h hl => ((h.setCell hl _).setCell hl _).setCell hl _⟩
  · exact set_off (set_off (set_same q1) (by omega)) (by omega)
  · exact set_off (set_same (set_off q2 (by omega))) (by omega)
  · exact set_same (set_off (set_off q3 (by omega)) (by omega))
  · by_cases e : b = B
    · subst e
      have := h rfl
      exact set_off (set_off (set_off hc (by omega)) (by omega)) (by omega)
    · exact set_blk (set_blk (set_blk hc (fun h => e h.symm)) (fun h => e h.symm)) (fun h => e h.symm)
  · rw [World.frozen?_setCell, World.frozen?_setCell, World.frozen?_setCell]
theorem set1_in {w : World} {B : Nat} {u x : Value} (q : w.cell? ⟨B, 5, none⟩ = some x) :
    ∃ w', w.setCell ⟨B, 5, none⟩ u = w' ∧ w'.cell? ⟨B, 5, none⟩ = some u ∧ (∀ b o v, (b = B → o < 5) → w.cell? ⟨b, o, none⟩ = some v → w'.cell? ⟨b, o, none⟩ = some v) ∧
      (∀ p, w'.frozen? p = w.frozen? p) ∧ (∀ t b n, RowAt w t b n → RowAt w' t b n) ∧ w'.heap.size = w.heap.size ∧ ∀ lo a, Below lo a w → lo ≤ B → Below lo a w' := by
  refine ⟨_, rfl, set_same q, fun b o v h hc => ?_, fun p => World.frozen?_setCell .., fun t b n h => h.set _ _ rfl, by simp [World.setCell], fun lo a h hl => h.setCell hl _⟩
  by_cases e : b = B
  · subst e
    have := h rfl
    exact set_off hc (by omega)
  · exact set_blk hc (fun h => e h.symm)
theorem set6_all {w : World} {B : Nat} {u0 u1 u2 u3 u4 u5 x0 x1 x2 x3 x4 x5 : Value} (q0 : w.cell? ⟨B, 0, none⟩ = some x0) (q1 : w.cell? ⟨B, 1, none⟩ = some x1) (q2 : w.cell? ⟨B, 2, none⟩ = some x2) (q3 : w.cell? ⟨B, 3, none⟩ = some x3) (q4 : w.cell? ⟨B, 4, none⟩ = some x4) (q5 : w.cell? ⟨B, 5, none⟩ = some x5) :
    ∃ w', (((((w.setCell ⟨B, 0, none⟩ u0).setCell ⟨B, 1, none⟩ u1).setCell ⟨B, 2, none⟩ u2).setCell ⟨B, 3, none⟩ u3).setCell ⟨B, 4, none⟩ u4).setCell ⟨B, 5, none⟩ u5 = w' ∧
      w'.cell? ⟨B, 0, none⟩ = some u0 ∧ w'.cell? ⟨B, 1, none⟩ = some u1 ∧ w'.cell? ⟨B, 2, none⟩ = some u2 ∧ w'.cell? ⟨B, 3, none⟩ = some u3 ∧ w'.cell? ⟨B, 4, none⟩ = some u4 ∧ w'.cell? ⟨B, 5, none⟩ = some u5 ∧
      (∀ b o v, b ≠ B → w.cell? ⟨b, o, none⟩ = some v → w'.cell? ⟨b, o, none⟩ = some v) ∧ (∀ p, w'.frozen? p = w.frozen? p) ∧ w'.heap.size = w.heap.size ∧ ∀ lo a, Below lo a w → lo ≤ B → Below lo a w' := by
  obtain ⟨r0, r1, r2, r3, r4, r5⟩ := set6_in (q := 0) (u0 := u0) (u1 := u1) (u2 := u2) (u3 := u3) (u4 := u4) (u5 := u5) q0 q1 q2 q3 q4 q5
  exact ⟨_, rfl, r0, r1, r2, r3, r4, r5, fun b o v h hc => by rw [set6_out (q := 0) (fun e => absurd e h)]; exact hc, fun p => set6_frozen (q := 0), by simp [World.setCell], fun lo a h hl => below_set6 h hl 0 _ _ _ _ _ _⟩
theorem FIn.sets {w w' : World} {lo : Nat} (hc : ∀ b o v, lo ≤ b → w.cell? ⟨b, o, none⟩ = some v → w'.cell? ⟨b, o, none⟩ = some v) (hf : ∀ p, w'.frozen? p = w.frozen? p) {t : VT} {v : Value} (h : FIn w lo t v) : FIn w' lo t v :=
  h.mono (Nat.le_refl _) hc (fun _ _ _ _ _ h => by rw [hf]; exact h) t v

set_option maxRecDepth 100000 in
set_option maxHeartbeats 4000000 in
theorem pcopy_any (N : Nat) : ∀ (t : PT) (x : Value) (w : World), t.cnt ≤ N → PIn w t x → Calls Tryz.prog 54 #[x] w (PCopyOf t w) := by
  induction N with
  | zero => intro t x w h; have := PT.cnt_pos t; omega
  | succ N ih =>
    intro t x w hN hx
    obtain ⟨k, v, n, l⟩ := t
    obtain ⟨va, vc, a, cap, hlen, hvl, rfl, hv, hr⟩ := hx.open
    rw [PT.cnt] at hN
    have IH := Lib.hid ih; clear ih hx
    obtain ⟨w0, hw0, m0, s0, R0, q0, q1, q2, q3, q4, q5⟩ := box6r w (.int .u8 k) (.int .u8 v.kind) (.int .i64 v.num) (.slice va v.items.length vc) (.int .i64 n) (.slice a l.length cap) 28
    obtain ⟨w1, hw1, m1, s1, R1, p0, p1, p2, p3, p4, p5⟩ := box6r w0 (.int .u8 0) (.int .u8 0) (.int .i64 0) (.slice none 0 0) (.int .i64 0) (.slice none 0 0) 28
    have R0 := R0.below (by omega) m1
    have q0 := cell_stays m1 q0
    have q1 := cell_stays m1 q1
    have q2 := cell_stays m1 q2
    have q3 := cell_stays m1 q3
    have q4 := cell_stays m1 q4
    have q5 := cell_stays m1 q5
    have hB1 : Below w.heap.size w w1 := m0.trans (m1.mono (by omega))
    have S0 := Lib.hid s0; have S1 := Lib.hid s1
    have hlt : w.heap.size < w0.heap.size := by omega
    have hne : w.heap.size ≠ w0.heap.size := by omega
    have hv1 := hv.below hB1
    clear hv m0 m1 s1 s0
    go_enter Tryz.func54, Tryz.ntmps54
    go_wp2_with fail
    refine (copy_any _ _ _ _ (Nat.le_refl _) hv1).mono ?_
    rintro e w2 ⟨v', rfl, hf, hb2⟩
    obtain ⟨va', vc', rfl⟩ := hf.agg
    have hs2 := hb2.size
    have hs1 := S1.out
    have hs0 := S0.out
    have R0 := R0.below (by omega) hb2
    have R1 := R1.below (by omega) hb2
    have q0 := cell_stays hb2 q0
    have q1 := cell_stays hb2 q1
    have q2 := cell_stays hb2 q2
    have q3 := cell_stays hb2 q3
    have q4 := cell_stays hb2 q4
    have q5 := cell_stays hb2 q5
    have p0 := cell_stays hb2 p0
    have p1 := cell_stays hb2 p1
    have p2 := cell_stays hb2 p2
    have p3 := cell_stays hb2 p3
    have p4 := cell_stays hb2 p4
    have p5 := cell_stays hb2 p5
    have g1 := R0.frozen 1
    have g2 := R0.frozen 2
    have g3 := R0.frozen 3
    obtain ⟨w3, hw3, r1, r2, r3, k3, f3, rw3, sz3, bl3⟩ := set3_in (u1 := .int .u8 v.kind) (u2 := .int .i64 v.num) (u3 := .slice va' v.items.length vc') q1 q2 q3
    have hf3 : FIn w3 w1.heap.size v (.agg #[.int .u8 v.kind, .int .i64 v.num, .slice va' v.items.length vc']) := hf.sets (fun b o u hb hc => k3 b o u (fun e => by omega) hc) f3
    have hB3 : Below w.heap.size w w3 := bl3 _ _ (hB1.trans (hb2.mono hB1.size)) (Nat.le_refl _)
    have Q0 := k3 _ _ _ (fun _ => by omega) q0
    have Q4 := k3 _ _ _ (fun _ => by omega) q4
    have Q5 := k3 _ _ _ (fun _ => by omega) q5
    have P0 := k3 _ _ _ (fun e => by omega) p0
    have P1 := k3 _ _ _ (fun e => by omega) p1
    have P2 := k3 _ _ _ (fun e => by omega) p2
    have P3 := k3 _ _ _ (fun e => by omega) p3
    have P4 := k3 _ _ _ (fun e => by omega) p4
    have P5 := k3 _ _ _ (fun e => by omega) p5
    have R0 := rw3 _ _ _ R0
    have R1 := rw3 _ _ _ R1
    have hr3 := hr.below hB3
    have HF3 := Lib.hid hf3
    clear k3 f3 rw3 bl3 hf hb2 hf3 hs1 hs0 hr hv1
    go_wp2_with fail
    clear q0 q4 q5 p0 p1 p2 p3 p4 p5 g1 g2 g3 q1 q2 q3
    refine (pcopies_of l a cap w3 hlen hr3 (fun i hi x W hxi => IH.out l[i] x W (by have := PT.cnts_get hi; omega) hxi)).mono ?_
    rintro e w4 ⟨a', cap', rfl, hrow, hb4⟩
    have HROW := Lib.hid hrow; clear hrow hr3
    have hs4 := hb4.size
    have hs1 := S1.out
    have hs0 := S0.out
    have R0 := R0.below (by omega) hb4
    have R1 := R1.below (by omega) hb4
    have Q0 := cell_stays hb4 Q0
    have r1 := cell_stays hb4 r1
    have r2 := cell_stays hb4 r2
    have r3 := cell_stays hb4 r3
    have Q4 := cell_stays hb4 Q4
    have Q5 := cell_stays hb4 Q5
    have P0 := cell_stays hb4 P0
    have P1 := cell_stays hb4 P1
    have P2 := cell_stays hb4 P2
    have P3 := cell_stays hb4 P3
    have P4 := cell_stays hb4 P4
    have P5 := cell_stays hb4 P5
    have g5 := R0.frozen 5
    obtain ⟨w5, hw5, t5, k5, f5, rw5, sz5, bl5⟩ := set1_in (u := .slice a' l.length cap') Q5
    have T0 := k5 _ _ _ (fun _ => by omega) Q0
    have T1 := k5 _ _ _ (fun _ => by omega) r1
    have T2 := k5 _ _ _ (fun _ => by omega) r2
    have T3 := k5 _ _ _ (fun _ => by omega) r3
    have T4 := k5 _ _ _ (fun _ => by omega) Q4
    have U0 := k5 _ _ _ (fun e => by omega) P0
    have U1 := k5 _ _ _ (fun e => by omega) P1
    have U2 := k5 _ _ _ (fun e => by omega) P2
    have U3 := k5 _ _ _ (fun e => by omega) P3
    have U4 := k5 _ _ _ (fun e => by omega) P4
    have U5 := k5 _ _ _ (fun e => by omega) P5
    have R1 := rw5 _ _ _ R1
    have h0 := R1.frozen 0
    have h1 := R1.frozen 1
    have h2 := R1.frozen 2
    have h3 := R1.frozen 3
    have h4 := R1.frozen 4
    have h5 := R1.frozen 5
    obtain ⟨w6, hw6, y0, y1, y2, y3, y4, y5, k6, f6, sz6, bl6⟩ := set6_all (u0 := .int .u8 k) (u1 := .int .u8 v.kind) (u2 := .int .i64 v.num) (u3 := .slice va' v.items.length vc') (u4 := .int .i64 n) (u5 := .slice a' l.length cap') U0 U1 U2 U3 U4 U5
    have hkeep : ∀ b o u, w1.heap.size ≤ b → w4.cell? ⟨b, o, none⟩ = some u → w6.cell? ⟨b, o, none⟩ = some u := fun b o u hb hc => k6 b o u (by omega) (k5 b o u (fun e => by omega) hc)
    have hfz : ∀ p, w6.frozen? p = w4.frozen? p := fun p => (f6 p).trans (f5 p)
    have hpost : PFIn w6 w.heap.size (.mk k v n l) (.agg #[.int .u8 k, .int .u8 v.kind, .int .i64 v.num, .slice va' v.items.length vc', .int .i64 n, .slice a' l.length cap']) := by
      refine PFIn.shut hlen ?_ (HROW.out.imp id ?_)
      · exact (((HF3.out.below hb4).sets hkeep hfz).less (by omega))
      · rintro ⟨b, hb, hlo, hfr⟩
        exact ⟨b, hb, by omega, PFRow.mono (by omega) (fun b o u hb hc => hkeep b o u (by omega) hc) (fun b o u hb hc hf => by rw [hfz]; exact hf) l b 0 hlo hfr⟩
    have hB6 : Below w.heap.size w w6 := bl6 _ _ (bl5 _ _ (hB3.trans (hb4.mono hB3.size)) (Nat.le_refl _)) (by omega)
    have HPOST := Lib.hid hpost
    clear k5 f5 rw5 bl5 k6 f6 bl6 hkeep hfz hb4 hpost hs1 hs0 HROW HF3
    go_wp2_with fail
    refine bodyPost_ret (v := .agg #[.int .u8 k, .int .u8 v.kind, .int .i64 v.num, .slice va' v.items.length vc', .int .i64 n, .slice a' l.length cap']) ?_ rfl ⟨_, rfl, HPOST.out, hB6⟩
    simp [results, Tryz.results54, go_sem, y0, y1, y2, y3, y4, y5]
end Go.Proofs.YtapofbdkofelkaaGreat
