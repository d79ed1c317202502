/- Texts of this claim laid into one: TSingles. -/
import Derived.Test.YteebbffecaeciaaM52
import Derived.Test.YteebbffecaeciaaM28
/- TermNames: singles, walked. -/
namespace Go.Proofs.Yteebbffecaeciaa
open Go.RowKit

def zeroTs (n : Nat) : Array Value := madeCells (Value.agg #[.int .u8 0, .int .u8 0, .int .i64 0, .slice none 0 0, .slice none 0 0, .int .i64 0, .int .i64 0, .slice none 0 0, .int .u8 0, .int .u8 0, .int .i64 0, .slice none 0 0, .int .i64 0, .slice none 0 0, .slice none 0 0]).cells (n * 15)
theorem zeroTs_size (n : Nat) : (zeroTs n).size = n * 15 := size_madeCells _ _
theorem make_terms (n : Nat) (h : n ≤ 651562446070) (w : World) : (Instr.makeSlice 45 (.int .i64 n) (.int .i64 n)).run Try.prog w = .ok (.slice (some ⟨w.heap.size, 0, none⟩) n n) (w.alloc (.cells (zeroTs n) 47)) := by
  obtain ⟨i0, hi, hz0, hz1, hz2⟩ := info_parts zeroT
  have := run_make (P := Try.prog) w 45 47 i0 _ Try.underlying45 hi hz0 .i64 .i64 n n (by omega) (by omega) (by rw [hz2]; omega) (by omega)
  rw [hz1] at this
  exact this
theorem zrow3 (w : World) : ∃ w1, w.alloc (.cells #[.int .u8 0, .int .i64 0, .slice none 0 0] 25) = w1 ∧ Below w.heap.size w w1 ∧ w.heap.size < w1.heap.size ∧ RowAt w1 25 w.heap.size 3 :=
  ⟨_, rfl, Below.al _, by simp, RowAt.new w #[.int .u8 0, .int .i64 0, .slice none 0 0] 25⟩
theorem nums0_get {n i : Nat} (h : i < (nums0 n).length) : (nums0 n)[i] = tNum 0 := by simp [nums0]
theorem nums0_len (n : Nat) : (nums0 n).length = n := by simp [nums0]
theorem mof_many (k : Int) (m : Nat) (a : Option Addr) (cap : Nat) (w : World) (hm : m ≤ 651562446070) (hr : TRow w (nums0 m) a) : Calls Try.prog 48 #[.int .u8 k, .slice a m cap] w (TMade (tOf k (nums0 m)) w) := by
  have := mof k (nums0 m) a cap w (by rw [nums0_len]; exact hm) hr
  rwa [nums0_len] at this
/-- the row, filled: any part of it. -/
theorem many_row {S : Nat → Prop} {B n : Nat} {w3 wr : World} (h : PutG S (nums0 n) B n w3 wr n) (lo m : Nat) (hm : lo + m ≤ n) : ∀ W, Below wr.heap.size wr W → TRow W (nums0 m) (some ⟨B, lo * 15, none⟩) := fun W hb => by
  refine TRow.of B _ (lo * 15) fun i hi => ?_
  have hi' : i < m := by simpa [nums0] using hi
  obtain ⟨A, hc, hk⟩ := h.done (lo + i) (by omega) (by rw [nums0_len]; omega)
  rw [nums0_get] at hc hk ⊢
  refine ⟨A, ?_, hk.ok.below hb⟩
  have e : lo * 15 + i * 15 = (lo + i) * 15 := by omega
  rw [e]
  exact hc.below hb
set_option maxRecDepth 100000 in
set_option maxHeartbeats 16000000 in
theorem singles_any (w : World) : Calls Try.prog 45 #[] w fun e w' => ∃ v, e = .returned v ∧ NTabOk singlesL v w' ∧ Below w.heap.size w w' := by
  obtain ⟨w1, hw1, m1, s1, R1⟩ := zrow3 w
  obtain ⟨w2, hw2, m2, s2, R2⟩ := zrow3 w1
  have hB2 : Below w.heap.size w w2 := m1.trans (m2.mono (Nat.le_of_lt s1))
  have hmk : ∀ w, (Instr.makeSlice 45 (.int .i64 65) (.int .i64 65)).run Try.prog w = .ok (.slice (some ⟨w.heap.size, 0, none⟩) 65 65) (w.alloc (.cells (zeroTs 65) 47)) := make_terms 65 (by decide)
  have HMK := Lib.hid hmk; clear hmk
  go_enter Try.func45, Try.ntmps45
  go_wp2_with (refine wpList_storeM (T := 25) (T' := 25) (n := 3) (q := 0) (cells := #[.int .u8 1, .int .i64 5, .slice none 0 0]) (by rfl) (by rfl) (by rfl) (by rfl) (by rfl) (by kernel_rfl) (by kernel_rfl) (R1.below s1 m2) (by decide) ?_)
  intro w3 c3 k3 z3 b3 r3 _
  have hB3 := b3 _ _ (Nat.le_refl _) hB2
  have R23 : RowAt w3 25 w1.heap.size 3 := row_block (k3 _ (by omega)) R2
  clear hw1 hw2
  go_wp2_with (refine wpList_storeM (T := 25) (T' := 25) (n := 3) (q := 0) (cells := #[.int .u8 2, .int .i64 2, .slice none 0 0]) (by rfl) (by rfl) (by rfl) (by rfl) (by rfl) (by kernel_rfl) (by kernel_rfl) R23 (by decide) ?_)
  intro w4 c4 k4 z4 b4 r4 _
  have hB4 := b4 _ _ (Nat.le_of_lt s1) hB3
  have H1 : Hid (w4.cell? ⟨w.heap.size, 0, none⟩ = some (.int .u8 1) ∧ w4.cell? ⟨w.heap.size, 1, none⟩ = some (.int .i64 5) ∧ w4.cell? ⟨w.heap.size, 2, none⟩ = some (.slice none 0 0)) := Lib.hid ⟨cell_block (k4 _ (by omega)) (c3 0 _ rfl), cell_block (k4 _ (by omega)) (c3 1 _ rfl), cell_block (k4 _ (by omega)) (c3 2 _ rfl)⟩
  have H2 : Hid (w4.cell? ⟨w1.heap.size, 0, none⟩ = some (.int .u8 2) ∧ w4.cell? ⟨w1.heap.size, 1, none⟩ = some (.int .i64 2) ∧ w4.cell? ⟨w1.heap.size, 2, none⟩ = some (.slice none 0 0)) := Lib.hid ⟨c4 0 _ rfl, c4 1 _ rfl, c4 2 _ rfl⟩
  have hz4 : w1.heap.size < w4.heap.size := by omega
  clear c3 k3 z3 b3 r3 R23 c4 k4 z4 b4 r4 hB3 hB2 m1 m2 R1 R2
  go_wp2_with (refine wpList_boxM (T := 28) (k := 6) (cells := #[.int .u8 1, .int .u8 0, .int .i64 0, .slice none 0 0, .int .i64 0, .slice none 0 0]) (by rfl) (by rfl) (by rfl) (by rfl) (by rfl) (by rfl) (by rfl) (by rfl) (by kernel_rfl) (by kernel_rfl) (by rfl) (by kernel_rfl) ?_)
  intro w5 c5 m5 hz5 _
  replace H1 := Lib.hid (And.intro (cell_stays m5 H1.out.1) (And.intro (cell_stays m5 H1.out.2.1) (cell_stays m5 H1.out.2.2)))
  replace H2 := Lib.hid (And.intro (cell_stays m5 H2.out.1) (And.intro (cell_stays m5 H2.out.2.1) (cell_stays m5 H2.out.2.2)))
  have H3 : Hid (w5.cell? ⟨w4.heap.size, 0, none⟩ = some (.int .u8 1) ∧ w5.cell? ⟨w4.heap.size, 1, none⟩ = some (.int .u8 0) ∧ w5.cell? ⟨w4.heap.size, 2, none⟩ = some (.int .i64 0) ∧ w5.cell? ⟨w4.heap.size, 3, none⟩ = some (.slice none 0 0) ∧ w5.cell? ⟨w4.heap.size, 4, none⟩ = some (.int .i64 0) ∧ w5.cell? ⟨w4.heap.size, 5, none⟩ = some (.slice none 0 0)) := Lib.hid ⟨c5 0 _ rfl, c5 1 _ rfl, c5 2 _ rfl, c5 3 _ rfl, c5 4 _ rfl, c5 5 _ rfl⟩
  have hB5 := hB4.trans (m5.mono hB4.size)
  clear c5 m5 hB4
  obtain ⟨w6, hw6, m6, s6, R6⟩ : ∃ w6, w5.alloc (.cells (zeroTs 65) 47) = w6 ∧ Below w5.heap.size w5 w6 ∧ w5.heap.size < w6.heap.size ∧ RowAt w6 47 w5.heap.size (65 * 15) := ⟨_, rfl, Below.al _, by simp, by have := RowAt.new w5 (zeroTs 65) 47; rwa [zeroTs_size] at this⟩
  replace H1 := Lib.hid (And.intro (cell_stays m6 H1.out.1) (And.intro (cell_stays m6 H1.out.2.1) (cell_stays m6 H1.out.2.2)))
  replace H2 := Lib.hid (And.intro (cell_stays m6 H2.out.1) (And.intro (cell_stays m6 H2.out.2.1) (cell_stays m6 H2.out.2.2)))
  obtain ⟨p0, p1, p2, p3, p4, p5⟩ := H3.out
  replace H3 := Lib.hid (And.intro (cell_stays m6 p0) (And.intro (cell_stays m6 p1) (And.intro (cell_stays m6 p2) (And.intro (cell_stays m6 p3) (And.intro (cell_stays m6 p4) (cell_stays m6 p5))))))
  clear p0 p1 p2 p3 p4 p5
  have hB6 := hB5.trans (m6.mono hB5.size)
  have hmk := HMK.out
  obtain ⟨S, hS⟩ : ∃ S : Nat → Prop, S = fun q => q = w5.heap.size := ⟨_, rfl⟩
  have HSB : Hid (S w5.heap.size) := Lib.hid (by rw [hS])
  have HR6 := Lib.hid R6; have HB6 := Lib.hid hB6; have HSZ := Lib.hid (And.intro s1 (And.intro hz4 (And.intro hz5 s6)))
  clear hS R6 hB5 m6 hB6 s6 s1 s2 hz4 hz5
  go_wp2_with fail
  clear hmk hw6
  go_loopw [5] (fun x wr => ∃ i : Nat, x = .int .i64 i ∧ i ≤ 65 ∧ PutG S (nums0 65) w5.heap.size 65 w6 wr i) (fun x _ => 65 - (intOf x).toNat)
  case atStart => exact ⟨0, rfl, by omega, ⟨Below.refl _ _, Nat.le_refl _, fun _ _ _ => rfl, HR6.out, fun j hj => absurd hj (Nat.not_lt_zero _), fun _ _ _ h => h⟩⟩
  case round =>
    obtain ⟨i, rfl, hi, hG⟩ := hrel
    have HG := Lib.hid hG; clear hG
    have hsz := HSZ.out
    have hlw : w5.heap.size < wr.heap.size := by have := HG.out.size; omega
    by_cases hlt : i < 65
    · as_aux_lemma =>
      have d1 : decide ((i : Int) < 65) = true := decide_eq_true (by omega)
      have d2 : decide (i < 65) = true := decide_eq_true hlt
      go_wp2_with fail
      refine (mnum 0 _).mono ?_
      rintro e w7 ⟨x, rfl, ⟨X, rfl, hX⟩, hb7⟩
      have HK := Lib.hid (hX.leaf rfl rfl rfl rfl rfl S)
      have hi' : i < (nums0 65).length := by rw [nums0_len]; exact hlt
      have hr7 := HG.out.row.below hlw hb7
      have hg7 := HG.out.step (Y := X) HSB.out hi' hlw (by rw [nums0_len]; omega) hb7 (by rw [nums0_get]; exact HK.out)
      rw [nums0_get] at hg7
      have HG7 := Lib.hid hg7
      have HTH : Hid (w7.there w5.heap.size (i * 15) 15) := Lib.hid (fun j hj => by
        obtain ⟨v, hv⟩ := hr7.cell (i * 15 + j) (by omega)
        exact ⟨by rw [hv]; rfl, hr7.frozen _⟩)
      clear hX hb7 hr7 hg7 HK hi'
      go_wp2_with (refine wpList_store15W (t := tNum 0) (A := X) (by rfl) (by rfl) (by rfl) (by rfl) (by rfl) HTH.out ?_)
      intro w8 h8
      rw [← h8.out] at HG7
      clear h8 HTH
      go_wp2_with fail
      go_roundw
      case rel => exact ⟨i + 1, by go_num, by omega, HG7.out⟩
      case measure => simp [intOf]; omega
    · as_aux_lemma =>
      have hie : i = 65 := by omega
      subst hie
      have d1 : decide ((65 : Int) < 65) = false := by decide
      have d2 : decide (65 < 65) = false := by decide
      have HMANY0 := Lib.hid (many_row HG.out)
      obtain ⟨bm, hbm⟩ : ∃ bm, bm = w5.heap.size := ⟨_, rfl⟩
      obtain ⟨b1, hb1⟩ : ∃ b1, b1 = w.heap.size := ⟨_, rfl⟩
      obtain ⟨b2, hb2⟩ : ∃ b2, b2 = w1.heap.size := ⟨_, rfl⟩
      obtain ⟨b3, hb3⟩ : ∃ b3, b3 = w4.heap.size := ⟨_, rfl⟩
      have hold : ∀ q, q < w6.heap.size → q ≠ w5.heap.size → wr.heap[q]? = w6.heap[q]? := HG.out.same
      replace H1 : Hid (wr.cell? ⟨b1, 0, none⟩ = some (.int .u8 1) ∧ wr.cell? ⟨b1, 1, none⟩ = some (.int .i64 5) ∧ wr.cell? ⟨b1, 2, none⟩ = some (.slice none 0 0)) := Lib.hid (by
        rw [hb1]
        exact ⟨cell_block (hold _ (by omega) (by omega)) H1.out.1, cell_block (hold _ (by omega) (by omega)) H1.out.2.1, cell_block (hold _ (by omega) (by omega)) H1.out.2.2⟩)
      replace H2 : Hid (wr.cell? ⟨b2, 0, none⟩ = some (.int .u8 2) ∧ wr.cell? ⟨b2, 1, none⟩ = some (.int .i64 2) ∧ wr.cell? ⟨b2, 2, none⟩ = some (.slice none 0 0)) := Lib.hid (by
        rw [hb2]
        exact ⟨cell_block (hold _ (by omega) (by omega)) H2.out.1, cell_block (hold _ (by omega) (by omega)) H2.out.2.1, cell_block (hold _ (by omega) (by omega)) H2.out.2.2⟩)
      replace H3 : Hid (wr.cell? ⟨b3, 0, none⟩ = some (.int .u8 1) ∧ wr.cell? ⟨b3, 1, none⟩ = some (.int .u8 0) ∧ wr.cell? ⟨b3, 2, none⟩ = some (.int .i64 0) ∧ wr.cell? ⟨b3, 3, none⟩ = some (.slice none 0 0) ∧ wr.cell? ⟨b3, 4, none⟩ = some (.int .i64 0) ∧ wr.cell? ⟨b3, 5, none⟩ = some (.slice none 0 0)) := Lib.hid (by
        obtain ⟨p0, p1, p2, p3, p4, p5⟩ := H3.out
        rw [hb3]
        exact ⟨cell_block (hold _ (by omega) (by omega)) p0, cell_block (hold _ (by omega) (by omega)) p1, cell_block (hold _ (by omega) (by omega)) p2, cell_block (hold _ (by omega) (by omega)) p3, cell_block (hold _ (by omega) (by omega)) p4, cell_block (hold _ (by omega) (by omega)) p5⟩)
      have hBr : Below w.heap.size w wr := HB6.out.trans (HG.out.below.mono (by omega))
      rw [← hbm] at HMANY0
      have HMANY : Hid (∀ lo m, lo + m ≤ 65 → ∀ W, Below wr.drew.heap.size wr W → TRow W (nums0 m) (some ⟨bm, lo * 15, none⟩)) := HMANY0
      rw [← hb1, ← hb2, ← hb3, ← hbm]
      have HBR := Lib.hid hBr
      clear hold hb1 hb2 hb3 hbm hBr HG HMANY0 hsz hlw HSZ HB6 HSB HR6 HMK hi hlt
      go_wp2_with fail
      clear d1 d2
      have HBV := Lib.hid (fun W (h : Below wr.drew.heap.size wr.drew W) => (Below.refl _ wr).drew.trans h)
      try simp only [List.append_eq, List.cons_append, List.nil_append]
      refine wp_region_allW (kindT [(20, .term (TT.mk 0 vNone [] 0 0 [] pNone [])), (21, .prop (NbOk (TT.mk 0 vNone [] 0 0 [] pNone []) 11) (NbOk.mono _ _)), (22, .term (TT.mk 12 vNone [] 0 0 [] pNone [])), (23, .prop (NbOk (TT.mk 12 vNone [] 0 0 [] pNone []) 11) (NbOk.mono _ _)), (24, .term (tNum 5)), (25, .prop (NbOk (tNum 5) 0) (NbOk.mono _ _)), (26, .term (TT.mk 1 vNone [] 0 0 [] pNone [])), (27, .prop (NbOk (TT.mk 1 vNone [] 0 0 [] pNone []) 11) (NbOk.mono _ _)), (28, .fixed (.agg #[.int .u8 2, .int .i64 2, .slice none 0 0])), (29, .term (TT.mk 1 vBad [] 0 0 [] pNone [])), (30, .prop (NbOk (TT.mk 1 vBad [] 0 0 [] pNone []) 1) (NbOk.mono _ _)), (31, .fixed (.agg #[.int .u8 1, .int .i64 5, .slice none 0 0])), (32, .fixed (.agg #[.int .u8 1, .int .i64 5, .slice none 0 0])), (33, .prop (ValsK [vFive]) (ValsK.mono _)), (34, .term (TT.mk 1 vFive [vFive] 0 0 [] pNone [])), (35, .prop (NbOk (TT.mk 1 vFive [vFive] 0 0 [] pNone []) 3) (NbOk.mono _ _)), (36, .fixed (.agg #[.int .u8 1, .int .i64 5, .slice none 0 0])), (37, .fixed (.agg #[.int .u8 1, .int .u8 0, .int .i64 0, .slice none 0 0, .int .i64 0, .slice none 0 0])), (38, .term (TT.mk 1 vFive [] 0 0 [] pYes [])), (39, .prop (NbOk (TT.mk 1 vFive [] 0 0 [] pYes []) 3) (NbOk.mono _ _)), (40, .fixed (.agg #[.int .u8 1, .int .i64 5, .slice none 0 0])), (41, .prop (NumsK [1]) (NumsK.mono _)), (42, .term (TT.mk 1 vFive [] 0 0 [1] pNone [])), (43, .prop (NbOk (TT.mk 1 vFive [] 0 0 [1] pNone []) 3) (NbOk.mono _ _)), (44, .fixed (.agg #[.int .u8 1, .int .i64 5, .slice none 0 0])), (45, .term (TT.mk 1 vFive [] 0 1 [] pNone [])), (46, .prop (NbOk (TT.mk 1 vFive [] 0 1 [] pNone []) 3) (NbOk.mono _ _)), (47, .fixed (.agg #[.int .u8 1, .int .i64 5, .slice none 0 0])), (48, .fixed (.slice (some ⟨bm, 0, none⟩) 65 65)), (49, .fixed (.slice (some ⟨bm, 0, none⟩) 1 65)), (50, .term (TT.mk 1 vFive [] 0 0 [] pNone (nums0 1))), (51, .prop (NbOk (TT.mk 1 vFive [] 0 0 [] pNone (nums0 1)) 5) (NbOk.mono _ _)), (52, .fixed (.agg #[.int .u8 1, .int .i64 5, .slice none 0 0])), (53, .term (TT.mk 2 vFive [] 0 0 [] pNone [])), (54, .prop (NbOk (TT.mk 2 vFive [] 0 0 [] pNone []) 3) (NbOk.mono _ _)), (55, .term (tSpan 1 6)), (56, .prop (NbOk (tSpan 1 6) 0) (NbOk.mono _ _)), (57, .term (tSpan 6 6)), (58, .prop (NbOk (tSpan 6 6) 0) (NbOk.mono _ _)), (59, .term (tSpan 7 6)), (60, .prop (NbOk (tSpan 7 6) 1) (NbOk.mono _ _)), (61, .term (tSpan (-1099511627776) 1099511627776)), (62, .prop (NbOk (tSpan (-1099511627776) 1099511627776) 0) (NbOk.mono _ _)), (63, .term (tSpan 0 1099511627777)), (64, .prop (NbOk (tSpan 0 1099511627777) 1) (NbOk.mono _ _)), (65, .term (tSpan (-1099511627777) 0)), (66, .prop (NbOk (tSpan (-1099511627777) 0) 1) (NbOk.mono _ _)), (67, .term (TT.mk 3 vNone [] 0 0 [] pNone [])), (68, .prop (NbOk (TT.mk 3 vNone [] 0 0 [] pNone []) 4) (NbOk.mono _ _)), (69, .prop (NumsK [0]) (NumsK.mono _)), (70, .term (TT.mk 3 vNone [] 0 0 [0] pNone [])), (71, .prop (NbOk (TT.mk 3 vNone [] 0 0 [0] pNone []) 7) (NbOk.mono _ _)), (72, .prop (NumsK [1, (-1)]) (NumsK.mono _)), (73, .term (TT.mk 3 vNone [] 0 0 [1, (-1)] pNone [])), (74, .prop (NbOk (TT.mk 3 vNone [] 0 0 [1, (-1)] pNone []) 1) (NbOk.mono _ _)), (75, .prop (NumsK [1, 2]) (NumsK.mono _)), (76, .fixed (.slice (some ⟨bm, 0, none⟩) 65 65)), (77, .fixed (.slice (some ⟨bm, 0, none⟩) 1 65)), (78, .term (TT.mk 3 vNone [] 0 0 [1, 2] pNone (nums0 1))), (79, .prop (NbOk (TT.mk 3 vNone [] 0 0 [1, 2] pNone (nums0 1)) 4) (NbOk.mono _ _)), (80, .prop (NumsK [1, 0]) (NumsK.mono _)), (81, .fixed (.slice (some ⟨bm, 0, none⟩) 65 65)), (82, .fixed (.slice (some ⟨bm, 0, none⟩) 2 65)), (83, .term (TT.mk 3 vNone [] 0 0 [1, 0] pNone (nums0 2))), (84, .prop (NbOk (TT.mk 3 vNone [] 0 0 [1, 0] pNone (nums0 2)) 0) (NbOk.mono _ _)), (85, .prop (NumsK [1]) (NumsK.mono _)), (86, .fixed (.slice (some ⟨bm, 0, none⟩) 65 65)), (87, .fixed (.slice (some ⟨bm, 0, none⟩) 2 65)), (88, .term (TT.mk 3 vNone [] 0 0 [1] pNone (nums0 2))), (89, .prop (NbOk (TT.mk 3 vNone [] 0 0 [1] pNone (nums0 2)) 5) (NbOk.mono _ _)), (90, .prop (NumsK [1, 2]) (NumsK.mono _)), (91, .fixed (.agg #[.int .u8 1, .int .i64 5, .slice none 0 0])), (92, .prop (ValsK [vFive]) (ValsK.mono _)), (93, .term (TT.mk 4 vNone [vFive] 0 0 [1, 2] pNone [])), (94, .prop (NbOk (TT.mk 4 vNone [vFive] 0 0 [1, 2] pNone []) 4) (NbOk.mono _ _)), (95, .prop (NumsK [1]) (NumsK.mono _)), (96, .fixed (.agg #[.int .u8 1, .int .i64 5, .slice none 0 0])), (97, .fixed (.agg #[.int .u8 1, .int .i64 5, .slice none 0 0])), (98, .prop (ValsK [vFive, vFive]) (ValsK.mono _)), (99, .term (TT.mk 4 vNone [vFive, vFive] 0 0 [1] pNone [])), (100, .prop (NbOk (TT.mk 4 vNone [vFive, vFive] 0 0 [1] pNone []) 5) (NbOk.mono _ _)), (101, .prop (NumsK [1]) (NumsK.mono _)), (102, .fixed (.agg #[.int .u8 2, .int .i64 2, .slice none 0 0])), (103, .prop (ValsK [vBad]) (ValsK.mono _)), (104, .term (TT.mk 4 vNone [vBad] 0 0 [1] pNone [])), (105, .prop (NbOk (TT.mk 4 vNone [vBad] 0 0 [1] pNone []) 1) (NbOk.mono _ _)), (106, .prop (NumsK [1]) (NumsK.mono _)), (107, .fixed (.agg #[.int .u8 1, .int .i64 5, .slice none 0 0])), (108, .prop (ValsK [vFive]) (ValsK.mono _)), (109, .term (TT.mk 4 vNone [vFive] 0 0 [1] pNone [])), (110, .prop (NbOk (TT.mk 4 vNone [vFive] 0 0 [1] pNone []) 0) (NbOk.mono _ _)), (111, .prop (NumsK [1]) (NumsK.mono _)), (112, .fixed (.agg #[.int .u8 1, .int .i64 5, .slice none 0 0])), (113, .prop (ValsK [vFive]) (ValsK.mono _)), (114, .term (TT.mk 4 vNone [vFive] 1 0 [1] pNone [])), (115, .prop (NbOk (TT.mk 4 vNone [vFive] 1 0 [1] pNone []) 3) (NbOk.mono _ _)), (116, .term (tOf 5 [])), (117, .prop (NbOk (tOf 5 []) 0) (NbOk.mono _ _)), (118, .fixed (.slice (some ⟨bm, 0, none⟩) 65 65)), (119, .term (tOf 5 (nums0 65))), (120, .prop (NbOk (tOf 5 (nums0 65)) 5) (NbOk.mono _ _)), (121, .fixed (.slice (some ⟨bm, 0, none⟩) 65 65)), (122, .fixed (.slice (some ⟨bm, 15, none⟩) 64 64)), (123, .term (tOf 7 (nums0 64))), (124, .prop (NbOk (tOf 7 (nums0 64)) 0) (NbOk.mono _ _)), (125, .term (tNum 1)), (126, .term (tList 0 16 (tNum 1))), (127, .prop (NbOk (tList 0 16 (tNum 1)) 0) (NbOk.mono _ _)), (128, .term (tNum 1)), (129, .term (tList 0 17 (tNum 1))), (130, .prop (NbOk (tList 0 17 (tNum 1)) 1) (NbOk.mono _ _)), (131, .term (tNum 1)), (132, .term (tList 2 1 (tNum 1))), (133, .prop (NbOk (tList 2 1 (tNum 1)) 1) (NbOk.mono _ _)), (134, .term (tNum 1)), (135, .term (tList (-1) 1 (tNum 1))), (136, .prop (NbOk (tList (-1) 1 (tNum 1)) 1) (NbOk.mono _ _)), (137, .term (tOf 6 [])), (138, .prop (NbOk (tOf 6 []) 4) (NbOk.mono _ _)), (139, .fixed (.slice (some ⟨bm, 0, none⟩) 65 65)), (140, .fixed (.slice (some ⟨bm, 0, none⟩) 2 65)), (141, .term (TT.mk 8 vNone [] 2 0 [] pNone (nums0 2))), (142, .prop (NbOk (TT.mk 8 vNone [] 2 0 [] pNone (nums0 2)) 0) (NbOk.mono _ _)), (143, .fixed (.slice (some ⟨bm, 0, none⟩) 65 65)), (144, .fixed (.slice (some ⟨bm, 0, none⟩) 2 65)), (145, .term (TT.mk 8 vNone [] 3 0 [] pNone (nums0 2))), (146, .prop (NbOk (TT.mk 8 vNone [] 3 0 [] pNone (nums0 2)) 1) (NbOk.mono _ _)), (147, .fixed (.slice (some ⟨bm, 0, none⟩) 65 65)), (148, .fixed (.slice (some ⟨bm, 0, none⟩) 2 65)), (149, .term (TT.mk 8 vNone [] 0 1 [] pNone (nums0 2))), (150, .prop (NbOk (TT.mk 8 vNone [] 0 1 [] pNone (nums0 2)) 3) (NbOk.mono _ _)), (151, .fixed (.slice (some ⟨bm, 0, none⟩) 65 65)), (152, .fixed (.slice (some ⟨bm, 0, none⟩) 1 65)), (153, .term (TT.mk 9 vNone [] 0 0 [] pNone (nums0 1))), (154, .prop (NbOk (TT.mk 9 vNone [] 0 0 [] pNone (nums0 1)) 11) (NbOk.mono _ _)), (155, .fixed (.agg #[.int .u8 1, .int .u8 0, .int .i64 0, .slice none 0 0, .int .i64 0, .slice none 0 0])), (156, .term (TT.mk 9 vNone [] 0 0 [] pYes [])), (157, .prop (NbOk (TT.mk 9 vNone [] 0 0 [] pYes []) 4) (NbOk.mono _ _)), (158, .fixed (.agg #[.int .u8 1, .int .u8 0, .int .i64 0, .slice none 0 0, .int .i64 0, .slice none 0 0])), (159, .fixed (.slice (some ⟨bm, 0, none⟩) 65 65)), (160, .fixed (.slice (some ⟨bm, 0, none⟩) 2 65)), (161, .term (TT.mk 9 vNone [] 0 0 [] pYes (nums0 2))), (162, .prop (NbOk (TT.mk 9 vNone [] 0 0 [] pYes (nums0 2)) 5) (NbOk.mono _ _)), (163, .fixed (.agg #[.int .u8 1, .int .u8 0, .int .i64 0, .slice none 0 0, .int .i64 0, .slice none 0 0])), (164, .fixed (.slice (some ⟨bm, 0, none⟩) 65 65)), (165, .fixed (.slice (some ⟨bm, 0, none⟩) 1 65)), (166, .term (TT.mk 9 vNone [] 0 0 [] pYes (nums0 1))), (167, .prop (NbOk (TT.mk 9 vNone [] 0 0 [] pYes (nums0 1)) 0) (NbOk.mono _ _)), (168, .term (tNum 0)), (169, .term (tNum 1)), (170, .term (tSized 8 (tNum 0) (tNum 1))), (171, .prop (NbOk (tSized 8 (tNum 0) (tNum 1)) 0) (NbOk.mono _ _)), (172, .term (tNum 0)), (173, .term (tNum 1)), (174, .term (tSized 9 (tNum 0) (tNum 1))), (175, .prop (NbOk (tSized 9 (tNum 0) (tNum 1)) 1) (NbOk.mono _ _)), (176, .term (tNum 0)), (177, .term (tNum 1)), (178, .term (tSized (-1) (tNum 0) (tNum 1))), (179, .prop (NbOk (tSized (-1) (tNum 0) (tNum 1)) 1) (NbOk.mono _ _)), (180, .term (tNum 0)), (181, .row [tNum 0]), (182, .term (tOf 10 [tNum 0])), (183, .prop (NbOk (tOf 10 [tNum 0]) 4) (NbOk.mono _ _)), (184, .fixed (.slice (some ⟨bm, 0, none⟩) 65 65)), (185, .fixed (.slice (some ⟨bm, 0, none⟩) 2 65)), (186, .term (TT.mk 10 vNone [] 0 2 [] pNone (nums0 2))), (187, .prop (NbOk (TT.mk 10 vNone [] 0 2 [] pNone (nums0 2)) 3) (NbOk.mono _ _)), (188, .term (tSelf)), (189, .prop (NbOk (tSelf) 0) (NbOk.mono _ _)), (190, .term (tNum 0)), (191, .row [tNum 0]), (192, .term (tOf 11 [tNum 0])), (193, .prop (NbOk (tOf 11 [tNum 0]) 5) (NbOk.mono _ _)), (194, .term (TT.mk 11 vNone [] 1 0 [] pNone [])), (195, .prop (NbOk (TT.mk 11 vNone [] 1 0 [] pNone []) 3) (NbOk.mono _ _)), (196, .prop (NTabOk singlesL) (NTabOk.mono _)), (0, .prop (NTabOk singlesL) (NTabOk.mono _))]) 197 (by kernel_rfl) (by kernel_rfl) (by rfl) (kindT_mono _) ?_ ?_
      · as_aux_lemma =>
        show ∀ o ∈ [(0, _), (1, _), (2, _), (3, _), (4, _), (5, _), (6, _), (7, _), (8, _), (9, _), (10, _), (11, _), (12, _), (13, _), (14, _), (15, _), (16, _), (17, _), (18, _), (19, _), (20, _), (21, _), (22, _), (23, _), (24, _), (25, _), (26, _), (27, _), (28, _), (29, _), (30, _), (31, _), (32, _), (33, _), (34, _), (35, _), (36, _), (37, _), (38, _), (39, _), (40, _), (41, _), (42, _), (43, _), (44, _), (45, _), (46, _), (47, _), (48, _), (49, _), (50, _), (51, _), (52, _), (53, _), (54, _), (55, _), (56, _), (57, _), (58, _), (59, _), (60, _), (61, _), (62, _), (63, _), (64, _), (65, _), (66, _), (67, _), (68, _), (69, _), (70, _), (71, _), (72, _), (73, _), (74, _), (75, _), (76, _), (77, _), (78, _), (79, _), (80, _), (81, _), (82, _), (83, _), (84, _), (85, _), (86, _), (87, _), (88, _), (89, _), (90, _), (91, _), (92, _), (93, _), (94, _), (95, _), (96, _), (97, _), (98, _), (99, _), (100, _), (101, _), (102, _), (103, _), (104, _), (105, _), (106, _), (107, _), (108, _), (109, _), (110, _), (111, _), (112, _), (113, _), (114, _), (115, _), (116, _), (117, _), (118, _), (119, _), (120, _), (121, _), (122, _), (123, _), (124, _), (125, _), (126, _), (127, _), (128, _), (129, _), (130, _), (131, _), (132, _), (133, _), (134, _), (135, _), (136, _), (137, _), (138, _), (139, _), (140, _), (141, _), (142, _), (143, _), (144, _), (145, _), (146, _), (147, _), (148, _), (149, _), (150, _), (151, _), (152, _), (153, _), (154, _), (155, _), (156, _), (157, _), (158, _), (159, _), (160, _), (161, _), (162, _), (163, _), (164, _), (165, _), (166, _), (167, _), (168, _), (169, _), (170, _), (171, _), (172, _), (173, _), (174, _), (175, _), (176, _), (177, _)], _
        refine (tfm ?_ (tfm ?_ (tfm ?_ (tfm ?_ (tfm ?_ (tfm ?_ (tfm ?_ (tfm ?_ (tfm ?_ (tfm ?_ (tfm ?_ (tfm ?_ (tfm ?_ (tfm ?_ (tfm ?_ (tfm ?_ (tfm ?_ (tfm ?_ (tfm ?_ (tfm ?_ (tfm ?_ (tfm ?_ (tfm ?_ (tfm ?_ (tfm ?_ (tfm ?_ (tfm ?_ (tfm ?_ (tfm ?_ (tfm ?_ (tfm ?_ (tfm ?_ (tfm ?_ (tfm ?_ (tfm ?_ (tfm ?_ (tfm ?_ (tfm ?_ (tfm ?_ (tfm ?_ (tfm ?_ (tfm ?_ (tfm ?_ (tfm ?_ (tfm ?_ (tfm ?_ (tfm ?_ (tfm ?_ (tfm ?_ (tfm ?_ (tfm ?_ (tfm ?_ (tfm ?_ (tfm ?_ (tfm ?_ (tfm ?_ (tfm ?_ (tfm ?_ (tfm ?_ (tfm ?_ (tfm ?_ (tfm ?_ (tfm ?_ (tfm ?_ (tfm ?_ (tfm ?_ (tfm ?_ (tfm ?_ (tfm ?_ (tfm ?_ (tfm ?_ (tfm ?_ (tfm ?_ (tfm ?_ (tfm ?_ (tfm ?_ (tfm ?_ (tfm ?_ (tfm ?_ (tfm ?_ (tfm ?_ (tfm ?_ (tfm ?_ (tfm ?_ (tfm ?_ (tfm ?_ (tfm ?_ (tfm ?_ (tfm ?_ (tfm ?_ (tfm ?_ (tfm ?_ (tfm ?_ (tfm ?_ (tfm ?_ (tfm ?_ (tfm ?_ (tfm ?_ (tfm ?_ (tfm ?_ (tfm ?_ (tfm ?_ (tfm ?_ (tfm ?_ (tfm ?_ (tfm ?_ (tfm ?_ (tfm ?_ (tfm ?_ (tfm ?_ (tfm ?_ (tfm ?_ (tfm ?_ (tfm ?_ (tfm ?_ (tfm ?_ (tfm ?_ (tfm ?_ (tfm ?_ (tfm ?_ (tfm ?_ (tfm ?_ (tfm ?_ (tfm ?_ (tfm ?_ (tfm ?_ (tfm ?_ (tfm ?_ (tfm ?_ (tfm ?_ (tfm ?_ (tfm ?_ (tfm ?_ (tfm ?_ (tfm ?_ (tfm ?_ (tfm ?_ (tfm ?_ (tfm ?_ (tfm ?_ (tfm ?_ (tfm ?_ (tfm ?_ (tfm ?_ (tfm ?_ (tfm ?_ (tfm ?_ (tfm ?_ (tfm ?_ (tfm ?_ (tfm ?_ (tfm ?_ (tfm ?_ (tfm ?_ (tfm ?_ (tfm ?_ (tfm ?_ (tfm ?_ (tfm ?_ (tfm ?_ (tfm ?_ (tfm ?_ (tfm ?_ (tfm ?_ (tfm ?_ (tfm ?_ (tfm ?_ (tfm ?_ (tfm ?_ (tfm ?_ (tfm ?_ (tfm ?_ (tfm ?_ (tfm ?_ (tfm ?_ (tfm ?_ (tfm ?_ (tfm ?_ tfmnil))))))))))))))))))))))))))))))))))))))))))))))))))))))))))))))))))))))))))))))))))))))))))))))))))))))))))))))))))))))))))))))))))))))))))))))))))))))))))))))))))))))))))))))))))
        · intro r W hc hf hs hd hB
          have hBV := HBV.out W hB
          refine want_n rfl ?_

          exact st_value (v := TT.val (TT.mk 0 vNone [] 0 0 [] pNone []) ⟨none, 0, none, 0, none, 0, none, 0, none, 0, none, 0⟩) rfl (by decide) (run_built rfl _ (by
            have e : (Array.map (fun (x : Nat × Operand) => (x.1, r x.2)) #[]).toList = ([] : List (Nat × Value)) := by simp
            exact (congrArg (Program.built Try.prog 47) e).trans (by kernel_rfl))) ⟨_, rfl, TOk.of ⟨⟨by decide, by decide, by decide⟩, vin_plain W _ _, vrow_nil, wrow_nil, pin_none W, trow_nil⟩⟩
        · intro r W hc hf hs hd hB
          have hBV := HBV.out W hB
          refine want_n rfl ?_
          obtain ⟨A20, e20, k20⟩ : TIn W (TT.mk 0 vNone [] 0 0 [] pNone []) (r (.tmp 20)) := hd 20 (by kernel_rfl)
          exact st_value (v := NB.val ⟨TT.mk 0 vNone [] 0 0 [] pNone [], A20, 11⟩) rfl (by decide) (run_nb ⟨TT.mk 0 vNone [] 0 0 [] pNone [], A20, 11⟩ rfl e20 (hc _)) ⟨A20, rfl, k20⟩
        · intro r W hc hf hs hd hB
          have hBV := HBV.out W hB
          refine want_n rfl ?_

          exact st_value (v := TT.val (TT.mk 12 vNone [] 0 0 [] pNone []) ⟨none, 0, none, 0, none, 0, none, 0, none, 0, none, 0⟩) rfl (by decide) (run_built rfl _ (by
            have e : (Array.map (fun (x : Nat × Operand) => (x.1, r x.2)) #[(0, .const (.int .u8 12))]).toList = ([(0, .int .u8 12)] : List (Nat × Value)) := by simp [hc]
            exact (congrArg (Program.built Try.prog 47) e).trans (by kernel_rfl))) ⟨_, rfl, TOk.of ⟨⟨by decide, by decide, by decide⟩, vin_plain W _ _, vrow_nil, wrow_nil, pin_none W, trow_nil⟩⟩
        · intro r W hc hf hs hd hB
          have hBV := HBV.out W hB
          refine want_n rfl ?_
          obtain ⟨A22, e22, k22⟩ : TIn W (TT.mk 12 vNone [] 0 0 [] pNone []) (r (.tmp 22)) := hd 22 (by kernel_rfl)
          exact st_value (v := NB.val ⟨TT.mk 12 vNone [] 0 0 [] pNone [], A22, 11⟩) rfl (by decide) (run_nb ⟨TT.mk 12 vNone [] 0 0 [] pNone [], A22, 11⟩ rfl e22 (hc _)) ⟨A22, rfl, k22⟩
        · intro r W hc hf hs hd hB
          have hBV := HBV.out W hB
          refine want_n rfl ?_

          exact st_call (f := 47) (args := #[.int .i64 5]) rfl (by decide) (by go_simp) (made_term (mnum 5 W))
        · intro r W hc hf hs hd hB
          have hBV := HBV.out W hB
          refine want_n rfl ?_
          obtain ⟨A24, e24, k24⟩ : TIn W (tNum 5) (r (.tmp 24)) := hd 24 (by kernel_rfl)
          exact st_value (v := NB.val ⟨tNum 5, A24, 0⟩) rfl (by decide) (run_nb ⟨tNum 5, A24, 0⟩ rfl e24 (hc _)) ⟨A24, rfl, k24⟩
        · intro r W hc hf hs hd hB
          have hBV := HBV.out W hB
          refine want_n rfl ?_

          exact st_value (v := TT.val (TT.mk 1 vNone [] 0 0 [] pNone []) ⟨none, 0, none, 0, none, 0, none, 0, none, 0, none, 0⟩) rfl (by decide) (run_built rfl _ (by
            have e : (Array.map (fun (x : Nat × Operand) => (x.1, r x.2)) #[(0, .const (.int .u8 1))]).toList = ([(0, .int .u8 1)] : List (Nat × Value)) := by simp [hc]
            exact (congrArg (Program.built Try.prog 47) e).trans (by kernel_rfl))) ⟨_, rfl, TOk.of ⟨⟨by decide, by decide, by decide⟩, vin_plain W _ _, vrow_nil, wrow_nil, pin_none W, trow_nil⟩⟩
        · intro r W hc hf hs hd hB
          have hBV := HBV.out W hB
          refine want_n rfl ?_
          obtain ⟨A26, e26, k26⟩ : TIn W (TT.mk 1 vNone [] 0 0 [] pNone []) (r (.tmp 26)) := hd 26 (by kernel_rfl)
          exact st_value (v := NB.val ⟨TT.mk 1 vNone [] 0 0 [] pNone [], A26, 11⟩) rfl (by decide) (run_nb ⟨TT.mk 1 vNone [] 0 0 [] pNone [], A26, 11⟩ rfl e26 (hc _)) ⟨A26, rfl, k26⟩
        · intro r W hc hf hs hd hB
          have hBV := HBV.out W hB
          refine want_n rfl ?_
          have e2 : r (.tmp 2) = .pointer (some ⟨b2, 0, none⟩) := hs 2 (by kernel_rfl)
          have g0 := cell_stays hBV H2.out.1
          have g1 := cell_stays hBV H2.out.2.1
          have g2 := cell_stays hBV H2.out.2.2
          exact st_value (v := .agg #[.int .u8 2, .int .i64 2, .slice none 0 0]) rfl (by decide) (by go_simp) rfl
        · intro r W hc hf hs hd hB
          have hBV := HBV.out W hB
          refine want_n rfl ?_
          have e28 : r (.tmp 28) = .agg #[.int .u8 2, .int .i64 2, .slice none 0 0] := hd 28 (by kernel_rfl)
          exact st_value (v := TT.val (TT.mk 1 vBad [] 0 0 [] pNone []) ⟨none, 0, none, 0, none, 0, none, 0, none, 0, none, 0⟩) rfl (by decide) (run_built rfl _ (by
            have e : (Array.map (fun (x : Nat × Operand) => (x.1, r x.2)) #[(0, .const (.int .u8 1)), (1, .tmp 28)]).toList = ([(0, .int .u8 1), (1, .agg #[.int .u8 2, .int .i64 2, .slice none 0 0])] : List (Nat × Value)) := by simp [hc, e28]
            exact (congrArg (Program.built Try.prog 47) e).trans (by kernel_rfl))) ⟨_, rfl, TOk.of ⟨⟨by decide, by decide, by decide⟩, vin_plain W _ _, vrow_nil, wrow_nil, pin_none W, trow_nil⟩⟩
        · intro r W hc hf hs hd hB
          have hBV := HBV.out W hB
          refine want_n rfl ?_
          obtain ⟨A29, e29, k29⟩ : TIn W (TT.mk 1 vBad [] 0 0 [] pNone []) (r (.tmp 29)) := hd 29 (by kernel_rfl)
          exact st_value (v := NB.val ⟨TT.mk 1 vBad [] 0 0 [] pNone [], A29, 1⟩) rfl (by decide) (run_nb ⟨TT.mk 1 vBad [] 0 0 [] pNone [], A29, 1⟩ rfl e29 (hc _)) ⟨A29, rfl, k29⟩
        · intro r W hc hf hs hd hB
          have hBV := HBV.out W hB
          refine want_n rfl ?_
          have e1 : r (.tmp 1) = .pointer (some ⟨b1, 0, none⟩) := hs 1 (by kernel_rfl)
          have g0 := cell_stays hBV H1.out.1
          have g1 := cell_stays hBV H1.out.2.1
          have g2 := cell_stays hBV H1.out.2.2
          exact st_value (v := .agg #[.int .u8 1, .int .i64 5, .slice none 0 0]) rfl (by decide) (by go_simp) rfl
        · intro r W hc hf hs hd hB
          have hBV := HBV.out W hB
          refine want_n rfl ?_
          have e1 : r (.tmp 1) = .pointer (some ⟨b1, 0, none⟩) := hs 1 (by kernel_rfl)
          have g0 := cell_stays hBV H1.out.1
          have g1 := cell_stays hBV H1.out.2.1
          have g2 := cell_stays hBV H1.out.2.2
          exact st_value (v := .agg #[.int .u8 1, .int .i64 5, .slice none 0 0]) rfl (by decide) (by go_simp) rfl
        · intro r W hc hf hs hd hB
          have hBV := HBV.out W hB
          refine want_n rfl ?_
          have e32 : r (.tmp 32) = .agg #[.int .u8 1, .int .i64 5, .slice none 0 0] := hd 32 (by kernel_rfl)
          obtain ⟨w2, hw2, m2, k2⟩ := vals1_new W 1 5
          exact st_new (v := .slice (some ⟨W.heap.size, 0, none⟩) 1 1) (w' := w2) rfl (by decide) (by rw [← hw2]; go_simp) m2 ⟨_, rfl, k2⟩
        · intro r W hc hf hs hd hB
          have hBV := HBV.out W hB
          refine want_n rfl ?_
          have e31 : r (.tmp 31) = .agg #[.int .u8 1, .int .i64 5, .slice none 0 0] := hd 31 (by kernel_rfl)
          obtain ⟨B33, e33, k33⟩ : ValsK [vFive] (r (.tmp 33)) W := hd 33 (by kernel_rfl)
          exact st_value (v := TT.val (TT.mk 1 vFive [vFive] 0 0 [] pNone []) ⟨none, 0, (some ⟨B33, 0, none⟩), 1, none, 0, none, 0, none, 0, none, 0⟩) rfl (by decide) (run_built rfl _ (by
            have e : (Array.map (fun (x : Nat × Operand) => (x.1, r x.2)) #[(0, .const (.int .u8 1)), (1, .tmp 31), (2, .tmp 33)]).toList = ([(0, .int .u8 1), (1, .agg #[.int .u8 1, .int .i64 5, .slice none 0 0]), (2, .slice (some ⟨B33, 0, none⟩) 1 1)] : List (Nat × Value)) := by simp [hc, e31, e33]
            exact (congrArg (Program.built Try.prog 47) e).trans (by kernel_rfl))) ⟨_, rfl, TOk.of ⟨⟨by decide, by decide, by decide⟩, vin_plain W _ _, k33, wrow_nil, pin_none W, trow_nil⟩⟩
        · intro r W hc hf hs hd hB
          have hBV := HBV.out W hB
          refine want_n rfl ?_
          obtain ⟨A34, e34, k34⟩ : TIn W (TT.mk 1 vFive [vFive] 0 0 [] pNone []) (r (.tmp 34)) := hd 34 (by kernel_rfl)
          exact st_value (v := NB.val ⟨TT.mk 1 vFive [vFive] 0 0 [] pNone [], A34, 3⟩) rfl (by decide) (run_nb ⟨TT.mk 1 vFive [vFive] 0 0 [] pNone [], A34, 3⟩ rfl e34 (hc _)) ⟨A34, rfl, k34⟩
        · intro r W hc hf hs hd hB
          have hBV := HBV.out W hB
          refine want_n rfl ?_
          have e1 : r (.tmp 1) = .pointer (some ⟨b1, 0, none⟩) := hs 1 (by kernel_rfl)
          have g0 := cell_stays hBV H1.out.1
          have g1 := cell_stays hBV H1.out.2.1
          have g2 := cell_stays hBV H1.out.2.2
          exact st_value (v := .agg #[.int .u8 1, .int .i64 5, .slice none 0 0]) rfl (by decide) (by go_simp) rfl
        · intro r W hc hf hs hd hB
          have hBV := HBV.out W hB
          refine want_n rfl ?_
          have e3 : r (.tmp 3) = .pointer (some ⟨b3, 0, none⟩) := hs 3 (by kernel_rfl)
          obtain ⟨c0, c1, c2, c3, c4, c5⟩ := H3.out
          have g0 := cell_stays hBV c0
          have g1 := cell_stays hBV c1
          have g2 := cell_stays hBV c2
          have g3 := cell_stays hBV c3
          have g4 := cell_stays hBV c4
          have g5 := cell_stays hBV c5
          clear c0 c1 c2 c3 c4 c5
          exact st_value (v := .agg #[.int .u8 1, .int .u8 0, .int .i64 0, .slice none 0 0, .int .i64 0, .slice none 0 0]) rfl (by decide) (by go_simp) rfl
        · intro r W hc hf hs hd hB
          have hBV := HBV.out W hB
          refine want_n rfl ?_
          have e36 : r (.tmp 36) = .agg #[.int .u8 1, .int .i64 5, .slice none 0 0] := hd 36 (by kernel_rfl)
          have e37 : r (.tmp 37) = .agg #[.int .u8 1, .int .u8 0, .int .i64 0, .slice none 0 0, .int .i64 0, .slice none 0 0] := hd 37 (by kernel_rfl)
          exact st_value (v := TT.val (TT.mk 1 vFive [] 0 0 [] pYes []) ⟨none, 0, none, 0, none, 0, none, 0, none, 0, none, 0⟩) rfl (by decide) (run_built rfl _ (by
            have e : (Array.map (fun (x : Nat × Operand) => (x.1, r x.2)) #[(0, .const (.int .u8 1)), (1, .tmp 36), (6, .tmp 37)]).toList = ([(0, .int .u8 1), (1, .agg #[.int .u8 1, .int .i64 5, .slice none 0 0]), (6, .agg #[.int .u8 1, .int .u8 0, .int .i64 0, .slice none 0 0, .int .i64 0, .slice none 0 0])] : List (Nat × Value)) := by simp [hc, e36, e37]
            exact (congrArg (Program.built Try.prog 47) e).trans (by kernel_rfl))) ⟨_, rfl, TOk.of ⟨⟨by decide, by decide, by decide⟩, vin_plain W _ _, vrow_nil, wrow_nil, pin_yes W, trow_nil⟩⟩
        · intro r W hc hf hs hd hB
          have hBV := HBV.out W hB
          refine want_n rfl ?_
          obtain ⟨A38, e38, k38⟩ : TIn W (TT.mk 1 vFive [] 0 0 [] pYes []) (r (.tmp 38)) := hd 38 (by kernel_rfl)
          exact st_value (v := NB.val ⟨TT.mk 1 vFive [] 0 0 [] pYes [], A38, 3⟩) rfl (by decide) (run_nb ⟨TT.mk 1 vFive [] 0 0 [] pYes [], A38, 3⟩ rfl e38 (hc _)) ⟨A38, rfl, k38⟩
        · intro r W hc hf hs hd hB
          have hBV := HBV.out W hB
          refine want_n rfl ?_
          have e1 : r (.tmp 1) = .pointer (some ⟨b1, 0, none⟩) := hs 1 (by kernel_rfl)
          have g0 := cell_stays hBV H1.out.1
          have g1 := cell_stays hBV H1.out.2.1
          have g2 := cell_stays hBV H1.out.2.2
          exact st_value (v := .agg #[.int .u8 1, .int .i64 5, .slice none 0 0]) rfl (by decide) (by go_simp) rfl
        · intro r W hc hf hs hd hB
          have hBV := HBV.out W hB
          refine want_n rfl ?_
          obtain ⟨w2, hw2, m2, k2⟩ := nums1_new W (1)
          exact st_new (v := .slice (some ⟨W.heap.size, 0, none⟩) 1 1) (w' := w2) rfl (by decide) (by rw [← hw2]; go_simp) m2 ⟨_, rfl, k2⟩
        · intro r W hc hf hs hd hB
          have hBV := HBV.out W hB
          refine want_n rfl ?_
          have e40 : r (.tmp 40) = .agg #[.int .u8 1, .int .i64 5, .slice none 0 0] := hd 40 (by kernel_rfl)
          obtain ⟨B41, e41, k41⟩ : NumsK [1] (r (.tmp 41)) W := hd 41 (by kernel_rfl)
          exact st_value (v := TT.val (TT.mk 1 vFive [] 0 0 [1] pNone []) ⟨none, 0, none, 0, (some ⟨B41, 0, none⟩), 1, none, 0, none, 0, none, 0⟩) rfl (by decide) (run_built rfl _ (by
            have e : (Array.map (fun (x : Nat × Operand) => (x.1, r x.2)) #[(0, .const (.int .u8 1)), (1, .tmp 40), (5, .tmp 41)]).toList = ([(0, .int .u8 1), (1, .agg #[.int .u8 1, .int .i64 5, .slice none 0 0]), (5, .slice (some ⟨B41, 0, none⟩) 1 1)] : List (Nat × Value)) := by simp [hc, e40, e41]
            exact (congrArg (Program.built Try.prog 47) e).trans (by kernel_rfl))) ⟨_, rfl, TOk.of ⟨⟨by decide, by decide, by decide⟩, vin_plain W _ _, vrow_nil, k41, pin_none W, trow_nil⟩⟩
        · intro r W hc hf hs hd hB
          have hBV := HBV.out W hB
          refine want_n rfl ?_
          obtain ⟨A42, e42, k42⟩ : TIn W (TT.mk 1 vFive [] 0 0 [1] pNone []) (r (.tmp 42)) := hd 42 (by kernel_rfl)
          exact st_value (v := NB.val ⟨TT.mk 1 vFive [] 0 0 [1] pNone [], A42, 3⟩) rfl (by decide) (run_nb ⟨TT.mk 1 vFive [] 0 0 [1] pNone [], A42, 3⟩ rfl e42 (hc _)) ⟨A42, rfl, k42⟩
        · intro r W hc hf hs hd hB
          have hBV := HBV.out W hB
          refine want_n rfl ?_
          have e1 : r (.tmp 1) = .pointer (some ⟨b1, 0, none⟩) := hs 1 (by kernel_rfl)
          have g0 := cell_stays hBV H1.out.1
          have g1 := cell_stays hBV H1.out.2.1
          have g2 := cell_stays hBV H1.out.2.2
          exact st_value (v := .agg #[.int .u8 1, .int .i64 5, .slice none 0 0]) rfl (by decide) (by go_simp) rfl
        · intro r W hc hf hs hd hB
          have hBV := HBV.out W hB
          refine want_n rfl ?_
          have e44 : r (.tmp 44) = .agg #[.int .u8 1, .int .i64 5, .slice none 0 0] := hd 44 (by kernel_rfl)
          exact st_value (v := TT.val (TT.mk 1 vFive [] 0 1 [] pNone []) ⟨none, 0, none, 0, none, 0, none, 0, none, 0, none, 0⟩) rfl (by decide) (run_built rfl _ (by
            have e : (Array.map (fun (x : Nat × Operand) => (x.1, r x.2)) #[(0, .const (.int .u8 1)), (1, .tmp 44), (4, .const (.int .i64 1))]).toList = ([(0, .int .u8 1), (1, .agg #[.int .u8 1, .int .i64 5, .slice none 0 0]), (4, .int .i64 1)] : List (Nat × Value)) := by simp [hc, e44]
            exact (congrArg (Program.built Try.prog 47) e).trans (by kernel_rfl))) ⟨_, rfl, TOk.of ⟨⟨by decide, by decide, by decide⟩, vin_plain W _ _, vrow_nil, wrow_nil, pin_none W, trow_nil⟩⟩
        · intro r W hc hf hs hd hB
          have hBV := HBV.out W hB
          refine want_n rfl ?_
          obtain ⟨A45, e45, k45⟩ : TIn W (TT.mk 1 vFive [] 0 1 [] pNone []) (r (.tmp 45)) := hd 45 (by kernel_rfl)
          exact st_value (v := NB.val ⟨TT.mk 1 vFive [] 0 1 [] pNone [], A45, 3⟩) rfl (by decide) (run_nb ⟨TT.mk 1 vFive [] 0 1 [] pNone [], A45, 3⟩ rfl e45 (hc _)) ⟨A45, rfl, k45⟩
        · intro r W hc hf hs hd hB
          have hBV := HBV.out W hB
          refine want_n rfl ?_
          have e1 : r (.tmp 1) = .pointer (some ⟨b1, 0, none⟩) := hs 1 (by kernel_rfl)
          have g0 := cell_stays hBV H1.out.1
          have g1 := cell_stays hBV H1.out.2.1
          have g2 := cell_stays hBV H1.out.2.2
          exact st_value (v := .agg #[.int .u8 1, .int .i64 5, .slice none 0 0]) rfl (by decide) (by go_simp) rfl
        · intro r W hc hf hs hd hB
          have hBV := HBV.out W hB
          refine want_n rfl ?_
          have e4 : r (.tmp 4) = .slice (some ⟨bm, 0, none⟩) 65 65 := hs 4 (by kernel_rfl)
          exact st_value (v := .slice (some ⟨bm, 0, none⟩) 65 65) rfl (by decide) (by go_simp) rfl
        · intro r W hc hf hs hd hB
          have hBV := HBV.out W hB
          refine want_n rfl ?_
          have e48 : r (.tmp 48) = .slice (some ⟨bm, 0, none⟩) 65 65 := hd 48 (by kernel_rfl)
          exact st_value (v := .slice (some ⟨bm, 0, none⟩) 1 65) rfl (by decide) (by go_simp) rfl
        · intro r W hc hf hs hd hB
          have hBV := HBV.out W hB
          refine want_n rfl ?_
          have e47 : r (.tmp 47) = .agg #[.int .u8 1, .int .i64 5, .slice none 0 0] := hd 47 (by kernel_rfl)
          have e49 : r (.tmp 49) = .slice (some ⟨bm, 0, none⟩) 1 65 := hd 49 (by kernel_rfl)
          exact st_value (v := TT.val (TT.mk 1 vFive [] 0 0 [] pNone (nums0 1)) ⟨none, 0, none, 0, none, 0, none, 0, none, 0, (some ⟨bm, 0, none⟩), 65⟩) rfl (by decide) (run_built rfl _ (by
            have e : (Array.map (fun (x : Nat × Operand) => (x.1, r x.2)) #[(0, .const (.int .u8 1)), (1, .tmp 47), (7, .tmp 49)]).toList = ([(0, .int .u8 1), (1, .agg #[.int .u8 1, .int .i64 5, .slice none 0 0]), (7, .slice (some ⟨bm, 0, none⟩) 1 65)] : List (Nat × Value)) := by simp [hc, e47, e49]
            exact (congrArg (Program.built Try.prog 47) e).trans (by kernel_rfl))) ⟨_, rfl, TOk.of ⟨⟨by decide, by decide, by decide⟩, vin_plain W _ _, vrow_nil, wrow_nil, pin_none W, HMANY.out 0 1 (by decide) W hBV⟩⟩
        · intro r W hc hf hs hd hB
          have hBV := HBV.out W hB
          refine want_n rfl ?_
          obtain ⟨A50, e50, k50⟩ : TIn W (TT.mk 1 vFive [] 0 0 [] pNone (nums0 1)) (r (.tmp 50)) := hd 50 (by kernel_rfl)
          exact st_value (v := NB.val ⟨TT.mk 1 vFive [] 0 0 [] pNone (nums0 1), A50, 5⟩) rfl (by decide) (run_nb ⟨TT.mk 1 vFive [] 0 0 [] pNone (nums0 1), A50, 5⟩ rfl e50 (hc _)) ⟨A50, rfl, k50⟩
        · intro r W hc hf hs hd hB
          have hBV := HBV.out W hB
          refine want_n rfl ?_
          have e1 : r (.tmp 1) = .pointer (some ⟨b1, 0, none⟩) := hs 1 (by kernel_rfl)
          have g0 := cell_stays hBV H1.out.1
          have g1 := cell_stays hBV H1.out.2.1
          have g2 := cell_stays hBV H1.out.2.2
          exact st_value (v := .agg #[.int .u8 1, .int .i64 5, .slice none 0 0]) rfl (by decide) (by go_simp) rfl
        · intro r W hc hf hs hd hB
          have hBV := HBV.out W hB
          refine want_n rfl ?_
          have e52 : r (.tmp 52) = .agg #[.int .u8 1, .int .i64 5, .slice none 0 0] := hd 52 (by kernel_rfl)
          exact st_value (v := TT.val (TT.mk 2 vFive [] 0 0 [] pNone []) ⟨none, 0, none, 0, none, 0, none, 0, none, 0, none, 0⟩) rfl (by decide) (run_built rfl _ (by
            have e : (Array.map (fun (x : Nat × Operand) => (x.1, r x.2)) #[(0, .const (.int .u8 2)), (1, .tmp 52)]).toList = ([(0, .int .u8 2), (1, .agg #[.int .u8 1, .int .i64 5, .slice none 0 0])] : List (Nat × Value)) := by simp [hc, e52]
            exact (congrArg (Program.built Try.prog 47) e).trans (by kernel_rfl))) ⟨_, rfl, TOk.of ⟨⟨by decide, by decide, by decide⟩, vin_plain W _ _, vrow_nil, wrow_nil, pin_none W, trow_nil⟩⟩
        · intro r W hc hf hs hd hB
          have hBV := HBV.out W hB
          refine want_n rfl ?_
          obtain ⟨A53, e53, k53⟩ : TIn W (TT.mk 2 vFive [] 0 0 [] pNone []) (r (.tmp 53)) := hd 53 (by kernel_rfl)
          exact st_value (v := NB.val ⟨TT.mk 2 vFive [] 0 0 [] pNone [], A53, 3⟩) rfl (by decide) (run_nb ⟨TT.mk 2 vFive [] 0 0 [] pNone [], A53, 3⟩ rfl e53 (hc _)) ⟨A53, rfl, k53⟩
        · intro r W hc hf hs hd hB
          have hBV := HBV.out W hB
          refine want_n rfl ?_

          exact st_call (f := 49) (args := #[.int .i64 1, .int .i64 6]) rfl (by decide) (by go_simp) (made_term (mspan 1 6 W))
        · intro r W hc hf hs hd hB
          have hBV := HBV.out W hB
          refine want_n rfl ?_
          obtain ⟨A55, e55, k55⟩ : TIn W (tSpan 1 6) (r (.tmp 55)) := hd 55 (by kernel_rfl)
          exact st_value (v := NB.val ⟨tSpan 1 6, A55, 0⟩) rfl (by decide) (run_nb ⟨tSpan 1 6, A55, 0⟩ rfl e55 (hc _)) ⟨A55, rfl, k55⟩
        · intro r W hc hf hs hd hB
          have hBV := HBV.out W hB
          refine want_n rfl ?_

          exact st_call (f := 49) (args := #[.int .i64 6, .int .i64 6]) rfl (by decide) (by go_simp) (made_term (mspan 6 6 W))
        · intro r W hc hf hs hd hB
          have hBV := HBV.out W hB
          refine want_n rfl ?_
          obtain ⟨A57, e57, k57⟩ : TIn W (tSpan 6 6) (r (.tmp 57)) := hd 57 (by kernel_rfl)
          exact st_value (v := NB.val ⟨tSpan 6 6, A57, 0⟩) rfl (by decide) (run_nb ⟨tSpan 6 6, A57, 0⟩ rfl e57 (hc _)) ⟨A57, rfl, k57⟩
        · intro r W hc hf hs hd hB
          have hBV := HBV.out W hB
          refine want_n rfl ?_

          exact st_call (f := 49) (args := #[.int .i64 7, .int .i64 6]) rfl (by decide) (by go_simp) (made_term (mspan 7 6 W))
        · intro r W hc hf hs hd hB
          have hBV := HBV.out W hB
          refine want_n rfl ?_
          obtain ⟨A59, e59, k59⟩ : TIn W (tSpan 7 6) (r (.tmp 59)) := hd 59 (by kernel_rfl)
          exact st_value (v := NB.val ⟨tSpan 7 6, A59, 1⟩) rfl (by decide) (run_nb ⟨tSpan 7 6, A59, 1⟩ rfl e59 (hc _)) ⟨A59, rfl, k59⟩
        · intro r W hc hf hs hd hB
          have hBV := HBV.out W hB
          refine want_n rfl ?_

          exact st_call (f := 49) (args := #[.int .i64 (-1099511627776), .int .i64 1099511627776]) rfl (by decide) (by go_simp) (made_term (mspan (-1099511627776) 1099511627776 W))
        · intro r W hc hf hs hd hB
          have hBV := HBV.out W hB
          refine want_n rfl ?_
          obtain ⟨A61, e61, k61⟩ : TIn W (tSpan (-1099511627776) 1099511627776) (r (.tmp 61)) := hd 61 (by kernel_rfl)
          exact st_value (v := NB.val ⟨tSpan (-1099511627776) 1099511627776, A61, 0⟩) rfl (by decide) (run_nb ⟨tSpan (-1099511627776) 1099511627776, A61, 0⟩ rfl e61 (hc _)) ⟨A61, rfl, k61⟩
        · intro r W hc hf hs hd hB
          have hBV := HBV.out W hB
          refine want_n rfl ?_

          exact st_call (f := 49) (args := #[.int .i64 0, .int .i64 1099511627777]) rfl (by decide) (by go_simp) (made_term (mspan 0 1099511627777 W))
        · intro r W hc hf hs hd hB
          have hBV := HBV.out W hB
          refine want_n rfl ?_
          obtain ⟨A63, e63, k63⟩ : TIn W (tSpan 0 1099511627777) (r (.tmp 63)) := hd 63 (by kernel_rfl)
          exact st_value (v := NB.val ⟨tSpan 0 1099511627777, A63, 1⟩) rfl (by decide) (run_nb ⟨tSpan 0 1099511627777, A63, 1⟩ rfl e63 (hc _)) ⟨A63, rfl, k63⟩
        · intro r W hc hf hs hd hB
          have hBV := HBV.out W hB
          refine want_n rfl ?_

          exact st_call (f := 49) (args := #[.int .i64 (-1099511627777), .int .i64 0]) rfl (by decide) (by go_simp) (made_term (mspan (-1099511627777) 0 W))
        · intro r W hc hf hs hd hB
          have hBV := HBV.out W hB
          refine want_n rfl ?_
          obtain ⟨A65, e65, k65⟩ : TIn W (tSpan (-1099511627777) 0) (r (.tmp 65)) := hd 65 (by kernel_rfl)
          exact st_value (v := NB.val ⟨tSpan (-1099511627777) 0, A65, 1⟩) rfl (by decide) (run_nb ⟨tSpan (-1099511627777) 0, A65, 1⟩ rfl e65 (hc _)) ⟨A65, rfl, k65⟩
        · intro r W hc hf hs hd hB
          have hBV := HBV.out W hB
          refine want_n rfl ?_

          exact st_value (v := TT.val (TT.mk 3 vNone [] 0 0 [] pNone []) ⟨none, 0, none, 0, none, 0, none, 0, none, 0, none, 0⟩) rfl (by decide) (run_built rfl _ (by
            have e : (Array.map (fun (x : Nat × Operand) => (x.1, r x.2)) #[(0, .const (.int .u8 3))]).toList = ([(0, .int .u8 3)] : List (Nat × Value)) := by simp [hc]
            exact (congrArg (Program.built Try.prog 47) e).trans (by kernel_rfl))) ⟨_, rfl, TOk.of ⟨⟨by decide, by decide, by decide⟩, vin_plain W _ _, vrow_nil, wrow_nil, pin_none W, trow_nil⟩⟩
        · intro r W hc hf hs hd hB
          have hBV := HBV.out W hB
          refine want_n rfl ?_
          obtain ⟨A67, e67, k67⟩ : TIn W (TT.mk 3 vNone [] 0 0 [] pNone []) (r (.tmp 67)) := hd 67 (by kernel_rfl)
          exact st_value (v := NB.val ⟨TT.mk 3 vNone [] 0 0 [] pNone [], A67, 4⟩) rfl (by decide) (run_nb ⟨TT.mk 3 vNone [] 0 0 [] pNone [], A67, 4⟩ rfl e67 (hc _)) ⟨A67, rfl, k67⟩
        · intro r W hc hf hs hd hB
          have hBV := HBV.out W hB
          refine want_n rfl ?_
          obtain ⟨w2, hw2, m2, k2⟩ := nums1_new W (0)
          exact st_new (v := .slice (some ⟨W.heap.size, 0, none⟩) 1 1) (w' := w2) rfl (by decide) (by rw [← hw2]; go_simp) m2 ⟨_, rfl, k2⟩
        · intro r W hc hf hs hd hB
          have hBV := HBV.out W hB
          refine want_n rfl ?_
          obtain ⟨B69, e69, k69⟩ : NumsK [0] (r (.tmp 69)) W := hd 69 (by kernel_rfl)
          exact st_value (v := TT.val (TT.mk 3 vNone [] 0 0 [0] pNone []) ⟨none, 0, none, 0, (some ⟨B69, 0, none⟩), 1, none, 0, none, 0, none, 0⟩) rfl (by decide) (run_built rfl _ (by
            have e : (Array.map (fun (x : Nat × Operand) => (x.1, r x.2)) #[(0, .const (.int .u8 3)), (5, .tmp 69)]).toList = ([(0, .int .u8 3), (5, .slice (some ⟨B69, 0, none⟩) 1 1)] : List (Nat × Value)) := by simp [hc, e69]
            exact (congrArg (Program.built Try.prog 47) e).trans (by kernel_rfl))) ⟨_, rfl, TOk.of ⟨⟨by decide, by decide, by decide⟩, vin_plain W _ _, vrow_nil, k69, pin_none W, trow_nil⟩⟩
        · intro r W hc hf hs hd hB
          have hBV := HBV.out W hB
          refine want_n rfl ?_
          obtain ⟨A70, e70, k70⟩ : TIn W (TT.mk 3 vNone [] 0 0 [0] pNone []) (r (.tmp 70)) := hd 70 (by kernel_rfl)
          exact st_value (v := NB.val ⟨TT.mk 3 vNone [] 0 0 [0] pNone [], A70, 7⟩) rfl (by decide) (run_nb ⟨TT.mk 3 vNone [] 0 0 [0] pNone [], A70, 7⟩ rfl e70 (hc _)) ⟨A70, rfl, k70⟩
        · intro r W hc hf hs hd hB
          have hBV := HBV.out W hB
          refine want_n rfl ?_
          obtain ⟨w2, hw2, m2, k2⟩ := nums2_new W (1) ((-1))
          exact st_new (v := .slice (some ⟨W.heap.size, 0, none⟩) 2 2) (w' := w2) rfl (by decide) (by rw [← hw2]; go_simp) m2 ⟨_, rfl, k2⟩
        · intro r W hc hf hs hd hB
          have hBV := HBV.out W hB
          refine want_n rfl ?_
          obtain ⟨B72, e72, k72⟩ : NumsK [1, (-1)] (r (.tmp 72)) W := hd 72 (by kernel_rfl)
          exact st_value (v := TT.val (TT.mk 3 vNone [] 0 0 [1, (-1)] pNone []) ⟨none, 0, none, 0, (some ⟨B72, 0, none⟩), 2, none, 0, none, 0, none, 0⟩) rfl (by decide) (run_built rfl _ (by
            have e : (Array.map (fun (x : Nat × Operand) => (x.1, r x.2)) #[(0, .const (.int .u8 3)), (5, .tmp 72)]).toList = ([(0, .int .u8 3), (5, .slice (some ⟨B72, 0, none⟩) 2 2)] : List (Nat × Value)) := by simp [hc, e72]
            exact (congrArg (Program.built Try.prog 47) e).trans (by kernel_rfl))) ⟨_, rfl, TOk.of ⟨⟨by decide, by decide, by decide⟩, vin_plain W _ _, vrow_nil, k72, pin_none W, trow_nil⟩⟩
        · intro r W hc hf hs hd hB
          have hBV := HBV.out W hB
          refine want_n rfl ?_
          obtain ⟨A73, e73, k73⟩ : TIn W (TT.mk 3 vNone [] 0 0 [1, (-1)] pNone []) (r (.tmp 73)) := hd 73 (by kernel_rfl)
          exact st_value (v := NB.val ⟨TT.mk 3 vNone [] 0 0 [1, (-1)] pNone [], A73, 1⟩) rfl (by decide) (run_nb ⟨TT.mk 3 vNone [] 0 0 [1, (-1)] pNone [], A73, 1⟩ rfl e73 (hc _)) ⟨A73, rfl, k73⟩
        · intro r W hc hf hs hd hB
          have hBV := HBV.out W hB
          refine want_n rfl ?_
          obtain ⟨w2, hw2, m2, k2⟩ := nums2_new W (1) (2)
          exact st_new (v := .slice (some ⟨W.heap.size, 0, none⟩) 2 2) (w' := w2) rfl (by decide) (by rw [← hw2]; go_simp) m2 ⟨_, rfl, k2⟩
        · intro r W hc hf hs hd hB
          have hBV := HBV.out W hB
          refine want_n rfl ?_
          have e4 : r (.tmp 4) = .slice (some ⟨bm, 0, none⟩) 65 65 := hs 4 (by kernel_rfl)
          exact st_value (v := .slice (some ⟨bm, 0, none⟩) 65 65) rfl (by decide) (by go_simp) rfl
        · intro r W hc hf hs hd hB
          have hBV := HBV.out W hB
          refine want_n rfl ?_
          have e76 : r (.tmp 76) = .slice (some ⟨bm, 0, none⟩) 65 65 := hd 76 (by kernel_rfl)
          exact st_value (v := .slice (some ⟨bm, 0, none⟩) 1 65) rfl (by decide) (by go_simp) rfl
        · intro r W hc hf hs hd hB
          have hBV := HBV.out W hB
          refine want_n rfl ?_
          obtain ⟨B75, e75, k75⟩ : NumsK [1, 2] (r (.tmp 75)) W := hd 75 (by kernel_rfl)
          have e77 : r (.tmp 77) = .slice (some ⟨bm, 0, none⟩) 1 65 := hd 77 (by kernel_rfl)
          exact st_value (v := TT.val (TT.mk 3 vNone [] 0 0 [1, 2] pNone (nums0 1)) ⟨none, 0, none, 0, (some ⟨B75, 0, none⟩), 2, none, 0, none, 0, (some ⟨bm, 0, none⟩), 65⟩) rfl (by decide) (run_built rfl _ (by
            have e : (Array.map (fun (x : Nat × Operand) => (x.1, r x.2)) #[(0, .const (.int .u8 3)), (5, .tmp 75), (7, .tmp 77)]).toList = ([(0, .int .u8 3), (5, .slice (some ⟨B75, 0, none⟩) 2 2), (7, .slice (some ⟨bm, 0, none⟩) 1 65)] : List (Nat × Value)) := by simp [hc, e75, e77]
            exact (congrArg (Program.built Try.prog 47) e).trans (by kernel_rfl))) ⟨_, rfl, TOk.of ⟨⟨by decide, by decide, by decide⟩, vin_plain W _ _, vrow_nil, k75, pin_none W, HMANY.out 0 1 (by decide) W hBV⟩⟩
        · intro r W hc hf hs hd hB
          have hBV := HBV.out W hB
          refine want_n rfl ?_
          obtain ⟨A78, e78, k78⟩ : TIn W (TT.mk 3 vNone [] 0 0 [1, 2] pNone (nums0 1)) (r (.tmp 78)) := hd 78 (by kernel_rfl)
          exact st_value (v := NB.val ⟨TT.mk 3 vNone [] 0 0 [1, 2] pNone (nums0 1), A78, 4⟩) rfl (by decide) (run_nb ⟨TT.mk 3 vNone [] 0 0 [1, 2] pNone (nums0 1), A78, 4⟩ rfl e78 (hc _)) ⟨A78, rfl, k78⟩
        · intro r W hc hf hs hd hB
          have hBV := HBV.out W hB
          refine want_n rfl ?_
          obtain ⟨w2, hw2, m2, k2⟩ := nums2_new W (1) (0)
          exact st_new (v := .slice (some ⟨W.heap.size, 0, none⟩) 2 2) (w' := w2) rfl (by decide) (by rw [← hw2]; go_simp) m2 ⟨_, rfl, k2⟩
        · intro r W hc hf hs hd hB
          have hBV := HBV.out W hB
          refine want_n rfl ?_
          have e4 : r (.tmp 4) = .slice (some ⟨bm, 0, none⟩) 65 65 := hs 4 (by kernel_rfl)
          exact st_value (v := .slice (some ⟨bm, 0, none⟩) 65 65) rfl (by decide) (by go_simp) rfl
        · intro r W hc hf hs hd hB
          have hBV := HBV.out W hB
          refine want_n rfl ?_
          have e81 : r (.tmp 81) = .slice (some ⟨bm, 0, none⟩) 65 65 := hd 81 (by kernel_rfl)
          exact st_value (v := .slice (some ⟨bm, 0, none⟩) 2 65) rfl (by decide) (by go_simp) rfl
        · intro r W hc hf hs hd hB
          have hBV := HBV.out W hB
          refine want_n rfl ?_
          obtain ⟨B80, e80, k80⟩ : NumsK [1, 0] (r (.tmp 80)) W := hd 80 (by kernel_rfl)
          have e82 : r (.tmp 82) = .slice (some ⟨bm, 0, none⟩) 2 65 := hd 82 (by kernel_rfl)
          exact st_value (v := TT.val (TT.mk 3 vNone [] 0 0 [1, 0] pNone (nums0 2)) ⟨none, 0, none, 0, (some ⟨B80, 0, none⟩), 2, none, 0, none, 0, (some ⟨bm, 0, none⟩), 65⟩) rfl (by decide) (run_built rfl _ (by
            have e : (Array.map (fun (x : Nat × Operand) => (x.1, r x.2)) #[(0, .const (.int .u8 3)), (5, .tmp 80), (7, .tmp 82)]).toList = ([(0, .int .u8 3), (5, .slice (some ⟨B80, 0, none⟩) 2 2), (7, .slice (some ⟨bm, 0, none⟩) 2 65)] : List (Nat × Value)) := by simp [hc, e80, e82]
            exact (congrArg (Program.built Try.prog 47) e).trans (by kernel_rfl))) ⟨_, rfl, TOk.of ⟨⟨by decide, by decide, by decide⟩, vin_plain W _ _, vrow_nil, k80, pin_none W, HMANY.out 0 2 (by decide) W hBV⟩⟩
        · intro r W hc hf hs hd hB
          have hBV := HBV.out W hB
          refine want_n rfl ?_
          obtain ⟨A83, e83, k83⟩ : TIn W (TT.mk 3 vNone [] 0 0 [1, 0] pNone (nums0 2)) (r (.tmp 83)) := hd 83 (by kernel_rfl)
          exact st_value (v := NB.val ⟨TT.mk 3 vNone [] 0 0 [1, 0] pNone (nums0 2), A83, 0⟩) rfl (by decide) (run_nb ⟨TT.mk 3 vNone [] 0 0 [1, 0] pNone (nums0 2), A83, 0⟩ rfl e83 (hc _)) ⟨A83, rfl, k83⟩
        · intro r W hc hf hs hd hB
          have hBV := HBV.out W hB
          refine want_n rfl ?_
          obtain ⟨w2, hw2, m2, k2⟩ := nums1_new W (1)
          exact st_new (v := .slice (some ⟨W.heap.size, 0, none⟩) 1 1) (w' := w2) rfl (by decide) (by rw [← hw2]; go_simp) m2 ⟨_, rfl, k2⟩
        · intro r W hc hf hs hd hB
          have hBV := HBV.out W hB
          refine want_n rfl ?_
          have e4 : r (.tmp 4) = .slice (some ⟨bm, 0, none⟩) 65 65 := hs 4 (by kernel_rfl)
          exact st_value (v := .slice (some ⟨bm, 0, none⟩) 65 65) rfl (by decide) (by go_simp) rfl
        · intro r W hc hf hs hd hB
          have hBV := HBV.out W hB
          refine want_n rfl ?_
          have e86 : r (.tmp 86) = .slice (some ⟨bm, 0, none⟩) 65 65 := hd 86 (by kernel_rfl)
          exact st_value (v := .slice (some ⟨bm, 0, none⟩) 2 65) rfl (by decide) (by go_simp) rfl
        · intro r W hc hf hs hd hB
          have hBV := HBV.out W hB
          refine want_n rfl ?_
          obtain ⟨B85, e85, k85⟩ : NumsK [1] (r (.tmp 85)) W := hd 85 (by kernel_rfl)
          have e87 : r (.tmp 87) = .slice (some ⟨bm, 0, none⟩) 2 65 := hd 87 (by kernel_rfl)
          exact st_value (v := TT.val (TT.mk 3 vNone [] 0 0 [1] pNone (nums0 2)) ⟨none, 0, none, 0, (some ⟨B85, 0, none⟩), 1, none, 0, none, 0, (some ⟨bm, 0, none⟩), 65⟩) rfl (by decide) (run_built rfl _ (by
            have e : (Array.map (fun (x : Nat × Operand) => (x.1, r x.2)) #[(0, .const (.int .u8 3)), (5, .tmp 85), (7, .tmp 87)]).toList = ([(0, .int .u8 3), (5, .slice (some ⟨B85, 0, none⟩) 1 1), (7, .slice (some ⟨bm, 0, none⟩) 2 65)] : List (Nat × Value)) := by simp [hc, e85, e87]
            exact (congrArg (Program.built Try.prog 47) e).trans (by kernel_rfl))) ⟨_, rfl, TOk.of ⟨⟨by decide, by decide, by decide⟩, vin_plain W _ _, vrow_nil, k85, pin_none W, HMANY.out 0 2 (by decide) W hBV⟩⟩
        · intro r W hc hf hs hd hB
          have hBV := HBV.out W hB
          refine want_n rfl ?_
          obtain ⟨A88, e88, k88⟩ : TIn W (TT.mk 3 vNone [] 0 0 [1] pNone (nums0 2)) (r (.tmp 88)) := hd 88 (by kernel_rfl)
          exact st_value (v := NB.val ⟨TT.mk 3 vNone [] 0 0 [1] pNone (nums0 2), A88, 5⟩) rfl (by decide) (run_nb ⟨TT.mk 3 vNone [] 0 0 [1] pNone (nums0 2), A88, 5⟩ rfl e88 (hc _)) ⟨A88, rfl, k88⟩
        · intro r W hc hf hs hd hB
          have hBV := HBV.out W hB
          refine want_n rfl ?_
          obtain ⟨w2, hw2, m2, k2⟩ := nums2_new W (1) (2)
          exact st_new (v := .slice (some ⟨W.heap.size, 0, none⟩) 2 2) (w' := w2) rfl (by decide) (by rw [← hw2]; go_simp) m2 ⟨_, rfl, k2⟩
        · intro r W hc hf hs hd hB
          have hBV := HBV.out W hB
          refine want_n rfl ?_
          have e1 : r (.tmp 1) = .pointer (some ⟨b1, 0, none⟩) := hs 1 (by kernel_rfl)
          have g0 := cell_stays hBV H1.out.1
          have g1 := cell_stays hBV H1.out.2.1
          have g2 := cell_stays hBV H1.out.2.2
          exact st_value (v := .agg #[.int .u8 1, .int .i64 5, .slice none 0 0]) rfl (by decide) (by go_simp) rfl
        · intro r W hc hf hs hd hB
          have hBV := HBV.out W hB
          refine want_n rfl ?_
          have e91 : r (.tmp 91) = .agg #[.int .u8 1, .int .i64 5, .slice none 0 0] := hd 91 (by kernel_rfl)
          obtain ⟨w2, hw2, m2, k2⟩ := vals1_new W 1 5
          exact st_new (v := .slice (some ⟨W.heap.size, 0, none⟩) 1 1) (w' := w2) rfl (by decide) (by rw [← hw2]; go_simp) m2 ⟨_, rfl, k2⟩
        · intro r W hc hf hs hd hB
          have hBV := HBV.out W hB
          refine want_n rfl ?_
          obtain ⟨B90, e90, k90⟩ : NumsK [1, 2] (r (.tmp 90)) W := hd 90 (by kernel_rfl)
          obtain ⟨B92, e92, k92⟩ : ValsK [vFive] (r (.tmp 92)) W := hd 92 (by kernel_rfl)
          exact st_value (v := TT.val (TT.mk 4 vNone [vFive] 0 0 [1, 2] pNone []) ⟨none, 0, (some ⟨B92, 0, none⟩), 1, (some ⟨B90, 0, none⟩), 2, none, 0, none, 0, none, 0⟩) rfl (by decide) (run_built rfl _ (by
            have e : (Array.map (fun (x : Nat × Operand) => (x.1, r x.2)) #[(0, .const (.int .u8 4)), (5, .tmp 90), (2, .tmp 92)]).toList = ([(0, .int .u8 4), (5, .slice (some ⟨B90, 0, none⟩) 2 2), (2, .slice (some ⟨B92, 0, none⟩) 1 1)] : List (Nat × Value)) := by simp [hc, e90, e92]
            exact (congrArg (Program.built Try.prog 47) e).trans (by kernel_rfl))) ⟨_, rfl, TOk.of ⟨⟨by decide, by decide, by decide⟩, vin_plain W _ _, k92, k90, pin_none W, trow_nil⟩⟩
        · intro r W hc hf hs hd hB
          have hBV := HBV.out W hB
          refine want_n rfl ?_
          obtain ⟨A93, e93, k93⟩ : TIn W (TT.mk 4 vNone [vFive] 0 0 [1, 2] pNone []) (r (.tmp 93)) := hd 93 (by kernel_rfl)
          exact st_value (v := NB.val ⟨TT.mk 4 vNone [vFive] 0 0 [1, 2] pNone [], A93, 4⟩) rfl (by decide) (run_nb ⟨TT.mk 4 vNone [vFive] 0 0 [1, 2] pNone [], A93, 4⟩ rfl e93 (hc _)) ⟨A93, rfl, k93⟩
        · intro r W hc hf hs hd hB
          have hBV := HBV.out W hB
          refine want_n rfl ?_
          obtain ⟨w2, hw2, m2, k2⟩ := nums1_new W (1)
          exact st_new (v := .slice (some ⟨W.heap.size, 0, none⟩) 1 1) (w' := w2) rfl (by decide) (by rw [← hw2]; go_simp) m2 ⟨_, rfl, k2⟩
        · intro r W hc hf hs hd hB
          have hBV := HBV.out W hB
          refine want_n rfl ?_
          have e1 : r (.tmp 1) = .pointer (some ⟨b1, 0, none⟩) := hs 1 (by kernel_rfl)
          have g0 := cell_stays hBV H1.out.1
          have g1 := cell_stays hBV H1.out.2.1
          have g2 := cell_stays hBV H1.out.2.2
          exact st_value (v := .agg #[.int .u8 1, .int .i64 5, .slice none 0 0]) rfl (by decide) (by go_simp) rfl
        · intro r W hc hf hs hd hB
          have hBV := HBV.out W hB
          refine want_n rfl ?_
          have e1 : r (.tmp 1) = .pointer (some ⟨b1, 0, none⟩) := hs 1 (by kernel_rfl)
          have g0 := cell_stays hBV H1.out.1
          have g1 := cell_stays hBV H1.out.2.1
          have g2 := cell_stays hBV H1.out.2.2
          exact st_value (v := .agg #[.int .u8 1, .int .i64 5, .slice none 0 0]) rfl (by decide) (by go_simp) rfl
        · intro r W hc hf hs hd hB
          have hBV := HBV.out W hB
          refine want_n rfl ?_
          have e96 : r (.tmp 96) = .agg #[.int .u8 1, .int .i64 5, .slice none 0 0] := hd 96 (by kernel_rfl)
          have e97 : r (.tmp 97) = .agg #[.int .u8 1, .int .i64 5, .slice none 0 0] := hd 97 (by kernel_rfl)
          obtain ⟨w2, hrun, m2, k2⟩ := run_vals2 (w := W) (r := r) (x0 := .tmp 96) (x1 := .tmp 97) 1 5 1 5 e96 e97
          exact st_new (v := .slice (some ⟨W.heap.size, 0, none⟩) 2 2) (w' := w2) rfl (by decide) (hrun _ rfl) m2 ⟨_, rfl, k2⟩
        · intro r W hc hf hs hd hB
          have hBV := HBV.out W hB
          refine want_n rfl ?_
          obtain ⟨B95, e95, k95⟩ : NumsK [1] (r (.tmp 95)) W := hd 95 (by kernel_rfl)
          obtain ⟨B98, e98, k98⟩ : ValsK [vFive, vFive] (r (.tmp 98)) W := hd 98 (by kernel_rfl)
          exact st_value (v := TT.val (TT.mk 4 vNone [vFive, vFive] 0 0 [1] pNone []) ⟨none, 0, (some ⟨B98, 0, none⟩), 2, (some ⟨B95, 0, none⟩), 1, none, 0, none, 0, none, 0⟩) rfl (by decide) (run_built rfl _ (by
            have e : (Array.map (fun (x : Nat × Operand) => (x.1, r x.2)) #[(0, .const (.int .u8 4)), (5, .tmp 95), (2, .tmp 98)]).toList = ([(0, .int .u8 4), (5, .slice (some ⟨B95, 0, none⟩) 1 1), (2, .slice (some ⟨B98, 0, none⟩) 2 2)] : List (Nat × Value)) := by simp [hc, e95, e98]
            exact (congrArg (Program.built Try.prog 47) e).trans (by kernel_rfl))) ⟨_, rfl, TOk.of ⟨⟨by decide, by decide, by decide⟩, vin_plain W _ _, k98, k95, pin_none W, trow_nil⟩⟩
        · intro r W hc hf hs hd hB
          have hBV := HBV.out W hB
          refine want_n rfl ?_
          obtain ⟨A99, e99, k99⟩ : TIn W (TT.mk 4 vNone [vFive, vFive] 0 0 [1] pNone []) (r (.tmp 99)) := hd 99 (by kernel_rfl)
          exact st_value (v := NB.val ⟨TT.mk 4 vNone [vFive, vFive] 0 0 [1] pNone [], A99, 5⟩) rfl (by decide) (run_nb ⟨TT.mk 4 vNone [vFive, vFive] 0 0 [1] pNone [], A99, 5⟩ rfl e99 (hc _)) ⟨A99, rfl, k99⟩
        · intro r W hc hf hs hd hB
          have hBV := HBV.out W hB
          refine want_n rfl ?_
          obtain ⟨w2, hw2, m2, k2⟩ := nums1_new W (1)
          exact st_new (v := .slice (some ⟨W.heap.size, 0, none⟩) 1 1) (w' := w2) rfl (by decide) (by rw [← hw2]; go_simp) m2 ⟨_, rfl, k2⟩
        · intro r W hc hf hs hd hB
          have hBV := HBV.out W hB
          refine want_n rfl ?_
          have e2 : r (.tmp 2) = .pointer (some ⟨b2, 0, none⟩) := hs 2 (by kernel_rfl)
          have g0 := cell_stays hBV H2.out.1
          have g1 := cell_stays hBV H2.out.2.1
          have g2 := cell_stays hBV H2.out.2.2
          exact st_value (v := .agg #[.int .u8 2, .int .i64 2, .slice none 0 0]) rfl (by decide) (by go_simp) rfl
        · intro r W hc hf hs hd hB
          have hBV := HBV.out W hB
          refine want_n rfl ?_
          have e102 : r (.tmp 102) = .agg #[.int .u8 2, .int .i64 2, .slice none 0 0] := hd 102 (by kernel_rfl)
          obtain ⟨w2, hw2, m2, k2⟩ := vals1_new W 2 2
          exact st_new (v := .slice (some ⟨W.heap.size, 0, none⟩) 1 1) (w' := w2) rfl (by decide) (by rw [← hw2]; go_simp) m2 ⟨_, rfl, k2⟩
        · intro r W hc hf hs hd hB
          have hBV := HBV.out W hB
          refine want_n rfl ?_
          obtain ⟨B101, e101, k101⟩ : NumsK [1] (r (.tmp 101)) W := hd 101 (by kernel_rfl)
          obtain ⟨B103, e103, k103⟩ : ValsK [vBad] (r (.tmp 103)) W := hd 103 (by kernel_rfl)
          exact st_value (v := TT.val (TT.mk 4 vNone [vBad] 0 0 [1] pNone []) ⟨none, 0, (some ⟨B103, 0, none⟩), 1, (some ⟨B101, 0, none⟩), 1, none, 0, none, 0, none, 0⟩) rfl (by decide) (run_built rfl _ (by
            have e : (Array.map (fun (x : Nat × Operand) => (x.1, r x.2)) #[(0, .const (.int .u8 4)), (5, .tmp 101), (2, .tmp 103)]).toList = ([(0, .int .u8 4), (5, .slice (some ⟨B101, 0, none⟩) 1 1), (2, .slice (some ⟨B103, 0, none⟩) 1 1)] : List (Nat × Value)) := by simp [hc, e101, e103]
            exact (congrArg (Program.built Try.prog 47) e).trans (by kernel_rfl))) ⟨_, rfl, TOk.of ⟨⟨by decide, by decide, by decide⟩, vin_plain W _ _, k103, k101, pin_none W, trow_nil⟩⟩
        · intro r W hc hf hs hd hB
          have hBV := HBV.out W hB
          refine want_n rfl ?_
          obtain ⟨A104, e104, k104⟩ : TIn W (TT.mk 4 vNone [vBad] 0 0 [1] pNone []) (r (.tmp 104)) := hd 104 (by kernel_rfl)
          exact st_value (v := NB.val ⟨TT.mk 4 vNone [vBad] 0 0 [1] pNone [], A104, 1⟩) rfl (by decide) (run_nb ⟨TT.mk 4 vNone [vBad] 0 0 [1] pNone [], A104, 1⟩ rfl e104 (hc _)) ⟨A104, rfl, k104⟩
        · intro r W hc hf hs hd hB
          have hBV := HBV.out W hB
          refine want_n rfl ?_
          obtain ⟨w2, hw2, m2, k2⟩ := nums1_new W (1)
          exact st_new (v := .slice (some ⟨W.heap.size, 0, none⟩) 1 1) (w' := w2) rfl (by decide) (by rw [← hw2]; go_simp) m2 ⟨_, rfl, k2⟩
        · intro r W hc hf hs hd hB
          have hBV := HBV.out W hB
          refine want_n rfl ?_
          have e1 : r (.tmp 1) = .pointer (some ⟨b1, 0, none⟩) := hs 1 (by kernel_rfl)
          have g0 := cell_stays hBV H1.out.1
          have g1 := cell_stays hBV H1.out.2.1
          have g2 := cell_stays hBV H1.out.2.2
          exact st_value (v := .agg #[.int .u8 1, .int .i64 5, .slice none 0 0]) rfl (by decide) (by go_simp) rfl
        · intro r W hc hf hs hd hB
          have hBV := HBV.out W hB
          refine want_n rfl ?_
          have e107 : r (.tmp 107) = .agg #[.int .u8 1, .int .i64 5, .slice none 0 0] := hd 107 (by kernel_rfl)
          obtain ⟨w2, hw2, m2, k2⟩ := vals1_new W 1 5
          exact st_new (v := .slice (some ⟨W.heap.size, 0, none⟩) 1 1) (w' := w2) rfl (by decide) (by rw [← hw2]; go_simp) m2 ⟨_, rfl, k2⟩
        · intro r W hc hf hs hd hB
          have hBV := HBV.out W hB
          refine want_n rfl ?_
          obtain ⟨B106, e106, k106⟩ : NumsK [1] (r (.tmp 106)) W := hd 106 (by kernel_rfl)
          obtain ⟨B108, e108, k108⟩ : ValsK [vFive] (r (.tmp 108)) W := hd 108 (by kernel_rfl)
          exact st_value (v := TT.val (TT.mk 4 vNone [vFive] 0 0 [1] pNone []) ⟨none, 0, (some ⟨B108, 0, none⟩), 1, (some ⟨B106, 0, none⟩), 1, none, 0, none, 0, none, 0⟩) rfl (by decide) (run_built rfl _ (by
            have e : (Array.map (fun (x : Nat × Operand) => (x.1, r x.2)) #[(0, .const (.int .u8 4)), (5, .tmp 106), (2, .tmp 108)]).toList = ([(0, .int .u8 4), (5, .slice (some ⟨B106, 0, none⟩) 1 1), (2, .slice (some ⟨B108, 0, none⟩) 1 1)] : List (Nat × Value)) := by simp [hc, e106, e108]
            exact (congrArg (Program.built Try.prog 47) e).trans (by kernel_rfl))) ⟨_, rfl, TOk.of ⟨⟨by decide, by decide, by decide⟩, vin_plain W _ _, k108, k106, pin_none W, trow_nil⟩⟩
        · intro r W hc hf hs hd hB
          have hBV := HBV.out W hB
          refine want_n rfl ?_
          obtain ⟨A109, e109, k109⟩ : TIn W (TT.mk 4 vNone [vFive] 0 0 [1] pNone []) (r (.tmp 109)) := hd 109 (by kernel_rfl)
          exact st_value (v := NB.val ⟨TT.mk 4 vNone [vFive] 0 0 [1] pNone [], A109, 0⟩) rfl (by decide) (run_nb ⟨TT.mk 4 vNone [vFive] 0 0 [1] pNone [], A109, 0⟩ rfl e109 (hc _)) ⟨A109, rfl, k109⟩
        · intro r W hc hf hs hd hB
          have hBV := HBV.out W hB
          refine want_n rfl ?_
          obtain ⟨w2, hw2, m2, k2⟩ := nums1_new W (1)
          exact st_new (v := .slice (some ⟨W.heap.size, 0, none⟩) 1 1) (w' := w2) rfl (by decide) (by rw [← hw2]; go_simp) m2 ⟨_, rfl, k2⟩
        · intro r W hc hf hs hd hB
          have hBV := HBV.out W hB
          refine want_n rfl ?_
          have e1 : r (.tmp 1) = .pointer (some ⟨b1, 0, none⟩) := hs 1 (by kernel_rfl)
          have g0 := cell_stays hBV H1.out.1
          have g1 := cell_stays hBV H1.out.2.1
          have g2 := cell_stays hBV H1.out.2.2
          exact st_value (v := .agg #[.int .u8 1, .int .i64 5, .slice none 0 0]) rfl (by decide) (by go_simp) rfl
        · intro r W hc hf hs hd hB
          have hBV := HBV.out W hB
          refine want_n rfl ?_
          have e112 : r (.tmp 112) = .agg #[.int .u8 1, .int .i64 5, .slice none 0 0] := hd 112 (by kernel_rfl)
          obtain ⟨w2, hw2, m2, k2⟩ := vals1_new W 1 5
          exact st_new (v := .slice (some ⟨W.heap.size, 0, none⟩) 1 1) (w' := w2) rfl (by decide) (by rw [← hw2]; go_simp) m2 ⟨_, rfl, k2⟩
        · intro r W hc hf hs hd hB
          have hBV := HBV.out W hB
          refine want_n rfl ?_
          obtain ⟨B111, e111, k111⟩ : NumsK [1] (r (.tmp 111)) W := hd 111 (by kernel_rfl)
          obtain ⟨B113, e113, k113⟩ : ValsK [vFive] (r (.tmp 113)) W := hd 113 (by kernel_rfl)
          exact st_value (v := TT.val (TT.mk 4 vNone [vFive] 1 0 [1] pNone []) ⟨none, 0, (some ⟨B113, 0, none⟩), 1, (some ⟨B111, 0, none⟩), 1, none, 0, none, 0, none, 0⟩) rfl (by decide) (run_built rfl _ (by
            have e : (Array.map (fun (x : Nat × Operand) => (x.1, r x.2)) #[(0, .const (.int .u8 4)), (5, .tmp 111), (2, .tmp 113), (3, .const (.int .i64 1))]).toList = ([(0, .int .u8 4), (5, .slice (some ⟨B111, 0, none⟩) 1 1), (2, .slice (some ⟨B113, 0, none⟩) 1 1), (3, .int .i64 1)] : List (Nat × Value)) := by simp [hc, e111, e113]
            exact (congrArg (Program.built Try.prog 47) e).trans (by kernel_rfl))) ⟨_, rfl, TOk.of ⟨⟨by decide, by decide, by decide⟩, vin_plain W _ _, k113, k111, pin_none W, trow_nil⟩⟩
        · intro r W hc hf hs hd hB
          have hBV := HBV.out W hB
          refine want_n rfl ?_
          obtain ⟨A114, e114, k114⟩ : TIn W (TT.mk 4 vNone [vFive] 1 0 [1] pNone []) (r (.tmp 114)) := hd 114 (by kernel_rfl)
          exact st_value (v := NB.val ⟨TT.mk 4 vNone [vFive] 1 0 [1] pNone [], A114, 3⟩) rfl (by decide) (run_nb ⟨TT.mk 4 vNone [vFive] 1 0 [1] pNone [], A114, 3⟩ rfl e114 (hc _)) ⟨A114, rfl, k114⟩
        · intro r W hc hf hs hd hB
          have hBV := HBV.out W hB
          refine want_n rfl ?_

          exact st_call (f := 48) (args := #[.int .u8 5, .slice none 0 0]) rfl (by decide) (by go_simp) (made_term (mof 5 [] none 0 W (by simp) trow_nil))
        · intro r W hc hf hs hd hB
          have hBV := HBV.out W hB
          refine want_n rfl ?_
          obtain ⟨A116, e116, k116⟩ : TIn W (tOf 5 []) (r (.tmp 116)) := hd 116 (by kernel_rfl)
          exact st_value (v := NB.val ⟨tOf 5 [], A116, 0⟩) rfl (by decide) (run_nb ⟨tOf 5 [], A116, 0⟩ rfl e116 (hc _)) ⟨A116, rfl, k116⟩
        · intro r W hc hf hs hd hB
          have hBV := HBV.out W hB
          refine want_n rfl ?_
          have e4 : r (.tmp 4) = .slice (some ⟨bm, 0, none⟩) 65 65 := hs 4 (by kernel_rfl)
          exact st_value (v := .slice (some ⟨bm, 0, none⟩) 65 65) rfl (by decide) (by go_simp) rfl
        · intro r W hc hf hs hd hB
          have hBV := HBV.out W hB
          refine want_n rfl ?_
          have e118 : r (.tmp 118) = .slice (some ⟨bm, 0, none⟩) 65 65 := hd 118 (by kernel_rfl)
          exact st_call (f := 48) (args := #[.int .u8 5, .slice (some ⟨bm, 0, none⟩) 65 65]) rfl (by decide) (by go_simp) (made_term (mof_many 5 65 (some ⟨bm, 0, none⟩) 65 W (by decide) (HMANY.out 0 65 (by decide) W hBV)))
        · intro r W hc hf hs hd hB
          have hBV := HBV.out W hB
          refine want_n rfl ?_
          obtain ⟨A119, e119, k119⟩ : TIn W (tOf 5 (nums0 65)) (r (.tmp 119)) := hd 119 (by kernel_rfl)
          exact st_value (v := NB.val ⟨tOf 5 (nums0 65), A119, 5⟩) rfl (by decide) (run_nb ⟨tOf 5 (nums0 65), A119, 5⟩ rfl e119 (hc _)) ⟨A119, rfl, k119⟩
        · intro r W hc hf hs hd hB
          have hBV := HBV.out W hB
          refine want_n rfl ?_
          have e4 : r (.tmp 4) = .slice (some ⟨bm, 0, none⟩) 65 65 := hs 4 (by kernel_rfl)
          exact st_value (v := .slice (some ⟨bm, 0, none⟩) 65 65) rfl (by decide) (by go_simp) rfl
        · intro r W hc hf hs hd hB
          have hBV := HBV.out W hB
          refine want_n rfl ?_
          have e121 : r (.tmp 121) = .slice (some ⟨bm, 0, none⟩) 65 65 := hd 121 (by kernel_rfl)
          exact st_value (v := .slice (some ⟨bm, 15, none⟩) 64 64) rfl (by decide) (by go_simp) rfl
        · intro r W hc hf hs hd hB
          have hBV := HBV.out W hB
          refine want_n rfl ?_
          have e122 : r (.tmp 122) = .slice (some ⟨bm, 15, none⟩) 64 64 := hd 122 (by kernel_rfl)
          exact st_call (f := 48) (args := #[.int .u8 7, .slice (some ⟨bm, 15, none⟩) 64 64]) rfl (by decide) (by go_simp) (made_term (mof_many 7 64 (some ⟨bm, 15, none⟩) 64 W (by decide) (HMANY.out 1 64 (by decide) W hBV)))
        · intro r W hc hf hs hd hB
          have hBV := HBV.out W hB
          refine want_n rfl ?_
          obtain ⟨A123, e123, k123⟩ : TIn W (tOf 7 (nums0 64)) (r (.tmp 123)) := hd 123 (by kernel_rfl)
          exact st_value (v := NB.val ⟨tOf 7 (nums0 64), A123, 0⟩) rfl (by decide) (run_nb ⟨tOf 7 (nums0 64), A123, 0⟩ rfl e123 (hc _)) ⟨A123, rfl, k123⟩
        · intro r W hc hf hs hd hB
          have hBV := HBV.out W hB
          refine want_n rfl ?_

          exact st_call (f := 47) (args := #[.int .i64 1]) rfl (by decide) (by go_simp) (made_term (mnum 1 W))
        · intro r W hc hf hs hd hB
          have hBV := HBV.out W hB
          refine want_n rfl ?_
          obtain ⟨A125, e125, k125⟩ : TIn W (tNum 1) (r (.tmp 125)) := hd 125 (by kernel_rfl)
          exact st_call (f := 52) (args := #[.int .i64 0, .int .i64 16, r (.tmp 125)]) rfl (by decide) (by go_simp) (made_term (llist_any 0 16 _ _ W ⟨A125, e125, k125⟩))
        · intro r W hc hf hs hd hB
          have hBV := HBV.out W hB
          refine want_n rfl ?_
          obtain ⟨A126, e126, k126⟩ : TIn W (tList 0 16 (tNum 1)) (r (.tmp 126)) := hd 126 (by kernel_rfl)
          exact st_value (v := NB.val ⟨tList 0 16 (tNum 1), A126, 0⟩) rfl (by decide) (run_nb ⟨tList 0 16 (tNum 1), A126, 0⟩ rfl e126 (hc _)) ⟨A126, rfl, k126⟩
        · intro r W hc hf hs hd hB
          have hBV := HBV.out W hB
          refine want_n rfl ?_

          exact st_call (f := 47) (args := #[.int .i64 1]) rfl (by decide) (by go_simp) (made_term (mnum 1 W))
        · intro r W hc hf hs hd hB
          have hBV := HBV.out W hB
          refine want_n rfl ?_
          obtain ⟨A128, e128, k128⟩ : TIn W (tNum 1) (r (.tmp 128)) := hd 128 (by kernel_rfl)
          exact st_call (f := 52) (args := #[.int .i64 0, .int .i64 17, r (.tmp 128)]) rfl (by decide) (by go_simp) (made_term (llist_any 0 17 _ _ W ⟨A128, e128, k128⟩))
        · intro r W hc hf hs hd hB
          have hBV := HBV.out W hB
          refine want_n rfl ?_
          obtain ⟨A129, e129, k129⟩ : TIn W (tList 0 17 (tNum 1)) (r (.tmp 129)) := hd 129 (by kernel_rfl)
          exact st_value (v := NB.val ⟨tList 0 17 (tNum 1), A129, 1⟩) rfl (by decide) (run_nb ⟨tList 0 17 (tNum 1), A129, 1⟩ rfl e129 (hc _)) ⟨A129, rfl, k129⟩
        · intro r W hc hf hs hd hB
          have hBV := HBV.out W hB
          refine want_n rfl ?_

          exact st_call (f := 47) (args := #[.int .i64 1]) rfl (by decide) (by go_simp) (made_term (mnum 1 W))
        · intro r W hc hf hs hd hB
          have hBV := HBV.out W hB
          refine want_n rfl ?_
          obtain ⟨A131, e131, k131⟩ : TIn W (tNum 1) (r (.tmp 131)) := hd 131 (by kernel_rfl)
          exact st_call (f := 52) (args := #[.int .i64 2, .int .i64 1, r (.tmp 131)]) rfl (by decide) (by go_simp) (made_term (llist_any 2 1 _ _ W ⟨A131, e131, k131⟩))
        · intro r W hc hf hs hd hB
          have hBV := HBV.out W hB
          refine want_n rfl ?_
          obtain ⟨A132, e132, k132⟩ : TIn W (tList 2 1 (tNum 1)) (r (.tmp 132)) := hd 132 (by kernel_rfl)
          exact st_value (v := NB.val ⟨tList 2 1 (tNum 1), A132, 1⟩) rfl (by decide) (run_nb ⟨tList 2 1 (tNum 1), A132, 1⟩ rfl e132 (hc _)) ⟨A132, rfl, k132⟩
        · intro r W hc hf hs hd hB
          have hBV := HBV.out W hB
          refine want_n rfl ?_

          exact st_call (f := 47) (args := #[.int .i64 1]) rfl (by decide) (by go_simp) (made_term (mnum 1 W))
        · intro r W hc hf hs hd hB
          have hBV := HBV.out W hB
          refine want_n rfl ?_
          obtain ⟨A134, e134, k134⟩ : TIn W (tNum 1) (r (.tmp 134)) := hd 134 (by kernel_rfl)
          exact st_call (f := 52) (args := #[.int .i64 (-1), .int .i64 1, r (.tmp 134)]) rfl (by decide) (by go_simp) (made_term (llist_any (-1) 1 _ _ W ⟨A134, e134, k134⟩))
        · intro r W hc hf hs hd hB
          have hBV := HBV.out W hB
          refine want_n rfl ?_
          obtain ⟨A135, e135, k135⟩ : TIn W (tList (-1) 1 (tNum 1)) (r (.tmp 135)) := hd 135 (by kernel_rfl)
          exact st_value (v := NB.val ⟨tList (-1) 1 (tNum 1), A135, 1⟩) rfl (by decide) (run_nb ⟨tList (-1) 1 (tNum 1), A135, 1⟩ rfl e135 (hc _)) ⟨A135, rfl, k135⟩
        · intro r W hc hf hs hd hB
          have hBV := HBV.out W hB
          refine want_n rfl ?_

          exact st_call (f := 48) (args := #[.int .u8 6, .slice none 0 0]) rfl (by decide) (by go_simp) (made_term (mof 6 [] none 0 W (by simp) trow_nil))
        · intro r W hc hf hs hd hB
          have hBV := HBV.out W hB
          refine want_n rfl ?_
          obtain ⟨A137, e137, k137⟩ : TIn W (tOf 6 []) (r (.tmp 137)) := hd 137 (by kernel_rfl)
          exact st_value (v := NB.val ⟨tOf 6 [], A137, 4⟩) rfl (by decide) (run_nb ⟨tOf 6 [], A137, 4⟩ rfl e137 (hc _)) ⟨A137, rfl, k137⟩
        · intro r W hc hf hs hd hB
          have hBV := HBV.out W hB
          refine want_n rfl ?_
          have e4 : r (.tmp 4) = .slice (some ⟨bm, 0, none⟩) 65 65 := hs 4 (by kernel_rfl)
          exact st_value (v := .slice (some ⟨bm, 0, none⟩) 65 65) rfl (by decide) (by go_simp) rfl
        · intro r W hc hf hs hd hB
          have hBV := HBV.out W hB
          refine want_n rfl ?_
          have e139 : r (.tmp 139) = .slice (some ⟨bm, 0, none⟩) 65 65 := hd 139 (by kernel_rfl)
          exact st_value (v := .slice (some ⟨bm, 0, none⟩) 2 65) rfl (by decide) (by go_simp) rfl
        · intro r W hc hf hs hd hB
          have hBV := HBV.out W hB
          refine want_n rfl ?_
          have e140 : r (.tmp 140) = .slice (some ⟨bm, 0, none⟩) 2 65 := hd 140 (by kernel_rfl)
          exact st_value (v := TT.val (TT.mk 8 vNone [] 2 0 [] pNone (nums0 2)) ⟨none, 0, none, 0, none, 0, none, 0, none, 0, (some ⟨bm, 0, none⟩), 65⟩) rfl (by decide) (run_built rfl _ (by
            have e : (Array.map (fun (x : Nat × Operand) => (x.1, r x.2)) #[(0, .const (.int .u8 8)), (3, .const (.int .i64 2)), (7, .tmp 140)]).toList = ([(0, .int .u8 8), (3, .int .i64 2), (7, .slice (some ⟨bm, 0, none⟩) 2 65)] : List (Nat × Value)) := by simp [hc, e140]
            exact (congrArg (Program.built Try.prog 47) e).trans (by kernel_rfl))) ⟨_, rfl, TOk.of ⟨⟨by decide, by decide, by decide⟩, vin_plain W _ _, vrow_nil, wrow_nil, pin_none W, HMANY.out 0 2 (by decide) W hBV⟩⟩
        · intro r W hc hf hs hd hB
          have hBV := HBV.out W hB
          refine want_n rfl ?_
          obtain ⟨A141, e141, k141⟩ : TIn W (TT.mk 8 vNone [] 2 0 [] pNone (nums0 2)) (r (.tmp 141)) := hd 141 (by kernel_rfl)
          exact st_value (v := NB.val ⟨TT.mk 8 vNone [] 2 0 [] pNone (nums0 2), A141, 0⟩) rfl (by decide) (run_nb ⟨TT.mk 8 vNone [] 2 0 [] pNone (nums0 2), A141, 0⟩ rfl e141 (hc _)) ⟨A141, rfl, k141⟩
        · intro r W hc hf hs hd hB
          have hBV := HBV.out W hB
          refine want_n rfl ?_
          have e4 : r (.tmp 4) = .slice (some ⟨bm, 0, none⟩) 65 65 := hs 4 (by kernel_rfl)
          exact st_value (v := .slice (some ⟨bm, 0, none⟩) 65 65) rfl (by decide) (by go_simp) rfl
        · intro r W hc hf hs hd hB
          have hBV := HBV.out W hB
          refine want_n rfl ?_
          have e143 : r (.tmp 143) = .slice (some ⟨bm, 0, none⟩) 65 65 := hd 143 (by kernel_rfl)
          exact st_value (v := .slice (some ⟨bm, 0, none⟩) 2 65) rfl (by decide) (by go_simp) rfl
        · intro r W hc hf hs hd hB
          have hBV := HBV.out W hB
          refine want_n rfl ?_
          have e144 : r (.tmp 144) = .slice (some ⟨bm, 0, none⟩) 2 65 := hd 144 (by kernel_rfl)
          exact st_value (v := TT.val (TT.mk 8 vNone [] 3 0 [] pNone (nums0 2)) ⟨none, 0, none, 0, none, 0, none, 0, none, 0, (some ⟨bm, 0, none⟩), 65⟩) rfl (by decide) (run_built rfl _ (by
            have e : (Array.map (fun (x : Nat × Operand) => (x.1, r x.2)) #[(0, .const (.int .u8 8)), (3, .const (.int .i64 3)), (7, .tmp 144)]).toList = ([(0, .int .u8 8), (3, .int .i64 3), (7, .slice (some ⟨bm, 0, none⟩) 2 65)] : List (Nat × Value)) := by simp [hc, e144]
            exact (congrArg (Program.built Try.prog 47) e).trans (by kernel_rfl))) ⟨_, rfl, TOk.of ⟨⟨by decide, by decide, by decide⟩, vin_plain W _ _, vrow_nil, wrow_nil, pin_none W, HMANY.out 0 2 (by decide) W hBV⟩⟩
        · intro r W hc hf hs hd hB
          have hBV := HBV.out W hB
          refine want_n rfl ?_
          obtain ⟨A145, e145, k145⟩ : TIn W (TT.mk 8 vNone [] 3 0 [] pNone (nums0 2)) (r (.tmp 145)) := hd 145 (by kernel_rfl)
          exact st_value (v := NB.val ⟨TT.mk 8 vNone [] 3 0 [] pNone (nums0 2), A145, 1⟩) rfl (by decide) (run_nb ⟨TT.mk 8 vNone [] 3 0 [] pNone (nums0 2), A145, 1⟩ rfl e145 (hc _)) ⟨A145, rfl, k145⟩
        · intro r W hc hf hs hd hB
          have hBV := HBV.out W hB
          refine want_n rfl ?_
          have e4 : r (.tmp 4) = .slice (some ⟨bm, 0, none⟩) 65 65 := hs 4 (by kernel_rfl)
          exact st_value (v := .slice (some ⟨bm, 0, none⟩) 65 65) rfl (by decide) (by go_simp) rfl
        · intro r W hc hf hs hd hB
          have hBV := HBV.out W hB
          refine want_n rfl ?_
          have e147 : r (.tmp 147) = .slice (some ⟨bm, 0, none⟩) 65 65 := hd 147 (by kernel_rfl)
          exact st_value (v := .slice (some ⟨bm, 0, none⟩) 2 65) rfl (by decide) (by go_simp) rfl
        · intro r W hc hf hs hd hB
          have hBV := HBV.out W hB
          refine want_n rfl ?_
          have e148 : r (.tmp 148) = .slice (some ⟨bm, 0, none⟩) 2 65 := hd 148 (by kernel_rfl)
          exact st_value (v := TT.val (TT.mk 8 vNone [] 0 1 [] pNone (nums0 2)) ⟨none, 0, none, 0, none, 0, none, 0, none, 0, (some ⟨bm, 0, none⟩), 65⟩) rfl (by decide) (run_built rfl _ (by
            have e : (Array.map (fun (x : Nat × Operand) => (x.1, r x.2)) #[(0, .const (.int .u8 8)), (4, .const (.int .i64 1)), (7, .tmp 148)]).toList = ([(0, .int .u8 8), (4, .int .i64 1), (7, .slice (some ⟨bm, 0, none⟩) 2 65)] : List (Nat × Value)) := by simp [hc, e148]
            exact (congrArg (Program.built Try.prog 47) e).trans (by kernel_rfl))) ⟨_, rfl, TOk.of ⟨⟨by decide, by decide, by decide⟩, vin_plain W _ _, vrow_nil, wrow_nil, pin_none W, HMANY.out 0 2 (by decide) W hBV⟩⟩
        · intro r W hc hf hs hd hB
          have hBV := HBV.out W hB
          refine want_n rfl ?_
          obtain ⟨A149, e149, k149⟩ : TIn W (TT.mk 8 vNone [] 0 1 [] pNone (nums0 2)) (r (.tmp 149)) := hd 149 (by kernel_rfl)
          exact st_value (v := NB.val ⟨TT.mk 8 vNone [] 0 1 [] pNone (nums0 2), A149, 3⟩) rfl (by decide) (run_nb ⟨TT.mk 8 vNone [] 0 1 [] pNone (nums0 2), A149, 3⟩ rfl e149 (hc _)) ⟨A149, rfl, k149⟩
        · intro r W hc hf hs hd hB
          have hBV := HBV.out W hB
          refine want_n rfl ?_
          have e4 : r (.tmp 4) = .slice (some ⟨bm, 0, none⟩) 65 65 := hs 4 (by kernel_rfl)
          exact st_value (v := .slice (some ⟨bm, 0, none⟩) 65 65) rfl (by decide) (by go_simp) rfl
        · intro r W hc hf hs hd hB
          have hBV := HBV.out W hB
          refine want_n rfl ?_
          have e151 : r (.tmp 151) = .slice (some ⟨bm, 0, none⟩) 65 65 := hd 151 (by kernel_rfl)
          exact st_value (v := .slice (some ⟨bm, 0, none⟩) 1 65) rfl (by decide) (by go_simp) rfl
        · intro r W hc hf hs hd hB
          have hBV := HBV.out W hB
          refine want_n rfl ?_
          have e152 : r (.tmp 152) = .slice (some ⟨bm, 0, none⟩) 1 65 := hd 152 (by kernel_rfl)
          exact st_value (v := TT.val (TT.mk 9 vNone [] 0 0 [] pNone (nums0 1)) ⟨none, 0, none, 0, none, 0, none, 0, none, 0, (some ⟨bm, 0, none⟩), 65⟩) rfl (by decide) (run_built rfl _ (by
            have e : (Array.map (fun (x : Nat × Operand) => (x.1, r x.2)) #[(0, .const (.int .u8 9)), (7, .tmp 152)]).toList = ([(0, .int .u8 9), (7, .slice (some ⟨bm, 0, none⟩) 1 65)] : List (Nat × Value)) := by simp [hc, e152]
            exact (congrArg (Program.built Try.prog 47) e).trans (by kernel_rfl))) ⟨_, rfl, TOk.of ⟨⟨by decide, by decide, by decide⟩, vin_plain W _ _, vrow_nil, wrow_nil, pin_none W, HMANY.out 0 1 (by decide) W hBV⟩⟩
        · intro r W hc hf hs hd hB
          have hBV := HBV.out W hB
          refine want_n rfl ?_
          obtain ⟨A153, e153, k153⟩ : TIn W (TT.mk 9 vNone [] 0 0 [] pNone (nums0 1)) (r (.tmp 153)) := hd 153 (by kernel_rfl)
          exact st_value (v := NB.val ⟨TT.mk 9 vNone [] 0 0 [] pNone (nums0 1), A153, 11⟩) rfl (by decide) (run_nb ⟨TT.mk 9 vNone [] 0 0 [] pNone (nums0 1), A153, 11⟩ rfl e153 (hc _)) ⟨A153, rfl, k153⟩
        · intro r W hc hf hs hd hB
          have hBV := HBV.out W hB
          refine want_n rfl ?_
          have e3 : r (.tmp 3) = .pointer (some ⟨b3, 0, none⟩) := hs 3 (by kernel_rfl)
          obtain ⟨c0, c1, c2, c3, c4, c5⟩ := H3.out
          have g0 := cell_stays hBV c0
          have g1 := cell_stays hBV c1
          have g2 := cell_stays hBV c2
          have g3 := cell_stays hBV c3
          have g4 := cell_stays hBV c4
          have g5 := cell_stays hBV c5
          clear c0 c1 c2 c3 c4 c5
          exact st_value (v := .agg #[.int .u8 1, .int .u8 0, .int .i64 0, .slice none 0 0, .int .i64 0, .slice none 0 0]) rfl (by decide) (by go_simp) rfl
        · intro r W hc hf hs hd hB
          have hBV := HBV.out W hB
          refine want_n rfl ?_
          have e155 : r (.tmp 155) = .agg #[.int .u8 1, .int .u8 0, .int .i64 0, .slice none 0 0, .int .i64 0, .slice none 0 0] := hd 155 (by kernel_rfl)
          exact st_value (v := TT.val (TT.mk 9 vNone [] 0 0 [] pYes []) ⟨none, 0, none, 0, none, 0, none, 0, none, 0, none, 0⟩) rfl (by decide) (run_built rfl _ (by
            have e : (Array.map (fun (x : Nat × Operand) => (x.1, r x.2)) #[(0, .const (.int .u8 9)), (6, .tmp 155)]).toList = ([(0, .int .u8 9), (6, .agg #[.int .u8 1, .int .u8 0, .int .i64 0, .slice none 0 0, .int .i64 0, .slice none 0 0])] : List (Nat × Value)) := by simp [hc, e155]
            exact (congrArg (Program.built Try.prog 47) e).trans (by kernel_rfl))) ⟨_, rfl, TOk.of ⟨⟨by decide, by decide, by decide⟩, vin_plain W _ _, vrow_nil, wrow_nil, pin_yes W, trow_nil⟩⟩
        · intro r W hc hf hs hd hB
          have hBV := HBV.out W hB
          refine want_n rfl ?_
          obtain ⟨A156, e156, k156⟩ : TIn W (TT.mk 9 vNone [] 0 0 [] pYes []) (r (.tmp 156)) := hd 156 (by kernel_rfl)
          exact st_value (v := NB.val ⟨TT.mk 9 vNone [] 0 0 [] pYes [], A156, 4⟩) rfl (by decide) (run_nb ⟨TT.mk 9 vNone [] 0 0 [] pYes [], A156, 4⟩ rfl e156 (hc _)) ⟨A156, rfl, k156⟩
        · intro r W hc hf hs hd hB
          have hBV := HBV.out W hB
          refine want_n rfl ?_
          have e3 : r (.tmp 3) = .pointer (some ⟨b3, 0, none⟩) := hs 3 (by kernel_rfl)
          obtain ⟨c0, c1, c2, c3, c4, c5⟩ := H3.out
          have g0 := cell_stays hBV c0
          have g1 := cell_stays hBV c1
          have g2 := cell_stays hBV c2
          have g3 := cell_stays hBV c3
          have g4 := cell_stays hBV c4
          have g5 := cell_stays hBV c5
          clear c0 c1 c2 c3 c4 c5
          exact st_value (v := .agg #[.int .u8 1, .int .u8 0, .int .i64 0, .slice none 0 0, .int .i64 0, .slice none 0 0]) rfl (by decide) (by go_simp) rfl
        · intro r W hc hf hs hd hB
          have hBV := HBV.out W hB
          refine want_n rfl ?_
          have e4 : r (.tmp 4) = .slice (some ⟨bm, 0, none⟩) 65 65 := hs 4 (by kernel_rfl)
          exact st_value (v := .slice (some ⟨bm, 0, none⟩) 65 65) rfl (by decide) (by go_simp) rfl
        · intro r W hc hf hs hd hB
          have hBV := HBV.out W hB
          refine want_n rfl ?_
          have e159 : r (.tmp 159) = .slice (some ⟨bm, 0, none⟩) 65 65 := hd 159 (by kernel_rfl)
          exact st_value (v := .slice (some ⟨bm, 0, none⟩) 2 65) rfl (by decide) (by go_simp) rfl
        · intro r W hc hf hs hd hB
          have hBV := HBV.out W hB
          refine want_n rfl ?_
          have e158 : r (.tmp 158) = .agg #[.int .u8 1, .int .u8 0, .int .i64 0, .slice none 0 0, .int .i64 0, .slice none 0 0] := hd 158 (by kernel_rfl)
          have e160 : r (.tmp 160) = .slice (some ⟨bm, 0, none⟩) 2 65 := hd 160 (by kernel_rfl)
          exact st_value (v := TT.val (TT.mk 9 vNone [] 0 0 [] pYes (nums0 2)) ⟨none, 0, none, 0, none, 0, none, 0, none, 0, (some ⟨bm, 0, none⟩), 65⟩) rfl (by decide) (run_built rfl _ (by
            have e : (Array.map (fun (x : Nat × Operand) => (x.1, r x.2)) #[(0, .const (.int .u8 9)), (6, .tmp 158), (7, .tmp 160)]).toList = ([(0, .int .u8 9), (6, .agg #[.int .u8 1, .int .u8 0, .int .i64 0, .slice none 0 0, .int .i64 0, .slice none 0 0]), (7, .slice (some ⟨bm, 0, none⟩) 2 65)] : List (Nat × Value)) := by simp [hc, e158, e160]
            exact (congrArg (Program.built Try.prog 47) e).trans (by kernel_rfl))) ⟨_, rfl, TOk.of ⟨⟨by decide, by decide, by decide⟩, vin_plain W _ _, vrow_nil, wrow_nil, pin_yes W, HMANY.out 0 2 (by decide) W hBV⟩⟩
        · intro r W hc hf hs hd hB
          have hBV := HBV.out W hB
          refine want_n rfl ?_
          obtain ⟨A161, e161, k161⟩ : TIn W (TT.mk 9 vNone [] 0 0 [] pYes (nums0 2)) (r (.tmp 161)) := hd 161 (by kernel_rfl)
          exact st_value (v := NB.val ⟨TT.mk 9 vNone [] 0 0 [] pYes (nums0 2), A161, 5⟩) rfl (by decide) (run_nb ⟨TT.mk 9 vNone [] 0 0 [] pYes (nums0 2), A161, 5⟩ rfl e161 (hc _)) ⟨A161, rfl, k161⟩
        · intro r W hc hf hs hd hB
          have hBV := HBV.out W hB
          refine want_n rfl ?_
          have e3 : r (.tmp 3) = .pointer (some ⟨b3, 0, none⟩) := hs 3 (by kernel_rfl)
          obtain ⟨c0, c1, c2, c3, c4, c5⟩ := H3.out
          have g0 := cell_stays hBV c0
          have g1 := cell_stays hBV c1
          have g2 := cell_stays hBV c2
          have g3 := cell_stays hBV c3
          have g4 := cell_stays hBV c4
          have g5 := cell_stays hBV c5
          clear c0 c1 c2 c3 c4 c5
          exact st_value (v := .agg #[.int .u8 1, .int .u8 0, .int .i64 0, .slice none 0 0, .int .i64 0, .slice none 0 0]) rfl (by decide) (by go_simp) rfl
        · intro r W hc hf hs hd hB
          have hBV := HBV.out W hB
          refine want_n rfl ?_
          have e4 : r (.tmp 4) = .slice (some ⟨bm, 0, none⟩) 65 65 := hs 4 (by kernel_rfl)
          exact st_value (v := .slice (some ⟨bm, 0, none⟩) 65 65) rfl (by decide) (by go_simp) rfl
        · intro r W hc hf hs hd hB
          have hBV := HBV.out W hB
          refine want_n rfl ?_
          have e164 : r (.tmp 164) = .slice (some ⟨bm, 0, none⟩) 65 65 := hd 164 (by kernel_rfl)
          exact st_value (v := .slice (some ⟨bm, 0, none⟩) 1 65) rfl (by decide) (by go_simp) rfl
        · intro r W hc hf hs hd hB
          have hBV := HBV.out W hB
          refine want_n rfl ?_
          have e163 : r (.tmp 163) = .agg #[.int .u8 1, .int .u8 0, .int .i64 0, .slice none 0 0, .int .i64 0, .slice none 0 0] := hd 163 (by kernel_rfl)
          have e165 : r (.tmp 165) = .slice (some ⟨bm, 0, none⟩) 1 65 := hd 165 (by kernel_rfl)
          exact st_value (v := TT.val (TT.mk 9 vNone [] 0 0 [] pYes (nums0 1)) ⟨none, 0, none, 0, none, 0, none, 0, none, 0, (some ⟨bm, 0, none⟩), 65⟩) rfl (by decide) (run_built rfl _ (by
            have e : (Array.map (fun (x : Nat × Operand) => (x.1, r x.2)) #[(0, .const (.int .u8 9)), (6, .tmp 163), (7, .tmp 165)]).toList = ([(0, .int .u8 9), (6, .agg #[.int .u8 1, .int .u8 0, .int .i64 0, .slice none 0 0, .int .i64 0, .slice none 0 0]), (7, .slice (some ⟨bm, 0, none⟩) 1 65)] : List (Nat × Value)) := by simp [hc, e163, e165]
            exact (congrArg (Program.built Try.prog 47) e).trans (by kernel_rfl))) ⟨_, rfl, TOk.of ⟨⟨by decide, by decide, by decide⟩, vin_plain W _ _, vrow_nil, wrow_nil, pin_yes W, HMANY.out 0 1 (by decide) W hBV⟩⟩
        · intro r W hc hf hs hd hB
          have hBV := HBV.out W hB
          refine want_n rfl ?_
          obtain ⟨A166, e166, k166⟩ : TIn W (TT.mk 9 vNone [] 0 0 [] pYes (nums0 1)) (r (.tmp 166)) := hd 166 (by kernel_rfl)
          exact st_value (v := NB.val ⟨TT.mk 9 vNone [] 0 0 [] pYes (nums0 1), A166, 0⟩) rfl (by decide) (run_nb ⟨TT.mk 9 vNone [] 0 0 [] pYes (nums0 1), A166, 0⟩ rfl e166 (hc _)) ⟨A166, rfl, k166⟩
        · intro r W hc hf hs hd hB
          have hBV := HBV.out W hB
          refine want_n rfl ?_

          exact st_call (f := 47) (args := #[.int .i64 0]) rfl (by decide) (by go_simp) (made_term (mnum 0 W))
        · intro r W hc hf hs hd hB
          have hBV := HBV.out W hB
          refine want_n rfl ?_

          exact st_call (f := 47) (args := #[.int .i64 1]) rfl (by decide) (by go_simp) (made_term (mnum 1 W))
        · intro r W hc hf hs hd hB
          have hBV := HBV.out W hB
          refine want_n rfl ?_
          obtain ⟨A168, e168, k168⟩ : TIn W (tNum 0) (r (.tmp 168)) := hd 168 (by kernel_rfl)
          obtain ⟨A169, e169, k169⟩ : TIn W (tNum 1) (r (.tmp 169)) := hd 169 (by kernel_rfl)
          exact st_call (f := 51) (args := #[.int .i64 8, r (.tmp 168), r (.tmp 169)]) rfl (by decide) (by go_simp) (made_term (lsized_any 8 _ _ _ _ W ⟨A168, e168, k168⟩ ⟨A169, e169, k169⟩))
        · intro r W hc hf hs hd hB
          have hBV := HBV.out W hB
          refine want_n rfl ?_
          obtain ⟨A170, e170, k170⟩ : TIn W (tSized 8 (tNum 0) (tNum 1)) (r (.tmp 170)) := hd 170 (by kernel_rfl)
          exact st_value (v := NB.val ⟨tSized 8 (tNum 0) (tNum 1), A170, 0⟩) rfl (by decide) (run_nb ⟨tSized 8 (tNum 0) (tNum 1), A170, 0⟩ rfl e170 (hc _)) ⟨A170, rfl, k170⟩
        · intro r W hc hf hs hd hB
          have hBV := HBV.out W hB
          refine want_n rfl ?_

          exact st_call (f := 47) (args := #[.int .i64 0]) rfl (by decide) (by go_simp) (made_term (mnum 0 W))
        · intro r W hc hf hs hd hB
          have hBV := HBV.out W hB
          refine want_n rfl ?_

          exact st_call (f := 47) (args := #[.int .i64 1]) rfl (by decide) (by go_simp) (made_term (mnum 1 W))
        · intro r W hc hf hs hd hB
          have hBV := HBV.out W hB
          refine want_n rfl ?_
          obtain ⟨A172, e172, k172⟩ : TIn W (tNum 0) (r (.tmp 172)) := hd 172 (by kernel_rfl)
          obtain ⟨A173, e173, k173⟩ : TIn W (tNum 1) (r (.tmp 173)) := hd 173 (by kernel_rfl)
          exact st_call (f := 51) (args := #[.int .i64 9, r (.tmp 172), r (.tmp 173)]) rfl (by decide) (by go_simp) (made_term (lsized_any 9 _ _ _ _ W ⟨A172, e172, k172⟩ ⟨A173, e173, k173⟩))
        · intro r W hc hf hs hd hB
          have hBV := HBV.out W hB
          refine want_n rfl ?_
          obtain ⟨A174, e174, k174⟩ : TIn W (tSized 9 (tNum 0) (tNum 1)) (r (.tmp 174)) := hd 174 (by kernel_rfl)
          exact st_value (v := NB.val ⟨tSized 9 (tNum 0) (tNum 1), A174, 1⟩) rfl (by decide) (run_nb ⟨tSized 9 (tNum 0) (tNum 1), A174, 1⟩ rfl e174 (hc _)) ⟨A174, rfl, k174⟩
        · intro r W hc hf hs hd hB
          have hBV := HBV.out W hB
          refine want_n rfl ?_

          exact st_call (f := 47) (args := #[.int .i64 0]) rfl (by decide) (by go_simp) (made_term (mnum 0 W))
        · intro r W hc hf hs hd hB
          have hBV := HBV.out W hB
          refine want_n rfl ?_

          exact st_call (f := 47) (args := #[.int .i64 1]) rfl (by decide) (by go_simp) (made_term (mnum 1 W))
        · intro r W hc hf hs hd hB
          have hBV := HBV.out W hB
          refine want_n rfl ?_
          obtain ⟨A176, e176, k176⟩ : TIn W (tNum 0) (r (.tmp 176)) := hd 176 (by kernel_rfl)
          obtain ⟨A177, e177, k177⟩ : TIn W (tNum 1) (r (.tmp 177)) := hd 177 (by kernel_rfl)
          exact st_call (f := 51) (args := #[.int .i64 (-1), r (.tmp 176), r (.tmp 177)]) rfl (by decide) (by go_simp) (made_term (lsized_any (-1) _ _ _ _ W ⟨A176, e176, k176⟩ ⟨A177, e177, k177⟩))
        · intro r W hc hf hs hd hB
          have hBV := HBV.out W hB
          refine want_n rfl ?_
          obtain ⟨A178, e178, k178⟩ : TIn W (tSized (-1) (tNum 0) (tNum 1)) (r (.tmp 178)) := hd 178 (by kernel_rfl)
          exact st_value (v := NB.val ⟨tSized (-1) (tNum 0) (tNum 1), A178, 1⟩) rfl (by decide) (run_nb ⟨tSized (-1) (tNum 0) (tNum 1), A178, 1⟩ rfl e178 (hc _)) ⟨A178, rfl, k178⟩
        · intro r W hc hf hs hd hB
          have hBV := HBV.out W hB
          refine want_n rfl ?_

          exact st_call (f := 47) (args := #[.int .i64 0]) rfl (by decide) (by go_simp) (made_term (mnum 0 W))
        · intro r W hc hf hs hd hB
          have hBV := HBV.out W hB
          refine want_n rfl ?_
          obtain ⟨A180, e180, k180⟩ : TIn W (tNum 0) (r (.tmp 180)) := hd 180 (by kernel_rfl)
          obtain ⟨w2, hw2, m2, s2, hc2, _⟩ := row1_new W (tNum 0) A180
          exact st_new (v := .slice (some ⟨W.heap.size, 0, none⟩) 1 1) (w' := w2) rfl (by decide) (run_row1 rfl e180 hw2) m2 ⟨_, _, _, rfl, rfl, by simp, trow_cons hc2 (k180.below m2) trow_nil⟩
        · intro r W hc hf hs hd hB
          have hBV := HBV.out W hB
          refine want_n rfl ?_
          obtain ⟨a181, n181, c181, e181, hn181, hl181, k181⟩ : TQ.ok (.row [tNum 0]) (r (.tmp 181)) W := hd 181 (by kernel_rfl)
          subst hn181
          exact st_call (f := 48) (args := #[.int .u8 10, .slice a181 ([tNum 0] : List TT).length c181]) rfl (by decide) (by go_simp) (made_term (mof 10 [tNum 0] a181 c181 W (by simp) k181))
        · intro r W hc hf hs hd hB
          have hBV := HBV.out W hB
          refine want_n rfl ?_
          obtain ⟨A182, e182, k182⟩ : TIn W (tOf 10 [tNum 0]) (r (.tmp 182)) := hd 182 (by kernel_rfl)
          exact st_value (v := NB.val ⟨tOf 10 [tNum 0], A182, 4⟩) rfl (by decide) (run_nb ⟨tOf 10 [tNum 0], A182, 4⟩ rfl e182 (hc _)) ⟨A182, rfl, k182⟩
        · intro r W hc hf hs hd hB
          have hBV := HBV.out W hB
          refine want_n rfl ?_
          have e4 : r (.tmp 4) = .slice (some ⟨bm, 0, none⟩) 65 65 := hs 4 (by kernel_rfl)
          exact st_value (v := .slice (some ⟨bm, 0, none⟩) 65 65) rfl (by decide) (by go_simp) rfl
        · intro r W hc hf hs hd hB
          have hBV := HBV.out W hB
          refine want_n rfl ?_
          have e184 : r (.tmp 184) = .slice (some ⟨bm, 0, none⟩) 65 65 := hd 184 (by kernel_rfl)
          exact st_value (v := .slice (some ⟨bm, 0, none⟩) 2 65) rfl (by decide) (by go_simp) rfl
        · intro r W hc hf hs hd hB
          have hBV := HBV.out W hB
          refine want_n rfl ?_
          have e185 : r (.tmp 185) = .slice (some ⟨bm, 0, none⟩) 2 65 := hd 185 (by kernel_rfl)
          exact st_value (v := TT.val (TT.mk 10 vNone [] 0 2 [] pNone (nums0 2)) ⟨none, 0, none, 0, none, 0, none, 0, none, 0, (some ⟨bm, 0, none⟩), 65⟩) rfl (by decide) (run_built rfl _ (by
            have e : (Array.map (fun (x : Nat × Operand) => (x.1, r x.2)) #[(0, .const (.int .u8 10)), (4, .const (.int .i64 2)), (7, .tmp 185)]).toList = ([(0, .int .u8 10), (4, .int .i64 2), (7, .slice (some ⟨bm, 0, none⟩) 2 65)] : List (Nat × Value)) := by simp [hc, e185]
            exact (congrArg (Program.built Try.prog 47) e).trans (by kernel_rfl))) ⟨_, rfl, TOk.of ⟨⟨by decide, by decide, by decide⟩, vin_plain W _ _, vrow_nil, wrow_nil, pin_none W, HMANY.out 0 2 (by decide) W hBV⟩⟩
        · intro r W hc hf hs hd hB
          have hBV := HBV.out W hB
          refine want_n rfl ?_
          obtain ⟨A186, e186, k186⟩ : TIn W (TT.mk 10 vNone [] 0 2 [] pNone (nums0 2)) (r (.tmp 186)) := hd 186 (by kernel_rfl)
          exact st_value (v := NB.val ⟨TT.mk 10 vNone [] 0 2 [] pNone (nums0 2), A186, 3⟩) rfl (by decide) (run_nb ⟨TT.mk 10 vNone [] 0 2 [] pNone (nums0 2), A186, 3⟩ rfl e186 (hc _)) ⟨A186, rfl, k186⟩
        · intro r W hc hf hs hd hB
          have hBV := HBV.out W hB
          refine want_n rfl ?_

          exact st_call (f := 50) (args := #[]) rfl (by decide) (by go_simp) (made_term (mself W))
        · intro r W hc hf hs hd hB
          have hBV := HBV.out W hB
          refine want_n rfl ?_
          obtain ⟨A188, e188, k188⟩ : TIn W (tSelf) (r (.tmp 188)) := hd 188 (by kernel_rfl)
          exact st_value (v := NB.val ⟨tSelf, A188, 0⟩) rfl (by decide) (run_nb ⟨tSelf, A188, 0⟩ rfl e188 (hc _)) ⟨A188, rfl, k188⟩
        · intro r W hc hf hs hd hB
          have hBV := HBV.out W hB
          refine want_n rfl ?_

          exact st_call (f := 47) (args := #[.int .i64 0]) rfl (by decide) (by go_simp) (made_term (mnum 0 W))
        · intro r W hc hf hs hd hB
          have hBV := HBV.out W hB
          refine want_n rfl ?_
          obtain ⟨A190, e190, k190⟩ : TIn W (tNum 0) (r (.tmp 190)) := hd 190 (by kernel_rfl)
          obtain ⟨w2, hw2, m2, s2, hc2, _⟩ := row1_new W (tNum 0) A190
          exact st_new (v := .slice (some ⟨W.heap.size, 0, none⟩) 1 1) (w' := w2) rfl (by decide) (run_row1 rfl e190 hw2) m2 ⟨_, _, _, rfl, rfl, by simp, trow_cons hc2 (k190.below m2) trow_nil⟩
        · intro r W hc hf hs hd hB
          have hBV := HBV.out W hB
          refine want_n rfl ?_
          obtain ⟨a191, n191, c191, e191, hn191, hl191, k191⟩ : TQ.ok (.row [tNum 0]) (r (.tmp 191)) W := hd 191 (by kernel_rfl)
          subst hn191
          exact st_call (f := 48) (args := #[.int .u8 11, .slice a191 ([tNum 0] : List TT).length c191]) rfl (by decide) (by go_simp) (made_term (mof 11 [tNum 0] a191 c191 W (by simp) k191))
        · intro r W hc hf hs hd hB
          have hBV := HBV.out W hB
          refine want_n rfl ?_
          obtain ⟨A192, e192, k192⟩ : TIn W (tOf 11 [tNum 0]) (r (.tmp 192)) := hd 192 (by kernel_rfl)
          exact st_value (v := NB.val ⟨tOf 11 [tNum 0], A192, 5⟩) rfl (by decide) (run_nb ⟨tOf 11 [tNum 0], A192, 5⟩ rfl e192 (hc _)) ⟨A192, rfl, k192⟩
        · intro r W hc hf hs hd hB
          have hBV := HBV.out W hB
          refine want_n rfl ?_

          exact st_value (v := TT.val (TT.mk 11 vNone [] 1 0 [] pNone []) ⟨none, 0, none, 0, none, 0, none, 0, none, 0, none, 0⟩) rfl (by decide) (run_built rfl _ (by
            have e : (Array.map (fun (x : Nat × Operand) => (x.1, r x.2)) #[(0, .const (.int .u8 11)), (3, .const (.int .i64 1))]).toList = ([(0, .int .u8 11), (3, .int .i64 1)] : List (Nat × Value)) := by simp [hc]
            exact (congrArg (Program.built Try.prog 47) e).trans (by kernel_rfl))) ⟨_, rfl, TOk.of ⟨⟨by decide, by decide, by decide⟩, vin_plain W _ _, vrow_nil, wrow_nil, pin_none W, trow_nil⟩⟩
        · intro r W hc hf hs hd hB
          have hBV := HBV.out W hB
          refine want_n rfl ?_
          obtain ⟨A194, e194, k194⟩ : TIn W (TT.mk 11 vNone [] 1 0 [] pNone []) (r (.tmp 194)) := hd 194 (by kernel_rfl)
          exact st_value (v := NB.val ⟨TT.mk 11 vNone [] 1 0 [] pNone [], A194, 3⟩) rfl (by decide) (run_nb ⟨TT.mk 11 vNone [] 1 0 [] pNone [], A194, 3⟩ rfl e194 (hc _)) ⟨A194, rfl, k194⟩
        · intro r W hc hf hs hd hB
          have hBV := HBV.out W hB
          refine want_n rfl ?_
          obtain ⟨A21, e21, k21⟩ : NbOk (TT.mk 0 vNone [] 0 0 [] pNone []) 11 (r (.tmp 21)) W := hd 21 (by kernel_rfl)
          obtain ⟨A23, e23, k23⟩ : NbOk (TT.mk 12 vNone [] 0 0 [] pNone []) 11 (r (.tmp 23)) W := hd 23 (by kernel_rfl)
          obtain ⟨A25, e25, k25⟩ : NbOk (tNum 5) 0 (r (.tmp 25)) W := hd 25 (by kernel_rfl)
          obtain ⟨A27, e27, k27⟩ : NbOk (TT.mk 1 vNone [] 0 0 [] pNone []) 11 (r (.tmp 27)) W := hd 27 (by kernel_rfl)
          obtain ⟨A30, e30, k30⟩ : NbOk (TT.mk 1 vBad [] 0 0 [] pNone []) 1 (r (.tmp 30)) W := hd 30 (by kernel_rfl)
          obtain ⟨A35, e35, k35⟩ : NbOk (TT.mk 1 vFive [vFive] 0 0 [] pNone []) 3 (r (.tmp 35)) W := hd 35 (by kernel_rfl)
          obtain ⟨A39, e39, k39⟩ : NbOk (TT.mk 1 vFive [] 0 0 [] pYes []) 3 (r (.tmp 39)) W := hd 39 (by kernel_rfl)
          obtain ⟨A43, e43, k43⟩ : NbOk (TT.mk 1 vFive [] 0 0 [1] pNone []) 3 (r (.tmp 43)) W := hd 43 (by kernel_rfl)
          obtain ⟨A46, e46, k46⟩ : NbOk (TT.mk 1 vFive [] 0 1 [] pNone []) 3 (r (.tmp 46)) W := hd 46 (by kernel_rfl)
          obtain ⟨A51, e51, k51⟩ : NbOk (TT.mk 1 vFive [] 0 0 [] pNone (nums0 1)) 5 (r (.tmp 51)) W := hd 51 (by kernel_rfl)
          obtain ⟨A54, e54, k54⟩ : NbOk (TT.mk 2 vFive [] 0 0 [] pNone []) 3 (r (.tmp 54)) W := hd 54 (by kernel_rfl)
          obtain ⟨A56, e56, k56⟩ : NbOk (tSpan 1 6) 0 (r (.tmp 56)) W := hd 56 (by kernel_rfl)
          obtain ⟨A58, e58, k58⟩ : NbOk (tSpan 6 6) 0 (r (.tmp 58)) W := hd 58 (by kernel_rfl)
          obtain ⟨A60, e60, k60⟩ : NbOk (tSpan 7 6) 1 (r (.tmp 60)) W := hd 60 (by kernel_rfl)
          obtain ⟨A62, e62, k62⟩ : NbOk (tSpan (-1099511627776) 1099511627776) 0 (r (.tmp 62)) W := hd 62 (by kernel_rfl)
          obtain ⟨A64, e64, k64⟩ : NbOk (tSpan 0 1099511627777) 1 (r (.tmp 64)) W := hd 64 (by kernel_rfl)
          obtain ⟨A66, e66, k66⟩ : NbOk (tSpan (-1099511627777) 0) 1 (r (.tmp 66)) W := hd 66 (by kernel_rfl)
          obtain ⟨A68, e68, k68⟩ : NbOk (TT.mk 3 vNone [] 0 0 [] pNone []) 4 (r (.tmp 68)) W := hd 68 (by kernel_rfl)
          obtain ⟨A71, e71, k71⟩ : NbOk (TT.mk 3 vNone [] 0 0 [0] pNone []) 7 (r (.tmp 71)) W := hd 71 (by kernel_rfl)
          obtain ⟨A74, e74, k74⟩ : NbOk (TT.mk 3 vNone [] 0 0 [1, (-1)] pNone []) 1 (r (.tmp 74)) W := hd 74 (by kernel_rfl)
          obtain ⟨A79, e79, k79⟩ : NbOk (TT.mk 3 vNone [] 0 0 [1, 2] pNone (nums0 1)) 4 (r (.tmp 79)) W := hd 79 (by kernel_rfl)
          obtain ⟨A84, e84, k84⟩ : NbOk (TT.mk 3 vNone [] 0 0 [1, 0] pNone (nums0 2)) 0 (r (.tmp 84)) W := hd 84 (by kernel_rfl)
          obtain ⟨A89, e89, k89⟩ : NbOk (TT.mk 3 vNone [] 0 0 [1] pNone (nums0 2)) 5 (r (.tmp 89)) W := hd 89 (by kernel_rfl)
          obtain ⟨A94, e94, k94⟩ : NbOk (TT.mk 4 vNone [vFive] 0 0 [1, 2] pNone []) 4 (r (.tmp 94)) W := hd 94 (by kernel_rfl)
          obtain ⟨A100, e100, k100⟩ : NbOk (TT.mk 4 vNone [vFive, vFive] 0 0 [1] pNone []) 5 (r (.tmp 100)) W := hd 100 (by kernel_rfl)
          obtain ⟨A105, e105, k105⟩ : NbOk (TT.mk 4 vNone [vBad] 0 0 [1] pNone []) 1 (r (.tmp 105)) W := hd 105 (by kernel_rfl)
          obtain ⟨A110, e110, k110⟩ : NbOk (TT.mk 4 vNone [vFive] 0 0 [1] pNone []) 0 (r (.tmp 110)) W := hd 110 (by kernel_rfl)
          obtain ⟨A115, e115, k115⟩ : NbOk (TT.mk 4 vNone [vFive] 1 0 [1] pNone []) 3 (r (.tmp 115)) W := hd 115 (by kernel_rfl)
          obtain ⟨A117, e117, k117⟩ : NbOk (tOf 5 []) 0 (r (.tmp 117)) W := hd 117 (by kernel_rfl)
          obtain ⟨A120, e120, k120⟩ : NbOk (tOf 5 (nums0 65)) 5 (r (.tmp 120)) W := hd 120 (by kernel_rfl)
          obtain ⟨A124, e124, k124⟩ : NbOk (tOf 7 (nums0 64)) 0 (r (.tmp 124)) W := hd 124 (by kernel_rfl)
          obtain ⟨A127, e127, k127⟩ : NbOk (tList 0 16 (tNum 1)) 0 (r (.tmp 127)) W := hd 127 (by kernel_rfl)
          obtain ⟨A130, e130, k130⟩ : NbOk (tList 0 17 (tNum 1)) 1 (r (.tmp 130)) W := hd 130 (by kernel_rfl)
          obtain ⟨A133, e133, k133⟩ : NbOk (tList 2 1 (tNum 1)) 1 (r (.tmp 133)) W := hd 133 (by kernel_rfl)
          obtain ⟨A136, e136, k136⟩ : NbOk (tList (-1) 1 (tNum 1)) 1 (r (.tmp 136)) W := hd 136 (by kernel_rfl)
          obtain ⟨A138, e138, k138⟩ : NbOk (tOf 6 []) 4 (r (.tmp 138)) W := hd 138 (by kernel_rfl)
          obtain ⟨A142, e142, k142⟩ : NbOk (TT.mk 8 vNone [] 2 0 [] pNone (nums0 2)) 0 (r (.tmp 142)) W := hd 142 (by kernel_rfl)
          obtain ⟨A146, e146, k146⟩ : NbOk (TT.mk 8 vNone [] 3 0 [] pNone (nums0 2)) 1 (r (.tmp 146)) W := hd 146 (by kernel_rfl)
          obtain ⟨A150, e150, k150⟩ : NbOk (TT.mk 8 vNone [] 0 1 [] pNone (nums0 2)) 3 (r (.tmp 150)) W := hd 150 (by kernel_rfl)
          obtain ⟨A154, e154, k154⟩ : NbOk (TT.mk 9 vNone [] 0 0 [] pNone (nums0 1)) 11 (r (.tmp 154)) W := hd 154 (by kernel_rfl)
          obtain ⟨A157, e157, k157⟩ : NbOk (TT.mk 9 vNone [] 0 0 [] pYes []) 4 (r (.tmp 157)) W := hd 157 (by kernel_rfl)
          obtain ⟨A162, e162, k162⟩ : NbOk (TT.mk 9 vNone [] 0 0 [] pYes (nums0 2)) 5 (r (.tmp 162)) W := hd 162 (by kernel_rfl)
          obtain ⟨A167, e167, k167⟩ : NbOk (TT.mk 9 vNone [] 0 0 [] pYes (nums0 1)) 0 (r (.tmp 167)) W := hd 167 (by kernel_rfl)
          obtain ⟨A171, e171, k171⟩ : NbOk (tSized 8 (tNum 0) (tNum 1)) 0 (r (.tmp 171)) W := hd 171 (by kernel_rfl)
          obtain ⟨A175, e175, k175⟩ : NbOk (tSized 9 (tNum 0) (tNum 1)) 1 (r (.tmp 175)) W := hd 175 (by kernel_rfl)
          obtain ⟨A179, e179, k179⟩ : NbOk (tSized (-1) (tNum 0) (tNum 1)) 1 (r (.tmp 179)) W := hd 179 (by kernel_rfl)
          obtain ⟨A183, e183, k183⟩ : NbOk (tOf 10 [tNum 0]) 4 (r (.tmp 183)) W := hd 183 (by kernel_rfl)
          obtain ⟨A187, e187, k187⟩ : NbOk (TT.mk 10 vNone [] 0 2 [] pNone (nums0 2)) 3 (r (.tmp 187)) W := hd 187 (by kernel_rfl)
          obtain ⟨A189, e189, k189⟩ : NbOk (tSelf) 0 (r (.tmp 189)) W := hd 189 (by kernel_rfl)
          obtain ⟨A193, e193, k193⟩ : NbOk (tOf 11 [tNum 0]) 5 (r (.tmp 193)) W := hd 193 (by kernel_rfl)
          obtain ⟨A195, e195, k195⟩ : NbOk (TT.mk 11 vNone [] 1 0 [] pNone []) 3 (r (.tmp 195)) W := hd 195 (by kernel_rfl)
          obtain ⟨w2, hrun, hb, hok⟩ := run_ntab (w := W) (r := r) (n := 51) (parts := #[(0, .tmp 21), (1, .tmp 23), (2, .tmp 25), (3, .tmp 27), (4, .tmp 30), (5, .tmp 35), (6, .tmp 39), (7, .tmp 43), (8, .tmp 46), (9, .tmp 51), (10, .tmp 54), (11, .tmp 56), (12, .tmp 58), (13, .tmp 60), (14, .tmp 62), (15, .tmp 64), (16, .tmp 66), (17, .tmp 68), (18, .tmp 71), (19, .tmp 74), (20, .tmp 79), (21, .tmp 84), (22, .tmp 89), (23, .tmp 94), (24, .tmp 100), (25, .tmp 105), (26, .tmp 110), (27, .tmp 115), (28, .tmp 117), (29, .tmp 120), (30, .tmp 124), (31, .tmp 127), (32, .tmp 130), (33, .tmp 133), (34, .tmp 136), (35, .tmp 138), (36, .tmp 142), (37, .tmp 146), (38, .tmp 150), (39, .tmp 154), (40, .tmp 157), (41, .tmp 162), (42, .tmp 167), (43, .tmp 171), (44, .tmp 175), (45, .tmp 179), (46, .tmp 183), (47, .tmp 187), (48, .tmp 189), (49, .tmp 193), (50, .tmp 195)]) singlesL [A21, A23, A25, A27, A30, A35, A39, A43, A46, A51, A54, A56, A58, A60, A62, A64, A66, A68, A71, A74, A79, A84, A89, A94, A100, A105, A110, A115, A117, A120, A124, A127, A130, A133, A136, A138, A142, A146, A150, A154, A157, A162, A167, A171, A175, A179, A183, A187, A189, A193, A195] rfl rfl (by decide) (by decide) (by simp only [List.map_toArray, List.map_cons, List.map_nil, e21, e23, e25, e27, e30, e35, e39, e43, e46, e51, e54, e56, e58, e60, e62, e64, e66, e68, e71, e74, e79, e84, e89, e94, e100, e105, e110, e115, e117, e120, e124, e127, e130, e133, e136, e138, e142, e146, e150, e154, e157, e162, e167, e171, e175, e179, e183, e187, e189, e193, e195]; rfl) (by simp only [singlesL, List.zip_cons_cons, List.zip_nil_right, List.forall_mem_cons]; exact ⟨k21, k23, k25, k27, k30, k35, k39, k43, k46, k51, k54, k56, k58, k60, k62, k64, k66, k68, k71, k74, k79, k84, k89, k94, k100, k105, k110, k115, k117, k120, k124, k127, k130, k133, k136, k138, k142, k146, k150, k154, k157, k162, k167, k171, k175, k179, k183, k187, k189, k193, k195, fun _ h => by cases h⟩)
          exact st_new (v := .slice (some ⟨W.heap.size, 0, none⟩) 51 51) (w' := w2) rfl (by decide) (hrun _ rfl) hb hok
        · intro r W hc hf hs hd hB
          have hBV := HBV.out W hB
          refine want_n rfl ?_
          have h : NTabOk singlesL (r (.tmp 196)) W := hd 196 (by kernel_rfl)
          exact st_value (v := r (.tmp 196)) rfl (by decide) (by go_simp) h
      intro f wZ hfd hB'
      have z0 : NTabOk singlesL (f 0) wZ := hfd 0 (of_decide_eq_true (by kernel_rfl))
      have hbZ := HBV.out wZ hB'
      rw [show dstsTo _ _ = [20, 21, 22, 23, 24, 25, 26, 27, 28, 29, 30, 31, 32, 33, 34, 35, 36, 37, 38, 39, 40, 41, 42, 43, 44, 45, 46, 47, 48, 49, 50, 51, 52, 53, 54, 55, 56, 57, 58, 59, 60, 61, 62, 63, 64, 65, 66, 67, 68, 69, 70, 71, 72, 73, 74, 75, 76, 77, 78, 79, 80, 81, 82, 83, 84, 85, 86, 87, 88, 89, 90, 91, 92, 93, 94, 95, 96, 97, 98, 99, 100, 101, 102, 103, 104, 105, 106, 107, 108, 109, 110, 111, 112, 113, 114, 115, 116, 117, 118, 119, 120, 121, 122, 123, 124, 125, 126, 127, 128, 129, 130, 131, 132, 133, 134, 135, 136, 137, 138, 139, 140, 141, 142, 143, 144, 145, 146, 147, 148, 149, 150, 151, 152, 153, 154, 155, 156, 157, 158, 159, 160, 161, 162, 163, 164, 165, 166, 167, 168, 169, 170, 171, 172, 173, 174, 175, 176, 177, 178, 179, 180, 181, 182, 183, 184, 185, 186, 187, 188, 189, 190, 191, 192, 193, 194, 195, 196, 0] from by kernel_rfl]
      obtain ⟨v, hv⟩ : ∃ v, v = f 0 := ⟨_, rfl⟩
      rw [← hv] at z0
      simp only [fill, List.setIfInBounds_toArray, List.set_cons_succ, List.set_cons_zero, ← hv]
      clear hfd hB' hv
      go_wp2_with fail
      go_ret
      exact ⟨v, rfl, z0, HBR.out.trans (hbZ.mono HBR.out.size)⟩
end Go.Proofs.Yteebbffecaeciaa
