/- val.copies, val.Copy. -/
import Derived.Test.YtclmnpfdnhfbmaaVWalkA
import Derived.Test.YtclmnpfdnhfbmaaVFresh
namespace Go.Proofs.Ytclmnpfdnhfbmaa
open Go.RowKit

theorem zeroV : (Try.prog.info? 24).map (fun i => (i.zero, i.size, i.bytes)) = some (some (.agg #[.int .u8 0, .int .i64 0, .slice none 0 0]), 3, 40) := by kernel_rfl
def zeroCells (n : Nat) : Array Value := madeCells (Value.agg #[.int .u8 0, .int .i64 0, .slice none 0 0]).cells (n * 3)
theorem zeroCells_size (n : Nat) : (zeroCells n).size = n * 3 := size_madeCells _ _
theorem make_vals (n : Nat) (h : n ≤ 3518437208780) (w : World) : (Instr.makeSlice 22 (.int .i64 n) (.int .i64 n)).run Try.prog w = .ok (.slice (some ⟨w.heap.size, 0, none⟩) n n) (w.alloc (.cells (zeroCells n) 24)) := by
  obtain ⟨i0, hi, hz0, hz1, hz2⟩ := info_parts zeroV
  have := run_make (P := Try.prog) w 22 24 i0 _ Try.underlying22 hi hz0 .i64 .i64 n n (by omega) (by omega) (by rw [hz2]; omega) (by omega)
  rw [hz1] at this
  exact this

/-- what 'Copy' hands back of t. -/
def CopyOf (t : VT) (w : World) (e : Ending) (w' : World) : Prop := ∃ v', e = .returned v' ∧ FIn w' w.heap.size t v' ∧ Below w.heap.size w w'
/-- what 'copies' hands back of l. -/
def CopiesOf (l : List VT) (w : World) (e : Ending) (w' : World) : Prop :=
  ∃ a' cap', e = .returned (.slice a' l.length cap') ∧ (l = [] ∨ ∃ b, a' = some ⟨b, 0, none⟩ ∧ w.heap.size ≤ b ∧ FRow w' w.heap.size l b 0) ∧ Below w.heap.size w w'

theorem take_get {α : Type} {l : List α} {i j : Nat} (h : j < (l.take i).length) : (l.take i)[j] = l[j]'(by rw [List.length_take] at h; omega) := List.getElem_take

/-- one more item stands. -/
theorem copies_step {l : List VT} {i B : Nat} {wr w2 : World} {k n : Int} {a' : Option Addr} {len cap' : Nat} (hi : i < l.length) (hrow : RowAt wr 24 B (l.length * 3)) (hr : FRow wr (B + 1) (l.take i) B 0)
    (hb : Below wr.heap.size wr w2) (hv : FIn w2 (wr.heap.size) l[i] (.agg #[.int .u8 k, .int .i64 n, .slice a' len cap'])) :
    FRow (((w2.setCell ⟨B, i * 3, none⟩ (.int .u8 k)).setCell ⟨B, i * 3 + 1, none⟩ (.int .i64 n)).setCell ⟨B, i * 3 + 2, none⟩ (.slice a' len cap')) (B + 1) (l.take (i + 1)) B 0 := by
  have hlt := hrow.lt
  have hrow2 := hrow.below hlt hb
  obtain ⟨u0, q0⟩ := hrow2.cell (i * 3) (by omega)
  obtain ⟨u1, q1⟩ := hrow2.cell (i * 3 + 1) (by omega)
  obtain ⟨u2, q2⟩ := hrow2.cell (i * 3 + 2) (by omega)
  have hl : (l.take (i + 1)).length = i + 1 := by rw [List.length_take]; omega
  refine FRow.of B _ 0 fun j hj => ?_
  have hj' : j < i + 1 := by omega
  rw [take_get hj, Nat.zero_add]
  have fz : ∀ o, ((((w2.setCell ⟨B, i * 3, none⟩ (.int .u8 k)).setCell ⟨B, i * 3 + 1, none⟩ (.int .i64 n)).setCell ⟨B, i * 3 + 2, none⟩ (.slice a' len cap'))).frozen? ⟨B, o, none⟩ = false := fun o => by
    rw [World.frozen?_setCell, World.frozen?_setCell, World.frozen?_setCell]; exact hrow2.frozen o
  by_cases e : j = i
  · subst e
    refine ⟨.int .u8 k, .int .i64 n, .slice a' len cap', ?_, ?_, ?_, fz _, fz _, fz _, ?_⟩
    · rw [cell_set_off (by omega), cell_set_off (by omega)]
      exact World.cell?_setCell_same' _ _ _ (by rw [q0]; rfl)
    · rw [cell_set_off (by omega)]
      exact World.cell?_setCell_same' _ _ _ (by rw [cell_set_off (by omega), q1]; rfl)
    · exact World.cell?_setCell_same' _ _ _ (by rw [cell_set_off (by omega), cell_set_off (by omega), q2]; rfl)
    · exact (((hv.set (p := ⟨B, j * 3, none⟩) hlt _).set (p := ⟨B, j * 3 + 1, none⟩) hlt _).set (p := ⟨B, j * 3 + 2, none⟩) hlt _).less hlt
  · obtain ⟨v0, v1, v2, h0, h1, h2, _, _, _, ht⟩ := hr.get j (by rw [List.length_take]; omega)
    rw [Nat.zero_add] at h0 h1 h2
    rw [take_get (by rw [List.length_take]; omega)] at ht
    have put : ∀ o v, o ≠ i * 3 → o ≠ i * 3 + 1 → o ≠ i * 3 + 2 → wr.cell? ⟨B, o, none⟩ = some v → ((((w2.setCell ⟨B, i * 3, none⟩ (.int .u8 k)).setCell ⟨B, i * 3 + 1, none⟩ (.int .i64 n)).setCell ⟨B, i * 3 + 2, none⟩ (.slice a' len cap'))).cell? ⟨B, o, none⟩ = some v := fun o v e0 e1 e2 hc => by
      rw [cell_set_off (Ne.symm e2), cell_set_off (Ne.symm e1), cell_set_off (Ne.symm e0)]; exact cell_stays hb hc
    refine ⟨v0, v1, v2, put _ _ (by omega) (by omega) (by omega) h0, put _ _ (by omega) (by omega) (by omega) h1, put _ _ (by omega) (by omega) (by omega) h2, fz _, fz _, fz _, ?_⟩
    exact (((ht.below hb).set (p := ⟨B, i * 3, none⟩) (Nat.lt_succ_self _) _).set (p := ⟨B, i * 3 + 1, none⟩) (Nat.lt_succ_self _) _).set (p := ⟨B, i * 3 + 2, none⟩) (Nat.lt_succ_self _) _

set_option maxRecDepth 100000 in
set_option maxHeartbeats 2000000 in
theorem copies_of (l : List VT) (a : Option Addr) (cap : Nat) (w : World) (hl : l.length ≤ 3518437208780) (hr : VRow w l a)
    (hC : ∀ (i : Nat) (hi : i < l.length) (v : Value) (W : World), VIn W l[i] v → Calls Try.prog 57 #[v] W (CopyOf l[i] W)) :
    Calls Try.prog 72 #[.slice a l.length cap] w (CopiesOf l w) := by
  have HC := Lib.hid hC; clear hC
  by_cases h0 : l = []
  · subst h0
    go_enter Try.func72, Try.ntmps72
    go_wp2_with fail
    go_ret
    exact ⟨none, 0, rfl, .inl rfl, Below.refl _ _⟩
  · have hpos : 0 < l.length := List.length_pos_iff.2 h0
    have hb : ((l.length : Int) == 0) = false := by simp; omega
    have hmk := make_vals l.length hl
    go_enter Try.func72, Try.ntmps72
    go_wp2_with fail
    clear hmk
    go_loopw [14] (fun x wr => ∃ i : Nat, x = .int .i64 i ∧ i ≤ l.length ∧ RowAt wr 24 w.heap.size (l.length * 3) ∧ FRow wr (w.heap.size + 1) (l.take i) w.heap.size 0 ∧ Below w.heap.size w wr) (fun x _ => l.length - (intOf x).toNat)
    case atStart => exact ⟨0, rfl, by omega, by have := RowAt.new w (zeroCells l.length) 24; rwa [zeroCells_size] at this, by rw [List.take_zero, FRow]; trivial, (Below.refl _ _).alloc (Nat.le_refl _) _⟩
    case round =>
      obtain ⟨i, rfl, hi, hrow, hfr, hbl⟩ := hrel
      have hsz := hrow.lt
      by_cases hlt : i < l.length
      · obtain ⟨b, o, rfl, ax, cx, d0, d1, d2, hv⟩ := (hr.below hbl).got i hlt
        go_wp2_with fail
        refine (HC.out i hlt _ _ (hv.below ((Below.refl _ _).alloc (Nat.le_refl _) _))).mono ?_
        rintro e w2 ⟨v', rfl, hf, hb2⟩
        have hbw : Below wr.heap.size wr w2 := ((Below.refl _ wr).alloc (Nat.le_refl _) _).trans (hb2.mono (by simp))
        have hrow2 := hrow.below hsz hbw
        obtain ⟨u0, q0⟩ := hrow2.cell (i * 3) (by omega)
        obtain ⟨u1, q1⟩ := hrow2.cell (i * 3 + 1) (by omega)
        obtain ⟨u2, q2⟩ := hrow2.cell (i * 3 + 2) (by omega)
        have g0 := hrow2.frozen (i * 3)
        have g1 := hrow2.frozen (i * 3 + 1)
        have g2 := hrow2.frozen (i * 3 + 2)
        generalize hti : l[i] = ti at hf
        obtain ⟨k, n, its⟩ := ti
        obtain ⟨a', cap', hl', rfl, hrest⟩ := hf.open
        have HF := Lib.hid hf
        have HTI := Lib.hid hti
        clear hf hti hrest
        go_wp2_with fail
        have hstep := copies_step hlt hrow hfr hbw (by rw [HTI.out]; exact HF.out.less (by simp))
        exact ⟨⟨i + 1, by go_num, by omega, ((hrow2.set _ _ rfl).set _ _ rfl).set _ _ rfl, hstep, (((hbl.trans (hbw.mono (Nat.le_of_lt hsz))).setCell (Nat.le_refl _) _).setCell (Nat.le_refl _) _).setCell (Nat.le_refl _) _⟩, by simp [intOf]; omega⟩
      · go_wp2_with fail
        go_ret
        exact ⟨some ⟨w.heap.size, 0, none⟩, l.length, rfl, .inr ⟨w.heap.size, rfl, Nat.le_refl _, by rw [List.take_of_length_le (by omega)] at hfr; exact FRow.less (Nat.le_succ _) _ _ _ hfr⟩, hbl⟩

set_option maxRecDepth 100000 in
set_option maxHeartbeats 1000000 in
theorem copy_any (N : Nat) : ∀ (t : VT) (v : Value) (w : World), t.size ≤ N → VIn w t v → Calls Try.prog 57 #[v] w (CopyOf t w) := by
  induction N with
  | zero => intro t v w h; have := VT.size_pos t; omega
  | succ N ih =>
    intro t v w hN hv
    obtain ⟨k, n, its⟩ := t
    obtain ⟨a, cap, hlen, rfl, hr⟩ := hv.open
    rw [VT.size] at hN
    have IH := Lib.hid ih; clear ih hv
    go_enter Try.func57, Try.ntmps57
    go_wp2_with fail
    refine (copies_of its a cap _ hlen (hr.below (((Below.refl _ w).alloc (Nat.le_refl _) _).alloc (by simp) _)) (fun i hi v W hvi => IH.out _ v W (by have := VT.sizes_get hi; omega) hvi)).mono ?_
    rintro e w1 ⟨a', cap', rfl, hf, hb1⟩
    have HF := Lib.hid hf; clear hf
    have hsz := hb1.size
    simp only [World.size_alloc] at hsz
    have c0 : w1.cell? ⟨w.heap.size, 0, none⟩ = some (.int .u8 k) := cell_stay hb1 (by simp; omega) (by go_simp)
    have c1 : w1.cell? ⟨w.heap.size, 1, none⟩ = some (.int .i64 n) := cell_stay hb1 (by simp; omega) (by go_simp)
    have c2 : w1.cell? ⟨w.heap.size, 2, none⟩ = some (.slice a its.length cap) := cell_stay hb1 (by simp; omega) (by go_simp)
    have f2 : w1.frozen? ⟨w.heap.size, 2, none⟩ = false := frozen_stay hb1 (by simp; omega) (by go_simp)
    have e0 : w1.cell? ⟨w.heap.size + 1, 0, none⟩ = some (.int .u8 0) := cell_stay hb1 (by simp) (by go_simp)
    have e1 : w1.cell? ⟨w.heap.size + 1, 1, none⟩ = some (.int .i64 0) := cell_stay hb1 (by simp) (by go_simp)
    have e2 : w1.cell? ⟨w.heap.size + 1, 2, none⟩ = some (.slice none 0 0) := cell_stay hb1 (by simp) (by go_simp)
    have g0 : w1.frozen? ⟨w.heap.size + 1, 0, none⟩ = false := frozen_stay hb1 (by simp) (by go_simp)
    have g1 : w1.frozen? ⟨w.heap.size + 1, 1, none⟩ = false := frozen_stay hb1 (by simp) (by go_simp)
    have g2 : w1.frozen? ⟨w.heap.size + 1, 2, none⟩ = false := frozen_stay hb1 (by simp) (by go_simp)
    have hbw : Below w.heap.size w w1 := (((Below.refl _ w).alloc (Nat.le_refl _) _).alloc (by simp) _).trans (hb1.mono (by simp; omega))
    go_wp2_with fail
    have q0 := set_same (v := .int .u8 k) (set_blk (o' := 2) (v := .slice a' its.length cap') e0 (show w.heap.size ≠ w.heap.size + 1 by omega))
    have q1 := set_same (v := .int .i64 n) (set_off (o' := 0) (v := .int .u8 k) (set_blk (o' := 2) (v := .slice a' its.length cap') e1 (show w.heap.size ≠ w.heap.size + 1 by omega)) (by omega))
    have q2 := set_same (v := .slice a' its.length cap') (set_off (o' := 1) (v := .int .i64 n) (set_off (o' := 0) (v := .int .u8 k) (set_blk (o' := 2) (v := .slice a' its.length cap') e2 (show w.heap.size ≠ w.heap.size + 1 by omega)) (by omega)) (by omega))
    refine bodyPost_ret (v := .agg #[.int .u8 k, .int .i64 n, .slice a' its.length cap']) ?_ rfl ⟨_, rfl, ?_, ?_⟩
    · simp [results, Try.results57, go_sem, q0, q1, q2]
    · rw [FIn]
      refine ⟨a', cap', hlen, rfl, HF.out.imp id ?_⟩
      rintro ⟨b, hb, hlo, hfr⟩
      simp only [World.size_alloc] at hlo hfr
      refine ⟨b, hb, by omega, ?_⟩
      refine FRow.mono (lo := w.heap.size + 1 + 1) (by omega) (fun b' o v hb' hc => ?_) (fun b' o v hb' hc hf => ?_) its b 0 hlo hfr
      · rw [cell_set_other (by simp; omega), cell_set_other (by simp; omega), cell_set_other (by simp; omega), cell_set_other (by simp; omega)]; exact hc
      · rw [World.frozen?_setCell, World.frozen?_setCell, World.frozen?_setCell, World.frozen?_setCell]; exact hf
    · exact (((hbw.setCell (by simp) _).setCell (by simp) _).setCell (by simp) _).setCell (by simp) _
end Go.Proofs.Ytclmnpfdnhfbmaa
