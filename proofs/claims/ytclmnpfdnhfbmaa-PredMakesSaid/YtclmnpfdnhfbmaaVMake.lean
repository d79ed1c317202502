/- val.Num, Bool, Tuple, List. -/
import Derived.Test.YtclmnpfdnhfbmaaVCopy
namespace Go.Proofs.Ytclmnpfdnhfbmaa
open Go.RowKit

theorem copies_any (l : List VT) (a : Option Addr) (cap : Nat) (w : World) (hl : l.length ≤ 3518437208780) (hr : VRow w l a) : Calls Try.prog 72 #[.slice a l.length cap] w (CopiesOf l w) :=
  copies_of l a cap w hl hr (fun _ _ v W hv => copy_any _ _ v W (Nat.le_refl _) hv)

set_option maxHeartbeats 1000000 in
theorem num_any (n : Int) (w : World) : Calls Try.prog 36 #[.int .i64 n] w fun e w' => e = .returned (.agg #[.int .u8 1, .int .i64 n, .slice none 0 0]) ∧ Below w.heap.size w w' := by
  go_enter Try.func36, Try.ntmps36
  go_wp2_with fail
  refine bodyPost_ret (v := .agg #[.int .u8 1, .int .i64 n, .slice none 0 0]) (by simp [results, Try.results36, go_sem]) rfl ⟨rfl, ?_⟩
  exact (Below.refl _ _).alloc (Nat.le_refl _) _
def boolI (b : Bool) : Int := if b then 1 else 0
set_option maxHeartbeats 1000000 in
theorem bool_any (b : Bool) (w : World) : Calls Try.prog 49 #[.bool b] w fun e w' => e = .returned (.agg #[.int .u8 2, .int .i64 (boolI b), .slice none 0 0]) ∧ Below w.heap.size w w' := by
  cases b
  · go_enter Try.func49, Try.ntmps49
    go_wp2_with fail
    refine bodyPost_ret (v := .agg #[.int .u8 2, .int .i64 0, .slice none 0 0]) (by simp [results, Try.results49, go_sem]) rfl ⟨rfl, ?_⟩
    exact ((Below.refl _ _).alloc (Nat.le_refl _) _).alloc (by simp) _
  · go_enter Try.func49, Try.ntmps49
    go_wp2_with fail
    refine bodyPost_ret (v := .agg #[.int .u8 2, .int .i64 1, .slice none 0 0]) (by simp [results, Try.results49, go_sem]) rfl ⟨rfl, ?_⟩
    exact ((Below.refl _ _).alloc (Nat.le_refl _) _).alloc (by simp) _
/-- what Tuple, List hand back. -/
def MadeOf (t : VT) (w : World) (e : Ending) (w' : World) : Prop := ∃ v', e = .returned v' ∧ FIn w' w.heap.size t v' ∧ Below w.heap.size w w'
theorem fin_of_copies {k n : Int} {l : List VT} {w w' : World} {B : Nat} {a' : Option Addr} {cap' : Nat} (hl : l.length ≤ 3518437208780) (hB : w.heap.size ≤ B) (h : l = [] ∨ ∃ b, a' = some ⟨b, 0, none⟩ ∧ B ≤ b ∧ FRow w' B l b 0) :
    FIn w' w.heap.size (.mk k n l) (.agg #[.int .u8 k, .int .i64 n, .slice a' l.length cap']) := by
  rw [FIn]
  refine ⟨a', cap', hl, rfl, h.imp id ?_⟩
  rintro ⟨b, hb, hlo, hf⟩
  exact ⟨b, hb, by omega, FRow.less hB _ _ _ hf⟩
set_option maxHeartbeats 1000000 in
theorem tuple_any (l : List VT) (a : Option Addr) (cap : Nat) (w : World) (hl : l.length ≤ 3518437208780) (hr : VRow w l a) : Calls Try.prog 50 #[.slice a l.length cap] w (MadeOf (.mk 3 0 l) w) := by
  go_enter Try.func50, Try.ntmps50
  go_wp2_with fail
  refine (copies_any l a cap _ hl (hr.below ((Below.refl _ w).alloc (Nat.le_refl _) _))).mono ?_
  rintro e w1 ⟨a', cap', rfl, hf, hb1⟩
  have HF := Lib.hid hf; clear hf
  have hsz := hb1.size
  simp only [World.size_alloc] at hsz
  have e0 : w1.cell? ⟨w.heap.size, 0, none⟩ = some (.int .u8 0) := cell_stay hb1 (by simp) (by go_simp)
  have e1 : w1.cell? ⟨w.heap.size, 1, none⟩ = some (.int .i64 0) := cell_stay hb1 (by simp) (by go_simp)
  have e2 : w1.cell? ⟨w.heap.size, 2, none⟩ = some (.slice none 0 0) := cell_stay hb1 (by simp) (by go_simp)
  have g0 : w1.frozen? ⟨w.heap.size, 0, none⟩ = false := frozen_stay hb1 (by simp) (by go_simp)
  have g1 : w1.frozen? ⟨w.heap.size, 1, none⟩ = false := frozen_stay hb1 (by simp) (by go_simp)
  have g2 : w1.frozen? ⟨w.heap.size, 2, none⟩ = false := frozen_stay hb1 (by simp) (by go_simp)
  have hbw : Below w.heap.size w w1 := ((Below.refl _ w).alloc (Nat.le_refl _) _).trans (hb1.mono (by simp))
  go_wp2_with fail
  have q0 := set_same (v := .int .u8 3) e0
  have q1 := set_same (v := .int .i64 0) (set_off (o' := 0) (v := .int .u8 3) e1 (by omega))
  have q2 := set_same (v := .slice a' l.length cap') (set_off (o' := 1) (v := .int .i64 0) (set_off (o' := 0) (v := .int .u8 3) e2 (by omega)) (by omega))
  refine bodyPost_ret (v := .agg #[.int .u8 3, .int .i64 0, .slice a' l.length cap']) ?_ rfl ⟨_, rfl, ?_, ?_⟩
  · simp [results, Try.results50, go_sem, q0, q1, q2]
  · have h1 := fin_of_copies (k := 3) (n := 0) (cap' := cap') hl (show w.heap.size ≤ (w.alloc (.cells #[.int .u8 0, .int .i64 0, .slice none 0 0] 24)).heap.size by simp) HF.out
    rw [FIn] at h1 ⊢
    obtain ⟨a2, c2, h2, h3, h4⟩ := h1
    simp only [Value.agg.injEq, Array.mk.injEq, List.cons.injEq, Value.slice.injEq, and_true, true_and] at h3
    obtain ⟨rfl, rfl⟩ := h3
    refine ⟨a', cap', h2, rfl, HF.out.imp id ?_⟩
    rintro ⟨b, hb, hlo, hfr⟩
    simp only [World.size_alloc] at hlo hfr
    refine ⟨b, hb, by omega, ?_⟩
    refine FRow.mono (lo := w.heap.size + 1) (by omega) (fun b' o v hb' hc => ?_) (fun b' o v hb' hc hf => ?_) l b 0 hlo hfr
    · rw [cell_set_other (by simp; omega), cell_set_other (by simp; omega), cell_set_other (by simp; omega)]; exact hc
    · rw [World.frozen?_setCell, World.frozen?_setCell, World.frozen?_setCell]; exact hf
  · exact ((hbw.setCell (Nat.le_refl _) _).setCell (Nat.le_refl _) _).setCell (Nat.le_refl _) _
set_option maxHeartbeats 1000000 in
theorem list_any (l : List VT) (a : Option Addr) (cap : Nat) (w : World) (hl : l.length ≤ 3518437208780) (hr : VRow w l a) : Calls Try.prog 51 #[.slice a l.length cap] w (MadeOf (.mk 4 0 l) w) := by
  go_enter Try.func51, Try.ntmps51
  go_wp2_with fail
  refine (copies_any l a cap _ hl (hr.below ((Below.refl _ w).alloc (Nat.le_refl _) _))).mono ?_
  rintro e w1 ⟨a', cap', rfl, hf, hb1⟩
  have HF := Lib.hid hf; clear hf
  have hsz := hb1.size
  simp only [World.size_alloc] at hsz
  have e0 : w1.cell? ⟨w.heap.size, 0, none⟩ = some (.int .u8 0) := cell_stay hb1 (by simp) (by go_simp)
  have e1 : w1.cell? ⟨w.heap.size, 1, none⟩ = some (.int .i64 0) := cell_stay hb1 (by simp) (by go_simp)
  have e2 : w1.cell? ⟨w.heap.size, 2, none⟩ = some (.slice none 0 0) := cell_stay hb1 (by simp) (by go_simp)
  have g0 : w1.frozen? ⟨w.heap.size, 0, none⟩ = false := frozen_stay hb1 (by simp) (by go_simp)
  have g1 : w1.frozen? ⟨w.heap.size, 1, none⟩ = false := frozen_stay hb1 (by simp) (by go_simp)
  have g2 : w1.frozen? ⟨w.heap.size, 2, none⟩ = false := frozen_stay hb1 (by simp) (by go_simp)
  have hbw : Below w.heap.size w w1 := ((Below.refl _ w).alloc (Nat.le_refl _) _).trans (hb1.mono (by simp))
  go_wp2_with fail
  have q0 := set_same (v := .int .u8 4) e0
  have q1 := set_same (v := .int .i64 0) (set_off (o' := 0) (v := .int .u8 4) e1 (by omega))
  have q2 := set_same (v := .slice a' l.length cap') (set_off (o' := 1) (v := .int .i64 0) (set_off (o' := 0) (v := .int .u8 4) e2 (by omega)) (by omega))
  refine bodyPost_ret (v := .agg #[.int .u8 4, .int .i64 0, .slice a' l.length cap']) ?_ rfl ⟨_, rfl, ?_, ?_⟩
  · simp [results, Try.results51, go_sem, q0, q1, q2]
  · have h1 := fin_of_copies (k := 4) (n := 0) (cap' := cap') hl (show w.heap.size ≤ (w.alloc (.cells #[.int .u8 0, .int .i64 0, .slice none 0 0] 24)).heap.size by simp) HF.out
    rw [FIn] at h1 ⊢
    obtain ⟨a2, c2, h2, h3, h4⟩ := h1
    simp only [Value.agg.injEq, Array.mk.injEq, List.cons.injEq, Value.slice.injEq, and_true, true_and] at h3
    obtain ⟨rfl, rfl⟩ := h3
    refine ⟨a', cap', h2, rfl, HF.out.imp id ?_⟩
    rintro ⟨b, hb, hlo, hfr⟩
    simp only [World.size_alloc] at hlo hfr
    refine ⟨b, hb, by omega, ?_⟩
    refine FRow.mono (lo := w.heap.size + 1) (by omega) (fun b' o v hb' hc => ?_) (fun b' o v hb' hc hf => ?_) l b 0 hlo hfr
    · rw [cell_set_other (by simp; omega), cell_set_other (by simp; omega), cell_set_other (by simp; omega)]; exact hc
    · rw [World.frozen?_setCell, World.frozen?_setCell, World.frozen?_setCell]; exact hf
  · exact ((hbw.setCell (Nat.le_refl _) _).setCell (Nat.le_refl _) _).setCell (Nat.le_refl _) _
end Go.Proofs.Ytclmnpfdnhfbmaa
