/- val.Size. -/
import Derived.Test.YtclmnpfdnhfbmaaVIter
namespace Go.Proofs.Ytclmnpfdnhfbmaa
open Go.RowKit Go.Shelf
attribute [local go_sem] Oper.semAt_some

set_option maxRecDepth 100000 in
set_option maxHeartbeats 2000000 in
theorem size_any (t : VT) (v : Value) (w : World) (ht : t.size ≤ 100000) (hv : VIn w t v) : Calls Try.prog 18 #[v] w fun e w' => e = .returned (.int .i64 t.size) ∧ Below w.heap.size w w' := by
  refine (callsIn_wide (n := 9)).1 ?_
  obtain ⟨k, n, its⟩ := t
  obtain ⟨a, cap, hlen, rfl, hr⟩ := hv.open
  have HT := Lib.hid ht; clear ht
  refine callsIn_of_wp_marks Try.func18 rfl trivial ?_ rfl
  simp only [Try.ntmps18, List.size_toArray, List.length_cons, List.length_nil, Nat.reduceAdd, Nat.reduceSub, Array.replicate_succ, Array.replicate_zero, List.push_toArray, List.append_toArray, List.nil_append, List.cons_append]
  gi_wp2_with fail
  refine ⟨trivial, ?_⟩
  refine (all_in Fence.wide _ trivial rfl _ _ _ _).mono ?_
  rintro e w' ⟨rfl, rfl⟩
  gi_wp2_with fail
  obtain ⟨w3, hw3⟩ : ∃ w3, ((w.alloc (.cells #[.int .u8 k, .int .i64 n, .slice a its.length cap] 24)).alloc (.cells #[.int .i64 0] 3)).alloc (.cells #[.int .u8 k, .int .i64 n, .slice a its.length cap] 24) = w3 := ⟨_, rfl⟩
  have hB0 : Below w.heap.size w w3 := by subst hw3; exact (((Below.refl _ w).alloc (Nat.le_refl _) _).alloc (by simp) _).alloc (by simp; omega) _
  have hsz : w3.heap.size = w.heap.size + 3 := by subst hw3; simp
  have hn : w3.cell? ⟨w.heap.size + 1, 0, none⟩ = some (.int .i64 0) ∧ w3.frozen? ⟨w.heap.size + 1, 0, none⟩ = false := by subst hw3; constructor <;> go_simp
  have hc : w3.cell? ⟨w.heap.size + 1 + 1, 0, none⟩ = some (.int .u8 k) ∧ w3.cell? ⟨w.heap.size + 1 + 1, 1, none⟩ = some (.int .i64 n) ∧ w3.cell? ⟨w.heap.size + 1 + 1, 2, none⟩ = some (.slice a its.length cap) := by subst hw3; refine ⟨?_, ?_, ?_⟩ <;> go_simp
  rw [hw3]; clear hw3
  refine wpIn_rangeFunc_ownF rfl (by omega) (gf := 76) (lb := #[.pointer (some ⟨w.heap.size + 1 + 1, 0, none⟩)]) rfl trivial (enters_of Try.func76 (by kernel_rfl) rfl)
    (all_stops (9 - 1) (w.heap.size + 1 + 1) w w3 (.mk k n its) _ _ _ hB0 HT.out hv hc.1 hc.2.1 hc.2.2) KpBut.trans (kpBut_b) (Below.refl _ _) (fun _ => rfl)
    (fun pre W => (W.cell? ⟨w.heap.size + 1, 0, none⟩ = some (.int .i64 pre.length) ∧ W.frozen? ⟨w.heap.size + 1, 0, none⟩ = false) ∧ Below w.heap.size w W)
    (fun _ _ _ => False)
    (OwnFrom.and (Own.from (fun s A B row hs hg hr => ⟨cell_kept hs.1 hg hr, (frozen_kept hs.1 hg hr).trans hs.2⟩) _) (ownFrom_below (by omega) (by omega)))
    (fun _ _ _ _ _ hs _ _ => hs)
    ⟨⟨hn.1, hn.2⟩, hB0⟩
    (fun x => { tmps := #[.agg #[.int .u8 k, .int .i64 n, .slice a its.length cap], .pointer (some ⟨w.heap.size, 0, none⟩), .int .i64 0, .pointer (some ⟨w.heap.size + 1, 0, none⟩), .agg #[.int .u8 k, .int .i64 n, .slice a its.length cap], .func (.func 76) #[] #[.pointer (some ⟨w.heap.size + 1 + 1, 0, none⟩)], .int .i64 x.d, .agg #[.int .u8 x.k, .int .i64 x.n, .slice x.a x.len x.cap], undef, undef, undef], defers := [] }) ?assign ?body ?done ?stop
  case assign =>
    intro l x W K hK
    dsimp only [Nd.encs]
    gi_wp2
    simpa using hK
  case body =>
    rintro l pre x W ⟨⟨hc, hf⟩, hB⟩ hlen
    have HT2 := HT.out
    gi_wp2
    exact ⟨KeepsOthers.setCell _ _ _, (KpBut.refl _ _ W).setCell (p := ⟨w.heap.size + 1, 0, none⟩) (by simp) (by simp; omega) _, ⟨by rw [List.length_append]; exact World.cell?_setCell_same' _ _ _ (by rw [hc]; rfl), by rw [World.frozen?_setCell]; exact hf⟩, hB.setCell (p := ⟨w.heap.size + 1, 0, none⟩) (by simp) _⟩
  case done =>
    rintro D ys W hD hys ⟨⟨hc, _⟩, hB⟩ hK
    have hl : ys.length = (VT.mk k n its).size := by rw [← VT.flat_length 1, ← hys, List.length_map]
    have HL := Lib.hid hl; clear hl hys
    gi_wp2
    refine ⟨by simp, .inl ⟨_, _, rfl, run_takeDeferred hK, ?_⟩⟩
    refine ⟨_, results_tmp rfl _ _ _, ?_, ?_⟩
    · exact ret_int (by rw [HL.out])
    · exact hB.trans (belowK_b (w := w) (Nat.le_refl _) W D _ _ (by omega) hK rfl rfl)
  case stop =>
    rintro D c pre W _ _ h _
    exact h.elim

def maxd (l : List Nd) : Int := l.foldl (fun m x => max m x.d) 0
theorem maxd_snoc (l : List Nd) (x : Nd) : maxd (l ++ [x]) = max (maxd l) x.d := by simp [maxd]
theorem maxd_eq (l : List Nd) : maxd l = (l.map Nd.sh).foldl (fun m x => max m x.1) 0 := by rw [List.foldl_map]; rfl
mutual
theorem VT.flat_max_from (d m : Int) : ∀ t : VT, (t.flat d).foldl (fun m x => max m x.1) m = max m (d + t.deep - 1)
  | .mk k n its => by
    rw [VT.flat, List.foldl_cons, VT.flats_max_from (d + 1) _ its, VT.deep]
    split <;> simp <;> omega
theorem VT.flats_max_from (d m : Int) : ∀ l : List VT, (VT.flats d l).foldl (fun m x => max m x.1) m = if VT.deeps l = 0 then m else max m (d + VT.deeps l - 1)
  | [] => by simp [VT.flats, VT.deeps]
  | t :: ts => by
    have := VT.deep_le t
    rw [VT.flats, List.foldl_append, VT.flat_max_from d m t, VT.flats_max_from d _ ts, VT.deeps]
    split <;> rw [if_neg (by omega)] <;> omega
end
theorem VT.flat_max (t : VT) : (t.flat 1).foldl (fun m x => max m x.1) 0 = (t.deep : Int) := by rw [VT.flat_max_from]; omega
end Go.Proofs.Ytclmnpfdnhfbmaa
