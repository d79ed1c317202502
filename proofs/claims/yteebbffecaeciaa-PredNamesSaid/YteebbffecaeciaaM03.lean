/- Texts of this claim laid into one: VCheck. -/
import Derived.Test.YteebbffecaeciaaM01
import Derived.Test.YteebbffecaeciaaM02
/- val.Check, val.May. -/
namespace Go.Proofs.Yteebbffecaeciaa
open Go.RowKit Go.Shelf
attribute [local go_sem] Oper.semAt_some

/-- what is wrong of what the iterator hands on. -/
def Nd.wrong (x : Nd) : Int := VT.wrong x.k x.n x.len
def shWrong (x : Int × Int × Int × Nat) : Int := VT.wrong x.2.1 x.2.2.1 x.2.2.2
/-- the first that is wrong, of a row. -/
def firstW : List (Int × Int × Int × Nat) → Int
  | [] => 0
  | x :: l => if shWrong x ≠ 0 then shWrong x else firstW l
theorem firstW_append (l m : List (Int × Int × Int × Nat)) : firstW (l ++ m) = if firstW l ≠ 0 then firstW l else firstW m := by
  induction l with
  | nil => simp [firstW]
  | cons x l ih => simp only [List.cons_append, firstW, ih]; split <;> simp_all
mutual
theorem VT.firstW_flat (d : Int) : ∀ t : VT, firstW (t.flat d) = t.first
  | .mk k n its => by rw [VT.flat, VT.first, firstW, VT.firstW_flats (d + 1) its]; rfl
theorem VT.firstW_flats (d : Int) : ∀ l : List VT, firstW (VT.flats d l) = VT.firsts l
  | [] => by rw [VT.flats, VT.firsts, firstW]
  | t :: ts => by rw [VT.flats, VT.firsts, firstW_append, VT.firstW_flat d t, VT.firstW_flats d ts]
end

/-- between two rounds. -/
def ckI (w : World) (pre : List Nd) (W : World) : Prop :=
  (firstW (pre.map Nd.sh) = 0 ∧ W.cell? ⟨w.heap.size + 1, 0, none⟩ = some (.int .i64 0) ∧ W.frozen? ⟨w.heap.size + 1, 0, none⟩ = false ∧
    W.cell? ⟨w.heap.size + 1 + 1, 0, none⟩ = some (.int .i64 pre.length) ∧ W.frozen? ⟨w.heap.size + 1 + 1, 0, none⟩ = false ∧
    W.cell? ⟨w.heap.size + 1 + 1 + 1, 0, none⟩ = some (.int .i64 (maxd pre)) ∧ W.frozen? ⟨w.heap.size + 1 + 1 + 1, 0, none⟩ = false ∧ w.heap.size + 5 ≤ W.heap.size) ∧ Below w.heap.size w W
/-- a round has found something. -/
def ckX (w : World) (c : Code) (pre : List Nd) (W : World) : Prop :=
  (c = .ret ∧ ∃ e : Int, e ≠ 0 ∧ firstW (pre.map Nd.sh) = e ∧ W.cell? ⟨w.heap.size + 1, 0, none⟩ = some (.int .i64 e)) ∧ Below w.heap.size w W
theorem ckI_own (w : World) {B : Nat} (h : w.heap.size ≤ B) : OwnFrom B (ckI w) :=
  OwnFrom.and (Own.from (fun _s _A _B' _row hs hg hr => ⟨hs.1, cell_kept hs.2.1 hg hr, (frozen_kept hs.2.1 hg hr).trans hs.2.2.1, cell_kept hs.2.2.2.1 hg hr, (frozen_kept hs.2.2.2.1 hg hr).trans hs.2.2.2.2.1, cell_kept hs.2.2.2.2.2.1 hg hr, (frozen_kept hs.2.2.2.2.2.1 hg hr).trans hs.2.2.2.2.2.2.1, Nat.le_trans hs.2.2.2.2.2.2.2 hg.size⟩) _) (ownFrom_below (Nat.le_refl _) h)
theorem ckX_own (w : World) {B : Nat} (h : w.heap.size ≤ B) (c : Code) : OwnFrom B (ckX w c) :=
  OwnFrom.and (Own.from (fun s A B' row hs hg hr => ⟨hs.1, by obtain ⟨e, h1, h2, h3⟩ := hs.2; exact ⟨e, h1, h2, cell_kept h3 hg hr⟩⟩) _) (ownFrom_below (Nat.le_refl _) h)
theorem keepsFrom_below {B : Nat} {W W' : World} (h : Below W.heap.size W W') : KeepsFrom B W W' := ⟨h.size, fun k _ _ hk _ => (h.block k (Array.getElem?_eq_some_iff.1 hk).1).trans hk⟩

theorem ck_next {w W W1 : World} {m : Nat} {pre : List Nd} {x : Nd} (hm : m = w.heap.size + 5) (hb1 : Below W.heap.size W W1) (hB : Below w.heap.size w W) (hs5 : w.heap.size + 5 ≤ W.heap.size)
    (hf : firstW (pre.map Nd.sh) = 0) (hx : x.wrong = 0) (hl : pre.length < 100000)
    (c1 : W1.cell? ⟨w.heap.size + 1, 0, none⟩ = some (.int .i64 0)) (f1 : W1.frozen? ⟨w.heap.size + 1, 0, none⟩ = false)
    (c2 : W1.cell? ⟨w.heap.size + 1 + 1, 0, none⟩ = some (.int .i64 pre.length)) (f2 : W1.frozen? ⟨w.heap.size + 1 + 1, 0, none⟩ = false)
    (c3 : W1.cell? ⟨w.heap.size + 1 + 1 + 1, 0, none⟩ = some (.int .i64 (maxd pre))) (f3 : W1.frozen? ⟨w.heap.size + 1 + 1 + 1, 0, none⟩ = false) :
    KeepsFrom m W (((W1.setCell ⟨w.heap.size + 1 + 1, 0, none⟩ (.int .i64 (IntKind.i64.wrap (pre.length + 1)))).setCell ⟨w.heap.size + 1 + 1 + 1, 0, none⟩ (.int .i64 (if maxd pre < x.d then x.d else maxd pre))).drew) ∧
    KpBut w.heap.size m W (((W1.setCell ⟨w.heap.size + 1 + 1, 0, none⟩ (.int .i64 (IntKind.i64.wrap (pre.length + 1)))).setCell ⟨w.heap.size + 1 + 1 + 1, 0, none⟩ (.int .i64 (if maxd pre < x.d then x.d else maxd pre))).drew) ∧
    ckI w (pre ++ [x]) (((W1.setCell ⟨w.heap.size + 1 + 1, 0, none⟩ (.int .i64 (IntKind.i64.wrap (pre.length + 1)))).setCell ⟨w.heap.size + 1 + 1 + 1, 0, none⟩ (.int .i64 (if maxd pre < x.d then x.d else maxd pre))).drew) := by
  have e1 : IntKind.i64.wrap ((pre.length : Int) + 1) = ((pre ++ [x]).length : Int) := by
    rw [List.length_append]; simp [IntKind.wrap_i64]; omega
  have e2 : (if maxd pre < x.d then x.d else maxd pre) = maxd (pre ++ [x]) := by rw [maxd_snoc]; split <;> omega
  have e3 : firstW ((pre ++ [x]).map Nd.sh) = 0 := by
    rw [List.map_append, firstW_append, hf]
    simp only [List.map_cons, List.map_nil, firstW, show shWrong x.sh = 0 from hx]
    simp
  rw [e1, e2]
  subst hm
  have hK : KpBut w.heap.size (w.heap.size + 5) W W1 := (KpBut.refl _ _ _).below hb1
  refine ⟨((keepsFrom_below hb1).trans ((KeepsOthers.setCell _ _ _).from _)).trans (((KeepsOthers.setCell _ _ _).trans (KeepsOthers.drew _)).from _), ((hK.setCell (by simp; omega) (by simp) _).setCell (by simp; omega) (by simp) _).drew, ⟨e3, ?_, ?_, ?_, ?_, ?_, ?_, ?_⟩, ?_⟩
  · simp [World.cell?_setCell_other, c1]
  · simp [World.frozen?_setCell, f1]
  · rw [World.cell?_drew, World.cell?_setCell_other _ _ _ _ (by simp), World.cell?_setCell_same' _ _ _ (by rw [c2]; rfl)]
  · simp [World.frozen?_setCell, f2]
  · rw [World.cell?_drew]
    exact World.cell?_setCell_same' _ _ _ (by rw [World.cell?_setCell_other _ _ _ _ (by simp), c3]; rfl)
  · simp [World.frozen?_setCell, f3]
  · have := hb1.size
    simp [World.setCell]; omega
  · exact (((hB.trans (hb1.mono (by omega))).setCell (by simp; omega) _).setCell (by simp; omega) _).drew

set_option maxRecDepth 100000 in
set_option maxHeartbeats 4000000 in
theorem check_any (t : VT) (v : Value) (w : World) (ht : t.size ≤ 100000) (hv : VIn w t v) : Calls Try.prog 113 #[v] w fun e w' => e = .returned (.int .i64 t.check) ∧ Below w.heap.size w w' := by
  refine (callsIn_wide (n := 9)).1 ?_
  obtain ⟨k, n, its⟩ := t
  obtain ⟨a, cap, hlen, rfl, hr⟩ := hv.open
  have HT := Lib.hid ht; clear ht
  refine callsIn_of_wp_marks Try.func113 rfl trivial ?_ rfl
  simp only [Try.ntmps113, List.size_toArray, List.length_cons, List.length_nil, Nat.reduceAdd, Nat.reduceSub, Array.replicate_succ, Array.replicate_zero, List.push_toArray, List.append_toArray, List.nil_append, List.cons_append]
  gi_wp2_with fail
  refine ⟨trivial, ?_⟩
  refine (all_in Fence.wide _ trivial rfl _ _ _ _).mono ?_
  rintro e w' ⟨rfl, rfl⟩
  gi_wp2_with fail
  obtain ⟨w3, hw3⟩ : ∃ w3, ((((w.alloc (.cells #[.int .u8 k, .int .i64 n, .slice a its.length cap] 25)).alloc (.cells #[.int .i64 0] 33)).alloc (.cells #[.int .i64 0] 3)).alloc (.cells #[.int .i64 0] 3)).alloc (.cells #[.int .u8 k, .int .i64 n, .slice a its.length cap] 25) = w3 := ⟨_, rfl⟩
  have hB0 : Below w.heap.size w w3 := by subst hw3; exact (((((Below.refl _ w).alloc (Nat.le_refl _) _).alloc (by simp) _).alloc (by simp; omega) _).alloc (by simp; omega) _).alloc (by simp; omega) _
  have hsz : w3.heap.size = w.heap.size + 5 := by subst hw3; simp
  have h0 : ckI w [] w3 := by subst hw3; exact ⟨⟨rfl, by go_simp, by go_simp, by go_simp, by go_simp, by go_simp; rfl, by go_simp, by simp⟩, hB0⟩
  have hc : w3.cell? ⟨w.heap.size + 1 + 1 + 1 + 1, 0, none⟩ = some (.int .u8 k) ∧ w3.cell? ⟨w.heap.size + 1 + 1 + 1 + 1, 1, none⟩ = some (.int .i64 n) ∧ w3.cell? ⟨w.heap.size + 1 + 1 + 1 + 1, 2, none⟩ = some (.slice a its.length cap) := by subst hw3; refine ⟨?_, ?_, ?_⟩ <;> go_simp
  rw [hw3]; clear hw3
  refine wpIn_rangeFunc_ownH rfl (by omega) (gf := 119) (lb := #[.pointer (some ⟨w.heap.size + 1 + 1 + 1 + 1, 0, none⟩)]) rfl trivial (enters_of Try.func119 (by kernel_rfl) rfl)
    (all_stops (9 - 1) (w.heap.size + 1 + 1 + 1 + 1) w w3 (.mk k n its) _ _ _ hB0 HT.out hv hc.1 hc.2.1 hc.2.2) KpBut.trans (kpBut_b) (Below.refl _ _) (fun _ => rfl)
    (ckI w) (ckX w) (ckI_own w (by omega)) (ckX_own w (by omega)) h0
    (fun x a' W => ∃ Bx, w3.heap.size ≤ Bx ∧ (W.cell? ⟨Bx, 0, none⟩ = some (.int .u8 x.k) ∧ W.cell? ⟨Bx, 1, none⟩ = some (.int .i64 x.n) ∧ W.cell? ⟨Bx, 2, none⟩ = some (.slice x.a x.len x.cap)) ∧
      a' = { tmps := #[.agg #[.int .u8 k, .int .i64 n, .slice a its.length cap], .pointer (some ⟨w.heap.size, 0, none⟩), .pointer (some ⟨w.heap.size + 1, 0, none⟩), .pointer (some ⟨w.heap.size + 1 + 1, 0, none⟩), .pointer (some ⟨w.heap.size + 1 + 1 + 1, 0, none⟩), .int .i64 x.d, .pointer (some ⟨Bx, 0, none⟩), undef, .agg #[.int .u8 k, .int .i64 n, .slice a its.length cap], .func (.func 119) #[] #[.pointer (some ⟨w.heap.size + 1 + 1 + 1 + 1, 0, none⟩)], .int .i64 x.d, .agg #[.int .u8 x.k, .int .i64 x.n, .slice x.a x.len x.cap], undef, undef, undef, undef, undef, undef, undef, undef, undef, undef, undef, undef, undef, undef, undef, undef], defers := [] })
    (fun x a' s A B row hs hg hr => by obtain ⟨Bx, h1, ⟨h2, h3, h4⟩, h5⟩ := hs; exact ⟨Bx, h1, ⟨cell_kept h2 hg (fun r e => (hr r e).2), cell_kept h3 hg (fun r e => (hr r e).2), cell_kept h4 hg (fun r e => (hr r e).2)⟩, h5⟩) ?assign ?body ?done ?stop
  case assign =>
    intro l pre x W K hi hK
    have hle : w3.heap.size ≤ W.heap.size := by rw [hsz]; exact hi.1.2.2.2.2.2.2.2
    dsimp only [Nd.encs]
    gi_wp2
    refine hK _ _ ((KeepsOthers.alloc _ _).from _) ((KpBut.refl _ _ W).alloc _) ((ckI_own w (Nat.le_refl _)).alloc _ hi) ⟨W.heap.size, hle, ⟨by go_simp, by go_simp, by go_simp⟩, by simp⟩
  case body =>
    rintro l pre x a' W hl _ hi ⟨Bx, hBx, ⟨b0, b1, b2⟩, rfl⟩ hlen
    obtain ⟨⟨hf, c1, f1, c2, f2, c3, f3, hs5⟩, hB⟩ := hi
    have HF := Lib.hid hf; clear hf
    have HT2 := HT.out
    by_cases hx : x.wrong = 0
    · have HX := Lib.hid hx; clear hx
      gi_wp2_with fail
      refine ⟨trivial, ?_⟩
      refine (CallsIn.inRound l (callsIn_wide.2 (wrong_any _ _ _ _ _ _))).mono ?_
      rintro e W1 ⟨rfl, hb1⟩
      rw [show VT.wrong x.k x.n x.len = 0 from HX.out]
      have c1' := cell_stays hb1 c1
      have c2' := cell_stays hb1 c2
      have c3' := cell_stays hb1 c3
      have f1' := frozen_stay hb1 (lt_of_cell c1) f1
      have f2' := frozen_stay hb1 (lt_of_cell c2) f2
      have f3' := frozen_stay hb1 (lt_of_cell c3) f3
      clear c1 c2 c3 f1 f2 f3
      gi_wp2
      gi_region
      all_goals exact ck_next hsz hb1 hB hs5 HF.out HX.out (by omega) c1' f1' c2' f2' c3' f3'
    · have hx' : (VT.wrong x.k x.n x.len != 0) = true := by simpa [Nd.wrong] using hx
      have HX := Lib.hid hx; clear hx
      gi_wp2_with fail
      refine ⟨trivial, ?_⟩
      refine (CallsIn.inRound l (callsIn_wide.2 (wrong_any _ _ _ _ _ _))).mono ?_
      rintro e W1 ⟨rfl, hb1⟩
      have c1' := cell_stays hb1 c1
      have f1' := frozen_stay hb1 (lt_of_cell c1) f1
      clear c1 c2 c3 f1 f2 f3
      gi_wp2
      refine ⟨(keepsFrom_below hb1).trans ((KeepsOthers.setCell _ _ _).from _), ⟨rfl, VT.wrong x.k x.n x.len, HX.out, ?_, World.cell?_setCell_same' _ _ _ (by rw [c1']; rfl)⟩, (hB.trans (hb1.mono (by omega))).setCell (by simp) _⟩
      rw [List.map_append, firstW_append, HF.out]
      simp only [List.map_cons, List.map_nil, firstW, show shWrong x.sh = VT.wrong x.k x.n x.len from rfl]
      simp [show VT.wrong x.k x.n x.len ≠ 0 from HX.out]
  case done =>
    rintro D ys W hD hys ⟨⟨hf, c1, f1, c2, f2, c3, f3, hs5⟩, hB⟩ hK
    have h1 : (VT.mk k n its).first = 0 := by rw [← VT.firstW_flat 1, ← hys, hf]
    have h2 : ys.length = (VT.mk k n its).size := by rw [← VT.flat_length 1, ← hys, List.length_map]
    have h3 : maxd ys = (VT.mk k n its).deep := by rw [maxd_eq, hys, VT.flat_max]
    rw [h2] at c2
    rw [h3] at c3
    have H1 := Lib.hid h1; clear h1 h2 h3 hf hys
    by_cases hd : 128 < (VT.mk k n its).deep
    · have hfin : (VT.mk k n its).check = 9 := by rw [VT.check, if_neg (by simp [H1.out]), if_pos hd]
      have HFIN := Lib.hid hfin; clear hfin
      gi_wp2
      have hK' := (KeepsOthers.setCell W ⟨w.heap.size + 1, 0, none⟩ (.int .i64 9)).same D _ hK rfl
      refine ⟨by simp, .inl ⟨_, _, rfl, run_takeDeferred hK', ?_⟩⟩
      have hc5 := cell_kept (World.cell?_setCell_same' W ⟨w.heap.size + 1, 0, none⟩ (.int .i64 9) (by rw [c1]; rfl)) (grownBy_putObj' _ D (.deferred none)) (fun r e => by cases e; exact ⟨_, hK', rfl⟩)
      refine ⟨.int .i64 9, ?_, ret_int HFIN.out.symm, (hB.setCell (p := ⟨w.heap.size + 1, 0, none⟩) (by simp) _).trans (belowK_b (w := w) (Nat.le_refl _) _ D _ _ (by omega) hK' rfl rfl)⟩
      simp [results, Try.f113, go_sem, hc5]
    · by_cases hz : 4096 < (VT.mk k n its).size
      · have hfin : (VT.mk k n its).check = 5 := by rw [VT.check, if_neg (by simp [H1.out]), if_neg hd, if_pos hz]
        have HFIN := Lib.hid hfin; clear hfin
        gi_wp2
        have hK' := (KeepsOthers.setCell W ⟨w.heap.size + 1, 0, none⟩ (.int .i64 5)).same D _ hK rfl
        refine ⟨by simp, .inl ⟨_, _, rfl, run_takeDeferred hK', ?_⟩⟩
        have hc5 := cell_kept (World.cell?_setCell_same' W ⟨w.heap.size + 1, 0, none⟩ (.int .i64 5) (by rw [c1]; rfl)) (grownBy_putObj' _ D (.deferred none)) (fun r e => by cases e; exact ⟨_, hK', rfl⟩)
        refine ⟨.int .i64 5, ?_, ret_int HFIN.out.symm, (hB.setCell (p := ⟨w.heap.size + 1, 0, none⟩) (by simp) _).trans (belowK_b (w := w) (Nat.le_refl _) _ D _ _ (by omega) hK' rfl rfl)⟩
        simp [results, Try.f113, go_sem, hc5]
      · have hfin : (VT.mk k n its).check = 0 := by rw [VT.check, if_neg (by simp [H1.out]), if_neg hd, if_neg hz]
        have HFIN := Lib.hid hfin; clear hfin
        gi_wp2
        have hK' := (KeepsOthers.setCell W ⟨w.heap.size + 1, 0, none⟩ (.int .i64 0)).same D _ hK rfl
        refine ⟨by simp, .inl ⟨_, _, rfl, run_takeDeferred hK', ?_⟩⟩
        have hc5 := cell_kept (World.cell?_setCell_same' W ⟨w.heap.size + 1, 0, none⟩ (.int .i64 0) (by rw [c1]; rfl)) (grownBy_putObj' _ D (.deferred none)) (fun r e => by cases e; exact ⟨_, hK', rfl⟩)
        refine ⟨.int .i64 0, ?_, ret_int HFIN.out.symm, (hB.setCell (p := ⟨w.heap.size + 1, 0, none⟩) (by simp) _).trans (belowK_b (w := w) (Nat.le_refl _) _ D _ _ (by omega) hK' rfl rfl)⟩
        simp [results, Try.f113, go_sem, hc5]
  case stop =>
    rintro D c pre W hD ⟨rest, hrest⟩ ⟨⟨rfl, e, he, hfe, c1⟩, hB⟩ hK
    have h1 : (VT.mk k n its).first = e := by rw [← VT.firstW_flat 1, ← hrest, firstW_append, hfe, if_pos he]
    have hfin : (VT.mk k n its).check = e := by rw [VT.check, h1, if_pos he]
    have HFIN := Lib.hid hfin; clear hfin h1 hrest hfe
    gi_wp2
    refine ⟨by simp, .inl ⟨_, _, rfl, run_takeDeferred hK, ?_⟩⟩
    have hc5 := cell_kept c1 (grownBy_putObj' _ D (.deferred none)) (fun r e => by cases e; exact ⟨_, hK, rfl⟩)
    refine ⟨.int .i64 e, ?_, ret_int HFIN.out.symm, hB.trans (belowK_b (w := w) (Nat.le_refl _) W D _ _ (by omega) hK rfl rfl)⟩
    simp [results, Try.f113, go_sem, hc5]

end Go.Proofs.Yteebbffecaeciaa
