/- Texts of this claim laid into one: TClone, TMathB. -/
import Derived.Test.YtapofbdkofelkaaGreatM09
import Derived.Test.YtapofbdkofelkaaGreatM07
/- slices.Clone of numbers, values, terms; cells written into one block. -/
namespace Go.Proofs.YtapofbdkofelkaaGreat
open Go.RowKit

theorem zeroT : (Tryz.prog.info? 31).map (fun i => (i.zero, i.size, i.bytes)) = some (some (.agg #[.int .u8 0, .int .u8 0, .int .i64 0, .slice none 0 0, .slice none 0 0, .int .i64 0, .int .i64 0, .slice none 0 0, .int .u8 0, .int .u8 0, .int .i64 0, .slice none 0 0, .int .i64 0, .slice none 0 0, .slice none 0 0]), 15, 216) := by kernel_rfl
/-- what 'Clone' hands back of n elements of K cells at a. -/
def CloneG (T K n : Nat) (a : Option Addr) (w : World) (e : Ending) (w' : World) : Prop := ∃ a' cap', e = .returned (.slice a' n cap') ∧ Below w.heap.size w w' ∧ (n = 0 ∨ ∃ B, a' = some ⟨B, 0, none⟩ ∧ w.heap.size ≤ B ∧ RowAt w' T B (cap' * K) ∧ n ≤ cap' ∧
    ∀ b o j u, a = some ⟨b, o, none⟩ → j < n * K → w.cell? ⟨b, o + j, none⟩ = some u → w'.cell? ⟨B, j, none⟩ = some u)
/-- n elements of K cells lie at a. -/
def CellsAt (K n : Nat) (a : Option Addr) (w : World) : Prop := n = 0 ∨ ∃ b o, a = some ⟨b, o, none⟩ ∧ ∀ j, j < n * K → ∃ u, w.cell? ⟨b, o + j, none⟩ = some u ∧ u.oneCell' = true
theorem cloneW (n : Nat) (a : Option Addr) (cap : Nat) (w : World) (hl : n ≤ 17592186043904) (hr : CellsAt 1 n a w) : Calls Tryz.prog 55 #[.slice a n cap] w (CloneG 2 1 n a w) := by
  have qT : ∀ (w : World) (a : Option Addr) (n c n' c' : Nat), (binOp .eql 25 (.slice a n c) (.slice none n' c')).run Tryz.prog w = .ok (.bool a.isNone) w := fun w a n c n' c' => Lib.run_eql_slice_nil w _ _ a n c n' c' Tryz.underlying25
  cases a with
  | none =>
    have h0 : n = 0 := by
      rcases hr with h | ⟨b, o, h, _⟩
      · exact h
      · cases h
    subst h0
    go_enter Tryz.func55, Tryz.ntmps55
    go_wp2_with fail
    go_ret
    exact ⟨none, 0, rfl, Below.refl _ _, .inl rfl⟩
  | some p =>
    obtain ⟨w1, hw1, m1⟩ : ∃ w1, w.alloc (.cells #[] 2) = w1 ∧ Below w.heap.size w w1 := ⟨_, rfl, Below.al _⟩
    obtain ⟨i0, hi0, hz0, hz1, hz2⟩ := info_parts zero64
    have hsrc : ∃ news : List Value, news.length = n * 1 ∧ (∀ j u, news[j]? = some u → w.cell? (p.add j) = some u ∧ u.oneCell' = true) := by
      rcases hr with h0 | ⟨b, o, e, hc⟩
      · subst h0; exact ⟨[], by simp, fun j u h => by simp at h⟩
      · cases e
        refine ⟨(List.range (n * 1)).map fun j => (w.cell? ⟨b, o + j, none⟩).getD .nilIface, by simp, fun j u h => ?_⟩
        obtain ⟨hj, he⟩ := List.getElem?_eq_some_iff.1 h
        have hj' : j < n * 1 := by simpa using hj
        obtain ⟨v, hv, h1⟩ := hc j hj'
        simp only [List.getElem_map, List.getElem_range, hv, Option.getD_some] at he
        subst he
        exact ⟨by rw [Addr.add_lit]; exact hv, h1⟩
    obtain ⟨news, hnl, hnews⟩ := hsrc
    obtain ⟨a6, cap6, w6, happ, hg6, hb6, _⟩ := grown_append (P := Tryz.prog) (w := w1) (B := w.heap.size) (T := 2) (k := 1) (xs := []) m1.size (Grown.empty w1 w.heap.size 2 1 w.heap.size) (t := 25) (tx := 25) (ty := 25)
      Tryz.underlying25 hi0 hz0 hz1 rfl hz2 (Src.ofSlice w1 Tryz.underlying25 p n cap news hnl (fun j u hu => by
        have := (hnews j u hu).1
        exact (m1.cell (block_lt_of_cell this)).trans this) (fun u hu => by
        obtain ⟨j, hj, rfl⟩ := List.getElem_of_mem hu
        exact (hnews j _ (List.getElem?_eq_getElem hj)).2)) (by omega) (by omega)
    simp only [Nat.zero_add, List.nil_append] at happ hg6
    have HG := Lib.hid hg6; have HN := Lib.hid hnews; have HNL := Lib.hid hnl; have HAP := Lib.hid happ; have HR := Lib.hid hr
    clear hg6 hnews happ hi0 hz0 hz1 hz2 hnl hr
    go_enter Tryz.func55, Tryz.ntmps55
    go_wp2_with (at_builtin; refine wpList_append_run _ rfl _ _ _ rfl _ _ _ _ rfl rfl HAP.out ?_)
    go_ret
    refine ⟨a6, cap6, rfl, m1.trans (hb6.mono (Nat.le_refl _)), ?_⟩
    by_cases h0 : n = 0
    · exact .inl h0
    · obtain ⟨B, e, hB, hrow, hc⟩ := HG.out.cells (by rw [HNL.out]; omega)
      refine .inr ⟨B, e, hB, hrow, HG.out.le, fun b o j u ha hj hu => ?_⟩
      cases ha
      have hjn : j < news.length := by rw [HNL.out]; exact hj
      have h1 := (HN.out j _ (List.getElem?_eq_getElem hjn)).1
      rw [Addr.add_lit, hu] at h1
      exact hc j u (by rw [List.getElem?_eq_getElem hjn]; exact h1.symm)
theorem cloneV (n : Nat) (a : Option Addr) (cap : Nat) (w : World) (hl : n ≤ 3518437208780) (hr : CellsAt 3 n a w) : Calls Tryz.prog 56 #[.slice a n cap] w (CloneG 24 3 n a w) := by
  have qT : ∀ (w : World) (a : Option Addr) (n c n' c' : Nat), (binOp .eql 22 (.slice a n c) (.slice none n' c')).run Tryz.prog w = .ok (.bool a.isNone) w := fun w a n c n' c' => Lib.run_eql_slice_nil w _ _ a n c n' c' Tryz.underlying22
  cases a with
  | none =>
    have h0 : n = 0 := by
      rcases hr with h | ⟨b, o, h, _⟩
      · exact h
      · cases h
    subst h0
    go_enter Tryz.func56, Tryz.ntmps56
    go_wp2_with fail
    go_ret
    exact ⟨none, 0, rfl, Below.refl _ _, .inl rfl⟩
  | some p =>
    obtain ⟨w1, hw1, m1⟩ : ∃ w1, w.alloc (.cells #[] 24) = w1 ∧ Below w.heap.size w w1 := ⟨_, rfl, Below.al _⟩
    obtain ⟨i0, hi0, hz0, hz1, hz2⟩ := info_parts zeroV
    have hsrc : ∃ news : List Value, news.length = n * 3 ∧ (∀ j u, news[j]? = some u → w.cell? (p.add j) = some u ∧ u.oneCell' = true) := by
      rcases hr with h0 | ⟨b, o, e, hc⟩
      · subst h0; exact ⟨[], by simp, fun j u h => by simp at h⟩
      · cases e
        refine ⟨(List.range (n * 3)).map fun j => (w.cell? ⟨b, o + j, none⟩).getD .nilIface, by simp, fun j u h => ?_⟩
        obtain ⟨hj, he⟩ := List.getElem?_eq_some_iff.1 h
        have hj' : j < n * 3 := by simpa using hj
        obtain ⟨v, hv, h1⟩ := hc j hj'
        simp only [List.getElem_map, List.getElem_range, hv, Option.getD_some] at he
        subst he
        exact ⟨by rw [Addr.add_lit]; exact hv, h1⟩
    obtain ⟨news, hnl, hnews⟩ := hsrc
    obtain ⟨a6, cap6, w6, happ, hg6, hb6, _⟩ := grown_append (P := Tryz.prog) (w := w1) (B := w.heap.size) (T := 24) (k := 3) (xs := []) m1.size (Grown.empty w1 w.heap.size 24 3 w.heap.size) (t := 22) (tx := 22) (ty := 22)
      Tryz.underlying22 hi0 hz0 hz1 rfl hz2 (Src.ofSlice w1 Tryz.underlying22 p n cap news hnl (fun j u hu => by
        have := (hnews j u hu).1
        exact (m1.cell (block_lt_of_cell this)).trans this) (fun u hu => by
        obtain ⟨j, hj, rfl⟩ := List.getElem_of_mem hu
        exact (hnews j _ (List.getElem?_eq_getElem hj)).2)) (by omega) (by omega)
    simp only [Nat.zero_add, List.nil_append] at happ hg6
    have HG := Lib.hid hg6; have HN := Lib.hid hnews; have HNL := Lib.hid hnl; have HAP := Lib.hid happ; have HR := Lib.hid hr
    clear hg6 hnews happ hi0 hz0 hz1 hz2 hnl hr
    go_enter Tryz.func56, Tryz.ntmps56
    go_wp2_with (at_builtin; refine wpList_append_run _ rfl _ _ _ rfl _ _ _ _ rfl rfl HAP.out ?_)
    go_ret
    refine ⟨a6, cap6, rfl, m1.trans (hb6.mono (Nat.le_refl _)), ?_⟩
    by_cases h0 : n = 0
    · exact .inl h0
    · obtain ⟨B, e, hB, hrow, hc⟩ := HG.out.cells (by rw [HNL.out]; omega)
      refine .inr ⟨B, e, hB, hrow, HG.out.le, fun b o j u ha hj hu => ?_⟩
      cases ha
      have hjn : j < news.length := by rw [HNL.out]; exact hj
      have h1 := (HN.out j _ (List.getElem?_eq_getElem hjn)).1
      rw [Addr.add_lit, hu] at h1
      exact hc j u (by rw [List.getElem?_eq_getElem hjn]; exact h1.symm)
theorem cloneT (n : Nat) (a : Option Addr) (cap : Nat) (w : World) (hl : n ≤ 651562446070) (hr : CellsAt 15 n a w) : Calls Tryz.prog 57 #[.slice a n cap] w (CloneG 31 15 n a w) := by
  have qT : ∀ (w : World) (a : Option Addr) (n c n' c' : Nat), (binOp .eql 29 (.slice a n c) (.slice none n' c')).run Tryz.prog w = .ok (.bool a.isNone) w := fun w a n c n' c' => Lib.run_eql_slice_nil w _ _ a n c n' c' Tryz.underlying29
  cases a with
  | none =>
    have h0 : n = 0 := by
      rcases hr with h | ⟨b, o, h, _⟩
      · exact h
      · cases h
    subst h0
    go_enter Tryz.func57, Tryz.ntmps57
    go_wp2_with fail
    go_ret
    exact ⟨none, 0, rfl, Below.refl _ _, .inl rfl⟩
  | some p =>
    obtain ⟨w1, hw1, m1⟩ : ∃ w1, w.alloc (.cells #[] 31) = w1 ∧ Below w.heap.size w w1 := ⟨_, rfl, Below.al _⟩
    obtain ⟨i0, hi0, hz0, hz1, hz2⟩ := info_parts zeroT
    have hsrc : ∃ news : List Value, news.length = n * 15 ∧ (∀ j u, news[j]? = some u → w.cell? (p.add j) = some u ∧ u.oneCell' = true) := by
      rcases hr with h0 | ⟨b, o, e, hc⟩
      · subst h0; exact ⟨[], by simp, fun j u h => by simp at h⟩
      · cases e
        refine ⟨(List.range (n * 15)).map fun j => (w.cell? ⟨b, o + j, none⟩).getD .nilIface, by simp, fun j u h => ?_⟩
        obtain ⟨hj, he⟩ := List.getElem?_eq_some_iff.1 h
        have hj' : j < n * 15 := by simpa using hj
        obtain ⟨v, hv, h1⟩ := hc j hj'
        simp only [List.getElem_map, List.getElem_range, hv, Option.getD_some] at he
        subst he
        exact ⟨by rw [Addr.add_lit]; exact hv, h1⟩
    obtain ⟨news, hnl, hnews⟩ := hsrc
    obtain ⟨a6, cap6, w6, happ, hg6, hb6, _⟩ := grown_append (P := Tryz.prog) (w := w1) (B := w.heap.size) (T := 31) (k := 15) (xs := []) m1.size (Grown.empty w1 w.heap.size 31 15 w.heap.size) (t := 29) (tx := 29) (ty := 29)
      Tryz.underlying29 hi0 hz0 hz1 rfl hz2 (Src.ofSlice w1 Tryz.underlying29 p n cap news hnl (fun j u hu => by
        have := (hnews j u hu).1
        exact (m1.cell (block_lt_of_cell this)).trans this) (fun u hu => by
        obtain ⟨j, hj, rfl⟩ := List.getElem_of_mem hu
        exact (hnews j _ (List.getElem?_eq_getElem hj)).2)) (by omega) (by omega)
    simp only [Nat.zero_add, List.nil_append] at happ hg6
    have HG := Lib.hid hg6; have HN := Lib.hid hnews; have HNL := Lib.hid hnl; have HAP := Lib.hid happ; have HR := Lib.hid hr
    clear hg6 hnews happ hi0 hz0 hz1 hz2 hnl hr
    go_enter Tryz.func57, Tryz.ntmps57
    go_wp2_with (at_builtin; refine wpList_append_run _ rfl _ _ _ rfl _ _ _ _ rfl rfl HAP.out ?_)
    go_ret
    refine ⟨a6, cap6, rfl, m1.trans (hb6.mono (Nat.le_refl _)), ?_⟩
    by_cases h0 : n = 0
    · exact .inl h0
    · obtain ⟨B, e, hB, hrow, hc⟩ := HG.out.cells (by rw [HNL.out]; omega)
      refine .inr ⟨B, e, hB, hrow, HG.out.le, fun b o j u ha hj hu => ?_⟩
      cases ha
      have hjn : j < news.length := by rw [HNL.out]; exact hj
      have h1 := (HN.out j _ (List.getElem?_eq_getElem hjn)).1
      rw [Addr.add_lit, hu] at h1
      exact hc j u (by rw [List.getElem?_eq_getElem hjn]; exact h1.symm)

theorem WRow.cellsAt {w : World} {l : List Int} {a : Option Addr} (h : WRow w l a) : CellsAt 1 l.length a w := by
  by_cases h0 : l = []
  · left; simp [h0]
  · right
    have hpos : 0 < l.length := List.length_pos_iff.2 h0
    obtain ⟨b, o, e, _⟩ := h.get 0 hpos
    subst e
    refine ⟨b, o, rfl, fun j hj => ?_⟩
    obtain ⟨b', o', e, hc⟩ := h.get j (by omega)
    cases e
    exact ⟨_, hc, rfl⟩
theorem VRow.cellsAt {w : World} {l : List VT} {a : Option Addr} (h : VRow w l a) : CellsAt 3 l.length a w := by
  by_cases h0 : l = []
  · left; simp [h0]
  · right
    have hpos : 0 < l.length := List.length_pos_iff.2 h0
    obtain ⟨b, o, e, _⟩ := h.got 0 hpos
    subst e
    refine ⟨b, o, rfl, fun j hj => ?_⟩
    obtain ⟨b', o', e, a', cap', d0, d1, d2, _⟩ := h.got (j / 3) (by omega)
    cases e
    rcases (by omega : j = j / 3 * 3 ∨ j = j / 3 * 3 + 1 ∨ j = j / 3 * 3 + 2) with e | e | e
    · exact ⟨_, by rw [e]; exact d0, rfl⟩
    · exact ⟨_, by rw [e]; exact d1, rfl⟩
    · exact ⟨_, by rw [e]; exact d2, rfl⟩
theorem TCells.one {w : World} {b o : Nat} {t : TT} {A : TA} (h : TCells w b o t A) : ∀ j, j < 15 → ∃ u, w.cell? ⟨b, o + j, none⟩ = some u ∧ u.oneCell' = true := by
  obtain ⟨h0, h1, h2, h3, h4, h5, h6, h7, h8, h9, h10, h11, h12, h13, h14⟩ := h
  intro j hj
  rcases (by omega : j = 0 ∨ j = 1 ∨ j = 2 ∨ j = 3 ∨ j = 4 ∨ j = 5 ∨ j = 6 ∨ j = 7 ∨ j = 8 ∨ j = 9 ∨ j = 10 ∨ j = 11 ∨ j = 12 ∨ j = 13 ∨ j = 14) with rfl | rfl | rfl | rfl | rfl | rfl | rfl | rfl | rfl | rfl | rfl | rfl | rfl | rfl | rfl
  all_goals exact ⟨_, by assumption, rfl⟩
theorem TRow.cellsAt {w : World} {l : List TT} {a : Option Addr} (h : TRow w l a) : CellsAt 15 l.length a w := by
  by_cases h0 : l = []
  · left; simp [h0]
  · right
    have hpos : 0 < l.length := List.length_pos_iff.2 h0
    obtain ⟨b, o, e, _⟩ := h.get 0 hpos
    subst e
    refine ⟨b, o, rfl, fun j hj => ?_⟩
    obtain ⟨b', o', e, A, hc, _⟩ := h.get (j / 15) (by omega)
    cases e
    obtain ⟨u, hu, h1⟩ := hc.one (j % 15) (Nat.mod_lt _ (by omega))
    have e : o + j = o + j / 15 * 15 + j % 15 := by omega
    exact ⟨u, by rw [e]; exact hu, h1⟩

/-! cells written into one block -/
def setL (B : Nat) : List (Nat × Value) → World → World
  | [], w => w
  | (o, v) :: l, w => setL B l (w.setCell ⟨B, o, none⟩ v)
theorem setL_out (B b o : Nat) : ∀ (l : List (Nat × Value)) (w : World), (b = B → o ∉ l.map (·.1)) → (setL B l w).cell? ⟨b, o, none⟩ = w.cell? ⟨b, o, none⟩
  | [], _, _ => rfl
  | (o', v) :: l, w, h => by
    rw [setL, setL_out B b o l _ (fun e => by have := h e; simp only [List.map_cons, List.mem_cons, not_or] at this; exact this.2)]
    by_cases e : b = B
    · subst e
      have := h rfl
      simp only [List.map_cons, List.mem_cons, not_or] at this
      exact cell_set_off (fun e => this.1 e.symm)
    · exact cell_set_other (fun h => e h.symm)
theorem setL_in (B : Nat) : ∀ (l : List (Nat × Value)) (w : World), (l.map (·.1)).Nodup → (∀ p ∈ l, ∃ x, w.cell? ⟨B, p.1, none⟩ = some x) → ∀ p ∈ l, (setL B l w).cell? ⟨B, p.1, none⟩ = some p.2
  | [], _, _, _, _, h => by cases h
  | (o, v) :: l, w, hn, hc, p, hp => by
    simp only [List.map_cons, List.nodup_cons] at hn
    rcases List.mem_cons.1 hp with rfl | hp
    · obtain ⟨x, hx⟩ := hc (o, v) (by simp)
      rw [setL, setL_out B B o l _ (fun _ => hn.1)]
      exact set_same hx
    · refine setL_in B l _ hn.2 (fun q hq => ?_) p hp
      obtain ⟨x, hx⟩ := hc q (List.mem_cons_of_mem _ hq)
      exact ⟨x, set_off hx (fun e => hn.1 (by rw [e]; exact List.mem_map_of_mem hq))⟩
theorem setL_frozen (B : Nat) (p : Addr) : ∀ (l : List (Nat × Value)) (w : World), (setL B l w).frozen? p = w.frozen? p
  | [], _ => rfl
  | (o, v) :: l, w => by rw [setL, setL_frozen B p l, World.frozen?_setCell]
theorem setL_row (B : Nat) {t b n : Nat} : ∀ (l : List (Nat × Value)) (w : World), RowAt w t b n → RowAt (setL B l w) t b n
  | [], _, h => h
  | (_o, _v) :: l, _w, h => setL_row B l _ (h.set _ _ rfl)
theorem setL_size (B : Nat) : ∀ (l : List (Nat × Value)) (w : World), (setL B l w).heap.size = w.heap.size
  | [], _ => rfl
  | (o, v) :: l, w => by rw [setL, setL_size B l]; simp [World.setCell]
theorem setL_below (B : Nat) {lo : Nat} {a : World} (hB : lo ≤ B) : ∀ (l : List (Nat × Value)) (w : World), Below lo a w → Below lo a (setL B l w)
  | [], _, h => h
  | (o, v) :: l, _w, h => setL_below B hB l _ (h.setCell (p := ⟨B, o, none⟩) hB v)
theorem setL_block (B : Nat) {k : Nat} (hk : k ≠ B) : ∀ (l : List (Nat × Value)) (w : World), (setL B l w).heap[k]? = w.heap[k]?
  | [], _ => rfl
  | (o, v) :: l, w => by rw [setL, setL_block B hk l, Below.heap_setCell w ⟨B, o, none⟩ v k hk]
end Go.Proofs.YtapofbdkofelkaaGreat
/- Plain facts of right nodes, bulk and height. -/
namespace Go.Proofs.YtapofbdkofelkaaGreat
open Go.RowKit

theorem TT.sane_parts {t : TT} {b : Bool} (h : t.sane b = true) : t.node = 0 ∧ (t.kind = 11 → b = true) ∧ TT.sanes b t.kind 0 t.args = true := by
  obtain ⟨k, v, vs, lo, hi, ws, p, l⟩ := t
  rw [TT.sane] at h
  simp only [Bool.and_eq_true, beq_iff_eq, Bool.or_eq_true, bne_iff_ne] at h
  exact ⟨h.1.1, fun e => h.1.2.resolve_left (fun hn => hn e), h.2⟩
theorem TT.sanes_get {b : Bool} {k : Int} : ∀ {l : List TT} {i : Nat}, TT.sanes b k i l = true → ∀ (j : Nat) (hj : j < l.length), l[j].sane (b || (k == 10 && i + j == 1)) = true := by
  intro l
  induction l with
  | nil => intro i _ j hj; simp at hj
  | cons t ts ih =>
    intro i h j hj
    rw [TT.sanes, Bool.and_eq_true] at h
    cases j with
    | zero => simpa using h.1
    | succ j =>
      have := ih h.2 j (by simpa using hj)
      rw [show i + 1 + j = i + (j + 1) by omega] at this
      simpa using this
theorem many_zero {n a b : Int} (h : many n a b = 0) : a ≤ n ∧ n ≤ b := by
  unfold many at h
  split at h
  · omega
  · split at h <;> omega
/-- what is so of a right node. -/
structure TT.Right (t : TT) : Prop where
  k1 : 1 ≤ t.kind
  k2 : t.kind ≤ 11
  vals : TT.values t.kind t.v t.vs = 0
  wgts : TT.weights t.kind t.ws t.p = 0
  ends : TT.ends t.kind t.lo t.hi t.args.length = 0
  argsW : TT.argsW t.kind t.vs.length t.ws.length t.args.length = 0
theorem TT.right {t : TT} (h : t.node = 0) : t.Right := by
  unfold TT.node TT.node1 at h
  split at h
  · omega
  · rename_i h0
    split at h
    · rename_i h1; exact absurd h h1
    · rename_i h1
      split at h
      · rename_i h2; exact absurd h h2
      · rename_i h2
        split at h
        · rename_i h3; exact absurd h h3
        · rename_i h3
          exact ⟨by omega, by omega, by simpa using h1, by simpa using h2, by simpa using h3, h⟩
theorem VT.check_zero {v : VT} (h : v.check = 0) : v.first = 0 ∧ v.deep ≤ 128 ∧ v.size ≤ 4096 := by
  unfold VT.check at h
  split at h
  · rename_i h1; exact absurd h h1
  · rename_i h1
    split at h
    · omega
    · split at h
      · omega
      · exact ⟨by simpa using h1, by omega, by omega⟩
theorem TT.Right.const {t : TT} (h : t.Right) (hk : t.kind = 1) : t.v.check = 0 := by
  have := h.vals
  unfold TT.values at this
  split at this
  · rename_i h1; exact absurd this h1.2
  · rename_i h1
    exact Classical.byContradiction fun hn => h1 ⟨hk, hn⟩
theorem TT.Right.len0 {t : TT} (h : t.Right) (hk : t.kind = 1 ∨ t.kind = 2 ∨ t.kind = 4 ∨ t.kind = 11) : t.args.length = 0 := by
  have := h.argsW
  unfold TT.argsW at this
  rw [if_neg (by omega), if_neg (by omega), if_neg (by omega), if_neg (by omega)] at this
  split at this
  · rename_i h1; exact absurd this h1.2
  · have := many_zero this; omega
theorem TT.Right.len1 {t : TT} (h : t.Right) (hk : t.kind = 6 ∨ t.kind = 9) : t.args.length = 1 := by
  have := h.argsW
  unfold TT.argsW at this
  rw [if_neg (by omega), if_neg (by omega), if_pos hk] at this
  have := many_zero this; omega
theorem TT.Right.len2 {t : TT} (h : t.Right) (hk : t.kind = 10) : t.args.length = 2 := by
  have := h.argsW
  unfold TT.argsW at this
  rw [if_neg (by omega), if_neg (by omega), if_neg (by omega), if_pos hk] at this
  have := many_zero this; omega
theorem TT.Right.list {t : TT} (h : t.Right) (hk : t.kind = 6) : 0 ≤ t.lo ∧ t.lo ≤ t.hi ∧ t.hi ≤ 16 := by
  have := h.ends
  unfold TT.ends at this
  rw [if_neg (by omega), if_pos hk] at this
  split at this <;> omega
theorem TT.Right.sized {t : TT} (h : t.Right) (hk : t.kind = 10) : 0 ≤ t.lo ∧ t.lo ≤ 8 ∧ t.hi = 0 := by
  have := h.ends
  unfold TT.ends at this
  rw [if_neg (by omega), if_neg (by omega), if_neg (by omega), if_pos hk] at this
  split at this
  · split at this <;> omega
  · omega
theorem TT.wts_len {ws : List Int} (h : TT.wts ws = 0) : 1 ≤ ws.length ∧ ws.length ≤ 64 := by
  unfold TT.wts at h
  split at h
  · omega
  · split at h
    · omega
    · omega
theorem TT.Right.wts {t : TT} (h : t.Right) (hk : t.kind = 3 ∨ t.kind = 4) : TT.wts t.ws = 0 := by
  have := h.wgts
  unfold TT.weights at this
  rw [if_neg (by omega)] at this
  split at this
  · omega
  · first | exact this | (rw [if_pos hk] at this; exact this)
theorem TT.Right.freq {t : TT} (h : t.Right) (hk : t.kind = 3) : t.args.length = t.ws.length ∧ 1 ≤ t.args.length ∧ t.args.length ≤ 64 := by
  have h1 := TT.wts_len (h.wts (.inl hk))
  have := h.argsW
  unfold TT.argsW at this
  rw [if_pos hk] at this
  have := many_zero this; omega
theorem TT.Right.alias {t : TT} (h : t.Right) (hk : t.kind = 4) : t.vs.length = t.ws.length ∧ 1 ≤ t.vs.length ∧ t.vs.length ≤ 64 ∧ VT.checks t.vs = 0 := by
  have h1 := TT.wts_len (h.wts (.inr hk))
  have h2 := h.argsW
  unfold TT.argsW at h2
  rw [if_neg (by omega), if_neg (by omega), if_neg (by omega), if_neg (by omega)] at h2
  have h3 := h.vals
  unfold TT.values at h3
  rw [if_neg (by omega)] at h3
  split at h3
  · omega
  · rw [if_neg (by omega)] at h3
    split at h2
    · rename_i h4; exact absurd h2 h4.2
    · rename_i h4
      have h5 : many t.vs.length t.ws.length t.ws.length = 0 := Classical.byContradiction fun hn => h4 ⟨hk, hn⟩
      have := many_zero h5
      exact ⟨by omega, by omega, by omega, h3⟩
theorem TT.Right.len64 {t : TT} (h : t.Right) : t.args.length ≤ 64 := by
  by_cases h3 : t.kind = 3
  · exact (h.freq h3).2.2
  · have := h.argsW
    unfold TT.argsW at this
    rw [if_neg h3] at this
    split at this
    · have := many_zero this; omega
    · split at this
      · have := many_zero this; omega
      · split at this
        · have := many_zero this; omega
        · split at this
          · rename_i h4; exact absurd this h4.2
          · have := many_zero this; omega
theorem VT.checks_get {l : List VT} (h : VT.checks l = 0) {i : Nat} (hi : i < l.length) : l[i].check = 0 := by
  induction l generalizing i with
  | nil => simp at hi
  | cons t ts ih =>
    rw [VT.checks] at h
    split at h
    · rename_i h1; exact absurd h h1
    · rename_i h1
      cases i with
      | zero => simpa using h1
      | succ i => simpa using ih h (by simpa using hi)
theorem VT.checks_drop {l : List VT} {i : Nat} (h : i < l.length) : VT.checks (l.drop i) = if l[i].check ≠ 0 then l[i].check else VT.checks (l.drop (i + 1)) := by rw [drop_cons h, VT.checks]

/-! bulk, high -/
theorem TT.bulks_upto {l : List TT} {i : Nat} (h : i < l.length) (s : Nat) : TT.bulks (l.take (i + 1)) s = TT.bulks (l.take i) s + l[i].bulk s := by
  induction l generalizing i with
  | nil => simp at h
  | cons a l ih =>
    cases i with
    | zero => simp [TT.bulks]
    | succ i => simp only [List.take_succ_cons, TT.bulks, List.getElem_cons_succ]; rw [ih (by simpa using h)]; omega
theorem TT.bulks_upto_le (l : List TT) (i s : Nat) : TT.bulks (l.take i) s ≤ TT.bulks l s := by
  induction l generalizing i with
  | nil => simp
  | cons a l ih => cases i with
    | zero => simp [TT.bulks]
    | succ i => simp only [List.take_succ_cons, TT.bulks]; have := ih i; omega
theorem TT.highs_upto {l : List TT} {i : Nat} (h : i < l.length) (s : Nat) : TT.highs (l.take (i + 1)) s = max (TT.highs (l.take i) s) (l[i].high s) := by
  induction l generalizing i with
  | nil => simp at h
  | cons a l ih =>
    cases i with
    | zero => simp [TT.highs]
    | succ i => simp only [List.take_succ_cons, TT.highs, List.getElem_cons_succ]; rw [ih (by simpa using h)]; omega
section
variable (v : VT) (vs : List VT) (lo hi : Int) (ws : List Int) (p : PT) (l : List TT) (s : Nat)
theorem TT.bulk1 : TT.bulk (.mk 1 v vs lo hi ws p l) s = v.size := by rw [TT.bulk]; simp
theorem TT.bulk11 : TT.bulk (.mk 11 v vs lo hi ws p l) s = s := by rw [TT.bulk]; simp
theorem TT.bulkS : TT.bulk (.mk 10 v vs lo hi ws p l) s = TT.bulk10 l lo.toNat s := by rw [TT.bulk]; simp
theorem TT.bulk2 : TT.bulk (.mk 2 v vs lo hi ws p l) s = 1 := by rw [TT.bulk]; simp
theorem TT.bulk4 : TT.bulk (.mk 4 v vs lo hi ws p l) s = 1 + VT.sizes vs := by rw [TT.bulk]; simp
theorem TT.bulk6 : TT.bulk (.mk 6 v vs lo hi ws p l) s = 1 + (max 1 hi).toNat * TT.bulks l s := by rw [TT.bulk]; simp
theorem TT.bulkA {k : Int} (h : k = 3 ∨ k = 5 ∨ k = 7 ∨ k = 8 ∨ k = 9) : TT.bulk (.mk k v vs lo hi ws p l) s = 1 + TT.bulks l s := by
  rw [TT.bulk, if_neg (by omega), if_neg (by omega), if_neg (by omega), if_neg (by omega), if_neg (by omega), if_neg (by omega)]
theorem TT.high1 : TT.high (.mk 1 v vs lo hi ws p l) s = v.deep := by rw [TT.high]; simp
theorem TT.high11 : TT.high (.mk 11 v vs lo hi ws p l) s = s := by rw [TT.high]; simp
theorem TT.highS : TT.high (.mk 10 v vs lo hi ws p l) s = TT.high10 l lo.toNat s := by rw [TT.high]; simp
theorem TT.high2 : TT.high (.mk 2 v vs lo hi ws p l) s = 1 := by rw [TT.high]; simp
theorem TT.high4 : TT.high (.mk 4 v vs lo hi ws p l) s = VT.deeps vs := by rw [TT.high]; simp
theorem TT.high6 : TT.high (.mk 6 v vs lo hi ws p l) s = if hi = 0 then 1 else 1 + TT.highs l s := by rw [TT.high]; simp
theorem TT.highF {k : Int} (h : k = 3 ∨ k = 9) : TT.high (.mk k v vs lo hi ws p l) s = TT.highs l s := by
  rw [TT.high, if_neg (by omega), if_neg (by omega), if_neg (by omega), if_neg (by omega), if_neg (by omega), if_neg (by omega), if_pos h]
theorem TT.highA {k : Int} (h : k = 5 ∨ k = 7 ∨ k = 8) : TT.high (.mk k v vs lo hi ws p l) s = 1 + TT.highs l s := by
  rw [TT.high, if_neg (by omega), if_neg (by omega), if_neg (by omega), if_neg (by omega), if_neg (by omega), if_neg (by omega), if_neg (by omega)]
end
theorem TT.bulk10_two (a b : TT) (r : List TT) (n s : Nat) : TT.bulk10 (a :: b :: r) n s = iter (fun r => 1 + b.bulk r) n (1 + a.bulk s) := by rw [TT.bulk10, TT.bulk10s]
theorem TT.high10_two (a b : TT) (r : List TT) (n s : Nat) : TT.high10 (a :: b :: r) n s = iter (fun r => b.high r) n (a.high s) := by rw [TT.high10, TT.high10s]
theorem iter_succ (f : Nat → Nat) (n x : Nat) : iter f (n + 1) x = f (iter f n x) := rfl
theorem iter_zero (f : Nat → Nat) (x : Nat) : iter f 0 x = x := rfl
/-- the kinds, one by one. -/
theorem kinds {k : Int} (h1 : 1 ≤ k) (h2 : k ≤ 11) : k = 1 ∨ k = 2 ∨ k = 3 ∨ k = 4 ∨ k = 5 ∨ k = 6 ∨ k = 7 ∨ k = 8 ∨ k = 9 ∨ k = 10 ∨ k = 11 := by omega
theorem two_of {l : List TT} (h : l.length = 2) : ∃ a b, l = [a, b] := by
  match l, h with
  | [a, b], _ => exact ⟨a, b, rfl⟩
theorem one_of {l : List TT} (h : l.length = 1) : ∃ a, l = [a] := by
  match l, h with
  | [a], _ => exact ⟨a, rfl⟩
mutual
theorem TT.bulk_pos : ∀ (t : TT) (b : Bool) (s : Nat), t.sane b = true → 1 ≤ s → 1 ≤ t.bulk s
  | .mk k v vs lo hi ws p l, b, s, h, hs => by
    obtain ⟨hn, _, hl⟩ := TT.sane_parts h
    simp only [TT.kind, TT.args] at hl
    rw [TT.bulk]
    split
    · exact VT.size_pos v
    · split
      · exact hs
      · split
        · rename_i h10
          exact TT.bulk10_pos l k lo.toNat s b h10 hl hs
        · split
          · omega
          · split
            · omega
            · split <;> omega
theorem TT.bulk10_pos : ∀ (l : List TT) (k : Int) (n s : Nat) (b : Bool), k = 10 → TT.sanes b k 0 l = true → 1 ≤ s → 1 ≤ TT.bulk10 l n s
  | [], k, n, s, b, _, _, _ => by rw [TT.bulk10]; omega
  | [a], k, n, s, b, _, _, _ => by rw [TT.bulk10, TT.bulk10s]; omega
  | a :: c :: l, k, n, s, b, _, _, _ => by
    rw [TT.bulk10, TT.bulk10s]
    exact iter_pos (fun x _ => by omega) n _ (by omega)
end
mutual
theorem TT.high_le : ∀ (t : TT) (b : Bool) (s s' : Nat), t.sane b = true → s ≤ s' → t.high s ≤ t.bulk s'
  | .mk k v vs lo hi ws p l, b, s, s', h, hs => by
    obtain ⟨hn, _, hl⟩ := TT.sane_parts h
    have hR := TT.right hn
    simp only [TT.kind, TT.args] at hl
    have h1 := hR.k1
    have h2 := hR.k2
    simp only [TT.kind] at h1 h2
    rcases kinds h1 h2 with rfl | rfl | rfl | rfl | rfl | rfl | rfl | rfl | rfl | rfl | rfl
    · rw [TT.bulk1, TT.high1]; exact (VT.deep_le v).2
    · rw [TT.bulk2, TT.high2]; omega
    · rw [TT.bulkA _ _ _ _ _ _ _ _ (by omega), TT.highF _ _ _ _ _ _ _ _ (by omega)]
      have := TT.highs_le l 3 0 b s s' (by omega) hl hs; omega
    · rw [TT.bulk4, TT.high4]; have := VT.deeps_le vs; omega
    · rw [TT.bulkA _ _ _ _ _ _ _ _ (by omega), TT.highA _ _ _ _ _ _ _ _ (by omega)]
      have := TT.highs_le l 5 0 b s s' (by omega) hl hs; omega
    · rw [TT.bulk6, TT.high6]
      have h3 := TT.highs_le l 6 0 b s s' (by omega) hl hs
      split
      · omega
      · have h4 : 1 ≤ (max 1 hi).toNat := by omega
        have := Nat.le_mul_of_pos_left (TT.bulks l s') h4
        omega
    · rw [TT.bulkA _ _ _ _ _ _ _ _ (by omega), TT.highA _ _ _ _ _ _ _ _ (by omega)]
      have := TT.highs_le l 7 0 b s s' (by omega) hl hs; omega
    · rw [TT.bulkA _ _ _ _ _ _ _ _ (by omega), TT.highA _ _ _ _ _ _ _ _ (by omega)]
      have := TT.highs_le l 8 0 b s s' (by omega) hl hs; omega
    · rw [TT.bulkA _ _ _ _ _ _ _ _ (by omega), TT.highF _ _ _ _ _ _ _ _ (by omega)]
      have := TT.highs_le l 9 0 b s s' (by omega) hl hs; omega
    · rw [TT.bulkS, TT.highS]; exact TT.high10_le l lo.toNat b s s' hl hs
    · rw [TT.bulk11, TT.high11]; exact hs
theorem TT.highs_le : ∀ (l : List TT) (k : Int) (i : Nat) (b : Bool) (s s' : Nat), k ≠ 10 → TT.sanes b k i l = true → s ≤ s' → TT.highs l s ≤ TT.bulks l s'
  | [], _, _, _, _, _, _, _, _ => by rw [TT.highs]; omega
  | t :: ts, k, i, b, s, s', hk, h, hs => by
    rw [TT.sanes, Bool.and_eq_true] at h
    have h1 := TT.high_le t _ s s' h.1 hs
    have h2 := TT.highs_le ts k (i + 1) b s s' hk h.2 hs
    rw [TT.highs, TT.bulks]; omega
theorem TT.high10_le : ∀ (l : List TT) (n : Nat) (b : Bool) (s s' : Nat), TT.sanes b 10 0 l = true → s ≤ s' → TT.high10 l n s ≤ TT.bulk10 l n s'
  | [], _, _, _, _, _, _ => by rw [TT.high10, TT.bulk10]; omega
  | [a], n, b, s, s', _, _ => by rw [TT.high10, TT.bulk10, TT.high10s, TT.bulk10s]; omega
  | a :: c :: l, n, b, s, s', h, hs => by
    rw [TT.sanes, TT.sanes, Bool.and_eq_true, Bool.and_eq_true] at h
    have h1 := TT.high_le a _ s s' h.1 hs
    rw [TT.high10, TT.bulk10, TT.high10s, TT.bulk10s]
    exact iter_le (fun x y hxy => by have := TT.high_le c _ x y h.2.1 hxy; omega) n _ _ (by omega)
end
theorem VT.deeps_pos {l : List VT} (h : 1 ≤ l.length) : 1 ≤ VT.deeps l := by
  match l, h with
  | a :: l, _ => rw [VT.deeps]; have := (VT.deep_le a).1; omega
mutual
theorem TT.high_pos : ∀ (t : TT) (b : Bool) (s : Nat), t.sane b = true → 1 ≤ s → 1 ≤ t.high s
  | .mk k v vs lo hi ws p l, b, s, h, hs => by
    obtain ⟨hn, _, hl⟩ := TT.sane_parts h
    have hR := TT.right hn
    simp only [TT.kind, TT.args] at hl
    have h1 := hR.k1
    have h2 := hR.k2
    simp only [TT.kind] at h1 h2
    rcases kinds h1 h2 with rfl | rfl | rfl | rfl | rfl | rfl | rfl | rfl | rfl | rfl | rfl
    · rw [TT.high1]; exact (VT.deep_le v).1
    · rw [TT.high2]; omega
    · rw [TT.highF _ _ _ _ _ _ _ _ (by omega)]
      exact TT.highs_pos l 3 0 b s (by omega) (hR.freq rfl).2.1 hl hs
    · rw [TT.high4]; exact VT.deeps_pos (hR.alias rfl).2.1
    · rw [TT.highA _ _ _ _ _ _ _ _ (by omega)]; omega
    · rw [TT.high6]; split <;> omega
    · rw [TT.highA _ _ _ _ _ _ _ _ (by omega)]; omega
    · rw [TT.highA _ _ _ _ _ _ _ _ (by omega)]; omega
    · rw [TT.highF _ _ _ _ _ _ _ _ (by omega)]
      exact TT.highs_pos l 9 0 b s (by omega) (by have := hR.len1 (.inr rfl); simp only [TT.args] at this; omega) hl hs
    · rw [TT.highS]; exact TT.high10_pos l lo.toNat b s hl hs
    · rw [TT.high11]; exact hs
theorem TT.highs_pos : ∀ (l : List TT) (k : Int) (i : Nat) (b : Bool) (s : Nat), k ≠ 10 → 1 ≤ l.length → TT.sanes b k i l = true → 1 ≤ s → 1 ≤ TT.highs l s
  | [], _, _, _, _, _, h, _, _ => by simp at h
  | t :: ts, k, i, b, s, hk, _, h, hs => by
    rw [TT.sanes, Bool.and_eq_true] at h
    have h1 := TT.high_pos t _ s h.1 hs
    rw [TT.highs]; omega
theorem TT.high10_pos : ∀ (l : List TT) (n : Nat) (b : Bool) (s : Nat), TT.sanes b 10 0 l = true → 1 ≤ s → 1 ≤ TT.high10 l n s
  | [], _, _, _, _, _ => by rw [TT.high10]; omega
  | [a], n, b, s, _, _ => by rw [TT.high10, TT.high10s]; omega
  | a :: c :: l, n, b, s, h, hs => by
    rw [TT.sanes, TT.sanes, Bool.and_eq_true, Bool.and_eq_true] at h
    have h1 := TT.high_pos a _ s h.1 hs
    rw [TT.high10, TT.high10s]
    exact iter_pos (fun x hx => TT.high_pos c _ x h.2.1 hx) n _ h1
end
theorem TT.ends10 (lo hi : Int) (n : Nat) : TT.ends 10 lo hi n = if 0 ≤ lo ∧ lo ≤ 8 then (if hi = 0 then 0 else 3) else 1 := by simp [TT.ends]
/-- what is so of a step. -/
theorem TT.step_facts {t : TT} (hk : t.kind = 10) (hs : t.sane false = true) : t.step.sane false = true ∧ t.bulk 0 = 1 + t.step.bulk 0 ∧ t.high 0 = t.step.high 0 ∧ (t.lean = true → t.step.lean = true) := by
  obtain ⟨hn, _, hl⟩ := TT.sane_parts hs
  have hR := TT.right hn
  have h2 := hR.len2 hk
  obtain ⟨h3, h4, h5⟩ := hR.sized hk
  obtain ⟨k, v, vs, lo, hi, ws, p, l⟩ := t
  simp only [TT.kind, TT.args, TT.lo, TT.hi] at hk hl h2 h3 h4 h5
  subst hk
  obtain ⟨a, b, rfl⟩ := two_of h2
  have hl0 := hl
  rw [TT.sanes, TT.sanes, Bool.and_eq_true, Bool.and_eq_true] at hl
  have ha : a.sane false = true := by simpa using hl.1
  have hb : b.sane true = true := by simpa using hl.2.1
  by_cases h0 : lo = 0
  · have e : TT.step (.mk 10 v vs lo hi ws p [a, b]) = a := by simp [TT.step, TT.args, TT.lo, h0]
    rw [e, TT.bulkS, TT.highS, TT.bulk10_two, TT.high10_two, h0]
    refine ⟨ha, rfl, rfl, fun h => ?_⟩
    have := (TT.lean_parts h).2
    simp only [TT.args, TT.leans, Bool.and_eq_true] at this
    exact this.1
  · have e : TT.step (.mk 10 v vs lo hi ws p [a, b]) = b.put (.mk 10 v vs (lo - 1) hi ws p [a, b]) := by simp [TT.step, TT.args, TT.lo, h0, TT.less]
    have hless : TT.sane false (.mk 10 v vs (lo - 1) hi ws p [a, b]) = true := by
      rw [TT.sane]
      simp only [Bool.and_eq_true]
      refine ⟨⟨?_, by decide⟩, hl0⟩
      have e1 : TT.node (.mk 10 v vs (lo - 1) hi ws p [a, b]) = TT.node (.mk 10 v vs lo hi ws p [a, b]) := by
        show TT.node1 10 v vs (lo - 1) hi ws p 2 = TT.node1 10 v vs lo hi ws p 2
        have e2 : TT.ends 10 (lo - 1) hi 2 = TT.ends 10 lo hi 2 := by
          rw [TT.ends10, TT.ends10, if_pos (show 0 ≤ lo - 1 ∧ lo - 1 ≤ 8 from ⟨by omega, by omega⟩), if_pos (show 0 ≤ lo ∧ lo ≤ 8 from ⟨by omega, by omega⟩)]
        unfold TT.node1
        rw [e2]
      rw [e1, hn]; rfl
    rw [e, TT.bulk_put, TT.high_put, TT.bulkS, TT.highS, TT.bulkS, TT.highS, TT.bulk10_two, TT.high10_two, TT.bulk10_two, TT.high10_two]
    have e3 : lo.toNat = (lo - 1).toNat + 1 := by omega
    rw [e3]
    refine ⟨TT.sane_put _ false hless b hb, rfl, rfl, fun h => ?_⟩
    have h6 := h
    rw [TT.lean] at h6
    have h7 := (TT.lean_parts h).2
    simp only [TT.args, TT.leans, Bool.and_eq_true] at h7
    exact TT.lean_put _ (by rw [TT.lean]; exact h6) b h7.2.1
end Go.Proofs.YtapofbdkofelkaaGreat
