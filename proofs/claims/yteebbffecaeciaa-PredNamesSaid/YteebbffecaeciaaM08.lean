/- Texts of this claim laid into one: TWalkA, VGrow, TFreq, PFresh, TFresh, VCopy, VMake. -/
import Derived.Test.YteebbffecaeciaaM07
import Derived.Test.YteebbffecaeciaaM01
import Derived.Deep.AppendSrc
import Derived.Laws.AppendOwn
import Derived.OwnWalk
/- term's and the document's small functions over a node. -/
namespace Go.Proofs.Yteebbffecaeciaa
open Go.RowKit

theorem box15 (w : World) (x0 x1 x2 x3 x4 x5 x6 x7 x8 x9 x10 x11 x12 x13 x14 : Value) (T : Nat) : ∃ w4, w.alloc (.cells #[x0, x1, x2, x3, x4, x5, x6, x7, x8, x9, x10, x11, x12, x13, x14] T) = w4 ∧ Below w.heap.size w w4 ∧ w.heap.size < w4.heap.size ∧ RowAt w4 T w.heap.size 15 ∧
    w4.cell? ⟨w.heap.size, 0, none⟩ = some x0 ∧ w4.cell? ⟨w.heap.size, 1, none⟩ = some x1 ∧ w4.cell? ⟨w.heap.size, 2, none⟩ = some x2 ∧ w4.cell? ⟨w.heap.size, 3, none⟩ = some x3 ∧ w4.cell? ⟨w.heap.size, 4, none⟩ = some x4 ∧ w4.cell? ⟨w.heap.size, 5, none⟩ = some x5 ∧ w4.cell? ⟨w.heap.size, 6, none⟩ = some x6 ∧ w4.cell? ⟨w.heap.size, 7, none⟩ = some x7 ∧ w4.cell? ⟨w.heap.size, 8, none⟩ = some x8 ∧ w4.cell? ⟨w.heap.size, 9, none⟩ = some x9 ∧ w4.cell? ⟨w.heap.size, 10, none⟩ = some x10 ∧ w4.cell? ⟨w.heap.size, 11, none⟩ = some x11 ∧ w4.cell? ⟨w.heap.size, 12, none⟩ = some x12 ∧ w4.cell? ⟨w.heap.size, 13, none⟩ = some x13 ∧ w4.cell? ⟨w.heap.size, 14, none⟩ = some x14 := by
  refine ⟨_, rfl, Below.al _, by simp, RowAt.new w _ T, ?_, ?_, ?_, ?_, ?_, ?_, ?_, ?_, ?_, ?_, ?_, ?_, ?_, ?_, ?_⟩
  all_goals go_simp

theorem tnone_any (k n : Int) (a : Option Addr) (len cap : Nat) (w : World) :
    Calls Try.prog 112 #[.agg #[.int .u8 k, .int .i64 n, .slice a len cap]] w fun e w' => e = .returned (.bool (k == 0 && n == 0 && len == 0)) ∧ Below w.heap.size w w' := by
  have hk : (k == 0) = true ∨ (k == 0) = false := by cases h : (k == 0) <;> simp
  have hn : (n == 0) = true ∨ (n == 0) = false := by cases h : (n == 0) <;> simp
  rcases hk with hk | hk
  · rcases hn with hn | hn
    · go_enter Try.func112, Try.ntmps112
      go_wp2_with fail
      go_ret
      exact ⟨ret_bool (by rw [hk, hn, Bool.eq_iff_iff]; simp), Below.al _⟩
    · go_enter Try.func112, Try.ntmps112
      go_wp2_with fail
      go_ret
      exact ⟨ret_bool (by rw [hk, hn]; rfl), Below.al _⟩
  · go_enter Try.func112, Try.ntmps112
    go_wp2_with fail
    go_ret
    exact ⟨ret_bool (by rw [hk]; rfl), Below.al _⟩
def unlessI (b : Bool) : Int := if b then 0 else 3
theorem unless_any (b : Bool) (w : World) : Calls Try.prog 111 #[.bool b] w fun e w' => e = .returned (.int .i64 (unlessI b)) ∧ w = w' := by
  cases b
  all_goals
    go_enter Try.func111, Try.ntmps111
    go_wp2
    go_ret
    exact ⟨rfl, rfl⟩
theorem within_any (n a b : Int) (w : World) : Calls Try.prog 115 #[.int .i64 n, .int .i64 a, .int .i64 b] w fun e w' => e = .returned (.bool (decide (a ≤ n) && decide (n ≤ b))) ∧ w = w' := by
  by_cases h : a ≤ n
  · go_enter Try.func115, Try.ntmps115
    go_wp2
    go_ret
    exact ⟨ret_bool (by rw [Bool.eq_iff_iff]; simp <;> omega), rfl⟩
  · go_enter Try.func115, Try.ntmps115
    go_wp2
    go_ret
    exact ⟨ret_bool (by rw [Bool.eq_iff_iff]; simp <;> omega), rfl⟩
theorem many_any (n a b : Int) (w : World) : Calls Try.prog 116 #[.int .i64 n, .int .i64 a, .int .i64 b] w fun e w' => e = .returned (.int .i64 (many n a b)) ∧ w = w' := by
  by_cases h : n < a
  · go_enter Try.func116, Try.ntmps116
    go_wp2
    go_ret
    exact ⟨ret_int (by unfold many; split <;> (try split) <;> omega), rfl⟩
  · by_cases h2 : b < n
    · go_enter Try.func116, Try.ntmps116
      go_wp2
      go_ret
      exact ⟨ret_int (by unfold many; split <;> (try split) <;> omega), rfl⟩
    · go_enter Try.func116, Try.ntmps116
      go_wp2
      go_ret
      exact ⟨ret_int (by unfold many; split <;> (try split) <;> omega), rfl⟩
/-! what is wrong of the weights -/
theorem sumW_snoc (l : List Int) (x : Int) : sumW (l ++ [x]) = sumW l + x := by
  induction l with
  | nil => simp [sumW]
  | cons a l ih => simp only [sumW, List.cons_append, List.foldr_cons] at ih ⊢; rw [ih]; omega
theorem sumW_take {l : List Int} {i : Nat} (h : i < l.length) : sumW (l.take (i + 1)) = sumW (l.take i) + l[i] := by
  rw [List.take_add_one, List.getElem?_eq_getElem h, Option.toList_some, sumW_snoc]
theorem badW_take {l : List Int} {i : Nat} (h : i < l.length) : (l.take (i + 1)).any badW = ((l.take i).any badW || badW l[i]) := by rw [List.take_add_one, List.getElem?_eq_getElem h, Option.toList_some, List.any_append]; simp
theorem TT.wts_bad {l : List Int} {i : Nat} (h : i < l.length) (h1 : ¬ l.length = 0) (h2 : ¬ 64 < l.length) (hb : badW l[i] = true) : TT.wts l = 1 := by
  unfold TT.wts
  rw [if_neg h1, if_neg h2, if_pos]
  rw [List.any_eq_true]
  exact ⟨_, List.getElem_mem h, hb⟩
theorem TT.wts_good {l : List Int} (h1 : ¬ l.length = 0) (h2 : ¬ 64 < l.length) (hb : l.any badW = false) : TT.wts l = if sumW l = 0 then 7 else 0 := by
  unfold TT.wts
  rw [if_neg h1, if_neg h2, hb, if_neg (by simp)]
end Go.Proofs.Yteebbffecaeciaa
/- A row that append builds. -/
namespace Go.Proofs.Yteebbffecaeciaa
open Go.RowKit

theorem below_setRow {B : Nat} {a : World} (b : Nat) (hb : B ≤ b) : ∀ (vs : List Value) (o : Nat) (w : World), Below B a w → Below B a (w.setCells b o vs)
  | [], _, _, h => h
  | v :: r, o, _, h => below_setRow b hb r (o + 1) _ (h.setCell (p := ⟨b, o, none⟩) hb v)
theorem heap_setRow (b k : Nat) (h : k ≠ b) : ∀ (vs : List Value) (o : Nat) (w : World), (w.setCells b o vs).heap[k]? = w.heap[k]?
  | [], _, _ => rfl
  | v :: r, o, w => by rw [World.setCells, heap_setRow b k h r]; exact Below.heap_setCell w ⟨b, o, none⟩ v k h
theorem size_setRow (b : Nat) : ∀ (vs : List Value) (o : Nat) (w : World), (w.setCells b o vs).heap.size = w.heap.size
  | [], _, _ => rfl
  | v :: r, o, w => by rw [World.setCells, size_setRow b r]; simp [World.setCell]
theorem RowAt.sets {t b n : Nat} (b' : Nat) : ∀ (vs : List Value) (o : Nat) (w : World), RowAt w t b n → RowAt (w.setCells b' o vs) t b n
  | [], _, _, h => h
  | v :: r, o, _, h => RowAt.sets b' r (o + 1) _ (h.set ⟨b', o, none⟩ v rfl)

/-- a row that grows: len elements of k cells each, and what they hold; its block, if it has one, is younger than B. -/
structure Grown (w : World) (B T k len : Nat) (xs : List Value) (a : Option Addr) (cap : Nat) : Prop where
  size : xs.length = len * k
  le : len ≤ cap
  row : (cap = 0 ∧ (a = none ∨ ∃ b, a = some ⟨b, 0, none⟩)) ∨ ∃ b, a = some ⟨b, 0, none⟩ ∧ B ≤ b ∧ RowAt w T b (cap * k) ∧ ∀ j v, xs[j]? = some v → w.cell? ⟨b, j, none⟩ = some v
theorem Grown.nil (w : World) (B T k : Nat) : Grown w B T k 0 [] none 0 := ⟨by simp, Nat.le_refl _, .inl ⟨rfl, .inl rfl⟩⟩
theorem Grown.empty (w : World) (B T k b : Nat) : Grown w B T k 0 [] (some ⟨b, 0, none⟩) 0 := ⟨by simp, Nat.le_refl _, .inl ⟨rfl, .inr ⟨b, rfl⟩⟩⟩
theorem Grown.below {w w' : World} {B T k len cap : Nat} {xs : List Value} {a : Option Addr} (h : Grown w B T k len xs a cap) (hb : Below w.heap.size w w') : Grown w' B T k len xs a cap :=
  ⟨h.size, h.le, h.row.imp id fun ⟨b, ha, hB, hr, hc⟩ => ⟨b, ha, hB, hr.below hr.lt hb, fun j v hv => cell_stays hb (hc j v hv)⟩⟩
theorem Grown.cells {w : World} {B T k len cap : Nat} {xs : List Value} {a : Option Addr} (h : Grown w B T k len xs a cap) (hk : 0 < xs.length) : ∃ b, a = some ⟨b, 0, none⟩ ∧ B ≤ b ∧ RowAt w T b (cap * k) ∧ ∀ j v, xs[j]? = some v → w.cell? ⟨b, j, none⟩ = some v := by
  rcases h.row with ⟨h0, _⟩ | h1
  · have h2 := h.size; have h3 := h.le
    rw [h0] at h3
    have h4 : len = 0 := by omega
    rw [h4] at h2; simp at h2; rw [h2] at hk; simp at hk
  · exact h1

theorem grown_append {P : Program} {w : World} {B T k len cap : Nat} {xs : List Value} {a : Option Addr} (hB : B ≤ w.heap.size) (h : Grown w B T k len xs a cap)
    {t tx ty : TypeId} {i : TypeInfo} {z : Value} {bytes : Nat} (ht : P.underlying t = some (.slice T)) (hi : P.info? T = some i) (hz : i.zero = some z) (hs : i.size = k) (hzs : z.cells.size = k) (hby : i.bytes = bytes)
    {x : Value} {n : Nat} {news : List Value} (src : Src P k tx x n news w) (hn : (len + n) * bytes ≤ 140737488355328) (h63 : len + n ≤ 9223372036854775807) :
    ∃ a' cap' w', (Builtin.append_ #[t, tx] ty #[.slice a len cap, x]).run P w = .ok (.slice a' (len + n) cap') w' ∧ Grown w' B T k (len + n) (xs ++ news) a' cap' ∧ Below B w w' ∧
      (∀ k, k < w.heap.size → (∀ b', a = some ⟨b', 0, none⟩ → k ≠ b') → w'.heap[k]? = w.heap[k]? ∧ ∀ b', a' = some ⟨b', 0, none⟩ → k ≠ b') := by
  subst hs
  have hnl := src.newsLen
  by_cases hroom : len + n ≤ cap
  · rcases h.row with ⟨h0, hr⟩ | ⟨b, rfl, hb, hrow, hc⟩
    · have e1 : len = 0 := by omega
      have e2 : n = 0 := by omega
      subst h0 e1 e2
      have e3 : news = [] := List.length_eq_zero_iff.1 (by rw [hnl]; simp)
      have e4 : xs = [] := List.length_eq_zero_iff.1 (by rw [h.size]; simp)
      subst e3 e4
      rcases hr with rfl | ⟨b, rfl⟩
      · refine ⟨none, 0, w, ?_, Grown.nil _ _ _ _, Below.refl _ _, fun k _ _ => ⟨rfl, fun b' h => by cases h⟩⟩
        rcases src.kind with ⟨e', hk⟩ | hk <;> simp [Builtin.append_, run_underlying ht, run_underlying hk, sizeOf, typeInfo, hi, src.len, src.cells]
      · refine ⟨_, 0, w, ?_, Grown.empty _ _ _ _ b, Below.refl _ _, fun k _ hn => ⟨rfl, hn⟩⟩
        have := run_append_room_src (ty := ty) w t tx T i ht hi b 0 0 0 x 0 [] src (by omega) (by simp) (by simp)
        simpa [World.setCells] using this
    · have hlt : (len + n) * i.size ≤ cap * i.size := Nat.mul_le_mul_right _ hroom
      rw [Nat.add_mul] at hlt
      have := run_append_room_src (ty := ty) w t tx T i ht hi b 0 len cap x n news src hroom
        (fun j hj => by obtain ⟨v, hv⟩ := hrow.cell (len * i.size + j) (by omega); simp only [Nat.zero_add]; rw [hv]; rfl) (fun j hj => hrow.frozen _)
      simp only [Nat.zero_add] at this
      refine ⟨_, cap, _, this, ⟨?_, hroom, .inr ⟨b, rfl, hb, hrow.sets _ _ _ _, fun j v hv => ?_⟩⟩, below_setRow b hb _ _ _ (Below.refl _ _), fun k _ hn => ⟨heap_setRow b k (hn b rfl) _ _ _, hn⟩⟩
      · rw [List.length_append, h.size, hnl, Nat.add_mul]
      · by_cases hj : j < xs.length
        · rw [List.getElem?_append_left hj] at hv
          rw [World.cell?_setCells_out b news _ w _ (fun _ _ => .inl (by have := h.size; show j < len * i.size; omega))]
          exact hc j v hv
        · rw [List.getElem?_append_right (by omega)] at hv
          obtain ⟨hl, rfl⟩ := List.getElem?_eq_some_iff.1 hv
          have := World.cell?_setCells_in b news (len * i.size) w (fun j hj => by obtain ⟨v, hv⟩ := hrow.cell (len * i.size + j) (by omega); rw [hv]; rfl) (j - xs.length) hl
          rw [← this]; congr 2; have := h.size; omega
  · have hold : (Builtin.firstCells i.size len (.slice a len cap)).run P w.drew = .ok xs.toArray w.drew := by
      rcases h.row with ⟨h0, hr⟩ | ⟨b, rfl, hb, hrow, hc⟩
      · have hle := h.le
        have e1 : len = 0 := by omega
        subst e1 h0
        have e4 : xs = [] := List.length_eq_zero_iff.1 (by rw [h.size]; simp)
        subst e4
        rcases hr with rfl | ⟨b, rfl⟩
        · exact run_firstCells_none _ _ _ _ _
        · exact run_firstCells_some _ _ _ _ _ _ [] (by simp) (by simp)
      · exact run_firstCells_some _ _ _ _ _ _ xs h.size (fun j v hv => by have := hc j v hv; simpa [Addr.add_lit] using this)
    have hfit := growslice_fits (need := len + n) (old := cap) (bytes := i.bytes) (by omega) (by rw [hby]; omega)
    have := run_append_grow_src (ty := ty) w t tx T i z ht hi hz a len cap xs hold x n news src (by omega) (by omega) hfit
    have hge := grownCap_ge w (len + n) cap T
    refine ⟨_, _, _, this, ⟨?_, hge, .inr ⟨w.heap.size, rfl, hB, ?_, fun j v hv => ?_⟩⟩, (Below.refl _ _).drew.alloc hB _, fun k hk _ => ⟨((Below.refl _ w).drew.alloc (Nat.le_refl _) _).block k hk, fun b' h => by cases h; omega⟩⟩
    · rw [List.length_append, h.size, hnl, Nat.add_mul]
    · have hr := RowAt.new w.drew ((xs ++ news).toArray ++ Builtin.zeroCells z.cells (grownCap w (len + n) cap T - (len + n))) T
      have e : ((xs ++ news).toArray ++ Builtin.zeroCells z.cells (grownCap w (len + n) cap T - (len + n))).size = grownCap w (len + n) cap T * i.size := by
        rw [Array.size_append, size_zeroCells, hzs]
        simp only [List.size_toArray, List.length_append, h.size, hnl]
        rw [← Nat.add_mul, ← Nat.add_mul]; congr 1; omega
      rw [e] at hr; exact hr
    · obtain ⟨hl, rfl⟩ := List.getElem?_eq_some_iff.1 hv
      show (World.alloc w.drew _).cell? _ = _
      rw [show w.heap.size = w.drew.heap.size from rfl]
      go_simp
      rw [Array.getElem?_append_left (by simpa using hl)]
      simp

/-- 'append' in a walk, its run known. -/
theorem wpList_append_run {P : Program} (w : World) {ops : Array Oper} {rest : List Oper} {o : Oper} {a : Act} {Q : Exit → Act → World → Prop}
    (hg : o.guard = none) (s x : Operand) (t : TypeId) (hop : o.op = Op.call { callee := Callee.builtin Builtin.append, args := #[s, x], argTypes := #[t, t] }) (sv xv v : Value) (w' : World)
    (hs : a.eval s = sv) (hx : a.eval x = xv) (hrun : (Builtin.append_ #[t, t] o.type #[sv, xv]).run P w = .ok v w') (hK : wpList P ops Q rest (a.put o.dst v) w') : wpList P ops Q (o :: rest) a w := by
  refine wpList_plain hg fun K hK' => ?_
  unfold Oper.wp
  simp [execOp, hop, resolve, invoke, builtin, hs, hx, hrun, Result.andThen]
  exact hK' _ _ hK
end Go.Proofs.Yteebbffecaeciaa
/- What is wrong of weights: freq.New, tombolaref11.Wrong. -/
namespace Go.Proofs.Yteebbffecaeciaa
open Go.RowKit

theorem zero64 : (Try.prog.info? 2).map (fun i => (i.zero, i.size, i.bytes)) = some (some (.int .i64 0), 1, 8) := by kernel_rfl
theorem sumW_bd {l : List Int} (h : l.any badW = false) : 0 ≤ sumW l ∧ sumW l ≤ l.length * 1048576 := by
  induction l with
  | nil => simp [sumW]
  | cons a l ih =>
    rw [List.any_cons, Bool.or_eq_false_iff] at h
    have h1 := ih h.2
    have h2 := h.1
    unfold badW at h2
    rw [Bool.or_eq_false_iff, decide_eq_false_iff_not, decide_eq_false_iff_not] at h2
    have e : sumW (a :: l) = a + sumW l := rfl
    rw [e, List.length_cons]
    omega

/-- one more number stands in a row of numbers. -/
theorem push_int {w : World} {B n cap : Nat} {xs : List Value} {a : Option Addr} (hB : B ≤ w.heap.size) (hg : Grown w B 2 1 n xs a cap) (hn : n ≤ 1000000) (x : Int) :
    ∃ w5 a' cap' w', w.alloc (.cells #[.int .i64 x] 2) = w5 ∧ (Builtin.append_ #[44, 44] 44 #[.slice a n cap, .slice (some ⟨w.heap.size, 0, none⟩) 1 1]).run Try.prog w5 = .ok (.slice a' (n + 1) cap') w' ∧
      Grown w' B 2 1 (n + 1) (xs ++ [.int .i64 x]) a' cap' ∧ Below w.heap.size w w5 ∧ Below B w5 w' ∧
      ∀ k, k < w.heap.size → (∀ b', a = some ⟨b', 0, none⟩ → k ≠ b') → w'.heap[k]? = w.heap[k]? ∧ ∀ b', a' = some ⟨b', 0, none⟩ → k ≠ b' := by
  obtain ⟨w5, hw5, m5, s5⟩ : ∃ w5, w.alloc (.cells #[.int .i64 x] 2) = w5 ∧ Below w.heap.size w w5 ∧ w5.cell? ⟨w.heap.size, 0, none⟩ = some (.int .i64 x) := ⟨_, rfl, Below.al _, by go_simp⟩
  obtain ⟨i0, hi0, hz0, hz1, hz2⟩ := info_parts zero64
  obtain ⟨a', cap', w', happ, hg', hb', hk⟩ := grown_append (P := Try.prog) (w := w5) (B := B) (T := 2) (k := 1) (Nat.le_trans hB m5.size) (hg.below m5) (t := 44) (tx := 44) (ty := 44)
    Try.underlying44 hi0 hz0 hz1 rfl hz2 (Src.ofSlice w5 Try.underlying44 ⟨w.heap.size, 0, none⟩ 1 1 [.int .i64 x] rfl (fun j u hu => by
      cases j with
      | zero => simp only [List.getElem?_cons_zero, Option.some.injEq] at hu; subst hu; exact s5
      | succ j => simp at hu) (fun u hu => by simp only [List.mem_singleton] at hu; subst hu; rfl)) (by omega) (by omega)
  refine ⟨w5, a', cap', w', hw5, happ, hg', m5, hb', fun k hk1 hk2 => ?_⟩
  obtain ⟨h1, h2⟩ := hk k (Nat.lt_of_lt_of_le hk1 m5.size) hk2
  exact ⟨h1.trans (m5.block k hk1), h2⟩

/-- what New hands back: only the error is told. -/
def FreqPost (x : Int) (w : World) (e : Ending) (w' : World) : Prop := ∃ p, e = .returned (.tuple #[.pointer p, .int .i64 x]) ∧ Below w.heap.size w w'
/-- the table's cell, and the row of sums behind it. -/
def FreqRel (w wr : World) (i : Nat) : Prop := ∃ xs a cap, wr.cell? ⟨w.heap.size, 0, none⟩ = some (.slice a i cap) ∧ RowAt wr 145 w.heap.size 1 ∧ Grown wr (w.heap.size + 1) 2 1 i xs a cap ∧ (∀ b, a = some ⟨b, 0, none⟩ → b ≠ w.heap.size)
def FreqLoop (ws : List Int) (w wr : World) (s : Int) (i : Nat) : Prop := (ws.take i).any badW = false ∧ s = sumW (ws.take i) ∧ FreqRel w wr i ∧ Below w.heap.size w wr
set_option maxRecDepth 100000 in
set_option maxHeartbeats 2000000 in
theorem freqNew_any (ws : List Int) (a : Option Addr) (cap : Nat) (w : World) (hr : WRow w ws a) : Calls Try.prog 114 #[.slice a ws.length cap] w (FreqPost (TT.wts ws) w) := by
  by_cases h0 : ws.length = 0
  · have hc : TT.wts ws = 4 := by unfold TT.wts; rw [if_pos h0]
    rw [hc]
    have HR := Lib.hid hr; clear hr hc
    go_enter Try.func114, Try.ntmps114
    go_wp2_with fail
    exact bodyPost_ret (v := .tuple #[.pointer none, .int .i64 4]) (by simp [results, Try.results114, go_sem]) rfl ⟨none, rfl, Below.refl _ _⟩
  · by_cases h64 : 64 < ws.length
    · have hc : TT.wts ws = 5 := by unfold TT.wts; rw [if_neg h0, if_pos h64]
      rw [hc]
      have HR := Lib.hid hr; clear hr hc
      go_enter Try.func114, Try.ntmps114
      go_wp2_with fail
      exact bodyPost_ret (v := .tuple #[.pointer none, .int .i64 5]) (by simp [results, Try.results114, go_sem]) rfl ⟨none, rfl, Below.refl _ _⟩
    · have H0 := Lib.hid h0; have H64 := Lib.hid h64
      have hlen : 0 < ws.length := by omega
      have hle : ws.length ≤ 64 := by omega
      clear h0 h64
      obtain ⟨w0, hw0, m0, s0, r0, c0⟩ : ∃ w0, w.alloc (.cells #[.slice none 0 0] 145) = w0 ∧ Below w.heap.size w w0 ∧ w.heap.size < w0.heap.size ∧ RowAt w0 145 w.heap.size 1 ∧ w0.cell? ⟨w.heap.size, 0, none⟩ = some (.slice none 0 0) :=
        ⟨_, rfl, Below.al _, by simp, RowAt.new w _ _, by go_simp⟩
      go_enter Try.func114, Try.ntmps114
      go_wp2_with fail
      go_loopw [5, 20] (fun x y wr => ∃ (s : Int) (i : Nat), x = .int .i64 s ∧ y = .int .i64 i ∧ i ≤ ws.length ∧ FreqLoop ws w wr s i) (fun _ y _ => ws.length - (intOf y).toNat)
      case atStart => exact ⟨0, 0, rfl, rfl, by omega, ⟨by simp, by simp [sumW], ⟨[], none, 0, c0, r0, Grown.nil _ _ _ _, fun b h => by cases h⟩, m0⟩⟩
      case round =>
        obtain ⟨s, i, rfl, rfl, hi, hbad, hsum, ⟨xs, a1, cap1, hc1, hrow1, hg1, hne⟩, hB⟩ := hrel
        have hbd := sumW_bd hbad
        rw [← hsum, List.length_take] at hbd
        have hs0 : 0 ≤ s ∧ s ≤ 67108864 := by omega
        have HBAD := Lib.hid hbad; have HSUM := Lib.hid hsum; have HNE := Lib.hid hne
        clear hbad hsum hbd hne
        by_cases hlt : i < ws.length
        · obtain ⟨b, o, rfl, d0⟩ := (hr.below hB).get i hlt
          have hup := sumW_take hlt
          have hub := badW_take hlt
          have hwb : badW ws[i] = true → TT.wts ws = 1 := TT.wts_bad hlt H0.out H64.out
          have HWB := Lib.hid hwb; clear hwb
          obtain ⟨x, hx⟩ : ∃ x, x = ws[i] := ⟨_, rfl⟩
          rw [← hx] at hup hub d0
          have HX := Lib.hid hx; have HUP := Lib.hid hup; have HUB := Lib.hid hub
          clear hx hup hub
          by_cases hneg : x < 0
          · have hw1 : TT.wts ws = 1 := HWB.out (by rw [← HX.out]; unfold badW; simp [hneg])
            have HW1 := Lib.hid hw1; clear hw1
            go_wp2_with fail
            exact bodyPost_ret (v := .tuple #[.pointer none, .int .i64 1]) (by simp [results, Try.results114, go_sem]) rfl ⟨none, by rw [HW1.out], hB⟩
          · by_cases hbig : 1048576 < x
            · have hw1 : TT.wts ws = 1 := HWB.out (by rw [← HX.out]; unfold badW; simp [hbig])
              have HW1 := Lib.hid hw1; clear hw1
              go_wp2_with fail
              exact bodyPost_ret (v := .tuple #[.pointer none, .int .i64 1]) (by simp [results, Try.results114, go_sem]) rfl ⟨none, by rw [HW1.out], hB⟩
            · have hgood : badW x = false := by unfold badW; simp; omega
              have HGOOD := Lib.hid hgood; clear hgood
              have hlt1 := hrow1.lt
              obtain ⟨w5, a6, cap6, w6, hw5, happ, hg6, m5, hb6, hk6⟩ := push_int (B := w.heap.size + 1) (by omega) hg1 (by omega) (s + x)
              have hblk := hk6 w.heap.size hlt1 (fun b' e => (HNE.out b' e).symm)
              have hrow6 : RowAt w6 145 w.heap.size 1 := by obtain ⟨c, hc, hn⟩ := hrow1; exact ⟨c, hblk.1.trans hc, hn⟩
              have hz6 := hrow6.frozen 0
              obtain ⟨u6, hc6⟩ := hrow6.cell 0 (by omega)
              have hc5 := cell_stays m5 hc1
              have hB6 : Below w.heap.size w w6 := hB.trans ((m5.mono (by omega)).trans (hb6.mono (by omega)))
              have hrow7 := hrow6.set ⟨w.heap.size, 0, none⟩ (.slice a6 (i + 1) cap6) rfl
              have hc7 := set_same (v := .slice a6 (i + 1) cap6) hc6
              have hg7 : Grown (w6.setCell ⟨w.heap.size, 0, none⟩ (.slice a6 (i + 1) cap6)) (w.heap.size + 1) 2 1 (i + 1) (xs ++ [.int .i64 (s + x)]) a6 cap6 := by
                refine ⟨hg6.size, hg6.le, hg6.row.imp id ?_⟩
                rintro ⟨b, e, hb, hr, hcc⟩
                exact ⟨b, e, hb, hr.set _ _ rfl, fun j v hj => by rw [cell_set_other (show w.heap.size ≠ b by omega)]; exact hcc j v hj⟩
              have hB7 := hB6.setCell (p := ⟨w.heap.size, 0, none⟩) (Nat.le_refl _) (.slice a6 (i + 1) cap6)
              have HREL : Hid (FreqRel w (w6.setCell ⟨w.heap.size, 0, none⟩ (.slice a6 (i + 1) cap6)) (i + 1)) := Lib.hid ⟨_, a6, cap6, hc7, hrow7, hg7, fun b e h => hblk.2 b e h.symm⟩
              have HB7 := Lib.hid hB7; have HAP := Lib.hid happ
              clear hrow7 hc7 hg7 hB7 hB6 hblk hk6 hb6 hg6 happ hrow6 hg1 hrow1
              go_wp2_with (at_builtin; refine wpList_append_run _ rfl _ _ _ rfl _ _ _ _ rfl rfl HAP.out ?_)
              have HFIN : Hid (FreqLoop ws w (w6.setCell ⟨w.heap.size, 0, none⟩ (.slice a6 (i + 1) cap6)) (s + x) (i + 1)) := Lib.hid ⟨by rw [HUB.out, HBAD.out, HGOOD.out]; rfl, by rw [HUP.out, HSUM.out], HREL.out, HB7.out⟩
              first | (go_roundw; (case rel => exact ⟨s + x, i + 1, rfl, by go_num, by omega, HFIN.out⟩); (case measure => simp [intOf]; omega)) | exact ⟨⟨_, _, _, _, _, ⟨s + x, rfl, i + 1, rfl, by omega, HFIN.out⟩, rfl, rfl, rfl, rfl, by go_num⟩, by simp [intOf]; omega⟩
        · have hii : i = ws.length := by omega
          subst hii
          have hall := HBAD.out
          have hs := HSUM.out
          rw [List.take_length] at hall hs
          have hc := TT.wts_good H0.out H64.out hall
          rw [← hs] at hc
          have HC := Lib.hid hc; clear hc hall hs
          by_cases hz : s = 0
          · have hc : TT.wts ws = 7 := by rw [HC.out, if_pos hz]
            have HC7 := Lib.hid hc
            subst hz
            clear hc
            go_wp2_with fail
            exact bodyPost_ret (v := .tuple #[.pointer none, .int .i64 7]) (by simp [results, Try.results114, go_sem]) rfl ⟨none, by rw [HC7.out], hB⟩
          · have hc : TT.wts ws = 0 := by rw [HC.out, if_neg hz]
            have HC0 := Lib.hid hc
            have hzb : (s == 0) = false := by simpa using hz
            clear hc hz
            go_wp2_with fail
            exact bodyPost_ret (v := .tuple #[.pointer (some ⟨w.heap.size, 0, none⟩), .int .i64 0]) (by simp [results, Try.results114, go_sem]) rfl ⟨_, by rw [HC0.out], hB⟩

end Go.Proofs.Yteebbffecaeciaa
/- Plain words on memory that a call has made: predicates all of whose rows lie in blocks of the call's own. -/
namespace Go.Proofs.Yteebbffecaeciaa
open Go.RowKit

mutual
/-- x reads as the tree, and all its rows lie in blocks from lo on, each at its block's head. -/
def PFIn (w : World) (lo : Nat) : PT → Value → Prop
  | .mk k v n l, x => ∃ vk vn va vl vc a cap, l.length ≤ 1759218604390 ∧ x = .agg #[.int .u8 k, .int .u8 vk, .int .i64 vn, .slice va vl vc, .int .i64 n, .slice a l.length cap] ∧
      FIn w lo v (.agg #[.int .u8 vk, .int .i64 vn, .slice va vl vc]) ∧ (l = [] ∨ ∃ b, a = some ⟨b, 0, none⟩ ∧ lo ≤ b ∧ PFRow w lo l b 0)
def PFRow (w : World) (lo : Nat) : List PT → Nat → Nat → Prop
  | [], _, _ => True
  | t :: ts, b, o => (∃ v0 v1 v2 v3 v4 v5, w.cell? ⟨b, o, none⟩ = some v0 ∧ w.cell? ⟨b, o + 1, none⟩ = some v1 ∧ w.cell? ⟨b, o + 2, none⟩ = some v2 ∧ w.cell? ⟨b, o + 3, none⟩ = some v3 ∧ w.cell? ⟨b, o + 4, none⟩ = some v4 ∧
      w.cell? ⟨b, o + 5, none⟩ = some v5 ∧ (∀ j, j < 6 → w.frozen? ⟨b, o + j, none⟩ = false) ∧ PFIn w lo t (.agg #[v0, v1, v2, v3, v4, v5])) ∧ PFRow w lo ts b (o + 6)
end
theorem PFRow.of {w : World} {lo : Nat} (b : Nat) : ∀ (l : List PT) (o : Nat) (_ : ∀ (i : Nat) (hi : i < l.length), ∃ v0 v1 v2 v3 v4 v5, w.cell? ⟨b, o + i * 6, none⟩ = some v0 ∧ w.cell? ⟨b, o + i * 6 + 1, none⟩ = some v1 ∧
      w.cell? ⟨b, o + i * 6 + 2, none⟩ = some v2 ∧ w.cell? ⟨b, o + i * 6 + 3, none⟩ = some v3 ∧ w.cell? ⟨b, o + i * 6 + 4, none⟩ = some v4 ∧ w.cell? ⟨b, o + i * 6 + 5, none⟩ = some v5 ∧
      (∀ j, j < 6 → w.frozen? ⟨b, o + i * 6 + j, none⟩ = false) ∧ PFIn w lo (l[i]) (.agg #[v0, v1, v2, v3, v4, v5])), PFRow w lo l b o
  | [], o, _ => by rw [PFRow]; trivial
  | t :: ts, o, h => by
    rw [PFRow]
    have h0 := h 0 (by simp)
    simp only [Nat.zero_mul, Nat.add_zero, List.getElem_cons_zero] at h0
    refine ⟨h0, PFRow.of b ts (o + 6) fun i hi => ?_⟩
    have h1 := h (i + 1) (by simpa using hi)
    have e : o + (i + 1) * 6 = o + 6 + i * 6 := by omega
    rw [e] at h1
    simpa using h1
theorem PFRow.get {w : World} {lo b : Nat} : ∀ {l : List PT} {o : Nat} (_ : PFRow w lo l b o) (i : Nat) (hi : i < l.length), ∃ v0 v1 v2 v3 v4 v5, w.cell? ⟨b, o + i * 6, none⟩ = some v0 ∧ w.cell? ⟨b, o + i * 6 + 1, none⟩ = some v1 ∧
      w.cell? ⟨b, o + i * 6 + 2, none⟩ = some v2 ∧ w.cell? ⟨b, o + i * 6 + 3, none⟩ = some v3 ∧ w.cell? ⟨b, o + i * 6 + 4, none⟩ = some v4 ∧ w.cell? ⟨b, o + i * 6 + 5, none⟩ = some v5 ∧
      (∀ j, j < 6 → w.frozen? ⟨b, o + i * 6 + j, none⟩ = false) ∧ PFIn w lo (l[i]) (.agg #[v0, v1, v2, v3, v4, v5]) := by
  intro l
  induction l with
  | nil => intro o _ i hi; simp at hi
  | cons t ts ih =>
    intro o h i hi
    rw [PFRow] at h
    cases i with
    | zero => simpa using h.1
    | succ i =>
      have h1 := ih h.2 i (by simpa using hi)
      have e : o + (i + 1) * 6 = o + 6 + i * 6 := by omega
      rw [e]
      simpa using h1
mutual
theorem PFIn.mono {w w' : World} {lo lo' : Nat} (hlo : lo' ≤ lo) (hc : ∀ b o v, lo ≤ b → w.cell? ⟨b, o, none⟩ = some v → w'.cell? ⟨b, o, none⟩ = some v) (hf : ∀ b o v, lo ≤ b → w.cell? ⟨b, o, none⟩ = some v → w.frozen? ⟨b, o, none⟩ = false → w'.frozen? ⟨b, o, none⟩ = false) :
    ∀ (t : PT) (x : Value), PFIn w lo t x → PFIn w' lo' t x
  | .mk k v n l, x, h => by
    rw [PFIn] at h ⊢
    obtain ⟨vk, vn, va, vl, vc, a, cap, hl, hx, hv, hr⟩ := h
    refine ⟨vk, vn, va, vl, vc, a, cap, hl, hx, hv.mono hlo hc hf, hr.imp id ?_⟩
    rintro ⟨b, ha, hb, hr⟩
    exact ⟨b, ha, by omega, PFRow.mono hlo hc hf l b 0 hb hr⟩
theorem PFRow.mono {w w' : World} {lo lo' : Nat} (hlo : lo' ≤ lo) (hc : ∀ b o v, lo ≤ b → w.cell? ⟨b, o, none⟩ = some v → w'.cell? ⟨b, o, none⟩ = some v) (hf : ∀ b o v, lo ≤ b → w.cell? ⟨b, o, none⟩ = some v → w.frozen? ⟨b, o, none⟩ = false → w'.frozen? ⟨b, o, none⟩ = false) :
    ∀ (l : List PT) (b o : Nat), lo ≤ b → PFRow w lo l b o → PFRow w' lo' l b o
  | [], _, _, _, _ => by rw [PFRow]; trivial
  | t :: ts, b, o, hb, h => by
    rw [PFRow] at h ⊢
    obtain ⟨⟨v0, v1, v2, v3, v4, v5, h0, h1, h2, h3, h4, h5, f, ht⟩, hr⟩ := h
    refine ⟨⟨v0, v1, v2, v3, v4, v5, hc _ _ _ hb h0, hc _ _ _ hb h1, hc _ _ _ hb h2, hc _ _ _ hb h3, hc _ _ _ hb h4, hc _ _ _ hb h5, fun j hj => ?_, PFIn.mono hlo hc hf t _ ht⟩, PFRow.mono hlo hc hf ts b (o + 6) hb hr⟩
    rcases (by omega : j = 0 ∨ j = 1 ∨ j = 2 ∨ j = 3 ∨ j = 4 ∨ j = 5) with rfl | rfl | rfl | rfl | rfl | rfl
    · exact hf _ _ _ hb h0 (f 0 hj)
    · exact hf _ _ _ hb h1 (f 1 hj)
    · exact hf _ _ _ hb h2 (f 2 hj)
    · exact hf _ _ _ hb h3 (f 3 hj)
    · exact hf _ _ _ hb h4 (f 4 hj)
    · exact hf _ _ _ hb h5 (f 5 hj)
end
theorem PFIn.below {w w' : World} {lo : Nat} {t : PT} {x : Value} (h : PFIn w lo t x) (hb : Below w.heap.size w w') : PFIn w' lo t x :=
  h.mono (Nat.le_refl _) (fun _ _ _ _ hc => cell_stays hb hc) (fun _ _ _ _ hc hf => frozen_stay hb (lt_of_cell hc) hf) t x
theorem PFRow.below {w w' : World} {lo b o : Nat} {l : List PT} (h : PFRow w lo l b o) (hlo : lo ≤ b) (hb : Below w.heap.size w w') : PFRow w' lo l b o :=
  PFRow.mono (Nat.le_refl _) (fun _ _ _ _ hc => cell_stays hb hc) (fun _ _ _ _ hc hf => frozen_stay hb (lt_of_cell hc) hf) l b o hlo h
theorem PFIn.set {w : World} {lo : Nat} {t : PT} {x : Value} (h : PFIn w lo t x) {p : Addr} (hp : p.block < lo) (u : Value) : PFIn (w.setCell p u) lo t x :=
  h.mono (Nat.le_refl _) (fun b _ _ hb hc => by rw [cell_set_other (by omega)]; exact hc) (fun _ _ _ _ _ hf => by rw [World.frozen?_setCell]; exact hf) t x
theorem PFIn.less {w : World} {lo lo' : Nat} {t : PT} {x : Value} (h : PFIn w lo t x) (hl : lo' ≤ lo) : PFIn w lo' t x := h.mono hl (fun _ _ _ _ hc => hc) (fun _ _ _ _ _ hf => hf) t x
theorem PFRow.less {w : World} {lo lo' : Nat} (hl : lo' ≤ lo) : ∀ (l : List PT) (b o : Nat), PFRow w lo l b o → PFRow w lo' l b o
  | [], _, _, _ => by rw [PFRow]; trivial
  | t :: ts, b, o, h => by
    rw [PFRow] at h ⊢
    obtain ⟨⟨v0, v1, v2, v3, v4, v5, h0, h1, h2, h3, h4, h5, f, ht⟩, hr⟩ := h
    exact ⟨⟨v0, v1, v2, v3, v4, v5, h0, h1, h2, h3, h4, h5, f, ht.less hl⟩, PFRow.less hl ts b (o + 6) hr⟩
mutual
theorem PFIn.pin {w : World} {lo : Nat} : ∀ (t : PT) (x : Value), PFIn w lo t x → PIn w t x
  | .mk k v n l, x, h => by
    rw [PFIn] at h; rw [PIn]
    obtain ⟨vk, vn, va, vl, vc, a, cap, hl, hx, hv, hr⟩ := h
    refine ⟨vk, vn, va, vl, vc, a, cap, hl, hx, hv.vin, ?_⟩
    rcases hr with rfl | ⟨b, rfl, _, hr⟩
    · rw [PRow]; trivial
    · exact PFRow.prow l b 0 hr
theorem PFRow.prow {w : World} {lo : Nat} : ∀ (l : List PT) (b o : Nat), PFRow w lo l b o → PRow w l (some ⟨b, o, none⟩)
  | [], _, _, _ => by rw [PRow]; trivial
  | t :: ts, b, o, h => by
    rw [PFRow] at h; rw [PRow]
    obtain ⟨⟨v0, v1, v2, v3, v4, v5, h0, h1, h2, h3, h4, h5, f, ht⟩, hr⟩ := h
    exact ⟨b, o, rfl, ⟨v0, v1, v2, v3, v4, v5, h0, h1, h2, h3, h4, h5, PFIn.pin t _ ht⟩, PFRow.prow ts b (o + 6) hr⟩
end
/-- such a predicate, its cells written out. -/
theorem PFIn.open {w : World} {lo : Nat} {k n : Int} {v : VT} {l : List PT} {x : Value} (h : PFIn w lo (.mk k v n l) x) : ∃ va vc a cap, l.length ≤ 1759218604390 ∧ v.items.length ≤ 3518437208780 ∧
    x = .agg #[.int .u8 k, .int .u8 v.kind, .int .i64 v.num, .slice va v.items.length vc, .int .i64 n, .slice a l.length cap] ∧ FIn w lo v (.agg #[.int .u8 v.kind, .int .i64 v.num, .slice va v.items.length vc]) ∧
    (l = [] ∨ ∃ b, a = some ⟨b, 0, none⟩ ∧ lo ≤ b ∧ PFRow w lo l b 0) := by
  rw [PFIn] at h
  obtain ⟨vk, vn, va, vl, vc, a, cap, hl, hx, hv, hr⟩ := h
  obtain ⟨k', n', its⟩ := v
  obtain ⟨va', vc', hl', he, hr'⟩ := hv.open
  simp only [Value.agg.injEq, Array.mk.injEq, List.cons.injEq, Value.slice.injEq, Value.int.injEq, and_true, true_and] at he
  obtain ⟨rfl, rfl, rfl, rfl, rfl⟩ := he
  exact ⟨_, _, a, cap, hl, hl', hx, hv, hr⟩
theorem PFIn.shut {w : World} {lo : Nat} {k n vk vn : Int} {v : VT} {l : List PT} {va a : Option Addr} {vl vc cap : Nat} (hl : l.length ≤ 1759218604390) (hv : FIn w lo v (.agg #[.int .u8 vk, .int .i64 vn, .slice va vl vc]))
    (hr : l = [] ∨ ∃ b, a = some ⟨b, 0, none⟩ ∧ lo ≤ b ∧ PFRow w lo l b 0) : PFIn w lo (.mk k v n l) (.agg #[.int .u8 k, .int .u8 vk, .int .i64 vn, .slice va vl vc, .int .i64 n, .slice a l.length cap]) := by rw [PFIn]; exact ⟨vk, vn, va, vl, vc, a, cap, hl, rfl, hv, hr⟩

/-! six cells written -/
theorem set6_out {w : World} {B q : Nat} {u0 u1 u2 u3 u4 u5 : Value} {b o : Nat} (h : b = B → o < q ∨ q + 6 ≤ o) :
    ((((((w.setCell ⟨B, q, none⟩ u0).setCell ⟨B, q + 1, none⟩ u1).setCell ⟨B, q + 2, none⟩ u2).setCell ⟨B, q + 3, none⟩ u3).setCell ⟨B, q + 4, none⟩ u4).setCell ⟨B, q + 5, none⟩ u5).cell? ⟨b, o, none⟩ = w.cell? ⟨b, o, none⟩ := by
  by_cases e : b = B
  · subst e
    have := h rfl
    rw [cell_set_off (by omega), cell_set_off (by omega), cell_set_off (by omega), cell_set_off (by omega), cell_set_off (by omega), cell_set_off (by omega)]
  · have e' : B ≠ b := fun h => e h.symm
    rw [cell_set_other e', cell_set_other e', cell_set_other e', cell_set_other e', cell_set_other e', cell_set_other e']
theorem set6_in {w : World} {B q : Nat} {u0 u1 u2 u3 u4 u5 : Value} {x0 x1 x2 x3 x4 x5 : Value} (q0 : w.cell? ⟨B, q, none⟩ = some x0) (q1 : w.cell? ⟨B, q + 1, none⟩ = some x1) (q2 : w.cell? ⟨B, q + 2, none⟩ = some x2)
    (q3 : w.cell? ⟨B, q + 3, none⟩ = some x3) (q4 : w.cell? ⟨B, q + 4, none⟩ = some x4) (q5 : w.cell? ⟨B, q + 5, none⟩ = some x5) :
    let w' := (((((w.setCell ⟨B, q, none⟩ u0).setCell ⟨B, q + 1, none⟩ u1).setCell ⟨B, q + 2, none⟩ u2).setCell ⟨B, q + 3, none⟩ u3).setCell ⟨B, q + 4, none⟩ u4).setCell ⟨B, q + 5, none⟩ u5
    w'.cell? ⟨B, q, none⟩ = some u0 ∧ w'.cell? ⟨B, q + 1, none⟩ = some u1 ∧ w'.cell? ⟨B, q + 2, none⟩ = some u2 ∧ w'.cell? ⟨B, q + 3, none⟩ = some u3 ∧ w'.cell? ⟨B, q + 4, none⟩ = some u4 ∧ w'.cell? ⟨B, q + 5, none⟩ = some u5 := by
  refine ⟨?_, ?_, ?_, ?_, ?_, ?_⟩
  · exact set_off (set_off (set_off (set_off (set_off (set_same q0) (by omega)) (by omega)) (by omega)) (by omega)) (by omega)
  · exact set_off (set_off (set_off (set_off (set_same (set_off q1 (by omega))) (by omega)) (by omega)) (by omega)) (by omega)
  · exact set_off (set_off (set_off (set_same (set_off (set_off q2 (by omega)) (by omega))) (by omega)) (by omega)) (by omega)
  · exact set_off (set_off (set_same (set_off (set_off (set_off q3 (by omega)) (by omega)) (by omega))) (by omega)) (by omega)
  · exact set_off (set_same (set_off (set_off (set_off (set_off q4 (by omega)) (by omega)) (by omega)) (by omega))) (by omega)
  · exact set_same (set_off (set_off (set_off (set_off (set_off q5 (by omega)) (by omega)) (by omega)) (by omega)) (by omega))
theorem set6_frozen {w : World} {B q : Nat} {u0 u1 u2 u3 u4 u5 : Value} {p : Addr} :
    ((((((w.setCell ⟨B, q, none⟩ u0).setCell ⟨B, q + 1, none⟩ u1).setCell ⟨B, q + 2, none⟩ u2).setCell ⟨B, q + 3, none⟩ u3).setCell ⟨B, q + 4, none⟩ u4).setCell ⟨B, q + 5, none⟩ u5).frozen? p = w.frozen? p := by
  rw [World.frozen?_setCell, World.frozen?_setCell, World.frozen?_setCell, World.frozen?_setCell, World.frozen?_setCell, World.frozen?_setCell]
end Go.Proofs.Yteebbffecaeciaa
/- Plain words on memory that a call has made: terms all of whose rows lie in blocks of the call's own. -/
namespace Go.Proofs.Yteebbffecaeciaa
open Go.RowKit

/-- whole numbers in a row of the call's own. -/
def WFRow (w : World) : List Int → Nat → Nat → Prop
  | [], _, _ => True
  | x :: xs, b, o => w.cell? ⟨b, o, none⟩ = some (.int .i64 x) ∧ w.frozen? ⟨b, o, none⟩ = false ∧ WFRow w xs b (o + 1)
theorem WFRow.mono {w w' : World} {lo : Nat} (hc : ∀ b o v, lo ≤ b → w.cell? ⟨b, o, none⟩ = some v → w'.cell? ⟨b, o, none⟩ = some v) (hf : ∀ b o v, lo ≤ b → w.cell? ⟨b, o, none⟩ = some v → w.frozen? ⟨b, o, none⟩ = false → w'.frozen? ⟨b, o, none⟩ = false) :
    ∀ (l : List Int) (b o : Nat), lo ≤ b → WFRow w l b o → WFRow w' l b o
  | [], _, _, _, _ => by rw [WFRow]; trivial
  | x :: xs, b, o, hb, h => by
    rw [WFRow] at h ⊢
    exact ⟨hc _ _ _ hb h.1, hf _ _ _ hb h.1 h.2.1, WFRow.mono hc hf xs b (o + 1) hb h.2.2⟩
theorem WFRow.wrow {w : World} : ∀ (l : List Int) (b o : Nat), WFRow w l b o → WRow w l (some ⟨b, o, none⟩)
  | [], _, _, _ => by rw [WRow]; trivial
  | x :: xs, b, o, h => by
    rw [WFRow] at h; rw [WRow]
    exact ⟨b, o, rfl, h.1, WFRow.wrow xs b (o + 1) h.2.2⟩
theorem WFRow.of {w : World} (b : Nat) : ∀ (l : List Int) (o : Nat) (_ : ∀ (i : Nat) (hi : i < l.length), w.cell? ⟨b, o + i, none⟩ = some (.int .i64 l[i]) ∧ w.frozen? ⟨b, o + i, none⟩ = false), WFRow w l b o
  | [], o, _ => by rw [WFRow]; trivial
  | t :: ts, o, h => by
    rw [WFRow]
    have h0 := h 0 (by simp)
    simp only [Nat.add_zero, List.getElem_cons_zero] at h0
    refine ⟨h0.1, h0.2, WFRow.of b ts (o + 1) fun i hi => ?_⟩
    have h1 := h (i + 1) (by simpa using hi)
    rw [List.getElem_cons_succ, show o + (i + 1) = o + 1 + i by omega] at h1
    exact h1
mutual
/-- the rows read as the tree has them, and lie in blocks from lo on, each at its block's head. -/
def TFOk (w : World) (lo : Nat) : TT → TA → Prop
  | .mk _ v vs _ _ ws p l, A => (l.length ≤ 651562446070 ∧ vs.length ≤ 3518437208780 ∧ ws.length ≤ 17592186043904) ∧ FIn w lo v (.agg #[.int .u8 v.kind, .int .i64 v.num, .slice A.va v.items.length A.vc]) ∧ (vs = [] ∨ ∃ b, A.sa = some ⟨b, 0, none⟩ ∧ lo ≤ b ∧ FRow w lo vs b 0) ∧
      (ws = [] ∨ ∃ b, A.wa = some ⟨b, 0, none⟩ ∧ lo ≤ b ∧ WFRow w ws b 0) ∧
      PFIn w lo p (.agg #[.int .u8 p.kind, .int .u8 p.val.kind, .int .i64 p.val.num, .slice A.qa p.val.items.length A.qc, .int .i64 p.num, .slice A.pa p.args.length A.pc]) ∧ (l = [] ∨ ∃ b, A.aa = some ⟨b, 0, none⟩ ∧ lo ≤ b ∧ TFRow w lo l b 0)
def TFRow (w : World) (lo : Nat) : List TT → Nat → Nat → Prop
  | [], _, _ => True
  | t :: ts, b, o => (∃ A, TCells w b o t A ∧ (∀ j, j < 15 → w.frozen? ⟨b, o + j, none⟩ = false) ∧ TFOk w lo t A) ∧ TFRow w lo ts b (o + 15)
end
def TFIn (w : World) (lo : Nat) (t : TT) (x : Value) : Prop := ∃ A, x = t.val A ∧ TFOk w lo t A
theorem TFRow.of {w : World} {lo : Nat} (b : Nat) : ∀ (l : List TT) (o : Nat) (_ : ∀ (i : Nat) (hi : i < l.length), ∃ A, TCells w b (o + i * 15) l[i] A ∧ (∀ j, j < 15 → w.frozen? ⟨b, o + i * 15 + j, none⟩ = false) ∧ TFOk w lo l[i] A), TFRow w lo l b o
  | [], o, _ => by rw [TFRow]; trivial
  | t :: ts, o, h => by
    rw [TFRow]
    have h0 := h 0 (by simp)
    simp only [Nat.zero_mul, Nat.add_zero, List.getElem_cons_zero] at h0
    refine ⟨h0, TFRow.of b ts (o + 15) fun i hi => ?_⟩
    have h1 := h (i + 1) (by simpa using hi)
    have e : o + (i + 1) * 15 = o + 15 + i * 15 := by omega
    rw [e] at h1
    simpa using h1
theorem TFRow.get {w : World} {lo b : Nat} : ∀ {l : List TT} {o : Nat} (_ : TFRow w lo l b o) (i : Nat) (hi : i < l.length), ∃ A, TCells w b (o + i * 15) l[i] A ∧ (∀ j, j < 15 → w.frozen? ⟨b, o + i * 15 + j, none⟩ = false) ∧ TFOk w lo l[i] A := by
  intro l
  induction l with
  | nil => intro o _ i hi; simp at hi
  | cons t ts ih =>
    intro o h i hi
    rw [TFRow] at h
    cases i with
    | zero => simpa using h.1
    | succ i =>
      have h1 := ih h.2 i (by simpa using hi)
      have e : o + (i + 1) * 15 = o + 15 + i * 15 := by omega
      rw [e]
      simpa using h1
/-- a cell of a term's cells. -/
theorem TCells.has {w : World} {b o : Nat} {t : TT} {A : TA} (h : TCells w b o t A) : ∀ j, j < 15 → ∃ u, w.cell? ⟨b, o + j, none⟩ = some u := by
  obtain ⟨h0, h1, h2, h3, h4, h5, h6, h7, h8, h9, h10, h11, h12, h13, h14⟩ := h
  intro j hj
  rcases (by omega : j = 0 ∨ j = 1 ∨ j = 2 ∨ j = 3 ∨ j = 4 ∨ j = 5 ∨ j = 6 ∨ j = 7 ∨ j = 8 ∨ j = 9 ∨ j = 10 ∨ j = 11 ∨ j = 12 ∨ j = 13 ∨ j = 14) with rfl | rfl | rfl | rfl | rfl | rfl | rfl | rfl | rfl | rfl | rfl | rfl | rfl | rfl | rfl
  all_goals exact ⟨_, by assumption⟩
theorem TCells.keep {w w' : World} {b o : Nat} {t : TT} {A : TA} (hc : ∀ o v, w.cell? ⟨b, o, none⟩ = some v → w'.cell? ⟨b, o, none⟩ = some v) (h : TCells w b o t A) : TCells w' b o t A := by
  obtain ⟨h0, h1, h2, h3, h4, h5, h6, h7, h8, h9, h10, h11, h12, h13, h14⟩ := h
  exact ⟨hc _ _ h0, hc _ _ h1, hc _ _ h2, hc _ _ h3, hc _ _ h4, hc _ _ h5, hc _ _ h6, hc _ _ h7, hc _ _ h8, hc _ _ h9, hc _ _ h10, hc _ _ h11, hc _ _ h12, hc _ _ h13, hc _ _ h14⟩
mutual
theorem TFOk.mono {w w' : World} {lo lo' : Nat} (hlo : lo' ≤ lo) (hc : ∀ b o v, lo ≤ b → w.cell? ⟨b, o, none⟩ = some v → w'.cell? ⟨b, o, none⟩ = some v) (hf : ∀ b o v, lo ≤ b → w.cell? ⟨b, o, none⟩ = some v → w.frozen? ⟨b, o, none⟩ = false → w'.frozen? ⟨b, o, none⟩ = false) :
    ∀ (t : TT) (A : TA), TFOk w lo t A → TFOk w' lo' t A
  | .mk k v vs lo2 hi ws p l, A, h => by
    rw [TFOk] at h ⊢
    obtain ⟨hl, hv, hs, hw, hp, hr⟩ := h
    refine ⟨hl, hv.mono hlo hc hf, hs.imp id ?_, hw.imp id ?_, hp.mono hlo hc hf, hr.imp id ?_⟩
    · rintro ⟨b, ha, hb, hr⟩
      exact ⟨b, ha, by omega, FRow.mono hlo hc hf vs b 0 hb hr⟩
    · rintro ⟨b, ha, hb, hr⟩
      exact ⟨b, ha, by omega, WFRow.mono hc hf ws b 0 hb hr⟩
    · rintro ⟨b, ha, hb, hr⟩
      exact ⟨b, ha, by omega, TFRow.mono hlo hc hf l b 0 hb hr⟩
theorem TFRow.mono {w w' : World} {lo lo' : Nat} (hlo : lo' ≤ lo) (hc : ∀ b o v, lo ≤ b → w.cell? ⟨b, o, none⟩ = some v → w'.cell? ⟨b, o, none⟩ = some v) (hf : ∀ b o v, lo ≤ b → w.cell? ⟨b, o, none⟩ = some v → w.frozen? ⟨b, o, none⟩ = false → w'.frozen? ⟨b, o, none⟩ = false) :
    ∀ (l : List TT) (b o : Nat), lo ≤ b → TFRow w lo l b o → TFRow w' lo' l b o
  | [], _, _, _, _ => by rw [TFRow]; trivial
  | t :: ts, b, o, hb, h => by
    rw [TFRow] at h ⊢
    obtain ⟨⟨A, h0, hz, ht⟩, hr⟩ := h
    refine ⟨⟨A, h0.keep (fun o v h => hc _ _ _ hb h), fun j hj => ?_, TFOk.mono hlo hc hf t A ht⟩, TFRow.mono hlo hc hf ts b (o + 15) hb hr⟩
    obtain ⟨u, hu⟩ := h0.has j hj
    exact hf _ _ _ hb hu (hz j hj)
end
theorem TFIn.mono {w w' : World} {lo lo' : Nat} (hlo : lo' ≤ lo) (hc : ∀ b o v, lo ≤ b → w.cell? ⟨b, o, none⟩ = some v → w'.cell? ⟨b, o, none⟩ = some v) (hf : ∀ b o v, lo ≤ b → w.cell? ⟨b, o, none⟩ = some v → w.frozen? ⟨b, o, none⟩ = false → w'.frozen? ⟨b, o, none⟩ = false)
    {t : TT} {x : Value} (h : TFIn w lo t x) : TFIn w' lo' t x := by obtain ⟨A, e, h⟩ := h; exact ⟨A, e, h.mono hlo hc hf t A⟩
theorem TFOk.below {w w' : World} {lo : Nat} {t : TT} {A : TA} (h : TFOk w lo t A) (hb : Below w.heap.size w w') : TFOk w' lo t A :=
  h.mono (Nat.le_refl _) (fun _ _ _ _ hc => cell_stays hb hc) (fun _ _ _ _ hc hf => frozen_stay hb (lt_of_cell hc) hf) t A
theorem TFIn.below {w w' : World} {lo : Nat} {t : TT} {x : Value} (h : TFIn w lo t x) (hb : Below w.heap.size w w') : TFIn w' lo t x :=
  h.mono (Nat.le_refl _) (fun _ _ _ _ hc => cell_stays hb hc) (fun _ _ _ _ hc hf => frozen_stay hb (lt_of_cell hc) hf)
theorem TFRow.below {w w' : World} {lo b o : Nat} {l : List TT} (h : TFRow w lo l b o) (hlo : lo ≤ b) (hb : Below w.heap.size w w') : TFRow w' lo l b o :=
  TFRow.mono (Nat.le_refl _) (fun _ _ _ _ hc => cell_stays hb hc) (fun _ _ _ _ hc hf => frozen_stay hb (lt_of_cell hc) hf) l b o hlo h
theorem TFOk.less {w : World} {lo lo' : Nat} {t : TT} {A : TA} (h : TFOk w lo t A) (hl : lo' ≤ lo) : TFOk w lo' t A := h.mono hl (fun _ _ _ _ hc => hc) (fun _ _ _ _ _ hf => hf) t A
theorem TFIn.less {w : World} {lo lo' : Nat} {t : TT} {x : Value} (h : TFIn w lo t x) (hl : lo' ≤ lo) : TFIn w lo' t x := h.mono hl (fun _ _ _ _ hc => hc) (fun _ _ _ _ _ hf => hf)
mutual
theorem TFOk.tok {w : World} {lo : Nat} : ∀ (t : TT) (A : TA), TFOk w lo t A → TOk w t A
  | .mk k v vs lo2 hi ws p l, A, h => by
    rw [TFOk] at h; rw [TOk]
    obtain ⟨hl, hv, hs, hw, hp, hr⟩ := h
    refine ⟨hl, hv.vin, ?_, ?_, PFIn.pin _ _ hp, ?_⟩
    · rcases hs with rfl | ⟨b, e, _, hr⟩
      · rw [VRow]; trivial
      · rw [e]; exact FRow.vrow vs b 0 hr
    · rcases hw with rfl | ⟨b, e, _, hr⟩
      · rw [WRow]; trivial
      · rw [e]; exact WFRow.wrow ws b 0 hr
    · rcases hr with rfl | ⟨b, e, _, hr⟩
      · rw [TRow]; trivial
      · rw [e]; exact TFRow.trow l b 0 hr
theorem TFRow.trow {w : World} {lo : Nat} : ∀ (l : List TT) (b o : Nat), TFRow w lo l b o → TRow w l (some ⟨b, o, none⟩)
  | [], _, _, _ => by rw [TRow]; trivial
  | t :: ts, b, o, h => by
    rw [TFRow] at h
    obtain ⟨⟨A, h0, _, ht⟩, hr⟩ := h
    exact trow_cons h0 (TFOk.tok t A ht) (TFRow.trow ts b (o + 15) hr)
end
theorem TFIn.tin {w : World} {lo : Nat} {t : TT} {x : Value} (h : TFIn w lo t x) : TIn w t x := by obtain ⟨A, e, h⟩ := h; exact ⟨A, e, h.tok t A⟩
theorem TFOk.parts {w : World} {lo : Nat} {t : TT} {A : TA} (h : TFOk w lo t A) : (t.args.length ≤ 651562446070 ∧ t.vs.length ≤ 3518437208780 ∧ t.ws.length ≤ 17592186043904) ∧ FIn w lo t.v (.agg #[.int .u8 t.v.kind, .int .i64 t.v.num, .slice A.va t.v.items.length A.vc]) ∧ (t.vs = [] ∨ ∃ b, A.sa = some ⟨b, 0, none⟩ ∧ lo ≤ b ∧ FRow w lo t.vs b 0) ∧
      (t.ws = [] ∨ ∃ b, A.wa = some ⟨b, 0, none⟩ ∧ lo ≤ b ∧ WFRow w t.ws b 0) ∧
      PFIn w lo t.p (.agg #[.int .u8 t.p.kind, .int .u8 t.p.val.kind, .int .i64 t.p.val.num, .slice A.qa t.p.val.items.length A.qc, .int .i64 t.p.num, .slice A.pa t.p.args.length A.pc]) ∧ (t.args = [] ∨ ∃ b, A.aa = some ⟨b, 0, none⟩ ∧ lo ≤ b ∧ TFRow w lo t.args b 0) := by
  obtain ⟨k, v, vs, lo2, hi, ws, p, l⟩ := t
  rw [TFOk] at h; exact h
theorem TFOk.of {w : World} {lo : Nat} {t : TT} {A : TA} (h : (t.args.length ≤ 651562446070 ∧ t.vs.length ≤ 3518437208780 ∧ t.ws.length ≤ 17592186043904) ∧ FIn w lo t.v (.agg #[.int .u8 t.v.kind, .int .i64 t.v.num, .slice A.va t.v.items.length A.vc]) ∧ (t.vs = [] ∨ ∃ b, A.sa = some ⟨b, 0, none⟩ ∧ lo ≤ b ∧ FRow w lo t.vs b 0) ∧
      (t.ws = [] ∨ ∃ b, A.wa = some ⟨b, 0, none⟩ ∧ lo ≤ b ∧ WFRow w t.ws b 0) ∧
      PFIn w lo t.p (.agg #[.int .u8 t.p.kind, .int .u8 t.p.val.kind, .int .i64 t.p.val.num, .slice A.qa t.p.val.items.length A.qc, .int .i64 t.p.num, .slice A.pa t.p.args.length A.pc]) ∧ (t.args = [] ∨ ∃ b, A.aa = some ⟨b, 0, none⟩ ∧ lo ≤ b ∧ TFRow w lo t.args b 0)) : TFOk w lo t A := by
  obtain ⟨k, v, vs, lo2, hi, ws, p, l⟩ := t
  rw [TFOk]; exact h
end Go.Proofs.Yteebbffecaeciaa
/- val.copies, val.Copy. -/
namespace Go.Proofs.Yteebbffecaeciaa
open Go.RowKit

theorem zeroV : (Try.prog.info? 25).map (fun i => (i.zero, i.size, i.bytes)) = some (some (.agg #[.int .u8 0, .int .i64 0, .slice none 0 0]), 3, 40) := by kernel_rfl
def zeroCells (n : Nat) : Array Value := madeCells (Value.agg #[.int .u8 0, .int .i64 0, .slice none 0 0]).cells (n * 3)
theorem zeroCells_size (n : Nat) : (zeroCells n).size = n * 3 := size_madeCells _ _
theorem make_vals (n : Nat) (h : n ≤ 3518437208780) (w : World) : (Instr.makeSlice 23 (.int .i64 n) (.int .i64 n)).run Try.prog w = .ok (.slice (some ⟨w.heap.size, 0, none⟩) n n) (w.alloc (.cells (zeroCells n) 25)) := by
  obtain ⟨i0, hi, hz0, hz1, hz2⟩ := info_parts zeroV
  have := run_make (P := Try.prog) w 23 25 i0 _ Try.underlying23 hi hz0 .i64 .i64 n n (by omega) (by omega) (by rw [hz2]; omega) (by omega)
  rw [hz1] at this
  exact this

/-- what 'Copy' hands back of t. -/
def CopyOf (t : VT) (w : World) (e : Ending) (w' : World) : Prop := ∃ v', e = .returned v' ∧ FIn w' w.heap.size t v' ∧ Below w.heap.size w w'
/-- what 'copies' hands back of l. -/
def CopiesOf (l : List VT) (w : World) (e : Ending) (w' : World) : Prop :=
  ∃ a' cap', e = .returned (.slice a' l.length cap') ∧ (l = [] ∨ ∃ b, a' = some ⟨b, 0, none⟩ ∧ w.heap.size ≤ b ∧ FRow w' w.heap.size l b 0) ∧ Below w.heap.size w w'

theorem take_get {α : Type} {l : List α} {i j : Nat} (h : j < (l.take i).length) : (l.take i)[j] = l[j]'(by rw [List.length_take] at h; omega) := List.getElem_take

/-- one more item stands. -/
theorem copies_step {l : List VT} {i B : Nat} {wr w2 : World} {k n : Int} {a' : Option Addr} {len cap' : Nat} (hi : i < l.length) (hrow : RowAt wr 25 B (l.length * 3)) (hr : FRow wr (B + 1) (l.take i) B 0)
    (hb : Below wr.heap.size wr w2) (hv : FIn w2 (wr.heap.size) l[i] (.agg #[.int .u8 k, .int .i64 n, .slice a' len cap'])) :
    FRow (((w2.setCell ⟨B, i * 3, none⟩ (.int .u8 k)).setCell ⟨B, i * 3 + 1, none⟩ (.int .i64 n)).setCell ⟨B, i * 3 + 2, none⟩ (.slice a' len cap')) (B + 1) (l.take (i + 1)) B 0 := by
  have hlt := hrow.lt
  have hrow2 := hrow.below hlt hb
  obtain ⟨u0, q0⟩ := hrow2.cell (i * 3) (by omega)
  obtain ⟨u1, q1⟩ := hrow2.cell (i * 3 + 1) (by omega)
  obtain ⟨u2, q2⟩ := hrow2.cell (i * 3 + 2) (by omega)
  have hl : (l.take (i + 1)).length = i + 1 := by rw [List.length_take]; omega
  refine FRow.of B _ 0 fun j hj => ?_
  have hj' : j < i + 1 := by omega
  rw [take_get hj, Nat.zero_add]
  have fz : ∀ o, ((((w2.setCell ⟨B, i * 3, none⟩ (.int .u8 k)).setCell ⟨B, i * 3 + 1, none⟩ (.int .i64 n)).setCell ⟨B, i * 3 + 2, none⟩ (.slice a' len cap'))).frozen? ⟨B, o, none⟩ = false := fun o => by
    rw [World.frozen?_setCell, World.frozen?_setCell, World.frozen?_setCell]; exact hrow2.frozen o
  by_cases e : j = i
  · subst e
    refine ⟨.int .u8 k, .int .i64 n, .slice a' len cap', ?_, ?_, ?_, fz _, fz _, fz _, ?_⟩
    · rw [cell_set_off (by omega), cell_set_off (by omega)]
      exact World.cell?_setCell_same' _ _ _ (by rw [q0]; rfl)
    · rw [cell_set_off (by omega)]
      exact World.cell?_setCell_same' _ _ _ (by rw [cell_set_off (by omega), q1]; rfl)
    · exact World.cell?_setCell_same' _ _ _ (by rw [cell_set_off (by omega), cell_set_off (by omega), q2]; rfl)
    · exact (((hv.set (p := ⟨B, j * 3, none⟩) hlt _).set (p := ⟨B, j * 3 + 1, none⟩) hlt _).set (p := ⟨B, j * 3 + 2, none⟩) hlt _).less hlt
  · obtain ⟨v0, v1, v2, h0, h1, h2, _, _, _, ht⟩ := hr.get j (by rw [List.length_take]; omega)
    rw [Nat.zero_add] at h0 h1 h2
    rw [take_get (by rw [List.length_take]; omega)] at ht
    have put : ∀ o v, o ≠ i * 3 → o ≠ i * 3 + 1 → o ≠ i * 3 + 2 → wr.cell? ⟨B, o, none⟩ = some v → ((((w2.setCell ⟨B, i * 3, none⟩ (.int .u8 k)).setCell ⟨B, i * 3 + 1, none⟩ (.int .i64 n)).setCell ⟨B, i * 3 + 2, none⟩ (.slice a' len cap'))).cell? ⟨B, o, none⟩ = some v := fun o v e0 e1 e2 hc => by
      rw [cell_set_off (Ne.symm e2), cell_set_off (Ne.symm e1), cell_set_off (Ne.symm e0)]; exact cell_stays hb hc
    refine ⟨v0, v1, v2, put _ _ (by omega) (by omega) (by omega) h0, put _ _ (by omega) (by omega) (by omega) h1, put _ _ (by omega) (by omega) (by omega) h2, fz _, fz _, fz _, ?_⟩
    exact (((ht.below hb).set (p := ⟨B, i * 3, none⟩) (Nat.lt_succ_self _) _).set (p := ⟨B, i * 3 + 1, none⟩) (Nat.lt_succ_self _) _).set (p := ⟨B, i * 3 + 2, none⟩) (Nat.lt_succ_self _) _

set_option maxRecDepth 100000 in
set_option maxHeartbeats 2000000 in
theorem copies_of (l : List VT) (a : Option Addr) (cap : Nat) (w : World) (hl : l.length ≤ 3518437208780) (hr : VRow w l a)
    (hC : ∀ (i : Nat) (hi : i < l.length) (v : Value) (W : World), VIn W l[i] v → Calls Try.prog 61 #[v] W (CopyOf l[i] W)) :
    Calls Try.prog 90 #[.slice a l.length cap] w (CopiesOf l w) := by
  have HC := Lib.hid hC; clear hC
  by_cases h0 : l = []
  · subst h0
    go_enter Try.func90, Try.ntmps90
    go_wp2_with fail
    go_ret
    exact ⟨none, 0, rfl, .inl rfl, Below.refl _ _⟩
  · have hpos : 0 < l.length := List.length_pos_iff.2 h0
    have hb : ((l.length : Int) == 0) = false := by simp; omega
    have hmk := make_vals l.length hl
    go_enter Try.func90, Try.ntmps90
    go_wp2_with fail
    clear hmk
    go_loopw [14] (fun x wr => ∃ i : Nat, x = .int .i64 i ∧ i ≤ l.length ∧ RowAt wr 25 w.heap.size (l.length * 3) ∧ FRow wr (w.heap.size + 1) (l.take i) w.heap.size 0 ∧ Below w.heap.size w wr) (fun x _ => l.length - (intOf x).toNat)
    case atStart => exact ⟨0, rfl, by omega, by have := RowAt.new w (zeroCells l.length) 25; rwa [zeroCells_size] at this, by rw [List.take_zero, FRow]; trivial, (Below.refl _ _).alloc (Nat.le_refl _) _⟩
    case round =>
      obtain ⟨i, rfl, hi, hrow, hfr, hbl⟩ := hrel
      have hsz := hrow.lt
      by_cases hlt : i < l.length
      · obtain ⟨b, o, rfl, ax, cx, d0, d1, d2, hv⟩ := (hr.below hbl).got i hlt
        go_wp2_with fail
        refine (HC.out i hlt _ _ (hv.below ((Below.refl _ _).alloc (Nat.le_refl _) _))).mono ?_
        rintro e w2 ⟨v', rfl, hf, hb2⟩
        have hbw : Below wr.heap.size wr w2 := ((Below.refl _ wr).alloc (Nat.le_refl _) _).trans (hb2.mono (by simp))
        have hrow2 := hrow.below hsz hbw
        obtain ⟨u0, q0⟩ := hrow2.cell (i * 3) (by omega)
        obtain ⟨u1, q1⟩ := hrow2.cell (i * 3 + 1) (by omega)
        obtain ⟨u2, q2⟩ := hrow2.cell (i * 3 + 2) (by omega)
        have g0 := hrow2.frozen (i * 3)
        have g1 := hrow2.frozen (i * 3 + 1)
        have g2 := hrow2.frozen (i * 3 + 2)
        generalize hti : l[i] = ti at hf
        obtain ⟨k, n, its⟩ := ti
        obtain ⟨a', cap', hl', rfl, hrest⟩ := hf.open
        have HF := Lib.hid hf
        have HTI := Lib.hid hti
        clear hf hti hrest
        go_wp2_with fail
        have hstep := copies_step hlt hrow hfr hbw (by rw [HTI.out]; exact HF.out.less (by simp))
        exact ⟨⟨i + 1, by go_num, by omega, ((hrow2.set _ _ rfl).set _ _ rfl).set _ _ rfl, hstep, (((hbl.trans (hbw.mono (Nat.le_of_lt hsz))).setCell (Nat.le_refl _) _).setCell (Nat.le_refl _) _).setCell (Nat.le_refl _) _⟩, by simp [intOf]; omega⟩
      · go_wp2_with fail
        go_ret
        exact ⟨some ⟨w.heap.size, 0, none⟩, l.length, rfl, .inr ⟨w.heap.size, rfl, Nat.le_refl _, by rw [List.take_of_length_le (by omega)] at hfr; exact FRow.less (Nat.le_succ _) _ _ _ hfr⟩, hbl⟩

set_option maxRecDepth 100000 in
set_option maxHeartbeats 1000000 in
theorem copy_any (N : Nat) : ∀ (t : VT) (v : Value) (w : World), t.size ≤ N → VIn w t v → Calls Try.prog 61 #[v] w (CopyOf t w) := by
  induction N with
  | zero => intro t v w h; have := VT.size_pos t; omega
  | succ N ih =>
    intro t v w hN hv
    obtain ⟨k, n, its⟩ := t
    obtain ⟨a, cap, hlen, rfl, hr⟩ := hv.open
    rw [VT.size] at hN
    have IH := Lib.hid ih; clear ih hv
    go_enter Try.func61, Try.ntmps61
    go_wp2_with fail
    refine (copies_of its a cap _ hlen (hr.below (((Below.refl _ w).alloc (Nat.le_refl _) _).alloc (by simp) _)) (fun i hi v W hvi => IH.out _ v W (by have := VT.sizes_get hi; omega) hvi)).mono ?_
    rintro e w1 ⟨a', cap', rfl, hf, hb1⟩
    have HF := Lib.hid hf; clear hf
    have hsz := hb1.size
    simp only [World.size_alloc] at hsz
    have c0 : w1.cell? ⟨w.heap.size, 0, none⟩ = some (.int .u8 k) := cell_stay hb1 (by simp; omega) (by go_simp)
    have c1 : w1.cell? ⟨w.heap.size, 1, none⟩ = some (.int .i64 n) := cell_stay hb1 (by simp; omega) (by go_simp)
    have c2 : w1.cell? ⟨w.heap.size, 2, none⟩ = some (.slice a its.length cap) := cell_stay hb1 (by simp; omega) (by go_simp)
    have f2 : w1.frozen? ⟨w.heap.size, 2, none⟩ = false := frozen_stay hb1 (by simp; omega) (by go_simp)
    have e0 : w1.cell? ⟨w.heap.size + 1, 0, none⟩ = some (.int .u8 0) := cell_stay hb1 (by simp) (by go_simp)
    have e1 : w1.cell? ⟨w.heap.size + 1, 1, none⟩ = some (.int .i64 0) := cell_stay hb1 (by simp) (by go_simp)
    have e2 : w1.cell? ⟨w.heap.size + 1, 2, none⟩ = some (.slice none 0 0) := cell_stay hb1 (by simp) (by go_simp)
    have g0 : w1.frozen? ⟨w.heap.size + 1, 0, none⟩ = false := frozen_stay hb1 (by simp) (by go_simp)
    have g1 : w1.frozen? ⟨w.heap.size + 1, 1, none⟩ = false := frozen_stay hb1 (by simp) (by go_simp)
    have g2 : w1.frozen? ⟨w.heap.size + 1, 2, none⟩ = false := frozen_stay hb1 (by simp) (by go_simp)
    have hbw : Below w.heap.size w w1 := (((Below.refl _ w).alloc (Nat.le_refl _) _).alloc (by simp) _).trans (hb1.mono (by simp; omega))
    go_wp2_with fail
    have q0 := set_same (v := .int .u8 k) (set_blk (o' := 2) (v := .slice a' its.length cap') e0 (show w.heap.size ≠ w.heap.size + 1 by omega))
    have q1 := set_same (v := .int .i64 n) (set_off (o' := 0) (v := .int .u8 k) (set_blk (o' := 2) (v := .slice a' its.length cap') e1 (show w.heap.size ≠ w.heap.size + 1 by omega)) (by omega))
    have q2 := set_same (v := .slice a' its.length cap') (set_off (o' := 1) (v := .int .i64 n) (set_off (o' := 0) (v := .int .u8 k) (set_blk (o' := 2) (v := .slice a' its.length cap') e2 (show w.heap.size ≠ w.heap.size + 1 by omega)) (by omega)) (by omega))
    refine bodyPost_ret (v := .agg #[.int .u8 k, .int .i64 n, .slice a' its.length cap']) ?_ rfl ⟨_, rfl, ?_, ?_⟩
    · simp [results, Try.results61, go_sem, q0, q1, q2]
    · rw [FIn]
      refine ⟨a', cap', hlen, rfl, HF.out.imp id ?_⟩
      rintro ⟨b, hb, hlo, hfr⟩
      simp only [World.size_alloc] at hlo hfr
      refine ⟨b, hb, by omega, ?_⟩
      refine FRow.mono (lo := w.heap.size + 1 + 1) (by omega) (fun b' o v hb' hc => ?_) (fun b' o v hb' hc hf => ?_) its b 0 hlo hfr
      · rw [cell_set_other (by simp; omega), cell_set_other (by simp; omega), cell_set_other (by simp; omega), cell_set_other (by simp; omega)]; exact hc
      · rw [World.frozen?_setCell, World.frozen?_setCell, World.frozen?_setCell, World.frozen?_setCell]; exact hf
    · exact (((hbw.setCell (by simp) _).setCell (by simp) _).setCell (by simp) _).setCell (by simp) _
end Go.Proofs.Yteebbffecaeciaa
/- val.Num, Bool, Tuple, List. -/
namespace Go.Proofs.Yteebbffecaeciaa
open Go.RowKit

theorem copies_any (l : List VT) (a : Option Addr) (cap : Nat) (w : World) (hl : l.length ≤ 3518437208780) (hr : VRow w l a) : Calls Try.prog 90 #[.slice a l.length cap] w (CopiesOf l w) :=
  copies_of l a cap w hl hr (fun _ _ v W hv => copy_any _ _ v W (Nat.le_refl _) hv)

set_option maxHeartbeats 1000000 in
theorem num_any (n : Int) (w : World) : Calls Try.prog 55 #[.int .i64 n] w fun e w' => e = .returned (.agg #[.int .u8 1, .int .i64 n, .slice none 0 0]) ∧ Below w.heap.size w w' := by
  go_enter Try.func55, Try.ntmps55
  go_wp2_with fail
  refine bodyPost_ret (v := .agg #[.int .u8 1, .int .i64 n, .slice none 0 0]) (by simp [results, Try.results55, go_sem]) rfl ⟨rfl, ?_⟩
  exact (Below.refl _ _).alloc (Nat.le_refl _) _
def boolI (b : Bool) : Int := if b then 1 else 0
set_option maxHeartbeats 1000000 in
theorem bool_any (b : Bool) (w : World) : Calls Try.prog 56 #[.bool b] w fun e w' => e = .returned (.agg #[.int .u8 2, .int .i64 (boolI b), .slice none 0 0]) ∧ Below w.heap.size w w' := by
  cases b
  · go_enter Try.func56, Try.ntmps56
    go_wp2_with fail
    refine bodyPost_ret (v := .agg #[.int .u8 2, .int .i64 0, .slice none 0 0]) (by simp [results, Try.results56, go_sem]) rfl ⟨rfl, ?_⟩
    exact ((Below.refl _ _).alloc (Nat.le_refl _) _).alloc (by simp) _
  · go_enter Try.func56, Try.ntmps56
    go_wp2_with fail
    refine bodyPost_ret (v := .agg #[.int .u8 2, .int .i64 1, .slice none 0 0]) (by simp [results, Try.results56, go_sem]) rfl ⟨rfl, ?_⟩
    exact ((Below.refl _ _).alloc (Nat.le_refl _) _).alloc (by simp) _
/-- what Tuple, List hand back. -/
def MadeOf (t : VT) (w : World) (e : Ending) (w' : World) : Prop := ∃ v', e = .returned v' ∧ FIn w' w.heap.size t v' ∧ Below w.heap.size w w'
theorem fin_of_copies {k n : Int} {l : List VT} {w w' : World} {B : Nat} {a' : Option Addr} {cap' : Nat} (hl : l.length ≤ 3518437208780) (hB : w.heap.size ≤ B) (h : l = [] ∨ ∃ b, a' = some ⟨b, 0, none⟩ ∧ B ≤ b ∧ FRow w' B l b 0) :
    FIn w' w.heap.size (.mk k n l) (.agg #[.int .u8 k, .int .i64 n, .slice a' l.length cap']) := by
  rw [FIn]
  refine ⟨a', cap', hl, rfl, h.imp id ?_⟩
  rintro ⟨b, hb, hlo, hf⟩
  exact ⟨b, hb, by omega, FRow.less hB _ _ _ hf⟩
set_option maxHeartbeats 1000000 in
theorem tuple_any (l : List VT) (a : Option Addr) (cap : Nat) (w : World) (hl : l.length ≤ 3518437208780) (hr : VRow w l a) : Calls Try.prog 57 #[.slice a l.length cap] w (MadeOf (.mk 3 0 l) w) := by
  go_enter Try.func57, Try.ntmps57
  go_wp2_with fail
  refine (copies_any l a cap _ hl (hr.below ((Below.refl _ w).alloc (Nat.le_refl _) _))).mono ?_
  rintro e w1 ⟨a', cap', rfl, hf, hb1⟩
  have HF := Lib.hid hf; clear hf
  have hsz := hb1.size
  simp only [World.size_alloc] at hsz
  have e0 : w1.cell? ⟨w.heap.size, 0, none⟩ = some (.int .u8 0) := cell_stay hb1 (by simp) (by go_simp)
  have e1 : w1.cell? ⟨w.heap.size, 1, none⟩ = some (.int .i64 0) := cell_stay hb1 (by simp) (by go_simp)
  have e2 : w1.cell? ⟨w.heap.size, 2, none⟩ = some (.slice none 0 0) := cell_stay hb1 (by simp) (by go_simp)
  have g0 : w1.frozen? ⟨w.heap.size, 0, none⟩ = false := frozen_stay hb1 (by simp) (by go_simp)
  have g1 : w1.frozen? ⟨w.heap.size, 1, none⟩ = false := frozen_stay hb1 (by simp) (by go_simp)
  have g2 : w1.frozen? ⟨w.heap.size, 2, none⟩ = false := frozen_stay hb1 (by simp) (by go_simp)
  have hbw : Below w.heap.size w w1 := ((Below.refl _ w).alloc (Nat.le_refl _) _).trans (hb1.mono (by simp))
  go_wp2_with fail
  have q0 := set_same (v := .int .u8 3) e0
  have q1 := set_same (v := .int .i64 0) (set_off (o' := 0) (v := .int .u8 3) e1 (by omega))
  have q2 := set_same (v := .slice a' l.length cap') (set_off (o' := 1) (v := .int .i64 0) (set_off (o' := 0) (v := .int .u8 3) e2 (by omega)) (by omega))
  refine bodyPost_ret (v := .agg #[.int .u8 3, .int .i64 0, .slice a' l.length cap']) ?_ rfl ⟨_, rfl, ?_, ?_⟩
  · simp [results, Try.results57, go_sem, q0, q1, q2]
  · have h1 := fin_of_copies (k := 3) (n := 0) (cap' := cap') hl (show w.heap.size ≤ (w.alloc (.cells #[.int .u8 0, .int .i64 0, .slice none 0 0] 25)).heap.size by simp) HF.out
    rw [FIn] at h1 ⊢
    obtain ⟨a2, c2, h2, h3, h4⟩ := h1
    simp only [Value.agg.injEq, Array.mk.injEq, List.cons.injEq, Value.slice.injEq, and_true, true_and] at h3
    obtain ⟨rfl, rfl⟩ := h3
    refine ⟨a', cap', h2, rfl, HF.out.imp id ?_⟩
    rintro ⟨b, hb, hlo, hfr⟩
    simp only [World.size_alloc] at hlo hfr
    refine ⟨b, hb, by omega, ?_⟩
    refine FRow.mono (lo := w.heap.size + 1) (by omega) (fun b' o v hb' hc => ?_) (fun b' o v hb' hc hf => ?_) l b 0 hlo hfr
    · rw [cell_set_other (by simp; omega), cell_set_other (by simp; omega), cell_set_other (by simp; omega)]; exact hc
    · rw [World.frozen?_setCell, World.frozen?_setCell, World.frozen?_setCell]; exact hf
  · exact ((hbw.setCell (Nat.le_refl _) _).setCell (Nat.le_refl _) _).setCell (Nat.le_refl _) _
set_option maxHeartbeats 1000000 in
theorem list_any (l : List VT) (a : Option Addr) (cap : Nat) (w : World) (hl : l.length ≤ 3518437208780) (hr : VRow w l a) : Calls Try.prog 58 #[.slice a l.length cap] w (MadeOf (.mk 4 0 l) w) := by
  go_enter Try.func58, Try.ntmps58
  go_wp2_with fail
  refine (copies_any l a cap _ hl (hr.below ((Below.refl _ w).alloc (Nat.le_refl _) _))).mono ?_
  rintro e w1 ⟨a', cap', rfl, hf, hb1⟩
  have HF := Lib.hid hf; clear hf
  have hsz := hb1.size
  simp only [World.size_alloc] at hsz
  have e0 : w1.cell? ⟨w.heap.size, 0, none⟩ = some (.int .u8 0) := cell_stay hb1 (by simp) (by go_simp)
  have e1 : w1.cell? ⟨w.heap.size, 1, none⟩ = some (.int .i64 0) := cell_stay hb1 (by simp) (by go_simp)
  have e2 : w1.cell? ⟨w.heap.size, 2, none⟩ = some (.slice none 0 0) := cell_stay hb1 (by simp) (by go_simp)
  have g0 : w1.frozen? ⟨w.heap.size, 0, none⟩ = false := frozen_stay hb1 (by simp) (by go_simp)
  have g1 : w1.frozen? ⟨w.heap.size, 1, none⟩ = false := frozen_stay hb1 (by simp) (by go_simp)
  have g2 : w1.frozen? ⟨w.heap.size, 2, none⟩ = false := frozen_stay hb1 (by simp) (by go_simp)
  have hbw : Below w.heap.size w w1 := ((Below.refl _ w).alloc (Nat.le_refl _) _).trans (hb1.mono (by simp))
  go_wp2_with fail
  have q0 := set_same (v := .int .u8 4) e0
  have q1 := set_same (v := .int .i64 0) (set_off (o' := 0) (v := .int .u8 4) e1 (by omega))
  have q2 := set_same (v := .slice a' l.length cap') (set_off (o' := 1) (v := .int .i64 0) (set_off (o' := 0) (v := .int .u8 4) e2 (by omega)) (by omega))
  refine bodyPost_ret (v := .agg #[.int .u8 4, .int .i64 0, .slice a' l.length cap']) ?_ rfl ⟨_, rfl, ?_, ?_⟩
  · simp [results, Try.results58, go_sem, q0, q1, q2]
  · have h1 := fin_of_copies (k := 4) (n := 0) (cap' := cap') hl (show w.heap.size ≤ (w.alloc (.cells #[.int .u8 0, .int .i64 0, .slice none 0 0] 25)).heap.size by simp) HF.out
    rw [FIn] at h1 ⊢
    obtain ⟨a2, c2, h2, h3, h4⟩ := h1
    simp only [Value.agg.injEq, Array.mk.injEq, List.cons.injEq, Value.slice.injEq, and_true, true_and] at h3
    obtain ⟨rfl, rfl⟩ := h3
    refine ⟨a', cap', h2, rfl, HF.out.imp id ?_⟩
    rintro ⟨b, hb, hlo, hfr⟩
    simp only [World.size_alloc] at hlo hfr
    refine ⟨b, hb, by omega, ?_⟩
    refine FRow.mono (lo := w.heap.size + 1) (by omega) (fun b' o v hb' hc => ?_) (fun b' o v hb' hc hf => ?_) l b 0 hlo hfr
    · rw [cell_set_other (by simp; omega), cell_set_other (by simp; omega), cell_set_other (by simp; omega)]; exact hc
    · rw [World.frozen?_setCell, World.frozen?_setCell, World.frozen?_setCell]; exact hf
  · exact ((hbw.setCell (Nat.le_refl _) _).setCell (Nat.le_refl _) _).setCell (Nat.le_refl _) _
end Go.Proofs.Yteebbffecaeciaa
