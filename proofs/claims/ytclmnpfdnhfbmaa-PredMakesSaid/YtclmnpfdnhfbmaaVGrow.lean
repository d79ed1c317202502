/- A row that append builds. -/
import Derived.Test.YtclmnpfdnhfbmaaVFresh
import Derived.Deep.AppendSrc
import Derived.Laws.AppendOwn
import Derived.OwnWalk
namespace Go.Proofs.Ytclmnpfdnhfbmaa
open Go.RowKit

theorem below_setRow {B : Nat} {a : World} (b : Nat) (hb : B ≤ b) : ∀ (vs : List Value) (o : Nat) (w : World), Below B a w → Below B a (w.setCells b o vs)
  | [], _, _, h => h
  | v :: r, o, _, h => below_setRow b hb r (o + 1) _ (h.setCell (p := ⟨b, o, none⟩) hb v)
theorem heap_setRow (b k : Nat) (h : k ≠ b) : ∀ (vs : List Value) (o : Nat) (w : World), (w.setCells b o vs).heap[k]? = w.heap[k]?
  | [], _, _ => rfl
  | v :: r, o, w => by rw [World.setCells, heap_setRow b k h r]; exact Below.heap_setCell w ⟨b, o, none⟩ v k h
theorem size_setRow (b : Nat) : ∀ (vs : List Value) (o : Nat) (w : World), (w.setCells b o vs).heap.size = w.heap.size
  | [], _, _ => rfl
  | v :: r, o, w => by rw [World.setCells, size_setRow b r]; simp [World.setCell]
theorem RowAt.sets {t b n : Nat} (b' : Nat) : ∀ (vs : List Value) (o : Nat) (w : World), RowAt w t b n → RowAt (w.setCells b' o vs) t b n
  | [], _, _, h => h
  | v :: r, o, _, h => RowAt.sets b' r (o + 1) _ (h.set ⟨b', o, none⟩ v rfl)

/-- a row that grows: len elements of k cells each, and what they hold; its block, if it has one, is younger than B. -/
structure Grown (w : World) (B T k len : Nat) (xs : List Value) (a : Option Addr) (cap : Nat) : Prop where
  size : xs.length = len * k
  le : len ≤ cap
  row : (cap = 0 ∧ (a = none ∨ ∃ b, a = some ⟨b, 0, none⟩)) ∨ ∃ b, a = some ⟨b, 0, none⟩ ∧ B ≤ b ∧ RowAt w T b (cap * k) ∧ ∀ j v, xs[j]? = some v → w.cell? ⟨b, j, none⟩ = some v
theorem Grown.nil (w : World) (B T k : Nat) : Grown w B T k 0 [] none 0 := ⟨by simp, Nat.le_refl _, .inl ⟨rfl, .inl rfl⟩⟩
theorem Grown.empty (w : World) (B T k b : Nat) : Grown w B T k 0 [] (some ⟨b, 0, none⟩) 0 := ⟨by simp, Nat.le_refl _, .inl ⟨rfl, .inr ⟨b, rfl⟩⟩⟩
theorem Grown.below {w w' : World} {B T k len cap : Nat} {xs : List Value} {a : Option Addr} (h : Grown w B T k len xs a cap) (hb : Below w.heap.size w w') : Grown w' B T k len xs a cap :=
  ⟨h.size, h.le, h.row.imp id fun ⟨b, ha, hB, hr, hc⟩ => ⟨b, ha, hB, hr.below hr.lt hb, fun j v hv => cell_stays hb (hc j v hv)⟩⟩
theorem Grown.cells {w : World} {B T k len cap : Nat} {xs : List Value} {a : Option Addr} (h : Grown w B T k len xs a cap) (hk : 0 < xs.length) : ∃ b, a = some ⟨b, 0, none⟩ ∧ B ≤ b ∧ RowAt w T b (cap * k) ∧ ∀ j v, xs[j]? = some v → w.cell? ⟨b, j, none⟩ = some v := by
  rcases h.row with ⟨h0, _⟩ | h1
  · have h2 := h.size; have h3 := h.le
    rw [h0] at h3
    have h4 : len = 0 := by omega
    rw [h4] at h2; simp at h2; rw [h2] at hk; simp at hk
  · exact h1

theorem grown_append {P : Program} {w : World} {B T k len cap : Nat} {xs : List Value} {a : Option Addr} (hB : B ≤ w.heap.size) (h : Grown w B T k len xs a cap)
    {t tx ty : TypeId} {i : TypeInfo} {z : Value} {bytes : Nat} (ht : P.underlying t = some (.slice T)) (hi : P.info? T = some i) (hz : i.zero = some z) (hs : i.size = k) (hzs : z.cells.size = k) (hby : i.bytes = bytes)
    {x : Value} {n : Nat} {news : List Value} (src : Src P k tx x n news w) (hn : (len + n) * bytes ≤ 140737488355328) (h63 : len + n ≤ 9223372036854775807) :
    ∃ a' cap' w', (Builtin.append_ #[t, tx] ty #[.slice a len cap, x]).run P w = .ok (.slice a' (len + n) cap') w' ∧ Grown w' B T k (len + n) (xs ++ news) a' cap' ∧ Below B w w' ∧
      (∀ k, k < w.heap.size → (∀ b', a = some ⟨b', 0, none⟩ → k ≠ b') → w'.heap[k]? = w.heap[k]? ∧ ∀ b', a' = some ⟨b', 0, none⟩ → k ≠ b') := by
  subst hs
  have hnl := src.newsLen
  by_cases hroom : len + n ≤ cap
  · rcases h.row with ⟨h0, hr⟩ | ⟨b, rfl, hb, hrow, hc⟩
    · have e1 : len = 0 := by omega
      have e2 : n = 0 := by omega
      subst h0 e1 e2
      have e3 : news = [] := List.length_eq_zero_iff.1 (by rw [hnl]; simp)
      have e4 : xs = [] := List.length_eq_zero_iff.1 (by rw [h.size]; simp)
      subst e3 e4
      rcases hr with rfl | ⟨b, rfl⟩
      · refine ⟨none, 0, w, ?_, Grown.nil _ _ _ _, Below.refl _ _, fun k _ _ => ⟨rfl, fun b' h => by cases h⟩⟩
        rcases src.kind with ⟨e', hk⟩ | hk <;> simp [Builtin.append_, run_underlying ht, run_underlying hk, sizeOf, typeInfo, hi, src.len, src.cells]
      · refine ⟨_, 0, w, ?_, Grown.empty _ _ _ _ b, Below.refl _ _, fun k _ hn => ⟨rfl, hn⟩⟩
        have := run_append_room_src (ty := ty) w t tx T i ht hi b 0 0 0 x 0 [] src (by omega) (by simp) (by simp)
        simpa [World.setCells] using this
    · have hlt : (len + n) * i.size ≤ cap * i.size := Nat.mul_le_mul_right _ hroom
      rw [Nat.add_mul] at hlt
      have := run_append_room_src (ty := ty) w t tx T i ht hi b 0 len cap x n news src hroom
        (fun j hj => by obtain ⟨v, hv⟩ := hrow.cell (len * i.size + j) (by omega); simp only [Nat.zero_add]; rw [hv]; rfl) (fun j hj => hrow.frozen _)
      simp only [Nat.zero_add] at this
      refine ⟨_, cap, _, this, ⟨?_, hroom, .inr ⟨b, rfl, hb, hrow.sets _ _ _ _, fun j v hv => ?_⟩⟩, below_setRow b hb _ _ _ (Below.refl _ _), fun k _ hn => ⟨heap_setRow b k (hn b rfl) _ _ _, hn⟩⟩
      · rw [List.length_append, h.size, hnl, Nat.add_mul]
      · by_cases hj : j < xs.length
        · rw [List.getElem?_append_left hj] at hv
          rw [World.cell?_setCells_out b news _ w _ (fun _ _ => .inl (by have := h.size; show j < len * i.size; omega))]
          exact hc j v hv
        · rw [List.getElem?_append_right (by omega)] at hv
          obtain ⟨hl, rfl⟩ := List.getElem?_eq_some_iff.1 hv
          have := World.cell?_setCells_in b news (len * i.size) w (fun j hj => by obtain ⟨v, hv⟩ := hrow.cell (len * i.size + j) (by omega); rw [hv]; rfl) (j - xs.length) hl
          rw [← this]; congr 2; have := h.size; omega
  · have hold : (Builtin.firstCells i.size len (.slice a len cap)).run P w.drew = .ok xs.toArray w.drew := by
      rcases h.row with ⟨h0, hr⟩ | ⟨b, rfl, hb, hrow, hc⟩
      · have hle := h.le
        have e1 : len = 0 := by omega
        subst e1 h0
        have e4 : xs = [] := List.length_eq_zero_iff.1 (by rw [h.size]; simp)
        subst e4
        rcases hr with rfl | ⟨b, rfl⟩
        · exact run_firstCells_none _ _ _ _ _
        · exact run_firstCells_some _ _ _ _ _ _ [] (by simp) (by simp)
      · exact run_firstCells_some _ _ _ _ _ _ xs h.size (fun j v hv => by have := hc j v hv; simpa [Addr.add_lit] using this)
    have hfit := growslice_fits (need := len + n) (old := cap) (bytes := i.bytes) (by omega) (by rw [hby]; omega)
    have := run_append_grow_src (ty := ty) w t tx T i z ht hi hz a len cap xs hold x n news src (by omega) (by omega) hfit
    have hge := grownCap_ge w (len + n) cap T
    refine ⟨_, _, _, this, ⟨?_, hge, .inr ⟨w.heap.size, rfl, hB, ?_, fun j v hv => ?_⟩⟩, (Below.refl _ _).drew.alloc hB _, fun k hk _ => ⟨((Below.refl _ w).drew.alloc (Nat.le_refl _) _).block k hk, fun b' h => by cases h; omega⟩⟩
    · rw [List.length_append, h.size, hnl, Nat.add_mul]
    · have hr := RowAt.new w.drew ((xs ++ news).toArray ++ Builtin.zeroCells z.cells (grownCap w (len + n) cap T - (len + n))) T
      have e : ((xs ++ news).toArray ++ Builtin.zeroCells z.cells (grownCap w (len + n) cap T - (len + n))).size = grownCap w (len + n) cap T * i.size := by
        rw [Array.size_append, size_zeroCells, hzs]
        simp only [List.size_toArray, List.length_append, h.size, hnl]
        rw [← Nat.add_mul, ← Nat.add_mul]; congr 1; omega
      rw [e] at hr; exact hr
    · obtain ⟨hl, rfl⟩ := List.getElem?_eq_some_iff.1 hv
      show (World.alloc w.drew _).cell? _ = _
      rw [show w.heap.size = w.drew.heap.size from rfl]
      go_simp
      rw [Array.getElem?_append_left (by simpa using hl)]
      simp

/-- 'append' in a walk, its run known. -/
theorem wpList_append_run {P : Program} (w : World) {ops : Array Oper} {rest : List Oper} {o : Oper} {a : Act} {Q : Exit → Act → World → Prop}
    (hg : o.guard = none) (s x : Operand) (t : TypeId) (hop : o.op = Op.call { callee := Callee.builtin Builtin.append, args := #[s, x], argTypes := #[t, t] }) (sv xv v : Value) (w' : World)
    (hs : a.eval s = sv) (hx : a.eval x = xv) (hrun : (Builtin.append_ #[t, t] o.type #[sv, xv]).run P w = .ok v w') (hK : wpList P ops Q rest (a.put o.dst v) w') : wpList P ops Q (o :: rest) a w := by
  refine wpList_plain hg fun K hK' => ?_
  unfold Oper.wp
  simp [execOp, hop, resolve, invoke, builtin, hs, hx, hrun, Result.andThen]
  exact hK' _ _ hK
end Go.Proofs.Ytclmnpfdnhfbmaa
