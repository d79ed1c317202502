/- What may be written over, of predicates; the law's spoil. -/
import Derived.Test.YtclmnpfdnhfbmaaPMake
namespace Go.Proofs.Ytclmnpfdnhfbmaa
open Go.RowKit

/-- only blocks from lo up to hi, and new ones, have turned. -/
structure Only (lo hi : Nat) (w w' : World) : Prop where
  os : w'.os = w.os
  tape : w'.tape = w.tape
  output : w'.output = w.output
  size : w.heap.size ≤ w'.heap.size
  block : ∀ k, k < w.heap.size → (k < lo ∨ hi ≤ k) → w'.heap[k]? = w.heap[k]?
theorem Only.refl (lo hi : Nat) (w : World) : Only lo hi w w := ⟨rfl, rfl, rfl, Nat.le_refl _, fun _ _ _ => rfl⟩
theorem Only.trans {lo hi : Nat} {a b c : World} (h : Only lo hi a b) (k : Only lo hi b c) : Only lo hi a c :=
  ⟨k.os.trans h.os, k.tape.trans h.tape, k.output.trans h.output, Nat.le_trans h.size k.size, fun i hi' ho => (k.block i (Nat.lt_of_lt_of_le hi' h.size) ho).trans (h.block i hi' ho)⟩
theorem Only.of_below {lo hi : Nat} {a b : World} (h : Below a.heap.size a b) : Only lo hi a b := ⟨h.os, h.tape, h.output, h.size, fun k hk _ => h.block k hk⟩
theorem Only.below {lo hi : Nat} {a b : World} (h : Only lo hi a b) (hl : lo ≤ a.heap.size) : Below lo a b := ⟨h.os, h.tape, h.output, h.size, fun k hk => h.block k (by omega) (.inl hk)⟩
theorem Only.set {lo hi : Nat} {a b : World} (h : Only lo hi a b) {p : Addr} (h1 : lo ≤ p.block) (h2 : p.block < hi) (v : Value) : Only lo hi a (b.setCell p v) :=
  h.trans ⟨rfl, rfl, rfl, by simp [World.setCell], fun k _ hk => Below.heap_setCell b p v k (by omega)⟩
theorem Only.cell {lo hi : Nat} {a b : World} (h : Only lo hi a b) {k o : Nat} {v : Value} (hk : k < lo ∨ hi ≤ k) (hc : a.cell? ⟨k, o, none⟩ = some v) : b.cell? ⟨k, o, none⟩ = some v := by
  rw [World.cell?_of_block (w := a) (a := ⟨k, o, none⟩) (h.block k (lt_of_cell hc) hk)]; exact hc
theorem Only.pin {lo hi : Nat} {a b : World} (h : Only lo hi a b) {t : PT} {x : Value} {w0 : World} (h0 : w0.heap.size ≤ lo) (hw : Below w0.heap.size w0 a) (hx : PIn w0 t x) : PIn b t x :=
  hx.mono (fun _ _ _ hc => h.cell (.inl (Nat.lt_of_lt_of_le (lt_of_cell hc) h0)) (cell_stays hw hc)) t x

/-- from the address on lie that many values, at the head of a block from lo up to hi. -/
def VW (w : World) (lo hi : Nat) (va : Option Addr) (vl : Nat) : Prop := vl = 0 ∨ ∃ b, va = some ⟨b, 0, none⟩ ∧ lo ≤ b ∧ b < hi ∧ ∀ i, i < vl → ∃ k0 n0 a0 l0 c0, w.cell? ⟨b, i * 3, none⟩ = some (.int .u8 k0) ∧ w.cell? ⟨b, i * 3 + 1, none⟩ = some (.int .i64 n0) ∧ w.cell? ⟨b, i * 3 + 2, none⟩ = some (.slice a0 l0 c0) ∧
  w.frozen? ⟨b, i * 3, none⟩ = false ∧ w.frozen? ⟨b, i * 3 + 1, none⟩ = false ∧ w.frozen? ⟨b, i * 3 + 2, none⟩ = false
/-- six cells of a predicate's row. -/
def PCells (w : World) (b q : Nat) (k vk vn : Int) (va : Option Addr) (vl vc : Nat) (n : Int) (a : Option Addr) (len cap : Nat) : Prop := w.cell? ⟨b, q, none⟩ = some (.int .u8 k) ∧ w.cell? ⟨b, q + 1, none⟩ = some (.int .u8 vk) ∧ w.cell? ⟨b, q + 2, none⟩ = some (.int .i64 vn) ∧
  w.cell? ⟨b, q + 3, none⟩ = some (.slice va vl vc) ∧ w.cell? ⟨b, q + 4, none⟩ = some (.int .i64 n) ∧ w.cell? ⟨b, q + 5, none⟩ = some (.slice a len cap)
def PFree (w : World) (b q : Nat) : Prop := w.frozen? ⟨b, q, none⟩ = false ∧ w.frozen? ⟨b, q + 1, none⟩ = false ∧ w.frozen? ⟨b, q + 2, none⟩ = false ∧ w.frozen? ⟨b, q + 3, none⟩ = false ∧ w.frozen? ⟨b, q + 4, none⟩ = false ∧ w.frozen? ⟨b, q + 5, none⟩ = false
/-- x is a predicate, no deeper than that, whose rows lie at the heads of blocks from lo up to hi. -/
def PWild (w : World) (lo hi : Nat) : Nat → Value → Prop
  | 0, x => ∃ k vk vn va vl vc n a cap, vl ≤ 3518437208780 ∧ x = .agg #[.int .u8 k, .int .u8 vk, .int .i64 vn, .slice va vl vc, .int .i64 n, .slice a 0 cap] ∧ VW w lo hi va vl
  | d + 1, x => ∃ k vk vn va vl vc n a len cap, vl ≤ 3518437208780 ∧ len ≤ 1759218604390 ∧ x = .agg #[.int .u8 k, .int .u8 vk, .int .i64 vn, .slice va vl vc, .int .i64 n, .slice a len cap] ∧ VW w lo hi va vl ∧ (len = 0 ∨ ∃ b, a = some ⟨b, 0, none⟩ ∧ lo ≤ b ∧ b < hi ∧ ∀ i, i < len →
      ∃ k0 vk0 vn0 va0 vl0 vc0 n0 a0 len0 cap0, PCells w b (i * 6) k0 vk0 vn0 va0 vl0 vc0 n0 a0 len0 cap0 ∧ PFree w b (i * 6) ∧ PWild w lo hi d (.agg #[.int .u8 k0, .int .u8 vk0, .int .i64 vn0, .slice va0 vl0 vc0, .int .i64 n0, .slice a0 len0 cap0]))
theorem PWild.zero (w : World) (lo hi d : Nat) (k : Int) : PWild w lo hi d (.agg #[.int .u8 k, .int .u8 0, .int .i64 0, .slice none 0 0, .int .i64 0, .slice none 0 0]) := by
  cases d with
  | zero => exact ⟨k, 0, 0, none, 0, 0, 0, none, 0, by omega, rfl, .inl rfl⟩
  | succ d => exact ⟨k, 0, 0, none, 0, 0, 0, none, 0, 0, by omega, by omega, rfl, .inl rfl, .inl rfl⟩
section
variable {w w' : World} {lo hi : Nat} (hc : ∀ b o v, lo ≤ b → b < hi → w.cell? ⟨b, o, none⟩ = some v → w'.cell? ⟨b, o, none⟩ = some v) (hf : ∀ b o v, lo ≤ b → b < hi → w.cell? ⟨b, o, none⟩ = some v → w.frozen? ⟨b, o, none⟩ = false → w'.frozen? ⟨b, o, none⟩ = false)
include hc hf
theorem VW.mono {va : Option Addr} {vl : Nat} (h : VW w lo hi va vl) : VW w' lo hi va vl := by
  refine h.imp id ?_
  rintro ⟨b, ha, h1, h2, hi'⟩
  refine ⟨b, ha, h1, h2, fun i hi => ?_⟩
  obtain ⟨k0, n0, a0, l0, c0, e0, e1, e2, f0, f1, f2⟩ := hi' i hi
  exact ⟨k0, n0, a0, l0, c0, hc _ _ _ h1 h2 e0, hc _ _ _ h1 h2 e1, hc _ _ _ h1 h2 e2, hf _ _ _ h1 h2 e0 f0, hf _ _ _ h1 h2 e1 f1, hf _ _ _ h1 h2 e2 f2⟩
theorem PWild.mono : ∀ (d : Nat) (x : Value), PWild w lo hi d x → PWild w' lo hi d x
  | 0, x, ⟨k, vk, vn, va, vl, vc, n, a, cap, hv, e, hw⟩ => ⟨k, vk, vn, va, vl, vc, n, a, cap, hv, e, hw.mono hc hf⟩
  | d + 1, x, ⟨k, vk, vn, va, vl, vc, n, a, len, cap, hv, hl, e, hw, hr⟩ => by
    refine ⟨k, vk, vn, va, vl, vc, n, a, len, cap, hv, hl, e, hw.mono hc hf, hr.imp id ?_⟩
    rintro ⟨b, ha, h1, h2, hi'⟩
    refine ⟨b, ha, h1, h2, fun i hi => ?_⟩
    obtain ⟨k0, vk0, vn0, va0, vl0, vc0, n0, a0, len0, cap0, ⟨c0, c1, c2, c3, c4, c5⟩, ⟨f0, f1, f2, f3, f4, f5⟩, hw⟩ := hi' i hi
    exact ⟨k0, vk0, vn0, va0, vl0, vc0, n0, a0, len0, cap0, ⟨hc _ _ _ h1 h2 c0, hc _ _ _ h1 h2 c1, hc _ _ _ h1 h2 c2, hc _ _ _ h1 h2 c3, hc _ _ _ h1 h2 c4, hc _ _ _ h1 h2 c5⟩,
      ⟨hf _ _ _ h1 h2 c0 f0, hf _ _ _ h1 h2 c1 f1, hf _ _ _ h1 h2 c2 f2, hf _ _ _ h1 h2 c3 f3, hf _ _ _ h1 h2 c4 f4, hf _ _ _ h1 h2 c5 f5⟩, PWild.mono d _ hw⟩
end
theorem PWild.below {w w' : World} {lo hi : Nat} (hb : Below w.heap.size w w') {d : Nat} {x : Value} (h : PWild w lo hi d x) : PWild w' lo hi d x :=
  PWild.mono (fun _ _ _ _ _ hc => cell_stays hb hc) (fun _ _ _ _ _ hc hf => frozen_stay hb (lt_of_cell hc) hf) d x h
/-- three cells written over by a value without items: at a place where a value's row lies. -/
theorem VW.store3 {w : World} {lo hi b q : Nat} {u0 u1 u2 : Value} (k : Int) (q0 : w.cell? ⟨b, q * 3, none⟩ = some u0) (q1 : w.cell? ⟨b, q * 3 + 1, none⟩ = some u1) (q2 : w.cell? ⟨b, q * 3 + 2, none⟩ = some u2) {va : Option Addr} {vl : Nat} (h : VW w lo hi va vl) :
    VW (((w.setCell ⟨b, q * 3, none⟩ (.int .u8 k)).setCell ⟨b, q * 3 + 1, none⟩ (.int .i64 0)).setCell ⟨b, q * 3 + 2, none⟩ (.slice none 0 0)) lo hi va vl := by
  refine h.imp id ?_
  rintro ⟨b', ha, h1, h2, hi'⟩
  refine ⟨b', ha, h1, h2, fun j hj => ?_⟩
  obtain ⟨k0, n0, a0, l0, c0, e0, e1, e2, f0, f1, f2⟩ := hi' j hj
  have fz : ∀ o, w.frozen? ⟨b', o, none⟩ = false → (((w.setCell ⟨b, q * 3, none⟩ (.int .u8 k)).setCell ⟨b, q * 3 + 1, none⟩ (.int .i64 0)).setCell ⟨b, q * 3 + 2, none⟩ (.slice none 0 0)).frozen? ⟨b', o, none⟩ = false := fun o hf => by
    rw [World.frozen?_setCell, World.frozen?_setCell, World.frozen?_setCell]; exact hf
  by_cases hb : b = b'
  · subst hb
    by_cases e : j = q
    · subst e
      exact ⟨k, 0, none, 0, 0, set_off (set_off (set_same q0) (by omega)) (by omega), set_off (set_same (set_off q1 (by omega))) (by omega), set_same (set_off (set_off q2 (by omega)) (by omega)), fz _ f0, fz _ f1, fz _ f2⟩
    · exact ⟨k0, n0, a0, l0, c0, set_off (set_off (set_off e0 (by omega)) (by omega)) (by omega), set_off (set_off (set_off e1 (by omega)) (by omega)) (by omega), set_off (set_off (set_off e2 (by omega)) (by omega)) (by omega), fz _ f0, fz _ f1, fz _ f2⟩
  · exact ⟨k0, n0, a0, l0, c0, set_blk (set_blk (set_blk e0 hb) hb) hb, set_blk (set_blk (set_blk e1 hb) hb) hb, set_blk (set_blk (set_blk e2 hb) hb) hb, fz _ f0, fz _ f1, fz _ f2⟩
theorem PWild.store3 {w : World} {lo hi b q : Nat} {u0 u1 u2 : Value} {z : Int} (k : Int) (hb1 : w.cell? ⟨b, 1, none⟩ = some (.int .i64 z)) (q0 : w.cell? ⟨b, q * 3, none⟩ = some u0) (q1 : w.cell? ⟨b, q * 3 + 1, none⟩ = some u1) (q2 : w.cell? ⟨b, q * 3 + 2, none⟩ = some u2) :
    ∀ (d : Nat) (x : Value), PWild w lo hi d x → PWild (((w.setCell ⟨b, q * 3, none⟩ (.int .u8 k)).setCell ⟨b, q * 3 + 1, none⟩ (.int .i64 0)).setCell ⟨b, q * 3 + 2, none⟩ (.slice none 0 0)) lo hi d x
  | 0, x, ⟨k', vk, vn, va, vl, vc, n, a, cap, hv, e, hw⟩ => ⟨k', vk, vn, va, vl, vc, n, a, cap, hv, e, hw.store3 k q0 q1 q2⟩
  | d + 1, x, ⟨k', vk, vn, va, vl, vc, n, a, len, cap, hv, hl, e, hw, hr⟩ => by
    refine ⟨k', vk, vn, va, vl, vc, n, a, len, cap, hv, hl, e, hw.store3 k q0 q1 q2, hr.imp id ?_⟩
    rintro ⟨b', ha, h1, h2, hi'⟩
    refine ⟨b', ha, h1, h2, fun j hj => ?_⟩
    have hb : b ≠ b' := fun h => by
      obtain ⟨_, vk0, _, _, _, _, _, _, _, _, ⟨_, c1, _⟩, _⟩ := hi' 0 (by omega)
      rw [← h, Nat.zero_mul, Nat.zero_add, hb1] at c1
      cases c1
    obtain ⟨k0, vk0, vn0, va0, vl0, vc0, n0, a0, len0, cap0, ⟨c0, c1, c2, c3, c4, c5⟩, ⟨f0, f1, f2, f3, f4, f5⟩, hw'⟩ := hi' j hj
    have st : ∀ o v, w.cell? ⟨b', o, none⟩ = some v → (((w.setCell ⟨b, q * 3, none⟩ (.int .u8 k)).setCell ⟨b, q * 3 + 1, none⟩ (.int .i64 0)).setCell ⟨b, q * 3 + 2, none⟩ (.slice none 0 0)).cell? ⟨b', o, none⟩ = some v := fun o v h => set_blk (set_blk (set_blk h hb) hb) hb
    have fz : ∀ o, w.frozen? ⟨b', o, none⟩ = false → (((w.setCell ⟨b, q * 3, none⟩ (.int .u8 k)).setCell ⟨b, q * 3 + 1, none⟩ (.int .i64 0)).setCell ⟨b, q * 3 + 2, none⟩ (.slice none 0 0)).frozen? ⟨b', o, none⟩ = false := fun o hf => by
      rw [World.frozen?_setCell, World.frozen?_setCell, World.frozen?_setCell]; exact hf
    exact ⟨k0, vk0, vn0, va0, vl0, vc0, n0, a0, len0, cap0, ⟨st _ _ c0, st _ _ c1, st _ _ c2, st _ _ c3, st _ _ c4, st _ _ c5⟩, ⟨fz _ f0, fz _ f1, fz _ f2, fz _ f3, fz _ f4, fz _ f5⟩, PWild.store3 k hb1 q0 q1 q2 d _ hw'⟩
/-- six cells written over by a predicate without anything: at a place where a predicate's row lies. -/
theorem VW.store6 {w w' : World} {lo hi b : Nat} {z : Int} (hb1 : w.cell? ⟨b, 1, none⟩ = some (.int .u8 z)) (hk : ∀ b' o v, b' ≠ b → w.cell? ⟨b', o, none⟩ = some v → w'.cell? ⟨b', o, none⟩ = some v) (hf : ∀ p, w'.frozen? p = w.frozen? p) {va : Option Addr} {vl : Nat} (h : VW w lo hi va vl) : VW w' lo hi va vl := by
  refine h.imp id ?_
  rintro ⟨b', ha, h1, h2, hi'⟩
  refine ⟨b', ha, h1, h2, fun j hj => ?_⟩
  have hb : b' ≠ b := fun h => by
    obtain ⟨_, n0, _, _, _, _, c1, _⟩ := hi' 0 (by omega)
    rw [h, Nat.zero_mul, Nat.zero_add, hb1] at c1
    cases c1
  obtain ⟨k0, n0, a0, l0, c0, e0, e1, e2, f0, f1, f2⟩ := hi' j hj
  exact ⟨k0, n0, a0, l0, c0, hk _ _ _ hb e0, hk _ _ _ hb e1, hk _ _ _ hb e2, by rw [hf]; exact f0, by rw [hf]; exact f1, by rw [hf]; exact f2⟩
theorem PWild.store6 {w w' : World} {lo hi b q : Nat} {z : Int} (k : Int) (hb1 : w.cell? ⟨b, 1, none⟩ = some (.int .u8 z)) (hn : PCells w' b (q * 6) k 0 0 none 0 0 0 none 0 0) (hk : ∀ b' o v, (b' = b → o < q * 6 ∨ q * 6 + 6 ≤ o) → w.cell? ⟨b', o, none⟩ = some v → w'.cell? ⟨b', o, none⟩ = some v) (hf : ∀ p, w'.frozen? p = w.frozen? p) :
    ∀ (d : Nat) (x : Value), PWild w lo hi d x → PWild w' lo hi d x
  | 0, x, ⟨k', vk, vn, va, vl, vc, n, a, cap, hv, e, hw⟩ => ⟨k', vk, vn, va, vl, vc, n, a, cap, hv, e, hw.store6 hb1 (fun _ _ _ h => hk _ _ _ (fun e => absurd e h)) hf⟩
  | d + 1, x, ⟨k', vk, vn, va, vl, vc, n, a, len, cap, hv, hl, e, hw, hr⟩ => by
    refine ⟨k', vk, vn, va, vl, vc, n, a, len, cap, hv, hl, e, hw.store6 hb1 (fun _ _ _ h => hk _ _ _ (fun e => absurd e h)) hf, hr.imp id ?_⟩
    rintro ⟨b', ha, h1, h2, hi'⟩
    refine ⟨b', ha, h1, h2, fun j hj => ?_⟩
    obtain ⟨k0, vk0, vn0, va0, vl0, vc0, n0, a0, len0, cap0, ⟨c0, c1, c2, c3, c4, c5⟩, ⟨f0, f1, f2, f3, f4, f5⟩, hw'⟩ := hi' j hj
    have hfr : PFree w' b' (j * 6) := ⟨by rw [hf]; exact f0, by rw [hf]; exact f1, by rw [hf]; exact f2, by rw [hf]; exact f3, by rw [hf]; exact f4, by rw [hf]; exact f5⟩
    by_cases hb : b' = b
    · by_cases e : j = q
      · subst hb; subst e
        exact ⟨k, 0, 0, none, 0, 0, 0, none, 0, 0, hn, hfr, PWild.zero _ _ _ _ _⟩
      · exact ⟨k0, vk0, vn0, va0, vl0, vc0, n0, a0, len0, cap0, ⟨hk _ _ _ (fun _ => by omega) c0, hk _ _ _ (fun _ => by omega) c1, hk _ _ _ (fun _ => by omega) c2, hk _ _ _ (fun _ => by omega) c3, hk _ _ _ (fun _ => by omega) c4, hk _ _ _ (fun _ => by omega) c5⟩, hfr, PWild.store6 k hb1 hn hk hf d _ hw'⟩
    · exact ⟨k0, vk0, vn0, va0, vl0, vc0, n0, a0, len0, cap0, ⟨hk _ _ _ (fun e => absurd e hb) c0, hk _ _ _ (fun e => absurd e hb) c1, hk _ _ _ (fun e => absurd e hb) c2, hk _ _ _ (fun e => absurd e hb) c3, hk _ _ _ (fun e => absurd e hb) c4, hk _ _ _ (fun e => absurd e hb) c5⟩, hfr, PWild.store6 k hb1 hn hk hf d _ hw'⟩
theorem PWild.up {w : World} {lo hi : Nat} : ∀ {d : Nat} {x : Value}, PWild w lo hi d x → PWild w lo hi (d + 1) x
  | 0, x, ⟨k, vk, vn, va, vl, vc, n, a, cap, hv, e, hw⟩ => ⟨k, vk, vn, va, vl, vc, n, a, 0, cap, hv, by omega, e, hw, .inl rfl⟩
  | d + 1, x, ⟨k, vk, vn, va, vl, vc, n, a, len, cap, hv, hl, e, hw, hr⟩ => by
    refine ⟨k, vk, vn, va, vl, vc, n, a, len, cap, hv, hl, e, hw, hr.imp id ?_⟩
    rintro ⟨b, ha, h1, h2, hi'⟩
    refine ⟨b, ha, h1, h2, fun i hi => ?_⟩
    obtain ⟨k0, vk0, vn0, va0, vl0, vc0, n0, a0, len0, cap0, hc, hf, hw⟩ := hi' i hi
    exact ⟨k0, vk0, vn0, va0, vl0, vc0, n0, a0, len0, cap0, hc, hf, PWild.up hw⟩
theorem PWild.le {w : World} {lo hi d d' : Nat} {x : Value} (h : PWild w lo hi d x) (hd : d ≤ d') : PWild w lo hi d' x := by
  obtain ⟨j, rfl⟩ : ∃ j, d' = d + j := ⟨d' - d, by omega⟩
  clear hd
  induction j with
  | zero => exact h
  | succ j ih => exact ih.up
theorem FRow.vw {w : World} {lo b : Nat} {l : List VT} (hb : lo ≤ b) (h : FRow w lo l b 0) (hlt : b < w.heap.size) : VW w lo w.heap.size (some ⟨b, 0, none⟩) l.length :=
  .inr ⟨b, rfl, hb, hlt, fun i hi => by
    obtain ⟨v0, v1, v2, h0, h1, h2, f0, f1, f2, ht⟩ := h.get i hi
    generalize l[i] = t at ht
    obtain ⟨k, n, its⟩ := t
    obtain ⟨a, cap, _, hv, _⟩ := ht.open
    simp only [Value.agg.injEq, Array.mk.injEq, List.cons.injEq, and_true] at hv
    obtain ⟨rfl, rfl, rfl⟩ := hv
    simp only [Nat.zero_add] at h0 h1 h2 f0 f1 f2
    exact ⟨k, n, a, its.length, cap, h0, h1, h2, f0, f1, f2⟩⟩
theorem FIn.vw {w : World} {lo : Nat} {v : VT} {vk vn : Int} {va : Option Addr} {vl vc : Nat} (h : FIn w lo v (.agg #[.int .u8 vk, .int .i64 vn, .slice va vl vc])) : vl ≤ 3518437208780 ∧ VW w lo w.heap.size va vl := by
  obtain ⟨k, n, its⟩ := v
  rw [FIn] at h
  obtain ⟨a, cap, hl, hv, hr⟩ := h
  simp only [Value.agg.injEq, Array.mk.injEq, List.cons.injEq, Value.slice.injEq, and_true] at hv
  obtain ⟨-, -, rfl, rfl, -⟩ := hv
  refine ⟨hl, ?_⟩
  rcases hr with rfl | ⟨b, rfl, hb, hr⟩
  · exact .inl rfl
  · by_cases h0 : its.length = 0
    · exact .inl h0
    · obtain ⟨v0, _, _, c0, _⟩ := hr.get 0 (by omega)
      exact hr.vw hb (lt_of_cell c0)
mutual
/-- what a maker has made may be written over. -/
theorem PFIn.wild {w : World} {lo : Nat} : ∀ (t : PT) (x : Value), PFIn w lo t x → PWild w lo w.heap.size t.deep x
  | .mk k v n l, x, h => by
    rw [PFIn] at h; rw [PT.deep]
    obtain ⟨vk, vn, va, vl, vc, a, cap, hl, hx, hv, hr⟩ := h
    have hvw := FIn.vw hv
    refine ⟨k, vk, vn, va, vl, vc, n, a, l.length, cap, hvw.1, hl, hx, hvw.2, ?_⟩
    rcases hr with rfl | ⟨b, ha, hb, hr⟩
    · exact .inl rfl
    · by_cases h0 : l.length = 0
      · exact .inl h0
      · refine .inr ⟨b, ha, hb, ?_, fun i hi => ?_⟩
        · obtain ⟨v0, _, _, _, _, _, c0, _⟩ := hr.get 0 (by omega)
          exact lt_of_cell c0
        · have := PFRow.wild l b 0 hr i hi
          simpa using this
theorem PFRow.wild {w : World} {lo : Nat} : ∀ (l : List PT) (b o : Nat), PFRow w lo l b o → ∀ i, i < l.length → ∃ k0 vk0 vn0 va0 vl0 vc0 n0 a0 len0 cap0, PCells w b (o + i * 6) k0 vk0 vn0 va0 vl0 vc0 n0 a0 len0 cap0 ∧ PFree w b (o + i * 6) ∧ PWild w lo w.heap.size (PT.deeps l) (.agg #[.int .u8 k0, .int .u8 vk0, .int .i64 vn0, .slice va0 vl0 vc0, .int .i64 n0, .slice a0 len0 cap0])
  | [], _, _, _, i, hi => by simp at hi
  | t :: ts, b, o, h, i, hi => by
    rw [PFRow] at h; rw [PT.deeps]
    obtain ⟨⟨v0, v1, v2, v3, v4, v5, h0, h1, h2, h3, h4, h5, hf, ht⟩, hr⟩ := h
    cases i with
    | zero =>
      have hw := PFIn.wild t _ ht
      obtain ⟨k, v, n, its⟩ := t
      obtain ⟨va, vc, a, cap, hl, _, hv, _⟩ := ht.open
      simp only [Value.agg.injEq, Array.mk.injEq, List.cons.injEq, and_true] at hv
      obtain ⟨rfl, rfl, rfl, rfl, rfl, rfl⟩ := hv
      simp only [Nat.zero_mul, Nat.add_zero]
      exact ⟨_, _, _, _, _, _, _, _, _, _, ⟨h0, h1, h2, h3, h4, h5⟩, ⟨by simpa using hf 0 (by omega), hf 1 (by omega), hf 2 (by omega), hf 3 (by omega), hf 4 (by omega), hf 5 (by omega)⟩, hw.le (by omega)⟩
    | succ i =>
      obtain ⟨k0, vk0, vn0, va0, vl0, vc0, n0, a0, len0, cap0, hc, hz, hw⟩ := PFRow.wild ts b (o + 6) hr i (by simpa using hi)
      have e : o + 6 + i * 6 = o + (i + 1) * 6 := by omega
      rw [e] at hc hz
      exact ⟨k0, vk0, vn0, va0, vl0, vc0, n0, a0, len0, cap0, hc, hz, hw.le (by omega)⟩
end
end Go.Proofs.Ytclmnpfdnhfbmaa
