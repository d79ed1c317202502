/- What may be written over: values whose rows lie in blocks from lo up to hi; the law's spoil. -/
import Derived.Test.YtcfpgnobhmldbaaVCopy
import Derived.Test.YtcfpgnobhmldbaaVBox
namespace Go.Proofs.Ytcfpgnobhmldbaa
open Go.RowKit

/-- only blocks from lo up to hi, and new ones, have turned. -/
structure Only (lo hi : Nat) (w w' : World) : Prop where
  os : w'.os = w.os
  tape : w'.tape = w.tape
  output : w'.output = w.output
  size : w.heap.size ≤ w'.heap.size
  block : ∀ k, k < w.heap.size → (k < lo ∨ hi ≤ k) → w'.heap[k]? = w.heap[k]?
theorem Only.refl (lo hi : Nat) (w : World) : Only lo hi w w := ⟨rfl, rfl, rfl, Nat.le_refl _, fun _ _ _ => rfl⟩
theorem Only.trans {lo hi : Nat} {a b c : World} (h : Only lo hi a b) (k : Only lo hi b c) : Only lo hi a c :=
  ⟨k.os.trans h.os, k.tape.trans h.tape, k.output.trans h.output, Nat.le_trans h.size k.size, fun i hi' ho => (k.block i (Nat.lt_of_lt_of_le hi' h.size) ho).trans (h.block i hi' ho)⟩
theorem Only.of_below {lo hi : Nat} {a b : World} (h : Below a.heap.size a b) : Only lo hi a b := ⟨h.os, h.tape, h.output, h.size, fun k hk _ => h.block k hk⟩
theorem Only.below {lo hi : Nat} {a b : World} (h : Only lo hi a b) (hl : lo ≤ a.heap.size) : Below lo a b := ⟨h.os, h.tape, h.output, h.size, fun k hk => h.block k (by omega) (.inl hk)⟩
theorem Only.set {lo hi : Nat} {a b : World} (h : Only lo hi a b) {p : Addr} (h1 : lo ≤ p.block) (h2 : p.block < hi) (v : Value) : Only lo hi a (b.setCell p v) :=
  h.trans ⟨rfl, rfl, rfl, by simp [World.setCell], fun k _ hk => Below.heap_setCell b p v k (by omega)⟩
theorem Only.cell {lo hi : Nat} {a b : World} (h : Only lo hi a b) {k o : Nat} {v : Value} (hk : k < lo ∨ hi ≤ k) (hc : a.cell? ⟨k, o, none⟩ = some v) : b.cell? ⟨k, o, none⟩ = some v := by
  rw [World.cell?_of_block (w := a) (a := ⟨k, o, none⟩) (h.block k (lt_of_cell hc) hk)]; exact hc
theorem Only.vin {lo hi : Nat} {a b : World} (h : Only lo hi a b) {t : VT} {v : Value} {w0 : World} (h0 : w0.heap.size ≤ lo) (hw : Below w0.heap.size w0 a) (hv : VIn w0 t v) : VIn b t v :=
  hv.mono (fun _ _ _ hc => h.cell (.inl (Nat.lt_of_lt_of_le (lt_of_cell hc) h0)) (cell_stays hw hc)) t v
theorem Only.fin {lo hi : Nat} {a b : World} (h : Only lo hi a b) {t : VT} {v : Value} (hv : FIn a hi t v) : FIn b hi t v :=
  hv.mono (Nat.le_refl _) (fun _ _ _ hb hc => h.cell (.inr hb) hc) (fun k o v hb hc hf => by rw [World.frozen?_of_block (w := a) (a := ⟨k, o, none⟩) (h.block k (lt_of_cell hc) (.inr hb))]; exact hf) t v

/-- v is a value, no deeper than that, whose rows lie at the heads of blocks from lo up to hi. -/
def Wild (w : World) (lo hi : Nat) : Nat → Value → Prop
  | 0, v => ∃ k n a cap, v = .agg #[.int .u8 k, .int .i64 n, .slice a 0 cap]
  | d + 1, v => ∃ k n a len cap, len ≤ 3518437208780 ∧ v = .agg #[.int .u8 k, .int .i64 n, .slice a len cap] ∧ (len = 0 ∨ ∃ b, a = some ⟨b, 0, none⟩ ∧ lo ≤ b ∧ b < hi ∧ ∀ i, i < len → ∃ k0 n0 a0 len0 cap0,
      w.cell? ⟨b, i * 3, none⟩ = some (.int .u8 k0) ∧ w.cell? ⟨b, i * 3 + 1, none⟩ = some (.int .i64 n0) ∧ w.cell? ⟨b, i * 3 + 2, none⟩ = some (.slice a0 len0 cap0) ∧
      w.frozen? ⟨b, i * 3, none⟩ = false ∧ w.frozen? ⟨b, i * 3 + 1, none⟩ = false ∧ w.frozen? ⟨b, i * 3 + 2, none⟩ = false ∧ Wild w lo hi d (.agg #[.int .u8 k0, .int .i64 n0, .slice a0 len0 cap0]))
theorem Wild.zero (w : World) (lo hi d : Nat) (k n : Int) : Wild w lo hi d (.agg #[.int .u8 k, .int .i64 n, .slice none 0 0]) := by
  cases d with
  | zero => exact ⟨k, n, none, 0, rfl⟩
  | succ d => exact ⟨k, n, none, 0, 0, by omega, rfl, .inl rfl⟩
/-- what blocks from lo up to hi hold stays. -/
theorem Wild.mono {w w' : World} {lo hi : Nat} (hc : ∀ b o v, lo ≤ b → b < hi → w.cell? ⟨b, o, none⟩ = some v → w'.cell? ⟨b, o, none⟩ = some v) (hf : ∀ b o v, lo ≤ b → b < hi → w.cell? ⟨b, o, none⟩ = some v → w.frozen? ⟨b, o, none⟩ = false → w'.frozen? ⟨b, o, none⟩ = false) :
    ∀ (d : Nat) (v : Value), Wild w lo hi d v → Wild w' lo hi d v
  | 0, _, h => h
  | d + 1, v, h => by
    obtain ⟨k, n, a, len, cap, hl, hv, hr⟩ := h
    refine ⟨k, n, a, len, cap, hl, hv, hr.imp id ?_⟩
    rintro ⟨b, ha, h1, h2, hi'⟩
    refine ⟨b, ha, h1, h2, fun i hi => ?_⟩
    obtain ⟨k0, n0, a0, len0, cap0, c0, c1, c2, f0, f1, f2, hw⟩ := hi' i hi
    exact ⟨k0, n0, a0, len0, cap0, hc _ _ _ h1 h2 c0, hc _ _ _ h1 h2 c1, hc _ _ _ h1 h2 c2, hf _ _ _ h1 h2 c0 f0, hf _ _ _ h1 h2 c1 f1, hf _ _ _ h1 h2 c2 f2, Wild.mono hc hf d _ hw⟩
theorem Wild.below {w w' : World} {lo hi : Nat} (hb : Below w.heap.size w w') {d : Nat} {v : Value} (h : Wild w lo hi d v) : Wild w' lo hi d v :=
  h.mono (fun _ _ _ _ _ hc => cell_stays hb hc) (fun _ _ _ _ _ hc hf => frozen_stay hb (lt_of_cell hc) hf) d v
/-- what lies elsewhere does not matter. -/
theorem Wild.only {w w' : World} {lo hi lo' hi' : Nat} (ho : Only lo' hi' w w') (hd : hi ≤ lo' ∨ hi' ≤ lo) {d : Nat} {v : Value} (h : Wild w lo hi d v) : Wild w' lo hi d v :=
  h.mono (fun b _ _ h1 h2 hc => ho.cell (by omega) hc) (fun b o _ h1 h2 hc hf => by rw [World.frozen?_of_block (w := w) (a := ⟨b, o, none⟩) (ho.block b (lt_of_cell hc) (by omega))]; exact hf) d v
/-- an item written over by a value without items. -/
theorem Wild.store {w : World} {lo hi b i : Nat} {u0 u1 u2 : Value} (k : Int) (q0 : w.cell? ⟨b, i * 3, none⟩ = some u0) (q1 : w.cell? ⟨b, i * 3 + 1, none⟩ = some u1) (q2 : w.cell? ⟨b, i * 3 + 2, none⟩ = some u2) :
    ∀ (d : Nat) (v : Value), Wild w lo hi d v → Wild (((w.setCell ⟨b, i * 3, none⟩ (.int .u8 k)).setCell ⟨b, i * 3 + 1, none⟩ (.int .i64 0)).setCell ⟨b, i * 3 + 2, none⟩ (.slice none 0 0)) lo hi d v
  | 0, _, h => h
  | d + 1, v, h => by
    obtain ⟨k1, n, a, len, cap, hl, hv, hr⟩ := h
    refine ⟨k1, n, a, len, cap, hl, hv, hr.imp id ?_⟩
    rintro ⟨b', ha, h1, h2, hi'⟩
    refine ⟨b', ha, h1, h2, fun j hj => ?_⟩
    obtain ⟨k0, n0, a0, len0, cap0, c0, c1, c2, f0, f1, f2, hw⟩ := hi' j hj
    have fz : ∀ o, w.frozen? ⟨b', o, none⟩ = false → (((w.setCell ⟨b, i * 3, none⟩ (.int .u8 k)).setCell ⟨b, i * 3 + 1, none⟩ (.int .i64 0)).setCell ⟨b, i * 3 + 2, none⟩ (.slice none 0 0)).frozen? ⟨b', o, none⟩ = false := fun o hf => by
      rw [World.frozen?_setCell, World.frozen?_setCell, World.frozen?_setCell]; exact hf
    by_cases hb : b = b'
    · subst hb
      by_cases e : j = i
      · subst e
        refine ⟨k, 0, none, 0, 0, ?_, ?_, ?_, fz _ f0, fz _ f1, fz _ f2, Wild.zero _ _ _ _ _ _⟩
        · exact set_off (set_off (set_same q0) (by omega)) (by omega)
        · exact set_off (set_same (set_off q1 (by omega))) (by omega)
        · exact set_same (set_off (set_off q2 (by omega)) (by omega))
      · refine ⟨k0, n0, a0, len0, cap0, ?_, ?_, ?_, fz _ f0, fz _ f1, fz _ f2, Wild.store k q0 q1 q2 d _ hw⟩
        · exact set_off (set_off (set_off c0 (by omega)) (by omega)) (by omega)
        · exact set_off (set_off (set_off c1 (by omega)) (by omega)) (by omega)
        · exact set_off (set_off (set_off c2 (by omega)) (by omega)) (by omega)
    · refine ⟨k0, n0, a0, len0, cap0, ?_, ?_, ?_, fz _ f0, fz _ f1, fz _ f2, Wild.store k q0 q1 q2 d _ hw⟩
      · exact set_blk (set_blk (set_blk c0 hb) hb) hb
      · exact set_blk (set_blk (set_blk c1 hb) hb) hb
      · exact set_blk (set_blk (set_blk c2 hb) hb) hb
theorem Wild.up {w : World} {lo hi : Nat} : ∀ {d : Nat} {v : Value}, Wild w lo hi d v → Wild w lo hi (d + 1) v
  | 0, v, ⟨k, n, a, cap, hv⟩ => ⟨k, n, a, 0, cap, by omega, hv, .inl rfl⟩
  | d + 1, v, ⟨k, n, a, len, cap, hl, hv, hr⟩ => by
    refine ⟨k, n, a, len, cap, hl, hv, hr.imp id ?_⟩
    rintro ⟨b, ha, h1, h2, hi'⟩
    refine ⟨b, ha, h1, h2, fun i hi => ?_⟩
    obtain ⟨k0, n0, a0, len0, cap0, c0, c1, c2, f0, f1, f2, hw⟩ := hi' i hi
    exact ⟨k0, n0, a0, len0, cap0, c0, c1, c2, f0, f1, f2, Wild.up hw⟩
theorem Wild.le {w : World} {lo hi d d' : Nat} {v : Value} (h : Wild w lo hi d v) (hd : d ≤ d') : Wild w lo hi d' v := by
  obtain ⟨j, rfl⟩ : ∃ j, d' = d + j := ⟨d' - d, by omega⟩
  clear hd
  induction j with
  | zero => exact h
  | succ j ih => exact ih.up
mutual
/-- what a call has made may be written over. -/
theorem FIn.wild {w : World} {lo : Nat} : ∀ (t : VT) (v : Value), FIn w lo t v → Wild w lo w.heap.size t.deep v
  | .mk k n its, v, h => by
    rw [FIn] at h; rw [VT.deep]
    obtain ⟨a, cap, hl, hv, hr⟩ := h
    refine ⟨k, n, a, its.length, cap, hl, hv, ?_⟩
    rcases hr with rfl | ⟨b, ha, hb, hr⟩
    · exact .inl rfl
    · by_cases h0 : its.length = 0
      · exact .inl h0
      · refine .inr ⟨b, ha, hb, ?_, fun i hi => ?_⟩
        · obtain ⟨v0, _, _, c0, _⟩ := hr.get 0 (by omega)
          exact lt_of_cell c0
        · have := FRow.wild its b 0 hr i hi
          simpa using this
theorem FRow.wild {w : World} {lo : Nat} : ∀ (l : List VT) (b o : Nat), FRow w lo l b o → ∀ i, i < l.length → ∃ k0 n0 a0 len0 cap0, w.cell? ⟨b, o + i * 3, none⟩ = some (.int .u8 k0) ∧ w.cell? ⟨b, o + i * 3 + 1, none⟩ = some (.int .i64 n0) ∧ w.cell? ⟨b, o + i * 3 + 2, none⟩ = some (.slice a0 len0 cap0) ∧
      w.frozen? ⟨b, o + i * 3, none⟩ = false ∧ w.frozen? ⟨b, o + i * 3 + 1, none⟩ = false ∧ w.frozen? ⟨b, o + i * 3 + 2, none⟩ = false ∧ Wild w lo w.heap.size (VT.deeps l) (.agg #[.int .u8 k0, .int .i64 n0, .slice a0 len0 cap0])
  | [], _, _, _, i, hi => by simp at hi
  | t :: ts, b, o, h, i, hi => by
    rw [FRow] at h; rw [VT.deeps]
    obtain ⟨⟨v0, v1, v2, h0, h1, h2, f0, f1, f2, ht⟩, hr⟩ := h
    cases i with
    | zero =>
      have hw := FIn.wild t _ ht
      obtain ⟨k, n, its⟩ := t
      obtain ⟨a, cap, hl, hv, _⟩ := ht.open
      simp only [Value.agg.injEq, Array.mk.injEq, List.cons.injEq, and_true] at hv
      obtain ⟨rfl, rfl, rfl⟩ := hv
      simp only [Nat.zero_mul, Nat.add_zero]
      exact ⟨_, _, _, _, _, h0, h1, h2, f0, f1, f2, hw.le (by omega)⟩
    | succ i =>
      obtain ⟨k0, n0, a0, len0, cap0, c0, c1, c2, g0, g1, g2, hw⟩ := FRow.wild ts b (o + 3) hr i (by simpa using hi)
      have e : o + 3 + i * 3 = o + (i + 1) * 3 := by omega
      rw [e] at c0 c1 c2 g0 g1 g2
      exact ⟨k0, n0, a0, len0, cap0, c0, c1, c2, g0, g1, g2, hw.le (by omega)⟩
end

theorem FRow.below {w w' : World} {lo b o : Nat} {l : List VT} (h : FRow w lo l b o) (hb : Below w.heap.size w w') : FRow w' lo l b o :=
  FRow.of b l o fun i hi => by
    obtain ⟨v0, v1, v2, h0, h1, h2, f0, f1, f2, ht⟩ := h.get i hi
    exact ⟨v0, v1, v2, cell_stays hb h0, cell_stays hb h1, cell_stays hb h2, frozen_stay hb (lt_of_cell h0) f0, frozen_stay hb (lt_of_cell h1) f1, frozen_stay hb (lt_of_cell h2) f2, ht.below hb⟩

/-- what spoil does. -/
def Spoils (lo hi : Nat) (w : World) (e : Ending) (w' : World) : Prop := e = .returned (.tuple #[]) ∧ Only lo hi w w' ∧ ∀ d v, Wild w lo hi d v → Wild w' lo hi d v
set_option maxRecDepth 100000 in
set_option maxHeartbeats 2000000 in
theorem spoil_any (lo hi d : Nat) : ∀ (v : Value) (w : World), Wild w lo hi d v → hi ≤ w.heap.size → Calls Try.prog 26 #[v] w (Spoils lo hi w) := by
  induction d with
  | zero =>
    intro v w h hh
    obtain ⟨k, n, a, cap, rfl⟩ := h
    have z : decide ((0 : Int) < ((0 : Nat) : Int)) = false := by simp
    go_enter Try.func26, Try.ntmps26
    go_wp2_with fail
    go_loopw [2] (fun x wr => x = .int .i64 0 ∧ wr = w.alloc (.cells #[.int .u8 k, .int .i64 n, .slice a 0 cap] 27)) (fun _ _ => 0)
    case atStart => exact ⟨rfl, rfl⟩
    case round =>
      obtain ⟨rfl, rfl⟩ := hrel
      go_wp2_with fail
      refine bodyPost_ret (v := .tuple #[]) (by simp [results, Try.results26, go_sem]) rfl ⟨rfl, Only.of_below (Below.al _), fun d v hv => hv.below (Below.al _)⟩
  | succ d ih =>
    intro v w h hh
    obtain ⟨k, n, a, len, cap, hlen, rfl, hrow⟩ := h
    obtain ⟨w0, hw0, m0, s0, q0, q1, q2, _⟩ := box3 w (.int .u8 k) (.int .i64 n) (.slice a len cap) 27
    obtain ⟨S, hS⟩ : ∃ S, w.heap.size = S := ⟨_, rfl⟩
    have hSh : hi ≤ S := by omega
    rw [hS] at q0 q1 q2 s0
    have hW : Wild w0 lo hi (d + 1) (.agg #[.int .u8 k, .int .i64 n, .slice a len cap]) := Wild.below m0 ⟨k, n, a, len, cap, hlen, rfl, hrow⟩
    go_enter Try.func26, Try.ntmps26
    go_wp2_with fail
    go_loopw [2] (fun x wr => ∃ i : Nat, x = .int .i64 i ∧ i ≤ len ∧ Only lo hi w0 wr ∧ ∀ d v, Wild w0 lo hi d v → Wild wr lo hi d v) (fun x _ => len - (intOf x).toNat)
    case atStart => exact ⟨0, rfl, by omega, Only.refl _ _ _, fun _ _ h => h⟩
    case round =>
      obtain ⟨i, rfl, hi', hO, hK⟩ := hrel
      have g0 := hO.cell (.inr hSh) q0
      have g1 := hO.cell (.inr hSh) q1
      have g2 := hO.cell (.inr hSh) q2
      by_cases hlt : i < len
      · obtain ⟨k', n', a', len', cap', _, he, hr⟩ := hK _ _ hW
        simp only [Value.agg.injEq, Array.mk.injEq, List.cons.injEq, Value.slice.injEq, Value.int.injEq, and_true, true_and] at he
        obtain ⟨rfl, rfl, rfl, rfl, rfl⟩ := he
        obtain ⟨b, rfl, hb1, hb2, hr⟩ := hr.resolve_left (by omega)
        obtain ⟨k0, n0, a0, len0, cap0, c0, c1, c2, f0, f1, f2, hw⟩ := hr i hlt
        clear hr
        go_wp2_with fail
        refine (ih _ _ hw (by have := hO.size; omega)).mono ?_
        rintro e w1 ⟨rfl, hO1, hK1⟩
        have hO2 := hO.trans hO1
        have hK2 : ∀ d v, Wild w0 lo hi d v → Wild w1 lo hi d v := fun d v h => hK1 d v (hK d v h)
        have z0 := hO1.cell (.inr hSh) g0
        have z1 := hO1.cell (.inr hSh) g1
        have z2 := hO1.cell (.inr hSh) g2
        clear hO hO1 hK hK1 c0 c1 c2 f0 f1 f2 hw g0 g1 g2
        obtain ⟨k', n', a', len', cap', _, he, hr⟩ := hK2 _ _ hW
        simp only [Value.agg.injEq, Array.mk.injEq, List.cons.injEq, Value.slice.injEq, Value.int.injEq, and_true, true_and] at he
        obtain ⟨rfl, rfl, rfl, rfl, rfl⟩ := he
        obtain ⟨b', hbb, hb1, hb2, hr⟩ := hr.resolve_left (by omega)
        simp only [Option.some.injEq, Addr.mk.injEq, and_true] at hbb
        subst hbb
        obtain ⟨k0, n0, a0, len0, cap0, c0, c1, c2, f0, f1, f2, hw⟩ := hr i hlt
        clear hr hw
        go_wp2_with fail
        go_roundw
        case rel =>
          refine ⟨i + 1, by go_num, by omega, ((hO2.set (p := ⟨b, i * 3, none⟩) hb1 hb2 _).set (p := ⟨b, i * 3 + 1, none⟩) hb1 hb2 _).set (p := ⟨b, i * 3 + 2, none⟩) hb1 hb2 _, fun d v hv => (hK2 d v hv).store 99 c0 c1 c2⟩
        case measure => simp [intOf]; omega
      · have hii : i = len := by omega
        subst hii
        have n4 : decide ((i : Int) < (i : Int)) = false := by simp
        go_wp2_with fail
        refine bodyPost_ret (v := .tuple #[]) (by simp [results, Try.results26, go_sem]) rfl ⟨rfl, (Only.of_below m0).trans hO, fun d v hv => hK d v (hv.below m0)⟩
end Go.Proofs.Ytcfpgnobhmldbaa
