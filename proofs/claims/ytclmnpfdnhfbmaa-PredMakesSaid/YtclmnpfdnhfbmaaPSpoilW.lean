/- The law's spoil, of predicates. -/
import Derived.Test.YtclmnpfdnhfbmaaPSpoil
namespace Go.Proofs.Ytclmnpfdnhfbmaa
open Go.RowKit

/-- what spoil does. -/
def PSpoils (lo hi : Nat) (w : World) (e : Ending) (w' : World) : Prop := e = .returned (.tuple #[]) ∧ Only lo hi w w' ∧ ∀ d x, PWild w lo hi d x → PWild w' lo hi d x
theorem VW.one {w : World} {lo hi : Nat} {va : Option Addr} {vl i : Nat} (h : VW w lo hi va vl) (hi' : i < vl) : ∃ b k0 n0 a0 l0 c0 z, va = some ⟨b, 0, none⟩ ∧ lo ≤ b ∧ b < hi ∧ w.cell? ⟨b, 1, none⟩ = some (.int .i64 z) ∧ w.cell? ⟨b, i * 3, none⟩ = some (.int .u8 k0) ∧ w.cell? ⟨b, i * 3 + 1, none⟩ = some (.int .i64 n0) ∧ w.cell? ⟨b, i * 3 + 2, none⟩ = some (.slice a0 l0 c0) ∧
    w.frozen? ⟨b, i * 3, none⟩ = false ∧ w.frozen? ⟨b, i * 3 + 1, none⟩ = false ∧ w.frozen? ⟨b, i * 3 + 2, none⟩ = false := by
  rcases h with h | ⟨b, ha, h1, h2, hr⟩
  · omega
  · obtain ⟨k0, n0, a0, l0, c0, e0, e1, e2, f0, f1, f2⟩ := hr i hi'
    obtain ⟨_, z, _, _, _, _, g1, _⟩ := hr 0 (by omega)
    exact ⟨b, k0, n0, a0, l0, c0, z, ha, h1, h2, by simpa using g1, e0, e1, e2, f0, f1, f2⟩
theorem PWild.vw : ∀ {d : Nat} {w : World} {lo hi : Nat} {k vk vn : Int} {va : Option Addr} {vl vc : Nat} {n : Int} {a : Option Addr} {len cap : Nat}, PWild w lo hi d (.agg #[.int .u8 k, .int .u8 vk, .int .i64 vn, .slice va vl vc, .int .i64 n, .slice a len cap]) → VW w lo hi va vl
  | 0, _, _, _, _, _, _, _, _, _, _, _, _, _, ⟨_, _, _, _, _, _, _, _, _, _, e, h⟩ => by
    simp only [Value.agg.injEq, Array.mk.injEq, List.cons.injEq, Value.slice.injEq, and_true] at e
    obtain ⟨_, _, _, ⟨rfl, rfl, _⟩, _⟩ := e
    exact h
  | d + 1, _, _, _, _, _, _, _, _, _, _, _, _, _, ⟨_, _, _, _, _, _, _, _, _, _, _, _, e, h, _⟩ => by
    simp only [Value.agg.injEq, Array.mk.injEq, List.cons.injEq, Value.slice.injEq, and_true] at e
    obtain ⟨_, _, _, ⟨rfl, rfl, _⟩, _⟩ := e
    exact h
theorem PWild.one {d : Nat} {w : World} {lo hi : Nat} {k vk vn : Int} {va : Option Addr} {vl vc : Nat} {n : Int} {a : Option Addr} {len cap i : Nat} (h : PWild w lo hi (d + 1) (.agg #[.int .u8 k, .int .u8 vk, .int .i64 vn, .slice va vl vc, .int .i64 n, .slice a len cap])) (hi' : i < len) :
    ∃ b k0 vk0 vn0 va0 vl0 vc0 n0 a0 len0 cap0 z, a = some ⟨b, 0, none⟩ ∧ lo ≤ b ∧ b < hi ∧ w.cell? ⟨b, 1, none⟩ = some (.int .u8 z) ∧ PCells w b (i * 6) k0 vk0 vn0 va0 vl0 vc0 n0 a0 len0 cap0 ∧ PFree w b (i * 6) ∧ PWild w lo hi d (.agg #[.int .u8 k0, .int .u8 vk0, .int .i64 vn0, .slice va0 vl0 vc0, .int .i64 n0, .slice a0 len0 cap0]) := by
  obtain ⟨_, _, _, _, _, _, _, _, _, _, _, _, e, _, hr⟩ := h
  simp only [Value.agg.injEq, Array.mk.injEq, List.cons.injEq, Value.slice.injEq, and_true] at e
  obtain ⟨_, _, _, _, _, rfl, rfl, _⟩ := e
  rcases hr with h | ⟨b, ha, h1, h2, hr⟩
  · omega
  · obtain ⟨k0, vk0, vn0, va0, vl0, vc0, n0, a0, len0, cap0, hc, hf, hw⟩ := hr i hi'
    obtain ⟨_, z, _, _, _, _, _, _, _, _, ⟨_, g1, _⟩, _⟩ := hr 0 (by omega)
    exact ⟨b, k0, vk0, vn0, va0, vl0, vc0, n0, a0, len0, cap0, z, ha, h1, h2, by simpa using g1, hc, hf, hw⟩
theorem Only.below_sets {lo hi b : Nat} {w0 w w' : World} (h : Only lo hi w0 w) (h1 : lo ≤ b) (h2 : b < hi) (hb : ∀ k, k ≠ b → w'.heap[k]? = w.heap[k]?) (ho : w'.os = w.os ∧ w'.tape = w.tape ∧ w'.output = w.output ∧ w'.heap.size = w.heap.size) : Only lo hi w0 w' :=
  h.trans ⟨ho.1, ho.2.1, ho.2.2.1, by rw [ho.2.2.2]; exact Nat.le_refl _, fun k _ hk => hb k (by omega)⟩
set_option maxRecDepth 100000 in
set_option maxHeartbeats 4000000 in
theorem pspoil_any (lo hi d : Nat) : ∀ (x : Value) (w : World), PWild w lo hi d x → hi ≤ w.heap.size → Calls Try.prog 34 #[x] w (PSpoils lo hi w) := by
  induction d with
  | zero =>
    intro x w h hh
    have h0 := h
    obtain ⟨k, vk, vn, va, vl, vc, n, a, cap, hvl, rfl, -⟩ := h0
    obtain ⟨w0, hw0, m0, s0, q0, q1, q2, q3, q4, q5⟩ := box6 w (.int .u8 k) (.int .u8 vk) (.int .i64 vn) (.slice va vl vc) (.int .i64 n) (.slice a 0 cap) 27
    obtain ⟨S, hS⟩ : ∃ S, w.heap.size = S := ⟨_, rfl⟩
    have hSh : hi ≤ S := by omega
    rw [hS] at q0 q1 q2 q3 q4 q5 s0
    have hW : PWild w0 lo hi 0 (.agg #[.int .u8 k, .int .u8 vk, .int .i64 vn, .slice va vl vc, .int .i64 n, .slice a 0 cap]) := h.below m0
    have z : decide ((0 : Int) < ((0 : Nat) : Int)) = false := by simp
    clear h
    go_enter Try.func34, Try.ntmps34
    go_wp2_with fail
    go_loopw [2] (fun x wr => x = .int .i64 0 ∧ Only lo hi w0 wr ∧ ∀ d x, PWild w0 lo hi d x → PWild wr lo hi d x) (fun _ _ => 0)
    case atStart => exact ⟨rfl, Only.refl _ _ _, fun _ _ h => h⟩
    case round =>
      obtain ⟨rfl, hO, hK⟩ := hrel
      rename World => wR
      have g0 := hO.cell (.inr hSh) q0
      have g1 := hO.cell (.inr hSh) q1
      have g2 := hO.cell (.inr hSh) q2
      have g3 := hO.cell (.inr hSh) q3
      have g4 := hO.cell (.inr hSh) q4
      have g5 := hO.cell (.inr hSh) q5
      go_wp2_with fail
      go_loopw [3] (fun x wr => ∃ i : Nat, x = .int .i64 i ∧ i ≤ vl ∧ Only lo hi w0 wr ∧ ∀ d x, PWild w0 lo hi d x → PWild wr lo hi d x) (fun x _ => vl - (intOf x).toNat)
      case atStart => exact ⟨0, rfl, by omega, hO, hK⟩
      case round =>
        clear hO hK g0 g1 g2 g3 g4 g5
        obtain ⟨i, rfl, hi', hO, hK⟩ := hrel
        rename World => wV
        have g0 := hO.cell (.inr hSh) q0
        have g1 := hO.cell (.inr hSh) q1
        have g2 := hO.cell (.inr hSh) q2
        have g3 := hO.cell (.inr hSh) q3
        have g4 := hO.cell (.inr hSh) q4
        have g5 := hO.cell (.inr hSh) q5
        by_cases hlt : i < vl
        · obtain ⟨b, k0, n0, a0, l0, c0, z, rfl, hb1, hb2, hz, e0, e1, e2, f0, f1, f2⟩ := ((hK _ _ hW).vw).one hlt
          go_wp2_with fail
          go_roundw
          case rel =>
            refine ⟨i + 1, by go_num, by omega, ((hO.set (p := ⟨b, i * 3, none⟩) hb1 hb2 _).set (p := ⟨b, i * 3 + 1, none⟩) hb1 hb2 _).set (p := ⟨b, i * 3 + 2, none⟩) hb1 hb2 _, fun d x hx => PWild.store3 99 hz e0 e1 e2 d x (hK d x hx)⟩
          case measure => simp [intOf]; omega
        · have hii : i = vl := by omega
          subst hii
          have n4 : decide ((i : Int) < (i : Int)) = false := by simp
          go_wp2_with fail
          refine bodyPost_ret (v := .tuple #[]) (by simp [results, Try.results34, go_sem]) rfl ⟨rfl, (Only.of_below m0).trans hO, fun d x hx => hK d x (hx.below m0)⟩
  | succ d ih =>
    intro x w h hh
    have h0 := h
    obtain ⟨k, vk, vn, va, vl, vc, n, a, len, cap, hvl, hlen, rfl, -, -⟩ := h0
    obtain ⟨w0, hw0, m0, s0, q0, q1, q2, q3, q4, q5⟩ := box6 w (.int .u8 k) (.int .u8 vk) (.int .i64 vn) (.slice va vl vc) (.int .i64 n) (.slice a len cap) 27
    obtain ⟨S, hS⟩ : ∃ S, w.heap.size = S := ⟨_, rfl⟩
    have hSh : hi ≤ S := by omega
    rw [hS] at q0 q1 q2 q3 q4 q5 s0
    have hW : PWild w0 lo hi (d + 1) (.agg #[.int .u8 k, .int .u8 vk, .int .i64 vn, .slice va vl vc, .int .i64 n, .slice a len cap]) := h.below m0
    clear h
    go_enter Try.func34, Try.ntmps34
    go_wp2_with fail
    go_loopw [2] (fun x wr => ∃ i : Nat, x = .int .i64 i ∧ i ≤ len ∧ Only lo hi w0 wr ∧ ∀ d x, PWild w0 lo hi d x → PWild wr lo hi d x) (fun x _ => len - (intOf x).toNat)
    case atStart => exact ⟨0, rfl, by omega, Only.refl _ _ _, fun _ _ h => h⟩
    case round =>
      obtain ⟨i, rfl, hi', hO, hK⟩ := hrel
      rename World => wR
      have g0 := hO.cell (.inr hSh) q0
      have g1 := hO.cell (.inr hSh) q1
      have g2 := hO.cell (.inr hSh) q2
      have g3 := hO.cell (.inr hSh) q3
      have g4 := hO.cell (.inr hSh) q4
      have g5 := hO.cell (.inr hSh) q5
      by_cases hlt : i < len
      · obtain ⟨b, k0, vk0, vn0, va0, vl0, vc0, n0, a0, len0, cap0, z, rfl, hb1, hb2, hz, ⟨c0, c1, c2, c3, c4, c5⟩, -, hw⟩ := (hK _ _ hW).one hlt
        go_wp2_with fail
        refine (ih _ _ hw (by have := hO.size; have := m0.size; omega)).mono ?_
        rintro e w1 ⟨rfl, hO1, hK1⟩
        have hO2 := hO.trans hO1
        have hK2 : ∀ d x, PWild w0 lo hi d x → PWild w1 lo hi d x := fun d x h => hK1 d x (hK d x h)
        replace g0 := hO1.cell (.inr hSh) g0
        replace g1 := hO1.cell (.inr hSh) g1
        replace g2 := hO1.cell (.inr hSh) g2
        replace g3 := hO1.cell (.inr hSh) g3
        replace g4 := hO1.cell (.inr hSh) g4
        replace g5 := hO1.cell (.inr hSh) g5
        clear hO hO1 hK hK1 c0 c1 c2 c3 c4 c5 hw hz
        obtain ⟨b', k0', vk0', vn0', va0', vl0', vc0', n0', a0', len0', cap0', z', hbb, -, -, hz, ⟨c0, c1, c2, c3, c4, c5⟩, ⟨f0, f1, f2, f3, f4, f5⟩, -⟩ := (hK2 _ _ hW).one hlt
        simp only [Option.some.injEq, Addr.mk.injEq, and_true] at hbb
        subst hbb
        obtain ⟨w6, hw6, y0, y1, y2, y3⟩ : ∃ w6, (((((w1.setCell ⟨b, i * 6, none⟩ (.int .u8 99)).setCell ⟨b, i * 6 + 1, none⟩ (.int .u8 0)).setCell ⟨b, i * 6 + 2, none⟩ (.int .i64 0)).setCell ⟨b, i * 6 + 3, none⟩ (.slice none 0 0)).setCell ⟨b, i * 6 + 4, none⟩ (.int .i64 0)).setCell ⟨b, i * 6 + 5, none⟩ (.slice none 0 0) = w6 ∧ PCells w6 b (i * 6) 99 0 0 none 0 0 0 none 0 0 ∧
            (∀ b' o v, (b' = b → o < i * 6 ∨ i * 6 + 6 ≤ o) → w1.cell? ⟨b', o, none⟩ = some v → w6.cell? ⟨b', o, none⟩ = some v) ∧ (∀ p, w6.frozen? p = w1.frozen? p) ∧ Only lo hi w0 w6 := by
          refine ⟨_, rfl, ?_, ?_, ?_, ?_⟩
          · have := set6_in (u0 := .int .u8 99) (u1 := .int .u8 0) (u2 := .int .i64 0) (u3 := .slice none 0 0) (u4 := .int .i64 0) (u5 := .slice none 0 0) c0 c1 c2 c3 c4 c5
            exact this
          · intro b' o v h hc
            have := set6_out (w := w1) (B := b) (q := i * 6) (u0 := .int .u8 99) (u1 := .int .u8 0) (u2 := .int .i64 0) (u3 := .slice none 0 0) (u4 := .int .i64 0) (u5 := .slice none 0 0) (b := b') (o := o) h
            rw [this]; exact hc
          · intro p; exact set6_frozen
          · exact (((((hO2.set (p := ⟨b, i * 6, none⟩) hb1 hb2 _).set (p := ⟨b, i * 6 + 1, none⟩) hb1 hb2 _).set (p := ⟨b, i * 6 + 2, none⟩) hb1 hb2 _).set (p := ⟨b, i * 6 + 3, none⟩) hb1 hb2 _).set (p := ⟨b, i * 6 + 4, none⟩) hb1 hb2 _).set (p := ⟨b, i * 6 + 5, none⟩) hb1 hb2 _
        have HY := Lib.hid (fun d x (hx : PWild w0 lo hi d x) => PWild.store6 99 hz y0 y1 y2 d x (hK2 d x hx))
        have HO6 := Lib.hid y3
        clear y0 y1 y2 y3 hK2 hO2
        go_wp2_with fail
        go_roundw
        case rel => exact ⟨i + 1, by go_num, by omega, HO6.out, HY.out⟩
        case measure => simp [intOf]; omega
      · have hii : i = len := by omega
        subst hii
        have n4 : decide ((i : Int) < (i : Int)) = false := by simp
        go_wp2_with fail
        go_loopw [3] (fun x wr => ∃ i : Nat, x = .int .i64 i ∧ i ≤ vl ∧ Only lo hi w0 wr ∧ ∀ d x, PWild w0 lo hi d x → PWild wr lo hi d x) (fun x _ => vl - (intOf x).toNat)
        case atStart => exact ⟨0, rfl, by omega, hO, hK⟩
        case round =>
          clear hO hK g0 g1 g2 g3 g4 g5
          obtain ⟨i, rfl, hi', hO, hK⟩ := hrel
          rename World => wV
          have g0 := hO.cell (.inr hSh) q0
          have g1 := hO.cell (.inr hSh) q1
          have g2 := hO.cell (.inr hSh) q2
          have g3 := hO.cell (.inr hSh) q3
          have g4 := hO.cell (.inr hSh) q4
          have g5 := hO.cell (.inr hSh) q5
          by_cases hlt : i < vl
          · obtain ⟨b, k0, n0, a0, l0, c0, z, rfl, hb1, hb2, hz, e0, e1, e2, f0, f1, f2⟩ := ((hK _ _ hW).vw).one hlt
            go_wp2_with fail
            go_roundw
            case rel =>
              refine ⟨i + 1, by go_num, by omega, ((hO.set (p := ⟨b, i * 3, none⟩) hb1 hb2 _).set (p := ⟨b, i * 3 + 1, none⟩) hb1 hb2 _).set (p := ⟨b, i * 3 + 2, none⟩) hb1 hb2 _, fun d x hx => PWild.store3 99 hz e0 e1 e2 d x (hK d x hx)⟩
            case measure => simp [intOf]; omega
          · have hii : i = vl := by omega
            subst hii
            have n4 : decide ((i : Int) < (i : Int)) = false := by simp
            go_wp2_with fail
            refine bodyPost_ret (v := .tuple #[]) (by simp [results, Try.results34, go_sem]) rfl ⟨rfl, (Only.of_below m0).trans hO, fun d x hx => hK d x (hx.below m0)⟩
end Go.Proofs.Ytclmnpfdnhfbmaa
