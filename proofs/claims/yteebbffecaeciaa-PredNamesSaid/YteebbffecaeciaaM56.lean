/- Texts of this claim laid into one: PNamesA, PSpoil, PSpoilW, PTabC, PMakesA, PZero. -/
import Derived.Test.YteebbffecaeciaaM55
import Derived.Test.YteebbffecaeciaaM13
import Derived.Test.YteebbffecaeciaaM51
import Derived.Test.YteebbffecaeciaaM32
/- PredNames: the trees of the tables, and what is so of them. -/
namespace Go.Proofs.Yteebbffecaeciaa
open Go.RowKit

/-- so many times Yes. -/
def yesL (k : Nat) : List PT := List.replicate k tYes
/-- Not, so often, of Yes. -/
def deepP : Nat → PT
  | 0 => tYes
  | n + 1 => tN (deepP n)
def wideA : PT := tA (yesL 64)
def fullP : PT := tA [wideA, wideA, wideA, wideA, wideA, wideA, wideA, tO (yesL 55)]
def moreP : PT := tA [wideA, wideA, wideA, wideA, wideA, wideA, wideA, tO (yesL 56)]
def num5 : VT := .mk 1 5 []
def zeroV64 : List VT := List.replicate 64 (.mk 0 0 [])
def bigP : PT := .mk 3 (.mk 4 0 zeroV64) 0 []
def tAtp (n : Int) (p : PT) : PT := .mk 8 vNone n [p]
def tLenp (p : PT) : PT := .mk 11 vNone 0 [p]
/-- what is wrong, and where. -/
def wrongL : List (PT × (Int × Int)) := [(.mk 0 vNone 0 [], (0, 11)), (.mk 12 vNone 0 [], (0, 11)), (.mk 1 num5 0 [], (0, 3)), (.mk 3 vNone 0 [], (0, 11)), (.mk 3 (.mk 2 2 []) 0 [], (0, 1)), (.mk 3 num5 1 [], (0, 3)), (tAtp (-1) tYes, (0, 1)), (tAtp 65 tYes, (0, 1)), (tAtp 64 tYes, (0, 0)),
  (.mk 8 vNone 65 [], (0, 1)), (.mk 5 vNone 0 [], (0, 4)), (.mk 1 vNone 0 (yesL 1), (0, 5)), (.mk 11 vNone 0 (yesL 2), (0, 5)), (tA (yesL 64 ++ [tYes]), (0, 5)), (tO (yesL 64), (0, 0)), (deepP 11, (0, 0)), (tN (deepP 11), (12, 9)), (tA [tYes, tN tYes, tAl (.mk 13 vNone 0 [])], (5, 11)),
  (fullP, (0, 0)), (moreP, (0, 5)), (bigP, (0, 11)), (.mk 5 vNone 0 [.mk 2 (.mk 0 1 []) 0 []], (1, 3))]
def tupleV : VT := .mk 3 0 [num5, .mk 2 1 []]
def emptyV : VT := .mk 4 0 []
def eqP (v : VT) : PT := .mk 3 v 0 []
def lessP (v : VT) : PT := .mk 4 v 0 []
/-- of which values a predicate holds. -/
def holdL : List (PT × VT × Bool) := [(tYes, .mk 0 0 [], true), (tNo, num5, false), (eqP num5, num5, true), (eqP tupleV, tupleV, true), (eqP tupleV, emptyV, false), (lessP tupleV, num5, true), (lessP tupleV, emptyV, false), (tA [], num5, true), (tO [], num5, false), (tO [tNo, eqP num5], num5, true), (tA [tYes, tNo], num5, false),
  (tAtp 0 (eqP num5), tupleV, true), (tAtp 1 (eqP num5), tupleV, false), (tAtp 2 tYes, tupleV, false), (tAtp 0 tYes, num5, false), (tAl tNo, emptyV, true), (tAn tYes, emptyV, false), (tAl tYes, num5, false), (tAn (eqP num5), tupleV, true), (tAl (eqP num5), tupleV, false), (tLenp (eqP (.mk 1 2 [])), tupleV, true),
  (tLenp tYes, num5, false), (tN (tLenp tYes), num5, true), (tN (.mk 12 vNone 0 []), num5, false), (.mk 0 vNone 0 [], num5, false)]
theorem wrong_chk0 : ∀ i : Fin 22, (wrongL[i.val]'i.isLt).1.check = (wrongL[i.val]'i.isLt).2 ∧ (wrongL[i.val]'i.isLt).1.cnt ≤ 1000 ∧ (wrongL[i.val]'i.isLt).1.fat ≤ 1000 := by decide +kernel
theorem hold_chk0 : ∀ i : Fin 25, PT.hold (holdL[i.val]'i.isLt).1 (holdL[i.val]'i.isLt).2.1 = (holdL[i.val]'i.isLt).2.2 ∧ (holdL[i.val]'i.isLt).1.cnt ≤ 1000 ∧ (holdL[i.val]'i.isLt).1.fat ≤ 1000 := by decide +kernel
theorem full_nodes : (fullP.nodes : Int) = 512 := by decide +kernel
theorem deep_deepP : ((deepP 11).deep : Int) = 12 := by decide +kernel
theorem eq_nodes : ((eqP tupleV).nodes : Int) = 4 := by decide +kernel
theorem none1 : PT.nothing (.mk 0 vNone 0 []) = true := by decide
theorem none2 : PT.nothing (.mk 0 vNone 1 []) = false := by decide
theorem none3 : PT.nothing (.mk 0 num5 0 []) = false := by decide
end Go.Proofs.Yteebbffecaeciaa
/- What may be written over, of predicates; the law's spoil. -/
namespace Go.Proofs.Yteebbffecaeciaa
open Go.RowKit

/-- only blocks from lo up to hi, and new ones, have turned. -/
structure OnlyP (lo hi : Nat) (w w' : World) : Prop where
  os : w'.os = w.os
  tape : w'.tape = w.tape
  output : w'.output = w.output
  size : w.heap.size ≤ w'.heap.size
  block : ∀ k, k < w.heap.size → (k < lo ∨ hi ≤ k) → w'.heap[k]? = w.heap[k]?
theorem OnlyP.refl (lo hi : Nat) (w : World) : OnlyP lo hi w w := ⟨rfl, rfl, rfl, Nat.le_refl _, fun _ _ _ => rfl⟩
theorem OnlyP.trans {lo hi : Nat} {a b c : World} (h : OnlyP lo hi a b) (k : OnlyP lo hi b c) : OnlyP lo hi a c :=
  ⟨k.os.trans h.os, k.tape.trans h.tape, k.output.trans h.output, Nat.le_trans h.size k.size, fun i hi' ho => (k.block i (Nat.lt_of_lt_of_le hi' h.size) ho).trans (h.block i hi' ho)⟩
theorem OnlyP.of_below {lo hi : Nat} {a b : World} (h : Below a.heap.size a b) : OnlyP lo hi a b := ⟨h.os, h.tape, h.output, h.size, fun k hk _ => h.block k hk⟩
theorem OnlyP.below {lo hi : Nat} {a b : World} (h : OnlyP lo hi a b) (hl : lo ≤ a.heap.size) : Below lo a b := ⟨h.os, h.tape, h.output, h.size, fun k hk => h.block k (by omega) (.inl hk)⟩
theorem OnlyP.set {lo hi : Nat} {a b : World} (h : OnlyP lo hi a b) {p : Addr} (h1 : lo ≤ p.block) (h2 : p.block < hi) (v : Value) : OnlyP lo hi a (b.setCell p v) :=
  h.trans ⟨rfl, rfl, rfl, by simp [World.setCell], fun k _ hk => Below.heap_setCell b p v k (by omega)⟩
theorem OnlyP.cell {lo hi : Nat} {a b : World} (h : OnlyP lo hi a b) {k o : Nat} {v : Value} (hk : k < lo ∨ hi ≤ k) (hc : a.cell? ⟨k, o, none⟩ = some v) : b.cell? ⟨k, o, none⟩ = some v := by
  rw [World.cell?_of_block (w := a) (a := ⟨k, o, none⟩) (h.block k (lt_of_cell hc) hk)]; exact hc
theorem OnlyP.pin {lo hi : Nat} {a b : World} (h : OnlyP lo hi a b) {t : PT} {x : Value} {w0 : World} (h0 : w0.heap.size ≤ lo) (hw : Below w0.heap.size w0 a) (hx : PIn w0 t x) : PIn b t x :=
  hx.mono (fun _ _ _ hc => h.cell (.inl (Nat.lt_of_lt_of_le (lt_of_cell hc) h0)) (cell_stays hw hc)) t x

/-- from the address on lie that many values, at the head of a block from lo up to hi. -/
def VW (w : World) (lo hi : Nat) (va : Option Addr) (vl : Nat) : Prop := vl = 0 ∨ ∃ b, va = some ⟨b, 0, none⟩ ∧ lo ≤ b ∧ b < hi ∧ ∀ i, i < vl → ∃ k0 n0 a0 l0 c0, w.cell? ⟨b, i * 3, none⟩ = some (.int .u8 k0) ∧ w.cell? ⟨b, i * 3 + 1, none⟩ = some (.int .i64 n0) ∧ w.cell? ⟨b, i * 3 + 2, none⟩ = some (.slice a0 l0 c0) ∧
  w.frozen? ⟨b, i * 3, none⟩ = false ∧ w.frozen? ⟨b, i * 3 + 1, none⟩ = false ∧ w.frozen? ⟨b, i * 3 + 2, none⟩ = false
/-- six cells of a predicate's row. -/
def PCells (w : World) (b q : Nat) (k vk vn : Int) (va : Option Addr) (vl vc : Nat) (n : Int) (a : Option Addr) (len cap : Nat) : Prop := w.cell? ⟨b, q, none⟩ = some (.int .u8 k) ∧ w.cell? ⟨b, q + 1, none⟩ = some (.int .u8 vk) ∧ w.cell? ⟨b, q + 2, none⟩ = some (.int .i64 vn) ∧
  w.cell? ⟨b, q + 3, none⟩ = some (.slice va vl vc) ∧ w.cell? ⟨b, q + 4, none⟩ = some (.int .i64 n) ∧ w.cell? ⟨b, q + 5, none⟩ = some (.slice a len cap)
def PFree (w : World) (b q : Nat) : Prop := w.frozen? ⟨b, q, none⟩ = false ∧ w.frozen? ⟨b, q + 1, none⟩ = false ∧ w.frozen? ⟨b, q + 2, none⟩ = false ∧ w.frozen? ⟨b, q + 3, none⟩ = false ∧ w.frozen? ⟨b, q + 4, none⟩ = false ∧ w.frozen? ⟨b, q + 5, none⟩ = false
/-- x is a predicate, no deeper than that, whose rows lie at the heads of blocks from lo up to hi. -/
def PWild (w : World) (lo hi : Nat) : Nat → Value → Prop
  | 0, x => ∃ k vk vn va vl vc n a cap, vl ≤ 3518437208780 ∧ x = .agg #[.int .u8 k, .int .u8 vk, .int .i64 vn, .slice va vl vc, .int .i64 n, .slice a 0 cap] ∧ VW w lo hi va vl
  | d + 1, x => ∃ k vk vn va vl vc n a len cap, vl ≤ 3518437208780 ∧ len ≤ 1759218604390 ∧ x = .agg #[.int .u8 k, .int .u8 vk, .int .i64 vn, .slice va vl vc, .int .i64 n, .slice a len cap] ∧ VW w lo hi va vl ∧ (len = 0 ∨ ∃ b, a = some ⟨b, 0, none⟩ ∧ lo ≤ b ∧ b < hi ∧ ∀ i, i < len →
      ∃ k0 vk0 vn0 va0 vl0 vc0 n0 a0 len0 cap0, PCells w b (i * 6) k0 vk0 vn0 va0 vl0 vc0 n0 a0 len0 cap0 ∧ PFree w b (i * 6) ∧ PWild w lo hi d (.agg #[.int .u8 k0, .int .u8 vk0, .int .i64 vn0, .slice va0 vl0 vc0, .int .i64 n0, .slice a0 len0 cap0]))
theorem PWild.zero (w : World) (lo hi d : Nat) (k : Int) : PWild w lo hi d (.agg #[.int .u8 k, .int .u8 0, .int .i64 0, .slice none 0 0, .int .i64 0, .slice none 0 0]) := by
  cases d with
  | zero => exact ⟨k, 0, 0, none, 0, 0, 0, none, 0, by omega, rfl, .inl rfl⟩
  | succ d => exact ⟨k, 0, 0, none, 0, 0, 0, none, 0, 0, by omega, by omega, rfl, .inl rfl, .inl rfl⟩
section
variable {w w' : World} {lo hi : Nat} (hc : ∀ b o v, lo ≤ b → b < hi → w.cell? ⟨b, o, none⟩ = some v → w'.cell? ⟨b, o, none⟩ = some v) (hf : ∀ b o v, lo ≤ b → b < hi → w.cell? ⟨b, o, none⟩ = some v → w.frozen? ⟨b, o, none⟩ = false → w'.frozen? ⟨b, o, none⟩ = false)
include hc hf
theorem VW.mono {va : Option Addr} {vl : Nat} (h : VW w lo hi va vl) : VW w' lo hi va vl := by
  refine h.imp id ?_
  rintro ⟨b, ha, h1, h2, hi'⟩
  refine ⟨b, ha, h1, h2, fun i hi => ?_⟩
  obtain ⟨k0, n0, a0, l0, c0, e0, e1, e2, f0, f1, f2⟩ := hi' i hi
  exact ⟨k0, n0, a0, l0, c0, hc _ _ _ h1 h2 e0, hc _ _ _ h1 h2 e1, hc _ _ _ h1 h2 e2, hf _ _ _ h1 h2 e0 f0, hf _ _ _ h1 h2 e1 f1, hf _ _ _ h1 h2 e2 f2⟩
theorem PWild.mono : ∀ (d : Nat) (x : Value), PWild w lo hi d x → PWild w' lo hi d x
  | 0, x, ⟨k, vk, vn, va, vl, vc, n, a, cap, hv, e, hw⟩ => ⟨k, vk, vn, va, vl, vc, n, a, cap, hv, e, hw.mono hc hf⟩
  | d + 1, x, ⟨k, vk, vn, va, vl, vc, n, a, len, cap, hv, hl, e, hw, hr⟩ => by
    refine ⟨k, vk, vn, va, vl, vc, n, a, len, cap, hv, hl, e, hw.mono hc hf, hr.imp id ?_⟩
    rintro ⟨b, ha, h1, h2, hi'⟩
    refine ⟨b, ha, h1, h2, fun i hi => ?_⟩
    obtain ⟨k0, vk0, vn0, va0, vl0, vc0, n0, a0, len0, cap0, ⟨c0, c1, c2, c3, c4, c5⟩, ⟨f0, f1, f2, f3, f4, f5⟩, hw⟩ := hi' i hi
    exact ⟨k0, vk0, vn0, va0, vl0, vc0, n0, a0, len0, cap0, ⟨hc _ _ _ h1 h2 c0, hc _ _ _ h1 h2 c1, hc _ _ _ h1 h2 c2, hc _ _ _ h1 h2 c3, hc _ _ _ h1 h2 c4, hc _ _ _ h1 h2 c5⟩,
      ⟨hf _ _ _ h1 h2 c0 f0, hf _ _ _ h1 h2 c1 f1, hf _ _ _ h1 h2 c2 f2, hf _ _ _ h1 h2 c3 f3, hf _ _ _ h1 h2 c4 f4, hf _ _ _ h1 h2 c5 f5⟩, PWild.mono d _ hw⟩
end
theorem PWild.below {w w' : World} {lo hi : Nat} (hb : Below w.heap.size w w') {d : Nat} {x : Value} (h : PWild w lo hi d x) : PWild w' lo hi d x :=
  PWild.mono (fun _ _ _ _ _ hc => cell_stays hb hc) (fun _ _ _ _ _ hc hf => frozen_stay hb (lt_of_cell hc) hf) d x h
theorem PWild.up {w : World} {lo hi : Nat} : ∀ {d : Nat} {x : Value}, PWild w lo hi d x → PWild w lo hi (d + 1) x
  | 0, x, ⟨k, vk, vn, va, vl, vc, n, a, cap, hv, e, hw⟩ => ⟨k, vk, vn, va, vl, vc, n, a, 0, cap, hv, by omega, e, hw, .inl rfl⟩
  | d + 1, x, ⟨k, vk, vn, va, vl, vc, n, a, len, cap, hv, hl, e, hw, hr⟩ => by
    refine ⟨k, vk, vn, va, vl, vc, n, a, len, cap, hv, hl, e, hw, hr.imp id ?_⟩
    rintro ⟨b, ha, h1, h2, hi'⟩
    refine ⟨b, ha, h1, h2, fun i hi => ?_⟩
    obtain ⟨k0, vk0, vn0, va0, vl0, vc0, n0, a0, len0, cap0, hc, hf, hw⟩ := hi' i hi
    exact ⟨k0, vk0, vn0, va0, vl0, vc0, n0, a0, len0, cap0, hc, hf, PWild.up hw⟩
theorem PWild.le {w : World} {lo hi d d' : Nat} {x : Value} (h : PWild w lo hi d x) (hd : d ≤ d') : PWild w lo hi d' x := by
  obtain ⟨j, rfl⟩ : ∃ j, d' = d + j := ⟨d' - d, by omega⟩
  clear hd
  induction j with
  | zero => exact h
  | succ j ih => exact ih.up
end Go.Proofs.Yteebbffecaeciaa
/- The law's spoil, of predicates. -/
namespace Go.Proofs.Yteebbffecaeciaa
open Go.RowKit

theorem VW.one {w : World} {lo hi : Nat} {va : Option Addr} {vl i : Nat} (h : VW w lo hi va vl) (hi' : i < vl) : ∃ b k0 n0 a0 l0 c0 z, va = some ⟨b, 0, none⟩ ∧ lo ≤ b ∧ b < hi ∧ w.cell? ⟨b, 1, none⟩ = some (.int .i64 z) ∧ w.cell? ⟨b, i * 3, none⟩ = some (.int .u8 k0) ∧ w.cell? ⟨b, i * 3 + 1, none⟩ = some (.int .i64 n0) ∧ w.cell? ⟨b, i * 3 + 2, none⟩ = some (.slice a0 l0 c0) ∧
    w.frozen? ⟨b, i * 3, none⟩ = false ∧ w.frozen? ⟨b, i * 3 + 1, none⟩ = false ∧ w.frozen? ⟨b, i * 3 + 2, none⟩ = false := by
  rcases h with h | ⟨b, ha, h1, h2, hr⟩
  · omega
  · obtain ⟨k0, n0, a0, l0, c0, e0, e1, e2, f0, f1, f2⟩ := hr i hi'
    obtain ⟨_, z, _, _, _, _, g1, _⟩ := hr 0 (by omega)
    exact ⟨b, k0, n0, a0, l0, c0, z, ha, h1, h2, by simpa using g1, e0, e1, e2, f0, f1, f2⟩
theorem PWild.one {d : Nat} {w : World} {lo hi : Nat} {k vk vn : Int} {va : Option Addr} {vl vc : Nat} {n : Int} {a : Option Addr} {len cap i : Nat} (h : PWild w lo hi (d + 1) (.agg #[.int .u8 k, .int .u8 vk, .int .i64 vn, .slice va vl vc, .int .i64 n, .slice a len cap])) (hi' : i < len) :
    ∃ b k0 vk0 vn0 va0 vl0 vc0 n0 a0 len0 cap0 z, a = some ⟨b, 0, none⟩ ∧ lo ≤ b ∧ b < hi ∧ w.cell? ⟨b, 1, none⟩ = some (.int .u8 z) ∧ PCells w b (i * 6) k0 vk0 vn0 va0 vl0 vc0 n0 a0 len0 cap0 ∧ PFree w b (i * 6) ∧ PWild w lo hi d (.agg #[.int .u8 k0, .int .u8 vk0, .int .i64 vn0, .slice va0 vl0 vc0, .int .i64 n0, .slice a0 len0 cap0]) := by
  obtain ⟨_, _, _, _, _, _, _, _, _, _, _, _, e, _, hr⟩ := h
  simp only [Value.agg.injEq, Array.mk.injEq, List.cons.injEq, Value.slice.injEq, and_true] at e
  obtain ⟨_, _, _, _, _, rfl, rfl, _⟩ := e
  rcases hr with h | ⟨b, ha, h1, h2, hr⟩
  · omega
  · obtain ⟨k0, vk0, vn0, va0, vl0, vc0, n0, a0, len0, cap0, hc, hf, hw⟩ := hr i hi'
    obtain ⟨_, z, _, _, _, _, _, _, _, _, ⟨_, g1, _⟩, _⟩ := hr 0 (by omega)
    exact ⟨b, k0, vk0, vn0, va0, vl0, vc0, n0, a0, len0, cap0, z, ha, h1, h2, by simpa using g1, hc, hf, hw⟩
end Go.Proofs.Yteebbffecaeciaa
/- What the temporaries of a region hold, where guards hang on what is not known ahead. -/
namespace Go.Proofs.Yteebbffecaeciaa
open Go.RowKit

section
variable {A : List Nat} {o : Oper} {r : Operand → Value} {w : World} {d : Nat} {Ph : Nat → Value → World → Prop}
end
end Go.Proofs.Yteebbffecaeciaa
/- PredMakes: rows of predicates appended, and what the makers have made. -/
namespace Go.Proofs.Yteebbffecaeciaa
open Go.RowKit

/-- a row that was there, as what append takes. -/
theorem psrc {w00 w : World} {l : List PT} {a : Option Addr} (cap : Nat) (hr : PRow w00 l a) (hb : Below w00.heap.size w00 w) : ∃ news, Src Try.prog 6 26 (.slice a l.length cap) l.length news w ∧ PIt w00 l news := by
  by_cases h0 : l = []
  · subst h0
    refine ⟨[], ?_, PIt.nil _⟩
    cases a with
    | none => exact Src.ofNil w Try.underlying26 cap
    | some p => exact Src.ofSlice w Try.underlying26 p 0 cap [] rfl (fun j u h => by simp at h) (fun u h => by cases h)
  · have hpos : 0 < l.length := List.length_pos_iff.2 h0
    obtain ⟨b, o, rfl, _⟩ := hr.got 0 hpos
    have key : ∀ j, j < l.length * 6 → ∃ u, w00.cell? ⟨b, o + j, none⟩ = some u ∧ u.oneCell' = true := fun j hj => hr.cell_at j hj
    have hget : ∀ j, j < l.length * 6 → ∀ u, w00.cell? ⟨b, o + j, none⟩ = some u → ((List.range (l.length * 6)).map fun j => (w00.cell? ⟨b, o + j, none⟩).getD .nilIface)[j]? = some u := fun j hj u hu => by
      rw [List.getElem?_map, List.getElem?_range hj]; simp [hu]
    refine ⟨(List.range (l.length * 6)).map fun j => (w00.cell? ⟨b, o + j, none⟩).getD .nilIface, Src.ofSlice w Try.underlying26 _ _ cap _ (by simp) (fun j u h => ?_) (fun u h => ?_), by simp, fun i hi => ?_⟩
    · obtain ⟨hj, he⟩ := List.getElem?_eq_some_iff.1 h
      have hj' : j < l.length * 6 := by simpa using hj
      obtain ⟨v, hv, _⟩ := key j hj'
      simp only [List.getElem_map, List.getElem_range, hv, Option.getD_some] at he
      subst he
      rw [Addr.add_lit]; exact cell_stays hb hv
    · obtain ⟨j, hj, rfl⟩ := List.mem_map.1 h
      obtain ⟨v, hv, h1⟩ := key j (by simpa using hj)
      rw [hv]; exact h1
    · obtain ⟨b', o', e, va, vc, a', cap', d0, d1, d2, d3, d4, d5, hv⟩ := hr.got i hi
      cases e
      exact ⟨_, _, _, _, _, _, hget _ (by omega) _ d0, hget _ (by omega) _ d1, hget _ (by omega) _ d2, hget _ (by omega) _ d3, hget _ (by omega) _ d4, hget _ (by omega) _ d5, hv⟩
theorem VW.hi {w : World} {lo hi hi' : Nat} (hh : hi ≤ hi') {va : Option Addr} {vl : Nat} (h : VW w lo hi va vl) : VW w lo hi' va vl :=
  h.imp id fun ⟨b, ha, h1, h2, hr⟩ => ⟨b, ha, h1, by omega, hr⟩
theorem VW.lo {w : World} {lo lo' hi : Nat} (hh : lo' ≤ lo) {va : Option Addr} {vl : Nat} (h : VW w lo hi va vl) : VW w lo' hi va vl :=
  h.imp id fun ⟨b, ha, h1, h2, hr⟩ => ⟨b, ha, by omega, h2, hr⟩
theorem PWild.wide {w : World} {lo lo' hi hi' : Nat} (hl : lo' ≤ lo) (hh : hi ≤ hi') : ∀ {d : Nat} {x : Value}, PWild w lo hi d x → PWild w lo' hi' d x
  | 0, x, ⟨k, vk, vn, va, vl, vc, n, a, cap, hv, e, hw⟩ => ⟨k, vk, vn, va, vl, vc, n, a, cap, hv, e, (hw.hi hh).lo hl⟩
  | d + 1, x, ⟨k, vk, vn, va, vl, vc, n, a, len, cap, hv, hlen, e, hw, hr⟩ => by
    refine ⟨k, vk, vn, va, vl, vc, n, a, len, cap, hv, hlen, e, (hw.hi hh).lo hl, hr.imp id ?_⟩
    rintro ⟨b, ha, h1, h2, hi'⟩
    refine ⟨b, ha, by omega, by omega, fun i hi => ?_⟩
    obtain ⟨k0, vk0, vn0, va0, vl0, vc0, n0, a0, len0, cap0, hc, hf, hw⟩ := hi' i hi
    exact ⟨k0, vk0, vn0, va0, vl0, vc0, n0, a0, len0, cap0, hc, hf, PWild.wide hl hh hw⟩

/-- made just now: it reads as the tree, and may be written over from lo on. -/
def Made (lo : Nat) (t : PT) (v : Value) (w : World) : Prop := PIn w t v ∧ PWild w lo w.heap.size t.deep v
theorem Made.below {lo : Nat} {t : PT} {v : Value} {w w' : World} (h : Made lo t v w) (hb : Below w.heap.size w w') : Made lo t v w' := ⟨h.1.below hb, (h.2.below hb).wide (Nat.le_refl _) hb.size⟩
/-- a row of what was made; the row itself lies behind all that may be written over. -/
def MadeRow (lo : Nat) (l : List PT) (v : Value) (w : World) : Prop := ∃ g hi, v = .slice (some ⟨g, 0, none⟩) l.length l.length ∧ lo ≤ hi ∧ hi ≤ g ∧ g < w.heap.size ∧ ∀ i (h : i < l.length), ∃ k0 vk0 vn0 va0 vl0 vc0 n0 a0 len0 cap0, PCells w g (i * 6) k0 vk0 vn0 va0 vl0 vc0 n0 a0 len0 cap0 ∧
  PIn w l[i] (.agg #[.int .u8 k0, .int .u8 vk0, .int .i64 vn0, .slice va0 vl0 vc0, .int .i64 n0, .slice a0 len0 cap0]) ∧ PWild w lo hi l[i].deep (.agg #[.int .u8 k0, .int .u8 vk0, .int .i64 vn0, .slice va0 vl0 vc0, .int .i64 n0, .slice a0 len0 cap0])
theorem MadeRow.below {lo : Nat} {l : List PT} {v : Value} {w w' : World} (h : MadeRow lo l v w) (hb : Below w.heap.size w w') : MadeRow lo l v w' := by
  obtain ⟨g, hi, e, h1, h2, h3, hr⟩ := h
  refine ⟨g, hi, e, h1, h2, Nat.lt_of_lt_of_le h3 hb.size, fun i hi' => ?_⟩
  obtain ⟨k0, vk0, vn0, va0, vl0, vc0, n0, a0, len0, cap0, ⟨c0, c1, c2, c3, c4, c5⟩, hp, hw⟩ := hr i hi'
  exact ⟨k0, vk0, vn0, va0, vl0, vc0, n0, a0, len0, cap0, ⟨cell_stays hb c0, cell_stays hb c1, cell_stays hb c2, cell_stays hb c3, cell_stays hb c4, cell_stays hb c5⟩, hp.below hb, hw.below hb⟩
/-- what a temporary holds. -/
inductive PM where
  | pred (t : PT)
  | val (t : VT)
  | rowl (l : List PT)
  | fixed (v : Value)
  | made (t : PT)
  | mades (l : List PT)
def PM.ok (lo : Nat) : PM → Value → World → Prop
  | .pred t, v, w => PIn w t v
  | .val t, v, w => VIn w t v
  | .rowl l, v, w => ∃ a n cap, v = .slice a n cap ∧ n = l.length ∧ PRow w l a
  | .fixed u, v, _ => v = u
  | .made t, v, w => Made lo t v w
  | .mades l, v, w => MadeRow lo l v w
theorem PM.mono {lo : Nat} {w w' : World} (hb : Below w.heap.size w w') : ∀ (k : PM) (v : Value), k.ok lo v w → k.ok lo v w'
  | .pred _, _, h => PIn.below hb h
  | .val _, _, h => VIn.below hb h
  | .rowl _, _, ⟨a, n, cap, e, hn, h⟩ => ⟨a, n, cap, e, hn, h.below hb⟩
  | .fixed _, _, h => h
  | .made _, _, h => Made.below h hb
  | .mades _, _, h => MadeRow.below h hb
theorem Made.agg {lo : Nat} {t : PT} {v : Value} {w : World} (h : Made lo t v w) : ∃ k vk vn va vl vc n a len cap, v = .agg #[.int .u8 k, .int .u8 vk, .int .i64 vn, .slice va vl vc, .int .i64 n, .slice a len cap] := PIn.agg h.1
end Go.Proofs.Yteebbffecaeciaa
/- rows of zero values: what a fresh makeSlice of api.Value holds. -/
namespace Go.Proofs.Yteebbffecaeciaa
open Go.RowKit
theorem zero_at (n q : Nat) (h : q < n) : (zeroCells n)[q * 3]? = some (.int .u8 0) ∧ (zeroCells n)[q * 3 + 1]? = some (.int .i64 0) ∧ (zeroCells n)[q * 3 + 2]? = some (.slice none 0 0) := by
  have e0 : q * 3 < n * 3 := by omega
  have e1 : q * 3 + 1 < n * 3 := by omega
  have e2 : q * 3 + 2 < n * 3 := by omega
  have m0 : q * 3 % 3 = 0 := by omega
  have m1 : (q * 3 + 1) % 3 = 1 := by omega
  have m2 : (q * 3 + 2) % 3 = 2 := by omega
  refine ⟨?_, ?_, ?_⟩ <;> simp [zeroCells, madeCells, Value.cells, e0, e1, e2, m0, m1, m2]
theorem alloc_at (w : World) (cs : Array Value) (T o : Nat) (v : Value) (h : cs[o]? = some v) : (w.alloc (.cells cs T)).cell? ⟨w.heap.size, o, none⟩ = some v := by
  first | (go_simp; exact h) | go_simp
/-- the row of n zero values. -/
theorem vrow_zero (w : World) (n T : Nat) : VRow (w.alloc (.cells (zeroCells n) T)) (List.replicate n (.mk 0 0 [])) (some ⟨w.heap.size, 0, none⟩) :=
  VRow.of _ _ 0 fun i hi => by
    obtain ⟨h0, h1, h2⟩ := zero_at n i (by simpa using hi)
    rw [List.getElem_replicate]
    refine ⟨_, _, _, by rw [Nat.zero_add]; exact alloc_at _ _ _ _ _ h0, by rw [Nat.zero_add]; exact alloc_at _ _ _ _ _ h1, by rw [Nat.zero_add]; exact alloc_at _ _ _ _ _ h2, ?_⟩
    rw [VIn]
    exact ⟨none, 0, by simp, rfl, by trivial⟩
end Go.Proofs.Yteebbffecaeciaa
