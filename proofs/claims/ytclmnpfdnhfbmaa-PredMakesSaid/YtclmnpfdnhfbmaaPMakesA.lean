/- PredMakes: rows of predicates appended, and what the makers have made. -/
import Derived.Test.YtclmnpfdnhfbmaaPSpoilW
import Derived.Test.YtclmnpfdnhfbmaaPNot
import Derived.Test.YtclmnpfdnhfbmaaPWeigh
import Derived.Test.YtclmnpfdnhfbmaaPTabC
namespace Go.Proofs.Ytclmnpfdnhfbmaa
open Go.RowKit

/-- a row that was there, as what append takes. -/
theorem psrc {w00 w : World} {l : List PT} {a : Option Addr} (cap : Nat) (hr : PRow w00 l a) (hb : Below w00.heap.size w00 w) : ∃ news, Src Try.prog 6 25 (.slice a l.length cap) l.length news w ∧ PIt w00 l news := by
  by_cases h0 : l = []
  · subst h0
    refine ⟨[], ?_, PIt.nil _⟩
    cases a with
    | none => exact Src.ofNil w Try.underlying25 cap
    | some p => exact Src.ofSlice w Try.underlying25 p 0 cap [] rfl (fun j u h => by simp at h) (fun u h => by cases h)
  · have hpos : 0 < l.length := List.length_pos_iff.2 h0
    obtain ⟨b, o, rfl, _⟩ := hr.got 0 hpos
    have key : ∀ j, j < l.length * 6 → ∃ u, w00.cell? ⟨b, o + j, none⟩ = some u ∧ u.oneCell' = true := fun j hj => hr.cell_at j hj
    have hget : ∀ j, j < l.length * 6 → ∀ u, w00.cell? ⟨b, o + j, none⟩ = some u → ((List.range (l.length * 6)).map fun j => (w00.cell? ⟨b, o + j, none⟩).getD .nilIface)[j]? = some u := fun j hj u hu => by
      rw [List.getElem?_map, List.getElem?_range hj]; simp [hu]
    refine ⟨(List.range (l.length * 6)).map fun j => (w00.cell? ⟨b, o + j, none⟩).getD .nilIface, Src.ofSlice w Try.underlying25 _ _ cap _ (by simp) (fun j u h => ?_) (fun u h => ?_), by simp, fun i hi => ?_⟩
    · obtain ⟨hj, he⟩ := List.getElem?_eq_some_iff.1 h
      have hj' : j < l.length * 6 := by simpa using hj
      obtain ⟨v, hv, _⟩ := key j hj'
      simp only [List.getElem_map, List.getElem_range, hv, Option.getD_some] at he
      subst he
      rw [Addr.add_lit]; exact cell_stays hb hv
    · obtain ⟨j, hj, rfl⟩ := List.mem_map.1 h
      obtain ⟨v, hv, h1⟩ := key j (by simpa using hj)
      rw [hv]; exact h1
    · obtain ⟨b', o', e, va, vc, a', cap', d0, d1, d2, d3, d4, d5, hv⟩ := hr.got i hi
      cases e
      exact ⟨_, _, _, _, _, _, hget _ (by omega) _ d0, hget _ (by omega) _ d1, hget _ (by omega) _ d2, hget _ (by omega) _ d3, hget _ (by omega) _ d4, hget _ (by omega) _ d5, hv⟩
/-- append of a row that was there. -/
theorem pappend {w00 w : World} {B n cap : Nat} {k l : List PT} {xs : List Value} {a b : Option Addr} (c : Nat) (hB : B ≤ w.heap.size) (hg : Grown w B 27 6 n xs a cap) (hi : PIt w00 k xs) (hr : PRow w00 l b) (hb : Below w00.heap.size w00 w) (hn : n + l.length ≤ 1759218604391) :
    ∃ a' cap' w' ys, (Builtin.append_ #[25, 25] 25 #[.slice a n cap, .slice b l.length c]).run Try.prog w = .ok (.slice a' (n + l.length) cap') w' ∧ Grown w' B 27 6 (n + l.length) ys a' cap' ∧ PIt w00 (k ++ l) ys ∧ Below B w w' := by
  obtain ⟨i0, hi0, hz0, hz1, hz2⟩ := info_parts zeroP
  obtain ⟨news, hs, hni⟩ := psrc c hr hb
  obtain ⟨a', cap', w', hap, hg', hb', _⟩ := grown_append (P := Try.prog) (ty := 25) hB hg Try.underlying25 hi0 hz0 hz1 rfl hz2 hs (by omega) (by omega)
  exact ⟨a', cap', w', _, hap, hg', hi.append hni, hb'⟩

theorem VW.hi {w : World} {lo hi hi' : Nat} (hh : hi ≤ hi') {va : Option Addr} {vl : Nat} (h : VW w lo hi va vl) : VW w lo hi' va vl :=
  h.imp id fun ⟨b, ha, h1, h2, hr⟩ => ⟨b, ha, h1, by omega, hr⟩
theorem VW.lo {w : World} {lo lo' hi : Nat} (hh : lo' ≤ lo) {va : Option Addr} {vl : Nat} (h : VW w lo hi va vl) : VW w lo' hi va vl :=
  h.imp id fun ⟨b, ha, h1, h2, hr⟩ => ⟨b, ha, by omega, h2, hr⟩
theorem PWild.wide {w : World} {lo lo' hi hi' : Nat} (hl : lo' ≤ lo) (hh : hi ≤ hi') : ∀ {d : Nat} {x : Value}, PWild w lo hi d x → PWild w lo' hi' d x
  | 0, x, ⟨k, vk, vn, va, vl, vc, n, a, cap, hv, e, hw⟩ => ⟨k, vk, vn, va, vl, vc, n, a, cap, hv, e, (hw.hi hh).lo hl⟩
  | d + 1, x, ⟨k, vk, vn, va, vl, vc, n, a, len, cap, hv, hlen, e, hw, hr⟩ => by
    refine ⟨k, vk, vn, va, vl, vc, n, a, len, cap, hv, hlen, e, (hw.hi hh).lo hl, hr.imp id ?_⟩
    rintro ⟨b, ha, h1, h2, hi'⟩
    refine ⟨b, ha, by omega, by omega, fun i hi => ?_⟩
    obtain ⟨k0, vk0, vn0, va0, vl0, vc0, n0, a0, len0, cap0, hc, hf, hw⟩ := hi' i hi
    exact ⟨k0, vk0, vn0, va0, vl0, vc0, n0, a0, len0, cap0, hc, hf, PWild.wide hl hh hw⟩

/-- made just now: it reads as the tree, and may be written over from lo on. -/
def Made (lo : Nat) (t : PT) (v : Value) (w : World) : Prop := PIn w t v ∧ PWild w lo w.heap.size t.deep v
theorem Made.below {lo : Nat} {t : PT} {v : Value} {w w' : World} (h : Made lo t v w) (hb : Below w.heap.size w w') : Made lo t v w' := ⟨h.1.below hb, (h.2.below hb).wide (Nat.le_refl _) hb.size⟩
/-- a row of what was made; the row itself lies behind all that may be written over. -/
def MadeRow (lo : Nat) (l : List PT) (v : Value) (w : World) : Prop := ∃ g hi, v = .slice (some ⟨g, 0, none⟩) l.length l.length ∧ lo ≤ hi ∧ hi ≤ g ∧ g < w.heap.size ∧ ∀ i (h : i < l.length), ∃ k0 vk0 vn0 va0 vl0 vc0 n0 a0 len0 cap0, PCells w g (i * 6) k0 vk0 vn0 va0 vl0 vc0 n0 a0 len0 cap0 ∧
  PIn w l[i] (.agg #[.int .u8 k0, .int .u8 vk0, .int .i64 vn0, .slice va0 vl0 vc0, .int .i64 n0, .slice a0 len0 cap0]) ∧ PWild w lo hi l[i].deep (.agg #[.int .u8 k0, .int .u8 vk0, .int .i64 vn0, .slice va0 vl0 vc0, .int .i64 n0, .slice a0 len0 cap0])
theorem MadeRow.below {lo : Nat} {l : List PT} {v : Value} {w w' : World} (h : MadeRow lo l v w) (hb : Below w.heap.size w w') : MadeRow lo l v w' := by
  obtain ⟨g, hi, e, h1, h2, h3, hr⟩ := h
  refine ⟨g, hi, e, h1, h2, Nat.lt_of_lt_of_le h3 hb.size, fun i hi' => ?_⟩
  obtain ⟨k0, vk0, vn0, va0, vl0, vc0, n0, a0, len0, cap0, ⟨c0, c1, c2, c3, c4, c5⟩, hp, hw⟩ := hr i hi'
  exact ⟨k0, vk0, vn0, va0, vl0, vc0, n0, a0, len0, cap0, ⟨cell_stays hb c0, cell_stays hb c1, cell_stays hb c2, cell_stays hb c3, cell_stays hb c4, cell_stays hb c5⟩, hp.below hb, hw.below hb⟩
/-- what a temporary holds. -/
inductive PM where
  | pred (t : PT)
  | val (t : VT)
  | rowl (l : List PT)
  | fixed (v : Value)
  | made (t : PT)
  | mades (l : List PT)
def PM.ok (lo : Nat) : PM → Value → World → Prop
  | .pred t, v, w => PIn w t v
  | .val t, v, w => VIn w t v
  | .rowl l, v, w => ∃ a n cap, v = .slice a n cap ∧ n = l.length ∧ PRow w l a
  | .fixed u, v, _ => v = u
  | .made t, v, w => Made lo t v w
  | .mades l, v, w => MadeRow lo l v w
theorem PM.mono {lo : Nat} {w w' : World} (hb : Below w.heap.size w w') : ∀ (k : PM) (v : Value), k.ok lo v w → k.ok lo v w'
  | .pred _, _, h => PIn.below hb h
  | .val _, _, h => VIn.below hb h
  | .rowl _, _, ⟨a, n, cap, e, hn, h⟩ => ⟨a, n, cap, e, hn, h.below hb⟩
  | .fixed _, _, h => h
  | .made _, _, h => Made.below h hb
  | .mades _, _, h => MadeRow.below h hb
def kindM (lo : Nat) (ks : List (Nat × PM)) (d : Nat) (v : Value) (w : World) : Prop := ((ks.lookup d).getD (.fixed v)).ok lo v w
theorem kindM_mono (lo : Nat) (ks : List (Nat × PM)) (d : Nat) (v : Value) (w w' : World) (h : kindM lo ks d v w) (hb : Below w.heap.size w w') : kindM lo ks d v w' := PM.mono hb _ _ h
theorem made_new {lo : Nat} {f : FuncId} {args : Array Value} {w : World} {t : PT} (hlo : lo ≤ w.heap.size) (h : Calls Try.prog f args w (PCopyOf t w)) : Calls Try.prog f args w fun e w' => ∃ v, e = .returned v ∧ Made lo t v w' ∧ Below w.heap.size w w' :=
  h.mono fun e w' ⟨x, he, hf, hb⟩ => ⟨x, he, ⟨PFIn.pin _ _ hf, (PFIn.wild _ _ hf).wide hlo (Nat.le_refl _)⟩, hb⟩
theorem Made.agg {lo : Nat} {t : PT} {v : Value} {w : World} (h : Made lo t v w) : ∃ k vk vn va vl vc n a len cap, v = .agg #[.int .u8 k, .int .u8 vk, .int .i64 vn, .slice va vl vc, .int .i64 n, .slice a len cap] := PIn.agg h.1
set_option maxHeartbeats 2000000 in
theorem plong_big (l : List PT) (a : Option Addr) (cap : Nat) (w : World) (hlen : l.length ≤ 1759218604391) (hr : PRow w l a) :
    Calls Try.prog 12 #[.slice a l.length cap] w fun e w' => e = .returned (.bool (PT.long l)) ∧ Below w.heap.size w w' := by
  go_enter Try.func12, Try.ntmps12
  go_wp2_with fail
  go_loopw [3, 4] (fun x i wr => ∃ (p : Int) (k : Nat), x = .int .i64 p ∧ i = .int .i64 k ∧ k ≤ l.length ∧ 0 ≤ p ∧ p ≤ 3060 ∧ PT.weighAll 3000 0 l = PT.weighAll 3000 p (l.drop k) ∧ Below w.heap.size w wr) (fun _ i _ => l.length - (intOf i).toNat)
  case atStart => exact ⟨0, 0, rfl, rfl, by omega, by omega, by omega, by simp, Below.refl _ _⟩
  case round =>
    obtain ⟨p, i, rfl, rfl, hi, hp1, hpm, hw, hB⟩ := hrel
    have HW := Lib.hid hw; clear hw
    by_cases hlt : i < l.length
    · by_cases hlm : p < 3000
      · obtain ⟨b, o, rfl, ax, ac, a', cap', d0, d1, d2, d3, d4, d5, hx⟩ := (hr.below hB).got i hlt
        have hwb := PT.weigh_bd (3000 - p) (by omega) l[i]
        go_wp2_with fail
        refine (pweigh_any (3000 - p).toNat l[i] _ (3000 - p) _ (by omega) hx (by omega) (by omega)).mono ?_
        rintro e w3 ⟨rfl, hb3⟩
        have hB3 := hB.trans (hb3.mono hB.size)
        clear hB hb3 hx d0 d1 d2 d3 d4 d5
        go_wp2_with fail
        go_roundw
        case rel => exact ⟨p + PT.weigh (3000 - p) l[i], i + 1, rfl, by go_num, by omega, by omega, by omega, by rw [HW.out, drop_cons hlt, PT.weighAll, if_pos hlm], hB3⟩
        case measure => simp [intOf]; omega
      · go_wp2_with fail
        go_ret
        refine ⟨ret_bool ?_, hB⟩
        unfold PT.long
        rw [HW.out, drop_cons hlt, PT.weighAll, if_neg (by omega), Bool.eq_iff_iff]
        simp
        try omega
    · go_wp2_with fail
      go_ret
      refine ⟨ret_bool ?_, hB⟩
      unfold PT.long
      rw [HW.out, drop_nil hlt, PT.weighAll]
end Go.Proofs.Ytclmnpfdnhfbmaa
