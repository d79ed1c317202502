/- Texts of this claim laid into one: PCopy, TClone, TMathB. -/
import Derived.Test.YteebbffecaeciaaM08
import Derived.Test.YteebbffecaeciaaM07
import Derived.Lib.SliceRun
/- slices.Clone of predicates, pred.copies, pred.Copy. -/
namespace Go.Proofs.Yteebbffecaeciaa
open Go.RowKit

theorem zeroP : (Try.prog.info? 28).map (fun i => (i.zero, i.size, i.bytes)) = some (some (.agg #[.int .u8 0, .int .u8 0, .int .i64 0, .slice none 0 0, .int .i64 0, .slice none 0 0]), 6, 80) := by kernel_rfl
/-- each cell of a row is there, and is one. -/
theorem PRow.cell_at {w : World} {l : List PT} {b o : Nat} (h : PRow w l (some ⟨b, o, none⟩)) (j : Nat) (hj : j < l.length * 6) : ∃ u, w.cell? ⟨b, o + j, none⟩ = some u ∧ u.oneCell' = true := by
  have hi : j / 6 < l.length := by omega
  obtain ⟨b', o', e, va, vc, a', cap', d0, d1, d2, d3, d4, d5, _⟩ := h.got (j / 6) hi
  cases e
  rcases (by omega : j = j / 6 * 6 ∨ j = j / 6 * 6 + 1 ∨ j = j / 6 * 6 + 2 ∨ j = j / 6 * 6 + 3 ∨ j = j / 6 * 6 + 4 ∨ j = j / 6 * 6 + 5) with e | e | e | e | e | e
  · exact ⟨_, by rw [e]; exact d0, rfl⟩
  · exact ⟨_, by rw [e]; exact d1, rfl⟩
  · exact ⟨_, by rw [e]; exact d2, rfl⟩
  · exact ⟨_, by rw [e]; exact d3, rfl⟩
  · exact ⟨_, by rw [e]; exact d4, rfl⟩
  · exact ⟨_, by rw [e]; exact d5, rfl⟩
/-- what 'Clone' hands back of the row at a. -/
def CloneOf (l : List PT) (a : Option Addr) (w : World) (e : Ending) (w' : World) : Prop := ∃ a' cap', e = .returned (.slice a' l.length cap') ∧ Below w.heap.size w w' ∧ (l = [] ∨ ∃ B, a' = some ⟨B, 0, none⟩ ∧ w.heap.size ≤ B ∧ RowAt w' 28 B (cap' * 6) ∧ l.length ≤ cap' ∧
    ∀ b o j u, a = some ⟨b, o, none⟩ → j < l.length * 6 → w.cell? ⟨b, o + j, none⟩ = some u → w'.cell? ⟨B, j, none⟩ = some u)
theorem clone_any (l : List PT) (a : Option Addr) (cap : Nat) (w : World) (hl : l.length ≤ 1759218604390) (hr : PRow w l a) : Calls Try.prog 92 #[.slice a l.length cap] w (CloneOf l a w) := by
  have qT : ∀ (w : World) (a : Option Addr) (n c n' c' : Nat), (binOp .eql 26 (.slice a n c) (.slice none n' c')).run Try.prog w = .ok (.bool a.isNone) w := fun w a n c n' c' => Lib.run_eql_slice_nil w _ _ a n c n' c' Try.underlying26
  cases a with
  | none =>
    cases l with
    | cons t ts => rw [PRow] at hr; obtain ⟨b, o, h, _⟩ := hr; cases h
    | nil =>
      go_enter Try.func92, Try.ntmps92
      go_wp2_with fail
      go_ret
      exact ⟨none, 0, rfl, Below.refl _ _, .inl rfl⟩
  | some p =>
    obtain ⟨w1, hw1, m1⟩ : ∃ w1, w.alloc (.cells #[] 28) = w1 ∧ Below w.heap.size w w1 := ⟨_, rfl, Below.al _⟩
    obtain ⟨i0, hi0, hz0, hz1, hz2⟩ := info_parts zeroP
    have hsrc : ∃ news : List Value, news.length = l.length * 6 ∧ (∀ j u, news[j]? = some u → w.cell? (p.add j) = some u ∧ u.oneCell' = true) := by
      by_cases h0 : l = []
      · subst h0; exact ⟨[], by simp, fun j u h => by simp at h⟩
      · have hpos : 0 < l.length := List.length_pos_iff.2 h0
        obtain ⟨b, o, e, _⟩ := hr.got 0 hpos
        cases e
        refine ⟨(List.range (l.length * 6)).map fun j => (w.cell? ⟨b, o + j, none⟩).getD .nilIface, by simp, fun j u h => ?_⟩
        obtain ⟨hj, he⟩ := List.getElem?_eq_some_iff.1 h
        have hj' : j < l.length * 6 := by simpa using hj
        obtain ⟨v, hv, h1⟩ := hr.cell_at j hj'
        simp only [List.getElem_map, List.getElem_range, hv, Option.getD_some] at he
        subst he
        exact ⟨by rw [Addr.add_lit]; exact hv, h1⟩
    obtain ⟨news, hnl, hnews⟩ := hsrc
    obtain ⟨a6, cap6, w6, happ, hg6, hb6, _⟩ := grown_append (P := Try.prog) (w := w1) (B := w.heap.size) (T := 28) (k := 6) (xs := []) m1.size (Grown.empty w1 w.heap.size 28 6 w.heap.size) (t := 26) (tx := 26) (ty := 26)
      Try.underlying26 hi0 hz0 hz1 rfl hz2 (Src.ofSlice w1 Try.underlying26 p l.length cap news hnl (fun j u hu => by
        have := (hnews j u hu).1
        exact (m1.cell (block_lt_of_cell this)).trans this) (fun u hu => by
        obtain ⟨j, hj, rfl⟩ := List.getElem_of_mem hu
        exact (hnews j _ (List.getElem?_eq_getElem hj)).2)) (by omega) (by omega)
    simp only [Nat.zero_add, List.nil_append] at happ hg6
    have HG := Lib.hid hg6; have HN := Lib.hid hnews; have HNL := Lib.hid hnl; have HAP := Lib.hid happ; have HR := Lib.hid hr
    clear hg6 hnews happ hi0 hz0 hz1 hz2 hnl hr
    go_enter Try.func92, Try.ntmps92
    go_wp2_with (at_builtin; refine wpList_append_run _ rfl _ _ _ rfl _ _ _ _ rfl rfl HAP.out ?_)
    go_ret
    refine ⟨a6, cap6, rfl, m1.trans (hb6.mono (Nat.le_refl _)), ?_⟩
    by_cases h0 : l = []
    · exact .inl h0
    · have hpos : 0 < l.length := List.length_pos_iff.2 h0
      obtain ⟨B, e, hB, hrow, hc⟩ := HG.out.cells (by rw [HNL.out]; omega)
      refine .inr ⟨B, e, hB, hrow, HG.out.le, fun b o j u ha hj hu => ?_⟩
      cases ha
      have hjn : j < news.length := by rw [HNL.out]; exact hj
      have h1 := (HN.out j _ (List.getElem?_eq_getElem hjn)).1
      rw [Addr.add_lit, hu] at h1
      exact hc j u (by rw [List.getElem?_eq_getElem hjn]; exact h1.symm)

/-- what 'Copy' hands back of t. -/
def PCopyOf (t : PT) (w : World) (e : Ending) (w' : World) : Prop := ∃ x', e = .returned x' ∧ PFIn w' w.heap.size t x' ∧ Below w.heap.size w w'
/-- what 'copies' hands back of l. -/
def PCopiesOf (l : List PT) (w : World) (e : Ending) (w' : World) : Prop :=
  ∃ a' cap', e = .returned (.slice a' l.length cap') ∧ (l = [] ∨ ∃ b, a' = some ⟨b, 0, none⟩ ∧ w.heap.size ≤ b ∧ PFRow w' w.heap.size l b 0) ∧ Below w.heap.size w w'

/-- one more predicate stands. -/
theorem pcopies_step {l : List PT} {i B n : Nat} {wr w2 : World} {u0 u1 u2 u3 u4 u5 : Value} (hi : i < l.length) (hn : l.length * 6 ≤ n) (hrow : RowAt wr 28 B n) (hr : PFRow wr (B + 1) (l.take i) B 0)
    (hb : Below wr.heap.size wr w2) (hv : PFIn w2 wr.heap.size l[i] (.agg #[u0, u1, u2, u3, u4, u5])) :
    PFRow ((((((w2.setCell ⟨B, i * 6, none⟩ u0).setCell ⟨B, i * 6 + 1, none⟩ u1).setCell ⟨B, i * 6 + 2, none⟩ u2).setCell ⟨B, i * 6 + 3, none⟩ u3).setCell ⟨B, i * 6 + 4, none⟩ u4).setCell ⟨B, i * 6 + 5, none⟩ u5) (B + 1) (l.take (i + 1)) B 0 := by
  have hlt := hrow.lt
  have hrow2 := hrow.below hlt hb
  have hl : (l.take (i + 1)).length = i + 1 := by rw [List.length_take]; omega
  refine PFRow.of B _ 0 fun j hj => ?_
  have hj' : j < i + 1 := by omega
  rw [take_get hj, Nat.zero_add]
  by_cases e : j = i
  · subst e
    obtain ⟨x0, c0⟩ := hrow2.cell (j * 6) (by omega)
    obtain ⟨x1, c1⟩ := hrow2.cell (j * 6 + 1) (by omega)
    obtain ⟨x2, c2⟩ := hrow2.cell (j * 6 + 2) (by omega)
    obtain ⟨x3, c3⟩ := hrow2.cell (j * 6 + 3) (by omega)
    obtain ⟨x4, c4⟩ := hrow2.cell (j * 6 + 4) (by omega)
    obtain ⟨x5, c5⟩ := hrow2.cell (j * 6 + 5) (by omega)
    obtain ⟨r0, r1, r2, r3, r4, r5⟩ := set6_in (u0 := u0) (u1 := u1) (u2 := u2) (u3 := u3) (u4 := u4) (u5 := u5) c0 c1 c2 c3 c4 c5
    refine ⟨u0, u1, u2, u3, u4, u5, r0, r1, r2, r3, r4, r5, fun j' _ => by rw [set6_frozen]; exact hrow2.frozen _, ?_⟩
    exact ((((((hv.set (p := ⟨B, j * 6, none⟩) hlt _).set (p := ⟨B, j * 6 + 1, none⟩) hlt _).set (p := ⟨B, j * 6 + 2, none⟩) hlt _).set (p := ⟨B, j * 6 + 3, none⟩) hlt _).set (p := ⟨B, j * 6 + 4, none⟩) hlt _).set (p := ⟨B, j * 6 + 5, none⟩) hlt _).less hlt
  · obtain ⟨v0, v1, v2, v3, v4, v5, h0, h1, h2, h3, h4, h5, _, ht⟩ := hr.get j (by rw [List.length_take]; omega)
    rw [Nat.zero_add] at h0 h1 h2 h3 h4 h5
    rw [take_get (by rw [List.length_take]; omega)] at ht
    refine ⟨v0, v1, v2, v3, v4, v5, ?_, ?_, ?_, ?_, ?_, ?_, fun j' _ => by rw [set6_frozen]; exact hrow2.frozen _, ?_⟩
    · rw [set6_out (fun _ => by omega)]; exact cell_stays hb h0
    · rw [set6_out (fun _ => by omega)]; exact cell_stays hb h1
    · rw [set6_out (fun _ => by omega)]; exact cell_stays hb h2
    · rw [set6_out (fun _ => by omega)]; exact cell_stays hb h3
    · rw [set6_out (fun _ => by omega)]; exact cell_stays hb h4
    · rw [set6_out (fun _ => by omega)]; exact cell_stays hb h5
    · exact ((((((ht.below hb).set (p := ⟨B, i * 6, none⟩) (Nat.lt_succ_self _) _).set (p := ⟨B, i * 6 + 1, none⟩) (Nat.lt_succ_self _) _).set (p := ⟨B, i * 6 + 2, none⟩) (Nat.lt_succ_self _) _).set (p := ⟨B, i * 6 + 3, none⟩) (Nat.lt_succ_self _) _).set (p := ⟨B, i * 6 + 4, none⟩) (Nat.lt_succ_self _) _).set (p := ⟨B, i * 6 + 5, none⟩) (Nat.lt_succ_self _) _

theorem RowAt.set6 {t b n : Nat} {w : World} (h : RowAt w t b n) (B q : Nat) (u0 u1 u2 u3 u4 u5 : Value) : RowAt ((((((w.setCell ⟨B, q, none⟩ u0).setCell ⟨B, q + 1, none⟩ u1).setCell ⟨B, q + 2, none⟩ u2).setCell ⟨B, q + 3, none⟩ u3).setCell ⟨B, q + 4, none⟩ u4).setCell ⟨B, q + 5, none⟩ u5) t b n :=
  (((((h.set _ _ rfl).set _ _ rfl).set _ _ rfl).set _ _ rfl).set _ _ rfl).set _ _ rfl
theorem below_set6 {lo : Nat} {a w : World} (h : Below lo a w) {B : Nat} (hB : lo ≤ B) (q : Nat) (u0 u1 u2 u3 u4 u5 : Value) : Below lo a ((((((w.setCell ⟨B, q, none⟩ u0).setCell ⟨B, q + 1, none⟩ u1).setCell ⟨B, q + 2, none⟩ u2).setCell ⟨B, q + 3, none⟩ u3).setCell ⟨B, q + 4, none⟩ u4).setCell ⟨B, q + 5, none⟩ u5) :=
  (((((h.setCell hB _).setCell hB _).setCell hB _).setCell hB _).setCell hB _).setCell hB _

set_option maxRecDepth 100000 in
set_option maxHeartbeats 4000000 in
theorem pcopies_of (l : List PT) (a : Option Addr) (cap : Nat) (w : World) (hl : l.length ≤ 1759218604390) (hr : PRow w l a)
    (hC : ∀ (i : Nat) (hi : i < l.length) (x : Value) (W : World), PIn W l[i] x → Calls Try.prog 91 #[x] W (PCopyOf l[i] W)) :
    Calls Try.prog 60 #[.slice a l.length cap] w (PCopiesOf l w) := by
  have HC := Lib.hid hC; clear hC
  have HR := Lib.hid hr; clear hr
  go_enter Try.func60, Try.ntmps60
  go_wp2_with fail
  refine (clone_any l a cap w hl HR.out).mono ?_
  rintro e w1 ⟨a', cap', rfl, hb1, hcl⟩
  by_cases h0 : l = []
  · subst h0
    have HCL := Lib.hid hcl; clear hcl
    go_wp2_with fail
    go_loopw [10] (fun x wr => x = .int .i64 0 ∧ Below w.heap.size w wr) (fun _ _ => 0)
    case atStart => exact ⟨rfl, hb1⟩
    case round =>
      obtain ⟨rfl, hB⟩ := hrel
      go_wp2_with fail
      go_ret
      exact ⟨a', cap', rfl, .inl rfl, hB⟩
  · obtain ⟨B, rfl, hB, hrow, hle, hcells⟩ := hcl.resolve_left h0
    have HCE := Lib.hid hcells; clear hcells hcl h0
    go_wp2_with fail
    go_loopw [10] (fun x wr => ∃ i : Nat, x = .int .i64 i ∧ i ≤ l.length ∧ RowAt wr 28 B (cap' * 6) ∧ PFRow wr (B + 1) (l.take i) B 0 ∧ (∀ j u, i * 6 ≤ j → j < l.length * 6 → w1.cell? ⟨B, j, none⟩ = some u → wr.cell? ⟨B, j, none⟩ = some u) ∧ Below w.heap.size w wr) (fun x _ => l.length - (intOf x).toNat)
    case atStart => exact ⟨0, rfl, by omega, hrow, by rw [List.take_zero, PFRow]; trivial, fun _ _ _ _ h => h, hb1⟩
    case round =>
      obtain ⟨i, rfl, hi, hrow, hfr, hrest, hbl⟩ := hrel
      have hsz := hrow.lt
      have HREST := Lib.hid hrest; clear hrest
      by_cases hlt : i < l.length
      · obtain ⟨b, o, rfl, ax, ac, a2, c2, d0, d1, d2, d3, d4, d5, hx⟩ := HR.out.got i hlt
        have e0 := HREST.out _ _ (by omega) (by omega) (HCE.out b o (i * 6) _ rfl (by omega) d0)
        have e1 := HREST.out _ _ (by omega) (by omega) (HCE.out b o (i * 6 + 1) _ rfl (by omega) d1)
        have e2 := HREST.out _ _ (by omega) (by omega) (HCE.out b o (i * 6 + 2) _ rfl (by omega) d2)
        have e3 := HREST.out _ _ (by omega) (by omega) (HCE.out b o (i * 6 + 3) _ rfl (by omega) d3)
        have e4 := HREST.out _ _ (by omega) (by omega) (HCE.out b o (i * 6 + 4) _ rfl (by omega) d4)
        have e5 := HREST.out _ _ (by omega) (by omega) (HCE.out b o (i * 6 + 5) _ rfl (by omega) d5)
        obtain ⟨w3, hw3, m3, s3, r0, r1, r2, r3, r4, r5⟩ := box6 wr (.int .u8 l[i].kind) (.int .u8 l[i].val.kind) (.int .i64 l[i].val.num) (.slice ax l[i].val.items.length ac) (.int .i64 l[i].num) (.slice a2 l[i].args.length c2) 28
        have hx3 := (hx.below hbl).below m3
        clear d0 d1 d2 d3 d4 d5 hx
        go_wp2_with fail
        refine (HC.out i hlt _ _ hx3).mono ?_
        rintro e w2 ⟨x', rfl, hf, hb2⟩
        have hbw : Below wr.heap.size wr w2 := m3.trans (hb2.mono m3.size)
        have hrow2 := hrow.below hsz hbw
        obtain ⟨u0, q0⟩ := hrow2.cell (i * 6) (by omega)
        obtain ⟨u1, q1⟩ := hrow2.cell (i * 6 + 1) (by omega)
        obtain ⟨u2, q2⟩ := hrow2.cell (i * 6 + 2) (by omega)
        obtain ⟨u3, q3⟩ := hrow2.cell (i * 6 + 3) (by omega)
        obtain ⟨u4, q4⟩ := hrow2.cell (i * 6 + 4) (by omega)
        obtain ⟨u5, q5⟩ := hrow2.cell (i * 6 + 5) (by omega)
        have g0 := hrow2.frozen (i * 6)
        have g1 := hrow2.frozen (i * 6 + 1)
        have g2 := hrow2.frozen (i * 6 + 2)
        have g3 := hrow2.frozen (i * 6 + 3)
        have g4 := hrow2.frozen (i * 6 + 4)
        have g5 := hrow2.frozen (i * 6 + 5)
        generalize hti : l[i] = ti at hf
        obtain ⟨k, v, n, its⟩ := ti
        obtain ⟨va', vc', a3, cap3, hl', hvl', rfl, hrest⟩ := hf.open
        have HF := Lib.hid hf
        have HTI := Lib.hid hti
        clear hf hti hrest e0 e1 e2 e3 e4 e5 r0 r1 r2 r3 r4 r5 hb2 hx3
        go_wp2_with fail
        have hstep := pcopies_step hlt (by omega) hrow hfr hbw (by rw [HTI.out]; exact HF.out.less m3.size)
        refine ⟨⟨i + 1, by go_num, by omega, hrow2.set6 _ _ _ _ _ _ _ _, hstep, fun j u h1 h2 h3 => ?_, below_set6 (hbl.trans (hbw.mono hbl.size)) hB _ _ _ _ _ _ _⟩, by simp [intOf]; omega⟩
        rw [set6_out (fun _ => .inr (by omega))]
        exact cell_stays hbw (HREST.out j u (by omega) h2 h3)
      · go_wp2_with fail
        go_ret
        exact ⟨some ⟨B, 0, none⟩, cap', rfl, .inr ⟨B, rfl, hB, by rw [List.take_of_length_le (by omega)] at hfr; exact PFRow.less (Nat.le_succ_of_le hB) _ _ _ hfr⟩, hbl⟩

theorem box6r (w : World) (a b c d e f : Value) (T : Nat) : ∃ w4, w.alloc (.cells #[a, b, c, d, e, f] T) = w4 ∧ Below w.heap.size w w4 ∧ w4.heap.size = w.heap.size + 1 ∧ RowAt w4 T w.heap.size 6 ∧
    w4.cell? ⟨w.heap.size, 0, none⟩ = some a ∧ w4.cell? ⟨w.heap.size, 1, none⟩ = some b ∧ w4.cell? ⟨w.heap.size, 2, none⟩ = some c ∧ w4.cell? ⟨w.heap.size, 3, none⟩ = some d ∧ w4.cell? ⟨w.heap.size, 4, none⟩ = some e ∧ w4.cell? ⟨w.heap.size, 5, none⟩ = some f := by
  refine ⟨_, rfl, Below.al _, by simp, RowAt.new w #[a, b, c, d, e, f] T, ?_, ?_, ?_, ?_, ?_, ?_⟩
  all_goals go_simp
theorem FIn.agg {w : World} {lo : Nat} {v : VT} {x : Value} (h : FIn w lo v x) : ∃ a cap, x = .agg #[.int .u8 v.kind, .int .i64 v.num, .slice a v.items.length cap] := by
  obtain ⟨k, n, its⟩ := v
  obtain ⟨a, cap, _, hx, _⟩ := h.open
  exact ⟨a, cap, hx⟩
theorem set3_in {w : World} {B : Nat} {u1 u2 u3 x1 x2 x3 : Value} (q1 : w.cell? ⟨B, 1, none⟩ = some x1) (q2 : w.cell? ⟨B, 2, none⟩ = some x2) (q3 : w.cell? ⟨B, 3, none⟩ = some x3) :
    ∃ w', ((w.setCell ⟨B, 1, none⟩ u1).setCell ⟨B, 2, none⟩ u2).setCell ⟨B, 3, none⟩ u3 = w' ∧ w'.cell? ⟨B, 1, none⟩ = some u1 ∧ w'.cell? ⟨B, 2, none⟩ = some u2 ∧ w'.cell? ⟨B, 3, none⟩ = some u3 ∧ (∀ b o v, (b = B → o = 0 ∨ 4 ≤ o) → w.cell? ⟨b, o, none⟩ = some v → w'.cell? ⟨b, o, none⟩ = some v) ∧
      (∀ p, w'.frozen? p = w.frozen? p) ∧ (∀ t b n, RowAt w t b n → RowAt w' t b n) ∧ w'.heap.size = w.heap.size ∧ ∀ lo a, Below lo a w → lo ≤ B → Below lo a w' := by
  refine ⟨_, rfl, ?_, ?_, ?_, fun b o v h hc => ?_, fun p => ?_, fun t b n h => ((h.set _ _ rfl).set _ _ rfl).set _ _ rfl, by simp [World.setCell], fun lo a h hl => ((h.setCell hl _).setCell hl _).setCell hl _⟩
  · exact set_off (set_off (set_same q1) (by omega)) (by omega)
  · exact set_off (set_same (set_off q2 (by omega))) (by omega)
  · exact set_same (set_off (set_off q3 (by omega)) (by omega))
  · by_cases e : b = B
    · subst e
      have := h rfl
      exact set_off (set_off (set_off hc (by omega)) (by omega)) (by omega)
    · exact set_blk (set_blk (set_blk hc (fun h => e h.symm)) (fun h => e h.symm)) (fun h => e h.symm)
  · rw [World.frozen?_setCell, World.frozen?_setCell, World.frozen?_setCell]
theorem set1_in {w : World} {B : Nat} {u x : Value} (q : w.cell? ⟨B, 5, none⟩ = some x) :
    ∃ w', w.setCell ⟨B, 5, none⟩ u = w' ∧ w'.cell? ⟨B, 5, none⟩ = some u ∧ (∀ b o v, (b = B → o < 5) → w.cell? ⟨b, o, none⟩ = some v → w'.cell? ⟨b, o, none⟩ = some v) ∧
      (∀ p, w'.frozen? p = w.frozen? p) ∧ (∀ t b n, RowAt w t b n → RowAt w' t b n) ∧ w'.heap.size = w.heap.size ∧ ∀ lo a, Below lo a w → lo ≤ B → Below lo a w' := by
  refine ⟨_, rfl, set_same q, fun b o v h hc => ?_, fun p => World.frozen?_setCell .., fun t b n h => h.set _ _ rfl, by simp [World.setCell], fun lo a h hl => h.setCell hl _⟩
  by_cases e : b = B
  · subst e
    have := h rfl
    exact set_off hc (by omega)
  · exact set_blk hc (fun h => e h.symm)
theorem set6_all {w : World} {B : Nat} {u0 u1 u2 u3 u4 u5 x0 x1 x2 x3 x4 x5 : Value} (q0 : w.cell? ⟨B, 0, none⟩ = some x0) (q1 : w.cell? ⟨B, 1, none⟩ = some x1) (q2 : w.cell? ⟨B, 2, none⟩ = some x2) (q3 : w.cell? ⟨B, 3, none⟩ = some x3) (q4 : w.cell? ⟨B, 4, none⟩ = some x4) (q5 : w.cell? ⟨B, 5, none⟩ = some x5) :
    ∃ w', (((((w.setCell ⟨B, 0, none⟩ u0).setCell ⟨B, 1, none⟩ u1).setCell ⟨B, 2, none⟩ u2).setCell ⟨B, 3, none⟩ u3).setCell ⟨B, 4, none⟩ u4).setCell ⟨B, 5, none⟩ u5 = w' ∧
      w'.cell? ⟨B, 0, none⟩ = some u0 ∧ w'.cell? ⟨B, 1, none⟩ = some u1 ∧ w'.cell? ⟨B, 2, none⟩ = some u2 ∧ w'.cell? ⟨B, 3, none⟩ = some u3 ∧ w'.cell? ⟨B, 4, none⟩ = some u4 ∧ w'.cell? ⟨B, 5, none⟩ = some u5 ∧
      (∀ b o v, b ≠ B → w.cell? ⟨b, o, none⟩ = some v → w'.cell? ⟨b, o, none⟩ = some v) ∧ (∀ p, w'.frozen? p = w.frozen? p) ∧ w'.heap.size = w.heap.size ∧ ∀ lo a, Below lo a w → lo ≤ B → Below lo a w' := by
  obtain ⟨r0, r1, r2, r3, r4, r5⟩ := set6_in (q := 0) (u0 := u0) (u1 := u1) (u2 := u2) (u3 := u3) (u4 := u4) (u5 := u5) q0 q1 q2 q3 q4 q5
  exact ⟨_, rfl, r0, r1, r2, r3, r4, r5, fun b o v h hc => by rw [set6_out (q := 0) (fun e => absurd e h)]; exact hc, fun p => set6_frozen (q := 0), by simp [World.setCell], fun lo a h hl => below_set6 h hl 0 _ _ _ _ _ _⟩
theorem FIn.sets {w w' : World} {lo : Nat} (hc : ∀ b o v, lo ≤ b → w.cell? ⟨b, o, none⟩ = some v → w'.cell? ⟨b, o, none⟩ = some v) (hf : ∀ p, w'.frozen? p = w.frozen? p) {t : VT} {v : Value} (h : FIn w lo t v) : FIn w' lo t v :=
  h.mono (Nat.le_refl _) hc (fun _ _ _ _ _ h => by rw [hf]; exact h) t v

set_option maxRecDepth 100000 in
set_option maxHeartbeats 4000000 in
theorem pcopy_any (N : Nat) : ∀ (t : PT) (x : Value) (w : World), t.cnt ≤ N → PIn w t x → Calls Try.prog 91 #[x] w (PCopyOf t w) := by
  induction N with
  | zero => intro t x w h; have := PT.cnt_pos t; omega
  | succ N ih =>
    intro t x w hN hx
    obtain ⟨k, v, n, l⟩ := t
    obtain ⟨va, vc, a, cap, hlen, hvl, rfl, hv, hr⟩ := hx.open
    rw [PT.cnt] at hN
    have IH := Lib.hid ih; clear ih hx
    obtain ⟨w0, hw0, m0, s0, R0, q0, q1, q2, q3, q4, q5⟩ := box6r w (.int .u8 k) (.int .u8 v.kind) (.int .i64 v.num) (.slice va v.items.length vc) (.int .i64 n) (.slice a l.length cap) 28
    obtain ⟨w1, hw1, m1, s1, R1, p0, p1, p2, p3, p4, p5⟩ := box6r w0 (.int .u8 0) (.int .u8 0) (.int .i64 0) (.slice none 0 0) (.int .i64 0) (.slice none 0 0) 28
    have R0 := R0.below (by omega) m1
    have q0 := cell_stays m1 q0
    have q1 := cell_stays m1 q1
    have q2 := cell_stays m1 q2
    have q3 := cell_stays m1 q3
    have q4 := cell_stays m1 q4
    have q5 := cell_stays m1 q5
    have hB1 : Below w.heap.size w w1 := m0.trans (m1.mono (by omega))
    have S0 := Lib.hid s0; have S1 := Lib.hid s1
    have hlt : w.heap.size < w0.heap.size := by omega
    have hne : w.heap.size ≠ w0.heap.size := by omega
    have hv1 := hv.below hB1
    clear hv m0 m1 s1 s0
    go_enter Try.func91, Try.ntmps91
    go_wp2_with fail
    refine (copy_any _ _ _ _ (Nat.le_refl _) hv1).mono ?_
    rintro e w2 ⟨v', rfl, hf, hb2⟩
    obtain ⟨va', vc', rfl⟩ := hf.agg
    have hs2 := hb2.size
    have hs1 := S1.out
    have hs0 := S0.out
    have R0 := R0.below (by omega) hb2
    have R1 := R1.below (by omega) hb2
    have q0 := cell_stays hb2 q0
    have q1 := cell_stays hb2 q1
    have q2 := cell_stays hb2 q2
    have q3 := cell_stays hb2 q3
    have q4 := cell_stays hb2 q4
    have q5 := cell_stays hb2 q5
    have p0 := cell_stays hb2 p0
    have p1 := cell_stays hb2 p1
    have p2 := cell_stays hb2 p2
    have p3 := cell_stays hb2 p3
    have p4 := cell_stays hb2 p4
    have p5 := cell_stays hb2 p5
    have g1 := R0.frozen 1
    have g2 := R0.frozen 2
    have g3 := R0.frozen 3
    obtain ⟨w3, hw3, r1, r2, r3, k3, f3, rw3, sz3, bl3⟩ := set3_in (u1 := .int .u8 v.kind) (u2 := .int .i64 v.num) (u3 := .slice va' v.items.length vc') q1 q2 q3
    have hf3 : FIn w3 w1.heap.size v (.agg #[.int .u8 v.kind, .int .i64 v.num, .slice va' v.items.length vc']) := hf.sets (fun b o u hb hc => k3 b o u (fun e => by omega) hc) f3
    have hB3 : Below w.heap.size w w3 := bl3 _ _ (hB1.trans (hb2.mono hB1.size)) (Nat.le_refl _)
    have Q0 := k3 _ _ _ (fun _ => by omega) q0
    have Q4 := k3 _ _ _ (fun _ => by omega) q4
    have Q5 := k3 _ _ _ (fun _ => by omega) q5
    have P0 := k3 _ _ _ (fun e => by omega) p0
    have P1 := k3 _ _ _ (fun e => by omega) p1
    have P2 := k3 _ _ _ (fun e => by omega) p2
    have P3 := k3 _ _ _ (fun e => by omega) p3
    have P4 := k3 _ _ _ (fun e => by omega) p4
    have P5 := k3 _ _ _ (fun e => by omega) p5
    have R0 := rw3 _ _ _ R0
    have R1 := rw3 _ _ _ R1
    have hr3 := hr.below hB3
    have HF3 := Lib.hid hf3
    clear k3 f3 rw3 bl3 hf hb2 hf3 hs1 hs0 hr hv1
    go_wp2_with fail
    clear q0 q4 q5 p0 p1 p2 p3 p4 p5 g1 g2 g3 q1 q2 q3
    refine (pcopies_of l a cap w3 hlen hr3 (fun i hi x W hxi => IH.out l[i] x W (by have := PT.cnts_get hi; omega) hxi)).mono ?_
    rintro e w4 ⟨a', cap', rfl, hrow, hb4⟩
    have HROW := Lib.hid hrow; clear hrow hr3
    have hs4 := hb4.size
    have hs1 := S1.out
    have hs0 := S0.out
    have R0 := R0.below (by omega) hb4
    have R1 := R1.below (by omega) hb4
    have Q0 := cell_stays hb4 Q0
    have r1 := cell_stays hb4 r1
    have r2 := cell_stays hb4 r2
    have r3 := cell_stays hb4 r3
    have Q4 := cell_stays hb4 Q4
    have Q5 := cell_stays hb4 Q5
    have P0 := cell_stays hb4 P0
    have P1 := cell_stays hb4 P1
    have P2 := cell_stays hb4 P2
    have P3 := cell_stays hb4 P3
    have P4 := cell_stays hb4 P4
    have P5 := cell_stays hb4 P5
    have g5 := R0.frozen 5
    obtain ⟨w5, hw5, t5, k5, f5, rw5, sz5, bl5⟩ := set1_in (u := .slice a' l.length cap') Q5
    have T0 := k5 _ _ _ (fun _ => by omega) Q0
    have T1 := k5 _ _ _ (fun _ => by omega) r1
    have T2 := k5 _ _ _ (fun _ => by omega) r2
    have T3 := k5 _ _ _ (fun _ => by omega) r3
    have T4 := k5 _ _ _ (fun _ => by omega) Q4
    have U0 := k5 _ _ _ (fun e => by omega) P0
    have U1 := k5 _ _ _ (fun e => by omega) P1
    have U2 := k5 _ _ _ (fun e => by omega) P2
    have U3 := k5 _ _ _ (fun e => by omega) P3
    have U4 := k5 _ _ _ (fun e => by omega) P4
    have U5 := k5 _ _ _ (fun e => by omega) P5
    have R1 := rw5 _ _ _ R1
    have h0 := R1.frozen 0
    have h1 := R1.frozen 1
    have h2 := R1.frozen 2
    have h3 := R1.frozen 3
    have h4 := R1.frozen 4
    have h5 := R1.frozen 5
    obtain ⟨w6, hw6, y0, y1, y2, y3, y4, y5, k6, f6, sz6, bl6⟩ := set6_all (u0 := .int .u8 k) (u1 := .int .u8 v.kind) (u2 := .int .i64 v.num) (u3 := .slice va' v.items.length vc') (u4 := .int .i64 n) (u5 := .slice a' l.length cap') U0 U1 U2 U3 U4 U5
    have hkeep : ∀ b o u, w1.heap.size ≤ b → w4.cell? ⟨b, o, none⟩ = some u → w6.cell? ⟨b, o, none⟩ = some u := fun b o u hb hc => k6 b o u (by omega) (k5 b o u (fun e => by omega) hc)
    have hfz : ∀ p, w6.frozen? p = w4.frozen? p := fun p => (f6 p).trans (f5 p)
    have hpost : PFIn w6 w.heap.size (.mk k v n l) (.agg #[.int .u8 k, .int .u8 v.kind, .int .i64 v.num, .slice va' v.items.length vc', .int .i64 n, .slice a' l.length cap']) := by
      refine PFIn.shut hlen ?_ (HROW.out.imp id ?_)
      · exact (((HF3.out.below hb4).sets hkeep hfz).less (by omega))
      · rintro ⟨b, hb, hlo, hfr⟩
        exact ⟨b, hb, by omega, PFRow.mono (by omega) (fun b o u hb hc => hkeep b o u (by omega) hc) (fun b o u hb hc hf => by rw [hfz]; exact hf) l b 0 hlo hfr⟩
    have hB6 : Below w.heap.size w w6 := bl6 _ _ (bl5 _ _ (hB3.trans (hb4.mono hB3.size)) (Nat.le_refl _)) (by omega)
    have HPOST := Lib.hid hpost
    clear k5 f5 rw5 bl5 k6 f6 bl6 hkeep hfz hb4 hpost hs1 hs0 HROW HF3
    go_wp2_with fail
    refine bodyPost_ret (v := .agg #[.int .u8 k, .int .u8 v.kind, .int .i64 v.num, .slice va' v.items.length vc', .int .i64 n, .slice a' l.length cap']) ?_ rfl ⟨_, rfl, HPOST.out, hB6⟩
    simp [results, Try.results91, go_sem, y0, y1, y2, y3, y4, y5]
end Go.Proofs.Yteebbffecaeciaa
/- slices.Clone of numbers, values, terms; cells written into one block. -/
namespace Go.Proofs.Yteebbffecaeciaa
open Go.RowKit

theorem zeroT : (Try.prog.info? 47).map (fun i => (i.zero, i.size, i.bytes)) = some (some (.agg #[.int .u8 0, .int .u8 0, .int .i64 0, .slice none 0 0, .slice none 0 0, .int .i64 0, .int .i64 0, .slice none 0 0, .int .u8 0, .int .u8 0, .int .i64 0, .slice none 0 0, .int .i64 0, .slice none 0 0, .slice none 0 0]), 15, 216) := by kernel_rfl
/-- what 'Clone' hands back of n elements of K cells at a. -/
def CloneG (T K n : Nat) (a : Option Addr) (w : World) (e : Ending) (w' : World) : Prop := ∃ a' cap', e = .returned (.slice a' n cap') ∧ Below w.heap.size w w' ∧ (n = 0 ∨ ∃ B, a' = some ⟨B, 0, none⟩ ∧ w.heap.size ≤ B ∧ RowAt w' T B (cap' * K) ∧ n ≤ cap' ∧
    ∀ b o j u, a = some ⟨b, o, none⟩ → j < n * K → w.cell? ⟨b, o + j, none⟩ = some u → w'.cell? ⟨B, j, none⟩ = some u)
/-- n elements of K cells lie at a. -/
def CellsAt (K n : Nat) (a : Option Addr) (w : World) : Prop := n = 0 ∨ ∃ b o, a = some ⟨b, o, none⟩ ∧ ∀ j, j < n * K → ∃ u, w.cell? ⟨b, o + j, none⟩ = some u ∧ u.oneCell' = true
theorem cloneW (n : Nat) (a : Option Addr) (cap : Nat) (w : World) (hl : n ≤ 17592186043904) (hr : CellsAt 1 n a w) : Calls Try.prog 100 #[.slice a n cap] w (CloneG 2 1 n a w) := by
  have qT : ∀ (w : World) (a : Option Addr) (n c n' c' : Nat), (binOp .eql 44 (.slice a n c) (.slice none n' c')).run Try.prog w = .ok (.bool a.isNone) w := fun w a n c n' c' => Lib.run_eql_slice_nil w _ _ a n c n' c' Try.underlying44
  cases a with
  | none =>
    have h0 : n = 0 := by
      rcases hr with h | ⟨b, o, h, _⟩
      · exact h
      · cases h
    subst h0
    go_enter Try.func100, Try.ntmps100
    go_wp2_with fail
    go_ret
    exact ⟨none, 0, rfl, Below.refl _ _, .inl rfl⟩
  | some p =>
    obtain ⟨w1, hw1, m1⟩ : ∃ w1, w.alloc (.cells #[] 2) = w1 ∧ Below w.heap.size w w1 := ⟨_, rfl, Below.al _⟩
    obtain ⟨i0, hi0, hz0, hz1, hz2⟩ := info_parts zero64
    have hsrc : ∃ news : List Value, news.length = n * 1 ∧ (∀ j u, news[j]? = some u → w.cell? (p.add j) = some u ∧ u.oneCell' = true) := by
      rcases hr with h0 | ⟨b, o, e, hc⟩
      · subst h0; exact ⟨[], by simp, fun j u h => by simp at h⟩
      · cases e
        refine ⟨(List.range (n * 1)).map fun j => (w.cell? ⟨b, o + j, none⟩).getD .nilIface, by simp, fun j u h => ?_⟩
        obtain ⟨hj, he⟩ := List.getElem?_eq_some_iff.1 h
        have hj' : j < n * 1 := by simpa using hj
        obtain ⟨v, hv, h1⟩ := hc j hj'
        simp only [List.getElem_map, List.getElem_range, hv, Option.getD_some] at he
        subst he
        exact ⟨by rw [Addr.add_lit]; exact hv, h1⟩
    obtain ⟨news, hnl, hnews⟩ := hsrc
    obtain ⟨a6, cap6, w6, happ, hg6, hb6, _⟩ := grown_append (P := Try.prog) (w := w1) (B := w.heap.size) (T := 2) (k := 1) (xs := []) m1.size (Grown.empty w1 w.heap.size 2 1 w.heap.size) (t := 44) (tx := 44) (ty := 44)
      Try.underlying44 hi0 hz0 hz1 rfl hz2 (Src.ofSlice w1 Try.underlying44 p n cap news hnl (fun j u hu => by
        have := (hnews j u hu).1
        exact (m1.cell (block_lt_of_cell this)).trans this) (fun u hu => by
        obtain ⟨j, hj, rfl⟩ := List.getElem_of_mem hu
        exact (hnews j _ (List.getElem?_eq_getElem hj)).2)) (by omega) (by omega)
    simp only [Nat.zero_add, List.nil_append] at happ hg6
    have HG := Lib.hid hg6; have HN := Lib.hid hnews; have HNL := Lib.hid hnl; have HAP := Lib.hid happ; have HR := Lib.hid hr
    clear hg6 hnews happ hi0 hz0 hz1 hz2 hnl hr
    go_enter Try.func100, Try.ntmps100
    go_wp2_with (at_builtin; refine wpList_append_run _ rfl _ _ _ rfl _ _ _ _ rfl rfl HAP.out ?_)
    go_ret
    refine ⟨a6, cap6, rfl, m1.trans (hb6.mono (Nat.le_refl _)), ?_⟩
    by_cases h0 : n = 0
    · exact .inl h0
    · obtain ⟨B, e, hB, hrow, hc⟩ := HG.out.cells (by rw [HNL.out]; omega)
      refine .inr ⟨B, e, hB, hrow, HG.out.le, fun b o j u ha hj hu => ?_⟩
      cases ha
      have hjn : j < news.length := by rw [HNL.out]; exact hj
      have h1 := (HN.out j _ (List.getElem?_eq_getElem hjn)).1
      rw [Addr.add_lit, hu] at h1
      exact hc j u (by rw [List.getElem?_eq_getElem hjn]; exact h1.symm)
theorem cloneV (n : Nat) (a : Option Addr) (cap : Nat) (w : World) (hl : n ≤ 3518437208780) (hr : CellsAt 3 n a w) : Calls Try.prog 101 #[.slice a n cap] w (CloneG 25 3 n a w) := by
  have qT : ∀ (w : World) (a : Option Addr) (n c n' c' : Nat), (binOp .eql 23 (.slice a n c) (.slice none n' c')).run Try.prog w = .ok (.bool a.isNone) w := fun w a n c n' c' => Lib.run_eql_slice_nil w _ _ a n c n' c' Try.underlying23
  cases a with
  | none =>
    have h0 : n = 0 := by
      rcases hr with h | ⟨b, o, h, _⟩
      · exact h
      · cases h
    subst h0
    go_enter Try.func101, Try.ntmps101
    go_wp2_with fail
    go_ret
    exact ⟨none, 0, rfl, Below.refl _ _, .inl rfl⟩
  | some p =>
    obtain ⟨w1, hw1, m1⟩ : ∃ w1, w.alloc (.cells #[] 25) = w1 ∧ Below w.heap.size w w1 := ⟨_, rfl, Below.al _⟩
    obtain ⟨i0, hi0, hz0, hz1, hz2⟩ := info_parts zeroV
    have hsrc : ∃ news : List Value, news.length = n * 3 ∧ (∀ j u, news[j]? = some u → w.cell? (p.add j) = some u ∧ u.oneCell' = true) := by
      rcases hr with h0 | ⟨b, o, e, hc⟩
      · subst h0; exact ⟨[], by simp, fun j u h => by simp at h⟩
      · cases e
        refine ⟨(List.range (n * 3)).map fun j => (w.cell? ⟨b, o + j, none⟩).getD .nilIface, by simp, fun j u h => ?_⟩
        obtain ⟨hj, he⟩ := List.getElem?_eq_some_iff.1 h
        have hj' : j < n * 3 := by simpa using hj
        obtain ⟨v, hv, h1⟩ := hc j hj'
        simp only [List.getElem_map, List.getElem_range, hv, Option.getD_some] at he
        subst he
        exact ⟨by rw [Addr.add_lit]; exact hv, h1⟩
    obtain ⟨news, hnl, hnews⟩ := hsrc
    obtain ⟨a6, cap6, w6, happ, hg6, hb6, _⟩ := grown_append (P := Try.prog) (w := w1) (B := w.heap.size) (T := 25) (k := 3) (xs := []) m1.size (Grown.empty w1 w.heap.size 25 3 w.heap.size) (t := 23) (tx := 23) (ty := 23)
      Try.underlying23 hi0 hz0 hz1 rfl hz2 (Src.ofSlice w1 Try.underlying23 p n cap news hnl (fun j u hu => by
        have := (hnews j u hu).1
        exact (m1.cell (block_lt_of_cell this)).trans this) (fun u hu => by
        obtain ⟨j, hj, rfl⟩ := List.getElem_of_mem hu
        exact (hnews j _ (List.getElem?_eq_getElem hj)).2)) (by omega) (by omega)
    simp only [Nat.zero_add, List.nil_append] at happ hg6
    have HG := Lib.hid hg6; have HN := Lib.hid hnews; have HNL := Lib.hid hnl; have HAP := Lib.hid happ; have HR := Lib.hid hr
    clear hg6 hnews happ hi0 hz0 hz1 hz2 hnl hr
    go_enter Try.func101, Try.ntmps101
    go_wp2_with (at_builtin; refine wpList_append_run _ rfl _ _ _ rfl _ _ _ _ rfl rfl HAP.out ?_)
    go_ret
    refine ⟨a6, cap6, rfl, m1.trans (hb6.mono (Nat.le_refl _)), ?_⟩
    by_cases h0 : n = 0
    · exact .inl h0
    · obtain ⟨B, e, hB, hrow, hc⟩ := HG.out.cells (by rw [HNL.out]; omega)
      refine .inr ⟨B, e, hB, hrow, HG.out.le, fun b o j u ha hj hu => ?_⟩
      cases ha
      have hjn : j < news.length := by rw [HNL.out]; exact hj
      have h1 := (HN.out j _ (List.getElem?_eq_getElem hjn)).1
      rw [Addr.add_lit, hu] at h1
      exact hc j u (by rw [List.getElem?_eq_getElem hjn]; exact h1.symm)
theorem cloneT (n : Nat) (a : Option Addr) (cap : Nat) (w : World) (hl : n ≤ 651562446070) (hr : CellsAt 15 n a w) : Calls Try.prog 102 #[.slice a n cap] w (CloneG 47 15 n a w) := by
  have qT : ∀ (w : World) (a : Option Addr) (n c n' c' : Nat), (binOp .eql 45 (.slice a n c) (.slice none n' c')).run Try.prog w = .ok (.bool a.isNone) w := fun w a n c n' c' => Lib.run_eql_slice_nil w _ _ a n c n' c' Try.underlying45
  cases a with
  | none =>
    have h0 : n = 0 := by
      rcases hr with h | ⟨b, o, h, _⟩
      · exact h
      · cases h
    subst h0
    go_enter Try.func102, Try.ntmps102
    go_wp2_with fail
    go_ret
    exact ⟨none, 0, rfl, Below.refl _ _, .inl rfl⟩
  | some p =>
    obtain ⟨w1, hw1, m1⟩ : ∃ w1, w.alloc (.cells #[] 47) = w1 ∧ Below w.heap.size w w1 := ⟨_, rfl, Below.al _⟩
    obtain ⟨i0, hi0, hz0, hz1, hz2⟩ := info_parts zeroT
    have hsrc : ∃ news : List Value, news.length = n * 15 ∧ (∀ j u, news[j]? = some u → w.cell? (p.add j) = some u ∧ u.oneCell' = true) := by
      rcases hr with h0 | ⟨b, o, e, hc⟩
      · subst h0; exact ⟨[], by simp, fun j u h => by simp at h⟩
      · cases e
        refine ⟨(List.range (n * 15)).map fun j => (w.cell? ⟨b, o + j, none⟩).getD .nilIface, by simp, fun j u h => ?_⟩
        obtain ⟨hj, he⟩ := List.getElem?_eq_some_iff.1 h
        have hj' : j < n * 15 := by simpa using hj
        obtain ⟨v, hv, h1⟩ := hc j hj'
        simp only [List.getElem_map, List.getElem_range, hv, Option.getD_some] at he
        subst he
        exact ⟨by rw [Addr.add_lit]; exact hv, h1⟩
    obtain ⟨news, hnl, hnews⟩ := hsrc
    obtain ⟨a6, cap6, w6, happ, hg6, hb6, _⟩ := grown_append (P := Try.prog) (w := w1) (B := w.heap.size) (T := 47) (k := 15) (xs := []) m1.size (Grown.empty w1 w.heap.size 47 15 w.heap.size) (t := 45) (tx := 45) (ty := 45)
      Try.underlying45 hi0 hz0 hz1 rfl hz2 (Src.ofSlice w1 Try.underlying45 p n cap news hnl (fun j u hu => by
        have := (hnews j u hu).1
        exact (m1.cell (block_lt_of_cell this)).trans this) (fun u hu => by
        obtain ⟨j, hj, rfl⟩ := List.getElem_of_mem hu
        exact (hnews j _ (List.getElem?_eq_getElem hj)).2)) (by omega) (by omega)
    simp only [Nat.zero_add, List.nil_append] at happ hg6
    have HG := Lib.hid hg6; have HN := Lib.hid hnews; have HNL := Lib.hid hnl; have HAP := Lib.hid happ; have HR := Lib.hid hr
    clear hg6 hnews happ hi0 hz0 hz1 hz2 hnl hr
    go_enter Try.func102, Try.ntmps102
    go_wp2_with (at_builtin; refine wpList_append_run _ rfl _ _ _ rfl _ _ _ _ rfl rfl HAP.out ?_)
    go_ret
    refine ⟨a6, cap6, rfl, m1.trans (hb6.mono (Nat.le_refl _)), ?_⟩
    by_cases h0 : n = 0
    · exact .inl h0
    · obtain ⟨B, e, hB, hrow, hc⟩ := HG.out.cells (by rw [HNL.out]; omega)
      refine .inr ⟨B, e, hB, hrow, HG.out.le, fun b o j u ha hj hu => ?_⟩
      cases ha
      have hjn : j < news.length := by rw [HNL.out]; exact hj
      have h1 := (HN.out j _ (List.getElem?_eq_getElem hjn)).1
      rw [Addr.add_lit, hu] at h1
      exact hc j u (by rw [List.getElem?_eq_getElem hjn]; exact h1.symm)

theorem WRow.cellsAt {w : World} {l : List Int} {a : Option Addr} (h : WRow w l a) : CellsAt 1 l.length a w := by
  by_cases h0 : l = []
  · left; simp [h0]
  · right
    have hpos : 0 < l.length := List.length_pos_iff.2 h0
    obtain ⟨b, o, e, _⟩ := h.get 0 hpos
    subst e
    refine ⟨b, o, rfl, fun j hj => ?_⟩
    obtain ⟨b', o', e, hc⟩ := h.get j (by omega)
    cases e
    exact ⟨_, hc, rfl⟩
theorem VRow.cellsAt {w : World} {l : List VT} {a : Option Addr} (h : VRow w l a) : CellsAt 3 l.length a w := by
  by_cases h0 : l = []
  · left; simp [h0]
  · right
    have hpos : 0 < l.length := List.length_pos_iff.2 h0
    obtain ⟨b, o, e, _⟩ := h.got 0 hpos
    subst e
    refine ⟨b, o, rfl, fun j hj => ?_⟩
    obtain ⟨b', o', e, a', cap', d0, d1, d2, _⟩ := h.got (j / 3) (by omega)
    cases e
    rcases (by omega : j = j / 3 * 3 ∨ j = j / 3 * 3 + 1 ∨ j = j / 3 * 3 + 2) with e | e | e
    · exact ⟨_, by rw [e]; exact d0, rfl⟩
    · exact ⟨_, by rw [e]; exact d1, rfl⟩
    · exact ⟨_, by rw [e]; exact d2, rfl⟩
theorem TCells.one {w : World} {b o : Nat} {t : TT} {A : TA} (h : TCells w b o t A) : ∀ j, j < 15 → ∃ u, w.cell? ⟨b, o + j, none⟩ = some u ∧ u.oneCell' = true := by
  obtain ⟨h0, h1, h2, h3, h4, h5, h6, h7, h8, h9, h10, h11, h12, h13, h14⟩ := h
  intro j hj
  rcases (by omega : j = 0 ∨ j = 1 ∨ j = 2 ∨ j = 3 ∨ j = 4 ∨ j = 5 ∨ j = 6 ∨ j = 7 ∨ j = 8 ∨ j = 9 ∨ j = 10 ∨ j = 11 ∨ j = 12 ∨ j = 13 ∨ j = 14) with rfl | rfl | rfl | rfl | rfl | rfl | rfl | rfl | rfl | rfl | rfl | rfl | rfl | rfl | rfl
  all_goals exact ⟨_, by assumption, rfl⟩
theorem TRow.cellsAt {w : World} {l : List TT} {a : Option Addr} (h : TRow w l a) : CellsAt 15 l.length a w := by
  by_cases h0 : l = []
  · left; simp [h0]
  · right
    have hpos : 0 < l.length := List.length_pos_iff.2 h0
    obtain ⟨b, o, e, _⟩ := h.get 0 hpos
    subst e
    refine ⟨b, o, rfl, fun j hj => ?_⟩
    obtain ⟨b', o', e, A, hc, _⟩ := h.get (j / 15) (by omega)
    cases e
    obtain ⟨u, hu, h1⟩ := hc.one (j % 15) (Nat.mod_lt _ (by omega))
    have e : o + j = o + j / 15 * 15 + j % 15 := by omega
    exact ⟨u, by rw [e]; exact hu, h1⟩

/-! cells written into one block -/
def setL (B : Nat) : List (Nat × Value) → World → World
  | [], w => w
  | (o, v) :: l, w => setL B l (w.setCell ⟨B, o, none⟩ v)
theorem setL_out (B b o : Nat) : ∀ (l : List (Nat × Value)) (w : World), (b = B → o ∉ l.map (·.1)) → (setL B l w).cell? ⟨b, o, none⟩ = w.cell? ⟨b, o, none⟩
  | [], _, _ => rfl
  | (o', v) :: l, w, h => by
    rw [setL, setL_out B b o l _ (fun e => by have := h e; simp only [List.map_cons, List.mem_cons, not_or] at this; exact this.2)]
    by_cases e : b = B
    · subst e
      have := h rfl
      simp only [List.map_cons, List.mem_cons, not_or] at this
      exact cell_set_off (fun e => this.1 e.symm)
    · exact cell_set_other (fun h => e h.symm)
theorem setL_in (B : Nat) : ∀ (l : List (Nat × Value)) (w : World), (l.map (·.1)).Nodup → (∀ p ∈ l, ∃ x, w.cell? ⟨B, p.1, none⟩ = some x) → ∀ p ∈ l, (setL B l w).cell? ⟨B, p.1, none⟩ = some p.2
  | [], _, _, _, _, h => by cases h
  | (o, v) :: l, w, hn, hc, p, hp => by
    simp only [List.map_cons, List.nodup_cons] at hn
    rcases List.mem_cons.1 hp with rfl | hp
    · obtain ⟨x, hx⟩ := hc (o, v) (by simp)
      rw [setL, setL_out B B o l _ (fun _ => hn.1)]
      exact set_same hx
    · refine setL_in B l _ hn.2 (fun q hq => ?_) p hp
      obtain ⟨x, hx⟩ := hc q (List.mem_cons_of_mem _ hq)
      exact ⟨x, set_off hx (fun e => hn.1 (by rw [e]; exact List.mem_map_of_mem hq))⟩
theorem setL_frozen (B : Nat) (p : Addr) : ∀ (l : List (Nat × Value)) (w : World), (setL B l w).frozen? p = w.frozen? p
  | [], _ => rfl
  | (o, v) :: l, w => by rw [setL, setL_frozen B p l, World.frozen?_setCell]
theorem setL_row (B : Nat) {t b n : Nat} : ∀ (l : List (Nat × Value)) (w : World), RowAt w t b n → RowAt (setL B l w) t b n
  | [], _, h => h
  | (_o, _v) :: l, _w, h => setL_row B l _ (h.set _ _ rfl)
theorem setL_size (B : Nat) : ∀ (l : List (Nat × Value)) (w : World), (setL B l w).heap.size = w.heap.size
  | [], _ => rfl
  | (o, v) :: l, w => by rw [setL, setL_size B l]; simp [World.setCell]
theorem setL_below (B : Nat) {lo : Nat} {a : World} (hB : lo ≤ B) : ∀ (l : List (Nat × Value)) (w : World), Below lo a w → Below lo a (setL B l w)
  | [], _, h => h
  | (o, v) :: l, _w, h => setL_below B hB l _ (h.setCell (p := ⟨B, o, none⟩) hB v)
theorem setL_block (B : Nat) {k : Nat} (hk : k ≠ B) : ∀ (l : List (Nat × Value)) (w : World), (setL B l w).heap[k]? = w.heap[k]?
  | [], _ => rfl
  | (o, v) :: l, w => by rw [setL, setL_block B hk l, Below.heap_setCell w ⟨B, o, none⟩ v k hk]
end Go.Proofs.Yteebbffecaeciaa
/- Plain facts of right nodes, bulk and height. -/
namespace Go.Proofs.Yteebbffecaeciaa
open Go.RowKit

theorem TT.sane_parts {t : TT} {b : Bool} (h : t.sane b = true) : t.node = 0 ∧ (t.kind = 11 → b = true) ∧ TT.sanes b t.kind 0 t.args = true := by
  obtain ⟨k, v, vs, lo, hi, ws, p, l⟩ := t
  rw [TT.sane] at h
  simp only [Bool.and_eq_true, beq_iff_eq, Bool.or_eq_true, bne_iff_ne] at h
  exact ⟨h.1.1, fun e => h.1.2.resolve_left (fun hn => hn e), h.2⟩
theorem TT.sanes_get {b : Bool} {k : Int} : ∀ {l : List TT} {i : Nat}, TT.sanes b k i l = true → ∀ (j : Nat) (hj : j < l.length), l[j].sane (b || (k == 10 && i + j == 1)) = true := by
  intro l
  induction l with
  | nil => intro i _ j hj; simp at hj
  | cons t ts ih =>
    intro i h j hj
    rw [TT.sanes, Bool.and_eq_true] at h
    cases j with
    | zero => simpa using h.1
    | succ j =>
      have := ih h.2 j (by simpa using hj)
      rw [show i + 1 + j = i + (j + 1) by omega] at this
      simpa using this
theorem many_zero {n a b : Int} (h : many n a b = 0) : a ≤ n ∧ n ≤ b := by
  unfold many at h
  split at h
  · omega
  · split at h <;> omega
/-- what is so of a right node. -/
structure TT.Right (t : TT) : Prop where
  k1 : 1 ≤ t.kind
  k2 : t.kind ≤ 11
  vals : TT.values t.kind t.v t.vs = 0
  wgts : TT.weights t.kind t.ws t.p = 0
  ends : TT.ends t.kind t.lo t.hi t.args.length = 0
  argsW : TT.argsW t.kind t.vs.length t.ws.length t.args.length = 0
theorem TT.right {t : TT} (h : t.node = 0) : t.Right := by
  unfold TT.node TT.node1 at h
  split at h
  · omega
  · rename_i h0
    split at h
    · rename_i h1; exact absurd h h1
    · rename_i h1
      split at h
      · rename_i h2; exact absurd h h2
      · rename_i h2
        split at h
        · rename_i h3; exact absurd h h3
        · rename_i h3
          exact ⟨by omega, by omega, by simpa using h1, by simpa using h2, by simpa using h3, h⟩
theorem VT.check_zero {v : VT} (h : v.check = 0) : v.first = 0 ∧ v.deep ≤ 128 ∧ v.size ≤ 4096 := by
  unfold VT.check at h
  split at h
  · rename_i h1; exact absurd h h1
  · rename_i h1
    split at h
    · omega
    · split at h
      · omega
      · exact ⟨by simpa using h1, by omega, by omega⟩
theorem TT.Right.const {t : TT} (h : t.Right) (hk : t.kind = 1) : t.v.check = 0 := by
  have := h.vals
  unfold TT.values at this
  split at this
  · rename_i h1; exact absurd this h1.2
  · rename_i h1
    exact Classical.byContradiction fun hn => h1 ⟨hk, hn⟩
theorem TT.Right.len0 {t : TT} (h : t.Right) (hk : t.kind = 1 ∨ t.kind = 2 ∨ t.kind = 4 ∨ t.kind = 11) : t.args.length = 0 := by
  have := h.argsW
  unfold TT.argsW at this
  rw [if_neg (by omega), if_neg (by omega), if_neg (by omega), if_neg (by omega)] at this
  split at this
  · rename_i h1; exact absurd this h1.2
  · have := many_zero this; omega
theorem TT.Right.len2 {t : TT} (h : t.Right) (hk : t.kind = 10) : t.args.length = 2 := by
  have := h.argsW
  unfold TT.argsW at this
  rw [if_neg (by omega), if_neg (by omega), if_neg (by omega), if_pos hk] at this
  have := many_zero this; omega
theorem TT.Right.list {t : TT} (h : t.Right) (hk : t.kind = 6) : 0 ≤ t.lo ∧ t.lo ≤ t.hi ∧ t.hi ≤ 16 := by
  have := h.ends
  unfold TT.ends at this
  rw [if_neg (by omega), if_pos hk] at this
  split at this <;> omega
theorem TT.Right.sized {t : TT} (h : t.Right) (hk : t.kind = 10) : 0 ≤ t.lo ∧ t.lo ≤ 8 ∧ t.hi = 0 := by
  have := h.ends
  unfold TT.ends at this
  rw [if_neg (by omega), if_neg (by omega), if_neg (by omega), if_pos hk] at this
  split at this
  · split at this <;> omega
  · omega
theorem TT.wts_len {ws : List Int} (h : TT.wts ws = 0) : 1 ≤ ws.length ∧ ws.length ≤ 64 := by
  unfold TT.wts at h
  split at h
  · omega
  · split at h
    · omega
    · omega
theorem TT.Right.wts {t : TT} (h : t.Right) (hk : t.kind = 3 ∨ t.kind = 4) : TT.wts t.ws = 0 := by
  have := h.wgts
  unfold TT.weights at this
  rw [if_neg (by omega)] at this
  split at this
  · omega
  · first | exact this | (rw [if_pos hk] at this; exact this)
theorem TT.Right.freq {t : TT} (h : t.Right) (hk : t.kind = 3) : t.args.length = t.ws.length ∧ 1 ≤ t.args.length ∧ t.args.length ≤ 64 := by
  have h1 := TT.wts_len (h.wts (.inl hk))
  have := h.argsW
  unfold TT.argsW at this
  rw [if_pos hk] at this
  have := many_zero this; omega
theorem TT.Right.alias {t : TT} (h : t.Right) (hk : t.kind = 4) : t.vs.length = t.ws.length ∧ 1 ≤ t.vs.length ∧ t.vs.length ≤ 64 ∧ VT.checks t.vs = 0 := by
  have h1 := TT.wts_len (h.wts (.inr hk))
  have h2 := h.argsW
  unfold TT.argsW at h2
  rw [if_neg (by omega), if_neg (by omega), if_neg (by omega), if_neg (by omega)] at h2
  have h3 := h.vals
  unfold TT.values at h3
  rw [if_neg (by omega)] at h3
  split at h3
  · omega
  · rw [if_neg (by omega)] at h3
    split at h2
    · rename_i h4; exact absurd h2 h4.2
    · rename_i h4
      have h5 : many t.vs.length t.ws.length t.ws.length = 0 := Classical.byContradiction fun hn => h4 ⟨hk, hn⟩
      have := many_zero h5
      exact ⟨by omega, by omega, by omega, h3⟩
theorem VT.checks_get {l : List VT} (h : VT.checks l = 0) {i : Nat} (hi : i < l.length) : l[i].check = 0 := by
  induction l generalizing i with
  | nil => simp at hi
  | cons t ts ih =>
    rw [VT.checks] at h
    split at h
    · rename_i h1; exact absurd h h1
    · rename_i h1
      cases i with
      | zero => simpa using h1
      | succ i => simpa using ih h (by simpa using hi)
theorem VT.checks_drop {l : List VT} {i : Nat} (h : i < l.length) : VT.checks (l.drop i) = if l[i].check ≠ 0 then l[i].check else VT.checks (l.drop (i + 1)) := by rw [drop_cons h, VT.checks]

/-! bulk, high -/
theorem TT.bulks_upto {l : List TT} {i : Nat} (h : i < l.length) (s : Nat) : TT.bulks (l.take (i + 1)) s = TT.bulks (l.take i) s + l[i].bulk s := by
  induction l generalizing i with
  | nil => simp at h
  | cons a l ih =>
    cases i with
    | zero => simp [TT.bulks]
    | succ i => simp only [List.take_succ_cons, TT.bulks, List.getElem_cons_succ]; rw [ih (by simpa using h)]; omega
theorem TT.bulks_upto_le (l : List TT) (i s : Nat) : TT.bulks (l.take i) s ≤ TT.bulks l s := by
  induction l generalizing i with
  | nil => simp
  | cons a l ih => cases i with
    | zero => simp [TT.bulks]
    | succ i => simp only [List.take_succ_cons, TT.bulks]; have := ih i; omega
theorem TT.highs_upto {l : List TT} {i : Nat} (h : i < l.length) (s : Nat) : TT.highs (l.take (i + 1)) s = max (TT.highs (l.take i) s) (l[i].high s) := by
  induction l generalizing i with
  | nil => simp at h
  | cons a l ih =>
    cases i with
    | zero => simp [TT.highs]
    | succ i => simp only [List.take_succ_cons, TT.highs, List.getElem_cons_succ]; rw [ih (by simpa using h)]; omega
section
variable (v : VT) (vs : List VT) (lo hi : Int) (ws : List Int) (p : PT) (l : List TT) (s : Nat)
theorem TT.bulk1 : TT.bulk (.mk 1 v vs lo hi ws p l) s = v.size := by rw [TT.bulk]; simp
theorem TT.bulk11 : TT.bulk (.mk 11 v vs lo hi ws p l) s = s := by rw [TT.bulk]; simp
theorem TT.bulkS : TT.bulk (.mk 10 v vs lo hi ws p l) s = TT.bulk10 l lo.toNat s := by rw [TT.bulk]; simp
theorem TT.bulk2 : TT.bulk (.mk 2 v vs lo hi ws p l) s = 1 := by rw [TT.bulk]; simp
theorem TT.bulk4 : TT.bulk (.mk 4 v vs lo hi ws p l) s = 1 + VT.sizes vs := by rw [TT.bulk]; simp
theorem TT.bulk6 : TT.bulk (.mk 6 v vs lo hi ws p l) s = 1 + (max 1 hi).toNat * TT.bulks l s := by rw [TT.bulk]; simp
theorem TT.bulkA {k : Int} (h : k = 3 ∨ k = 5 ∨ k = 7 ∨ k = 8 ∨ k = 9) : TT.bulk (.mk k v vs lo hi ws p l) s = 1 + TT.bulks l s := by
  rw [TT.bulk, if_neg (by omega), if_neg (by omega), if_neg (by omega), if_neg (by omega), if_neg (by omega), if_neg (by omega)]
theorem TT.high1 : TT.high (.mk 1 v vs lo hi ws p l) s = v.deep := by rw [TT.high]; simp
theorem TT.high11 : TT.high (.mk 11 v vs lo hi ws p l) s = s := by rw [TT.high]; simp
theorem TT.highS : TT.high (.mk 10 v vs lo hi ws p l) s = TT.high10 l lo.toNat s := by rw [TT.high]; simp
theorem TT.high2 : TT.high (.mk 2 v vs lo hi ws p l) s = 1 := by rw [TT.high]; simp
theorem TT.high4 : TT.high (.mk 4 v vs lo hi ws p l) s = VT.deeps vs := by rw [TT.high]; simp
theorem TT.high6 : TT.high (.mk 6 v vs lo hi ws p l) s = if hi = 0 then 1 else 1 + TT.highs l s := by rw [TT.high]; simp
theorem TT.highF {k : Int} (h : k = 3 ∨ k = 9) : TT.high (.mk k v vs lo hi ws p l) s = TT.highs l s := by
  rw [TT.high, if_neg (by omega), if_neg (by omega), if_neg (by omega), if_neg (by omega), if_neg (by omega), if_neg (by omega), if_pos h]
theorem TT.highA {k : Int} (h : k = 5 ∨ k = 7 ∨ k = 8) : TT.high (.mk k v vs lo hi ws p l) s = 1 + TT.highs l s := by
  rw [TT.high, if_neg (by omega), if_neg (by omega), if_neg (by omega), if_neg (by omega), if_neg (by omega), if_neg (by omega), if_neg (by omega)]
end
theorem TT.bulk10_two (a b : TT) (r : List TT) (n s : Nat) : TT.bulk10 (a :: b :: r) n s = iter (fun r => 1 + b.bulk r) n (1 + a.bulk s) := by rw [TT.bulk10, TT.bulk10s]
theorem TT.high10_two (a b : TT) (r : List TT) (n s : Nat) : TT.high10 (a :: b :: r) n s = iter (fun r => b.high r) n (a.high s) := by rw [TT.high10, TT.high10s]
theorem iter_succ (f : Nat → Nat) (n x : Nat) : iter f (n + 1) x = f (iter f n x) := rfl
theorem iter_zero (f : Nat → Nat) (x : Nat) : iter f 0 x = x := rfl
/-- the kinds, one by one. -/
theorem kinds {k : Int} (h1 : 1 ≤ k) (h2 : k ≤ 11) : k = 1 ∨ k = 2 ∨ k = 3 ∨ k = 4 ∨ k = 5 ∨ k = 6 ∨ k = 7 ∨ k = 8 ∨ k = 9 ∨ k = 10 ∨ k = 11 := by omega
theorem two_of {l : List TT} (h : l.length = 2) : ∃ a b, l = [a, b] := by
  match l, h with
  | [a, b], _ => exact ⟨a, b, rfl⟩
mutual
theorem TT.bulk_pos : ∀ (t : TT) (b : Bool) (s : Nat), t.sane b = true → 1 ≤ s → 1 ≤ t.bulk s
  | .mk k v vs lo hi ws p l, b, s, h, hs => by
    obtain ⟨hn, _, hl⟩ := TT.sane_parts h
    simp only [TT.kind, TT.args] at hl
    rw [TT.bulk]
    split
    · exact VT.size_pos v
    · split
      · exact hs
      · split
        · rename_i h10
          exact TT.bulk10_pos l k lo.toNat s b h10 hl hs
        · split
          · omega
          · split
            · omega
            · split <;> omega
theorem TT.bulk10_pos : ∀ (l : List TT) (k : Int) (n s : Nat) (b : Bool), k = 10 → TT.sanes b k 0 l = true → 1 ≤ s → 1 ≤ TT.bulk10 l n s
  | [], k, n, s, b, _, _, _ => by rw [TT.bulk10]; omega
  | [a], k, n, s, b, _, _, _ => by rw [TT.bulk10, TT.bulk10s]; omega
  | a :: c :: l, k, n, s, b, _, _, _ => by
    rw [TT.bulk10, TT.bulk10s]
    exact iter_pos (fun x _ => by omega) n _ (by omega)
end
mutual
theorem TT.high_le : ∀ (t : TT) (b : Bool) (s s' : Nat), t.sane b = true → s ≤ s' → t.high s ≤ t.bulk s'
  | .mk k v vs lo hi ws p l, b, s, s', h, hs => by
    obtain ⟨hn, _, hl⟩ := TT.sane_parts h
    have hR := TT.right hn
    simp only [TT.kind, TT.args] at hl
    have h1 := hR.k1
    have h2 := hR.k2
    simp only [TT.kind] at h1 h2
    rcases kinds h1 h2 with rfl | rfl | rfl | rfl | rfl | rfl | rfl | rfl | rfl | rfl | rfl
    · rw [TT.bulk1, TT.high1]; exact (VT.deep_le v).2
    · rw [TT.bulk2, TT.high2]; omega
    · rw [TT.bulkA _ _ _ _ _ _ _ _ (by omega), TT.highF _ _ _ _ _ _ _ _ (by omega)]
      have := TT.highs_le l 3 0 b s s' (by omega) hl hs; omega
    · rw [TT.bulk4, TT.high4]; have := VT.deeps_le vs; omega
    · rw [TT.bulkA _ _ _ _ _ _ _ _ (by omega), TT.highA _ _ _ _ _ _ _ _ (by omega)]
      have := TT.highs_le l 5 0 b s s' (by omega) hl hs; omega
    · rw [TT.bulk6, TT.high6]
      have h3 := TT.highs_le l 6 0 b s s' (by omega) hl hs
      split
      · omega
      · have h4 : 1 ≤ (max 1 hi).toNat := by omega
        have := Nat.le_mul_of_pos_left (TT.bulks l s') h4
        omega
    · rw [TT.bulkA _ _ _ _ _ _ _ _ (by omega), TT.highA _ _ _ _ _ _ _ _ (by omega)]
      have := TT.highs_le l 7 0 b s s' (by omega) hl hs; omega
    · rw [TT.bulkA _ _ _ _ _ _ _ _ (by omega), TT.highA _ _ _ _ _ _ _ _ (by omega)]
      have := TT.highs_le l 8 0 b s s' (by omega) hl hs; omega
    · rw [TT.bulkA _ _ _ _ _ _ _ _ (by omega), TT.highF _ _ _ _ _ _ _ _ (by omega)]
      have := TT.highs_le l 9 0 b s s' (by omega) hl hs; omega
    · rw [TT.bulkS, TT.highS]; exact TT.high10_le l lo.toNat b s s' hl hs
    · rw [TT.bulk11, TT.high11]; exact hs
theorem TT.highs_le : ∀ (l : List TT) (k : Int) (i : Nat) (b : Bool) (s s' : Nat), k ≠ 10 → TT.sanes b k i l = true → s ≤ s' → TT.highs l s ≤ TT.bulks l s'
  | [], _, _, _, _, _, _, _, _ => by rw [TT.highs]; omega
  | t :: ts, k, i, b, s, s', hk, h, hs => by
    rw [TT.sanes, Bool.and_eq_true] at h
    have h1 := TT.high_le t _ s s' h.1 hs
    have h2 := TT.highs_le ts k (i + 1) b s s' hk h.2 hs
    rw [TT.highs, TT.bulks]; omega
theorem TT.high10_le : ∀ (l : List TT) (n : Nat) (b : Bool) (s s' : Nat), TT.sanes b 10 0 l = true → s ≤ s' → TT.high10 l n s ≤ TT.bulk10 l n s'
  | [], _, _, _, _, _, _ => by rw [TT.high10, TT.bulk10]; omega
  | [a], n, b, s, s', _, _ => by rw [TT.high10, TT.bulk10, TT.high10s, TT.bulk10s]; omega
  | a :: c :: l, n, b, s, s', h, hs => by
    rw [TT.sanes, TT.sanes, Bool.and_eq_true, Bool.and_eq_true] at h
    have h1 := TT.high_le a _ s s' h.1 hs
    rw [TT.high10, TT.bulk10, TT.high10s, TT.bulk10s]
    exact iter_le (fun x y hxy => by have := TT.high_le c _ x y h.2.1 hxy; omega) n _ _ (by omega)
end
theorem TT.ends10 (lo hi : Int) (n : Nat) : TT.ends 10 lo hi n = if 0 ≤ lo ∧ lo ≤ 8 then (if hi = 0 then 0 else 3) else 1 := by simp [TT.ends]
/-- what is so of a step. -/
theorem TT.step_facts {t : TT} (hk : t.kind = 10) (hs : t.sane false = true) : t.step.sane false = true ∧ t.bulk 0 = 1 + t.step.bulk 0 ∧ t.high 0 = t.step.high 0 ∧ (t.lean = true → t.step.lean = true) := by
  obtain ⟨hn, _, hl⟩ := TT.sane_parts hs
  have hR := TT.right hn
  have h2 := hR.len2 hk
  obtain ⟨h3, h4, h5⟩ := hR.sized hk
  obtain ⟨k, v, vs, lo, hi, ws, p, l⟩ := t
  simp only [TT.kind, TT.args, TT.lo, TT.hi] at hk hl h2 h3 h4 h5
  subst hk
  obtain ⟨a, b, rfl⟩ := two_of h2
  have hl0 := hl
  rw [TT.sanes, TT.sanes, Bool.and_eq_true, Bool.and_eq_true] at hl
  have ha : a.sane false = true := by simpa using hl.1
  have hb : b.sane true = true := by simpa using hl.2.1
  by_cases h0 : lo = 0
  · have e : TT.step (.mk 10 v vs lo hi ws p [a, b]) = a := by simp [TT.step, TT.args, TT.lo, h0]
    rw [e, TT.bulkS, TT.highS, TT.bulk10_two, TT.high10_two, h0]
    refine ⟨ha, rfl, rfl, fun h => ?_⟩
    have := (TT.lean_parts h).2
    simp only [TT.args, TT.leans, Bool.and_eq_true] at this
    exact this.1
  · have e : TT.step (.mk 10 v vs lo hi ws p [a, b]) = b.put (.mk 10 v vs (lo - 1) hi ws p [a, b]) := by simp [TT.step, TT.args, TT.lo, h0, TT.less]
    have hless : TT.sane false (.mk 10 v vs (lo - 1) hi ws p [a, b]) = true := by
      rw [TT.sane]
      simp only [Bool.and_eq_true]
      refine ⟨⟨?_, by decide⟩, hl0⟩
      have e1 : TT.node (.mk 10 v vs (lo - 1) hi ws p [a, b]) = TT.node (.mk 10 v vs lo hi ws p [a, b]) := by
        show TT.node1 10 v vs (lo - 1) hi ws p 2 = TT.node1 10 v vs lo hi ws p 2
        have e2 : TT.ends 10 (lo - 1) hi 2 = TT.ends 10 lo hi 2 := by
          rw [TT.ends10, TT.ends10, if_pos (show 0 ≤ lo - 1 ∧ lo - 1 ≤ 8 from ⟨by omega, by omega⟩), if_pos (show 0 ≤ lo ∧ lo ≤ 8 from ⟨by omega, by omega⟩)]
        unfold TT.node1
        rw [e2]
      rw [e1, hn]; rfl
    rw [e, TT.bulk_put, TT.high_put, TT.bulkS, TT.highS, TT.bulkS, TT.highS, TT.bulk10_two, TT.high10_two, TT.bulk10_two, TT.high10_two]
    have e3 : lo.toNat = (lo - 1).toNat + 1 := by omega
    rw [e3]
    refine ⟨TT.sane_put _ false hless b hb, rfl, rfl, fun h => ?_⟩
    have h6 := h
    rw [TT.lean] at h6
    have h7 := (TT.lean_parts h).2
    simp only [TT.args, TT.leans, Bool.and_eq_true] at h7
    exact TT.lean_put _ (by rw [TT.lean]; exact h6) b h7.2.1
end Go.Proofs.Yteebbffecaeciaa
