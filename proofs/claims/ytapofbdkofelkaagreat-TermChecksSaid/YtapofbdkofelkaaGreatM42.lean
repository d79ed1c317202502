/- Texts of this claim laid into one: TFlat. -/
import Derived.Test.YtapofbdkofelkaaGreatM40
import Derived.Test.YtapofbdkofelkaaGreatM41
/- The law's flat: a term's nodes, by their places. -/
namespace Go.Proofs.YtapofbdkofelkaaGreat
open Go.RowKit

/-- the cells of terms, one behind another. -/
def cellsL (L : List (TT × TA)) : List Value := L.flatMap fun p => (cellsOf p.1 p.2).toList
theorem cellsL_length (L : List (TT × TA)) : (cellsL L).length = L.length * 15 := by
  induction L with
  | nil => rfl
  | cons p L ih => rw [cellsL, List.flatMap_cons, List.length_append, ← cellsL, ih, List.length_cons, Nat.add_mul]; simp [cellsOf]; omega
theorem cellsL_append (L : List (TT × TA)) (p : TT × TA) : cellsL (L ++ [p]) = cellsL L ++ (cellsOf p.1 p.2).toList := by simp [cellsL]
theorem cellsL_get : ∀ (L : List (TT × TA)) (i q : Nat) (h : i < L.length), q < 15 → (cellsL L)[i * 15 + q]? = ((cellsOf L[i].1 L[i].2).toList)[q]?
  | [], i, q, h, _ => by simp at h
  | p :: L, 0, q, _, hq => by
    rw [cellsL, List.flatMap_cons, List.getElem?_append_left (by simp [cellsOf]; omega)]
    simp
  | p :: L, i + 1, q, h, hq => by
    rw [cellsL, List.flatMap_cons, ← cellsL, List.getElem?_append_right (by simp [cellsOf]; omega)]
    have e : (i + 1) * 15 + q - (cellsOf p.1 p.2).toList.length = i * 15 + q := by simp [cellsOf]; omega
    rw [e, cellsL_get L i q (by simpa using h) hq]
    simp
/-- a row that append builds of terms that were there in the world wb. -/
def FlatRow (wb w : World) (L : List (TT × TA)) (a : Option Addr) (cap : Nat) : Prop := Grown w wb.heap.size 31 15 L.length (cellsL L) a cap ∧ ∀ p ∈ L, TOk wb p.1 p.2
theorem FlatRow.below {wb w w' : World} {L : List (TT × TA)} {a : Option Addr} {cap : Nat} (h : FlatRow wb w L a cap) (hb : Below w.heap.size w w') : FlatRow wb w' L a cap := ⟨h.1.below hb, h.2⟩
theorem FlatRow.get {wb w : World} {L : List (TT × TA)} {a : Option Addr} {cap : Nat} (h : FlatRow wb w L a cap) {i : Nat} (hi : i < L.length) : ∃ b, a = some ⟨b, 0, none⟩ ∧ wb.heap.size ≤ b ∧ TCells w b (i * 15) L[i].1 L[i].2 ∧ TOk wb L[i].1 L[i].2 := by
  obtain ⟨b, e, hB, _, hc⟩ := h.1.cells (by rw [cellsL_length]; omega)
  refine ⟨b, e, hB, ?_, h.2 _ (List.getElem_mem hi)⟩
  have hg : ∀ q v, q < 15 → ((cellsOf L[i].1 L[i].2).toList)[q]? = some v → w.cell? ⟨b, i * 15 + q, none⟩ = some v := fun q v hq hv => hc _ v (by rw [cellsL_get L i q hi hq]; exact hv)
  exact ⟨hg 0 _ (by decide) rfl, hg 1 _ (by decide) rfl, hg 2 _ (by decide) rfl, hg 3 _ (by decide) rfl, hg 4 _ (by decide) rfl, hg 5 _ (by decide) rfl, hg 6 _ (by decide) rfl, hg 7 _ (by decide) rfl, hg 8 _ (by decide) rfl, hg 9 _ (by decide) rfl, hg 10 _ (by decide) rfl, hg 11 _ (by decide) rfl, hg 12 _ (by decide) rfl, hg 13 _ (by decide) rfl, hg 14 _ (by decide) rfl⟩
theorem FlatRow.block {wb w : World} {L : List (TT × TA)} {a : Option Addr} {cap : Nat} (h : FlatRow wb w L a cap) (hL : 0 < L.length) : ∀ b', a = some ⟨b', 0, none⟩ → b' < w.heap.size := fun b' e => by
  obtain ⟨b, e', _, hc, _⟩ := h.get hL
  rw [e] at e'
  cases e'
  exact lt_of_cell hc.1
/-- the row's block may have been turned, no other. -/
def OnlyRow (w w' : World) (a a' : Option Addr) : Prop := ∀ k, k < w.heap.size → (∀ b', a = some ⟨b', 0, none⟩ → k ≠ b') → w'.heap[k]? = w.heap[k]? ∧ ∀ b', a' = some ⟨b', 0, none⟩ → k ≠ b'
theorem OnlyRow.trans {w w1 w2 : World} {a a1 a2 : Option Addr} (h : OnlyRow w w1 a a1) (h2 : OnlyRow w1 w2 a1 a2) (hs : w.heap.size ≤ w1.heap.size) : OnlyRow w w2 a a2 := fun k hk hn => by
  obtain ⟨e, hn1⟩ := h k hk hn
  obtain ⟨e2, hn2⟩ := h2 k (Nat.lt_of_lt_of_le hk hs) hn1
  exact ⟨e2.trans e, hn2⟩
theorem wpList_row1C {ops : Array Oper} {rest : List Oper} {o : Oper} {a : Act} {w : World} {Q : Exit → Act → World → Prop} {s : TT} {A : TA} {x0 : Operand} (g : o.guard = none) (ho : o.op = .buildSlice 29 1 #[(0, x0)]) (e0 : a.eval x0 = s.val A)
    (hk : ∀ w2, TCells w2 w.heap.size 0 s A → Below w.heap.size w w2 → w.heap.size < w2.heap.size → wpList Tryz.prog ops Q rest (a.put o.dst (.slice (some ⟨w.heap.size, 0, none⟩) 1 1)) w2) : wpList Tryz.prog ops Q (o :: rest) a w := by
  obtain ⟨w2, hw2, m2, s2, hc2, _⟩ := row1_new w s A
  exact wpList_plain g fun _ hK => wp_val (run_row1 ho e0 hw2) (hK _ _ (hk w2 hc2 m2 s2))
/-- a term appended to the row. -/
theorem flat_append {wb w : World} {L : List (TT × TA)} {a : Option Addr} {cap B : Nat} {t : TT} {A : TA} (h : FlatRow wb w L a cap) (hB : wb.heap.size ≤ w.heap.size) (hc : TCells w B 0 t A) (ht : TOk wb t A) (hL : L.length < 3000) :
    ∃ a' cap' w', (Builtin.append_ #[29, 29] 29 #[.slice a L.length cap, .slice (some ⟨B, 0, none⟩) 1 1]).run Tryz.prog w = .ok (.slice a' (L.length + 1) cap') w' ∧ FlatRow wb w' (L ++ [(t, A)]) a' cap' ∧ Below wb.heap.size w w' ∧ OnlyRow w w' a a' := by
  obtain ⟨i0, hi0, hz0, hz1, hz2⟩ := info_parts zeroT
  obtain ⟨a', cap', w', hap, hg', hb', hk'⟩ := grown_append (P := Tryz.prog) (ty := 29) hB h.1 Tryz.underlying29 hi0 hz0 hz1 rfl hz2
    (Src.ofSlice w Tryz.underlying29 ⟨B, 0, none⟩ 1 1 (cellsOf t A).toList (by simp [cellsOf]) (fun j u hu => by rw [Addr.add_lit]; have := hc.range j u hu; simpa using this) (fun u hu => by
      obtain ⟨j, hj, rfl⟩ := List.getElem_of_mem hu
      have hj' : j < 15 := by simpa [cellsOf] using hj
      have h1 := hc.range j _ (List.getElem?_eq_getElem hj)
      obtain ⟨u', hu', ho⟩ := hc.one j hj'
      rw [h1] at hu'
      cases hu'; exact ho)) (by omega) (by omega)
  refine ⟨a', cap', w', hap, ⟨?_, fun p hp => ?_⟩, hb', hk'⟩
  · rw [cellsL_append, List.length_append]; exact hg'
  · rcases List.mem_append.1 hp with hp | hp
    · exact h.2 p hp
    · simp only [List.mem_singleton] at hp; subst hp; exact ht
theorem TT.pres_take {l : List TT} {i : Nat} (h : i < l.length) : TT.pres (l.take (i + 1)) = TT.pres (l.take i) ++ l[i].pre := by
  induction l generalizing i with
  | nil => simp at h
  | cons t ts ih =>
    cases i with
    | zero => simp [TT.pres]
    | succ i => simp only [List.take_succ_cons, TT.pres, List.getElem_cons_succ]; rw [ih (by simpa using h), List.append_assoc]
theorem TT.pres_full (l : List TT) : TT.pres (l.take l.length) = TT.pres l := by rw [List.take_length]

end Go.Proofs.YtapofbdkofelkaaGreat
