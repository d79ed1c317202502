/- Texts of this claim laid into one: TTabM. -/
import Derived.Test.YtapofbdkofelkaaM44
import Derived.Test.YtapofbdkofelkaaM42
import Derived.Test.YtapofbdkofelkaaM13
import Derived.Test.YtapofbdkofelkaaM43
/- Terms within tables: values of several cells of which some are a term's. -/
namespace Go.Proofs.Ytapofbdkofelkaa
open Go.RowKit

theorem TCells.of_range {w : World} {b o : Nat} {t : TT} {A : TA} (h : w.rangeAt b o (cellsOf t A).toList) : TCells w b o t A :=
  ⟨h 0 _ rfl, h 1 _ rfl, h 2 _ rfl, h 3 _ rfl, h 4 _ rfl, h 5 _ rfl, h 6 _ rfl, h 7 _ rfl, h 8 _ rfl, h 9 _ rfl, h 10 _ rfl, h 11 _ rfl, h 12 _ rfl, h 13 _ rfl, h 14 _ rfl⟩
theorem TCells.at_block {w w' : World} {b o : Nat} {t : TT} {A : TA} (h : TCells w b o t A) (hc : ∀ o v, w.cell? ⟨b, o, none⟩ = some v → w'.cell? ⟨b, o, none⟩ = some v) : TCells w' b o t A := by
  obtain ⟨h0, h1, h2, h3, h4, h5, h6, h7, h8, h9, h10, h11, h12, h13, h14⟩ := h
  exact ⟨hc _ _ h0, hc _ _ h1, hc _ _ h2, hc _ _ h3, hc _ _ h4, hc _ _ h5, hc _ _ h6, hc _ _ h7, hc _ _ h8, hc _ _ h9, hc _ _ h10, hc _ _ h11, hc _ _ h12, hc _ _ h13, hc _ _ h14⟩
theorem range_split {w : World} {b o : Nat} {xs ys : Array Value} (h : w.rangeAt b o (xs ++ ys).toList) : w.rangeAt b o xs.toList ∧ w.rangeAt b (o + xs.size) ys.toList := by
  rw [Array.toList_append] at h
  refine ⟨fun j v hv => h j v ?_, fun j v hv => ?_⟩
  · rw [List.getElem?_append_left (List.getElem?_eq_some_iff.1 hv).1]; exact hv
  · have := h (xs.toList.length + j) v (by rw [List.getElem?_append_right (by omega)]; simpa using hv)
    rw [← this]; congr 2; simp; omega
theorem cellsOf_size (t : TT) (A : TA) : (cellsOf t A).size = 15 := rfl
theorem cellsOf_one (t : TT) (A : TA) : (cellsOf t A).all (·.oneCell') = true := by simp [cellsOf, Value.oneCell']
theorem cellsOf_plus_one (t : TT) (A : TA) (xs : Array Value) (h : xs.all (·.oneCell') = true) : (cellsOf t A ++ xs).all (·.oneCell') = true := by
  rw [Array.all_append, cellsOf_one, h]; rfl
theorem val_cells (t : TT) (A : TA) : t.val A = .agg (cellsOf t A) := rfl
theorem run_built {P : Program} {w : World} {o : Oper} {r : Operand → Value} {t : TypeId} {parts : Array (Nat × Operand)} (ho : o.op = .build t parts) (cells : Array Value) (hf : P.built t (parts.map fun (i, x) => (i, r x)).toList = some cells) :
    (execOp r o).run P w = .ok (.value (.agg cells)) w := by
  obtain ⟨od, oo, ot, op, oa, og⟩ := o
  simp only at ho
  subst ho
  unfold execOp
  simp only [Sem.run_bind, run_build w t _ cells hf, Result.andThen_ok]
  rfl
section
variable {P : Program} {w : World}
/-- a struct, or an array, is built: what it holds is said by the caller. -/
theorem wpList_built {ops : Array Oper} {rest : List Oper} {o : Oper} {a : Act} {Q : Exit → Act → World → Prop} {t : TypeId} {parts : Array (Nat × Operand)} (g : o.guard = none) (ho : o.op = .build t parts) (cells : Array Value)
    (hf : P.built t (parts.map fun (i, x) => (i, a.eval x)).toList = some cells) (hK : wpList P ops Q rest (a.put o.dst (.agg cells)) w) : wpList P ops Q (o :: rest) a w := wpList_buildTo g t parts ho o.dst rfl cells hf hK
theorem wpList_builtT {ops : Array Oper} {rest : List Oper} {o : Oper} {a : Act} {Q : Exit → Act → World → Prop} {t : TypeId} {parts : Array (Nat × Operand)} (g : o.guard = none) (ho : o.op = .build t parts) (s : TT) (A : TA)
    (hf : P.built t (parts.map fun (i, x) => (i, a.eval x)).toList = some (cellsOf s A)) (hK : wpList P ops Q rest (a.put o.dst (s.val A)) w) : wpList P ops Q (o :: rest) a w := wpList_buildTo g t parts ho o.dst rfl _ hf hK
end
def tPick (n : Int) (l : List TT) : TT := .mk 8 vNone [] n 0 [] pNone l
def tFreq (ws : List Int) (l : List TT) : TT := .mk 3 vNone [] 0 0 ws pNone l
def freqA (wa : Option Addr) (wc : Nat) (aa : Option Addr) (ac : Nat) : TA := ⟨none, 0, none, 0, wa, wc, none, 0, none, 0, aa, ac⟩
theorem tok_freq {w : World} {ws : List Int} {l : List TT} {wa aa : Option Addr} {wc ac : Nat} (hl : l.length ≤ 651562446070) (hwl : ws.length ≤ 17592186043904) (hw : WRow w ws wa) (hr : TRow w l aa) : TOk w (tFreq ws l) (freqA wa wc aa ac) :=
  TOk.of ⟨⟨hl, by simp [TT.vs, tFreq], hwl⟩, vin_plain w 0 0, by rw [tFreq, TT.vs, VRow]; trivial, hw, pin_none w, hr⟩
/-- two terms, one behind the other. -/
structure TP where
  s : TT
  A : TA
  t : TT
  B : TA
def TP.cells (p : TP) : Array Value := cellsOf p.s p.A ++ cellsOf p.t p.B
def TP.val (p : TP) : Value := .agg p.cells
theorem TP.size (p : TP) : p.val.cells.size = 30 := by simp [TP.val, TP.cells, Value.cells, cellsOf_size]
theorem TP.cells_size (p : TP) : p.cells.size = 30 := by simp [TP.cells, cellsOf_size]
theorem TP.cells_one (p : TP) : p.cells.all (·.oneCell') = true := by rw [TP.cells, Array.all_append, cellsOf_one, cellsOf_one]; rfl
/-- what TermRows asks of both. -/
def TP.Eqs (p : TP) : Prop := p.s.nodes = p.t.nodes ∧ p.s.deep = p.t.deep ∧ p.s.Bulk = p.t.Bulk ∧ p.s.High = p.t.High ∧ p.s.may = p.t.may ∧ p.s.sound = p.t.sound ∧ p.s.node = p.t.node
theorem TP.at {w : World} {b o : Nat} {p : TP} (h : w.rangeAt b o p.cells.toList) : TCells w b o p.s p.A ∧ TCells w b (o + 15) p.t p.B := by
  obtain ⟨h1, h2⟩ := range_split h
  exact ⟨.of_range h1, .of_range h2⟩
theorem built_pair (p : TP) : Try.prog.built 62 [(0, p.s.val p.A), (1, p.t.val p.B)] = some p.cells := by
  have h := built_array (P := Try.prog) (t := 62) (n := 2) (e := 31) (k := 15) [p.s.val p.A, p.t.val p.B] Try.underlying62 size15 (by kernel_rfl) rfl (by
    intro v hv
    simp only [List.mem_cons, List.not_mem_nil, or_false] at hv
    rcases hv with rfl | rfl <;> rfl) (by decide)
  have e : (flatV [p.s.val p.A, p.t.val p.B]).toArray = p.cells := by
    simp [flatV, TP.cells, val_cells, Value.cells]
  rw [e] at h
  exact h
theorem wpList_pair {ops : Array Oper} {rest : List Oper} {o : Oper} {a : Act} {w : World} {Q : Exit → Act → World → Prop} {x0 x1 : Operand} (p : TP) (g : o.guard = none) (ho : o.op = .build 62 #[(0, x0), (1, x1)]) (e0 : a.eval x0 = p.s.val p.A) (e1 : a.eval x1 = p.t.val p.B)
    (hK : wpList Try.prog ops Q rest (a.put o.dst p.val) w) : wpList Try.prog ops Q (o :: rest) a w :=
  wpList_built g ho p.cells (by
    have e : (Array.map (fun (x : Nat × Operand) => (x.1, a.eval x.2)) #[(0, x0), (1, x1)]).toList = [(0, p.s.val p.A), (1, p.t.val p.B)] := by simp [e0, e1]
    exact (congrArg (Program.built Try.prog 62) e).trans (built_pair p)) hK
theorem run_pick {w : World} {o : Oper} {r : Operand → Value} {k n : Int} {b : Option Addr} {len cap : Nat} {l : List TT} {x0 x1 x2 : Operand} (ho : o.op = .build 31 #[(0, x0), (3, x1), (7, x2)]) (e0 : r x0 = .int .u8 k) (e1 : r x1 = .int .i64 n) (e2 : r x2 = .slice b len cap) (hl : len = l.length) :
    (execOp r o).run Try.prog w = .ok (.value (TT.val (.mk k vNone [] n 0 [] pNone l) (plainA b cap))) w :=
  run_built ho _ (by
    have e : (Array.map (fun (x : Nat × Operand) => (x.1, r x.2)) #[(0, x0), (3, x1), (7, x2)]).toList = [(0, .int .u8 k), (3, .int .i64 n), (7, .slice b len cap)] := by simp [e0, e1, e2]
    subst hl
    exact (congrArg (Program.built Try.prog 31) e).trans (by kernel_rfl))
theorem run_freqT {w : World} {o : Oper} {r : Operand → Value} {b b' : Option Addr} {len cap len' cap' : Nat} {l : List TT} {ws : List Int} {x0 x1 x2 : Operand} (ho : o.op = .build 31 #[(0, x0), (5, x1), (7, x2)]) (e0 : r x0 = .int .u8 3) (e1 : r x1 = .slice b len cap) (e2 : r x2 = .slice b' len' cap') (hl : len = ws.length) (hl' : len' = l.length) :
    (execOp r o).run Try.prog w = .ok (.value (TT.val (tFreq ws l) (freqA b cap b' cap'))) w :=
  run_built ho _ (by
    have e : (Array.map (fun (x : Nat × Operand) => (x.1, r x.2)) #[(0, x0), (5, x1), (7, x2)]).toList = [(0, .int .u8 3), (5, .slice b len cap), (7, .slice b' len' cap')] := by simp [e0, e1, e2]
    subst hl hl'
    exact (congrArg (Program.built Try.prog 31) e).trans (by kernel_rfl))
theorem wpList_pick {ops : Array Oper} {rest : List Oper} {o : Oper} {a : Act} {w : World} {Q : Exit → Act → World → Prop} {k n : Int} {b : Option Addr} {len cap : Nat} {l : List TT} {x0 x1 x2 : Operand} (g : o.guard = none) (ho : o.op = .build 31 #[(0, x0), (3, x1), (7, x2)]) (e0 : a.eval x0 = .int .u8 k) (e1 : a.eval x1 = .int .i64 n) (e2 : a.eval x2 = .slice b len cap) (hl : len = l.length)
    (hK : wpList Try.prog ops Q rest (a.put o.dst (TT.val (.mk k vNone [] n 0 [] pNone l) (plainA b cap))) w) : wpList Try.prog ops Q (o :: rest) a w :=
  wpList_builtT g ho _ _ (by
    have e : (Array.map (fun (x : Nat × Operand) => (x.1, a.eval x.2)) #[(0, x0), (3, x1), (7, x2)]).toList = [(0, .int .u8 k), (3, .int .i64 n), (7, .slice b len cap)] := by simp [e0, e1, e2]
    subst hl
    exact (congrArg (Program.built Try.prog 31) e).trans (by kernel_rfl)) hK
theorem wpList_freq {ops : Array Oper} {rest : List Oper} {o : Oper} {a : Act} {w : World} {Q : Exit → Act → World → Prop} {b b' : Option Addr} {len cap len' cap' : Nat} {l : List TT} {ws : List Int} {x1 x2 : Operand} (g : o.guard = none) (ho : o.op = .build 31 #[(0, .const (.int .u8 3)), (5, x1), (7, x2)]) (e1 : a.eval x1 = .slice b len cap) (e2 : a.eval x2 = .slice b' len' cap') (hl : len = ws.length) (hl' : len' = l.length)
    (hK : wpList Try.prog ops Q rest (a.put o.dst (TT.val (tFreq ws l) (freqA b cap b' cap'))) w) : wpList Try.prog ops Q (o :: rest) a w :=
  wpList_builtT g ho _ _ (by
    have e : (Array.map (fun (x : Nat × Operand) => (x.1, a.eval x.2)) #[(0, .const (.int .u8 3)), (5, x1), (7, x2)]).toList = [(0, .int .u8 3), (5, .slice b len cap), (7, .slice b' len' cap')] := by
      have e0 : a.eval (.const (.int .u8 3)) = .int .u8 3 := rfl
      simp [e0, e1, e2]
    subst hl hl'
    exact (congrArg (Program.built Try.prog 31) e).trans (by kernel_rfl)) hK
theorem wpList_pairs4 {ops : Array Oper} {rest : List Oper} {o : Oper} {a : Act} {w : World} {Q : Exit → Act → World → Prop} {x0 x1 x2 x3 : Operand} (p0 p1 p2 p3 : TP) (g : o.guard = none) (ho : o.op = .buildSlice 63 4 #[(0, x0), (1, x1), (2, x2), (3, x3)]) (e0 : a.eval x0 = p0.val) (e1 : a.eval x1 = p1.val) (e2 : a.eval x2 = p2.val) (e3 : a.eval x3 = p3.val)
    (hK : ∀ w2, Below w.heap.size w w2 → w.heap.size < w2.heap.size → (∀ i (h : i < [p0, p1, p2, p3].length), w2.rangeAt w.heap.size (i * 30) [p0, p1, p2, p3][i].cells.toList) → wpList Try.prog ops Q rest (a.put o.dst (.slice (some ⟨w.heap.size, 0, none⟩) 4 4)) w2) : wpList Try.prog ops Q (o :: rest) a w :=
  wpList_table (k := 30) ([p0, p1, p2, p3].map TP.val) g ho Try.underlying63 (by kernel_rfl) (by kernel_rfl) (by simp [e0, e1, e2, e3]) (by rfl) (by simp [TP.size]) (by decide) (by decide) (by decide) (fun w2 h1 h2 _ h4 => hK w2 h1 h2 fun i hi => by
    have := h4 i (by simpa using hi)
    rw [List.getElem_map] at this
    exact this)
theorem small_mk {k lo hi : Int} {ws : List Int} {l : List TT} (hc : TT.cnts l ≤ 2999999) (hl : TT.leans l = true) (hw : ws.length ≤ 100000) : TT.cnt (.mk k vNone [] lo hi ws pNone l) ≤ 3000000 ∧ TT.lean (.mk k vNone [] lo hi ws pNone l) = true := by
  refine ⟨by rw [TT.cnt]; omega, ?_⟩
  rw [TT.lean, hl]
  simp [hw]
  decide
theorem rows_all {l m : List TT} {ws V : List Int} {n : Int} {r r' : Nat} {A1 A2 A3 A4 : TA} {a a' wa b' : Option Addr} {cap cap' wc c' : Nat} (hm : m = rot r l) (hv : V = rot r' ws) (hc : TT.cnts l ≤ 2999999) (hl : TT.leans l = true) (hw : ws.length ≤ 100000) :
    ∀ p ∈ ([⟨tOf 5 l, A1, tOf 5 m, A2⟩, ⟨tOf 7 l, A3, tOf 7 m, A4⟩, ⟨tPick n l, plainA a cap, tPick n m, plainA a' cap'⟩, ⟨tFreq ws l, freqA wa wc a cap, tFreq V m, freqA b' c' a' cap'⟩] : List TP), (p.s.cnt ≤ 3000000 ∧ p.s.lean = true ∧ p.t.cnt ≤ 3000000 ∧ p.t.lean = true) ∧ p.Eqs := by
  subst hm hv
  have hc' : TT.cnts (rot r l) ≤ 2999999 := by rw [TT.cnts_rot]; exact hc
  have hl' : TT.leans (rot r l) = true := by rw [TT.leans_rot]; exact hl
  have hw' : (rot r' ws).length ≤ 100000 := by rw [rot_length]; exact hw
  intro p hp
  simp only [List.mem_cons, List.not_mem_nil, or_false] at hp
  rcases hp with rfl | rfl | rfl | rfl
  · have h1 := small_mk (k := 5) (lo := 0) (hi := 0) (ws := []) hc hl (by simp)
    have h2 := small_mk (k := 5) (lo := 0) (hi := 0) (ws := []) hc' hl' (by simp)
    exact ⟨⟨h1.1, h1.2, h2.1, h2.2⟩, rows_law (k := 5) (lo := 0) (ws := []) (ws' := []) (l := l) (r := r) (by decide) rfl rfl⟩
  · have h1 := small_mk (k := 7) (lo := 0) (hi := 0) (ws := []) hc hl (by simp)
    have h2 := small_mk (k := 7) (lo := 0) (hi := 0) (ws := []) hc' hl' (by simp)
    exact ⟨⟨h1.1, h1.2, h2.1, h2.2⟩, rows_law (k := 7) (lo := 0) (ws := []) (ws' := []) (l := l) (r := r) (by decide) rfl rfl⟩
  · have h1 := small_mk (k := 8) (lo := n) (hi := 0) (ws := []) hc hl (by simp)
    have h2 := small_mk (k := 8) (lo := n) (hi := 0) (ws := []) hc' hl' (by simp)
    exact ⟨⟨h1.1, h1.2, h2.1, h2.2⟩, rows_law (k := 8) (lo := n) (ws := []) (ws' := []) (l := l) (r := r) (by decide) rfl rfl⟩
  · have h1 := small_mk (k := 3) (lo := 0) (hi := 0) (ws := ws) hc hl hw
    have h2 := small_mk (k := 3) (lo := 0) (hi := 0) (ws := rot r' ws) hc' hl' hw'
    exact ⟨⟨h1.1, h1.2, h2.1, h2.2⟩, rows_law (k := 3) (lo := 0) (ws := ws) (ws' := rot r' ws) (l := l) (r := r) (by decide) (rot_length _ _) (TT.wts_rot _ _)⟩
/-- a row of whole numbers that append builds. -/
def NumRow (w : World) (lo : Nat) (L : List Int) (a : Option Addr) (cap : Nat) : Prop := Grown w lo 2 1 L.length (L.map (.int .i64)) a cap
theorem NumRow.below {w w' : World} {lo : Nat} {L : List Int} {a : Option Addr} {cap : Nat} (h : NumRow w lo L a cap) (hb : Below w.heap.size w w') : NumRow w' lo L a cap := Grown.below h hb
theorem NumRow.wrow {w : World} {lo : Nat} {L : List Int} {a : Option Addr} {cap : Nat} (h : NumRow w lo L a cap) : WRow w L a := by
  cases L with
  | nil => exact wrow_nil
  | cons x xs =>
    obtain ⟨b, e, _, _, hc⟩ := Grown.cells h (by simp)
    rw [e]
    exact WRow.of b _ 0 fun i hi => hc _ _ (by rw [List.getElem?_map, Nat.zero_add, List.getElem?_eq_getElem hi]; rfl)
/-- one number more. -/
theorem num_append {w : World} {lo n : Nat} {L : List Int} {a : Option Addr} {cap : Nat} (hB : lo ≤ w.heap.size) (h : NumRow w lo L a cap) (hL : L.length = n) (hn : n ≤ 1000000) (x : Int) :
    ∃ w5 a' cap' w', w.alloc (.cells #[.int .i64 x] 2) = w5 ∧ (Builtin.append_ #[25, 25] 25 #[.slice a n cap, .slice (some ⟨w.heap.size, 0, none⟩) 1 1]).run Try.prog w5 = .ok (.slice a' (n + 1) cap') w' ∧
      NumRow w' lo (L ++ [x]) a' cap' ∧ Below lo w w' := by
  unfold NumRow at h ⊢
  rw [hL] at h
  obtain ⟨w5, a', cap', w', hw5, happ, hg, m5, hb, _⟩ := push_int hB h hn x
  refine ⟨w5, a', cap', w', hw5, happ, ?_, (m5.mono hB).trans hb⟩
  rw [List.map_append, List.length_append, hL]
  exact hg
theorem FlatRow.trow {wb w : World} {L : List (TT × TA)} {a : Option Addr} {cap : Nat} (h : FlatRow wb w L a cap) (hb : Below wb.heap.size wb w) : TRow w (L.map (·.1)) a := by
  cases L with
  | nil => exact trow_nil
  | cons x xs =>
    obtain ⟨b, e, _⟩ := h.get (i := 0) (by simp)
    rw [e]
    refine TRow.of b _ 0 fun i hi => ?_
    have hi' : i < (x :: xs).length := by simpa using hi
    obtain ⟨b', e', _, hc, hk⟩ := h.get hi'
    rw [e] at e'
    cases e'
    refine ⟨(x :: xs)[i].2, ?_, ?_⟩
    · rw [List.getElem_map, Nat.zero_add]; exact hc
    · rw [List.getElem_map]; exact hk.below hb
theorem box_prop {T n lo : Nat} : ∀ (v : Value) (w w' : World), (∃ b, IsBlock v b ∧ lo ≤ b ∧ b < w.heap.size ∧ RowAt w T b n) → Below w.heap.size w w' → ∃ b, IsBlock v b ∧ lo ≤ b ∧ b < w'.heap.size ∧ RowAt w' T b n :=
  fun _ _ _ ⟨b, e, h0, h1, h2⟩ hb => ⟨b, e, h0, Nat.lt_of_lt_of_le h1 hb.size, h2.below h1 hb⟩
/-- an alloc whose block is one of those that are told apart. -/
theorem st_block {A : List Nat} {o : Oper} {r : Operand → Value} {w w' : World} {d : Nat} {ks : List (Nat × TQ)} (hd : o.dst = some d) (h : (execOp r o).run Try.prog w = .ok (.value (.pointer (some ⟨w.heap.size, 0, none⟩))) w') (hb : Below w.heap.size w w') (hk : kindT ks d (.pointer (some ⟨w.heap.size, 0, none⟩)) w') :
    OpDoes Try.prog o r w fun v w' => (∀ d, o.dst = some d → kindT ks d v w' ∧ (d ∈ A → IsBlock v w.heap.size)) ∧ Below w.heap.size w w' :=
  .value h ⟨fun d' e => by rw [hd] at e; cases e; exact ⟨hk, fun _ => rfl⟩, hb⟩
end Go.Proofs.Ytapofbdkofelkaa
