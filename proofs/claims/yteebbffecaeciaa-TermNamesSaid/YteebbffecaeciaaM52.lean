/- Texts of this claim laid into one: TNamesA, TNamesB. -/
import Derived.Test.YteebbffecaeciaaM37
import Derived.Test.YteebbffecaeciaaM28
import Derived.Test.YteebbffecaeciaaM32
/- TermNames: the nodes of each kind, right and wrong; tables of them. -/
namespace Go.Proofs.Yteebbffecaeciaa
open Go.RowKit

def vFive : VT := .mk 1 5 []
def vBad : VT := .mk 2 2 []
def pYes : PT := .mk 1 vNone 0 []
def nums0 (n : Nat) : List TT := List.replicate n (tNum 0)
theorem pin_yes (w : World) : PIn w pYes (.agg #[.int .u8 1, .int .u8 0, .int .i64 0, .slice none 0 0, .int .i64 0, .slice none 0 0]) := PIn.shut (by simp) (vin_plain w 0 0) prow_nil
def singlesL : List (TT × Int) := [
  (TT.mk 0 vNone [] 0 0 [] pNone [], 11),
  (TT.mk 12 vNone [] 0 0 [] pNone [], 11),
  (tNum 5, 0),
  (TT.mk 1 vNone [] 0 0 [] pNone [], 11),
  (TT.mk 1 vBad [] 0 0 [] pNone [], 1),
  (TT.mk 1 vFive [vFive] 0 0 [] pNone [], 3),
  (TT.mk 1 vFive [] 0 0 [] pYes [], 3),
  (TT.mk 1 vFive [] 0 0 [1] pNone [], 3),
  (TT.mk 1 vFive [] 0 1 [] pNone [], 3),
  (TT.mk 1 vFive [] 0 0 [] pNone (nums0 1), 5),
  (TT.mk 2 vFive [] 0 0 [] pNone [], 3),
  (tSpan 1 6, 0),
  (tSpan 6 6, 0),
  (tSpan 7 6, 1),
  (tSpan (-1099511627776) 1099511627776, 0),
  (tSpan 0 1099511627777, 1),
  (tSpan (-1099511627777) 0, 1),
  (TT.mk 3 vNone [] 0 0 [] pNone [], 4),
  (TT.mk 3 vNone [] 0 0 [0] pNone [], 7),
  (TT.mk 3 vNone [] 0 0 [1, (-1)] pNone [], 1),
  (TT.mk 3 vNone [] 0 0 [1, 2] pNone (nums0 1), 4),
  (TT.mk 3 vNone [] 0 0 [1, 0] pNone (nums0 2), 0),
  (TT.mk 3 vNone [] 0 0 [1] pNone (nums0 2), 5),
  (TT.mk 4 vNone [vFive] 0 0 [1, 2] pNone [], 4),
  (TT.mk 4 vNone [vFive, vFive] 0 0 [1] pNone [], 5),
  (TT.mk 4 vNone [vBad] 0 0 [1] pNone [], 1),
  (TT.mk 4 vNone [vFive] 0 0 [1] pNone [], 0),
  (TT.mk 4 vNone [vFive] 1 0 [1] pNone [], 3),
  (tOf 5 [], 0),
  (tOf 5 (nums0 65), 5),
  (tOf 7 (nums0 64), 0),
  (tList 0 16 (tNum 1), 0),
  (tList 0 17 (tNum 1), 1),
  (tList 2 1 (tNum 1), 1),
  (tList (-1) 1 (tNum 1), 1),
  (tOf 6 [], 4),
  (TT.mk 8 vNone [] 2 0 [] pNone (nums0 2), 0),
  (TT.mk 8 vNone [] 3 0 [] pNone (nums0 2), 1),
  (TT.mk 8 vNone [] 0 1 [] pNone (nums0 2), 3),
  (TT.mk 9 vNone [] 0 0 [] pNone (nums0 1), 11),
  (TT.mk 9 vNone [] 0 0 [] pYes [], 4),
  (TT.mk 9 vNone [] 0 0 [] pYes (nums0 2), 5),
  (TT.mk 9 vNone [] 0 0 [] pYes (nums0 1), 0),
  (tSized 8 (tNum 0) (tNum 1), 0),
  (tSized 9 (tNum 0) (tNum 1), 1),
  (tSized (-1) (tNum 0) (tNum 1), 1),
  (tOf 10 [tNum 0], 4),
  (TT.mk 10 vNone [] 0 2 [] pNone (nums0 2), 3),
  (tSelf, 0),
  (tOf 11 [tNum 0], 5),
  (TT.mk 11 vNone [] 1 0 [] pNone [], 3)]
theorem singles_all : singlesL.all (fun p => decide (p.1.node = p.2) && p.1.lean) = true := by decide +kernel
theorem singles_get {i : Nat} (h : i < singlesL.length) : singlesL[i].1.node = singlesL[i].2 ∧ singlesL[i].1.lean = true := by
  have := List.all_eq_true.1 singles_all _ (List.getElem_mem h)
  rw [Bool.and_eq_true] at this
  exact ⟨of_decide_eq_true this.1, this.2⟩
/-- numbers in a row of their own. -/
def NumsK (l : List Int) (v : Value) (w : World) : Prop := ∃ B, v = .slice (some ⟨B, 0, none⟩) l.length l.length ∧ WRow w l (some ⟨B, 0, none⟩)
theorem NumsK.mono (l : List Int) (v : Value) (w w' : World) : NumsK l v w → Below w.heap.size w w' → NumsK l v w' := fun ⟨B, e, h⟩ hb => ⟨B, e, h.below hb⟩
def ValsK (l : List VT) (v : Value) (w : World) : Prop := ∃ B, v = .slice (some ⟨B, 0, none⟩) l.length l.length ∧ VRow w l (some ⟨B, 0, none⟩)
theorem ValsK.mono (l : List VT) (v : Value) (w w' : World) : ValsK l v w → Below w.heap.size w w' → ValsK l v w' := fun ⟨B, e, h⟩ hb => ⟨B, e, h.below hb⟩
theorem nums1_new (w : World) (a : Int) : ∃ w2, w.alloc (.cells #[.int .i64 a] 2) = w2 ∧ Below w.heap.size w w2 ∧ WRow w2 [a] (some ⟨w.heap.size, 0, none⟩) := by
  refine ⟨_, rfl, Below.al _, wrow_cons ?_ wrow_nil⟩; go_simp
theorem nums2_new (w : World) (a b : Int) : ∃ w2, w.alloc (.cells #[.int .i64 a, .int .i64 b] 2) = w2 ∧ Below w.heap.size w w2 ∧ WRow w2 [a, b] (some ⟨w.heap.size, 0, none⟩) := by
  refine ⟨_, rfl, Below.al _, wrow_cons ?_ (wrow_cons ?_ wrow_nil)⟩ <;> go_simp
theorem vals1_new (w : World) (k n : Int) : ∃ w2, w.alloc (.cells #[.int .u8 k, .int .i64 n, .slice none 0 0] 25) = w2 ∧ Below w.heap.size w w2 ∧ VRow w2 [.mk k n []] (some ⟨w.heap.size, 0, none⟩) := by
  refine ⟨_, rfl, Below.al _, vrow_cons (v0 := .int .u8 k) (v1 := .int .i64 n) (v2 := .slice none 0 0) ?_ ?_ ?_ (vin_plain _ _ _) vrow_nil⟩ <;> go_simp
theorem run_vals2 {w : World} {r : Operand → Value} {x0 x1 : Operand} (k n k' n' : Int) (e0 : r x0 = .agg #[.int .u8 k, .int .i64 n, .slice none 0 0]) (e1 : r x1 = .agg #[.int .u8 k', .int .i64 n', .slice none 0 0]) :
    ∃ w2, (∀ o : Oper, o.op = .buildSlice 23 2 #[(0, x0), (1, x1)] → (execOp r o).run Try.prog w = .ok (.value (.slice (some ⟨w.heap.size, 0, none⟩) 2 2)) w2) ∧ Below w.heap.size w w2 ∧ VRow w2 [.mk k n [], .mk k' n' []] (some ⟨w.heap.size, 0, none⟩) := by
  obtain ⟨w2, hw, hb, _, _, hc⟩ := table_new w 25 3 [.agg #[.int .u8 k, .int .i64 n, .slice none 0 0], .agg #[.int .u8 k', .int .i64 n', .slice none 0 0]] (by decide) (by simp [Value.cells])
  refine ⟨w2, fun o ho => run_table (k := 3) _ ho Try.underlying23 (by kernel_rfl) (by kernel_rfl) (by simp only [List.map_toArray, List.map_cons, List.map_nil, e0, e1]; rfl) rfl (by simp [Value.cells]) (by decide) (by decide) (by decide) hw, hb, ?_⟩
  have h0 := hc 0 (by simp); have h1 := hc 1 (by simp)
  exact vrow_cons (h0 0 _ rfl) (h0 1 _ rfl) (h0 2 _ rfl) (vin_plain _ _ _) (vrow_cons (h1 0 _ rfl) (h1 1 _ rfl) (h1 2 _ rfl) (vin_plain _ _ _) vrow_nil)
/-- a node with what it must be answered. -/
structure NB where
  t : TT
  A : TA
  e : Int
def NB.cells (p : NB) : Array Value := cellsOf p.t p.A ++ #[.int .i64 p.e]
def NB.val (p : NB) : Value := .agg p.cells
theorem NB.size (p : NB) : p.val.cells.size = 16 := by simp [NB.val, NB.cells, Value.cells, cellsOf_size]
theorem NB.size' (p : NB) : p.cells.size = 16 := by simp [NB.cells, cellsOf_size]
theorem NB.cells_one (p : NB) : p.cells.all (·.oneCell') = true := by rw [NB.cells, Array.all_append, cellsOf_one]; simp [Value.oneCell']
theorem NB.at {w : World} {b o : Nat} {p : NB} (h : w.rangeAt b o p.cells.toList) : TCells w b o p.t p.A ∧ w.cell? ⟨b, o + 15, none⟩ = some (.int .i64 p.e) := by
  obtain ⟨h1, h2⟩ := range_split h
  exact ⟨.of_range h1, h2 0 _ rfl⟩
theorem run_nb {w : World} {o : Oper} {r : Operand → Value} {x0 x1 : Operand} (p : NB) (ho : o.op = .build 65 #[(0, x0), (1, x1)]) (e0 : r x0 = p.t.val p.A) (e1 : r x1 = .int .i64 p.e) : (execOp r o).run Try.prog w = .ok (.value p.val) w := by
  have e : (Array.map (fun (x : Nat × Operand) => (x.1, r x.2)) #[(0, x0), (1, x1)]).toList = [(0, p.t.val p.A), (1, .int .i64 p.e)] := by simp [e0, e1]
  exact run_built ho p.cells ((congrArg (Program.built Try.prog 65) e).trans (by kernel_rfl))
/-- a store of several cells into a row that is there. -/
theorem wpList_storeM {P : Program} {w : World} {ops : Array Oper} {rest : List Oper} {o : Oper} {a : Act} {Q : Exit → Act → World → Prop} {T T' B q n : Nat} {cells : Array Value} {po xo : Operand} (g : o.guard = none) (h : o.op = .store T po xo) (d : o.dst = none) (e1 : a.eval po = .pointer (some ⟨B, q, none⟩)) (e2 : a.eval xo = .agg cells)
    (hi : (P.info? T).map (·.size) = some cells.size) (hone : cells.all (·.oneCell') = true) (R : RowAt w T' B n) (hq : q + cells.size ≤ n)
    (hK : ∀ wE, wE.rangeAt B q cells.toList → (∀ b, b ≠ B → wE.heap[b]? = w.heap[b]?) → wE.heap.size = w.heap.size → (∀ lo a, lo ≤ B → Below lo a w → Below lo a wE) → RowAt wE T' B n → (∀ o v, o < q ∨ q + cells.size ≤ o → w.cell? ⟨B, o, none⟩ = some v → wE.cell? ⟨B, o, none⟩ = some v) → wpList P ops Q rest a wE) : wpList P ops Q (o :: rest) a w := by
  have hth : w.there B q cells.size := fun j hj => by
    obtain ⟨v, hv⟩ := R.cell (q + j) (by omega)
    exact ⟨by rw [hv]; rfl, R.frozen _⟩
  refine wpList_store_mid g T _ _ h B q cells e1 e2 hth hi hone ?_
  rw [d]
  have hth' : w.there B q cells.toList.length := by rw [Array.length_toList]; exact hth
  refine hK _ (World.rangeAt_setCells_same _ _ _ _ hth') (fun b hb => heap_setRow B b hb _ _ _) (size_setRow _ _ _ _) (fun lo a hlo h => below_setRow B hlo _ _ _ h) (R.sets _ _ _ _) fun o v ho hv => ?_
  rw [World.cell?_setCells_out B _ _ w _ (fun _ _ => by rw [Array.length_toList]; exact ho)]
  exact hv
def NbOk (t : TT) (e : Int) (v : Value) (w : World) : Prop := ∃ A, v = NB.val ⟨t, A, e⟩ ∧ TOk w t A
theorem NbOk.mono (t : TT) (e : Int) (v : Value) (w w' : World) : NbOk t e v w → Below w.heap.size w w' → NbOk t e v w' := fun ⟨A, h, ok⟩ hb => ⟨A, h, ok.below hb⟩
def NTabOk (ts : List (TT × Int)) (v : Value) (w : World) : Prop := ∃ B, v = .slice (some ⟨B, 0, none⟩) ts.length ts.length ∧ ∀ i (h : i < ts.length), ∃ A, w.rangeAt B (i * 16) (NB.cells ⟨ts[i].1, A, ts[i].2⟩).toList ∧ TOk w ts[i].1 A
theorem NTabOk.mono (ts : List (TT × Int)) (v : Value) (w w' : World) : NTabOk ts v w → Below w.heap.size w w' → NTabOk ts v w' := fun ⟨B, e, ok⟩ hb => ⟨B, e, fun i h => by obtain ⟨A, h1, h2⟩ := ok i h; exact ⟨A, range_below hb h1, h2.below hb⟩⟩
theorem run_ntab {w : World} {r : Operand → Value} {n : Nat} {parts : Array (Nat × Operand)} (ts : List (TT × Int)) (As : List TA) (hn : n = ts.length) (hA : As.length = ts.length) (h0 : 0 < n) (hs : n ≤ 1000)
    (hp : (parts.map fun (i, x) => (i, r x)).toList = (((ts.zip As).map fun x => NB.val ⟨x.1.1, x.2, x.1.2⟩).zipIdx 0).map fun x => (x.2, x.1)) (hok : ∀ x ∈ ts.zip As, TOk w x.1.1 x.2) :
    ∃ w2, (∀ o : Oper, o.op = .buildSlice 62 n parts → (execOp r o).run Try.prog w = .ok (.value (.slice (some ⟨w.heap.size, 0, none⟩) n n)) w2) ∧ Below w.heap.size w w2 ∧ NTabOk ts (.slice (some ⟨w.heap.size, 0, none⟩) n n) w2 := by
  have hk : ∀ v ∈ ((ts.zip As).map fun x => NB.val ⟨x.1.1, x.2, x.1.2⟩), v.cells.size = 16 := by
    intro v hv
    obtain ⟨x, _, rfl⟩ := List.mem_map.1 hv
    exact NB.size _
  have hlz : (ts.zip As).length = ts.length := by rw [List.length_zip, hA, Nat.min_self]
  obtain ⟨w2, hw, hb, _, _, hc⟩ := table_new w 65 16 _ (by decide) hk
  refine ⟨w2, fun o ho => run_table (k := 16) _ ho Try.underlying62 (by kernel_rfl) (by kernel_rfl) hp (by rw [List.length_map, hlz, hn]) hk (by decide) h0 (by omega) hw, hb, w.heap.size, by rw [hn], fun i h => ?_⟩
  have hi : i < (ts.zip As).length := by omega
  have := hc i (by rw [List.length_map]; exact hi)
  rw [List.getElem_map, List.getElem_zip] at this
  exact ⟨As[i], this, (hok _ (by have := List.getElem_mem hi; rwa [List.getElem_zip] at this)).below hb⟩
end Go.Proofs.Yteebbffecaeciaa
/- TermNames: the terms at their ends, and what they must be answered (plain). -/
namespace Go.Proofs.Yteebbffecaeciaa
open Go.RowKit

def deepT : Nat → TT
  | 0 => tNum 0
  | i + 1 => tOf 5 [deepT i]
def rowT : TT := tOf 5 (nums0 64)
def fullT : TT := tOf 5 [rowT, rowT, rowT, tOf 5 (nums0 61 ++ [tSpan 0 1])]
def moreT : TT := tOf 5 [rowT, rowT, rowT, tOf 5 (nums0 61 ++ [tSpan 0 1, tSpan 0 1])]
def farV : Nat → VT
  | 0 => .mk 1 0 []
  | i + 1 => .mk 4 0 [farV i]
def highT : TT := .mk 1 (farV 127) [] 0 0 [] pNone []
def selfs (n : Nat) : List TT := List.replicate n tSelf
def tableL : List (TT × Int × Int) := [
  (tSelf, 0, 10), (deepT 11, 0, 0), (tOf 5 [deepT 11], 12, 9), (tSized 1 (tNum 0) (tOf 5 [tSelf, tNum 1]), 0, 0), (tSized 1 tSelf (tNum 1), 1, 10),
  (tSized 1 (tNum 0) (tSized 1 tSelf tSelf), 0, 0), (tOf 5 [tNum 1, tList 0 1 tSelf], 3, 10), (tOf 5 [tNum 1, tOf 5 [tNum 2], tSpan 2 1], 4, 1), (fullT, 0, 0), (moreT, 0, 5),
  (tList 16 16 (tList 16 16 (tList 16 16 (tNum 0))), 0, 5), (tList 16 16 (tList 16 16 (tList 0 14 (tNum 0))), 0, 0), (highT, 0, 0), (tOf 5 [highT], 0, 9), (tList 0 0 highT, 0, 0),
  (tSized 8 (tNum 0) (tOf 5 [tSelf, tSelf, tSelf]), 0, 5), (tSized 8 (tNum 0) (tOf 5 [tSelf, tSelf]), 0, 0), (tSized 0 (tNum 0) (tOf 5 [tSelf, tSelf, tSelf]), 0, 0), (tOf 5 [highT, tSpan 2 1], 2, 1)]
theorem table_all : tableL.all (fun p => decide (p.1.check = (p.2.1, p.2.2)) && p.1.lean && decide (p.1.cnt ≤ 3000000)) = true := by decide +kernel
theorem table_get {i : Nat} (h : i < tableL.length) : tableL[i].1.check = (tableL[i].2.1, tableL[i].2.2) ∧ tableL[i].1.lean = true ∧ tableL[i].1.cnt ≤ 3000000 := by
  have := List.all_eq_true.1 table_all _ (List.getElem_mem h)
  rw [Bool.and_eq_true, Bool.and_eq_true] at this
  exact ⟨of_decide_eq_true this.1.1, this.1.2, of_decide_eq_true this.2⟩
def xT : TT := tSized 8 (tNum 0) (tOf 5 [tSelf, tSelf])
def yT : TT := tSized 8 (tNum 0) (tOf 5 [tSelf, tSelf, tSelf])
theorem names_facts : xT.Bulk = 1022 ∧ xT.High = 9 ∧ fullT.nodes = 512 ∧ yT.Bulk = 4097 ∧ yT.High = 0 ∧ tSelf.Bulk = 0 ∧ (tOf 5 [tSelf]).High = 0 ∧ (tList 0 0 (tNum 1)).Bulk = 2 ∧ (tList 0 0 highT).High = 1 ∧ (tOf 5 [highT]).sound = false ∧ (tOf 5 [tOf 5 [deepT 11]]).sound = true := by decide +kernel
theorem names_lean : xT.lean = true ∧ fullT.lean = true ∧ yT.lean = true ∧ tSelf.lean = true ∧ (tOf 5 [tSelf]).lean = true ∧ (tList 0 0 (tNum 1)).lean = true ∧ (tList 0 0 highT).lean = true ∧ (tOf 5 [highT]).lean = true ∧ (tOf 5 [tOf 5 [deepT 11]]).lean = true := by decide +kernel
theorem names_cnt : xT.cnt ≤ 3000000 ∧ fullT.cnt ≤ 3000000 ∧ yT.cnt ≤ 3000000 ∧ tSelf.cnt ≤ 3000000 ∧ (tOf 5 [tSelf]).cnt ≤ 3000000 ∧ (tList 0 0 (tNum 1)).cnt ≤ 3000000 ∧ (tList 0 0 highT).cnt ≤ 3000000 ∧ (tOf 5 [highT]).cnt ≤ 3000000 ∧ (tOf 5 [tOf 5 [deepT 11]]).cnt ≤ 3000000 := by decide +kernel
end Go.Proofs.Yteebbffecaeciaa
