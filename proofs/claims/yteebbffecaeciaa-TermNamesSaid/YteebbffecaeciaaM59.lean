/- Texts of this claim laid into one: TNamesD. -/
import Derived.Test.YteebbffecaeciaaM54
/- TermNames: a value of a list in a list, a term of a value, a table of terms with a place and an error. -/
namespace Go.Proofs.Yteebbffecaeciaa
open Go.RowKit

theorem frow_oneT {w : World} {lo b : Nat} {t : VT} {v0 v1 v2 : Value} (h0 : w.cell? ⟨b, 0, none⟩ = some v0) (h1 : w.cell? ⟨b, 1, none⟩ = some v1) (h2 : w.cell? ⟨b, 2, none⟩ = some v2) (hf : ∀ j, w.frozen? ⟨b, j, none⟩ = false)
    (ht : FIn w lo t (.agg #[v0, v1, v2])) : FRow w lo [t] b 0 := by
  rw [FRow]
  exact ⟨⟨v0, v1, v2, h0, by simpa using h1, by simpa using h2, hf _, hf _, hf _, ht⟩, by rw [FRow]; trivial⟩
/-- one list more around it. -/
theorem far_step {wr wB : World} {X i : Nat} {kk : Int} {a : Option Addr} {len cap : Nat} (hX : X < wr.heap.size) (hf : FIn wr (X + 1) (farV i) (.agg #[.int .u8 kk, .int .i64 0, .slice a len cap]))
    (mB : Below wr.heap.size wr wB) (y0 : wB.cell? ⟨wr.heap.size, 0, none⟩ = some (.int .u8 kk)) (y1 : wB.cell? ⟨wr.heap.size, 1, none⟩ = some (.int .i64 0)) (y2 : wB.cell? ⟨wr.heap.size, 2, none⟩ = some (.slice a len cap))
    (fB : ∀ o, wB.frozen? ⟨wr.heap.size, o, none⟩ = false) (u0 u1 u2 : Value) :
    FIn (((wB.setCell ⟨X, 0, none⟩ u0).setCell ⟨X, 1, none⟩ u1).setCell ⟨X, 2, none⟩ u2) (X + 1) (farV (i + 1)) (.agg #[.int .u8 4, .int .i64 0, .slice (some ⟨wr.heap.size, 0, none⟩) 1 1]) := by
  have h : FIn wB (X + 1) (farV (i + 1)) (.agg #[.int .u8 4, .int .i64 0, .slice (some ⟨wr.heap.size, 0, none⟩) 1 1]) := by
    rw [farV, FIn]
    exact ⟨_, 1, by simp, rfl, .inr ⟨wr.heap.size, rfl, by omega, frow_oneT y0 y1 y2 fB (hf.below mB)⟩⟩
  exact ((h.set (p := ⟨X, 0, none⟩) (Nat.lt_succ_self X) _).set (p := ⟨X, 1, none⟩) (Nat.lt_succ_self X) _).set (p := ⟨X, 2, none⟩) (Nat.lt_succ_self X) _
def constA (a : Option Addr) (cap : Nat) : TA := ⟨a, cap, none, 0, none, 0, none, 0, none, 0, none, 0⟩
theorem wpList_constT {ops : Array Oper} {rest : List Oper} {o : Oper} {a : Act} {w : World} {Q : Exit → Act → World → Prop} {k n : Int} {its : List VT} {b : Option Addr} {len cap : Nat} {x1 : Operand} (g : o.guard = none) (ho : o.op = .build 47 #[(0, .const (.int .u8 1)), (1, x1)]) (e1 : a.eval x1 = .agg #[.int .u8 k, .int .i64 n, .slice b len cap]) (hl : len = its.length)
    (hK : wpList Try.prog ops Q rest (a.put o.dst (TT.val (.mk 1 (.mk k n its) [] 0 0 [] pNone []) (constA b cap))) w) : wpList Try.prog ops Q (o :: rest) a w :=
  wpList_builtT g ho _ _ (by
    have e : (Array.map (fun (x : Nat × Operand) => (x.1, a.eval x.2)) #[(0, .const (.int .u8 1)), (1, x1)]).toList = [(0, .int .u8 1), (1, .agg #[.int .u8 k, .int .i64 n, .slice b len cap])] := by
      have e0 : a.eval (.const (.int .u8 1)) = .int .u8 1 := rfl
      simp [e0, e1]
    subst hl
    exact (congrArg (Program.built Try.prog 47) e).trans (by kernel_rfl)) hK
theorem tok_const {w : World} {k n : Int} {its : List VT} {b : Option Addr} {cap : Nat} (hv : VIn w (.mk k n its) (.agg #[.int .u8 k, .int .i64 n, .slice b its.length cap])) : TOk w (.mk 1 (.mk k n its) [] 0 0 [] pNone []) (constA b cap) :=
  TOk.of ⟨⟨by simp [TT.args], by simp [TT.vs], by simp [TT.ws]⟩, hv, by rw [TT.vs, VRow]; trivial, wrow_nil, pin_none w, trow_nil⟩
/-- a row of the table of places and errors. -/
structure PB where
  t : TT
  A : TA
  p : Int
  e : Int
def PB.cells (x : PB) : Array Value := cellsOf x.t x.A ++ #[.int .i64 x.p, .int .i64 x.e]
def PB.val (x : PB) : Value := .agg x.cells
theorem PB.cells_size (x : PB) : x.cells.size = 17 := by simp [PB.cells, cellsOf_size]
theorem PB.size (x : PB) : x.val.cells.size = 17 := by simp [PB.val, PB.cells, Value.cells, cellsOf_size]
theorem PB.cells_one (x : PB) : x.cells.all (·.oneCell') = true := by rw [PB.cells, Array.all_append, cellsOf_one]; simp [Value.oneCell']
theorem PB.at {w : World} {b o : Nat} {x : PB} (h : w.rangeAt b o x.cells.toList) : TCells w b o x.t x.A ∧ w.cell? ⟨b, o + 15, none⟩ = some (.int .i64 x.p) ∧ w.cell? ⟨b, o + 16, none⟩ = some (.int .i64 x.e) := by
  obtain ⟨h1, h2⟩ := range_split h
  exact ⟨.of_range h1, h2 0 _ rfl, h2 1 _ rfl⟩
theorem run_pb {w : World} {o : Oper} {r : Operand → Value} {x0 x1 x2 : Operand} (x : PB) (ho : o.op = .build 69 #[(0, x0), (1, x1), (2, x2)]) (e0 : r x0 = x.t.val x.A) (e1 : r x1 = .int .i64 x.p) (e2 : r x2 = .int .i64 x.e) : (execOp r o).run Try.prog w = .ok (.value x.val) w :=
  run_built ho x.cells (by
    have e : (Array.map (fun (y : Nat × Operand) => (y.1, r y.2)) #[(0, x0), (1, x1), (2, x2)]).toList = [(0, x.t.val x.A), (1, .int .i64 x.p), (2, .int .i64 x.e)] := by simp [e0, e1, e2]
    exact (congrArg (Program.built Try.prog 69) e).trans (by kernel_rfl))
def PbOk (t : TT) (p e : Int) (v : Value) (w : World) : Prop := ∃ A, v = PB.val ⟨t, A, p, e⟩ ∧ TOk w t A
theorem PbOk.mono (t : TT) (p e : Int) (v : Value) (w w' : World) : PbOk t p e v w → Below w.heap.size w w' → PbOk t p e v w' := fun ⟨A, h, ok⟩ hb => ⟨A, h, ok.below hb⟩
def PTabOk (ts : List (TT × Int × Int)) (v : Value) (w : World) : Prop := ∃ B, v = .slice (some ⟨B, 0, none⟩) ts.length ts.length ∧ ∀ i (h : i < ts.length), ∃ A, w.rangeAt B (i * 17) (PB.cells ⟨ts[i].1, A, ts[i].2.1, ts[i].2.2⟩).toList ∧ TOk w ts[i].1 A
theorem PTabOk.mono (ts : List (TT × Int × Int)) (v : Value) (w w' : World) : PTabOk ts v w → Below w.heap.size w w' → PTabOk ts v w' := fun ⟨B, e, ok⟩ hb => ⟨B, e, fun i h => by obtain ⟨A, h1, h2⟩ := ok i h; exact ⟨A, range_below hb h1, h2.below hb⟩⟩
theorem run_ptab {w : World} {r : Operand → Value} {n : Nat} {parts : Array (Nat × Operand)} (ts : List (TT × Int × Int)) (As : List TA) (hn : n = ts.length) (hA : As.length = ts.length) (h0 : 0 < n) (hs : n ≤ 1000)
    (hp : (parts.map fun (i, x) => (i, r x)).toList = (((ts.zip As).map fun x => PB.val ⟨x.1.1, x.2, x.1.2.1, x.1.2.2⟩).zipIdx 0).map fun x => (x.2, x.1)) (hok : ∀ x ∈ ts.zip As, TOk w x.1.1 x.2) :
    ∃ w2, (∀ o : Oper, o.op = .buildSlice 71 n parts → (execOp r o).run Try.prog w = .ok (.value (.slice (some ⟨w.heap.size, 0, none⟩) n n)) w2) ∧ Below w.heap.size w w2 ∧ PTabOk ts (.slice (some ⟨w.heap.size, 0, none⟩) n n) w2 := by
  have hk : ∀ v ∈ ((ts.zip As).map fun x => PB.val ⟨x.1.1, x.2, x.1.2.1, x.1.2.2⟩), v.cells.size = 17 := by
    intro v hv
    obtain ⟨x, _, rfl⟩ := List.mem_map.1 hv
    exact PB.size _
  have hlz : (ts.zip As).length = ts.length := by rw [List.length_zip, hA, Nat.min_self]
  obtain ⟨w2, hw, hb, _, _, hc⟩ := table_new w 69 17 _ (by decide) hk
  refine ⟨w2, fun o ho => run_table (k := 17) _ ho Try.underlying71 (by kernel_rfl) (by kernel_rfl) hp (by rw [List.length_map, hlz, hn]) hk (by decide) h0 (by omega) hw, hb, w.heap.size, by rw [hn], fun i h => ?_⟩
  have hi : i < (ts.zip As).length := by omega
  have := hc i (by rw [List.length_map]; exact hi)
  rw [List.getElem_map, List.getElem_zip] at this
  exact ⟨As[i], this, (hok _ (by have := List.getElem_mem hi; rwa [List.getElem_zip] at this)).below hb⟩
/-- the table, over its four great terms. -/
def tableG (d f m h : TT) : List (TT × Int × Int) := [
  (tSelf, 0, 10), (d, 0, 0), (tOf 5 [d], 12, 9), (tSized 1 (tNum 0) (tOf 5 [tSelf, tNum 1]), 0, 0), (tSized 1 tSelf (tNum 1), 1, 10),
  (tSized 1 (tNum 0) (tSized 1 tSelf tSelf), 0, 0), (tOf 5 [tNum 1, tList 0 1 tSelf], 3, 10), (tOf 5 [tNum 1, tOf 5 [tNum 2], tSpan 2 1], 4, 1), (f, 0, 0), (m, 0, 5),
  (tList 16 16 (tList 16 16 (tList 16 16 (tNum 0))), 0, 5), (tList 16 16 (tList 16 16 (tList 0 14 (tNum 0))), 0, 0), (h, 0, 0), (tOf 5 [h], 0, 9), (tList 0 0 h, 0, 0),
  (tSized 8 (tNum 0) (tOf 5 [tSelf, tSelf, tSelf]), 0, 5), (tSized 8 (tNum 0) (tOf 5 [tSelf, tSelf]), 0, 0), (tSized 0 (tNum 0) (tOf 5 [tSelf, tSelf, tSelf]), 0, 0), (tOf 5 [h, tSpan 2 1], 2, 1)]
theorem tableG_eq : tableG (deepT 11) fullT moreT highT = tableL := rfl
theorem tableG_length (d f m h : TT) : (tableG d f m h).length = 19 := rfl
def TabFact (ts : List (TT × Int × Int)) : Prop := ∀ i (h : i < ts.length), ts[i].1.check = (ts[i].2.1, ts[i].2.2) ∧ ts[i].1.lean = true ∧ ts[i].1.cnt ≤ 3000000
theorem tabFact_all : TabFact (tableG (deepT 11) fullT moreT highT) := by rw [tableG_eq]; exact fun i h => table_get h
/-- what is asked behind the table. -/
structure NamesG (d f h : TT) : Prop where
  x1 : xT.Bulk = 1022
  x2 : xT.High = 9
  f1 : f.nodes = 512
  y1 : yT.Bulk = 4097
  y2 : yT.High = 0
  s1 : tSelf.Bulk = 0
  s2 : (tOf 5 [tSelf]).High = 0
  l1 : (tList 0 0 (tNum 1)).Bulk = 2
  h1 : (tList 0 0 h).High = 1
  h2 : (tOf 5 [h]).sound = false
  d1 : (tOf 5 [tOf 5 [d]]).sound = true
  lx : xT.lean = true ∧ xT.cnt ≤ 3000000
  lf : f.lean = true ∧ f.cnt ≤ 3000000
  ly : yT.lean = true ∧ yT.cnt ≤ 3000000
  ls : tSelf.lean = true ∧ tSelf.cnt ≤ 3000000
  ls2 : (tOf 5 [tSelf]).lean = true ∧ (tOf 5 [tSelf]).cnt ≤ 3000000
  ll : (tList 0 0 (tNum 1)).lean = true ∧ (tList 0 0 (tNum 1)).cnt ≤ 3000000
  lh : (tList 0 0 h).lean = true ∧ (tList 0 0 h).cnt ≤ 3000000
  lh2 : (tOf 5 [h]).lean = true ∧ (tOf 5 [h]).cnt ≤ 3000000
  ld : (tOf 5 [tOf 5 [d]]).lean = true ∧ (tOf 5 [tOf 5 [d]]).cnt ≤ 3000000
theorem namesG_all : NamesG (deepT 11) fullT highT := by
  obtain ⟨a1, a2, a3, a4, a5, a6, a7, a8, a9, a10, a11⟩ := names_facts
  obtain ⟨b1, b2, b3, b4, b5, b6, b7, b8, b9⟩ := names_lean
  obtain ⟨c1, c2, c3, c4, c5, c6, c7, c8, c9⟩ := names_cnt
  exact ⟨a1, a2, a3, a4, a5, a6, a7, a8, a9, a10, a11, ⟨b1, c1⟩, ⟨b2, c2⟩, ⟨b3, c3⟩, ⟨b4, c4⟩, ⟨b5, c5⟩, ⟨b6, c6⟩, ⟨b7, c7⟩, ⟨b8, c8⟩, ⟨b9, c9⟩⟩
theorem trow_ofN {w : World} {b : Nat} {L : List (TT × TA)} (hc : ∀ i (h : i < L.length), TCells w b (i * 15) L[i].1 L[i].2) (hk : ∀ p ∈ L, TOk w p.1 p.2) : TRow w (L.map (·.1)) (some ⟨b, 0, none⟩) := by
  refine TRow.of b _ 0 fun i hi => ?_
  have hi' : i < L.length := by simpa using hi
  rw [List.getElem_map, Nat.zero_add]
  exact ⟨L[i].2, hc i hi', hk _ (List.getElem_mem hi')⟩
end Go.Proofs.Yteebbffecaeciaa
