/- Texts of this claim laid into one: TTabP. -/
import Derived.Test.YtapofbdkofelkaaM45
import Derived.Test.YtapofbdkofelkaaM48
/- A table of terms, each with two whole numbers. -/
namespace Go.Proofs.Ytapofbdkofelkaa
open Go.RowKit

structure TB where
  t : TT
  A : TA
  b : Int
  h : Int
def TB.cells (p : TB) : Array Value := cellsOf p.t p.A ++ #[.int .i64 p.b, .int .i64 p.h]
def TB.val (p : TB) : Value := .agg p.cells
theorem TB.cells_size (p : TB) : p.cells.size = 17 := by simp [TB.cells, cellsOf_size]
theorem TB.size (p : TB) : p.val.cells.size = 17 := by simp [TB.val, TB.cells, Value.cells, cellsOf_size]
theorem TB.cells_one (p : TB) : p.cells.all (·.oneCell') = true := by rw [TB.cells, Array.all_append, cellsOf_one]; simp [Value.oneCell']
theorem TB.at {w : World} {b o : Nat} {p : TB} (h : w.rangeAt b o p.cells.toList) : TCells w b o p.t p.A ∧ w.cell? ⟨b, o + 15, none⟩ = some (.int .i64 p.b) ∧ w.cell? ⟨b, o + 16, none⟩ = some (.int .i64 p.h) := by
  obtain ⟨h1, h2⟩ := range_split h
  exact ⟨.of_range h1, h2 0 _ rfl, h2 1 _ rfl⟩
theorem wpList_tb {ops : Array Oper} {rest : List Oper} {o : Oper} {a : Act} {w : World} {Q : Exit → Act → World → Prop} {x0 x1 x2 : Operand} (p : TB) (g : o.guard = none) (ho : o.op = .build 59 #[(0, x0), (1, x1), (2, x2)]) (e0 : a.eval x0 = p.t.val p.A) (e1 : a.eval x1 = .int .i64 p.b) (e2 : a.eval x2 = .int .i64 p.h)
    (hK : wpList Try.prog ops Q rest (a.put o.dst p.val) w) : wpList Try.prog ops Q (o :: rest) a w :=
  wpList_built g ho p.cells (by
    have e : (Array.map (fun (x : Nat × Operand) => (x.1, a.eval x.2)) #[(0, x0), (1, x1), (2, x2)]).toList = [(0, p.t.val p.A), (1, .int .i64 p.b), (2, .int .i64 p.h)] := by simp [e0, e1, e2]
    exact (congrArg (Program.built Try.prog 59) e).trans (by kernel_rfl)) hK
theorem wpList_tb6 {ops : Array Oper} {rest : List Oper} {o : Oper} {a : Act} {w : World} {Q : Exit → Act → World → Prop} {x0 x1 x2 x3 x4 x5 : Operand} (p0 p1 p2 p3 p4 p5 : TB) (g : o.guard = none) (ho : o.op = .buildSlice 60 6 #[(0, x0), (1, x1), (2, x2), (3, x3), (4, x4), (5, x5)]) (e0 : a.eval x0 = p0.val) (e1 : a.eval x1 = p1.val) (e2 : a.eval x2 = p2.val) (e3 : a.eval x3 = p3.val) (e4 : a.eval x4 = p4.val) (e5 : a.eval x5 = p5.val)
    (hK : ∀ w2, Below w.heap.size w w2 → w.heap.size < w2.heap.size → (∀ i (h : i < [p0, p1, p2, p3, p4, p5].length), w2.rangeAt w.heap.size (i * 17) [p0, p1, p2, p3, p4, p5][i].cells.toList) → wpList Try.prog ops Q rest (a.put o.dst (.slice (some ⟨w.heap.size, 0, none⟩) 6 6)) w2) : wpList Try.prog ops Q (o :: rest) a w :=
  wpList_table (k := 17) ([p0, p1, p2, p3, p4, p5].map TB.val) g ho Try.underlying60 (by kernel_rfl) (by kernel_rfl) (by simp [e0, e1, e2, e3, e4, e5]) (by rfl) (by simp [TB.size]) (by decide) (by decide) (by decide) (fun w2 h1 h2 _ h4 => hK w2 h1 h2 fun i hi => by
    have := h4 i (by simpa using hi)
    rw [List.getElem_map] at this
    exact this)
theorem run_tb {w : World} {o : Oper} {r : Operand → Value} {x0 x1 x2 : Operand} (p : TB) (ho : o.op = .build 59 #[(0, x0), (1, x1), (2, x2)]) (e0 : r x0 = p.t.val p.A) (e1 : r x1 = .int .i64 p.b) (e2 : r x2 = .int .i64 p.h) : (execOp r o).run Try.prog w = .ok (.value p.val) w :=
  run_built ho p.cells (by
    have e : (Array.map (fun (x : Nat × Operand) => (x.1, r x.2)) #[(0, x0), (1, x1), (2, x2)]).toList = [(0, p.t.val p.A), (1, .int .i64 p.b), (2, .int .i64 p.h)] := by simp [e0, e1, e2]
    exact (congrArg (Program.built Try.prog 59) e).trans (by kernel_rfl))
/-- a row of the table, as a value. -/
def TbOk (t : TT) (b h : Int) (v : Value) (w : World) : Prop := ∃ A, v = TB.val ⟨t, A, b, h⟩ ∧ TOk w t A
theorem TbOk.mono (t : TT) (b h : Int) (v : Value) (w w' : World) : TbOk t b h v w → Below w.heap.size w w' → TbOk t b h v w' := fun ⟨A, e, ok⟩ hb => ⟨A, e, ok.below hb⟩
def TQ.tb (t : TT) (b h : Int) : TQ := .prop (TbOk t b h) (TbOk.mono t b h)
/-- the table, in memory. -/
def TabOk (ts : List (TT × Int × Int)) (v : Value) (w : World) : Prop := ∃ B, v = .slice (some ⟨B, 0, none⟩) ts.length ts.length ∧ ∀ i (h : i < ts.length), ∃ A, w.rangeAt B (i * 17) (TB.cells ⟨ts[i].1, A, ts[i].2.1, ts[i].2.2⟩).toList ∧ TOk w ts[i].1 A
theorem TabOk.mono (ts : List (TT × Int × Int)) (v : Value) (w w' : World) : TabOk ts v w → Below w.heap.size w w' → TabOk ts v w' := fun ⟨B, e, ok⟩ hb => ⟨B, e, fun i h => by obtain ⟨A, h1, h2⟩ := ok i h; exact ⟨A, range_below hb h1, h2.below hb⟩⟩
def TQ.tab (ts : List (TT × Int × Int)) : TQ := .prop (TabOk ts) (TabOk.mono ts)
/-- the table is built. -/
theorem run_tab {w : World} {r : Operand → Value} {n : Nat} {parts : Array (Nat × Operand)} (ts : List (TT × Int × Int)) (As : List TA) (hn : n = ts.length) (hA : As.length = ts.length) (h0 : 0 < n) (hs : n ≤ 1000)
    (hp : (parts.map fun (i, x) => (i, r x)).toList = (((ts.zip As).map fun x => TB.val ⟨x.1.1, x.2, x.1.2.1, x.1.2.2⟩).zipIdx 0).map fun x => (x.2, x.1)) (hok : ∀ x ∈ ts.zip As, TOk w x.1.1 x.2) :
    ∃ w2, (∀ o : Oper, o.op = .buildSlice 60 n parts → (execOp r o).run Try.prog w = .ok (.value (.slice (some ⟨w.heap.size, 0, none⟩) n n)) w2) ∧ Below w.heap.size w w2 ∧ TabOk ts (.slice (some ⟨w.heap.size, 0, none⟩) n n) w2 := by
  have hk : ∀ v ∈ ((ts.zip As).map fun x => TB.val ⟨x.1.1, x.2, x.1.2.1, x.1.2.2⟩), v.cells.size = 17 := by
    intro v hv
    obtain ⟨x, _, rfl⟩ := List.mem_map.1 hv
    exact TB.size _
  have hlz : (ts.zip As).length = ts.length := by rw [List.length_zip, hA, Nat.min_self]
  obtain ⟨w2, hw, hb, _, _, hc⟩ := table_new w 59 17 _ (by decide) hk
  refine ⟨w2, fun o ho => run_table (k := 17) _ ho Try.underlying60 (by kernel_rfl) (by kernel_rfl) hp (by rw [List.length_map, hlz, hn]) hk (by decide) h0 (by omega) hw, hb, w.heap.size, by rw [hn], fun i h => ?_⟩
  have hi : i < (ts.zip As).length := by omega
  have := hc i (by rw [List.length_map]; exact hi)
  rw [List.getElem_map, List.getElem_zip] at this
  exact ⟨As[i], this, (hok _ (by have := List.getElem_mem hi; rwa [List.getElem_zip] at this)).below hb⟩
/-- a Filter's term. -/
def filterA (qa : Option Addr) (qc : Nat) (pa : Option Addr) (pc : Nat) (aa : Option Addr) (ac : Nat) : TA := ⟨none, 0, none, 0, none, 0, qa, qc, pa, pc, aa, ac⟩
def predV (p : PT) (qa : Option Addr) (qc : Nat) (pa : Option Addr) (pc : Nat) : Value := .agg #[.int .u8 p.kind, .int .u8 p.val.kind, .int .i64 p.val.num, .slice qa p.val.items.length qc, .int .i64 p.num, .slice pa p.args.length pc]
theorem PIn.vals {w : World} {p : PT} {x : Value} (h : PIn w p x) : ∃ qa qc pa pc, x = predV p qa qc pa pc := by
  obtain ⟨k, v, n, l⟩ := p
  obtain ⟨va, vc, a, cap, _, _, e, _⟩ := h.open
  exact ⟨va, vc, a, cap, e⟩
theorem wpList_filter {ops : Array Oper} {rest : List Oper} {o : Oper} {a : Act} {w : World} {Q : Exit → Act → World → Prop} {p : PT} {qa pa b : Option Addr} {qc pc len cap : Nat} {l : List TT} {x1 x2 : Operand} (g : o.guard = none) (ho : o.op = .build 31 #[(0, .const (.int .u8 9)), (6, x1), (7, x2)]) (e1 : a.eval x1 = predV p qa qc pa pc) (e2 : a.eval x2 = .slice b len cap) (hl : len = l.length)
    (hK : wpList Try.prog ops Q rest (a.put o.dst (TT.val (.mk 9 vNone [] 0 0 [] p l) (filterA qa qc pa pc b cap))) w) : wpList Try.prog ops Q (o :: rest) a w :=
  wpList_builtT g ho _ _ (by
    have e : (Array.map (fun (x : Nat × Operand) => (x.1, a.eval x.2)) #[(0, .const (.int .u8 9)), (6, x1), (7, x2)]).toList = [(0, .int .u8 9), (6, predV p qa qc pa pc), (7, .slice b len cap)] := by
      have e0 : a.eval (.const (.int .u8 9)) = .int .u8 9 := rfl
      simp [e0, e1, e2]
    subst hl
    exact (congrArg (Program.built Try.prog 31) e).trans (by kernel_rfl)) hK
theorem run_filterT {w : World} {o : Oper} {r : Operand → Value} {p : PT} {qa pa b : Option Addr} {qc pc len cap : Nat} {l : List TT} {x0 x1 x2 : Operand} (ho : o.op = .build 31 #[(0, x0), (6, x1), (7, x2)]) (e0 : r x0 = .int .u8 9) (e1 : r x1 = predV p qa qc pa pc) (e2 : r x2 = .slice b len cap) (hl : len = l.length) :
    (execOp r o).run Try.prog w = .ok (.value (TT.val (.mk 9 vNone [] 0 0 [] p l) (filterA qa qc pa pc b cap))) w :=
  run_built ho _ (by
    have e : (Array.map (fun (x : Nat × Operand) => (x.1, r x.2)) #[(0, x0), (6, x1), (7, x2)]).toList = [(0, .int .u8 9), (6, predV p qa qc pa pc), (7, .slice b len cap)] := by simp [e0, e1, e2]
    subst hl
    exact (congrArg (Program.built Try.prog 31) e).trans (by kernel_rfl))
theorem tok_filter {w : World} {p : PT} {l : List TT} {qa pa aa : Option Addr} {qc pc ac : Nat} (hl : l.length ≤ 651562446070) (hp : PIn w p (predV p qa qc pa pc)) (hr : TRow w l aa) : TOk w (.mk 9 vNone [] 0 0 [] p l) (filterA qa qc pa pc aa ac) :=
  TOk.of ⟨⟨hl, by simp [TT.vs], by simp [TT.ws]⟩, vin_plain w 0 0, by rw [TT.vs, VRow]; trivial, by rw [TT.ws]; exact wrow_nil, hp, hr⟩
theorem small_filter {p : PT} {l : List TT} (hc : TT.cnts l ≤ 2999999) (hl : TT.leans l = true) (h1 : p.cnt ≤ 1000000) (h2 : p.fat ≤ 100000) : TT.cnt (.mk 9 vNone [] 0 0 [] p l) ≤ 3000000 ∧ TT.lean (.mk 9 vNone [] 0 0 [] p l) = true := by
  refine ⟨by rw [TT.cnt]; omega, ?_⟩
  rw [TT.lean, hl]
  simp [h1, h2]
  decide
/-- what TermParts asks of a row. -/
def PartRow (to : Int) (x : TT × Int × Int) : Prop := ∃ b h : Nat, x.2.1 = b ∧ x.2.2 = h ∧ b ≤ 1000000 ∧ h ≤ 10000 ∧ PartOk x.1 b (if x.1.kind = 6 ∧ to = 0 then 1 else h) ∧ x.1.cnt ≤ 3000000 ∧ x.1.lean = true
theorem part_row {t : TT} {b h : Nat} {to : Int} (hk : t.kind ≠ 6) (hp : PartOk t b h) (hb : b ≤ 1000000) (hh : h ≤ 10000) (hs : t.cnt ≤ 3000000 ∧ t.lean = true) {x y : Int} (hx : x = b) (hy : y = h) : PartRow to (t, x, y) :=
  ⟨b, h, hx, hy, hb, hh, by rw [if_neg (fun e => hk e.1)]; exact hp, hs⟩
theorem parts_rows {l : List TT} {ws : List Int} {p : PT} {t0 : TT} {n fr to : Int} {sb mh bu hh mb : Nat} (h1 : sb = sumBulk l) (h2 : mh = maxHigh l) (h3 : ∀ t ∈ l, t.Bulk ≠ 0) (h4 : t0.Bulk = bu) (h5 : t0.High = hh) (h6 : bu ≠ 0) (h7 : mb = (max 1 to).toNat * bu) (hto : to ≤ 16)
    (hlen : l.length ≤ 20) (hc : TT.cnts l ≤ 2999999) (hl : TT.leans l = true) (hc0 : t0.cnt ≤ 2999999) (hl0 : t0.lean = true) (hw : ws.length ≤ 100000) (hp1 : p.cnt ≤ 1000000) (hp2 : p.fat ≤ 100000) :
    ∀ x ∈ [(tOf 5 l, 1 + (sb : Int), 1 + (mh : Int)), (tOf 7 l, 1 + (sb : Int), 1 + (mh : Int)), (tPick n l, 1 + (sb : Int), 1 + (mh : Int)), (tFreq ws l, 1 + (sb : Int), (mh : Int)), (tList fr to t0, 1 + (mb : Int), 1 + (hh : Int)), (tFilter p t0, 1 + (bu : Int), (hh : Int))], PartRow to x := by
  have b1 := sumBulk_le l
  have b2 := maxHigh_le l
  have b3 := TT.Bulk_le t0
  have b4 := TT.High_le t0
  have b5 : l.length * 4097 ≤ 20 * 4097 := Nat.mul_le_mul_right _ hlen
  have b6 : mb ≤ 16 * 4097 := by rw [h7]; exact Nat.mul_le_mul (by omega) (by omega)
  have c1 : TT.cnts [t0] ≤ 2999999 := by rw [TT.cnts, TT.cnts]; omega
  have c2 : TT.leans [t0] = true := by rw [TT.leans, TT.leans, hl0]; rfl
  have e0 : t0.Bulk ≠ 0 := by rw [h4]; exact h6
  intro x hx
  simp only [List.mem_cons, List.not_mem_nil, or_false] at hx
  rcases hx with rfl | rfl | rfl | rfl | rfl | rfl
  · exact part_row (b := 1 + sb) (h := 1 + mh) (by simp [TT.kind]) (by rw [h1, h2]; exact part_up (by decide) h3) (by omega) (by omega) (small_mk hc hl (by simp)) (by simp) (by simp)
  · exact part_row (b := 1 + sb) (h := 1 + mh) (by simp [TT.kind]) (by rw [h1, h2]; exact part_up (by decide) h3) (by omega) (by omega) (small_mk hc hl (by simp)) (by simp) (by simp)
  · exact part_row (b := 1 + sb) (h := 1 + mh) (by simp [TT.kind]) (by rw [h1, h2]; exact part_up (by decide) h3) (by omega) (by omega) (small_mk hc hl (by simp)) (by simp) (by simp)
  · exact part_row (b := 1 + sb) (h := mh) (by simp [TT.kind]) (by rw [h1, h2]; exact part_flat (by decide) h3) (by omega) (by omega) (small_mk hc hl hw) (by simp) (by simp)
  · refine ⟨1 + mb, 1 + hh, by simp, by simp, by omega, by omega, ?_, small_mk c1 c2 (by simp)⟩
    have := part_list (v := vNone) (vs := []) (lo := fr) (ws := []) (p := pNone) (t := t0) e0 (to := to)
    rw [h4, h5, ← h7] at this
    have e : (TT.kind (tList fr to t0) = 6 ∧ to = 0) ↔ to = 0 := by simp [tList, TT.kind]
    simp only [e]
    exact this
  · have := part_filter (p := p) e0
    rw [h4, h5] at this
    exact part_row (b := 1 + bu) (h := hh) (by simp [tFilter, TT.kind]) this (by omega) (by omega) (small_filter c1 c2 hp1 hp2) (by simp) (by simp)
/-- a box that holds a predicate. -/
def PBoxV (w : World) (B : Nat) (p : PT) (qa : Option Addr) (qc : Nat) (pa : Option Addr) (pc : Nat) : Prop := (w.cell? ⟨B, 0, none⟩ = some (.int .u8 p.kind) ∧ w.cell? ⟨B, 1, none⟩ = some (.int .u8 p.val.kind) ∧ w.cell? ⟨B, 2, none⟩ = some (.int .i64 p.val.num) ∧ w.cell? ⟨B, 3, none⟩ = some (.slice qa p.val.items.length qc) ∧
  w.cell? ⟨B, 4, none⟩ = some (.int .i64 p.num) ∧ w.cell? ⟨B, 5, none⟩ = some (.slice pa p.args.length pc)) ∧ PIn w p (predV p qa qc pa pc)
theorem PBoxV.below {w w' : World} {B : Nat} {p : PT} {qa pa : Option Addr} {qc pc : Nat} (h : PBoxV w B p qa qc pa pc) (hb : Below w.heap.size w w') : PBoxV w' B p qa qc pa pc :=
  ⟨⟨cell_stays hb h.1.1, cell_stays hb h.1.2.1, cell_stays hb h.1.2.2.1, cell_stays hb h.1.2.2.2.1, cell_stays hb h.1.2.2.2.2.1, cell_stays hb h.1.2.2.2.2.2⟩, h.2.below hb⟩
theorem pbox_new {w : World} {p : PT} {qa pa : Option Addr} {qc pc : Nat} (hp : PIn w p (predV p qa qc pa pc)) : ∃ w2, w.alloc (.cells #[.int .u8 p.kind, .int .u8 p.val.kind, .int .i64 p.val.num, .slice qa p.val.items.length qc, .int .i64 p.num, .slice pa p.args.length pc] 28) = w2 ∧ Below w.heap.size w w2 ∧ w.heap.size < w2.heap.size ∧ PBoxV w2 w.heap.size p qa qc pa pc := by
  obtain ⟨w2, h, m, s, c0, c1, c2, c3, c4, c5⟩ := box6 w (.int .u8 p.kind) (.int .u8 p.val.kind) (.int .i64 p.val.num) (.slice qa p.val.items.length qc) (.int .i64 p.num) (.slice pa p.args.length pc) 28
  exact ⟨w2, h, m, s, ⟨c0, c1, c2, c3, c4, c5⟩, hp.below m⟩
theorem PBoxV.row {w : World} {B : Nat} {p : PT} {qa pa : Option Addr} {qc pc : Nat} (h : PBoxV w B p qa qc pa pc) : PRow w [p] (some ⟨B, 0, none⟩) := prow_cons h.1.1 h.1.2.1 h.1.2.2.1 h.1.2.2.2.1 h.1.2.2.2.2.1 h.1.2.2.2.2.2 h.2 prow_nil
end Go.Proofs.Ytapofbdkofelkaa
