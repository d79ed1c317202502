/- Texts of this claim laid into one: TRefG, VTable, VTwo, TRowsM, TTabM, TTwo, UStep, UWhole. -/
import Derived.Test.YteebbffecaeciaaM36
import Derived.Test.YteebbffecaeciaaM28
import Derived.Test.YteebbffecaeciaaM08
import Derived.Test.YteebbffecaeciaaM01
import Derived.Deep.MidRow
import Derived.Great.BuildSlice
import Derived.OrdersHeld
import Derived.Test.YteebbffecaeciaaM13
import Derived.Test.YteebbffecaeciaaM29
import Derived.Test.YteebbffecaeciaaM12
import Derived.Test.YteebbffecaeciaaM25
/- The document's Step. -/
namespace Go.Proofs.Yteebbffecaeciaa
open Go.RowKit

/-- Lo is written. -/
theorem lo_set {w : World} {bo : Nat} {m : Int} {t0 : TT} {A0 : TA} (h0 : TCells w bo 0 t0 A0) : ∃ w7, w.setCell ⟨bo, 5, none⟩ (.int .i64 m) = w7 ∧ (∀ k, k ≠ bo → w7.heap[k]? = w.heap[k]?) ∧ w7.heap.size = w.heap.size ∧ (∀ lo a, lo ≤ bo → Below lo a w → Below lo a w7) ∧
    (∀ (t : TT), t.kind = t0.kind → t.v = t0.v → t.vs = t0.vs → t.lo = m → t.hi = t0.hi → t.ws = t0.ws → t.p = t0.p → t.args = t0.args → TCells w7 bo 0 t A0) := by
  refine ⟨setL bo [(5, .int .i64 m)] w, rfl, fun b hb => setL_block _ hb _ _, setL_size _ _ _, fun lo a h h' => setL_below _ h _ _ h', ?_⟩
  intro t e1 e2 e3 e4 e5 e6 e7 e8
  obtain ⟨c0, c1, c2, c3, c4, c5, c6, c7, c8, c9, c10, c11, c12, c13, c14⟩ := h0
  have ho : ∀ o v, o ≠ 5 → w.cell? ⟨bo, o, none⟩ = some v → (setL bo [(5, .int .i64 m)] w).cell? ⟨bo, o, none⟩ = some v := fun o v hne hv => by rw [setL_out _ _ _ _ _ (fun _ => by simpa using hne)]; exact hv
  have h5 : (setL bo [(5, .int .i64 m)] w).cell? ⟨bo, 5, none⟩ = some (.int .i64 m) := setL_in _ _ _ (by simp) (fun q hq => by simp only [List.mem_singleton] at hq; subst hq; exact ⟨_, c5⟩) (5, _) (by simp)
  rw [← e1] at c0; rw [← e2] at c1 c2 c3; rw [← e3] at c4; rw [← e5] at c6; rw [← e6] at c7; rw [← e7] at c8 c9 c10 c11 c12 c13; rw [← e8] at c14
  exact ⟨ho _ _ (by decide) c0, ho _ _ (by decide) c1, ho _ _ (by decide) c2, ho _ _ (by decide) c3, ho _ _ (by decide) c4, by rw [e4]; exact h5, ho _ _ (by decide) c6, ho _ _ (by decide) c7, ho _ _ (by decide) c8, ho _ _ (by decide) c9, ho _ _ (by decide) c10, ho _ _ (by decide) c11, ho _ _ (by decide) c12, ho _ _ (by decide) c13, ho _ _ (by decide) c14⟩
theorem TOkA.lo {S : Nat → Prop} {w : World} {k lo lo' hi : Int} {v : VT} {vs : List VT} {ws : List Int} {p : PT} {l : List TT} {A : TA} (h : TOkA S w (.mk k v vs lo hi ws p l) A) : TOkA S w (.mk k v vs lo' hi ws p l) A := fun W ha => TOk.of (h W ha).parts
end Go.Proofs.Yteebbffecaeciaa
/- Tables: rows of several cells each, in one block of their own; a box of several cells. -/
namespace Go.Proofs.Yteebbffecaeciaa
open Go.RowKit

/-- the cells of all rows, one behind another. -/
def flatV (vs : List Value) : List Value := vs.flatMap fun v => v.cells.toList
theorem range_below {w w' : World} {b o : Nat} {cs : List Value} (hb : Below w.heap.size w w') (h : w.rangeAt b o cs) : w'.rangeAt b o cs := fun j v hv => cell_stays hb (h j v hv)
theorem flatV_length {k : Nat} : ∀ (vs : List Value), (∀ v ∈ vs, v.cells.size = k) → (flatV vs).length = vs.length * k
  | [], _ => by simp [flatV]
  | v :: vs, h => by
    have ih := flatV_length vs (fun v hv => h v (List.mem_cons_of_mem _ hv))
    have h0 := h v List.mem_cons_self
    simp only [flatV, List.flatMap_cons, List.length_append, List.length_cons, Array.length_toList] at ih ⊢
    rw [ih, h0, Nat.add_mul]; omega
theorem table_new (w : World) (e k : Nat) (vs : List Value) (h0 : 0 < k) (hk : ∀ v ∈ vs, v.cells.size = k) : ∃ w2, w.alloc (.cells (flatV vs).toArray e) = w2 ∧ Below w.heap.size w w2 ∧ w.heap.size < w2.heap.size ∧ RowAt w2 e w.heap.size (vs.length * k) ∧
    ∀ i (hi : i < vs.length), w2.rangeAt w.heap.size (i * k) vs[i].cells.toList := by
  refine ⟨_, rfl, Below.al _, by simp, ?_, fun i hi j v hv => ?_⟩
  · have h := RowAt.new w (flatV vs).toArray e
    have e1 : (flatV vs).toArray.size = vs.length * k := by rw [List.size_toArray, flatV_length vs hk]
    rw [e1] at h
    exact h
  · have hj : j < k := by
      have := (List.getElem?_eq_some_iff.1 hv).1
      rw [Array.length_toList, hk _ (List.getElem_mem hi)] at this
      exact this
    have hg := Great.flat_get h0 vs hk (i * k + j)
    have e1 : (i * k + j) / k = i := by rw [Nat.add_comm, Nat.add_mul_div_right _ _ h0, Nat.div_eq_of_lt hj]; omega
    have e2 : (i * k + j) % k = j := by rw [Nat.add_comm, Nat.add_mul_mod_self_right]; exact Nat.mod_eq_of_lt hj
    rw [e1, e2, List.getElem?_eq_getElem hi] at hg
    have hc : (w.alloc (.cells (flatV vs).toArray e)).cell? ⟨w.heap.size, i * k + j, none⟩ = (flatV vs)[i * k + j]? := by go_simp
    rw [hc]
    show (List.flatMap _ vs)[_]? = _
    rw [hg]
    simpa using hv
section
variable {P : Program} {w : World}
theorem run_table {o : Oper} {r : Operand → Value} {t e n k : Nat} {parts : Array (Nat × Operand)} (vs : List Value) (ho : o.op = .buildSlice t n parts) (hu : P.underlying t = some (.slice e)) (hi : (P.info? e).map (·.size) = some k) (hz : ((P.info? e).bind (·.zero)).isSome = true)
    (hp : (parts.map fun (i, x) => (i, r x)).toList = (vs.zipIdx 0).map fun x => (x.2, x.1)) (hn : n = vs.length) (hk : ∀ v ∈ vs, v.cells.size = k) (h0 : 0 < k) (hn0 : 0 < n) (hs : n * k ≤ 16777216) {w2 : World} (hw : w.alloc (.cells (flatV vs).toArray e) = w2) :
    (execOp r o).run P w = .ok (.value (.slice (some ⟨w.heap.size, 0, none⟩) n n)) w2 := by
  cases hie : P.info? e with
  | none => simp [hie] at hi
  | some ie =>
    simp only [hie, Option.map_some, Option.some.injEq, Option.bind_some] at hi hz
    obtain ⟨z, hzz⟩ := Option.isSome_iff_exists.1 hz
    have hpos : 0 < n * k := Nat.mul_pos hn0 h0
    have h := run_buildSlice (P := P) w t e n (parts.map fun (i, x) => (i, r x)) (flatV vs).toArray ie z hu hie hzz (by rw [hi]; omega) (by rw [hi]; omega) (by
      rw [hp, hi]
      exact Great.fill_whole h0 vs _ hk (by simp [hn]))
    obtain ⟨od, oo, ot, op, oa, og⟩ := o
    simp only at ho
    subst ho
    rw [hw] at h
    unfold execOp
    simp only [Sem.run_bind, h, Result.andThen_ok]
    rfl
theorem run_loadM {b q : Nat} {T : TypeId} {cells : Array Value} {d : TypeDesc} (hc : w.rangeAt b q cells.toList) {o : Oper} {r : Operand → Value} {po : Operand} (ho : o.op = .load T po) (e1 : r po = .pointer (some ⟨b, q, none⟩)) (hu : P.underlying T = some d) (hd : d.isRow = true) (hi : (P.info? T).map (·.size) = some cells.size) :
    (execOp r o).run P w = .ok (.value (.agg cells)) w := by
  obtain ⟨od, oo, ot, op, oa, og⟩ := o
  simp only at ho
  subst ho
  have h := run_loadAt_mid (P := P) w b q T _ _ hc hu hd (by simpa using hi)
  unfold execOp
  simp only [e1, Sem.run_bind, Sem.run_pure, h, Result.andThen_ok]
theorem wpList_loadM {ops : Array Oper} {rest : List Oper} {o : Oper} {a : Act} {Q : Exit → Act → World → Prop} {b q : Nat} {T : TypeId} {cells : Array Value} {d : TypeDesc} {po : Operand} (g : o.guard = none) (ho : o.op = .load T po) (e1 : a.eval po = .pointer (some ⟨b, q, none⟩)) (hc : w.rangeAt b q cells.toList) (hu : P.underlying T = some d) (hd : d.isRow = true) (hi : (P.info? T).map (·.size) = some cells.size)
    (hK : wpList P ops Q rest (a.put o.dst (.agg cells)) w) : wpList P ops Q (o :: rest) a w :=
  wpList_plain g fun _ hK' => by
    unfold Oper.wp
    rw [run_loadM hc ho e1 hu hd hi]
    exact hK' _ _ hK
theorem run_allocM {o : Oper} {r : Operand → Value} {T k : Nat} (ho : o.op = .alloc T) (hi : (P.info? T).map (·.size) = some k) (hz : ((P.info? T).bind (·.zero)).map (·.cells.size) = some k) :
    ∃ z : Array Value, z.size = k ∧ (execOp r o).run P w = .ok (.value (.pointer (some ⟨w.heap.size, 0, none⟩))) (w.alloc (.cells z T)) := by
  cases hie : P.info? T with
  | none => simp [hie] at hi
  | some ie =>
    simp only [hie, Option.map_some, Option.some.injEq, Option.bind_some] at hi hz
    cases hzz : ie.zero with
    | none => simp [hzz] at hz
    | some z =>
      simp only [hzz, Option.map_some, Option.some.injEq] at hz
      refine ⟨z.cells, hz, ?_⟩
      obtain ⟨od, oo, ot, op, oa, og⟩ := o
      simp only at ho
      subst ho
      unfold execOp
      simp [Instr.alloc, zeroValue, typeInfo, hie, hzz, newVar, newRow, Sem.run_bind]
/-- a box of k cells that is written at once. -/
theorem wpList_boxM {ops : Array Oper} {rest : List Oper} {o1 o2 : Oper} {a : Act} {Q : Exit → Act → World → Prop} {T k d : Nat} {cells : Array Value} {xo : Operand} (g1 : o1.guard = none) (h1 : o1.op = .alloc T) (d1 : o1.dst = some d) (g2 : o2.guard = none) (h2 : o2.op = .store T (.tmp d) xo) (d2 : o2.dst = none)
    (e1 : (a.put (some d) (.pointer (some ⟨w.heap.size, 0, none⟩))).eval (.tmp d) = .pointer (some ⟨w.heap.size, 0, none⟩)) (e2 : (a.put (some d) (.pointer (some ⟨w.heap.size, 0, none⟩))).eval xo = .agg cells)
    (hi : (P.info? T).map (·.size) = some k) (hz : ((P.info? T).bind (·.zero)).map (·.cells.size) = some k) (hs : cells.size = k) (hone : cells.all (·.oneCell') = true)
    (hK : ∀ wE, wE.rangeAt w.heap.size 0 cells.toList → Below w.heap.size w wE → w.heap.size < wE.heap.size → RowAt wE T w.heap.size k → wpList P ops Q rest (a.put (some d) (.pointer (some ⟨w.heap.size, 0, none⟩))) wE) : wpList P ops Q (o1 :: o2 :: rest) a w := by
  obtain ⟨z, hzs, hrun⟩ := run_allocM (w := w) (r := a.eval) h1 hi hz
  refine wpList_plain g1 fun K hK' => ?_
  unfold Oper.wp
  rw [hrun, Oper.upon_value]
  refine hK' _ _ ?_
  rw [d1]
  have R : RowAt (w.alloc (.cells z T)) T w.heap.size k := by have h := RowAt.new w z T; rw [hzs] at h; exact h
  have hth : (w.alloc (.cells z T)).there w.heap.size 0 cells.toList.length := fun j hj => by
    rw [Array.length_toList, hs] at hj
    obtain ⟨v, hv⟩ := R.cell (0 + j) (by omega)
    exact ⟨by rw [hv]; rfl, R.frozen _⟩
  refine wpList_store_mid g2 T _ _ h2 w.heap.size 0 cells e1 e2 (by rw [Array.length_toList] at hth; exact hth) (by rw [hs]; exact hi) hone ?_
  rw [d2]
  have hb : Below w.heap.size w ((w.alloc (.cells z T)).setCells w.heap.size 0 cells.toList) := below_setRow w.heap.size (Nat.le_refl _) _ _ _ (Below.al _)
  exact hK _ (World.rangeAt_setCells_same _ _ _ _ hth) hb (by rw [size_setRow]; simp) (R.sets _ _ _ _)
end
end Go.Proofs.Yteebbffecaeciaa
/- Two boxes made in a region that draws its order, whose reads are taken first. -/
namespace Go.Proofs.Yteebbffecaeciaa
open Go.RowKit
section
variable {P : Program} {ops : Array Oper} {Q : Exit → Act → World → Prop} {S : World → Prop} {a : Act} {w : World}
theorem wpOp_val {i : Nat} {o : Oper} {v : Value} {w' : World} {K : Act → World → Prop} (ho : ops[i]? = some o) (hg : o.guard = none) (h : (execOp a.eval o).run P w = .ok (.value v) w') (hK : K (a.put o.dst v) w') : wpOp P ops Q i K a w := by
  have hw : Region.wanted o (yielded ops a.tmps) = true := by unfold Region.wanted; rw [hg]
  unfold wpOp
  simp only [ho, hw, if_true, Oper.wp, h, Oper.upon]
  exact .inl hK
theorem wpOp_skip {i : Nat} {o : Oper} {w' : World} {K : Act → World → Prop} (ho : ops[i]? = some o) (hg : o.guard = none) (hd : o.dst = none) (h : (execOp a.eval o).run P w = .ok .skip w') (hK : K a w') : wpOp P ops Q i K a w := by
  have hw : Region.wanted o (yielded ops a.tmps) = true := by unfold Region.wanted; rw [hg]
  unfold wpOp
  simp only [ho, hw, if_true, Oper.wp, h, Oper.upon, hd]
  exact .inl hK
theorem put_comm {a : Act} {d e : Nat} (h : d ≠ e) (u v : Value) : (a.put (some d) u).put (some e) v = (a.put (some e) v).put (some d) u := by
  simp only [Act.put]
  rw [Array.setIfInBounds_comm _ _ h]
/-- a step in a held region: what may come up is one. -/
theorem held_one {i fuel : Nat} {listed : Array Bool} (hr : Region.ready .any ops listed = [i]) (h : wpOp P ops Q i (fun a' w' => S w' ∧ wpAnyH P .any ops Q S fuel (listed.setIfInBounds i true) a' w') a w) : wpAnyH P .any ops Q S (fuel + 1) listed a w :=
  wpAnyH_all hr (by simp) fun j hj => by rw [List.mem_singleton] at hj; subst hj; exact h
/-- what yields in every world that meets S is taken first; the operation is said outright. -/
theorem held_take {i d fuel : Nat} {listed : Array Bool} {v : Value} (op : Op) (hop : (ops[i]?).map (fun o => (o.op, o.guard, o.dst)) = some (op, none, some d)) (hs : Region.noSelect ops = true) (hf : Region.free .any ops listed i = true) (hr : (Region.ready .any ops listed).contains i = true)
    (hQ : ∀ c a w, Q (.panic c) (a.put (some d) v) w → Q (.panic c) a w) (hv : ∀ o : Oper, o.op = op → ∀ W, S W → (execOp a.eval o).run P W = .ok (.value v) W) (hS : S w) (h : wpAnyH P .any ops Q S fuel (listed.setIfInBounds i true) (a.put (some d) v) w) : wpAnyH P .any ops Q S (fuel + 1) listed a w := by
  cases ho : ops[i]? with
  | none => rw [ho] at hop; simp at hop
  | some o =>
    rw [ho] at hop
    simp only [Option.map_some, Option.some.injEq, Prod.mk.injEq] at hop
    have hw : Region.wanted o (yielded ops a.tmps) = true := by unfold Region.wanted; rw [hop.2.1]
    refine wpAnyH_take (v := v) ho hs hf hr ?_ (.inl ⟨hw, hv o hop.1⟩) hS ?_
    · rw [hop.2.2]; exact hQ
    · rw [hop.2.2]; exact h
/-- two boxes of one type are made, in whichever row. -/
theorem held_two_allocs {T k i j di dj fuel : Nat} {oi oj : Oper} {listed : Array Bool} (hi : ops[i]? = some oi) (hj : ops[j]? = some oj) (gi : oi.guard = none) (gj : oj.guard = none) (ai : oi.op = .alloc T) (aj : oj.op = .alloc T) (ei : oi.dst = some di) (ej : oj.dst = some dj) (hne : decide (di ≠ dj) = true) (hij : decide (i ≠ j) = true)
    (hr : Region.ready .any ops listed = [i, j]) (hri : Region.ready .any ops (listed.setIfInBounds i true) = [j]) (hrj : Region.ready .any ops (listed.setIfInBounds j true) = [i]) (hinfo : (P.info? T).map (·.size) = some k) (hz : ((P.info? T).bind (·.zero)).map (·.cells.size) = some k)
    (hS : ∀ w w', S w → Below w.heap.size w w' → S w') (h0 : S w)
    (hK : ∀ b b' w', b ≠ b' → w.heap.size ≤ b → w.heap.size ≤ b' → b < w'.heap.size → b' < w'.heap.size → RowAt w' T b k → RowAt w' T b' k → Below w.heap.size w w' → S w' → wpAnyH P .any ops Q S fuel ((listed.setIfInBounds i true).setIfInBounds j true) ((a.put (some di) (.pointer (some ⟨b, 0, none⟩))).put (some dj) (.pointer (some ⟨b', 0, none⟩))) w') :
    wpAnyH P .any ops Q S (fuel + 1 + 1) listed a w := by
  have hne := of_decide_eq_true hne
  have hij := of_decide_eq_true hij
  have two : ∀ (z z' : Array Value), z.size = k → z'.size = k → ∃ w2, (w.alloc (.cells z T)).alloc (.cells z' T) = w2 ∧ w.heap.size + 1 = (w.alloc (.cells z T)).heap.size ∧ w.heap.size + 1 < w2.heap.size ∧ RowAt w2 T w.heap.size k ∧ RowAt w2 T (w.heap.size + 1) k ∧ Below w.heap.size w (w.alloc (.cells z T)) ∧ Below w.heap.size w w2 := fun z z' hz hz' => by
    have e : w.heap.size + 1 = (w.alloc (.cells z T)).heap.size := by simp
    have r1 := RowAt.new w z T
    have r2 := RowAt.new (w.alloc (.cells z T)) z' T
    rw [hz] at r1
    rw [hz', ← e] at r2
    have b1 : Below w.heap.size w (w.alloc (.cells z T)) := Below.al _
    have b2 : Below (w.alloc (.cells z T)).heap.size (w.alloc (.cells z T)) ((w.alloc (.cells z T)).alloc (.cells z' T)) := Below.al _
    exact ⟨_, rfl, e, by simp, r1.below (by simp) b2, r2, b1, b1.trans (b2.mono (by simp))⟩
  refine wpAnyH_all hr (by simp) fun x hx => ?_
  simp only [List.mem_cons, List.not_mem_nil, or_false] at hx
  rcases hx with rfl | rfl
  · obtain ⟨z, hzs, hrun⟩ := run_allocM (w := w) (r := a.eval) ai hinfo hz
    refine wpOp_val hi gi hrun ?_
    obtain ⟨z', hzs', hrun'⟩ := run_allocM (w := w.alloc (.cells z T)) (r := (a.put oi.dst (.pointer (some ⟨w.heap.size, 0, none⟩))).eval) aj hinfo hz
    obtain ⟨w2, hw2, e, hl, R1, R2, B1, B2⟩ := two z z' hzs hzs'
    rw [hw2, ← e] at hrun'
    refine ⟨hS _ _ h0 B1, held_one hri (wpOp_val hj gj hrun' ⟨hS _ _ h0 B2, ?_⟩)⟩
    rw [ei, ej]
    exact hK _ _ _ (by omega) (by omega) (by omega) (by omega) (by omega) R1 R2 B2 (hS _ _ h0 B2)
  · obtain ⟨z, hzs, hrun⟩ := run_allocM (w := w) (r := a.eval) aj hinfo hz
    refine wpOp_val hj gj hrun ?_
    obtain ⟨z', hzs', hrun'⟩ := run_allocM (w := w.alloc (.cells z T)) (r := (a.put oj.dst (.pointer (some ⟨w.heap.size, 0, none⟩))).eval) ai hinfo hz
    obtain ⟨w2, hw2, e, hl, R1, R2, B1, B2⟩ := two z z' hzs hzs'
    rw [hw2, ← e] at hrun'
    refine ⟨hS _ _ h0 B1, held_one hrj (wpOp_val hi gi hrun' ⟨hS _ _ h0 B2, ?_⟩)⟩
    rw [ei, ej, put_comm (fun h => hne h.symm), Array.setIfInBounds_comm _ _ (fun h => hij h.symm)]
    exact hK _ _ _ (by omega) (by omega) (by omega) (by omega) (by omega) R2 R1 B2 (hS _ _ h0 B2)
end
end Go.Proofs.Yteebbffecaeciaa
/- TermRows on trees: with the arguments, and the weights, in another row. -/
namespace Go.Proofs.Yteebbffecaeciaa
open Go.RowKit

section
variable (r : Nat) (l : List TT)
end
end Go.Proofs.Yteebbffecaeciaa
/- Terms within tables: values of several cells of which some are a term's. -/
namespace Go.Proofs.Yteebbffecaeciaa
open Go.RowKit

theorem TCells.of_range {w : World} {b o : Nat} {t : TT} {A : TA} (h : w.rangeAt b o (cellsOf t A).toList) : TCells w b o t A :=
  ⟨h 0 _ rfl, h 1 _ rfl, h 2 _ rfl, h 3 _ rfl, h 4 _ rfl, h 5 _ rfl, h 6 _ rfl, h 7 _ rfl, h 8 _ rfl, h 9 _ rfl, h 10 _ rfl, h 11 _ rfl, h 12 _ rfl, h 13 _ rfl, h 14 _ rfl⟩
theorem TCells.at_block {w w' : World} {b o : Nat} {t : TT} {A : TA} (h : TCells w b o t A) (hc : ∀ o v, w.cell? ⟨b, o, none⟩ = some v → w'.cell? ⟨b, o, none⟩ = some v) : TCells w' b o t A := by
  obtain ⟨h0, h1, h2, h3, h4, h5, h6, h7, h8, h9, h10, h11, h12, h13, h14⟩ := h
  exact ⟨hc _ _ h0, hc _ _ h1, hc _ _ h2, hc _ _ h3, hc _ _ h4, hc _ _ h5, hc _ _ h6, hc _ _ h7, hc _ _ h8, hc _ _ h9, hc _ _ h10, hc _ _ h11, hc _ _ h12, hc _ _ h13, hc _ _ h14⟩
theorem range_split {w : World} {b o : Nat} {xs ys : Array Value} (h : w.rangeAt b o (xs ++ ys).toList) : w.rangeAt b o xs.toList ∧ w.rangeAt b (o + xs.size) ys.toList := by
  rw [Array.toList_append] at h
  refine ⟨fun j v hv => h j v ?_, fun j v hv => ?_⟩
  · rw [List.getElem?_append_left (List.getElem?_eq_some_iff.1 hv).1]; exact hv
  · have := h (xs.toList.length + j) v (by rw [List.getElem?_append_right (by omega)]; simpa using hv)
    rw [← this]; congr 2; simp; omega
theorem cellsOf_size (t : TT) (A : TA) : (cellsOf t A).size = 15 := rfl
theorem cellsOf_one (t : TT) (A : TA) : (cellsOf t A).all (·.oneCell') = true := by simp [cellsOf, Value.oneCell']
theorem run_built {P : Program} {w : World} {o : Oper} {r : Operand → Value} {t : TypeId} {parts : Array (Nat × Operand)} (ho : o.op = .build t parts) (cells : Array Value) (hf : P.built t (parts.map fun (i, x) => (i, r x)).toList = some cells) :
    (execOp r o).run P w = .ok (.value (.agg cells)) w := by
  obtain ⟨od, oo, ot, op, oa, og⟩ := o
  simp only at ho
  subst ho
  unfold execOp
  simp only [Sem.run_bind, run_build w t _ cells hf, Result.andThen_ok]
  rfl
section
variable {P : Program} {w : World}
theorem wpList_builtT {ops : Array Oper} {rest : List Oper} {o : Oper} {a : Act} {Q : Exit → Act → World → Prop} {t : TypeId} {parts : Array (Nat × Operand)} (g : o.guard = none) (ho : o.op = .build t parts) (s : TT) (A : TA)
    (hf : P.built t (parts.map fun (i, x) => (i, a.eval x)).toList = some (cellsOf s A)) (hK : wpList P ops Q rest (a.put o.dst (s.val A)) w) : wpList P ops Q (o :: rest) a w := wpList_buildTo g t parts ho o.dst rfl _ hf hK
end
/-- two terms, one behind the other. -/
structure TP where
  s : TT
  A : TA
  t : TT
  B : TA
def TP.cells (p : TP) : Array Value := cellsOf p.s p.A ++ cellsOf p.t p.B
def TP.val (p : TP) : Value := .agg p.cells
theorem TP.size (p : TP) : p.val.cells.size = 30 := by simp [TP.val, TP.cells, Value.cells, cellsOf_size]
theorem TP.cells_size (p : TP) : p.cells.size = 30 := by simp [TP.cells, cellsOf_size]
theorem TP.cells_one (p : TP) : p.cells.all (·.oneCell') = true := by rw [TP.cells, Array.all_append, cellsOf_one, cellsOf_one]; rfl
theorem TP.at {w : World} {b o : Nat} {p : TP} (h : w.rangeAt b o p.cells.toList) : TCells w b o p.s p.A ∧ TCells w b (o + 15) p.t p.B := by
  obtain ⟨h1, h2⟩ := range_split h
  exact ⟨.of_range h1, .of_range h2⟩
/-- a row of whole numbers that append builds. -/
def NumRow (w : World) (lo : Nat) (L : List Int) (a : Option Addr) (cap : Nat) : Prop := Grown w lo 2 1 L.length (L.map (.int .i64)) a cap
theorem NumRow.below {w w' : World} {lo : Nat} {L : List Int} {a : Option Addr} {cap : Nat} (h : NumRow w lo L a cap) (hb : Below w.heap.size w w') : NumRow w' lo L a cap := Grown.below h hb
theorem NumRow.wrow {w : World} {lo : Nat} {L : List Int} {a : Option Addr} {cap : Nat} (h : NumRow w lo L a cap) : WRow w L a := by
  cases L with
  | nil => exact wrow_nil
  | cons x xs =>
    obtain ⟨b, e, _, _, hc⟩ := Grown.cells h (by simp)
    rw [e]
    exact WRow.of b _ 0 fun i hi => hc _ _ (by rw [List.getElem?_map, Nat.zero_add, List.getElem?_eq_getElem hi]; rfl)
theorem FlatRow.trow {wb w : World} {L : List (TT × TA)} {a : Option Addr} {cap : Nat} (h : FlatRow wb w L a cap) (hb : Below wb.heap.size wb w) : TRow w (L.map (·.1)) a := by
  cases L with
  | nil => exact trow_nil
  | cons x xs =>
    obtain ⟨b, e, _⟩ := h.get (i := 0) (by simp)
    rw [e]
    refine TRow.of b _ 0 fun i hi => ?_
    have hi' : i < (x :: xs).length := by simpa using hi
    obtain ⟨b', e', _, hc, hk⟩ := h.get hi'
    rw [e] at e'
    cases e'
    refine ⟨(x :: xs)[i].2, ?_, ?_⟩
    · rw [List.getElem_map, Nat.zero_add]; exact hc
    · rw [List.getElem_map]; exact hk.below hb
end Go.Proofs.Yteebbffecaeciaa
/- Two terms' boxes made in a region that draws its order. -/
namespace Go.Proofs.Yteebbffecaeciaa
open Go.RowKit
section
variable {ops : Array Oper} {Q : Exit → Act → World → Prop} {S : World → Prop} {a : Act} {w : World}
/-- a store of a term, the only one that may come up. -/
theorem held_store15 {i fuel T n B : Nat} {listed : Array Bool} {t : TT} {A : TA} (po xo : Operand) (hr : Region.ready .any ops listed = [i]) (hop : (ops[i]?).map (fun o => (o.op, o.guard, o.dst)) = some (.store 47 po xo, none, none)) (e1 : a.eval po = .pointer (some ⟨B, 0, none⟩)) (e2 : a.eval xo = t.val A)
    (hrow : RowAt w T B n) (hn : 15 ≤ n) (hK : S (setL B (cellsT 0 t A) w) ∧ wpAnyH Try.prog .any ops Q S fuel (listed.setIfInBounds i true) a (setL B (cellsT 0 t A) w)) : wpAnyH Try.prog .any ops Q S (fuel + 1) listed a w := by
  cases ho : ops[i]? with
  | none => rw [ho] at hop; simp at hop
  | some o =>
    rw [ho] at hop
    simp only [Option.map_some, Option.some.injEq, Prod.mk.injEq] at hop
    exact held_one hr (wpOp_skip ho hop.2.1 hop.2.2 (run_store15 (q := 0) hrow (by omega) hop.1 e1 e2) hK)
end
end Go.Proofs.Yteebbffecaeciaa
/- unfold.step, unfold.Step. -/
namespace Go.Proofs.Yteebbffecaeciaa
open Go.RowKit

set_option maxRecDepth 100000 in
set_option maxHeartbeats 8000000 in
theorem ustep_any (t : TT) (x : Value) (w : World) (S : Nat → Prop) (h2 : t.args.length = 2) (hlo0 : 0 ≤ t.lo) (hlo8 : t.lo ≤ 8) (hx : TInA S w t x) (hS : ∀ q, S q → q < w.heap.size) :
    Calls Try.prog 76 #[x] w fun e w' => ∃ x', e = .returned x' ∧ TInA S w' t.step x' ∧ Below w.heap.size w w' := by
  obtain ⟨k, v, vs, lo, hi0, ws, p, l⟩ := t
  simp only [TT.args_mk, TT.lo_mk] at h2 hlo0 hlo8
  obtain ⟨s0, s1, rfl⟩ := two_of h2
  obtain ⟨A, rfl, hok⟩ := hx
  have hrow : ∀ W, AgreeS S w W → TRow W [s0, s1] A.aa := fun W ha => (hok W ha).parts.2.2.2.2.2
  obtain ⟨b, o, X0, ea, _, hc0, hk0⟩ := elemA (i := 0) hrow (by simp)
  obtain ⟨b', o', X1, ea', _, hc1, hk1⟩ := elemA (i := 1) hrow (by simp)
  rw [ea] at ea'
  cases ea'
  simp only [Nat.zero_mul, Nat.add_zero, Nat.one_mul, List.getElem_cons_zero, List.getElem_cons_succ] at hc0 hk0 hc1 hk1
  obtain ⟨w0, hw0, m0, z0, hcx, R0⟩ := row1_new w (TT.mk k v vs lo hi0 ws p [s0, s1]) A
  obtain ⟨w1, hw1, m1, z1, R1, _⟩ := box15 w0 (.int .u8 0) (.int .u8 0) (.int .i64 0) (.slice none 0 0) (.slice none 0 0) (.int .i64 0) (.int .i64 0) (.slice none 0 0) (.int .u8 0) (.int .u8 0) (.int .i64 0) (.slice none 0 0) (.int .i64 0) (.slice none 0 0) (.slice none 0 0) 47
  have hB1 : Below w.heap.size w w1 := m0.trans (m1.mono (Nat.le_of_lt z0))
  have hcx1 := hcx.below m1
  have q14 : w1.cell? ⟨w.heap.size, 14, none⟩ = some (.slice (some ⟨b, o, none⟩) 2 A.ac) := by
    obtain ⟨_, _, _, _, _, _, _, _, _, _, _, _, _, _, q⟩ := hcx1
    rw [← ea]; exact q
  obtain ⟨S', hS'⟩ : ∃ S' : Nat → Prop, S' = fun q => S q ∨ q = w0.heap.size := ⟨_, rfl⟩
  have HUP : Hid (∀ (u : TT) (Z : TA) (W : World), TOkA S w u Z → Below w.heap.size w W → TOkA S' W u Z) := Lib.hid fun u Z W h hb => h.step hb.size fun q g1 g2 => ⟨by rw [hS']; rintro (g | g); exact g2 g; have := m0.size; omega, hb.block q g1⟩
  have HSS : Hid ((∀ q, S q → S' q) ∧ S' w0.heap.size) := Lib.hid ⟨fun q h => by rw [hS']; exact .inl h, by rw [hS']; exact .inr rfl⟩
  have HS' : Hid (∀ q, S' q → q < w1.heap.size) := Lib.hid fun q h => by rw [hS'] at h; rcases h with h | h; (have := hS q h; have := hB1.size; omega); omega
  have HOK := Lib.hid hok; have HK0 := Lib.hid hk0; have HK1 := Lib.hid hk1; have HX0 := Lib.hid (hc0.below hB1); have HX1 := Lib.hid (hc1.below hB1); have EA := Lib.hid ea; have HCX := Lib.hid hcx1; have HR1 := Lib.hid R1; have HBE := Lib.hid hB1; have HS := Lib.hid hS; have HA14 := Lib.hid q14
  have HR0 := Lib.hid (R0.below z0 m1)
  have HZ := Lib.hid (And.intro z0 z1)
  clear hS' ea hok hrow hc0 hc1 hk0 hk1 hcx hcx1 R1 R0 m0 m1 hB1 z0 z1 h2 hS q14
  unfold TT.val
  simp only [TT.kind_mk, TT.v_mk, TT.vs_mk, TT.lo_mk, TT.hi_mk, TT.ws_mk, TT.p_mk, TT.args_mk, List.length_cons, List.length_nil, Nat.zero_add, Nat.reduceAdd] at hw0 ⊢
  go_enter Try.func76, Try.ntmps76
  go_wp2_with fail
  clear hw0 hw1
  refine wp_region_held (S := fun W => Below w1.heap.size w1 W) rfl ?_
  refine held_take (i := 0) (d := 5) (v := .pointer (some ⟨w.heap.size, 14, none⟩)) (.fieldAddr 47 (.tmp 1) 7) (by kernel_rfl) (by kernel_rfl) (by kernel_rfl) (by kernel_rfl) (fun _ _ _ h => h) (fun o ho W hW => by obtain ⟨od, oo, ot, op, oa, og⟩ := o; simp only at ho; subst ho; go_simp) (by exact (Below.refl _ _).drew) ?_
  simp only [Act.put, List.setIfInBounds_toArray, List.set_cons_zero, List.set_cons_succ]
  refine held_take (i := 1) (d := 6) (v := .slice (some ⟨b, o, none⟩) 2 A.ac) (.load 45 (.tmp 5)) (by kernel_rfl) (by kernel_rfl) (by kernel_rfl) (by kernel_rfl) (fun _ _ _ h => h) (fun o ho W hW => by have hc := cell_stays hW HA14.out; obtain ⟨od, oo, ot, op, oa, og⟩ := o; simp only at ho; subst ho; go_simp) (by exact (Below.refl _ _).drew) ?_
  simp only [Act.put, List.setIfInBounds_toArray, List.set_cons_zero, List.set_cons_succ]
  refine held_take (i := 2) (d := 7) (v := .pointer (some ⟨b, o, none⟩)) (.indexAddr 45 (.tmp 6) (.const (.int .i64 0))) (by kernel_rfl) (by kernel_rfl) (by kernel_rfl) (by kernel_rfl) (fun _ _ _ h => h) (fun o ho W hW => by obtain ⟨od, oo, ot, op, oa, og⟩ := o; simp only at ho; subst ho; go_simp) (by exact (Below.refl _ _).drew) ?_
  simp only [Act.put, List.setIfInBounds_toArray, List.set_cons_zero, List.set_cons_succ]
  refine held_take (i := 3) (d := 8) (v := TT.val s0 X0) (.load 47 (.tmp 7)) (by kernel_rfl) (by kernel_rfl) (by kernel_rfl) (by kernel_rfl) (fun _ _ _ h => h) (fun o ho W hW => run_load15 (HX0.out.below hW) ho (by rfl)) (by exact (Below.refl _ _).drew) ?_
  simp only [Act.put, List.setIfInBounds_toArray, List.set_cons_zero, List.set_cons_succ]
  refine held_take (i := 4) (d := 9) (v := .pointer (some ⟨w.heap.size, 14, none⟩)) (.fieldAddr 47 (.tmp 1) 7) (by kernel_rfl) (by kernel_rfl) (by kernel_rfl) (by kernel_rfl) (fun _ _ _ h => h) (fun o ho W hW => by obtain ⟨od, oo, ot, op, oa, og⟩ := o; simp only at ho; subst ho; go_simp) (by exact (Below.refl _ _).drew) ?_
  simp only [Act.put, List.setIfInBounds_toArray, List.set_cons_zero, List.set_cons_succ]
  refine held_take (i := 5) (d := 10) (v := .slice (some ⟨b, o, none⟩) 2 A.ac) (.load 45 (.tmp 9)) (by kernel_rfl) (by kernel_rfl) (by kernel_rfl) (by kernel_rfl) (fun _ _ _ h => h) (fun o ho W hW => by have hc := cell_stays hW HA14.out; obtain ⟨od, oo, ot, op, oa, og⟩ := o; simp only at ho; subst ho; go_simp) (by exact (Below.refl _ _).drew) ?_
  simp only [Act.put, List.setIfInBounds_toArray, List.set_cons_zero, List.set_cons_succ]
  refine held_take (i := 6) (d := 11) (v := .pointer (some ⟨b, o + 15, none⟩)) (.indexAddr 45 (.tmp 10) (.const (.int .i64 1))) (by kernel_rfl) (by kernel_rfl) (by kernel_rfl) (by kernel_rfl) (fun _ _ _ h => h) (fun o ho W hW => by obtain ⟨od, oo, ot, op, oa, og⟩ := o; simp only at ho; subst ho; go_simp) (by exact (Below.refl _ _).drew) ?_
  simp only [Act.put, List.setIfInBounds_toArray, List.set_cons_zero, List.set_cons_succ]
  refine held_take (i := 7) (d := 12) (v := TT.val s1 X1) (.load 47 (.tmp 11)) (by kernel_rfl) (by kernel_rfl) (by kernel_rfl) (by kernel_rfl) (fun _ _ _ h => h) (fun o ho W hW => run_load15 (HX1.out.below hW) ho (by rfl)) (by exact (Below.refl _ _).drew) ?_
  simp only [Act.put, List.setIfInBounds_toArray, List.set_cons_zero, List.set_cons_succ]
  refine held_two_allocs (T := 47) (k := 15) (i := 8) (j := 9) rfl rfl rfl rfl rfl rfl rfl rfl (by kernel_rfl) (by kernel_rfl) (by kernel_rfl) (by kernel_rfl) (by kernel_rfl) size15 (by kernel_rfl) (by exact fun _ _ h hb => Below.trans h (hb.mono (Below.size h))) (by exact (Below.refl _ _).drew) ?_
  intro b3 b4 w7 hne hlo hlo' hlt3 hlt4 R3 R4 hbd hS7
  simp only [Act.put, List.setIfInBounds_toArray, List.set_cons_zero, List.set_cons_succ]
  have hbw : Below w1.heap.size w1 w7 := hS7
  have hlo2 : w1.heap.size ≤ b3 := by simpa using hlo
  have hlo3 : w1.heap.size ≤ b4 := by simpa using hlo'
  obtain ⟨w8, hw8⟩ : ∃ w8, w8 = setL b3 (cellsT 0 s0 X0) w7 := ⟨_, rfl⟩
  have R4' : RowAt w8 47 b4 15 := by rw [hw8]; exact setL_row _ _ _ R4
  have c3 : TCells w8 b3 0 s0 X0 := by rw [hw8]; exact cells15 R3 (Nat.le_refl _)
  have hb8 : Below w1.heap.size w1 w8 := by rw [hw8]; exact setL_below b3 hlo2 _ _ hbw
  obtain ⟨w9, hw9⟩ : ∃ w9, w9 = setL b4 (cellsT 0 s1 X1) w8 := ⟨_, rfl⟩
  have c4 : TCells w9 b4 0 s1 X1 := by rw [hw9]; exact cells15 R4' (Nat.le_refl _)
  have hb9 : Below w1.heap.size w1 w9 := by rw [hw9]; exact setL_below b4 hlo3 _ _ hb8
  have c3' : TCells w9 b3 0 s0 X0 := by
    rw [hw9]
    exact c3.at_block fun o v hv => by rw [setL_out b4 b3 o _ w8 (fun e => absurd e hne)]; exact hv
  have hz9 : b4 < w9.heap.size := by rw [hw9, hw8, setL_size, setL_size]; exact hlt4
  refine held_store15 (i := 10) (.tmp 3) (.tmp 8) (by kernel_rfl) (by kernel_rfl) (by rfl) (by rfl) R3 (Nat.le_refl _) ?_
  rw [← hw8]
  refine ⟨hb8, ?_⟩
  refine held_store15 (i := 11) (.tmp 4) (.tmp 12) (by kernel_rfl) (by kernel_rfl) (by rfl) (by rfl) R4' (Nat.le_refl _) ?_
  rw [← hw9]
  refine ⟨hb9, ?_⟩
  refine wpAnyH_done (by kernel_rfl) ?_ _
  have hz := HZ.out
  have HX0B := Lib.hid c3'; have HX1B := Lib.hid c4
  replace HCX := Lib.hid (HCX.out.below hb9); replace HBE := Lib.hid (HBE.out.trans (hb9.mono HBE.out.size)); replace HR1 := Lib.hid (HR1.out.below hz.2 hb9); replace HR0 := Lib.hid (HR0.out.below (by omega) hb9)
  replace HS' : Hid (∀ q, S' q → q < w9.heap.size) := Lib.hid fun q h => Nat.lt_of_lt_of_le (HS'.out q h) hb9.size
  have HB34 : Hid (b4 ≠ w.heap.size ∧ b4 < w9.heap.size) := Lib.hid ⟨by omega, hz9⟩
  clear hne hlo hlo' hlt3 hlt4 R3 R4 hbd hS7 hbw hlo2 hlo3 hw8 R4' c3 hb8 hw9 c4 c3' hb9 HX0 HX1 HA14 hz hz9
  have q5 : w9.cell? ⟨w.heap.size, 5, none⟩ = some (.int .i64 lo) := HCX.out.2.2.2.2.2.1
  have f5 : w9.frozen? ⟨w.heap.size, 5, none⟩ = false := HR0.out.frozen 5
  by_cases hl0 : lo = 0
  · as_aux_lemma =>
    have HST : Hid (TT.step (TT.mk k v vs lo hi0 ws p [s0, s1]) = s0) := Lib.hid (by simp [TT.step, TT.args, TT.lo, hl0])
    have hlb : (lo == 0) = true := by simp [hl0]
    have HL0 := Lib.hid hl0; clear hl0
    go_wp2_with (first | refine wpList_load15 (by rfl) (by rfl) (by rfl) HX0B.out ?_ | refine wpList_store15 (t := s0) (A := X0) (by rfl) (by rfl) (by rfl) (by rfl) (by rfl) HR1.out (by decide) ?_)
    intro wE hcl _ _ hbl
    have hz := HZ.out
    have hbe : Below w.heap.size w wE := hbl _ _ (by omega) HBE.out
    have hok : TOkA S wE s0 X0 := HK0.out.below hbe
    have HPOST := Lib.hid hok; have HBE2 := Lib.hid hbe
    clear hbl hbe hok hz
    go_wp2_with fail
    refine bodyPost_ret (v := TT.val s0 X0) ?_ rfl ⟨_, rfl, by rw [HST.out]; exact ⟨X0, rfl, HPOST.out⟩, HBE2.out⟩
    exact results_cell Try.results76 rfl hcl
  · as_aux_lemma =>
    have hlb : (lo == 0) = false := by simpa using hl0
    have HST : Hid (TT.step (TT.mk k v vs lo hi0 ws p [s0, s1]) = s1.put (TT.mk k v vs (lo - 1) hi0 ws p [s0, s1])) := Lib.hid (by simp [TT.step, TT.args, TT.lo, TT.less, hl0])
    have hwr : IntKind.i64.wrap (lo - 1) = lo - 1 := by rw [IntKind.wrap_i64] <;> omega
    clear hl0
    obtain ⟨wx, hwx, hkx, hsx, hbx, hx4⟩ := lo_set (m := lo - 1) HCX.out
    have hcx4 := hx4 (TT.mk k v vs (lo - 1) hi0 ws p [s0, s1]) rfl rfl rfl rfl rfl rfl rfl rfl
    have hz := HZ.out
    have HLESS := Lib.hid hcx4; have HX1X := Lib.hid (TCells.block (hkx b4 HB34.out.1) HX1B.out)
    have hbex : Below w.heap.size w wx := hbx _ _ (Nat.le_refl _) HBE.out
    have HBEX := Lib.hid hbex; have HRX := Lib.hid (row_block (hkx w0.heap.size (by omega)) HR1.out)
    have HS'X : Hid (∀ q, S' q → q < wx.heap.size) := Lib.hid fun q h => by rw [hsx]; exact HS'.out q h
    clear hkx hsx hbx hx4 hcx4 hbex hz
    go_wp2_with (first | refine wpList_load15 (by rfl) (by rfl) (by rfl) HX1X.out ?_ | refine wpList_load15 (by rfl) (by rfl) (by rfl) HLESS.out ?_)
    refine (uput_any _ s1 (TT.mk k v vs (lo - 1) hi0 ws p [s0, s1]) (TT.val s1 X1) (TT.val (TT.mk k v vs (lo - 1) hi0 ws p [s0, s1]) A) _ S' (Nat.le_refl _) ⟨X1, rfl, HUP.out _ _ _ HK1.out HBEX.out⟩ ⟨A, rfl, (HUP.out _ _ _ HOK.out HBEX.out).lo⟩ HS'X.out).mono ?_
    rintro e w3 ⟨z, rfl, ⟨Y, rfl, hY⟩, hb3⟩
    have HR3 := Lib.hid (HRX.out.below HRX.out.lt hb3); have HY := Lib.hid hY
    have HB3 := Lib.hid (HBEX.out.trans (hb3.mono HBEX.out.size))
    clear hb3 hY q5 f5 hwx
    go_wp2_with (refine wpList_store15 (t := s1.put (TT.mk k v vs (lo - 1) hi0 ws p [s0, s1])) (A := Y) (by rfl) (by rfl) (by rfl) (by rfl) (by rfl) HR3.out (by decide) ?_)
    intro wE hcl hkE hsE hbl
    have hz := HZ.out
    have hbe : Below w.heap.size w wE := hbl _ _ (by omega) HB3.out
    have hok : TOkA S wE (s1.put (TT.mk k v vs (lo - 1) hi0 ws p [s0, s1])) Y := HY.out.step (Nat.le_of_eq hsE.symm) fun q h1 h2 => ⟨fun h => h2 (HSS.out.1 q h), hkE q fun e => h2 (by rw [e]; exact HSS.out.2)⟩
    have HPOST := Lib.hid hok; have HBE2 := Lib.hid hbe
    clear hbl hbe hok hz hkE hsE
    go_wp2_with fail
    refine bodyPost_ret (v := TT.val (s1.put (TT.mk k v vs (lo - 1) hi0 ws p [s0, s1])) Y) ?_ rfl ⟨_, rfl, by rw [HST.out]; exact ⟨Y, rfl, HPOST.out⟩, HBE2.out⟩
    exact results_cell Try.results76 rfl hcl
end Go.Proofs.Yteebbffecaeciaa
/- unfold.whole. -/
namespace Go.Proofs.Yteebbffecaeciaa
open Go.RowKit

theorem exists_least (p : Nat → Prop) : ∀ n, p n → ∃ m, p m ∧ ∀ k, p k → m ≤ k := by
  intro n
  induction n using Nat.strongRecOn with
  | _ n ih =>
    intro hn
    by_cases h : ∃ k, k < n ∧ p k
    · obtain ⟨k, hk, hp⟩ := h
      exact ih k hk hp
    · exact ⟨n, hn, fun k hk => Nat.le_of_not_lt fun hlt => h ⟨k, hlt, hk⟩⟩
open Classical in
/-- the least number of which something is so. -/
noncomputable def least (p : Nat → Prop) : Nat := if h : ∃ m, p m then Classical.choose (exists_least p (Classical.choose h) (Classical.choose_spec h)) else 0
theorem least_spec {p : Nat → Prop} (h : ∃ m, p m) : p (least p) ∧ ∀ k, p k → least p ≤ k := by
  unfold least
  rw [dif_pos h]
  exact Classical.choose_spec (exists_least p (Classical.choose h) (Classical.choose_spec h))
/-- the term in the box: what it is unfolded to, and whose bulk is m. -/
def WRel (S' : Nat → Prop) (w : World) (N0 N1 n : Nat) (t : TT) (wr : World) (m : Nat) : Prop :=
  ∃ u U, u.bulk 0 = m ∧ TCells wr N0 0 u U ∧ TOkA S' wr u U ∧ u.sane false = true ∧ u.bulk 0 ≤ n + 1 ∧ u.unf (n + 1) = t.unf (n + 1) ∧ Below w.heap.size w wr ∧ RowAt wr 47 N0 15 ∧ RowAt wr 47 N1 15 ∧ N1 < wr.heap.size
set_option maxRecDepth 100000 in
set_option maxHeartbeats 8000000 in
theorem uwhole_any (n : Nat) : ∀ (t : TT) (x : Value) (w : World) (S : Nat → Prop), t.sane false = true → t.bulk 0 ≤ n → TInA S w t x → (∀ q, S q → q < w.heap.size) →
    Calls Try.prog 72 #[x] w fun e w' => ∃ x', e = .returned x' ∧ TInA S w' (t.whole n) x' ∧ Below w.heap.size w w' := by
  induction n with
  | zero => intro t x w S hs h; have := TT.bulk_pos0 hs; omega
  | succ n ih =>
    intro t x w S hsn hbk hx hS
    have IH := Lib.hid ih; clear ih
    obtain ⟨A, rfl, hok⟩ := hx
    obtain ⟨w0, hw0, m0, z0, hc0, R0⟩ := row1_new w t A
    obtain ⟨w1, hw1, m1, z1, R1, _⟩ := box15 w0 (.int .u8 0) (.int .u8 0) (.int .i64 0) (.slice none 0 0) (.slice none 0 0) (.int .i64 0) (.int .i64 0) (.slice none 0 0) (.int .u8 0) (.int .u8 0) (.int .i64 0) (.slice none 0 0) (.int .i64 0) (.slice none 0 0) (.slice none 0 0) 47
    have hB1 : Below w.heap.size w w1 := m0.trans (m1.mono (Nat.le_of_lt z0))
    obtain ⟨S', hS'⟩ : ∃ S' : Nat → Prop, S' = fun q => S q ∨ q = w.heap.size ∨ q = w0.heap.size := ⟨_, rfl⟩
    have HSS : Hid ((∀ q, S q → S' q) ∧ S' w.heap.size ∧ S' w0.heap.size ∧ ∀ q, q < w.heap.size → S' q → S q) := Lib.hid ⟨fun q h => by rw [hS']; exact .inl h, by rw [hS']; exact .inr (.inl rfl), by rw [hS']; exact .inr (.inr rfl), fun q h1 h2 => by rw [hS'] at h2; rcases h2 with h2 | h2 | h2; exact h2; omega; omega⟩
    have HSL : Hid (∀ q, S' q → q < w1.heap.size) := Lib.hid fun q h => by rw [hS'] at h; rcases h with h | h | h; (have := hS q h; have := hB1.size; omega); omega; omega
    have hok1 : TOkA S' w1 t A := hok.step hB1.size fun q g1 g2 => ⟨fun g => g2 (HSS.out.2.2.2 q g1 g), hB1.block q g1⟩
    have HREL : Hid (WRel S' w w.heap.size w0.heap.size n t w1 (t.bulk 0)) := Lib.hid ⟨t, A, rfl, hc0.below m1, hok1, hsn, hbk, rfl, hB1, R0.below z0 m1, R1, z1⟩
    have HZ := Lib.hid (And.intro z0 z1)
    have HW : Hid (t.whole (n + 1) = (t.unf (n + 1)).withArgs ((t.unf (n + 1)).args.map (TT.whole n))) := Lib.hid rfl
    clear hok hok1 hc0 R0 R1 m0 m1 z0 z1 hB1 hS' hbk hsn hS
    unfold TT.val
    go_enter Try.func72, Try.ntmps72
    go_wp2_with fail
    clear hw0 hw1
    go_loopw [] (fun wr => w1.heap.size ≤ wr.heap.size ∧ ∃ m, WRel S' w w.heap.size w0.heap.size n t wr m) (fun wr => least (WRel S' w w.heap.size w0.heap.size n t wr))
    case atStart => exact ⟨Nat.le_refl _, _, HREL.out⟩
    case round =>
      obtain ⟨hszr, hrel⟩ := hrel
      obtain ⟨hm, -⟩ := least_spec hrel
      obtain ⟨u, U, hmu, hc, hk, hsu, hbu, hun, hbe, hr0, hr1, hlt⟩ := hm
      have f0 : wr.cell? ⟨w.heap.size, 0, none⟩ = some (.int .u8 u.kind) := hc.1
      have HC := Lib.hid hc; have HK := Lib.hid hk; have HR0 := Lib.hid hr0; have HR1 := Lib.hid hr1; have HBE := Lib.hid hbe; have HSU := Lib.hid (And.intro hsu (And.intro hbu hun)); have HMU := Lib.hid hmu
      have HSLr : Hid (∀ q, S' q → q < wr.heap.size) := Lib.hid fun q h => Nat.lt_of_lt_of_le (HSL.out q h) hszr
      have HSZR := Lib.hid hszr
      clear hc hk hr0 hr1 hbe hsu hbu hun hmu hrel hszr HREL
      by_cases hk10 : u.kind = 10
      · as_aux_lemma =>
        have kb : (u.kind == 10) = true := by simp [hk10]
        have hR := TT.right (TT.sane_parts HSU.out.1).1
        obtain ⟨hz1, hz2, _⟩ := hR.sized hk10
        have HST := Lib.hid (TT.step_facts hk10 HSU.out.1)
        have HL2 := Lib.hid (hR.len2 hk10)
        have HUN : Hid (u.step.unf (n + 1) = t.unf (n + 1)) := Lib.hid (by
          rw [← HSU.out.2.2]
          obtain ⟨g1, g2, _⟩ := HST.out
          have e : u.unf (n + 1) = u.step.unf n := by rw [TT.unf, if_pos hk10]
          rw [e]
          exact TT.unf_more n (n + 1) u.step g1 (by have := HSU.out.2.1; omega) (by omega))
        have HLO := Lib.hid (And.intro hz1 hz2)
        clear hk10 hR hz1 hz2
        go_wp2_with (first | refine wpList_load15 (by rfl) (by rfl) (by rfl) HC.out ?_)
        refine (ustep_any u (u.val U) wr S' HL2.out HLO.out.1 HLO.out.2 ⟨U, rfl, HK.out⟩ HSLr.out).mono ?_
        rintro e w3 ⟨z, rfl, ⟨X, rfl, hX⟩, hb3⟩
        have HR03 := Lib.hid (HR0.out.below HR0.out.lt hb3); have HR13 := Lib.hid (HR1.out.below HR1.out.lt hb3); have HX := Lib.hid hX
        have HB3 := Lib.hid (HBE.out.trans (hb3.mono HBE.out.size)); have HS3 := Lib.hid hb3.size
        clear hb3 hX f0
        go_wp2_with (refine wpList_store15R (t := u.step) (A := X) (by rfl) (by rfl) (by rfl) (by rfl) (by rfl) HR03.out (by decide) ?_)
        intro wE hcl hrE0 hkE hsE hbl
        have hz := HZ.out
        have hbe : Below w.heap.size w wE := hbl _ _ (Nat.le_refl _) HB3.out
        have hok : TOkA S' wE u.step X := HX.out.step (Nat.le_of_eq hsE.symm) fun q h1 h2 => ⟨h2, hkE q fun e => h2 (by rw [e]; exact HSS.out.2.1)⟩
        have HN : Hid (WRel S' w w.heap.size w0.heap.size n t wE (u.step.bulk 0)) := Lib.hid ⟨u.step, X, rfl, hcl, hok, HST.out.1, by have := HST.out.2.1; have := HSU.out.2.1; omega, HUN.out, hbe, hrE0, row_block (hkE _ (by omega)) HR13.out, by have := HR13.out.lt; omega⟩
        have HSE : Hid (w1.heap.size ≤ wE.heap.size) := Lib.hid (by have := HS3.out; have := HSZR.out; omega)
        clear hbl hbe hok hkE hsE hz hcl hrE0
        go_wp2_with fail
        go_roundw
        case rel => exact ⟨HSE.out, _, HN.out⟩
        case measure =>
          have h1 := (least_spec ⟨_, HN.out⟩).2 _ HN.out
          have h2 := HST.out.2.1
          have h3 := HMU.out
          omega
      · as_aux_lemma =>
        have kb : (u.kind == 10) = false := by simpa using hk10
        have HWU : Hid (t.whole (n + 1) = u.each (TT.whole n)) := Lib.hid (by rw [HW.out, ← HSU.out.2.2, TT.unf_not hk10, TT.each_all hk10])
        have HAR : Hid (∀ i (hi : i < u.args.length), u.args[i].sane false = true ∧ u.args[i].bulk 0 ≤ n) := Lib.hid fun i hi => ⟨TT.sane_args HSU.out.1 hk10 _ (List.getElem_mem hi), by have := TT.bulk_arg HSU.out.1 hk10 (List.getElem_mem hi); have := HSU.out.2.1; omega⟩
        clear hk10
        go_wp2_with (first | refine wpList_load15 (by rfl) (by rfl) (by rfl) HC.out ?_)
        refine (each_any 0 0 u (u.val U) wr S' 72 #[] (TT.whole n) (fun _ _ => True) (fun _ _ => by kernel_rfl) ⟨U, rfl, HK.out⟩ HSLr.out (fun q _ h => absurd h (Nat.not_lt_zero _)) (Nat.zero_le _) trivial (fun _ _ _ _ _ _ => trivial) (fun _ _ _ => trivial) ?_).mono ?_
        · as_aux_lemma =>
          intro i hi hno y W Sx hSx hSl hSw hsz hagr _ hy
          refine Calls.mono (IH.out u.args[i] y W Sx (HAR.out i hi).1 (HAR.out i hi).2 hy hSl) ?_
          rintro e w' ⟨z, rfl, hz, hb⟩
          exact ⟨z, rfl, hz, Only.of_below hb, trivial⟩
        · rintro e w3 ⟨z, rfl, ⟨Y, rfl, hY⟩, hO, -⟩
          rw [← HWU.out] at hY ⊢
          have hb3 : Below wr.heap.size wr w3 := hO.nil
          have HR3 := Lib.hid (HR1.out.below HR1.out.lt hb3); have HY := Lib.hid hY
          have HB3 := Lib.hid (HBE.out.trans (hb3.mono HBE.out.size))
          clear hb3 hY hO f0
          go_wp2_with (refine wpList_store15 (t := t.whole (n + 1)) (A := Y) (by rfl) (by rfl) (by rfl) (by rfl) (by rfl) HR3.out (by decide) ?_)
          intro wE hcl hkE hsE hbl
          have hz := HZ.out
          have hbe : Below w.heap.size w wE := hbl _ _ (by omega) HB3.out
          have hok : TOkA S wE (t.whole (n + 1)) Y := HY.out.step (Nat.le_of_eq hsE.symm) fun q h1 h2 => ⟨fun h => h2 (HSS.out.1 q h), hkE q fun e => h2 (by rw [e]; exact HSS.out.2.2.1)⟩
          have HPOST := Lib.hid hok; have HBE2 := Lib.hid hbe
          clear hbl hbe hok hz hkE hsE
          go_wp2_with fail
          refine bodyPost_ret (v := TT.val (t.whole (n + 1)) Y) ?_ rfl ⟨_, rfl, ⟨Y, rfl, HPOST.out⟩, HBE2.out⟩
          exact results_cell Try.results72 rfl hcl
end Go.Proofs.Yteebbffecaeciaa
