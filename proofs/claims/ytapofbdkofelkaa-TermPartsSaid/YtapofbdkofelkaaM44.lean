/- Texts of this claim laid into one: VTable. -/
import Derived.Test.YtapofbdkofelkaaM39
import Derived.Test.YtapofbdkofelkaaM08
import Derived.Test.YtapofbdkofelkaaM01
import Derived.Deep.MidRow
import Derived.Great.BuildSlice
/- Tables: rows of several cells each, in one block of their own; a box of several cells. -/
namespace Go.Proofs.Ytapofbdkofelkaa
open Go.RowKit

/-- the cells of all rows, one behind another. -/
def flatV (vs : List Value) : List Value := vs.flatMap fun v => v.cells.toList
theorem range_below {w w' : World} {b o : Nat} {cs : List Value} (hb : Below w.heap.size w w') (h : w.rangeAt b o cs) : w'.rangeAt b o cs := fun j v hv => cell_stays hb (h j v hv)
theorem flatV_length {k : Nat} : ∀ (vs : List Value), (∀ v ∈ vs, v.cells.size = k) → (flatV vs).length = vs.length * k
  | [], _ => by simp [flatV]
  | v :: vs, h => by
    have ih := flatV_length vs (fun v hv => h v (List.mem_cons_of_mem _ hv))
    have h0 := h v List.mem_cons_self
    simp only [flatV, List.flatMap_cons, List.length_append, List.length_cons, Array.length_toList] at ih ⊢
    rw [ih, h0, Nat.add_mul]; omega
theorem table_new (w : World) (e k : Nat) (vs : List Value) (h0 : 0 < k) (hk : ∀ v ∈ vs, v.cells.size = k) : ∃ w2, w.alloc (.cells (flatV vs).toArray e) = w2 ∧ Below w.heap.size w w2 ∧ w.heap.size < w2.heap.size ∧ RowAt w2 e w.heap.size (vs.length * k) ∧
    ∀ i (hi : i < vs.length), w2.rangeAt w.heap.size (i * k) vs[i].cells.toList := by
  refine ⟨_, rfl, Below.al _, by simp, ?_, fun i hi j v hv => ?_⟩
  · have h := RowAt.new w (flatV vs).toArray e
    have e1 : (flatV vs).toArray.size = vs.length * k := by rw [List.size_toArray, flatV_length vs hk]
    rw [e1] at h
    exact h
  · have hj : j < k := by
      have := (List.getElem?_eq_some_iff.1 hv).1
      rw [Array.length_toList, hk _ (List.getElem_mem hi)] at this
      exact this
    have hg := Great.flat_get h0 vs hk (i * k + j)
    have e1 : (i * k + j) / k = i := by rw [Nat.add_comm, Nat.add_mul_div_right _ _ h0, Nat.div_eq_of_lt hj]; omega
    have e2 : (i * k + j) % k = j := by rw [Nat.add_comm, Nat.add_mul_mod_self_right]; exact Nat.mod_eq_of_lt hj
    rw [e1, e2, List.getElem?_eq_getElem hi] at hg
    have hc : (w.alloc (.cells (flatV vs).toArray e)).cell? ⟨w.heap.size, i * k + j, none⟩ = (flatV vs)[i * k + j]? := by go_simp
    rw [hc]
    show (List.flatMap _ vs)[_]? = _
    rw [hg]
    simpa using hv
section
variable {P : Program} {w : World}
theorem run_table {o : Oper} {r : Operand → Value} {t e n k : Nat} {parts : Array (Nat × Operand)} (vs : List Value) (ho : o.op = .buildSlice t n parts) (hu : P.underlying t = some (.slice e)) (hi : (P.info? e).map (·.size) = some k) (hz : ((P.info? e).bind (·.zero)).isSome = true)
    (hp : (parts.map fun (i, x) => (i, r x)).toList = (vs.zipIdx 0).map fun x => (x.2, x.1)) (hn : n = vs.length) (hk : ∀ v ∈ vs, v.cells.size = k) (h0 : 0 < k) (hn0 : 0 < n) (hs : n * k ≤ 16777216) {w2 : World} (hw : w.alloc (.cells (flatV vs).toArray e) = w2) :
    (execOp r o).run P w = .ok (.value (.slice (some ⟨w.heap.size, 0, none⟩) n n)) w2 := by
  cases hie : P.info? e with
  | none => simp [hie] at hi
  | some ie =>
    simp only [hie, Option.map_some, Option.some.injEq, Option.bind_some] at hi hz
    obtain ⟨z, hzz⟩ := Option.isSome_iff_exists.1 hz
    have hpos : 0 < n * k := Nat.mul_pos hn0 h0
    have h := run_buildSlice (P := P) w t e n (parts.map fun (i, x) => (i, r x)) (flatV vs).toArray ie z hu hie hzz (by rw [hi]; omega) (by rw [hi]; omega) (by
      rw [hp, hi]
      exact Great.fill_whole h0 vs _ hk (by simp [hn]))
    obtain ⟨od, oo, ot, op, oa, og⟩ := o
    simp only at ho
    subst ho
    rw [hw] at h
    unfold execOp
    simp only [Sem.run_bind, h, Result.andThen_ok]
    rfl
theorem wpList_table {ops : Array Oper} {rest : List Oper} {o : Oper} {a : Act} {Q : Exit → Act → World → Prop} {t e n k : Nat} {parts : Array (Nat × Operand)} (vs : List Value) (g : o.guard = none) (ho : o.op = .buildSlice t n parts) (hu : P.underlying t = some (.slice e)) (hi : (P.info? e).map (·.size) = some k) (hz : ((P.info? e).bind (·.zero)).isSome = true)
    (hp : (parts.map fun (i, x) => (i, a.eval x)).toList = (vs.zipIdx 0).map fun x => (x.2, x.1)) (hn : n = vs.length) (hk : ∀ v ∈ vs, v.cells.size = k) (h0 : 0 < k) (hn0 : 0 < n) (hs : n * k ≤ 16777216)
    (hK : ∀ w2, Below w.heap.size w w2 → w.heap.size < w2.heap.size → RowAt w2 e w.heap.size (vs.length * k) → (∀ i (hi : i < vs.length), w2.rangeAt w.heap.size (i * k) vs[i].cells.toList) → wpList P ops Q rest (a.put o.dst (.slice (some ⟨w.heap.size, 0, none⟩) n n)) w2) :
    wpList P ops Q (o :: rest) a w := by
  obtain ⟨w2, hw, hb, hlt, hr, hc⟩ := table_new w e k vs h0 hk
  refine wpList_plain g fun K hK' => ?_
  unfold Oper.wp
  rw [run_table vs ho hu hi hz hp hn hk h0 hn0 hs hw]
  exact hK' _ _ (hK w2 hb hlt hr hc)
/-- an array is built, all of it. -/
theorem built_array {t n e k : Nat} (vs : List Value) (hu : P.underlying t = some (.array n e)) (hi : (P.info? e).map (·.size) = some k) (hz : ((P.info? t).bind (·.zero)).map (·.cells.size) = some (n * k)) (hn : vs.length = n) (hk : ∀ v ∈ vs, v.cells.size = k) (h0 : 0 < k) :
    P.built t ((vs.zipIdx 0).map fun x => (x.2, x.1)) = some (flatV vs).toArray := by
  cases hie : P.info? e with
  | none => simp [hie] at hi
  | some ie =>
    cases hit : P.info? t with
    | none => simp [hit] at hz
    | some it =>
      cases hzz : it.zero with
      | none => simp [hit, hzz] at hz
      | some z =>
        simp only [hie, hit, hzz, Option.map_some, Option.some.injEq, Option.bind_some] at hi hz
        unfold Program.built
        simp only [hit, hu, hzz, hie]
        rw [hi]
        exact Great.fill_whole h0 vs _ hk (by rw [hn, hz])
theorem run_loadM {b q : Nat} {T : TypeId} {cells : Array Value} {d : TypeDesc} (hc : w.rangeAt b q cells.toList) {o : Oper} {r : Operand → Value} {po : Operand} (ho : o.op = .load T po) (e1 : r po = .pointer (some ⟨b, q, none⟩)) (hu : P.underlying T = some d) (hd : d.isRow = true) (hi : (P.info? T).map (·.size) = some cells.size) :
    (execOp r o).run P w = .ok (.value (.agg cells)) w := by
  obtain ⟨od, oo, ot, op, oa, og⟩ := o
  simp only at ho
  subst ho
  have h := run_loadAt_mid (P := P) w b q T _ _ hc hu hd (by simpa using hi)
  unfold execOp
  simp only [e1, Sem.run_bind, Sem.run_pure, h, Result.andThen_ok]
theorem wpList_loadM {ops : Array Oper} {rest : List Oper} {o : Oper} {a : Act} {Q : Exit → Act → World → Prop} {b q : Nat} {T : TypeId} {cells : Array Value} {d : TypeDesc} {po : Operand} (g : o.guard = none) (ho : o.op = .load T po) (e1 : a.eval po = .pointer (some ⟨b, q, none⟩)) (hc : w.rangeAt b q cells.toList) (hu : P.underlying T = some d) (hd : d.isRow = true) (hi : (P.info? T).map (·.size) = some cells.size)
    (hK : wpList P ops Q rest (a.put o.dst (.agg cells)) w) : wpList P ops Q (o :: rest) a w :=
  wpList_plain g fun _ hK' => by
    unfold Oper.wp
    rw [run_loadM hc ho e1 hu hd hi]
    exact hK' _ _ hK
theorem run_allocM {o : Oper} {r : Operand → Value} {T k : Nat} (ho : o.op = .alloc T) (hi : (P.info? T).map (·.size) = some k) (hz : ((P.info? T).bind (·.zero)).map (·.cells.size) = some k) :
    ∃ z : Array Value, z.size = k ∧ (execOp r o).run P w = .ok (.value (.pointer (some ⟨w.heap.size, 0, none⟩))) (w.alloc (.cells z T)) := by
  cases hie : P.info? T with
  | none => simp [hie] at hi
  | some ie =>
    simp only [hie, Option.map_some, Option.some.injEq, Option.bind_some] at hi hz
    cases hzz : ie.zero with
    | none => simp [hzz] at hz
    | some z =>
      simp only [hzz, Option.map_some, Option.some.injEq] at hz
      refine ⟨z.cells, hz, ?_⟩
      obtain ⟨od, oo, ot, op, oa, og⟩ := o
      simp only at ho
      subst ho
      unfold execOp
      simp [Instr.alloc, zeroValue, typeInfo, hie, hzz, newVar, newRow, Sem.run_bind]
/-- a box of k cells that is written at once. -/
theorem wpList_boxM {ops : Array Oper} {rest : List Oper} {o1 o2 : Oper} {a : Act} {Q : Exit → Act → World → Prop} {T k d : Nat} {cells : Array Value} {xo : Operand} (g1 : o1.guard = none) (h1 : o1.op = .alloc T) (d1 : o1.dst = some d) (g2 : o2.guard = none) (h2 : o2.op = .store T (.tmp d) xo) (d2 : o2.dst = none)
    (e1 : (a.put (some d) (.pointer (some ⟨w.heap.size, 0, none⟩))).eval (.tmp d) = .pointer (some ⟨w.heap.size, 0, none⟩)) (e2 : (a.put (some d) (.pointer (some ⟨w.heap.size, 0, none⟩))).eval xo = .agg cells)
    (hi : (P.info? T).map (·.size) = some k) (hz : ((P.info? T).bind (·.zero)).map (·.cells.size) = some k) (hs : cells.size = k) (hone : cells.all (·.oneCell') = true)
    (hK : ∀ wE, wE.rangeAt w.heap.size 0 cells.toList → Below w.heap.size w wE → w.heap.size < wE.heap.size → RowAt wE T w.heap.size k → wpList P ops Q rest (a.put (some d) (.pointer (some ⟨w.heap.size, 0, none⟩))) wE) : wpList P ops Q (o1 :: o2 :: rest) a w := by
  obtain ⟨z, hzs, hrun⟩ := run_allocM (w := w) (r := a.eval) h1 hi hz
  refine wpList_plain g1 fun K hK' => ?_
  unfold Oper.wp
  rw [hrun, Oper.upon_value]
  refine hK' _ _ ?_
  rw [d1]
  have R : RowAt (w.alloc (.cells z T)) T w.heap.size k := by have h := RowAt.new w z T; rw [hzs] at h; exact h
  have hth : (w.alloc (.cells z T)).there w.heap.size 0 cells.toList.length := fun j hj => by
    rw [Array.length_toList, hs] at hj
    obtain ⟨v, hv⟩ := R.cell (0 + j) (by omega)
    exact ⟨by rw [hv]; rfl, R.frozen _⟩
  refine wpList_store_mid g2 T _ _ h2 w.heap.size 0 cells e1 e2 (by rw [Array.length_toList] at hth; exact hth) (by rw [hs]; exact hi) hone ?_
  rw [d2]
  have hb : Below w.heap.size w ((w.alloc (.cells z T)).setCells w.heap.size 0 cells.toList) := below_setRow w.heap.size (Nat.le_refl _) _ _ _ (Below.al _)
  exact hK _ (World.rangeAt_setCells_same _ _ _ _ hth) hb (by rw [size_setRow]; simp) (R.sets _ _ _ _)
end
end Go.Proofs.Ytapofbdkofelkaa
