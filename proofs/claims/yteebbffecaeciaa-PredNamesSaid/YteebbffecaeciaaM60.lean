/- Texts of this claim laid into one: PNamesB. -/
import Derived.Test.YteebbffecaeciaaM51
import Derived.Test.YteebbffecaeciaaM56
import Derived.Test.YteebbffecaeciaaM37
import Derived.Test.YteebbffecaeciaaM32
/- PredNames: tables of predicates in memory, and append onto a row that is full. -/
namespace Go.Proofs.Yteebbffecaeciaa
open Go.RowKit

/-- append onto a row that is full lays a new one. -/
theorem full_append {P : Program} {w : World} {T k len b : Nat} {xs : List Value} (hsz : xs.length = len * k) (hc : ∀ j v, xs[j]? = some v → w.cell? ⟨b, j, none⟩ = some v)
    {t tx ty : TypeId} {i : TypeInfo} {z : Value} {bytes : Nat} (ht : P.underlying t = some (.slice T)) (hi : P.info? T = some i) (hz : i.zero = some z) (hs : i.size = k) (hby : i.bytes = bytes)
    {x : Value} {n : Nat} {news : List Value} (src : Src P k tx x n news w) (hn0 : 0 < n) (hn : (len + n) * bytes ≤ 140737488355328) (h63 : len + n ≤ 9223372036854775807) :
    ∃ cap' w', (Builtin.append_ #[t, tx] ty #[.slice (some ⟨b, 0, none⟩) len len, x]).run P w = .ok (.slice (some ⟨w.heap.size, 0, none⟩) (len + n) cap') w' ∧ (∀ j v, (xs ++ news)[j]? = some v → w'.cell? ⟨w.heap.size, j, none⟩ = some v) ∧ Below w.heap.size w w' := by
  subst hs
  have hold : (Builtin.firstCells i.size len (.slice (some ⟨b, 0, none⟩) len len)).run P w.drew = .ok xs.toArray w.drew :=
    run_firstCells_some _ _ _ _ _ _ xs hsz (fun j v hv => by have := hc j v hv; simpa [Addr.add_lit] using this)
  have hfit := growslice_fits (need := len + n) (old := len) (bytes := i.bytes) (by omega) (by rw [hby]; omega)
  have := run_append_grow_src (ty := ty) w t tx T i z ht hi hz (some ⟨b, 0, none⟩) len len xs hold x n news src (by omega) (by omega) hfit
  refine ⟨_, _, this, fun j v hv => ?_, (Below.refl _ _).drew.alloc (Nat.le_refl _) _⟩
  obtain ⟨hl, rfl⟩ := List.getElem?_eq_some_iff.1 hv
  show (World.alloc w.drew _).cell? _ = _
  rw [show w.heap.size = w.drew.heap.size from rfl]
  go_simp
  rw [Array.getElem?_append_left (by simpa using hl)]
  simp
theorem pfull {w : World} {l m : List PT} {b c : Nat} {a : Option Addr} (hr : PRow w l (some ⟨b, 0, none⟩)) (hm : PRow w m a) (_ : 0 < l.length) (h1 : 0 < m.length) (hn : l.length + m.length ≤ 100000) :
    ∃ cap' w', (Builtin.append_ #[26, 26] 26 #[.slice (some ⟨b, 0, none⟩) l.length l.length, .slice a m.length c]).run Try.prog w = .ok (.slice (some ⟨w.heap.size, 0, none⟩) (l.length + m.length) cap') w' ∧ PRow w' (l ++ m) (some ⟨w.heap.size, 0, none⟩) ∧ Below w.heap.size w w' := by
  obtain ⟨i0, hi0, hz0, hz1, hz2⟩ := info_parts zeroP
  obtain ⟨news, hs, hni⟩ := psrc c hm (Below.refl _ _)
  have key : ∀ j, j < l.length * 6 → ∃ u, w.cell? ⟨b, 0 + j, none⟩ = some u ∧ u.oneCell' = true := fun j hj => hr.cell_at j hj
  obtain ⟨xs, hxs⟩ : ∃ xs, xs = (List.range (l.length * 6)).map fun j => (w.cell? ⟨b, 0 + j, none⟩).getD .nilIface := ⟨_, rfl⟩
  have hlen : xs.length = l.length * 6 := by rw [hxs]; simp
  have hget : ∀ j, j < l.length * 6 → ∀ u, w.cell? ⟨b, 0 + j, none⟩ = some u → xs[j]? = some u := fun j hj u hu => by
    rw [hxs, List.getElem?_map, List.getElem?_range hj]; simp only [Nat.zero_add] at hu ⊢; simp [hu]
  have hc : ∀ j v, xs[j]? = some v → w.cell? ⟨b, j, none⟩ = some v := fun j v hv => by
    have hj : j < l.length * 6 := by rw [← hlen]; exact (List.getElem?_eq_some_iff.1 hv).1
    obtain ⟨u, hu, _⟩ := key j hj
    rw [hget j hj u hu] at hv
    cases hv
    rwa [Nat.zero_add] at hu
  have hpi : PIt w l xs := ⟨hlen, fun i hi => by
    obtain ⟨b', o', e, va, vc, a', cap', d0, d1, d2, d3, d4, d5, hv⟩ := hr.got i hi
    cases e
    exact ⟨_, _, _, _, _, _, hget _ (by omega) _ d0, hget _ (by omega) _ d1, hget _ (by omega) _ d2, hget _ (by omega) _ d3, hget _ (by omega) _ d4, hget _ (by omega) _ d5, hv⟩⟩
  obtain ⟨cap', w', hrun, hcell, hb⟩ := full_append (P := Try.prog) (ty := 26) hlen hc Try.underlying26 hi0 hz0 hz1 hz2 hs h1 (by omega) (by omega)
  refine ⟨cap', w', hrun, PRow.of _ _ 0 fun i h => ?_, hb⟩
  obtain ⟨v0, v1, v2, v3, v4, v5, e0, e1, e2, e3, e4, e5, hv⟩ := (hpi.append hni).2 i h
  exact ⟨v0, v1, v2, v3, v4, v5, by rw [Nat.zero_add]; exact hcell _ _ e0, by rw [Nat.zero_add]; exact hcell _ _ e1, by rw [Nat.zero_add]; exact hcell _ _ e2, by rw [Nat.zero_add]; exact hcell _ _ e3, by rw [Nat.zero_add]; exact hcell _ _ e4, by rw [Nat.zero_add]; exact hcell _ _ e5, hv.below hb⟩
theorem run_appendP {P : Program} {o : Oper} {r : Operand → Value} {w w' : World} {s x : Operand} {t : TypeId} {sv xv v : Value} (hop : o.op = Op.call { callee := Callee.builtin Builtin.append, args := #[s, x], argTypes := #[t, t] }) (hs : r s = sv) (hx : r x = xv)
    (hrun : (Builtin.append_ #[t, t] o.type #[sv, xv]).run P w = .ok v w') : (execOp r o).run P w = .ok (.value v) w' := by
  simp [execOp, hop, resolve, invoke, builtin, hs, hx, hrun]
theorem run_builtP {P : Program} {w : World} {o : Oper} {r : Operand → Value} {t : TypeId} {parts : Array (Nat × Operand)} (ho : o.op = .build t parts) (cells : Array Value) (hf : P.built t (parts.map fun (i, x) => (i, r x)).toList = some cells) :
    (execOp r o).run P w = .ok (.value (.agg cells)) w := by
  obtain ⟨od, oo, ot, op, oa, og⟩ := o
  simp only at ho
  subst ho
  unfold execOp
  simp only [Sem.run_bind, run_build w t _ cells hf, Result.andThen_ok]
  rfl
/-- what a temporary holds. -/
inductive NQ where
  | q (k : PQ)
  | prop (R : Value → World → Prop) (m : ∀ v w w', R v w → Below w.heap.size w w' → R v w')
def NQ.ok : NQ → Value → World → Prop
  | .q k, v, w => k.ok v w
  | .prop R _, v, w => R v w
def kindN (ks : List (Nat × NQ)) (d : Nat) (v : Value) (w : World) : Prop := ((ks.lookup d).getD (.q (.fixed v))).ok v w
theorem kindN_mono (ks : List (Nat × NQ)) (d : Nat) (v : Value) (w w' : World) (h : kindN ks d v w) (hb : Below w.heap.size w w') : kindN ks d v w' := by
  unfold kindN at *
  generalize (ks.lookup d).getD (.q (.fixed v)) = k at *
  cases k with
  | q k => exact PQ.mono hb _ _ h
  | prop R m => exact m _ _ _ h hb
section
variable {A : List Nat} {o : Oper} {r : Operand → Value} {w : World} {d : Nat} {ks : List (Nat × NQ)}
theorem sn_value {v : Value} (hd : o.dst = some d) (hA : decide (d ∉ A) = true) (h : (execOp r o).run Try.prog w = .ok (.value v) w) (hk : kindN ks d v w) :
    OpDoes Try.prog o r w fun v w' => (∀ d, o.dst = some d → kindN ks d v w' ∧ (d ∈ A → IsBlock v w.heap.size)) ∧ Below w.heap.size w w' :=
  .value h ⟨fun d' e => by rw [hd] at e; cases e; exact ⟨hk, fun h => absurd h (of_decide_eq_true hA)⟩, Below.refl _ _⟩
theorem sn_new {v : Value} {w' : World} (hd : o.dst = some d) (hA : decide (d ∉ A) = true) (h : (execOp r o).run Try.prog w = .ok (.value v) w') (hb : Below w.heap.size w w') (hk : kindN ks d v w') :
    OpDoes Try.prog o r w fun v w' => (∀ d, o.dst = some d → kindN ks d v w' ∧ (d ∈ A → IsBlock v w.heap.size)) ∧ Below w.heap.size w w' :=
  .value h ⟨fun d' e => by rw [hd] at e; cases e; exact ⟨hk, fun h => absurd h (of_decide_eq_true hA)⟩, hb⟩
theorem sn_call {f : FuncId} {args : Array Value} (hd : o.dst = some d) (hA : decide (d ∉ A) = true) (h : (execOp r o).run Try.prog w = .ok (.enter f args) w) (hc : Calls Try.prog f args w fun e w' => ∃ v, e = .returned v ∧ kindN ks d v w' ∧ Below w.heap.size w w') :
    OpDoes Try.prog o r w fun v w' => (∀ d, o.dst = some d → kindN ks d v w' ∧ (d ∈ A → IsBlock v w.heap.size)) ∧ Below w.heap.size w w' :=
  .enter h (hc.mono fun e w' ⟨v, he, hk, hb⟩ => ⟨v, he, fun d' e => by rw [hd] at e; cases e; exact ⟨hk, fun h => absurd h (of_decide_eq_true hA)⟩, hb⟩)
end
/-- a predicate's six cells; a value's three. -/
structure PC where
  k : Int
  vk : Int
  vn : Int
  va : Option Addr
  vl : Nat
  vc : Nat
  n : Int
  a : Option Addr
  len : Nat
  cap : Nat
def PC.cells (c : PC) : Array Value := #[.int .u8 c.k, .int .u8 c.vk, .int .i64 c.vn, .slice c.va c.vl c.vc, .int .i64 c.n, .slice c.a c.len c.cap]
structure VC where
  k : Int
  n : Int
  a : Option Addr
  len : Nat
  cap : Nat
def VC.cells (c : VC) : Array Value := #[.int .u8 c.k, .int .i64 c.n, .slice c.a c.len c.cap]
theorem PIn.pc {w : World} {t : PT} {v : Value} (h : PIn w t v) : ∃ c : PC, v = .agg c.cells := by
  obtain ⟨k, vk, vn, va, vl, vc, n, a, len, cap, e⟩ := PIn.agg h
  exact ⟨⟨k, vk, vn, va, vl, vc, n, a, len, cap⟩, e⟩
theorem VIn.vc {w : World} {t : VT} {v : Value} (h : VIn w t v) : ∃ c : VC, v = .agg c.cells := by
  obtain ⟨k, n, a, len, cap, e⟩ := VIn.agg h
  exact ⟨⟨k, n, a, len, cap⟩, e⟩
theorem BoxP.pc {w : World} {B : Nat} {t : PT} (h : BoxP w B t) : ∃ c : PC, (w.cell? ⟨B, 0, none⟩ = some (.int .u8 c.k) ∧ w.cell? ⟨B, 1, none⟩ = some (.int .u8 c.vk) ∧ w.cell? ⟨B, 2, none⟩ = some (.int .i64 c.vn) ∧ w.cell? ⟨B, 3, none⟩ = some (.slice c.va c.vl c.vc) ∧ w.cell? ⟨B, 4, none⟩ = some (.int .i64 c.n) ∧ w.cell? ⟨B, 5, none⟩ = some (.slice c.a c.len c.cap)) ∧ PIn w t (.agg c.cells) := by
  obtain ⟨k, vk, vn, va, vl, vc, n, a, len, cap, z0, z1, z2, z3, z4, z5, h⟩ := h
  exact ⟨⟨k, vk, vn, va, vl, vc, n, a, len, cap⟩, ⟨z0, z1, z2, z3, z4, z5⟩, h⟩
theorem BoxV.vc {w : World} {B : Nat} {t : VT} (h : BoxV w B t) : ∃ c : VC, (w.cell? ⟨B, 0, none⟩ = some (.int .u8 c.k) ∧ w.cell? ⟨B, 1, none⟩ = some (.int .i64 c.n) ∧ w.cell? ⟨B, 2, none⟩ = some (.slice c.a c.len c.cap)) ∧ VIn w t (.agg c.cells) := by
  obtain ⟨k, n, a, len, cap, z0, z1, z2, h⟩ := h
  exact ⟨⟨k, n, a, len, cap⟩, ⟨z0, z1, z2⟩, h⟩
/-- a row of the first table. -/
def R1cells (c : PC) (p e : Int) : Array Value := #[.int .u8 c.k, .int .u8 c.vk, .int .i64 c.vn, .slice c.va c.vl c.vc, .int .i64 c.n, .slice c.a c.len c.cap, .int .i64 p, .int .i64 e]
def R1Ok (t : PT) (p e : Int) (v : Value) (w : World) : Prop := ∃ c : PC, v = .agg (R1cells c p e) ∧ PIn w t (.agg c.cells)
theorem R1Ok.mono (t : PT) (p e : Int) (v : Value) (w w' : World) : R1Ok t p e v w → Below w.heap.size w w' → R1Ok t p e v w' := fun ⟨c, h, ok⟩ hb => ⟨c, h, ok.below hb⟩
theorem run_r1 {w : World} {o : Oper} {r : Operand → Value} {x0 x1 x2 : Operand} (c : PC) (p e : Int) (ho : o.op = .build 34 #[(0, x0), (1, x1), (2, x2)]) (e0 : r x0 = .agg c.cells) (e1 : r x1 = .int .i64 p) (e2 : r x2 = .int .i64 e) : (execOp r o).run Try.prog w = .ok (.value (.agg (R1cells c p e))) w :=
  run_builtP ho _ (by
    have h : (Array.map (fun (y : Nat × Operand) => (y.1, r y.2)) #[(0, x0), (1, x1), (2, x2)]).toList = [(0, .agg c.cells), (1, .int .i64 p), (2, .int .i64 e)] := by simp [e0, e1, e2]
    exact (congrArg (Program.built Try.prog 34) h).trans (by kernel_rfl))
def T1Ok (ts : List (PT × (Int × Int))) (v : Value) (w : World) : Prop := ∃ B, v = .slice (some ⟨B, 0, none⟩) ts.length ts.length ∧ ∀ i (h : i < ts.length), ∃ c : PC, w.rangeAt B (i * 8) (R1cells c ts[i].2.1 ts[i].2.2).toList ∧ PIn w ts[i].1 (.agg c.cells)
theorem range_stay {w w' : World} {B o : Nat} {xs : List Value} (hb : Below w.heap.size w w') (h : w.rangeAt B o xs) : w'.rangeAt B o xs := fun j v hj => cell_stays hb (h j v hj)
theorem T1Ok.mono (ts : List (PT × (Int × Int))) (v : Value) (w w' : World) : T1Ok ts v w → Below w.heap.size w w' → T1Ok ts v w' := fun ⟨B, e, ok⟩ hb => ⟨B, e, fun i h => by obtain ⟨c, h1, h2⟩ := ok i h; exact ⟨c, range_stay hb h1, h2.below hb⟩⟩
theorem run_t1 {w : World} {r : Operand → Value} {n : Nat} {parts : Array (Nat × Operand)} (ts : List (PT × (Int × Int))) (cs : List PC) (hn : n = ts.length) (hA : cs.length = ts.length) (h0 : 0 < n) (hs : n ≤ 1000)
    (hp : (parts.map fun (i, x) => (i, r x)).toList = (((ts.zip cs).map fun x => Value.agg (R1cells x.2 x.1.2.1 x.1.2.2)).zipIdx 0).map fun x => (x.2, x.1)) (hok : ∀ x ∈ ts.zip cs, PIn w x.1.1 (.agg x.2.cells)) :
    ∃ w2, (∀ o : Oper, o.op = .buildSlice 36 n parts → (execOp r o).run Try.prog w = .ok (.value (.slice (some ⟨w.heap.size, 0, none⟩) n n)) w2) ∧ Below w.heap.size w w2 ∧ T1Ok ts (.slice (some ⟨w.heap.size, 0, none⟩) n n) w2 := by
  have hk : ∀ v ∈ ((ts.zip cs).map fun x => Value.agg (R1cells x.2 x.1.2.1 x.1.2.2)), v.cells.size = 8 := by
    intro v hv
    obtain ⟨x, _, rfl⟩ := List.mem_map.1 hv
    rfl
  have hlz : (ts.zip cs).length = ts.length := by rw [List.length_zip, hA, Nat.min_self]
  obtain ⟨w2, hw, hb, _, _, hc⟩ := table_new w 34 8 _ (by decide) hk
  refine ⟨w2, fun o ho => run_table (k := 8) _ ho Try.underlying36 (by kernel_rfl) (by kernel_rfl) hp (by rw [List.length_map, hlz, hn]) hk (by decide) h0 (by omega) hw, hb, w.heap.size, by rw [hn], fun i h => ?_⟩
  have hi : i < (ts.zip cs).length := by omega
  have := hc i (by rw [List.length_map]; exact hi)
  rw [List.getElem_map, List.getElem_zip] at this
  exact ⟨cs[i], this, (hok _ (by have := List.getElem_mem hi; rwa [List.getElem_zip] at this)).below hb⟩
/-- a row of the second table. -/
def R2cells (c : PC) (d : VC) (b : Bool) : Array Value := #[.int .u8 c.k, .int .u8 c.vk, .int .i64 c.vn, .slice c.va c.vl c.vc, .int .i64 c.n, .slice c.a c.len c.cap, .int .u8 d.k, .int .i64 d.n, .slice d.a d.len d.cap, .bool b]
def R2Ok (t : PT) (x : VT) (b : Bool) (v : Value) (w : World) : Prop := ∃ (c : PC) (d : VC), v = .agg (R2cells c d b) ∧ PIn w t (.agg c.cells) ∧ VIn w x (.agg d.cells)
theorem R2Ok.mono (t : PT) (x : VT) (b : Bool) (v : Value) (w w' : World) : R2Ok t x b v w → Below w.heap.size w w' → R2Ok t x b v w' := fun ⟨c, d, h, ok, ok2⟩ hb => ⟨c, d, h, ok.below hb, ok2.below hb⟩
theorem run_r2 {w : World} {o : Oper} {r : Operand → Value} {x0 x1 x2 : Operand} (c : PC) (d : VC) (b : Bool) (ho : o.op = .build 39 #[(0, x0), (1, x1), (2, x2)]) (e0 : r x0 = .agg c.cells) (e1 : r x1 = .agg d.cells) (e2 : r x2 = .bool b) : (execOp r o).run Try.prog w = .ok (.value (.agg (R2cells c d b))) w :=
  run_builtP ho _ (by
    have h : (Array.map (fun (y : Nat × Operand) => (y.1, r y.2)) #[(0, x0), (1, x1), (2, x2)]).toList = [(0, .agg c.cells), (1, .agg d.cells), (2, .bool b)] := by simp [e0, e1, e2]
    exact (congrArg (Program.built Try.prog 39) h).trans (by kernel_rfl))
def T2Ok (ts : List (PT × VT × Bool)) (v : Value) (w : World) : Prop := ∃ B, v = .slice (some ⟨B, 0, none⟩) ts.length ts.length ∧ ∀ i (h : i < ts.length), ∃ (c : PC) (d : VC), w.rangeAt B (i * 10) (R2cells c d ts[i].2.2).toList ∧ PIn w ts[i].1 (.agg c.cells) ∧ VIn w ts[i].2.1 (.agg d.cells)
theorem T2Ok.mono (ts : List (PT × VT × Bool)) (v : Value) (w w' : World) : T2Ok ts v w → Below w.heap.size w w' → T2Ok ts v w' := fun ⟨B, e, ok⟩ hb => ⟨B, e, fun i h => by obtain ⟨c, d, h1, h2, h3⟩ := ok i h; exact ⟨c, d, range_stay hb h1, h2.below hb, h3.below hb⟩⟩
theorem run_t2 {w : World} {r : Operand → Value} {n : Nat} {parts : Array (Nat × Operand)} (ts : List (PT × VT × Bool)) (cs : List (PC × VC)) (hn : n = ts.length) (hA : cs.length = ts.length) (h0 : 0 < n) (hs : n ≤ 1000)
    (hp : (parts.map fun (i, x) => (i, r x)).toList = (((ts.zip cs).map fun x => Value.agg (R2cells x.2.1 x.2.2 x.1.2.2)).zipIdx 0).map fun x => (x.2, x.1)) (hok : ∀ x ∈ ts.zip cs, PIn w x.1.1 (.agg x.2.1.cells) ∧ VIn w x.1.2.1 (.agg x.2.2.cells)) :
    ∃ w2, (∀ o : Oper, o.op = .buildSlice 40 n parts → (execOp r o).run Try.prog w = .ok (.value (.slice (some ⟨w.heap.size, 0, none⟩) n n)) w2) ∧ Below w.heap.size w w2 ∧ T2Ok ts (.slice (some ⟨w.heap.size, 0, none⟩) n n) w2 := by
  have hk : ∀ v ∈ ((ts.zip cs).map fun x => Value.agg (R2cells x.2.1 x.2.2 x.1.2.2)), v.cells.size = 10 := by
    intro v hv
    obtain ⟨x, _, rfl⟩ := List.mem_map.1 hv
    rfl
  have hlz : (ts.zip cs).length = ts.length := by rw [List.length_zip, hA, Nat.min_self]
  obtain ⟨w2, hw, hb, _, _, hc⟩ := table_new w 39 10 _ (by decide) hk
  refine ⟨w2, fun o ho => run_table (k := 10) _ ho Try.underlying40 (by kernel_rfl) (by kernel_rfl) hp (by rw [List.length_map, hlz, hn]) hk (by decide) h0 (by omega) hw, hb, w.heap.size, by rw [hn], fun i h => ?_⟩
  have hi : i < (ts.zip cs).length := by omega
  have := hc i (by rw [List.length_map]; exact hi)
  rw [List.getElem_map, List.getElem_zip] at this
  have hk2 := hok _ (by have := List.getElem_mem hi; rwa [List.getElem_zip] at this)
  exact ⟨cs[i].1, cs[i].2, this, hk2.1.below hb, hk2.2.below hb⟩
/-- a row of predicates, built at one time. -/
theorem run_prow {w : World} {r : Operand → Value} {n : Nat} {parts : Array (Nat × Operand)} (L : List (PT × PC)) (hn : n = L.length) (h0 : 0 < n) (hs : n ≤ 1000) (hp : (parts.map fun (i, x) => (i, r x)).toList = ((L.map fun x => Value.agg x.2.cells).zipIdx 0).map fun x => (x.2, x.1)) (hok : ∀ x ∈ L, PIn w x.1 (.agg x.2.cells)) :
    ∃ w2, (∀ o : Oper, o.op = .buildSlice 26 n parts → (execOp r o).run Try.prog w = .ok (.value (.slice (some ⟨w.heap.size, 0, none⟩) n n)) w2) ∧ Below w.heap.size w w2 ∧ PRow w2 (L.map (·.1)) (some ⟨w.heap.size, 0, none⟩) := by
  have hk : ∀ v ∈ (L.map fun x => Value.agg x.2.cells), v.cells.size = 6 := by
    intro v hv
    obtain ⟨x, _, rfl⟩ := List.mem_map.1 hv
    rfl
  obtain ⟨w2, hw, hb, _, _, hc⟩ := table_new w 28 6 _ (by decide) hk
  refine ⟨w2, fun o ho => run_table (k := 6) _ ho Try.underlying26 (by kernel_rfl) (by kernel_rfl) hp (by rw [List.length_map, hn]) hk (by decide) h0 (by omega) hw, hb, PRow.of _ _ 0 fun i h => ?_⟩
  have hi : i < L.length := by simpa using h
  have := hc i (by rw [List.length_map]; exact hi)
  rw [List.getElem_map] at this
  rw [List.getElem_map, Nat.zero_add]
  exact ⟨_, _, _, _, _, _, by simpa using this 0 _ rfl, this 1 _ rfl, this 2 _ rfl, this 3 _ rfl, this 4 _ rfl, this 5 _ rfl, (hok _ (List.getElem_mem hi)).below hb⟩
/-- a row of values, built at one time. -/
theorem run_vrow {w : World} {r : Operand → Value} {n : Nat} {parts : Array (Nat × Operand)} (L : List (VT × VC)) (hn : n = L.length) (h0 : 0 < n) (hs : n ≤ 1000) (hp : (parts.map fun (i, x) => (i, r x)).toList = ((L.map fun x => Value.agg x.2.cells).zipIdx 0).map fun x => (x.2, x.1)) (hok : ∀ x ∈ L, VIn w x.1 (.agg x.2.cells)) :
    ∃ w2, (∀ o : Oper, o.op = .buildSlice 23 n parts → (execOp r o).run Try.prog w = .ok (.value (.slice (some ⟨w.heap.size, 0, none⟩) n n)) w2) ∧ Below w.heap.size w w2 ∧ VRow w2 (L.map (·.1)) (some ⟨w.heap.size, 0, none⟩) := by
  have hk : ∀ v ∈ (L.map fun x => Value.agg x.2.cells), v.cells.size = 3 := by
    intro v hv
    obtain ⟨x, _, rfl⟩ := List.mem_map.1 hv
    rfl
  obtain ⟨w2, hw, hb, _, _, hc⟩ := table_new w 25 3 _ (by decide) hk
  refine ⟨w2, fun o ho => run_table (k := 3) _ ho Try.underlying23 (by kernel_rfl) (by kernel_rfl) hp (by rw [List.length_map, hn]) hk (by decide) h0 (by omega) hw, hb, VRow.of _ _ 0 fun i h => ?_⟩
  have hi : i < L.length := by simpa using h
  have := hc i (by rw [List.length_map]; exact hi)
  rw [List.getElem_map] at this
  rw [List.getElem_map, Nat.zero_add]
  exact ⟨_, _, _, by simpa using this 0 _ rfl, this 1 _ rfl, this 2 _ rfl, (hok _ (List.getElem_mem hi)).below hb⟩
theorem wpList_vrow {ops : Array Oper} {rest : List Oper} {o : Oper} {a : Act} {w : World} {Q : Exit → Act → World → Prop} {n : Nat} {parts : Array (Nat × Operand)} (L : List (VT × VC)) (g : o.guard = none) (ho : o.op = .buildSlice 23 n parts) (hn : n = L.length) (h0 : 0 < n) (hs : n ≤ 1000)
    (hp : (parts.map fun (i, x) => (i, a.eval x)).toList = ((L.map fun x => Value.agg x.2.cells).zipIdx 0).map fun x => (x.2, x.1)) (hok : ∀ x ∈ L, VIn w x.1 (.agg x.2.cells))
    (hk : ∀ w2, Below w.heap.size w w2 → VRow w2 (L.map (·.1)) (some ⟨w.heap.size, 0, none⟩) → wpList Try.prog ops Q rest (a.put o.dst (.slice (some ⟨w.heap.size, 0, none⟩) n n)) w2) : wpList Try.prog ops Q (o :: rest) a w := by
  obtain ⟨w2, hrun, hb, hr⟩ := run_vrow L hn h0 hs hp hok
  exact wpList_plain g fun _ hK => wp_val (hrun _ ho) (hK _ _ (hk _ hb hr))
/-- the first table, over its great ones. -/
def tab1G (d f m b : PT) (y64 y65 : List PT) : List (PT × (Int × Int)) := [(.mk 0 vNone 0 [], (0, 11)), (.mk 12 vNone 0 [], (0, 11)), (.mk 1 num5 0 [], (0, 3)), (.mk 3 vNone 0 [], (0, 11)), (.mk 3 (.mk 2 2 []) 0 [], (0, 1)), (.mk 3 num5 1 [], (0, 3)), (tAtp (-1) tYes, (0, 1)), (tAtp 65 tYes, (0, 1)), (tAtp 64 tYes, (0, 0)),
  (.mk 8 vNone 65 [], (0, 1)), (.mk 5 vNone 0 [], (0, 4)), (.mk 1 vNone 0 (yesL 1), (0, 5)), (.mk 11 vNone 0 (yesL 2), (0, 5)), (tA y65, (0, 5)), (tO y64, (0, 0)), (d, (0, 0)), (tN d, (12, 9)), (tA [tYes, tN tYes, tAl (.mk 13 vNone 0 [])], (5, 11)),
  (f, (0, 0)), (m, (0, 5)), (b, (0, 11)), (.mk 5 vNone 0 [.mk 2 (.mk 0 1 []) 0 []], (1, 3))]
theorem tab1G_eq : tab1G (deepP 11) fullP moreP bigP (yesL 64) (yesL 64 ++ [tYes]) = wrongL := rfl
theorem tab1G_length (d f m b : PT) (y64 y65 : List PT) : (tab1G d f m b y64 y65).length = 22 := rfl
def T1Fact (ts : List (PT × (Int × Int))) : Prop := ∀ i (h : i < ts.length), ts[i].1.check = ts[i].2 ∧ ts[i].1.cnt ≤ 1000000 ∧ ts[i].1.fat ≤ 100000
theorem t1Fact_all : T1Fact (tab1G (deepP 11) fullP moreP bigP (yesL 64) (yesL 64 ++ [tYes])) := by
  rw [tab1G_eq]
  intro i h
  obtain ⟨h1, h2, h3⟩ := wrong_chk0 ⟨i, h⟩
  exact ⟨h1, Nat.le_trans h2 (by decide), Nat.le_trans h3 (by decide)⟩
theorem holdL_length : holdL.length = 25 := rfl
theorem holdL_get (i : Nat) (h : i < holdL.length) : PT.hold holdL[i].1 holdL[i].2.1 = holdL[i].2.2 ∧ holdL[i].1.cnt ≤ 1000000 ∧ holdL[i].1.fat ≤ 100000 := by
  obtain ⟨h1, h2, h3⟩ := hold_chk0 ⟨i, h⟩
  exact ⟨h1, Nat.le_trans h2 (by decide), Nat.le_trans h3 (by decide)⟩
/-- what is asked behind the tables. -/
structure EndsG (d f : PT) : Prop where
  n : (f.nodes : Int) = 512
  d12 : (d.deep : Int) = 12
  e4 : ((eqP tupleV).nodes : Int) = 4
  sf : f.cnt ≤ 1000000 ∧ f.fat ≤ 100000
  sd : d.cnt ≤ 1000000 ∧ d.fat ≤ 100000
  se : (eqP tupleV).cnt ≤ 1000000 ∧ (eqP tupleV).fat ≤ 100000
theorem endsG_all : EndsG (deepP 11) fullP := ⟨full_nodes, deep_deepP, eq_nodes, by decide +kernel, by decide +kernel, by decide +kernel⟩
end Go.Proofs.Yteebbffecaeciaa
