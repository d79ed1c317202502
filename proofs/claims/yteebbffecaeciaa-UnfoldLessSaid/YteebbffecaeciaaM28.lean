/- Texts of this claim laid into one: TAwake, TPutA, TPut, TOps, VAnyR, TRobust, UMath, ULaws, UEachA, TSpoilW. -/
import Derived.Test.YteebbffecaeciaaM14
import Derived.Test.YteebbffecaeciaaM12
import Derived.Test.YteebbffecaeciaaM25
import Derived.Test.YteebbffecaeciaaM26
import Derived.Test.YteebbffecaeciaaM27
import Derived.Test.YteebbffecaeciaaM13
/- The law's awake: the examples are as they are told. -/
namespace Go.Proofs.Yteebbffecaeciaa
open Go.RowKit

theorem made_term {f : FuncId} {args : Array Value} {w : World} {t : TT} (h : Calls Try.prog f args w (TMade t w)) : Calls Try.prog f args w fun e w' => ∃ v, e = .returned v ∧ TIn w' t v ∧ Below w.heap.size w w' := h
theorem made_copy {f : FuncId} {args : Array Value} {w : World} {t : TT} (h : Calls Try.prog f args w (TCopyOf t w)) : Calls Try.prog f args w fun e w' => ∃ v, e = .returned v ∧ TIn w' t v ∧ Below w.heap.size w w' := h.mono fun _e _w' ⟨x, he, hf, hb⟩ => ⟨x, he, hf.tin, hb⟩
theorem made_fix {f : FuncId} {args : Array Value} {w : World} {u v : Value} (hv : u = v) (h : Calls Try.prog f args w fun e w' => e = .returned u ∧ Below w.heap.size w w') : Calls Try.prog f args w fun e w' => ∃ x, e = .returned x ∧ x = v ∧ Below w.heap.size w w' := h.mono fun _e _w' ⟨he, hb⟩ => ⟨u, he, hv, hb⟩
theorem run_alloc15 {w : World} {o : Oper} {r : Operand → Value} (ho : o.op = .alloc 47) : (execOp r o).run Try.prog w = .ok (.value (.pointer (some ⟨w.heap.size, 0, none⟩))) (w.alloc (.cells #[.int .u8 0, .int .u8 0, .int .i64 0, .slice none 0 0, .slice none 0 0, .int .i64 0, .int .i64 0, .slice none 0 0, .int .u8 0, .int .u8 0, .int .i64 0, .slice none 0 0, .int .i64 0, .slice none 0 0, .slice none 0 0] 47)) := by
  obtain ⟨od, oo, ot, op, oa, og⟩ := o
  simp only at ho
  subst ho
  go_simp
theorem wpList_box15 {ops : Array Oper} {rest : List Oper} {o1 o2 : Oper} {a : Act} {w : World} {Q : Exit → Act → World → Prop} {t : TT} {A : TA} {d : Nat} {xo : Operand} (g1 : o1.guard = none) (h1 : o1.op = .alloc 47) (d1 : o1.dst = some d) (g2 : o2.guard = none) (h2 : o2.op = .store 47 (.tmp d) xo) (d2 : o2.dst = none)
    (e1 : (a.put (some d) (.pointer (some ⟨w.heap.size, 0, none⟩))).eval (.tmp d) = .pointer (some ⟨w.heap.size, 0, none⟩)) (e2 : (a.put (some d) (.pointer (some ⟨w.heap.size, 0, none⟩))).eval xo = t.val A)
    (hk : ∀ wE, TCells wE w.heap.size 0 t A → Below w.heap.size w wE → w.heap.size < wE.heap.size → RowAt wE 47 w.heap.size 15 → wpList Try.prog ops Q rest (a.put (some d) (.pointer (some ⟨w.heap.size, 0, none⟩))) wE) : wpList Try.prog ops Q (o1 :: o2 :: rest) a w := by
  refine wpList_plain g1 fun K hK => wp_val (run_alloc15 h1) (hK _ _ ?_)
  rw [d1]
  refine wpList_plain g2 fun K' hK' => ?_
  have R : RowAt (w.alloc (.cells #[.int .u8 0, .int .u8 0, .int .i64 0, .slice none 0 0, .slice none 0 0, .int .i64 0, .int .i64 0, .slice none 0 0, .int .u8 0, .int .u8 0, .int .i64 0, .slice none 0 0, .int .i64 0, .slice none 0 0, .slice none 0 0] 47)) 47 w.heap.size 15 := RowAt.new w _ _
  have hb := setL_below w.heap.size (Nat.le_refl _) (cellsT 0 t A) _ (Below.al (w := w) (.cells #[.int .u8 0, .int .u8 0, .int .i64 0, .slice none 0 0, .slice none 0 0, .int .i64 0, .int .i64 0, .slice none 0 0, .int .u8 0, .int .u8 0, .int .i64 0, .slice none 0 0, .int .i64 0, .slice none 0 0, .slice none 0 0] 47))
  exact wp_skip (run_store15 R (q := 0) (by decide) h2 e1 e2) d2 (hK' _ _ (hk _ (cells15 R (by decide)) hb (by rw [setL_size]; simp) (setL_row _ _ _ R)))
theorem wpList_load15 {ops : Array Oper} {rest : List Oper} {o : Oper} {a : Act} {w : World} {Q : Exit → Act → World → Prop} {t : TT} {A : TA} {B q : Nat} {po : Operand} (g : o.guard = none) (h : o.op = .load 47 po) (e : a.eval po = .pointer (some ⟨B, q, none⟩)) (hc : TCells w B q t A)
    (hk : wpList Try.prog ops Q rest (a.put o.dst (t.val A)) w) : wpList Try.prog ops Q (o :: rest) a w :=
  wpList_plain g fun _ hK => wp_val (run_load15 hc h e) (hK _ _ hk)
end Go.Proofs.Yteebbffecaeciaa
/- The law's put: a term, with another one for each Self that belongs to no Sized in it. -/
namespace Go.Proofs.Yteebbffecaeciaa
open Go.RowKit

section
variable {k lo hi : Int} {v : VT} {vs : List VT} {ws : List Int} {p : PT} {l : List TT}
theorem TT.kind_mk : TT.kind (.mk k v vs lo hi ws p l) = k := rfl
theorem TT.v_mk : TT.v (.mk k v vs lo hi ws p l) = v := rfl
theorem TT.vs_mk : TT.vs (.mk k v vs lo hi ws p l) = vs := rfl
theorem TT.lo_mk : TT.lo (.mk k v vs lo hi ws p l) = lo := rfl
theorem TT.hi_mk : TT.hi (.mk k v vs lo hi ws p l) = hi := rfl
theorem TT.ws_mk : TT.ws (.mk k v vs lo hi ws p l) = ws := rfl
theorem TT.p_mk : TT.p (.mk k v vs lo hi ws p l) = p := rfl
theorem TT.args_mk : TT.args (.mk k v vs lo hi ws p l) = l := rfl
end
/-- rounds of put's loop: the elements before i are put, the rest is as it was. -/
structure PutG (S' : Nat → Prop) (l' : List TT) (B c : Nat) (w3 wr : World) (i : Nat) : Prop where
  below : Below B w3 wr
  size : w3.heap.size ≤ wr.heap.size
  same : ∀ k, k < w3.heap.size → k ≠ B → wr.heap[k]? = w3.heap[k]?
  row : RowAt wr 47 B (c * 15)
  done : ∀ j (_ : j < i) (hj : j < l'.length), ∃ A, TCells wr B (j * 15) l'[j] A ∧ TOkA S' wr l'[j] A
  rest : ∀ j u, i * 15 ≤ j → w3.cell? ⟨B, j, none⟩ = some u → wr.cell? ⟨B, j, none⟩ = some u
theorem PutG.step {S' : Nat → Prop} {l' : List TT} {B c i : Nat} {w3 wr w5 : World} (hSB : S' B) (h : PutG S' l' B c w3 wr i) (hi : i < l'.length) (hB : B < wr.heap.size) (hc : l'.length ≤ c) (hb : Below wr.heap.size wr w5) {Y : TA} (hY : TOkA S' w5 l'[i] Y) : PutG S' l' B c w3 (setL B (cellsT (i * 15) l'[i] Y) w5) (i + 1) := by
  have hrow5 := h.row.below hB hb
  have hne : ∀ k, k ≠ B → (setL B (cellsT (i * 15) l'[i] Y) w5).heap[k]? = w5.heap[k]? := fun k hk => setL_block B hk _ _
  have hout : ∀ o, o < i * 15 ∨ i * 15 + 15 ≤ o → ∀ v, w5.cell? ⟨B, o, none⟩ = some v → (setL B (cellsT (i * 15) l'[i] Y) w5).cell? ⟨B, o, none⟩ = some v := fun o ho v hv => by
    rw [setL_out B B o _ w5 (fun _ hm => by obtain ⟨p, hp, rfl⟩ := List.mem_map.1 hm; have := cellsT_off _ _ _ p hp; omega)]; exact hv
  have hz : (setL B (cellsT (i * 15) l'[i] Y) w5).heap.size = w5.heap.size := setL_size _ _ _
  have hin : ∀ p ∈ cellsT (i * 15) l'[i] Y, (setL B (cellsT (i * 15) l'[i] Y) w5).cell? ⟨B, p.1, none⟩ = some p.2 := setL_in B _ w5 (by simp [cellsT]) (fun p hp => hrow5.cell p.1 (by have := cellsT_off _ _ _ p hp; omega))
  have hrow6 : RowAt (setL B (cellsT (i * 15) l'[i] Y) w5) 47 B (c * 15) := setL_row B _ _ hrow5
  have hY6 : TOkA S' (setL B (cellsT (i * 15) l'[i] Y) w5) l'[i] Y := hY.step (Nat.le_of_eq hz.symm) fun k _ hk => ⟨hk, hne k (fun e => hk (e ▸ hSB))⟩
  have hcl : TCells (setL B (cellsT (i * 15) l'[i] Y) w5) B (i * 15) l'[i] Y := by
    refine ⟨?_, ?_, ?_, ?_, ?_, ?_, ?_, ?_, ?_, ?_, ?_, ?_, ?_, ?_, ?_⟩
    all_goals exact hin (_, _) (by simp [cellsT])
  have hbl : Below B w3 (setL B (cellsT (i * 15) l'[i] Y) w5) := setL_below B (Nat.le_refl _) _ _ (h.below.trans (hb.mono (Nat.le_of_lt hB)))
  generalize setL B (cellsT (i * 15) l'[i] Y) w5 = w6 at *
  have hs5 := hb.size; have hs := h.size
  refine ⟨hbl, by omega, fun k h1 h2 => (hne k h2).trans ((hb.block k (by omega)).trans (h.same k h1 h2)), hrow6, fun j hj hj' => ?_, fun j u h1 h2 => hout j (.inr (by omega)) u (cell_stays hb (h.rest j u (by omega) h2))⟩
  by_cases e : j = i
  · subst e; exact ⟨Y, hcl, hY6⟩
  · obtain ⟨A, hc1, hok⟩ := h.done j (by omega) hj'
    have hcl5 := hc1.below hb
    refine ⟨A, ?_, (hok.below hb).step (by omega) fun k _ hk => ⟨hk, hne k (fun e => hk (e ▸ hSB))⟩⟩
    obtain ⟨h0, h1, h2, h3, h4, h5, h6, h7, h8, h9, h10, h11, h12, h13, h14⟩ := hcl5
    exact ⟨hout _ (.inl (by omega)) _ h0, hout _ (.inl (by omega)) _ h1, hout _ (.inl (by omega)) _ h2, hout _ (.inl (by omega)) _ h3, hout _ (.inl (by omega)) _ h4, hout _ (.inl (by omega)) _ h5, hout _ (.inl (by omega)) _ h6, hout _ (.inl (by omega)) _ h7, hout _ (.inl (by omega)) _ h8, hout _ (.inl (by omega)) _ h9, hout _ (.inl (by omega)) _ h10, hout _ (.inl (by omega)) _ h11, hout _ (.inl (by omega)) _ h12, hout _ (.inl (by omega)) _ h13, hout _ (.inl (by omega)) _ h14⟩
theorem PutG.skip {S' : Nat → Prop} {l' : List TT} {B c i : Nat} {w3 wr : World} (h : PutG S' l' B c w3 wr i) (hn : ∀ hj : i < l'.length, ∃ A, TCells wr B (i * 15) l'[i] A ∧ TOkA S' wr l'[i] A) : PutG S' l' B c w3 wr (i + 1) :=
  ⟨h.below, h.size, h.same, h.row, fun j hj hj' => by
    by_cases e : j = i
    · subst e; exact hn hj'
    · exact h.done j (by omega) hj', fun j u h1 h2 => h.rest j u (by omega) h2⟩
theorem TCells.one_addr {w : World} {b o : Nat} {t : TT} {A A' : TA} (h : TCells w b o t A) (h' : TCells w b o t A') : A = A' := by
  obtain ⟨h0, h1, h2, h3, h4, h5, h6, h7, h8, h9, h10, h11, h12, h13, h14⟩ := h
  obtain ⟨k0, k1, k2, k3, k4, k5, k6, k7, k8, k9, k10, k11, k12, k13, k14⟩ := h'
  rw [h3] at k3; rw [h4] at k4; rw [h7] at k7; rw [h11] at k11; rw [h13] at k13; rw [h14] at k14
  obtain ⟨a1, a2, a3, a4, a5, a6, a7, a8, a9, a10, a11, a12⟩ := A
  obtain ⟨b1, b2, b3, b4, b5, b6, b7, b8, b9, b10, b11, b12⟩ := A'
  simp only [Option.some.injEq, Value.slice.injEq] at k3 k4 k7 k11 k13 k14
  obtain ⟨rfl, _, rfl⟩ := k3
  obtain ⟨rfl, _, rfl⟩ := k4
  obtain ⟨rfl, _, rfl⟩ := k7
  obtain ⟨rfl, _, rfl⟩ := k11
  obtain ⟨rfl, _, rfl⟩ := k13
  obtain ⟨rfl, _, rfl⟩ := k14
  rfl
open Classical in
/-- w with nothing in the blocks of S. -/
noncomputable def eraseS (S : Nat → Prop) (w : World) : World := { w with heap := w.heap.mapIdx fun k o => if S k then .cells #[] 0 else o }
theorem eraseS_agree (S : Nat → Prop) (w : World) : AgreeS S w (eraseS S w) := by
  refine ⟨by simp [eraseS], fun k hk hn => ?_⟩
  simp [eraseS, hn, hk]
theorem eraseS_cell {S : Nat → Prop} {w : World} {b o : Nat} {v : Value} (h : (eraseS S w).cell? ⟨b, o, none⟩ = some v) : ¬ S b := fun hS => by
  have hlt := lt_of_cell h
  have hb : (eraseS S w).heap[b]? = some (.cells #[] 0) := by
    have : b < w.heap.size := by simpa [eraseS] using hlt
    simp [eraseS, hS, this]
  unfold World.cell? at h
  rw [hb] at h
  simp at h
theorem elemA {S : Nat → Prop} {w : World} {l : List TT} {aa : Option Addr} (h : ∀ W, AgreeS S w W → TRow W l aa) {i : Nat} (hi : i < l.length) : ∃ b o X, aa = some ⟨b, o, none⟩ ∧ ¬ S b ∧ TCells w b (o + i * 15) l[i] X ∧ TOkA S w l[i] X := by
  obtain ⟨b, o, e, X, hc, hk⟩ := (h w ⟨Nat.le_refl _, fun _ _ _ => rfl⟩).get i hi
  have hS : ¬ S b := by
    obtain ⟨b', o', e', X', hc', _⟩ := (h _ (eraseS_agree S w)).get i hi
    rw [e] at e'
    cases e'
    exact eraseS_cell hc'.1
  refine ⟨b, o, X, e, hS, hc, fun W ha => ?_⟩
  obtain ⟨b', o', e', X', hc', hk'⟩ := (h W ha).get i hi
  rw [e] at e'
  cases e'
  have hcW : TCells W b (o + i * 15) l[i] X := hc.keep fun o v hv => ha.cell hS hv
  rw [hcW.one_addr hc']
  exact hk'
theorem tok_args {S S' : Nat → Prop} {w w' : World} {k lo hi : Int} {v : VT} {vs : List VT} {ws : List Int} {p : PT} {l l' : List TT} {A : TA} {a' : Option Addr} {c' : Nat} (h : TOkA S w (.mk k v vs lo hi ws p l) A) (hs : w.heap.size ≤ w'.heap.size) (hk : ∀ k, k < w.heap.size → ¬ S k → ¬ S' k ∧ w'.heap[k]? = w.heap[k]?)
    (hl : l'.length ≤ 651562446070) (hr : ∀ W, AgreeS S' w' W → TRow W l' a') : TOkA S' w' (.mk k v vs lo hi ws p l') { A with aa := a', ac := c' } := fun W ha => by
  obtain ⟨h1, h2, h3, h4, h5, _⟩ := (h W (ha.back' hs hk)).parts
  exact TOk.of ⟨⟨hl, h1.2⟩, h2, h3, h4, h5, hr W ha⟩
end Go.Proofs.Yteebbffecaeciaa
/- The law's put, walked. -/
namespace Go.Proofs.Yteebbffecaeciaa
open Go.RowKit

theorem wpList_store15 {ops : Array Oper} {rest : List Oper} {o : Oper} {a : Act} {w : World} {Q : Exit → Act → World → Prop} {t : TT} {A : TA} {B n T : Nat} {po xo : Operand} (g : o.guard = none) (h : o.op = .store 47 po xo) (d2 : o.dst = none) (e1 : a.eval po = .pointer (some ⟨B, 0, none⟩)) (e2 : a.eval xo = t.val A)
    (hrow : RowAt w T B n) (hq : 15 ≤ n) (hk : ∀ wE, TCells wE B 0 t A → (∀ b, b ≠ B → wE.heap[b]? = w.heap[b]?) → wE.heap.size = w.heap.size → (∀ lo a, lo ≤ B → Below lo a w → Below lo a wE) → wpList Try.prog ops Q rest a wE) : wpList Try.prog ops Q (o :: rest) a w :=
  wpList_plain g fun _ hK => wp_skip (run_store15 hrow (q := 0) (by omega) h e1 e2) d2 (hK _ _ (hk _ (cells15 hrow hq) (fun b hb => setL_block B hb _ w) (setL_size B _ w) (fun lo a hlo h => setL_below B hlo _ _ h)))
theorem results_cell {fn : Func} {tmps : Array Value} {d : Nat} {w : World} {t : TT} {A : TA} {B : Nat} (hr : fn.results = #[.cell d 47]) (hd : tmps.getD d undef = .pointer (some ⟨B, 0, none⟩)) (hc : TCells w B 0 t A) : (results fn tmps).run Try.prog w = .ok (t.val A) w := by
  have h := run_loadVar_mid (P := Try.prog) w B 0 47 _ _ hc.range Try.underlying47 rfl size15
  unfold results
  rw [hr]
  simp only [Array.mapM_eq_mapM_toList, List.mapM_cons, List.mapM_nil, hd, asAddr, Sem.run_bind, Sem.run_pure, Result.andThen_ok, h, map_eq_pure_bind, bind_assoc, pure_bind]
  rfl
/-- the row of put's loop. -/
def PutR (S' : Nat → Prop) (l' : List TT) (a' : Option Addr) (c lo : Nat) (w3 wr : World) (i : Nat) : Prop := (l'.length = 0 ∧ wr = w3) ∨ ∃ B, a' = some ⟨B, 0, none⟩ ∧ lo ≤ B ∧ B < w3.heap.size ∧ l'.length ≤ c ∧ PutG S' l' B c w3 wr i
theorem PutR.old {S' : Nat → Prop} {l' : List TT} {a' : Option Addr} {c lo i : Nat} {w3 wr : World} (h : PutR S' l' a' c lo w3 wr i) {k : Nat} (hk : k < lo) (h3 : k < w3.heap.size) : wr.heap[k]? = w3.heap[k]? := by
  rcases h with ⟨_, rfl⟩ | ⟨B, _, hB, _, _, h⟩
  · rfl
  · exact h.same k h3 (by omega)
theorem PutR.size {S' : Nat → Prop} {l' : List TT} {a' : Option Addr} {c lo i : Nat} {w3 wr : World} (h : PutR S' l' a' c lo w3 wr i) : w3.heap.size ≤ wr.heap.size := by
  rcases h with ⟨_, rfl⟩ | ⟨B, _, hB, _, _, h⟩
  · exact Nat.le_refl _
  · exact h.size
theorem PutR.below {S' : Nat → Prop} {l' : List TT} {a' : Option Addr} {c lo i : Nat} {w3 wr : World} (h : PutR S' l' a' c lo w3 wr i) {k : Nat} (hk : k ≤ lo) : Below k w3 wr := by
  rcases h with ⟨_, rfl⟩ | ⟨B, _, hB, _, _, h⟩
  · exact Below.refl _ _
  · exact h.below.mono (by omega)
theorem cell_block {w w' : World} {b o : Nat} {v : Value} (hb : w'.heap[b]? = w.heap[b]?) (h : w.cell? ⟨b, o, none⟩ = some v) : w'.cell? ⟨b, o, none⟩ = some v := by
  rw [World.cell?_of_block (w := w) (a := ⟨b, o, none⟩) hb]; exact h
theorem row_block {w w' : World} {T b n : Nat} (hb : w'.heap[b]? = w.heap[b]?) (h : RowAt w T b n) : RowAt w' T b n := by
  obtain ⟨x, hx, hn⟩ := h
  exact ⟨x, hb.trans hx, hn⟩

end Go.Proofs.Yteebbffecaeciaa
/- Laws at the list of a plain region's operations, over terms. -/
namespace Go.Proofs.Yteebbffecaeciaa
open Go.RowKit

theorem run_row1 {w w2 : World} {o : Oper} {r : Operand → Value} {x0 : Operand} {s : TT} {A : TA} (ho : o.op = .buildSlice 45 1 #[(0, x0)]) (e0 : r x0 = s.val A) (hw : w.alloc (.cells #[.int .u8 s.kind, .int .u8 s.v.kind, .int .i64 s.v.num, .slice A.va s.v.items.length A.vc, .slice A.sa s.vs.length A.sc, .int .i64 s.lo, .int .i64 s.hi, .slice A.wa s.ws.length A.wc, .int .u8 s.p.kind, .int .u8 s.p.val.kind, .int .i64 s.p.val.num, .slice A.qa s.p.val.items.length A.qc, .int .i64 s.p.num, .slice A.pa s.p.args.length A.pc, .slice A.aa s.args.length A.ac] 47) = w2) :
    (execOp r o).run Try.prog w = .ok (.value (.slice (some ⟨w.heap.size, 0, none⟩) 1 1)) w2 := by
  obtain ⟨od, oo, ot, op, oa, og⟩ := o
  simp only at ho
  subst ho
  unfold TT.val at e0
  rw [← hw]
  go_simp
theorem run_row2 {w w2 : World} {o : Oper} {r : Operand → Value} {x0 x1 : Operand} {s t : TT} {A B : TA} (ho : o.op = .buildSlice 45 2 #[(0, x0), (1, x1)]) (e0 : r x0 = s.val A) (e1 : r x1 = t.val B) (hw : w.alloc (.cells #[.int .u8 s.kind, .int .u8 s.v.kind, .int .i64 s.v.num, .slice A.va s.v.items.length A.vc, .slice A.sa s.vs.length A.sc, .int .i64 s.lo, .int .i64 s.hi, .slice A.wa s.ws.length A.wc, .int .u8 s.p.kind, .int .u8 s.p.val.kind, .int .i64 s.p.val.num, .slice A.qa s.p.val.items.length A.qc, .int .i64 s.p.num, .slice A.pa s.p.args.length A.pc, .slice A.aa s.args.length A.ac, .int .u8 t.kind, .int .u8 t.v.kind, .int .i64 t.v.num, .slice B.va t.v.items.length B.vc, .slice B.sa t.vs.length B.sc, .int .i64 t.lo, .int .i64 t.hi, .slice B.wa t.ws.length B.wc, .int .u8 t.p.kind, .int .u8 t.p.val.kind, .int .i64 t.p.val.num, .slice B.qa t.p.val.items.length B.qc, .int .i64 t.p.num, .slice B.pa t.p.args.length B.pc, .slice B.aa t.args.length B.ac] 47) = w2) :
    (execOp r o).run Try.prog w = .ok (.value (.slice (some ⟨w.heap.size, 0, none⟩) 2 2)) w2 := by
  obtain ⟨od, oo, ot, op, oa, og⟩ := o
  simp only at ho
  subst ho
  unfold TT.val at e0 e1
  rw [← hw]
  go_simp
theorem wpList_row1 {ops : Array Oper} {rest : List Oper} {o : Oper} {a : Act} {w : World} {Q : Exit → Act → World → Prop} {s : TT} {A : TA} {x0 : Operand} (g : o.guard = none) (ho : o.op = .buildSlice 45 1 #[(0, x0)]) (e0 : a.eval x0 = s.val A) (h0 : TOk w s A)
    (hk : ∀ w2, TRow w2 [s] (some ⟨w.heap.size, 0, none⟩) → Below w.heap.size w w2 → wpList Try.prog ops Q rest (a.put o.dst (.slice (some ⟨w.heap.size, 0, none⟩) 1 1)) w2) : wpList Try.prog ops Q (o :: rest) a w := by
  obtain ⟨w2, hw2, m2, s2, hc2, _⟩ := row1_new w s A
  exact wpList_plain g fun _ hK => wp_val (run_row1 ho e0 hw2) (hK _ _ (hk w2 (trow_cons hc2 (h0.below m2) trow_nil) m2))
theorem wpList_row2 {ops : Array Oper} {rest : List Oper} {o : Oper} {a : Act} {w : World} {Q : Exit → Act → World → Prop} {s t : TT} {A B : TA} {x0 x1 : Operand} (g : o.guard = none) (ho : o.op = .buildSlice 45 2 #[(0, x0), (1, x1)]) (e0 : a.eval x0 = s.val A) (e1 : a.eval x1 = t.val B) (h0 : TOk w s A) (h1 : TOk w t B)
    (hk : ∀ w2, TRow w2 [s, t] (some ⟨w.heap.size, 0, none⟩) → Below w.heap.size w w2 → wpList Try.prog ops Q rest (a.put o.dst (.slice (some ⟨w.heap.size, 0, none⟩) 2 2)) w2) : wpList Try.prog ops Q (o :: rest) a w := by
  obtain ⟨w2, hw2, m2, s2, hc2, hc3⟩ := row2_new w s t A B
  exact wpList_plain g fun _ hK => wp_val (run_row2 ho e0 e1 hw2) (hK _ _ (hk w2 (trow_cons hc2 (h0.below m2) (trow_cons hc3 (h1.below m2) trow_nil)) m2))
/-- a box whose term is known with its address. -/
def BoxA (w : World) (B : Nat) (t : TT) (A : TA) : Prop := TCells w B 0 t A ∧ TOk w t A
theorem BoxA.below {w w' : World} {B : Nat} {t : TT} {A : TA} (h : BoxA w B t A) (hb : Below w.heap.size w w') : BoxA w' B t A := ⟨h.1.below hb, h.2.below hb⟩
theorem BoxA.tin {w : World} {B : Nat} {t : TT} {A : TA} (h : BoxA w B t A) : TIn w t (t.val A) := ⟨A, rfl, h.2⟩
end Go.Proofs.Yteebbffecaeciaa
/- As VAnyG, where an operation may wait, by what does not bind, for a later one. -/
namespace Go.Proofs.Yteebbffecaeciaa
open Go.RowKit
/-- the first m operations have temporaries of their own, and wait for earlier ones alone; the others wait for them all. -/
def partR (m n : Nat) (ops : Array Oper) : Bool :=
  ((List.range m).all fun i => match ops[i]? with
    | none => false
    | some o => o.after.all (fun e => !Region.binds .any e || decide (e.on < i)) && (match o.dst with | none => false | some d => decide (d < n)) &&
      (match o.guard with | none => true | some (j, _) => (match (ops[j]?).bind (·.dst) with | some d => decide (d < n) | none => false))) &&
  ((List.range ops.size).all fun i => decide (i < m) || match ops[i]? with
    | none => true
    | some o => (List.range m).all fun j => o.after.any fun e => Region.binds .any e && reachB ops 6 e.on j) &&
  decide ((ops.toList.take m).map (·.dst)).Nodup
theorem partR_op {m n : Nat} {ops : Array Oper} (h : partR m n ops = true) {i : Nat} {o : Oper} (hm : i < m) (hi : ops[i]? = some o) :
    (∀ e ∈ o.after, Region.binds .any e = true → e.on < i) ∧ (∃ d, o.dst = some d ∧ d < n) ∧ ∀ j want, o.guard = some (j, want) → ∃ d, (ops[j]?).bind (·.dst) = some d ∧ d < n := by
  unfold partR at h
  rw [Bool.and_eq_true, Bool.and_eq_true, List.all_eq_true] at h
  have h1 := h.1.1 i (List.mem_range.2 hm)
  rw [hi] at h1
  simp only [Bool.and_eq_true] at h1
  refine ⟨fun e he hb => ?_, ?_, fun j want hg => ?_⟩
  · have := Array.all_eq_true_iff_forall_mem.1 h1.1.1 e he
    rw [hb] at this
    simpa using this
  · have h2 := h1.1.2
    cases hd : o.dst with
    | none => rw [hd] at h2; simp at h2
    | some d => rw [hd] at h2; exact ⟨d, rfl, by simpa using h2⟩
  · have h2 := h1.2
    rw [hg] at h2
    simp only at h2
    cases hd : (ops[j]?).bind (·.dst) with
    | none => rw [hd] at h2; simp at h2
    | some d => rw [hd] at h2; exact ⟨d, rfl, by simpa using h2⟩
theorem partR_there {m n : Nat} {ops : Array Oper} (h : partR m n ops = true) {i : Nat} (hm : i < m) : i < ops.size := by
  unfold partR at h
  rw [Bool.and_eq_true, Bool.and_eq_true, List.all_eq_true] at h
  have h1 := h.1.1 i (List.mem_range.2 hm)
  rcases Nat.lt_or_ge i ops.size with hl | hl
  · exact hl
  · rw [Array.getElem?_eq_none hl] at h1; simp at h1
theorem partR_rest {m n : Nat} {ops : Array Oper} (h : partR m n ops = true) {i : Nat} {o : Oper} (hm : ¬ i < m) (hi : ops[i]? = some o) {j : Nat} (hj : j < m) : ∃ e ∈ o.after, Region.binds .any e = true ∧ reachB ops 6 e.on j = true := by
  unfold partR at h
  rw [Bool.and_eq_true, Bool.and_eq_true] at h
  have h1 := List.all_eq_true.1 h.1.2 i (List.mem_range.2 (Array.getElem?_eq_some_iff.1 hi).1)
  rw [hi, decide_eq_false hm, Bool.false_or] at h1
  have h2 := List.all_eq_true.1 h1 j (List.mem_range.2 hj)
  rw [Array.any_eq_true] at h2
  obtain ⟨k, hk, hb⟩ := h2
  rw [Bool.and_eq_true] at hb
  exact ⟨o.after[k], Array.getElem_mem hk, hb.1, hb.2⟩
theorem partR_one {m n : Nat} {ops : Array Oper} (h : partR m n ops = true) {i j : Nat} {o o' : Oper} {d : Nat} (hm : i < m) (hm' : j < m) (hi : ops[i]? = some o) (hj : ops[j]? = some o') (hd : o.dst = some d) (hd' : o'.dst = some d) : i = j := by
  unfold partR at h
  rw [Bool.and_eq_true] at h
  have h2 := of_decide_eq_true h.2
  have e1 : ((ops.toList.take m).map (·.dst))[i]? = some (some d) := by rw [List.getElem?_map, List.getElem?_take_of_lt hm, Array.getElem?_toList, hi]; simp [hd]
  have e2 : ((ops.toList.take m).map (·.dst))[j]? = some (some d) := by rw [List.getElem?_map, List.getElem?_take_of_lt hm', Array.getElem?_toList, hj]; simp [hd']
  obtain ⟨l1, g1⟩ := List.getElem?_eq_some_iff.1 e1
  obtain ⟨l2, g2⟩ := List.getElem?_eq_some_iff.1 e2
  have h3 := List.pairwise_iff_getElem.1 h2
  rcases Nat.lt_trichotomy i j with hlt | heq | hgt
  · exact absurd (g1.trans g2.symm) (h3 i j l1 l2 hlt)
  · exact heq
  · exact absurd (g2.trans g1.symm) (h3 j i l2 l1 hgt)
section
variable {P : Program} {ops : Array Oper} {Q : Exit → Act → World → Prop} {m n : Nat} {Ph : Nat → Value → World → Prop} {a0 : Act} {w0 : World} {A : List Nat}
end
end Go.Proofs.Yteebbffecaeciaa
/- Rows and terms made anew, in all worlds that are as this one but for some blocks. -/
namespace Go.Proofs.Yteebbffecaeciaa
open Go.RowKit

/-- a row that reads so in all worlds that are as this one but for the blocks of S. -/
def TRowA (S : Nat → Prop) (w : World) (l : List TT) (a : Option Addr) : Prop := ∀ W, AgreeS S w W → TRow W l a
theorem TRowA.below {S : Nat → Prop} {w w' : World} {l : List TT} {a : Option Addr} (h : TRowA S w l a) (hb : Below w.heap.size w w') : TRowA S w' l a := fun W ha => h W (ha.back' hb.size fun k h1 h2 => ⟨h2, hb.block k h1⟩)
theorem TRowA.row {S : Nat → Prop} {w : World} {l : List TT} {a : Option Addr} (h : TRowA S w l a) : TRow w l a := h w ⟨Nat.le_refl _, fun _ _ _ => rfl⟩
theorem TRowA.nil {S : Nat → Prop} {w : World} {a : Option Addr} : TRowA S w [] a := fun _ _ => trow_nil
theorem TRowA.cons {S : Nat → Prop} {w : World} {t : TT} {ts : List TT} {b o : Nat} {A : TA} (hS : ¬ S b) (h : TCells w b o t A) (ht : TOkA S w t A) (hr : TRowA S w ts (some ⟨b, o + 15, none⟩)) : TRowA S w (t :: ts) (some ⟨b, o, none⟩) := fun W ha =>
  trow_cons (h.keep fun _ _ hv => ha.cell hS hv) (ht W ha) (hr W ha)
theorem wpList_store15R {ops : Array Oper} {rest : List Oper} {o : Oper} {a : Act} {w : World} {Q : Exit → Act → World → Prop} {t : TT} {A : TA} {B n T : Nat} {po xo : Operand} (g : o.guard = none) (h : o.op = .store 47 po xo) (d2 : o.dst = none) (e1 : a.eval po = .pointer (some ⟨B, 0, none⟩)) (e2 : a.eval xo = t.val A)
    (hrow : RowAt w T B n) (hq : 15 ≤ n) (hk : ∀ wE, TCells wE B 0 t A → RowAt wE T B n → (∀ b, b ≠ B → wE.heap[b]? = w.heap[b]?) → wE.heap.size = w.heap.size → (∀ lo a, lo ≤ B → Below lo a w → Below lo a wE) → wpList Try.prog ops Q rest a wE) : wpList Try.prog ops Q (o :: rest) a w :=
  wpList_plain g fun _ hK => wp_skip (run_store15 hrow (q := 0) (by omega) h e1 e2) d2 (hK _ _ (hk _ (cells15 hrow hq) (setL_row B _ w hrow) (fun b hb => setL_block B hb _ w) (setL_size B _ w) (fun lo a hlo h => setL_below B hlo _ _ h)))
theorem TOk.leaf {w : World} {t : TT} {A : TA} (h : TOk w t A) (h1 : t.v.items = []) (h2 : t.vs = []) (h3 : t.ws = []) (h4 : t.p = pNone) (h5 : t.args = []) (S : Nat → Prop) : TOkA S w t A := fun W _ => by
  obtain ⟨k, ⟨vk, vn, vi⟩, vs, lo, hi, ws, p, l⟩ := t
  simp only [TT.v, TT.vs, TT.ws, TT.p, TT.args, VT.items] at h1 h2 h3 h4 h5
  subst h1 h2 h3 h4 h5
  refine TOk.of ⟨⟨by simp [TT.args], by simp [TT.vs], by simp [TT.ws]⟩, VIn.shut (by simp) (by rw [VRow]; trivial), by rw [TT.vs, VRow]; trivial, wrow_nil, PIn.shut (by simp) (VIn.shut (by simp) (by rw [VRow]; trivial)) prow_nil, trow_nil⟩

end Go.Proofs.Yteebbffecaeciaa
/- Plain words for chapter 21: free Selfs, and a term unfolded wholly. -/
namespace Go.Proofs.Yteebbffecaeciaa
open Go.RowKit

mutual
/-- how many free Selfs there are. -/
def TT.selfs : TT → Nat
  | .mk k _ _ _ _ _ _ l => if k = 11 then 1 else TT.selfss k 0 l
def TT.selfss (k : Int) (i : Nat) : List TT → Nat
  | [] => 0
  | t :: ts => (if k = 10 ∧ i = 1 then 0 else t.selfs) + TT.selfss k (i + 1) ts
end
def TT.withArgs (t : TT) (l : List TT) : TT := .mk t.kind t.v t.vs t.lo t.hi t.ws t.p l
/-- steps, as long as it is a Sized. -/
def TT.unf : Nat → TT → TT
  | 0, t => t
  | n + 1, t => if t.kind = 10 then TT.unf n t.step else t
/-- unfolded wholly. -/
def TT.whole : Nat → TT → TT
  | 0, t => t
  | n + 1, t => (t.unf (n + 1)).withArgs ((t.unf (n + 1)).args.map (TT.whole n))
mutual
/-- neither a Sized, nor a Self. -/
def TT.bare : TT → Bool
  | .mk k _ _ _ _ _ _ l => k != 10 && k != 11 && TT.bares l
def TT.bares : List TT → Bool
  | [] => true
  | t :: ts => t.bare && TT.bares ts
end
theorem TT.withArgs_self (t : TT) : t.withArgs t.args = t := by obtain ⟨k, v, vs, lo, hi, ws, p, l⟩ := t; rfl
theorem node1_kind {k lo hi : Int} {v : VT} {vs : List VT} {ws : List Int} {p : PT} {n : Nat} (h : TT.node1 k v vs lo hi ws p n = 0) : 1 ≤ k ∧ k ≤ 11 := by
  unfold TT.node1 at h
  split at h
  · simp at h
  · omega
theorem TT.sane_kind {t : TT} (h : t.sane false = true) : 1 ≤ t.kind ∧ t.kind ≤ 10 := by
  obtain ⟨hn, h11, _⟩ := TT.sane_parts h
  have h1 := node1_kind hn
  have h11' : t.kind ≠ 11 := fun e => by have := h11 e; simp at this
  omega
theorem TT.sanes_every {k : Int} (hk : k ≠ 10) : ∀ (l : List TT) (i : Nat), TT.sanes false k i l = true ↔ ∀ t ∈ l, t.sane false = true
  | [], i => by simp [TT.sanes]
  | t :: ts, i => by
    rw [TT.sanes, Bool.and_eq_true, TT.sanes_every hk ts (i + 1)]
    have hb : (k == 10) = false := by simpa using hk
    simp [hb]
theorem TT.sane_args {t : TT} (h : t.sane false = true) (hk : t.kind ≠ 10) : ∀ u ∈ t.args, u.sane false = true :=
  (TT.sanes_every hk _ _).1 (TT.sane_parts h).2.2
theorem TT.sane_with {t : TT} (h : t.sane false = true) (hk : t.kind ≠ 10) {l : List TT} (hl : l.length = t.args.length) (hs : ∀ u ∈ l, u.sane false = true) : (t.withArgs l).sane false = true := by
  obtain ⟨hn, h11, _⟩ := TT.sane_parts h
  obtain ⟨k, v, vs, lo, hi, ws, p, l0⟩ := t
  simp only [TT.withArgs, TT.kind, TT.v, TT.vs, TT.lo, TT.hi, TT.ws, TT.p, TT.args] at *
  rw [TT.sane, TT.node_len hl, hn, (TT.sanes_every hk l 0).2 hs]
  have h11' : k ≠ 11 := fun e => by have := h11 e; simp at this
  simp [h11']
theorem TT.bulk_with {t : TT} (hk : t.kind ≠ 10) {l : List TT} (hb : TT.bulks l 0 ≤ TT.bulks t.args 0) : (t.withArgs l).bulk 0 ≤ t.bulk 0 := by
  obtain ⟨k, v, vs, lo, hi, ws, p, l0⟩ := t
  simp only [TT.withArgs, TT.kind, TT.v, TT.vs, TT.lo, TT.hi, TT.ws, TT.p, TT.args] at *
  rw [TT.bulk, TT.bulk, if_neg hk, if_neg hk]
  have := Nat.mul_le_mul_left (max 1 hi).toNat hb
  split
  · exact Nat.le_refl _
  · split
    · exact Nat.le_refl _
    · split
      · exact Nat.le_refl _
      · split
        · exact Nat.le_refl _
        · split <;> omega
theorem TT.high_with {t : TT} (hk : t.kind ≠ 10) {l : List TT} (hb : TT.highs l 0 = TT.highs t.args 0) : (t.withArgs l).high 0 = t.high 0 := by
  obtain ⟨k, v, vs, lo, hi, ws, p, l0⟩ := t
  simp only [TT.withArgs, TT.kind, TT.v, TT.vs, TT.lo, TT.hi, TT.ws, TT.p, TT.args] at *
  rw [TT.high, TT.high, if_neg hk, if_neg hk, hb]
theorem TT.lean_with {t : TT} (h : t.lean = true) {l : List TT} (hl : TT.leans l = true) : (t.withArgs l).lean = true := by
  obtain ⟨k, v, vs, lo, hi, ws, p, l0⟩ := t
  simp only [TT.withArgs, TT.kind, TT.v, TT.vs, TT.lo, TT.hi, TT.ws, TT.p] at *
  rw [TT.lean] at h ⊢
  rw [hl, Bool.and_true]
  exact (Bool.and_eq_true _ _ ▸ h).1
theorem TT.leans_all : ∀ l : List TT, TT.leans l = true ↔ ∀ t ∈ l, t.lean = true
  | [] => by simp [TT.leans]
  | t :: ts => by rw [TT.leans, Bool.and_eq_true, TT.leans_all ts]; simp
theorem TT.bares_all : ∀ l : List TT, TT.bares l = true ↔ ∀ t ∈ l, t.bare = true
  | [] => by simp [TT.bares]
  | t :: ts => by rw [TT.bares, Bool.and_eq_true, TT.bares_all ts]; simp
theorem TT.bulks_map_le {f : TT → TT} : ∀ l : List TT, (∀ t ∈ l, (f t).bulk 0 ≤ t.bulk 0) → TT.bulks (l.map f) 0 ≤ TT.bulks l 0
  | [], _ => by simp
  | t :: ts, h => by
    rw [List.map_cons, TT.bulks, TT.bulks]
    have h1 := h t (by simp)
    have h2 := TT.bulks_map_le ts (fun u hu => h u (by simp [hu]))
    omega
theorem TT.highs_map {f : TT → TT} : ∀ l : List TT, (∀ t ∈ l, (f t).high 0 = t.high 0) → TT.highs (l.map f) 0 = TT.highs l 0
  | [], _ => by simp
  | t :: ts, h => by
    rw [List.map_cons, TT.highs, TT.highs, h t (by simp), TT.highs_map ts (fun u hu => h u (by simp [hu]))]
/-- an argument of a term that is no Sized has less bulk. -/
theorem TT.bulk_arg {t : TT} (h : t.sane false = true) (hk : t.kind ≠ 10) {u : TT} (hu : u ∈ t.args) : u.bulk 0 < t.bulk 0 := by
  have hmem : ∀ l : List TT, u ∈ l → u.bulk 0 ≤ TT.bulks l 0 := fun l => by
    induction l with
    | nil => intro h; cases h
    | cons a l ih =>
      intro h
      rw [TT.bulks]
      rcases List.mem_cons.1 h with rfl | h
      · omega
      · have := ih h; omega
  have hm := hmem _ hu
  have hr := TT.right (TT.sane_parts h).1
  have hkind := TT.sane_kind h
  have hpos : 0 < t.args.length := List.length_pos_iff.2 (fun e => by rw [e] at hu; cases hu)
  have h1 : t.kind ≠ 1 := fun e => by have := hr.len0 (.inl e); omega
  have h4 : t.kind ≠ 4 := fun e => by have := hr.len0 (.inr (.inr (.inl e))); omega
  obtain ⟨k, v, vs, lo, hi, ws, p, l⟩ := t
  simp only [TT.kind, TT.args] at *
  rw [TT.bulk, if_neg h1, if_neg (by omega), if_neg hk]
  by_cases h2 : k = 2
  · have := hr.len0 (.inr (.inl h2)); simp only [TT.args] at this; omega
  · rw [if_neg h2, if_neg h4]
    split
    · have : 1 ≤ (max 1 hi).toNat := by omega
      have := Nat.mul_le_mul_right (TT.bulks l 0) this
      omega
    · omega
/-- what the steps come to. -/
theorem TT.unf_facts : ∀ (n : Nat) (t : TT), t.sane false = true → t.bulk 0 ≤ n → (t.unf n).kind ≠ 10 ∧ (t.unf n).sane false = true ∧ (t.unf n).bulk 0 ≤ t.bulk 0 ∧ (t.unf n).high 0 = t.high 0 ∧ (t.lean = true → (t.unf n).lean = true)
  | 0, t, hs, hb => by have := TT.bulk_pos0 hs; omega
  | n + 1, t, hs, hb => by
    rw [TT.unf]
    by_cases hk : t.kind = 10
    · rw [if_pos hk]
      obtain ⟨h1, h2, h3, h4⟩ := TT.step_facts hk hs
      obtain ⟨g1, g2, g3, g4, g5⟩ := TT.unf_facts n t.step h1 (by omega)
      exact ⟨g1, g2, by omega, by rw [g4, h3], fun h => g5 (h4 h)⟩
    · rw [if_neg hk]
      exact ⟨hk, hs, Nat.le_refl _, rfl, id⟩
theorem TT.unf_more : ∀ (n m : Nat) (t : TT), t.sane false = true → t.bulk 0 ≤ n → n ≤ m → t.unf m = t.unf n
  | 0, m, t, hs, hb, _ => by have := TT.bulk_pos0 hs; omega
  | n + 1, 0, t, _, _, h => by omega
  | n + 1, m + 1, t, hs, hb, h => by
    rw [TT.unf, TT.unf]
    by_cases hk : t.kind = 10
    · rw [if_pos hk, if_pos hk]
      obtain ⟨h1, h2, _, _⟩ := TT.step_facts hk hs
      exact TT.unf_more n m t.step h1 (by omega) (by omega)
    · rw [if_neg hk, if_neg hk]
theorem TT.unf_not {n : Nat} {t : TT} (hk : t.kind ≠ 10) : t.unf n = t := by
  cases n with
  | zero => rfl
  | succ n => rw [TT.unf, if_neg hk]
/-- what a term is, unfolded wholly. -/
theorem TT.whole_facts : ∀ (n : Nat) (t : TT), t.sane false = true → t.bulk 0 ≤ n → (t.whole n).sane false = true ∧ (t.whole n).bare = true ∧ (t.whole n).bulk 0 ≤ t.bulk 0 ∧ (t.whole n).high 0 = t.high 0 ∧ (t.lean = true → (t.whole n).lean = true)
  | 0, t, hs, hb => by have := TT.bulk_pos0 hs; omega
  | n + 1, t, hs, hb => by
    obtain ⟨hk, hu, hub, huh, hul⟩ := TT.unf_facts (n + 1) t hs hb
    rw [TT.whole]
    generalize t.unf (n + 1) = u at hk hu hub huh hul ⊢
    have ih : ∀ a ∈ u.args, (a.whole n).sane false = true ∧ (a.whole n).bare = true ∧ (a.whole n).bulk 0 ≤ a.bulk 0 ∧ (a.whole n).high 0 = a.high 0 ∧ (a.lean = true → (a.whole n).lean = true) := fun a ha =>
      TT.whole_facts n a (TT.sane_args hu hk a ha) (by have := TT.bulk_arg hu hk ha; omega)
    refine ⟨TT.sane_with hu hk (by simp) fun a ha => ?_, ?_, Nat.le_trans (TT.bulk_with hk (TT.bulks_map_le _ fun a ha => (ih a ha).2.2.1)) hub, (TT.high_with hk (TT.highs_map _ fun a ha => (ih a ha).2.2.2.1)).trans huh, fun h => ?_⟩
    · obtain ⟨b, hb, rfl⟩ := List.mem_map.1 ha
      exact (ih b hb).1
    · have hkk := TT.sane_kind hu
      have hb : TT.bares (u.args.map (TT.whole n)) = true := (TT.bares_all _).2 fun a ha => by
        obtain ⟨b, hb, rfl⟩ := List.mem_map.1 ha
        exact (ih b hb).2.1
      unfold TT.withArgs
      rw [TT.bare, hb]
      have h1 : (u.kind != 10) = true := by simpa using hk
      have h2 : (u.kind != 11) = true := by simp only [bne_iff_ne]; omega
      rw [h1, h2]; rfl
    · have hl := hul h
      refine TT.lean_with hl ((TT.leans_all _).2 fun a ha => ?_)
      obtain ⟨b, hb, rfl⟩ := List.mem_map.1 ha
      exact (ih b hb).2.2.2.2 (TT.leans_mem _ (TT.lean_parts hl).2 b hb)
theorem TT.whole_more : ∀ (n m : Nat) (t : TT), t.sane false = true → t.bulk 0 ≤ n → n ≤ m → t.whole m = t.whole n
  | 0, m, t, hs, hb, _ => by have := TT.bulk_pos0 hs; omega
  | n + 1, 0, t, _, _, h => by omega
  | n + 1, m + 1, t, hs, hb, h => by
    rw [TT.whole, TT.whole, TT.unf_more (n + 1) (m + 1) t hs hb h]
    obtain ⟨hk, hu, hub, _, _⟩ := TT.unf_facts (n + 1) t hs hb
    congr 1
    refine List.map_congr_left fun a ha => ?_
    exact TT.whole_more n m a (TT.sane_args hu hk a ha) (by have := TT.bulk_arg hu hk ha; omega) (by omega)
theorem TT.bare_parts {t : TT} (h : t.bare = true) : t.kind ≠ 10 ∧ t.kind ≠ 11 ∧ ∀ u ∈ t.args, u.bare = true := by
  obtain ⟨k, v, vs, lo, hi, ws, p, l⟩ := t
  rw [TT.bare] at h
  simp only [Bool.and_eq_true, bne_iff_ne] at h
  exact ⟨h.1.1, h.1.2, (TT.bares_all l).1 h.2⟩
/-- a term without Sized stays as it is. -/
theorem TT.whole_bare : ∀ (n : Nat) (t : TT), t.bare = true → t.whole n = t
  | 0, _, _ => rfl
  | n + 1, t, h => by
    obtain ⟨hk, _, ha⟩ := TT.bare_parts h
    rw [TT.whole, TT.unf_not hk]
    have : t.args.map (TT.whole n) = t.args := by
      conv => rhs; rw [← List.map_id t.args]
      exact List.map_congr_left fun a hm => TT.whole_bare n a (ha a hm)
    rw [this, TT.withArgs_self]
/-- a Sized and what it is unfolded to are the same. -/
theorem TT.whole_step {n : Nat} {t : TT} (hk : t.kind = 10) (hs : t.sane false = true) (hb : t.bulk 0 ≤ n) : t.whole n = t.step.whole n := by
  cases n with
  | zero => have := TT.bulk_pos0 hs; omega
  | succ n =>
    obtain ⟨h1, h2, _, _⟩ := TT.step_facts hk hs
    rw [TT.whole, TT.whole, TT.unf, if_pos hk, ← TT.unf_more n (n + 1) t.step h1 (by omega) (by omega)]
theorem TT.whole_not {n : Nat} {t : TT} (hk : t.kind ≠ 10) : t.whole (n + 1) = t.withArgs (t.args.map (TT.whole n)) := by
  rw [TT.whole, TT.unf_not hk]
mutual
/-- as many nodes as its bulk, at most. -/
theorem TT.cnt_bare : ∀ t : TT, t.bare = true → t.sane false = true → t.cnt ≤ t.bulk 0
  | .mk k v vs lo hi ws p l, hb, hs => by
    obtain ⟨hk, h11, ha⟩ := TT.bare_parts hb
    have hss := TT.sane_args hs hk
    have hr := TT.right (TT.sane_parts hs).1
    simp only [TT.kind, TT.args] at *
    have hc := TT.cnts_bare l ha hss
    rw [TT.cnt, TT.bulk]
    by_cases h1 : k = 1
    · have h0 := hr.len0 (.inl h1)
      simp only [TT.args] at h0
      rw [if_pos h1, List.length_eq_zero_iff.1 h0, TT.cnts]
      have := VT.size_pos v
      omega
    · rw [if_neg h1, if_neg h11, if_neg hk]
      by_cases h2 : k = 2
      · have h0 := hr.len0 (.inr (.inl h2))
        simp only [TT.args] at h0
        rw [if_pos h2, List.length_eq_zero_iff.1 h0, TT.cnts]
        omega
      · rw [if_neg h2]
        by_cases h4 : k = 4
        · have h0 := hr.len0 (.inr (.inr (.inl h4)))
          simp only [TT.args] at h0
          rw [if_pos h4, List.length_eq_zero_iff.1 h0, TT.cnts]
          omega
        · rw [if_neg h4]
          split
          · have : 1 ≤ (max 1 hi).toNat := by omega
            have := Nat.mul_le_mul_right (TT.bulks l 0) this
            omega
          · omega
theorem TT.cnts_bare : ∀ l : List TT, (∀ u ∈ l, u.bare = true) → (∀ u ∈ l, u.sane false = true) → TT.cnts l ≤ TT.bulks l 0
  | [], _, _ => by simp [TT.cnts]
  | t :: ts, hb, hs => by
    rw [TT.cnts, TT.bulks]
    have h1 := TT.cnt_bare t (hb t (by simp)) (hs t (by simp))
    have h2 := TT.cnts_bare ts (fun u hu => hb u (by simp [hu])) (fun u hu => hs u (by simp [hu]))
    omega
end
mutual
/-- a term whose Selfs all belong has no free Self. -/
theorem TT.selfs_closed : ∀ t : TT, t.sane false = true → t.selfs = 0
  | .mk k v vs lo hi ws p l, hs => by
    obtain ⟨_, h11, hss⟩ := TT.sane_parts hs
    have h11' : k ≠ 11 := fun e => by have := h11 e; simp at this
    rw [TT.selfs, if_neg h11']
    exact TT.selfss_closed l k 0 hss
theorem TT.selfss_closed : ∀ (l : List TT) (k : Int) (i : Nat), TT.sanes false k i l = true → TT.selfss k i l = 0
  | [], _, _, _ => by rw [TT.selfss]
  | t :: ts, k, i, h => by
    rw [TT.sanes, Bool.and_eq_true] at h
    rw [TT.selfss, TT.selfss_closed ts k (i + 1) h.2]
    by_cases hk : k = 10 ∧ i = 1
    · rw [if_pos hk]
    · rw [if_neg hk, TT.selfs_closed t (by
        have hb : (k == 10 && i == 1) = false := by
          rw [Bool.and_eq_false_iff]
          by_cases h10 : k = 10
          · exact .inr (by simp; exact fun e => hk ⟨h10, e⟩)
          · exact .inl (by simpa using h10)
        have := h.1; rwa [hb, Bool.or_false] at this)]
end
end Go.Proofs.Yteebbffecaeciaa
/- Chapter 21's laws in plain words. -/
namespace Go.Proofs.Yteebbffecaeciaa
open Go.RowKit

/-- unfolded wholly, of a sound term. -/
def TT.Whole (t : TT) : TT := t.whole 4096
theorem less_law {t : TT} (hk : t.kind = 10) (hs : t.sound = true) : t.step.sound = true ∧ t.step.Bulk + 1 = t.Bulk ∧ t.step.High = t.High ∧ t.step.selfs = 0 ∧ t.step.sane false = true := by
  obtain ⟨h1, h2, h3, h4, h5, h6⟩ := TT.sound_parts hs
  obtain ⟨g1, g2, g3, _⟩ := TT.step_facts hk h1
  obtain ⟨k1, k2, k3⟩ := TT.sound_of g1 (by omega) (by omega)
  exact ⟨k1, by omega, by omega, TT.selfs_closed _ g1, g1⟩
theorem whole_law {t : TT} (hs : t.sound = true) : t.Whole.sound = true ∧ t.Whole.bare = true ∧ t.Whole.Whole = t.Whole ∧ t.Whole.Bulk ≤ t.Bulk ∧ t.Whole.High = t.High ∧ t.Whole.cnt ≤ 4096 ∧ t.Whole.sane false = true ∧ (t.lean = true → t.Whole.lean = true) ∧
    (t.kind = 10 → t.step.Whole = t.Whole) := by
  obtain ⟨h1, h2, h3, h4, h5, h6⟩ := TT.sound_parts hs
  obtain ⟨g1, g2, g3, g4, g5⟩ := TT.whole_facts 4096 t h1 h2
  obtain ⟨k1, k2, k3⟩ := TT.sound_of g1 (by omega) (by omega)
  have hc := TT.cnt_bare _ g2 g1
  exact ⟨k1, g2, TT.whole_bare _ _ g2, by unfold TT.Whole; omega, by unfold TT.Whole; omega, by unfold TT.Whole; omega, g1, g5, fun hk => (TT.whole_step hk h1 h2).symm⟩
/-- the arguments, unfolded wholly. -/
theorem parts_law {t : TT} (hs : t.sound = true) (hk : t.kind ≠ 10) : t.Whole = t.withArgs (t.args.map TT.Whole) ∧ ∀ u ∈ t.args, u.sane false = true ∧ u.bulk 0 ≤ 4096 := by
  obtain ⟨h1, h2, h3, h4, h5, h6⟩ := TT.sound_parts hs
  have ha : ∀ u ∈ t.args, u.sane false = true ∧ u.bulk 0 ≤ 4095 := fun u hu => ⟨TT.sane_args h1 hk u hu, by have := TT.bulk_arg h1 hk hu; omega⟩
  refine ⟨?_, fun u hu => ⟨(ha u hu).1, by have := (ha u hu).2; omega⟩⟩
  have e : ∀ n, n = 4095 → t.whole (n + 1) = t.withArgs (t.args.map (TT.whole n)) := fun n _ => TT.whole_not hk
  have e1 := e 4095 rfl
  have e2 : t.args.map (TT.whole 4095) = t.args.map TT.Whole := List.map_congr_left fun a hm => (TT.whole_more 4095 4096 a (ha a hm).1 (ha a hm).2 (by omega)).symm
  rw [e2] at e1
  exact e1
/-- what each makes of a term. -/
def TT.each (g : TT → TT) (t : TT) : TT := t.withArgs (t.args.mapIdx fun i a => if t.kind = 10 ∧ i = 1 then a else g a)
theorem TT.puts_each (k : Int) (s : TT) : ∀ (l : List TT) (i : Nat), TT.puts k i l s = l.mapIdx fun j a => if k = 10 ∧ i + j = 1 then a else a.put s
  | [], _ => by rw [TT.puts]; rfl
  | a :: l, i => by
    rw [TT.puts, TT.puts_each k s l (i + 1), List.mapIdx_cons]
    congr 1
    congr 1
    funext j a
    have : i + 1 + j = i + (j + 1) := by omega
    rw [this]
theorem TT.put_each {t s : TT} (hk : t.kind ≠ 11) : t.put s = t.each (fun a => a.put s) := by
  obtain ⟨k, v, vs, lo, hi, ws, p, l⟩ := t
  rw [TT.put, if_neg (show ¬ k = 11 from hk), TT.puts_each]
  simp only [Nat.zero_add]
  rfl
/-- a term that is no Sized has all of its arguments handed on. -/
theorem TT.each_all {t : TT} {g : TT → TT} (hk : t.kind ≠ 10) : t.each g = t.withArgs (t.args.map g) := by
  have h : ∀ (l : List TT), (l.mapIdx fun i a => if t.kind = 10 ∧ i = 1 then a else g a) = l.map g := fun l => by
    refine List.ext_getElem (by simp) fun i h1 h2 => ?_
    rw [List.getElem_mapIdx, List.getElem_map, if_neg (fun h => hk h.1)]
  unfold TT.each
  rw [h]
end Go.Proofs.Yteebbffecaeciaa
/- Rounds of each's loop: what the row of arguments holds. -/
namespace Go.Proofs.Yteebbffecaeciaa
open Go.RowKit

/-- the arguments before i are made; but for the row, and the blocks from lo up to hi, nothing of what was has turned. -/
structure EachG (lo hi : Nat) (S' : Nat → Prop) (l' : List TT) (B c : Nat) (w3 wr : World) (i : Nat) : Prop where
  os : wr.os = w3.os
  tape : wr.tape = w3.tape
  output : wr.output = w3.output
  size : w3.heap.size ≤ wr.heap.size
  same : ∀ k, k < w3.heap.size → k ≠ B → (k < lo ∨ hi ≤ k) → wr.heap[k]? = w3.heap[k]?
  row : RowAt wr 47 B (c * 15)
  done : ∀ j (_ : j < i) (hj : j < l'.length), ∃ A, TCells wr B (j * 15) l'[j] A ∧ TOkA S' wr l'[j] A
theorem setL_os (B : Nat) : ∀ (l : List (Nat × Value)) (w : World), (setL B l w).os = w.os ∧ (setL B l w).tape = w.tape ∧ (setL B l w).output = w.output
  | [], _ => ⟨rfl, rfl, rfl⟩
  | (o, v) :: l, w => by
    have h := setL_os B l (w.setCell ⟨B, o, none⟩ v)
    exact ⟨h.1.trans rfl, h.2.1.trans rfl, h.2.2.trans rfl⟩
theorem EachG.step {lo hi : Nat} {S' : Nat → Prop} {l' : List TT} {B c i : Nat} {w3 wr w5 : World} (hSB : S' B) (hBhi : hi ≤ B) (hSS : ∀ q, lo ≤ q → q < hi → S' q) (h : EachG lo hi S' l' B c w3 wr i) (hi' : i < l'.length) (hB : B < wr.heap.size) (hc : l'.length ≤ c) (hb : Only lo hi wr w5) {Y : TA} (hY : TOkA S' w5 l'[i] Y) :
    EachG lo hi S' l' B c w3 (setL B (cellsT (i * 15) l'[i] Y) w5) (i + 1) := by
  have hblk : w5.heap[B]? = wr.heap[B]? := hb.block B hB (.inr hBhi)
  have hrow5 : RowAt w5 47 B (c * 15) := row_block hblk h.row
  have hne : ∀ k, k ≠ B → (setL B (cellsT (i * 15) l'[i] Y) w5).heap[k]? = w5.heap[k]? := fun k hk => setL_block B hk _ _
  have hout : ∀ o, o < i * 15 ∨ i * 15 + 15 ≤ o → ∀ v, w5.cell? ⟨B, o, none⟩ = some v → (setL B (cellsT (i * 15) l'[i] Y) w5).cell? ⟨B, o, none⟩ = some v := fun o ho v hv => by
    rw [setL_out B B o _ w5 (fun _ hm => by obtain ⟨p, hp, rfl⟩ := List.mem_map.1 hm; have := cellsT_off _ _ _ p hp; omega)]; exact hv
  have hz : (setL B (cellsT (i * 15) l'[i] Y) w5).heap.size = w5.heap.size := setL_size _ _ _
  have hin : ∀ p ∈ cellsT (i * 15) l'[i] Y, (setL B (cellsT (i * 15) l'[i] Y) w5).cell? ⟨B, p.1, none⟩ = some p.2 := setL_in B _ w5 (by simp [cellsT]) (fun p hp => hrow5.cell p.1 (by have := cellsT_off _ _ _ p hp; omega))
  have hrow6 : RowAt (setL B (cellsT (i * 15) l'[i] Y) w5) 47 B (c * 15) := setL_row B _ _ hrow5
  have hY6 : TOkA S' (setL B (cellsT (i * 15) l'[i] Y) w5) l'[i] Y := hY.step (Nat.le_of_eq hz.symm) fun k _ hk => ⟨hk, hne k (fun e => hk (e ▸ hSB))⟩
  have hcl : TCells (setL B (cellsT (i * 15) l'[i] Y) w5) B (i * 15) l'[i] Y := by
    refine ⟨?_, ?_, ?_, ?_, ?_, ?_, ?_, ?_, ?_, ?_, ?_, ?_, ?_, ?_, ?_⟩
    all_goals exact hin (_, _) (by simp [cellsT])
  obtain ⟨o1, o2, o3⟩ := setL_os B (cellsT (i * 15) l'[i] Y) w5
  generalize setL B (cellsT (i * 15) l'[i] Y) w5 = w6 at *
  have hs5 := hb.size; have hs := h.size
  refine ⟨o1.trans (hb.os.trans h.os), o2.trans (hb.tape.trans h.tape), o3.trans (hb.output.trans h.output), by omega, fun k h1 h2 h3 => (hne k h2).trans ((hb.block k (by omega) h3).trans (h.same k h1 h2 h3)), hrow6, fun j hj hj' => ?_⟩
  by_cases e : j = i
  · subst e; exact ⟨Y, hcl, hY6⟩
  · obtain ⟨A, hc1, hok⟩ := h.done j (by omega) hj'
    have hcl5 := TCells.block hblk hc1
    have hok5 : TOkA S' w5 l'[j] A := hok.step hs5 fun k h1 h2 => ⟨h2, hb.block k h1 (by
      by_cases h3 : k < lo
      · exact .inl h3
      · by_cases h4 : k < hi
        · exact absurd (hSS k (by omega) h4) h2
        · exact .inr (by omega))⟩
    refine ⟨A, ?_, hok5.step (by omega) fun k _ hk => ⟨hk, hne k (fun e => hk (e ▸ hSB))⟩⟩
    obtain ⟨h0, h1, h2, h3, h4, h5, h6, h7, h8, h9, h10, h11, h12, h13, h14⟩ := hcl5
    exact ⟨hout _ (.inl (by omega)) _ h0, hout _ (.inl (by omega)) _ h1, hout _ (.inl (by omega)) _ h2, hout _ (.inl (by omega)) _ h3, hout _ (.inl (by omega)) _ h4, hout _ (.inl (by omega)) _ h5, hout _ (.inl (by omega)) _ h6, hout _ (.inl (by omega)) _ h7, hout _ (.inl (by omega)) _ h8, hout _ (.inl (by omega)) _ h9, hout _ (.inl (by omega)) _ h10, hout _ (.inl (by omega)) _ h11, hout _ (.inl (by omega)) _ h12, hout _ (.inl (by omega)) _ h13, hout _ (.inl (by omega)) _ h14⟩
theorem TT.put_self {t s : TT} (hk : t.kind = 11) : t.put s = s := by
  obtain ⟨k, v, vs, lo, hi, ws, p, l⟩ := t
  rw [TT.put, if_pos (show k = 11 from hk)]
theorem TT.selfs_self {t : TT} (hk : t.kind = 11) : t.selfs = 1 := by
  obtain ⟨k, v, vs, lo, hi, ws, p, l⟩ := t
  rw [TT.selfs, if_pos (show k = 11 from hk)]
theorem TT.selfs_not {t : TT} (hk : ¬ t.kind = 11) : t.selfs = TT.selfss t.kind 0 t.args := by
  obtain ⟨k, v, vs, lo, hi, ws, p, l⟩ := t
  rw [TT.selfs, if_neg (show ¬ k = 11 from hk)]
  rfl
theorem Only.nil {k : Nat} {a b : World} (h : Only k k a b) : Below a.heap.size a b := ⟨h.os, h.tape, h.output, h.size, fun i hi => h.block i hi (by omega)⟩
/-- what is made anew holds whatever older blocks hold. -/
theorem TFIn.robust {w : World} {lo : Nat} {t : TT} {x : Value} (h : TFIn w lo t x) {S : Nat → Prop} (hS : ∀ q, S q → q < lo) (_hlo : lo ≤ w.heap.size) : TInA S w t x := by
  obtain ⟨A, e, h⟩ := h
  exact ⟨A, e, fun W ha => (h.mono (lo' := lo) (Nat.le_refl _) (fun b o v hb hc => ha.cell (fun hs => by have := hS b hs; omega) hc) (fun b o v hb hc hf => by
    have hlt := lt_of_cell hc
    rw [World.frozen?_of_block (w := w) (a := ⟨b, o, none⟩) (ha.2 b hlt (fun hs => by have := hS b hs; omega))]; exact hf) t A).tok t A⟩
/-- the field of the arguments is written. -/
theorem args_set {w : World} {bo n c' : Nat} {a' : Option Addr} {t0 : TT} {A0 : TA} (h0 : TCells w bo 0 t0 A0) : ∃ w7, w.setCell ⟨bo, 14, none⟩ (.slice a' n c') = w7 ∧ (∀ k, k ≠ bo → w7.heap[k]? = w.heap[k]?) ∧ w7.heap.size = w.heap.size ∧ (∀ lo a, lo ≤ bo → Below lo a w → Below lo a w7) ∧
    (∀ (t : TT) (A : TA), t.kind = t0.kind → t.v = t0.v → t.vs = t0.vs → t.lo = t0.lo → t.hi = t0.hi → t.ws = t0.ws → t.p = t0.p → { A with aa := A0.aa, ac := A0.ac } = A0 → Value.slice A.aa t.args.length A.ac = Value.slice a' n c' → TCells w7 bo 0 t A) ∧ (∀ p, w7.frozen? p = w.frozen? p) ∧ (∀ T m, RowAt w T bo m → RowAt w7 T bo m) := by
  refine ⟨setL bo [(14, .slice a' n c')] w, rfl, fun b hb => setL_block _ hb _ _, setL_size _ _ _, fun lo a h h' => setL_below _ h _ _ h', ?_, fun p => setL_frozen _ _ _ _, fun T m h => setL_row _ _ _ h⟩
  intro t A e1 e2 e3 e4 e5 e6 e7 e8 e9
  obtain ⟨c0, c1, c2, c3, c4, c5, c6, c7, c8, c9, c10, c11, c12, c13, c14⟩ := h0
  have ho : ∀ o v, o ≠ 14 → w.cell? ⟨bo, o, none⟩ = some v → (setL bo [(14, .slice a' n c')] w).cell? ⟨bo, o, none⟩ = some v := fun o v hne hv => by rw [setL_out _ _ _ _ _ (fun _ => by simpa using hne)]; exact hv
  have h14 : (setL bo [(14, .slice a' n c')] w).cell? ⟨bo, 14, none⟩ = some (.slice a' n c') := setL_in _ _ _ (by simp) (fun q hq => by simp only [List.mem_singleton] at hq; subst hq; exact ⟨_, c14⟩) (14, _) (by simp)
  rw [← e8] at c3 c4 c7 c11 c13
  rw [← e1] at c0; rw [← e2] at c1 c2 c3; rw [← e3] at c4; rw [← e4] at c5; rw [← e5] at c6; rw [← e6] at c7; rw [← e7] at c8 c9 c10 c11 c12 c13
  exact ⟨ho _ _ (by decide) c0, ho _ _ (by decide) c1, ho _ _ (by decide) c2, ho _ _ (by decide) c3, ho _ _ (by decide) c4, ho _ _ (by decide) c5, ho _ _ (by decide) c6, ho _ _ (by decide) c7, ho _ _ (by decide) c8, ho _ _ (by decide) c9, ho _ _ (by decide) c10, ho _ _ (by decide) c11, ho _ _ (by decide) c12, ho _ _ (by decide) c13, by rw [e9]; exact h14⟩
end Go.Proofs.Yteebbffecaeciaa
/- The law's spoil of terms. -/
namespace Go.Proofs.Yteebbffecaeciaa
open Go.RowKit

theorem Spot.get {w : World} {lo hi K : Nat} {E : Nat → Nat → Prop} {a : Option Addr} {n i : Nat} (h : Spot w lo hi K E a n) (hi' : i < n) : ∃ b, a = some ⟨b, 0, none⟩ ∧ lo ≤ b ∧ b < hi ∧ (∀ j, j < K → w.frozen? ⟨b, i * K + j, none⟩ = false) ∧ E b (i * K) := by
  rcases h with h | ⟨b, ha, h1, h2, hr⟩
  · omega
  · exact ⟨b, ha, h1, h2, (hr i hi').1, (hr i hi').2⟩
theorem TW.arg {w : World} {lo hi : Nat} : ∀ {d : Nat} {t : TT} {A : TA} (_ : TW w lo hi d t A) {i : Nat} (_ : i < t.args.length), ∃ d' b t' A', d' < d ∧ A.aa = some ⟨b, 0, none⟩ ∧ lo ≤ b ∧ b < hi ∧ (∀ j, j < 15 → w.frozen? ⟨b, i * 15 + j, none⟩ = false) ∧ TCells w b (i * 15) t' A' ∧ TW w lo hi d' t' A'
  | 0, _, _, ⟨_, he⟩, i, hi' => by rw [he] at hi'; simp at hi'
  | d + 1, _, _, ⟨_, hs⟩, i, hi' => by
    obtain ⟨b, ha, h1, h2, hf, t', A', hc, hw⟩ := hs.get hi'
    exact ⟨d, b, t', A', Nat.lt_succ_self d, ha, h1, h2, hf, hc, hw⟩
theorem cells_there {w : World} {b q : Nat} {t : TT} {A : TA} (hc : TCells w b q t A) (hf : ∀ j, j < 15 → w.frozen? ⟨b, q + j, none⟩ = false) : w.there b q 15 := fun j hj => by
  obtain ⟨u, hu⟩ := hc.has j hj
  exact ⟨by rw [hu]; rfl, hf j hj⟩
theorem wpList_store15W {ops : Array Oper} {rest : List Oper} {o : Oper} {a : Act} {w : World} {Q : Exit → Act → World → Prop} {t : TT} {A : TA} {B q : Nat} {po xo : Operand} (g : o.guard = none) (h : o.op = .store 47 po xo) (d2 : o.dst = none) (e1 : a.eval po = .pointer (some ⟨B, q, none⟩)) (e2 : a.eval xo = t.val A)
    (hrow : w.there B q 15) (hk : ∀ wE, Hid (wE = setL B (cellsT q t A) w) → wpList Try.prog ops Q rest a wE) : wpList Try.prog ops Q (o :: rest) a w := by
  refine wpList_plain g fun K hK => wp_skip (K := K) (w' := setL B (cellsT q t A) w) ?_ d2 (hK _ _ (hk _ (Lib.hid rfl)))
  have hrun := run_at15W (t := t) (A := A) hrow
  obtain ⟨od, oo, ot, op, oa, og⟩ := o
  simp only at h
  subst h
  unfold execOp
  simp only [e1, e2, Sem.run_bind, Sem.run_pure, hrun, Result.andThen_ok]
def t99 : TT := .mk 99 (.mk 0 0 []) [] 0 0 [] (.mk 0 (.mk 0 0 []) 0 []) []
def A99 : TA := ⟨none, 0, none, 0, none, 0, none, 0, none, 0, none, 0⟩
/-- a term written over. -/
theorem fades_term {lo hi : Nat} {a w : World} (h : Fades lo hi a w) {b q : Nat} {t : TT} {A : TA} (hc : TCells w b q t A) : Fades lo hi a (setL b (cellsT q t99 A99) w) := by
  obtain ⟨c0, c1, c2, c3, c4, c5, c6, c7, c8, c9, c10, c11, c12, c13, c14⟩ := hc
  refine Fades.setL _ (by simp [cellsT]) (fun p hp => ?_) h
  simp only [cellsT, List.mem_cons, List.not_mem_nil, or_false] at hp
  rcases hp with rfl | rfl | rfl | rfl | rfl | rfl | rfl | rfl | rfl | rfl | rfl | rfl | rfl | rfl | rfl
  · exact ⟨_, c0, Fade.u8 _ _⟩
  · exact ⟨_, c1, Fade.u8 _ _⟩
  · exact ⟨_, c2, Fade.i64 _ _⟩
  · exact ⟨_, c3, Fade.nil _ _ _⟩
  · exact ⟨_, c4, Fade.nil _ _ _⟩
  · exact ⟨_, c5, Fade.i64 _ _⟩
  · exact ⟨_, c6, Fade.i64 _ _⟩
  · exact ⟨_, c7, Fade.nil _ _ _⟩
  · exact ⟨_, c8, Fade.u8 _ _⟩
  · exact ⟨_, c9, Fade.u8 _ _⟩
  · exact ⟨_, c10, Fade.i64 _ _⟩
  · exact ⟨_, c11, Fade.nil _ _ _⟩
  · exact ⟨_, c12, Fade.i64 _ _⟩
  · exact ⟨_, c13, Fade.nil _ _ _⟩
  · exact ⟨_, c14, Fade.nil _ _ _⟩
theorem fades_val {lo hi : Nat} {a w : World} (h : Fades lo hi a w) {b q : Nat} {k n : Int} {s : Option Addr} {l c : Nat} (c0 : w.cell? ⟨b, q, none⟩ = some (.int .u8 k)) (c1 : w.cell? ⟨b, q + 1, none⟩ = some (.int .i64 n)) (c2 : w.cell? ⟨b, q + 2, none⟩ = some (.slice s l c)) : Fades lo hi a (setL b [(q, .int .u8 99), (q + 1, .int .i64 0), (q + 2, .slice none 0 0)] w) := by
  refine Fades.setL _ (by simp) (fun p hp => ?_) h
  simp only [List.mem_cons, List.not_mem_nil, or_false] at hp
  rcases hp with rfl | rfl | rfl
  · exact ⟨_, c0, Fade.u8 _ _⟩
  · exact ⟨_, c1, Fade.i64 _ _⟩
  · exact ⟨_, c2, Fade.nil _ _ _⟩
theorem fades_pred {lo hi : Nat} {a w : World} (h : Fades lo hi a w) {b q : Nat} {k vk vn n : Int} {s s' : Option Addr} {l c l' c' : Nat} (c0 : w.cell? ⟨b, q, none⟩ = some (.int .u8 k)) (c1 : w.cell? ⟨b, q + 1, none⟩ = some (.int .u8 vk)) (c2 : w.cell? ⟨b, q + 2, none⟩ = some (.int .i64 vn)) (c3 : w.cell? ⟨b, q + 3, none⟩ = some (.slice s l c))
    (c4 : w.cell? ⟨b, q + 4, none⟩ = some (.int .i64 n)) (c5 : w.cell? ⟨b, q + 5, none⟩ = some (.slice s' l' c')) : Fades lo hi a (setL b [(q, .int .u8 99), (q + 1, .int .u8 0), (q + 2, .int .i64 0), (q + 3, .slice none 0 0), (q + 4, .int .i64 0), (q + 5, .slice none 0 0)] w) := by
  refine Fades.setL _ (by simp) (fun p hp => ?_) h
  simp only [List.mem_cons, List.not_mem_nil, or_false] at hp
  rcases hp with rfl | rfl | rfl | rfl | rfl | rfl
  · exact ⟨_, c0, Fade.u8 _ _⟩
  · exact ⟨_, c1, Fade.u8 _ _⟩
  · exact ⟨_, c2, Fade.i64 _ _⟩
  · exact ⟨_, c3, Fade.nil _ _ _⟩
  · exact ⟨_, c4, Fade.i64 _ _⟩
  · exact ⟨_, c5, Fade.nil _ _ _⟩
def Faded (lo hi : Nat) (w0 w : World) : Prop := Only lo hi w0 w ∧ Fades lo hi w0 w
end Go.Proofs.Yteebbffecaeciaa
