/- Texts of this claim laid into one: TPutA, TPut, TOps. -/
import Derived.Test.YtapofbdkofelkaaGreatM34
/- The law's put: a term, with another one for each Self that belongs to no Sized in it. -/
namespace Go.Proofs.YtapofbdkofelkaaGreat
open Go.RowKit

section
variable {k lo hi : Int} {v : VT} {vs : List VT} {ws : List Int} {p : PT} {l : List TT}
theorem TT.kind_mk : TT.kind (.mk k v vs lo hi ws p l) = k := rfl
theorem TT.v_mk : TT.v (.mk k v vs lo hi ws p l) = v := rfl
theorem TT.vs_mk : TT.vs (.mk k v vs lo hi ws p l) = vs := rfl
theorem TT.lo_mk : TT.lo (.mk k v vs lo hi ws p l) = lo := rfl
theorem TT.hi_mk : TT.hi (.mk k v vs lo hi ws p l) = hi := rfl
theorem TT.ws_mk : TT.ws (.mk k v vs lo hi ws p l) = ws := rfl
theorem TT.p_mk : TT.p (.mk k v vs lo hi ws p l) = p := rfl
theorem TT.args_mk : TT.args (.mk k v vs lo hi ws p l) = l := rfl
end
/-- 'append([]Term{}, l..)': a row of its own. -/
theorem append_own (w : World) (n : Nat) (a : Option Addr) (cap : Nat) (hl : n ≤ 651562446070) (hr : CellsAt 15 n a w) : ∃ a' cap' w', (Builtin.append_ #[29, 29] 29 #[.slice (some ⟨w.heap.size, 0, none⟩) 0 0, .slice a n cap]).run Tryz.prog (w.alloc (.cells #[] 31)) = .ok (.slice a' n cap') w' ∧ Below w.heap.size w w' ∧ w.heap.size < w'.heap.size ∧
    (n = 0 ∨ ∃ B, a' = some ⟨B, 0, none⟩ ∧ w.heap.size ≤ B ∧ RowAt w' 31 B (cap' * 15) ∧ n ≤ cap' ∧ ∀ b o j u, a = some ⟨b, o, none⟩ → j < n * 15 → w.cell? ⟨b, o + j, none⟩ = some u → w'.cell? ⟨B, j, none⟩ = some u) := by
  obtain ⟨w1, hw1, m1, s1⟩ : ∃ w1, w.alloc (.cells #[] 31) = w1 ∧ Below w.heap.size w w1 ∧ w.heap.size < w1.heap.size := ⟨_, rfl, Below.al _, by simp⟩
  rw [hw1]
  obtain ⟨i0, hi0, hz0, hz1, hz2⟩ := info_parts zeroT
  have hsrc : ∃ news : List Value, news.length = n * 15 ∧ Src Tryz.prog 15 29 (.slice a n cap) n news w1 ∧ ∀ b o j u, a = some ⟨b, o, none⟩ → j < n * 15 → w.cell? ⟨b, o + j, none⟩ = some u → news[j]? = some u := by
    rcases hr with h0 | ⟨b, o, e, hc⟩
    · subst h0
      cases a with
      | none => exact ⟨[], by simp, Src.ofNil w1 Tryz.underlying29 cap, fun b o j u h => by simp at h⟩
      | some p => exact ⟨[], by simp, Src.ofSlice w1 Tryz.underlying29 p 0 cap [] (by simp) (fun j u h => by simp at h) (fun u h => by simp at h), fun b o j u _ h => by omega⟩
    · subst e
      have hnews : ∀ (j : Nat) (u : Value), ((List.range (n * 15)).map fun j => (w.cell? ⟨b, o + j, none⟩).getD .nilIface)[j]? = some u → w.cell? ⟨b, o + j, none⟩ = some u ∧ u.oneCell' = true := fun j u h => by
        obtain ⟨hj, he⟩ := List.getElem?_eq_some_iff.1 h
        have hj' : j < n * 15 := by simpa using hj
        obtain ⟨v, hv, h1⟩ := hc j hj'
        simp only [List.getElem_map, List.getElem_range, hv, Option.getD_some] at he
        subst he
        exact ⟨hv, h1⟩
      refine ⟨(List.range (n * 15)).map fun j => (w.cell? ⟨b, o + j, none⟩).getD .nilIface, by simp, Src.ofSlice w1 Tryz.underlying29 ⟨b, o, none⟩ n cap _ (by simp) (fun j u hu => ?_) (fun u hu => ?_), fun b' o' j u e hj hu => ?_⟩
      · have := (hnews j u hu).1
        rw [Addr.add_lit]
        exact (m1.cell (block_lt_of_cell this)).trans this
      · obtain ⟨j, hj, rfl⟩ := List.getElem_of_mem hu
        exact (hnews j _ (List.getElem?_eq_getElem hj)).2
      · cases e
        simp [hj, hu]
  obtain ⟨news, hnl, src, hnews⟩ := hsrc
  obtain ⟨a6, cap6, w6, happ, hg6, hb6, _⟩ := grown_append (P := Tryz.prog) (w := w1) (B := w.heap.size) (T := 31) (k := 15) (xs := []) m1.size (Grown.empty w1 w.heap.size 31 15 w.heap.size) (t := 29) (tx := 29) (ty := 29)
    Tryz.underlying29 hi0 hz0 hz1 rfl hz2 src (by omega) (by omega)
  simp only [Nat.zero_add, List.nil_append] at happ hg6
  refine ⟨a6, cap6, w6, happ, m1.trans (hb6.mono (Nat.le_refl _)), Nat.lt_of_lt_of_le s1 hb6.size, ?_⟩
  by_cases h0 : n = 0
  · exact .inl h0
  · obtain ⟨B, e, hB, hrow, hc⟩ := hg6.cells (by rw [hnl]; omega)
    exact .inr ⟨B, e, hB, hrow, hg6.le, fun b o j u ha hj hu => hc j u (hnews b o j u ha hj hu)⟩
/-- rounds of put's loop: the elements before i are put, the rest is as it was. -/
structure PutG (S' : Nat → Prop) (l' : List TT) (B c : Nat) (w3 wr : World) (i : Nat) : Prop where
  below : Below B w3 wr
  size : w3.heap.size ≤ wr.heap.size
  same : ∀ k, k < w3.heap.size → k ≠ B → wr.heap[k]? = w3.heap[k]?
  row : RowAt wr 31 B (c * 15)
  done : ∀ j (_ : j < i) (hj : j < l'.length), ∃ A, TCells wr B (j * 15) l'[j] A ∧ TOkA S' wr l'[j] A
  rest : ∀ j u, i * 15 ≤ j → w3.cell? ⟨B, j, none⟩ = some u → wr.cell? ⟨B, j, none⟩ = some u
theorem PutG.step {S' : Nat → Prop} {l' : List TT} {B c i : Nat} {w3 wr w5 : World} (hSB : S' B) (h : PutG S' l' B c w3 wr i) (hi : i < l'.length) (hB : B < wr.heap.size) (hc : l'.length ≤ c) (hb : Below wr.heap.size wr w5) {Y : TA} (hY : TOkA S' w5 l'[i] Y) : PutG S' l' B c w3 (setL B (cellsT (i * 15) l'[i] Y) w5) (i + 1) := by
  have hrow5 := h.row.below hB hb
  have hne : ∀ k, k ≠ B → (setL B (cellsT (i * 15) l'[i] Y) w5).heap[k]? = w5.heap[k]? := fun k hk => setL_block B hk _ _
  have hout : ∀ o, o < i * 15 ∨ i * 15 + 15 ≤ o → ∀ v, w5.cell? ⟨B, o, none⟩ = some v → (setL B (cellsT (i * 15) l'[i] Y) w5).cell? ⟨B, o, none⟩ = some v := fun o ho v hv => by
    rw [setL_out B B o _ w5 (fun _ hm => by obtain ⟨p, hp, rfl⟩ := List.mem_map.1 hm; have := cellsT_off _ _ _ p hp; omega)]; exact hv
  have hz : (setL B (cellsT (i * 15) l'[i] Y) w5).heap.size = w5.heap.size := setL_size _ _ _
  have hin : ∀ p ∈ cellsT (i * 15) l'[i] Y, (setL B (cellsT (i * 15) l'[i] Y) w5).cell? ⟨B, p.1, none⟩ = some p.2 := setL_in B _ w5 (by simp [cellsT]) (fun p hp => hrow5.cell p.1 (by have := cellsT_off _ _ _ p hp; omega))
  have hrow6 : RowAt (setL B (cellsT (i * 15) l'[i] Y) w5) 31 B (c * 15) := setL_row B _ _ hrow5
  have hY6 : TOkA S' (setL B (cellsT (i * 15) l'[i] Y) w5) l'[i] Y := hY.step (Nat.le_of_eq hz.symm) fun k _ hk => ⟨hk, hne k (fun e => hk (e ▸ hSB))⟩
  have hcl : TCells (setL B (cellsT (i * 15) l'[i] Y) w5) B (i * 15) l'[i] Y := by
    refine ⟨?_, ?_, ?_, ?_, ?_, ?_, ?_, ?_, ?_, ?_, ?_, ?_, ?_, ?_, ?_⟩
    all_goals exact hin (_, _) (by simp [cellsT])
  have hbl : Below B w3 (setL B (cellsT (i * 15) l'[i] Y) w5) := setL_below B (Nat.le_refl _) _ _ (h.below.trans (hb.mono (Nat.le_of_lt hB)))
  generalize setL B (cellsT (i * 15) l'[i] Y) w5 = w6 at *
  have hs5 := hb.size; have hs := h.size
  refine ⟨hbl, by omega, fun k h1 h2 => (hne k h2).trans ((hb.block k (by omega)).trans (h.same k h1 h2)), hrow6, fun j hj hj' => ?_, fun j u h1 h2 => hout j (.inr (by omega)) u (cell_stays hb (h.rest j u (by omega) h2))⟩
  by_cases e : j = i
  · subst e; exact ⟨Y, hcl, hY6⟩
  · obtain ⟨A, hc1, hok⟩ := h.done j (by omega) hj'
    have hcl5 := hc1.below hb
    refine ⟨A, ?_, (hok.below hb).step (by omega) fun k _ hk => ⟨hk, hne k (fun e => hk (e ▸ hSB))⟩⟩
    obtain ⟨h0, h1, h2, h3, h4, h5, h6, h7, h8, h9, h10, h11, h12, h13, h14⟩ := hcl5
    exact ⟨hout _ (.inl (by omega)) _ h0, hout _ (.inl (by omega)) _ h1, hout _ (.inl (by omega)) _ h2, hout _ (.inl (by omega)) _ h3, hout _ (.inl (by omega)) _ h4, hout _ (.inl (by omega)) _ h5, hout _ (.inl (by omega)) _ h6, hout _ (.inl (by omega)) _ h7, hout _ (.inl (by omega)) _ h8, hout _ (.inl (by omega)) _ h9, hout _ (.inl (by omega)) _ h10, hout _ (.inl (by omega)) _ h11, hout _ (.inl (by omega)) _ h12, hout _ (.inl (by omega)) _ h13, hout _ (.inl (by omega)) _ h14⟩
theorem PutG.skip {S' : Nat → Prop} {l' : List TT} {B c i : Nat} {w3 wr : World} (h : PutG S' l' B c w3 wr i) (hn : ∀ hj : i < l'.length, ∃ A, TCells wr B (i * 15) l'[i] A ∧ TOkA S' wr l'[i] A) : PutG S' l' B c w3 wr (i + 1) :=
  ⟨h.below, h.size, h.same, h.row, fun j hj hj' => by
    by_cases e : j = i
    · subst e; exact hn hj'
    · exact h.done j (by omega) hj', fun j u h1 h2 => h.rest j u (by omega) h2⟩
theorem TCells.one_addr {w : World} {b o : Nat} {t : TT} {A A' : TA} (h : TCells w b o t A) (h' : TCells w b o t A') : A = A' := by
  obtain ⟨h0, h1, h2, h3, h4, h5, h6, h7, h8, h9, h10, h11, h12, h13, h14⟩ := h
  obtain ⟨k0, k1, k2, k3, k4, k5, k6, k7, k8, k9, k10, k11, k12, k13, k14⟩ := h'
  rw [h3] at k3; rw [h4] at k4; rw [h7] at k7; rw [h11] at k11; rw [h13] at k13; rw [h14] at k14
  obtain ⟨a1, a2, a3, a4, a5, a6, a7, a8, a9, a10, a11, a12⟩ := A
  obtain ⟨b1, b2, b3, b4, b5, b6, b7, b8, b9, b10, b11, b12⟩ := A'
  simp only [Option.some.injEq, Value.slice.injEq] at k3 k4 k7 k11 k13 k14
  obtain ⟨rfl, _, rfl⟩ := k3
  obtain ⟨rfl, _, rfl⟩ := k4
  obtain ⟨rfl, _, rfl⟩ := k7
  obtain ⟨rfl, _, rfl⟩ := k11
  obtain ⟨rfl, _, rfl⟩ := k13
  obtain ⟨rfl, _, rfl⟩ := k14
  rfl
open Classical in
/-- w with nothing in the blocks of S. -/
noncomputable def eraseS (S : Nat → Prop) (w : World) : World := { w with heap := w.heap.mapIdx fun k o => if S k then .cells #[] 0 else o }
theorem eraseS_agree (S : Nat → Prop) (w : World) : AgreeS S w (eraseS S w) := by
  refine ⟨by simp [eraseS], fun k hk hn => ?_⟩
  simp [eraseS, hn, hk]
theorem eraseS_cell {S : Nat → Prop} {w : World} {b o : Nat} {v : Value} (h : (eraseS S w).cell? ⟨b, o, none⟩ = some v) : ¬ S b := fun hS => by
  have hlt := lt_of_cell h
  have hb : (eraseS S w).heap[b]? = some (.cells #[] 0) := by
    have : b < w.heap.size := by simpa [eraseS] using hlt
    simp [eraseS, hS, this]
  unfold World.cell? at h
  rw [hb] at h
  simp at h
theorem elemA {S : Nat → Prop} {w : World} {l : List TT} {aa : Option Addr} (h : ∀ W, AgreeS S w W → TRow W l aa) {i : Nat} (hi : i < l.length) : ∃ b o X, aa = some ⟨b, o, none⟩ ∧ ¬ S b ∧ TCells w b (o + i * 15) l[i] X ∧ TOkA S w l[i] X := by
  obtain ⟨b, o, e, X, hc, hk⟩ := (h w ⟨Nat.le_refl _, fun _ _ _ => rfl⟩).get i hi
  have hS : ¬ S b := by
    obtain ⟨b', o', e', X', hc', _⟩ := (h _ (eraseS_agree S w)).get i hi
    rw [e] at e'
    cases e'
    exact eraseS_cell hc'.1
  refine ⟨b, o, X, e, hS, hc, fun W ha => ?_⟩
  obtain ⟨b', o', e', X', hc', hk'⟩ := (h W ha).get i hi
  rw [e] at e'
  cases e'
  have hcW : TCells W b (o + i * 15) l[i] X := hc.keep fun o v hv => ha.cell hS hv
  rw [hcW.one_addr hc']
  exact hk'
theorem tok_args {S S' : Nat → Prop} {w w' : World} {k lo hi : Int} {v : VT} {vs : List VT} {ws : List Int} {p : PT} {l l' : List TT} {A : TA} {a' : Option Addr} {c' : Nat} (h : TOkA S w (.mk k v vs lo hi ws p l) A) (hs : w.heap.size ≤ w'.heap.size) (hk : ∀ k, k < w.heap.size → ¬ S k → ¬ S' k ∧ w'.heap[k]? = w.heap[k]?)
    (hl : l'.length ≤ 651562446070) (hr : ∀ W, AgreeS S' w' W → TRow W l' a') : TOkA S' w' (.mk k v vs lo hi ws p l') { A with aa := a', ac := c' } := fun W ha => by
  obtain ⟨h1, h2, h3, h4, h5, _⟩ := (h W (ha.back' hs hk)).parts
  exact TOk.of ⟨⟨hl, h1.2⟩, h2, h3, h4, h5, hr W ha⟩
end Go.Proofs.YtapofbdkofelkaaGreat
/- The law's put, walked. -/
namespace Go.Proofs.YtapofbdkofelkaaGreat
open Go.RowKit

theorem wpList_store15 {ops : Array Oper} {rest : List Oper} {o : Oper} {a : Act} {w : World} {Q : Exit → Act → World → Prop} {t : TT} {A : TA} {B n T : Nat} {po xo : Operand} (g : o.guard = none) (h : o.op = .store 31 po xo) (d2 : o.dst = none) (e1 : a.eval po = .pointer (some ⟨B, 0, none⟩)) (e2 : a.eval xo = t.val A)
    (hrow : RowAt w T B n) (hq : 15 ≤ n) (hk : ∀ wE, TCells wE B 0 t A → (∀ b, b ≠ B → wE.heap[b]? = w.heap[b]?) → wE.heap.size = w.heap.size → (∀ lo a, lo ≤ B → Below lo a w → Below lo a wE) → wpList Tryz.prog ops Q rest a wE) : wpList Tryz.prog ops Q (o :: rest) a w :=
  wpList_plain g fun _ hK => wp_skip (run_store15 hrow (q := 0) (by omega) h e1 e2) d2 (hK _ _ (hk _ (cells15 hrow hq) (fun b hb => setL_block B hb _ w) (setL_size B _ w) (fun lo a hlo h => setL_below B hlo _ _ h)))
theorem results_cell {fn : Func} {tmps : Array Value} {d : Nat} {w : World} {t : TT} {A : TA} {B : Nat} (hr : fn.results = #[.cell d 31]) (hd : tmps.getD d undef = .pointer (some ⟨B, 0, none⟩)) (hc : TCells w B 0 t A) : (results fn tmps).run Tryz.prog w = .ok (t.val A) w := by
  have h := run_loadVar_mid (P := Tryz.prog) w B 0 31 _ _ hc.range Tryz.underlying31 rfl size15
  unfold results
  rw [hr]
  simp only [Array.mapM_eq_mapM_toList, List.mapM_cons, List.mapM_nil, hd, asAddr, Sem.run_bind, Sem.run_pure, Result.andThen_ok, h, map_eq_pure_bind, bind_assoc, pure_bind]
  rfl
/-- the row of put's loop. -/
def PutR (S' : Nat → Prop) (l' : List TT) (a' : Option Addr) (c lo : Nat) (w3 wr : World) (i : Nat) : Prop := (l'.length = 0 ∧ wr = w3) ∨ ∃ B, a' = some ⟨B, 0, none⟩ ∧ lo ≤ B ∧ B < w3.heap.size ∧ l'.length ≤ c ∧ PutG S' l' B c w3 wr i
theorem PutR.old {S' : Nat → Prop} {l' : List TT} {a' : Option Addr} {c lo i : Nat} {w3 wr : World} (h : PutR S' l' a' c lo w3 wr i) {k : Nat} (hk : k < lo) (h3 : k < w3.heap.size) : wr.heap[k]? = w3.heap[k]? := by
  rcases h with ⟨_, rfl⟩ | ⟨B, _, hB, _, _, h⟩
  · rfl
  · exact h.same k h3 (by omega)
theorem PutR.size {S' : Nat → Prop} {l' : List TT} {a' : Option Addr} {c lo i : Nat} {w3 wr : World} (h : PutR S' l' a' c lo w3 wr i) : w3.heap.size ≤ wr.heap.size := by
  rcases h with ⟨_, rfl⟩ | ⟨B, _, hB, _, _, h⟩
  · exact Nat.le_refl _
  · exact h.size
theorem PutR.below {S' : Nat → Prop} {l' : List TT} {a' : Option Addr} {c lo i : Nat} {w3 wr : World} (h : PutR S' l' a' c lo w3 wr i) {k : Nat} (hk : k ≤ lo) : Below k w3 wr := by
  rcases h with ⟨_, rfl⟩ | ⟨B, _, hB, _, _, h⟩
  · exact Below.refl _ _
  · exact h.below.mono (by omega)
theorem cell_block {w w' : World} {b o : Nat} {v : Value} (hb : w'.heap[b]? = w.heap[b]?) (h : w.cell? ⟨b, o, none⟩ = some v) : w'.cell? ⟨b, o, none⟩ = some v := by
  rw [World.cell?_of_block (w := w) (a := ⟨b, o, none⟩) hb]; exact h
theorem row_block {w w' : World} {T b n : Nat} (hb : w'.heap[b]? = w.heap[b]?) (h : RowAt w T b n) : RowAt w' T b n := by
  obtain ⟨x, hx, hn⟩ := h
  exact ⟨x, hb.trans hx, hn⟩

end Go.Proofs.YtapofbdkofelkaaGreat
/- Laws at the list of a plain region's operations, over terms. -/
namespace Go.Proofs.YtapofbdkofelkaaGreat
open Go.RowKit

theorem run_row1 {w w2 : World} {o : Oper} {r : Operand → Value} {x0 : Operand} {s : TT} {A : TA} (ho : o.op = .buildSlice 29 1 #[(0, x0)]) (e0 : r x0 = s.val A) (hw : w.alloc (.cells #[.int .u8 s.kind, .int .u8 s.v.kind, .int .i64 s.v.num, .slice A.va s.v.items.length A.vc, .slice A.sa s.vs.length A.sc, .int .i64 s.lo, .int .i64 s.hi, .slice A.wa s.ws.length A.wc, .int .u8 s.p.kind, .int .u8 s.p.val.kind, .int .i64 s.p.val.num, .slice A.qa s.p.val.items.length A.qc, .int .i64 s.p.num, .slice A.pa s.p.args.length A.pc, .slice A.aa s.args.length A.ac] 31) = w2) :
    (execOp r o).run Tryz.prog w = .ok (.value (.slice (some ⟨w.heap.size, 0, none⟩) 1 1)) w2 := by
  obtain ⟨od, oo, ot, op, oa, og⟩ := o
  simp only at ho
  subst ho
  unfold TT.val at e0
  rw [← hw]
  go_simp
theorem run_row2 {w w2 : World} {o : Oper} {r : Operand → Value} {x0 x1 : Operand} {s t : TT} {A B : TA} (ho : o.op = .buildSlice 29 2 #[(0, x0), (1, x1)]) (e0 : r x0 = s.val A) (e1 : r x1 = t.val B) (hw : w.alloc (.cells #[.int .u8 s.kind, .int .u8 s.v.kind, .int .i64 s.v.num, .slice A.va s.v.items.length A.vc, .slice A.sa s.vs.length A.sc, .int .i64 s.lo, .int .i64 s.hi, .slice A.wa s.ws.length A.wc, .int .u8 s.p.kind, .int .u8 s.p.val.kind, .int .i64 s.p.val.num, .slice A.qa s.p.val.items.length A.qc, .int .i64 s.p.num, .slice A.pa s.p.args.length A.pc, .slice A.aa s.args.length A.ac, .int .u8 t.kind, .int .u8 t.v.kind, .int .i64 t.v.num, .slice B.va t.v.items.length B.vc, .slice B.sa t.vs.length B.sc, .int .i64 t.lo, .int .i64 t.hi, .slice B.wa t.ws.length B.wc, .int .u8 t.p.kind, .int .u8 t.p.val.kind, .int .i64 t.p.val.num, .slice B.qa t.p.val.items.length B.qc, .int .i64 t.p.num, .slice B.pa t.p.args.length B.pc, .slice B.aa t.args.length B.ac] 31) = w2) :
    (execOp r o).run Tryz.prog w = .ok (.value (.slice (some ⟨w.heap.size, 0, none⟩) 2 2)) w2 := by
  obtain ⟨od, oo, ot, op, oa, og⟩ := o
  simp only at ho
  subst ho
  unfold TT.val at e0 e1
  rw [← hw]
  go_simp
theorem wpList_row1 {ops : Array Oper} {rest : List Oper} {o : Oper} {a : Act} {w : World} {Q : Exit → Act → World → Prop} {s : TT} {A : TA} {x0 : Operand} (g : o.guard = none) (ho : o.op = .buildSlice 29 1 #[(0, x0)]) (e0 : a.eval x0 = s.val A) (h0 : TOk w s A)
    (hk : ∀ w2, TRow w2 [s] (some ⟨w.heap.size, 0, none⟩) → Below w.heap.size w w2 → wpList Tryz.prog ops Q rest (a.put o.dst (.slice (some ⟨w.heap.size, 0, none⟩) 1 1)) w2) : wpList Tryz.prog ops Q (o :: rest) a w := by
  obtain ⟨w2, hw2, m2, s2, hc2, _⟩ := row1_new w s A
  exact wpList_plain g fun _ hK => wp_val (run_row1 ho e0 hw2) (hK _ _ (hk w2 (trow_cons hc2 (h0.below m2) trow_nil) m2))
theorem wpList_row2 {ops : Array Oper} {rest : List Oper} {o : Oper} {a : Act} {w : World} {Q : Exit → Act → World → Prop} {s t : TT} {A B : TA} {x0 x1 : Operand} (g : o.guard = none) (ho : o.op = .buildSlice 29 2 #[(0, x0), (1, x1)]) (e0 : a.eval x0 = s.val A) (e1 : a.eval x1 = t.val B) (h0 : TOk w s A) (h1 : TOk w t B)
    (hk : ∀ w2, TRow w2 [s, t] (some ⟨w.heap.size, 0, none⟩) → Below w.heap.size w w2 → wpList Tryz.prog ops Q rest (a.put o.dst (.slice (some ⟨w.heap.size, 0, none⟩) 2 2)) w2) : wpList Tryz.prog ops Q (o :: rest) a w := by
  obtain ⟨w2, hw2, m2, s2, hc2, hc3⟩ := row2_new w s t A B
  exact wpList_plain g fun _ hK => wp_val (run_row2 ho e0 e1 hw2) (hK _ _ (hk w2 (trow_cons hc2 (h0.below m2) (trow_cons hc3 (h1.below m2) trow_nil)) m2))
/-- a box whose term is known with its address. -/
def BoxA (w : World) (B : Nat) (t : TT) (A : TA) : Prop := TCells w B 0 t A ∧ TOk w t A
theorem BoxA.below {w w' : World} {B : Nat} {t : TT} {A : TA} (h : BoxA w B t A) (hb : Below w.heap.size w w') : BoxA w' B t A := ⟨h.1.below hb, h.2.below hb⟩
theorem BoxA.tin {w : World} {B : Nat} {t : TT} {A : TA} (h : BoxA w B t A) : TIn w t (t.val A) := ⟨A, rfl, h.2⟩
end Go.Proofs.YtapofbdkofelkaaGreat
