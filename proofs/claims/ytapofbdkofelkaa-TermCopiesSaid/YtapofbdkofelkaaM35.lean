/- Texts of this claim laid into one: TPutA, TPut, TOps. -/
import Derived.Test.YtapofbdkofelkaaM34
/- The law's put: a term, with another one for each Self that belongs to no Sized in it. -/
namespace Go.Proofs.Ytapofbdkofelkaa
open Go.RowKit

section
variable {k lo hi : Int} {v : VT} {vs : List VT} {ws : List Int} {p : PT} {l : List TT}
theorem TT.kind_mk : TT.kind (.mk k v vs lo hi ws p l) = k := rfl
theorem TT.v_mk : TT.v (.mk k v vs lo hi ws p l) = v := rfl
theorem TT.vs_mk : TT.vs (.mk k v vs lo hi ws p l) = vs := rfl
theorem TT.lo_mk : TT.lo (.mk k v vs lo hi ws p l) = lo := rfl
theorem TT.hi_mk : TT.hi (.mk k v vs lo hi ws p l) = hi := rfl
theorem TT.ws_mk : TT.ws (.mk k v vs lo hi ws p l) = ws := rfl
theorem TT.p_mk : TT.p (.mk k v vs lo hi ws p l) = p := rfl
theorem TT.args_mk : TT.args (.mk k v vs lo hi ws p l) = l := rfl
end
/-- 'append([]Term{}, l..)': a row of its own. -/
theorem append_own (w : World) (n : Nat) (a : Option Addr) (cap : Nat) (hl : n ≤ 651562446070) (hr : CellsAt 15 n a w) : ∃ a' cap' w', (Builtin.append_ #[29, 29] 29 #[.slice (some ⟨w.heap.size, 0, none⟩) 0 0, .slice a n cap]).run Try.prog (w.alloc (.cells #[] 31)) = .ok (.slice a' n cap') w' ∧ Below w.heap.size w w' ∧ w.heap.size < w'.heap.size ∧
    (n = 0 ∨ ∃ B, a' = some ⟨B, 0, none⟩ ∧ w.heap.size ≤ B ∧ RowAt w' 31 B (cap' * 15) ∧ n ≤ cap' ∧ ∀ b o j u, a = some ⟨b, o, none⟩ → j < n * 15 → w.cell? ⟨b, o + j, none⟩ = some u → w'.cell? ⟨B, j, none⟩ = some u) := by
  obtain ⟨w1, hw1, m1, s1⟩ : ∃ w1, w.alloc (.cells #[] 31) = w1 ∧ Below w.heap.size w w1 ∧ w.heap.size < w1.heap.size := ⟨_, rfl, Below.al _, by simp⟩
  rw [hw1]
  obtain ⟨i0, hi0, hz0, hz1, hz2⟩ := info_parts zeroT
  have hsrc : ∃ news : List Value, news.length = n * 15 ∧ Src Try.prog 15 29 (.slice a n cap) n news w1 ∧ ∀ b o j u, a = some ⟨b, o, none⟩ → j < n * 15 → w.cell? ⟨b, o + j, none⟩ = some u → news[j]? = some u := by
    rcases hr with h0 | ⟨b, o, e, hc⟩
    · subst h0
      cases a with
      | none => exact ⟨[], by simp, Src.ofNil w1 Try.underlying29 cap, fun b o j u h => by simp at h⟩
      | some p => exact ⟨[], by simp, Src.ofSlice w1 Try.underlying29 p 0 cap [] (by simp) (fun j u h => by simp at h) (fun u h => by simp at h), fun b o j u _ h => by omega⟩
    · subst e
      have hnews : ∀ (j : Nat) (u : Value), ((List.range (n * 15)).map fun j => (w.cell? ⟨b, o + j, none⟩).getD .nilIface)[j]? = some u → w.cell? ⟨b, o + j, none⟩ = some u ∧ u.oneCell' = true := fun j u h => by
        obtain ⟨hj, he⟩ := List.getElem?_eq_some_iff.1 h
        have hj' : j < n * 15 := by simpa using hj
        obtain ⟨v, hv, h1⟩ := hc j hj'
        simp only [List.getElem_map, List.getElem_range, hv, Option.getD_some] at he
        subst he
        exact ⟨hv, h1⟩
      refine ⟨(List.range (n * 15)).map fun j => (w.cell? ⟨b, o + j, none⟩).getD .nilIface, by simp, Src.ofSlice w1 Try.underlying29 ⟨b, o, none⟩ n cap _ (by simp) (fun j u hu => ?_) (fun u hu => ?_), fun b' o' j u e hj hu => ?_⟩
      · have := (hnews j u hu).1
        rw [Addr.add_lit]
        exact (m1.cell (block_lt_of_cell this)).trans this
      · obtain ⟨j, hj, rfl⟩ := List.getElem_of_mem hu
        exact (hnews j _ (List.getElem?_eq_getElem hj)).2
      · cases e
        simp [hj, hu]
  obtain ⟨news, hnl, src, hnews⟩ := hsrc
  obtain ⟨a6, cap6, w6, happ, hg6, hb6, _⟩ := grown_append (P := Try.prog) (w := w1) (B := w.heap.size) (T := 31) (k := 15) (xs := []) m1.size (Grown.empty w1 w.heap.size 31 15 w.heap.size) (t := 29) (tx := 29) (ty := 29)
    Try.underlying29 hi0 hz0 hz1 rfl hz2 src (by omega) (by omega)
  simp only [Nat.zero_add, List.nil_append] at happ hg6
  refine ⟨a6, cap6, w6, happ, m1.trans (hb6.mono (Nat.le_refl _)), Nat.lt_of_lt_of_le s1 hb6.size, ?_⟩
  by_cases h0 : n = 0
  · exact .inl h0
  · obtain ⟨B, e, hB, hrow, hc⟩ := hg6.cells (by rw [hnl]; omega)
    exact .inr ⟨B, e, hB, hrow, hg6.le, fun b o j u ha hj hu => hc j u (hnews b o j u ha hj hu)⟩
/-- rounds of put's loop: the elements before i are put, the rest is as it was. -/
structure PutG (S' : Nat → Prop) (l' : List TT) (B c : Nat) (w3 wr : World) (i : Nat) : Prop where
  below : Below B w3 wr
  size : w3.heap.size ≤ wr.heap.size
  same : ∀ k, k < w3.heap.size → k ≠ B → wr.heap[k]? = w3.heap[k]?
  row : RowAt wr 31 B (c * 15)
  done : ∀ j (_ : j < i) (hj : j < l'.length), ∃ A, TCells wr B (j * 15) l'[j] A ∧ TOkA S' wr l'[j] A
  rest : ∀ j u, i * 15 ≤ j → w3.cell? ⟨B, j, none⟩ = some u → wr.cell? ⟨B, j, none⟩ = some u
theorem PutG.step {S' : Nat → Prop} {l' : List TT} {B c i : Nat} {w3 wr w5 : World} (hSB : S' B) (h : PutG S' l' B c w3 wr i) (hi : i < l'.length) (hB : B < wr.heap.size) (hc : l'.length ≤ c) (hb : Below wr.heap.size wr w5) {Y : TA} (hY : TOkA S' w5 l'[i] Y) : PutG S' l' B c w3 (setL B (cellsT (i * 15) l'[i] Y) w5) (i + 1) := by
  have hrow5 := h.row.below hB hb
  have hne : ∀ k, k ≠ B → (setL B (cellsT (i * 15) l'[i] Y) w5).heap[k]? = w5.heap[k]? := fun k hk => setL_block B hk _ _
  have hout : ∀ o, o < i * 15 ∨ i * 15 + 15 ≤ o → ∀ v, w5.cell? ⟨B, o, none⟩ = some v → (setL B (cellsT (i * 15) l'[i] Y) w5).cell? ⟨B, o, none⟩ = some v := fun o ho v hv => by
    rw [setL_out B B o _ w5 (fun _ hm => by obtain ⟨p, hp, rfl⟩ := List.mem_map.1 hm; have := cellsT_off _ _ _ p hp; omega)]; exact hv
  have hz : (setL B (cellsT (i * 15) l'[i] Y) w5).heap.size = w5.heap.size := setL_size _ _ _
  have hin : ∀ p ∈ cellsT (i * 15) l'[i] Y, (setL B (cellsT (i * 15) l'[i] Y) w5).cell? ⟨B, p.1, none⟩ = some p.2 := setL_in B _ w5 (by simp [cellsT]) (fun p hp => hrow5.cell p.1 (by have := cellsT_off _ _ _ p hp; omega))
  have hrow6 : RowAt (setL B (cellsT (i * 15) l'[i] Y) w5) 31 B (c * 15) := setL_row B _ _ hrow5
  have hY6 : TOkA S' (setL B (cellsT (i * 15) l'[i] Y) w5) l'[i] Y := hY.step (Nat.le_of_eq hz.symm) fun k _ hk => ⟨hk, hne k (fun e => hk (e ▸ hSB))⟩
  have hcl : TCells (setL B (cellsT (i * 15) l'[i] Y) w5) B (i * 15) l'[i] Y := by
    refine ⟨?_, ?_, ?_, ?_, ?_, ?_, ?_, ?_, ?_, ?_, ?_, ?_, ?_, ?_, ?_⟩
    all_goals exact hin (_, _) (by simp [cellsT])
  have hbl : Below B w3 (setL B (cellsT (i * 15) l'[i] Y) w5) := setL_below B (Nat.le_refl _) _ _ (h.below.trans (hb.mono (Nat.le_of_lt hB)))
  generalize setL B (cellsT (i * 15) l'[i] Y) w5 = w6 at *
  have hs5 := hb.size; have hs := h.size
  refine ⟨hbl, by omega, fun k h1 h2 => (hne k h2).trans ((hb.block k (by omega)).trans (h.same k h1 h2)), hrow6, fun j hj hj' => ?_, fun j u h1 h2 => hout j (.inr (by omega)) u (cell_stays hb (h.rest j u (by omega) h2))⟩
  by_cases e : j = i
  · subst e; exact ⟨Y, hcl, hY6⟩
  · obtain ⟨A, hc1, hok⟩ := h.done j (by omega) hj'
    have hcl5 := hc1.below hb
    refine ⟨A, ?_, (hok.below hb).step (by omega) fun k _ hk => ⟨hk, hne k (fun e => hk (e ▸ hSB))⟩⟩
    obtain ⟨h0, h1, h2, h3, h4, h5, h6, h7, h8, h9, h10, h11, h12, h13, h14⟩ := hcl5
    exact ⟨hout _ (.inl (by omega)) _ h0, hout _ (.inl (by omega)) _ h1, hout _ (.inl (by omega)) _ h2, hout _ (.inl (by omega)) _ h3, hout _ (.inl (by omega)) _ h4, hout _ (.inl (by omega)) _ h5, hout _ (.inl (by omega)) _ h6, hout _ (.inl (by omega)) _ h7, hout _ (.inl (by omega)) _ h8, hout _ (.inl (by omega)) _ h9, hout _ (.inl (by omega)) _ h10, hout _ (.inl (by omega)) _ h11, hout _ (.inl (by omega)) _ h12, hout _ (.inl (by omega)) _ h13, hout _ (.inl (by omega)) _ h14⟩
theorem PutG.skip {S' : Nat → Prop} {l' : List TT} {B c i : Nat} {w3 wr : World} (h : PutG S' l' B c w3 wr i) (hn : ∀ hj : i < l'.length, ∃ A, TCells wr B (i * 15) l'[i] A ∧ TOkA S' wr l'[i] A) : PutG S' l' B c w3 wr (i + 1) :=
  ⟨h.below, h.size, h.same, h.row, fun j hj hj' => by
    by_cases e : j = i
    · subst e; exact hn hj'
    · exact h.done j (by omega) hj', fun j u h1 h2 => h.rest j u (by omega) h2⟩
theorem TCells.one_addr {w : World} {b o : Nat} {t : TT} {A A' : TA} (h : TCells w b o t A) (h' : TCells w b o t A') : A = A' := by
  obtain ⟨h0, h1, h2, h3, h4, h5, h6, h7, h8, h9, h10, h11, h12, h13, h14⟩ := h
  obtain ⟨k0, k1, k2, k3, k4, k5, k6, k7, k8, k9, k10, k11, k12, k13, k14⟩ := h'
  rw [h3] at k3; rw [h4] at k4; rw [h7] at k7; rw [h11] at k11; rw [h13] at k13; rw [h14] at k14
  obtain ⟨a1, a2, a3, a4, a5, a6, a7, a8, a9, a10, a11, a12⟩ := A
  obtain ⟨b1, b2, b3, b4, b5, b6, b7, b8, b9, b10, b11, b12⟩ := A'
  simp only [Option.some.injEq, Value.slice.injEq] at k3 k4 k7 k11 k13 k14
  obtain ⟨rfl, _, rfl⟩ := k3
  obtain ⟨rfl, _, rfl⟩ := k4
  obtain ⟨rfl, _, rfl⟩ := k7
  obtain ⟨rfl, _, rfl⟩ := k11
  obtain ⟨rfl, _, rfl⟩ := k13
  obtain ⟨rfl, _, rfl⟩ := k14
  rfl
open Classical in
/-- w with nothing in the blocks of S. -/
noncomputable def eraseS (S : Nat → Prop) (w : World) : World := { w with heap := w.heap.mapIdx fun k o => if S k then .cells #[] 0 else o }
theorem eraseS_agree (S : Nat → Prop) (w : World) : AgreeS S w (eraseS S w) := by
  refine ⟨by simp [eraseS], fun k hk hn => ?_⟩
  simp [eraseS, hn, hk]
theorem eraseS_cell {S : Nat → Prop} {w : World} {b o : Nat} {v : Value} (h : (eraseS S w).cell? ⟨b, o, none⟩ = some v) : ¬ S b := fun hS => by
  have hlt := lt_of_cell h
  have hb : (eraseS S w).heap[b]? = some (.cells #[] 0) := by
    have : b < w.heap.size := by simpa [eraseS] using hlt
    simp [eraseS, hS, this]
  unfold World.cell? at h
  rw [hb] at h
  simp at h
theorem elemA {S : Nat → Prop} {w : World} {l : List TT} {aa : Option Addr} (h : ∀ W, AgreeS S w W → TRow W l aa) {i : Nat} (hi : i < l.length) : ∃ b o X, aa = some ⟨b, o, none⟩ ∧ ¬ S b ∧ TCells w b (o + i * 15) l[i] X ∧ TOkA S w l[i] X := by
  obtain ⟨b, o, e, X, hc, hk⟩ := (h w ⟨Nat.le_refl _, fun _ _ _ => rfl⟩).get i hi
  have hS : ¬ S b := by
    obtain ⟨b', o', e', X', hc', _⟩ := (h _ (eraseS_agree S w)).get i hi
    rw [e] at e'
    cases e'
    exact eraseS_cell hc'.1
  refine ⟨b, o, X, e, hS, hc, fun W ha => ?_⟩
  obtain ⟨b', o', e', X', hc', hk'⟩ := (h W ha).get i hi
  rw [e] at e'
  cases e'
  have hcW : TCells W b (o + i * 15) l[i] X := hc.keep fun o v hv => ha.cell hS hv
  rw [hcW.one_addr hc']
  exact hk'
theorem tok_args {S S' : Nat → Prop} {w w' : World} {k lo hi : Int} {v : VT} {vs : List VT} {ws : List Int} {p : PT} {l l' : List TT} {A : TA} {a' : Option Addr} {c' : Nat} (h : TOkA S w (.mk k v vs lo hi ws p l) A) (hs : w.heap.size ≤ w'.heap.size) (hk : ∀ k, k < w.heap.size → ¬ S k → ¬ S' k ∧ w'.heap[k]? = w.heap[k]?)
    (hl : l'.length ≤ 651562446070) (hr : ∀ W, AgreeS S' w' W → TRow W l' a') : TOkA S' w' (.mk k v vs lo hi ws p l') { A with aa := a', ac := c' } := fun W ha => by
  obtain ⟨h1, h2, h3, h4, h5, _⟩ := (h W (ha.back' hs hk)).parts
  exact TOk.of ⟨⟨hl, h1.2⟩, h2, h3, h4, h5, hr W ha⟩
end Go.Proofs.Ytapofbdkofelkaa
/- The law's put, walked. -/
namespace Go.Proofs.Ytapofbdkofelkaa
open Go.RowKit

theorem wpList_store15 {ops : Array Oper} {rest : List Oper} {o : Oper} {a : Act} {w : World} {Q : Exit → Act → World → Prop} {t : TT} {A : TA} {B n T : Nat} {po xo : Operand} (g : o.guard = none) (h : o.op = .store 31 po xo) (d2 : o.dst = none) (e1 : a.eval po = .pointer (some ⟨B, 0, none⟩)) (e2 : a.eval xo = t.val A)
    (hrow : RowAt w T B n) (hq : 15 ≤ n) (hk : ∀ wE, TCells wE B 0 t A → (∀ b, b ≠ B → wE.heap[b]? = w.heap[b]?) → wE.heap.size = w.heap.size → (∀ lo a, lo ≤ B → Below lo a w → Below lo a wE) → wpList Try.prog ops Q rest a wE) : wpList Try.prog ops Q (o :: rest) a w :=
  wpList_plain g fun _ hK => wp_skip (run_store15 hrow (q := 0) (by omega) h e1 e2) d2 (hK _ _ (hk _ (cells15 hrow hq) (fun b hb => setL_block B hb _ w) (setL_size B _ w) (fun lo a hlo h => setL_below B hlo _ _ h)))
theorem results_cell {fn : Func} {tmps : Array Value} {d : Nat} {w : World} {t : TT} {A : TA} {B : Nat} (hr : fn.results = #[.cell d 31]) (hd : tmps.getD d undef = .pointer (some ⟨B, 0, none⟩)) (hc : TCells w B 0 t A) : (results fn tmps).run Try.prog w = .ok (t.val A) w := by
  have h := run_loadVar_mid (P := Try.prog) w B 0 31 _ _ hc.range Try.underlying31 rfl size15
  unfold results
  rw [hr]
  simp only [Array.mapM_eq_mapM_toList, List.mapM_cons, List.mapM_nil, hd, asAddr, Sem.run_bind, Sem.run_pure, Result.andThen_ok, h, map_eq_pure_bind, bind_assoc, pure_bind]
  rfl
/-- the row of put's loop. -/
def PutR (S' : Nat → Prop) (l' : List TT) (a' : Option Addr) (c lo : Nat) (w3 wr : World) (i : Nat) : Prop := (l'.length = 0 ∧ wr = w3) ∨ ∃ B, a' = some ⟨B, 0, none⟩ ∧ lo ≤ B ∧ B < w3.heap.size ∧ l'.length ≤ c ∧ PutG S' l' B c w3 wr i
theorem PutR.old {S' : Nat → Prop} {l' : List TT} {a' : Option Addr} {c lo i : Nat} {w3 wr : World} (h : PutR S' l' a' c lo w3 wr i) {k : Nat} (hk : k < lo) (h3 : k < w3.heap.size) : wr.heap[k]? = w3.heap[k]? := by
  rcases h with ⟨_, rfl⟩ | ⟨B, _, hB, _, _, h⟩
  · rfl
  · exact h.same k h3 (by omega)
theorem PutR.size {S' : Nat → Prop} {l' : List TT} {a' : Option Addr} {c lo i : Nat} {w3 wr : World} (h : PutR S' l' a' c lo w3 wr i) : w3.heap.size ≤ wr.heap.size := by
  rcases h with ⟨_, rfl⟩ | ⟨B, _, hB, _, _, h⟩
  · exact Nat.le_refl _
  · exact h.size
theorem PutR.below {S' : Nat → Prop} {l' : List TT} {a' : Option Addr} {c lo i : Nat} {w3 wr : World} (h : PutR S' l' a' c lo w3 wr i) {k : Nat} (hk : k ≤ lo) : Below k w3 wr := by
  rcases h with ⟨_, rfl⟩ | ⟨B, _, hB, _, _, h⟩
  · exact Below.refl _ _
  · exact h.below.mono (by omega)
theorem cell_block {w w' : World} {b o : Nat} {v : Value} (hb : w'.heap[b]? = w.heap[b]?) (h : w.cell? ⟨b, o, none⟩ = some v) : w'.cell? ⟨b, o, none⟩ = some v := by
  rw [World.cell?_of_block (w := w) (a := ⟨b, o, none⟩) hb]; exact h
theorem row_block {w w' : World} {T b n : Nat} (hb : w'.heap[b]? = w.heap[b]?) (h : RowAt w T b n) : RowAt w' T b n := by
  obtain ⟨x, hx, hn⟩ := h
  exact ⟨x, hb.trans hx, hn⟩

set_option maxRecDepth 100000 in
set_option maxHeartbeats 8000000 in
theorem tput_any (N : Nat) : ∀ (t s : TT) (x y : Value) (w : World) (S : Nat → Prop), t.cnt ≤ N → TInA S w t x → TInA S w s y → (∀ q, S q → q < w.heap.size) →
    Calls Try.prog 34 #[x, y] w fun e w' => ∃ x', e = .returned x' ∧ TInA S w' (t.putL s) x' ∧ Below w.heap.size w w' := by
  induction N with
  | zero => intro t s x y w S h; have := TT.cnt_pos t; omega
  | succ N ih =>
    intro t s x y w S hcn hx hy hS
    have IH := Lib.hid ih; clear ih
    obtain ⟨k, v, vs, lo, hi0, ws, p, l⟩ := t
    obtain ⟨A, rfl, hok⟩ := hx
    obtain ⟨A', rfl, hok'⟩ := hy
    have hlen : l.length ≤ 651562446070 := hok.ok.parts.1.1
    have hcs : ∀ i (h : i < l.length), l[i].cnt ≤ N := fun i h => by have := TT.cnts_get h; rw [TT.cnt] at hcn; omega
    have hrow : ∀ W, AgreeS S w W → TRow W l A.aa := fun W ha => (hok W ha).parts.2.2.2.2.2
    have hcells : CellsAt 15 l.length A.aa w := TRow.cellsAt hok.ok.parts.2.2.2.2.2
    obtain ⟨w0, hw0, m0, s0, hc2, _⟩ := row1_new w (TT.mk k v vs lo hi0 ws p l) A
    obtain ⟨w1, hw1, m1, s1, hc3, _⟩ := row1_new w0 s A'
    obtain ⟨w2, hw2, m2, s2, R4, _⟩ := box15 w1 (.int .u8 0) (.int .u8 0) (.int .i64 0) (.slice none 0 0) (.slice none 0 0) (.int .i64 0) (.int .i64 0) (.slice none 0 0) (.int .u8 0) (.int .u8 0) (.int .i64 0) (.slice none 0 0) (.int .i64 0) (.slice none 0 0) (.slice none 0 0) 31
    replace hc2 := (hc2.below m1).below m2
    replace hc3 := hc3.below m2
    have hB2 : Below w.heap.size w w2 := m0.trans ((m1.trans (m2.mono (Nat.le_of_lt s1))).mono (Nat.le_of_lt s0))
    have q0 : w2.cell? ⟨w.heap.size, 0, none⟩ = some (.int .u8 k) := hc2.1
    have q14 : w2.cell? ⟨w.heap.size, 14, none⟩ = some (.slice A.aa l.length A.ac) := by obtain ⟨_, _, _, _, _, _, _, _, _, _, _, _, _, _, q14⟩ := hc2; exact q14
    have HOK := Lib.hid hok; have HOK' := Lib.hid hok'; have HCS := Lib.hid hcs; have HROW := Lib.hid hrow; have HCELLS := Lib.hid hcells; have HC2 := Lib.hid hc2; have HC3 := Lib.hid hc3; have HR4 := Lib.hid R4; have HB2 := Lib.hid hB2; have HS := Lib.hid hS
    have HSZ := Lib.hid (And.intro s0 (And.intro s1 s2))
    clear hok hok' hcs hrow hcells hc2 hc3 R4 hB2 m0 m1 m2 hcn hS s0 s1 s2
    unfold TT.val
    simp only [TT.kind_mk, TT.v_mk, TT.vs_mk, TT.lo_mk, TT.hi_mk, TT.ws_mk, TT.p_mk, TT.args_mk] at hw0 ⊢
    go_enter Try.func34, Try.ntmps34
    by_cases hk : k = 11
    · as_aux_lemma =>
      subst hk
      have HPL : Hid (TT.putL (.mk 11 v vs lo hi0 ws p l) s = s) := Lib.hid (by rw [TT.putL, if_pos rfl])
      go_wp2_with (first | refine wpList_load15 (by rfl) (by rfl) (by rfl) HC3.out ?_ | refine wpList_store15 (t := s) (A := A') (by rfl) (by rfl) (by rfl) (by rfl) (by rfl) HR4.out (by decide) ?_)
      intro wE hcl _ _ hbl
      have hsz := HSZ.out
      have hbe : Below w.heap.size w wE := hbl _ _ (by omega) HB2.out
      have hok : TOkA S wE s A' := HOK'.out.below hbe
      have HPOST := Lib.hid hok; have HBE := Lib.hid hbe
      clear hbl hsz hbe hok
      go_wp2_with fail
      refine bodyPost_ret (v := TT.val s A') ?_ rfl ⟨_, rfl, by rw [HPL.out]; exact ⟨A', rfl, HPOST.out⟩, HBE.out⟩
      exact results_cell Try.results34 rfl hcl
    · go_wp2_with (first | refine wpList_load15 (by rfl) (by rfl) (by rfl) HC2.out ?_ | refine wpList_box15 (t := (TT.mk k v vs lo hi0 ws p l)) (A := A) (by rfl) (by rfl) (by rfl) (by rfl) (by rfl) (by rfl) (by rfl) (by rfl) ?_)
      intro w3 hc5 hb3 s3 R5
      have hsz := HSZ.out
      obtain ⟨a6, c6, w6, happ, hb6, s6, hor⟩ := append_own w3 l.length A.aa A.ac hlen (TRow.cellsAt (HROW.out w3 ⟨Nat.le_trans HB2.out.size hb3.size, fun q h1 h2 => ((HB2.out.trans (hb3.mono HB2.out.size)).block q h1)⟩))
      have c14 : w6.cell? ⟨w2.heap.size, 14, none⟩ = some (.slice A.aa l.length A.ac) := by obtain ⟨_, _, _, _, _, _, _, _, _, _, _, _, _, _, q14⟩ := hc5.below hb6; exact q14
      have z14 : w6.frozen? ⟨w2.heap.size, 14, none⟩ = false := (R5.below s3 hb6).frozen 14
      have q14 := cell_stays hb3 q14
      obtain ⟨w4, hw4, m4⟩ : ∃ w4, w3.alloc (.cells #[] 31) = w4 ∧ Below w3.heap.size w3 w4 := ⟨_, rfl, Below.al _⟩
      rw [hw4] at happ
      have q14 := cell_stays m4 q14
      obtain ⟨w7, hw7, h14, hk7, ho7, hs7, hb7⟩ : ∃ w7, w6.setCell ⟨w2.heap.size, 14, none⟩ (.slice a6 l.length c6) = w7 ∧ w7.cell? ⟨w2.heap.size, 14, none⟩ = some (.slice a6 l.length c6) ∧ (∀ b, b ≠ w2.heap.size → w7.heap[b]? = w6.heap[b]?) ∧ (∀ o v, o ≠ 14 → w6.cell? ⟨w2.heap.size, o, none⟩ = some v → w7.cell? ⟨w2.heap.size, o, none⟩ = some v) ∧ w7.heap.size = w6.heap.size ∧ (∀ lo a, lo ≤ w2.heap.size → Below lo a w6 → Below lo a w7) :=
        ⟨setL w2.heap.size [(14, .slice a6 l.length c6)] w6, rfl, setL_in _ _ _ (by simp) (fun q hq => by simp only [List.mem_singleton] at hq; subst hq; exact ⟨_, c14⟩) (14, _) (by simp), fun b hb => setL_block _ hb _ _, fun o v ho hv => by rw [setL_out _ _ _ _ _ (fun _ => by simpa using ho)]; exact hv, setL_size _ _ _, fun lo a h h' => setL_below _ h _ _ h'⟩
      obtain ⟨l', hl'⟩ : ∃ l', l' = TT.putLs k 0 l s := ⟨_, rfl⟩
      have hll : l'.length = l.length := by rw [hl', TT.putLs_length]
      have hget : ∀ (i : Nat) (h : i < l.length) (h' : i < l'.length), l'[i] = if k = 10 ∧ i ≠ 0 then l[i] else l[i].putL s := fun i h h' => by subst hl'; have := TT.putLs_get k s 0 l i h h'; rw [Nat.zero_add] at this; exact this
      have HPL : Hid (TT.putL (TT.mk k v vs lo hi0 ws p l) s = (TT.mk k v vs lo hi0 ws p l')) := Lib.hid (by rw [TT.putL, if_neg hk, hl'])
      have hc57 : TCells w7 w2.heap.size 0 (TT.mk k v vs lo hi0 ws p l') { A with aa := a6, ac := c6 } := by
        have h := hc5.below hb6
        obtain ⟨h0, h1, h2, h3, h4, h5, h6, h7, h8, h9, h10, h11, h12, h13, _⟩ := h
        exact ⟨ho7 _ _ (by decide) h0, ho7 _ _ (by decide) h1, ho7 _ _ (by decide) h2, ho7 _ _ (by decide) h3, ho7 _ _ (by decide) h4, ho7 _ _ (by decide) h5, ho7 _ _ (by decide) h6, ho7 _ _ (by decide) h7, ho7 _ _ (by decide) h8, ho7 _ _ (by decide) h9, ho7 _ _ (by decide) h10, ho7 _ _ (by decide) h11, ho7 _ _ (by decide) h12, ho7 _ _ (by decide) h13, by rw [show (TT.args (TT.mk k v vs lo hi0 ws p l')).length = l.length from hll]; exact h14⟩
      have hb37 : Below w.heap.size w w7 := hb7 _ _ (by omega) ((HB2.out.trans (hb3.mono HB2.out.size)).trans (hb6.mono (Nat.le_trans HB2.out.size hb3.size)))
      have hr47 : RowAt w7 31 w1.heap.size 15 := row_block (hk7 _ (by omega)) ((HR4.out.below (by omega) hb3).below (by omega) hb6)
      have hc37 : TCells w7 w0.heap.size 0 s A' := TCells.block (hk7 _ (by omega)) ((HC3.out.below hb3).below hb6)
      have hc27 : TCells w7 w.heap.size 0 (TT.mk k v vs lo hi0 ws p l) A := TCells.block (hk7 _ (by omega)) ((HC2.out.below hb3).below hb6)
      have hrow7 : l.length = 0 ∨ ∃ B, a6 = some ⟨B, 0, none⟩ ∧ w3.heap.size ≤ B ∧ B < w7.heap.size ∧ RowAt w7 31 B (c6 * 15) ∧ l.length ≤ c6 ∧ ∀ b o j u, A.aa = some ⟨b, o, none⟩ → j < l.length * 15 → w.cell? ⟨b, o + j, none⟩ = some u → w7.cell? ⟨B, j, none⟩ = some u :=
        hor.imp id fun ⟨B, e1, e2, e3, e4, e5⟩ => ⟨B, e1, e2, by have := e3.lt; omega, row_block (hk7 _ (by omega)) e3, e4, fun b o j u f1 f2 f3 => cell_block (hk7 _ (by omega)) (e5 b o j u f1 f2 (cell_stays (HB2.out.trans (hb3.mono HB2.out.size)) f3))⟩
      have HAP := Lib.hid happ; have HC57 := Lib.hid hc57; have HB37 := Lib.hid hb37; have HR47 := Lib.hid hr47; have HC37 := Lib.hid hc37; have HC27 := Lib.hid hc27; have HROW7 := Lib.hid hrow7; have HGET := Lib.hid hget; have HL := Lib.hid hl'; have H14 := Lib.hid h14; have HSS := Lib.hid hs7
      have hs36 : w3.heap.size ≤ w7.heap.size := by have := hb6.size; omega
      clear happ hc5 hc57 hb37 hr47 hc37 hc27 hrow7 hget hl' h14 ho7 hk7 hb7 hor R5 m4
      go_wp2_with (at_builtin; refine wpList_append_run _ rfl _ _ _ rfl _ _ _ _ rfl rfl HAP.out ?_)
      clear c14 z14 q14 hw7 hw4 hw2 hw1 hw0 hb6 hb3 q0
      obtain ⟨S', hS'⟩ : ∃ S' : Nat → Prop, S' = fun q => S q ∨ (w.heap.size ≤ q ∧ q < w7.heap.size) := ⟨_, rfl⟩
      have hSB : ∀ B, w3.heap.size ≤ B → B < w7.heap.size → S' B := fun B h1 h2 => by rw [hS']; exact .inr ⟨by omega, h2⟩
      have hsk : ∀ (wr : World) (h1 : w7.heap.size ≤ wr.heap.size) (h2 : ∀ q, q < w.heap.size → wr.heap[q]? = w7.heap[q]?), TOkA S' wr s A' := fun wr h1 h2 => HOK'.out.step (Nat.le_trans HB37.out.size h1) fun q g1 g2 => ⟨by rw [hS']; rintro (g | g); exact g2 g; omega, (h2 q g1).trans (HB37.out.block q g1)⟩
      go_loopw [6] (fun x wr => ∃ i : Nat, x = .int .i64 i ∧ i ≤ l.length ∧ PutR S' l' a6 c6 w3.heap.size w7 wr i) (fun x _ => l.length - (intOf x).toNat)
      case atStart => exact ⟨0, rfl, by omega, HROW7.out.elim (fun h0 => .inl ⟨by omega, rfl⟩) fun ⟨B, e1, e2, e3, e4, e5, _⟩ => .inr ⟨B, e1, e2, e3, by omega, ⟨Below.refl _ _, Nat.le_refl _, fun _ _ _ => rfl, e4, fun j hj => absurd hj (Nat.not_lt_zero _), fun _ _ _ h => h⟩⟩⟩
      case round =>
        obtain ⟨i, rfl, hi, hrel⟩ := hrel
        have hsr := hrel.size
        have hold : ∀ q, q < w3.heap.size → wr.heap[q]? = w7.heap[q]? := fun q hq => hrel.old hq (by omega)
        have F14 : wr.cell? ⟨w2.heap.size, 14, none⟩ = some (.slice a6 l.length c6) := cell_block (hold _ s3) H14.out
        have F0 : wr.cell? ⟨w.heap.size, 0, none⟩ = some (.int .u8 k) := cell_block (hold _ (by omega)) HC27.out.1
        by_cases hlt : i < l.length
        · obtain ⟨B, rfl, hlo, hltB, hnc, hG⟩ := hrel.resolve_left (by omega)
          have hi' : i < l'.length := by omega
          have hok2 : ∀ q, q < w.heap.size → wr.heap[q]? = w7.heap[q]? := fun q hq => hold q (by omega)
          obtain ⟨b, o, X, ea, hSb, hcX, hkX⟩ := elemA HROW.out hlt
          obtain ⟨B', eB, _, _, hrow6, _, hcp⟩ := HROW7.out.resolve_left (by omega)
          cases eB
          have cX : TCells wr B (i * 15) l[i] X := by
            obtain ⟨d0, d1, d2, d3, d4, d5, d6, d7, d8, d9, d10, d11, d12, d13, d14⟩ := hcX
            exact ⟨hG.rest _ _ (by omega) (hcp b o (i * 15) _ ea (by omega) (d0)), hG.rest _ _ (by omega) (hcp b o (i * 15 + 1) _ ea (by omega) (d1)), hG.rest _ _ (by omega) (hcp b o (i * 15 + 2) _ ea (by omega) (d2)), hG.rest _ _ (by omega) (hcp b o (i * 15 + 3) _ ea (by omega) (d3)), hG.rest _ _ (by omega) (hcp b o (i * 15 + 4) _ ea (by omega) (d4)), hG.rest _ _ (by omega) (hcp b o (i * 15 + 5) _ ea (by omega) (d5)), hG.rest _ _ (by omega) (hcp b o (i * 15 + 6) _ ea (by omega) (d6)), hG.rest _ _ (by omega) (hcp b o (i * 15 + 7) _ ea (by omega) (d7)), hG.rest _ _ (by omega) (hcp b o (i * 15 + 8) _ ea (by omega) (d8)), hG.rest _ _ (by omega) (hcp b o (i * 15 + 9) _ ea (by omega) (d9)), hG.rest _ _ (by omega) (hcp b o (i * 15 + 10) _ ea (by omega) (d10)), hG.rest _ _ (by omega) (hcp b o (i * 15 + 11) _ ea (by omega) (d11)), hG.rest _ _ (by omega) (hcp b o (i * 15 + 12) _ ea (by omega) (d12)), hG.rest _ _ (by omega) (hcp b o (i * 15 + 13) _ ea (by omega) (d13)), hG.rest _ _ (by omega) (hcp b o (i * 15 + 14) _ ea (by omega) (d14))⟩
          have kX : TOkA S' wr l[i] X := hkX.step (Nat.le_trans HB37.out.size hsr) fun q g1 g2 => ⟨by rw [hS']; rintro (g | g); exact g2 g; omega, (hok2 q g1).trans (HB37.out.block q g1)⟩
          clear ea hcp hcX hkX
          by_cases hk10 : k = 10
          · by_cases hi0 : i = 0
            · skip
              have hel : l'[i] = l[i].putL s := by rw [HGET.out i hlt hi', if_neg (by omega)]
              subst hk10
              have hd0 : decide ((i : Int) = 0) = true := decide_eq_true (by omega)
              have hd1 : decide (i = 0) = true := decide_eq_true hi0
              have HI0 := Lib.hid hi0
              clear hi0
              have HI := Lib.hid hlt; have HXC := Lib.hid cX; have HXK := Lib.hid kX; have HSK := Lib.hid (hsk wr hsr hok2); have HSC := Lib.hid (TCells.block (hold w0.heap.size (by omega)) HC37.out)
              have HSL : Hid (∀ q, S' q → q < wr.heap.size) := Lib.hid (fun q hq => by rw [hS'] at hq; rcases hq with h | h; (have := HS.out q h; have := HB37.out.size; omega); omega)
              have HBV := Lib.hid (fun W (h : Below wr.drew.heap.size wr.drew W) => (Below.refl _ wr).drew.trans h)
              have HG := Lib.hid hG; have HF14 := Lib.hid F14
              have hlw := hlen
              have hBr : B < wr.heap.size := by omega
              clear cX kX hok2 hG hrow6
              go_wp2_with fail
              refine wp_region_part [] (kindT [(31, .fixed (.pointer (some ⟨w2.heap.size, 14, none⟩))), (32, .fixed (.slice (some ⟨B, 0, none⟩) l.length c6)), (33, .fixed (.int .i64 i)), (34, .fixed (.pointer (some ⟨w2.heap.size, 14, none⟩))), (35, .fixed (.slice (some ⟨B, 0, none⟩) l.length c6)), (36, .fixed (.int .i64 i)), (37, .fixed (.pointer (some ⟨B, i * 15, none⟩))), (38, .fixed (TT.val l[i] X)), (39, .fixed (TT.val s A')), (40, .prop (fun x w => TInA S' w (l[i].putL s) x) (fun _ _ _ h hb => h.below hb)), (41, .fixed (.pointer (some ⟨B, i * 15, none⟩)))]) 11 43 (by kernel_rfl) (by kernel_rfl) (by rfl) (by decide) (fun _ h => by cases h) (kindT_mono _) ?_ ?_
              · as_aux_lemma =>
                show ∀ o ∈ [_, _, _, _, _, _, _, _, _, _, _], _
                refine (tfm ?_ (tfm ?_ (tfm ?_ (tfm ?_ (tfm ?_ (tfm ?_ (tfm ?_ (tfm ?_ (tfm ?_ (tfm ?_ (tfm ?_ tfmnil)))))))))))
                · intro r W hc hf hs hd hB
                  have hBV := HBV.out W hB
                  refine want_n rfl ?_
                  have e5 : r (.tmp 5) = .pointer (some ⟨w2.heap.size, 0, none⟩) := hs 5 (of_decide_eq_true (by kernel_rfl))
                  exact st_value (v := .pointer (some ⟨w2.heap.size, 14, none⟩)) rfl (by decide) (by go_simp) rfl
                · intro r W hc hf hs hd hB
                  have hBV := HBV.out W hB
                  refine want_n rfl ?_
                  have e31 : r (.tmp 31) = .pointer (some ⟨w2.heap.size, 14, none⟩) := hd 31 (by kernel_rfl)
                  have g := cell_stays hBV HF14.out
                  exact st_value (v := .slice (some ⟨B, 0, none⟩) l.length c6) rfl (by decide) (by go_simp) rfl
                · intro r W hc hf hs hd hB
                  have hBV := HBV.out W hB
                  refine want_n rfl ?_
                  have e6 : r (.tmp 6) = .int .i64 i := hs 6 (of_decide_eq_true (by kernel_rfl))
                  exact st_value (v := .int .i64 i) rfl (by decide) (by go_simp) rfl
                · intro r W hc hf hs hd hB
                  have hBV := HBV.out W hB
                  refine want_n rfl ?_
                  have e5 : r (.tmp 5) = .pointer (some ⟨w2.heap.size, 0, none⟩) := hs 5 (of_decide_eq_true (by kernel_rfl))
                  exact st_value (v := .pointer (some ⟨w2.heap.size, 14, none⟩)) rfl (by decide) (by go_simp) rfl
                · intro r W hc hf hs hd hB
                  have hBV := HBV.out W hB
                  refine want_n rfl ?_
                  have e34 : r (.tmp 34) = .pointer (some ⟨w2.heap.size, 14, none⟩) := hd 34 (by kernel_rfl)
                  have g := cell_stays hBV HF14.out
                  exact st_value (v := .slice (some ⟨B, 0, none⟩) l.length c6) rfl (by decide) (by go_simp) rfl
                · intro r W hc hf hs hd hB
                  have hBV := HBV.out W hB
                  refine want_n rfl ?_
                  have e6 : r (.tmp 6) = .int .i64 i := hs 6 (of_decide_eq_true (by kernel_rfl))
                  exact st_value (v := .int .i64 i) rfl (by decide) (by go_simp) rfl
                · intro r W hc hf hs hd hB
                  have hBV := HBV.out W hB
                  refine want_n rfl ?_
                  have e35 : r (.tmp 35) = .slice (some ⟨B, 0, none⟩) l.length c6 := hd 35 (by kernel_rfl)
                  have e36 : r (.tmp 36) = .int .i64 i := hd 36 (by kernel_rfl)
                  exact st_value (v := .pointer (some ⟨B, i * 15, none⟩)) rfl (by decide) (by go_simp) rfl
                · intro r W hc hf hs hd hB
                  have hBV := HBV.out W hB
                  refine want_n rfl ?_
                  have e37 : r (.tmp 37) = .pointer (some ⟨B, i * 15, none⟩) := hd 37 (by kernel_rfl)
                  exact st_value (v := TT.val l[i] X) rfl (by decide) (run_load15 (HXC.out.below hBV) rfl e37) rfl
                · intro r W hc hf hs hd hB
                  have hBV := HBV.out W hB
                  refine want_n rfl ?_
                  have e3 : r (.tmp 3) = .pointer (some ⟨w0.heap.size, 0, none⟩) := hs 3 (of_decide_eq_true (by kernel_rfl))
                  exact st_value (v := TT.val s A') rfl (by decide) (run_load15 (HSC.out.below hBV) rfl e3) rfl
                · intro r W hc hf hs hd hB
                  have hBV := HBV.out W hB
                  refine want_n rfl ?_
                  have e38 : r (.tmp 38) = TT.val l[i] X := hd 38 (by kernel_rfl)
                  have e39 : r (.tmp 39) = TT.val s A' := hd 39 (by kernel_rfl)
                  exact st_call (f := 34) (args := #[TT.val l[i] X, TT.val s A']) rfl (by decide) (by go_simp) (IH.out l[i] s _ _ W S' (HCS.out i HI.out) ⟨X, rfl, HXK.out.below hBV⟩ ⟨A', rfl, HSK.out.below hBV⟩ (fun q hq => Nat.lt_of_lt_of_le (HSL.out q hq) hBV.size))
                · intro r W hc hf hs hd hB
                  have hBV := HBV.out W hB
                  refine want_n rfl ?_
                  have e32 : r (.tmp 32) = .slice (some ⟨B, 0, none⟩) l.length c6 := hd 32 (by kernel_rfl)
                  have e33 : r (.tmp 33) = .int .i64 i := hd 33 (by kernel_rfl)
                  exact st_value (v := .pointer (some ⟨B, i * 15, none⟩)) rfl (by decide) (by go_simp) rfl
              intro f w5 fuel hfuel hfd _ hB'
              have z40 : TInA S' w5 (l[i].putL s) (f 40) := hfd 40 (of_decide_eq_true (by kernel_rfl))
              have z41 : f 41 = .pointer (some ⟨B, i * 15, none⟩) := hfd 41 (of_decide_eq_true (by kernel_rfl))
              obtain ⟨Y, z40, hY⟩ := z40
              have hB1 := HBV.out w5 hB'
              have HSTEP := Lib.hid (HG.out.step (Y := Y) (hSB B hlo hltB) hi' (by omega) hnc hB1 (by rw [hel]; exact hY))
              have HROW5 := Lib.hid (HG.out.row.below hBr hB1)
              rw [hel] at HSTEP
              obtain ⟨fuel, rfl⟩ : ∃ k, fuel = k + 1 := ⟨fuel - 1, by have h2 : 1 ≤ fuel := hfuel; omega⟩
              rw [show dstsTo 11 _ = [31, 32, 33, 34, 35, 36, 37, 38, 39, 40, 41] from by kernel_rfl]
              simp only [fill, List.setIfInBounds_toArray, List.set_cons_succ, List.set_cons_zero, z40, z41]
              clear z40 z41 hfd hfuel hY hB' hB1
              refine wpAny_next (i := 11) (by kernel_rfl) (by rfl) rfl (wp_skip (w' := setL B (cellsT (i * 15) (l[i].putL s) Y) w5) (run_store15 HROW5.out (by omega) rfl rfl rfl) rfl ?_)
              refine wpAny_done (by kernel_rfl) ?_ _
              generalize setL B _ w5 = w9 at HSTEP ⊢
              clear HROW5 F14 F0
              go_wp2_with fail
              exact ⟨⟨i + 1, by go_num, by omega, .inr ⟨B, rfl, hlo, hltB, hnc, HSTEP.out⟩⟩, by simp [intOf]; omega⟩
              case roundEnd => (have h0 := HI0.out; first | omega | contradiction | simp_all)
            · as_aux_lemma =>
              have hel : l'[i] = l[i] := by rw [HGET.out i hlt hi', if_pos ⟨hk10, hi0⟩]
              have HN := Lib.hid (hG.skip (fun hj => ⟨X, by rw [hel]; exact cX, by rw [hel]; exact kX⟩))
              subst hk10
              clear cX kX hrow6 hG hel
              go_wp2_with fail
              exact ⟨⟨i + 1, by go_num, by omega, .inr ⟨B, rfl, hlo, hltB, hnc, HN.out⟩⟩, by simp [intOf]; omega⟩
          · as_aux_lemma =>
            have hel : l'[i] = l[i].putL s := by rw [HGET.out i hlt hi', if_neg (by omega)]
            have HI := Lib.hid hlt; have HXC := Lib.hid cX; have HXK := Lib.hid kX; have HSK := Lib.hid (hsk wr hsr hok2); have HSC := Lib.hid (TCells.block (hold w0.heap.size (by omega)) HC37.out)
            have HSL : Hid (∀ q, S' q → q < wr.heap.size) := Lib.hid (fun q hq => by rw [hS'] at hq; rcases hq with h | h; (have := HS.out q h; have := HB37.out.size; omega); omega)
            have HBV := Lib.hid (fun W (h : Below wr.drew.heap.size wr.drew W) => (Below.refl _ wr).drew.trans h)
            have HG := Lib.hid hG; have HF14 := Lib.hid F14
            have hlw := hlen
            have hBr : B < wr.heap.size := by omega
            clear cX kX hok2 hG hrow6
            go_wp2_with fail
            refine wp_region_part [] (kindT [(31, .fixed (.pointer (some ⟨w2.heap.size, 14, none⟩))), (32, .fixed (.slice (some ⟨B, 0, none⟩) l.length c6)), (33, .fixed (.int .i64 i)), (34, .fixed (.pointer (some ⟨w2.heap.size, 14, none⟩))), (35, .fixed (.slice (some ⟨B, 0, none⟩) l.length c6)), (36, .fixed (.int .i64 i)), (37, .fixed (.pointer (some ⟨B, i * 15, none⟩))), (38, .fixed (TT.val l[i] X)), (39, .fixed (TT.val s A')), (40, .prop (fun x w => TInA S' w (l[i].putL s) x) (fun _ _ _ h hb => h.below hb)), (41, .fixed (.pointer (some ⟨B, i * 15, none⟩)))]) 11 43 (by kernel_rfl) (by kernel_rfl) (by rfl) (by decide) (fun _ h => by cases h) (kindT_mono _) ?_ ?_
            · as_aux_lemma =>
              show ∀ o ∈ [_, _, _, _, _, _, _, _, _, _, _], _
              refine (tfm ?_ (tfm ?_ (tfm ?_ (tfm ?_ (tfm ?_ (tfm ?_ (tfm ?_ (tfm ?_ (tfm ?_ (tfm ?_ (tfm ?_ tfmnil)))))))))))
              · intro r W hc hf hs hd hB
                have hBV := HBV.out W hB
                refine want_n rfl ?_
                have e5 : r (.tmp 5) = .pointer (some ⟨w2.heap.size, 0, none⟩) := hs 5 (of_decide_eq_true (by kernel_rfl))
                exact st_value (v := .pointer (some ⟨w2.heap.size, 14, none⟩)) rfl (by decide) (by go_simp) rfl
              · intro r W hc hf hs hd hB
                have hBV := HBV.out W hB
                refine want_n rfl ?_
                have e31 : r (.tmp 31) = .pointer (some ⟨w2.heap.size, 14, none⟩) := hd 31 (by kernel_rfl)
                have g := cell_stays hBV HF14.out
                exact st_value (v := .slice (some ⟨B, 0, none⟩) l.length c6) rfl (by decide) (by go_simp) rfl
              · intro r W hc hf hs hd hB
                have hBV := HBV.out W hB
                refine want_n rfl ?_
                have e6 : r (.tmp 6) = .int .i64 i := hs 6 (of_decide_eq_true (by kernel_rfl))
                exact st_value (v := .int .i64 i) rfl (by decide) (by go_simp) rfl
              · intro r W hc hf hs hd hB
                have hBV := HBV.out W hB
                refine want_n rfl ?_
                have e5 : r (.tmp 5) = .pointer (some ⟨w2.heap.size, 0, none⟩) := hs 5 (of_decide_eq_true (by kernel_rfl))
                exact st_value (v := .pointer (some ⟨w2.heap.size, 14, none⟩)) rfl (by decide) (by go_simp) rfl
              · intro r W hc hf hs hd hB
                have hBV := HBV.out W hB
                refine want_n rfl ?_
                have e34 : r (.tmp 34) = .pointer (some ⟨w2.heap.size, 14, none⟩) := hd 34 (by kernel_rfl)
                have g := cell_stays hBV HF14.out
                exact st_value (v := .slice (some ⟨B, 0, none⟩) l.length c6) rfl (by decide) (by go_simp) rfl
              · intro r W hc hf hs hd hB
                have hBV := HBV.out W hB
                refine want_n rfl ?_
                have e6 : r (.tmp 6) = .int .i64 i := hs 6 (of_decide_eq_true (by kernel_rfl))
                exact st_value (v := .int .i64 i) rfl (by decide) (by go_simp) rfl
              · intro r W hc hf hs hd hB
                have hBV := HBV.out W hB
                refine want_n rfl ?_
                have e35 : r (.tmp 35) = .slice (some ⟨B, 0, none⟩) l.length c6 := hd 35 (by kernel_rfl)
                have e36 : r (.tmp 36) = .int .i64 i := hd 36 (by kernel_rfl)
                exact st_value (v := .pointer (some ⟨B, i * 15, none⟩)) rfl (by decide) (by go_simp) rfl
              · intro r W hc hf hs hd hB
                have hBV := HBV.out W hB
                refine want_n rfl ?_
                have e37 : r (.tmp 37) = .pointer (some ⟨B, i * 15, none⟩) := hd 37 (by kernel_rfl)
                exact st_value (v := TT.val l[i] X) rfl (by decide) (run_load15 (HXC.out.below hBV) rfl e37) rfl
              · intro r W hc hf hs hd hB
                have hBV := HBV.out W hB
                refine want_n rfl ?_
                have e3 : r (.tmp 3) = .pointer (some ⟨w0.heap.size, 0, none⟩) := hs 3 (of_decide_eq_true (by kernel_rfl))
                exact st_value (v := TT.val s A') rfl (by decide) (run_load15 (HSC.out.below hBV) rfl e3) rfl
              · intro r W hc hf hs hd hB
                have hBV := HBV.out W hB
                refine want_n rfl ?_
                have e38 : r (.tmp 38) = TT.val l[i] X := hd 38 (by kernel_rfl)
                have e39 : r (.tmp 39) = TT.val s A' := hd 39 (by kernel_rfl)
                exact st_call (f := 34) (args := #[TT.val l[i] X, TT.val s A']) rfl (by decide) (by go_simp) (IH.out l[i] s _ _ W S' (HCS.out i HI.out) ⟨X, rfl, HXK.out.below hBV⟩ ⟨A', rfl, HSK.out.below hBV⟩ (fun q hq => Nat.lt_of_lt_of_le (HSL.out q hq) hBV.size))
              · intro r W hc hf hs hd hB
                have hBV := HBV.out W hB
                refine want_n rfl ?_
                have e32 : r (.tmp 32) = .slice (some ⟨B, 0, none⟩) l.length c6 := hd 32 (by kernel_rfl)
                have e33 : r (.tmp 33) = .int .i64 i := hd 33 (by kernel_rfl)
                exact st_value (v := .pointer (some ⟨B, i * 15, none⟩)) rfl (by decide) (by go_simp) rfl
            intro f w5 fuel hfuel hfd _ hB'
            have z40 : TInA S' w5 (l[i].putL s) (f 40) := hfd 40 (of_decide_eq_true (by kernel_rfl))
            have z41 : f 41 = .pointer (some ⟨B, i * 15, none⟩) := hfd 41 (of_decide_eq_true (by kernel_rfl))
            obtain ⟨Y, z40, hY⟩ := z40
            have hB1 := HBV.out w5 hB'
            have HSTEP := Lib.hid (HG.out.step (Y := Y) (hSB B hlo hltB) hi' (by omega) hnc hB1 (by rw [hel]; exact hY))
            have HROW5 := Lib.hid (HG.out.row.below hBr hB1)
            rw [hel] at HSTEP
            obtain ⟨fuel, rfl⟩ : ∃ k, fuel = k + 1 := ⟨fuel - 1, by have h2 : 1 ≤ fuel := hfuel; omega⟩
            rw [show dstsTo 11 _ = [31, 32, 33, 34, 35, 36, 37, 38, 39, 40, 41] from by kernel_rfl]
            simp only [fill, List.setIfInBounds_toArray, List.set_cons_succ, List.set_cons_zero, z40, z41]
            clear z40 z41 hfd hfuel hY hB' hB1
            refine wpAny_next (i := 11) (by kernel_rfl) (by rfl) rfl (wp_skip (w' := setL B (cellsT (i * 15) (l[i].putL s) Y) w5) (run_store15 HROW5.out (by omega) rfl rfl rfl) rfl ?_)
            refine wpAny_done (by kernel_rfl) ?_ _
            generalize setL B _ w5 = w9 at HSTEP ⊢
            clear HROW5 F14 F0
            go_wp2_with fail
            exact ⟨⟨i + 1, by go_num, by omega, .inr ⟨B, rfl, hlo, hltB, hnc, HSTEP.out⟩⟩, by simp [intOf]; omega⟩
        · as_aux_lemma =>
          have hie : i = l.length := by omega
          subst hie
          have HC5W := Lib.hid (TCells.block (hold _ s3) HC57.out)
          have HR4W := Lib.hid (row_block (hold _ (by omega)) HR47.out)
          have HREL := Lib.hid hrel
          clear hrel
          go_wp2_with (first | refine wpList_load15 (by rfl) (by rfl) (by rfl) HC5W.out ?_ | refine wpList_store15 (t := (TT.mk k v vs lo hi0 ws p l')) (A := { A with aa := a6, ac := c6 }) (by rfl) (by rfl) (by rfl) (by rfl) (by rfl) HR4W.out (by decide) ?_)
          intro wE hcl hkE hsE hbE
          have hbw : Below w.heap.size w wr := HB37.out.trans (HREL.out.below (by omega))
          have hbe : Below w.heap.size w wE := hbE _ _ (by omega) hbw
          have hrowE : ∀ W, AgreeS S wE W → TRow W l' a6 := fun W ha => by
            rcases HREL.out with ⟨h0, _⟩ | ⟨B, e1, e2, e3, e4, hG⟩
            · rw [List.length_eq_zero_iff.1 h0]; exact trow_nil
            · rw [e1]
              refine TRow.of B l' 0 fun j hj => ?_
              obtain ⟨X, hc, hk⟩ := hG.done j (by omega) hj
              have hSB' : ¬ S B := fun h => by have := HS.out B h; have := HB37.out.size; omega
              refine ⟨X, ?_, hk W (ha.back' (by omega) fun q g1 g2 => ?_)⟩
              · rw [Nat.zero_add]
                exact (TCells.block (hkE B (by omega)) hc).keep fun o v hv => ha.cell hSB' hv
              · rw [hS'] at g2
                exact ⟨fun h => g2 (.inl h), hkE q (fun e => g2 (.inr ⟨by omega, by omega⟩))⟩
          have HPOST := Lib.hid (tok_args (c' := c6) HOK.out hbe.size (fun q g1 g2 => ⟨g2, hbe.block q g1⟩) (by omega) hrowE)
          have HBE := Lib.hid hbe
          have HPL2 := HPL
          clear hbE hbw hbe hrowE hkE hsE HREL
          go_wp2_with fail
          refine bodyPost_ret (v := TT.val (TT.mk k v vs lo hi0 ws p l') { A with aa := a6, ac := c6 }) ?_ rfl ⟨_, rfl, by rw [HPL.out]; exact ⟨_, rfl, HPOST.out⟩, HBE.out⟩
          exact results_cell Try.results34 rfl hcl
end Go.Proofs.Ytapofbdkofelkaa
/- Laws at the list of a plain region's operations, over terms. -/
namespace Go.Proofs.Ytapofbdkofelkaa
open Go.RowKit

theorem run_row1 {w w2 : World} {o : Oper} {r : Operand → Value} {x0 : Operand} {s : TT} {A : TA} (ho : o.op = .buildSlice 29 1 #[(0, x0)]) (e0 : r x0 = s.val A) (hw : w.alloc (.cells #[.int .u8 s.kind, .int .u8 s.v.kind, .int .i64 s.v.num, .slice A.va s.v.items.length A.vc, .slice A.sa s.vs.length A.sc, .int .i64 s.lo, .int .i64 s.hi, .slice A.wa s.ws.length A.wc, .int .u8 s.p.kind, .int .u8 s.p.val.kind, .int .i64 s.p.val.num, .slice A.qa s.p.val.items.length A.qc, .int .i64 s.p.num, .slice A.pa s.p.args.length A.pc, .slice A.aa s.args.length A.ac] 31) = w2) :
    (execOp r o).run Try.prog w = .ok (.value (.slice (some ⟨w.heap.size, 0, none⟩) 1 1)) w2 := by
  obtain ⟨od, oo, ot, op, oa, og⟩ := o
  simp only at ho
  subst ho
  unfold TT.val at e0
  rw [← hw]
  go_simp
theorem run_row2 {w w2 : World} {o : Oper} {r : Operand → Value} {x0 x1 : Operand} {s t : TT} {A B : TA} (ho : o.op = .buildSlice 29 2 #[(0, x0), (1, x1)]) (e0 : r x0 = s.val A) (e1 : r x1 = t.val B) (hw : w.alloc (.cells #[.int .u8 s.kind, .int .u8 s.v.kind, .int .i64 s.v.num, .slice A.va s.v.items.length A.vc, .slice A.sa s.vs.length A.sc, .int .i64 s.lo, .int .i64 s.hi, .slice A.wa s.ws.length A.wc, .int .u8 s.p.kind, .int .u8 s.p.val.kind, .int .i64 s.p.val.num, .slice A.qa s.p.val.items.length A.qc, .int .i64 s.p.num, .slice A.pa s.p.args.length A.pc, .slice A.aa s.args.length A.ac, .int .u8 t.kind, .int .u8 t.v.kind, .int .i64 t.v.num, .slice B.va t.v.items.length B.vc, .slice B.sa t.vs.length B.sc, .int .i64 t.lo, .int .i64 t.hi, .slice B.wa t.ws.length B.wc, .int .u8 t.p.kind, .int .u8 t.p.val.kind, .int .i64 t.p.val.num, .slice B.qa t.p.val.items.length B.qc, .int .i64 t.p.num, .slice B.pa t.p.args.length B.pc, .slice B.aa t.args.length B.ac] 31) = w2) :
    (execOp r o).run Try.prog w = .ok (.value (.slice (some ⟨w.heap.size, 0, none⟩) 2 2)) w2 := by
  obtain ⟨od, oo, ot, op, oa, og⟩ := o
  simp only at ho
  subst ho
  unfold TT.val at e0 e1
  rw [← hw]
  go_simp
theorem wpList_row1 {ops : Array Oper} {rest : List Oper} {o : Oper} {a : Act} {w : World} {Q : Exit → Act → World → Prop} {s : TT} {A : TA} {x0 : Operand} (g : o.guard = none) (ho : o.op = .buildSlice 29 1 #[(0, x0)]) (e0 : a.eval x0 = s.val A) (h0 : TOk w s A)
    (hk : ∀ w2, TRow w2 [s] (some ⟨w.heap.size, 0, none⟩) → Below w.heap.size w w2 → wpList Try.prog ops Q rest (a.put o.dst (.slice (some ⟨w.heap.size, 0, none⟩) 1 1)) w2) : wpList Try.prog ops Q (o :: rest) a w := by
  obtain ⟨w2, hw2, m2, s2, hc2, _⟩ := row1_new w s A
  exact wpList_plain g fun _ hK => wp_val (run_row1 ho e0 hw2) (hK _ _ (hk w2 (trow_cons hc2 (h0.below m2) trow_nil) m2))
theorem wpList_row2 {ops : Array Oper} {rest : List Oper} {o : Oper} {a : Act} {w : World} {Q : Exit → Act → World → Prop} {s t : TT} {A B : TA} {x0 x1 : Operand} (g : o.guard = none) (ho : o.op = .buildSlice 29 2 #[(0, x0), (1, x1)]) (e0 : a.eval x0 = s.val A) (e1 : a.eval x1 = t.val B) (h0 : TOk w s A) (h1 : TOk w t B)
    (hk : ∀ w2, TRow w2 [s, t] (some ⟨w.heap.size, 0, none⟩) → Below w.heap.size w w2 → wpList Try.prog ops Q rest (a.put o.dst (.slice (some ⟨w.heap.size, 0, none⟩) 2 2)) w2) : wpList Try.prog ops Q (o :: rest) a w := by
  obtain ⟨w2, hw2, m2, s2, hc2, hc3⟩ := row2_new w s t A B
  exact wpList_plain g fun _ hK => wp_val (run_row2 ho e0 e1 hw2) (hK _ _ (hk w2 (trow_cons hc2 (h0.below m2) (trow_cons hc3 (h1.below m2) trow_nil)) m2))
/-- a box whose term is known with its address. -/
def BoxA (w : World) (B : Nat) (t : TT) (A : TA) : Prop := TCells w B 0 t A ∧ TOk w t A
theorem BoxA.below {w w' : World} {B : Nat} {t : TT} {A : TA} (h : BoxA w B t A) (hb : Below w.heap.size w w') : BoxA w' B t A := ⟨h.1.below hb, h.2.below hb⟩
theorem BoxA.tin {w : World} {B : Nat} {t : TT} {A : TA} (h : BoxA w B t A) : TIn w t (t.val A) := ⟨A, rfl, h.2⟩
end Go.Proofs.Ytapofbdkofelkaa
