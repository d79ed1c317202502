/- Texts of this claim laid into one: TFlat. -/
import Derived.Test.YtapofbdkofelkaaM40
import Derived.Test.YtapofbdkofelkaaM41
/- The law's flat: a term's nodes, by their places. -/
namespace Go.Proofs.Ytapofbdkofelkaa
open Go.RowKit

/-- the cells of terms, one behind another. -/
def cellsL (L : List (TT × TA)) : List Value := L.flatMap fun p => (cellsOf p.1 p.2).toList
theorem cellsL_length (L : List (TT × TA)) : (cellsL L).length = L.length * 15 := by
  induction L with
  | nil => rfl
  | cons p L ih => rw [cellsL, List.flatMap_cons, List.length_append, ← cellsL, ih, List.length_cons, Nat.add_mul]; simp [cellsOf]; omega
theorem cellsL_append (L : List (TT × TA)) (p : TT × TA) : cellsL (L ++ [p]) = cellsL L ++ (cellsOf p.1 p.2).toList := by simp [cellsL]
theorem cellsL_get : ∀ (L : List (TT × TA)) (i q : Nat) (h : i < L.length), q < 15 → (cellsL L)[i * 15 + q]? = ((cellsOf L[i].1 L[i].2).toList)[q]?
  | [], i, q, h, _ => by simp at h
  | p :: L, 0, q, _, hq => by
    rw [cellsL, List.flatMap_cons, List.getElem?_append_left (by simp [cellsOf]; omega)]
    simp
  | p :: L, i + 1, q, h, hq => by
    rw [cellsL, List.flatMap_cons, ← cellsL, List.getElem?_append_right (by simp [cellsOf]; omega)]
    have e : (i + 1) * 15 + q - (cellsOf p.1 p.2).toList.length = i * 15 + q := by simp [cellsOf]; omega
    rw [e, cellsL_get L i q (by simpa using h) hq]
    simp
/-- a row that append builds of terms that were there in the world wb. -/
def FlatRow (wb w : World) (L : List (TT × TA)) (a : Option Addr) (cap : Nat) : Prop := Grown w wb.heap.size 31 15 L.length (cellsL L) a cap ∧ ∀ p ∈ L, TOk wb p.1 p.2
theorem FlatRow.below {wb w w' : World} {L : List (TT × TA)} {a : Option Addr} {cap : Nat} (h : FlatRow wb w L a cap) (hb : Below w.heap.size w w') : FlatRow wb w' L a cap := ⟨h.1.below hb, h.2⟩
theorem FlatRow.get {wb w : World} {L : List (TT × TA)} {a : Option Addr} {cap : Nat} (h : FlatRow wb w L a cap) {i : Nat} (hi : i < L.length) : ∃ b, a = some ⟨b, 0, none⟩ ∧ wb.heap.size ≤ b ∧ TCells w b (i * 15) L[i].1 L[i].2 ∧ TOk wb L[i].1 L[i].2 := by
  obtain ⟨b, e, hB, _, hc⟩ := h.1.cells (by rw [cellsL_length]; omega)
  refine ⟨b, e, hB, ?_, h.2 _ (List.getElem_mem hi)⟩
  have hg : ∀ q v, q < 15 → ((cellsOf L[i].1 L[i].2).toList)[q]? = some v → w.cell? ⟨b, i * 15 + q, none⟩ = some v := fun q v hq hv => hc _ v (by rw [cellsL_get L i q hi hq]; exact hv)
  exact ⟨hg 0 _ (by decide) rfl, hg 1 _ (by decide) rfl, hg 2 _ (by decide) rfl, hg 3 _ (by decide) rfl, hg 4 _ (by decide) rfl, hg 5 _ (by decide) rfl, hg 6 _ (by decide) rfl, hg 7 _ (by decide) rfl, hg 8 _ (by decide) rfl, hg 9 _ (by decide) rfl, hg 10 _ (by decide) rfl, hg 11 _ (by decide) rfl, hg 12 _ (by decide) rfl, hg 13 _ (by decide) rfl, hg 14 _ (by decide) rfl⟩
theorem FlatRow.block {wb w : World} {L : List (TT × TA)} {a : Option Addr} {cap : Nat} (h : FlatRow wb w L a cap) (hL : 0 < L.length) : ∀ b', a = some ⟨b', 0, none⟩ → b' < w.heap.size := fun b' e => by
  obtain ⟨b, e', _, hc, _⟩ := h.get hL
  rw [e] at e'
  cases e'
  exact lt_of_cell hc.1
/-- the row's block may have been turned, no other. -/
def OnlyRow (w w' : World) (a a' : Option Addr) : Prop := ∀ k, k < w.heap.size → (∀ b', a = some ⟨b', 0, none⟩ → k ≠ b') → w'.heap[k]? = w.heap[k]? ∧ ∀ b', a' = some ⟨b', 0, none⟩ → k ≠ b'
theorem OnlyRow.trans {w w1 w2 : World} {a a1 a2 : Option Addr} (h : OnlyRow w w1 a a1) (h2 : OnlyRow w1 w2 a1 a2) (hs : w.heap.size ≤ w1.heap.size) : OnlyRow w w2 a a2 := fun k hk hn => by
  obtain ⟨e, hn1⟩ := h k hk hn
  obtain ⟨e2, hn2⟩ := h2 k (Nat.lt_of_lt_of_le hk hs) hn1
  exact ⟨e2.trans e, hn2⟩
theorem wpList_row1C {ops : Array Oper} {rest : List Oper} {o : Oper} {a : Act} {w : World} {Q : Exit → Act → World → Prop} {s : TT} {A : TA} {x0 : Operand} (g : o.guard = none) (ho : o.op = .buildSlice 29 1 #[(0, x0)]) (e0 : a.eval x0 = s.val A)
    (hk : ∀ w2, TCells w2 w.heap.size 0 s A → Below w.heap.size w w2 → w.heap.size < w2.heap.size → wpList Try.prog ops Q rest (a.put o.dst (.slice (some ⟨w.heap.size, 0, none⟩) 1 1)) w2) : wpList Try.prog ops Q (o :: rest) a w := by
  obtain ⟨w2, hw2, m2, s2, hc2, _⟩ := row1_new w s A
  exact wpList_plain g fun _ hK => wp_val (run_row1 ho e0 hw2) (hK _ _ (hk w2 hc2 m2 s2))
/-- a term appended to the row. -/
theorem flat_append {wb w : World} {L : List (TT × TA)} {a : Option Addr} {cap B : Nat} {t : TT} {A : TA} (h : FlatRow wb w L a cap) (hB : wb.heap.size ≤ w.heap.size) (hc : TCells w B 0 t A) (ht : TOk wb t A) (hL : L.length < 3000) :
    ∃ a' cap' w', (Builtin.append_ #[29, 29] 29 #[.slice a L.length cap, .slice (some ⟨B, 0, none⟩) 1 1]).run Try.prog w = .ok (.slice a' (L.length + 1) cap') w' ∧ FlatRow wb w' (L ++ [(t, A)]) a' cap' ∧ Below wb.heap.size w w' ∧ OnlyRow w w' a a' := by
  obtain ⟨i0, hi0, hz0, hz1, hz2⟩ := info_parts zeroT
  obtain ⟨a', cap', w', hap, hg', hb', hk'⟩ := grown_append (P := Try.prog) (ty := 29) hB h.1 Try.underlying29 hi0 hz0 hz1 rfl hz2
    (Src.ofSlice w Try.underlying29 ⟨B, 0, none⟩ 1 1 (cellsOf t A).toList (by simp [cellsOf]) (fun j u hu => by rw [Addr.add_lit]; have := hc.range j u hu; simpa using this) (fun u hu => by
      obtain ⟨j, hj, rfl⟩ := List.getElem_of_mem hu
      have hj' : j < 15 := by simpa [cellsOf] using hj
      have h1 := hc.range j _ (List.getElem?_eq_getElem hj)
      obtain ⟨u', hu', ho⟩ := hc.one j hj'
      rw [h1] at hu'
      cases hu'; exact ho)) (by omega) (by omega)
  refine ⟨a', cap', w', hap, ⟨?_, fun p hp => ?_⟩, hb', hk'⟩
  · rw [cellsL_append, List.length_append]; exact hg'
  · rcases List.mem_append.1 hp with hp | hp
    · exact h.2 p hp
    · simp only [List.mem_singleton] at hp; subst hp; exact ht
theorem TT.pres_take {l : List TT} {i : Nat} (h : i < l.length) : TT.pres (l.take (i + 1)) = TT.pres (l.take i) ++ l[i].pre := by
  induction l generalizing i with
  | nil => simp at h
  | cons t ts ih =>
    cases i with
    | zero => simp [TT.pres]
    | succ i => simp only [List.take_succ_cons, TT.pres, List.getElem_cons_succ]; rw [ih (by simpa using h), List.append_assoc]
theorem TT.pres_full (l : List TT) : TT.pres (l.take l.length) = TT.pres l := by rw [List.take_length]

set_option maxRecDepth 100000 in
set_option maxHeartbeats 8000000 in
theorem tflat_any (wb : World) (N : Nat) : ∀ (t : TT) (A : TA) (w : World) (L : List (TT × TA)) (a : Option Addr) (cap : Nat), t.cnt ≤ N → TOk wb t A → Below wb.heap.size wb w → FlatRow wb w L a cap → (∀ b', a = some ⟨b', 0, none⟩ → b' < w.heap.size) → L.length + t.cnt ≤ 2999 →
    Calls Try.prog 40 #[t.val A, .slice a L.length cap] w fun e w' => ∃ L' a' cap', e = .returned (.slice a' L'.length cap') ∧ L'.map (·.1) = L.map (·.1) ++ t.pre ∧ FlatRow wb w' L' a' cap' ∧ Below wb.heap.size wb w' ∧ w.heap.size ≤ w'.heap.size ∧ (∀ b', a' = some ⟨b', 0, none⟩ → b' < w'.heap.size) ∧ OnlyRow w w' a a' := by
  induction N with
  | zero => intro t A w L a cap h; have := TT.cnt_pos t; omega
  | succ N ih =>
    intro t A w L a cap hcn hok hB hL hab hlen
    have IH := Lib.hid ih; clear ih
    obtain ⟨k, v, vs, lo, hi0, ws, p, l⟩ := t
    have hcs : ∀ i (h : i < l.length), l[i].cnt ≤ N := fun i h => by have := TT.cnts_get h; rw [TT.cnt] at hcn; omega
    have hrow : TRow wb l A.aa := hok.parts.2.2.2.2.2
    have hll : l.length ≤ 651562446070 := hok.parts.1.1
    rw [TT.cnt] at hlen
    obtain ⟨w0, hw0, m0, s0, hc0, _⟩ := row1_new w (.mk k v vs lo hi0 ws p l) A
    have hB0 := hB.trans (m0.mono hB.size)
    have HC0 := Lib.hid hc0; have HOK := Lib.hid hok; have HROW := Lib.hid hrow; have HCS := Lib.hid hcs
    have HL : Hid (FlatRow wb w0 L a cap) := Lib.hid (hL.below m0)
    have hw : wb.heap.size ≤ w.heap.size := hB.size
    have hLn : L.length < 3000 := by omega
    have hlt0 : ¬ (3000 : Int) ≤ L.length := by omega
    have hdl : decide ((3000 : Int) ≤ L.length) = false := decide_eq_false hlt0
    clear hc0 hok hrow hcs hL hB m0 hcn
    unfold TT.val
    simp only [TT.kind_mk, TT.v_mk, TT.vs_mk, TT.lo_mk, TT.hi_mk, TT.ws_mk, TT.p_mk, TT.args_mk] at hw0 ⊢
    go_enter Try.func40, Try.ntmps40
    go_wp2_with (first | refine wpList_load15 (by rfl) (by rfl) (by rfl) HC0.out ?_ | refine wpList_row1C (s := .mk k v vs lo hi0 ws p l) (A := A) (by rfl) (by rfl) (by rfl) ?_)
    intro w2 hc2 hb2 s2
    have hB2 := hB0.trans (hb2.mono hB0.size)
    obtain ⟨a3, cap3, w3, hap, hL3, hb3, ho3⟩ := flat_append (HL.out.below hb2) hB2.size hc2 HOK.out hLn
    have HAP := Lib.hid hap
    have hB3 := hB2.trans hb3
    have ho : OnlyRow w0 w3 a a3 := fun q hq hn => ho3 q (by omega) hn |>.imp (fun e => e.trans (hb2.block q hq)) id
    have hs3 : w0.heap.size ≤ w3.heap.size := by have := hb3.size; omega
    have HL3 := Lib.hid hL3; have HO := Lib.hid ho
    have h14 : w0.cell? ⟨w.heap.size, 14, none⟩ = some (.slice A.aa l.length A.ac) := by obtain ⟨_, _, _, _, _, _, _, _, _, _, _, _, _, _, q14⟩ := HC0.out; exact q14
    have hab3 : ∀ b', a3 = some ⟨b', 0, none⟩ → b' < w3.heap.size := hL3.block (by simp)
    have hln3 : (L ++ [((TT.mk k v vs lo hi0 ws p l), A)]).length = L.length + 1 := by simp
    have H14 := Lib.hid h14
    clear hap hL3 ho3 ho hc2 hb2 hb3 h14
    go_wp2_with (at_builtin; refine wpList_append_run _ rfl _ _ _ rfl _ _ _ _ rfl rfl HAP.out ?_)
    go_loopw [1, 5] (fun y x wr => ∃ (i : Nat) (L' : List (TT × TA)) (a' : Option Addr) (cap' : Nat), y = .slice a' L'.length cap' ∧ x = .int .i64 i ∧ i ≤ l.length ∧ L'.map (·.1) = L.map (·.1) ++ (TT.mk k v vs lo hi0 ws p l) :: TT.pres (l.take i) ∧ FlatRow wb wr L' a' cap' ∧ Below wb.heap.size wb wr ∧ w0.heap.size ≤ wr.heap.size ∧ (∀ b', a' = some ⟨b', 0, none⟩ → b' < wr.heap.size) ∧ OnlyRow w0 wr a a') (fun _ x _ => l.length - (intOf x).toNat)
    case atStart => exact ⟨0, _, a3, cap3, by rw [hln3], rfl, by omega, by simp [TT.pres], HL3.out, hB3, hs3, hab3, HO.out⟩
    case round =>
      obtain ⟨i, L', a', cap', rfl, rfl, hi, hmap, hL', hBr, hsr, habr, hor⟩ := hrel
      have hlen' : L'.length = L.length + 1 + TT.cnts (l.take i) := by
        have h := congrArg List.length hmap
        simp only [List.length_map, List.length_append, List.length_cons, TT.pres_length] at h
        omega
      have hk := hor w.heap.size s0 (fun b' e => by have := hab b' e; omega)
      have F14 : wr.cell? ⟨w.heap.size, 14, none⟩ = some (.slice A.aa l.length A.ac) := cell_block hk.1 H14.out
      have HMAP := Lib.hid hmap; have HL' := Lib.hid hL'; have HOR := Lib.hid hor; have HBR := Lib.hid hBr
      have HLEN' := Lib.hid hlen'
      have hLb : L'.length ≤ 2999 := by have := TT.cnts_upto_le l i; omega
      clear hmap hL' hor hk hBr hlen'
      by_cases hlt : i < l.length
      · as_aux_lemma =>
        obtain ⟨b, o, ea, X, hcX, hkX⟩ := HROW.out.get i hlt
        have HCX := Lib.hid (hcX.below HBR.out); have HKX := Lib.hid hkX
        have hcnt := TT.cnts_upto_le l (i + 1)
        have hcu : TT.cnts (l.take (i + 1)) = TT.cnts (l.take i) + l[i].cnt := by rw [← TT.pres_length, TT.pres_take hlt, List.length_append, TT.pres_length, TT.pre_length]
        have hbd : L'.length + l[i].cnt ≤ 2999 := by have := HLEN'.out; omega
        rw [ea] at F14
        clear hcX hkX hcnt hcu ea
        go_wp2_with (refine wpList_load15 (by rfl) (by rfl) (by rfl) HCX.out ?_)
        refine (IH.out l[i] X wr L' a' cap' (HCS.out i hlt) HKX.out HBR.out HL'.out habr hbd).mono ?_
        rintro e w9 ⟨L2, a2, cap2, rfl, hm2, hL2, hB2', hs2, hab2, ho2⟩
        have HN := Lib.hid (And.intro (show L2.map (·.1) = L.map (·.1) ++ (TT.mk k v vs lo hi0 ws p l) :: TT.pres (l.take (i + 1)) by rw [hm2, HMAP.out, TT.pres_take hlt]; simp) (And.intro hL2 (And.intro hB2' (And.intro (Nat.le_trans hsr hs2) (And.intro hab2 (HOR.out.trans ho2 hsr))))))
        clear hm2 hL2 hB2' hs2 hab2 ho2 F14
        go_wp2_with fail
        go_roundw
        case rel => exact ⟨i + 1, L2, a2, cap2, rfl, by go_num, by omega, HN.out⟩
        case measure => simp [intOf]; omega
      · as_aux_lemma =>
        have hie : i = l.length := by omega
        subst hie
        go_wp2_with fail
        go_ret
        exact ⟨L', a', cap', rfl, by rw [HMAP.out, TT.pres_full, TT.pre], HL'.out, HBR.out, by omega, habr, fun q hq hn => by
          have h := HOR.out q (by omega) hn
          exact ⟨h.1.trans (by rw [← hw0]; exact (Below.al _).block q hq), h.2⟩⟩
end Go.Proofs.Ytapofbdkofelkaa
