/- Texts of this claim laid into one: TRefF. -/
import Derived.Test.YteebbffecaeciaaM29
import Derived.Test.YteebbffecaeciaaM35
/- The document's Put. -/
namespace Go.Proofs.Yteebbffecaeciaa
open Go.RowKit

theorem TT.puts_get (k : Int) (s : TT) : ∀ (i : Nat) (l : List TT) (j : Nat) (h : j < l.length) (h' : j < (TT.puts k i l s).length), (TT.puts k i l s)[j] = if k = 10 ∧ i + j = 1 then l[j] else l[j].put s
  | i, [], j, h, _ => by simp at h
  | i, t :: ts, 0, _, _ => by simp [TT.puts]
  | i, t :: ts, j + 1, h, h' => by
    simp only [TT.puts, List.getElem_cons_succ]
    rw [TT.puts_get k s (i + 1) ts j (by simpa using h) (by simpa [TT.puts] using h')]
    rw [show i + 1 + j = i + (j + 1) by omega]
/-- the field of the arguments is written. -/
theorem out_set {w : World} {bo n c' : Nat} {a' : Option Addr} {t0 : TT} {A0 : TA} (h0 : TCells w bo 0 t0 A0) : ∃ w7, w.setCell ⟨bo, 14, none⟩ (.slice a' n c') = w7 ∧ (∀ k, k ≠ bo → w7.heap[k]? = w.heap[k]?) ∧ w7.heap.size = w.heap.size ∧ (∀ lo a, lo ≤ bo → Below lo a w → Below lo a w7) ∧
    (∀ (t : TT) (A : TA), t.kind = t0.kind → t.v = t0.v → t.vs = t0.vs → t.lo = t0.lo → t.hi = t0.hi → t.ws = t0.ws → t.p = t0.p → { A with aa := A0.aa, ac := A0.ac } = A0 → Value.slice A.aa t.args.length A.ac = Value.slice a' n c' → TCells w7 bo 0 t A) ∧ (∀ p, w7.frozen? p = w.frozen? p) ∧ (∀ T m, RowAt w T bo m → RowAt w7 T bo m) := by
  refine ⟨setL bo [(14, .slice a' n c')] w, rfl, fun b hb => setL_block _ hb _ _, setL_size _ _ _, fun lo a h h' => setL_below _ h _ _ h', ?_, fun p => setL_frozen _ _ _ _, fun T m h => setL_row _ _ _ h⟩
  intro t A e1 e2 e3 e4 e5 e6 e7 e8 e9
  obtain ⟨c0, c1, c2, c3, c4, c5, c6, c7, c8, c9, c10, c11, c12, c13, c14⟩ := h0
  have ho : ∀ o v, o ≠ 14 → w.cell? ⟨bo, o, none⟩ = some v → (setL bo [(14, .slice a' n c')] w).cell? ⟨bo, o, none⟩ = some v := fun o v hne hv => by rw [setL_out _ _ _ _ _ (fun _ => by simpa using hne)]; exact hv
  have h14 : (setL bo [(14, .slice a' n c')] w).cell? ⟨bo, 14, none⟩ = some (.slice a' n c') := setL_in _ _ _ (by simp) (fun q hq => by simp only [List.mem_singleton] at hq; subst hq; exact ⟨_, c14⟩) (14, _) (by simp)
  rw [← e8] at c3 c4 c7 c11 c13
  rw [← e1] at c0; rw [← e2] at c1 c2 c3; rw [← e3] at c4; rw [← e4] at c5; rw [← e5] at c6; rw [← e6] at c7; rw [← e7] at c8 c9 c10 c11 c12 c13
  exact ⟨ho _ _ (by decide) c0, ho _ _ (by decide) c1, ho _ _ (by decide) c2, ho _ _ (by decide) c3, ho _ _ (by decide) c4, ho _ _ (by decide) c5, ho _ _ (by decide) c6, ho _ _ (by decide) c7, ho _ _ (by decide) c8, ho _ _ (by decide) c9, ho _ _ (by decide) c10, ho _ _ (by decide) c11, ho _ _ (by decide) c12, ho _ _ (by decide) c13, by rw [e9]; exact h14⟩
set_option maxRecDepth 100000 in
set_option maxHeartbeats 8000000 in
theorem rtput_any (N : Nat) : ∀ (t s : TT) (x y : Value) (w : World) (S : Nat → Prop), t.cnt ≤ N → TInA S w t x → TInA S w s y → (∀ q, S q → q < w.heap.size) →
    Calls Try.prog 126 #[x, y] w fun e w' => ∃ x', e = .returned x' ∧ TInA S w' (t.put s) x' ∧ Below w.heap.size w w' := by
  induction N with
  | zero => intro t s x y w S h; have := TT.cnt_pos t; omega
  | succ N ih =>
    intro t s x y w S hcn hx hy hS
    have IH := Lib.hid ih; clear ih
    obtain ⟨k, v, vs, lo, hi0, ws, p, l⟩ := t
    obtain ⟨A, rfl, hok⟩ := hx
    obtain ⟨A', rfl, hok'⟩ := hy
    have hlen : l.length ≤ 651562446070 := hok.ok.parts.1.1
    have hcs : ∀ i (h : i < l.length), l[i].cnt ≤ N := fun i h => by have := TT.cnts_get h; rw [TT.cnt] at hcn; omega
    have hrow : ∀ W, AgreeS S w W → TRow W l A.aa := fun W ha => (hok W ha).parts.2.2.2.2.2
    obtain ⟨w0, hw0, m0, s0, hc2, _⟩ := row1_new w (TT.mk k v vs lo hi0 ws p l) A
    obtain ⟨w1, hw1, m1, s1, hc3, _⟩ := row1_new w0 s A'
    obtain ⟨w2, hw2, m2, s2, R4, _⟩ := box15 w1 (.int .u8 0) (.int .u8 0) (.int .i64 0) (.slice none 0 0) (.slice none 0 0) (.int .i64 0) (.int .i64 0) (.slice none 0 0) (.int .u8 0) (.int .u8 0) (.int .i64 0) (.slice none 0 0) (.int .i64 0) (.slice none 0 0) (.slice none 0 0) 47
    replace hc2 := (hc2.below m1).below m2
    replace hc3 := hc3.below m2
    have hB2 : Below w.heap.size w w2 := m0.trans ((m1.trans (m2.mono (Nat.le_of_lt s1))).mono (Nat.le_of_lt s0))
    have q0 : w2.cell? ⟨w.heap.size, 0, none⟩ = some (.int .u8 k) := hc2.1
    have HOK := Lib.hid hok; have HOK' := Lib.hid hok'; have HCS := Lib.hid hcs; have HROW := Lib.hid hrow; have HC2 := Lib.hid hc2; have HC3 := Lib.hid hc3; have HR4 := Lib.hid R4; have HB2 := Lib.hid hB2; have HS := Lib.hid hS
    have HSZ := Lib.hid (And.intro s0 (And.intro s1 s2))
    clear hok hok' hcs hrow hc2 hc3 R4 hB2 m0 m1 m2 hcn hS s0 s1 s2
    unfold TT.val
    simp only [TT.kind_mk, TT.v_mk, TT.vs_mk, TT.lo_mk, TT.hi_mk, TT.ws_mk, TT.p_mk, TT.args_mk] at hw0 ⊢
    go_enter Try.func126, Try.ntmps126
    by_cases hk : k = 11
    · as_aux_lemma =>
      subst hk
      have HPL : Hid (TT.put (.mk 11 v vs lo hi0 ws p l) s = s) := Lib.hid (by rw [TT.put, if_pos rfl])
      go_wp2_with (first | refine wpList_load15 (by rfl) (by rfl) (by rfl) HC3.out ?_ | refine wpList_store15 (t := s) (A := A') (by rfl) (by rfl) (by rfl) (by rfl) (by rfl) HR4.out (by decide) ?_)
      intro wE hcl _ _ hbl
      have hsz := HSZ.out
      have hbe : Below w.heap.size w wE := hbl _ _ (by omega) HB2.out
      have hok : TOkA S wE s A' := HOK'.out.below hbe
      have HPOST := Lib.hid hok; have HBE := Lib.hid hbe
      clear hbl hsz hbe hok
      go_wp2_with fail
      refine bodyPost_ret (v := TT.val s A') ?_ rfl ⟨_, rfl, by rw [HPL.out]; exact ⟨A', rfl, HPOST.out⟩, HBE.out⟩
      exact results_cell Try.results126 rfl hcl
    · have hkb : (k == 11) = false := by simpa using hk
      go_wp2_with (first | refine wpList_load15 (by rfl) (by rfl) (by rfl) HC2.out ?_ | refine wpList_box15 (t := (TT.mk k v vs lo hi0 ws p l)) (A := A) (by rfl) (by rfl) (by rfl) (by rfl) (by rfl) (by rfl) (by rfl) (by rfl) ?_)
      intro w3 hc5 hb3 s3 R5
      obtain ⟨hz0, hz1, hz2⟩ := HSZ.out
      have hz3 := hb3.size
      obtain ⟨l', hl'⟩ : ∃ l', l' = TT.puts k 0 l s := ⟨_, rfl⟩
      have HLL : Hid (l'.length = l.length) := Lib.hid (by rw [hl', TT.puts_length])
      have HGET : Hid (∀ (i : Nat) (h : i < l.length) (h' : i < l'.length), l'[i] = if k = 10 ∧ i = 1 then l[i] else l[i].put s) := Lib.hid fun i h h' => by subst hl'; have := TT.puts_get k s 0 l i h h'; rw [Nat.zero_add] at this; exact this
      have HPL : Hid (TT.put (TT.mk k v vs lo hi0 ws p l) s = (TT.mk k v vs lo hi0 ws p l')) := Lib.hid (by rw [TT.put, if_neg hk, hl'])
      obtain ⟨w4, hw4, hk4, hs4, hb4, h4, hf4, hr4⟩ := out_set (a' := none) (n := 0) (c' := 0) hc5
      have hbo4 := h4 (TT.mk k v vs lo hi0 ws p []) { A with aa := none, ac := 0 } rfl rfl rfl rfl rfl rfl rfl rfl rfl
      have c14 : w3.cell? ⟨w2.heap.size, 14, none⟩ = some (.slice A.aa l.length A.ac) := by obtain ⟨_, _, _, _, _, _, _, _, _, _, _, _, _, _, q14⟩ := hc5; exact q14
      have z14 : w3.frozen? ⟨w2.heap.size, 14, none⟩ = false := R5.frozen 14
      have hbw4 : Below w.heap.size w w4 := hb4 _ _ (by omega) (HB2.out.trans (hb3.mono HB2.out.size))
      have HR54 := Lib.hid (hr4 _ _ R5)
      obtain ⟨S', hS'⟩ : ∃ S' : Nat → Prop, S' = fun q => S q ∨ q = w2.heap.size ∨ q = w1.heap.size := ⟨_, rfl⟩
      have HBO4 := Lib.hid hbo4; have HBW4 := Lib.hid hbw4; have HK4 := Lib.hid hk4; have HS4 := Lib.hid hs4
      have HC24 := Lib.hid (TCells.block (hk4 _ (by omega)) (HC2.out.below hb3)); have HC34 := Lib.hid (TCells.block (hk4 _ (by omega)) (HC3.out.below hb3))
      replace HC3 := Lib.hid (HC3.out.below hb3); have HC23 := Lib.hid (HC2.out.below hb3)
      have HR43 := Lib.hid (HR4.out.below (by omega) hb3)
      have HLO : Hid (w.heap.size ≤ w2.heap.size) := Lib.hid (by omega)
      have HSB : Hid (S' w2.heap.size ∧ S' w1.heap.size) := Lib.hid (by rw [hS']; exact ⟨.inr (.inl rfl), .inr (.inr rfl)⟩)
      have HBB : Hid (w2.heap.size < w3.heap.size) := Lib.hid s3
      have HSS : Hid (∀ q, S' q → S q ∨ q = w2.heap.size ∨ q = w1.heap.size) := Lib.hid fun q h => by rw [hS'] at h; exact h
      clear hbo4 hbw4 hk4 hs4 hb4 h4 hf4 hr4 hl' hc5 R5 HR4 HC2 hw0 hw1 hw2 q0
      go_wp2_with fail
      clear hw4 c14 z14
      go_loopw [6] (fun x wr => ∃ (i : Nat) (L : List (TT × TA)) (a : Option Addr) (c : Nat), x = .int .i64 i ∧ i ≤ l.length ∧ L.length = i ∧ L.map (·.1) = l'.take i ∧ GRow S' w3.heap.size wr L a c ∧ TCells wr w2.heap.size 0 (TT.mk k v vs lo hi0 ws p (L.map (·.1))) { A with aa := a, ac := c } ∧ (∀ q, q < w3.heap.size → q ≠ w2.heap.size → wr.heap[q]? = w3.heap[q]?) ∧ Below w.heap.size w wr ∧ w3.heap.size ≤ wr.heap.size ∧ RowAt wr 47 w2.heap.size 15) (fun x _ => l.length - (intOf x).toNat)
      case atStart => exact ⟨0, [], none, 0, rfl, by omega, rfl, by simp, GRow.nil _ _ _, HBO4.out, fun q _ h2 => HK4.out q h2, HBW4.out, by rw [HS4.out]; exact Nat.le_refl _, HR54.out⟩
      case round =>
        obtain ⟨i, L, a, c, rfl, hi, hLi, hmapL, hG, hbo, hold, hBE, hs3r, hrb⟩ := hrel
        have F0 : wr.cell? ⟨w.heap.size, 0, none⟩ = some (.int .u8 k) := cell_block (hold _ (by omega) (by omega)) HC23.out.1
        have F14 : wr.cell? ⟨w.heap.size, 14, none⟩ = some (.slice A.aa l.length A.ac) := cell_block (hold _ (by omega) (by omega)) (by obtain ⟨_, _, _, _, _, _, _, _, _, _, _, _, _, _, q14⟩ := HC23.out; exact q14)
        by_cases hlt : i < l.length
        · obtain ⟨SR, hSR⟩ : ∃ SR : Nat → Prop, SR = fun q => S q ∨ (w.heap.size ≤ q ∧ q < wr.heap.size) := ⟨_, rfl⟩
          obtain ⟨b, o, X, ea, hSb, hcX, hkX⟩ := elemA HROW.out hlt
          have hwr : Below w.heap.size w wr := hBE
          have hagr : ∀ q, q < w.heap.size → wr.heap[q]? = w.heap[q]? := fun q hq => hwr.block q hq
          have hup : ∀ (z : TT) (Z : TA), TOkA S w z Z → TOkA SR wr z Z := fun z Z h => h.step hwr.size fun q g1 g2 => ⟨by rw [hSR]; rintro (g | g); exact g2 g; omega, hagr q g1⟩
          have HXC := Lib.hid (hcX.keep (w' := wr) (fun oo u hu => cell_block (hagr _ (lt_of_cell hcX.1)) hu))
          have HXK := Lib.hid (hup _ _ hkX); have HSK := Lib.hid (hup _ _ HOK'.out)
          have HSC := Lib.hid (TCells.block (hold w0.heap.size (by omega) (by omega)) HC3.out)
          have hsl : ∀ q, SR q → q < wr.heap.size := fun q hq => by
            rw [hSR] at hq
            rcases hq with h | h
            · have := HS.out q h; have := hwr.size; omega
            · omega
          have hsr : ∀ q, OwnS S' a q → SR q := fun q hq => by
            rw [hSR]
            rcases hq with h | h
            · rw [hS'] at h
              rcases h with h | h | h
              · exact .inl h
              · exact .inr ⟨by omega, by omega⟩
              · exact .inr ⟨by omega, by omega⟩
            · exact .inr ⟨by have := hG.new q h; omega, hG.blk q h⟩
          have hne : ∀ b', a = some ⟨b', 0, none⟩ → w2.heap.size ≠ b' := fun b' e => by have := hG.new b' e; omega
          have HSL := Lib.hid hsl; have HSR := Lib.hid hsr; have HNE := Lib.hid hne; have HI := Lib.hid hlt
          have HBV := Lib.hid (fun W (h : Below wr.drew.heap.size wr.drew W) => (Below.refl _ wr).drew.trans h)
          have HA14 : Hid (wr.cell? ⟨w.heap.size, 14, none⟩ = some (.slice (some ⟨b, o, none⟩) l.length A.ac)) := Lib.hid (by rw [← ea]; exact F14)
          have H14 : Hid (wr.cell? ⟨w2.heap.size, 14, none⟩ = some (.slice a i c)) := Lib.hid (by obtain ⟨_, _, _, _, _, _, _, _, _, _, _, _, _, _, q14⟩ := hbo; rw [← hLi]; simpa [TT.args] using q14)
          have HRB := Lib.hid hrb; have HG := Lib.hid hG; have HBO := Lib.hid hbo; have HLI := Lib.hid hLi; have HMAP := Lib.hid hmapL; have HOLD := Lib.hid hold; have HBR := Lib.hid hs3r; have HBE := Lib.hid hBE
          have HG12 : Hid (decide ((i : Int) < l.length) = true ∧ decide (i < l.length) = true) := Lib.hid ⟨decide_eq_true (by omega), decide_eq_true hlt⟩
          have hi' : i < l'.length := by have := HLL.out; omega
          have hgi := HGET.out i hlt hi'
          have g1 := HG12.out.1
          have g2 := HG12.out.2
          clear hrb hG hbo hmapL hold hsl hsr hne hup hagr hwr hcX hkX ea hSb hLi
          by_cases hk10 : k = 10
          · have kb : (k == 10) = true := by simp [hk10]
            by_cases hi1e : i = 1
            · as_aux_lemma =>
              have ib : ((i : Int) == 1) = true := by simp [hi1e]
              have HCUR := Lib.hid hi1e
              obtain ⟨U, hU⟩ : ∃ U, U = l[i] := ⟨_, rfl⟩
              have HEL := Lib.hid hU
              have HUL : Hid (∀ h : i < l'.length, l'[i] = U) := Lib.hid fun h => (HGET.out i hlt h).trans ((if_pos ⟨hk10, hi1e⟩).trans HEL.out.symm)
              clear hU hgi hk10 hi1e
              go_wp2_with fail
              try simp only [List.append_eq, List.cons_append, List.nil_append]
              refine wp_region_partW [] (kindT [(27, .fixed (.pointer (some ⟨w2.heap.size, 14, none⟩))), (28, .fixed (.slice a i c)), (29, .fixed (.pointer (some ⟨w.heap.size, 14, none⟩))), (30, .fixed (.slice (some ⟨b, o, none⟩) l.length A.ac)), (31, .fixed (.int .i64 i)), (32, .fixed (.pointer (some ⟨b, o + i * 15, none⟩))), (33, .fixed (TT.val l[i] X)), (34, .prop (fun x W => ∃ B Y, x = .slice (some ⟨B, 0, none⟩) 1 1 ∧ TCells W B 0 U Y ∧ TOkA SR W U Y) (fun _ _ _ ⟨B, Y, e, hc, hk⟩ hb => ⟨B, Y, e, hc.below hb, hk.below hb⟩))]) 8 50 (by kernel_rfl) (by kernel_rfl) (by rfl) (by decide) (fun _ h => by cases h) (kindT_mono _) ?_ ?_
              · as_aux_lemma =>
                show ∀ o ∈ [(0, _), (1, _), (2, _), (3, _), (4, _), (5, _), (6, _), (7, _)], _
                refine (tfm ?_ (tfm ?_ (tfm ?_ (tfm ?_ (tfm ?_ (tfm ?_ (tfm ?_ (tfm ?_ tfmnil))))))))
                · intro r W hc hf hs hd hB
                  have hBV := HBV.out W hB
                  refine want_n rfl ?_
                  have e5 : r (.tmp 5) = .pointer (some ⟨w2.heap.size, 0, none⟩) := hs 5 (by kernel_rfl)
                  exact st_value (v := .pointer (some ⟨w2.heap.size, 14, none⟩)) rfl (by decide) (by go_simp) rfl
                · intro r W hc hf hs hd hB
                  have hBV := HBV.out W hB
                  refine want_n rfl ?_
                  have e27 : r (.tmp 27) = .pointer (some ⟨w2.heap.size, 14, none⟩) := hd 27 (by kernel_rfl)
                  have g := cell_stays hBV H14.out
                  exact st_value (v := .slice a i c) rfl (by decide) (by go_simp) rfl
                · intro r W hc hf hs hd hB
                  have hBV := HBV.out W hB
                  refine want_n rfl ?_
                  have e2 : r (.tmp 2) = .pointer (some ⟨w.heap.size, 0, none⟩) := hs 2 (by kernel_rfl)
                  exact st_value (v := .pointer (some ⟨w.heap.size, 14, none⟩)) rfl (by decide) (by go_simp) rfl
                · intro r W hc hf hs hd hB
                  have hBV := HBV.out W hB
                  refine want_n rfl ?_
                  have e29 : r (.tmp 29) = .pointer (some ⟨w.heap.size, 14, none⟩) := hd 29 (by kernel_rfl)
                  have g := cell_stays hBV HA14.out
                  exact st_value (v := .slice (some ⟨b, o, none⟩) l.length A.ac) rfl (by decide) (by go_simp) rfl
                · intro r W hc hf hs hd hB
                  have hBV := HBV.out W hB
                  refine want_n rfl ?_
                  have e6 : r (.tmp 6) = .int .i64 i := hs 6 (by kernel_rfl)
                  exact st_value (v := .int .i64 i) rfl (by decide) (by go_simp) rfl
                · intro r W hc hf hs hd hB
                  have hBV := HBV.out W hB
                  refine want_n rfl ?_
                  have e30 : r (.tmp 30) = .slice (some ⟨b, o, none⟩) l.length A.ac := hd 30 (by kernel_rfl)
                  have e31 : r (.tmp 31) = .int .i64 i := hd 31 (by kernel_rfl)
                  have g1 := HG12.out.1
                  have g2 := HG12.out.2
                  exact st_value (v := .pointer (some ⟨b, o + i * 15, none⟩)) rfl (by decide) (by go_simp) rfl
                · intro r W hc hf hs hd hB
                  have hBV := HBV.out W hB
                  refine want_n rfl ?_
                  have e32 : r (.tmp 32) = .pointer (some ⟨b, o + i * 15, none⟩) := hd 32 (by kernel_rfl)
                  exact st_value (v := TT.val l[i] X) rfl (by decide) (run_load15 (HXC.out.below hBV) rfl e32) rfl
                · intro r W hc hf hs hd hB
                  have hBV := HBV.out W hB
                  refine want_n rfl ?_
                  have e33 : r (.tmp 33) = TT.val l[i] X := hd 33 (by kernel_rfl)
                  obtain ⟨Y, hY, kY⟩ : ∃ Y, TT.val l[i] X = U.val Y ∧ TOkA SR W U Y := ⟨X, by rw [HEL.out], by rw [HEL.out]; exact HXK.out.below hBV⟩
                  rw [hY] at e33
                  obtain ⟨w2', hw2', m2', s2', hc2', _⟩ := row1_new W U Y
                  exact st_new (v := .slice (some ⟨W.heap.size, 0, none⟩) 1 1) (w' := w2') rfl (by decide) (run_row1 rfl e33 hw2') m2' ⟨_, Y, rfl, hc2', kY.below m2'⟩
              intro f w5 fuel hfuel hfd _ hB'
              have z1 : f 28 = .slice a i c := hfd 28 (of_decide_eq_true (by kernel_rfl))
              have z2 : ∃ B Y, f 34 = .slice (some ⟨B, 0, none⟩) 1 1 ∧ TCells w5 B 0 U Y ∧ TOkA SR w5 U Y := hfd 34 (of_decide_eq_true (by kernel_rfl))
              obtain ⟨B, Y, z2, hcY, hkY⟩ := z2
              have hB1 := HBV.out w5 hB'
              have hli : L.length = i := HLI.out
              have hg5 := HG.out.below hB1
              have hbo5 := HBO.out.below hB1
              have hkY' : TOkA (OwnS S' a) w5 U Y := hkY.step (Nat.le_refl _) fun q h1 h2 => ⟨fun h => h2 (HSR.out q h), rfl⟩
              obtain ⟨a', c', w6, hap, hg6, hb6, ho6⟩ := hg5.append (Nat.le_trans HBR.out hB1.size) hcY hkY' (by omega)
              rw [hli] at hap
              obtain ⟨w7, hw7, hk7, hs7, hb7, h7, _, hr7⟩ := out_set (w := w6) (a' := a') (n := i + 1) (c' := c') (bo := w2.heap.size) (TCells.block (ho6 _ (lt_of_cell hbo5.1) (fun b' e => HNE.out b' e)).1 hbo5)
              have hg7 := hg6.other (bo := w2.heap.size) HSB.out.1 HBB.out hk7 hs7
              have HST : Hid (w6.cell? ⟨w2.heap.size, 14, none⟩ = some (.slice a i c) ∧ w6.frozen? ⟨w2.heap.size, 14, none⟩ = false) := Lib.hid ⟨cell_block (ho6 _ (lt_of_cell hbo5.1) (fun b' e => HNE.out b' e)).1 (cell_stays hB1 H14.out), (row_block (ho6 _ (lt_of_cell hbo5.1) (fun b' e => HNE.out b' e)).1 (HRB.out.below (Nat.lt_of_lt_of_le HBB.out HBR.out) hB1)).frozen 14⟩
              have hrb7 := hr7 47 15 (row_block (ho6 _ (lt_of_cell hbo5.1) (fun b' e => HNE.out b' e)).1 (HRB.out.below (Nat.lt_of_lt_of_le HBB.out HBR.out) hB1))
              have HAP := Lib.hid hap; have HW7 := Lib.hid hw7; clear hw7
              have hold7 : ∀ q, q < w3.heap.size → q ≠ w2.heap.size → w7.heap[q]? = w3.heap[q]? := fun q h1 h2 => (hk7 q h2).trans ((hb6.block q h1).trans ((hB1.block q (Nat.lt_of_lt_of_le h1 HBR.out)).trans (HOLD.out q h1 h2)))
              have hbel : Below w.heap.size w wr → Below w.heap.size w w7 := fun h => hb7 _ _ HLO.out ((h.trans (hB1.mono h.size)).trans (hb6.mono (by have := HLO.out; have := HBB.out; omega)))
              have hsz7 : w3.heap.size ≤ w7.heap.size := by rw [hs7]; exact Nat.le_trans (Nat.le_trans HBR.out hB1.size) hb6.size
              have hout7 := h7 (TT.mk k v vs lo hi0 ws p ((L ++ [(U, Y)]).map (·.1))) { A with aa := a', ac := c' } rfl rfl rfl rfl rfl rfl rfl rfl (by simp [TT.args, hli])
              have hmap : (L ++ [(U, Y)]).map (·.1) = l'.take (i + 1) := by
                have hi' : i < l'.length := by have := HLL.out; have := HI.out; omega
                rw [List.map_append, HMAP.out, List.take_add_one, List.getElem?_eq_getElem hi']
                simp [HUL.out hi']
              have hlen7 : (L ++ [(U, Y)]).length = i + 1 := by simp [hli]
              have HRES := Lib.hid (And.intro hg7 (And.intro hout7 (And.intro hold7 (And.intro hbel (And.intro hsz7 (And.intro hmap (And.intro hlen7 hrb7)))))))
              have hfuel' : 3 ≤ fuel := hfuel
              obtain ⟨fuel, rfl⟩ : ∃ k, fuel = k + 3 := ⟨fuel - 3, by omega⟩
              rw [show dstsTo 8 _ = [27, 28, 29, 30, 31, 32, 33, 34] from by kernel_rfl]
              simp only [fill, List.setIfInBounds_toArray, List.set_cons_succ, List.set_cons_zero, z1, z2]
              clear z1 z2 hfd hfuel hfuel' hB' hB1 hg5 hbo5 hkY' hcY hkY hap hg6 hb6 ho6 hk7 hs7 hb7 h7 hg7 hold7 hbel hsz7 hout7 hmap hrb7
              refine wpAny_next (i := 8) (by kernel_rfl) (by rfl) rfl (wp_append_run (by rfl) (by rfl) (by rfl) HAP.out ?_)
              refine wpAny_next (i := 9) (by kernel_rfl) (by rfl) rfl (wp_val (v := .pointer (some ⟨w2.heap.size, 14, none⟩)) (w' := w6) (by go_simp) ?_)
              refine wpAny_next (i := 10) (by kernel_rfl) (by rfl) rfl (wp_skip (w' := w7) (by have h := HW7.out; have h1 := HST.out.1; have h2 := HST.out.2; go_simp) rfl ?_)
              refine wpAny_done (by kernel_rfl) ?_ _
              clear HAP
              go_wp2_with fail
              go_roundw
              case rel => exact ⟨i + 1, L ++ [(U, Y)], a', c', by go_num, by omega, hlen7, HRES.out.2.2.2.2.2.1, HRES.out.1, HRES.out.2.1, HRES.out.2.2.1, HRES.out.2.2.2.1 HBE.out, HRES.out.2.2.2.2.1, HRES.out.2.2.2.2.2.2.2⟩
              case measure => simp [intOf]; omega
            · as_aux_lemma =>
              have ib : ((i : Int) == 1) = false := by simpa using (by omega : ¬ (i : Int) = 1)
              have hno : ¬ (k = 10 ∧ i = 1) := fun h => hi1e h.2
              clear hk10 hi1e
              obtain ⟨U, hU⟩ : ∃ U, U = l[i].put s := ⟨_, rfl⟩
              have HEL := Lib.hid hU
              have HUL : Hid (∀ h : i < l'.length, l'[i] = U) := Lib.hid fun h => (HGET.out i hlt h).trans ((if_neg hno).trans HEL.out.symm)
              clear hU hgi hno
              go_wp2_with fail
              try simp only [List.append_eq, List.cons_append, List.nil_append]
              refine wp_region_partW [] (kindT [(37, .fixed (.pointer (some ⟨w2.heap.size, 14, none⟩))), (38, .fixed (.slice a i c)), (39, .fixed (.pointer (some ⟨w.heap.size, 14, none⟩))), (40, .fixed (.slice (some ⟨b, o, none⟩) l.length A.ac)), (41, .fixed (.int .i64 i)), (42, .fixed (.pointer (some ⟨b, o + i * 15, none⟩))), (43, .fixed (TT.val l[i] X)), (44, .fixed (TT.val s A')), (45, .prop (fun x W => TInA SR W U x) (fun _ _ _ h hb => h.below hb)), (46, .prop (fun x W => ∃ B Y, x = .slice (some ⟨B, 0, none⟩) 1 1 ∧ TCells W B 0 U Y ∧ TOkA SR W U Y) (fun _ _ _ ⟨B, Y, e, hc, hk⟩ hb => ⟨B, Y, e, hc.below hb, hk.below hb⟩))]) 10 50 (by kernel_rfl) (by kernel_rfl) (by rfl) (by decide) (fun _ h => by cases h) (kindT_mono _) ?_ ?_
              · as_aux_lemma =>
                show ∀ o ∈ [(0, _), (1, _), (2, _), (3, _), (4, _), (5, _), (6, _), (7, _), (8, _), (9, _)], _
                refine (tfm ?_ (tfm ?_ (tfm ?_ (tfm ?_ (tfm ?_ (tfm ?_ (tfm ?_ (tfm ?_ (tfm ?_ (tfm ?_ tfmnil))))))))))
                · intro r W hc hf hs hd hB
                  have hBV := HBV.out W hB
                  refine want_n rfl ?_
                  have e5 : r (.tmp 5) = .pointer (some ⟨w2.heap.size, 0, none⟩) := hs 5 (by kernel_rfl)
                  exact st_value (v := .pointer (some ⟨w2.heap.size, 14, none⟩)) rfl (by decide) (by go_simp) rfl
                · intro r W hc hf hs hd hB
                  have hBV := HBV.out W hB
                  refine want_n rfl ?_
                  have e37 : r (.tmp 37) = .pointer (some ⟨w2.heap.size, 14, none⟩) := hd 37 (by kernel_rfl)
                  have g := cell_stays hBV H14.out
                  exact st_value (v := .slice a i c) rfl (by decide) (by go_simp) rfl
                · intro r W hc hf hs hd hB
                  have hBV := HBV.out W hB
                  refine want_n rfl ?_
                  have e2 : r (.tmp 2) = .pointer (some ⟨w.heap.size, 0, none⟩) := hs 2 (by kernel_rfl)
                  exact st_value (v := .pointer (some ⟨w.heap.size, 14, none⟩)) rfl (by decide) (by go_simp) rfl
                · intro r W hc hf hs hd hB
                  have hBV := HBV.out W hB
                  refine want_n rfl ?_
                  have e39 : r (.tmp 39) = .pointer (some ⟨w.heap.size, 14, none⟩) := hd 39 (by kernel_rfl)
                  have g := cell_stays hBV HA14.out
                  exact st_value (v := .slice (some ⟨b, o, none⟩) l.length A.ac) rfl (by decide) (by go_simp) rfl
                · intro r W hc hf hs hd hB
                  have hBV := HBV.out W hB
                  refine want_n rfl ?_
                  have e6 : r (.tmp 6) = .int .i64 i := hs 6 (by kernel_rfl)
                  exact st_value (v := .int .i64 i) rfl (by decide) (by go_simp) rfl
                · intro r W hc hf hs hd hB
                  have hBV := HBV.out W hB
                  refine want_n rfl ?_
                  have e40 : r (.tmp 40) = .slice (some ⟨b, o, none⟩) l.length A.ac := hd 40 (by kernel_rfl)
                  have e41 : r (.tmp 41) = .int .i64 i := hd 41 (by kernel_rfl)
                  have g1 := HG12.out.1
                  have g2 := HG12.out.2
                  exact st_value (v := .pointer (some ⟨b, o + i * 15, none⟩)) rfl (by decide) (by go_simp) rfl
                · intro r W hc hf hs hd hB
                  have hBV := HBV.out W hB
                  refine want_n rfl ?_
                  have e42 : r (.tmp 42) = .pointer (some ⟨b, o + i * 15, none⟩) := hd 42 (by kernel_rfl)
                  exact st_value (v := TT.val l[i] X) rfl (by decide) (run_load15 (HXC.out.below hBV) rfl e42) rfl
                · intro r W hc hf hs hd hB
                  have hBV := HBV.out W hB
                  refine want_n rfl ?_
                  have e3 : r (.tmp 3) = .pointer (some ⟨w0.heap.size, 0, none⟩) := hs 3 (by kernel_rfl)
                  exact st_value (v := TT.val s A') rfl (by decide) (run_load15 (HSC.out.below hBV) rfl e3) rfl
                · intro r W hc hf hs hd hB
                  have hBV := HBV.out W hB
                  refine want_n rfl ?_
                  have e43 : r (.tmp 43) = TT.val l[i] X := hd 43 (by kernel_rfl)
                  have e44 : r (.tmp 44) = TT.val s A' := hd 44 (by kernel_rfl)
                  exact st_call (f := 126) (args := #[TT.val l[i] X, TT.val s A']) rfl (by decide) (by go_simp) (HEL.out ▸ IH.out l[i] s _ _ W SR (HCS.out i HI.out) ⟨X, rfl, HXK.out.below hBV⟩ ⟨A', rfl, HSK.out.below hBV⟩ (fun q hq => Nat.lt_of_lt_of_le (HSL.out q hq) hBV.size))
                · intro r W hc hf hs hd hB
                  have hBV := HBV.out W hB
                  refine want_n rfl ?_
                  have h45 : TInA SR W U (r (.tmp 45)) := hd 45 (by kernel_rfl)
                  obtain ⟨Y, e45, kY⟩ := h45
                  obtain ⟨w2', hw2', m2', s2', hc2', _⟩ := row1_new W U Y
                  exact st_new (v := .slice (some ⟨W.heap.size, 0, none⟩) 1 1) (w' := w2') rfl (by decide) (run_row1 rfl e45 hw2') m2' ⟨_, Y, rfl, hc2', kY.below m2'⟩
              intro f w5 fuel hfuel hfd _ hB'
              have z1 : f 38 = .slice a i c := hfd 38 (of_decide_eq_true (by kernel_rfl))
              have z2 : ∃ B Y, f 46 = .slice (some ⟨B, 0, none⟩) 1 1 ∧ TCells w5 B 0 U Y ∧ TOkA SR w5 U Y := hfd 46 (of_decide_eq_true (by kernel_rfl))
              obtain ⟨B, Y, z2, hcY, hkY⟩ := z2
              have hB1 := HBV.out w5 hB'
              have hli : L.length = i := HLI.out
              have hg5 := HG.out.below hB1
              have hbo5 := HBO.out.below hB1
              have hkY' : TOkA (OwnS S' a) w5 U Y := hkY.step (Nat.le_refl _) fun q h1 h2 => ⟨fun h => h2 (HSR.out q h), rfl⟩
              obtain ⟨a', c', w6, hap, hg6, hb6, ho6⟩ := hg5.append (Nat.le_trans HBR.out hB1.size) hcY hkY' (by omega)
              rw [hli] at hap
              obtain ⟨w7, hw7, hk7, hs7, hb7, h7, _, hr7⟩ := out_set (w := w6) (a' := a') (n := i + 1) (c' := c') (bo := w2.heap.size) (TCells.block (ho6 _ (lt_of_cell hbo5.1) (fun b' e => HNE.out b' e)).1 hbo5)
              have hg7 := hg6.other (bo := w2.heap.size) HSB.out.1 HBB.out hk7 hs7
              have HST : Hid (w6.cell? ⟨w2.heap.size, 14, none⟩ = some (.slice a i c) ∧ w6.frozen? ⟨w2.heap.size, 14, none⟩ = false) := Lib.hid ⟨cell_block (ho6 _ (lt_of_cell hbo5.1) (fun b' e => HNE.out b' e)).1 (cell_stays hB1 H14.out), (row_block (ho6 _ (lt_of_cell hbo5.1) (fun b' e => HNE.out b' e)).1 (HRB.out.below (Nat.lt_of_lt_of_le HBB.out HBR.out) hB1)).frozen 14⟩
              have hrb7 := hr7 47 15 (row_block (ho6 _ (lt_of_cell hbo5.1) (fun b' e => HNE.out b' e)).1 (HRB.out.below (Nat.lt_of_lt_of_le HBB.out HBR.out) hB1))
              have HAP := Lib.hid hap; have HW7 := Lib.hid hw7; clear hw7
              have hold7 : ∀ q, q < w3.heap.size → q ≠ w2.heap.size → w7.heap[q]? = w3.heap[q]? := fun q h1 h2 => (hk7 q h2).trans ((hb6.block q h1).trans ((hB1.block q (Nat.lt_of_lt_of_le h1 HBR.out)).trans (HOLD.out q h1 h2)))
              have hbel : Below w.heap.size w wr → Below w.heap.size w w7 := fun h => hb7 _ _ HLO.out ((h.trans (hB1.mono h.size)).trans (hb6.mono (by have := HLO.out; have := HBB.out; omega)))
              have hsz7 : w3.heap.size ≤ w7.heap.size := by rw [hs7]; exact Nat.le_trans (Nat.le_trans HBR.out hB1.size) hb6.size
              have hout7 := h7 (TT.mk k v vs lo hi0 ws p ((L ++ [(U, Y)]).map (·.1))) { A with aa := a', ac := c' } rfl rfl rfl rfl rfl rfl rfl rfl (by simp [TT.args, hli])
              have hmap : (L ++ [(U, Y)]).map (·.1) = l'.take (i + 1) := by
                have hi' : i < l'.length := by have := HLL.out; have := HI.out; omega
                rw [List.map_append, HMAP.out, List.take_add_one, List.getElem?_eq_getElem hi']
                simp [HUL.out hi']
              have hlen7 : (L ++ [(U, Y)]).length = i + 1 := by simp [hli]
              have HRES := Lib.hid (And.intro hg7 (And.intro hout7 (And.intro hold7 (And.intro hbel (And.intro hsz7 (And.intro hmap (And.intro hlen7 hrb7)))))))
              have hfuel' : 3 ≤ fuel := hfuel
              obtain ⟨fuel, rfl⟩ : ∃ k, fuel = k + 3 := ⟨fuel - 3, by omega⟩
              rw [show dstsTo 10 _ = [37, 38, 39, 40, 41, 42, 43, 44, 45, 46] from by kernel_rfl]
              simp only [fill, List.setIfInBounds_toArray, List.set_cons_succ, List.set_cons_zero, z1, z2]
              clear z1 z2 hfd hfuel hfuel' hB' hB1 hg5 hbo5 hkY' hcY hkY hap hg6 hb6 ho6 hk7 hs7 hb7 h7 hg7 hold7 hbel hsz7 hout7 hmap hrb7
              refine wpAny_next (i := 10) (by kernel_rfl) (by rfl) rfl (wp_append_run (by rfl) (by rfl) (by rfl) HAP.out ?_)
              refine wpAny_next (i := 11) (by kernel_rfl) (by rfl) rfl (wp_val (v := .pointer (some ⟨w2.heap.size, 14, none⟩)) (w' := w6) (by go_simp) ?_)
              refine wpAny_next (i := 12) (by kernel_rfl) (by rfl) rfl (wp_skip (w' := w7) (by have h := HW7.out; have h1 := HST.out.1; have h2 := HST.out.2; go_simp) rfl ?_)
              refine wpAny_done (by kernel_rfl) ?_ _
              clear HAP
              go_wp2_with fail
              go_roundw
              case rel => exact ⟨i + 1, L ++ [(U, Y)], a', c', by go_num, by omega, hlen7, HRES.out.2.2.2.2.2.1, HRES.out.1, HRES.out.2.1, HRES.out.2.2.1, HRES.out.2.2.2.1 HBE.out, HRES.out.2.2.2.2.1, HRES.out.2.2.2.2.2.2.2⟩
              case measure => simp [intOf]; omega
          · as_aux_lemma =>
            have kb : (k == 10) = false := by simpa using hk10
            have hno : ¬ (k = 10 ∧ i = 1) := fun h => hk10 h.1
            clear hk10
            obtain ⟨U, hU⟩ : ∃ U, U = l[i].put s := ⟨_, rfl⟩
            have HEL := Lib.hid hU
            have HUL : Hid (∀ h : i < l'.length, l'[i] = U) := Lib.hid fun h => (HGET.out i hlt h).trans ((if_neg hno).trans HEL.out.symm)
            clear hU hgi hno
            go_wp2_with fail
            try simp only [List.append_eq, List.cons_append, List.nil_append]
            refine wp_region_partW [] (kindT [(37, .fixed (.pointer (some ⟨w2.heap.size, 14, none⟩))), (38, .fixed (.slice a i c)), (39, .fixed (.pointer (some ⟨w.heap.size, 14, none⟩))), (40, .fixed (.slice (some ⟨b, o, none⟩) l.length A.ac)), (41, .fixed (.int .i64 i)), (42, .fixed (.pointer (some ⟨b, o + i * 15, none⟩))), (43, .fixed (TT.val l[i] X)), (44, .fixed (TT.val s A')), (45, .prop (fun x W => TInA SR W U x) (fun _ _ _ h hb => h.below hb)), (46, .prop (fun x W => ∃ B Y, x = .slice (some ⟨B, 0, none⟩) 1 1 ∧ TCells W B 0 U Y ∧ TOkA SR W U Y) (fun _ _ _ ⟨B, Y, e, hc, hk⟩ hb => ⟨B, Y, e, hc.below hb, hk.below hb⟩))]) 10 50 (by kernel_rfl) (by kernel_rfl) (by rfl) (by decide) (fun _ h => by cases h) (kindT_mono _) ?_ ?_
            · as_aux_lemma =>
              show ∀ o ∈ [(0, _), (1, _), (2, _), (3, _), (4, _), (5, _), (6, _), (7, _), (8, _), (9, _)], _
              refine (tfm ?_ (tfm ?_ (tfm ?_ (tfm ?_ (tfm ?_ (tfm ?_ (tfm ?_ (tfm ?_ (tfm ?_ (tfm ?_ tfmnil))))))))))
              · intro r W hc hf hs hd hB
                have hBV := HBV.out W hB
                refine want_n rfl ?_
                have e5 : r (.tmp 5) = .pointer (some ⟨w2.heap.size, 0, none⟩) := hs 5 (by kernel_rfl)
                exact st_value (v := .pointer (some ⟨w2.heap.size, 14, none⟩)) rfl (by decide) (by go_simp) rfl
              · intro r W hc hf hs hd hB
                have hBV := HBV.out W hB
                refine want_n rfl ?_
                have e37 : r (.tmp 37) = .pointer (some ⟨w2.heap.size, 14, none⟩) := hd 37 (by kernel_rfl)
                have g := cell_stays hBV H14.out
                exact st_value (v := .slice a i c) rfl (by decide) (by go_simp) rfl
              · intro r W hc hf hs hd hB
                have hBV := HBV.out W hB
                refine want_n rfl ?_
                have e2 : r (.tmp 2) = .pointer (some ⟨w.heap.size, 0, none⟩) := hs 2 (by kernel_rfl)
                exact st_value (v := .pointer (some ⟨w.heap.size, 14, none⟩)) rfl (by decide) (by go_simp) rfl
              · intro r W hc hf hs hd hB
                have hBV := HBV.out W hB
                refine want_n rfl ?_
                have e39 : r (.tmp 39) = .pointer (some ⟨w.heap.size, 14, none⟩) := hd 39 (by kernel_rfl)
                have g := cell_stays hBV HA14.out
                exact st_value (v := .slice (some ⟨b, o, none⟩) l.length A.ac) rfl (by decide) (by go_simp) rfl
              · intro r W hc hf hs hd hB
                have hBV := HBV.out W hB
                refine want_n rfl ?_
                have e6 : r (.tmp 6) = .int .i64 i := hs 6 (by kernel_rfl)
                exact st_value (v := .int .i64 i) rfl (by decide) (by go_simp) rfl
              · intro r W hc hf hs hd hB
                have hBV := HBV.out W hB
                refine want_n rfl ?_
                have e40 : r (.tmp 40) = .slice (some ⟨b, o, none⟩) l.length A.ac := hd 40 (by kernel_rfl)
                have e41 : r (.tmp 41) = .int .i64 i := hd 41 (by kernel_rfl)
                have g1 := HG12.out.1
                have g2 := HG12.out.2
                exact st_value (v := .pointer (some ⟨b, o + i * 15, none⟩)) rfl (by decide) (by go_simp) rfl
              · intro r W hc hf hs hd hB
                have hBV := HBV.out W hB
                refine want_n rfl ?_
                have e42 : r (.tmp 42) = .pointer (some ⟨b, o + i * 15, none⟩) := hd 42 (by kernel_rfl)
                exact st_value (v := TT.val l[i] X) rfl (by decide) (run_load15 (HXC.out.below hBV) rfl e42) rfl
              · intro r W hc hf hs hd hB
                have hBV := HBV.out W hB
                refine want_n rfl ?_
                have e3 : r (.tmp 3) = .pointer (some ⟨w0.heap.size, 0, none⟩) := hs 3 (by kernel_rfl)
                exact st_value (v := TT.val s A') rfl (by decide) (run_load15 (HSC.out.below hBV) rfl e3) rfl
              · intro r W hc hf hs hd hB
                have hBV := HBV.out W hB
                refine want_n rfl ?_
                have e43 : r (.tmp 43) = TT.val l[i] X := hd 43 (by kernel_rfl)
                have e44 : r (.tmp 44) = TT.val s A' := hd 44 (by kernel_rfl)
                exact st_call (f := 126) (args := #[TT.val l[i] X, TT.val s A']) rfl (by decide) (by go_simp) (HEL.out ▸ IH.out l[i] s _ _ W SR (HCS.out i HI.out) ⟨X, rfl, HXK.out.below hBV⟩ ⟨A', rfl, HSK.out.below hBV⟩ (fun q hq => Nat.lt_of_lt_of_le (HSL.out q hq) hBV.size))
              · intro r W hc hf hs hd hB
                have hBV := HBV.out W hB
                refine want_n rfl ?_
                have h45 : TInA SR W U (r (.tmp 45)) := hd 45 (by kernel_rfl)
                obtain ⟨Y, e45, kY⟩ := h45
                obtain ⟨w2', hw2', m2', s2', hc2', _⟩ := row1_new W U Y
                exact st_new (v := .slice (some ⟨W.heap.size, 0, none⟩) 1 1) (w' := w2') rfl (by decide) (run_row1 rfl e45 hw2') m2' ⟨_, Y, rfl, hc2', kY.below m2'⟩
            intro f w5 fuel hfuel hfd _ hB'
            have z1 : f 38 = .slice a i c := hfd 38 (of_decide_eq_true (by kernel_rfl))
            have z2 : ∃ B Y, f 46 = .slice (some ⟨B, 0, none⟩) 1 1 ∧ TCells w5 B 0 U Y ∧ TOkA SR w5 U Y := hfd 46 (of_decide_eq_true (by kernel_rfl))
            obtain ⟨B, Y, z2, hcY, hkY⟩ := z2
            have hB1 := HBV.out w5 hB'
            have hli : L.length = i := HLI.out
            have hg5 := HG.out.below hB1
            have hbo5 := HBO.out.below hB1
            have hkY' : TOkA (OwnS S' a) w5 U Y := hkY.step (Nat.le_refl _) fun q h1 h2 => ⟨fun h => h2 (HSR.out q h), rfl⟩
            obtain ⟨a', c', w6, hap, hg6, hb6, ho6⟩ := hg5.append (Nat.le_trans HBR.out hB1.size) hcY hkY' (by omega)
            rw [hli] at hap
            obtain ⟨w7, hw7, hk7, hs7, hb7, h7, _, hr7⟩ := out_set (w := w6) (a' := a') (n := i + 1) (c' := c') (bo := w2.heap.size) (TCells.block (ho6 _ (lt_of_cell hbo5.1) (fun b' e => HNE.out b' e)).1 hbo5)
            have hg7 := hg6.other (bo := w2.heap.size) HSB.out.1 HBB.out hk7 hs7
            have HST : Hid (w6.cell? ⟨w2.heap.size, 14, none⟩ = some (.slice a i c) ∧ w6.frozen? ⟨w2.heap.size, 14, none⟩ = false) := Lib.hid ⟨cell_block (ho6 _ (lt_of_cell hbo5.1) (fun b' e => HNE.out b' e)).1 (cell_stays hB1 H14.out), (row_block (ho6 _ (lt_of_cell hbo5.1) (fun b' e => HNE.out b' e)).1 (HRB.out.below (Nat.lt_of_lt_of_le HBB.out HBR.out) hB1)).frozen 14⟩
            have hrb7 := hr7 47 15 (row_block (ho6 _ (lt_of_cell hbo5.1) (fun b' e => HNE.out b' e)).1 (HRB.out.below (Nat.lt_of_lt_of_le HBB.out HBR.out) hB1))
            have HAP := Lib.hid hap; have HW7 := Lib.hid hw7; clear hw7
            have hold7 : ∀ q, q < w3.heap.size → q ≠ w2.heap.size → w7.heap[q]? = w3.heap[q]? := fun q h1 h2 => (hk7 q h2).trans ((hb6.block q h1).trans ((hB1.block q (Nat.lt_of_lt_of_le h1 HBR.out)).trans (HOLD.out q h1 h2)))
            have hbel : Below w.heap.size w wr → Below w.heap.size w w7 := fun h => hb7 _ _ HLO.out ((h.trans (hB1.mono h.size)).trans (hb6.mono (by have := HLO.out; have := HBB.out; omega)))
            have hsz7 : w3.heap.size ≤ w7.heap.size := by rw [hs7]; exact Nat.le_trans (Nat.le_trans HBR.out hB1.size) hb6.size
            have hout7 := h7 (TT.mk k v vs lo hi0 ws p ((L ++ [(U, Y)]).map (·.1))) { A with aa := a', ac := c' } rfl rfl rfl rfl rfl rfl rfl rfl (by simp [TT.args, hli])
            have hmap : (L ++ [(U, Y)]).map (·.1) = l'.take (i + 1) := by
              have hi' : i < l'.length := by have := HLL.out; have := HI.out; omega
              rw [List.map_append, HMAP.out, List.take_add_one, List.getElem?_eq_getElem hi']
              simp [HUL.out hi']
            have hlen7 : (L ++ [(U, Y)]).length = i + 1 := by simp [hli]
            have HRES := Lib.hid (And.intro hg7 (And.intro hout7 (And.intro hold7 (And.intro hbel (And.intro hsz7 (And.intro hmap (And.intro hlen7 hrb7)))))))
            have hfuel' : 3 ≤ fuel := hfuel
            obtain ⟨fuel, rfl⟩ : ∃ k, fuel = k + 3 := ⟨fuel - 3, by omega⟩
            rw [show dstsTo 10 _ = [37, 38, 39, 40, 41, 42, 43, 44, 45, 46] from by kernel_rfl]
            simp only [fill, List.setIfInBounds_toArray, List.set_cons_succ, List.set_cons_zero, z1, z2]
            clear z1 z2 hfd hfuel hfuel' hB' hB1 hg5 hbo5 hkY' hcY hkY hap hg6 hb6 ho6 hk7 hs7 hb7 h7 hg7 hold7 hbel hsz7 hout7 hmap hrb7
            refine wpAny_next (i := 10) (by kernel_rfl) (by rfl) rfl (wp_append_run (by rfl) (by rfl) (by rfl) HAP.out ?_)
            refine wpAny_next (i := 11) (by kernel_rfl) (by rfl) rfl (wp_val (v := .pointer (some ⟨w2.heap.size, 14, none⟩)) (w' := w6) (by go_simp) ?_)
            refine wpAny_next (i := 12) (by kernel_rfl) (by rfl) rfl (wp_skip (w' := w7) (by have h := HW7.out; have h1 := HST.out.1; have h2 := HST.out.2; go_simp) rfl ?_)
            refine wpAny_done (by kernel_rfl) ?_ _
            clear HAP
            go_wp2_with fail
            go_roundw
            case rel => exact ⟨i + 1, L ++ [(U, Y)], a', c', by go_num, by omega, hlen7, HRES.out.2.2.2.2.2.1, HRES.out.1, HRES.out.2.1, HRES.out.2.2.1, HRES.out.2.2.2.1 HBE.out, HRES.out.2.2.2.2.1, HRES.out.2.2.2.2.2.2.2⟩
            case measure => simp [intOf]; omega
        · as_aux_lemma =>
          have hie : i = l.length := by omega
          subst hie
          have g1 : decide ((l.length : Int) < l.length) = false := decide_eq_false (by omega)
          have g2 : decide (l.length < l.length) = false := decide_eq_false (by omega)
          have hR : RowAt wr 47 w1.heap.size 15 := row_block (hold _ (by omega) (by omega)) HR43.out
          have HR := Lib.hid hR; have HBO := Lib.hid hbo; have HG := Lib.hid hG; have HBE := Lib.hid hBE
          have HML : Hid (L.map (·.1) = l') := Lib.hid (by rw [hmapL, List.take_of_length_le (by rw [HLL.out]; exact Nat.le_refl _)])
          clear hR hbo hG hBE hmapL hold F0
          go_wp2_with (first | refine wpList_load15 (by rfl) (by rfl) (by rfl) HBO.out ?_ | refine wpList_store15 (t := TT.mk k v vs lo hi0 ws p (L.map (·.1))) (A := { A with aa := a, ac := c }) (by rfl) (by rfl) (by rfl) (by rfl) (by rfl) HR.out (by decide) ?_)
          intro wE hcl hkE hsE hbl
          have hbe : Below w.heap.size w wE := hbl _ _ (by omega) HBE.out
          have hgE := HG.out.other (bo := w1.heap.size) HSB.out.2 (by omega) hkE hsE
          have hrowE := hgE.trow (S := S) (fun q h => by rw [hS']; exact .inl h) (fun q h => by have := HS.out q h; omega)
          rw [HML.out] at hrowE hcl
          have HPOST := Lib.hid (tok_args (c' := c) HOK.out hbe.size (fun q g1 g2 => ⟨g2, hbe.block q g1⟩) (by rw [HLL.out]; exact hlen) hrowE)
          have HBE2 := Lib.hid hbe
          clear hbl hbe hgE hrowE hkE hsE HG HR HBO
          go_wp2_with fail
          refine bodyPost_ret (v := TT.val (TT.mk k v vs lo hi0 ws p l') { A with aa := a, ac := c }) ?_ rfl ⟨_, rfl, by rw [HPL.out]; exact ⟨_, rfl, HPOST.out⟩, HBE2.out⟩
          exact results_cell Try.results126 rfl hcl
end Go.Proofs.Yteebbffecaeciaa
