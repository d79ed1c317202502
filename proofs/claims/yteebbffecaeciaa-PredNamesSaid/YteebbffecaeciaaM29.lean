/- Texts of this claim laid into one: UEach, UPut, TWhereM, TFlat, TGrowS. -/
import Derived.Test.YteebbffecaeciaaM28
import Derived.Test.YteebbffecaeciaaM13
/- unfold.each, walked: whatever is done to each argument. -/
namespace Go.Proofs.Yteebbffecaeciaa
open Go.RowKit

def zTs (n : Nat) : Array Value := madeCells (Value.agg #[.int .u8 0, .int .u8 0, .int .i64 0, .slice none 0 0, .slice none 0 0, .int .i64 0, .int .i64 0, .slice none 0 0, .int .u8 0, .int .u8 0, .int .i64 0, .slice none 0 0, .int .i64 0, .slice none 0 0, .slice none 0 0]).cells (n * 15)
theorem zTs_size (n : Nat) : (zTs n).size = n * 15 := size_madeCells _ _
theorem make_zTs (n : Nat) (h : n ≤ 651562446070) (w : World) : (Instr.makeSlice 45 (.int .i64 n) (.int .i64 n)).run Try.prog w = .ok (.slice (some ⟨w.heap.size, 0, none⟩) n n) (w.alloc (.cells (zTs n) 47)) := by
  obtain ⟨i0, hi, hz0, hz1, hz2⟩ := info_parts zeroT
  have := run_make (P := Try.prog) w 45 47 i0 _ Try.underlying45 hi hz0 .i64 .i64 n n (by omega) (by omega) (by rw [hz2]; omega) (by omega)
  rw [hz1] at this
  exact this
/-- what 'each' asks of the function that it is handed. -/
def EachDo (bl bh : Nat) (w : World) (S : Nat → Prop) (t : TT) (F : Nat) (cap : Array Value) (g : TT → TT) (Inv : Nat → World → Prop) : Prop :=
  ∀ i (hi : i < t.args.length), ¬ (t.kind = 10 ∧ i = 1) → ∀ (y : Value) (W : World) (S' : Nat → Prop), (∀ q, S q → S' q) → (∀ q, S' q → q < W.heap.size) → (∀ q, q < w.heap.size → S' q → S q) → w.heap.size ≤ W.heap.size →
    (∀ q, q < w.heap.size → (q < bl ∨ bh ≤ q) → W.heap[q]? = w.heap[q]?) → Inv i W → TInA S' W t.args[i] y →
    Calls Try.prog F (#[y] ++ cap) W fun e W' => ∃ z, e = .returned z ∧ TInA S' W' (g t.args[i]) z ∧ Only bl bh W W' ∧ Inv (i + 1) W'
theorem each_get (g : TT → TT) (k : Int) (l : List TT) {i : Nat} (h : i < l.length) (h' : i < (l.mapIdx fun i a => if k = 10 ∧ i = 1 then a else g a).length) : (l.mapIdx fun i a => if k = 10 ∧ i = 1 then a else g a)[i] = if k = 10 ∧ i = 1 then l[i] else g l[i] := by
  rw [List.getElem_mapIdx]
set_option maxRecDepth 100000 in
set_option maxHeartbeats 8000000 in
theorem each_any (bl bh : Nat) (t : TT) (x : Value) (w : World) (S : Nat → Prop) (F : Nat) (cap : Array Value) (g : TT → TT) (Inv : Nat → World → Prop)
    (hF : ∀ args W, (callFunc F args).run Try.prog W = .ok (.enter F args) W)
    (hx : TInA S w t x) (hS : ∀ q, S q → q < w.heap.size) (hlh : ∀ q, bl ≤ q → q < bh → S q) (hbh : bh ≤ w.heap.size)
    (hI0 : Inv 0 w) (hst : ∀ i W W', W.heap.size ≤ W'.heap.size → (∀ q, bl ≤ q → q < bh → W'.heap[q]? = W.heap[q]?) → Inv i W → Inv i W')
    (hskip : t.kind = 10 → ∀ W, Inv 1 W → Inv 2 W) (hdo : EachDo bl bh w S t F cap g Inv) :
    Calls Try.prog 79 #[x, .func (.func F) #[] cap] w fun e w' => ∃ z, e = .returned z ∧ TInA S w' (t.each g) z ∧ Only bl bh w w' ∧ Inv t.args.length w' := by
  obtain ⟨A, rfl, hok⟩ := hx
  obtain ⟨k, v, vs, lo, hi0, ws, p, l⟩ := t
  have hlen : l.length ≤ 651562446070 := hok.ok.parts.1.1
  have hrow : ∀ W, AgreeS S w W → TRow W l A.aa := fun W ha => (hok W ha).parts.2.2.2.2.2
  unfold EachDo at hdo
  simp only [TT.kind_mk, TT.args_mk] at hskip hdo ⊢
  obtain ⟨w0, hw0, m0, s0, hc2, R2⟩ := row1_new w (TT.mk k v vs lo hi0 ws p l) A
  obtain ⟨w1, hw1, m1, s1, R4, _⟩ := box15 w0 (.int .u8 0) (.int .u8 0) (.int .i64 0) (.slice none 0 0) (.slice none 0 0) (.int .i64 0) (.int .i64 0) (.slice none 0 0) (.int .u8 0) (.int .u8 0) (.int .i64 0) (.slice none 0 0) (.int .i64 0) (.slice none 0 0) (.slice none 0 0) 47
  obtain ⟨w2, hw2, m2, s2, R5⟩ : ∃ w2, w1.alloc (.cells (zTs l.length) 47) = w2 ∧ Below w1.heap.size w1 w2 ∧ w1.heap.size < w2.heap.size ∧ RowAt w2 47 w1.heap.size (l.length * 15) := ⟨_, rfl, Below.al _, by simp, by have := RowAt.new w1 (zTs l.length) 47; rwa [zTs_size] at this⟩
  have hmk := make_zTs l.length hlen
  have hc22 := (hc2.below m1).below m2
  have hB2 : Below w.heap.size w w2 := m0.trans ((m1.trans (m2.mono (Nat.le_of_lt s1))).mono (Nat.le_of_lt s0))
  have q14 : w1.cell? ⟨w.heap.size, 14, none⟩ = some (.slice A.aa l.length A.ac) := by obtain ⟨_, _, _, _, _, _, _, _, _, _, _, _, _, _, q14⟩ := hc2.below m1; exact q14
  have p14 : w2.cell? ⟨w.heap.size, 14, none⟩ = some (.slice A.aa l.length A.ac) := cell_stays m2 q14
  obtain ⟨aa, haa⟩ : ∃ aa, aa = A.aa := ⟨_, rfl⟩
  rw [← haa] at hrow q14 p14
  obtain ⟨l', hl'⟩ : ∃ l', l' = l.mapIdx fun i a => if k = 10 ∧ i = 1 then a else g a := ⟨_, rfl⟩
  have hll : l'.length = l.length := by rw [hl', List.length_mapIdx]
  have hget : ∀ (i : Nat) (h : i < l.length) (h' : i < l'.length), l'[i] = if k = 10 ∧ i = 1 then l[i] else g l[i] := fun i h h' => by subst hl'; exact each_get g k l h h'
  have HPL : Hid (TT.each g (TT.mk k v vs lo hi0 ws p l) = TT.mk k v vs lo hi0 ws p l') := Lib.hid (by rw [hl']; rfl)
  obtain ⟨S', hS'⟩ : ∃ S' : Nat → Prop, S' = fun q => S q ∨ (w.heap.size ≤ q ∧ q < w2.heap.size) := ⟨_, rfl⟩
  have hS'S : ∀ q, q < w.heap.size → S' q → S q := fun q h1 h2 => by rw [hS'] at h2; rcases h2 with h2 | h2; exact h2; omega
  have hSS' : ∀ q, S q → S' q := fun q h => by rw [hS']; exact .inl h
  have hS'l : ∀ q, S' q → q < w2.heap.size := fun q h => by rw [hS'] at h; rcases h with h | h; (have := hS q h; have := hB2.size; omega); exact h.2
  have hSB : S' w1.heap.size := by rw [hS']; exact .inr ⟨by omega, s2⟩
  have HSR : Hid (S' w.heap.size ∧ S' w0.heap.size) := Lib.hid (by rw [hS']; exact ⟨.inr ⟨by omega, by omega⟩, .inr ⟨by omega, by omega⟩⟩)
  have HOK := Lib.hid hok; have HROW := Lib.hid hrow; have HC2 := Lib.hid hc22; have HR4 := Lib.hid (R4.below s1 m2); have HR5 := Lib.hid R5; have HB2 := Lib.hid hB2; have HS := Lib.hid hS; have HR2 := Lib.hid ((R2.below s0 m1).below (by omega) m2)
  have HSZ := Lib.hid (And.intro s0 (And.intro s1 s2)); have HDO := Lib.hid hdo; have HST := Lib.hid hst; have HSK := Lib.hid hskip; have HLH := Lib.hid hlh; have HI0 := Lib.hid hI0; have HAA := Lib.hid haa
  have HGET := Lib.hid hget; have HLL := Lib.hid hll; have HS'S := Lib.hid hS'S; have HSS' := Lib.hid hSS'; have HS'L := Lib.hid hS'l; have HSB := Lib.hid hSB; have HBH := Lib.hid hbh
  clear hok hrow hc2 hc22 R2 R4 R5 hB2 m0 m1 m2 hS s0 s1 s2 hdo hst hskip hlh hI0 haa hget hll hS'S hSS' hS'l hSB hS' hl' hbh
  unfold TT.val
  simp only [TT.kind_mk, TT.v_mk, TT.vs_mk, TT.lo_mk, TT.hi_mk, TT.ws_mk, TT.p_mk, TT.args_mk] at hw0 ⊢
  have HF := Lib.hid hF; clear hF
  rw [← HAA.out] at hw0 ⊢
  go_enter Try.func79, Try.ntmps79
  go_wp2_with fail
  clear hmk q14 p14 hw0 hw1 hw2
  go_loopw [15] (fun x wr => ∃ i : Nat, x = .int .i64 i ∧ i ≤ l.length ∧ EachG bl bh S' l' w1.heap.size l.length w2 wr i ∧ Inv i wr) (fun x _ => l.length - (intOf x).toNat)
  case atStart => exact ⟨0, rfl, by omega, ⟨rfl, rfl, rfl, Nat.le_refl _, fun _ _ _ _ => rfl, HR5.out, fun j hj => absurd hj (Nat.not_lt_zero _)⟩, HST.out 0 w w2 HB2.out.size (fun q _ h2 => HB2.out.block q (by have := HBH.out; omega)) HI0.out⟩
  case round =>
    obtain ⟨i, rfl, hi, hG, hI⟩ := hrel
    have hsr := hG.size
    have hsz := HSZ.out
    have hbh := HBH.out
    have hold : ∀ q, q < w2.heap.size → q ≠ w1.heap.size → (q < bl ∨ bh ≤ q) → wr.heap[q]? = w2.heap[q]? := hG.same
    have hcw : TCells wr w.heap.size 0 (TT.mk k v vs lo hi0 ws p l) A := TCells.block (hold _ (by omega) (by omega) (by omega)) HC2.out
    by_cases hlt : i < l.length
    · have d1 : decide ((i : Int) < l.length) = true := decide_eq_true (by omega)
      have d2 : decide (i < l.length) = true := decide_eq_true hlt
      obtain ⟨b, o, X, ea, hSb, hcX, hkX⟩ := elemA HROW.out hlt
      subst ea
      have hbl : b < bl ∨ bh ≤ b := by
        by_cases h3 : b < bl
        · exact .inl h3
        · by_cases h4 : b < bh
          · exact absurd (HLH.out b (by omega) h4) hSb
          · exact .inr (by omega)
      have hbw : b < w.heap.size := lt_of_cell hcX.1
      have hbb : wr.heap[b]? = w.heap[b]? := (hold b (by omega) (by omega) hbl).trans (HB2.out.block b hbw)
      have hagr : ∀ q, q < w.heap.size → (q < bl ∨ bh ≤ q) → wr.heap[q]? = w.heap[q]? := fun q h1 h2 => (hold q (by omega) (by omega) h2).trans (HB2.out.block q h1)
      have hkX' : TOkA S' wr l[i] X := hkX.step (by omega) fun q h1 h2 => ⟨fun h => h2 (HS'S.out q h1 h), hagr q h1 (by
        by_cases h3 : q < bl
        · exact .inl h3
        · by_cases h4 : q < bh
          · exact absurd (HLH.out q (by omega) h4) h2
          · exact .inr (by omega))⟩
      have HXC := Lib.hid (TCells.block hbb hcX); have HXK := Lib.hid hkX'
      obtain ⟨wa, hwa, ma, sa, Ra, _⟩ := box15 wr (.int .u8 0) (.int .u8 0) (.int .i64 0) (.slice none 0 0) (.slice none 0 0) (.int .i64 0) (.int .i64 0) (.slice none 0 0) (.int .u8 0) (.int .u8 0) (.int .i64 0) (.slice none 0 0) (.int .i64 0) (.slice none 0 0) (.slice none 0 0) 47
      have HRA := Lib.hid Ra; have HMA := Lib.hid (And.intro ma sa); have HXC' := Lib.hid (HXC.out.below ma)
      clear hcX hkX hkX' hbb Ra ma sa
      have f0 : wr.cell? ⟨w.heap.size, 0, none⟩ = some (.int .u8 k) := hcw.1
      have HCW := Lib.hid hcw; have HG := Lib.hid hG; have HI := Lib.hid hI; have HAGR := Lib.hid hagr; have HOLD := Lib.hid hold
      clear hcw hG hI hagr hold hsr
      go_wp2_with (first | refine wpList_load15 (by rfl) (by rfl) (by rfl) HXC.out ?_ | refine wpList_store15 (t := l[i]) (A := X) (by rfl) (by rfl) (by rfl) (by rfl) (by rfl) HRA.out (by decide) ?_)
      intro wE hcE hkE hsE hbE
      have hsz := HSZ.out
      have hma := HMA.out
      have hbW : Below wr.heap.size wr wE := hbE _ _ (Nat.le_refl _) hma.1
      have hsW : wr.heap.size < wE.heap.size := by omega
      have hszr := HG.out.size
      have f0 := cell_stays hbW f0
      have HBW := Lib.hid hbW; have HSW := Lib.hid hsW; have HCE := Lib.hid hcE; have HSZR := Lib.hid hszr
      have HXKE := Lib.hid (HXK.out.below hbW)
      have hi' : i < l'.length := by have := HLL.out; omega
      have HTHE : Hid (wE.there w1.heap.size (i * 15) 15) := Lib.hid (fun j hj => by
        have hr := row_block (hbW.block w1.heap.size (by omega)) HG.out.row
        obtain ⟨v, hv⟩ := hr.cell (i * 15 + j) (by have : (i + 1) * 15 ≤ l.length * 15 := Nat.mul_le_mul_right _ (by omega)
                                                   omega)
        exact ⟨by rw [hv]; rfl, hr.frozen _⟩)
      clear hbE hkE hsE hcE hbW hsW hma HMA HRA HXC HXC' hszr hwa
      by_cases hno : k = 10 ∧ i = 1
      · as_aux_lemma =>
        obtain ⟨hk10, hi1⟩ := hno
        have kb : (k == 10) = true := by simp [hk10]
        have ib : ((i : Int) == 1) = true := by simp [hi1]
        have hel : l'[i] = l[i] := by rw [HGET.out i hlt hi', if_pos ⟨hk10, hi1⟩]
        have HSTEP := Lib.hid (HG.out.step (Y := X) (w5 := wE) HSB.out (by omega) (fun q h1 h2 => HSS'.out q (HLH.out q h1 h2)) hi' (by have := HSZR.out; omega) (by rw [HLL.out]; exact Nat.le_refl _) (Only.of_below HBW.out) (by rw [hel]; exact HXKE.out))
        rw [hel] at HSTEP
        have HIN : Hid (∀ W, W.heap.size = wE.heap.size → (∀ q, q ≠ w1.heap.size → W.heap[q]? = wE.heap[q]?) → Inv (i + 1) W) := Lib.hid fun W h1 h2 => by
          have h3 : Inv i wE := HST.out i wr wE HBW.out.size (fun q _ h4 => HBW.out.block q (by have := HBH.out; have := HSZR.out; omega)) HI.out
          have h5 := HSK.out hk10 wE (by rw [hi1] at h3; exact h3)
          rw [hi1]
          exact HST.out 2 wE W (Nat.le_of_eq h1.symm) (fun q _ h4 => h2 q (by have := HBH.out; omega)) h5
        have HI1 := Lib.hid hi1
        clear hel hk10 hi1
        go_wp2_with (first | refine wpList_load15 (by rfl) (by rfl) (by rfl) HCE.out ?_ | refine wpList_store15W (t := l[i]) (A := X) (by rfl) (by rfl) (by rfl) (by rfl) (by rfl) HTHE.out ?_)
        intro w9 h9
        have hin := HIN.out w9 (by rw [h9.out, setL_size]) (fun q hq => by rw [h9.out]; exact setL_block _ hq _ _)
        rw [← h9.out] at HSTEP
        have HIN2 := Lib.hid hin
        clear h9 HTHE HIN hin
        go_wp2_with fail
        go_roundw
        case rel => exact ⟨i + 1, by go_num, by omega, HSTEP.out, HIN2.out⟩
        case measure => simp [intOf]; omega
      · have hkib : k = 10 ∨ k ≠ 10 := Classical.em _
        have hel : l'[i] = g l[i] := by rw [HGET.out i hlt hi', if_neg hno]
        have HEL := Lib.hid hel
        have HCALL := Lib.hid (HDO.out i hlt hno (l[i].val X) wE S' HSS'.out (fun q hq => Nat.lt_of_lt_of_le (HS'L.out q hq) (Nat.le_trans HSZR.out HBW.out.size)) HS'S.out (by have := HSZR.out; have := HBW.out.size; omega) (fun q h1 h2 => (HBW.out.block q (by have := HSZR.out; omega)).trans (HAGR.out q h1 h2)) (HST.out i wr wE HBW.out.size (fun q _ h4 => HBW.out.block q (by have := HBH.out; have := HSZR.out; omega)) HI.out) ⟨X, rfl, HXKE.out⟩)
        clear hel
        have hif : ∃ b : Bool, (k == 10) = b ∧ (b = true → ((i : Int) == 1) = false) := ⟨k == 10, rfl, fun h => by
          have h1 : k = 10 := by simpa using h
          have h2 : ¬ i = 1 := fun e => hno ⟨h1, e⟩
          simpa using (show ¬ (i : Int) = 1 by omega)⟩
        obtain ⟨kb, hkb, hib⟩ := hif
        clear hno hkib
        cases kb
        · clear hib
          as_aux_lemma =>
          have hF := HF.out
          go_wp2_with (first | refine wpList_load15 (by rfl) (by rfl) (by rfl) HCE.out ?_)
          refine HCALL.out.mono ?_
          rintro e w4 ⟨z, rfl, ⟨Y, rfl, hY⟩, hO, hI4⟩
          have hO4 : Only bl bh wr w4 := (Only.of_below HBW.out).trans hO
          have hsz := HSZ.out
          have hr4 := row_block (hO4.block w1.heap.size (by have := HSZR.out; omega) (.inr (by have := HBH.out; omega))) HG.out.row
          have HTH4 : Hid (w4.there w1.heap.size (i * 15) 15) := Lib.hid (fun j hj => by
            obtain ⟨v, hv⟩ := hr4.cell (i * 15 + j) (by have : (i + 1) * 15 ≤ l.length * 15 := Nat.mul_le_mul_right _ (by omega)
                                                        omega)
            exact ⟨by rw [hv]; rfl, hr4.frozen _⟩)
          have HSTEP := Lib.hid (HG.out.step (Y := Y) (w5 := w4) HSB.out (by have := HBH.out; omega) (fun q h1 h2 => HSS'.out q (HLH.out q h1 h2)) hi' (by have := HSZR.out; omega) (by rw [HLL.out]; exact Nat.le_refl _) hO4 (by rw [HEL.out]; exact hY))
          rw [HEL.out] at HSTEP
          have HIN : Hid (∀ W, W.heap.size = w4.heap.size → (∀ q, q ≠ w1.heap.size → W.heap[q]? = w4.heap[q]?) → Inv (i + 1) W) := Lib.hid fun W h1 h2 => HST.out (i + 1) w4 W (Nat.le_of_eq h1.symm) (fun q _ h4 => h2 q (by have := HBH.out; have := HSZ.out; omega)) hI4
          clear hY hO hI4 hO4 hsz hr4 HCALL HEL
          go_wp2_with (first | refine wpList_store15W (t := g l[i]) (A := Y) (by rfl) (by rfl) (by rfl) (by rfl) (by rfl) HTH4.out ?_)
          intro w9 h9
          have hin := HIN.out w9 (by rw [h9.out, setL_size]) (fun q hq => by rw [h9.out]; exact setL_block _ hq _ _)
          rw [← h9.out] at HSTEP
          have HIN2 := Lib.hid hin
          clear h9 HTH4 HIN hin hF
          go_wp2_with fail
          go_roundw
          case rel => exact ⟨i + 1, by go_num, by omega, HSTEP.out, HIN2.out⟩
          case measure => simp [intOf]; omega
        · have ib := hib rfl
          clear hib
          as_aux_lemma =>
          have hF := HF.out
          go_wp2_with (first | refine wpList_load15 (by rfl) (by rfl) (by rfl) HCE.out ?_)
          refine HCALL.out.mono ?_
          rintro e w4 ⟨z, rfl, ⟨Y, rfl, hY⟩, hO, hI4⟩
          have hO4 : Only bl bh wr w4 := (Only.of_below HBW.out).trans hO
          have hsz := HSZ.out
          have hr4 := row_block (hO4.block w1.heap.size (by have := HSZR.out; omega) (.inr (by have := HBH.out; omega))) HG.out.row
          have HTH4 : Hid (w4.there w1.heap.size (i * 15) 15) := Lib.hid (fun j hj => by
            obtain ⟨v, hv⟩ := hr4.cell (i * 15 + j) (by have : (i + 1) * 15 ≤ l.length * 15 := Nat.mul_le_mul_right _ (by omega)
                                                        omega)
            exact ⟨by rw [hv]; rfl, hr4.frozen _⟩)
          have HSTEP := Lib.hid (HG.out.step (Y := Y) (w5 := w4) HSB.out (by have := HBH.out; omega) (fun q h1 h2 => HSS'.out q (HLH.out q h1 h2)) hi' (by have := HSZR.out; omega) (by rw [HLL.out]; exact Nat.le_refl _) hO4 (by rw [HEL.out]; exact hY))
          rw [HEL.out] at HSTEP
          have HIN : Hid (∀ W, W.heap.size = w4.heap.size → (∀ q, q ≠ w1.heap.size → W.heap[q]? = w4.heap[q]?) → Inv (i + 1) W) := Lib.hid fun W h1 h2 => HST.out (i + 1) w4 W (Nat.le_of_eq h1.symm) (fun q _ h4 => h2 q (by have := HBH.out; have := HSZ.out; omega)) hI4
          clear hY hO hI4 hO4 hsz hr4 HCALL HEL
          go_wp2_with (first | refine wpList_store15W (t := g l[i]) (A := Y) (by rfl) (by rfl) (by rfl) (by rfl) (by rfl) HTH4.out ?_)
          intro w9 h9
          have hin := HIN.out w9 (by rw [h9.out, setL_size]) (fun q hq => by rw [h9.out]; exact setL_block _ hq _ _)
          rw [← h9.out] at HSTEP
          have HIN2 := Lib.hid hin
          clear h9 HTH4 HIN hin hF
          go_wp2_with fail
          go_roundw
          case rel => exact ⟨i + 1, by go_num, by omega, HSTEP.out, HIN2.out⟩
          case measure => simp [intOf]; omega
    · as_aux_lemma =>
      have hie : i = l.length := by omega
      subst hie
      have d1 : decide ((l.length : Int) < l.length) = false := decide_eq_false (by omega)
      have d2 : decide (l.length < l.length) = false := decide_eq_false (by omega)
      obtain ⟨wx, hwx, hkx, hsx, hbx, hx4, _, _⟩ := args_set (a' := some ⟨w1.heap.size, 0, none⟩) (n := l.length) (c' := l.length) hcw
      have hcx := hx4 (TT.mk k v vs lo hi0 ws p l') { A with aa := some ⟨w1.heap.size, 0, none⟩, ac := l.length } rfl rfl rfl rfl rfl rfl rfl rfl (by rw [TT.args_mk, HLL.out])
      have c14 : wr.cell? ⟨w.heap.size, 14, none⟩ = some (.slice A.aa l.length A.ac) := by obtain ⟨_, _, _, _, _, _, _, _, _, _, _, _, _, _, q14⟩ := hcw; exact q14
      have f14 : wr.frozen? ⟨w.heap.size, 14, none⟩ = false := (row_block (hold _ (by omega) (by omega) (by omega)) HR2.out).frozen 14
      have HCX := Lib.hid hcx
      have HR1X := Lib.hid (row_block (hkx w0.heap.size (by omega)) (row_block (hold w0.heap.size (by omega) (by omega) (by omega)) HR4.out))
      have HKX := Lib.hid hkx; have HSX := Lib.hid hsx; have HG := Lib.hid hG; have HI := Lib.hid hI; have HSZR := Lib.hid hsr; have HBX := Lib.hid hbx; have HOLD := Lib.hid hold
      clear hkx hsx hbx hx4 hcx hG hI hsr hold hcw hsz hbh
      go_wp2_with (first | refine wpList_load15 (by rfl) (by rfl) (by rfl) HCX.out ?_ | refine wpList_store15 (t := TT.mk k v vs lo hi0 ws p l') (A := { A with aa := some ⟨w1.heap.size, 0, none⟩, ac := l.length }) (by rfl) (by rfl) (by rfl) (by rfl) (by rfl) HR1X.out (by decide) ?_)
      intro wE hcl hkE hsE hbl
      have hsz := HSZ.out
      have hbh := HBH.out
      have hall : ∀ q, q < w2.heap.size → q ≠ w1.heap.size → (q < bl ∨ bh ≤ q) → q ≠ w.heap.size → q ≠ w0.heap.size → wE.heap[q]? = w2.heap[q]? := fun q h1 h2 h3 h4 h5 => (hkE q h5).trans ((HKX.out q h4).trans (HOLD.out q h1 h2 h3))
      have h0 := hbl 0 _ (Nat.zero_le _) (HBX.out 0 wr (Nat.zero_le _) (Below.refl 0 _))
      have hOE : Only bl bh w wE := ⟨h0.os.trans (HG.out.os.trans HB2.out.os), h0.tape.trans (HG.out.tape.trans HB2.out.tape), h0.output.trans (HG.out.output.trans HB2.out.output), by have := HSZR.out; have := HSX.out; have := HB2.out.size; omega, fun q h1 h2 => (hall q (by have := HB2.out.size; omega) (by omega) h2 (by omega) (by omega)).trans (HB2.out.block q h1)⟩
      have hrowE : ∀ W, AgreeS S wE W → TRow W l' (some ⟨w1.heap.size, 0, none⟩) := fun W ha => by
        refine TRow.of w1.heap.size l' 0 fun j hj => ?_
        obtain ⟨X, hc, hk⟩ := HG.out.done j (by have := HLL.out; omega) hj
        have hSB' : ¬ S w1.heap.size := fun h => by have := HS.out _ h; omega
        refine ⟨X, ?_, hk W (ha.back' (by have := HSX.out; omega) fun q g1 g2 => ?_)⟩
        · rw [Nat.zero_add]
          exact (TCells.block ((hkE w1.heap.size (by omega)).trans (HKX.out _ (by omega))) hc).keep fun o v hv => ha.cell hSB' hv
        · refine ⟨fun h => g2 (HSS'.out q h), (hkE q fun e => ?_).trans (HKX.out q fun e => ?_)⟩
          · exact g2 (by rw [e]; exact HSR.out.2)
          · exact g2 (by rw [e]; exact HSR.out.1)
      have HPOST := Lib.hid (tok_args (c' := l.length) HOK.out hOE.size (fun q g1 g2 => ⟨g2, hOE.block q g1 (by
        by_cases h3 : q < bl
        · exact .inl h3
        · by_cases h4 : q < bh
          · exact absurd (HLH.out q (by omega) h4) g2
          · exact .inr (by omega))⟩) (by rw [HLL.out]; exact hlen) hrowE)
      have HOE := Lib.hid hOE
      have HIE : Hid (Inv l.length wE) := Lib.hid (HST.out l.length wr wE (by have := HSX.out; omega) (fun q _ h4 => (hkE q (by omega)).trans (HKX.out q (by omega))) HI.out)
      clear hbl hall h0 hOE hrowE hkE hsE hsz hbh HG HKX c14 f14
      go_wp2_with fail
      refine bodyPost_ret (v := TT.val (TT.mk k v vs lo hi0 ws p l') { A with aa := some ⟨w1.heap.size, 0, none⟩, ac := l.length }) ?_ rfl ⟨_, rfl, by rw [HPL.out]; exact ⟨_, rfl, HPOST.out⟩, HOE.out, HIE.out⟩
      exact results_cell Try.results79 rfl hcl
end Go.Proofs.Yteebbffecaeciaa
/- unfold.put, unfold.step, unfold.Step. -/
namespace Go.Proofs.Yteebbffecaeciaa
open Go.RowKit

set_option maxRecDepth 100000 in
set_option maxHeartbeats 8000000 in
/-- the closure of put. -/
theorem uputc_any (a s : TT) (y : Value) (A' : TA) (bs : Nat) (W : World) (Sx : Nat → Prop)
    (IH : ∀ (y' s' : Value) (W' : World) (S : Nat → Prop), TInA S W' a y' → TInA S W' s s' → (∀ q, S q → q < W'.heap.size) → Calls Try.prog 81 #[y', s'] W' fun e w' => ∃ x', e = .returned x' ∧ TInA S w' (a.put s) x' ∧ Below W'.heap.size W' w')
    (hy : TInA Sx W a y) (hs : TCells W bs 0 s A') (hsk : TOkA Sx W s A') (hSx : ∀ q, Sx q → q < W.heap.size) :
    Calls Try.prog 105 #[y, .pointer (some ⟨bs, 0, none⟩)] W fun e w' => ∃ z, e = .returned z ∧ TInA Sx w' (a.put s) z ∧ Below W.heap.size W w' := by
  obtain ⟨Y, rfl, hok⟩ := hy
  obtain ⟨w0, hw0, m0, s0, hc0, _⟩ := row1_new W a Y
  obtain ⟨w1, hw1, m1, s1, R1, _⟩ := box15 w0 (.int .u8 0) (.int .u8 0) (.int .i64 0) (.slice none 0 0) (.slice none 0 0) (.int .i64 0) (.int .i64 0) (.slice none 0 0) (.int .u8 0) (.int .u8 0) (.int .i64 0) (.slice none 0 0) (.int .i64 0) (.slice none 0 0) (.slice none 0 0) 47
  have hB : Below W.heap.size W w1 := m0.trans (m1.mono (Nat.le_of_lt s0))
  have HC0 := Lib.hid (hc0.below m1); have HCS := Lib.hid (hs.below hB)
  obtain ⟨S', hS'⟩ : ∃ S' : Nat → Prop, S' = fun q => Sx q ∨ q = w0.heap.size := ⟨_, rfl⟩
  have HUP : Hid (∀ (u : TT) (Z : TA), TOkA Sx W u Z → TOkA S' w1 u Z) := Lib.hid fun u Z h => h.step hB.size fun q g1 g2 => ⟨fun g => by rw [hS'] at g; rcases g with g | g; exact g2 g; omega, hB.block q g1⟩
  have HSS : Hid ((∀ q, Sx q → S' q) ∧ S' w0.heap.size) := Lib.hid ⟨fun q h => by rw [hS']; exact .inl h, by rw [hS']; exact .inr rfl⟩
  have HSL : Hid (∀ q, S' q → q < w1.heap.size) := Lib.hid fun q h => by rw [hS'] at h; rcases h with h | h; (have := hSx q h; have := hB.size; omega); omega
  have HA := Lib.hid (HUP.out _ _ hok); have HS := Lib.hid (HUP.out _ _ hsk); have HB := Lib.hid hB; have HR := Lib.hid R1; have HZ := Lib.hid (And.intro s0 s1); have HI := Lib.hid IH
  clear hok hsk hs hc0 hB R1 hS' hSx m0 m1 s0 s1 HUP IH
  unfold TT.val
  go_enter Try.func105, Try.ntmps105
  go_wp2_with (first | refine wpList_load15 (by rfl) (by rfl) (by rfl) HC0.out ?_ | refine wpList_load15 (by rfl) (by rfl) (by rfl) HCS.out ?_)
  refine (HI.out (a.val Y) (s.val A') _ S' ⟨Y, rfl, HA.out⟩ ⟨A', rfl, HS.out⟩ HSL.out).mono ?_
  rintro e w3 ⟨z, rfl, ⟨X, rfl, hX⟩, hb3⟩
  have HR3 := Lib.hid (HR.out.below HZ.out.2 hb3); have HX := Lib.hid hX
  have HB3 := Lib.hid (HB.out.trans (hb3.mono HB.out.size))
  clear hb3 hX HR
  go_wp2_with (refine wpList_store15 (t := a.put s) (A := X) (by rfl) (by rfl) (by rfl) (by rfl) (by rfl) HR3.out (by decide) ?_)
  intro wE hcl hkE hsE hbl
  have hz := HZ.out
  have hbe : Below W.heap.size W wE := hbl _ _ (by omega) HB3.out
  have hok : TOkA Sx wE (a.put s) X := HX.out.step (Nat.le_of_eq hsE.symm) fun q h1 h2 => ⟨fun h => h2 (HSS.out.1 q h), hkE q fun e => h2 (by rw [e]; exact HSS.out.2)⟩
  have HPOST := Lib.hid hok; have HBE := Lib.hid hbe
  clear hbl hz hbe hok hkE hsE
  go_wp2_with fail
  refine bodyPost_ret (v := TT.val (a.put s) X) ?_ rfl ⟨_, rfl, ⟨X, rfl, HPOST.out⟩, HBE.out⟩
  exact results_cell Try.results105 rfl hcl
set_option maxRecDepth 100000 in
set_option maxHeartbeats 8000000 in
theorem uput_any (N : Nat) : ∀ (t s : TT) (x y : Value) (w : World) (S : Nat → Prop), t.cnt ≤ N → TInA S w t x → TInA S w s y → (∀ q, S q → q < w.heap.size) →
    Calls Try.prog 81 #[x, y] w fun e w' => ∃ x', e = .returned x' ∧ TInA S w' (t.put s) x' ∧ Below w.heap.size w w' := by
  induction N with
  | zero => intro t s x y w S h; have := TT.cnt_pos t; omega
  | succ N ih =>
    intro t s x y w S hcn hx hy hS
    have IH := Lib.hid ih; clear ih
    obtain ⟨A, rfl, hok⟩ := hx
    obtain ⟨A', rfl, hok'⟩ := hy
    obtain ⟨w0, hw0, m0, s0, hc2, _⟩ := row1_new w t A
    obtain ⟨w1, hw1, m1, s1, hc3, _⟩ := row1_new w0 s A'
    obtain ⟨w2, hw2, m2, s2, R4, _⟩ := box15 w1 (.int .u8 0) (.int .u8 0) (.int .i64 0) (.slice none 0 0) (.slice none 0 0) (.int .i64 0) (.int .i64 0) (.slice none 0 0) (.int .u8 0) (.int .u8 0) (.int .i64 0) (.slice none 0 0) (.int .i64 0) (.slice none 0 0) (.slice none 0 0) 47
    replace hc2 := (hc2.below m1).below m2
    replace hc3 := hc3.below m2
    have hB2 : Below w.heap.size w w2 := m0.trans ((m1.trans (m2.mono (Nat.le_of_lt s1))).mono (Nat.le_of_lt s0))
    have q0 : w2.cell? ⟨w.heap.size, 0, none⟩ = some (.int .u8 t.kind) := hc2.1
    have hcs : ∀ i (h : i < t.args.length), t.args[i].cnt ≤ N := fun i h => by
      obtain ⟨k, v, vs, lo, hi0, ws, p, l⟩ := t
      have := TT.cnts_get (l := l) h; rw [TT.cnt] at hcn; simp only [TT.args] at h ⊢; omega
    have HOK := Lib.hid hok; have HOK' := Lib.hid hok'; have HCS := Lib.hid hcs; have HC2 := Lib.hid hc2; have HC3 := Lib.hid hc3; have HR4 := Lib.hid R4; have HB2 := Lib.hid hB2; have HS := Lib.hid hS
    have HSZ := Lib.hid (And.intro s0 (And.intro s1 s2))
    clear hok hok' hcs hc2 hc3 R4 hB2 m0 m1 m2 hcn hS s0 s1 s2
    unfold TT.val
    go_enter Try.func81, Try.ntmps81
    by_cases hk : t.kind = 11
    · as_aux_lemma =>
      have HPL : Hid (TT.put t s = s) := Lib.hid (TT.put_self hk)
      have hkb : (t.kind == 11) = true := by simp [hk]
      clear hk
      go_wp2_with (first | refine wpList_load15 (by rfl) (by rfl) (by rfl) HC3.out ?_ | refine wpList_store15 (t := s) (A := A') (by rfl) (by rfl) (by rfl) (by rfl) (by rfl) HR4.out (by decide) ?_)
      intro wE hcl _ _ hbl
      have hsz := HSZ.out
      have hbe : Below w.heap.size w wE := hbl _ _ (by omega) HB2.out
      have hok : TOkA S wE s A' := HOK'.out.below hbe
      have HPOST := Lib.hid hok; have HBE := Lib.hid hbe
      clear hbl hsz hbe hok
      go_wp2_with fail
      refine bodyPost_ret (v := TT.val s A') ?_ rfl ⟨_, rfl, by rw [HPL.out]; exact ⟨A', rfl, HPOST.out⟩, HBE.out⟩
      exact results_cell Try.results81 rfl hcl
    · as_aux_lemma =>
      have HPL : Hid (TT.put t s = t.each (fun a => a.put s)) := Lib.hid (TT.put_each hk)
      have hkb : (t.kind == 11) = false := by simpa using hk
      clear hk
      obtain ⟨S', hS'⟩ : ∃ S' : Nat → Prop, S' = fun q => S q ∨ q = w1.heap.size := ⟨_, rfl⟩
      have HSS : Hid ((∀ q, S q → S' q) ∧ S' w1.heap.size ∧ ∀ q, q < w.heap.size → S' q → S q) := Lib.hid ⟨fun q h => by rw [hS']; exact .inl h, by rw [hS']; exact .inr rfl, fun q h1 h2 => by rw [hS'] at h2; rcases h2 with h2 | h2; exact h2; have := HSZ.out; omega⟩
      have HS' : Hid (∀ q, S' q → q < w2.heap.size) := Lib.hid fun q h => by rw [hS'] at h; rcases h with h | h; (have := HS.out q h; have := HB2.out.size; omega); (have := HSZ.out; omega)
      have HNB : Hid (¬ S' w0.heap.size) := Lib.hid fun h => by rw [hS'] at h; rcases h with h | h; (have := HS.out _ h; have := HSZ.out; omega); (have := HSZ.out; omega)
      have HUP : Hid (∀ (u : TT) (Z : TA) (W : World), TOkA S w u Z → Below w.heap.size w W → TOkA S' W u Z) := Lib.hid fun u Z W h hb => h.step hb.size fun q g1 g2 => ⟨fun g => g2 (HSS.out.2.2 q g1 g), hb.block q g1⟩
      clear hS'
      go_wp2_with (first | refine wpList_load15 (by rfl) (by rfl) (by rfl) HC2.out ?_)
      refine (each_any 0 0 t (t.val A) _ S' 105 #[.pointer (some ⟨w0.heap.size, 0, none⟩)] (fun a => a.put s) (fun _ _ => True) (fun _ _ => by kernel_rfl) ⟨A, rfl, HUP.out _ _ _ HOK.out HB2.out⟩ HS'.out (fun q _ h => absurd h (Nat.not_lt_zero _)) (Nat.zero_le _) trivial (fun _ _ _ _ _ _ => trivial) (fun _ _ _ => trivial) ?_).mono ?_
      · as_aux_lemma =>
        intro i hi hno y W Sx hSx hSl hSw hsz hagr _ hy
        refine (uputc_any t.args[i] s y A' w0.heap.size W Sx (fun y' s' W' S h1 h2 h3 => IH.out t.args[i] s y' s' W' S (HCS.out i hi) h1 h2 h3) hy (TCells.block (hagr _ (by have := HSZ.out; omega) (.inr (Nat.zero_le _))) HC3.out) ((HUP.out _ _ _ HOK'.out HB2.out).step hsz fun q h1 h2 => ⟨fun h => h2 (hSw q h1 h), hagr q h1 (.inr (Nat.zero_le _))⟩) hSl).mono ?_
        rintro e w' ⟨z, rfl, hz, hb⟩
        exact ⟨z, rfl, hz, Only.of_below hb, trivial⟩
      · rintro e w3 ⟨z, rfl, ⟨Y, rfl, hY⟩, hO, -⟩
        rw [← HPL.out] at hY ⊢
        have hb3 : Below w2.heap.size w2 w3 := hO.nil
        have HR3 := Lib.hid (HR4.out.below HSZ.out.2.2 hb3); have HY := Lib.hid hY
        have HB3 := Lib.hid (HB2.out.trans (hb3.mono HB2.out.size))
        clear hb3 hY hO HR4 q0
        go_wp2_with (refine wpList_store15 (t := t.put s) (A := Y) (by rfl) (by rfl) (by rfl) (by rfl) (by rfl) HR3.out (by decide) ?_)
        intro wE hcl hkE hsE hbl
        have hz := HSZ.out
        have hbe : Below w.heap.size w wE := hbl _ _ (by omega) HB3.out
        have hok : TOkA S wE (t.put s) Y := HY.out.step (Nat.le_of_eq hsE.symm) fun q h1 h2 => ⟨fun h => h2 (HSS.out.1 q h), hkE q fun e => h2 (by rw [e]; exact HSS.out.2.1)⟩
        have HPOST := Lib.hid hok; have HBE := Lib.hid hbe
        clear hbl hz hbe hok hkE hsE
        go_wp2_with fail
        refine bodyPost_ret (v := TT.val (t.put s) Y) ?_ rfl ⟨_, rfl, ⟨Y, rfl, HPOST.out⟩, HBE.out⟩
        exact results_cell Try.results81 rfl hcl
end Go.Proofs.Yteebbffecaeciaa
/- TermWhere on trees: the nodes by their places, and where a term is wrong. -/
namespace Go.Proofs.Yteebbffecaeciaa
open Go.RowKit

mutual
/-- the nodes, by their places. -/
def TT.pre : TT → List TT
  | .mk k v vs lo hi ws p l => .mk k v vs lo hi ws p l :: TT.pres l
def TT.pres : List TT → List TT
  | [] => []
  | t :: ts => t.pre ++ TT.pres ts
end
end Go.Proofs.Yteebbffecaeciaa
/- The law's flat: a term's nodes, by their places. -/
namespace Go.Proofs.Yteebbffecaeciaa
open Go.RowKit

/-- the cells of terms, one behind another. -/
def cellsL (L : List (TT × TA)) : List Value := L.flatMap fun p => (cellsOf p.1 p.2).toList
theorem cellsL_length (L : List (TT × TA)) : (cellsL L).length = L.length * 15 := by
  induction L with
  | nil => rfl
  | cons p L ih => rw [cellsL, List.flatMap_cons, List.length_append, ← cellsL, ih, List.length_cons, Nat.add_mul]; simp [cellsOf]; omega
theorem cellsL_append (L : List (TT × TA)) (p : TT × TA) : cellsL (L ++ [p]) = cellsL L ++ (cellsOf p.1 p.2).toList := by simp [cellsL]
theorem cellsL_get : ∀ (L : List (TT × TA)) (i q : Nat) (h : i < L.length), q < 15 → (cellsL L)[i * 15 + q]? = ((cellsOf L[i].1 L[i].2).toList)[q]?
  | [], i, q, h, _ => by simp at h
  | p :: L, 0, q, _, hq => by
    rw [cellsL, List.flatMap_cons, List.getElem?_append_left (by simp [cellsOf]; omega)]
    simp
  | p :: L, i + 1, q, h, hq => by
    rw [cellsL, List.flatMap_cons, ← cellsL, List.getElem?_append_right (by simp [cellsOf]; omega)]
    have e : (i + 1) * 15 + q - (cellsOf p.1 p.2).toList.length = i * 15 + q := by simp [cellsOf]; omega
    rw [e, cellsL_get L i q (by simpa using h) hq]
    simp
/-- a row that append builds of terms that were there in the world wb. -/
def FlatRow (wb w : World) (L : List (TT × TA)) (a : Option Addr) (cap : Nat) : Prop := Grown w wb.heap.size 47 15 L.length (cellsL L) a cap ∧ ∀ p ∈ L, TOk wb p.1 p.2
theorem FlatRow.below {wb w w' : World} {L : List (TT × TA)} {a : Option Addr} {cap : Nat} (h : FlatRow wb w L a cap) (hb : Below w.heap.size w w') : FlatRow wb w' L a cap := ⟨h.1.below hb, h.2⟩
theorem FlatRow.get {wb w : World} {L : List (TT × TA)} {a : Option Addr} {cap : Nat} (h : FlatRow wb w L a cap) {i : Nat} (hi : i < L.length) : ∃ b, a = some ⟨b, 0, none⟩ ∧ wb.heap.size ≤ b ∧ TCells w b (i * 15) L[i].1 L[i].2 ∧ TOk wb L[i].1 L[i].2 := by
  obtain ⟨b, e, hB, _, hc⟩ := h.1.cells (by rw [cellsL_length]; omega)
  refine ⟨b, e, hB, ?_, h.2 _ (List.getElem_mem hi)⟩
  have hg : ∀ q v, q < 15 → ((cellsOf L[i].1 L[i].2).toList)[q]? = some v → w.cell? ⟨b, i * 15 + q, none⟩ = some v := fun q v hq hv => hc _ v (by rw [cellsL_get L i q hi hq]; exact hv)
  exact ⟨hg 0 _ (by decide) rfl, hg 1 _ (by decide) rfl, hg 2 _ (by decide) rfl, hg 3 _ (by decide) rfl, hg 4 _ (by decide) rfl, hg 5 _ (by decide) rfl, hg 6 _ (by decide) rfl, hg 7 _ (by decide) rfl, hg 8 _ (by decide) rfl, hg 9 _ (by decide) rfl, hg 10 _ (by decide) rfl, hg 11 _ (by decide) rfl, hg 12 _ (by decide) rfl, hg 13 _ (by decide) rfl, hg 14 _ (by decide) rfl⟩
theorem FlatRow.block {wb w : World} {L : List (TT × TA)} {a : Option Addr} {cap : Nat} (h : FlatRow wb w L a cap) (hL : 0 < L.length) : ∀ b', a = some ⟨b', 0, none⟩ → b' < w.heap.size := fun b' e => by
  obtain ⟨b, e', _, hc, _⟩ := h.get hL
  rw [e] at e'
  cases e'
  exact lt_of_cell hc.1
/-- the row's block may have been turned, no other. -/
def OnlyRow (w w' : World) (a a' : Option Addr) : Prop := ∀ k, k < w.heap.size → (∀ b', a = some ⟨b', 0, none⟩ → k ≠ b') → w'.heap[k]? = w.heap[k]? ∧ ∀ b', a' = some ⟨b', 0, none⟩ → k ≠ b'
theorem OnlyRow.trans {w w1 w2 : World} {a a1 a2 : Option Addr} (h : OnlyRow w w1 a a1) (h2 : OnlyRow w1 w2 a1 a2) (hs : w.heap.size ≤ w1.heap.size) : OnlyRow w w2 a a2 := fun k hk hn => by
  obtain ⟨e, hn1⟩ := h k hk hn
  obtain ⟨e2, hn2⟩ := h2 k (Nat.lt_of_lt_of_le hk hs) hn1
  exact ⟨e2.trans e, hn2⟩
end Go.Proofs.Yteebbffecaeciaa
/- A row of terms that append builds, whatever some blocks hold. -/
namespace Go.Proofs.Yteebbffecaeciaa
open Go.RowKit

def OwnS (S : Nat → Prop) (a : Option Addr) (k : Nat) : Prop := S k ∨ a = some ⟨k, 0, none⟩
/-- the row's terms read so whatever the blocks of S, and the row's own, hold. -/
structure GRow (S : Nat → Prop) (B0 : Nat) (w : World) (L : List (TT × TA)) (a : Option Addr) (cap : Nat) : Prop where
  grown : Grown w B0 47 15 L.length (cellsL L) a cap
  elems : ∀ p ∈ L, TOkA (OwnS S a) w p.1 p.2
  blk : ∀ b, a = some ⟨b, 0, none⟩ → b < w.heap.size
  new : ∀ b, a = some ⟨b, 0, none⟩ → B0 ≤ b
theorem GRow.nil (S : Nat → Prop) (B0 : Nat) (w : World) : GRow S B0 w [] none 0 := ⟨Grown.nil _ _ _ _, (fun _ h => by cases h), (fun _ h => by cases h), (fun _ h => by cases h)⟩
theorem GRow.below {S : Nat → Prop} {B0 : Nat} {w w' : World} {L : List (TT × TA)} {a : Option Addr} {cap : Nat} (h : GRow S B0 w L a cap) (hb : Below w.heap.size w w') : GRow S B0 w' L a cap :=
  ⟨h.grown.below hb, fun p hp => (h.elems p hp).below hb, fun b e => Nat.lt_of_lt_of_le (h.blk b e) hb.size, h.new⟩
theorem GRow.append {S : Nat → Prop} {B0 B : Nat} {w : World} {L : List (TT × TA)} {a : Option Addr} {cap : Nat} {t : TT} {A : TA} (h : GRow S B0 w L a cap) (hB : B0 ≤ w.heap.size) (hc : TCells w B 0 t A) (ht : TOkA (OwnS S a) w t A) (hL : L.length < 651562446070) :
    ∃ a' cap' w', (Builtin.append_ #[45, 45] 45 #[.slice a L.length cap, .slice (some ⟨B, 0, none⟩) 1 1]).run Try.prog w = .ok (.slice a' (L.length + 1) cap') w' ∧ GRow S B0 w' (L ++ [(t, A)]) a' cap' ∧ Below B0 w w' ∧ OnlyRow w w' a a' := by
  obtain ⟨i0, hi0, hz0, hz1, hz2⟩ := info_parts zeroT
  obtain ⟨a', cap', w', hap, hg', hb', hk'⟩ := grown_append (P := Try.prog) (ty := 45) hB h.grown Try.underlying45 hi0 hz0 hz1 rfl hz2
    (Src.ofSlice w Try.underlying45 ⟨B, 0, none⟩ 1 1 (cellsOf t A).toList (by simp [cellsOf]) (fun j u hu => by rw [Addr.add_lit]; have := hc.range j u hu; simpa using this) (fun u hu => by
      obtain ⟨j, hj, rfl⟩ := List.getElem_of_mem hu
      have hj' : j < 15 := by simpa [cellsOf] using hj
      have h1 := hc.range j _ (List.getElem?_eq_getElem hj)
      obtain ⟨u', hu', ho⟩ := hc.one j hj'
      rw [h1] at hu'
      cases hu'; exact ho)) (by omega) (by omega)
  have hnew : Grown w' B0 47 15 (L ++ [(t, A)]).length (cellsL (L ++ [(t, A)])) a' cap' := by rw [cellsL_append, List.length_append]; exact hg'
  have hstep : ∀ (s : TT) (X : TA), TOkA (OwnS S a) w s X → TOkA (OwnS S a') w' s X := fun s X hs => hs.step hb'.size fun k h1 h2 => by
    have hn : ∀ b', a = some ⟨b', 0, none⟩ → k ≠ b' := fun b' e hkb => h2 (.inr (by rw [hkb]; exact e))
    obtain ⟨e1, e2⟩ := hk' k h1 hn
    refine ⟨fun ho => ?_, e1⟩
    rcases ho with ho | ho
    · exact h2 (.inl ho)
    · exact e2 k ho rfl
  refine ⟨a', cap', w', hap, ⟨hnew, fun p hp => ?_, fun b e => ?_, fun b e => ?_⟩, hb', hk'⟩
  · rcases List.mem_append.1 hp with hp | hp
    · exact hstep _ _ (h.elems p hp)
    · simp only [List.mem_singleton] at hp; subst hp; exact hstep _ _ ht
  · obtain ⟨b', e', _, hr, _⟩ := hnew.cells (by rw [cellsL_length]; simp)
    rw [e] at e'; cases e'
    exact hr.lt
  · obtain ⟨b', e', hB', _, _⟩ := hnew.cells (by rw [cellsL_length]; simp)
    rw [e] at e'; cases e'
    exact hB'
/-- another block of S is written. -/
theorem GRow.other {S : Nat → Prop} {B0 bo : Nat} {w w' : World} {L : List (TT × TA)} {a : Option Addr} {cap : Nat} (h : GRow S B0 w L a cap) (hS : S bo) (hne : bo < B0) (hk : ∀ k, k ≠ bo → w'.heap[k]? = w.heap[k]?) (hs : w'.heap.size = w.heap.size) : GRow S B0 w' L a cap := by
  refine ⟨⟨h.grown.size, h.grown.le, h.grown.row.imp id fun ⟨b, ha, hB, hr, hc⟩ => ⟨b, ha, hB, row_block (hk b (by omega)) hr, fun j v hv => cell_block (hk b (by omega)) (hc j v hv)⟩⟩, fun p hp => (h.elems p hp).step (Nat.le_of_eq hs.symm) fun k _ h2 => ⟨h2, hk k fun e => h2 (.inl (by rw [e]; exact hS))⟩, fun b e => by rw [hs]; exact h.blk b e, h.new⟩
theorem GRow.trow {S S' : Nat → Prop} {B0 : Nat} {w : World} {L : List (TT × TA)} {a : Option Addr} {cap : Nat} (h : GRow S' B0 w L a cap) (hS : ∀ k, S k → S' k) (hB : ∀ k, S k → k < B0) : ∀ W, AgreeS S w W → TRow W (L.map (·.1)) a := fun W hW => by
  by_cases h0 : L.length = 0
  · have : L = [] := List.length_eq_zero_iff.1 h0
    subst this; exact trow_nil
  · obtain ⟨b, e, hb, hr, hc⟩ := h.grown.cells (by rw [cellsL_length]; omega)
    rw [e]
    refine TRow.of b _ 0 fun i hi => ?_
    have hi' : i < L.length := by simpa using hi
    rw [List.getElem_map, Nat.zero_add]
    have hnb : ¬ S b := fun hs => by have := hB b hs; omega
    have hg : ∀ q v, q < 15 → ((cellsOf L[i].1 L[i].2).toList)[q]? = some v → W.cell? ⟨b, i * 15 + q, none⟩ = some v := fun q v hq hv => hW.cell hnb (hc _ v (by rw [cellsL_get L i q hi' hq]; exact hv))
    refine ⟨L[i].2, ⟨hg 0 _ (by decide) rfl, hg 1 _ (by decide) rfl, hg 2 _ (by decide) rfl, hg 3 _ (by decide) rfl, hg 4 _ (by decide) rfl, hg 5 _ (by decide) rfl, hg 6 _ (by decide) rfl, hg 7 _ (by decide) rfl, hg 8 _ (by decide) rfl, hg 9 _ (by decide) rfl, hg 10 _ (by decide) rfl, hg 11 _ (by decide) rfl, hg 12 _ (by decide) rfl, hg 13 _ (by decide) rfl, hg 14 _ (by decide) rfl⟩, ?_⟩
    exact h.elems _ (List.getElem_mem hi') W ⟨hW.1, fun k h1 h2 => hW.2 k h1 fun hs => h2 (.inl (hS k hs))⟩
end Go.Proofs.Yteebbffecaeciaa
