/- Texts of this claim laid into one: UStepE, USelfs. -/
import Derived.Test.YteebbffecaeciaaM37
import Derived.Test.YteebbffecaeciaaM25
import Derived.Test.YteebbffecaeciaaM29
import Derived.Test.YteebbffecaeciaaM32
/- unfold.Step, unfold.Whole: what they hand back is new. -/
namespace Go.Proofs.Yteebbffecaeciaa
open Go.RowKit

def tZero : TT := .mk 0 vNone [] 0 0 [] pNone []
def zeroA : TA := ⟨none, 0, none, 0, none, 0, none, 0, none, 0, none, 0⟩
theorem fin_zero (w : World) (lo : Nat) (k n : Int) : FIn w lo (.mk k n []) (.agg #[.int .u8 k, .int .i64 n, .slice none 0 0]) := by
  rw [FIn]; exact ⟨none, 0, by simp, rfl, .inl rfl⟩
theorem tfin_zero (w : World) (lo : Nat) : TFIn w lo tZero (tZero.val zeroA) := ⟨zeroA, rfl, TFOk.of ⟨⟨by decide, by decide, by decide⟩, fin_zero _ _ 0 0, .inl rfl, .inl rfl, PFIn.shut (by simp) (fin_zero _ _ 0 0) (.inl rfl), .inl rfl⟩⟩
theorem results_cell2 {fn : Func} {tmps : Array Value} {d d' : Nat} {w : World} {t : TT} {A : TA} {B : Nat} {v : Value} (hr : fn.results = #[.cell d 47, .tmp d']) (hd : tmps.getD d undef = .pointer (some ⟨B, 0, none⟩)) (hd' : tmps.getD d' undef = v) (hc : TCells w B 0 t A) : (results fn tmps).run Try.prog w = .ok (.tuple #[t.val A, v]) w := by
  have h := run_loadVar_mid (P := Try.prog) w B 0 47 _ _ hc.range Try.underlying47 rfl size15
  unfold results
  rw [hr]
  simp only [Array.mapM_eq_mapM_toList, List.mapM_cons, List.mapM_nil, hd, hd', asAddr, Sem.run_bind, Sem.run_pure, Result.andThen_ok, h, map_eq_pure_bind, bind_assoc, pure_bind]
  rfl
/-- what is handed back: a term in new memory, and an error. -/
def UMade (r : TT × Int) (w : World) (e : Ending) (w' : World) : Prop := ∃ x', e = .returned (.tuple #[x', .int .i64 r.2]) ∧ TFIn w' w.heap.size r.1 x' ∧ Below w.heap.size w w'
def TT.stepE (t : TT) : TT × Int := if t.sound then (if t.kind = 10 then (t.step, 0) else (tZero, 11)) else (tZero, 3)
def TT.wholeE (t : TT) : TT × Int := if t.sound then (t.Whole, 0) else (tZero, 3)
theorem tfok_stored {w w' : World} {lo B : Nat} {t : TT} {A : TA} (h : TFOk w lo t A) (hB : B < lo) (hk : ∀ b, b ≠ B → w'.heap[b]? = w.heap[b]?) : TFOk w' lo t A :=
  h.mono (Nat.le_refl _) (fun b o v hb hc => cell_block (hk b (by omega)) hc) (fun b o v hb _ hf => by rw [World.frozen?_of_block (w := w) (a := ⟨b, o, none⟩) (hk b (by omega))]; exact hf) t A
set_option maxRecDepth 100000 in
set_option maxHeartbeats 8000000 in
theorem uWhole_any (t : TT) (x : Value) (w : World) (hcn : t.cnt ≤ 3000000) (hln : t.lean = true) (hx : TIn w t x) : Calls Try.prog 30 #[x] w (UMade t.wholeE w) := by
  obtain ⟨A, rfl, hok⟩ := hx
  obtain ⟨w0, hw0, m0, z0, hc0, _⟩ := row1_new w t A
  obtain ⟨w1, hw1, m1, z1, R1, _⟩ := box15 w0 (.int .u8 0) (.int .u8 0) (.int .i64 0) (.slice none 0 0) (.slice none 0 0) (.int .i64 0) (.int .i64 0) (.slice none 0 0) (.int .u8 0) (.int .u8 0) (.int .i64 0) (.slice none 0 0) (.int .i64 0) (.slice none 0 0) (.slice none 0 0) 47
  have hB1 : Below w.heap.size w w1 := m0.trans (m1.mono (Nat.le_of_lt z0))
  have q0 : w1.cell? ⟨w.heap.size, 0, none⟩ = some (.int .u8 t.kind) := (hc0.below m1).1
  have HC := Lib.hid (hc0.below m1); have HOK := Lib.hid (hok.below hB1); have HBE := Lib.hid hB1; have HR := Lib.hid R1; have HZ := Lib.hid (And.intro z0 z1)
  have HCN := Lib.hid hcn; have HLN := Lib.hid hln
  clear hok hc0 R1 m0 m1 z0 z1 hB1 hcn hln
  obtain ⟨so, hso⟩ : ∃ b, b = t.sound := ⟨_, rfl⟩
  have HSO := Lib.hid hso; clear hso
  unfold TT.val
  go_enter Try.func30, Try.ntmps30
  go_wp2_with (first | refine wpList_load15 (by rfl) (by rfl) (by rfl) HC.out ?_)
  refine (sound_any t (t.val A) _ HCN.out HLN.out ⟨A, rfl, HOK.out⟩).mono ?_
  rintro e w3 ⟨rfl, hb3⟩
  rw [← HSO.out]
  have hlt := HZ.out.2
  replace HC := Lib.hid (HC.out.below hb3); replace HOK := Lib.hid (HOK.out.below hb3); replace HBE := Lib.hid (HBE.out.trans (hb3.mono HBE.out.size)); replace HR := Lib.hid (HR.out.below hlt hb3)
  replace q0 := cell_stays hb3 q0
  clear hb3 hw0 hw1 hlt
  cases so
  · as_aux_lemma =>
    have HE : Hid (t.wholeE = (tZero, 3)) := Lib.hid (by unfold TT.wholeE; rw [← HSO.out]; rfl)
    go_wp2_with (first | refine wpList_store15 (t := tZero) (A := zeroA) (by rfl) (by rfl) (by rfl) (by rfl) (by rfl) HR.out (by decide) ?_)
    intro wE hcl hkE hsE hbl
    have hz := HZ.out
    have hbe : Below w.heap.size w wE := hbl _ _ (by omega) HBE.out
    have HBE2 := Lib.hid hbe
    clear hbl hbe hz hkE hsE
    go_wp2_with fail
    refine bodyPost_ret (v := .tuple #[TT.val tZero zeroA, .int .i64 3]) ?_ rfl ⟨_, by rw [HE.out], by rw [HE.out]; exact tfin_zero _ _, HBE2.out⟩
    exact results_cell2 Try.results30 rfl rfl hcl
  · as_aux_lemma =>
    have HE : Hid (t.wholeE = (t.Whole, 0)) := Lib.hid (by unfold TT.wholeE; rw [← HSO.out]; rfl)
    obtain ⟨g1, g2, _⟩ := TT.sound_parts HSO.out.symm
    have HG := Lib.hid (And.intro g1 g2)
    clear g1 g2
    go_wp2_with (first | refine wpList_load15 (by rfl) (by rfl) (by rfl) HC.out ?_)
    refine (uwhole_any 4096 t (t.val A) w3 (fun _ => False) HG.out.1 HG.out.2 (TIn.any ⟨A, rfl, HOK.out⟩) (fun _ h => h.elim)).mono ?_
    rintro e w4 ⟨z, rfl, ⟨Y, rfl, hY⟩, hb4⟩
    rw [show t.whole 4096 = t.Whole from rfl] at hY ⊢
    have HTI : Hid (TIn w4 t.Whole (TT.val t.Whole Y)) := Lib.hid ⟨Y, rfl, hY.ok⟩
    replace HR := Lib.hid (HR.out.below HR.out.lt hb4); replace HBE := Lib.hid (HBE.out.trans (hb4.mono HBE.out.size))
    clear hY hb4 q0
    go_wp2_with fail
    refine (tcopy_any _ t.Whole _ _ (Nat.le_refl _) HTI.out).mono ?_
    rintro e w5 ⟨z, rfl, ⟨Z, rfl, hZ⟩, hb5⟩
    have HZ5 := Lib.hid hZ; have HLT := Lib.hid HR.out.lt
    replace HR := Lib.hid (HR.out.below HR.out.lt hb5); replace HBE := Lib.hid (HBE.out.trans (hb5.mono HBE.out.size))
    clear hZ hb5
    go_wp2_with (first | refine wpList_store15 (t := t.Whole) (A := Z) (by rfl) (by rfl) (by rfl) (by rfl) (by rfl) HR.out (by decide) ?_)
    intro wE hcl hkE hsE hbl
    have hz := HZ.out
    have hbe : Below w.heap.size w wE := hbl _ _ (by omega) HBE.out
    have HP : Hid (TFOk wE w.heap.size t.Whole Z) := Lib.hid ((tfok_stored HZ5.out HLT.out hkE).less (by have := HLT.out; omega))
    have HBE2 := Lib.hid hbe
    clear hbl hbe hz hkE hsE
    go_wp2_with fail
    refine bodyPost_ret (v := .tuple #[TT.val t.Whole Z, .int .i64 0]) ?_ rfl ⟨_, by rw [HE.out], by rw [HE.out]; exact ⟨Z, rfl, HP.out⟩, HBE2.out⟩
    exact results_cell2 Try.results30 rfl rfl hcl
set_option maxRecDepth 100000 in
set_option maxHeartbeats 8000000 in
theorem uStep_any (t : TT) (x : Value) (w : World) (hcn : t.cnt ≤ 3000000) (hln : t.lean = true) (hx : TIn w t x) : Calls Try.prog 34 #[x] w (UMade t.stepE w) := by
  obtain ⟨A, rfl, hok⟩ := hx
  obtain ⟨w0, hw0, m0, z0, hc0, _⟩ := row1_new w t A
  obtain ⟨w1, hw1, m1, z1, R1, _⟩ := box15 w0 (.int .u8 0) (.int .u8 0) (.int .i64 0) (.slice none 0 0) (.slice none 0 0) (.int .i64 0) (.int .i64 0) (.slice none 0 0) (.int .u8 0) (.int .u8 0) (.int .i64 0) (.slice none 0 0) (.int .i64 0) (.slice none 0 0) (.slice none 0 0) 47
  have hB1 : Below w.heap.size w w1 := m0.trans (m1.mono (Nat.le_of_lt z0))
  have q0 : w1.cell? ⟨w.heap.size, 0, none⟩ = some (.int .u8 t.kind) := (hc0.below m1).1
  have HC := Lib.hid (hc0.below m1); have HOK := Lib.hid (hok.below hB1); have HBE := Lib.hid hB1; have HR := Lib.hid R1; have HZ := Lib.hid (And.intro z0 z1)
  have HCN := Lib.hid hcn; have HLN := Lib.hid hln
  clear hok hc0 R1 m0 m1 z0 z1 hB1 hcn hln
  obtain ⟨so, hso⟩ : ∃ b, b = t.sound := ⟨_, rfl⟩
  have HSO := Lib.hid hso; clear hso
  unfold TT.val
  go_enter Try.func34, Try.ntmps34
  go_wp2_with (first | refine wpList_load15 (by rfl) (by rfl) (by rfl) HC.out ?_)
  refine (sound_any t (t.val A) _ HCN.out HLN.out ⟨A, rfl, HOK.out⟩).mono ?_
  rintro e w3 ⟨rfl, hb3⟩
  rw [← HSO.out]
  have hlt := HZ.out.2
  replace HC := Lib.hid (HC.out.below hb3); replace HOK := Lib.hid (HOK.out.below hb3); replace HBE := Lib.hid (HBE.out.trans (hb3.mono HBE.out.size)); replace HR := Lib.hid (HR.out.below hlt hb3)
  replace q0 := cell_stays hb3 q0
  clear hb3 hw0 hw1 hlt
  cases so
  · as_aux_lemma =>
    have HE : Hid (t.stepE = (tZero, 3)) := Lib.hid (by unfold TT.stepE; rw [← HSO.out]; rfl)
    go_wp2_with (first | refine wpList_store15 (t := tZero) (A := zeroA) (by rfl) (by rfl) (by rfl) (by rfl) (by rfl) HR.out (by decide) ?_)
    intro wE hcl hkE hsE hbl
    have hz := HZ.out
    have hbe : Below w.heap.size w wE := hbl _ _ (by omega) HBE.out
    have HBE2 := Lib.hid hbe
    clear hbl hbe hz hkE hsE
    go_wp2_with fail
    refine bodyPost_ret (v := .tuple #[TT.val tZero zeroA, .int .i64 3]) ?_ rfl ⟨_, by rw [HE.out], by rw [HE.out]; exact tfin_zero _ _, HBE2.out⟩
    exact results_cell2 Try.results34 rfl rfl hcl
  · by_cases hk : t.kind = 10
    · as_aux_lemma =>
      have HE : Hid (t.stepE = (t.step, 0)) := Lib.hid (by unfold TT.stepE; rw [← HSO.out, if_pos rfl, if_pos hk])
      have kb : (t.kind != 10) = false := by simp [hk]
      obtain ⟨g1, g2, _⟩ := TT.sound_parts HSO.out.symm
      have hR := TT.right (TT.sane_parts g1).1
      obtain ⟨hz1, hz2, _⟩ := hR.sized hk
      have HG := Lib.hid (And.intro (hR.len2 hk) (And.intro hz1 hz2))
      clear g1 g2 hk hR hz1 hz2
      go_wp2_with (first | refine wpList_load15 (by rfl) (by rfl) (by rfl) HC.out ?_)
      refine (ustep_any t (t.val A) w3 (fun _ => False) HG.out.1 HG.out.2.1 HG.out.2.2 (TIn.any ⟨A, rfl, HOK.out⟩) (fun _ h => h.elim)).mono ?_
      rintro e w4 ⟨z, rfl, ⟨Y, rfl, hY⟩, hb4⟩
      have HTI : Hid (TIn w4 t.step (TT.val t.step Y)) := Lib.hid ⟨Y, rfl, hY.ok⟩
      replace HR := Lib.hid (HR.out.below HR.out.lt hb4); replace HBE := Lib.hid (HBE.out.trans (hb4.mono HBE.out.size))
      clear hY hb4 q0
      go_wp2_with fail
      refine (tcopy_any _ t.step _ _ (Nat.le_refl _) HTI.out).mono ?_
      rintro e w5 ⟨z, rfl, ⟨Z, rfl, hZ⟩, hb5⟩
      have HZ5 := Lib.hid hZ; have HLT := Lib.hid HR.out.lt
      replace HR := Lib.hid (HR.out.below HR.out.lt hb5); replace HBE := Lib.hid (HBE.out.trans (hb5.mono HBE.out.size))
      clear hZ hb5
      go_wp2_with (first | refine wpList_store15 (t := t.step) (A := Z) (by rfl) (by rfl) (by rfl) (by rfl) (by rfl) HR.out (by decide) ?_)
      intro wE hcl hkE hsE hbl
      have hz := HZ.out
      have hbe : Below w.heap.size w wE := hbl _ _ (by omega) HBE.out
      have HP : Hid (TFOk wE w.heap.size t.step Z) := Lib.hid ((tfok_stored HZ5.out HLT.out hkE).less (by have := HLT.out; omega))
      have HBE2 := Lib.hid hbe
      clear hbl hbe hz hkE hsE
      go_wp2_with fail
      refine bodyPost_ret (v := .tuple #[TT.val t.step Z, .int .i64 0]) ?_ rfl ⟨_, by rw [HE.out], by rw [HE.out]; exact ⟨Z, rfl, HP.out⟩, HBE2.out⟩
      exact results_cell2 Try.results34 rfl rfl hcl
    · as_aux_lemma =>
      have HE : Hid (t.stepE = (tZero, 11)) := Lib.hid (by unfold TT.stepE; rw [← HSO.out, if_pos rfl, if_neg hk])
      have kb : (t.kind != 10) = true := by simpa using hk
      clear hk
      go_wp2_with (first | refine wpList_store15 (t := tZero) (A := zeroA) (by rfl) (by rfl) (by rfl) (by rfl) (by rfl) HR.out (by decide) ?_)
      intro wE hcl hkE hsE hbl
      have hz := HZ.out
      have hbe : Below w.heap.size w wE := hbl _ _ (by omega) HBE.out
      have HBE2 := Lib.hid hbe
      clear hbl hbe hz hkE hsE
      go_wp2_with fail
      refine bodyPost_ret (v := .tuple #[TT.val tZero zeroA, .int .i64 11]) ?_ rfl ⟨_, by rw [HE.out], by rw [HE.out]; exact tfin_zero _ _, HBE2.out⟩
      exact results_cell2 Try.results34 rfl rfl hcl
end Go.Proofs.Yteebbffecaeciaa
/- unfold.Selfs. -/
namespace Go.Proofs.Yteebbffecaeciaa
open Go.RowKit

theorem TOkA.only {S : Nat → Prop} {lo hi : Nat} {w w' : World} {t : TT} {A : TA} (h : TOkA S w t A) (ho : Only lo hi w w') (hs : ∀ q, lo ≤ q → q < hi → S q) : TOkA S w' t A :=
  h.step ho.size fun q h1 h2 => ⟨h2, ho.block q h1 (by
    by_cases h3 : q < lo
    · exact .inl h3
    · by_cases h4 : q < hi
      · exact absurd (hs q (by omega) h4) h2
      · exact .inr (by omega))⟩
theorem TT.selfss_append (k : Int) (t : TT) : ∀ (l : List TT) (i : Nat), TT.selfss k i (l ++ [t]) = TT.selfss k i l + (if k = 10 ∧ i + l.length = 1 then 0 else t.selfs)
  | [], i => by simp [TT.selfss]
  | a :: l, i => by
    rw [List.cons_append, TT.selfss, TT.selfss, TT.selfss_append k t l (i + 1), List.length_cons, show i + 1 + l.length = i + (l.length + 1) by omega]
    omega
theorem TT.selfss_take (k : Int) (l : List TT) {i : Nat} (h : i < l.length) : TT.selfss k 0 (l.take (i + 1)) = TT.selfss k 0 (l.take i) + (if k = 10 ∧ i = 1 then 0 else l[i].selfs) := by
  rw [List.take_add_one, List.getElem?_eq_getElem h]
  show TT.selfss k 0 (l.take i ++ [l[i]]) = _
  rw [TT.selfss_append, List.length_take, Nat.min_eq_left (by omega), Nat.zero_add]
mutual
theorem TT.selfs_le : ∀ t : TT, t.selfs ≤ t.cnt
  | .mk k v vs lo hi ws p l => by
    rw [TT.selfs, TT.cnt]
    split
    · omega
    · have := TT.selfss_le k 0 l; omega
theorem TT.selfss_le (k : Int) : ∀ (i : Nat) (l : List TT), TT.selfss k i l ≤ TT.cnts l
  | _, [] => by rw [TT.selfss, TT.cnts]; exact Nat.le_refl _
  | i, t :: ts => by
    rw [TT.selfss, TT.cnts]
    have h1 := TT.selfs_le t
    have h2 := TT.selfss_le k (i + 1) ts
    split <;> omega
end
theorem TT.cnts_take : ∀ (l : List TT) (i : Nat), TT.cnts (l.take i) ≤ TT.cnts l
  | [], i => by simp
  | t :: ts, 0 => by simp [TT.cnts]
  | t :: ts, i + 1 => by rw [List.take_succ_cons, TT.cnts, TT.cnts]; have := TT.cnts_take ts i; omega
/-- the box of the number, and what it holds. -/
def NumAt (B : Nat) (n : Nat) (W : World) : Prop := RowAt W 3 B 1 ∧ W.cell? ⟨B, 0, none⟩ = some (.int .i64 (n : Int))
theorem NumAt.block {B n : Nat} {W W' : World} (h : NumAt B n W) (hb : W'.heap[B]? = W.heap[B]?) : NumAt B n W' := ⟨row_block hb h.1, cell_block hb h.2⟩
theorem NumAt.set {B n : Nat} {W : World} (h : NumAt B n W) (m : Nat) : NumAt B m (setL B [(0, .int .i64 (m : Int))] W) :=
  ⟨setL_row _ _ _ h.1, setL_in _ _ _ (by simp) (fun q hq => by simp only [List.mem_singleton] at hq; subst hq; exact ⟨_, h.2⟩) (0, _) (by simp)⟩
set_option maxRecDepth 100000 in
set_option maxHeartbeats 8000000 in
/-- the closure of Selfs. -/
theorem uselfsc_any (a : TT) (y : Value) (B n : Nat) (W : World) (Sx : Nat → Prop) (hcn : a.cnt ≤ 3000000) (hn : n ≤ 3000000)
    (IH : ∀ (y' : Value) (W' : World), TIn W' a y' → Calls Try.prog 38 #[y'] W' fun e w' => e = .returned (.int .i64 (a.selfs : Int)) ∧ Below W'.heap.size W' w')
    (hy : TInA Sx W a y) (hB : Sx B) (hSx : ∀ q, Sx q → q < W.heap.size) (hN : NumAt B n W) :
    Calls Try.prog 80 #[y, .pointer (some ⟨B, 0, none⟩)] W fun e w' => ∃ z, e = .returned z ∧ TInA Sx w' a z ∧ Only B (B + 1) W w' ∧ NumAt B (n + a.selfs) w' := by
  obtain ⟨Y, rfl, hok⟩ := hy
  have hsl := TT.selfs_le a
  obtain ⟨w0, hw0, m0, s0, hc0, _⟩ := row1_new W a Y
  obtain ⟨w1, hw1, m1, s1, R1, _⟩ := box15 w0 (.int .u8 0) (.int .u8 0) (.int .i64 0) (.slice none 0 0) (.slice none 0 0) (.int .i64 0) (.int .i64 0) (.slice none 0 0) (.int .u8 0) (.int .u8 0) (.int .i64 0) (.slice none 0 0) (.int .i64 0) (.slice none 0 0) (.slice none 0 0) 47
  have hB1 : Below W.heap.size W w1 := m0.trans (m1.mono (Nat.le_of_lt s0))
  have hBW := hSx B hB
  have HC0 := Lib.hid (hc0.below m1); have HN := Lib.hid (hN.block (hB1.block B hBW)); have HTI : Hid (TIn w1 a (a.val Y)) := Lib.hid ⟨Y, rfl, hok.ok.below hB1⟩
  have HOK := Lib.hid hok; have HBE := Lib.hid hB1; have HR := Lib.hid R1; have HZ := Lib.hid (And.intro s0 (And.intro s1 hBW)); have HI := Lib.hid IH; have HSB := Lib.hid hB
  obtain ⟨sa, hsa⟩ : ∃ sa, sa = a.selfs := ⟨_, rfl⟩
  rw [← hsa] at hsl ⊢
  have HSA := Lib.hid hsa
  obtain ⟨m, hm⟩ : ∃ m, m = n + sa := ⟨_, rfl⟩
  rw [← hm]
  have hwr : IntKind.i64.wrap ((n : Int) + (sa : Int)) = (m : Int) := by rw [IntKind.wrap_i64] <;> omega
  clear hm
  clear hok hc0 hB1 R1 hSx m0 m1 s0 s1 IH hN hB hsa hBW
  unfold TT.val
  go_enter Try.func80, Try.ntmps80
  go_wp2_with fail
  clear hw0 hw1
  have HBV := Lib.hid (fun W (h : Below w1.drew.heap.size w1.drew W) => (Below.refl _ w1).drew.trans h)
  try simp only [List.append_eq, List.cons_append, List.nil_append]
  refine wp_region_partW [] (kindT [(4, .fixed (.int .i64 (n : Int))), (5, .fixed (TT.val a Y)), (6, .fixed (.int .i64 (sa : Int))), (7, .fixed (.int .i64 (m : Int)))]) 4 9 (by kernel_rfl) (by kernel_rfl) (by rfl) (by decide) (fun _ h => by cases h) (kindT_mono _) ?_ ?_
  · as_aux_lemma =>
    show ∀ o ∈ [(0, _), (1, _), (2, _), (3, _)], _
    refine (tfm ?_ (tfm ?_ (tfm ?_ (tfm ?_ tfmnil))))
    · intro r W' hc hf hs hd hB
      have hBV := HBV.out W' hB
      refine want_n rfl ?_
      have e1 : r (.tmp 1) = .pointer (some ⟨B, 0, none⟩) := hs 1 (by kernel_rfl)
      have g := cell_stays hBV HN.out.2
      exact st_value (v := .int .i64 (n : Int)) rfl (by decide) (by go_simp) rfl
    · intro r W' hc hf hs hd hB
      have hBV := HBV.out W' hB
      refine want_n rfl ?_
      have e2 : r (.tmp 2) = .pointer (some ⟨W.heap.size, 0, none⟩) := hs 2 (by kernel_rfl)
      exact st_value (v := TT.val a Y) rfl (by decide) (run_load15 (HC0.out.below hBV) rfl e2) rfl
    · intro r W' hc hf hs hd hB
      have hBV := HBV.out W' hB
      refine want_n rfl ?_
      have e5 : r (.tmp 5) = TT.val a Y := hd 5 (by kernel_rfl)
      exact st_call (f := 38) (args := #[TT.val a Y]) rfl (by decide) (by go_simp) (made_fix (by rw [HSA.out]) (HI.out _ W' (HTI.out.below hBV)))
    · intro r W' hc hf hs hd hB
      have hBV := HBV.out W' hB
      refine want_n rfl ?_
      have e4 : r (.tmp 4) = .int .i64 (n : Int) := hd 4 (by kernel_rfl)
      have e6 : r (.tmp 6) = .int .i64 (sa : Int) := hd 6 (by kernel_rfl)
      exact st_value (v := .int .i64 (m : Int)) rfl (by decide) (by go_simp) rfl
  intro f w5 fuel hfuel hfd _ hB'
  have z1 : f 7 = .int .i64 (m : Int) := hfd 7 (of_decide_eq_true (by kernel_rfl))
  have hb5 := HBV.out w5 hB'
  have hN5 := HN.out.block (hb5.block B (Nat.lt_of_lt_of_le HZ.out.2.2 HBE.out.size))
  obtain ⟨w6, hw6⟩ : ∃ w6, w6 = setL B [(0, .int .i64 (m : Int))] w5 := ⟨_, rfl⟩
  have hN6 : NumAt B m w6 := by rw [hw6]; exact hN5.set _
  have hO6 : Only B (B + 1) w1 w6 := by rw [hw6]; exact Only.setL (Nat.le_refl _) (Nat.lt_succ_self _) _ (Only.of_below hb5)
  have hk6 : ∀ q, q ≠ B → w6.heap[q]? = w5.heap[q]? := fun q hq => by rw [hw6]; exact setL_block _ hq _ _
  have HC5 := Lib.hid hN5.2; have HF5 := Lib.hid (hN5.1.frozen 0)
  have hfuel' : 1 ≤ fuel := hfuel
  obtain ⟨fuel, rfl⟩ : ∃ k, fuel = k + 1 := ⟨fuel - 1, by omega⟩
  rw [show dstsTo 4 _ = [4, 5, 6, 7] from by kernel_rfl]
  simp only [fill, List.setIfInBounds_toArray, List.set_cons_succ, List.set_cons_zero, z1]
  have HW6 : Hid (w5.setCell ⟨B, 0, none⟩ (.int .i64 (m : Int)) = w6) := Lib.hid (by rw [hw6]; rfl)
  clear hfd hfuel hfuel' hB' hw6 hN5
  refine wpAny_next (i := 4) (by kernel_rfl) (by rfl) rfl (wp_skip (w' := w6) (by have h := HW6.out; have h1 := HC5.out; have h2 := HF5.out; go_simp) rfl ?_)
  refine wpAny_done (by kernel_rfl) ?_ _
  have hz := HZ.out
  have HC6 := Lib.hid (TCells.block (hk6 W.heap.size (by omega)) (HC0.out.below hb5))
  have HR6 := Lib.hid (row_block (hk6 w0.heap.size (by omega)) (HR.out.below hz.2.1 hb5))
  have HO6 := Lib.hid hO6; have HN6 := Lib.hid hN6
  clear hO6 hN6 hk6 hb5 HW6 HC5 HF5 hz
  go_wp2_with (first | refine wpList_load15 (by rfl) (by rfl) (by rfl) HC6.out ?_ | refine wpList_store15 (t := a) (A := Y) (by rfl) (by rfl) (by rfl) (by rfl) (by rfl) HR6.out (by decide) ?_)
  intro wE hcl hkE hsE hbl
  have hz := HZ.out
  have h0 := hbl 0 _ (Nat.zero_le _) (Below.refl 0 _)
  have hOE : Only B (B + 1) W wE := ⟨h0.os.trans (HO6.out.os.trans HBE.out.os), h0.tape.trans (HO6.out.tape.trans HBE.out.tape), h0.output.trans (HO6.out.output.trans HBE.out.output), by have := HBE.out.size; have := HO6.out.size; omega, fun q h1 h2 => (hkE q (by omega)).trans ((HO6.out.block q (by have := HBE.out.size; omega) h2).trans (HBE.out.block q h1))⟩
  have HPOST : Hid (TOkA Sx wE a Y) := Lib.hid (HOK.out.only hOE fun q h1 h2 => (show q = B by omega) ▸ HSB.out)
  have HNE := Lib.hid (HN6.out.block (hkE B (by omega))); have HOE := Lib.hid hOE
  clear hbl hkE hsE hz hOE h0
  go_wp2_with fail
  refine bodyPost_ret (v := TT.val a Y) ?_ rfl ⟨_, rfl, ⟨Y, rfl, HPOST.out⟩, HOE.out, HNE.out⟩
  exact results_cell Try.results80 rfl hcl
set_option maxRecDepth 100000 in
set_option maxHeartbeats 8000000 in
theorem uselfs_any (N : Nat) (hN : N ≤ 3000000) : ∀ (t : TT) (x : Value) (w : World), t.cnt ≤ N → TIn w t x →
    Calls Try.prog 38 #[x] w fun e w' => e = .returned (.int .i64 (t.selfs : Int)) ∧ Below w.heap.size w w' := by
  induction N with
  | zero => intro t x w h; have := TT.cnt_pos t; omega
  | succ N ih =>
    intro t x w hcn hx
    have IH := Lib.hid (ih (by omega)); clear ih
    obtain ⟨A, rfl, hok⟩ := hx
    have hcs : ∀ i (h : i < t.args.length), t.args[i].cnt ≤ N := fun i h => by
      obtain ⟨k, v, vs, lo, hi0, ws, p, l⟩ := t
      have := TT.cnts_get (l := l) h; rw [TT.cnt] at hcn; simp only [TT.args] at h ⊢; omega
    have hcl : TT.cnts t.args ≤ N := by obtain ⟨k, v, vs, lo, hi0, ws, p, l⟩ := t; rw [TT.cnt] at hcn; simp only [TT.args]; omega
    obtain ⟨w0, hw0, m0, s0, hc0, _⟩ := row1_new w t A
    have q0 : w0.cell? ⟨w.heap.size, 0, none⟩ = some (.int .u8 t.kind) := hc0.1
    have HOK := Lib.hid hok; have HCS := Lib.hid hcs; have HCL := Lib.hid hcl; have HC0 := Lib.hid hc0; have HM0 := Lib.hid m0; have HS0 := Lib.hid s0
    clear hok hcs hcl hc0 hcn
    unfold TT.val
    go_enter Try.func38, Try.ntmps38
    by_cases hk : t.kind = 11
    · as_aux_lemma =>
      have HSF : Hid (t.selfs = 1) := Lib.hid (TT.selfs_self hk)
      have hkb : (t.kind == 11) = true := by simp [hk]
      clear hk
      go_wp2_with fail
      go_ret
      exact ⟨by rw [HSF.out]; rfl, HM0.out⟩
    · as_aux_lemma =>
      have HSF : Hid (t.selfs = TT.selfss t.kind 0 t.args) := Lib.hid (TT.selfs_not hk)
      have hkb : (t.kind == 11) = false := by simpa using hk
      clear hk
      obtain ⟨w1, hw1, m1, s1, R1, c1⟩ : ∃ w1, w0.alloc (.cells #[.int .i64 0] 3) = w1 ∧ Below w0.heap.size w0 w1 ∧ w0.heap.size < w1.heap.size ∧ RowAt w1 3 w0.heap.size 1 ∧ w1.cell? ⟨w0.heap.size, 0, none⟩ = some (.int .i64 0) := ⟨_, rfl, Below.al _, by simp, RowAt.new w0 #[.int .i64 0] 3, by go_simp⟩
      have f1 : w1.frozen? ⟨w0.heap.size, 0, none⟩ = false := R1.frozen 0
      obtain ⟨w2, hw2, N2, m2⟩ : ∃ w2, w1.setCell ⟨w0.heap.size, 0, none⟩ (.int .i64 0) = w2 ∧ NumAt w0.heap.size 0 w2 ∧ Below w0.heap.size w0 w2 := ⟨_, rfl, NumAt.set (n := 0) ⟨R1, c1⟩ 0, setL_below w0.heap.size (Nat.le_refl _) [(0, .int .i64 0)] _ m1⟩
      have hs2 : w0.heap.size < w2.heap.size := by have := N2.1.lt; exact this
      have HC2 := Lib.hid (HC0.out.below m2); have HB2 := Lib.hid (HM0.out.trans (m2.mono (Nat.le_of_lt HS0.out))); have HN2 := Lib.hid N2; have HS2 := Lib.hid hs2
      clear m1 s1 R1 m2 N2 hs2
      go_wp2_with (first | refine wpList_load15 (by rfl) (by rfl) (by rfl) HC2.out ?_)
      refine (each_any w0.heap.size (w0.heap.size + 1) t (t.val A) _ (fun q => q = w0.heap.size) 80 #[.pointer (some ⟨w0.heap.size, 0, none⟩)] (fun a => a) (fun i W => NumAt w0.heap.size (TT.selfss t.kind 0 (t.args.take i)) W) (fun _ _ => by kernel_rfl) ⟨A, rfl, HOK.out.old HB2.out (fun q hq => by rw [hq]; exact Nat.le_of_lt HS0.out)⟩ (fun q hq => by rw [hq]; exact HS2.out) (fun q h1 h2 => by omega) HS2.out HN2.out (fun i W W' _ hb h => h.block (hb _ (Nat.le_refl _) (Nat.lt_succ_self _))) ?_ ?_).mono ?_
      · intro hk W h
        by_cases h1 : 1 < t.args.length
        · have := TT.selfss_take t.kind t.args h1
          rw [if_pos ⟨hk, rfl⟩, Nat.add_zero] at this
          show NumAt w0.heap.size (TT.selfss t.kind 0 (t.args.take 2)) W
          rw [this]; exact h
        · rw [List.take_of_length_le (by omega)]
          rw [List.take_of_length_le (by omega)] at h
          exact h
      · as_aux_lemma =>
        intro i hi hno y W Sx hSx hSl hSw hsz hagr hI hy
        have hb := TT.selfss_le t.kind 0 (t.args.take i)
        have hb2 := TT.cnts_take t.args i
        have hcl := HCL.out
        refine (uselfsc_any t.args[i] y w0.heap.size (TT.selfss t.kind 0 (t.args.take i)) W Sx (Nat.le_trans (HCS.out i hi) (by omega)) (by omega) (fun y' W' h => IH.out _ y' W' (HCS.out i hi) h) hy (hSx _ rfl) hSl hI).mono ?_
        rintro e w' ⟨z, rfl, hz, ho, hn⟩
        refine ⟨z, rfl, hz, ho, ?_⟩
        have := TT.selfss_take t.kind t.args hi
        rw [if_neg hno] at this
        show NumAt w0.heap.size (TT.selfss t.kind 0 (t.args.take (i + 1))) w'
        rw [this]; exact hn
      · rintro e w3 ⟨z, rfl, -, hO, hN3⟩
        rw [List.take_length] at hN3
        have c3 := hN3.2
        have hbe : Below w.heap.size w w3 := HB2.out.trans ⟨hO.os, hO.tape, hO.output, hO.size, fun q hq => hO.block q (by have := HB2.out.size; omega) (.inl (by have := HS0.out; omega))⟩
        clear hO hN3 hw0 hw1 hw2 q0 c1 f1
        go_wp2_with fail
        go_ret
        exact ⟨by rw [HSF.out]; rfl, hbe⟩
end Go.Proofs.Yteebbffecaeciaa
