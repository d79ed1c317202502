/- Texts of this claim laid into one: TCopyE, PMake, TStepM, TMakeT, TAgree. -/
import Derived.Test.YteebbffecaeciaaM12
import Derived.Test.YteebbffecaeciaaM09
import Derived.Test.YteebbffecaeciaaM08
/- term.Copy: what lies there at its return. -/
namespace Go.Proofs.Yteebbffecaeciaa
open Go.RowKit

/-- the worlds of Copy's end. -/
structure CopyEnd (w w0 w1 w2 w3 wb wr : World) : Prop where
  s0 : w.heap.size < w0.heap.size
  s1 : w0.heap.size < w1.heap.size
  s2 : w1.heap.size ≤ w2.heap.size
  s3 : w2.heap.size ≤ w3.heap.size
  sb : w3.heap.size ≤ wb.heap.size
  sr : wb.heap.size ≤ wr.heap.size
  k3 : ∀ k, k < w2.heap.size → k ≠ w.heap.size → w3.heap[k]? = w2.heap[k]?
section
variable {w w0 w1 w2 w3 wb wr : World} (S : CopyEnd w w0 w1 w2 w3 wb wr)
include S
theorem copy_vs {wE : World} {vs : List VT} {a5 a6 : Option Addr} {c5 c6 TV TC n6 : Nat} {Ex : World → Nat → Nat → Prop} (hT : TV ≠ TC) (hE1 : ∀ b, b ≠ w0.heap.size → wE.heap[b]? = wr.heap[b]?) (hv : LoopG TV 3 vs.length (EV w3.heap.size vs) a5 c5 w2.heap.size w3 wb vs.length)
    (hr : LoopG TC 15 n6 Ex a6 c6 w2.heap.size wb wr n6) (hc3 : n6 = 0 ∨ ∃ B, a6 = some ⟨B, 0, none⟩ ∧ w2.heap.size ≤ B ∧ B < w3.heap.size ∧ RowAt wb TC B (c6 * 15)) : vs = [] ∨ ∃ b, a5 = some ⟨b, 0, none⟩ ∧ w.heap.size ≤ b ∧ FRow wE w.heap.size vs b 0 := by
  obtain ⟨s0, s1, s2, s3, sb, sr, _⟩ := S
  rcases hv.row with h0 | ⟨B, e, hlo, hlt3, hrowB, hn, hdone, _⟩
  · exact .inl (List.length_eq_zero_iff.1 h0)
  · have hne6 : n6 = 0 ∨ ∀ o, a6 ≠ some ⟨B, o, none⟩ := by
      rcases hc3 with h0 | ⟨B6, e6, _, _, hr6⟩
      · exact .inl h0
      · exact .inr fun o e' => by rw [e6] at e'; cases e'; exact hT (hrowB.one hr6)
    have hBs : wE.heap[B]? = wb.heap[B]? := (hE1 B (by omega)).trans (hr.same B (by omega) hne6)
    have hnew : ∀ b, w3.heap.size ≤ b → b < wb.heap.size → wE.heap[b]? = wb.heap[b]? := fun b h1 h2 => (hE1 b (by omega)).trans (hr.same b h2 (by
      rcases hc3 with h0 | ⟨B6, e6, _, h6, _⟩
      · exact .inl h0
      · exact .inr fun o e' => by rw [e6] at e'; cases e'; omega))
    refine .inr ⟨B, e, by omega, EV.all (L := w3.heap.size) (by omega) fun j hj => ?_⟩
    refine EV.keeps _ _ wb wE B j (hdone j hj) (fun b o u h1 hu => ?_) (fun b o u h1 hu hz => ?_) (fun o u _ _ hu => ⟨?_, fun hz => ?_⟩)
    · rw [World.cell?_of_block (w := wb) (a := ⟨b, o, none⟩) (hnew b h1 (lt_of_cell hu))]; exact hu
    · rw [frozen_of_block (hnew b h1 (lt_of_cell hu))]; exact hz
    · rw [World.cell?_of_block (w := wb) (a := ⟨B, o, none⟩) hBs]; exact hu
    · rw [frozen_of_block hBs]; exact hz
theorem copy_args {wE : World} {l : List TT} {a6 : Option Addr} {c6 TC : Nat} (hE1 : ∀ b, b ≠ w0.heap.size → wE.heap[b]? = wr.heap[b]?)
    (hr : LoopG TC 15 l.length (ET wb.heap.size l) a6 c6 w2.heap.size wb wr l.length) : l = [] ∨ ∃ b, a6 = some ⟨b, 0, none⟩ ∧ w.heap.size ≤ b ∧ TFRow wE w.heap.size l b 0 := by
  obtain ⟨s0, s1, s2, s3, sb, sr, _⟩ := S
  rcases hr.row with h0 | ⟨B, e, hlo, hltB, hrowB, hn, hdone, _⟩
  · exact .inl (List.length_eq_zero_iff.1 h0)
  · refine .inr ⟨B, e, by omega, ET.all (L := wb.heap.size) (by omega) fun j hj => ?_⟩
    refine ET.keeps _ _ wr wE B j (hdone j hj) (fun b o u h1 hu => ?_) (fun b o u h1 hu hz => ?_) (fun o u _ _ hu => ⟨?_, fun hz => ?_⟩)
    · rw [World.cell?_of_block (w := wr) (a := ⟨b, o, none⟩) (hE1 b (by omega))]; exact hu
    · rw [frozen_of_block (hE1 b (by omega))]; exact hz
    · rw [World.cell?_of_block (w := wr) (a := ⟨B, o, none⟩) (hE1 B (by omega))]; exact hu
    · rw [frozen_of_block (hE1 B (by omega))]; exact hz
end
theorem cells15 {w : World} {B T n : Nat} {t : TT} {A : TA} (hrow : RowAt w T B n) (hn : 15 ≤ n) : TCells (setL B (cellsT 0 t A) w) B 0 t A := by
  have hin := setL_in B (cellsT 0 t A) w (by simp [cellsT]) (fun p hp => hrow.cell p.1 (by have := cellsT_off _ _ _ p hp; omega))
  refine ⟨?_, ?_, ?_, ?_, ?_, ?_, ?_, ?_, ?_, ?_, ?_, ?_, ?_, ?_, ?_⟩
  all_goals exact hin (_, _) (by simp [cellsT])
/-- the world that Copy returns in. -/
theorem copy_end {w w0 w1 w2 w3 wb wr : World} {k lo hi0 : Int} {v : VT} {vs : List VT} {ws : List Int} {p : PT} {l : List TT} {a1 a2 a3 a4 a5 a6 : Option Addr} {c1 c2 c3 c4 c5 c6 TV TC : Nat} {T : Nat} (hT : TV ≠ TC)
    (S : CopyEnd w w0 w1 w2 w3 wb wr) (hlen : l.length ≤ 651562446070 ∧ vs.length ≤ 3518437208780 ∧ ws.length ≤ 17592186043904)
    (hf1 : FIn w2 w1.heap.size v (.agg #[.int .u8 v.kind, .int .i64 v.num, .slice a1 v.items.length c1]))
    (hf2 : PFIn w2 w1.heap.size p (.agg #[.int .u8 p.kind, .int .u8 p.val.kind, .int .i64 p.val.num, .slice a2 p.val.items.length c2, .int .i64 p.num, .slice a3 p.args.length c3]))
    (hf3 : ws = [] ∨ ∃ b, a4 = some ⟨b, 0, none⟩ ∧ w1.heap.size ≤ b ∧ WFRow w2 ws b 0)
    (hv : LoopG TV 3 vs.length (EV w3.heap.size vs) a5 c5 w2.heap.size w3 wb vs.length) (hr : LoopG TC 15 l.length (ET wb.heap.size l) a6 c6 w2.heap.size wb wr l.length)
    (hc3 : l.length = 0 ∨ ∃ B, a6 = some ⟨B, 0, none⟩ ∧ w2.heap.size ≤ B ∧ B < w3.heap.size ∧ RowAt wb TC B (c6 * 15)) (hrow : RowAt wr T w0.heap.size 15) (hb4 : Below w.heap.size w wb) :
    ∃ wE, wr.setCells w0.heap.size 0 [.int .u8 k, .int .u8 v.kind, .int .i64 v.num, .slice a1 v.items.length c1, .slice a5 vs.length c5, .int .i64 lo, .int .i64 hi0, .slice a4 ws.length c4, .int .u8 p.kind, .int .u8 p.val.kind, .int .i64 p.val.num, .slice a2 p.val.items.length c2, .int .i64 p.num, .slice a3 p.args.length c3, .slice a6 l.length c6] = wE ∧
      TFOk wE w.heap.size (.mk k v vs lo hi0 ws p l) ⟨a1, c1, a5, c5, a4, c4, a2, c2, a3, c3, a6, c6⟩ ∧ Below w.heap.size w wE ∧ TCells wE w0.heap.size 0 (.mk k v vs lo hi0 ws p l) ⟨a1, c1, a5, c5, a4, c4, a2, c2, a3, c3, a6, c6⟩ := by
  refine ⟨setL w0.heap.size (cellsT 0 (.mk k v vs lo hi0 ws p l) ⟨a1, c1, a5, c5, a4, c4, a2, c2, a3, c3, a6, c6⟩) wr, setCells_setL w0.heap.size _ 0 wr, ?_, ?_, cells15 hrow (Nat.le_refl _)⟩
  · have hE1 : ∀ b, b ≠ w0.heap.size → (setL w0.heap.size (cellsT 0 (.mk k v vs lo hi0 ws p l) ⟨a1, c1, a5, c5, a4, c4, a2, c2, a3, c3, a6, c6⟩) wr).heap[b]? = wr.heap[b]? := fun b hb => setL_block _ hb _ _
    generalize setL w0.heap.size _ wr = wE at hE1 ⊢
    have hvs := copy_vs S hT hE1 hv hr hc3
    have has := copy_args S hE1 hr
    obtain ⟨s0, s1, s2, s3, sb, sr, k3⟩ := S
    have keep2 : ∀ b, w1.heap.size ≤ b → b < w2.heap.size → wE.heap[b]? = w2.heap[b]? := fun b h1 h2 =>
      (hE1 b (by omega)).trans ((hr.oldBlock h2 (by omega)).trans ((hv.oldBlock h2 (by omega)).trans (k3 b h2 (by omega))))
    have hc2 : ∀ b o u, w1.heap.size ≤ b → w2.cell? ⟨b, o, none⟩ = some u → wE.cell? ⟨b, o, none⟩ = some u := fun b o u h1 hu => by
      rw [World.cell?_of_block (w := w2) (a := ⟨b, o, none⟩) (keep2 b h1 (lt_of_cell hu))]; exact hu
    have hz2 : ∀ b o u, w1.heap.size ≤ b → w2.cell? ⟨b, o, none⟩ = some u → w2.frozen? ⟨b, o, none⟩ = false → wE.frozen? ⟨b, o, none⟩ = false := fun b o u h1 hu hz => by
      rw [frozen_of_block (keep2 b h1 (lt_of_cell hu))]; exact hz
    have hm : w.heap.size ≤ w1.heap.size := by omega
    exact TFOk.of ⟨hlen, hf1.mono hm hc2 hz2, hvs, hf3.imp id fun ⟨b, e, hb, hr⟩ => ⟨b, e, Nat.le_trans hm hb, WFRow.mono (lo := w1.heap.size) hc2 hz2 ws b 0 hb hr⟩, hf2.mono hm hc2 hz2, has⟩
  · have := S.s0; have := S.s1; have := S.s2; have := S.s3; have := S.sb
    exact setL_below _ (by omega) _ _ (hb4.trans (hr.below.mono (by omega)))
end Go.Proofs.Yteebbffecaeciaa
/- pred.Yes, No, Eq, Less, And, Or, Not, At, All, Any, Len. -/
namespace Go.Proofs.Yteebbffecaeciaa
open Go.RowKit

/-- the value that is none. -/
def vNone : VT := .mk 0 0 []
theorem FIn.none (w : World) (lo : Nat) : FIn w lo vNone (.agg #[.int .u8 0, .int .i64 0, .slice none 0 0]) := by
  unfold vNone
  rw [FIn]
  exact ⟨Option.none, 0, by simp, rfl, .inl rfl⟩

theorem PFIn.sets {w w' : World} {lo : Nat} (hc : ∀ b o v, lo ≤ b → w.cell? ⟨b, o, none⟩ = some v → w'.cell? ⟨b, o, none⟩ = some v) (hf : ∀ p, w'.frozen? p = w.frozen? p) {t : PT} {v : Value} (h : PFIn w lo t v) : PFIn w' lo t v :=
  h.mono (Nat.le_refl _) hc (fun _ _ _ _ _ h => by rw [hf]; exact h) t v

end Go.Proofs.Yteebbffecaeciaa
/- The law's own put, and the stage's theorem on trees. -/
namespace Go.Proofs.Yteebbffecaeciaa
open Go.RowKit

def pNone : PT := .mk 0 vNone 0 []
def tNum (n : Int) : TT := .mk 1 (.mk 1 n []) [] 0 0 [] pNone []
def tSelf : TT := .mk 11 vNone [] 0 0 [] pNone []
def tOf (k : Int) (l : List TT) : TT := .mk k vNone [] 0 0 [] pNone l
def tList (lo hi : Int) (t : TT) : TT := .mk 6 vNone [] lo hi [] pNone [t]
def tSized (n : Int) (a b : TT) : TT := .mk 10 vNone [] n 0 [] pNone [a, b]
mutual
/-- a term, with another one for each Self that belongs to no Sized in it: as the law has it. -/
def TT.putL : TT → TT → TT
  | .mk k v vs lo hi ws p l, s => if k = 11 then s else .mk k v vs lo hi ws p (TT.putLs k 0 l s)
def TT.putLs (k : Int) (i : Nat) : List TT → TT → List TT
  | [], _ => []
  | t :: ts, s => (if k = 10 ∧ i ≠ 0 then t else t.putL s) :: TT.putLs k (i + 1) ts s
end
mutual
theorem TT.putL_put (s : TT) : ∀ (t : TT) (b : Bool), t.sane b = true → t.putL s = t.put s
  | .mk k v vs lo hi ws p l, b, h => by
    obtain ⟨h1, _, h3⟩ := TT.sane_parts h
    rw [TT.putL, TT.put, TT.putLs_puts s l k 0 b (fun e => by have := (TT.right h1).len2 e; simp only [TT.args] at this; omega) h3]
theorem TT.putLs_puts (s : TT) : ∀ (l : List TT) (k : Int) (i : Nat) (b : Bool), (k = 10 → i + l.length ≤ 2) → TT.sanes b k i l = true → TT.putLs k i l s = TT.puts k i l s
  | [], _, _, _, _, _ => by rw [TT.putLs, TT.puts]
  | t :: ts, k, i, b, hk, h => by
    rw [TT.sanes, Bool.and_eq_true] at h
    simp only [List.length_cons] at hk
    rw [TT.putLs, TT.puts, TT.putLs_puts s ts k (i + 1) b (fun e => by have := hk e; omega) h.2, TT.putL_put s t _ h.1]
    by_cases h1 : k = 10 ∧ i = 1
    · rw [if_pos ⟨h1.1, by omega⟩, if_pos h1]
    · rw [if_neg (fun e => h1 ⟨e.1, by have := hk e.1; omega⟩), if_neg h1]
end
mutual
theorem TT.cnt_putL (s : TT) : ∀ t : TT, (t.putL s).cnt ≤ t.cnt * s.cnt
  | .mk k v vs lo hi ws p l => by
    have hs := TT.cnt_pos s
    rw [TT.putL]
    split
    · rw [TT.cnt]
      calc s.cnt = 1 * s.cnt := by omega
        _ ≤ _ := Nat.mul_le_mul_right _ (by omega)
    · have h := TT.cnts_putLs s l k 0
      rw [TT.cnt, TT.cnt, Nat.add_mul]
      omega
theorem TT.cnts_putLs (s : TT) : ∀ (l : List TT) (k : Int) (i : Nat), TT.cnts (TT.putLs k i l s) ≤ TT.cnts l * s.cnt
  | [], _, _ => by rw [TT.putLs, TT.cnts]; omega
  | t :: ts, k, i => by
    have h := TT.cnts_putLs s ts k (i + 1)
    have h1 := TT.cnt_putL s t
    have hs := TT.cnt_pos s
    have h2 : t.cnt ≤ t.cnt * s.cnt := Nat.le_mul_of_pos_right _ hs
    rw [TT.putLs, TT.cnts, TT.cnts, Nat.add_mul]
    split <;> omega
end
mutual
theorem TT.lean_putL (s : TT) (hs : s.lean = true) : ∀ t : TT, t.lean = true → (t.putL s).lean = true
  | .mk k v vs lo hi ws p l, h => by
    rw [TT.putL]
    split
    · exact hs
    · rw [TT.lean] at h ⊢
      simp only [Bool.and_eq_true] at h ⊢
      exact ⟨h.1, TT.leans_putLs s hs l k 0 h.2⟩
theorem TT.leans_putLs (s : TT) (hs : s.lean = true) : ∀ (l : List TT) (k : Int) (i : Nat), TT.leans l = true → TT.leans (TT.putLs k i l s) = true
  | [], _, _, _ => by rw [TT.putLs, TT.leans]
  | t :: ts, k, i, h => by
    rw [TT.leans, Bool.and_eq_true] at h
    rw [TT.putLs, TT.leans, TT.leans_putLs s hs ts k (i + 1) h.2, Bool.and_true]
    split
    · exact h.1
    · exact TT.lean_putL s hs t h.1
end
theorem TT.sound_parts {t : TT} (h : t.sound = true) : t.sane false = true ∧ t.bulk 0 ≤ 4096 ∧ 0 < t.bulk 0 ∧ t.Bulk = t.bulk 0 ∧ t.High = t.high 0 ∧ t.high 0 ≤ 128 := by
  unfold TT.sound at h
  simp only [Bool.and_eq_true, decide_eq_true_eq] at h
  obtain ⟨⟨h1, h2⟩, h3⟩ := h
  have hs : t.sane false = true := by
    rcases hq : t.sane false with _ | _
    · rw [TT.Bulk, hq] at h1; simp at h1
    · rfl
  have hb : t.Bulk = min (t.bulk 0) 4097 := by rw [TT.Bulk, hs]; simp
  have hb2 : t.bulk 0 ≤ 4096 := by omega
  have hh : t.High = t.high 0 := by rw [TT.High, hs, decide_eq_true hb2]; simp
  exact ⟨hs, hb2, by omega, by omega, hh, by omega⟩
theorem TT.bulk_pos0 {t : TT} (h : t.sane false = true) : 0 < t.bulk 0 := by
  rw [TT.bulk_closed 0 1 t h]
  exact TT.bulk_pos t false 1 h (Nat.le_refl _)
theorem TT.sound_of {t : TT} (h : t.sane false = true) (hb : t.bulk 0 ≤ 4096) (hh : t.high 0 ≤ 128) : t.sound = true ∧ t.Bulk = t.bulk 0 ∧ t.High = t.high 0 := by
  have h0 := TT.bulk_pos0 h
  have e1 : t.Bulk = t.bulk 0 := by rw [TT.Bulk, h, if_pos rfl]; omega
  have e2 : t.High = t.high 0 := by rw [TT.High, h, decide_eq_true hb]; simp
  refine ⟨?_, e1, e2⟩
  unfold TT.sound
  rw [e1, e2]
  simp [h0, hb, hh]
def stepX (n : Int) (a b : TT) : TT := if 0 < n then b.putL (tSized (n - 1) a b) else a
end Go.Proofs.Yteebbffecaeciaa
/- The makers of chapter 19's law: num, span, self, of, list, sized. -/
namespace Go.Proofs.Yteebbffecaeciaa
open Go.RowKit

/-- what a maker of t hands back. -/
def TMade (t : TT) (w : World) (e : Ending) (w' : World) : Prop := ∃ x', e = .returned x' ∧ TIn w' t x' ∧ Below w.heap.size w w'
theorem stored15 {w1 : World} {B T : Nat} (hrow : RowAt w1 T B 15) (t : TT) (A : TA) : ∃ wE, w1.setCells B 0 [.int .u8 t.kind, .int .u8 t.v.kind, .int .i64 t.v.num, .slice A.va t.v.items.length A.vc, .slice A.sa t.vs.length A.sc, .int .i64 t.lo, .int .i64 t.hi, .slice A.wa t.ws.length A.wc, .int .u8 t.p.kind, .int .u8 t.p.val.kind, .int .i64 t.p.val.num, .slice A.qa t.p.val.items.length A.qc, .int .i64 t.p.num, .slice A.pa t.p.args.length A.pc, .slice A.aa t.args.length A.ac] = wE ∧
    TCells wE B 0 t A ∧ (∀ b o v, b ≠ B → w1.cell? ⟨b, o, none⟩ = some v → wE.cell? ⟨b, o, none⟩ = some v) ∧ ∀ lo a, lo ≤ B → Below lo a w1 → Below lo a wE :=
  ⟨setL B (cellsT 0 t A) w1, setCells_setL B _ 0 w1, cells15 hrow (Nat.le_refl _), fun b o v hb h => by rw [setL_out B b o _ w1 (fun e => absurd e hb)]; exact h, fun lo a hlo h => setL_below B hlo _ _ h⟩
theorem vin_plain (w : World) (k n : Int) : VIn w (.mk k n []) (.agg #[.int .u8 k, .int .i64 n, .slice none 0 0]) := VIn.shut (by simp) (by rw [VRow]; trivial)
theorem pin_none (w : World) : PIn w pNone (.agg #[.int .u8 0, .int .u8 0, .int .i64 0, .slice none 0 0, .int .i64 0, .slice none 0 0]) := PIn.shut (by simp) (vin_plain w 0 0) prow_nil
/-- a term with just a value of no items, two numbers, and arguments. -/
def plainA (aa : Option Addr) (ac : Nat) : TA := ⟨none, 0, none, 0, none, 0, none, 0, none, 0, aa, ac⟩
theorem tok_plain {w : World} {k vk vn lo hi : Int} {l : List TT} {aa : Option Addr} {ac : Nat} (hl : l.length ≤ 651562446070) (hr : TRow w l aa) : TOk w (.mk k (.mk vk vn []) [] lo hi [] pNone l) (plainA aa ac) :=
  TOk.of ⟨⟨hl, by simp [TT.vs], by simp [TT.ws]⟩, vin_plain w vk vn, by rw [TT.vs, VRow]; trivial, wrow_nil, pin_none w, hr⟩

/-- a box that holds a term. -/
def BoxT (w : World) (B : Nat) (t : TT) : Prop := ∃ A, TCells w B 0 t A ∧ TOk w t A
theorem BoxT.below {w w' : World} {B : Nat} {t : TT} (h : BoxT w B t) (hb : Below w.heap.size w w') : BoxT w' B t := by
  obtain ⟨A, h0, h1⟩ := h; exact ⟨A, h0.below hb, h1.below hb⟩
theorem TCells.range {w : World} {b o : Nat} {t : TT} {A : TA} (h : TCells w b o t A) : w.rangeAt b o (cellsOf t A).toList := by
  obtain ⟨h0, h1, h2, h3, h4, h5, h6, h7, h8, h9, h10, h11, h12, h13, h14⟩ := h
  intro j v hj
  have hlt : j < 15 := (List.getElem?_eq_some_iff.1 hj).1
  rcases (by omega : j = 0 ∨ j = 1 ∨ j = 2 ∨ j = 3 ∨ j = 4 ∨ j = 5 ∨ j = 6 ∨ j = 7 ∨ j = 8 ∨ j = 9 ∨ j = 10 ∨ j = 11 ∨ j = 12 ∨ j = 13 ∨ j = 14) with rfl | rfl | rfl | rfl | rfl | rfl | rfl | rfl | rfl | rfl | rfl | rfl | rfl | rfl | rfl
  all_goals (cases hj; assumption)
theorem size15 : (Try.prog.info? 47).map (·.size) = some 15 := by
  obtain ⟨i0, hi, hz0, hz1, hz2⟩ := info_parts zeroT
  rw [hi, Option.map_some, hz1]
theorem run_load15 {w : World} {B q : Nat} {t : TT} {A : TA} (hc : TCells w B q t A) {o : Oper} {r : Operand → Value} {po : Operand} (ho : o.op = .load 47 po) (e1 : r po = .pointer (some ⟨B, q, none⟩)) :
    (execOp r o).run Try.prog w = .ok (.value (t.val A)) w := by
  obtain ⟨od, oo, ot, op, oa, og⟩ := o
  simp only at ho
  subst ho
  have h := run_loadAt_mid (P := Try.prog) w B q 47 _ _ hc.range Try.underlying47 rfl size15
  unfold execOp
  simp only [e1, Sem.run_bind, Sem.run_pure, h, Result.andThen_ok]
  rfl
theorem row1_new (w : World) (t : TT) (A : TA) : ∃ w2, w.alloc (.cells #[.int .u8 t.kind, .int .u8 t.v.kind, .int .i64 t.v.num, .slice A.va t.v.items.length A.vc, .slice A.sa t.vs.length A.sc, .int .i64 t.lo, .int .i64 t.hi, .slice A.wa t.ws.length A.wc, .int .u8 t.p.kind, .int .u8 t.p.val.kind, .int .i64 t.p.val.num, .slice A.qa t.p.val.items.length A.qc, .int .i64 t.p.num, .slice A.pa t.p.args.length A.pc, .slice A.aa t.args.length A.ac] 47) = w2 ∧
    Below w.heap.size w w2 ∧ w.heap.size < w2.heap.size ∧ TCells w2 w.heap.size 0 t A ∧ RowAt w2 47 w.heap.size 15 := by
  obtain ⟨w2, h, m, s, R, hc⟩ := box15 w (.int .u8 t.kind) (.int .u8 t.v.kind) (.int .i64 t.v.num) (.slice A.va t.v.items.length A.vc) (.slice A.sa t.vs.length A.sc) (.int .i64 t.lo) (.int .i64 t.hi) (.slice A.wa t.ws.length A.wc) (.int .u8 t.p.kind) (.int .u8 t.p.val.kind) (.int .i64 t.p.val.num) (.slice A.qa t.p.val.items.length A.qc) (.int .i64 t.p.num) (.slice A.pa t.p.args.length A.pc) (.slice A.aa t.args.length A.ac) 47
  exact ⟨w2, h, m, s, hc, R⟩
end Go.Proofs.Yteebbffecaeciaa
/- What is so in all worlds that are as this one but for some blocks. -/
namespace Go.Proofs.Yteebbffecaeciaa
open Go.RowKit

theorem TCells.block {w w' : World} {b o : Nat} {t : TT} {A : TA} (hb : w'.heap[b]? = w.heap[b]?) (h : TCells w b o t A) : TCells w' b o t A := h.keep fun o v hc => by rw [World.cell?_of_block (w := w) (a := ⟨b, o, none⟩) hb]; exact hc
/-- W has w's blocks but those of S. -/
def AgreeS (S : Nat → Prop) (w W : World) : Prop := w.heap.size ≤ W.heap.size ∧ ∀ k, k < w.heap.size → ¬ S k → W.heap[k]? = w.heap[k]?
theorem AgreeS.cell {S : Nat → Prop} {w W : World} (h : AgreeS S w W) {b o : Nat} {v : Value} (hb : ¬ S b) (hc : w.cell? ⟨b, o, none⟩ = some v) : W.cell? ⟨b, o, none⟩ = some v := by
  rw [World.cell?_of_block (w := w) (a := ⟨b, o, none⟩) (h.2 b (lt_of_cell hc) hb)]; exact hc
/-- what is so in all worlds that are as this one but for the blocks of S. -/
def TOkA (S : Nat → Prop) (w : World) (t : TT) (A : TA) : Prop := ∀ W, AgreeS S w W → TOk W t A
def TInA (S : Nat → Prop) (w : World) (t : TT) (x : Value) : Prop := ∃ A, x = t.val A ∧ TOkA S w t A
theorem AgreeS.back' {S S' : Nat → Prop} {w w' W : World} (hs : w.heap.size ≤ w'.heap.size) (hk : ∀ k, k < w.heap.size → ¬ S k → ¬ S' k ∧ w'.heap[k]? = w.heap[k]?) (ha : AgreeS S' w' W) : AgreeS S w W :=
  ⟨Nat.le_trans hs ha.1, fun k h1 h2 => (ha.2 k (Nat.lt_of_lt_of_le h1 hs) (hk k h1 h2).1).trans (hk k h1 h2).2⟩
theorem TOkA.step {S S' : Nat → Prop} {w w' : World} {t : TT} {A : TA} (h : TOkA S w t A) (hs : w.heap.size ≤ w'.heap.size) (hk : ∀ k, k < w.heap.size → ¬ S k → ¬ S' k ∧ w'.heap[k]? = w.heap[k]?) : TOkA S' w' t A := fun W ha => h W (ha.back' hs hk)
theorem TOkA.below {S : Nat → Prop} {w w' : World} {t : TT} {A : TA} (h : TOkA S w t A) (hb : Below w.heap.size w w') : TOkA S w' t A := h.step hb.size fun k h1 h2 => ⟨h2, hb.block k h1⟩
theorem TOkA.ok {S : Nat → Prop} {w : World} {t : TT} {A : TA} (h : TOkA S w t A) : TOk w t A := h w ⟨Nat.le_refl _, fun _ _ _ => rfl⟩
theorem TIn.any {w : World} {t : TT} {x : Value} (h : TIn w t x) : TInA (fun _ => False) w t x := by
  obtain ⟨A, e, h⟩ := h
  exact ⟨A, e, fun W ha => h.mono (fun b o v hc => ha.cell (fun h => h) hc) t A⟩
theorem TInA.below {S : Nat → Prop} {w w' : World} {t : TT} {x : Value} (h : TInA S w t x) (hb : Below w.heap.size w w') : TInA S w' t x := by
  obtain ⟨A, e, h⟩ := h; exact ⟨A, e, h.below hb⟩
theorem TInA.tin {S : Nat → Prop} {w : World} {t : TT} {x : Value} (h : TInA S w t x) : TIn w t x := by
  obtain ⟨A, e, h⟩ := h; exact ⟨A, e, h.ok⟩
/-- what was so ahead of the blocks of S is so whatever they hold. -/
theorem TOk.old {S : Nat → Prop} {w w' : World} {t : TT} {A : TA} (h : TOk w t A) (hb : Below w.heap.size w w') (hS : ∀ k, S k → w.heap.size ≤ k) : TOkA S w' t A := fun W ha =>
  h.mono (fun b o v hc => by
    have hlt := lt_of_cell hc
    have e : W.heap[b]? = w.heap[b]? := (ha.2 b (Nat.lt_of_lt_of_le hlt hb.size) (fun hk => absurd (hS b hk) (by omega))).trans (hb.block b hlt)
    rw [World.cell?_of_block (w := w) (a := ⟨b, o, none⟩) e]; exact hc) t A
end Go.Proofs.Yteebbffecaeciaa
