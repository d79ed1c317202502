/- Texts of this claim laid into one: TCopyE, PMake, TStepM, TMakeT, TAgree. -/
import Derived.Test.YteebbffecaeciaaM12
import Derived.Test.YteebbffecaeciaaM09
import Derived.Test.YteebbffecaeciaaM08
/- term.Copy: what lies there at its return. -/
namespace Go.Proofs.Yteebbffecaeciaa
open Go.RowKit

/-- the worlds of Copy's end. -/
structure CopyEnd (w w0 w1 w2 w3 wb wr : World) : Prop where
  s0 : w.heap.size < w0.heap.size
  s1 : w0.heap.size < w1.heap.size
  s2 : w1.heap.size ≤ w2.heap.size
  s3 : w2.heap.size ≤ w3.heap.size
  sb : w3.heap.size ≤ wb.heap.size
  sr : wb.heap.size ≤ wr.heap.size
  k3 : ∀ k, k < w2.heap.size → k ≠ w.heap.size → w3.heap[k]? = w2.heap[k]?
section
variable {w w0 w1 w2 w3 wb wr : World} (S : CopyEnd w w0 w1 w2 w3 wb wr)
include S
theorem copy_vs {wE : World} {vs : List VT} {a5 a6 : Option Addr} {c5 c6 TV TC n6 : Nat} {Ex : World → Nat → Nat → Prop} (hT : TV ≠ TC) (hE1 : ∀ b, b ≠ w0.heap.size → wE.heap[b]? = wr.heap[b]?) (hv : LoopG TV 3 vs.length (EV w3.heap.size vs) a5 c5 w2.heap.size w3 wb vs.length)
    (hr : LoopG TC 15 n6 Ex a6 c6 w2.heap.size wb wr n6) (hc3 : n6 = 0 ∨ ∃ B, a6 = some ⟨B, 0, none⟩ ∧ w2.heap.size ≤ B ∧ B < w3.heap.size ∧ RowAt wb TC B (c6 * 15)) : vs = [] ∨ ∃ b, a5 = some ⟨b, 0, none⟩ ∧ w.heap.size ≤ b ∧ FRow wE w.heap.size vs b 0 := by
  obtain ⟨s0, s1, s2, s3, sb, sr, _⟩ := S
  rcases hv.row with h0 | ⟨B, e, hlo, hlt3, hrowB, hn, hdone, _⟩
  · exact .inl (List.length_eq_zero_iff.1 h0)
  · have hne6 : n6 = 0 ∨ ∀ o, a6 ≠ some ⟨B, o, none⟩ := by
      rcases hc3 with h0 | ⟨B6, e6, _, _, hr6⟩
      · exact .inl h0
      · exact .inr fun o e' => by rw [e6] at e'; cases e'; exact hT (hrowB.one hr6)
    have hBs : wE.heap[B]? = wb.heap[B]? := (hE1 B (by omega)).trans (hr.same B (by omega) hne6)
    have hnew : ∀ b, w3.heap.size ≤ b → b < wb.heap.size → wE.heap[b]? = wb.heap[b]? := fun b h1 h2 => (hE1 b (by omega)).trans (hr.same b h2 (by
      rcases hc3 with h0 | ⟨B6, e6, _, h6, _⟩
      · exact .inl h0
      · exact .inr fun o e' => by rw [e6] at e'; cases e'; omega))
    refine .inr ⟨B, e, by omega, EV.all (L := w3.heap.size) (by omega) fun j hj => ?_⟩
    refine EV.keeps _ _ wb wE B j (hdone j hj) (fun b o u h1 hu => ?_) (fun b o u h1 hu hz => ?_) (fun o u _ _ hu => ⟨?_, fun hz => ?_⟩)
    · rw [World.cell?_of_block (w := wb) (a := ⟨b, o, none⟩) (hnew b h1 (lt_of_cell hu))]; exact hu
    · rw [frozen_of_block (hnew b h1 (lt_of_cell hu))]; exact hz
    · rw [World.cell?_of_block (w := wb) (a := ⟨B, o, none⟩) hBs]; exact hu
    · rw [frozen_of_block hBs]; exact hz
theorem copy_args {wE : World} {l : List TT} {a6 : Option Addr} {c6 TC : Nat} (hE1 : ∀ b, b ≠ w0.heap.size → wE.heap[b]? = wr.heap[b]?)
    (hr : LoopG TC 15 l.length (ET wb.heap.size l) a6 c6 w2.heap.size wb wr l.length) : l = [] ∨ ∃ b, a6 = some ⟨b, 0, none⟩ ∧ w.heap.size ≤ b ∧ TFRow wE w.heap.size l b 0 := by
  obtain ⟨s0, s1, s2, s3, sb, sr, _⟩ := S
  rcases hr.row with h0 | ⟨B, e, hlo, hltB, hrowB, hn, hdone, _⟩
  · exact .inl (List.length_eq_zero_iff.1 h0)
  · refine .inr ⟨B, e, by omega, ET.all (L := wb.heap.size) (by omega) fun j hj => ?_⟩
    refine ET.keeps _ _ wr wE B j (hdone j hj) (fun b o u h1 hu => ?_) (fun b o u h1 hu hz => ?_) (fun o u _ _ hu => ⟨?_, fun hz => ?_⟩)
    · rw [World.cell?_of_block (w := wr) (a := ⟨b, o, none⟩) (hE1 b (by omega))]; exact hu
    · rw [frozen_of_block (hE1 b (by omega))]; exact hz
    · rw [World.cell?_of_block (w := wr) (a := ⟨B, o, none⟩) (hE1 B (by omega))]; exact hu
    · rw [frozen_of_block (hE1 B (by omega))]; exact hz
end
theorem cells15 {w : World} {B T n : Nat} {t : TT} {A : TA} (hrow : RowAt w T B n) (hn : 15 ≤ n) : TCells (setL B (cellsT 0 t A) w) B 0 t A := by
  have hin := setL_in B (cellsT 0 t A) w (by simp [cellsT]) (fun p hp => hrow.cell p.1 (by have := cellsT_off _ _ _ p hp; omega))
  refine ⟨?_, ?_, ?_, ?_, ?_, ?_, ?_, ?_, ?_, ?_, ?_, ?_, ?_, ?_, ?_⟩
  all_goals exact hin (_, _) (by simp [cellsT])
/-- the world that Copy returns in. -/
theorem copy_end {w w0 w1 w2 w3 wb wr : World} {k lo hi0 : Int} {v : VT} {vs : List VT} {ws : List Int} {p : PT} {l : List TT} {a1 a2 a3 a4 a5 a6 : Option Addr} {c1 c2 c3 c4 c5 c6 TV TC : Nat} {T : Nat} (hT : TV ≠ TC)
    (S : CopyEnd w w0 w1 w2 w3 wb wr) (hlen : l.length ≤ 651562446070 ∧ vs.length ≤ 3518437208780 ∧ ws.length ≤ 17592186043904)
    (hf1 : FIn w2 w1.heap.size v (.agg #[.int .u8 v.kind, .int .i64 v.num, .slice a1 v.items.length c1]))
    (hf2 : PFIn w2 w1.heap.size p (.agg #[.int .u8 p.kind, .int .u8 p.val.kind, .int .i64 p.val.num, .slice a2 p.val.items.length c2, .int .i64 p.num, .slice a3 p.args.length c3]))
    (hf3 : ws = [] ∨ ∃ b, a4 = some ⟨b, 0, none⟩ ∧ w1.heap.size ≤ b ∧ WFRow w2 ws b 0)
    (hv : LoopG TV 3 vs.length (EV w3.heap.size vs) a5 c5 w2.heap.size w3 wb vs.length) (hr : LoopG TC 15 l.length (ET wb.heap.size l) a6 c6 w2.heap.size wb wr l.length)
    (hc3 : l.length = 0 ∨ ∃ B, a6 = some ⟨B, 0, none⟩ ∧ w2.heap.size ≤ B ∧ B < w3.heap.size ∧ RowAt wb TC B (c6 * 15)) (hrow : RowAt wr T w0.heap.size 15) (hb4 : Below w.heap.size w wb) :
    ∃ wE, wr.setCells w0.heap.size 0 [.int .u8 k, .int .u8 v.kind, .int .i64 v.num, .slice a1 v.items.length c1, .slice a5 vs.length c5, .int .i64 lo, .int .i64 hi0, .slice a4 ws.length c4, .int .u8 p.kind, .int .u8 p.val.kind, .int .i64 p.val.num, .slice a2 p.val.items.length c2, .int .i64 p.num, .slice a3 p.args.length c3, .slice a6 l.length c6] = wE ∧
      TFOk wE w.heap.size (.mk k v vs lo hi0 ws p l) ⟨a1, c1, a5, c5, a4, c4, a2, c2, a3, c3, a6, c6⟩ ∧ Below w.heap.size w wE ∧ TCells wE w0.heap.size 0 (.mk k v vs lo hi0 ws p l) ⟨a1, c1, a5, c5, a4, c4, a2, c2, a3, c3, a6, c6⟩ := by
  refine ⟨setL w0.heap.size (cellsT 0 (.mk k v vs lo hi0 ws p l) ⟨a1, c1, a5, c5, a4, c4, a2, c2, a3, c3, a6, c6⟩) wr, setCells_setL w0.heap.size _ 0 wr, ?_, ?_, cells15 hrow (Nat.le_refl _)⟩
  · have hE1 : ∀ b, b ≠ w0.heap.size → (setL w0.heap.size (cellsT 0 (.mk k v vs lo hi0 ws p l) ⟨a1, c1, a5, c5, a4, c4, a2, c2, a3, c3, a6, c6⟩) wr).heap[b]? = wr.heap[b]? := fun b hb => setL_block _ hb _ _
    generalize setL w0.heap.size _ wr = wE at hE1 ⊢
    have hvs := copy_vs S hT hE1 hv hr hc3
    have has := copy_args S hE1 hr
    obtain ⟨s0, s1, s2, s3, sb, sr, k3⟩ := S
    have keep2 : ∀ b, w1.heap.size ≤ b → b < w2.heap.size → wE.heap[b]? = w2.heap[b]? := fun b h1 h2 =>
      (hE1 b (by omega)).trans ((hr.oldBlock h2 (by omega)).trans ((hv.oldBlock h2 (by omega)).trans (k3 b h2 (by omega))))
    have hc2 : ∀ b o u, w1.heap.size ≤ b → w2.cell? ⟨b, o, none⟩ = some u → wE.cell? ⟨b, o, none⟩ = some u := fun b o u h1 hu => by
      rw [World.cell?_of_block (w := w2) (a := ⟨b, o, none⟩) (keep2 b h1 (lt_of_cell hu))]; exact hu
    have hz2 : ∀ b o u, w1.heap.size ≤ b → w2.cell? ⟨b, o, none⟩ = some u → w2.frozen? ⟨b, o, none⟩ = false → wE.frozen? ⟨b, o, none⟩ = false := fun b o u h1 hu hz => by
      rw [frozen_of_block (keep2 b h1 (lt_of_cell hu))]; exact hz
    have hm : w.heap.size ≤ w1.heap.size := by omega
    exact TFOk.of ⟨hlen, hf1.mono hm hc2 hz2, hvs, hf3.imp id fun ⟨b, e, hb, hr⟩ => ⟨b, e, Nat.le_trans hm hb, WFRow.mono (lo := w1.heap.size) hc2 hz2 ws b 0 hb hr⟩, hf2.mono hm hc2 hz2, has⟩
  · have := S.s0; have := S.s1; have := S.s2; have := S.s3; have := S.sb
    exact setL_below _ (by omega) _ _ (hb4.trans (hr.below.mono (by omega)))
end Go.Proofs.Yteebbffecaeciaa
/- pred.Yes, No, Eq, Less, And, Or, Not, At, All, Any, Len. -/
namespace Go.Proofs.Yteebbffecaeciaa
open Go.RowKit

theorem pcopies_any (l : List PT) (a : Option Addr) (cap : Nat) (w : World) (hl : l.length ≤ 1759218604390) (hr : PRow w l a) : Calls Try.prog 60 #[.slice a l.length cap] w (PCopiesOf l w) :=
  pcopies_of l a cap w hl hr (fun _ _ x W hx => pcopy_any _ _ x W (Nat.le_refl _) hx)
/-- the value that is none. -/
def vNone : VT := .mk 0 0 []
theorem FIn.none (w : World) (lo : Nat) : FIn w lo vNone (.agg #[.int .u8 0, .int .i64 0, .slice none 0 0]) := by
  unfold vNone
  rw [FIn]
  exact ⟨Option.none, 0, by simp, rfl, .inl rfl⟩

set_option maxHeartbeats 2000000 in
theorem pyes_any (w : World) : Calls Try.prog 11 #[] w (PCopyOf (.mk 1 vNone 0 []) w) := by
  obtain ⟨w1, hw1, m1, s1, R1, p0, p1, p2, p3, p4, p5⟩ := box6r w (.int .u8 0) (.int .u8 0) (.int .i64 0) (.slice none 0 0) (.int .i64 0) (.slice none 0 0) 28
  have h0 := R1.frozen 0
  have h1 := R1.frozen 1
  have h2 := R1.frozen 2
  have h3 := R1.frozen 3
  have h4 := R1.frozen 4
  have h5 := R1.frozen 5
  obtain ⟨w6, hw6, y0, y1, y2, y3, y4, y5, k6, f6, sz6, bl6⟩ := set6_all (u0 := .int .u8 1) (u1 := .int .u8 0) (u2 := .int .i64 0) (u3 := .slice none 0 0) (u4 := .int .i64 0) (u5 := .slice none 0 0) p0 p1 p2 p3 p4 p5
  have hB6 : Below w.heap.size w w6 := bl6 _ _ m1 (Nat.le_refl _)
  have HP := Lib.hid (PFIn.shut (w := w6) (lo := w.heap.size) (k := 1) (n := 0) (l := []) (cap := 0) (by simp) (FIn.none w6 w.heap.size) (.inl rfl) (a := none))
  clear k6 f6 bl6
  go_enter Try.func11, Try.ntmps11
  go_wp2_with fail
  refine bodyPost_ret (v := .agg #[.int .u8 1, .int .u8 0, .int .i64 0, .slice none 0 0, .int .i64 0, .slice none 0 0]) ?_ rfl ⟨_, rfl, HP.out, hB6⟩
  simp [results, Try.results11, go_sem, y0, y1, y2, y3, y4, y5]
set_option maxHeartbeats 2000000 in
theorem pno_any (w : World) : Calls Try.prog 19 #[] w (PCopyOf (.mk 2 vNone 0 []) w) := by
  obtain ⟨w1, hw1, m1, s1, R1, p0, p1, p2, p3, p4, p5⟩ := box6r w (.int .u8 0) (.int .u8 0) (.int .i64 0) (.slice none 0 0) (.int .i64 0) (.slice none 0 0) 28
  have h0 := R1.frozen 0
  have h1 := R1.frozen 1
  have h2 := R1.frozen 2
  have h3 := R1.frozen 3
  have h4 := R1.frozen 4
  have h5 := R1.frozen 5
  obtain ⟨w6, hw6, y0, y1, y2, y3, y4, y5, k6, f6, sz6, bl6⟩ := set6_all (u0 := .int .u8 2) (u1 := .int .u8 0) (u2 := .int .i64 0) (u3 := .slice none 0 0) (u4 := .int .i64 0) (u5 := .slice none 0 0) p0 p1 p2 p3 p4 p5
  have hB6 : Below w.heap.size w w6 := bl6 _ _ m1 (Nat.le_refl _)
  have HP := Lib.hid (PFIn.shut (w := w6) (lo := w.heap.size) (k := 2) (n := 0) (l := []) (cap := 0) (by simp) (FIn.none w6 w.heap.size) (.inl rfl) (a := none))
  clear k6 f6 bl6
  go_enter Try.func19, Try.ntmps19
  go_wp2_with fail
  refine bodyPost_ret (v := .agg #[.int .u8 2, .int .u8 0, .int .i64 0, .slice none 0 0, .int .i64 0, .slice none 0 0]) ?_ rfl ⟨_, rfl, HP.out, hB6⟩
  simp [results, Try.results19, go_sem, y0, y1, y2, y3, y4, y5]

set_option maxRecDepth 100000 in
set_option maxHeartbeats 4000000 in
theorem peq_any (v : VT) (x : Value) (w : World) (hx : VIn w v x) : Calls Try.prog 15 #[x] w (PCopyOf (.mk 3 v 0 []) w) := by
  obtain ⟨xk, xn, xl⟩ := v
  obtain ⟨xa, xc, hxl, rfl, hxr⟩ := hx.open
  obtain ⟨w0, hw0, m0, s0, q0, q1, q2, _⟩ := box3 w (.int .u8 xk) (.int .i64 xn) (.slice xa xl.length xc) 25
  obtain ⟨w1, hw1, m1, s1, R1, p0, p1, p2, p3, p4, p5⟩ := box6r w0 (.int .u8 0) (.int .u8 0) (.int .i64 0) (.slice none 0 0) (.int .i64 0) (.slice none 0 0) 28
  have hB1 : Below w.heap.size w w1 := m0.trans (m1.mono (by omega))
  have q0 := cell_stays m1 q0
  have q1 := cell_stays m1 q1
  have q2 := cell_stays m1 q2
  have hx1 := hx.below hB1
  clear hx hxr m0 m1
  have S1 := Lib.hid s1; clear s1
  go_enter Try.func15, Try.ntmps15
  go_wp2_with fail
  refine (copy_any _ _ _ _ (Nat.le_refl _) hx1).mono ?_
  rintro e w2 ⟨v', rfl, hf, hb2⟩
  obtain ⟨va', vc', rfl⟩ := hf.agg
  have hs1 := S1.out
  have hs2 := hb2.size
  have R1 := R1.below (by omega) hb2
  have p0 := cell_stays hb2 p0
  have p1 := cell_stays hb2 p1
  have p2 := cell_stays hb2 p2
  have p3 := cell_stays hb2 p3
  have p4 := cell_stays hb2 p4
  have p5 := cell_stays hb2 p5
  have h0 := R1.frozen 0
  have h1 := R1.frozen 1
  have h2 := R1.frozen 2
  have h3 := R1.frozen 3
  have h4 := R1.frozen 4
  have h5 := R1.frozen 5
  obtain ⟨w6, hw6, y0, y1, y2, y3, y4, y5, k6, f6, sz6, bl6⟩ := set6_all (u0 := .int .u8 3) (u1 := .int .u8 (VT.mk xk xn xl).kind) (u2 := .int .i64 (VT.mk xk xn xl).num) (u3 := .slice va' (VT.mk xk xn xl).items.length vc') (u4 := .int .i64 0) (u5 := .slice none 0 0) p0 p1 p2 p3 p4 p5
  have hB6 : Below w.heap.size w w6 := bl6 _ _ (hB1.trans (hb2.mono hB1.size)) (by omega)
  have HP := Lib.hid (PFIn.shut (w := w6) (lo := w.heap.size) (k := 3) (n := 0) (l := []) (cap := 0) (by simp) ((hf.sets (fun b o u hb hc => k6 b o u (by omega) hc) f6).less (by omega)) (.inl rfl) (a := none))
  clear k6 f6 bl6 hf hb2
  go_wp2_with fail
  refine bodyPost_ret (v := .agg #[.int .u8 3, .int .u8 (VT.mk xk xn xl).kind, .int .i64 (VT.mk xk xn xl).num, .slice va' (VT.mk xk xn xl).items.length vc', .int .i64 0, .slice none 0 0]) ?_ rfl ⟨_, rfl, HP.out, hB6⟩
  simp [results, Try.results15, go_sem, y0, y1, y2, y3, y4, y5]
set_option maxRecDepth 100000 in
set_option maxHeartbeats 4000000 in
theorem pless_any (v : VT) (x : Value) (w : World) (hx : VIn w v x) : Calls Try.prog 20 #[x] w (PCopyOf (.mk 4 v 0 []) w) := by
  obtain ⟨xk, xn, xl⟩ := v
  obtain ⟨xa, xc, hxl, rfl, hxr⟩ := hx.open
  obtain ⟨w0, hw0, m0, s0, q0, q1, q2, _⟩ := box3 w (.int .u8 xk) (.int .i64 xn) (.slice xa xl.length xc) 25
  obtain ⟨w1, hw1, m1, s1, R1, p0, p1, p2, p3, p4, p5⟩ := box6r w0 (.int .u8 0) (.int .u8 0) (.int .i64 0) (.slice none 0 0) (.int .i64 0) (.slice none 0 0) 28
  have hB1 : Below w.heap.size w w1 := m0.trans (m1.mono (by omega))
  have q0 := cell_stays m1 q0
  have q1 := cell_stays m1 q1
  have q2 := cell_stays m1 q2
  have hx1 := hx.below hB1
  clear hx hxr m0 m1
  have S1 := Lib.hid s1; clear s1
  go_enter Try.func20, Try.ntmps20
  go_wp2_with fail
  refine (copy_any _ _ _ _ (Nat.le_refl _) hx1).mono ?_
  rintro e w2 ⟨v', rfl, hf, hb2⟩
  obtain ⟨va', vc', rfl⟩ := hf.agg
  have hs1 := S1.out
  have hs2 := hb2.size
  have R1 := R1.below (by omega) hb2
  have p0 := cell_stays hb2 p0
  have p1 := cell_stays hb2 p1
  have p2 := cell_stays hb2 p2
  have p3 := cell_stays hb2 p3
  have p4 := cell_stays hb2 p4
  have p5 := cell_stays hb2 p5
  have h0 := R1.frozen 0
  have h1 := R1.frozen 1
  have h2 := R1.frozen 2
  have h3 := R1.frozen 3
  have h4 := R1.frozen 4
  have h5 := R1.frozen 5
  obtain ⟨w6, hw6, y0, y1, y2, y3, y4, y5, k6, f6, sz6, bl6⟩ := set6_all (u0 := .int .u8 4) (u1 := .int .u8 (VT.mk xk xn xl).kind) (u2 := .int .i64 (VT.mk xk xn xl).num) (u3 := .slice va' (VT.mk xk xn xl).items.length vc') (u4 := .int .i64 0) (u5 := .slice none 0 0) p0 p1 p2 p3 p4 p5
  have hB6 : Below w.heap.size w w6 := bl6 _ _ (hB1.trans (hb2.mono hB1.size)) (by omega)
  have HP := Lib.hid (PFIn.shut (w := w6) (lo := w.heap.size) (k := 4) (n := 0) (l := []) (cap := 0) (by simp) ((hf.sets (fun b o u hb hc => k6 b o u (by omega) hc) f6).less (by omega)) (.inl rfl) (a := none))
  clear k6 f6 bl6 hf hb2
  go_wp2_with fail
  refine bodyPost_ret (v := .agg #[.int .u8 4, .int .u8 (VT.mk xk xn xl).kind, .int .i64 (VT.mk xk xn xl).num, .slice va' (VT.mk xk xn xl).items.length vc', .int .i64 0, .slice none 0 0]) ?_ rfl ⟨_, rfl, HP.out, hB6⟩
  simp [results, Try.results20, go_sem, y0, y1, y2, y3, y4, y5]

set_option maxRecDepth 100000 in
set_option maxHeartbeats 4000000 in
theorem pand_any (l : List PT) (a : Option Addr) (cap : Nat) (w : World) (hl : l.length ≤ 1759218604390) (hr : PRow w l a) : Calls Try.prog 13 #[.slice a l.length cap] w (PCopyOf (.mk 6 vNone 0 l) w) := by
  obtain ⟨w1, hw1, m1, s1, R1, p0, p1, p2, p3, p4, p5⟩ := box6r w (.int .u8 0) (.int .u8 0) (.int .i64 0) (.slice none 0 0) (.int .i64 0) (.slice none 0 0) 28
  have hr1 := hr.below m1
  have S1 := Lib.hid s1; clear s1 hr
  go_enter Try.func13, Try.ntmps13
  go_wp2_with fail
  refine (pcopies_any l a cap w1 hl hr1).mono ?_
  rintro e w2 ⟨a', cap', rfl, hf, hb2⟩
  have hs1 := S1.out
  have hs2 := hb2.size
  have R1 := R1.below (by omega) hb2
  have p0 := cell_stays hb2 p0
  have p1 := cell_stays hb2 p1
  have p2 := cell_stays hb2 p2
  have p3 := cell_stays hb2 p3
  have p4 := cell_stays hb2 p4
  have p5 := cell_stays hb2 p5
  have h0 := R1.frozen 0
  have h1 := R1.frozen 1
  have h2 := R1.frozen 2
  have h3 := R1.frozen 3
  have h4 := R1.frozen 4
  have h5 := R1.frozen 5
  obtain ⟨w6, hw6, y0, y1, y2, y3, y4, y5, k6, f6, sz6, bl6⟩ := set6_all (u0 := .int .u8 6) (u1 := .int .u8 0) (u2 := .int .i64 0) (u3 := .slice none 0 0) (u4 := .int .i64 0) (u5 := .slice a' l.length cap') p0 p1 p2 p3 p4 p5
  have hB6 : Below w.heap.size w w6 := bl6 _ _ (m1.trans (hb2.mono m1.size)) (Nat.le_refl _)
  have HP := Lib.hid (PFIn.shut (w := w6) (lo := w.heap.size) (k := 6) (n := 0) (l := l) (cap := cap') hl (FIn.none w6 w.heap.size) (hf.imp id (fun ⟨b, e, hb, hfr⟩ => ⟨b, e, by omega, PFRow.mono (by omega) (fun b o u hb hc => k6 b o u (by omega) hc) (fun b o u hb hc hf => by rw [f6]; exact hf) l b 0 hb hfr⟩)))
  clear k6 f6 bl6 hf hb2 hr1
  go_wp2_with fail
  refine bodyPost_ret (v := .agg #[.int .u8 6, .int .u8 0, .int .i64 0, .slice none 0 0, .int .i64 0, .slice a' l.length cap']) ?_ rfl ⟨_, rfl, HP.out, hB6⟩
  simp [results, Try.results13, go_sem, y0, y1, y2, y3, y4, y5]
set_option maxRecDepth 100000 in
set_option maxHeartbeats 4000000 in
theorem por_any (l : List PT) (a : Option Addr) (cap : Nat) (w : World) (hl : l.length ≤ 1759218604390) (hr : PRow w l a) : Calls Try.prog 14 #[.slice a l.length cap] w (PCopyOf (.mk 7 vNone 0 l) w) := by
  obtain ⟨w1, hw1, m1, s1, R1, p0, p1, p2, p3, p4, p5⟩ := box6r w (.int .u8 0) (.int .u8 0) (.int .i64 0) (.slice none 0 0) (.int .i64 0) (.slice none 0 0) 28
  have hr1 := hr.below m1
  have S1 := Lib.hid s1; clear s1 hr
  go_enter Try.func14, Try.ntmps14
  go_wp2_with fail
  refine (pcopies_any l a cap w1 hl hr1).mono ?_
  rintro e w2 ⟨a', cap', rfl, hf, hb2⟩
  have hs1 := S1.out
  have hs2 := hb2.size
  have R1 := R1.below (by omega) hb2
  have p0 := cell_stays hb2 p0
  have p1 := cell_stays hb2 p1
  have p2 := cell_stays hb2 p2
  have p3 := cell_stays hb2 p3
  have p4 := cell_stays hb2 p4
  have p5 := cell_stays hb2 p5
  have h0 := R1.frozen 0
  have h1 := R1.frozen 1
  have h2 := R1.frozen 2
  have h3 := R1.frozen 3
  have h4 := R1.frozen 4
  have h5 := R1.frozen 5
  obtain ⟨w6, hw6, y0, y1, y2, y3, y4, y5, k6, f6, sz6, bl6⟩ := set6_all (u0 := .int .u8 7) (u1 := .int .u8 0) (u2 := .int .i64 0) (u3 := .slice none 0 0) (u4 := .int .i64 0) (u5 := .slice a' l.length cap') p0 p1 p2 p3 p4 p5
  have hB6 : Below w.heap.size w w6 := bl6 _ _ (m1.trans (hb2.mono m1.size)) (Nat.le_refl _)
  have HP := Lib.hid (PFIn.shut (w := w6) (lo := w.heap.size) (k := 7) (n := 0) (l := l) (cap := cap') hl (FIn.none w6 w.heap.size) (hf.imp id (fun ⟨b, e, hb, hfr⟩ => ⟨b, e, by omega, PFRow.mono (by omega) (fun b o u hb hc => k6 b o u (by omega) hc) (fun b o u hb hc hf => by rw [f6]; exact hf) l b 0 hb hfr⟩)))
  clear k6 f6 bl6 hf hb2 hr1
  go_wp2_with fail
  refine bodyPost_ret (v := .agg #[.int .u8 7, .int .u8 0, .int .i64 0, .slice none 0 0, .int .i64 0, .slice a' l.length cap']) ?_ rfl ⟨_, rfl, HP.out, hB6⟩
  simp [results, Try.results14, go_sem, y0, y1, y2, y3, y4, y5]

/-- a row of one. -/
theorem pfrow_one {w : World} {lo b : Nat} {t : PT} {v0 v1 v2 v3 v4 v5 : Value} (h0 : w.cell? ⟨b, 0, none⟩ = some v0) (h1 : w.cell? ⟨b, 1, none⟩ = some v1) (h2 : w.cell? ⟨b, 2, none⟩ = some v2) (h3 : w.cell? ⟨b, 3, none⟩ = some v3)
    (h4 : w.cell? ⟨b, 4, none⟩ = some v4) (h5 : w.cell? ⟨b, 5, none⟩ = some v5) (hf : ∀ j, w.frozen? ⟨b, j, none⟩ = false) (ht : PFIn w lo t (.agg #[v0, v1, v2, v3, v4, v5])) : PFRow w lo [t] b 0 := by
  rw [PFRow]
  exact ⟨⟨v0, v1, v2, v3, v4, v5, h0, by simpa using h1, by simpa using h2, by simpa using h3, by simpa using h4, by simpa using h5, fun j _ => hf _, ht⟩, by rw [PFRow]; trivial⟩
theorem PFIn.sets {w w' : World} {lo : Nat} (hc : ∀ b o v, lo ≤ b → w.cell? ⟨b, o, none⟩ = some v → w'.cell? ⟨b, o, none⟩ = some v) (hf : ∀ p, w'.frozen? p = w.frozen? p) {t : PT} {v : Value} (h : PFIn w lo t v) : PFIn w' lo t v :=
  h.mono (Nat.le_refl _) hc (fun _ _ _ _ _ h => by rw [hf]; exact h) t v

set_option maxRecDepth 100000 in
set_option maxHeartbeats 4000000 in
theorem one_any (K : Int) (t : PT) (x : Value) (w : World) (hx : PIn w t x) : Calls Try.prog 59 #[.int .u8 K, x] w (PCopyOf (.mk K vNone 0 [t]) w) := by
  obtain ⟨k, v, n, l⟩ := t
  have hx0 := hx
  obtain ⟨va, vc, a, cap, hlen, hvl, rfl, hv, hr⟩ := hx.open
  obtain ⟨w0, hw0, m0, s0, q0, q1, q2, q3, q4, q5⟩ := box6 w (.int .u8 k) (.int .u8 v.kind) (.int .i64 v.num) (.slice va v.items.length vc) (.int .i64 n) (.slice a l.length cap) 28
  obtain ⟨w1, hw1, m1, s1, R1, p0, p1, p2, p3, p4, p5⟩ := box6r w0 (.int .u8 0) (.int .u8 0) (.int .i64 0) (.slice none 0 0) (.int .i64 0) (.slice none 0 0) 28
  have hB1 : Below w.heap.size w w1 := m0.trans (m1.mono (by omega))
  have q0 := cell_stays m1 q0
  have q1 := cell_stays m1 q1
  have q2 := cell_stays m1 q2
  have q3 := cell_stays m1 q3
  have q4 := cell_stays m1 q4
  have q5 := cell_stays m1 q5
  have hx1 := hx0.below hB1
  have hlt : w.heap.size < w0.heap.size := s0
  clear hx hx0 hv hr m0 m1 s0
  have S1 := Lib.hid s1; clear s1
  go_enter Try.func59, Try.ntmps59
  go_wp2_with fail
  refine (pcopy_any _ _ _ _ (Nat.le_refl _) hx1).mono ?_
  rintro e w2 ⟨x', rfl, hf, hb2⟩
  obtain ⟨va', vc', a', cap', hlen', hvl', rfl, hfv, hfr⟩ := hf.open
  have hs1 := S1.out
  have hs2 := hb2.size
  have R1 := R1.below (by omega) hb2
  have p0 := cell_stays hb2 p0
  have p1 := cell_stays hb2 p1
  have p2 := cell_stays hb2 p2
  have p3 := cell_stays hb2 p3
  have p4 := cell_stays hb2 p4
  have p5 := cell_stays hb2 p5
  obtain ⟨w3, hw3, m3, s3, R3, z0, z1, z2, z3, z4, z5⟩ := box6r w2 (.int .u8 k) (.int .u8 v.kind) (.int .i64 v.num) (.slice va' v.items.length vc') (.int .i64 n) (.slice a' l.length cap') 28
  have R1 := R1.below (by omega) m3
  have p0 := cell_stays m3 p0
  have p1 := cell_stays m3 p1
  have p2 := cell_stays m3 p2
  have p3 := cell_stays m3 p3
  have p4 := cell_stays m3 p4
  have p5 := cell_stays m3 p5
  have h0 := R1.frozen 0
  have h1 := R1.frozen 1
  have h2 := R1.frozen 2
  have h3 := R1.frozen 3
  have h4 := R1.frozen 4
  have h5 := R1.frozen 5
  have hf3 := hf.below m3
  obtain ⟨w6, hw6, y0, y1, y2, y3, y4, y5, k6, f6, sz6, bl6⟩ := set6_all (u0 := .int .u8 K) (u1 := .int .u8 0) (u2 := .int .i64 0) (u3 := .slice none 0 0) (u4 := .int .i64 0) (u5 := .slice (some ⟨w2.heap.size, 0, none⟩) 1 1) p0 p1 p2 p3 p4 p5
  have hB6 : Below w.heap.size w w6 := bl6 _ _ (hB1.trans ((hb2.trans (m3.mono hb2.size)).mono hB1.size)) (by omega)
  have hrow : PFRow w6 w.heap.size [.mk k v n l] w2.heap.size 0 := pfrow_one (k6 _ _ _ (by omega) z0) (k6 _ _ _ (by omega) z1) (k6 _ _ _ (by omega) z2) (k6 _ _ _ (by omega) z3) (k6 _ _ _ (by omega) z4) (k6 _ _ _ (by omega) z5)
    (fun j => by rw [f6]; exact R3.frozen j) ((hf3.sets (fun b o u hb hc => k6 b o u (by omega) hc) f6).less (by omega))
  have HP := Lib.hid (PFIn.shut (w := w6) (lo := w.heap.size) (k := K) (n := 0) (l := [.mk k v n l]) (cap := 1) (by simp) (FIn.none w6 w.heap.size) (.inr ⟨w2.heap.size, rfl, by omega, hrow⟩))
  clear k6 f6 bl6 hf hf3 hb2 m3 hfv hfr hrow
  go_wp2_with fail
  refine bodyPost_ret (v := .agg #[.int .u8 K, .int .u8 0, .int .i64 0, .slice none 0 0, .int .i64 0, .slice (some ⟨w2.heap.size, 0, none⟩) 1 1]) ?_ rfl ⟨_, rfl, HP.out, hB6⟩
  simp [results, Try.results59, go_sem, y0, y1, y2, y3, y4, y5]

set_option maxRecDepth 100000 in
set_option maxHeartbeats 4000000 in
theorem pnot_any (t : PT) (x : Value) (w : World) (hx : PIn w t x) : Calls Try.prog 12 #[x] w (PCopyOf (.mk 5 vNone 0 [t]) w) := by
  obtain ⟨k, v, n, l⟩ := t
  have hx0 := hx
  obtain ⟨va, vc, a, cap, hlen, hvl, rfl, hv, hr⟩ := hx.open
  obtain ⟨w0, hw0, m0, s0, q0, q1, q2, q3, q4, q5⟩ := box6 w (.int .u8 k) (.int .u8 v.kind) (.int .i64 v.num) (.slice va v.items.length vc) (.int .i64 n) (.slice a l.length cap) 28
  obtain ⟨w1, hw1, m1, s1, R1, p0, p1, p2, p3, p4, p5⟩ := box6r w0 (.int .u8 0) (.int .u8 0) (.int .i64 0) (.slice none 0 0) (.int .i64 0) (.slice none 0 0) 28
  have hB1 : Below w.heap.size w w1 := m0.trans (m1.mono (by omega))
  have q0 := cell_stays m1 q0
  have q1 := cell_stays m1 q1
  have q2 := cell_stays m1 q2
  have q3 := cell_stays m1 q3
  have q4 := cell_stays m1 q4
  have q5 := cell_stays m1 q5
  have hx1 := hx0.below hB1
  have hlt : w.heap.size < w0.heap.size := s0
  clear hx hx0 hv hr m0 m1 s0
  have S1 := Lib.hid s1; clear s1
  go_enter Try.func12, Try.ntmps12
  go_wp2_with fail
  refine (one_any 5 _ _ _ hx1).mono ?_
  rintro e w2 ⟨x', rfl, hf, hb2⟩
  obtain ⟨va', vc', a', cap', hlen', hvl', rfl, hfv, hfr⟩ := hf.open
  have hs1 := S1.out
  have hs2 := hb2.size
  have R1 := R1.below (by omega) hb2
  have p0 := cell_stays hb2 p0
  have p1 := cell_stays hb2 p1
  have p2 := cell_stays hb2 p2
  have p3 := cell_stays hb2 p3
  have p4 := cell_stays hb2 p4
  have p5 := cell_stays hb2 p5
  have h0 := R1.frozen 0
  have h1 := R1.frozen 1
  have h2 := R1.frozen 2
  have h3 := R1.frozen 3
  have h4 := R1.frozen 4
  have h5 := R1.frozen 5
  simp only [vNone, VT.kind, VT.num, VT.items, List.length_nil, List.length_singleton] at hf hfv ⊢
  obtain ⟨w6, hw6, y0, y1, y2, y3, y4, y5, k6, f6, sz6, bl6⟩ := set6_all (u0 := .int .u8 5) (u1 := .int .u8 0) (u2 := .int .i64 0) (u3 := .slice va' 0 vc') (u4 := .int .i64 0) (u5 := .slice a' 1 cap') p0 p1 p2 p3 p4 p5
  have hB6 : Below w.heap.size w w6 := bl6 _ _ (hB1.trans (hb2.mono hB1.size)) (by omega)
  have HP := Lib.hid ((hf.sets (fun b o u hb hc => k6 b o u (by omega) hc) f6).less (lo' := w.heap.size) (by omega))
  clear k6 f6 bl6 hf hb2 hfv hfr hlen'
  go_wp2_with fail
  refine bodyPost_ret (v := .agg #[.int .u8 5, .int .u8 0, .int .i64 0, .slice va' 0 vc', .int .i64 0, .slice a' 1 cap']) ?_ rfl ⟨_, rfl, HP.out, hB6⟩
  simp [results, Try.results12, go_sem, y0, y1, y2, y3, y4, y5]
set_option maxRecDepth 100000 in
set_option maxHeartbeats 4000000 in
theorem pall_any (t : PT) (x : Value) (w : World) (hx : PIn w t x) : Calls Try.prog 17 #[x] w (PCopyOf (.mk 9 vNone 0 [t]) w) := by
  obtain ⟨k, v, n, l⟩ := t
  have hx0 := hx
  obtain ⟨va, vc, a, cap, hlen, hvl, rfl, hv, hr⟩ := hx.open
  obtain ⟨w0, hw0, m0, s0, q0, q1, q2, q3, q4, q5⟩ := box6 w (.int .u8 k) (.int .u8 v.kind) (.int .i64 v.num) (.slice va v.items.length vc) (.int .i64 n) (.slice a l.length cap) 28
  obtain ⟨w1, hw1, m1, s1, R1, p0, p1, p2, p3, p4, p5⟩ := box6r w0 (.int .u8 0) (.int .u8 0) (.int .i64 0) (.slice none 0 0) (.int .i64 0) (.slice none 0 0) 28
  have hB1 : Below w.heap.size w w1 := m0.trans (m1.mono (by omega))
  have q0 := cell_stays m1 q0
  have q1 := cell_stays m1 q1
  have q2 := cell_stays m1 q2
  have q3 := cell_stays m1 q3
  have q4 := cell_stays m1 q4
  have q5 := cell_stays m1 q5
  have hx1 := hx0.below hB1
  have hlt : w.heap.size < w0.heap.size := s0
  clear hx hx0 hv hr m0 m1 s0
  have S1 := Lib.hid s1; clear s1
  go_enter Try.func17, Try.ntmps17
  go_wp2_with fail
  refine (one_any 9 _ _ _ hx1).mono ?_
  rintro e w2 ⟨x', rfl, hf, hb2⟩
  obtain ⟨va', vc', a', cap', hlen', hvl', rfl, hfv, hfr⟩ := hf.open
  have hs1 := S1.out
  have hs2 := hb2.size
  have R1 := R1.below (by omega) hb2
  have p0 := cell_stays hb2 p0
  have p1 := cell_stays hb2 p1
  have p2 := cell_stays hb2 p2
  have p3 := cell_stays hb2 p3
  have p4 := cell_stays hb2 p4
  have p5 := cell_stays hb2 p5
  have h0 := R1.frozen 0
  have h1 := R1.frozen 1
  have h2 := R1.frozen 2
  have h3 := R1.frozen 3
  have h4 := R1.frozen 4
  have h5 := R1.frozen 5
  simp only [vNone, VT.kind, VT.num, VT.items, List.length_nil, List.length_singleton] at hf hfv ⊢
  obtain ⟨w6, hw6, y0, y1, y2, y3, y4, y5, k6, f6, sz6, bl6⟩ := set6_all (u0 := .int .u8 9) (u1 := .int .u8 0) (u2 := .int .i64 0) (u3 := .slice va' 0 vc') (u4 := .int .i64 0) (u5 := .slice a' 1 cap') p0 p1 p2 p3 p4 p5
  have hB6 : Below w.heap.size w w6 := bl6 _ _ (hB1.trans (hb2.mono hB1.size)) (by omega)
  have HP := Lib.hid ((hf.sets (fun b o u hb hc => k6 b o u (by omega) hc) f6).less (lo' := w.heap.size) (by omega))
  clear k6 f6 bl6 hf hb2 hfv hfr hlen'
  go_wp2_with fail
  refine bodyPost_ret (v := .agg #[.int .u8 9, .int .u8 0, .int .i64 0, .slice va' 0 vc', .int .i64 0, .slice a' 1 cap']) ?_ rfl ⟨_, rfl, HP.out, hB6⟩
  simp [results, Try.results17, go_sem, y0, y1, y2, y3, y4, y5]
set_option maxRecDepth 100000 in
set_option maxHeartbeats 4000000 in
theorem pany_any (t : PT) (x : Value) (w : World) (hx : PIn w t x) : Calls Try.prog 21 #[x] w (PCopyOf (.mk 10 vNone 0 [t]) w) := by
  obtain ⟨k, v, n, l⟩ := t
  have hx0 := hx
  obtain ⟨va, vc, a, cap, hlen, hvl, rfl, hv, hr⟩ := hx.open
  obtain ⟨w0, hw0, m0, s0, q0, q1, q2, q3, q4, q5⟩ := box6 w (.int .u8 k) (.int .u8 v.kind) (.int .i64 v.num) (.slice va v.items.length vc) (.int .i64 n) (.slice a l.length cap) 28
  obtain ⟨w1, hw1, m1, s1, R1, p0, p1, p2, p3, p4, p5⟩ := box6r w0 (.int .u8 0) (.int .u8 0) (.int .i64 0) (.slice none 0 0) (.int .i64 0) (.slice none 0 0) 28
  have hB1 : Below w.heap.size w w1 := m0.trans (m1.mono (by omega))
  have q0 := cell_stays m1 q0
  have q1 := cell_stays m1 q1
  have q2 := cell_stays m1 q2
  have q3 := cell_stays m1 q3
  have q4 := cell_stays m1 q4
  have q5 := cell_stays m1 q5
  have hx1 := hx0.below hB1
  have hlt : w.heap.size < w0.heap.size := s0
  clear hx hx0 hv hr m0 m1 s0
  have S1 := Lib.hid s1; clear s1
  go_enter Try.func21, Try.ntmps21
  go_wp2_with fail
  refine (one_any 10 _ _ _ hx1).mono ?_
  rintro e w2 ⟨x', rfl, hf, hb2⟩
  obtain ⟨va', vc', a', cap', hlen', hvl', rfl, hfv, hfr⟩ := hf.open
  have hs1 := S1.out
  have hs2 := hb2.size
  have R1 := R1.below (by omega) hb2
  have p0 := cell_stays hb2 p0
  have p1 := cell_stays hb2 p1
  have p2 := cell_stays hb2 p2
  have p3 := cell_stays hb2 p3
  have p4 := cell_stays hb2 p4
  have p5 := cell_stays hb2 p5
  have h0 := R1.frozen 0
  have h1 := R1.frozen 1
  have h2 := R1.frozen 2
  have h3 := R1.frozen 3
  have h4 := R1.frozen 4
  have h5 := R1.frozen 5
  simp only [vNone, VT.kind, VT.num, VT.items, List.length_nil, List.length_singleton] at hf hfv ⊢
  obtain ⟨w6, hw6, y0, y1, y2, y3, y4, y5, k6, f6, sz6, bl6⟩ := set6_all (u0 := .int .u8 10) (u1 := .int .u8 0) (u2 := .int .i64 0) (u3 := .slice va' 0 vc') (u4 := .int .i64 0) (u5 := .slice a' 1 cap') p0 p1 p2 p3 p4 p5
  have hB6 : Below w.heap.size w w6 := bl6 _ _ (hB1.trans (hb2.mono hB1.size)) (by omega)
  have HP := Lib.hid ((hf.sets (fun b o u hb hc => k6 b o u (by omega) hc) f6).less (lo' := w.heap.size) (by omega))
  clear k6 f6 bl6 hf hb2 hfv hfr hlen'
  go_wp2_with fail
  refine bodyPost_ret (v := .agg #[.int .u8 10, .int .u8 0, .int .i64 0, .slice va' 0 vc', .int .i64 0, .slice a' 1 cap']) ?_ rfl ⟨_, rfl, HP.out, hB6⟩
  simp [results, Try.results21, go_sem, y0, y1, y2, y3, y4, y5]
set_option maxRecDepth 100000 in
set_option maxHeartbeats 4000000 in
theorem plen_any (t : PT) (x : Value) (w : World) (hx : PIn w t x) : Calls Try.prog 22 #[x] w (PCopyOf (.mk 11 vNone 0 [t]) w) := by
  obtain ⟨k, v, n, l⟩ := t
  have hx0 := hx
  obtain ⟨va, vc, a, cap, hlen, hvl, rfl, hv, hr⟩ := hx.open
  obtain ⟨w0, hw0, m0, s0, q0, q1, q2, q3, q4, q5⟩ := box6 w (.int .u8 k) (.int .u8 v.kind) (.int .i64 v.num) (.slice va v.items.length vc) (.int .i64 n) (.slice a l.length cap) 28
  obtain ⟨w1, hw1, m1, s1, R1, p0, p1, p2, p3, p4, p5⟩ := box6r w0 (.int .u8 0) (.int .u8 0) (.int .i64 0) (.slice none 0 0) (.int .i64 0) (.slice none 0 0) 28
  have hB1 : Below w.heap.size w w1 := m0.trans (m1.mono (by omega))
  have q0 := cell_stays m1 q0
  have q1 := cell_stays m1 q1
  have q2 := cell_stays m1 q2
  have q3 := cell_stays m1 q3
  have q4 := cell_stays m1 q4
  have q5 := cell_stays m1 q5
  have hx1 := hx0.below hB1
  have hlt : w.heap.size < w0.heap.size := s0
  clear hx hx0 hv hr m0 m1 s0
  have S1 := Lib.hid s1; clear s1
  go_enter Try.func22, Try.ntmps22
  go_wp2_with fail
  refine (one_any 11 _ _ _ hx1).mono ?_
  rintro e w2 ⟨x', rfl, hf, hb2⟩
  obtain ⟨va', vc', a', cap', hlen', hvl', rfl, hfv, hfr⟩ := hf.open
  have hs1 := S1.out
  have hs2 := hb2.size
  have R1 := R1.below (by omega) hb2
  have p0 := cell_stays hb2 p0
  have p1 := cell_stays hb2 p1
  have p2 := cell_stays hb2 p2
  have p3 := cell_stays hb2 p3
  have p4 := cell_stays hb2 p4
  have p5 := cell_stays hb2 p5
  have h0 := R1.frozen 0
  have h1 := R1.frozen 1
  have h2 := R1.frozen 2
  have h3 := R1.frozen 3
  have h4 := R1.frozen 4
  have h5 := R1.frozen 5
  simp only [vNone, VT.kind, VT.num, VT.items, List.length_nil, List.length_singleton] at hf hfv ⊢
  obtain ⟨w6, hw6, y0, y1, y2, y3, y4, y5, k6, f6, sz6, bl6⟩ := set6_all (u0 := .int .u8 11) (u1 := .int .u8 0) (u2 := .int .i64 0) (u3 := .slice va' 0 vc') (u4 := .int .i64 0) (u5 := .slice a' 1 cap') p0 p1 p2 p3 p4 p5
  have hB6 : Below w.heap.size w w6 := bl6 _ _ (hB1.trans (hb2.mono hB1.size)) (by omega)
  have HP := Lib.hid ((hf.sets (fun b o u hb hc => k6 b o u (by omega) hc) f6).less (lo' := w.heap.size) (by omega))
  clear k6 f6 bl6 hf hb2 hfv hfr hlen'
  go_wp2_with fail
  refine bodyPost_ret (v := .agg #[.int .u8 11, .int .u8 0, .int .i64 0, .slice va' 0 vc', .int .i64 0, .slice a' 1 cap']) ?_ rfl ⟨_, rfl, HP.out, hB6⟩
  simp [results, Try.results22, go_sem, y0, y1, y2, y3, y4, y5]

theorem set4_in {w : World} {B : Nat} {u x : Value} (q : w.cell? ⟨B, 4, none⟩ = some x) :
    ∃ w', w.setCell ⟨B, 4, none⟩ u = w' ∧ w'.cell? ⟨B, 4, none⟩ = some u ∧ (∀ b o v, (b = B → o ≠ 4) → w.cell? ⟨b, o, none⟩ = some v → w'.cell? ⟨b, o, none⟩ = some v) ∧
      (∀ p, w'.frozen? p = w.frozen? p) ∧ (∀ t b n, RowAt w t b n → RowAt w' t b n) ∧ w'.heap.size = w.heap.size ∧ ∀ lo a, Below lo a w → lo ≤ B → Below lo a w' := by
  refine ⟨_, rfl, set_same q, fun b o v h hc => ?_, fun p => World.frozen?_setCell .., fun t b n h => h.set _ _ rfl, by simp [World.setCell], fun lo a h hl => h.setCell hl _⟩
  by_cases e : b = B
  · subst e
    exact set_off hc (fun e => h rfl e.symm)
  · exact set_blk hc (fun h => e h.symm)
set_option maxRecDepth 100000 in
set_option maxHeartbeats 4000000 in
theorem pat_any (N : Int) (t : PT) (x : Value) (w : World) (hx : PIn w t x) : Calls Try.prog 16 #[.int .i64 N, x] w (PCopyOf (.mk 8 vNone N [t]) w) := by
  obtain ⟨k, v, n, l⟩ := t
  have hx0 := hx
  obtain ⟨va, vc, a, cap, hlen, hvl, rfl, hv, hr⟩ := hx.open
  obtain ⟨w0, hw0, m0, s0, q0, q1, q2, q3, q4, q5⟩ := box6 w (.int .u8 k) (.int .u8 v.kind) (.int .i64 v.num) (.slice va v.items.length vc) (.int .i64 n) (.slice a l.length cap) 28
  obtain ⟨w1, hw1, m1, s1, R1, p0, p1, p2, p3, p4, p5⟩ := box6r w0 (.int .u8 0) (.int .u8 0) (.int .i64 0) (.slice none 0 0) (.int .i64 0) (.slice none 0 0) 28
  have hB1 : Below w.heap.size w w1 := m0.trans (m1.mono (by omega))
  have q0 := cell_stays m1 q0
  have q1 := cell_stays m1 q1
  have q2 := cell_stays m1 q2
  have q3 := cell_stays m1 q3
  have q4 := cell_stays m1 q4
  have q5 := cell_stays m1 q5
  have hx1 := hx0.below hB1
  have hlt : w.heap.size < w0.heap.size := s0
  clear hx hx0 hv hr m0 m1 s0
  have S1 := Lib.hid s1; clear s1
  go_enter Try.func16, Try.ntmps16
  go_wp2_with fail
  refine (one_any 8 _ _ _ hx1).mono ?_
  rintro e w2 ⟨x', rfl, hf, hb2⟩
  obtain ⟨va', vc', a', cap', hlen', hvl', rfl, hfv, hfr⟩ := hf.open
  have hs1 := S1.out
  have hs2 := hb2.size
  have R1 := R1.below (by omega) hb2
  have p0 := cell_stays hb2 p0
  have p1 := cell_stays hb2 p1
  have p2 := cell_stays hb2 p2
  have p3 := cell_stays hb2 p3
  have p4 := cell_stays hb2 p4
  have p5 := cell_stays hb2 p5
  simp only [vNone, VT.kind, VT.num, VT.items, List.length_nil, List.length_singleton] at hf hfv hfr ⊢
  obtain ⟨w3, hw3, m3, s3, R3, z0, z1, z2, z3, z4, z5⟩ := box6r w2 (.int .u8 8) (.int .u8 0) (.int .i64 0) (.slice va' 0 vc') (.int .i64 0) (.slice a' 1 cap') 28
  have R1 := R1.below (by omega) m3
  have p0 := cell_stays m3 p0
  have p1 := cell_stays m3 p1
  have p2 := cell_stays m3 p2
  have p3 := cell_stays m3 p3
  have p4 := cell_stays m3 p4
  have p5 := cell_stays m3 p5
  have g4 := R3.frozen 4
  obtain ⟨w4, hw4, t4, k4, f4, rw4, sz4, bl4⟩ := set4_in (u := .int .i64 N) z4
  have R1 := rw4 _ _ _ R1
  have p0 := k4 _ _ _ (fun e => by omega) p0
  have p1 := k4 _ _ _ (fun e => by omega) p1
  have p2 := k4 _ _ _ (fun e => by omega) p2
  have p3 := k4 _ _ _ (fun e => by omega) p3
  have p4 := k4 _ _ _ (fun e => by omega) p4
  have p5 := k4 _ _ _ (fun e => by omega) p5
  have z0 := k4 _ _ _ (fun _ => by omega) z0
  have z1 := k4 _ _ _ (fun _ => by omega) z1
  have z2 := k4 _ _ _ (fun _ => by omega) z2
  have z3 := k4 _ _ _ (fun _ => by omega) z3
  have z5 := k4 _ _ _ (fun _ => by omega) z5
  have h0 := R1.frozen 0
  have h1 := R1.frozen 1
  have h2 := R1.frozen 2
  have h3 := R1.frozen 3
  have h4 := R1.frozen 4
  have h5 := R1.frozen 5
  obtain ⟨w6, hw6, y0, y1, y2, y3, y4, y5, k6, f6, sz6, bl6⟩ := set6_all (u0 := .int .u8 8) (u1 := .int .u8 0) (u2 := .int .i64 0) (u3 := .slice va' 0 vc') (u4 := .int .i64 N) (u5 := .slice a' 1 cap') p0 p1 p2 p3 p4 p5
  have hB6 : Below w.heap.size w w6 := bl6 _ _ (bl4 _ _ (hB1.trans ((hb2.trans (m3.mono hb2.size)).mono hB1.size)) (by omega)) (by omega)
  have hlo : ∀ b o u, w1.heap.size ≤ b → w2.cell? ⟨b, o, none⟩ = some u → w6.cell? ⟨b, o, none⟩ = some u := fun b o u hb hc => k6 b o u (by omega) (k4 b o u (fun e => by have := lt_of_cell hc; omega) (cell_stays m3 hc))
  have hfz : ∀ b o u, w1.heap.size ≤ b → w2.cell? ⟨b, o, none⟩ = some u → w2.frozen? ⟨b, o, none⟩ = false → w6.frozen? ⟨b, o, none⟩ = false := fun b o u hb hc hf => by rw [f6, f4]; exact frozen_stay m3 (lt_of_cell hc) hf
  have hpost : PFIn w6 w.heap.size (.mk 8 vNone N [.mk k v n l]) (.agg #[.int .u8 8, .int .u8 0, .int .i64 0, .slice va' 0 vc', .int .i64 N, .slice a' 1 cap']) :=
    PFIn.shut (l := [.mk k v n l]) (by simp) (hfv.mono (by omega) hlo hfz _ _) (hfr.imp id (fun ⟨b, e, hb, hr⟩ => ⟨b, e, by omega, PFRow.mono (by omega) hlo hfz _ b 0 hb hr⟩))
  have HP := Lib.hid hpost
  clear k6 f6 bl6 k4 f4 rw4 bl4 hf hb2 m3 hfv hfr hlo hfz hpost hlen'
  go_wp2_with fail
  refine bodyPost_ret (v := .agg #[.int .u8 8, .int .u8 0, .int .i64 0, .slice va' 0 vc', .int .i64 N, .slice a' 1 cap']) ?_ rfl ⟨_, rfl, HP.out, hB6⟩
  simp [results, Try.results16, go_sem, y0, y1, y2, y3, y4, y5]
end Go.Proofs.Yteebbffecaeciaa
/- The law's own put, and the stage's theorem on trees. -/
namespace Go.Proofs.Yteebbffecaeciaa
open Go.RowKit

def pNone : PT := .mk 0 vNone 0 []
def tNum (n : Int) : TT := .mk 1 (.mk 1 n []) [] 0 0 [] pNone []
def tSpan (lo hi : Int) : TT := .mk 2 vNone [] lo hi [] pNone []
def tSelf : TT := .mk 11 vNone [] 0 0 [] pNone []
def tOf (k : Int) (l : List TT) : TT := .mk k vNone [] 0 0 [] pNone l
def tList (lo hi : Int) (t : TT) : TT := .mk 6 vNone [] lo hi [] pNone [t]
def tSized (n : Int) (a b : TT) : TT := .mk 10 vNone [] n 0 [] pNone [a, b]
theorem TT.sound_parts {t : TT} (h : t.sound = true) : t.sane false = true ∧ t.bulk 0 ≤ 4096 ∧ 0 < t.bulk 0 ∧ t.Bulk = t.bulk 0 ∧ t.High = t.high 0 ∧ t.high 0 ≤ 128 := by
  unfold TT.sound at h
  simp only [Bool.and_eq_true, decide_eq_true_eq] at h
  obtain ⟨⟨h1, h2⟩, h3⟩ := h
  have hs : t.sane false = true := by
    rcases hq : t.sane false with _ | _
    · rw [TT.Bulk, hq] at h1; simp at h1
    · rfl
  have hb : t.Bulk = min (t.bulk 0) 4097 := by rw [TT.Bulk, hs]; simp
  have hb2 : t.bulk 0 ≤ 4096 := by omega
  have hh : t.High = t.high 0 := by rw [TT.High, hs, decide_eq_true hb2]; simp
  exact ⟨hs, hb2, by omega, by omega, hh, by omega⟩
theorem TT.bulk_pos0 {t : TT} (h : t.sane false = true) : 0 < t.bulk 0 := by
  rw [TT.bulk_closed 0 1 t h]
  exact TT.bulk_pos t false 1 h (Nat.le_refl _)
end Go.Proofs.Yteebbffecaeciaa
/- The makers of chapter 19's law: num, span, self, of, list, sized. -/
namespace Go.Proofs.Yteebbffecaeciaa
open Go.RowKit

/-- what a maker of t hands back. -/
def TMade (t : TT) (w : World) (e : Ending) (w' : World) : Prop := ∃ x', e = .returned x' ∧ TIn w' t x' ∧ Below w.heap.size w w'
theorem stored15 {w1 : World} {B T : Nat} (hrow : RowAt w1 T B 15) (t : TT) (A : TA) : ∃ wE, w1.setCells B 0 [.int .u8 t.kind, .int .u8 t.v.kind, .int .i64 t.v.num, .slice A.va t.v.items.length A.vc, .slice A.sa t.vs.length A.sc, .int .i64 t.lo, .int .i64 t.hi, .slice A.wa t.ws.length A.wc, .int .u8 t.p.kind, .int .u8 t.p.val.kind, .int .i64 t.p.val.num, .slice A.qa t.p.val.items.length A.qc, .int .i64 t.p.num, .slice A.pa t.p.args.length A.pc, .slice A.aa t.args.length A.ac] = wE ∧
    TCells wE B 0 t A ∧ (∀ b o v, b ≠ B → w1.cell? ⟨b, o, none⟩ = some v → wE.cell? ⟨b, o, none⟩ = some v) ∧ ∀ lo a, lo ≤ B → Below lo a w1 → Below lo a wE :=
  ⟨setL B (cellsT 0 t A) w1, setCells_setL B _ 0 w1, cells15 hrow (Nat.le_refl _), fun b o v hb h => by rw [setL_out B b o _ w1 (fun e => absurd e hb)]; exact h, fun lo a hlo h => setL_below B hlo _ _ h⟩
theorem vin_plain (w : World) (k n : Int) : VIn w (.mk k n []) (.agg #[.int .u8 k, .int .i64 n, .slice none 0 0]) := VIn.shut (by simp) (by rw [VRow]; trivial)
theorem pin_none (w : World) : PIn w pNone (.agg #[.int .u8 0, .int .u8 0, .int .i64 0, .slice none 0 0, .int .i64 0, .slice none 0 0]) := PIn.shut (by simp) (vin_plain w 0 0) prow_nil
/-- a term with just a value of no items, two numbers, and arguments. -/
def plainA (aa : Option Addr) (ac : Nat) : TA := ⟨none, 0, none, 0, none, 0, none, 0, none, 0, aa, ac⟩
theorem tok_plain {w : World} {k vk vn lo hi : Int} {l : List TT} {aa : Option Addr} {ac : Nat} (hl : l.length ≤ 651562446070) (hr : TRow w l aa) : TOk w (.mk k (.mk vk vn []) [] lo hi [] pNone l) (plainA aa ac) :=
  TOk.of ⟨⟨hl, by simp [TT.vs], by simp [TT.ws]⟩, vin_plain w vk vn, by rw [TT.vs, VRow]; trivial, wrow_nil, pin_none w, hr⟩

set_option maxRecDepth 100000 in
set_option maxHeartbeats 4000000 in
theorem lnum_any (n : Int) (w : World) : Calls Try.prog 47 #[.int .i64 n] w (TMade (.mk 1 (.mk 1 n []) [] 0 0 [] pNone []) w) := by
  obtain ⟨w1, hw1, m1, s1, R1, _⟩ := box15 w (.int .u8 0) (.int .u8 0) (.int .i64 0) (.slice none 0 0) (.slice none 0 0) (.int .i64 0) (.int .i64 0) (.slice none 0 0) (.int .u8 0) (.int .u8 0) (.int .i64 0) (.slice none 0 0) (.int .i64 0) (.slice none 0 0) (.slice none 0 0) 47
  have HTH := Lib.hid (R1.there (q := 0) (m := 15) (by decide))
  have HIN : Hid ((Try.prog.info? 47).map (·.size) = some 15) := Lib.hid (by
    obtain ⟨i0, hi, hz0, hz1, hz2⟩ := info_parts zeroT
    rw [hi, Option.map_some, hz1])
  obtain ⟨wE, hwE, hc, _, hbe⟩ := stored15 R1 (.mk 1 (.mk 1 n []) [] 0 0 [] pNone []) (plainA none 0)
  obtain ⟨z0, z1, z2, z3, z4, z5, z6, z7, z8, z9, z10, z11, z12, z13, z14⟩ := hc
  have hB := hbe _ _ (Nat.le_refl _) m1
  have HB := Lib.hid hB; have HW := Lib.hid hwE
  clear hB hwE hbe R1 m1
  go_enter Try.func47, Try.ntmps47
  go_wp2_with (refine wpList_store_mid rfl 47 _ _ rfl w.heap.size 0 _ rfl rfl HTH.out HIN.out (by simp [Value.oneCell']) ?_)
  generalize hWF : World.setCells w1 w.heap.size 0 _ = wF
  obtain rfl : wE = wF := HW.out.symm.trans hWF
  clear hWF
  refine bodyPost_ret (v := TT.val (.mk 1 (.mk 1 n []) [] 0 0 [] pNone []) (plainA none 0)) ?_ rfl ⟨_, rfl, ⟨_, rfl, tok_plain (by simp) (trow_nil)⟩, HB.out⟩
  simp [results, Try.results47, go_sem, TT.val, pNone, vNone, plainA, TT.kind, TT.v, TT.vs, TT.lo, TT.hi, TT.ws, TT.p, TT.args, VT.kind, VT.num, VT.items, PT.kind, PT.val, PT.num, PT.args] at z0 z1 z2 z3 z4 z5 z6 z7 z8 z9 z10 z11 z12 z13 z14 ⊢
  simp [z0, z1, z2, z3, z4, z5, z6, z7, z8, z9, z10, z11, z12, z13, z14]
set_option maxRecDepth 100000 in
set_option maxHeartbeats 4000000 in
theorem lspan_any (lo hi : Int) (w : World) : Calls Try.prog 49 #[.int .i64 lo, .int .i64 hi] w (TMade (.mk 2 (.mk 0 0 []) [] lo hi [] pNone []) w) := by
  obtain ⟨w1, hw1, m1, s1, R1, _⟩ := box15 w (.int .u8 0) (.int .u8 0) (.int .i64 0) (.slice none 0 0) (.slice none 0 0) (.int .i64 0) (.int .i64 0) (.slice none 0 0) (.int .u8 0) (.int .u8 0) (.int .i64 0) (.slice none 0 0) (.int .i64 0) (.slice none 0 0) (.slice none 0 0) 47
  have HTH := Lib.hid (R1.there (q := 0) (m := 15) (by decide))
  have HIN : Hid ((Try.prog.info? 47).map (·.size) = some 15) := Lib.hid (by
    obtain ⟨i0, hi, hz0, hz1, hz2⟩ := info_parts zeroT
    rw [hi, Option.map_some, hz1])
  obtain ⟨wE, hwE, hc, _, hbe⟩ := stored15 R1 (.mk 2 (.mk 0 0 []) [] lo hi [] pNone []) (plainA none 0)
  obtain ⟨z0, z1, z2, z3, z4, z5, z6, z7, z8, z9, z10, z11, z12, z13, z14⟩ := hc
  have hB := hbe _ _ (Nat.le_refl _) m1
  have HB := Lib.hid hB; have HW := Lib.hid hwE
  clear hB hwE hbe R1 m1
  go_enter Try.func49, Try.ntmps49
  go_wp2_with (refine wpList_store_mid rfl 47 _ _ rfl w.heap.size 0 _ rfl rfl HTH.out HIN.out (by simp [Value.oneCell']) ?_)
  generalize hWF : World.setCells w1 w.heap.size 0 _ = wF
  obtain rfl : wE = wF := HW.out.symm.trans hWF
  clear hWF
  refine bodyPost_ret (v := TT.val (.mk 2 (.mk 0 0 []) [] lo hi [] pNone []) (plainA none 0)) ?_ rfl ⟨_, rfl, ⟨_, rfl, tok_plain (by simp) (trow_nil)⟩, HB.out⟩
  simp [results, Try.results49, go_sem, TT.val, pNone, vNone, plainA, TT.kind, TT.v, TT.vs, TT.lo, TT.hi, TT.ws, TT.p, TT.args, VT.kind, VT.num, VT.items, PT.kind, PT.val, PT.num, PT.args] at z0 z1 z2 z3 z4 z5 z6 z7 z8 z9 z10 z11 z12 z13 z14 ⊢
  simp [z0, z1, z2, z3, z4, z5, z6, z7, z8, z9, z10, z11, z12, z13, z14]
set_option maxRecDepth 100000 in
set_option maxHeartbeats 4000000 in
theorem lself_any (w : World) : Calls Try.prog 50 #[] w (TMade (.mk 11 (.mk 0 0 []) [] 0 0 [] pNone []) w) := by
  obtain ⟨w1, hw1, m1, s1, R1, _⟩ := box15 w (.int .u8 0) (.int .u8 0) (.int .i64 0) (.slice none 0 0) (.slice none 0 0) (.int .i64 0) (.int .i64 0) (.slice none 0 0) (.int .u8 0) (.int .u8 0) (.int .i64 0) (.slice none 0 0) (.int .i64 0) (.slice none 0 0) (.slice none 0 0) 47
  have HTH := Lib.hid (R1.there (q := 0) (m := 15) (by decide))
  have HIN : Hid ((Try.prog.info? 47).map (·.size) = some 15) := Lib.hid (by
    obtain ⟨i0, hi, hz0, hz1, hz2⟩ := info_parts zeroT
    rw [hi, Option.map_some, hz1])
  obtain ⟨wE, hwE, hc, _, hbe⟩ := stored15 R1 (.mk 11 (.mk 0 0 []) [] 0 0 [] pNone []) (plainA none 0)
  obtain ⟨z0, z1, z2, z3, z4, z5, z6, z7, z8, z9, z10, z11, z12, z13, z14⟩ := hc
  have hB := hbe _ _ (Nat.le_refl _) m1
  have HB := Lib.hid hB; have HW := Lib.hid hwE
  clear hB hwE hbe R1 m1
  go_enter Try.func50, Try.ntmps50
  go_wp2_with (refine wpList_store_mid rfl 47 _ _ rfl w.heap.size 0 _ rfl rfl HTH.out HIN.out (by simp [Value.oneCell']) ?_)
  generalize hWF : World.setCells w1 w.heap.size 0 _ = wF
  obtain rfl : wE = wF := HW.out.symm.trans hWF
  clear hWF
  refine bodyPost_ret (v := TT.val (.mk 11 (.mk 0 0 []) [] 0 0 [] pNone []) (plainA none 0)) ?_ rfl ⟨_, rfl, ⟨_, rfl, tok_plain (by simp) (trow_nil)⟩, HB.out⟩
  simp [results, Try.results50, go_sem, TT.val, pNone, vNone, plainA, TT.kind, TT.v, TT.vs, TT.lo, TT.hi, TT.ws, TT.p, TT.args, VT.kind, VT.num, VT.items, PT.kind, PT.val, PT.num, PT.args] at z0 z1 z2 z3 z4 z5 z6 z7 z8 z9 z10 z11 z12 z13 z14 ⊢
  simp [z0, z1, z2, z3, z4, z5, z6, z7, z8, z9, z10, z11, z12, z13, z14]
set_option maxRecDepth 100000 in
set_option maxHeartbeats 4000000 in
theorem lof_any (k : Int) (l : List TT) (a : Option Addr) (cap : Nat) (w : World) (hl : l.length ≤ 651562446070) (hr : TRow w l a) : Calls Try.prog 48 #[.int .u8 k, .slice a l.length cap] w (TMade (.mk k (.mk 0 0 []) [] 0 0 [] pNone l) w) := by
  obtain ⟨w1, hw1, m1, s1, R1, _⟩ := box15 w (.int .u8 0) (.int .u8 0) (.int .i64 0) (.slice none 0 0) (.slice none 0 0) (.int .i64 0) (.int .i64 0) (.slice none 0 0) (.int .u8 0) (.int .u8 0) (.int .i64 0) (.slice none 0 0) (.int .i64 0) (.slice none 0 0) (.slice none 0 0) 47
  have HTH := Lib.hid (R1.there (q := 0) (m := 15) (by decide))
  have HIN : Hid ((Try.prog.info? 47).map (·.size) = some 15) := Lib.hid (by
    obtain ⟨i0, hi, hz0, hz1, hz2⟩ := info_parts zeroT
    rw [hi, Option.map_some, hz1])
  obtain ⟨wE, hwE, hc, _, hbe⟩ := stored15 R1 (.mk k (.mk 0 0 []) [] 0 0 [] pNone l) (plainA a cap)
  obtain ⟨z0, z1, z2, z3, z4, z5, z6, z7, z8, z9, z10, z11, z12, z13, z14⟩ := hc
  have hB := hbe _ _ (Nat.le_refl _) m1
  have HB := Lib.hid hB; have HW := Lib.hid hwE
  clear hB hwE hbe R1 m1
  go_enter Try.func48, Try.ntmps48
  go_wp2_with (refine wpList_store_mid rfl 47 _ _ rfl w.heap.size 0 _ rfl rfl HTH.out HIN.out (by simp [Value.oneCell']) ?_)
  generalize hWF : World.setCells w1 w.heap.size 0 _ = wF
  obtain rfl : wE = wF := HW.out.symm.trans hWF
  clear hWF
  refine bodyPost_ret (v := TT.val (.mk k (.mk 0 0 []) [] 0 0 [] pNone l) (plainA a cap)) ?_ rfl ⟨_, rfl, ⟨_, rfl, tok_plain hl (hr.below HB.out)⟩, HB.out⟩
  simp [results, Try.results48, go_sem, TT.val, pNone, vNone, plainA, TT.kind, TT.v, TT.vs, TT.lo, TT.hi, TT.ws, TT.p, TT.args, VT.kind, VT.num, VT.items, PT.kind, PT.val, PT.num, PT.args] at z0 z1 z2 z3 z4 z5 z6 z7 z8 z9 z10 z11 z12 z13 z14 ⊢
  simp [z0, z1, z2, z3, z4, z5, z6, z7, z8, z9, z10, z11, z12, z13, z14]
/-- a box that holds a term. -/
def BoxT (w : World) (B : Nat) (t : TT) : Prop := ∃ A, TCells w B 0 t A ∧ TOk w t A
theorem BoxT.below {w w' : World} {B : Nat} {t : TT} (h : BoxT w B t) (hb : Below w.heap.size w w') : BoxT w' B t := by
  obtain ⟨A, h0, h1⟩ := h; exact ⟨A, h0.below hb, h1.below hb⟩
theorem TCells.range {w : World} {b o : Nat} {t : TT} {A : TA} (h : TCells w b o t A) : w.rangeAt b o (cellsOf t A).toList := by
  obtain ⟨h0, h1, h2, h3, h4, h5, h6, h7, h8, h9, h10, h11, h12, h13, h14⟩ := h
  intro j v hj
  have hlt : j < 15 := (List.getElem?_eq_some_iff.1 hj).1
  rcases (by omega : j = 0 ∨ j = 1 ∨ j = 2 ∨ j = 3 ∨ j = 4 ∨ j = 5 ∨ j = 6 ∨ j = 7 ∨ j = 8 ∨ j = 9 ∨ j = 10 ∨ j = 11 ∨ j = 12 ∨ j = 13 ∨ j = 14) with rfl | rfl | rfl | rfl | rfl | rfl | rfl | rfl | rfl | rfl | rfl | rfl | rfl | rfl | rfl
  all_goals (cases hj; assumption)
theorem size15 : (Try.prog.info? 47).map (·.size) = some 15 := by
  obtain ⟨i0, hi, hz0, hz1, hz2⟩ := info_parts zeroT
  rw [hi, Option.map_some, hz1]
theorem run_load15 {w : World} {B q : Nat} {t : TT} {A : TA} (hc : TCells w B q t A) {o : Oper} {r : Operand → Value} {po : Operand} (ho : o.op = .load 47 po) (e1 : r po = .pointer (some ⟨B, q, none⟩)) :
    (execOp r o).run Try.prog w = .ok (.value (t.val A)) w := by
  obtain ⟨od, oo, ot, op, oa, og⟩ := o
  simp only at ho
  subst ho
  have h := run_loadAt_mid (P := Try.prog) w B q 47 _ _ hc.range Try.underlying47 rfl size15
  unfold execOp
  simp only [e1, Sem.run_bind, Sem.run_pure, h, Result.andThen_ok]
  rfl
theorem row1_new (w : World) (t : TT) (A : TA) : ∃ w2, w.alloc (.cells #[.int .u8 t.kind, .int .u8 t.v.kind, .int .i64 t.v.num, .slice A.va t.v.items.length A.vc, .slice A.sa t.vs.length A.sc, .int .i64 t.lo, .int .i64 t.hi, .slice A.wa t.ws.length A.wc, .int .u8 t.p.kind, .int .u8 t.p.val.kind, .int .i64 t.p.val.num, .slice A.qa t.p.val.items.length A.qc, .int .i64 t.p.num, .slice A.pa t.p.args.length A.pc, .slice A.aa t.args.length A.ac] 47) = w2 ∧
    Below w.heap.size w w2 ∧ w.heap.size < w2.heap.size ∧ TCells w2 w.heap.size 0 t A ∧ RowAt w2 47 w.heap.size 15 := by
  obtain ⟨w2, h, m, s, R, hc⟩ := box15 w (.int .u8 t.kind) (.int .u8 t.v.kind) (.int .i64 t.v.num) (.slice A.va t.v.items.length A.vc) (.slice A.sa t.vs.length A.sc) (.int .i64 t.lo) (.int .i64 t.hi) (.slice A.wa t.ws.length A.wc) (.int .u8 t.p.kind) (.int .u8 t.p.val.kind) (.int .i64 t.p.val.num) (.slice A.qa t.p.val.items.length A.qc) (.int .i64 t.p.num) (.slice A.pa t.p.args.length A.pc) (.slice A.aa t.args.length A.ac) 47
  exact ⟨w2, h, m, s, hc, R⟩
set_option maxRecDepth 100000 in
set_option maxHeartbeats 4000000 in
theorem llist_any (lo hi : Int) (t : TT) (x : Value) (w : World) (hx : TIn w t x) : Calls Try.prog 52 #[.int .i64 lo, .int .i64 hi, x] w (TMade (tList lo hi t) w) := by
  obtain ⟨A, rfl, hok⟩ := hx
  obtain ⟨w0, hw0, m0, s0, hc0, R0⟩ := row1_new w t A
  obtain ⟨w1, hw1, m1, s1, R1, _⟩ := box15 w0 (.int .u8 0) (.int .u8 0) (.int .i64 0) (.slice none 0 0) (.slice none 0 0) (.int .i64 0) (.int .i64 0) (.slice none 0 0) (.int .u8 0) (.int .u8 0) (.int .i64 0) (.slice none 0 0) (.int .i64 0) (.slice none 0 0) (.slice none 0 0) 47
  have HTH := Lib.hid (R1.there (q := 0) (m := 15) (by decide))
  have HIN : Hid ((Try.prog.info? 47).map (·.size) = some 15) := Lib.hid (by
    obtain ⟨i0, hi, hz0, hz1, hz2⟩ := info_parts zeroT
    rw [hi, Option.map_some, hz1])
  obtain ⟨w2, hw2, m2, s2, hc2, R2⟩ := row1_new w1 t A
  have R1 := R1.below s1 m2
  have HTH := Lib.hid (R1.there (q := 0) (m := 15) (by decide))
  obtain ⟨wE, hwE, hc, hk, hbe⟩ := stored15 R1 (tList lo hi t) (plainA (some ⟨w1.heap.size, 0, none⟩) 1)
  have hB : Below w.heap.size w wE := hbe _ _ (Nat.le_of_lt s0) (m0.trans ((m1.trans (m2.mono (Nat.le_of_lt s1))).mono (Nat.le_of_lt s0)))
  have hrow : TRow wE [t] (some ⟨w1.heap.size, 0, none⟩) := trow_cons (hc2.keep fun o v h => hk _ _ _ (by omega) h) (hok.below hB) trow_nil
  have g := hc0.below m1
  obtain ⟨g0, g1, g2, g3, g4, g5, g6, g7, g8, g9, g10, g11, g12, g13, g14⟩ := g
  obtain ⟨z0, z1, z2, z3, z4, z5, z6, z7, z8, z9, z10, z11, z12, z13, z14⟩ := hc
  have HB := Lib.hid hB; have HW := Lib.hid hwE; have HROW := Lib.hid hrow
  clear hB hwE hbe R1 m1 hc2 R2 m2 R0 m0 hc0 hrow hk hok s0 s1 s2
  subst hw2
  unfold TT.val
  go_enter Try.func52, Try.ntmps52
  go_wp2_with (refine wpList_store_mid rfl 47 _ _ rfl w0.heap.size 0 _ rfl rfl HTH.out HIN.out (by simp [Value.oneCell']) ?_)
  generalize hWF : World.setCells _ w0.heap.size 0 _ = wF
  obtain rfl : wE = wF := HW.out.symm.trans hWF
  clear hWF
  refine bodyPost_ret (v := TT.val (tList lo hi t) (plainA (some ⟨w1.heap.size, 0, none⟩) 1)) ?_ rfl ⟨_, rfl, ⟨_, rfl, tok_plain (by simp) HROW.out⟩, HB.out⟩
  simp [results, Try.results52, go_sem, TT.val, tList, pNone, vNone, plainA, TT.kind, TT.v, TT.vs, TT.lo, TT.hi, TT.ws, TT.p, TT.args, VT.kind, VT.num, VT.items, PT.kind, PT.val, PT.num, PT.args] at z0 z1 z2 z3 z4 z5 z6 z7 z8 z9 z10 z11 z12 z13 z14 ⊢
  simp [z0, z1, z2, z3, z4, z5, z6, z7, z8, z9, z10, z11, z12, z13, z14]
end Go.Proofs.Yteebbffecaeciaa
/- What is so in all worlds that are as this one but for some blocks. -/
namespace Go.Proofs.Yteebbffecaeciaa
open Go.RowKit

theorem TCells.block {w w' : World} {b o : Nat} {t : TT} {A : TA} (hb : w'.heap[b]? = w.heap[b]?) (h : TCells w b o t A) : TCells w' b o t A := h.keep fun o v hc => by rw [World.cell?_of_block (w := w) (a := ⟨b, o, none⟩) hb]; exact hc
/-- W has w's blocks but those of S. -/
def AgreeS (S : Nat → Prop) (w W : World) : Prop := w.heap.size ≤ W.heap.size ∧ ∀ k, k < w.heap.size → ¬ S k → W.heap[k]? = w.heap[k]?
theorem AgreeS.cell {S : Nat → Prop} {w W : World} (h : AgreeS S w W) {b o : Nat} {v : Value} (hb : ¬ S b) (hc : w.cell? ⟨b, o, none⟩ = some v) : W.cell? ⟨b, o, none⟩ = some v := by
  rw [World.cell?_of_block (w := w) (a := ⟨b, o, none⟩) (h.2 b (lt_of_cell hc) hb)]; exact hc
/-- what is so in all worlds that are as this one but for the blocks of S. -/
def TOkA (S : Nat → Prop) (w : World) (t : TT) (A : TA) : Prop := ∀ W, AgreeS S w W → TOk W t A
def TInA (S : Nat → Prop) (w : World) (t : TT) (x : Value) : Prop := ∃ A, x = t.val A ∧ TOkA S w t A
theorem AgreeS.back' {S S' : Nat → Prop} {w w' W : World} (hs : w.heap.size ≤ w'.heap.size) (hk : ∀ k, k < w.heap.size → ¬ S k → ¬ S' k ∧ w'.heap[k]? = w.heap[k]?) (ha : AgreeS S' w' W) : AgreeS S w W :=
  ⟨Nat.le_trans hs ha.1, fun k h1 h2 => (ha.2 k (Nat.lt_of_lt_of_le h1 hs) (hk k h1 h2).1).trans (hk k h1 h2).2⟩
theorem TOkA.step {S S' : Nat → Prop} {w w' : World} {t : TT} {A : TA} (h : TOkA S w t A) (hs : w.heap.size ≤ w'.heap.size) (hk : ∀ k, k < w.heap.size → ¬ S k → ¬ S' k ∧ w'.heap[k]? = w.heap[k]?) : TOkA S' w' t A := fun W ha => h W (ha.back' hs hk)
theorem TOkA.below {S : Nat → Prop} {w w' : World} {t : TT} {A : TA} (h : TOkA S w t A) (hb : Below w.heap.size w w') : TOkA S w' t A := h.step hb.size fun k h1 h2 => ⟨h2, hb.block k h1⟩
theorem TOkA.ok {S : Nat → Prop} {w : World} {t : TT} {A : TA} (h : TOkA S w t A) : TOk w t A := h w ⟨Nat.le_refl _, fun _ _ _ => rfl⟩
theorem TIn.any {w : World} {t : TT} {x : Value} (h : TIn w t x) : TInA (fun _ => False) w t x := by
  obtain ⟨A, e, h⟩ := h
  exact ⟨A, e, fun W ha => h.mono (fun b o v hc => ha.cell (fun h => h) hc) t A⟩
theorem TInA.below {S : Nat → Prop} {w w' : World} {t : TT} {x : Value} (h : TInA S w t x) (hb : Below w.heap.size w w') : TInA S w' t x := by
  obtain ⟨A, e, h⟩ := h; exact ⟨A, e, h.below hb⟩
theorem TInA.tin {S : Nat → Prop} {w : World} {t : TT} {x : Value} (h : TInA S w t x) : TIn w t x := by
  obtain ⟨A, e, h⟩ := h; exact ⟨A, e, h.ok⟩
/-- what was so ahead of the blocks of S is so whatever they hold. -/
theorem TOk.old {S : Nat → Prop} {w w' : World} {t : TT} {A : TA} (h : TOk w t A) (hb : Below w.heap.size w w') (hS : ∀ k, S k → w.heap.size ≤ k) : TOkA S w' t A := fun W ha =>
  h.mono (fun b o v hc => by
    have hlt := lt_of_cell hc
    have e : W.heap[b]? = w.heap[b]? := (ha.2 b (Nat.lt_of_lt_of_le hlt hb.size) (fun hk => absurd (hS b hk) (by omega))).trans (hb.block b hlt)
    rw [World.cell?_of_block (w := w) (a := ⟨b, o, none⟩) e]; exact hc) t A
end Go.Proofs.Yteebbffecaeciaa
