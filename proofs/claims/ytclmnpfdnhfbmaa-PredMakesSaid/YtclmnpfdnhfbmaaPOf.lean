/- pred.of: the holder that a predicate is turned to. -/
import Derived.Test.YtclmnpfdnhfbmaaPHold
import Derived.Test.YtclmnpfdnhfbmaaPWalkF
import Derived.Test.YtclmnpfdnhfbmaaVGrow
namespace Go.Proofs.Ytclmnpfdnhfbmaa
open Go.RowKit

/-- W has all blocks of w as they are there, but for those of S. -/
def Agree (S : Nat → Prop) (w W : World) : Prop := w.heap.size ≤ W.heap.size ∧ ∀ k, k < w.heap.size → ¬ S k → W.heap[k]? = w.heap[k]?
theorem Agree.below {S : Nat → Prop} {w W W' : World} (h : Agree S w W) (hb : Below W.heap.size W W') : Agree S w W' :=
  ⟨Nat.le_trans h.1 hb.size, fun k hk hS => (hb.block k (Nat.lt_of_lt_of_le hk h.1)).trans (h.2 k hk hS)⟩
theorem Agree.cell {S : Nat → Prop} {w W : World} (h : Agree S w W) {b o : Nat} {v : Value} (hb : ¬ S b) (hc : w.cell? ⟨b, o, none⟩ = some v) : W.cell? ⟨b, o, none⟩ = some v := by
  rw [World.cell?_of_block (w := w) (a := ⟨b, o, none⟩) (h.2 b (lt_of_cell hc) hb)]; exact hc
theorem Holder.mono {ok ok' : World → Prop} (h : ∀ W, ok' W → ok W) {t : PT} {v : Value} (H : Holder ok t v) : Holder ok' t v := by
  obtain ⟨T, y, f, e, hn, hm, hf, hc⟩ := H
  exact ⟨T, y, f, e, hn, hm, hf, fun W X x hW hx => hc W X x (h W hW) hx⟩
/-- the blocks of S, and the block of a row. -/
def Plus (S : Nat → Prop) (a : Option Addr) (k : Nat) : Prop := S k ∨ a = some ⟨k, 0, none⟩
theorem agree_step {S : Nat → Prop} {a a' : Option Addr} {wr w5 w6 W : World} (hb : Below wr.heap.size wr w5) (h56 : w5.heap.size ≤ w6.heap.size)
    (hk : ∀ k, k < w5.heap.size → (∀ b', a = some ⟨b', 0, none⟩ → k ≠ b') → w6.heap[k]? = w5.heap[k]? ∧ ∀ b', a' = some ⟨b', 0, none⟩ → k ≠ b') (h : Agree (Plus S a') w6 W) : Agree (Plus S a) wr W := by
  refine ⟨Nat.le_trans hb.size (Nat.le_trans h56 h.1), fun k hlt hn => ?_⟩
  have h5 : k < w5.heap.size := Nat.lt_of_lt_of_le hlt hb.size
  obtain ⟨h1, h2⟩ := hk k h5 (fun b' e hkb => hn (.inr (by rw [e, hkb])))
  rw [h.2 k (Nat.lt_of_lt_of_le h5 h56) (fun hp => hp.elim (fun hs => hn (.inl hs)) (fun e => h2 k e rfl)), h1]
  exact hb.block k hlt

theorem zeroH : (Try.prog.info? 65).map (fun i => (i.zero, i.size, i.bytes)) = some (some .nilIface, 1, 16) := by kernel_rfl
theorem PT.fit_open {k n : Int} {v : VT} {l : List PT} (h : PT.fit (.mk k v n l) = true) : 1 ≤ k ∧ k ≤ 11 ∧ (k = 8 → 0 ≤ n) ∧ PT.least k ≤ l.length ∧ PT.fits l = true := by
  rw [PT.fit] at h
  simp only [Bool.and_eq_true, Bool.or_eq_true, decide_eq_true_eq] at h
  obtain ⟨⟨⟨⟨h1, h2⟩, h3⟩, h4⟩, h5⟩ := h
  exact ⟨h1, h2, fun e => h3.resolve_left (fun h => h e), h4, h5⟩

/-- one more holder in the row. -/
theorem of_step {S : Nat → Prop} {B i cap' cap6 : Nat} {a' a6 : Option Addr} {hs : List Value} {h : Value} {l : List PT} {wr w4 w5 w6 : World} (hg : Grown wr B 65 1 i hs a' cap') (hB5 : Below wr.heap.size wr w5) (h56 : w5.heap.size ≤ w6.heap.size)
    (m5 : Below w4.heap.size w4 w5) (hlt : i < l.length) (hh : Holder (Agree (Plus S a') w4) l[i] h) (hg6 : Grown w6 B 65 1 (i + 1) (hs ++ [h]) a6 cap6)
    (hk6 : ∀ k, k < w5.heap.size → (∀ b', a' = some ⟨b', 0, none⟩ → k ≠ b') → w6.heap[k]? = w5.heap[k]? ∧ ∀ b', a6 = some ⟨b', 0, none⟩ → k ≠ b')
    (hH : ∀ j (h : j < l.length), j < i → ∃ hh, hs[j]? = some hh ∧ Holder (Agree (Plus S a') wr) l[j] hh) :
    (∀ b, a6 = some ⟨b, 0, none⟩ → B ≤ b ∧ b < w6.heap.size) ∧ ∀ j (hj : j < l.length), j < i + 1 → ∃ hh, (hs ++ [h])[j]? = some hh ∧ Holder (Agree (Plus S a6) w6) l[j] hh := by
  have hsz := hg.size
  refine ⟨fun b hb => ?_, fun j hj hji => ?_⟩
  · obtain ⟨b', e, hB, hrow, _⟩ := hg6.cells (by simp)
    rw [hb] at e
    cases e
    exact ⟨hB, hrow.lt⟩
  · by_cases e : j = i
    · subst e
      exact ⟨h, by rw [List.getElem?_append_right (by omega)]; simp [show j - hs.length = 0 by omega], hh.mono fun W hW => agree_step m5 h56 hk6 hW⟩
    · obtain ⟨hh', h1, h2⟩ := hH j hj (by omega)
      exact ⟨hh', by rw [List.getElem?_append_left (by omega)]; exact h1, h2.mono fun W hW => agree_step hB5 h56 hk6 hW⟩
theorem Holder.head {ok : World → Prop} {k n : Int} {v : VT} {l : List PT} {h : Value} (hl : 0 < l.length) (H : ∀ t0 l', l = t0 :: l' → Holder ok (.mk k v n (t0 :: l')) h) : Holder ok (.mk k v n l) h := by
  cases l with
  | nil => simp at hl
  | cons t0 l' => exact H t0 l' rfl
/-- the row of holders, in each world that agrees. -/
theorem of_row {S : Nat → Prop} {B cap' : Nat} {a' : Option Addr} {hs : List Value} {l : List PT} {wr : World} (hg : Grown wr B 65 1 l.length hs a' cap')
    (hH : ∀ j (h : j < l.length), j < l.length → ∃ hh, hs[j]? = some hh ∧ Holder (Agree (Plus S a') wr) l[j] hh) (hp : ∀ W, Agree S wr W → Agree (Plus S a') wr W) (hn : ∀ b, a' = some ⟨b, 0, none⟩ → ¬ S b) :
    ∀ i (h : i < l.length), ∃ b hh, a' = some ⟨b, 0, none⟩ ∧ Holder (Agree S wr) l[i] hh ∧ ∀ W, Agree S wr W → W.cell? ⟨b, i, none⟩ = some hh := fun i h => by
  obtain ⟨hh, h1, h2⟩ := hH i h h
  have hsz := hg.size
  obtain ⟨b, e, _, _, hc⟩ := hg.cells (by omega)
  exact ⟨b, hh, e, h2.mono hp, fun W hW => hW.cell (hn b e) (hc i hh h1)⟩
theorem of_val {S : Nat → Prop} {w00 w w0 wr W : World} {v : VT} {x : Value} (h0 : Below w00.heap.size w00 w) (m0 : Below w.heap.size w w0) (hB : Below w0.heap.size w0 wr) (hS : ∀ k, S k → w00.heap.size ≤ k ∧ k < w.heap.size) (hv : VIn w00 v x) (hW : Agree S wr W) : VIn W v x :=
  hv.mono (fun b o u hc => hW.cell (fun hs => by have := hS b hs; have := lt_of_cell hc; omega) (cell_stays (h0.trans ((m0.trans (hB.mono m0.size)).mono h0.size)) hc)) v x

/-- what 'of' hands back. -/
def OfPost (S : Nat → Prop) (t : PT) (w : World) (e : Ending) (w' : World) : Prop := ∃ h, e = .returned h ∧ Holder (Agree S w') t h ∧ Below w.heap.size w w'

set_option maxRecDepth 100000 in
set_option maxHeartbeats 16000000 in
theorem of_any (w00 : World) (N : Nat) : ∀ (t : PT) (x : Value) (w : World) (S : Nat → Prop), t.cnt ≤ N → t.fit = true → PIn w00 t x → Below w00.heap.size w00 w → (∀ k, S k → w00.heap.size ≤ k ∧ k < w.heap.size) →
    Calls Try.prog 52 #[x] w (OfPost S t w) := by
  induction N with
  | zero => intro t x w S h; have := PT.cnt_pos t; omega
  | succ N ih =>
    intro t x w S hs hfit hx h0 hS
    obtain ⟨k, v, n, l⟩ := t
    obtain ⟨va, vc, a, cap, hlen, hvl, rfl, hv, hr⟩ := hx.open
    have IH := Lib.hid ih; clear ih
    rw [PT.cnt] at hs
    have hcs : ∀ i (h : i < l.length), l[i].cnt ≤ N := fun i h => by have := PT.cnts_get h; omega
    obtain ⟨w0, hw0, m0, s0, q0, q1, q2, q3, q4, q5⟩ := box6 w (.int .u8 k) (.int .u8 v.kind) (.int .i64 v.num) (.slice va v.items.length vc) (.int .i64 n) (.slice a l.length cap) 27
    have h00 : Below w00.heap.size w00 w0 := h0.trans (m0.mono h0.size)
    have HCS := Lib.hid hcs; have HFIT := Lib.hid (PT.fit_open hfit); have HS := Lib.hid hS
    have HV := Lib.hid hv; have HR := Lib.hid hr
    clear hcs hfit hS hs hv hr hx
    go_enter Try.func52, Try.ntmps52
    go_wp2_with fail
    go_loopw [3, 9] (fun x y wr => ∃ (i : Nat) (a' : Option Addr) (cap' : Nat) (hs : List Value), x = .slice a' i cap' ∧ y = .int .i64 i ∧ i ≤ l.length ∧ Grown wr w0.heap.size 65 1 i hs a' cap' ∧
      (∀ b, a' = some ⟨b, 0, none⟩ → w0.heap.size ≤ b ∧ b < wr.heap.size) ∧ (∀ j (h : j < l.length), j < i → ∃ hh, hs[j]? = some hh ∧ Holder (Agree (Plus S a') wr) l[j] hh) ∧ Below w0.heap.size w0 wr) (fun _ y _ => l.length - (intOf y).toNat)
    case atStart => exact ⟨0, none, 0, [], rfl, rfl, by omega, Grown.nil _ _ _ _, fun b h => (by cases h), fun j _ h => (by omega), Below.refl _ _⟩
    case round =>
      obtain ⟨i, a', cap', hs, rfl, rfl, hi, hg, ha, hH, hB⟩ := hrel
      have HG := Lib.hid hg; have HA := Lib.hid ha; have HH := Lib.hid hH
      clear hg ha hH
      have f0 := cell_stays hB q0
      have hBw : Below w00.heap.size w00 wr := h00.trans (hB.mono h00.size)
      by_cases hlt : i < l.length
      · obtain ⟨b, o, rfl, ax, ac, a2, cap2, d0, d1, d2, d3, d4, d5, hx⟩ := HR.out.got i hlt
        have d0 := cell_stays hBw d0
        have d1 := cell_stays hBw d1
        have d2 := cell_stays hBw d2
        have d3 := cell_stays hBw d3
        have d4 := cell_stays hBw d4
        have d5 := cell_stays hBw d5
        obtain ⟨w3, hw3, m3, s3, r0, r1, r2, r3, r4, r5⟩ := box6 wr (.int .u8 l[i].kind) (.int .u8 l[i].val.kind) (.int .i64 l[i].val.num) (.slice ax l[i].val.items.length ac) (.int .i64 l[i].num) (.slice a2 l[i].args.length cap2) 27
        have hB3 : Below w00.heap.size w00 w3 := hBw.trans (m3.mono hBw.size)
        have hS3 : ∀ k, Plus S a' k → w00.heap.size ≤ k ∧ k < w3.heap.size := fun k hk => by
          have e1 := h0.size; have e2 := m0.size; have e3 := hB.size; have e4 := m3.size
          rcases hk with hk | hk
          · have := HS.out k hk; omega
          · have := HA.out k hk; omega
        have HX := Lib.hid hx; have HS3 := Lib.hid hS3
        clear hx hS3
        go_wp2_with fail
        refine (IH.out l[i] _ w3 (Plus S a') (HCS.out i hlt) (PT.fits_get HFIT.out.2.2.2.2 hlt) HX.out hB3 HS3.out).mono ?_
        rintro e w4 ⟨h, rfl, hh, hb4⟩
        obtain ⟨T, y, f, rfl, hh0⟩ := hh
        have hh : Holder (Agree (Plus S a') w4) l[i] (.iface T y) := ⟨T, y, f, rfl, hh0⟩
        clear hh0
        have hB4 : Below wr.heap.size wr w4 := m3.trans (hb4.mono m3.size)
        obtain ⟨w5, hw5, m5, s5⟩ : ∃ w5, w4.alloc (.cells #[.iface T y] 65) = w5 ∧ Below w4.heap.size w4 w5 ∧ w5.cell? ⟨w4.heap.size, 0, none⟩ = some (.iface T y) := ⟨_, rfl, Below.al _, by go_simp⟩
        have hB5 : Below wr.heap.size wr w5 := hB4.trans (m5.mono hB4.size)
        obtain ⟨i0, hi0, hz0, hz1, hz2⟩ := info_parts zeroH
        obtain ⟨a6, cap6, w6, happ, hg6, hb6, hk6⟩ := grown_append (P := Try.prog) (w := w5) (B := w0.heap.size) (T := 65) (k := 1) (Nat.le_trans hB.size hB5.size) (HG.out.below hB5) (t := 81) (tx := 81) (ty := 81)
          Try.underlying81 hi0 hz0 hz1 rfl hz2 (Src.ofSlice w5 Try.underlying81 ⟨w4.heap.size, 0, none⟩ 1 1 [.iface T y] rfl (fun j u hu => by
            cases j with
            | zero => simp only [List.getElem?_cons_zero, Option.some.injEq] at hu; subst hu; exact s5
            | succ j => simp at hu) (fun u hu => by simp only [List.mem_singleton] at hu; subst hu; rfl)) (by omega) (by omega)
        have e5 : w4.heap.size < w5.heap.size := lt_of_cell s5
        have hsz6 : w5.heap.size ≤ w6.heap.size := by have := hb6.size; omega
        have hH2 := of_step HG.out hB5 hsz6 m5 hlt hh hg6 hk6 HH.out
        have HG6 := Lib.hid hg6; have HH2 := Lib.hid hH2
        have hB6 : Below w0.heap.size w0 w6 := hB.trans ((hB5.mono hB.size).trans hb6)
        clear hB4 hb4 hB5 hb6 hk6 hg6 hH2 hh d0 d1 d2 d3 d4 d5 r0 r1 r2 r3 r4 r5 hi0 hz0 hz1 hz2
        have HAP := Lib.hid happ; clear happ
        go_wp2_with (at_builtin; refine wpList_append_run _ rfl _ _ _ rfl _ _ _ _ rfl rfl HAP.out ?_)
        go_roundw
        case rel => exact ⟨i + 1, a6, cap6, _, rfl, by go_num, by omega, HG6.out, HH2.out.1, HH2.out.2, hB6⟩
        case measure => simp [intOf]; omega
      · have hii : i = l.length := by omega
        subst hii
        have n4 : decide ((l.length : Int) < (l.length : Int)) = false := by simp
        have f1 := cell_stays hB q1
        have f2 := cell_stays hB q2
        have f3 := cell_stays hB q3
        have f4 := cell_stays hB q4
        have hBe : Below w.heap.size w wr := m0.trans (hB.mono m0.size)
        have hplus : ∀ W, Agree S wr W → Agree (Plus S a') wr W := fun W h => ⟨h.1, fun k hk hn => h.2 k hk (fun hs => hn (.inl hs))⟩
        have hok : ∀ W W', Agree S wr W → Below W.heap.size W W' → Agree S wr W' := fun _ _ h hb => h.below hb
        have hnS : ∀ b, a' = some ⟨b, 0, none⟩ → ¬ S b := fun b e hs => by
          have h1 := HA.out b e; have h2 := HS.out b hs; have h3 := m0.size; omega
        have HBE := Lib.hid hBe; have HPL := Lib.hid hplus; have HOK := Lib.hid hok; have HNS := Lib.hid hnS
        clear q0 q1 q2 q3 q4 q5 hBe hplus hok hnS hlt
        have hk1 := HFIT.out.1
        have hk2 := HFIT.out.2.1
        have hk : k = 1 ∨ k = 2 ∨ k = 3 ∨ k = 4 ∨ k = 5 ∨ k = 6 ∨ k = 7 ∨ k = 8 ∨ k = 9 ∨ k = 10 ∨ k = 11 := by omega
        rcases hk with rfl | rfl | rfl | rfl | rfl | rfl | rfl | rfl | rfl | rfl | rfl
        · go_wp2_with fail
          go_ret
          exact ⟨_, rfl, always_holds _ true _ (PT.holds1 v n l), HBE.out⟩
        · go_wp2_with fail
          go_ret
          exact ⟨_, rfl, always_holds _ false _ (PT.holds2 v n l), HBE.out⟩
        · go_wp2_with fail
          go_ret
          exact ⟨_, rfl, than3_holds _ HOK.out v n l va vc (fun W hW => of_val h0 m0 hB HS.out HV.out hW), HBE.out⟩
        · go_wp2_with fail
          go_ret
          exact ⟨_, rfl, than4_holds _ HOK.out v n l va vc (fun W hW => of_val h0 m0 hB HS.out HV.out hW), HBE.out⟩
        · have hl0 : 0 < l.length := by have := HFIT.out.2.2.2.1; unfold PT.least at this; simp at this; omega
          have HL0 := Lib.hid hl0
          obtain ⟨b, hh, rfl, hhh, hcell⟩ := of_row HG.out HH.out HPL.out HNS.out 0 hl0
          have f6 := hcell wr ⟨Nat.le_refl _, fun _ _ _ => rfl⟩
          obtain ⟨T, y, f, rfl, hh0⟩ := hhh
          have HHH : Hid (Holder (Agree S wr) l[0] (.iface T y)) := Lib.hid ⟨T, y, f, rfl, hh0⟩
          clear hcell hh0
          go_wp2_with fail
          go_ret
          exact ⟨_, rfl, Holder.head HL0.out fun t0 l' e => not_holds _ HOK.out t0 _ (by subst e; exact HHH.out) v n l', HBE.out⟩
        · go_wp2_with fail
          go_ret
          exact ⟨_, rfl, several6_holds _ HOK.out l a' cap' hlen (of_row HG.out HH.out HPL.out HNS.out) v n, HBE.out⟩
        · go_wp2_with fail
          go_ret
          exact ⟨_, rfl, several7_holds _ HOK.out l a' cap' hlen (of_row HG.out HH.out HPL.out HNS.out) v n, HBE.out⟩
        · have hl0 : 0 < l.length := by have := HFIT.out.2.2.2.1; unfold PT.least at this; simp at this; omega
          have HL0 := Lib.hid hl0
          obtain ⟨b, hh, rfl, hhh, hcell⟩ := of_row HG.out HH.out HPL.out HNS.out 0 hl0
          have f6 := hcell wr ⟨Nat.le_refl _, fun _ _ _ => rfl⟩
          obtain ⟨T, y, f, rfl, hh0⟩ := hhh
          have HHH : Hid (Holder (Agree S wr) l[0] (.iface T y)) := Lib.hid ⟨T, y, f, rfl, hh0⟩
          clear hcell hh0
          obtain ⟨m, rfl⟩ : ∃ m : Nat, n = m := ⟨n.toNat, by have := HFIT.out.2.2.1 rfl; omega⟩
          go_wp2_with fail
          refine region_tail 7 (by kernel_rfl) (by kernel_rfl) ?_
          simp only [List.take_succ_cons, List.take_zero, List.drop_succ_cons, List.drop_zero]
          repeat still_step
          refine wpStill_nil ?_
          go_wp2_with fail
          go_ret
          exact ⟨_, rfl, Holder.head HL0.out fun t0 l' e => at_holds _ (fun _ _ h hb => h.below hb) t0 _ (by subst e; exact HHH.out) v m l', HBE.out.trans (Below.refl _ _).drew⟩
        · have hl0 : 0 < l.length := by have := HFIT.out.2.2.2.1; unfold PT.least at this; simp at this; omega
          have HL0 := Lib.hid hl0
          obtain ⟨b, hh, rfl, hhh, hcell⟩ := of_row HG.out HH.out HPL.out HNS.out 0 hl0
          have f6 := hcell wr ⟨Nat.le_refl _, fun _ _ _ => rfl⟩
          obtain ⟨T, y, f, rfl, hh0⟩ := hhh
          have HHH : Hid (Holder (Agree S wr) l[0] (.iface T y)) := Lib.hid ⟨T, y, f, rfl, hh0⟩
          clear hcell hh0
          go_wp2_with fail
          refine region_tail 8 (by kernel_rfl) (by kernel_rfl) ?_
          simp only [List.take_succ_cons, List.take_zero, List.drop_succ_cons, List.drop_zero]
          repeat still_step
          refine wpStill_nil ?_
          go_wp2_with fail
          go_ret
          exact ⟨_, rfl, Holder.head HL0.out fun t0 l' e => items9_holds _ (fun _ _ h hb => h.below hb) t0 _ (by subst e; exact HHH.out) v n l', HBE.out.trans (Below.refl _ _).drew⟩
        · have hl0 : 0 < l.length := by have := HFIT.out.2.2.2.1; unfold PT.least at this; simp at this; omega
          have HL0 := Lib.hid hl0
          obtain ⟨b, hh, rfl, hhh, hcell⟩ := of_row HG.out HH.out HPL.out HNS.out 0 hl0
          have f6 := hcell wr ⟨Nat.le_refl _, fun _ _ _ => rfl⟩
          obtain ⟨T, y, f, rfl, hh0⟩ := hhh
          have HHH : Hid (Holder (Agree S wr) l[0] (.iface T y)) := Lib.hid ⟨T, y, f, rfl, hh0⟩
          clear hcell hh0
          go_wp2_with fail
          refine region_tail 8 (by kernel_rfl) (by kernel_rfl) ?_
          simp only [List.take_succ_cons, List.take_zero, List.drop_succ_cons, List.drop_zero]
          repeat still_step
          refine wpStill_nil ?_
          go_wp2_with fail
          go_ret
          exact ⟨_, rfl, Holder.head HL0.out fun t0 l' e => items10_holds _ (fun _ _ h hb => h.below hb) t0 _ (by subst e; exact HHH.out) v n l', HBE.out.trans (Below.refl _ _).drew⟩
        · have hl0 : 0 < l.length := by have := HFIT.out.2.2.2.1; unfold PT.least at this; simp at this; omega
          have HL0 := Lib.hid hl0
          obtain ⟨b, hh, rfl, hhh, hcell⟩ := of_row HG.out HH.out HPL.out HNS.out 0 hl0
          have f6 := hcell wr ⟨Nat.le_refl _, fun _ _ _ => rfl⟩
          obtain ⟨T, y, f, rfl, hh0⟩ := hhh
          have HHH : Hid (Holder (Agree S wr) l[0] (.iface T y)) := Lib.hid ⟨T, y, f, rfl, hh0⟩
          clear hcell hh0
          go_wp2_with fail
          go_ret
          exact ⟨_, rfl, Holder.head HL0.out fun t0 l' e => many_holds _ HOK.out t0 _ (by subst e; exact HHH.out) v n l', HBE.out⟩
end Go.Proofs.Ytclmnpfdnhfbmaa
