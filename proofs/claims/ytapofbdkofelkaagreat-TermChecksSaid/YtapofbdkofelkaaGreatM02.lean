/- Texts of this claim laid into one: VIter, VSize, VWrong. -/
import Derived.RangeFuncNested
import Derived.RangeFuncBound
import Derived.RangeFuncCalls
import Derived.RangeFuncLeaves
import Derived.RangeFuncWrites
import Derived.RangeFuncFrom
import Derived.Shelf.Abstract
import Derived.OwnWalkIn
import Derived.TacticsInMore
import Derived.LoopNIn
import Derived.LoopIn
import Derived.Laws.EntriesVeiled
import Derived.Test.YtapofbdkofelkaaGreatM01
/- The iterator of package val: 'all' hands a value and then its items to its body, each with its depth. -/
namespace Go.Proofs.YtapofbdkofelkaaGreat
open Go.RowKit Go.Shelf
attribute [local go_sem] Oper.semAt_some

theorem room_of_none {F : Fence} (hd : F.depth = none) (k : Nat) : F.room k := fun d h => by rw [hd] at h; cases h
theorem roundIn_any {F : Fence} (hd : F.depth = none) {m m' : Nat} {P : Program} {l : Nat} {f : FuncId} {tmps : Array Value} {assign body : Code} {w : World} {R : Ending → World → Prop}
    (h : RoundIn F m P l f tmps assign body w R) : RoundIn F m' P l f tmps assign body w R := ⟨h.1, fun c cs _ => h.2 c cs (room_of_none hd _)⟩
theorem yieldAt_any {F : Fence} (hd : F.depth = none) {m : Nat} (m' : Nat) {P : Program} {l : Nat} {args : Array Value} {W : World} {R : Ending → World → Prop} (h : YieldAt F m P l args W R) : YieldAt F m' P l args W R := by
  obtain ⟨fn, tmps, assign, body, hy, hR⟩ := h
  exact ⟨fn, tmps, assign, body, hy, roundIn_any hd hR⟩

/-- what a round keeps: all cells but those of the blocks from n₀ up to m (the caller's own variables). -/
structure KpBut (n₀ m : Nat) (W W' : World) : Prop where
  size : W.heap.size ≤ W'.heap.size
  cell : ∀ b o v, (b < n₀ ∨ m ≤ b) → W.cell? ⟨b, o, none⟩ = some v → W'.cell? ⟨b, o, none⟩ = some v
theorem KpBut.refl (n₀ m : Nat) (W : World) : KpBut n₀ m W W := ⟨Nat.le_refl _, fun _ _ _ _ h => h⟩
theorem KpBut.trans {n₀ m : Nat} {A B C : World} (h : KpBut n₀ m A B) (k : KpBut n₀ m B C) : KpBut n₀ m A C := ⟨Nat.le_trans h.size k.size, fun b o v hb hc => k.cell b o v hb (h.cell b o v hb hc)⟩
theorem KpBut.alloc {n₀ m : Nat} {A B : World} (h : KpBut n₀ m A B) (o : Obj) : KpBut n₀ m A (B.alloc o) :=
  h.trans ⟨by simp, fun _ _ _ _ hc => cell_stays ((Below.refl _ B).alloc (Nat.le_refl _) o) hc⟩
theorem KpBut.setCell {n₀ m : Nat} {A B : World} (h : KpBut n₀ m A B) {p : Addr} (h1 : n₀ ≤ p.block) (h2 : p.block < m) (v : Value) : KpBut n₀ m A (B.setCell p v) :=
  h.trans ⟨by simp [World.setCell], fun b o u hb hc => by
    rw [World.cell?_of_block (w := B) (a := ⟨b, o, none⟩) (Below.heap_setCell B p v b (by omega))]; exact hc⟩
theorem KpBut.drew {n₀ m : Nat} {A B : World} (h : KpBut n₀ m A B) : KpBut n₀ m A B.drew := ⟨h.size, fun b o v hb hc => by simpa using h.cell b o v hb hc⟩
theorem KpBut.below {n₀ m : Nat} {A B C : World} (h : KpBut n₀ m A B) (k : Below B.heap.size B C) : KpBut n₀ m A C := h.trans ⟨k.size, fun _ _ _ _ hc => cell_stays k hc⟩
theorem kpBut_b {n₀ m : Nat} (W : World) (l : Nat) (o o' : Obj) (_ : m ≤ l) (h : W.heap[l]? = some o) (hc : o.isCells = false) (_ : o.isWalk = false) : KpBut n₀ m W (W.putObj l o') :=
  ⟨by simp, fun b off v _ hv => by
    have hne : b ≠ l := fun e => by
      subst e
      simp only [World.cell?, h] at hv
      cases o <;> simp_all [Obj.isCells]
    rw [World.cell?_of_block (w := W) (a := ⟨b, off, none⟩) (World.putObj_heap_other hne)]; exact hv⟩

/-- what the iterator hands on: how deep, and a value. -/
structure Nd where
  d : Int
  k : Int
  n : Int
  a : Option Addr
  len : Nat
  cap : Nat
def Nd.v (x : Nd) : Value := .agg #[.int .u8 x.k, .int .i64 x.n, .slice x.a x.len x.cap]
def Nd.encs (x : Nd) : Array Value := #[.int .i64 x.d, .agg #[.int .u8 x.k, .int .i64 x.n, .slice x.a x.len x.cap]]
def Nd.sh (x : Nd) : Int × Int × Int × Nat := (x.d, x.k, x.n, x.len)
mutual
def VT.flat (d : Int) : VT → List (Int × Int × Int × Nat)
  | .mk k n its => (d, k, n, its.length) :: VT.flats (d + 1) its
def VT.flats (d : Int) : List VT → List (Int × Int × Int × Nat)
  | [] => []
  | t :: ts => t.flat d ++ VT.flats d ts
end
mutual
theorem VT.flat_length (d : Int) : ∀ t : VT, (t.flat d).length = t.size
  | .mk k n its => by rw [VT.flat, VT.size, List.length_cons, VT.flats_length (d + 1) its]; omega
theorem VT.flats_length (d : Int) : ∀ l : List VT, (VT.flats d l).length = VT.sizes l
  | [] => by rw [VT.flats, VT.sizes]; rfl
  | t :: ts => by rw [VT.flats, VT.sizes, List.length_append, VT.flat_length d t, VT.flats_length d ts]
end
theorem VT.sizes_split {l : List VT} {i : Nat} (h : i < l.length) : VT.sizes (l.drop i) = l[i].size + VT.sizes (l.drop (i + 1)) := by rw [drop_cons h, VT.sizes]

/-- all cells of the first world are there. -/
def Holds (A B : World) : Prop := ∀ b o v, A.cell? ⟨b, o, none⟩ = some v → B.cell? ⟨b, o, none⟩ = some v
theorem Holds.kp {W0 A B : World} {m : Nat} (h : Holds W0 A) (k : KpBut W0.heap.size m A B) : Holds W0 B := fun b o v hc => k.cell b o v (.inl (lt_of_cell hc)) (h b o v hc)

set_option maxRecDepth 100000 in
set_option maxHeartbeats 2000000 in
/-- the closure 'visit': by induction on the tree. -/
theorem visit_in (F : Fence) (hd : F.depth = none) (h41 : F.fn 97) (hro : F.round = none) (l m N : Nat) (W0 : World) (J Jx : List Nd → World → Prop)
    (hJ : ∀ pre W o, W0.heap.size ≤ W.heap.size → J pre W → J pre (W.alloc o))
    (hY : ∀ mm pre x W, J pre W → pre.length < N → YieldAt F mm Tryz.prog l (Nd.encs x) W fun e W' =>
      (e = .returned (.bool true) ∧ J (pre ++ [x]) W' ∧ KpBut W0.heap.size m W W') ∨ (e = .returned (.bool false) ∧ Jx (pre ++ [x]) W'))
    (bY bV : Nat) (hbY : m ≤ bY) (hbV : m ≤ bV) (hm : W0.heap.size ≤ m) (M : Nat) :
    ∀ (t : VT) (n : Nat) (d : Int) (v : Value) (pre : List Nd) (W : World), t.size ≤ M → VIn W0 t v → Holds W0 W → m ≤ W.heap.size →
      W.cell? ⟨bY, 0, none⟩ = some (.func (.yield l) #[] #[]) → W.cell? ⟨bV, 0, none⟩ = some (.func (.func 97) #[] #[.pointer (some ⟨bY, 0, none⟩), .pointer (some ⟨bV, 0, none⟩)]) →
      J pre W → pre.length + t.size ≤ N → 0 ≤ d → d + M ≤ 1000000 →
      CallsIn F n Tryz.prog 97 #[.int .i64 d, v, .pointer (some ⟨bY, 0, none⟩), .pointer (some ⟨bV, 0, none⟩)] W fun e W' =>
        (e = .returned (.bool true) ∧ (∃ xs, xs.map Nd.sh = t.flat d ∧ J (pre ++ xs) W') ∧ KpBut W0.heap.size m W W') ∨
        (e = .returned (.bool false) ∧ ∃ xs rest, xs.map Nd.sh ++ rest = t.flat d ∧ Jx (pre ++ xs) W') := by
  induction M with
  | zero => intro t n d v pre W h; have := VT.size_pos t; omega
  | succ M ih =>
    intro t n d v pre W hM hv hH hmW cY cV hj hN hd0 hdM
    obtain ⟨k, nn, its⟩ := t
    obtain ⟨a, cap, hlen, rfl, hr⟩ := hv.open
    rw [VT.size] at hM hN
    have IH := Lib.hid ih; clear ih
    have HY := Lib.hid hY; clear hY
    have HJ := Lib.hid hJ; clear hJ
    have HV := Lib.hid hv; clear hv
    have hdd : ∀ k : Nat, (F.depth.isSome = true → 1 ≤ k) := fun k h => by rw [hd] at h; cases h
    have Hdd := Lib.hid hdd; clear hdd
    have hy1 := HY.out (n - 1) pre ⟨d, k, nn, a, its.length, cap⟩ (W.alloc (.cells #[.int .u8 k, .int .i64 nn, .slice a its.length cap] 24)) (HJ.out _ _ _ (Nat.le_trans hm hmW) hj) (by omega)
    obtain ⟨fn, tmps, assign, body, hy, hR⟩ := hy1
    have HR := Lib.hid hR; clear hR
    dsimp only [Nd.encs] at hy
    have hbY2 := lt_of_cell cY
    have hbV2 := lt_of_cell cV
    refine callsIn_of_wp Tryz.func97 rfl h41 ?_ hro
    simp only [Tryz.ntmps97, List.size_toArray, List.length_cons, List.length_nil, Nat.reduceAdd, Nat.reduceSub, Array.replicate_succ, Array.replicate_zero, List.push_toArray, List.append_toArray, List.nil_append, List.cons_append]
    gi_wp2_with fail
    refine HR.out.mono ?_
    rintro e W1 (⟨rfl, hj1, hk1⟩ | ⟨rfl, hx1⟩)
    · have hk0 : KpBut W0.heap.size m W W1 := ((KpBut.refl _ _ W).alloc _).trans hk1
      have hB1 : W1.cell? ⟨W.heap.size, 2, none⟩ = some (.slice a its.length cap) := hk1.cell _ _ _ (.inr hmW) (by go_simp)
      have cY1 := hk0.cell _ _ _ (.inr hbY) cY
      have cV1 := hk0.cell _ _ _ (.inr hbV) cV
      have hf1 : (Nd.sh ⟨d, k, nn, a, its.length, cap⟩) :: VT.flats (d + 1) its = (VT.mk k nn its).flat d := by rw [VT.flat]; rfl
      have HF := Lib.hid hf1; clear hf1
      gi_wp2_with fail
      gi_loopw [17] (fun x wr => ∃ (i : Nat) (xs : List Nd), x = .int .i64 i ∧ i ≤ its.length ∧ xs.map Nd.sh ++ VT.flats (d + 1) (its.drop i) = (VT.mk k nn its).flat d ∧ J (pre ++ xs) wr ∧ KpBut W0.heap.size m W wr ∧ W.heap.size < wr.heap.size) (fun x _ => its.length - (intOf x).toNat)
      case atStart => exact ⟨0, [⟨d, k, nn, a, its.length, cap⟩], rfl, by omega, HF.out, hj1, hk0, by have := hk1.size; simp at this; omega⟩
      case round =>
        obtain ⟨i, xs, rfl, hi, hxs, hjr, hkr, hszr⟩ := hrel
        have cYr := hkr.cell _ _ _ (.inr hbY) cY
        have cVr := hkr.cell _ _ _ (.inr hbV) cV
        have hbYr := lt_of_cell cYr
        have hbVr := lt_of_cell cVr
        have hLen := congrArg List.length hxs
        rw [List.length_append, List.length_map, VT.flats_length, VT.flat_length, VT.size] at hLen
        have HX := Lib.hid hxs; clear hxs
        by_cases hlt : i < its.length
        · obtain ⟨b, o, rfl, ax, cx, d0, d1, d2, hvi⟩ := hr.got i hlt
          have d0' := hH.kp hkr _ _ _ d0
          have d1' := hH.kp hkr _ _ _ d1
          have d2' := hH.kp hkr _ _ _ d2
          have hsl := VT.sizes_get hlt
          have hsp := VT.sizes_split hlt
          have HI := Lib.hid (IH.out its[i] (n - 1) (d + 1) _ (pre ++ xs) (wr.alloc (.cells #[.int .u8 its[i].kind, .int .i64 its[i].num, .slice ax its[i].items.length cx] 24)) (by omega) hvi ((hH.kp hkr).kp ((KpBut.refl _ m _).alloc _)) (by simp; omega) (cell_stays ((Below.refl _ wr).alloc (Nat.le_refl _) _) cYr) (cell_stays ((Below.refl _ wr).alloc (Nat.le_refl _) _) cVr) (HJ.out _ _ _ (by omega) hjr) (by simp; omega) (by omega) (by omega))
          clear hLen hsp
          have HS := Lib.hid (show VT.flats (d + 1) (its.drop i) = its[i].flat (d + 1) ++ VT.flats (d + 1) (its.drop (i + 1)) by rw [drop_cons hlt, VT.flats])
          gi_wp2_with fail
          refine HI.out.mono ?_
          rintro e W2 (⟨rfl, ⟨ys, hys, hjy⟩, hky⟩ | ⟨rfl, ys, rest, hys, hxy⟩)
          · have HYS := Lib.hid hys; clear hys
            gi_wp2_with fail
            go_roundw
            case rel => exact ⟨i + 1, xs ++ ys, by go_num, by omega, by rw [List.map_append, HYS.out, List.append_assoc, ← HS.out, HX.out], by rw [← List.append_assoc]; exact hjy, (hkr.alloc _).trans hky, by have := hky.size; simp at this; omega⟩
            case measure => simp [intOf]; omega
          · have HYS := Lib.hid hys; clear hys
            gi_wp2_with fail
            go_ret
            exact .inr ⟨rfl, xs ++ ys, rest ++ VT.flats (d + 1) (its.drop (i + 1)), by rw [← HX.out, HS.out, ← HYS.out]; simp, by rw [← List.append_assoc]; exact hxy⟩
        · gi_wp2_with fail
          go_ret
          exact .inl ⟨rfl, ⟨xs, by rw [← HX.out, drop_nil hlt, VT.flats, List.append_nil], hjr⟩, hkr⟩
    · gi_wp2_with fail
      go_ret
      exact .inr ⟨rfl, [⟨d, k, nn, a, its.length, cap⟩], VT.flats (d + 1) its, by rw [VT.flat]; rfl, hx1⟩

set_option maxRecDepth 100000 in
set_option maxHeartbeats 2000000 in
/-- the function value that 'all' hands back. -/
theorem all1_in (F : Fence) (hd : F.depth = none) (h40 : F.fn 96) (h41 : F.fn 97) (hro : F.round = none) (n l m Bt : Nat) (W0 : World) (t : VT) (v : Value) (J Jx : List Nd → World → Prop)
    (hJ : ∀ pre W o, W0.heap.size ≤ W.heap.size → J pre W → J pre (W.alloc o))
    (hY : ∀ mm pre x W, J pre W → pre.length < t.size → YieldAt F mm Tryz.prog l (Nd.encs x) W fun e W' =>
      (e = .returned (.bool true) ∧ J (pre ++ [x]) W' ∧ KpBut W0.heap.size m W W') ∨ (e = .returned (.bool false) ∧ Jx (pre ++ [x]) W'))
    (hm : W0.heap.size ≤ m) (ht : t.size ≤ 100000) (W : World) (hv : VIn W0 t v) (hH : Holds W0 W) (hmW : m ≤ W.heap.size) (v0 v1 v2 : Value) (hvv : v = .agg #[v0, v1, v2])
    (c0 : W.cell? ⟨Bt, 0, none⟩ = some v0) (c1 : W.cell? ⟨Bt, 1, none⟩ = some v1) (c2 : W.cell? ⟨Bt, 2, none⟩ = some v2) (h0 : J [] W) :
    CallsIn F n Tryz.prog 96 #[.func (.yield l) #[] #[], .pointer (some ⟨Bt, 0, none⟩)] W fun e W' => (∃ v, e = .returned v) ∧
      ((∃ xs, xs.map Nd.sh = t.flat 1 ∧ J xs W') ∨ (∃ pre, (∃ rest, pre.map Nd.sh ++ rest = t.flat 1) ∧ Jx pre W')) := by
  subst hvv
  have hdd : ∀ k : Nat, (F.depth.isSome = true → 1 ≤ k) := fun k h => by rw [hd] at h; cases h
  have hbt := lt_of_cell c0
  have HI := Lib.hid (visit_in F hd h41 hro l m t.size W0 J Jx hJ hY W.heap.size (W.heap.size + 1) hmW (by omega) hm t.size t (n - 1) 1 (.agg #[v0, v1, v2]) []
    ((W.alloc (.cells #[.func (.yield l) #[] #[]] 101)).alloc (.cells #[.func (.func 97) #[] #[.pointer (some ⟨W.heap.size, 0, none⟩), .pointer (some ⟨W.heap.size + 1, 0, none⟩)]] 101)) (Nat.le_refl _) hv
    (hH.kp (((KpBut.refl _ m _).alloc _).alloc _)) (by simp; omega) (by go_simp) (by go_simp) (hJ _ _ _ (by simp; omega) (hJ _ _ _ (by omega) h0)) (by simp) (by omega) (by omega))
  clear hY hJ
  refine callsIn_of_wp Tryz.func96 rfl h40 ?_ hro
  simp only [Tryz.ntmps96, List.size_toArray, List.length_cons, List.length_nil, Nat.reduceAdd, Nat.reduceSub, Array.replicate_succ, Array.replicate_zero, List.push_toArray, List.append_toArray, List.nil_append, List.cons_append]
  gi_wp2_with fail
  refine HI.out.mono ?_
  rintro e W2 (⟨rfl, ⟨ys, hys, hjy⟩, _⟩ | ⟨rfl, ys, rest, hys, hxy⟩)
  · have HYS := Lib.hid hys; clear hys
    gi_wp2_with fail
    go_end0
    exact ⟨⟨_, rfl⟩, .inl ⟨ys, HYS.out, hjy⟩⟩
  · have HYS := Lib.hid hys; clear hys
    gi_wp2_with fail
    go_end0
    exact ⟨⟨_, rfl⟩, .inr ⟨ys, ⟨rest, HYS.out⟩, hxy⟩⟩

set_option maxHeartbeats 1000000 in
theorem all_in (F : Fence) (n : Nat) (h33 : F.fn 80) (hro : F.round = none) (v0 v1 v2 : Value) (w : World) :
    CallsIn F n Tryz.prog 80 #[.agg #[v0, v1, v2]] w fun e w' => e = .returned (.func (.func 96) #[] #[.pointer (some ⟨w.heap.size, 0, none⟩)]) ∧ w.alloc (.cells #[v0, v1, v2] 24) = w' := by
  refine callsIn_of_wp Tryz.func80 rfl h33 ?_ hro
  simp only [Tryz.ntmps80, List.size_toArray, List.length_cons, List.length_nil, Nat.reduceAdd, Nat.reduceSub, Array.replicate_succ, Array.replicate_zero, List.push_toArray, List.append_toArray, List.nil_append, List.cons_append]
  have hmf : ∀ (fn : Fn) (first cap : Array Value) (w : World), (Instr.makeFunc fn first cap).run Tryz.prog w = .ok (.func fn first cap) w := fun _ _ _ _ => rfl
  gi_wp2
  go_ret
  exact ⟨rfl, rfl⟩

/-- all(v) hands back a value that stops as a range over a function wants: w0 is the world in which v was read, w the one in which the loop begins. -/
theorem all_stops (n Bt : Nat) (W0 w : World) (t : VT) (v0 v1 v2 : Value) (hb : Below W0.heap.size W0 w) (ht : t.size ≤ 100000) (hv : VIn W0 t (.agg #[v0, v1, v2]))
    (c0 : w.cell? ⟨Bt, 0, none⟩ = some v0) (c1 : w.cell? ⟨Bt, 1, none⟩ = some v1) (c2 : w.cell? ⟨Bt, 2, none⟩ = some v2) :
    SeqStopsK Fence.wide n Tryz.prog 96 #[.pointer (some ⟨Bt, 0, none⟩)] Nd.encs (KpBut W0.heap.size w.heap.size) (fun ys => ys.map Nd.sh = t.flat 1) (fun pre => ∃ rest, pre.map Nd.sh ++ rest = t.flat 1) t.size w :=
  fun l J Jx W hW hJ _ hY h0 =>
    all1_in Fence.wide rfl trivial trivial rfl n l w.heap.size Bt W0 t (.agg #[v0, v1, v2]) J Jx (fun pre W' o _ hj => hJ pre W' _ none hj (World.grownBy_alloc W' o none) (fun r e => by cases e))
      (fun mm pre x W' hj hl => yieldAt_any rfl mm (hY pre x W' hj hl)) hb.size ht W hv (fun b o v hc => cell_stays hW (cell_stays hb hc)) hW.size v0 v1 v2 rfl (cell_stays hW c0) (cell_stays hW c1) (cell_stays hW c2) h0

theorem of_box {W : World} {B : Nat} {v : Value} {t : TypeId} (h : W.heap[B]? = some (.cells #[v] t (0, 0))) : W.cell? ⟨B, 0, none⟩ = some v ∧ W.frozen? ⟨B, 0, none⟩ = false := by
  constructor <;> simp [World.cell?, World.frozen?, h]
theorem new_cell (W : World) (v : Value) (t : TypeId) : (W.alloc (.cells #[v] t)).cell? ⟨W.heap.size, 0, none⟩ = some v ∧ (W.alloc (.cells #[v] t)).frozen? ⟨W.heap.size, 0, none⟩ = false := of_box (World.alloc_heap_new W _)
theorem cell_in {W : World} {a : Addr} {v : Value} (o : Obj) (h : W.cell? a = some v) : (W.alloc o).cell? a = some v := cell_kept h (World.grownBy_alloc W o none) (fun r e => by cases e)
theorem frozen_in {W : World} {a : Addr} {v : Value} (o : Obj) (h : W.cell? a = some v) (hf : W.frozen? a = false) : (W.alloc o).frozen? a = false := (frozen_kept h (World.grownBy_alloc W o none) (fun r e => by cases e)).trans hf
end Go.Proofs.YtapofbdkofelkaaGreat
/- val.Size. -/
namespace Go.Proofs.YtapofbdkofelkaaGreat
open Go.RowKit Go.Shelf
attribute [local go_sem] Oper.semAt_some

set_option maxRecDepth 100000 in
set_option maxHeartbeats 2000000 in
theorem size_any (t : VT) (v : Value) (w : World) (ht : t.size ≤ 100000) (hv : VIn w t v) : Calls Tryz.prog 51 #[v] w fun e w' => e = .returned (.int .i64 t.size) ∧ Below w.heap.size w w' := by
  refine (callsIn_wide (n := 9)).1 ?_
  obtain ⟨k, n, its⟩ := t
  obtain ⟨a, cap, hlen, rfl, hr⟩ := hv.open
  have HT := Lib.hid ht; clear ht
  refine callsIn_of_wp_marks Tryz.func51 rfl trivial ?_ rfl
  simp only [Tryz.ntmps51, List.size_toArray, List.length_cons, List.length_nil, Nat.reduceAdd, Nat.reduceSub, Array.replicate_succ, Array.replicate_zero, List.push_toArray, List.append_toArray, List.nil_append, List.cons_append]
  gi_wp2_with fail
  refine ⟨trivial, ?_⟩
  refine (all_in Fence.wide _ trivial rfl _ _ _ _).mono ?_
  rintro e w' ⟨rfl, rfl⟩
  gi_wp2_with fail
  obtain ⟨w3, hw3⟩ : ∃ w3, ((w.alloc (.cells #[.int .u8 k, .int .i64 n, .slice a its.length cap] 24)).alloc (.cells #[.int .i64 0] 3)).alloc (.cells #[.int .u8 k, .int .i64 n, .slice a its.length cap] 24) = w3 := ⟨_, rfl⟩
  have hB0 : Below w.heap.size w w3 := by subst hw3; exact (((Below.refl _ w).alloc (Nat.le_refl _) _).alloc (by simp) _).alloc (by simp; omega) _
  have hsz : w3.heap.size = w.heap.size + 3 := by subst hw3; simp
  have hn : w3.cell? ⟨w.heap.size + 1, 0, none⟩ = some (.int .i64 0) ∧ w3.frozen? ⟨w.heap.size + 1, 0, none⟩ = false := by subst hw3; constructor <;> go_simp
  have hc : w3.cell? ⟨w.heap.size + 1 + 1, 0, none⟩ = some (.int .u8 k) ∧ w3.cell? ⟨w.heap.size + 1 + 1, 1, none⟩ = some (.int .i64 n) ∧ w3.cell? ⟨w.heap.size + 1 + 1, 2, none⟩ = some (.slice a its.length cap) := by subst hw3; refine ⟨?_, ?_, ?_⟩ <;> go_simp
  rw [hw3]; clear hw3
  refine wpIn_rangeFunc_ownF rfl (by omega) (gf := 96) (lb := #[.pointer (some ⟨w.heap.size + 1 + 1, 0, none⟩)]) rfl trivial (enters_of Tryz.func96 (by kernel_rfl) rfl)
    (all_stops (9 - 1) (w.heap.size + 1 + 1) w w3 (.mk k n its) _ _ _ hB0 HT.out hv hc.1 hc.2.1 hc.2.2) KpBut.trans (kpBut_b) (Below.refl _ _) (fun _ => rfl)
    (fun pre W => (W.cell? ⟨w.heap.size + 1, 0, none⟩ = some (.int .i64 pre.length) ∧ W.frozen? ⟨w.heap.size + 1, 0, none⟩ = false) ∧ Below w.heap.size w W)
    (fun _ _ _ => False)
    (OwnFrom.and (Own.from (fun s A B row hs hg hr => ⟨cell_kept hs.1 hg hr, (frozen_kept hs.1 hg hr).trans hs.2⟩) _) (ownFrom_below (by omega) (by omega)))
    (fun _ _ _ _ _ hs _ _ => hs)
    ⟨⟨hn.1, hn.2⟩, hB0⟩
    (fun x => { tmps := #[.agg #[.int .u8 k, .int .i64 n, .slice a its.length cap], .pointer (some ⟨w.heap.size, 0, none⟩), .int .i64 0, .pointer (some ⟨w.heap.size + 1, 0, none⟩), .agg #[.int .u8 k, .int .i64 n, .slice a its.length cap], .func (.func 96) #[] #[.pointer (some ⟨w.heap.size + 1 + 1, 0, none⟩)], .int .i64 x.d, .agg #[.int .u8 x.k, .int .i64 x.n, .slice x.a x.len x.cap], undef, undef, undef], defers := [] }) ?assign ?body ?done ?stop
  case assign =>
    intro l x W K hK
    dsimp only [Nd.encs]
    gi_wp2
    simpa using hK
  case body =>
    rintro l pre x W ⟨⟨hc, hf⟩, hB⟩ hlen
    have HT2 := HT.out
    gi_wp2
    exact ⟨KeepsOthers.setCell _ _ _, (KpBut.refl _ _ W).setCell (p := ⟨w.heap.size + 1, 0, none⟩) (by simp) (by simp; omega) _, ⟨by rw [List.length_append]; exact World.cell?_setCell_same' _ _ _ (by rw [hc]; rfl), by rw [World.frozen?_setCell]; exact hf⟩, hB.setCell (p := ⟨w.heap.size + 1, 0, none⟩) (by simp) _⟩
  case done =>
    rintro D ys W hD hys ⟨⟨hc, _⟩, hB⟩ hK
    have hl : ys.length = (VT.mk k n its).size := by rw [← VT.flat_length 1, ← hys, List.length_map]
    have HL := Lib.hid hl; clear hl hys
    gi_wp2
    refine ⟨by simp, .inl ⟨_, _, rfl, run_takeDeferred hK, ?_⟩⟩
    refine ⟨_, results_tmp rfl _ _ _, ?_, ?_⟩
    · exact ret_int (by rw [HL.out])
    · exact hB.trans (belowK_b (w := w) (Nat.le_refl _) W D _ _ (by omega) hK rfl rfl)
  case stop =>
    rintro D c pre W _ _ h _
    exact h.elim

def maxd (l : List Nd) : Int := l.foldl (fun m x => max m x.d) 0
theorem maxd_snoc (l : List Nd) (x : Nd) : maxd (l ++ [x]) = max (maxd l) x.d := by simp [maxd]
theorem maxd_eq (l : List Nd) : maxd l = (l.map Nd.sh).foldl (fun m x => max m x.1) 0 := by rw [List.foldl_map]; rfl
mutual
theorem VT.flat_max_from (d m : Int) : ∀ t : VT, (t.flat d).foldl (fun m x => max m x.1) m = max m (d + t.deep - 1)
  | .mk k n its => by
    rw [VT.flat, List.foldl_cons, VT.flats_max_from (d + 1) _ its, VT.deep]
    split <;> simp <;> omega
theorem VT.flats_max_from (d m : Int) : ∀ l : List VT, (VT.flats d l).foldl (fun m x => max m x.1) m = if VT.deeps l = 0 then m else max m (d + VT.deeps l - 1)
  | [] => by simp [VT.flats, VT.deeps]
  | t :: ts => by
    have := VT.deep_le t
    rw [VT.flats, List.foldl_append, VT.flat_max_from d m t, VT.flats_max_from d _ ts, VT.deeps]
    split <;> rw [if_neg (by omega)] <;> omega
end
theorem VT.flat_max (t : VT) : (t.flat 1).foldl (fun m x => max m x.1) 0 = (t.deep : Int) := by rw [VT.flat_max_from]; omega
end Go.Proofs.YtapofbdkofelkaaGreat
/- val.wrong. -/
namespace Go.Proofs.YtapofbdkofelkaaGreat
open Go.RowKit

set_option maxRecDepth 100000 in
set_option maxHeartbeats 2000000 in
theorem wrong_any (k n : Int) (a : Option Addr) (len cap : Nat) (w : World) :
    Calls Tryz.prog 90 #[.agg #[.int .u8 k, .int .i64 n, .slice a len cap]] w fun e w' => e = .returned (.int .i64 (VT.wrong k n len)) ∧ Below w.heap.size w w' := by
  have hk : k = 1 ∨ k = 2 ∨ k = 3 ∨ k = 4 ∨ (k ≠ 1 ∧ k ≠ 2 ∧ k ≠ 3 ∧ k ≠ 4) := by omega
  rcases hk with rfl | rfl | rfl | rfl | ⟨h1, h2, h3, h4⟩
  all_goals
    go_enter Tryz.func90, Tryz.ntmps90
    go_wp2_with (go_at_call 100; refine (leaf_any _ _).mono ?_; rintro e w' ⟨rfl, rfl⟩)
    all_goals
      go_ret
      refine ⟨ret_int ?_, (Below.refl _ _).alloc (Nat.le_refl _) _⟩
      try simp only [bne_iff_ne, ne_eq, bne_eq_false_iff_eq, beq_eq_false_iff_ne] at *
      simp only [VT.wrong]
      simp (config := { failIfUnchanged := false }) only [*, if_true, if_false, true_and, false_and, or_false, true_or, Int.reduceEq, not_false_eq_true, not_true_eq_false, or_true, ne_eq]
      first | done | ((repeat' split) <;> omega)
end Go.Proofs.YtapofbdkofelkaaGreat
