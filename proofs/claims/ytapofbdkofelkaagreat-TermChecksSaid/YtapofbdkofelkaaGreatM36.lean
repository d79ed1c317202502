/- Texts of this claim laid into one: VWeigh, PWeigh, TWeighM. -/
import Derived.Test.YtapofbdkofelkaaGreatM01
import Derived.Test.YtapofbdkofelkaaGreatM08
import Derived.Test.YtapofbdkofelkaaGreatM07
/- The law's weigh, Long. -/
namespace Go.Proofs.YtapofbdkofelkaaGreat
open Go.RowKit

set_option maxHeartbeats 1000000 in
theorem weigh_any (N : Nat) : ∀ (t : VT) (v : Value) (m : Int) (w : World), m ≤ N → VIn w t v → 1 ≤ m → m ≤ 6000 →
    Calls Tryz.prog 78 #[v, .int .i64 m] w fun e w' => e = .returned (.int .i64 (t.weigh m)) ∧ Below w.heap.size w w' := by
  induction N with
  | zero => intro t v m w h1 _ h2; omega
  | succ N ih =>
    intro t v m w hN hv h1 h2
    obtain ⟨k, n, its⟩ := t
    obtain ⟨a, cap, hlen, rfl, hr⟩ := hv.open
    have IH := Lib.hid ih; clear ih hv
    go_enter Tryz.func78, Tryz.ntmps78
    go_wp2_with fail
    go_loopw [5, 6] (fun x i wr => ∃ (p : Int) (k : Nat), x = .int .i64 p ∧ i = .int .i64 k ∧ k ≤ its.length ∧ 1 ≤ p ∧ p ≤ m ∧ VT.weighAll m 1 its = VT.weighAll m p (its.drop k) ∧ Below w.heap.size w wr ∧ wr.cell? ⟨w.heap.size, 2, none⟩ = some (.slice a its.length cap) ∧ w.heap.size < wr.heap.size) (fun _ i _ => its.length - (intOf i).toNat)
    case atStart => exact ⟨1, 0, rfl, rfl, by omega, by omega, by omega, by simp, (Below.refl _ _).alloc (Nat.le_refl _) _, by go_simp, by simp⟩
    case round =>
      obtain ⟨p, i, rfl, rfl, hi, hp1, hpm, hw, hb, hc, hsz⟩ := hrel
      have HW := Lib.hid hw; clear hw
      by_cases hlt : i < its.length
      · by_cases hlm : p < m
        · have hr' := hr.below hb
          obtain ⟨b, o, rfl, ax, cx, c0, c1, c2, hvi⟩ := hr'.got i hlt
          have hwb := VT.weigh_bd (m - p) (by omega) its[i]
          go_wp2_with (go_at_call 78; refine (IH.out its[i] _ (m - p) _ (by omega) hvi (by omega) (by omega)).mono ?_; rintro e w1 ⟨rfl, hb1⟩; have hc1 := (hb1.cell (p := ⟨w.heap.size, 2, none⟩) hsz).trans hc)
          go_roundw
          case rel => exact ⟨p + VT.weigh (m - p) its[i], i + 1, rfl, by go_num, by omega, by omega, by omega, by rw [HW.out, drop_cons hlt, VT.weighAll, if_pos hlm], hb.trans (hb1.mono (by omega)), hc1, by have := hb1.size; omega⟩
          case measure => simp [intOf]; omega
        · go_wp2_with fail
          go_ret
          exact ⟨ret_int (by rw [VT.weigh, HW.out, drop_cons hlt, VT.weighAll, if_neg (by omega)]), hb⟩
      · go_wp2_with fail
        go_ret
        exact ⟨ret_int (by rw [VT.weigh, HW.out, List.drop_of_length_le (by omega), VT.weighAll]), hb⟩

set_option maxHeartbeats 2000000 in
theorem long_any (l : List VT) (a : Option Addr) (cap : Nat) (w : World) (hlen : l.length ≤ 3518437208780) (hr : VRow w l a) :
    Calls Tryz.prog 48 #[.slice a l.length cap] w fun e w' => e = .returned (.bool (VT.long l)) ∧ Below w.heap.size w w' := by
  go_enter Tryz.func48, Tryz.ntmps48
  go_wp2_with fail
  go_loopw [3, 4] (fun x i wr => ∃ (p : Int) (k : Nat), x = .int .i64 p ∧ i = .int .i64 k ∧ k ≤ l.length ∧ 0 ≤ p ∧ p ≤ 6000 ∧ VT.weighAll 6000 0 l = VT.weighAll 6000 p (l.drop k) ∧ Below w.heap.size w wr) (fun _ i _ => l.length - (intOf i).toNat)
  case atStart => exact ⟨0, 0, rfl, rfl, by omega, by omega, by omega, by simp, Below.refl _ _⟩
  case round =>
    obtain ⟨p, i, rfl, rfl, hi, hp1, hpm, hw, hb⟩ := hrel
    have HW := Lib.hid hw; clear hw
    by_cases hlt : i < l.length
    · by_cases hlm : p < 6000
      · obtain ⟨b, o, rfl, ax, cx, c0, c1, c2, hvi⟩ := (hr.below hb).got i hlt
        have hwb := VT.weigh_bd (6000 - p) (by omega) l[i]
        go_wp2_with fail
        refine (weigh_any (6000 - p).toNat l[i] _ (6000 - p) _ (by omega) hvi (by omega) (by omega)).mono ?_
        rintro e w1 ⟨rfl, hb1⟩
        go_wp2_with fail
        go_roundw
        case rel => exact ⟨p + VT.weigh (6000 - p) l[i], i + 1, rfl, by go_num, by omega, by omega, by omega, by rw [HW.out, drop_cons hlt, VT.weighAll, if_pos hlm], hb.trans (hb1.mono hb.size)⟩
        case measure => simp [intOf]; omega
      · go_wp2_with fail
        go_ret
        refine ⟨ret_bool ?_, hb⟩
        unfold VT.long
        rw [HW.out, drop_cons hlt, VT.weighAll, if_neg (by omega), Bool.eq_iff_iff]
        simp
        try omega
    · go_wp2_with fail
      go_ret
      refine ⟨ret_bool ?_, hb⟩
      unfold VT.long
      rw [HW.out, drop_nil hlt, VT.weighAll]
end Go.Proofs.YtapofbdkofelkaaGreat
/- The law's weigh, Long, of predicates. -/
namespace Go.Proofs.YtapofbdkofelkaaGreat
open Go.RowKit

mutual
def PT.weigh (m : Int) : PT → Int
  | .mk _ v _ l => if VT.long [v] = true then m else PT.weighAll m (if 0 < v.items.length then 61 else 1) l
def PT.weighAll (m : Int) (n : Int) : List PT → Int
  | [] => n
  | t :: ts => if n < m then PT.weighAll m (n + t.weigh (m - n)) ts else n
end
mutual
theorem PT.weigh_bd (m : Int) (h : 1 ≤ m) : ∀ t : PT, 1 ≤ t.weigh m ∧ t.weigh m ≤ m + 60
  | .mk k v n l => by
    rw [PT.weigh]
    split
    · omega
    · split
      · have := PT.weighAll_bd m 61 (by omega) (by omega) l; omega
      · have := PT.weighAll_bd m 1 (by omega) (by omega) l; omega
theorem PT.weighAll_bd (m n : Int) (h : 0 ≤ n) (hm : n ≤ m + 60) : ∀ l : List PT, n ≤ PT.weighAll m n l ∧ PT.weighAll m n l ≤ m + 60
  | [] => by rw [PT.weighAll]; omega
  | t :: ts => by
    rw [PT.weighAll]
    split
    · rename_i hlt
      have h1 := PT.weigh_bd (m - n) (by omega) t
      have h2 := PT.weighAll_bd m (n + t.weigh (m - n)) (by omega) (by omega) ts
      omega
    · omega
end
/-- Long: is there more than a statement goes over? -/
def PT.long (l : List PT) : Bool := decide (3000 ≤ PT.weighAll 3000 0 l)
theorem VT.long_one {v : VT} (h : VT.long [v] = false) : v.size < 6000 := by
  have := VT.not_long h
  simp only [VT.sizes] at this
  omega
mutual
theorem PT.weigh_le (m : Int) (_hm : 1 ≤ m) : ∀ t : PT, t.weigh m < m → (t.cnt : Int) ≤ t.weigh m ∧ t.fat < 6000
  | .mk k v n l, h => by
    rw [PT.weigh] at h ⊢; rw [PT.cnt, PT.fat]
    split at h
    · omega
    · rename_i hl
      rw [if_neg hl]
      have hv := VT.long_one (by simpa using hl)
      split at h
      · rename_i h0
        rw [if_pos h0]
        have := PT.weighAll_le m 61 (by omega) l h
        omega
      · rename_i h0
        rw [if_neg h0]
        have := PT.weighAll_le m 1 (by omega) l h
        omega
theorem PT.weighAll_le (m n : Int) (h0 : 0 ≤ n) : ∀ l : List PT, PT.weighAll m n l < m → n + (PT.cnts l : Int) ≤ PT.weighAll m n l ∧ PT.fats l < 6000
  | [], _ => by rw [PT.weighAll, PT.cnts, PT.fats]; omega
  | t :: ts, h => by
    rw [PT.weighAll] at h ⊢; rw [PT.cnts, PT.fats]
    by_cases hlt : n < m
    · rw [if_pos hlt] at h ⊢
      have h1 := PT.weigh_bd (m - n) (by omega) t
      have h2 := PT.weighAll_bd m (n + t.weigh (m - n)) (by omega) (by omega) ts
      have h3 := PT.weigh_le (m - n) (by omega) t (by omega)
      have h4 := PT.weighAll_le m (n + t.weigh (m - n)) (by omega) ts h
      omega
    · rw [if_neg hlt] at h; omega
end
theorem PT.not_long {l : List PT} (h : PT.long l = false) : PT.cnts l < 3000 ∧ PT.fats l < 6000 := by
  have h1 : PT.weighAll 3000 0 l < 3000 := by simpa [PT.long] using h
  have := PT.weighAll_le 3000 0 (by omega) l h1
  omega


set_option maxRecDepth 100000 in
set_option maxHeartbeats 4000000 in
theorem pweigh_any (N : Nat) : ∀ (t : PT) (x : Value) (m : Int) (w : World), m ≤ N → PIn w t x → 1 ≤ m → m ≤ 3000 →
    Calls Tryz.prog 79 #[x, .int .i64 m] w fun e w' => e = .returned (.int .i64 (t.weigh m)) ∧ Below w.heap.size w w' := by
  induction N with
  | zero => intro t x m w h1 _ h2; omega
  | succ N ih =>
    intro t x m w hN hx h1 h2
    obtain ⟨k, v, n, l⟩ := t
    obtain ⟨va, vc, a, cap, hlen, hvl, rfl, hv, hr⟩ := hx.open
    have IH := Lib.hid ih; clear ih
    obtain ⟨w0, hw0, m0, s0, q0, q1, q2, q3, q4, q5⟩ := box6 w (.int .u8 k) (.int .u8 v.kind) (.int .i64 v.num) (.slice va v.items.length vc) (.int .i64 n) (.slice a l.length cap) 28
    obtain ⟨w1, hw1, m1, s1, p0, p1, p2, _⟩ := box3 w0 (.int .u8 v.kind) (.int .i64 v.num) (.slice va v.items.length vc) 24
    have hB1 : Below w.heap.size w w1 := m0.trans (m1.mono m0.size)
    have hrow : VRow w1 [v] (some ⟨w0.heap.size, 0, none⟩) := vrow_cons p0 p1 p2 (hv.below hB1) vrow_nil
    have hr := hr.below hB1
    clear hx hv
    have q2 := cell_stays m1 q2
    have q3 := cell_stays m1 q3
    have q5 := cell_stays m1 q5
    rw [PT.weigh]
    obtain ⟨b, hb⟩ : ∃ b, b = VT.long [v] := ⟨_, rfl⟩
    rw [← hb]
    obtain ⟨r, hr0⟩ : ∃ r, r = (if b = true then m else PT.weighAll m (if 0 < v.items.length then 61 else 1) l) := ⟨_, rfl⟩
    rw [← hr0]
    have HB := Lib.hid hb; have HRES := Lib.hid hr0; clear hb hr0
    go_enter Tryz.func79, Tryz.ntmps79
    go_wp2_with fail
    refine (long_any [v] _ 1 _ (by simp) hrow).mono ?_
    rintro e w2 ⟨rfl, hb2⟩
    rw [← HB.out]
    have q2 := cell_stays hb2 q2
    have q3 := cell_stays hb2 q3
    have q5 := cell_stays hb2 q5
    have hB2 := hB1.trans (hb2.mono hB1.size)
    have hr := hr.below hb2
    clear p0 p1 p2 hrow hB1 hb2
    cases b
    · by_cases h0 : 0 < v.items.length
      · have HR2 := Lib.hid (show r = PT.weighAll m 61 l by rw [HRES.out, if_neg (by simp), if_pos h0])
        go_wp2_with fail
        go_loopw [5, 6] (fun x y wr => ∃ (p : Int) (i : Nat), x = .int .i64 p ∧ y = .int .i64 i ∧ i ≤ l.length ∧ 1 ≤ p ∧ p ≤ 3060 ∧ PT.weighAll m 61 l = PT.weighAll m p (l.drop i) ∧ Below w2.heap.size w2 wr) (fun _ y _ => l.length - (intOf y).toNat)
        case atStart => exact ⟨61, 0, rfl, rfl, by omega, by omega, by omega, by simp, Below.refl _ _⟩
        case round =>
          obtain ⟨p, i, rfl, rfl, hi, hp1, hpm, hw, hB⟩ := hrel
          have HW := Lib.hid hw; clear hw
          have f5 := cell_stays hB q5
          by_cases hlt : i < l.length
          · by_cases hlm : p < m
            · obtain ⟨b, o, rfl, ax, ac, a', cap', d0, d1, d2, d3, d4, d5, hx⟩ := (hr.below hB).got i hlt
              have hwb := PT.weigh_bd (m - p) (by omega) l[i]
              go_wp2_with fail
              refine (IH.out l[i] _ (m - p) _ (by omega) hx (by omega) (by omega)).mono ?_
              rintro e w3 ⟨rfl, hb3⟩
              have hB3 := hB.trans (hb3.mono hB.size)
              clear hB hb3 hx d0 d1 d2 d3 d4 d5 f5
              go_wp2_with fail
              go_roundw
              case rel => exact ⟨p + PT.weigh (m - p) l[i], i + 1, rfl, by go_num, by omega, by omega, by omega, by rw [HW.out, drop_cons hlt, PT.weighAll, if_pos hlm], hB3⟩
              case measure => simp [intOf]; omega
            · go_wp2_with fail
              go_ret
              exact ⟨ret_int (by rw [HR2.out, HW.out, drop_cons hlt, PT.weighAll, if_neg (by omega)]), hB2.trans (hB.mono hB2.size)⟩
          · go_wp2_with fail
            go_ret
            exact ⟨ret_int (by rw [HR2.out, HW.out, drop_nil hlt, PT.weighAll]), hB2.trans (hB.mono hB2.size)⟩
      · have HR2 := Lib.hid (show r = PT.weighAll m 1 l by rw [HRES.out, if_neg (by simp), if_neg h0])
        go_wp2_with fail
        go_loopw [5, 6] (fun x y wr => ∃ (p : Int) (i : Nat), x = .int .i64 p ∧ y = .int .i64 i ∧ i ≤ l.length ∧ 1 ≤ p ∧ p ≤ 3060 ∧ PT.weighAll m 1 l = PT.weighAll m p (l.drop i) ∧ Below w2.heap.size w2 wr) (fun _ y _ => l.length - (intOf y).toNat)
        case atStart => exact ⟨1, 0, rfl, rfl, by omega, by omega, by omega, by simp, Below.refl _ _⟩
        case round =>
          obtain ⟨p, i, rfl, rfl, hi, hp1, hpm, hw, hB⟩ := hrel
          have HW := Lib.hid hw; clear hw
          have f5 := cell_stays hB q5
          by_cases hlt : i < l.length
          · by_cases hlm : p < m
            · obtain ⟨b, o, rfl, ax, ac, a', cap', d0, d1, d2, d3, d4, d5, hx⟩ := (hr.below hB).got i hlt
              have hwb := PT.weigh_bd (m - p) (by omega) l[i]
              go_wp2_with fail
              refine (IH.out l[i] _ (m - p) _ (by omega) hx (by omega) (by omega)).mono ?_
              rintro e w3 ⟨rfl, hb3⟩
              have hB3 := hB.trans (hb3.mono hB.size)
              clear hB hb3 hx d0 d1 d2 d3 d4 d5 f5
              go_wp2_with fail
              go_roundw
              case rel => exact ⟨p + PT.weigh (m - p) l[i], i + 1, rfl, by go_num, by omega, by omega, by omega, by rw [HW.out, drop_cons hlt, PT.weighAll, if_pos hlm], hB3⟩
              case measure => simp [intOf]; omega
            · go_wp2_with fail
              go_ret
              exact ⟨ret_int (by rw [HR2.out, HW.out, drop_cons hlt, PT.weighAll, if_neg (by omega)]), hB2.trans (hB.mono hB2.size)⟩
          · go_wp2_with fail
            go_ret
            exact ⟨ret_int (by rw [HR2.out, HW.out, drop_nil hlt, PT.weighAll]), hB2.trans (hB.mono hB2.size)⟩
    · go_wp2_with fail
      go_ret
      exact ⟨ret_int (by rw [HRES.out]; simp), hB2⟩

set_option maxHeartbeats 2000000 in
theorem plong_any (l : List PT) (a : Option Addr) (cap : Nat) (w : World) (hlen : l.length ≤ 1759218604390) (hr : PRow w l a) :
    Calls Tryz.prog 49 #[.slice a l.length cap] w fun e w' => e = .returned (.bool (PT.long l)) ∧ Below w.heap.size w w' := by
  go_enter Tryz.func49, Tryz.ntmps49
  go_wp2_with fail
  go_loopw [3, 4] (fun x i wr => ∃ (p : Int) (k : Nat), x = .int .i64 p ∧ i = .int .i64 k ∧ k ≤ l.length ∧ 0 ≤ p ∧ p ≤ 3060 ∧ PT.weighAll 3000 0 l = PT.weighAll 3000 p (l.drop k) ∧ Below w.heap.size w wr) (fun _ i _ => l.length - (intOf i).toNat)
  case atStart => exact ⟨0, 0, rfl, rfl, by omega, by omega, by omega, by simp, Below.refl _ _⟩
  case round =>
    obtain ⟨p, i, rfl, rfl, hi, hp1, hpm, hw, hB⟩ := hrel
    have HW := Lib.hid hw; clear hw
    by_cases hlt : i < l.length
    · by_cases hlm : p < 3000
      · obtain ⟨b, o, rfl, ax, ac, a', cap', d0, d1, d2, d3, d4, d5, hx⟩ := (hr.below hB).got i hlt
        have hwb := PT.weigh_bd (3000 - p) (by omega) l[i]
        go_wp2_with fail
        refine (pweigh_any (3000 - p).toNat l[i] _ (3000 - p) _ (by omega) hx (by omega) (by omega)).mono ?_
        rintro e w3 ⟨rfl, hb3⟩
        have hB3 := hB.trans (hb3.mono hB.size)
        clear hB hb3 hx d0 d1 d2 d3 d4 d5
        go_wp2_with fail
        go_roundw
        case rel => exact ⟨p + PT.weigh (3000 - p) l[i], i + 1, rfl, by go_num, by omega, by omega, by omega, by rw [HW.out, drop_cons hlt, PT.weighAll, if_pos hlm], hB3⟩
        case measure => simp [intOf]; omega
      · go_wp2_with fail
        go_ret
        refine ⟨ret_bool ?_, hB⟩
        unfold PT.long
        rw [HW.out, drop_cons hlt, PT.weighAll, if_neg (by omega), Bool.eq_iff_iff]
        simp
        try omega
    · go_wp2_with fail
      go_ret
      refine ⟨ret_bool ?_, hB⟩
      unfold PT.long
      rw [HW.out, drop_nil hlt, PT.weighAll]
end Go.Proofs.YtapofbdkofelkaaGreat
/- The law's weigh, Long, on trees of terms. -/
namespace Go.Proofs.YtapofbdkofelkaaGreat
open Go.RowKit

/-- is a node so great that it is not gone over? -/
def TT.great (v : VT) (vs : List VT) (ws : List Int) (p : PT) : Bool := VT.long [v] || VT.long vs || PT.long [p] || decide (200 < ws.length) || decide (200 < vs.length)
def TT.own (v : VT) (vs : List VT) (ws : List Int) (p : PT) : Int := (if 0 < v.items.length then 41 else 1) + vs.length + ws.length + (if p.kind = 0 then 0 else 20)
mutual
def TT.weigh (m : Int) : TT → Int
  | .mk _ v vs _ _ ws p l => if TT.great v vs ws p = true then m else TT.weighAll m (TT.own v vs ws p) l
def TT.weighAll (m : Int) (n : Int) : List TT → Int
  | [] => n
  | t :: ts => if n < m then TT.weighAll m (n + t.weigh (m - n)) ts else n
end
theorem TT.own_bd {v : VT} {vs : List VT} {ws : List Int} {p : PT} (h : TT.great v vs ws p = false) : 1 ≤ TT.own v vs ws p ∧ TT.own v vs ws p ≤ 461 := by
  unfold TT.great at h
  simp only [Bool.or_eq_false_iff, decide_eq_false_iff_not] at h
  unfold TT.own
  split <;> split <;> omega
mutual
theorem TT.weigh_bd (m : Int) (h : 1 ≤ m) : ∀ t : TT, 1 ≤ t.weigh m ∧ t.weigh m ≤ m + 461
  | .mk k v vs lo hi ws p l => by
    rw [TT.weigh]
    split
    · omega
    · rename_i hg
      have h1 := TT.own_bd (by simpa using hg)
      have := TT.weighAll_bd m (TT.own v vs ws p) (by omega) (by omega) l; omega
theorem TT.weighAll_bd (m n : Int) (h : 0 ≤ n) (hm : n ≤ m + 461) : ∀ l : List TT, n ≤ TT.weighAll m n l ∧ TT.weighAll m n l ≤ m + 461
  | [] => by rw [TT.weighAll]; omega
  | t :: ts => by
    rw [TT.weighAll]
    split
    · rename_i hlt
      have h1 := TT.weigh_bd (m - n) (by omega) t
      have h2 := TT.weighAll_bd m (n + t.weigh (m - n)) (by omega) (by omega) ts
      omega
    · omega
end
/-- Long: is there more than a statement goes over? -/
def TT.long (l : List TT) : Bool := decide (1500 ≤ TT.weighAll 1500 0 l)
theorem PT.long_one {p : PT} (h : PT.long [p] = false) : p.cnt < 3000 ∧ p.fat < 6000 := by
  have := PT.not_long h
  simp only [PT.cnts, PT.fats] at this
  omega
theorem TT.not_great {v : VT} {vs : List VT} {ws : List Int} {p : PT} (h : TT.great v vs ws p = false) : v.size < 6000 ∧ VT.sizes vs < 6000 ∧ ws.length ≤ 200 ∧ vs.length ≤ 200 ∧ p.cnt < 3000 ∧ p.fat < 6000 := by
  unfold TT.great at h
  simp only [Bool.or_eq_false_iff, decide_eq_false_iff_not] at h
  have h1 := VT.long_one h.1.1.1.1
  have h2 := VT.not_long h.1.1.1.2
  have h3 := PT.long_one h.1.1.2
  omega
mutual
theorem TT.weigh_le (m : Int) (_hm : 1 ≤ m) : ∀ t : TT, t.weigh m < m → (t.cnt : Int) ≤ t.weigh m ∧ t.lean = true
  | .mk k v vs lo hi ws p l, h => by
    rw [TT.weigh] at h ⊢; rw [TT.cnt, TT.lean]
    split at h
    · omega
    · rename_i hg
      rw [if_neg hg]
      have hg' : TT.great v vs ws p = false := by simpa using hg
      have h1 := TT.own_bd hg'
      have h2 := TT.not_great hg'
      have h3 := TT.weighAll_le m (TT.own v vs ws p) (by omega) l h
      refine ⟨by omega, ?_⟩
      simp only [Bool.and_eq_true, decide_eq_true_eq]
      exact ⟨⟨⟨⟨⟨by omega, by omega⟩, by omega⟩, by omega⟩, by omega⟩, h3.2⟩
theorem TT.weighAll_le (m n : Int) (h0 : 0 ≤ n) : ∀ l : List TT, TT.weighAll m n l < m → n + (TT.cnts l : Int) ≤ TT.weighAll m n l ∧ TT.leans l = true
  | [], _ => by rw [TT.weighAll, TT.cnts, TT.leans]; exact ⟨by omega, rfl⟩
  | t :: ts, h => by
    rw [TT.weighAll] at h ⊢; rw [TT.cnts, TT.leans]
    by_cases hlt : n < m
    · rw [if_pos hlt] at h ⊢
      have h1 := TT.weigh_bd (m - n) (by omega) t
      have h2 := TT.weighAll_bd m (n + t.weigh (m - n)) (by omega) (by omega) ts
      have h3 := TT.weigh_le (m - n) (by omega) t (by omega)
      have h4 := TT.weighAll_le m (n + t.weigh (m - n)) (by omega) ts h
      exact ⟨by omega, by rw [h3.2, h4.2]; rfl⟩
    · rw [if_neg hlt] at h; omega
end
theorem TT.not_long {l : List TT} (h : TT.long l = false) : TT.cnts l < 1500 ∧ TT.leans l = true := by
  have h1 : TT.weighAll 1500 0 l < 1500 := by simpa [TT.long] using h
  have := TT.weighAll_le 1500 0 (by omega) l h1
  exact ⟨by omega, this.2⟩
end Go.Proofs.YtapofbdkofelkaaGreat
