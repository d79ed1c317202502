/- The law's weigh, Long. -/
import Derived.Test.YtclmnpfdnhfbmaaVWalkA
namespace Go.Proofs.Ytclmnpfdnhfbmaa
open Go.RowKit

set_option maxHeartbeats 1000000 in
theorem weigh_any (N : Nat) : ∀ (t : VT) (v : Value) (m : Int) (w : World), m ≤ N → VIn w t v → 1 ≤ m → m ≤ 6000 →
    Calls Try.prog 48 #[v, .int .i64 m] w fun e w' => e = .returned (.int .i64 (t.weigh m)) ∧ Below w.heap.size w w' := by
  induction N with
  | zero => intro t v m w h1 _ h2; omega
  | succ N ih =>
    intro t v m w hN hv h1 h2
    obtain ⟨k, n, its⟩ := t
    obtain ⟨a, cap, hlen, rfl, hr⟩ := hv.open
    have IH := Lib.hid ih; clear ih hv
    go_enter Try.func48, Try.ntmps48
    go_wp2_with fail
    go_loopw [5, 6] (fun x i wr => ∃ (p : Int) (k : Nat), x = .int .i64 p ∧ i = .int .i64 k ∧ k ≤ its.length ∧ 1 ≤ p ∧ p ≤ m ∧ VT.weighAll m 1 its = VT.weighAll m p (its.drop k) ∧ Below w.heap.size w wr ∧ wr.cell? ⟨w.heap.size, 2, none⟩ = some (.slice a its.length cap) ∧ w.heap.size < wr.heap.size) (fun _ i _ => its.length - (intOf i).toNat)
    case atStart => exact ⟨1, 0, rfl, rfl, by omega, by omega, by omega, by simp, (Below.refl _ _).alloc (Nat.le_refl _) _, by go_simp, by simp⟩
    case round =>
      obtain ⟨p, i, rfl, rfl, hi, hp1, hpm, hw, hb, hc, hsz⟩ := hrel
      have HW := Lib.hid hw; clear hw
      by_cases hlt : i < its.length
      · by_cases hlm : p < m
        · have hr' := hr.below hb
          obtain ⟨b, o, rfl, ax, cx, c0, c1, c2, hvi⟩ := hr'.got i hlt
          have hwb := VT.weigh_bd (m - p) (by omega) its[i]
          go_wp2_with (go_at_call 48; refine (IH.out its[i] _ (m - p) _ (by omega) hvi (by omega) (by omega)).mono ?_; rintro e w1 ⟨rfl, hb1⟩; have hc1 := (hb1.cell (p := ⟨w.heap.size, 2, none⟩) hsz).trans hc)
          go_roundw
          case rel => exact ⟨p + VT.weigh (m - p) its[i], i + 1, rfl, by go_num, by omega, by omega, by omega, by rw [HW.out, drop_cons hlt, VT.weighAll, if_pos hlm], hb.trans (hb1.mono (by omega)), hc1, by have := hb1.size; omega⟩
          case measure => simp [intOf]; omega
        · go_wp2_with fail
          go_ret
          exact ⟨ret_int (by rw [VT.weigh, HW.out, drop_cons hlt, VT.weighAll, if_neg (by omega)]), hb⟩
      · go_wp2_with fail
        go_ret
        exact ⟨ret_int (by rw [VT.weigh, HW.out, List.drop_of_length_le (by omega), VT.weighAll]), hb⟩

set_option maxHeartbeats 2000000 in
theorem long_any (l : List VT) (a : Option Addr) (cap : Nat) (w : World) (hlen : l.length ≤ 3518437208780) (hr : VRow w l a) :
    Calls Try.prog 13 #[.slice a l.length cap] w fun e w' => e = .returned (.bool (VT.long l)) ∧ Below w.heap.size w w' := by
  go_enter Try.func13, Try.ntmps13
  go_wp2_with fail
  go_loopw [3, 4] (fun x i wr => ∃ (p : Int) (k : Nat), x = .int .i64 p ∧ i = .int .i64 k ∧ k ≤ l.length ∧ 0 ≤ p ∧ p ≤ 6000 ∧ VT.weighAll 6000 0 l = VT.weighAll 6000 p (l.drop k) ∧ Below w.heap.size w wr) (fun _ i _ => l.length - (intOf i).toNat)
  case atStart => exact ⟨0, 0, rfl, rfl, by omega, by omega, by omega, by simp, Below.refl _ _⟩
  case round =>
    obtain ⟨p, i, rfl, rfl, hi, hp1, hpm, hw, hb⟩ := hrel
    have HW := Lib.hid hw; clear hw
    by_cases hlt : i < l.length
    · by_cases hlm : p < 6000
      · obtain ⟨b, o, rfl, ax, cx, c0, c1, c2, hvi⟩ := (hr.below hb).got i hlt
        have hwb := VT.weigh_bd (6000 - p) (by omega) l[i]
        go_wp2_with fail
        refine (weigh_any (6000 - p).toNat l[i] _ (6000 - p) _ (by omega) hvi (by omega) (by omega)).mono ?_
        rintro e w1 ⟨rfl, hb1⟩
        go_wp2_with fail
        go_roundw
        case rel => exact ⟨p + VT.weigh (6000 - p) l[i], i + 1, rfl, by go_num, by omega, by omega, by omega, by rw [HW.out, drop_cons hlt, VT.weighAll, if_pos hlm], hb.trans (hb1.mono hb.size)⟩
        case measure => simp [intOf]; omega
      · go_wp2_with fail
        go_ret
        refine ⟨ret_bool ?_, hb⟩
        unfold VT.long
        rw [HW.out, drop_cons hlt, VT.weighAll, if_neg (by omega), Bool.eq_iff_iff]
        simp
        try omega
    · go_wp2_with fail
      go_ret
      refine ⟨ret_bool ?_, hb⟩
      unfold VT.long
      rw [HW.out, drop_nil hlt, VT.weighAll]
end Go.Proofs.Ytclmnpfdnhfbmaa
