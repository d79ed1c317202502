/- The law's all: may all of these be, as predicates that stand deep within another one? -/
import Derived.Test.YtclmnpfdnhfbmaaPWalkF
namespace Go.Proofs.Ytclmnpfdnhfbmaa
open Go.RowKit

def PT.allT (t : PT) : Bool := t.may && decide (t.deep ≤ 9) && decide (t.nodes ≤ 100)
theorem PT.allT_iff (t : PT) : t.allT = true ↔ t.may = true ∧ t.deep ≤ 9 ∧ t.nodes ≤ 100 := by unfold PT.allT; simp [and_assoc]
set_option maxRecDepth 100000 in
set_option maxHeartbeats 4000000 in
theorem all_any (l : List PT) (a : Option Addr) (cap : Nat) (w : World) (hl : l.length ≤ 1759218604390) (hr : PRow w l a) (hs : PT.cnts l ≤ 1000000) (hf : PT.fats l ≤ 100000) :
    Calls Try.prog 35 #[.slice a l.length cap] w fun e w' => e = .returned (.bool (l.all PT.allT)) ∧ Below w.heap.size w w' := by
  have hcs : ∀ i (h : i < l.length), l[i].cnt ≤ 1000000 := fun i h => by have := PT.cnts_get h; omega
  have hfs : ∀ i (h : i < l.length), l[i].fat ≤ 100000 := fun i h => by have := PT.fats_get h; omega
  have HCS := Lib.hid hcs; have HFS := Lib.hid hfs; clear hcs hfs hs hf
  go_enter Try.func35, Try.ntmps35
  go_wp2_with fail
  go_loopw [3] (fun x wr => ∃ i : Nat, x = .int .i64 i ∧ i ≤ l.length ∧ l.all PT.allT = (l.drop i).all PT.allT ∧ Below w.heap.size w wr) (fun x _ => l.length - (intOf x).toNat)
  case atStart => exact ⟨0, rfl, by omega, by simp, Below.refl _ _⟩
  case round =>
    obtain ⟨i, rfl, hi, he, hB⟩ := hrel
    have HE := Lib.hid he; clear he
    by_cases hlt : i < l.length
    · obtain ⟨b, o, rfl, ax, ac, a', cap', d0, d1, d2, d3, d4, d5, hx⟩ := (hr.below hB).got i hlt
      have hd : (l.drop i).all PT.allT = (l[i].allT && (l.drop (i + 1)).all PT.allT) := by rw [drop_cons hlt]; rfl
      have HD := Lib.hid hd; clear hd
      obtain ⟨z, hz⟩ : ∃ z, z = l[i].may := ⟨_, rfl⟩
      obtain ⟨dd, hdd⟩ : ∃ dd : Nat, dd = l[i].deep := ⟨_, rfl⟩
      obtain ⟨nn, hnn⟩ : ∃ nn : Nat, nn = l[i].nodes := ⟨_, rfl⟩
      have HZ := Lib.hid hz; have HDD := Lib.hid hdd; have HNN := Lib.hid hnn; clear hz hdd hnn
      go_wp2_with fail
      refine (pmay_any _ _ _ (HCS.out i hlt) (HFS.out i hlt) hx).mono ?_
      rintro e wn ⟨rfl, hbn⟩
      rw [← HZ.out]
      have d0 := cell_stays hbn d0
      have d1 := cell_stays hbn d1
      have d2 := cell_stays hbn d2
      have d3 := cell_stays hbn d3
      have d4 := cell_stays hbn d4
      have d5 := cell_stays hbn d5
      have hx := hx.below hbn
      have hB := hB.trans (hbn.mono hB.size)
      clear hbn
      cases z
      · go_wp2_with fail
        go_ret
        exact ⟨ret_bool (by rw [HE.out, HD.out]; unfold PT.allT; rw [← HZ.out]; rfl), hB⟩
      · go_wp2_with fail
        refine (deep_any 1000000 (by omega) _ _ _ (HCS.out i hlt) hx).mono ?_
        rintro e wn ⟨rfl, hbn⟩
        rw [← HDD.out]
        have d0 := cell_stays hbn d0
        have d1 := cell_stays hbn d1
        have d2 := cell_stays hbn d2
        have d3 := cell_stays hbn d3
        have d4 := cell_stays hbn d4
        have d5 := cell_stays hbn d5
        have hx := hx.below hbn
        have hB := hB.trans (hbn.mono hB.size)
        clear hbn
        by_cases h9 : 9 < dd
        · go_wp2_with fail
          go_ret
          exact ⟨ret_bool (by rw [HE.out, HD.out]; unfold PT.allT; rw [← HDD.out, decide_eq_false (by omega)]; simp), hB⟩
        · go_wp2_with fail
          refine (nodes_any 1000000 (by omega) _ _ _ (HCS.out i hlt) (HFS.out i hlt) hx).mono ?_
          rintro e wn ⟨rfl, hbn⟩
          rw [← HNN.out]
          have d0 := cell_stays hbn d0
          have d1 := cell_stays hbn d1
          have d2 := cell_stays hbn d2
          have d3 := cell_stays hbn d3
          have d4 := cell_stays hbn d4
          have d5 := cell_stays hbn d5
          have hx := hx.below hbn
          have hB := hB.trans (hbn.mono hB.size)
          clear hbn
          clear d0 d1 d2 d3 d4 d5 hx
          by_cases h100 : 100 < nn
          · go_wp2_with fail
            go_ret
            exact ⟨ret_bool (by rw [HE.out, HD.out]; unfold PT.allT; rw [← HNN.out, decide_eq_false (p := nn ≤ 100) (by omega)]; simp), hB⟩
          · go_wp2_with fail
            go_roundw
            case rel => exact ⟨i + 1, by go_num, by omega, by rw [HE.out, HD.out]; unfold PT.allT; rw [← HZ.out, ← HDD.out, ← HNN.out, decide_eq_true (p := dd ≤ 9) (by omega), decide_eq_true (p := nn ≤ 100) (by omega)]; rfl, hB⟩
            case measure => simp [intOf]; omega
    · go_wp2_with fail
      go_ret
      exact ⟨ret_bool (by rw [HE.out, drop_nil hlt]; rfl), hB⟩
end Go.Proofs.Ytclmnpfdnhfbmaa
