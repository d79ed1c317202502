/- Nodes, Deep of pred and of the document. -/
import Derived.Test.YtclmnpfdnhfbmaaPWalkD
namespace Go.Proofs.Ytclmnpfdnhfbmaa
open Go.RowKit

theorem PT.nodess_upto {l : List PT} {i : Nat} (h : i < l.length) : PT.nodess (l.take (i + 1)) = PT.nodess (l.take i) + l[i].nodes := by
  induction l generalizing i with
  | nil => simp at h
  | cons a l ih =>
    cases i with
    | zero => simp [PT.nodess]
    | succ i => simp only [List.take_succ_cons, PT.nodess, List.getElem_cons_succ]; rw [ih (by simpa using h)]; omega
theorem PT.nodess_upto_le (l : List PT) (i : Nat) : PT.nodess (l.take i) ≤ PT.nodess l := by
  induction l generalizing i with
  | nil => simp
  | cons a l ih => cases i with
    | zero => simp [PT.nodess]
    | succ i => simp only [List.take_succ_cons, PT.nodess]; have := ih i; omega
theorem PT.deeps_upto {l : List PT} {i : Nat} (h : i < l.length) : PT.deeps (l.take (i + 1)) = max (PT.deeps (l.take i)) l[i].deep := by
  induction l generalizing i with
  | nil => simp at h
  | cons a l ih =>
    cases i with
    | zero => simp [PT.deeps]
    | succ i => simp only [List.take_succ_cons, PT.deeps, List.getElem_cons_succ]; rw [ih (by simpa using h)]; omega
mutual
theorem PT.nodes_le (F : Nat) : ∀ t : PT, t.fat ≤ F → t.nodes ≤ t.cnt * (F + 1)
  | .mk k v n l, h => by
    rw [PT.fat] at h
    rw [PT.nodes, PT.cnt, Nat.add_mul]
    have := PT.nodess_le F l (by omega)
    split <;> omega
theorem PT.nodess_le (F : Nat) : ∀ l : List PT, PT.fats l ≤ F → PT.nodess l ≤ PT.cnts l * (F + 1)
  | [], _ => by simp [PT.nodess]
  | t :: ts, h => by
    rw [PT.fats] at h
    rw [PT.nodess, PT.cnts, Nat.add_mul]
    have h1 := PT.nodes_le F t (by omega)
    have h2 := PT.nodess_le F ts (by omega)
    omega
end
mutual
theorem PT.deep_le : ∀ t : PT, 1 ≤ t.deep ∧ t.deep ≤ t.cnt
  | .mk k v n l => by rw [PT.deep, PT.cnt]; have := PT.deeps_le l; constructor <;> omega
theorem PT.deeps_le : ∀ l : List PT, PT.deeps l ≤ PT.cnts l
  | [] => by simp [PT.deeps]
  | t :: ts => by rw [PT.deeps, PT.cnts]; have h1 := PT.deep_le t; have h2 := PT.deeps_le ts; omega
end
theorem PT.cnts_upto_le (l : List PT) (i : Nat) : PT.cnts (l.take i) ≤ PT.cnts l := by
  induction l generalizing i with
  | nil => simp
  | cons a l ih => cases i with
    | zero => simp [PT.cnts]
    | succ i => simp only [List.take_succ_cons, PT.cnts]; have := ih i; omega

set_option maxRecDepth 100000 in
set_option maxHeartbeats 4000000 in
theorem nodes_any (N : Nat) (hN : N ≤ 1000000) : ∀ (t : PT) (x : Value) (w : World), t.cnt ≤ N → t.fat ≤ 100000 → PIn w t x →
    Calls Try.prog 39 #[x] w fun e w' => e = .returned (.int .i64 t.nodes) ∧ Below w.heap.size w w' := by
  induction N with
  | zero => intro t x w h; have := PT.cnt_pos t; omega
  | succ N ih =>
    intro t x w hs hf hx
    obtain ⟨k, v, n, l⟩ := t
    obtain ⟨va, vc, a, cap, hlen, hvl, rfl, hv, hr⟩ := hx.open
    have IH := Lib.hid (ih (by omega)); clear ih
    rw [PT.cnt] at hs
    rw [PT.fat] at hf
    have hvs : v.size ≤ 100000 := by omega
    have hfs : PT.fats l ≤ 100000 := by omega
    have hln := PT.length_le_cnts l
    have hnl : PT.nodess l ≤ 100001000000 := by have := PT.nodess_le 100000 l hfs; omega
    have HNL := Lib.hid hnl; clear hnl
    obtain ⟨w0, hw0, m0, s0, q0, q1, q2, q3, q4, q5⟩ := box6 w (.int .u8 k) (.int .u8 v.kind) (.int .i64 v.num) (.slice va v.items.length vc) (.int .i64 n) (.slice a l.length cap) 27
    have hv0 := hv.below m0
    have hr0 := hr.below m0
    clear hx hv hr hf
    by_cases hk : k = 3 ∨ k = 4
    · have hc : (PT.mk k v n l).nodes = 1 + v.size + PT.nodess l := by rw [PT.nodes, if_pos hk]
      have hd : decide (k = 3 ∨ k = 4) = true := by simpa using hk
      have HD := Lib.hid hd; clear hd hk
      obtain ⟨vs, hvs'⟩ : ∃ vs, vs = v.size := ⟨_, rfl⟩
      rw [← hvs'] at hc
      have hvb : vs ≤ 100000 := by omega
      have HVS := Lib.hid hvs'; clear hvs'
      have HRES := Lib.hid hc; clear hc
      go_enter Try.func39, Try.ntmps39
      go_wp2_with fail
      refine (hasValue_any k _).mono ?_
      rintro e w' ⟨rfl, rfl⟩
      rw [HD.out]
      go_wp2_with fail
      refine (size_any v _ _ hvs hv0).mono ?_
      rintro e w1 ⟨rfl, hb1⟩
      rw [← HVS.out]
      have g5 := cell_stays hb1 q5
      go_wp2_with fail
      go_loopw [3, 17] (fun x y wr => ∃ (p : Int) (i : Nat), x = .int .i64 p ∧ y = .int .i64 i ∧ i ≤ l.length ∧ p = 1 + (vs : Int) + PT.nodess (l.take i) ∧ Below w0.heap.size w0 wr) (fun _ y _ => l.length - (intOf y).toNat)
      case atStart => exact ⟨_, 0, rfl, rfl, by omega, by simp [PT.nodess], hb1⟩
      case round =>
        obtain ⟨p, i, rfl, rfl, hi, hp, hB⟩ := hrel
        have b0 := PT.nodess_upto_le l i
        have b2 : 1 ≤ p ∧ p ≤ 200000000000 := by have := HNL.out; omega
        have HP := Lib.hid hp; clear hp b0
        have f5 := cell_stays hB q5
        by_cases hlt : i < l.length
        · obtain ⟨b, o, rfl, ax, ac, a', cap', d0, d1, d2, d3, d4, d5, hx⟩ := (hr0.below hB).got i hlt
          have hxs := PT.cnts_get hlt
          have hxf := PT.fats_get hlt
          have hup := PT.nodess_upto hlt
          have HUP := Lib.hid hup; clear hup
          have hnl := PT.nodes_le 100000 l[i] (by omega)
          have hnb : l[i].nodes ≤ 200000000000 := by omega
          clear hnl
          go_wp2_with fail
          refine (IH.out l[i] _ _ (by omega) (by omega) (hx.below (Below.al _))).mono ?_
          rintro e w2 ⟨rfl, hb2⟩
          have hB2 := hB.trans (((Below.al _).trans (hb2.mono (by simp))).mono hB.size)
          obtain ⟨q, hq⟩ : ∃ q : Nat, q = l[i].nodes := ⟨_, rfl⟩
          rw [← hq] at hnb ⊢
          rw [← hq] at HUP
          have h5 := cell_stays hB2 q5
          clear hq hb2 hB f5 d0 d1 d2 d3 d4 d5 hx
          go_wp2_with fail
          go_roundw
          case rel => exact ⟨_, i + 1, rfl, by go_num, by omega, by rw [HUP.out, HP.out]; go_num, hB2⟩
          case measure => simp [intOf]; omega
        · have hii : i = l.length := by omega
          subst hii
          have n4 : decide ((l.length : Int) < (l.length : Int)) = false := by simp
          go_wp2_with fail
          go_ret
          exact ⟨ret_int (by rw [HP.out, List.take_length, HRES.out]; go_num), m0.trans (hB.mono m0.size)⟩
    · have hc : (PT.mk k v n l).nodes = 1 + PT.nodess l := by rw [PT.nodes, if_neg hk]
      have hd : decide (k = 3 ∨ k = 4) = false := by simpa using hk
      have HD := Lib.hid hd; clear hd hk
      have HRES := Lib.hid hc; clear hc
      go_enter Try.func39, Try.ntmps39
      go_wp2_with fail
      refine (hasValue_any k _).mono ?_
      rintro e w' ⟨rfl, rfl⟩
      rw [HD.out]
      go_wp2_with fail
      go_loopw [3, 17] (fun x y wr => ∃ (p : Int) (i : Nat), x = .int .i64 p ∧ y = .int .i64 i ∧ i ≤ l.length ∧ p = 1 + PT.nodess (l.take i) ∧ Below w0.heap.size w0 wr) (fun _ y _ => l.length - (intOf y).toNat)
      case atStart => exact ⟨_, 0, rfl, rfl, by omega, by simp [PT.nodess], Below.refl _ _⟩
      case round =>
        obtain ⟨p, i, rfl, rfl, hi, hp, hB⟩ := hrel
        have b0 := PT.nodess_upto_le l i
        have b2 : 1 ≤ p ∧ p ≤ 200000000000 := by have := HNL.out; omega
        have HP := Lib.hid hp; clear hp b0
        have f5 := cell_stays hB q5
        by_cases hlt : i < l.length
        · obtain ⟨b, o, rfl, ax, ac, a', cap', d0, d1, d2, d3, d4, d5, hx⟩ := (hr0.below hB).got i hlt
          have hxs := PT.cnts_get hlt
          have hxf := PT.fats_get hlt
          have hup := PT.nodess_upto hlt
          have HUP := Lib.hid hup; clear hup
          have hnl := PT.nodes_le 100000 l[i] (by omega)
          have hnb : l[i].nodes ≤ 200000000000 := by omega
          clear hnl
          go_wp2_with fail
          refine (IH.out l[i] _ _ (by omega) (by omega) (hx.below (Below.al _))).mono ?_
          rintro e w2 ⟨rfl, hb2⟩
          have hB2 := hB.trans (((Below.al _).trans (hb2.mono (by simp))).mono hB.size)
          obtain ⟨q, hq⟩ : ∃ q : Nat, q = l[i].nodes := ⟨_, rfl⟩
          rw [← hq] at hnb ⊢
          rw [← hq] at HUP
          have h5 := cell_stays hB2 q5
          clear hq hb2 hB f5 d0 d1 d2 d3 d4 d5 hx
          go_wp2_with fail
          go_roundw
          case rel => exact ⟨_, i + 1, rfl, by go_num, by omega, by rw [HUP.out, HP.out]; go_num, hB2⟩
          case measure => simp [intOf]; omega
        · have hii : i = l.length := by omega
          subst hii
          have n4 : decide ((l.length : Int) < (l.length : Int)) = false := by simp
          go_wp2_with fail
          go_ret
          exact ⟨ret_int (by rw [HP.out, List.take_length, HRES.out]; go_num), m0.trans (hB.mono m0.size)⟩
set_option maxRecDepth 100000 in
set_option maxHeartbeats 4000000 in
theorem rnodes_any (N : Nat) (hN : N ≤ 1000000) : ∀ (t : PT) (x : Value) (w : World), t.cnt ≤ N → t.fat ≤ 100000 → PIn w t x →
    Calls Try.prog 43 #[x] w fun e w' => e = .returned (.int .i64 t.nodes) ∧ Below w.heap.size w w' := by
  induction N with
  | zero => intro t x w h; have := PT.cnt_pos t; omega
  | succ N ih =>
    intro t x w hs hf hx
    obtain ⟨k, v, n, l⟩ := t
    obtain ⟨va, vc, a, cap, hlen, hvl, rfl, hv, hr⟩ := hx.open
    have IH := Lib.hid (ih (by omega)); clear ih
    rw [PT.cnt] at hs
    rw [PT.fat] at hf
    have hvs : v.size ≤ 100000 := by omega
    have hfs : PT.fats l ≤ 100000 := by omega
    have hln := PT.length_le_cnts l
    have hnl : PT.nodess l ≤ 100001000000 := by have := PT.nodess_le 100000 l hfs; omega
    have HNL := Lib.hid hnl; clear hnl
    obtain ⟨w0, hw0, m0, s0, q0, q1, q2, q3, q4, q5⟩ := box6 w (.int .u8 k) (.int .u8 v.kind) (.int .i64 v.num) (.slice va v.items.length vc) (.int .i64 n) (.slice a l.length cap) 27
    have hv0 := hv.below m0
    have hr0 := hr.below m0
    clear hx hv hr hf
    by_cases hk : k = 3 ∨ k = 4
    · have hc : (PT.mk k v n l).nodes = 1 + v.size + PT.nodess l := by rw [PT.nodes, if_pos hk]
      obtain ⟨vs, hvs'⟩ : ∃ vs, vs = v.size := ⟨_, rfl⟩
      rw [← hvs'] at hc
      have hvb : vs ≤ 100000 := by omega
      have HVS := Lib.hid hvs'; clear hvs'
      have HRES := Lib.hid hc; clear hc
      rcases hk with rfl | rfl
      all_goals
        go_enter Try.func43, Try.ntmps43
        go_wp2_with fail
        refine (rsize_any 100000 (by omega) v _ _ hvs hv0).mono ?_
        rintro e w1 ⟨rfl, hb1⟩
        rw [← HVS.out]
        have g5 := cell_stays hb1 q5
        go_wp2_with fail
        go_loopw [3, 4] (fun x y wr => ∃ (p : Int) (i : Nat), x = .int .i64 p ∧ y = .int .i64 i ∧ i ≤ l.length ∧ p = 1 + (vs : Int) + PT.nodess (l.take i) ∧ Below w0.heap.size w0 wr) (fun _ y _ => l.length - (intOf y).toNat)
        case atStart => exact ⟨_, 0, rfl, rfl, by omega, by simp [PT.nodess], hb1⟩
        case round =>
          obtain ⟨p, i, rfl, rfl, hi, hp, hB⟩ := hrel
          have b0 := PT.nodess_upto_le l i
          have b2 : 1 ≤ p ∧ p ≤ 200000000000 := by have := HNL.out; omega
          have HP := Lib.hid hp; clear hp b0
          have f5 := cell_stays hB q5
          by_cases hlt : i < l.length
          · obtain ⟨b, o, rfl, ax, ac, a', cap', d0, d1, d2, d3, d4, d5, hx⟩ := (hr0.below hB).got i hlt
            have hxs := PT.cnts_get hlt
            have hxf := PT.fats_get hlt
            have hup := PT.nodess_upto hlt
            have HUP := Lib.hid hup; clear hup
            have hnl := PT.nodes_le 100000 l[i] (by omega)
            have hnb : l[i].nodes ≤ 200000000000 := by omega
            clear hnl
            go_wp2_with fail
            refine (IH.out l[i] _ _ (by omega) (by omega) (hx.below (Below.refl _ _))).mono ?_
            rintro e w2 ⟨rfl, hb2⟩
            have hB2 := hB.trans (((Below.refl _ _).trans (hb2.mono (by simp))).mono hB.size)
            obtain ⟨q, hq⟩ : ∃ q : Nat, q = l[i].nodes := ⟨_, rfl⟩
            rw [← hq] at hnb ⊢
            rw [← hq] at HUP
            have h5 := cell_stays hB2 q5
            clear hq hb2 hB f5 d0 d1 d2 d3 d4 d5 hx
            go_wp2_with fail
            go_roundw
            case rel => exact ⟨_, i + 1, rfl, by go_num, by omega, by rw [HUP.out, HP.out]; go_num, hB2⟩
            case measure => simp [intOf]; omega
          · have hii : i = l.length := by omega
            subst hii
            have n4 : decide ((l.length : Int) < (l.length : Int)) = false := by simp
            go_wp2_with fail
            go_ret
            exact ⟨ret_int (by rw [HP.out, List.take_length, HRES.out]; go_num), m0.trans (hB.mono m0.size)⟩
    · have hc : (PT.mk k v n l).nodes = 1 + PT.nodess l := by rw [PT.nodes, if_neg hk]
      have h3 : (k == 3) = false := by simp; omega
      have h4 : (k == 4) = false := by simp; omega
      clear hk
      have HRES := Lib.hid hc; clear hc
      go_enter Try.func43, Try.ntmps43
      go_wp2_with fail
      go_loopw [3, 4] (fun x y wr => ∃ (p : Int) (i : Nat), x = .int .i64 p ∧ y = .int .i64 i ∧ i ≤ l.length ∧ p = 1 + PT.nodess (l.take i) ∧ Below w0.heap.size w0 wr) (fun _ y _ => l.length - (intOf y).toNat)
      case atStart => exact ⟨_, 0, rfl, rfl, by omega, by simp [PT.nodess], Below.refl _ _⟩
      case round =>
        obtain ⟨p, i, rfl, rfl, hi, hp, hB⟩ := hrel
        have b0 := PT.nodess_upto_le l i
        have b2 : 1 ≤ p ∧ p ≤ 200000000000 := by have := HNL.out; omega
        have HP := Lib.hid hp; clear hp b0
        have f5 := cell_stays hB q5
        by_cases hlt : i < l.length
        · obtain ⟨b, o, rfl, ax, ac, a', cap', d0, d1, d2, d3, d4, d5, hx⟩ := (hr0.below hB).got i hlt
          have hxs := PT.cnts_get hlt
          have hxf := PT.fats_get hlt
          have hup := PT.nodess_upto hlt
          have HUP := Lib.hid hup; clear hup
          have hnl := PT.nodes_le 100000 l[i] (by omega)
          have hnb : l[i].nodes ≤ 200000000000 := by omega
          clear hnl
          go_wp2_with fail
          refine (IH.out l[i] _ _ (by omega) (by omega) (hx.below (Below.refl _ _))).mono ?_
          rintro e w2 ⟨rfl, hb2⟩
          have hB2 := hB.trans (((Below.refl _ _).trans (hb2.mono (by simp))).mono hB.size)
          obtain ⟨q, hq⟩ : ∃ q : Nat, q = l[i].nodes := ⟨_, rfl⟩
          rw [← hq] at hnb ⊢
          rw [← hq] at HUP
          have h5 := cell_stays hB2 q5
          clear hq hb2 hB f5 d0 d1 d2 d3 d4 d5 hx
          go_wp2_with fail
          go_roundw
          case rel => exact ⟨_, i + 1, rfl, by go_num, by omega, by rw [HUP.out, HP.out]; go_num, hB2⟩
          case measure => simp [intOf]; omega
        · have hii : i = l.length := by omega
          subst hii
          have n4 : decide ((l.length : Int) < (l.length : Int)) = false := by simp
          go_wp2_with fail
          go_ret
          exact ⟨ret_int (by rw [HP.out, List.take_length, HRES.out]; go_num), m0.trans (hB.mono m0.size)⟩
end Go.Proofs.Ytclmnpfdnhfbmaa
