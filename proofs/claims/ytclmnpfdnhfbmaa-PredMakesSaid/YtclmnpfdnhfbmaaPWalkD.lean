/- pred.check, tombolaref17.check. -/
import Derived.Test.YtclmnpfdnhfbmaaPWalkC
namespace Go.Proofs.Ytclmnpfdnhfbmaa
open Go.RowKit

theorem PT.cnt_pos : ∀ t : PT, 1 ≤ t.cnt | .mk _ _ _ _ => by rw [PT.cnt]; omega
theorem PT.cnts_mem : ∀ (l : List PT) (t : PT), t ∈ l → t.cnt ≤ PT.cnts l
  | a :: l, t, h => by
    rw [PT.cnts]
    rcases List.mem_cons.1 h with rfl | h
    · omega
    · have := PT.cnts_mem l t h; omega
theorem PT.cnts_get {l : List PT} {i : Nat} (h : i < l.length) : l[i].cnt ≤ PT.cnts l := PT.cnts_mem l _ (List.getElem_mem h)
theorem PT.fats_mem : ∀ (l : List PT) (t : PT), t ∈ l → t.fat ≤ PT.fats l
  | a :: l, t, h => by
    rw [PT.fats]
    rcases List.mem_cons.1 h with rfl | h
    · omega
    · have := PT.fats_mem l t h; omega
theorem PT.fats_get {l : List PT} {i : Nat} (h : i < l.length) : l[i].fat ≤ PT.fats l := PT.fats_mem l _ (List.getElem_mem h)
theorem PT.length_le_cnts : ∀ l : List PT, l.length ≤ PT.cnts l
  | [] => by simp
  | a :: l => by rw [PT.cnts, List.length_cons]; have := PT.length_le_cnts l; have := PT.cnt_pos a; omega
theorem PT.cnts_drop {l : List PT} {i : Nat} (h : i < l.length) : PT.cnts (l.drop i) = l[i].cnt + PT.cnts (l.drop (i + 1)) := by rw [drop_cons h, PT.cnts]
mutual
theorem PT.chk_le : ∀ (t : PT) (p d : Int), p ≤ (t.chk p d).1 ∧ (t.chk p d).1 ≤ p + t.cnt
  | .mk k v n l, p, d => by
    rw [PT.chk, PT.cnt]
    split
    · simp; omega
    · split
      · simp; omega
      · have := PT.chks_le l (p + 1) d; constructor <;> omega
theorem PT.chks_le : ∀ (l : List PT) (p d : Int), p ≤ (PT.chks l p d).1 ∧ (PT.chks l p d).1 ≤ p + PT.cnts l
  | [], p, d => by simp [PT.chks, PT.cnts]
  | t :: ts, p, d => by
    rw [PT.chks, PT.cnts]
    have h1 := PT.chk_le t p (d + 1)
    have h2 := PT.chks_le ts (t.chk p (d + 1)).1 d
    split
    · constructor <;> omega
    · constructor <;> omega
end
theorem PT.chks_drop {l : List PT} {i : Nat} (h : i < l.length) (p d : Int) : PT.chks (l.drop i) p d = if (l[i].chk p (d + 1)).2 ≠ 0 then l[i].chk p (d + 1) else PT.chks (l.drop (i + 1)) (l[i].chk p (d + 1)).1 d := by rw [drop_cons h, PT.chks]

set_option maxRecDepth 100000 in
set_option maxHeartbeats 4000000 in
theorem chk_any (N : Nat) (hN : N ≤ 1000000) : ∀ (t : PT) (x : Value) (p d : Int) (w : World), t.cnt ≤ N → t.fat ≤ 100000 → 0 ≤ p → p ≤ 1000000000 - t.cnt → 0 ≤ d → d ≤ 1000 → PIn w t x →
    Calls Try.prog 66 #[x, .int .i64 p, .int .i64 d] w fun e w' => e = .returned (.tuple #[.int .i64 (t.chk p d).1, .int .i64 (t.chk p d).2]) ∧ Below w.heap.size w w' := by
  induction N with
  | zero => intro t x p d w h; have := PT.cnt_pos t; omega
  | succ N ih =>
    intro t x p d w hs hf hp0 hp1 hd0 hd1 hx
    obtain ⟨k, v, n, l⟩ := t
    obtain ⟨va, vc, a, cap, hlen, hvl, rfl, hv, hr⟩ := hx.open
    have IH := Lib.hid (ih (by omega)); clear ih
    rw [PT.cnt] at hs hp1
    rw [PT.fat] at hf
    have hvs : v.size ≤ 100000 := by omega
    have hfs : PT.fats l ≤ 100000 := by omega
    have hln := PT.length_le_cnts l
    obtain ⟨w0, hw0, m0, s0, q0, q1, q2, q3, q4, q5⟩ := box6 w (.int .u8 k) (.int .u8 v.kind) (.int .i64 v.num) (.slice va v.items.length vc) (.int .i64 n) (.slice a l.length cap) 27
    have hv0 := hv.below m0
    have hr0 := hr.below m0
    clear hx hv hr hf
    by_cases hd : 12 < d
    · have hc : (PT.mk k v n l).chk p d = (p, 9) := by rw [PT.chk, if_pos hd]
      rw [hc]
      clear hc
      go_enter Try.func66, Try.ntmps66
      go_wp2_with fail
      refine bodyPost_ret (v := .tuple #[.int .i64 p, .int .i64 9]) (by simp [results, Try.results66, go_sem]) rfl ⟨rfl, m0⟩
    · go_enter Try.func66, Try.ntmps66
      go_wp2_with fail
      refine (node_any k n v va a vc l.length cap _ hv0 hvs).mono ?_
      rintro e w1 ⟨rfl, hb1⟩
      have HD := Lib.hid hd; clear hd
      obtain ⟨z, hz⟩ : ∃ z, z = PT.node k v n l.length := ⟨_, rfl⟩
      rw [← hz]
      have HZ := Lib.hid hz; clear hz
      by_cases hz0 : z = 0
      · have hc : (PT.mk k v n l).chk p d = PT.chks l (p + 1) d := by rw [PT.chk, if_neg (by have := HD.out; omega), if_neg (by rw [← HZ.out]; simpa using hz0)]
        have HC := Lib.hid hc; clear hc
        subst hz0
        have g5 := cell_stays hb1 q5
        go_wp2_with fail
        go_loopw [1, 8, 25] (fun x y z wr => ∃ (q : Int) (i : Nat), x = .int .i64 q ∧ y = .int .i64 0 ∧ z = .int .i64 i ∧ i ≤ l.length ∧ 0 ≤ q ∧ q ≤ 1000000000 - PT.cnts (l.drop i) ∧ PT.chks l (p + 1) d = PT.chks (l.drop i) q d ∧ Below w0.heap.size w0 wr) (fun _ _ z _ => l.length - (intOf z).toNat)
        case atStart => exact ⟨p + 1, 0, by go_num, rfl, rfl, by omega, by omega, by simp; omega, by simp, hb1⟩
        case round =>
          obtain ⟨q, i, rfl, rfl, rfl, hi, hq0, hq1, hc, hB⟩ := hrel
          have HQ := Lib.hid hc; clear hc
          have f5 := cell_stays hB q5
          by_cases hlt : i < l.length
          · obtain ⟨b, o, rfl, ax, ac, a', cap', d0, d1, d2, d3, d4, d5, hx⟩ := (hr0.below hB).got i hlt
            have hxs := PT.cnts_get hlt
            have hxf := PT.fats_get hlt
            have hcd := PT.cnts_drop hlt
            have hst := PT.chks_drop hlt q d
            have hle := PT.chk_le l[i] q (d + 1)
            have HST := Lib.hid hst; clear hst
            have HXS := Lib.hid hxs; have HXF := Lib.hid hxf; have HCD := Lib.hid hcd
            clear hxs hxf hcd
            go_wp2_with fail
            refine (IH.out l[i] _ q (d + 1) _ (by have := HXS.out; omega) (by have := HXF.out; omega) hq0 (by have := HCD.out; omega) (by omega) (by have := HD.out; omega) (hx.below (Below.al _))).mono ?_
            rintro e w2 ⟨rfl, hb2⟩
            have hB2 := hB.trans (((Below.al _).trans (hb2.mono (by simp))).mono hB.size)
            obtain ⟨r, hr⟩ : ∃ r, r = (l[i].chk q (d + 1)).1 := ⟨_, rfl⟩
            obtain ⟨y, hy⟩ : ∃ y, y = (l[i].chk q (d + 1)).2 := ⟨_, rfl⟩
            rw [← hr, ← hy]
            rw [← hr] at hle
            have HR := Lib.hid hr; have HY := Lib.hid hy
            have hr1 : r ≤ 1000000000 - PT.cnts (l.drop (i + 1)) := by have := HCD.out; omega
            have h5 := cell_stays hB2 q5
            clear hr hy d0 d1 d2 d3 d4 d5 hx hB hb2 f5
            by_cases hy0 : y = 0
            · have hn : PT.chks l (p + 1) d = PT.chks (l.drop (i + 1)) r d := by rw [HQ.out, HST.out, if_neg (by rw [← HY.out]; simpa using hy0), HR.out]
              have HN := Lib.hid hn; clear hn
              subst hy0
              go_wp2_with fail
              go_roundw
              case rel => exact ⟨r, i + 1, rfl, rfl, by go_num, by omega, by omega, hr1, HN.out, hB2⟩
              case measure => simp [intOf]; omega
            · have hn : PT.chks l (p + 1) d = (r, y) := by rw [HQ.out, HST.out, if_pos (by rw [← HY.out]; exact hy0), HR.out, HY.out]
              have HN := Lib.hid hn; clear hn
              have hyb : (y != 0) = true := by simpa using hy0
              clear hy0
              go_wp2_with fail
              refine bodyPost_ret (v := .tuple #[.int .i64 r, .int .i64 y]) (by simp [results, Try.results66, go_sem]) rfl ⟨by rw [HC.out, HN.out], m0.trans (hB2.mono m0.size)⟩
          · have hn : PT.chks l (p + 1) d = (q, 0) := by rw [HQ.out, drop_nil hlt, PT.chks]
            have HN := Lib.hid hn; clear hn
            go_wp2_with fail
            refine bodyPost_ret (v := .tuple #[.int .i64 q, .int .i64 0]) (by simp [results, Try.results66, go_sem]) rfl ⟨by rw [HC.out, HN.out], m0.trans (hB.mono m0.size)⟩
      · have hc : (PT.mk k v n l).chk p d = (p, z) := by rw [PT.chk, if_neg (by have := HD.out; omega), if_pos (by rw [← HZ.out]; exact hz0), HZ.out]
        have HC := Lib.hid hc; clear hc
        have hzb : (z != 0) = true := by simpa using hz0
        clear hz0
        go_wp2_with fail
        refine bodyPost_ret (v := .tuple #[.int .i64 p, .int .i64 z]) (by simp [results, Try.results66, go_sem]) rfl ⟨by rw [HC.out], m0.trans (hb1.mono m0.size)⟩
set_option maxRecDepth 100000 in
set_option maxHeartbeats 4000000 in
theorem rchk_any (N : Nat) (hN : N ≤ 1000000) : ∀ (t : PT) (x : Value) (p d : Int) (w : World), t.cnt ≤ N → t.fat ≤ 100000 → 0 ≤ p → p ≤ 1000000000 - t.cnt → 0 ≤ d → d ≤ 1000 → PIn w t x →
    Calls Try.prog 68 #[x, .int .i64 p, .int .i64 d] w fun e w' => e = .returned (.tuple #[.int .i64 (t.chk p d).1, .int .i64 (t.chk p d).2]) ∧ Below w.heap.size w w' := by
  induction N with
  | zero => intro t x p d w h; have := PT.cnt_pos t; omega
  | succ N ih =>
    intro t x p d w hs hf hp0 hp1 hd0 hd1 hx
    obtain ⟨k, v, n, l⟩ := t
    obtain ⟨va, vc, a, cap, hlen, hvl, rfl, hv, hr⟩ := hx.open
    have IH := Lib.hid (ih (by omega)); clear ih
    rw [PT.cnt] at hs hp1
    rw [PT.fat] at hf
    have hvs : v.size ≤ 100000 := by omega
    have hfs : PT.fats l ≤ 100000 := by omega
    have hln := PT.length_le_cnts l
    obtain ⟨w0, hw0, m0, s0, q0, q1, q2, q3, q4, q5⟩ := box6 w (.int .u8 k) (.int .u8 v.kind) (.int .i64 v.num) (.slice va v.items.length vc) (.int .i64 n) (.slice a l.length cap) 27
    have hv0 := hv.below m0
    have hr0 := hr.below m0
    clear hx hv hr hf
    by_cases hd : 12 < d
    · have hc : (PT.mk k v n l).chk p d = (p, 9) := by rw [PT.chk, if_pos hd]
      rw [hc]
      clear hc
      go_enter Try.func68, Try.ntmps68
      go_wp2_with fail
      refine bodyPost_ret (v := .tuple #[.int .i64 p, .int .i64 9]) (by simp [results, Try.results68, go_sem]) rfl ⟨rfl, m0⟩
    · go_enter Try.func68, Try.ntmps68
      go_wp2_with fail
      refine (rNode_any k n v va a vc l.length cap _ hv0 hvs).mono ?_
      rintro e w1 ⟨rfl, hb1⟩
      have HD := Lib.hid hd; clear hd
      obtain ⟨z, hz⟩ : ∃ z, z = PT.node k v n l.length := ⟨_, rfl⟩
      rw [← hz]
      have HZ := Lib.hid hz; clear hz
      by_cases hz0 : z = 0
      · have hc : (PT.mk k v n l).chk p d = PT.chks l (p + 1) d := by rw [PT.chk, if_neg (by have := HD.out; omega), if_neg (by rw [← HZ.out]; simpa using hz0)]
        have HC := Lib.hid hc; clear hc
        subst hz0
        have g5 := cell_stays hb1 q5
        go_wp2_with fail
        go_loopw [1, 8, 9] (fun x y z wr => ∃ (q : Int) (i : Nat), x = .int .i64 q ∧ y = .int .i64 0 ∧ z = .int .i64 i ∧ i ≤ l.length ∧ 0 ≤ q ∧ q ≤ 1000000000 - PT.cnts (l.drop i) ∧ PT.chks l (p + 1) d = PT.chks (l.drop i) q d ∧ Below w0.heap.size w0 wr) (fun _ _ z _ => l.length - (intOf z).toNat)
        case atStart => exact ⟨p + 1, 0, by go_num, rfl, rfl, by omega, by omega, by simp; omega, by simp, hb1⟩
        case round =>
          obtain ⟨q, i, rfl, rfl, rfl, hi, hq0, hq1, hc, hB⟩ := hrel
          have HQ := Lib.hid hc; clear hc
          have f5 := cell_stays hB q5
          by_cases hlt : i < l.length
          · obtain ⟨b, o, rfl, ax, ac, a', cap', d0, d1, d2, d3, d4, d5, hx⟩ := (hr0.below hB).got i hlt
            have hxs := PT.cnts_get hlt
            have hxf := PT.fats_get hlt
            have hcd := PT.cnts_drop hlt
            have hst := PT.chks_drop hlt q d
            have hle := PT.chk_le l[i] q (d + 1)
            have HST := Lib.hid hst; clear hst
            have HXS := Lib.hid hxs; have HXF := Lib.hid hxf; have HCD := Lib.hid hcd
            clear hxs hxf hcd
            go_wp2_with fail
            refine (IH.out l[i] _ q (d + 1) _ (by have := HXS.out; omega) (by have := HXF.out; omega) hq0 (by have := HCD.out; omega) (by omega) (by have := HD.out; omega) (hx.below (Below.refl _ _))).mono ?_
            rintro e w2 ⟨rfl, hb2⟩
            have hB2 := hB.trans (((Below.refl _ _).trans (hb2.mono (by simp))).mono hB.size)
            obtain ⟨r, hr⟩ : ∃ r, r = (l[i].chk q (d + 1)).1 := ⟨_, rfl⟩
            obtain ⟨y, hy⟩ : ∃ y, y = (l[i].chk q (d + 1)).2 := ⟨_, rfl⟩
            rw [← hr, ← hy]
            rw [← hr] at hle
            have HR := Lib.hid hr; have HY := Lib.hid hy
            have hr1 : r ≤ 1000000000 - PT.cnts (l.drop (i + 1)) := by have := HCD.out; omega
            have h5 := cell_stays hB2 q5
            clear hr hy d0 d1 d2 d3 d4 d5 hx hB hb2 f5
            by_cases hy0 : y = 0
            · have hn : PT.chks l (p + 1) d = PT.chks (l.drop (i + 1)) r d := by rw [HQ.out, HST.out, if_neg (by rw [← HY.out]; simpa using hy0), HR.out]
              have HN := Lib.hid hn; clear hn
              subst hy0
              go_wp2_with fail
              go_roundw
              case rel => exact ⟨r, i + 1, rfl, rfl, by go_num, by omega, by omega, hr1, HN.out, hB2⟩
              case measure => simp [intOf]; omega
            · have hn : PT.chks l (p + 1) d = (r, y) := by rw [HQ.out, HST.out, if_pos (by rw [← HY.out]; exact hy0), HR.out, HY.out]
              have HN := Lib.hid hn; clear hn
              have hyb : (y != 0) = true := by simpa using hy0
              clear hy0
              go_wp2_with fail
              refine bodyPost_ret (v := .tuple #[.int .i64 r, .int .i64 y]) (by simp [results, Try.results68, go_sem]) rfl ⟨by rw [HC.out, HN.out], m0.trans (hB2.mono m0.size)⟩
          · have hn : PT.chks l (p + 1) d = (q, 0) := by rw [HQ.out, drop_nil hlt, PT.chks]
            have HN := Lib.hid hn; clear hn
            go_wp2_with fail
            refine bodyPost_ret (v := .tuple #[.int .i64 q, .int .i64 0]) (by simp [results, Try.results68, go_sem]) rfl ⟨by rw [HC.out, HN.out], m0.trans (hB.mono m0.size)⟩
      · have hc : (PT.mk k v n l).chk p d = (p, z) := by rw [PT.chk, if_neg (by have := HD.out; omega), if_pos (by rw [← HZ.out]; exact hz0), HZ.out]
        have HC := Lib.hid hc; clear hc
        have hzb : (z != 0) = true := by simpa using hz0
        clear hz0
        go_wp2_with fail
        refine bodyPost_ret (v := .tuple #[.int .i64 p, .int .i64 z]) (by simp [results, Try.results68, go_sem]) rfl ⟨by rw [HC.out], m0.trans (hb1.mono m0.size)⟩
end Go.Proofs.Ytclmnpfdnhfbmaa
