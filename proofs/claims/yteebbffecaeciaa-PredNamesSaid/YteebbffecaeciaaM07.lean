/- Texts of this claim laid into one: PWalkD, PWalkE, TMath, PWalkF. -/
import Derived.Test.YteebbffecaeciaaM06
import Derived.Test.YteebbffecaeciaaM01
/- pred.check, tombolaref17.check. -/
namespace Go.Proofs.Yteebbffecaeciaa
open Go.RowKit

theorem PT.cnt_pos : ∀ t : PT, 1 ≤ t.cnt | .mk _ _ _ _ => by rw [PT.cnt]; omega
theorem PT.cnts_mem : ∀ (l : List PT) (t : PT), t ∈ l → t.cnt ≤ PT.cnts l
  | a :: l, t, h => by
    rw [PT.cnts]
    rcases List.mem_cons.1 h with rfl | h
    · omega
    · have := PT.cnts_mem l t h; omega
theorem PT.cnts_get {l : List PT} {i : Nat} (h : i < l.length) : l[i].cnt ≤ PT.cnts l := PT.cnts_mem l _ (List.getElem_mem h)
theorem PT.fats_mem : ∀ (l : List PT) (t : PT), t ∈ l → t.fat ≤ PT.fats l
  | a :: l, t, h => by
    rw [PT.fats]
    rcases List.mem_cons.1 h with rfl | h
    · omega
    · have := PT.fats_mem l t h; omega
theorem PT.fats_get {l : List PT} {i : Nat} (h : i < l.length) : l[i].fat ≤ PT.fats l := PT.fats_mem l _ (List.getElem_mem h)
theorem PT.length_le_cnts : ∀ l : List PT, l.length ≤ PT.cnts l
  | [] => by simp
  | a :: l => by rw [PT.cnts, List.length_cons]; have := PT.length_le_cnts l; have := PT.cnt_pos a; omega
theorem PT.cnts_drop {l : List PT} {i : Nat} (h : i < l.length) : PT.cnts (l.drop i) = l[i].cnt + PT.cnts (l.drop (i + 1)) := by rw [drop_cons h, PT.cnts]
mutual
theorem PT.chk_le : ∀ (t : PT) (p d : Int), p ≤ (t.chk p d).1 ∧ (t.chk p d).1 ≤ p + t.cnt
  | .mk k v n l, p, d => by
    rw [PT.chk, PT.cnt]
    split
    · simp; omega
    · split
      · simp; omega
      · have := PT.chks_le l (p + 1) d; constructor <;> omega
theorem PT.chks_le : ∀ (l : List PT) (p d : Int), p ≤ (PT.chks l p d).1 ∧ (PT.chks l p d).1 ≤ p + PT.cnts l
  | [], p, d => by simp [PT.chks, PT.cnts]
  | t :: ts, p, d => by
    rw [PT.chks, PT.cnts]
    have h1 := PT.chk_le t p (d + 1)
    have h2 := PT.chks_le ts (t.chk p (d + 1)).1 d
    split
    · constructor <;> omega
    · constructor <;> omega
end
theorem PT.chks_drop {l : List PT} {i : Nat} (h : i < l.length) (p d : Int) : PT.chks (l.drop i) p d = if (l[i].chk p (d + 1)).2 ≠ 0 then l[i].chk p (d + 1) else PT.chks (l.drop (i + 1)) (l[i].chk p (d + 1)).1 d := by rw [drop_cons h, PT.chks]

set_option maxRecDepth 100000 in
set_option maxHeartbeats 4000000 in
theorem chk_any (N : Nat) (hN : N ≤ 1000000) : ∀ (t : PT) (x : Value) (p d : Int) (w : World), t.cnt ≤ N → t.fat ≤ 100000 → 0 ≤ p → p ≤ 1000000000 - t.cnt → 0 ≤ d → d ≤ 1000 → PIn w t x →
    Calls Try.prog 62 #[x, .int .i64 p, .int .i64 d] w fun e w' => e = .returned (.tuple #[.int .i64 (t.chk p d).1, .int .i64 (t.chk p d).2]) ∧ Below w.heap.size w w' := by
  induction N with
  | zero => intro t x p d w h; have := PT.cnt_pos t; omega
  | succ N ih =>
    intro t x p d w hs hf hp0 hp1 hd0 hd1 hx
    obtain ⟨k, v, n, l⟩ := t
    obtain ⟨va, vc, a, cap, hlen, hvl, rfl, hv, hr⟩ := hx.open
    have IH := Lib.hid (ih (by omega)); clear ih
    rw [PT.cnt] at hs hp1
    rw [PT.fat] at hf
    have hvs : v.size ≤ 100000 := by omega
    have hfs : PT.fats l ≤ 100000 := by omega
    have hln := PT.length_le_cnts l
    obtain ⟨w0, hw0, m0, s0, q0, q1, q2, q3, q4, q5⟩ := box6 w (.int .u8 k) (.int .u8 v.kind) (.int .i64 v.num) (.slice va v.items.length vc) (.int .i64 n) (.slice a l.length cap) 28
    have hv0 := hv.below m0
    have hr0 := hr.below m0
    clear hx hv hr hf
    by_cases hd : 12 < d
    · have hc : (PT.mk k v n l).chk p d = (p, 9) := by rw [PT.chk, if_pos hd]
      rw [hc]
      clear hc
      go_enter Try.func62, Try.ntmps62
      go_wp2_with fail
      refine bodyPost_ret (v := .tuple #[.int .i64 p, .int .i64 9]) (by simp [results, Try.results62, go_sem]) rfl ⟨rfl, m0⟩
    · go_enter Try.func62, Try.ntmps62
      go_wp2_with fail
      refine (node_any k n v va a vc l.length cap _ hv0 hvs).mono ?_
      rintro e w1 ⟨rfl, hb1⟩
      have HD := Lib.hid hd; clear hd
      obtain ⟨z, hz⟩ : ∃ z, z = PT.node k v n l.length := ⟨_, rfl⟩
      rw [← hz]
      have HZ := Lib.hid hz; clear hz
      by_cases hz0 : z = 0
      · have hc : (PT.mk k v n l).chk p d = PT.chks l (p + 1) d := by rw [PT.chk, if_neg (by have := HD.out; omega), if_neg (by rw [← HZ.out]; simpa using hz0)]
        have HC := Lib.hid hc; clear hc
        subst hz0
        have g5 := cell_stays hb1 q5
        go_wp2_with fail
        go_loopw [1, 8, 25] (fun x y z wr => ∃ (q : Int) (i : Nat), x = .int .i64 q ∧ y = .int .i64 0 ∧ z = .int .i64 i ∧ i ≤ l.length ∧ 0 ≤ q ∧ q ≤ 1000000000 - PT.cnts (l.drop i) ∧ PT.chks l (p + 1) d = PT.chks (l.drop i) q d ∧ Below w0.heap.size w0 wr) (fun _ _ z _ => l.length - (intOf z).toNat)
        case atStart => exact ⟨p + 1, 0, by go_num, rfl, rfl, by omega, by omega, by simp; omega, by simp, hb1⟩
        case round =>
          obtain ⟨q, i, rfl, rfl, rfl, hi, hq0, hq1, hc, hB⟩ := hrel
          have HQ := Lib.hid hc; clear hc
          have f5 := cell_stays hB q5
          by_cases hlt : i < l.length
          · obtain ⟨b, o, rfl, ax, ac, a', cap', d0, d1, d2, d3, d4, d5, hx⟩ := (hr0.below hB).got i hlt
            have hxs := PT.cnts_get hlt
            have hxf := PT.fats_get hlt
            have hcd := PT.cnts_drop hlt
            have hst := PT.chks_drop hlt q d
            have hle := PT.chk_le l[i] q (d + 1)
            have HST := Lib.hid hst; clear hst
            have HXS := Lib.hid hxs; have HXF := Lib.hid hxf; have HCD := Lib.hid hcd
            clear hxs hxf hcd
            go_wp2_with fail
            refine (IH.out l[i] _ q (d + 1) _ (by have := HXS.out; omega) (by have := HXF.out; omega) hq0 (by have := HCD.out; omega) (by omega) (by have := HD.out; omega) (hx.below (Below.al _))).mono ?_
            rintro e w2 ⟨rfl, hb2⟩
            have hB2 := hB.trans (((Below.al _).trans (hb2.mono (by simp))).mono hB.size)
            obtain ⟨r, hr⟩ : ∃ r, r = (l[i].chk q (d + 1)).1 := ⟨_, rfl⟩
            obtain ⟨y, hy⟩ : ∃ y, y = (l[i].chk q (d + 1)).2 := ⟨_, rfl⟩
            rw [← hr, ← hy]
            rw [← hr] at hle
            have HR := Lib.hid hr; have HY := Lib.hid hy
            have hr1 : r ≤ 1000000000 - PT.cnts (l.drop (i + 1)) := by have := HCD.out; omega
            have h5 := cell_stays hB2 q5
            clear hr hy d0 d1 d2 d3 d4 d5 hx hB hb2 f5
            by_cases hy0 : y = 0
            · have hn : PT.chks l (p + 1) d = PT.chks (l.drop (i + 1)) r d := by rw [HQ.out, HST.out, if_neg (by rw [← HY.out]; simpa using hy0), HR.out]
              have HN := Lib.hid hn; clear hn
              subst hy0
              go_wp2_with fail
              go_roundw
              case rel => exact ⟨r, i + 1, rfl, rfl, by go_num, by omega, by omega, hr1, HN.out, hB2⟩
              case measure => simp [intOf]; omega
            · have hn : PT.chks l (p + 1) d = (r, y) := by rw [HQ.out, HST.out, if_pos (by rw [← HY.out]; exact hy0), HR.out, HY.out]
              have HN := Lib.hid hn; clear hn
              have hyb : (y != 0) = true := by simpa using hy0
              clear hy0
              go_wp2_with fail
              refine bodyPost_ret (v := .tuple #[.int .i64 r, .int .i64 y]) (by simp [results, Try.results62, go_sem]) rfl ⟨by rw [HC.out, HN.out], m0.trans (hB2.mono m0.size)⟩
          · have hn : PT.chks l (p + 1) d = (q, 0) := by rw [HQ.out, drop_nil hlt, PT.chks]
            have HN := Lib.hid hn; clear hn
            go_wp2_with fail
            refine bodyPost_ret (v := .tuple #[.int .i64 q, .int .i64 0]) (by simp [results, Try.results62, go_sem]) rfl ⟨by rw [HC.out, HN.out], m0.trans (hB.mono m0.size)⟩
      · have hc : (PT.mk k v n l).chk p d = (p, z) := by rw [PT.chk, if_neg (by have := HD.out; omega), if_pos (by rw [← HZ.out]; exact hz0), HZ.out]
        have HC := Lib.hid hc; clear hc
        have hzb : (z != 0) = true := by simpa using hz0
        clear hz0
        go_wp2_with fail
        refine bodyPost_ret (v := .tuple #[.int .i64 p, .int .i64 z]) (by simp [results, Try.results62, go_sem]) rfl ⟨by rw [HC.out], m0.trans (hb1.mono m0.size)⟩
end Go.Proofs.Yteebbffecaeciaa
/- Nodes, Deep of pred and of the document. -/
namespace Go.Proofs.Yteebbffecaeciaa
open Go.RowKit

theorem PT.nodess_upto {l : List PT} {i : Nat} (h : i < l.length) : PT.nodess (l.take (i + 1)) = PT.nodess (l.take i) + l[i].nodes := by
  induction l generalizing i with
  | nil => simp at h
  | cons a l ih =>
    cases i with
    | zero => simp [PT.nodess]
    | succ i => simp only [List.take_succ_cons, PT.nodess, List.getElem_cons_succ]; rw [ih (by simpa using h)]; omega
theorem PT.nodess_upto_le (l : List PT) (i : Nat) : PT.nodess (l.take i) ≤ PT.nodess l := by
  induction l generalizing i with
  | nil => simp
  | cons a l ih => cases i with
    | zero => simp [PT.nodess]
    | succ i => simp only [List.take_succ_cons, PT.nodess]; have := ih i; omega
theorem PT.deeps_upto {l : List PT} {i : Nat} (h : i < l.length) : PT.deeps (l.take (i + 1)) = max (PT.deeps (l.take i)) l[i].deep := by
  induction l generalizing i with
  | nil => simp at h
  | cons a l ih =>
    cases i with
    | zero => simp [PT.deeps]
    | succ i => simp only [List.take_succ_cons, PT.deeps, List.getElem_cons_succ]; rw [ih (by simpa using h)]; omega
mutual
theorem PT.nodes_le (F : Nat) : ∀ t : PT, t.fat ≤ F → t.nodes ≤ t.cnt * (F + 1)
  | .mk k v n l, h => by
    rw [PT.fat] at h
    rw [PT.nodes, PT.cnt, Nat.add_mul]
    have := PT.nodess_le F l (by omega)
    split <;> omega
theorem PT.nodess_le (F : Nat) : ∀ l : List PT, PT.fats l ≤ F → PT.nodess l ≤ PT.cnts l * (F + 1)
  | [], _ => by simp [PT.nodess]
  | t :: ts, h => by
    rw [PT.fats] at h
    rw [PT.nodess, PT.cnts, Nat.add_mul]
    have h1 := PT.nodes_le F t (by omega)
    have h2 := PT.nodess_le F ts (by omega)
    omega
end
mutual
theorem PT.deep_le : ∀ t : PT, 1 ≤ t.deep ∧ t.deep ≤ t.cnt
  | .mk k v n l => by rw [PT.deep, PT.cnt]; have := PT.deeps_le l; constructor <;> omega
theorem PT.deeps_le : ∀ l : List PT, PT.deeps l ≤ PT.cnts l
  | [] => by simp [PT.deeps]
  | t :: ts => by rw [PT.deeps, PT.cnts]; have h1 := PT.deep_le t; have h2 := PT.deeps_le ts; omega
end
theorem PT.cnts_upto_le (l : List PT) (i : Nat) : PT.cnts (l.take i) ≤ PT.cnts l := by
  induction l generalizing i with
  | nil => simp
  | cons a l ih => cases i with
    | zero => simp [PT.cnts]
    | succ i => simp only [List.take_succ_cons, PT.cnts]; have := ih i; omega

set_option maxRecDepth 100000 in
set_option maxHeartbeats 4000000 in
theorem nodes_any (N : Nat) (hN : N ≤ 1000000) : ∀ (t : PT) (x : Value) (w : World), t.cnt ≤ N → t.fat ≤ 100000 → PIn w t x →
    Calls Try.prog 24 #[x] w fun e w' => e = .returned (.int .i64 t.nodes) ∧ Below w.heap.size w w' := by
  induction N with
  | zero => intro t x w h; have := PT.cnt_pos t; omega
  | succ N ih =>
    intro t x w hs hf hx
    obtain ⟨k, v, n, l⟩ := t
    obtain ⟨va, vc, a, cap, hlen, hvl, rfl, hv, hr⟩ := hx.open
    have IH := Lib.hid (ih (by omega)); clear ih
    rw [PT.cnt] at hs
    rw [PT.fat] at hf
    have hvs : v.size ≤ 100000 := by omega
    have hfs : PT.fats l ≤ 100000 := by omega
    have hln := PT.length_le_cnts l
    have hnl : PT.nodess l ≤ 100001000000 := by have := PT.nodess_le 100000 l hfs; omega
    have HNL := Lib.hid hnl; clear hnl
    obtain ⟨w0, hw0, m0, s0, q0, q1, q2, q3, q4, q5⟩ := box6 w (.int .u8 k) (.int .u8 v.kind) (.int .i64 v.num) (.slice va v.items.length vc) (.int .i64 n) (.slice a l.length cap) 28
    have hv0 := hv.below m0
    have hr0 := hr.below m0
    clear hx hv hr hf
    by_cases hk : k = 3 ∨ k = 4
    · have hc : (PT.mk k v n l).nodes = 1 + v.size + PT.nodess l := by rw [PT.nodes, if_pos hk]
      have hd : decide (k = 3 ∨ k = 4) = true := by simpa using hk
      have HD := Lib.hid hd; clear hd hk
      obtain ⟨vs, hvs'⟩ : ∃ vs, vs = v.size := ⟨_, rfl⟩
      rw [← hvs'] at hc
      have hvb : vs ≤ 100000 := by omega
      have HVS := Lib.hid hvs'; clear hvs'
      have HRES := Lib.hid hc; clear hc
      go_enter Try.func24, Try.ntmps24
      go_wp2_with fail
      refine (hasValue_any k _).mono ?_
      rintro e w' ⟨rfl, rfl⟩
      rw [HD.out]
      go_wp2_with fail
      refine (size_any v _ _ hvs hv0).mono ?_
      rintro e w1 ⟨rfl, hb1⟩
      rw [← HVS.out]
      have g5 := cell_stays hb1 q5
      go_wp2_with fail
      go_loopw [3, 17] (fun x y wr => ∃ (p : Int) (i : Nat), x = .int .i64 p ∧ y = .int .i64 i ∧ i ≤ l.length ∧ p = 1 + (vs : Int) + PT.nodess (l.take i) ∧ Below w0.heap.size w0 wr) (fun _ y _ => l.length - (intOf y).toNat)
      case atStart => exact ⟨_, 0, rfl, rfl, by omega, by simp [PT.nodess], hb1⟩
      case round =>
        obtain ⟨p, i, rfl, rfl, hi, hp, hB⟩ := hrel
        have b0 := PT.nodess_upto_le l i
        have b2 : 1 ≤ p ∧ p ≤ 200000000000 := by have := HNL.out; omega
        have HP := Lib.hid hp; clear hp b0
        have f5 := cell_stays hB q5
        by_cases hlt : i < l.length
        · obtain ⟨b, o, rfl, ax, ac, a', cap', d0, d1, d2, d3, d4, d5, hx⟩ := (hr0.below hB).got i hlt
          have hxs := PT.cnts_get hlt
          have hxf := PT.fats_get hlt
          have hup := PT.nodess_upto hlt
          have HUP := Lib.hid hup; clear hup
          have hnl := PT.nodes_le 100000 l[i] (by omega)
          have hnb : l[i].nodes ≤ 200000000000 := by omega
          clear hnl
          go_wp2_with fail
          refine (IH.out l[i] _ _ (by omega) (by omega) (hx.below (Below.al _))).mono ?_
          rintro e w2 ⟨rfl, hb2⟩
          have hB2 := hB.trans (((Below.al _).trans (hb2.mono (by simp))).mono hB.size)
          obtain ⟨q, hq⟩ : ∃ q : Nat, q = l[i].nodes := ⟨_, rfl⟩
          rw [← hq] at hnb ⊢
          rw [← hq] at HUP
          have h5 := cell_stays hB2 q5
          clear hq hb2 hB f5 d0 d1 d2 d3 d4 d5 hx
          go_wp2_with fail
          go_roundw
          case rel => exact ⟨_, i + 1, rfl, by go_num, by omega, by rw [HUP.out, HP.out]; go_num, hB2⟩
          case measure => simp [intOf]; omega
        · have hii : i = l.length := by omega
          subst hii
          have n4 : decide ((l.length : Int) < (l.length : Int)) = false := by simp
          go_wp2_with fail
          go_ret
          exact ⟨ret_int (by rw [HP.out, List.take_length, HRES.out]; go_num), m0.trans (hB.mono m0.size)⟩
    · have hc : (PT.mk k v n l).nodes = 1 + PT.nodess l := by rw [PT.nodes, if_neg hk]
      have hd : decide (k = 3 ∨ k = 4) = false := by simpa using hk
      have HD := Lib.hid hd; clear hd hk
      have HRES := Lib.hid hc; clear hc
      go_enter Try.func24, Try.ntmps24
      go_wp2_with fail
      refine (hasValue_any k _).mono ?_
      rintro e w' ⟨rfl, rfl⟩
      rw [HD.out]
      go_wp2_with fail
      go_loopw [3, 17] (fun x y wr => ∃ (p : Int) (i : Nat), x = .int .i64 p ∧ y = .int .i64 i ∧ i ≤ l.length ∧ p = 1 + PT.nodess (l.take i) ∧ Below w0.heap.size w0 wr) (fun _ y _ => l.length - (intOf y).toNat)
      case atStart => exact ⟨_, 0, rfl, rfl, by omega, by simp [PT.nodess], Below.refl _ _⟩
      case round =>
        obtain ⟨p, i, rfl, rfl, hi, hp, hB⟩ := hrel
        have b0 := PT.nodess_upto_le l i
        have b2 : 1 ≤ p ∧ p ≤ 200000000000 := by have := HNL.out; omega
        have HP := Lib.hid hp; clear hp b0
        have f5 := cell_stays hB q5
        by_cases hlt : i < l.length
        · obtain ⟨b, o, rfl, ax, ac, a', cap', d0, d1, d2, d3, d4, d5, hx⟩ := (hr0.below hB).got i hlt
          have hxs := PT.cnts_get hlt
          have hxf := PT.fats_get hlt
          have hup := PT.nodess_upto hlt
          have HUP := Lib.hid hup; clear hup
          have hnl := PT.nodes_le 100000 l[i] (by omega)
          have hnb : l[i].nodes ≤ 200000000000 := by omega
          clear hnl
          go_wp2_with fail
          refine (IH.out l[i] _ _ (by omega) (by omega) (hx.below (Below.al _))).mono ?_
          rintro e w2 ⟨rfl, hb2⟩
          have hB2 := hB.trans (((Below.al _).trans (hb2.mono (by simp))).mono hB.size)
          obtain ⟨q, hq⟩ : ∃ q : Nat, q = l[i].nodes := ⟨_, rfl⟩
          rw [← hq] at hnb ⊢
          rw [← hq] at HUP
          have h5 := cell_stays hB2 q5
          clear hq hb2 hB f5 d0 d1 d2 d3 d4 d5 hx
          go_wp2_with fail
          go_roundw
          case rel => exact ⟨_, i + 1, rfl, by go_num, by omega, by rw [HUP.out, HP.out]; go_num, hB2⟩
          case measure => simp [intOf]; omega
        · have hii : i = l.length := by omega
          subst hii
          have n4 : decide ((l.length : Int) < (l.length : Int)) = false := by simp
          go_wp2_with fail
          go_ret
          exact ⟨ret_int (by rw [HP.out, List.take_length, HRES.out]; go_num), m0.trans (hB.mono m0.size)⟩
end Go.Proofs.Yteebbffecaeciaa
/- Plain facts of trees of terms. -/
namespace Go.Proofs.Yteebbffecaeciaa
open Go.RowKit

/-! how many -/
theorem TT.cnt_pos : ∀ t : TT, 1 ≤ t.cnt | .mk _ _ _ _ _ _ _ _ => by rw [TT.cnt]; omega
theorem TT.cnts_mem : ∀ (l : List TT) (t : TT), t ∈ l → t.cnt ≤ TT.cnts l
  | a :: l, t, h => by
    rw [TT.cnts]
    rcases List.mem_cons.1 h with rfl | h
    · omega
    · have := TT.cnts_mem l t h; omega
theorem TT.cnts_get {l : List TT} {i : Nat} (h : i < l.length) : l[i].cnt ≤ TT.cnts l := TT.cnts_mem l _ (List.getElem_mem h)
theorem TT.length_le_cnts : ∀ l : List TT, l.length ≤ TT.cnts l
  | [] => by simp
  | a :: l => by rw [TT.cnts, List.length_cons]; have := TT.length_le_cnts l; have := TT.cnt_pos a; omega
theorem TT.cnts_drop {l : List TT} {i : Nat} (h : i < l.length) : TT.cnts (l.drop i) = l[i].cnt + TT.cnts (l.drop (i + 1)) := by rw [drop_cons h, TT.cnts]
theorem TT.cnts_upto_le (l : List TT) (i : Nat) : TT.cnts (l.take i) ≤ TT.cnts l := by
  induction l generalizing i with
  | nil => simp
  | cons a l ih => cases i with
    | zero => simp [TT.cnts]
    | succ i => simp only [List.take_succ_cons, TT.cnts]; have := ih i; omega
theorem TT.leans_mem : ∀ (l : List TT), TT.leans l = true → ∀ t ∈ l, t.lean = true
  | a :: l, h, t, ht => by
    rw [TT.leans, Bool.and_eq_true] at h
    rcases List.mem_cons.1 ht with rfl | ht
    · exact h.1
    · exact TT.leans_mem l h.2 t ht
theorem TT.leans_get {l : List TT} {i : Nat} (h : TT.leans l = true) (hi : i < l.length) : l[i].lean = true := TT.leans_mem l h _ (List.getElem_mem hi)
theorem TT.lean_parts {t : TT} (h : t.lean = true) : (t.v.size ≤ 100000 ∧ VT.sizes t.vs ≤ 100000 ∧ t.ws.length ≤ 100000 ∧ t.p.cnt ≤ 1000000 ∧ t.p.fat ≤ 100000) ∧ TT.leans t.args = true := by
  obtain ⟨k, v, vs, lo, hi, ws, p, l⟩ := t
  rw [TT.lean] at h
  simp only [Bool.and_eq_true, decide_eq_true_eq] at h
  obtain ⟨⟨⟨⟨⟨h1, h2⟩, h3⟩, h4⟩, h5⟩, h6⟩ := h
  exact ⟨⟨h1, h2, h3, h4, h5⟩, h6⟩

/-! check -/
mutual
theorem TT.chk_le (m : Int) : ∀ (t : TT) (p d : Int) (b : Bool), p ≤ (t.chk m p d b).1 ∧ (t.chk m p d b).1 ≤ p + t.cnt
  | .mk k v vs lo hi ws q l, p, d, b => by
    rw [TT.chk, TT.cnt]
    split
    · simp; omega
    · split
      · simp; omega
      · split
        · simp; omega
        · have := TT.chks_le m k 0 l (p + 1) d b; constructor <;> omega
theorem TT.chks_le (m : Int) (k : Int) (i : Nat) : ∀ (l : List TT) (p d : Int) (b : Bool), p ≤ (TT.chks m k i l p d b).1 ∧ (TT.chks m k i l p d b).1 ≤ p + TT.cnts l
  | [], p, d, b => by simp [TT.chks, TT.cnts]
  | t :: ts, p, d, b => by
    rw [TT.chks, TT.cnts]
    have h1 := TT.chk_le m t p (d + 1) (b || (k == 10 && i == 1))
    have h2 := TT.chks_le m k (i + 1) ts (t.chk m p (d + 1) (b || (k == 10 && i == 1))).1 d b
    split
    · constructor <;> omega
    · constructor <;> omega
end
theorem TT.chks_drop {l : List TT} {i : Nat} (h : i < l.length) (m k p d : Int) (b : Bool) : TT.chks m k i (l.drop i) p d b =
    if (l[i].chk m p (d + 1) (b || (k == 10 && i == 1))).2 ≠ 0 then l[i].chk m p (d + 1) (b || (k == 10 && i == 1)) else TT.chks m k (i + 1) (l.drop (i + 1)) (l[i].chk m p (d + 1) (b || (k == 10 && i == 1))).1 d b := by rw [drop_cons h, TT.chks]
theorem TT.node_len {k : Int} {v : VT} {vs : List VT} {lo hi : Int} {ws : List Int} {p : PT} {l l' : List TT} (h : l.length = l'.length) : TT.node (.mk k v vs lo hi ws p l) = TT.node (.mk k v vs lo hi ws p l') := by
  show TT.node1 k v vs lo hi ws p l.length = TT.node1 k v vs lo hi ws p l'.length
  rw [h]
mutual
/-- check finds nothing just where all is sane, and not too deep. -/
theorem TT.chk_ok (m : Int) : ∀ (t : TT) (p d : Int) (b : Bool), (t.chk m p d b).2 = 0 ↔ t.sane b = true ∧ d + t.deep - 1 ≤ m
  | .mk k v vs lo hi ws q l, p, d, b => by
    rw [TT.chk, TT.sane, TT.deep]
    have h1 := TT.chks_ok m k 0 l (p + 1) d b
    have h2 : (0 : Int) ≤ TT.deeps l := by omega
    by_cases hd : m < d
    · rw [if_pos hd]
      constructor
      · intro h; simp at h
      · intro h; omega
    · rw [if_neg hd]
      by_cases hn : TT.node (.mk k v vs lo hi ws q l) = 0
      · rw [if_neg (by simpa using hn), hn]
        by_cases hs : k = 11 ∧ b = false
        · rw [if_pos hs, hs.1, hs.2]; simp
        · rw [if_neg hs, h1]
          have e : (k != 11 || b) = true := by
            by_cases hk : k = 11
            · cases b
              · exact absurd ⟨hk, rfl⟩ hs
              · simp
            · simp [hk]
          rw [e]
          simp only [beq_self_eq_true, Bool.and_self, Bool.true_and]
          constructor
          · rintro ⟨a, h⟩
            refine ⟨a, ?_⟩
            rcases h with rfl | h
            · simp [TT.deeps]; omega
            · omega
          · rintro ⟨a, h⟩; exact ⟨a, .inr (by omega)⟩
      · rw [if_pos hn]
        simp [hn]
theorem TT.chks_ok (m : Int) (k : Int) (i : Nat) : ∀ (l : List TT) (p d : Int) (b : Bool), (TT.chks m k i l p d b).2 = 0 ↔ TT.sanes b k i l = true ∧ (l = [] ∨ d + TT.deeps l ≤ m)
  | [], p, d, b => by simp [TT.chks, TT.sanes]
  | t :: ts, p, d, b => by
    rw [TT.chks, TT.sanes, TT.deeps]
    have h1 := TT.chk_ok m t p (d + 1) (b || (k == 10 && i == 1))
    have h2 := TT.chks_ok m k (i + 1) ts (t.chk m p (d + 1) (b || (k == 10 && i == 1))).1 d b
    by_cases h0 : (t.chk m p (d + 1) (b || (k == 10 && i == 1))).2 = 0
    · rw [if_neg (by simpa using h0), h2, Bool.and_eq_true]
      have h3 := h1.1 h0
      simp only [reduceCtorEq, false_or, h3.1, true_and]
      constructor
      · rintro ⟨a, h⟩
        refine ⟨a, ?_⟩
        rcases h with rfl | h
        · simp [TT.deeps]; omega
        · omega
      · rintro ⟨a, h⟩; exact ⟨a, .inr (by omega)⟩
    · rw [if_pos h0]
      simp only [h0, false_iff, reduceCtorEq, false_or, Bool.and_eq_true, not_and]
      rintro ⟨a, _⟩ h
      exact h0 (h1.2 ⟨a, by omega⟩)
end

/-! nodes, deep -/
theorem TT.nodess_upto {l : List TT} {i : Nat} (h : i < l.length) : TT.nodess (l.take (i + 1)) = TT.nodess (l.take i) + l[i].nodes := by
  induction l generalizing i with
  | nil => simp at h
  | cons a l ih =>
    cases i with
    | zero => simp [TT.nodess]
    | succ i => simp only [List.take_succ_cons, TT.nodess, List.getElem_cons_succ]; rw [ih (by simpa using h)]; omega
theorem TT.nodess_upto_le (l : List TT) (i : Nat) : TT.nodess (l.take i) ≤ TT.nodess l := by
  induction l generalizing i with
  | nil => simp
  | cons a l ih => cases i with
    | zero => simp [TT.nodess]
    | succ i => simp only [List.take_succ_cons, TT.nodess]; have := ih i; omega
theorem TT.deeps_upto {l : List TT} {i : Nat} (h : i < l.length) : TT.deeps (l.take (i + 1)) = max (TT.deeps (l.take i)) l[i].deep := by
  induction l generalizing i with
  | nil => simp at h
  | cons a l ih =>
    cases i with
    | zero => simp [TT.deeps]
    | succ i => simp only [List.take_succ_cons, TT.deeps, List.getElem_cons_succ]; rw [ih (by simpa using h)]; omega
mutual
theorem TT.nodes_le : ∀ t : TT, t.lean = true → t.nodes ≤ t.cnt * 200001000001
  | .mk k v vs lo hi ws p l, h => by
    have h' := TT.lean_parts h
    obtain ⟨⟨h1, h2, h3, h4, h5⟩, h6⟩ := h'
    simp only [TT.v, TT.vs, TT.ws, TT.p, TT.args] at h1 h2 h3 h4 h5 h6
    have hp := PT.nodes_le 100000 p h5
    have := TT.nodess_le l h6
    rw [TT.nodes, TT.cnt, Nat.add_mul]
    split
    · omega
    · split
      · omega
      · split <;> omega
theorem TT.nodess_le : ∀ l : List TT, TT.leans l = true → TT.nodess l ≤ TT.cnts l * 200001000001
  | [], _ => by simp [TT.nodess]
  | t :: ts, h => by
    rw [TT.leans, Bool.and_eq_true] at h
    rw [TT.nodess, TT.cnts, Nat.add_mul]
    have h1 := TT.nodes_le t h.1
    have h2 := TT.nodess_le ts h.2
    omega
end
mutual
theorem TT.deep_le : ∀ t : TT, 1 ≤ t.deep ∧ t.deep ≤ t.cnt
  | .mk _ _ _ _ _ _ _ l => by rw [TT.deep, TT.cnt]; have := TT.deeps_le l; constructor <;> omega
theorem TT.deeps_le : ∀ l : List TT, TT.deeps l ≤ TT.cnts l
  | [] => by simp [TT.deeps]
  | t :: ts => by rw [TT.deeps, TT.cnts]; have h1 := TT.deep_le t; have h2 := TT.deeps_le ts; omega
end

/-! put -/
theorem TT.puts_length (k : Int) (s : TT) : ∀ (i : Nat) (l : List TT), (TT.puts k i l s).length = l.length
  | _, [] => by simp [TT.puts]
  | i, t :: ts => by simp [TT.puts, TT.puts_length k s (i + 1) ts]
mutual
theorem TT.bulk_put (s : TT) (x : Nat) : ∀ t : TT, (t.put s).bulk x = t.bulk (s.bulk x)
  | .mk k v vs lo hi ws p l => by
    rw [TT.put]
    by_cases h11 : k = 11
    · rw [if_pos h11, TT.bulk, if_neg (by omega), if_pos h11]
    · rw [if_neg h11, TT.bulk, TT.bulk, if_neg h11, if_neg h11]
      by_cases h10 : k = 10
      · rw [if_pos h10, if_pos h10, TT.bulk10_puts s x l k lo.toNat h10]
      · rw [if_neg h10, if_neg h10, TT.bulks_puts s x l k 0 h10]
theorem TT.bulks_puts (s : TT) (x : Nat) : ∀ (l : List TT) (k : Int) (i : Nat), k ≠ 10 → TT.bulks (TT.puts k i l s) x = TT.bulks l (s.bulk x)
  | [], k, i, _ => by simp [TT.puts, TT.bulks]
  | t :: ts, k, i, hk => by rw [TT.puts, if_neg (by omega), TT.bulks, TT.bulks, TT.bulk_put s x t, TT.bulks_puts s x ts k (i + 1) hk]
theorem TT.bulk10_puts (s : TT) (x : Nat) : ∀ (l : List TT) (k : Int) (n : Nat), k = 10 → TT.bulk10 (TT.puts k 0 l s) n x = TT.bulk10 l n (s.bulk x)
  | [], k, n, _ => by simp [TT.puts, TT.bulk10]
  | [a], k, n, hk => by rw [TT.puts, if_neg (by omega), TT.puts, TT.bulk10, TT.bulk10, TT.bulk10s, TT.bulk10s]
  | a :: b :: l, k, n, hk => by rw [TT.puts, if_neg (by omega), TT.puts, if_pos (by omega), TT.bulk10, TT.bulk10, TT.bulk10s, TT.bulk10s, TT.bulk_put s x a]
end
mutual
theorem TT.high_put (s : TT) (x : Nat) : ∀ t : TT, (t.put s).high x = t.high (s.high x)
  | .mk k v vs lo hi ws p l => by
    rw [TT.put]
    by_cases h11 : k = 11
    · rw [if_pos h11, TT.high, if_neg (by omega), if_pos h11]
    · rw [if_neg h11, TT.high, TT.high, if_neg h11, if_neg h11]
      by_cases h10 : k = 10
      · rw [if_pos h10, if_pos h10, TT.high10_puts s x l k lo.toNat h10]
      · rw [if_neg h10, if_neg h10, TT.highs_puts s x l k 0 h10]
theorem TT.highs_puts (s : TT) (x : Nat) : ∀ (l : List TT) (k : Int) (i : Nat), k ≠ 10 → TT.highs (TT.puts k i l s) x = TT.highs l (s.high x)
  | [], k, i, _ => by simp [TT.puts, TT.highs]
  | t :: ts, k, i, hk => by rw [TT.puts, if_neg (by omega), TT.highs, TT.highs, TT.high_put s x t, TT.highs_puts s x ts k (i + 1) hk]
theorem TT.high10_puts (s : TT) (x : Nat) : ∀ (l : List TT) (k : Int) (n : Nat), k = 10 → TT.high10 (TT.puts k 0 l s) n x = TT.high10 l n (s.high x)
  | [], k, n, _ => by simp [TT.puts, TT.high10]
  | [a], k, n, hk => by rw [TT.puts, if_neg (by omega), TT.puts, TT.high10, TT.high10, TT.high10s, TT.high10s]
  | a :: b :: l, k, n, hk => by rw [TT.puts, if_neg (by omega), TT.puts, if_pos (by omega), TT.high10, TT.high10, TT.high10s, TT.high10s, TT.high_put s x a]
end
mutual
theorem TT.sane_put (s : TT) (b : Bool) (hs : s.sane b = true) : ∀ t : TT, t.sane true = true → (t.put s).sane b = true
  | .mk k v vs lo hi ws p l, h => by
    rw [TT.put]
    by_cases h11 : k = 11
    · rw [if_pos h11]; exact hs
    · rw [TT.sane] at h
      simp only [Bool.and_eq_true] at h
      rw [if_neg h11, TT.sane, TT.node_len (TT.puts_length k s 0 l)]
      simp only [Bool.and_eq_true]
      exact ⟨⟨h.1.1, by simp [h11]⟩, TT.sanes_puts s b hs l k 0 h.2⟩
theorem TT.sanes_puts (s : TT) (b : Bool) (hs : s.sane b = true) : ∀ (l : List TT) (k : Int) (i : Nat), TT.sanes true k i l = true → TT.sanes b k i (TT.puts k i l s) = true
  | [], _, _, _ => by rw [TT.puts, TT.sanes]
  | t :: ts, k, i, h => by
    rw [TT.sanes, Bool.and_eq_true, Bool.true_or] at h
    rw [TT.puts, TT.sanes, Bool.and_eq_true]
    refine ⟨?_, TT.sanes_puts s b hs ts k (i + 1) h.2⟩
    by_cases hk : k = 10 ∧ i = 1
    · rw [if_pos hk, hk.1, hk.2]; simpa using h.1
    · rw [if_neg hk]
      have e : (k == 10 && i == 1) = false := by
        rw [Bool.eq_false_iff]; simpa using hk
      rw [e, Bool.or_false]
      exact TT.sane_put s b hs t h.1
end
mutual
theorem TT.lean_put (s : TT) (hs : s.lean = true) : ∀ t : TT, t.lean = true → (t.put s).lean = true
  | .mk k v vs lo hi ws p l, h => by
    rw [TT.put]
    by_cases h11 : k = 11
    · rw [if_pos h11]; exact hs
    · rw [if_neg h11]
      rw [TT.lean] at h ⊢
      rw [Bool.and_eq_true] at h ⊢
      exact ⟨h.1, TT.leans_puts s hs l k 0 h.2⟩
theorem TT.leans_puts (s : TT) (hs : s.lean = true) : ∀ (l : List TT) (k : Int) (i : Nat), TT.leans l = true → TT.leans (TT.puts k i l s) = true
  | [], _, _, _ => by rw [TT.puts, TT.leans]
  | t :: ts, k, i, h => by
    rw [TT.leans, Bool.and_eq_true] at h
    rw [TT.puts, TT.leans, Bool.and_eq_true]
    refine ⟨?_, TT.leans_puts s hs ts k (i + 1) h.2⟩
    split
    · exact h.1
    · exact TT.lean_put s hs t h.1
end
mutual
/-- what no Self belongs out of has its bulk by itself. -/
theorem TT.bulk_closed (x y : Nat) : ∀ t : TT, t.sane false = true → t.bulk x = t.bulk y
  | .mk k v vs lo hi ws p l, h => by
    rw [TT.sane] at h
    simp only [Bool.and_eq_true, Bool.or_false, bne_iff_ne] at h
    rw [TT.bulk, TT.bulk]
    rw [if_neg h.1.2, if_neg h.1.2]
    by_cases h10 : k = 10
    · rw [if_pos h10, if_pos h10, TT.bulk10_closed x y l k lo.toNat h.2]
    · rw [if_neg h10, if_neg h10, TT.bulks_closed x y l k 0 h10 h.2]
theorem TT.bulks_closed (x y : Nat) : ∀ (l : List TT) (k : Int) (i : Nat), k ≠ 10 → TT.sanes false k i l = true → TT.bulks l x = TT.bulks l y
  | [], _, _, _, _ => by rw [TT.bulks, TT.bulks]
  | t :: ts, k, i, hk, h => by
    rw [TT.sanes, Bool.and_eq_true, Bool.false_or, beq_eq_false_iff_ne.2 hk, Bool.false_and] at h
    rw [TT.bulks, TT.bulks, TT.bulk_closed x y t h.1, TT.bulks_closed x y ts k (i + 1) hk h.2]
theorem TT.bulk10_closed (x y : Nat) : ∀ (l : List TT) (k : Int) (n : Nat), TT.sanes false k 0 l = true → TT.bulk10 l n x = TT.bulk10 l n y
  | [], _, _, _ => by rw [TT.bulk10, TT.bulk10]
  | t :: ts, k, n, h => by
    rw [TT.sanes, Bool.and_eq_true] at h
    have h1 : t.sane false = true := by simpa using h.1
    rw [TT.bulk10, TT.bulk10, TT.bulk_closed x y t h1]
end
theorem iter_le {f g : Nat → Nat} (h : ∀ x y, x ≤ y → f x ≤ g y) : ∀ (n x y : Nat), x ≤ y → iter f n x ≤ iter g n y
  | 0, _, _, h0 => h0
  | n + 1, x, y, h0 => h _ _ (iter_le h n x y h0)
theorem iter_pos {f : Nat → Nat} (h : ∀ x, 1 ≤ x → 1 ≤ f x) : ∀ (n x : Nat), 1 ≤ x → 1 ≤ iter f n x
  | 0, _, h0 => h0
  | n + 1, x, h0 => h _ (iter_pos h n x h0)
end Go.Proofs.Yteebbffecaeciaa
/- Deep, Nothing of pred and of the document. -/
namespace Go.Proofs.Yteebbffecaeciaa
open Go.RowKit

set_option maxRecDepth 100000 in
set_option maxHeartbeats 4000000 in
theorem deep_any (N : Nat) (hN : N ≤ 1000000) : ∀ (t : PT) (x : Value) (w : World), t.cnt ≤ N → PIn w t x →
    Calls Try.prog 25 #[x] w fun e w' => e = .returned (.int .i64 t.deep) ∧ Below w.heap.size w w' := by
  induction N with
  | zero => intro t x w h; have := PT.cnt_pos t; omega
  | succ N ih =>
    intro t x w hs hx
    obtain ⟨k, v, n, l⟩ := t
    obtain ⟨va, vc, a, cap, hlen, hvl, rfl, hv, hr⟩ := hx.open
    have IH := Lib.hid (ih (by omega)); clear ih
    rw [PT.cnt] at hs
    have hln := PT.length_le_cnts l
    obtain ⟨w0, hw0, m0, s0, q0, q1, q2, q3, q4, q5⟩ := box6 w (.int .u8 k) (.int .u8 v.kind) (.int .i64 v.num) (.slice va v.items.length vc) (.int .i64 n) (.slice a l.length cap) 28
    have hr0 := hr.below m0
    clear hx hv hr
    go_enter Try.func25, Try.ntmps25
    go_wp2_with fail
    go_loopw [3, 9] (fun x y wr => ∃ (p : Int) (i : Nat), x = .int .i64 p ∧ y = .int .i64 i ∧ i ≤ l.length ∧ p = PT.deeps (l.take i) ∧ Below w0.heap.size w0 wr) (fun _ y _ => l.length - (intOf y).toNat)
    case atStart => exact ⟨0, 0, rfl, rfl, by omega, by simp [PT.deeps], Below.refl _ _⟩
    case round =>
      obtain ⟨p, i, rfl, rfl, hi, hp, hB⟩ := hrel
      have b0 := PT.deeps_le (l.take i)
      have b1 := PT.cnts_upto_le l i
      have b2 : 0 ≤ p ∧ p ≤ 1000000 := by omega
      have HP := Lib.hid hp; clear hp b0 b1
      have f5 := cell_stays hB q5
      by_cases hlt : i < l.length
      · obtain ⟨b, o, rfl, ax, ac, a', cap', d0, d1, d2, d3, d4, d5, hx⟩ := (hr0.below hB).got i hlt
        have hxs := PT.cnts_get hlt
        have hup := PT.deeps_upto hlt
        have HUP := Lib.hid hup; clear hup
        have hdl := PT.deep_le l[i]
        go_wp2_with fail
        refine (IH.out l[i] _ _ (by omega) (hx.below (Below.al _))).mono ?_
        rintro e w2 ⟨rfl, hb2⟩
        have hB2 := hB.trans (((Below.al _).trans (hb2.mono (by simp))).mono hB.size)
        obtain ⟨q, hq⟩ : ∃ q : Nat, q = l[i].deep := ⟨_, rfl⟩
        rw [← hq] at hdl ⊢
        rw [← hq] at HUP
        have hqb : q ≤ 1000000 := by omega
        have h5 := cell_stays hB2 q5
        clear hq hb2 hB f5 d0 d1 d2 d3 d4 d5 hx hdl
        go_wp2_with fail
        all_goals
          go_roundw
          case rel => exact ⟨_, i + 1, rfl, by go_num, by omega, by rw [HUP.out]; have := HP.out; omega, hB2⟩
          case measure => simp [intOf]; omega
      · have hii : i = l.length := by omega
        subst hii
        have n4 : decide ((l.length : Int) < (l.length : Int)) = false := by simp
        go_wp2_with fail
        go_ret
        exact ⟨ret_int (by rw [HP.out, List.take_length, PT.deep]; go_num), m0.trans (hB.mono m0.size)⟩
set_option maxRecDepth 100000 in
set_option maxHeartbeats 4000000 in
theorem nothing_any (t : PT) (x : Value) (w : World) (hx : PIn w t x) :
    Calls Try.prog 26 #[x] w fun e w' => e = .returned (.bool t.nothing) ∧ Below w.heap.size w w' := by
  obtain ⟨k, v, n, l⟩ := t
  obtain ⟨va, vc, a, cap, hlen, hvl, rfl, hv, hr⟩ := hx.open
  obtain ⟨w0, hw0, m0, s0, q0, q1, q2, q3, q4, q5⟩ := box6 w (.int .u8 k) (.int .u8 v.kind) (.int .i64 v.num) (.slice va v.items.length vc) (.int .i64 n) (.slice a l.length cap) 28
  have hc : (PT.mk k v n l).nothing = (k == 0 && v.none && n == 0 && l.length == 0) := rfl
  have HC := Lib.hid hc; clear hc
  by_cases hk : k = 0
  · subst hk
    obtain ⟨z, hz⟩ : ∃ z, z = v.none := ⟨_, rfl⟩
    rw [← hz] at HC
    have HZ := Lib.hid hz; clear hz
    cases z
    · go_enter Try.func26, Try.ntmps26
      go_wp2_with fail
      refine (none_any _ _ _ _ _ _).mono ?_
      rintro e w1 ⟨rfl, hb1⟩
      rw [← PT.none_eq, ← HZ.out]
      go_wp2_with fail
      go_ret
      exact ⟨ret_bool (by rw [HC.out]; simp), m0.trans (hb1.mono m0.size)⟩
    · cases hn : (n == 0)
      all_goals
        go_enter Try.func26, Try.ntmps26
        go_wp2_with fail
        refine (none_any _ _ _ _ _ _).mono ?_
        rintro e w1 ⟨rfl, hb1⟩
        rw [← PT.none_eq, ← HZ.out]
        have g4 := cell_stays hb1 q4
        have g5 := cell_stays hb1 q5
        clear q0 q1 q2 q3 q4 q5
        go_wp2_with fail
        go_ret
        exact ⟨ret_bool (by rw [HC.out, hn, Bool.eq_iff_iff]; simp), m0.trans (hb1.mono m0.size)⟩
  · have hk0 : (k == 0) = false := by simpa using hk
    go_enter Try.func26, Try.ntmps26
    go_wp2_with fail
    go_ret
    exact ⟨ret_bool (by rw [HC.out, hk0]; simp), m0⟩
set_option maxRecDepth 100000 in
set_option maxHeartbeats 4000000 in
theorem pcheck_any (t : PT) (x : Value) (w : World) (hs : t.cnt ≤ 1000000) (hf : t.fat ≤ 100000) (hx : PIn w t x) :
    Calls Try.prog 18 #[x] w fun e w' => e = .returned (.tuple #[.int .i64 t.check.1, .int .i64 t.check.2]) ∧ Below w.heap.size w w' := by
  have hx0 := hx
  obtain ⟨k, v, n, l⟩ := t
  obtain ⟨va, vc, a, cap, hlen, hvl, rfl, hv, hr⟩ := hx.open
  obtain ⟨w0, hw0, m0, s0, q0, q1, q2, q3, q4, q5⟩ := box6 w (.int .u8 k) (.int .u8 v.kind) (.int .i64 v.num) (.slice va v.items.length vc) (.int .i64 n) (.slice a l.length cap) 28
  have hx1 := hx0.below m0
  clear hx hx0 hv hr
  have hc : (PT.mk k v n l).check = if ((PT.mk k v n l).chk 0 1).2 ≠ 0 then (PT.mk k v n l).chk 0 1 else if 512 < (PT.mk k v n l).nodes then (0, 5) else (0, 0) := rfl
  have hnl := PT.nodes_le 100000 (PT.mk k v n l) hf
  obtain ⟨r, hr⟩ : ∃ r, r = (PT.mk k v n l).chk 0 1 := ⟨_, rfl⟩
  obtain ⟨nn, hnn⟩ : ∃ nn, nn = (PT.mk k v n l).nodes := ⟨_, rfl⟩
  rw [← hr, ← hnn] at hc
  rw [← hnn] at hnl
  have hnb : nn ≤ 200000000000 := by omega
  have HC := Lib.hid hc; have HR := Lib.hid hr; have HN := Lib.hid hnn; have HS := Lib.hid hs; have HF := Lib.hid hf
  clear hc hr hnn hnl hs hf
  obtain ⟨r1, r2⟩ := r
  go_enter Try.func18, Try.ntmps18
  go_wp2_with fail
  refine (chk_any 1000000 (by omega) _ _ 0 1 _ HS.out HF.out (by omega) (by have := HS.out; omega) (by omega) (by omega) hx1).mono ?_
  rintro e w1 ⟨rfl, hb1⟩
  rw [← HR.out]
  have g0 := cell_stays hb1 q0
  have g1 := cell_stays hb1 q1
  have g2 := cell_stays hb1 q2
  have g3 := cell_stays hb1 q3
  have g4 := cell_stays hb1 q4
  have g5 := cell_stays hb1 q5
  have hx2 := hx1.below hb1
  clear q0 q1 q2 q3 q4 q5 hx1
  by_cases h0 : r2 = 0
  · subst h0
    go_wp2_with fail
    refine (nodes_any 1000000 (by omega) _ _ _ HS.out HF.out hx2).mono ?_
    rintro e w2 ⟨rfl, hb2⟩
    rw [← HN.out]
    have hB2 := hb1.trans (hb2.mono hb1.size)
    clear hb1 hb2 hx2 g0 g1 g2 g3 g4 g5
    by_cases h5 : 512 < nn
    · go_wp2_with fail
      refine bodyPost_ret (v := .tuple #[.int .i64 0, .int .i64 5]) (by simp [results, Try.results18, go_sem]) rfl ⟨by rw [HC.out, if_neg (by simp), if_pos (by omega)], m0.trans (hB2.mono m0.size)⟩
    · go_wp2_with fail
      refine bodyPost_ret (v := .tuple #[.int .i64 0, .int .i64 0]) (by simp [results, Try.results18, go_sem]) rfl ⟨by rw [HC.out, if_neg (by simp), if_neg (by omega)], m0.trans (hB2.mono m0.size)⟩
  · have hb : (r2 != 0) = true := by simpa using h0
    have H0 := Lib.hid h0; clear h0
    go_wp2_with fail
    refine bodyPost_ret (v := .tuple #[.int .i64 r1, .int .i64 r2]) (by simp [results, Try.results18, go_sem]) rfl ⟨by rw [HC.out, if_pos H0.out], m0.trans (hb1.mono m0.size)⟩
set_option maxRecDepth 100000 in
set_option maxHeartbeats 4000000 in
theorem pmay_any (t : PT) (x : Value) (w : World) (hs : t.cnt ≤ 1000000) (hf : t.fat ≤ 100000) (hx : PIn w t x) :
    Calls Try.prog 63 #[x] w fun e w' => e = .returned (.bool t.may) ∧ Below w.heap.size w w' := by
  have hx0 := hx
  obtain ⟨k, v, n, l⟩ := t
  obtain ⟨va, vc, a, cap, hlen, hvl, rfl, hv, hr⟩ := hx.open
  obtain ⟨w0, hw0, m0, s0, q0, q1, q2, q3, q4, q5⟩ := box6 w (.int .u8 k) (.int .u8 v.kind) (.int .i64 v.num) (.slice va v.items.length vc) (.int .i64 n) (.slice a l.length cap) 28
  have hx1 := hx0.below m0
  clear hx hx0 hv hr
  have HS := Lib.hid hs; have HF := Lib.hid hf; clear hs hf
  go_enter Try.func63, Try.ntmps63
  go_wp2_with fail
  refine (pcheck_any _ _ _ HS.out HF.out hx1).mono ?_
  rintro e w1 ⟨rfl, hb1⟩
  go_wp2_with fail
  go_ret
  exact ⟨ret_bool rfl, m0.trans (hb1.mono m0.size)⟩
end Go.Proofs.Yteebbffecaeciaa
