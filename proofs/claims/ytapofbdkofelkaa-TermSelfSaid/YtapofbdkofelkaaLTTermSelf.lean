/- TermSelf: the law returns true for all that can be read, and what was handed in reads afterwards as it read before. -/
import Derived.Test.YtapofbdkofelkaaM40
import Derived.Test.YtapofbdkofelkaaM38
/- TermSelf: the law's function, walked. -/
namespace Go.Proofs.Ytapofbdkofelkaa
open Go.RowKit

def tup : Nat → TT
  | 0 => tSelf
  | n + 1 => tOf 5 [tup n]
/-- what the law says of a term with so many Tuples around a Self. -/
def Fine (t : TT) (p e : Int) : Prop := t.cnt ≤ 3000000 ∧ t.lean = true ∧ t.check = (p, e)
def okB (t : TT) (p e : Int) : Bool := decide (t.cnt ≤ 3000000) && t.lean && (t.check == (p, e))
theorem Fine.of {t : TT} {p e : Int} (h : okB t p e = true) : Fine t p e := by
  unfold okB at h
  simp only [Bool.and_eq_true, decide_eq_true_eq, beq_iff_eq] at h
  exact ⟨h.1.1, h.1.2, h.2⟩
def selfB (d m : Nat) : Bool := okB (tup d) d 10 && okB (tSized m (tNum 0) (tup d)) 0 0 && okB (tSized m (tup d) (tNum 0)) (1 + d) 10 && okB (tSized m (tNum 0) (tSized m (tup d) (tNum 1))) 0 0 &&
  okB (tSized m (tNum 0) (tSized m (tNum 1) (tup d))) 0 0 && okB (tOf 5 [tSized m (tNum 0) tSelf, tup d]) (4 + d) 10
theorem selfB_all : ((List.range 8).all fun d => (List.range 3).all fun m => selfB d m) = true := by decide +kernel
theorem self_facts {d : Nat} {m : Int} (hd : d < 8) (h0 : 0 ≤ m) (h2 : m ≤ 2) : Fine (tup d) d 10 ∧ Fine (tSized m (tNum 0) (tup d)) 0 0 ∧ Fine (tSized m (tup d) (tNum 0)) (1 + d) 10 ∧ Fine (tSized m (tNum 0) (tSized m (tup d) (tNum 1))) 0 0 ∧
    Fine (tSized m (tNum 0) (tSized m (tNum 1) (tup d))) 0 0 ∧ Fine (tOf 5 [tSized m (tNum 0) tSelf, tup d]) (4 + d) 10 := by
  have h := selfB_all
  rw [List.all_eq_true] at h
  have h1 := h d (List.mem_range.2 hd)
  rw [List.all_eq_true] at h1
  have h3 := h1 m.toNat (List.mem_range.2 (by omega))
  unfold selfB at h3
  rw [show ((m.toNat : Nat) : Int) = m by omega] at h3
  simp only [Bool.and_eq_true] at h3
  obtain ⟨⟨⟨⟨⟨a, b⟩, c⟩, d'⟩, e⟩, f⟩ := h3
  exact ⟨.of a, .of b, .of c, .of d', .of e, .of f⟩
theorem mof_row (k : Int) {l : List TT} {a : Option Addr} {n cap : Nat} {w : World} (hn : n = l.length) (hl : l.length ≤ 651562446070) (hr : TRow w l a) : Calls Try.prog 27 #[.int .u8 k, .slice a n cap] w (TMade (tOf k l) w) := by
  subst hn; exact mof k l a cap w hl hr
/-- the box of the loop. -/
def BoxS (S : Nat → Prop) (w : World) (B : Nat) (t : TT) : Prop := ∃ A, TCells w B 0 t A ∧ TOkA S w t A
theorem BoxS.box {S : Nat → Prop} {w : World} {B : Nat} {t : TT} (h : BoxS S w B t) : BoxT w B t := by obtain ⟨A, h0, h1⟩ := h; exact ⟨A, h0, h1.ok⟩
theorem BoxS.below {S : Nat → Prop} {w w' : World} {B : Nat} {t : TT} (h : BoxS S w B t) (hb : Below w.heap.size w w') : BoxS S w' B t := by obtain ⟨A, h0, h1⟩ := h; exact ⟨A, h0.below hb, h1.below hb⟩

set_option maxRecDepth 100000 in
set_option maxHeartbeats 8000000 in
theorem termSelf_any (n0 n1 : Int) (w : World) (h00 : 0 ≤ n0) (h01 : n0 ≤ 255) (h10 : 0 ≤ n1) (h11 : n1 ≤ 255) : Calls Try.prog 9 #[.int .u8 n0, .int .u8 n1] w fun e w' => e = .returned (.bool true) ∧ Below w.heap.size w w' := by
  go_enter Try.func9, Try.ntmps9
  go_wp2_with fail
  refine (tawake_any _).mono ?_
  rintro e w0 ⟨rfl, hB⟩
  go_wp2_with fail
  refine (mself _).mono ?_
  rintro e w1 ⟨x1, rfl, ⟨A1, rfl, k1⟩, b1⟩
  replace hB := hB.trans (b1.mono hB.size)
  have hw1 : w.heap.size ≤ w1.heap.size := hB.size
  clear b1
  obtain ⟨S, hS⟩ : ∃ S : Nat → Prop, S = fun q => q = w1.heap.size := ⟨_, rfl⟩
  have k1 : TOkA S w1 tSelf A1 := k1.leaf rfl rfl rfl rfl rfl S
  obtain ⟨m, hm⟩ : ∃ m, m = n1 % 3 := ⟨_, rfl⟩
  have HM : Hid (0 ≤ m ∧ m ≤ 2) := Lib.hid (by omega)
  go_wp2_with (refine wpList_box15 (t := tSelf) (A := A1) (by rfl) (by rfl) (by rfl) (by rfl) (by rfl) (by rfl) (by rfl) (by rfl) ?_)
  intro w2 hc2 b2 s2 R2
  replace hB := hB.trans (b2.mono hB.size)
  have HBX : Hid (BoxS S w2 w1.heap.size tSelf) := Lib.hid ⟨A1, hc2, k1.below b2⟩
  clear hc2 k1 b2
  obtain ⟨d, hd⟩ : ∃ d : Nat, (d : Int) = n0 % 8 := ⟨(n0 % 8).toNat, by omega⟩
  have HD : Hid (d < 8 ∧ (d : Int) < 8 ∧ n0 % 8 = d) := Lib.hid ⟨by omega, by omega, hd.symm⟩
  rw [← hm]
  clear hm hd h10 h11
  go_wp2_with fail
  go_loopw [7] (fun x wr => ∃ i : Nat, x = .int .i64 i ∧ i ≤ d ∧ BoxS S wr w1.heap.size (tup i) ∧ RowAt wr 31 w1.heap.size 15 ∧ w1.heap.size < wr.heap.size ∧ Below w.heap.size w wr) (fun x _ => d - (intOf x).toNat)
  case atStart => exact ⟨0, rfl, by omega, HBX.out, R2, s2, hB⟩
  case round =>
    obtain ⟨i, rfl, hi, hbx, hrw, hlt, hBr⟩ := hrel
    clear hB R2 HBX s2
    have hd0 := HD.out.2.2
    by_cases hid : i < d
    · have hdd : decide ((i : Int) < d) = true := decide_eq_true (by omega)
      have hdn : decide (i < d) = true := decide_eq_true hid
      have hde : decide ((i : Int) < n0 % 8) = true := decide_eq_true (by omega)
      have hdf : (i : Int) < n0 % 8 := by omega
      obtain ⟨A, hc, hk⟩ := hbx
      have HC := Lib.hid hc; have HK := Lib.hid hk; have HRW := Lib.hid hrw
      have HS : Hid (∀ q, S q → q < wr.heap.size) := Lib.hid (fun q hq => by rw [hS] at hq; subst hq; exact hlt)
      have HSS := Lib.hid hS
      clear hc hk hrw hS
      go_wp2_with (first | refine wpList_load15 (by rfl) (by rfl) (by rfl) HC.out ?_ | refine wpList_row1A (S := S) (s := tup i) HS.out (by rfl) (by rfl) (by rfl) HK.out ?_)
      intro w3 hrow hb3
      have HB3 := Lib.hid hb3
      replace HRW := Lib.hid (HRW.out.below hlt hb3)
      have hlt3 : w1.heap.size < w3.heap.size := Nat.lt_of_lt_of_le hlt hb3.size
      replace hBr := hBr.trans (hb3.mono hBr.size)
      clear hb3
      go_wp2_with fail
      refine (lofA S 5 [tup i] _ 1 w3 (by simp) hrow).mono ?_
      rintro e w4 ⟨x4, rfl, ⟨A4, rfl, k4⟩, hb4⟩
      replace HRW := Lib.hid (HRW.out.below hlt3 hb4)
      have hlt4 : w1.heap.size < w4.heap.size := Nat.lt_of_lt_of_le hlt3 hb4.size
      replace hBr := hBr.trans (hb4.mono hBr.size)
      clear hb4 hrow
      go_wp2_with (refine wpList_store15R (t := tOf 5 [tup i]) (A := A4) (by rfl) (by rfl) (by rfl) (by rfl) (by rfl) HRW.out (by decide) ?_)
      intro wE hcE hrE hkE hsE hbE
      have hbx : BoxS S wE w1.heap.size (tup (i + 1)) := ⟨A4, hcE, k4.step (Nat.le_of_eq hsE.symm) fun q _ hq => ⟨hq, hkE q (fun e => hq (by rw [HSS.out]; exact e))⟩⟩
      have HN := Lib.hid (And.intro hbx (And.intro hrE (And.intro (show w1.heap.size < wE.heap.size by omega) (hbE _ _ hw1 hBr))))
      clear hcE hrE hkE hsE hbE hbx k4 hBr HRW
      go_wp2_with fail
      exact ⟨⟨i + 1, by go_num, by omega, HN.out⟩, by simp [intOf]; omega⟩
    · have hdd : decide ((i : Int) < d) = false := decide_eq_false (by omega)
      have hdn : decide (i < d) = false := decide_eq_false hid
      have hde : decide ((i : Int) < n0 % 8) = false := decide_eq_false (by omega)
      have hdf : ¬ (i : Int) < n0 % 8 := by omega
      have hie : i = d := by omega
      rw [hie] at hbx
      clear hie
      obtain ⟨FU, FF, FI, FH, FJ, FO⟩ := self_facts HD.out.1 HM.out.1 HM.out.2
      obtain ⟨U, hU⟩ : ∃ U, U = tup d := ⟨_, rfl⟩
      rw [← hU] at FU FF FI FH FJ FO hbx
      have HX : Hid (BoxT wr w1.heap.size U) := Lib.hid hbx.box
      have HFU := Lib.hid FU; have HFF := Lib.hid FF; have HFI := Lib.hid FI; have HFH := Lib.hid FH; have HFJ := Lib.hid FJ; have HFO := Lib.hid FO
      have hB := hBr
      clear FU FF FI FH FJ FO hU hbx hrw hS hBr
      go_wp2_with (refine wpList_loadB (by rfl) (by rfl) (by rfl) HX.out ?_)
      intro AX hkX
      clear hdd hdn hde hdf hd0
      go_wp2_with fail
      refine (tcheck_any U _ _ HFU.out.1 HFU.out.2.1 ⟨AX, rfl, hkX⟩).mono ?_
      rintro e w9 ⟨rfl, hb9⟩
      rw [HFU.out.2.2]
      replace HX := Lib.hid (HX.out.below hb9); replace hB := hB.trans (hb9.mono hB.size)
      clear hb9 hkX
      obtain ⟨wr, hwr⟩ : ∃ wr, wr = w9 := ⟨w9, rfl⟩
      subst hwr
      have HBV := Lib.hid (fun W (h : Below wr.drew.heap.size wr.drew W) => (Below.refl _ wr).drew.trans h)
      go_wp2_with fail
      try simp only [List.append_eq, List.cons_append, List.nil_append]
      refine wp_region_allR (kindT [(42, .fixed (.int .i64 m)), (43, .term (tNum 0)), (44, .term (U)), (45, .term (tSized m (tNum 0) U)), (46, .fixed (.tuple #[.int .i64 0, .int .i64 0])), (41, .fixed (.tuple #[.int .i64 0, .int .i64 0])), (47, .fixed (.int .i64 0)), (48, .fixed (.int .i64 0)), (10, .fixed (.int .i64 0)), (11, .fixed (.int .i64 0))]) 135 (by kernel_rfl) (by kernel_rfl) (by rfl) (kindT_mono _) ?_ ?_
      · as_aux_lemma =>
        show ∀ o ∈ [_, _, _, _, _, _, _, _, _, _], _
        refine (tfm ?_ (tfm ?_ (tfm ?_ (tfm ?_ (tfm ?_ (tfm ?_ (tfm ?_ (tfm ?_ (tfm ?_ (tfm ?_ tfmnil))))))))))
        · intro r W hc hf hs hd hB
          have hBV := HBV.out W hB
          refine want_n rfl ?_
          have e : r (.tmp 6) = .int .i64 m := hs 6 (of_decide_eq_true (by kernel_rfl))
          exact st_value (v := .int .i64 m) rfl (by decide) (by go_simp) rfl
        · intro r W hc hf hs hd hB
          have hBV := HBV.out W hB
          refine want_n rfl ?_
          
          exact st_call (f := 26) (args := #[.int .i64 0]) rfl (by decide) (by go_simp) (made_term (mnum 0 _))
        · intro r W hc hf hs hd hB
          have hBV := HBV.out W hB
          refine want_n rfl ?_
          have e : r (.tmp 5) = .pointer (some ⟨w1.heap.size, 0, none⟩) := hs 5 (of_decide_eq_true (by kernel_rfl))
          obtain ⟨A, hcl, hok⟩ := BoxT.below HX.out hBV
          exact st_value (v := TT.val (U) A) rfl (by decide) (run_load15 hcl rfl e) ⟨A, rfl, hok⟩
        · intro r W hc hf hs hd hB
          have hBV := HBV.out W hB
          refine want_n rfl ?_
          have h42 : r (.tmp 42) = .int .i64 m := hd 42 (by kernel_rfl)
          have h43 : TIn W (tNum 0) (r (.tmp 43)) := hd 43 (by kernel_rfl)
          have h44 : TIn W (U) (r (.tmp 44)) := hd 44 (by kernel_rfl)
          exact st_call (f := 30) (args := #[.int .i64 m, r (.tmp 43), r (.tmp 44)]) rfl (by decide) (by go_simp) (made_term (lsized_any m _ _ _ _ _ h43 h44))
        · intro r W hc hf hs hd hB
          have hBV := HBV.out W hB
          refine want_n rfl ?_
          have h45 : TIn W (tSized m (tNum 0) U) (r (.tmp 45)) := hd 45 (by kernel_rfl)
          exact st_call (f := 32) (args := #[r (.tmp 45)]) rfl (by decide) (by go_simp) (made_fix (by rw [HFF.out.2.2]) (tcheck_any _ _ _ HFF.out.1 HFF.out.2.1 h45))
        · intro r W hc hf hs hd hB
          have hBV := HBV.out W hB
          refine want_n rfl ?_
          have e : r (.tmp 46) = .tuple #[.int .i64 0, .int .i64 0] := hd 46 (by kernel_rfl)
          exact st_value (v := .tuple #[.int .i64 0, .int .i64 0]) rfl (by decide) (by go_simp) rfl
        · intro r W hc hf hs hd hB
          have hBV := HBV.out W hB
          refine want_n rfl ?_
          have e41 : r (.tmp 41) = .tuple #[.int .i64 0, .int .i64 0] := hd 41 (by kernel_rfl)
          exact st_value (v := .int .i64 0) rfl (by decide) (by go_simp) rfl
        · intro r W hc hf hs hd hB
          have hBV := HBV.out W hB
          refine want_n rfl ?_
          have e41 : r (.tmp 41) = .tuple #[.int .i64 0, .int .i64 0] := hd 41 (by kernel_rfl)
          exact st_value (v := .int .i64 0) rfl (by decide) (by go_simp) rfl
        · intro r W hc hf hs hd hB
          have hBV := HBV.out W hB
          refine want_n rfl ?_
          have e : r (.tmp 47) = .int .i64 0 := hd 47 (by kernel_rfl)
          exact st_value (v := .int .i64 0) rfl (by decide) (by go_simp) rfl
        · intro r W hc hf hs hd hB
          have hBV := HBV.out W hB
          refine want_n rfl ?_
          have e : r (.tmp 48) = .int .i64 0 := hd 48 (by kernel_rfl)
          exact st_value (v := .int .i64 0) rfl (by decide) (by go_simp) rfl
      intro f wn hfd hB'
      have z10 : f 10 = .int .i64 0 := hfd 10 (of_decide_eq_true (by kernel_rfl))
      have z11 : f 11 = .int .i64 0 := hfd 11 (of_decide_eq_true (by kernel_rfl))
      have hB2 := HBV.out wn hB'
      rw [show dstsTo _ _ = [42, 43, 44, 45, 46, 41, 47, 48, 10, 11] from by kernel_rfl]
      simp only [fill, List.setIfInBounds_toArray, List.set_cons_succ, List.set_cons_zero, z10, z11]
      clear hfd z10 z11 hB'
      replace HX := Lib.hid (HX.out.below hB2); replace hB := hB.trans (hB2.mono hB.size)
      clear hB2 HBV
      obtain ⟨wr, hwr⟩ : ∃ wr, wr = wn := ⟨wn, rfl⟩
      subst hwr
      have HBV := Lib.hid (fun W (h : Below wr.drew.heap.size wr.drew W) => (Below.refl _ wr).drew.trans h)
      go_wp2_with fail
      try simp only [List.append_eq, List.cons_append, List.nil_append]
      refine wp_region_allR (kindT [(50, .fixed (.int .i64 m)), (51, .term (U)), (52, .term (tNum 0)), (53, .term (tSized m U (tNum 0))), (54, .fixed (.tuple #[.int .i64 (1 + d), .int .i64 10])), (49, .fixed (.tuple #[.int .i64 (1 + d), .int .i64 10])), (55, .fixed (.int .i64 (1 + d))), (56, .fixed (.int .i64 10)), (12, .fixed (.int .i64 (1 + d))), (13, .fixed (.int .i64 10))]) 135 (by kernel_rfl) (by kernel_rfl) (by rfl) (kindT_mono _) ?_ ?_
      · as_aux_lemma =>
        show ∀ o ∈ [_, _, _, _, _, _, _, _, _, _], _
        refine (tfm ?_ (tfm ?_ (tfm ?_ (tfm ?_ (tfm ?_ (tfm ?_ (tfm ?_ (tfm ?_ (tfm ?_ (tfm ?_ tfmnil))))))))))
        · intro r W hc hf hs hd hB
          have hBV := HBV.out W hB
          refine want_n rfl ?_
          have e : r (.tmp 6) = .int .i64 m := hs 6 (of_decide_eq_true (by kernel_rfl))
          exact st_value (v := .int .i64 m) rfl (by decide) (by go_simp) rfl
        · intro r W hc hf hs hd hB
          have hBV := HBV.out W hB
          refine want_n rfl ?_
          have e : r (.tmp 5) = .pointer (some ⟨w1.heap.size, 0, none⟩) := hs 5 (of_decide_eq_true (by kernel_rfl))
          obtain ⟨A, hcl, hok⟩ := BoxT.below HX.out hBV
          exact st_value (v := TT.val (U) A) rfl (by decide) (run_load15 hcl rfl e) ⟨A, rfl, hok⟩
        · intro r W hc hf hs hd hB
          have hBV := HBV.out W hB
          refine want_n rfl ?_
          
          exact st_call (f := 26) (args := #[.int .i64 0]) rfl (by decide) (by go_simp) (made_term (mnum 0 _))
        · intro r W hc hf hs hd hB
          have hBV := HBV.out W hB
          refine want_n rfl ?_
          have h50 : r (.tmp 50) = .int .i64 m := hd 50 (by kernel_rfl)
          have h51 : TIn W (U) (r (.tmp 51)) := hd 51 (by kernel_rfl)
          have h52 : TIn W (tNum 0) (r (.tmp 52)) := hd 52 (by kernel_rfl)
          exact st_call (f := 30) (args := #[.int .i64 m, r (.tmp 51), r (.tmp 52)]) rfl (by decide) (by go_simp) (made_term (lsized_any m _ _ _ _ _ h51 h52))
        · intro r W hc hf hs hd hB
          have hBV := HBV.out W hB
          refine want_n rfl ?_
          have h53 : TIn W (tSized m U (tNum 0)) (r (.tmp 53)) := hd 53 (by kernel_rfl)
          exact st_call (f := 32) (args := #[r (.tmp 53)]) rfl (by decide) (by go_simp) (made_fix (by rw [HFI.out.2.2]) (tcheck_any _ _ _ HFI.out.1 HFI.out.2.1 h53))
        · intro r W hc hf hs hd hB
          have hBV := HBV.out W hB
          refine want_n rfl ?_
          have e : r (.tmp 54) = .tuple #[.int .i64 (1 + d), .int .i64 10] := hd 54 (by kernel_rfl)
          exact st_value (v := .tuple #[.int .i64 (1 + d), .int .i64 10]) rfl (by decide) (by go_simp) rfl
        · intro r W hc hf hs hd hB
          have hBV := HBV.out W hB
          refine want_n rfl ?_
          have e49 : r (.tmp 49) = .tuple #[.int .i64 (1 + d), .int .i64 10] := hd 49 (by kernel_rfl)
          exact st_value (v := .int .i64 (1 + d)) rfl (by decide) (by go_simp) rfl
        · intro r W hc hf hs hd hB
          have hBV := HBV.out W hB
          refine want_n rfl ?_
          have e49 : r (.tmp 49) = .tuple #[.int .i64 (1 + d), .int .i64 10] := hd 49 (by kernel_rfl)
          exact st_value (v := .int .i64 10) rfl (by decide) (by go_simp) rfl
        · intro r W hc hf hs hd hB
          have hBV := HBV.out W hB
          refine want_n rfl ?_
          have e : r (.tmp 55) = .int .i64 (1 + d) := hd 55 (by kernel_rfl)
          exact st_value (v := .int .i64 (1 + d)) rfl (by decide) (by go_simp) rfl
        · intro r W hc hf hs hd hB
          have hBV := HBV.out W hB
          refine want_n rfl ?_
          have e : r (.tmp 56) = .int .i64 10 := hd 56 (by kernel_rfl)
          exact st_value (v := .int .i64 10) rfl (by decide) (by go_simp) rfl
      intro f wn hfd hB'
      have z12 : f 12 = .int .i64 (1 + d) := hfd 12 (of_decide_eq_true (by kernel_rfl))
      have z13 : f 13 = .int .i64 10 := hfd 13 (of_decide_eq_true (by kernel_rfl))
      have hB2 := HBV.out wn hB'
      rw [show dstsTo _ _ = [50, 51, 52, 53, 54, 49, 55, 56, 12, 13] from by kernel_rfl]
      simp only [fill, List.setIfInBounds_toArray, List.set_cons_succ, List.set_cons_zero, z12, z13]
      clear hfd z12 z13 hB'
      replace HX := Lib.hid (HX.out.below hB2); replace hB := hB.trans (hB2.mono hB.size)
      clear hB2 HBV
      obtain ⟨wr, hwr⟩ : ∃ wr, wr = wn := ⟨wn, rfl⟩
      subst hwr
      have HBV := Lib.hid (fun W (h : Below wr.drew.heap.size wr.drew W) => (Below.refl _ wr).drew.trans h)
      go_wp2_with fail
      try simp only [List.append_eq, List.cons_append, List.nil_append]
      refine wp_region_allR (kindT [(58, .fixed (.int .i64 m)), (59, .term (tNum 0)), (60, .fixed (.int .i64 m)), (61, .term (U)), (62, .term (tNum 1)), (63, .term (tSized m U (tNum 1))), (64, .term (tSized m (tNum 0) (tSized m U (tNum 1)))), (65, .fixed (.tuple #[.int .i64 0, .int .i64 0])), (57, .fixed (.tuple #[.int .i64 0, .int .i64 0])), (66, .fixed (.int .i64 0)), (67, .fixed (.int .i64 0)), (14, .fixed (.int .i64 0)), (15, .fixed (.int .i64 0))]) 135 (by kernel_rfl) (by kernel_rfl) (by rfl) (kindT_mono _) ?_ ?_
      · as_aux_lemma =>
        show ∀ o ∈ [_, _, _, _, _, _, _, _, _, _, _, _, _], _
        refine (tfm ?_ (tfm ?_ (tfm ?_ (tfm ?_ (tfm ?_ (tfm ?_ (tfm ?_ (tfm ?_ (tfm ?_ (tfm ?_ (tfm ?_ (tfm ?_ (tfm ?_ tfmnil)))))))))))))
        · intro r W hc hf hs hd hB
          have hBV := HBV.out W hB
          refine want_n rfl ?_
          have e : r (.tmp 6) = .int .i64 m := hs 6 (of_decide_eq_true (by kernel_rfl))
          exact st_value (v := .int .i64 m) rfl (by decide) (by go_simp) rfl
        · intro r W hc hf hs hd hB
          have hBV := HBV.out W hB
          refine want_n rfl ?_
          
          exact st_call (f := 26) (args := #[.int .i64 0]) rfl (by decide) (by go_simp) (made_term (mnum 0 _))
        · intro r W hc hf hs hd hB
          have hBV := HBV.out W hB
          refine want_n rfl ?_
          have e : r (.tmp 6) = .int .i64 m := hs 6 (of_decide_eq_true (by kernel_rfl))
          exact st_value (v := .int .i64 m) rfl (by decide) (by go_simp) rfl
        · intro r W hc hf hs hd hB
          have hBV := HBV.out W hB
          refine want_n rfl ?_
          have e : r (.tmp 5) = .pointer (some ⟨w1.heap.size, 0, none⟩) := hs 5 (of_decide_eq_true (by kernel_rfl))
          obtain ⟨A, hcl, hok⟩ := BoxT.below HX.out hBV
          exact st_value (v := TT.val (U) A) rfl (by decide) (run_load15 hcl rfl e) ⟨A, rfl, hok⟩
        · intro r W hc hf hs hd hB
          have hBV := HBV.out W hB
          refine want_n rfl ?_
          
          exact st_call (f := 26) (args := #[.int .i64 1]) rfl (by decide) (by go_simp) (made_term (mnum 1 _))
        · intro r W hc hf hs hd hB
          have hBV := HBV.out W hB
          refine want_n rfl ?_
          have h60 : r (.tmp 60) = .int .i64 m := hd 60 (by kernel_rfl)
          have h61 : TIn W (U) (r (.tmp 61)) := hd 61 (by kernel_rfl)
          have h62 : TIn W (tNum 1) (r (.tmp 62)) := hd 62 (by kernel_rfl)
          exact st_call (f := 30) (args := #[.int .i64 m, r (.tmp 61), r (.tmp 62)]) rfl (by decide) (by go_simp) (made_term (lsized_any m _ _ _ _ _ h61 h62))
        · intro r W hc hf hs hd hB
          have hBV := HBV.out W hB
          refine want_n rfl ?_
          have h58 : r (.tmp 58) = .int .i64 m := hd 58 (by kernel_rfl)
          have h59 : TIn W (tNum 0) (r (.tmp 59)) := hd 59 (by kernel_rfl)
          have h63 : TIn W (tSized m U (tNum 1)) (r (.tmp 63)) := hd 63 (by kernel_rfl)
          exact st_call (f := 30) (args := #[.int .i64 m, r (.tmp 59), r (.tmp 63)]) rfl (by decide) (by go_simp) (made_term (lsized_any m _ _ _ _ _ h59 h63))
        · intro r W hc hf hs hd hB
          have hBV := HBV.out W hB
          refine want_n rfl ?_
          have h64 : TIn W (tSized m (tNum 0) (tSized m U (tNum 1))) (r (.tmp 64)) := hd 64 (by kernel_rfl)
          exact st_call (f := 32) (args := #[r (.tmp 64)]) rfl (by decide) (by go_simp) (made_fix (by rw [HFH.out.2.2]) (tcheck_any _ _ _ HFH.out.1 HFH.out.2.1 h64))
        · intro r W hc hf hs hd hB
          have hBV := HBV.out W hB
          refine want_n rfl ?_
          have e : r (.tmp 65) = .tuple #[.int .i64 0, .int .i64 0] := hd 65 (by kernel_rfl)
          exact st_value (v := .tuple #[.int .i64 0, .int .i64 0]) rfl (by decide) (by go_simp) rfl
        · intro r W hc hf hs hd hB
          have hBV := HBV.out W hB
          refine want_n rfl ?_
          have e57 : r (.tmp 57) = .tuple #[.int .i64 0, .int .i64 0] := hd 57 (by kernel_rfl)
          exact st_value (v := .int .i64 0) rfl (by decide) (by go_simp) rfl
        · intro r W hc hf hs hd hB
          have hBV := HBV.out W hB
          refine want_n rfl ?_
          have e57 : r (.tmp 57) = .tuple #[.int .i64 0, .int .i64 0] := hd 57 (by kernel_rfl)
          exact st_value (v := .int .i64 0) rfl (by decide) (by go_simp) rfl
        · intro r W hc hf hs hd hB
          have hBV := HBV.out W hB
          refine want_n rfl ?_
          have e : r (.tmp 66) = .int .i64 0 := hd 66 (by kernel_rfl)
          exact st_value (v := .int .i64 0) rfl (by decide) (by go_simp) rfl
        · intro r W hc hf hs hd hB
          have hBV := HBV.out W hB
          refine want_n rfl ?_
          have e : r (.tmp 67) = .int .i64 0 := hd 67 (by kernel_rfl)
          exact st_value (v := .int .i64 0) rfl (by decide) (by go_simp) rfl
      intro f wn hfd hB'
      have z14 : f 14 = .int .i64 0 := hfd 14 (of_decide_eq_true (by kernel_rfl))
      have z15 : f 15 = .int .i64 0 := hfd 15 (of_decide_eq_true (by kernel_rfl))
      have hB2 := HBV.out wn hB'
      rw [show dstsTo _ _ = [58, 59, 60, 61, 62, 63, 64, 65, 57, 66, 67, 14, 15] from by kernel_rfl]
      simp only [fill, List.setIfInBounds_toArray, List.set_cons_succ, List.set_cons_zero, z14, z15]
      clear hfd z14 z15 hB'
      replace HX := Lib.hid (HX.out.below hB2); replace hB := hB.trans (hB2.mono hB.size)
      clear hB2 HBV
      obtain ⟨wr, hwr⟩ : ∃ wr, wr = wn := ⟨wn, rfl⟩
      subst hwr
      have HBV := Lib.hid (fun W (h : Below wr.drew.heap.size wr.drew W) => (Below.refl _ wr).drew.trans h)
      go_wp2_with fail
      try simp only [List.append_eq, List.cons_append, List.nil_append]
      refine wp_region_allR (kindT [(69, .fixed (.int .i64 m)), (70, .term (tNum 0)), (71, .fixed (.int .i64 m)), (72, .term (tNum 1)), (73, .term (U)), (74, .term (tSized m (tNum 1) U)), (75, .term (tSized m (tNum 0) (tSized m (tNum 1) U))), (76, .fixed (.tuple #[.int .i64 0, .int .i64 0])), (68, .fixed (.tuple #[.int .i64 0, .int .i64 0])), (77, .fixed (.int .i64 0)), (78, .fixed (.int .i64 0)), (16, .fixed (.int .i64 0)), (17, .fixed (.int .i64 0))]) 135 (by kernel_rfl) (by kernel_rfl) (by rfl) (kindT_mono _) ?_ ?_
      · as_aux_lemma =>
        show ∀ o ∈ [_, _, _, _, _, _, _, _, _, _, _, _, _], _
        refine (tfm ?_ (tfm ?_ (tfm ?_ (tfm ?_ (tfm ?_ (tfm ?_ (tfm ?_ (tfm ?_ (tfm ?_ (tfm ?_ (tfm ?_ (tfm ?_ (tfm ?_ tfmnil)))))))))))))
        · intro r W hc hf hs hd hB
          have hBV := HBV.out W hB
          refine want_n rfl ?_
          have e : r (.tmp 6) = .int .i64 m := hs 6 (of_decide_eq_true (by kernel_rfl))
          exact st_value (v := .int .i64 m) rfl (by decide) (by go_simp) rfl
        · intro r W hc hf hs hd hB
          have hBV := HBV.out W hB
          refine want_n rfl ?_
          
          exact st_call (f := 26) (args := #[.int .i64 0]) rfl (by decide) (by go_simp) (made_term (mnum 0 _))
        · intro r W hc hf hs hd hB
          have hBV := HBV.out W hB
          refine want_n rfl ?_
          have e : r (.tmp 6) = .int .i64 m := hs 6 (of_decide_eq_true (by kernel_rfl))
          exact st_value (v := .int .i64 m) rfl (by decide) (by go_simp) rfl
        · intro r W hc hf hs hd hB
          have hBV := HBV.out W hB
          refine want_n rfl ?_
          
          exact st_call (f := 26) (args := #[.int .i64 1]) rfl (by decide) (by go_simp) (made_term (mnum 1 _))
        · intro r W hc hf hs hd hB
          have hBV := HBV.out W hB
          refine want_n rfl ?_
          have e : r (.tmp 5) = .pointer (some ⟨w1.heap.size, 0, none⟩) := hs 5 (of_decide_eq_true (by kernel_rfl))
          obtain ⟨A, hcl, hok⟩ := BoxT.below HX.out hBV
          exact st_value (v := TT.val (U) A) rfl (by decide) (run_load15 hcl rfl e) ⟨A, rfl, hok⟩
        · intro r W hc hf hs hd hB
          have hBV := HBV.out W hB
          refine want_n rfl ?_
          have h71 : r (.tmp 71) = .int .i64 m := hd 71 (by kernel_rfl)
          have h72 : TIn W (tNum 1) (r (.tmp 72)) := hd 72 (by kernel_rfl)
          have h73 : TIn W (U) (r (.tmp 73)) := hd 73 (by kernel_rfl)
          exact st_call (f := 30) (args := #[.int .i64 m, r (.tmp 72), r (.tmp 73)]) rfl (by decide) (by go_simp) (made_term (lsized_any m _ _ _ _ _ h72 h73))
        · intro r W hc hf hs hd hB
          have hBV := HBV.out W hB
          refine want_n rfl ?_
          have h69 : r (.tmp 69) = .int .i64 m := hd 69 (by kernel_rfl)
          have h70 : TIn W (tNum 0) (r (.tmp 70)) := hd 70 (by kernel_rfl)
          have h74 : TIn W (tSized m (tNum 1) U) (r (.tmp 74)) := hd 74 (by kernel_rfl)
          exact st_call (f := 30) (args := #[.int .i64 m, r (.tmp 70), r (.tmp 74)]) rfl (by decide) (by go_simp) (made_term (lsized_any m _ _ _ _ _ h70 h74))
        · intro r W hc hf hs hd hB
          have hBV := HBV.out W hB
          refine want_n rfl ?_
          have h75 : TIn W (tSized m (tNum 0) (tSized m (tNum 1) U)) (r (.tmp 75)) := hd 75 (by kernel_rfl)
          exact st_call (f := 32) (args := #[r (.tmp 75)]) rfl (by decide) (by go_simp) (made_fix (by rw [HFJ.out.2.2]) (tcheck_any _ _ _ HFJ.out.1 HFJ.out.2.1 h75))
        · intro r W hc hf hs hd hB
          have hBV := HBV.out W hB
          refine want_n rfl ?_
          have e : r (.tmp 76) = .tuple #[.int .i64 0, .int .i64 0] := hd 76 (by kernel_rfl)
          exact st_value (v := .tuple #[.int .i64 0, .int .i64 0]) rfl (by decide) (by go_simp) rfl
        · intro r W hc hf hs hd hB
          have hBV := HBV.out W hB
          refine want_n rfl ?_
          have e68 : r (.tmp 68) = .tuple #[.int .i64 0, .int .i64 0] := hd 68 (by kernel_rfl)
          exact st_value (v := .int .i64 0) rfl (by decide) (by go_simp) rfl
        · intro r W hc hf hs hd hB
          have hBV := HBV.out W hB
          refine want_n rfl ?_
          have e68 : r (.tmp 68) = .tuple #[.int .i64 0, .int .i64 0] := hd 68 (by kernel_rfl)
          exact st_value (v := .int .i64 0) rfl (by decide) (by go_simp) rfl
        · intro r W hc hf hs hd hB
          have hBV := HBV.out W hB
          refine want_n rfl ?_
          have e : r (.tmp 77) = .int .i64 0 := hd 77 (by kernel_rfl)
          exact st_value (v := .int .i64 0) rfl (by decide) (by go_simp) rfl
        · intro r W hc hf hs hd hB
          have hBV := HBV.out W hB
          refine want_n rfl ?_
          have e : r (.tmp 78) = .int .i64 0 := hd 78 (by kernel_rfl)
          exact st_value (v := .int .i64 0) rfl (by decide) (by go_simp) rfl
      intro f wn hfd hB'
      have z16 : f 16 = .int .i64 0 := hfd 16 (of_decide_eq_true (by kernel_rfl))
      have z17 : f 17 = .int .i64 0 := hfd 17 (of_decide_eq_true (by kernel_rfl))
      have hB2 := HBV.out wn hB'
      rw [show dstsTo _ _ = [69, 70, 71, 72, 73, 74, 75, 76, 68, 77, 78, 16, 17] from by kernel_rfl]
      simp only [fill, List.setIfInBounds_toArray, List.set_cons_succ, List.set_cons_zero, z16, z17]
      clear hfd z16 z17 hB'
      replace HX := Lib.hid (HX.out.below hB2); replace hB := hB.trans (hB2.mono hB.size)
      clear hB2 HBV
      obtain ⟨wr, hwr⟩ : ∃ wr, wr = wn := ⟨wn, rfl⟩
      subst hwr
      have HBV := Lib.hid (fun W (h : Below wr.drew.heap.size wr.drew W) => (Below.refl _ wr).drew.trans h)
      go_wp2_with fail
      try simp only [List.append_eq, List.cons_append, List.nil_append]
      refine wp_region_allR (kindT [(80, .fixed (.int .i64 m)), (81, .term (tNum 0)), (82, .term (tSelf)), (83, .term (tSized m (tNum 0) tSelf)), (84, .term (U)), (85, .row [tSized m (tNum 0) tSelf, U]), (86, .term (tOf 5 [tSized m (tNum 0) tSelf, U])), (87, .fixed (.tuple #[.int .i64 (4 + d), .int .i64 10])), (79, .fixed (.tuple #[.int .i64 (4 + d), .int .i64 10])), (88, .fixed (.int .i64 (4 + d))), (89, .fixed (.int .i64 10)), (18, .fixed (.int .i64 (4 + d))), (19, .fixed (.int .i64 10))]) 135 (by kernel_rfl) (by kernel_rfl) (by rfl) (kindT_mono _) ?_ ?_
      · as_aux_lemma =>
        show ∀ o ∈ [_, _, _, _, _, _, _, _, _, _, _, _, _], _
        refine (tfm ?_ (tfm ?_ (tfm ?_ (tfm ?_ (tfm ?_ (tfm ?_ (tfm ?_ (tfm ?_ (tfm ?_ (tfm ?_ (tfm ?_ (tfm ?_ (tfm ?_ tfmnil)))))))))))))
        · intro r W hc hf hs hd hB
          have hBV := HBV.out W hB
          refine want_n rfl ?_
          have e : r (.tmp 6) = .int .i64 m := hs 6 (of_decide_eq_true (by kernel_rfl))
          exact st_value (v := .int .i64 m) rfl (by decide) (by go_simp) rfl
        · intro r W hc hf hs hd hB
          have hBV := HBV.out W hB
          refine want_n rfl ?_
          
          exact st_call (f := 26) (args := #[.int .i64 0]) rfl (by decide) (by go_simp) (made_term (mnum 0 _))
        · intro r W hc hf hs hd hB
          have hBV := HBV.out W hB
          refine want_n rfl ?_
          
          exact st_call (f := 29) (args := #[]) rfl (by decide) (by go_simp) (made_term (mself _))
        · intro r W hc hf hs hd hB
          have hBV := HBV.out W hB
          refine want_n rfl ?_
          have h80 : r (.tmp 80) = .int .i64 m := hd 80 (by kernel_rfl)
          have h81 : TIn W (tNum 0) (r (.tmp 81)) := hd 81 (by kernel_rfl)
          have h82 : TIn W (tSelf) (r (.tmp 82)) := hd 82 (by kernel_rfl)
          exact st_call (f := 30) (args := #[.int .i64 m, r (.tmp 81), r (.tmp 82)]) rfl (by decide) (by go_simp) (made_term (lsized_any m _ _ _ _ _ h81 h82))
        · intro r W hc hf hs hd hB
          have hBV := HBV.out W hB
          refine want_n rfl ?_
          have e : r (.tmp 5) = .pointer (some ⟨w1.heap.size, 0, none⟩) := hs 5 (of_decide_eq_true (by kernel_rfl))
          obtain ⟨A, hcl, hok⟩ := BoxT.below HX.out hBV
          exact st_value (v := TT.val (U) A) rfl (by decide) (run_load15 hcl rfl e) ⟨A, rfl, hok⟩
        · intro r W hc hf hs hd hB
          have hBV := HBV.out W hB
          refine want_n rfl ?_
          have h83 : TIn W (tSized m (tNum 0) tSelf) (r (.tmp 83)) := hd 83 (by kernel_rfl)
          obtain ⟨A83, e83, k83⟩ := h83
          have h84 : TIn W (U) (r (.tmp 84)) := hd 84 (by kernel_rfl)
          obtain ⟨A84, e84, k84⟩ := h84
          obtain ⟨w2, hw2, m2, s2, hc2, hc3⟩ := row2_new W (tSized m (tNum 0) tSelf) (U) A83 A84
          exact st_new (v := .slice (some ⟨W.heap.size, 0, none⟩) 2 2) (w' := w2) rfl (by decide) (run_row2 rfl e83 e84 hw2) m2 ⟨_, _, _, rfl, rfl, by simp, trow_cons hc2 (k83.below m2) (trow_cons hc3 (k84.below m2) trow_nil)⟩
        · intro r W hc hf hs hd hB
          have hBV := HBV.out W hB
          refine want_n rfl ?_
          obtain ⟨ah85, nh85, ch85, h85, hnh85, hlh85, hrh85⟩ : TQ.ok (.row [tSized m (tNum 0) tSelf, U]) (r (.tmp 85)) W := hd 85 (by kernel_rfl)
          exact st_call (f := 27) (args := #[.int .u8 5, .slice ah85 nh85 ch85]) rfl (by decide) (by go_simp) (made_term (mof_row 5 hnh85 hlh85 hrh85))
        · intro r W hc hf hs hd hB
          have hBV := HBV.out W hB
          refine want_n rfl ?_
          have h86 : TIn W (tOf 5 [tSized m (tNum 0) tSelf, U]) (r (.tmp 86)) := hd 86 (by kernel_rfl)
          exact st_call (f := 32) (args := #[r (.tmp 86)]) rfl (by decide) (by go_simp) (made_fix (by rw [HFO.out.2.2]) (tcheck_any _ _ _ HFO.out.1 HFO.out.2.1 h86))
        · intro r W hc hf hs hd hB
          have hBV := HBV.out W hB
          refine want_n rfl ?_
          have e : r (.tmp 87) = .tuple #[.int .i64 (4 + d), .int .i64 10] := hd 87 (by kernel_rfl)
          exact st_value (v := .tuple #[.int .i64 (4 + d), .int .i64 10]) rfl (by decide) (by go_simp) rfl
        · intro r W hc hf hs hd hB
          have hBV := HBV.out W hB
          refine want_n rfl ?_
          have e79 : r (.tmp 79) = .tuple #[.int .i64 (4 + d), .int .i64 10] := hd 79 (by kernel_rfl)
          exact st_value (v := .int .i64 (4 + d)) rfl (by decide) (by go_simp) rfl
        · intro r W hc hf hs hd hB
          have hBV := HBV.out W hB
          refine want_n rfl ?_
          have e79 : r (.tmp 79) = .tuple #[.int .i64 (4 + d), .int .i64 10] := hd 79 (by kernel_rfl)
          exact st_value (v := .int .i64 10) rfl (by decide) (by go_simp) rfl
        · intro r W hc hf hs hd hB
          have hBV := HBV.out W hB
          refine want_n rfl ?_
          have e : r (.tmp 88) = .int .i64 (4 + d) := hd 88 (by kernel_rfl)
          exact st_value (v := .int .i64 (4 + d)) rfl (by decide) (by go_simp) rfl
        · intro r W hc hf hs hd hB
          have hBV := HBV.out W hB
          refine want_n rfl ?_
          have e : r (.tmp 89) = .int .i64 10 := hd 89 (by kernel_rfl)
          exact st_value (v := .int .i64 10) rfl (by decide) (by go_simp) rfl
      intro f wn hfd hB'
      have z18 : f 18 = .int .i64 (4 + d) := hfd 18 (of_decide_eq_true (by kernel_rfl))
      have z19 : f 19 = .int .i64 10 := hfd 19 (of_decide_eq_true (by kernel_rfl))
      have hB2 := HBV.out wn hB'
      rw [show dstsTo _ _ = [80, 81, 82, 83, 84, 85, 86, 87, 79, 88, 89, 18, 19] from by kernel_rfl]
      simp only [fill, List.setIfInBounds_toArray, List.set_cons_succ, List.set_cons_zero, z18, z19]
      clear hfd z18 z19 hB'
      replace HX := Lib.hid (HX.out.below hB2); replace hB := hB.trans (hB2.mono hB.size)
      clear hB2 HBV
      obtain ⟨wr, hwr⟩ : ∃ wr, wr = wn := ⟨wn, rfl⟩
      subst hwr
      have hD := HD.out.2.2
      have hDl := HD.out.2.1
      have hd8 : (0 : Int) ≤ d := by omega
      have e1 : wrap64 (1 + n0 % 8) = 1 + (d : Int) := by rw [hD]; unfold wrap64; omega
      have e4 : wrap64 (4 + n0 % 8) = 4 + (d : Int) := by rw [hD]; unfold wrap64; omega
      go_wp2_with fail
      go_ret
      exact ⟨rfl, hB⟩
end Go.Proofs.Ytapofbdkofelkaa
/- TermSelf: the law returns true for all that can be read, and what was handed in reads afterwards as it read before. -/
namespace Go.Proofs.Ytapofbdkofelkaa
open Go.ChangeShapes Go.WideShapes Go.ChangeAt Go.RowKit

set_option maxRecDepth 100000 in
theorem termSelf_lifted (os : Os) (started : os.Started) (H : Type) (enc : TypeId × Value → H) :
    ReturnsInHanded {} Try.checked os 9 .any (Rows.termSelfSpec.pre6 enc Try.prog Try.f9 Rows.termSelfRow.domain false) (Rows.termSelfSpec.post enc Try.prog Try.f9 false true false false) := by
  refine returnsInHanded_of_change_sized (C := Try.checked) Try.own started (by kernel_rfl) Try.func9
    (ChangeSpec.witness6 (enc := enc) (C := Try.checked) false ⟨#[], #[.int .u8 0, .int .u8 0], []⟩ 8 (by kernel_rfl) (by kernel_rfl) (by kernel_rfl) (by kernel_rfl)) ?_
  intro W base args ds gs before hval0 hW hcnd hsz hass
  have hval : ∀ (j : Nat) t v, Try.f9.params[j]? = some t → args[j]? = some v → Value.okWide Try.prog W .any base t v := hval0
  have hW' := hW
  obtain ⟨p, q, hA0, hV, rfl, hfz, hnd⟩ := hW
  have hA : DataW.TrodAll enc Try.prog W 0 (fun _ => true) true Try.f9.params.toList args.toList ds p := hA0
  rw [Try.params9] at hA hval
  obtain ⟨v0, v1, d0, d1, p0, p1, rfl, rfl, rfl, h0, h1⟩ := trodAll_two hA
  obtain ⟨rfl, rfl⟩ := trodVars_none hV
  have hsz' : (DataW.weightsEach Try.prog [5, 5] ([d0, d1] ++ [])).all (· ≤ reachBytes) = true := hsz
  simp only [List.append_nil, DataW.weightsEach, List.all_append, Bool.and_eq_true] at hsz'
  obtain ⟨a0, rfl, la0, ua0⟩ := open_u8 (hval 0 5 v0 rfl rfl)
  obtain ⟨a1, rfl, la1, ua1⟩ := open_u8 (hval 1 5 v1 rfl rfl)
  refine (termSelf_any a0 a1 W la0 ua0 la1 ua1).mono fun e W' ⟨he, hbw⟩ => ?_
  subst he
  exact ⟨_, rfl, law_post rfl rfl (by rw [Try.params9]; intro t ht; simp at ht; subst ht <;> exact ⟨by kernel_rfl, of_decide_eq_true (by kernel_rfl)⟩) hW' ⟨rfl, rfl, rfl⟩ hbw⟩

theorem termSelf_holds : Rows.TermSelfSaid :=
  OpenClaim.holds_of_wide 9 Try.f9 rfl rfl rfl rfl rfl rfl rfl ⟨rfl, rfl, rfl, rfl, rfl⟩ rfl rfl rfl rfl rfl (by kernel_rfl) Try.func9 (by kernel_rfl)
    (of_decide_eq_true (by kernel_rfl)) (by unfold Func.isWrapper; first | (rw [if_pos (by decide +kernel)]; kernel_rfl) | (rw [if_neg (by decide +kernel)]; exact ⟨rfl, rfl⟩))
    (fun os started H enc _ => termSelf_lifted os started H enc)
end Go.Proofs.Ytapofbdkofelkaa
