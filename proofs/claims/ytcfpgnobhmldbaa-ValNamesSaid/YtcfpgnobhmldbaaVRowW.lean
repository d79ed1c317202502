/- The law's row. -/
import Derived.Test.YtcfpgnobhmldbaaVMakeL
import Derived.Test.YtcfpgnobhmldbaaVBox
namespace Go.Proofs.Ytcfpgnobhmldbaa
open Go.RowKit

def rN (n : Int) : VT := .mk 1 n []
def rB (n : Int) : VT := .mk 2 n []
def rT (l : List VT) : VT := .mk 3 0 l
def rL (l : List VT) : VT := .mk 4 0 l
/-- the values of the row. -/
def rowT : List VT := [rN (-1099511627776), rN 3, rN 5, rB 0, rB 1, rT [], rT [rN 1], rT [rN 1, rN 9], rT [rN 1, rT []], rT [rN 2], rL [], rL [rN 9], rL [rL []]]
set_option maxRecDepth 100000 in
set_option maxHeartbeats 4000000 in
theorem row_any (w : World) : Calls Try.prog 10 #[] w fun e w' => ∃ b, e = .returned (.slice (some ⟨b, 0, none⟩) 13 13) ∧ VRow w' rowT (some ⟨b, 0, none⟩) ∧ Below w.heap.size w w' := by
  go_enter Try.func10, Try.ntmps10
  have hB0 : Below w.heap.size w w := Below.refl _ _
  go_wp2_with fail
  refine (lnum_any _ _).mono ?_
  rintro e w1 ⟨rfl, hb1⟩
  have hB1 : Below w.heap.size w w1 := hB0.trans (hb1.mono hB0.size)
  clear hb1 
  go_wp2_with fail
  refine (lnum_any _ _).mono ?_
  rintro e w2 ⟨rfl, hb2⟩
  have hB2 : Below w.heap.size w w2 := hB1.trans (hb2.mono hB1.size)
  clear hb2 
  clear hB1
  go_wp2_with fail
  refine (lnum_any _ _).mono ?_
  rintro e w3 ⟨rfl, hb3⟩
  have hB3 : Below w.heap.size w w3 := hB2.trans (hb3.mono hB2.size)
  clear hb3 
  clear hB2
  go_wp2_with fail
  refine (lpair_any _ _ _ _).mono ?_
  rintro e w4 ⟨rfl, hb4⟩
  have hB4 : Below w.heap.size w w4 := hB3.trans (hb4.mono hB3.size)
  clear hb4 
  clear hB3
  go_wp2_with fail
  refine (lnum_any _ _).mono ?_
  rintro e w5 ⟨rfl, hb5⟩
  have hB5 : Below w.heap.size w w5 := hB4.trans (hb5.mono hB4.size)
  clear hb5 
  clear hB4
  go_wp2_with fail
  refine (lpair_any _ _ _ _).mono ?_
  rintro e w6 ⟨rfl, hb6⟩
  have fA : VRow w6 [rN 1] (some ⟨w5.heap.size, 0, none⟩) := VRow.below hb6 (vrow_cons (v0 := .int .u8 1) (v1 := .int .i64 1) (v2 := .slice none 0 0) (by go_simp) (by go_simp) (by go_simp) (vin_of rfl (by simp) vrow_nil) vrow_nil)
  have hB6 : Below w.heap.size w w6 := hB5.trans (Below.trans (Below.al _) (hb6.mono (by simp)) |>.mono hB5.size)
  clear hb6 
  clear hB5
  go_wp2_with fail
  refine (lnum_any _ _).mono ?_
  rintro e w7 ⟨rfl, hb7⟩
  have fA := VRow.below hb7 fA
  have hB7 : Below w.heap.size w w7 := hB6.trans (hb7.mono hB6.size)
  clear hb7 
  clear hB6
  go_wp2_with fail
  refine (lnum_any _ _).mono ?_
  rintro e w8 ⟨rfl, hb8⟩
  have fA := VRow.below hb8 fA
  have hB8 : Below w.heap.size w w8 := hB7.trans (hb8.mono hB7.size)
  clear hb8 
  clear hB7
  go_wp2_with fail
  refine (lpair_any _ _ _ _).mono ?_
  rintro e w9 ⟨rfl, hb9⟩
  have fB : VRow w9 [rN 1, rN 9] (some ⟨w8.heap.size, 0, none⟩) := VRow.below hb9 (vrow_cons (v0 := .int .u8 1) (v1 := .int .i64 1) (v2 := .slice none 0 0) (by go_simp) (by go_simp) (by go_simp) (vin_of rfl (by simp) vrow_nil) (vrow_cons (v0 := .int .u8 1) (v1 := .int .i64 9) (v2 := .slice none 0 0) (by go_simp) (by go_simp) (by go_simp) (vin_of rfl (by simp) vrow_nil) vrow_nil))
  have fA := VRow.below (Below.trans (Below.al _) (hb9.mono (by simp))) fA
  have hB9 : Below w.heap.size w w9 := hB8.trans (Below.trans (Below.al _) (hb9.mono (by simp)) |>.mono hB8.size)
  clear hb9 
  clear hB8
  go_wp2_with fail
  refine (lnum_any _ _).mono ?_
  rintro e w10 ⟨rfl, hb10⟩
  have fA := VRow.below hb10 fA
  have fB := VRow.below hb10 fB
  have hB10 : Below w.heap.size w w10 := hB9.trans (hb10.mono hB9.size)
  clear hb10 
  clear hB9
  go_wp2_with fail
  refine (lpair_any _ _ _ _).mono ?_
  rintro e w11 ⟨rfl, hb11⟩
  have fA := VRow.below hb11 fA
  have fB := VRow.below hb11 fB
  have hB11 : Below w.heap.size w w11 := hB10.trans (hb11.mono hB10.size)
  clear hb11 
  clear hB10
  go_wp2_with fail
  refine (lpair_any _ _ _ _).mono ?_
  rintro e w12 ⟨rfl, hb12⟩
  have fC : VRow w12 [rN 1, rT []] (some ⟨w11.heap.size, 0, none⟩) := VRow.below hb12 (vrow_cons (v0 := .int .u8 1) (v1 := .int .i64 1) (v2 := .slice none 0 0) (by go_simp) (by go_simp) (by go_simp) (vin_of rfl (by simp) vrow_nil) (vrow_cons (v0 := .int .u8 3) (v1 := .int .i64 0) (v2 := .slice none 0 0) (by go_simp) (by go_simp) (by go_simp) (vin_of rfl (by simp) vrow_nil) vrow_nil))
  have fA := VRow.below (Below.trans (Below.al _) (hb12.mono (by simp))) fA
  have fB := VRow.below (Below.trans (Below.al _) (hb12.mono (by simp))) fB
  have hB12 : Below w.heap.size w w12 := hB11.trans (Below.trans (Below.al _) (hb12.mono (by simp)) |>.mono hB11.size)
  clear hb12 
  clear hB11
  go_wp2_with fail
  refine (lnum_any _ _).mono ?_
  rintro e w13 ⟨rfl, hb13⟩
  have fA := VRow.below hb13 fA
  have fB := VRow.below hb13 fB
  have fC := VRow.below hb13 fC
  have hB13 : Below w.heap.size w w13 := hB12.trans (hb13.mono hB12.size)
  clear hb13 
  clear hB12
  go_wp2_with fail
  refine (lpair_any _ _ _ _).mono ?_
  rintro e w14 ⟨rfl, hb14⟩
  have fD : VRow w14 [rN 2] (some ⟨w13.heap.size, 0, none⟩) := VRow.below hb14 (vrow_cons (v0 := .int .u8 1) (v1 := .int .i64 2) (v2 := .slice none 0 0) (by go_simp) (by go_simp) (by go_simp) (vin_of rfl (by simp) vrow_nil) vrow_nil)
  have fA := VRow.below (Below.trans (Below.al _) (hb14.mono (by simp))) fA
  have fB := VRow.below (Below.trans (Below.al _) (hb14.mono (by simp))) fB
  have fC := VRow.below (Below.trans (Below.al _) (hb14.mono (by simp))) fC
  have hB14 : Below w.heap.size w w14 := hB13.trans (Below.trans (Below.al _) (hb14.mono (by simp)) |>.mono hB13.size)
  clear hb14 
  clear hB13
  go_wp2_with fail
  refine (llist_any _ _ _ _).mono ?_
  rintro e w15 ⟨rfl, hb15⟩
  have fA := VRow.below hb15 fA
  have fB := VRow.below hb15 fB
  have fC := VRow.below hb15 fC
  have fD := VRow.below hb15 fD
  have hB15 : Below w.heap.size w w15 := hB14.trans (hb15.mono hB14.size)
  clear hb15 
  clear hB14
  go_wp2_with fail
  refine (lnum_any _ _).mono ?_
  rintro e w16 ⟨rfl, hb16⟩
  have fA := VRow.below hb16 fA
  have fB := VRow.below hb16 fB
  have fC := VRow.below hb16 fC
  have fD := VRow.below hb16 fD
  have hB16 : Below w.heap.size w w16 := hB15.trans (hb16.mono hB15.size)
  clear hb16 
  clear hB15
  go_wp2_with fail
  refine (llist_any _ _ _ _).mono ?_
  rintro e w17 ⟨rfl, hb17⟩
  have fE : VRow w17 [rN 9] (some ⟨w16.heap.size, 0, none⟩) := VRow.below hb17 (vrow_cons (v0 := .int .u8 1) (v1 := .int .i64 9) (v2 := .slice none 0 0) (by go_simp) (by go_simp) (by go_simp) (vin_of rfl (by simp) vrow_nil) vrow_nil)
  have fA := VRow.below (Below.trans (Below.al _) (hb17.mono (by simp))) fA
  have fB := VRow.below (Below.trans (Below.al _) (hb17.mono (by simp))) fB
  have fC := VRow.below (Below.trans (Below.al _) (hb17.mono (by simp))) fC
  have fD := VRow.below (Below.trans (Below.al _) (hb17.mono (by simp))) fD
  have hB17 : Below w.heap.size w w17 := hB16.trans (Below.trans (Below.al _) (hb17.mono (by simp)) |>.mono hB16.size)
  clear hb17 
  clear hB16
  go_wp2_with fail
  refine (llist_any _ _ _ _).mono ?_
  rintro e w18 ⟨rfl, hb18⟩
  have fA := VRow.below hb18 fA
  have fB := VRow.below hb18 fB
  have fC := VRow.below hb18 fC
  have fD := VRow.below hb18 fD
  have fE := VRow.below hb18 fE
  have hB18 : Below w.heap.size w w18 := hB17.trans (hb18.mono hB17.size)
  clear hb18 
  clear hB17
  go_wp2_with fail
  refine (llist_any _ _ _ _).mono ?_
  rintro e w19 ⟨rfl, hb19⟩
  have fF : VRow w19 [rL []] (some ⟨w18.heap.size, 0, none⟩) := VRow.below hb19 (vrow_cons (v0 := .int .u8 4) (v1 := .int .i64 0) (v2 := .slice none 0 0) (by go_simp) (by go_simp) (by go_simp) (vin_of rfl (by simp) vrow_nil) vrow_nil)
  have fA := VRow.below (Below.trans (Below.al _) (hb19.mono (by simp))) fA
  have fB := VRow.below (Below.trans (Below.al _) (hb19.mono (by simp))) fB
  have fC := VRow.below (Below.trans (Below.al _) (hb19.mono (by simp))) fC
  have fD := VRow.below (Below.trans (Below.al _) (hb19.mono (by simp))) fD
  have fE := VRow.below (Below.trans (Below.al _) (hb19.mono (by simp))) fE
  have hB19 : Below w.heap.size w w19 := hB18.trans (Below.trans (Below.al _) (hb19.mono (by simp)) |>.mono hB18.size)
  clear hb19 
  clear hB18
  go_wp2_with fail
  go_ret
  refine ⟨w19.heap.size, rfl, ?_, hB19.trans (Below.al _ |>.mono hB19.size)⟩
  refine vrow_cons (v0 := .int .u8 1) (v1 := .int .i64 (-1099511627776)) (v2 := .slice none 0 0) (by go_simp) (by go_simp) (by go_simp) (vin_of rfl (by simp) vrow_nil) ?_
  refine vrow_cons (v0 := .int .u8 1) (v1 := .int .i64 (3)) (v2 := .slice none 0 0) (by go_simp) (by go_simp) (by go_simp) (vin_of rfl (by simp) vrow_nil) ?_
  refine vrow_cons (v0 := .int .u8 1) (v1 := .int .i64 (5)) (v2 := .slice none 0 0) (by go_simp) (by go_simp) (by go_simp) (vin_of rfl (by simp) vrow_nil) ?_
  refine vrow_cons (v0 := .int .u8 2) (v1 := .int .i64 (0)) (v2 := .slice none 0 0) (by go_simp) (by go_simp) (by go_simp) (vin_of rfl (by simp) vrow_nil) ?_
  refine vrow_cons (v0 := .int .u8 2) (v1 := .int .i64 (1)) (v2 := .slice none 0 0) (by go_simp) (by go_simp) (by go_simp) (vin_of rfl (by simp) vrow_nil) ?_
  refine vrow_cons (v0 := .int .u8 3) (v1 := .int .i64 (0)) (v2 := .slice none 0 0) (by go_simp) (by go_simp) (by go_simp) (vin_of rfl (by simp) vrow_nil) ?_
  refine vrow_cons (v0 := .int .u8 3) (v1 := .int .i64 (0)) (v2 := .slice (some ⟨w5.heap.size, 0, none⟩) 1 1) (by go_simp) (by go_simp) (by go_simp) (vin_of rfl (by simp) (VRow.below (Below.al _) fA)) ?_
  refine vrow_cons (v0 := .int .u8 3) (v1 := .int .i64 (0)) (v2 := .slice (some ⟨w8.heap.size, 0, none⟩) 2 2) (by go_simp) (by go_simp) (by go_simp) (vin_of rfl (by simp) (VRow.below (Below.al _) fB)) ?_
  refine vrow_cons (v0 := .int .u8 3) (v1 := .int .i64 (0)) (v2 := .slice (some ⟨w11.heap.size, 0, none⟩) 2 2) (by go_simp) (by go_simp) (by go_simp) (vin_of rfl (by simp) (VRow.below (Below.al _) fC)) ?_
  refine vrow_cons (v0 := .int .u8 3) (v1 := .int .i64 (0)) (v2 := .slice (some ⟨w13.heap.size, 0, none⟩) 1 1) (by go_simp) (by go_simp) (by go_simp) (vin_of rfl (by simp) (VRow.below (Below.al _) fD)) ?_
  refine vrow_cons (v0 := .int .u8 4) (v1 := .int .i64 (0)) (v2 := .slice none 0 0) (by go_simp) (by go_simp) (by go_simp) (vin_of rfl (by simp) vrow_nil) ?_
  refine vrow_cons (v0 := .int .u8 4) (v1 := .int .i64 (0)) (v2 := .slice (some ⟨w16.heap.size, 0, none⟩) 1 1) (by go_simp) (by go_simp) (by go_simp) (vin_of rfl (by simp) (VRow.below (Below.al _) fE)) ?_
  refine vrow_cons (v0 := .int .u8 4) (v1 := .int .i64 (0)) (v2 := .slice (some ⟨w18.heap.size, 0, none⟩) 1 1) (by go_simp) (by go_simp) (by go_simp) (vin_of rfl (by simp) (VRow.below (Below.al _) fF)) ?_
  exact vrow_nil
end Go.Proofs.Ytcfpgnobhmldbaa
