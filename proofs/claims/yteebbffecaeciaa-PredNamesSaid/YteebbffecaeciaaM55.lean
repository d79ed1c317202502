/- Texts of this claim laid into one: PAwake, PNot. -/
import Derived.Test.YteebbffecaeciaaM13
import Derived.Test.YteebbffecaeciaaM51
import Derived.Deep.RegionHeld3
/- The law's awake, of predicates. -/
namespace Go.Proofs.Yteebbffecaeciaa
open Go.RowKit

def tLess : PT := .mk 4 (.mk 1 3 []) 0 []
def tEq : PT := .mk 3 (.mk 1 5 []) 0 []
def tAt : PT := .mk 8 vNone 1 [tEq]
def tAll : PT := .mk 9 vNone 0 [tLess]
def tNot : PT := .mk 5 vNone 0 []
def tLen : PT := .mk 11 vNone 0 [.mk 3 (.mk 1 2 []) 0 []]
theorem pin_not (w : World) : PIn w tNot (.agg #[.int .u8 5, .int .u8 0, .int .i64 0, .slice none 0 0, .int .i64 0, .slice none 0 0]) :=
  PIn.shut (by simp) (VIn.leaf 0 0) prow_nil
theorem hold1 : PT.hold tLess (.mk 1 2 []) = true := by kernel_rfl
theorem hold2 : PT.hold tLess (.mk 1 3 []) = false := by kernel_rfl
theorem hold4 : PT.hold tAt (.mk 3 0 [.mk 1 4 [], .mk 1 5 []]) = true := by kernel_rfl
theorem hold5 : PT.hold tAt (.mk 3 0 [.mk 1 5 []]) = false := by kernel_rfl
theorem hold6 : PT.hold tAt (.mk 1 5 []) = false := by kernel_rfl
theorem hold7 : PT.hold tAll (.mk 3 0 []) = true := by kernel_rfl
theorem hold8 : PT.hold tAll (.mk 4 0 [.mk 1 0 [], .mk 1 2 []]) = true := by kernel_rfl
theorem hold9 : PT.hold tAll (.mk 1 1 []) = false := by kernel_rfl
theorem hold10 : PT.hold tLen (.mk 4 0 [.mk 1 7 [], .mk 1 7 []]) = true := by kernel_rfl
theorem nodes3 : (tAt.nodes : Int) = 3 := by kernel_rfl
theorem tuple_len {l : List VT} {a : Option Addr} {n cap : Nat} {w : World} (hr : VRow w l a) (hn : l.length = n) (hl : l.length ≤ 3518437208780) : Calls Try.prog 57 #[.slice a n cap] w (MadeOf (.mk 3 0 l) w) := by
  subst hn; exact tuple_any l a cap w hl hr
theorem list_len {l : List VT} {a : Option Addr} {n cap : Nat} {w : World} (hr : VRow w l a) (hn : l.length = n) (hl : l.length ≤ 3518437208780) : Calls Try.prog 58 #[.slice a n cap] w (MadeOf (.mk 4 0 l) w) := by
  subst hn; exact list_any l a cap w hl hr
theorem pholds_g {t : PT} {X : VT} {x y : Value} {w : World} (hx : PIn w t x) (hs : t.cnt ≤ 1000000) (hf : t.fat ≤ 100000) (hy : VIn w X y) :
    Calls Try.prog 23 #[x, y] w fun e w' => e = .returned (.bool (t.hold X)) ∧ Below w.heap.size w w' := pholds_any t X x y w hs hf hx hy
set_option maxRecDepth 100000 in
set_option maxHeartbeats 8000000 in
theorem pawake_any (w : World) : Calls Try.prog 10 #[] w fun e w' => e = .returned (.bool true) ∧ Below w.heap.size w w' := by
  go_enter Try.func10, Try.ntmps10
  have HB0 : Below w.heap.size w w := Below.refl _ _
  go_wp2_with fail
  refine (num_any 3 _).mono ?_
  rintro e u1 ⟨rfl, hb⟩
  have HB1 : Below w.heap.size w u1 := HB0.trans (hb.mono HB0.size)
  clear hb
  go_wp2_with fail
  refine (pless_any (.mk 1 3 []) _ _ (VIn.leaf 1 3)).mono ?_
  rintro e u2 ⟨x1, rfl, hf, hb⟩
  have HB2 : Below w.heap.size w u2 := HB1.trans (hb.mono HB1.size)
  clear HB1
  clear hb
  have P1 : PIn u2 tLess x1 := hf.pin
  obtain ⟨va1, vc1, a1, cap1, -, -, rfl, -, -⟩ := hf.open
  simp only [VT.kind, VT.num, VT.items, List.length_nil] at P1 ⊢
  clear hf
  obtain ⟨u3, hw3, m, -, l0, l1, l2, l3, l4, l5⟩ := box6 u2 (.int .u8 4) (.int .u8 1) (.int .i64 3) (.slice va1 0 vc1) (.int .i64 0) (.slice a1 0 cap1) 28
  replace P1 := PIn.below m P1
  have HB3 : Below w.heap.size w u3 := HB2.trans (m.mono HB2.size)
  clear HB2
  clear m
  go_wp2_with fail
  refine (num_any 5 _).mono ?_
  rintro e u4 ⟨rfl, hb⟩
  replace l0 := cell_stays hb l0
  replace l1 := cell_stays hb l1
  replace l2 := cell_stays hb l2
  replace l3 := cell_stays hb l3
  replace l4 := cell_stays hb l4
  replace l5 := cell_stays hb l5
  replace P1 := PIn.below hb P1
  have HB4 : Below w.heap.size w u4 := HB3.trans (hb.mono HB3.size)
  clear HB3
  clear hb
  go_wp2_with fail
  refine (peq_any (.mk 1 5 []) _ _ (VIn.leaf 1 5)).mono ?_
  rintro e u5 ⟨x2, rfl, hf, hb⟩
  replace l0 := cell_stays hb l0
  replace l1 := cell_stays hb l1
  replace l2 := cell_stays hb l2
  replace l3 := cell_stays hb l3
  replace l4 := cell_stays hb l4
  replace l5 := cell_stays hb l5
  replace P1 := PIn.below hb P1
  have HB5 : Below w.heap.size w u5 := HB4.trans (hb.mono HB4.size)
  clear HB4
  clear hb
  have P2 : PIn u5 tEq x2 := hf.pin
  clear hf
  go_wp2_with fail
  refine (pat_any 1 _ _ _ P2).mono ?_
  rintro e u6 ⟨x3, rfl, hf, hb⟩
  replace l0 := cell_stays hb l0
  replace l1 := cell_stays hb l1
  replace l2 := cell_stays hb l2
  replace l3 := cell_stays hb l3
  replace l4 := cell_stays hb l4
  replace l5 := cell_stays hb l5
  replace P1 := PIn.below hb P1
  replace P2 := PIn.below hb P2
  have HB6 : Below w.heap.size w u6 := HB5.trans (hb.mono HB5.size)
  clear HB5
  clear hb
  clear P2
  have P3 : PIn u6 tAt x3 := hf.pin
  obtain ⟨va3, vc3, a3, cap3, -, -, rfl, -, -⟩ := hf.open
  simp only [vNone, VT.kind, VT.num, VT.items, List.length_nil, List.length_singleton] at P3 ⊢
  clear hf
  obtain ⟨u7, hw7, m, -, s0, s1, s2, s3, s4, s5⟩ := box6 u6 (.int .u8 8) (.int .u8 0) (.int .i64 0) (.slice va3 0 vc3) (.int .i64 1) (.slice a3 1 cap3) 28
  replace l0 := cell_stays m l0
  replace l1 := cell_stays m l1
  replace l2 := cell_stays m l2
  replace l3 := cell_stays m l3
  replace l4 := cell_stays m l4
  replace l5 := cell_stays m l5
  replace P1 := PIn.below m P1
  replace P3 := PIn.below m P3
  have HB7 : Below w.heap.size w u7 := HB6.trans (m.mono HB6.size)
  clear HB6
  clear m
  go_wp2_with fail
  refine (pall_any _ _ _ P1).mono ?_
  rintro e u8 ⟨x4, rfl, hf, hb⟩
  replace l0 := cell_stays hb l0
  replace l1 := cell_stays hb l1
  replace l2 := cell_stays hb l2
  replace l3 := cell_stays hb l3
  replace l4 := cell_stays hb l4
  replace l5 := cell_stays hb l5
  replace s0 := cell_stays hb s0
  replace s1 := cell_stays hb s1
  replace s2 := cell_stays hb s2
  replace s3 := cell_stays hb s3
  replace s4 := cell_stays hb s4
  replace s5 := cell_stays hb s5
  replace P1 := PIn.below hb P1
  replace P3 := PIn.below hb P3
  have HB8 : Below w.heap.size w u8 := HB7.trans (hb.mono HB7.size)
  clear HB7
  clear hb
  have P4 : PIn u8 tAll x4 := hf.pin
  obtain ⟨va4, vc4, a4, cap4, -, -, rfl, -, -⟩ := hf.open
  simp only [vNone, VT.kind, VT.num, VT.items, List.length_nil, List.length_singleton] at P4 ⊢
  clear hf
  obtain ⟨u9, hw9, m, -, t0, t1, t2, t3, t4, t5⟩ := box6 u8 (.int .u8 9) (.int .u8 0) (.int .i64 0) (.slice va4 0 vc4) (.int .i64 0) (.slice a4 1 cap4) 28
  replace l0 := cell_stays m l0
  replace l1 := cell_stays m l1
  replace l2 := cell_stays m l2
  replace l3 := cell_stays m l3
  replace l4 := cell_stays m l4
  replace l5 := cell_stays m l5
  replace s0 := cell_stays m s0
  replace s1 := cell_stays m s1
  replace s2 := cell_stays m s2
  replace s3 := cell_stays m s3
  replace s4 := cell_stays m s4
  replace s5 := cell_stays m s5
  replace P1 := PIn.below m P1
  replace P3 := PIn.below m P3
  replace P4 := PIn.below m P4
  have HB9 : Below w.heap.size w u9 := HB8.trans (m.mono HB8.size)
  clear HB8
  clear m
  go_wp2_with fail
  refine (pcheck_any tNot _ _ (by decide) (by decide) (pin_not _)).mono ?_
  rintro e u10 ⟨rfl, hb⟩
  replace l0 := cell_stays hb l0
  replace l1 := cell_stays hb l1
  replace l2 := cell_stays hb l2
  replace l3 := cell_stays hb l3
  replace l4 := cell_stays hb l4
  replace l5 := cell_stays hb l5
  replace s0 := cell_stays hb s0
  replace s1 := cell_stays hb s1
  replace s2 := cell_stays hb s2
  replace s3 := cell_stays hb s3
  replace s4 := cell_stays hb s4
  replace s5 := cell_stays hb s5
  replace t0 := cell_stays hb t0
  replace t1 := cell_stays hb t1
  replace t2 := cell_stays hb t2
  replace t3 := cell_stays hb t3
  replace t4 := cell_stays hb t4
  replace t5 := cell_stays hb t5
  replace P1 := PIn.below hb P1
  replace P3 := PIn.below hb P3
  replace P4 := PIn.below hb P4
  have HB10 : Below w.heap.size w u10 := HB9.trans (hb.mono HB9.size)
  clear HB9
  clear hb
  rw [show (tNot.check.1 : Int) = 0 from by kernel_rfl, show (tNot.check.2 : Int) = 4 from by kernel_rfl]
  go_wp2_with fail
  refine (pcheck_any tLess _ _ (by decide) (by decide) P1).mono ?_
  rintro e u11 ⟨rfl, hb⟩
  replace l0 := cell_stays hb l0
  replace l1 := cell_stays hb l1
  replace l2 := cell_stays hb l2
  replace l3 := cell_stays hb l3
  replace l4 := cell_stays hb l4
  replace l5 := cell_stays hb l5
  replace s0 := cell_stays hb s0
  replace s1 := cell_stays hb s1
  replace s2 := cell_stays hb s2
  replace s3 := cell_stays hb s3
  replace s4 := cell_stays hb s4
  replace s5 := cell_stays hb s5
  replace t0 := cell_stays hb t0
  replace t1 := cell_stays hb t1
  replace t2 := cell_stays hb t2
  replace t3 := cell_stays hb t3
  replace t4 := cell_stays hb t4
  replace t5 := cell_stays hb t5
  replace P1 := PIn.below hb P1
  replace P3 := PIn.below hb P3
  replace P4 := PIn.below hb P4
  have HB11 : Below w.heap.size w u11 := HB10.trans (hb.mono HB10.size)
  clear HB10
  clear hb
  rw [show (tLess.check.1 : Int) = 0 from by kernel_rfl, show (tLess.check.2 : Int) = 0 from by kernel_rfl]
  go_wp2_with fail
  have HBase : Below u11.heap.size u11 u11.drew := (Below.refl _ _).drew
  clear hw3 hw7 hw9
  simp only [List.append_eq, List.cons_append, List.nil_append]
  go_region_held3 (fun W => W.cell? ⟨u2.heap.size, 0, none⟩ = some (.int .u8 4) ∧ W.cell? ⟨u2.heap.size, 1, none⟩ = some (.int .u8 1) ∧ W.cell? ⟨u2.heap.size, 2, none⟩ = some (.int .i64 3) ∧ W.cell? ⟨u2.heap.size, 3, none⟩ = some (.slice va1 0 vc1) ∧ W.cell? ⟨u2.heap.size, 4, none⟩ = some (.int .i64 0) ∧ W.cell? ⟨u2.heap.size, 5, none⟩ = some (.slice a1 0 cap1) ∧ W.cell? ⟨u6.heap.size, 0, none⟩ = some (.int .u8 8) ∧ W.cell? ⟨u6.heap.size, 1, none⟩ = some (.int .u8 0) ∧ W.cell? ⟨u6.heap.size, 2, none⟩ = some (.int .i64 0) ∧ W.cell? ⟨u6.heap.size, 3, none⟩ = some (.slice va3 0 vc3) ∧ W.cell? ⟨u6.heap.size, 4, none⟩ = some (.int .i64 1) ∧ W.cell? ⟨u6.heap.size, 5, none⟩ = some (.slice a3 1 cap3) ∧ W.cell? ⟨u8.heap.size, 0, none⟩ = some (.int .u8 9) ∧ W.cell? ⟨u8.heap.size, 1, none⟩ = some (.int .u8 0) ∧ W.cell? ⟨u8.heap.size, 2, none⟩ = some (.int .i64 0) ∧ W.cell? ⟨u8.heap.size, 3, none⟩ = some (.slice va4 0 vc4) ∧ W.cell? ⟨u8.heap.size, 4, none⟩ = some (.int .i64 0) ∧ W.cell? ⟨u8.heap.size, 5, none⟩ = some (.slice a4 1 cap4)) (first | exact ⟨cell_stays HBase l0, cell_stays HBase l1, cell_stays HBase l2, cell_stays HBase l3, cell_stays HBase l4, cell_stays HBase l5, cell_stays HBase s0, cell_stays HBase s1, cell_stays HBase s2, cell_stays HBase s3, cell_stays HBase s4, cell_stays HBase s5, cell_stays HBase t0, cell_stays HBase t1, cell_stays HBase t2, cell_stays HBase t3, cell_stays HBase t4, cell_stays HBase t5⟩ | exact ⟨cell_stays (HBase.trans ((Below.al _).mono HBase.size)) l0, cell_stays (HBase.trans ((Below.al _).mono HBase.size)) l1, cell_stays (HBase.trans ((Below.al _).mono HBase.size)) l2, cell_stays (HBase.trans ((Below.al _).mono HBase.size)) l3, cell_stays (HBase.trans ((Below.al _).mono HBase.size)) l4, cell_stays (HBase.trans ((Below.al _).mono HBase.size)) l5, cell_stays (HBase.trans ((Below.al _).mono HBase.size)) s0, cell_stays (HBase.trans ((Below.al _).mono HBase.size)) s1, cell_stays (HBase.trans ((Below.al _).mono HBase.size)) s2, cell_stays (HBase.trans ((Below.al _).mono HBase.size)) s3, cell_stays (HBase.trans ((Below.al _).mono HBase.size)) s4, cell_stays (HBase.trans ((Below.al _).mono HBase.size)) s5, cell_stays (HBase.trans ((Below.al _).mono HBase.size)) t0, cell_stays (HBase.trans ((Below.al _).mono HBase.size)) t1, cell_stays (HBase.trans ((Below.al _).mono HBase.size)) t2, cell_stays (HBase.trans ((Below.al _).mono HBase.size)) t3, cell_stays (HBase.trans ((Below.al _).mono HBase.size)) t4, cell_stays (HBase.trans ((Below.al _).mono HBase.size)) t5⟩) (first | (go_at_call 55; refine (num_any _ _).mono ?_; rintro e W ⟨rfl, hb⟩; replace HBase := HBase.trans (hb.mono HBase.size); (try (replace HBl := HBl.trans (hb.mono HBl.size))); clear hb) | (go_at_call 56; refine (bool_any false _).mono ?_; rintro e W ⟨rfl, hb⟩; replace HBase := HBase.trans (hb.mono HBase.size); (try (replace HBl := HBl.trans (hb.mono HBl.size))); clear hb) | (go_at_call 57; (with_reducible show Calls _ _ #[.slice _ 2 _] _ _); refine (tuple_len (l := [.mk 1 4 [], .mk 1 5 []]) (vrow_cons (v0 := .int .u8 1) (v1 := .int .i64 4) (v2 := .slice none 0 0) (by (go_simp; done)) (by (go_simp; done)) (by (go_simp; done)) (VIn.leaf _ _) (vrow_cons (v0 := .int .u8 1) (v1 := .int .i64 5) (v2 := .slice none 0 0) (by (go_simp; done)) (by (go_simp; done)) (by (go_simp; done)) (VIn.leaf _ _) vrow_nil)) (by rfl) (by decide)).mono ?_; rintro e W ⟨y, rfl, hf, hb⟩; (try clear V); have V := hf.vin; clear hf; (first | (replace hb := (Below.al _).trans (hb.mono (by simp)); replace HBase := HBase.trans (hb.mono HBase.size); (try (replace HBl := HBl.trans (hb.mono HBl.size))); clear hb) | (replace HBase := HBase.trans (hb.mono HBase.size); (try (replace HBl := HBl.trans (hb.mono HBl.size))); clear hb))) | (go_at_call 57; (with_reducible show Calls _ _ #[.slice _ 1 _] _ _); refine (tuple_len (l := [.mk 1 5 []]) (vrow_cons (v0 := .int .u8 1) (v1 := .int .i64 5) (v2 := .slice none 0 0) (by (go_simp; done)) (by (go_simp; done)) (by (go_simp; done)) (VIn.leaf _ _) vrow_nil) (by rfl) (by decide)).mono ?_; rintro e W ⟨y, rfl, hf, hb⟩; (try clear V); have V := hf.vin; clear hf; (first | (replace hb := (Below.al _).trans (hb.mono (by simp)); replace HBase := HBase.trans (hb.mono HBase.size); (try (replace HBl := HBl.trans (hb.mono HBl.size))); clear hb) | (replace HBase := HBase.trans (hb.mono HBase.size); (try (replace HBl := HBl.trans (hb.mono HBl.size))); clear hb))) | (go_at_call 57; (with_reducible show Calls _ _ #[.slice _ 0 _] _ _); refine (tuple_len (l := []) vrow_nil (by rfl) (by decide)).mono ?_; rintro e W ⟨y, rfl, hf, hb⟩; (try clear V); have V := hf.vin; clear hf; (first | (replace hb := (Below.al _).trans (hb.mono (by simp)); replace HBase := HBase.trans (hb.mono HBase.size); (try (replace HBl := HBl.trans (hb.mono HBl.size))); clear hb) | (replace HBase := HBase.trans (hb.mono HBase.size); (try (replace HBl := HBl.trans (hb.mono HBl.size))); clear hb))) | (go_at_call 58; (with_reducible show Calls _ _ #[.slice _ 2 _] _ _); have l7 := HBl; clear l7; refine (list_len (l := [.mk 1 7 [], .mk 1 7 []]) (vrow_cons (v0 := .int .u8 1) (v1 := .int .i64 7) (v2 := .slice none 0 0) (by (go_simp; done)) (by (go_simp; done)) (by (go_simp; done)) (VIn.leaf _ _) (vrow_cons (v0 := .int .u8 1) (v1 := .int .i64 7) (v2 := .slice none 0 0) (by (go_simp; done)) (by (go_simp; done)) (by (go_simp; done)) (VIn.leaf _ _) vrow_nil)) (by rfl) (by decide)).mono ?_; rintro e W ⟨y, rfl, hf, hb⟩; (try clear V); have V := hf.vin; clear hf; (first | (replace hb := (Below.al _).trans (hb.mono (by simp)); replace HBase := HBase.trans (hb.mono HBase.size); (try (replace HBl := HBl.trans (hb.mono HBl.size))); clear hb) | (replace HBase := HBase.trans (hb.mono HBase.size); (try (replace HBl := HBl.trans (hb.mono HBl.size))); clear hb))) | (go_at_call 58; (with_reducible show Calls _ _ #[.slice _ 2 _] _ _); refine (list_len (l := [.mk 1 0 [], .mk 1 2 []]) (vrow_cons (v0 := .int .u8 1) (v1 := .int .i64 0) (v2 := .slice none 0 0) (by (go_simp; done)) (by (go_simp; done)) (by (go_simp; done)) (VIn.leaf _ _) (vrow_cons (v0 := .int .u8 1) (v1 := .int .i64 2) (v2 := .slice none 0 0) (by (go_simp; done)) (by (go_simp; done)) (by (go_simp; done)) (VIn.leaf _ _) vrow_nil)) (by rfl) (by decide)).mono ?_; rintro e W ⟨y, rfl, hf, hb⟩; (try clear V); have V := hf.vin; clear hf; (first | (replace hb := (Below.al _).trans (hb.mono (by simp)); replace HBase := HBase.trans (hb.mono HBase.size); (try (replace HBl := HBl.trans (hb.mono HBl.size))); clear hb) | (replace HBase := HBase.trans (hb.mono HBase.size); (try (replace HBl := HBl.trans (hb.mono HBl.size))); clear hb))) | (go_at_call 15; refine (peq_any (.mk 1 2 []) _ _ (VIn.leaf 1 2)).mono ?_; rintro e W ⟨x5, rfl, hf, hb⟩; clear V; have P5 : PIn _ (.mk 3 (.mk 1 2 []) 0 []) x5 := hf.pin; clear hf; replace HBase := HBase.trans (hb.mono HBase.size); (try (replace HBl := HBl.trans (hb.mono HBl.size))); clear hb) | (go_at_call 22; refine (plen_any _ _ _ P5).mono ?_; rintro e W6 ⟨x6, rfl, hf, hb⟩; have P6 : PIn W6 tLen x6 := hf.pin; clear hf P5; replace HBase := HBase.trans (hb.mono HBase.size); (try (replace HBl := HBl.trans (hb.mono HBl.size))); clear hb; have HBl : Below W6.heap.size W6 W6 := Below.refl _ _) | (go_at_call 23; refine (pholds_g (by first | exact P1.below HBase | exact P3.below HBase | exact P4.below HBase | exact P6.below HBl) (by decide) (by decide) (by first | exact VIn.leaf _ _ | exact V)).mono ?_; rintro e W ⟨rfl, hb⟩; simp only [hold1, hold2, hold4, hold5, hold6, hold7, hold8, hold9, hold10]; replace HBase := HBase.trans (hb.mono HBase.size); (try (replace HBl := HBl.trans (hb.mono HBl.size))); clear hb) | (go_at_call 24; refine (nodes_any 1000000 (by decide) tAt _ _ (by decide) (by decide) (P3.below HBase)).mono ?_; rintro e W ⟨rfl, hb⟩; rw [nodes3]; replace HBase := HBase.trans (hb.mono HBase.size); (try (replace HBl := HBl.trans (hb.mono HBl.size))); clear hb))
  go_wp2_with fail
  go_ret
  exact ⟨rfl, HB11.trans (HBase.mono HB11.size)⟩
end Go.Proofs.Yteebbffecaeciaa
/- PredNot: the plain law. -/
namespace Go.Proofs.Yteebbffecaeciaa
open Go.RowKit

def tN (p : PT) : PT := .mk 5 vNone 0 [p]
def tA (l : List PT) : PT := .mk 6 vNone 0 l
def tO (l : List PT) : PT := .mk 7 vNone 0 l
def tAl (p : PT) : PT := .mk 9 vNone 0 [p]
def tAn (p : PT) : PT := .mk 10 vNone 0 [p]
def tYes : PT := .mk 1 vNone 0 []
def tNo : PT := .mk 2 vNone 0 []
end Go.Proofs.Yteebbffecaeciaa
