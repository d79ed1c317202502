/- Texts of this claim laid into one: TRefB, VAnyW. -/
import Derived.Test.YtapofbdkofelkaaGreatM52
import Derived.Test.YtapofbdkofelkaaGreatM39
/- The document's Node. -/
namespace Go.Proofs.YtapofbdkofelkaaGreat
open Go.RowKit

theorem TT.node_eq (t : TT) : t.node = if t.kind < 1 ∨ 11 < t.kind then 11 else if TT.hasE t.kind t.v t.vs t.ws t.p ≠ 0 then TT.hasE t.kind t.v t.vs t.ws t.p else if TT.ends t.kind t.lo t.hi t.args.length ≠ 0 then TT.ends t.kind t.lo t.hi t.args.length else TT.argsW t.kind t.vs.length t.ws.length t.args.length := by
  unfold TT.node TT.node1 TT.hasE
  split
  · rfl
  · split
    · rename_i h; first | rfl | simp [h]
    · rename_i h
      have h : TT.values t.kind t.v t.vs = 0 := by omega
      simp
set_option maxRecDepth 100000 in
set_option maxHeartbeats 8000000 in
theorem rtnode_any (t : TT) (x : Value) (w : World) (hln : t.lean = true) (hx : TIn w t x) :
    Calls Tryz.prog 9 #[x] w fun e w' => e = .returned (.int .i64 t.node) ∧ Below w.heap.size w w' := by
  obtain ⟨nd, hnd⟩ : ∃ nd, nd = t.node := ⟨_, rfl⟩
  rw [← hnd]
  rw [TT.node_eq] at hnd
  have HTX := Lib.hid hx
  obtain ⟨T, hT⟩ : ∃ T, T = t := ⟨_, rfl⟩
  have HLN : Hid (T.lean = true) := Lib.hid (by rw [hT]; exact hln)
  rw [← hT] at HTX
  obtain ⟨k, v, vs, lo, hi, ws, p, l⟩ := t
  obtain ⟨⟨va, vc, sa, sc, wa, wc, qa, qc, pa, pc, aa, ac⟩, rfl, hok⟩ := hx
  simp only [TT.val, TT.kind, TT.v, TT.vs, TT.lo, TT.hi, TT.ws, TT.p, TT.args] at HTX ⊢
  obtain ⟨w0, hw0, m0, s0, R0, q0, q1, q2, q3, q4, q5, q6, q7, q8, q9, q10, q11, q12, q13, q14⟩ := box15 w (.int .u8 k) (.int .u8 v.kind) (.int .i64 v.num) (.slice va v.items.length vc) (.slice sa vs.length sc) (.int .i64 lo) (.int .i64 hi) (.slice wa ws.length wc)
    (.int .u8 p.kind) (.int .u8 p.val.kind) (.int .i64 p.val.num) (.slice qa p.val.items.length qc) (.int .i64 p.num) (.slice pa p.args.length pc) (.slice aa l.length ac) 31
  replace hnd : nd = if k < 1 ∨ 11 < k then 11 else if TT.hasE k v vs ws p ≠ 0 then TT.hasE k v vs ws p else if TT.ends k lo hi l.length ≠ 0 then TT.ends k lo hi l.length else TT.argsW k vs.length ws.length l.length := hnd
  replace HTX := Lib.hid (HTX.out.below m0)
  have hB := m0
  clear hok hln m0 R0
  obtain ⟨z1, hz1⟩ : ∃ z, z = TT.hasE k v vs ws p := ⟨_, rfl⟩
  obtain ⟨z2, hz2⟩ : ∃ z, z = TT.ends k lo hi l.length := ⟨_, rfl⟩
  rw [← hz1, ← hz2] at hnd
  have HT1 : Hid (TT.hasE T.kind T.v T.vs T.ws T.p = z1) := Lib.hid (by rw [hT]; exact hz1.symm)
  have HT2 : Hid (TT.ends T.kind T.lo T.hi T.args.length = z2) := Lib.hid (by rw [hT]; exact hz2.symm)
  clear hz1 hz2 hT
  have HND := Lib.hid hnd; clear hnd
  by_cases hk : k < 1
  · have d1 : decide (k < 1) = true := decide_eq_true hk
    have HK := Lib.hid hk; clear hk
    go_enter Tryz.func9, Tryz.ntmps9
    go_wp2_with fail
    go_ret
    exact ⟨ret_int (by rw [HND.out, if_pos (.inl HK.out)]), hB⟩
  · have d1 : decide (k < 1) = false := decide_eq_false hk
    by_cases hk2 : 11 < k
    · have d2 : decide (11 < k) = true := decide_eq_true hk2
      have HK := Lib.hid hk2; clear hk2 hk
      go_enter Tryz.func9, Tryz.ntmps9
      go_wp2_with fail
      go_ret
      exact ⟨ret_int (by rw [HND.out, if_pos (.inr HK.out)]), hB⟩
    · have d2 : decide (11 < k) = false := decide_eq_false hk2
      replace HND : Hid (nd = if z1 ≠ 0 then z1 else if z2 ≠ 0 then z2 else TT.argsW k vs.length ws.length l.length) := Lib.hid (by rw [HND.out, if_neg (by omega)])
      have HKR := Lib.hid (And.intro hk hk2)
      clear hk hk2
      go_enter Tryz.func9, Tryz.ntmps9
      go_wp2_with fail
      refine (rhas_any T _ _ HLN.out HTX.out).mono ?_
      rintro e w1 ⟨rfl, hb1⟩
      rw [HT1.out]
      replace q0 := cell_stays hb1 q0; replace q1 := cell_stays hb1 q1; replace q2 := cell_stays hb1 q2; replace q3 := cell_stays hb1 q3; replace q4 := cell_stays hb1 q4; replace q5 := cell_stays hb1 q5; replace q6 := cell_stays hb1 q6; replace q7 := cell_stays hb1 q7
      replace q8 := cell_stays hb1 q8; replace q9 := cell_stays hb1 q9; replace q10 := cell_stays hb1 q10; replace q11 := cell_stays hb1 q11; replace q12 := cell_stays hb1 q12; replace q13 := cell_stays hb1 q13; replace q14 := cell_stays hb1 q14
      replace HTX := Lib.hid (HTX.out.below hb1)
      replace hB := hB.trans (hb1.mono hB.size)
      clear hb1
      by_cases hz1 : z1 = 0
      · have zb1 : (z1 == 0) = true := by simp [hz1]
        replace HND : Hid (nd = if z2 ≠ 0 then z2 else TT.argsW k vs.length ws.length l.length) := Lib.hid (by rw [HND.out, if_neg (by simp [hz1])])
        clear hz1
        go_wp2_with fail
        refine (rends_any T _ _ HTX.out).mono ?_
        rintro e w2 ⟨rfl, hb2⟩
        rw [HT2.out]
        replace q0 := cell_stays hb2 q0; replace q1 := cell_stays hb2 q1; replace q2 := cell_stays hb2 q2; replace q3 := cell_stays hb2 q3; replace q4 := cell_stays hb2 q4; replace q5 := cell_stays hb2 q5; replace q6 := cell_stays hb2 q6; replace q7 := cell_stays hb2 q7
        replace q8 := cell_stays hb2 q8; replace q9 := cell_stays hb2 q9; replace q10 := cell_stays hb2 q10; replace q11 := cell_stays hb2 q11; replace q12 := cell_stays hb2 q12; replace q13 := cell_stays hb2 q13; replace q14 := cell_stays hb2 q14
        replace HTX := Lib.hid (HTX.out.below hb2)
        replace hB := hB.trans (hb2.mono hB.size)
        clear hb2
        by_cases hz2 : z2 = 0
        · have zb2 : (z2 == 0) = true := by simp [hz2]
          have zb3 : (z2 != 0) = false := by simp [hz2]
          replace HND : Hid (nd = TT.argsW k vs.length ws.length l.length) := Lib.hid (by rw [HND.out, if_neg (by simp [hz2])])
          clear hz2
          by_cases h4 : k = 4
          · have b3 : (k == 3) = false := by simp [h4]
            have b4 : (k == 4) = true := by simp [h4]
            have b5 : (k == 5) = false := by simp [h4]
            have b6 : (k == 6) = false := by simp [h4]
            have b7 : (k == 7) = false := by simp [h4]
            have b8 : (k == 8) = false := by simp [h4]
            have b9 : (k == 9) = false := by simp [h4]
            have b10 : (k == 10) = false := by simp [h4]
            have HK := Lib.hid h4; clear h4
            go_wp2_with fail
            refine (rmany_any _ _ _ _).mono ?_
            rintro e w9 ⟨rfl, rfl⟩
            obtain ⟨z3, hz3⟩ : ∃ z, z = many (vs.length : Int) ws.length ws.length := ⟨_, rfl⟩
            rw [← hz3]
            have HZ3 := Lib.hid hz3; clear hz3
            by_cases hz0 : z3 = 0
            · have zb4 : (z3 != 0) = false := by simp [hz0]
              replace HND : Hid (nd = many (l.length : Int) 0 0) := Lib.hid (by rw [HND.out, HK.out]; simp [TT.argsW, ← HZ3.out, hz0])
              clear hz0
              go_wp2_with fail
              refine (rmany_any _ _ _ _).mono ?_
              rintro e w10 ⟨rfl, rfl⟩
              go_wp2_with fail
              go_ret
              exact ⟨ret_int (by rw [HND.out]), hB⟩
            · have zb4 : (z3 != 0) = true := by simp [hz0]
              replace HND : Hid (nd = z3) := Lib.hid (by rw [HND.out, HK.out]; simp [TT.argsW, ← HZ3.out, hz0])
              clear hz0
              go_wp2_with fail
              go_ret
              exact ⟨ret_int (by rw [HND.out]), hB⟩
          · have b4 : (k == 4) = false := by simp [h4]
            have HK4 := Lib.hid h4; clear h4
            obtain ⟨bb, hbb⟩ : ∃ bb, bb = (k == 3) := ⟨_, rfl⟩
            rcases (by have := HKR.out; omega : k = 3 ∨ k = 5 ∨ k = 7 ∨ k = 8 ∨ k = 6 ∨ k = 9 ∨ k = 10 ∨ (k ≠ 3 ∧ k ≠ 5 ∧ k ≠ 7 ∧ k ≠ 8 ∧ k ≠ 6 ∧ k ≠ 9 ∧ k ≠ 10)) with h | h | h | h | h | h | h | h
            all_goals
              (try simp only [h] at hbb)
              have b3 : (k == 3) = decide (k = 3) := by rw [Bool.eq_iff_iff]; simp
              have b5 : (k == 5) = decide (k = 5) := by rw [Bool.eq_iff_iff]; simp
              have b7 : (k == 7) = decide (k = 7) := by rw [Bool.eq_iff_iff]; simp
              have b8 : (k == 8) = decide (k = 8) := by rw [Bool.eq_iff_iff]; simp
              have b6 : (k == 6) = decide (k = 6) := by rw [Bool.eq_iff_iff]; simp
              have b9 : (k == 9) = decide (k = 9) := by rw [Bool.eq_iff_iff]; simp
              have b10 : (k == 10) = decide (k = 10) := by rw [Bool.eq_iff_iff]; simp
              (first | rw [decide_eq_true (by omega)] at b3 | rw [decide_eq_false (by omega)] at b3)
              (first | rw [decide_eq_true (by omega)] at b5 | rw [decide_eq_false (by omega)] at b5)
              (first | rw [decide_eq_true (by omega)] at b7 | rw [decide_eq_false (by omega)] at b7)
              (first | rw [decide_eq_true (by omega)] at b8 | rw [decide_eq_false (by omega)] at b8)
              (first | rw [decide_eq_true (by omega)] at b6 | rw [decide_eq_false (by omega)] at b6)
              (first | rw [decide_eq_true (by omega)] at b9 | rw [decide_eq_false (by omega)] at b9)
              (first | rw [decide_eq_true (by omega)] at b10 | rw [decide_eq_false (by omega)] at b10)
              have HK := Lib.hid h
              clear h hbb
              go_wp2_with fail
              refine (rmany_any _ _ _ _).mono ?_
              rintro e w9 ⟨rfl, rfl⟩
              go_wp2_with fail
              go_ret
              exact ⟨ret_int (by rw [HND.out]; have hk := HK.out; have hk4 := HK4.out; simp [TT.argsW, hk, hk4]), hB⟩
        · have zb2 : (z2 == 0) = false := by simp [hz2]
          have zb3 : (z2 != 0) = true := by simp [hz2]
          replace HND : Hid (nd = z2) := Lib.hid (by rw [HND.out, if_pos hz2])
          clear hz2
          go_wp2_with fail
          go_ret
          exact ⟨ret_int (by rw [HND.out]), hB⟩
      · have zb1 : (z1 == 0) = false := by simp [hz1]
        have zb3 : (z1 != 0) = true := by simp [hz1]
        replace HND : Hid (nd = z1) := Lib.hid (by rw [HND.out, if_pos hz1])
        clear hz1
        go_wp2_with fail
        go_ret
        exact ⟨ret_int (by rw [HND.out]), hB⟩
end Go.Proofs.YtapofbdkofelkaaGreat
/- As VAnyR, where a slot may be read before an operation behind it writes it. -/
namespace Go.Proofs.YtapofbdkofelkaaGreat
open Go.RowKit
/-- every operation that writes slot k waits for number i. -/
def freeFor (m : Nat) (ops : Array Oper) (i k : Nat) : Bool := (List.range m).all fun j => match ops[j]? with
  | none => true
  | some p => (p.dst != some k) || p.after.any fun e => Region.binds .any e && reachB ops 6 e.on i
def StepW (A : List Nat) (P : Program) (m : Nat) (ops : Array Oper) (Ph : Nat → Value → World → Prop) (a0 : Act) (w0 : World) (i : Nat) (o : Oper) : Prop :=
  ∀ (r : Operand → Value) (w : World), (∀ v, r (.const v) = v) → (∀ f, r (.func f) = .func (.func f) #[] #[]) → (∀ d, freeFor m ops i d = true → r (.tmp d) = a0.eval (.tmp d)) → (∀ d, waitsOn ops o d = true → Ph d (r (.tmp d)) w) → Below w0.heap.size w0 w →
    (wantedR ops r o = true → OpDoes P o r w fun v w' => (∀ d, o.dst = some d → Ph d v w' ∧ (d ∈ A → IsBlock v w.heap.size)) ∧ Below w.heap.size w w') ∧ (wantedR ops r o = false → ∀ d, o.dst = some d → Ph d undef w ∧ d ∉ A)
section
variable {P : Program} {ops : Array Oper} {Q : Exit → Act → World → Prop} {m n : Nat} {Ph : Nat → Value → World → Prop} {a0 : Act} {w0 : World} {A : List Nat}
theorem heldW_any (hp : partR m n ops = true) (hn : n = a0.tmps.size) (hms : m ≤ ops.size) (hA : ∀ d ∈ A, ∀ v w, Ph d v w → ∃ b, IsBlock v b ∧ b < w.heap.size) (hmono : ∀ d v w w', Ph d v w → Below w.heap.size w w' → Ph d v w') (hstep : ∀ i o, i < m → ops[i]? = some o → StepW A P m ops Ph a0 w0 i o)
    (hend : ∀ (f : Nat → Value) (w : World) (fuel : Nat), ops.size - m ≤ fuel → (∀ d ∈ dstsTo m ops, Ph d (f d) w) → (∀ d ∈ A, ∀ d' ∈ A, d ∈ dstsTo m ops → d' ∈ dstsTo m ops → d ≠ d' → f d ≠ f d') → Below w0.heap.size w0 w → wpAny P .any ops Q fuel (endListed m (ops.size - m)) ⟨fill a0.tmps f (dstsTo m ops), a0.defers⟩ w) :
    ∀ (fuel : Nat) (listed : Array Bool) (a : Act) (w : World), leftTo m listed + (ops.size - m) ≤ fuel → HeldG A m ops Ph a0 w0 listed a w → wpAny P .any ops Q fuel listed a w := by
  have fin : ∀ (fuel : Nat) (listed : Array Bool) (a : Act) (w : World), ops.size - m ≤ fuel → (∀ i, i < m → listed.getD i true = true) → HeldG A m ops Ph a0 w0 listed a w → wpAny P .any ops Q fuel listed a w := fun fuel listed a w hfu hall H => by
    have hl : ∀ i, i < m → listed.getD i false = true := fun i hi => getD_false H.lsize (by omega) (hall i hi)
    have hle : listed = endListed m (ops.size - m) := by
      refine Array.ext_getElem? fun k => ?_
      have hls := H.lsize
      by_cases hk : k < ops.size
      · have e1 : listed[k]? = some (listed.getD k true) := by simp [show k < listed.size by omega]
        rw [e1]
        unfold endListed
        rw [List.getElem?_toArray]
        by_cases hkm : k < m
        · rw [hall k hkm, List.getElem?_append_left (by simpa using hkm), List.getElem?_replicate, if_pos hkm]
        · rw [H.rest k (by omega) hk, List.getElem?_append_right (by simp; omega), List.getElem?_replicate, List.length_replicate, if_pos (by omega)]
      · rw [Array.getElem?_eq_none (by omega)]
        unfold endListed
        rw [List.getElem?_toArray, List.getElem?_eq_none (by simp; omega)]
    have ha : a = ⟨fill a0.tmps (fun d => a.eval (.tmp d)) (dstsTo m ops), a0.defers⟩ := by
      obtain ⟨tm, df⟩ := a
      have e1 : tm = fill a0.tmps (fun d => Act.eval ⟨tm, df⟩ (.tmp d)) (dstsTo m ops) := by
        refine Array.ext_getElem? fun k => ?_
        by_cases hk : k < a0.tmps.size
        · rw [fill_get _ _ _ _ hk]
          have hk' : k < tm.size := by have := H.size; simp only at this; omega
          by_cases hm : k ∈ dstsTo m ops
          · rw [if_pos hm]; simp [Act.eval, hk']
          · rw [if_neg hm]
            exact H.same k fun i o hi ho _ hd => hm (mem_dstsTo.2 ⟨i, o, hi, ho, hd⟩)
        · have hk' : ¬ k < tm.size := by have := H.size; simp only at this; omega
          rw [Array.getElem?_eq_none (by omega), Array.getElem?_eq_none (by rw [fill_size]; omega)]
      have e2 : df = a0.defers := H.defers
      rw [← e2, ← e1]
    rw [hle, ha]
    exact hend _ _ _ hfu (fun d hd => by
      obtain ⟨i, o, him, hi, ho⟩ := mem_dstsTo.1 hd
      exact H.has i o d him hi (hl i him) ho) (fun d hdA d' hdA' hd hd' hne => by
      obtain ⟨i, o, him, hi, ho⟩ := mem_dstsTo.1 hd
      obtain ⟨j, o', hjm, hj, ho'⟩ := mem_dstsTo.1 hd'
      exact H.apart i j o o' d d' him hjm hi hj (hl i him) (hl j hjm) ho ho' hdA hdA' hne) H.below
  have rdy : ∀ (listed : Array Bool), listed.size = ops.size → Region.ready .any ops listed = [] → ∀ i, i < m → listed.getD i true = true := fun listed hs hr i => by
    induction i using Nat.strongRecOn with
    | _ i ih =>
      intro him
      have hi := partR_there hp him
      by_cases hu : listed.getD i true = true
      · exact hu
      · exfalso
        rw [Bool.not_eq_true] at hu
        have hoi : ops[i]? = some ops[i] := Array.getElem?_eq_getElem hi
        have hmem : i ∈ Region.ready .any ops listed := mem_ready.2 ⟨hu, _, hoi, fun e he hbe => by
          have hlt := (partR_op hp him hoi).1 e he hbe
          exact getD_false hs (by omega) (ih e.on hlt (by omega))⟩
        rw [hr] at hmem
        cases hmem
  intro fuel
  induction fuel with
  | zero =>
    intro listed a w hf H
    refine fin 0 listed a w (by omega) (fun i hi => ?_) H
    by_cases hu : listed.getD i true = true
    · exact hu
    · rw [Bool.not_eq_true] at hu
      have := leftTo_pos hi hu
      omega
  | succ fuel ih =>
    intro listed a w hf H
    by_cases hall : ∀ i, i < m → listed.getD i true = true
    · exact fin (fuel + 1) listed a w (by omega) hall H
    refine ⟨fun hr => absurd (rdy listed H.lsize hr) hall, fun i hi => ?_⟩
    obtain ⟨hu, o, ho, hwait⟩ := mem_ready.1 hi
    have hlt : i < ops.size := (Array.getElem?_eq_some_iff.1 ho).1
    have him : i < m := by
      rcases Nat.lt_or_ge i m with h | h
      · exact h
      · exfalso
        refine hall fun j hj => ?_
        obtain ⟨e, he, hb, hre⟩ := partR_rest hp (by omega : ¬ i < m) ho hj
        have h2 := hwait e he hb
        have hjs : j < listed.size := by rw [H.lsize]; exact partR_there hp hj
        have h4 : listed.getD j false = true := reach_listed H.closed 6 e.on j h2 hre
        simp [hjs] at h4 ⊢; exact h4
    obtain ⟨hbefore, ⟨d, hd, hdn⟩, hgd⟩ := partR_op hp him ho
    have hso := hstep i o him ho a.eval w (fun v => rfl) (fun f => rfl) (fun k hk => by
        have := H.same k fun j p hj hp hl hd => by
          have h1 := List.all_eq_true.1 hk j (List.mem_range.2 hj)
          rw [hp] at h1
          simp only [hd, bne_self_eq_false, Bool.false_or, Array.any_eq_true] at h1
          obtain ⟨q, hq, hb⟩ := h1
          rw [Bool.and_eq_true] at hb
          have h3 := reach_listed H.closed 6 p.after[q].on i (H.closed j p hp hl _ (Array.getElem_mem hq) hb.1) hb.2
          have hil : i < listed.size := by rw [H.lsize]; exact hlt
          simp [hil] at h3 hu
          rw [hu] at h3
          cases h3
        simp [Act.eval, this]) (fun k hk => by
        unfold waitsOn at hk
        rw [Array.any_eq_true] at hk
        obtain ⟨j, hj, hb⟩ := hk
        rw [Bool.and_eq_true] at hb
        have hmem : o.after[j] ∈ o.after := Array.getElem_mem hj
        have hdst := eq_of_beq hb.2
        obtain ⟨o', ho', hd'⟩ := Option.bind_eq_some_iff.1 hdst
        exact H.has _ o' k (by have := hbefore _ hmem hb.1; omega) ho' (hwait _ hmem hb.1) hd') H.below
    have hl := leftTo_set him hu
    have hil : i < listed.size := by rw [H.lsize]; exact hlt
    have hds : d < a.tmps.size := by rw [H.size, ← hn]; exact hdn
    have next : ∀ (v : Value) (w' : World), Ph d v w' → (d ∈ A → IsBlock v w.heap.size) → Below w.heap.size w w' → wpAny P .any ops Q fuel (listed.setIfInBounds i true) (a.put o.dst v) w' := fun v w' hv hfr hb => by
      refine ih (listed.setIfInBounds i true) _ _ (by omega) ?_
      rw [hd]
      have own : Act.eval (a.put (some d) v) (.tmp d) = v := by simp [Act.eval, Act.put, hds]
      have oth : ∀ k, k ≠ d → Act.eval (a.put (some d) v) (.tmp k) = a.eval (.tmp k) := fun k hne => by
        simp only [Act.eval, Act.put, Array.getD_eq_getD_getElem?]
        rw [Array.getElem?_setIfInBounds_ne (fun h => hne h.symm)]
      refine ⟨by simp [Act.put, H.size], H.defers, by simp [H.lsize], fun k hk hks => ?_, fun k p hk hl => ?_, H.below.trans (hb.mono H.below.size), fun k hk => ?_, fun j o' k hj hjo hl hk => ?_, fun j j' p p' k k' hj hj' hjo hjo' hl hl' hk hk' hkA hkA' hne => ?_⟩
      · rw [getD_set_ne true (by omega)]; exact H.rest k hk hks
      · by_cases e : k = i
        · subst e
          rw [ho] at hk; cases hk
          exact fun e he hb => getD_set_true (hwait e he hb)
        · rw [getD_set_ne false (fun h => e h.symm)] at hl
          exact fun e he hb => getD_set_true (H.closed k p hk hl e he hb)
      · have hne : k ≠ d := fun e => hk i o him ho (getD_own hil) (by rw [e]; exact hd)
        simp only [Act.put]
        rw [Array.getElem?_setIfInBounds_ne (fun e => hne e.symm)]
        exact H.same k fun j o' hjm hj hl => hk j o' hjm hj (getD_set_true hl)
      · by_cases e : j = i
        · subst e
          rw [ho] at hjo; cases hjo
          rw [hd] at hk; cases hk
          rw [own]; exact hv
        · have hne : k ≠ d := fun h => e (partR_one hp hj him hjo ho hk (by rw [h]; exact hd))
          rw [getD_set_ne false (fun h => e h.symm)] at hl
          rw [oth k hne]
          exact hmono _ _ _ _ (H.has j o' k hj hjo hl hk) hb
      · by_cases e : j = i
        · subst e
          rw [ho] at hjo; cases hjo
          rw [hd] at hk; cases hk
          have hne' : k' ≠ d := fun h => hne h.symm
          have e' : j' ≠ j := fun h => by
            subst h
            rw [ho] at hjo'; cases hjo'
            rw [hd] at hk'; cases hk'
            exact hne rfl
          rw [getD_set_ne false (fun h => e' h.symm)] at hl'
          obtain ⟨b', hb', hlt'⟩ := hA k' hkA' _ _ (H.has j' p' k' hj' hjo' hl' hk')
          rw [own, oth k' hne']
          exact (hfr hkA).ne hb' (by omega)
        · by_cases e' : j' = i
          · subst e'
            rw [ho] at hjo'; cases hjo'
            rw [hd] at hk'; cases hk'
            rw [getD_set_ne false (fun h => e h.symm)] at hl
            obtain ⟨b', hb', hlt'⟩ := hA k hkA _ _ (H.has j p k hj hjo hl hk)
            rw [own, oth k hne]
            exact hb'.ne (hfr hkA') (by omega)
          · rw [getD_set_ne false (fun h => e h.symm)] at hl
            rw [getD_set_ne false (fun h => e' h.symm)] at hl'
            have h1 : k ≠ d := fun h => e (partR_one hp hj him hjo ho hk (by rw [h]; exact hd))
            have h2 : k' ≠ d := fun h => e' (partR_one hp hj' him hjo' ho hk' (by rw [h]; exact hd))
            rw [oth k h1, oth k' h2]
            exact H.apart j j' p p' k k' hj hj' hjo hjo' hl hl' hk hk' hkA hkA' hne
    unfold wpOp
    simp only [ho]
    rw [wanted_eq (n := n) (by rw [hn, H.size]) hgd]
    by_cases hw : wantedR ops a.eval o = true
    · rw [if_pos hw]
      exact .inl (OpDoes.wp (hso.1 hw) fun v w' hv => next v w' (hv.1 d hd).1 (hv.1 d hd).2 hv.2)
    · rw [if_neg hw]
      rw [Bool.not_eq_true] at hw
      exact next undef w (hso.2 hw d hd).1 (fun h => absurd h (hso.2 hw d hd).2) (Below.refl _ _)
end
/-- a region that draws its order, each of the first m operations by itself; the others behind them. -/
theorem wp_region_partW {P : Program} {id : Nat} {Q : Exit → Act → World → Prop} {a : Act} {w : World} {l : List Oper} (A : List Nat) (Ph : Nat → Value → World → Prop) (m n : Nat) (hm : P.follows .mixedOrders = true) (hp : partR m n l.toArray = true) (hn : n = a.tmps.size) (hms : decide (m ≤ l.length) = true)
    (hA : ∀ d ∈ A, ∀ v w, Ph d v w → ∃ b, IsBlock v b ∧ b < w.heap.size) (hmono : ∀ d v w w', Ph d v w → Below w.heap.size w w' → Ph d v w') (hstep : ∀ p ∈ (List.range m).zip l, StepW A P m l.toArray Ph a w.drew p.1 p.2)
    (hend : ∀ (f : Nat → Value) (w' : World) (fuel : Nat), l.length - m ≤ fuel → (∀ d ∈ dstsTo m l.toArray, Ph d (f d) w') → (∀ d ∈ A, ∀ d' ∈ A, d ∈ dstsTo m l.toArray → d' ∈ dstsTo m l.toArray → d ≠ d' → f d ≠ f d') → Below w.drew.heap.size w.drew w' → wpAny P .any l.toArray Q fuel (endListed m (l.length - m)) ⟨fill a.tmps f (dstsTo m l.toArray), a.defers⟩ w') : (Code.region id l.toArray true).wp P Q a w := by
  have hms' : m ≤ l.length := of_decide_eq_true hms
  refine wp_region_any hm (heldW_any (w0 := w.drew) (A := A) hp hn (by simpa using hms') hA hmono (fun i o hi ho => hstep (i, o) (by
    have ho' : l[i]? = some o := by simpa using ho
    exact List.mem_iff_getElem?.2 ⟨i, by rw [List.getElem?_zip_eq_some]; exact ⟨List.getElem?_range hi, ho'⟩⟩)) (by simpa using hend) _ _ _ _ ?_ ?_)
  · unfold leftTo
    have := List.countP_le_length (p := fun i => !(Array.replicate l.toArray.size false).getD i true) (l := List.range m)
    rw [List.length_range] at this
    simp only [List.size_toArray] at this ⊢
    omega
  · refine ⟨rfl, rfl, by simp, fun i _ hi => ?_, fun i o hi hl => ?_, Below.refl _ _, fun _ _ => rfl, fun i o d _ hi hl => ?_, fun i j o o' d d' _ _ _ _ hl => ?_⟩
    · simp only [Array.getD_eq_getD_getElem?, Array.getElem?_replicate]
      rw [if_pos hi]; rfl
    · exfalso
      simp only [Array.getD_eq_getD_getElem?, Array.getElem?_replicate] at hl
      split at hl <;> simp at hl
    · exfalso
      simp only [Array.getD_eq_getD_getElem?, Array.getElem?_replicate] at hl
      split at hl <;> simp at hl
    · exfalso
      simp only [Array.getD_eq_getD_getElem?, Array.getElem?_replicate] at hl
      split at hl <;> simp at hl
/-- all of them. -/
theorem wp_region_allW {P : Program} {id : Nat} {Q : Exit → Act → World → Prop} {a : Act} {w : World} {l : List Oper} (Ph : Nat → Value → World → Prop) (n : Nat) (hm : P.follows .mixedOrders = true) (hp : partR l.length n l.toArray = true) (hn : n = a.tmps.size)
    (hmono : ∀ d v w w', Ph d v w → Below w.heap.size w w' → Ph d v w') (hstep : ∀ p ∈ (List.range l.length).zip l, StepW [] P l.length l.toArray Ph a w.drew p.1 p.2)
    (hend : ∀ (f : Nat → Value) (w' : World), (∀ d ∈ dstsTo l.length l.toArray, Ph d (f d) w') → Below w.drew.heap.size w.drew w' → Q .normal ⟨fill a.tmps f (dstsTo l.length l.toArray), a.defers⟩ w') : (Code.region id l.toArray true).wp P Q a w := by
  refine wp_region_partW [] Ph l.length n hm hp hn (by simp) (fun _ h => by cases h) hmono hstep fun f w' fuel _ hf _ hb => wpAny_done ?_ (hend f w' hf hb) fuel
  refine List.eq_nil_iff_forall_not_mem.2 fun i hi => ?_
  obtain ⟨hu, o, ho, _⟩ := mem_ready.1 hi
  have hlt : i < l.length := by simpa using (Array.getElem?_eq_some_iff.1 ho).1
  unfold endListed at hu
  simp [hlt] at hu
end Go.Proofs.YtapofbdkofelkaaGreat
