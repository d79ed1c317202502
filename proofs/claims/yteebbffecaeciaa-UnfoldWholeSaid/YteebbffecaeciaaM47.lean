/- Texts of this claim laid into one: URefW, URefWE, TLawCopies, ULib. -/
import Derived.Test.YteebbffecaeciaaM37
import Derived.Test.YteebbffecaeciaaM46
import Derived.Test.YteebbffecaeciaaM38
import Derived.Test.YteebbffecaeciaaM28
import Derived.Test.YteebbffecaeciaaM41
import Derived.Test.YteebbffecaeciaaM33
import Derived.Test.YteebbffecaeciaaM42
import Derived.Test.YteebbffecaeciaaM43
import Derived.BigFrame
/- The document's whole (chapter 21). -/
namespace Go.Proofs.Yteebbffecaeciaa
open Go.RowKit

set_option maxRecDepth 100000 in
set_option maxHeartbeats 8000000 in
theorem rtwhole_any (n : Nat) : ∀ (t : TT) (x : Value) (w : World) (S : Nat → Prop), t.sane false = true → t.bulk 0 ≤ n → TInA S w t x → (∀ q, S q → q < w.heap.size) →
    Calls Try.prog 70 #[x] w fun e w' => ∃ x', e = .returned x' ∧ TInA S w' (t.whole n) x' ∧ Below w.heap.size w w' := by
  induction n with
  | zero => intro t x w S hs h; have := TT.bulk_pos0 hs; omega
  | succ n ih =>
    intro t x w S hsn hbk hx hS
    have IH := Lib.hid ih; clear ih
    obtain ⟨A, rfl, hok⟩ := hx
    obtain ⟨w0, hw0, m0, z0, hc0, R0⟩ := row1_new w t A
    obtain ⟨w1, hw1, m1, z1, R1, _⟩ := box15 w0 (.int .u8 0) (.int .u8 0) (.int .i64 0) (.slice none 0 0) (.slice none 0 0) (.int .i64 0) (.int .i64 0) (.slice none 0 0) (.int .u8 0) (.int .u8 0) (.int .i64 0) (.slice none 0 0) (.int .i64 0) (.slice none 0 0) (.slice none 0 0) 47
    have hB1 : Below w.heap.size w w1 := m0.trans (m1.mono (Nat.le_of_lt z0))
    obtain ⟨S', hS'⟩ : ∃ S' : Nat → Prop, S' = fun q => S q ∨ q = w.heap.size ∨ q = w0.heap.size := ⟨_, rfl⟩
    have HSS : Hid ((∀ q, S q → S' q) ∧ S' w.heap.size ∧ S' w0.heap.size ∧ ∀ q, q < w.heap.size → S' q → S q) := Lib.hid ⟨fun q h => by rw [hS']; exact .inl h, by rw [hS']; exact .inr (.inl rfl), by rw [hS']; exact .inr (.inr rfl), fun q h1 h2 => by rw [hS'] at h2; rcases h2 with h2 | h2 | h2; exact h2; omega; omega⟩
    have HSL : Hid (∀ q, S' q → q < w1.heap.size) := Lib.hid fun q h => by rw [hS'] at h; rcases h with h | h | h; (have := hS q h; have := hB1.size; omega); omega; omega
    have hok1 : TOkA S' w1 t A := hok.step hB1.size fun q g1 g2 => ⟨fun g => g2 (HSS.out.2.2.2 q g1 g), hB1.block q g1⟩
    have HREL : Hid (WRel S' w w.heap.size w0.heap.size n t w1 (t.bulk 0)) := Lib.hid ⟨t, A, rfl, hc0.below m1, hok1, hsn, hbk, rfl, hB1, R0.below z0 m1, R1, z1⟩
    have HZ := Lib.hid (And.intro z0 z1)
    have HW : Hid (t.whole (n + 1) = (t.unf (n + 1)).withArgs ((t.unf (n + 1)).args.map (TT.whole n))) := Lib.hid rfl
    clear hok hok1 hc0 R0 R1 m0 m1 z0 z1 hB1 hS' hbk hsn hS
    unfold TT.val
    go_enter Try.func70, Try.ntmps70
    go_wp2_with fail
    clear hw0 hw1
    go_loopw [] (fun wr => w1.heap.size ≤ wr.heap.size ∧ ∃ m, WRel S' w w.heap.size w0.heap.size n t wr m) (fun wr => least (WRel S' w w.heap.size w0.heap.size n t wr))
    case atStart => exact ⟨Nat.le_refl _, _, HREL.out⟩
    case round =>
      obtain ⟨hszr, hrel⟩ := hrel
      obtain ⟨hm, -⟩ := least_spec hrel
      obtain ⟨u, U, hmu, hc, hk, hsu, hbu, hun, hbe, hr0, hr1, hlt⟩ := hm
      have f0 : wr.cell? ⟨w.heap.size, 0, none⟩ = some (.int .u8 u.kind) := hc.1
      have HC := Lib.hid hc; have HK := Lib.hid hk; have HR0 := Lib.hid hr0; have HR1 := Lib.hid hr1; have HBE := Lib.hid hbe; have HSU := Lib.hid (And.intro hsu (And.intro hbu hun)); have HMU := Lib.hid hmu
      have HSLr : Hid (∀ q, S' q → q < wr.heap.size) := Lib.hid fun q h => Nat.lt_of_lt_of_le (HSL.out q h) hszr
      have HSZR := Lib.hid hszr
      clear hc hk hr0 hr1 hbe hsu hbu hun hmu hrel hszr HREL
      by_cases hk10 : u.kind = 10
      · as_aux_lemma =>
        have kb : (u.kind == 10) = true := by simp [hk10]
        have hR := TT.right (TT.sane_parts HSU.out.1).1
        obtain ⟨hz1, hz2, _⟩ := hR.sized hk10
        have HST := Lib.hid (TT.step_facts hk10 HSU.out.1)
        have HL2 := Lib.hid (hR.len2 hk10)
        have HUN : Hid (u.step.unf (n + 1) = t.unf (n + 1)) := Lib.hid (by
          rw [← HSU.out.2.2]
          obtain ⟨g1, g2, _⟩ := HST.out
          have e : u.unf (n + 1) = u.step.unf n := by rw [TT.unf, if_pos hk10]
          rw [e]
          exact TT.unf_more n (n + 1) u.step g1 (by have := HSU.out.2.1; omega) (by omega))
        have HLO := Lib.hid (And.intro hz1 hz2)
        clear hk10 hR hz1 hz2
        go_wp2_with (first | refine wpList_load15 (by rfl) (by rfl) (by rfl) HC.out ?_)
        refine (rtstep_any u (u.val U) wr S' HL2.out HLO.out.1 HLO.out.2 ⟨U, rfl, HK.out⟩ HSLr.out).mono ?_
        rintro e w3 ⟨z, rfl, ⟨X, rfl, hX⟩, hb3⟩
        have HR03 := Lib.hid (HR0.out.below HR0.out.lt hb3); have HR13 := Lib.hid (HR1.out.below HR1.out.lt hb3); have HX := Lib.hid hX
        have HB3 := Lib.hid (HBE.out.trans (hb3.mono HBE.out.size)); have HS3 := Lib.hid hb3.size
        clear hb3 hX f0
        go_wp2_with (refine wpList_store15R (t := u.step) (A := X) (by rfl) (by rfl) (by rfl) (by rfl) (by rfl) HR03.out (by decide) ?_)
        intro wE hcl hrE0 hkE hsE hbl
        have hz := HZ.out
        have hbe : Below w.heap.size w wE := hbl _ _ (Nat.le_refl _) HB3.out
        have hok : TOkA S' wE u.step X := HX.out.step (Nat.le_of_eq hsE.symm) fun q h1 h2 => ⟨h2, hkE q fun e => h2 (by rw [e]; exact HSS.out.2.1)⟩
        have HN : Hid (WRel S' w w.heap.size w0.heap.size n t wE (u.step.bulk 0)) := Lib.hid ⟨u.step, X, rfl, hcl, hok, HST.out.1, by have := HST.out.2.1; have := HSU.out.2.1; omega, HUN.out, hbe, hrE0, row_block (hkE _ (by omega)) HR13.out, by have := HR13.out.lt; omega⟩
        have HSE : Hid (w1.heap.size ≤ wE.heap.size) := Lib.hid (by have := HS3.out; have := HSZR.out; omega)
        clear hbl hbe hok hkE hsE hz hcl hrE0
        go_wp2_with fail
        go_roundw
        case rel => exact ⟨HSE.out, _, HN.out⟩
        case measure =>
          have h1 := (least_spec ⟨_, HN.out⟩).2 _ HN.out
          have h2 := HST.out.2.1
          have h3 := HMU.out
          omega
      · as_aux_lemma =>
        have kb : (u.kind == 10) = false := by simpa using hk10
        have HWU : Hid (t.whole (n + 1) = u.withArgs (u.args.map (TT.whole n))) := Lib.hid (by rw [HW.out, ← HSU.out.2.2, TT.unf_not hk10])
        have HSN : Hid (∀ i (hi : i < u.args.length), u.args[i].sane false = true ∧ u.args[i].bulk 0 ≤ n) := Lib.hid fun i hi => ⟨TT.sane_args HSU.out.1 hk10 _ (List.getElem_mem hi), by have := TT.bulk_arg HSU.out.1 hk10 (List.getElem_mem hi); have := HSU.out.2.1; omega⟩
        clear hk10 HMU HSL HSU HW
        rename World => wL
        obtain ⟨k, v, vs, lo, hi0, ws, p, l⟩ := u
        have hlen : l.length ≤ 651562446070 := HK.out.ok.parts.1.1
        have HROW : Hid (∀ W, AgreeS S' wL W → TRow W l U.aa) := Lib.hid fun W ha => (HK.out W ha).parts.2.2.2.2.2
        obtain ⟨n0, hn0⟩ : ∃ n0, n0 = w.heap.size := ⟨_, rfl⟩
        obtain ⟨n1, hn1⟩ : ∃ n1, n1 = w0.heap.size := ⟨_, rfl⟩
        have hz01 := HZ.out.1
        rw [← hn0] at HC HR0 HSS f0 ⊢
        rw [← hn0, ← hn1] at hz01
        rw [← hn1] at HR1 HSS ⊢
        have hn1L := HR1.out.lt
        have HN0 : Hid (n0 = w.heap.size) := Lib.hid hn0
        clear hn0 hn1
        rename (Nat → Prop) => S1
        simp only [TT.kind_mk, TT.args_mk] at kb HSN f0
        go_wp2_with (first | refine wpList_load15 (by rfl) (by rfl) (by rfl) HC.out ?_ | refine wpList_box15 (t := (TT.mk k v vs lo hi0 ws p l)) (A := U) (by rfl) (by rfl) (by rfl) (by rfl) (by rfl) (by rfl) (by rfl) (by rfl) ?_)
        intro w3 hc5 hb3 s3 R5
        obtain ⟨l', hl'⟩ : ∃ l', l' = l.map (TT.whole n) := ⟨_, rfl⟩
        have HLL : Hid (l'.length = l.length) := Lib.hid (by rw [hl', List.length_map])
        have HGET : Hid (∀ (i : Nat) (h : i < l.length) (h' : i < l'.length), l'[i] = l[i].whole n) := Lib.hid fun i h h' => by subst hl'; rw [List.getElem_map]
        replace HWU : Hid (t.whole (n + 1) = TT.mk k v vs lo hi0 ws p l') := Lib.hid (by rw [HWU.out, hl']; rfl)
        obtain ⟨w4, hw4, hk4, hs4, hb4, h4, hf4, hr4⟩ := args_set (a' := none) (n := 0) (c' := 0) hc5
        have hbo4 := h4 (TT.mk k v vs lo hi0 ws p []) { U with aa := none, ac := 0 } rfl rfl rfl rfl rfl rfl rfl rfl rfl
        have c14 : w3.cell? ⟨wL.heap.size, 14, none⟩ = some (.slice U.aa l.length U.ac) := by obtain ⟨_, _, _, _, _, _, _, _, _, _, _, _, _, _, q14⟩ := hc5; exact q14
        have z14 : w3.frozen? ⟨wL.heap.size, 14, none⟩ = false := R5.frozen 14
        have hbw4 : Below wL.heap.size wL w4 := hb4 _ _ (Nat.le_refl _) hb3
        have HR54 := Lib.hid (hr4 _ _ R5)
        obtain ⟨S', hS'⟩ : ∃ S' : Nat → Prop, S' = fun q => S1 q ∨ q = wL.heap.size := ⟨_, rfl⟩
        have HBO4 := Lib.hid hbo4; have HBW4 := Lib.hid hbw4; have HK4 := Lib.hid hk4; have HS4 := Lib.hid hs4
        have HR13 := Lib.hid (HR1.out.below hn1L hb3); have HC23 := Lib.hid (HC.out.below hb3)
        have HSB : Hid (S' wL.heap.size ∧ S' n1) := Lib.hid (by rw [hS']; exact ⟨.inr rfl, .inl HSS.out.2.2.1⟩)
        have HBB : Hid (wL.heap.size < w3.heap.size) := Lib.hid s3
        have HS1 : Hid (∀ q, S1 q → q < wL.heap.size) := HSLr
        have h0L : n0 < wL.heap.size := HR0.out.lt
        clear hbo4 hbw4 hk4 hs4 hb4 h4 hf4 hr4 hl' hc5 R5
        go_wp2_with fail
        clear hw4 c14 z14
        go_loopw [4] (fun x wr => ∃ (i : Nat) (L : List (TT × TA)) (a : Option Addr) (c : Nat), x = .int .i64 i ∧ i ≤ l.length ∧ L.length = i ∧ L.map (·.1) = l'.take i ∧ GRow S' w3.heap.size wr L a c ∧ TCells wr wL.heap.size 0 (TT.mk k v vs lo hi0 ws p (L.map (·.1))) { U with aa := a, ac := c } ∧ (∀ q, q < w3.heap.size → q ≠ wL.heap.size → wr.heap[q]? = w3.heap[q]?) ∧ Below wL.heap.size wL wr ∧ w3.heap.size ≤ wr.heap.size ∧ RowAt wr 47 wL.heap.size 15) (fun x _ => l.length - (intOf x).toNat)
        case atStart => exact ⟨0, [], none, 0, rfl, by omega, rfl, by simp, GRow.nil _ _ _, HBO4.out, fun q _ h2 => HK4.out q h2, HBW4.out, by rw [HS4.out]; exact Nat.le_refl _, HR54.out⟩
        case round =>
          obtain ⟨i, L, a, c, rfl, hi, hLi, hmapL, hG, hbo, hold, hBE, hs3r, hrb⟩ := hrel
          have F14 : wr.cell? ⟨n0, 14, none⟩ = some (.slice U.aa l.length U.ac) := cell_block (hold _ (by omega) (by omega)) (by obtain ⟨_, _, _, _, _, _, _, _, _, _, _, _, _, _, q14⟩ := HC23.out; exact q14)
          by_cases hlt : i < l.length
          · as_aux_lemma =>
            obtain ⟨SR, hSR⟩ : ∃ SR : Nat → Prop, SR = fun q => S1 q ∨ (wL.heap.size ≤ q ∧ q < wr.heap.size) := ⟨_, rfl⟩
            obtain ⟨b, o, X, ea, hSb, hcX, hkX⟩ := elemA HROW.out hlt
            have hagr : ∀ q, q < wL.heap.size → wr.heap[q]? = wL.heap[q]? := fun q hq => hBE.block q hq
            have hup : ∀ (z : TT) (Z : TA), TOkA S1 wL z Z → TOkA SR wr z Z := fun z Z h => h.step hBE.size fun q g1 g2 => ⟨by rw [hSR]; rintro (g | g); exact g2 g; omega, hagr q g1⟩
            have HXC := Lib.hid (hcX.keep (w' := wr) (fun oo u hu => cell_block (hagr _ (lt_of_cell hcX.1)) hu))
            have HXK := Lib.hid (hup _ _ hkX)
            have hsl : ∀ q, SR q → q < wr.heap.size := fun q hq => by
              rw [hSR] at hq
              rcases hq with h | h
              · have := HS1.out q h; have := hBE.size; omega
              · omega
            have hsr : ∀ q, OwnS S' a q → SR q := fun q hq => by
              rw [hSR]
              rcases hq with h | h
              · rw [hS'] at h
                rcases h with h | h
                · exact .inl h
                · exact .inr ⟨by omega, by omega⟩
              · exact .inr ⟨by have := hG.new q h; omega, hG.blk q h⟩
            have hne : ∀ b', a = some ⟨b', 0, none⟩ → wL.heap.size ≠ b' := fun b' e => by have := hG.new b' e; omega
            have HSL := Lib.hid hsl; have HSR := Lib.hid hsr; have HNE := Lib.hid hne; have HI := Lib.hid hlt
            have HBV := Lib.hid (fun W (h : Below wr.drew.heap.size wr.drew W) => (Below.refl _ wr).drew.trans h)
            have HA14 : Hid (wr.cell? ⟨n0, 14, none⟩ = some (.slice (some ⟨b, o, none⟩) l.length U.ac)) := Lib.hid (by rw [← ea]; exact F14)
            have H14 : Hid (wr.cell? ⟨wL.heap.size, 14, none⟩ = some (.slice a i c)) := Lib.hid (by obtain ⟨_, _, _, _, _, _, _, _, _, _, _, _, _, _, q14⟩ := hbo; rw [← hLi]; simpa [TT.args] using q14)
            have HRB := Lib.hid hrb; have HG := Lib.hid hG; have HBO := Lib.hid hbo; have HLI := Lib.hid hLi; have HMAP := Lib.hid hmapL; have HOLD := Lib.hid hold; have HBR := Lib.hid hs3r; have HBE := Lib.hid hBE
            have HG12 : Hid (decide ((i : Int) < l.length) = true ∧ decide (i < l.length) = true) := Lib.hid ⟨decide_eq_true (by omega), decide_eq_true hlt⟩
            have hi' : i < l'.length := by have := HLL.out; omega
            have g1 := HG12.out.1
            have g2 := HG12.out.2
            clear hrb hG hbo hmapL hold hsl hsr hne hup hagr hcX hkX ea hSb hLi hBE
            obtain ⟨V, hV⟩ : ∃ V, V = l[i].whole n := ⟨_, rfl⟩
            have HEL := Lib.hid hV
            have HUL : Hid (∀ h : i < l'.length, l'[i] = V) := Lib.hid fun h => (HGET.out i hlt h).trans HEL.out.symm
            clear hV
            go_wp2_with fail
            try simp only [List.append_eq, List.cons_append, List.nil_append]
            refine wp_region_partW [] (kindT [(19, .fixed (.pointer (some ⟨wL.heap.size, 14, none⟩))), (20, .fixed (.slice a i c)), (21, .fixed (.pointer (some ⟨n0, 14, none⟩))), (22, .fixed (.slice (some ⟨b, o, none⟩) l.length U.ac)), (23, .fixed (.int .i64 i)), (24, .fixed (.pointer (some ⟨b, o + i * 15, none⟩))), (25, .fixed (TT.val l[i] X)), (26, .prop (fun x W => TInA SR W V x) (fun _ _ _ h hb => h.below hb)), (27, .prop (fun x W => ∃ B Y, x = .slice (some ⟨B, 0, none⟩) 1 1 ∧ TCells W B 0 V Y ∧ TOkA SR W V Y) (fun _ _ _ ⟨B, Y, e, hc, hk⟩ hb => ⟨B, Y, e, hc.below hb, hk.below hb⟩))]) 9 31 (by kernel_rfl) (by kernel_rfl) (by rfl) (by decide) (fun _ h => by cases h) (kindT_mono _) ?_ ?_
            · as_aux_lemma =>
              show ∀ o ∈ [(0, _), (1, _), (2, _), (3, _), (4, _), (5, _), (6, _), (7, _), (8, _)], _
              refine (tfm ?_ (tfm ?_ (tfm ?_ (tfm ?_ (tfm ?_ (tfm ?_ (tfm ?_ (tfm ?_ (tfm ?_ tfmnil)))))))))
              · intro r W hc hf hs hd hB
                have hBV := HBV.out W hB
                refine want_n rfl ?_
                have e3 : r (.tmp 3) = .pointer (some ⟨wL.heap.size, 0, none⟩) := hs 3 (by kernel_rfl)
                exact st_value (v := .pointer (some ⟨wL.heap.size, 14, none⟩)) rfl (by decide) (by go_simp) rfl
              · intro r W hc hf hs hd hB
                have hBV := HBV.out W hB
                refine want_n rfl ?_
                have e19 : r (.tmp 19) = .pointer (some ⟨wL.heap.size, 14, none⟩) := hd 19 (by kernel_rfl)
                have g := cell_stays hBV H14.out
                exact st_value (v := .slice a i c) rfl (by decide) (by go_simp) rfl
              · intro r W hc hf hs hd hB
                have hBV := HBV.out W hB
                refine want_n rfl ?_
                have e1 : r (.tmp 1) = .pointer (some ⟨n0, 0, none⟩) := hs 1 (by kernel_rfl)
                exact st_value (v := .pointer (some ⟨n0, 14, none⟩)) rfl (by decide) (by go_simp) rfl
              · intro r W hc hf hs hd hB
                have hBV := HBV.out W hB
                refine want_n rfl ?_
                have e21 : r (.tmp 21) = .pointer (some ⟨n0, 14, none⟩) := hd 21 (by kernel_rfl)
                have g := cell_stays hBV HA14.out
                exact st_value (v := .slice (some ⟨b, o, none⟩) l.length U.ac) rfl (by decide) (by go_simp) rfl
              · intro r W hc hf hs hd hB
                have hBV := HBV.out W hB
                refine want_n rfl ?_
                have e4 : r (.tmp 4) = .int .i64 i := hs 4 (by kernel_rfl)
                exact st_value (v := .int .i64 i) rfl (by decide) (by go_simp) rfl
              · intro r W hc hf hs hd hB
                have hBV := HBV.out W hB
                refine want_n rfl ?_
                have e22 : r (.tmp 22) = .slice (some ⟨b, o, none⟩) l.length U.ac := hd 22 (by kernel_rfl)
                have e23 : r (.tmp 23) = .int .i64 i := hd 23 (by kernel_rfl)
                have g1 := HG12.out.1
                have g2 := HG12.out.2
                exact st_value (v := .pointer (some ⟨b, o + i * 15, none⟩)) rfl (by decide) (by go_simp) rfl
              · intro r W hc hf hs hd hB
                have hBV := HBV.out W hB
                refine want_n rfl ?_
                have e24 : r (.tmp 24) = .pointer (some ⟨b, o + i * 15, none⟩) := hd 24 (by kernel_rfl)
                exact st_value (v := TT.val l[i] X) rfl (by decide) (run_load15 (HXC.out.below hBV) rfl e24) rfl
              · intro r W hc hf hs hd hB
                have hBV := HBV.out W hB
                refine want_n rfl ?_
                have e25 : r (.tmp 25) = TT.val l[i] X := hd 25 (by kernel_rfl)
                exact st_call (f := 70) (args := #[TT.val l[i] X]) rfl (by decide) (by go_simp) (HEL.out ▸ IH.out l[i] _ W SR (HSN.out i HI.out).1 (HSN.out i HI.out).2 ⟨X, rfl, HXK.out.below hBV⟩ (fun q hq => Nat.lt_of_lt_of_le (HSL.out q hq) hBV.size))
              · intro r W hc hf hs hd hB
                have hBV := HBV.out W hB
                refine want_n rfl ?_
                have h26 : TInA SR W V (r (.tmp 26)) := hd 26 (by kernel_rfl)
                obtain ⟨Y, e26, kY⟩ := h26
                obtain ⟨w2', hw2', m2', s2', hc2', _⟩ := row1_new W V Y
                exact st_new (v := .slice (some ⟨W.heap.size, 0, none⟩) 1 1) (w' := w2') rfl (by decide) (run_row1 rfl e26 hw2') m2' ⟨_, Y, rfl, hc2', kY.below m2'⟩
            intro f w5 fuel hfuel hfd _ hB'
            have z1 : f 20 = .slice a i c := hfd 20 (of_decide_eq_true (by kernel_rfl))
            have z2 : ∃ B Y, f 27 = .slice (some ⟨B, 0, none⟩) 1 1 ∧ TCells w5 B 0 V Y ∧ TOkA SR w5 V Y := hfd 27 (of_decide_eq_true (by kernel_rfl))
            obtain ⟨B, Y, z2, hcY, hkY⟩ := z2
            have hB1 := HBV.out w5 hB'
            have hli : L.length = i := HLI.out
            have hg5 := HG.out.below hB1
            have hbo5 := HBO.out.below hB1
            have hkY' : TOkA (OwnS S' a) w5 V Y := hkY.step (Nat.le_refl _) fun q h1 h2 => ⟨fun h => h2 (HSR.out q h), rfl⟩
            obtain ⟨a', c', w6, hap, hg6, hb6, ho6⟩ := hg5.append (Nat.le_trans HBR.out hB1.size) hcY hkY' (by omega)
            rw [hli] at hap
            obtain ⟨w7, hw7, hk7, hs7, hb7, h7, _, hr7⟩ := args_set (w := w6) (a' := a') (n := i + 1) (c' := c') (bo := wL.heap.size) (TCells.block (ho6 _ (lt_of_cell hbo5.1) (fun b' e => HNE.out b' e)).1 hbo5)
            have hg7 := hg6.other (bo := wL.heap.size) HSB.out.1 HBB.out hk7 hs7
            have HST : Hid (w6.cell? ⟨wL.heap.size, 14, none⟩ = some (.slice a i c) ∧ w6.frozen? ⟨wL.heap.size, 14, none⟩ = false) := Lib.hid ⟨cell_block (ho6 _ (lt_of_cell hbo5.1) (fun b' e => HNE.out b' e)).1 (cell_stays hB1 H14.out), (row_block (ho6 _ (lt_of_cell hbo5.1) (fun b' e => HNE.out b' e)).1 (HRB.out.below (Nat.lt_of_lt_of_le HBB.out HBR.out) hB1)).frozen 14⟩
            have hrb7 := hr7 47 15 (row_block (ho6 _ (lt_of_cell hbo5.1) (fun b' e => HNE.out b' e)).1 (HRB.out.below (Nat.lt_of_lt_of_le HBB.out HBR.out) hB1))
            have HAP := Lib.hid hap; have HW7 := Lib.hid hw7; clear hw7
            have hold7 : ∀ q, q < w3.heap.size → q ≠ wL.heap.size → w7.heap[q]? = w3.heap[q]? := fun q h1 h2 => (hk7 q h2).trans ((hb6.block q h1).trans ((hB1.block q (Nat.lt_of_lt_of_le h1 HBR.out)).trans (HOLD.out q h1 h2)))
            have hbel : Below wL.heap.size wL wr → Below wL.heap.size wL w7 := fun h => hb7 _ _ (Nat.le_refl _) ((h.trans (hB1.mono h.size)).trans (hb6.mono (by have := HBB.out; omega)))
            have hsz7 : w3.heap.size ≤ w7.heap.size := by rw [hs7]; exact Nat.le_trans (Nat.le_trans HBR.out hB1.size) hb6.size
            have hout7 := h7 (TT.mk k v vs lo hi0 ws p ((L ++ [(V, Y)]).map (·.1))) { U with aa := a', ac := c' } rfl rfl rfl rfl rfl rfl rfl rfl (by simp [TT.args, hli])
            have hmap : (L ++ [(V, Y)]).map (·.1) = l'.take (i + 1) := by
              have hi' : i < l'.length := by have := HLL.out; have := HI.out; omega
              rw [List.map_append, HMAP.out, List.take_add_one, List.getElem?_eq_getElem hi']
              simp [HUL.out hi']
            have hlen7 : (L ++ [(V, Y)]).length = i + 1 := by simp [hli]
            have HRES := Lib.hid (And.intro hg7 (And.intro hout7 (And.intro hold7 (And.intro hbel (And.intro hsz7 (And.intro hmap (And.intro hlen7 hrb7)))))))
            have hfuel' : 3 ≤ fuel := hfuel
            obtain ⟨fuel, rfl⟩ : ∃ k, fuel = k + 3 := ⟨fuel - 3, by omega⟩
            rw [show dstsTo 9 _ = [19, 20, 21, 22, 23, 24, 25, 26, 27] from by kernel_rfl]
            simp only [fill, List.setIfInBounds_toArray, List.set_cons_succ, List.set_cons_zero, z1, z2]
            clear z1 z2 hfd hfuel hfuel' hB' hB1 hg5 hbo5 hkY' hcY hkY hap hg6 hb6 ho6 hk7 hs7 hb7 h7 hg7 hold7 hbel hsz7 hout7 hmap hrb7
            refine wpAny_next (i := 9) (by kernel_rfl) (by rfl) rfl (wp_append_run (by rfl) (by rfl) (by rfl) HAP.out ?_)
            refine wpAny_next (i := 10) (by kernel_rfl) (by rfl) rfl (wp_val (v := .pointer (some ⟨wL.heap.size, 14, none⟩)) (w' := w6) (by go_simp) ?_)
            refine wpAny_next (i := 11) (by kernel_rfl) (by rfl) rfl (wp_skip (w' := w7) (by have h := HW7.out; have h1 := HST.out.1; have h2 := HST.out.2; go_simp) rfl ?_)
            refine wpAny_done (by kernel_rfl) ?_ _
            clear HAP
            go_wp2_with fail
            go_roundw
            case rel => exact ⟨i + 1, L ++ [(V, Y)], a', c', by go_num, by omega, hlen7, HRES.out.2.2.2.2.2.1, HRES.out.1, HRES.out.2.1, HRES.out.2.2.1, HRES.out.2.2.2.1 HBE.out, HRES.out.2.2.2.2.1, HRES.out.2.2.2.2.2.2.2⟩
            case measure => simp [intOf]; omega
          · as_aux_lemma =>
            have hie : i = l.length := by omega
            subst hie
            have g1 : decide ((l.length : Int) < l.length) = false := decide_eq_false (by omega)
            have g2 : decide (l.length < l.length) = false := decide_eq_false (by omega)
            have hR : RowAt wr 47 n1 15 := row_block (hold _ (by omega) (by omega)) HR13.out
            have HR := Lib.hid hR; have HBO := Lib.hid hbo; have HG := Lib.hid hG; have HBEL := Lib.hid hBE
            have HML : Hid (L.map (·.1) = l') := Lib.hid (by rw [hmapL, List.take_of_length_le (by rw [HLL.out]; exact Nat.le_refl _)])
            clear hR hbo hG hBE hmapL hold
            go_wp2_with (first | refine wpList_load15 (by rfl) (by rfl) (by rfl) HBO.out ?_ | refine wpList_store15 (t := TT.mk k v vs lo hi0 ws p (L.map (·.1))) (A := { U with aa := a, ac := c }) (by rfl) (by rfl) (by rfl) (by rfl) (by rfl) HR.out (by decide) ?_)
            intro wE hcl hkE hsE hbl
            have hN0 := HN0.out
            have hbe : Below w.heap.size w wE := hbl _ _ (by omega) (HBE.out.trans (HBEL.out.mono HBE.out.size))
            have hgE := HG.out.other (bo := n1) HSB.out.2 (by omega) hkE hsE
            have hrowE := hgE.trow (S := S1) (fun q h => by rw [hS']; exact .inl h) (fun q h => by have := HS1.out q h; omega)
            rw [HML.out] at hrowE hcl
            have hp1 := tok_args (S := S1) (S' := S1) (c' := c) (w' := wE) HK.out (by have := HBEL.out.size; omega) (fun q g1 g2 => ⟨g2, (hkE q fun e => g2 (by rw [e]; exact HSS.out.2.2.1)).trans (HBEL.out.block q g1)⟩) (by rw [HLL.out]; exact hlen) hrowE
            have HPOST : Hid (TOkA S wE (TT.mk k v vs lo hi0 ws p l') { U with aa := a, ac := c }) := Lib.hid (hp1.step (Nat.le_refl _) fun q _ h2 => ⟨fun h => h2 (HSS.out.1 q h), rfl⟩)
            have HBE2 := Lib.hid hbe
            clear hbl hbe hgE hrowE hkE hsE HG HR HBO hp1
            go_wp2_with fail
            refine bodyPost_ret (v := TT.val (TT.mk k v vs lo hi0 ws p l') { U with aa := a, ac := c }) ?_ rfl ⟨_, rfl, by rw [HWU.out]; exact ⟨_, rfl, HPOST.out⟩, HBE2.out⟩
            exact results_cell Try.results70 rfl hcl
end Go.Proofs.Yteebbffecaeciaa
/- The document's Whole (chapter 21), and the law's bare. -/
namespace Go.Proofs.Yteebbffecaeciaa
open Go.RowKit

/-- what is handed back: a term and an error. -/
def UTold (r : TT × Int) (w : World) (e : Ending) (w' : World) : Prop := ∃ x', e = .returned (.tuple #[x', .int .i64 r.2]) ∧ TIn w' r.1 x' ∧ Below w.heap.size w w'
theorem UMade.told {r : TT × Int} {w : World} {e : Ending} {w' : World} (h : UMade r w e w') : UTold r w e w' := by
  obtain ⟨x, he, hx, hb⟩ := h; exact ⟨x, he, hx.tin, hb⟩
set_option maxRecDepth 100000 in
set_option maxHeartbeats 8000000 in
theorem rtWhole_any (t : TT) (x : Value) (w : World) (hcn : t.cnt ≤ 3000000) (hln : t.lean = true) (hx : TIn w t x) : Calls Try.prog 29 #[x] w (UTold t.wholeE w) := by
  obtain ⟨A, rfl, hok⟩ := hx
  obtain ⟨w0, hw0, m0, z0, hc0, _⟩ := row1_new w t A
  obtain ⟨w1, hw1, m1, z1, R1, _⟩ := box15 w0 (.int .u8 0) (.int .u8 0) (.int .i64 0) (.slice none 0 0) (.slice none 0 0) (.int .i64 0) (.int .i64 0) (.slice none 0 0) (.int .u8 0) (.int .u8 0) (.int .i64 0) (.slice none 0 0) (.int .i64 0) (.slice none 0 0) (.slice none 0 0) 47
  have hB1 : Below w.heap.size w w1 := m0.trans (m1.mono (Nat.le_of_lt z0))
  have HC := Lib.hid (hc0.below m1); have HOK := Lib.hid (hok.below hB1); have HOKA := Lib.hid (hok.old hB1 (S := fun q => q = w0.heap.size) (fun q hq => by rw [hq]; exact Nat.le_of_lt z0)); have HBE := Lib.hid hB1; have HR := Lib.hid R1; have HZ := Lib.hid (And.intro z0 z1)
  have HCN := Lib.hid hcn; have HLN := Lib.hid hln
  clear hok hc0 R1 m0 m1 z0 z1 hB1 hcn hln
  obtain ⟨so, hso⟩ : ∃ b, b = t.sound := ⟨_, rfl⟩
  have HSO := Lib.hid hso; clear hso
  unfold TT.val
  go_enter Try.func29, Try.ntmps29
  go_wp2_with (first | refine wpList_load15 (by rfl) (by rfl) (by rfl) HC.out ?_)
  refine (rtSound_any t (t.val A) _ HCN.out HLN.out ⟨A, rfl, HOK.out⟩).mono ?_
  rintro e w3 ⟨rfl, hb3⟩
  rw [← HSO.out]
  have hlt := HZ.out.2
  have HLT3 : Hid (w0.heap.size < w3.heap.size) := Lib.hid (Nat.lt_of_lt_of_le hlt hb3.size)
  replace HC := Lib.hid (HC.out.below hb3); replace HOKA := Lib.hid (HOKA.out.below hb3); replace HBE := Lib.hid (HBE.out.trans (hb3.mono HBE.out.size)); replace HR := Lib.hid (HR.out.below hlt hb3)
  clear hb3 hw0 hw1 hlt
  cases so
  · as_aux_lemma =>
    have HE : Hid (t.wholeE = (tZero, 3)) := Lib.hid (by unfold TT.wholeE; rw [← HSO.out]; rfl)
    go_wp2_with (first | refine wpList_store15 (t := tZero) (A := zeroA) (by rfl) (by rfl) (by rfl) (by rfl) (by rfl) HR.out (by decide) ?_)
    intro wE hcl hkE hsE hbl
    have hz := HZ.out
    have hbe : Below w.heap.size w wE := hbl _ _ (by omega) HBE.out
    have HBE2 := Lib.hid hbe
    clear hbl hbe hz hkE hsE
    go_wp2_with fail
    refine bodyPost_ret (v := .tuple #[TT.val tZero zeroA, .int .i64 3]) ?_ rfl ⟨_, by rw [HE.out], by rw [HE.out]; exact (tfin_zero _ 0).tin, HBE2.out⟩
    exact results_cell2 Try.results29 rfl rfl hcl
  · as_aux_lemma =>
    have HE : Hid (t.wholeE = (t.Whole, 0)) := Lib.hid (by unfold TT.wholeE; rw [← HSO.out]; rfl)
    obtain ⟨g1, g2, _⟩ := TT.sound_parts HSO.out.symm
    have HG := Lib.hid (And.intro g1 g2)
    clear g1 g2
    go_wp2_with (first | refine wpList_load15 (by rfl) (by rfl) (by rfl) HC.out ?_)
    refine (rtwhole_any 4096 t (t.val A) w3 (fun q => q = w0.heap.size) HG.out.1 HG.out.2 ⟨A, rfl, HOKA.out⟩ (fun q hq => by rw [hq]; exact HLT3.out)).mono ?_
    rintro e w4 ⟨z, rfl, ⟨Y, rfl, hY⟩, hb4⟩
    rw [show t.whole 4096 = t.Whole from rfl] at hY ⊢
    have HY := Lib.hid hY
    replace HR := Lib.hid (HR.out.below HR.out.lt hb4); replace HBE := Lib.hid (HBE.out.trans (hb4.mono HBE.out.size))
    clear hY hb4
    go_wp2_with (first | refine wpList_store15 (t := t.Whole) (A := Y) (by rfl) (by rfl) (by rfl) (by rfl) (by rfl) HR.out (by decide) ?_)
    intro wE hcl hkE hsE hbl
    have hz := HZ.out
    have hbe : Below w.heap.size w wE := hbl _ _ (by omega) HBE.out
    have HP : Hid (TOk wE t.Whole Y) := Lib.hid (HY.out wE ⟨Nat.le_of_eq hsE.symm, fun q _ hq => hkE q hq⟩)
    have HBE2 := Lib.hid hbe
    clear hbl hbe hz hkE hsE
    go_wp2_with fail
    refine bodyPost_ret (v := .tuple #[TT.val t.Whole Y, .int .i64 0]) ?_ rfl ⟨_, by rw [HE.out], by rw [HE.out]; exact ⟨Y, rfl, HP.out⟩, HBE2.out⟩
    exact results_cell2 Try.results29 rfl rfl hcl
theorem TT.bares_drop {l : List TT} {i : Nat} (h : i < l.length) : TT.bares (l.drop i) = (l[i].bare && TT.bares (l.drop (i + 1))) := by rw [drop_cons h, TT.bares]
set_option maxRecDepth 100000 in
set_option maxHeartbeats 8000000 in
theorem ubare_any (N : Nat) : ∀ (t : TT) (x : Value) (w : World), t.cnt ≤ N → TIn w t x →
    Calls Try.prog 39 #[x] w fun e w' => e = .returned (.bool t.bare) ∧ Below w.heap.size w w' := by
  induction N with
  | zero => intro t x w h; have := TT.cnt_pos t; omega
  | succ N ih =>
    intro t x w hcn hx
    have IH := Lib.hid ih; clear ih
    obtain ⟨A, rfl, hok⟩ := hx
    obtain ⟨k, v, vs, lo, hi0, ws, p, l⟩ := t
    have hlen : l.length ≤ 651562446070 := hok.parts.1.1
    have hcs : ∀ i (h : i < l.length), l[i].cnt ≤ N := fun i h => by have := TT.cnts_get h; rw [TT.cnt] at hcn; omega
    obtain ⟨w0, hw0, m0, z0, hc0, _⟩ := row1_new w (TT.mk k v vs lo hi0 ws p l) A
    have HROW := Lib.hid ((hok.below m0).parts.2.2.2.2.2)
    have q0 : w0.cell? ⟨w.heap.size, 0, none⟩ = some (.int .u8 k) := hc0.1
    have q14 : w0.cell? ⟨w.heap.size, 14, none⟩ = some (.slice A.aa l.length A.ac) := by obtain ⟨_, _, _, _, _, _, _, _, _, _, _, _, _, _, q⟩ := hc0; exact q
    have HCS := Lib.hid hcs; have HM := Lib.hid m0
    clear hok hc0 hcs m0 z0 hcn
    simp only [TT.args_mk] at HROW
    unfold TT.val
    simp only [TT.kind_mk, TT.v_mk, TT.vs_mk, TT.lo_mk, TT.hi_mk, TT.ws_mk, TT.p_mk, TT.args_mk] at hw0 ⊢
    go_enter Try.func39, Try.ntmps39
    by_cases hk10 : k = 10
    · as_aux_lemma =>
      have kb : (k == 10) = true := by simp [hk10]
      have HBR : Hid (TT.bare (TT.mk k v vs lo hi0 ws p l) = false) := Lib.hid (by rw [TT.bare, hk10]; rfl)
      clear hk10
      go_wp2_with fail
      go_ret
      exact ⟨ret_bool HBR.out.symm, HM.out⟩
    · have kb : (k == 10) = false := by simpa using hk10
      by_cases hk11 : k = 11
      · as_aux_lemma =>
        have kb2 : (k == 11) = true := by simp [hk11]
        have HBR : Hid (TT.bare (TT.mk k v vs lo hi0 ws p l) = false) := Lib.hid (by rw [TT.bare, hk11]; rfl)
        clear hk10 hk11
        go_wp2_with fail
        go_ret
        exact ⟨ret_bool HBR.out.symm, HM.out⟩
      · as_aux_lemma =>
        have kb2 : (k == 11) = false := by simpa using hk11
        have HBR : Hid (TT.bare (TT.mk k v vs lo hi0 ws p l) = TT.bares l) := Lib.hid (by rw [TT.bare]; simp [hk10, hk11])
        clear hk10 hk11
        go_wp2_with fail
        clear hw0
        go_loopw [3] (fun x wr => ∃ i : Nat, x = .int .i64 i ∧ i ≤ l.length ∧ TT.bares l = TT.bares (l.drop i) ∧ Below w0.heap.size w0 wr) (fun x _ => l.length - (intOf x).toNat)
        case atStart => exact ⟨0, rfl, by omega, by simp, Below.refl _ _⟩
        case round =>
          obtain ⟨i, rfl, hi, he, hB⟩ := hrel
          have HE := Lib.hid he; have HB := Lib.hid hB
          have f14 := cell_stays hB q14
          clear he hB
          by_cases hlt : i < l.length
          · as_aux_lemma =>
            have d1 : decide ((i : Int) < l.length) = true := decide_eq_true (by omega)
            have d2 : decide (i < l.length) = true := decide_eq_true hlt
            obtain ⟨b, o, ea, X, hcX, hkX⟩ := HROW.out.get i hlt
            have HXC := Lib.hid (hcX.below HB.out); have HXK := Lib.hid (hkX.below HB.out)
            rw [ea] at f14
            obtain ⟨r, hr⟩ : ∃ r, r = l[i].bare := ⟨_, rfl⟩
            have HR := Lib.hid hr
            have HD := Lib.hid (TT.bares_drop hlt)
            clear ea hcX hkX hr q0 q14 kb kb2
            go_wp2_with (first | refine wpList_load15 (by rfl) (by rfl) (by rfl) HXC.out ?_)
            refine (IH.out l[i] _ wr (HCS.out i hlt) ⟨X, rfl, HXK.out⟩).mono ?_
            rintro e w5 ⟨rfl, hb5⟩
            rw [← HR.out]
            have HB5 := Lib.hid (HB.out.trans (hb5.mono HB.out.size))
            clear hb5 f14
            cases r
            · go_wp2_with fail
              go_ret
              exact ⟨ret_bool (by rw [HBR.out, HE.out, HD.out, ← HR.out]; rfl), HM.out.trans (HB5.out.mono HM.out.size)⟩
            · go_wp2_with fail
              go_roundw
              case rel => exact ⟨i + 1, by go_num, by omega, by rw [HE.out, HD.out, ← HR.out, Bool.true_and], HB5.out⟩
              case measure => simp [intOf]; omega
          · as_aux_lemma =>
            have d1 : decide ((i : Int) < l.length) = false := decide_eq_false (by omega)
            have d2 : decide (i < l.length) = false := decide_eq_false hlt
            go_wp2_with fail
            go_ret
            exact ⟨ret_bool (by rw [HBR.out, HE.out, drop_nil hlt, TT.bares]), HM.out.trans (HB.out.mono HM.out.size)⟩
end Go.Proofs.Yteebbffecaeciaa
/- TermCopies: the law's function, walked. -/
namespace Go.Proofs.Yteebbffecaeciaa
open Go.RowKit

mutual
theorem PT.same_iff : ∀ a b : PT, PT.same a b = true ↔ a = b
  | .mk k v n l, .mk k' v' n' l' => by
    rw [PT.same]
    simp only [Bool.and_eq_true, beq_iff_eq, VT.same_iff, PT.sameAll_iff l l', PT.mk.injEq]
    constructor
    · intro h; simp_all
    · intro h; simp_all
theorem PT.sameAll_iff : ∀ l m : List PT, PT.sameAll l m = true ↔ l = m
  | [], [] => by simp [PT.sameAll]
  | [], _ :: _ => by simp [PT.sameAll]
  | _ :: _, [] => by simp [PT.sameAll]
  | a :: l, b :: m => by rw [PT.sameAll]; simp [PT.same_iff a b, PT.sameAll_iff l m]
end
mutual
theorem TT.same_iff : ∀ a b : TT, TT.same a b = true ↔ a = b
  | .mk k v vs lo hi ws p l, .mk k' v' vs' lo' hi' ws' p' l' => by
    rw [TT.same]
    simp only [Bool.and_eq_true, beq_iff_eq, VT.same_iff, VT.sameAll_iff, PT.same_iff, TT.sameAll_iff l l', TT.mk.injEq]
    constructor
    · rintro ⟨⟨⟨⟨⟨⟨⟨h1, h2⟩, h3⟩, h4⟩, h5⟩, h6⟩, h7⟩, h8⟩
      exact ⟨h1, h4, h5, h2, h3, h6, h7, h8⟩
    · rintro ⟨h1, h4, h5, h2, h3, h6, h7, h8⟩
      exact ⟨⟨⟨⟨⟨⟨⟨h1, h2⟩, h3⟩, h4⟩, h5⟩, h6⟩, h7⟩, h8⟩
theorem TT.sameAll_iff : ∀ l m : List TT, TT.sameAll l m = true ↔ l = m
  | [], [] => by simp [TT.sameAll]
  | [], _ :: _ => by simp [TT.sameAll]
  | _ :: _, [] => by simp [TT.sameAll]
  | a :: l, b :: m => by rw [TT.sameAll]; simp [TT.same_iff a b, TT.sameAll_iff l m]
end
theorem TT.same_refl (a : TT) : TT.same a a = true := (TT.same_iff a a).2 rfl
end Go.Proofs.Yteebbffecaeciaa
/- What the walks of chapter 21's laws share. -/
namespace Go.Proofs.Yteebbffecaeciaa
open Go.RowKit

theorem wpList_load15G {ops : Array Oper} {rest : List Oper} {o : Oper} {a : Act} {w : World} {Q : Exit → Act → World → Prop} {t : TT} {A : TA} {B q : Nat} {po : Operand} (g : Region.wanted o (yielded ops a.tmps) = true) (h : o.op = .load 47 po) (e : a.eval po = .pointer (some ⟨B, q, none⟩)) (hc : TCells w B q t A)
    (hk : wpList Try.prog ops Q rest (a.put o.dst (t.val A)) w) : wpList Try.prog ops Q (o :: rest) a w :=
  BigFrame.wpList_want g fun _ hK => wp_val (run_load15 hc h e) (hK _ _ hk)
theorem rtsame_refl (t : TT) (x y : Value) (w : World) (hx : TIn w t x) (hy : TIn w t y) : Calls Try.prog 31 #[x, y] w fun e w' => e = .returned (.bool true) ∧ Below w.heap.size w w' := by
  have h := rtsame_any t.cnt t t x y w (Nat.le_refl _) hx hy
  rwa [TT.same_refl] at h
end Go.Proofs.Yteebbffecaeciaa
