/- Texts of this claim laid into one: PFacts, PMath, PAll, PItems, VWalkB. -/
import Derived.Test.YteebbffecaeciaaM01
import Derived.Test.YteebbffecaeciaaM07
import Derived.Test.YteebbffecaeciaaM13
/- Plain facts of 'fit' and 'holds' on trees of predicates. -/
namespace Go.Proofs.Yteebbffecaeciaa
open Go.RowKit

mutual
/-- each node is of a kind, with the arguments that it wants. -/
def PT.fit : PT → Bool
  | .mk k _ n l => decide (1 ≤ k) && decide (k ≤ 11) && (decide (k ≠ 8) || decide (0 ≤ n)) && decide (PT.least k ≤ l.length) && PT.fits l
def PT.fits : List PT → Bool
  | [] => true
  | t :: ts => t.fit && PT.fits ts
end
theorem PT.fits_mem : ∀ (l : List PT), PT.fits l = true → ∀ t ∈ l, t.fit = true
  | a :: l, h, t, ht => by
    rw [PT.fits, Bool.and_eq_true] at h
    rcases List.mem_cons.1 ht with rfl | ht
    · exact h.1
    · exact PT.fits_mem l h.2 t ht
theorem PT.fits_get {l : List PT} {i : Nat} (h : PT.fits l = true) (hi : i < l.length) : l[i].fit = true := PT.fits_mem l h _ (List.getElem_mem hi)
theorem PT.every_drop {l : List PT} {i : Nat} (h : i < l.length) (x : VT) : PT.every (l.drop i) x = (l[i].holds x && PT.every (l.drop (i + 1)) x) := by rw [drop_cons h, PT.every]
theorem PT.some_drop {l : List PT} {i : Nat} (h : i < l.length) (x : VT) : PT.some (l.drop i) x = (l[i].holds x || PT.some (l.drop (i + 1)) x) := by rw [drop_cons h, PT.some]
section
variable (v : VT) (n : Int) (l : List PT) (x : VT)
theorem PT.holds1 : PT.holds (.mk 1 v n l) x = true := by rw [PT.holds]; simp
theorem PT.holds2 : PT.holds (.mk 2 v n l) x = false := by rw [PT.holds]; simp
theorem PT.holds3 : PT.holds (.mk 3 v n l) x = VT.same x v := by rw [PT.holds]; simp
theorem PT.holds4 : PT.holds (.mk 4 v n l) x = decide (VT.cmp x v < 0) := by rw [PT.holds]; simp
theorem PT.holds6 : PT.holds (.mk 6 v n l) x = PT.every l x := by rw [PT.holds]; simp
theorem PT.holds7 : PT.holds (.mk 7 v n l) x = PT.some l x := by rw [PT.holds]; simp
theorem PT.holdsN (k : Int) (h1 : 8 ≤ k) (h : ¬ (x.kind = 3 ∨ x.kind = 4)) : PT.holds (.mk k v n l) x = false := by
  rw [PT.holds, if_neg (by omega), if_neg (by omega), if_neg (by omega), if_neg (by omega), if_neg (by omega), if_neg (by omega), if_neg (by omega), if_pos h]
theorem PT.holds8 (h : x.kind = 3 ∨ x.kind = 4) : PT.holds (.mk 8 v n l) x = if h : 0 ≤ n ∧ n.toNat < x.items.length then PT.fst l x.items[n.toNat] else false := by rw [PT.holds]; simp [h]
theorem PT.holds9 (h : x.kind = 3 ∨ x.kind = 4) : PT.holds (.mk 9 v n l) x = x.items.all (fun i => PT.fst l i) := by rw [PT.holds]; simp [h]
theorem PT.holds10 (h : x.kind = 3 ∨ x.kind = 4) : PT.holds (.mk 10 v n l) x = x.items.any (fun i => PT.fst l i) := by rw [PT.holds]; simp [h]
theorem PT.holds11 (h : x.kind = 3 ∨ x.kind = 4) : PT.holds (.mk 11 v n l) x = PT.fst l (.mk 1 x.items.length []) := by rw [PT.holds]; simp [h]
end
end Go.Proofs.Yteebbffecaeciaa
/- When predicates may be; what makers' predicates hold of. -/
namespace Go.Proofs.Yteebbffecaeciaa
open Go.RowKit

end Go.Proofs.Yteebbffecaeciaa
/- The law's all: may all of these be, as predicates that stand deep within another one? -/
namespace Go.Proofs.Yteebbffecaeciaa
open Go.RowKit

end Go.Proofs.Yteebbffecaeciaa
/- PredItems: the plain law. -/
namespace Go.Proofs.Yteebbffecaeciaa
open Go.RowKit

end Go.Proofs.Yteebbffecaeciaa
/- val.Cmp. -/
namespace Go.Proofs.Yteebbffecaeciaa
open Go.RowKit

set_option maxRecDepth 100000 in
set_option maxHeartbeats 2000000 in
theorem cmp_any (N : Nat) : ∀ (s t : VT) (v u : Value) (w : World), s.size ≤ N → VIn w s v → VIn w t u →
    Calls Try.prog 168 #[v, u] w fun e w' => e = .returned (.int .i64 (VT.cmp s t)) ∧ Below w.heap.size w w' := by
  induction N with
  | zero => intro s t v u w h; have := VT.size_pos s; omega
  | succ N ih =>
    intro s t v u w hN hs ht
    obtain ⟨k, n, l⟩ := s
    obtain ⟨k', n', m⟩ := t
    obtain ⟨a, cap, hl, rfl, hr⟩ := hs.open
    obtain ⟨a', cap', hm, rfl, hr'⟩ := ht.open
    rw [VT.size] at hN
    have IH := Lib.hid ih; clear ih hs ht
    by_cases hk : k = k'
    · subst hk
      by_cases hlf : k = 1 ∨ k = 2
      · have hb : leafB k = true := by unfold leafB; simpa using hlf
        go_enter Try.func168, Try.ntmps168
        go_wp2_with (first | (go_at_call 136; refine (leaf_any _ _).mono ?_; rintro e w' ⟨rfl, rfl⟩) | (go_at_call 170; refine (cmp64 _ _ _).mono ?_; rintro e w' ⟨rfl, rfl⟩))
        go_ret
        exact ⟨ret_int (by rw [VT.cmp, if_neg (by simp), if_pos hlf]), ((Below.refl _ _).alloc (Nat.le_refl _) _).alloc (by simp) _⟩
      · have hb : leafB k = false := by unfold leafB; simpa using hlf
        by_cases hrow : k = 3 ∨ k = 4
        · have hmn : l.length ≤ m.length ∨ ¬ l.length ≤ m.length := Decidable.em _
          rcases hrow with rfl | rfl <;> rcases hmn with hmn | hmn
          all_goals
            go_enter Try.func168, Try.ntmps168
            go_wp2_with (first | (go_at_call 136; refine (leaf_any _ _).mono ?_; rintro e w' ⟨rfl, rfl⟩))
            go_loopw [43] (fun x wr => ∃ i : Nat, x = .int .i64 i ∧ i ≤ l.length ∧ i ≤ m.length ∧ VT.cmpAll l m = VT.cmpAll (l.drop i) (m.drop i) ∧ Below w.heap.size w wr ∧ wr.cell? ⟨w.heap.size, 2, none⟩ = some (.slice a l.length cap) ∧ wr.cell? ⟨w.heap.size + 1, 2, none⟩ = some (.slice a' m.length cap') ∧ w.heap.size + 1 < wr.heap.size) (fun x _ => l.length - (intOf x).toNat)
            case atStart => exact ⟨0, rfl, by omega, by omega, by simp, ((Below.refl _ _).alloc (Nat.le_refl _) _).alloc (by simp) _, by go_simp, by go_simp, by simp⟩
            case round =>
              obtain ⟨i, rfl, hi, hi', hc, hb, c2, c2', hsz⟩ := hrel
              have HC := Lib.hid hc; clear hc
              by_cases hlt : i < l.length ∧ i < m.length
              · obtain ⟨hlt, hlt'⟩ := hlt
                obtain ⟨b, o, rfl, ax, cx, d0, d1, d2, hv⟩ := (hr.below hb).got i hlt
                obtain ⟨b', o', rfl, ay, cy, d0', d1', d2', hv'⟩ := (hr'.below hb).got i hlt'
                have hsl := VT.sizes_get hlt
                have HD := Lib.hid (VT.cmpAll_drop hlt hlt')
                by_cases he : VT.cmp l[i] m[i] = 0
                · have HE := Lib.hid he
                  go_wp2_with fail
                  refine region_tail 10 (by kernel_rfl) (by kernel_rfl) ?_
                  simp only [List.take_succ_cons, List.take_zero, List.drop_succ_cons, List.drop_zero]
                  repeat still_step
                  refine wpStill_nil ?_
                  go_wp2_with (go_at_call 168; refine (IH.out l[i] m[i] _ _ _ (by omega) (hv.below (Below.refl _ _).drew) (hv'.below (Below.refl _ _).drew)).mono ?_; rintro e w1 ⟨rfl, hb1⟩; have e2 := cell_stays (w := wr.drew) hb1 c2; have e2' := cell_stays (w := wr.drew) hb1 c2')
                  go_roundw
                  case rel => exact ⟨i + 1, by go_num, by omega, by omega, by rw [HC.out, HD.out, if_pos HE.out], hb.drew.trans (hb1.mono (Nat.le_of_lt (Nat.lt_of_succ_lt hsz))), e2, e2', Nat.lt_of_lt_of_le hsz hb1.size⟩
                  case measure => simp [intOf]; omega
                · have HE := Lib.hid he
                  have he' : (VT.cmp l[i] m[i] != 0) = true := by simpa using he
                  go_wp2_with fail
                  refine region_tail 10 (by kernel_rfl) (by kernel_rfl) ?_
                  simp only [List.take_succ_cons, List.take_zero, List.drop_succ_cons, List.drop_zero]
                  repeat still_step
                  refine wpStill_nil ?_
                  go_wp2_with (go_at_call 168; refine (IH.out l[i] m[i] _ _ _ (by omega) (hv.below (Below.refl _ _).drew) (hv'.below (Below.refl _ _).drew)).mono ?_; rintro e w1 ⟨rfl, hb1⟩)
                  go_ret
                  exact ⟨ret_int (by rw [VT.cmp, if_neg (by simp), if_neg hlf, if_neg (by omega), HC.out, HD.out, if_neg HE.out]), hb.drew.trans (hb1.mono (Nat.le_of_lt (Nat.lt_of_succ_lt hsz)))⟩
              · have HD := Lib.hid (VT.cmpAll_end (l := l) (m := m) (i := i) (by omega))
                go_wp2_with (go_at_call 171; refine (cmpInt _ _ _).mono ?_; rintro e w' ⟨rfl, rfl⟩)
                go_ret
                exact ⟨ret_int (by rw [VT.cmp, if_neg (by simp), if_neg hlf, if_neg (by omega), HC.out, HD.out]), hb⟩
        · have h3 : ¬ k = 3 := fun h => hrow (.inl h)
          have h4 : ¬ k = 4 := fun h => hrow (.inr h)
          have h3b : (k != 3) = true := by simpa using h3
          have h4b : (k != 4) = true := by simpa using h4
          go_enter Try.func168, Try.ntmps168
          go_wp2_with (first | (go_at_call 136; refine (leaf_any _ _).mono ?_; rintro e w' ⟨rfl, rfl⟩))
          go_ret
          exact ⟨ret_int (by rw [VT.cmp, if_neg (by simp), if_neg hlf, if_pos ⟨h3, h4⟩]), ((Below.refl _ _).alloc (Nat.le_refl _) _).alloc (by simp) _⟩
    · go_enter Try.func168, Try.ntmps168
      go_wp2_with (first | (go_at_call 169; refine (cmp8 _ _ _).mono ?_; rintro e w' ⟨rfl, rfl⟩))
      go_ret
      exact ⟨ret_int (by rw [VT.cmp, if_pos hk]), ((Below.refl _ _).alloc (Nat.le_refl _) _).alloc (by simp) _⟩
end Go.Proofs.Yteebbffecaeciaa
