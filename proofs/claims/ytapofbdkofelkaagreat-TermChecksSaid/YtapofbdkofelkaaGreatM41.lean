/- Texts of this claim laid into one: TWhereM. -/
import Derived.Test.YtapofbdkofelkaaGreatM14
/- TermWhere on trees: the nodes by their places, and where a term is wrong. -/
namespace Go.Proofs.YtapofbdkofelkaaGreat
open Go.RowKit

mutual
/-- the nodes, by their places. -/
def TT.pre : TT → List TT
  | .mk k v vs lo hi ws p l => .mk k v vs lo hi ws p l :: TT.pres l
def TT.pres : List TT → List TT
  | [] => []
  | t :: ts => t.pre ++ TT.pres ts
end
mutual
theorem TT.pre_length : ∀ t : TT, t.pre.length = t.cnt
  | .mk k v vs lo hi ws p l => by rw [TT.pre, List.length_cons, TT.pres_length l, TT.cnt]; omega
theorem TT.pres_length : ∀ l : List TT, (TT.pres l).length = TT.cnts l
  | [] => by rw [TT.pres, TT.cnts]; rfl
  | t :: ts => by rw [TT.pres, List.length_append, TT.pre_length t, TT.pres_length ts, TT.cnts]
end
/-- the place, and the error, are so of the nodes L. -/
def WhereOk (L : List TT) (p : Int) (r : Int × Int) : Prop := (r.2 = 0 → r.1 = p + L.length ∧ ∀ u ∈ L, u.node = 0) ∧
  (r.2 ≠ 0 → ∃ j u, L[j]? = some u ∧ r.1 = p + (j : Nat) ∧ (∀ i x, i < j → L[i]? = some x → x.node = 0) ∧ (u.node = r.2 ∨ r.2 = 9 ∨ (u.node = 0 ∧ r.2 = 10)))
theorem WhereOk.here {t : TT} {L : List TT} {p e : Int} (he : e ≠ 0) (h : t.node = e ∨ e = 9 ∨ (t.node = 0 ∧ e = 10)) : WhereOk (t :: L) p (p, e) :=
  ⟨fun h => absurd h he, fun _ => ⟨0, t, rfl, by simp, fun i x hi => absurd hi (Nat.not_lt_zero _), h⟩⟩
mutual
theorem TT.chk_where (m : Int) : ∀ (t : TT) (p d : Int) (b : Bool), WhereOk t.pre p (t.chk m p d b)
  | .mk k v vs lo hi ws q l, p, d, b => by
    rw [TT.chk, TT.pre]
    split
    · exact .here (by decide) (.inr (.inl rfl))
    · split
      · rename_i hn
        exact .here hn (.inl rfl)
      · rename_i hn
        have hn0 : TT.node (.mk k v vs lo hi ws q l) = 0 := by simpa using hn
        split
        · exact .here (by decide) (.inr (.inr ⟨hn0, rfl⟩))
        · obtain ⟨h1, h2⟩ := TT.chks_where m k 0 l (p + 1) d b
          refine ⟨fun h => ?_, fun h => ?_⟩
          · obtain ⟨e, hu⟩ := h1 h
            refine ⟨by rw [e, List.length_cons]; omega, fun u hu' => ?_⟩
            rcases List.mem_cons.1 hu' with rfl | hu'
            · exact hn0
            · exact hu u hu'
          · obtain ⟨j, u, hj, e, hi, hr⟩ := h2 h
            refine ⟨j + 1, u, by simpa using hj, by rw [e]; omega, fun i x hlt hx => ?_, hr⟩
            cases i with
            | zero => simp only [List.getElem?_cons_zero, Option.some.injEq] at hx; subst hx; exact hn0
            | succ i => exact hi i x (by omega) (by simpa using hx)
theorem TT.chks_where (m : Int) (k : Int) : ∀ (i : Nat) (l : List TT) (p d : Int) (b : Bool), WhereOk (TT.pres l) p (TT.chks m k i l p d b)
  | _, [], p, d, b => by rw [TT.chks, TT.pres]; exact ⟨fun _ => ⟨by simp, fun u h => by simp at h⟩, fun h => absurd rfl h⟩
  | i, t :: ts, p, d, b => by
    rw [TT.chks, TT.pres]
    obtain ⟨h1, h2⟩ := TT.chk_where m t p (d + 1) (b || (k == 10 && i == 1))
    split
    · rename_i hn
      refine ⟨fun h => absurd h hn, fun _ => ?_⟩
      obtain ⟨j, u, hj, e, hi, hr⟩ := h2 hn
      have hlt := (List.getElem?_eq_some_iff.1 hj).1
      exact ⟨j, u, by rw [List.getElem?_append_left hlt]; exact hj, e, fun i x hl hx => hi i x hl (by rw [List.getElem?_append_left (by omega)] at hx; exact hx), hr⟩
    · rename_i hn
      obtain ⟨e, hu⟩ := h1 (by simpa using hn)
      obtain ⟨h3, h4⟩ := TT.chks_where m k (i + 1) ts (t.chk m p (d + 1) (b || (k == 10 && i == 1))).1 d b
      refine ⟨fun h => ?_, fun h => ?_⟩
      · obtain ⟨e', hu'⟩ := h3 h
        refine ⟨by rw [e', e, List.length_append]; omega, fun u hm => ?_⟩
        rcases List.mem_append.1 hm with hm | hm
        · exact hu u hm
        · exact hu' u hm
      · obtain ⟨j, u, hj, e', hi, hr⟩ := h4 h
        refine ⟨t.pre.length + j, u, by rw [List.getElem?_append_right (by omega)]; simpa using hj, by rw [e', e]; omega, fun a x hl hx => ?_, hr⟩
        by_cases ha : a < t.pre.length
        · rw [List.getElem?_append_left ha] at hx
          exact hu x (List.mem_of_getElem? hx)
        · rw [List.getElem?_append_right (by omega)] at hx
          exact hi (a - t.pre.length) x (by omega) hx
end
/-- what the law says of a term's place, of its error, of the node there. -/
theorem check_where (t : TT) : ∃ j u, t.pre[j]? = some u ∧ t.check.1 = (j : Nat) ∧ (∀ i x, i < j → t.pre[i]? = some x → x.node = 0) ∧ (u.node = 0 ∨ u.node = t.check.2 ∨ t.check.2 = 9) ∧ (u.node = 0 → t.check.2 = 0 ∨ t.check.2 = 9 ∨ t.check.2 = 10 ∨ t.check.2 = 5) := by
  obtain ⟨h1, h2⟩ := TT.chk_where 12 t 0 1 false
  by_cases h0 : (t.chk 12 0 1 false).2 = 0
  · have hc : t.check.1 = 0 ∧ (t.check.2 = 0 ∨ t.check.2 = 9 ∨ t.check.2 = 5) := by
      unfold TT.check
      rw [if_neg (by simpa using h0)]
      split
      · exact ⟨rfl, .inr (.inr rfl)⟩
      · split
        · exact ⟨rfl, .inr (.inl rfl)⟩
        · exact ⟨rfl, .inl rfl⟩
    obtain ⟨_, hu⟩ := h1 h0
    have h3 : t.pre[0]? = some t := by obtain ⟨k, v, vs, lo, hi, ws, q, l⟩ := t; rw [TT.pre]; rfl
    exact ⟨0, t, h3, hc.1, fun i x hi => absurd hi (Nat.not_lt_zero _), .inl (hu t (List.mem_of_getElem? h3)), fun _ => by have := hc.2; omega⟩
  · have hc : t.check = t.chk 12 0 1 false := by unfold TT.check; rw [if_pos h0]
    obtain ⟨j, u, hj, e, hi, hr⟩ := h2 h0
    rw [hc]
    refine ⟨j, u, hj, by rw [e]; omega, hi, ?_, fun hu => ?_⟩
    · rcases hr with h | h | h
      · exact .inr (.inl h)
      · exact .inr (.inr h)
      · exact .inl h.1
    · rcases hr with h | h | h
      · exact absurd (h.symm.trans hu) h0
      · exact .inr (.inl h)
      · exact .inr (.inr (.inl h.2))
theorem TT.may_sound {t : TT} (h : t.may = true) : t.sound = true := by
  unfold TT.may at h
  have h := eq_of_beq h
  have h0 : (t.chk 12 0 1 false).2 = 0 := by
    by_cases h0 : (t.chk 12 0 1 false).2 = 0
    · exact h0
    · exfalso; unfold TT.check at h; rw [if_pos h0] at h; exact h0 h
  unfold TT.check at h
  rw [if_neg (by simpa using h0)] at h
  have hs := ((TT.chk_ok 12 t 0 1 false).1 h0).1
  split at h
  · simp at h
  · split at h
    · simp at h
    · exact (TT.sound_of hs (by omega) (by omega)).1
theorem TT.sound_bounds {t : TT} (h : t.sound = true) : 1 ≤ t.Bulk ∧ 1 ≤ t.High ∧ t.High ≤ t.Bulk ∧ t.Bulk ≤ 4096 ∧ t.High ≤ 128 := by
  obtain ⟨hs, h1, h2, h3, h4, h5⟩ := TT.sound_parts h
  have h6 := TT.high_pos t false 1 hs (Nat.le_refl _)
  rw [TT.high_closed 1 0 t hs] at h6
  have h7 := TT.high_le t false 0 0 hs (Nat.le_refl _)
  omega
def tConst (v : VT) : TT := .mk 1 v [] 0 0 [] pNone []
theorem const_law {v : VT} (h : v.check = 0) : (tConst v).sound = true ∧ (tConst v).Bulk = v.size ∧ (tConst v).High = v.deep ∧ (tConst v).nodes = 1 + v.size := by
  obtain ⟨_, hd, hz⟩ := VT.check_zero h
  have hn : (tConst v).node = 0 := by
    show TT.node1 1 v [] 0 0 [] pNone 0 = 0
    have e1 : TT.values 1 v [] = 0 := by simp [TT.values, h]
    have e2 : TT.weights 1 [] pNone = 0 := by decide
    have e3 : TT.ends 1 0 0 0 = 0 := by decide
    unfold TT.node1
    rw [if_neg (by omega), e1, e2, e3]
    decide
  have hs : (tConst v).sane false = true := by
    unfold tConst at hn ⊢
    rw [TT.sane, hn, TT.sanes]; rfl
  have hb : (tConst v).bulk 0 = v.size := TT.bulk1 _ _ _ _ _ _ _ _
  have hh : (tConst v).high 0 = v.deep := TT.high1 _ _ _ _ _ _ _ _
  obtain ⟨a, b, c⟩ := TT.sound_of hs (by omega) (by omega)
  refine ⟨a, by omega, by omega, ?_⟩
  unfold tConst
  rw [TT.nodes, TT.nodess, if_pos rfl]; rfl
end Go.Proofs.YtapofbdkofelkaaGreat
