/- Texts of this claim laid into one: TRowsM. -/
import Derived.Test.YtapofbdkofelkaaM14
/- TermRows on trees: with the arguments, and the weights, in another row. -/
namespace Go.Proofs.Ytapofbdkofelkaa
open Go.RowKit

/-- turned by r. -/
def rot {α : Type} (r : Nat) (l : List α) : List α := l.drop r ++ l.take r
theorem rot_length {α : Type} (r : Nat) (l : List α) : (rot r l).length = l.length := by simp [rot]; omega
theorem rot_get {α : Type} {r : Nat} {l : List α} (hr : r < l.length) {i : Nat} (hi : i < l.length) : (rot r l)[i]? = l[(i + r) % l.length]? := by
  unfold rot
  by_cases h : i < l.length - r
  · rw [List.getElem?_append_left (by simp; omega), List.getElem?_drop, Nat.mod_eq_of_lt (by omega), Nat.add_comm]
  · rw [List.getElem?_append_right (by simp; omega), List.length_drop, List.getElem?_take]
    have e : (i + r) % l.length = i - (l.length - r) := by
      rw [Nat.mod_eq_sub_mod (by omega), Nat.mod_eq_of_lt (by omega)]; omega
    rw [if_pos (by omega), e]
theorem TT.nodess_append : ∀ a b : List TT, TT.nodess (a ++ b) = TT.nodess a + TT.nodess b
  | [], b => by simp [TT.nodess]
  | t :: a, b => by rw [List.cons_append, TT.nodess, TT.nodess, TT.nodess_append a b]; omega
theorem TT.cnts_append : ∀ a b : List TT, TT.cnts (a ++ b) = TT.cnts a + TT.cnts b
  | [], b => by simp [TT.cnts]
  | t :: a, b => by rw [List.cons_append, TT.cnts, TT.cnts, TT.cnts_append a b]; omega
theorem TT.deeps_append : ∀ a b : List TT, TT.deeps (a ++ b) = max (TT.deeps a) (TT.deeps b)
  | [], b => by simp [TT.deeps]
  | t :: a, b => by rw [List.cons_append, TT.deeps, TT.deeps, TT.deeps_append a b]; omega
theorem TT.bulks_append (s : Nat) : ∀ a b : List TT, TT.bulks (a ++ b) s = TT.bulks a s + TT.bulks b s
  | [], b => by simp [TT.bulks]
  | t :: a, b => by rw [List.cons_append, TT.bulks, TT.bulks, TT.bulks_append s a b]; omega
theorem TT.highs_append (s : Nat) : ∀ a b : List TT, TT.highs (a ++ b) s = max (TT.highs a s) (TT.highs b s)
  | [], b => by simp [TT.highs]
  | t :: a, b => by rw [List.cons_append, TT.highs, TT.highs, TT.highs_append s a b]; omega
theorem TT.leans_append : ∀ a b : List TT, TT.leans (a ++ b) = (TT.leans a && TT.leans b)
  | [], b => by simp [TT.leans]
  | t :: a, b => by rw [List.cons_append, TT.leans, TT.leans, TT.leans_append a b, Bool.and_assoc]
theorem TT.sanes_all (b : Bool) {k : Int} (hk : k ≠ 10) : ∀ (l : List TT) (i : Nat), TT.sanes b k i l = l.all fun t => t.sane b
  | [], _ => by rw [TT.sanes]; rfl
  | t :: ts, i => by
    have e : (k == 10) = false := by simp [hk]
    rw [TT.sanes, TT.sanes_all b hk ts (i + 1), List.all_cons, e, Bool.false_and, Bool.or_false]
theorem sumW_append : ∀ a b : List Int, sumW (a ++ b) = sumW a + sumW b
  | [], b => by simp [sumW]
  | x :: a, b => by
    have h := sumW_append a b
    simp only [sumW, List.cons_append, List.foldr_cons] at h ⊢
    omega
section
variable (r : Nat) (l : List TT)
theorem TT.nodess_rot : TT.nodess (rot r l) = TT.nodess l := by
  have h := TT.nodess_append (l.take r) (l.drop r)
  rw [List.take_append_drop] at h
  rw [rot, TT.nodess_append]; omega
theorem TT.cnts_rot : TT.cnts (rot r l) = TT.cnts l := by
  have h := TT.cnts_append (l.take r) (l.drop r)
  rw [List.take_append_drop] at h
  rw [rot, TT.cnts_append]; omega
theorem TT.deeps_rot : TT.deeps (rot r l) = TT.deeps l := by
  have h := TT.deeps_append (l.take r) (l.drop r)
  rw [List.take_append_drop] at h
  rw [rot, TT.deeps_append]; omega
theorem TT.bulks_rot (s : Nat) : TT.bulks (rot r l) s = TT.bulks l s := by
  have h := TT.bulks_append s (l.take r) (l.drop r)
  rw [List.take_append_drop] at h
  rw [rot, TT.bulks_append]; omega
theorem TT.highs_rot (s : Nat) : TT.highs (rot r l) s = TT.highs l s := by
  have h := TT.highs_append s (l.take r) (l.drop r)
  rw [List.take_append_drop] at h
  rw [rot, TT.highs_append]; omega
theorem TT.leans_rot : TT.leans (rot r l) = TT.leans l := by
  have h := TT.leans_append (l.take r) (l.drop r)
  rw [List.take_append_drop] at h
  rw [rot, TT.leans_append, Bool.and_comm, h]
theorem TT.sanes_rot (b : Bool) {k : Int} (hk : k ≠ 10) (i : Nat) : TT.sanes b k i (rot r l) = TT.sanes b k i l := by
  rw [TT.sanes_all b hk, TT.sanes_all b hk, rot, List.all_append, Bool.and_comm, ← List.all_append, List.take_append_drop]
end
theorem TT.wts_rot (r : Nat) (ws : List Int) : TT.wts (rot r ws) = TT.wts ws := by
  have h := sumW_append (ws.take r) (ws.drop r)
  rw [List.take_append_drop] at h
  have h1 : (rot r ws).any badW = ws.any badW := by rw [rot, List.any_append, Bool.or_comm, ← List.any_append, List.take_append_drop]
  have h2 : sumW (rot r ws) = sumW ws := by rw [rot, sumW_append]; omega
  unfold TT.wts
  rw [rot_length, h1, h2]
theorem TT.may_iff (t : TT) : t.may = true ↔ t.sane false = true ∧ t.deep ≤ 12 ∧ t.nodes ≤ 512 ∧ t.bulk 0 ≤ 4096 ∧ t.high 0 ≤ 128 := by
  have h := TT.chk_ok 12 t 0 1 false
  unfold TT.may TT.check
  rw [beq_iff_eq]
  split
  · rename_i h0
    refine ⟨fun h1 => absurd h1 h0, fun h1 => absurd (h.2 ⟨h1.1, by omega⟩) h0⟩
  · rename_i h0
    obtain ⟨h1, h2⟩ := h.1 (by simpa using h0)
    split
    · simp; intros; omega
    · split
      · simp; intros; omega
      · simp only [true_iff]; exact ⟨h1, by omega, by omega, by omega, by omega⟩
/-- what TermRows says of a term and of the one with its arguments, and weights, turned. -/
theorem rows_law {k lo : Int} {ws ws' : List Int} {l : List TT} {r : Nat} (hk : k = 3 ∨ k = 5 ∨ k = 7 ∨ k = 8) (hw : ws'.length = ws.length) (hws : TT.wts ws' = TT.wts ws) :
    let t : TT := .mk k vNone [] lo 0 ws pNone l
    let u : TT := .mk k vNone [] lo 0 ws' pNone (rot r l)
    t.nodes = u.nodes ∧ t.deep = u.deep ∧ t.Bulk = u.Bulk ∧ t.High = u.High ∧ t.may = u.may ∧ t.sound = u.sound ∧ t.node = u.node := by
  intro t u
  have hn : t.node = u.node := by
    show TT.node1 k vNone [] lo 0 ws pNone l.length = TT.node1 k vNone [] lo 0 ws' pNone (rot r l).length
    have e : TT.weights k ws pNone = TT.weights k ws' pNone := by unfold TT.weights; rw [hws, hw]
    unfold TT.node1
    rw [e, rot_length, hw]
  have hs : ∀ b, t.sane b = u.sane b := fun b => by
    show TT.sane b (.mk k vNone [] lo 0 ws pNone l) = TT.sane b (.mk k vNone [] lo 0 ws' pNone (rot r l))
    rw [TT.sane, TT.sane, TT.sanes_rot r l b (by omega)]
    have : TT.node (.mk k vNone [] lo 0 ws pNone l) = TT.node (.mk k vNone [] lo 0 ws' pNone (rot r l)) := hn
    rw [this]
  have hb : ∀ s, t.bulk s = u.bulk s := fun s => by
    show TT.bulk (.mk k vNone [] lo 0 ws pNone l) s = TT.bulk (.mk k vNone [] lo 0 ws' pNone (rot r l)) s
    rw [TT.bulkA _ _ _ _ _ _ _ _ (by omega), TT.bulkA _ _ _ _ _ _ _ _ (by omega), TT.bulks_rot]
  have hh : ∀ s, t.high s = u.high s := fun s => by
    show TT.high (.mk k vNone [] lo 0 ws pNone l) s = TT.high (.mk k vNone [] lo 0 ws' pNone (rot r l)) s
    rcases hk with rfl | hk
    · rw [TT.highF _ _ _ _ _ _ _ _ (.inl rfl), TT.highF _ _ _ _ _ _ _ _ (.inl rfl), TT.highs_rot]
    · rw [TT.highA _ _ _ _ _ _ _ _ hk, TT.highA _ _ _ _ _ _ _ _ hk, TT.highs_rot]
  have hno : t.nodes = u.nodes := by
    show TT.nodes (.mk k vNone [] lo 0 ws pNone l) = TT.nodes (.mk k vNone [] lo 0 ws' pNone (rot r l))
    rw [TT.nodes, TT.nodes, TT.nodess_rot]
  have hd : t.deep = u.deep := by
    show TT.deep (.mk k vNone [] lo 0 ws pNone l) = TT.deep (.mk k vNone [] lo 0 ws' pNone (rot r l))
    rw [TT.deep, TT.deep, TT.deeps_rot]
  have hB : t.Bulk = u.Bulk := by unfold TT.Bulk; rw [hs, hb]
  have hH : t.High = u.High := by unfold TT.High; rw [hs, hb, hh]
  refine ⟨hno, hd, hB, hH, ?_, ?_, hn⟩
  · rw [Bool.eq_iff_iff, TT.may_iff, TT.may_iff, hs, hd, hno, hb, hh]
  · unfold TT.sound; rw [hB, hH]
end Go.Proofs.Ytapofbdkofelkaa
