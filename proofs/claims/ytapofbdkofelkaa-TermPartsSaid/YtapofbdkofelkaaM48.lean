/- Texts of this claim laid into one: TPartsM. -/
import Derived.Test.YtapofbdkofelkaaM43
/- TermParts on trees: what S6 says of Freq, Tuple, Shuffle, Pick, List, Filter. -/
namespace Go.Proofs.Ytapofbdkofelkaa
open Go.RowKit

/-- what is asked of one row: the term, its bulk and its height. -/
def PartOk (t : TT) (b h : Nat) : Prop :=
  (t.node ≠ 0 → t.Bulk = 0 ∧ t.High = 0 ∧ t.sound = false) ∧
  (t.node = 0 → t.Bulk = min b 4097 ∧ (4096 < b → t.High = 0 ∧ t.sound = false) ∧ (b ≤ 4096 → t.High = h ∧ t.sound = decide (h ≤ 128)))
def sumBulk : List TT → Nat
  | [] => 0
  | t :: ts => t.Bulk + sumBulk ts
def maxHigh : List TT → Nat
  | [] => 0
  | t :: ts => max t.High (maxHigh ts)
theorem sumBulk_append : ∀ a b : List TT, sumBulk (a ++ b) = sumBulk a + sumBulk b
  | [], b => by simp [sumBulk]
  | t :: a, b => by rw [List.cons_append, sumBulk, sumBulk, sumBulk_append a b]; omega
theorem maxHigh_append : ∀ a b : List TT, maxHigh (a ++ b) = max (maxHigh a) (maxHigh b)
  | [], b => by simp [maxHigh]
  | t :: a, b => by rw [List.cons_append, maxHigh, maxHigh, maxHigh_append a b]; omega
theorem take_one {l : List TT} {i : Nat} (h : i < l.length) : l.take (i + 1) = l.take i ++ [l[i]] := by
  rw [List.take_add_one, List.getElem?_eq_getElem h]; rfl
theorem sumBulk_upto {l : List TT} {i : Nat} (h : i < l.length) : sumBulk (l.take (i + 1)) = sumBulk (l.take i) + l[i].Bulk := by
  rw [take_one h, sumBulk_append, sumBulk, sumBulk]; omega
theorem maxHigh_upto {l : List TT} {i : Nat} (h : i < l.length) : maxHigh (l.take (i + 1)) = max (maxHigh (l.take i)) l[i].High := by
  rw [take_one h, maxHigh_append, maxHigh, maxHigh]; omega
theorem TT.Bulk_le (t : TT) : t.Bulk ≤ 4097 := by unfold TT.Bulk; split <;> omega
theorem sumBulk_le : ∀ l : List TT, sumBulk l ≤ l.length * 4097
  | [] => by simp [sumBulk]
  | t :: ts => by have := TT.Bulk_le t; have := sumBulk_le ts; rw [sumBulk, List.length_cons, Nat.add_mul]; omega
theorem TT.Bulk_sane {t : TT} (h : t.Bulk ≠ 0) : t.sane false = true := by
  unfold TT.Bulk at h
  cases hs : t.sane false with
  | true => rfl
  | false => rw [hs] at h; exact absurd rfl h
theorem TT.High_le (t : TT) : t.High ≤ 4096 := by
  unfold TT.High
  split
  · rename_i h
    rw [Bool.and_eq_true, decide_eq_true_eq] at h
    have := TT.high_le t false 0 0 h.1 (Nat.le_refl _)
    omega
  · omega
theorem maxHigh_le : ∀ l : List TT, maxHigh l ≤ 4096
  | [] => by simp [maxHigh]
  | t :: ts => by have := TT.High_le t; have := maxHigh_le ts; rw [maxHigh]; omega
theorem part_args : ∀ (l : List TT), (∀ t ∈ l, t.Bulk ≠ 0) → sumBulk l ≤ TT.bulks l 0 ∧ (sumBulk l ≤ 4096 → TT.bulks l 0 = sumBulk l ∧ TT.highs l 0 = maxHigh l)
  | [], _ => by simp [sumBulk, maxHigh, TT.bulks, TT.highs]
  | t :: ts, h => by
    have ih := part_args ts (fun u hu => h u (List.mem_cons_of_mem _ hu))
    have hs := TT.Bulk_sane (h t List.mem_cons_self)
    have hb : t.Bulk = min (t.bulk 0) 4097 := by unfold TT.Bulk; rw [hs]; rfl
    rw [sumBulk, TT.bulks, TT.highs, maxHigh]
    refine ⟨by omega, fun hle => ?_⟩
    obtain ⟨e1, e2⟩ := ih.2 (by omega)
    have hh : t.High = t.high 0 := by unfold TT.High; rw [hs]; simp; intro; omega
    rw [e1, e2, hh]
    refine ⟨by omega, rfl⟩
theorem sanes_of (k : Int) (hk : k ≠ 10) (l : List TT) (h : ∀ t ∈ l, t.Bulk ≠ 0) : TT.sanes false k 0 l = true := by
  rw [TT.sanes_all false hk, List.all_eq_true]
  exact fun t ht => TT.Bulk_sane (h t ht)
/-- from the bulk and the height without a hold. -/
theorem part_of {t : TT} {b h : Nat} (hsane : t.node = 0 → t.sane false = true) (hb : t.node = 0 → min (t.bulk 0) 4097 = min b 4097) (hh : t.node = 0 → b ≤ 4096 → t.high 0 = h) : PartOk t b h := by
  refine ⟨fun hn => ?_, fun hn => ?_⟩
  · have hs : t.sane false = false := by
      cases he : t.sane false with
      | false => rfl
      | true => exact absurd (TT.sane_parts he).1 hn
    refine ⟨by unfold TT.Bulk; rw [hs]; rfl, by unfold TT.High; rw [hs]; rfl, by unfold TT.sound TT.Bulk; rw [hs]; rfl⟩
  · have hs := hsane hn
    have h1 := hb hn
    have hp := TT.bulk_pos0 hs
    have hB : t.Bulk = min b 4097 := by unfold TT.Bulk; rw [hs]; exact h1
    refine ⟨hB, fun hgt => ?_, fun hle => ?_⟩
    · have hH : t.High = 0 := by unfold TT.High; rw [hs]; simp; omega
      refine ⟨hH, ?_⟩
      unfold TT.sound
      rw [hB]
      simp; intros; omega
    · have hH : t.High = h := by unfold TT.High; rw [hs, ← hh hn hle]; simp; intro; omega
      refine ⟨hH, ?_⟩
      unfold TT.sound
      rw [hB, hH]
      have h2 : decide (0 < min b 4097) = true := decide_eq_true (by omega)
      have h3 : decide (min b 4097 ≤ 4096) = true := decide_eq_true (by omega)
      rw [h2, h3]; simp
section
variable {v : VT} {vs : List VT} {lo hi : Int} {ws : List Int} {p : PT} {l : List TT}
theorem sane_of {k : Int} (hk : k ≠ 10) (hk2 : k ≠ 11) (h : ∀ t ∈ l, t.Bulk ≠ 0) (hn : TT.node (.mk k v vs lo hi ws p l) = 0) : TT.sane false (.mk k v vs lo hi ws p l) = true := by
  rw [TT.sane, hn, sanes_of k hk l h]
  simp [hk2]
theorem part_up {k : Int} (hk : k = 5 ∨ k = 7 ∨ k = 8) (h : ∀ t ∈ l, t.Bulk ≠ 0) : PartOk (.mk k v vs lo hi ws p l) (1 + sumBulk l) (1 + maxHigh l) := by
  have ha := part_args l h
  refine part_of (sane_of (by omega) (by omega) h) (fun _ => ?_) (fun _ hle => ?_)
  · rw [TT.bulkA _ _ _ _ _ _ _ _ (by omega)]
    rcases Nat.lt_or_ge 4096 (sumBulk l) with hgt | hle
    · omega
    · rw [(ha.2 hle).1]
  · rw [TT.highA _ _ _ _ _ _ _ _ hk, (ha.2 (by omega)).2]
theorem part_flat {k : Int} (hk : k = 3 ∨ k = 9) (h : ∀ t ∈ l, t.Bulk ≠ 0) : PartOk (.mk k v vs lo hi ws p l) (1 + sumBulk l) (maxHigh l) := by
  have ha := part_args l h
  refine part_of (sane_of (by omega) (by omega) h) (fun _ => ?_) (fun _ hle => ?_)
  · rw [TT.bulkA _ _ _ _ _ _ _ _ (by omega)]
    rcases Nat.lt_or_ge 4096 (sumBulk l) with hgt | hle
    · omega
    · rw [(ha.2 hle).1]
  · rw [TT.highF _ _ _ _ _ _ _ _ hk, (ha.2 (by omega)).2]
theorem part_list {t : TT} (h : t.Bulk ≠ 0) {to : Int} : PartOk (.mk 6 v vs lo to ws p [t]) (1 + (max 1 to).toNat * t.Bulk) (if to = 0 then 1 else 1 + t.High) := by
  have ha := part_args [t] (fun u hu => by rw [List.mem_singleton] at hu; rw [hu]; exact h)
  rw [sumBulk, sumBulk, maxHigh, maxHigh] at ha
  have h1 : 1 ≤ (max 1 to).toNat := by omega
  obtain ⟨m, hme⟩ : ∃ m, m = (max 1 to).toNat := ⟨_, rfl⟩
  rw [← hme] at h1 ⊢
  have hm : t.Bulk ≤ m * t.Bulk := Nat.le_mul_of_pos_left _ h1
  refine part_of (sane_of (by decide) (by decide) (fun u hu => by rw [List.mem_singleton] at hu; rw [hu]; exact h)) (fun _ => ?_) (fun _ hle => ?_)
  · rw [TT.bulk6, ← hme]
    rcases Nat.lt_or_ge 4096 t.Bulk with hgt | hle
    · have h2 : TT.bulks [t] 0 ≤ m * TT.bulks [t] 0 := Nat.le_mul_of_pos_left _ h1
      omega
    · rw [(ha.2 (by omega)).1, Nat.add_zero]
  · rw [TT.high6, (ha.2 (by omega)).2]
    split <;> simp
end
/-- the term of a Filter. -/
def tFilter (p : PT) (t : TT) : TT := .mk 9 vNone [] 0 0 [] p [t]
theorem part_filter {p : PT} {t : TT} (h : t.Bulk ≠ 0) : PartOk (tFilter p t) (1 + t.Bulk) t.High := by
  have := part_flat (v := vNone) (vs := []) (lo := 0) (hi := 0) (ws := []) (p := p) (l := [t]) (k := 9) (.inr rfl) (fun u hu => by rw [List.mem_singleton] at hu; rw [hu]; exact h)
  rw [sumBulk, sumBulk, maxHigh, maxHigh] at this
  simpa [tFilter] using this
end Go.Proofs.Ytapofbdkofelkaa
