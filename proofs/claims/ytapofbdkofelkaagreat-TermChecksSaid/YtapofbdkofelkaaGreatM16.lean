/- Texts of this claim laid into one: TAgree. -/
import Derived.Test.YtapofbdkofelkaaGreatM09
/- What is so in all worlds that are as this one but for some blocks. -/
namespace Go.Proofs.YtapofbdkofelkaaGreat
open Go.RowKit

theorem TCells.block {w w' : World} {b o : Nat} {t : TT} {A : TA} (hb : w'.heap[b]? = w.heap[b]?) (h : TCells w b o t A) : TCells w' b o t A := h.keep fun o v hc => by rw [World.cell?_of_block (w := w) (a := ⟨b, o, none⟩) hb]; exact hc
/-- W has w's blocks but those of S. -/
def AgreeS (S : Nat → Prop) (w W : World) : Prop := w.heap.size ≤ W.heap.size ∧ ∀ k, k < w.heap.size → ¬ S k → W.heap[k]? = w.heap[k]?
theorem AgreeS.cell {S : Nat → Prop} {w W : World} (h : AgreeS S w W) {b o : Nat} {v : Value} (hb : ¬ S b) (hc : w.cell? ⟨b, o, none⟩ = some v) : W.cell? ⟨b, o, none⟩ = some v := by
  rw [World.cell?_of_block (w := w) (a := ⟨b, o, none⟩) (h.2 b (lt_of_cell hc) hb)]; exact hc
/-- what is so in all worlds that are as this one but for the blocks of S. -/
def TOkA (S : Nat → Prop) (w : World) (t : TT) (A : TA) : Prop := ∀ W, AgreeS S w W → TOk W t A
def TInA (S : Nat → Prop) (w : World) (t : TT) (x : Value) : Prop := ∃ A, x = t.val A ∧ TOkA S w t A
theorem AgreeS.back' {S S' : Nat → Prop} {w w' W : World} (hs : w.heap.size ≤ w'.heap.size) (hk : ∀ k, k < w.heap.size → ¬ S k → ¬ S' k ∧ w'.heap[k]? = w.heap[k]?) (ha : AgreeS S' w' W) : AgreeS S w W :=
  ⟨Nat.le_trans hs ha.1, fun k h1 h2 => (ha.2 k (Nat.lt_of_lt_of_le h1 hs) (hk k h1 h2).1).trans (hk k h1 h2).2⟩
theorem TOkA.step {S S' : Nat → Prop} {w w' : World} {t : TT} {A : TA} (h : TOkA S w t A) (hs : w.heap.size ≤ w'.heap.size) (hk : ∀ k, k < w.heap.size → ¬ S k → ¬ S' k ∧ w'.heap[k]? = w.heap[k]?) : TOkA S' w' t A := fun W ha => h W (ha.back' hs hk)
theorem TOkA.below {S : Nat → Prop} {w w' : World} {t : TT} {A : TA} (h : TOkA S w t A) (hb : Below w.heap.size w w') : TOkA S w' t A := h.step hb.size fun k h1 h2 => ⟨h2, hb.block k h1⟩
theorem TOkA.ok {S : Nat → Prop} {w : World} {t : TT} {A : TA} (h : TOkA S w t A) : TOk w t A := h w ⟨Nat.le_refl _, fun _ _ _ => rfl⟩
theorem TIn.any {w : World} {t : TT} {x : Value} (h : TIn w t x) : TInA (fun _ => False) w t x := by
  obtain ⟨A, e, h⟩ := h
  exact ⟨A, e, fun W ha => h.mono (fun b o v hc => ha.cell (fun h => h) hc) t A⟩
theorem TInA.below {S : Nat → Prop} {w w' : World} {t : TT} {x : Value} (h : TInA S w t x) (hb : Below w.heap.size w w') : TInA S w' t x := by
  obtain ⟨A, e, h⟩ := h; exact ⟨A, e, h.below hb⟩
theorem TInA.tin {S : Nat → Prop} {w : World} {t : TT} {x : Value} (h : TInA S w t x) : TIn w t x := by
  obtain ⟨A, e, h⟩ := h; exact ⟨A, e, h.ok⟩
/-- what was so ahead of the blocks of S is so whatever they hold. -/
theorem TOk.old {S : Nat → Prop} {w w' : World} {t : TT} {A : TA} (h : TOk w t A) (hb : Below w.heap.size w w') (hS : ∀ k, S k → w.heap.size ≤ k) : TOkA S w' t A := fun W ha =>
  h.mono (fun b o v hc => by
    have hlt := lt_of_cell hc
    have e : W.heap[b]? = w.heap[b]? := (ha.2 b (Nat.lt_of_lt_of_le hlt hb.size) (fun hk => absurd (hS b hk) (by omega))).trans (hb.block b hlt)
    rw [World.cell?_of_block (w := w) (a := ⟨b, o, none⟩) e]; exact hc) t A
end Go.Proofs.YtapofbdkofelkaaGreat
