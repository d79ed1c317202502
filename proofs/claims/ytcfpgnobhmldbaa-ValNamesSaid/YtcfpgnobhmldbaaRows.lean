/-
  NARROWER THAN 'FOR EVERY INPUT', by the rows' own cells (each row's printed sentence says how): ValOrder: loops · ValItems: loops · ValSizes: loops · ValParts: loops · ValMakes: loops.
  DERIVED. THE GIVEN ROWS OF THIS SEAT. 6 by the template 'for every input the law returns true; each argument reads behind the call as it read before'; 0 by the template 'total and deterministic' (their statements: YtcfpgnobhmldbaaTotals.lean).
  GIVEN WITH THE SEED: the statements are not yours to turn. If you find one false, say at which input.
  Laid BY PROGRAM, IN A SANDBOX (cutbox-rows.mjs): the forced cells as the released guide's own fill.sh prints them over the translation 216a816603c23d04… (all of the seat's roots in one cut). By AI agents, Wed Nov 11 2026. No macro, syntax, notation, axiom, sorry.
-/
import Derived.Test.YtcfpgnobhmldbaaChecked
import GoSem.Claim
import GoSem.ClaimJoined
import GoSem.ClaimMapViews
import Derived.JoinedTies
import Derived.KernelRfl
namespace Go.Proofs.Ytcfpgnobhmldbaa
/- THE CELL 'sum', in the pinned program and in every row, IS THE sha256 OF THE DUMP (.gsa) THAT YtcfpgnobhmldbaaProg.lean LOADS. Nothing in Lean hashes anything: it is a label: what it is worth is what the hold of that sum in a sandbox is worth. -/
noncomputable def Try.pinned : Pinned := { name := "ytcfpgnobhmldbaa", sum := "216a816603c23d048c3219852967d311735705c483669af6c00518a490da764d", checked := Try.checked }
namespace Rows
def none {H : Type} : Left H := { results := [], args := [] }

/-- 'tombolalaw14.ValNames': WHATEVER THE INPUT: true; the input reads as it did. -/
def valNamesSpec : ChangeSpec := { name := "valNames", fn := fun _ => fun
  | [] => { results := [.lit (.bool true)], args := [] }
  | _ => none }
def valNamesRow : OpenClaim := { program := "ytcfpgnobhmldbaa", sum := "216a816603c23d048c3219852967d311735705c483669af6c00518a490da764d", func := "tombola/tombolalaw14.ValNames", spec := "valNames", unfollowed := true, recurses := true, apart := false }
def ValNamesSaid : Prop := valNamesRow.holds Try.pinned (OpenSpec.ofChange valNamesSpec)

/-- ITS FALSE NEIGHBOUR: 'it returns false'. Refute it at one input. -/
def valNamesWrong : ChangeSpec := { name := "valNames", fn := fun _ => fun
  | [] => { results := [.lit (.bool false)], args := [] }
  | _ => none }
def ValNamesWrongFalsely : Prop := valNamesRow.holds Try.pinned (OpenSpec.ofChange valNamesWrong)

/-- 'tombolalaw14.ValOrder': WHATEVER THE INPUT: true; the input reads as it did. -/
def valOrderSpec : ChangeSpec := { name := "valOrder", fn := fun _ => fun
  | [d1, d2, d3] => { results := [.lit (.bool true)], args := [d1, d2, d3] }
  | _ => none }
def valOrderRow : OpenClaim := { program := "ytcfpgnobhmldbaa", sum := "216a816603c23d048c3219852967d311735705c483669af6c00518a490da764d", func := "tombola/tombolalaw14.ValOrder", spec := "valOrder", unfollowed := true, recurses := true, loops := true, apart := false }
def ValOrderSaid : Prop := valOrderRow.holds Try.pinned (OpenSpec.ofChange valOrderSpec)

/-- ITS FALSE NEIGHBOUR: 'it returns false'. Refute it at one input. -/
def valOrderWrong : ChangeSpec := { name := "valOrder", fn := fun _ => fun
  | [d1, d2, d3] => { results := [.lit (.bool false)], args := [d1, d2, d3] }
  | _ => none }
def ValOrderWrongFalsely : Prop := valOrderRow.holds Try.pinned (OpenSpec.ofChange valOrderWrong)

/-- 'tombolalaw14.ValItems': WHATEVER THE INPUT: true; the input reads as it did. -/
def valItemsSpec : ChangeSpec := { name := "valItems", fn := fun _ => fun
  | [d1, d2, d3] => { results := [.lit (.bool true)], args := [d1, d2, d3] }
  | _ => none }
def valItemsRow : OpenClaim := { program := "ytcfpgnobhmldbaa", sum := "216a816603c23d048c3219852967d311735705c483669af6c00518a490da764d", func := "tombola/tombolalaw14.ValItems", spec := "valItems", unfollowed := true, recurses := true, loops := true, apart := false }
def ValItemsSaid : Prop := valItemsRow.holds Try.pinned (OpenSpec.ofChange valItemsSpec)

/-- ITS FALSE NEIGHBOUR: 'it returns false'. Refute it at one input. -/
def valItemsWrong : ChangeSpec := { name := "valItems", fn := fun _ => fun
  | [d1, d2, d3] => { results := [.lit (.bool false)], args := [d1, d2, d3] }
  | _ => none }
def ValItemsWrongFalsely : Prop := valItemsRow.holds Try.pinned (OpenSpec.ofChange valItemsWrong)

/-- 'tombolalaw14.ValSizes': WHATEVER THE INPUT: true; the input reads as it did. -/
def valSizesSpec : ChangeSpec := { name := "valSizes", fn := fun _ => fun
  | [d] => { results := [.lit (.bool true)], args := [d] }
  | _ => none }
def valSizesRow : OpenClaim := { program := "ytcfpgnobhmldbaa", sum := "216a816603c23d048c3219852967d311735705c483669af6c00518a490da764d", func := "tombola/tombolalaw14.ValSizes", spec := "valSizes", unfollowed := true, recurses := true, loops := true, apart := false }
def ValSizesSaid : Prop := valSizesRow.holds Try.pinned (OpenSpec.ofChange valSizesSpec)

/-- ITS FALSE NEIGHBOUR: 'it returns false'. Refute it at one input. -/
def valSizesWrong : ChangeSpec := { name := "valSizes", fn := fun _ => fun
  | [d] => { results := [.lit (.bool false)], args := [d] }
  | _ => none }
def ValSizesWrongFalsely : Prop := valSizesRow.holds Try.pinned (OpenSpec.ofChange valSizesWrong)

/-- 'tombolalaw14.ValParts': WHATEVER THE INPUT: true; the input reads as it did. -/
def valPartsSpec : ChangeSpec := { name := "valParts", fn := fun _ => fun
  | [d1, d2] => { results := [.lit (.bool true)], args := [d1, d2] }
  | _ => none }
def valPartsRow : OpenClaim := { program := "ytcfpgnobhmldbaa", sum := "216a816603c23d048c3219852967d311735705c483669af6c00518a490da764d", func := "tombola/tombolalaw14.ValParts", spec := "valParts", unfollowed := true, recurses := true, loops := true, apart := false }
def ValPartsSaid : Prop := valPartsRow.holds Try.pinned (OpenSpec.ofChange valPartsSpec)

/-- ITS FALSE NEIGHBOUR: 'it returns false'. Refute it at one input. -/
def valPartsWrong : ChangeSpec := { name := "valParts", fn := fun _ => fun
  | [d1, d2] => { results := [.lit (.bool false)], args := [d1, d2] }
  | _ => none }
def ValPartsWrongFalsely : Prop := valPartsRow.holds Try.pinned (OpenSpec.ofChange valPartsWrong)

/-- 'tombolalaw14.ValMakes': WHATEVER THE INPUT: true; the input reads as it did. -/
def valMakesSpec : ChangeSpec := { name := "valMakes", fn := fun _ => fun
  | [d1, d2] => { results := [.lit (.bool true)], args := [d1, d2] }
  | _ => none }
def valMakesRow : OpenClaim := { program := "ytcfpgnobhmldbaa", sum := "216a816603c23d048c3219852967d311735705c483669af6c00518a490da764d", func := "tombola/tombolalaw14.ValMakes", spec := "valMakes", unfollowed := true, recurses := true, loops := true, apart := false }
def ValMakesSaid : Prop := valMakesRow.holds Try.pinned (OpenSpec.ofChange valMakesSpec)

/-- ITS FALSE NEIGHBOUR: 'it returns false'. Refute it at one input. -/
def valMakesWrong : ChangeSpec := { name := "valMakes", fn := fun _ => fun
  | [d1, d2] => { results := [.lit (.bool false)], args := [d1, d2] }
  | _ => none }
def ValMakesWrongFalsely : Prop := valMakesRow.holds Try.pinned (OpenSpec.ofChange valMakesWrong)

/- THE SECOND FORM. 'bulk': how many values and letters a reading holds, each counted each time it is reached (what is shared counts as often as it is met; a slice's spare places count too). A statement '..UptoSaid' is the law's where the arguments, and the package variables that the reading takes, are together of bulk at most 1048576: NARROWER than '..Said'. Prove '..Said' where nothing that the law and all that it calls make is longer than what came in: it says more and counts as full. Else prove '..UptoSaid'. A law counts once. -/
mutual
def uptoBulk {H : Type} : DataW H → Nat
  | .lit (.string bytes) => bytes.length + 1
  | .lit _ => 1
  | .nil => 1
  | .ptr d => uptoBulk d + 1
  | .slice elems spare => uptoBulkAll elems + uptoBulkAll spare + 1
  | .agg parts => uptoBulkAll parts + 1
  | .iface _ d => uptoBulk d + 1
  | .map entries => uptoBulkEntries entries + 1
  | .held _ => 1
def uptoBulkAll {H : Type} : List (DataW H) → Nat
  | [] => 0
  | d :: r => uptoBulk d + uptoBulkAll r
def uptoBulkEntries {H : Type} : List (Lit × DataW H) → Nat
  | [] => 0
  | x :: r => uptoBulkEntry x + uptoBulkEntries r
def uptoBulkEntry {H : Type} : Lit × DataW H → Nat
  | (.string bytes, d) => bytes.length + uptoBulk d + 1
  | (_, d) => uptoBulk d + 1
 end
def uptoSmall : (H : Type) → List (DataW H) → Bool := fun _ ds => decide (uptoBulkAll ds ≤ 1048576)
def OpenSpec.upto (s : _root_.Go.ChangeSpec) : _root_.Go.OpenSpec := { _root_.Go.OpenSpec.ofChange s with cond := some uptoSmall }

/-- 'tombolalaw14.ValNames', WHERE WHAT IT READS IS OF BULK AT MOST 1048576: true; the input reads as it did. -/
def valNamesUptoRow : OpenClaim := { program := "ytcfpgnobhmldbaa", sum := "216a816603c23d048c3219852967d311735705c483669af6c00518a490da764d", func := "tombola/tombolalaw14.ValNames", spec := "valNames", unfollowed := true, recurses := true, apart := false, narrowed := true }
def ValNamesUptoSaid : Prop := valNamesUptoRow.holds Try.pinned (OpenSpec.upto valNamesSpec)

/-- 'tombolalaw14.ValOrder', WHERE WHAT IT READS IS OF BULK AT MOST 1048576: true; the input reads as it did. -/
def valOrderUptoRow : OpenClaim := { program := "ytcfpgnobhmldbaa", sum := "216a816603c23d048c3219852967d311735705c483669af6c00518a490da764d", func := "tombola/tombolalaw14.ValOrder", spec := "valOrder", unfollowed := true, recurses := true, loops := true, apart := false, narrowed := true }
def ValOrderUptoSaid : Prop := valOrderUptoRow.holds Try.pinned (OpenSpec.upto valOrderSpec)

/-- 'tombolalaw14.ValItems', WHERE WHAT IT READS IS OF BULK AT MOST 1048576: true; the input reads as it did. -/
def valItemsUptoRow : OpenClaim := { program := "ytcfpgnobhmldbaa", sum := "216a816603c23d048c3219852967d311735705c483669af6c00518a490da764d", func := "tombola/tombolalaw14.ValItems", spec := "valItems", unfollowed := true, recurses := true, loops := true, apart := false, narrowed := true }
def ValItemsUptoSaid : Prop := valItemsUptoRow.holds Try.pinned (OpenSpec.upto valItemsSpec)

/-- 'tombolalaw14.ValSizes', WHERE WHAT IT READS IS OF BULK AT MOST 1048576: true; the input reads as it did. -/
def valSizesUptoRow : OpenClaim := { program := "ytcfpgnobhmldbaa", sum := "216a816603c23d048c3219852967d311735705c483669af6c00518a490da764d", func := "tombola/tombolalaw14.ValSizes", spec := "valSizes", unfollowed := true, recurses := true, loops := true, apart := false, narrowed := true }
def ValSizesUptoSaid : Prop := valSizesUptoRow.holds Try.pinned (OpenSpec.upto valSizesSpec)

/-- 'tombolalaw14.ValParts', WHERE WHAT IT READS IS OF BULK AT MOST 1048576: true; the input reads as it did. -/
def valPartsUptoRow : OpenClaim := { program := "ytcfpgnobhmldbaa", sum := "216a816603c23d048c3219852967d311735705c483669af6c00518a490da764d", func := "tombola/tombolalaw14.ValParts", spec := "valParts", unfollowed := true, recurses := true, loops := true, apart := false, narrowed := true }
def ValPartsUptoSaid : Prop := valPartsUptoRow.holds Try.pinned (OpenSpec.upto valPartsSpec)

/-- 'tombolalaw14.ValMakes', WHERE WHAT IT READS IS OF BULK AT MOST 1048576: true; the input reads as it did. -/
def valMakesUptoRow : OpenClaim := { program := "ytcfpgnobhmldbaa", sum := "216a816603c23d048c3219852967d311735705c483669af6c00518a490da764d", func := "tombola/tombolalaw14.ValMakes", spec := "valMakes", unfollowed := true, recurses := true, loops := true, apart := false, narrowed := true }
def ValMakesUptoSaid : Prop := valMakesUptoRow.holds Try.pinned (OpenSpec.upto valMakesSpec)

end Rows
end Go.Proofs.Ytcfpgnobhmldbaa
