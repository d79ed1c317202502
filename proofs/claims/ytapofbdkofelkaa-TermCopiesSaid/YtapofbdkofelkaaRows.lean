/-
  NARROWER THAN 'FOR EVERY INPUT', by the rows' own cells (each row's printed sentence says how): TermCounts: loops · TermCopies: loops · TermStep: loops · TermParts: loops · TermRows: loops · TermWhere: loops.
  DERIVED. THE GIVEN ROWS OF THIS SEAT. 8 by the template 'for every input the law returns true; each argument reads behind the call as it read before'; 0 by the template 'total and deterministic' (their statements: YtapofbdkofelkaaTotals.lean).
  GIVEN WITH THE SEED: the statements are not yours to turn. If you find one false, say at which input.
  Laid BY PROGRAM, IN A SANDBOX (cutbox-rows.mjs): the forced cells as the released guide's own fill.sh prints them over the translation 38df5460883f4ae8… (all of the seat's roots in one cut). By AI agents, Wed Nov 11 2026. No macro, syntax, notation, axiom, sorry.
-/
import Derived.Test.YtapofbdkofelkaaChecked
import GoSem.Claim
import GoSem.ClaimJoined
import GoSem.ClaimMapViews
import Derived.JoinedTies
import Derived.KernelRfl
namespace Go.Proofs.Ytapofbdkofelkaa
/- THE CELL 'sum', in the pinned program and in every row, IS THE sha256 OF THE DUMP (.gsa) THAT YtapofbdkofelkaaProg.lean LOADS. Nothing in Lean hashes anything: it is a label: what it is worth is what the hold of that sum in a sandbox is worth. -/
noncomputable def Try.pinned : Pinned := { name := "ytapofbdkofelkaa", sum := "38df5460883f4ae814b733c0ca0389a87bedf0cf2efff7b7c41b25c9879be953", checked := Try.checked }
namespace Rows
def none {H : Type} : Left H := { results := [], args := [] }

/-- 'tombolalaw19.TermCounts': WHATEVER THE INPUT: true; the input reads as it did. -/
def termCountsSpec : ChangeSpec := { name := "termCounts", fn := fun _ => fun
  | [d] => { results := [.lit (.bool true)], args := [d] }
  | _ => none }
def termCountsRow : OpenClaim := { program := "ytapofbdkofelkaa", sum := "38df5460883f4ae814b733c0ca0389a87bedf0cf2efff7b7c41b25c9879be953", func := "tombola/tombolalaw19.TermCounts", spec := "termCounts", unfollowed := true, recurses := true, loops := true, apart := false }
def TermCountsSaid : Prop := termCountsRow.holds Try.pinned (OpenSpec.ofChange termCountsSpec)

/-- ITS FALSE NEIGHBOUR: 'it returns false'. Refute it at one input. -/
def termCountsWrong : ChangeSpec := { name := "termCounts", fn := fun _ => fun
  | [d] => { results := [.lit (.bool false)], args := [d] }
  | _ => none }
def TermCountsWrongFalsely : Prop := termCountsRow.holds Try.pinned (OpenSpec.ofChange termCountsWrong)

/-- 'tombolalaw19.TermCopies': WHATEVER THE INPUT: true; the input reads as it did. -/
def termCopiesSpec : ChangeSpec := { name := "termCopies", fn := fun _ => fun
  | [d] => { results := [.lit (.bool true)], args := [d] }
  | _ => none }
def termCopiesRow : OpenClaim := { program := "ytapofbdkofelkaa", sum := "38df5460883f4ae814b733c0ca0389a87bedf0cf2efff7b7c41b25c9879be953", func := "tombola/tombolalaw19.TermCopies", spec := "termCopies", unfollowed := true, recurses := true, loops := true, apart := false }
def TermCopiesSaid : Prop := termCopiesRow.holds Try.pinned (OpenSpec.ofChange termCopiesSpec)

/-- ITS FALSE NEIGHBOUR: 'it returns false'. Refute it at one input. -/
def termCopiesWrong : ChangeSpec := { name := "termCopies", fn := fun _ => fun
  | [d] => { results := [.lit (.bool false)], args := [d] }
  | _ => none }
def TermCopiesWrongFalsely : Prop := termCopiesRow.holds Try.pinned (OpenSpec.ofChange termCopiesWrong)

/-- 'tombolalaw19.TermNames': WHATEVER THE INPUT: true; the input reads as it did. -/
def termNamesSpec : ChangeSpec := { name := "termNames", fn := fun _ => fun
  | [] => { results := [.lit (.bool true)], args := [] }
  | _ => none }
def termNamesRow : OpenClaim := { program := "ytapofbdkofelkaa", sum := "38df5460883f4ae814b733c0ca0389a87bedf0cf2efff7b7c41b25c9879be953", func := "tombola/tombolalaw19.TermNames", spec := "termNames", unfollowed := true, recurses := true, apart := false }
def TermNamesSaid : Prop := termNamesRow.holds Try.pinned (OpenSpec.ofChange termNamesSpec)

/-- ITS FALSE NEIGHBOUR: 'it returns false'. Refute it at one input. -/
def termNamesWrong : ChangeSpec := { name := "termNames", fn := fun _ => fun
  | [] => { results := [.lit (.bool false)], args := [] }
  | _ => none }
def TermNamesWrongFalsely : Prop := termNamesRow.holds Try.pinned (OpenSpec.ofChange termNamesWrong)

/-- 'tombolalaw19.TermStep': WHATEVER THE INPUT: true; the input reads as it did. -/
def termStepSpec : ChangeSpec := { name := "termStep", fn := fun _ => fun
  | [d1, d2, d3] => { results := [.lit (.bool true)], args := [d1, d2, d3] }
  | _ => none }
def termStepRow : OpenClaim := { program := "ytapofbdkofelkaa", sum := "38df5460883f4ae814b733c0ca0389a87bedf0cf2efff7b7c41b25c9879be953", func := "tombola/tombolalaw19.TermStep", spec := "termStep", unfollowed := true, recurses := true, loops := true, apart := false }
def TermStepSaid : Prop := termStepRow.holds Try.pinned (OpenSpec.ofChange termStepSpec)

/-- ITS FALSE NEIGHBOUR: 'it returns false'. Refute it at one input. -/
def termStepWrong : ChangeSpec := { name := "termStep", fn := fun _ => fun
  | [d1, d2, d3] => { results := [.lit (.bool false)], args := [d1, d2, d3] }
  | _ => none }
def TermStepWrongFalsely : Prop := termStepRow.holds Try.pinned (OpenSpec.ofChange termStepWrong)

/-- 'tombolalaw19.TermParts': WHATEVER THE INPUT: true; the input reads as it did. -/
def termPartsSpec : ChangeSpec := { name := "termParts", fn := fun _ => fun
  | [d1, d2, d3, d4, d5] => { results := [.lit (.bool true)], args := [d1, d2, d3, d4, d5] }
  | _ => none }
def termPartsRow : OpenClaim := { program := "ytapofbdkofelkaa", sum := "38df5460883f4ae814b733c0ca0389a87bedf0cf2efff7b7c41b25c9879be953", func := "tombola/tombolalaw19.TermParts", spec := "termParts", unfollowed := true, recurses := true, loops := true, apart := false }
def TermPartsSaid : Prop := termPartsRow.holds Try.pinned (OpenSpec.ofChange termPartsSpec)

/-- ITS FALSE NEIGHBOUR: 'it returns false'. Refute it at one input. -/
def termPartsWrong : ChangeSpec := { name := "termParts", fn := fun _ => fun
  | [d1, d2, d3, d4, d5] => { results := [.lit (.bool false)], args := [d1, d2, d3, d4, d5] }
  | _ => none }
def TermPartsWrongFalsely : Prop := termPartsRow.holds Try.pinned (OpenSpec.ofChange termPartsWrong)

/-- 'tombolalaw19.TermRows': WHATEVER THE INPUT: true; the input reads as it did. -/
def termRowsSpec : ChangeSpec := { name := "termRows", fn := fun _ => fun
  | [d1, d2, d3, d4] => { results := [.lit (.bool true)], args := [d1, d2, d3, d4] }
  | _ => none }
def termRowsRow : OpenClaim := { program := "ytapofbdkofelkaa", sum := "38df5460883f4ae814b733c0ca0389a87bedf0cf2efff7b7c41b25c9879be953", func := "tombola/tombolalaw19.TermRows", spec := "termRows", unfollowed := true, recurses := true, loops := true, apart := false }
def TermRowsSaid : Prop := termRowsRow.holds Try.pinned (OpenSpec.ofChange termRowsSpec)

/-- ITS FALSE NEIGHBOUR: 'it returns false'. Refute it at one input. -/
def termRowsWrong : ChangeSpec := { name := "termRows", fn := fun _ => fun
  | [d1, d2, d3, d4] => { results := [.lit (.bool false)], args := [d1, d2, d3, d4] }
  | _ => none }
def TermRowsWrongFalsely : Prop := termRowsRow.holds Try.pinned (OpenSpec.ofChange termRowsWrong)

/-- 'tombolalaw19.TermSelf': WHATEVER THE INPUT: true; the input reads as it did. -/
def termSelfSpec : ChangeSpec := { name := "termSelf", fn := fun _ => fun
  | [d1, d2] => { results := [.lit (.bool true)], args := [d1, d2] }
  | _ => none }
def termSelfRow : OpenClaim := { program := "ytapofbdkofelkaa", sum := "38df5460883f4ae814b733c0ca0389a87bedf0cf2efff7b7c41b25c9879be953", func := "tombola/tombolalaw19.TermSelf", spec := "termSelf", unfollowed := true, recurses := true, apart := false }
def TermSelfSaid : Prop := termSelfRow.holds Try.pinned (OpenSpec.ofChange termSelfSpec)

/-- ITS FALSE NEIGHBOUR: 'it returns false'. Refute it at one input. -/
def termSelfWrong : ChangeSpec := { name := "termSelf", fn := fun _ => fun
  | [d1, d2] => { results := [.lit (.bool false)], args := [d1, d2] }
  | _ => none }
def TermSelfWrongFalsely : Prop := termSelfRow.holds Try.pinned (OpenSpec.ofChange termSelfWrong)

/-- 'tombolalaw19.TermWhere': WHATEVER THE INPUT: true; the input reads as it did. -/
def termWhereSpec : ChangeSpec := { name := "termWhere", fn := fun _ => fun
  | [d1, d2] => { results := [.lit (.bool true)], args := [d1, d2] }
  | _ => none }
def termWhereRow : OpenClaim := { program := "ytapofbdkofelkaa", sum := "38df5460883f4ae814b733c0ca0389a87bedf0cf2efff7b7c41b25c9879be953", func := "tombola/tombolalaw19.TermWhere", spec := "termWhere", unfollowed := true, recurses := true, loops := true, apart := false }
def TermWhereSaid : Prop := termWhereRow.holds Try.pinned (OpenSpec.ofChange termWhereSpec)

/-- ITS FALSE NEIGHBOUR: 'it returns false'. Refute it at one input. -/
def termWhereWrong : ChangeSpec := { name := "termWhere", fn := fun _ => fun
  | [d1, d2] => { results := [.lit (.bool false)], args := [d1, d2] }
  | _ => none }
def TermWhereWrongFalsely : Prop := termWhereRow.holds Try.pinned (OpenSpec.ofChange termWhereWrong)

/- THE SECOND FORM. 'bulk': how many values and letters a reading holds, each counted each time it is reached (what is shared counts as often as it is met; a slice's spare places count too). A statement '..UptoSaid' is the law's where the arguments, and the package variables that the reading takes, are together of bulk at most 1048576: NARROWER than '..Said'. Prove '..Said' where nothing that the law and all that it calls make is longer than what came in: it says more and counts as full. Else prove '..UptoSaid'. A law counts once. -/
mutual
def uptoBulk {H : Type} : DataW H → Nat
  | .lit (.string bytes) => bytes.length + 1
  | .lit _ => 1
  | .nil => 1
  | .ptr d => uptoBulk d + 1
  | .slice elems spare => uptoBulkAll elems + uptoBulkAll spare + 1
  | .agg parts => uptoBulkAll parts + 1
  | .iface _ d => uptoBulk d + 1
  | .map entries => uptoBulkEntries entries + 1
  | .held _ => 1
def uptoBulkAll {H : Type} : List (DataW H) → Nat
  | [] => 0
  | d :: r => uptoBulk d + uptoBulkAll r
def uptoBulkEntries {H : Type} : List (Lit × DataW H) → Nat
  | [] => 0
  | x :: r => uptoBulkEntry x + uptoBulkEntries r
def uptoBulkEntry {H : Type} : Lit × DataW H → Nat
  | (.string bytes, d) => bytes.length + uptoBulk d + 1
  | (_, d) => uptoBulk d + 1
 end
def uptoSmall : (H : Type) → List (DataW H) → Bool := fun _ ds => decide (uptoBulkAll ds ≤ 1048576)
def OpenSpec.upto (s : _root_.Go.ChangeSpec) : _root_.Go.OpenSpec := { _root_.Go.OpenSpec.ofChange s with cond := some uptoSmall }

/-- 'tombolalaw19.TermCounts', WHERE WHAT IT READS IS OF BULK AT MOST 1048576: true; the input reads as it did. -/
def termCountsUptoRow : OpenClaim := { program := "ytapofbdkofelkaa", sum := "38df5460883f4ae814b733c0ca0389a87bedf0cf2efff7b7c41b25c9879be953", func := "tombola/tombolalaw19.TermCounts", spec := "termCounts", unfollowed := true, recurses := true, loops := true, apart := false, narrowed := true }
def TermCountsUptoSaid : Prop := termCountsUptoRow.holds Try.pinned (OpenSpec.upto termCountsSpec)

/-- 'tombolalaw19.TermCopies', WHERE WHAT IT READS IS OF BULK AT MOST 1048576: true; the input reads as it did. -/
def termCopiesUptoRow : OpenClaim := { program := "ytapofbdkofelkaa", sum := "38df5460883f4ae814b733c0ca0389a87bedf0cf2efff7b7c41b25c9879be953", func := "tombola/tombolalaw19.TermCopies", spec := "termCopies", unfollowed := true, recurses := true, loops := true, apart := false, narrowed := true }
def TermCopiesUptoSaid : Prop := termCopiesUptoRow.holds Try.pinned (OpenSpec.upto termCopiesSpec)

/-- 'tombolalaw19.TermNames', WHERE WHAT IT READS IS OF BULK AT MOST 1048576: true; the input reads as it did. -/
def termNamesUptoRow : OpenClaim := { program := "ytapofbdkofelkaa", sum := "38df5460883f4ae814b733c0ca0389a87bedf0cf2efff7b7c41b25c9879be953", func := "tombola/tombolalaw19.TermNames", spec := "termNames", unfollowed := true, recurses := true, apart := false, narrowed := true }
def TermNamesUptoSaid : Prop := termNamesUptoRow.holds Try.pinned (OpenSpec.upto termNamesSpec)

/-- 'tombolalaw19.TermStep', WHERE WHAT IT READS IS OF BULK AT MOST 1048576: true; the input reads as it did. -/
def termStepUptoRow : OpenClaim := { program := "ytapofbdkofelkaa", sum := "38df5460883f4ae814b733c0ca0389a87bedf0cf2efff7b7c41b25c9879be953", func := "tombola/tombolalaw19.TermStep", spec := "termStep", unfollowed := true, recurses := true, loops := true, apart := false, narrowed := true }
def TermStepUptoSaid : Prop := termStepUptoRow.holds Try.pinned (OpenSpec.upto termStepSpec)

/-- 'tombolalaw19.TermParts', WHERE WHAT IT READS IS OF BULK AT MOST 1048576: true; the input reads as it did. -/
def termPartsUptoRow : OpenClaim := { program := "ytapofbdkofelkaa", sum := "38df5460883f4ae814b733c0ca0389a87bedf0cf2efff7b7c41b25c9879be953", func := "tombola/tombolalaw19.TermParts", spec := "termParts", unfollowed := true, recurses := true, loops := true, apart := false, narrowed := true }
def TermPartsUptoSaid : Prop := termPartsUptoRow.holds Try.pinned (OpenSpec.upto termPartsSpec)

/-- 'tombolalaw19.TermRows', WHERE WHAT IT READS IS OF BULK AT MOST 1048576: true; the input reads as it did. -/
def termRowsUptoRow : OpenClaim := { program := "ytapofbdkofelkaa", sum := "38df5460883f4ae814b733c0ca0389a87bedf0cf2efff7b7c41b25c9879be953", func := "tombola/tombolalaw19.TermRows", spec := "termRows", unfollowed := true, recurses := true, loops := true, apart := false, narrowed := true }
def TermRowsUptoSaid : Prop := termRowsUptoRow.holds Try.pinned (OpenSpec.upto termRowsSpec)

/-- 'tombolalaw19.TermSelf', WHERE WHAT IT READS IS OF BULK AT MOST 1048576: true; the input reads as it did. -/
def termSelfUptoRow : OpenClaim := { program := "ytapofbdkofelkaa", sum := "38df5460883f4ae814b733c0ca0389a87bedf0cf2efff7b7c41b25c9879be953", func := "tombola/tombolalaw19.TermSelf", spec := "termSelf", unfollowed := true, recurses := true, apart := false, narrowed := true }
def TermSelfUptoSaid : Prop := termSelfUptoRow.holds Try.pinned (OpenSpec.upto termSelfSpec)

/-- 'tombolalaw19.TermWhere', WHERE WHAT IT READS IS OF BULK AT MOST 1048576: true; the input reads as it did. -/
def termWhereUptoRow : OpenClaim := { program := "ytapofbdkofelkaa", sum := "38df5460883f4ae814b733c0ca0389a87bedf0cf2efff7b7c41b25c9879be953", func := "tombola/tombolalaw19.TermWhere", spec := "termWhere", unfollowed := true, recurses := true, loops := true, apart := false, narrowed := true }
def TermWhereUptoSaid : Prop := termWhereUptoRow.holds Try.pinned (OpenSpec.upto termWhereSpec)

end Rows
end Go.Proofs.Ytapofbdkofelkaa
