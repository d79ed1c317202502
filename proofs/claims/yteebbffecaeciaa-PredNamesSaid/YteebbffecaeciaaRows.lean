/-
  NARROWER THAN 'FOR EVERY INPUT', by the rows' own cells (each row's printed sentence says how): UnfoldWholes: loops · UnfoldLess: loops · UnfoldWhole: loops · UnfoldParts: loops.
  DERIVED. THE GIVEN ROWS OF THIS SEAT. 7 by the template 'for every input the law returns true; each argument reads behind the call as it read before'; 0 by the template 'total and deterministic' (their statements: YteebbffecaeciaaTotals.lean).
  GIVEN WITH THE SEED: the statements are not yours to turn. If you find one false, say at which input.
  Laid BY PROGRAM, IN A SANDBOX (cutbox-rows.mjs): the forced cells as the released guide's own fill.sh prints them over the translation fdd1ca3482a6a201… (all of the seat's roots in one cut). By AI agents, Wed Nov 11 2026. No macro, syntax, notation, axiom, sorry.
-/
import Derived.Test.YteebbffecaeciaaChecked
import GoSem.Claim
import GoSem.ClaimJoined
import GoSem.ClaimMapViews
import Derived.JoinedTies
import Derived.KernelRfl
namespace Go.Proofs.Yteebbffecaeciaa
/- THE CELL 'sum', in the pinned program and in every row, IS THE sha256 OF THE DUMP (.gsa) THAT YteebbffecaeciaaProg.lean LOADS. Nothing in Lean hashes anything: it is a label: what it is worth is what the hold of that sum in a sandbox is worth. -/
noncomputable def Try.pinned : Pinned := { name := "yteebbffecaeciaa", sum := "fdd1ca3482a6a20196c8531509350546e1d9cc301364ad1a6cb74c26481378ee", checked := Try.checked }
namespace Rows
def none {H : Type} : Left H := { results := [], args := [] }

/-- 'tombolalaw17.PredNames': WHATEVER THE INPUT: true; the input reads as it did. -/
def predNamesSpec : ChangeSpec := { name := "predNames", fn := fun _ => fun
  | [] => { results := [.lit (.bool true)], args := [] }
  | _ => none }
def predNamesRow : OpenClaim := { program := "yteebbffecaeciaa", sum := "fdd1ca3482a6a20196c8531509350546e1d9cc301364ad1a6cb74c26481378ee", func := "tombola/tombolalaw17.PredNames", spec := "predNames", unfollowed := true, recurses := true, apart := false }
def PredNamesSaid : Prop := predNamesRow.holds Try.pinned (OpenSpec.ofChange predNamesSpec)

/-- ITS FALSE NEIGHBOUR: 'it returns false'. Refute it at one input. -/
def predNamesWrong : ChangeSpec := { name := "predNames", fn := fun _ => fun
  | [] => { results := [.lit (.bool false)], args := [] }
  | _ => none }
def PredNamesWrongFalsely : Prop := predNamesRow.holds Try.pinned (OpenSpec.ofChange predNamesWrong)

/-- 'tombolalaw21.UnfoldWholes': WHATEVER THE INPUT: true; the input reads as it did. -/
def unfoldWholesSpec : ChangeSpec := { name := "unfoldWholes", fn := fun _ => fun
  | [d] => { results := [.lit (.bool true)], args := [d] }
  | _ => none }
def unfoldWholesRow : OpenClaim := { program := "yteebbffecaeciaa", sum := "fdd1ca3482a6a20196c8531509350546e1d9cc301364ad1a6cb74c26481378ee", func := "tombola/tombolalaw21.UnfoldWholes", spec := "unfoldWholes", unfollowed := true, recurses := true, loops := true, apart := false }
def UnfoldWholesSaid : Prop := unfoldWholesRow.holds Try.pinned (OpenSpec.ofChange unfoldWholesSpec)

/-- ITS FALSE NEIGHBOUR: 'it returns false'. Refute it at one input. -/
def unfoldWholesWrong : ChangeSpec := { name := "unfoldWholes", fn := fun _ => fun
  | [d] => { results := [.lit (.bool false)], args := [d] }
  | _ => none }
def UnfoldWholesWrongFalsely : Prop := unfoldWholesRow.holds Try.pinned (OpenSpec.ofChange unfoldWholesWrong)

/-- 'tombolalaw21.UnfoldLess': WHATEVER THE INPUT: true; the input reads as it did. -/
def unfoldLessSpec : ChangeSpec := { name := "unfoldLess", fn := fun _ => fun
  | [d1, d2, d3] => { results := [.lit (.bool true)], args := [d1, d2, d3] }
  | _ => none }
def unfoldLessRow : OpenClaim := { program := "yteebbffecaeciaa", sum := "fdd1ca3482a6a20196c8531509350546e1d9cc301364ad1a6cb74c26481378ee", func := "tombola/tombolalaw21.UnfoldLess", spec := "unfoldLess", unfollowed := true, recurses := true, loops := true, apart := false }
def UnfoldLessSaid : Prop := unfoldLessRow.holds Try.pinned (OpenSpec.ofChange unfoldLessSpec)

/-- ITS FALSE NEIGHBOUR: 'it returns false'. Refute it at one input. -/
def unfoldLessWrong : ChangeSpec := { name := "unfoldLess", fn := fun _ => fun
  | [d1, d2, d3] => { results := [.lit (.bool false)], args := [d1, d2, d3] }
  | _ => none }
def UnfoldLessWrongFalsely : Prop := unfoldLessRow.holds Try.pinned (OpenSpec.ofChange unfoldLessWrong)

/-- 'tombolalaw21.UnfoldWhole': WHATEVER THE INPUT: true; the input reads as it did. -/
def unfoldWholeSpec : ChangeSpec := { name := "unfoldWhole", fn := fun _ => fun
  | [d] => { results := [.lit (.bool true)], args := [d] }
  | _ => none }
def unfoldWholeRow : OpenClaim := { program := "yteebbffecaeciaa", sum := "fdd1ca3482a6a20196c8531509350546e1d9cc301364ad1a6cb74c26481378ee", func := "tombola/tombolalaw21.UnfoldWhole", spec := "unfoldWhole", unfollowed := true, recurses := true, loops := true, apart := false }
def UnfoldWholeSaid : Prop := unfoldWholeRow.holds Try.pinned (OpenSpec.ofChange unfoldWholeSpec)

/-- ITS FALSE NEIGHBOUR: 'it returns false'. Refute it at one input. -/
def unfoldWholeWrong : ChangeSpec := { name := "unfoldWhole", fn := fun _ => fun
  | [d] => { results := [.lit (.bool false)], args := [d] }
  | _ => none }
def UnfoldWholeWrongFalsely : Prop := unfoldWholeRow.holds Try.pinned (OpenSpec.ofChange unfoldWholeWrong)

/-- 'tombolalaw21.UnfoldParts': WHATEVER THE INPUT: true; the input reads as it did. -/
def unfoldPartsSpec : ChangeSpec := { name := "unfoldParts", fn := fun _ => fun
  | [d1, d2] => { results := [.lit (.bool true)], args := [d1, d2] }
  | _ => none }
def unfoldPartsRow : OpenClaim := { program := "yteebbffecaeciaa", sum := "fdd1ca3482a6a20196c8531509350546e1d9cc301364ad1a6cb74c26481378ee", func := "tombola/tombolalaw21.UnfoldParts", spec := "unfoldParts", unfollowed := true, recurses := true, loops := true, apart := false }
def UnfoldPartsSaid : Prop := unfoldPartsRow.holds Try.pinned (OpenSpec.ofChange unfoldPartsSpec)

/-- ITS FALSE NEIGHBOUR: 'it returns false'. Refute it at one input. -/
def unfoldPartsWrong : ChangeSpec := { name := "unfoldParts", fn := fun _ => fun
  | [d1, d2] => { results := [.lit (.bool false)], args := [d1, d2] }
  | _ => none }
def UnfoldPartsWrongFalsely : Prop := unfoldPartsRow.holds Try.pinned (OpenSpec.ofChange unfoldPartsWrong)

/-- 'tombolalaw21.UnfoldNames': WHATEVER THE INPUT: true; the input reads as it did. -/
def unfoldNamesSpec : ChangeSpec := { name := "unfoldNames", fn := fun _ => fun
  | [] => { results := [.lit (.bool true)], args := [] }
  | _ => none }
def unfoldNamesRow : OpenClaim := { program := "yteebbffecaeciaa", sum := "fdd1ca3482a6a20196c8531509350546e1d9cc301364ad1a6cb74c26481378ee", func := "tombola/tombolalaw21.UnfoldNames", spec := "unfoldNames", unfollowed := true, recurses := true, apart := false }
def UnfoldNamesSaid : Prop := unfoldNamesRow.holds Try.pinned (OpenSpec.ofChange unfoldNamesSpec)

/-- ITS FALSE NEIGHBOUR: 'it returns false'. Refute it at one input. -/
def unfoldNamesWrong : ChangeSpec := { name := "unfoldNames", fn := fun _ => fun
  | [] => { results := [.lit (.bool false)], args := [] }
  | _ => none }
def UnfoldNamesWrongFalsely : Prop := unfoldNamesRow.holds Try.pinned (OpenSpec.ofChange unfoldNamesWrong)

/-- 'tombolalaw19.TermNames': WHATEVER THE INPUT: true; the input reads as it did. -/
def termNamesSpec : ChangeSpec := { name := "termNames", fn := fun _ => fun
  | [] => { results := [.lit (.bool true)], args := [] }
  | _ => none }
def termNamesRow : OpenClaim := { program := "yteebbffecaeciaa", sum := "fdd1ca3482a6a20196c8531509350546e1d9cc301364ad1a6cb74c26481378ee", func := "tombola/tombolalaw19.TermNames", spec := "termNames", unfollowed := true, recurses := true, apart := false }
def TermNamesSaid : Prop := termNamesRow.holds Try.pinned (OpenSpec.ofChange termNamesSpec)

/-- ITS FALSE NEIGHBOUR: 'it returns false'. Refute it at one input. -/
def termNamesWrong : ChangeSpec := { name := "termNames", fn := fun _ => fun
  | [] => { results := [.lit (.bool false)], args := [] }
  | _ => none }
def TermNamesWrongFalsely : Prop := termNamesRow.holds Try.pinned (OpenSpec.ofChange termNamesWrong)

/- THE SECOND FORM. 'bulk': how many values and letters a reading holds, each counted each time it is reached (what is shared counts as often as it is met; a slice's spare places count too). A statement '..UptoSaid' is the law's where the arguments, and the package variables that the reading takes, are together of bulk at most 1048576: NARROWER than '..Said'. Prove '..Said' where nothing that the law and all that it calls make is longer than what came in: it says more and counts as full. Else prove '..UptoSaid'. A law counts once. -/
mutual
def uptoBulk {H : Type} : DataW H → Nat
  | .lit (.string bytes) => bytes.length + 1
  | .lit _ => 1
  | .nil => 1
  | .ptr d => uptoBulk d + 1
  | .slice elems spare => uptoBulkAll elems + uptoBulkAll spare + 1
  | .agg parts => uptoBulkAll parts + 1
  | .iface _ d => uptoBulk d + 1
  | .map entries => uptoBulkEntries entries + 1
  | .held _ => 1
def uptoBulkAll {H : Type} : List (DataW H) → Nat
  | [] => 0
  | d :: r => uptoBulk d + uptoBulkAll r
def uptoBulkEntries {H : Type} : List (Lit × DataW H) → Nat
  | [] => 0
  | x :: r => uptoBulkEntry x + uptoBulkEntries r
def uptoBulkEntry {H : Type} : Lit × DataW H → Nat
  | (.string bytes, d) => bytes.length + uptoBulk d + 1
  | (_, d) => uptoBulk d + 1
 end
def uptoSmall : (H : Type) → List (DataW H) → Bool := fun _ ds => decide (uptoBulkAll ds ≤ 1048576)
def OpenSpec.upto (s : _root_.Go.ChangeSpec) : _root_.Go.OpenSpec := { _root_.Go.OpenSpec.ofChange s with cond := some uptoSmall }

/-- 'tombolalaw17.PredNames', WHERE WHAT IT READS IS OF BULK AT MOST 1048576: true; the input reads as it did. -/
def predNamesUptoRow : OpenClaim := { program := "yteebbffecaeciaa", sum := "fdd1ca3482a6a20196c8531509350546e1d9cc301364ad1a6cb74c26481378ee", func := "tombola/tombolalaw17.PredNames", spec := "predNames", unfollowed := true, recurses := true, apart := false, narrowed := true }
def PredNamesUptoSaid : Prop := predNamesUptoRow.holds Try.pinned (OpenSpec.upto predNamesSpec)

/-- 'tombolalaw21.UnfoldWholes', WHERE WHAT IT READS IS OF BULK AT MOST 1048576: true; the input reads as it did. -/
def unfoldWholesUptoRow : OpenClaim := { program := "yteebbffecaeciaa", sum := "fdd1ca3482a6a20196c8531509350546e1d9cc301364ad1a6cb74c26481378ee", func := "tombola/tombolalaw21.UnfoldWholes", spec := "unfoldWholes", unfollowed := true, recurses := true, loops := true, apart := false, narrowed := true }
def UnfoldWholesUptoSaid : Prop := unfoldWholesUptoRow.holds Try.pinned (OpenSpec.upto unfoldWholesSpec)

/-- 'tombolalaw21.UnfoldLess', WHERE WHAT IT READS IS OF BULK AT MOST 1048576: true; the input reads as it did. -/
def unfoldLessUptoRow : OpenClaim := { program := "yteebbffecaeciaa", sum := "fdd1ca3482a6a20196c8531509350546e1d9cc301364ad1a6cb74c26481378ee", func := "tombola/tombolalaw21.UnfoldLess", spec := "unfoldLess", unfollowed := true, recurses := true, loops := true, apart := false, narrowed := true }
def UnfoldLessUptoSaid : Prop := unfoldLessUptoRow.holds Try.pinned (OpenSpec.upto unfoldLessSpec)

/-- 'tombolalaw21.UnfoldWhole', WHERE WHAT IT READS IS OF BULK AT MOST 1048576: true; the input reads as it did. -/
def unfoldWholeUptoRow : OpenClaim := { program := "yteebbffecaeciaa", sum := "fdd1ca3482a6a20196c8531509350546e1d9cc301364ad1a6cb74c26481378ee", func := "tombola/tombolalaw21.UnfoldWhole", spec := "unfoldWhole", unfollowed := true, recurses := true, loops := true, apart := false, narrowed := true }
def UnfoldWholeUptoSaid : Prop := unfoldWholeUptoRow.holds Try.pinned (OpenSpec.upto unfoldWholeSpec)

/-- 'tombolalaw21.UnfoldParts', WHERE WHAT IT READS IS OF BULK AT MOST 1048576: true; the input reads as it did. -/
def unfoldPartsUptoRow : OpenClaim := { program := "yteebbffecaeciaa", sum := "fdd1ca3482a6a20196c8531509350546e1d9cc301364ad1a6cb74c26481378ee", func := "tombola/tombolalaw21.UnfoldParts", spec := "unfoldParts", unfollowed := true, recurses := true, loops := true, apart := false, narrowed := true }
def UnfoldPartsUptoSaid : Prop := unfoldPartsUptoRow.holds Try.pinned (OpenSpec.upto unfoldPartsSpec)

/-- 'tombolalaw21.UnfoldNames', WHERE WHAT IT READS IS OF BULK AT MOST 1048576: true; the input reads as it did. -/
def unfoldNamesUptoRow : OpenClaim := { program := "yteebbffecaeciaa", sum := "fdd1ca3482a6a20196c8531509350546e1d9cc301364ad1a6cb74c26481378ee", func := "tombola/tombolalaw21.UnfoldNames", spec := "unfoldNames", unfollowed := true, recurses := true, apart := false, narrowed := true }
def UnfoldNamesUptoSaid : Prop := unfoldNamesUptoRow.holds Try.pinned (OpenSpec.upto unfoldNamesSpec)

/-- 'tombolalaw19.TermNames', WHERE WHAT IT READS IS OF BULK AT MOST 1048576: true; the input reads as it did. -/
def termNamesUptoRow : OpenClaim := { program := "yteebbffecaeciaa", sum := "fdd1ca3482a6a20196c8531509350546e1d9cc301364ad1a6cb74c26481378ee", func := "tombola/tombolalaw19.TermNames", spec := "termNames", unfollowed := true, recurses := true, apart := false, narrowed := true }
def TermNamesUptoSaid : Prop := termNamesUptoRow.holds Try.pinned (OpenSpec.upto termNamesSpec)

end Rows
end Go.Proofs.Yteebbffecaeciaa
