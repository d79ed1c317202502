/-
  NARROWER THAN 'FOR EVERY INPUT', by the rows' own cells (each row's printed sentence says how): PredHolds: loops · PredOrder: loops · PredMakes: loops · PredItems: loops · PredRows: loops · PredParts: loops · PredNot: loops · PredChecks: loops.
  DERIVED. THE GIVEN ROWS OF THIS SEAT. 9 by the template 'for every input the law returns true; each argument reads behind the call as it read before'; 0 by the template 'total and deterministic' (their statements: YtclmnpfdnhfbmaaTotals.lean).
  GIVEN WITH THE SEED: the statements are not yours to turn. If you find one false, say at which input.
  Laid BY PROGRAM, IN A SANDBOX (cutbox-rows.mjs): the forced cells as the released guide's own fill.sh prints them over the translation 1d0d76cabc526a38… (all of the seat's roots in one cut). By AI agents, Wed Nov 11 2026. No macro, syntax, notation, axiom, sorry.
-/
import Derived.Test.YtclmnpfdnhfbmaaChecked
import GoSem.Claim
import GoSem.ClaimJoined
import GoSem.ClaimMapViews
import Derived.JoinedTies
import Derived.KernelRfl
namespace Go.Proofs.Ytclmnpfdnhfbmaa
/- THE CELL 'sum', in the pinned program and in every row, IS THE sha256 OF THE DUMP (.gsa) THAT YtclmnpfdnhfbmaaProg.lean LOADS. Nothing in Lean hashes anything: it is a label: what it is worth is what the hold of that sum in a sandbox is worth. -/
noncomputable def Try.pinned : Pinned := { name := "ytclmnpfdnhfbmaa", sum := "1d0d76cabc526a385d7ff461d908ef70eb71551ea9e4e8a009692693bdfa02b6", checked := Try.checked }
namespace Rows
def none {H : Type} : Left H := { results := [], args := [] }

/-- 'tombolalaw17.PredHolds': WHATEVER THE INPUT: true; the input reads as it did. -/
def predHoldsSpec : ChangeSpec := { name := "predHolds", fn := fun _ => fun
  | [d1, d2] => { results := [.lit (.bool true)], args := [d1, d2] }
  | _ => none }
def predHoldsRow : OpenClaim := { program := "ytclmnpfdnhfbmaa", sum := "1d0d76cabc526a385d7ff461d908ef70eb71551ea9e4e8a009692693bdfa02b6", func := "tombola/tombolalaw17.PredHolds", spec := "predHolds", unfollowed := true, recurses := true, loops := true, apart := false }
def PredHoldsSaid : Prop := predHoldsRow.holds Try.pinned (OpenSpec.ofChange predHoldsSpec)

/-- ITS FALSE NEIGHBOUR: 'it returns false'. Refute it at one input. -/
def predHoldsWrong : ChangeSpec := { name := "predHolds", fn := fun _ => fun
  | [d1, d2] => { results := [.lit (.bool false)], args := [d1, d2] }
  | _ => none }
def PredHoldsWrongFalsely : Prop := predHoldsRow.holds Try.pinned (OpenSpec.ofChange predHoldsWrong)

/-- 'tombolalaw17.PredOrder': WHATEVER THE INPUT: true; the input reads as it did. -/
def predOrderSpec : ChangeSpec := { name := "predOrder", fn := fun _ => fun
  | [d1, d2, d3] => { results := [.lit (.bool true)], args := [d1, d2, d3] }
  | _ => none }
def predOrderRow : OpenClaim := { program := "ytclmnpfdnhfbmaa", sum := "1d0d76cabc526a385d7ff461d908ef70eb71551ea9e4e8a009692693bdfa02b6", func := "tombola/tombolalaw17.PredOrder", spec := "predOrder", unfollowed := true, recurses := true, loops := true, apart := false }
def PredOrderSaid : Prop := predOrderRow.holds Try.pinned (OpenSpec.ofChange predOrderSpec)

/-- ITS FALSE NEIGHBOUR: 'it returns false'. Refute it at one input. -/
def predOrderWrong : ChangeSpec := { name := "predOrder", fn := fun _ => fun
  | [d1, d2, d3] => { results := [.lit (.bool false)], args := [d1, d2, d3] }
  | _ => none }
def PredOrderWrongFalsely : Prop := predOrderRow.holds Try.pinned (OpenSpec.ofChange predOrderWrong)

/-- 'tombolalaw17.PredMakes': WHATEVER THE INPUT: true; the input reads as it did. -/
def predMakesSpec : ChangeSpec := { name := "predMakes", fn := fun _ => fun
  | [d1, d2, d3, d4] => { results := [.lit (.bool true)], args := [d1, d2, d3, d4] }
  | _ => none }
def predMakesRow : OpenClaim := { program := "ytclmnpfdnhfbmaa", sum := "1d0d76cabc526a385d7ff461d908ef70eb71551ea9e4e8a009692693bdfa02b6", func := "tombola/tombolalaw17.PredMakes", spec := "predMakes", unfollowed := true, recurses := true, loops := true, apart := false }
def PredMakesSaid : Prop := predMakesRow.holds Try.pinned (OpenSpec.ofChange predMakesSpec)

/-- ITS FALSE NEIGHBOUR: 'it returns false'. Refute it at one input. -/
def predMakesWrong : ChangeSpec := { name := "predMakes", fn := fun _ => fun
  | [d1, d2, d3, d4] => { results := [.lit (.bool false)], args := [d1, d2, d3, d4] }
  | _ => none }
def PredMakesWrongFalsely : Prop := predMakesRow.holds Try.pinned (OpenSpec.ofChange predMakesWrong)

/-- 'tombolalaw17.PredItems': WHATEVER THE INPUT: true; the input reads as it did. -/
def predItemsSpec : ChangeSpec := { name := "predItems", fn := fun _ => fun
  | [d1, d2, d3] => { results := [.lit (.bool true)], args := [d1, d2, d3] }
  | _ => none }
def predItemsRow : OpenClaim := { program := "ytclmnpfdnhfbmaa", sum := "1d0d76cabc526a385d7ff461d908ef70eb71551ea9e4e8a009692693bdfa02b6", func := "tombola/tombolalaw17.PredItems", spec := "predItems", unfollowed := true, recurses := true, loops := true, apart := false }
def PredItemsSaid : Prop := predItemsRow.holds Try.pinned (OpenSpec.ofChange predItemsSpec)

/-- ITS FALSE NEIGHBOUR: 'it returns false'. Refute it at one input. -/
def predItemsWrong : ChangeSpec := { name := "predItems", fn := fun _ => fun
  | [d1, d2, d3] => { results := [.lit (.bool false)], args := [d1, d2, d3] }
  | _ => none }
def PredItemsWrongFalsely : Prop := predItemsRow.holds Try.pinned (OpenSpec.ofChange predItemsWrong)

/-- 'tombolalaw17.PredRows': WHATEVER THE INPUT: true; the input reads as it did. -/
def predRowsSpec : ChangeSpec := { name := "predRows", fn := fun _ => fun
  | [d1, d2, d3, d4] => { results := [.lit (.bool true)], args := [d1, d2, d3, d4] }
  | _ => none }
def predRowsRow : OpenClaim := { program := "ytclmnpfdnhfbmaa", sum := "1d0d76cabc526a385d7ff461d908ef70eb71551ea9e4e8a009692693bdfa02b6", func := "tombola/tombolalaw17.PredRows", spec := "predRows", unfollowed := true, recurses := true, loops := true, apart := false }
def PredRowsSaid : Prop := predRowsRow.holds Try.pinned (OpenSpec.ofChange predRowsSpec)

/-- ITS FALSE NEIGHBOUR: 'it returns false'. Refute it at one input. -/
def predRowsWrong : ChangeSpec := { name := "predRows", fn := fun _ => fun
  | [d1, d2, d3, d4] => { results := [.lit (.bool false)], args := [d1, d2, d3, d4] }
  | _ => none }
def PredRowsWrongFalsely : Prop := predRowsRow.holds Try.pinned (OpenSpec.ofChange predRowsWrong)

/-- 'tombolalaw17.PredParts': WHATEVER THE INPUT: true; the input reads as it did. -/
def predPartsSpec : ChangeSpec := { name := "predParts", fn := fun _ => fun
  | [d1, d2] => { results := [.lit (.bool true)], args := [d1, d2] }
  | _ => none }
def predPartsRow : OpenClaim := { program := "ytclmnpfdnhfbmaa", sum := "1d0d76cabc526a385d7ff461d908ef70eb71551ea9e4e8a009692693bdfa02b6", func := "tombola/tombolalaw17.PredParts", spec := "predParts", unfollowed := true, recurses := true, loops := true, apart := false }
def PredPartsSaid : Prop := predPartsRow.holds Try.pinned (OpenSpec.ofChange predPartsSpec)

/-- ITS FALSE NEIGHBOUR: 'it returns false'. Refute it at one input. -/
def predPartsWrong : ChangeSpec := { name := "predParts", fn := fun _ => fun
  | [d1, d2] => { results := [.lit (.bool false)], args := [d1, d2] }
  | _ => none }
def PredPartsWrongFalsely : Prop := predPartsRow.holds Try.pinned (OpenSpec.ofChange predPartsWrong)

/-- 'tombolalaw17.PredNot': WHATEVER THE INPUT: true; the input reads as it did. -/
def predNotSpec : ChangeSpec := { name := "predNot", fn := fun _ => fun
  | [d1, d2, d3] => { results := [.lit (.bool true)], args := [d1, d2, d3] }
  | _ => none }
def predNotRow : OpenClaim := { program := "ytclmnpfdnhfbmaa", sum := "1d0d76cabc526a385d7ff461d908ef70eb71551ea9e4e8a009692693bdfa02b6", func := "tombola/tombolalaw17.PredNot", spec := "predNot", unfollowed := true, recurses := true, loops := true, apart := false }
def PredNotSaid : Prop := predNotRow.holds Try.pinned (OpenSpec.ofChange predNotSpec)

/-- ITS FALSE NEIGHBOUR: 'it returns false'. Refute it at one input. -/
def predNotWrong : ChangeSpec := { name := "predNot", fn := fun _ => fun
  | [d1, d2, d3] => { results := [.lit (.bool false)], args := [d1, d2, d3] }
  | _ => none }
def PredNotWrongFalsely : Prop := predNotRow.holds Try.pinned (OpenSpec.ofChange predNotWrong)

/-- 'tombolalaw17.PredNames': WHATEVER THE INPUT: true; the input reads as it did. -/
def predNamesSpec : ChangeSpec := { name := "predNames", fn := fun _ => fun
  | [] => { results := [.lit (.bool true)], args := [] }
  | _ => none }
def predNamesRow : OpenClaim := { program := "ytclmnpfdnhfbmaa", sum := "1d0d76cabc526a385d7ff461d908ef70eb71551ea9e4e8a009692693bdfa02b6", func := "tombola/tombolalaw17.PredNames", spec := "predNames", unfollowed := true, recurses := true, apart := false }
def PredNamesSaid : Prop := predNamesRow.holds Try.pinned (OpenSpec.ofChange predNamesSpec)

/-- ITS FALSE NEIGHBOUR: 'it returns false'. Refute it at one input. -/
def predNamesWrong : ChangeSpec := { name := "predNames", fn := fun _ => fun
  | [] => { results := [.lit (.bool false)], args := [] }
  | _ => none }
def PredNamesWrongFalsely : Prop := predNamesRow.holds Try.pinned (OpenSpec.ofChange predNamesWrong)

/-- 'tombolalaw17.PredChecks': WHATEVER THE INPUT: true; the input reads as it did. -/
def predChecksSpec : ChangeSpec := { name := "predChecks", fn := fun _ => fun
  | [d1, d2] => { results := [.lit (.bool true)], args := [d1, d2] }
  | _ => none }
def predChecksRow : OpenClaim := { program := "ytclmnpfdnhfbmaa", sum := "1d0d76cabc526a385d7ff461d908ef70eb71551ea9e4e8a009692693bdfa02b6", func := "tombola/tombolalaw17.PredChecks", spec := "predChecks", unfollowed := true, recurses := true, loops := true, apart := false }
def PredChecksSaid : Prop := predChecksRow.holds Try.pinned (OpenSpec.ofChange predChecksSpec)

/-- ITS FALSE NEIGHBOUR: 'it returns false'. Refute it at one input. -/
def predChecksWrong : ChangeSpec := { name := "predChecks", fn := fun _ => fun
  | [d1, d2] => { results := [.lit (.bool false)], args := [d1, d2] }
  | _ => none }
def PredChecksWrongFalsely : Prop := predChecksRow.holds Try.pinned (OpenSpec.ofChange predChecksWrong)

/- THE SECOND FORM. 'bulk': how many values and letters a reading holds, each counted each time it is reached (what is shared counts as often as it is met; a slice's spare places count too). A statement '..UptoSaid' is the law's where the arguments, and the package variables that the reading takes, are together of bulk at most 1048576: NARROWER than '..Said'. Prove '..Said' where nothing that the law and all that it calls make is longer than what came in: it says more and counts as full. Else prove '..UptoSaid'. A law counts once. -/
mutual
def uptoBulk {H : Type} : DataW H → Nat
  | .lit (.string bytes) => bytes.length + 1
  | .lit _ => 1
  | .nil => 1
  | .ptr d => uptoBulk d + 1
  | .slice elems spare => uptoBulkAll elems + uptoBulkAll spare + 1
  | .agg parts => uptoBulkAll parts + 1
  | .iface _ d => uptoBulk d + 1
  | .map entries => uptoBulkEntries entries + 1
  | .held _ => 1
def uptoBulkAll {H : Type} : List (DataW H) → Nat
  | [] => 0
  | d :: r => uptoBulk d + uptoBulkAll r
def uptoBulkEntries {H : Type} : List (Lit × DataW H) → Nat
  | [] => 0
  | x :: r => uptoBulkEntry x + uptoBulkEntries r
def uptoBulkEntry {H : Type} : Lit × DataW H → Nat
  | (.string bytes, d) => bytes.length + uptoBulk d + 1
  | (_, d) => uptoBulk d + 1
 end
def uptoSmall : (H : Type) → List (DataW H) → Bool := fun _ ds => decide (uptoBulkAll ds ≤ 1048576)
def OpenSpec.upto (s : _root_.Go.ChangeSpec) : _root_.Go.OpenSpec := { _root_.Go.OpenSpec.ofChange s with cond := some uptoSmall }

/-- 'tombolalaw17.PredHolds', WHERE WHAT IT READS IS OF BULK AT MOST 1048576: true; the input reads as it did. -/
def predHoldsUptoRow : OpenClaim := { program := "ytclmnpfdnhfbmaa", sum := "1d0d76cabc526a385d7ff461d908ef70eb71551ea9e4e8a009692693bdfa02b6", func := "tombola/tombolalaw17.PredHolds", spec := "predHolds", unfollowed := true, recurses := true, loops := true, apart := false, narrowed := true }
def PredHoldsUptoSaid : Prop := predHoldsUptoRow.holds Try.pinned (OpenSpec.upto predHoldsSpec)

/-- 'tombolalaw17.PredOrder', WHERE WHAT IT READS IS OF BULK AT MOST 1048576: true; the input reads as it did. -/
def predOrderUptoRow : OpenClaim := { program := "ytclmnpfdnhfbmaa", sum := "1d0d76cabc526a385d7ff461d908ef70eb71551ea9e4e8a009692693bdfa02b6", func := "tombola/tombolalaw17.PredOrder", spec := "predOrder", unfollowed := true, recurses := true, loops := true, apart := false, narrowed := true }
def PredOrderUptoSaid : Prop := predOrderUptoRow.holds Try.pinned (OpenSpec.upto predOrderSpec)

/-- 'tombolalaw17.PredMakes', WHERE WHAT IT READS IS OF BULK AT MOST 1048576: true; the input reads as it did. -/
def predMakesUptoRow : OpenClaim := { program := "ytclmnpfdnhfbmaa", sum := "1d0d76cabc526a385d7ff461d908ef70eb71551ea9e4e8a009692693bdfa02b6", func := "tombola/tombolalaw17.PredMakes", spec := "predMakes", unfollowed := true, recurses := true, loops := true, apart := false, narrowed := true }
def PredMakesUptoSaid : Prop := predMakesUptoRow.holds Try.pinned (OpenSpec.upto predMakesSpec)

/-- 'tombolalaw17.PredItems', WHERE WHAT IT READS IS OF BULK AT MOST 1048576: true; the input reads as it did. -/
def predItemsUptoRow : OpenClaim := { program := "ytclmnpfdnhfbmaa", sum := "1d0d76cabc526a385d7ff461d908ef70eb71551ea9e4e8a009692693bdfa02b6", func := "tombola/tombolalaw17.PredItems", spec := "predItems", unfollowed := true, recurses := true, loops := true, apart := false, narrowed := true }
def PredItemsUptoSaid : Prop := predItemsUptoRow.holds Try.pinned (OpenSpec.upto predItemsSpec)

/-- 'tombolalaw17.PredRows', WHERE WHAT IT READS IS OF BULK AT MOST 1048576: true; the input reads as it did. -/
def predRowsUptoRow : OpenClaim := { program := "ytclmnpfdnhfbmaa", sum := "1d0d76cabc526a385d7ff461d908ef70eb71551ea9e4e8a009692693bdfa02b6", func := "tombola/tombolalaw17.PredRows", spec := "predRows", unfollowed := true, recurses := true, loops := true, apart := false, narrowed := true }
def PredRowsUptoSaid : Prop := predRowsUptoRow.holds Try.pinned (OpenSpec.upto predRowsSpec)

/-- 'tombolalaw17.PredParts', WHERE WHAT IT READS IS OF BULK AT MOST 1048576: true; the input reads as it did. -/
def predPartsUptoRow : OpenClaim := { program := "ytclmnpfdnhfbmaa", sum := "1d0d76cabc526a385d7ff461d908ef70eb71551ea9e4e8a009692693bdfa02b6", func := "tombola/tombolalaw17.PredParts", spec := "predParts", unfollowed := true, recurses := true, loops := true, apart := false, narrowed := true }
def PredPartsUptoSaid : Prop := predPartsUptoRow.holds Try.pinned (OpenSpec.upto predPartsSpec)

/-- 'tombolalaw17.PredNot', WHERE WHAT IT READS IS OF BULK AT MOST 1048576: true; the input reads as it did. -/
def predNotUptoRow : OpenClaim := { program := "ytclmnpfdnhfbmaa", sum := "1d0d76cabc526a385d7ff461d908ef70eb71551ea9e4e8a009692693bdfa02b6", func := "tombola/tombolalaw17.PredNot", spec := "predNot", unfollowed := true, recurses := true, loops := true, apart := false, narrowed := true }
def PredNotUptoSaid : Prop := predNotUptoRow.holds Try.pinned (OpenSpec.upto predNotSpec)

/-- 'tombolalaw17.PredNames', WHERE WHAT IT READS IS OF BULK AT MOST 1048576: true; the input reads as it did. -/
def predNamesUptoRow : OpenClaim := { program := "ytclmnpfdnhfbmaa", sum := "1d0d76cabc526a385d7ff461d908ef70eb71551ea9e4e8a009692693bdfa02b6", func := "tombola/tombolalaw17.PredNames", spec := "predNames", unfollowed := true, recurses := true, apart := false, narrowed := true }
def PredNamesUptoSaid : Prop := predNamesUptoRow.holds Try.pinned (OpenSpec.upto predNamesSpec)

/-- 'tombolalaw17.PredChecks', WHERE WHAT IT READS IS OF BULK AT MOST 1048576: true; the input reads as it did. -/
def predChecksUptoRow : OpenClaim := { program := "ytclmnpfdnhfbmaa", sum := "1d0d76cabc526a385d7ff461d908ef70eb71551ea9e4e8a009692693bdfa02b6", func := "tombola/tombolalaw17.PredChecks", spec := "predChecks", unfollowed := true, recurses := true, loops := true, apart := false, narrowed := true }
def PredChecksUptoSaid : Prop := predChecksUptoRow.holds Try.pinned (OpenSpec.upto predChecksSpec)

end Rows
end Go.Proofs.Ytclmnpfdnhfbmaa
