/- Texts of this claim laid into one: URefW, URefWE, TLawCopies, ULib. -/
import Derived.Test.YteebbffecaeciaaM37
import Derived.Test.YteebbffecaeciaaM46
import Derived.Test.YteebbffecaeciaaM38
import Derived.Test.YteebbffecaeciaaM28
import Derived.Test.YteebbffecaeciaaM41
import Derived.Test.YteebbffecaeciaaM33
import Derived.Test.YteebbffecaeciaaM42
import Derived.Test.YteebbffecaeciaaM43
import Derived.BigFrame
/- The document's whole (chapter 21). -/
namespace Go.Proofs.Yteebbffecaeciaa
open Go.RowKit

end Go.Proofs.Yteebbffecaeciaa
/- The document's Whole (chapter 21), and the law's bare. -/
namespace Go.Proofs.Yteebbffecaeciaa
open Go.RowKit

/-- what is handed back: a term and an error. -/
def UTold (r : TT × Int) (w : World) (e : Ending) (w' : World) : Prop := ∃ x', e = .returned (.tuple #[x', .int .i64 r.2]) ∧ TIn w' r.1 x' ∧ Below w.heap.size w w'
theorem UMade.told {r : TT × Int} {w : World} {e : Ending} {w' : World} (h : UMade r w e w') : UTold r w e w' := by
  obtain ⟨x, he, hx, hb⟩ := h; exact ⟨x, he, hx.tin, hb⟩
end Go.Proofs.Yteebbffecaeciaa
/- TermCopies: the law's function, walked. -/
namespace Go.Proofs.Yteebbffecaeciaa
open Go.RowKit

end Go.Proofs.Yteebbffecaeciaa
/- What the walks of chapter 21's laws share. -/
namespace Go.Proofs.Yteebbffecaeciaa
open Go.RowKit

end Go.Proofs.Yteebbffecaeciaa
