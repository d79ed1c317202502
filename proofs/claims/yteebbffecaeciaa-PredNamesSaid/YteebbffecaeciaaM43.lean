/- Texts of this claim laid into one: USpoil. -/
import Derived.Test.YteebbffecaeciaaM28
/- The spoil of chapter 21. -/
namespace Go.Proofs.Yteebbffecaeciaa
open Go.RowKit

end Go.Proofs.Yteebbffecaeciaa
