/- Texts of this claim laid into one: TRefA. -/
import Derived.Test.YteebbffecaeciaaM11
import Derived.Test.YteebbffecaeciaaM05
/- The document's words over a node: ends, has, Node. -/
namespace Go.Proofs.Yteebbffecaeciaa
open Go.RowKit

/-! has -/
end Go.Proofs.Yteebbffecaeciaa
