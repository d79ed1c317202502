/- Texts of this claim laid into one: TRefI. -/
import Derived.Test.YteebbffecaeciaaM44
/- The document's Bulk, high, High. -/
namespace Go.Proofs.Yteebbffecaeciaa
open Go.RowKit

end Go.Proofs.Yteebbffecaeciaa
