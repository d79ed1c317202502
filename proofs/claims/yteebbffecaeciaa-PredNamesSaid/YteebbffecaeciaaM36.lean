/- Texts of this claim laid into one: TRefF. -/
import Derived.Test.YteebbffecaeciaaM29
import Derived.Test.YteebbffecaeciaaM35
/- The document's Put. -/
namespace Go.Proofs.Yteebbffecaeciaa
open Go.RowKit

end Go.Proofs.Yteebbffecaeciaa
