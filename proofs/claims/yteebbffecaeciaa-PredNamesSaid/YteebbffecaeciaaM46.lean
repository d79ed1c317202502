/- Texts of this claim laid into one: TRefJ. -/
import Derived.Test.YteebbffecaeciaaM45
/- The document's Check and Sound. -/
namespace Go.Proofs.Yteebbffecaeciaa
open Go.RowKit

end Go.Proofs.Yteebbffecaeciaa
