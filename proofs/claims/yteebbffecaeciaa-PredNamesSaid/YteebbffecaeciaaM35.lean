/- Texts of this claim laid into one: TRefC. -/
import Derived.Test.YteebbffecaeciaaM31
import Derived.Test.YteebbffecaeciaaM28
import Derived.Test.YteebbffecaeciaaM32
import Derived.Test.YteebbffecaeciaaM34
/- The document's check. -/
namespace Go.Proofs.Yteebbffecaeciaa
open Go.RowKit

end Go.Proofs.Yteebbffecaeciaa
