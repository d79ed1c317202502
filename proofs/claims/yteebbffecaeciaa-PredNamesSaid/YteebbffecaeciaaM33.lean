/- Texts of this claim laid into one: TLong. -/
import Derived.Test.YteebbffecaeciaaM32
import Derived.Test.YteebbffecaeciaaM08
/- The law's weigh and Long, over terms. -/
namespace Go.Proofs.Yteebbffecaeciaa
open Go.RowKit

end Go.Proofs.Yteebbffecaeciaa
