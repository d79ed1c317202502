/- Texts of this claim laid into one: TLawWhere. -/
import Derived.Test.YteebbffecaeciaaM29
import Derived.Test.YteebbffecaeciaaM33
import Derived.Deep.Cut
import Derived.Deep.CutRange
/- TermWhere: the law's function, walked. -/
namespace Go.Proofs.Yteebbffecaeciaa
open Go.RowKit

end Go.Proofs.Yteebbffecaeciaa
