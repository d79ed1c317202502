/- Texts of this claim laid into one: PWalkC. -/
import Derived.Test.YteebbffecaeciaaM04
import Derived.Test.YteebbffecaeciaaM05
/- tombolaref17.Node. -/
namespace Go.Proofs.Yteebbffecaeciaa
open Go.RowKit


end Go.Proofs.Yteebbffecaeciaa
