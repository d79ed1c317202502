/- Texts of this claim laid into one: TRefD, TRefE, TRefH. -/
import Derived.Test.YteebbffecaeciaaM35
import Derived.Test.YteebbffecaeciaaM23
import Derived.Test.YteebbffecaeciaaM37
/- The document's Deep. -/
namespace Go.Proofs.Yteebbffecaeciaa
open Go.RowKit

end Go.Proofs.Yteebbffecaeciaa
/- The document's Nodes. -/
namespace Go.Proofs.Yteebbffecaeciaa
open Go.RowKit

end Go.Proofs.Yteebbffecaeciaa
/- The document's bulk. -/
namespace Go.Proofs.Yteebbffecaeciaa
open Go.RowKit

end Go.Proofs.Yteebbffecaeciaa
