/- Texts of this claim laid into one: TRefB. -/
import Derived.Test.YteebbffecaeciaaM30
/- The document's Node. -/
namespace Go.Proofs.Yteebbffecaeciaa
open Go.RowKit

end Go.Proofs.Yteebbffecaeciaa
