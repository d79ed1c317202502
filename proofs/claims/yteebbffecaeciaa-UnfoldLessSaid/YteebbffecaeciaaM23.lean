/- Texts of this claim laid into one: TNodes. -/
import Derived.Test.YteebbffecaeciaaM10
/- term.Nodes, term.Deep. -/
namespace Go.Proofs.Yteebbffecaeciaa
open Go.RowKit



end Go.Proofs.Yteebbffecaeciaa
