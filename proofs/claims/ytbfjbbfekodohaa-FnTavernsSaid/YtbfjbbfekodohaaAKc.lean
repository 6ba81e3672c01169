/- New taverns. -/
import Derived.Test.YtbfjbbfekodohaaAKb
namespace Go.GA
open Go
set_option maxRecDepth 100000
end Go.GA
