/- Plain law of CountRolls. -/
import Derived.Test.YtogkhlpljkelpaaRRb
namespace Go.GA
open Go
end Go.GA
