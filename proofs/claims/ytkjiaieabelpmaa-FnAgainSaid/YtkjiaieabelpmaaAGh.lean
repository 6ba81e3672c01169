/- Plain law of FnAgain: fractions and powers. -/
import Derived.Test.YtkjiaieabelpmaaAGf
namespace Go.GA.E
open Go
set_option maxRecDepth 100000
end Go.GA.E
