/- Printed by a program (gen.py): the functions' answers, and that they are so. -/
import Derived.Test.YtlaijgoahmigmaaGreatDoorGdT7
set_option linter.unusedVariables false
set_option maxRecDepth 100000
namespace Gm
open Go Go.Proofs
end Gm
