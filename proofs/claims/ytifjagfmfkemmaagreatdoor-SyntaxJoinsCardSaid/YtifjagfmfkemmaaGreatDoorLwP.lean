import Derived.Test.YtifjagfmfkemmaaGreatDoorLwO
set_option linter.unusedVariables false
set_option linter.unusedSimpArgs false
set_option maxHeartbeats 4000000
namespace Go.Proofs.YtifjagfmfkemmaaGreatDoor
open Eng Go
section
variable {K:Nat} {l:List Tk}
end
end Go.Proofs.YtifjagfmfkemmaaGreatDoor
