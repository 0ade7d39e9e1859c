import Derived.Test.YtifjagfmfkemmaaGreatDoorLwX
set_option linter.unusedVariables false
set_option linter.unusedSimpArgs false
set_option maxHeartbeats 4000000
namespace Go.Proofs.YtifjagfmfkemmaaGreatDoor
open Eng Go
section
variable {K:Nat} {l:List Tk} {E:SP} (hE:Gp E) (qE:Mb l E.ex (Av K)) (bE:Ln l (Av K))
include hE qE
end
end Go.Proofs.YtifjagfmfkemmaaGreatDoor
