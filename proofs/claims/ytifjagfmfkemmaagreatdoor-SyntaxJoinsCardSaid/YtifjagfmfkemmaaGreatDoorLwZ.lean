import Derived.Test.YtifjagfmfkemmaaGreatDoorLwY
set_option linter.unusedVariables false
set_option linter.unusedSimpArgs false
set_option maxHeartbeats 4000000
namespace Go.Proofs.YtifjagfmfkemmaaGreatDoor
open Eng Go
section
variable {K:Nat} {l:List Tk} {E:SP} (hE:Gp E) (qE:Mb l E.ex (Av K)) (bE:Ln l (Av K)) (qL:Mb l (Fv [41] E.ex) (Bc K [41])) (bL:Ln l (Bc K [41]))
include hE qE bE
include qL bL
end
end Go.Proofs.YtifjagfmfkemmaaGreatDoor
