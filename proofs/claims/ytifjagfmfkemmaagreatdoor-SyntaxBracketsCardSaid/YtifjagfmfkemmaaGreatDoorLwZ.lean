import Derived.Test.YtifjagfmfkemmaaGreatDoorLwY
set_option linter.unusedVariables false
set_option linter.unusedSimpArgs false
set_option maxHeartbeats 4000000
namespace Go.Proofs.YtifjagfmfkemmaaGreatDoor
open Eng Go
section
variable {K:Nat} {l:List Tk} {E:SP} (hE:Gk E) (qE:Ks l E.ex (Av K)) (bE:Kk l (Av K)) (qL:Ks l (Fx [41] E.ex) (A9 K [41])) (bL:Kk l (A9 K [41]))
include hE qE bE
include qL bL
end
end Go.Proofs.YtifjagfmfkemmaaGreatDoor
