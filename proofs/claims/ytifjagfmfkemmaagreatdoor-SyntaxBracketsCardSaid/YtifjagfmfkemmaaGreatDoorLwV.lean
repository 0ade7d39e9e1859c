import Derived.Test.YtifjagfmfkemmaaGreatDoorLwU
set_option linter.unusedVariables false
set_option linter.unusedSimpArgs false
set_option maxHeartbeats 4000000
namespace Go.Proofs.YtifjagfmfkemmaaGreatDoor
open Eng Go
section
variable {K:Nat} {l:List Tk}
section
variable {E:SP} (hE:Gk E) (sE:F0 l E.ex (As K))
include hE sE
end
section
variable {E:SP} (hE:Gk E) (sE:F0 l E.ex (As K))
include hE sE
end
end
end Go.Proofs.YtifjagfmfkemmaaGreatDoor
