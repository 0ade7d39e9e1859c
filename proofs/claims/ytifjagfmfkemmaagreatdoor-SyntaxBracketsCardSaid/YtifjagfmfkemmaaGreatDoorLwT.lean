import Derived.Test.YtifjagfmfkemmaaGreatDoorLwS
set_option linter.unusedVariables false
set_option linter.unusedSimpArgs false
set_option maxHeartbeats 4000000
namespace Go.Proofs.YtifjagfmfkemmaaGreatDoor
open Eng Go
section
variable {E:SP} (hE:Mk E)
include hE
end
section
variable {bl:List Tk→Rs Nd} (h:Vl IsB nsz 0 bl)
include h
end
end Go.Proofs.YtifjagfmfkemmaaGreatDoor
