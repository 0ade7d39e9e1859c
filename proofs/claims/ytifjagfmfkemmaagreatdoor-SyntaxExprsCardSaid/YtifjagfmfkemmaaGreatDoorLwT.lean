import Derived.Test.YtifjagfmfkemmaaGreatDoorLwS
set_option linter.unusedVariables false
set_option linter.unusedSimpArgs false
set_option maxHeartbeats 4000000
namespace Go.Proofs.YtifjagfmfkemmaaGreatDoor
open Eng Go
section
variable {E:SP} (hE:Oe E)
include hE
omit hE in
omit hE in
omit hE in
omit hE in
end
section
variable {bl:List Tk→Rs Nd} (h:Vl IsB nsz 0 bl)
include h
omit h in
end
end Go.Proofs.YtifjagfmfkemmaaGreatDoor
