import Derived.Test.YtifjagfmfkemmaaGreatDoorLwZ
set_option linter.unusedVariables false
set_option linter.unusedSimpArgs false
set_option maxHeartbeats 4000000
namespace Go.Proofs.YtifjagfmfkemmaaGreatDoor
open Eng Go
section
variable {K:Nat} {l:List Tk} (qP:∀ ts,Sx l ts→∀ a u,Hl ts=some (a,u)→Bw K (rst l ts false)=some (a,rst l u false)) (bP:Ln l (Bw K))
variable {bl:List Tk→Rs Nd} (hs:Snd 1 bl) (hb:Mb l bl (Ar K)) (bb:Ln l (Ar K))
include hs hb bb
end
end Go.Proofs.YtifjagfmfkemmaaGreatDoor
