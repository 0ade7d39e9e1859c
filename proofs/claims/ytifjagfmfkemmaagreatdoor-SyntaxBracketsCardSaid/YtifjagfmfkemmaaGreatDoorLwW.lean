import Derived.Test.YtifjagfmfkemmaaGreatDoorLwV
set_option linter.unusedVariables false
set_option linter.unusedSimpArgs false
set_option maxHeartbeats 4000000
namespace Go.Proofs.YtifjagfmfkemmaaGreatDoor
open Eng Go
section
variable {K:Nat} {l:List Tk} {E:SP} (hE:Gk E) (sE:F0 l E.ex (As K)) (sC:∀ op s,Mb l (F4 E op s) (Bg K op s))
include hE sE sC
end
section
variable {K:Nat} {l:List Tk}
variable {bl:List Tk→Rs Nd} (hs:Snd 1 bl) (hb:F0 l bl (Aq K))
include hs hb
omit hs hb in
theorem Jp {α β:Type} (a:α) (ts:List Tk) (f:α→List Tk→Rs β):bnd (some (.ok (a,ts))) f=f a ts:=rfl
end
end Go.Proofs.YtifjagfmfkemmaaGreatDoor
