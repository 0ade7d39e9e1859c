import Derived.Test.YtifjagfmfkemmaaGreatDoorLw4
set_option linter.unusedVariables false
set_option linter.unusedSimpArgs false
set_option maxHeartbeats 4000000
namespace Go.Proofs.YtifjagfmfkemmaaGreatDoor
open Eng Go
theorem Snd.sq' {α β:Type} {p:List Tk→Rs α} {f:α→List Tk→Rs β} (hp:Snd 0 p) (hf:∀ a,Snd 1 (f a)):Snd 1 (Go.Proofs.YtifjagfmfkemmaaGreatDoor.sq p f):=fun ts hg r hr=>(Snd.bnd (d:=0) (e:=1) (hp ts hg) hf r hr).le (by omega)
theorem Lo.alt {α:Type} {A:List UInt8→Prop} {s:List UInt8} {p q:List Tk→Rs α} (sp:Snd 0 p) (hp:Lo A p) (hq:Lo A q) (h:A s∨Snd 1 q):Lo A (al s p q):=fun n=>Lo2.alt sp (hp _) (hq n) h
theorem Lo.pure {α:Type} {A:List UInt8→Prop} (a:α):Lo A (pok a):=fun n=>Lo2.pure a
theorem Lo.want {A:List UInt8→Prop} (s:List UInt8):Lo A (Ex s):=fun n=>Lo2.want s
theorem Lo.name {A:List UInt8→Prop}:Lo A F5:=fun n=>Lo2.name
section
variable {E:SP} (hE:Gk E) (lE:LoR E) {A:List UInt8→Prop}
include hE lE
end
section
variable {A:List UInt8→Prop}
variable {bl:List Tk→Rs Nd} (hs:Snd 1 bl) (h:Lo AN bl)
include hs h
end
end Go.Proofs.YtifjagfmfkemmaaGreatDoor
