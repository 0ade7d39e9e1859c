import Derived.Test.YtifjagfmfkemmaaGreatDoorLwQ
set_option linter.unusedVariables false
set_option linter.unusedSimpArgs false
set_option maxHeartbeats 4000000
namespace Go.Proofs.YtifjagfmfkemmaaGreatDoor
open Eng Go
def sq {α β:Type} (p:List Tk→Rs α) (f:α→List Tk→Rs β) (ts:List Tk):Rs β:=bnd (p ts) f
def al {α:Type} (s:List UInt8) (p q:List Tk→Rs α) (ts:List Tk):Rs α:=if isS s ts=true then p ts.tail else q ts
def fl {α:Type} (ts:List Tk):Rs α:=some (.error ts)
section
variable (E:SP)
end
def litN (ts:List Tk):Rs Nd:=match Hd ts with
 | some (a,r)=>pok a r
 | none=>fl ts
def O7:List Tk→Rs Nd:=al [45] (sq (Fr 3) fun t=>pok (nd 14 [⟨4,[],t.Int,[],[]⟩])) litN
section
variable (bl:List Tk→Rs Nd)
def hdK (k:Int):List Tk→Bool
 | []=>false
 | t :: _=>decide (t.Kind=k)
end
section
variable {α β:Type}
theorem Snd.le {p:List Tk→Rs α} (h:Snd 1 p):Snd 0 p:=fun ts hg r hr=>(h ts hg r hr).le (by omega)
theorem Snd.sq {d:Nat} {p:List Tk→Rs α} {f:α→List Tk→Rs β} (hp:Snd d p) (hf:∀ a,Snd 0 (f a)):Snd d (sq p f):=fun ts hg r hr=>Snd.bnd (d:=d) (e:=0) (hp ts hg) hf r hr
theorem Snd.al {d:Nat} (hd:d≤1) {s:List UInt8} {p q:List Tk→Rs α} (hp:Snd 0 p) (hq:Snd d q):Snd d (al s p q):=fun ts hg r hr=>by
 unfold Go.Proofs.YtifjagfmfkemmaaGreatDoor.al at hr;split at hr
 ·have h1:=Eat.isS hg (by assumption);exact (Ate.after h1 (hp _ h1.2.2 r hr)).le (by omega)
 ·exact hq ts hg r hr
theorem Oq {d:Nat}:Snd d (fl (α:=α)):=fun ts hg r hr=>by cases hr; exact Eat.self hg
end
section
variable {E:SP} (hE:Gk E)
include hE
end
section
variable {bl:List Tk→Rs Nd} (h:Snd 1 bl)
include h
end
theorem Tot.sq {α β:Type} {n d:Nat} {p:List Tk→Rs α} {f:α→List Tk→Rs β} (hs:Snd d p) (hp:Tot n p) (hf:∀ a,Tot (n - d) (f a)):Tot n (sq p f):=fun ts hg hn=>E2 (hp ts hg hn) fun a ts' e=>by
 have h:Eat d ts ts':=hs _ hg _ e
 have:=h.2.1
 exact hf a ts' h.2.2 (by omega)
theorem Tot.al {α:Type} {n:Nat} {s:List UInt8} {p q:List Tk→Rs α} (hp:Tot (n - 1) p) (hq:Tot n q):Tot n (al s p q):=fun ts hg hn=>by
 unfold Go.Proofs.YtifjagfmfkemmaaGreatDoor.al;split
 ·have h1:=Eat.isS hg (by assumption);have h2:=h1.2.1;exact hp _ h1.2.2 (by omega)
 ·exact hq ts hg hn
section
variable {E:SP} (hE:Gk E) {n:Nat} (tE:Tot n E.ex)
include hE tE
end
section
variable {bl:List Tk→Rs Nd} (h:Snd 1 bl) {n:Nat} (ht:Tot n bl)
include h ht
end
end Go.Proofs.YtifjagfmfkemmaaGreatDoor
