import Derived.Test.YtifjagfmfkemmaaGreatDoorLw1
set_option linter.unusedVariables false
set_option linter.unusedSimpArgs false
set_option maxHeartbeats 4000000
namespace Go.Proofs.YtifjagfmfkemmaaGreatDoor
open Eng Go
def hchk (K:Nat) (op:Int) (p:RP):Option (List Tk×Int×Bool×List Nd):=Option.bind ((if op=65 then (Option.bind (Ai K [99,104,101,99,107] p) (fun (h,e)=>some (h,e.l,e.at_,e.bad))) else some (false,p.l,p.at_,p.bad)):Option (Bool×(List Ap)×Int×Bool)) (fun (f,b,c,d)=>(if f=true then (Option.bind (Ar K (⟨b,c,d⟩:Ad)) (fun (a,g)=>(if ([(⟨a.Op,a.Name,a.Int,a.Text,a.Kids⟩:Aa)]:List Aa).length * 72≤140737488355328 then some (g.l,g.at_,g.bad,([(⟨a.Op,a.Name,a.Int,a.Text,a.Kids⟩:Aa)]:List Aa)) else none))) else some (b,c,d,([]:List Aa))))
def htail (K:Nat) (op:Int) (s x:List UInt8) (y:List Tk×Int×Bool×List Nd):Option (Nd×RP):=match y with |(c,d,e,b)=>(Option.bind (Ar K (⟨c,d,e⟩:Ad)) (fun (a,f)=>(if (b.length+([(⟨a.Op,a.Name,a.Int,a.Text,a.Kids⟩:Aa)]:List Aa).length) * 72≤140737488355328 then some ((⟨op,s,0,x,(b++([(⟨a.Op,a.Name,a.Int,a.Text,a.Kids⟩:Aa)]:List Aa))⟩:Aa),f) else none)))
def hrest (K:Nat) (op:Int) (p:RP):Option (Nd×RP):=Option.bind (B9 K p) (fun (s,p)=>Option.bind (Ax K [40] p) (fun p=>Option.bind (B9 K p) (fun (x,p)=>Option.bind (Ax K [41] p) (fun p=>Option.bind (hchk K op p) (htail K op s x)))))
section
variable {K:Nat} {l:List Tk} {bl:List Tk→Rs Nd} (hs:Snd 1 bl) (hb:Ks l bl (Ar K)) (bb:Kk l (Ar K))
include hs hb bb
variable (qC:Ks l O7 (Dv K)) (bC:Kk l (Dv K))
include hs hb bb qC bC
end
section
variable {K:Nat} (hK:600000≤K) (hb:K < 8000000) {l:List Tk} (hl:l.length≤16385)
include hK hl
end
end Go.Proofs.YtifjagfmfkemmaaGreatDoor
