import Derived.Test.YtifjagfmfkemmaaGreatDoorLw1
set_option linter.unusedVariables false
set_option linter.unusedSimpArgs false
set_option maxHeartbeats 4000000
namespace Go.Proofs.YtifjagfmfkemmaaGreatDoor
open Eng Go
def hchk (K:Nat) (op:Int) (p:RP):Option (List Tk×Int×Bool×List Nd):=Option.bind ((if op=65 then (Option.bind (Ai K [99,104,101,99,107] p) (fun (h,e)=>some (h,e.l,e.at_,e.bad))) else some (false,p.l,p.at_,p.bad)):Option (Bool×(List Aq)×Int×Bool)) (fun (f,b,c,d)=>(if f=true then (Option.bind (Ar K (⟨b,c,d⟩:Ad)) (fun (a,g)=>(if ([(⟨a.Op,a.Name,a.Int,a.Text,a.Kids⟩:Aa)]:List Aa).length * 72≤140737488355328 then some (g.l,g.at_,g.bad,([(⟨a.Op,a.Name,a.Int,a.Text,a.Kids⟩:Aa)]:List Aa)) else none))) else some (b,c,d,([]:List Aa))))
def htail (K:Nat) (op:Int) (s x:List UInt8) (y:List Tk×Int×Bool×List Nd):Option (Nd×RP):=match y with |(c,d,e,b)=>(Option.bind (Ar K (⟨c,d,e⟩:Ad)) (fun (a,f)=>(if (b.length+([(⟨a.Op,a.Name,a.Int,a.Text,a.Kids⟩:Aa)]:List Aa).length) * 72≤140737488355328 then some ((⟨op,s,0,x,(b++([(⟨a.Op,a.Name,a.Int,a.Text,a.Kids⟩:Aa)]:List Aa))⟩:Aa),f) else none)))
def hrest (K:Nat) (op:Int) (p:RP):Option (Nd×RP):=Option.bind (Ca K p) (fun (s,p)=>Option.bind (Ax K [40] p) (fun p=>Option.bind (Ca K p) (fun (x,p)=>Option.bind (Ax K [41] p) (fun p=>Option.bind (hchk K op p) (htail K op s x)))))
section
variable {K:Nat} {l:List Tk} {bl:List Tk→Rs Nd} (hs:Snd 1 bl) (hb:Mb l bl (Ar K)) (bb:Ln l (Ar K))
include hs hb bb
variable (qC:Mb l Ib (Dv K)) (bC:Ln l (Dv K))
include hs hb bb qC bC
end
def Kq:SP:=SPu 163859
def G6:List Tk→Rs Nd:=(SBu Kq 40000).bl
def Hk:List Tk→Rs Nd:=Lp G6
theorem G7:Gp Kq:=P0 _
theorem Gx:Snd 1 G6:=(Ky G7 _).bl
theorem Ix:Snd 0 Hk:=Pa Gx
theorem G8:Tot 16385 Hk:=Pm Gx ((R9 G7 40000 16385 N5).1 (by omega))
theorem Oa:Od Kq:=valU 163859
theorem Oe:Vl IsB nsz 0 G6:=(Q2 Oa 40000).bl
theorem P9:Vl PRs nsz 1 Hk:=Qs Oe
section
variable {K:Nat} (hK:600000≤K) (hb:K < 8000000) {l:List Tk} (hl:l.length≤16385)
include hK hl
theorem pE:E7 l Kq.ex (As K):=(Jr (by omega) (by omega) _ K (by omega)).ex
theorem pC (op:Int) (s:List UInt8):K9 l (Ga Kq op s) (Bi K op s):=by
 obtain ⟨g,rfl⟩:∃ j,K=j+2:=⟨K - 2,by omega⟩
 exact K7 (by omega) G7 (Jr (by omega) (by omega) _ g (by omega)).ex op s
theorem pB:E7 l G6 (Al K):=(Ms G7 (pE hK hl) (pC hK hl) (by omega) 40000 K (by omega)).bl
theorem pP:E7 l Hk (Bh K):=Si Gx (pB hK hl) (by omega) (by omega)
end
theorem Kw {K:Nat} (hK:600000≤K) (hb:K < 8000000) (src:List UInt8):Ek K src=some (Jc Hk src):=by
 have h:=Ph (K:=K) (by omega) hb Ix G8 P9 (q:=Bh K) (fun l hl=>pP hK hl) src;unfold Ek;show Option.bind (E9 K src) _=_;have e:E9 K src=Option.bind (Ec K src) (fun (a,b,c)=>if c≠0 then some (B5,b,c) else Option.bind (Option.bind (Bh K ⟨a,0⟩) (Nl K)) (fun x=>some (Fu x))):=by
  unfold E9;rw [Sh]; rfl
 rw [e,h]; rfl
end Go.Proofs.YtifjagfmfkemmaaGreatDoor
