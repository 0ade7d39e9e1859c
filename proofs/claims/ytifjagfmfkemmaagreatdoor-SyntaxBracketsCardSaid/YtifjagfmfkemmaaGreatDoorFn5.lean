import Derived.Test.YtifjagfmfkemmaaGreatDoorFn4
set_option linter.unusedVariables false
set_option maxHeartbeats 0
namespace Go.Proofs.YtifjagfmfkemmaaGreatDoor
open Eng
def Dj (K:Nat) (p0:List UInt8):Option Bool:=(if (p0.length:Int) > 5000 then (Option.bind (Dw K) (fun a1=>some a1)) else (Option.bind (Em K p0) (fun (a,e,b)=>(if b≠0 then (Option.bind (Dw K) (fun a3=>some a3)) else (if ([40]:List UInt8).length+p0.length≤9223372036854775807 then (if (([40]:List UInt8)++p0).length+([41]:List UInt8).length≤9223372036854775807 then (Option.bind (Em K ((([40]:List UInt8)++p0)++([41]:List UInt8))) (fun (c,f,d)=>(if d=0 then (Option.bind (Bd K a c) (fun a5=>(if a5=true then (Option.bind (Dw K) (fun a6=>some a6)) else some false))) else some false))) else none) else none)))))
theorem Dj.body {Γ:P4} {K:Nat} {p0:List UInt8} {r:Bool} (h:Dj K p0=some r):P1 V P 40 100 Γ (Tryz.f5.body.getD .skip) (Po P V Tryz.f5 (.B r) []) ⟨Pn 0 [.cv (.str p0)],[]⟩:=by
 unfold Dj at h;refine Pl L 200 <| Pb <| Pl L 202 ?_;rcases Pc h with ⟨c1,h⟩ |⟨c1,h⟩
 ·refine tT c1 <| Pb ?_;obtain ⟨a1,h1,h⟩:=bind_some h;refine rg L 206 [] [(0,.B a1)] [] (Qu (Dw.ok h1)) ?_;refine Pd ?_;cases h;exact Pt
 refine fF c1 <| Pg <| Pb ?_;obtain ⟨⟨a,b,c⟩,h2,h⟩:=bind_some h;dsimp only at h;refine rg L 209 [] [(1,.tup [.agg (Ah a),.I b,.I c])] [] (Qu (Em.ok h2)) ?_;refine Pb <| Pl L 220 ?_;rcases Pc h with ⟨c2,h⟩ |⟨c2,h⟩
 ·refine tT c2 <| Pb ?_;obtain ⟨a3,h3,h⟩:=bind_some h;refine rg L 223 [] [(0,.B a3)] [] (Qu (Dw.ok h3)) ?_;refine Pd ?_;cases h;exact Pt
 refine fF c2 <| Pg <| Pb ?_;obtain ⟨g1,h⟩:=Ph h;obtain ⟨g2,h⟩:=Ph h;obtain ⟨⟨d,e,f⟩,h4,h⟩:=bind_some h;dsimp only at h;refine rg L 226 [] [(3,.tup [.agg (Ah d),.I e,.I f])] [] (Pf g1 (Pf g2 (Pf (Em.ok h4) (Pk trivial)))) ?_;refine Pb ?_;rcases Pc h with ⟨c3,h⟩ |⟨c3,h⟩
 ·obtain ⟨a5,h5,h⟩:=bind_some h;rcases Pc h with ⟨c4,h⟩ |⟨c4,h⟩
  ·obtain ⟨a6,h6,h⟩:=bind_some h;refine rg L 239 [(2,true),(7,true)] [(5,.B a5),(8,.B a6)] [] (Pf (decide_eq_true c3) (Pf (Bd.ok h5) (Pf trivial (Pf c4 (Pf (Dw.ok h6) (Pk trivial)))))) ?_;refine Pd ?_;cases h;exact Pt
  refine rg L 239 [(2,true),(7,false)] [(5,.B a5)] [] (Pf (decide_eq_true c3) (Pf (Bd.ok h5) (Pf trivial (Pk (eq_false_of_ne_true c4))))) ?_;refine Pd ?_;cases h;exact Pt
 refine rg L 239 [(2,false)] [] [] (Pk (decide_eq_false c3)) ?_;refine Pd ?_;cases h;exact Pt
theorem Dj.ok {K:Nat} {p0:List UInt8} {r:Bool} (h:Dj K p0=some r):Pr V P 5 [.cv (.str p0)] (.B r):=Pm.pcall (eo (fn:=Tryz.f5) (n:=40) (m:=100) fun Γ=>Dj.body h) (by kernel_rfl)
end Go.Proofs.YtifjagfmfkemmaaGreatDoor
