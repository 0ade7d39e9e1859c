import Derived.Test.YtifjagfmfkemmaaGreatDoorFn4
set_option linter.unusedVariables false
set_option maxHeartbeats 0
namespace Go.Proofs.YtifjagfmfkemmaaGreatDoor
open Eng
def Du (K:Nat) (p0:List UInt8) (p1:List UInt8):Option Bool:=(Option.bind ((if (p0.length:Int) > 5000 then some true else some (decide ((p1.length:Int) > 5000))):Option Bool) (fun d=>(if d=true then (Option.bind (Dl K) (fun a1=>some a1)) else (Option.bind (Ek K p0) (fun (a,i,f)=>(Option.bind (Ek K p1) (fun (b,j,g)=>(Option.bind ((if f≠0 then some true else some (decide (g≠0))):Option Bool) (fun c=>(if c=true then (Option.bind (Dl K) (fun a4=>some a4)) else (if a.Kids.length * 72≤140737488355328 then (if (a.Kids.length+b.Kids.length) * 72≤140737488355328 then (if p0.length+([32]:List UInt8).length≤9223372036854775807 then (if (p0++([32]:List UInt8)).length+p1.length≤9223372036854775807 then (Option.bind (Ek K ((p0++([32]:List UInt8))++p1)) (fun (h,k,e)=>(Option.bind (B8 K (⟨60,[],0,[],(a.Kids++b.Kids)⟩:Aa)) (fun a6=>(if a6 > 4000 then (if e=6 then (Option.bind (Dl K) (fun a7=>some a7)) else some false) else (if e=0 then (Option.bind (Bg K h (⟨60,[],0,[],(a.Kids++b.Kids)⟩:Aa)) (fun a8=>(if a8=true then (Option.bind (Dl K) (fun a9=>some a9)) else some false))) else some false)))))) else none) else none) else none) else none)))))))))))
theorem Du.body {Γ:Ud} {K:Nat} {p0:List UInt8} {p1:List UInt8} {r:Bool} (h:Du K p0 p1=some r):Ub V P 83 100 Γ (Tryz.f4.body.getD .skip) (Ty P V Tryz.f4 (.B r) []) ⟨Tx 0 [.cv (.str p0),.cv (.str p1)],[]⟩:=by
 unfold Du at h;refine Tw L 200 <| Tm ?_;obtain ⟨o1,hp1,h⟩:=bind_some h;refine Tm (Uc (Q':=fun e S=>(e=.normal∧∃ b:Bool,S=⟨[(0,.cv (.str p0)),(1,.cv (.str p1)),(22,.B b)],[]⟩∧b=o1)) ?_ ?_)
 ·clear h;replace h:=hp1;rcases Tn h with ⟨c1,h⟩ |⟨c1,h⟩
  ·refine ar L 202 [(3,true)] [] [] (cs:=[(decide ((p0.length:Int) > 5000))=true]) (S':=⟨[(0,.cv (.str p0)),(1,.cv (.str p1)),(22,.B true)],[]⟩) (decide_eq_true c1) ?_;cases h;exact ⟨rfl,_,rfl,rfl⟩
  refine ar L 202 [(3,false)] [] [] (cs:=[(decide ((p0.length:Int) > 5000))=false]) (S':=⟨[(0,.cv (.str p0)),(1,.cv (.str p1)),(22,.B (decide ((p1.length:Int) > 5000)))],[]⟩) (decide_eq_false c1) ?_;cases h;exact ⟨rfl,_,rfl,rfl⟩
 ·rintro e S ⟨rfl,b,rfl,rfl⟩;rcases Tn h with ⟨c2,h⟩ |⟨c2,h⟩
  ·refine tt c2 <| Tm ?_;obtain ⟨a1,h1,h⟩:=bind_some h;refine rg L 211 [] [(0,.B a1)] [] (U4 (Dl.ok h1)) ?_;refine To ?_;cases h;exact T3
  refine fN c2 <| Tr <| Tm ?_;obtain ⟨⟨c,g,i⟩,h2,h⟩:=bind_some h;dsimp only at h;refine rg L 214 [] [(1,.tup [.agg (Ah c),.I g,.I i])] [] (U4 (Ek.ok h2)) ?_;refine Tm ?_;obtain ⟨⟨d,j,f⟩,h3,h⟩:=bind_some h;dsimp only at h;refine rg L 225 [] [(1,.tup [.agg (Ah d),.I j,.I f])] [] (U4 (Ek.ok h3)) ?_;refine Tm ?_;obtain ⟨o2,hp2,h⟩:=bind_some h;refine Tm (Uc (Q':=fun e S=>(e=.normal∧∃ a:Bool,S=⟨[(0,.cv (.str p0)),(1,.cv (.str p1)),(5,.P 23200),(8,.P 23201),(41,.B a)],[(23200,.raw (Ah c)),(23201,.raw (Ah d))]⟩∧a=o2)) ?_ ?_)
  ·clear h;replace h:=hp2;rcases Tn h with ⟨c3,h⟩ |⟨c3,h⟩
   ·refine Tz (rg L 236 [(2,true)] [] [] (Tu (decide_eq_true c3)) ⟨rfl,rfl⟩) (Tl.trans (Tl.kk [0,1,5,8,41] [220,231]) (Tl.trans (Tl.rr [(220,23200),(231,23201)]) (Tl.kp (S':=⟨[(0,.cv (.str p0)),(1,.cv (.str p1)),(5,.P 23200),(8,.P 23201),(41,.B true)],[(23200,.raw (Ah c)),(23201,.raw (Ah d))]⟩)))) ?_;cases h;exact ⟨rfl,_,rfl,rfl⟩
   refine Tz (rg L 236 [(2,false)] [] [] (Tu (decide_eq_false c3)) ⟨rfl,rfl⟩) (Tl.trans (Tl.kk [0,1,5,8,41] [220,231]) (Tl.trans (Tl.rr [(220,23200),(231,23201)]) (Tl.kp (S':=⟨[(0,.cv (.str p0)),(1,.cv (.str p1)),(5,.P 23200),(8,.P 23201),(41,.B (decide (f≠0)))],[(23200,.raw (Ah c)),(23201,.raw (Ah d))]⟩)))) ?_;cases h;exact ⟨rfl,_,rfl,rfl⟩
  ·rintro e S ⟨rfl,a,rfl,rfl⟩;rcases Tn h with ⟨c4,h⟩ |⟨c4,h⟩
   ·refine tt c4 <| Tm ?_;obtain ⟨a4,h4,h⟩:=bind_some h;refine rg L 243 [] [(0,.B a4)] [] (U4 (Dl.ok h4)) ?_;refine To ?_;cases h;exact T3
   refine fN c4 <| Tr <| Tw L 246 <| Tm ?_;obtain ⟨g1,h⟩:=Ts h;refine rg L 250 [] [] [] (U4 g1) ?_;refine Tm ?_;obtain ⟨g2,h⟩:=Ts h;refine rg L 258 [] [] [] (U4 g2) ?_;refine Tm ?_;obtain ⟨g3,h⟩:=Ts h;obtain ⟨g4,h⟩:=Ts h;obtain ⟨⟨k,l,m⟩,h5,h⟩:=bind_some h;dsimp only at h;refine rg L 266 [] [(4,.tup [.agg (Ah k),.I l,.I m])] [] (Tq g3 (Tq g4 (Tq (Ek.ok h5) (Tu trivial)))) ?_;refine Tm <| Tm ?_;obtain ⟨a6,h6,h⟩:=bind_some h;refine rg L 280 [] [(1,.I a6)] [] (U4 (B8.ok h6)) ?_;rcases Tn h with ⟨c5,h⟩ |⟨c5,h⟩
   ·refine tT c5 <| Tm ?_;rcases Tn h with ⟨c6,h⟩ |⟨c6,h⟩
    ·obtain ⟨a7,h7,h⟩:=bind_some h;refine rg L 284 [(2,true)] [(3,.B a7)] [] (Tq (decide_eq_true c6) (Tq (Dl.ok h7) (Tu trivial))) ?_;refine To ?_;cases h;exact T3
    refine rg L 284 [(2,false)] [] [] (Tu (decide_eq_false c6)) ?_;refine To ?_;cases h;exact T3
   refine fF c5 <| Tr <| Tm ?_;rcases Tn h with ⟨c7,h⟩ |⟨c7,h⟩
   ·obtain ⟨a8,h8,h⟩:=bind_some h;rcases Tn h with ⟨c8,h⟩ |⟨c8,h⟩
    ·obtain ⟨a9,h9,h⟩:=bind_some h;refine rg L 291 [(2,true),(7,true)] [(5,.B a8),(8,.B a9)] [] (Tq (decide_eq_true c7) (Tq (Bg.ok h8) (Tq trivial (Tq c8 (Tq (Dl.ok h9) (Tu trivial)))))) ?_;refine To ?_;cases h;exact T3
    refine rg L 291 [(2,true),(7,false)] [(5,.B a8)] [] (Tq (decide_eq_true c7) (Tq (Bg.ok h8) (Tq trivial (Tu (eq_false_of_ne_true c8))))) ?_;refine To ?_;cases h;exact T3
   refine rg L 291 [(2,false)] [] [] (Tu (decide_eq_false c7)) ?_;refine To ?_;cases h;exact T3
theorem Du.ok {K:Nat} {p0:List UInt8} {p1:List UInt8} {r:Bool} (h:Du K p0 p1=some r):T1 V P 4 [.cv (.str p0),.cv (.str p1)] (.B r):=Tv.pcall (eo (fn:=Tryz.f4) (n:=83) (m:=100) fun Γ=>Du.body h) (by kernel_rfl)
end Go.Proofs.YtifjagfmfkemmaaGreatDoor
