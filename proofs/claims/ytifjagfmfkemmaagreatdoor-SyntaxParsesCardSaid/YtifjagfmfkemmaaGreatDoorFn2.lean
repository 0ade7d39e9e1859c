import Derived.Test.YtifjagfmfkemmaaGreatDoorFn1
set_option linter.unusedVariables false
set_option maxHeartbeats 0
namespace Go.Proofs.YtifjagfmfkemmaaGreatDoor
open Eng
def Cu.l15 (K:Nat):Nat→(List Ar)→Int→(List Aa)→Option (X3 (((List Aa)×Ab) ⊕ Int) ((List Ar)×Int×(List Aa)))
 | 0,_,_,_=>none
 | k+1,c,d,b=>(Option.bind (Ap K ([44]:List UInt8) (⟨c,d⟩:Ab)) (fun (g,e)=>(if g=true then (Option.bind (Bz K e) (fun a4=>match a4 with |(Sum.inl a4)=>some (X3.done (Sum.inr a4)) |(Sum.inr (a,f))=>(if (b.length+([(⟨a.Op,a.Name,a.Int,a.Text,a.Kids⟩:Aa)]:List Aa).length) * 72≤140737488355328 then Cu.l15 K k f.l f.i (b++([(⟨a.Op,a.Name,a.Int,a.Text,a.Kids⟩:Aa)]:List Aa)) else none))) else some (X3.go (e.l,e.i,b)))))
def Cu (K:Nat) (p0:List UInt8) (p1:Ab):Option (((List Aa)×Ab) ⊕ Int):=(Option.bind (Ap K p0 p1) (fun (g,e)=>(if g=true then some (Sum.inl (([]:List Aa),e)) else (Option.bind (Bz K e) (fun a2=>match a2 with |(Sum.inl a2)=>some (Sum.inr a2) |(Sum.inr (a,f))=>(obind (Cu.l15 K K f.l f.i ([(⟨a.Op,a.Name,a.Int,a.Text,a.Kids⟩:Aa)]:List Aa):Option (X3 (((List Aa)×Ab) ⊕ Int) ((List Ar)×Int×(List Aa)))) (fun r=>r) (fun (b,c,d)=>(Option.bind (Au K p0 (⟨b,c⟩:Ab)) (fun a5=>match a5 with |(Sum.inl a5)=>some (Sum.inl (d,a5)) |(Sum.inr a5)=>some (Sum.inr a5))))))))))
def Cu.rep (p0:List UInt8) (p1:Ab):((List Aa)×Ab) ⊕ Int→Yx T
 |(Sum.inl (v0,v1))=>.ret (.cv (.ro .Ae v0))
 |(Sum.inr v0)=>.pan (Yl 49 v0)
def Cu.post (p0:List UInt8) (p1:Ab):((List Aa)×Ab) ⊕ Int→List (Nat×Yd T)
 |(Sum.inl (v0,v1))=>[(0,.raw [.ro .Ao v1.l,.I v1.i])]
 |(Sum.inr v0)=>[]
theorem Cu.body {Γ:Yg} {K:Nat} {p0:List UInt8} {p1:Ab} {r:((List Aa)×Ab) ⊕ Int} (h:Cu K p0 p1=some r):Yc V P 25 100 Γ (Tryz.f48.body.getD .skip) (Yk P V Tryz.f48 (Cu.rep p0 p1 r) (Cu.post p0 p1 r)) ⟨X0 0 [.P 0,.cv (.str p0),.cv (.fn (.func 49) [.P 0] [])],[(0,.raw (Af p1))]⟩:=by
 unfold Cu at h;refine Xy L 200 <| Xo <| Xo ?_;obtain ⟨⟨p,q⟩,h1,h⟩:=bind_some h;dsimp only at h;refine rg L 202 [] [] [(2,(X5 (.B p) [(0,.raw (Af q))]))] (Xx (Ap.okE h1)) ?_;rcases Xp h with ⟨c1,h⟩ |⟨c1,h⟩
 ·refine tt c1 <| Xy L 206 <| Xq ?_;cases h;exact Zm
 refine fN c1 <| Xu <| Xo ?_;obtain ⟨a2,h2,h⟩:=bind_some h;rcases a2 with a2 | a2
 ·dsimp only at h;refine qn L 100208 [] [] [] 1 (X5 (.tup []) []) (Yl 49 a2) (Xx (Bz.okE h2)) ?_;cases h;exact rfl
 ·obtain ⟨j,o⟩:=a2;dsimp only at h;refine rg L 100208 [] [] [(1,(X5 (.agg (Aj j)) [(0,.raw (Af o))]))] (Xx (Bz.okE h2)) ?_;refine Xo <| Xw <| Xr (Xn.trans (Xn.kk [0,1,2,7] [0,100210]) (Xn.rr [(0,0),(100210,23100)])) ?_;refine kp (S':=⟨[(0,.P 0),(1,.cv (.str p0)),(2,.cv (.fn (.func 49) [.P 0] [])),(7,.cv (.own .Ae 23100))],[(0,.raw (Af o)),(23100,.lst .Ae ([(⟨j.Op,j.Name,j.Int,j.Text,j.Kids⟩:Aa)]:List Aa))]⟩) ?_;obtain ⟨o1,hp1,h⟩:=X9 h;refine X4 (Q':=fun e S=>(e=.exit 0∧∃ g:List Ar,∃ i:Int,∃ l:List Aa,S=⟨[(0,.P 0),(1,.cv (.str p0)),(7,.cv (.own .Ae 23000))],[(0,.raw [.ro .Ao g,.I i]),(23000,.lst .Ae l)]⟩∧X3.go (g,i,l)=o1)∨((e=.ret∨∃ ch,e=.panic ch)∧∃ a,X3.done a=o1∧Yk P V Tryz.f48 (Cu.rep p0 p1 a) (Cu.post p0 p1 a) e S)) (Yb (fun k S=>∃ d:List Ar,∃ f:Int,∃ c:List Aa,S=⟨[(0,.P 0),(1,.cv (.str p0)),(2,.cv (.fn (.func 49) [.P 0] [])),(7,.cv (.own .Ae 23100))],[(0,.raw [.ro .Ao d,.I f]),(23100,.lst .Ae c)]⟩∧Cu.l15 K k d f c=some o1) ?_ ⟨_,_,_,rfl,hp1⟩) ?_
  ·clear h hp1;intro k S hS;obtain ⟨d,f,c,rfl,h⟩:=hS;cases k with
   | zero=>cases h
   | succ k =>
   unfold Cu.l15 at h;refine Xo <| Xo ?_;obtain ⟨⟨s,m⟩,h3,h⟩:=bind_some h;dsimp only at h;refine rg L 213 [] [] [(1,(X5 (.B s) [(0,.raw (Af m))]))] (Xx (Ap.okE h3)) ?_;rcases Xp h with ⟨c2,h⟩ |⟨c2,h⟩
   ·refine tt c2 <| Xu <| Xw ?_;obtain ⟨a4,h4,h⟩:=bind_some h;rcases a4 with a4 | a4
    ·dsimp only at h;refine qn L 216 [] [] [] 2 (X5 (.tup []) []) (Yl 49 a4) (Xx (Bz.okE h4)) ?_;cases h;exact .inr ⟨.inr ⟨_,rfl⟩,_,rfl,rfl⟩
    ·obtain ⟨b,n⟩:=a4;dsimp only at h;obtain ⟨g1,h⟩:=Xv h;refine ar L 216 [] [] [(2,(X5 (.agg (Aj b)) [(0,.raw (Af n))]))] (cs:=[Xz V P 49 [.P 0] [(0,.raw (Af m))] [0] (.agg (Aj b)) [(0,.raw (Af n))],(c.length+([(⟨b.Op,b.Name,b.Int,b.Text,b.Kids⟩:Aa)]:List Aa).length) * 72≤140737488355328,True]) (S':=⟨[(0,.P 0),(1,.cv (.str p0)),(2,.cv (.fn (.func 49) [.P 0] [])),(7,.cv (.own .Ae 23100))],[(0,.raw (Af n)),(23100,.lst .Ae (c++([(⟨b.Op,b.Name,b.Int,b.Text,b.Kids⟩:Aa)]:List Aa)))]⟩) (And.intro (Bz.okE h4) (And.intro g1 trivial)) ?_;exact ⟨k,Nat.lt_succ_self k,_,_,_,rfl,h⟩
   refine fN c2 <| Xr (Xn.trans (Xn.kk [0,1,7] [0,23100]) (Xn.rr [(0,0),(23100,23000)])) ?_;refine ex (S':=⟨[(0,.P 0),(1,.cv (.str p0)),(7,.cv (.own .Ae 23000))],[(0,.raw (Af m)),(23000,.lst .Ae c)]⟩) ?_;cases h;exact .inl ⟨rfl,_,_,_,rfl,rfl⟩
  ·rintro e S (⟨rfl,g,i,l,rfl,rfl⟩ |⟨he,a,rfl,hr⟩)
   ·rcases h with ⟨_,e1,h⟩ |⟨_,e1,h⟩
    ·cases e1
    ·have e2:=X3.go.inj e1;subst e2;dsimp only at h;refine ⟨_,Xn.refl,?_⟩;refine Xo ?_;obtain ⟨a5,h5,h⟩:=bind_some h;rcases a5 with a5 | a5
     ·dsimp only at h;refine rg L 223 [] [] [(2,(X5 (.tup []) [(0,.raw (Af a5))]))] (Xx (Au.okE h5)) ?_;refine Xy L 227 <| Xr (Xn.trans (Xn.kk [6] [0,23000]) (Xn.fz 23000)) ?_;refine Xq ?_;cases h;exact Zm
     ·obtain ⟨a5,rfl⟩:∃ z,z=a5:=⟨_,rfl⟩
      dsimp only at h;refine qn L 223 [] [] [] 2 (X5 (.tup []) []) (Yl 49 a5) (Xx (Au.okE h5)) ?_;cases h;exact rfl
   ·rcases h with ⟨_,e1,h⟩ |⟨_,e1,h⟩
    ·have e2:=X3.done.inj e1;subst e2;subst h;rcases he with rfl |⟨ch,rfl⟩
     ·exact ⟨_,Xn.refl,hr⟩
     ·exact ⟨_,Xn.refl,hr⟩
    ·cases e1
theorem Cu.okE {K:Nat} {p0:List UInt8} {p1:Ab} {r:((List Aa)×Ab) ⊕ Int} (h:Cu K p0 p1=some r):Yj V P 48 [.P 0,.cv (.str p0),.cv (.fn (.func 49) [.P 0] [])] [(0,.raw (Af p1))] [0] (Cu.post p0 p1 r) (Cu.rep p0 p1 r) :=
 xo (fn:=Tryz.f48) (n:=25) (m:=100) fun Γ=>Cu.body h
def Cf (K:Nat) (p0:Ab):Option (Int ⊕ (Aa×Ab)):=(Option.bind (Av K p0) (fun a1=>match a1 with |(Sum.inl a1)=>some (Sum.inl a1) |(Sum.inr (a,b))=>(Option.bind (Au K ([59]:List UInt8) b) (fun a2=>match a2 with |(Sum.inl a2)=>some (Sum.inr (a,a2)) |(Sum.inr a2)=>some (Sum.inl a2)))))
def Cf.rep (p0:Ab):Int ⊕ (Aa×Ab)→Yx T
 |(Sum.inl v0)=>.pan (Yl 49 v0)
 |(Sum.inr (v0,v1))=>.ret (.agg [.I v0.Op,.str v0.Name,.I v0.Int,.str v0.Text,.ro .Ae v0.Kids])
def Cf.post (p0:Ab):Int ⊕ (Aa×Ab)→List (Nat×Yd T)
 |(Sum.inl v0)=>[]
 |(Sum.inr (v0,v1))=>[(0,.raw [.ro .Ao v1.l,.I v1.i])]
theorem Cf.body {Γ:Yg} {K:Nat} {p0:Ab} {r:Int ⊕ (Aa×Ab)} (h:Cf K p0=some r):Yc V P 9 100 Γ (Tryz.f104.body.getD .skip) (Yk P V Tryz.f104 (Cf.rep p0 r) (Cf.post p0 r)) ⟨X0 0 [.P 0],[(0,.raw (Af p0))]⟩:=by
 unfold Cf at h;refine Xy L 200 <| Xo ?_;obtain ⟨a1,h1,h⟩:=bind_some h;rcases a1 with a1 | a1
 ·dsimp only at h;refine qn L 202 [] [] [] 1 (X5 (.tup []) []) (Yl 49 a1) (Xx (Av.okE h1)) ?_;cases h;exact rfl
 ·obtain ⟨a,b⟩:=a1;dsimp only at h;refine rg L 202 [] [] [(1,(X5 (.agg (Aj a)) [(0,.raw (Af b))]))] (Xx (Av.okE h1)) ?_;refine Xo ?_;obtain ⟨a2,h2,h⟩:=bind_some h;rcases a2 with a2 | a2
  ·dsimp only at h;refine rg L 207 [] [] [(1,(X5 (.tup []) [(0,.raw (Af a2))]))] (Xx (Au.okE h2)) ?_;refine Xy L 210 <| Xr (Xn.trans (Xn.kk [2] [0,200]) (Xn.rr [(0,0),(200,100)])) ?_;refine Xq ?_;cases h;exact Zm
  ·obtain ⟨a2,rfl⟩:∃ z,z=a2:=⟨_,rfl⟩
   dsimp only at h;refine qn L 207 [] [] [] 1 (X5 (.tup []) []) (Yl 49 a2) (Xx (Au.okE h2)) ?_;cases h;exact rfl
theorem Cf.okE {K:Nat} {p0:Ab} {r:Int ⊕ (Aa×Ab)} (h:Cf K p0=some r):Yj V P 104 [.P 0] [(0,.raw (Af p0))] [0] (Cf.post p0 r) (Cf.rep p0 r) :=
 xo (fn:=Tryz.f104) (n:=9) (m:=100) fun Γ=>Cf.body h
def C6 (K:Nat) (p0:Ab):Option (Int ⊕ (Aa×Ab)):=(if (0:Int)≤(if (IntKind.i64.wrap ((p0.l.length:Int) - 1)) <(IntKind.i64.wrap (p0.i+1)) then (IntKind.i64.wrap ((p0.l.length:Int) - 1)) else (IntKind.i64.wrap (p0.i+1)))∧((if (IntKind.i64.wrap ((p0.l.length:Int) - 1)) <(IntKind.i64.wrap (p0.i+1)) then (IntKind.i64.wrap ((p0.l.length:Int) - 1)) else (IntKind.i64.wrap (p0.i+1))):Int) <(p0.l.length:Int) then (Option.bind (((Option.bind (Bx K p0) (fun a1=>(if a1.Kind=1 then (if ((p0.l.getD (Int.toNat (if (IntKind.i64.wrap ((p0.l.length:Int) - 1)) <(IntKind.i64.wrap (p0.i+1)) then (IntKind.i64.wrap ((p0.l.length:Int) - 1)) else (IntKind.i64.wrap (p0.i+1)))) Dp)).Kind=5 then some ((decide (((p0.l.getD (Int.toNat (if (IntKind.i64.wrap ((p0.l.length:Int) - 1)) <(IntKind.i64.wrap (p0.i+1)) then (IntKind.i64.wrap ((p0.l.length:Int) - 1)) else (IntKind.i64.wrap (p0.i+1)))) Dp)).Text=([61]:List UInt8)))) else some false) else some false)))):Option Bool) (fun c=>(if c=true then (Option.bind (Ay K p0) (fun a2=>match a2 with |(Sum.inl a2)=>some (Sum.inl a2) |(Sum.inr (e,d))=>(Option.bind (Cf K (⟨d.l,(IntKind.i64.wrap (d.i+1))⟩:Ab)) (fun a3=>match a3 with |(Sum.inl a3)=>some (Sum.inl a3) |(Sum.inr (a,f))=>some (Sum.inr ((⟨41,e,0,[],([(⟨a.Op,a.Name,a.Int,a.Text,a.Kids⟩:Aa)]:List Aa)⟩:Aa),f)))))) else (Option.bind (Cf K p0) (fun a4=>match a4 with |(Sum.inl a4)=>some (Sum.inl a4) |(Sum.inr (b,g))=>(Option.bind (C1 K 52 ([(⟨b.Op,b.Name,b.Int,b.Text,b.Kids⟩:Aa)]:List Aa)) (fun a5=>some (Sum.inr (a5,g))))))))) else none)
def C6.rep (p0:Ab):Int ⊕ (Aa×Ab)→Yx T
 |(Sum.inl v0)=>.pan (Yl 49 v0)
 |(Sum.inr (v0,v1))=>.ret (.agg [.I v0.Op,.str v0.Name,.I v0.Int,.str v0.Text,.ro .Ae v0.Kids])
def C6.post (p0:Ab):Int ⊕ (Aa×Ab)→List (Nat×Yd T)
 |(Sum.inl v0)=>[]
 |(Sum.inr (v0,v1))=>[(0,.raw [.ro .Ao v1.l,.I v1.i])]
theorem C6.body {Γ:Yg} {K:Nat} {p0:Ab} {r:Int ⊕ (Aa×Ab)} (h:C6 K p0=some r):Yc V P 55 100 Γ (Tryz.f108.body.getD .skip) (Yk P V Tryz.f108 (C6.rep p0 r) (C6.post p0 r)) ⟨X0 0 [.P 0],[(0,.raw (Af p0))]⟩:=by
 unfold C6 at h;refine Xy L 200 <| Xo <| Xo ?_;obtain ⟨g1,h⟩:=Xv h;refine rd L mixed 202 [] [] [] [220] 20 (Zb g1.1 g1.2) ?_;obtain ⟨o1,hp1,h⟩:=bind_some h;refine Xo (Ye (Q':=fun e S=>(e=.normal∧∃ a:Bool,S=⟨[(0,.P 0),(2,.P 21200),(36,.B a)],[(0,.raw (Af p0)),(21200,.raw [.I 0,.str [],.I 0,.str [],.N])]⟩∧a=o1)) ?_ ?_)
 ·clear h;replace h:=hp1;obtain ⟨a1,h1,h⟩:=bind_some h;rcases Xp h with ⟨c1,h⟩ |⟨c1,h⟩
  ·rcases Xp h with ⟨c2,h⟩ |⟨c2,h⟩
   ·refine X2 (rg L 223 [(4,true),(9,true)] [(1,.agg (Eg a1))] [] (Xt (Bx.ok h1) (Xt trivial (Xt (decide_eq_true c1) (Xx (decide_eq_true c2))))) ⟨rfl,rfl⟩) (Xn.trans (Xn.kk [0,2,36] [0,200]) (Xn.trans (Xn.rr [(0,0),(200,21200)]) (Xn.kp (S':=⟨[(0,.P 0),(2,.P 21200),(36,.B ((decide (((p0.l.getD (Int.toNat (if (IntKind.i64.wrap ((p0.l.length:Int) - 1)) <(IntKind.i64.wrap (p0.i+1)) then (IntKind.i64.wrap ((p0.l.length:Int) - 1)) else (IntKind.i64.wrap (p0.i+1)))) Dp)).Text=([61]:List UInt8)))))],[(0,.raw (Af p0)),(21200,.raw [.I 0,.str [],.I 0,.str [],.N])]⟩)))) ?_;cases h;exact ⟨rfl,_,rfl,rfl⟩
   refine X2 (rg L 223 [(4,true),(9,false)] [(1,.agg (Eg a1))] [] (Xt (Bx.ok h1) (Xt trivial (Xt (decide_eq_true c1) (Xx (decide_eq_false c2))))) ⟨rfl,rfl⟩) (Xn.trans (Xn.kk [0,2,36] [0,200]) (Xn.trans (Xn.rr [(0,0),(200,21200)]) (Xn.kp (S':=⟨[(0,.P 0),(2,.P 21200),(36,.B false)],[(0,.raw (Af p0)),(21200,.raw [.I 0,.str [],.I 0,.str [],.N])]⟩)))) ?_;cases h;exact ⟨rfl,_,rfl,rfl⟩
  refine X2 (rg L 223 [(4,false)] [(1,.agg (Eg a1))] [] (Xt (Bx.ok h1) (Xt trivial (Xx (decide_eq_false c1)))) ⟨rfl,rfl⟩) (Xn.trans (Xn.kk [0,2,36] [0,200]) (Xn.trans (Xn.rr [(0,0),(200,21200)]) (Xn.kp (S':=⟨[(0,.P 0),(2,.P 21200),(36,.B false)],[(0,.raw (Af p0)),(21200,.raw [.I 0,.str [],.I 0,.str [],.N])]⟩)))) ?_;cases h;exact ⟨rfl,_,rfl,rfl⟩
 ·rintro e S ⟨rfl,a,rfl,rfl⟩;rcases Xp h with ⟨c3,h⟩ |⟨c3,h⟩
  ·refine tt c3 <| Xo ?_;obtain ⟨a2,h2,h⟩:=bind_some h;rcases a2 with a2 | a2
   ·dsimp only at h;refine qn L 238 [] [] [] 1 (X5 (.tup []) []) (Yl 49 a2) (Xx (Ay.okE h2)) ?_;cases h;exact rfl
   ·obtain ⟨b,c⟩:=a2;dsimp only at h;refine rg L 238 [] [] [(1,(X5 (.cv (.str b)) [(0,.raw (Af c))]))] (Xx (Ay.okE h2)) ?_;refine Xy L 242 <| Xo ?_;obtain ⟨a3,h3,h⟩:=bind_some h;rcases a3 with a3 | a3
    ·dsimp only at h;refine qn L 251 [] [] [] 2 (X5 (.tup []) []) (Yl 49 a3) (Xx (Cf.okE h3)) ?_;cases h;exact rfl
    ·obtain ⟨d,f⟩:=a3;dsimp only at h;refine rg L 251 [] [] [(2,(X5 (.agg (Aj d)) [(0,.raw (Af f))]))] (Xx (Cf.okE h3)) ?_;refine Xr (Xn.trans (Xn.kk [2] [0,21200]) (Xn.rr [(0,0),(21200,100)])) ?_;refine Xq ?_;cases h;exact Zm
  refine fN c3 <| Xu <| Xo ?_;obtain ⟨a4,h4,h⟩:=bind_some h;rcases a4 with a4 | a4
  ·dsimp only at h;refine qn L 258 [] [] [] 1 (X5 (.tup []) []) (Yl 49 a4) (Xx (Cf.okE h4)) ?_;cases h;exact rfl
  ·obtain ⟨g,j⟩:=a4;dsimp only at h;obtain ⟨a5,h5,h⟩:=bind_some h;refine rg L 258 [] [(3,.agg (Aj a5))] [(1,(X5 (.agg (Aj g)) [(0,.raw (Af j))]))] (Xt (Cf.okE h4) (Xt (C1.ok h5) (Xx trivial))) ?_;refine Xr (Xn.trans (Xn.kk [2] [0,21200]) (Xn.rr [(0,0),(21200,100)])) ?_;refine Xq ?_;cases h;exact Zm
theorem C6.okE {K:Nat} {p0:Ab} {r:Int ⊕ (Aa×Ab)} (h:C6 K p0=some r):Yj V P 108 [.P 0] [(0,.raw (Af p0))] [0] (C6.post p0 r) (C6.rep p0 r) :=
 xo (fn:=Tryz.f108) (n:=55) (m:=100) fun Γ=>C6.body h
def F7 (K:Nat) (p0:Int) (p1:List Aa):Option (List Aa):=some p1
theorem F7.body {Γ:Yg} {K:Nat} {p0:Int} {p1:List Aa} {r:List Aa} (h:F7 K p0 p1=some r):Yc V P 8 100 Γ (Tryz.f75.body.getD .skip) (X1 P V Tryz.f75 (.agg [.I p0,.str [],.I 0,.str [],.own .Ae 0]) [(0,.lst .Ae r)]) ⟨X0 0 [.I p0,.cv (.own .Ae 0)],[(0,.lst .Ae p1)]⟩:=by
 unfold F7 at h;refine Xy L 200 <| Xy L 202 <| Xr (Xn.trans (Xn.kk [4] [0,200]) (Xn.rr [(0,0),(200,100)])) ?_;refine Xq ?_;cases h;exact X7
theorem F7.okE {K:Nat} {p0:Int} {p1:List Aa} {r:List Aa} (h:F7 K p0 p1=some r):Xz V P 75 [.I p0,.cv (.own .Ae 0)] [(0,.lst .Ae p1)] [0] (.agg [.I p0,.str [],.I 0,.str [],.own .Ae 0]) [(0,.lst .Ae r)] :=
 eo (fn:=Tryz.f75) (n:=8) (m:=100) fun Γ=>F7.body h
def Bc.rep (p0:Ab):Int ⊕ (Aa×Ab)→Yx T
 |(Sum.inl v0)=>.pan (Yl 49 v0)
 |(Sum.inr (v0,v1))=>.ret (.agg [.I v0.Op,.str v0.Name,.I v0.Int,.str v0.Text,.ro .Ae v0.Kids])
def Bc.post (p0:Ab):Int ⊕ (Aa×Ab)→List (Nat×Yd T)
 |(Sum.inl v0)=>[]
 |(Sum.inr (v0,v1))=>[(0,.raw [.ro .Ao v1.l,.I v1.i])]
def Bg.rep (p0:Ab):Int ⊕ (Aa×Ab)→Yx T
 |(Sum.inl v0)=>.pan (Yl 49 v0)
 |(Sum.inr (v0,v1))=>.ret (.agg [.I v0.Op,.str v0.Name,.I v0.Int,.str v0.Text,.ro .Ae v0.Kids])
def Bg.post (p0:Ab):Int ⊕ (Aa×Ab)→List (Nat×Yd T)
 |(Sum.inl v0)=>[]
 |(Sum.inr (v0,v1))=>[(0,.raw [.ro .Ao v1.l,.I v1.i])]
def Bl.rep (p0:Ab):Int ⊕ (Aa×Ab)→Yx T
 |(Sum.inl v0)=>.pan (Yl 49 v0)
 |(Sum.inr (v0,v1))=>.ret (.agg [.I v0.Op,.str v0.Name,.I v0.Int,.str v0.Text,.ro .Ae v0.Kids])
def Bl.post (p0:Ab):Int ⊕ (Aa×Ab)→List (Nat×Yd T)
 |(Sum.inl v0)=>[]
 |(Sum.inr (v0,v1))=>[(0,.raw [.ro .Ao v1.l,.I v1.i])]
def As.rep (p0:Ab):Int ⊕ (Aa×Ab)→Yx T
 |(Sum.inl v0)=>.pan (Yl 49 v0)
 |(Sum.inr (v0,v1))=>.ret (.agg [.I v0.Op,.str v0.Name,.I v0.Int,.str v0.Text,.ro .Ae v0.Kids])
def As.post (p0:Ab):Int ⊕ (Aa×Ab)→List (Nat×Yd T)
 |(Sum.inl v0)=>[]
 |(Sum.inr (v0,v1))=>[(0,.raw [.ro .Ao v1.l,.I v1.i])]
structure Bd where
 Bc:Ab→Option (Int ⊕ (Aa×Ab))
 Bg:Ab→Option (Int ⊕ (Aa×Ab))
 Bl:Ab→Option (Int ⊕ (Aa×Ab))
 As:Ab→Option (Int ⊕ (Aa×Ab))
structure Bd.Ok (R:Bd):Prop where
 Bc:∀ {p0:Ab} {r:Int ⊕ (Aa×Ab)},R.Bc p0=some r→Yj V P 105 [.P 0] [(0,.raw (Af p0))] [0] (Bc.post p0 r) (Bc.rep p0 r)
 Bg:∀ {p0:Ab} {r:Int ⊕ (Aa×Ab)},R.Bg p0=some r→Yj V P 107 [.P 0] [(0,.raw (Af p0))] [0] (Bg.post p0 r) (Bg.rep p0 r)
 Bl:∀ {p0:Ab} {r:Int ⊕ (Aa×Ab)},R.Bl p0=some r→Yj V P 77 [.P 0] [(0,.raw (Af p0))] [0] (Bl.post p0 r) (Bl.rep p0 r)
 As:∀ {p0:Ab} {r:Int ⊕ (Aa×Ab)},R.As p0=some r→Yj V P 50 [.P 0] [(0,.raw (Af p0))] [0] (As.post p0 r) (As.rep p0 r)
def Bc.F (K:Nat) (R:Bd) (p0:Ab):Option (Int ⊕ (Aa×Ab)):=(Option.bind (Av K p0) (fun a1=>match a1 with |(Sum.inl a1)=>some (Sum.inl a1) |(Sum.inr (c,g))=>(Option.bind (R.As g) (fun a2=>match a2 with |(Sum.inl a2)=>some (Sum.inl a2) |(Sum.inr (d,h))=>(Option.bind (F7 K 42 ([(⟨c.Op,c.Name,c.Int,c.Text,c.Kids⟩:Aa),(⟨d.Op,d.Name,d.Int,d.Text,d.Kids⟩:Aa)]:List Aa)) (fun a3=>(Option.bind (Ap K ([101,108,115,101]:List UInt8) h) (fun (i,e)=>(if i=true then (Option.bind (Ap K ([105,102]:List UInt8) e) (fun (j,f)=>(if j=true then (Option.bind (R.Bc f) (fun a6=>match a6 with |(Sum.inl a6)=>some (Sum.inl a6) |(Sum.inr (a,k))=>(if (a3.length+([(⟨a.Op,a.Name,a.Int,a.Text,a.Kids⟩:Aa)]:List Aa).length) * 72≤140737488355328 then some ((Sum.inr ((⟨42,[],0,[],(a3++([(⟨a.Op,a.Name,a.Int,a.Text,a.Kids⟩:Aa)]:List Aa))⟩:Aa),k))) else none))) else (Option.bind (R.As f) (fun a7=>match a7 with |(Sum.inl a7)=>some (Sum.inl a7) |(Sum.inr (b,l))=>(if (a3.length+([(⟨b.Op,b.Name,b.Int,b.Text,b.Kids⟩:Aa)]:List Aa).length) * 72≤140737488355328 then some ((Sum.inr ((⟨42,[],0,[],(a3++([(⟨b.Op,b.Name,b.Int,b.Text,b.Kids⟩:Aa)]:List Aa))⟩:Aa),l))) else none)))))) else some (Sum.inr ((⟨42,[],0,[],a3⟩:Aa),e)))))))))))
theorem Bc.body {Γ:Yg} {K:Nat} {R:Bd} (hR:R.Ok) {p0:Ab} {r:Int ⊕ (Aa×Ab)} (h:Bc.F K R p0=some r):Yc V P 31 100 Γ (Tryz.f105.body.getD .skip) (Yk P V Tryz.f105 (Bc.rep p0 r) (Bc.post p0 r)) ⟨X0 0 [.P 0],[(0,.raw (Af p0))]⟩:=by
 unfold Bc.F at h;refine Xy L 200 <| Xo ?_;obtain ⟨a1,h1,h⟩:=bind_some h;rcases a1 with a1 | a1
 ·dsimp only at h;refine qn L 100202 [] [] [] 1 (X5 (.tup []) []) (Yl 49 a1) (Xx (Av.okE h1)) ?_;cases h;exact rfl
 ·obtain ⟨e,f⟩:=a1;dsimp only at h;obtain ⟨a2,h2,h⟩:=bind_some h;rcases a2 with a2 | a2
  ·dsimp only at h;refine qn L 100202 [] [] [(1,(X5 (.agg (Aj e)) [(0,.raw (Af f))]))] 3 (X5 (.tup []) []) (Yl 49 a2) (Zb (Av.okE h1) (hR.As h2)) ?_;cases h;exact rfl
  ·obtain ⟨j,k⟩:=a2;dsimp only at h;obtain ⟨a3,h3,h⟩:=bind_some h;refine rg L 100202 [] [] [(1,(X5 (.agg (Aj e)) [(0,.raw (Af f))])),(3,(X5 (.agg (Aj j)) [(0,.raw (Af k))])),(5,(ef [0] [0] (.agg [.I 42,.str [],.I 0,.str [],.own .Ae 0]) [(0,.lst .Ae a3)] [(0,100206)]))] (Xt (Av.okE h1) (Xt (hR.As h2) (Xx (F7.okE h3)))) ?_;refine Xo <| Xo ?_;obtain ⟨⟨d,l⟩,h4,h⟩:=bind_some h;dsimp only at h;refine rg L 211 [] [] [(1,(X5 (.B d) [(0,.raw (Af l))]))] (Xx (Ap.okE h4)) ?_;rcases Xp h with ⟨c1,h⟩ |⟨c1,h⟩
   ·refine ff (b:=(!d)) (congrArg Bool.not (c1)) ?_;refine Xu <| Xo <| Xo ?_;obtain ⟨⟨m,n⟩,h5,h⟩:=bind_some h;dsimp only at h;refine rg L 218 [] [] [(1,(X5 (.B m) [(0,.raw (Af n))]))] (Xx (Ap.okE h5)) ?_;rcases Xp h with ⟨c2,h⟩ |⟨c2,h⟩
    ·refine tt c2 ?_;obtain ⟨a6,h6,h⟩:=bind_some h;rcases a6 with a6 | a6
     ·dsimp only at h;refine qP L mixed 221 [] [] [] [0,2] 3 (X5 (.tup []) []) (Yl 49 a6) (Zb (hR.Bc h6) (hR.Bc h6)) ?_;cases h;exact rfl
     ·obtain ⟨a,g⟩:=a6;dsimp only at h;obtain ⟨g1,h⟩:=Xv h;refine hB L mixed 221 [] [] [(3,(X5 (.agg (Aj a)) [(0,.raw (Af g))]))] [0,2] 3 (Xt (hR.Bc h6) (Xt g1 (Xt trivial (Xt (hR.Bc h6) (Xt g1 (Xt trivial (Xt g1 (Xx trivial)))))))) (S':=⟨[(2,.P 200),(3,.P 100208)],[(0,.raw (Af g)),(200,.raw [.I 0,.str [],.I 0,.str [],.N]),(100206,.lst .Ae (a3++([(⟨a.Op,a.Name,a.Int,a.Text,a.Kids⟩:Aa)]:List Aa))),(100208,.raw [.I 42,.str [],.I 0,.str [],.own .Ae 100206])]⟩) ?_;refine Xy L 239 <| Xr (Xn.trans (Xn.kk [2] [0,200,100206]) (Xn.trans (Xn.fz 100206) (Xn.rr [(0,0),(200,100)]))) ?_;refine Xq ?_;cases h;exact Zm
    refine fN c2 ?_;obtain ⟨a7,h7,h⟩:=bind_some h;rcases a7 with a7 | a7
    ·dsimp only at h;refine qP L mixed 230 [] [] [] [0,2] 3 (X5 (.tup []) []) (Yl 49 a7) (Zb (hR.As h7) (hR.As h7)) ?_;cases h;exact rfl
    ·obtain ⟨c,i⟩:=a7;dsimp only at h;obtain ⟨g2,h⟩:=Xv h;refine hB L mixed 230 [] [] [(3,(X5 (.agg (Aj c)) [(0,.raw (Af i))]))] [0,2] 3 (Xt (hR.As h7) (Xt g2 (Xt trivial (Xt (hR.As h7) (Xt g2 (Xt trivial (Xt g2 (Xx trivial)))))))) (S':=⟨[(2,.P 200),(3,.P 100208)],[(0,.raw (Af i)),(200,.raw [.I 0,.str [],.I 0,.str [],.N]),(100206,.lst .Ae (a3++([(⟨c.Op,c.Name,c.Int,c.Text,c.Kids⟩:Aa)]:List Aa))),(100208,.raw [.I 42,.str [],.I 0,.str [],.own .Ae 100206])]⟩) ?_;refine Xy L 239 <| Xr (Xn.trans (Xn.kk [2] [0,200,100206]) (Xn.trans (Xn.fz 100206) (Xn.rr [(0,0),(200,100)]))) ?_;refine Xq ?_;cases h;exact Zm
   refine tt (b:=(!d)) (congrArg Bool.not (eq_false_of_ne_true c1)) ?_;refine Xy L 215 <| Xr (Xn.trans (Xn.kk [2] [0,200,100206]) (Xn.trans (Xn.fz 100206) (Xn.rr [(0,0),(200,100)]))) ?_;refine Xq ?_;cases h;exact Zm
def Bg.l9 (K:Nat) (R:Bd):Nat→(List Ar)→Int→(List Aa)→Option (X3 (Int ⊕ (Aa×Ab)) ((List Ar)×Int×(List Aa)))
 | 0,_,_,_=>none
 | k+1,a,b,e=>(Option.bind (Ea K (⟨a,b⟩:Ab) ([99,97,115,101]:List UInt8)) (fun a2=>(if a2=true then (if (e.length:Int)=16 then (Option.bind (Bp K (⟨a,b⟩:Ab)) (fun a3=>some (X3.done (Sum.inl a3)))) else (obind (((if (0:Int)≤(if (IntKind.i64.wrap ((a.length:Int) - 1)) <(IntKind.i64.wrap ((IntKind.i64.wrap (b+1))+1)) then (IntKind.i64.wrap ((a.length:Int) - 1)) else (IntKind.i64.wrap ((IntKind.i64.wrap (b+1))+1)))∧((if (IntKind.i64.wrap ((a.length:Int) - 1)) <(IntKind.i64.wrap ((IntKind.i64.wrap (b+1))+1)) then (IntKind.i64.wrap ((a.length:Int) - 1)) else (IntKind.i64.wrap ((IntKind.i64.wrap (b+1))+1))):Int) <(a.length:Int) then (Option.bind (((Option.bind (Bx K (⟨a,(IntKind.i64.wrap (b+1))⟩:Ab)) (fun a4=>(if a4.Kind=1 then (if ((a.getD (Int.toNat (if (IntKind.i64.wrap ((a.length:Int) - 1)) <(IntKind.i64.wrap ((IntKind.i64.wrap (b+1))+1)) then (IntKind.i64.wrap ((a.length:Int) - 1)) else (IntKind.i64.wrap ((IntKind.i64.wrap (b+1))+1)))) Dp)).Kind=5 then some ((decide (((a.getD (Int.toNat (if (IntKind.i64.wrap ((a.length:Int) - 1)) <(IntKind.i64.wrap ((IntKind.i64.wrap (b+1))+1)) then (IntKind.i64.wrap ((a.length:Int) - 1)) else (IntKind.i64.wrap ((IntKind.i64.wrap (b+1))+1)))) Dp)).Text=([61]:List UInt8)))) else some false) else some false)))):Option Bool) (fun j=>(if j=true then (Option.bind (Ay K (⟨a,(IntKind.i64.wrap (b+1))⟩:Ab)) (fun a5=>match a5 with |(Sum.inl a5)=>some (X3.done (Sum.inl a5)) |(Sum.inr (o,m))=>some (X3.go (m.l,(IntKind.i64.wrap (m.i+1)),o)))) else some (X3.go (a,(IntKind.i64.wrap (b+1)),[]))))) else none)):Option (X3 (Int ⊕ (Aa×Ab)) ((List Ar)×Int×(List UInt8)))) X3.done (fun (g,h,f)=>(Option.bind (Av K (⟨g,h⟩:Ab)) (fun a6=>match a6 with |(Sum.inl a6)=>some (X3.done (Sum.inl a6)) |(Sum.inr (c,p))=>(Option.bind (R.As p) (fun a7=>match a7 with |(Sum.inl a7)=>some (X3.done (Sum.inl a7)) |(Sum.inr (d,n))=>(if (e.length+([(⟨50,f,0,[],([(⟨c.Op,c.Name,c.Int,c.Text,c.Kids⟩:Aa),(⟨d.Op,d.Name,d.Int,d.Text,d.Kids⟩:Aa)]:List Aa)⟩:Aa)]:List Aa).length) * 72≤140737488355328 then Bg.l9 K R k n.l n.i (e++([(⟨50,f,0,[],([(⟨c.Op,c.Name,c.Int,c.Text,c.Kids⟩:Aa),(⟨d.Op,d.Name,d.Int,d.Text,d.Kids⟩:Aa)]:List Aa)⟩:Aa)]:List Aa)) else none)))))))) else some (X3.go (a,b,e)))))
def Bg.F (K:Nat) (R:Bd) (p0:Ab):Option (Int ⊕ (Aa×Ab)):=(Option.bind (Au K ([123]:List UInt8) p0) (fun a1=>match a1 with |(Sum.inl a1)=>(obind (Bg.l9 K R K a1.l a1.i ([]:List Aa):Option (X3 (Int ⊕ (Aa×Ab)) ((List Ar)×Int×(List Aa)))) (fun r=>r) (fun (f,g,c)=>(obind (((Option.bind (Ap K ([101,108,115,101]:List UInt8) (⟨f,g⟩:Ab)) (fun (k,h)=>(if k=true then (Option.bind (R.As h) (fun a9=>match a9 with |(Sum.inl a9)=>some (X3.done (Sum.inl a9)) |(Sum.inr (d,j))=>(Option.bind (C1 K 51 ([(⟨d.Op,d.Name,d.Int,d.Text,d.Kids⟩:Aa)]:List Aa)) (fun a10=>(if (c.length+([(⟨a10.Op,a10.Name,a10.Int,a10.Text,a10.Kids⟩:Aa)]:List Aa).length) * 72≤140737488355328 then some (X3.go (j.l,j.i,(c++([(⟨a10.Op,a10.Name,a10.Int,a10.Text,a10.Kids⟩:Aa)]:List Aa)))) else none))))) else some (X3.go (h.l,h.i,c)))))):Option (X3 (Int ⊕ (Aa×Ab)) ((List Ar)×Int×(List Aa)))) (fun r=>r) (fun (a,b,e)=>(if (e.length:Int)=0 then (Option.bind (Bp K (⟨a,b⟩:Ab)) (fun a11=>some (Sum.inl a11))) else (Option.bind (Au K ([125]:List UInt8) (⟨a,b⟩:Ab)) (fun a12=>match a12 with |(Sum.inl a12)=>some (Sum.inr ((⟨49,[],0,[],e⟩:Aa),a12)) |(Sum.inr a12)=>some (Sum.inl a12)))))))) |(Sum.inr a1)=>some (Sum.inl a1)))
theorem Bg.body {Γ:Yg} {K:Nat} {R:Bd} (hR:R.Ok) {p0:Ab} {r:Int ⊕ (Aa×Ab)} (h:Bg.F K R p0=some r):Yc V P 99 100 Γ (Tryz.f107.body.getD .skip) (Yk P V Tryz.f107 (Bg.rep p0 r) (Bg.post p0 r)) ⟨X0 0 [.P 0],[(0,.raw (Af p0))]⟩:=by
 unfold Bg.F at h;refine Xy L 200 <| Xy L 202 <| Xo ?_;obtain ⟨a1,h1,h⟩:=bind_some h;rcases a1 with a1 | a1
 ·dsimp only at h;refine rg L 206 [] [] [(1,(X5 (.tup []) [(0,.raw (Af a1))]))] (Xx (Au.okE h1)) ?_;refine Xo <| Xw <| Xr (Xn.trans (Xn.kk [0,2,3] [0,200,203]) (Xn.trans (Xn.nc 203 4 9500 Tag.Ae) (Xn.trans (Xn.kk [0,2,3] [0,200,203,9500]) (Xn.rr [(0,0),(200,21900),(203,21901),(9500,21902)])))) ?_;refine kp (S':=⟨[(0,.P 0),(2,.P 21900),(3,.P 21901)],[(0,.raw (Af a1)),(21900,.raw [.I 0,.str [],.I 0,.str [],.N]),(21901,.raw [.I 49,.str [],.I 0,.str [],.own .Ae 21902]),(21902,.lst .Ae ([]:List Aa))]⟩) ?_;obtain ⟨o3,hp3,h⟩:=X9 h;refine X4 (Q':=fun e S=>(e=.exit 0∧∃ p:List Ar,∃ q:Int,∃ f:List Aa,S=⟨[(0,.P 0),(2,.P 21800),(3,.P 21801)],[(0,.raw [.ro .Ao p,.I q]),(21800,.raw [.I 0,.str [],.I 0,.str [],.N]),(21801,.raw [.I 49,.str [],.I 0,.str [],.own .Ae 21802]),(21802,.lst .Ae f)]⟩∧X3.go (p,q,f)=o3)∨((e=.ret∨∃ ch,e=.panic ch)∧∃ a,X3.done a=o3∧Yk P V Tryz.f107 (Bg.rep p0 a) (Bg.post p0 a) e S)) (Yb (fun k S=>∃ b:List Ar,∃ c:Int,∃ d:List Aa,S=⟨[(0,.P 0),(2,.P 21900),(3,.P 21901)],[(0,.raw [.ro .Ao b,.I c]),(21900,.raw [.I 0,.str [],.I 0,.str [],.N]),(21901,.raw [.I 49,.str [],.I 0,.str [],.own .Ae 21902]),(21902,.lst .Ae d)]⟩∧Bg.l9 K R k b c d=some o3) ?_ ⟨_,_,_,rfl,hp3⟩) ?_
  ·clear h hp3;intro k S hS;obtain ⟨b,c,d,rfl,h⟩:=hS;cases k with
   | zero=>cases h
   | succ k =>
   unfold Bg.l9 at h;refine Xo <| Xo ?_;obtain ⟨a2,h2,h⟩:=bind_some h;refine rg L 209 [] [(1,.B a2)] [] (Yw (Ea.ok h2)) ?_;rcases Xp h with ⟨c1,h⟩ |⟨c1,h⟩
   ·refine tt c1 <| Xu <| Xw <| Xo <| Xy L 212 ?_;rcases Xp h with ⟨c2,h⟩ |⟨c2,h⟩
    ·refine tT c2 ?_;obtain ⟨a3,h3,h⟩:=bind_some h;refine qn L 217 [] [] [] 1 (X5 (.tup []) []) (Yl 49 a3) (Xx (Bp.okE h3)) ?_;cases h;exact .inr ⟨.inr ⟨_,rfl⟩,_,rfl,rfl⟩
    refine fF c2 <| Xu <| Xy L 220 <| Xy L 229 ?_;obtain ⟨o2,hp2,h⟩:=X9 h;refine Xo (Ye (Q':=fun e S=>(e=.normal∧∃ j:List Ar,∃ m:Int,∃ g:List UInt8,S=⟨[(0,.P 0),(2,.P 25400),(3,.P 25401),(4,.P 25402)],[(0,.raw [.ro .Ao j,.I m]),(25400,.raw [.I 0,.str [],.I 0,.str [],.N]),(25401,.raw [.I 49,.str [],.I 0,.str [],.own .Ae 25403]),(25402,.raw [.I 50,.str g,.I 0,.str [],.N]),(25403,.lst .Ae d)]⟩∧X3.go (j,m,g)=o2)∨((e=.ret∨∃ ch,e=.panic ch)∧∃ a,X3.done a=o2∧Yk P V Tryz.f107 (Bg.rep p0 a) (Bg.post p0 a) e S)) ?_ ?_)
    ·clear h;replace h:=hp2;refine Xo ?_;obtain ⟨g1,h⟩:=Xv h;refine rd L mixed 233 [] [] [] [251] 20 (Zb g1.1 g1.2) ?_;obtain ⟨o1,hp1,h⟩:=bind_some h;refine Xo (Ye (Q':=fun e S=>(e=.normal∧∃ s:Bool,S=⟨[(0,.P 0),(2,.P 26000),(3,.P 26001),(4,.P 26002),(56,.B s)],[(0,.raw [.ro .Ao b,.I (IntKind.i64.wrap (c+1))]),(26000,.raw [.I 0,.str [],.I 0,.str [],.N]),(26001,.raw [.I 49,.str [],.I 0,.str [],.own .Ae 26003]),(26002,.raw [.I 50,.str [],.I 0,.str [],.N]),(26003,.lst .Ae d)]⟩∧s=o1)) ?_ ?_)
     ·clear h;replace h:=hp1;obtain ⟨a4,h4,h⟩:=bind_some h;rcases Xp h with ⟨c3,h⟩ |⟨c3,h⟩
      ·rcases Xp h with ⟨c4,h⟩ |⟨c4,h⟩
       ·refine X2 (rg L 254 [(4,true),(9,true)] [(1,.agg (Eg a4))] [] (Xt (Bx.ok h4) (Xt trivial (Xt (decide_eq_true c3) (Xx (decide_eq_true c4))))) ⟨rfl,rfl⟩) (Xn.trans (Xn.kk [0,2,3,4,56] [0,230,21900,21901,21902]) (Xn.trans (Xn.rr [(0,0),(230,26002),(21900,26000),(21901,26001),(21902,26003)]) (Xn.kp (S':=⟨[(0,.P 0),(2,.P 26000),(3,.P 26001),(4,.P 26002),(56,.B ((decide (((b.getD (Int.toNat (if (IntKind.i64.wrap ((b.length:Int) - 1)) <(IntKind.i64.wrap ((IntKind.i64.wrap (c+1))+1)) then (IntKind.i64.wrap ((b.length:Int) - 1)) else (IntKind.i64.wrap ((IntKind.i64.wrap (c+1))+1)))) Dp)).Text=([61]:List UInt8)))))],[(0,.raw [.ro .Ao b,.I (IntKind.i64.wrap (c+1))]),(26000,.raw [.I 0,.str [],.I 0,.str [],.N]),(26001,.raw [.I 49,.str [],.I 0,.str [],.own .Ae 26003]),(26002,.raw [.I 50,.str [],.I 0,.str [],.N]),(26003,.lst .Ae d)]⟩)))) ?_;cases h;exact ⟨rfl,_,rfl,rfl⟩
       refine X2 (rg L 254 [(4,true),(9,false)] [(1,.agg (Eg a4))] [] (Xt (Bx.ok h4) (Xt trivial (Xt (decide_eq_true c3) (Xx (decide_eq_false c4))))) ⟨rfl,rfl⟩) (Xn.trans (Xn.kk [0,2,3,4,56] [0,230,21900,21901,21902]) (Xn.trans (Xn.rr [(0,0),(230,26002),(21900,26000),(21901,26001),(21902,26003)]) (Xn.kp (S':=⟨[(0,.P 0),(2,.P 26000),(3,.P 26001),(4,.P 26002),(56,.B false)],[(0,.raw [.ro .Ao b,.I (IntKind.i64.wrap (c+1))]),(26000,.raw [.I 0,.str [],.I 0,.str [],.N]),(26001,.raw [.I 49,.str [],.I 0,.str [],.own .Ae 26003]),(26002,.raw [.I 50,.str [],.I 0,.str [],.N]),(26003,.lst .Ae d)]⟩)))) ?_;cases h;exact ⟨rfl,_,rfl,rfl⟩
      refine X2 (rg L 254 [(4,false)] [(1,.agg (Eg a4))] [] (Xt (Bx.ok h4) (Xt trivial (Xx (decide_eq_false c3)))) ⟨rfl,rfl⟩) (Xn.trans (Xn.kk [0,2,3,4,56] [0,230,21900,21901,21902]) (Xn.trans (Xn.rr [(0,0),(230,26002),(21900,26000),(21901,26001),(21902,26003)]) (Xn.kp (S':=⟨[(0,.P 0),(2,.P 26000),(3,.P 26001),(4,.P 26002),(56,.B false)],[(0,.raw [.ro .Ao b,.I (IntKind.i64.wrap (c+1))]),(26000,.raw [.I 0,.str [],.I 0,.str [],.N]),(26001,.raw [.I 49,.str [],.I 0,.str [],.own .Ae 26003]),(26002,.raw [.I 50,.str [],.I 0,.str [],.N]),(26003,.lst .Ae d)]⟩)))) ?_;cases h;exact ⟨rfl,_,rfl,rfl⟩
     ·rintro e S ⟨rfl,s,rfl,rfl⟩;rcases Xp h with ⟨c5,h⟩ |⟨c5,h⟩
      ·refine tt c5 <| Xo ?_;obtain ⟨a5,h5,h⟩:=bind_some h;rcases a5 with a5 | a5
       ·dsimp only at h;refine qn L 269 [] [] [] 1 (X5 (.tup []) []) (Yl 49 a5) (Xx (Ay.okE h5)) ?_;cases h;exact .inr ⟨.inr ⟨_,rfl⟩,_,rfl,rfl⟩
       ·obtain ⟨y,w⟩:=a5;dsimp only at h;refine rg L 269 [] [] [(1,(X5 (.cv (.str y)) [(0,.raw (Af w))]))] (Xx (Ay.okE h5)) ?_;refine X2 (rg0 L 274 ⟨rfl,rfl⟩) (Xn.trans (Xn.kk [0,2,3,4] [0,26000,26001,26002,26003]) (Xn.trans (Xn.rr [(0,0),(26000,25400),(26001,25401),(26002,25402),(26003,25403)]) (Xn.kp (S':=⟨[(0,.P 0),(2,.P 25400),(3,.P 25401),(4,.P 25402)],[(0,.raw [.ro .Ao w.l,.I (IntKind.i64.wrap (w.i+1))]),(25400,.raw [.I 0,.str [],.I 0,.str [],.N]),(25401,.raw [.I 49,.str [],.I 0,.str [],.own .Ae 25403]),(25402,.raw [.I 50,.str y,.I 0,.str [],.N]),(25403,.lst .Ae d)]⟩)))) ?_;cases h;exact .inl ⟨rfl,_,_,_,rfl,rfl⟩
      refine fN c5 <| Xr (Xn.trans (Xn.kk [0,2,3,4] [0,26000,26001,26002,26003]) (Xn.rr [(0,0),(26000,25400),(26001,25401),(26002,25402),(26003,25403)])) ?_;refine sk (S':=⟨[(0,.P 0),(2,.P 25400),(3,.P 25401),(4,.P 25402)],[(0,.raw [.ro .Ao b,.I (IntKind.i64.wrap (c+1))]),(25400,.raw [.I 0,.str [],.I 0,.str [],.N]),(25401,.raw [.I 49,.str [],.I 0,.str [],.own .Ae 25403]),(25402,.raw [.I 50,.str [],.I 0,.str [],.N]),(25403,.lst .Ae d)]⟩) ?_;cases h;exact .inl ⟨rfl,_,_,_,rfl,rfl⟩
    ·rintro e S (⟨rfl,j,m,g,rfl,rfl⟩ |⟨he,a,rfl,hr⟩)
     ·rcases h with ⟨_,e1,h⟩ |⟨_,e1,h⟩
      ·cases e1
      ·have e2:=X3.go.inj e1;subst e2;dsimp only at h;refine Xo ?_;obtain ⟨a6,h6,h⟩:=bind_some h;rcases a6 with a6 | a6
       ·dsimp only at h;refine qn L 283 [] [] [] 1 (X5 (.tup []) []) (Yl 49 a6) (Xx (Av.okE h6)) ?_;cases h;exact .inr ⟨.inr ⟨_,rfl⟩,_,rfl,rfl⟩
       ·obtain ⟨t,aa⟩:=a6;dsimp only at h;obtain ⟨a7,h7,h⟩:=bind_some h;rcases a7 with a7 | a7
        ·dsimp only at h;refine qn L 283 [] [] [(1,(X5 (.agg (Aj t)) [(0,.raw (Af aa))]))] 3 (X5 (.tup []) []) (Yl 49 a7) (Zb (Av.okE h6) (hR.As h7)) ?_;cases h;exact .inr ⟨.inr ⟨_,rfl⟩,_,rfl,rfl⟩
        ·obtain ⟨u,ab⟩:=a7;dsimp only at h;refine rg L 283 [] [] [(1,(X5 (.agg (Aj t)) [(0,.raw (Af aa))])),(3,(X5 (.agg (Aj u)) [(0,.raw (Af ab))]))] (Zb (Av.okE h6) (hR.As h7)) ?_;obtain ⟨g2,h⟩:=Xv h;refine X2 (rg L 291 [] [] [] (Yw g2) ⟨rfl,rfl⟩) (Xn.trans (Xn.kk [0,2,3] [0,25400,25401,25403]) (Xn.trans (Xn.rr [(0,0),(25400,21900),(25401,21901),(25403,21902)]) (Xn.kp (S':=⟨[(0,.P 0),(2,.P 21900),(3,.P 21901)],[(0,.raw (Af ab)),(21900,.raw [.I 0,.str [],.I 0,.str [],.N]),(21901,.raw [.I 49,.str [],.I 0,.str [],.own .Ae 21902]),(21902,.lst .Ae (d++([(⟨50,g,0,[],([(⟨t.Op,t.Name,t.Int,t.Text,t.Kids⟩:Aa),(⟨u.Op,u.Name,u.Int,u.Text,u.Kids⟩:Aa)]:List Aa)⟩:Aa)]:List Aa)))]⟩)))) ?_;exact ⟨k,Nat.lt_succ_self k,_,_,_,rfl,h⟩
     ·rcases h with ⟨_,e1,h⟩ |⟨_,e1,h⟩
      ·have e2:=X3.done.inj e1;subst e2;subst h;rcases he with rfl |⟨ch,rfl⟩
       ·exact .inr ⟨.inl rfl,_,rfl,hr⟩
       ·exact .inr ⟨.inr ⟨_,rfl⟩,_,rfl,hr⟩
      ·cases e1
   refine fN c1 <| Xr (Xn.trans (Xn.kk [0,2,3] [0,21900,21901,21902]) (Xn.rr [(0,0),(21900,21800),(21901,21801),(21902,21802)])) ?_;refine ex (S':=⟨[(0,.P 0),(2,.P 21800),(3,.P 21801)],[(0,.raw [.ro .Ao b,.I c]),(21800,.raw [.I 0,.str [],.I 0,.str [],.N]),(21801,.raw [.I 49,.str [],.I 0,.str [],.own .Ae 21802]),(21802,.lst .Ae d)]⟩) ?_;cases h;exact .inl ⟨rfl,_,_,_,rfl,rfl⟩
  ·rintro e S (⟨rfl,p,q,f,rfl,rfl⟩ |⟨he,a,rfl,hr⟩)
   ·rcases h with ⟨_,e1,h⟩ |⟨_,e1,h⟩
    ·cases e1
    ·have e2:=X3.go.inj e1;subst e2;dsimp only at h;refine ⟨_,Xn.refl,?_⟩;obtain ⟨o4,hp4,h⟩:=X9 h;refine Xo (Ye (Q':=fun e S=>(e=.normal∧∃ n:List Ar,∃ o:Int,∃ v:List Aa,S=⟨[(0,.P 0),(2,.P 28000),(3,.P 28001)],[(0,.raw [.ro .Ao n,.I o]),(28000,.raw [.I 0,.str [],.I 0,.str [],.N]),(28001,.raw [.I 49,.str [],.I 0,.str [],.own .Ae 28002]),(28002,.lst .Ae v)]⟩∧X3.go (n,o,v)=o4)∨((e=.ret∨∃ ch,e=.panic ch)∧∃ a,X3.done a=o4∧Yk P V Tryz.f107 (Bg.rep p0 a) (Bg.post p0 a) e S)) ?_ ?_)
     ·clear h;replace h:=hp4;refine Xo ?_;obtain ⟨⟨ae,ad⟩,h8,h⟩:=bind_some h;dsimp only at h;refine rg L 299 [] [] [(1,(X5 (.B ae) [(0,.raw (Af ad))]))] (Xx (Ap.okE h8)) ?_;rcases Xp h with ⟨c6,h⟩ |⟨c6,h⟩
      ·refine tt c6 ?_;obtain ⟨a9,h9,h⟩:=bind_some h;rcases a9 with a9 | a9
       ·dsimp only at h;refine qP L mixed 302 [] [] [] [0,2] 3 (X5 (.tup []) []) (Yl 49 a9) (Zb (hR.As h9) (hR.As h9)) ?_;cases h;exact .inr ⟨.inr ⟨_,rfl⟩,_,rfl,rfl⟩
       ·obtain ⟨af,x⟩:=a9;dsimp only at h;obtain ⟨a10,h10,h⟩:=bind_some h;obtain ⟨g3,h⟩:=Xv h;refine X2 (hB L mixed 302 [] [(5,.agg (Aj a10))] [(3,(X5 (.agg (Aj af)) [(0,.raw (Af x))]))] [0,2] 5 (Xt (hR.As h9) (Xt (C1.ok h10) (Xt trivial (Xt g3 (Xt trivial (Xt (hR.As h9) (Xt (C1.ok h10) (Xt trivial (Xt g3 (Xt trivial (Xt (C1.ok h10) (Xt trivial (Xt g3 (Xt trivial (Xt (C1.ok h10) (Xt trivial (Xt g3 (Xt trivial (Xt g3 (Xx trivial)))))))))))))))))))) (S':=⟨[(0,.P 0),(2,.P 21800),(3,.P 21801)],[(0,.raw (Af x)),(21800,.raw [.I 0,.str [],.I 0,.str [],.N]),(21801,.raw [.I 49,.str [],.I 0,.str [],.own .Ae 21802]),(21802,.lst .Ae (f++([(⟨a10.Op,a10.Name,a10.Int,a10.Text,a10.Kids⟩:Aa)]:List Aa)))]⟩) ⟨rfl,rfl⟩) (Xn.trans (Xn.kk [0,2,3] [0,21800,21801,21802]) (Xn.trans (Xn.rr [(0,0),(21800,28000),(21801,28001),(21802,28002)]) (Xn.kp (S':=⟨[(0,.P 0),(2,.P 28000),(3,.P 28001)],[(0,.raw (Af x)),(28000,.raw [.I 0,.str [],.I 0,.str [],.N]),(28001,.raw [.I 49,.str [],.I 0,.str [],.own .Ae 28002]),(28002,.lst .Ae (f++([(⟨a10.Op,a10.Name,a10.Int,a10.Text,a10.Kids⟩:Aa)]:List Aa)))]⟩)))) ?_;cases h;exact .inl ⟨rfl,_,_,_,rfl,rfl⟩
      refine fN c6 <| Xr (Xn.trans (Xn.kk [0,2,3] [0,21800,21801,21802]) (Xn.rr [(0,0),(21800,28000),(21801,28001),(21802,28002)])) ?_;refine sk (S':=⟨[(0,.P 0),(2,.P 28000),(3,.P 28001)],[(0,.raw (Af ad)),(28000,.raw [.I 0,.str [],.I 0,.str [],.N]),(28001,.raw [.I 49,.str [],.I 0,.str [],.own .Ae 28002]),(28002,.lst .Ae f)]⟩) ?_;cases h;exact .inl ⟨rfl,_,_,_,rfl,rfl⟩
     ·rintro e S (⟨rfl,n,o,v,rfl,rfl⟩ |⟨he,a,rfl,hr⟩)
      ·rcases h with ⟨_,e1,h⟩ |⟨_,e1,h⟩
       ·cases e1
       ·have e2:=X3.go.inj e1;subst e2;dsimp only at h;refine Xo <| Xy L 313 ?_;rcases Xp h with ⟨c7,h⟩ |⟨c7,h⟩
        ·refine tT c7 ?_;obtain ⟨a11,h11,h⟩:=bind_some h;refine qn L 318 [] [] [] 1 (X5 (.tup []) []) (Yl 49 a11) (Xx (Bp.okE h11)) ?_;cases h;exact rfl
        refine fF c7 <| Xu <| Xo ?_;obtain ⟨a12,h12,h⟩:=bind_some h;rcases a12 with a12 | a12
        ·dsimp only at h;refine rg L 321 [] [] [(1,(X5 (.tup []) [(0,.raw (Af a12))]))] (Xx (Au.okE h12)) ?_;refine Xy L 324 <| Xr (Xn.trans (Xn.kk [2] [0,28000,28002]) (Xn.trans (Xn.fz 28002) (Xn.rr [(0,0),(28000,100)]))) ?_;refine Xq ?_;cases h;exact Zm
        ·obtain ⟨a12,rfl⟩:∃ z,z=a12:=⟨_,rfl⟩
         dsimp only at h;refine qn L 321 [] [] [] 1 (X5 (.tup []) []) (Yl 49 a12) (Xx (Au.okE h12)) ?_;cases h;exact rfl
      ·rcases h with ⟨_,e1,h⟩ |⟨_,e1,h⟩
       ·have e2:=X3.done.inj e1;subst e2;subst h;rcases he with rfl |⟨ch,rfl⟩
        ·exact hr
        ·exact hr
       ·cases e1
   ·rcases h with ⟨_,e1,h⟩ |⟨_,e1,h⟩
    ·have e2:=X3.done.inj e1;subst e2;subst h;rcases he with rfl |⟨ch,rfl⟩
     ·exact ⟨_,Xn.refl,hr⟩
     ·exact ⟨_,Xn.refl,hr⟩
    ·cases e1
 ·obtain ⟨a1,rfl⟩:∃ z,z=a1:=⟨_,rfl⟩
  dsimp only at h;refine qn L 206 [] [] [] 1 (X5 (.tup []) []) (Yl 49 a1) (Xx (Au.okE h1)) ?_;cases h;exact rfl
def Bl.F (K:Nat) (R:Bd) (p0:Ab):Option (Int ⊕ (Aa×Ab)):=(Option.bind (Ap K ([108,101,116]:List UInt8) p0) (fun (ap,p)=>(if ap=true then (Option.bind (Ay K p) (fun a2=>match a2 with |(Sum.inl a2)=>some (Sum.inl a2) |(Sum.inr (aq,ar))=>(Option.bind (Au K ([61]:List UInt8) ar) (fun a3=>match a3 with |(Sum.inl a3)=>(Option.bind (Cf K a3) (fun a4=>match a4 with |(Sum.inl a4)=>some (Sum.inl a4) |(Sum.inr (f,au))=>some (Sum.inr ((⟨40,aq,0,[],([(⟨f.Op,f.Name,f.Int,f.Text,f.Kids⟩:Aa)]:List Aa)⟩:Aa),au)))) |(Sum.inr a3)=>some (Sum.inl a3))))) else (Option.bind (Ap K ([105,102]:List UInt8) p) (fun (av,q)=>(if av=true then (Option.bind (R.Bc q) (fun a6=>match a6 with |(Sum.inl a6)=>some (Sum.inl a6) |(Sum.inr (aw,ax))=>some (Sum.inr (aw,ax)))) else (Option.bind (Ap K ([119,104,105,108,101]:List UInt8) q) (fun (ay,r)=>(if ay=true then (Option.bind (Av K r) (fun a8=>match a8 with |(Sum.inl a8)=>some (Sum.inl a8) |(Sum.inr (g,az))=>(Option.bind (R.As az) (fun a9=>match a9 with |(Sum.inl a9)=>some (Sum.inl a9) |(Sum.inr (h,a0))=>(Option.bind (C1 K 43 ([(⟨g.Op,g.Name,g.Int,g.Text,g.Kids⟩:Aa),(⟨h.Op,h.Name,h.Int,h.Text,h.Kids⟩:Aa)]:List Aa)) (fun a10=>some (Sum.inr (a10,a0)))))))) else (Option.bind (Ap K ([114,101,116,117,114,110]:List UInt8) r) (fun (s,i)=>(if s=true then (Option.bind (Ap K ([59]:List UInt8) i) (fun (t,j)=>(if t=true then some (Sum.inr ((⟨44,[],0,[],([]:List Aa)⟩:Aa),j)) else (Option.bind (Cf K j) (fun a13=>match a13 with |(Sum.inl a13)=>some (Sum.inl a13) |(Sum.inr (a,u))=>(Option.bind (C1 K 44 ([(⟨a.Op,a.Name,a.Int,a.Text,a.Kids⟩:Aa)]:List Aa)) (fun a14=>some (Sum.inr (a14,u))))))))) else (Option.bind (Ap K ([116,104,114,111,119]:List UInt8) i) (fun (v,k)=>(if v=true then (Option.bind (Cf K k) (fun a16=>match a16 with |(Sum.inl a16)=>some (Sum.inl a16) |(Sum.inr (b,w))=>(Option.bind (C1 K 45 ([(⟨b.Op,b.Name,b.Int,b.Text,b.Kids⟩:Aa)]:List Aa)) (fun a17=>some (Sum.inr (a17,w)))))) else (Option.bind (Ap K ([116,114,121]:List UInt8) k) (fun (x,l)=>(if x=true then (Option.bind (R.As l) (fun a19=>match a19 with |(Sum.inl a19)=>some (Sum.inl a19) |(Sum.inr (c,y))=>(Option.bind (Au K ([99,97,116,99,104]:List UInt8) y) (fun a20=>match a20 with |(Sum.inl a20)=>(Option.bind (Ay K a20) (fun a21=>match a21 with |(Sum.inl a21)=>some (Sum.inl a21) |(Sum.inr (z,aa))=>(Option.bind (R.As aa) (fun a22=>match a22 with |(Sum.inl a22)=>some (Sum.inl a22) |(Sum.inr (d,ab))=>some (Sum.inr ((⟨46,z,0,[],([(⟨c.Op,c.Name,c.Int,c.Text,c.Kids⟩:Aa),(⟨d.Op,d.Name,d.Int,d.Text,d.Kids⟩:Aa)]:List Aa)⟩:Aa),ab)))))) |(Sum.inr a20)=>some (Sum.inl a20))))) else (Option.bind (Ap K ([115,97,103,97]:List UInt8) l) (fun (ad,m)=>(if ad=true then (Option.bind (R.As m) (fun a24=>match a24 with |(Sum.inl a24)=>some (Sum.inl a24) |(Sum.inr (e,ae))=>(Option.bind (C1 K 47 ([(⟨e.Op,e.Name,e.Int,e.Text,e.Kids⟩:Aa)]:List Aa)) (fun a25=>some (Sum.inr (a25,ae)))))) else (Option.bind (Ap K ([117,110,100,111]:List UInt8) m) (fun (af,n)=>(if af=true then (Option.bind (Ay K n) (fun a27=>match a27 with |(Sum.inl a27)=>some (Sum.inl a27) |(Sum.inr (ag,ah))=>(Option.bind (Bv K 48 ag ah) (fun a28=>match a28 with |(Sum.inl (ai,aj))=>(Option.bind (Au K ([59]:List UInt8) aj) (fun a29=>match a29 with |(Sum.inl a29)=>some (Sum.inr (ai,a29)) |(Sum.inr a29)=>some (Sum.inl a29))) |(Sum.inr a28)=>some (Sum.inl a28))))) else (Option.bind (Ap K ([115,101,108,101,99,116]:List UInt8) n) (fun (ak,o)=>(if ak=true then (Option.bind (R.Bg o) (fun a31=>match a31 with |(Sum.inl a31)=>some (Sum.inl a31) |(Sum.inr (al,am))=>some (Sum.inr (al,am)))) else (Option.bind (C6 K o) (fun a32=>match a32 with |(Sum.inl a32)=>some (Sum.inl a32) |(Sum.inr (an,ao))=>some (Sum.inr (an,ao)))))))))))))))))))))))))))))))
theorem Bl.body {Γ:Yg} {K:Nat} {R:Bd} (hR:R.Ok) {p0:Ab} {r:Int ⊕ (Aa×Ab)} (h:Bl.F K R p0=some r):Yc V P 87 100 Γ (Tryz.f77.body.getD .skip) (Yk P V Tryz.f77 (Bl.rep p0 r) (Bl.post p0 r)) ⟨X0 0 [.P 0],[(0,.raw (Af p0))]⟩:=by
 unfold Bl.F at h;refine Xy L 200 <| Xo <| Xw <| Xo ?_;obtain ⟨⟨ao,ap⟩,h1,h⟩:=bind_some h;dsimp only at h;refine rg L 202 [] [] [(1,(X5 (.B ao) [(0,.raw (Af ap))]))] (Xx (Ap.okE h1)) ?_;rcases Xp h with ⟨c1,h⟩ |⟨c1,h⟩
 ·refine tt c1 <| Xo ?_;obtain ⟨a2,h2,h⟩:=bind_some h;rcases a2 with a2 | a2
  ·dsimp only at h;refine qn L 206 [] [] [] 1 (X5 (.tup []) []) (Yl 49 a2) (Xx (Ay.okE h2)) ?_;cases h;exact rfl
  ·obtain ⟨aq,ar⟩:=a2;dsimp only at h;refine rg L 206 [] [] [(1,(X5 (.cv (.str aq)) [(0,.raw (Af ar))]))] (Xx (Ay.okE h2)) ?_;refine Xo ?_;obtain ⟨a3,h3,h⟩:=bind_some h;rcases a3 with a3 | a3
   ·dsimp only at h;refine rg L 210 [] [] [(1,(X5 (.tup []) [(0,.raw (Af a3))]))] (Xx (Au.okE h3)) ?_;refine Xo ?_;obtain ⟨a4,h4,h⟩:=bind_some h;rcases a4 with a4 | a4
    ·dsimp only at h;refine qn L 213 [] [] [] 2 (X5 (.tup []) []) (Yl 49 a4) (Xx (Cf.okE h4)) ?_;cases h;exact rfl
    ·obtain ⟨au,av⟩:=a4;dsimp only at h;refine rg L 213 [] [] [(2,(X5 (.agg (Aj au)) [(0,.raw (Af av))]))] (Xx (Cf.okE h4)) ?_;refine Xr (Xn.trans (Xn.kk [2] [0,200]) (Xn.rr [(0,0),(200,100)])) ?_;refine Xq ?_;cases h;exact Zm
   ·obtain ⟨a3,rfl⟩:∃ z,z=a3:=⟨_,rfl⟩
    dsimp only at h;refine qn L 210 [] [] [] 1 (X5 (.tup []) []) (Yl 49 a3) (Xx (Au.okE h3)) ?_;cases h;exact rfl
 refine fN c1 <| Xo ?_;obtain ⟨⟨aw,ax⟩,h5,h⟩:=bind_some h;dsimp only at h;refine rg L 220 [] [] [(1,(X5 (.B aw) [(0,.raw (Af ax))]))] (Xx (Ap.okE h5)) ?_;rcases Xp h with ⟨c2,h⟩ |⟨c2,h⟩
 ·refine tt c2 <| Xo ?_;obtain ⟨a6,h6,h⟩:=bind_some h;rcases a6 with a6 | a6
  ·dsimp only at h;refine qn L 224 [] [] [] 1 (X5 (.tup []) []) (Yl 49 a6) (Xx (hR.Bc h6)) ?_;cases h;exact rfl
  ·obtain ⟨ay,az⟩:=a6;dsimp only at h;refine rg L 224 [] [] [(1,(X5 (.agg (Aj ay)) [(0,.raw (Af az))]))] (Xx (hR.Bc h6)) ?_;refine Xr (Xn.trans (Xn.kk [2] [0,200]) (Xn.rr [(0,0),(200,100)])) ?_;refine Xq ?_;cases h;exact Zm
 refine fN c2 <| Xo ?_;obtain ⟨⟨a0,a1⟩,h7,h⟩:=bind_some h;dsimp only at h;refine rg L 228 [] [] [(1,(X5 (.B a0) [(0,.raw (Af a1))]))] (Xx (Ap.okE h7)) ?_;rcases Xp h with ⟨c3,h⟩ |⟨c3,h⟩
 ·refine tt c3 <| Xo ?_;obtain ⟨a8,h8,h⟩:=bind_some h;rcases a8 with a8 | a8
  ·dsimp only at h;refine qn L 232 [] [] [] 1 (X5 (.tup []) []) (Yl 49 a8) (Xx (Av.okE h8)) ?_;cases h;exact rfl
  ·obtain ⟨i,j⟩:=a8;dsimp only at h;obtain ⟨a9,h9,h⟩:=bind_some h;rcases a9 with a9 | a9
   ·dsimp only at h;refine qn L 232 [] [] [(1,(X5 (.agg (Aj i)) [(0,.raw (Af j))]))] 3 (X5 (.tup []) []) (Yl 49 a9) (Zb (Av.okE h8) (hR.As h9)) ?_;cases h;exact rfl
   ·obtain ⟨a5,a7⟩:=a9;dsimp only at h;obtain ⟨a10,h10,h⟩:=bind_some h;refine rg L 232 [] [(5,.agg (Aj a10))] [(1,(X5 (.agg (Aj i)) [(0,.raw (Af j))])),(3,(X5 (.agg (Aj a5)) [(0,.raw (Af a7))]))] (Xt (Av.okE h8) (Xt (hR.As h9) (Xt (C1.ok h10) (Xx trivial)))) ?_;refine Xr (Xn.trans (Xn.kk [2] [0,200]) (Xn.rr [(0,0),(200,100)])) ?_;refine Xq ?_;cases h;exact Zm
 refine fN c3 <| Xo ?_;obtain ⟨⟨k,l⟩,h11,h⟩:=bind_some h;dsimp only at h;refine rg L 240 [] [] [(1,(X5 (.B k) [(0,.raw (Af l))]))] (Xx (Ap.okE h11)) ?_;rcases Xp h with ⟨c4,h⟩ |⟨c4,h⟩
 ·refine tt c4 <| Xo <| Xo ?_;obtain ⟨⟨m,n⟩,h12,h⟩:=bind_some h;dsimp only at h;refine rg L 244 [] [] [(1,(X5 (.B m) [(0,.raw (Af n))]))] (Xx (Ap.okE h12)) ?_;rcases Xp h with ⟨c5,h⟩ |⟨c5,h⟩
  ·refine tt c5 <| Xy L 247 <| Xr (Xn.trans (Xn.kk [2] [0,200]) (Xn.rr [(0,0),(200,100)])) ?_;refine Xq ?_;cases h;exact Zm
  refine fN c5 <| Xu <| Xo ?_;obtain ⟨a13,h13,h⟩:=bind_some h;rcases a13 with a13 | a13
  ·dsimp only at h;refine qn L 250 [] [] [] 1 (X5 (.tup []) []) (Yl 49 a13) (Xx (Cf.okE h13)) ?_;cases h;exact rfl
  ·obtain ⟨o,p⟩:=a13;dsimp only at h;obtain ⟨a14,h14,h⟩:=bind_some h;refine rg L 250 [] [(3,.agg (Aj a14))] [(1,(X5 (.agg (Aj o)) [(0,.raw (Af p))]))] (Xt (Cf.okE h13) (Xt (C1.ok h14) (Xx trivial))) ?_;refine Xr (Xn.trans (Xn.kk [2] [0,200]) (Xn.rr [(0,0),(200,100)])) ?_;refine Xq ?_;cases h;exact Zm
 refine fN c4 <| Xo ?_;obtain ⟨⟨q,s⟩,h15,h⟩:=bind_some h;dsimp only at h;refine rg L 256 [] [] [(1,(X5 (.B q) [(0,.raw (Af s))]))] (Xx (Ap.okE h15)) ?_;rcases Xp h with ⟨c6,h⟩ |⟨c6,h⟩
 ·refine tt c6 <| Xo ?_;obtain ⟨a16,h16,h⟩:=bind_some h;rcases a16 with a16 | a16
  ·dsimp only at h;refine qn L 260 [] [] [] 1 (X5 (.tup []) []) (Yl 49 a16) (Xx (Cf.okE h16)) ?_;cases h;exact rfl
  ·obtain ⟨t,u⟩:=a16;dsimp only at h;obtain ⟨a17,h17,h⟩:=bind_some h;refine rg L 260 [] [(3,.agg (Aj a17))] [(1,(X5 (.agg (Aj t)) [(0,.raw (Af u))]))] (Xt (Cf.okE h16) (Xt (C1.ok h17) (Xx trivial))) ?_;refine Xr (Xn.trans (Xn.kk [2] [0,200]) (Xn.rr [(0,0),(200,100)])) ?_;refine Xq ?_;cases h;exact Zm
 refine fN c6 <| Xo ?_;obtain ⟨⟨v,w⟩,h18,h⟩:=bind_some h;dsimp only at h;refine rg L 266 [] [] [(1,(X5 (.B v) [(0,.raw (Af w))]))] (Xx (Ap.okE h18)) ?_;rcases Xp h with ⟨c7,h⟩ |⟨c7,h⟩
 ·refine tt c7 <| Xo ?_;obtain ⟨a19,h19,h⟩:=bind_some h;rcases a19 with a19 | a19
  ·dsimp only at h;refine qn L 270 [] [] [] 1 (X5 (.tup []) []) (Yl 49 a19) (Xx (hR.As h19)) ?_;cases h;exact rfl
  ·obtain ⟨a,x⟩:=a19;dsimp only at h;refine rg L 270 [] [] [(1,(X5 (.agg (Aj a)) [(0,.raw (Af x))]))] (Xx (hR.As h19)) ?_;refine Xo ?_;obtain ⟨a20,h20,h⟩:=bind_some h;rcases a20 with a20 | a20
   ·dsimp only at h;refine rg L 275 [] [] [(1,(X5 (.tup []) [(0,.raw (Af a20))]))] (Xx (Au.okE h20)) ?_;refine Xo ?_;obtain ⟨a21,h21,h⟩:=bind_some h;rcases a21 with a21 | a21
    ·dsimp only at h;refine qP L mixed 278 [] [] [] [0,3] 1 (X5 (.tup []) []) (Yl 49 a21) (Zb (Ay.okE h21) (Ay.okE h21)) ?_;cases h;exact rfl
    ·obtain ⟨c,d⟩:=a21;dsimp only at h;obtain ⟨a22,h22,h⟩:=bind_some h;rcases a22 with a22 | a22
     ·dsimp only at h;refine qP L mixed 278 [] [] [(1,(X5 (.cv (.str c)) [(0,.raw (Af d))]))] [0,3] 4 (X5 (.tup []) []) (Yl 49 a22) (Xt (Ay.okE h21) (Xt (hR.As h22) (Xt (hR.As h22) (Xt (Ay.okE h21) (Xx (hR.As h22)))))) ?_;cases h;exact rfl
     ·obtain ⟨b,e⟩:=a22;dsimp only at h;refine hB L mixed 278 [] [] [(1,(X5 (.cv (.str c)) [(0,.raw (Af d))])),(4,(X5 (.agg (Aj b)) [(0,.raw (Af e))]))] [0,3] 3 (Xt (Ay.okE h21) (Xt (hR.As h22) (Xt (hR.As h22) (Xt (Ay.okE h21) (Xx (hR.As h22)))))) (S':=⟨[(2,.P 200)],[(0,.raw (Af e)),(200,.raw [.I 46,.str c,.I 0,.str [],.ro .Ae ([(⟨a.Op,a.Name,a.Int,a.Text,a.Kids⟩:Aa),(⟨b.Op,b.Name,b.Int,b.Text,b.Kids⟩:Aa)]:List Aa)])]⟩) ?_;refine Xr (Xn.trans (Xn.kk [2] [0,200]) (Xn.rr [(0,0),(200,100)])) ?_;refine Xq ?_;cases h;exact Zm
   ·obtain ⟨a20,rfl⟩:∃ z,z=a20:=⟨_,rfl⟩
    dsimp only at h;refine qn L 275 [] [] [] 1 (X5 (.tup []) []) (Yl 49 a20) (Xx (Au.okE h20)) ?_;cases h;exact rfl
 refine fN c7 <| Xo ?_;obtain ⟨⟨y,aa⟩,h23,h⟩:=bind_some h;dsimp only at h;refine rg L 287 [] [] [(1,(X5 (.B y) [(0,.raw (Af aa))]))] (Xx (Ap.okE h23)) ?_;rcases Xp h with ⟨c8,h⟩ |⟨c8,h⟩
 ·refine tt c8 <| Xo ?_;obtain ⟨a24,h24,h⟩:=bind_some h;rcases a24 with a24 | a24
  ·dsimp only at h;refine qn L 291 [] [] [] 1 (X5 (.tup []) []) (Yl 49 a24) (Xx (hR.As h24)) ?_;cases h;exact rfl
  ·obtain ⟨ab,ad⟩:=a24;dsimp only at h;obtain ⟨a25,h25,h⟩:=bind_some h;refine rg L 291 [] [(3,.agg (Aj a25))] [(1,(X5 (.agg (Aj ab)) [(0,.raw (Af ad))]))] (Xt (hR.As h24) (Xt (C1.ok h25) (Xx trivial))) ?_;refine Xr (Xn.trans (Xn.kk [2] [0,200]) (Xn.rr [(0,0),(200,100)])) ?_;refine Xq ?_;cases h;exact Zm
 refine fN c8 <| Xo ?_;obtain ⟨⟨ae,af⟩,h26,h⟩:=bind_some h;dsimp only at h;refine rg L 297 [] [] [(1,(X5 (.B ae) [(0,.raw (Af af))]))] (Xx (Ap.okE h26)) ?_;rcases Xp h with ⟨c9,h⟩ |⟨c9,h⟩
 ·refine tt c9 <| Xo ?_;obtain ⟨a27,h27,h⟩:=bind_some h;rcases a27 with a27 | a27
  ·dsimp only at h;refine qn L 301 [] [] [] 2 (X5 (.tup []) []) (Yl 49 a27) (Xx (Ay.okE h27)) ?_;cases h;exact rfl
  ·obtain ⟨f,g⟩:=a27;dsimp only at h;obtain ⟨a28,h28,h⟩:=bind_some h;rcases a28 with ⟨ag,ah⟩ | a28
   ·dsimp only at h;refine rg L 301 [] [] [(2,(X5 (.cv (.str f)) [(0,.raw (Af g))])),(3,(X5 (.agg (Aj ag)) [(0,.raw (Af ah))]))] (Zb (Ay.okE h27) (Bv.okE h28)) ?_;refine Xo ?_;obtain ⟨a29,h29,h⟩:=bind_some h;rcases a29 with a29 | a29
    ·dsimp only at h;refine rg L 308 [] [] [(1,(X5 (.tup []) [(0,.raw (Af a29))]))] (Xx (Au.okE h29)) ?_;refine Xy L 311 <| Xr (Xn.trans (Xn.kk [2] [0,200]) (Xn.rr [(0,0),(200,100)])) ?_;refine Xq ?_;cases h;exact Zm
    ·obtain ⟨a29,rfl⟩:∃ z,z=a29:=⟨_,rfl⟩
     dsimp only at h;refine qn L 308 [] [] [] 1 (X5 (.tup []) []) (Yl 49 a29) (Xx (Au.okE h29)) ?_;cases h;exact rfl
   ·obtain ⟨a28,rfl⟩:∃ z,z=a28:=⟨_,rfl⟩
    dsimp only at h;refine qn L 301 [] [] [(2,(X5 (.cv (.str f)) [(0,.raw (Af g))]))] 3 (X5 (.tup []) []) (Yl 49 a28) (Zb (Ay.okE h27) (Bv.okE h28)) ?_;cases h;exact rfl
 refine fN c9 <| Xo ?_;obtain ⟨⟨ai,aj⟩,h30,h⟩:=bind_some h;dsimp only at h;refine rg L 314 [] [] [(1,(X5 (.B ai) [(0,.raw (Af aj))]))] (Xx (Ap.okE h30)) ?_;rcases Xp h with ⟨c10,h⟩ |⟨c10,h⟩
 ·refine tt c10 <| Xo ?_;obtain ⟨a31,h31,h⟩:=bind_some h;rcases a31 with a31 | a31
  ·dsimp only at h;refine qn L 318 [] [] [] 1 (X5 (.tup []) []) (Yl 49 a31) (Xx (hR.Bg h31)) ?_;cases h;exact rfl
  ·obtain ⟨ak,al⟩:=a31;dsimp only at h;refine rg L 318 [] [] [(1,(X5 (.agg (Aj ak)) [(0,.raw (Af al))]))] (Xx (hR.Bg h31)) ?_;refine Xr (Xn.trans (Xn.kk [2] [0,200]) (Xn.rr [(0,0),(200,100)])) ?_;refine Xq ?_;cases h;exact Zm
 refine fN c10 <| Xu <| Xo ?_;obtain ⟨a32,h32,h⟩:=bind_some h;rcases a32 with a32 | a32
 ·dsimp only at h;refine qn L 322 [] [] [] 1 (X5 (.tup []) []) (Yl 49 a32) (Xx (C6.okE h32)) ?_;cases h;exact rfl
 ·obtain ⟨am,an⟩:=a32;dsimp only at h;refine rg L 322 [] [] [(1,(X5 (.agg (Aj am)) [(0,.raw (Af an))]))] (Xx (C6.okE h32)) ?_;refine Xr (Xn.trans (Xn.kk [2] [0,200]) (Xn.rr [(0,0),(200,100)])) ?_;refine Xq ?_;cases h;exact Zm
def As.l9 (K:Nat) (R:Bd):Nat→(List Ar)→Int→(List Aa)→Option (X3 (Int ⊕ (Aa×Ab)) ((List Ar)×Int×(List Aa)))
 | 0,_,_,_=>none
 | k+1,c,d,b=>(Option.bind (Ap K ([125]:List UInt8) (⟨c,d⟩:Ab)) (fun (g,e)=>(if g=true then some (X3.go (e.l,e.i,b)) else (Option.bind (R.Bl e) (fun a3=>match a3 with |(Sum.inl a3)=>some (X3.done (Sum.inl a3)) |(Sum.inr (a,f))=>(if (b.length+([(⟨a.Op,a.Name,a.Int,a.Text,a.Kids⟩:Aa)]:List Aa).length) * 72≤140737488355328 then As.l9 K R k f.l f.i (b++([(⟨a.Op,a.Name,a.Int,a.Text,a.Kids⟩:Aa)]:List Aa)) else none))))))
def As.F (K:Nat) (R:Bd) (p0:Ab):Option (Int ⊕ (Aa×Ab)):=(Option.bind (Au K ([123]:List UInt8) p0) (fun a1=>match a1 with |(Sum.inl a1)=>(obind (As.l9 K R K a1.l a1.i ([]:List Aa):Option (X3 (Int ⊕ (Aa×Ab)) ((List Ar)×Int×(List Aa)))) (fun r=>r) (fun (a,b,c)=>some (Sum.inr ((⟨53,[],0,[],c⟩:Aa),(⟨a,b⟩:Ab))))) |(Sum.inr a1)=>some (Sum.inl a1)))
theorem As.body {Γ:Yg} {K:Nat} {R:Bd} (hR:R.Ok) {p0:Ab} {r:Int ⊕ (Aa×Ab)} (h:As.F K R p0=some r):Yc V P 18 100 Γ (Tryz.f50.body.getD .skip) (Yk P V Tryz.f50 (As.rep p0 r) (As.post p0 r)) ⟨X0 0 [.P 0],[(0,.raw (Af p0))]⟩:=by
 unfold As.F at h;refine Xy L 200 <| Xy L 202 <| Xo ?_;obtain ⟨a1,h1,h⟩:=bind_some h;rcases a1 with a1 | a1
 ·dsimp only at h;refine rg L 206 [] [] [(1,(X5 (.tup []) [(0,.raw (Af a1))]))] (Xx (Au.okE h1)) ?_;refine Xo <| Xw <| Xr (Xn.trans (Xn.kk [0,2,3] [0,200,203]) (Xn.trans (Xn.nc 203 4 9500 Tag.Ae) (Xn.trans (Xn.kk [0,2,3] [0,200,203,9500]) (Xn.rr [(0,0),(200,21900),(203,21901),(9500,21902)])))) ?_;refine kp (S':=⟨[(0,.P 0),(2,.P 21900),(3,.P 21901)],[(0,.raw (Af a1)),(21900,.raw [.I 0,.str [],.I 0,.str [],.N]),(21901,.raw [.I 53,.str [],.I 0,.str [],.own .Ae 21902]),(21902,.lst .Ae ([]:List Aa))]⟩) ?_;obtain ⟨o1,hp1,h⟩:=X9 h;refine X4 (Q':=fun e S=>(e=.exit 0∧∃ g:List Ar,∃ i:Int,∃ l:List Aa,S=⟨[(2,.P 21800),(3,.P 21801)],[(0,.raw [.ro .Ao g,.I i]),(21800,.raw [.I 0,.str [],.I 0,.str [],.N]),(21801,.raw [.I 53,.str [],.I 0,.str [],.own .Ae 21802]),(21802,.lst .Ae l)]⟩∧X3.go (g,i,l)=o1)∨((e=.ret∨∃ ch,e=.panic ch)∧∃ a,X3.done a=o1∧Yk P V Tryz.f50 (As.rep p0 a) (As.post p0 a) e S)) (Yb (fun k S=>∃ d:List Ar,∃ f:Int,∃ c:List Aa,S=⟨[(0,.P 0),(2,.P 21900),(3,.P 21901)],[(0,.raw [.ro .Ao d,.I f]),(21900,.raw [.I 0,.str [],.I 0,.str [],.N]),(21901,.raw [.I 53,.str [],.I 0,.str [],.own .Ae 21902]),(21902,.lst .Ae c)]⟩∧As.l9 K R k d f c=some o1) ?_ ⟨_,_,_,rfl,hp1⟩) ?_
  ·clear h hp1;intro k S hS;obtain ⟨d,f,c,rfl,h⟩:=hS;cases k with
   | zero=>cases h
   | succ k =>
   unfold As.l9 at h;refine Xo <| Xo ?_;obtain ⟨⟨m,n⟩,h2,h⟩:=bind_some h;dsimp only at h;refine rg L 209 [] [] [(1,(X5 (.B m) [(0,.raw (Af n))]))] (Xx (Ap.okE h2)) ?_;rcases Xp h with ⟨c1,h⟩ |⟨c1,h⟩
   ·refine ff (b:=(!m)) (congrArg Bool.not (c1)) ?_;refine Xr (Xn.trans (Xn.kk [2,3] [0,21900,21901,21902]) (Xn.rr [(0,0),(21900,21800),(21901,21801),(21902,21802)])) ?_;refine ex (S':=⟨[(2,.P 21800),(3,.P 21801)],[(0,.raw (Af n)),(21800,.raw [.I 0,.str [],.I 0,.str [],.N]),(21801,.raw [.I 53,.str [],.I 0,.str [],.own .Ae 21802]),(21802,.lst .Ae c)]⟩) ?_;cases h;exact .inl ⟨rfl,_,_,_,rfl,rfl⟩
   refine tt (b:=(!m)) (congrArg Bool.not (eq_false_of_ne_true c1)) ?_;refine Xu <| Xw ?_;obtain ⟨a3,h3,h⟩:=bind_some h;rcases a3 with a3 | a3
   ·dsimp only at h;refine qP L mixed 213 [] [] [] [0,2] 3 (X5 (.tup []) []) (Yl 49 a3) (Zb (hR.Bl h3) (hR.Bl h3)) ?_;cases h;exact .inr ⟨.inr ⟨_,rfl⟩,_,rfl,rfl⟩
   ·obtain ⟨j,o⟩:=a3;dsimp only at h;obtain ⟨g1,h⟩:=Xv h;refine hB L mixed 213 [] [] [(3,(X5 (.agg (Aj j)) [(0,.raw (Af o))]))] [0,2] 3 (Xt (hR.Bl h3) (Xt g1 (Xt trivial (Xt (hR.Bl h3) (Xt g1 (Xt trivial (Xt g1 (Xx trivial)))))))) (S':=⟨[(0,.P 0),(2,.P 21900),(3,.P 21901)],[(0,.raw (Af o)),(21900,.raw [.I 0,.str [],.I 0,.str [],.N]),(21901,.raw [.I 53,.str [],.I 0,.str [],.own .Ae 21902]),(21902,.lst .Ae (c++([(⟨j.Op,j.Name,j.Int,j.Text,j.Kids⟩:Aa)]:List Aa)))]⟩) ?_;exact ⟨k,Nat.lt_succ_self k,_,_,_,rfl,h⟩
  ·rintro e S (⟨rfl,g,i,l,rfl,rfl⟩ |⟨he,a,rfl,hr⟩)
   ·rcases h with ⟨_,e1,h⟩ |⟨_,e1,h⟩
    ·cases e1
    ·have e2:=X3.go.inj e1;subst e2;dsimp only at h;refine ⟨_,Xn.refl,?_⟩;refine Xy L 222 <| Xr (Xn.trans (Xn.kk [2] [0,21800,21802]) (Xn.trans (Xn.fz 21802) (Xn.rr [(0,0),(21800,100)]))) ?_;refine Xq ?_;cases h;exact Zm
   ·rcases h with ⟨_,e1,h⟩ |⟨_,e1,h⟩
    ·have e2:=X3.done.inj e1;subst e2;subst h;rcases he with rfl |⟨ch,rfl⟩
     ·exact ⟨_,Xn.refl,hr⟩
     ·exact ⟨_,Xn.refl,hr⟩
    ·cases e1
 ·obtain ⟨a1,rfl⟩:∃ z,z=a1:=⟨_,rfl⟩
  dsimp only at h;refine qn L 206 [] [] [] 1 (X5 (.tup []) []) (Yl 49 a1) (Xx (Au.okE h1)) ?_;cases h;exact rfl
def Bd.upto (K:Nat):Nat→Bd
 | 0=>⟨fun _=>none,fun _=>none,fun _=>none,fun _=>none⟩
 | k+1=>⟨Bc.F K (Bd.upto K k),Bg.F K (Bd.upto K k),Bl.F K (Bd.upto K k),As.F K (Bd.upto K k)⟩
theorem Bd.upto_ok (K:Nat):∀ k,(Bd.upto K k).Ok
 | 0=>⟨fun h=>(by cases h),fun h=>(by cases h),fun h=>(by cases h),fun h=>(by cases h)⟩
 | k+1=>⟨fun {p0 r} h=>xo (fn:=Tryz.f105) (n:=31) (m:=100) fun Γ=>Bc.body (K:=K) (Bd.upto_ok K k) h,fun {p0 r} h=>xo (fn:=Tryz.f107) (n:=99) (m:=100) fun Γ=>Bg.body (K:=K) (Bd.upto_ok K k) h,fun {p0 r} h=>xo (fn:=Tryz.f77) (n:=87) (m:=100) fun Γ=>Bl.body (K:=K) (Bd.upto_ok K k) h,fun {p0 r} h=>xo (fn:=Tryz.f50) (n:=18) (m:=100) fun Γ=>As.body (K:=K) (Bd.upto_ok K k) h⟩
def Bc (K:Nat) (p0:Ab):Option (Int ⊕ (Aa×Ab)):=(Bd.upto K K).Bc p0
theorem Bc.okE {K:Nat} {p0:Ab} {r:Int ⊕ (Aa×Ab)} (h:Bc K p0=some r):Yj V P 105 [.P 0] [(0,.raw (Af p0))] [0] (Bc.post p0 r) (Bc.rep p0 r):=(Bd.upto_ok K K).Bc h
def Bg (K:Nat) (p0:Ab):Option (Int ⊕ (Aa×Ab)):=(Bd.upto K K).Bg p0
theorem Bg.okE {K:Nat} {p0:Ab} {r:Int ⊕ (Aa×Ab)} (h:Bg K p0=some r):Yj V P 107 [.P 0] [(0,.raw (Af p0))] [0] (Bg.post p0 r) (Bg.rep p0 r):=(Bd.upto_ok K K).Bg h
def Bl (K:Nat) (p0:Ab):Option (Int ⊕ (Aa×Ab)):=(Bd.upto K K).Bl p0
theorem Bl.okE {K:Nat} {p0:Ab} {r:Int ⊕ (Aa×Ab)} (h:Bl K p0=some r):Yj V P 77 [.P 0] [(0,.raw (Af p0))] [0] (Bl.post p0 r) (Bl.rep p0 r):=(Bd.upto_ok K K).Bl h
def As (K:Nat) (p0:Ab):Option (Int ⊕ (Aa×Ab)):=(Bd.upto K K).As p0
theorem As.okE {K:Nat} {p0:Ab} {r:Int ⊕ (Aa×Ab)} (h:As K p0=some r):Yj V P 50 [.P 0] [(0,.raw (Af p0))] [0] (As.post p0 r) (As.rep p0 r):=(Bd.upto_ok K K).As h
def Cv.l15 (K:Nat):Nat→(List Ar)→Int→(List Aa)→Option (X3 ((Ab×(List Aa)) ⊕ Int) ((List Ar)×Int×(List Aa)))
 | 0,_,_,_=>none
 | k+1,c,d,b=>(Option.bind (Ap K ([44]:List UInt8) (⟨c,d⟩:Ab)) (fun (g,e)=>(if g=true then (Option.bind (Bz K e) (fun a4=>match a4 with |(Sum.inl a4)=>some (X3.done (Sum.inr a4)) |(Sum.inr (a,f))=>(if (b.length+([(⟨a.Op,a.Name,a.Int,a.Text,a.Kids⟩:Aa)]:List Aa).length) * 72≤140737488355328 then Cv.l15 K k f.l f.i (b++([(⟨a.Op,a.Name,a.Int,a.Text,a.Kids⟩:Aa)]:List Aa)) else none))) else some (X3.go (e.l,e.i,b)))))
def Cv (K:Nat) (p0:List UInt8) (p1:Ab):Option ((Ab×(List Aa)) ⊕ Int):=(Option.bind (Ap K p0 p1) (fun (g,e)=>(if g=true then some (Sum.inl (e,([]:List Aa))) else (Option.bind (Bz K e) (fun a2=>match a2 with |(Sum.inl a2)=>some (Sum.inr a2) |(Sum.inr (a,f))=>(obind (Cv.l15 K K f.l f.i ([(⟨a.Op,a.Name,a.Int,a.Text,a.Kids⟩:Aa)]:List Aa):Option (X3 ((Ab×(List Aa)) ⊕ Int) ((List Ar)×Int×(List Aa)))) (fun r=>r) (fun (b,c,d)=>(Option.bind (Au K p0 (⟨b,c⟩:Ab)) (fun a5=>match a5 with |(Sum.inl a5)=>some (Sum.inl (a5,d)) |(Sum.inr a5)=>some (Sum.inr a5))))))))))
def Cv.rep (p0:List UInt8) (p1:Ab):(Ab×(List Aa)) ⊕ Int→Yx T
 |(Sum.inl (v0,v1))=>.ret (.cv (.own .Ae 100))
 |(Sum.inr v0)=>.pan (Yl 49 v0)
def Cv.post (p0:List UInt8) (p1:Ab):(Ab×(List Aa)) ⊕ Int→List (Nat×Yd T)
 |(Sum.inl (v0,v1))=>[(0,.raw [.ro .Ao v0.l,.I v0.i]),(100,.lst .Ae v1)]
 |(Sum.inr v0)=>[]
theorem Cv.body {Γ:Yg} {K:Nat} {p0:List UInt8} {p1:Ab} {r:(Ab×(List Aa)) ⊕ Int} (h:Cv K p0 p1=some r):Yc V P 25 100 Γ (Tryz.f48.body.getD .skip) (Yk P V Tryz.f48 (Cv.rep p0 p1 r) (Cv.post p0 p1 r)) ⟨X0 0 [.P 0,.cv (.str p0),.cv (.fn (.func 49) [.P 0] [])],[(0,.raw (Af p1))]⟩:=by
 unfold Cv at h;refine Xy L 200 <| Xo <| Xo ?_;obtain ⟨⟨p,q⟩,h1,h⟩:=bind_some h;dsimp only at h;refine rg L 202 [] [] [(2,(X5 (.B p) [(0,.raw (Af q))]))] (Xx (Ap.okE h1)) ?_;rcases Xp h with ⟨c1,h⟩ |⟨c1,h⟩
 ·refine tt c1 <| Xy L 206 <| Xr (Xn.trans (Xn.kk [6] [0]) (Xn.trans (Xn.no 6 9000 Tag.Ae) (Xn.trans (Xn.kk [6] [0,9000]) (Xn.rr [(0,0),(9000,100)])))) ?_;refine Xq ?_;cases h;exact Zm
 refine fN c1 <| Xu <| Xo ?_;obtain ⟨a2,h2,h⟩:=bind_some h;rcases a2 with a2 | a2
 ·dsimp only at h;refine qn L 100208 [] [] [] 1 (X5 (.tup []) []) (Yl 49 a2) (Xx (Bz.okE h2)) ?_;cases h;exact rfl
 ·obtain ⟨j,o⟩:=a2;dsimp only at h;refine rg L 100208 [] [] [(1,(X5 (.agg (Aj j)) [(0,.raw (Af o))]))] (Xx (Bz.okE h2)) ?_;refine Xo <| Xw <| Xr (Xn.trans (Xn.kk [0,1,2,7] [0,100210]) (Xn.rr [(0,0),(100210,23100)])) ?_;refine kp (S':=⟨[(0,.P 0),(1,.cv (.str p0)),(2,.cv (.fn (.func 49) [.P 0] [])),(7,.cv (.own .Ae 23100))],[(0,.raw (Af o)),(23100,.lst .Ae ([(⟨j.Op,j.Name,j.Int,j.Text,j.Kids⟩:Aa)]:List Aa))]⟩) ?_;obtain ⟨o1,hp1,h⟩:=X9 h;refine X4 (Q':=fun e S=>(e=.exit 0∧∃ g:List Ar,∃ i:Int,∃ l:List Aa,S=⟨[(0,.P 0),(1,.cv (.str p0)),(7,.cv (.own .Ae 23000))],[(0,.raw [.ro .Ao g,.I i]),(23000,.lst .Ae l)]⟩∧X3.go (g,i,l)=o1)∨((e=.ret∨∃ ch,e=.panic ch)∧∃ a,X3.done a=o1∧Yk P V Tryz.f48 (Cv.rep p0 p1 a) (Cv.post p0 p1 a) e S)) (Yb (fun k S=>∃ d:List Ar,∃ f:Int,∃ c:List Aa,S=⟨[(0,.P 0),(1,.cv (.str p0)),(2,.cv (.fn (.func 49) [.P 0] [])),(7,.cv (.own .Ae 23100))],[(0,.raw [.ro .Ao d,.I f]),(23100,.lst .Ae c)]⟩∧Cv.l15 K k d f c=some o1) ?_ ⟨_,_,_,rfl,hp1⟩) ?_
  ·clear h hp1;intro k S hS;obtain ⟨d,f,c,rfl,h⟩:=hS;cases k with
   | zero=>cases h
   | succ k =>
   unfold Cv.l15 at h;refine Xo <| Xo ?_;obtain ⟨⟨s,m⟩,h3,h⟩:=bind_some h;dsimp only at h;refine rg L 213 [] [] [(1,(X5 (.B s) [(0,.raw (Af m))]))] (Xx (Ap.okE h3)) ?_;rcases Xp h with ⟨c2,h⟩ |⟨c2,h⟩
   ·refine tt c2 <| Xu <| Xw ?_;obtain ⟨a4,h4,h⟩:=bind_some h;rcases a4 with a4 | a4
    ·dsimp only at h;refine qn L 216 [] [] [] 2 (X5 (.tup []) []) (Yl 49 a4) (Xx (Bz.okE h4)) ?_;cases h;exact .inr ⟨.inr ⟨_,rfl⟩,_,rfl,rfl⟩
    ·obtain ⟨b,n⟩:=a4;dsimp only at h;obtain ⟨g1,h⟩:=Xv h;refine ar L 216 [] [] [(2,(X5 (.agg (Aj b)) [(0,.raw (Af n))]))] (cs:=[Xz V P 49 [.P 0] [(0,.raw (Af m))] [0] (.agg (Aj b)) [(0,.raw (Af n))],(c.length+([(⟨b.Op,b.Name,b.Int,b.Text,b.Kids⟩:Aa)]:List Aa).length) * 72≤140737488355328,True]) (S':=⟨[(0,.P 0),(1,.cv (.str p0)),(2,.cv (.fn (.func 49) [.P 0] [])),(7,.cv (.own .Ae 23100))],[(0,.raw (Af n)),(23100,.lst .Ae (c++([(⟨b.Op,b.Name,b.Int,b.Text,b.Kids⟩:Aa)]:List Aa)))]⟩) (And.intro (Bz.okE h4) (And.intro g1 trivial)) ?_;exact ⟨k,Nat.lt_succ_self k,_,_,_,rfl,h⟩
   refine fN c2 <| Xr (Xn.trans (Xn.kk [0,1,7] [0,23100]) (Xn.rr [(0,0),(23100,23000)])) ?_;refine ex (S':=⟨[(0,.P 0),(1,.cv (.str p0)),(7,.cv (.own .Ae 23000))],[(0,.raw (Af m)),(23000,.lst .Ae c)]⟩) ?_;cases h;exact .inl ⟨rfl,_,_,_,rfl,rfl⟩
  ·rintro e S (⟨rfl,g,i,l,rfl,rfl⟩ |⟨he,a,rfl,hr⟩)
   ·rcases h with ⟨_,e1,h⟩ |⟨_,e1,h⟩
    ·cases e1
    ·have e2:=X3.go.inj e1;subst e2;dsimp only at h;refine ⟨_,Xn.refl,?_⟩;refine Xo ?_;obtain ⟨a5,h5,h⟩:=bind_some h;rcases a5 with a5 | a5
     ·dsimp only at h;refine rg L 223 [] [] [(2,(X5 (.tup []) [(0,.raw (Af a5))]))] (Xx (Au.okE h5)) ?_;refine Xy L 227 <| Xr (Xn.trans (Xn.kk [6] [0,23000]) (Xn.rr [(0,0),(23000,100)])) ?_;refine Xq ?_;cases h;exact Zm
     ·obtain ⟨a5,rfl⟩:∃ z,z=a5:=⟨_,rfl⟩
      dsimp only at h;refine qn L 223 [] [] [] 2 (X5 (.tup []) []) (Yl 49 a5) (Xx (Au.okE h5)) ?_;cases h;exact rfl
   ·rcases h with ⟨_,e1,h⟩ |⟨_,e1,h⟩
    ·have e2:=X3.done.inj e1;subst e2;subst h;rcases he with rfl |⟨ch,rfl⟩
     ·exact ⟨_,Xn.refl,hr⟩
     ·exact ⟨_,Xn.refl,hr⟩
    ·cases e1
theorem Cv.okE {K:Nat} {p0:List UInt8} {p1:Ab} {r:(Ab×(List Aa)) ⊕ Int} (h:Cv K p0 p1=some r):Yj V P 48 [.P 0,.cv (.str p0),.cv (.fn (.func 49) [.P 0] [])] [(0,.raw (Af p1))] [0] (Cv.post p0 p1 r) (Cv.rep p0 p1 r) :=
 xo (fn:=Tryz.f48) (n:=25) (m:=100) fun Γ=>Cv.body h
def C3 (K:Nat) (p0:Ab):Option (Int ⊕ (Aa×Ab)):=(Option.bind (Cd K ([([115,105,103,110,97,108]:List UInt8),([113,117,101,114,121]:List UInt8),([117,112,100,97,116,101]:List UInt8)]:List (List UInt8)) ([63,64,65]:List Int) p0) (fun (j,o,k)=>(if o=true then (Option.bind (Ay K k) (fun a2=>match a2 with |(Sum.inl a2)=>some (Sum.inl a2) |(Sum.inr (p,q))=>(Option.bind (Au K ([40]:List UInt8) q) (fun a3=>match a3 with |(Sum.inl a3)=>(Option.bind (Ay K a3) (fun a4=>match a4 with |(Sum.inl a4)=>some (Sum.inl a4) |(Sum.inr (s,t))=>(Option.bind (Au K ([41]:List UInt8) t) (fun a5=>match a5 with |(Sum.inl a5)=>(obind (((Option.bind ((if j=65 then (Option.bind (Ap K ([99,104,101,99,107]:List UInt8) a5) (fun (u,m)=>some (u,m.l,m.i))) else some (false,a5.l,a5.i)):Option (Bool×(List Ar)×Int)) (fun (h,c,d)=>(if h=true then (Option.bind (As K (⟨c,d⟩:Ab)) (fun a7=>match a7 with |(Sum.inl a7)=>some (X3.done (Sum.inl a7)) |(Sum.inr (a,n))=>(if ([(⟨a.Op,a.Name,a.Int,a.Text,a.Kids⟩:Aa)]:List Aa).length * 72≤140737488355328 then some (X3.go (n.l,n.i,([(⟨a.Op,a.Name,a.Int,a.Text,a.Kids⟩:Aa)]:List Aa))) else none))) else some (X3.go (c,d,([]:List Aa))))))):Option (X3 (Int ⊕ (Aa×Ab)) ((List Ar)×Int×(List Aa)))) (fun r=>r) (fun (f,g,e)=>(Option.bind (As K (⟨f,g⟩:Ab)) (fun a8=>match a8 with |(Sum.inl a8)=>some (Sum.inl a8) |(Sum.inr (b,v))=>(if (e.length+([(⟨b.Op,b.Name,b.Int,b.Text,b.Kids⟩:Aa)]:List Aa).length) * 72≤140737488355328 then some ((Sum.inr ((⟨j,p,0,s,(e++([(⟨b.Op,b.Name,b.Int,b.Text,b.Kids⟩:Aa)]:List Aa))⟩:Aa),v))) else none))))) |(Sum.inr a5)=>some (Sum.inl a5))))) |(Sum.inr a3)=>some (Sum.inl a3))))) else (Option.bind (Bp K k) (fun a9=>some (Sum.inl a9))))))
def C3.rep (p0:Ab):Int ⊕ (Aa×Ab)→Yx T
 |(Sum.inl v0)=>.pan (Yl 49 v0)
 |(Sum.inr (v0,v1))=>.ret (.agg [.I v0.Op,.str v0.Name,.I v0.Int,.str v0.Text,.ro .Ae v0.Kids])
def C3.post (p0:Ab):Int ⊕ (Aa×Ab)→List (Nat×Yd T)
 |(Sum.inl v0)=>[]
 |(Sum.inr (v0,v1))=>[(0,.raw [.ro .Ao v1.l,.I v1.i])]
theorem C3.body {Γ:Yg} {K:Nat} {p0:Ab} {r:Int ⊕ (Aa×Ab)} (h:C3 K p0=some r):Yc V P 49 100 Γ (Tryz.f51.body.getD .skip) (Yk P V Tryz.f51 (C3.rep p0 r) (C3.post p0 r)) ⟨X0 0 [.P 0],[(0,.raw (Af p0))]⟩:=by
 unfold C3 at h;refine Xy L 200 <| Xo ?_;obtain ⟨⟨g,p,v⟩,h1,h⟩:=bind_some h;dsimp only at h;refine rg L 202 [] [] [(3,(X5 (.tup [.I g,.B p]) [(0,.raw (Af v))]))] (Xx (Cd.okE h1)) ?_;refine Xo <| Xy L 212 ?_;rcases Xp h with ⟨c1,h⟩ |⟨c1,h⟩
 ·refine ff (b:=(!p)) (congrArg Bool.not (c1)) ?_;refine Xu <| Xo ?_;obtain ⟨a2,h2,h⟩:=bind_some h;rcases a2 with a2 | a2
  ·dsimp only at h;refine qn L 218 [] [] [] 2 (X5 (.tup []) []) (Yl 49 a2) (Xx (Ay.okE h2)) ?_;cases h;exact rfl
  ·obtain ⟨i,w⟩:=a2;dsimp only at h;refine rg L 218 [] [] [(2,(X5 (.cv (.str i)) [(0,.raw (Af w))]))] (Xx (Ay.okE h2)) ?_;refine Xo ?_;obtain ⟨a3,h3,h⟩:=bind_some h;rcases a3 with a3 | a3
   ·dsimp only at h;refine rg L 225 [] [] [(1,(X5 (.tup []) [(0,.raw (Af a3))]))] (Xx (Au.okE h3)) ?_;refine Xo ?_;obtain ⟨a4,h4,h⟩:=bind_some h;rcases a4 with a4 | a4
    ·dsimp only at h;refine qn L 228 [] [] [] 1 (X5 (.tup []) []) (Yl 49 a4) (Xx (Ay.okE h4)) ?_;cases h;exact rfl
    ·obtain ⟨j,x⟩:=a4;dsimp only at h;refine rg L 228 [] [] [(1,(X5 (.cv (.str j)) [(0,.raw (Af x))]))] (Xx (Ay.okE h4)) ?_;refine Xo ?_;obtain ⟨a5,h5,h⟩:=bind_some h;rcases a5 with a5 | a5
     ·dsimp only at h;refine rg L 233 [] [] [(1,(X5 (.tup []) [(0,.raw (Af a5))]))] (Xx (Au.okE h5)) ?_;obtain ⟨o2,hp2,h⟩:=X9 h;refine Xo (Ye (Q':=fun e S=>(e=.normal∧∃ k:List Ar,∃ l:Int,∃ m:List Aa,S=⟨[(0,.P 0),(2,.P 23800),(5,.P 23801)],[(0,.raw [.ro .Ao k,.I l]),(23800,.raw [.I 0,.str [],.I 0,.str [],.N]),(23801,.raw [.I g,.str i,.I 0,.str j,.own .Ae 23802]),(23802,.lst .Ae m)]⟩∧X3.go (k,l,m)=o2)∨((e=.ret∨∃ ch,e=.panic ch)∧∃ a,X3.done a=o2∧Yk P V Tryz.f51 (C3.rep p0 a) (C3.post p0 a) e S)) ?_ ?_)
      ·clear h;replace h:=hp2;obtain ⟨o1,hp1,h⟩:=bind_some h;refine Xo (Ye (Q':=fun e S=>(e=.normal∧∃ n:Bool,∃ d:List Ar,∃ f:Int,S=⟨[(0,.P 0),(2,.P 24000),(5,.P 24001),(33,.B n)],[(0,.raw [.ro .Ao d,.I f]),(24000,.raw [.I 0,.str [],.I 0,.str [],.N]),(24001,.raw [.I g,.str i,.I 0,.str j,.N])]⟩∧(n,d,f)=o1)) ?_ ?_)
       ·clear h;replace h:=hp1;rcases Xp h with ⟨c2,h⟩ |⟨c2,h⟩
        ·obtain ⟨⟨s,t⟩,h6,h⟩:=bind_some h;dsimp only at h;refine X2 (rg L 236 [(2,true)] [] [(4,(X5 (.B s) [(0,.raw (Af t))]))] (Zb (decide_eq_true c2) (Ap.okE h6)) ⟨rfl,rfl⟩) (Xn.trans (Xn.kk [0,2,5,33] [0,200,222]) (Xn.trans (Xn.rr [(0,0),(200,24000),(222,24001)]) (Xn.kp (S':=⟨[(0,.P 0),(2,.P 24000),(5,.P 24001),(33,.B s)],[(0,.raw (Af t)),(24000,.raw [.I 0,.str [],.I 0,.str [],.N]),(24001,.raw [.I g,.str i,.I 0,.str j,.N])]⟩)))) ?_;cases h;exact ⟨rfl,_,_,_,rfl,rfl⟩
        refine X2 (rg L 236 [(2,false)] [] [] (Xx (decide_eq_false c2)) ⟨rfl,rfl⟩) (Xn.trans (Xn.kk [0,2,5,33] [0,200,222]) (Xn.trans (Xn.rr [(0,0),(200,24000),(222,24001)]) (Xn.kp (S':=⟨[(0,.P 0),(2,.P 24000),(5,.P 24001),(33,.B false)],[(0,.raw (Af a5)),(24000,.raw [.I 0,.str [],.I 0,.str [],.N]),(24001,.raw [.I g,.str i,.I 0,.str j,.N])]⟩)))) ?_;cases h;exact ⟨rfl,_,_,_,rfl,rfl⟩
       ·rintro e S ⟨rfl,n,d,f,rfl,rfl⟩;dsimp only at h;rcases Xp h with ⟨c3,h⟩ |⟨c3,h⟩
        ·refine tt c3 ?_;obtain ⟨a7,h7,h⟩:=bind_some h;rcases a7 with a7 | a7
         ·dsimp only at h;refine qP L mixed 243 [] [] [] [0,2] 3 (X5 (.tup []) []) (Yl 49 a7) (Zb (As.okE h7) (As.okE h7)) ?_;cases h;exact .inr ⟨.inr ⟨_,rfl⟩,_,rfl,rfl⟩
         ·obtain ⟨c,q⟩:=a7;dsimp only at h;obtain ⟨g1,h⟩:=Xv h;refine X2 (hB L mixed 243 [] [] [(3,(X5 (.agg (Aj c)) [(0,.raw (Af q))]))] [0,2] 3 (Xt (As.okE h7) (Xt g1 (Xt trivial (Xt (As.okE h7) (Xt g1 (Xt trivial (Xt g1 (Xx trivial)))))))) (S':=⟨[(0,.P 0),(2,.P 24000),(5,.P 24001)],[(0,.raw (Af q)),(248,.lst .Ae ([(⟨c.Op,c.Name,c.Int,c.Text,c.Kids⟩:Aa)]:List Aa)),(24000,.raw [.I 0,.str [],.I 0,.str [],.N]),(24001,.raw [.I g,.str i,.I 0,.str j,.own .Ae 248])]⟩) ⟨rfl,rfl⟩) (Xn.trans (Xn.kk [0,2,5] [0,248,24000,24001]) (Xn.trans (Xn.rr [(0,0),(248,23802),(24000,23800),(24001,23801)]) (Xn.kp (S':=⟨[(0,.P 0),(2,.P 23800),(5,.P 23801)],[(0,.raw (Af q)),(23800,.raw [.I 0,.str [],.I 0,.str [],.N]),(23801,.raw [.I g,.str i,.I 0,.str j,.own .Ae 23802]),(23802,.lst .Ae ([(⟨c.Op,c.Name,c.Int,c.Text,c.Kids⟩:Aa)]:List Aa))]⟩)))) ?_;cases h;exact .inl ⟨rfl,_,_,_,rfl,rfl⟩
        refine fN c3 <| Xr (Xn.trans (Xn.kk [0,2,5] [0,24000,24001]) (Xn.trans (Xn.nc 24001 4 9500 Tag.Ae) (Xn.trans (Xn.kk [0,2,5] [0,9500,24000,24001]) (Xn.rr [(0,0),(9500,23802),(24000,23800),(24001,23801)])))) ?_;refine sk (S':=⟨[(0,.P 0),(2,.P 23800),(5,.P 23801)],[(0,.raw [.ro .Ao d,.I f]),(23800,.raw [.I 0,.str [],.I 0,.str [],.N]),(23801,.raw [.I g,.str i,.I 0,.str j,.own .Ae 23802]),(23802,.lst .Ae ([]:List Aa))]⟩) ?_;cases h;exact .inl ⟨rfl,_,_,_,rfl,rfl⟩
      ·rintro e S (⟨rfl,k,l,m,rfl,rfl⟩ |⟨he,a,rfl,hr⟩)
       ·rcases h with ⟨_,e1,h⟩ |⟨_,e1,h⟩
        ·cases e1
        ·have e2:=X3.go.inj e1;subst e2;dsimp only at h;refine Xo ?_;obtain ⟨a8,h8,h⟩:=bind_some h;rcases a8 with a8 | a8
         ·dsimp only at h;refine qP L mixed 252 [] [] [] [0,2] 3 (X5 (.tup []) []) (Yl 49 a8) (Zb (As.okE h8) (As.okE h8)) ?_;cases h;exact rfl
         ·obtain ⟨o,u⟩:=a8;dsimp only at h;obtain ⟨g2,h⟩:=Xv h;refine hB L mixed 252 [] [] [(3,(X5 (.agg (Aj o)) [(0,.raw (Af u))]))] [0,2] 3 (Xt (As.okE h8) (Xt g2 (Xt trivial (Xt (As.okE h8) (Xt g2 (Xt trivial (Xt g2 (Xx trivial)))))))) (S':=⟨[(2,.P 23800),(5,.P 23801)],[(0,.raw (Af u)),(23800,.raw [.I 0,.str [],.I 0,.str [],.N]),(23801,.raw [.I g,.str i,.I 0,.str j,.own .Ae 23802]),(23802,.lst .Ae (m++([(⟨o.Op,o.Name,o.Int,o.Text,o.Kids⟩:Aa)]:List Aa)))]⟩) ?_;refine Xy L 261 <| Xr (Xn.trans (Xn.kk [2] [0,23800,23802]) (Xn.trans (Xn.fz 23802) (Xn.rr [(0,0),(23800,100)]))) ?_;refine Xq ?_;cases h;exact Zm
       ·rcases h with ⟨_,e1,h⟩ |⟨_,e1,h⟩
        ·have e2:=X3.done.inj e1;subst e2;subst h;rcases he with rfl |⟨ch,rfl⟩
         ·exact hr
         ·exact hr
        ·cases e1
     ·obtain ⟨a5,rfl⟩:∃ z,z=a5:=⟨_,rfl⟩
      dsimp only at h;refine qn L 233 [] [] [] 1 (X5 (.tup []) []) (Yl 49 a5) (Xx (Au.okE h5)) ?_;cases h;exact rfl
   ·obtain ⟨a3,rfl⟩:∃ z,z=a3:=⟨_,rfl⟩
    dsimp only at h;refine qn L 225 [] [] [] 1 (X5 (.tup []) []) (Yl 49 a3) (Xx (Au.okE h3)) ?_;cases h;exact rfl
 refine tt (b:=(!p)) (congrArg Bool.not (eq_false_of_ne_true c1)) ?_;obtain ⟨a9,h9,h⟩:=bind_some h;refine qn L 215 [] [] [] 1 (X5 (.tup []) []) (Yl 49 a9) (Xx (Bp.okE h9)) ?_;cases h;exact rfl
theorem C3.okE {K:Nat} {p0:Ab} {r:Int ⊕ (Aa×Ab)} (h:C3 K p0=some r):Yj V P 51 [.P 0] [(0,.raw (Af p0))] [0] (C3.post p0 r) (C3.rep p0 r) :=
 xo (fn:=Tryz.f51) (n:=49) (m:=100) fun Γ=>C3.body h
def Bt.l7 (K:Nat):Nat→(List Ar)→Int→(List Aa)→Option (X3 (Int ⊕ (Aa×Ab)) ((List Ar)×Int×(List Aa)))
 | 0,_,_,_=>none
 | k+1,e,f,c=>(Option.bind (Bx K (⟨e,f⟩:Ab)) (fun a1=>(if a1.Kind≠0 then (Option.bind (Ap K ([118,97,114]:List UInt8) (⟨e,f⟩:Ab)) (fun (r,m)=>(if r=true then (Option.bind (Ay K m) (fun a3=>match a3 with |(Sum.inl a3)=>some (X3.done (Sum.inl a3)) |(Sum.inr (n,s))=>(Option.bind (Au K ([61]:List UInt8) s) (fun a4=>match a4 with |(Sum.inl a4)=>(Option.bind (C5 K a4) (fun a5=>match a5 with |(Sum.inl a5)=>some (X3.done (Sum.inl a5)) |(Sum.inr (d,t))=>(if (c.length+([(⟨61,n,0,[],([(⟨d.Op,d.Name,d.Int,d.Text,d.Kids⟩:Aa)]:List Aa)⟩:Aa)]:List Aa).length) * 72≤140737488355328 then (Option.bind (Au K ([59]:List UInt8) t) (fun a6=>match a6 with |(Sum.inl a6)=>Bt.l7 K k a6.l a6.i (c++([(⟨61,n,0,[],([(⟨d.Op,d.Name,d.Int,d.Text,d.Kids⟩:Aa)]:List Aa)⟩:Aa)]:List Aa)) |(Sum.inr a6)=>some (X3.done (Sum.inl a6)))) else none))) |(Sum.inr a4)=>some (X3.done (Sum.inl a4)))))) else (Option.bind (Ap K ([102,117,110,99]:List UInt8) m) (fun (u,o)=>(if u=true then (Option.bind (Ay K o) (fun a8=>match a8 with |(Sum.inl a8)=>some (X3.done (Sum.inl a8)) |(Sum.inr (p,v))=>(Option.bind (Au K ([40]:List UInt8) v) (fun a9=>match a9 with |(Sum.inl a9)=>(Option.bind (Cv K ([41]:List UInt8) a9) (fun a10=>match a10 with |(Sum.inl (q,g))=>(Option.bind (As K q) (fun a11=>match a11 with |(Sum.inl a11)=>some (X3.done (Sum.inl a11)) |(Sum.inr (a,h))=>(if (g.length+([(⟨a.Op,a.Name,a.Int,a.Text,a.Kids⟩:Aa)]:List Aa).length) * 72≤140737488355328 then (if (c.length+([(⟨62,p,0,[],(g++([(⟨a.Op,a.Name,a.Int,a.Text,a.Kids⟩:Aa)]:List Aa))⟩:Aa)]:List Aa).length) * 72≤140737488355328 then Bt.l7 K k h.l h.i ((c++([(⟨62,p,0,[],(g++([(⟨a.Op,a.Name,a.Int,a.Text,a.Kids⟩:Aa)]:List Aa))⟩:Aa)]:List Aa))) else none) else none))) |(Sum.inr a10)=>some (X3.done (Sum.inl a10)))) |(Sum.inr a9)=>some (X3.done (Sum.inl a9)))))) else (Option.bind (Au K ([111,110]:List UInt8) o) (fun a12=>match a12 with |(Sum.inl a12)=>(Option.bind (C3 K a12) (fun a13=>match a13 with |(Sum.inl a13)=>some (X3.done (Sum.inl a13)) |(Sum.inr (b,j))=>(if (c.length+([(⟨b.Op,b.Name,b.Int,b.Text,b.Kids⟩:Aa)]:List Aa).length) * 72≤140737488355328 then Bt.l7 K k j.l j.i (c++([(⟨b.Op,b.Name,b.Int,b.Text,b.Kids⟩:Aa)]:List Aa)) else none))) |(Sum.inr a12)=>some (X3.done (Sum.inl a12)))))))))) else some (X3.go (e,f,c)))))
def Bt (K:Nat) (p0:Ab):Option (Int ⊕ (Aa×Ab)):=(obind (Bt.l7 K K p0.l p0.i ([]:List Aa):Option (X3 (Int ⊕ (Aa×Ab)) ((List Ar)×Int×(List Aa)))) (fun r=>r) (fun (a,b,c)=>some (Sum.inr ((⟨60,[],0,[],c⟩:Aa),(⟨a,b⟩:Ab)))))
def Bt.rep (p0:Ab):Int ⊕ (Aa×Ab)→Yx T
 |(Sum.inl v0)=>.pan (Yl 49 v0)
 |(Sum.inr (v0,v1))=>.ret (.agg [.I v0.Op,.str v0.Name,.I v0.Int,.str v0.Text,.ro .Ae v0.Kids])
def Bt.post (p0:Ab):Int ⊕ (Aa×Ab)→List (Nat×Yd T)
 |(Sum.inl v0)=>[]
 |(Sum.inr (v0,v1))=>[(0,.raw [.ro .Ao v1.l,.I v1.i])]
theorem Bt.body {Γ:Yg} {K:Nat} {p0:Ab} {r:Int ⊕ (Aa×Ab)} (h:Bt K p0=some r):Yc V P 64 100 Γ (Tryz.f26.body.getD .skip) (Yk P V Tryz.f26 (Bt.rep p0 r) (Bt.post p0 r)) ⟨X0 0 [.P 0],[(0,.raw (Af p0))]⟩:=by
 unfold Bt at h;refine Xy L 200 <| Xy L 202 <| Xo <| Xw <| Xr (Xn.trans (Xn.kk [0,2,3] [0,200,203]) (Xn.trans (Xn.nc 203 4 9500 Tag.Ae) (Xn.trans (Xn.kk [0,2,3] [0,200,203,9500]) (Xn.rr [(0,0),(200,21500),(203,21501),(9500,21502)])))) ?_;refine kp (S':=⟨[(0,.P 0),(2,.P 21500),(3,.P 21501)],[(0,.raw (Af p0)),(21500,.raw [.I 0,.str [],.I 0,.str [],.N]),(21501,.raw [.I 60,.str [],.I 0,.str [],.own .Ae 21502]),(21502,.lst .Ae ([]:List Aa))]⟩) ?_;obtain ⟨o1,hp1,h⟩:=X9 h;refine X4 (Q':=fun e S=>(e=.exit 0∧∃ j:List Ar,∃ l:Int,∃ m:List Aa,S=⟨[(2,.P 21400),(3,.P 21401)],[(0,.raw [.ro .Ao j,.I l]),(21400,.raw [.I 0,.str [],.I 0,.str [],.N]),(21401,.raw [.I 60,.str [],.I 0,.str [],.own .Ae 21402]),(21402,.lst .Ae m)]⟩∧X3.go (j,l,m)=o1)∨((e=.ret∨∃ ch,e=.panic ch)∧∃ a,X3.done a=o1∧Yk P V Tryz.f26 (Bt.rep p0 a) (Bt.post p0 a) e S)) (Yb (fun k S=>∃ d:List Ar,∃ f:Int,∃ b:List Aa,S=⟨[(0,.P 0),(2,.P 21500),(3,.P 21501)],[(0,.raw [.ro .Ao d,.I f]),(21500,.raw [.I 0,.str [],.I 0,.str [],.N]),(21501,.raw [.I 60,.str [],.I 0,.str [],.own .Ae 21502]),(21502,.lst .Ae b)]⟩∧Bt.l7 K k d f b=some o1) ?_ ⟨_,_,_,rfl,hp1⟩) ?_
 ·clear h hp1;intro k S hS;obtain ⟨d,f,b,rfl,h⟩:=hS;cases k with
  | zero=>cases h
  | succ k =>
  unfold Bt.l7 at h;refine Xo <| Xo ?_;obtain ⟨a1,h1,h⟩:=bind_some h;refine rg L 206 [] [(1,.agg (Eg a1))] [] (Yw (Bx.ok h1)) ?_;rcases Xp h with ⟨c1,h⟩ |⟨c1,h⟩
  ·refine tT c1 <| Xu <| Xw <| Xw <| Xo ?_;obtain ⟨⟨v,w⟩,h2,h⟩:=bind_some h;dsimp only at h;refine rg L 211 [] [] [(1,(X5 (.B v) [(0,.raw (Af w))]))] (Xx (Ap.okE h2)) ?_;rcases Xp h with ⟨c2,h⟩ |⟨c2,h⟩
   ·refine tt c2 <| Xo ?_;obtain ⟨a3,h3,h⟩:=bind_some h;rcases a3 with a3 | a3
    ·dsimp only at h;refine qn L 215 [] [] [] 1 (X5 (.tup []) []) (Yl 49 a3) (Xx (Ay.okE h3)) ?_;cases h;exact .inr ⟨.inr ⟨_,rfl⟩,_,rfl,rfl⟩
    ·obtain ⟨n,x⟩:=a3;dsimp only at h;refine rg L 215 [] [] [(1,(X5 (.cv (.str n)) [(0,.raw (Af x))]))] (Xx (Ay.okE h3)) ?_;refine Xo ?_;obtain ⟨a4,h4,h⟩:=bind_some h;rcases a4 with a4 | a4
     ·dsimp only at h;refine rg L 219 [] [] [(1,(X5 (.tup []) [(0,.raw (Af a4))]))] (Xx (Au.okE h4)) ?_;refine Xo ?_;obtain ⟨a5,h5,h⟩:=bind_some h;rcases a5 with a5 | a5
      ·dsimp only at h;refine qP L mixed 222 [] [] [] [0,2,3] 4 (X5 (.tup []) []) (Yl 49 a5) (Zb (C5.okE h5) (C5.okE h5)) ?_;cases h;exact .inr ⟨.inr ⟨_,rfl⟩,_,rfl,rfl⟩
      ·obtain ⟨c,o⟩:=a5;dsimp only at h;obtain ⟨g1,h⟩:=Xv h;refine hB L mixed 222 [] [] [(4,(X5 (.agg (Aj c)) [(0,.raw (Af o))]))] [0,2,3] 5 (Xt (C5.okE h5) (Xt g1 (Xt trivial (Xt (C5.okE h5) (Xt g1 (Xt trivial (Xt g1 (Xt trivial (Xt g1 (Xt trivial (Xt g1 (Xx trivial)))))))))))) (S':=⟨[(0,.P 0),(2,.P 21500),(3,.P 21501)],[(0,.raw (Af o)),(21500,.raw [.I 0,.str [],.I 0,.str [],.N]),(21501,.raw [.I 60,.str [],.I 0,.str [],.own .Ae 21502]),(21502,.lst .Ae (b++([(⟨61,n,0,[],([(⟨c.Op,c.Name,c.Int,c.Text,c.Kids⟩:Aa)]:List Aa)⟩:Aa)]:List Aa)))]⟩) ?_;obtain ⟨a6,h6,h⟩:=bind_some h;rcases a6 with a6 | a6
       ·dsimp only at h;refine ar L 234 [] [] [(1,(X5 (.tup []) [(0,.raw (Af a6))]))] (cs:=[Xz V P 46 [.P 0,.cv (.str ([59]:List UInt8))] [(0,.raw (Af o))] [0] (.tup []) [(0,.raw (Af a6))]]) (S':=⟨[(0,.P 0),(2,.P 21500),(3,.P 21501)],[(0,.raw (Af a6)),(21500,.raw [.I 0,.str [],.I 0,.str [],.N]),(21501,.raw [.I 60,.str [],.I 0,.str [],.own .Ae 21502]),(21502,.lst .Ae (b++([(⟨61,n,0,[],([(⟨c.Op,c.Name,c.Int,c.Text,c.Kids⟩:Aa)]:List Aa)⟩:Aa)]:List Aa)))]⟩) (Au.okE h6) ?_;exact ⟨k,Nat.lt_succ_self k,_,_,_,rfl,h⟩
       ·obtain ⟨a6,rfl⟩:∃ z,z=a6:=⟨_,rfl⟩
        dsimp only at h;refine qn L 234 [] [] [] 1 (X5 (.tup []) []) (Yl 49 a6) (Xx (Au.okE h6)) ?_;cases h;exact .inr ⟨.inr ⟨_,rfl⟩,_,rfl,rfl⟩
     ·obtain ⟨a4,rfl⟩:∃ z,z=a4:=⟨_,rfl⟩
      dsimp only at h;refine qn L 219 [] [] [] 1 (X5 (.tup []) []) (Yl 49 a4) (Xx (Au.okE h4)) ?_;cases h;exact .inr ⟨.inr ⟨_,rfl⟩,_,rfl,rfl⟩
   refine fN c2 <| Xo ?_;obtain ⟨⟨y,aa⟩,h7,h⟩:=bind_some h;dsimp only at h;refine rg L 237 [] [] [(1,(X5 (.B y) [(0,.raw (Af aa))]))] (Xx (Ap.okE h7)) ?_;rcases Xp h with ⟨c3,h⟩ |⟨c3,h⟩
   ·refine tt c3 <| Xo ?_;obtain ⟨a8,h8,h⟩:=bind_some h;rcases a8 with a8 | a8
    ·dsimp only at h;refine qn L 241 [] [] [] 1 (X5 (.tup []) []) (Yl 49 a8) (Xx (Ay.okE h8)) ?_;cases h;exact .inr ⟨.inr ⟨_,rfl⟩,_,rfl,rfl⟩
    ·obtain ⟨t,ab⟩:=a8;dsimp only at h;refine rg L 241 [] [] [(1,(X5 (.cv (.str t)) [(0,.raw (Af ab))]))] (Xx (Ay.okE h8)) ?_;refine Xo ?_;obtain ⟨a9,h9,h⟩:=bind_some h;rcases a9 with a9 | a9
     ·dsimp only at h;refine rg L 245 [] [] [(1,(X5 (.tup []) [(0,.raw (Af a9))]))] (Xx (Au.okE h9)) ?_;refine Xo ?_;obtain ⟨a10,h10,h⟩:=bind_some h;rcases a10 with ⟨u,p⟩ | a10
      ·dsimp only at h;refine rg L 248 [] [] [(3,(ef [0] [0] (.cv (.own .Ae 100)) [(0,.raw (Af u)),(100,.lst .Ae p)] [(0,0),(100,5408)]))] (Xx (Cv.okE h10)) ?_;obtain ⟨a11,h11,h⟩:=bind_some h;rcases a11 with a11 | a11
       ·dsimp only at h;refine qP L mixed 254 [] [] [] [0,2,3,4] 5 (X5 (.tup []) []) (Yl 49 a11) (Zb (As.okE h11) (As.okE h11)) ?_;cases h;exact .inr ⟨.inr ⟨_,rfl⟩,_,rfl,rfl⟩
       ·obtain ⟨g,q⟩:=a11;dsimp only at h;obtain ⟨g2,h⟩:=Xv h;obtain ⟨g3,h⟩:=Xv h;refine hB L mixed 254 [] [] [(5,(X5 (.agg (Aj g)) [(0,.raw (Af q))])),(9,{ hids:=[],fx:=[],r:=.tup [],H':=[],σ:=[],fr:=[5408] })] [0,2,3,4] 6 (Xt (As.okE h11) (Xt g2 (Xt trivial (Xt g3 (Xt trivial (Xt (As.okE h11) (Xt g2 (Xt trivial (Xt g3 (Xt trivial (Xt g2 (Xt trivial (Xt g3 (Xt trivial (Xt g2 (Xt trivial (Xt g3 (Xt trivial (Xt g3 (Xt trivial (Xt g3 (Xx trivial)))))))))))))))))))))) (S':=⟨[(0,.P 0),(2,.P 21500),(3,.P 21501)],[(0,.raw (Af q)),(21500,.raw [.I 0,.str [],.I 0,.str [],.N]),(21501,.raw [.I 60,.str [],.I 0,.str [],.own .Ae 21502]),(21502,.lst .Ae ((b++([(⟨62,t,0,[],(p++([(⟨g.Op,g.Name,g.Int,g.Text,g.Kids⟩:Aa)]:List Aa))⟩:Aa)]:List Aa))))]⟩) ?_;exact ⟨k,Nat.lt_succ_self k,_,_,_,rfl,h⟩
      ·obtain ⟨a10,rfl⟩:∃ z,z=a10:=⟨_,rfl⟩
       dsimp only at h;refine qn L 248 [] [] [] 3 (X5 (.tup []) []) (Yl 49 a10) (Xx (Cv.okE h10)) ?_;cases h;exact .inr ⟨.inr ⟨_,rfl⟩,_,rfl,rfl⟩
     ·obtain ⟨a9,rfl⟩:∃ z,z=a9:=⟨_,rfl⟩
      dsimp only at h;refine qn L 245 [] [] [] 1 (X5 (.tup []) []) (Yl 49 a9) (Xx (Au.okE h9)) ?_;cases h;exact .inr ⟨.inr ⟨_,rfl⟩,_,rfl,rfl⟩
   refine fN c3 <| Xo ?_;obtain ⟨a12,h12,h⟩:=bind_some h;rcases a12 with a12 | a12
   ·dsimp only at h;refine rg L 268 [] [] [(1,(X5 (.tup []) [(0,.raw (Af a12))]))] (Xx (Au.okE h12)) ?_;obtain ⟨a13,h13,h⟩:=bind_some h;rcases a13 with a13 | a13
    ·dsimp only at h;refine qP L mixed 271 [] [] [] [0,2] 3 (X5 (.tup []) []) (Yl 49 a13) (Zb (C3.okE h13) (C3.okE h13)) ?_;cases h;exact .inr ⟨.inr ⟨_,rfl⟩,_,rfl,rfl⟩
    ·obtain ⟨i,s⟩:=a13;dsimp only at h;obtain ⟨g4,h⟩:=Xv h;refine hB L mixed 271 [] [] [(3,(X5 (.agg (Aj i)) [(0,.raw (Af s))]))] [0,2] 3 (Xt (C3.okE h13) (Xt g4 (Xt trivial (Xt (C3.okE h13) (Xt g4 (Xt trivial (Xt g4 (Xx trivial)))))))) (S':=⟨[(0,.P 0),(2,.P 21500),(3,.P 21501)],[(0,.raw (Af s)),(21500,.raw [.I 0,.str [],.I 0,.str [],.N]),(21501,.raw [.I 60,.str [],.I 0,.str [],.own .Ae 21502]),(21502,.lst .Ae (b++([(⟨i.Op,i.Name,i.Int,i.Text,i.Kids⟩:Aa)]:List Aa)))]⟩) ?_;exact ⟨k,Nat.lt_succ_self k,_,_,_,rfl,h⟩
   ·obtain ⟨a12,rfl⟩:∃ z,z=a12:=⟨_,rfl⟩
    dsimp only at h;refine qn L 268 [] [] [] 1 (X5 (.tup []) []) (Yl 49 a12) (Xx (Au.okE h12)) ?_;cases h;exact .inr ⟨.inr ⟨_,rfl⟩,_,rfl,rfl⟩
  refine fF c1 <| Xr (Xn.trans (Xn.kk [2,3] [0,21500,21501,21502]) (Xn.rr [(0,0),(21500,21400),(21501,21401),(21502,21402)])) ?_;refine ex (S':=⟨[(2,.P 21400),(3,.P 21401)],[(0,.raw [.ro .Ao d,.I f]),(21400,.raw [.I 0,.str [],.I 0,.str [],.N]),(21401,.raw [.I 60,.str [],.I 0,.str [],.own .Ae 21402]),(21402,.lst .Ae b)]⟩) ?_;cases h;exact .inl ⟨rfl,_,_,_,rfl,rfl⟩
 ·rintro e S (⟨rfl,j,l,m,rfl,rfl⟩ |⟨he,a,rfl,hr⟩)
  ·rcases h with ⟨_,e1,h⟩ |⟨_,e1,h⟩
   ·cases e1
   ·have e2:=X3.go.inj e1;subst e2;dsimp only at h;refine ⟨_,Xn.refl,?_⟩;refine Xy L 280 <| Xr (Xn.trans (Xn.kk [2] [0,21400,21402]) (Xn.trans (Xn.fz 21402) (Xn.rr [(0,0),(21400,100)]))) ?_;refine Xq ?_;cases h;exact Zm
  ·rcases h with ⟨_,e1,h⟩ |⟨_,e1,h⟩
   ·have e2:=X3.done.inj e1;subst e2;subst h;rcases he with rfl |⟨ch,rfl⟩
    ·exact ⟨_,Xn.refl,hr⟩
    ·exact ⟨_,Xn.refl,hr⟩
   ·cases e1
theorem Bt.okE {K:Nat} {p0:Ab} {r:Int ⊕ (Aa×Ab)} (h:Bt K p0=some r):Yj V P 26 [.P 0] [(0,.raw (Af p0))] [0] (Bt.post p0 r) (Bt.rep p0 r) :=
 xo (fn:=Tryz.f26) (n:=64) (m:=100) fun Γ=>Bt.body h
def Ey (K:Nat) (p0:List Ar) (p1:Int):Option (Int ⊕ (Aa×Int×Int)):=(Option.bind (Bt K (⟨p0,0⟩:Ab)) (fun a1=>match a1 with |(Sum.inl a1)=>some (Sum.inl a1) |(Sum.inr (a,b))=>(Option.bind (Bx K b) (fun a2=>(if a2.Kind≠0 then (Option.bind (Bp K b) (fun a3=>some (Sum.inl a3))) else (Option.bind (Dc K a) (fun a4=>(if a4 > 4000 then some (Sum.inr ((⟨0,[],0,[],([]:List Aa)⟩:Aa),0,6)) else (Option.bind (Db K a) (fun a5=>(if a5 > 40 then some (Sum.inr ((⟨0,[],0,[],([]:List Aa)⟩:Aa),0,7)) else some (Sum.inr (a,0,0)))))))))))))
def Ey.rep (p0:List Ar) (p1:Int):Int ⊕ (Aa×Int×Int)→Yx T
 |(Sum.inl v0)=>.pan (Yl 49 v0)
 |(Sum.inr (v0,v1,v2))=>.ret (.tup [.agg [.I v0.Op,.str v0.Name,.I v0.Int,.str v0.Text,.ro .Ae v0.Kids],.I v1,.I v2])
theorem Ey.body {Γ:Yg} {K:Nat} {p0:List Ar} {p1:Int} {r:Int ⊕ (Aa×Int×Int)} (h:Ey K p0 p1=some r):Yc V P 44 93 Γ (Yh (Yh (Yh (Yh (Tryz.f25.body.getD .skip))))) (Abx P V Tryz.f25 (Ey.rep p0 p1 r)) ⟨[(1,.cv (.fn (.func 26) [] [])),(4,.P 90),(5,.P 91),(6,.P 92),(7,.cv (.ro .Ao p0))],[(90,.raw [.I 0,.str [],.I 0,.str [],.N]),(91,.raw [.I p1]),(92,.raw [.I 0])]⟩:=by
 unfold Ey at h;refine Xy L 200 <| Xo ?_;obtain ⟨a1,h1,h⟩:=bind_some h;rcases a1 with a1 | a1
 ·dsimp only at h;refine pn L 205 [] [] [] 2 [4,5,6] [90,91,92] (ef [0] [0] (.tup []) [] [(0,202)]) (Yl 49 a1) (cs:=[Ahd V P 26 [.P 0] [(0,.raw [.ro .Ao p0,.I 0])] (Yl 49 a1)]) (S':=⟨[(4,.P 90),(5,.P 91),(6,.P 92)],[(90,.raw [.I 0,.str [],.I 0,.str [],.N]),(91,.raw [.I p1]),(92,.raw [.I 0])]⟩) (Bt.okE h1) ?_;cases h;exact (rp:Abx P V Tryz.f25 (Ey.rep p0 p1 (Sum.inl a1)) _ _)
 ·obtain ⟨a,b⟩:=a1;dsimp only at h;refine rg L 205 [] [] [(2,(ef [0] [0] (.agg (Aj a)) [(0,.raw (Af b))] [(0,202)]))] (Xx (Bt.okE h1)) ?_;refine Xo <| Xo ?_;obtain ⟨a2,h2,h⟩:=bind_some h;refine rg L 210 [] [(1,.agg (Eg a2))] [] (Yw (Bx.ok h2)) ?_;rcases Xp h with ⟨c1,h⟩ |⟨c1,h⟩
  ·refine tT c1 ?_;obtain ⟨a3,h3,h⟩:=bind_some h;refine pn L 215 [] [] [] 1 [4,5,6] [90,91,92] (ef [0] [0] (.tup []) [] [(0,202)]) (Yl 49 a3) (cs:=[Ahd V P 43 [.P 0] [(0,.raw (Af b))] (Yl 49 a3)]) (S':=⟨[(4,.P 90),(5,.P 91),(6,.P 92)],[(90,.raw (Aj a)),(91,.raw [.I p1]),(92,.raw [.I 0])]⟩) (Bp.okE h3) ?_;cases h;exact (rp:Abx P V Tryz.f25 (Ey.rep p0 p1 (Sum.inl a3)) _ _)
  refine fF c1 <| Xu <| Xo <| Xw <| Xo ?_;obtain ⟨a4,h4,h⟩:=bind_some h;refine rg L 218 [] [(1,.I a4)] [] (Yw (Dc.ok h4)) ?_;rcases Xp h with ⟨c2,h⟩ |⟨c2,h⟩
  ·refine tT c2 <| Xy L 223 <| Xq ?_;cases h;exact rr0
  refine fF c2 <| Xo ?_;obtain ⟨a5,h5,h⟩:=bind_some h;refine rg L 228 [] [(1,.I a5)] [] (Yw (Db.ok h5)) ?_;rcases Xp h with ⟨c3,h⟩ |⟨c3,h⟩
  ·refine tT c3 <| Xy L 233 <| Xq ?_;cases h;exact rr0
  refine fF c3 <| Xu <| Xy L 238 <| Xq ?_;cases h;exact rr0
def Hx:Int ⊕ (Aa×Int×Int)→Aa×Int×Int
 |(Sum.inl v0)=>(A9,v0,29)
 |(Sum.inr (v0,v1,v2))=>(v0,v1,v2)
def F2 (K:Nat) (p0:List UInt8):Option (Aa×Int×Int):=Option.bind (Ev K p0) (fun (c,a,b)=>if b≠0 then some (A9,a,b) else Option.bind (Ey K c a) (fun x=>some (Hx x)))
theorem F2.ok {K:Nat} {p0:List UInt8} {r:Aa×Int×Int} (h:F2 K p0=some r):X6 V P 25 [.cv (.str p0),.cv (.fn (.func 26) [] [])] (.tup [.agg (Aj r.1),.I r.2.1,.I r.2.2]):=by
 unfold F2 at h;obtain ⟨⟨l,at0,e0⟩,h1,h⟩:=bind_some h;dsimp only at h;by_cases he:e0≠0
 ·rw [if_pos he] at h;obtain rfl:=Option.some.inj h;exact Mk (Ev.ok h1) he
 ·rw [if_neg he] at h;obtain ⟨x,h2,h⟩:=bind_some h;obtain rfl:=Option.some.inj h;have he0:e0=0:=Decidable.not_not.1 he;subst he0;refine Lm (o:=Ey.rep l at0 x) (Ev.ok h1) (fun Γ=>Ey.body h2) ?_;rcases x with v0 |⟨v0,v1,v2⟩
  ·exact .inr ⟨v0,rfl,rfl⟩
  ·exact .inl rfl
def Fu (K:Nat) (p0:List UInt8):Option (Aa×Int×Int):=(Option.bind (F2 K p0) (fun (a,b,c)=>some (a,b,c)))
theorem Fu.body {Γ:Yg} {K:Nat} {p0:List UInt8} {r:Aa×Int×Int} (h:Fu K p0=some r):Yc V P 10 100 Γ (Tryz.f10.body.getD .skip) (X1 P V Tryz.f10 (.tup [.agg [.I r.1.Op,.str r.1.Name,.I r.1.Int,.str r.1.Text,.ro .Ae r.1.Kids],.I r.2.1,.I r.2.2]) []) ⟨X0 0 [.cv (.str p0)],[]⟩:=by
 unfold Fu at h;refine Xy L 200 <| Xo ?_;obtain ⟨⟨a,b,c⟩,h1,h⟩:=bind_some h;dsimp only at h;refine rg L 204 [] [(1,.tup [.agg (Aj a),.I b,.I c])] [] (Yw (F2.ok h1)) ?_;refine Xr (Xn.trans (Xn.kk [2,3,4] [200]) (Xn.rr [(200,100)])) ?_;refine Xq ?_;cases h;exact X7
theorem Fu.ok {K:Nat} {p0:List UInt8} {r:Aa×Int×Int} (h:Fu K p0=some r):X6 V P 10 [.cv (.str p0)] (.tup [.agg [.I r.1.Op,.str r.1.Name,.I r.1.Int,.str r.1.Text,.ro .Ae r.1.Kids],.I r.2.1,.I r.2.2]):=Xz.pcall (eo (fn:=Tryz.f10) (n:=10) (m:=100) fun Γ=>Fu.body h) (by kernel_rfl)
structure Dt where
 Bn:Aa→Aa→Option Bool
structure Dt.Ok (R:Dt):Prop where
 Bn:∀ {p0:Aa} {p1:Aa} {r:Bool},R.Bn p0 p1=some r→Xz V P 12 [.agg (Aj p0),.agg (Aj p1)] [] [] (.B r) []
theorem Bn.okR {R:Dt} (hR:R.Ok) {p0:Aa} {p1:Aa} {r:Bool} (h:R.Bn p0 p1=some r):X6 V P 12 [.agg (Aj p0),.agg (Aj p1)] (.B r):=(hR.Bn h).pcall (by kernel_rfl)
def Bn.l15 (K:Nat) (R:Dt) (p0:Aa) (p1:Aa):Nat→Int→Option (X3 Bool Unit)
 | 0,_=>none
 | k+1,a=>(if a <(p0.Kids.length:Int) then (if (0:Int)≤a∧(a:Int) <(p0.Kids.length:Int) then (if (a:Int) <(p1.Kids.length:Int) then (Option.bind (R.Bn (p0.Kids.getD (Int.toNat a) A9) (p1.Kids.getD (Int.toNat a) A9)) (fun a1=>(if a1=true then Bn.l15 K R p0 p1 k (IntKind.i64.wrap (a+1)) else some (X3.done false)))) else none) else none) else some (X3.go ()))
def Bn.F (K:Nat) (R:Dt) (p0:Aa) (p1:Aa):Option Bool:=(if p0.Op≠p1.Op then some false else (if p0.Name≠p1.Name then some false else (if p0.Int≠p1.Int then some false else (if p0.Text≠p1.Text then some false else (if (p0.Kids.length:Int)≠(p1.Kids.length:Int) then some false else (obind (Bn.l15 K R p0 p1 K 0:Option (X3 Bool Unit)) (fun r=>r) (fun _=>some true)))))))
theorem Bn.body {Γ:Yg} {K:Nat} {R:Dt} (hR:R.Ok) {p0:Aa} {p1:Aa} {r:Bool} (h:Bn.F K R p0 p1=some r):Yc V P 60 100 Γ (Tryz.f12.body.getD .skip) (X1 P V Tryz.f12 (.B r) []) ⟨X0 0 [.agg (Aj p0),.agg (Aj p1)],[]⟩:=by
 unfold Bn.F at h;refine Xy L 200 <| Xo <| Xo ?_;rcases Xp h with ⟨c1,h⟩ |⟨c1,h⟩
 ·refine rg L 204 [(5,true)] [] [] (Xx (decide_eq_true c1)) ?_;refine tt (b:=true) (rfl) ?_;refine Xy L 240 <| Xq ?_;cases h;exact X7
 rcases Xp h with ⟨c2,h⟩ |⟨c2,h⟩
 ·refine rg L 204 [(5,false),(12,true)] [] [] (Zb (decide_eq_false c1) (decide_eq_true c2)) ?_;refine tt (b:=true) (rfl) ?_;refine Xy L 240 <| Xq ?_;cases h;exact X7
 rcases Xp h with ⟨c3,h⟩ |⟨c3,h⟩
 ·refine rg L 204 [(5,false),(12,false),(19,true)] [] [] (Xt (decide_eq_false c1) (Xt (decide_eq_false c2) (Xx (decide_eq_true c3)))) ?_;refine tt (b:=true) (rfl) ?_;refine Xy L 240 <| Xq ?_;cases h;exact X7
 rcases Xp h with ⟨c4,h⟩ |⟨c4,h⟩
 ·refine rg L 204 [(5,false),(12,false),(19,false),(26,true)] [] [] (Xt (decide_eq_false c1) (Xt (decide_eq_false c2) (Xt (decide_eq_false c3) (Xx (decide_eq_true c4))))) ?_;refine tt (b:=true) (rfl) ?_;refine Xy L 240 <| Xq ?_;cases h;exact X7
 refine rg L 204 [(5,false),(12,false),(19,false),(26,false)] [] [] (Xt (decide_eq_false c1) (Xt (decide_eq_false c2) (Xt (decide_eq_false c3) (Xx (decide_eq_false c4))))) ?_;rcases Xp h with ⟨c5,h⟩ |⟨c5,h⟩
 ·refine tT c5 <| Xy L 240 <| Xq ?_;cases h;exact X7
 refine fF c5 <| Xu <| Xo <| Xy L 242 <| Xw <| Xr (Xn.trans (Xn.kk [2,3,5] [200,201]) (Xn.rr [(200,23100),(201,23101)])) ?_;refine kp (S':=⟨[(2,.P 23100),(3,.P 23101),(5,.I 0)],[(23100,.raw (Aj p0)),(23101,.raw (Aj p1))]⟩) ?_;obtain ⟨o1,hp1,h⟩:=X9 h;refine X4 (Q':=fun e S=>(e=.exit 0∧S=⟨[],[]⟩∧X3.go ()=o1)∨(e=.ret∧∃ a,X3.done a=o1∧X1 P V Tryz.f12 (.B a) [] .ret S)) (Yb (fun k S=>∃ c:Int,S=⟨[(2,.P 23100),(3,.P 23101),(5,.I c)],[(23100,.raw (Aj p0)),(23101,.raw (Aj p1))]⟩∧Bn.l15 K R p0 p1 k c=some o1) ?_ ⟨_,rfl,hp1⟩) ?_
 ·clear h hp1;intro k S hS;obtain ⟨c,rfl,h⟩:=hS;cases k with
  | zero=>cases h
  | succ k =>
  unfold Bn.l15 at h;refine Xo <| Xy L 244 ?_;rcases Xp h with ⟨c6,h⟩ |⟨c6,h⟩
  ·refine tT c6 <| Xu <| Xo <| Xw <| Xo ?_;obtain ⟨g1,h⟩:=Xv h;obtain ⟨g2,h⟩:=Xv h;obtain ⟨a1,h1,h⟩:=bind_some h;refine rd L mixed 250 [] [(10,.B a1)] [] [] 12 (Xt g1.1 (Xt g1.2 (Xt g1.1 (Xt g2 (Xt (Bn.okR hR h1) (Xx trivial)))))) ?_;rcases Xp h with ⟨c7,h⟩ |⟨c7,h⟩
   ·refine ff (b:=(!a1)) (congrArg Bool.not (c7)) ?_;refine Xu <| ar0 L 265 [] [] [] (S':=⟨[(2,.P 23100),(3,.P 23101),(5,.I (IntKind.i64.wrap (c+1)))],[(23100,.raw (Aj p0)),(23101,.raw (Aj p1))]⟩) ?_;exact ⟨k,Nat.lt_succ_self k,_,rfl,h⟩
   refine tt (b:=(!a1)) (congrArg Bool.not (eq_false_of_ne_true c7)) ?_;refine Xy L 263 <| Xq ?_;cases h;exact .inr ⟨rfl,_,rfl,X7⟩
  refine fF c6 <| ex (S':=⟨[],[]⟩) ?_;cases h;exact .inl ⟨rfl,rfl,rfl⟩
 ·rintro e S (⟨rfl,rfl,rfl⟩ |⟨rfl,a,rfl,hr⟩)
  ·rcases h with ⟨_,e1,h⟩ |⟨_,e1,h⟩
   ·cases e1
   ·have e2:=X3.go.inj e1;subst e2;refine ⟨_,Xn.refl,?_⟩;refine Xy L 269 <| Xq ?_;cases h;exact X7
  ·rcases h with ⟨_,e1,h⟩ |⟨_,e1,h⟩
   ·have e2:=X3.done.inj e1;subst e2;subst h;exact ⟨_,Xn.refl,hr⟩
   ·cases e1
def Dt.upto (K:Nat):Nat→Dt
 | 0=>⟨fun _ _=>none⟩
 | k+1=>⟨Bn.F K (Dt.upto K k)⟩
theorem Dt.upto_ok (K:Nat):∀ k,(Dt.upto K k).Ok
 | 0=>⟨fun h=>(by cases h)⟩
 | k+1=>⟨fun {p0 p1 r} h=>eo (fn:=Tryz.f12) (n:=60) (m:=100) fun Γ=>Bn.body (K:=K) (Dt.upto_ok K k) h⟩
def Bn (K:Nat) (p0:Aa) (p1:Aa):Option Bool:=(Dt.upto K K).Bn p0 p1
theorem Bn.okE {K:Nat} {p0:Aa} {p1:Aa} {r:Bool} (h:Bn K p0 p1=some r):Xz V P 12 [.agg (Aj p0),.agg (Aj p1)] [] [] (.B r) []:=(Dt.upto_ok K K).Bn h
theorem Bn.ok {K:Nat} {p0:Aa} {p1:Aa} {r:Bool} (h:Bn K p0 p1=some r):X6 V P 12 [.agg (Aj p0),.agg (Aj p1)] (.B r):=(Bn.okE h).pcall (by kernel_rfl)
def Fj (K:Nat) (p0:Aa):Option Bool:=(Option.bind (Dc K p0) (fun a1=>(if a1≤4000 then (Option.bind (Db K p0) (fun a2=>some (decide (a2≤40)))) else some false)))
theorem Fj.body {Γ:Yg} {K:Nat} {p0:Aa} {r:Bool} (h:Fj K p0=some r):Yc V P 11 100 Γ (Tryz.f28.body.getD .skip) (X1 P V Tryz.f28 (.B r) []) ⟨X0 0 [.agg (Aj p0)],[]⟩:=by
 unfold Fj at h;refine Xy L 200 <| Xo ?_;obtain ⟨a1,h1,h⟩:=bind_some h;rcases Xp h with ⟨c1,h⟩ |⟨c1,h⟩
 ·obtain ⟨a2,h2,h⟩:=bind_some h;refine rg L 203 [(3,true)] [(1,.I a1),(5,.I a2)] [] (Xt (Dc.ok h1) (Xt trivial (Xt (decide_eq_true c1) (Xt (Db.ok h2) (Xx trivial))))) ?_;refine Xq ?_;cases h;exact X7
 refine rg L 203 [(3,false)] [(1,.I a1)] [] (Xt (Dc.ok h1) (Xt trivial (Xx (decide_eq_false c1)))) ?_;refine Xq ?_;cases h;exact X7
theorem Fj.ok {K:Nat} {p0:Aa} {r:Bool} (h:Fj K p0=some r):X6 V P 28 [.agg (Aj p0)] (.B r):=Xz.pcall (eo (fn:=Tryz.f28) (n:=11) (m:=100) fun Γ=>Fj.body h) (by kernel_rfl)
def Bb (K:Nat) (p0:Aa) (p1:Bool) (p2:Bool) (p3:Bool):Option Bool:=(if p1=true then (if p2=true then (if p3=true then some true else some (decide (p0.Int=0))) else (if p0.Text=([]:List UInt8) then (if p3=true then some true else some (decide (p0.Int=0))) else some false)) else (if p0.Name=([]:List UInt8) then (if p2=true then (if p3=true then some true else some (decide (p0.Int=0))) else (if p0.Text=([]:List UInt8) then (if p3=true then some true else some (decide (p0.Int=0))) else some false)) else some false))
theorem Bb.body {Γ:Yg} {K:Nat} {p0:Aa} {p1:Bool} {p2:Bool} {p3:Bool} {r:Bool} (h:Bb K p0 p1 p2 p3=some r):Yc V P 31 100 Γ (Tryz.f29.body.getD .skip) (X1 P V Tryz.f29 (.B r) []) ⟨X0 0 [.agg (Aj p0),.B p1,.B p2,.B p3],[]⟩:=by
 unfold Bb at h;refine Xy L 200 <| Xo ?_;rcases Xp h with ⟨c1,h⟩ |⟨c1,h⟩
 ·rcases Xp h with ⟨c2,h⟩ |⟨c2,h⟩
  ·rcases Xp h with ⟨c3,h⟩ |⟨c3,h⟩
   ·refine rg L 203 [(1,true),(8,true),(16,true)] [] [] (Xt c1 (Xt c2 (Xx c3))) ?_;refine Xq ?_;cases h;exact X7
   refine rg L 203 [(1,true),(8,true),(16,false)] [] [] (Xt c1 (Xt c2 (Xx (eq_false_of_ne_true c3)))) ?_;refine Xq ?_;cases h;exact X7
  rcases Xp h with ⟨c4,h⟩ |⟨c4,h⟩
  ·rcases Xp h with ⟨c5,h⟩ |⟨c5,h⟩
   ·refine rg L 203 [(1,true),(8,false),(14,true),(16,true)] [] [] (Xt c1 (Xt (eq_false_of_ne_true c2) (Xt (decide_eq_true c4) (Xx c5)))) ?_;refine Xq ?_;cases h;exact X7
   refine rg L 203 [(1,true),(8,false),(14,true),(16,false)] [] [] (Xt c1 (Xt (eq_false_of_ne_true c2) (Xt (decide_eq_true c4) (Xx (eq_false_of_ne_true c5))))) ?_;refine Xq ?_;cases h;exact X7
  refine rg L 203 [(1,true),(8,false),(14,false)] [] [] (Xt c1 (Xt (eq_false_of_ne_true c2) (Xx (decide_eq_false c4)))) ?_;refine Xq ?_;cases h;exact X7
 rcases Xp h with ⟨c6,h⟩ |⟨c6,h⟩
 ·rcases Xp h with ⟨c7,h⟩ |⟨c7,h⟩
  ·rcases Xp h with ⟨c8,h⟩ |⟨c8,h⟩
   ·refine rg L 203 [(1,false),(6,true),(8,true),(16,true)] [] [] (Xt (eq_false_of_ne_true c1) (Xt (decide_eq_true c6) (Xt c7 (Xx c8)))) ?_;refine Xq ?_;cases h;exact X7
   refine rg L 203 [(1,false),(6,true),(8,true),(16,false)] [] [] (Xt (eq_false_of_ne_true c1) (Xt (decide_eq_true c6) (Xt c7 (Xx (eq_false_of_ne_true c8))))) ?_;refine Xq ?_;cases h;exact X7
  rcases Xp h with ⟨c9,h⟩ |⟨c9,h⟩
  ·rcases Xp h with ⟨c10,h⟩ |⟨c10,h⟩
   ·refine rg L 203 [(1,false),(6,true),(8,false),(14,true),(16,true)] [] [] (Xt (eq_false_of_ne_true c1) (Xt (decide_eq_true c6) (Xt (eq_false_of_ne_true c7) (Xt (decide_eq_true c9) (Xx c10))))) ?_;refine Xq ?_;cases h;exact X7
   refine rg L 203 [(1,false),(6,true),(8,false),(14,true),(16,false)] [] [] (Xt (eq_false_of_ne_true c1) (Xt (decide_eq_true c6) (Xt (eq_false_of_ne_true c7) (Xt (decide_eq_true c9) (Xx (eq_false_of_ne_true c10)))))) ?_;refine Xq ?_;cases h;exact X7
  refine rg L 203 [(1,false),(6,true),(8,false),(14,false)] [] [] (Xt (eq_false_of_ne_true c1) (Xt (decide_eq_true c6) (Xt (eq_false_of_ne_true c7) (Xx (decide_eq_false c9))))) ?_;refine Xq ?_;cases h;exact X7
 refine rg L 203 [(1,false),(6,false)] [] [] (Zb (eq_false_of_ne_true c1) (decide_eq_false c6)) ?_;refine Xq ?_;cases h;exact X7
theorem Bb.ok {K:Nat} {p0:Aa} {p1:Bool} {p2:Bool} {p3:Bool} {r:Bool} (h:Bb K p0 p1 p2 p3=some r):X6 V P 29 [.agg (Aj p0),.B p1,.B p2,.B p3] (.B r):=Xz.pcall (eo (fn:=Tryz.f29) (n:=31) (m:=100) fun Γ=>Bb.body h) (by kernel_rfl)
def B6.l15 (K:Nat) (p0:List UInt8):Nat→Int→Option (X3 Bool Unit)
 | 0,_=>none
 | k+1,a=>(if a <(p0.length:Int) then (if (0:Int)≤a∧(a:Int) <(p0.length:Int) then (if ((p0.getD (Int.toNat a) 0).toNat:Int)≥97 then (if ((p0.getD (Int.toNat a) 0).toNat:Int)≤122 then B6.l15 K p0 k (IntKind.i64.wrap (a+1)) else (if ((p0.getD (Int.toNat a) 0).toNat:Int)≥65 then (if ((p0.getD (Int.toNat a) 0).toNat:Int)≤90 then B6.l15 K p0 k (IntKind.i64.wrap (a+1)) else (if ((p0.getD (Int.toNat a) 0).toNat:Int)≥48 then (if ((p0.getD (Int.toNat a) 0).toNat:Int)≤57 then B6.l15 K p0 k (IntKind.i64.wrap (a+1)) else (if ((p0.getD (Int.toNat a) 0).toNat:Int)=95 then B6.l15 K p0 k (IntKind.i64.wrap (a+1)) else some (X3.done false))) else (if ((p0.getD (Int.toNat a) 0).toNat:Int)=95 then B6.l15 K p0 k (IntKind.i64.wrap (a+1)) else some (X3.done false)))) else (if ((p0.getD (Int.toNat a) 0).toNat:Int)≥48 then (if ((p0.getD (Int.toNat a) 0).toNat:Int)≤57 then B6.l15 K p0 k (IntKind.i64.wrap (a+1)) else (if ((p0.getD (Int.toNat a) 0).toNat:Int)=95 then B6.l15 K p0 k (IntKind.i64.wrap (a+1)) else some (X3.done false))) else (if ((p0.getD (Int.toNat a) 0).toNat:Int)=95 then B6.l15 K p0 k (IntKind.i64.wrap (a+1)) else some (X3.done false))))) else (if ((p0.getD (Int.toNat a) 0).toNat:Int)≥65 then (if ((p0.getD (Int.toNat a) 0).toNat:Int)≤90 then B6.l15 K p0 k (IntKind.i64.wrap (a+1)) else (if ((p0.getD (Int.toNat a) 0).toNat:Int)≥48 then (if ((p0.getD (Int.toNat a) 0).toNat:Int)≤57 then B6.l15 K p0 k (IntKind.i64.wrap (a+1)) else (if ((p0.getD (Int.toNat a) 0).toNat:Int)=95 then B6.l15 K p0 k (IntKind.i64.wrap (a+1)) else some (X3.done false))) else (if ((p0.getD (Int.toNat a) 0).toNat:Int)=95 then B6.l15 K p0 k (IntKind.i64.wrap (a+1)) else some (X3.done false)))) else (if ((p0.getD (Int.toNat a) 0).toNat:Int)≥48 then (if ((p0.getD (Int.toNat a) 0).toNat:Int)≤57 then B6.l15 K p0 k (IntKind.i64.wrap (a+1)) else (if ((p0.getD (Int.toNat a) 0).toNat:Int)=95 then B6.l15 K p0 k (IntKind.i64.wrap (a+1)) else some (X3.done false))) else (if ((p0.getD (Int.toNat a) 0).toNat:Int)=95 then B6.l15 K p0 k (IntKind.i64.wrap (a+1)) else some (X3.done false))))) else none) else some (X3.go ()))
def B6 (K:Nat) (p0:List UInt8):Option Bool:=(obind (((if (p0.length:Int) < 1 then some (X3.done false) else (if (p0.length:Int) > 64 then some (X3.done false) else (Option.bind (E9 K p0) (fun a1=>(if a1=true then some (X3.done false) else (if (0:Int) <(p0.length:Int) then (if ((p0.getD (Int.toNat 0) 0).toNat:Int)≥48 then (if ((p0.getD (Int.toNat 0) 0).toNat:Int)≤57 then some (X3.done false) else some (X3.go ())) else some (X3.go ())) else none))))))):Option (X3 Bool Unit)) (fun r=>r) (fun _=>(obind (B6.l15 K p0 K 0:Option (X3 Bool Unit)) (fun r=>r) (fun _=>some true))))
theorem B6.body {Γ:Yg} {K:Nat} {p0:List UInt8} {r:Bool} (h:B6 K p0=some r):Yc V P 63 100 Γ (Tryz.f58.body.getD .skip) (X1 P V Tryz.f58 (.B r) []) ⟨X0 0 [.cv (.str p0)],[]⟩:=by
 unfold B6 at h;refine Xy L 200 ?_;obtain ⟨o1,hp1,h⟩:=X9 h;refine Xo (Ye (Q':=fun e S=>(e=.normal∧S=⟨[(0,.cv (.str p0))],[]⟩∧X3.go ()=o1)∨(e=.ret∧∃ a,X3.done a=o1∧X1 P V Tryz.f58 (.B a) [] .ret S)) ?_ ?_)
 ·clear h;replace h:=hp1;refine Xo ?_;rcases Xp h with ⟨c1,h⟩ |⟨c1,h⟩
  ·refine rg L 202 [(3,true)] [] [] (Xx (decide_eq_true c1)) ?_;refine tt (b:=true) (rfl) ?_;refine Xy L 225 <| Xq ?_;cases h;exact .inr ⟨rfl,_,rfl,X7⟩
  rcases Xp h with ⟨c2,h⟩ |⟨c2,h⟩
  ·refine rg L 202 [(3,false),(8,true)] [] [] (Zb (decide_eq_false c1) (decide_eq_true c2)) ?_;refine tt (b:=true) (rfl) ?_;refine Xy L 225 <| Xq ?_;cases h;exact .inr ⟨rfl,_,rfl,X7⟩
  obtain ⟨a1,h1,h⟩:=bind_some h;rcases Xp h with ⟨c3,h⟩ |⟨c3,h⟩
  ·refine rg L 202 [(3,false),(8,false),(12,true)] [(10,.B a1)] [] (Xt (decide_eq_false c1) (Xt (decide_eq_false c2) (Xt (E9.ok h1) (Xt trivial (Xx c3))))) ?_;refine tt (b:=true) (rfl) ?_;refine Xy L 225 <| Xq ?_;cases h;exact .inr ⟨rfl,_,rfl,X7⟩
  obtain ⟨g1,h⟩:=Xv h;rcases Xp h with ⟨c4,h⟩ |⟨c4,h⟩
  ·refine rg L 202 [(3,false),(8,false),(12,false),(16,true)] [(10,.B a1)] [] (Xt (decide_eq_false c1) (Xt (decide_eq_false c2) (Xt (E9.ok h1) (Xt trivial (Xt (eq_false_of_ne_true c3) (Xt (show (0:Int)≤0 from by decide) (Xt g1 (Xt (decide_eq_true c4) (Xt (show (0:Int)≤0 from by decide) (Xx g1)))))))))) ?_;rcases Xp h with ⟨c5,h⟩ |⟨c5,h⟩
   ·refine tT c5 <| Xy L 225 <| Xq ?_;cases h;exact .inr ⟨rfl,_,rfl,X7⟩
   refine fF c5 <| sk (S':=⟨[(0,.cv (.str p0))],[]⟩) ?_;cases h;exact .inl ⟨rfl,rfl,rfl⟩
  refine rg L 202 [(3,false),(8,false),(12,false),(16,false)] [(10,.B a1)] [] (Xt (decide_eq_false c1) (Xt (decide_eq_false c2) (Xt (E9.ok h1) (Xt trivial (Xt (eq_false_of_ne_true c3) (Xt (show (0:Int)≤0 from by decide) (Xt g1 (Xx (decide_eq_false c4))))))))) ?_;refine ff (b:=false) (rfl) ?_;refine sk (S':=⟨[(0,.cv (.str p0))],[]⟩) ?_;cases h;exact .inl ⟨rfl,rfl,rfl⟩
 ·rintro e S (⟨rfl,rfl,rfl⟩ |⟨rfl,a,rfl,hr⟩)
  ·rcases h with ⟨_,e1,h⟩ |⟨_,e1,h⟩
   ·cases e1
   ·have e2:=X3.go.inj e1;subst e2;refine Xo <| Xy L 227 <| Xw <| kp (S':=⟨[(0,.cv (.str p0)),(28,.I (p0.length:Int)),(29,.I 0)],[]⟩) ?_;obtain ⟨o2,hp2,h⟩:=X9 h;refine X4 (Q':=fun e S=>(e=.exit 0∧S=⟨[],[]⟩∧X3.go ()=o2)∨(e=.ret∧∃ a,X3.done a=o2∧X1 P V Tryz.f58 (.B a) [] .ret S)) (Yb (fun k S=>∃ c:Int,S=⟨[(0,.cv (.str p0)),(28,.I (p0.length:Int)),(29,.I c)],[]⟩∧B6.l15 K p0 k c=some o2) ?_ ⟨_,rfl,hp2⟩) ?_
    ·clear h hp2;intro k S hS;obtain ⟨c,rfl,h⟩:=hS;cases k with
     | zero=>cases h
     | succ k =>
     unfold B6.l15 at h;refine Xy L 231 <| Xo ?_;rcases Xp h with ⟨c6,h⟩ |⟨c6,h⟩
     ·refine tT c6 <| Xu <| Xo <| Xw <| Xy L 233 <| Xo ?_;obtain ⟨g2,h⟩:=Xv h;refine rg L 236 [] [] [] (Zb g2.1 g2.2) ?_;refine Xo ?_;rcases Xp h with ⟨c7,h⟩ |⟨c7,h⟩
      ·rcases Xp h with ⟨c8,h⟩ |⟨c8,h⟩
       ·refine rg L 241 [(2,true),(6,true)] [] [] (Zb (decide_eq_true c7) (decide_eq_true c8)) ?_;refine ff (b:=false) (rfl) ?_;refine Xu <| ar0 L 271 [] [] [] (S':=⟨[(0,.cv (.str p0)),(28,.I (p0.length:Int)),(29,.I (IntKind.i64.wrap (c+1)))],[]⟩) ?_;exact ⟨k,Nat.lt_succ_self k,_,rfl,h⟩
       rcases Xp h with ⟨c9,h⟩ |⟨c9,h⟩
       ·rcases Xp h with ⟨c10,h⟩ |⟨c10,h⟩
        ·refine rg L 241 [(2,true),(6,false),(9,true),(14,true)] [] [] (Xt (decide_eq_true c7) (Xt (decide_eq_false c8) (Xt (decide_eq_true c9) (Xx (decide_eq_true c10))))) ?_;refine ff (b:=false) (rfl) ?_;refine Xu <| ar0 L 271 [] [] [] (S':=⟨[(0,.cv (.str p0)),(28,.I (p0.length:Int)),(29,.I (IntKind.i64.wrap (c+1)))],[]⟩) ?_;exact ⟨k,Nat.lt_succ_self k,_,rfl,h⟩
        rcases Xp h with ⟨c11,h⟩ |⟨c11,h⟩
        ·rcases Xp h with ⟨c12,h⟩ |⟨c12,h⟩
         ·refine rg L 241 [(2,true),(6,false),(9,true),(14,false),(17,true),(22,true)] [] [] (Xt (decide_eq_true c7) (Xt (decide_eq_false c8) (Xt (decide_eq_true c9) (Xt (decide_eq_false c10) (Xt (decide_eq_true c11) (Xx (decide_eq_true c12))))))) ?_;refine ff (b:=false) (rfl) ?_;refine Xu <| ar0 L 271 [] [] [] (S':=⟨[(0,.cv (.str p0)),(28,.I (p0.length:Int)),(29,.I (IntKind.i64.wrap (c+1)))],[]⟩) ?_;exact ⟨k,Nat.lt_succ_self k,_,rfl,h⟩
         refine rg L 241 [(2,true),(6,false),(9,true),(14,false),(17,true),(22,false)] [] [] (Xt (decide_eq_true c7) (Xt (decide_eq_false c8) (Xt (decide_eq_true c9) (Xt (decide_eq_false c10) (Xt (decide_eq_true c11) (Xx (decide_eq_false c12))))))) ?_;rcases Xp h with ⟨c13,h⟩ |⟨c13,h⟩
         ·refine ff (b:=(!(decide (((p0.getD (Int.toNat c) 0).toNat:Int)=95)))) (congrArg Bool.not (decide_eq_true c13)) ?_;refine Xu <| ar0 L 271 [] [] [] (S':=⟨[(0,.cv (.str p0)),(28,.I (p0.length:Int)),(29,.I (IntKind.i64.wrap (c+1)))],[]⟩) ?_;exact ⟨k,Nat.lt_succ_self k,_,rfl,h⟩
         refine tt (b:=(!(decide (((p0.getD (Int.toNat c) 0).toNat:Int)=95)))) (congrArg Bool.not (decide_eq_false c13)) ?_;refine Xy L 269 <| Xq ?_;cases h;exact .inr ⟨rfl,_,rfl,X7⟩
        refine rg L 241 [(2,true),(6,false),(9,true),(14,false),(17,false)] [] [] (Xt (decide_eq_true c7) (Xt (decide_eq_false c8) (Xt (decide_eq_true c9) (Xt (decide_eq_false c10) (Xx (decide_eq_false c11)))))) ?_;rcases Xp h with ⟨c14,h⟩ |⟨c14,h⟩
        ·refine ff (b:=(!(decide (((p0.getD (Int.toNat c) 0).toNat:Int)=95)))) (congrArg Bool.not (decide_eq_true c14)) ?_;refine Xu <| ar0 L 271 [] [] [] (S':=⟨[(0,.cv (.str p0)),(28,.I (p0.length:Int)),(29,.I (IntKind.i64.wrap (c+1)))],[]⟩) ?_;exact ⟨k,Nat.lt_succ_self k,_,rfl,h⟩
        refine tt (b:=(!(decide (((p0.getD (Int.toNat c) 0).toNat:Int)=95)))) (congrArg Bool.not (decide_eq_false c14)) ?_;refine Xy L 269 <| Xq ?_;cases h;exact .inr ⟨rfl,_,rfl,X7⟩
       rcases Xp h with ⟨c15,h⟩ |⟨c15,h⟩
       ·rcases Xp h with ⟨c16,h⟩ |⟨c16,h⟩
        ·refine rg L 241 [(2,true),(6,false),(9,false),(17,true),(22,true)] [] [] (Xt (decide_eq_true c7) (Xt (decide_eq_false c8) (Xt (decide_eq_false c9) (Xt (decide_eq_true c15) (Xx (decide_eq_true c16)))))) ?_;refine ff (b:=false) (rfl) ?_;refine Xu <| ar0 L 271 [] [] [] (S':=⟨[(0,.cv (.str p0)),(28,.I (p0.length:Int)),(29,.I (IntKind.i64.wrap (c+1)))],[]⟩) ?_;exact ⟨k,Nat.lt_succ_self k,_,rfl,h⟩
        refine rg L 241 [(2,true),(6,false),(9,false),(17,true),(22,false)] [] [] (Xt (decide_eq_true c7) (Xt (decide_eq_false c8) (Xt (decide_eq_false c9) (Xt (decide_eq_true c15) (Xx (decide_eq_false c16)))))) ?_;rcases Xp h with ⟨c17,h⟩ |⟨c17,h⟩
        ·refine ff (b:=(!(decide (((p0.getD (Int.toNat c) 0).toNat:Int)=95)))) (congrArg Bool.not (decide_eq_true c17)) ?_;refine Xu <| ar0 L 271 [] [] [] (S':=⟨[(0,.cv (.str p0)),(28,.I (p0.length:Int)),(29,.I (IntKind.i64.wrap (c+1)))],[]⟩) ?_;exact ⟨k,Nat.lt_succ_self k,_,rfl,h⟩
        refine tt (b:=(!(decide (((p0.getD (Int.toNat c) 0).toNat:Int)=95)))) (congrArg Bool.not (decide_eq_false c17)) ?_;refine Xy L 269 <| Xq ?_;cases h;exact .inr ⟨rfl,_,rfl,X7⟩
       refine rg L 241 [(2,true),(6,false),(9,false),(17,false)] [] [] (Xt (decide_eq_true c7) (Xt (decide_eq_false c8) (Xt (decide_eq_false c9) (Xx (decide_eq_false c15))))) ?_;rcases Xp h with ⟨c18,h⟩ |⟨c18,h⟩
       ·refine ff (b:=(!(decide (((p0.getD (Int.toNat c) 0).toNat:Int)=95)))) (congrArg Bool.not (decide_eq_true c18)) ?_;refine Xu <| ar0 L 271 [] [] [] (S':=⟨[(0,.cv (.str p0)),(28,.I (p0.length:Int)),(29,.I (IntKind.i64.wrap (c+1)))],[]⟩) ?_;exact ⟨k,Nat.lt_succ_self k,_,rfl,h⟩
       refine tt (b:=(!(decide (((p0.getD (Int.toNat c) 0).toNat:Int)=95)))) (congrArg Bool.not (decide_eq_false c18)) ?_;refine Xy L 269 <| Xq ?_;cases h;exact .inr ⟨rfl,_,rfl,X7⟩
      rcases Xp h with ⟨c19,h⟩ |⟨c19,h⟩
      ·rcases Xp h with ⟨c20,h⟩ |⟨c20,h⟩
       ·refine rg L 241 [(2,false),(9,true),(14,true)] [] [] (Xt (decide_eq_false c7) (Xt (decide_eq_true c19) (Xx (decide_eq_true c20)))) ?_;refine ff (b:=false) (rfl) ?_;refine Xu <| ar0 L 271 [] [] [] (S':=⟨[(0,.cv (.str p0)),(28,.I (p0.length:Int)),(29,.I (IntKind.i64.wrap (c+1)))],[]⟩) ?_;exact ⟨k,Nat.lt_succ_self k,_,rfl,h⟩
       rcases Xp h with ⟨c21,h⟩ |⟨c21,h⟩
       ·rcases Xp h with ⟨c22,h⟩ |⟨c22,h⟩
        ·refine rg L 241 [(2,false),(9,true),(14,false),(17,true),(22,true)] [] [] (Xt (decide_eq_false c7) (Xt (decide_eq_true c19) (Xt (decide_eq_false c20) (Xt (decide_eq_true c21) (Xx (decide_eq_true c22)))))) ?_;refine ff (b:=false) (rfl) ?_;refine Xu <| ar0 L 271 [] [] [] (S':=⟨[(0,.cv (.str p0)),(28,.I (p0.length:Int)),(29,.I (IntKind.i64.wrap (c+1)))],[]⟩) ?_;exact ⟨k,Nat.lt_succ_self k,_,rfl,h⟩
        refine rg L 241 [(2,false),(9,true),(14,false),(17,true),(22,false)] [] [] (Xt (decide_eq_false c7) (Xt (decide_eq_true c19) (Xt (decide_eq_false c20) (Xt (decide_eq_true c21) (Xx (decide_eq_false c22)))))) ?_;rcases Xp h with ⟨c23,h⟩ |⟨c23,h⟩
        ·refine ff (b:=(!(decide (((p0.getD (Int.toNat c) 0).toNat:Int)=95)))) (congrArg Bool.not (decide_eq_true c23)) ?_;refine Xu <| ar0 L 271 [] [] [] (S':=⟨[(0,.cv (.str p0)),(28,.I (p0.length:Int)),(29,.I (IntKind.i64.wrap (c+1)))],[]⟩) ?_;exact ⟨k,Nat.lt_succ_self k,_,rfl,h⟩
        refine tt (b:=(!(decide (((p0.getD (Int.toNat c) 0).toNat:Int)=95)))) (congrArg Bool.not (decide_eq_false c23)) ?_;refine Xy L 269 <| Xq ?_;cases h;exact .inr ⟨rfl,_,rfl,X7⟩
       refine rg L 241 [(2,false),(9,true),(14,false),(17,false)] [] [] (Xt (decide_eq_false c7) (Xt (decide_eq_true c19) (Xt (decide_eq_false c20) (Xx (decide_eq_false c21))))) ?_;rcases Xp h with ⟨c24,h⟩ |⟨c24,h⟩
       ·refine ff (b:=(!(decide (((p0.getD (Int.toNat c) 0).toNat:Int)=95)))) (congrArg Bool.not (decide_eq_true c24)) ?_;refine Xu <| ar0 L 271 [] [] [] (S':=⟨[(0,.cv (.str p0)),(28,.I (p0.length:Int)),(29,.I (IntKind.i64.wrap (c+1)))],[]⟩) ?_;exact ⟨k,Nat.lt_succ_self k,_,rfl,h⟩
       refine tt (b:=(!(decide (((p0.getD (Int.toNat c) 0).toNat:Int)=95)))) (congrArg Bool.not (decide_eq_false c24)) ?_;refine Xy L 269 <| Xq ?_;cases h;exact .inr ⟨rfl,_,rfl,X7⟩
      rcases Xp h with ⟨c25,h⟩ |⟨c25,h⟩
      ·rcases Xp h with ⟨c26,h⟩ |⟨c26,h⟩
       ·refine rg L 241 [(2,false),(9,false),(17,true),(22,true)] [] [] (Xt (decide_eq_false c7) (Xt (decide_eq_false c19) (Xt (decide_eq_true c25) (Xx (decide_eq_true c26))))) ?_;refine ff (b:=false) (rfl) ?_;refine Xu <| ar0 L 271 [] [] [] (S':=⟨[(0,.cv (.str p0)),(28,.I (p0.length:Int)),(29,.I (IntKind.i64.wrap (c+1)))],[]⟩) ?_;exact ⟨k,Nat.lt_succ_self k,_,rfl,h⟩
       refine rg L 241 [(2,false),(9,false),(17,true),(22,false)] [] [] (Xt (decide_eq_false c7) (Xt (decide_eq_false c19) (Xt (decide_eq_true c25) (Xx (decide_eq_false c26))))) ?_;rcases Xp h with ⟨c27,h⟩ |⟨c27,h⟩
       ·refine ff (b:=(!(decide (((p0.getD (Int.toNat c) 0).toNat:Int)=95)))) (congrArg Bool.not (decide_eq_true c27)) ?_;refine Xu <| ar0 L 271 [] [] [] (S':=⟨[(0,.cv (.str p0)),(28,.I (p0.length:Int)),(29,.I (IntKind.i64.wrap (c+1)))],[]⟩) ?_;exact ⟨k,Nat.lt_succ_self k,_,rfl,h⟩
       refine tt (b:=(!(decide (((p0.getD (Int.toNat c) 0).toNat:Int)=95)))) (congrArg Bool.not (decide_eq_false c27)) ?_;refine Xy L 269 <| Xq ?_;cases h;exact .inr ⟨rfl,_,rfl,X7⟩
      refine rg L 241 [(2,false),(9,false),(17,false)] [] [] (Xt (decide_eq_false c7) (Xt (decide_eq_false c19) (Xx (decide_eq_false c25)))) ?_;rcases Xp h with ⟨c28,h⟩ |⟨c28,h⟩
      ·refine ff (b:=(!(decide (((p0.getD (Int.toNat c) 0).toNat:Int)=95)))) (congrArg Bool.not (decide_eq_true c28)) ?_;refine Xu <| ar0 L 271 [] [] [] (S':=⟨[(0,.cv (.str p0)),(28,.I (p0.length:Int)),(29,.I (IntKind.i64.wrap (c+1)))],[]⟩) ?_;exact ⟨k,Nat.lt_succ_self k,_,rfl,h⟩
      refine tt (b:=(!(decide (((p0.getD (Int.toNat c) 0).toNat:Int)=95)))) (congrArg Bool.not (decide_eq_false c28)) ?_;refine Xy L 269 <| Xq ?_;cases h;exact .inr ⟨rfl,_,rfl,X7⟩
     refine fF c6 <| ex (S':=⟨[],[]⟩) ?_;cases h;exact .inl ⟨rfl,rfl,rfl⟩
    ·rintro e S (⟨rfl,rfl,rfl⟩ |⟨rfl,a,rfl,hr⟩)
     ·rcases h with ⟨_,e1,h⟩ |⟨_,e1,h⟩
      ·cases e1
      ·have e2:=X3.go.inj e1;subst e2;refine ⟨_,Xn.refl,?_⟩;refine Xy L 274 <| Xq ?_;cases h;exact X7
     ·rcases h with ⟨_,e1,h⟩ |⟨_,e1,h⟩
      ·have e2:=X3.done.inj e1;subst e2;subst h;exact ⟨_,Xn.refl,hr⟩
      ·cases e1
  ·rcases h with ⟨_,e1,h⟩ |⟨_,e1,h⟩
   ·have e2:=X3.done.inj e1;subst e2;subst h;exact hr
   ·cases e1
theorem B6.ok {K:Nat} {p0:List UInt8} {r:Bool} (h:B6 K p0=some r):X6 V P 58 [.cv (.str p0)] (.B r):=Xz.pcall (eo (fn:=Tryz.f58) (n:=63) (m:=100) fun Γ=>B6.body h) (by kernel_rfl)
structure Az where
 D7:Aa→Option Bool
 Dg:Aa→Option Bool
 Cm:(List Aa)→Option Int
 C0:(List Aa)→Option Bool
 Dy:(List Aa)→Option Bool
 Di:Aa→Option Bool
 Cp:(List Aa)→Option Int
 Cw:(List Aa)→Option Bool
 C9:(List Aa)→Option Bool
 Bo:Aa→Option Bool
structure Az.Ok (R:Az):Prop where
 D7:∀ {p0:Aa} {r:Bool},R.D7 p0=some r→Xz V P 64 [.agg (Aj p0)] [] [] (.B r) []
 Dg:∀ {p0:Aa} {r:Bool},R.Dg p0=some r→Xz V P 57 [.agg (Aj p0),.cv (.pcs [.fn (.func 64) [] []] 0)] [] [] (.B r) []
 Cm:∀ {p0:List Aa} {r:Int},R.Cm p0=some r→Xz V P 90 [.cv (.ro .Ae p0),.cv (.fn (.func 57) [] [.pcs [.fn (.func 64) [] []] 0])] [] [] (.I r) []
 C0:∀ {p0:List Aa} {r:Bool},R.C0 p0=some r→Xz V P 56 [.cv (.ro .Ae p0),.cv (.fn (.func 57) [] [.pcs [.fn (.func 64) [] []] 0])] [] [] (.B r) []
 Dy:∀ {p0:List Aa} {r:Bool},R.Dy p0=some r→Xz V P 30 [.cv (.ro .Ae p0),.cv (.fn (.func 64) [] [])] [] [] (.B r) []
 Di:∀ {p0:Aa} {r:Bool},R.Di p0=some r→Xz V P 57 [.agg (Aj p0),.cv (.pcs [.fn (.func 33) [] []] 0)] [] [] (.B r) []
 Cp:∀ {p0:List Aa} {r:Int},R.Cp p0=some r→Xz V P 90 [.cv (.ro .Ae p0),.cv (.fn (.func 57) [] [.pcs [.fn (.func 33) [] []] 0])] [] [] (.I r) []
 Cw:∀ {p0:List Aa} {r:Bool},R.Cw p0=some r→Xz V P 56 [.cv (.ro .Ae p0),.cv (.fn (.func 57) [] [.pcs [.fn (.func 33) [] []] 0])] [] [] (.B r) []
 C9:∀ {p0:List Aa} {r:Bool},R.C9 p0=some r→Xz V P 30 [.cv (.ro .Ae p0),.cv (.fn (.func 33) [] [])] [] [] (.B r) []
 Bo:∀ {p0:Aa} {r:Bool},R.Bo p0=some r→Xz V P 33 [.agg (Aj p0)] [] [] (.B r) []
theorem D7.okR {R:Az} (hR:R.Ok) {p0:Aa} {r:Bool} (h:R.D7 p0=some r):X6 V P 64 [.agg (Aj p0)] (.B r):=(hR.D7 h).pcall (by kernel_rfl)
theorem Dg.okR {R:Az} (hR:R.Ok) {p0:Aa} {r:Bool} (h:R.Dg p0=some r):X6 V P 57 [.agg (Aj p0),.cv (.pcs [.fn (.func 64) [] []] 0)] (.B r):=(hR.Dg h).pcall (by kernel_rfl)
theorem Cm.okR {R:Az} (hR:R.Ok) {p0:List Aa} {r:Int} (h:R.Cm p0=some r):X6 V P 90 [.cv (.ro .Ae p0),.cv (.fn (.func 57) [] [.pcs [.fn (.func 64) [] []] 0])] (.I r):=(hR.Cm h).pcall (by kernel_rfl)
theorem C0.okR {R:Az} (hR:R.Ok) {p0:List Aa} {r:Bool} (h:R.C0 p0=some r):X6 V P 56 [.cv (.ro .Ae p0),.cv (.fn (.func 57) [] [.pcs [.fn (.func 64) [] []] 0])] (.B r):=(hR.C0 h).pcall (by kernel_rfl)
theorem Dy.okR {R:Az} (hR:R.Ok) {p0:List Aa} {r:Bool} (h:R.Dy p0=some r):X6 V P 30 [.cv (.ro .Ae p0),.cv (.fn (.func 64) [] [])] (.B r):=(hR.Dy h).pcall (by kernel_rfl)
theorem Di.okR {R:Az} (hR:R.Ok) {p0:Aa} {r:Bool} (h:R.Di p0=some r):X6 V P 57 [.agg (Aj p0),.cv (.pcs [.fn (.func 33) [] []] 0)] (.B r):=(hR.Di h).pcall (by kernel_rfl)
theorem Cp.okR {R:Az} (hR:R.Ok) {p0:List Aa} {r:Int} (h:R.Cp p0=some r):X6 V P 90 [.cv (.ro .Ae p0),.cv (.fn (.func 57) [] [.pcs [.fn (.func 33) [] []] 0])] (.I r):=(hR.Cp h).pcall (by kernel_rfl)
theorem Cw.okR {R:Az} (hR:R.Ok) {p0:List Aa} {r:Bool} (h:R.Cw p0=some r):X6 V P 56 [.cv (.ro .Ae p0),.cv (.fn (.func 57) [] [.pcs [.fn (.func 33) [] []] 0])] (.B r):=(hR.Cw h).pcall (by kernel_rfl)
theorem C9.okR {R:Az} (hR:R.Ok) {p0:List Aa} {r:Bool} (h:R.C9 p0=some r):X6 V P 30 [.cv (.ro .Ae p0),.cv (.fn (.func 33) [] [])] (.B r):=(hR.C9 h).pcall (by kernel_rfl)
theorem Bo.okR {R:Az} (hR:R.Ok) {p0:Aa} {r:Bool} (h:R.Bo p0=some r):X6 V P 33 [.agg (Aj p0)] (.B r):=(hR.Bo h).pcall (by kernel_rfl)
def D7.F (K:Nat) (R:Az) (p0:Aa):Option Bool:=(if p0.Op=9 then (Option.bind (Bb K p0 false true false) (fun a1=>(if a1=true then (if (p0.Text.length:Int)≤4096 then (if (p0.Kids.length:Int)=1 then (if (0:Int) <(p0.Kids.length:Int) then (Option.bind (R.Bo (p0.Kids.getD (Int.toNat 0) A9)) (fun a2=>some a2)) else none) else some false) else some false) else some false))) else some false)
theorem D7.body {Γ:Yg} {K:Nat} {R:Az} (hR:R.Ok) {p0:Aa} {r:Bool} (h:D7.F K R p0=some r):Yc V P 29 100 Γ (Tryz.f64.body.getD .skip) (X1 P V Tryz.f64 (.B r) []) ⟨X0 0 [.agg (Aj p0)],[]⟩:=by
 unfold D7.F at h;refine Xy L 200 <| Xo ?_;rcases Xp h with ⟨c1,h⟩ |⟨c1,h⟩
 ·obtain ⟨a1,h1,h⟩:=bind_some h;rcases Xp h with ⟨c2,h⟩ |⟨c2,h⟩
  ·rcases Xp h with ⟨c3,h⟩ |⟨c3,h⟩
   ·rcases Xp h with ⟨c4,h⟩ |⟨c4,h⟩
    ·obtain ⟨g1,h⟩:=Xv h;obtain ⟨a2,h2,h⟩:=bind_some h;refine rg L 203 [(3,true),(7,true),(13,true),(19,true)] [(5,.B a1),(24,.B a2)] [] (Xt (decide_eq_true c1) (Xt (Bb.ok h1) (Xt trivial (Xt c2 (Xt (decide_eq_true c3) (Xt (decide_eq_true c4) (Xt (show (0:Int)≤0 from by decide) (Xt g1 (Xt (Bo.okR hR h2) (Xx trivial)))))))))) ?_;refine Xq ?_;cases h;exact X7
    refine rg L 203 [(3,true),(7,true),(13,true),(19,false)] [(5,.B a1)] [] (Xt (decide_eq_true c1) (Xt (Bb.ok h1) (Xt trivial (Xt c2 (Xt (decide_eq_true c3) (Xx (decide_eq_false c4))))))) ?_;refine Xq ?_;cases h;exact X7
   refine rg L 203 [(3,true),(7,true),(13,false)] [(5,.B a1)] [] (Xt (decide_eq_true c1) (Xt (Bb.ok h1) (Xt trivial (Xt c2 (Xx (decide_eq_false c3)))))) ?_;refine Xq ?_;cases h;exact X7
  refine rg L 203 [(3,true),(7,false)] [(5,.B a1)] [] (Xt (decide_eq_true c1) (Xt (Bb.ok h1) (Xt trivial (Xx (eq_false_of_ne_true c2))))) ?_;refine Xq ?_;cases h;exact X7
 refine rg L 203 [(3,false)] [] [] (Xx (decide_eq_false c1)) ?_;refine Xq ?_;cases h;exact X7
def Dg.F (K:Nat) (R:Az) (p0:Aa):Option Bool:=(Option.bind (R.D7 p0) (fun a1=>some (!a1)))
theorem Dg.body {Γ:Yg} {K:Nat} {R:Az} (hR:R.Ok) {p0:Aa} {r:Bool} (h:Dg.F K R p0=some r):Yc V P 8 100 Γ (Tryz.f57.body.getD .skip) (X1 P V Tryz.f57 (.B r) []) ⟨X0 0 [.agg (Aj p0),.cv (.pcs [.fn (.func 64) [] []] 0)],[]⟩:=by
 unfold Dg.F at h;refine Xy L 200 <| Xo ?_;obtain ⟨a1,h1,h⟩:=bind_some h;refine rg L 203 [] [(2,.B a1)] [] (Yw (D7.okR hR h1)) ?_;refine Xq ?_;cases h;exact X7
def Cm.l7 (K:Nat) (R:Az) (p0:List Aa):Nat→Int→Option (X3 Int Unit)
 | 0,_=>none
 | k+1,a=>(if a <(p0.length:Int) then (if (0:Int)≤a∧(a:Int) <(p0.length:Int) then (Option.bind (R.Dg (p0.getD (Int.toNat a) A9)) (fun a1=>(if a1=true then some (X3.done a) else Cm.l7 K R p0 k (IntKind.i64.wrap (a+1))))) else none) else some (X3.go ()))
def Cm.F (K:Nat) (R:Az) (p0:List Aa):Option Int:=(obind (Cm.l7 K R p0 K 0:Option (X3 Int Unit)) (fun r=>r) (fun _=>some (-1)))
theorem Cm.body {Γ:Yg} {K:Nat} {R:Az} (hR:R.Ok) {p0:List Aa} {r:Int} (h:Cm.F K R p0=some r):Yc V P 19 100 Γ (Tryz.f90.body.getD .skip) (X1 P V Tryz.f90 (.I r) []) ⟨X0 0 [.cv (.ro .Ae p0),.cv (.fn (.func 57) [] [.pcs [.fn (.func 64) [] []] 0])],[]⟩:=by
 unfold Cm.F at h;refine Xy L 200 <| Xo <| Xy L 202 <| Xw <| kp (S':=⟨[(0,.cv (.ro .Ae p0)),(1,.cv (.fn (.func 57) [] [.pcs [.fn (.func 64) [] []] 0])),(7,.I (p0.length:Int)),(8,.I 0)],[]⟩) ?_;obtain ⟨o1,hp1,h⟩:=X9 h;refine X4 (Q':=fun e S=>(e=.exit 0∧S=⟨[],[]⟩∧X3.go ()=o1)∨(e=.ret∧∃ a,X3.done a=o1∧X1 P V Tryz.f90 (.I a) [] .ret S)) (Yb (fun k S=>∃ b:Int,S=⟨[(0,.cv (.ro .Ae p0)),(1,.cv (.fn (.func 57) [] [.pcs [.fn (.func 64) [] []] 0])),(7,.I (p0.length:Int)),(8,.I b)],[]⟩∧Cm.l7 K R p0 k b=some o1) ?_ ⟨_,rfl,hp1⟩) ?_
 ·clear h hp1;intro k S hS;obtain ⟨b,rfl,h⟩:=hS;cases k with
  | zero=>cases h
  | succ k =>
  unfold Cm.l7 at h;refine Xy L 206 <| Xo ?_;rcases Xp h with ⟨c1,h⟩ |⟨c1,h⟩
  ·refine tT c1 <| Xu <| Xo <| Xw <| Xy L 208 <| Xo ?_;obtain ⟨g1,h⟩:=Xv h;obtain ⟨a1,h1,h⟩:=bind_some h;refine rg L 211 [] [(5,.B a1)] [] (Xt g1.1 (Xt g1.2 (Xt (Dg.okR hR h1) (Xx trivial)))) ?_;rcases Xp h with ⟨c2,h⟩ |⟨c2,h⟩
   ·refine tt c2 <| Xy L 218 <| Xq ?_;cases h;exact .inr ⟨rfl,_,rfl,X7⟩
   refine fN c2 <| Xu <| ar0 L 221 [] [] [] (S':=⟨[(0,.cv (.ro .Ae p0)),(1,.cv (.fn (.func 57) [] [.pcs [.fn (.func 64) [] []] 0])),(7,.I (p0.length:Int)),(8,.I (IntKind.i64.wrap (b+1)))],[]⟩) ?_;exact ⟨k,Nat.lt_succ_self k,_,rfl,h⟩
  refine fF c1 <| ex (S':=⟨[],[]⟩) ?_;cases h;exact .inl ⟨rfl,rfl,rfl⟩
 ·rintro e S (⟨rfl,rfl,rfl⟩ |⟨rfl,a,rfl,hr⟩)
  ·rcases h with ⟨_,e1,h⟩ |⟨_,e1,h⟩
   ·cases e1
   ·have e2:=X3.go.inj e1;subst e2;refine ⟨_,Xn.refl,?_⟩;refine Xy L 224 <| Xq ?_;cases h;exact X7
  ·rcases h with ⟨_,e1,h⟩ |⟨_,e1,h⟩
   ·have e2:=X3.done.inj e1;subst e2;subst h;exact ⟨_,Xn.refl,hr⟩
   ·cases e1
def C0.F (K:Nat) (R:Az) (p0:List Aa):Option Bool:=(Option.bind (R.Cm p0) (fun a1=>some (decide (a1≥0))))
theorem C0.body {Γ:Yg} {K:Nat} {R:Az} (hR:R.Ok) {p0:List Aa} {r:Bool} (h:C0.F K R p0=some r):Yc V P 9 100 Γ (Tryz.f56.body.getD .skip) (X1 P V Tryz.f56 (.B r) []) ⟨X0 0 [.cv (.ro .Ae p0),.cv (.fn (.func 57) [] [.pcs [.fn (.func 64) [] []] 0])],[]⟩:=by
 unfold C0.F at h;refine Xy L 200 <| Xo ?_;obtain ⟨a1,h1,h⟩:=bind_some h;refine rg L 202 [] [(2,.I a1)] [] (Yw (Cm.okR hR h1)) ?_;refine Xq ?_;cases h;exact X7
def Dy.F (K:Nat) (R:Az) (p0:List Aa):Option Bool:=(Option.bind (R.C0 p0) (fun a1=>some (!a1)))
theorem Dy.body {Γ:Yg} {K:Nat} {R:Az} (hR:R.Ok) {p0:List Aa} {r:Bool} (h:Dy.F K R p0=some r):Yc V P 9 100 Γ (Tryz.f30.body.getD .skip) (X1 P V Tryz.f30 (.B r) []) ⟨X0 0 [.cv (.ro .Ae p0),.cv (.fn (.func 64) [] [])],[]⟩:=by
 unfold Dy.F at h;refine Xy L 200 <| Xo ?_;obtain ⟨a1,h1,h⟩:=bind_some h;refine rg L 203 [] [(2,.B a1)] [] (Yw (C0.okR hR h1)) ?_;refine Xq ?_;cases h;exact X7
def Di.F (K:Nat) (R:Az) (p0:Aa):Option Bool:=(Option.bind (R.Bo p0) (fun a1=>some (!a1)))
theorem Di.body {Γ:Yg} {K:Nat} {R:Az} (hR:R.Ok) {p0:Aa} {r:Bool} (h:Di.F K R p0=some r):Yc V P 8 100 Γ (Tryz.f57.body.getD .skip) (X1 P V Tryz.f57 (.B r) []) ⟨X0 0 [.agg (Aj p0),.cv (.pcs [.fn (.func 33) [] []] 0)],[]⟩:=by
 unfold Di.F at h;refine Xy L 200 <| Xo ?_;obtain ⟨a1,h1,h⟩:=bind_some h;refine rg L 203 [] [(2,.B a1)] [] (Yw (Bo.okR hR h1)) ?_;refine Xq ?_;cases h;exact X7
def Cp.l7 (K:Nat) (R:Az) (p0:List Aa):Nat→Int→Option (X3 Int Unit)
 | 0,_=>none
 | k+1,a=>(if a <(p0.length:Int) then (if (0:Int)≤a∧(a:Int) <(p0.length:Int) then (Option.bind (R.Di (p0.getD (Int.toNat a) A9)) (fun a1=>(if a1=true then some (X3.done a) else Cp.l7 K R p0 k (IntKind.i64.wrap (a+1))))) else none) else some (X3.go ()))
def Cp.F (K:Nat) (R:Az) (p0:List Aa):Option Int:=(obind (Cp.l7 K R p0 K 0:Option (X3 Int Unit)) (fun r=>r) (fun _=>some (-1)))
theorem Cp.body {Γ:Yg} {K:Nat} {R:Az} (hR:R.Ok) {p0:List Aa} {r:Int} (h:Cp.F K R p0=some r):Yc V P 19 100 Γ (Tryz.f90.body.getD .skip) (X1 P V Tryz.f90 (.I r) []) ⟨X0 0 [.cv (.ro .Ae p0),.cv (.fn (.func 57) [] [.pcs [.fn (.func 33) [] []] 0])],[]⟩:=by
 unfold Cp.F at h;refine Xy L 200 <| Xo <| Xy L 202 <| Xw <| kp (S':=⟨[(0,.cv (.ro .Ae p0)),(1,.cv (.fn (.func 57) [] [.pcs [.fn (.func 33) [] []] 0])),(7,.I (p0.length:Int)),(8,.I 0)],[]⟩) ?_;obtain ⟨o1,hp1,h⟩:=X9 h;refine X4 (Q':=fun e S=>(e=.exit 0∧S=⟨[],[]⟩∧X3.go ()=o1)∨(e=.ret∧∃ a,X3.done a=o1∧X1 P V Tryz.f90 (.I a) [] .ret S)) (Yb (fun k S=>∃ b:Int,S=⟨[(0,.cv (.ro .Ae p0)),(1,.cv (.fn (.func 57) [] [.pcs [.fn (.func 33) [] []] 0])),(7,.I (p0.length:Int)),(8,.I b)],[]⟩∧Cp.l7 K R p0 k b=some o1) ?_ ⟨_,rfl,hp1⟩) ?_
 ·clear h hp1;intro k S hS;obtain ⟨b,rfl,h⟩:=hS;cases k with
  | zero=>cases h
  | succ k =>
  unfold Cp.l7 at h;refine Xy L 206 <| Xo ?_;rcases Xp h with ⟨c1,h⟩ |⟨c1,h⟩
  ·refine tT c1 <| Xu <| Xo <| Xw <| Xy L 208 <| Xo ?_;obtain ⟨g1,h⟩:=Xv h;obtain ⟨a1,h1,h⟩:=bind_some h;refine rg L 211 [] [(5,.B a1)] [] (Xt g1.1 (Xt g1.2 (Xt (Di.okR hR h1) (Xx trivial)))) ?_;rcases Xp h with ⟨c2,h⟩ |⟨c2,h⟩
   ·refine tt c2 <| Xy L 218 <| Xq ?_;cases h;exact .inr ⟨rfl,_,rfl,X7⟩
   refine fN c2 <| Xu <| ar0 L 221 [] [] [] (S':=⟨[(0,.cv (.ro .Ae p0)),(1,.cv (.fn (.func 57) [] [.pcs [.fn (.func 33) [] []] 0])),(7,.I (p0.length:Int)),(8,.I (IntKind.i64.wrap (b+1)))],[]⟩) ?_;exact ⟨k,Nat.lt_succ_self k,_,rfl,h⟩
  refine fF c1 <| ex (S':=⟨[],[]⟩) ?_;cases h;exact .inl ⟨rfl,rfl,rfl⟩
 ·rintro e S (⟨rfl,rfl,rfl⟩ |⟨rfl,a,rfl,hr⟩)
  ·rcases h with ⟨_,e1,h⟩ |⟨_,e1,h⟩
   ·cases e1
   ·have e2:=X3.go.inj e1;subst e2;refine ⟨_,Xn.refl,?_⟩;refine Xy L 224 <| Xq ?_;cases h;exact X7
  ·rcases h with ⟨_,e1,h⟩ |⟨_,e1,h⟩
   ·have e2:=X3.done.inj e1;subst e2;subst h;exact ⟨_,Xn.refl,hr⟩
   ·cases e1
def Cw.F (K:Nat) (R:Az) (p0:List Aa):Option Bool:=(Option.bind (R.Cp p0) (fun a1=>some (decide (a1≥0))))
theorem Cw.body {Γ:Yg} {K:Nat} {R:Az} (hR:R.Ok) {p0:List Aa} {r:Bool} (h:Cw.F K R p0=some r):Yc V P 9 100 Γ (Tryz.f56.body.getD .skip) (X1 P V Tryz.f56 (.B r) []) ⟨X0 0 [.cv (.ro .Ae p0),.cv (.fn (.func 57) [] [.pcs [.fn (.func 33) [] []] 0])],[]⟩:=by
 unfold Cw.F at h;refine Xy L 200 <| Xo ?_;obtain ⟨a1,h1,h⟩:=bind_some h;refine rg L 202 [] [(2,.I a1)] [] (Yw (Cp.okR hR h1)) ?_;refine Xq ?_;cases h;exact X7
def C9.F (K:Nat) (R:Az) (p0:List Aa):Option Bool:=(Option.bind (R.Cw p0) (fun a1=>some (!a1)))
theorem C9.body {Γ:Yg} {K:Nat} {R:Az} (hR:R.Ok) {p0:List Aa} {r:Bool} (h:C9.F K R p0=some r):Yc V P 9 100 Γ (Tryz.f30.body.getD .skip) (X1 P V Tryz.f30 (.B r) []) ⟨X0 0 [.cv (.ro .Ae p0),.cv (.fn (.func 33) [] [])],[]⟩:=by
 unfold C9.F at h;refine Xy L 200 <| Xo ?_;obtain ⟨a1,h1,h⟩:=bind_some h;refine rg L 203 [] [(2,.B a1)] [] (Yw (Cw.okR hR h1)) ?_;refine Xq ?_;cases h;exact X7
def Bo.F (K:Nat) (R:Az) (p0:Aa):Option Bool:=(Option.bind ((if p0.Op=1 then some true else (if p0.Op=2 then some true else some (decide (p0.Op=3)))):Option Bool) (fun d=>(if d=true then (if (p0.Kids.length:Int)=0 then (Option.bind (Bb K p0 false false false) (fun a1=>some a1)) else some false) else (if p0.Op=4 then (if (p0.Kids.length:Int)=0 then (Option.bind (Bb K p0 false false true) (fun a2=>(if a2=true then some (decide (p0.Int≥0)) else some false))) else some false) else (if p0.Op=5 then (if (p0.Kids.length:Int)=0 then (Option.bind (Bb K p0 false true false) (fun a3=>(if a3=true then some (decide ((p0.Text.length:Int)≤4096)) else some false))) else some false) else (if p0.Op=6 then (if (p0.Kids.length:Int)=0 then (Option.bind (Bb K p0 true false false) (fun a4=>(if a4=true then (Option.bind (B6 K p0.Name) (fun a5=>some a5)) else some false))) else some false) else (if p0.Op=8 then (Option.bind (Bb K p0 false false false) (fun a6=>(if a6=true then (Option.bind (R.Dy p0.Kids) (fun a7=>some a7)) else some false))) else (if p0.Op=7 then (Option.bind (Bb K p0 false false false) (fun a8=>(if a8=true then (Option.bind (R.C9 p0.Kids) (fun a9=>some a9)) else some false))) else (Option.bind ((if p0.Op=10 then some true else some (decide (p0.Op=11))):Option Bool) (fun c=>(if c=true then (Option.bind (Bb K p0 true false false) (fun a10=>(if a10=true then (Option.bind (B6 K p0.Name) (fun a11=>(if a11=true then (Option.bind (R.C9 p0.Kids) (fun a12=>some a12)) else some false))) else some false))) else (if p0.Op=29 then (if (p0.Kids.length:Int)=1 then (Option.bind (Bb K p0 true false false) (fun a13=>(if a13=true then (Option.bind (B6 K p0.Name) (fun a14=>(if a14=true then (if (0:Int) <(p0.Kids.length:Int) then (Option.bind (R.Bo (p0.Kids.getD (Int.toNat 0) A9)) (fun a15=>some a15)) else none) else some false))) else some false))) else some false) else (Option.bind ((if p0.Op=12 then some true else (if p0.Op=13 then some true else some (decide (p0.Op=14)))):Option Bool) (fun a=>(if a=true then (if (p0.Kids.length:Int)=1 then (Option.bind (Bb K p0 false false false) (fun a16=>(if a16=true then (if (0:Int) <(p0.Kids.length:Int) then (Option.bind (R.Bo (p0.Kids.getD (Int.toNat 0) A9)) (fun a17=>some a17)) else none) else some false))) else some false) else (Option.bind ((if p0.Op≥15 then some (decide (p0.Op≤28)) else some false):Option Bool) (fun b=>(if b=true then (if (p0.Kids.length:Int)=2 then (Option.bind (Bb K p0 false false false) (fun a18=>(if a18=true then (Option.bind (R.C9 p0.Kids) (fun a19=>some a19)) else some false))) else some false) else some false))))))))))))))))))
theorem Bo.body {Γ:Yg} {K:Nat} {R:Az} (hR:R.Ok) {p0:Aa} {r:Bool} (h:Bo.F K R p0=some r):Yc V P 172 100 Γ (Tryz.f33.body.getD .skip) (X1 P V Tryz.f33 (.B r) []) ⟨X0 0 [.agg (Aj p0)],[]⟩:=by
 unfold Bo.F at h;refine Xy L 200 <| Xy L 203 <| Xo <| Xy L 208 <| Xw ?_;obtain ⟨o1,hp1,h⟩:=bind_some h;refine Xo (Ye (Q':=fun e S=>(e=.normal∧∃ d:Bool,S=⟨[(1,.P 21800),(3,.I (p0.Kids.length:Int)),(4,.I p0.Op),(10,.B d)],[(21800,.raw (Aj p0))]⟩∧d=o1)) ?_ ?_)
 ·clear h;replace h:=hp1;rcases Xp h with ⟨c1,h⟩ |⟨c1,h⟩
  ·refine X2 (rg L 212 [(2,true)] [] [] (Xx (decide_eq_true c1)) ⟨rfl,rfl⟩) (Xn.trans (Xn.kk [1,3,4,10] [200]) (Xn.trans (Xn.rr [(200,21800)]) (Xn.kp (S':=⟨[(1,.P 21800),(3,.I (p0.Kids.length:Int)),(4,.I p0.Op),(10,.B true)],[(21800,.raw (Aj p0))]⟩)))) ?_;cases h;exact ⟨rfl,_,rfl,rfl⟩
  rcases Xp h with ⟨c2,h⟩ |⟨c2,h⟩
  ·refine X2 (rg L 212 [(2,false),(6,true)] [] [] (Zb (decide_eq_false c1) (decide_eq_true c2)) ⟨rfl,rfl⟩) (Xn.trans (Xn.kk [1,3,4,10] [200]) (Xn.trans (Xn.rr [(200,21800)]) (Xn.kp (S':=⟨[(1,.P 21800),(3,.I (p0.Kids.length:Int)),(4,.I p0.Op),(10,.B true)],[(21800,.raw (Aj p0))]⟩)))) ?_;cases h;exact ⟨rfl,_,rfl,rfl⟩
  refine X2 (rg L 212 [(2,false),(6,false)] [] [] (Zb (decide_eq_false c1) (decide_eq_false c2)) ⟨rfl,rfl⟩) (Xn.trans (Xn.kk [1,3,4,10] [200]) (Xn.trans (Xn.rr [(200,21800)]) (Xn.kp (S':=⟨[(1,.P 21800),(3,.I (p0.Kids.length:Int)),(4,.I p0.Op),(10,.B (decide (p0.Op=3)))],[(21800,.raw (Aj p0))]⟩)))) ?_;cases h;exact ⟨rfl,_,rfl,rfl⟩
 ·rintro e S ⟨rfl,d,rfl,rfl⟩;rcases Xp h with ⟨c3,h⟩ |⟨c3,h⟩
  ·refine tt c3 <| Xo ?_;rcases Xp h with ⟨c4,h⟩ |⟨c4,h⟩
   ·obtain ⟨a1,h1,h⟩:=bind_some h;refine rg L 224 [(2,true)] [(4,.B a1)] [] (Xt (decide_eq_true c4) (Xt (Bb.ok h1) (Xx trivial))) ?_;refine Xq ?_;cases h;exact X7
   refine rg L 224 [(2,false)] [] [] (Xx (decide_eq_false c4)) ?_;refine Xq ?_;cases h;exact X7
  refine fN c3 <| Xy L 232 ?_;rcases Xp h with ⟨c5,h⟩ |⟨c5,h⟩
  ·refine tT c5 <| Xo ?_;rcases Xp h with ⟨c6,h⟩ |⟨c6,h⟩
   ·obtain ⟨a2,h2,h⟩:=bind_some h;rcases Xp h with ⟨c7,h⟩ |⟨c7,h⟩
    ·refine rg L 236 [(2,true),(6,true)] [(4,.B a2)] [] (Xt (decide_eq_true c6) (Xt (Bb.ok h2) (Xt trivial (Xx c7)))) ?_;refine Xq ?_;cases h;exact X7
    refine rg L 236 [(2,true),(6,false)] [(4,.B a2)] [] (Xt (decide_eq_true c6) (Xt (Bb.ok h2) (Xt trivial (Xx (eq_false_of_ne_true c7))))) ?_;refine Xq ?_;cases h;exact X7
   refine rg L 236 [(2,false)] [] [] (Xx (decide_eq_false c6)) ?_;refine Xq ?_;cases h;exact X7
  refine fF c5 <| Xy L 249 ?_;rcases Xp h with ⟨c8,h⟩ |⟨c8,h⟩
  ·refine tT c8 <| Xo ?_;rcases Xp h with ⟨c9,h⟩ |⟨c9,h⟩
   ·obtain ⟨a3,h3,h⟩:=bind_some h;rcases Xp h with ⟨c10,h⟩ |⟨c10,h⟩
    ·refine rg L 253 [(2,true),(6,true)] [(4,.B a3)] [] (Xt (decide_eq_true c9) (Xt (Bb.ok h3) (Xt trivial (Xx c10)))) ?_;refine Xq ?_;cases h;exact X7
    refine rg L 253 [(2,true),(6,false)] [(4,.B a3)] [] (Xt (decide_eq_true c9) (Xt (Bb.ok h3) (Xt trivial (Xx (eq_false_of_ne_true c10))))) ?_;refine Xq ?_;cases h;exact X7
   refine rg L 253 [(2,false)] [] [] (Xx (decide_eq_false c9)) ?_;refine Xq ?_;cases h;exact X7
  refine fF c8 <| Xy L 267 ?_;rcases Xp h with ⟨c11,h⟩ |⟨c11,h⟩
  ·refine tT c11 <| Xo ?_;rcases Xp h with ⟨c12,h⟩ |⟨c12,h⟩
   ·obtain ⟨a4,h4,h⟩:=bind_some h;rcases Xp h with ⟨c13,h⟩ |⟨c13,h⟩
    ·obtain ⟨a5,h5,h⟩:=bind_some h;refine rg L 271 [(2,true),(6,true)] [(4,.B a4),(9,.B a5)] [] (Xt (decide_eq_true c12) (Xt (Bb.ok h4) (Xt trivial (Xt c13 (Xt (B6.ok h5) (Xx trivial)))))) ?_;refine Xq ?_;cases h;exact X7
    refine rg L 271 [(2,true),(6,false)] [(4,.B a4)] [] (Xt (decide_eq_true c12) (Xt (Bb.ok h4) (Xt trivial (Xx (eq_false_of_ne_true c13))))) ?_;refine Xq ?_;cases h;exact X7
   refine rg L 271 [(2,false)] [] [] (Xx (decide_eq_false c12)) ?_;refine Xq ?_;cases h;exact X7
  refine fF c11 <| Xy L 284 ?_;rcases Xp h with ⟨c14,h⟩ |⟨c14,h⟩
  ·refine tT c14 <| Xo ?_;obtain ⟨a6,h6,h⟩:=bind_some h;rcases Xp h with ⟨c15,h⟩ |⟨c15,h⟩
   ·obtain ⟨a7,h7,h⟩:=bind_some h;refine rg L 288 [(2,true)] [(1,.B a6),(5,.B a7)] [] (Xt (Bb.ok h6) (Xt trivial (Xt c15 (Xt (Dy.okR hR h7) (Xx trivial))))) ?_;refine Xq ?_;cases h;exact X7
   refine rg L 288 [(2,false)] [(1,.B a6)] [] (Xt (Bb.ok h6) (Xt trivial (Xx (eq_false_of_ne_true c15)))) ?_;refine Xq ?_;cases h;exact X7
  refine fF c14 <| Xy L 297 ?_;rcases Xp h with ⟨c16,h⟩ |⟨c16,h⟩
  ·refine tT c16 <| Xo ?_;obtain ⟨a8,h8,h⟩:=bind_some h;rcases Xp h with ⟨c17,h⟩ |⟨c17,h⟩
   ·obtain ⟨a9,h9,h⟩:=bind_some h;refine rg L 301 [(2,true)] [(1,.B a8),(5,.B a9)] [] (Xt (Bb.ok h8) (Xt trivial (Xt c17 (Xt (C9.okR hR h9) (Xx trivial))))) ?_;refine Xq ?_;cases h;exact X7
   refine rg L 301 [(2,false)] [(1,.B a8)] [] (Xt (Bb.ok h8) (Xt trivial (Xx (eq_false_of_ne_true c17)))) ?_;refine Xq ?_;cases h;exact X7
  refine fF c16 ?_;obtain ⟨o2,hp2,h⟩:=bind_some h;refine Xo (Ye (Q':=fun e S=>(e=.normal∧∃ c:Bool,S=⟨[(1,.P 29000),(3,.I (p0.Kids.length:Int)),(4,.I p0.Op),(90,.B c)],[(29000,.raw (Aj p0))]⟩∧c=o2)) ?_ ?_)
  ·clear h;replace h:=hp2;rcases Xp h with ⟨c18,h⟩ |⟨c18,h⟩
   ·refine X2 (rg L 310 [(2,true)] [] [] (Xx (decide_eq_true c18)) ⟨rfl,rfl⟩) (Xn.trans (Xn.kk [1,3,4,90] [21800]) (Xn.trans (Xn.rr [(21800,29000)]) (Xn.kp (S':=⟨[(1,.P 29000),(3,.I (p0.Kids.length:Int)),(4,.I p0.Op),(90,.B true)],[(29000,.raw (Aj p0))]⟩)))) ?_;cases h;exact ⟨rfl,_,rfl,rfl⟩
   refine X2 (rg L 310 [(2,false)] [] [] (Xx (decide_eq_false c18)) ⟨rfl,rfl⟩) (Xn.trans (Xn.kk [1,3,4,90] [21800]) (Xn.trans (Xn.rr [(21800,29000)]) (Xn.kp (S':=⟨[(1,.P 29000),(3,.I (p0.Kids.length:Int)),(4,.I p0.Op),(90,.B (decide (p0.Op=11)))],[(29000,.raw (Aj p0))]⟩)))) ?_;cases h;exact ⟨rfl,_,rfl,rfl⟩
  ·rintro e S ⟨rfl,c,rfl,rfl⟩;rcases Xp h with ⟨c19,h⟩ |⟨c19,h⟩
   ·refine tt c19 <| Xo ?_;obtain ⟨a10,h10,h⟩:=bind_some h;rcases Xp h with ⟨c20,h⟩ |⟨c20,h⟩
    ·obtain ⟨a11,h11,h⟩:=bind_some h;rcases Xp h with ⟨c21,h⟩ |⟨c21,h⟩
     ·obtain ⟨a12,h12,h⟩:=bind_some h;refine rg L 318 [(2,true),(7,true)] [(1,.B a10),(5,.B a11),(10,.B a12)] [] (Xt (Bb.ok h10) (Xt trivial (Xt c20 (Xt (B6.ok h11) (Xt trivial (Xt c21 (Xt (C9.okR hR h12) (Xx trivial)))))))) ?_;refine Xq ?_;cases h;exact X7
     refine rg L 318 [(2,true),(7,false)] [(1,.B a10),(5,.B a11)] [] (Xt (Bb.ok h10) (Xt trivial (Xt c20 (Xt (B6.ok h11) (Xt trivial (Xx (eq_false_of_ne_true c21))))))) ?_;refine Xq ?_;cases h;exact X7
    refine rg L 318 [(2,false)] [(1,.B a10)] [] (Xt (Bb.ok h10) (Xt trivial (Xx (eq_false_of_ne_true c20)))) ?_;refine Xq ?_;cases h;exact X7
   refine fN c19 <| Xy L 332 ?_;rcases Xp h with ⟨c22,h⟩ |⟨c22,h⟩
   ·refine tT c22 <| Xo ?_;rcases Xp h with ⟨c23,h⟩ |⟨c23,h⟩
    ·obtain ⟨a13,h13,h⟩:=bind_some h;rcases Xp h with ⟨c24,h⟩ |⟨c24,h⟩
     ·obtain ⟨a14,h14,h⟩:=bind_some h;rcases Xp h with ⟨c25,h⟩ |⟨c25,h⟩
      ·obtain ⟨g1,h⟩:=Xv h;obtain ⟨a15,h15,h⟩:=bind_some h;refine rg L 336 [(2,true),(6,true),(11,true)] [(4,.B a13),(9,.B a14),(16,.B a15)] [] (Xt (decide_eq_true c23) (Xt (Bb.ok h13) (Xt trivial (Xt c24 (Xt (B6.ok h14) (Xt trivial (Xt c25 (Xt (show (0:Int)≤0 from by decide) (Xt g1 (Xt (Bo.okR hR h15) (Xx trivial))))))))))) ?_;refine Xq ?_;cases h;exact X7
      refine rg L 336 [(2,true),(6,true),(11,false)] [(4,.B a13),(9,.B a14)] [] (Xt (decide_eq_true c23) (Xt (Bb.ok h13) (Xt trivial (Xt c24 (Xt (B6.ok h14) (Xt trivial (Xx (eq_false_of_ne_true c25)))))))) ?_;refine Xq ?_;cases h;exact X7
     refine rg L 336 [(2,true),(6,false)] [(4,.B a13)] [] (Xt (decide_eq_true c23) (Xt (Bb.ok h13) (Xt trivial (Xx (eq_false_of_ne_true c24))))) ?_;refine Xq ?_;cases h;exact X7
    refine rg L 336 [(2,false)] [] [] (Xx (decide_eq_false c23)) ?_;refine Xq ?_;cases h;exact X7
   refine fF c22 ?_;obtain ⟨o3,hp3,h⟩:=bind_some h;refine Xo (Ye (Q':=fun e S=>(e=.normal∧∃ a:Bool,S=⟨[(1,.P 31400),(3,.I (p0.Kids.length:Int)),(4,.I p0.Op),(130,.B a)],[(31400,.raw (Aj p0))]⟩∧a=o3)) ?_ ?_)
   ·clear h;replace h:=hp3;rcases Xp h with ⟨c26,h⟩ |⟨c26,h⟩
    ·refine X2 (rg L 356 [(2,true)] [] [] (Xx (decide_eq_true c26)) ⟨rfl,rfl⟩) (Xn.trans (Xn.kk [1,3,4,130] [29000]) (Xn.trans (Xn.rr [(29000,31400)]) (Xn.kp (S':=⟨[(1,.P 31400),(3,.I (p0.Kids.length:Int)),(4,.I p0.Op),(130,.B true)],[(31400,.raw (Aj p0))]⟩)))) ?_;cases h;exact ⟨rfl,_,rfl,rfl⟩
    rcases Xp h with ⟨c27,h⟩ |⟨c27,h⟩
    ·refine X2 (rg L 356 [(2,false),(6,true)] [] [] (Zb (decide_eq_false c26) (decide_eq_true c27)) ⟨rfl,rfl⟩) (Xn.trans (Xn.kk [1,3,4,130] [29000]) (Xn.trans (Xn.rr [(29000,31400)]) (Xn.kp (S':=⟨[(1,.P 31400),(3,.I (p0.Kids.length:Int)),(4,.I p0.Op),(130,.B true)],[(31400,.raw (Aj p0))]⟩)))) ?_;cases h;exact ⟨rfl,_,rfl,rfl⟩
    refine X2 (rg L 356 [(2,false),(6,false)] [] [] (Zb (decide_eq_false c26) (decide_eq_false c27)) ⟨rfl,rfl⟩) (Xn.trans (Xn.kk [1,3,4,130] [29000]) (Xn.trans (Xn.rr [(29000,31400)]) (Xn.kp (S':=⟨[(1,.P 31400),(3,.I (p0.Kids.length:Int)),(4,.I p0.Op),(130,.B (decide (p0.Op=14)))],[(31400,.raw (Aj p0))]⟩)))) ?_;cases h;exact ⟨rfl,_,rfl,rfl⟩
   ·rintro e S ⟨rfl,a,rfl,rfl⟩;rcases Xp h with ⟨c28,h⟩ |⟨c28,h⟩
    ·refine tt c28 <| Xo ?_;rcases Xp h with ⟨c29,h⟩ |⟨c29,h⟩
     ·obtain ⟨a16,h16,h⟩:=bind_some h;rcases Xp h with ⟨c30,h⟩ |⟨c30,h⟩
      ·obtain ⟨g2,h⟩:=Xv h;obtain ⟨a17,h17,h⟩:=bind_some h;refine rg L 368 [(2,true),(6,true)] [(4,.B a16),(11,.B a17)] [] (Xt (decide_eq_true c29) (Xt (Bb.ok h16) (Xt trivial (Xt c30 (Xt (show (0:Int)≤0 from by decide) (Xt g2 (Xt (Bo.okR hR h17) (Xx trivial)))))))) ?_;refine Xq ?_;cases h;exact X7
      refine rg L 368 [(2,true),(6,false)] [(4,.B a16)] [] (Xt (decide_eq_true c29) (Xt (Bb.ok h16) (Xt trivial (Xx (eq_false_of_ne_true c30))))) ?_;refine Xq ?_;cases h;exact X7
     refine rg L 368 [(2,false)] [] [] (Xx (decide_eq_false c29)) ?_;refine Xq ?_;cases h;exact X7
    refine fN c28 ?_;obtain ⟨o4,hp4,h⟩:=bind_some h;refine Xo (Ye (Q':=fun e S=>(e=.normal∧∃ b:Bool,S=⟨[(1,.P 32600),(3,.I (p0.Kids.length:Int)),(154,.B b)],[(32600,.raw (Aj p0))]⟩∧b=o4)) ?_ ?_)
    ·clear h;replace h:=hp4;rcases Xp h with ⟨c31,h⟩ |⟨c31,h⟩
     ·refine X2 (rg L 383 [(2,true)] [] [] (Xx (decide_eq_true c31)) ⟨rfl,rfl⟩) (Xn.trans (Xn.kk [1,3,154] [31400]) (Xn.trans (Xn.rr [(31400,32600)]) (Xn.kp (S':=⟨[(1,.P 32600),(3,.I (p0.Kids.length:Int)),(154,.B (decide (p0.Op≤28)))],[(32600,.raw (Aj p0))]⟩)))) ?_;cases h;exact ⟨rfl,_,rfl,rfl⟩
     refine X2 (rg L 383 [(2,false)] [] [] (Xx (decide_eq_false c31)) ⟨rfl,rfl⟩) (Xn.trans (Xn.kk [1,3,154] [31400]) (Xn.trans (Xn.rr [(31400,32600)]) (Xn.kp (S':=⟨[(1,.P 32600),(3,.I (p0.Kids.length:Int)),(154,.B false)],[(32600,.raw (Aj p0))]⟩)))) ?_;cases h;exact ⟨rfl,_,rfl,rfl⟩
    ·rintro e S ⟨rfl,b,rfl,rfl⟩;rcases Xp h with ⟨c32,h⟩ |⟨c32,h⟩
     ·refine tt c32 <| Xo ?_;rcases Xp h with ⟨c33,h⟩ |⟨c33,h⟩
      ·obtain ⟨a18,h18,h⟩:=bind_some h;rcases Xp h with ⟨c34,h⟩ |⟨c34,h⟩
       ·obtain ⟨a19,h19,h⟩:=bind_some h;refine rg L 391 [(2,true),(6,true)] [(4,.B a18),(9,.B a19)] [] (Xt (decide_eq_true c33) (Xt (Bb.ok h18) (Xt trivial (Xt c34 (Xt (C9.okR hR h19) (Xx trivial)))))) ?_;refine Xq ?_;cases h;exact X7
       refine rg L 391 [(2,true),(6,false)] [(4,.B a18)] [] (Xt (decide_eq_true c33) (Xt (Bb.ok h18) (Xt trivial (Xx (eq_false_of_ne_true c34))))) ?_;refine Xq ?_;cases h;exact X7
      refine rg L 391 [(2,false)] [] [] (Xx (decide_eq_false c33)) ?_;refine Xq ?_;cases h;exact X7
     refine fN c32 <| Xu <| Xy L 404 <| Xq ?_;cases h;exact X7
def Az.upto (K:Nat):Nat→Az
 | 0=>⟨fun _=>none,fun _=>none,fun _=>none,fun _=>none,fun _=>none,fun _=>none,fun _=>none,fun _=>none,fun _=>none,fun _=>none⟩
 | k+1=>⟨D7.F K (Az.upto K k),Dg.F K (Az.upto K k),Cm.F K (Az.upto K k),C0.F K (Az.upto K k),Dy.F K (Az.upto K k),Di.F K (Az.upto K k),Cp.F K (Az.upto K k),Cw.F K (Az.upto K k),C9.F K (Az.upto K k),Bo.F K (Az.upto K k)⟩
theorem Az.upto_ok (K:Nat):∀ k,(Az.upto K k).Ok
 | 0=>⟨fun h=>(by cases h),fun h=>(by cases h),fun h=>(by cases h),fun h=>(by cases h),fun h=>(by cases h),fun h=>(by cases h),fun h=>(by cases h),fun h=>(by cases h),fun h=>(by cases h),fun h=>(by cases h)⟩
 | k+1=>⟨fun {p0 r} h=>eo (fn:=Tryz.f64) (n:=29) (m:=100) fun Γ=>D7.body (K:=K) (Az.upto_ok K k) h,fun {p0 r} h=>eo (fn:=Tryz.f57) (n:=8) (m:=100) fun Γ=>Dg.body (K:=K) (Az.upto_ok K k) h,fun {p0 r} h=>eo (fn:=Tryz.f90) (n:=19) (m:=100) fun Γ=>Cm.body (K:=K) (Az.upto_ok K k) h,fun {p0 r} h=>eo (fn:=Tryz.f56) (n:=9) (m:=100) fun Γ=>C0.body (K:=K) (Az.upto_ok K k) h,fun {p0 r} h=>eo (fn:=Tryz.f30) (n:=9) (m:=100) fun Γ=>Dy.body (K:=K) (Az.upto_ok K k) h,fun {p0 r} h=>eo (fn:=Tryz.f57) (n:=8) (m:=100) fun Γ=>Di.body (K:=K) (Az.upto_ok K k) h,fun {p0 r} h=>eo (fn:=Tryz.f90) (n:=19) (m:=100) fun Γ=>Cp.body (K:=K) (Az.upto_ok K k) h,fun {p0 r} h=>eo (fn:=Tryz.f56) (n:=9) (m:=100) fun Γ=>Cw.body (K:=K) (Az.upto_ok K k) h,fun {p0 r} h=>eo (fn:=Tryz.f30) (n:=9) (m:=100) fun Γ=>C9.body (K:=K) (Az.upto_ok K k) h,fun {p0 r} h=>eo (fn:=Tryz.f33) (n:=172) (m:=100) fun Γ=>Bo.body (K:=K) (Az.upto_ok K k) h⟩
def D7 (K:Nat) (p0:Aa):Option Bool:=(Az.upto K K).D7 p0
theorem D7.okE {K:Nat} {p0:Aa} {r:Bool} (h:D7 K p0=some r):Xz V P 64 [.agg (Aj p0)] [] [] (.B r) []:=(Az.upto_ok K K).D7 h
theorem D7.ok {K:Nat} {p0:Aa} {r:Bool} (h:D7 K p0=some r):X6 V P 64 [.agg (Aj p0)] (.B r):=(D7.okE h).pcall (by kernel_rfl)
def Dg (K:Nat) (p0:Aa):Option Bool:=(Az.upto K K).Dg p0
theorem Dg.okE {K:Nat} {p0:Aa} {r:Bool} (h:Dg K p0=some r):Xz V P 57 [.agg (Aj p0),.cv (.pcs [.fn (.func 64) [] []] 0)] [] [] (.B r) []:=(Az.upto_ok K K).Dg h
theorem Dg.ok {K:Nat} {p0:Aa} {r:Bool} (h:Dg K p0=some r):X6 V P 57 [.agg (Aj p0),.cv (.pcs [.fn (.func 64) [] []] 0)] (.B r):=(Dg.okE h).pcall (by kernel_rfl)
def Cm (K:Nat) (p0:List Aa):Option Int:=(Az.upto K K).Cm p0
theorem Cm.okE {K:Nat} {p0:List Aa} {r:Int} (h:Cm K p0=some r):Xz V P 90 [.cv (.ro .Ae p0),.cv (.fn (.func 57) [] [.pcs [.fn (.func 64) [] []] 0])] [] [] (.I r) []:=(Az.upto_ok K K).Cm h
theorem Cm.ok {K:Nat} {p0:List Aa} {r:Int} (h:Cm K p0=some r):X6 V P 90 [.cv (.ro .Ae p0),.cv (.fn (.func 57) [] [.pcs [.fn (.func 64) [] []] 0])] (.I r):=(Cm.okE h).pcall (by kernel_rfl)
def C0 (K:Nat) (p0:List Aa):Option Bool:=(Az.upto K K).C0 p0
theorem C0.okE {K:Nat} {p0:List Aa} {r:Bool} (h:C0 K p0=some r):Xz V P 56 [.cv (.ro .Ae p0),.cv (.fn (.func 57) [] [.pcs [.fn (.func 64) [] []] 0])] [] [] (.B r) []:=(Az.upto_ok K K).C0 h
theorem C0.ok {K:Nat} {p0:List Aa} {r:Bool} (h:C0 K p0=some r):X6 V P 56 [.cv (.ro .Ae p0),.cv (.fn (.func 57) [] [.pcs [.fn (.func 64) [] []] 0])] (.B r):=(C0.okE h).pcall (by kernel_rfl)
def Dy (K:Nat) (p0:List Aa):Option Bool:=(Az.upto K K).Dy p0
theorem Dy.okE {K:Nat} {p0:List Aa} {r:Bool} (h:Dy K p0=some r):Xz V P 30 [.cv (.ro .Ae p0),.cv (.fn (.func 64) [] [])] [] [] (.B r) []:=(Az.upto_ok K K).Dy h
theorem Dy.ok {K:Nat} {p0:List Aa} {r:Bool} (h:Dy K p0=some r):X6 V P 30 [.cv (.ro .Ae p0),.cv (.fn (.func 64) [] [])] (.B r):=(Dy.okE h).pcall (by kernel_rfl)
def Di (K:Nat) (p0:Aa):Option Bool:=(Az.upto K K).Di p0
theorem Di.okE {K:Nat} {p0:Aa} {r:Bool} (h:Di K p0=some r):Xz V P 57 [.agg (Aj p0),.cv (.pcs [.fn (.func 33) [] []] 0)] [] [] (.B r) []:=(Az.upto_ok K K).Di h
theorem Di.ok {K:Nat} {p0:Aa} {r:Bool} (h:Di K p0=some r):X6 V P 57 [.agg (Aj p0),.cv (.pcs [.fn (.func 33) [] []] 0)] (.B r):=(Di.okE h).pcall (by kernel_rfl)
def Cp (K:Nat) (p0:List Aa):Option Int:=(Az.upto K K).Cp p0
theorem Cp.okE {K:Nat} {p0:List Aa} {r:Int} (h:Cp K p0=some r):Xz V P 90 [.cv (.ro .Ae p0),.cv (.fn (.func 57) [] [.pcs [.fn (.func 33) [] []] 0])] [] [] (.I r) []:=(Az.upto_ok K K).Cp h
theorem Cp.ok {K:Nat} {p0:List Aa} {r:Int} (h:Cp K p0=some r):X6 V P 90 [.cv (.ro .Ae p0),.cv (.fn (.func 57) [] [.pcs [.fn (.func 33) [] []] 0])] (.I r):=(Cp.okE h).pcall (by kernel_rfl)
def Cw (K:Nat) (p0:List Aa):Option Bool:=(Az.upto K K).Cw p0
theorem Cw.okE {K:Nat} {p0:List Aa} {r:Bool} (h:Cw K p0=some r):Xz V P 56 [.cv (.ro .Ae p0),.cv (.fn (.func 57) [] [.pcs [.fn (.func 33) [] []] 0])] [] [] (.B r) []:=(Az.upto_ok K K).Cw h
theorem Cw.ok {K:Nat} {p0:List Aa} {r:Bool} (h:Cw K p0=some r):X6 V P 56 [.cv (.ro .Ae p0),.cv (.fn (.func 57) [] [.pcs [.fn (.func 33) [] []] 0])] (.B r):=(Cw.okE h).pcall (by kernel_rfl)
def C9 (K:Nat) (p0:List Aa):Option Bool:=(Az.upto K K).C9 p0
theorem C9.okE {K:Nat} {p0:List Aa} {r:Bool} (h:C9 K p0=some r):Xz V P 30 [.cv (.ro .Ae p0),.cv (.fn (.func 33) [] [])] [] [] (.B r) []:=(Az.upto_ok K K).C9 h
theorem C9.ok {K:Nat} {p0:List Aa} {r:Bool} (h:C9 K p0=some r):X6 V P 30 [.cv (.ro .Ae p0),.cv (.fn (.func 33) [] [])] (.B r):=(C9.okE h).pcall (by kernel_rfl)
def Bo (K:Nat) (p0:Aa):Option Bool:=(Az.upto K K).Bo p0
theorem Bo.okE {K:Nat} {p0:Aa} {r:Bool} (h:Bo K p0=some r):Xz V P 33 [.agg (Aj p0)] [] [] (.B r) []:=(Az.upto_ok K K).Bo h
theorem Bo.ok {K:Nat} {p0:Aa} {r:Bool} (h:Bo K p0=some r):X6 V P 33 [.agg (Aj p0)] (.B r):=(Bo.okE h).pcall (by kernel_rfl)
def E1 (K:Nat) (p0:Aa):Option Bool:=(Option.bind (((if p0.Op=1 then some (decide (p0.Op=1)) else (if p0.Op=2 then some (decide (p0.Op=2)) else (if p0.Op=3 then some (decide (p0.Op=3)) else (if p0.Op=4 then some (decide (p0.Op=4)) else some (decide (p0.Op=5))))))):Option Bool) (fun a=>(if a=true then (Option.bind (Bo K p0) (fun a1=>some a1)) else (if p0.Op=14 then (Option.bind (Bo K p0) (fun a2=>(if a2=true then (if (0:Int) <(p0.Kids.length:Int) then some (decide ((p0.Kids.getD (Int.toNat 0) A9).Op=4)) else none) else some false))) else some false))))
theorem E1.body {Γ:Yg} {K:Nat} {p0:Aa} {r:Bool} (h:E1 K p0=some r):Yc V P 25 100 Γ (Tryz.f59.body.getD .skip) (X1 P V Tryz.f59 (.B r) []) ⟨X0 0 [.agg (Aj p0)],[]⟩:=by
 unfold E1 at h;refine Xy L 200 <| Xo <| Xy L 203 <| Xw ?_;obtain ⟨o1,hp1,h⟩:=bind_some h;refine Xo (Ye (Q':=fun e S=>(e=.normal∧∃ a:Bool,S=⟨[(1,.P 21400),(4,.I p0.Op),(5,.B a)],[(21400,.raw (Aj p0))]⟩∧a=o1)) ?_ ?_)
 ·clear h;replace h:=hp1;refine Xy L 206 ?_;rcases Xp h with ⟨c1,h⟩ |⟨c1,h⟩
  ·refine tT c1 <| Xr (Xn.trans (Xn.kk [1,4,5] [200]) (Xn.rr [(200,21400)])) ?_;refine sk (S':=⟨[(1,.P 21400),(4,.I p0.Op),(5,.B (decide (p0.Op=1)))],[(21400,.raw (Aj p0))]⟩) ?_;cases h;exact ⟨rfl,_,rfl,rfl⟩
  refine fF c1 <| Xy L 209 ?_;rcases Xp h with ⟨c2,h⟩ |⟨c2,h⟩
  ·refine tT c2 <| Xr (Xn.trans (Xn.kk [1,4,5] [200]) (Xn.rr [(200,21400)])) ?_;refine sk (S':=⟨[(1,.P 21400),(4,.I p0.Op),(5,.B (decide (p0.Op=2)))],[(21400,.raw (Aj p0))]⟩) ?_;cases h;exact ⟨rfl,_,rfl,rfl⟩
  refine fF c2 <| Xy L 212 ?_;rcases Xp h with ⟨c3,h⟩ |⟨c3,h⟩
  ·refine tT c3 <| Xr (Xn.trans (Xn.kk [1,4,5] [200]) (Xn.rr [(200,21400)])) ?_;refine sk (S':=⟨[(1,.P 21400),(4,.I p0.Op),(5,.B (decide (p0.Op=3)))],[(21400,.raw (Aj p0))]⟩) ?_;cases h;exact ⟨rfl,_,rfl,rfl⟩
  refine fF c3 <| Xy L 215 ?_;rcases Xp h with ⟨c4,h⟩ |⟨c4,h⟩
  ·refine tT c4 <| Xr (Xn.trans (Xn.kk [1,4,5] [200]) (Xn.rr [(200,21400)])) ?_;refine sk (S':=⟨[(1,.P 21400),(4,.I p0.Op),(5,.B (decide (p0.Op=4)))],[(21400,.raw (Aj p0))]⟩) ?_;cases h;exact ⟨rfl,_,rfl,rfl⟩
  refine fF c4 <| X2 (rg0 L 218 ⟨rfl,rfl⟩) (Xn.trans (Xn.kk [1,4,5] [200]) (Xn.trans (Xn.rr [(200,21400)]) (Xn.kp (S':=⟨[(1,.P 21400),(4,.I p0.Op),(5,.B (decide (p0.Op=5)))],[(21400,.raw (Aj p0))]⟩)))) ?_;cases h;exact ⟨rfl,_,rfl,rfl⟩
 ·rintro e S ⟨rfl,a,rfl,rfl⟩;rcases Xp h with ⟨c5,h⟩ |⟨c5,h⟩
  ·refine tt c5 <| Xo ?_;obtain ⟨a1,h1,h⟩:=bind_some h;refine rg L 221 [] [(1,.B a1)] [] (Yw (Bo.ok h1)) ?_;refine Xq ?_;cases h;exact X7
  refine fN c5 <| Xy L 225 ?_;rcases Xp h with ⟨c6,h⟩ |⟨c6,h⟩
  ·refine tT c6 <| Xo ?_;obtain ⟨a2,h2,h⟩:=bind_some h;rcases Xp h with ⟨c7,h⟩ |⟨c7,h⟩
   ·obtain ⟨g1,h⟩:=Xv h;refine rg L 228 [(2,true)] [(1,.B a2)] [] (Xt (Bo.ok h2) (Xt trivial (Xt c7 (Xt (show (0:Int)≤0 from by decide) (Xx g1))))) ?_;refine Xq ?_;cases h;exact X7
   refine rg L 228 [(2,false)] [(1,.B a2)] [] (Xt (Bo.ok h2) (Xt trivial (Xx (eq_false_of_ne_true c7)))) ?_;refine Xq ?_;cases h;exact X7
  refine fF c6 <| Xu <| Xy L 240 <| Xq ?_;cases h;exact X7
theorem E1.ok {K:Nat} {p0:Aa} {r:Bool} (h:E1 K p0=some r):X6 V P 59 [.agg (Aj p0)] (.B r):=Xz.pcall (eo (fn:=Tryz.f59) (n:=25) (m:=100) fun Γ=>E1.body h) (by kernel_rfl)
structure Am where
 El:(List Aa)→Option Bool
 Dj:Aa→Option Bool
 Co:(List Aa)→Option Int
 Cx:(List Aa)→Option Bool
 Ds:(List Aa)→Option Bool
 D2:Aa→Option Bool
 Dl:Aa→Option Bool
 Cn:(List Aa)→Option Int
 Cy:(List Aa)→Option Bool
 Dw:(List Aa)→Option Bool
 Dx:(List Aa)→Option Bool
 C4:Aa→Option Bool
 Dh:Aa→Option Bool
 Cq:(List Aa)→Option Int
 Cz:(List Aa)→Option Bool
 D1:(List Aa)→Option Bool
 Bq:Aa→Option Bool
structure Am.Ok (R:Am):Prop where
 El:∀ {p0:List Aa} {r:Bool},R.El p0=some r→Xz V P 120 [.cv (.ro .Ae p0)] [] [] (.B r) []
 Dj:∀ {p0:Aa} {r:Bool},R.Dj p0=some r→Xz V P 57 [.agg (Aj p0),.cv (.pcs [.fn (.func 60) [] []] 0)] [] [] (.B r) []
 Co:∀ {p0:List Aa} {r:Int},R.Co p0=some r→Xz V P 90 [.cv (.ro .Ae p0),.cv (.fn (.func 57) [] [.pcs [.fn (.func 60) [] []] 0])] [] [] (.I r) []
 Cx:∀ {p0:List Aa} {r:Bool},R.Cx p0=some r→Xz V P 56 [.cv (.ro .Ae p0),.cv (.fn (.func 57) [] [.pcs [.fn (.func 60) [] []] 0])] [] [] (.B r) []
 Ds:∀ {p0:List Aa} {r:Bool},R.Ds p0=some r→Xz V P 30 [.cv (.ro .Ae p0),.cv (.fn (.func 60) [] [])] [] [] (.B r) []
 D2:∀ {p0:Aa} {r:Bool},R.D2 p0=some r→Xz V P 136 [.agg (Aj p0)] [] [] (.B r) []
 Dl:∀ {p0:Aa} {r:Bool},R.Dl p0=some r→Xz V P 57 [.agg (Aj p0),.cv (.pcs [.fn (.func 136) [] []] 0)] [] [] (.B r) []
 Cn:∀ {p0:List Aa} {r:Int},R.Cn p0=some r→Xz V P 90 [.cv (.ro .Ae p0),.cv (.fn (.func 57) [] [.pcs [.fn (.func 136) [] []] 0])] [] [] (.I r) []
 Cy:∀ {p0:List Aa} {r:Bool},R.Cy p0=some r→Xz V P 56 [.cv (.ro .Ae p0),.cv (.fn (.func 57) [] [.pcs [.fn (.func 136) [] []] 0])] [] [] (.B r) []
 Dw:∀ {p0:List Aa} {r:Bool},R.Dw p0=some r→Xz V P 30 [.cv (.ro .Ae p0),.cv (.fn (.func 136) [] [])] [] [] (.B r) []
 Dx:∀ {p0:List Aa} {r:Bool},R.Dx p0=some r→Xz V P 121 [.cv (.ro .Ae p0)] [] [] (.B r) []
 C4:∀ {p0:Aa} {r:Bool},R.C4 p0=some r→Xz V P 92 [.agg (Aj p0)] [] [] (.B r) []
 Dh:∀ {p0:Aa} {r:Bool},R.Dh p0=some r→Xz V P 57 [.agg (Aj p0),.cv (.pcs [.fn (.func 92) [] []] 0)] [] [] (.B r) []
 Cq:∀ {p0:List Aa} {r:Int},R.Cq p0=some r→Xz V P 90 [.cv (.ro .Ae p0),.cv (.fn (.func 57) [] [.pcs [.fn (.func 92) [] []] 0])] [] [] (.I r) []
 Cz:∀ {p0:List Aa} {r:Bool},R.Cz p0=some r→Xz V P 56 [.cv (.ro .Ae p0),.cv (.fn (.func 57) [] [.pcs [.fn (.func 92) [] []] 0])] [] [] (.B r) []
 D1:∀ {p0:List Aa} {r:Bool},R.D1 p0=some r→Xz V P 30 [.cv (.ro .Ae p0),.cv (.fn (.func 92) [] [])] [] [] (.B r) []
 Bq:∀ {p0:Aa} {r:Bool},R.Bq p0=some r→Xz V P 60 [.agg (Aj p0)] [] [] (.B r) []
theorem El.okR {R:Am} (hR:R.Ok) {p0:List Aa} {r:Bool} (h:R.El p0=some r):X6 V P 120 [.cv (.ro .Ae p0)] (.B r):=(hR.El h).pcall (by kernel_rfl)
theorem Dj.okR {R:Am} (hR:R.Ok) {p0:Aa} {r:Bool} (h:R.Dj p0=some r):X6 V P 57 [.agg (Aj p0),.cv (.pcs [.fn (.func 60) [] []] 0)] (.B r):=(hR.Dj h).pcall (by kernel_rfl)
theorem Co.okR {R:Am} (hR:R.Ok) {p0:List Aa} {r:Int} (h:R.Co p0=some r):X6 V P 90 [.cv (.ro .Ae p0),.cv (.fn (.func 57) [] [.pcs [.fn (.func 60) [] []] 0])] (.I r):=(hR.Co h).pcall (by kernel_rfl)
theorem Cx.okR {R:Am} (hR:R.Ok) {p0:List Aa} {r:Bool} (h:R.Cx p0=some r):X6 V P 56 [.cv (.ro .Ae p0),.cv (.fn (.func 57) [] [.pcs [.fn (.func 60) [] []] 0])] (.B r):=(hR.Cx h).pcall (by kernel_rfl)
theorem Ds.okR {R:Am} (hR:R.Ok) {p0:List Aa} {r:Bool} (h:R.Ds p0=some r):X6 V P 30 [.cv (.ro .Ae p0),.cv (.fn (.func 60) [] [])] (.B r):=(hR.Ds h).pcall (by kernel_rfl)
theorem D2.okR {R:Am} (hR:R.Ok) {p0:Aa} {r:Bool} (h:R.D2 p0=some r):X6 V P 136 [.agg (Aj p0)] (.B r):=(hR.D2 h).pcall (by kernel_rfl)
theorem Dl.okR {R:Am} (hR:R.Ok) {p0:Aa} {r:Bool} (h:R.Dl p0=some r):X6 V P 57 [.agg (Aj p0),.cv (.pcs [.fn (.func 136) [] []] 0)] (.B r):=(hR.Dl h).pcall (by kernel_rfl)
theorem Cn.okR {R:Am} (hR:R.Ok) {p0:List Aa} {r:Int} (h:R.Cn p0=some r):X6 V P 90 [.cv (.ro .Ae p0),.cv (.fn (.func 57) [] [.pcs [.fn (.func 136) [] []] 0])] (.I r):=(hR.Cn h).pcall (by kernel_rfl)
theorem Cy.okR {R:Am} (hR:R.Ok) {p0:List Aa} {r:Bool} (h:R.Cy p0=some r):X6 V P 56 [.cv (.ro .Ae p0),.cv (.fn (.func 57) [] [.pcs [.fn (.func 136) [] []] 0])] (.B r):=(hR.Cy h).pcall (by kernel_rfl)
theorem Dw.okR {R:Am} (hR:R.Ok) {p0:List Aa} {r:Bool} (h:R.Dw p0=some r):X6 V P 30 [.cv (.ro .Ae p0),.cv (.fn (.func 136) [] [])] (.B r):=(hR.Dw h).pcall (by kernel_rfl)
theorem Dx.okR {R:Am} (hR:R.Ok) {p0:List Aa} {r:Bool} (h:R.Dx p0=some r):X6 V P 121 [.cv (.ro .Ae p0)] (.B r):=(hR.Dx h).pcall (by kernel_rfl)
theorem C4.okR {R:Am} (hR:R.Ok) {p0:Aa} {r:Bool} (h:R.C4 p0=some r):X6 V P 92 [.agg (Aj p0)] (.B r):=(hR.C4 h).pcall (by kernel_rfl)
theorem Dh.okR {R:Am} (hR:R.Ok) {p0:Aa} {r:Bool} (h:R.Dh p0=some r):X6 V P 57 [.agg (Aj p0),.cv (.pcs [.fn (.func 92) [] []] 0)] (.B r):=(hR.Dh h).pcall (by kernel_rfl)
theorem Cq.okR {R:Am} (hR:R.Ok) {p0:List Aa} {r:Int} (h:R.Cq p0=some r):X6 V P 90 [.cv (.ro .Ae p0),.cv (.fn (.func 57) [] [.pcs [.fn (.func 92) [] []] 0])] (.I r):=(hR.Cq h).pcall (by kernel_rfl)
theorem Cz.okR {R:Am} (hR:R.Ok) {p0:List Aa} {r:Bool} (h:R.Cz p0=some r):X6 V P 56 [.cv (.ro .Ae p0),.cv (.fn (.func 57) [] [.pcs [.fn (.func 92) [] []] 0])] (.B r):=(hR.Cz h).pcall (by kernel_rfl)
theorem D1.okR {R:Am} (hR:R.Ok) {p0:List Aa} {r:Bool} (h:R.D1 p0=some r):X6 V P 30 [.cv (.ro .Ae p0),.cv (.fn (.func 92) [] [])] (.B r):=(hR.D1 h).pcall (by kernel_rfl)
theorem Bq.okR {R:Am} (hR:R.Ok) {p0:Aa} {r:Bool} (h:R.Bq p0=some r):X6 V P 60 [.agg (Aj p0)] (.B r):=(hR.Bq h).pcall (by kernel_rfl)
def El.F (K:Nat) (R:Am) (p0:List Aa):Option Bool:=(if (p0.length:Int) < 2 then some false else (if (p0.length:Int) > 3 then some false else (if (0:Int) <(p0.length:Int) then (Option.bind (Bo K (p0.getD (Int.toNat 0) A9)) (fun a1=>(if a1=true then (if (1:Int) <(p0.length:Int) then (Option.bind (R.Bq (p0.getD (Int.toNat 1) A9)) (fun a2=>(if a2=true then (if (p0.length:Int)=2 then some true else (if (2:Int) <(p0.length:Int) then (Option.bind (R.Bq (p0.getD (Int.toNat 2) A9)) (fun a3=>(if a3=true then some true else (if (p0.getD (Int.toNat 2) A9).Op=42 then (Option.bind (R.C4 (p0.getD (Int.toNat 2) A9)) (fun a4=>some a4)) else some false)))) else none)) else some false))) else none) else some false))) else none)))
theorem El.body {Γ:Yg} {K:Nat} {R:Am} (hR:R.Ok) {p0:List Aa} {r:Bool} (h:El.F K R p0=some r):Yc V P 47 100 Γ (Tryz.f120.body.getD .skip) (X1 P V Tryz.f120 (.B r) []) ⟨X0 0 [.cv (.ro .Ae p0)],[]⟩:=by
 unfold El.F at h;refine Xy L 200 <| Xo <| Xo ?_;rcases Xp h with ⟨c1,h⟩ |⟨c1,h⟩
 ·refine rg L 202 [(3,true)] [] [] (Xx (decide_eq_true c1)) ?_;refine tt (b:=true) (rfl) ?_;refine Xy L 225 <| Xq ?_;cases h;exact X7
 rcases Xp h with ⟨c2,h⟩ |⟨c2,h⟩
 ·refine rg L 202 [(3,false),(8,true)] [] [] (Zb (decide_eq_false c1) (decide_eq_true c2)) ?_;refine tt (b:=true) (rfl) ?_;refine Xy L 225 <| Xq ?_;cases h;exact X7
 obtain ⟨g1,h⟩:=Xv h;obtain ⟨a1,h1,h⟩:=bind_some h;rcases Xp h with ⟨c3,h⟩ |⟨c3,h⟩
 ·obtain ⟨g2,h⟩:=Xv h;obtain ⟨a2,h2,h⟩:=bind_some h;refine rg L 202 [(3,false),(8,false),(15,false)] [(12,.B a1),(19,.B a2)] [] (Xt (decide_eq_false c1) (Xt (decide_eq_false c2) (Xt (show (0:Int)≤0 from by decide) (Xt g1 (Xt (Bo.ok h1) (Xt trivial (Xt (show (!a1)=false from congrArg Bool.not (c3)) (Xt (show (0:Int)≤1 from by decide) (Xt g2 (Xt (Bq.okR hR h2) (Xx trivial))))))))))) ?_;rcases Xp h with ⟨c4,h⟩ |⟨c4,h⟩
  ·refine ff (b:=(!a2)) (congrArg Bool.not (c4)) ?_;refine Xu <| Xo ?_;rcases Xp h with ⟨c5,h⟩ |⟨c5,h⟩
   ·refine rg L 227 [(3,true)] [] [] (Xx (decide_eq_true c5)) ?_;refine Xq ?_;cases h;exact X7
   obtain ⟨g3,h⟩:=Xv h;obtain ⟨a3,h3,h⟩:=bind_some h;rcases Xp h with ⟨c6,h⟩ |⟨c6,h⟩
   ·refine rg L 227 [(3,false),(9,true)] [(7,.B a3)] [] (Xt (decide_eq_false c5) (Xt (show (0:Int)≤2 from by decide) (Xt g3 (Xt (Bq.okR hR h3) (Xt trivial (Xx c6)))))) ?_;refine Xq ?_;cases h;exact X7
   rcases Xp h with ⟨c7,h⟩ |⟨c7,h⟩
   ·obtain ⟨a4,h4,h⟩:=bind_some h;refine rg L 227 [(3,false),(9,false),(15,true)] [(7,.B a3),(19,.B a4)] [] (Xt (decide_eq_false c5) (Xt (show (0:Int)≤2 from by decide) (Xt g3 (Xt (Bq.okR hR h3) (Xt trivial (Xt (eq_false_of_ne_true c6) (Xt (show (0:Int)≤2 from by decide) (Xt g3 (Xt (decide_eq_true c7) (Xt (show (0:Int)≤2 from by decide) (Xt g3 (Xt (C4.okR hR h4) (Xx trivial))))))))))))) ?_;refine Xq ?_;cases h;exact X7
   refine rg L 227 [(3,false),(9,false),(15,false)] [(7,.B a3)] [] (Xt (decide_eq_false c5) (Xt (show (0:Int)≤2 from by decide) (Xt g3 (Xt (Bq.okR hR h3) (Xt trivial (Xt (eq_false_of_ne_true c6) (Xt (show (0:Int)≤2 from by decide) (Xt g3 (Xx (decide_eq_false c7)))))))))) ?_;refine Xq ?_;cases h;exact X7
  refine tt (b:=(!a2)) (congrArg Bool.not (eq_false_of_ne_true c4)) ?_;refine Xy L 225 <| Xq ?_;cases h;exact X7
 refine rg L 202 [(3,false),(8,false),(15,true)] [(12,.B a1)] [] (Xt (decide_eq_false c1) (Xt (decide_eq_false c2) (Xt (show (0:Int)≤0 from by decide) (Xt g1 (Xt (Bo.ok h1) (Xt trivial (Xx (show (!a1)=true from congrArg Bool.not (eq_false_of_ne_true c3))))))))) ?_;refine tt (b:=true) (rfl) ?_;refine Xy L 225 <| Xq ?_;cases h;exact X7
def Dj.F (K:Nat) (R:Am) (p0:Aa):Option Bool:=(Option.bind (R.Bq p0) (fun a1=>some (!a1)))
theorem Dj.body {Γ:Yg} {K:Nat} {R:Am} (hR:R.Ok) {p0:Aa} {r:Bool} (h:Dj.F K R p0=some r):Yc V P 8 100 Γ (Tryz.f57.body.getD .skip) (X1 P V Tryz.f57 (.B r) []) ⟨X0 0 [.agg (Aj p0),.cv (.pcs [.fn (.func 60) [] []] 0)],[]⟩:=by
 unfold Dj.F at h;refine Xy L 200 <| Xo ?_;obtain ⟨a1,h1,h⟩:=bind_some h;refine rg L 203 [] [(2,.B a1)] [] (Yw (Bq.okR hR h1)) ?_;refine Xq ?_;cases h;exact X7
def Co.l7 (K:Nat) (R:Am) (p0:List Aa):Nat→Int→Option (X3 Int Unit)
 | 0,_=>none
 | k+1,a=>(if a <(p0.length:Int) then (if (0:Int)≤a∧(a:Int) <(p0.length:Int) then (Option.bind (R.Dj (p0.getD (Int.toNat a) A9)) (fun a1=>(if a1=true then some (X3.done a) else Co.l7 K R p0 k (IntKind.i64.wrap (a+1))))) else none) else some (X3.go ()))
def Co.F (K:Nat) (R:Am) (p0:List Aa):Option Int:=(obind (Co.l7 K R p0 K 0:Option (X3 Int Unit)) (fun r=>r) (fun _=>some (-1)))
theorem Co.body {Γ:Yg} {K:Nat} {R:Am} (hR:R.Ok) {p0:List Aa} {r:Int} (h:Co.F K R p0=some r):Yc V P 19 100 Γ (Tryz.f90.body.getD .skip) (X1 P V Tryz.f90 (.I r) []) ⟨X0 0 [.cv (.ro .Ae p0),.cv (.fn (.func 57) [] [.pcs [.fn (.func 60) [] []] 0])],[]⟩:=by
 unfold Co.F at h;refine Xy L 200 <| Xo <| Xy L 202 <| Xw <| kp (S':=⟨[(0,.cv (.ro .Ae p0)),(1,.cv (.fn (.func 57) [] [.pcs [.fn (.func 60) [] []] 0])),(7,.I (p0.length:Int)),(8,.I 0)],[]⟩) ?_;obtain ⟨o1,hp1,h⟩:=X9 h;refine X4 (Q':=fun e S=>(e=.exit 0∧S=⟨[],[]⟩∧X3.go ()=o1)∨(e=.ret∧∃ a,X3.done a=o1∧X1 P V Tryz.f90 (.I a) [] .ret S)) (Yb (fun k S=>∃ b:Int,S=⟨[(0,.cv (.ro .Ae p0)),(1,.cv (.fn (.func 57) [] [.pcs [.fn (.func 60) [] []] 0])),(7,.I (p0.length:Int)),(8,.I b)],[]⟩∧Co.l7 K R p0 k b=some o1) ?_ ⟨_,rfl,hp1⟩) ?_
 ·clear h hp1;intro k S hS;obtain ⟨b,rfl,h⟩:=hS;cases k with
  | zero=>cases h
  | succ k =>
  unfold Co.l7 at h;refine Xy L 206 <| Xo ?_;rcases Xp h with ⟨c1,h⟩ |⟨c1,h⟩
  ·refine tT c1 <| Xu <| Xo <| Xw <| Xy L 208 <| Xo ?_;obtain ⟨g1,h⟩:=Xv h;obtain ⟨a1,h1,h⟩:=bind_some h;refine rg L 211 [] [(5,.B a1)] [] (Xt g1.1 (Xt g1.2 (Xt (Dj.okR hR h1) (Xx trivial)))) ?_;rcases Xp h with ⟨c2,h⟩ |⟨c2,h⟩
   ·refine tt c2 <| Xy L 218 <| Xq ?_;cases h;exact .inr ⟨rfl,_,rfl,X7⟩
   refine fN c2 <| Xu <| ar0 L 221 [] [] [] (S':=⟨[(0,.cv (.ro .Ae p0)),(1,.cv (.fn (.func 57) [] [.pcs [.fn (.func 60) [] []] 0])),(7,.I (p0.length:Int)),(8,.I (IntKind.i64.wrap (b+1)))],[]⟩) ?_;exact ⟨k,Nat.lt_succ_self k,_,rfl,h⟩
  refine fF c1 <| ex (S':=⟨[],[]⟩) ?_;cases h;exact .inl ⟨rfl,rfl,rfl⟩
 ·rintro e S (⟨rfl,rfl,rfl⟩ |⟨rfl,a,rfl,hr⟩)
  ·rcases h with ⟨_,e1,h⟩ |⟨_,e1,h⟩
   ·cases e1
   ·have e2:=X3.go.inj e1;subst e2;refine ⟨_,Xn.refl,?_⟩;refine Xy L 224 <| Xq ?_;cases h;exact X7
  ·rcases h with ⟨_,e1,h⟩ |⟨_,e1,h⟩
   ·have e2:=X3.done.inj e1;subst e2;subst h;exact ⟨_,Xn.refl,hr⟩
   ·cases e1
def Cx.F (K:Nat) (R:Am) (p0:List Aa):Option Bool:=(Option.bind (R.Co p0) (fun a1=>some (decide (a1≥0))))
theorem Cx.body {Γ:Yg} {K:Nat} {R:Am} (hR:R.Ok) {p0:List Aa} {r:Bool} (h:Cx.F K R p0=some r):Yc V P 9 100 Γ (Tryz.f56.body.getD .skip) (X1 P V Tryz.f56 (.B r) []) ⟨X0 0 [.cv (.ro .Ae p0),.cv (.fn (.func 57) [] [.pcs [.fn (.func 60) [] []] 0])],[]⟩:=by
 unfold Cx.F at h;refine Xy L 200 <| Xo ?_;obtain ⟨a1,h1,h⟩:=bind_some h;refine rg L 202 [] [(2,.I a1)] [] (Yw (Co.okR hR h1)) ?_;refine Xq ?_;cases h;exact X7
def Ds.F (K:Nat) (R:Am) (p0:List Aa):Option Bool:=(Option.bind (R.Cx p0) (fun a1=>some (!a1)))
theorem Ds.body {Γ:Yg} {K:Nat} {R:Am} (hR:R.Ok) {p0:List Aa} {r:Bool} (h:Ds.F K R p0=some r):Yc V P 9 100 Γ (Tryz.f30.body.getD .skip) (X1 P V Tryz.f30 (.B r) []) ⟨X0 0 [.cv (.ro .Ae p0),.cv (.fn (.func 60) [] [])],[]⟩:=by
 unfold Ds.F at h;refine Xy L 200 <| Xo ?_;obtain ⟨a1,h1,h⟩:=bind_some h;refine rg L 203 [] [(2,.B a1)] [] (Yw (Cx.okR hR h1)) ?_;refine Xq ?_;cases h;exact X7
end Go.Proofs.YtifjagfmfkemmaaGreatDoor
