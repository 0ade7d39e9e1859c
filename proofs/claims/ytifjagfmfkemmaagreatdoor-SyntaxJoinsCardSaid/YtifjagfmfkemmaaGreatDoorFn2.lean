import Derived.Test.YtifjagfmfkemmaaGreatDoorFn1
set_option linter.unusedVariables false
set_option maxHeartbeats 0
namespace Go.Proofs.YtifjagfmfkemmaaGreatDoor
open Eng
def Cl.l15 (K:Nat):Nat→(List Aq)→Int→(List Aa)→Option (T5 (((List Aa)×Ab) ⊕ Int) ((List Aq)×Int×(List Aa)))
 | 0,_,_,_=>none
 | k+1,c,d,b=>(Option.bind (Ak K ([44]:List UInt8) (⟨c,d⟩:Ab)) (fun (g,e)=>(if g=true then (Option.bind (Bk K e) (fun a4=>match a4 with |(Sum.inl a4)=>some (T5.done (Sum.inr a4)) |(Sum.inr (a,f))=>(if (b.length+([(⟨a.Op,a.Name,a.Int,a.Text,a.Kids⟩:Aa)]:List Aa).length) * 72≤140737488355328 then Cl.l15 K k f.l f.i (b++([(⟨a.Op,a.Name,a.Int,a.Text,a.Kids⟩:Aa)]:List Aa)) else none))) else some (T5.go (e.l,e.i,b)))))
def Cl (K:Nat) (p0:List UInt8) (p1:Ab):Option (((List Aa)×Ab) ⊕ Int):=(Option.bind (Ak K p0 p1) (fun (g,e)=>(if g=true then some (Sum.inl (([]:List Aa),e)) else (Option.bind (Bk K e) (fun a2=>match a2 with |(Sum.inl a2)=>some (Sum.inr a2) |(Sum.inr (a,f))=>(obind (Cl.l15 K K f.l f.i ([(⟨a.Op,a.Name,a.Int,a.Text,a.Kids⟩:Aa)]:List Aa):Option (T5 (((List Aa)×Ab) ⊕ Int) ((List Aq)×Int×(List Aa)))) (fun r=>r) (fun (b,c,d)=>(Option.bind (Ao K p0 (⟨b,c⟩:Ab)) (fun a5=>match a5 with |(Sum.inl a5)=>some (Sum.inl (d,a5)) |(Sum.inr a5)=>some (Sum.inr a5))))))))))
def Cl.rep (p0:List UInt8) (p1:Ab):((List Aa)×Ab) ⊕ Int→Uu T
 |(Sum.inl (v0,v1))=>.ret (.cv (.ro .Af v0))
 |(Sum.inr v0)=>.pan (Ui 49 v0)
def Cl.post (p0:List UInt8) (p1:Ab):((List Aa)×Ab) ⊕ Int→List (Nat×T9 T)
 |(Sum.inl (v0,v1))=>[(0,.raw [.ro .Ap v1.l,.I v1.i])]
 |(Sum.inr v0)=>[]
theorem Cl.body {Γ:Ud} {K:Nat} {p0:List UInt8} {p1:Ab} {r:((List Aa)×Ab) ⊕ Int} (h:Cl K p0 p1=some r):Ub V P 25 100 Γ (Tryz.f48.body.getD .skip) (Uh P V Tryz.f48 (Cl.rep p0 p1 r) (Cl.post p0 p1 r)) ⟨Tx 0 [.P 0,.cv (.str p0),.cv (.fn (.func 49) [.P 0] [])],[(0,.raw (Ae p1))]⟩:=by
 unfold Cl at h;refine Tw L 200 <| Tm <| Tm ?_;obtain ⟨⟨p,q⟩,h1,h⟩:=bind_some h;dsimp only at h;refine rg L 202 [] [] [(2,(T0 (.B p) [(0,.raw (Ae q))]))] (Tu (Ak.okE h1)) ?_;rcases Tn h with ⟨c1,h⟩ |⟨c1,h⟩
 ·refine tt c1 <| Tw L 206 <| To ?_;cases h;exact Vj
 refine fN c1 <| Tr <| Tm ?_;obtain ⟨a2,h2,h⟩:=bind_some h;rcases a2 with a2 | a2
 ·dsimp only at h;refine qn L 100208 [] [] [] 1 (T0 (.tup []) []) (Ui 49 a2) (Tu (Bk.okE h2)) ?_;cases h;exact rfl
 ·obtain ⟨j,o⟩:=a2;dsimp only at h;refine rg L 100208 [] [] [(1,(T0 (.agg (Ah j)) [(0,.raw (Ae o))]))] (Tu (Bk.okE h2)) ?_;refine Tm <| Tt <| Tp (Tl.trans (Tl.kk [0,1,2,7] [0,100210]) (Tl.rr [(0,0),(100210,23100)])) ?_;refine kp (S':=⟨[(0,.P 0),(1,.cv (.str p0)),(2,.cv (.fn (.func 49) [.P 0] [])),(7,.cv (.own .Af 23100))],[(0,.raw (Ae o)),(23100,.lst .Af ([(⟨j.Op,j.Name,j.Int,j.Text,j.Kids⟩:Aa)]:List Aa))]⟩) ?_;obtain ⟨o1,hp1,h⟩:=T7 h;refine T4 (Q':=fun e S=>(e=.exit 0∧∃ g:List Aq,∃ i:Int,∃ l:List Aa,S=⟨[(0,.P 0),(1,.cv (.str p0)),(7,.cv (.own .Af 23000))],[(0,.raw [.ro .Ap g,.I i]),(23000,.lst .Af l)]⟩∧T5.go (g,i,l)=o1)∨((e=.ret∨∃ ch,e=.panic ch)∧∃ a,T5.done a=o1∧Uh P V Tryz.f48 (Cl.rep p0 p1 a) (Cl.post p0 p1 a) e S)) (T8 (fun k S=>∃ d:List Aq,∃ f:Int,∃ c:List Aa,S=⟨[(0,.P 0),(1,.cv (.str p0)),(2,.cv (.fn (.func 49) [.P 0] [])),(7,.cv (.own .Af 23100))],[(0,.raw [.ro .Ap d,.I f]),(23100,.lst .Af c)]⟩∧Cl.l15 K k d f c=some o1) ?_ ⟨_,_,_,rfl,hp1⟩) ?_
  ·clear h hp1;intro k S hS;obtain ⟨d,f,c,rfl,h⟩:=hS;cases k with
   | zero=>cases h
   | succ k =>
   unfold Cl.l15 at h;refine Tm <| Tm ?_;obtain ⟨⟨s,m⟩,h3,h⟩:=bind_some h;dsimp only at h;refine rg L 213 [] [] [(1,(T0 (.B s) [(0,.raw (Ae m))]))] (Tu (Ak.okE h3)) ?_;rcases Tn h with ⟨c2,h⟩ |⟨c2,h⟩
   ·refine tt c2 <| Tr <| Tt ?_;obtain ⟨a4,h4,h⟩:=bind_some h;rcases a4 with a4 | a4
    ·dsimp only at h;refine qn L 216 [] [] [] 2 (T0 (.tup []) []) (Ui 49 a4) (Tu (Bk.okE h4)) ?_;cases h;exact .inr ⟨.inr ⟨_,rfl⟩,_,rfl,rfl⟩
    ·obtain ⟨b,n⟩:=a4;dsimp only at h;obtain ⟨g1,h⟩:=Ts h;refine ar L 216 [] [] [(2,(T0 (.agg (Ah b)) [(0,.raw (Ae n))]))] (cs:=[Tv V P 49 [.P 0] [(0,.raw (Ae m))] [0] (.agg (Ah b)) [(0,.raw (Ae n))],(c.length+([(⟨b.Op,b.Name,b.Int,b.Text,b.Kids⟩:Aa)]:List Aa).length) * 72≤140737488355328,True]) (S':=⟨[(0,.P 0),(1,.cv (.str p0)),(2,.cv (.fn (.func 49) [.P 0] [])),(7,.cv (.own .Af 23100))],[(0,.raw (Ae n)),(23100,.lst .Af (c++([(⟨b.Op,b.Name,b.Int,b.Text,b.Kids⟩:Aa)]:List Aa)))]⟩) (And.intro (Bk.okE h4) (And.intro g1 trivial)) ?_;exact ⟨k,Nat.lt_succ_self k,_,_,_,rfl,h⟩
   refine fN c2 <| Tp (Tl.trans (Tl.kk [0,1,7] [0,23100]) (Tl.rr [(0,0),(23100,23000)])) ?_;refine ex (S':=⟨[(0,.P 0),(1,.cv (.str p0)),(7,.cv (.own .Af 23000))],[(0,.raw (Ae m)),(23000,.lst .Af c)]⟩) ?_;cases h;exact .inl ⟨rfl,_,_,_,rfl,rfl⟩
  ·rintro e S (⟨rfl,g,i,l,rfl,rfl⟩ |⟨he,a,rfl,hr⟩)
   ·rcases h with ⟨_,e1,h⟩ |⟨_,e1,h⟩
    ·cases e1
    ·have e2:=T5.go.inj e1;subst e2;dsimp only at h;refine ⟨_,Tl.refl,?_⟩;refine Tm ?_;obtain ⟨a5,h5,h⟩:=bind_some h;rcases a5 with a5 | a5
     ·dsimp only at h;refine rg L 223 [] [] [(2,(T0 (.tup []) [(0,.raw (Ae a5))]))] (Tu (Ao.okE h5)) ?_;refine Tw L 227 <| Tp (Tl.trans (Tl.kk [6] [0,23000]) (Tl.fz 23000)) ?_;refine To ?_;cases h;exact Vj
     ·obtain ⟨a5,rfl⟩:∃ z,z=a5:=⟨_,rfl⟩
      dsimp only at h;refine qn L 223 [] [] [] 2 (T0 (.tup []) []) (Ui 49 a5) (Tu (Ao.okE h5)) ?_;cases h;exact rfl
   ·rcases h with ⟨_,e1,h⟩ |⟨_,e1,h⟩
    ·have e2:=T5.done.inj e1;subst e2;subst h;rcases he with rfl |⟨ch,rfl⟩
     ·exact ⟨_,Tl.refl,hr⟩
     ·exact ⟨_,Tl.refl,hr⟩
    ·cases e1
theorem Cl.okE {K:Nat} {p0:List UInt8} {p1:Ab} {r:((List Aa)×Ab) ⊕ Int} (h:Cl K p0 p1=some r):Ug V P 48 [.P 0,.cv (.str p0),.cv (.fn (.func 49) [.P 0] [])] [(0,.raw (Ae p1))] [0] (Cl.post p0 p1 r) (Cl.rep p0 p1 r) :=
 xo (fn:=Tryz.f48) (n:=25) (m:=100) fun Γ=>Cl.body h
def B1 (K:Nat) (p0:Ab):Option (Int ⊕ (Aa×Ab)):=(Option.bind (As K p0) (fun a1=>match a1 with |(Sum.inl a1)=>some (Sum.inl a1) |(Sum.inr (a,b))=>(Option.bind (Ao K ([59]:List UInt8) b) (fun a2=>match a2 with |(Sum.inl a2)=>some (Sum.inr (a,a2)) |(Sum.inr a2)=>some (Sum.inl a2)))))
def B1.rep (p0:Ab):Int ⊕ (Aa×Ab)→Uu T
 |(Sum.inl v0)=>.pan (Ui 49 v0)
 |(Sum.inr (v0,v1))=>.ret (.agg [.I v0.Op,.str v0.Name,.I v0.Int,.str v0.Text,.ro .Af v0.Kids])
def B1.post (p0:Ab):Int ⊕ (Aa×Ab)→List (Nat×T9 T)
 |(Sum.inl v0)=>[]
 |(Sum.inr (v0,v1))=>[(0,.raw [.ro .Ap v1.l,.I v1.i])]
theorem B1.body {Γ:Ud} {K:Nat} {p0:Ab} {r:Int ⊕ (Aa×Ab)} (h:B1 K p0=some r):Ub V P 9 100 Γ (Tryz.f104.body.getD .skip) (Uh P V Tryz.f104 (B1.rep p0 r) (B1.post p0 r)) ⟨Tx 0 [.P 0],[(0,.raw (Ae p0))]⟩:=by
 unfold B1 at h;refine Tw L 200 <| Tm ?_;obtain ⟨a1,h1,h⟩:=bind_some h;rcases a1 with a1 | a1
 ·dsimp only at h;refine qn L 202 [] [] [] 1 (T0 (.tup []) []) (Ui 49 a1) (Tu (As.okE h1)) ?_;cases h;exact rfl
 ·obtain ⟨a,b⟩:=a1;dsimp only at h;refine rg L 202 [] [] [(1,(T0 (.agg (Ah a)) [(0,.raw (Ae b))]))] (Tu (As.okE h1)) ?_;refine Tm ?_;obtain ⟨a2,h2,h⟩:=bind_some h;rcases a2 with a2 | a2
  ·dsimp only at h;refine rg L 207 [] [] [(1,(T0 (.tup []) [(0,.raw (Ae a2))]))] (Tu (Ao.okE h2)) ?_;refine Tw L 210 <| Tp (Tl.trans (Tl.kk [2] [0,200]) (Tl.rr [(0,0),(200,100)])) ?_;refine To ?_;cases h;exact Vj
  ·obtain ⟨a2,rfl⟩:∃ z,z=a2:=⟨_,rfl⟩
   dsimp only at h;refine qn L 207 [] [] [] 1 (T0 (.tup []) []) (Ui 49 a2) (Tu (Ao.okE h2)) ?_;cases h;exact rfl
theorem B1.okE {K:Nat} {p0:Ab} {r:Int ⊕ (Aa×Ab)} (h:B1 K p0=some r):Ug V P 104 [.P 0] [(0,.raw (Ae p0))] [0] (B1.post p0 r) (B1.rep p0 r) :=
 xo (fn:=Tryz.f104) (n:=9) (m:=100) fun Γ=>B1.body h
def Cz (K:Nat) (p0:Ab):Option (Int ⊕ (Aa×Ab)):=(if (0:Int)≤(if (IntKind.i64.wrap ((p0.l.length:Int) - 1)) <(IntKind.i64.wrap (p0.i+1)) then (IntKind.i64.wrap ((p0.l.length:Int) - 1)) else (IntKind.i64.wrap (p0.i+1)))∧((if (IntKind.i64.wrap ((p0.l.length:Int) - 1)) <(IntKind.i64.wrap (p0.i+1)) then (IntKind.i64.wrap ((p0.l.length:Int) - 1)) else (IntKind.i64.wrap (p0.i+1))):Int) <(p0.l.length:Int) then (Option.bind (((Option.bind (Bj K p0) (fun a1=>(if a1.Kind=1 then (if ((p0.l.getD (Int.toNat (if (IntKind.i64.wrap ((p0.l.length:Int) - 1)) <(IntKind.i64.wrap (p0.i+1)) then (IntKind.i64.wrap ((p0.l.length:Int) - 1)) else (IntKind.i64.wrap (p0.i+1)))) Dh)).Kind=5 then some ((decide (((p0.l.getD (Int.toNat (if (IntKind.i64.wrap ((p0.l.length:Int) - 1)) <(IntKind.i64.wrap (p0.i+1)) then (IntKind.i64.wrap ((p0.l.length:Int) - 1)) else (IntKind.i64.wrap (p0.i+1)))) Dh)).Text=([61]:List UInt8)))) else some false) else some false)))):Option Bool) (fun c=>(if c=true then (Option.bind (Au K p0) (fun a2=>match a2 with |(Sum.inl a2)=>some (Sum.inl a2) |(Sum.inr (e,d))=>(Option.bind (B1 K (⟨d.l,(IntKind.i64.wrap (d.i+1))⟩:Ab)) (fun a3=>match a3 with |(Sum.inl a3)=>some (Sum.inl a3) |(Sum.inr (a,f))=>some (Sum.inr ((⟨41,e,0,[],([(⟨a.Op,a.Name,a.Int,a.Text,a.Kids⟩:Aa)]:List Aa)⟩:Aa),f)))))) else (Option.bind (B1 K p0) (fun a4=>match a4 with |(Sum.inl a4)=>some (Sum.inl a4) |(Sum.inr (b,g))=>(Option.bind (Cu K 52 ([(⟨b.Op,b.Name,b.Int,b.Text,b.Kids⟩:Aa)]:List Aa)) (fun a5=>some (Sum.inr (a5,g))))))))) else none)
def Cz.rep (p0:Ab):Int ⊕ (Aa×Ab)→Uu T
 |(Sum.inl v0)=>.pan (Ui 49 v0)
 |(Sum.inr (v0,v1))=>.ret (.agg [.I v0.Op,.str v0.Name,.I v0.Int,.str v0.Text,.ro .Af v0.Kids])
def Cz.post (p0:Ab):Int ⊕ (Aa×Ab)→List (Nat×T9 T)
 |(Sum.inl v0)=>[]
 |(Sum.inr (v0,v1))=>[(0,.raw [.ro .Ap v1.l,.I v1.i])]
theorem Cz.body {Γ:Ud} {K:Nat} {p0:Ab} {r:Int ⊕ (Aa×Ab)} (h:Cz K p0=some r):Ub V P 55 100 Γ (Tryz.f108.body.getD .skip) (Uh P V Tryz.f108 (Cz.rep p0 r) (Cz.post p0 r)) ⟨Tx 0 [.P 0],[(0,.raw (Ae p0))]⟩:=by
 unfold Cz at h;refine Tw L 200 <| Tm <| Tm ?_;obtain ⟨g1,h⟩:=Ts h;refine rd L mixed 202 [] [] [] [220] 20 (Vf g1.1 g1.2) ?_;obtain ⟨o1,hp1,h⟩:=bind_some h;refine Tm (Uc (Q':=fun e S=>(e=.normal∧∃ a:Bool,S=⟨[(0,.P 0),(2,.P 21200),(36,.B a)],[(0,.raw (Ae p0)),(21200,.raw [.I 0,.str [],.I 0,.str [],.N])]⟩∧a=o1)) ?_ ?_)
 ·clear h;replace h:=hp1;obtain ⟨a1,h1,h⟩:=bind_some h;rcases Tn h with ⟨c1,h⟩ |⟨c1,h⟩
  ·rcases Tn h with ⟨c2,h⟩ |⟨c2,h⟩
   ·refine Tz (rg L 223 [(4,true),(9,true)] [(1,.agg (D1 a1))] [] (Tq (Bj.ok h1) (Tq trivial (Tq (decide_eq_true c1) (Tu (decide_eq_true c2))))) ⟨rfl,rfl⟩) (Tl.trans (Tl.kk [0,2,36] [0,200]) (Tl.trans (Tl.rr [(0,0),(200,21200)]) (Tl.kp (S':=⟨[(0,.P 0),(2,.P 21200),(36,.B ((decide (((p0.l.getD (Int.toNat (if (IntKind.i64.wrap ((p0.l.length:Int) - 1)) <(IntKind.i64.wrap (p0.i+1)) then (IntKind.i64.wrap ((p0.l.length:Int) - 1)) else (IntKind.i64.wrap (p0.i+1)))) Dh)).Text=([61]:List UInt8)))))],[(0,.raw (Ae p0)),(21200,.raw [.I 0,.str [],.I 0,.str [],.N])]⟩)))) ?_;cases h;exact ⟨rfl,_,rfl,rfl⟩
   refine Tz (rg L 223 [(4,true),(9,false)] [(1,.agg (D1 a1))] [] (Tq (Bj.ok h1) (Tq trivial (Tq (decide_eq_true c1) (Tu (decide_eq_false c2))))) ⟨rfl,rfl⟩) (Tl.trans (Tl.kk [0,2,36] [0,200]) (Tl.trans (Tl.rr [(0,0),(200,21200)]) (Tl.kp (S':=⟨[(0,.P 0),(2,.P 21200),(36,.B false)],[(0,.raw (Ae p0)),(21200,.raw [.I 0,.str [],.I 0,.str [],.N])]⟩)))) ?_;cases h;exact ⟨rfl,_,rfl,rfl⟩
  refine Tz (rg L 223 [(4,false)] [(1,.agg (D1 a1))] [] (Tq (Bj.ok h1) (Tq trivial (Tu (decide_eq_false c1)))) ⟨rfl,rfl⟩) (Tl.trans (Tl.kk [0,2,36] [0,200]) (Tl.trans (Tl.rr [(0,0),(200,21200)]) (Tl.kp (S':=⟨[(0,.P 0),(2,.P 21200),(36,.B false)],[(0,.raw (Ae p0)),(21200,.raw [.I 0,.str [],.I 0,.str [],.N])]⟩)))) ?_;cases h;exact ⟨rfl,_,rfl,rfl⟩
 ·rintro e S ⟨rfl,a,rfl,rfl⟩;rcases Tn h with ⟨c3,h⟩ |⟨c3,h⟩
  ·refine tt c3 <| Tm ?_;obtain ⟨a2,h2,h⟩:=bind_some h;rcases a2 with a2 | a2
   ·dsimp only at h;refine qn L 238 [] [] [] 1 (T0 (.tup []) []) (Ui 49 a2) (Tu (Au.okE h2)) ?_;cases h;exact rfl
   ·obtain ⟨b,c⟩:=a2;dsimp only at h;refine rg L 238 [] [] [(1,(T0 (.cv (.str b)) [(0,.raw (Ae c))]))] (Tu (Au.okE h2)) ?_;refine Tw L 242 <| Tm ?_;obtain ⟨a3,h3,h⟩:=bind_some h;rcases a3 with a3 | a3
    ·dsimp only at h;refine qn L 251 [] [] [] 2 (T0 (.tup []) []) (Ui 49 a3) (Tu (B1.okE h3)) ?_;cases h;exact rfl
    ·obtain ⟨d,f⟩:=a3;dsimp only at h;refine rg L 251 [] [] [(2,(T0 (.agg (Ah d)) [(0,.raw (Ae f))]))] (Tu (B1.okE h3)) ?_;refine Tp (Tl.trans (Tl.kk [2] [0,21200]) (Tl.rr [(0,0),(21200,100)])) ?_;refine To ?_;cases h;exact Vj
  refine fN c3 <| Tr <| Tm ?_;obtain ⟨a4,h4,h⟩:=bind_some h;rcases a4 with a4 | a4
  ·dsimp only at h;refine qn L 258 [] [] [] 1 (T0 (.tup []) []) (Ui 49 a4) (Tu (B1.okE h4)) ?_;cases h;exact rfl
  ·obtain ⟨g,j⟩:=a4;dsimp only at h;obtain ⟨a5,h5,h⟩:=bind_some h;refine rg L 258 [] [(3,.agg (Ah a5))] [(1,(T0 (.agg (Ah g)) [(0,.raw (Ae j))]))] (Tq (B1.okE h4) (Tq (Cu.ok h5) (Tu trivial))) ?_;refine Tp (Tl.trans (Tl.kk [2] [0,21200]) (Tl.rr [(0,0),(21200,100)])) ?_;refine To ?_;cases h;exact Vj
theorem Cz.okE {K:Nat} {p0:Ab} {r:Int ⊕ (Aa×Ab)} (h:Cz K p0=some r):Ug V P 108 [.P 0] [(0,.raw (Ae p0))] [0] (Cz.post p0 r) (Cz.rep p0 r) :=
 xo (fn:=Tryz.f108) (n:=55) (m:=100) fun Γ=>Cz.body h
def Fe (K:Nat) (p0:Int) (p1:List Aa):Option (List Aa):=some p1
theorem Fe.body {Γ:Ud} {K:Nat} {p0:Int} {p1:List Aa} {r:List Aa} (h:Fe K p0 p1=some r):Ub V P 8 100 Γ (Tryz.f75.body.getD .skip) (Ty P V Tryz.f75 (.agg [.I p0,.str [],.I 0,.str [],.own .Af 0]) [(0,.lst .Af r)]) ⟨Tx 0 [.I p0,.cv (.own .Af 0)],[(0,.lst .Af p1)]⟩:=by
 unfold Fe at h;refine Tw L 200 <| Tw L 202 <| Tp (Tl.trans (Tl.kk [4] [0,200]) (Tl.rr [(0,0),(200,100)])) ?_;refine To ?_;cases h;exact T3
theorem Fe.okE {K:Nat} {p0:Int} {p1:List Aa} {r:List Aa} (h:Fe K p0 p1=some r):Tv V P 75 [.I p0,.cv (.own .Af 0)] [(0,.lst .Af p1)] [0] (.agg [.I p0,.str [],.I 0,.str [],.own .Af 0]) [(0,.lst .Af r)] :=
 eo (fn:=Tryz.f75) (n:=8) (m:=100) fun Γ=>Fe.body h
def A3.rep (p0:Ab):Int ⊕ (Aa×Ab)→Uu T
 |(Sum.inl v0)=>.pan (Ui 49 v0)
 |(Sum.inr (v0,v1))=>.ret (.agg [.I v0.Op,.str v0.Name,.I v0.Int,.str v0.Text,.ro .Af v0.Kids])
def A3.post (p0:Ab):Int ⊕ (Aa×Ab)→List (Nat×T9 T)
 |(Sum.inl v0)=>[]
 |(Sum.inr (v0,v1))=>[(0,.raw [.ro .Ap v1.l,.I v1.i])]
def A5.rep (p0:Ab):Int ⊕ (Aa×Ab)→Uu T
 |(Sum.inl v0)=>.pan (Ui 49 v0)
 |(Sum.inr (v0,v1))=>.ret (.agg [.I v0.Op,.str v0.Name,.I v0.Int,.str v0.Text,.ro .Af v0.Kids])
def A5.post (p0:Ab):Int ⊕ (Aa×Ab)→List (Nat×T9 T)
 |(Sum.inl v0)=>[]
 |(Sum.inr (v0,v1))=>[(0,.raw [.ro .Ap v1.l,.I v1.i])]
def Ba.rep (p0:Ab):Int ⊕ (Aa×Ab)→Uu T
 |(Sum.inl v0)=>.pan (Ui 49 v0)
 |(Sum.inr (v0,v1))=>.ret (.agg [.I v0.Op,.str v0.Name,.I v0.Int,.str v0.Text,.ro .Af v0.Kids])
def Ba.post (p0:Ab):Int ⊕ (Aa×Ab)→List (Nat×T9 T)
 |(Sum.inl v0)=>[]
 |(Sum.inr (v0,v1))=>[(0,.raw [.ro .Ap v1.l,.I v1.i])]
def Al.rep (p0:Ab):Int ⊕ (Aa×Ab)→Uu T
 |(Sum.inl v0)=>.pan (Ui 49 v0)
 |(Sum.inr (v0,v1))=>.ret (.agg [.I v0.Op,.str v0.Name,.I v0.Int,.str v0.Text,.ro .Af v0.Kids])
def Al.post (p0:Ab):Int ⊕ (Aa×Ab)→List (Nat×T9 T)
 |(Sum.inl v0)=>[]
 |(Sum.inr (v0,v1))=>[(0,.raw [.ro .Ap v1.l,.I v1.i])]
structure A4 where
 A3:Ab→Option (Int ⊕ (Aa×Ab))
 A5:Ab→Option (Int ⊕ (Aa×Ab))
 Ba:Ab→Option (Int ⊕ (Aa×Ab))
 Al:Ab→Option (Int ⊕ (Aa×Ab))
structure A4.Ok (R:A4):Prop where
 A3:∀ {p0:Ab} {r:Int ⊕ (Aa×Ab)},R.A3 p0=some r→Ug V P 105 [.P 0] [(0,.raw (Ae p0))] [0] (A3.post p0 r) (A3.rep p0 r)
 A5:∀ {p0:Ab} {r:Int ⊕ (Aa×Ab)},R.A5 p0=some r→Ug V P 107 [.P 0] [(0,.raw (Ae p0))] [0] (A5.post p0 r) (A5.rep p0 r)
 Ba:∀ {p0:Ab} {r:Int ⊕ (Aa×Ab)},R.Ba p0=some r→Ug V P 77 [.P 0] [(0,.raw (Ae p0))] [0] (Ba.post p0 r) (Ba.rep p0 r)
 Al:∀ {p0:Ab} {r:Int ⊕ (Aa×Ab)},R.Al p0=some r→Ug V P 50 [.P 0] [(0,.raw (Ae p0))] [0] (Al.post p0 r) (Al.rep p0 r)
def A3.F (K:Nat) (R:A4) (p0:Ab):Option (Int ⊕ (Aa×Ab)):=(Option.bind (As K p0) (fun a1=>match a1 with |(Sum.inl a1)=>some (Sum.inl a1) |(Sum.inr (c,g))=>(Option.bind (R.Al g) (fun a2=>match a2 with |(Sum.inl a2)=>some (Sum.inl a2) |(Sum.inr (d,h))=>(Option.bind (Fe K 42 ([(⟨c.Op,c.Name,c.Int,c.Text,c.Kids⟩:Aa),(⟨d.Op,d.Name,d.Int,d.Text,d.Kids⟩:Aa)]:List Aa)) (fun a3=>(Option.bind (Ak K ([101,108,115,101]:List UInt8) h) (fun (i,e)=>(if i=true then (Option.bind (Ak K ([105,102]:List UInt8) e) (fun (j,f)=>(if j=true then (Option.bind (R.A3 f) (fun a6=>match a6 with |(Sum.inl a6)=>some (Sum.inl a6) |(Sum.inr (a,k))=>(if (a3.length+([(⟨a.Op,a.Name,a.Int,a.Text,a.Kids⟩:Aa)]:List Aa).length) * 72≤140737488355328 then some ((Sum.inr ((⟨42,[],0,[],(a3++([(⟨a.Op,a.Name,a.Int,a.Text,a.Kids⟩:Aa)]:List Aa))⟩:Aa),k))) else none))) else (Option.bind (R.Al f) (fun a7=>match a7 with |(Sum.inl a7)=>some (Sum.inl a7) |(Sum.inr (b,l))=>(if (a3.length+([(⟨b.Op,b.Name,b.Int,b.Text,b.Kids⟩:Aa)]:List Aa).length) * 72≤140737488355328 then some ((Sum.inr ((⟨42,[],0,[],(a3++([(⟨b.Op,b.Name,b.Int,b.Text,b.Kids⟩:Aa)]:List Aa))⟩:Aa),l))) else none)))))) else some (Sum.inr ((⟨42,[],0,[],a3⟩:Aa),e)))))))))))
theorem A3.body {Γ:Ud} {K:Nat} {R:A4} (hR:R.Ok) {p0:Ab} {r:Int ⊕ (Aa×Ab)} (h:A3.F K R p0=some r):Ub V P 31 100 Γ (Tryz.f105.body.getD .skip) (Uh P V Tryz.f105 (A3.rep p0 r) (A3.post p0 r)) ⟨Tx 0 [.P 0],[(0,.raw (Ae p0))]⟩:=by
 unfold A3.F at h;refine Tw L 200 <| Tm ?_;obtain ⟨a1,h1,h⟩:=bind_some h;rcases a1 with a1 | a1
 ·dsimp only at h;refine qn L 100202 [] [] [] 1 (T0 (.tup []) []) (Ui 49 a1) (Tu (As.okE h1)) ?_;cases h;exact rfl
 ·obtain ⟨e,f⟩:=a1;dsimp only at h;obtain ⟨a2,h2,h⟩:=bind_some h;rcases a2 with a2 | a2
  ·dsimp only at h;refine qn L 100202 [] [] [(1,(T0 (.agg (Ah e)) [(0,.raw (Ae f))]))] 3 (T0 (.tup []) []) (Ui 49 a2) (Vf (As.okE h1) (hR.Al h2)) ?_;cases h;exact rfl
  ·obtain ⟨j,k⟩:=a2;dsimp only at h;obtain ⟨a3,h3,h⟩:=bind_some h;refine rg L 100202 [] [] [(1,(T0 (.agg (Ah e)) [(0,.raw (Ae f))])),(3,(T0 (.agg (Ah j)) [(0,.raw (Ae k))])),(5,(ef [0] [0] (.agg [.I 42,.str [],.I 0,.str [],.own .Af 0]) [(0,.lst .Af a3)] [(0,100206)]))] (Tq (As.okE h1) (Tq (hR.Al h2) (Tu (Fe.okE h3)))) ?_;refine Tm <| Tm ?_;obtain ⟨⟨d,l⟩,h4,h⟩:=bind_some h;dsimp only at h;refine rg L 211 [] [] [(1,(T0 (.B d) [(0,.raw (Ae l))]))] (Tu (Ak.okE h4)) ?_;rcases Tn h with ⟨c1,h⟩ |⟨c1,h⟩
   ·refine ff (b:=(!d)) (congrArg Bool.not (c1)) ?_;refine Tr <| Tm <| Tm ?_;obtain ⟨⟨m,n⟩,h5,h⟩:=bind_some h;dsimp only at h;refine rg L 218 [] [] [(1,(T0 (.B m) [(0,.raw (Ae n))]))] (Tu (Ak.okE h5)) ?_;rcases Tn h with ⟨c2,h⟩ |⟨c2,h⟩
    ·refine tt c2 ?_;obtain ⟨a6,h6,h⟩:=bind_some h;rcases a6 with a6 | a6
     ·dsimp only at h;refine qP L mixed 221 [] [] [] [0,2] 3 (T0 (.tup []) []) (Ui 49 a6) (Vf (hR.A3 h6) (hR.A3 h6)) ?_;cases h;exact rfl
     ·obtain ⟨a,g⟩:=a6;dsimp only at h;obtain ⟨g1,h⟩:=Ts h;refine hB L mixed 221 [] [] [(3,(T0 (.agg (Ah a)) [(0,.raw (Ae g))]))] [0,2] 3 (Tq (hR.A3 h6) (Tq g1 (Tq trivial (Tq (hR.A3 h6) (Tq g1 (Tq trivial (Tq g1 (Tu trivial)))))))) (S':=⟨[(2,.P 200),(3,.P 100208)],[(0,.raw (Ae g)),(200,.raw [.I 0,.str [],.I 0,.str [],.N]),(100206,.lst .Af (a3++([(⟨a.Op,a.Name,a.Int,a.Text,a.Kids⟩:Aa)]:List Aa))),(100208,.raw [.I 42,.str [],.I 0,.str [],.own .Af 100206])]⟩) ?_;refine Tw L 239 <| Tp (Tl.trans (Tl.kk [2] [0,200,100206]) (Tl.trans (Tl.fz 100206) (Tl.rr [(0,0),(200,100)]))) ?_;refine To ?_;cases h;exact Vj
    refine fN c2 ?_;obtain ⟨a7,h7,h⟩:=bind_some h;rcases a7 with a7 | a7
    ·dsimp only at h;refine qP L mixed 230 [] [] [] [0,2] 3 (T0 (.tup []) []) (Ui 49 a7) (Vf (hR.Al h7) (hR.Al h7)) ?_;cases h;exact rfl
    ·obtain ⟨c,i⟩:=a7;dsimp only at h;obtain ⟨g2,h⟩:=Ts h;refine hB L mixed 230 [] [] [(3,(T0 (.agg (Ah c)) [(0,.raw (Ae i))]))] [0,2] 3 (Tq (hR.Al h7) (Tq g2 (Tq trivial (Tq (hR.Al h7) (Tq g2 (Tq trivial (Tq g2 (Tu trivial)))))))) (S':=⟨[(2,.P 200),(3,.P 100208)],[(0,.raw (Ae i)),(200,.raw [.I 0,.str [],.I 0,.str [],.N]),(100206,.lst .Af (a3++([(⟨c.Op,c.Name,c.Int,c.Text,c.Kids⟩:Aa)]:List Aa))),(100208,.raw [.I 42,.str [],.I 0,.str [],.own .Af 100206])]⟩) ?_;refine Tw L 239 <| Tp (Tl.trans (Tl.kk [2] [0,200,100206]) (Tl.trans (Tl.fz 100206) (Tl.rr [(0,0),(200,100)]))) ?_;refine To ?_;cases h;exact Vj
   refine tt (b:=(!d)) (congrArg Bool.not (eq_false_of_ne_true c1)) ?_;refine Tw L 215 <| Tp (Tl.trans (Tl.kk [2] [0,200,100206]) (Tl.trans (Tl.fz 100206) (Tl.rr [(0,0),(200,100)]))) ?_;refine To ?_;cases h;exact Vj
def A5.l9 (K:Nat) (R:A4):Nat→(List Aq)→Int→(List Aa)→Option (T5 (Int ⊕ (Aa×Ab)) ((List Aq)×Int×(List Aa)))
 | 0,_,_,_=>none
 | k+1,a,b,e=>(Option.bind (Dw K (⟨a,b⟩:Ab) ([99,97,115,101]:List UInt8)) (fun a2=>(if a2=true then (if (e.length:Int)=16 then (Option.bind (Bf K (⟨a,b⟩:Ab)) (fun a3=>some (T5.done (Sum.inl a3)))) else (obind (((if (0:Int)≤(if (IntKind.i64.wrap ((a.length:Int) - 1)) <(IntKind.i64.wrap ((IntKind.i64.wrap (b+1))+1)) then (IntKind.i64.wrap ((a.length:Int) - 1)) else (IntKind.i64.wrap ((IntKind.i64.wrap (b+1))+1)))∧((if (IntKind.i64.wrap ((a.length:Int) - 1)) <(IntKind.i64.wrap ((IntKind.i64.wrap (b+1))+1)) then (IntKind.i64.wrap ((a.length:Int) - 1)) else (IntKind.i64.wrap ((IntKind.i64.wrap (b+1))+1))):Int) <(a.length:Int) then (Option.bind (((Option.bind (Bj K (⟨a,(IntKind.i64.wrap (b+1))⟩:Ab)) (fun a4=>(if a4.Kind=1 then (if ((a.getD (Int.toNat (if (IntKind.i64.wrap ((a.length:Int) - 1)) <(IntKind.i64.wrap ((IntKind.i64.wrap (b+1))+1)) then (IntKind.i64.wrap ((a.length:Int) - 1)) else (IntKind.i64.wrap ((IntKind.i64.wrap (b+1))+1)))) Dh)).Kind=5 then some ((decide (((a.getD (Int.toNat (if (IntKind.i64.wrap ((a.length:Int) - 1)) <(IntKind.i64.wrap ((IntKind.i64.wrap (b+1))+1)) then (IntKind.i64.wrap ((a.length:Int) - 1)) else (IntKind.i64.wrap ((IntKind.i64.wrap (b+1))+1)))) Dh)).Text=([61]:List UInt8)))) else some false) else some false)))):Option Bool) (fun j=>(if j=true then (Option.bind (Au K (⟨a,(IntKind.i64.wrap (b+1))⟩:Ab)) (fun a5=>match a5 with |(Sum.inl a5)=>some (T5.done (Sum.inl a5)) |(Sum.inr (o,m))=>some (T5.go (m.l,(IntKind.i64.wrap (m.i+1)),o)))) else some (T5.go (a,(IntKind.i64.wrap (b+1)),[]))))) else none)):Option (T5 (Int ⊕ (Aa×Ab)) ((List Aq)×Int×(List UInt8)))) T5.done (fun (g,h,f)=>(Option.bind (As K (⟨g,h⟩:Ab)) (fun a6=>match a6 with |(Sum.inl a6)=>some (T5.done (Sum.inl a6)) |(Sum.inr (c,p))=>(Option.bind (R.Al p) (fun a7=>match a7 with |(Sum.inl a7)=>some (T5.done (Sum.inl a7)) |(Sum.inr (d,n))=>(if (e.length+([(⟨50,f,0,[],([(⟨c.Op,c.Name,c.Int,c.Text,c.Kids⟩:Aa),(⟨d.Op,d.Name,d.Int,d.Text,d.Kids⟩:Aa)]:List Aa)⟩:Aa)]:List Aa).length) * 72≤140737488355328 then A5.l9 K R k n.l n.i (e++([(⟨50,f,0,[],([(⟨c.Op,c.Name,c.Int,c.Text,c.Kids⟩:Aa),(⟨d.Op,d.Name,d.Int,d.Text,d.Kids⟩:Aa)]:List Aa)⟩:Aa)]:List Aa)) else none)))))))) else some (T5.go (a,b,e)))))
def A5.F (K:Nat) (R:A4) (p0:Ab):Option (Int ⊕ (Aa×Ab)):=(Option.bind (Ao K ([123]:List UInt8) p0) (fun a1=>match a1 with |(Sum.inl a1)=>(obind (A5.l9 K R K a1.l a1.i ([]:List Aa):Option (T5 (Int ⊕ (Aa×Ab)) ((List Aq)×Int×(List Aa)))) (fun r=>r) (fun (f,g,c)=>(obind (((Option.bind (Ak K ([101,108,115,101]:List UInt8) (⟨f,g⟩:Ab)) (fun (k,h)=>(if k=true then (Option.bind (R.Al h) (fun a9=>match a9 with |(Sum.inl a9)=>some (T5.done (Sum.inl a9)) |(Sum.inr (d,j))=>(Option.bind (Cu K 51 ([(⟨d.Op,d.Name,d.Int,d.Text,d.Kids⟩:Aa)]:List Aa)) (fun a10=>(if (c.length+([(⟨a10.Op,a10.Name,a10.Int,a10.Text,a10.Kids⟩:Aa)]:List Aa).length) * 72≤140737488355328 then some (T5.go (j.l,j.i,(c++([(⟨a10.Op,a10.Name,a10.Int,a10.Text,a10.Kids⟩:Aa)]:List Aa)))) else none))))) else some (T5.go (h.l,h.i,c)))))):Option (T5 (Int ⊕ (Aa×Ab)) ((List Aq)×Int×(List Aa)))) (fun r=>r) (fun (a,b,e)=>(if (e.length:Int)=0 then (Option.bind (Bf K (⟨a,b⟩:Ab)) (fun a11=>some (Sum.inl a11))) else (Option.bind (Ao K ([125]:List UInt8) (⟨a,b⟩:Ab)) (fun a12=>match a12 with |(Sum.inl a12)=>some (Sum.inr ((⟨49,[],0,[],e⟩:Aa),a12)) |(Sum.inr a12)=>some (Sum.inl a12)))))))) |(Sum.inr a1)=>some (Sum.inl a1)))
theorem A5.body {Γ:Ud} {K:Nat} {R:A4} (hR:R.Ok) {p0:Ab} {r:Int ⊕ (Aa×Ab)} (h:A5.F K R p0=some r):Ub V P 99 100 Γ (Tryz.f107.body.getD .skip) (Uh P V Tryz.f107 (A5.rep p0 r) (A5.post p0 r)) ⟨Tx 0 [.P 0],[(0,.raw (Ae p0))]⟩:=by
 unfold A5.F at h;refine Tw L 200 <| Tw L 202 <| Tm ?_;obtain ⟨a1,h1,h⟩:=bind_some h;rcases a1 with a1 | a1
 ·dsimp only at h;refine rg L 206 [] [] [(1,(T0 (.tup []) [(0,.raw (Ae a1))]))] (Tu (Ao.okE h1)) ?_;refine Tm <| Tt <| Tp (Tl.trans (Tl.kk [0,2,3] [0,200,203]) (Tl.trans (Tl.nc 203 4 9500 Tag.Af) (Tl.trans (Tl.kk [0,2,3] [0,200,203,9500]) (Tl.rr [(0,0),(200,21900),(203,21901),(9500,21902)])))) ?_;refine kp (S':=⟨[(0,.P 0),(2,.P 21900),(3,.P 21901)],[(0,.raw (Ae a1)),(21900,.raw [.I 0,.str [],.I 0,.str [],.N]),(21901,.raw [.I 49,.str [],.I 0,.str [],.own .Af 21902]),(21902,.lst .Af ([]:List Aa))]⟩) ?_;obtain ⟨o3,hp3,h⟩:=T7 h;refine T4 (Q':=fun e S=>(e=.exit 0∧∃ p:List Aq,∃ q:Int,∃ f:List Aa,S=⟨[(0,.P 0),(2,.P 21800),(3,.P 21801)],[(0,.raw [.ro .Ap p,.I q]),(21800,.raw [.I 0,.str [],.I 0,.str [],.N]),(21801,.raw [.I 49,.str [],.I 0,.str [],.own .Af 21802]),(21802,.lst .Af f)]⟩∧T5.go (p,q,f)=o3)∨((e=.ret∨∃ ch,e=.panic ch)∧∃ a,T5.done a=o3∧Uh P V Tryz.f107 (A5.rep p0 a) (A5.post p0 a) e S)) (T8 (fun k S=>∃ b:List Aq,∃ c:Int,∃ d:List Aa,S=⟨[(0,.P 0),(2,.P 21900),(3,.P 21901)],[(0,.raw [.ro .Ap b,.I c]),(21900,.raw [.I 0,.str [],.I 0,.str [],.N]),(21901,.raw [.I 49,.str [],.I 0,.str [],.own .Af 21902]),(21902,.lst .Af d)]⟩∧A5.l9 K R k b c d=some o3) ?_ ⟨_,_,_,rfl,hp3⟩) ?_
  ·clear h hp3;intro k S hS;obtain ⟨b,c,d,rfl,h⟩:=hS;cases k with
   | zero=>cases h
   | succ k =>
   unfold A5.l9 at h;refine Tm <| Tm ?_;obtain ⟨a2,h2,h⟩:=bind_some h;refine rg L 209 [] [(1,.B a2)] [] (U4 (Dw.ok h2)) ?_;rcases Tn h with ⟨c1,h⟩ |⟨c1,h⟩
   ·refine tt c1 <| Tr <| Tt <| Tm <| Tw L 212 ?_;rcases Tn h with ⟨c2,h⟩ |⟨c2,h⟩
    ·refine tT c2 ?_;obtain ⟨a3,h3,h⟩:=bind_some h;refine qn L 217 [] [] [] 1 (T0 (.tup []) []) (Ui 49 a3) (Tu (Bf.okE h3)) ?_;cases h;exact .inr ⟨.inr ⟨_,rfl⟩,_,rfl,rfl⟩
    refine fF c2 <| Tr <| Tw L 220 <| Tw L 229 ?_;obtain ⟨o2,hp2,h⟩:=T7 h;refine Tm (Uc (Q':=fun e S=>(e=.normal∧∃ j:List Aq,∃ m:Int,∃ g:List UInt8,S=⟨[(0,.P 0),(2,.P 25400),(3,.P 25401),(4,.P 25402)],[(0,.raw [.ro .Ap j,.I m]),(25400,.raw [.I 0,.str [],.I 0,.str [],.N]),(25401,.raw [.I 49,.str [],.I 0,.str [],.own .Af 25403]),(25402,.raw [.I 50,.str g,.I 0,.str [],.N]),(25403,.lst .Af d)]⟩∧T5.go (j,m,g)=o2)∨((e=.ret∨∃ ch,e=.panic ch)∧∃ a,T5.done a=o2∧Uh P V Tryz.f107 (A5.rep p0 a) (A5.post p0 a) e S)) ?_ ?_)
    ·clear h;replace h:=hp2;refine Tm ?_;obtain ⟨g1,h⟩:=Ts h;refine rd L mixed 233 [] [] [] [251] 20 (Vf g1.1 g1.2) ?_;obtain ⟨o1,hp1,h⟩:=bind_some h;refine Tm (Uc (Q':=fun e S=>(e=.normal∧∃ s:Bool,S=⟨[(0,.P 0),(2,.P 26000),(3,.P 26001),(4,.P 26002),(56,.B s)],[(0,.raw [.ro .Ap b,.I (IntKind.i64.wrap (c+1))]),(26000,.raw [.I 0,.str [],.I 0,.str [],.N]),(26001,.raw [.I 49,.str [],.I 0,.str [],.own .Af 26003]),(26002,.raw [.I 50,.str [],.I 0,.str [],.N]),(26003,.lst .Af d)]⟩∧s=o1)) ?_ ?_)
     ·clear h;replace h:=hp1;obtain ⟨a4,h4,h⟩:=bind_some h;rcases Tn h with ⟨c3,h⟩ |⟨c3,h⟩
      ·rcases Tn h with ⟨c4,h⟩ |⟨c4,h⟩
       ·refine Tz (rg L 254 [(4,true),(9,true)] [(1,.agg (D1 a4))] [] (Tq (Bj.ok h4) (Tq trivial (Tq (decide_eq_true c3) (Tu (decide_eq_true c4))))) ⟨rfl,rfl⟩) (Tl.trans (Tl.kk [0,2,3,4,56] [0,230,21900,21901,21902]) (Tl.trans (Tl.rr [(0,0),(230,26002),(21900,26000),(21901,26001),(21902,26003)]) (Tl.kp (S':=⟨[(0,.P 0),(2,.P 26000),(3,.P 26001),(4,.P 26002),(56,.B ((decide (((b.getD (Int.toNat (if (IntKind.i64.wrap ((b.length:Int) - 1)) <(IntKind.i64.wrap ((IntKind.i64.wrap (c+1))+1)) then (IntKind.i64.wrap ((b.length:Int) - 1)) else (IntKind.i64.wrap ((IntKind.i64.wrap (c+1))+1)))) Dh)).Text=([61]:List UInt8)))))],[(0,.raw [.ro .Ap b,.I (IntKind.i64.wrap (c+1))]),(26000,.raw [.I 0,.str [],.I 0,.str [],.N]),(26001,.raw [.I 49,.str [],.I 0,.str [],.own .Af 26003]),(26002,.raw [.I 50,.str [],.I 0,.str [],.N]),(26003,.lst .Af d)]⟩)))) ?_;cases h;exact ⟨rfl,_,rfl,rfl⟩
       refine Tz (rg L 254 [(4,true),(9,false)] [(1,.agg (D1 a4))] [] (Tq (Bj.ok h4) (Tq trivial (Tq (decide_eq_true c3) (Tu (decide_eq_false c4))))) ⟨rfl,rfl⟩) (Tl.trans (Tl.kk [0,2,3,4,56] [0,230,21900,21901,21902]) (Tl.trans (Tl.rr [(0,0),(230,26002),(21900,26000),(21901,26001),(21902,26003)]) (Tl.kp (S':=⟨[(0,.P 0),(2,.P 26000),(3,.P 26001),(4,.P 26002),(56,.B false)],[(0,.raw [.ro .Ap b,.I (IntKind.i64.wrap (c+1))]),(26000,.raw [.I 0,.str [],.I 0,.str [],.N]),(26001,.raw [.I 49,.str [],.I 0,.str [],.own .Af 26003]),(26002,.raw [.I 50,.str [],.I 0,.str [],.N]),(26003,.lst .Af d)]⟩)))) ?_;cases h;exact ⟨rfl,_,rfl,rfl⟩
      refine Tz (rg L 254 [(4,false)] [(1,.agg (D1 a4))] [] (Tq (Bj.ok h4) (Tq trivial (Tu (decide_eq_false c3)))) ⟨rfl,rfl⟩) (Tl.trans (Tl.kk [0,2,3,4,56] [0,230,21900,21901,21902]) (Tl.trans (Tl.rr [(0,0),(230,26002),(21900,26000),(21901,26001),(21902,26003)]) (Tl.kp (S':=⟨[(0,.P 0),(2,.P 26000),(3,.P 26001),(4,.P 26002),(56,.B false)],[(0,.raw [.ro .Ap b,.I (IntKind.i64.wrap (c+1))]),(26000,.raw [.I 0,.str [],.I 0,.str [],.N]),(26001,.raw [.I 49,.str [],.I 0,.str [],.own .Af 26003]),(26002,.raw [.I 50,.str [],.I 0,.str [],.N]),(26003,.lst .Af d)]⟩)))) ?_;cases h;exact ⟨rfl,_,rfl,rfl⟩
     ·rintro e S ⟨rfl,s,rfl,rfl⟩;rcases Tn h with ⟨c5,h⟩ |⟨c5,h⟩
      ·refine tt c5 <| Tm ?_;obtain ⟨a5,h5,h⟩:=bind_some h;rcases a5 with a5 | a5
       ·dsimp only at h;refine qn L 269 [] [] [] 1 (T0 (.tup []) []) (Ui 49 a5) (Tu (Au.okE h5)) ?_;cases h;exact .inr ⟨.inr ⟨_,rfl⟩,_,rfl,rfl⟩
       ·obtain ⟨y,w⟩:=a5;dsimp only at h;refine rg L 269 [] [] [(1,(T0 (.cv (.str y)) [(0,.raw (Ae w))]))] (Tu (Au.okE h5)) ?_;refine Tz (Yr L 274 ⟨rfl,rfl⟩) (Tl.trans (Tl.kk [0,2,3,4] [0,26000,26001,26002,26003]) (Tl.trans (Tl.rr [(0,0),(26000,25400),(26001,25401),(26002,25402),(26003,25403)]) (Tl.kp (S':=⟨[(0,.P 0),(2,.P 25400),(3,.P 25401),(4,.P 25402)],[(0,.raw [.ro .Ap w.l,.I (IntKind.i64.wrap (w.i+1))]),(25400,.raw [.I 0,.str [],.I 0,.str [],.N]),(25401,.raw [.I 49,.str [],.I 0,.str [],.own .Af 25403]),(25402,.raw [.I 50,.str y,.I 0,.str [],.N]),(25403,.lst .Af d)]⟩)))) ?_;cases h;exact .inl ⟨rfl,_,_,_,rfl,rfl⟩
      refine fN c5 <| Tp (Tl.trans (Tl.kk [0,2,3,4] [0,26000,26001,26002,26003]) (Tl.rr [(0,0),(26000,25400),(26001,25401),(26002,25402),(26003,25403)])) ?_;refine sk (S':=⟨[(0,.P 0),(2,.P 25400),(3,.P 25401),(4,.P 25402)],[(0,.raw [.ro .Ap b,.I (IntKind.i64.wrap (c+1))]),(25400,.raw [.I 0,.str [],.I 0,.str [],.N]),(25401,.raw [.I 49,.str [],.I 0,.str [],.own .Af 25403]),(25402,.raw [.I 50,.str [],.I 0,.str [],.N]),(25403,.lst .Af d)]⟩) ?_;cases h;exact .inl ⟨rfl,_,_,_,rfl,rfl⟩
    ·rintro e S (⟨rfl,j,m,g,rfl,rfl⟩ |⟨he,a,rfl,hr⟩)
     ·rcases h with ⟨_,e1,h⟩ |⟨_,e1,h⟩
      ·cases e1
      ·have e2:=T5.go.inj e1;subst e2;dsimp only at h;refine Tm ?_;obtain ⟨a6,h6,h⟩:=bind_some h;rcases a6 with a6 | a6
       ·dsimp only at h;refine qn L 283 [] [] [] 1 (T0 (.tup []) []) (Ui 49 a6) (Tu (As.okE h6)) ?_;cases h;exact .inr ⟨.inr ⟨_,rfl⟩,_,rfl,rfl⟩
       ·obtain ⟨t,aa⟩:=a6;dsimp only at h;obtain ⟨a7,h7,h⟩:=bind_some h;rcases a7 with a7 | a7
        ·dsimp only at h;refine qn L 283 [] [] [(1,(T0 (.agg (Ah t)) [(0,.raw (Ae aa))]))] 3 (T0 (.tup []) []) (Ui 49 a7) (Vf (As.okE h6) (hR.Al h7)) ?_;cases h;exact .inr ⟨.inr ⟨_,rfl⟩,_,rfl,rfl⟩
        ·obtain ⟨u,ab⟩:=a7;dsimp only at h;refine rg L 283 [] [] [(1,(T0 (.agg (Ah t)) [(0,.raw (Ae aa))])),(3,(T0 (.agg (Ah u)) [(0,.raw (Ae ab))]))] (Vf (As.okE h6) (hR.Al h7)) ?_;obtain ⟨g2,h⟩:=Ts h;refine Tz (rg L 291 [] [] [] (U4 g2) ⟨rfl,rfl⟩) (Tl.trans (Tl.kk [0,2,3] [0,25400,25401,25403]) (Tl.trans (Tl.rr [(0,0),(25400,21900),(25401,21901),(25403,21902)]) (Tl.kp (S':=⟨[(0,.P 0),(2,.P 21900),(3,.P 21901)],[(0,.raw (Ae ab)),(21900,.raw [.I 0,.str [],.I 0,.str [],.N]),(21901,.raw [.I 49,.str [],.I 0,.str [],.own .Af 21902]),(21902,.lst .Af (d++([(⟨50,g,0,[],([(⟨t.Op,t.Name,t.Int,t.Text,t.Kids⟩:Aa),(⟨u.Op,u.Name,u.Int,u.Text,u.Kids⟩:Aa)]:List Aa)⟩:Aa)]:List Aa)))]⟩)))) ?_;exact ⟨k,Nat.lt_succ_self k,_,_,_,rfl,h⟩
     ·rcases h with ⟨_,e1,h⟩ |⟨_,e1,h⟩
      ·have e2:=T5.done.inj e1;subst e2;subst h;rcases he with rfl |⟨ch,rfl⟩
       ·exact .inr ⟨.inl rfl,_,rfl,hr⟩
       ·exact .inr ⟨.inr ⟨_,rfl⟩,_,rfl,hr⟩
      ·cases e1
   refine fN c1 <| Tp (Tl.trans (Tl.kk [0,2,3] [0,21900,21901,21902]) (Tl.rr [(0,0),(21900,21800),(21901,21801),(21902,21802)])) ?_;refine ex (S':=⟨[(0,.P 0),(2,.P 21800),(3,.P 21801)],[(0,.raw [.ro .Ap b,.I c]),(21800,.raw [.I 0,.str [],.I 0,.str [],.N]),(21801,.raw [.I 49,.str [],.I 0,.str [],.own .Af 21802]),(21802,.lst .Af d)]⟩) ?_;cases h;exact .inl ⟨rfl,_,_,_,rfl,rfl⟩
  ·rintro e S (⟨rfl,p,q,f,rfl,rfl⟩ |⟨he,a,rfl,hr⟩)
   ·rcases h with ⟨_,e1,h⟩ |⟨_,e1,h⟩
    ·cases e1
    ·have e2:=T5.go.inj e1;subst e2;dsimp only at h;refine ⟨_,Tl.refl,?_⟩;obtain ⟨o4,hp4,h⟩:=T7 h;refine Tm (Uc (Q':=fun e S=>(e=.normal∧∃ n:List Aq,∃ o:Int,∃ v:List Aa,S=⟨[(0,.P 0),(2,.P 28000),(3,.P 28001)],[(0,.raw [.ro .Ap n,.I o]),(28000,.raw [.I 0,.str [],.I 0,.str [],.N]),(28001,.raw [.I 49,.str [],.I 0,.str [],.own .Af 28002]),(28002,.lst .Af v)]⟩∧T5.go (n,o,v)=o4)∨((e=.ret∨∃ ch,e=.panic ch)∧∃ a,T5.done a=o4∧Uh P V Tryz.f107 (A5.rep p0 a) (A5.post p0 a) e S)) ?_ ?_)
     ·clear h;replace h:=hp4;refine Tm ?_;obtain ⟨⟨ae,ad⟩,h8,h⟩:=bind_some h;dsimp only at h;refine rg L 299 [] [] [(1,(T0 (.B ae) [(0,.raw (Ae ad))]))] (Tu (Ak.okE h8)) ?_;rcases Tn h with ⟨c6,h⟩ |⟨c6,h⟩
      ·refine tt c6 ?_;obtain ⟨a9,h9,h⟩:=bind_some h;rcases a9 with a9 | a9
       ·dsimp only at h;refine qP L mixed 302 [] [] [] [0,2] 3 (T0 (.tup []) []) (Ui 49 a9) (Vf (hR.Al h9) (hR.Al h9)) ?_;cases h;exact .inr ⟨.inr ⟨_,rfl⟩,_,rfl,rfl⟩
       ·obtain ⟨af,x⟩:=a9;dsimp only at h;obtain ⟨a10,h10,h⟩:=bind_some h;obtain ⟨g3,h⟩:=Ts h;refine Tz (hB L mixed 302 [] [(5,.agg (Ah a10))] [(3,(T0 (.agg (Ah af)) [(0,.raw (Ae x))]))] [0,2] 5 (Tq (hR.Al h9) (Tq (Cu.ok h10) (Tq trivial (Tq g3 (Tq trivial (Tq (hR.Al h9) (Tq (Cu.ok h10) (Tq trivial (Tq g3 (Tq trivial (Tq (Cu.ok h10) (Tq trivial (Tq g3 (Tq trivial (Tq (Cu.ok h10) (Tq trivial (Tq g3 (Tq trivial (Tq g3 (Tu trivial)))))))))))))))))))) (S':=⟨[(0,.P 0),(2,.P 21800),(3,.P 21801)],[(0,.raw (Ae x)),(21800,.raw [.I 0,.str [],.I 0,.str [],.N]),(21801,.raw [.I 49,.str [],.I 0,.str [],.own .Af 21802]),(21802,.lst .Af (f++([(⟨a10.Op,a10.Name,a10.Int,a10.Text,a10.Kids⟩:Aa)]:List Aa)))]⟩) ⟨rfl,rfl⟩) (Tl.trans (Tl.kk [0,2,3] [0,21800,21801,21802]) (Tl.trans (Tl.rr [(0,0),(21800,28000),(21801,28001),(21802,28002)]) (Tl.kp (S':=⟨[(0,.P 0),(2,.P 28000),(3,.P 28001)],[(0,.raw (Ae x)),(28000,.raw [.I 0,.str [],.I 0,.str [],.N]),(28001,.raw [.I 49,.str [],.I 0,.str [],.own .Af 28002]),(28002,.lst .Af (f++([(⟨a10.Op,a10.Name,a10.Int,a10.Text,a10.Kids⟩:Aa)]:List Aa)))]⟩)))) ?_;cases h;exact .inl ⟨rfl,_,_,_,rfl,rfl⟩
      refine fN c6 <| Tp (Tl.trans (Tl.kk [0,2,3] [0,21800,21801,21802]) (Tl.rr [(0,0),(21800,28000),(21801,28001),(21802,28002)])) ?_;refine sk (S':=⟨[(0,.P 0),(2,.P 28000),(3,.P 28001)],[(0,.raw (Ae ad)),(28000,.raw [.I 0,.str [],.I 0,.str [],.N]),(28001,.raw [.I 49,.str [],.I 0,.str [],.own .Af 28002]),(28002,.lst .Af f)]⟩) ?_;cases h;exact .inl ⟨rfl,_,_,_,rfl,rfl⟩
     ·rintro e S (⟨rfl,n,o,v,rfl,rfl⟩ |⟨he,a,rfl,hr⟩)
      ·rcases h with ⟨_,e1,h⟩ |⟨_,e1,h⟩
       ·cases e1
       ·have e2:=T5.go.inj e1;subst e2;dsimp only at h;refine Tm <| Tw L 313 ?_;rcases Tn h with ⟨c7,h⟩ |⟨c7,h⟩
        ·refine tT c7 ?_;obtain ⟨a11,h11,h⟩:=bind_some h;refine qn L 318 [] [] [] 1 (T0 (.tup []) []) (Ui 49 a11) (Tu (Bf.okE h11)) ?_;cases h;exact rfl
        refine fF c7 <| Tr <| Tm ?_;obtain ⟨a12,h12,h⟩:=bind_some h;rcases a12 with a12 | a12
        ·dsimp only at h;refine rg L 321 [] [] [(1,(T0 (.tup []) [(0,.raw (Ae a12))]))] (Tu (Ao.okE h12)) ?_;refine Tw L 324 <| Tp (Tl.trans (Tl.kk [2] [0,28000,28002]) (Tl.trans (Tl.fz 28002) (Tl.rr [(0,0),(28000,100)]))) ?_;refine To ?_;cases h;exact Vj
        ·obtain ⟨a12,rfl⟩:∃ z,z=a12:=⟨_,rfl⟩
         dsimp only at h;refine qn L 321 [] [] [] 1 (T0 (.tup []) []) (Ui 49 a12) (Tu (Ao.okE h12)) ?_;cases h;exact rfl
      ·rcases h with ⟨_,e1,h⟩ |⟨_,e1,h⟩
       ·have e2:=T5.done.inj e1;subst e2;subst h;rcases he with rfl |⟨ch,rfl⟩
        ·exact hr
        ·exact hr
       ·cases e1
   ·rcases h with ⟨_,e1,h⟩ |⟨_,e1,h⟩
    ·have e2:=T5.done.inj e1;subst e2;subst h;rcases he with rfl |⟨ch,rfl⟩
     ·exact ⟨_,Tl.refl,hr⟩
     ·exact ⟨_,Tl.refl,hr⟩
    ·cases e1
 ·obtain ⟨a1,rfl⟩:∃ z,z=a1:=⟨_,rfl⟩
  dsimp only at h;refine qn L 206 [] [] [] 1 (T0 (.tup []) []) (Ui 49 a1) (Tu (Ao.okE h1)) ?_;cases h;exact rfl
def Ba.F (K:Nat) (R:A4) (p0:Ab):Option (Int ⊕ (Aa×Ab)):=(Option.bind (Ak K ([108,101,116]:List UInt8) p0) (fun (ap,p)=>(if ap=true then (Option.bind (Au K p) (fun a2=>match a2 with |(Sum.inl a2)=>some (Sum.inl a2) |(Sum.inr (aq,ar))=>(Option.bind (Ao K ([61]:List UInt8) ar) (fun a3=>match a3 with |(Sum.inl a3)=>(Option.bind (B1 K a3) (fun a4=>match a4 with |(Sum.inl a4)=>some (Sum.inl a4) |(Sum.inr (f,au))=>some (Sum.inr ((⟨40,aq,0,[],([(⟨f.Op,f.Name,f.Int,f.Text,f.Kids⟩:Aa)]:List Aa)⟩:Aa),au)))) |(Sum.inr a3)=>some (Sum.inl a3))))) else (Option.bind (Ak K ([105,102]:List UInt8) p) (fun (av,q)=>(if av=true then (Option.bind (R.A3 q) (fun a6=>match a6 with |(Sum.inl a6)=>some (Sum.inl a6) |(Sum.inr (aw,ax))=>some (Sum.inr (aw,ax)))) else (Option.bind (Ak K ([119,104,105,108,101]:List UInt8) q) (fun (ay,r)=>(if ay=true then (Option.bind (As K r) (fun a8=>match a8 with |(Sum.inl a8)=>some (Sum.inl a8) |(Sum.inr (g,az))=>(Option.bind (R.Al az) (fun a9=>match a9 with |(Sum.inl a9)=>some (Sum.inl a9) |(Sum.inr (h,a0))=>(Option.bind (Cu K 43 ([(⟨g.Op,g.Name,g.Int,g.Text,g.Kids⟩:Aa),(⟨h.Op,h.Name,h.Int,h.Text,h.Kids⟩:Aa)]:List Aa)) (fun a10=>some (Sum.inr (a10,a0)))))))) else (Option.bind (Ak K ([114,101,116,117,114,110]:List UInt8) r) (fun (s,i)=>(if s=true then (Option.bind (Ak K ([59]:List UInt8) i) (fun (t,j)=>(if t=true then some (Sum.inr ((⟨44,[],0,[],([]:List Aa)⟩:Aa),j)) else (Option.bind (B1 K j) (fun a13=>match a13 with |(Sum.inl a13)=>some (Sum.inl a13) |(Sum.inr (a,u))=>(Option.bind (Cu K 44 ([(⟨a.Op,a.Name,a.Int,a.Text,a.Kids⟩:Aa)]:List Aa)) (fun a14=>some (Sum.inr (a14,u))))))))) else (Option.bind (Ak K ([116,104,114,111,119]:List UInt8) i) (fun (v,k)=>(if v=true then (Option.bind (B1 K k) (fun a16=>match a16 with |(Sum.inl a16)=>some (Sum.inl a16) |(Sum.inr (b,w))=>(Option.bind (Cu K 45 ([(⟨b.Op,b.Name,b.Int,b.Text,b.Kids⟩:Aa)]:List Aa)) (fun a17=>some (Sum.inr (a17,w)))))) else (Option.bind (Ak K ([116,114,121]:List UInt8) k) (fun (x,l)=>(if x=true then (Option.bind (R.Al l) (fun a19=>match a19 with |(Sum.inl a19)=>some (Sum.inl a19) |(Sum.inr (c,y))=>(Option.bind (Ao K ([99,97,116,99,104]:List UInt8) y) (fun a20=>match a20 with |(Sum.inl a20)=>(Option.bind (Au K a20) (fun a21=>match a21 with |(Sum.inl a21)=>some (Sum.inl a21) |(Sum.inr (z,aa))=>(Option.bind (R.Al aa) (fun a22=>match a22 with |(Sum.inl a22)=>some (Sum.inl a22) |(Sum.inr (d,ab))=>some (Sum.inr ((⟨46,z,0,[],([(⟨c.Op,c.Name,c.Int,c.Text,c.Kids⟩:Aa),(⟨d.Op,d.Name,d.Int,d.Text,d.Kids⟩:Aa)]:List Aa)⟩:Aa),ab)))))) |(Sum.inr a20)=>some (Sum.inl a20))))) else (Option.bind (Ak K ([115,97,103,97]:List UInt8) l) (fun (ad,m)=>(if ad=true then (Option.bind (R.Al m) (fun a24=>match a24 with |(Sum.inl a24)=>some (Sum.inl a24) |(Sum.inr (e,ae))=>(Option.bind (Cu K 47 ([(⟨e.Op,e.Name,e.Int,e.Text,e.Kids⟩:Aa)]:List Aa)) (fun a25=>some (Sum.inr (a25,ae)))))) else (Option.bind (Ak K ([117,110,100,111]:List UInt8) m) (fun (af,n)=>(if af=true then (Option.bind (Au K n) (fun a27=>match a27 with |(Sum.inl a27)=>some (Sum.inl a27) |(Sum.inr (ag,ah))=>(Option.bind (Bi K 48 ag ah) (fun a28=>match a28 with |(Sum.inl (ai,aj))=>(Option.bind (Ao K ([59]:List UInt8) aj) (fun a29=>match a29 with |(Sum.inl a29)=>some (Sum.inr (ai,a29)) |(Sum.inr a29)=>some (Sum.inl a29))) |(Sum.inr a28)=>some (Sum.inl a28))))) else (Option.bind (Ak K ([115,101,108,101,99,116]:List UInt8) n) (fun (ak,o)=>(if ak=true then (Option.bind (R.A5 o) (fun a31=>match a31 with |(Sum.inl a31)=>some (Sum.inl a31) |(Sum.inr (al,am))=>some (Sum.inr (al,am)))) else (Option.bind (Cz K o) (fun a32=>match a32 with |(Sum.inl a32)=>some (Sum.inl a32) |(Sum.inr (an,ao))=>some (Sum.inr (an,ao)))))))))))))))))))))))))))))))
theorem Ba.body {Γ:Ud} {K:Nat} {R:A4} (hR:R.Ok) {p0:Ab} {r:Int ⊕ (Aa×Ab)} (h:Ba.F K R p0=some r):Ub V P 87 100 Γ (Tryz.f77.body.getD .skip) (Uh P V Tryz.f77 (Ba.rep p0 r) (Ba.post p0 r)) ⟨Tx 0 [.P 0],[(0,.raw (Ae p0))]⟩:=by
 unfold Ba.F at h;refine Tw L 200 <| Tm <| Tt <| Tm ?_;obtain ⟨⟨ao,ap⟩,h1,h⟩:=bind_some h;dsimp only at h;refine rg L 202 [] [] [(1,(T0 (.B ao) [(0,.raw (Ae ap))]))] (Tu (Ak.okE h1)) ?_;rcases Tn h with ⟨c1,h⟩ |⟨c1,h⟩
 ·refine tt c1 <| Tm ?_;obtain ⟨a2,h2,h⟩:=bind_some h;rcases a2 with a2 | a2
  ·dsimp only at h;refine qn L 206 [] [] [] 1 (T0 (.tup []) []) (Ui 49 a2) (Tu (Au.okE h2)) ?_;cases h;exact rfl
  ·obtain ⟨aq,ar⟩:=a2;dsimp only at h;refine rg L 206 [] [] [(1,(T0 (.cv (.str aq)) [(0,.raw (Ae ar))]))] (Tu (Au.okE h2)) ?_;refine Tm ?_;obtain ⟨a3,h3,h⟩:=bind_some h;rcases a3 with a3 | a3
   ·dsimp only at h;refine rg L 210 [] [] [(1,(T0 (.tup []) [(0,.raw (Ae a3))]))] (Tu (Ao.okE h3)) ?_;refine Tm ?_;obtain ⟨a4,h4,h⟩:=bind_some h;rcases a4 with a4 | a4
    ·dsimp only at h;refine qn L 213 [] [] [] 2 (T0 (.tup []) []) (Ui 49 a4) (Tu (B1.okE h4)) ?_;cases h;exact rfl
    ·obtain ⟨au,av⟩:=a4;dsimp only at h;refine rg L 213 [] [] [(2,(T0 (.agg (Ah au)) [(0,.raw (Ae av))]))] (Tu (B1.okE h4)) ?_;refine Tp (Tl.trans (Tl.kk [2] [0,200]) (Tl.rr [(0,0),(200,100)])) ?_;refine To ?_;cases h;exact Vj
   ·obtain ⟨a3,rfl⟩:∃ z,z=a3:=⟨_,rfl⟩
    dsimp only at h;refine qn L 210 [] [] [] 1 (T0 (.tup []) []) (Ui 49 a3) (Tu (Ao.okE h3)) ?_;cases h;exact rfl
 refine fN c1 <| Tm ?_;obtain ⟨⟨aw,ax⟩,h5,h⟩:=bind_some h;dsimp only at h;refine rg L 220 [] [] [(1,(T0 (.B aw) [(0,.raw (Ae ax))]))] (Tu (Ak.okE h5)) ?_;rcases Tn h with ⟨c2,h⟩ |⟨c2,h⟩
 ·refine tt c2 <| Tm ?_;obtain ⟨a6,h6,h⟩:=bind_some h;rcases a6 with a6 | a6
  ·dsimp only at h;refine qn L 224 [] [] [] 1 (T0 (.tup []) []) (Ui 49 a6) (Tu (hR.A3 h6)) ?_;cases h;exact rfl
  ·obtain ⟨ay,az⟩:=a6;dsimp only at h;refine rg L 224 [] [] [(1,(T0 (.agg (Ah ay)) [(0,.raw (Ae az))]))] (Tu (hR.A3 h6)) ?_;refine Tp (Tl.trans (Tl.kk [2] [0,200]) (Tl.rr [(0,0),(200,100)])) ?_;refine To ?_;cases h;exact Vj
 refine fN c2 <| Tm ?_;obtain ⟨⟨a0,a1⟩,h7,h⟩:=bind_some h;dsimp only at h;refine rg L 228 [] [] [(1,(T0 (.B a0) [(0,.raw (Ae a1))]))] (Tu (Ak.okE h7)) ?_;rcases Tn h with ⟨c3,h⟩ |⟨c3,h⟩
 ·refine tt c3 <| Tm ?_;obtain ⟨a8,h8,h⟩:=bind_some h;rcases a8 with a8 | a8
  ·dsimp only at h;refine qn L 232 [] [] [] 1 (T0 (.tup []) []) (Ui 49 a8) (Tu (As.okE h8)) ?_;cases h;exact rfl
  ·obtain ⟨i,j⟩:=a8;dsimp only at h;obtain ⟨a9,h9,h⟩:=bind_some h;rcases a9 with a9 | a9
   ·dsimp only at h;refine qn L 232 [] [] [(1,(T0 (.agg (Ah i)) [(0,.raw (Ae j))]))] 3 (T0 (.tup []) []) (Ui 49 a9) (Vf (As.okE h8) (hR.Al h9)) ?_;cases h;exact rfl
   ·obtain ⟨a5,a7⟩:=a9;dsimp only at h;obtain ⟨a10,h10,h⟩:=bind_some h;refine rg L 232 [] [(5,.agg (Ah a10))] [(1,(T0 (.agg (Ah i)) [(0,.raw (Ae j))])),(3,(T0 (.agg (Ah a5)) [(0,.raw (Ae a7))]))] (Tq (As.okE h8) (Tq (hR.Al h9) (Tq (Cu.ok h10) (Tu trivial)))) ?_;refine Tp (Tl.trans (Tl.kk [2] [0,200]) (Tl.rr [(0,0),(200,100)])) ?_;refine To ?_;cases h;exact Vj
 refine fN c3 <| Tm ?_;obtain ⟨⟨k,l⟩,h11,h⟩:=bind_some h;dsimp only at h;refine rg L 240 [] [] [(1,(T0 (.B k) [(0,.raw (Ae l))]))] (Tu (Ak.okE h11)) ?_;rcases Tn h with ⟨c4,h⟩ |⟨c4,h⟩
 ·refine tt c4 <| Tm <| Tm ?_;obtain ⟨⟨m,n⟩,h12,h⟩:=bind_some h;dsimp only at h;refine rg L 244 [] [] [(1,(T0 (.B m) [(0,.raw (Ae n))]))] (Tu (Ak.okE h12)) ?_;rcases Tn h with ⟨c5,h⟩ |⟨c5,h⟩
  ·refine tt c5 <| Tw L 247 <| Tp (Tl.trans (Tl.kk [2] [0,200]) (Tl.rr [(0,0),(200,100)])) ?_;refine To ?_;cases h;exact Vj
  refine fN c5 <| Tr <| Tm ?_;obtain ⟨a13,h13,h⟩:=bind_some h;rcases a13 with a13 | a13
  ·dsimp only at h;refine qn L 250 [] [] [] 1 (T0 (.tup []) []) (Ui 49 a13) (Tu (B1.okE h13)) ?_;cases h;exact rfl
  ·obtain ⟨o,p⟩:=a13;dsimp only at h;obtain ⟨a14,h14,h⟩:=bind_some h;refine rg L 250 [] [(3,.agg (Ah a14))] [(1,(T0 (.agg (Ah o)) [(0,.raw (Ae p))]))] (Tq (B1.okE h13) (Tq (Cu.ok h14) (Tu trivial))) ?_;refine Tp (Tl.trans (Tl.kk [2] [0,200]) (Tl.rr [(0,0),(200,100)])) ?_;refine To ?_;cases h;exact Vj
 refine fN c4 <| Tm ?_;obtain ⟨⟨q,s⟩,h15,h⟩:=bind_some h;dsimp only at h;refine rg L 256 [] [] [(1,(T0 (.B q) [(0,.raw (Ae s))]))] (Tu (Ak.okE h15)) ?_;rcases Tn h with ⟨c6,h⟩ |⟨c6,h⟩
 ·refine tt c6 <| Tm ?_;obtain ⟨a16,h16,h⟩:=bind_some h;rcases a16 with a16 | a16
  ·dsimp only at h;refine qn L 260 [] [] [] 1 (T0 (.tup []) []) (Ui 49 a16) (Tu (B1.okE h16)) ?_;cases h;exact rfl
  ·obtain ⟨t,u⟩:=a16;dsimp only at h;obtain ⟨a17,h17,h⟩:=bind_some h;refine rg L 260 [] [(3,.agg (Ah a17))] [(1,(T0 (.agg (Ah t)) [(0,.raw (Ae u))]))] (Tq (B1.okE h16) (Tq (Cu.ok h17) (Tu trivial))) ?_;refine Tp (Tl.trans (Tl.kk [2] [0,200]) (Tl.rr [(0,0),(200,100)])) ?_;refine To ?_;cases h;exact Vj
 refine fN c6 <| Tm ?_;obtain ⟨⟨v,w⟩,h18,h⟩:=bind_some h;dsimp only at h;refine rg L 266 [] [] [(1,(T0 (.B v) [(0,.raw (Ae w))]))] (Tu (Ak.okE h18)) ?_;rcases Tn h with ⟨c7,h⟩ |⟨c7,h⟩
 ·refine tt c7 <| Tm ?_;obtain ⟨a19,h19,h⟩:=bind_some h;rcases a19 with a19 | a19
  ·dsimp only at h;refine qn L 270 [] [] [] 1 (T0 (.tup []) []) (Ui 49 a19) (Tu (hR.Al h19)) ?_;cases h;exact rfl
  ·obtain ⟨a,x⟩:=a19;dsimp only at h;refine rg L 270 [] [] [(1,(T0 (.agg (Ah a)) [(0,.raw (Ae x))]))] (Tu (hR.Al h19)) ?_;refine Tm ?_;obtain ⟨a20,h20,h⟩:=bind_some h;rcases a20 with a20 | a20
   ·dsimp only at h;refine rg L 275 [] [] [(1,(T0 (.tup []) [(0,.raw (Ae a20))]))] (Tu (Ao.okE h20)) ?_;refine Tm ?_;obtain ⟨a21,h21,h⟩:=bind_some h;rcases a21 with a21 | a21
    ·dsimp only at h;refine qP L mixed 278 [] [] [] [0,3] 1 (T0 (.tup []) []) (Ui 49 a21) (Vf (Au.okE h21) (Au.okE h21)) ?_;cases h;exact rfl
    ·obtain ⟨c,d⟩:=a21;dsimp only at h;obtain ⟨a22,h22,h⟩:=bind_some h;rcases a22 with a22 | a22
     ·dsimp only at h;refine qP L mixed 278 [] [] [(1,(T0 (.cv (.str c)) [(0,.raw (Ae d))]))] [0,3] 4 (T0 (.tup []) []) (Ui 49 a22) (Tq (Au.okE h21) (Tq (hR.Al h22) (Tq (hR.Al h22) (Tq (Au.okE h21) (Tu (hR.Al h22)))))) ?_;cases h;exact rfl
     ·obtain ⟨b,e⟩:=a22;dsimp only at h;refine hB L mixed 278 [] [] [(1,(T0 (.cv (.str c)) [(0,.raw (Ae d))])),(4,(T0 (.agg (Ah b)) [(0,.raw (Ae e))]))] [0,3] 3 (Tq (Au.okE h21) (Tq (hR.Al h22) (Tq (hR.Al h22) (Tq (Au.okE h21) (Tu (hR.Al h22)))))) (S':=⟨[(2,.P 200)],[(0,.raw (Ae e)),(200,.raw [.I 46,.str c,.I 0,.str [],.ro .Af ([(⟨a.Op,a.Name,a.Int,a.Text,a.Kids⟩:Aa),(⟨b.Op,b.Name,b.Int,b.Text,b.Kids⟩:Aa)]:List Aa)])]⟩) ?_;refine Tp (Tl.trans (Tl.kk [2] [0,200]) (Tl.rr [(0,0),(200,100)])) ?_;refine To ?_;cases h;exact Vj
   ·obtain ⟨a20,rfl⟩:∃ z,z=a20:=⟨_,rfl⟩
    dsimp only at h;refine qn L 275 [] [] [] 1 (T0 (.tup []) []) (Ui 49 a20) (Tu (Ao.okE h20)) ?_;cases h;exact rfl
 refine fN c7 <| Tm ?_;obtain ⟨⟨y,aa⟩,h23,h⟩:=bind_some h;dsimp only at h;refine rg L 287 [] [] [(1,(T0 (.B y) [(0,.raw (Ae aa))]))] (Tu (Ak.okE h23)) ?_;rcases Tn h with ⟨c8,h⟩ |⟨c8,h⟩
 ·refine tt c8 <| Tm ?_;obtain ⟨a24,h24,h⟩:=bind_some h;rcases a24 with a24 | a24
  ·dsimp only at h;refine qn L 291 [] [] [] 1 (T0 (.tup []) []) (Ui 49 a24) (Tu (hR.Al h24)) ?_;cases h;exact rfl
  ·obtain ⟨ab,ad⟩:=a24;dsimp only at h;obtain ⟨a25,h25,h⟩:=bind_some h;refine rg L 291 [] [(3,.agg (Ah a25))] [(1,(T0 (.agg (Ah ab)) [(0,.raw (Ae ad))]))] (Tq (hR.Al h24) (Tq (Cu.ok h25) (Tu trivial))) ?_;refine Tp (Tl.trans (Tl.kk [2] [0,200]) (Tl.rr [(0,0),(200,100)])) ?_;refine To ?_;cases h;exact Vj
 refine fN c8 <| Tm ?_;obtain ⟨⟨ae,af⟩,h26,h⟩:=bind_some h;dsimp only at h;refine rg L 297 [] [] [(1,(T0 (.B ae) [(0,.raw (Ae af))]))] (Tu (Ak.okE h26)) ?_;rcases Tn h with ⟨c9,h⟩ |⟨c9,h⟩
 ·refine tt c9 <| Tm ?_;obtain ⟨a27,h27,h⟩:=bind_some h;rcases a27 with a27 | a27
  ·dsimp only at h;refine qn L 301 [] [] [] 2 (T0 (.tup []) []) (Ui 49 a27) (Tu (Au.okE h27)) ?_;cases h;exact rfl
  ·obtain ⟨f,g⟩:=a27;dsimp only at h;obtain ⟨a28,h28,h⟩:=bind_some h;rcases a28 with ⟨ag,ah⟩ | a28
   ·dsimp only at h;refine rg L 301 [] [] [(2,(T0 (.cv (.str f)) [(0,.raw (Ae g))])),(3,(T0 (.agg (Ah ag)) [(0,.raw (Ae ah))]))] (Vf (Au.okE h27) (Bi.okE h28)) ?_;refine Tm ?_;obtain ⟨a29,h29,h⟩:=bind_some h;rcases a29 with a29 | a29
    ·dsimp only at h;refine rg L 308 [] [] [(1,(T0 (.tup []) [(0,.raw (Ae a29))]))] (Tu (Ao.okE h29)) ?_;refine Tw L 311 <| Tp (Tl.trans (Tl.kk [2] [0,200]) (Tl.rr [(0,0),(200,100)])) ?_;refine To ?_;cases h;exact Vj
    ·obtain ⟨a29,rfl⟩:∃ z,z=a29:=⟨_,rfl⟩
     dsimp only at h;refine qn L 308 [] [] [] 1 (T0 (.tup []) []) (Ui 49 a29) (Tu (Ao.okE h29)) ?_;cases h;exact rfl
   ·obtain ⟨a28,rfl⟩:∃ z,z=a28:=⟨_,rfl⟩
    dsimp only at h;refine qn L 301 [] [] [(2,(T0 (.cv (.str f)) [(0,.raw (Ae g))]))] 3 (T0 (.tup []) []) (Ui 49 a28) (Vf (Au.okE h27) (Bi.okE h28)) ?_;cases h;exact rfl
 refine fN c9 <| Tm ?_;obtain ⟨⟨ai,aj⟩,h30,h⟩:=bind_some h;dsimp only at h;refine rg L 314 [] [] [(1,(T0 (.B ai) [(0,.raw (Ae aj))]))] (Tu (Ak.okE h30)) ?_;rcases Tn h with ⟨c10,h⟩ |⟨c10,h⟩
 ·refine tt c10 <| Tm ?_;obtain ⟨a31,h31,h⟩:=bind_some h;rcases a31 with a31 | a31
  ·dsimp only at h;refine qn L 318 [] [] [] 1 (T0 (.tup []) []) (Ui 49 a31) (Tu (hR.A5 h31)) ?_;cases h;exact rfl
  ·obtain ⟨ak,al⟩:=a31;dsimp only at h;refine rg L 318 [] [] [(1,(T0 (.agg (Ah ak)) [(0,.raw (Ae al))]))] (Tu (hR.A5 h31)) ?_;refine Tp (Tl.trans (Tl.kk [2] [0,200]) (Tl.rr [(0,0),(200,100)])) ?_;refine To ?_;cases h;exact Vj
 refine fN c10 <| Tr <| Tm ?_;obtain ⟨a32,h32,h⟩:=bind_some h;rcases a32 with a32 | a32
 ·dsimp only at h;refine qn L 322 [] [] [] 1 (T0 (.tup []) []) (Ui 49 a32) (Tu (Cz.okE h32)) ?_;cases h;exact rfl
 ·obtain ⟨am,an⟩:=a32;dsimp only at h;refine rg L 322 [] [] [(1,(T0 (.agg (Ah am)) [(0,.raw (Ae an))]))] (Tu (Cz.okE h32)) ?_;refine Tp (Tl.trans (Tl.kk [2] [0,200]) (Tl.rr [(0,0),(200,100)])) ?_;refine To ?_;cases h;exact Vj
def Al.l9 (K:Nat) (R:A4):Nat→(List Aq)→Int→(List Aa)→Option (T5 (Int ⊕ (Aa×Ab)) ((List Aq)×Int×(List Aa)))
 | 0,_,_,_=>none
 | k+1,c,d,b=>(Option.bind (Ak K ([125]:List UInt8) (⟨c,d⟩:Ab)) (fun (g,e)=>(if g=true then some (T5.go (e.l,e.i,b)) else (Option.bind (R.Ba e) (fun a3=>match a3 with |(Sum.inl a3)=>some (T5.done (Sum.inl a3)) |(Sum.inr (a,f))=>(if (b.length+([(⟨a.Op,a.Name,a.Int,a.Text,a.Kids⟩:Aa)]:List Aa).length) * 72≤140737488355328 then Al.l9 K R k f.l f.i (b++([(⟨a.Op,a.Name,a.Int,a.Text,a.Kids⟩:Aa)]:List Aa)) else none))))))
def Al.F (K:Nat) (R:A4) (p0:Ab):Option (Int ⊕ (Aa×Ab)):=(Option.bind (Ao K ([123]:List UInt8) p0) (fun a1=>match a1 with |(Sum.inl a1)=>(obind (Al.l9 K R K a1.l a1.i ([]:List Aa):Option (T5 (Int ⊕ (Aa×Ab)) ((List Aq)×Int×(List Aa)))) (fun r=>r) (fun (a,b,c)=>some (Sum.inr ((⟨53,[],0,[],c⟩:Aa),(⟨a,b⟩:Ab))))) |(Sum.inr a1)=>some (Sum.inl a1)))
theorem Al.body {Γ:Ud} {K:Nat} {R:A4} (hR:R.Ok) {p0:Ab} {r:Int ⊕ (Aa×Ab)} (h:Al.F K R p0=some r):Ub V P 18 100 Γ (Tryz.f50.body.getD .skip) (Uh P V Tryz.f50 (Al.rep p0 r) (Al.post p0 r)) ⟨Tx 0 [.P 0],[(0,.raw (Ae p0))]⟩:=by
 unfold Al.F at h;refine Tw L 200 <| Tw L 202 <| Tm ?_;obtain ⟨a1,h1,h⟩:=bind_some h;rcases a1 with a1 | a1
 ·dsimp only at h;refine rg L 206 [] [] [(1,(T0 (.tup []) [(0,.raw (Ae a1))]))] (Tu (Ao.okE h1)) ?_;refine Tm <| Tt <| Tp (Tl.trans (Tl.kk [0,2,3] [0,200,203]) (Tl.trans (Tl.nc 203 4 9500 Tag.Af) (Tl.trans (Tl.kk [0,2,3] [0,200,203,9500]) (Tl.rr [(0,0),(200,21900),(203,21901),(9500,21902)])))) ?_;refine kp (S':=⟨[(0,.P 0),(2,.P 21900),(3,.P 21901)],[(0,.raw (Ae a1)),(21900,.raw [.I 0,.str [],.I 0,.str [],.N]),(21901,.raw [.I 53,.str [],.I 0,.str [],.own .Af 21902]),(21902,.lst .Af ([]:List Aa))]⟩) ?_;obtain ⟨o1,hp1,h⟩:=T7 h;refine T4 (Q':=fun e S=>(e=.exit 0∧∃ g:List Aq,∃ i:Int,∃ l:List Aa,S=⟨[(2,.P 21800),(3,.P 21801)],[(0,.raw [.ro .Ap g,.I i]),(21800,.raw [.I 0,.str [],.I 0,.str [],.N]),(21801,.raw [.I 53,.str [],.I 0,.str [],.own .Af 21802]),(21802,.lst .Af l)]⟩∧T5.go (g,i,l)=o1)∨((e=.ret∨∃ ch,e=.panic ch)∧∃ a,T5.done a=o1∧Uh P V Tryz.f50 (Al.rep p0 a) (Al.post p0 a) e S)) (T8 (fun k S=>∃ d:List Aq,∃ f:Int,∃ c:List Aa,S=⟨[(0,.P 0),(2,.P 21900),(3,.P 21901)],[(0,.raw [.ro .Ap d,.I f]),(21900,.raw [.I 0,.str [],.I 0,.str [],.N]),(21901,.raw [.I 53,.str [],.I 0,.str [],.own .Af 21902]),(21902,.lst .Af c)]⟩∧Al.l9 K R k d f c=some o1) ?_ ⟨_,_,_,rfl,hp1⟩) ?_
  ·clear h hp1;intro k S hS;obtain ⟨d,f,c,rfl,h⟩:=hS;cases k with
   | zero=>cases h
   | succ k =>
   unfold Al.l9 at h;refine Tm <| Tm ?_;obtain ⟨⟨m,n⟩,h2,h⟩:=bind_some h;dsimp only at h;refine rg L 209 [] [] [(1,(T0 (.B m) [(0,.raw (Ae n))]))] (Tu (Ak.okE h2)) ?_;rcases Tn h with ⟨c1,h⟩ |⟨c1,h⟩
   ·refine ff (b:=(!m)) (congrArg Bool.not (c1)) ?_;refine Tp (Tl.trans (Tl.kk [2,3] [0,21900,21901,21902]) (Tl.rr [(0,0),(21900,21800),(21901,21801),(21902,21802)])) ?_;refine ex (S':=⟨[(2,.P 21800),(3,.P 21801)],[(0,.raw (Ae n)),(21800,.raw [.I 0,.str [],.I 0,.str [],.N]),(21801,.raw [.I 53,.str [],.I 0,.str [],.own .Af 21802]),(21802,.lst .Af c)]⟩) ?_;cases h;exact .inl ⟨rfl,_,_,_,rfl,rfl⟩
   refine tt (b:=(!m)) (congrArg Bool.not (eq_false_of_ne_true c1)) ?_;refine Tr <| Tt ?_;obtain ⟨a3,h3,h⟩:=bind_some h;rcases a3 with a3 | a3
   ·dsimp only at h;refine qP L mixed 213 [] [] [] [0,2] 3 (T0 (.tup []) []) (Ui 49 a3) (Vf (hR.Ba h3) (hR.Ba h3)) ?_;cases h;exact .inr ⟨.inr ⟨_,rfl⟩,_,rfl,rfl⟩
   ·obtain ⟨j,o⟩:=a3;dsimp only at h;obtain ⟨g1,h⟩:=Ts h;refine hB L mixed 213 [] [] [(3,(T0 (.agg (Ah j)) [(0,.raw (Ae o))]))] [0,2] 3 (Tq (hR.Ba h3) (Tq g1 (Tq trivial (Tq (hR.Ba h3) (Tq g1 (Tq trivial (Tq g1 (Tu trivial)))))))) (S':=⟨[(0,.P 0),(2,.P 21900),(3,.P 21901)],[(0,.raw (Ae o)),(21900,.raw [.I 0,.str [],.I 0,.str [],.N]),(21901,.raw [.I 53,.str [],.I 0,.str [],.own .Af 21902]),(21902,.lst .Af (c++([(⟨j.Op,j.Name,j.Int,j.Text,j.Kids⟩:Aa)]:List Aa)))]⟩) ?_;exact ⟨k,Nat.lt_succ_self k,_,_,_,rfl,h⟩
  ·rintro e S (⟨rfl,g,i,l,rfl,rfl⟩ |⟨he,a,rfl,hr⟩)
   ·rcases h with ⟨_,e1,h⟩ |⟨_,e1,h⟩
    ·cases e1
    ·have e2:=T5.go.inj e1;subst e2;dsimp only at h;refine ⟨_,Tl.refl,?_⟩;refine Tw L 222 <| Tp (Tl.trans (Tl.kk [2] [0,21800,21802]) (Tl.trans (Tl.fz 21802) (Tl.rr [(0,0),(21800,100)]))) ?_;refine To ?_;cases h;exact Vj
   ·rcases h with ⟨_,e1,h⟩ |⟨_,e1,h⟩
    ·have e2:=T5.done.inj e1;subst e2;subst h;rcases he with rfl |⟨ch,rfl⟩
     ·exact ⟨_,Tl.refl,hr⟩
     ·exact ⟨_,Tl.refl,hr⟩
    ·cases e1
 ·obtain ⟨a1,rfl⟩:∃ z,z=a1:=⟨_,rfl⟩
  dsimp only at h;refine qn L 206 [] [] [] 1 (T0 (.tup []) []) (Ui 49 a1) (Tu (Ao.okE h1)) ?_;cases h;exact rfl
def A4.upto (K:Nat):Nat→A4
 | 0=>⟨fun _=>none,fun _=>none,fun _=>none,fun _=>none⟩
 | k+1=>⟨A3.F K (A4.upto K k),A5.F K (A4.upto K k),Ba.F K (A4.upto K k),Al.F K (A4.upto K k)⟩
theorem A4.upto_ok (K:Nat):∀ k,(A4.upto K k).Ok
 | 0=>⟨fun h=>(by cases h),fun h=>(by cases h),fun h=>(by cases h),fun h=>(by cases h)⟩
 | k+1=>⟨fun {p0 r} h=>xo (fn:=Tryz.f105) (n:=31) (m:=100) fun Γ=>A3.body (K:=K) (A4.upto_ok K k) h,fun {p0 r} h=>xo (fn:=Tryz.f107) (n:=99) (m:=100) fun Γ=>A5.body (K:=K) (A4.upto_ok K k) h,fun {p0 r} h=>xo (fn:=Tryz.f77) (n:=87) (m:=100) fun Γ=>Ba.body (K:=K) (A4.upto_ok K k) h,fun {p0 r} h=>xo (fn:=Tryz.f50) (n:=18) (m:=100) fun Γ=>Al.body (K:=K) (A4.upto_ok K k) h⟩
def A3 (K:Nat) (p0:Ab):Option (Int ⊕ (Aa×Ab)):=(A4.upto K K).A3 p0
theorem A3.okE {K:Nat} {p0:Ab} {r:Int ⊕ (Aa×Ab)} (h:A3 K p0=some r):Ug V P 105 [.P 0] [(0,.raw (Ae p0))] [0] (A3.post p0 r) (A3.rep p0 r):=(A4.upto_ok K K).A3 h
def A5 (K:Nat) (p0:Ab):Option (Int ⊕ (Aa×Ab)):=(A4.upto K K).A5 p0
theorem A5.okE {K:Nat} {p0:Ab} {r:Int ⊕ (Aa×Ab)} (h:A5 K p0=some r):Ug V P 107 [.P 0] [(0,.raw (Ae p0))] [0] (A5.post p0 r) (A5.rep p0 r):=(A4.upto_ok K K).A5 h
def Ba (K:Nat) (p0:Ab):Option (Int ⊕ (Aa×Ab)):=(A4.upto K K).Ba p0
theorem Ba.okE {K:Nat} {p0:Ab} {r:Int ⊕ (Aa×Ab)} (h:Ba K p0=some r):Ug V P 77 [.P 0] [(0,.raw (Ae p0))] [0] (Ba.post p0 r) (Ba.rep p0 r):=(A4.upto_ok K K).Ba h
def Al (K:Nat) (p0:Ab):Option (Int ⊕ (Aa×Ab)):=(A4.upto K K).Al p0
theorem Al.okE {K:Nat} {p0:Ab} {r:Int ⊕ (Aa×Ab)} (h:Al K p0=some r):Ug V P 50 [.P 0] [(0,.raw (Ae p0))] [0] (Al.post p0 r) (Al.rep p0 r):=(A4.upto_ok K K).Al h
def Cm.l15 (K:Nat):Nat→(List Aq)→Int→(List Aa)→Option (T5 ((Ab×(List Aa)) ⊕ Int) ((List Aq)×Int×(List Aa)))
 | 0,_,_,_=>none
 | k+1,c,d,b=>(Option.bind (Ak K ([44]:List UInt8) (⟨c,d⟩:Ab)) (fun (g,e)=>(if g=true then (Option.bind (Bk K e) (fun a4=>match a4 with |(Sum.inl a4)=>some (T5.done (Sum.inr a4)) |(Sum.inr (a,f))=>(if (b.length+([(⟨a.Op,a.Name,a.Int,a.Text,a.Kids⟩:Aa)]:List Aa).length) * 72≤140737488355328 then Cm.l15 K k f.l f.i (b++([(⟨a.Op,a.Name,a.Int,a.Text,a.Kids⟩:Aa)]:List Aa)) else none))) else some (T5.go (e.l,e.i,b)))))
def Cm (K:Nat) (p0:List UInt8) (p1:Ab):Option ((Ab×(List Aa)) ⊕ Int):=(Option.bind (Ak K p0 p1) (fun (g,e)=>(if g=true then some (Sum.inl (e,([]:List Aa))) else (Option.bind (Bk K e) (fun a2=>match a2 with |(Sum.inl a2)=>some (Sum.inr a2) |(Sum.inr (a,f))=>(obind (Cm.l15 K K f.l f.i ([(⟨a.Op,a.Name,a.Int,a.Text,a.Kids⟩:Aa)]:List Aa):Option (T5 ((Ab×(List Aa)) ⊕ Int) ((List Aq)×Int×(List Aa)))) (fun r=>r) (fun (b,c,d)=>(Option.bind (Ao K p0 (⟨b,c⟩:Ab)) (fun a5=>match a5 with |(Sum.inl a5)=>some (Sum.inl (a5,d)) |(Sum.inr a5)=>some (Sum.inr a5))))))))))
def Cm.rep (p0:List UInt8) (p1:Ab):(Ab×(List Aa)) ⊕ Int→Uu T
 |(Sum.inl (v0,v1))=>.ret (.cv (.own .Af 100))
 |(Sum.inr v0)=>.pan (Ui 49 v0)
def Cm.post (p0:List UInt8) (p1:Ab):(Ab×(List Aa)) ⊕ Int→List (Nat×T9 T)
 |(Sum.inl (v0,v1))=>[(0,.raw [.ro .Ap v0.l,.I v0.i]),(100,.lst .Af v1)]
 |(Sum.inr v0)=>[]
theorem Cm.body {Γ:Ud} {K:Nat} {p0:List UInt8} {p1:Ab} {r:(Ab×(List Aa)) ⊕ Int} (h:Cm K p0 p1=some r):Ub V P 25 100 Γ (Tryz.f48.body.getD .skip) (Uh P V Tryz.f48 (Cm.rep p0 p1 r) (Cm.post p0 p1 r)) ⟨Tx 0 [.P 0,.cv (.str p0),.cv (.fn (.func 49) [.P 0] [])],[(0,.raw (Ae p1))]⟩:=by
 unfold Cm at h;refine Tw L 200 <| Tm <| Tm ?_;obtain ⟨⟨p,q⟩,h1,h⟩:=bind_some h;dsimp only at h;refine rg L 202 [] [] [(2,(T0 (.B p) [(0,.raw (Ae q))]))] (Tu (Ak.okE h1)) ?_;rcases Tn h with ⟨c1,h⟩ |⟨c1,h⟩
 ·refine tt c1 <| Tw L 206 <| Tp (Tl.trans (Tl.kk [6] [0]) (Tl.trans (Tl.no 6 9000 Tag.Af) (Tl.trans (Tl.kk [6] [0,9000]) (Tl.rr [(0,0),(9000,100)])))) ?_;refine To ?_;cases h;exact Vj
 refine fN c1 <| Tr <| Tm ?_;obtain ⟨a2,h2,h⟩:=bind_some h;rcases a2 with a2 | a2
 ·dsimp only at h;refine qn L 100208 [] [] [] 1 (T0 (.tup []) []) (Ui 49 a2) (Tu (Bk.okE h2)) ?_;cases h;exact rfl
 ·obtain ⟨j,o⟩:=a2;dsimp only at h;refine rg L 100208 [] [] [(1,(T0 (.agg (Ah j)) [(0,.raw (Ae o))]))] (Tu (Bk.okE h2)) ?_;refine Tm <| Tt <| Tp (Tl.trans (Tl.kk [0,1,2,7] [0,100210]) (Tl.rr [(0,0),(100210,23100)])) ?_;refine kp (S':=⟨[(0,.P 0),(1,.cv (.str p0)),(2,.cv (.fn (.func 49) [.P 0] [])),(7,.cv (.own .Af 23100))],[(0,.raw (Ae o)),(23100,.lst .Af ([(⟨j.Op,j.Name,j.Int,j.Text,j.Kids⟩:Aa)]:List Aa))]⟩) ?_;obtain ⟨o1,hp1,h⟩:=T7 h;refine T4 (Q':=fun e S=>(e=.exit 0∧∃ g:List Aq,∃ i:Int,∃ l:List Aa,S=⟨[(0,.P 0),(1,.cv (.str p0)),(7,.cv (.own .Af 23000))],[(0,.raw [.ro .Ap g,.I i]),(23000,.lst .Af l)]⟩∧T5.go (g,i,l)=o1)∨((e=.ret∨∃ ch,e=.panic ch)∧∃ a,T5.done a=o1∧Uh P V Tryz.f48 (Cm.rep p0 p1 a) (Cm.post p0 p1 a) e S)) (T8 (fun k S=>∃ d:List Aq,∃ f:Int,∃ c:List Aa,S=⟨[(0,.P 0),(1,.cv (.str p0)),(2,.cv (.fn (.func 49) [.P 0] [])),(7,.cv (.own .Af 23100))],[(0,.raw [.ro .Ap d,.I f]),(23100,.lst .Af c)]⟩∧Cm.l15 K k d f c=some o1) ?_ ⟨_,_,_,rfl,hp1⟩) ?_
  ·clear h hp1;intro k S hS;obtain ⟨d,f,c,rfl,h⟩:=hS;cases k with
   | zero=>cases h
   | succ k =>
   unfold Cm.l15 at h;refine Tm <| Tm ?_;obtain ⟨⟨s,m⟩,h3,h⟩:=bind_some h;dsimp only at h;refine rg L 213 [] [] [(1,(T0 (.B s) [(0,.raw (Ae m))]))] (Tu (Ak.okE h3)) ?_;rcases Tn h with ⟨c2,h⟩ |⟨c2,h⟩
   ·refine tt c2 <| Tr <| Tt ?_;obtain ⟨a4,h4,h⟩:=bind_some h;rcases a4 with a4 | a4
    ·dsimp only at h;refine qn L 216 [] [] [] 2 (T0 (.tup []) []) (Ui 49 a4) (Tu (Bk.okE h4)) ?_;cases h;exact .inr ⟨.inr ⟨_,rfl⟩,_,rfl,rfl⟩
    ·obtain ⟨b,n⟩:=a4;dsimp only at h;obtain ⟨g1,h⟩:=Ts h;refine ar L 216 [] [] [(2,(T0 (.agg (Ah b)) [(0,.raw (Ae n))]))] (cs:=[Tv V P 49 [.P 0] [(0,.raw (Ae m))] [0] (.agg (Ah b)) [(0,.raw (Ae n))],(c.length+([(⟨b.Op,b.Name,b.Int,b.Text,b.Kids⟩:Aa)]:List Aa).length) * 72≤140737488355328,True]) (S':=⟨[(0,.P 0),(1,.cv (.str p0)),(2,.cv (.fn (.func 49) [.P 0] [])),(7,.cv (.own .Af 23100))],[(0,.raw (Ae n)),(23100,.lst .Af (c++([(⟨b.Op,b.Name,b.Int,b.Text,b.Kids⟩:Aa)]:List Aa)))]⟩) (And.intro (Bk.okE h4) (And.intro g1 trivial)) ?_;exact ⟨k,Nat.lt_succ_self k,_,_,_,rfl,h⟩
   refine fN c2 <| Tp (Tl.trans (Tl.kk [0,1,7] [0,23100]) (Tl.rr [(0,0),(23100,23000)])) ?_;refine ex (S':=⟨[(0,.P 0),(1,.cv (.str p0)),(7,.cv (.own .Af 23000))],[(0,.raw (Ae m)),(23000,.lst .Af c)]⟩) ?_;cases h;exact .inl ⟨rfl,_,_,_,rfl,rfl⟩
  ·rintro e S (⟨rfl,g,i,l,rfl,rfl⟩ |⟨he,a,rfl,hr⟩)
   ·rcases h with ⟨_,e1,h⟩ |⟨_,e1,h⟩
    ·cases e1
    ·have e2:=T5.go.inj e1;subst e2;dsimp only at h;refine ⟨_,Tl.refl,?_⟩;refine Tm ?_;obtain ⟨a5,h5,h⟩:=bind_some h;rcases a5 with a5 | a5
     ·dsimp only at h;refine rg L 223 [] [] [(2,(T0 (.tup []) [(0,.raw (Ae a5))]))] (Tu (Ao.okE h5)) ?_;refine Tw L 227 <| Tp (Tl.trans (Tl.kk [6] [0,23000]) (Tl.rr [(0,0),(23000,100)])) ?_;refine To ?_;cases h;exact Vj
     ·obtain ⟨a5,rfl⟩:∃ z,z=a5:=⟨_,rfl⟩
      dsimp only at h;refine qn L 223 [] [] [] 2 (T0 (.tup []) []) (Ui 49 a5) (Tu (Ao.okE h5)) ?_;cases h;exact rfl
   ·rcases h with ⟨_,e1,h⟩ |⟨_,e1,h⟩
    ·have e2:=T5.done.inj e1;subst e2;subst h;rcases he with rfl |⟨ch,rfl⟩
     ·exact ⟨_,Tl.refl,hr⟩
     ·exact ⟨_,Tl.refl,hr⟩
    ·cases e1
theorem Cm.okE {K:Nat} {p0:List UInt8} {p1:Ab} {r:(Ab×(List Aa)) ⊕ Int} (h:Cm K p0 p1=some r):Ug V P 48 [.P 0,.cv (.str p0),.cv (.fn (.func 49) [.P 0] [])] [(0,.raw (Ae p1))] [0] (Cm.post p0 p1 r) (Cm.rep p0 p1 r) :=
 xo (fn:=Tryz.f48) (n:=25) (m:=100) fun Γ=>Cm.body h
def Cw (K:Nat) (p0:Ab):Option (Int ⊕ (Aa×Ab)):=(Option.bind (Bx K ([([115,105,103,110,97,108]:List UInt8),([113,117,101,114,121]:List UInt8),([117,112,100,97,116,101]:List UInt8)]:List (List UInt8)) ([63,64,65]:List Int) p0) (fun (j,o,k)=>(if o=true then (Option.bind (Au K k) (fun a2=>match a2 with |(Sum.inl a2)=>some (Sum.inl a2) |(Sum.inr (p,q))=>(Option.bind (Ao K ([40]:List UInt8) q) (fun a3=>match a3 with |(Sum.inl a3)=>(Option.bind (Au K a3) (fun a4=>match a4 with |(Sum.inl a4)=>some (Sum.inl a4) |(Sum.inr (s,t))=>(Option.bind (Ao K ([41]:List UInt8) t) (fun a5=>match a5 with |(Sum.inl a5)=>(obind (((Option.bind ((if j=65 then (Option.bind (Ak K ([99,104,101,99,107]:List UInt8) a5) (fun (u,m)=>some (u,m.l,m.i))) else some (false,a5.l,a5.i)):Option (Bool×(List Aq)×Int)) (fun (h,c,d)=>(if h=true then (Option.bind (Al K (⟨c,d⟩:Ab)) (fun a7=>match a7 with |(Sum.inl a7)=>some (T5.done (Sum.inl a7)) |(Sum.inr (a,n))=>(if ([(⟨a.Op,a.Name,a.Int,a.Text,a.Kids⟩:Aa)]:List Aa).length * 72≤140737488355328 then some (T5.go (n.l,n.i,([(⟨a.Op,a.Name,a.Int,a.Text,a.Kids⟩:Aa)]:List Aa))) else none))) else some (T5.go (c,d,([]:List Aa))))))):Option (T5 (Int ⊕ (Aa×Ab)) ((List Aq)×Int×(List Aa)))) (fun r=>r) (fun (f,g,e)=>(Option.bind (Al K (⟨f,g⟩:Ab)) (fun a8=>match a8 with |(Sum.inl a8)=>some (Sum.inl a8) |(Sum.inr (b,v))=>(if (e.length+([(⟨b.Op,b.Name,b.Int,b.Text,b.Kids⟩:Aa)]:List Aa).length) * 72≤140737488355328 then some ((Sum.inr ((⟨j,p,0,s,(e++([(⟨b.Op,b.Name,b.Int,b.Text,b.Kids⟩:Aa)]:List Aa))⟩:Aa),v))) else none))))) |(Sum.inr a5)=>some (Sum.inl a5))))) |(Sum.inr a3)=>some (Sum.inl a3))))) else (Option.bind (Bf K k) (fun a9=>some (Sum.inl a9))))))
def Cw.rep (p0:Ab):Int ⊕ (Aa×Ab)→Uu T
 |(Sum.inl v0)=>.pan (Ui 49 v0)
 |(Sum.inr (v0,v1))=>.ret (.agg [.I v0.Op,.str v0.Name,.I v0.Int,.str v0.Text,.ro .Af v0.Kids])
def Cw.post (p0:Ab):Int ⊕ (Aa×Ab)→List (Nat×T9 T)
 |(Sum.inl v0)=>[]
 |(Sum.inr (v0,v1))=>[(0,.raw [.ro .Ap v1.l,.I v1.i])]
theorem Cw.body {Γ:Ud} {K:Nat} {p0:Ab} {r:Int ⊕ (Aa×Ab)} (h:Cw K p0=some r):Ub V P 49 100 Γ (Tryz.f51.body.getD .skip) (Uh P V Tryz.f51 (Cw.rep p0 r) (Cw.post p0 r)) ⟨Tx 0 [.P 0],[(0,.raw (Ae p0))]⟩:=by
 unfold Cw at h;refine Tw L 200 <| Tm ?_;obtain ⟨⟨g,p,v⟩,h1,h⟩:=bind_some h;dsimp only at h;refine rg L 202 [] [] [(3,(T0 (.tup [.I g,.B p]) [(0,.raw (Ae v))]))] (Tu (Bx.okE h1)) ?_;refine Tm <| Tw L 212 ?_;rcases Tn h with ⟨c1,h⟩ |⟨c1,h⟩
 ·refine ff (b:=(!p)) (congrArg Bool.not (c1)) ?_;refine Tr <| Tm ?_;obtain ⟨a2,h2,h⟩:=bind_some h;rcases a2 with a2 | a2
  ·dsimp only at h;refine qn L 218 [] [] [] 2 (T0 (.tup []) []) (Ui 49 a2) (Tu (Au.okE h2)) ?_;cases h;exact rfl
  ·obtain ⟨i,w⟩:=a2;dsimp only at h;refine rg L 218 [] [] [(2,(T0 (.cv (.str i)) [(0,.raw (Ae w))]))] (Tu (Au.okE h2)) ?_;refine Tm ?_;obtain ⟨a3,h3,h⟩:=bind_some h;rcases a3 with a3 | a3
   ·dsimp only at h;refine rg L 225 [] [] [(1,(T0 (.tup []) [(0,.raw (Ae a3))]))] (Tu (Ao.okE h3)) ?_;refine Tm ?_;obtain ⟨a4,h4,h⟩:=bind_some h;rcases a4 with a4 | a4
    ·dsimp only at h;refine qn L 228 [] [] [] 1 (T0 (.tup []) []) (Ui 49 a4) (Tu (Au.okE h4)) ?_;cases h;exact rfl
    ·obtain ⟨j,x⟩:=a4;dsimp only at h;refine rg L 228 [] [] [(1,(T0 (.cv (.str j)) [(0,.raw (Ae x))]))] (Tu (Au.okE h4)) ?_;refine Tm ?_;obtain ⟨a5,h5,h⟩:=bind_some h;rcases a5 with a5 | a5
     ·dsimp only at h;refine rg L 233 [] [] [(1,(T0 (.tup []) [(0,.raw (Ae a5))]))] (Tu (Ao.okE h5)) ?_;obtain ⟨o2,hp2,h⟩:=T7 h;refine Tm (Uc (Q':=fun e S=>(e=.normal∧∃ k:List Aq,∃ l:Int,∃ m:List Aa,S=⟨[(0,.P 0),(2,.P 23800),(5,.P 23801)],[(0,.raw [.ro .Ap k,.I l]),(23800,.raw [.I 0,.str [],.I 0,.str [],.N]),(23801,.raw [.I g,.str i,.I 0,.str j,.own .Af 23802]),(23802,.lst .Af m)]⟩∧T5.go (k,l,m)=o2)∨((e=.ret∨∃ ch,e=.panic ch)∧∃ a,T5.done a=o2∧Uh P V Tryz.f51 (Cw.rep p0 a) (Cw.post p0 a) e S)) ?_ ?_)
      ·clear h;replace h:=hp2;obtain ⟨o1,hp1,h⟩:=bind_some h;refine Tm (Uc (Q':=fun e S=>(e=.normal∧∃ n:Bool,∃ d:List Aq,∃ f:Int,S=⟨[(0,.P 0),(2,.P 24000),(5,.P 24001),(33,.B n)],[(0,.raw [.ro .Ap d,.I f]),(24000,.raw [.I 0,.str [],.I 0,.str [],.N]),(24001,.raw [.I g,.str i,.I 0,.str j,.N])]⟩∧(n,d,f)=o1)) ?_ ?_)
       ·clear h;replace h:=hp1;rcases Tn h with ⟨c2,h⟩ |⟨c2,h⟩
        ·obtain ⟨⟨s,t⟩,h6,h⟩:=bind_some h;dsimp only at h;refine Tz (rg L 236 [(2,true)] [] [(4,(T0 (.B s) [(0,.raw (Ae t))]))] (Vf (decide_eq_true c2) (Ak.okE h6)) ⟨rfl,rfl⟩) (Tl.trans (Tl.kk [0,2,5,33] [0,200,222]) (Tl.trans (Tl.rr [(0,0),(200,24000),(222,24001)]) (Tl.kp (S':=⟨[(0,.P 0),(2,.P 24000),(5,.P 24001),(33,.B s)],[(0,.raw (Ae t)),(24000,.raw [.I 0,.str [],.I 0,.str [],.N]),(24001,.raw [.I g,.str i,.I 0,.str j,.N])]⟩)))) ?_;cases h;exact ⟨rfl,_,_,_,rfl,rfl⟩
        refine Tz (rg L 236 [(2,false)] [] [] (Tu (decide_eq_false c2)) ⟨rfl,rfl⟩) (Tl.trans (Tl.kk [0,2,5,33] [0,200,222]) (Tl.trans (Tl.rr [(0,0),(200,24000),(222,24001)]) (Tl.kp (S':=⟨[(0,.P 0),(2,.P 24000),(5,.P 24001),(33,.B false)],[(0,.raw (Ae a5)),(24000,.raw [.I 0,.str [],.I 0,.str [],.N]),(24001,.raw [.I g,.str i,.I 0,.str j,.N])]⟩)))) ?_;cases h;exact ⟨rfl,_,_,_,rfl,rfl⟩
       ·rintro e S ⟨rfl,n,d,f,rfl,rfl⟩;dsimp only at h;rcases Tn h with ⟨c3,h⟩ |⟨c3,h⟩
        ·refine tt c3 ?_;obtain ⟨a7,h7,h⟩:=bind_some h;rcases a7 with a7 | a7
         ·dsimp only at h;refine qP L mixed 243 [] [] [] [0,2] 3 (T0 (.tup []) []) (Ui 49 a7) (Vf (Al.okE h7) (Al.okE h7)) ?_;cases h;exact .inr ⟨.inr ⟨_,rfl⟩,_,rfl,rfl⟩
         ·obtain ⟨c,q⟩:=a7;dsimp only at h;obtain ⟨g1,h⟩:=Ts h;refine Tz (hB L mixed 243 [] [] [(3,(T0 (.agg (Ah c)) [(0,.raw (Ae q))]))] [0,2] 3 (Tq (Al.okE h7) (Tq g1 (Tq trivial (Tq (Al.okE h7) (Tq g1 (Tq trivial (Tq g1 (Tu trivial)))))))) (S':=⟨[(0,.P 0),(2,.P 24000),(5,.P 24001)],[(0,.raw (Ae q)),(248,.lst .Af ([(⟨c.Op,c.Name,c.Int,c.Text,c.Kids⟩:Aa)]:List Aa)),(24000,.raw [.I 0,.str [],.I 0,.str [],.N]),(24001,.raw [.I g,.str i,.I 0,.str j,.own .Af 248])]⟩) ⟨rfl,rfl⟩) (Tl.trans (Tl.kk [0,2,5] [0,248,24000,24001]) (Tl.trans (Tl.rr [(0,0),(248,23802),(24000,23800),(24001,23801)]) (Tl.kp (S':=⟨[(0,.P 0),(2,.P 23800),(5,.P 23801)],[(0,.raw (Ae q)),(23800,.raw [.I 0,.str [],.I 0,.str [],.N]),(23801,.raw [.I g,.str i,.I 0,.str j,.own .Af 23802]),(23802,.lst .Af ([(⟨c.Op,c.Name,c.Int,c.Text,c.Kids⟩:Aa)]:List Aa))]⟩)))) ?_;cases h;exact .inl ⟨rfl,_,_,_,rfl,rfl⟩
        refine fN c3 <| Tp (Tl.trans (Tl.kk [0,2,5] [0,24000,24001]) (Tl.trans (Tl.nc 24001 4 9500 Tag.Af) (Tl.trans (Tl.kk [0,2,5] [0,9500,24000,24001]) (Tl.rr [(0,0),(9500,23802),(24000,23800),(24001,23801)])))) ?_;refine sk (S':=⟨[(0,.P 0),(2,.P 23800),(5,.P 23801)],[(0,.raw [.ro .Ap d,.I f]),(23800,.raw [.I 0,.str [],.I 0,.str [],.N]),(23801,.raw [.I g,.str i,.I 0,.str j,.own .Af 23802]),(23802,.lst .Af ([]:List Aa))]⟩) ?_;cases h;exact .inl ⟨rfl,_,_,_,rfl,rfl⟩
      ·rintro e S (⟨rfl,k,l,m,rfl,rfl⟩ |⟨he,a,rfl,hr⟩)
       ·rcases h with ⟨_,e1,h⟩ |⟨_,e1,h⟩
        ·cases e1
        ·have e2:=T5.go.inj e1;subst e2;dsimp only at h;refine Tm ?_;obtain ⟨a8,h8,h⟩:=bind_some h;rcases a8 with a8 | a8
         ·dsimp only at h;refine qP L mixed 252 [] [] [] [0,2] 3 (T0 (.tup []) []) (Ui 49 a8) (Vf (Al.okE h8) (Al.okE h8)) ?_;cases h;exact rfl
         ·obtain ⟨o,u⟩:=a8;dsimp only at h;obtain ⟨g2,h⟩:=Ts h;refine hB L mixed 252 [] [] [(3,(T0 (.agg (Ah o)) [(0,.raw (Ae u))]))] [0,2] 3 (Tq (Al.okE h8) (Tq g2 (Tq trivial (Tq (Al.okE h8) (Tq g2 (Tq trivial (Tq g2 (Tu trivial)))))))) (S':=⟨[(2,.P 23800),(5,.P 23801)],[(0,.raw (Ae u)),(23800,.raw [.I 0,.str [],.I 0,.str [],.N]),(23801,.raw [.I g,.str i,.I 0,.str j,.own .Af 23802]),(23802,.lst .Af (m++([(⟨o.Op,o.Name,o.Int,o.Text,o.Kids⟩:Aa)]:List Aa)))]⟩) ?_;refine Tw L 261 <| Tp (Tl.trans (Tl.kk [2] [0,23800,23802]) (Tl.trans (Tl.fz 23802) (Tl.rr [(0,0),(23800,100)]))) ?_;refine To ?_;cases h;exact Vj
       ·rcases h with ⟨_,e1,h⟩ |⟨_,e1,h⟩
        ·have e2:=T5.done.inj e1;subst e2;subst h;rcases he with rfl |⟨ch,rfl⟩
         ·exact hr
         ·exact hr
        ·cases e1
     ·obtain ⟨a5,rfl⟩:∃ z,z=a5:=⟨_,rfl⟩
      dsimp only at h;refine qn L 233 [] [] [] 1 (T0 (.tup []) []) (Ui 49 a5) (Tu (Ao.okE h5)) ?_;cases h;exact rfl
   ·obtain ⟨a3,rfl⟩:∃ z,z=a3:=⟨_,rfl⟩
    dsimp only at h;refine qn L 225 [] [] [] 1 (T0 (.tup []) []) (Ui 49 a3) (Tu (Ao.okE h3)) ?_;cases h;exact rfl
 refine tt (b:=(!p)) (congrArg Bool.not (eq_false_of_ne_true c1)) ?_;obtain ⟨a9,h9,h⟩:=bind_some h;refine qn L 215 [] [] [] 1 (T0 (.tup []) []) (Ui 49 a9) (Tu (Bf.okE h9)) ?_;cases h;exact rfl
theorem Cw.okE {K:Nat} {p0:Ab} {r:Int ⊕ (Aa×Ab)} (h:Cw K p0=some r):Ug V P 51 [.P 0] [(0,.raw (Ae p0))] [0] (Cw.post p0 r) (Cw.rep p0 r) :=
 xo (fn:=Tryz.f51) (n:=49) (m:=100) fun Γ=>Cw.body h
def Bh.l7 (K:Nat):Nat→(List Aq)→Int→(List Aa)→Option (T5 (Int ⊕ (Aa×Ab)) ((List Aq)×Int×(List Aa)))
 | 0,_,_,_=>none
 | k+1,e,f,c=>(Option.bind (Bj K (⟨e,f⟩:Ab)) (fun a1=>(if a1.Kind≠0 then (Option.bind (Ak K ([118,97,114]:List UInt8) (⟨e,f⟩:Ab)) (fun (r,m)=>(if r=true then (Option.bind (Au K m) (fun a3=>match a3 with |(Sum.inl a3)=>some (T5.done (Sum.inl a3)) |(Sum.inr (n,s))=>(Option.bind (Ao K ([61]:List UInt8) s) (fun a4=>match a4 with |(Sum.inl a4)=>(Option.bind (Cx K a4) (fun a5=>match a5 with |(Sum.inl a5)=>some (T5.done (Sum.inl a5)) |(Sum.inr (d,t))=>(if (c.length+([(⟨61,n,0,[],([(⟨d.Op,d.Name,d.Int,d.Text,d.Kids⟩:Aa)]:List Aa)⟩:Aa)]:List Aa).length) * 72≤140737488355328 then (Option.bind (Ao K ([59]:List UInt8) t) (fun a6=>match a6 with |(Sum.inl a6)=>Bh.l7 K k a6.l a6.i (c++([(⟨61,n,0,[],([(⟨d.Op,d.Name,d.Int,d.Text,d.Kids⟩:Aa)]:List Aa)⟩:Aa)]:List Aa)) |(Sum.inr a6)=>some (T5.done (Sum.inl a6)))) else none))) |(Sum.inr a4)=>some (T5.done (Sum.inl a4)))))) else (Option.bind (Ak K ([102,117,110,99]:List UInt8) m) (fun (u,o)=>(if u=true then (Option.bind (Au K o) (fun a8=>match a8 with |(Sum.inl a8)=>some (T5.done (Sum.inl a8)) |(Sum.inr (p,v))=>(Option.bind (Ao K ([40]:List UInt8) v) (fun a9=>match a9 with |(Sum.inl a9)=>(Option.bind (Cm K ([41]:List UInt8) a9) (fun a10=>match a10 with |(Sum.inl (q,g))=>(Option.bind (Al K q) (fun a11=>match a11 with |(Sum.inl a11)=>some (T5.done (Sum.inl a11)) |(Sum.inr (a,h))=>(if (g.length+([(⟨a.Op,a.Name,a.Int,a.Text,a.Kids⟩:Aa)]:List Aa).length) * 72≤140737488355328 then (if (c.length+([(⟨62,p,0,[],(g++([(⟨a.Op,a.Name,a.Int,a.Text,a.Kids⟩:Aa)]:List Aa))⟩:Aa)]:List Aa).length) * 72≤140737488355328 then Bh.l7 K k h.l h.i ((c++([(⟨62,p,0,[],(g++([(⟨a.Op,a.Name,a.Int,a.Text,a.Kids⟩:Aa)]:List Aa))⟩:Aa)]:List Aa))) else none) else none))) |(Sum.inr a10)=>some (T5.done (Sum.inl a10)))) |(Sum.inr a9)=>some (T5.done (Sum.inl a9)))))) else (Option.bind (Ao K ([111,110]:List UInt8) o) (fun a12=>match a12 with |(Sum.inl a12)=>(Option.bind (Cw K a12) (fun a13=>match a13 with |(Sum.inl a13)=>some (T5.done (Sum.inl a13)) |(Sum.inr (b,j))=>(if (c.length+([(⟨b.Op,b.Name,b.Int,b.Text,b.Kids⟩:Aa)]:List Aa).length) * 72≤140737488355328 then Bh.l7 K k j.l j.i (c++([(⟨b.Op,b.Name,b.Int,b.Text,b.Kids⟩:Aa)]:List Aa)) else none))) |(Sum.inr a12)=>some (T5.done (Sum.inl a12)))))))))) else some (T5.go (e,f,c)))))
def Bh (K:Nat) (p0:Ab):Option (Int ⊕ (Aa×Ab)):=(obind (Bh.l7 K K p0.l p0.i ([]:List Aa):Option (T5 (Int ⊕ (Aa×Ab)) ((List Aq)×Int×(List Aa)))) (fun r=>r) (fun (a,b,c)=>some (Sum.inr ((⟨60,[],0,[],c⟩:Aa),(⟨a,b⟩:Ab)))))
def Bh.rep (p0:Ab):Int ⊕ (Aa×Ab)→Uu T
 |(Sum.inl v0)=>.pan (Ui 49 v0)
 |(Sum.inr (v0,v1))=>.ret (.agg [.I v0.Op,.str v0.Name,.I v0.Int,.str v0.Text,.ro .Af v0.Kids])
def Bh.post (p0:Ab):Int ⊕ (Aa×Ab)→List (Nat×T9 T)
 |(Sum.inl v0)=>[]
 |(Sum.inr (v0,v1))=>[(0,.raw [.ro .Ap v1.l,.I v1.i])]
theorem Bh.body {Γ:Ud} {K:Nat} {p0:Ab} {r:Int ⊕ (Aa×Ab)} (h:Bh K p0=some r):Ub V P 64 100 Γ (Tryz.f26.body.getD .skip) (Uh P V Tryz.f26 (Bh.rep p0 r) (Bh.post p0 r)) ⟨Tx 0 [.P 0],[(0,.raw (Ae p0))]⟩:=by
 unfold Bh at h;refine Tw L 200 <| Tw L 202 <| Tm <| Tt <| Tp (Tl.trans (Tl.kk [0,2,3] [0,200,203]) (Tl.trans (Tl.nc 203 4 9500 Tag.Af) (Tl.trans (Tl.kk [0,2,3] [0,200,203,9500]) (Tl.rr [(0,0),(200,21500),(203,21501),(9500,21502)])))) ?_;refine kp (S':=⟨[(0,.P 0),(2,.P 21500),(3,.P 21501)],[(0,.raw (Ae p0)),(21500,.raw [.I 0,.str [],.I 0,.str [],.N]),(21501,.raw [.I 60,.str [],.I 0,.str [],.own .Af 21502]),(21502,.lst .Af ([]:List Aa))]⟩) ?_;obtain ⟨o1,hp1,h⟩:=T7 h;refine T4 (Q':=fun e S=>(e=.exit 0∧∃ j:List Aq,∃ l:Int,∃ m:List Aa,S=⟨[(2,.P 21400),(3,.P 21401)],[(0,.raw [.ro .Ap j,.I l]),(21400,.raw [.I 0,.str [],.I 0,.str [],.N]),(21401,.raw [.I 60,.str [],.I 0,.str [],.own .Af 21402]),(21402,.lst .Af m)]⟩∧T5.go (j,l,m)=o1)∨((e=.ret∨∃ ch,e=.panic ch)∧∃ a,T5.done a=o1∧Uh P V Tryz.f26 (Bh.rep p0 a) (Bh.post p0 a) e S)) (T8 (fun k S=>∃ d:List Aq,∃ f:Int,∃ b:List Aa,S=⟨[(0,.P 0),(2,.P 21500),(3,.P 21501)],[(0,.raw [.ro .Ap d,.I f]),(21500,.raw [.I 0,.str [],.I 0,.str [],.N]),(21501,.raw [.I 60,.str [],.I 0,.str [],.own .Af 21502]),(21502,.lst .Af b)]⟩∧Bh.l7 K k d f b=some o1) ?_ ⟨_,_,_,rfl,hp1⟩) ?_
 ·clear h hp1;intro k S hS;obtain ⟨d,f,b,rfl,h⟩:=hS;cases k with
  | zero=>cases h
  | succ k =>
  unfold Bh.l7 at h;refine Tm <| Tm ?_;obtain ⟨a1,h1,h⟩:=bind_some h;refine rg L 206 [] [(1,.agg (D1 a1))] [] (U4 (Bj.ok h1)) ?_;rcases Tn h with ⟨c1,h⟩ |⟨c1,h⟩
  ·refine tT c1 <| Tr <| Tt <| Tt <| Tm ?_;obtain ⟨⟨v,w⟩,h2,h⟩:=bind_some h;dsimp only at h;refine rg L 211 [] [] [(1,(T0 (.B v) [(0,.raw (Ae w))]))] (Tu (Ak.okE h2)) ?_;rcases Tn h with ⟨c2,h⟩ |⟨c2,h⟩
   ·refine tt c2 <| Tm ?_;obtain ⟨a3,h3,h⟩:=bind_some h;rcases a3 with a3 | a3
    ·dsimp only at h;refine qn L 215 [] [] [] 1 (T0 (.tup []) []) (Ui 49 a3) (Tu (Au.okE h3)) ?_;cases h;exact .inr ⟨.inr ⟨_,rfl⟩,_,rfl,rfl⟩
    ·obtain ⟨n,x⟩:=a3;dsimp only at h;refine rg L 215 [] [] [(1,(T0 (.cv (.str n)) [(0,.raw (Ae x))]))] (Tu (Au.okE h3)) ?_;refine Tm ?_;obtain ⟨a4,h4,h⟩:=bind_some h;rcases a4 with a4 | a4
     ·dsimp only at h;refine rg L 219 [] [] [(1,(T0 (.tup []) [(0,.raw (Ae a4))]))] (Tu (Ao.okE h4)) ?_;refine Tm ?_;obtain ⟨a5,h5,h⟩:=bind_some h;rcases a5 with a5 | a5
      ·dsimp only at h;refine qP L mixed 222 [] [] [] [0,2,3] 4 (T0 (.tup []) []) (Ui 49 a5) (Vf (Cx.okE h5) (Cx.okE h5)) ?_;cases h;exact .inr ⟨.inr ⟨_,rfl⟩,_,rfl,rfl⟩
      ·obtain ⟨c,o⟩:=a5;dsimp only at h;obtain ⟨g1,h⟩:=Ts h;refine hB L mixed 222 [] [] [(4,(T0 (.agg (Ah c)) [(0,.raw (Ae o))]))] [0,2,3] 5 (Tq (Cx.okE h5) (Tq g1 (Tq trivial (Tq (Cx.okE h5) (Tq g1 (Tq trivial (Tq g1 (Tq trivial (Tq g1 (Tq trivial (Tq g1 (Tu trivial)))))))))))) (S':=⟨[(0,.P 0),(2,.P 21500),(3,.P 21501)],[(0,.raw (Ae o)),(21500,.raw [.I 0,.str [],.I 0,.str [],.N]),(21501,.raw [.I 60,.str [],.I 0,.str [],.own .Af 21502]),(21502,.lst .Af (b++([(⟨61,n,0,[],([(⟨c.Op,c.Name,c.Int,c.Text,c.Kids⟩:Aa)]:List Aa)⟩:Aa)]:List Aa)))]⟩) ?_;obtain ⟨a6,h6,h⟩:=bind_some h;rcases a6 with a6 | a6
       ·dsimp only at h;refine ar L 234 [] [] [(1,(T0 (.tup []) [(0,.raw (Ae a6))]))] (cs:=[Tv V P 46 [.P 0,.cv (.str ([59]:List UInt8))] [(0,.raw (Ae o))] [0] (.tup []) [(0,.raw (Ae a6))]]) (S':=⟨[(0,.P 0),(2,.P 21500),(3,.P 21501)],[(0,.raw (Ae a6)),(21500,.raw [.I 0,.str [],.I 0,.str [],.N]),(21501,.raw [.I 60,.str [],.I 0,.str [],.own .Af 21502]),(21502,.lst .Af (b++([(⟨61,n,0,[],([(⟨c.Op,c.Name,c.Int,c.Text,c.Kids⟩:Aa)]:List Aa)⟩:Aa)]:List Aa)))]⟩) (Ao.okE h6) ?_;exact ⟨k,Nat.lt_succ_self k,_,_,_,rfl,h⟩
       ·obtain ⟨a6,rfl⟩:∃ z,z=a6:=⟨_,rfl⟩
        dsimp only at h;refine qn L 234 [] [] [] 1 (T0 (.tup []) []) (Ui 49 a6) (Tu (Ao.okE h6)) ?_;cases h;exact .inr ⟨.inr ⟨_,rfl⟩,_,rfl,rfl⟩
     ·obtain ⟨a4,rfl⟩:∃ z,z=a4:=⟨_,rfl⟩
      dsimp only at h;refine qn L 219 [] [] [] 1 (T0 (.tup []) []) (Ui 49 a4) (Tu (Ao.okE h4)) ?_;cases h;exact .inr ⟨.inr ⟨_,rfl⟩,_,rfl,rfl⟩
   refine fN c2 <| Tm ?_;obtain ⟨⟨y,aa⟩,h7,h⟩:=bind_some h;dsimp only at h;refine rg L 237 [] [] [(1,(T0 (.B y) [(0,.raw (Ae aa))]))] (Tu (Ak.okE h7)) ?_;rcases Tn h with ⟨c3,h⟩ |⟨c3,h⟩
   ·refine tt c3 <| Tm ?_;obtain ⟨a8,h8,h⟩:=bind_some h;rcases a8 with a8 | a8
    ·dsimp only at h;refine qn L 241 [] [] [] 1 (T0 (.tup []) []) (Ui 49 a8) (Tu (Au.okE h8)) ?_;cases h;exact .inr ⟨.inr ⟨_,rfl⟩,_,rfl,rfl⟩
    ·obtain ⟨t,ab⟩:=a8;dsimp only at h;refine rg L 241 [] [] [(1,(T0 (.cv (.str t)) [(0,.raw (Ae ab))]))] (Tu (Au.okE h8)) ?_;refine Tm ?_;obtain ⟨a9,h9,h⟩:=bind_some h;rcases a9 with a9 | a9
     ·dsimp only at h;refine rg L 245 [] [] [(1,(T0 (.tup []) [(0,.raw (Ae a9))]))] (Tu (Ao.okE h9)) ?_;refine Tm ?_;obtain ⟨a10,h10,h⟩:=bind_some h;rcases a10 with ⟨u,p⟩ | a10
      ·dsimp only at h;refine rg L 248 [] [] [(3,(ef [0] [0] (.cv (.own .Af 100)) [(0,.raw (Ae u)),(100,.lst .Af p)] [(0,0),(100,5408)]))] (Tu (Cm.okE h10)) ?_;obtain ⟨a11,h11,h⟩:=bind_some h;rcases a11 with a11 | a11
       ·dsimp only at h;refine qP L mixed 254 [] [] [] [0,2,3,4] 5 (T0 (.tup []) []) (Ui 49 a11) (Vf (Al.okE h11) (Al.okE h11)) ?_;cases h;exact .inr ⟨.inr ⟨_,rfl⟩,_,rfl,rfl⟩
       ·obtain ⟨g,q⟩:=a11;dsimp only at h;obtain ⟨g2,h⟩:=Ts h;obtain ⟨g3,h⟩:=Ts h;refine hB L mixed 254 [] [] [(5,(T0 (.agg (Ah g)) [(0,.raw (Ae q))])),(9,{ hids:=[],fx:=[],r:=.tup [],H':=[],σ:=[],fr:=[5408] })] [0,2,3,4] 6 (Tq (Al.okE h11) (Tq g2 (Tq trivial (Tq g3 (Tq trivial (Tq (Al.okE h11) (Tq g2 (Tq trivial (Tq g3 (Tq trivial (Tq g2 (Tq trivial (Tq g3 (Tq trivial (Tq g2 (Tq trivial (Tq g3 (Tq trivial (Tq g3 (Tq trivial (Tq g3 (Tu trivial)))))))))))))))))))))) (S':=⟨[(0,.P 0),(2,.P 21500),(3,.P 21501)],[(0,.raw (Ae q)),(21500,.raw [.I 0,.str [],.I 0,.str [],.N]),(21501,.raw [.I 60,.str [],.I 0,.str [],.own .Af 21502]),(21502,.lst .Af ((b++([(⟨62,t,0,[],(p++([(⟨g.Op,g.Name,g.Int,g.Text,g.Kids⟩:Aa)]:List Aa))⟩:Aa)]:List Aa))))]⟩) ?_;exact ⟨k,Nat.lt_succ_self k,_,_,_,rfl,h⟩
      ·obtain ⟨a10,rfl⟩:∃ z,z=a10:=⟨_,rfl⟩
       dsimp only at h;refine qn L 248 [] [] [] 3 (T0 (.tup []) []) (Ui 49 a10) (Tu (Cm.okE h10)) ?_;cases h;exact .inr ⟨.inr ⟨_,rfl⟩,_,rfl,rfl⟩
     ·obtain ⟨a9,rfl⟩:∃ z,z=a9:=⟨_,rfl⟩
      dsimp only at h;refine qn L 245 [] [] [] 1 (T0 (.tup []) []) (Ui 49 a9) (Tu (Ao.okE h9)) ?_;cases h;exact .inr ⟨.inr ⟨_,rfl⟩,_,rfl,rfl⟩
   refine fN c3 <| Tm ?_;obtain ⟨a12,h12,h⟩:=bind_some h;rcases a12 with a12 | a12
   ·dsimp only at h;refine rg L 268 [] [] [(1,(T0 (.tup []) [(0,.raw (Ae a12))]))] (Tu (Ao.okE h12)) ?_;obtain ⟨a13,h13,h⟩:=bind_some h;rcases a13 with a13 | a13
    ·dsimp only at h;refine qP L mixed 271 [] [] [] [0,2] 3 (T0 (.tup []) []) (Ui 49 a13) (Vf (Cw.okE h13) (Cw.okE h13)) ?_;cases h;exact .inr ⟨.inr ⟨_,rfl⟩,_,rfl,rfl⟩
    ·obtain ⟨i,s⟩:=a13;dsimp only at h;obtain ⟨g4,h⟩:=Ts h;refine hB L mixed 271 [] [] [(3,(T0 (.agg (Ah i)) [(0,.raw (Ae s))]))] [0,2] 3 (Tq (Cw.okE h13) (Tq g4 (Tq trivial (Tq (Cw.okE h13) (Tq g4 (Tq trivial (Tq g4 (Tu trivial)))))))) (S':=⟨[(0,.P 0),(2,.P 21500),(3,.P 21501)],[(0,.raw (Ae s)),(21500,.raw [.I 0,.str [],.I 0,.str [],.N]),(21501,.raw [.I 60,.str [],.I 0,.str [],.own .Af 21502]),(21502,.lst .Af (b++([(⟨i.Op,i.Name,i.Int,i.Text,i.Kids⟩:Aa)]:List Aa)))]⟩) ?_;exact ⟨k,Nat.lt_succ_self k,_,_,_,rfl,h⟩
   ·obtain ⟨a12,rfl⟩:∃ z,z=a12:=⟨_,rfl⟩
    dsimp only at h;refine qn L 268 [] [] [] 1 (T0 (.tup []) []) (Ui 49 a12) (Tu (Ao.okE h12)) ?_;cases h;exact .inr ⟨.inr ⟨_,rfl⟩,_,rfl,rfl⟩
  refine fF c1 <| Tp (Tl.trans (Tl.kk [2,3] [0,21500,21501,21502]) (Tl.rr [(0,0),(21500,21400),(21501,21401),(21502,21402)])) ?_;refine ex (S':=⟨[(2,.P 21400),(3,.P 21401)],[(0,.raw [.ro .Ap d,.I f]),(21400,.raw [.I 0,.str [],.I 0,.str [],.N]),(21401,.raw [.I 60,.str [],.I 0,.str [],.own .Af 21402]),(21402,.lst .Af b)]⟩) ?_;cases h;exact .inl ⟨rfl,_,_,_,rfl,rfl⟩
 ·rintro e S (⟨rfl,j,l,m,rfl,rfl⟩ |⟨he,a,rfl,hr⟩)
  ·rcases h with ⟨_,e1,h⟩ |⟨_,e1,h⟩
   ·cases e1
   ·have e2:=T5.go.inj e1;subst e2;dsimp only at h;refine ⟨_,Tl.refl,?_⟩;refine Tw L 280 <| Tp (Tl.trans (Tl.kk [2] [0,21400,21402]) (Tl.trans (Tl.fz 21402) (Tl.rr [(0,0),(21400,100)]))) ?_;refine To ?_;cases h;exact Vj
  ·rcases h with ⟨_,e1,h⟩ |⟨_,e1,h⟩
   ·have e2:=T5.done.inj e1;subst e2;subst h;rcases he with rfl |⟨ch,rfl⟩
    ·exact ⟨_,Tl.refl,hr⟩
    ·exact ⟨_,Tl.refl,hr⟩
   ·cases e1
theorem Bh.okE {K:Nat} {p0:Ab} {r:Int ⊕ (Aa×Ab)} (h:Bh K p0=some r):Ug V P 26 [.P 0] [(0,.raw (Ae p0))] [0] (Bh.post p0 r) (Bh.rep p0 r) :=
 xo (fn:=Tryz.f26) (n:=64) (m:=100) fun Γ=>Bh.body h
def Ef (K:Nat) (p0:List Aq) (p1:Int):Option (Int ⊕ (Aa×Int×Int)):=(Option.bind (Bh K (⟨p0,0⟩:Ab)) (fun a1=>match a1 with |(Sum.inl a1)=>some (Sum.inl a1) |(Sum.inr (a,b))=>(Option.bind (Bj K b) (fun a2=>(if a2.Kind≠0 then (Option.bind (Bf K b) (fun a3=>some (Sum.inl a3))) else (Option.bind (C3 K a) (fun a4=>(if a4 > 4000 then some (Sum.inr ((⟨0,[],0,[],([]:List Aa)⟩:Aa),0,6)) else (Option.bind (C1 K a) (fun a5=>(if a5 > 40 then some (Sum.inr ((⟨0,[],0,[],([]:List Aa)⟩:Aa),0,7)) else some (Sum.inr (a,0,0)))))))))))))
def Ef.rep (p0:List Aq) (p1:Int):Int ⊕ (Aa×Int×Int)→Uu T
 |(Sum.inl v0)=>.pan (Ui 49 v0)
 |(Sum.inr (v0,v1,v2))=>.ret (.tup [.agg [.I v0.Op,.str v0.Name,.I v0.Int,.str v0.Text,.ro .Af v0.Kids],.I v1,.I v2])
theorem Ef.body {Γ:Ud} {K:Nat} {p0:List Aq} {p1:Int} {r:Int ⊕ (Aa×Int×Int)} (h:Ef K p0 p1=some r):Ub V P 44 93 Γ (Ue (Ue (Ue (Ue (Tryz.f25.body.getD .skip))))) (Xu P V Tryz.f25 (Ef.rep p0 p1 r)) ⟨[(1,.cv (.fn (.func 26) [] [])),(4,.P 90),(5,.P 91),(6,.P 92),(7,.cv (.ro .Ap p0))],[(90,.raw [.I 0,.str [],.I 0,.str [],.N]),(91,.raw [.I p1]),(92,.raw [.I 0])]⟩:=by
 unfold Ef at h;refine Tw L 200 <| Tm ?_;obtain ⟨a1,h1,h⟩:=bind_some h;rcases a1 with a1 | a1
 ·dsimp only at h;refine pn L 205 [] [] [] 2 [4,5,6] [90,91,92] (ef [0] [0] (.tup []) [] [(0,202)]) (Ui 49 a1) (cs:=[Adr V P 26 [.P 0] [(0,.raw [.ro .Ap p0,.I 0])] (Ui 49 a1)]) (S':=⟨[(4,.P 90),(5,.P 91),(6,.P 92)],[(90,.raw [.I 0,.str [],.I 0,.str [],.N]),(91,.raw [.I p1]),(92,.raw [.I 0])]⟩) (Bh.okE h1) ?_;cases h;exact (rp:Xu P V Tryz.f25 (Ef.rep p0 p1 (Sum.inl a1)) _ _)
 ·obtain ⟨a,b⟩:=a1;dsimp only at h;refine rg L 205 [] [] [(2,(ef [0] [0] (.agg (Ah a)) [(0,.raw (Ae b))] [(0,202)]))] (Tu (Bh.okE h1)) ?_;refine Tm <| Tm ?_;obtain ⟨a2,h2,h⟩:=bind_some h;refine rg L 210 [] [(1,.agg (D1 a2))] [] (U4 (Bj.ok h2)) ?_;rcases Tn h with ⟨c1,h⟩ |⟨c1,h⟩
  ·refine tT c1 ?_;obtain ⟨a3,h3,h⟩:=bind_some h;refine pn L 215 [] [] [] 1 [4,5,6] [90,91,92] (ef [0] [0] (.tup []) [] [(0,202)]) (Ui 49 a3) (cs:=[Adr V P 43 [.P 0] [(0,.raw (Ae b))] (Ui 49 a3)]) (S':=⟨[(4,.P 90),(5,.P 91),(6,.P 92)],[(90,.raw (Ah a)),(91,.raw [.I p1]),(92,.raw [.I 0])]⟩) (Bf.okE h3) ?_;cases h;exact (rp:Xu P V Tryz.f25 (Ef.rep p0 p1 (Sum.inl a3)) _ _)
  refine fF c1 <| Tr <| Tm <| Tt <| Tm ?_;obtain ⟨a4,h4,h⟩:=bind_some h;refine rg L 218 [] [(1,.I a4)] [] (U4 (C3.ok h4)) ?_;rcases Tn h with ⟨c2,h⟩ |⟨c2,h⟩
  ·refine tT c2 <| Tw L 223 <| To ?_;cases h;exact rr0
  refine fF c2 <| Tm ?_;obtain ⟨a5,h5,h⟩:=bind_some h;refine rg L 228 [] [(1,.I a5)] [] (U4 (C1.ok h5)) ?_;rcases Tn h with ⟨c3,h⟩ |⟨c3,h⟩
  ·refine tT c3 <| Tw L 233 <| To ?_;cases h;exact rr0
  refine fF c3 <| Tr <| Tw L 238 <| To ?_;cases h;exact rr0
def Gm:Int ⊕ (Aa×Int×Int)→Aa×Int×Int
 |(Sum.inl v0)=>(B5,v0,29)
 |(Sum.inr (v0,v1,v2))=>(v0,v1,v2)
def E9 (K:Nat) (p0:List UInt8):Option (Aa×Int×Int):=Option.bind (Ec K p0) (fun (c,a,b)=>if b≠0 then some (B5,a,b) else Option.bind (Ef K c a) (fun x=>some (Gm x)))
theorem E9.ok {K:Nat} {p0:List UInt8} {r:Aa×Int×Int} (h:E9 K p0=some r):T1 V P 25 [.cv (.str p0),.cv (.fn (.func 26) [] [])] (.tup [.agg (Ah r.1),.I r.2.1,.I r.2.2]):=by
 unfold E9 at h;obtain ⟨⟨l,at0,e0⟩,h1,h⟩:=bind_some h;dsimp only at h;by_cases he:e0≠0
 ·rw [if_pos he] at h;obtain rfl:=Option.some.inj h;exact Ki (Ec.ok h1) he
 ·rw [if_neg he] at h;obtain ⟨x,h2,h⟩:=bind_some h;obtain rfl:=Option.some.inj h;have he0:e0=0:=Decidable.not_not.1 he;subst he0;refine Ju (o:=Ef.rep l at0 x) (Ec.ok h1) (fun Γ=>Ef.body h2) ?_;rcases x with v0 |⟨v0,v1,v2⟩
  ·exact .inr ⟨v0,rfl,rfl⟩
  ·exact .inl rfl
def Ek (K:Nat) (p0:List UInt8):Option (Aa×Int×Int):=(Option.bind (E9 K p0) (fun (a,b,c)=>some (a,b,c)))
theorem Ek.body {Γ:Ud} {K:Nat} {p0:List UInt8} {r:Aa×Int×Int} (h:Ek K p0=some r):Ub V P 10 100 Γ (Tryz.f10.body.getD .skip) (Ty P V Tryz.f10 (.tup [.agg [.I r.1.Op,.str r.1.Name,.I r.1.Int,.str r.1.Text,.ro .Af r.1.Kids],.I r.2.1,.I r.2.2]) []) ⟨Tx 0 [.cv (.str p0)],[]⟩:=by
 unfold Ek at h;refine Tw L 200 <| Tm ?_;obtain ⟨⟨a,b,c⟩,h1,h⟩:=bind_some h;dsimp only at h;refine rg L 204 [] [(1,.tup [.agg (Ah a),.I b,.I c])] [] (U4 (E9.ok h1)) ?_;refine Tp (Tl.trans (Tl.kk [2,3,4] [200]) (Tl.rr [(200,100)])) ?_;refine To ?_;cases h;exact T3
theorem Ek.ok {K:Nat} {p0:List UInt8} {r:Aa×Int×Int} (h:Ek K p0=some r):T1 V P 10 [.cv (.str p0)] (.tup [.agg [.I r.1.Op,.str r.1.Name,.I r.1.Int,.str r.1.Text,.ro .Af r.1.Kids],.I r.2.1,.I r.2.2]):=Tv.pcall (eo (fn:=Tryz.f10) (n:=10) (m:=100) fun Γ=>Ek.body h) (by kernel_rfl)
structure Df where
 Bg:Aa→Aa→Option Bool
structure Df.Ok (R:Df):Prop where
 Bg:∀ {p0:Aa} {p1:Aa} {r:Bool},R.Bg p0 p1=some r→Tv V P 12 [.agg (Ah p0),.agg (Ah p1)] [] [] (.B r) []
theorem Bg.okR {R:Df} (hR:R.Ok) {p0:Aa} {p1:Aa} {r:Bool} (h:R.Bg p0 p1=some r):T1 V P 12 [.agg (Ah p0),.agg (Ah p1)] (.B r):=(hR.Bg h).pcall (by kernel_rfl)
def Bg.l15 (K:Nat) (R:Df) (p0:Aa) (p1:Aa):Nat→Int→Option (T5 Bool Unit)
 | 0,_=>none
 | k+1,a=>(if a <(p0.Kids.length:Int) then (if (0:Int)≤a∧(a:Int) <(p0.Kids.length:Int) then (if (a:Int) <(p1.Kids.length:Int) then (Option.bind (R.Bg (p0.Kids.getD (Int.toNat a) B5) (p1.Kids.getD (Int.toNat a) B5)) (fun a1=>(if a1=true then Bg.l15 K R p0 p1 k (IntKind.i64.wrap (a+1)) else some (T5.done false)))) else none) else none) else some (T5.go ()))
def Bg.F (K:Nat) (R:Df) (p0:Aa) (p1:Aa):Option Bool:=(if p0.Op≠p1.Op then some false else (if p0.Name≠p1.Name then some false else (if p0.Int≠p1.Int then some false else (if p0.Text≠p1.Text then some false else (if (p0.Kids.length:Int)≠(p1.Kids.length:Int) then some false else (obind (Bg.l15 K R p0 p1 K 0:Option (T5 Bool Unit)) (fun r=>r) (fun _=>some true)))))))
theorem Bg.body {Γ:Ud} {K:Nat} {R:Df} (hR:R.Ok) {p0:Aa} {p1:Aa} {r:Bool} (h:Bg.F K R p0 p1=some r):Ub V P 60 100 Γ (Tryz.f12.body.getD .skip) (Ty P V Tryz.f12 (.B r) []) ⟨Tx 0 [.agg (Ah p0),.agg (Ah p1)],[]⟩:=by
 unfold Bg.F at h;refine Tw L 200 <| Tm <| Tm ?_;rcases Tn h with ⟨c1,h⟩ |⟨c1,h⟩
 ·refine rg L 204 [(5,true)] [] [] (Tu (decide_eq_true c1)) ?_;refine tt (b:=true) (rfl) ?_;refine Tw L 240 <| To ?_;cases h;exact T3
 rcases Tn h with ⟨c2,h⟩ |⟨c2,h⟩
 ·refine rg L 204 [(5,false),(12,true)] [] [] (Vf (decide_eq_false c1) (decide_eq_true c2)) ?_;refine tt (b:=true) (rfl) ?_;refine Tw L 240 <| To ?_;cases h;exact T3
 rcases Tn h with ⟨c3,h⟩ |⟨c3,h⟩
 ·refine rg L 204 [(5,false),(12,false),(19,true)] [] [] (Tq (decide_eq_false c1) (Tq (decide_eq_false c2) (Tu (decide_eq_true c3)))) ?_;refine tt (b:=true) (rfl) ?_;refine Tw L 240 <| To ?_;cases h;exact T3
 rcases Tn h with ⟨c4,h⟩ |⟨c4,h⟩
 ·refine rg L 204 [(5,false),(12,false),(19,false),(26,true)] [] [] (Tq (decide_eq_false c1) (Tq (decide_eq_false c2) (Tq (decide_eq_false c3) (Tu (decide_eq_true c4))))) ?_;refine tt (b:=true) (rfl) ?_;refine Tw L 240 <| To ?_;cases h;exact T3
 refine rg L 204 [(5,false),(12,false),(19,false),(26,false)] [] [] (Tq (decide_eq_false c1) (Tq (decide_eq_false c2) (Tq (decide_eq_false c3) (Tu (decide_eq_false c4))))) ?_;rcases Tn h with ⟨c5,h⟩ |⟨c5,h⟩
 ·refine tT c5 <| Tw L 240 <| To ?_;cases h;exact T3
 refine fF c5 <| Tr <| Tm <| Tw L 242 <| Tt <| Tp (Tl.trans (Tl.kk [2,3,5] [200,201]) (Tl.rr [(200,23100),(201,23101)])) ?_;refine kp (S':=⟨[(2,.P 23100),(3,.P 23101),(5,.I 0)],[(23100,.raw (Ah p0)),(23101,.raw (Ah p1))]⟩) ?_;obtain ⟨o1,hp1,h⟩:=T7 h;refine T4 (Q':=fun e S=>(e=.exit 0∧S=⟨[],[]⟩∧T5.go ()=o1)∨(e=.ret∧∃ a,T5.done a=o1∧Ty P V Tryz.f12 (.B a) [] .ret S)) (T8 (fun k S=>∃ c:Int,S=⟨[(2,.P 23100),(3,.P 23101),(5,.I c)],[(23100,.raw (Ah p0)),(23101,.raw (Ah p1))]⟩∧Bg.l15 K R p0 p1 k c=some o1) ?_ ⟨_,rfl,hp1⟩) ?_
 ·clear h hp1;intro k S hS;obtain ⟨c,rfl,h⟩:=hS;cases k with
  | zero=>cases h
  | succ k =>
  unfold Bg.l15 at h;refine Tm <| Tw L 244 ?_;rcases Tn h with ⟨c6,h⟩ |⟨c6,h⟩
  ·refine tT c6 <| Tr <| Tm <| Tt <| Tm ?_;obtain ⟨g1,h⟩:=Ts h;obtain ⟨g2,h⟩:=Ts h;obtain ⟨a1,h1,h⟩:=bind_some h;refine rd L mixed 250 [] [(10,.B a1)] [] [] 12 (Tq g1.1 (Tq g1.2 (Tq g1.1 (Tq g2 (Tq (Bg.okR hR h1) (Tu trivial)))))) ?_;rcases Tn h with ⟨c7,h⟩ |⟨c7,h⟩
   ·refine ff (b:=(!a1)) (congrArg Bool.not (c7)) ?_;refine Tr <| Xi L 265 [] [] [] (S':=⟨[(2,.P 23100),(3,.P 23101),(5,.I (IntKind.i64.wrap (c+1)))],[(23100,.raw (Ah p0)),(23101,.raw (Ah p1))]⟩) ?_;exact ⟨k,Nat.lt_succ_self k,_,rfl,h⟩
   refine tt (b:=(!a1)) (congrArg Bool.not (eq_false_of_ne_true c7)) ?_;refine Tw L 263 <| To ?_;cases h;exact .inr ⟨rfl,_,rfl,T3⟩
  refine fF c6 <| ex (S':=⟨[],[]⟩) ?_;cases h;exact .inl ⟨rfl,rfl,rfl⟩
 ·rintro e S (⟨rfl,rfl,rfl⟩ |⟨rfl,a,rfl,hr⟩)
  ·rcases h with ⟨_,e1,h⟩ |⟨_,e1,h⟩
   ·cases e1
   ·have e2:=T5.go.inj e1;subst e2;refine ⟨_,Tl.refl,?_⟩;refine Tw L 269 <| To ?_;cases h;exact T3
  ·rcases h with ⟨_,e1,h⟩ |⟨_,e1,h⟩
   ·have e2:=T5.done.inj e1;subst e2;subst h;exact ⟨_,Tl.refl,hr⟩
   ·cases e1
def Df.upto (K:Nat):Nat→Df
 | 0=>⟨fun _ _=>none⟩
 | k+1=>⟨Bg.F K (Df.upto K k)⟩
theorem Df.upto_ok (K:Nat):∀ k,(Df.upto K k).Ok
 | 0=>⟨fun h=>(by cases h)⟩
 | k+1=>⟨fun {p0 p1 r} h=>eo (fn:=Tryz.f12) (n:=60) (m:=100) fun Γ=>Bg.body (K:=K) (Df.upto_ok K k) h⟩
def Bg (K:Nat) (p0:Aa) (p1:Aa):Option Bool:=(Df.upto K K).Bg p0 p1
theorem Bg.okE {K:Nat} {p0:Aa} {p1:Aa} {r:Bool} (h:Bg K p0 p1=some r):Tv V P 12 [.agg (Ah p0),.agg (Ah p1)] [] [] (.B r) []:=(Df.upto_ok K K).Bg h
theorem Bg.ok {K:Nat} {p0:Aa} {p1:Aa} {r:Bool} (h:Bg K p0 p1=some r):T1 V P 12 [.agg (Ah p0),.agg (Ah p1)] (.B r):=(Bg.okE h).pcall (by kernel_rfl)
def E6 (K:Nat) (p0:Aa):Option Bool:=(Option.bind (C3 K p0) (fun a1=>(if a1≤4000 then (Option.bind (C1 K p0) (fun a2=>some (decide (a2≤40)))) else some false)))
theorem E6.body {Γ:Ud} {K:Nat} {p0:Aa} {r:Bool} (h:E6 K p0=some r):Ub V P 11 100 Γ (Tryz.f28.body.getD .skip) (Ty P V Tryz.f28 (.B r) []) ⟨Tx 0 [.agg (Ah p0)],[]⟩:=by
 unfold E6 at h;refine Tw L 200 <| Tm ?_;obtain ⟨a1,h1,h⟩:=bind_some h;rcases Tn h with ⟨c1,h⟩ |⟨c1,h⟩
 ·obtain ⟨a2,h2,h⟩:=bind_some h;refine rg L 203 [(3,true)] [(1,.I a1),(5,.I a2)] [] (Tq (C3.ok h1) (Tq trivial (Tq (decide_eq_true c1) (Tq (C1.ok h2) (Tu trivial))))) ?_;refine To ?_;cases h;exact T3
 refine rg L 203 [(3,false)] [(1,.I a1)] [] (Tq (C3.ok h1) (Tq trivial (Tu (decide_eq_false c1)))) ?_;refine To ?_;cases h;exact T3
theorem E6.ok {K:Nat} {p0:Aa} {r:Bool} (h:E6 K p0=some r):T1 V P 28 [.agg (Ah p0)] (.B r):=Tv.pcall (eo (fn:=Tryz.f28) (n:=11) (m:=100) fun Γ=>E6.body h) (by kernel_rfl)
def Ay (K:Nat) (p0:Aa) (p1:Bool) (p2:Bool) (p3:Bool):Option Bool:=(if p1=true then (if p2=true then (if p3=true then some true else some (decide (p0.Int=0))) else (if p0.Text=([]:List UInt8) then (if p3=true then some true else some (decide (p0.Int=0))) else some false)) else (if p0.Name=([]:List UInt8) then (if p2=true then (if p3=true then some true else some (decide (p0.Int=0))) else (if p0.Text=([]:List UInt8) then (if p3=true then some true else some (decide (p0.Int=0))) else some false)) else some false))
theorem Ay.body {Γ:Ud} {K:Nat} {p0:Aa} {p1:Bool} {p2:Bool} {p3:Bool} {r:Bool} (h:Ay K p0 p1 p2 p3=some r):Ub V P 31 100 Γ (Tryz.f29.body.getD .skip) (Ty P V Tryz.f29 (.B r) []) ⟨Tx 0 [.agg (Ah p0),.B p1,.B p2,.B p3],[]⟩:=by
 unfold Ay at h;refine Tw L 200 <| Tm ?_;rcases Tn h with ⟨c1,h⟩ |⟨c1,h⟩
 ·rcases Tn h with ⟨c2,h⟩ |⟨c2,h⟩
  ·rcases Tn h with ⟨c3,h⟩ |⟨c3,h⟩
   ·refine rg L 203 [(1,true),(8,true),(16,true)] [] [] (Tq c1 (Tq c2 (Tu c3))) ?_;refine To ?_;cases h;exact T3
   refine rg L 203 [(1,true),(8,true),(16,false)] [] [] (Tq c1 (Tq c2 (Tu (eq_false_of_ne_true c3)))) ?_;refine To ?_;cases h;exact T3
  rcases Tn h with ⟨c4,h⟩ |⟨c4,h⟩
  ·rcases Tn h with ⟨c5,h⟩ |⟨c5,h⟩
   ·refine rg L 203 [(1,true),(8,false),(14,true),(16,true)] [] [] (Tq c1 (Tq (eq_false_of_ne_true c2) (Tq (decide_eq_true c4) (Tu c5)))) ?_;refine To ?_;cases h;exact T3
   refine rg L 203 [(1,true),(8,false),(14,true),(16,false)] [] [] (Tq c1 (Tq (eq_false_of_ne_true c2) (Tq (decide_eq_true c4) (Tu (eq_false_of_ne_true c5))))) ?_;refine To ?_;cases h;exact T3
  refine rg L 203 [(1,true),(8,false),(14,false)] [] [] (Tq c1 (Tq (eq_false_of_ne_true c2) (Tu (decide_eq_false c4)))) ?_;refine To ?_;cases h;exact T3
 rcases Tn h with ⟨c6,h⟩ |⟨c6,h⟩
 ·rcases Tn h with ⟨c7,h⟩ |⟨c7,h⟩
  ·rcases Tn h with ⟨c8,h⟩ |⟨c8,h⟩
   ·refine rg L 203 [(1,false),(6,true),(8,true),(16,true)] [] [] (Tq (eq_false_of_ne_true c1) (Tq (decide_eq_true c6) (Tq c7 (Tu c8)))) ?_;refine To ?_;cases h;exact T3
   refine rg L 203 [(1,false),(6,true),(8,true),(16,false)] [] [] (Tq (eq_false_of_ne_true c1) (Tq (decide_eq_true c6) (Tq c7 (Tu (eq_false_of_ne_true c8))))) ?_;refine To ?_;cases h;exact T3
  rcases Tn h with ⟨c9,h⟩ |⟨c9,h⟩
  ·rcases Tn h with ⟨c10,h⟩ |⟨c10,h⟩
   ·refine rg L 203 [(1,false),(6,true),(8,false),(14,true),(16,true)] [] [] (Tq (eq_false_of_ne_true c1) (Tq (decide_eq_true c6) (Tq (eq_false_of_ne_true c7) (Tq (decide_eq_true c9) (Tu c10))))) ?_;refine To ?_;cases h;exact T3
   refine rg L 203 [(1,false),(6,true),(8,false),(14,true),(16,false)] [] [] (Tq (eq_false_of_ne_true c1) (Tq (decide_eq_true c6) (Tq (eq_false_of_ne_true c7) (Tq (decide_eq_true c9) (Tu (eq_false_of_ne_true c10)))))) ?_;refine To ?_;cases h;exact T3
  refine rg L 203 [(1,false),(6,true),(8,false),(14,false)] [] [] (Tq (eq_false_of_ne_true c1) (Tq (decide_eq_true c6) (Tq (eq_false_of_ne_true c7) (Tu (decide_eq_false c9))))) ?_;refine To ?_;cases h;exact T3
 refine rg L 203 [(1,false),(6,false)] [] [] (Vf (eq_false_of_ne_true c1) (decide_eq_false c6)) ?_;refine To ?_;cases h;exact T3
theorem Ay.ok {K:Nat} {p0:Aa} {p1:Bool} {p2:Bool} {p3:Bool} {r:Bool} (h:Ay K p0 p1 p2 p3=some r):T1 V P 29 [.agg (Ah p0),.B p1,.B p2,.B p3] (.B r):=Tv.pcall (eo (fn:=Tryz.f29) (n:=31) (m:=100) fun Γ=>Ay.body h) (by kernel_rfl)
def B4.l15 (K:Nat) (p0:List UInt8):Nat→Int→Option (T5 Bool Unit)
 | 0,_=>none
 | k+1,a=>(if a <(p0.length:Int) then (if (0:Int)≤a∧(a:Int) <(p0.length:Int) then (if ((p0.getD (Int.toNat a) 0).toNat:Int)≥97 then (if ((p0.getD (Int.toNat a) 0).toNat:Int)≤122 then B4.l15 K p0 k (IntKind.i64.wrap (a+1)) else (if ((p0.getD (Int.toNat a) 0).toNat:Int)≥65 then (if ((p0.getD (Int.toNat a) 0).toNat:Int)≤90 then B4.l15 K p0 k (IntKind.i64.wrap (a+1)) else (if ((p0.getD (Int.toNat a) 0).toNat:Int)≥48 then (if ((p0.getD (Int.toNat a) 0).toNat:Int)≤57 then B4.l15 K p0 k (IntKind.i64.wrap (a+1)) else (if ((p0.getD (Int.toNat a) 0).toNat:Int)=95 then B4.l15 K p0 k (IntKind.i64.wrap (a+1)) else some (T5.done false))) else (if ((p0.getD (Int.toNat a) 0).toNat:Int)=95 then B4.l15 K p0 k (IntKind.i64.wrap (a+1)) else some (T5.done false)))) else (if ((p0.getD (Int.toNat a) 0).toNat:Int)≥48 then (if ((p0.getD (Int.toNat a) 0).toNat:Int)≤57 then B4.l15 K p0 k (IntKind.i64.wrap (a+1)) else (if ((p0.getD (Int.toNat a) 0).toNat:Int)=95 then B4.l15 K p0 k (IntKind.i64.wrap (a+1)) else some (T5.done false))) else (if ((p0.getD (Int.toNat a) 0).toNat:Int)=95 then B4.l15 K p0 k (IntKind.i64.wrap (a+1)) else some (T5.done false))))) else (if ((p0.getD (Int.toNat a) 0).toNat:Int)≥65 then (if ((p0.getD (Int.toNat a) 0).toNat:Int)≤90 then B4.l15 K p0 k (IntKind.i64.wrap (a+1)) else (if ((p0.getD (Int.toNat a) 0).toNat:Int)≥48 then (if ((p0.getD (Int.toNat a) 0).toNat:Int)≤57 then B4.l15 K p0 k (IntKind.i64.wrap (a+1)) else (if ((p0.getD (Int.toNat a) 0).toNat:Int)=95 then B4.l15 K p0 k (IntKind.i64.wrap (a+1)) else some (T5.done false))) else (if ((p0.getD (Int.toNat a) 0).toNat:Int)=95 then B4.l15 K p0 k (IntKind.i64.wrap (a+1)) else some (T5.done false)))) else (if ((p0.getD (Int.toNat a) 0).toNat:Int)≥48 then (if ((p0.getD (Int.toNat a) 0).toNat:Int)≤57 then B4.l15 K p0 k (IntKind.i64.wrap (a+1)) else (if ((p0.getD (Int.toNat a) 0).toNat:Int)=95 then B4.l15 K p0 k (IntKind.i64.wrap (a+1)) else some (T5.done false))) else (if ((p0.getD (Int.toNat a) 0).toNat:Int)=95 then B4.l15 K p0 k (IntKind.i64.wrap (a+1)) else some (T5.done false))))) else none) else some (T5.go ()))
def B4 (K:Nat) (p0:List UInt8):Option Bool:=(obind (((if (p0.length:Int) < 1 then some (T5.done false) else (if (p0.length:Int) > 64 then some (T5.done false) else (Option.bind (El K p0) (fun a1=>(if a1=true then some (T5.done false) else (if (0:Int) <(p0.length:Int) then (if ((p0.getD (Int.toNat 0) 0).toNat:Int)≥48 then (if ((p0.getD (Int.toNat 0) 0).toNat:Int)≤57 then some (T5.done false) else some (T5.go ())) else some (T5.go ())) else none))))))):Option (T5 Bool Unit)) (fun r=>r) (fun _=>(obind (B4.l15 K p0 K 0:Option (T5 Bool Unit)) (fun r=>r) (fun _=>some true))))
theorem B4.body {Γ:Ud} {K:Nat} {p0:List UInt8} {r:Bool} (h:B4 K p0=some r):Ub V P 63 100 Γ (Tryz.f58.body.getD .skip) (Ty P V Tryz.f58 (.B r) []) ⟨Tx 0 [.cv (.str p0)],[]⟩:=by
 unfold B4 at h;refine Tw L 200 ?_;obtain ⟨o1,hp1,h⟩:=T7 h;refine Tm (Uc (Q':=fun e S=>(e=.normal∧S=⟨[(0,.cv (.str p0))],[]⟩∧T5.go ()=o1)∨(e=.ret∧∃ a,T5.done a=o1∧Ty P V Tryz.f58 (.B a) [] .ret S)) ?_ ?_)
 ·clear h;replace h:=hp1;refine Tm ?_;rcases Tn h with ⟨c1,h⟩ |⟨c1,h⟩
  ·refine rg L 202 [(3,true)] [] [] (Tu (decide_eq_true c1)) ?_;refine tt (b:=true) (rfl) ?_;refine Tw L 225 <| To ?_;cases h;exact .inr ⟨rfl,_,rfl,T3⟩
  rcases Tn h with ⟨c2,h⟩ |⟨c2,h⟩
  ·refine rg L 202 [(3,false),(8,true)] [] [] (Vf (decide_eq_false c1) (decide_eq_true c2)) ?_;refine tt (b:=true) (rfl) ?_;refine Tw L 225 <| To ?_;cases h;exact .inr ⟨rfl,_,rfl,T3⟩
  obtain ⟨a1,h1,h⟩:=bind_some h;rcases Tn h with ⟨c3,h⟩ |⟨c3,h⟩
  ·refine rg L 202 [(3,false),(8,false),(12,true)] [(10,.B a1)] [] (Tq (decide_eq_false c1) (Tq (decide_eq_false c2) (Tq (El.ok h1) (Tq trivial (Tu c3))))) ?_;refine tt (b:=true) (rfl) ?_;refine Tw L 225 <| To ?_;cases h;exact .inr ⟨rfl,_,rfl,T3⟩
  obtain ⟨g1,h⟩:=Ts h;rcases Tn h with ⟨c4,h⟩ |⟨c4,h⟩
  ·refine rg L 202 [(3,false),(8,false),(12,false),(16,true)] [(10,.B a1)] [] (Tq (decide_eq_false c1) (Tq (decide_eq_false c2) (Tq (El.ok h1) (Tq trivial (Tq (eq_false_of_ne_true c3) (Tq (show (0:Int)≤0 from by decide) (Tq g1 (Tq (decide_eq_true c4) (Tq (show (0:Int)≤0 from by decide) (Tu g1)))))))))) ?_;rcases Tn h with ⟨c5,h⟩ |⟨c5,h⟩
   ·refine tT c5 <| Tw L 225 <| To ?_;cases h;exact .inr ⟨rfl,_,rfl,T3⟩
   refine fF c5 <| sk (S':=⟨[(0,.cv (.str p0))],[]⟩) ?_;cases h;exact .inl ⟨rfl,rfl,rfl⟩
  refine rg L 202 [(3,false),(8,false),(12,false),(16,false)] [(10,.B a1)] [] (Tq (decide_eq_false c1) (Tq (decide_eq_false c2) (Tq (El.ok h1) (Tq trivial (Tq (eq_false_of_ne_true c3) (Tq (show (0:Int)≤0 from by decide) (Tq g1 (Tu (decide_eq_false c4))))))))) ?_;refine ff (b:=false) (rfl) ?_;refine sk (S':=⟨[(0,.cv (.str p0))],[]⟩) ?_;cases h;exact .inl ⟨rfl,rfl,rfl⟩
 ·rintro e S (⟨rfl,rfl,rfl⟩ |⟨rfl,a,rfl,hr⟩)
  ·rcases h with ⟨_,e1,h⟩ |⟨_,e1,h⟩
   ·cases e1
   ·have e2:=T5.go.inj e1;subst e2;refine Tm <| Tw L 227 <| Tt <| kp (S':=⟨[(0,.cv (.str p0)),(28,.I (p0.length:Int)),(29,.I 0)],[]⟩) ?_;obtain ⟨o2,hp2,h⟩:=T7 h;refine T4 (Q':=fun e S=>(e=.exit 0∧S=⟨[],[]⟩∧T5.go ()=o2)∨(e=.ret∧∃ a,T5.done a=o2∧Ty P V Tryz.f58 (.B a) [] .ret S)) (T8 (fun k S=>∃ c:Int,S=⟨[(0,.cv (.str p0)),(28,.I (p0.length:Int)),(29,.I c)],[]⟩∧B4.l15 K p0 k c=some o2) ?_ ⟨_,rfl,hp2⟩) ?_
    ·clear h hp2;intro k S hS;obtain ⟨c,rfl,h⟩:=hS;cases k with
     | zero=>cases h
     | succ k =>
     unfold B4.l15 at h;refine Tw L 231 <| Tm ?_;rcases Tn h with ⟨c6,h⟩ |⟨c6,h⟩
     ·refine tT c6 <| Tr <| Tm <| Tt <| Tw L 233 <| Tm ?_;obtain ⟨g2,h⟩:=Ts h;refine rg L 236 [] [] [] (Vf g2.1 g2.2) ?_;refine Tm ?_;rcases Tn h with ⟨c7,h⟩ |⟨c7,h⟩
      ·rcases Tn h with ⟨c8,h⟩ |⟨c8,h⟩
       ·refine rg L 241 [(2,true),(6,true)] [] [] (Vf (decide_eq_true c7) (decide_eq_true c8)) ?_;refine ff (b:=false) (rfl) ?_;refine Tr <| Xi L 271 [] [] [] (S':=⟨[(0,.cv (.str p0)),(28,.I (p0.length:Int)),(29,.I (IntKind.i64.wrap (c+1)))],[]⟩) ?_;exact ⟨k,Nat.lt_succ_self k,_,rfl,h⟩
       rcases Tn h with ⟨c9,h⟩ |⟨c9,h⟩
       ·rcases Tn h with ⟨c10,h⟩ |⟨c10,h⟩
        ·refine rg L 241 [(2,true),(6,false),(9,true),(14,true)] [] [] (Tq (decide_eq_true c7) (Tq (decide_eq_false c8) (Tq (decide_eq_true c9) (Tu (decide_eq_true c10))))) ?_;refine ff (b:=false) (rfl) ?_;refine Tr <| Xi L 271 [] [] [] (S':=⟨[(0,.cv (.str p0)),(28,.I (p0.length:Int)),(29,.I (IntKind.i64.wrap (c+1)))],[]⟩) ?_;exact ⟨k,Nat.lt_succ_self k,_,rfl,h⟩
        rcases Tn h with ⟨c11,h⟩ |⟨c11,h⟩
        ·rcases Tn h with ⟨c12,h⟩ |⟨c12,h⟩
         ·refine rg L 241 [(2,true),(6,false),(9,true),(14,false),(17,true),(22,true)] [] [] (Tq (decide_eq_true c7) (Tq (decide_eq_false c8) (Tq (decide_eq_true c9) (Tq (decide_eq_false c10) (Tq (decide_eq_true c11) (Tu (decide_eq_true c12))))))) ?_;refine ff (b:=false) (rfl) ?_;refine Tr <| Xi L 271 [] [] [] (S':=⟨[(0,.cv (.str p0)),(28,.I (p0.length:Int)),(29,.I (IntKind.i64.wrap (c+1)))],[]⟩) ?_;exact ⟨k,Nat.lt_succ_self k,_,rfl,h⟩
         refine rg L 241 [(2,true),(6,false),(9,true),(14,false),(17,true),(22,false)] [] [] (Tq (decide_eq_true c7) (Tq (decide_eq_false c8) (Tq (decide_eq_true c9) (Tq (decide_eq_false c10) (Tq (decide_eq_true c11) (Tu (decide_eq_false c12))))))) ?_;rcases Tn h with ⟨c13,h⟩ |⟨c13,h⟩
         ·refine ff (b:=(!(decide (((p0.getD (Int.toNat c) 0).toNat:Int)=95)))) (congrArg Bool.not (decide_eq_true c13)) ?_;refine Tr <| Xi L 271 [] [] [] (S':=⟨[(0,.cv (.str p0)),(28,.I (p0.length:Int)),(29,.I (IntKind.i64.wrap (c+1)))],[]⟩) ?_;exact ⟨k,Nat.lt_succ_self k,_,rfl,h⟩
         refine tt (b:=(!(decide (((p0.getD (Int.toNat c) 0).toNat:Int)=95)))) (congrArg Bool.not (decide_eq_false c13)) ?_;refine Tw L 269 <| To ?_;cases h;exact .inr ⟨rfl,_,rfl,T3⟩
        refine rg L 241 [(2,true),(6,false),(9,true),(14,false),(17,false)] [] [] (Tq (decide_eq_true c7) (Tq (decide_eq_false c8) (Tq (decide_eq_true c9) (Tq (decide_eq_false c10) (Tu (decide_eq_false c11)))))) ?_;rcases Tn h with ⟨c14,h⟩ |⟨c14,h⟩
        ·refine ff (b:=(!(decide (((p0.getD (Int.toNat c) 0).toNat:Int)=95)))) (congrArg Bool.not (decide_eq_true c14)) ?_;refine Tr <| Xi L 271 [] [] [] (S':=⟨[(0,.cv (.str p0)),(28,.I (p0.length:Int)),(29,.I (IntKind.i64.wrap (c+1)))],[]⟩) ?_;exact ⟨k,Nat.lt_succ_self k,_,rfl,h⟩
        refine tt (b:=(!(decide (((p0.getD (Int.toNat c) 0).toNat:Int)=95)))) (congrArg Bool.not (decide_eq_false c14)) ?_;refine Tw L 269 <| To ?_;cases h;exact .inr ⟨rfl,_,rfl,T3⟩
       rcases Tn h with ⟨c15,h⟩ |⟨c15,h⟩
       ·rcases Tn h with ⟨c16,h⟩ |⟨c16,h⟩
        ·refine rg L 241 [(2,true),(6,false),(9,false),(17,true),(22,true)] [] [] (Tq (decide_eq_true c7) (Tq (decide_eq_false c8) (Tq (decide_eq_false c9) (Tq (decide_eq_true c15) (Tu (decide_eq_true c16)))))) ?_;refine ff (b:=false) (rfl) ?_;refine Tr <| Xi L 271 [] [] [] (S':=⟨[(0,.cv (.str p0)),(28,.I (p0.length:Int)),(29,.I (IntKind.i64.wrap (c+1)))],[]⟩) ?_;exact ⟨k,Nat.lt_succ_self k,_,rfl,h⟩
        refine rg L 241 [(2,true),(6,false),(9,false),(17,true),(22,false)] [] [] (Tq (decide_eq_true c7) (Tq (decide_eq_false c8) (Tq (decide_eq_false c9) (Tq (decide_eq_true c15) (Tu (decide_eq_false c16)))))) ?_;rcases Tn h with ⟨c17,h⟩ |⟨c17,h⟩
        ·refine ff (b:=(!(decide (((p0.getD (Int.toNat c) 0).toNat:Int)=95)))) (congrArg Bool.not (decide_eq_true c17)) ?_;refine Tr <| Xi L 271 [] [] [] (S':=⟨[(0,.cv (.str p0)),(28,.I (p0.length:Int)),(29,.I (IntKind.i64.wrap (c+1)))],[]⟩) ?_;exact ⟨k,Nat.lt_succ_self k,_,rfl,h⟩
        refine tt (b:=(!(decide (((p0.getD (Int.toNat c) 0).toNat:Int)=95)))) (congrArg Bool.not (decide_eq_false c17)) ?_;refine Tw L 269 <| To ?_;cases h;exact .inr ⟨rfl,_,rfl,T3⟩
       refine rg L 241 [(2,true),(6,false),(9,false),(17,false)] [] [] (Tq (decide_eq_true c7) (Tq (decide_eq_false c8) (Tq (decide_eq_false c9) (Tu (decide_eq_false c15))))) ?_;rcases Tn h with ⟨c18,h⟩ |⟨c18,h⟩
       ·refine ff (b:=(!(decide (((p0.getD (Int.toNat c) 0).toNat:Int)=95)))) (congrArg Bool.not (decide_eq_true c18)) ?_;refine Tr <| Xi L 271 [] [] [] (S':=⟨[(0,.cv (.str p0)),(28,.I (p0.length:Int)),(29,.I (IntKind.i64.wrap (c+1)))],[]⟩) ?_;exact ⟨k,Nat.lt_succ_self k,_,rfl,h⟩
       refine tt (b:=(!(decide (((p0.getD (Int.toNat c) 0).toNat:Int)=95)))) (congrArg Bool.not (decide_eq_false c18)) ?_;refine Tw L 269 <| To ?_;cases h;exact .inr ⟨rfl,_,rfl,T3⟩
      rcases Tn h with ⟨c19,h⟩ |⟨c19,h⟩
      ·rcases Tn h with ⟨c20,h⟩ |⟨c20,h⟩
       ·refine rg L 241 [(2,false),(9,true),(14,true)] [] [] (Tq (decide_eq_false c7) (Tq (decide_eq_true c19) (Tu (decide_eq_true c20)))) ?_;refine ff (b:=false) (rfl) ?_;refine Tr <| Xi L 271 [] [] [] (S':=⟨[(0,.cv (.str p0)),(28,.I (p0.length:Int)),(29,.I (IntKind.i64.wrap (c+1)))],[]⟩) ?_;exact ⟨k,Nat.lt_succ_self k,_,rfl,h⟩
       rcases Tn h with ⟨c21,h⟩ |⟨c21,h⟩
       ·rcases Tn h with ⟨c22,h⟩ |⟨c22,h⟩
        ·refine rg L 241 [(2,false),(9,true),(14,false),(17,true),(22,true)] [] [] (Tq (decide_eq_false c7) (Tq (decide_eq_true c19) (Tq (decide_eq_false c20) (Tq (decide_eq_true c21) (Tu (decide_eq_true c22)))))) ?_;refine ff (b:=false) (rfl) ?_;refine Tr <| Xi L 271 [] [] [] (S':=⟨[(0,.cv (.str p0)),(28,.I (p0.length:Int)),(29,.I (IntKind.i64.wrap (c+1)))],[]⟩) ?_;exact ⟨k,Nat.lt_succ_self k,_,rfl,h⟩
        refine rg L 241 [(2,false),(9,true),(14,false),(17,true),(22,false)] [] [] (Tq (decide_eq_false c7) (Tq (decide_eq_true c19) (Tq (decide_eq_false c20) (Tq (decide_eq_true c21) (Tu (decide_eq_false c22)))))) ?_;rcases Tn h with ⟨c23,h⟩ |⟨c23,h⟩
        ·refine ff (b:=(!(decide (((p0.getD (Int.toNat c) 0).toNat:Int)=95)))) (congrArg Bool.not (decide_eq_true c23)) ?_;refine Tr <| Xi L 271 [] [] [] (S':=⟨[(0,.cv (.str p0)),(28,.I (p0.length:Int)),(29,.I (IntKind.i64.wrap (c+1)))],[]⟩) ?_;exact ⟨k,Nat.lt_succ_self k,_,rfl,h⟩
        refine tt (b:=(!(decide (((p0.getD (Int.toNat c) 0).toNat:Int)=95)))) (congrArg Bool.not (decide_eq_false c23)) ?_;refine Tw L 269 <| To ?_;cases h;exact .inr ⟨rfl,_,rfl,T3⟩
       refine rg L 241 [(2,false),(9,true),(14,false),(17,false)] [] [] (Tq (decide_eq_false c7) (Tq (decide_eq_true c19) (Tq (decide_eq_false c20) (Tu (decide_eq_false c21))))) ?_;rcases Tn h with ⟨c24,h⟩ |⟨c24,h⟩
       ·refine ff (b:=(!(decide (((p0.getD (Int.toNat c) 0).toNat:Int)=95)))) (congrArg Bool.not (decide_eq_true c24)) ?_;refine Tr <| Xi L 271 [] [] [] (S':=⟨[(0,.cv (.str p0)),(28,.I (p0.length:Int)),(29,.I (IntKind.i64.wrap (c+1)))],[]⟩) ?_;exact ⟨k,Nat.lt_succ_self k,_,rfl,h⟩
       refine tt (b:=(!(decide (((p0.getD (Int.toNat c) 0).toNat:Int)=95)))) (congrArg Bool.not (decide_eq_false c24)) ?_;refine Tw L 269 <| To ?_;cases h;exact .inr ⟨rfl,_,rfl,T3⟩
      rcases Tn h with ⟨c25,h⟩ |⟨c25,h⟩
      ·rcases Tn h with ⟨c26,h⟩ |⟨c26,h⟩
       ·refine rg L 241 [(2,false),(9,false),(17,true),(22,true)] [] [] (Tq (decide_eq_false c7) (Tq (decide_eq_false c19) (Tq (decide_eq_true c25) (Tu (decide_eq_true c26))))) ?_;refine ff (b:=false) (rfl) ?_;refine Tr <| Xi L 271 [] [] [] (S':=⟨[(0,.cv (.str p0)),(28,.I (p0.length:Int)),(29,.I (IntKind.i64.wrap (c+1)))],[]⟩) ?_;exact ⟨k,Nat.lt_succ_self k,_,rfl,h⟩
       refine rg L 241 [(2,false),(9,false),(17,true),(22,false)] [] [] (Tq (decide_eq_false c7) (Tq (decide_eq_false c19) (Tq (decide_eq_true c25) (Tu (decide_eq_false c26))))) ?_;rcases Tn h with ⟨c27,h⟩ |⟨c27,h⟩
       ·refine ff (b:=(!(decide (((p0.getD (Int.toNat c) 0).toNat:Int)=95)))) (congrArg Bool.not (decide_eq_true c27)) ?_;refine Tr <| Xi L 271 [] [] [] (S':=⟨[(0,.cv (.str p0)),(28,.I (p0.length:Int)),(29,.I (IntKind.i64.wrap (c+1)))],[]⟩) ?_;exact ⟨k,Nat.lt_succ_self k,_,rfl,h⟩
       refine tt (b:=(!(decide (((p0.getD (Int.toNat c) 0).toNat:Int)=95)))) (congrArg Bool.not (decide_eq_false c27)) ?_;refine Tw L 269 <| To ?_;cases h;exact .inr ⟨rfl,_,rfl,T3⟩
      refine rg L 241 [(2,false),(9,false),(17,false)] [] [] (Tq (decide_eq_false c7) (Tq (decide_eq_false c19) (Tu (decide_eq_false c25)))) ?_;rcases Tn h with ⟨c28,h⟩ |⟨c28,h⟩
      ·refine ff (b:=(!(decide (((p0.getD (Int.toNat c) 0).toNat:Int)=95)))) (congrArg Bool.not (decide_eq_true c28)) ?_;refine Tr <| Xi L 271 [] [] [] (S':=⟨[(0,.cv (.str p0)),(28,.I (p0.length:Int)),(29,.I (IntKind.i64.wrap (c+1)))],[]⟩) ?_;exact ⟨k,Nat.lt_succ_self k,_,rfl,h⟩
      refine tt (b:=(!(decide (((p0.getD (Int.toNat c) 0).toNat:Int)=95)))) (congrArg Bool.not (decide_eq_false c28)) ?_;refine Tw L 269 <| To ?_;cases h;exact .inr ⟨rfl,_,rfl,T3⟩
     refine fF c6 <| ex (S':=⟨[],[]⟩) ?_;cases h;exact .inl ⟨rfl,rfl,rfl⟩
    ·rintro e S (⟨rfl,rfl,rfl⟩ |⟨rfl,a,rfl,hr⟩)
     ·rcases h with ⟨_,e1,h⟩ |⟨_,e1,h⟩
      ·cases e1
      ·have e2:=T5.go.inj e1;subst e2;refine ⟨_,Tl.refl,?_⟩;refine Tw L 274 <| To ?_;cases h;exact T3
     ·rcases h with ⟨_,e1,h⟩ |⟨_,e1,h⟩
      ·have e2:=T5.done.inj e1;subst e2;subst h;exact ⟨_,Tl.refl,hr⟩
      ·cases e1
  ·rcases h with ⟨_,e1,h⟩ |⟨_,e1,h⟩
   ·have e2:=T5.done.inj e1;subst e2;subst h;exact hr
   ·cases e1
theorem B4.ok {K:Nat} {p0:List UInt8} {r:Bool} (h:B4 K p0=some r):T1 V P 58 [.cv (.str p0)] (.B r):=Tv.pcall (eo (fn:=Tryz.f58) (n:=63) (m:=100) fun Γ=>B4.body h) (by kernel_rfl)
structure Az where
 Dz:Aa→Option Bool
 Da:Aa→Option Bool
 Cd:(List Aa)→Option Int
 Cp:(List Aa)→Option Bool
 Dn:(List Aa)→Option Bool
 De:Aa→Option Bool
 Cg:(List Aa)→Option Int
 Cr:(List Aa)→Option Bool
 C2:(List Aa)→Option Bool
 B7:Aa→Option Bool
structure Az.Ok (R:Az):Prop where
 Dz:∀ {p0:Aa} {r:Bool},R.Dz p0=some r→Tv V P 64 [.agg (Ah p0)] [] [] (.B r) []
 Da:∀ {p0:Aa} {r:Bool},R.Da p0=some r→Tv V P 57 [.agg (Ah p0),.cv (.pcs [.fn (.func 64) [] []] 0)] [] [] (.B r) []
 Cd:∀ {p0:List Aa} {r:Int},R.Cd p0=some r→Tv V P 90 [.cv (.ro .Af p0),.cv (.fn (.func 57) [] [.pcs [.fn (.func 64) [] []] 0])] [] [] (.I r) []
 Cp:∀ {p0:List Aa} {r:Bool},R.Cp p0=some r→Tv V P 56 [.cv (.ro .Af p0),.cv (.fn (.func 57) [] [.pcs [.fn (.func 64) [] []] 0])] [] [] (.B r) []
 Dn:∀ {p0:List Aa} {r:Bool},R.Dn p0=some r→Tv V P 30 [.cv (.ro .Af p0),.cv (.fn (.func 64) [] [])] [] [] (.B r) []
 De:∀ {p0:Aa} {r:Bool},R.De p0=some r→Tv V P 57 [.agg (Ah p0),.cv (.pcs [.fn (.func 33) [] []] 0)] [] [] (.B r) []
 Cg:∀ {p0:List Aa} {r:Int},R.Cg p0=some r→Tv V P 90 [.cv (.ro .Af p0),.cv (.fn (.func 57) [] [.pcs [.fn (.func 33) [] []] 0])] [] [] (.I r) []
 Cr:∀ {p0:List Aa} {r:Bool},R.Cr p0=some r→Tv V P 56 [.cv (.ro .Af p0),.cv (.fn (.func 57) [] [.pcs [.fn (.func 33) [] []] 0])] [] [] (.B r) []
 C2:∀ {p0:List Aa} {r:Bool},R.C2 p0=some r→Tv V P 30 [.cv (.ro .Af p0),.cv (.fn (.func 33) [] [])] [] [] (.B r) []
 B7:∀ {p0:Aa} {r:Bool},R.B7 p0=some r→Tv V P 33 [.agg (Ah p0)] [] [] (.B r) []
theorem Dz.okR {R:Az} (hR:R.Ok) {p0:Aa} {r:Bool} (h:R.Dz p0=some r):T1 V P 64 [.agg (Ah p0)] (.B r):=(hR.Dz h).pcall (by kernel_rfl)
theorem Da.okR {R:Az} (hR:R.Ok) {p0:Aa} {r:Bool} (h:R.Da p0=some r):T1 V P 57 [.agg (Ah p0),.cv (.pcs [.fn (.func 64) [] []] 0)] (.B r):=(hR.Da h).pcall (by kernel_rfl)
theorem Cd.okR {R:Az} (hR:R.Ok) {p0:List Aa} {r:Int} (h:R.Cd p0=some r):T1 V P 90 [.cv (.ro .Af p0),.cv (.fn (.func 57) [] [.pcs [.fn (.func 64) [] []] 0])] (.I r):=(hR.Cd h).pcall (by kernel_rfl)
theorem Cp.okR {R:Az} (hR:R.Ok) {p0:List Aa} {r:Bool} (h:R.Cp p0=some r):T1 V P 56 [.cv (.ro .Af p0),.cv (.fn (.func 57) [] [.pcs [.fn (.func 64) [] []] 0])] (.B r):=(hR.Cp h).pcall (by kernel_rfl)
theorem Dn.okR {R:Az} (hR:R.Ok) {p0:List Aa} {r:Bool} (h:R.Dn p0=some r):T1 V P 30 [.cv (.ro .Af p0),.cv (.fn (.func 64) [] [])] (.B r):=(hR.Dn h).pcall (by kernel_rfl)
theorem De.okR {R:Az} (hR:R.Ok) {p0:Aa} {r:Bool} (h:R.De p0=some r):T1 V P 57 [.agg (Ah p0),.cv (.pcs [.fn (.func 33) [] []] 0)] (.B r):=(hR.De h).pcall (by kernel_rfl)
theorem Cg.okR {R:Az} (hR:R.Ok) {p0:List Aa} {r:Int} (h:R.Cg p0=some r):T1 V P 90 [.cv (.ro .Af p0),.cv (.fn (.func 57) [] [.pcs [.fn (.func 33) [] []] 0])] (.I r):=(hR.Cg h).pcall (by kernel_rfl)
theorem Cr.okR {R:Az} (hR:R.Ok) {p0:List Aa} {r:Bool} (h:R.Cr p0=some r):T1 V P 56 [.cv (.ro .Af p0),.cv (.fn (.func 57) [] [.pcs [.fn (.func 33) [] []] 0])] (.B r):=(hR.Cr h).pcall (by kernel_rfl)
theorem C2.okR {R:Az} (hR:R.Ok) {p0:List Aa} {r:Bool} (h:R.C2 p0=some r):T1 V P 30 [.cv (.ro .Af p0),.cv (.fn (.func 33) [] [])] (.B r):=(hR.C2 h).pcall (by kernel_rfl)
theorem B7.okR {R:Az} (hR:R.Ok) {p0:Aa} {r:Bool} (h:R.B7 p0=some r):T1 V P 33 [.agg (Ah p0)] (.B r):=(hR.B7 h).pcall (by kernel_rfl)
def Dz.F (K:Nat) (R:Az) (p0:Aa):Option Bool:=(if p0.Op=9 then (Option.bind (Ay K p0 false true false) (fun a1=>(if a1=true then (if (p0.Text.length:Int)≤4096 then (if (p0.Kids.length:Int)=1 then (if (0:Int) <(p0.Kids.length:Int) then (Option.bind (R.B7 (p0.Kids.getD (Int.toNat 0) B5)) (fun a2=>some a2)) else none) else some false) else some false) else some false))) else some false)
theorem Dz.body {Γ:Ud} {K:Nat} {R:Az} (hR:R.Ok) {p0:Aa} {r:Bool} (h:Dz.F K R p0=some r):Ub V P 29 100 Γ (Tryz.f64.body.getD .skip) (Ty P V Tryz.f64 (.B r) []) ⟨Tx 0 [.agg (Ah p0)],[]⟩:=by
 unfold Dz.F at h;refine Tw L 200 <| Tm ?_;rcases Tn h with ⟨c1,h⟩ |⟨c1,h⟩
 ·obtain ⟨a1,h1,h⟩:=bind_some h;rcases Tn h with ⟨c2,h⟩ |⟨c2,h⟩
  ·rcases Tn h with ⟨c3,h⟩ |⟨c3,h⟩
   ·rcases Tn h with ⟨c4,h⟩ |⟨c4,h⟩
    ·obtain ⟨g1,h⟩:=Ts h;obtain ⟨a2,h2,h⟩:=bind_some h;refine rg L 203 [(3,true),(7,true),(13,true),(19,true)] [(5,.B a1),(24,.B a2)] [] (Tq (decide_eq_true c1) (Tq (Ay.ok h1) (Tq trivial (Tq c2 (Tq (decide_eq_true c3) (Tq (decide_eq_true c4) (Tq (show (0:Int)≤0 from by decide) (Tq g1 (Tq (B7.okR hR h2) (Tu trivial)))))))))) ?_;refine To ?_;cases h;exact T3
    refine rg L 203 [(3,true),(7,true),(13,true),(19,false)] [(5,.B a1)] [] (Tq (decide_eq_true c1) (Tq (Ay.ok h1) (Tq trivial (Tq c2 (Tq (decide_eq_true c3) (Tu (decide_eq_false c4))))))) ?_;refine To ?_;cases h;exact T3
   refine rg L 203 [(3,true),(7,true),(13,false)] [(5,.B a1)] [] (Tq (decide_eq_true c1) (Tq (Ay.ok h1) (Tq trivial (Tq c2 (Tu (decide_eq_false c3)))))) ?_;refine To ?_;cases h;exact T3
  refine rg L 203 [(3,true),(7,false)] [(5,.B a1)] [] (Tq (decide_eq_true c1) (Tq (Ay.ok h1) (Tq trivial (Tu (eq_false_of_ne_true c2))))) ?_;refine To ?_;cases h;exact T3
 refine rg L 203 [(3,false)] [] [] (Tu (decide_eq_false c1)) ?_;refine To ?_;cases h;exact T3
def Da.F (K:Nat) (R:Az) (p0:Aa):Option Bool:=(Option.bind (R.Dz p0) (fun a1=>some (!a1)))
theorem Da.body {Γ:Ud} {K:Nat} {R:Az} (hR:R.Ok) {p0:Aa} {r:Bool} (h:Da.F K R p0=some r):Ub V P 8 100 Γ (Tryz.f57.body.getD .skip) (Ty P V Tryz.f57 (.B r) []) ⟨Tx 0 [.agg (Ah p0),.cv (.pcs [.fn (.func 64) [] []] 0)],[]⟩:=by
 unfold Da.F at h;refine Tw L 200 <| Tm ?_;obtain ⟨a1,h1,h⟩:=bind_some h;refine rg L 203 [] [(2,.B a1)] [] (U4 (Dz.okR hR h1)) ?_;refine To ?_;cases h;exact T3
def Cd.l7 (K:Nat) (R:Az) (p0:List Aa):Nat→Int→Option (T5 Int Unit)
 | 0,_=>none
 | k+1,a=>(if a <(p0.length:Int) then (if (0:Int)≤a∧(a:Int) <(p0.length:Int) then (Option.bind (R.Da (p0.getD (Int.toNat a) B5)) (fun a1=>(if a1=true then some (T5.done a) else Cd.l7 K R p0 k (IntKind.i64.wrap (a+1))))) else none) else some (T5.go ()))
def Cd.F (K:Nat) (R:Az) (p0:List Aa):Option Int:=(obind (Cd.l7 K R p0 K 0:Option (T5 Int Unit)) (fun r=>r) (fun _=>some (-1)))
theorem Cd.body {Γ:Ud} {K:Nat} {R:Az} (hR:R.Ok) {p0:List Aa} {r:Int} (h:Cd.F K R p0=some r):Ub V P 19 100 Γ (Tryz.f90.body.getD .skip) (Ty P V Tryz.f90 (.I r) []) ⟨Tx 0 [.cv (.ro .Af p0),.cv (.fn (.func 57) [] [.pcs [.fn (.func 64) [] []] 0])],[]⟩:=by
 unfold Cd.F at h;refine Tw L 200 <| Tm <| Tw L 202 <| Tt <| kp (S':=⟨[(0,.cv (.ro .Af p0)),(1,.cv (.fn (.func 57) [] [.pcs [.fn (.func 64) [] []] 0])),(7,.I (p0.length:Int)),(8,.I 0)],[]⟩) ?_;obtain ⟨o1,hp1,h⟩:=T7 h;refine T4 (Q':=fun e S=>(e=.exit 0∧S=⟨[],[]⟩∧T5.go ()=o1)∨(e=.ret∧∃ a,T5.done a=o1∧Ty P V Tryz.f90 (.I a) [] .ret S)) (T8 (fun k S=>∃ b:Int,S=⟨[(0,.cv (.ro .Af p0)),(1,.cv (.fn (.func 57) [] [.pcs [.fn (.func 64) [] []] 0])),(7,.I (p0.length:Int)),(8,.I b)],[]⟩∧Cd.l7 K R p0 k b=some o1) ?_ ⟨_,rfl,hp1⟩) ?_
 ·clear h hp1;intro k S hS;obtain ⟨b,rfl,h⟩:=hS;cases k with
  | zero=>cases h
  | succ k =>
  unfold Cd.l7 at h;refine Tw L 206 <| Tm ?_;rcases Tn h with ⟨c1,h⟩ |⟨c1,h⟩
  ·refine tT c1 <| Tr <| Tm <| Tt <| Tw L 208 <| Tm ?_;obtain ⟨g1,h⟩:=Ts h;obtain ⟨a1,h1,h⟩:=bind_some h;refine rg L 211 [] [(5,.B a1)] [] (Tq g1.1 (Tq g1.2 (Tq (Da.okR hR h1) (Tu trivial)))) ?_;rcases Tn h with ⟨c2,h⟩ |⟨c2,h⟩
   ·refine tt c2 <| Tw L 218 <| To ?_;cases h;exact .inr ⟨rfl,_,rfl,T3⟩
   refine fN c2 <| Tr <| Xi L 221 [] [] [] (S':=⟨[(0,.cv (.ro .Af p0)),(1,.cv (.fn (.func 57) [] [.pcs [.fn (.func 64) [] []] 0])),(7,.I (p0.length:Int)),(8,.I (IntKind.i64.wrap (b+1)))],[]⟩) ?_;exact ⟨k,Nat.lt_succ_self k,_,rfl,h⟩
  refine fF c1 <| ex (S':=⟨[],[]⟩) ?_;cases h;exact .inl ⟨rfl,rfl,rfl⟩
 ·rintro e S (⟨rfl,rfl,rfl⟩ |⟨rfl,a,rfl,hr⟩)
  ·rcases h with ⟨_,e1,h⟩ |⟨_,e1,h⟩
   ·cases e1
   ·have e2:=T5.go.inj e1;subst e2;refine ⟨_,Tl.refl,?_⟩;refine Tw L 224 <| To ?_;cases h;exact T3
  ·rcases h with ⟨_,e1,h⟩ |⟨_,e1,h⟩
   ·have e2:=T5.done.inj e1;subst e2;subst h;exact ⟨_,Tl.refl,hr⟩
   ·cases e1
def Cp.F (K:Nat) (R:Az) (p0:List Aa):Option Bool:=(Option.bind (R.Cd p0) (fun a1=>some (decide (a1≥0))))
theorem Cp.body {Γ:Ud} {K:Nat} {R:Az} (hR:R.Ok) {p0:List Aa} {r:Bool} (h:Cp.F K R p0=some r):Ub V P 9 100 Γ (Tryz.f56.body.getD .skip) (Ty P V Tryz.f56 (.B r) []) ⟨Tx 0 [.cv (.ro .Af p0),.cv (.fn (.func 57) [] [.pcs [.fn (.func 64) [] []] 0])],[]⟩:=by
 unfold Cp.F at h;refine Tw L 200 <| Tm ?_;obtain ⟨a1,h1,h⟩:=bind_some h;refine rg L 202 [] [(2,.I a1)] [] (U4 (Cd.okR hR h1)) ?_;refine To ?_;cases h;exact T3
def Dn.F (K:Nat) (R:Az) (p0:List Aa):Option Bool:=(Option.bind (R.Cp p0) (fun a1=>some (!a1)))
theorem Dn.body {Γ:Ud} {K:Nat} {R:Az} (hR:R.Ok) {p0:List Aa} {r:Bool} (h:Dn.F K R p0=some r):Ub V P 9 100 Γ (Tryz.f30.body.getD .skip) (Ty P V Tryz.f30 (.B r) []) ⟨Tx 0 [.cv (.ro .Af p0),.cv (.fn (.func 64) [] [])],[]⟩:=by
 unfold Dn.F at h;refine Tw L 200 <| Tm ?_;obtain ⟨a1,h1,h⟩:=bind_some h;refine rg L 203 [] [(2,.B a1)] [] (U4 (Cp.okR hR h1)) ?_;refine To ?_;cases h;exact T3
def De.F (K:Nat) (R:Az) (p0:Aa):Option Bool:=(Option.bind (R.B7 p0) (fun a1=>some (!a1)))
theorem De.body {Γ:Ud} {K:Nat} {R:Az} (hR:R.Ok) {p0:Aa} {r:Bool} (h:De.F K R p0=some r):Ub V P 8 100 Γ (Tryz.f57.body.getD .skip) (Ty P V Tryz.f57 (.B r) []) ⟨Tx 0 [.agg (Ah p0),.cv (.pcs [.fn (.func 33) [] []] 0)],[]⟩:=by
 unfold De.F at h;refine Tw L 200 <| Tm ?_;obtain ⟨a1,h1,h⟩:=bind_some h;refine rg L 203 [] [(2,.B a1)] [] (U4 (B7.okR hR h1)) ?_;refine To ?_;cases h;exact T3
def Cg.l7 (K:Nat) (R:Az) (p0:List Aa):Nat→Int→Option (T5 Int Unit)
 | 0,_=>none
 | k+1,a=>(if a <(p0.length:Int) then (if (0:Int)≤a∧(a:Int) <(p0.length:Int) then (Option.bind (R.De (p0.getD (Int.toNat a) B5)) (fun a1=>(if a1=true then some (T5.done a) else Cg.l7 K R p0 k (IntKind.i64.wrap (a+1))))) else none) else some (T5.go ()))
def Cg.F (K:Nat) (R:Az) (p0:List Aa):Option Int:=(obind (Cg.l7 K R p0 K 0:Option (T5 Int Unit)) (fun r=>r) (fun _=>some (-1)))
theorem Cg.body {Γ:Ud} {K:Nat} {R:Az} (hR:R.Ok) {p0:List Aa} {r:Int} (h:Cg.F K R p0=some r):Ub V P 19 100 Γ (Tryz.f90.body.getD .skip) (Ty P V Tryz.f90 (.I r) []) ⟨Tx 0 [.cv (.ro .Af p0),.cv (.fn (.func 57) [] [.pcs [.fn (.func 33) [] []] 0])],[]⟩:=by
 unfold Cg.F at h;refine Tw L 200 <| Tm <| Tw L 202 <| Tt <| kp (S':=⟨[(0,.cv (.ro .Af p0)),(1,.cv (.fn (.func 57) [] [.pcs [.fn (.func 33) [] []] 0])),(7,.I (p0.length:Int)),(8,.I 0)],[]⟩) ?_;obtain ⟨o1,hp1,h⟩:=T7 h;refine T4 (Q':=fun e S=>(e=.exit 0∧S=⟨[],[]⟩∧T5.go ()=o1)∨(e=.ret∧∃ a,T5.done a=o1∧Ty P V Tryz.f90 (.I a) [] .ret S)) (T8 (fun k S=>∃ b:Int,S=⟨[(0,.cv (.ro .Af p0)),(1,.cv (.fn (.func 57) [] [.pcs [.fn (.func 33) [] []] 0])),(7,.I (p0.length:Int)),(8,.I b)],[]⟩∧Cg.l7 K R p0 k b=some o1) ?_ ⟨_,rfl,hp1⟩) ?_
 ·clear h hp1;intro k S hS;obtain ⟨b,rfl,h⟩:=hS;cases k with
  | zero=>cases h
  | succ k =>
  unfold Cg.l7 at h;refine Tw L 206 <| Tm ?_;rcases Tn h with ⟨c1,h⟩ |⟨c1,h⟩
  ·refine tT c1 <| Tr <| Tm <| Tt <| Tw L 208 <| Tm ?_;obtain ⟨g1,h⟩:=Ts h;obtain ⟨a1,h1,h⟩:=bind_some h;refine rg L 211 [] [(5,.B a1)] [] (Tq g1.1 (Tq g1.2 (Tq (De.okR hR h1) (Tu trivial)))) ?_;rcases Tn h with ⟨c2,h⟩ |⟨c2,h⟩
   ·refine tt c2 <| Tw L 218 <| To ?_;cases h;exact .inr ⟨rfl,_,rfl,T3⟩
   refine fN c2 <| Tr <| Xi L 221 [] [] [] (S':=⟨[(0,.cv (.ro .Af p0)),(1,.cv (.fn (.func 57) [] [.pcs [.fn (.func 33) [] []] 0])),(7,.I (p0.length:Int)),(8,.I (IntKind.i64.wrap (b+1)))],[]⟩) ?_;exact ⟨k,Nat.lt_succ_self k,_,rfl,h⟩
  refine fF c1 <| ex (S':=⟨[],[]⟩) ?_;cases h;exact .inl ⟨rfl,rfl,rfl⟩
 ·rintro e S (⟨rfl,rfl,rfl⟩ |⟨rfl,a,rfl,hr⟩)
  ·rcases h with ⟨_,e1,h⟩ |⟨_,e1,h⟩
   ·cases e1
   ·have e2:=T5.go.inj e1;subst e2;refine ⟨_,Tl.refl,?_⟩;refine Tw L 224 <| To ?_;cases h;exact T3
  ·rcases h with ⟨_,e1,h⟩ |⟨_,e1,h⟩
   ·have e2:=T5.done.inj e1;subst e2;subst h;exact ⟨_,Tl.refl,hr⟩
   ·cases e1
def Cr.F (K:Nat) (R:Az) (p0:List Aa):Option Bool:=(Option.bind (R.Cg p0) (fun a1=>some (decide (a1≥0))))
theorem Cr.body {Γ:Ud} {K:Nat} {R:Az} (hR:R.Ok) {p0:List Aa} {r:Bool} (h:Cr.F K R p0=some r):Ub V P 9 100 Γ (Tryz.f56.body.getD .skip) (Ty P V Tryz.f56 (.B r) []) ⟨Tx 0 [.cv (.ro .Af p0),.cv (.fn (.func 57) [] [.pcs [.fn (.func 33) [] []] 0])],[]⟩:=by
 unfold Cr.F at h;refine Tw L 200 <| Tm ?_;obtain ⟨a1,h1,h⟩:=bind_some h;refine rg L 202 [] [(2,.I a1)] [] (U4 (Cg.okR hR h1)) ?_;refine To ?_;cases h;exact T3
def C2.F (K:Nat) (R:Az) (p0:List Aa):Option Bool:=(Option.bind (R.Cr p0) (fun a1=>some (!a1)))
theorem C2.body {Γ:Ud} {K:Nat} {R:Az} (hR:R.Ok) {p0:List Aa} {r:Bool} (h:C2.F K R p0=some r):Ub V P 9 100 Γ (Tryz.f30.body.getD .skip) (Ty P V Tryz.f30 (.B r) []) ⟨Tx 0 [.cv (.ro .Af p0),.cv (.fn (.func 33) [] [])],[]⟩:=by
 unfold C2.F at h;refine Tw L 200 <| Tm ?_;obtain ⟨a1,h1,h⟩:=bind_some h;refine rg L 203 [] [(2,.B a1)] [] (U4 (Cr.okR hR h1)) ?_;refine To ?_;cases h;exact T3
def B7.F (K:Nat) (R:Az) (p0:Aa):Option Bool:=(Option.bind ((if p0.Op=1 then some true else (if p0.Op=2 then some true else some (decide (p0.Op=3)))):Option Bool) (fun d=>(if d=true then (if (p0.Kids.length:Int)=0 then (Option.bind (Ay K p0 false false false) (fun a1=>some a1)) else some false) else (if p0.Op=4 then (if (p0.Kids.length:Int)=0 then (Option.bind (Ay K p0 false false true) (fun a2=>(if a2=true then some (decide (p0.Int≥0)) else some false))) else some false) else (if p0.Op=5 then (if (p0.Kids.length:Int)=0 then (Option.bind (Ay K p0 false true false) (fun a3=>(if a3=true then some (decide ((p0.Text.length:Int)≤4096)) else some false))) else some false) else (if p0.Op=6 then (if (p0.Kids.length:Int)=0 then (Option.bind (Ay K p0 true false false) (fun a4=>(if a4=true then (Option.bind (B4 K p0.Name) (fun a5=>some a5)) else some false))) else some false) else (if p0.Op=8 then (Option.bind (Ay K p0 false false false) (fun a6=>(if a6=true then (Option.bind (R.Dn p0.Kids) (fun a7=>some a7)) else some false))) else (if p0.Op=7 then (Option.bind (Ay K p0 false false false) (fun a8=>(if a8=true then (Option.bind (R.C2 p0.Kids) (fun a9=>some a9)) else some false))) else (Option.bind ((if p0.Op=10 then some true else some (decide (p0.Op=11))):Option Bool) (fun c=>(if c=true then (Option.bind (Ay K p0 true false false) (fun a10=>(if a10=true then (Option.bind (B4 K p0.Name) (fun a11=>(if a11=true then (Option.bind (R.C2 p0.Kids) (fun a12=>some a12)) else some false))) else some false))) else (if p0.Op=29 then (if (p0.Kids.length:Int)=1 then (Option.bind (Ay K p0 true false false) (fun a13=>(if a13=true then (Option.bind (B4 K p0.Name) (fun a14=>(if a14=true then (if (0:Int) <(p0.Kids.length:Int) then (Option.bind (R.B7 (p0.Kids.getD (Int.toNat 0) B5)) (fun a15=>some a15)) else none) else some false))) else some false))) else some false) else (Option.bind ((if p0.Op=12 then some true else (if p0.Op=13 then some true else some (decide (p0.Op=14)))):Option Bool) (fun a=>(if a=true then (if (p0.Kids.length:Int)=1 then (Option.bind (Ay K p0 false false false) (fun a16=>(if a16=true then (if (0:Int) <(p0.Kids.length:Int) then (Option.bind (R.B7 (p0.Kids.getD (Int.toNat 0) B5)) (fun a17=>some a17)) else none) else some false))) else some false) else (Option.bind ((if p0.Op≥15 then some (decide (p0.Op≤28)) else some false):Option Bool) (fun b=>(if b=true then (if (p0.Kids.length:Int)=2 then (Option.bind (Ay K p0 false false false) (fun a18=>(if a18=true then (Option.bind (R.C2 p0.Kids) (fun a19=>some a19)) else some false))) else some false) else some false))))))))))))))))))
theorem B7.body {Γ:Ud} {K:Nat} {R:Az} (hR:R.Ok) {p0:Aa} {r:Bool} (h:B7.F K R p0=some r):Ub V P 172 100 Γ (Tryz.f33.body.getD .skip) (Ty P V Tryz.f33 (.B r) []) ⟨Tx 0 [.agg (Ah p0)],[]⟩:=by
 unfold B7.F at h;refine Tw L 200 <| Tw L 203 <| Tm <| Tw L 208 <| Tt ?_;obtain ⟨o1,hp1,h⟩:=bind_some h;refine Tm (Uc (Q':=fun e S=>(e=.normal∧∃ d:Bool,S=⟨[(1,.P 21800),(3,.I (p0.Kids.length:Int)),(4,.I p0.Op),(10,.B d)],[(21800,.raw (Ah p0))]⟩∧d=o1)) ?_ ?_)
 ·clear h;replace h:=hp1;rcases Tn h with ⟨c1,h⟩ |⟨c1,h⟩
  ·refine Tz (rg L 212 [(2,true)] [] [] (Tu (decide_eq_true c1)) ⟨rfl,rfl⟩) (Tl.trans (Tl.kk [1,3,4,10] [200]) (Tl.trans (Tl.rr [(200,21800)]) (Tl.kp (S':=⟨[(1,.P 21800),(3,.I (p0.Kids.length:Int)),(4,.I p0.Op),(10,.B true)],[(21800,.raw (Ah p0))]⟩)))) ?_;cases h;exact ⟨rfl,_,rfl,rfl⟩
  rcases Tn h with ⟨c2,h⟩ |⟨c2,h⟩
  ·refine Tz (rg L 212 [(2,false),(6,true)] [] [] (Vf (decide_eq_false c1) (decide_eq_true c2)) ⟨rfl,rfl⟩) (Tl.trans (Tl.kk [1,3,4,10] [200]) (Tl.trans (Tl.rr [(200,21800)]) (Tl.kp (S':=⟨[(1,.P 21800),(3,.I (p0.Kids.length:Int)),(4,.I p0.Op),(10,.B true)],[(21800,.raw (Ah p0))]⟩)))) ?_;cases h;exact ⟨rfl,_,rfl,rfl⟩
  refine Tz (rg L 212 [(2,false),(6,false)] [] [] (Vf (decide_eq_false c1) (decide_eq_false c2)) ⟨rfl,rfl⟩) (Tl.trans (Tl.kk [1,3,4,10] [200]) (Tl.trans (Tl.rr [(200,21800)]) (Tl.kp (S':=⟨[(1,.P 21800),(3,.I (p0.Kids.length:Int)),(4,.I p0.Op),(10,.B (decide (p0.Op=3)))],[(21800,.raw (Ah p0))]⟩)))) ?_;cases h;exact ⟨rfl,_,rfl,rfl⟩
 ·rintro e S ⟨rfl,d,rfl,rfl⟩;rcases Tn h with ⟨c3,h⟩ |⟨c3,h⟩
  ·refine tt c3 <| Tm ?_;rcases Tn h with ⟨c4,h⟩ |⟨c4,h⟩
   ·obtain ⟨a1,h1,h⟩:=bind_some h;refine rg L 224 [(2,true)] [(4,.B a1)] [] (Tq (decide_eq_true c4) (Tq (Ay.ok h1) (Tu trivial))) ?_;refine To ?_;cases h;exact T3
   refine rg L 224 [(2,false)] [] [] (Tu (decide_eq_false c4)) ?_;refine To ?_;cases h;exact T3
  refine fN c3 <| Tw L 232 ?_;rcases Tn h with ⟨c5,h⟩ |⟨c5,h⟩
  ·refine tT c5 <| Tm ?_;rcases Tn h with ⟨c6,h⟩ |⟨c6,h⟩
   ·obtain ⟨a2,h2,h⟩:=bind_some h;rcases Tn h with ⟨c7,h⟩ |⟨c7,h⟩
    ·refine rg L 236 [(2,true),(6,true)] [(4,.B a2)] [] (Tq (decide_eq_true c6) (Tq (Ay.ok h2) (Tq trivial (Tu c7)))) ?_;refine To ?_;cases h;exact T3
    refine rg L 236 [(2,true),(6,false)] [(4,.B a2)] [] (Tq (decide_eq_true c6) (Tq (Ay.ok h2) (Tq trivial (Tu (eq_false_of_ne_true c7))))) ?_;refine To ?_;cases h;exact T3
   refine rg L 236 [(2,false)] [] [] (Tu (decide_eq_false c6)) ?_;refine To ?_;cases h;exact T3
  refine fF c5 <| Tw L 249 ?_;rcases Tn h with ⟨c8,h⟩ |⟨c8,h⟩
  ·refine tT c8 <| Tm ?_;rcases Tn h with ⟨c9,h⟩ |⟨c9,h⟩
   ·obtain ⟨a3,h3,h⟩:=bind_some h;rcases Tn h with ⟨c10,h⟩ |⟨c10,h⟩
    ·refine rg L 253 [(2,true),(6,true)] [(4,.B a3)] [] (Tq (decide_eq_true c9) (Tq (Ay.ok h3) (Tq trivial (Tu c10)))) ?_;refine To ?_;cases h;exact T3
    refine rg L 253 [(2,true),(6,false)] [(4,.B a3)] [] (Tq (decide_eq_true c9) (Tq (Ay.ok h3) (Tq trivial (Tu (eq_false_of_ne_true c10))))) ?_;refine To ?_;cases h;exact T3
   refine rg L 253 [(2,false)] [] [] (Tu (decide_eq_false c9)) ?_;refine To ?_;cases h;exact T3
  refine fF c8 <| Tw L 267 ?_;rcases Tn h with ⟨c11,h⟩ |⟨c11,h⟩
  ·refine tT c11 <| Tm ?_;rcases Tn h with ⟨c12,h⟩ |⟨c12,h⟩
   ·obtain ⟨a4,h4,h⟩:=bind_some h;rcases Tn h with ⟨c13,h⟩ |⟨c13,h⟩
    ·obtain ⟨a5,h5,h⟩:=bind_some h;refine rg L 271 [(2,true),(6,true)] [(4,.B a4),(9,.B a5)] [] (Tq (decide_eq_true c12) (Tq (Ay.ok h4) (Tq trivial (Tq c13 (Tq (B4.ok h5) (Tu trivial)))))) ?_;refine To ?_;cases h;exact T3
    refine rg L 271 [(2,true),(6,false)] [(4,.B a4)] [] (Tq (decide_eq_true c12) (Tq (Ay.ok h4) (Tq trivial (Tu (eq_false_of_ne_true c13))))) ?_;refine To ?_;cases h;exact T3
   refine rg L 271 [(2,false)] [] [] (Tu (decide_eq_false c12)) ?_;refine To ?_;cases h;exact T3
  refine fF c11 <| Tw L 284 ?_;rcases Tn h with ⟨c14,h⟩ |⟨c14,h⟩
  ·refine tT c14 <| Tm ?_;obtain ⟨a6,h6,h⟩:=bind_some h;rcases Tn h with ⟨c15,h⟩ |⟨c15,h⟩
   ·obtain ⟨a7,h7,h⟩:=bind_some h;refine rg L 288 [(2,true)] [(1,.B a6),(5,.B a7)] [] (Tq (Ay.ok h6) (Tq trivial (Tq c15 (Tq (Dn.okR hR h7) (Tu trivial))))) ?_;refine To ?_;cases h;exact T3
   refine rg L 288 [(2,false)] [(1,.B a6)] [] (Tq (Ay.ok h6) (Tq trivial (Tu (eq_false_of_ne_true c15)))) ?_;refine To ?_;cases h;exact T3
  refine fF c14 <| Tw L 297 ?_;rcases Tn h with ⟨c16,h⟩ |⟨c16,h⟩
  ·refine tT c16 <| Tm ?_;obtain ⟨a8,h8,h⟩:=bind_some h;rcases Tn h with ⟨c17,h⟩ |⟨c17,h⟩
   ·obtain ⟨a9,h9,h⟩:=bind_some h;refine rg L 301 [(2,true)] [(1,.B a8),(5,.B a9)] [] (Tq (Ay.ok h8) (Tq trivial (Tq c17 (Tq (C2.okR hR h9) (Tu trivial))))) ?_;refine To ?_;cases h;exact T3
   refine rg L 301 [(2,false)] [(1,.B a8)] [] (Tq (Ay.ok h8) (Tq trivial (Tu (eq_false_of_ne_true c17)))) ?_;refine To ?_;cases h;exact T3
  refine fF c16 ?_;obtain ⟨o2,hp2,h⟩:=bind_some h;refine Tm (Uc (Q':=fun e S=>(e=.normal∧∃ c:Bool,S=⟨[(1,.P 29000),(3,.I (p0.Kids.length:Int)),(4,.I p0.Op),(90,.B c)],[(29000,.raw (Ah p0))]⟩∧c=o2)) ?_ ?_)
  ·clear h;replace h:=hp2;rcases Tn h with ⟨c18,h⟩ |⟨c18,h⟩
   ·refine Tz (rg L 310 [(2,true)] [] [] (Tu (decide_eq_true c18)) ⟨rfl,rfl⟩) (Tl.trans (Tl.kk [1,3,4,90] [21800]) (Tl.trans (Tl.rr [(21800,29000)]) (Tl.kp (S':=⟨[(1,.P 29000),(3,.I (p0.Kids.length:Int)),(4,.I p0.Op),(90,.B true)],[(29000,.raw (Ah p0))]⟩)))) ?_;cases h;exact ⟨rfl,_,rfl,rfl⟩
   refine Tz (rg L 310 [(2,false)] [] [] (Tu (decide_eq_false c18)) ⟨rfl,rfl⟩) (Tl.trans (Tl.kk [1,3,4,90] [21800]) (Tl.trans (Tl.rr [(21800,29000)]) (Tl.kp (S':=⟨[(1,.P 29000),(3,.I (p0.Kids.length:Int)),(4,.I p0.Op),(90,.B (decide (p0.Op=11)))],[(29000,.raw (Ah p0))]⟩)))) ?_;cases h;exact ⟨rfl,_,rfl,rfl⟩
  ·rintro e S ⟨rfl,c,rfl,rfl⟩;rcases Tn h with ⟨c19,h⟩ |⟨c19,h⟩
   ·refine tt c19 <| Tm ?_;obtain ⟨a10,h10,h⟩:=bind_some h;rcases Tn h with ⟨c20,h⟩ |⟨c20,h⟩
    ·obtain ⟨a11,h11,h⟩:=bind_some h;rcases Tn h with ⟨c21,h⟩ |⟨c21,h⟩
     ·obtain ⟨a12,h12,h⟩:=bind_some h;refine rg L 318 [(2,true),(7,true)] [(1,.B a10),(5,.B a11),(10,.B a12)] [] (Tq (Ay.ok h10) (Tq trivial (Tq c20 (Tq (B4.ok h11) (Tq trivial (Tq c21 (Tq (C2.okR hR h12) (Tu trivial)))))))) ?_;refine To ?_;cases h;exact T3
     refine rg L 318 [(2,true),(7,false)] [(1,.B a10),(5,.B a11)] [] (Tq (Ay.ok h10) (Tq trivial (Tq c20 (Tq (B4.ok h11) (Tq trivial (Tu (eq_false_of_ne_true c21))))))) ?_;refine To ?_;cases h;exact T3
    refine rg L 318 [(2,false)] [(1,.B a10)] [] (Tq (Ay.ok h10) (Tq trivial (Tu (eq_false_of_ne_true c20)))) ?_;refine To ?_;cases h;exact T3
   refine fN c19 <| Tw L 332 ?_;rcases Tn h with ⟨c22,h⟩ |⟨c22,h⟩
   ·refine tT c22 <| Tm ?_;rcases Tn h with ⟨c23,h⟩ |⟨c23,h⟩
    ·obtain ⟨a13,h13,h⟩:=bind_some h;rcases Tn h with ⟨c24,h⟩ |⟨c24,h⟩
     ·obtain ⟨a14,h14,h⟩:=bind_some h;rcases Tn h with ⟨c25,h⟩ |⟨c25,h⟩
      ·obtain ⟨g1,h⟩:=Ts h;obtain ⟨a15,h15,h⟩:=bind_some h;refine rg L 336 [(2,true),(6,true),(11,true)] [(4,.B a13),(9,.B a14),(16,.B a15)] [] (Tq (decide_eq_true c23) (Tq (Ay.ok h13) (Tq trivial (Tq c24 (Tq (B4.ok h14) (Tq trivial (Tq c25 (Tq (show (0:Int)≤0 from by decide) (Tq g1 (Tq (B7.okR hR h15) (Tu trivial))))))))))) ?_;refine To ?_;cases h;exact T3
      refine rg L 336 [(2,true),(6,true),(11,false)] [(4,.B a13),(9,.B a14)] [] (Tq (decide_eq_true c23) (Tq (Ay.ok h13) (Tq trivial (Tq c24 (Tq (B4.ok h14) (Tq trivial (Tu (eq_false_of_ne_true c25)))))))) ?_;refine To ?_;cases h;exact T3
     refine rg L 336 [(2,true),(6,false)] [(4,.B a13)] [] (Tq (decide_eq_true c23) (Tq (Ay.ok h13) (Tq trivial (Tu (eq_false_of_ne_true c24))))) ?_;refine To ?_;cases h;exact T3
    refine rg L 336 [(2,false)] [] [] (Tu (decide_eq_false c23)) ?_;refine To ?_;cases h;exact T3
   refine fF c22 ?_;obtain ⟨o3,hp3,h⟩:=bind_some h;refine Tm (Uc (Q':=fun e S=>(e=.normal∧∃ a:Bool,S=⟨[(1,.P 31400),(3,.I (p0.Kids.length:Int)),(4,.I p0.Op),(130,.B a)],[(31400,.raw (Ah p0))]⟩∧a=o3)) ?_ ?_)
   ·clear h;replace h:=hp3;rcases Tn h with ⟨c26,h⟩ |⟨c26,h⟩
    ·refine Tz (rg L 356 [(2,true)] [] [] (Tu (decide_eq_true c26)) ⟨rfl,rfl⟩) (Tl.trans (Tl.kk [1,3,4,130] [29000]) (Tl.trans (Tl.rr [(29000,31400)]) (Tl.kp (S':=⟨[(1,.P 31400),(3,.I (p0.Kids.length:Int)),(4,.I p0.Op),(130,.B true)],[(31400,.raw (Ah p0))]⟩)))) ?_;cases h;exact ⟨rfl,_,rfl,rfl⟩
    rcases Tn h with ⟨c27,h⟩ |⟨c27,h⟩
    ·refine Tz (rg L 356 [(2,false),(6,true)] [] [] (Vf (decide_eq_false c26) (decide_eq_true c27)) ⟨rfl,rfl⟩) (Tl.trans (Tl.kk [1,3,4,130] [29000]) (Tl.trans (Tl.rr [(29000,31400)]) (Tl.kp (S':=⟨[(1,.P 31400),(3,.I (p0.Kids.length:Int)),(4,.I p0.Op),(130,.B true)],[(31400,.raw (Ah p0))]⟩)))) ?_;cases h;exact ⟨rfl,_,rfl,rfl⟩
    refine Tz (rg L 356 [(2,false),(6,false)] [] [] (Vf (decide_eq_false c26) (decide_eq_false c27)) ⟨rfl,rfl⟩) (Tl.trans (Tl.kk [1,3,4,130] [29000]) (Tl.trans (Tl.rr [(29000,31400)]) (Tl.kp (S':=⟨[(1,.P 31400),(3,.I (p0.Kids.length:Int)),(4,.I p0.Op),(130,.B (decide (p0.Op=14)))],[(31400,.raw (Ah p0))]⟩)))) ?_;cases h;exact ⟨rfl,_,rfl,rfl⟩
   ·rintro e S ⟨rfl,a,rfl,rfl⟩;rcases Tn h with ⟨c28,h⟩ |⟨c28,h⟩
    ·refine tt c28 <| Tm ?_;rcases Tn h with ⟨c29,h⟩ |⟨c29,h⟩
     ·obtain ⟨a16,h16,h⟩:=bind_some h;rcases Tn h with ⟨c30,h⟩ |⟨c30,h⟩
      ·obtain ⟨g2,h⟩:=Ts h;obtain ⟨a17,h17,h⟩:=bind_some h;refine rg L 368 [(2,true),(6,true)] [(4,.B a16),(11,.B a17)] [] (Tq (decide_eq_true c29) (Tq (Ay.ok h16) (Tq trivial (Tq c30 (Tq (show (0:Int)≤0 from by decide) (Tq g2 (Tq (B7.okR hR h17) (Tu trivial)))))))) ?_;refine To ?_;cases h;exact T3
      refine rg L 368 [(2,true),(6,false)] [(4,.B a16)] [] (Tq (decide_eq_true c29) (Tq (Ay.ok h16) (Tq trivial (Tu (eq_false_of_ne_true c30))))) ?_;refine To ?_;cases h;exact T3
     refine rg L 368 [(2,false)] [] [] (Tu (decide_eq_false c29)) ?_;refine To ?_;cases h;exact T3
    refine fN c28 ?_;obtain ⟨o4,hp4,h⟩:=bind_some h;refine Tm (Uc (Q':=fun e S=>(e=.normal∧∃ b:Bool,S=⟨[(1,.P 32600),(3,.I (p0.Kids.length:Int)),(154,.B b)],[(32600,.raw (Ah p0))]⟩∧b=o4)) ?_ ?_)
    ·clear h;replace h:=hp4;rcases Tn h with ⟨c31,h⟩ |⟨c31,h⟩
     ·refine Tz (rg L 383 [(2,true)] [] [] (Tu (decide_eq_true c31)) ⟨rfl,rfl⟩) (Tl.trans (Tl.kk [1,3,154] [31400]) (Tl.trans (Tl.rr [(31400,32600)]) (Tl.kp (S':=⟨[(1,.P 32600),(3,.I (p0.Kids.length:Int)),(154,.B (decide (p0.Op≤28)))],[(32600,.raw (Ah p0))]⟩)))) ?_;cases h;exact ⟨rfl,_,rfl,rfl⟩
     refine Tz (rg L 383 [(2,false)] [] [] (Tu (decide_eq_false c31)) ⟨rfl,rfl⟩) (Tl.trans (Tl.kk [1,3,154] [31400]) (Tl.trans (Tl.rr [(31400,32600)]) (Tl.kp (S':=⟨[(1,.P 32600),(3,.I (p0.Kids.length:Int)),(154,.B false)],[(32600,.raw (Ah p0))]⟩)))) ?_;cases h;exact ⟨rfl,_,rfl,rfl⟩
    ·rintro e S ⟨rfl,b,rfl,rfl⟩;rcases Tn h with ⟨c32,h⟩ |⟨c32,h⟩
     ·refine tt c32 <| Tm ?_;rcases Tn h with ⟨c33,h⟩ |⟨c33,h⟩
      ·obtain ⟨a18,h18,h⟩:=bind_some h;rcases Tn h with ⟨c34,h⟩ |⟨c34,h⟩
       ·obtain ⟨a19,h19,h⟩:=bind_some h;refine rg L 391 [(2,true),(6,true)] [(4,.B a18),(9,.B a19)] [] (Tq (decide_eq_true c33) (Tq (Ay.ok h18) (Tq trivial (Tq c34 (Tq (C2.okR hR h19) (Tu trivial)))))) ?_;refine To ?_;cases h;exact T3
       refine rg L 391 [(2,true),(6,false)] [(4,.B a18)] [] (Tq (decide_eq_true c33) (Tq (Ay.ok h18) (Tq trivial (Tu (eq_false_of_ne_true c34))))) ?_;refine To ?_;cases h;exact T3
      refine rg L 391 [(2,false)] [] [] (Tu (decide_eq_false c33)) ?_;refine To ?_;cases h;exact T3
     refine fN c32 <| Tr <| Tw L 404 <| To ?_;cases h;exact T3
def Az.upto (K:Nat):Nat→Az
 | 0=>⟨fun _=>none,fun _=>none,fun _=>none,fun _=>none,fun _=>none,fun _=>none,fun _=>none,fun _=>none,fun _=>none,fun _=>none⟩
 | k+1=>⟨Dz.F K (Az.upto K k),Da.F K (Az.upto K k),Cd.F K (Az.upto K k),Cp.F K (Az.upto K k),Dn.F K (Az.upto K k),De.F K (Az.upto K k),Cg.F K (Az.upto K k),Cr.F K (Az.upto K k),C2.F K (Az.upto K k),B7.F K (Az.upto K k)⟩
theorem Az.upto_ok (K:Nat):∀ k,(Az.upto K k).Ok
 | 0=>⟨fun h=>(by cases h),fun h=>(by cases h),fun h=>(by cases h),fun h=>(by cases h),fun h=>(by cases h),fun h=>(by cases h),fun h=>(by cases h),fun h=>(by cases h),fun h=>(by cases h),fun h=>(by cases h)⟩
 | k+1=>⟨fun {p0 r} h=>eo (fn:=Tryz.f64) (n:=29) (m:=100) fun Γ=>Dz.body (K:=K) (Az.upto_ok K k) h,fun {p0 r} h=>eo (fn:=Tryz.f57) (n:=8) (m:=100) fun Γ=>Da.body (K:=K) (Az.upto_ok K k) h,fun {p0 r} h=>eo (fn:=Tryz.f90) (n:=19) (m:=100) fun Γ=>Cd.body (K:=K) (Az.upto_ok K k) h,fun {p0 r} h=>eo (fn:=Tryz.f56) (n:=9) (m:=100) fun Γ=>Cp.body (K:=K) (Az.upto_ok K k) h,fun {p0 r} h=>eo (fn:=Tryz.f30) (n:=9) (m:=100) fun Γ=>Dn.body (K:=K) (Az.upto_ok K k) h,fun {p0 r} h=>eo (fn:=Tryz.f57) (n:=8) (m:=100) fun Γ=>De.body (K:=K) (Az.upto_ok K k) h,fun {p0 r} h=>eo (fn:=Tryz.f90) (n:=19) (m:=100) fun Γ=>Cg.body (K:=K) (Az.upto_ok K k) h,fun {p0 r} h=>eo (fn:=Tryz.f56) (n:=9) (m:=100) fun Γ=>Cr.body (K:=K) (Az.upto_ok K k) h,fun {p0 r} h=>eo (fn:=Tryz.f30) (n:=9) (m:=100) fun Γ=>C2.body (K:=K) (Az.upto_ok K k) h,fun {p0 r} h=>eo (fn:=Tryz.f33) (n:=172) (m:=100) fun Γ=>B7.body (K:=K) (Az.upto_ok K k) h⟩
def Dz (K:Nat) (p0:Aa):Option Bool:=(Az.upto K K).Dz p0
theorem Dz.okE {K:Nat} {p0:Aa} {r:Bool} (h:Dz K p0=some r):Tv V P 64 [.agg (Ah p0)] [] [] (.B r) []:=(Az.upto_ok K K).Dz h
theorem Dz.ok {K:Nat} {p0:Aa} {r:Bool} (h:Dz K p0=some r):T1 V P 64 [.agg (Ah p0)] (.B r):=(Dz.okE h).pcall (by kernel_rfl)
def Da (K:Nat) (p0:Aa):Option Bool:=(Az.upto K K).Da p0
theorem Da.okE {K:Nat} {p0:Aa} {r:Bool} (h:Da K p0=some r):Tv V P 57 [.agg (Ah p0),.cv (.pcs [.fn (.func 64) [] []] 0)] [] [] (.B r) []:=(Az.upto_ok K K).Da h
theorem Da.ok {K:Nat} {p0:Aa} {r:Bool} (h:Da K p0=some r):T1 V P 57 [.agg (Ah p0),.cv (.pcs [.fn (.func 64) [] []] 0)] (.B r):=(Da.okE h).pcall (by kernel_rfl)
def Cd (K:Nat) (p0:List Aa):Option Int:=(Az.upto K K).Cd p0
theorem Cd.okE {K:Nat} {p0:List Aa} {r:Int} (h:Cd K p0=some r):Tv V P 90 [.cv (.ro .Af p0),.cv (.fn (.func 57) [] [.pcs [.fn (.func 64) [] []] 0])] [] [] (.I r) []:=(Az.upto_ok K K).Cd h
theorem Cd.ok {K:Nat} {p0:List Aa} {r:Int} (h:Cd K p0=some r):T1 V P 90 [.cv (.ro .Af p0),.cv (.fn (.func 57) [] [.pcs [.fn (.func 64) [] []] 0])] (.I r):=(Cd.okE h).pcall (by kernel_rfl)
def Cp (K:Nat) (p0:List Aa):Option Bool:=(Az.upto K K).Cp p0
theorem Cp.okE {K:Nat} {p0:List Aa} {r:Bool} (h:Cp K p0=some r):Tv V P 56 [.cv (.ro .Af p0),.cv (.fn (.func 57) [] [.pcs [.fn (.func 64) [] []] 0])] [] [] (.B r) []:=(Az.upto_ok K K).Cp h
theorem Cp.ok {K:Nat} {p0:List Aa} {r:Bool} (h:Cp K p0=some r):T1 V P 56 [.cv (.ro .Af p0),.cv (.fn (.func 57) [] [.pcs [.fn (.func 64) [] []] 0])] (.B r):=(Cp.okE h).pcall (by kernel_rfl)
def Dn (K:Nat) (p0:List Aa):Option Bool:=(Az.upto K K).Dn p0
theorem Dn.okE {K:Nat} {p0:List Aa} {r:Bool} (h:Dn K p0=some r):Tv V P 30 [.cv (.ro .Af p0),.cv (.fn (.func 64) [] [])] [] [] (.B r) []:=(Az.upto_ok K K).Dn h
theorem Dn.ok {K:Nat} {p0:List Aa} {r:Bool} (h:Dn K p0=some r):T1 V P 30 [.cv (.ro .Af p0),.cv (.fn (.func 64) [] [])] (.B r):=(Dn.okE h).pcall (by kernel_rfl)
def De (K:Nat) (p0:Aa):Option Bool:=(Az.upto K K).De p0
theorem De.okE {K:Nat} {p0:Aa} {r:Bool} (h:De K p0=some r):Tv V P 57 [.agg (Ah p0),.cv (.pcs [.fn (.func 33) [] []] 0)] [] [] (.B r) []:=(Az.upto_ok K K).De h
theorem De.ok {K:Nat} {p0:Aa} {r:Bool} (h:De K p0=some r):T1 V P 57 [.agg (Ah p0),.cv (.pcs [.fn (.func 33) [] []] 0)] (.B r):=(De.okE h).pcall (by kernel_rfl)
def Cg (K:Nat) (p0:List Aa):Option Int:=(Az.upto K K).Cg p0
theorem Cg.okE {K:Nat} {p0:List Aa} {r:Int} (h:Cg K p0=some r):Tv V P 90 [.cv (.ro .Af p0),.cv (.fn (.func 57) [] [.pcs [.fn (.func 33) [] []] 0])] [] [] (.I r) []:=(Az.upto_ok K K).Cg h
theorem Cg.ok {K:Nat} {p0:List Aa} {r:Int} (h:Cg K p0=some r):T1 V P 90 [.cv (.ro .Af p0),.cv (.fn (.func 57) [] [.pcs [.fn (.func 33) [] []] 0])] (.I r):=(Cg.okE h).pcall (by kernel_rfl)
def Cr (K:Nat) (p0:List Aa):Option Bool:=(Az.upto K K).Cr p0
theorem Cr.okE {K:Nat} {p0:List Aa} {r:Bool} (h:Cr K p0=some r):Tv V P 56 [.cv (.ro .Af p0),.cv (.fn (.func 57) [] [.pcs [.fn (.func 33) [] []] 0])] [] [] (.B r) []:=(Az.upto_ok K K).Cr h
theorem Cr.ok {K:Nat} {p0:List Aa} {r:Bool} (h:Cr K p0=some r):T1 V P 56 [.cv (.ro .Af p0),.cv (.fn (.func 57) [] [.pcs [.fn (.func 33) [] []] 0])] (.B r):=(Cr.okE h).pcall (by kernel_rfl)
def C2 (K:Nat) (p0:List Aa):Option Bool:=(Az.upto K K).C2 p0
theorem C2.okE {K:Nat} {p0:List Aa} {r:Bool} (h:C2 K p0=some r):Tv V P 30 [.cv (.ro .Af p0),.cv (.fn (.func 33) [] [])] [] [] (.B r) []:=(Az.upto_ok K K).C2 h
theorem C2.ok {K:Nat} {p0:List Aa} {r:Bool} (h:C2 K p0=some r):T1 V P 30 [.cv (.ro .Af p0),.cv (.fn (.func 33) [] [])] (.B r):=(C2.okE h).pcall (by kernel_rfl)
def B7 (K:Nat) (p0:Aa):Option Bool:=(Az.upto K K).B7 p0
theorem B7.okE {K:Nat} {p0:Aa} {r:Bool} (h:B7 K p0=some r):Tv V P 33 [.agg (Ah p0)] [] [] (.B r) []:=(Az.upto_ok K K).B7 h
theorem B7.ok {K:Nat} {p0:Aa} {r:Bool} (h:B7 K p0=some r):T1 V P 33 [.agg (Ah p0)] (.B r):=(B7.okE h).pcall (by kernel_rfl)
def Ez (K:Nat) (p0:Aa):Option Bool:=(Option.bind (((if p0.Op=1 then some (decide (p0.Op=1)) else (if p0.Op=2 then some (decide (p0.Op=2)) else (if p0.Op=3 then some (decide (p0.Op=3)) else (if p0.Op=4 then some (decide (p0.Op=4)) else some (decide (p0.Op=5))))))):Option Bool) (fun a=>(if a=true then (Option.bind (B7 K p0) (fun a1=>some a1)) else (if p0.Op=14 then (Option.bind (B7 K p0) (fun a2=>(if a2=true then (if (0:Int) <(p0.Kids.length:Int) then some (decide ((p0.Kids.getD (Int.toNat 0) B5).Op=4)) else none) else some false))) else some false))))
theorem Ez.body {Γ:Ud} {K:Nat} {p0:Aa} {r:Bool} (h:Ez K p0=some r):Ub V P 25 100 Γ (Tryz.f59.body.getD .skip) (Ty P V Tryz.f59 (.B r) []) ⟨Tx 0 [.agg (Ah p0)],[]⟩:=by
 unfold Ez at h;refine Tw L 200 <| Tm <| Tw L 203 <| Tt ?_;obtain ⟨o1,hp1,h⟩:=bind_some h;refine Tm (Uc (Q':=fun e S=>(e=.normal∧∃ a:Bool,S=⟨[(1,.P 21400),(4,.I p0.Op),(5,.B a)],[(21400,.raw (Ah p0))]⟩∧a=o1)) ?_ ?_)
 ·clear h;replace h:=hp1;refine Tw L 206 ?_;rcases Tn h with ⟨c1,h⟩ |⟨c1,h⟩
  ·refine tT c1 <| Tp (Tl.trans (Tl.kk [1,4,5] [200]) (Tl.rr [(200,21400)])) ?_;refine sk (S':=⟨[(1,.P 21400),(4,.I p0.Op),(5,.B (decide (p0.Op=1)))],[(21400,.raw (Ah p0))]⟩) ?_;cases h;exact ⟨rfl,_,rfl,rfl⟩
  refine fF c1 <| Tw L 209 ?_;rcases Tn h with ⟨c2,h⟩ |⟨c2,h⟩
  ·refine tT c2 <| Tp (Tl.trans (Tl.kk [1,4,5] [200]) (Tl.rr [(200,21400)])) ?_;refine sk (S':=⟨[(1,.P 21400),(4,.I p0.Op),(5,.B (decide (p0.Op=2)))],[(21400,.raw (Ah p0))]⟩) ?_;cases h;exact ⟨rfl,_,rfl,rfl⟩
  refine fF c2 <| Tw L 212 ?_;rcases Tn h with ⟨c3,h⟩ |⟨c3,h⟩
  ·refine tT c3 <| Tp (Tl.trans (Tl.kk [1,4,5] [200]) (Tl.rr [(200,21400)])) ?_;refine sk (S':=⟨[(1,.P 21400),(4,.I p0.Op),(5,.B (decide (p0.Op=3)))],[(21400,.raw (Ah p0))]⟩) ?_;cases h;exact ⟨rfl,_,rfl,rfl⟩
  refine fF c3 <| Tw L 215 ?_;rcases Tn h with ⟨c4,h⟩ |⟨c4,h⟩
  ·refine tT c4 <| Tp (Tl.trans (Tl.kk [1,4,5] [200]) (Tl.rr [(200,21400)])) ?_;refine sk (S':=⟨[(1,.P 21400),(4,.I p0.Op),(5,.B (decide (p0.Op=4)))],[(21400,.raw (Ah p0))]⟩) ?_;cases h;exact ⟨rfl,_,rfl,rfl⟩
  refine fF c4 <| Tz (Yr L 218 ⟨rfl,rfl⟩) (Tl.trans (Tl.kk [1,4,5] [200]) (Tl.trans (Tl.rr [(200,21400)]) (Tl.kp (S':=⟨[(1,.P 21400),(4,.I p0.Op),(5,.B (decide (p0.Op=5)))],[(21400,.raw (Ah p0))]⟩)))) ?_;cases h;exact ⟨rfl,_,rfl,rfl⟩
 ·rintro e S ⟨rfl,a,rfl,rfl⟩;rcases Tn h with ⟨c5,h⟩ |⟨c5,h⟩
  ·refine tt c5 <| Tm ?_;obtain ⟨a1,h1,h⟩:=bind_some h;refine rg L 221 [] [(1,.B a1)] [] (U4 (B7.ok h1)) ?_;refine To ?_;cases h;exact T3
  refine fN c5 <| Tw L 225 ?_;rcases Tn h with ⟨c6,h⟩ |⟨c6,h⟩
  ·refine tT c6 <| Tm ?_;obtain ⟨a2,h2,h⟩:=bind_some h;rcases Tn h with ⟨c7,h⟩ |⟨c7,h⟩
   ·obtain ⟨g1,h⟩:=Ts h;refine rg L 228 [(2,true)] [(1,.B a2)] [] (Tq (B7.ok h2) (Tq trivial (Tq c7 (Tq (show (0:Int)≤0 from by decide) (Tu g1))))) ?_;refine To ?_;cases h;exact T3
   refine rg L 228 [(2,false)] [(1,.B a2)] [] (Tq (B7.ok h2) (Tq trivial (Tu (eq_false_of_ne_true c7)))) ?_;refine To ?_;cases h;exact T3
  refine fF c6 <| Tr <| Tw L 240 <| To ?_;cases h;exact T3
theorem Ez.ok {K:Nat} {p0:Aa} {r:Bool} (h:Ez K p0=some r):T1 V P 59 [.agg (Ah p0)] (.B r):=Tv.pcall (eo (fn:=Tryz.f59) (n:=25) (m:=100) fun Γ=>Ez.body h) (by kernel_rfl)
structure Am where
 Ee:(List Aa)→Option Bool
 Dc:Aa→Option Bool
 Ch:(List Aa)→Option Int
 Ct:(List Aa)→Option Bool
 Dj:(List Aa)→Option Bool
 Dy:Aa→Option Bool
 Dd:Aa→Option Bool
 Ce:(List Aa)→Option Int
 Cq:(List Aa)→Option Bool
 Di:(List Aa)→Option Bool
 Dp:(List Aa)→Option Bool
 C4:Aa→Option Bool
 Db:Aa→Option Bool
 Ci:(List Aa)→Option Int
 Co:(List Aa)→Option Bool
 Do:(List Aa)→Option Bool
 Ck:Aa→Option Bool
structure Am.Ok (R:Am):Prop where
 Ee:∀ {p0:List Aa} {r:Bool},R.Ee p0=some r→Tv V P 120 [.cv (.ro .Af p0)] [] [] (.B r) []
 Dc:∀ {p0:Aa} {r:Bool},R.Dc p0=some r→Tv V P 57 [.agg (Ah p0),.cv (.pcs [.fn (.func 60) [] []] 0)] [] [] (.B r) []
 Ch:∀ {p0:List Aa} {r:Int},R.Ch p0=some r→Tv V P 90 [.cv (.ro .Af p0),.cv (.fn (.func 57) [] [.pcs [.fn (.func 60) [] []] 0])] [] [] (.I r) []
 Ct:∀ {p0:List Aa} {r:Bool},R.Ct p0=some r→Tv V P 56 [.cv (.ro .Af p0),.cv (.fn (.func 57) [] [.pcs [.fn (.func 60) [] []] 0])] [] [] (.B r) []
 Dj:∀ {p0:List Aa} {r:Bool},R.Dj p0=some r→Tv V P 30 [.cv (.ro .Af p0),.cv (.fn (.func 60) [] [])] [] [] (.B r) []
 Dy:∀ {p0:Aa} {r:Bool},R.Dy p0=some r→Tv V P 136 [.agg (Ah p0)] [] [] (.B r) []
 Dd:∀ {p0:Aa} {r:Bool},R.Dd p0=some r→Tv V P 57 [.agg (Ah p0),.cv (.pcs [.fn (.func 136) [] []] 0)] [] [] (.B r) []
 Ce:∀ {p0:List Aa} {r:Int},R.Ce p0=some r→Tv V P 90 [.cv (.ro .Af p0),.cv (.fn (.func 57) [] [.pcs [.fn (.func 136) [] []] 0])] [] [] (.I r) []
 Cq:∀ {p0:List Aa} {r:Bool},R.Cq p0=some r→Tv V P 56 [.cv (.ro .Af p0),.cv (.fn (.func 57) [] [.pcs [.fn (.func 136) [] []] 0])] [] [] (.B r) []
 Di:∀ {p0:List Aa} {r:Bool},R.Di p0=some r→Tv V P 30 [.cv (.ro .Af p0),.cv (.fn (.func 136) [] [])] [] [] (.B r) []
 Dp:∀ {p0:List Aa} {r:Bool},R.Dp p0=some r→Tv V P 121 [.cv (.ro .Af p0)] [] [] (.B r) []
 C4:∀ {p0:Aa} {r:Bool},R.C4 p0=some r→Tv V P 92 [.agg (Ah p0)] [] [] (.B r) []
 Db:∀ {p0:Aa} {r:Bool},R.Db p0=some r→Tv V P 57 [.agg (Ah p0),.cv (.pcs [.fn (.func 92) [] []] 0)] [] [] (.B r) []
 Ci:∀ {p0:List Aa} {r:Int},R.Ci p0=some r→Tv V P 90 [.cv (.ro .Af p0),.cv (.fn (.func 57) [] [.pcs [.fn (.func 92) [] []] 0])] [] [] (.I r) []
 Co:∀ {p0:List Aa} {r:Bool},R.Co p0=some r→Tv V P 56 [.cv (.ro .Af p0),.cv (.fn (.func 57) [] [.pcs [.fn (.func 92) [] []] 0])] [] [] (.B r) []
 Do:∀ {p0:List Aa} {r:Bool},R.Do p0=some r→Tv V P 30 [.cv (.ro .Af p0),.cv (.fn (.func 92) [] [])] [] [] (.B r) []
 Ck:∀ {p0:Aa} {r:Bool},R.Ck p0=some r→Tv V P 60 [.agg (Ah p0)] [] [] (.B r) []
theorem Ee.okR {R:Am} (hR:R.Ok) {p0:List Aa} {r:Bool} (h:R.Ee p0=some r):T1 V P 120 [.cv (.ro .Af p0)] (.B r):=(hR.Ee h).pcall (by kernel_rfl)
theorem Dc.okR {R:Am} (hR:R.Ok) {p0:Aa} {r:Bool} (h:R.Dc p0=some r):T1 V P 57 [.agg (Ah p0),.cv (.pcs [.fn (.func 60) [] []] 0)] (.B r):=(hR.Dc h).pcall (by kernel_rfl)
theorem Ch.okR {R:Am} (hR:R.Ok) {p0:List Aa} {r:Int} (h:R.Ch p0=some r):T1 V P 90 [.cv (.ro .Af p0),.cv (.fn (.func 57) [] [.pcs [.fn (.func 60) [] []] 0])] (.I r):=(hR.Ch h).pcall (by kernel_rfl)
theorem Ct.okR {R:Am} (hR:R.Ok) {p0:List Aa} {r:Bool} (h:R.Ct p0=some r):T1 V P 56 [.cv (.ro .Af p0),.cv (.fn (.func 57) [] [.pcs [.fn (.func 60) [] []] 0])] (.B r):=(hR.Ct h).pcall (by kernel_rfl)
theorem Dj.okR {R:Am} (hR:R.Ok) {p0:List Aa} {r:Bool} (h:R.Dj p0=some r):T1 V P 30 [.cv (.ro .Af p0),.cv (.fn (.func 60) [] [])] (.B r):=(hR.Dj h).pcall (by kernel_rfl)
theorem Dy.okR {R:Am} (hR:R.Ok) {p0:Aa} {r:Bool} (h:R.Dy p0=some r):T1 V P 136 [.agg (Ah p0)] (.B r):=(hR.Dy h).pcall (by kernel_rfl)
theorem Dd.okR {R:Am} (hR:R.Ok) {p0:Aa} {r:Bool} (h:R.Dd p0=some r):T1 V P 57 [.agg (Ah p0),.cv (.pcs [.fn (.func 136) [] []] 0)] (.B r):=(hR.Dd h).pcall (by kernel_rfl)
theorem Ce.okR {R:Am} (hR:R.Ok) {p0:List Aa} {r:Int} (h:R.Ce p0=some r):T1 V P 90 [.cv (.ro .Af p0),.cv (.fn (.func 57) [] [.pcs [.fn (.func 136) [] []] 0])] (.I r):=(hR.Ce h).pcall (by kernel_rfl)
theorem Cq.okR {R:Am} (hR:R.Ok) {p0:List Aa} {r:Bool} (h:R.Cq p0=some r):T1 V P 56 [.cv (.ro .Af p0),.cv (.fn (.func 57) [] [.pcs [.fn (.func 136) [] []] 0])] (.B r):=(hR.Cq h).pcall (by kernel_rfl)
theorem Di.okR {R:Am} (hR:R.Ok) {p0:List Aa} {r:Bool} (h:R.Di p0=some r):T1 V P 30 [.cv (.ro .Af p0),.cv (.fn (.func 136) [] [])] (.B r):=(hR.Di h).pcall (by kernel_rfl)
theorem Dp.okR {R:Am} (hR:R.Ok) {p0:List Aa} {r:Bool} (h:R.Dp p0=some r):T1 V P 121 [.cv (.ro .Af p0)] (.B r):=(hR.Dp h).pcall (by kernel_rfl)
theorem C4.okR {R:Am} (hR:R.Ok) {p0:Aa} {r:Bool} (h:R.C4 p0=some r):T1 V P 92 [.agg (Ah p0)] (.B r):=(hR.C4 h).pcall (by kernel_rfl)
theorem Db.okR {R:Am} (hR:R.Ok) {p0:Aa} {r:Bool} (h:R.Db p0=some r):T1 V P 57 [.agg (Ah p0),.cv (.pcs [.fn (.func 92) [] []] 0)] (.B r):=(hR.Db h).pcall (by kernel_rfl)
theorem Ci.okR {R:Am} (hR:R.Ok) {p0:List Aa} {r:Int} (h:R.Ci p0=some r):T1 V P 90 [.cv (.ro .Af p0),.cv (.fn (.func 57) [] [.pcs [.fn (.func 92) [] []] 0])] (.I r):=(hR.Ci h).pcall (by kernel_rfl)
theorem Co.okR {R:Am} (hR:R.Ok) {p0:List Aa} {r:Bool} (h:R.Co p0=some r):T1 V P 56 [.cv (.ro .Af p0),.cv (.fn (.func 57) [] [.pcs [.fn (.func 92) [] []] 0])] (.B r):=(hR.Co h).pcall (by kernel_rfl)
theorem Do.okR {R:Am} (hR:R.Ok) {p0:List Aa} {r:Bool} (h:R.Do p0=some r):T1 V P 30 [.cv (.ro .Af p0),.cv (.fn (.func 92) [] [])] (.B r):=(hR.Do h).pcall (by kernel_rfl)
theorem Ck.okR {R:Am} (hR:R.Ok) {p0:Aa} {r:Bool} (h:R.Ck p0=some r):T1 V P 60 [.agg (Ah p0)] (.B r):=(hR.Ck h).pcall (by kernel_rfl)
def Ee.F (K:Nat) (R:Am) (p0:List Aa):Option Bool:=(if (p0.length:Int) < 2 then some false else (if (p0.length:Int) > 3 then some false else (if (0:Int) <(p0.length:Int) then (Option.bind (B7 K (p0.getD (Int.toNat 0) B5)) (fun a1=>(if a1=true then (if (1:Int) <(p0.length:Int) then (Option.bind (R.Ck (p0.getD (Int.toNat 1) B5)) (fun a2=>(if a2=true then (if (p0.length:Int)=2 then some true else (if (2:Int) <(p0.length:Int) then (Option.bind (R.Ck (p0.getD (Int.toNat 2) B5)) (fun a3=>(if a3=true then some true else (if (p0.getD (Int.toNat 2) B5).Op=42 then (Option.bind (R.C4 (p0.getD (Int.toNat 2) B5)) (fun a4=>some a4)) else some false)))) else none)) else some false))) else none) else some false))) else none)))
theorem Ee.body {Γ:Ud} {K:Nat} {R:Am} (hR:R.Ok) {p0:List Aa} {r:Bool} (h:Ee.F K R p0=some r):Ub V P 47 100 Γ (Tryz.f120.body.getD .skip) (Ty P V Tryz.f120 (.B r) []) ⟨Tx 0 [.cv (.ro .Af p0)],[]⟩:=by
 unfold Ee.F at h;refine Tw L 200 <| Tm <| Tm ?_;rcases Tn h with ⟨c1,h⟩ |⟨c1,h⟩
 ·refine rg L 202 [(3,true)] [] [] (Tu (decide_eq_true c1)) ?_;refine tt (b:=true) (rfl) ?_;refine Tw L 225 <| To ?_;cases h;exact T3
 rcases Tn h with ⟨c2,h⟩ |⟨c2,h⟩
 ·refine rg L 202 [(3,false),(8,true)] [] [] (Vf (decide_eq_false c1) (decide_eq_true c2)) ?_;refine tt (b:=true) (rfl) ?_;refine Tw L 225 <| To ?_;cases h;exact T3
 obtain ⟨g1,h⟩:=Ts h;obtain ⟨a1,h1,h⟩:=bind_some h;rcases Tn h with ⟨c3,h⟩ |⟨c3,h⟩
 ·obtain ⟨g2,h⟩:=Ts h;obtain ⟨a2,h2,h⟩:=bind_some h;refine rg L 202 [(3,false),(8,false),(15,false)] [(12,.B a1),(19,.B a2)] [] (Tq (decide_eq_false c1) (Tq (decide_eq_false c2) (Tq (show (0:Int)≤0 from by decide) (Tq g1 (Tq (B7.ok h1) (Tq trivial (Tq (show (!a1)=false from congrArg Bool.not (c3)) (Tq (show (0:Int)≤1 from by decide) (Tq g2 (Tq (Ck.okR hR h2) (Tu trivial))))))))))) ?_;rcases Tn h with ⟨c4,h⟩ |⟨c4,h⟩
  ·refine ff (b:=(!a2)) (congrArg Bool.not (c4)) ?_;refine Tr <| Tm ?_;rcases Tn h with ⟨c5,h⟩ |⟨c5,h⟩
   ·refine rg L 227 [(3,true)] [] [] (Tu (decide_eq_true c5)) ?_;refine To ?_;cases h;exact T3
   obtain ⟨g3,h⟩:=Ts h;obtain ⟨a3,h3,h⟩:=bind_some h;rcases Tn h with ⟨c6,h⟩ |⟨c6,h⟩
   ·refine rg L 227 [(3,false),(9,true)] [(7,.B a3)] [] (Tq (decide_eq_false c5) (Tq (show (0:Int)≤2 from by decide) (Tq g3 (Tq (Ck.okR hR h3) (Tq trivial (Tu c6)))))) ?_;refine To ?_;cases h;exact T3
   rcases Tn h with ⟨c7,h⟩ |⟨c7,h⟩
   ·obtain ⟨a4,h4,h⟩:=bind_some h;refine rg L 227 [(3,false),(9,false),(15,true)] [(7,.B a3),(19,.B a4)] [] (Tq (decide_eq_false c5) (Tq (show (0:Int)≤2 from by decide) (Tq g3 (Tq (Ck.okR hR h3) (Tq trivial (Tq (eq_false_of_ne_true c6) (Tq (show (0:Int)≤2 from by decide) (Tq g3 (Tq (decide_eq_true c7) (Tq (show (0:Int)≤2 from by decide) (Tq g3 (Tq (C4.okR hR h4) (Tu trivial))))))))))))) ?_;refine To ?_;cases h;exact T3
   refine rg L 227 [(3,false),(9,false),(15,false)] [(7,.B a3)] [] (Tq (decide_eq_false c5) (Tq (show (0:Int)≤2 from by decide) (Tq g3 (Tq (Ck.okR hR h3) (Tq trivial (Tq (eq_false_of_ne_true c6) (Tq (show (0:Int)≤2 from by decide) (Tq g3 (Tu (decide_eq_false c7)))))))))) ?_;refine To ?_;cases h;exact T3
  refine tt (b:=(!a2)) (congrArg Bool.not (eq_false_of_ne_true c4)) ?_;refine Tw L 225 <| To ?_;cases h;exact T3
 refine rg L 202 [(3,false),(8,false),(15,true)] [(12,.B a1)] [] (Tq (decide_eq_false c1) (Tq (decide_eq_false c2) (Tq (show (0:Int)≤0 from by decide) (Tq g1 (Tq (B7.ok h1) (Tq trivial (Tu (show (!a1)=true from congrArg Bool.not (eq_false_of_ne_true c3))))))))) ?_;refine tt (b:=true) (rfl) ?_;refine Tw L 225 <| To ?_;cases h;exact T3
def Dc.F (K:Nat) (R:Am) (p0:Aa):Option Bool:=(Option.bind (R.Ck p0) (fun a1=>some (!a1)))
theorem Dc.body {Γ:Ud} {K:Nat} {R:Am} (hR:R.Ok) {p0:Aa} {r:Bool} (h:Dc.F K R p0=some r):Ub V P 8 100 Γ (Tryz.f57.body.getD .skip) (Ty P V Tryz.f57 (.B r) []) ⟨Tx 0 [.agg (Ah p0),.cv (.pcs [.fn (.func 60) [] []] 0)],[]⟩:=by
 unfold Dc.F at h;refine Tw L 200 <| Tm ?_;obtain ⟨a1,h1,h⟩:=bind_some h;refine rg L 203 [] [(2,.B a1)] [] (U4 (Ck.okR hR h1)) ?_;refine To ?_;cases h;exact T3
def Ch.l7 (K:Nat) (R:Am) (p0:List Aa):Nat→Int→Option (T5 Int Unit)
 | 0,_=>none
 | k+1,a=>(if a <(p0.length:Int) then (if (0:Int)≤a∧(a:Int) <(p0.length:Int) then (Option.bind (R.Dc (p0.getD (Int.toNat a) B5)) (fun a1=>(if a1=true then some (T5.done a) else Ch.l7 K R p0 k (IntKind.i64.wrap (a+1))))) else none) else some (T5.go ()))
def Ch.F (K:Nat) (R:Am) (p0:List Aa):Option Int:=(obind (Ch.l7 K R p0 K 0:Option (T5 Int Unit)) (fun r=>r) (fun _=>some (-1)))
theorem Ch.body {Γ:Ud} {K:Nat} {R:Am} (hR:R.Ok) {p0:List Aa} {r:Int} (h:Ch.F K R p0=some r):Ub V P 19 100 Γ (Tryz.f90.body.getD .skip) (Ty P V Tryz.f90 (.I r) []) ⟨Tx 0 [.cv (.ro .Af p0),.cv (.fn (.func 57) [] [.pcs [.fn (.func 60) [] []] 0])],[]⟩:=by
 unfold Ch.F at h;refine Tw L 200 <| Tm <| Tw L 202 <| Tt <| kp (S':=⟨[(0,.cv (.ro .Af p0)),(1,.cv (.fn (.func 57) [] [.pcs [.fn (.func 60) [] []] 0])),(7,.I (p0.length:Int)),(8,.I 0)],[]⟩) ?_;obtain ⟨o1,hp1,h⟩:=T7 h;refine T4 (Q':=fun e S=>(e=.exit 0∧S=⟨[],[]⟩∧T5.go ()=o1)∨(e=.ret∧∃ a,T5.done a=o1∧Ty P V Tryz.f90 (.I a) [] .ret S)) (T8 (fun k S=>∃ b:Int,S=⟨[(0,.cv (.ro .Af p0)),(1,.cv (.fn (.func 57) [] [.pcs [.fn (.func 60) [] []] 0])),(7,.I (p0.length:Int)),(8,.I b)],[]⟩∧Ch.l7 K R p0 k b=some o1) ?_ ⟨_,rfl,hp1⟩) ?_
 ·clear h hp1;intro k S hS;obtain ⟨b,rfl,h⟩:=hS;cases k with
  | zero=>cases h
  | succ k =>
  unfold Ch.l7 at h;refine Tw L 206 <| Tm ?_;rcases Tn h with ⟨c1,h⟩ |⟨c1,h⟩
  ·refine tT c1 <| Tr <| Tm <| Tt <| Tw L 208 <| Tm ?_;obtain ⟨g1,h⟩:=Ts h;obtain ⟨a1,h1,h⟩:=bind_some h;refine rg L 211 [] [(5,.B a1)] [] (Tq g1.1 (Tq g1.2 (Tq (Dc.okR hR h1) (Tu trivial)))) ?_;rcases Tn h with ⟨c2,h⟩ |⟨c2,h⟩
   ·refine tt c2 <| Tw L 218 <| To ?_;cases h;exact .inr ⟨rfl,_,rfl,T3⟩
   refine fN c2 <| Tr <| Xi L 221 [] [] [] (S':=⟨[(0,.cv (.ro .Af p0)),(1,.cv (.fn (.func 57) [] [.pcs [.fn (.func 60) [] []] 0])),(7,.I (p0.length:Int)),(8,.I (IntKind.i64.wrap (b+1)))],[]⟩) ?_;exact ⟨k,Nat.lt_succ_self k,_,rfl,h⟩
  refine fF c1 <| ex (S':=⟨[],[]⟩) ?_;cases h;exact .inl ⟨rfl,rfl,rfl⟩
 ·rintro e S (⟨rfl,rfl,rfl⟩ |⟨rfl,a,rfl,hr⟩)
  ·rcases h with ⟨_,e1,h⟩ |⟨_,e1,h⟩
   ·cases e1
   ·have e2:=T5.go.inj e1;subst e2;refine ⟨_,Tl.refl,?_⟩;refine Tw L 224 <| To ?_;cases h;exact T3
  ·rcases h with ⟨_,e1,h⟩ |⟨_,e1,h⟩
   ·have e2:=T5.done.inj e1;subst e2;subst h;exact ⟨_,Tl.refl,hr⟩
   ·cases e1
def Ct.F (K:Nat) (R:Am) (p0:List Aa):Option Bool:=(Option.bind (R.Ch p0) (fun a1=>some (decide (a1≥0))))
theorem Ct.body {Γ:Ud} {K:Nat} {R:Am} (hR:R.Ok) {p0:List Aa} {r:Bool} (h:Ct.F K R p0=some r):Ub V P 9 100 Γ (Tryz.f56.body.getD .skip) (Ty P V Tryz.f56 (.B r) []) ⟨Tx 0 [.cv (.ro .Af p0),.cv (.fn (.func 57) [] [.pcs [.fn (.func 60) [] []] 0])],[]⟩:=by
 unfold Ct.F at h;refine Tw L 200 <| Tm ?_;obtain ⟨a1,h1,h⟩:=bind_some h;refine rg L 202 [] [(2,.I a1)] [] (U4 (Ch.okR hR h1)) ?_;refine To ?_;cases h;exact T3
def Dj.F (K:Nat) (R:Am) (p0:List Aa):Option Bool:=(Option.bind (R.Ct p0) (fun a1=>some (!a1)))
theorem Dj.body {Γ:Ud} {K:Nat} {R:Am} (hR:R.Ok) {p0:List Aa} {r:Bool} (h:Dj.F K R p0=some r):Ub V P 9 100 Γ (Tryz.f30.body.getD .skip) (Ty P V Tryz.f30 (.B r) []) ⟨Tx 0 [.cv (.ro .Af p0),.cv (.fn (.func 60) [] [])],[]⟩:=by
 unfold Dj.F at h;refine Tw L 200 <| Tm ?_;obtain ⟨a1,h1,h⟩:=bind_some h;refine rg L 203 [] [(2,.B a1)] [] (U4 (Ct.okR hR h1)) ?_;refine To ?_;cases h;exact T3
end Go.Proofs.YtifjagfmfkemmaaGreatDoor
