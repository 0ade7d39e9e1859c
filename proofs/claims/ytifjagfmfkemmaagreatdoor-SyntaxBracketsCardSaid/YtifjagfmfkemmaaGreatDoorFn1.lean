import Derived.Test.YtifjagfmfkemmaaGreatDoorPd
set_option linter.unusedVariables false
set_option maxHeartbeats 0
namespace Go.Proofs.YtifjagfmfkemmaaGreatDoor
open Eng
def Cb (K:Nat) (p0:Aw) (p1:Int):Option Int:=(if (IntKind.i64.wrap (p0.at_+p1))≥(p0.src.length:Int) then some (-1) else (if (0:Int)≤(IntKind.i64.wrap (p0.at_+p1))∧((IntKind.i64.wrap (p0.at_+p1)):Int) <(p0.src.length:Int) then some ((IntKind.i32.wrap ((p0.src.getD (Int.toNat (IntKind.i64.wrap (p0.at_+p1))) 0).toNat:Int))) else none))
theorem Cb.body {Γ:P4} {K:Nat} {p0:Aw} {p1:Int} {r:Int} (h:Cb K p0 p1=some r):P1 V P 29 100 Γ (Tryz.f97.body.getD .skip) (Po P V Tryz.f97 (.cv (.lit (.int .i32 r))) []) ⟨Pn 0 [.cv (.pcs (A3 p0) 0),.I p1],[]⟩:=by
 unfold Cb at h;refine Pl L 200 <| Pb <| sd' L mixed 202 [] [] [] [] 12 pl0 ?_;rcases Pc h with ⟨c1,h⟩ |⟨c1,h⟩
 ·refine tT c1 <| Pl L 215 <| Pd ?_;cases h;exact Pt
 refine fF c1 <| Pg <| Pb ?_;obtain ⟨g1,h⟩:=Ph h;refine rd L mixed 217 [] [] [] [] 13 (Q2 g1.1 g1.2) ?_;refine Pd ?_;cases h;exact Pt
theorem Cb.ok {K:Nat} {p0:Aw} {p1:Int} {r:Int} (h:Cb K p0 p1=some r):Pr V P 97 [.cv (.pcs (A3 p0) 0),.I p1] (.cv (.lit (.int .i32 r))):=Pm.pcall (eo (fn:=Tryz.f97) (n:=29) (m:=100) fun Γ=>Cb.body h) (by kernel_rfl)
def E4 (K:Nat) (p0:Int):Option Bool:=(if p0=32 then some true else (if p0=9 then some true else some (decide (p0=10))))
theorem E4.body {Γ:P4} {K:Nat} {p0:Int} {r:Bool} (h:E4 K p0=some r):P1 V P 13 100 Γ (Tryz.f71.body.getD .skip) (Po P V Tryz.f71 (.B r) []) ⟨Pn 0 [.cv (.lit (.int .i32 p0))],[]⟩:=by
 unfold E4 at h;refine Pl L 200 <| Pb ?_;rcases Pc h with ⟨c1,h⟩ |⟨c1,h⟩
 ·refine rg L 202 [(2,true)] [] [] (Pk (decide_eq_true c1)) ?_;refine Pd ?_;cases h;exact Pt
 rcases Pc h with ⟨c2,h⟩ |⟨c2,h⟩
 ·refine rg L 202 [(2,false),(6,true)] [] [] (Q2 (decide_eq_false c1) (decide_eq_true c2)) ?_;refine Pd ?_;cases h;exact Pt
 refine rg L 202 [(2,false),(6,false)] [] [] (Q2 (decide_eq_false c1) (decide_eq_false c2)) ?_;refine Pd ?_;cases h;exact Pt
theorem E4.ok {K:Nat} {p0:Int} {r:Bool} (h:E4 K p0=some r):Pr V P 71 [.cv (.lit (.int .i32 p0))] (.B r):=Pm.pcall (eo (fn:=Tryz.f71) (n:=13) (m:=100) fun Γ=>E4.body h) (by kernel_rfl)
def C7.l7 (K:Nat) (p0:Aw):Nat→Int→Option Int
 | 0,_=>none
 | k+1,a=>(Option.bind (Cb K (⟨p0.src,a⟩:Aw) 0) (fun a1=>(Option.bind (E4 K a1) (fun a2=>(if a2=true then C7.l7 K p0 k (IntKind.i64.wrap (a+1)) else some a)))))
def C7 (K:Nat) (p0:Aw):Option ((List UInt8)×Aw):=(Option.bind (C7.l7 K p0 K p0.at_:Option Int) (fun a=>(if (0:Int)≤p0.at_∧p0.at_≤a∧a≤(p0.src.length:Int) then some ((Ur p0.src p0.at_ a),(⟨p0.src,a⟩:Aw)) else none)))
theorem C7.body {Γ:P4} {K:Nat} {p0:Aw} {r:(List UInt8)×Aw} (h:C7 K p0=some r):P1 V P 31 100 Γ (Tryz.f70.body.getD .skip) (Po P V Tryz.f70 (.cv (.str r.1)) [(0,.raw [.str r.2.src,.I r.2.at_])]) ⟨Pn 0 [.P 0,.cv (.fn (.func 71) [] [])],[(0,.raw (A3 p0))]⟩:=by
 unfold C7 at h;refine Pl L 200 <| Pl L 202 <| Pb <| Pj <| kp (S':=⟨[(0,.P 0),(1,.cv (.fn (.func 71) [] [])),(5,.I p0.at_)],[(0,.raw (A3 p0))]⟩) ?_;obtain ⟨o1,hp1,h⟩:=bind_some h;refine Pu (Q':=fun e S=>(e=.exit 0∧∃ b:Int,S=⟨[(0,.P 0),(5,.I p0.at_)],[(0,.raw [.str p0.src,.I b])]⟩∧b=o1)) (Pz (fun k S=>∃ a:Int,S=⟨[(0,.P 0),(1,.cv (.fn (.func 71) [] [])),(5,.I p0.at_)],[(0,.raw [.str p0.src,.I a])]⟩∧C7.l7 K p0 k a=some o1) ?_ ⟨_,rfl,hp1⟩) ?_
 ·clear h hp1;intro k S hS;obtain ⟨a,rfl,h⟩:=hS;cases k with
  | zero=>cases h
  | succ k =>
  unfold C7.l7 at h;refine Pb <| Pb ?_;obtain ⟨a1,h1,h⟩:=bind_some h;obtain ⟨a2,h2,h⟩:=bind_some h;refine rg L 208 [] [(2,.cv (.lit (.int .i32 a1))),(3,.B a2)] [] (Pf (Cb.ok h1) (Pf trivial (Pf (E4.ok h2) (Pk trivial)))) ?_;rcases Pc h with ⟨c1,h⟩ |⟨c1,h⟩
  ·refine tt c1 <| Pg <| Pj <| Se L 213 [] [] [] (S':=⟨[(0,.P 0),(1,.cv (.fn (.func 71) [] [])),(5,.I p0.at_)],[(0,.raw [.str p0.src,.I (IntKind.i64.wrap (a+1))])]⟩) ?_;exact ⟨k,Nat.lt_succ_self k,_,rfl,h⟩
  refine fN c1 <| ex (S':=⟨[(0,.P 0),(5,.I p0.at_)],[(0,.raw [.str p0.src,.I a])]⟩) ?_;cases h;exact ⟨rfl,_,rfl,rfl⟩
 ·rintro e S ⟨rfl,b,rfl,rfl⟩;refine ⟨_,Pa.refl,?_⟩;refine Pb ?_;obtain ⟨g1,h⟩:=Ph h;refine rd L mixed 222 [] [] [] [] 11 (Pf g1.1 (Pf g1.2.1 (Pk g1.2.2))) ?_;refine Pd ?_;cases h;exact Pt
theorem C7.okE {K:Nat} {p0:Aw} {r:(List UInt8)×Aw} (h:C7 K p0=some r):Pm V P 70 [.P 0,.cv (.fn (.func 71) [] [])] [(0,.raw (A3 p0))] [0] (.cv (.str r.1)) [(0,.raw [.str r.2.src,.I r.2.at_])] :=
 eo (fn:=Tryz.f70) (n:=31) (m:=100) fun Γ=>C7.body h
def El (K:Nat) (p0:Int):Option Bool:=(if p0≥97 then (if p0≤122 then some true else (if p0≥65 then (if p0≤90 then some true else some (decide (p0=95))) else some (decide (p0=95)))) else (if p0≥65 then (if p0≤90 then some true else some (decide (p0=95))) else some (decide (p0=95))))
theorem El.body {Γ:P4} {K:Nat} {p0:Int} {r:Bool} (h:El K p0=some r):P1 V P 21 100 Γ (Tryz.f98.body.getD .skip) (Po P V Tryz.f98 (.B r) []) ⟨Pn 0 [.cv (.lit (.int .i32 p0))],[]⟩:=by
 unfold El at h;refine Pl L 200 <| Pb ?_;rcases Pc h with ⟨c1,h⟩ |⟨c1,h⟩
 ·rcases Pc h with ⟨c2,h⟩ |⟨c2,h⟩
  ·refine rg L 202 [(2,true),(6,true)] [] [] (Q2 (decide_eq_true c1) (decide_eq_true c2)) ?_;refine Pd ?_;cases h;exact Pt
  rcases Pc h with ⟨c3,h⟩ |⟨c3,h⟩
  ·rcases Pc h with ⟨c4,h⟩ |⟨c4,h⟩
   ·refine rg L 202 [(2,true),(6,false),(9,true),(14,true)] [] [] (Pf (decide_eq_true c1) (Pf (decide_eq_false c2) (Pf (decide_eq_true c3) (Pk (decide_eq_true c4))))) ?_;refine Pd ?_;cases h;exact Pt
   refine rg L 202 [(2,true),(6,false),(9,true),(14,false)] [] [] (Pf (decide_eq_true c1) (Pf (decide_eq_false c2) (Pf (decide_eq_true c3) (Pk (decide_eq_false c4))))) ?_;refine Pd ?_;cases h;exact Pt
  refine rg L 202 [(2,true),(6,false),(9,false)] [] [] (Pf (decide_eq_true c1) (Pf (decide_eq_false c2) (Pk (decide_eq_false c3)))) ?_;refine Pd ?_;cases h;exact Pt
 rcases Pc h with ⟨c5,h⟩ |⟨c5,h⟩
 ·rcases Pc h with ⟨c6,h⟩ |⟨c6,h⟩
  ·refine rg L 202 [(2,false),(9,true),(14,true)] [] [] (Pf (decide_eq_false c1) (Pf (decide_eq_true c5) (Pk (decide_eq_true c6)))) ?_;refine Pd ?_;cases h;exact Pt
  refine rg L 202 [(2,false),(9,true),(14,false)] [] [] (Pf (decide_eq_false c1) (Pf (decide_eq_true c5) (Pk (decide_eq_false c6)))) ?_;refine Pd ?_;cases h;exact Pt
 refine rg L 202 [(2,false),(9,false)] [] [] (Q2 (decide_eq_false c1) (decide_eq_false c5)) ?_;refine Pd ?_;cases h;exact Pt
theorem El.ok {K:Nat} {p0:Int} {r:Bool} (h:El K p0=some r):Pr V P 98 [.cv (.lit (.int .i32 p0))] (.B r):=Pm.pcall (eo (fn:=Tryz.f98) (n:=21) (m:=100) fun Γ=>El.body h) (by kernel_rfl)
def Ez (K:Nat) (p0:Int):Option Bool:=(if p0≥48 then some (decide (p0≤57)) else some false)
theorem Ez.body {Γ:P4} {K:Nat} {p0:Int} {r:Bool} (h:Ez K p0=some r):P1 V P 9 100 Γ (Tryz.f100.body.getD .skip) (Po P V Tryz.f100 (.B r) []) ⟨Pn 0 [.cv (.lit (.int .i32 p0))],[]⟩:=by
 unfold Ez at h;refine Pl L 200 <| Pb ?_;rcases Pc h with ⟨c1,h⟩ |⟨c1,h⟩
 ·refine rg L 202 [(2,true)] [] [] (Pk (decide_eq_true c1)) ?_;refine Pd ?_;cases h;exact Pt
 refine rg L 202 [(2,false)] [] [] (Pk (decide_eq_false c1)) ?_;refine Pd ?_;cases h;exact Pt
theorem Ez.ok {K:Nat} {p0:Int} {r:Bool} (h:Ez K p0=some r):Pr V P 100 [.cv (.lit (.int .i32 p0))] (.B r):=Pm.pcall (eo (fn:=Tryz.f100) (n:=9) (m:=100) fun Γ=>Ez.body h) (by kernel_rfl)
def D8 (K:Nat) (p0:Int):Option Bool:=(Option.bind (El K p0) (fun a1=>(if a1=true then some true else (Option.bind (Ez K p0) (fun a2=>some a2)))))
theorem D8.body {Γ:P4} {K:Nat} {p0:Int} {r:Bool} (h:D8 K p0=some r):P1 V P 9 100 Γ (Tryz.f125.body.getD .skip) (Po P V Tryz.f125 (.B r) []) ⟨Pn 0 [.cv (.lit (.int .i32 p0))],[]⟩:=by
 unfold D8 at h;refine Pl L 200 <| Pb ?_;obtain ⟨a1,h1,h⟩:=bind_some h;rcases Pc h with ⟨c1,h⟩ |⟨c1,h⟩
 ·refine rg L 202 [(2,true)] [(1,.B a1)] [] (Pf (El.ok h1) (Pf trivial (Pk c1))) ?_;refine Pd ?_;cases h;exact Pt
 obtain ⟨a2,h2,h⟩:=bind_some h;refine rg L 202 [(2,false)] [(1,.B a1),(4,.B a2)] [] (Pf (El.ok h1) (Pf trivial (Pf (eq_false_of_ne_true c1) (Pf (Ez.ok h2) (Pk trivial))))) ?_;refine Pd ?_;cases h;exact Pt
theorem D8.ok {K:Nat} {p0:Int} {r:Bool} (h:D8 K p0=some r):Pr V P 125 [.cv (.lit (.int .i32 p0))] (.B r):=Pm.pcall (eo (fn:=Tryz.f125) (n:=9) (m:=100) fun Γ=>D8.body h) (by kernel_rfl)
def C9.l7 (K:Nat) (p0:Aw):Nat→Int→Option Int
 | 0,_=>none
 | k+1,a=>(Option.bind (Cb K (⟨p0.src,a⟩:Aw) 0) (fun a1=>(Option.bind (D8 K a1) (fun a2=>(if a2=true then C9.l7 K p0 k (IntKind.i64.wrap (a+1)) else some a)))))
def C9 (K:Nat) (p0:Aw):Option ((List UInt8)×Aw):=(Option.bind (C9.l7 K p0 K p0.at_:Option Int) (fun a=>(if (0:Int)≤p0.at_∧p0.at_≤a∧a≤(p0.src.length:Int) then some ((Ur p0.src p0.at_ a),(⟨p0.src,a⟩:Aw)) else none)))
theorem C9.body {Γ:P4} {K:Nat} {p0:Aw} {r:(List UInt8)×Aw} (h:C9 K p0=some r):P1 V P 31 100 Γ (Tryz.f70.body.getD .skip) (Po P V Tryz.f70 (.cv (.str r.1)) [(0,.raw [.str r.2.src,.I r.2.at_])]) ⟨Pn 0 [.P 0,.cv (.fn (.func 125) [] [])],[(0,.raw (A3 p0))]⟩:=by
 unfold C9 at h;refine Pl L 200 <| Pl L 202 <| Pb <| Pj <| kp (S':=⟨[(0,.P 0),(1,.cv (.fn (.func 125) [] [])),(5,.I p0.at_)],[(0,.raw (A3 p0))]⟩) ?_;obtain ⟨o1,hp1,h⟩:=bind_some h;refine Pu (Q':=fun e S=>(e=.exit 0∧∃ b:Int,S=⟨[(0,.P 0),(5,.I p0.at_)],[(0,.raw [.str p0.src,.I b])]⟩∧b=o1)) (Pz (fun k S=>∃ a:Int,S=⟨[(0,.P 0),(1,.cv (.fn (.func 125) [] [])),(5,.I p0.at_)],[(0,.raw [.str p0.src,.I a])]⟩∧C9.l7 K p0 k a=some o1) ?_ ⟨_,rfl,hp1⟩) ?_
 ·clear h hp1;intro k S hS;obtain ⟨a,rfl,h⟩:=hS;cases k with
  | zero=>cases h
  | succ k =>
  unfold C9.l7 at h;refine Pb <| Pb ?_;obtain ⟨a1,h1,h⟩:=bind_some h;obtain ⟨a2,h2,h⟩:=bind_some h;refine rg L 208 [] [(2,.cv (.lit (.int .i32 a1))),(3,.B a2)] [] (Pf (Cb.ok h1) (Pf trivial (Pf (D8.ok h2) (Pk trivial)))) ?_;rcases Pc h with ⟨c1,h⟩ |⟨c1,h⟩
  ·refine tt c1 <| Pg <| Pj <| Se L 213 [] [] [] (S':=⟨[(0,.P 0),(1,.cv (.fn (.func 125) [] [])),(5,.I p0.at_)],[(0,.raw [.str p0.src,.I (IntKind.i64.wrap (a+1))])]⟩) ?_;exact ⟨k,Nat.lt_succ_self k,_,rfl,h⟩
  refine fN c1 <| ex (S':=⟨[(0,.P 0),(5,.I p0.at_)],[(0,.raw [.str p0.src,.I a])]⟩) ?_;cases h;exact ⟨rfl,_,rfl,rfl⟩
 ·rintro e S ⟨rfl,b,rfl,rfl⟩;refine ⟨_,Pa.refl,?_⟩;refine Pb ?_;obtain ⟨g1,h⟩:=Ph h;refine rd L mixed 222 [] [] [] [] 11 (Pf g1.1 (Pf g1.2.1 (Pk g1.2.2))) ?_;refine Pd ?_;cases h;exact Pt
theorem C9.okE {K:Nat} {p0:Aw} {r:(List UInt8)×Aw} (h:C9 K p0=some r):Pm V P 70 [.P 0,.cv (.fn (.func 125) [] [])] [(0,.raw (A3 p0))] [0] (.cv (.str r.1)) [(0,.raw [.str r.2.src,.I r.2.at_])] :=
 eo (fn:=Tryz.f70) (n:=31) (m:=100) fun Γ=>C9.body h
def Dt.l7 (K:Nat) (p0:List (List UInt8)) (p1:List UInt8):Nat→Int→Option (Pq Int Unit)
 | 0,_=>none
 | k+1,a=>(if a <(p0.length:Int) then (if (0:Int)≤a∧(a:Int) <(p0.length:Int) then (if p1=(p0.getD (Int.toNat a) ([]:List UInt8)) then some (Pq.done a) else Dt.l7 K p0 p1 k (IntKind.i64.wrap (a+1))) else none) else some (Pq.go ()))
def Dt (K:Nat) (p0:List (List UInt8)) (p1:List UInt8):Option Int:=(obind (Dt.l7 K p0 p1 K 0:Option (Pq Int Unit)) (fun r=>r) (fun _=>some (-1)))
theorem Dt.body {Γ:P4} {K:Nat} {p0:List (List UInt8)} {p1:List UInt8} {r:Int} (h:Dt K p0 p1=some r):P1 V P 19 100 Γ (Tryz.f135.body.getD .skip) (Po P V Tryz.f135 (.I r) []) ⟨Pn 0 [.cv (.ro .C4 p0),.cv (.str p1)],[]⟩:=by
 unfold Dt at h;refine Pl L 200 <| Pb <| Pl L 202 <| Pj <| kp (S':=⟨[(0,.cv (.ro .C4 p0)),(1,.cv (.str p1)),(7,.I (p0.length:Int)),(8,.I 0)],[]⟩) ?_;obtain ⟨o1,hp1,h⟩:=Px h;refine Pu (Q':=fun e S=>(e=.exit 0∧S=⟨[],[]⟩∧Pq.go ()=o1)∨(e=.ret∧∃ a,Pq.done a=o1∧Po P V Tryz.f135 (.I a) [] .ret S)) (Pz (fun k S=>∃ b:Int,S=⟨[(0,.cv (.ro .C4 p0)),(1,.cv (.str p1)),(7,.I (p0.length:Int)),(8,.I b)],[]⟩∧Dt.l7 K p0 p1 k b=some o1) ?_ ⟨_,rfl,hp1⟩) ?_
 ·clear h hp1;intro k S hS;obtain ⟨b,rfl,h⟩:=hS;cases k with
  | zero=>cases h
  | succ k =>
  unfold Dt.l7 at h;refine Pl L 206 <| Pb ?_;rcases Pc h with ⟨c1,h⟩ |⟨c1,h⟩
  ·refine tT c1 <| Pg <| Pb <| Pj <| Pl L 208 <| Pb ?_;obtain ⟨g1,h⟩:=Ph h;refine rg L 211 [] [] [] (Q2 g1.1 g1.2) ?_;rcases Pc h with ⟨c2,h⟩ |⟨c2,h⟩
   ·refine tT c2 <| Pl L 218 <| Pd ?_;cases h;exact .inr ⟨rfl,_,rfl,Pt⟩
   refine fF c2 <| Pg <| Se L 221 [] [] [] (S':=⟨[(0,.cv (.ro .C4 p0)),(1,.cv (.str p1)),(7,.I (p0.length:Int)),(8,.I (IntKind.i64.wrap (b+1)))],[]⟩) ?_;exact ⟨k,Nat.lt_succ_self k,_,rfl,h⟩
  refine fF c1 <| ex (S':=⟨[],[]⟩) ?_;cases h;exact .inl ⟨rfl,rfl,rfl⟩
 ·rintro e S (⟨rfl,rfl,rfl⟩ |⟨rfl,a,rfl,hr⟩)
  ·rcases h with ⟨_,e1,h⟩ |⟨_,e1,h⟩
   ·cases e1
   ·have e2:=Pq.go.inj e1;subst e2;refine ⟨_,Pa.refl,?_⟩;refine Pl L 224 <| Pd ?_;cases h;exact Pt
  ·rcases h with ⟨_,e1,h⟩ |⟨_,e1,h⟩
   ·have e2:=Pq.done.inj e1;subst e2;subst h;exact ⟨_,Pa.refl,hr⟩
   ·cases e1
theorem Dt.ok {K:Nat} {p0:List (List UInt8)} {p1:List UInt8} {r:Int} (h:Dt K p0 p1=some r):Pr V P 135 [.cv (.ro .C4 p0),.cv (.str p1)] (.I r):=Pm.pcall (eo (fn:=Tryz.f135) (n:=19) (m:=100) fun Γ=>Dt.body h) (by kernel_rfl)
def Ej (K:Nat) (p0:List (List UInt8)) (p1:List UInt8):Option Bool:=(Option.bind (Dt K p0 p1) (fun a1=>some (decide (a1≥0))))
theorem Ej.body {Γ:P4} {K:Nat} {p0:List (List UInt8)} {p1:List UInt8} {r:Bool} (h:Ej K p0 p1=some r):P1 V P 9 100 Γ (Tryz.f119.body.getD .skip) (Po P V Tryz.f119 (.B r) []) ⟨Pn 0 [.cv (.ro .C4 p0),.cv (.str p1)],[]⟩:=by
 unfold Ej at h;refine Pl L 200 <| Pb ?_;obtain ⟨a1,h1,h⟩:=bind_some h;refine rg L 202 [] [(2,.I a1)] [] (Qu (Dt.ok h1)) ?_;refine Pd ?_;cases h;exact Pt
theorem Ej.ok {K:Nat} {p0:List (List UInt8)} {p1:List UInt8} {r:Bool} (h:Ej K p0 p1=some r):Pr V P 119 [.cv (.ro .C4 p0),.cv (.str p1)] (.B r):=Pm.pcall (eo (fn:=Tryz.f119) (n:=9) (m:=100) fun Γ=>Ej.body h) (by kernel_rfl)
def Eo (K:Nat) (p0:List UInt8):Option Bool:=(if ([97,110,100,32,97,119,97,105,116,32,99,97,115,101,32,99,97,116,99,104,32,99,104,101,99,107,32,101,108,115,101,32,102,97,108,115,101,32,102,117,110,99,32,103,111,32,105,102,32,108,101,116,32,110,111,116,32,110,117,108,108,32,111,110,32,111,114,32,113,117,101,114,121,32,114,101,116,117,114,110,32,115,97,103,97,32,115,101,108,101,99,116,32,115,105,103,110,97,108,32,116,104,114,111,119,32,116,114,117,101,32,116,114,121,32,117,110,100,111,32,117,112,100,97,116,101,32,118,97,114,32,119,104,105,108,101]:List UInt8).length < 4294967281∧(([97,110,100,32,97,119,97,105,116,32,99,97,115,101,32,99,97,116,99,104,32,99,104,101,99,107,32,101,108,115,101,32,102,97,108,115,101,32,102,117,110,99,32,103,111,32,105,102,32,108,101,116,32,110,111,116,32,110,117,108,108,32,111,110,32,111,114,32,113,117,101,114,121,32,114,101,116,117,114,110,32,115,97,103,97,32,115,101,108,101,99,116,32,115,105,103,110,97,108,32,116,104,114,111,119,32,116,114,117,101,32,116,114,121,32,117,110,100,111,32,117,112,100,97,116,101,32,118,97,114,32,119,104,105,108,101]:List UInt8).all fun b=>decide (b.toNat < 128))=true then (Option.bind (Ej K (Lib.fields ([97,110,100,32,97,119,97,105,116,32,99,97,115,101,32,99,97,116,99,104,32,99,104,101,99,107,32,101,108,115,101,32,102,97,108,115,101,32,102,117,110,99,32,103,111,32,105,102,32,108,101,116,32,110,111,116,32,110,117,108,108,32,111,110,32,111,114,32,113,117,101,114,121,32,114,101,116,117,114,110,32,115,97,103,97,32,115,101,108,101,99,116,32,115,105,103,110,97,108,32,116,104,114,111,119,32,116,114,117,101,32,116,114,121,32,117,110,100,111,32,117,112,100,97,116,101,32,118,97,114,32,119,104,105,108,101]:List UInt8)) p0) (fun a1=>some a1)) else none)
theorem Eo.body {Γ:P4} {K:Nat} {p0:List UInt8} {r:Bool} (h:Eo K p0=some r):P1 V P 8 100 Γ (Tryz.f91.body.getD .skip) (Po P V Tryz.f91 (.B r) []) ⟨Pn 0 [.cv (.str p0)],[]⟩:=by
 unfold Eo at h;refine Pl L 200 <| Pb ?_;obtain ⟨g1,h⟩:=Ph h;refine rg L 202 [] [(0,.cv (.ron .C4 (Lib.fields ([97,110,100,32,97,119,97,105,116,32,99,97,115,101,32,99,97,116,99,104,32,99,104,101,99,107,32,101,108,115,101,32,102,97,108,115,101,32,102,117,110,99,32,103,111,32,105,102,32,108,101,116,32,110,111,116,32,110,117,108,108,32,111,110,32,111,114,32,113,117,101,114,121,32,114,101,116,117,114,110,32,115,97,103,97,32,115,101,108,101,99,116,32,115,105,103,110,97,108,32,116,104,114,111,119,32,116,114,117,101,32,116,114,121,32,117,110,100,111,32,117,112,100,97,116,101,32,118,97,114,32,119,104,105,108,101]:List UInt8))))] [] (Pk (show Si V P 118 [.cv (.str ([97,110,100,32,97,119,97,105,116,32,99,97,115,101,32,99,97,116,99,104,32,99,104,101,99,107,32,101,108,115,101,32,102,97,108,115,101,32,102,117,110,99,32,103,111,32,105,102,32,108,101,116,32,110,111,116,32,110,117,108,108,32,111,110,32,111,114,32,113,117,101,114,121,32,114,101,116,117,114,110,32,115,97,103,97,32,115,101,108,101,99,116,32,115,105,103,110,97,108,32,116,104,114,111,119,32,116,114,117,101,32,116,114,121,32,117,110,100,111,32,117,112,100,97,116,101,32,118,97,114,32,119,104,105,108,101]:List UInt8))] Tag.C4 (Lib.fields ([97,110,100,32,97,119,97,105,116,32,99,97,115,101,32,99,97,116,99,104,32,99,104,101,99,107,32,101,108,115,101,32,102,97,108,115,101,32,102,117,110,99,32,103,111,32,105,102,32,108,101,116,32,110,111,116,32,110,117,108,108,32,111,110,32,111,114,32,113,117,101,114,121,32,114,101,116,117,114,110,32,115,97,103,97,32,115,101,108,101,99,116,32,115,105,103,110,97,108,32,116,104,114,111,119,32,116,114,117,101,32,116,114,121,32,117,110,100,111,32,117,112,100,97,116,101,32,118,97,114,32,119,104,105,108,101]:List UInt8)) from Iy.okF ([97,110,100,32,97,119,97,105,116,32,99,97,115,101,32,99,97,116,99,104,32,99,104,101,99,107,32,101,108,115,101,32,102,97,108,115,101,32,102,117,110,99,32,103,111,32,105,102,32,108,101,116,32,110,111,116,32,110,117,108,108,32,111,110,32,111,114,32,113,117,101,114,121,32,114,101,116,117,114,110,32,115,97,103,97,32,115,101,108,101,99,116,32,115,105,103,110,97,108,32,116,104,114,111,119,32,116,114,117,101,32,116,114,121,32,117,110,100,111,32,117,112,100,97,116,101,32,118,97,114,32,119,104,105,108,101]:List UInt8) g1.1 g1.2)) ?_;refine Pb ?_;obtain ⟨a1,h1,h⟩:=bind_some h;refine rg L 205 [] [(2,.B a1)] [] (Qu (Ej.ok h1)) ?_;refine Pd ?_;cases h;exact Pt
theorem Eo.ok {K:Nat} {p0:List UInt8} {r:Bool} (h:Eo K p0=some r):Pr V P 91 [.cv (.str p0)] (.B r):=Pm.pcall (eo (fn:=Tryz.f91) (n:=8) (m:=100) fun Γ=>Eo.body h) (by kernel_rfl)
def D7 (K:Nat) (p0:Aw):Option (Ap×Int×Aw):=(Option.bind (C9 K p0) (fun (a,b)=>(if (a.length:Int) > 64 then some ((⟨0,0,[],0⟩:Ap),8,b) else (Option.bind (Eo K a) (fun a2=>(if a2=true then some ((⟨2,0,a,0⟩:Ap),0,b) else some ((⟨1,0,a,0⟩:Ap),0,b)))))))
theorem D7.body {Γ:P4} {K:Nat} {p0:Aw} {r:Ap×Int×Aw} (h:D7 K p0=some r):P1 V P 17 100 Γ (Tryz.f99.body.getD .skip) (Po P V Tryz.f99 (.tup [.agg [.I r.1.Kind,.I r.1.At,.str r.1.Text,.I r.1.Int],.I r.2.1]) [(0,.raw [.str r.2.2.src,.I r.2.2.at_])]) ⟨Pn 0 [.P 0],[(0,.raw (A3 p0))]⟩:=by
 unfold D7 at h;refine Pl L 200 <| Pb ?_;obtain ⟨⟨a,b⟩,h1,h⟩:=bind_some h;dsimp only at h;refine rg L 203 [] [] [(1,(Pv (.cv (.str a)) [(0,.raw (A3 b))]))] (Pk (C9.okE h1)) ?_;refine Pb <| Pl L 207 ?_;rcases Pc h with ⟨c1,h⟩ |⟨c1,h⟩
 ·refine tT c1 <| Pl L 211 <| Pe (Pa.trans (Pa.kk [2,3] [0,200]) (Pa.rr [(0,0),(200,100)])) ?_;refine Pd ?_;cases h;exact Pt
 refine fF c1 <| Pg <| Pb <| Pb ?_;obtain ⟨a2,h2,h⟩:=bind_some h;refine rg L 215 [] [(1,.B a2)] [] (Qu (Eo.ok h2)) ?_;rcases Pc h with ⟨c2,h⟩ |⟨c2,h⟩
 ·refine tt c2 <| Pl L 218 <| Pe (Pa.trans (Pa.kk [2,3] [0,200]) (Pa.rr [(0,0),(200,100)])) ?_;refine Pd ?_;cases h;exact Pt
 refine fN c2 <| Pg <| Pl L 223 <| Pe (Pa.trans (Pa.kk [2,3] [0,200]) (Pa.rr [(0,0),(200,100)])) ?_;refine Pd ?_;cases h;exact Pt
theorem D7.okE {K:Nat} {p0:Aw} {r:Ap×Int×Aw} (h:D7 K p0=some r):Pm V P 99 [.P 0] [(0,.raw (A3 p0))] [0] (.tup [.agg [.I r.1.Kind,.I r.1.At,.str r.1.Text,.I r.1.Int],.I r.2.1]) [(0,.raw [.str r.2.2.src,.I r.2.2.at_])] :=
 eo (fn:=Tryz.f99) (n:=17) (m:=100) fun Γ=>D7.body h
def Da.l7 (K:Nat) (p0:Aw):Nat→Int→Option Int
 | 0,_=>none
 | k+1,a=>(Option.bind (Cb K (⟨p0.src,a⟩:Aw) 0) (fun a1=>(Option.bind (Ez K a1) (fun a2=>(if a2=true then Da.l7 K p0 k (IntKind.i64.wrap (a+1)) else some a)))))
def Da (K:Nat) (p0:Aw):Option ((List UInt8)×Aw):=(Option.bind (Da.l7 K p0 K p0.at_:Option Int) (fun a=>(if (0:Int)≤p0.at_∧p0.at_≤a∧a≤(p0.src.length:Int) then some ((Ur p0.src p0.at_ a),(⟨p0.src,a⟩:Aw)) else none)))
theorem Da.body {Γ:P4} {K:Nat} {p0:Aw} {r:(List UInt8)×Aw} (h:Da K p0=some r):P1 V P 31 100 Γ (Tryz.f70.body.getD .skip) (Po P V Tryz.f70 (.cv (.str r.1)) [(0,.raw [.str r.2.src,.I r.2.at_])]) ⟨Pn 0 [.P 0,.cv (.fn (.func 100) [] [])],[(0,.raw (A3 p0))]⟩:=by
 unfold Da at h;refine Pl L 200 <| Pl L 202 <| Pb <| Pj <| kp (S':=⟨[(0,.P 0),(1,.cv (.fn (.func 100) [] [])),(5,.I p0.at_)],[(0,.raw (A3 p0))]⟩) ?_;obtain ⟨o1,hp1,h⟩:=bind_some h;refine Pu (Q':=fun e S=>(e=.exit 0∧∃ b:Int,S=⟨[(0,.P 0),(5,.I p0.at_)],[(0,.raw [.str p0.src,.I b])]⟩∧b=o1)) (Pz (fun k S=>∃ a:Int,S=⟨[(0,.P 0),(1,.cv (.fn (.func 100) [] [])),(5,.I p0.at_)],[(0,.raw [.str p0.src,.I a])]⟩∧Da.l7 K p0 k a=some o1) ?_ ⟨_,rfl,hp1⟩) ?_
 ·clear h hp1;intro k S hS;obtain ⟨a,rfl,h⟩:=hS;cases k with
  | zero=>cases h
  | succ k =>
  unfold Da.l7 at h;refine Pb <| Pb ?_;obtain ⟨a1,h1,h⟩:=bind_some h;obtain ⟨a2,h2,h⟩:=bind_some h;refine rg L 208 [] [(2,.cv (.lit (.int .i32 a1))),(3,.B a2)] [] (Pf (Cb.ok h1) (Pf trivial (Pf (Ez.ok h2) (Pk trivial)))) ?_;rcases Pc h with ⟨c1,h⟩ |⟨c1,h⟩
  ·refine tt c1 <| Pg <| Pj <| Se L 213 [] [] [] (S':=⟨[(0,.P 0),(1,.cv (.fn (.func 100) [] [])),(5,.I p0.at_)],[(0,.raw [.str p0.src,.I (IntKind.i64.wrap (a+1))])]⟩) ?_;exact ⟨k,Nat.lt_succ_self k,_,rfl,h⟩
  refine fN c1 <| ex (S':=⟨[(0,.P 0),(5,.I p0.at_)],[(0,.raw [.str p0.src,.I a])]⟩) ?_;cases h;exact ⟨rfl,_,rfl,rfl⟩
 ·rintro e S ⟨rfl,b,rfl,rfl⟩;refine ⟨_,Pa.refl,?_⟩;refine Pb ?_;obtain ⟨g1,h⟩:=Ph h;refine rd L mixed 222 [] [] [] [] 11 (Pf g1.1 (Pf g1.2.1 (Pk g1.2.2))) ?_;refine Pd ?_;cases h;exact Pt
theorem Da.okE {K:Nat} {p0:Aw} {r:(List UInt8)×Aw} (h:Da K p0=some r):Pm V P 70 [.P 0,.cv (.fn (.func 100) [] [])] [(0,.raw (A3 p0))] [0] (.cv (.str r.1)) [(0,.raw [.str r.2.src,.I r.2.at_])] :=
 eo (fn:=Tryz.f70) (n:=31) (m:=100) fun Γ=>Da.body h
def D4 (K:Nat) (p0:Aw):Option (Ap×Int×Aw):=(Option.bind (Da K p0) (fun (b,a)=>(obind (((if (b.length:Int) > 1 then (if (0:Int) <(b.length:Int) then (if ((b.getD (Int.toNat 0) 0).toNat:Int)=48 then some (Pq.done ((⟨0,0,[],0⟩:Ap),3,a)) else (Option.bind (Cb K a 0) (fun a2=>(Option.bind (El K a2) (fun a3=>(if a3=true then some (Pq.done ((⟨0,0,[],0⟩:Ap),3,a)) else some (Pq.go ()))))))) else none) else (Option.bind (Cb K a 0) (fun a4=>(Option.bind (El K a4) (fun a5=>(if a5=true then some (Pq.done ((⟨0,0,[],0⟩:Ap),3,a)) else some (Pq.go ())))))))):Option (Pq (Ap×Int×Aw) Unit)) (fun r=>r) (fun _=>(if b.length≤281474976710656 then (if (H5 b)=true then some ((⟨3,0,[],(Hg b)⟩:Ap),0,a) else some ((⟨0,0,[],0⟩:Ap),14,a)) else none)))))
theorem D4.body {Γ:P4} {K:Nat} {p0:Aw} {r:Ap×Int×Aw} (h:D4 K p0=some r):P1 V P 33 100 Γ (Tryz.f101.body.getD .skip) (Po P V Tryz.f101 (.tup [.agg [.I r.1.Kind,.I r.1.At,.str r.1.Text,.I r.1.Int],.I r.2.1]) [(0,.raw [.str r.2.2.src,.I r.2.2.at_])]) ⟨Pn 0 [.P 0],[(0,.raw (A3 p0))]⟩:=by
 unfold D4 at h;refine Pl L 200 <| Pb ?_;obtain ⟨⟨c,d⟩,h1,h⟩:=bind_some h;dsimp only at h;refine rg L 203 [] [] [(1,(Pv (.cv (.str c)) [(0,.raw (A3 d))]))] (Pk (Da.okE h1)) ?_;obtain ⟨o1,hp1,h⟩:=Px h;refine Pb (P3 (Q':=fun e S=>(e=.normal∧S=⟨[(2,.P 21000),(4,.cv (.str c))],[(0,.raw (A3 d)),(21000,.raw [.I 0,.I 0,.str [],.I 0])]⟩∧Pq.go ()=o1)∨(e=.ret∧∃ a,Pq.done a=o1∧Po P V Tryz.f101 (.tup [.agg [.I a.1.Kind,.I a.1.At,.str a.1.Text,.I a.1.Int],.I a.2.1]) [(0,.raw [.str a.2.2.src,.I a.2.2.at_])] .ret S)) ?_ ?_)
 ·clear h;replace h:=hp1;refine Pb ?_;rcases Pc h with ⟨c1,h⟩ |⟨c1,h⟩
  ·obtain ⟨g1,h⟩:=Ph h;rcases Pc h with ⟨c2,h⟩ |⟨c2,h⟩
   ·refine rg L 207 [(3,true),(8,true)] [] [] (Pf (decide_eq_true c1) (Pf (show (0:Int)≤0 from by decide) (Pf g1 (Pk (decide_eq_true c2))))) ?_;refine tt (b:=true) (rfl) ?_;refine Pl L 221 <| Pe (Pa.trans (Pa.kk [2,3] [0,200]) (Pa.rr [(0,0),(200,100)])) ?_;refine Pd ?_;cases h;exact .inr ⟨rfl,_,rfl,Pt⟩
   obtain ⟨a2,h2,h⟩:=bind_some h;obtain ⟨a3,h3,h⟩:=bind_some h;refine rg L 207 [(3,true),(8,false)] [(10,.cv (.lit (.int .i32 a2))),(11,.B a3)] [] (Pf (decide_eq_true c1) (Pf (show (0:Int)≤0 from by decide) (Pf g1 (Pf (decide_eq_false c2) (Pf (Cb.ok h2) (Pf trivial (Pf (El.ok h3) (Pk trivial)))))))) ?_;rcases Pc h with ⟨c3,h⟩ |⟨c3,h⟩
   ·refine tt c3 <| Pl L 221 <| Pe (Pa.trans (Pa.kk [2,3] [0,200]) (Pa.rr [(0,0),(200,100)])) ?_;refine Pd ?_;cases h;exact .inr ⟨rfl,_,rfl,Pt⟩
   refine fN c3 <| Pe (Pa.trans (Pa.kk [2,4] [0,200]) (Pa.rr [(0,0),(200,21000)])) ?_;refine sk (S':=⟨[(2,.P 21000),(4,.cv (.str c))],[(0,.raw (A3 d)),(21000,.raw [.I 0,.I 0,.str [],.I 0])]⟩) ?_;cases h;exact .inl ⟨rfl,rfl,rfl⟩
  obtain ⟨a4,h4,h⟩:=bind_some h;obtain ⟨a5,h5,h⟩:=bind_some h;refine rg L 207 [(3,false)] [(10,.cv (.lit (.int .i32 a4))),(11,.B a5)] [] (Pf (decide_eq_false c1) (Pf (Cb.ok h4) (Pf trivial (Pf (El.ok h5) (Pk trivial))))) ?_;rcases Pc h with ⟨c4,h⟩ |⟨c4,h⟩
  ·refine tt c4 <| Pl L 221 <| Pe (Pa.trans (Pa.kk [2,3] [0,200]) (Pa.rr [(0,0),(200,100)])) ?_;refine Pd ?_;cases h;exact .inr ⟨rfl,_,rfl,Pt⟩
  refine fN c4 <| Pe (Pa.trans (Pa.kk [2,4] [0,200]) (Pa.rr [(0,0),(200,21000)])) ?_;refine sk (S':=⟨[(2,.P 21000),(4,.cv (.str c))],[(0,.raw (A3 d)),(21000,.raw [.I 0,.I 0,.str [],.I 0])]⟩) ?_;cases h;exact .inl ⟨rfl,rfl,rfl⟩
 ·rintro e S (⟨rfl,rfl,rfl⟩ |⟨rfl,a,rfl,hr⟩)
  ·rcases h with ⟨_,e1,h⟩ |⟨_,e1,h⟩
   ·cases e1
   ·have e2:=Pq.go.inj e1;subst e2;refine Pb ?_;obtain ⟨g2,h⟩:=Ph h;rcases Pc h with ⟨c5,h⟩ |⟨c5,h⟩
    ·refine rg L 225 [] [(1,.tup [.I (Hg c),.cv (.lit .nilIface)])] [] (Qu (show Pr V P 126 [.cv (.str c),.I 10,.I 64] (.tup [.I (Hg c),.cv (.lit .nilIface)]) from F7.ok c g2 (c5))) ?_;refine Pb <| Pl L 233 <| ff (b:=false) (rfl) ?_;refine Pg <| Pl L 240 <| Pe (Pa.trans (Pa.kk [2,3] [0,21000]) (Pa.rr [(0,0),(21000,100)])) ?_;refine Pd ?_;cases h;exact Pt
    refine rg L 225 [] [(1,.tup [.cv (.any),.cv (.ifc 122 false [.any])])] [] (Qu (show Pr V P 126 [.cv (.str c),.I 10,.I 64] (.tup [.cv (.any),.cv (.ifc 122 false [.any])]) from F7.no c g2 (eq_false_of_ne_true c5))) ?_;refine Pb <| Pl L 233 <| tt (b:=true) (rfl) ?_;refine Pl L 236 <| Pe (Pa.trans (Pa.kk [2,3] [0,21000]) (Pa.rr [(0,0),(21000,100)])) ?_;refine Pd ?_;cases h;exact Pt
  ·rcases h with ⟨_,e1,h⟩ |⟨_,e1,h⟩
   ·have e2:=Pq.done.inj e1;subst e2;subst h;exact hr
   ·cases e1
theorem D4.okE {K:Nat} {p0:Aw} {r:Ap×Int×Aw} (h:D4 K p0=some r):Pm V P 101 [.P 0] [(0,.raw (A3 p0))] [0] (.tup [.agg [.I r.1.Kind,.I r.1.At,.str r.1.Text,.I r.1.Int],.I r.2.1]) [(0,.raw [.str r.2.2.src,.I r.2.2.at_])] :=
 eo (fn:=Tryz.f101) (n:=33) (m:=100) fun Γ=>D4.body h
def D2 (K:Nat) (p0:Aw):Option (Int×Int×Aw):=(Option.bind (Cb K p0 0) (fun a1=>(if a1 < 0 then some (0,4,p0) else (if (Lib.indexByte ([48,49,50,51,52,53,54,55,56,57,97,98,99,100,101,102]:List UInt8) (Int.toNat (IntKind.u8.wrap a1)).toUInt8) < 0 then some (0,3,(⟨p0.src,(IntKind.i64.wrap (p0.at_+1))⟩:Aw)) else some ((Lib.indexByte ([48,49,50,51,52,53,54,55,56,57,97,98,99,100,101,102]:List UInt8) (Int.toNat (IntKind.u8.wrap a1)).toUInt8),0,(⟨p0.src,(IntKind.i64.wrap (p0.at_+1))⟩:Aw))))))
theorem D2.body {Γ:P4} {K:Nat} {p0:Aw} {r:Int×Int×Aw} (h:D2 K p0=some r):P1 V P 23 100 Γ (Tryz.f140.body.getD .skip) (Po P V Tryz.f140 (.tup [.I r.1,.I r.2.1]) [(0,.raw [.str r.2.2.src,.I r.2.2.at_])]) ⟨Pn 0 [.P 0],[(0,.raw (A3 p0))]⟩:=by
 unfold D2 at h;refine Pl L 200 <| Pb ?_;obtain ⟨a1,h1,h⟩:=bind_some h;refine rg L 203 [] [(1,.cv (.lit (.int .i32 a1)))] [] (Qu (Cb.ok h1)) ?_;refine Pb <| Pl L 207 ?_;rcases Pc h with ⟨c1,h⟩ |⟨c1,h⟩
 ·refine tT c1 <| Pl L 210 <| Pd ?_;cases h;exact Pt
 refine fF c1 <| Pg <| Pl L 213 <| sg L 222 [] [(2,.I (Lib.indexByte ([48,49,50,51,52,53,54,55,56,57,97,98,99,100,101,102]:List UInt8) (Int.toNat (IntKind.u8.wrap a1)).toUInt8))] [] (Qu (show Pr V P 152 [.cv (.str ([48,49,50,51,52,53,54,55,56,57,97,98,99,100,101,102]:List UInt8)),.cv (.lit (.int .u8 (IntKind.u8.wrap a1)))] (.I (Lib.indexByte ([48,49,50,51,52,53,54,55,56,57,97,98,99,100,101,102]:List UInt8) (Int.toNat (IntKind.u8.wrap a1)).toUInt8)) from strings_IndexByte.ok ([48,49,50,51,52,53,54,55,56,57,97,98,99,100,101,102]:List UInt8) (IntKind.u8.wrap a1))) ?_;refine Pb <| Pl L 227 ?_;rcases Pc h with ⟨c2,h⟩ |⟨c2,h⟩
 ·refine tT c2 <| Pl L 230 <| Pd ?_;cases h;exact Pt
 refine fF c2 <| Pg <| Pl L 233 <| Pd ?_;cases h;exact Pt
theorem D2.okE {K:Nat} {p0:Aw} {r:Int×Int×Aw} (h:D2 K p0=some r):Pm V P 140 [.P 0] [(0,.raw (A3 p0))] [0] (.tup [.I r.1,.I r.2.1]) [(0,.raw [.str r.2.2.src,.I r.2.2.at_])] :=
 eo (fn:=Tryz.f140) (n:=23) (m:=100) fun Γ=>D2.body h
def D6 (K:Nat) (p0:Aw):Option (Int×Int×Aw):=(Option.bind (Cb K p0 0) (fun a1=>(if a1=(-1) then some (0,4,(⟨p0.src,(IntKind.i64.wrap (p0.at_+1))⟩:Aw)) else (Option.bind ((if a1=34 then some (decide (a1=34)) else some (decide (a1=92))):Option Bool) (fun a=>(if a=true then some ((IntKind.u8.wrap a1),0,(⟨p0.src,(IntKind.i64.wrap (p0.at_+1))⟩:Aw)) else (if a1=110 then some (10,0,(⟨p0.src,(IntKind.i64.wrap (p0.at_+1))⟩:Aw)) else (if a1=116 then some (9,0,(⟨p0.src,(IntKind.i64.wrap (p0.at_+1))⟩:Aw)) else (if a1=120 then (Option.bind (D2 K (⟨p0.src,(IntKind.i64.wrap (p0.at_+1))⟩:Aw)) (fun (d,b,c)=>(if b≠0 then some (0,b,c) else (Option.bind (D2 K c) (fun (e,f,g)=>some (((IntKind.u8.wrap (IntKind.i64.wrap ((IntKind.i64.wrap (16 * d))+e))),f,g))))))) else some (0,3,(⟨p0.src,(IntKind.i64.wrap (p0.at_+1))⟩:Aw)))))))))))
theorem D6.body {Γ:P4} {K:Nat} {p0:Aw} {r:Int×Int×Aw} (h:D6 K p0=some r):P1 V P 50 100 Γ (Tryz.f127.body.getD .skip) (Po P V Tryz.f127 (.tup [.cv (.lit (.int .u8 r.1)),.I r.2.1]) [(0,.raw [.str r.2.2.src,.I r.2.2.at_])]) ⟨Pn 0 [.P 0],[(0,.raw (A3 p0))]⟩:=by
 unfold D6 at h;refine Pl L 200 <| Pb ?_;obtain ⟨a1,h1,h⟩:=bind_some h;refine rg L 203 [] [(1,.cv (.lit (.int .i32 a1)))] [] (Qu (Cb.ok h1)) ?_;refine Pl L 207 <| Pb <| Pl L 216 <| Pj <| Pl L 218 ?_;rcases Pc h with ⟨c1,h⟩ |⟨c1,h⟩
 ·refine tT c1 <| Pl L 221 <| Pd ?_;cases h;exact Pt
 refine fF c1 ?_;obtain ⟨o1,hp1,h⟩:=bind_some h;refine Pb (P3 (Q':=fun e S=>(e=.normal∧∃ a:Bool,S=⟨[(0,.P 0),(4,.cv (.lit (.int .i32 a1))),(17,.cv (.lit (.int .i32 a1))),(20,.B a)],[(0,.raw [.str p0.src,.I (IntKind.i64.wrap (p0.at_+1))])]⟩∧a=o1)) ?_ ?_)
 ·clear h;replace h:=hp1;refine Pl L 224 ?_;rcases Pc h with ⟨c2,h⟩ |⟨c2,h⟩
  ·refine tT c2 <| sk (S':=⟨[(0,.P 0),(4,.cv (.lit (.int .i32 a1))),(17,.cv (.lit (.int .i32 a1))),(20,.B (decide (a1=34)))],[(0,.raw [.str p0.src,.I (IntKind.i64.wrap (p0.at_+1))])]⟩) ?_;cases h;exact ⟨rfl,_,rfl,rfl⟩
  refine fF c2 <| Se L 227 [] [] [] (S':=⟨[(0,.P 0),(4,.cv (.lit (.int .i32 a1))),(17,.cv (.lit (.int .i32 a1))),(20,.B (decide (a1=92)))],[(0,.raw [.str p0.src,.I (IntKind.i64.wrap (p0.at_+1))])]⟩) ?_;cases h;exact ⟨rfl,_,rfl,rfl⟩
 ·rintro e S ⟨rfl,a,rfl,rfl⟩;rcases Pc h with ⟨c3,h⟩ |⟨c3,h⟩
  ·refine tt c3 <| Pl L 230 <| Pd ?_;cases h;exact Pt
  refine fN c3 <| Pl L 235 ?_;rcases Pc h with ⟨c4,h⟩ |⟨c4,h⟩
  ·refine tT c4 <| Pl L 238 <| Pd ?_;cases h;exact Pt
  refine fF c4 <| Pl L 241 ?_;rcases Pc h with ⟨c5,h⟩ |⟨c5,h⟩
  ·refine tT c5 <| Pl L 244 <| Pd ?_;cases h;exact Pt
  refine fF c5 <| Pl L 247 ?_;rcases Pc h with ⟨c6,h⟩ |⟨c6,h⟩
  ·refine tT c6 <| Pb ?_;obtain ⟨⟨b,c,d⟩,h2,h⟩:=bind_some h;dsimp only at h;refine rg L 250 [] [] [(1,(Pv (.tup [.I b,.I c]) [(0,.raw (A3 d))]))] (Pk (D2.okE h2)) ?_;refine Pb <| Pl L 258 ?_;rcases Pc h with ⟨c7,h⟩ |⟨c7,h⟩
   ·refine tT c7 <| Pl L 261 <| Pd ?_;cases h;exact Pt
   refine fF c7 <| Pg <| Pb ?_;obtain ⟨⟨f,g,i⟩,h3,h⟩:=bind_some h;dsimp only at h;refine rg L 265 [] [] [(1,(Pv (.tup [.I f,.I g]) [(0,.raw (A3 i))]))] (Pk (D2.okE h3)) ?_;refine Pl L 273 <| Pd ?_;cases h;exact Pt
  refine fF c6 <| Pg <| Pl L 282 <| Pd ?_;cases h;exact Pt
theorem D6.okE {K:Nat} {p0:Aw} {r:Int×Int×Aw} (h:D6 K p0=some r):Pm V P 127 [.P 0] [(0,.raw (A3 p0))] [0] (.tup [.cv (.lit (.int .u8 r.1)),.I r.2.1]) [(0,.raw [.str r.2.2.src,.I r.2.2.at_])] :=
 eo (fn:=Tryz.f127) (n:=50) (m:=100) fun Γ=>D6.body h
def C6.l8 (K:Nat):Nat→(List UInt8)→Int→(List UInt8)→Option (Pq (Ap×Int×Aw) Unit)
 | 0,_,_,_=>none
 | k+1,a,c,d=>(Option.bind (Cb K (⟨a,c⟩:Aw) 0) (fun a1=>(if a1 < 0 then some (Pq.done ((⟨0,0,[],0⟩:Ap),4,(⟨a,(IntKind.i64.wrap (c+1))⟩:Aw))) else (if a1=34 then (if (d.length:Int) > 4096 then some (Pq.done ((⟨0,0,[],0⟩:Ap),6,(⟨a,(IntKind.i64.wrap (c+1))⟩:Aw))) else some (Pq.done ((⟨4,0,(d.map (fun b=>b)),0⟩:Ap),0,(⟨a,(IntKind.i64.wrap (c+1))⟩:Aw)))) else (if a1=92 then (Option.bind (D6 K (⟨a,(IntKind.i64.wrap (c+1))⟩:Aw)) (fun (e,h,f)=>(if h≠0 then some (Pq.done ((⟨0,0,[],0⟩:Ap),h,f)) else (if 0≤e∧e < 256 then (if (d.length+([(UInt8.ofNat (Int.toNat e))]:List UInt8).length) * 1≤140737488355328 then C6.l8 K k f.src f.at_ (d++([(UInt8.ofNat (Int.toNat e))]:List UInt8)) else none) else none)))) else (Option.bind ((if a1≥32 then some (decide (a1≤126)) else some false):Option Bool) (fun g=>(if g=true then (if 0≤(IntKind.u8.wrap a1)∧(IntKind.u8.wrap a1) < 256 then (if (d.length+([(UInt8.ofNat (Int.toNat (IntKind.u8.wrap a1)))]:List UInt8).length) * 1≤140737488355328 then C6.l8 K k a (IntKind.i64.wrap (c+1)) (d++([(UInt8.ofNat (Int.toNat (IntKind.u8.wrap a1)))]:List UInt8)) else none) else none) else some (Pq.done ((⟨0,0,[],0⟩:Ap),3,(⟨a,(IntKind.i64.wrap (c+1))⟩:Aw)))))))))))
def C6 (K:Nat) (p0:Aw):Option (Ap×Int×Aw):=(obind (C6.l8 K K p0.src (IntKind.i64.wrap (p0.at_+1)) ([]:List UInt8):Option (Pq (Ap×Int×Aw) Unit)) (fun r=>r) (fun _=>none))
theorem C6.body {Γ:P4} {K:Nat} {p0:Aw} {r:Ap×Int×Aw} (h:C6 K p0=some r):P1 V P 67 100 Γ (Tryz.f102.body.getD .skip) (Po P V Tryz.f102 (.tup [.agg [.I r.1.Kind,.I r.1.At,.str r.1.Text,.I r.1.Int],.I r.2.1]) [(0,.raw [.str r.2.2.src,.I r.2.2.at_])]) ⟨Pn 0 [.P 0],[(0,.raw (A3 p0))]⟩:=by
 unfold C6 at h;refine Pl L 200 <| Pl L 203 <| Pl L 212 <| Pj <| Pe (Pa.trans (Pa.kk [0,2,4] [0,200]) (Pa.trans (Pa.no 4 9500 Tag.Dk) (Pa.trans (Pa.kk [0,2,4] [0,200,9500]) (Pa.rr [(0,0),(200,21700),(9500,21701)])))) ?_;refine kp (S':=⟨[(0,.P 0),(2,.P 21700),(4,.cv (.own .Dk 21701))],[(0,.raw [.str p0.src,.I (IntKind.i64.wrap (p0.at_+1))]),(21700,.raw [.I 0,.I 0,.str [],.I 0]),(21701,.lst .Dk ([]:List UInt8))]⟩) ?_;obtain ⟨o2,hp2,h⟩:=Px h;refine Pu (Q':=fun e S=>False∨(e=.ret∧∃ a,Pq.done a=o2∧Po P V Tryz.f102 (.tup [.agg [.I a.1.Kind,.I a.1.At,.str a.1.Text,.I a.1.Int],.I a.2.1]) [(0,.raw [.str a.2.2.src,.I a.2.2.at_])] .ret S)) (Pz (fun k S=>∃ b:List UInt8,∃ c:Int,∃ d:List UInt8,S=⟨[(0,.P 0),(2,.P 21700),(4,.cv (.own .Dk 21701))],[(0,.raw [.str b,.I c]),(21700,.raw [.I 0,.I 0,.str [],.I 0]),(21701,.lst .Dk d)]⟩∧C6.l8 K k b c d=some o2) ?_ ⟨_,_,_,rfl,hp2⟩) ?_
 ·clear h hp2;intro k S hS;obtain ⟨b,c,d,rfl,h⟩:=hS;cases k with
  | zero=>cases h
  | succ k =>
  unfold C6.l8 at h;refine Pj <| Pb ?_;obtain ⟨a1,h1,h⟩:=bind_some h;refine rg L 214 [] [(1,.cv (.lit (.int .i32 a1)))] [] (Qu (Cb.ok h1)) ?_;refine Pl L 218 <| Pj <| Pl L 227 ?_;rcases Pc h with ⟨c1,h⟩ |⟨c1,h⟩
  ·refine tT c1 <| Pl L 231 <| Pe (Pa.trans (Pa.kk [2,3] [0,21700]) (Pa.rr [(0,0),(21700,100)])) ?_;refine Pd ?_;cases h;exact .inr ⟨rfl,_,rfl,Pt⟩
  refine fF c1 <| Pl L 235 ?_;rcases Pc h with ⟨c2,h⟩ |⟨c2,h⟩
  ·refine tT c2 <| Pb <| Pl L 239 ?_;rcases Pc h with ⟨c3,h⟩ |⟨c3,h⟩
   ·refine tT c3 <| Pl L 243 <| Pe (Pa.trans (Pa.kk [2,3] [0,21700]) (Pa.rr [(0,0),(21700,100)])) ?_;refine Pd ?_;cases h;exact .inr ⟨rfl,_,rfl,Pt⟩
   refine fF c3 <| Pg <| Pl L 247 <| Pe (Pa.trans (Pa.kk [2,3] [0,21700]) (Pa.rr [(0,0),(21700,100)])) ?_;refine Pd ?_;cases h;exact .inr ⟨rfl,_,rfl,Pt⟩
  refine fF c2 <| Pl L 253 ?_;rcases Pc h with ⟨c4,h⟩ |⟨c4,h⟩
  ·refine tT c4 <| Pb ?_;obtain ⟨⟨g,j,i⟩,h2,h⟩:=bind_some h;dsimp only at h;refine rg L 257 [] [] [(1,(Pv (.tup [.cv (.lit (.int .u8 g)),.I j]) [(0,.raw (A3 i))]))] (Pk (D6.okE h2)) ?_;refine Pb <| Pl L 265 ?_;rcases Pc h with ⟨c5,h⟩ |⟨c5,h⟩
   ·refine tT c5 <| Pl L 268 <| Pe (Pa.trans (Pa.kk [2,3] [0,21700]) (Pa.rr [(0,0),(21700,100)])) ?_;refine Pd ?_;cases h;exact .inr ⟨rfl,_,rfl,Pt⟩
   refine fF c5 <| Pg ?_;obtain ⟨g1,h⟩:=Ph h;obtain ⟨g2,h⟩:=Ph h;refine ar L 273 [] [] [] (cs:=[0≤g,g < 256,(d.length+([(UInt8.ofNat (Int.toNat g))]:List UInt8).length) * 1≤140737488355328,True]) (S':=⟨[(0,.P 0),(2,.P 21700),(4,.cv (.own .Dk 21701))],[(0,.raw (A3 i)),(21700,.raw [.I 0,.I 0,.str [],.I 0]),(21701,.lst .Dk (d++([(UInt8.ofNat (Int.toNat g))]:List UInt8)))]⟩) (And.intro g1.1 (And.intro g1.2 (And.intro g2 trivial))) ?_;exact ⟨k,Nat.lt_succ_self k,_,_,_,rfl,h⟩
  refine fF c4 ?_;obtain ⟨o1,hp1,h⟩:=bind_some h;refine Pb (P3 (Q':=fun e S=>(e=.normal∧∃ f:Bool,S=⟨[(0,.P 0),(2,.P 29800),(4,.cv (.own .Dk 29801)),(5,.cv (.lit (.int .i32 a1))),(55,.B f)],[(0,.raw [.str b,.I (IntKind.i64.wrap (c+1))]),(29800,.raw [.I 0,.I 0,.str [],.I 0]),(29801,.lst .Dk d)]⟩∧f=o1)) ?_ ?_)
  ·clear h;replace h:=hp1;rcases Pc h with ⟨c6,h⟩ |⟨c6,h⟩
   ·refine Pp (rg L 279 [(2,true)] [] [] (Pk (decide_eq_true c6)) ⟨rfl,rfl⟩) (Pa.trans (Pa.kk [0,2,4,5,55] [0,21700,21701]) (Pa.trans (Pa.rr [(0,0),(21700,29800),(21701,29801)]) (Pa.kp (S':=⟨[(0,.P 0),(2,.P 29800),(4,.cv (.own .Dk 29801)),(5,.cv (.lit (.int .i32 a1))),(55,.B (decide (a1≤126)))],[(0,.raw [.str b,.I (IntKind.i64.wrap (c+1))]),(29800,.raw [.I 0,.I 0,.str [],.I 0]),(29801,.lst .Dk d)]⟩)))) ?_;cases h;exact ⟨rfl,_,rfl,rfl⟩
   refine Pp (rg L 279 [(2,false)] [] [] (Pk (decide_eq_false c6)) ⟨rfl,rfl⟩) (Pa.trans (Pa.kk [0,2,4,5,55] [0,21700,21701]) (Pa.trans (Pa.rr [(0,0),(21700,29800),(21701,29801)]) (Pa.kp (S':=⟨[(0,.P 0),(2,.P 29800),(4,.cv (.own .Dk 29801)),(5,.cv (.lit (.int .i32 a1))),(55,.B false)],[(0,.raw [.str b,.I (IntKind.i64.wrap (c+1))]),(29800,.raw [.I 0,.I 0,.str [],.I 0]),(29801,.lst .Dk d)]⟩)))) ?_;cases h;exact ⟨rfl,_,rfl,rfl⟩
  ·rintro e S ⟨rfl,f,rfl,rfl⟩;rcases Pc h with ⟨c7,h⟩ |⟨c7,h⟩
   ·refine tt c7 ?_;obtain ⟨g3,h⟩:=Ph h;obtain ⟨g4,h⟩:=Ph h;refine Pp (rg L 287 [] [] [] (Pf g3.1 (Pf g3.2 (Pf g4 (Pk trivial)))) ⟨rfl,rfl⟩) (Pa.trans (Pa.kk [0,2,4] [0,29800,29801]) (Pa.trans (Pa.rr [(0,0),(29800,21700),(29801,21701)]) (Pa.kp (S':=⟨[(0,.P 0),(2,.P 21700),(4,.cv (.own .Dk 21701))],[(0,.raw [.str b,.I (IntKind.i64.wrap (c+1))]),(21700,.raw [.I 0,.I 0,.str [],.I 0]),(21701,.lst .Dk (d++([(UInt8.ofNat (Int.toNat (IntKind.u8.wrap a1)))]:List UInt8)))]⟩)))) ?_;exact ⟨k,Nat.lt_succ_self k,_,_,_,rfl,h⟩
   refine fN c7 <| Pl L 294 <| Pe (Pa.trans (Pa.kk [2,3] [0,29800]) (Pa.rr [(0,0),(29800,100)])) ?_;refine Pd ?_;cases h;exact .inr ⟨rfl,_,rfl,Pt⟩
 ·rintro e S (hf |⟨rfl,a,rfl,hr⟩)
  ·exact hf.elim
  ·rcases h with ⟨_,e1,h⟩ |⟨_,e1,h⟩
   ·have e2:=Pq.done.inj e1;subst e2;subst h;exact ⟨_,Pa.refl,hr⟩
   ·cases e1
theorem C6.okE {K:Nat} {p0:Aw} {r:Ap×Int×Aw} (h:C6 K p0=some r):Pm V P 102 [.P 0] [(0,.raw (A3 p0))] [0] (.tup [.agg [.I r.1.Kind,.I r.1.At,.str r.1.Text,.I r.1.Int],.I r.2.1]) [(0,.raw [.str r.2.2.src,.I r.2.2.at_])] :=
 eo (fn:=Tryz.f102) (n:=67) (m:=100) fun Γ=>C6.body h
def Ea (K:Nat) (p0:Aw):Option (Ap×Int×Aw):=(Option.bind (((Option.bind (Cb K p0 0) (fun a1=>(Option.bind ((if a1=61 then some (decide (a1=61)) else (if a1=60 then some (decide (a1=60)) else (if a1=62 then some (decide (a1=62)) else some (decide (a1=33))))):Option Bool) (fun b=>(if b=true then (Option.bind (Cb K p0 1) (fun a2=>(if a2=61 then some 2 else (if a1≠33 then some 1 else some 0)))) else (if a1=40 then some 1 else (if a1=41 then some 1 else (if a1=123 then some 1 else (if a1=125 then some 1 else (if a1=91 then some 1 else (if a1=93 then some 1 else (if a1=44 then some 1 else (if a1=59 then some 1 else (if a1=46 then some 1 else (if a1=58 then some 1 else (if a1=43 then some 1 else (if a1=45 then some 1 else (if a1=42 then some 1 else (if a1=47 then some 1 else (if a1=37 then some 1 else some 0))))))))))))))))))))):Option Int) (fun a=>(if a=0 then some ((⟨0,0,[],0⟩:Ap),3,p0) else (if (0:Int)≤p0.at_∧p0.at_≤(IntKind.i64.wrap (p0.at_+a))∧(IntKind.i64.wrap (p0.at_+a))≤(p0.src.length:Int) then some ((⟨5,0,(Ur p0.src p0.at_ (IntKind.i64.wrap (p0.at_+a))),0⟩:Ap),0,(⟨p0.src,(IntKind.i64.wrap (p0.at_+a))⟩:Aw)) else none))))
theorem Ea.body {Γ:P4} {K:Nat} {p0:Aw} {r:Ap×Int×Aw} (h:Ea K p0=some r):P1 V P 64 100 Γ (Tryz.f103.body.getD .skip) (Po P V Tryz.f103 (.tup [.agg [.I r.1.Kind,.I r.1.At,.str r.1.Text,.I r.1.Int],.I r.2.1]) [(0,.raw [.str r.2.2.src,.I r.2.2.at_])]) ⟨Pn 0 [.P 0],[(0,.raw (A3 p0))]⟩:=by
 unfold Ea at h;refine Pl L 200 <| Pl L 203 ?_;obtain ⟨o2,hp2,h⟩:=bind_some h;refine Pb (P3 (Q':=fun e S=>(e=.normal∧∃ b:Int,S=⟨[(0,.P 0),(2,.P 21000),(4,.I b)],[(0,.raw (A3 p0)),(21000,.raw [.I 0,.I 0,.str [],.I 0])]⟩∧b=o2)) ?_ ?_)
 ·clear h;replace h:=hp2;refine Pb ?_;obtain ⟨a1,h1,h⟩:=bind_some h;refine rg L 205 [] [(1,.cv (.lit (.int .i32 a1)))] [] (Qu (Cb.ok h1)) ?_;refine Pl L 209 <| Pj ?_;obtain ⟨o1,hp1,h⟩:=bind_some h;refine Pb (P3 (Q':=fun e S=>(e=.normal∧∃ a:Bool,S=⟨[(0,.P 0),(2,.P 22200),(4,.I 0),(5,.cv (.lit (.int .i32 a1))),(9,.cv (.lit (.int .i32 a1))),(10,.B a)],[(0,.raw (A3 p0)),(22200,.raw [.I 0,.I 0,.str [],.I 0])]⟩∧a=o1)) ?_ ?_)
  ·clear h;replace h:=hp1;refine Pl L 211 ?_;rcases Pc h with ⟨c1,h⟩ |⟨c1,h⟩
   ·refine tT c1 <| Pe (Pa.trans (Pa.kk [0,2,4,5,9,10] [0,200]) (Pa.rr [(0,0),(200,22200)])) ?_;refine sk (S':=⟨[(0,.P 0),(2,.P 22200),(4,.I 0),(5,.cv (.lit (.int .i32 a1))),(9,.cv (.lit (.int .i32 a1))),(10,.B (decide (a1=61)))],[(0,.raw (A3 p0)),(22200,.raw [.I 0,.I 0,.str [],.I 0])]⟩) ?_;cases h;exact ⟨rfl,_,rfl,rfl⟩
   refine fF c1 <| Pl L 214 ?_;rcases Pc h with ⟨c2,h⟩ |⟨c2,h⟩
   ·refine tT c2 <| Pe (Pa.trans (Pa.kk [0,2,4,5,9,10] [0,200]) (Pa.rr [(0,0),(200,22200)])) ?_;refine sk (S':=⟨[(0,.P 0),(2,.P 22200),(4,.I 0),(5,.cv (.lit (.int .i32 a1))),(9,.cv (.lit (.int .i32 a1))),(10,.B (decide (a1=60)))],[(0,.raw (A3 p0)),(22200,.raw [.I 0,.I 0,.str [],.I 0])]⟩) ?_;cases h;exact ⟨rfl,_,rfl,rfl⟩
   refine fF c2 <| Pl L 217 ?_;rcases Pc h with ⟨c3,h⟩ |⟨c3,h⟩
   ·refine tT c3 <| Pe (Pa.trans (Pa.kk [0,2,4,5,9,10] [0,200]) (Pa.rr [(0,0),(200,22200)])) ?_;refine sk (S':=⟨[(0,.P 0),(2,.P 22200),(4,.I 0),(5,.cv (.lit (.int .i32 a1))),(9,.cv (.lit (.int .i32 a1))),(10,.B (decide (a1=62)))],[(0,.raw (A3 p0)),(22200,.raw [.I 0,.I 0,.str [],.I 0])]⟩) ?_;cases h;exact ⟨rfl,_,rfl,rfl⟩
   refine fF c3 <| Pp (Tj L 220 ⟨rfl,rfl⟩) (Pa.trans (Pa.kk [0,2,4,5,9,10] [0,200]) (Pa.trans (Pa.rr [(0,0),(200,22200)]) (Pa.kp (S':=⟨[(0,.P 0),(2,.P 22200),(4,.I 0),(5,.cv (.lit (.int .i32 a1))),(9,.cv (.lit (.int .i32 a1))),(10,.B (decide (a1=33)))],[(0,.raw (A3 p0)),(22200,.raw [.I 0,.I 0,.str [],.I 0])]⟩)))) ?_;cases h;exact ⟨rfl,_,rfl,rfl⟩
  ·rintro e S ⟨rfl,a,rfl,rfl⟩;rcases Pc h with ⟨c4,h⟩ |⟨c4,h⟩
   ·refine tt c4 <| Pb ?_;obtain ⟨a2,h2,h⟩:=bind_some h;refine rg L 223 [] [(1,.cv (.lit (.int .i32 a2)))] [] (Qu (Cb.ok h2)) ?_;rcases Pc h with ⟨c5,h⟩ |⟨c5,h⟩
    ·refine tT c5 <| Pp (Tj L 227 ⟨rfl,rfl⟩) (Pa.trans (Pa.kk [0,2,4] [0,22200]) (Pa.trans (Pa.rr [(0,0),(22200,21000)]) (Pa.kp (S':=⟨[(0,.P 0),(2,.P 21000),(4,.I 2)],[(0,.raw (A3 p0)),(21000,.raw [.I 0,.I 0,.str [],.I 0])]⟩)))) ?_;cases h;exact ⟨rfl,_,rfl,rfl⟩
    refine fF c5 <| Pl L 229 ?_;rcases Pc h with ⟨c6,h⟩ |⟨c6,h⟩
    ·refine tT c6 <| Pp (Tj L 232 ⟨rfl,rfl⟩) (Pa.trans (Pa.kk [0,2,4] [0,22200]) (Pa.trans (Pa.rr [(0,0),(22200,21000)]) (Pa.kp (S':=⟨[(0,.P 0),(2,.P 21000),(4,.I 1)],[(0,.raw (A3 p0)),(21000,.raw [.I 0,.I 0,.str [],.I 0])]⟩)))) ?_;cases h;exact ⟨rfl,_,rfl,rfl⟩
    refine fF c6 <| Pe (Pa.trans (Pa.kk [0,2,4] [0,22200]) (Pa.rr [(0,0),(22200,21000)])) ?_;refine sk (S':=⟨[(0,.P 0),(2,.P 21000),(4,.I 0)],[(0,.raw (A3 p0)),(21000,.raw [.I 0,.I 0,.str [],.I 0])]⟩) ?_;cases h;exact ⟨rfl,_,rfl,rfl⟩
   refine fN c4 <| Pb <| Pl L 234 ?_;rcases Pc h with ⟨c7,h⟩ |⟨c7,h⟩
   ·refine tT c7 <| Pg <| tT c7 <| Pp (Tj L 279 ⟨rfl,rfl⟩) (Pa.trans (Pa.kk [0,2,4] [0,22200]) (Pa.trans (Pa.rr [(0,0),(22200,21000)]) (Pa.kp (S':=⟨[(0,.P 0),(2,.P 21000),(4,.I 1)],[(0,.raw (A3 p0)),(21000,.raw [.I 0,.I 0,.str [],.I 0])]⟩)))) ?_;cases h;exact ⟨rfl,_,rfl,rfl⟩
   refine fF c7 <| Pl L 237 ?_;rcases Pc h with ⟨c8,h⟩ |⟨c8,h⟩
   ·refine tT c8 <| Pg <| tT c8 <| Pp (Tj L 279 ⟨rfl,rfl⟩) (Pa.trans (Pa.kk [0,2,4] [0,22200]) (Pa.trans (Pa.rr [(0,0),(22200,21000)]) (Pa.kp (S':=⟨[(0,.P 0),(2,.P 21000),(4,.I 1)],[(0,.raw (A3 p0)),(21000,.raw [.I 0,.I 0,.str [],.I 0])]⟩)))) ?_;cases h;exact ⟨rfl,_,rfl,rfl⟩
   refine fF c8 <| Pl L 240 ?_;rcases Pc h with ⟨c9,h⟩ |⟨c9,h⟩
   ·refine tT c9 <| Pg <| tT c9 <| Pp (Tj L 279 ⟨rfl,rfl⟩) (Pa.trans (Pa.kk [0,2,4] [0,22200]) (Pa.trans (Pa.rr [(0,0),(22200,21000)]) (Pa.kp (S':=⟨[(0,.P 0),(2,.P 21000),(4,.I 1)],[(0,.raw (A3 p0)),(21000,.raw [.I 0,.I 0,.str [],.I 0])]⟩)))) ?_;cases h;exact ⟨rfl,_,rfl,rfl⟩
   refine fF c9 <| Pl L 243 ?_;rcases Pc h with ⟨c10,h⟩ |⟨c10,h⟩
   ·refine tT c10 <| Pg <| tT c10 <| Pp (Tj L 279 ⟨rfl,rfl⟩) (Pa.trans (Pa.kk [0,2,4] [0,22200]) (Pa.trans (Pa.rr [(0,0),(22200,21000)]) (Pa.kp (S':=⟨[(0,.P 0),(2,.P 21000),(4,.I 1)],[(0,.raw (A3 p0)),(21000,.raw [.I 0,.I 0,.str [],.I 0])]⟩)))) ?_;cases h;exact ⟨rfl,_,rfl,rfl⟩
   refine fF c10 <| Pl L 246 ?_;rcases Pc h with ⟨c11,h⟩ |⟨c11,h⟩
   ·refine tT c11 <| Pg <| tT c11 <| Pp (Tj L 279 ⟨rfl,rfl⟩) (Pa.trans (Pa.kk [0,2,4] [0,22200]) (Pa.trans (Pa.rr [(0,0),(22200,21000)]) (Pa.kp (S':=⟨[(0,.P 0),(2,.P 21000),(4,.I 1)],[(0,.raw (A3 p0)),(21000,.raw [.I 0,.I 0,.str [],.I 0])]⟩)))) ?_;cases h;exact ⟨rfl,_,rfl,rfl⟩
   refine fF c11 <| Pl L 249 ?_;rcases Pc h with ⟨c12,h⟩ |⟨c12,h⟩
   ·refine tT c12 <| Pg <| tT c12 <| Pp (Tj L 279 ⟨rfl,rfl⟩) (Pa.trans (Pa.kk [0,2,4] [0,22200]) (Pa.trans (Pa.rr [(0,0),(22200,21000)]) (Pa.kp (S':=⟨[(0,.P 0),(2,.P 21000),(4,.I 1)],[(0,.raw (A3 p0)),(21000,.raw [.I 0,.I 0,.str [],.I 0])]⟩)))) ?_;cases h;exact ⟨rfl,_,rfl,rfl⟩
   refine fF c12 <| Pl L 252 ?_;rcases Pc h with ⟨c13,h⟩ |⟨c13,h⟩
   ·refine tT c13 <| Pg <| tT c13 <| Pp (Tj L 279 ⟨rfl,rfl⟩) (Pa.trans (Pa.kk [0,2,4] [0,22200]) (Pa.trans (Pa.rr [(0,0),(22200,21000)]) (Pa.kp (S':=⟨[(0,.P 0),(2,.P 21000),(4,.I 1)],[(0,.raw (A3 p0)),(21000,.raw [.I 0,.I 0,.str [],.I 0])]⟩)))) ?_;cases h;exact ⟨rfl,_,rfl,rfl⟩
   refine fF c13 <| Pl L 255 ?_;rcases Pc h with ⟨c14,h⟩ |⟨c14,h⟩
   ·refine tT c14 <| Pg <| tT c14 <| Pp (Tj L 279 ⟨rfl,rfl⟩) (Pa.trans (Pa.kk [0,2,4] [0,22200]) (Pa.trans (Pa.rr [(0,0),(22200,21000)]) (Pa.kp (S':=⟨[(0,.P 0),(2,.P 21000),(4,.I 1)],[(0,.raw (A3 p0)),(21000,.raw [.I 0,.I 0,.str [],.I 0])]⟩)))) ?_;cases h;exact ⟨rfl,_,rfl,rfl⟩
   refine fF c14 <| Pl L 258 ?_;rcases Pc h with ⟨c15,h⟩ |⟨c15,h⟩
   ·refine tT c15 <| Pg <| tT c15 <| Pp (Tj L 279 ⟨rfl,rfl⟩) (Pa.trans (Pa.kk [0,2,4] [0,22200]) (Pa.trans (Pa.rr [(0,0),(22200,21000)]) (Pa.kp (S':=⟨[(0,.P 0),(2,.P 21000),(4,.I 1)],[(0,.raw (A3 p0)),(21000,.raw [.I 0,.I 0,.str [],.I 0])]⟩)))) ?_;cases h;exact ⟨rfl,_,rfl,rfl⟩
   refine fF c15 <| Pl L 261 ?_;rcases Pc h with ⟨c16,h⟩ |⟨c16,h⟩
   ·refine tT c16 <| Pg <| tT c16 <| Pp (Tj L 279 ⟨rfl,rfl⟩) (Pa.trans (Pa.kk [0,2,4] [0,22200]) (Pa.trans (Pa.rr [(0,0),(22200,21000)]) (Pa.kp (S':=⟨[(0,.P 0),(2,.P 21000),(4,.I 1)],[(0,.raw (A3 p0)),(21000,.raw [.I 0,.I 0,.str [],.I 0])]⟩)))) ?_;cases h;exact ⟨rfl,_,rfl,rfl⟩
   refine fF c16 <| Pl L 264 ?_;rcases Pc h with ⟨c17,h⟩ |⟨c17,h⟩
   ·refine tT c17 <| Pg <| tT c17 <| Pp (Tj L 279 ⟨rfl,rfl⟩) (Pa.trans (Pa.kk [0,2,4] [0,22200]) (Pa.trans (Pa.rr [(0,0),(22200,21000)]) (Pa.kp (S':=⟨[(0,.P 0),(2,.P 21000),(4,.I 1)],[(0,.raw (A3 p0)),(21000,.raw [.I 0,.I 0,.str [],.I 0])]⟩)))) ?_;cases h;exact ⟨rfl,_,rfl,rfl⟩
   refine fF c17 <| Pl L 267 ?_;rcases Pc h with ⟨c18,h⟩ |⟨c18,h⟩
   ·refine tT c18 <| Pg <| tT c18 <| Pp (Tj L 279 ⟨rfl,rfl⟩) (Pa.trans (Pa.kk [0,2,4] [0,22200]) (Pa.trans (Pa.rr [(0,0),(22200,21000)]) (Pa.kp (S':=⟨[(0,.P 0),(2,.P 21000),(4,.I 1)],[(0,.raw (A3 p0)),(21000,.raw [.I 0,.I 0,.str [],.I 0])]⟩)))) ?_;cases h;exact ⟨rfl,_,rfl,rfl⟩
   refine fF c18 <| Pl L 270 ?_;rcases Pc h with ⟨c19,h⟩ |⟨c19,h⟩
   ·refine tT c19 <| Pg <| tT c19 <| Pp (Tj L 279 ⟨rfl,rfl⟩) (Pa.trans (Pa.kk [0,2,4] [0,22200]) (Pa.trans (Pa.rr [(0,0),(22200,21000)]) (Pa.kp (S':=⟨[(0,.P 0),(2,.P 21000),(4,.I 1)],[(0,.raw (A3 p0)),(21000,.raw [.I 0,.I 0,.str [],.I 0])]⟩)))) ?_;cases h;exact ⟨rfl,_,rfl,rfl⟩
   refine fF c19 <| Pl L 273 ?_;rcases Pc h with ⟨c20,h⟩ |⟨c20,h⟩
   ·refine tT c20 <| Pg <| tT c20 <| Pp (Tj L 279 ⟨rfl,rfl⟩) (Pa.trans (Pa.kk [0,2,4] [0,22200]) (Pa.trans (Pa.rr [(0,0),(22200,21000)]) (Pa.kp (S':=⟨[(0,.P 0),(2,.P 21000),(4,.I 1)],[(0,.raw (A3 p0)),(21000,.raw [.I 0,.I 0,.str [],.I 0])]⟩)))) ?_;cases h;exact ⟨rfl,_,rfl,rfl⟩
   refine fF c20 <| Tj L 276 ?_;rcases Pc h with ⟨c21,h⟩ |⟨c21,h⟩
   ·refine tT c21 <| Pp (Tj L 279 ⟨rfl,rfl⟩) (Pa.trans (Pa.kk [0,2,4] [0,22200]) (Pa.trans (Pa.rr [(0,0),(22200,21000)]) (Pa.kp (S':=⟨[(0,.P 0),(2,.P 21000),(4,.I 1)],[(0,.raw (A3 p0)),(21000,.raw [.I 0,.I 0,.str [],.I 0])]⟩)))) ?_;cases h;exact ⟨rfl,_,rfl,rfl⟩
   refine fF c21 <| Pe (Pa.trans (Pa.kk [0,2,4] [0,22200]) (Pa.rr [(0,0),(22200,21000)])) ?_;refine sk (S':=⟨[(0,.P 0),(2,.P 21000),(4,.I 0)],[(0,.raw (A3 p0)),(21000,.raw [.I 0,.I 0,.str [],.I 0])]⟩) ?_;cases h;exact ⟨rfl,_,rfl,rfl⟩
 ·rintro e S ⟨rfl,b,rfl,rfl⟩;refine Pb <| Pl L 281 ?_;rcases Pc h with ⟨c22,h⟩ |⟨c22,h⟩
  ·refine tT c22 <| Pl L 284 <| Pe (Pa.trans (Pa.kk [2,3] [0,21000]) (Pa.rr [(0,0),(21000,100)])) ?_;refine Pd ?_;cases h;exact Pt
  refine fF c22 <| Pg <| Pb ?_;obtain ⟨g1,h⟩:=Ph h;refine rd L mixed 288 [] [] [] [] 16 (Pf g1.1 (Pf g1.2.1 (Pk g1.2.2))) ?_;refine Pl L 305 <| Pl L 315 <| Pe (Pa.trans (Pa.kk [2,3] [0,21000]) (Pa.rr [(0,0),(21000,100)])) ?_;refine Pd ?_;cases h;exact Pt
theorem Ea.okE {K:Nat} {p0:Aw} {r:Ap×Int×Aw} (h:Ea K p0=some r):Pm V P 103 [.P 0] [(0,.raw (A3 p0))] [0] (.tup [.agg [.I r.1.Kind,.I r.1.At,.str r.1.Text,.I r.1.Int],.I r.2.1]) [(0,.raw [.str r.2.2.src,.I r.2.2.at_])] :=
 eo (fn:=Tryz.f103) (n:=64) (m:=100) fun Γ=>Ea.body h
def Eb (K:Nat) (p0:Aw):Option (Ap×Int×Aw):=(Option.bind (Cb K p0 0) (fun a1=>(Option.bind (El K a1) (fun a2=>(if a2=true then (Option.bind (D7 K p0) (fun (a,b,c)=>some (a,b,c))) else (Option.bind (Ez K a1) (fun a4=>(if a4=true then (Option.bind (D4 K p0) (fun (d,e,f)=>some (d,e,f))) else (if a1=34 then (Option.bind (C6 K p0) (fun (g,h,i)=>some (g,h,i))) else (Option.bind (Ea K p0) (fun (j,k,l)=>some (j,k,l))))))))))))
theorem Eb.body {Γ:P4} {K:Nat} {p0:Aw} {r:Ap×Int×Aw} (h:Eb K p0=some r):P1 V P 32 100 Γ (Tryz.f72.body.getD .skip) (Po P V Tryz.f72 (.tup [.agg [.I r.1.Kind,.I r.1.At,.str r.1.Text,.I r.1.Int],.I r.2.1]) [(0,.raw [.str r.2.2.src,.I r.2.2.at_])]) ⟨Pn 0 [.P 0],[(0,.raw (A3 p0))]⟩:=by
 unfold Eb at h;refine Pl L 200 <| Pb <| Pb ?_;obtain ⟨a1,h1,h⟩:=bind_some h;refine rg L 203 [] [(1,.cv (.lit (.int .i32 a1)))] [] (Qu (Cb.ok h1)) ?_;refine Pj <| Pb ?_;obtain ⟨a2,h2,h⟩:=bind_some h;refine rg L 207 [] [(1,.B a2)] [] (Qu (El.ok h2)) ?_;rcases Pc h with ⟨c1,h⟩ |⟨c1,h⟩
 ·refine tt c1 <| Pb ?_;obtain ⟨⟨a,b,c⟩,h3,h⟩:=bind_some h;dsimp only at h;refine rg L 211 [] [] [(1,(Pv (.tup [.agg (D3 a),.I b]) [(0,.raw (A3 c))]))] (Pk (D7.okE h3)) ?_;refine Pe (Pa.trans (Pa.kk [2,3] [0,200]) (Pa.rr [(0,0),(200,100)])) ?_;refine Pd ?_;cases h;exact Pt
 refine fN c1 <| Pb ?_;obtain ⟨a4,h4,h⟩:=bind_some h;refine rg L 218 [] [(1,.B a4)] [] (Qu (Ez.ok h4)) ?_;rcases Pc h with ⟨c2,h⟩ |⟨c2,h⟩
 ·refine tt c2 <| Pb ?_;obtain ⟨⟨d,e,f⟩,h5,h⟩:=bind_some h;dsimp only at h;refine rg L 222 [] [] [(1,(Pv (.tup [.agg (D3 d),.I e]) [(0,.raw (A3 f))]))] (Pk (D4.okE h5)) ?_;refine Pe (Pa.trans (Pa.kk [2,3] [0,200]) (Pa.rr [(0,0),(200,100)])) ?_;refine Pd ?_;cases h;exact Pt
 refine fN c2 <| Pl L 229 ?_;rcases Pc h with ⟨c3,h⟩ |⟨c3,h⟩
 ·refine tT c3 <| Pb ?_;obtain ⟨⟨g,i,j⟩,h6,h⟩:=bind_some h;dsimp only at h;refine rg L 233 [] [] [(1,(Pv (.tup [.agg (D3 g),.I i]) [(0,.raw (A3 j))]))] (Pk (C6.okE h6)) ?_;refine Pe (Pa.trans (Pa.kk [2,3] [0,200]) (Pa.rr [(0,0),(200,100)])) ?_;refine Pd ?_;cases h;exact Pt
 refine fF c3 <| Pg <| Pb ?_;obtain ⟨⟨k,l,m⟩,h7,h⟩:=bind_some h;dsimp only at h;refine rg L 240 [] [] [(1,(Pv (.tup [.agg (D3 k),.I l]) [(0,.raw (A3 m))]))] (Pk (Ea.okE h7)) ?_;refine Pe (Pa.trans (Pa.kk [2,3] [0,200]) (Pa.rr [(0,0),(200,100)])) ?_;refine Pd ?_;cases h;exact Pt
theorem Eb.okE {K:Nat} {p0:Aw} {r:Ap×Int×Aw} (h:Eb K p0=some r):Pm V P 72 [.P 0] [(0,.raw (A3 p0))] [0] (.tup [.agg [.I r.1.Kind,.I r.1.At,.str r.1.Text,.I r.1.Int],.I r.2.1]) [(0,.raw [.str r.2.2.src,.I r.2.2.at_])] :=
 eo (fn:=Tryz.f72) (n:=32) (m:=100) fun Γ=>Eb.body h
def Ed.l16 (K:Nat) (p0:List UInt8):Nat→(List UInt8)→Int→(List Ap)→Option (Pq ((List Ap)×Int×Int) Unit)
 | 0,_,_,_=>none
 | k+1,d,e,a=>(Option.bind (C7 K (⟨d,e⟩:Aw)) (fun (h,b)=>(if b.at_≥(p0.length:Int) then (if (a.length+([(⟨0,b.at_,[],0⟩:Ap)]:List Ap).length) * 40≤140737488355328 then some (Pq.done ((a++([(⟨0,b.at_,[],0⟩:Ap)]:List Ap)),0,0)) else none) else (Option.bind (Eb K b) (fun (c,f,g)=>(if f≠0 then some (Pq.done (([]:List Ap),b.at_,f)) else (if (a.length+([(⟨c.Kind,b.at_,c.Text,c.Int⟩:Ap)]:List Ap).length) * 40≤140737488355328 then Ed.l16 K p0 k g.src g.at_ (a++([(⟨c.Kind,b.at_,c.Text,c.Int⟩:Ap)]:List Ap)) else none)))))))
def Ed (K:Nat) (p0:List UInt8):Option ((List Ap)×Int×Int):=(if (p0.length:Int) > 16384 then some (([]:List Ap),0,6) else (obind (Ed.l16 K p0 K p0 0 ([]:List Ap):Option (Pq ((List Ap)×Int×Int) Unit)) (fun r=>r) (fun _=>none)))
theorem Ed.body {Γ:P4} {K:Nat} {p0:List UInt8} {r:(List Ap)×Int×Int} (h:Ed K p0=some r):P1 V P 46 100 Γ (Tryz.f40.body.getD .skip) (Po P V Tryz.f40 (.tup [.cv (.ro .Am r.1),.I r.2.1,.I r.2.2]) []) ⟨Pn 0 [.cv (.str p0)],[]⟩:=by
 unfold Ed at h;refine Pl L 200 <| Pb <| Pl L 204 ?_;rcases Pc h with ⟨c1,h⟩ |⟨c1,h⟩
 ·refine tT c1 <| Pl L 208 <| Pd ?_;cases h;exact Pt
 refine fF c1 <| Pg <| Pl L 212 <| Pl L 217 <| Pj <| Pe (Pa.trans (Pa.kk [0,5,6] [214]) (Pa.trans (Pa.no 6 9500 Tag.Am) (Pa.trans (Pa.kk [0,5,6] [214,9500]) (Pa.rr [(214,23300),(9500,23301)])))) ?_;refine kp (S':=⟨[(0,.cv (.str p0)),(5,.P 23300),(6,.cv (.own .Am 23301))],[(23300,.raw [.str p0,.I 0]),(23301,.lst .Am ([]:List Ap))]⟩) ?_;obtain ⟨o1,hp1,h⟩:=Px h;refine Pu (Q':=fun e S=>False∨(e=.ret∧∃ a,Pq.done a=o1∧Po P V Tryz.f40 (.tup [.cv (.ro .Am a.1),.I a.2.1,.I a.2.2]) [] .ret S)) (Pz (fun k S=>∃ c:List UInt8,∃ d:Int,∃ b:List Ap,S=⟨[(0,.cv (.str p0)),(5,.P 23300),(6,.cv (.own .Am 23301))],[(23300,.raw [.str c,.I d]),(23301,.lst .Am b)]⟩∧Ed.l16 K p0 k c d b=some o1) ?_ ⟨_,_,_,rfl,hp1⟩) ?_
 ·clear h hp1;intro k S hS;obtain ⟨c,d,b,rfl,h⟩:=hS;cases k with
  | zero=>cases h
  | succ k =>
  unfold Ed.l16 at h;refine Pj <| Pb ?_;obtain ⟨⟨j,g⟩,h1,h⟩:=bind_some h;dsimp only at h;refine rg L 219 [] [] [(1,(ef [0] [0] (.cv (.str j)) [(0,.raw (A3 g))] [(0,23300)]))] (Pk (C7.okE h1)) ?_;refine Pl L 222 <| Pb <| Pl L 228 ?_;rcases Pc h with ⟨c2,h⟩ |⟨c2,h⟩
  ·refine tT c2 <| Pb ?_;obtain ⟨g1,h⟩:=Ph h;refine rg L 233 [] [] [] (Qu g1) ?_;refine Pe (Pa.trans (Pa.kk [2,3,4] [23301]) (Pa.fz 23301)) ?_;refine Pd ?_;cases h;exact .inr ⟨rfl,_,rfl,Pt⟩
  refine fF c2 <| Pg <| Pb ?_;obtain ⟨⟨f,l,i⟩,h2,h⟩:=bind_some h;dsimp only at h;refine rg L 242 [] [] [(1,(ef [0] [0] (.tup [.agg (D3 f),.I l]) [(0,.raw (A3 i))] [(0,23300)]))] (Pk (Eb.okE h2)) ?_;refine Pb <| Pl L 251 ?_;rcases Pc h with ⟨c3,h⟩ |⟨c3,h⟩
  ·refine tT c3 <| Pl L 254 <| Pd ?_;cases h;exact .inr ⟨rfl,_,rfl,Pt⟩
  refine fF c3 <| Pg <| Pl L 260 ?_;obtain ⟨g2,h⟩:=Ph h;refine ar L 264 [] [] [] (cs:=[(b.length+([(⟨f.Kind,g.at_,f.Text,f.Int⟩:Ap)]:List Ap).length) * 40≤140737488355328,True]) (S':=⟨[(0,.cv (.str p0)),(5,.P 23300),(6,.cv (.own .Am 23301))],[(23300,.raw (A3 i)),(23301,.lst .Am (b++([(⟨f.Kind,g.at_,f.Text,f.Int⟩:Ap)]:List Ap)))]⟩) (And.intro g2 trivial) ?_;exact ⟨k,Nat.lt_succ_self k,_,_,_,rfl,h⟩
 ·rintro e S (hf |⟨rfl,a,rfl,hr⟩)
  ·exact hf.elim
  ·rcases h with ⟨_,e1,h⟩ |⟨_,e1,h⟩
   ·have e2:=Pq.done.inj e1;subst e2;subst h;exact ⟨_,Pa.refl,hr⟩
   ·cases e1
theorem Ed.ok {K:Nat} {p0:List UInt8} {r:(List Ap)×Int×Int} (h:Ed K p0=some r):Pr V P 40 [.cv (.str p0)] (.tup [.cv (.ro .Am r.1),.I r.2.1,.I r.2.2]):=Pm.pcall (eo (fn:=Tryz.f40) (n:=46) (m:=100) fun Γ=>Ed.body h) (by kernel_rfl)
def Bq (K:Nat) (p0:Ab):Option Ap:=(if (0:Int)≤(if (IntKind.i64.wrap ((p0.l.length:Int) - 1)) < p0.i then (IntKind.i64.wrap ((p0.l.length:Int) - 1)) else p0.i)∧((if (IntKind.i64.wrap ((p0.l.length:Int) - 1)) < p0.i then (IntKind.i64.wrap ((p0.l.length:Int) - 1)) else p0.i):Int) <(p0.l.length:Int) then some ((p0.l.getD (Int.toNat (if (IntKind.i64.wrap ((p0.l.length:Int) - 1)) < p0.i then (IntKind.i64.wrap ((p0.l.length:Int) - 1)) else p0.i)) Du)) else none)
theorem Bq.body {Γ:P4} {K:Nat} {p0:Ab} {r:Ap} (h:Bq K p0=some r):P1 V P 20 100 Γ (Tryz.f42.body.getD .skip) (Po P V Tryz.f42 (.agg [.I r.Kind,.I r.At,.str r.Text,.I r.Int]) []) ⟨Pn 0 [.cv (.pcs (Ae p0) 0)],[]⟩:=by
 unfold Bq at h;refine Pl L 200 <| Pb ?_;obtain ⟨g1,h⟩:=Ph h;refine rd L mixed 202 [] [] [] [200] 18 (Q2 g1.1 g1.2) ?_;refine Pe (Pa.trans (Pa.kk [2] [200]) (Pa.rr [(200,100)])) ?_;refine Pd ?_;cases h;exact Pt
theorem Bq.ok {K:Nat} {p0:Ab} {r:Ap} (h:Bq K p0=some r):Pr V P 42 [.cv (.pcs (Ae p0) 0)] (.agg [.I r.Kind,.I r.At,.str r.Text,.I r.Int]):=Pm.pcall (eo (fn:=Tryz.f42) (n:=20) (m:=100) fun Γ=>Bq.body h) (by kernel_rfl)
def Dy (K:Nat) (p0:Ab) (p1:List UInt8):Option Bool:=(Option.bind (Bq K p0) (fun a1=>(if a1.Kind=2 then some (decide (a1.Text=p1)) else (if a1.Kind=5 then some (decide (a1.Text=p1)) else some false))))
theorem Dy.body {Γ:P4} {K:Nat} {p0:Ab} {p1:List UInt8} {r:Bool} (h:Dy K p0 p1=some r):P1 V P 22 100 Γ (Tryz.f73.body.getD .skip) (Po P V Tryz.f73 (.B r) []) ⟨Pn 0 [.cv (.pcs (Ae p0) 0),.cv (.str p1)],[]⟩:=by
 unfold Dy at h;refine Pl L 200 <| Pb ?_;obtain ⟨a1,h1,h⟩:=bind_some h;refine rg L 202 [] [(1,.agg (D3 a1))] [] (Qu (Bq.ok h1)) ?_;refine Pb ?_;rcases Pc h with ⟨c1,h⟩ |⟨c1,h⟩
 ·refine rg L 207 [(3,true)] [] [] (Pk (decide_eq_true c1)) ?_;refine Pd ?_;cases h;exact Pt
 rcases Pc h with ⟨c2,h⟩ |⟨c2,h⟩
 ·refine rg L 207 [(3,false),(8,true)] [] [] (Q2 (decide_eq_false c1) (decide_eq_true c2)) ?_;refine Pd ?_;cases h;exact Pt
 refine rg L 207 [(3,false),(8,false)] [] [] (Q2 (decide_eq_false c1) (decide_eq_false c2)) ?_;refine Pd ?_;cases h;exact Pt
theorem Dy.ok {K:Nat} {p0:Ab} {p1:List UInt8} {r:Bool} (h:Dy K p0 p1=some r):Pr V P 73 [.cv (.pcs (Ae p0) 0),.cv (.str p1)] (.B r):=Pm.pcall (eo (fn:=Tryz.f73) (n:=22) (m:=100) fun Γ=>Dy.body h) (by kernel_rfl)
def Ak (K:Nat) (p0:List UInt8) (p1:Ab):Option (Bool×Ab):=(Option.bind (Dy K p1 p0) (fun a1=>(if a1=true then some (true,(⟨p1.l,(IntKind.i64.wrap (p1.i+1))⟩:Ab)) else some (false,p1))))
theorem Ak.body {Γ:P4} {K:Nat} {p0:List UInt8} {p1:Ab} {r:Bool×Ab} (h:Ak K p0 p1=some r):P1 V P 16 100 Γ (Tryz.f44.body.getD .skip) (Po P V Tryz.f44 (.B r.1) [(0,.raw [.ro .Am r.2.l,.I r.2.i])]) ⟨Pn 0 [.P 0,.cv (.str p0)],[(0,.raw (Ae p1))]⟩:=by
 unfold Ak at h;refine Pl L 200 <| Pb <| Pb ?_;obtain ⟨a1,h1,h⟩:=bind_some h;refine rg L 202 [] [(2,.B a1)] [] (Qu (Dy.ok h1)) ?_;rcases Pc h with ⟨c1,h⟩ |⟨c1,h⟩
 ·refine ff (b:=(!a1)) (congrArg Bool.not (c1)) ?_;refine Pg <| Pl L 209 <| Pl L 218 <| Pd ?_;cases h;exact Pt
 refine tt (b:=(!a1)) (congrArg Bool.not (eq_false_of_ne_true c1)) ?_;refine Pl L 207 <| Pd ?_;cases h;exact Pt
theorem Ak.okE {K:Nat} {p0:List UInt8} {p1:Ab} {r:Bool×Ab} (h:Ak K p0 p1=some r):Pm V P 44 [.P 0,.cv (.str p0)] [(0,.raw (Ae p1))] [0] (.B r.1) [(0,.raw [.ro .Am r.2.l,.I r.2.i])] :=
 eo (fn:=Tryz.f44) (n:=16) (m:=100) fun Γ=>Ak.body h
def Bf (K:Nat) (p0:Ab):Option Int:=(Option.bind (Bq K p0) (fun a1=>some a1.At))
def Bf.rep (p0:Ab):Int→Qo T
 | v0=>.pan (P8 49 v0)
def Bf.post (p0:Ab):Int→List (Nat×P0 T)
 | v0=>[]
theorem Bf.body {Γ:P4} {K:Nat} {p0:Ab} {r:Int} (h:Bf K p0=some r):P1 V P 7 100 Γ (Tryz.f43.body.getD .skip) (P9 P V Tryz.f43 (Bf.rep p0 r) (Bf.post p0 r)) ⟨Pn 0 [.P 0],[(0,.raw (Ae p0))]⟩:=by
 unfold Bf at h;obtain ⟨a1,h1,h⟩:=bind_some h;refine qn L 200 [] [(1,.agg (D3 a1))] [] 5 (ef [] [] (.tup []) [] []) (P8 49 a1.At) (Pf (Bq.ok h1) (Pf trivial (Pk (show (P8 49 a1.At)=(P8 49 a1.At) from rfl)))) ?_;cases h;exact rfl
theorem Bf.okE {K:Nat} {p0:Ab} {r:Int} (h:Bf K p0=some r):P7 V P 43 [.P 0] [(0,.raw (Ae p0))] [0] (Bf.post p0 r) (Bf.rep p0 r) :=
 xo (fn:=Tryz.f43) (n:=7) (m:=100) fun Γ=>Bf.body h
def Dr (K:Nat) (p0:Ab):Option (Ap×Ab):=(Option.bind (Bq K p0) (fun a1=>some (a1,(⟨p0.l,(IntKind.i64.wrap (p0.i+1))⟩:Ab))))
theorem Dr.body {Γ:P4} {K:Nat} {p0:Ab} {r:Ap×Ab} (h:Dr K p0=some r):P1 V P 14 100 Γ (Tryz.f74.body.getD .skip) (Po P V Tryz.f74 (.agg [.I r.1.Kind,.I r.1.At,.str r.1.Text,.I r.1.Int]) [(0,.raw [.ro .Am r.2.l,.I r.2.i])]) ⟨Pn 0 [.P 0],[(0,.raw (Ae p0))]⟩:=by
 unfold Dr at h;refine Pl L 200 <| Pb ?_;obtain ⟨a1,h1,h⟩:=bind_some h;refine rg L 202 [] [(1,.agg (D3 a1))] [] (Qu (Bq.ok h1)) ?_;refine Pl L 207 <| Pl L 216 <| Pe (Pa.trans (Pa.kk [2] [0,200]) (Pa.rr [(0,0),(200,100)])) ?_;refine Pd ?_;cases h;exact Pt
theorem Dr.okE {K:Nat} {p0:Ab} {r:Ap×Ab} (h:Dr K p0=some r):Pm V P 74 [.P 0] [(0,.raw (Ae p0))] [0] (.agg [.I r.1.Kind,.I r.1.At,.str r.1.Text,.I r.1.Int]) [(0,.raw [.ro .Am r.2.l,.I r.2.i])] :=
 eo (fn:=Tryz.f74) (n:=14) (m:=100) fun Γ=>Dr.body h
def Au (K:Nat) (p0:Ab):Option (Int ⊕ ((List UInt8)×Ab)):=(Option.bind (Bq K p0) (fun a1=>(if a1.Kind≠1 then (Option.bind (Bf K p0) (fun a2=>some (Sum.inl a2))) else (Option.bind (Dr K p0) (fun (a,b)=>some (Sum.inr (a.Text,b)))))))
def Au.rep (p0:Ab):Int ⊕ ((List UInt8)×Ab)→Qo T
 |(Sum.inl v0)=>.pan (P8 49 v0)
 |(Sum.inr (v0,v1))=>.ret (.cv (.str v0))
def Au.post (p0:Ab):Int ⊕ ((List UInt8)×Ab)→List (Nat×P0 T)
 |(Sum.inl v0)=>[]
 |(Sum.inr (v0,v1))=>[(0,.raw [.ro .Am v1.l,.I v1.i])]
theorem Au.body {Γ:P4} {K:Nat} {p0:Ab} {r:Int ⊕ ((List UInt8)×Ab)} (h:Au K p0=some r):P1 V P 12 100 Γ (Tryz.f45.body.getD .skip) (P9 P V Tryz.f45 (Au.rep p0 r) (Au.post p0 r)) ⟨Pn 0 [.P 0],[(0,.raw (Ae p0))]⟩:=by
 unfold Au at h;refine Pl L 200 <| Pb <| Pb ?_;obtain ⟨a1,h1,h⟩:=bind_some h;refine rg L 202 [] [(1,.agg (D3 a1))] [] (Qu (Bq.ok h1)) ?_;rcases Pc h with ⟨c1,h⟩ |⟨c1,h⟩
 ·refine tT c1 ?_;obtain ⟨a2,h2,h⟩:=bind_some h;refine qn L 207 [] [] [] 1 (Pv (.tup []) []) (P8 49 a2) (Pk (Bf.okE h2)) ?_;cases h;exact rfl
 refine fF c1 <| Pg <| Pb ?_;obtain ⟨⟨a,b⟩,h3,h⟩:=bind_some h;dsimp only at h;refine rg L 210 [] [] [(1,(Pv (.agg (D3 a)) [(0,.raw (Ae b))]))] (Pk (Dr.okE h3)) ?_;refine Pd ?_;cases h;exact Ra
theorem Au.okE {K:Nat} {p0:Ab} {r:Int ⊕ ((List UInt8)×Ab)} (h:Au K p0=some r):P7 V P 45 [.P 0] [(0,.raw (Ae p0))] [0] (Au.post p0 r) (Au.rep p0 r) :=
 xo (fn:=Tryz.f45) (n:=12) (m:=100) fun Γ=>Au.body h
def Ao (K:Nat) (p0:List UInt8) (p1:Ab):Option (Ab ⊕ Int):=(Option.bind (Ak K p0 p1) (fun (b,a)=>(if b=true then some (Sum.inl a) else (Option.bind (Bf K a) (fun a2=>some (Sum.inr a2))))))
def Ao.rep (p0:List UInt8) (p1:Ab):Ab ⊕ Int→Qo T
 |(Sum.inl v0)=>.ret (.tup [])
 |(Sum.inr v0)=>.pan (P8 49 v0)
def Ao.post (p0:List UInt8) (p1:Ab):Ab ⊕ Int→List (Nat×P0 T)
 |(Sum.inl v0)=>[(0,.raw [.ro .Am v0.l,.I v0.i])]
 |(Sum.inr v0)=>[]
theorem Ao.body {Γ:P4} {K:Nat} {p0:List UInt8} {p1:Ab} {r:Ab ⊕ Int} (h:Ao K p0 p1=some r):P1 V P 10 100 Γ (Tryz.f46.body.getD .skip) (P9 P V Tryz.f46 (Ao.rep p0 p1 r) (Ao.post p0 p1 r)) ⟨Pn 0 [.P 0,.cv (.str p0)],[(0,.raw (Ae p1))]⟩:=by
 unfold Ao at h;refine Pb ?_;obtain ⟨⟨a,c⟩,h1,h⟩:=bind_some h;dsimp only at h;refine rg L 200 [] [] [(2,(Pv (.B a) [(0,.raw (Ae c))]))] (Pk (Ak.okE h1)) ?_;rcases Pc h with ⟨c1,h⟩ |⟨c1,h⟩
 ·refine ff (b:=(!a)) (congrArg Bool.not (c1)) ?_;refine sk (S':=⟨[],[(0,.raw (Ae c))]⟩) ?_;cases h;exact xn0
 refine tt (b:=(!a)) (congrArg Bool.not (eq_false_of_ne_true c1)) ?_;obtain ⟨a2,h2,h⟩:=bind_some h;refine qn L 205 [] [] [] 1 (Pv (.tup []) []) (P8 49 a2) (Pk (Bf.okE h2)) ?_;cases h;exact rfl
theorem Ao.okE {K:Nat} {p0:List UInt8} {p1:Ab} {r:Ab ⊕ Int} (h:Ao K p0 p1=some r):P7 V P 46 [.P 0,.cv (.str p0)] [(0,.raw (Ae p1))] [0] (Ao.post p0 p1 r) (Ao.rep p0 p1 r) :=
 xo (fn:=Tryz.f46) (n:=10) (m:=100) fun Γ=>Ao.body h
def Bx.l7 (K:Nat) (p0:List (List UInt8)) (p1:List Int) (p2:Ab):Nat→Int→Option (Pq (Int×Bool×Ab) Unit)
 | 0,_=>none
 | k+1,a=>(if a <(p0.length:Int) then (if (0:Int)≤a∧(a:Int) <(p0.length:Int) then (Option.bind (Dy K p2 (p0.getD (Int.toNat a) ([]:List UInt8))) (fun a1=>(if a1=true then (if (a:Int) <(p1.length:Int) then some (Pq.done ((p1.getD (Int.toNat a) (0:Int)),true,(⟨p2.l,(IntKind.i64.wrap (p2.i+1))⟩:Ab))) else none) else Bx.l7 K p0 p1 p2 k (IntKind.i64.wrap (a+1))))) else none) else some (Pq.go ()))
def Bx (K:Nat) (p0:List (List UInt8)) (p1:List Int) (p2:Ab):Option (Int×Bool×Ab):=(obind (Bx.l7 K p0 p1 p2 K 0:Option (Pq (Int×Bool×Ab) Unit)) (fun r=>r) (fun _=>some (0,false,p2)))
theorem Bx.body {Γ:P4} {K:Nat} {p0:List (List UInt8)} {p1:List Int} {p2:Ab} {r:Int×Bool×Ab} (h:Bx K p0 p1 p2=some r):P1 V P 32 100 Γ (Tryz.f78.body.getD .skip) (Po P V Tryz.f78 (.tup [.I r.1,.B r.2.1]) [(0,.raw [.ro .Am r.2.2.l,.I r.2.2.i])]) ⟨Pn 0 [.P 0,.cv (.ro .C4 p0),.cv (.ro .E8 p1)],[(0,.raw (Ae p2))]⟩:=by
 unfold Bx at h;refine Pl L 200 <| Pb <| Pl L 203 <| Pj <| kp (S':=⟨[(0,.P 0),(2,.cv (.ro .E8 p1)),(10,.cv (.ro .C4 p0)),(11,.I (p0.length:Int)),(12,.I 0)],[(0,.raw (Ae p2))]⟩) ?_;obtain ⟨o1,hp1,h⟩:=Px h;refine Pu (Q':=fun e S=>(e=.exit 0∧S=⟨[],[(0,.raw (Ae p2))]⟩∧Pq.go ()=o1)∨(e=.ret∧∃ a,Pq.done a=o1∧Po P V Tryz.f78 (.tup [.I a.1,.B a.2.1]) [(0,.raw [.ro .Am a.2.2.l,.I a.2.2.i])] .ret S)) (Pz (fun k S=>∃ b:Int,S=⟨[(0,.P 0),(2,.cv (.ro .E8 p1)),(10,.cv (.ro .C4 p0)),(11,.I (p0.length:Int)),(12,.I b)],[(0,.raw (Ae p2))]⟩∧Bx.l7 K p0 p1 p2 k b=some o1) ?_ ⟨_,rfl,hp1⟩) ?_
 ·clear h hp1;intro k S hS;obtain ⟨b,rfl,h⟩:=hS;cases k with
  | zero=>cases h
  | succ k =>
  unfold Bx.l7 at h;refine Pl L 207 <| Pb ?_;rcases Pc h with ⟨c1,h⟩ |⟨c1,h⟩
  ·refine tT c1 <| Pg <| Pb <| Pj <| Pb ?_;obtain ⟨g1,h⟩:=Ph h;refine rg L 209 [] [] [] (Q2 g1.1 g1.2) ?_;refine Pb ?_;obtain ⟨a1,h1,h⟩:=bind_some h;refine rg L 215 [] [(2,.B a1)] [] (Qu (Dy.ok h1)) ?_;rcases Pc h with ⟨c2,h⟩ |⟨c2,h⟩
   ·refine tt c2 <| Pl L 219 <| Pb ?_;obtain ⟨g2,h⟩:=Ph h;refine rg L 228 [] [] [] (Q2 g1.1 g2) ?_;refine Pd ?_;cases h;exact .inr ⟨rfl,_,rfl,Pt⟩
   refine fN c2 <| Pg <| Se L 235 [] [] [] (S':=⟨[(0,.P 0),(2,.cv (.ro .E8 p1)),(10,.cv (.ro .C4 p0)),(11,.I (p0.length:Int)),(12,.I (IntKind.i64.wrap (b+1)))],[(0,.raw (Ae p2))]⟩) ?_;exact ⟨k,Nat.lt_succ_self k,_,rfl,h⟩
  refine fF c1 <| ex (S':=⟨[],[(0,.raw (Ae p2))]⟩) ?_;cases h;exact .inl ⟨rfl,rfl,rfl⟩
 ·rintro e S (⟨rfl,rfl,rfl⟩ |⟨rfl,a,rfl,hr⟩)
  ·rcases h with ⟨_,e1,h⟩ |⟨_,e1,h⟩
   ·cases e1
   ·have e2:=Pq.go.inj e1;subst e2;refine ⟨_,Pa.refl,?_⟩;refine Pl L 238 <| Pd ?_;cases h;exact Pt
  ·rcases h with ⟨_,e1,h⟩ |⟨_,e1,h⟩
   ·have e2:=Pq.done.inj e1;subst e2;subst h;exact ⟨_,Pa.refl,hr⟩
   ·cases e1
theorem Bx.okE {K:Nat} {p0:List (List UInt8)} {p1:List Int} {p2:Ab} {r:Int×Bool×Ab} (h:Bx K p0 p1 p2=some r):Pm V P 78 [.P 0,.cv (.ro .C4 p0),.cv (.ro .E8 p1)] [(0,.raw (Ae p2))] [0] (.tup [.I r.1,.B r.2.1]) [(0,.raw [.ro .Am r.2.2.l,.I r.2.2.i])] :=
 eo (fn:=Tryz.f78) (n:=32) (m:=100) fun Γ=>Bx.body h
def Do (K:Nat) (p0:Ab):Option (Aa×Bool×Ab):=(Option.bind (Bq K p0) (fun a1=>(if a1.Kind=3 then some ((⟨4,[],a1.Int,[],([]:List Aa)⟩:Aa),true,(⟨p0.l,(IntKind.i64.wrap (p0.i+1))⟩:Ab)) else (if a1.Kind=4 then some ((⟨5,[],0,a1.Text,([]:List Aa)⟩:Aa),true,(⟨p0.l,(IntKind.i64.wrap (p0.i+1))⟩:Ab)) else (Option.bind (Bx K ([([110,117,108,108]:List UInt8),([116,114,117,101]:List UInt8),([102,97,108,115,101]:List UInt8)]:List (List UInt8)) ([1,2,3]:List Int) p0) (fun (a,b,c)=>some ((⟨a,[],0,[],([]:List Aa)⟩:Aa),b,c)))))))
theorem Do.body {Γ:P4} {K:Nat} {p0:Ab} {r:Aa×Bool×Ab} (h:Do K p0=some r):P1 V P 47 100 Γ (Tryz.f76.body.getD .skip) (Po P V Tryz.f76 (.tup [.agg [.I r.1.Op,.str r.1.Name,.I r.1.Int,.str r.1.Text,.ro .Af r.1.Kids],.B r.2.1]) [(0,.raw [.ro .Am r.2.2.l,.I r.2.2.i])]) ⟨Pn 0 [.P 0],[(0,.raw (Ae p0))]⟩:=by
 unfold Do at h;refine Pl L 200 <| Pb <| Pb ?_;obtain ⟨a1,h1,h⟩:=bind_some h;refine rg L 203 [] [(1,.agg (D3 a1))] [] (Qu (Bq.ok h1)) ?_;refine Pj <| Pl L 208 ?_;rcases Pc h with ⟨c1,h⟩ |⟨c1,h⟩
 ·refine tT c1 <| Pl L 213 <| Pl L 222 <| Pe (Pa.trans (Pa.kk [2,3] [0,200]) (Pa.rr [(0,0),(200,100)])) ?_;refine Pd ?_;cases h;exact Pt
 refine fF c1 <| Pl L 228 ?_;rcases Pc h with ⟨c2,h⟩ |⟨c2,h⟩
 ·refine tT c2 <| Pl L 233 <| Pl L 242 <| Pe (Pa.trans (Pa.kk [2,3] [0,200]) (Pa.rr [(0,0),(200,100)])) ?_;refine Pd ?_;cases h;exact Pt
 refine fF c2 <| Pg <| Pb ?_;obtain ⟨⟨a,b,c⟩,h2,h⟩:=bind_some h;dsimp only at h;refine rg L 248 [] [] [(3,(Pv (.tup [.I a,.B b]) [(0,.raw (Ae c))]))] (Pk (Bx.okE h2)) ?_;refine Pl L 258 <| Pe (Pa.trans (Pa.kk [2,3] [0,200]) (Pa.rr [(0,0),(200,100)])) ?_;refine Pd ?_;cases h;exact Pt
theorem Do.okE {K:Nat} {p0:Ab} {r:Aa×Bool×Ab} (h:Do K p0=some r):Pm V P 76 [.P 0] [(0,.raw (Ae p0))] [0] (.tup [.agg [.I r.1.Op,.str r.1.Name,.I r.1.Int,.str r.1.Text,.ro .Af r.1.Kids],.B r.2.1]) [(0,.raw [.ro .Am r.2.2.l,.I r.2.2.i])] :=
 eo (fn:=Tryz.f76) (n:=47) (m:=100) fun Γ=>Do.body h
def Co (K:Nat) (p0:Int) (p1:List Aa):Option Aa:=some (⟨p0,[],0,[],p1⟩:Aa)
theorem Co.body {Γ:P4} {K:Nat} {p0:Int} {p1:List Aa} {r:Aa} (h:Co K p0 p1=some r):P1 V P 8 100 Γ (Tryz.f75.body.getD .skip) (Po P V Tryz.f75 (.agg [.I r.Op,.str r.Name,.I r.Int,.str r.Text,.ro .Af r.Kids]) []) ⟨Pn 0 [.I p0,.cv (.ro .Af p1)],[]⟩:=by
 unfold Co at h;refine Pl L 200 <| Pl L 202 <| Pe (Pa.trans (Pa.kk [4] [200]) (Pa.rr [(200,100)])) ?_;refine Pd ?_;cases h;exact Pt
theorem Co.ok {K:Nat} {p0:Int} {p1:List Aa} {r:Aa} (h:Co K p0 p1=some r):Pr V P 75 [.I p0,.cv (.ro .Af p1)] (.agg [.I r.Op,.str r.Name,.I r.Int,.str r.Text,.ro .Af r.Kids]):=Pm.pcall (eo (fn:=Tryz.f75) (n:=8) (m:=100) fun Γ=>Co.body h) (by kernel_rfl)
def Ba.rep (p0:List UInt8) (p1:Ab):((List Aa)×Ab) ⊕ Int→Qo T
 |(Sum.inl (v0,v1))=>.ret (.cv (.ro .Af v0))
 |(Sum.inr v0)=>.pan (P8 49 v0)
def Ba.post (p0:List UInt8) (p1:Ab):((List Aa)×Ab) ⊕ Int→List (Nat×P0 T)
 |(Sum.inl (v0,v1))=>[(0,.raw [.ro .Am v1.l,.I v1.i])]
 |(Sum.inr v0)=>[]
def Bg.rep (p0:Int) (p1:List UInt8) (p2:Ab):(Aa×Ab) ⊕ Int→Qo T
 |(Sum.inl (v0,v1))=>.ret (.agg [.I v0.Op,.str v0.Name,.I v0.Int,.str v0.Text,.ro .Af v0.Kids])
 |(Sum.inr v0)=>.pan (P8 49 v0)
def Bg.post (p0:Int) (p1:List UInt8) (p2:Ab):(Aa×Ab) ⊕ Int→List (Nat×P0 T)
 |(Sum.inl (v0,v1))=>[(0,.raw [.ro .Am v1.l,.I v1.i])]
 |(Sum.inr v0)=>[]
def B1.rep (p0:Ab):Int ⊕ (Aa×Ab)→Qo T
 |(Sum.inl v0)=>.pan (P8 49 v0)
 |(Sum.inr (v0,v1))=>.ret (.agg [.I v0.Op,.str v0.Name,.I v0.Int,.str v0.Text,.ro .Af v0.Kids])
def B1.post (p0:Ab):Int ⊕ (Aa×Ab)→List (Nat×P0 T)
 |(Sum.inl v0)=>[]
 |(Sum.inr (v0,v1))=>[(0,.raw [.ro .Am v1.l,.I v1.i])]
def Bk.rep (p0:List UInt8) (p1:Ab):((List Aa)×Ab) ⊕ Int→Qo T
 |(Sum.inl (v0,v1))=>.ret (.cv (.ro .Af v0))
 |(Sum.inr v0)=>.pan (P8 49 v0)
def Bk.post (p0:List UInt8) (p1:Ab):((List Aa)×Ab) ⊕ Int→List (Nat×P0 T)
 |(Sum.inl (v0,v1))=>[(0,.raw [.ro .Am v1.l,.I v1.i])]
 |(Sum.inr v0)=>[]
def Bm.rep (p0:Ab):(Aa×Ab) ⊕ Int→Qo T
 |(Sum.inl (v0,v1))=>.ret (.agg [.I v0.Op,.str v0.Name,.I v0.Int,.str v0.Text,.ro .Af v0.Kids])
 |(Sum.inr v0)=>.pan (P8 49 v0)
def Bm.post (p0:Ab):(Aa×Ab) ⊕ Int→List (Nat×P0 T)
 |(Sum.inl (v0,v1))=>[(0,.raw [.ro .Am v1.l,.I v1.i])]
 |(Sum.inr v0)=>[]
def A6.rep (p0:Ab):Int ⊕ (Aa×Ab)→Qo T
 |(Sum.inl v0)=>.pan (P8 49 v0)
 |(Sum.inr (v0,v1))=>.ret (.agg [.I v0.Op,.str v0.Name,.I v0.Int,.str v0.Text,.ro .Af v0.Kids])
def A6.post (p0:Ab):Int ⊕ (Aa×Ab)→List (Nat×P0 T)
 |(Sum.inl v0)=>[]
 |(Sum.inr (v0,v1))=>[(0,.raw [.ro .Am v1.l,.I v1.i])]
def A4.rep (p0:Ab):Int ⊕ (Aa×Ab)→Qo T
 |(Sum.inl v0)=>.pan (P8 49 v0)
 |(Sum.inr (v0,v1))=>.ret (.agg [.I v0.Op,.str v0.Name,.I v0.Int,.str v0.Text,.ro .Af v0.Kids])
def A4.post (p0:Ab):Int ⊕ (Aa×Ab)→List (Nat×P0 T)
 |(Sum.inl v0)=>[]
 |(Sum.inr (v0,v1))=>[(0,.raw [.ro .Am v1.l,.I v1.i])]
def Bl.rep (p0:List (List UInt8)) (p1:List Int) (p2:Ab):Int ⊕ (Aa×Ab)→Qo T
 |(Sum.inl v0)=>.pan (P8 49 v0)
 |(Sum.inr (v0,v1))=>.ret (.agg [.I v0.Op,.str v0.Name,.I v0.Int,.str v0.Text,.ro .Af v0.Kids])
def Bl.post (p0:List (List UInt8)) (p1:List Int) (p2:Ab):Int ⊕ (Aa×Ab)→List (Nat×P0 T)
 |(Sum.inl v0)=>[]
 |(Sum.inr (v0,v1))=>[(0,.raw [.ro .Am v1.l,.I v1.i])]
def Bj.rep (p0:Ab):Int ⊕ (Aa×Ab)→Qo T
 |(Sum.inl v0)=>.pan (P8 49 v0)
 |(Sum.inr (v0,v1))=>.ret (.agg [.I v0.Op,.str v0.Name,.I v0.Int,.str v0.Text,.ro .Af v0.Kids])
def Bj.post (p0:Ab):Int ⊕ (Aa×Ab)→List (Nat×P0 T)
 |(Sum.inl v0)=>[]
 |(Sum.inr (v0,v1))=>[(0,.raw [.ro .Am v1.l,.I v1.i])]
def Bp.rep (p0:List (List UInt8)) (p1:List Int) (p2:Ab):Int ⊕ (Aa×Ab)→Qo T
 |(Sum.inl v0)=>.pan (P8 49 v0)
 |(Sum.inr (v0,v1))=>.ret (.agg [.I v0.Op,.str v0.Name,.I v0.Int,.str v0.Text,.ro .Af v0.Kids])
def Bp.post (p0:List (List UInt8)) (p1:List Int) (p2:Ab):Int ⊕ (Aa×Ab)→List (Nat×P0 T)
 |(Sum.inl v0)=>[]
 |(Sum.inr (v0,v1))=>[(0,.raw [.ro .Am v1.l,.I v1.i])]
def Bw.rep (p0:Ab):Int ⊕ (Aa×Ab)→Qo T
 |(Sum.inl v0)=>.pan (P8 49 v0)
 |(Sum.inr (v0,v1))=>.ret (.agg [.I v0.Op,.str v0.Name,.I v0.Int,.str v0.Text,.ro .Af v0.Kids])
def Bw.post (p0:Ab):Int ⊕ (Aa×Ab)→List (Nat×P0 T)
 |(Sum.inl v0)=>[]
 |(Sum.inr (v0,v1))=>[(0,.raw [.ro .Am v1.l,.I v1.i])]
def Bi.rep (p0:Ab):Int ⊕ (Aa×Ab)→Qo T
 |(Sum.inl v0)=>.pan (P8 49 v0)
 |(Sum.inr (v0,v1))=>.ret (.agg [.I v0.Op,.str v0.Name,.I v0.Int,.str v0.Text,.ro .Af v0.Kids])
def Bi.post (p0:Ab):Int ⊕ (Aa×Ab)→List (Nat×P0 T)
 |(Sum.inl v0)=>[]
 |(Sum.inr (v0,v1))=>[(0,.raw [.ro .Am v1.l,.I v1.i])]
def Bn.rep (p0:List (List UInt8)) (p1:List Int) (p2:Ab):Int ⊕ (Aa×Ab)→Qo T
 |(Sum.inl v0)=>.pan (P8 49 v0)
 |(Sum.inr (v0,v1))=>.ret (.agg [.I v0.Op,.str v0.Name,.I v0.Int,.str v0.Text,.ro .Af v0.Kids])
def Bn.post (p0:List (List UInt8)) (p1:List Int) (p2:Ab):Int ⊕ (Aa×Ab)→List (Nat×P0 T)
 |(Sum.inl v0)=>[]
 |(Sum.inr (v0,v1))=>[(0,.raw [.ro .Am v1.l,.I v1.i])]
def B6.rep (p0:Ab):Int ⊕ (Aa×Ab)→Qo T
 |(Sum.inl v0)=>.pan (P8 49 v0)
 |(Sum.inr (v0,v1))=>.ret (.agg [.I v0.Op,.str v0.Name,.I v0.Int,.str v0.Text,.ro .Af v0.Kids])
def B6.post (p0:Ab):Int ⊕ (Aa×Ab)→List (Nat×P0 T)
 |(Sum.inl v0)=>[]
 |(Sum.inr (v0,v1))=>[(0,.raw [.ro .Am v1.l,.I v1.i])]
def Bo.rep (p0:List (List UInt8)) (p1:List Int) (p2:Ab):Int ⊕ (Aa×Ab)→Qo T
 |(Sum.inl v0)=>.pan (P8 49 v0)
 |(Sum.inr (v0,v1))=>.ret (.agg [.I v0.Op,.str v0.Name,.I v0.Int,.str v0.Text,.ro .Af v0.Kids])
def Bo.post (p0:List (List UInt8)) (p1:List Int) (p2:Ab):Int ⊕ (Aa×Ab)→List (Nat×P0 T)
 |(Sum.inl v0)=>[]
 |(Sum.inr (v0,v1))=>[(0,.raw [.ro .Am v1.l,.I v1.i])]
def As.rep (p0:Ab):Int ⊕ (Aa×Ab)→Qo T
 |(Sum.inl v0)=>.pan (P8 49 v0)
 |(Sum.inr (v0,v1))=>.ret (.agg [.I v0.Op,.str v0.Name,.I v0.Int,.str v0.Text,.ro .Af v0.Kids])
def As.post (p0:Ab):Int ⊕ (Aa×Ab)→List (Nat×P0 T)
 |(Sum.inl v0)=>[]
 |(Sum.inr (v0,v1))=>[(0,.raw [.ro .Am v1.l,.I v1.i])]
structure Ag where
 Ba:(List UInt8)→Ab→Option (((List Aa)×Ab) ⊕ Int)
 Bg:Int→(List UInt8)→Ab→Option ((Aa×Ab) ⊕ Int)
 B1:Ab→Option (Int ⊕ (Aa×Ab))
 Bk:(List UInt8)→Ab→Option (((List Aa)×Ab) ⊕ Int)
 Bm:Ab→Option ((Aa×Ab) ⊕ Int)
 A6:Ab→Option (Int ⊕ (Aa×Ab))
 A4:Ab→Option (Int ⊕ (Aa×Ab))
 Bl:(List (List UInt8))→(List Int)→Ab→Option (Int ⊕ (Aa×Ab))
 Bj:Ab→Option (Int ⊕ (Aa×Ab))
 Bp:(List (List UInt8))→(List Int)→Ab→Option (Int ⊕ (Aa×Ab))
 Bw:Ab→Option (Int ⊕ (Aa×Ab))
 Bi:Ab→Option (Int ⊕ (Aa×Ab))
 Bn:(List (List UInt8))→(List Int)→Ab→Option (Int ⊕ (Aa×Ab))
 B6:Ab→Option (Int ⊕ (Aa×Ab))
 Bo:(List (List UInt8))→(List Int)→Ab→Option (Int ⊕ (Aa×Ab))
 As:Ab→Option (Int ⊕ (Aa×Ab))
structure Ag.Ok (R:Ag):Prop where
 Ba:∀ {p0:List UInt8} {p1:Ab} {r:((List Aa)×Ab) ⊕ Int},R.Ba p0 p1=some r→P7 V P 48 [.P 0,.cv (.str p0),.cv (.fn (.func 32) [.P 0] [])] [(0,.raw (Ae p1))] [0] (Ba.post p0 p1 r) (Ba.rep p0 p1 r)
 Bg:∀ {p0:Int} {p1:List UInt8} {p2:Ab} {r:(Aa×Ab) ⊕ Int},R.Bg p0 p1 p2=some r→P7 V P 106 [.P 0,.I p0,.cv (.str p1)] [(0,.raw (Ae p2))] [0] (Bg.post p0 p1 p2 r) (Bg.rep p0 p1 p2 r)
 B1:∀ {p0:Ab} {r:Int ⊕ (Aa×Ab)},R.B1 p0=some r→P7 V P 166 [.P 0] [(0,.raw (Ae p0))] [0] (B1.post p0 r) (B1.rep p0 r)
 Bk:∀ {p0:List UInt8} {p1:Ab} {r:((List Aa)×Ab) ⊕ Int},R.Bk p0 p1=some r→P7 V P 48 [.P 0,.cv (.str p0),.cv (.fn (.func 166) [.P 0] [])] [(0,.raw (Ae p1))] [0] (Bk.post p0 p1 r) (Bk.rep p0 p1 r)
 Bm:∀ {p0:Ab} {r:(Aa×Ab) ⊕ Int},R.Bm p0=some r→P7 V P 163 [.P 0] [(0,.raw (Ae p0))] [0] (Bm.post p0 r) (Bm.rep p0 r)
 A6:∀ {p0:Ab} {r:Int ⊕ (Aa×Ab)},R.A6 p0=some r→P7 V P 156 [.P 0] [(0,.raw (Ae p0))] [0] (A6.post p0 r) (A6.rep p0 r)
 A4:∀ {p0:Ab} {r:Int ⊕ (Aa×Ab)},R.A4 p0=some r→P7 V P 146 [.P 0] [(0,.raw (Ae p0))] [0] (A4.post p0 r) (A4.rep p0 r)
 Bl:∀ {p0:List (List UInt8)} {p1:List Int} {p2:Ab} {r:Int ⊕ (Aa×Ab)},R.Bl p0 p1 p2=some r→P7 V P 62 [.P 0,.cv (.fn (.func 146) [.P 0] []),.cv (.ro .C4 p0),.cv (.ro .E8 p1)] [(0,.raw (Ae p2))] [0] (Bl.post p0 p1 p2 r) (Bl.rep p0 p1 p2 r)
 Bj:∀ {p0:Ab} {r:Int ⊕ (Aa×Ab)},R.Bj p0=some r→P7 V P 137 [.P 0] [(0,.raw (Ae p0))] [0] (Bj.post p0 r) (Bj.rep p0 r)
 Bp:∀ {p0:List (List UInt8)} {p1:List Int} {p2:Ab} {r:Int ⊕ (Aa×Ab)},R.Bp p0 p1 p2=some r→P7 V P 62 [.P 0,.cv (.fn (.func 137) [.P 0] []),.cv (.ro .C4 p0),.cv (.ro .E8 p1)] [(0,.raw (Ae p2))] [0] (Bp.post p0 p1 p2 r) (Bp.rep p0 p1 p2 r)
 Bw:∀ {p0:Ab} {r:Int ⊕ (Aa×Ab)},R.Bw p0=some r→P7 V P 122 [.P 0] [(0,.raw (Ae p0))] [0] (Bw.post p0 r) (Bw.rep p0 r)
 Bi:∀ {p0:Ab} {r:Int ⊕ (Aa×Ab)},R.Bi p0=some r→P7 V P 93 [.P 0] [(0,.raw (Ae p0))] [0] (Bi.post p0 r) (Bi.rep p0 r)
 Bn:∀ {p0:List (List UInt8)} {p1:List Int} {p2:Ab} {r:Int ⊕ (Aa×Ab)},R.Bn p0 p1 p2=some r→P7 V P 62 [.P 0,.cv (.fn (.func 93) [.P 0] []),.cv (.ro .C4 p0),.cv (.ro .E8 p1)] [(0,.raw (Ae p2))] [0] (Bn.post p0 p1 p2 r) (Bn.rep p0 p1 p2 r)
 B6:∀ {p0:Ab} {r:Int ⊕ (Aa×Ab)},R.B6 p0=some r→P7 V P 63 [.P 0] [(0,.raw (Ae p0))] [0] (B6.post p0 r) (B6.rep p0 r)
 Bo:∀ {p0:List (List UInt8)} {p1:List Int} {p2:Ab} {r:Int ⊕ (Aa×Ab)},R.Bo p0 p1 p2=some r→P7 V P 62 [.P 0,.cv (.fn (.func 63) [.P 0] []),.cv (.ro .C4 p0),.cv (.ro .E8 p1)] [(0,.raw (Ae p2))] [0] (Bo.post p0 p1 p2 r) (Bo.rep p0 p1 p2 r)
 As:∀ {p0:Ab} {r:Int ⊕ (Aa×Ab)},R.As p0=some r→P7 V P 32 [.P 0] [(0,.raw (Ae p0))] [0] (As.post p0 r) (As.rep p0 r)
def Ba.l15 (K:Nat) (R:Ag):Nat→(List Ap)→Int→(List Aa)→Option (Pq (((List Aa)×Ab) ⊕ Int) ((List Ap)×Int×(List Aa)))
 | 0,_,_,_=>none
 | k+1,c,d,b=>(Option.bind (Ak K ([44]:List UInt8) (⟨c,d⟩:Ab)) (fun (g,e)=>(if g=true then (Option.bind (R.As e) (fun a4=>match a4 with |(Sum.inl a4)=>some (Pq.done (Sum.inr a4)) |(Sum.inr (a,f))=>(if (b.length+([(⟨a.Op,a.Name,a.Int,a.Text,a.Kids⟩:Aa)]:List Aa).length) * 72≤140737488355328 then Ba.l15 K R k f.l f.i (b++([(⟨a.Op,a.Name,a.Int,a.Text,a.Kids⟩:Aa)]:List Aa)) else none))) else some (Pq.go (e.l,e.i,b)))))
def Ba.F (K:Nat) (R:Ag) (p0:List UInt8) (p1:Ab):Option (((List Aa)×Ab) ⊕ Int):=(Option.bind (Ak K p0 p1) (fun (g,e)=>(if g=true then some (Sum.inl (([]:List Aa),e)) else (Option.bind (R.As e) (fun a2=>match a2 with |(Sum.inl a2)=>some (Sum.inr a2) |(Sum.inr (a,f))=>(obind (Ba.l15 K R K f.l f.i ([(⟨a.Op,a.Name,a.Int,a.Text,a.Kids⟩:Aa)]:List Aa):Option (Pq (((List Aa)×Ab) ⊕ Int) ((List Ap)×Int×(List Aa)))) (fun r=>r) (fun (b,c,d)=>(Option.bind (Ao K p0 (⟨b,c⟩:Ab)) (fun a5=>match a5 with |(Sum.inl a5)=>some (Sum.inl (d,a5)) |(Sum.inr a5)=>some (Sum.inr a5))))))))))
theorem Ba.body {Γ:P4} {K:Nat} {R:Ag} (hR:R.Ok) {p0:List UInt8} {p1:Ab} {r:((List Aa)×Ab) ⊕ Int} (h:Ba.F K R p0 p1=some r):P1 V P 25 100 Γ (Tryz.f48.body.getD .skip) (P9 P V Tryz.f48 (Ba.rep p0 p1 r) (Ba.post p0 p1 r)) ⟨Pn 0 [.P 0,.cv (.str p0),.cv (.fn (.func 32) [.P 0] [])],[(0,.raw (Ae p1))]⟩:=by
 unfold Ba.F at h;refine Pl L 200 <| Pb <| Pb ?_;obtain ⟨⟨p,q⟩,h1,h⟩:=bind_some h;dsimp only at h;refine rg L 202 [] [] [(2,(Pv (.B p) [(0,.raw (Ae q))]))] (Pk (Ak.okE h1)) ?_;rcases Pc h with ⟨c1,h⟩ |⟨c1,h⟩
 ·refine tt c1 <| Pl L 206 <| Pd ?_;cases h;exact Ra
 refine fN c1 <| Pg <| Pb ?_;obtain ⟨a2,h2,h⟩:=bind_some h;rcases a2 with a2 | a2
 ·dsimp only at h;refine qn L 100208 [] [] [] 1 (Pv (.tup []) []) (P8 49 a2) (Pk (hR.As h2)) ?_;cases h;exact rfl
 ·obtain ⟨j,o⟩:=a2;dsimp only at h;refine rg L 100208 [] [] [(1,(Pv (.agg (Ah j)) [(0,.raw (Ae o))]))] (Pk (hR.As h2)) ?_;refine Pb <| Pj <| Pe (Pa.trans (Pa.kk [0,1,2,7] [0,100210]) (Pa.rr [(0,0),(100210,23100)])) ?_;refine kp (S':=⟨[(0,.P 0),(1,.cv (.str p0)),(2,.cv (.fn (.func 32) [.P 0] [])),(7,.cv (.own .Af 23100))],[(0,.raw (Ae o)),(23100,.lst .Af ([(⟨j.Op,j.Name,j.Int,j.Text,j.Kids⟩:Aa)]:List Aa))]⟩) ?_;obtain ⟨o1,hp1,h⟩:=Px h;refine Pu (Q':=fun e S=>(e=.exit 0∧∃ g:List Ap,∃ i:Int,∃ l:List Aa,S=⟨[(0,.P 0),(1,.cv (.str p0)),(7,.cv (.own .Af 23000))],[(0,.raw [.ro .Am g,.I i]),(23000,.lst .Af l)]⟩∧Pq.go (g,i,l)=o1)∨((e=.ret∨∃ ch,e=.panic ch)∧∃ a,Pq.done a=o1∧P9 P V Tryz.f48 (Ba.rep p0 p1 a) (Ba.post p0 p1 a) e S)) (Pz (fun k S=>∃ d:List Ap,∃ f:Int,∃ c:List Aa,S=⟨[(0,.P 0),(1,.cv (.str p0)),(2,.cv (.fn (.func 32) [.P 0] [])),(7,.cv (.own .Af 23100))],[(0,.raw [.ro .Am d,.I f]),(23100,.lst .Af c)]⟩∧Ba.l15 K R k d f c=some o1) ?_ ⟨_,_,_,rfl,hp1⟩) ?_
  ·clear h hp1;intro k S hS;obtain ⟨d,f,c,rfl,h⟩:=hS;cases k with
   | zero=>cases h
   | succ k =>
   unfold Ba.l15 at h;refine Pb <| Pb ?_;obtain ⟨⟨s,m⟩,h3,h⟩:=bind_some h;dsimp only at h;refine rg L 213 [] [] [(1,(Pv (.B s) [(0,.raw (Ae m))]))] (Pk (Ak.okE h3)) ?_;rcases Pc h with ⟨c2,h⟩ |⟨c2,h⟩
   ·refine tt c2 <| Pg <| Pj ?_;obtain ⟨a4,h4,h⟩:=bind_some h;rcases a4 with a4 | a4
    ·dsimp only at h;refine qn L 216 [] [] [] 2 (Pv (.tup []) []) (P8 49 a4) (Pk (hR.As h4)) ?_;cases h;exact .inr ⟨.inr ⟨_,rfl⟩,_,rfl,rfl⟩
    ·obtain ⟨b,n⟩:=a4;dsimp only at h;obtain ⟨g1,h⟩:=Ph h;refine ar L 216 [] [] [(2,(Pv (.agg (Ah b)) [(0,.raw (Ae n))]))] (cs:=[Pm V P 32 [.P 0] [(0,.raw (Ae m))] [0] (.agg (Ah b)) [(0,.raw (Ae n))],(c.length+([(⟨b.Op,b.Name,b.Int,b.Text,b.Kids⟩:Aa)]:List Aa).length) * 72≤140737488355328,True]) (S':=⟨[(0,.P 0),(1,.cv (.str p0)),(2,.cv (.fn (.func 32) [.P 0] [])),(7,.cv (.own .Af 23100))],[(0,.raw (Ae n)),(23100,.lst .Af (c++([(⟨b.Op,b.Name,b.Int,b.Text,b.Kids⟩:Aa)]:List Aa)))]⟩) (And.intro (hR.As h4) (And.intro g1 trivial)) ?_;exact ⟨k,Nat.lt_succ_self k,_,_,_,rfl,h⟩
   refine fN c2 <| Pe (Pa.trans (Pa.kk [0,1,7] [0,23100]) (Pa.rr [(0,0),(23100,23000)])) ?_;refine ex (S':=⟨[(0,.P 0),(1,.cv (.str p0)),(7,.cv (.own .Af 23000))],[(0,.raw (Ae m)),(23000,.lst .Af c)]⟩) ?_;cases h;exact .inl ⟨rfl,_,_,_,rfl,rfl⟩
  ·rintro e S (⟨rfl,g,i,l,rfl,rfl⟩ |⟨he,a,rfl,hr⟩)
   ·rcases h with ⟨_,e1,h⟩ |⟨_,e1,h⟩
    ·cases e1
    ·have e2:=Pq.go.inj e1;subst e2;dsimp only at h;refine ⟨_,Pa.refl,?_⟩;refine Pb ?_;obtain ⟨a5,h5,h⟩:=bind_some h;rcases a5 with a5 | a5
     ·dsimp only at h;refine rg L 223 [] [] [(2,(Pv (.tup []) [(0,.raw (Ae a5))]))] (Pk (Ao.okE h5)) ?_;refine Pl L 227 <| Pe (Pa.trans (Pa.kk [6] [0,23000]) (Pa.fz 23000)) ?_;refine Pd ?_;cases h;exact Ra
     ·obtain ⟨a5,rfl⟩:∃ z,z=a5:=⟨_,rfl⟩
      dsimp only at h;refine qn L 223 [] [] [] 2 (Pv (.tup []) []) (P8 49 a5) (Pk (Ao.okE h5)) ?_;cases h;exact rfl
   ·rcases h with ⟨_,e1,h⟩ |⟨_,e1,h⟩
    ·have e2:=Pq.done.inj e1;subst e2;subst h;rcases he with rfl |⟨ch,rfl⟩
     ·exact ⟨_,Pa.refl,hr⟩
     ·exact ⟨_,Pa.refl,hr⟩
    ·cases e1
def Bg.F (K:Nat) (R:Ag) (p0:Int) (p1:List UInt8) (p2:Ab):Option ((Aa×Ab) ⊕ Int):=(Option.bind (Ao K ([40]:List UInt8) p2) (fun a1=>match a1 with |(Sum.inl a1)=>(Option.bind (R.Ba ([41]:List UInt8) a1) (fun a2=>match a2 with |(Sum.inl (a,b))=>some (Sum.inl ((⟨p0,p1,0,[],a⟩:Aa),b)) |(Sum.inr a2)=>some (Sum.inr a2))) |(Sum.inr a1)=>some (Sum.inr a1)))
theorem Bg.body {Γ:P4} {K:Nat} {R:Ag} (hR:R.Ok) {p0:Int} {p1:List UInt8} {p2:Ab} {r:(Aa×Ab) ⊕ Int} (h:Bg.F K R p0 p1 p2=some r):P1 V P 16 100 Γ (Tryz.f106.body.getD .skip) (P9 P V Tryz.f106 (Bg.rep p0 p1 p2 r) (Bg.post p0 p1 p2 r)) ⟨Pn 0 [.P 0,.I p0,.cv (.str p1)],[(0,.raw (Ae p2))]⟩:=by
 unfold Bg.F at h;refine Pl L 200 <| Pb ?_;obtain ⟨a1,h1,h⟩:=bind_some h;rcases a1 with a1 | a1
 ·dsimp only at h;refine rg L 202 [] [] [(1,(Pv (.tup []) [(0,.raw (Ae a1))]))] (Pk (Ao.okE h1)) ?_;refine Pb ?_;obtain ⟨a2,h2,h⟩:=bind_some h;rcases a2 with ⟨a,b⟩ | a2
  ·dsimp only at h;refine rg L 205 [] [] [(5,(Pv (.cv (.ro .Af a)) [(0,.raw (Ae b))]))] (Pk (hR.Ba h2)) ?_;refine Pe (Pa.trans (Pa.kk [6] [0,200]) (Pa.rr [(0,0),(200,100)])) ?_;refine Pd ?_;cases h;exact Ra
  ·obtain ⟨a2,rfl⟩:∃ z,z=a2:=⟨_,rfl⟩
   dsimp only at h;refine qn L 205 [] [] [] 5 (Pv (.tup []) []) (P8 49 a2) (Pk (hR.Ba h2)) ?_;cases h;exact rfl
 ·obtain ⟨a1,rfl⟩:∃ z,z=a1:=⟨_,rfl⟩
  dsimp only at h;refine qn L 202 [] [] [] 1 (Pv (.tup []) []) (P8 49 a1) (Pk (Ao.okE h1)) ?_;cases h;exact rfl
def B1.F (K:Nat) (R:Ag) (p0:Ab):Option (Int ⊕ (Aa×Ab)):=(Option.bind (Bq K p0) (fun a1=>(if a1.Kind≠4 then (Option.bind (Bf K p0) (fun a2=>some (Sum.inl a2))) else (Option.bind (Dr K p0) (fun (b,c)=>(Option.bind (Ao K ([58]:List UInt8) c) (fun a4=>match a4 with |(Sum.inl a4)=>(Option.bind (R.As a4) (fun a5=>match a5 with |(Sum.inl a5)=>some (Sum.inl a5) |(Sum.inr (a,d))=>some (Sum.inr ((⟨9,[],0,b.Text,([(⟨a.Op,a.Name,a.Int,a.Text,a.Kids⟩:Aa)]:List Aa)⟩:Aa),d)))) |(Sum.inr a4)=>some (Sum.inl a4))))))))
theorem B1.body {Γ:P4} {K:Nat} {R:Ag} (hR:R.Ok) {p0:Ab} {r:Int ⊕ (Aa×Ab)} (h:B1.F K R p0=some r):P1 V P 21 100 Γ (Tryz.f166.body.getD .skip) (P9 P V Tryz.f166 (B1.rep p0 r) (B1.post p0 r)) ⟨Pn 0 [.P 0],[(0,.raw (Ae p0))]⟩:=by
 unfold B1.F at h;refine Pl L 200 <| Pb <| Pb ?_;obtain ⟨a1,h1,h⟩:=bind_some h;refine rg L 202 [] [(1,.agg (D3 a1))] [] (Qu (Bq.ok h1)) ?_;rcases Pc h with ⟨c1,h⟩ |⟨c1,h⟩
 ·refine tT c1 ?_;obtain ⟨a2,h2,h⟩:=bind_some h;refine qn L 207 [] [] [] 1 (Pv (.tup []) []) (P8 49 a2) (Pk (Bf.okE h2)) ?_;cases h;exact rfl
 refine fF c1 <| Pg <| Pb ?_;obtain ⟨⟨a,b⟩,h3,h⟩:=bind_some h;dsimp only at h;refine rg L 210 [] [] [(1,(Pv (.agg (D3 a)) [(0,.raw (Ae b))]))] (Pk (Dr.okE h3)) ?_;refine Pb ?_;obtain ⟨a4,h4,h⟩:=bind_some h;rcases a4 with a4 | a4
 ·dsimp only at h;refine rg L 217 [] [] [(1,(Pv (.tup []) [(0,.raw (Ae a4))]))] (Pk (Ao.okE h4)) ?_;refine Pb ?_;obtain ⟨a5,h5,h⟩:=bind_some h;rcases a5 with a5 | a5
  ·dsimp only at h;refine qn L 220 [] [] [] 1 (Pv (.tup []) []) (P8 49 a5) (Pk (hR.As h5)) ?_;cases h;exact rfl
  ·obtain ⟨c,d⟩:=a5;dsimp only at h;refine rg L 220 [] [] [(1,(Pv (.agg (Ah c)) [(0,.raw (Ae d))]))] (Pk (hR.As h5)) ?_;refine Pl L 226 <| Pe (Pa.trans (Pa.kk [2] [0,200]) (Pa.rr [(0,0),(200,100)])) ?_;refine Pd ?_;cases h;exact Ra
 ·obtain ⟨a4,rfl⟩:∃ z,z=a4:=⟨_,rfl⟩
  dsimp only at h;refine qn L 217 [] [] [] 1 (Pv (.tup []) []) (P8 49 a4) (Pk (Ao.okE h4)) ?_;cases h;exact rfl
def Bk.l15 (K:Nat) (R:Ag):Nat→(List Ap)→Int→(List Aa)→Option (Pq (((List Aa)×Ab) ⊕ Int) ((List Ap)×Int×(List Aa)))
 | 0,_,_,_=>none
 | k+1,c,d,b=>(Option.bind (Ak K ([44]:List UInt8) (⟨c,d⟩:Ab)) (fun (g,e)=>(if g=true then (Option.bind (R.B1 e) (fun a4=>match a4 with |(Sum.inl a4)=>some (Pq.done (Sum.inr a4)) |(Sum.inr (a,f))=>(if (b.length+([(⟨a.Op,a.Name,a.Int,a.Text,a.Kids⟩:Aa)]:List Aa).length) * 72≤140737488355328 then Bk.l15 K R k f.l f.i (b++([(⟨a.Op,a.Name,a.Int,a.Text,a.Kids⟩:Aa)]:List Aa)) else none))) else some (Pq.go (e.l,e.i,b)))))
def Bk.F (K:Nat) (R:Ag) (p0:List UInt8) (p1:Ab):Option (((List Aa)×Ab) ⊕ Int):=(Option.bind (Ak K p0 p1) (fun (g,e)=>(if g=true then some (Sum.inl (([]:List Aa),e)) else (Option.bind (R.B1 e) (fun a2=>match a2 with |(Sum.inl a2)=>some (Sum.inr a2) |(Sum.inr (a,f))=>(obind (Bk.l15 K R K f.l f.i ([(⟨a.Op,a.Name,a.Int,a.Text,a.Kids⟩:Aa)]:List Aa):Option (Pq (((List Aa)×Ab) ⊕ Int) ((List Ap)×Int×(List Aa)))) (fun r=>r) (fun (b,c,d)=>(Option.bind (Ao K p0 (⟨b,c⟩:Ab)) (fun a5=>match a5 with |(Sum.inl a5)=>some (Sum.inl (d,a5)) |(Sum.inr a5)=>some (Sum.inr a5))))))))))
theorem Bk.body {Γ:P4} {K:Nat} {R:Ag} (hR:R.Ok) {p0:List UInt8} {p1:Ab} {r:((List Aa)×Ab) ⊕ Int} (h:Bk.F K R p0 p1=some r):P1 V P 25 100 Γ (Tryz.f48.body.getD .skip) (P9 P V Tryz.f48 (Bk.rep p0 p1 r) (Bk.post p0 p1 r)) ⟨Pn 0 [.P 0,.cv (.str p0),.cv (.fn (.func 166) [.P 0] [])],[(0,.raw (Ae p1))]⟩:=by
 unfold Bk.F at h;refine Pl L 200 <| Pb <| Pb ?_;obtain ⟨⟨p,q⟩,h1,h⟩:=bind_some h;dsimp only at h;refine rg L 202 [] [] [(2,(Pv (.B p) [(0,.raw (Ae q))]))] (Pk (Ak.okE h1)) ?_;rcases Pc h with ⟨c1,h⟩ |⟨c1,h⟩
 ·refine tt c1 <| Pl L 206 <| Pd ?_;cases h;exact Ra
 refine fN c1 <| Pg <| Pb ?_;obtain ⟨a2,h2,h⟩:=bind_some h;rcases a2 with a2 | a2
 ·dsimp only at h;refine qn L 100208 [] [] [] 1 (Pv (.tup []) []) (P8 49 a2) (Pk (hR.B1 h2)) ?_;cases h;exact rfl
 ·obtain ⟨j,o⟩:=a2;dsimp only at h;refine rg L 100208 [] [] [(1,(Pv (.agg (Ah j)) [(0,.raw (Ae o))]))] (Pk (hR.B1 h2)) ?_;refine Pb <| Pj <| Pe (Pa.trans (Pa.kk [0,1,2,7] [0,100210]) (Pa.rr [(0,0),(100210,23100)])) ?_;refine kp (S':=⟨[(0,.P 0),(1,.cv (.str p0)),(2,.cv (.fn (.func 166) [.P 0] [])),(7,.cv (.own .Af 23100))],[(0,.raw (Ae o)),(23100,.lst .Af ([(⟨j.Op,j.Name,j.Int,j.Text,j.Kids⟩:Aa)]:List Aa))]⟩) ?_;obtain ⟨o1,hp1,h⟩:=Px h;refine Pu (Q':=fun e S=>(e=.exit 0∧∃ g:List Ap,∃ i:Int,∃ l:List Aa,S=⟨[(0,.P 0),(1,.cv (.str p0)),(7,.cv (.own .Af 23000))],[(0,.raw [.ro .Am g,.I i]),(23000,.lst .Af l)]⟩∧Pq.go (g,i,l)=o1)∨((e=.ret∨∃ ch,e=.panic ch)∧∃ a,Pq.done a=o1∧P9 P V Tryz.f48 (Bk.rep p0 p1 a) (Bk.post p0 p1 a) e S)) (Pz (fun k S=>∃ d:List Ap,∃ f:Int,∃ c:List Aa,S=⟨[(0,.P 0),(1,.cv (.str p0)),(2,.cv (.fn (.func 166) [.P 0] [])),(7,.cv (.own .Af 23100))],[(0,.raw [.ro .Am d,.I f]),(23100,.lst .Af c)]⟩∧Bk.l15 K R k d f c=some o1) ?_ ⟨_,_,_,rfl,hp1⟩) ?_
  ·clear h hp1;intro k S hS;obtain ⟨d,f,c,rfl,h⟩:=hS;cases k with
   | zero=>cases h
   | succ k =>
   unfold Bk.l15 at h;refine Pb <| Pb ?_;obtain ⟨⟨s,m⟩,h3,h⟩:=bind_some h;dsimp only at h;refine rg L 213 [] [] [(1,(Pv (.B s) [(0,.raw (Ae m))]))] (Pk (Ak.okE h3)) ?_;rcases Pc h with ⟨c2,h⟩ |⟨c2,h⟩
   ·refine tt c2 <| Pg <| Pj ?_;obtain ⟨a4,h4,h⟩:=bind_some h;rcases a4 with a4 | a4
    ·dsimp only at h;refine qn L 216 [] [] [] 2 (Pv (.tup []) []) (P8 49 a4) (Pk (hR.B1 h4)) ?_;cases h;exact .inr ⟨.inr ⟨_,rfl⟩,_,rfl,rfl⟩
    ·obtain ⟨b,n⟩:=a4;dsimp only at h;obtain ⟨g1,h⟩:=Ph h;refine ar L 216 [] [] [(2,(Pv (.agg (Ah b)) [(0,.raw (Ae n))]))] (cs:=[Pm V P 166 [.P 0] [(0,.raw (Ae m))] [0] (.agg (Ah b)) [(0,.raw (Ae n))],(c.length+([(⟨b.Op,b.Name,b.Int,b.Text,b.Kids⟩:Aa)]:List Aa).length) * 72≤140737488355328,True]) (S':=⟨[(0,.P 0),(1,.cv (.str p0)),(2,.cv (.fn (.func 166) [.P 0] [])),(7,.cv (.own .Af 23100))],[(0,.raw (Ae n)),(23100,.lst .Af (c++([(⟨b.Op,b.Name,b.Int,b.Text,b.Kids⟩:Aa)]:List Aa)))]⟩) (And.intro (hR.B1 h4) (And.intro g1 trivial)) ?_;exact ⟨k,Nat.lt_succ_self k,_,_,_,rfl,h⟩
   refine fN c2 <| Pe (Pa.trans (Pa.kk [0,1,7] [0,23100]) (Pa.rr [(0,0),(23100,23000)])) ?_;refine ex (S':=⟨[(0,.P 0),(1,.cv (.str p0)),(7,.cv (.own .Af 23000))],[(0,.raw (Ae m)),(23000,.lst .Af c)]⟩) ?_;cases h;exact .inl ⟨rfl,_,_,_,rfl,rfl⟩
  ·rintro e S (⟨rfl,g,i,l,rfl,rfl⟩ |⟨he,a,rfl,hr⟩)
   ·rcases h with ⟨_,e1,h⟩ |⟨_,e1,h⟩
    ·cases e1
    ·have e2:=Pq.go.inj e1;subst e2;dsimp only at h;refine ⟨_,Pa.refl,?_⟩;refine Pb ?_;obtain ⟨a5,h5,h⟩:=bind_some h;rcases a5 with a5 | a5
     ·dsimp only at h;refine rg L 223 [] [] [(2,(Pv (.tup []) [(0,.raw (Ae a5))]))] (Pk (Ao.okE h5)) ?_;refine Pl L 227 <| Pe (Pa.trans (Pa.kk [6] [0,23000]) (Pa.fz 23000)) ?_;refine Pd ?_;cases h;exact Ra
     ·obtain ⟨a5,rfl⟩:∃ z,z=a5:=⟨_,rfl⟩
      dsimp only at h;refine qn L 223 [] [] [] 2 (Pv (.tup []) []) (P8 49 a5) (Pk (Ao.okE h5)) ?_;cases h;exact rfl
   ·rcases h with ⟨_,e1,h⟩ |⟨_,e1,h⟩
    ·have e2:=Pq.done.inj e1;subst e2;subst h;rcases he with rfl |⟨ch,rfl⟩
     ·exact ⟨_,Pa.refl,hr⟩
     ·exact ⟨_,Pa.refl,hr⟩
    ·cases e1
def Bm.F (K:Nat) (R:Ag) (p0:Ab):Option ((Aa×Ab) ⊕ Int):=(Option.bind (Do K p0) (fun (h,i,a)=>(if i=true then some (Sum.inl (h,a)) else (Option.bind (Bq K a) (fun a2=>(if a2.Kind=1 then (Option.bind (Au K a) (fun a3=>match a3 with |(Sum.inl a3)=>some (Sum.inr a3) |(Sum.inr (c,b))=>(Option.bind (Dy K b ([40]:List UInt8)) (fun a4=>(if a4=true then (Option.bind (R.Bg 10 c b) (fun a5=>match a5 with |(Sum.inl (j,k))=>some (Sum.inl (j,k)) |(Sum.inr a5)=>some (Sum.inr a5))) else some (Sum.inl ((⟨6,c,0,[],([]:List Aa)⟩:Aa),b))))))) else (Option.bind (Ak K ([91]:List UInt8) a) (fun (l,d)=>(if l=true then (Option.bind (R.Ba ([93]:List UInt8) d) (fun a7=>match a7 with |(Sum.inl (m,n))=>some (Sum.inl ((⟨7,[],0,[],m⟩:Aa),n)) |(Sum.inr a7)=>some (Sum.inr a7))) else (Option.bind (Ak K ([123]:List UInt8) d) (fun (o,e)=>(if o=true then (Option.bind (R.Bk ([125]:List UInt8) e) (fun a9=>match a9 with |(Sum.inl (p,q))=>some (Sum.inl ((⟨8,[],0,[],p⟩:Aa),q)) |(Sum.inr a9)=>some (Sum.inr a9))) else (Option.bind (Ao K ([40]:List UInt8) e) (fun a10=>match a10 with |(Sum.inl a10)=>(Option.bind (R.As a10) (fun a11=>match a11 with |(Sum.inl a11)=>some (Sum.inr a11) |(Sum.inr (f,g))=>(Option.bind (Ao K ([41]:List UInt8) g) (fun a12=>match a12 with |(Sum.inl a12)=>some (Sum.inl (f,a12)) |(Sum.inr a12)=>some (Sum.inr a12))))) |(Sum.inr a10)=>some (Sum.inr a10)))))))))))))))
theorem Bm.body {Γ:P4} {K:Nat} {R:Ag} (hR:R.Ok) {p0:Ab} {r:(Aa×Ab) ⊕ Int} (h:Bm.F K R p0=some r):P1 V P 51 100 Γ (Tryz.f163.body.getD .skip) (P9 P V Tryz.f163 (Bm.rep p0 r) (Bm.post p0 r)) ⟨Pn 0 [.P 0],[(0,.raw (Ae p0))]⟩:=by
 unfold Bm.F at h;refine Pl L 200 <| Pb <| Pb ?_;obtain ⟨⟨c,d,e⟩,h1,h⟩:=bind_some h;dsimp only at h;refine rg L 202 [] [] [(1,(Pv (.tup [.agg (Ah c),.B d]) [(0,.raw (Ae e))]))] (Pk (Do.okE h1)) ?_;refine Pl L 211 ?_;rcases Pc h with ⟨c1,h⟩ |⟨c1,h⟩
 ·refine tt c1 <| Pl L 213 <| Pe (Pa.trans (Pa.kk [2] [0,200]) (Pa.rr [(0,0),(200,100)])) ?_;refine Pd ?_;cases h;exact Ra
 refine fN c1 <| Pg <| Pb <| Pj <| Pb ?_;obtain ⟨a2,h2,h⟩:=bind_some h;refine rg L 216 [] [(1,.agg (D3 a2))] [] (Qu (Bq.ok h2)) ?_;rcases Pc h with ⟨c2,h⟩ |⟨c2,h⟩
 ·refine tT c2 <| Pb ?_;obtain ⟨a3,h3,h⟩:=bind_some h;rcases a3 with a3 | a3
  ·dsimp only at h;refine qn L 222 [] [] [] 1 (Pv (.tup []) []) (P8 49 a3) (Pk (Au.okE h3)) ?_;cases h;exact rfl
  ·obtain ⟨f,g⟩:=a3;dsimp only at h;refine rg L 222 [] [] [(1,(Pv (.cv (.str f)) [(0,.raw (Ae g))]))] (Pk (Au.okE h3)) ?_;refine Pb <| Pb ?_;obtain ⟨a4,h4,h⟩:=bind_some h;refine rg L 226 [] [(1,.B a4)] [] (Qu (Dy.ok h4)) ?_;rcases Pc h with ⟨c3,h⟩ |⟨c3,h⟩
   ·refine tt c3 <| Pb ?_;obtain ⟨a5,h5,h⟩:=bind_some h;rcases a5 with ⟨i,j⟩ | a5
    ·dsimp only at h;refine rg L 229 [] [] [(2,(Pv (.agg (Ah i)) [(0,.raw (Ae j))]))] (Pk (hR.Bg h5)) ?_;refine Pe (Pa.trans (Pa.kk [2] [0,200]) (Pa.rr [(0,0),(200,100)])) ?_;refine Pd ?_;cases h;exact Ra
    ·obtain ⟨a5,rfl⟩:∃ z,z=a5:=⟨_,rfl⟩
     dsimp only at h;refine qn L 229 [] [] [] 2 (Pv (.tup []) []) (P8 49 a5) (Pk (hR.Bg h5)) ?_;cases h;exact rfl
   refine fN c3 <| Pg <| Pl L 234 <| Pe (Pa.trans (Pa.kk [2] [0,200]) (Pa.rr [(0,0),(200,100)])) ?_;refine Pd ?_;cases h;exact Ra
 refine fF c2 <| Pb ?_;obtain ⟨⟨k,l⟩,h6,h⟩:=bind_some h;dsimp only at h;refine rg L 238 [] [] [(1,(Pv (.B k) [(0,.raw (Ae l))]))] (Pk (Ak.okE h6)) ?_;rcases Pc h with ⟨c4,h⟩ |⟨c4,h⟩
 ·refine tt c4 <| Pb ?_;obtain ⟨a7,h7,h⟩:=bind_some h;rcases a7 with ⟨m,n⟩ | a7
  ·dsimp only at h;refine rg L 242 [] [] [(3,(Pv (.cv (.ro .Af m)) [(0,.raw (Ae n))]))] (Pk (hR.Ba h7)) ?_;refine Pe (Pa.trans (Pa.kk [2] [0,200]) (Pa.rr [(0,0),(200,100)])) ?_;refine Pd ?_;cases h;exact Ra
  ·obtain ⟨a7,rfl⟩:∃ z,z=a7:=⟨_,rfl⟩
   dsimp only at h;refine qn L 242 [] [] [] 3 (Pv (.tup []) []) (P8 49 a7) (Pk (hR.Ba h7)) ?_;cases h;exact rfl
 refine fN c4 <| Pb ?_;obtain ⟨⟨o,p⟩,h8,h⟩:=bind_some h;dsimp only at h;refine rg L 249 [] [] [(1,(Pv (.B o) [(0,.raw (Ae p))]))] (Pk (Ak.okE h8)) ?_;rcases Pc h with ⟨c5,h⟩ |⟨c5,h⟩
 ·refine tt c5 <| Pb ?_;obtain ⟨a9,h9,h⟩:=bind_some h;rcases a9 with ⟨q,s⟩ | a9
  ·dsimp only at h;refine rg L 253 [] [] [(3,(Pv (.cv (.ro .Af q)) [(0,.raw (Ae s))]))] (Pk (hR.Bk h9)) ?_;refine Pe (Pa.trans (Pa.kk [2] [0,200]) (Pa.rr [(0,0),(200,100)])) ?_;refine Pd ?_;cases h;exact Ra
  ·obtain ⟨a9,rfl⟩:∃ z,z=a9:=⟨_,rfl⟩
   dsimp only at h;refine qn L 253 [] [] [] 3 (Pv (.tup []) []) (P8 49 a9) (Pk (hR.Bk h9)) ?_;cases h;exact rfl
 refine fN c5 <| Pg <| Pb ?_;obtain ⟨a10,h10,h⟩:=bind_some h;rcases a10 with a10 | a10
 ·dsimp only at h;refine rg L 260 [] [] [(1,(Pv (.tup []) [(0,.raw (Ae a10))]))] (Pk (Ao.okE h10)) ?_;refine Pb ?_;obtain ⟨a11,h11,h⟩:=bind_some h;rcases a11 with a11 | a11
  ·dsimp only at h;refine qn L 263 [] [] [] 1 (Pv (.tup []) []) (P8 49 a11) (Pk (hR.As h11)) ?_;cases h;exact rfl
  ·obtain ⟨a,b⟩:=a11;dsimp only at h;refine rg L 263 [] [] [(1,(Pv (.agg (Ah a)) [(0,.raw (Ae b))]))] (Pk (hR.As h11)) ?_;refine Pb ?_;obtain ⟨a12,h12,h⟩:=bind_some h;rcases a12 with a12 | a12
   ·dsimp only at h;refine rg L 268 [] [] [(1,(Pv (.tup []) [(0,.raw (Ae a12))]))] (Pk (Ao.okE h12)) ?_;refine Pl L 271 <| Pe (Pa.trans (Pa.kk [2] [0,200]) (Pa.rr [(0,0),(200,100)])) ?_;refine Pd ?_;cases h;exact Ra
   ·obtain ⟨a12,rfl⟩:∃ z,z=a12:=⟨_,rfl⟩
    dsimp only at h;refine qn L 268 [] [] [] 1 (Pv (.tup []) []) (P8 49 a12) (Pk (Ao.okE h12)) ?_;cases h;exact rfl
 ·obtain ⟨a10,rfl⟩:∃ z,z=a10:=⟨_,rfl⟩
  dsimp only at h;refine qn L 260 [] [] [] 1 (Pv (.tup []) []) (P8 49 a10) (Pk (Ao.okE h10)) ?_;cases h;exact rfl
def A6.l6 (K:Nat) (R:Ag):Nat→(List Ap)→Int→Int→(List UInt8)→Int→(List UInt8)→(List Aa)→Option (Pq (Int ⊕ (Aa×Ab)) Unit)
 | 0,_,_,_,_,_,_,_=>none
 | k+1,g,h,a,b,c,d,e=>(Option.bind (Ak K ([46]:List UInt8) (⟨g,h⟩:Ab)) (fun (o,j)=>(if o=true then (Option.bind (Au K j) (fun a3=>match a3 with |(Sum.inl a3)=>some (Pq.done (Sum.inl a3)) |(Sum.inr (p,m))=>A6.l6 K R k m.l m.i 29 p 0 [] ([(⟨a,b,c,d,e⟩:Aa)]:List Aa))) else (Option.bind (Ak K ([91]:List UInt8) j) (fun (q,n)=>(if q=true then (Option.bind (R.As n) (fun a5=>match a5 with |(Sum.inl a5)=>some (Pq.done (Sum.inl a5)) |(Sum.inr (f,r))=>(Option.bind (Co K 28 ([(⟨a,b,c,d,e⟩:Aa),(⟨f.Op,f.Name,f.Int,f.Text,f.Kids⟩:Aa)]:List Aa)) (fun a6=>(Option.bind (Ao K ([93]:List UInt8) r) (fun a7=>match a7 with |(Sum.inl a7)=>A6.l6 K R k a7.l a7.i a6.Op a6.Name a6.Int a6.Text a6.Kids |(Sum.inr a7)=>some (Pq.done (Sum.inl a7)))))))) else some (Pq.done (Sum.inr ((⟨a,b,c,d,e⟩:Aa),n)))))))))
def A6.F (K:Nat) (R:Ag) (p0:Ab):Option (Int ⊕ (Aa×Ab)):=(Option.bind (R.Bm p0) (fun a1=>match a1 with |(Sum.inl (a,b))=>(obind (A6.l6 K R K b.l b.i a.Op a.Name a.Int a.Text a.Kids:Option (Pq (Int ⊕ (Aa×Ab)) Unit)) (fun r=>r) (fun _=>none)) |(Sum.inr a1)=>some (Sum.inl a1)))
theorem A6.body {Γ:P4} {K:Nat} {R:Ag} (hR:R.Ok) {p0:Ab} {r:Int ⊕ (Aa×Ab)} (h:A6.F K R p0=some r):P1 V P 25 100 Γ (Tryz.f156.body.getD .skip) (P9 P V Tryz.f156 (A6.rep p0 r) (A6.post p0 r)) ⟨Pn 0 [.P 0],[(0,.raw (Ae p0))]⟩:=by
 unfold A6.F at h;refine Pl L 200 <| Pb ?_;obtain ⟨a1,h1,h⟩:=bind_some h;rcases a1 with ⟨m,n⟩ | a1
 ·dsimp only at h;refine rg L 202 [] [] [(1,(Pv (.agg (Ah m)) [(0,.raw (Ae n))]))] (Pk (hR.Bm h1)) ?_;refine Pj <| Pe (Pa.trans (Pa.kk [0,2,3] [0,200,204]) (Pa.rr [(0,0),(200,21300),(204,21301)])) ?_;refine kp (S':=⟨[(0,.P 0),(2,.P 21300),(3,.P 21301)],[(0,.raw (Ae n)),(21300,.raw [.I 0,.str [],.I 0,.str [],.N]),(21301,.raw (Ah m))]⟩) ?_;obtain ⟨o1,hp1,h⟩:=Px h;refine Pu (Q':=fun e S=>False∨((e=.ret∨∃ ch,e=.panic ch)∧∃ a,Pq.done a=o1∧P9 P V Tryz.f156 (A6.rep p0 a) (A6.post p0 a) e S)) (Pz (fun k S=>∃ i:List Ap,∃ j:Int,∃ b:Int,∃ c:List UInt8,∃ d:Int,∃ f:List UInt8,∃ g:List Aa,S=⟨[(0,.P 0),(2,.P 21300),(3,.P 21301)],[(0,.raw [.ro .Am i,.I j]),(21300,.raw [.I 0,.str [],.I 0,.str [],.N]),(21301,.raw [.I b,.str c,.I d,.str f,.ro .Af g])]⟩∧A6.l6 K R k i j b c d f g=some o1) ?_ ⟨_,_,_,_,_,_,_,rfl,hp1⟩) ?_
  ·clear h hp1;intro k S hS;obtain ⟨i,j,b,c,d,f,g,rfl,h⟩:=hS;cases k with
   | zero=>cases h
   | succ k =>
   unfold A6.l6 at h;refine Pj <| Pj <| Pb ?_;obtain ⟨⟨q,s⟩,h2,h⟩:=bind_some h;dsimp only at h;refine rg L 207 [] [] [(1,(Pv (.B q) [(0,.raw (Ae s))]))] (Pk (Ak.okE h2)) ?_;rcases Pc h with ⟨c1,h⟩ |⟨c1,h⟩
   ·refine tt c1 ?_;obtain ⟨a3,h3,h⟩:=bind_some h;rcases a3 with a3 | a3
    ·dsimp only at h;refine qP L mixed 211 [] [] [] [0] 1 (Pv (.tup []) []) (P8 49 a3) (Pf (Au.okE h3) (Pf (Au.okE h3) (Pk (Au.okE h3)))) ?_;cases h;exact .inr ⟨.inr ⟨_,rfl⟩,_,rfl,rfl⟩
    ·obtain ⟨o,p⟩:=a3;dsimp only at h;refine hB L mixed 211 [] [] [(1,(Pv (.cv (.str o)) [(0,.raw (Ae p))]))] [0] 3 (Pf (Au.okE h3) (Pf (Au.okE h3) (Pk (Au.okE h3)))) (S':=⟨[(0,.P 0),(2,.P 21300),(3,.P 21301)],[(0,.raw (Ae p)),(21300,.raw [.I 0,.str [],.I 0,.str [],.N]),(21301,.raw [.I 29,.str o,.I 0,.str [],.ro .Af ([(⟨b,c,d,f,g⟩:Aa)]:List Aa)])]⟩) ?_;exact ⟨k,Nat.lt_succ_self k,_,_,_,_,_,_,_,rfl,h⟩
   refine fN c1 <| Pb ?_;obtain ⟨⟨t,u⟩,h4,h⟩:=bind_some h;dsimp only at h;refine rg L 218 [] [] [(1,(Pv (.B t) [(0,.raw (Ae u))]))] (Pk (Ak.okE h4)) ?_;rcases Pc h with ⟨c2,h⟩ |⟨c2,h⟩
   ·refine tt c2 <| Pb ?_;obtain ⟨a5,h5,h⟩:=bind_some h;rcases a5 with a5 | a5
    ·dsimp only at h;refine qP L mixed 222 [] [] [] [1] 2 (Pv (.tup []) []) (P8 49 a5) (Q2 (hR.As h5) (hR.As h5)) ?_;cases h;exact .inr ⟨.inr ⟨_,rfl⟩,_,rfl,rfl⟩
    ·obtain ⟨v,l⟩:=a5;dsimp only at h;obtain ⟨a6,h6,h⟩:=bind_some h;refine hB L mixed 222 [] [(4,.agg (Ah a6))] [(2,(Pv (.agg (Ah v)) [(0,.raw (Ae l))]))] [1] 2 (Pf (hR.As h5) (Pf (Co.ok h6) (Pf trivial (Pf (hR.As h5) (Pf (Co.ok h6) (Pk trivial)))))) (S':=⟨[(0,.P 0),(2,.P 21300),(3,.P 21301)],[(0,.raw (Ae l)),(21300,.raw [.I 0,.str [],.I 0,.str [],.N]),(21301,.raw (Ah a6))]⟩) ?_;obtain ⟨a7,h7,h⟩:=bind_some h;rcases a7 with a7 | a7
     ·dsimp only at h;refine ar L 229 [] [] [(1,(Pv (.tup []) [(0,.raw (Ae a7))]))] (cs:=[Pm V P 46 [.P 0,.cv (.str ([93]:List UInt8))] [(0,.raw (Ae l))] [0] (.tup []) [(0,.raw (Ae a7))]]) (S':=⟨[(0,.P 0),(2,.P 21300),(3,.P 21301)],[(0,.raw (Ae a7)),(21300,.raw [.I 0,.str [],.I 0,.str [],.N]),(21301,.raw (Ah a6))]⟩) (Ao.okE h7) ?_;exact ⟨k,Nat.lt_succ_self k,_,_,_,_,_,_,_,rfl,h⟩
     ·obtain ⟨a7,rfl⟩:∃ z,z=a7:=⟨_,rfl⟩
      dsimp only at h;refine qn L 229 [] [] [] 1 (Pv (.tup []) []) (P8 49 a7) (Pk (Ao.okE h7)) ?_;cases h;exact .inr ⟨.inr ⟨_,rfl⟩,_,rfl,rfl⟩
   refine fN c2 <| Pl L 232 <| Pe (Pa.trans (Pa.kk [2] [0,21300]) (Pa.rr [(0,0),(21300,100)])) ?_;refine Pd ?_;cases h;exact .inr ⟨.inl rfl,_,rfl,Ra⟩
  ·rintro e S (hf |⟨he,a,rfl,hr⟩)
   ·exact hf.elim
   ·rcases h with ⟨_,e1,h⟩ |⟨_,e1,h⟩
    ·have e2:=Pq.done.inj e1;subst e2;subst h;rcases he with rfl |⟨ch,rfl⟩
     ·exact ⟨_,Pa.refl,hr⟩
     ·exact ⟨_,Pa.refl,hr⟩
    ·cases e1
 ·obtain ⟨a1,rfl⟩:∃ z,z=a1:=⟨_,rfl⟩
  dsimp only at h;refine qn L 202 [] [] [] 1 (Pv (.tup []) []) (P8 49 a1) (Pk (hR.Bm h1)) ?_;cases h;exact rfl
def A4.F (K:Nat) (R:Ag) (p0:Ab):Option (Int ⊕ (Aa×Ab)):=(Option.bind (Ak K ([45]:List UInt8) p0) (fun (h,c)=>(if h=true then (Option.bind (R.A4 c) (fun a2=>match a2 with |(Sum.inl a2)=>some (Sum.inl a2) |(Sum.inr (a,i))=>(Option.bind (Co K 14 ([(⟨a.Op,a.Name,a.Int,a.Text,a.Kids⟩:Aa)]:List Aa)) (fun a3=>some (Sum.inr (a3,i)))))) else (Option.bind (Ak K ([97,119,97,105,116]:List UInt8) c) (fun (j,d)=>(if j=true then (Option.bind (R.A4 d) (fun a5=>match a5 with |(Sum.inl a5)=>some (Sum.inl a5) |(Sum.inr (b,k))=>(Option.bind (Co K 12 ([(⟨b.Op,b.Name,b.Int,b.Text,b.Kids⟩:Aa)]:List Aa)) (fun a6=>some (Sum.inr (a6,k)))))) else (Option.bind (Ak K ([103,111]:List UInt8) d) (fun (l,e)=>(if l=true then (Option.bind (Au K e) (fun a8=>match a8 with |(Sum.inl a8)=>some (Sum.inl a8) |(Sum.inr (m,n))=>(Option.bind (R.Bg 11 m n) (fun a9=>match a9 with |(Sum.inl (o,p))=>some (Sum.inr (o,p)) |(Sum.inr a9)=>some (Sum.inl a9))))) else (Option.bind (R.A6 e) (fun a10=>match a10 with |(Sum.inl a10)=>some (Sum.inl a10) |(Sum.inr (f,g))=>some (Sum.inr (f,g)))))))))))))
theorem A4.body {Γ:P4} {K:Nat} {R:Ag} (hR:R.Ok) {p0:Ab} {r:Int ⊕ (Aa×Ab)} (h:A4.F K R p0=some r):P1 V P 26 100 Γ (Tryz.f146.body.getD .skip) (P9 P V Tryz.f146 (A4.rep p0 r) (A4.post p0 r)) ⟨Pn 0 [.P 0],[(0,.raw (Ae p0))]⟩:=by
 unfold A4.F at h;refine Pl L 200 <| Pb <| Pj <| Pb ?_;obtain ⟨⟨e,f⟩,h1,h⟩:=bind_some h;dsimp only at h;refine rg L 202 [] [] [(1,(Pv (.B e) [(0,.raw (Ae f))]))] (Pk (Ak.okE h1)) ?_;rcases Pc h with ⟨c1,h⟩ |⟨c1,h⟩
 ·refine tt c1 <| Pb ?_;obtain ⟨a2,h2,h⟩:=bind_some h;rcases a2 with a2 | a2
  ·dsimp only at h;refine qn L 206 [] [] [] 1 (Pv (.tup []) []) (P8 49 a2) (Pk (hR.A4 h2)) ?_;cases h;exact rfl
  ·obtain ⟨g,i⟩:=a2;dsimp only at h;obtain ⟨a3,h3,h⟩:=bind_some h;refine rg L 206 [] [(3,.agg (Ah a3))] [(1,(Pv (.agg (Ah g)) [(0,.raw (Ae i))]))] (Pf (hR.A4 h2) (Pf (Co.ok h3) (Pk trivial))) ?_;refine Pe (Pa.trans (Pa.kk [2] [0,200]) (Pa.rr [(0,0),(200,100)])) ?_;refine Pd ?_;cases h;exact Ra
 refine fN c1 <| Pb ?_;obtain ⟨⟨j,k⟩,h4,h⟩:=bind_some h;dsimp only at h;refine rg L 212 [] [] [(1,(Pv (.B j) [(0,.raw (Ae k))]))] (Pk (Ak.okE h4)) ?_;rcases Pc h with ⟨c2,h⟩ |⟨c2,h⟩
 ·refine tt c2 <| Pb ?_;obtain ⟨a5,h5,h⟩:=bind_some h;rcases a5 with a5 | a5
  ·dsimp only at h;refine qn L 216 [] [] [] 1 (Pv (.tup []) []) (P8 49 a5) (Pk (hR.A4 h5)) ?_;cases h;exact rfl
  ·obtain ⟨l,m⟩:=a5;dsimp only at h;obtain ⟨a6,h6,h⟩:=bind_some h;refine rg L 216 [] [(3,.agg (Ah a6))] [(1,(Pv (.agg (Ah l)) [(0,.raw (Ae m))]))] (Pf (hR.A4 h5) (Pf (Co.ok h6) (Pk trivial))) ?_;refine Pe (Pa.trans (Pa.kk [2] [0,200]) (Pa.rr [(0,0),(200,100)])) ?_;refine Pd ?_;cases h;exact Ra
 refine fN c2 <| Pb ?_;obtain ⟨⟨n,o⟩,h7,h⟩:=bind_some h;dsimp only at h;refine rg L 222 [] [] [(1,(Pv (.B n) [(0,.raw (Ae o))]))] (Pk (Ak.okE h7)) ?_;rcases Pc h with ⟨c3,h⟩ |⟨c3,h⟩
 ·refine tt c3 <| Pb ?_;obtain ⟨a8,h8,h⟩:=bind_some h;rcases a8 with a8 | a8
  ·dsimp only at h;refine qn L 226 [] [] [] 2 (Pv (.tup []) []) (P8 49 a8) (Pk (Au.okE h8)) ?_;cases h;exact rfl
  ·obtain ⟨a,b⟩:=a8;dsimp only at h;obtain ⟨a9,h9,h⟩:=bind_some h;rcases a9 with ⟨p,q⟩ | a9
   ·dsimp only at h;refine rg L 226 [] [] [(2,(Pv (.cv (.str a)) [(0,.raw (Ae b))])),(3,(Pv (.agg (Ah p)) [(0,.raw (Ae q))]))] (Q2 (Au.okE h8) (hR.Bg h9)) ?_;refine Pe (Pa.trans (Pa.kk [2] [0,200]) (Pa.rr [(0,0),(200,100)])) ?_;refine Pd ?_;cases h;exact Ra
   ·obtain ⟨a9,rfl⟩:∃ z,z=a9:=⟨_,rfl⟩
    dsimp only at h;refine qn L 226 [] [] [(2,(Pv (.cv (.str a)) [(0,.raw (Ae b))]))] 3 (Pv (.tup []) []) (P8 49 a9) (Q2 (Au.okE h8) (hR.Bg h9)) ?_;cases h;exact rfl
 refine fN c3 <| Pg <| Pb ?_;obtain ⟨a10,h10,h⟩:=bind_some h;rcases a10 with a10 | a10
 ·dsimp only at h;refine qn L 232 [] [] [] 1 (Pv (.tup []) []) (P8 49 a10) (Pk (hR.A6 h10)) ?_;cases h;exact rfl
 ·obtain ⟨c,d⟩:=a10;dsimp only at h;refine rg L 232 [] [] [(1,(Pv (.agg (Ah c)) [(0,.raw (Ae d))]))] (Pk (hR.A6 h10)) ?_;refine Pe (Pa.trans (Pa.kk [2] [0,200]) (Pa.rr [(0,0),(200,100)])) ?_;refine Pd ?_;cases h;exact Ra
def Bl.l6 (K:Nat) (R:Ag) (p0:List (List UInt8)) (p1:List Int):Nat→(List Ap)→Int→Int→(List UInt8)→Int→(List UInt8)→(List Aa)→Option (Pq (Int ⊕ (Aa×Ab)) Unit)
 | 0,_,_,_,_,_,_,_=>none
 | k+1,g,h,a,b,c,d,e=>(Option.bind (Bx K p0 p1 (⟨g,h⟩:Ab)) (fun (n,o,j)=>(if o=true then (Option.bind (R.A4 j) (fun a3=>match a3 with |(Sum.inl a3)=>some (Pq.done (Sum.inl a3)) |(Sum.inr (f,m))=>(Option.bind (Co K n ([(⟨a,b,c,d,e⟩:Aa),(⟨f.Op,f.Name,f.Int,f.Text,f.Kids⟩:Aa)]:List Aa)) (fun a4=>Bl.l6 K R p0 p1 k m.l m.i a4.Op a4.Name a4.Int a4.Text a4.Kids)))) else some (Pq.done (Sum.inr ((⟨a,b,c,d,e⟩:Aa),j))))))
def Bl.F (K:Nat) (R:Ag) (p0:List (List UInt8)) (p1:List Int) (p2:Ab):Option (Int ⊕ (Aa×Ab)):=(Option.bind (R.A4 p2) (fun a1=>match a1 with |(Sum.inl a1)=>some (Sum.inl a1) |(Sum.inr (a,b))=>(obind (Bl.l6 K R p0 p1 K b.l b.i a.Op a.Name a.Int a.Text a.Kids:Option (Pq (Int ⊕ (Aa×Ab)) Unit)) (fun r=>r) (fun _=>none))))
theorem Bl.body {Γ:P4} {K:Nat} {R:Ag} (hR:R.Ok) {p0:List (List UInt8)} {p1:List Int} {p2:Ab} {r:Int ⊕ (Aa×Ab)} (h:Bl.F K R p0 p1 p2=some r):P1 V P 30 100 Γ (Tryz.f62.body.getD .skip) (P9 P V Tryz.f62 (Bl.rep p0 p1 p2 r) (Bl.post p0 p1 p2 r)) ⟨Pn 0 [.P 0,.cv (.fn (.func 146) [.P 0] []),.cv (.ro .C4 p0),.cv (.ro .E8 p1)],[(0,.raw (Ae p2))]⟩:=by
 unfold Bl.F at h;refine Pl L 200 <| Pb ?_;obtain ⟨a1,h1,h⟩:=bind_some h;rcases a1 with a1 | a1
 ·dsimp only at h;refine qn L 202 [] [] [] 1 (Pv (.tup []) []) (P8 49 a1) (Pk (hR.A4 h1)) ?_;cases h;exact rfl
 ·obtain ⟨n,o⟩:=a1;dsimp only at h;refine rg L 202 [] [] [(1,(Pv (.agg (Ah n)) [(0,.raw (Ae o))]))] (Pk (hR.A4 h1)) ?_;refine Pj <| Pe (Pa.trans (Pa.kk [0,1,2,3,8,9] [0,200,204]) (Pa.rr [(0,0),(200,21300),(204,21301)])) ?_;refine kp (S':=⟨[(0,.P 0),(1,.cv (.fn (.func 146) [.P 0] [])),(2,.cv (.ro .C4 p0)),(3,.cv (.ro .E8 p1)),(8,.P 21300),(9,.P 21301)],[(0,.raw (Ae o)),(21300,.raw [.I 0,.str [],.I 0,.str [],.N]),(21301,.raw (Ah n))]⟩) ?_;obtain ⟨o1,hp1,h⟩:=Px h;refine Pu (Q':=fun e S=>False∨((e=.ret∨∃ ch,e=.panic ch)∧∃ a,Pq.done a=o1∧P9 P V Tryz.f62 (Bl.rep p0 p1 p2 a) (Bl.post p0 p1 p2 a) e S)) (Pz (fun k S=>∃ c:List Ap,∃ d:Int,∃ f:Int,∃ g:List UInt8,∃ i:Int,∃ j:List UInt8,∃ l:List Aa,S=⟨[(0,.P 0),(1,.cv (.fn (.func 146) [.P 0] [])),(2,.cv (.ro .C4 p0)),(3,.cv (.ro .E8 p1)),(8,.P 21300),(9,.P 21301)],[(0,.raw [.ro .Am c,.I d]),(21300,.raw [.I 0,.str [],.I 0,.str [],.N]),(21301,.raw [.I f,.str g,.I i,.str j,.ro .Af l])]⟩∧Bl.l6 K R p0 p1 k c d f g i j l=some o1) ?_ ⟨_,_,_,_,_,_,_,rfl,hp1⟩) ?_
  ·clear h hp1;intro k S hS;obtain ⟨c,d,f,g,i,j,l,rfl,h⟩:=hS;cases k with
   | zero=>cases h
   | succ k =>
   unfold Bl.l6 at h;refine Pj <| Pb ?_;obtain ⟨⟨q,m,s⟩,h2,h⟩:=bind_some h;dsimp only at h;refine rg L 207 [] [] [(3,(Pv (.tup [.I q,.B m]) [(0,.raw (Ae s))]))] (Pk (Bx.okE h2)) ?_;refine Pb <| Pl L 217 ?_;rcases Pc h with ⟨c1,h⟩ |⟨c1,h⟩
   ·refine ff (b:=(!m)) (congrArg Bool.not (c1)) ?_;refine Pg ?_;obtain ⟨a3,h3,h⟩:=bind_some h;rcases a3 with a3 | a3
    ·dsimp only at h;refine qP L mixed 223 [] [] [] [0,2] 3 (Pv (.tup []) []) (P8 49 a3) (Q2 (hR.A4 h3) (hR.A4 h3)) ?_;cases h;exact .inr ⟨.inr ⟨_,rfl⟩,_,rfl,rfl⟩
    ·obtain ⟨t,p⟩:=a3;dsimp only at h;obtain ⟨a4,h4,h⟩:=bind_some h;refine hB L mixed 223 [] [(5,.agg (Ah a4))] [(3,(Pv (.agg (Ah t)) [(0,.raw (Ae p))]))] [0,2] 2 (Pf (hR.A4 h3) (Pf (Co.ok h4) (Pf trivial (Pf (hR.A4 h3) (Pf (Co.ok h4) (Pk trivial)))))) (S':=⟨[(0,.P 0),(1,.cv (.fn (.func 146) [.P 0] [])),(2,.cv (.ro .C4 p0)),(3,.cv (.ro .E8 p1)),(8,.P 21300),(9,.P 21301)],[(0,.raw (Ae p)),(21300,.raw [.I 0,.str [],.I 0,.str [],.N]),(21301,.raw (Ah a4))]⟩) ?_;exact ⟨k,Nat.lt_succ_self k,_,_,_,_,_,_,_,rfl,h⟩
   refine tt (b:=(!m)) (congrArg Bool.not (eq_false_of_ne_true c1)) ?_;refine Pl L 220 <| Pe (Pa.trans (Pa.kk [8] [0,21300]) (Pa.rr [(0,0),(21300,100)])) ?_;refine Pd ?_;cases h;exact .inr ⟨.inl rfl,_,rfl,Ra⟩
  ·rintro e S (hf |⟨he,a,rfl,hr⟩)
   ·exact hf.elim
   ·rcases h with ⟨_,e1,h⟩ |⟨_,e1,h⟩
    ·have e2:=Pq.done.inj e1;subst e2;subst h;rcases he with rfl |⟨ch,rfl⟩
     ·exact ⟨_,Pa.refl,hr⟩
     ·exact ⟨_,Pa.refl,hr⟩
    ·cases e1
def Bj.F (K:Nat) (R:Ag) (p0:Ab):Option (Int ⊕ (Aa×Ab)):=(Option.bind (R.Bl ([([42]:List UInt8),([47]:List UInt8),([37]:List UInt8)]:List (List UInt8)) ([15,16,17]:List Int) p0) (fun a1=>match a1 with |(Sum.inl a1)=>some (Sum.inl a1) |(Sum.inr (a,b))=>some (Sum.inr (a,b))))
theorem Bj.body {Γ:P4} {K:Nat} {R:Ag} (hR:R.Ok) {p0:Ab} {r:Int ⊕ (Aa×Ab)} (h:Bj.F K R p0=some r):P1 V P 9 100 Γ (Tryz.f137.body.getD .skip) (P9 P V Tryz.f137 (Bj.rep p0 r) (Bj.post p0 r)) ⟨Pn 0 [.P 0],[(0,.raw (Ae p0))]⟩:=by
 unfold Bj.F at h;refine Pl L 200 <| Pb ?_;obtain ⟨a1,h1,h⟩:=bind_some h;rcases a1 with a1 | a1
 ·dsimp only at h;refine qn L 202 [] [] [] 5 (Pv (.tup []) []) (P8 49 a1) (Pk (hR.Bl h1)) ?_;cases h;exact rfl
 ·obtain ⟨a,b⟩:=a1;dsimp only at h;refine rg L 202 [] [] [(5,(Pv (.agg (Ah a)) [(0,.raw (Ae b))]))] (Pk (hR.Bl h1)) ?_;refine Pe (Pa.trans (Pa.kk [2] [0,200]) (Pa.rr [(0,0),(200,100)])) ?_;refine Pd ?_;cases h;exact Ra
def Bp.l6 (K:Nat) (R:Ag) (p0:List (List UInt8)) (p1:List Int):Nat→(List Ap)→Int→Int→(List UInt8)→Int→(List UInt8)→(List Aa)→Option (Pq (Int ⊕ (Aa×Ab)) Unit)
 | 0,_,_,_,_,_,_,_=>none
 | k+1,g,h,a,b,c,d,e=>(Option.bind (Bx K p0 p1 (⟨g,h⟩:Ab)) (fun (n,o,j)=>(if o=true then (Option.bind (R.Bj j) (fun a3=>match a3 with |(Sum.inl a3)=>some (Pq.done (Sum.inl a3)) |(Sum.inr (f,m))=>(Option.bind (Co K n ([(⟨a,b,c,d,e⟩:Aa),(⟨f.Op,f.Name,f.Int,f.Text,f.Kids⟩:Aa)]:List Aa)) (fun a4=>Bp.l6 K R p0 p1 k m.l m.i a4.Op a4.Name a4.Int a4.Text a4.Kids)))) else some (Pq.done (Sum.inr ((⟨a,b,c,d,e⟩:Aa),j))))))
def Bp.F (K:Nat) (R:Ag) (p0:List (List UInt8)) (p1:List Int) (p2:Ab):Option (Int ⊕ (Aa×Ab)):=(Option.bind (R.Bj p2) (fun a1=>match a1 with |(Sum.inl a1)=>some (Sum.inl a1) |(Sum.inr (a,b))=>(obind (Bp.l6 K R p0 p1 K b.l b.i a.Op a.Name a.Int a.Text a.Kids:Option (Pq (Int ⊕ (Aa×Ab)) Unit)) (fun r=>r) (fun _=>none))))
theorem Bp.body {Γ:P4} {K:Nat} {R:Ag} (hR:R.Ok) {p0:List (List UInt8)} {p1:List Int} {p2:Ab} {r:Int ⊕ (Aa×Ab)} (h:Bp.F K R p0 p1 p2=some r):P1 V P 30 100 Γ (Tryz.f62.body.getD .skip) (P9 P V Tryz.f62 (Bp.rep p0 p1 p2 r) (Bp.post p0 p1 p2 r)) ⟨Pn 0 [.P 0,.cv (.fn (.func 137) [.P 0] []),.cv (.ro .C4 p0),.cv (.ro .E8 p1)],[(0,.raw (Ae p2))]⟩:=by
 unfold Bp.F at h;refine Pl L 200 <| Pb ?_;obtain ⟨a1,h1,h⟩:=bind_some h;rcases a1 with a1 | a1
 ·dsimp only at h;refine qn L 202 [] [] [] 1 (Pv (.tup []) []) (P8 49 a1) (Pk (hR.Bj h1)) ?_;cases h;exact rfl
 ·obtain ⟨n,o⟩:=a1;dsimp only at h;refine rg L 202 [] [] [(1,(Pv (.agg (Ah n)) [(0,.raw (Ae o))]))] (Pk (hR.Bj h1)) ?_;refine Pj <| Pe (Pa.trans (Pa.kk [0,1,2,3,8,9] [0,200,204]) (Pa.rr [(0,0),(200,21300),(204,21301)])) ?_;refine kp (S':=⟨[(0,.P 0),(1,.cv (.fn (.func 137) [.P 0] [])),(2,.cv (.ro .C4 p0)),(3,.cv (.ro .E8 p1)),(8,.P 21300),(9,.P 21301)],[(0,.raw (Ae o)),(21300,.raw [.I 0,.str [],.I 0,.str [],.N]),(21301,.raw (Ah n))]⟩) ?_;obtain ⟨o1,hp1,h⟩:=Px h;refine Pu (Q':=fun e S=>False∨((e=.ret∨∃ ch,e=.panic ch)∧∃ a,Pq.done a=o1∧P9 P V Tryz.f62 (Bp.rep p0 p1 p2 a) (Bp.post p0 p1 p2 a) e S)) (Pz (fun k S=>∃ c:List Ap,∃ d:Int,∃ f:Int,∃ g:List UInt8,∃ i:Int,∃ j:List UInt8,∃ l:List Aa,S=⟨[(0,.P 0),(1,.cv (.fn (.func 137) [.P 0] [])),(2,.cv (.ro .C4 p0)),(3,.cv (.ro .E8 p1)),(8,.P 21300),(9,.P 21301)],[(0,.raw [.ro .Am c,.I d]),(21300,.raw [.I 0,.str [],.I 0,.str [],.N]),(21301,.raw [.I f,.str g,.I i,.str j,.ro .Af l])]⟩∧Bp.l6 K R p0 p1 k c d f g i j l=some o1) ?_ ⟨_,_,_,_,_,_,_,rfl,hp1⟩) ?_
  ·clear h hp1;intro k S hS;obtain ⟨c,d,f,g,i,j,l,rfl,h⟩:=hS;cases k with
   | zero=>cases h
   | succ k =>
   unfold Bp.l6 at h;refine Pj <| Pb ?_;obtain ⟨⟨q,m,s⟩,h2,h⟩:=bind_some h;dsimp only at h;refine rg L 207 [] [] [(3,(Pv (.tup [.I q,.B m]) [(0,.raw (Ae s))]))] (Pk (Bx.okE h2)) ?_;refine Pb <| Pl L 217 ?_;rcases Pc h with ⟨c1,h⟩ |⟨c1,h⟩
   ·refine ff (b:=(!m)) (congrArg Bool.not (c1)) ?_;refine Pg ?_;obtain ⟨a3,h3,h⟩:=bind_some h;rcases a3 with a3 | a3
    ·dsimp only at h;refine qP L mixed 223 [] [] [] [0,2] 3 (Pv (.tup []) []) (P8 49 a3) (Q2 (hR.Bj h3) (hR.Bj h3)) ?_;cases h;exact .inr ⟨.inr ⟨_,rfl⟩,_,rfl,rfl⟩
    ·obtain ⟨t,p⟩:=a3;dsimp only at h;obtain ⟨a4,h4,h⟩:=bind_some h;refine hB L mixed 223 [] [(5,.agg (Ah a4))] [(3,(Pv (.agg (Ah t)) [(0,.raw (Ae p))]))] [0,2] 2 (Pf (hR.Bj h3) (Pf (Co.ok h4) (Pf trivial (Pf (hR.Bj h3) (Pf (Co.ok h4) (Pk trivial)))))) (S':=⟨[(0,.P 0),(1,.cv (.fn (.func 137) [.P 0] [])),(2,.cv (.ro .C4 p0)),(3,.cv (.ro .E8 p1)),(8,.P 21300),(9,.P 21301)],[(0,.raw (Ae p)),(21300,.raw [.I 0,.str [],.I 0,.str [],.N]),(21301,.raw (Ah a4))]⟩) ?_;exact ⟨k,Nat.lt_succ_self k,_,_,_,_,_,_,_,rfl,h⟩
   refine tt (b:=(!m)) (congrArg Bool.not (eq_false_of_ne_true c1)) ?_;refine Pl L 220 <| Pe (Pa.trans (Pa.kk [8] [0,21300]) (Pa.rr [(0,0),(21300,100)])) ?_;refine Pd ?_;cases h;exact .inr ⟨.inl rfl,_,rfl,Ra⟩
  ·rintro e S (hf |⟨he,a,rfl,hr⟩)
   ·exact hf.elim
   ·rcases h with ⟨_,e1,h⟩ |⟨_,e1,h⟩
    ·have e2:=Pq.done.inj e1;subst e2;subst h;rcases he with rfl |⟨ch,rfl⟩
     ·exact ⟨_,Pa.refl,hr⟩
     ·exact ⟨_,Pa.refl,hr⟩
    ·cases e1
def Bw.F (K:Nat) (R:Ag) (p0:Ab):Option (Int ⊕ (Aa×Ab)):=(Option.bind (R.Bp ([([43]:List UInt8),([45]:List UInt8)]:List (List UInt8)) ([18,19]:List Int) p0) (fun a1=>match a1 with |(Sum.inl a1)=>some (Sum.inl a1) |(Sum.inr (a,b))=>some (Sum.inr (a,b))))
theorem Bw.body {Γ:P4} {K:Nat} {R:Ag} (hR:R.Ok) {p0:Ab} {r:Int ⊕ (Aa×Ab)} (h:Bw.F K R p0=some r):P1 V P 9 100 Γ (Tryz.f122.body.getD .skip) (P9 P V Tryz.f122 (Bw.rep p0 r) (Bw.post p0 r)) ⟨Pn 0 [.P 0],[(0,.raw (Ae p0))]⟩:=by
 unfold Bw.F at h;refine Pl L 200 <| Pb ?_;obtain ⟨a1,h1,h⟩:=bind_some h;rcases a1 with a1 | a1
 ·dsimp only at h;refine qn L 202 [] [] [] 5 (Pv (.tup []) []) (P8 49 a1) (Pk (hR.Bp h1)) ?_;cases h;exact rfl
 ·obtain ⟨a,b⟩:=a1;dsimp only at h;refine rg L 202 [] [] [(5,(Pv (.agg (Ah a)) [(0,.raw (Ae b))]))] (Pk (hR.Bp h1)) ?_;refine Pe (Pa.trans (Pa.kk [2] [0,200]) (Pa.rr [(0,0),(200,100)])) ?_;refine Pd ?_;cases h;exact Ra
def Bi.F (K:Nat) (R:Ag) (p0:Ab):Option (Int ⊕ (Aa×Ab)):=(Option.bind (Ak K ([110,111,116]:List UInt8) p0) (fun (f,d)=>(if f=true then (Option.bind (R.Bi d) (fun a2=>match a2 with |(Sum.inl a2)=>some (Sum.inl a2) |(Sum.inr (b,g))=>(Option.bind (Co K 13 ([(⟨b.Op,b.Name,b.Int,b.Text,b.Kids⟩:Aa)]:List Aa)) (fun a3=>some (Sum.inr (a3,g)))))) else (Option.bind (R.Bw d) (fun a4=>match a4 with |(Sum.inl a4)=>some (Sum.inl a4) |(Sum.inr (a,h))=>(Option.bind (Bx K ([([60]:List UInt8),([60,61]:List UInt8),([62]:List UInt8),([62,61]:List UInt8),([61,61]:List UInt8),([33,61]:List UInt8)]:List (List UInt8)) ([20,21,22,23,24,25]:List Int) h) (fun (i,j,e)=>(if j=true then (Option.bind (R.Bw e) (fun a6=>match a6 with |(Sum.inl a6)=>some (Sum.inl a6) |(Sum.inr (c,k))=>(Option.bind (Co K i ([(⟨a.Op,a.Name,a.Int,a.Text,a.Kids⟩:Aa),(⟨c.Op,c.Name,c.Int,c.Text,c.Kids⟩:Aa)]:List Aa)) (fun a7=>some (Sum.inr (a7,k)))))) else some (Sum.inr (a,e))))))))))
theorem Bi.body {Γ:P4} {K:Nat} {R:Ag} (hR:R.Ok) {p0:Ab} {r:Int ⊕ (Aa×Ab)} (h:Bi.F K R p0=some r):P1 V P 29 100 Γ (Tryz.f93.body.getD .skip) (P9 P V Tryz.f93 (Bi.rep p0 r) (Bi.post p0 r)) ⟨Pn 0 [.P 0],[(0,.raw (Ae p0))]⟩:=by
 unfold Bi.F at h;refine Pl L 200 <| Pb <| Pb ?_;obtain ⟨⟨b,c⟩,h1,h⟩:=bind_some h;dsimp only at h;refine rg L 202 [] [] [(1,(Pv (.B b) [(0,.raw (Ae c))]))] (Pk (Ak.okE h1)) ?_;rcases Pc h with ⟨c1,h⟩ |⟨c1,h⟩
 ·refine tt c1 <| Pb ?_;obtain ⟨a2,h2,h⟩:=bind_some h;rcases a2 with a2 | a2
  ·dsimp only at h;refine qn L 205 [] [] [] 1 (Pv (.tup []) []) (P8 49 a2) (Pk (hR.Bi h2)) ?_;cases h;exact rfl
  ·obtain ⟨d,e⟩:=a2;dsimp only at h;obtain ⟨a3,h3,h⟩:=bind_some h;refine rg L 205 [] [(3,.agg (Ah a3))] [(1,(Pv (.agg (Ah d)) [(0,.raw (Ae e))]))] (Pf (hR.Bi h2) (Pf (Co.ok h3) (Pk trivial))) ?_;refine Pe (Pa.trans (Pa.kk [2] [0,200]) (Pa.rr [(0,0),(200,100)])) ?_;refine Pd ?_;cases h;exact Ra
 refine fN c1 <| Pg <| Pb ?_;obtain ⟨a4,h4,h⟩:=bind_some h;rcases a4 with a4 | a4
 ·dsimp only at h;refine qn L 211 [] [] [] 1 (Pv (.tup []) []) (P8 49 a4) (Pk (hR.Bw h4)) ?_;cases h;exact rfl
 ·obtain ⟨f,g⟩:=a4;dsimp only at h;refine rg L 211 [] [] [(1,(Pv (.agg (Ah f)) [(0,.raw (Ae g))]))] (Pk (hR.Bw h4)) ?_;refine Pb <| Pb ?_;obtain ⟨⟨i,j,k⟩,h5,h⟩:=bind_some h;dsimp only at h;refine rg L 216 [] [] [(3,(Pv (.tup [.I i,.B j]) [(0,.raw (Ae k))]))] (Pk (Bx.okE h5)) ?_;refine Pl L 226 ?_;rcases Pc h with ⟨c2,h⟩ |⟨c2,h⟩
  ·refine tt c2 <| Pb ?_;obtain ⟨a6,h6,h⟩:=bind_some h;rcases a6 with a6 | a6
   ·dsimp only at h;refine qP L mixed 228 [] [] [] [0,2] 3 (Pv (.tup []) []) (P8 49 a6) (Q2 (hR.Bw h6) (hR.Bw h6)) ?_;cases h;exact rfl
   ·obtain ⟨l,a⟩:=a6;dsimp only at h;obtain ⟨a7,h7,h⟩:=bind_some h;refine hB L mixed 228 [] [(5,.agg (Ah a7))] [(3,(Pv (.agg (Ah l)) [(0,.raw (Ae a))]))] [0,2] 2 (Pf (hR.Bw h6) (Pf (Co.ok h7) (Pf trivial (Pf (hR.Bw h6) (Pf (Co.ok h7) (Pk trivial)))))) (S':=⟨[(2,.P 200)],[(0,.raw (Ae a)),(200,.raw (Ah a7))]⟩) ?_;refine Pe (Pa.trans (Pa.kk [2] [0,200]) (Pa.rr [(0,0),(200,100)])) ?_;refine Pd ?_;cases h;exact Ra
  refine fN c2 <| Pg <| Pl L 236 <| Pe (Pa.trans (Pa.kk [2] [0,200]) (Pa.rr [(0,0),(200,100)])) ?_;refine Pd ?_;cases h;exact Ra
def Bn.l6 (K:Nat) (R:Ag) (p0:List (List UInt8)) (p1:List Int):Nat→(List Ap)→Int→Int→(List UInt8)→Int→(List UInt8)→(List Aa)→Option (Pq (Int ⊕ (Aa×Ab)) Unit)
 | 0,_,_,_,_,_,_,_=>none
 | k+1,g,h,a,b,c,d,e=>(Option.bind (Bx K p0 p1 (⟨g,h⟩:Ab)) (fun (n,o,j)=>(if o=true then (Option.bind (R.Bi j) (fun a3=>match a3 with |(Sum.inl a3)=>some (Pq.done (Sum.inl a3)) |(Sum.inr (f,m))=>(Option.bind (Co K n ([(⟨a,b,c,d,e⟩:Aa),(⟨f.Op,f.Name,f.Int,f.Text,f.Kids⟩:Aa)]:List Aa)) (fun a4=>Bn.l6 K R p0 p1 k m.l m.i a4.Op a4.Name a4.Int a4.Text a4.Kids)))) else some (Pq.done (Sum.inr ((⟨a,b,c,d,e⟩:Aa),j))))))
def Bn.F (K:Nat) (R:Ag) (p0:List (List UInt8)) (p1:List Int) (p2:Ab):Option (Int ⊕ (Aa×Ab)):=(Option.bind (R.Bi p2) (fun a1=>match a1 with |(Sum.inl a1)=>some (Sum.inl a1) |(Sum.inr (a,b))=>(obind (Bn.l6 K R p0 p1 K b.l b.i a.Op a.Name a.Int a.Text a.Kids:Option (Pq (Int ⊕ (Aa×Ab)) Unit)) (fun r=>r) (fun _=>none))))
theorem Bn.body {Γ:P4} {K:Nat} {R:Ag} (hR:R.Ok) {p0:List (List UInt8)} {p1:List Int} {p2:Ab} {r:Int ⊕ (Aa×Ab)} (h:Bn.F K R p0 p1 p2=some r):P1 V P 30 100 Γ (Tryz.f62.body.getD .skip) (P9 P V Tryz.f62 (Bn.rep p0 p1 p2 r) (Bn.post p0 p1 p2 r)) ⟨Pn 0 [.P 0,.cv (.fn (.func 93) [.P 0] []),.cv (.ro .C4 p0),.cv (.ro .E8 p1)],[(0,.raw (Ae p2))]⟩:=by
 unfold Bn.F at h;refine Pl L 200 <| Pb ?_;obtain ⟨a1,h1,h⟩:=bind_some h;rcases a1 with a1 | a1
 ·dsimp only at h;refine qn L 202 [] [] [] 1 (Pv (.tup []) []) (P8 49 a1) (Pk (hR.Bi h1)) ?_;cases h;exact rfl
 ·obtain ⟨n,o⟩:=a1;dsimp only at h;refine rg L 202 [] [] [(1,(Pv (.agg (Ah n)) [(0,.raw (Ae o))]))] (Pk (hR.Bi h1)) ?_;refine Pj <| Pe (Pa.trans (Pa.kk [0,1,2,3,8,9] [0,200,204]) (Pa.rr [(0,0),(200,21300),(204,21301)])) ?_;refine kp (S':=⟨[(0,.P 0),(1,.cv (.fn (.func 93) [.P 0] [])),(2,.cv (.ro .C4 p0)),(3,.cv (.ro .E8 p1)),(8,.P 21300),(9,.P 21301)],[(0,.raw (Ae o)),(21300,.raw [.I 0,.str [],.I 0,.str [],.N]),(21301,.raw (Ah n))]⟩) ?_;obtain ⟨o1,hp1,h⟩:=Px h;refine Pu (Q':=fun e S=>False∨((e=.ret∨∃ ch,e=.panic ch)∧∃ a,Pq.done a=o1∧P9 P V Tryz.f62 (Bn.rep p0 p1 p2 a) (Bn.post p0 p1 p2 a) e S)) (Pz (fun k S=>∃ c:List Ap,∃ d:Int,∃ f:Int,∃ g:List UInt8,∃ i:Int,∃ j:List UInt8,∃ l:List Aa,S=⟨[(0,.P 0),(1,.cv (.fn (.func 93) [.P 0] [])),(2,.cv (.ro .C4 p0)),(3,.cv (.ro .E8 p1)),(8,.P 21300),(9,.P 21301)],[(0,.raw [.ro .Am c,.I d]),(21300,.raw [.I 0,.str [],.I 0,.str [],.N]),(21301,.raw [.I f,.str g,.I i,.str j,.ro .Af l])]⟩∧Bn.l6 K R p0 p1 k c d f g i j l=some o1) ?_ ⟨_,_,_,_,_,_,_,rfl,hp1⟩) ?_
  ·clear h hp1;intro k S hS;obtain ⟨c,d,f,g,i,j,l,rfl,h⟩:=hS;cases k with
   | zero=>cases h
   | succ k =>
   unfold Bn.l6 at h;refine Pj <| Pb ?_;obtain ⟨⟨q,m,s⟩,h2,h⟩:=bind_some h;dsimp only at h;refine rg L 207 [] [] [(3,(Pv (.tup [.I q,.B m]) [(0,.raw (Ae s))]))] (Pk (Bx.okE h2)) ?_;refine Pb <| Pl L 217 ?_;rcases Pc h with ⟨c1,h⟩ |⟨c1,h⟩
   ·refine ff (b:=(!m)) (congrArg Bool.not (c1)) ?_;refine Pg ?_;obtain ⟨a3,h3,h⟩:=bind_some h;rcases a3 with a3 | a3
    ·dsimp only at h;refine qP L mixed 223 [] [] [] [0,2] 3 (Pv (.tup []) []) (P8 49 a3) (Q2 (hR.Bi h3) (hR.Bi h3)) ?_;cases h;exact .inr ⟨.inr ⟨_,rfl⟩,_,rfl,rfl⟩
    ·obtain ⟨t,p⟩:=a3;dsimp only at h;obtain ⟨a4,h4,h⟩:=bind_some h;refine hB L mixed 223 [] [(5,.agg (Ah a4))] [(3,(Pv (.agg (Ah t)) [(0,.raw (Ae p))]))] [0,2] 2 (Pf (hR.Bi h3) (Pf (Co.ok h4) (Pf trivial (Pf (hR.Bi h3) (Pf (Co.ok h4) (Pk trivial)))))) (S':=⟨[(0,.P 0),(1,.cv (.fn (.func 93) [.P 0] [])),(2,.cv (.ro .C4 p0)),(3,.cv (.ro .E8 p1)),(8,.P 21300),(9,.P 21301)],[(0,.raw (Ae p)),(21300,.raw [.I 0,.str [],.I 0,.str [],.N]),(21301,.raw (Ah a4))]⟩) ?_;exact ⟨k,Nat.lt_succ_self k,_,_,_,_,_,_,_,rfl,h⟩
   refine tt (b:=(!m)) (congrArg Bool.not (eq_false_of_ne_true c1)) ?_;refine Pl L 220 <| Pe (Pa.trans (Pa.kk [8] [0,21300]) (Pa.rr [(0,0),(21300,100)])) ?_;refine Pd ?_;cases h;exact .inr ⟨.inl rfl,_,rfl,Ra⟩
  ·rintro e S (hf |⟨he,a,rfl,hr⟩)
   ·exact hf.elim
   ·rcases h with ⟨_,e1,h⟩ |⟨_,e1,h⟩
    ·have e2:=Pq.done.inj e1;subst e2;subst h;rcases he with rfl |⟨ch,rfl⟩
     ·exact ⟨_,Pa.refl,hr⟩
     ·exact ⟨_,Pa.refl,hr⟩
    ·cases e1
def B6.F (K:Nat) (R:Ag) (p0:Ab):Option (Int ⊕ (Aa×Ab)):=(Option.bind (R.Bn ([([97,110,100]:List UInt8)]:List (List UInt8)) ([26]:List Int) p0) (fun a1=>match a1 with |(Sum.inl a1)=>some (Sum.inl a1) |(Sum.inr (a,b))=>some (Sum.inr (a,b))))
theorem B6.body {Γ:P4} {K:Nat} {R:Ag} (hR:R.Ok) {p0:Ab} {r:Int ⊕ (Aa×Ab)} (h:B6.F K R p0=some r):P1 V P 9 100 Γ (Tryz.f63.body.getD .skip) (P9 P V Tryz.f63 (B6.rep p0 r) (B6.post p0 r)) ⟨Pn 0 [.P 0],[(0,.raw (Ae p0))]⟩:=by
 unfold B6.F at h;refine Pl L 200 <| Pb ?_;obtain ⟨a1,h1,h⟩:=bind_some h;rcases a1 with a1 | a1
 ·dsimp only at h;refine qn L 202 [] [] [] 5 (Pv (.tup []) []) (P8 49 a1) (Pk (hR.Bn h1)) ?_;cases h;exact rfl
 ·obtain ⟨a,b⟩:=a1;dsimp only at h;refine rg L 202 [] [] [(5,(Pv (.agg (Ah a)) [(0,.raw (Ae b))]))] (Pk (hR.Bn h1)) ?_;refine Pe (Pa.trans (Pa.kk [2] [0,200]) (Pa.rr [(0,0),(200,100)])) ?_;refine Pd ?_;cases h;exact Ra
def Bo.l6 (K:Nat) (R:Ag) (p0:List (List UInt8)) (p1:List Int):Nat→(List Ap)→Int→Int→(List UInt8)→Int→(List UInt8)→(List Aa)→Option (Pq (Int ⊕ (Aa×Ab)) Unit)
 | 0,_,_,_,_,_,_,_=>none
 | k+1,g,h,a,b,c,d,e=>(Option.bind (Bx K p0 p1 (⟨g,h⟩:Ab)) (fun (n,o,j)=>(if o=true then (Option.bind (R.B6 j) (fun a3=>match a3 with |(Sum.inl a3)=>some (Pq.done (Sum.inl a3)) |(Sum.inr (f,m))=>(Option.bind (Co K n ([(⟨a,b,c,d,e⟩:Aa),(⟨f.Op,f.Name,f.Int,f.Text,f.Kids⟩:Aa)]:List Aa)) (fun a4=>Bo.l6 K R p0 p1 k m.l m.i a4.Op a4.Name a4.Int a4.Text a4.Kids)))) else some (Pq.done (Sum.inr ((⟨a,b,c,d,e⟩:Aa),j))))))
def Bo.F (K:Nat) (R:Ag) (p0:List (List UInt8)) (p1:List Int) (p2:Ab):Option (Int ⊕ (Aa×Ab)):=(Option.bind (R.B6 p2) (fun a1=>match a1 with |(Sum.inl a1)=>some (Sum.inl a1) |(Sum.inr (a,b))=>(obind (Bo.l6 K R p0 p1 K b.l b.i a.Op a.Name a.Int a.Text a.Kids:Option (Pq (Int ⊕ (Aa×Ab)) Unit)) (fun r=>r) (fun _=>none))))
theorem Bo.body {Γ:P4} {K:Nat} {R:Ag} (hR:R.Ok) {p0:List (List UInt8)} {p1:List Int} {p2:Ab} {r:Int ⊕ (Aa×Ab)} (h:Bo.F K R p0 p1 p2=some r):P1 V P 30 100 Γ (Tryz.f62.body.getD .skip) (P9 P V Tryz.f62 (Bo.rep p0 p1 p2 r) (Bo.post p0 p1 p2 r)) ⟨Pn 0 [.P 0,.cv (.fn (.func 63) [.P 0] []),.cv (.ro .C4 p0),.cv (.ro .E8 p1)],[(0,.raw (Ae p2))]⟩:=by
 unfold Bo.F at h;refine Pl L 200 <| Pb ?_;obtain ⟨a1,h1,h⟩:=bind_some h;rcases a1 with a1 | a1
 ·dsimp only at h;refine qn L 202 [] [] [] 1 (Pv (.tup []) []) (P8 49 a1) (Pk (hR.B6 h1)) ?_;cases h;exact rfl
 ·obtain ⟨n,o⟩:=a1;dsimp only at h;refine rg L 202 [] [] [(1,(Pv (.agg (Ah n)) [(0,.raw (Ae o))]))] (Pk (hR.B6 h1)) ?_;refine Pj <| Pe (Pa.trans (Pa.kk [0,1,2,3,8,9] [0,200,204]) (Pa.rr [(0,0),(200,21300),(204,21301)])) ?_;refine kp (S':=⟨[(0,.P 0),(1,.cv (.fn (.func 63) [.P 0] [])),(2,.cv (.ro .C4 p0)),(3,.cv (.ro .E8 p1)),(8,.P 21300),(9,.P 21301)],[(0,.raw (Ae o)),(21300,.raw [.I 0,.str [],.I 0,.str [],.N]),(21301,.raw (Ah n))]⟩) ?_;obtain ⟨o1,hp1,h⟩:=Px h;refine Pu (Q':=fun e S=>False∨((e=.ret∨∃ ch,e=.panic ch)∧∃ a,Pq.done a=o1∧P9 P V Tryz.f62 (Bo.rep p0 p1 p2 a) (Bo.post p0 p1 p2 a) e S)) (Pz (fun k S=>∃ c:List Ap,∃ d:Int,∃ f:Int,∃ g:List UInt8,∃ i:Int,∃ j:List UInt8,∃ l:List Aa,S=⟨[(0,.P 0),(1,.cv (.fn (.func 63) [.P 0] [])),(2,.cv (.ro .C4 p0)),(3,.cv (.ro .E8 p1)),(8,.P 21300),(9,.P 21301)],[(0,.raw [.ro .Am c,.I d]),(21300,.raw [.I 0,.str [],.I 0,.str [],.N]),(21301,.raw [.I f,.str g,.I i,.str j,.ro .Af l])]⟩∧Bo.l6 K R p0 p1 k c d f g i j l=some o1) ?_ ⟨_,_,_,_,_,_,_,rfl,hp1⟩) ?_
  ·clear h hp1;intro k S hS;obtain ⟨c,d,f,g,i,j,l,rfl,h⟩:=hS;cases k with
   | zero=>cases h
   | succ k =>
   unfold Bo.l6 at h;refine Pj <| Pb ?_;obtain ⟨⟨q,m,s⟩,h2,h⟩:=bind_some h;dsimp only at h;refine rg L 207 [] [] [(3,(Pv (.tup [.I q,.B m]) [(0,.raw (Ae s))]))] (Pk (Bx.okE h2)) ?_;refine Pb <| Pl L 217 ?_;rcases Pc h with ⟨c1,h⟩ |⟨c1,h⟩
   ·refine ff (b:=(!m)) (congrArg Bool.not (c1)) ?_;refine Pg ?_;obtain ⟨a3,h3,h⟩:=bind_some h;rcases a3 with a3 | a3
    ·dsimp only at h;refine qP L mixed 223 [] [] [] [0,2] 3 (Pv (.tup []) []) (P8 49 a3) (Q2 (hR.B6 h3) (hR.B6 h3)) ?_;cases h;exact .inr ⟨.inr ⟨_,rfl⟩,_,rfl,rfl⟩
    ·obtain ⟨t,p⟩:=a3;dsimp only at h;obtain ⟨a4,h4,h⟩:=bind_some h;refine hB L mixed 223 [] [(5,.agg (Ah a4))] [(3,(Pv (.agg (Ah t)) [(0,.raw (Ae p))]))] [0,2] 2 (Pf (hR.B6 h3) (Pf (Co.ok h4) (Pf trivial (Pf (hR.B6 h3) (Pf (Co.ok h4) (Pk trivial)))))) (S':=⟨[(0,.P 0),(1,.cv (.fn (.func 63) [.P 0] [])),(2,.cv (.ro .C4 p0)),(3,.cv (.ro .E8 p1)),(8,.P 21300),(9,.P 21301)],[(0,.raw (Ae p)),(21300,.raw [.I 0,.str [],.I 0,.str [],.N]),(21301,.raw (Ah a4))]⟩) ?_;exact ⟨k,Nat.lt_succ_self k,_,_,_,_,_,_,_,rfl,h⟩
   refine tt (b:=(!m)) (congrArg Bool.not (eq_false_of_ne_true c1)) ?_;refine Pl L 220 <| Pe (Pa.trans (Pa.kk [8] [0,21300]) (Pa.rr [(0,0),(21300,100)])) ?_;refine Pd ?_;cases h;exact .inr ⟨.inl rfl,_,rfl,Ra⟩
  ·rintro e S (hf |⟨he,a,rfl,hr⟩)
   ·exact hf.elim
   ·rcases h with ⟨_,e1,h⟩ |⟨_,e1,h⟩
    ·have e2:=Pq.done.inj e1;subst e2;subst h;rcases he with rfl |⟨ch,rfl⟩
     ·exact ⟨_,Pa.refl,hr⟩
     ·exact ⟨_,Pa.refl,hr⟩
    ·cases e1
def As.F (K:Nat) (R:Ag) (p0:Ab):Option (Int ⊕ (Aa×Ab)):=(Option.bind (R.Bo ([([111,114]:List UInt8)]:List (List UInt8)) ([27]:List Int) p0) (fun a1=>match a1 with |(Sum.inl a1)=>some (Sum.inl a1) |(Sum.inr (a,b))=>some (Sum.inr (a,b))))
theorem As.body {Γ:P4} {K:Nat} {R:Ag} (hR:R.Ok) {p0:Ab} {r:Int ⊕ (Aa×Ab)} (h:As.F K R p0=some r):P1 V P 9 100 Γ (Tryz.f32.body.getD .skip) (P9 P V Tryz.f32 (As.rep p0 r) (As.post p0 r)) ⟨Pn 0 [.P 0],[(0,.raw (Ae p0))]⟩:=by
 unfold As.F at h;refine Pl L 200 <| Pb ?_;obtain ⟨a1,h1,h⟩:=bind_some h;rcases a1 with a1 | a1
 ·dsimp only at h;refine qn L 202 [] [] [] 5 (Pv (.tup []) []) (P8 49 a1) (Pk (hR.Bo h1)) ?_;cases h;exact rfl
 ·obtain ⟨a,b⟩:=a1;dsimp only at h;refine rg L 202 [] [] [(5,(Pv (.agg (Ah a)) [(0,.raw (Ae b))]))] (Pk (hR.Bo h1)) ?_;refine Pe (Pa.trans (Pa.kk [2] [0,200]) (Pa.rr [(0,0),(200,100)])) ?_;refine Pd ?_;cases h;exact Ra
def Ag.upto (K:Nat):Nat→Ag
 | 0=>⟨fun _ _=>none,fun _ _ _=>none,fun _=>none,fun _ _=>none,fun _=>none,fun _=>none,fun _=>none,fun _ _ _=>none,fun _=>none,fun _ _ _=>none,fun _=>none,fun _=>none,fun _ _ _=>none,fun _=>none,fun _ _ _=>none,fun _=>none⟩
 | k+1=>⟨Ba.F K (Ag.upto K k),Bg.F K (Ag.upto K k),B1.F K (Ag.upto K k),Bk.F K (Ag.upto K k),Bm.F K (Ag.upto K k),A6.F K (Ag.upto K k),A4.F K (Ag.upto K k),Bl.F K (Ag.upto K k),Bj.F K (Ag.upto K k),Bp.F K (Ag.upto K k),Bw.F K (Ag.upto K k),Bi.F K (Ag.upto K k),Bn.F K (Ag.upto K k),B6.F K (Ag.upto K k),Bo.F K (Ag.upto K k),As.F K (Ag.upto K k)⟩
theorem Ag.upto_ok (K:Nat):∀ k,(Ag.upto K k).Ok
 | 0=>⟨fun h=>(by cases h),fun h=>(by cases h),fun h=>(by cases h),fun h=>(by cases h),fun h=>(by cases h),fun h=>(by cases h),fun h=>(by cases h),fun h=>(by cases h),fun h=>(by cases h),fun h=>(by cases h),fun h=>(by cases h),fun h=>(by cases h),fun h=>(by cases h),fun h=>(by cases h),fun h=>(by cases h),fun h=>(by cases h)⟩
 | k+1=>⟨fun {p0 p1 r} h=>xo (fn:=Tryz.f48) (n:=25) (m:=100) fun Γ=>Ba.body (K:=K) (Ag.upto_ok K k) h,fun {p0 p1 p2 r} h=>xo (fn:=Tryz.f106) (n:=16) (m:=100) fun Γ=>Bg.body (K:=K) (Ag.upto_ok K k) h,fun {p0 r} h=>xo (fn:=Tryz.f166) (n:=21) (m:=100) fun Γ=>B1.body (K:=K) (Ag.upto_ok K k) h,fun {p0 p1 r} h=>xo (fn:=Tryz.f48) (n:=25) (m:=100) fun Γ=>Bk.body (K:=K) (Ag.upto_ok K k) h,fun {p0 r} h=>xo (fn:=Tryz.f163) (n:=51) (m:=100) fun Γ=>Bm.body (K:=K) (Ag.upto_ok K k) h,fun {p0 r} h=>xo (fn:=Tryz.f156) (n:=25) (m:=100) fun Γ=>A6.body (K:=K) (Ag.upto_ok K k) h,fun {p0 r} h=>xo (fn:=Tryz.f146) (n:=26) (m:=100) fun Γ=>A4.body (K:=K) (Ag.upto_ok K k) h,fun {p0 p1 p2 r} h=>xo (fn:=Tryz.f62) (n:=30) (m:=100) fun Γ=>Bl.body (K:=K) (Ag.upto_ok K k) h,fun {p0 r} h=>xo (fn:=Tryz.f137) (n:=9) (m:=100) fun Γ=>Bj.body (K:=K) (Ag.upto_ok K k) h,fun {p0 p1 p2 r} h=>xo (fn:=Tryz.f62) (n:=30) (m:=100) fun Γ=>Bp.body (K:=K) (Ag.upto_ok K k) h,fun {p0 r} h=>xo (fn:=Tryz.f122) (n:=9) (m:=100) fun Γ=>Bw.body (K:=K) (Ag.upto_ok K k) h,fun {p0 r} h=>xo (fn:=Tryz.f93) (n:=29) (m:=100) fun Γ=>Bi.body (K:=K) (Ag.upto_ok K k) h,fun {p0 p1 p2 r} h=>xo (fn:=Tryz.f62) (n:=30) (m:=100) fun Γ=>Bn.body (K:=K) (Ag.upto_ok K k) h,fun {p0 r} h=>xo (fn:=Tryz.f63) (n:=9) (m:=100) fun Γ=>B6.body (K:=K) (Ag.upto_ok K k) h,fun {p0 p1 p2 r} h=>xo (fn:=Tryz.f62) (n:=30) (m:=100) fun Γ=>Bo.body (K:=K) (Ag.upto_ok K k) h,fun {p0 r} h=>xo (fn:=Tryz.f32) (n:=9) (m:=100) fun Γ=>As.body (K:=K) (Ag.upto_ok K k) h⟩
def Ba (K:Nat) (p0:List UInt8) (p1:Ab):Option (((List Aa)×Ab) ⊕ Int):=(Ag.upto K K).Ba p0 p1
theorem Ba.okE {K:Nat} {p0:List UInt8} {p1:Ab} {r:((List Aa)×Ab) ⊕ Int} (h:Ba K p0 p1=some r):P7 V P 48 [.P 0,.cv (.str p0),.cv (.fn (.func 32) [.P 0] [])] [(0,.raw (Ae p1))] [0] (Ba.post p0 p1 r) (Ba.rep p0 p1 r):=(Ag.upto_ok K K).Ba h
def Bg (K:Nat) (p0:Int) (p1:List UInt8) (p2:Ab):Option ((Aa×Ab) ⊕ Int):=(Ag.upto K K).Bg p0 p1 p2
theorem Bg.okE {K:Nat} {p0:Int} {p1:List UInt8} {p2:Ab} {r:(Aa×Ab) ⊕ Int} (h:Bg K p0 p1 p2=some r):P7 V P 106 [.P 0,.I p0,.cv (.str p1)] [(0,.raw (Ae p2))] [0] (Bg.post p0 p1 p2 r) (Bg.rep p0 p1 p2 r):=(Ag.upto_ok K K).Bg h
def B1 (K:Nat) (p0:Ab):Option (Int ⊕ (Aa×Ab)):=(Ag.upto K K).B1 p0
theorem B1.okE {K:Nat} {p0:Ab} {r:Int ⊕ (Aa×Ab)} (h:B1 K p0=some r):P7 V P 166 [.P 0] [(0,.raw (Ae p0))] [0] (B1.post p0 r) (B1.rep p0 r):=(Ag.upto_ok K K).B1 h
def Bk (K:Nat) (p0:List UInt8) (p1:Ab):Option (((List Aa)×Ab) ⊕ Int):=(Ag.upto K K).Bk p0 p1
theorem Bk.okE {K:Nat} {p0:List UInt8} {p1:Ab} {r:((List Aa)×Ab) ⊕ Int} (h:Bk K p0 p1=some r):P7 V P 48 [.P 0,.cv (.str p0),.cv (.fn (.func 166) [.P 0] [])] [(0,.raw (Ae p1))] [0] (Bk.post p0 p1 r) (Bk.rep p0 p1 r):=(Ag.upto_ok K K).Bk h
def Bm (K:Nat) (p0:Ab):Option ((Aa×Ab) ⊕ Int):=(Ag.upto K K).Bm p0
theorem Bm.okE {K:Nat} {p0:Ab} {r:(Aa×Ab) ⊕ Int} (h:Bm K p0=some r):P7 V P 163 [.P 0] [(0,.raw (Ae p0))] [0] (Bm.post p0 r) (Bm.rep p0 r):=(Ag.upto_ok K K).Bm h
def A6 (K:Nat) (p0:Ab):Option (Int ⊕ (Aa×Ab)):=(Ag.upto K K).A6 p0
theorem A6.okE {K:Nat} {p0:Ab} {r:Int ⊕ (Aa×Ab)} (h:A6 K p0=some r):P7 V P 156 [.P 0] [(0,.raw (Ae p0))] [0] (A6.post p0 r) (A6.rep p0 r):=(Ag.upto_ok K K).A6 h
def A4 (K:Nat) (p0:Ab):Option (Int ⊕ (Aa×Ab)):=(Ag.upto K K).A4 p0
theorem A4.okE {K:Nat} {p0:Ab} {r:Int ⊕ (Aa×Ab)} (h:A4 K p0=some r):P7 V P 146 [.P 0] [(0,.raw (Ae p0))] [0] (A4.post p0 r) (A4.rep p0 r):=(Ag.upto_ok K K).A4 h
def Bl (K:Nat) (p0:List (List UInt8)) (p1:List Int) (p2:Ab):Option (Int ⊕ (Aa×Ab)):=(Ag.upto K K).Bl p0 p1 p2
theorem Bl.okE {K:Nat} {p0:List (List UInt8)} {p1:List Int} {p2:Ab} {r:Int ⊕ (Aa×Ab)} (h:Bl K p0 p1 p2=some r):P7 V P 62 [.P 0,.cv (.fn (.func 146) [.P 0] []),.cv (.ro .C4 p0),.cv (.ro .E8 p1)] [(0,.raw (Ae p2))] [0] (Bl.post p0 p1 p2 r) (Bl.rep p0 p1 p2 r):=(Ag.upto_ok K K).Bl h
def Bj (K:Nat) (p0:Ab):Option (Int ⊕ (Aa×Ab)):=(Ag.upto K K).Bj p0
theorem Bj.okE {K:Nat} {p0:Ab} {r:Int ⊕ (Aa×Ab)} (h:Bj K p0=some r):P7 V P 137 [.P 0] [(0,.raw (Ae p0))] [0] (Bj.post p0 r) (Bj.rep p0 r):=(Ag.upto_ok K K).Bj h
def Bp (K:Nat) (p0:List (List UInt8)) (p1:List Int) (p2:Ab):Option (Int ⊕ (Aa×Ab)):=(Ag.upto K K).Bp p0 p1 p2
theorem Bp.okE {K:Nat} {p0:List (List UInt8)} {p1:List Int} {p2:Ab} {r:Int ⊕ (Aa×Ab)} (h:Bp K p0 p1 p2=some r):P7 V P 62 [.P 0,.cv (.fn (.func 137) [.P 0] []),.cv (.ro .C4 p0),.cv (.ro .E8 p1)] [(0,.raw (Ae p2))] [0] (Bp.post p0 p1 p2 r) (Bp.rep p0 p1 p2 r):=(Ag.upto_ok K K).Bp h
def Bw (K:Nat) (p0:Ab):Option (Int ⊕ (Aa×Ab)):=(Ag.upto K K).Bw p0
theorem Bw.okE {K:Nat} {p0:Ab} {r:Int ⊕ (Aa×Ab)} (h:Bw K p0=some r):P7 V P 122 [.P 0] [(0,.raw (Ae p0))] [0] (Bw.post p0 r) (Bw.rep p0 r):=(Ag.upto_ok K K).Bw h
def Bi (K:Nat) (p0:Ab):Option (Int ⊕ (Aa×Ab)):=(Ag.upto K K).Bi p0
theorem Bi.okE {K:Nat} {p0:Ab} {r:Int ⊕ (Aa×Ab)} (h:Bi K p0=some r):P7 V P 93 [.P 0] [(0,.raw (Ae p0))] [0] (Bi.post p0 r) (Bi.rep p0 r):=(Ag.upto_ok K K).Bi h
def Bn (K:Nat) (p0:List (List UInt8)) (p1:List Int) (p2:Ab):Option (Int ⊕ (Aa×Ab)):=(Ag.upto K K).Bn p0 p1 p2
theorem Bn.okE {K:Nat} {p0:List (List UInt8)} {p1:List Int} {p2:Ab} {r:Int ⊕ (Aa×Ab)} (h:Bn K p0 p1 p2=some r):P7 V P 62 [.P 0,.cv (.fn (.func 93) [.P 0] []),.cv (.ro .C4 p0),.cv (.ro .E8 p1)] [(0,.raw (Ae p2))] [0] (Bn.post p0 p1 p2 r) (Bn.rep p0 p1 p2 r):=(Ag.upto_ok K K).Bn h
def B6 (K:Nat) (p0:Ab):Option (Int ⊕ (Aa×Ab)):=(Ag.upto K K).B6 p0
theorem B6.okE {K:Nat} {p0:Ab} {r:Int ⊕ (Aa×Ab)} (h:B6 K p0=some r):P7 V P 63 [.P 0] [(0,.raw (Ae p0))] [0] (B6.post p0 r) (B6.rep p0 r):=(Ag.upto_ok K K).B6 h
def Bo (K:Nat) (p0:List (List UInt8)) (p1:List Int) (p2:Ab):Option (Int ⊕ (Aa×Ab)):=(Ag.upto K K).Bo p0 p1 p2
theorem Bo.okE {K:Nat} {p0:List (List UInt8)} {p1:List Int} {p2:Ab} {r:Int ⊕ (Aa×Ab)} (h:Bo K p0 p1 p2=some r):P7 V P 62 [.P 0,.cv (.fn (.func 63) [.P 0] []),.cv (.ro .C4 p0),.cv (.ro .E8 p1)] [(0,.raw (Ae p2))] [0] (Bo.post p0 p1 p2 r) (Bo.rep p0 p1 p2 r):=(Ag.upto_ok K K).Bo h
def As (K:Nat) (p0:Ab):Option (Int ⊕ (Aa×Ab)):=(Ag.upto K K).As p0
theorem As.okE {K:Nat} {p0:Ab} {r:Int ⊕ (Aa×Ab)} (h:As K p0=some r):P7 V P 32 [.P 0] [(0,.raw (Ae p0))] [0] (As.post p0 r) (As.rep p0 r):=(Ag.upto_ok K K).As h
structure D9 where
 C2:Aa→Option Int
structure D9.Ok (R:D9):Prop where
 C2:∀ {p0:Aa} {r:Int},R.C2 p0=some r→Pm V P 21 [.agg (Ah p0)] [] [] (.I r) []
theorem C2.okR {R:D9} (hR:R.Ok) {p0:Aa} {r:Int} (h:R.C2 p0=some r):Pr V P 21 [.agg (Ah p0)] (.I r):=(hR.C2 h).pcall (by kernel_rfl)
def C2.l9 (K:Nat) (R:D9) (p0:Aa):Nat→Int→Int→Option Int
 | 0,_,_=>none
 | k+1,b,a=>(if a <(p0.Kids.length:Int) then (if (0:Int)≤a∧(a:Int) <(p0.Kids.length:Int) then (Option.bind (R.C2 (p0.Kids.getD (Int.toNat a) Ca)) (fun a1=>C2.l9 K R p0 k (IntKind.i64.wrap (b+a1)) (IntKind.i64.wrap (a+1)))) else none) else some b)
def C2.F (K:Nat) (R:D9) (p0:Aa):Option Int:=(Option.bind (C2.l9 K R p0 K 1 0:Option Int) (fun a=>some a))
theorem C2.body {Γ:P4} {K:Nat} {R:D9} (hR:R.Ok) {p0:Aa} {r:Int} (h:C2.F K R p0=some r):P1 V P 19 100 Γ (Tryz.f21.body.getD .skip) (Po P V Tryz.f21 (.I r) []) ⟨Pn 0 [.agg (Ah p0)],[]⟩:=by
 unfold C2.F at h;refine Pl L 200 <| Pl L 203 <| Pb <| Pl L 205 <| Pj <| kp (S':=⟨[(3,.I 1),(7,.cv (.ro .Af p0.Kids)),(8,.I (p0.Kids.length:Int)),(9,.I 0)],[]⟩) ?_;obtain ⟨o1,hp1,h⟩:=bind_some h;refine Pu (Q':=fun e S=>(e=.exit 0∧∃ c:Int,S=⟨[(3,.I c)],[]⟩∧c=o1)) (Pz (fun k S=>∃ a:Int,∃ b:Int,S=⟨[(3,.I a),(7,.cv (.ro .Af p0.Kids)),(8,.I (p0.Kids.length:Int)),(9,.I b)],[]⟩∧C2.l9 K R p0 k a b=some o1) ?_ ⟨_,_,rfl,hp1⟩) ?_
 ·clear h hp1;intro k S hS;obtain ⟨a,b,rfl,h⟩:=hS;cases k with
  | zero=>cases h
  | succ k =>
  unfold C2.l9 at h;refine Pl L 210 <| Pb ?_;rcases Pc h with ⟨c1,h⟩ |⟨c1,h⟩
  ·refine tT c1 <| Pg <| Pb <| Pj <| Pb ?_;obtain ⟨g1,h⟩:=Ph h;refine rg L 212 [] [] [] (Q2 g1.1 g1.2) ?_;obtain ⟨a1,h1,h⟩:=bind_some h;refine rg L 217 [] [(2,.I a1)] [] (Qu (C2.okR hR h1)) ?_;refine Se L 223 [] [] [] (S':=⟨[(3,.I (IntKind.i64.wrap (a+a1))),(7,.cv (.ro .Af p0.Kids)),(8,.I (p0.Kids.length:Int)),(9,.I (IntKind.i64.wrap (b+1)))],[]⟩) ?_;exact ⟨k,Nat.lt_succ_self k,_,_,rfl,h⟩
  refine fF c1 <| ex (S':=⟨[(3,.I a)],[]⟩) ?_;cases h;exact ⟨rfl,_,rfl,rfl⟩
 ·rintro e S ⟨rfl,c,rfl,rfl⟩;refine ⟨_,Pa.refl,?_⟩;refine Pl L 226 <| Pd ?_;cases h;exact Pt
def D9.upto (K:Nat):Nat→D9
 | 0=>⟨fun _=>none⟩
 | k+1=>⟨C2.F K (D9.upto K k)⟩
theorem D9.upto_ok (K:Nat):∀ k,(D9.upto K k).Ok
 | 0=>⟨fun h=>(by cases h)⟩
 | k+1=>⟨fun {p0 r} h=>eo (fn:=Tryz.f21) (n:=19) (m:=100) fun Γ=>C2.body (K:=K) (D9.upto_ok K k) h⟩
def C2 (K:Nat) (p0:Aa):Option Int:=(D9.upto K K).C2 p0
theorem C2.okE {K:Nat} {p0:Aa} {r:Int} (h:C2 K p0=some r):Pm V P 21 [.agg (Ah p0)] [] [] (.I r) []:=(D9.upto_ok K K).C2 h
theorem C2.ok {K:Nat} {p0:Aa} {r:Int} (h:C2 K p0=some r):Pr V P 21 [.agg (Ah p0)] (.I r):=(C2.okE h).pcall (by kernel_rfl)
structure D5 where
 Cz:Aa→Option Int
structure D5.Ok (R:D5):Prop where
 Cz:∀ {p0:Aa} {r:Int},R.Cz p0=some r→Pm V P 22 [.agg (Ah p0)] [] [] (.I r) []
theorem Cz.okR {R:D5} (hR:R.Ok) {p0:Aa} {r:Int} (h:R.Cz p0=some r):Pr V P 22 [.agg (Ah p0)] (.I r):=(hR.Cz h).pcall (by kernel_rfl)
def Cz.l9 (K:Nat) (R:D5) (p0:Aa):Nat→Int→Int→Option Int
 | 0,_,_=>none
 | k+1,b,a=>(if a <(p0.Kids.length:Int) then (if (0:Int)≤a∧(a:Int) <(p0.Kids.length:Int) then (Option.bind (R.Cz (p0.Kids.getD (Int.toNat a) Ca)) (fun a1=>Cz.l9 K R p0 k (if a1 > b then a1 else b) (IntKind.i64.wrap (a+1)))) else none) else some b)
def Cz.F (K:Nat) (R:D5) (p0:Aa):Option Int:=(Option.bind (Cz.l9 K R p0 K 0 0:Option Int) (fun a=>some (IntKind.i64.wrap (a+1))))
theorem Cz.body {Γ:P4} {K:Nat} {R:D5} (hR:R.Ok) {p0:Aa} {r:Int} (h:Cz.F K R p0=some r):P1 V P 20 100 Γ (Tryz.f22.body.getD .skip) (Po P V Tryz.f22 (.I r) []) ⟨Pn 0 [.agg (Ah p0)],[]⟩:=by
 unfold Cz.F at h;refine Pl L 200 <| Pl L 203 <| Pb <| Pl L 205 <| Pj <| kp (S':=⟨[(3,.I 0),(7,.cv (.ro .Af p0.Kids)),(8,.I (p0.Kids.length:Int)),(9,.I 0)],[]⟩) ?_;obtain ⟨o1,hp1,h⟩:=bind_some h;refine Pu (Q':=fun e S=>(e=.exit 0∧∃ c:Int,S=⟨[(3,.I c)],[]⟩∧c=o1)) (Pz (fun k S=>∃ a:Int,∃ b:Int,S=⟨[(3,.I a),(7,.cv (.ro .Af p0.Kids)),(8,.I (p0.Kids.length:Int)),(9,.I b)],[]⟩∧Cz.l9 K R p0 k a b=some o1) ?_ ⟨_,_,rfl,hp1⟩) ?_
 ·clear h hp1;intro k S hS;obtain ⟨a,b,rfl,h⟩:=hS;cases k with
  | zero=>cases h
  | succ k =>
  unfold Cz.l9 at h;refine Pl L 210 <| Pb ?_;rcases Pc h with ⟨c1,h⟩ |⟨c1,h⟩
  ·refine tT c1 <| Pg <| Pb <| Pj <| Pb ?_;obtain ⟨g1,h⟩:=Ph h;refine rg L 212 [] [] [] (Q2 g1.1 g1.2) ?_;obtain ⟨a1,h1,h⟩:=bind_some h;refine rg L 217 [] [(2,.I a1)] [] (Qu (Cz.okR hR h1)) ?_;refine Se L 223 [] [] [] (S':=⟨[(3,.I (if a1 > a then a1 else a)),(7,.cv (.ro .Af p0.Kids)),(8,.I (p0.Kids.length:Int)),(9,.I (IntKind.i64.wrap (b+1)))],[]⟩) ?_;exact ⟨k,Nat.lt_succ_self k,_,_,rfl,h⟩
  refine fF c1 <| ex (S':=⟨[(3,.I a)],[]⟩) ?_;cases h;exact ⟨rfl,_,rfl,rfl⟩
 ·rintro e S ⟨rfl,c,rfl,rfl⟩;refine ⟨_,Pa.refl,?_⟩;refine Pl L 226 <| Pd ?_;cases h;exact Pt
def D5.upto (K:Nat):Nat→D5
 | 0=>⟨fun _=>none⟩
 | k+1=>⟨Cz.F K (D5.upto K k)⟩
theorem D5.upto_ok (K:Nat):∀ k,(D5.upto K k).Ok
 | 0=>⟨fun h=>(by cases h)⟩
 | k+1=>⟨fun {p0 r} h=>eo (fn:=Tryz.f22) (n:=20) (m:=100) fun Γ=>Cz.body (K:=K) (D5.upto_ok K k) h⟩
def Cz (K:Nat) (p0:Aa):Option Int:=(D5.upto K K).Cz p0
theorem Cz.okE {K:Nat} {p0:Aa} {r:Int} (h:Cz K p0=some r):Pm V P 22 [.agg (Ah p0)] [] [] (.I r) []:=(D5.upto_ok K K).Cz h
theorem Cz.ok {K:Nat} {p0:Aa} {r:Int} (h:Cz K p0=some r):Pr V P 22 [.agg (Ah p0)] (.I r):=(Cz.okE h).pcall (by kernel_rfl)
def Ep (K:Nat) (p0:List Ap) (p1:Int):Option (Int ⊕ (Aa×Int×Int)):=(Option.bind (As K (⟨p0,0⟩:Ab)) (fun a1=>match a1 with |(Sum.inl a1)=>some (Sum.inl a1) |(Sum.inr (a,b))=>(Option.bind (Bq K b) (fun a2=>(if a2.Kind≠0 then (Option.bind (Bf K b) (fun a3=>some (Sum.inl a3))) else (Option.bind (C2 K a) (fun a4=>(if a4 > 4000 then some (Sum.inr ((⟨0,[],0,[],([]:List Aa)⟩:Aa),0,6)) else (Option.bind (Cz K a) (fun a5=>(if a5 > 40 then some (Sum.inr ((⟨0,[],0,[],([]:List Aa)⟩:Aa),0,7)) else some (Sum.inr (a,0,0)))))))))))))
def Ep.rep (p0:List Ap) (p1:Int):Int ⊕ (Aa×Int×Int)→Qo T
 |(Sum.inl v0)=>.pan (P8 49 v0)
 |(Sum.inr (v0,v1,v2))=>.ret (.tup [.agg [.I v0.Op,.str v0.Name,.I v0.Int,.str v0.Text,.ro .Af v0.Kids],.I v1,.I v2])
theorem Ep.body {Γ:P4} {K:Nat} {p0:List Ap} {p1:Int} {r:Int ⊕ (Aa×Int×Int)} (h:Ep K p0 p1=some r):P1 V P 44 93 Γ (P5 (P5 (P5 (P5 (Tryz.f25.body.getD .skip))))) (Tp P V Tryz.f25 (Ep.rep p0 p1 r)) ⟨[(1,.cv (.fn (.func 32) [] [])),(4,.P 90),(5,.P 91),(6,.P 92),(7,.cv (.ro .Am p0))],[(90,.raw [.I 0,.str [],.I 0,.str [],.N]),(91,.raw [.I p1]),(92,.raw [.I 0])]⟩:=by
 unfold Ep at h;refine Pl L 200 <| Pb ?_;obtain ⟨a1,h1,h⟩:=bind_some h;rcases a1 with a1 | a1
 ·dsimp only at h;refine pn L 205 [] [] [] 2 [4,5,6] [90,91,92] (ef [0] [0] (.tup []) [] [(0,202)]) (P8 49 a1) (cs:=[Zl V P 32 [.P 0] [(0,.raw [.ro .Am p0,.I 0])] (P8 49 a1)]) (S':=⟨[(4,.P 90),(5,.P 91),(6,.P 92)],[(90,.raw [.I 0,.str [],.I 0,.str [],.N]),(91,.raw [.I p1]),(92,.raw [.I 0])]⟩) (As.okE h1) ?_;cases h;exact (rp:Tp P V Tryz.f25 (Ep.rep p0 p1 (Sum.inl a1)) _ _)
 ·obtain ⟨a,b⟩:=a1;dsimp only at h;refine rg L 205 [] [] [(2,(ef [0] [0] (.agg (Ah a)) [(0,.raw (Ae b))] [(0,202)]))] (Pk (As.okE h1)) ?_;refine Pb <| Pb ?_;obtain ⟨a2,h2,h⟩:=bind_some h;refine rg L 210 [] [(1,.agg (D3 a2))] [] (Qu (Bq.ok h2)) ?_;rcases Pc h with ⟨c1,h⟩ |⟨c1,h⟩
  ·refine tT c1 ?_;obtain ⟨a3,h3,h⟩:=bind_some h;refine pn L 215 [] [] [] 1 [4,5,6] [90,91,92] (ef [0] [0] (.tup []) [] [(0,202)]) (P8 49 a3) (cs:=[Zl V P 43 [.P 0] [(0,.raw (Ae b))] (P8 49 a3)]) (S':=⟨[(4,.P 90),(5,.P 91),(6,.P 92)],[(90,.raw (Ah a)),(91,.raw [.I p1]),(92,.raw [.I 0])]⟩) (Bf.okE h3) ?_;cases h;exact (rp:Tp P V Tryz.f25 (Ep.rep p0 p1 (Sum.inl a3)) _ _)
  refine fF c1 <| Pg <| Pb <| Pj <| Pb ?_;obtain ⟨a4,h4,h⟩:=bind_some h;refine rg L 218 [] [(1,.I a4)] [] (Qu (C2.ok h4)) ?_;rcases Pc h with ⟨c2,h⟩ |⟨c2,h⟩
  ·refine tT c2 <| Pl L 223 <| Pd ?_;cases h;exact rr0
  refine fF c2 <| Pb ?_;obtain ⟨a5,h5,h⟩:=bind_some h;refine rg L 228 [] [(1,.I a5)] [] (Qu (Cz.ok h5)) ?_;rcases Pc h with ⟨c3,h⟩ |⟨c3,h⟩
  ·refine tT c3 <| Pl L 233 <| Pd ?_;cases h;exact rr0
  refine fF c3 <| Pg <| Pl L 238 <| Pd ?_;cases h;exact rr0
def F6:Int ⊕ (Aa×Int×Int)→Aa×Int×Int
 |(Sum.inl v0)=>(Ca,v0,29)
 |(Sum.inr (v0,v1,v2))=>(v0,v1,v2)
def Fh (K:Nat) (p0:List UInt8):Option (Aa×Int×Int):=Option.bind (Ed K p0) (fun (c,a,b)=>if b≠0 then some (Ca,a,b) else Option.bind (Ep K c a) (fun x=>some (F6 x)))
theorem Fh.ok {K:Nat} {p0:List UInt8} {r:Aa×Int×Int} (h:Fh K p0=some r):Pr V P 25 [.cv (.str p0),.cv (.fn (.func 32) [] [])] (.tup [.agg (Ah r.1),.I r.2.1,.I r.2.2]):=by
 unfold Fh at h;obtain ⟨⟨l,at0,e0⟩,h1,h⟩:=bind_some h;dsimp only at h;by_cases he:e0≠0
 ·rw [if_pos he] at h;obtain rfl:=Option.some.inj h;exact I7 (Ed.ok h1) he
 ·rw [if_neg he] at h;obtain ⟨x,h2,h⟩:=bind_some h;obtain rfl:=Option.some.inj h;have he0:e0=0:=Decidable.not_not.1 he;subst he0;refine Io (o:=Ep.rep l at0 x) (Ed.ok h1) (fun Γ=>Ep.body h2) ?_;rcases x with v0 |⟨v0,v1,v2⟩
  ·exact .inr ⟨v0,rfl,rfl⟩
  ·exact .inl rfl
def Em (K:Nat) (p0:List UInt8):Option (Aa×Int×Int):=(Option.bind (Fh K p0) (fun (a,b,c)=>some (a,b,c)))
theorem Em.body {Γ:P4} {K:Nat} {p0:List UInt8} {r:Aa×Int×Int} (h:Em K p0=some r):P1 V P 10 100 Γ (Tryz.f15.body.getD .skip) (Po P V Tryz.f15 (.tup [.agg [.I r.1.Op,.str r.1.Name,.I r.1.Int,.str r.1.Text,.ro .Af r.1.Kids],.I r.2.1,.I r.2.2]) []) ⟨Pn 0 [.cv (.str p0)],[]⟩:=by
 unfold Em at h;refine Pl L 200 <| Pb ?_;obtain ⟨⟨a,b,c⟩,h1,h⟩:=bind_some h;dsimp only at h;refine rg L 204 [] [(1,.tup [.agg (Ah a),.I b,.I c])] [] (Qu (Fh.ok h1)) ?_;refine Pe (Pa.trans (Pa.kk [2,3,4] [200]) (Pa.rr [(200,100)])) ?_;refine Pd ?_;cases h;exact Pt
theorem Em.ok {K:Nat} {p0:List UInt8} {r:Aa×Int×Int} (h:Em K p0=some r):Pr V P 15 [.cv (.str p0)] (.tup [.agg [.I r.1.Op,.str r.1.Name,.I r.1.Int,.str r.1.Text,.ro .Af r.1.Kids],.I r.2.1,.I r.2.2]):=Pm.pcall (eo (fn:=Tryz.f15) (n:=10) (m:=100) fun Γ=>Em.body h) (by kernel_rfl)
def Cy (K:Nat) (p0:Ab):Option (Int ⊕ (Aa×Ab)):=(Option.bind (Ak K ([45]:List UInt8) p0) (fun (c,a)=>(if c=true then (Option.bind (Bq K a) (fun a2=>(if a2.Kind≠3 then (Option.bind (Bf K a) (fun a3=>some (Sum.inl a3))) else (Option.bind (Dr K a) (fun (d,e)=>(Option.bind (Co K 14 ([(⟨4,[],d.Int,[],([]:List Aa)⟩:Aa)]:List Aa)) (fun a5=>some (Sum.inr (a5,e))))))))) else (Option.bind (Do K a) (fun (f,g,b)=>(if g=true then some (Sum.inr (f,b)) else (Option.bind (Bf K b) (fun a7=>some (Sum.inl a7)))))))))
def Cy.rep (p0:Ab):Int ⊕ (Aa×Ab)→Qo T
 |(Sum.inl v0)=>.pan (P8 49 v0)
 |(Sum.inr (v0,v1))=>.ret (.agg [.I v0.Op,.str v0.Name,.I v0.Int,.str v0.Text,.ro .Af v0.Kids])
def Cy.post (p0:Ab):Int ⊕ (Aa×Ab)→List (Nat×P0 T)
 |(Sum.inl v0)=>[]
 |(Sum.inr (v0,v1))=>[(0,.raw [.ro .Am v1.l,.I v1.i])]
theorem Cy.body {Γ:P4} {K:Nat} {p0:Ab} {r:Int ⊕ (Aa×Ab)} (h:Cy K p0=some r):P1 V P 29 100 Γ (Tryz.f47.body.getD .skip) (P9 P V Tryz.f47 (Cy.rep p0 r) (Cy.post p0 r)) ⟨Pn 0 [.P 0],[(0,.raw (Ae p0))]⟩:=by
 unfold Cy at h;refine Pl L 200 <| Pb <| Pb ?_;obtain ⟨⟨c,d⟩,h1,h⟩:=bind_some h;dsimp only at h;refine rg L 202 [] [] [(1,(Pv (.B c) [(0,.raw (Ae d))]))] (Pk (Ak.okE h1)) ?_;rcases Pc h with ⟨c1,h⟩ |⟨c1,h⟩
 ·refine tt c1 <| Pb <| Pb ?_;obtain ⟨a2,h2,h⟩:=bind_some h;refine rg L 205 [] [(1,.agg (D3 a2))] [] (Qu (Bq.ok h2)) ?_;rcases Pc h with ⟨c2,h⟩ |⟨c2,h⟩
  ·refine tT c2 ?_;obtain ⟨a3,h3,h⟩:=bind_some h;refine qn L 210 [] [] [] 1 (Pv (.tup []) []) (P8 49 a3) (Pk (Bf.okE h3)) ?_;cases h;exact rfl
  refine fF c2 <| Pg <| Pb ?_;obtain ⟨⟨e,f⟩,h4,h⟩:=bind_some h;dsimp only at h;obtain ⟨a5,h5,h⟩:=bind_some h;refine rg L 213 [] [(5,.agg (Ah a5))] [(1,(Pv (.agg (D3 e)) [(0,.raw (Ae f))]))] (Pf (Dr.okE h4) (Pf (Co.ok h5) (Pk trivial))) ?_;refine Pe (Pa.trans (Pa.kk [2] [0,200]) (Pa.rr [(0,0),(200,100)])) ?_;refine Pd ?_;cases h;exact Ra
 refine fN c1 <| Pg <| Pb ?_;obtain ⟨⟨g,a,i⟩,h6,h⟩:=bind_some h;dsimp only at h;refine rg L 221 [] [] [(1,(Pv (.tup [.agg (Ah g),.B a]) [(0,.raw (Ae i))]))] (Pk (Do.okE h6)) ?_;refine Pb <| Pl L 230 ?_;rcases Pc h with ⟨c3,h⟩ |⟨c3,h⟩
 ·refine ff (b:=(!a)) (congrArg Bool.not (c3)) ?_;refine Pg <| Pl L 236 <| Pe (Pa.trans (Pa.kk [2] [0,200]) (Pa.rr [(0,0),(200,100)])) ?_;refine Pd ?_;cases h;exact Ra
 refine tt (b:=(!a)) (congrArg Bool.not (eq_false_of_ne_true c3)) ?_;obtain ⟨a7,h7,h⟩:=bind_some h;refine qn L 233 [] [] [] 1 (Pv (.tup []) []) (P8 49 a7) (Pk (Bf.okE h7)) ?_;cases h;exact rfl
theorem Cy.okE {K:Nat} {p0:Ab} {r:Int ⊕ (Aa×Ab)} (h:Cy K p0=some r):P7 V P 47 [.P 0] [(0,.raw (Ae p0))] [0] (Cy.post p0 r) (Cy.rep p0 r) :=
 xo (fn:=Tryz.f47) (n:=29) (m:=100) fun Γ=>Cy.body h
def Ct (K:Nat) (p0:Ab):Option (Int ⊕ (Aa×Ab)):=(Option.bind (Au K p0) (fun a1=>match a1 with |(Sum.inl a1)=>some (Sum.inl a1) |(Sum.inr (a,b))=>some (Sum.inr ((⟨6,a,0,[],([]:List Aa)⟩:Aa),b))))
def Ct.rep (p0:Ab):Int ⊕ (Aa×Ab)→Qo T
 |(Sum.inl v0)=>.pan (P8 49 v0)
 |(Sum.inr (v0,v1))=>.ret (.agg [.I v0.Op,.str v0.Name,.I v0.Int,.str v0.Text,.ro .Af v0.Kids])
def Ct.post (p0:Ab):Int ⊕ (Aa×Ab)→List (Nat×P0 T)
 |(Sum.inl v0)=>[]
 |(Sum.inr (v0,v1))=>[(0,.raw [.ro .Am v1.l,.I v1.i])]
theorem Ct.body {Γ:P4} {K:Nat} {p0:Ab} {r:Int ⊕ (Aa×Ab)} (h:Ct K p0=some r):P1 V P 6 100 Γ (Tryz.f49.body.getD .skip) (P9 P V Tryz.f49 (Ct.rep p0 r) (Ct.post p0 r)) ⟨Pn 0 [.P 0],[(0,.raw (Ae p0))]⟩:=by
 unfold Ct at h;refine Pl L 200 <| Pb ?_;obtain ⟨a1,h1,h⟩:=bind_some h;rcases a1 with a1 | a1
 ·dsimp only at h;refine qn L 202 [] [] [] 1 (Pv (.tup []) []) (P8 49 a1) (Pk (Au.okE h1)) ?_;cases h;exact rfl
 ·obtain ⟨a,b⟩:=a1;dsimp only at h;refine rg L 202 [] [] [(1,(Pv (.cv (.str a)) [(0,.raw (Ae b))]))] (Pk (Au.okE h1)) ?_;refine Pe (Pa.trans (Pa.kk [2] [0,200]) (Pa.rr [(0,0),(200,100)])) ?_;refine Pd ?_;cases h;exact Ra
theorem Ct.okE {K:Nat} {p0:Ab} {r:Int ⊕ (Aa×Ab)} (h:Ct K p0=some r):P7 V P 49 [.P 0] [(0,.raw (Ae p0))] [0] (Ct.post p0 r) (Ct.rep p0 r) :=
 xo (fn:=Tryz.f49) (n:=6) (m:=100) fun Γ=>Ct.body h
end Go.Proofs.YtifjagfmfkemmaaGreatDoor
