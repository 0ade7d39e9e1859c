import Derived.Test.YtifjagfmfkemmaaGreatDoorPd
set_option linter.unusedVariables false
set_option maxHeartbeats 0
namespace Go.Proofs.YtifjagfmfkemmaaGreatDoor
open Eng
def Cc (K:Nat) (p0:Aw) (p1:Int):Option Int:=(if (IntKind.i64.wrap (p0.at_+p1))≥(p0.src.length:Int) then some (-1) else (if (0:Int)≤(IntKind.i64.wrap (p0.at_+p1))∧((IntKind.i64.wrap (p0.at_+p1)):Int) <(p0.src.length:Int) then some ((IntKind.i32.wrap ((p0.src.getD (Int.toNat (IntKind.i64.wrap (p0.at_+p1))) 0).toNat:Int))) else none))
theorem Cc.body {Γ:Ud} {K:Nat} {p0:Aw} {p1:Int} {r:Int} (h:Cc K p0 p1=some r):Ub V P 29 100 Γ (Tryz.f97.body.getD .skip) (Ty P V Tryz.f97 (.cv (.lit (.int .i32 r))) []) ⟨Tx 0 [.cv (.pcs (A6 p0) 0),.I p1],[]⟩:=by
 unfold Cc at h;refine Tw L 200 <| Tm <| sd' L mixed 202 [] [] [] [] 12 pl0 ?_;rcases Tn h with ⟨c1,h⟩ |⟨c1,h⟩
 ·refine tT c1 <| Tw L 215 <| To ?_;cases h;exact T3
 refine fF c1 <| Tr <| Tm ?_;obtain ⟨g1,h⟩:=Ts h;refine rd L mixed 217 [] [] [] [] 13 (Vf g1.1 g1.2) ?_;refine To ?_;cases h;exact T3
theorem Cc.ok {K:Nat} {p0:Aw} {p1:Int} {r:Int} (h:Cc K p0 p1=some r):T1 V P 97 [.cv (.pcs (A6 p0) 0),.I p1] (.cv (.lit (.int .i32 r))):=Tv.pcall (eo (fn:=Tryz.f97) (n:=29) (m:=100) fun Γ=>Cc.body h) (by kernel_rfl)
def E0 (K:Nat) (p0:Int):Option Bool:=(if p0=32 then some true else (if p0=9 then some true else some (decide (p0=10))))
theorem E0.body {Γ:Ud} {K:Nat} {p0:Int} {r:Bool} (h:E0 K p0=some r):Ub V P 13 100 Γ (Tryz.f71.body.getD .skip) (Ty P V Tryz.f71 (.B r) []) ⟨Tx 0 [.cv (.lit (.int .i32 p0))],[]⟩:=by
 unfold E0 at h;refine Tw L 200 <| Tm ?_;rcases Tn h with ⟨c1,h⟩ |⟨c1,h⟩
 ·refine rg L 202 [(2,true)] [] [] (Tu (decide_eq_true c1)) ?_;refine To ?_;cases h;exact T3
 rcases Tn h with ⟨c2,h⟩ |⟨c2,h⟩
 ·refine rg L 202 [(2,false),(6,true)] [] [] (Vf (decide_eq_false c1) (decide_eq_true c2)) ?_;refine To ?_;cases h;exact T3
 refine rg L 202 [(2,false),(6,false)] [] [] (Vf (decide_eq_false c1) (decide_eq_false c2)) ?_;refine To ?_;cases h;exact T3
theorem E0.ok {K:Nat} {p0:Int} {r:Bool} (h:E0 K p0=some r):T1 V P 71 [.cv (.lit (.int .i32 p0))] (.B r):=Tv.pcall (eo (fn:=Tryz.f71) (n:=13) (m:=100) fun Γ=>E0.body h) (by kernel_rfl)
def C7.l7 (K:Nat) (p0:Aw):Nat→Int→Option Int
 | 0,_=>none
 | k+1,a=>(Option.bind (Cc K (⟨p0.src,a⟩:Aw) 0) (fun a1=>(Option.bind (E0 K a1) (fun a2=>(if a2=true then C7.l7 K p0 k (IntKind.i64.wrap (a+1)) else some a)))))
def C7 (K:Nat) (p0:Aw):Option ((List UInt8)×Aw):=(Option.bind (C7.l7 K p0 K p0.at_:Option Int) (fun a=>(if (0:Int)≤p0.at_∧p0.at_≤a∧a≤(p0.src.length:Int) then some ((slc p0.src p0.at_ a),(⟨p0.src,a⟩:Aw)) else none)))
theorem C7.body {Γ:Ud} {K:Nat} {p0:Aw} {r:(List UInt8)×Aw} (h:C7 K p0=some r):Ub V P 31 100 Γ (Tryz.f70.body.getD .skip) (Ty P V Tryz.f70 (.cv (.str r.1)) [(0,.raw [.str r.2.src,.I r.2.at_])]) ⟨Tx 0 [.P 0,.cv (.fn (.func 71) [] [])],[(0,.raw (A6 p0))]⟩:=by
 unfold C7 at h;refine Tw L 200 <| Tw L 202 <| Tm <| Tt <| kp (S':=⟨[(0,.P 0),(1,.cv (.fn (.func 71) [] [])),(5,.I p0.at_)],[(0,.raw (A6 p0))]⟩) ?_;obtain ⟨o1,hp1,h⟩:=bind_some h;refine T4 (Q':=fun e S=>(e=.exit 0∧∃ b:Int,S=⟨[(0,.P 0),(5,.I p0.at_)],[(0,.raw [.str p0.src,.I b])]⟩∧b=o1)) (T8 (fun k S=>∃ a:Int,S=⟨[(0,.P 0),(1,.cv (.fn (.func 71) [] [])),(5,.I p0.at_)],[(0,.raw [.str p0.src,.I a])]⟩∧C7.l7 K p0 k a=some o1) ?_ ⟨_,rfl,hp1⟩) ?_
 ·clear h hp1;intro k S hS;obtain ⟨a,rfl,h⟩:=hS;cases k with
  | zero=>cases h
  | succ k =>
  unfold C7.l7 at h;refine Tm <| Tm ?_;obtain ⟨a1,h1,h⟩:=bind_some h;obtain ⟨a2,h2,h⟩:=bind_some h;refine rg L 208 [] [(2,.cv (.lit (.int .i32 a1))),(3,.B a2)] [] (Tq (Cc.ok h1) (Tq trivial (Tq (E0.ok h2) (Tu trivial)))) ?_;rcases Tn h with ⟨c1,h⟩ |⟨c1,h⟩
  ·refine tt c1 <| Tr <| Tt <| Xi L 213 [] [] [] (S':=⟨[(0,.P 0),(1,.cv (.fn (.func 71) [] [])),(5,.I p0.at_)],[(0,.raw [.str p0.src,.I (IntKind.i64.wrap (a+1))])]⟩) ?_;exact ⟨k,Nat.lt_succ_self k,_,rfl,h⟩
  refine fN c1 <| ex (S':=⟨[(0,.P 0),(5,.I p0.at_)],[(0,.raw [.str p0.src,.I a])]⟩) ?_;cases h;exact ⟨rfl,_,rfl,rfl⟩
 ·rintro e S ⟨rfl,b,rfl,rfl⟩;refine ⟨_,Tl.refl,?_⟩;refine Tm ?_;obtain ⟨g1,h⟩:=Ts h;refine rd L mixed 222 [] [] [] [] 11 (Tq g1.1 (Tq g1.2.1 (Tu g1.2.2))) ?_;refine To ?_;cases h;exact T3
theorem C7.okE {K:Nat} {p0:Aw} {r:(List UInt8)×Aw} (h:C7 K p0=some r):Tv V P 70 [.P 0,.cv (.fn (.func 71) [] [])] [(0,.raw (A6 p0))] [0] (.cv (.str r.1)) [(0,.raw [.str r.2.src,.I r.2.at_])] :=
 eo (fn:=Tryz.f70) (n:=31) (m:=100) fun Γ=>C7.body h
def Ei (K:Nat) (p0:Int):Option Bool:=(if p0≥97 then (if p0≤122 then some true else (if p0≥65 then (if p0≤90 then some true else some (decide (p0=95))) else some (decide (p0=95)))) else (if p0≥65 then (if p0≤90 then some true else some (decide (p0=95))) else some (decide (p0=95))))
theorem Ei.body {Γ:Ud} {K:Nat} {p0:Int} {r:Bool} (h:Ei K p0=some r):Ub V P 21 100 Γ (Tryz.f98.body.getD .skip) (Ty P V Tryz.f98 (.B r) []) ⟨Tx 0 [.cv (.lit (.int .i32 p0))],[]⟩:=by
 unfold Ei at h;refine Tw L 200 <| Tm ?_;rcases Tn h with ⟨c1,h⟩ |⟨c1,h⟩
 ·rcases Tn h with ⟨c2,h⟩ |⟨c2,h⟩
  ·refine rg L 202 [(2,true),(6,true)] [] [] (Vf (decide_eq_true c1) (decide_eq_true c2)) ?_;refine To ?_;cases h;exact T3
  rcases Tn h with ⟨c3,h⟩ |⟨c3,h⟩
  ·rcases Tn h with ⟨c4,h⟩ |⟨c4,h⟩
   ·refine rg L 202 [(2,true),(6,false),(9,true),(14,true)] [] [] (Tq (decide_eq_true c1) (Tq (decide_eq_false c2) (Tq (decide_eq_true c3) (Tu (decide_eq_true c4))))) ?_;refine To ?_;cases h;exact T3
   refine rg L 202 [(2,true),(6,false),(9,true),(14,false)] [] [] (Tq (decide_eq_true c1) (Tq (decide_eq_false c2) (Tq (decide_eq_true c3) (Tu (decide_eq_false c4))))) ?_;refine To ?_;cases h;exact T3
  refine rg L 202 [(2,true),(6,false),(9,false)] [] [] (Tq (decide_eq_true c1) (Tq (decide_eq_false c2) (Tu (decide_eq_false c3)))) ?_;refine To ?_;cases h;exact T3
 rcases Tn h with ⟨c5,h⟩ |⟨c5,h⟩
 ·rcases Tn h with ⟨c6,h⟩ |⟨c6,h⟩
  ·refine rg L 202 [(2,false),(9,true),(14,true)] [] [] (Tq (decide_eq_false c1) (Tq (decide_eq_true c5) (Tu (decide_eq_true c6)))) ?_;refine To ?_;cases h;exact T3
  refine rg L 202 [(2,false),(9,true),(14,false)] [] [] (Tq (decide_eq_false c1) (Tq (decide_eq_true c5) (Tu (decide_eq_false c6)))) ?_;refine To ?_;cases h;exact T3
 refine rg L 202 [(2,false),(9,false)] [] [] (Vf (decide_eq_false c1) (decide_eq_false c5)) ?_;refine To ?_;cases h;exact T3
theorem Ei.ok {K:Nat} {p0:Int} {r:Bool} (h:Ei K p0=some r):T1 V P 98 [.cv (.lit (.int .i32 p0))] (.B r):=Tv.pcall (eo (fn:=Tryz.f98) (n:=21) (m:=100) fun Γ=>Ei.body h) (by kernel_rfl)
def Ew (K:Nat) (p0:Int):Option Bool:=(if p0≥48 then some (decide (p0≤57)) else some false)
theorem Ew.body {Γ:Ud} {K:Nat} {p0:Int} {r:Bool} (h:Ew K p0=some r):Ub V P 9 100 Γ (Tryz.f100.body.getD .skip) (Ty P V Tryz.f100 (.B r) []) ⟨Tx 0 [.cv (.lit (.int .i32 p0))],[]⟩:=by
 unfold Ew at h;refine Tw L 200 <| Tm ?_;rcases Tn h with ⟨c1,h⟩ |⟨c1,h⟩
 ·refine rg L 202 [(2,true)] [] [] (Tu (decide_eq_true c1)) ?_;refine To ?_;cases h;exact T3
 refine rg L 202 [(2,false)] [] [] (Tu (decide_eq_false c1)) ?_;refine To ?_;cases h;exact T3
theorem Ew.ok {K:Nat} {p0:Int} {r:Bool} (h:Ew K p0=some r):T1 V P 100 [.cv (.lit (.int .i32 p0))] (.B r):=Tv.pcall (eo (fn:=Tryz.f100) (n:=9) (m:=100) fun Γ=>Ew.body h) (by kernel_rfl)
def D8 (K:Nat) (p0:Int):Option Bool:=(Option.bind (Ei K p0) (fun a1=>(if a1=true then some true else (Option.bind (Ew K p0) (fun a2=>some a2)))))
theorem D8.body {Γ:Ud} {K:Nat} {p0:Int} {r:Bool} (h:D8 K p0=some r):Ub V P 9 100 Γ (Tryz.f125.body.getD .skip) (Ty P V Tryz.f125 (.B r) []) ⟨Tx 0 [.cv (.lit (.int .i32 p0))],[]⟩:=by
 unfold D8 at h;refine Tw L 200 <| Tm ?_;obtain ⟨a1,h1,h⟩:=bind_some h;rcases Tn h with ⟨c1,h⟩ |⟨c1,h⟩
 ·refine rg L 202 [(2,true)] [(1,.B a1)] [] (Tq (Ei.ok h1) (Tq trivial (Tu c1))) ?_;refine To ?_;cases h;exact T3
 obtain ⟨a2,h2,h⟩:=bind_some h;refine rg L 202 [(2,false)] [(1,.B a1),(4,.B a2)] [] (Tq (Ei.ok h1) (Tq trivial (Tq (eq_false_of_ne_true c1) (Tq (Ew.ok h2) (Tu trivial))))) ?_;refine To ?_;cases h;exact T3
theorem D8.ok {K:Nat} {p0:Int} {r:Bool} (h:D8 K p0=some r):T1 V P 125 [.cv (.lit (.int .i32 p0))] (.B r):=Tv.pcall (eo (fn:=Tryz.f125) (n:=9) (m:=100) fun Γ=>D8.body h) (by kernel_rfl)
def C9.l7 (K:Nat) (p0:Aw):Nat→Int→Option Int
 | 0,_=>none
 | k+1,a=>(Option.bind (Cc K (⟨p0.src,a⟩:Aw) 0) (fun a1=>(Option.bind (D8 K a1) (fun a2=>(if a2=true then C9.l7 K p0 k (IntKind.i64.wrap (a+1)) else some a)))))
def C9 (K:Nat) (p0:Aw):Option ((List UInt8)×Aw):=(Option.bind (C9.l7 K p0 K p0.at_:Option Int) (fun a=>(if (0:Int)≤p0.at_∧p0.at_≤a∧a≤(p0.src.length:Int) then some ((slc p0.src p0.at_ a),(⟨p0.src,a⟩:Aw)) else none)))
theorem C9.body {Γ:Ud} {K:Nat} {p0:Aw} {r:(List UInt8)×Aw} (h:C9 K p0=some r):Ub V P 31 100 Γ (Tryz.f70.body.getD .skip) (Ty P V Tryz.f70 (.cv (.str r.1)) [(0,.raw [.str r.2.src,.I r.2.at_])]) ⟨Tx 0 [.P 0,.cv (.fn (.func 125) [] [])],[(0,.raw (A6 p0))]⟩:=by
 unfold C9 at h;refine Tw L 200 <| Tw L 202 <| Tm <| Tt <| kp (S':=⟨[(0,.P 0),(1,.cv (.fn (.func 125) [] [])),(5,.I p0.at_)],[(0,.raw (A6 p0))]⟩) ?_;obtain ⟨o1,hp1,h⟩:=bind_some h;refine T4 (Q':=fun e S=>(e=.exit 0∧∃ b:Int,S=⟨[(0,.P 0),(5,.I p0.at_)],[(0,.raw [.str p0.src,.I b])]⟩∧b=o1)) (T8 (fun k S=>∃ a:Int,S=⟨[(0,.P 0),(1,.cv (.fn (.func 125) [] [])),(5,.I p0.at_)],[(0,.raw [.str p0.src,.I a])]⟩∧C9.l7 K p0 k a=some o1) ?_ ⟨_,rfl,hp1⟩) ?_
 ·clear h hp1;intro k S hS;obtain ⟨a,rfl,h⟩:=hS;cases k with
  | zero=>cases h
  | succ k =>
  unfold C9.l7 at h;refine Tm <| Tm ?_;obtain ⟨a1,h1,h⟩:=bind_some h;obtain ⟨a2,h2,h⟩:=bind_some h;refine rg L 208 [] [(2,.cv (.lit (.int .i32 a1))),(3,.B a2)] [] (Tq (Cc.ok h1) (Tq trivial (Tq (D8.ok h2) (Tu trivial)))) ?_;rcases Tn h with ⟨c1,h⟩ |⟨c1,h⟩
  ·refine tt c1 <| Tr <| Tt <| Xi L 213 [] [] [] (S':=⟨[(0,.P 0),(1,.cv (.fn (.func 125) [] [])),(5,.I p0.at_)],[(0,.raw [.str p0.src,.I (IntKind.i64.wrap (a+1))])]⟩) ?_;exact ⟨k,Nat.lt_succ_self k,_,rfl,h⟩
  refine fN c1 <| ex (S':=⟨[(0,.P 0),(5,.I p0.at_)],[(0,.raw [.str p0.src,.I a])]⟩) ?_;cases h;exact ⟨rfl,_,rfl,rfl⟩
 ·rintro e S ⟨rfl,b,rfl,rfl⟩;refine ⟨_,Tl.refl,?_⟩;refine Tm ?_;obtain ⟨g1,h⟩:=Ts h;refine rd L mixed 222 [] [] [] [] 11 (Tq g1.1 (Tq g1.2.1 (Tu g1.2.2))) ?_;refine To ?_;cases h;exact T3
theorem C9.okE {K:Nat} {p0:Aw} {r:(List UInt8)×Aw} (h:C9 K p0=some r):Tv V P 70 [.P 0,.cv (.fn (.func 125) [] [])] [(0,.raw (A6 p0))] [0] (.cv (.str r.1)) [(0,.raw [.str r.2.src,.I r.2.at_])] :=
 eo (fn:=Tryz.f70) (n:=31) (m:=100) fun Γ=>C9.body h
def Dt.l7 (K:Nat) (p0:List (List UInt8)) (p1:List UInt8):Nat→Int→Option (T5 Int Unit)
 | 0,_=>none
 | k+1,a=>(if a <(p0.length:Int) then (if (0:Int)≤a∧(a:Int) <(p0.length:Int) then (if p1=(p0.getD (Int.toNat a) ([]:List UInt8)) then some (T5.done a) else Dt.l7 K p0 p1 k (IntKind.i64.wrap (a+1))) else none) else some (T5.go ()))
def Dt (K:Nat) (p0:List (List UInt8)) (p1:List UInt8):Option Int:=(obind (Dt.l7 K p0 p1 K 0:Option (T5 Int Unit)) (fun r=>r) (fun _=>some (-1)))
theorem Dt.body {Γ:Ud} {K:Nat} {p0:List (List UInt8)} {p1:List UInt8} {r:Int} (h:Dt K p0 p1=some r):Ub V P 19 100 Γ (Tryz.f135.body.getD .skip) (Ty P V Tryz.f135 (.I r) []) ⟨Tx 0 [.cv (.ro .Dk p0),.cv (.str p1)],[]⟩:=by
 unfold Dt at h;refine Tw L 200 <| Tm <| Tw L 202 <| Tt <| kp (S':=⟨[(0,.cv (.ro .Dk p0)),(1,.cv (.str p1)),(7,.I (p0.length:Int)),(8,.I 0)],[]⟩) ?_;obtain ⟨o1,hp1,h⟩:=T7 h;refine T4 (Q':=fun e S=>(e=.exit 0∧S=⟨[],[]⟩∧T5.go ()=o1)∨(e=.ret∧∃ a,T5.done a=o1∧Ty P V Tryz.f135 (.I a) [] .ret S)) (T8 (fun k S=>∃ b:Int,S=⟨[(0,.cv (.ro .Dk p0)),(1,.cv (.str p1)),(7,.I (p0.length:Int)),(8,.I b)],[]⟩∧Dt.l7 K p0 p1 k b=some o1) ?_ ⟨_,rfl,hp1⟩) ?_
 ·clear h hp1;intro k S hS;obtain ⟨b,rfl,h⟩:=hS;cases k with
  | zero=>cases h
  | succ k =>
  unfold Dt.l7 at h;refine Tw L 206 <| Tm ?_;rcases Tn h with ⟨c1,h⟩ |⟨c1,h⟩
  ·refine tT c1 <| Tr <| Tm <| Tt <| Tw L 208 <| Tm ?_;obtain ⟨g1,h⟩:=Ts h;refine rg L 211 [] [] [] (Vf g1.1 g1.2) ?_;rcases Tn h with ⟨c2,h⟩ |⟨c2,h⟩
   ·refine tT c2 <| Tw L 218 <| To ?_;cases h;exact .inr ⟨rfl,_,rfl,T3⟩
   refine fF c2 <| Tr <| Xi L 221 [] [] [] (S':=⟨[(0,.cv (.ro .Dk p0)),(1,.cv (.str p1)),(7,.I (p0.length:Int)),(8,.I (IntKind.i64.wrap (b+1)))],[]⟩) ?_;exact ⟨k,Nat.lt_succ_self k,_,rfl,h⟩
  refine fF c1 <| ex (S':=⟨[],[]⟩) ?_;cases h;exact .inl ⟨rfl,rfl,rfl⟩
 ·rintro e S (⟨rfl,rfl,rfl⟩ |⟨rfl,a,rfl,hr⟩)
  ·rcases h with ⟨_,e1,h⟩ |⟨_,e1,h⟩
   ·cases e1
   ·have e2:=T5.go.inj e1;subst e2;refine ⟨_,Tl.refl,?_⟩;refine Tw L 224 <| To ?_;cases h;exact T3
  ·rcases h with ⟨_,e1,h⟩ |⟨_,e1,h⟩
   ·have e2:=T5.done.inj e1;subst e2;subst h;exact ⟨_,Tl.refl,hr⟩
   ·cases e1
theorem Dt.ok {K:Nat} {p0:List (List UInt8)} {p1:List UInt8} {r:Int} (h:Dt K p0 p1=some r):T1 V P 135 [.cv (.ro .Dk p0),.cv (.str p1)] (.I r):=Tv.pcall (eo (fn:=Tryz.f135) (n:=19) (m:=100) fun Γ=>Dt.body h) (by kernel_rfl)
def Eh (K:Nat) (p0:List (List UInt8)) (p1:List UInt8):Option Bool:=(Option.bind (Dt K p0 p1) (fun a1=>some (decide (a1≥0))))
theorem Eh.body {Γ:Ud} {K:Nat} {p0:List (List UInt8)} {p1:List UInt8} {r:Bool} (h:Eh K p0 p1=some r):Ub V P 9 100 Γ (Tryz.f119.body.getD .skip) (Ty P V Tryz.f119 (.B r) []) ⟨Tx 0 [.cv (.ro .Dk p0),.cv (.str p1)],[]⟩:=by
 unfold Eh at h;refine Tw L 200 <| Tm ?_;obtain ⟨a1,h1,h⟩:=bind_some h;refine rg L 202 [] [(2,.I a1)] [] (U4 (Dt.ok h1)) ?_;refine To ?_;cases h;exact T3
theorem Eh.ok {K:Nat} {p0:List (List UInt8)} {p1:List UInt8} {r:Bool} (h:Eh K p0 p1=some r):T1 V P 119 [.cv (.ro .Dk p0),.cv (.str p1)] (.B r):=Tv.pcall (eo (fn:=Tryz.f119) (n:=9) (m:=100) fun Γ=>Eh.body h) (by kernel_rfl)
def El (K:Nat) (p0:List UInt8):Option Bool:=(if ([97,110,100,32,97,119,97,105,116,32,99,97,115,101,32,99,97,116,99,104,32,99,104,101,99,107,32,101,108,115,101,32,102,97,108,115,101,32,102,117,110,99,32,103,111,32,105,102,32,108,101,116,32,110,111,116,32,110,117,108,108,32,111,110,32,111,114,32,113,117,101,114,121,32,114,101,116,117,114,110,32,115,97,103,97,32,115,101,108,101,99,116,32,115,105,103,110,97,108,32,116,104,114,111,119,32,116,114,117,101,32,116,114,121,32,117,110,100,111,32,117,112,100,97,116,101,32,118,97,114,32,119,104,105,108,101]:List UInt8).length < 4294967281∧(([97,110,100,32,97,119,97,105,116,32,99,97,115,101,32,99,97,116,99,104,32,99,104,101,99,107,32,101,108,115,101,32,102,97,108,115,101,32,102,117,110,99,32,103,111,32,105,102,32,108,101,116,32,110,111,116,32,110,117,108,108,32,111,110,32,111,114,32,113,117,101,114,121,32,114,101,116,117,114,110,32,115,97,103,97,32,115,101,108,101,99,116,32,115,105,103,110,97,108,32,116,104,114,111,119,32,116,114,117,101,32,116,114,121,32,117,110,100,111,32,117,112,100,97,116,101,32,118,97,114,32,119,104,105,108,101]:List UInt8).all fun b=>decide (b.toNat < 128))=true then (Option.bind (Eh K (Lib.fields ([97,110,100,32,97,119,97,105,116,32,99,97,115,101,32,99,97,116,99,104,32,99,104,101,99,107,32,101,108,115,101,32,102,97,108,115,101,32,102,117,110,99,32,103,111,32,105,102,32,108,101,116,32,110,111,116,32,110,117,108,108,32,111,110,32,111,114,32,113,117,101,114,121,32,114,101,116,117,114,110,32,115,97,103,97,32,115,101,108,101,99,116,32,115,105,103,110,97,108,32,116,104,114,111,119,32,116,114,117,101,32,116,114,121,32,117,110,100,111,32,117,112,100,97,116,101,32,118,97,114,32,119,104,105,108,101]:List UInt8)) p0) (fun a1=>some a1)) else none)
theorem El.body {Γ:Ud} {K:Nat} {p0:List UInt8} {r:Bool} (h:El K p0=some r):Ub V P 8 100 Γ (Tryz.f91.body.getD .skip) (Ty P V Tryz.f91 (.B r) []) ⟨Tx 0 [.cv (.str p0)],[]⟩:=by
 unfold El at h;refine Tw L 200 <| Tm ?_;obtain ⟨g1,h⟩:=Ts h;refine rg L 202 [] [(0,.cv (.ron .Dk (Lib.fields ([97,110,100,32,97,119,97,105,116,32,99,97,115,101,32,99,97,116,99,104,32,99,104,101,99,107,32,101,108,115,101,32,102,97,108,115,101,32,102,117,110,99,32,103,111,32,105,102,32,108,101,116,32,110,111,116,32,110,117,108,108,32,111,110,32,111,114,32,113,117,101,114,121,32,114,101,116,117,114,110,32,115,97,103,97,32,115,101,108,101,99,116,32,115,105,103,110,97,108,32,116,104,114,111,119,32,116,114,117,101,32,116,114,121,32,117,110,100,111,32,117,112,100,97,116,101,32,118,97,114,32,119,104,105,108,101]:List UInt8))))] [] (Tu (show Wm V P 118 [.cv (.str ([97,110,100,32,97,119,97,105,116,32,99,97,115,101,32,99,97,116,99,104,32,99,104,101,99,107,32,101,108,115,101,32,102,97,108,115,101,32,102,117,110,99,32,103,111,32,105,102,32,108,101,116,32,110,111,116,32,110,117,108,108,32,111,110,32,111,114,32,113,117,101,114,121,32,114,101,116,117,114,110,32,115,97,103,97,32,115,101,108,101,99,116,32,115,105,103,110,97,108,32,116,104,114,111,119,32,116,114,117,101,32,116,114,121,32,117,110,100,111,32,117,112,100,97,116,101,32,118,97,114,32,119,104,105,108,101]:List UInt8))] Tag.Dk (Lib.fields ([97,110,100,32,97,119,97,105,116,32,99,97,115,101,32,99,97,116,99,104,32,99,104,101,99,107,32,101,108,115,101,32,102,97,108,115,101,32,102,117,110,99,32,103,111,32,105,102,32,108,101,116,32,110,111,116,32,110,117,108,108,32,111,110,32,111,114,32,113,117,101,114,121,32,114,101,116,117,114,110,32,115,97,103,97,32,115,101,108,101,99,116,32,115,105,103,110,97,108,32,116,104,114,111,119,32,116,114,117,101,32,116,114,121,32,117,110,100,111,32,117,112,100,97,116,101,32,118,97,114,32,119,104,105,108,101]:List UInt8)) from Jp.okF ([97,110,100,32,97,119,97,105,116,32,99,97,115,101,32,99,97,116,99,104,32,99,104,101,99,107,32,101,108,115,101,32,102,97,108,115,101,32,102,117,110,99,32,103,111,32,105,102,32,108,101,116,32,110,111,116,32,110,117,108,108,32,111,110,32,111,114,32,113,117,101,114,121,32,114,101,116,117,114,110,32,115,97,103,97,32,115,101,108,101,99,116,32,115,105,103,110,97,108,32,116,104,114,111,119,32,116,114,117,101,32,116,114,121,32,117,110,100,111,32,117,112,100,97,116,101,32,118,97,114,32,119,104,105,108,101]:List UInt8) g1.1 g1.2)) ?_;refine Tm ?_;obtain ⟨a1,h1,h⟩:=bind_some h;refine rg L 205 [] [(2,.B a1)] [] (U4 (Eh.ok h1)) ?_;refine To ?_;cases h;exact T3
theorem El.ok {K:Nat} {p0:List UInt8} {r:Bool} (h:El K p0=some r):T1 V P 91 [.cv (.str p0)] (.B r):=Tv.pcall (eo (fn:=Tryz.f91) (n:=8) (m:=100) fun Γ=>El.body h) (by kernel_rfl)
def D7 (K:Nat) (p0:Aw):Option (Aq×Int×Aw):=(Option.bind (C9 K p0) (fun (a,b)=>(if (a.length:Int) > 64 then some ((⟨0,0,[],0⟩:Aq),8,b) else (Option.bind (El K a) (fun a2=>(if a2=true then some ((⟨2,0,a,0⟩:Aq),0,b) else some ((⟨1,0,a,0⟩:Aq),0,b)))))))
theorem D7.body {Γ:Ud} {K:Nat} {p0:Aw} {r:Aq×Int×Aw} (h:D7 K p0=some r):Ub V P 17 100 Γ (Tryz.f99.body.getD .skip) (Ty P V Tryz.f99 (.tup [.agg [.I r.1.Kind,.I r.1.At,.str r.1.Text,.I r.1.Int],.I r.2.1]) [(0,.raw [.str r.2.2.src,.I r.2.2.at_])]) ⟨Tx 0 [.P 0],[(0,.raw (A6 p0))]⟩:=by
 unfold D7 at h;refine Tw L 200 <| Tm ?_;obtain ⟨⟨a,b⟩,h1,h⟩:=bind_some h;dsimp only at h;refine rg L 203 [] [] [(1,(T0 (.cv (.str a)) [(0,.raw (A6 b))]))] (Tu (C9.okE h1)) ?_;refine Tm <| Tw L 207 ?_;rcases Tn h with ⟨c1,h⟩ |⟨c1,h⟩
 ·refine tT c1 <| Tw L 211 <| Tp (Tl.trans (Tl.kk [2,3] [0,200]) (Tl.rr [(0,0),(200,100)])) ?_;refine To ?_;cases h;exact T3
 refine fF c1 <| Tr <| Tm <| Tm ?_;obtain ⟨a2,h2,h⟩:=bind_some h;refine rg L 215 [] [(1,.B a2)] [] (U4 (El.ok h2)) ?_;rcases Tn h with ⟨c2,h⟩ |⟨c2,h⟩
 ·refine tt c2 <| Tw L 218 <| Tp (Tl.trans (Tl.kk [2,3] [0,200]) (Tl.rr [(0,0),(200,100)])) ?_;refine To ?_;cases h;exact T3
 refine fN c2 <| Tr <| Tw L 223 <| Tp (Tl.trans (Tl.kk [2,3] [0,200]) (Tl.rr [(0,0),(200,100)])) ?_;refine To ?_;cases h;exact T3
theorem D7.okE {K:Nat} {p0:Aw} {r:Aq×Int×Aw} (h:D7 K p0=some r):Tv V P 99 [.P 0] [(0,.raw (A6 p0))] [0] (.tup [.agg [.I r.1.Kind,.I r.1.At,.str r.1.Text,.I r.1.Int],.I r.2.1]) [(0,.raw [.str r.2.2.src,.I r.2.2.at_])] :=
 eo (fn:=Tryz.f99) (n:=17) (m:=100) fun Γ=>D7.body h
def C8.l7 (K:Nat) (p0:Aw):Nat→Int→Option Int
 | 0,_=>none
 | k+1,a=>(Option.bind (Cc K (⟨p0.src,a⟩:Aw) 0) (fun a1=>(Option.bind (Ew K a1) (fun a2=>(if a2=true then C8.l7 K p0 k (IntKind.i64.wrap (a+1)) else some a)))))
def C8 (K:Nat) (p0:Aw):Option ((List UInt8)×Aw):=(Option.bind (C8.l7 K p0 K p0.at_:Option Int) (fun a=>(if (0:Int)≤p0.at_∧p0.at_≤a∧a≤(p0.src.length:Int) then some ((slc p0.src p0.at_ a),(⟨p0.src,a⟩:Aw)) else none)))
theorem C8.body {Γ:Ud} {K:Nat} {p0:Aw} {r:(List UInt8)×Aw} (h:C8 K p0=some r):Ub V P 31 100 Γ (Tryz.f70.body.getD .skip) (Ty P V Tryz.f70 (.cv (.str r.1)) [(0,.raw [.str r.2.src,.I r.2.at_])]) ⟨Tx 0 [.P 0,.cv (.fn (.func 100) [] [])],[(0,.raw (A6 p0))]⟩:=by
 unfold C8 at h;refine Tw L 200 <| Tw L 202 <| Tm <| Tt <| kp (S':=⟨[(0,.P 0),(1,.cv (.fn (.func 100) [] [])),(5,.I p0.at_)],[(0,.raw (A6 p0))]⟩) ?_;obtain ⟨o1,hp1,h⟩:=bind_some h;refine T4 (Q':=fun e S=>(e=.exit 0∧∃ b:Int,S=⟨[(0,.P 0),(5,.I p0.at_)],[(0,.raw [.str p0.src,.I b])]⟩∧b=o1)) (T8 (fun k S=>∃ a:Int,S=⟨[(0,.P 0),(1,.cv (.fn (.func 100) [] [])),(5,.I p0.at_)],[(0,.raw [.str p0.src,.I a])]⟩∧C8.l7 K p0 k a=some o1) ?_ ⟨_,rfl,hp1⟩) ?_
 ·clear h hp1;intro k S hS;obtain ⟨a,rfl,h⟩:=hS;cases k with
  | zero=>cases h
  | succ k =>
  unfold C8.l7 at h;refine Tm <| Tm ?_;obtain ⟨a1,h1,h⟩:=bind_some h;obtain ⟨a2,h2,h⟩:=bind_some h;refine rg L 208 [] [(2,.cv (.lit (.int .i32 a1))),(3,.B a2)] [] (Tq (Cc.ok h1) (Tq trivial (Tq (Ew.ok h2) (Tu trivial)))) ?_;rcases Tn h with ⟨c1,h⟩ |⟨c1,h⟩
  ·refine tt c1 <| Tr <| Tt <| Xi L 213 [] [] [] (S':=⟨[(0,.P 0),(1,.cv (.fn (.func 100) [] [])),(5,.I p0.at_)],[(0,.raw [.str p0.src,.I (IntKind.i64.wrap (a+1))])]⟩) ?_;exact ⟨k,Nat.lt_succ_self k,_,rfl,h⟩
  refine fN c1 <| ex (S':=⟨[(0,.P 0),(5,.I p0.at_)],[(0,.raw [.str p0.src,.I a])]⟩) ?_;cases h;exact ⟨rfl,_,rfl,rfl⟩
 ·rintro e S ⟨rfl,b,rfl,rfl⟩;refine ⟨_,Tl.refl,?_⟩;refine Tm ?_;obtain ⟨g1,h⟩:=Ts h;refine rd L mixed 222 [] [] [] [] 11 (Tq g1.1 (Tq g1.2.1 (Tu g1.2.2))) ?_;refine To ?_;cases h;exact T3
theorem C8.okE {K:Nat} {p0:Aw} {r:(List UInt8)×Aw} (h:C8 K p0=some r):Tv V P 70 [.P 0,.cv (.fn (.func 100) [] [])] [(0,.raw (A6 p0))] [0] (.cv (.str r.1)) [(0,.raw [.str r.2.src,.I r.2.at_])] :=
 eo (fn:=Tryz.f70) (n:=31) (m:=100) fun Γ=>C8.body h
def D3 (K:Nat) (p0:Aw):Option (Aq×Int×Aw):=(Option.bind (C8 K p0) (fun (b,a)=>(obind (((if (b.length:Int) > 1 then (if (0:Int) <(b.length:Int) then (if ((b.getD (Int.toNat 0) 0).toNat:Int)=48 then some (T5.done ((⟨0,0,[],0⟩:Aq),3,a)) else (Option.bind (Cc K a 0) (fun a2=>(Option.bind (Ei K a2) (fun a3=>(if a3=true then some (T5.done ((⟨0,0,[],0⟩:Aq),3,a)) else some (T5.go ()))))))) else none) else (Option.bind (Cc K a 0) (fun a4=>(Option.bind (Ei K a4) (fun a5=>(if a5=true then some (T5.done ((⟨0,0,[],0⟩:Aq),3,a)) else some (T5.go ())))))))):Option (T5 (Aq×Int×Aw) Unit)) (fun r=>r) (fun _=>(if b.length≤281474976710656 then (if (Jz b)=true then some ((⟨3,0,[],(Io b)⟩:Aq),0,a) else some ((⟨0,0,[],0⟩:Aq),14,a)) else none)))))
theorem D3.body {Γ:Ud} {K:Nat} {p0:Aw} {r:Aq×Int×Aw} (h:D3 K p0=some r):Ub V P 33 100 Γ (Tryz.f101.body.getD .skip) (Ty P V Tryz.f101 (.tup [.agg [.I r.1.Kind,.I r.1.At,.str r.1.Text,.I r.1.Int],.I r.2.1]) [(0,.raw [.str r.2.2.src,.I r.2.2.at_])]) ⟨Tx 0 [.P 0],[(0,.raw (A6 p0))]⟩:=by
 unfold D3 at h;refine Tw L 200 <| Tm ?_;obtain ⟨⟨c,d⟩,h1,h⟩:=bind_some h;dsimp only at h;refine rg L 203 [] [] [(1,(T0 (.cv (.str c)) [(0,.raw (A6 d))]))] (Tu (C8.okE h1)) ?_;obtain ⟨o1,hp1,h⟩:=T7 h;refine Tm (Uc (Q':=fun e S=>(e=.normal∧S=⟨[(2,.P 21000),(4,.cv (.str c))],[(0,.raw (A6 d)),(21000,.raw [.I 0,.I 0,.str [],.I 0])]⟩∧T5.go ()=o1)∨(e=.ret∧∃ a,T5.done a=o1∧Ty P V Tryz.f101 (.tup [.agg [.I a.1.Kind,.I a.1.At,.str a.1.Text,.I a.1.Int],.I a.2.1]) [(0,.raw [.str a.2.2.src,.I a.2.2.at_])] .ret S)) ?_ ?_)
 ·clear h;replace h:=hp1;refine Tm ?_;rcases Tn h with ⟨c1,h⟩ |⟨c1,h⟩
  ·obtain ⟨g1,h⟩:=Ts h;rcases Tn h with ⟨c2,h⟩ |⟨c2,h⟩
   ·refine rg L 207 [(3,true),(8,true)] [] [] (Tq (decide_eq_true c1) (Tq (show (0:Int)≤0 from by decide) (Tq g1 (Tu (decide_eq_true c2))))) ?_;refine tt (b:=true) (rfl) ?_;refine Tw L 221 <| Tp (Tl.trans (Tl.kk [2,3] [0,200]) (Tl.rr [(0,0),(200,100)])) ?_;refine To ?_;cases h;exact .inr ⟨rfl,_,rfl,T3⟩
   obtain ⟨a2,h2,h⟩:=bind_some h;obtain ⟨a3,h3,h⟩:=bind_some h;refine rg L 207 [(3,true),(8,false)] [(10,.cv (.lit (.int .i32 a2))),(11,.B a3)] [] (Tq (decide_eq_true c1) (Tq (show (0:Int)≤0 from by decide) (Tq g1 (Tq (decide_eq_false c2) (Tq (Cc.ok h2) (Tq trivial (Tq (Ei.ok h3) (Tu trivial)))))))) ?_;rcases Tn h with ⟨c3,h⟩ |⟨c3,h⟩
   ·refine tt c3 <| Tw L 221 <| Tp (Tl.trans (Tl.kk [2,3] [0,200]) (Tl.rr [(0,0),(200,100)])) ?_;refine To ?_;cases h;exact .inr ⟨rfl,_,rfl,T3⟩
   refine fN c3 <| Tp (Tl.trans (Tl.kk [2,4] [0,200]) (Tl.rr [(0,0),(200,21000)])) ?_;refine sk (S':=⟨[(2,.P 21000),(4,.cv (.str c))],[(0,.raw (A6 d)),(21000,.raw [.I 0,.I 0,.str [],.I 0])]⟩) ?_;cases h;exact .inl ⟨rfl,rfl,rfl⟩
  obtain ⟨a4,h4,h⟩:=bind_some h;obtain ⟨a5,h5,h⟩:=bind_some h;refine rg L 207 [(3,false)] [(10,.cv (.lit (.int .i32 a4))),(11,.B a5)] [] (Tq (decide_eq_false c1) (Tq (Cc.ok h4) (Tq trivial (Tq (Ei.ok h5) (Tu trivial))))) ?_;rcases Tn h with ⟨c4,h⟩ |⟨c4,h⟩
  ·refine tt c4 <| Tw L 221 <| Tp (Tl.trans (Tl.kk [2,3] [0,200]) (Tl.rr [(0,0),(200,100)])) ?_;refine To ?_;cases h;exact .inr ⟨rfl,_,rfl,T3⟩
  refine fN c4 <| Tp (Tl.trans (Tl.kk [2,4] [0,200]) (Tl.rr [(0,0),(200,21000)])) ?_;refine sk (S':=⟨[(2,.P 21000),(4,.cv (.str c))],[(0,.raw (A6 d)),(21000,.raw [.I 0,.I 0,.str [],.I 0])]⟩) ?_;cases h;exact .inl ⟨rfl,rfl,rfl⟩
 ·rintro e S (⟨rfl,rfl,rfl⟩ |⟨rfl,a,rfl,hr⟩)
  ·rcases h with ⟨_,e1,h⟩ |⟨_,e1,h⟩
   ·cases e1
   ·have e2:=T5.go.inj e1;subst e2;refine Tm ?_;obtain ⟨g2,h⟩:=Ts h;rcases Tn h with ⟨c5,h⟩ |⟨c5,h⟩
    ·refine rg L 225 [] [(1,.tup [.I (Io c),.cv (.lit .nilIface)])] [] (U4 (show T1 V P 126 [.cv (.str c),.I 10,.I 64] (.tup [.I (Io c),.cv (.lit .nilIface)]) from Gj.ok c g2 (c5))) ?_;refine Tm <| Tw L 233 <| ff (b:=false) (rfl) ?_;refine Tr <| Tw L 240 <| Tp (Tl.trans (Tl.kk [2,3] [0,21000]) (Tl.rr [(0,0),(21000,100)])) ?_;refine To ?_;cases h;exact T3
    refine rg L 225 [] [(1,.tup [.cv (.any),.cv (.ifc 122 false [.any])])] [] (U4 (show T1 V P 126 [.cv (.str c),.I 10,.I 64] (.tup [.cv (.any),.cv (.ifc 122 false [.any])]) from Gj.no c g2 (eq_false_of_ne_true c5))) ?_;refine Tm <| Tw L 233 <| tt (b:=true) (rfl) ?_;refine Tw L 236 <| Tp (Tl.trans (Tl.kk [2,3] [0,21000]) (Tl.rr [(0,0),(21000,100)])) ?_;refine To ?_;cases h;exact T3
  ·rcases h with ⟨_,e1,h⟩ |⟨_,e1,h⟩
   ·have e2:=T5.done.inj e1;subst e2;subst h;exact hr
   ·cases e1
theorem D3.okE {K:Nat} {p0:Aw} {r:Aq×Int×Aw} (h:D3 K p0=some r):Tv V P 101 [.P 0] [(0,.raw (A6 p0))] [0] (.tup [.agg [.I r.1.Kind,.I r.1.At,.str r.1.Text,.I r.1.Int],.I r.2.1]) [(0,.raw [.str r.2.2.src,.I r.2.2.at_])] :=
 eo (fn:=Tryz.f101) (n:=33) (m:=100) fun Γ=>D3.body h
def D2 (K:Nat) (p0:Aw):Option (Int×Int×Aw):=(Option.bind (Cc K p0 0) (fun a1=>(if a1 < 0 then some (0,4,p0) else (if (Lib.indexByte ([48,49,50,51,52,53,54,55,56,57,97,98,99,100,101,102]:List UInt8) (Int.toNat (IntKind.u8.wrap a1)).toUInt8) < 0 then some (0,3,(⟨p0.src,(IntKind.i64.wrap (p0.at_+1))⟩:Aw)) else some ((Lib.indexByte ([48,49,50,51,52,53,54,55,56,57,97,98,99,100,101,102]:List UInt8) (Int.toNat (IntKind.u8.wrap a1)).toUInt8),0,(⟨p0.src,(IntKind.i64.wrap (p0.at_+1))⟩:Aw))))))
theorem D2.body {Γ:Ud} {K:Nat} {p0:Aw} {r:Int×Int×Aw} (h:D2 K p0=some r):Ub V P 23 100 Γ (Tryz.f140.body.getD .skip) (Ty P V Tryz.f140 (.tup [.I r.1,.I r.2.1]) [(0,.raw [.str r.2.2.src,.I r.2.2.at_])]) ⟨Tx 0 [.P 0],[(0,.raw (A6 p0))]⟩:=by
 unfold D2 at h;refine Tw L 200 <| Tm ?_;obtain ⟨a1,h1,h⟩:=bind_some h;refine rg L 203 [] [(1,.cv (.lit (.int .i32 a1)))] [] (U4 (Cc.ok h1)) ?_;refine Tm <| Tw L 207 ?_;rcases Tn h with ⟨c1,h⟩ |⟨c1,h⟩
 ·refine tT c1 <| Tw L 210 <| To ?_;cases h;exact T3
 refine fF c1 <| Tr <| Tw L 213 <| sg L 222 [] [(2,.I (Lib.indexByte ([48,49,50,51,52,53,54,55,56,57,97,98,99,100,101,102]:List UInt8) (Int.toNat (IntKind.u8.wrap a1)).toUInt8))] [] (U4 (show T1 V P 152 [.cv (.str ([48,49,50,51,52,53,54,55,56,57,97,98,99,100,101,102]:List UInt8)),.cv (.lit (.int .u8 (IntKind.u8.wrap a1)))] (.I (Lib.indexByte ([48,49,50,51,52,53,54,55,56,57,97,98,99,100,101,102]:List UInt8) (Int.toNat (IntKind.u8.wrap a1)).toUInt8)) from strings_IndexByte.ok ([48,49,50,51,52,53,54,55,56,57,97,98,99,100,101,102]:List UInt8) (IntKind.u8.wrap a1))) ?_;refine Tm <| Tw L 227 ?_;rcases Tn h with ⟨c2,h⟩ |⟨c2,h⟩
 ·refine tT c2 <| Tw L 230 <| To ?_;cases h;exact T3
 refine fF c2 <| Tr <| Tw L 233 <| To ?_;cases h;exact T3
theorem D2.okE {K:Nat} {p0:Aw} {r:Int×Int×Aw} (h:D2 K p0=some r):Tv V P 140 [.P 0] [(0,.raw (A6 p0))] [0] (.tup [.I r.1,.I r.2.1]) [(0,.raw [.str r.2.2.src,.I r.2.2.at_])] :=
 eo (fn:=Tryz.f140) (n:=23) (m:=100) fun Γ=>D2.body h
def D6 (K:Nat) (p0:Aw):Option (Int×Int×Aw):=(Option.bind (Cc K p0 0) (fun a1=>(if a1=(-1) then some (0,4,(⟨p0.src,(IntKind.i64.wrap (p0.at_+1))⟩:Aw)) else (Option.bind ((if a1=34 then some (decide (a1=34)) else some (decide (a1=92))):Option Bool) (fun a=>(if a=true then some ((IntKind.u8.wrap a1),0,(⟨p0.src,(IntKind.i64.wrap (p0.at_+1))⟩:Aw)) else (if a1=110 then some (10,0,(⟨p0.src,(IntKind.i64.wrap (p0.at_+1))⟩:Aw)) else (if a1=116 then some (9,0,(⟨p0.src,(IntKind.i64.wrap (p0.at_+1))⟩:Aw)) else (if a1=120 then (Option.bind (D2 K (⟨p0.src,(IntKind.i64.wrap (p0.at_+1))⟩:Aw)) (fun (d,b,c)=>(if b≠0 then some (0,b,c) else (Option.bind (D2 K c) (fun (e,f,g)=>some (((IntKind.u8.wrap (IntKind.i64.wrap ((IntKind.i64.wrap (16 * d))+e))),f,g))))))) else some (0,3,(⟨p0.src,(IntKind.i64.wrap (p0.at_+1))⟩:Aw)))))))))))
theorem D6.body {Γ:Ud} {K:Nat} {p0:Aw} {r:Int×Int×Aw} (h:D6 K p0=some r):Ub V P 50 100 Γ (Tryz.f127.body.getD .skip) (Ty P V Tryz.f127 (.tup [.cv (.lit (.int .u8 r.1)),.I r.2.1]) [(0,.raw [.str r.2.2.src,.I r.2.2.at_])]) ⟨Tx 0 [.P 0],[(0,.raw (A6 p0))]⟩:=by
 unfold D6 at h;refine Tw L 200 <| Tm ?_;obtain ⟨a1,h1,h⟩:=bind_some h;refine rg L 203 [] [(1,.cv (.lit (.int .i32 a1)))] [] (U4 (Cc.ok h1)) ?_;refine Tw L 207 <| Tm <| Tw L 216 <| Tt <| Tw L 218 ?_;rcases Tn h with ⟨c1,h⟩ |⟨c1,h⟩
 ·refine tT c1 <| Tw L 221 <| To ?_;cases h;exact T3
 refine fF c1 ?_;obtain ⟨o1,hp1,h⟩:=bind_some h;refine Tm (Uc (Q':=fun e S=>(e=.normal∧∃ a:Bool,S=⟨[(0,.P 0),(4,.cv (.lit (.int .i32 a1))),(17,.cv (.lit (.int .i32 a1))),(20,.B a)],[(0,.raw [.str p0.src,.I (IntKind.i64.wrap (p0.at_+1))])]⟩∧a=o1)) ?_ ?_)
 ·clear h;replace h:=hp1;refine Tw L 224 ?_;rcases Tn h with ⟨c2,h⟩ |⟨c2,h⟩
  ·refine tT c2 <| sk (S':=⟨[(0,.P 0),(4,.cv (.lit (.int .i32 a1))),(17,.cv (.lit (.int .i32 a1))),(20,.B (decide (a1=34)))],[(0,.raw [.str p0.src,.I (IntKind.i64.wrap (p0.at_+1))])]⟩) ?_;cases h;exact ⟨rfl,_,rfl,rfl⟩
  refine fF c2 <| Xi L 227 [] [] [] (S':=⟨[(0,.P 0),(4,.cv (.lit (.int .i32 a1))),(17,.cv (.lit (.int .i32 a1))),(20,.B (decide (a1=92)))],[(0,.raw [.str p0.src,.I (IntKind.i64.wrap (p0.at_+1))])]⟩) ?_;cases h;exact ⟨rfl,_,rfl,rfl⟩
 ·rintro e S ⟨rfl,a,rfl,rfl⟩;rcases Tn h with ⟨c3,h⟩ |⟨c3,h⟩
  ·refine tt c3 <| Tw L 230 <| To ?_;cases h;exact T3
  refine fN c3 <| Tw L 235 ?_;rcases Tn h with ⟨c4,h⟩ |⟨c4,h⟩
  ·refine tT c4 <| Tw L 238 <| To ?_;cases h;exact T3
  refine fF c4 <| Tw L 241 ?_;rcases Tn h with ⟨c5,h⟩ |⟨c5,h⟩
  ·refine tT c5 <| Tw L 244 <| To ?_;cases h;exact T3
  refine fF c5 <| Tw L 247 ?_;rcases Tn h with ⟨c6,h⟩ |⟨c6,h⟩
  ·refine tT c6 <| Tm ?_;obtain ⟨⟨b,c,d⟩,h2,h⟩:=bind_some h;dsimp only at h;refine rg L 250 [] [] [(1,(T0 (.tup [.I b,.I c]) [(0,.raw (A6 d))]))] (Tu (D2.okE h2)) ?_;refine Tm <| Tw L 258 ?_;rcases Tn h with ⟨c7,h⟩ |⟨c7,h⟩
   ·refine tT c7 <| Tw L 261 <| To ?_;cases h;exact T3
   refine fF c7 <| Tr <| Tm ?_;obtain ⟨⟨f,g,i⟩,h3,h⟩:=bind_some h;dsimp only at h;refine rg L 265 [] [] [(1,(T0 (.tup [.I f,.I g]) [(0,.raw (A6 i))]))] (Tu (D2.okE h3)) ?_;refine Tw L 273 <| To ?_;cases h;exact T3
  refine fF c6 <| Tr <| Tw L 282 <| To ?_;cases h;exact T3
theorem D6.okE {K:Nat} {p0:Aw} {r:Int×Int×Aw} (h:D6 K p0=some r):Tv V P 127 [.P 0] [(0,.raw (A6 p0))] [0] (.tup [.cv (.lit (.int .u8 r.1)),.I r.2.1]) [(0,.raw [.str r.2.2.src,.I r.2.2.at_])] :=
 eo (fn:=Tryz.f127) (n:=50) (m:=100) fun Γ=>D6.body h
def C5.l8 (K:Nat):Nat→(List UInt8)→Int→(List UInt8)→Option (T5 (Aq×Int×Aw) Unit)
 | 0,_,_,_=>none
 | k+1,a,c,d=>(Option.bind (Cc K (⟨a,c⟩:Aw) 0) (fun a1=>(if a1 < 0 then some (T5.done ((⟨0,0,[],0⟩:Aq),4,(⟨a,(IntKind.i64.wrap (c+1))⟩:Aw))) else (if a1=34 then (if (d.length:Int) > 4096 then some (T5.done ((⟨0,0,[],0⟩:Aq),6,(⟨a,(IntKind.i64.wrap (c+1))⟩:Aw))) else some (T5.done ((⟨4,0,(d.map (fun b=>b)),0⟩:Aq),0,(⟨a,(IntKind.i64.wrap (c+1))⟩:Aw)))) else (if a1=92 then (Option.bind (D6 K (⟨a,(IntKind.i64.wrap (c+1))⟩:Aw)) (fun (e,h,f)=>(if h≠0 then some (T5.done ((⟨0,0,[],0⟩:Aq),h,f)) else (if 0≤e∧e < 256 then (if (d.length+([(UInt8.ofNat (Int.toNat e))]:List UInt8).length) * 1≤140737488355328 then C5.l8 K k f.src f.at_ (d++([(UInt8.ofNat (Int.toNat e))]:List UInt8)) else none) else none)))) else (Option.bind ((if a1≥32 then some (decide (a1≤126)) else some false):Option Bool) (fun g=>(if g=true then (if 0≤(IntKind.u8.wrap a1)∧(IntKind.u8.wrap a1) < 256 then (if (d.length+([(UInt8.ofNat (Int.toNat (IntKind.u8.wrap a1)))]:List UInt8).length) * 1≤140737488355328 then C5.l8 K k a (IntKind.i64.wrap (c+1)) (d++([(UInt8.ofNat (Int.toNat (IntKind.u8.wrap a1)))]:List UInt8)) else none) else none) else some (T5.done ((⟨0,0,[],0⟩:Aq),3,(⟨a,(IntKind.i64.wrap (c+1))⟩:Aw)))))))))))
def C5 (K:Nat) (p0:Aw):Option (Aq×Int×Aw):=(obind (C5.l8 K K p0.src (IntKind.i64.wrap (p0.at_+1)) ([]:List UInt8):Option (T5 (Aq×Int×Aw) Unit)) (fun r=>r) (fun _=>none))
theorem C5.body {Γ:Ud} {K:Nat} {p0:Aw} {r:Aq×Int×Aw} (h:C5 K p0=some r):Ub V P 67 100 Γ (Tryz.f102.body.getD .skip) (Ty P V Tryz.f102 (.tup [.agg [.I r.1.Kind,.I r.1.At,.str r.1.Text,.I r.1.Int],.I r.2.1]) [(0,.raw [.str r.2.2.src,.I r.2.2.at_])]) ⟨Tx 0 [.P 0],[(0,.raw (A6 p0))]⟩:=by
 unfold C5 at h;refine Tw L 200 <| Tw L 203 <| Tw L 212 <| Tt <| Tp (Tl.trans (Tl.kk [0,2,4] [0,200]) (Tl.trans (Tl.no 4 9500 Tag.Ey) (Tl.trans (Tl.kk [0,2,4] [0,200,9500]) (Tl.rr [(0,0),(200,21700),(9500,21701)])))) ?_;refine kp (S':=⟨[(0,.P 0),(2,.P 21700),(4,.cv (.own .Ey 21701))],[(0,.raw [.str p0.src,.I (IntKind.i64.wrap (p0.at_+1))]),(21700,.raw [.I 0,.I 0,.str [],.I 0]),(21701,.lst .Ey ([]:List UInt8))]⟩) ?_;obtain ⟨o2,hp2,h⟩:=T7 h;refine T4 (Q':=fun e S=>False∨(e=.ret∧∃ a,T5.done a=o2∧Ty P V Tryz.f102 (.tup [.agg [.I a.1.Kind,.I a.1.At,.str a.1.Text,.I a.1.Int],.I a.2.1]) [(0,.raw [.str a.2.2.src,.I a.2.2.at_])] .ret S)) (T8 (fun k S=>∃ b:List UInt8,∃ c:Int,∃ d:List UInt8,S=⟨[(0,.P 0),(2,.P 21700),(4,.cv (.own .Ey 21701))],[(0,.raw [.str b,.I c]),(21700,.raw [.I 0,.I 0,.str [],.I 0]),(21701,.lst .Ey d)]⟩∧C5.l8 K k b c d=some o2) ?_ ⟨_,_,_,rfl,hp2⟩) ?_
 ·clear h hp2;intro k S hS;obtain ⟨b,c,d,rfl,h⟩:=hS;cases k with
  | zero=>cases h
  | succ k =>
  unfold C5.l8 at h;refine Tt <| Tm ?_;obtain ⟨a1,h1,h⟩:=bind_some h;refine rg L 214 [] [(1,.cv (.lit (.int .i32 a1)))] [] (U4 (Cc.ok h1)) ?_;refine Tw L 218 <| Tt <| Tw L 227 ?_;rcases Tn h with ⟨c1,h⟩ |⟨c1,h⟩
  ·refine tT c1 <| Tw L 231 <| Tp (Tl.trans (Tl.kk [2,3] [0,21700]) (Tl.rr [(0,0),(21700,100)])) ?_;refine To ?_;cases h;exact .inr ⟨rfl,_,rfl,T3⟩
  refine fF c1 <| Tw L 235 ?_;rcases Tn h with ⟨c2,h⟩ |⟨c2,h⟩
  ·refine tT c2 <| Tm <| Tw L 239 ?_;rcases Tn h with ⟨c3,h⟩ |⟨c3,h⟩
   ·refine tT c3 <| Tw L 243 <| Tp (Tl.trans (Tl.kk [2,3] [0,21700]) (Tl.rr [(0,0),(21700,100)])) ?_;refine To ?_;cases h;exact .inr ⟨rfl,_,rfl,T3⟩
   refine fF c3 <| Tr <| Tw L 247 <| Tp (Tl.trans (Tl.kk [2,3] [0,21700]) (Tl.rr [(0,0),(21700,100)])) ?_;refine To ?_;cases h;exact .inr ⟨rfl,_,rfl,T3⟩
  refine fF c2 <| Tw L 253 ?_;rcases Tn h with ⟨c4,h⟩ |⟨c4,h⟩
  ·refine tT c4 <| Tm ?_;obtain ⟨⟨g,j,i⟩,h2,h⟩:=bind_some h;dsimp only at h;refine rg L 257 [] [] [(1,(T0 (.tup [.cv (.lit (.int .u8 g)),.I j]) [(0,.raw (A6 i))]))] (Tu (D6.okE h2)) ?_;refine Tm <| Tw L 265 ?_;rcases Tn h with ⟨c5,h⟩ |⟨c5,h⟩
   ·refine tT c5 <| Tw L 268 <| Tp (Tl.trans (Tl.kk [2,3] [0,21700]) (Tl.rr [(0,0),(21700,100)])) ?_;refine To ?_;cases h;exact .inr ⟨rfl,_,rfl,T3⟩
   refine fF c5 <| Tr ?_;obtain ⟨g1,h⟩:=Ts h;obtain ⟨g2,h⟩:=Ts h;refine ar L 273 [] [] [] (cs:=[0≤g,g < 256,(d.length+([(UInt8.ofNat (Int.toNat g))]:List UInt8).length) * 1≤140737488355328,True]) (S':=⟨[(0,.P 0),(2,.P 21700),(4,.cv (.own .Ey 21701))],[(0,.raw (A6 i)),(21700,.raw [.I 0,.I 0,.str [],.I 0]),(21701,.lst .Ey (d++([(UInt8.ofNat (Int.toNat g))]:List UInt8)))]⟩) (And.intro g1.1 (And.intro g1.2 (And.intro g2 trivial))) ?_;exact ⟨k,Nat.lt_succ_self k,_,_,_,rfl,h⟩
  refine fF c4 ?_;obtain ⟨o1,hp1,h⟩:=bind_some h;refine Tm (Uc (Q':=fun e S=>(e=.normal∧∃ f:Bool,S=⟨[(0,.P 0),(2,.P 29800),(4,.cv (.own .Ey 29801)),(5,.cv (.lit (.int .i32 a1))),(55,.B f)],[(0,.raw [.str b,.I (IntKind.i64.wrap (c+1))]),(29800,.raw [.I 0,.I 0,.str [],.I 0]),(29801,.lst .Ey d)]⟩∧f=o1)) ?_ ?_)
  ·clear h;replace h:=hp1;rcases Tn h with ⟨c6,h⟩ |⟨c6,h⟩
   ·refine Tz (rg L 279 [(2,true)] [] [] (Tu (decide_eq_true c6)) ⟨rfl,rfl⟩) (Tl.trans (Tl.kk [0,2,4,5,55] [0,21700,21701]) (Tl.trans (Tl.rr [(0,0),(21700,29800),(21701,29801)]) (Tl.kp (S':=⟨[(0,.P 0),(2,.P 29800),(4,.cv (.own .Ey 29801)),(5,.cv (.lit (.int .i32 a1))),(55,.B (decide (a1≤126)))],[(0,.raw [.str b,.I (IntKind.i64.wrap (c+1))]),(29800,.raw [.I 0,.I 0,.str [],.I 0]),(29801,.lst .Ey d)]⟩)))) ?_;cases h;exact ⟨rfl,_,rfl,rfl⟩
   refine Tz (rg L 279 [(2,false)] [] [] (Tu (decide_eq_false c6)) ⟨rfl,rfl⟩) (Tl.trans (Tl.kk [0,2,4,5,55] [0,21700,21701]) (Tl.trans (Tl.rr [(0,0),(21700,29800),(21701,29801)]) (Tl.kp (S':=⟨[(0,.P 0),(2,.P 29800),(4,.cv (.own .Ey 29801)),(5,.cv (.lit (.int .i32 a1))),(55,.B false)],[(0,.raw [.str b,.I (IntKind.i64.wrap (c+1))]),(29800,.raw [.I 0,.I 0,.str [],.I 0]),(29801,.lst .Ey d)]⟩)))) ?_;cases h;exact ⟨rfl,_,rfl,rfl⟩
  ·rintro e S ⟨rfl,f,rfl,rfl⟩;rcases Tn h with ⟨c7,h⟩ |⟨c7,h⟩
   ·refine tt c7 ?_;obtain ⟨g3,h⟩:=Ts h;obtain ⟨g4,h⟩:=Ts h;refine Tz (rg L 287 [] [] [] (Tq g3.1 (Tq g3.2 (Tq g4 (Tu trivial)))) ⟨rfl,rfl⟩) (Tl.trans (Tl.kk [0,2,4] [0,29800,29801]) (Tl.trans (Tl.rr [(0,0),(29800,21700),(29801,21701)]) (Tl.kp (S':=⟨[(0,.P 0),(2,.P 21700),(4,.cv (.own .Ey 21701))],[(0,.raw [.str b,.I (IntKind.i64.wrap (c+1))]),(21700,.raw [.I 0,.I 0,.str [],.I 0]),(21701,.lst .Ey (d++([(UInt8.ofNat (Int.toNat (IntKind.u8.wrap a1)))]:List UInt8)))]⟩)))) ?_;exact ⟨k,Nat.lt_succ_self k,_,_,_,rfl,h⟩
   refine fN c7 <| Tw L 294 <| Tp (Tl.trans (Tl.kk [2,3] [0,29800]) (Tl.rr [(0,0),(29800,100)])) ?_;refine To ?_;cases h;exact .inr ⟨rfl,_,rfl,T3⟩
 ·rintro e S (hf |⟨rfl,a,rfl,hr⟩)
  ·exact hf.elim
  ·rcases h with ⟨_,e1,h⟩ |⟨_,e1,h⟩
   ·have e2:=T5.done.inj e1;subst e2;subst h;exact ⟨_,Tl.refl,hr⟩
   ·cases e1
theorem C5.okE {K:Nat} {p0:Aw} {r:Aq×Int×Aw} (h:C5 K p0=some r):Tv V P 102 [.P 0] [(0,.raw (A6 p0))] [0] (.tup [.agg [.I r.1.Kind,.I r.1.At,.str r.1.Text,.I r.1.Int],.I r.2.1]) [(0,.raw [.str r.2.2.src,.I r.2.2.at_])] :=
 eo (fn:=Tryz.f102) (n:=67) (m:=100) fun Γ=>C5.body h
def Eb (K:Nat) (p0:Aw):Option (Aq×Int×Aw):=(Option.bind (((Option.bind (Cc K p0 0) (fun a1=>(Option.bind ((if a1=61 then some (decide (a1=61)) else (if a1=60 then some (decide (a1=60)) else (if a1=62 then some (decide (a1=62)) else some (decide (a1=33))))):Option Bool) (fun b=>(if b=true then (Option.bind (Cc K p0 1) (fun a2=>(if a2=61 then some 2 else (if a1≠33 then some 1 else some 0)))) else (if a1=40 then some 1 else (if a1=41 then some 1 else (if a1=123 then some 1 else (if a1=125 then some 1 else (if a1=91 then some 1 else (if a1=93 then some 1 else (if a1=44 then some 1 else (if a1=59 then some 1 else (if a1=46 then some 1 else (if a1=58 then some 1 else (if a1=43 then some 1 else (if a1=45 then some 1 else (if a1=42 then some 1 else (if a1=47 then some 1 else (if a1=37 then some 1 else some 0))))))))))))))))))))):Option Int) (fun a=>(if a=0 then some ((⟨0,0,[],0⟩:Aq),3,p0) else (if (0:Int)≤p0.at_∧p0.at_≤(IntKind.i64.wrap (p0.at_+a))∧(IntKind.i64.wrap (p0.at_+a))≤(p0.src.length:Int) then some ((⟨5,0,(slc p0.src p0.at_ (IntKind.i64.wrap (p0.at_+a))),0⟩:Aq),0,(⟨p0.src,(IntKind.i64.wrap (p0.at_+a))⟩:Aw)) else none))))
theorem Eb.body {Γ:Ud} {K:Nat} {p0:Aw} {r:Aq×Int×Aw} (h:Eb K p0=some r):Ub V P 64 100 Γ (Tryz.f103.body.getD .skip) (Ty P V Tryz.f103 (.tup [.agg [.I r.1.Kind,.I r.1.At,.str r.1.Text,.I r.1.Int],.I r.2.1]) [(0,.raw [.str r.2.2.src,.I r.2.2.at_])]) ⟨Tx 0 [.P 0],[(0,.raw (A6 p0))]⟩:=by
 unfold Eb at h;refine Tw L 200 <| Tw L 203 ?_;obtain ⟨o2,hp2,h⟩:=bind_some h;refine Tm (Uc (Q':=fun e S=>(e=.normal∧∃ b:Int,S=⟨[(0,.P 0),(2,.P 21000),(4,.I b)],[(0,.raw (A6 p0)),(21000,.raw [.I 0,.I 0,.str [],.I 0])]⟩∧b=o2)) ?_ ?_)
 ·clear h;replace h:=hp2;refine Tm ?_;obtain ⟨a1,h1,h⟩:=bind_some h;refine rg L 205 [] [(1,.cv (.lit (.int .i32 a1)))] [] (U4 (Cc.ok h1)) ?_;refine Tw L 209 <| Tt ?_;obtain ⟨o1,hp1,h⟩:=bind_some h;refine Tm (Uc (Q':=fun e S=>(e=.normal∧∃ a:Bool,S=⟨[(0,.P 0),(2,.P 22200),(4,.I 0),(5,.cv (.lit (.int .i32 a1))),(9,.cv (.lit (.int .i32 a1))),(10,.B a)],[(0,.raw (A6 p0)),(22200,.raw [.I 0,.I 0,.str [],.I 0])]⟩∧a=o1)) ?_ ?_)
  ·clear h;replace h:=hp1;refine Tw L 211 ?_;rcases Tn h with ⟨c1,h⟩ |⟨c1,h⟩
   ·refine tT c1 <| Tp (Tl.trans (Tl.kk [0,2,4,5,9,10] [0,200]) (Tl.rr [(0,0),(200,22200)])) ?_;refine sk (S':=⟨[(0,.P 0),(2,.P 22200),(4,.I 0),(5,.cv (.lit (.int .i32 a1))),(9,.cv (.lit (.int .i32 a1))),(10,.B (decide (a1=61)))],[(0,.raw (A6 p0)),(22200,.raw [.I 0,.I 0,.str [],.I 0])]⟩) ?_;cases h;exact ⟨rfl,_,rfl,rfl⟩
   refine fF c1 <| Tw L 214 ?_;rcases Tn h with ⟨c2,h⟩ |⟨c2,h⟩
   ·refine tT c2 <| Tp (Tl.trans (Tl.kk [0,2,4,5,9,10] [0,200]) (Tl.rr [(0,0),(200,22200)])) ?_;refine sk (S':=⟨[(0,.P 0),(2,.P 22200),(4,.I 0),(5,.cv (.lit (.int .i32 a1))),(9,.cv (.lit (.int .i32 a1))),(10,.B (decide (a1=60)))],[(0,.raw (A6 p0)),(22200,.raw [.I 0,.I 0,.str [],.I 0])]⟩) ?_;cases h;exact ⟨rfl,_,rfl,rfl⟩
   refine fF c2 <| Tw L 217 ?_;rcases Tn h with ⟨c3,h⟩ |⟨c3,h⟩
   ·refine tT c3 <| Tp (Tl.trans (Tl.kk [0,2,4,5,9,10] [0,200]) (Tl.rr [(0,0),(200,22200)])) ?_;refine sk (S':=⟨[(0,.P 0),(2,.P 22200),(4,.I 0),(5,.cv (.lit (.int .i32 a1))),(9,.cv (.lit (.int .i32 a1))),(10,.B (decide (a1=62)))],[(0,.raw (A6 p0)),(22200,.raw [.I 0,.I 0,.str [],.I 0])]⟩) ?_;cases h;exact ⟨rfl,_,rfl,rfl⟩
   refine fF c3 <| Tz (Yr L 220 ⟨rfl,rfl⟩) (Tl.trans (Tl.kk [0,2,4,5,9,10] [0,200]) (Tl.trans (Tl.rr [(0,0),(200,22200)]) (Tl.kp (S':=⟨[(0,.P 0),(2,.P 22200),(4,.I 0),(5,.cv (.lit (.int .i32 a1))),(9,.cv (.lit (.int .i32 a1))),(10,.B (decide (a1=33)))],[(0,.raw (A6 p0)),(22200,.raw [.I 0,.I 0,.str [],.I 0])]⟩)))) ?_;cases h;exact ⟨rfl,_,rfl,rfl⟩
  ·rintro e S ⟨rfl,a,rfl,rfl⟩;rcases Tn h with ⟨c4,h⟩ |⟨c4,h⟩
   ·refine tt c4 <| Tm ?_;obtain ⟨a2,h2,h⟩:=bind_some h;refine rg L 223 [] [(1,.cv (.lit (.int .i32 a2)))] [] (U4 (Cc.ok h2)) ?_;rcases Tn h with ⟨c5,h⟩ |⟨c5,h⟩
    ·refine tT c5 <| Tz (Yr L 227 ⟨rfl,rfl⟩) (Tl.trans (Tl.kk [0,2,4] [0,22200]) (Tl.trans (Tl.rr [(0,0),(22200,21000)]) (Tl.kp (S':=⟨[(0,.P 0),(2,.P 21000),(4,.I 2)],[(0,.raw (A6 p0)),(21000,.raw [.I 0,.I 0,.str [],.I 0])]⟩)))) ?_;cases h;exact ⟨rfl,_,rfl,rfl⟩
    refine fF c5 <| Tw L 229 ?_;rcases Tn h with ⟨c6,h⟩ |⟨c6,h⟩
    ·refine tT c6 <| Tz (Yr L 232 ⟨rfl,rfl⟩) (Tl.trans (Tl.kk [0,2,4] [0,22200]) (Tl.trans (Tl.rr [(0,0),(22200,21000)]) (Tl.kp (S':=⟨[(0,.P 0),(2,.P 21000),(4,.I 1)],[(0,.raw (A6 p0)),(21000,.raw [.I 0,.I 0,.str [],.I 0])]⟩)))) ?_;cases h;exact ⟨rfl,_,rfl,rfl⟩
    refine fF c6 <| Tp (Tl.trans (Tl.kk [0,2,4] [0,22200]) (Tl.rr [(0,0),(22200,21000)])) ?_;refine sk (S':=⟨[(0,.P 0),(2,.P 21000),(4,.I 0)],[(0,.raw (A6 p0)),(21000,.raw [.I 0,.I 0,.str [],.I 0])]⟩) ?_;cases h;exact ⟨rfl,_,rfl,rfl⟩
   refine fN c4 <| Tm <| Tw L 234 ?_;rcases Tn h with ⟨c7,h⟩ |⟨c7,h⟩
   ·refine tT c7 <| Tr <| tT c7 <| Tz (Yr L 279 ⟨rfl,rfl⟩) (Tl.trans (Tl.kk [0,2,4] [0,22200]) (Tl.trans (Tl.rr [(0,0),(22200,21000)]) (Tl.kp (S':=⟨[(0,.P 0),(2,.P 21000),(4,.I 1)],[(0,.raw (A6 p0)),(21000,.raw [.I 0,.I 0,.str [],.I 0])]⟩)))) ?_;cases h;exact ⟨rfl,_,rfl,rfl⟩
   refine fF c7 <| Tw L 237 ?_;rcases Tn h with ⟨c8,h⟩ |⟨c8,h⟩
   ·refine tT c8 <| Tr <| tT c8 <| Tz (Yr L 279 ⟨rfl,rfl⟩) (Tl.trans (Tl.kk [0,2,4] [0,22200]) (Tl.trans (Tl.rr [(0,0),(22200,21000)]) (Tl.kp (S':=⟨[(0,.P 0),(2,.P 21000),(4,.I 1)],[(0,.raw (A6 p0)),(21000,.raw [.I 0,.I 0,.str [],.I 0])]⟩)))) ?_;cases h;exact ⟨rfl,_,rfl,rfl⟩
   refine fF c8 <| Tw L 240 ?_;rcases Tn h with ⟨c9,h⟩ |⟨c9,h⟩
   ·refine tT c9 <| Tr <| tT c9 <| Tz (Yr L 279 ⟨rfl,rfl⟩) (Tl.trans (Tl.kk [0,2,4] [0,22200]) (Tl.trans (Tl.rr [(0,0),(22200,21000)]) (Tl.kp (S':=⟨[(0,.P 0),(2,.P 21000),(4,.I 1)],[(0,.raw (A6 p0)),(21000,.raw [.I 0,.I 0,.str [],.I 0])]⟩)))) ?_;cases h;exact ⟨rfl,_,rfl,rfl⟩
   refine fF c9 <| Tw L 243 ?_;rcases Tn h with ⟨c10,h⟩ |⟨c10,h⟩
   ·refine tT c10 <| Tr <| tT c10 <| Tz (Yr L 279 ⟨rfl,rfl⟩) (Tl.trans (Tl.kk [0,2,4] [0,22200]) (Tl.trans (Tl.rr [(0,0),(22200,21000)]) (Tl.kp (S':=⟨[(0,.P 0),(2,.P 21000),(4,.I 1)],[(0,.raw (A6 p0)),(21000,.raw [.I 0,.I 0,.str [],.I 0])]⟩)))) ?_;cases h;exact ⟨rfl,_,rfl,rfl⟩
   refine fF c10 <| Tw L 246 ?_;rcases Tn h with ⟨c11,h⟩ |⟨c11,h⟩
   ·refine tT c11 <| Tr <| tT c11 <| Tz (Yr L 279 ⟨rfl,rfl⟩) (Tl.trans (Tl.kk [0,2,4] [0,22200]) (Tl.trans (Tl.rr [(0,0),(22200,21000)]) (Tl.kp (S':=⟨[(0,.P 0),(2,.P 21000),(4,.I 1)],[(0,.raw (A6 p0)),(21000,.raw [.I 0,.I 0,.str [],.I 0])]⟩)))) ?_;cases h;exact ⟨rfl,_,rfl,rfl⟩
   refine fF c11 <| Tw L 249 ?_;rcases Tn h with ⟨c12,h⟩ |⟨c12,h⟩
   ·refine tT c12 <| Tr <| tT c12 <| Tz (Yr L 279 ⟨rfl,rfl⟩) (Tl.trans (Tl.kk [0,2,4] [0,22200]) (Tl.trans (Tl.rr [(0,0),(22200,21000)]) (Tl.kp (S':=⟨[(0,.P 0),(2,.P 21000),(4,.I 1)],[(0,.raw (A6 p0)),(21000,.raw [.I 0,.I 0,.str [],.I 0])]⟩)))) ?_;cases h;exact ⟨rfl,_,rfl,rfl⟩
   refine fF c12 <| Tw L 252 ?_;rcases Tn h with ⟨c13,h⟩ |⟨c13,h⟩
   ·refine tT c13 <| Tr <| tT c13 <| Tz (Yr L 279 ⟨rfl,rfl⟩) (Tl.trans (Tl.kk [0,2,4] [0,22200]) (Tl.trans (Tl.rr [(0,0),(22200,21000)]) (Tl.kp (S':=⟨[(0,.P 0),(2,.P 21000),(4,.I 1)],[(0,.raw (A6 p0)),(21000,.raw [.I 0,.I 0,.str [],.I 0])]⟩)))) ?_;cases h;exact ⟨rfl,_,rfl,rfl⟩
   refine fF c13 <| Tw L 255 ?_;rcases Tn h with ⟨c14,h⟩ |⟨c14,h⟩
   ·refine tT c14 <| Tr <| tT c14 <| Tz (Yr L 279 ⟨rfl,rfl⟩) (Tl.trans (Tl.kk [0,2,4] [0,22200]) (Tl.trans (Tl.rr [(0,0),(22200,21000)]) (Tl.kp (S':=⟨[(0,.P 0),(2,.P 21000),(4,.I 1)],[(0,.raw (A6 p0)),(21000,.raw [.I 0,.I 0,.str [],.I 0])]⟩)))) ?_;cases h;exact ⟨rfl,_,rfl,rfl⟩
   refine fF c14 <| Tw L 258 ?_;rcases Tn h with ⟨c15,h⟩ |⟨c15,h⟩
   ·refine tT c15 <| Tr <| tT c15 <| Tz (Yr L 279 ⟨rfl,rfl⟩) (Tl.trans (Tl.kk [0,2,4] [0,22200]) (Tl.trans (Tl.rr [(0,0),(22200,21000)]) (Tl.kp (S':=⟨[(0,.P 0),(2,.P 21000),(4,.I 1)],[(0,.raw (A6 p0)),(21000,.raw [.I 0,.I 0,.str [],.I 0])]⟩)))) ?_;cases h;exact ⟨rfl,_,rfl,rfl⟩
   refine fF c15 <| Tw L 261 ?_;rcases Tn h with ⟨c16,h⟩ |⟨c16,h⟩
   ·refine tT c16 <| Tr <| tT c16 <| Tz (Yr L 279 ⟨rfl,rfl⟩) (Tl.trans (Tl.kk [0,2,4] [0,22200]) (Tl.trans (Tl.rr [(0,0),(22200,21000)]) (Tl.kp (S':=⟨[(0,.P 0),(2,.P 21000),(4,.I 1)],[(0,.raw (A6 p0)),(21000,.raw [.I 0,.I 0,.str [],.I 0])]⟩)))) ?_;cases h;exact ⟨rfl,_,rfl,rfl⟩
   refine fF c16 <| Tw L 264 ?_;rcases Tn h with ⟨c17,h⟩ |⟨c17,h⟩
   ·refine tT c17 <| Tr <| tT c17 <| Tz (Yr L 279 ⟨rfl,rfl⟩) (Tl.trans (Tl.kk [0,2,4] [0,22200]) (Tl.trans (Tl.rr [(0,0),(22200,21000)]) (Tl.kp (S':=⟨[(0,.P 0),(2,.P 21000),(4,.I 1)],[(0,.raw (A6 p0)),(21000,.raw [.I 0,.I 0,.str [],.I 0])]⟩)))) ?_;cases h;exact ⟨rfl,_,rfl,rfl⟩
   refine fF c17 <| Tw L 267 ?_;rcases Tn h with ⟨c18,h⟩ |⟨c18,h⟩
   ·refine tT c18 <| Tr <| tT c18 <| Tz (Yr L 279 ⟨rfl,rfl⟩) (Tl.trans (Tl.kk [0,2,4] [0,22200]) (Tl.trans (Tl.rr [(0,0),(22200,21000)]) (Tl.kp (S':=⟨[(0,.P 0),(2,.P 21000),(4,.I 1)],[(0,.raw (A6 p0)),(21000,.raw [.I 0,.I 0,.str [],.I 0])]⟩)))) ?_;cases h;exact ⟨rfl,_,rfl,rfl⟩
   refine fF c18 <| Tw L 270 ?_;rcases Tn h with ⟨c19,h⟩ |⟨c19,h⟩
   ·refine tT c19 <| Tr <| tT c19 <| Tz (Yr L 279 ⟨rfl,rfl⟩) (Tl.trans (Tl.kk [0,2,4] [0,22200]) (Tl.trans (Tl.rr [(0,0),(22200,21000)]) (Tl.kp (S':=⟨[(0,.P 0),(2,.P 21000),(4,.I 1)],[(0,.raw (A6 p0)),(21000,.raw [.I 0,.I 0,.str [],.I 0])]⟩)))) ?_;cases h;exact ⟨rfl,_,rfl,rfl⟩
   refine fF c19 <| Tw L 273 ?_;rcases Tn h with ⟨c20,h⟩ |⟨c20,h⟩
   ·refine tT c20 <| Tr <| tT c20 <| Tz (Yr L 279 ⟨rfl,rfl⟩) (Tl.trans (Tl.kk [0,2,4] [0,22200]) (Tl.trans (Tl.rr [(0,0),(22200,21000)]) (Tl.kp (S':=⟨[(0,.P 0),(2,.P 21000),(4,.I 1)],[(0,.raw (A6 p0)),(21000,.raw [.I 0,.I 0,.str [],.I 0])]⟩)))) ?_;cases h;exact ⟨rfl,_,rfl,rfl⟩
   refine fF c20 <| Yr L 276 ?_;rcases Tn h with ⟨c21,h⟩ |⟨c21,h⟩
   ·refine tT c21 <| Tz (Yr L 279 ⟨rfl,rfl⟩) (Tl.trans (Tl.kk [0,2,4] [0,22200]) (Tl.trans (Tl.rr [(0,0),(22200,21000)]) (Tl.kp (S':=⟨[(0,.P 0),(2,.P 21000),(4,.I 1)],[(0,.raw (A6 p0)),(21000,.raw [.I 0,.I 0,.str [],.I 0])]⟩)))) ?_;cases h;exact ⟨rfl,_,rfl,rfl⟩
   refine fF c21 <| Tp (Tl.trans (Tl.kk [0,2,4] [0,22200]) (Tl.rr [(0,0),(22200,21000)])) ?_;refine sk (S':=⟨[(0,.P 0),(2,.P 21000),(4,.I 0)],[(0,.raw (A6 p0)),(21000,.raw [.I 0,.I 0,.str [],.I 0])]⟩) ?_;cases h;exact ⟨rfl,_,rfl,rfl⟩
 ·rintro e S ⟨rfl,b,rfl,rfl⟩;refine Tm <| Tw L 281 ?_;rcases Tn h with ⟨c22,h⟩ |⟨c22,h⟩
  ·refine tT c22 <| Tw L 284 <| Tp (Tl.trans (Tl.kk [2,3] [0,21000]) (Tl.rr [(0,0),(21000,100)])) ?_;refine To ?_;cases h;exact T3
  refine fF c22 <| Tr <| Tm ?_;obtain ⟨g1,h⟩:=Ts h;refine rd L mixed 288 [] [] [] [] 16 (Tq g1.1 (Tq g1.2.1 (Tu g1.2.2))) ?_;refine Tw L 305 <| Tw L 315 <| Tp (Tl.trans (Tl.kk [2,3] [0,21000]) (Tl.rr [(0,0),(21000,100)])) ?_;refine To ?_;cases h;exact T3
theorem Eb.okE {K:Nat} {p0:Aw} {r:Aq×Int×Aw} (h:Eb K p0=some r):Tv V P 103 [.P 0] [(0,.raw (A6 p0))] [0] (.tup [.agg [.I r.1.Kind,.I r.1.At,.str r.1.Text,.I r.1.Int],.I r.2.1]) [(0,.raw [.str r.2.2.src,.I r.2.2.at_])] :=
 eo (fn:=Tryz.f103) (n:=64) (m:=100) fun Γ=>Eb.body h
def Ea (K:Nat) (p0:Aw):Option (Aq×Int×Aw):=(Option.bind (Cc K p0 0) (fun a1=>(Option.bind (Ei K a1) (fun a2=>(if a2=true then (Option.bind (D7 K p0) (fun (a,b,c)=>some (a,b,c))) else (Option.bind (Ew K a1) (fun a4=>(if a4=true then (Option.bind (D3 K p0) (fun (d,e,f)=>some (d,e,f))) else (if a1=34 then (Option.bind (C5 K p0) (fun (g,h,i)=>some (g,h,i))) else (Option.bind (Eb K p0) (fun (j,k,l)=>some (j,k,l))))))))))))
theorem Ea.body {Γ:Ud} {K:Nat} {p0:Aw} {r:Aq×Int×Aw} (h:Ea K p0=some r):Ub V P 32 100 Γ (Tryz.f72.body.getD .skip) (Ty P V Tryz.f72 (.tup [.agg [.I r.1.Kind,.I r.1.At,.str r.1.Text,.I r.1.Int],.I r.2.1]) [(0,.raw [.str r.2.2.src,.I r.2.2.at_])]) ⟨Tx 0 [.P 0],[(0,.raw (A6 p0))]⟩:=by
 unfold Ea at h;refine Tw L 200 <| Tm <| Tm ?_;obtain ⟨a1,h1,h⟩:=bind_some h;refine rg L 203 [] [(1,.cv (.lit (.int .i32 a1)))] [] (U4 (Cc.ok h1)) ?_;refine Tt <| Tm ?_;obtain ⟨a2,h2,h⟩:=bind_some h;refine rg L 207 [] [(1,.B a2)] [] (U4 (Ei.ok h2)) ?_;rcases Tn h with ⟨c1,h⟩ |⟨c1,h⟩
 ·refine tt c1 <| Tm ?_;obtain ⟨⟨a,b,c⟩,h3,h⟩:=bind_some h;dsimp only at h;refine rg L 211 [] [] [(1,(T0 (.tup [.agg (D1 a),.I b]) [(0,.raw (A6 c))]))] (Tu (D7.okE h3)) ?_;refine Tp (Tl.trans (Tl.kk [2,3] [0,200]) (Tl.rr [(0,0),(200,100)])) ?_;refine To ?_;cases h;exact T3
 refine fN c1 <| Tm ?_;obtain ⟨a4,h4,h⟩:=bind_some h;refine rg L 218 [] [(1,.B a4)] [] (U4 (Ew.ok h4)) ?_;rcases Tn h with ⟨c2,h⟩ |⟨c2,h⟩
 ·refine tt c2 <| Tm ?_;obtain ⟨⟨d,e,f⟩,h5,h⟩:=bind_some h;dsimp only at h;refine rg L 222 [] [] [(1,(T0 (.tup [.agg (D1 d),.I e]) [(0,.raw (A6 f))]))] (Tu (D3.okE h5)) ?_;refine Tp (Tl.trans (Tl.kk [2,3] [0,200]) (Tl.rr [(0,0),(200,100)])) ?_;refine To ?_;cases h;exact T3
 refine fN c2 <| Tw L 229 ?_;rcases Tn h with ⟨c3,h⟩ |⟨c3,h⟩
 ·refine tT c3 <| Tm ?_;obtain ⟨⟨g,i,j⟩,h6,h⟩:=bind_some h;dsimp only at h;refine rg L 233 [] [] [(1,(T0 (.tup [.agg (D1 g),.I i]) [(0,.raw (A6 j))]))] (Tu (C5.okE h6)) ?_;refine Tp (Tl.trans (Tl.kk [2,3] [0,200]) (Tl.rr [(0,0),(200,100)])) ?_;refine To ?_;cases h;exact T3
 refine fF c3 <| Tr <| Tm ?_;obtain ⟨⟨k,l,m⟩,h7,h⟩:=bind_some h;dsimp only at h;refine rg L 240 [] [] [(1,(T0 (.tup [.agg (D1 k),.I l]) [(0,.raw (A6 m))]))] (Tu (Eb.okE h7)) ?_;refine Tp (Tl.trans (Tl.kk [2,3] [0,200]) (Tl.rr [(0,0),(200,100)])) ?_;refine To ?_;cases h;exact T3
theorem Ea.okE {K:Nat} {p0:Aw} {r:Aq×Int×Aw} (h:Ea K p0=some r):Tv V P 72 [.P 0] [(0,.raw (A6 p0))] [0] (.tup [.agg [.I r.1.Kind,.I r.1.At,.str r.1.Text,.I r.1.Int],.I r.2.1]) [(0,.raw [.str r.2.2.src,.I r.2.2.at_])] :=
 eo (fn:=Tryz.f72) (n:=32) (m:=100) fun Γ=>Ea.body h
def Ec.l16 (K:Nat) (p0:List UInt8):Nat→(List UInt8)→Int→(List Aq)→Option (T5 ((List Aq)×Int×Int) Unit)
 | 0,_,_,_=>none
 | k+1,d,e,a=>(Option.bind (C7 K (⟨d,e⟩:Aw)) (fun (h,b)=>(if b.at_≥(p0.length:Int) then (if (a.length+([(⟨0,b.at_,[],0⟩:Aq)]:List Aq).length) * 40≤140737488355328 then some (T5.done ((a++([(⟨0,b.at_,[],0⟩:Aq)]:List Aq)),0,0)) else none) else (Option.bind (Ea K b) (fun (c,f,g)=>(if f≠0 then some (T5.done (([]:List Aq),b.at_,f)) else (if (a.length+([(⟨c.Kind,b.at_,c.Text,c.Int⟩:Aq)]:List Aq).length) * 40≤140737488355328 then Ec.l16 K p0 k g.src g.at_ (a++([(⟨c.Kind,b.at_,c.Text,c.Int⟩:Aq)]:List Aq)) else none)))))))
def Ec (K:Nat) (p0:List UInt8):Option ((List Aq)×Int×Int):=(if (p0.length:Int) > 16384 then some (([]:List Aq),0,6) else (obind (Ec.l16 K p0 K p0 0 ([]:List Aq):Option (T5 ((List Aq)×Int×Int) Unit)) (fun r=>r) (fun _=>none)))
theorem Ec.body {Γ:Ud} {K:Nat} {p0:List UInt8} {r:(List Aq)×Int×Int} (h:Ec K p0=some r):Ub V P 46 100 Γ (Tryz.f40.body.getD .skip) (Ty P V Tryz.f40 (.tup [.cv (.ro .Ap r.1),.I r.2.1,.I r.2.2]) []) ⟨Tx 0 [.cv (.str p0)],[]⟩:=by
 unfold Ec at h;refine Tw L 200 <| Tm <| Tw L 204 ?_;rcases Tn h with ⟨c1,h⟩ |⟨c1,h⟩
 ·refine tT c1 <| Tw L 208 <| To ?_;cases h;exact T3
 refine fF c1 <| Tr <| Tw L 212 <| Tw L 217 <| Tt <| Tp (Tl.trans (Tl.kk [0,5,6] [214]) (Tl.trans (Tl.no 6 9500 Tag.Ap) (Tl.trans (Tl.kk [0,5,6] [214,9500]) (Tl.rr [(214,23300),(9500,23301)])))) ?_;refine kp (S':=⟨[(0,.cv (.str p0)),(5,.P 23300),(6,.cv (.own .Ap 23301))],[(23300,.raw [.str p0,.I 0]),(23301,.lst .Ap ([]:List Aq))]⟩) ?_;obtain ⟨o1,hp1,h⟩:=T7 h;refine T4 (Q':=fun e S=>False∨(e=.ret∧∃ a,T5.done a=o1∧Ty P V Tryz.f40 (.tup [.cv (.ro .Ap a.1),.I a.2.1,.I a.2.2]) [] .ret S)) (T8 (fun k S=>∃ c:List UInt8,∃ d:Int,∃ b:List Aq,S=⟨[(0,.cv (.str p0)),(5,.P 23300),(6,.cv (.own .Ap 23301))],[(23300,.raw [.str c,.I d]),(23301,.lst .Ap b)]⟩∧Ec.l16 K p0 k c d b=some o1) ?_ ⟨_,_,_,rfl,hp1⟩) ?_
 ·clear h hp1;intro k S hS;obtain ⟨c,d,b,rfl,h⟩:=hS;cases k with
  | zero=>cases h
  | succ k =>
  unfold Ec.l16 at h;refine Tt <| Tm ?_;obtain ⟨⟨j,g⟩,h1,h⟩:=bind_some h;dsimp only at h;refine rg L 219 [] [] [(1,(ef [0] [0] (.cv (.str j)) [(0,.raw (A6 g))] [(0,23300)]))] (Tu (C7.okE h1)) ?_;refine Tw L 222 <| Tm <| Tw L 228 ?_;rcases Tn h with ⟨c2,h⟩ |⟨c2,h⟩
  ·refine tT c2 <| Tm ?_;obtain ⟨g1,h⟩:=Ts h;refine rg L 233 [] [] [] (U4 g1) ?_;refine Tp (Tl.trans (Tl.kk [2,3,4] [23301]) (Tl.fz 23301)) ?_;refine To ?_;cases h;exact .inr ⟨rfl,_,rfl,T3⟩
  refine fF c2 <| Tr <| Tm ?_;obtain ⟨⟨f,l,i⟩,h2,h⟩:=bind_some h;dsimp only at h;refine rg L 242 [] [] [(1,(ef [0] [0] (.tup [.agg (D1 f),.I l]) [(0,.raw (A6 i))] [(0,23300)]))] (Tu (Ea.okE h2)) ?_;refine Tm <| Tw L 251 ?_;rcases Tn h with ⟨c3,h⟩ |⟨c3,h⟩
  ·refine tT c3 <| Tw L 254 <| To ?_;cases h;exact .inr ⟨rfl,_,rfl,T3⟩
  refine fF c3 <| Tr <| Tw L 260 ?_;obtain ⟨g2,h⟩:=Ts h;refine ar L 264 [] [] [] (cs:=[(b.length+([(⟨f.Kind,g.at_,f.Text,f.Int⟩:Aq)]:List Aq).length) * 40≤140737488355328,True]) (S':=⟨[(0,.cv (.str p0)),(5,.P 23300),(6,.cv (.own .Ap 23301))],[(23300,.raw (A6 i)),(23301,.lst .Ap (b++([(⟨f.Kind,g.at_,f.Text,f.Int⟩:Aq)]:List Aq)))]⟩) (And.intro g2 trivial) ?_;exact ⟨k,Nat.lt_succ_self k,_,_,_,rfl,h⟩
 ·rintro e S (hf |⟨rfl,a,rfl,hr⟩)
  ·exact hf.elim
  ·rcases h with ⟨_,e1,h⟩ |⟨_,e1,h⟩
   ·have e2:=T5.done.inj e1;subst e2;subst h;exact ⟨_,Tl.refl,hr⟩
   ·cases e1
theorem Ec.ok {K:Nat} {p0:List UInt8} {r:(List Aq)×Int×Int} (h:Ec K p0=some r):T1 V P 40 [.cv (.str p0)] (.tup [.cv (.ro .Ap r.1),.I r.2.1,.I r.2.2]):=Tv.pcall (eo (fn:=Tryz.f40) (n:=46) (m:=100) fun Γ=>Ec.body h) (by kernel_rfl)
def Bj (K:Nat) (p0:Ab):Option Aq:=(if (0:Int)≤(if (IntKind.i64.wrap ((p0.l.length:Int) - 1)) < p0.i then (IntKind.i64.wrap ((p0.l.length:Int) - 1)) else p0.i)∧((if (IntKind.i64.wrap ((p0.l.length:Int) - 1)) < p0.i then (IntKind.i64.wrap ((p0.l.length:Int) - 1)) else p0.i):Int) <(p0.l.length:Int) then some ((p0.l.getD (Int.toNat (if (IntKind.i64.wrap ((p0.l.length:Int) - 1)) < p0.i then (IntKind.i64.wrap ((p0.l.length:Int) - 1)) else p0.i)) Dh)) else none)
theorem Bj.body {Γ:Ud} {K:Nat} {p0:Ab} {r:Aq} (h:Bj K p0=some r):Ub V P 20 100 Γ (Tryz.f42.body.getD .skip) (Ty P V Tryz.f42 (.agg [.I r.Kind,.I r.At,.str r.Text,.I r.Int]) []) ⟨Tx 0 [.cv (.pcs (Ae p0) 0)],[]⟩:=by
 unfold Bj at h;refine Tw L 200 <| Tm ?_;obtain ⟨g1,h⟩:=Ts h;refine rd L mixed 202 [] [] [] [200] 18 (Vf g1.1 g1.2) ?_;refine Tp (Tl.trans (Tl.kk [2] [200]) (Tl.rr [(200,100)])) ?_;refine To ?_;cases h;exact T3
theorem Bj.ok {K:Nat} {p0:Ab} {r:Aq} (h:Bj K p0=some r):T1 V P 42 [.cv (.pcs (Ae p0) 0)] (.agg [.I r.Kind,.I r.At,.str r.Text,.I r.Int]):=Tv.pcall (eo (fn:=Tryz.f42) (n:=20) (m:=100) fun Γ=>Bj.body h) (by kernel_rfl)
def Dw (K:Nat) (p0:Ab) (p1:List UInt8):Option Bool:=(Option.bind (Bj K p0) (fun a1=>(if a1.Kind=2 then some (decide (a1.Text=p1)) else (if a1.Kind=5 then some (decide (a1.Text=p1)) else some false))))
theorem Dw.body {Γ:Ud} {K:Nat} {p0:Ab} {p1:List UInt8} {r:Bool} (h:Dw K p0 p1=some r):Ub V P 22 100 Γ (Tryz.f73.body.getD .skip) (Ty P V Tryz.f73 (.B r) []) ⟨Tx 0 [.cv (.pcs (Ae p0) 0),.cv (.str p1)],[]⟩:=by
 unfold Dw at h;refine Tw L 200 <| Tm ?_;obtain ⟨a1,h1,h⟩:=bind_some h;refine rg L 202 [] [(1,.agg (D1 a1))] [] (U4 (Bj.ok h1)) ?_;refine Tm ?_;rcases Tn h with ⟨c1,h⟩ |⟨c1,h⟩
 ·refine rg L 207 [(3,true)] [] [] (Tu (decide_eq_true c1)) ?_;refine To ?_;cases h;exact T3
 rcases Tn h with ⟨c2,h⟩ |⟨c2,h⟩
 ·refine rg L 207 [(3,false),(8,true)] [] [] (Vf (decide_eq_false c1) (decide_eq_true c2)) ?_;refine To ?_;cases h;exact T3
 refine rg L 207 [(3,false),(8,false)] [] [] (Vf (decide_eq_false c1) (decide_eq_false c2)) ?_;refine To ?_;cases h;exact T3
theorem Dw.ok {K:Nat} {p0:Ab} {p1:List UInt8} {r:Bool} (h:Dw K p0 p1=some r):T1 V P 73 [.cv (.pcs (Ae p0) 0),.cv (.str p1)] (.B r):=Tv.pcall (eo (fn:=Tryz.f73) (n:=22) (m:=100) fun Γ=>Dw.body h) (by kernel_rfl)
def Ak (K:Nat) (p0:List UInt8) (p1:Ab):Option (Bool×Ab):=(Option.bind (Dw K p1 p0) (fun a1=>(if a1=true then some (true,(⟨p1.l,(IntKind.i64.wrap (p1.i+1))⟩:Ab)) else some (false,p1))))
theorem Ak.body {Γ:Ud} {K:Nat} {p0:List UInt8} {p1:Ab} {r:Bool×Ab} (h:Ak K p0 p1=some r):Ub V P 16 100 Γ (Tryz.f44.body.getD .skip) (Ty P V Tryz.f44 (.B r.1) [(0,.raw [.ro .Ap r.2.l,.I r.2.i])]) ⟨Tx 0 [.P 0,.cv (.str p0)],[(0,.raw (Ae p1))]⟩:=by
 unfold Ak at h;refine Tw L 200 <| Tm <| Tm ?_;obtain ⟨a1,h1,h⟩:=bind_some h;refine rg L 202 [] [(2,.B a1)] [] (U4 (Dw.ok h1)) ?_;rcases Tn h with ⟨c1,h⟩ |⟨c1,h⟩
 ·refine ff (b:=(!a1)) (congrArg Bool.not (c1)) ?_;refine Tr <| Tw L 209 <| Tw L 218 <| To ?_;cases h;exact T3
 refine tt (b:=(!a1)) (congrArg Bool.not (eq_false_of_ne_true c1)) ?_;refine Tw L 207 <| To ?_;cases h;exact T3
theorem Ak.okE {K:Nat} {p0:List UInt8} {p1:Ab} {r:Bool×Ab} (h:Ak K p0 p1=some r):Tv V P 44 [.P 0,.cv (.str p0)] [(0,.raw (Ae p1))] [0] (.B r.1) [(0,.raw [.ro .Ap r.2.l,.I r.2.i])] :=
 eo (fn:=Tryz.f44) (n:=16) (m:=100) fun Γ=>Ak.body h
def Bf (K:Nat) (p0:Ab):Option Int:=(Option.bind (Bj K p0) (fun a1=>some a1.At))
def Bf.rep (p0:Ab):Int→Uu T
 | v0=>.pan (Ui 49 v0)
def Bf.post (p0:Ab):Int→List (Nat×T9 T)
 | v0=>[]
theorem Bf.body {Γ:Ud} {K:Nat} {p0:Ab} {r:Int} (h:Bf K p0=some r):Ub V P 7 100 Γ (Tryz.f43.body.getD .skip) (Uh P V Tryz.f43 (Bf.rep p0 r) (Bf.post p0 r)) ⟨Tx 0 [.P 0],[(0,.raw (Ae p0))]⟩:=by
 unfold Bf at h;obtain ⟨a1,h1,h⟩:=bind_some h;refine qn L 200 [] [(1,.agg (D1 a1))] [] 5 (ef [] [] (.tup []) [] []) (Ui 49 a1.At) (Tq (Bj.ok h1) (Tq trivial (Tu (show (Ui 49 a1.At)=(Ui 49 a1.At) from rfl)))) ?_;cases h;exact rfl
theorem Bf.okE {K:Nat} {p0:Ab} {r:Int} (h:Bf K p0=some r):Ug V P 43 [.P 0] [(0,.raw (Ae p0))] [0] (Bf.post p0 r) (Bf.rep p0 r) :=
 xo (fn:=Tryz.f43) (n:=7) (m:=100) fun Γ=>Bf.body h
def Dr (K:Nat) (p0:Ab):Option (Aq×Ab):=(Option.bind (Bj K p0) (fun a1=>some (a1,(⟨p0.l,(IntKind.i64.wrap (p0.i+1))⟩:Ab))))
theorem Dr.body {Γ:Ud} {K:Nat} {p0:Ab} {r:Aq×Ab} (h:Dr K p0=some r):Ub V P 14 100 Γ (Tryz.f74.body.getD .skip) (Ty P V Tryz.f74 (.agg [.I r.1.Kind,.I r.1.At,.str r.1.Text,.I r.1.Int]) [(0,.raw [.ro .Ap r.2.l,.I r.2.i])]) ⟨Tx 0 [.P 0],[(0,.raw (Ae p0))]⟩:=by
 unfold Dr at h;refine Tw L 200 <| Tm ?_;obtain ⟨a1,h1,h⟩:=bind_some h;refine rg L 202 [] [(1,.agg (D1 a1))] [] (U4 (Bj.ok h1)) ?_;refine Tw L 207 <| Tw L 216 <| Tp (Tl.trans (Tl.kk [2] [0,200]) (Tl.rr [(0,0),(200,100)])) ?_;refine To ?_;cases h;exact T3
theorem Dr.okE {K:Nat} {p0:Ab} {r:Aq×Ab} (h:Dr K p0=some r):Tv V P 74 [.P 0] [(0,.raw (Ae p0))] [0] (.agg [.I r.1.Kind,.I r.1.At,.str r.1.Text,.I r.1.Int]) [(0,.raw [.ro .Ap r.2.l,.I r.2.i])] :=
 eo (fn:=Tryz.f74) (n:=14) (m:=100) fun Γ=>Dr.body h
def Au (K:Nat) (p0:Ab):Option (Int ⊕ ((List UInt8)×Ab)):=(Option.bind (Bj K p0) (fun a1=>(if a1.Kind≠1 then (Option.bind (Bf K p0) (fun a2=>some (Sum.inl a2))) else (Option.bind (Dr K p0) (fun (a,b)=>some (Sum.inr (a.Text,b)))))))
def Au.rep (p0:Ab):Int ⊕ ((List UInt8)×Ab)→Uu T
 |(Sum.inl v0)=>.pan (Ui 49 v0)
 |(Sum.inr (v0,v1))=>.ret (.cv (.str v0))
def Au.post (p0:Ab):Int ⊕ ((List UInt8)×Ab)→List (Nat×T9 T)
 |(Sum.inl v0)=>[]
 |(Sum.inr (v0,v1))=>[(0,.raw [.ro .Ap v1.l,.I v1.i])]
theorem Au.body {Γ:Ud} {K:Nat} {p0:Ab} {r:Int ⊕ ((List UInt8)×Ab)} (h:Au K p0=some r):Ub V P 12 100 Γ (Tryz.f45.body.getD .skip) (Uh P V Tryz.f45 (Au.rep p0 r) (Au.post p0 r)) ⟨Tx 0 [.P 0],[(0,.raw (Ae p0))]⟩:=by
 unfold Au at h;refine Tw L 200 <| Tm <| Tm ?_;obtain ⟨a1,h1,h⟩:=bind_some h;refine rg L 202 [] [(1,.agg (D1 a1))] [] (U4 (Bj.ok h1)) ?_;rcases Tn h with ⟨c1,h⟩ |⟨c1,h⟩
 ·refine tT c1 ?_;obtain ⟨a2,h2,h⟩:=bind_some h;refine qn L 207 [] [] [] 1 (T0 (.tup []) []) (Ui 49 a2) (Tu (Bf.okE h2)) ?_;cases h;exact rfl
 refine fF c1 <| Tr <| Tm ?_;obtain ⟨⟨a,b⟩,h3,h⟩:=bind_some h;dsimp only at h;refine rg L 210 [] [] [(1,(T0 (.agg (D1 a)) [(0,.raw (Ae b))]))] (Tu (Dr.okE h3)) ?_;refine To ?_;cases h;exact Vj
theorem Au.okE {K:Nat} {p0:Ab} {r:Int ⊕ ((List UInt8)×Ab)} (h:Au K p0=some r):Ug V P 45 [.P 0] [(0,.raw (Ae p0))] [0] (Au.post p0 r) (Au.rep p0 r) :=
 xo (fn:=Tryz.f45) (n:=12) (m:=100) fun Γ=>Au.body h
def Ao (K:Nat) (p0:List UInt8) (p1:Ab):Option (Ab ⊕ Int):=(Option.bind (Ak K p0 p1) (fun (b,a)=>(if b=true then some (Sum.inl a) else (Option.bind (Bf K a) (fun a2=>some (Sum.inr a2))))))
def Ao.rep (p0:List UInt8) (p1:Ab):Ab ⊕ Int→Uu T
 |(Sum.inl v0)=>.ret (.tup [])
 |(Sum.inr v0)=>.pan (Ui 49 v0)
def Ao.post (p0:List UInt8) (p1:Ab):Ab ⊕ Int→List (Nat×T9 T)
 |(Sum.inl v0)=>[(0,.raw [.ro .Ap v0.l,.I v0.i])]
 |(Sum.inr v0)=>[]
theorem Ao.body {Γ:Ud} {K:Nat} {p0:List UInt8} {p1:Ab} {r:Ab ⊕ Int} (h:Ao K p0 p1=some r):Ub V P 10 100 Γ (Tryz.f46.body.getD .skip) (Uh P V Tryz.f46 (Ao.rep p0 p1 r) (Ao.post p0 p1 r)) ⟨Tx 0 [.P 0,.cv (.str p0)],[(0,.raw (Ae p1))]⟩:=by
 unfold Ao at h;refine Tm ?_;obtain ⟨⟨a,c⟩,h1,h⟩:=bind_some h;dsimp only at h;refine rg L 200 [] [] [(2,(T0 (.B a) [(0,.raw (Ae c))]))] (Tu (Ak.okE h1)) ?_;rcases Tn h with ⟨c1,h⟩ |⟨c1,h⟩
 ·refine ff (b:=(!a)) (congrArg Bool.not (c1)) ?_;refine sk (S':=⟨[],[(0,.raw (Ae c))]⟩) ?_;cases h;exact xn0
 refine tt (b:=(!a)) (congrArg Bool.not (eq_false_of_ne_true c1)) ?_;obtain ⟨a2,h2,h⟩:=bind_some h;refine qn L 205 [] [] [] 1 (T0 (.tup []) []) (Ui 49 a2) (Tu (Bf.okE h2)) ?_;cases h;exact rfl
theorem Ao.okE {K:Nat} {p0:List UInt8} {p1:Ab} {r:Ab ⊕ Int} (h:Ao K p0 p1=some r):Ug V P 46 [.P 0,.cv (.str p0)] [(0,.raw (Ae p1))] [0] (Ao.post p0 p1 r) (Ao.rep p0 p1 r) :=
 xo (fn:=Tryz.f46) (n:=10) (m:=100) fun Γ=>Ao.body h
def Bx.l7 (K:Nat) (p0:List (List UInt8)) (p1:List Int) (p2:Ab):Nat→Int→Option (T5 (Int×Bool×Ab) Unit)
 | 0,_=>none
 | k+1,a=>(if a <(p0.length:Int) then (if (0:Int)≤a∧(a:Int) <(p0.length:Int) then (Option.bind (Dw K p2 (p0.getD (Int.toNat a) ([]:List UInt8))) (fun a1=>(if a1=true then (if (a:Int) <(p1.length:Int) then some (T5.done ((p1.getD (Int.toNat a) (0:Int)),true,(⟨p2.l,(IntKind.i64.wrap (p2.i+1))⟩:Ab))) else none) else Bx.l7 K p0 p1 p2 k (IntKind.i64.wrap (a+1))))) else none) else some (T5.go ()))
def Bx (K:Nat) (p0:List (List UInt8)) (p1:List Int) (p2:Ab):Option (Int×Bool×Ab):=(obind (Bx.l7 K p0 p1 p2 K 0:Option (T5 (Int×Bool×Ab) Unit)) (fun r=>r) (fun _=>some (0,false,p2)))
theorem Bx.body {Γ:Ud} {K:Nat} {p0:List (List UInt8)} {p1:List Int} {p2:Ab} {r:Int×Bool×Ab} (h:Bx K p0 p1 p2=some r):Ub V P 32 100 Γ (Tryz.f78.body.getD .skip) (Ty P V Tryz.f78 (.tup [.I r.1,.B r.2.1]) [(0,.raw [.ro .Ap r.2.2.l,.I r.2.2.i])]) ⟨Tx 0 [.P 0,.cv (.ro .Dk p0),.cv (.ro .E5 p1)],[(0,.raw (Ae p2))]⟩:=by
 unfold Bx at h;refine Tw L 200 <| Tm <| Tw L 203 <| Tt <| kp (S':=⟨[(0,.P 0),(2,.cv (.ro .E5 p1)),(10,.cv (.ro .Dk p0)),(11,.I (p0.length:Int)),(12,.I 0)],[(0,.raw (Ae p2))]⟩) ?_;obtain ⟨o1,hp1,h⟩:=T7 h;refine T4 (Q':=fun e S=>(e=.exit 0∧S=⟨[],[(0,.raw (Ae p2))]⟩∧T5.go ()=o1)∨(e=.ret∧∃ a,T5.done a=o1∧Ty P V Tryz.f78 (.tup [.I a.1,.B a.2.1]) [(0,.raw [.ro .Ap a.2.2.l,.I a.2.2.i])] .ret S)) (T8 (fun k S=>∃ b:Int,S=⟨[(0,.P 0),(2,.cv (.ro .E5 p1)),(10,.cv (.ro .Dk p0)),(11,.I (p0.length:Int)),(12,.I b)],[(0,.raw (Ae p2))]⟩∧Bx.l7 K p0 p1 p2 k b=some o1) ?_ ⟨_,rfl,hp1⟩) ?_
 ·clear h hp1;intro k S hS;obtain ⟨b,rfl,h⟩:=hS;cases k with
  | zero=>cases h
  | succ k =>
  unfold Bx.l7 at h;refine Tw L 207 <| Tm ?_;rcases Tn h with ⟨c1,h⟩ |⟨c1,h⟩
  ·refine tT c1 <| Tr <| Tm <| Tt <| Tm ?_;obtain ⟨g1,h⟩:=Ts h;refine rg L 209 [] [] [] (Vf g1.1 g1.2) ?_;refine Tm ?_;obtain ⟨a1,h1,h⟩:=bind_some h;refine rg L 215 [] [(2,.B a1)] [] (U4 (Dw.ok h1)) ?_;rcases Tn h with ⟨c2,h⟩ |⟨c2,h⟩
   ·refine tt c2 <| Tw L 219 <| Tm ?_;obtain ⟨g2,h⟩:=Ts h;refine rg L 228 [] [] [] (Vf g1.1 g2) ?_;refine To ?_;cases h;exact .inr ⟨rfl,_,rfl,T3⟩
   refine fN c2 <| Tr <| Xi L 235 [] [] [] (S':=⟨[(0,.P 0),(2,.cv (.ro .E5 p1)),(10,.cv (.ro .Dk p0)),(11,.I (p0.length:Int)),(12,.I (IntKind.i64.wrap (b+1)))],[(0,.raw (Ae p2))]⟩) ?_;exact ⟨k,Nat.lt_succ_self k,_,rfl,h⟩
  refine fF c1 <| ex (S':=⟨[],[(0,.raw (Ae p2))]⟩) ?_;cases h;exact .inl ⟨rfl,rfl,rfl⟩
 ·rintro e S (⟨rfl,rfl,rfl⟩ |⟨rfl,a,rfl,hr⟩)
  ·rcases h with ⟨_,e1,h⟩ |⟨_,e1,h⟩
   ·cases e1
   ·have e2:=T5.go.inj e1;subst e2;refine ⟨_,Tl.refl,?_⟩;refine Tw L 238 <| To ?_;cases h;exact T3
  ·rcases h with ⟨_,e1,h⟩ |⟨_,e1,h⟩
   ·have e2:=T5.done.inj e1;subst e2;subst h;exact ⟨_,Tl.refl,hr⟩
   ·cases e1
theorem Bx.okE {K:Nat} {p0:List (List UInt8)} {p1:List Int} {p2:Ab} {r:Int×Bool×Ab} (h:Bx K p0 p1 p2=some r):Tv V P 78 [.P 0,.cv (.ro .Dk p0),.cv (.ro .E5 p1)] [(0,.raw (Ae p2))] [0] (.tup [.I r.1,.B r.2.1]) [(0,.raw [.ro .Ap r.2.2.l,.I r.2.2.i])] :=
 eo (fn:=Tryz.f78) (n:=32) (m:=100) fun Γ=>Bx.body h
def Dq (K:Nat) (p0:Ab):Option (Aa×Bool×Ab):=(Option.bind (Bj K p0) (fun a1=>(if a1.Kind=3 then some ((⟨4,[],a1.Int,[],([]:List Aa)⟩:Aa),true,(⟨p0.l,(IntKind.i64.wrap (p0.i+1))⟩:Ab)) else (if a1.Kind=4 then some ((⟨5,[],0,a1.Text,([]:List Aa)⟩:Aa),true,(⟨p0.l,(IntKind.i64.wrap (p0.i+1))⟩:Ab)) else (Option.bind (Bx K ([([110,117,108,108]:List UInt8),([116,114,117,101]:List UInt8),([102,97,108,115,101]:List UInt8)]:List (List UInt8)) ([1,2,3]:List Int) p0) (fun (a,b,c)=>some ((⟨a,[],0,[],([]:List Aa)⟩:Aa),b,c)))))))
theorem Dq.body {Γ:Ud} {K:Nat} {p0:Ab} {r:Aa×Bool×Ab} (h:Dq K p0=some r):Ub V P 47 100 Γ (Tryz.f76.body.getD .skip) (Ty P V Tryz.f76 (.tup [.agg [.I r.1.Op,.str r.1.Name,.I r.1.Int,.str r.1.Text,.ro .Af r.1.Kids],.B r.2.1]) [(0,.raw [.ro .Ap r.2.2.l,.I r.2.2.i])]) ⟨Tx 0 [.P 0],[(0,.raw (Ae p0))]⟩:=by
 unfold Dq at h;refine Tw L 200 <| Tm <| Tm ?_;obtain ⟨a1,h1,h⟩:=bind_some h;refine rg L 203 [] [(1,.agg (D1 a1))] [] (U4 (Bj.ok h1)) ?_;refine Tt <| Tw L 208 ?_;rcases Tn h with ⟨c1,h⟩ |⟨c1,h⟩
 ·refine tT c1 <| Tw L 213 <| Tw L 222 <| Tp (Tl.trans (Tl.kk [2,3] [0,200]) (Tl.rr [(0,0),(200,100)])) ?_;refine To ?_;cases h;exact T3
 refine fF c1 <| Tw L 228 ?_;rcases Tn h with ⟨c2,h⟩ |⟨c2,h⟩
 ·refine tT c2 <| Tw L 233 <| Tw L 242 <| Tp (Tl.trans (Tl.kk [2,3] [0,200]) (Tl.rr [(0,0),(200,100)])) ?_;refine To ?_;cases h;exact T3
 refine fF c2 <| Tr <| Tm ?_;obtain ⟨⟨a,b,c⟩,h2,h⟩:=bind_some h;dsimp only at h;refine rg L 248 [] [] [(3,(T0 (.tup [.I a,.B b]) [(0,.raw (Ae c))]))] (Tu (Bx.okE h2)) ?_;refine Tw L 258 <| Tp (Tl.trans (Tl.kk [2,3] [0,200]) (Tl.rr [(0,0),(200,100)])) ?_;refine To ?_;cases h;exact T3
theorem Dq.okE {K:Nat} {p0:Ab} {r:Aa×Bool×Ab} (h:Dq K p0=some r):Tv V P 76 [.P 0] [(0,.raw (Ae p0))] [0] (.tup [.agg [.I r.1.Op,.str r.1.Name,.I r.1.Int,.str r.1.Text,.ro .Af r.1.Kids],.B r.2.1]) [(0,.raw [.ro .Ap r.2.2.l,.I r.2.2.i])] :=
 eo (fn:=Tryz.f76) (n:=47) (m:=100) fun Γ=>Dq.body h
def Cu (K:Nat) (p0:Int) (p1:List Aa):Option Aa:=some (⟨p0,[],0,[],p1⟩:Aa)
theorem Cu.body {Γ:Ud} {K:Nat} {p0:Int} {p1:List Aa} {r:Aa} (h:Cu K p0 p1=some r):Ub V P 8 100 Γ (Tryz.f75.body.getD .skip) (Ty P V Tryz.f75 (.agg [.I r.Op,.str r.Name,.I r.Int,.str r.Text,.ro .Af r.Kids]) []) ⟨Tx 0 [.I p0,.cv (.ro .Af p1)],[]⟩:=by
 unfold Cu at h;refine Tw L 200 <| Tw L 202 <| Tp (Tl.trans (Tl.kk [4] [200]) (Tl.rr [(200,100)])) ?_;refine To ?_;cases h;exact T3
theorem Cu.ok {K:Nat} {p0:Int} {p1:List Aa} {r:Aa} (h:Cu K p0 p1=some r):T1 V P 75 [.I p0,.cv (.ro .Af p1)] (.agg [.I r.Op,.str r.Name,.I r.Int,.str r.Text,.ro .Af r.Kids]):=Tv.pcall (eo (fn:=Tryz.f75) (n:=8) (m:=100) fun Γ=>Cu.body h) (by kernel_rfl)
def Bd.rep (p0:List UInt8) (p1:Ab):((List Aa)×Ab) ⊕ Int→Uu T
 |(Sum.inl (v0,v1))=>.ret (.cv (.ro .Af v0))
 |(Sum.inr v0)=>.pan (Ui 49 v0)
def Bd.post (p0:List UInt8) (p1:Ab):((List Aa)×Ab) ⊕ Int→List (Nat×T9 T)
 |(Sum.inl (v0,v1))=>[(0,.raw [.ro .Ap v1.l,.I v1.i])]
 |(Sum.inr v0)=>[]
def Bi.rep (p0:Int) (p1:List UInt8) (p2:Ab):(Aa×Ab) ⊕ Int→Uu T
 |(Sum.inl (v0,v1))=>.ret (.agg [.I v0.Op,.str v0.Name,.I v0.Int,.str v0.Text,.ro .Af v0.Kids])
 |(Sum.inr v0)=>.pan (Ui 49 v0)
def Bi.post (p0:Int) (p1:List UInt8) (p2:Ab):(Aa×Ab) ⊕ Int→List (Nat×T9 T)
 |(Sum.inl (v0,v1))=>[(0,.raw [.ro .Ap v1.l,.I v1.i])]
 |(Sum.inr v0)=>[]
def B3.rep (p0:Ab):Int ⊕ (Aa×Ab)→Uu T
 |(Sum.inl v0)=>.pan (Ui 49 v0)
 |(Sum.inr (v0,v1))=>.ret (.agg [.I v0.Op,.str v0.Name,.I v0.Int,.str v0.Text,.ro .Af v0.Kids])
def B3.post (p0:Ab):Int ⊕ (Aa×Ab)→List (Nat×T9 T)
 |(Sum.inl v0)=>[]
 |(Sum.inr (v0,v1))=>[(0,.raw [.ro .Ap v1.l,.I v1.i])]
def Bo.rep (p0:List UInt8) (p1:Ab):((List Aa)×Ab) ⊕ Int→Uu T
 |(Sum.inl (v0,v1))=>.ret (.cv (.ro .Af v0))
 |(Sum.inr v0)=>.pan (Ui 49 v0)
def Bo.post (p0:List UInt8) (p1:Ab):((List Aa)×Ab) ⊕ Int→List (Nat×T9 T)
 |(Sum.inl (v0,v1))=>[(0,.raw [.ro .Ap v1.l,.I v1.i])]
 |(Sum.inr v0)=>[]
def Br.rep (p0:Ab):(Aa×Ab) ⊕ Int→Uu T
 |(Sum.inl (v0,v1))=>.ret (.agg [.I v0.Op,.str v0.Name,.I v0.Int,.str v0.Text,.ro .Af v0.Kids])
 |(Sum.inr v0)=>.pan (Ui 49 v0)
def Br.post (p0:Ab):(Aa×Ab) ⊕ Int→List (Nat×T9 T)
 |(Sum.inl (v0,v1))=>[(0,.raw [.ro .Ap v1.l,.I v1.i])]
 |(Sum.inr v0)=>[]
def A9.rep (p0:Ab):Int ⊕ (Aa×Ab)→Uu T
 |(Sum.inl v0)=>.pan (Ui 49 v0)
 |(Sum.inr (v0,v1))=>.ret (.agg [.I v0.Op,.str v0.Name,.I v0.Int,.str v0.Text,.ro .Af v0.Kids])
def A9.post (p0:Ab):Int ⊕ (Aa×Ab)→List (Nat×T9 T)
 |(Sum.inl v0)=>[]
 |(Sum.inr (v0,v1))=>[(0,.raw [.ro .Ap v1.l,.I v1.i])]
def A7.rep (p0:Ab):Int ⊕ (Aa×Ab)→Uu T
 |(Sum.inl v0)=>.pan (Ui 49 v0)
 |(Sum.inr (v0,v1))=>.ret (.agg [.I v0.Op,.str v0.Name,.I v0.Int,.str v0.Text,.ro .Af v0.Kids])
def A7.post (p0:Ab):Int ⊕ (Aa×Ab)→List (Nat×T9 T)
 |(Sum.inl v0)=>[]
 |(Sum.inr (v0,v1))=>[(0,.raw [.ro .Ap v1.l,.I v1.i])]
def Bp.rep (p0:List (List UInt8)) (p1:List Int) (p2:Ab):Int ⊕ (Aa×Ab)→Uu T
 |(Sum.inl v0)=>.pan (Ui 49 v0)
 |(Sum.inr (v0,v1))=>.ret (.agg [.I v0.Op,.str v0.Name,.I v0.Int,.str v0.Text,.ro .Af v0.Kids])
def Bp.post (p0:List (List UInt8)) (p1:List Int) (p2:Ab):Int ⊕ (Aa×Ab)→List (Nat×T9 T)
 |(Sum.inl v0)=>[]
 |(Sum.inr (v0,v1))=>[(0,.raw [.ro .Ap v1.l,.I v1.i])]
def Bn.rep (p0:Ab):Int ⊕ (Aa×Ab)→Uu T
 |(Sum.inl v0)=>.pan (Ui 49 v0)
 |(Sum.inr (v0,v1))=>.ret (.agg [.I v0.Op,.str v0.Name,.I v0.Int,.str v0.Text,.ro .Af v0.Kids])
def Bn.post (p0:Ab):Int ⊕ (Aa×Ab)→List (Nat×T9 T)
 |(Sum.inl v0)=>[]
 |(Sum.inr (v0,v1))=>[(0,.raw [.ro .Ap v1.l,.I v1.i])]
def Bu.rep (p0:List (List UInt8)) (p1:List Int) (p2:Ab):Int ⊕ (Aa×Ab)→Uu T
 |(Sum.inl v0)=>.pan (Ui 49 v0)
 |(Sum.inr (v0,v1))=>.ret (.agg [.I v0.Op,.str v0.Name,.I v0.Int,.str v0.Text,.ro .Af v0.Kids])
def Bu.post (p0:List (List UInt8)) (p1:List Int) (p2:Ab):Int ⊕ (Aa×Ab)→List (Nat×T9 T)
 |(Sum.inl v0)=>[]
 |(Sum.inr (v0,v1))=>[(0,.raw [.ro .Ap v1.l,.I v1.i])]
def B2.rep (p0:Ab):Int ⊕ (Aa×Ab)→Uu T
 |(Sum.inl v0)=>.pan (Ui 49 v0)
 |(Sum.inr (v0,v1))=>.ret (.agg [.I v0.Op,.str v0.Name,.I v0.Int,.str v0.Text,.ro .Af v0.Kids])
def B2.post (p0:Ab):Int ⊕ (Aa×Ab)→List (Nat×T9 T)
 |(Sum.inl v0)=>[]
 |(Sum.inr (v0,v1))=>[(0,.raw [.ro .Ap v1.l,.I v1.i])]
def Bm.rep (p0:Ab):Int ⊕ (Aa×Ab)→Uu T
 |(Sum.inl v0)=>.pan (Ui 49 v0)
 |(Sum.inr (v0,v1))=>.ret (.agg [.I v0.Op,.str v0.Name,.I v0.Int,.str v0.Text,.ro .Af v0.Kids])
def Bm.post (p0:Ab):Int ⊕ (Aa×Ab)→List (Nat×T9 T)
 |(Sum.inl v0)=>[]
 |(Sum.inr (v0,v1))=>[(0,.raw [.ro .Ap v1.l,.I v1.i])]
def Bt.rep (p0:List (List UInt8)) (p1:List Int) (p2:Ab):Int ⊕ (Aa×Ab)→Uu T
 |(Sum.inl v0)=>.pan (Ui 49 v0)
 |(Sum.inr (v0,v1))=>.ret (.agg [.I v0.Op,.str v0.Name,.I v0.Int,.str v0.Text,.ro .Af v0.Kids])
def Bt.post (p0:List (List UInt8)) (p1:List Int) (p2:Ab):Int ⊕ (Aa×Ab)→List (Nat×T9 T)
 |(Sum.inl v0)=>[]
 |(Sum.inr (v0,v1))=>[(0,.raw [.ro .Ap v1.l,.I v1.i])]
def B9.rep (p0:Ab):Int ⊕ (Aa×Ab)→Uu T
 |(Sum.inl v0)=>.pan (Ui 49 v0)
 |(Sum.inr (v0,v1))=>.ret (.agg [.I v0.Op,.str v0.Name,.I v0.Int,.str v0.Text,.ro .Af v0.Kids])
def B9.post (p0:Ab):Int ⊕ (Aa×Ab)→List (Nat×T9 T)
 |(Sum.inl v0)=>[]
 |(Sum.inr (v0,v1))=>[(0,.raw [.ro .Ap v1.l,.I v1.i])]
def Bq.rep (p0:List (List UInt8)) (p1:List Int) (p2:Ab):Int ⊕ (Aa×Ab)→Uu T
 |(Sum.inl v0)=>.pan (Ui 49 v0)
 |(Sum.inr (v0,v1))=>.ret (.agg [.I v0.Op,.str v0.Name,.I v0.Int,.str v0.Text,.ro .Af v0.Kids])
def Bq.post (p0:List (List UInt8)) (p1:List Int) (p2:Ab):Int ⊕ (Aa×Ab)→List (Nat×T9 T)
 |(Sum.inl v0)=>[]
 |(Sum.inr (v0,v1))=>[(0,.raw [.ro .Ap v1.l,.I v1.i])]
def As.rep (p0:Ab):Int ⊕ (Aa×Ab)→Uu T
 |(Sum.inl v0)=>.pan (Ui 49 v0)
 |(Sum.inr (v0,v1))=>.ret (.agg [.I v0.Op,.str v0.Name,.I v0.Int,.str v0.Text,.ro .Af v0.Kids])
def As.post (p0:Ab):Int ⊕ (Aa×Ab)→List (Nat×T9 T)
 |(Sum.inl v0)=>[]
 |(Sum.inr (v0,v1))=>[(0,.raw [.ro .Ap v1.l,.I v1.i])]
structure Ag where
 Bd:(List UInt8)→Ab→Option (((List Aa)×Ab) ⊕ Int)
 Bi:Int→(List UInt8)→Ab→Option ((Aa×Ab) ⊕ Int)
 B3:Ab→Option (Int ⊕ (Aa×Ab))
 Bo:(List UInt8)→Ab→Option (((List Aa)×Ab) ⊕ Int)
 Br:Ab→Option ((Aa×Ab) ⊕ Int)
 A9:Ab→Option (Int ⊕ (Aa×Ab))
 A7:Ab→Option (Int ⊕ (Aa×Ab))
 Bp:(List (List UInt8))→(List Int)→Ab→Option (Int ⊕ (Aa×Ab))
 Bn:Ab→Option (Int ⊕ (Aa×Ab))
 Bu:(List (List UInt8))→(List Int)→Ab→Option (Int ⊕ (Aa×Ab))
 B2:Ab→Option (Int ⊕ (Aa×Ab))
 Bm:Ab→Option (Int ⊕ (Aa×Ab))
 Bt:(List (List UInt8))→(List Int)→Ab→Option (Int ⊕ (Aa×Ab))
 B9:Ab→Option (Int ⊕ (Aa×Ab))
 Bq:(List (List UInt8))→(List Int)→Ab→Option (Int ⊕ (Aa×Ab))
 As:Ab→Option (Int ⊕ (Aa×Ab))
structure Ag.Ok (R:Ag):Prop where
 Bd:∀ {p0:List UInt8} {p1:Ab} {r:((List Aa)×Ab) ⊕ Int},R.Bd p0 p1=some r→Ug V P 48 [.P 0,.cv (.str p0),.cv (.fn (.func 32) [.P 0] [])] [(0,.raw (Ae p1))] [0] (Bd.post p0 p1 r) (Bd.rep p0 p1 r)
 Bi:∀ {p0:Int} {p1:List UInt8} {p2:Ab} {r:(Aa×Ab) ⊕ Int},R.Bi p0 p1 p2=some r→Ug V P 106 [.P 0,.I p0,.cv (.str p1)] [(0,.raw (Ae p2))] [0] (Bi.post p0 p1 p2 r) (Bi.rep p0 p1 p2 r)
 B3:∀ {p0:Ab} {r:Int ⊕ (Aa×Ab)},R.B3 p0=some r→Ug V P 166 [.P 0] [(0,.raw (Ae p0))] [0] (B3.post p0 r) (B3.rep p0 r)
 Bo:∀ {p0:List UInt8} {p1:Ab} {r:((List Aa)×Ab) ⊕ Int},R.Bo p0 p1=some r→Ug V P 48 [.P 0,.cv (.str p0),.cv (.fn (.func 166) [.P 0] [])] [(0,.raw (Ae p1))] [0] (Bo.post p0 p1 r) (Bo.rep p0 p1 r)
 Br:∀ {p0:Ab} {r:(Aa×Ab) ⊕ Int},R.Br p0=some r→Ug V P 163 [.P 0] [(0,.raw (Ae p0))] [0] (Br.post p0 r) (Br.rep p0 r)
 A9:∀ {p0:Ab} {r:Int ⊕ (Aa×Ab)},R.A9 p0=some r→Ug V P 156 [.P 0] [(0,.raw (Ae p0))] [0] (A9.post p0 r) (A9.rep p0 r)
 A7:∀ {p0:Ab} {r:Int ⊕ (Aa×Ab)},R.A7 p0=some r→Ug V P 146 [.P 0] [(0,.raw (Ae p0))] [0] (A7.post p0 r) (A7.rep p0 r)
 Bp:∀ {p0:List (List UInt8)} {p1:List Int} {p2:Ab} {r:Int ⊕ (Aa×Ab)},R.Bp p0 p1 p2=some r→Ug V P 62 [.P 0,.cv (.fn (.func 146) [.P 0] []),.cv (.ro .Dk p0),.cv (.ro .E5 p1)] [(0,.raw (Ae p2))] [0] (Bp.post p0 p1 p2 r) (Bp.rep p0 p1 p2 r)
 Bn:∀ {p0:Ab} {r:Int ⊕ (Aa×Ab)},R.Bn p0=some r→Ug V P 137 [.P 0] [(0,.raw (Ae p0))] [0] (Bn.post p0 r) (Bn.rep p0 r)
 Bu:∀ {p0:List (List UInt8)} {p1:List Int} {p2:Ab} {r:Int ⊕ (Aa×Ab)},R.Bu p0 p1 p2=some r→Ug V P 62 [.P 0,.cv (.fn (.func 137) [.P 0] []),.cv (.ro .Dk p0),.cv (.ro .E5 p1)] [(0,.raw (Ae p2))] [0] (Bu.post p0 p1 p2 r) (Bu.rep p0 p1 p2 r)
 B2:∀ {p0:Ab} {r:Int ⊕ (Aa×Ab)},R.B2 p0=some r→Ug V P 122 [.P 0] [(0,.raw (Ae p0))] [0] (B2.post p0 r) (B2.rep p0 r)
 Bm:∀ {p0:Ab} {r:Int ⊕ (Aa×Ab)},R.Bm p0=some r→Ug V P 93 [.P 0] [(0,.raw (Ae p0))] [0] (Bm.post p0 r) (Bm.rep p0 r)
 Bt:∀ {p0:List (List UInt8)} {p1:List Int} {p2:Ab} {r:Int ⊕ (Aa×Ab)},R.Bt p0 p1 p2=some r→Ug V P 62 [.P 0,.cv (.fn (.func 93) [.P 0] []),.cv (.ro .Dk p0),.cv (.ro .E5 p1)] [(0,.raw (Ae p2))] [0] (Bt.post p0 p1 p2 r) (Bt.rep p0 p1 p2 r)
 B9:∀ {p0:Ab} {r:Int ⊕ (Aa×Ab)},R.B9 p0=some r→Ug V P 63 [.P 0] [(0,.raw (Ae p0))] [0] (B9.post p0 r) (B9.rep p0 r)
 Bq:∀ {p0:List (List UInt8)} {p1:List Int} {p2:Ab} {r:Int ⊕ (Aa×Ab)},R.Bq p0 p1 p2=some r→Ug V P 62 [.P 0,.cv (.fn (.func 63) [.P 0] []),.cv (.ro .Dk p0),.cv (.ro .E5 p1)] [(0,.raw (Ae p2))] [0] (Bq.post p0 p1 p2 r) (Bq.rep p0 p1 p2 r)
 As:∀ {p0:Ab} {r:Int ⊕ (Aa×Ab)},R.As p0=some r→Ug V P 32 [.P 0] [(0,.raw (Ae p0))] [0] (As.post p0 r) (As.rep p0 r)
def Bd.l15 (K:Nat) (R:Ag):Nat→(List Aq)→Int→(List Aa)→Option (T5 (((List Aa)×Ab) ⊕ Int) ((List Aq)×Int×(List Aa)))
 | 0,_,_,_=>none
 | k+1,c,d,b=>(Option.bind (Ak K ([44]:List UInt8) (⟨c,d⟩:Ab)) (fun (g,e)=>(if g=true then (Option.bind (R.As e) (fun a4=>match a4 with |(Sum.inl a4)=>some (T5.done (Sum.inr a4)) |(Sum.inr (a,f))=>(if (b.length+([(⟨a.Op,a.Name,a.Int,a.Text,a.Kids⟩:Aa)]:List Aa).length) * 72≤140737488355328 then Bd.l15 K R k f.l f.i (b++([(⟨a.Op,a.Name,a.Int,a.Text,a.Kids⟩:Aa)]:List Aa)) else none))) else some (T5.go (e.l,e.i,b)))))
def Bd.F (K:Nat) (R:Ag) (p0:List UInt8) (p1:Ab):Option (((List Aa)×Ab) ⊕ Int):=(Option.bind (Ak K p0 p1) (fun (g,e)=>(if g=true then some (Sum.inl (([]:List Aa),e)) else (Option.bind (R.As e) (fun a2=>match a2 with |(Sum.inl a2)=>some (Sum.inr a2) |(Sum.inr (a,f))=>(obind (Bd.l15 K R K f.l f.i ([(⟨a.Op,a.Name,a.Int,a.Text,a.Kids⟩:Aa)]:List Aa):Option (T5 (((List Aa)×Ab) ⊕ Int) ((List Aq)×Int×(List Aa)))) (fun r=>r) (fun (b,c,d)=>(Option.bind (Ao K p0 (⟨b,c⟩:Ab)) (fun a5=>match a5 with |(Sum.inl a5)=>some (Sum.inl (d,a5)) |(Sum.inr a5)=>some (Sum.inr a5))))))))))
theorem Bd.body {Γ:Ud} {K:Nat} {R:Ag} (hR:R.Ok) {p0:List UInt8} {p1:Ab} {r:((List Aa)×Ab) ⊕ Int} (h:Bd.F K R p0 p1=some r):Ub V P 25 100 Γ (Tryz.f48.body.getD .skip) (Uh P V Tryz.f48 (Bd.rep p0 p1 r) (Bd.post p0 p1 r)) ⟨Tx 0 [.P 0,.cv (.str p0),.cv (.fn (.func 32) [.P 0] [])],[(0,.raw (Ae p1))]⟩:=by
 unfold Bd.F at h;refine Tw L 200 <| Tm <| Tm ?_;obtain ⟨⟨p,q⟩,h1,h⟩:=bind_some h;dsimp only at h;refine rg L 202 [] [] [(2,(T0 (.B p) [(0,.raw (Ae q))]))] (Tu (Ak.okE h1)) ?_;rcases Tn h with ⟨c1,h⟩ |⟨c1,h⟩
 ·refine tt c1 <| Tw L 206 <| To ?_;cases h;exact Vj
 refine fN c1 <| Tr <| Tm ?_;obtain ⟨a2,h2,h⟩:=bind_some h;rcases a2 with a2 | a2
 ·dsimp only at h;refine qn L 100208 [] [] [] 1 (T0 (.tup []) []) (Ui 49 a2) (Tu (hR.As h2)) ?_;cases h;exact rfl
 ·obtain ⟨j,o⟩:=a2;dsimp only at h;refine rg L 100208 [] [] [(1,(T0 (.agg (Ah j)) [(0,.raw (Ae o))]))] (Tu (hR.As h2)) ?_;refine Tm <| Tt <| Tp (Tl.trans (Tl.kk [0,1,2,7] [0,100210]) (Tl.rr [(0,0),(100210,23100)])) ?_;refine kp (S':=⟨[(0,.P 0),(1,.cv (.str p0)),(2,.cv (.fn (.func 32) [.P 0] [])),(7,.cv (.own .Af 23100))],[(0,.raw (Ae o)),(23100,.lst .Af ([(⟨j.Op,j.Name,j.Int,j.Text,j.Kids⟩:Aa)]:List Aa))]⟩) ?_;obtain ⟨o1,hp1,h⟩:=T7 h;refine T4 (Q':=fun e S=>(e=.exit 0∧∃ g:List Aq,∃ i:Int,∃ l:List Aa,S=⟨[(0,.P 0),(1,.cv (.str p0)),(7,.cv (.own .Af 23000))],[(0,.raw [.ro .Ap g,.I i]),(23000,.lst .Af l)]⟩∧T5.go (g,i,l)=o1)∨((e=.ret∨∃ ch,e=.panic ch)∧∃ a,T5.done a=o1∧Uh P V Tryz.f48 (Bd.rep p0 p1 a) (Bd.post p0 p1 a) e S)) (T8 (fun k S=>∃ d:List Aq,∃ f:Int,∃ c:List Aa,S=⟨[(0,.P 0),(1,.cv (.str p0)),(2,.cv (.fn (.func 32) [.P 0] [])),(7,.cv (.own .Af 23100))],[(0,.raw [.ro .Ap d,.I f]),(23100,.lst .Af c)]⟩∧Bd.l15 K R k d f c=some o1) ?_ ⟨_,_,_,rfl,hp1⟩) ?_
  ·clear h hp1;intro k S hS;obtain ⟨d,f,c,rfl,h⟩:=hS;cases k with
   | zero=>cases h
   | succ k =>
   unfold Bd.l15 at h;refine Tm <| Tm ?_;obtain ⟨⟨s,m⟩,h3,h⟩:=bind_some h;dsimp only at h;refine rg L 213 [] [] [(1,(T0 (.B s) [(0,.raw (Ae m))]))] (Tu (Ak.okE h3)) ?_;rcases Tn h with ⟨c2,h⟩ |⟨c2,h⟩
   ·refine tt c2 <| Tr <| Tt ?_;obtain ⟨a4,h4,h⟩:=bind_some h;rcases a4 with a4 | a4
    ·dsimp only at h;refine qn L 216 [] [] [] 2 (T0 (.tup []) []) (Ui 49 a4) (Tu (hR.As h4)) ?_;cases h;exact .inr ⟨.inr ⟨_,rfl⟩,_,rfl,rfl⟩
    ·obtain ⟨b,n⟩:=a4;dsimp only at h;obtain ⟨g1,h⟩:=Ts h;refine ar L 216 [] [] [(2,(T0 (.agg (Ah b)) [(0,.raw (Ae n))]))] (cs:=[Tv V P 32 [.P 0] [(0,.raw (Ae m))] [0] (.agg (Ah b)) [(0,.raw (Ae n))],(c.length+([(⟨b.Op,b.Name,b.Int,b.Text,b.Kids⟩:Aa)]:List Aa).length) * 72≤140737488355328,True]) (S':=⟨[(0,.P 0),(1,.cv (.str p0)),(2,.cv (.fn (.func 32) [.P 0] [])),(7,.cv (.own .Af 23100))],[(0,.raw (Ae n)),(23100,.lst .Af (c++([(⟨b.Op,b.Name,b.Int,b.Text,b.Kids⟩:Aa)]:List Aa)))]⟩) (And.intro (hR.As h4) (And.intro g1 trivial)) ?_;exact ⟨k,Nat.lt_succ_self k,_,_,_,rfl,h⟩
   refine fN c2 <| Tp (Tl.trans (Tl.kk [0,1,7] [0,23100]) (Tl.rr [(0,0),(23100,23000)])) ?_;refine ex (S':=⟨[(0,.P 0),(1,.cv (.str p0)),(7,.cv (.own .Af 23000))],[(0,.raw (Ae m)),(23000,.lst .Af c)]⟩) ?_;cases h;exact .inl ⟨rfl,_,_,_,rfl,rfl⟩
  ·rintro e S (⟨rfl,g,i,l,rfl,rfl⟩ |⟨he,a,rfl,hr⟩)
   ·rcases h with ⟨_,e1,h⟩ |⟨_,e1,h⟩
    ·cases e1
    ·have e2:=T5.go.inj e1;subst e2;dsimp only at h;refine ⟨_,Tl.refl,?_⟩;refine Tm ?_;obtain ⟨a5,h5,h⟩:=bind_some h;rcases a5 with a5 | a5
     ·dsimp only at h;refine rg L 223 [] [] [(2,(T0 (.tup []) [(0,.raw (Ae a5))]))] (Tu (Ao.okE h5)) ?_;refine Tw L 227 <| Tp (Tl.trans (Tl.kk [6] [0,23000]) (Tl.fz 23000)) ?_;refine To ?_;cases h;exact Vj
     ·obtain ⟨a5,rfl⟩:∃ z,z=a5:=⟨_,rfl⟩
      dsimp only at h;refine qn L 223 [] [] [] 2 (T0 (.tup []) []) (Ui 49 a5) (Tu (Ao.okE h5)) ?_;cases h;exact rfl
   ·rcases h with ⟨_,e1,h⟩ |⟨_,e1,h⟩
    ·have e2:=T5.done.inj e1;subst e2;subst h;rcases he with rfl |⟨ch,rfl⟩
     ·exact ⟨_,Tl.refl,hr⟩
     ·exact ⟨_,Tl.refl,hr⟩
    ·cases e1
def Bi.F (K:Nat) (R:Ag) (p0:Int) (p1:List UInt8) (p2:Ab):Option ((Aa×Ab) ⊕ Int):=(Option.bind (Ao K ([40]:List UInt8) p2) (fun a1=>match a1 with |(Sum.inl a1)=>(Option.bind (R.Bd ([41]:List UInt8) a1) (fun a2=>match a2 with |(Sum.inl (a,b))=>some (Sum.inl ((⟨p0,p1,0,[],a⟩:Aa),b)) |(Sum.inr a2)=>some (Sum.inr a2))) |(Sum.inr a1)=>some (Sum.inr a1)))
theorem Bi.body {Γ:Ud} {K:Nat} {R:Ag} (hR:R.Ok) {p0:Int} {p1:List UInt8} {p2:Ab} {r:(Aa×Ab) ⊕ Int} (h:Bi.F K R p0 p1 p2=some r):Ub V P 16 100 Γ (Tryz.f106.body.getD .skip) (Uh P V Tryz.f106 (Bi.rep p0 p1 p2 r) (Bi.post p0 p1 p2 r)) ⟨Tx 0 [.P 0,.I p0,.cv (.str p1)],[(0,.raw (Ae p2))]⟩:=by
 unfold Bi.F at h;refine Tw L 200 <| Tm ?_;obtain ⟨a1,h1,h⟩:=bind_some h;rcases a1 with a1 | a1
 ·dsimp only at h;refine rg L 202 [] [] [(1,(T0 (.tup []) [(0,.raw (Ae a1))]))] (Tu (Ao.okE h1)) ?_;refine Tm ?_;obtain ⟨a2,h2,h⟩:=bind_some h;rcases a2 with ⟨a,b⟩ | a2
  ·dsimp only at h;refine rg L 205 [] [] [(5,(T0 (.cv (.ro .Af a)) [(0,.raw (Ae b))]))] (Tu (hR.Bd h2)) ?_;refine Tp (Tl.trans (Tl.kk [6] [0,200]) (Tl.rr [(0,0),(200,100)])) ?_;refine To ?_;cases h;exact Vj
  ·obtain ⟨a2,rfl⟩:∃ z,z=a2:=⟨_,rfl⟩
   dsimp only at h;refine qn L 205 [] [] [] 5 (T0 (.tup []) []) (Ui 49 a2) (Tu (hR.Bd h2)) ?_;cases h;exact rfl
 ·obtain ⟨a1,rfl⟩:∃ z,z=a1:=⟨_,rfl⟩
  dsimp only at h;refine qn L 202 [] [] [] 1 (T0 (.tup []) []) (Ui 49 a1) (Tu (Ao.okE h1)) ?_;cases h;exact rfl
def B3.F (K:Nat) (R:Ag) (p0:Ab):Option (Int ⊕ (Aa×Ab)):=(Option.bind (Bj K p0) (fun a1=>(if a1.Kind≠4 then (Option.bind (Bf K p0) (fun a2=>some (Sum.inl a2))) else (Option.bind (Dr K p0) (fun (b,c)=>(Option.bind (Ao K ([58]:List UInt8) c) (fun a4=>match a4 with |(Sum.inl a4)=>(Option.bind (R.As a4) (fun a5=>match a5 with |(Sum.inl a5)=>some (Sum.inl a5) |(Sum.inr (a,d))=>some (Sum.inr ((⟨9,[],0,b.Text,([(⟨a.Op,a.Name,a.Int,a.Text,a.Kids⟩:Aa)]:List Aa)⟩:Aa),d)))) |(Sum.inr a4)=>some (Sum.inl a4))))))))
theorem B3.body {Γ:Ud} {K:Nat} {R:Ag} (hR:R.Ok) {p0:Ab} {r:Int ⊕ (Aa×Ab)} (h:B3.F K R p0=some r):Ub V P 21 100 Γ (Tryz.f166.body.getD .skip) (Uh P V Tryz.f166 (B3.rep p0 r) (B3.post p0 r)) ⟨Tx 0 [.P 0],[(0,.raw (Ae p0))]⟩:=by
 unfold B3.F at h;refine Tw L 200 <| Tm <| Tm ?_;obtain ⟨a1,h1,h⟩:=bind_some h;refine rg L 202 [] [(1,.agg (D1 a1))] [] (U4 (Bj.ok h1)) ?_;rcases Tn h with ⟨c1,h⟩ |⟨c1,h⟩
 ·refine tT c1 ?_;obtain ⟨a2,h2,h⟩:=bind_some h;refine qn L 207 [] [] [] 1 (T0 (.tup []) []) (Ui 49 a2) (Tu (Bf.okE h2)) ?_;cases h;exact rfl
 refine fF c1 <| Tr <| Tm ?_;obtain ⟨⟨a,b⟩,h3,h⟩:=bind_some h;dsimp only at h;refine rg L 210 [] [] [(1,(T0 (.agg (D1 a)) [(0,.raw (Ae b))]))] (Tu (Dr.okE h3)) ?_;refine Tm ?_;obtain ⟨a4,h4,h⟩:=bind_some h;rcases a4 with a4 | a4
 ·dsimp only at h;refine rg L 217 [] [] [(1,(T0 (.tup []) [(0,.raw (Ae a4))]))] (Tu (Ao.okE h4)) ?_;refine Tm ?_;obtain ⟨a5,h5,h⟩:=bind_some h;rcases a5 with a5 | a5
  ·dsimp only at h;refine qn L 220 [] [] [] 1 (T0 (.tup []) []) (Ui 49 a5) (Tu (hR.As h5)) ?_;cases h;exact rfl
  ·obtain ⟨c,d⟩:=a5;dsimp only at h;refine rg L 220 [] [] [(1,(T0 (.agg (Ah c)) [(0,.raw (Ae d))]))] (Tu (hR.As h5)) ?_;refine Tw L 226 <| Tp (Tl.trans (Tl.kk [2] [0,200]) (Tl.rr [(0,0),(200,100)])) ?_;refine To ?_;cases h;exact Vj
 ·obtain ⟨a4,rfl⟩:∃ z,z=a4:=⟨_,rfl⟩
  dsimp only at h;refine qn L 217 [] [] [] 1 (T0 (.tup []) []) (Ui 49 a4) (Tu (Ao.okE h4)) ?_;cases h;exact rfl
def Bo.l15 (K:Nat) (R:Ag):Nat→(List Aq)→Int→(List Aa)→Option (T5 (((List Aa)×Ab) ⊕ Int) ((List Aq)×Int×(List Aa)))
 | 0,_,_,_=>none
 | k+1,c,d,b=>(Option.bind (Ak K ([44]:List UInt8) (⟨c,d⟩:Ab)) (fun (g,e)=>(if g=true then (Option.bind (R.B3 e) (fun a4=>match a4 with |(Sum.inl a4)=>some (T5.done (Sum.inr a4)) |(Sum.inr (a,f))=>(if (b.length+([(⟨a.Op,a.Name,a.Int,a.Text,a.Kids⟩:Aa)]:List Aa).length) * 72≤140737488355328 then Bo.l15 K R k f.l f.i (b++([(⟨a.Op,a.Name,a.Int,a.Text,a.Kids⟩:Aa)]:List Aa)) else none))) else some (T5.go (e.l,e.i,b)))))
def Bo.F (K:Nat) (R:Ag) (p0:List UInt8) (p1:Ab):Option (((List Aa)×Ab) ⊕ Int):=(Option.bind (Ak K p0 p1) (fun (g,e)=>(if g=true then some (Sum.inl (([]:List Aa),e)) else (Option.bind (R.B3 e) (fun a2=>match a2 with |(Sum.inl a2)=>some (Sum.inr a2) |(Sum.inr (a,f))=>(obind (Bo.l15 K R K f.l f.i ([(⟨a.Op,a.Name,a.Int,a.Text,a.Kids⟩:Aa)]:List Aa):Option (T5 (((List Aa)×Ab) ⊕ Int) ((List Aq)×Int×(List Aa)))) (fun r=>r) (fun (b,c,d)=>(Option.bind (Ao K p0 (⟨b,c⟩:Ab)) (fun a5=>match a5 with |(Sum.inl a5)=>some (Sum.inl (d,a5)) |(Sum.inr a5)=>some (Sum.inr a5))))))))))
theorem Bo.body {Γ:Ud} {K:Nat} {R:Ag} (hR:R.Ok) {p0:List UInt8} {p1:Ab} {r:((List Aa)×Ab) ⊕ Int} (h:Bo.F K R p0 p1=some r):Ub V P 25 100 Γ (Tryz.f48.body.getD .skip) (Uh P V Tryz.f48 (Bo.rep p0 p1 r) (Bo.post p0 p1 r)) ⟨Tx 0 [.P 0,.cv (.str p0),.cv (.fn (.func 166) [.P 0] [])],[(0,.raw (Ae p1))]⟩:=by
 unfold Bo.F at h;refine Tw L 200 <| Tm <| Tm ?_;obtain ⟨⟨p,q⟩,h1,h⟩:=bind_some h;dsimp only at h;refine rg L 202 [] [] [(2,(T0 (.B p) [(0,.raw (Ae q))]))] (Tu (Ak.okE h1)) ?_;rcases Tn h with ⟨c1,h⟩ |⟨c1,h⟩
 ·refine tt c1 <| Tw L 206 <| To ?_;cases h;exact Vj
 refine fN c1 <| Tr <| Tm ?_;obtain ⟨a2,h2,h⟩:=bind_some h;rcases a2 with a2 | a2
 ·dsimp only at h;refine qn L 100208 [] [] [] 1 (T0 (.tup []) []) (Ui 49 a2) (Tu (hR.B3 h2)) ?_;cases h;exact rfl
 ·obtain ⟨j,o⟩:=a2;dsimp only at h;refine rg L 100208 [] [] [(1,(T0 (.agg (Ah j)) [(0,.raw (Ae o))]))] (Tu (hR.B3 h2)) ?_;refine Tm <| Tt <| Tp (Tl.trans (Tl.kk [0,1,2,7] [0,100210]) (Tl.rr [(0,0),(100210,23100)])) ?_;refine kp (S':=⟨[(0,.P 0),(1,.cv (.str p0)),(2,.cv (.fn (.func 166) [.P 0] [])),(7,.cv (.own .Af 23100))],[(0,.raw (Ae o)),(23100,.lst .Af ([(⟨j.Op,j.Name,j.Int,j.Text,j.Kids⟩:Aa)]:List Aa))]⟩) ?_;obtain ⟨o1,hp1,h⟩:=T7 h;refine T4 (Q':=fun e S=>(e=.exit 0∧∃ g:List Aq,∃ i:Int,∃ l:List Aa,S=⟨[(0,.P 0),(1,.cv (.str p0)),(7,.cv (.own .Af 23000))],[(0,.raw [.ro .Ap g,.I i]),(23000,.lst .Af l)]⟩∧T5.go (g,i,l)=o1)∨((e=.ret∨∃ ch,e=.panic ch)∧∃ a,T5.done a=o1∧Uh P V Tryz.f48 (Bo.rep p0 p1 a) (Bo.post p0 p1 a) e S)) (T8 (fun k S=>∃ d:List Aq,∃ f:Int,∃ c:List Aa,S=⟨[(0,.P 0),(1,.cv (.str p0)),(2,.cv (.fn (.func 166) [.P 0] [])),(7,.cv (.own .Af 23100))],[(0,.raw [.ro .Ap d,.I f]),(23100,.lst .Af c)]⟩∧Bo.l15 K R k d f c=some o1) ?_ ⟨_,_,_,rfl,hp1⟩) ?_
  ·clear h hp1;intro k S hS;obtain ⟨d,f,c,rfl,h⟩:=hS;cases k with
   | zero=>cases h
   | succ k =>
   unfold Bo.l15 at h;refine Tm <| Tm ?_;obtain ⟨⟨s,m⟩,h3,h⟩:=bind_some h;dsimp only at h;refine rg L 213 [] [] [(1,(T0 (.B s) [(0,.raw (Ae m))]))] (Tu (Ak.okE h3)) ?_;rcases Tn h with ⟨c2,h⟩ |⟨c2,h⟩
   ·refine tt c2 <| Tr <| Tt ?_;obtain ⟨a4,h4,h⟩:=bind_some h;rcases a4 with a4 | a4
    ·dsimp only at h;refine qn L 216 [] [] [] 2 (T0 (.tup []) []) (Ui 49 a4) (Tu (hR.B3 h4)) ?_;cases h;exact .inr ⟨.inr ⟨_,rfl⟩,_,rfl,rfl⟩
    ·obtain ⟨b,n⟩:=a4;dsimp only at h;obtain ⟨g1,h⟩:=Ts h;refine ar L 216 [] [] [(2,(T0 (.agg (Ah b)) [(0,.raw (Ae n))]))] (cs:=[Tv V P 166 [.P 0] [(0,.raw (Ae m))] [0] (.agg (Ah b)) [(0,.raw (Ae n))],(c.length+([(⟨b.Op,b.Name,b.Int,b.Text,b.Kids⟩:Aa)]:List Aa).length) * 72≤140737488355328,True]) (S':=⟨[(0,.P 0),(1,.cv (.str p0)),(2,.cv (.fn (.func 166) [.P 0] [])),(7,.cv (.own .Af 23100))],[(0,.raw (Ae n)),(23100,.lst .Af (c++([(⟨b.Op,b.Name,b.Int,b.Text,b.Kids⟩:Aa)]:List Aa)))]⟩) (And.intro (hR.B3 h4) (And.intro g1 trivial)) ?_;exact ⟨k,Nat.lt_succ_self k,_,_,_,rfl,h⟩
   refine fN c2 <| Tp (Tl.trans (Tl.kk [0,1,7] [0,23100]) (Tl.rr [(0,0),(23100,23000)])) ?_;refine ex (S':=⟨[(0,.P 0),(1,.cv (.str p0)),(7,.cv (.own .Af 23000))],[(0,.raw (Ae m)),(23000,.lst .Af c)]⟩) ?_;cases h;exact .inl ⟨rfl,_,_,_,rfl,rfl⟩
  ·rintro e S (⟨rfl,g,i,l,rfl,rfl⟩ |⟨he,a,rfl,hr⟩)
   ·rcases h with ⟨_,e1,h⟩ |⟨_,e1,h⟩
    ·cases e1
    ·have e2:=T5.go.inj e1;subst e2;dsimp only at h;refine ⟨_,Tl.refl,?_⟩;refine Tm ?_;obtain ⟨a5,h5,h⟩:=bind_some h;rcases a5 with a5 | a5
     ·dsimp only at h;refine rg L 223 [] [] [(2,(T0 (.tup []) [(0,.raw (Ae a5))]))] (Tu (Ao.okE h5)) ?_;refine Tw L 227 <| Tp (Tl.trans (Tl.kk [6] [0,23000]) (Tl.fz 23000)) ?_;refine To ?_;cases h;exact Vj
     ·obtain ⟨a5,rfl⟩:∃ z,z=a5:=⟨_,rfl⟩
      dsimp only at h;refine qn L 223 [] [] [] 2 (T0 (.tup []) []) (Ui 49 a5) (Tu (Ao.okE h5)) ?_;cases h;exact rfl
   ·rcases h with ⟨_,e1,h⟩ |⟨_,e1,h⟩
    ·have e2:=T5.done.inj e1;subst e2;subst h;rcases he with rfl |⟨ch,rfl⟩
     ·exact ⟨_,Tl.refl,hr⟩
     ·exact ⟨_,Tl.refl,hr⟩
    ·cases e1
def Br.F (K:Nat) (R:Ag) (p0:Ab):Option ((Aa×Ab) ⊕ Int):=(Option.bind (Dq K p0) (fun (h,i,a)=>(if i=true then some (Sum.inl (h,a)) else (Option.bind (Bj K a) (fun a2=>(if a2.Kind=1 then (Option.bind (Au K a) (fun a3=>match a3 with |(Sum.inl a3)=>some (Sum.inr a3) |(Sum.inr (c,b))=>(Option.bind (Dw K b ([40]:List UInt8)) (fun a4=>(if a4=true then (Option.bind (R.Bi 10 c b) (fun a5=>match a5 with |(Sum.inl (j,k))=>some (Sum.inl (j,k)) |(Sum.inr a5)=>some (Sum.inr a5))) else some (Sum.inl ((⟨6,c,0,[],([]:List Aa)⟩:Aa),b))))))) else (Option.bind (Ak K ([91]:List UInt8) a) (fun (l,d)=>(if l=true then (Option.bind (R.Bd ([93]:List UInt8) d) (fun a7=>match a7 with |(Sum.inl (m,n))=>some (Sum.inl ((⟨7,[],0,[],m⟩:Aa),n)) |(Sum.inr a7)=>some (Sum.inr a7))) else (Option.bind (Ak K ([123]:List UInt8) d) (fun (o,e)=>(if o=true then (Option.bind (R.Bo ([125]:List UInt8) e) (fun a9=>match a9 with |(Sum.inl (p,q))=>some (Sum.inl ((⟨8,[],0,[],p⟩:Aa),q)) |(Sum.inr a9)=>some (Sum.inr a9))) else (Option.bind (Ao K ([40]:List UInt8) e) (fun a10=>match a10 with |(Sum.inl a10)=>(Option.bind (R.As a10) (fun a11=>match a11 with |(Sum.inl a11)=>some (Sum.inr a11) |(Sum.inr (f,g))=>(Option.bind (Ao K ([41]:List UInt8) g) (fun a12=>match a12 with |(Sum.inl a12)=>some (Sum.inl (f,a12)) |(Sum.inr a12)=>some (Sum.inr a12))))) |(Sum.inr a10)=>some (Sum.inr a10)))))))))))))))
theorem Br.body {Γ:Ud} {K:Nat} {R:Ag} (hR:R.Ok) {p0:Ab} {r:(Aa×Ab) ⊕ Int} (h:Br.F K R p0=some r):Ub V P 51 100 Γ (Tryz.f163.body.getD .skip) (Uh P V Tryz.f163 (Br.rep p0 r) (Br.post p0 r)) ⟨Tx 0 [.P 0],[(0,.raw (Ae p0))]⟩:=by
 unfold Br.F at h;refine Tw L 200 <| Tm <| Tm ?_;obtain ⟨⟨c,d,e⟩,h1,h⟩:=bind_some h;dsimp only at h;refine rg L 202 [] [] [(1,(T0 (.tup [.agg (Ah c),.B d]) [(0,.raw (Ae e))]))] (Tu (Dq.okE h1)) ?_;refine Tw L 211 ?_;rcases Tn h with ⟨c1,h⟩ |⟨c1,h⟩
 ·refine tt c1 <| Tw L 213 <| Tp (Tl.trans (Tl.kk [2] [0,200]) (Tl.rr [(0,0),(200,100)])) ?_;refine To ?_;cases h;exact Vj
 refine fN c1 <| Tr <| Tm <| Tt <| Tm ?_;obtain ⟨a2,h2,h⟩:=bind_some h;refine rg L 216 [] [(1,.agg (D1 a2))] [] (U4 (Bj.ok h2)) ?_;rcases Tn h with ⟨c2,h⟩ |⟨c2,h⟩
 ·refine tT c2 <| Tm ?_;obtain ⟨a3,h3,h⟩:=bind_some h;rcases a3 with a3 | a3
  ·dsimp only at h;refine qn L 222 [] [] [] 1 (T0 (.tup []) []) (Ui 49 a3) (Tu (Au.okE h3)) ?_;cases h;exact rfl
  ·obtain ⟨f,g⟩:=a3;dsimp only at h;refine rg L 222 [] [] [(1,(T0 (.cv (.str f)) [(0,.raw (Ae g))]))] (Tu (Au.okE h3)) ?_;refine Tm <| Tm ?_;obtain ⟨a4,h4,h⟩:=bind_some h;refine rg L 226 [] [(1,.B a4)] [] (U4 (Dw.ok h4)) ?_;rcases Tn h with ⟨c3,h⟩ |⟨c3,h⟩
   ·refine tt c3 <| Tm ?_;obtain ⟨a5,h5,h⟩:=bind_some h;rcases a5 with ⟨i,j⟩ | a5
    ·dsimp only at h;refine rg L 229 [] [] [(2,(T0 (.agg (Ah i)) [(0,.raw (Ae j))]))] (Tu (hR.Bi h5)) ?_;refine Tp (Tl.trans (Tl.kk [2] [0,200]) (Tl.rr [(0,0),(200,100)])) ?_;refine To ?_;cases h;exact Vj
    ·obtain ⟨a5,rfl⟩:∃ z,z=a5:=⟨_,rfl⟩
     dsimp only at h;refine qn L 229 [] [] [] 2 (T0 (.tup []) []) (Ui 49 a5) (Tu (hR.Bi h5)) ?_;cases h;exact rfl
   refine fN c3 <| Tr <| Tw L 234 <| Tp (Tl.trans (Tl.kk [2] [0,200]) (Tl.rr [(0,0),(200,100)])) ?_;refine To ?_;cases h;exact Vj
 refine fF c2 <| Tm ?_;obtain ⟨⟨k,l⟩,h6,h⟩:=bind_some h;dsimp only at h;refine rg L 238 [] [] [(1,(T0 (.B k) [(0,.raw (Ae l))]))] (Tu (Ak.okE h6)) ?_;rcases Tn h with ⟨c4,h⟩ |⟨c4,h⟩
 ·refine tt c4 <| Tm ?_;obtain ⟨a7,h7,h⟩:=bind_some h;rcases a7 with ⟨m,n⟩ | a7
  ·dsimp only at h;refine rg L 242 [] [] [(3,(T0 (.cv (.ro .Af m)) [(0,.raw (Ae n))]))] (Tu (hR.Bd h7)) ?_;refine Tp (Tl.trans (Tl.kk [2] [0,200]) (Tl.rr [(0,0),(200,100)])) ?_;refine To ?_;cases h;exact Vj
  ·obtain ⟨a7,rfl⟩:∃ z,z=a7:=⟨_,rfl⟩
   dsimp only at h;refine qn L 242 [] [] [] 3 (T0 (.tup []) []) (Ui 49 a7) (Tu (hR.Bd h7)) ?_;cases h;exact rfl
 refine fN c4 <| Tm ?_;obtain ⟨⟨o,p⟩,h8,h⟩:=bind_some h;dsimp only at h;refine rg L 249 [] [] [(1,(T0 (.B o) [(0,.raw (Ae p))]))] (Tu (Ak.okE h8)) ?_;rcases Tn h with ⟨c5,h⟩ |⟨c5,h⟩
 ·refine tt c5 <| Tm ?_;obtain ⟨a9,h9,h⟩:=bind_some h;rcases a9 with ⟨q,s⟩ | a9
  ·dsimp only at h;refine rg L 253 [] [] [(3,(T0 (.cv (.ro .Af q)) [(0,.raw (Ae s))]))] (Tu (hR.Bo h9)) ?_;refine Tp (Tl.trans (Tl.kk [2] [0,200]) (Tl.rr [(0,0),(200,100)])) ?_;refine To ?_;cases h;exact Vj
  ·obtain ⟨a9,rfl⟩:∃ z,z=a9:=⟨_,rfl⟩
   dsimp only at h;refine qn L 253 [] [] [] 3 (T0 (.tup []) []) (Ui 49 a9) (Tu (hR.Bo h9)) ?_;cases h;exact rfl
 refine fN c5 <| Tr <| Tm ?_;obtain ⟨a10,h10,h⟩:=bind_some h;rcases a10 with a10 | a10
 ·dsimp only at h;refine rg L 260 [] [] [(1,(T0 (.tup []) [(0,.raw (Ae a10))]))] (Tu (Ao.okE h10)) ?_;refine Tm ?_;obtain ⟨a11,h11,h⟩:=bind_some h;rcases a11 with a11 | a11
  ·dsimp only at h;refine qn L 263 [] [] [] 1 (T0 (.tup []) []) (Ui 49 a11) (Tu (hR.As h11)) ?_;cases h;exact rfl
  ·obtain ⟨a,b⟩:=a11;dsimp only at h;refine rg L 263 [] [] [(1,(T0 (.agg (Ah a)) [(0,.raw (Ae b))]))] (Tu (hR.As h11)) ?_;refine Tm ?_;obtain ⟨a12,h12,h⟩:=bind_some h;rcases a12 with a12 | a12
   ·dsimp only at h;refine rg L 268 [] [] [(1,(T0 (.tup []) [(0,.raw (Ae a12))]))] (Tu (Ao.okE h12)) ?_;refine Tw L 271 <| Tp (Tl.trans (Tl.kk [2] [0,200]) (Tl.rr [(0,0),(200,100)])) ?_;refine To ?_;cases h;exact Vj
   ·obtain ⟨a12,rfl⟩:∃ z,z=a12:=⟨_,rfl⟩
    dsimp only at h;refine qn L 268 [] [] [] 1 (T0 (.tup []) []) (Ui 49 a12) (Tu (Ao.okE h12)) ?_;cases h;exact rfl
 ·obtain ⟨a10,rfl⟩:∃ z,z=a10:=⟨_,rfl⟩
  dsimp only at h;refine qn L 260 [] [] [] 1 (T0 (.tup []) []) (Ui 49 a10) (Tu (Ao.okE h10)) ?_;cases h;exact rfl
def A9.l6 (K:Nat) (R:Ag):Nat→(List Aq)→Int→Int→(List UInt8)→Int→(List UInt8)→(List Aa)→Option (T5 (Int ⊕ (Aa×Ab)) Unit)
 | 0,_,_,_,_,_,_,_=>none
 | k+1,g,h,a,b,c,d,e=>(Option.bind (Ak K ([46]:List UInt8) (⟨g,h⟩:Ab)) (fun (o,j)=>(if o=true then (Option.bind (Au K j) (fun a3=>match a3 with |(Sum.inl a3)=>some (T5.done (Sum.inl a3)) |(Sum.inr (p,m))=>A9.l6 K R k m.l m.i 29 p 0 [] ([(⟨a,b,c,d,e⟩:Aa)]:List Aa))) else (Option.bind (Ak K ([91]:List UInt8) j) (fun (q,n)=>(if q=true then (Option.bind (R.As n) (fun a5=>match a5 with |(Sum.inl a5)=>some (T5.done (Sum.inl a5)) |(Sum.inr (f,r))=>(Option.bind (Cu K 28 ([(⟨a,b,c,d,e⟩:Aa),(⟨f.Op,f.Name,f.Int,f.Text,f.Kids⟩:Aa)]:List Aa)) (fun a6=>(Option.bind (Ao K ([93]:List UInt8) r) (fun a7=>match a7 with |(Sum.inl a7)=>A9.l6 K R k a7.l a7.i a6.Op a6.Name a6.Int a6.Text a6.Kids |(Sum.inr a7)=>some (T5.done (Sum.inl a7)))))))) else some (T5.done (Sum.inr ((⟨a,b,c,d,e⟩:Aa),n)))))))))
def A9.F (K:Nat) (R:Ag) (p0:Ab):Option (Int ⊕ (Aa×Ab)):=(Option.bind (R.Br p0) (fun a1=>match a1 with |(Sum.inl (a,b))=>(obind (A9.l6 K R K b.l b.i a.Op a.Name a.Int a.Text a.Kids:Option (T5 (Int ⊕ (Aa×Ab)) Unit)) (fun r=>r) (fun _=>none)) |(Sum.inr a1)=>some (Sum.inl a1)))
theorem A9.body {Γ:Ud} {K:Nat} {R:Ag} (hR:R.Ok) {p0:Ab} {r:Int ⊕ (Aa×Ab)} (h:A9.F K R p0=some r):Ub V P 25 100 Γ (Tryz.f156.body.getD .skip) (Uh P V Tryz.f156 (A9.rep p0 r) (A9.post p0 r)) ⟨Tx 0 [.P 0],[(0,.raw (Ae p0))]⟩:=by
 unfold A9.F at h;refine Tw L 200 <| Tm ?_;obtain ⟨a1,h1,h⟩:=bind_some h;rcases a1 with ⟨m,n⟩ | a1
 ·dsimp only at h;refine rg L 202 [] [] [(1,(T0 (.agg (Ah m)) [(0,.raw (Ae n))]))] (Tu (hR.Br h1)) ?_;refine Tt <| Tp (Tl.trans (Tl.kk [0,2,3] [0,200,204]) (Tl.rr [(0,0),(200,21300),(204,21301)])) ?_;refine kp (S':=⟨[(0,.P 0),(2,.P 21300),(3,.P 21301)],[(0,.raw (Ae n)),(21300,.raw [.I 0,.str [],.I 0,.str [],.N]),(21301,.raw (Ah m))]⟩) ?_;obtain ⟨o1,hp1,h⟩:=T7 h;refine T4 (Q':=fun e S=>False∨((e=.ret∨∃ ch,e=.panic ch)∧∃ a,T5.done a=o1∧Uh P V Tryz.f156 (A9.rep p0 a) (A9.post p0 a) e S)) (T8 (fun k S=>∃ i:List Aq,∃ j:Int,∃ b:Int,∃ c:List UInt8,∃ d:Int,∃ f:List UInt8,∃ g:List Aa,S=⟨[(0,.P 0),(2,.P 21300),(3,.P 21301)],[(0,.raw [.ro .Ap i,.I j]),(21300,.raw [.I 0,.str [],.I 0,.str [],.N]),(21301,.raw [.I b,.str c,.I d,.str f,.ro .Af g])]⟩∧A9.l6 K R k i j b c d f g=some o1) ?_ ⟨_,_,_,_,_,_,_,rfl,hp1⟩) ?_
  ·clear h hp1;intro k S hS;obtain ⟨i,j,b,c,d,f,g,rfl,h⟩:=hS;cases k with
   | zero=>cases h
   | succ k =>
   unfold A9.l6 at h;refine Tt <| Tt <| Tm ?_;obtain ⟨⟨q,s⟩,h2,h⟩:=bind_some h;dsimp only at h;refine rg L 207 [] [] [(1,(T0 (.B q) [(0,.raw (Ae s))]))] (Tu (Ak.okE h2)) ?_;rcases Tn h with ⟨c1,h⟩ |⟨c1,h⟩
   ·refine tt c1 ?_;obtain ⟨a3,h3,h⟩:=bind_some h;rcases a3 with a3 | a3
    ·dsimp only at h;refine qP L mixed 211 [] [] [] [0] 1 (T0 (.tup []) []) (Ui 49 a3) (Tq (Au.okE h3) (Tq (Au.okE h3) (Tu (Au.okE h3)))) ?_;cases h;exact .inr ⟨.inr ⟨_,rfl⟩,_,rfl,rfl⟩
    ·obtain ⟨o,p⟩:=a3;dsimp only at h;refine hB L mixed 211 [] [] [(1,(T0 (.cv (.str o)) [(0,.raw (Ae p))]))] [0] 3 (Tq (Au.okE h3) (Tq (Au.okE h3) (Tu (Au.okE h3)))) (S':=⟨[(0,.P 0),(2,.P 21300),(3,.P 21301)],[(0,.raw (Ae p)),(21300,.raw [.I 0,.str [],.I 0,.str [],.N]),(21301,.raw [.I 29,.str o,.I 0,.str [],.ro .Af ([(⟨b,c,d,f,g⟩:Aa)]:List Aa)])]⟩) ?_;exact ⟨k,Nat.lt_succ_self k,_,_,_,_,_,_,_,rfl,h⟩
   refine fN c1 <| Tm ?_;obtain ⟨⟨t,u⟩,h4,h⟩:=bind_some h;dsimp only at h;refine rg L 218 [] [] [(1,(T0 (.B t) [(0,.raw (Ae u))]))] (Tu (Ak.okE h4)) ?_;rcases Tn h with ⟨c2,h⟩ |⟨c2,h⟩
   ·refine tt c2 <| Tm ?_;obtain ⟨a5,h5,h⟩:=bind_some h;rcases a5 with a5 | a5
    ·dsimp only at h;refine qP L mixed 222 [] [] [] [1] 2 (T0 (.tup []) []) (Ui 49 a5) (Vf (hR.As h5) (hR.As h5)) ?_;cases h;exact .inr ⟨.inr ⟨_,rfl⟩,_,rfl,rfl⟩
    ·obtain ⟨v,l⟩:=a5;dsimp only at h;obtain ⟨a6,h6,h⟩:=bind_some h;refine hB L mixed 222 [] [(4,.agg (Ah a6))] [(2,(T0 (.agg (Ah v)) [(0,.raw (Ae l))]))] [1] 2 (Tq (hR.As h5) (Tq (Cu.ok h6) (Tq trivial (Tq (hR.As h5) (Tq (Cu.ok h6) (Tu trivial)))))) (S':=⟨[(0,.P 0),(2,.P 21300),(3,.P 21301)],[(0,.raw (Ae l)),(21300,.raw [.I 0,.str [],.I 0,.str [],.N]),(21301,.raw (Ah a6))]⟩) ?_;obtain ⟨a7,h7,h⟩:=bind_some h;rcases a7 with a7 | a7
     ·dsimp only at h;refine ar L 229 [] [] [(1,(T0 (.tup []) [(0,.raw (Ae a7))]))] (cs:=[Tv V P 46 [.P 0,.cv (.str ([93]:List UInt8))] [(0,.raw (Ae l))] [0] (.tup []) [(0,.raw (Ae a7))]]) (S':=⟨[(0,.P 0),(2,.P 21300),(3,.P 21301)],[(0,.raw (Ae a7)),(21300,.raw [.I 0,.str [],.I 0,.str [],.N]),(21301,.raw (Ah a6))]⟩) (Ao.okE h7) ?_;exact ⟨k,Nat.lt_succ_self k,_,_,_,_,_,_,_,rfl,h⟩
     ·obtain ⟨a7,rfl⟩:∃ z,z=a7:=⟨_,rfl⟩
      dsimp only at h;refine qn L 229 [] [] [] 1 (T0 (.tup []) []) (Ui 49 a7) (Tu (Ao.okE h7)) ?_;cases h;exact .inr ⟨.inr ⟨_,rfl⟩,_,rfl,rfl⟩
   refine fN c2 <| Tw L 232 <| Tp (Tl.trans (Tl.kk [2] [0,21300]) (Tl.rr [(0,0),(21300,100)])) ?_;refine To ?_;cases h;exact .inr ⟨.inl rfl,_,rfl,Vj⟩
  ·rintro e S (hf |⟨he,a,rfl,hr⟩)
   ·exact hf.elim
   ·rcases h with ⟨_,e1,h⟩ |⟨_,e1,h⟩
    ·have e2:=T5.done.inj e1;subst e2;subst h;rcases he with rfl |⟨ch,rfl⟩
     ·exact ⟨_,Tl.refl,hr⟩
     ·exact ⟨_,Tl.refl,hr⟩
    ·cases e1
 ·obtain ⟨a1,rfl⟩:∃ z,z=a1:=⟨_,rfl⟩
  dsimp only at h;refine qn L 202 [] [] [] 1 (T0 (.tup []) []) (Ui 49 a1) (Tu (hR.Br h1)) ?_;cases h;exact rfl
def A7.F (K:Nat) (R:Ag) (p0:Ab):Option (Int ⊕ (Aa×Ab)):=(Option.bind (Ak K ([45]:List UInt8) p0) (fun (h,c)=>(if h=true then (Option.bind (R.A7 c) (fun a2=>match a2 with |(Sum.inl a2)=>some (Sum.inl a2) |(Sum.inr (a,i))=>(Option.bind (Cu K 14 ([(⟨a.Op,a.Name,a.Int,a.Text,a.Kids⟩:Aa)]:List Aa)) (fun a3=>some (Sum.inr (a3,i)))))) else (Option.bind (Ak K ([97,119,97,105,116]:List UInt8) c) (fun (j,d)=>(if j=true then (Option.bind (R.A7 d) (fun a5=>match a5 with |(Sum.inl a5)=>some (Sum.inl a5) |(Sum.inr (b,k))=>(Option.bind (Cu K 12 ([(⟨b.Op,b.Name,b.Int,b.Text,b.Kids⟩:Aa)]:List Aa)) (fun a6=>some (Sum.inr (a6,k)))))) else (Option.bind (Ak K ([103,111]:List UInt8) d) (fun (l,e)=>(if l=true then (Option.bind (Au K e) (fun a8=>match a8 with |(Sum.inl a8)=>some (Sum.inl a8) |(Sum.inr (m,n))=>(Option.bind (R.Bi 11 m n) (fun a9=>match a9 with |(Sum.inl (o,p))=>some (Sum.inr (o,p)) |(Sum.inr a9)=>some (Sum.inl a9))))) else (Option.bind (R.A9 e) (fun a10=>match a10 with |(Sum.inl a10)=>some (Sum.inl a10) |(Sum.inr (f,g))=>some (Sum.inr (f,g)))))))))))))
theorem A7.body {Γ:Ud} {K:Nat} {R:Ag} (hR:R.Ok) {p0:Ab} {r:Int ⊕ (Aa×Ab)} (h:A7.F K R p0=some r):Ub V P 26 100 Γ (Tryz.f146.body.getD .skip) (Uh P V Tryz.f146 (A7.rep p0 r) (A7.post p0 r)) ⟨Tx 0 [.P 0],[(0,.raw (Ae p0))]⟩:=by
 unfold A7.F at h;refine Tw L 200 <| Tm <| Tt <| Tm ?_;obtain ⟨⟨e,f⟩,h1,h⟩:=bind_some h;dsimp only at h;refine rg L 202 [] [] [(1,(T0 (.B e) [(0,.raw (Ae f))]))] (Tu (Ak.okE h1)) ?_;rcases Tn h with ⟨c1,h⟩ |⟨c1,h⟩
 ·refine tt c1 <| Tm ?_;obtain ⟨a2,h2,h⟩:=bind_some h;rcases a2 with a2 | a2
  ·dsimp only at h;refine qn L 206 [] [] [] 1 (T0 (.tup []) []) (Ui 49 a2) (Tu (hR.A7 h2)) ?_;cases h;exact rfl
  ·obtain ⟨g,i⟩:=a2;dsimp only at h;obtain ⟨a3,h3,h⟩:=bind_some h;refine rg L 206 [] [(3,.agg (Ah a3))] [(1,(T0 (.agg (Ah g)) [(0,.raw (Ae i))]))] (Tq (hR.A7 h2) (Tq (Cu.ok h3) (Tu trivial))) ?_;refine Tp (Tl.trans (Tl.kk [2] [0,200]) (Tl.rr [(0,0),(200,100)])) ?_;refine To ?_;cases h;exact Vj
 refine fN c1 <| Tm ?_;obtain ⟨⟨j,k⟩,h4,h⟩:=bind_some h;dsimp only at h;refine rg L 212 [] [] [(1,(T0 (.B j) [(0,.raw (Ae k))]))] (Tu (Ak.okE h4)) ?_;rcases Tn h with ⟨c2,h⟩ |⟨c2,h⟩
 ·refine tt c2 <| Tm ?_;obtain ⟨a5,h5,h⟩:=bind_some h;rcases a5 with a5 | a5
  ·dsimp only at h;refine qn L 216 [] [] [] 1 (T0 (.tup []) []) (Ui 49 a5) (Tu (hR.A7 h5)) ?_;cases h;exact rfl
  ·obtain ⟨l,m⟩:=a5;dsimp only at h;obtain ⟨a6,h6,h⟩:=bind_some h;refine rg L 216 [] [(3,.agg (Ah a6))] [(1,(T0 (.agg (Ah l)) [(0,.raw (Ae m))]))] (Tq (hR.A7 h5) (Tq (Cu.ok h6) (Tu trivial))) ?_;refine Tp (Tl.trans (Tl.kk [2] [0,200]) (Tl.rr [(0,0),(200,100)])) ?_;refine To ?_;cases h;exact Vj
 refine fN c2 <| Tm ?_;obtain ⟨⟨n,o⟩,h7,h⟩:=bind_some h;dsimp only at h;refine rg L 222 [] [] [(1,(T0 (.B n) [(0,.raw (Ae o))]))] (Tu (Ak.okE h7)) ?_;rcases Tn h with ⟨c3,h⟩ |⟨c3,h⟩
 ·refine tt c3 <| Tm ?_;obtain ⟨a8,h8,h⟩:=bind_some h;rcases a8 with a8 | a8
  ·dsimp only at h;refine qn L 226 [] [] [] 2 (T0 (.tup []) []) (Ui 49 a8) (Tu (Au.okE h8)) ?_;cases h;exact rfl
  ·obtain ⟨a,b⟩:=a8;dsimp only at h;obtain ⟨a9,h9,h⟩:=bind_some h;rcases a9 with ⟨p,q⟩ | a9
   ·dsimp only at h;refine rg L 226 [] [] [(2,(T0 (.cv (.str a)) [(0,.raw (Ae b))])),(3,(T0 (.agg (Ah p)) [(0,.raw (Ae q))]))] (Vf (Au.okE h8) (hR.Bi h9)) ?_;refine Tp (Tl.trans (Tl.kk [2] [0,200]) (Tl.rr [(0,0),(200,100)])) ?_;refine To ?_;cases h;exact Vj
   ·obtain ⟨a9,rfl⟩:∃ z,z=a9:=⟨_,rfl⟩
    dsimp only at h;refine qn L 226 [] [] [(2,(T0 (.cv (.str a)) [(0,.raw (Ae b))]))] 3 (T0 (.tup []) []) (Ui 49 a9) (Vf (Au.okE h8) (hR.Bi h9)) ?_;cases h;exact rfl
 refine fN c3 <| Tr <| Tm ?_;obtain ⟨a10,h10,h⟩:=bind_some h;rcases a10 with a10 | a10
 ·dsimp only at h;refine qn L 232 [] [] [] 1 (T0 (.tup []) []) (Ui 49 a10) (Tu (hR.A9 h10)) ?_;cases h;exact rfl
 ·obtain ⟨c,d⟩:=a10;dsimp only at h;refine rg L 232 [] [] [(1,(T0 (.agg (Ah c)) [(0,.raw (Ae d))]))] (Tu (hR.A9 h10)) ?_;refine Tp (Tl.trans (Tl.kk [2] [0,200]) (Tl.rr [(0,0),(200,100)])) ?_;refine To ?_;cases h;exact Vj
def Bp.l6 (K:Nat) (R:Ag) (p0:List (List UInt8)) (p1:List Int):Nat→(List Aq)→Int→Int→(List UInt8)→Int→(List UInt8)→(List Aa)→Option (T5 (Int ⊕ (Aa×Ab)) Unit)
 | 0,_,_,_,_,_,_,_=>none
 | k+1,g,h,a,b,c,d,e=>(Option.bind (Bx K p0 p1 (⟨g,h⟩:Ab)) (fun (n,o,j)=>(if o=true then (Option.bind (R.A7 j) (fun a3=>match a3 with |(Sum.inl a3)=>some (T5.done (Sum.inl a3)) |(Sum.inr (f,m))=>(Option.bind (Cu K n ([(⟨a,b,c,d,e⟩:Aa),(⟨f.Op,f.Name,f.Int,f.Text,f.Kids⟩:Aa)]:List Aa)) (fun a4=>Bp.l6 K R p0 p1 k m.l m.i a4.Op a4.Name a4.Int a4.Text a4.Kids)))) else some (T5.done (Sum.inr ((⟨a,b,c,d,e⟩:Aa),j))))))
def Bp.F (K:Nat) (R:Ag) (p0:List (List UInt8)) (p1:List Int) (p2:Ab):Option (Int ⊕ (Aa×Ab)):=(Option.bind (R.A7 p2) (fun a1=>match a1 with |(Sum.inl a1)=>some (Sum.inl a1) |(Sum.inr (a,b))=>(obind (Bp.l6 K R p0 p1 K b.l b.i a.Op a.Name a.Int a.Text a.Kids:Option (T5 (Int ⊕ (Aa×Ab)) Unit)) (fun r=>r) (fun _=>none))))
theorem Bp.body {Γ:Ud} {K:Nat} {R:Ag} (hR:R.Ok) {p0:List (List UInt8)} {p1:List Int} {p2:Ab} {r:Int ⊕ (Aa×Ab)} (h:Bp.F K R p0 p1 p2=some r):Ub V P 30 100 Γ (Tryz.f62.body.getD .skip) (Uh P V Tryz.f62 (Bp.rep p0 p1 p2 r) (Bp.post p0 p1 p2 r)) ⟨Tx 0 [.P 0,.cv (.fn (.func 146) [.P 0] []),.cv (.ro .Dk p0),.cv (.ro .E5 p1)],[(0,.raw (Ae p2))]⟩:=by
 unfold Bp.F at h;refine Tw L 200 <| Tm ?_;obtain ⟨a1,h1,h⟩:=bind_some h;rcases a1 with a1 | a1
 ·dsimp only at h;refine qn L 202 [] [] [] 1 (T0 (.tup []) []) (Ui 49 a1) (Tu (hR.A7 h1)) ?_;cases h;exact rfl
 ·obtain ⟨n,o⟩:=a1;dsimp only at h;refine rg L 202 [] [] [(1,(T0 (.agg (Ah n)) [(0,.raw (Ae o))]))] (Tu (hR.A7 h1)) ?_;refine Tt <| Tp (Tl.trans (Tl.kk [0,1,2,3,8,9] [0,200,204]) (Tl.rr [(0,0),(200,21300),(204,21301)])) ?_;refine kp (S':=⟨[(0,.P 0),(1,.cv (.fn (.func 146) [.P 0] [])),(2,.cv (.ro .Dk p0)),(3,.cv (.ro .E5 p1)),(8,.P 21300),(9,.P 21301)],[(0,.raw (Ae o)),(21300,.raw [.I 0,.str [],.I 0,.str [],.N]),(21301,.raw (Ah n))]⟩) ?_;obtain ⟨o1,hp1,h⟩:=T7 h;refine T4 (Q':=fun e S=>False∨((e=.ret∨∃ ch,e=.panic ch)∧∃ a,T5.done a=o1∧Uh P V Tryz.f62 (Bp.rep p0 p1 p2 a) (Bp.post p0 p1 p2 a) e S)) (T8 (fun k S=>∃ c:List Aq,∃ d:Int,∃ f:Int,∃ g:List UInt8,∃ i:Int,∃ j:List UInt8,∃ l:List Aa,S=⟨[(0,.P 0),(1,.cv (.fn (.func 146) [.P 0] [])),(2,.cv (.ro .Dk p0)),(3,.cv (.ro .E5 p1)),(8,.P 21300),(9,.P 21301)],[(0,.raw [.ro .Ap c,.I d]),(21300,.raw [.I 0,.str [],.I 0,.str [],.N]),(21301,.raw [.I f,.str g,.I i,.str j,.ro .Af l])]⟩∧Bp.l6 K R p0 p1 k c d f g i j l=some o1) ?_ ⟨_,_,_,_,_,_,_,rfl,hp1⟩) ?_
  ·clear h hp1;intro k S hS;obtain ⟨c,d,f,g,i,j,l,rfl,h⟩:=hS;cases k with
   | zero=>cases h
   | succ k =>
   unfold Bp.l6 at h;refine Tt <| Tm ?_;obtain ⟨⟨q,m,s⟩,h2,h⟩:=bind_some h;dsimp only at h;refine rg L 207 [] [] [(3,(T0 (.tup [.I q,.B m]) [(0,.raw (Ae s))]))] (Tu (Bx.okE h2)) ?_;refine Tm <| Tw L 217 ?_;rcases Tn h with ⟨c1,h⟩ |⟨c1,h⟩
   ·refine ff (b:=(!m)) (congrArg Bool.not (c1)) ?_;refine Tr ?_;obtain ⟨a3,h3,h⟩:=bind_some h;rcases a3 with a3 | a3
    ·dsimp only at h;refine qP L mixed 223 [] [] [] [0,2] 3 (T0 (.tup []) []) (Ui 49 a3) (Vf (hR.A7 h3) (hR.A7 h3)) ?_;cases h;exact .inr ⟨.inr ⟨_,rfl⟩,_,rfl,rfl⟩
    ·obtain ⟨t,p⟩:=a3;dsimp only at h;obtain ⟨a4,h4,h⟩:=bind_some h;refine hB L mixed 223 [] [(5,.agg (Ah a4))] [(3,(T0 (.agg (Ah t)) [(0,.raw (Ae p))]))] [0,2] 2 (Tq (hR.A7 h3) (Tq (Cu.ok h4) (Tq trivial (Tq (hR.A7 h3) (Tq (Cu.ok h4) (Tu trivial)))))) (S':=⟨[(0,.P 0),(1,.cv (.fn (.func 146) [.P 0] [])),(2,.cv (.ro .Dk p0)),(3,.cv (.ro .E5 p1)),(8,.P 21300),(9,.P 21301)],[(0,.raw (Ae p)),(21300,.raw [.I 0,.str [],.I 0,.str [],.N]),(21301,.raw (Ah a4))]⟩) ?_;exact ⟨k,Nat.lt_succ_self k,_,_,_,_,_,_,_,rfl,h⟩
   refine tt (b:=(!m)) (congrArg Bool.not (eq_false_of_ne_true c1)) ?_;refine Tw L 220 <| Tp (Tl.trans (Tl.kk [8] [0,21300]) (Tl.rr [(0,0),(21300,100)])) ?_;refine To ?_;cases h;exact .inr ⟨.inl rfl,_,rfl,Vj⟩
  ·rintro e S (hf |⟨he,a,rfl,hr⟩)
   ·exact hf.elim
   ·rcases h with ⟨_,e1,h⟩ |⟨_,e1,h⟩
    ·have e2:=T5.done.inj e1;subst e2;subst h;rcases he with rfl |⟨ch,rfl⟩
     ·exact ⟨_,Tl.refl,hr⟩
     ·exact ⟨_,Tl.refl,hr⟩
    ·cases e1
def Bn.F (K:Nat) (R:Ag) (p0:Ab):Option (Int ⊕ (Aa×Ab)):=(Option.bind (R.Bp ([([42]:List UInt8),([47]:List UInt8),([37]:List UInt8)]:List (List UInt8)) ([15,16,17]:List Int) p0) (fun a1=>match a1 with |(Sum.inl a1)=>some (Sum.inl a1) |(Sum.inr (a,b))=>some (Sum.inr (a,b))))
theorem Bn.body {Γ:Ud} {K:Nat} {R:Ag} (hR:R.Ok) {p0:Ab} {r:Int ⊕ (Aa×Ab)} (h:Bn.F K R p0=some r):Ub V P 9 100 Γ (Tryz.f137.body.getD .skip) (Uh P V Tryz.f137 (Bn.rep p0 r) (Bn.post p0 r)) ⟨Tx 0 [.P 0],[(0,.raw (Ae p0))]⟩:=by
 unfold Bn.F at h;refine Tw L 200 <| Tm ?_;obtain ⟨a1,h1,h⟩:=bind_some h;rcases a1 with a1 | a1
 ·dsimp only at h;refine qn L 202 [] [] [] 5 (T0 (.tup []) []) (Ui 49 a1) (Tu (hR.Bp h1)) ?_;cases h;exact rfl
 ·obtain ⟨a,b⟩:=a1;dsimp only at h;refine rg L 202 [] [] [(5,(T0 (.agg (Ah a)) [(0,.raw (Ae b))]))] (Tu (hR.Bp h1)) ?_;refine Tp (Tl.trans (Tl.kk [2] [0,200]) (Tl.rr [(0,0),(200,100)])) ?_;refine To ?_;cases h;exact Vj
def Bu.l6 (K:Nat) (R:Ag) (p0:List (List UInt8)) (p1:List Int):Nat→(List Aq)→Int→Int→(List UInt8)→Int→(List UInt8)→(List Aa)→Option (T5 (Int ⊕ (Aa×Ab)) Unit)
 | 0,_,_,_,_,_,_,_=>none
 | k+1,g,h,a,b,c,d,e=>(Option.bind (Bx K p0 p1 (⟨g,h⟩:Ab)) (fun (n,o,j)=>(if o=true then (Option.bind (R.Bn j) (fun a3=>match a3 with |(Sum.inl a3)=>some (T5.done (Sum.inl a3)) |(Sum.inr (f,m))=>(Option.bind (Cu K n ([(⟨a,b,c,d,e⟩:Aa),(⟨f.Op,f.Name,f.Int,f.Text,f.Kids⟩:Aa)]:List Aa)) (fun a4=>Bu.l6 K R p0 p1 k m.l m.i a4.Op a4.Name a4.Int a4.Text a4.Kids)))) else some (T5.done (Sum.inr ((⟨a,b,c,d,e⟩:Aa),j))))))
def Bu.F (K:Nat) (R:Ag) (p0:List (List UInt8)) (p1:List Int) (p2:Ab):Option (Int ⊕ (Aa×Ab)):=(Option.bind (R.Bn p2) (fun a1=>match a1 with |(Sum.inl a1)=>some (Sum.inl a1) |(Sum.inr (a,b))=>(obind (Bu.l6 K R p0 p1 K b.l b.i a.Op a.Name a.Int a.Text a.Kids:Option (T5 (Int ⊕ (Aa×Ab)) Unit)) (fun r=>r) (fun _=>none))))
theorem Bu.body {Γ:Ud} {K:Nat} {R:Ag} (hR:R.Ok) {p0:List (List UInt8)} {p1:List Int} {p2:Ab} {r:Int ⊕ (Aa×Ab)} (h:Bu.F K R p0 p1 p2=some r):Ub V P 30 100 Γ (Tryz.f62.body.getD .skip) (Uh P V Tryz.f62 (Bu.rep p0 p1 p2 r) (Bu.post p0 p1 p2 r)) ⟨Tx 0 [.P 0,.cv (.fn (.func 137) [.P 0] []),.cv (.ro .Dk p0),.cv (.ro .E5 p1)],[(0,.raw (Ae p2))]⟩:=by
 unfold Bu.F at h;refine Tw L 200 <| Tm ?_;obtain ⟨a1,h1,h⟩:=bind_some h;rcases a1 with a1 | a1
 ·dsimp only at h;refine qn L 202 [] [] [] 1 (T0 (.tup []) []) (Ui 49 a1) (Tu (hR.Bn h1)) ?_;cases h;exact rfl
 ·obtain ⟨n,o⟩:=a1;dsimp only at h;refine rg L 202 [] [] [(1,(T0 (.agg (Ah n)) [(0,.raw (Ae o))]))] (Tu (hR.Bn h1)) ?_;refine Tt <| Tp (Tl.trans (Tl.kk [0,1,2,3,8,9] [0,200,204]) (Tl.rr [(0,0),(200,21300),(204,21301)])) ?_;refine kp (S':=⟨[(0,.P 0),(1,.cv (.fn (.func 137) [.P 0] [])),(2,.cv (.ro .Dk p0)),(3,.cv (.ro .E5 p1)),(8,.P 21300),(9,.P 21301)],[(0,.raw (Ae o)),(21300,.raw [.I 0,.str [],.I 0,.str [],.N]),(21301,.raw (Ah n))]⟩) ?_;obtain ⟨o1,hp1,h⟩:=T7 h;refine T4 (Q':=fun e S=>False∨((e=.ret∨∃ ch,e=.panic ch)∧∃ a,T5.done a=o1∧Uh P V Tryz.f62 (Bu.rep p0 p1 p2 a) (Bu.post p0 p1 p2 a) e S)) (T8 (fun k S=>∃ c:List Aq,∃ d:Int,∃ f:Int,∃ g:List UInt8,∃ i:Int,∃ j:List UInt8,∃ l:List Aa,S=⟨[(0,.P 0),(1,.cv (.fn (.func 137) [.P 0] [])),(2,.cv (.ro .Dk p0)),(3,.cv (.ro .E5 p1)),(8,.P 21300),(9,.P 21301)],[(0,.raw [.ro .Ap c,.I d]),(21300,.raw [.I 0,.str [],.I 0,.str [],.N]),(21301,.raw [.I f,.str g,.I i,.str j,.ro .Af l])]⟩∧Bu.l6 K R p0 p1 k c d f g i j l=some o1) ?_ ⟨_,_,_,_,_,_,_,rfl,hp1⟩) ?_
  ·clear h hp1;intro k S hS;obtain ⟨c,d,f,g,i,j,l,rfl,h⟩:=hS;cases k with
   | zero=>cases h
   | succ k =>
   unfold Bu.l6 at h;refine Tt <| Tm ?_;obtain ⟨⟨q,m,s⟩,h2,h⟩:=bind_some h;dsimp only at h;refine rg L 207 [] [] [(3,(T0 (.tup [.I q,.B m]) [(0,.raw (Ae s))]))] (Tu (Bx.okE h2)) ?_;refine Tm <| Tw L 217 ?_;rcases Tn h with ⟨c1,h⟩ |⟨c1,h⟩
   ·refine ff (b:=(!m)) (congrArg Bool.not (c1)) ?_;refine Tr ?_;obtain ⟨a3,h3,h⟩:=bind_some h;rcases a3 with a3 | a3
    ·dsimp only at h;refine qP L mixed 223 [] [] [] [0,2] 3 (T0 (.tup []) []) (Ui 49 a3) (Vf (hR.Bn h3) (hR.Bn h3)) ?_;cases h;exact .inr ⟨.inr ⟨_,rfl⟩,_,rfl,rfl⟩
    ·obtain ⟨t,p⟩:=a3;dsimp only at h;obtain ⟨a4,h4,h⟩:=bind_some h;refine hB L mixed 223 [] [(5,.agg (Ah a4))] [(3,(T0 (.agg (Ah t)) [(0,.raw (Ae p))]))] [0,2] 2 (Tq (hR.Bn h3) (Tq (Cu.ok h4) (Tq trivial (Tq (hR.Bn h3) (Tq (Cu.ok h4) (Tu trivial)))))) (S':=⟨[(0,.P 0),(1,.cv (.fn (.func 137) [.P 0] [])),(2,.cv (.ro .Dk p0)),(3,.cv (.ro .E5 p1)),(8,.P 21300),(9,.P 21301)],[(0,.raw (Ae p)),(21300,.raw [.I 0,.str [],.I 0,.str [],.N]),(21301,.raw (Ah a4))]⟩) ?_;exact ⟨k,Nat.lt_succ_self k,_,_,_,_,_,_,_,rfl,h⟩
   refine tt (b:=(!m)) (congrArg Bool.not (eq_false_of_ne_true c1)) ?_;refine Tw L 220 <| Tp (Tl.trans (Tl.kk [8] [0,21300]) (Tl.rr [(0,0),(21300,100)])) ?_;refine To ?_;cases h;exact .inr ⟨.inl rfl,_,rfl,Vj⟩
  ·rintro e S (hf |⟨he,a,rfl,hr⟩)
   ·exact hf.elim
   ·rcases h with ⟨_,e1,h⟩ |⟨_,e1,h⟩
    ·have e2:=T5.done.inj e1;subst e2;subst h;rcases he with rfl |⟨ch,rfl⟩
     ·exact ⟨_,Tl.refl,hr⟩
     ·exact ⟨_,Tl.refl,hr⟩
    ·cases e1
def B2.F (K:Nat) (R:Ag) (p0:Ab):Option (Int ⊕ (Aa×Ab)):=(Option.bind (R.Bu ([([43]:List UInt8),([45]:List UInt8)]:List (List UInt8)) ([18,19]:List Int) p0) (fun a1=>match a1 with |(Sum.inl a1)=>some (Sum.inl a1) |(Sum.inr (a,b))=>some (Sum.inr (a,b))))
theorem B2.body {Γ:Ud} {K:Nat} {R:Ag} (hR:R.Ok) {p0:Ab} {r:Int ⊕ (Aa×Ab)} (h:B2.F K R p0=some r):Ub V P 9 100 Γ (Tryz.f122.body.getD .skip) (Uh P V Tryz.f122 (B2.rep p0 r) (B2.post p0 r)) ⟨Tx 0 [.P 0],[(0,.raw (Ae p0))]⟩:=by
 unfold B2.F at h;refine Tw L 200 <| Tm ?_;obtain ⟨a1,h1,h⟩:=bind_some h;rcases a1 with a1 | a1
 ·dsimp only at h;refine qn L 202 [] [] [] 5 (T0 (.tup []) []) (Ui 49 a1) (Tu (hR.Bu h1)) ?_;cases h;exact rfl
 ·obtain ⟨a,b⟩:=a1;dsimp only at h;refine rg L 202 [] [] [(5,(T0 (.agg (Ah a)) [(0,.raw (Ae b))]))] (Tu (hR.Bu h1)) ?_;refine Tp (Tl.trans (Tl.kk [2] [0,200]) (Tl.rr [(0,0),(200,100)])) ?_;refine To ?_;cases h;exact Vj
def Bm.F (K:Nat) (R:Ag) (p0:Ab):Option (Int ⊕ (Aa×Ab)):=(Option.bind (Ak K ([110,111,116]:List UInt8) p0) (fun (f,d)=>(if f=true then (Option.bind (R.Bm d) (fun a2=>match a2 with |(Sum.inl a2)=>some (Sum.inl a2) |(Sum.inr (b,g))=>(Option.bind (Cu K 13 ([(⟨b.Op,b.Name,b.Int,b.Text,b.Kids⟩:Aa)]:List Aa)) (fun a3=>some (Sum.inr (a3,g)))))) else (Option.bind (R.B2 d) (fun a4=>match a4 with |(Sum.inl a4)=>some (Sum.inl a4) |(Sum.inr (a,h))=>(Option.bind (Bx K ([([60]:List UInt8),([60,61]:List UInt8),([62]:List UInt8),([62,61]:List UInt8),([61,61]:List UInt8),([33,61]:List UInt8)]:List (List UInt8)) ([20,21,22,23,24,25]:List Int) h) (fun (i,j,e)=>(if j=true then (Option.bind (R.B2 e) (fun a6=>match a6 with |(Sum.inl a6)=>some (Sum.inl a6) |(Sum.inr (c,k))=>(Option.bind (Cu K i ([(⟨a.Op,a.Name,a.Int,a.Text,a.Kids⟩:Aa),(⟨c.Op,c.Name,c.Int,c.Text,c.Kids⟩:Aa)]:List Aa)) (fun a7=>some (Sum.inr (a7,k)))))) else some (Sum.inr (a,e))))))))))
theorem Bm.body {Γ:Ud} {K:Nat} {R:Ag} (hR:R.Ok) {p0:Ab} {r:Int ⊕ (Aa×Ab)} (h:Bm.F K R p0=some r):Ub V P 29 100 Γ (Tryz.f93.body.getD .skip) (Uh P V Tryz.f93 (Bm.rep p0 r) (Bm.post p0 r)) ⟨Tx 0 [.P 0],[(0,.raw (Ae p0))]⟩:=by
 unfold Bm.F at h;refine Tw L 200 <| Tm <| Tm ?_;obtain ⟨⟨b,c⟩,h1,h⟩:=bind_some h;dsimp only at h;refine rg L 202 [] [] [(1,(T0 (.B b) [(0,.raw (Ae c))]))] (Tu (Ak.okE h1)) ?_;rcases Tn h with ⟨c1,h⟩ |⟨c1,h⟩
 ·refine tt c1 <| Tm ?_;obtain ⟨a2,h2,h⟩:=bind_some h;rcases a2 with a2 | a2
  ·dsimp only at h;refine qn L 205 [] [] [] 1 (T0 (.tup []) []) (Ui 49 a2) (Tu (hR.Bm h2)) ?_;cases h;exact rfl
  ·obtain ⟨d,e⟩:=a2;dsimp only at h;obtain ⟨a3,h3,h⟩:=bind_some h;refine rg L 205 [] [(3,.agg (Ah a3))] [(1,(T0 (.agg (Ah d)) [(0,.raw (Ae e))]))] (Tq (hR.Bm h2) (Tq (Cu.ok h3) (Tu trivial))) ?_;refine Tp (Tl.trans (Tl.kk [2] [0,200]) (Tl.rr [(0,0),(200,100)])) ?_;refine To ?_;cases h;exact Vj
 refine fN c1 <| Tr <| Tm ?_;obtain ⟨a4,h4,h⟩:=bind_some h;rcases a4 with a4 | a4
 ·dsimp only at h;refine qn L 211 [] [] [] 1 (T0 (.tup []) []) (Ui 49 a4) (Tu (hR.B2 h4)) ?_;cases h;exact rfl
 ·obtain ⟨f,g⟩:=a4;dsimp only at h;refine rg L 211 [] [] [(1,(T0 (.agg (Ah f)) [(0,.raw (Ae g))]))] (Tu (hR.B2 h4)) ?_;refine Tm <| Tm ?_;obtain ⟨⟨i,j,k⟩,h5,h⟩:=bind_some h;dsimp only at h;refine rg L 216 [] [] [(3,(T0 (.tup [.I i,.B j]) [(0,.raw (Ae k))]))] (Tu (Bx.okE h5)) ?_;refine Tw L 226 ?_;rcases Tn h with ⟨c2,h⟩ |⟨c2,h⟩
  ·refine tt c2 <| Tm ?_;obtain ⟨a6,h6,h⟩:=bind_some h;rcases a6 with a6 | a6
   ·dsimp only at h;refine qP L mixed 228 [] [] [] [0,2] 3 (T0 (.tup []) []) (Ui 49 a6) (Vf (hR.B2 h6) (hR.B2 h6)) ?_;cases h;exact rfl
   ·obtain ⟨l,a⟩:=a6;dsimp only at h;obtain ⟨a7,h7,h⟩:=bind_some h;refine hB L mixed 228 [] [(5,.agg (Ah a7))] [(3,(T0 (.agg (Ah l)) [(0,.raw (Ae a))]))] [0,2] 2 (Tq (hR.B2 h6) (Tq (Cu.ok h7) (Tq trivial (Tq (hR.B2 h6) (Tq (Cu.ok h7) (Tu trivial)))))) (S':=⟨[(2,.P 200)],[(0,.raw (Ae a)),(200,.raw (Ah a7))]⟩) ?_;refine Tp (Tl.trans (Tl.kk [2] [0,200]) (Tl.rr [(0,0),(200,100)])) ?_;refine To ?_;cases h;exact Vj
  refine fN c2 <| Tr <| Tw L 236 <| Tp (Tl.trans (Tl.kk [2] [0,200]) (Tl.rr [(0,0),(200,100)])) ?_;refine To ?_;cases h;exact Vj
def Bt.l6 (K:Nat) (R:Ag) (p0:List (List UInt8)) (p1:List Int):Nat→(List Aq)→Int→Int→(List UInt8)→Int→(List UInt8)→(List Aa)→Option (T5 (Int ⊕ (Aa×Ab)) Unit)
 | 0,_,_,_,_,_,_,_=>none
 | k+1,g,h,a,b,c,d,e=>(Option.bind (Bx K p0 p1 (⟨g,h⟩:Ab)) (fun (n,o,j)=>(if o=true then (Option.bind (R.Bm j) (fun a3=>match a3 with |(Sum.inl a3)=>some (T5.done (Sum.inl a3)) |(Sum.inr (f,m))=>(Option.bind (Cu K n ([(⟨a,b,c,d,e⟩:Aa),(⟨f.Op,f.Name,f.Int,f.Text,f.Kids⟩:Aa)]:List Aa)) (fun a4=>Bt.l6 K R p0 p1 k m.l m.i a4.Op a4.Name a4.Int a4.Text a4.Kids)))) else some (T5.done (Sum.inr ((⟨a,b,c,d,e⟩:Aa),j))))))
def Bt.F (K:Nat) (R:Ag) (p0:List (List UInt8)) (p1:List Int) (p2:Ab):Option (Int ⊕ (Aa×Ab)):=(Option.bind (R.Bm p2) (fun a1=>match a1 with |(Sum.inl a1)=>some (Sum.inl a1) |(Sum.inr (a,b))=>(obind (Bt.l6 K R p0 p1 K b.l b.i a.Op a.Name a.Int a.Text a.Kids:Option (T5 (Int ⊕ (Aa×Ab)) Unit)) (fun r=>r) (fun _=>none))))
theorem Bt.body {Γ:Ud} {K:Nat} {R:Ag} (hR:R.Ok) {p0:List (List UInt8)} {p1:List Int} {p2:Ab} {r:Int ⊕ (Aa×Ab)} (h:Bt.F K R p0 p1 p2=some r):Ub V P 30 100 Γ (Tryz.f62.body.getD .skip) (Uh P V Tryz.f62 (Bt.rep p0 p1 p2 r) (Bt.post p0 p1 p2 r)) ⟨Tx 0 [.P 0,.cv (.fn (.func 93) [.P 0] []),.cv (.ro .Dk p0),.cv (.ro .E5 p1)],[(0,.raw (Ae p2))]⟩:=by
 unfold Bt.F at h;refine Tw L 200 <| Tm ?_;obtain ⟨a1,h1,h⟩:=bind_some h;rcases a1 with a1 | a1
 ·dsimp only at h;refine qn L 202 [] [] [] 1 (T0 (.tup []) []) (Ui 49 a1) (Tu (hR.Bm h1)) ?_;cases h;exact rfl
 ·obtain ⟨n,o⟩:=a1;dsimp only at h;refine rg L 202 [] [] [(1,(T0 (.agg (Ah n)) [(0,.raw (Ae o))]))] (Tu (hR.Bm h1)) ?_;refine Tt <| Tp (Tl.trans (Tl.kk [0,1,2,3,8,9] [0,200,204]) (Tl.rr [(0,0),(200,21300),(204,21301)])) ?_;refine kp (S':=⟨[(0,.P 0),(1,.cv (.fn (.func 93) [.P 0] [])),(2,.cv (.ro .Dk p0)),(3,.cv (.ro .E5 p1)),(8,.P 21300),(9,.P 21301)],[(0,.raw (Ae o)),(21300,.raw [.I 0,.str [],.I 0,.str [],.N]),(21301,.raw (Ah n))]⟩) ?_;obtain ⟨o1,hp1,h⟩:=T7 h;refine T4 (Q':=fun e S=>False∨((e=.ret∨∃ ch,e=.panic ch)∧∃ a,T5.done a=o1∧Uh P V Tryz.f62 (Bt.rep p0 p1 p2 a) (Bt.post p0 p1 p2 a) e S)) (T8 (fun k S=>∃ c:List Aq,∃ d:Int,∃ f:Int,∃ g:List UInt8,∃ i:Int,∃ j:List UInt8,∃ l:List Aa,S=⟨[(0,.P 0),(1,.cv (.fn (.func 93) [.P 0] [])),(2,.cv (.ro .Dk p0)),(3,.cv (.ro .E5 p1)),(8,.P 21300),(9,.P 21301)],[(0,.raw [.ro .Ap c,.I d]),(21300,.raw [.I 0,.str [],.I 0,.str [],.N]),(21301,.raw [.I f,.str g,.I i,.str j,.ro .Af l])]⟩∧Bt.l6 K R p0 p1 k c d f g i j l=some o1) ?_ ⟨_,_,_,_,_,_,_,rfl,hp1⟩) ?_
  ·clear h hp1;intro k S hS;obtain ⟨c,d,f,g,i,j,l,rfl,h⟩:=hS;cases k with
   | zero=>cases h
   | succ k =>
   unfold Bt.l6 at h;refine Tt <| Tm ?_;obtain ⟨⟨q,m,s⟩,h2,h⟩:=bind_some h;dsimp only at h;refine rg L 207 [] [] [(3,(T0 (.tup [.I q,.B m]) [(0,.raw (Ae s))]))] (Tu (Bx.okE h2)) ?_;refine Tm <| Tw L 217 ?_;rcases Tn h with ⟨c1,h⟩ |⟨c1,h⟩
   ·refine ff (b:=(!m)) (congrArg Bool.not (c1)) ?_;refine Tr ?_;obtain ⟨a3,h3,h⟩:=bind_some h;rcases a3 with a3 | a3
    ·dsimp only at h;refine qP L mixed 223 [] [] [] [0,2] 3 (T0 (.tup []) []) (Ui 49 a3) (Vf (hR.Bm h3) (hR.Bm h3)) ?_;cases h;exact .inr ⟨.inr ⟨_,rfl⟩,_,rfl,rfl⟩
    ·obtain ⟨t,p⟩:=a3;dsimp only at h;obtain ⟨a4,h4,h⟩:=bind_some h;refine hB L mixed 223 [] [(5,.agg (Ah a4))] [(3,(T0 (.agg (Ah t)) [(0,.raw (Ae p))]))] [0,2] 2 (Tq (hR.Bm h3) (Tq (Cu.ok h4) (Tq trivial (Tq (hR.Bm h3) (Tq (Cu.ok h4) (Tu trivial)))))) (S':=⟨[(0,.P 0),(1,.cv (.fn (.func 93) [.P 0] [])),(2,.cv (.ro .Dk p0)),(3,.cv (.ro .E5 p1)),(8,.P 21300),(9,.P 21301)],[(0,.raw (Ae p)),(21300,.raw [.I 0,.str [],.I 0,.str [],.N]),(21301,.raw (Ah a4))]⟩) ?_;exact ⟨k,Nat.lt_succ_self k,_,_,_,_,_,_,_,rfl,h⟩
   refine tt (b:=(!m)) (congrArg Bool.not (eq_false_of_ne_true c1)) ?_;refine Tw L 220 <| Tp (Tl.trans (Tl.kk [8] [0,21300]) (Tl.rr [(0,0),(21300,100)])) ?_;refine To ?_;cases h;exact .inr ⟨.inl rfl,_,rfl,Vj⟩
  ·rintro e S (hf |⟨he,a,rfl,hr⟩)
   ·exact hf.elim
   ·rcases h with ⟨_,e1,h⟩ |⟨_,e1,h⟩
    ·have e2:=T5.done.inj e1;subst e2;subst h;rcases he with rfl |⟨ch,rfl⟩
     ·exact ⟨_,Tl.refl,hr⟩
     ·exact ⟨_,Tl.refl,hr⟩
    ·cases e1
def B9.F (K:Nat) (R:Ag) (p0:Ab):Option (Int ⊕ (Aa×Ab)):=(Option.bind (R.Bt ([([97,110,100]:List UInt8)]:List (List UInt8)) ([26]:List Int) p0) (fun a1=>match a1 with |(Sum.inl a1)=>some (Sum.inl a1) |(Sum.inr (a,b))=>some (Sum.inr (a,b))))
theorem B9.body {Γ:Ud} {K:Nat} {R:Ag} (hR:R.Ok) {p0:Ab} {r:Int ⊕ (Aa×Ab)} (h:B9.F K R p0=some r):Ub V P 9 100 Γ (Tryz.f63.body.getD .skip) (Uh P V Tryz.f63 (B9.rep p0 r) (B9.post p0 r)) ⟨Tx 0 [.P 0],[(0,.raw (Ae p0))]⟩:=by
 unfold B9.F at h;refine Tw L 200 <| Tm ?_;obtain ⟨a1,h1,h⟩:=bind_some h;rcases a1 with a1 | a1
 ·dsimp only at h;refine qn L 202 [] [] [] 5 (T0 (.tup []) []) (Ui 49 a1) (Tu (hR.Bt h1)) ?_;cases h;exact rfl
 ·obtain ⟨a,b⟩:=a1;dsimp only at h;refine rg L 202 [] [] [(5,(T0 (.agg (Ah a)) [(0,.raw (Ae b))]))] (Tu (hR.Bt h1)) ?_;refine Tp (Tl.trans (Tl.kk [2] [0,200]) (Tl.rr [(0,0),(200,100)])) ?_;refine To ?_;cases h;exact Vj
def Bq.l6 (K:Nat) (R:Ag) (p0:List (List UInt8)) (p1:List Int):Nat→(List Aq)→Int→Int→(List UInt8)→Int→(List UInt8)→(List Aa)→Option (T5 (Int ⊕ (Aa×Ab)) Unit)
 | 0,_,_,_,_,_,_,_=>none
 | k+1,g,h,a,b,c,d,e=>(Option.bind (Bx K p0 p1 (⟨g,h⟩:Ab)) (fun (n,o,j)=>(if o=true then (Option.bind (R.B9 j) (fun a3=>match a3 with |(Sum.inl a3)=>some (T5.done (Sum.inl a3)) |(Sum.inr (f,m))=>(Option.bind (Cu K n ([(⟨a,b,c,d,e⟩:Aa),(⟨f.Op,f.Name,f.Int,f.Text,f.Kids⟩:Aa)]:List Aa)) (fun a4=>Bq.l6 K R p0 p1 k m.l m.i a4.Op a4.Name a4.Int a4.Text a4.Kids)))) else some (T5.done (Sum.inr ((⟨a,b,c,d,e⟩:Aa),j))))))
def Bq.F (K:Nat) (R:Ag) (p0:List (List UInt8)) (p1:List Int) (p2:Ab):Option (Int ⊕ (Aa×Ab)):=(Option.bind (R.B9 p2) (fun a1=>match a1 with |(Sum.inl a1)=>some (Sum.inl a1) |(Sum.inr (a,b))=>(obind (Bq.l6 K R p0 p1 K b.l b.i a.Op a.Name a.Int a.Text a.Kids:Option (T5 (Int ⊕ (Aa×Ab)) Unit)) (fun r=>r) (fun _=>none))))
theorem Bq.body {Γ:Ud} {K:Nat} {R:Ag} (hR:R.Ok) {p0:List (List UInt8)} {p1:List Int} {p2:Ab} {r:Int ⊕ (Aa×Ab)} (h:Bq.F K R p0 p1 p2=some r):Ub V P 30 100 Γ (Tryz.f62.body.getD .skip) (Uh P V Tryz.f62 (Bq.rep p0 p1 p2 r) (Bq.post p0 p1 p2 r)) ⟨Tx 0 [.P 0,.cv (.fn (.func 63) [.P 0] []),.cv (.ro .Dk p0),.cv (.ro .E5 p1)],[(0,.raw (Ae p2))]⟩:=by
 unfold Bq.F at h;refine Tw L 200 <| Tm ?_;obtain ⟨a1,h1,h⟩:=bind_some h;rcases a1 with a1 | a1
 ·dsimp only at h;refine qn L 202 [] [] [] 1 (T0 (.tup []) []) (Ui 49 a1) (Tu (hR.B9 h1)) ?_;cases h;exact rfl
 ·obtain ⟨n,o⟩:=a1;dsimp only at h;refine rg L 202 [] [] [(1,(T0 (.agg (Ah n)) [(0,.raw (Ae o))]))] (Tu (hR.B9 h1)) ?_;refine Tt <| Tp (Tl.trans (Tl.kk [0,1,2,3,8,9] [0,200,204]) (Tl.rr [(0,0),(200,21300),(204,21301)])) ?_;refine kp (S':=⟨[(0,.P 0),(1,.cv (.fn (.func 63) [.P 0] [])),(2,.cv (.ro .Dk p0)),(3,.cv (.ro .E5 p1)),(8,.P 21300),(9,.P 21301)],[(0,.raw (Ae o)),(21300,.raw [.I 0,.str [],.I 0,.str [],.N]),(21301,.raw (Ah n))]⟩) ?_;obtain ⟨o1,hp1,h⟩:=T7 h;refine T4 (Q':=fun e S=>False∨((e=.ret∨∃ ch,e=.panic ch)∧∃ a,T5.done a=o1∧Uh P V Tryz.f62 (Bq.rep p0 p1 p2 a) (Bq.post p0 p1 p2 a) e S)) (T8 (fun k S=>∃ c:List Aq,∃ d:Int,∃ f:Int,∃ g:List UInt8,∃ i:Int,∃ j:List UInt8,∃ l:List Aa,S=⟨[(0,.P 0),(1,.cv (.fn (.func 63) [.P 0] [])),(2,.cv (.ro .Dk p0)),(3,.cv (.ro .E5 p1)),(8,.P 21300),(9,.P 21301)],[(0,.raw [.ro .Ap c,.I d]),(21300,.raw [.I 0,.str [],.I 0,.str [],.N]),(21301,.raw [.I f,.str g,.I i,.str j,.ro .Af l])]⟩∧Bq.l6 K R p0 p1 k c d f g i j l=some o1) ?_ ⟨_,_,_,_,_,_,_,rfl,hp1⟩) ?_
  ·clear h hp1;intro k S hS;obtain ⟨c,d,f,g,i,j,l,rfl,h⟩:=hS;cases k with
   | zero=>cases h
   | succ k =>
   unfold Bq.l6 at h;refine Tt <| Tm ?_;obtain ⟨⟨q,m,s⟩,h2,h⟩:=bind_some h;dsimp only at h;refine rg L 207 [] [] [(3,(T0 (.tup [.I q,.B m]) [(0,.raw (Ae s))]))] (Tu (Bx.okE h2)) ?_;refine Tm <| Tw L 217 ?_;rcases Tn h with ⟨c1,h⟩ |⟨c1,h⟩
   ·refine ff (b:=(!m)) (congrArg Bool.not (c1)) ?_;refine Tr ?_;obtain ⟨a3,h3,h⟩:=bind_some h;rcases a3 with a3 | a3
    ·dsimp only at h;refine qP L mixed 223 [] [] [] [0,2] 3 (T0 (.tup []) []) (Ui 49 a3) (Vf (hR.B9 h3) (hR.B9 h3)) ?_;cases h;exact .inr ⟨.inr ⟨_,rfl⟩,_,rfl,rfl⟩
    ·obtain ⟨t,p⟩:=a3;dsimp only at h;obtain ⟨a4,h4,h⟩:=bind_some h;refine hB L mixed 223 [] [(5,.agg (Ah a4))] [(3,(T0 (.agg (Ah t)) [(0,.raw (Ae p))]))] [0,2] 2 (Tq (hR.B9 h3) (Tq (Cu.ok h4) (Tq trivial (Tq (hR.B9 h3) (Tq (Cu.ok h4) (Tu trivial)))))) (S':=⟨[(0,.P 0),(1,.cv (.fn (.func 63) [.P 0] [])),(2,.cv (.ro .Dk p0)),(3,.cv (.ro .E5 p1)),(8,.P 21300),(9,.P 21301)],[(0,.raw (Ae p)),(21300,.raw [.I 0,.str [],.I 0,.str [],.N]),(21301,.raw (Ah a4))]⟩) ?_;exact ⟨k,Nat.lt_succ_self k,_,_,_,_,_,_,_,rfl,h⟩
   refine tt (b:=(!m)) (congrArg Bool.not (eq_false_of_ne_true c1)) ?_;refine Tw L 220 <| Tp (Tl.trans (Tl.kk [8] [0,21300]) (Tl.rr [(0,0),(21300,100)])) ?_;refine To ?_;cases h;exact .inr ⟨.inl rfl,_,rfl,Vj⟩
  ·rintro e S (hf |⟨he,a,rfl,hr⟩)
   ·exact hf.elim
   ·rcases h with ⟨_,e1,h⟩ |⟨_,e1,h⟩
    ·have e2:=T5.done.inj e1;subst e2;subst h;rcases he with rfl |⟨ch,rfl⟩
     ·exact ⟨_,Tl.refl,hr⟩
     ·exact ⟨_,Tl.refl,hr⟩
    ·cases e1
def As.F (K:Nat) (R:Ag) (p0:Ab):Option (Int ⊕ (Aa×Ab)):=(Option.bind (R.Bq ([([111,114]:List UInt8)]:List (List UInt8)) ([27]:List Int) p0) (fun a1=>match a1 with |(Sum.inl a1)=>some (Sum.inl a1) |(Sum.inr (a,b))=>some (Sum.inr (a,b))))
theorem As.body {Γ:Ud} {K:Nat} {R:Ag} (hR:R.Ok) {p0:Ab} {r:Int ⊕ (Aa×Ab)} (h:As.F K R p0=some r):Ub V P 9 100 Γ (Tryz.f32.body.getD .skip) (Uh P V Tryz.f32 (As.rep p0 r) (As.post p0 r)) ⟨Tx 0 [.P 0],[(0,.raw (Ae p0))]⟩:=by
 unfold As.F at h;refine Tw L 200 <| Tm ?_;obtain ⟨a1,h1,h⟩:=bind_some h;rcases a1 with a1 | a1
 ·dsimp only at h;refine qn L 202 [] [] [] 5 (T0 (.tup []) []) (Ui 49 a1) (Tu (hR.Bq h1)) ?_;cases h;exact rfl
 ·obtain ⟨a,b⟩:=a1;dsimp only at h;refine rg L 202 [] [] [(5,(T0 (.agg (Ah a)) [(0,.raw (Ae b))]))] (Tu (hR.Bq h1)) ?_;refine Tp (Tl.trans (Tl.kk [2] [0,200]) (Tl.rr [(0,0),(200,100)])) ?_;refine To ?_;cases h;exact Vj
def Ag.upto (K:Nat):Nat→Ag
 | 0=>⟨fun _ _=>none,fun _ _ _=>none,fun _=>none,fun _ _=>none,fun _=>none,fun _=>none,fun _=>none,fun _ _ _=>none,fun _=>none,fun _ _ _=>none,fun _=>none,fun _=>none,fun _ _ _=>none,fun _=>none,fun _ _ _=>none,fun _=>none⟩
 | k+1=>⟨Bd.F K (Ag.upto K k),Bi.F K (Ag.upto K k),B3.F K (Ag.upto K k),Bo.F K (Ag.upto K k),Br.F K (Ag.upto K k),A9.F K (Ag.upto K k),A7.F K (Ag.upto K k),Bp.F K (Ag.upto K k),Bn.F K (Ag.upto K k),Bu.F K (Ag.upto K k),B2.F K (Ag.upto K k),Bm.F K (Ag.upto K k),Bt.F K (Ag.upto K k),B9.F K (Ag.upto K k),Bq.F K (Ag.upto K k),As.F K (Ag.upto K k)⟩
theorem Ag.upto_ok (K:Nat):∀ k,(Ag.upto K k).Ok
 | 0=>⟨fun h=>(by cases h),fun h=>(by cases h),fun h=>(by cases h),fun h=>(by cases h),fun h=>(by cases h),fun h=>(by cases h),fun h=>(by cases h),fun h=>(by cases h),fun h=>(by cases h),fun h=>(by cases h),fun h=>(by cases h),fun h=>(by cases h),fun h=>(by cases h),fun h=>(by cases h),fun h=>(by cases h),fun h=>(by cases h)⟩
 | k+1=>⟨fun {p0 p1 r} h=>xo (fn:=Tryz.f48) (n:=25) (m:=100) fun Γ=>Bd.body (K:=K) (Ag.upto_ok K k) h,fun {p0 p1 p2 r} h=>xo (fn:=Tryz.f106) (n:=16) (m:=100) fun Γ=>Bi.body (K:=K) (Ag.upto_ok K k) h,fun {p0 r} h=>xo (fn:=Tryz.f166) (n:=21) (m:=100) fun Γ=>B3.body (K:=K) (Ag.upto_ok K k) h,fun {p0 p1 r} h=>xo (fn:=Tryz.f48) (n:=25) (m:=100) fun Γ=>Bo.body (K:=K) (Ag.upto_ok K k) h,fun {p0 r} h=>xo (fn:=Tryz.f163) (n:=51) (m:=100) fun Γ=>Br.body (K:=K) (Ag.upto_ok K k) h,fun {p0 r} h=>xo (fn:=Tryz.f156) (n:=25) (m:=100) fun Γ=>A9.body (K:=K) (Ag.upto_ok K k) h,fun {p0 r} h=>xo (fn:=Tryz.f146) (n:=26) (m:=100) fun Γ=>A7.body (K:=K) (Ag.upto_ok K k) h,fun {p0 p1 p2 r} h=>xo (fn:=Tryz.f62) (n:=30) (m:=100) fun Γ=>Bp.body (K:=K) (Ag.upto_ok K k) h,fun {p0 r} h=>xo (fn:=Tryz.f137) (n:=9) (m:=100) fun Γ=>Bn.body (K:=K) (Ag.upto_ok K k) h,fun {p0 p1 p2 r} h=>xo (fn:=Tryz.f62) (n:=30) (m:=100) fun Γ=>Bu.body (K:=K) (Ag.upto_ok K k) h,fun {p0 r} h=>xo (fn:=Tryz.f122) (n:=9) (m:=100) fun Γ=>B2.body (K:=K) (Ag.upto_ok K k) h,fun {p0 r} h=>xo (fn:=Tryz.f93) (n:=29) (m:=100) fun Γ=>Bm.body (K:=K) (Ag.upto_ok K k) h,fun {p0 p1 p2 r} h=>xo (fn:=Tryz.f62) (n:=30) (m:=100) fun Γ=>Bt.body (K:=K) (Ag.upto_ok K k) h,fun {p0 r} h=>xo (fn:=Tryz.f63) (n:=9) (m:=100) fun Γ=>B9.body (K:=K) (Ag.upto_ok K k) h,fun {p0 p1 p2 r} h=>xo (fn:=Tryz.f62) (n:=30) (m:=100) fun Γ=>Bq.body (K:=K) (Ag.upto_ok K k) h,fun {p0 r} h=>xo (fn:=Tryz.f32) (n:=9) (m:=100) fun Γ=>As.body (K:=K) (Ag.upto_ok K k) h⟩
def Bd (K:Nat) (p0:List UInt8) (p1:Ab):Option (((List Aa)×Ab) ⊕ Int):=(Ag.upto K K).Bd p0 p1
theorem Bd.okE {K:Nat} {p0:List UInt8} {p1:Ab} {r:((List Aa)×Ab) ⊕ Int} (h:Bd K p0 p1=some r):Ug V P 48 [.P 0,.cv (.str p0),.cv (.fn (.func 32) [.P 0] [])] [(0,.raw (Ae p1))] [0] (Bd.post p0 p1 r) (Bd.rep p0 p1 r):=(Ag.upto_ok K K).Bd h
def Bi (K:Nat) (p0:Int) (p1:List UInt8) (p2:Ab):Option ((Aa×Ab) ⊕ Int):=(Ag.upto K K).Bi p0 p1 p2
theorem Bi.okE {K:Nat} {p0:Int} {p1:List UInt8} {p2:Ab} {r:(Aa×Ab) ⊕ Int} (h:Bi K p0 p1 p2=some r):Ug V P 106 [.P 0,.I p0,.cv (.str p1)] [(0,.raw (Ae p2))] [0] (Bi.post p0 p1 p2 r) (Bi.rep p0 p1 p2 r):=(Ag.upto_ok K K).Bi h
def B3 (K:Nat) (p0:Ab):Option (Int ⊕ (Aa×Ab)):=(Ag.upto K K).B3 p0
theorem B3.okE {K:Nat} {p0:Ab} {r:Int ⊕ (Aa×Ab)} (h:B3 K p0=some r):Ug V P 166 [.P 0] [(0,.raw (Ae p0))] [0] (B3.post p0 r) (B3.rep p0 r):=(Ag.upto_ok K K).B3 h
def Bo (K:Nat) (p0:List UInt8) (p1:Ab):Option (((List Aa)×Ab) ⊕ Int):=(Ag.upto K K).Bo p0 p1
theorem Bo.okE {K:Nat} {p0:List UInt8} {p1:Ab} {r:((List Aa)×Ab) ⊕ Int} (h:Bo K p0 p1=some r):Ug V P 48 [.P 0,.cv (.str p0),.cv (.fn (.func 166) [.P 0] [])] [(0,.raw (Ae p1))] [0] (Bo.post p0 p1 r) (Bo.rep p0 p1 r):=(Ag.upto_ok K K).Bo h
def Br (K:Nat) (p0:Ab):Option ((Aa×Ab) ⊕ Int):=(Ag.upto K K).Br p0
theorem Br.okE {K:Nat} {p0:Ab} {r:(Aa×Ab) ⊕ Int} (h:Br K p0=some r):Ug V P 163 [.P 0] [(0,.raw (Ae p0))] [0] (Br.post p0 r) (Br.rep p0 r):=(Ag.upto_ok K K).Br h
def A9 (K:Nat) (p0:Ab):Option (Int ⊕ (Aa×Ab)):=(Ag.upto K K).A9 p0
theorem A9.okE {K:Nat} {p0:Ab} {r:Int ⊕ (Aa×Ab)} (h:A9 K p0=some r):Ug V P 156 [.P 0] [(0,.raw (Ae p0))] [0] (A9.post p0 r) (A9.rep p0 r):=(Ag.upto_ok K K).A9 h
def A7 (K:Nat) (p0:Ab):Option (Int ⊕ (Aa×Ab)):=(Ag.upto K K).A7 p0
theorem A7.okE {K:Nat} {p0:Ab} {r:Int ⊕ (Aa×Ab)} (h:A7 K p0=some r):Ug V P 146 [.P 0] [(0,.raw (Ae p0))] [0] (A7.post p0 r) (A7.rep p0 r):=(Ag.upto_ok K K).A7 h
def Bp (K:Nat) (p0:List (List UInt8)) (p1:List Int) (p2:Ab):Option (Int ⊕ (Aa×Ab)):=(Ag.upto K K).Bp p0 p1 p2
theorem Bp.okE {K:Nat} {p0:List (List UInt8)} {p1:List Int} {p2:Ab} {r:Int ⊕ (Aa×Ab)} (h:Bp K p0 p1 p2=some r):Ug V P 62 [.P 0,.cv (.fn (.func 146) [.P 0] []),.cv (.ro .Dk p0),.cv (.ro .E5 p1)] [(0,.raw (Ae p2))] [0] (Bp.post p0 p1 p2 r) (Bp.rep p0 p1 p2 r):=(Ag.upto_ok K K).Bp h
def Bn (K:Nat) (p0:Ab):Option (Int ⊕ (Aa×Ab)):=(Ag.upto K K).Bn p0
theorem Bn.okE {K:Nat} {p0:Ab} {r:Int ⊕ (Aa×Ab)} (h:Bn K p0=some r):Ug V P 137 [.P 0] [(0,.raw (Ae p0))] [0] (Bn.post p0 r) (Bn.rep p0 r):=(Ag.upto_ok K K).Bn h
def Bu (K:Nat) (p0:List (List UInt8)) (p1:List Int) (p2:Ab):Option (Int ⊕ (Aa×Ab)):=(Ag.upto K K).Bu p0 p1 p2
theorem Bu.okE {K:Nat} {p0:List (List UInt8)} {p1:List Int} {p2:Ab} {r:Int ⊕ (Aa×Ab)} (h:Bu K p0 p1 p2=some r):Ug V P 62 [.P 0,.cv (.fn (.func 137) [.P 0] []),.cv (.ro .Dk p0),.cv (.ro .E5 p1)] [(0,.raw (Ae p2))] [0] (Bu.post p0 p1 p2 r) (Bu.rep p0 p1 p2 r):=(Ag.upto_ok K K).Bu h
def B2 (K:Nat) (p0:Ab):Option (Int ⊕ (Aa×Ab)):=(Ag.upto K K).B2 p0
theorem B2.okE {K:Nat} {p0:Ab} {r:Int ⊕ (Aa×Ab)} (h:B2 K p0=some r):Ug V P 122 [.P 0] [(0,.raw (Ae p0))] [0] (B2.post p0 r) (B2.rep p0 r):=(Ag.upto_ok K K).B2 h
def Bm (K:Nat) (p0:Ab):Option (Int ⊕ (Aa×Ab)):=(Ag.upto K K).Bm p0
theorem Bm.okE {K:Nat} {p0:Ab} {r:Int ⊕ (Aa×Ab)} (h:Bm K p0=some r):Ug V P 93 [.P 0] [(0,.raw (Ae p0))] [0] (Bm.post p0 r) (Bm.rep p0 r):=(Ag.upto_ok K K).Bm h
def Bt (K:Nat) (p0:List (List UInt8)) (p1:List Int) (p2:Ab):Option (Int ⊕ (Aa×Ab)):=(Ag.upto K K).Bt p0 p1 p2
theorem Bt.okE {K:Nat} {p0:List (List UInt8)} {p1:List Int} {p2:Ab} {r:Int ⊕ (Aa×Ab)} (h:Bt K p0 p1 p2=some r):Ug V P 62 [.P 0,.cv (.fn (.func 93) [.P 0] []),.cv (.ro .Dk p0),.cv (.ro .E5 p1)] [(0,.raw (Ae p2))] [0] (Bt.post p0 p1 p2 r) (Bt.rep p0 p1 p2 r):=(Ag.upto_ok K K).Bt h
def B9 (K:Nat) (p0:Ab):Option (Int ⊕ (Aa×Ab)):=(Ag.upto K K).B9 p0
theorem B9.okE {K:Nat} {p0:Ab} {r:Int ⊕ (Aa×Ab)} (h:B9 K p0=some r):Ug V P 63 [.P 0] [(0,.raw (Ae p0))] [0] (B9.post p0 r) (B9.rep p0 r):=(Ag.upto_ok K K).B9 h
def Bq (K:Nat) (p0:List (List UInt8)) (p1:List Int) (p2:Ab):Option (Int ⊕ (Aa×Ab)):=(Ag.upto K K).Bq p0 p1 p2
theorem Bq.okE {K:Nat} {p0:List (List UInt8)} {p1:List Int} {p2:Ab} {r:Int ⊕ (Aa×Ab)} (h:Bq K p0 p1 p2=some r):Ug V P 62 [.P 0,.cv (.fn (.func 63) [.P 0] []),.cv (.ro .Dk p0),.cv (.ro .E5 p1)] [(0,.raw (Ae p2))] [0] (Bq.post p0 p1 p2 r) (Bq.rep p0 p1 p2 r):=(Ag.upto_ok K K).Bq h
def As (K:Nat) (p0:Ab):Option (Int ⊕ (Aa×Ab)):=(Ag.upto K K).As p0
theorem As.okE {K:Nat} {p0:Ab} {r:Int ⊕ (Aa×Ab)} (h:As K p0=some r):Ug V P 32 [.P 0] [(0,.raw (Ae p0))] [0] (As.post p0 r) (As.rep p0 r):=(Ag.upto_ok K K).As h
structure D9 where
 C3:Aa→Option Int
structure D9.Ok (R:D9):Prop where
 C3:∀ {p0:Aa} {r:Int},R.C3 p0=some r→Tv V P 21 [.agg (Ah p0)] [] [] (.I r) []
theorem C3.okR {R:D9} (hR:R.Ok) {p0:Aa} {r:Int} (h:R.C3 p0=some r):T1 V P 21 [.agg (Ah p0)] (.I r):=(hR.C3 h).pcall (by kernel_rfl)
def C3.l9 (K:Nat) (R:D9) (p0:Aa):Nat→Int→Int→Option Int
 | 0,_,_=>none
 | k+1,b,a=>(if a <(p0.Kids.length:Int) then (if (0:Int)≤a∧(a:Int) <(p0.Kids.length:Int) then (Option.bind (R.C3 (p0.Kids.getD (Int.toNat a) B5)) (fun a1=>C3.l9 K R p0 k (IntKind.i64.wrap (b+a1)) (IntKind.i64.wrap (a+1)))) else none) else some b)
def C3.F (K:Nat) (R:D9) (p0:Aa):Option Int:=(Option.bind (C3.l9 K R p0 K 1 0:Option Int) (fun a=>some a))
theorem C3.body {Γ:Ud} {K:Nat} {R:D9} (hR:R.Ok) {p0:Aa} {r:Int} (h:C3.F K R p0=some r):Ub V P 19 100 Γ (Tryz.f21.body.getD .skip) (Ty P V Tryz.f21 (.I r) []) ⟨Tx 0 [.agg (Ah p0)],[]⟩:=by
 unfold C3.F at h;refine Tw L 200 <| Tw L 203 <| Tm <| Tw L 205 <| Tt <| kp (S':=⟨[(3,.I 1),(7,.cv (.ro .Af p0.Kids)),(8,.I (p0.Kids.length:Int)),(9,.I 0)],[]⟩) ?_;obtain ⟨o1,hp1,h⟩:=bind_some h;refine T4 (Q':=fun e S=>(e=.exit 0∧∃ c:Int,S=⟨[(3,.I c)],[]⟩∧c=o1)) (T8 (fun k S=>∃ a:Int,∃ b:Int,S=⟨[(3,.I a),(7,.cv (.ro .Af p0.Kids)),(8,.I (p0.Kids.length:Int)),(9,.I b)],[]⟩∧C3.l9 K R p0 k a b=some o1) ?_ ⟨_,_,rfl,hp1⟩) ?_
 ·clear h hp1;intro k S hS;obtain ⟨a,b,rfl,h⟩:=hS;cases k with
  | zero=>cases h
  | succ k =>
  unfold C3.l9 at h;refine Tw L 210 <| Tm ?_;rcases Tn h with ⟨c1,h⟩ |⟨c1,h⟩
  ·refine tT c1 <| Tr <| Tm <| Tt <| Tm ?_;obtain ⟨g1,h⟩:=Ts h;refine rg L 212 [] [] [] (Vf g1.1 g1.2) ?_;obtain ⟨a1,h1,h⟩:=bind_some h;refine rg L 217 [] [(2,.I a1)] [] (U4 (C3.okR hR h1)) ?_;refine Xi L 223 [] [] [] (S':=⟨[(3,.I (IntKind.i64.wrap (a+a1))),(7,.cv (.ro .Af p0.Kids)),(8,.I (p0.Kids.length:Int)),(9,.I (IntKind.i64.wrap (b+1)))],[]⟩) ?_;exact ⟨k,Nat.lt_succ_self k,_,_,rfl,h⟩
  refine fF c1 <| ex (S':=⟨[(3,.I a)],[]⟩) ?_;cases h;exact ⟨rfl,_,rfl,rfl⟩
 ·rintro e S ⟨rfl,c,rfl,rfl⟩;refine ⟨_,Tl.refl,?_⟩;refine Tw L 226 <| To ?_;cases h;exact T3
def D9.upto (K:Nat):Nat→D9
 | 0=>⟨fun _=>none⟩
 | k+1=>⟨C3.F K (D9.upto K k)⟩
theorem D9.upto_ok (K:Nat):∀ k,(D9.upto K k).Ok
 | 0=>⟨fun h=>(by cases h)⟩
 | k+1=>⟨fun {p0 r} h=>eo (fn:=Tryz.f21) (n:=19) (m:=100) fun Γ=>C3.body (K:=K) (D9.upto_ok K k) h⟩
def C3 (K:Nat) (p0:Aa):Option Int:=(D9.upto K K).C3 p0
theorem C3.okE {K:Nat} {p0:Aa} {r:Int} (h:C3 K p0=some r):Tv V P 21 [.agg (Ah p0)] [] [] (.I r) []:=(D9.upto_ok K K).C3 h
theorem C3.ok {K:Nat} {p0:Aa} {r:Int} (h:C3 K p0=some r):T1 V P 21 [.agg (Ah p0)] (.I r):=(C3.okE h).pcall (by kernel_rfl)
structure D4 where
 C1:Aa→Option Int
structure D4.Ok (R:D4):Prop where
 C1:∀ {p0:Aa} {r:Int},R.C1 p0=some r→Tv V P 22 [.agg (Ah p0)] [] [] (.I r) []
theorem C1.okR {R:D4} (hR:R.Ok) {p0:Aa} {r:Int} (h:R.C1 p0=some r):T1 V P 22 [.agg (Ah p0)] (.I r):=(hR.C1 h).pcall (by kernel_rfl)
def C1.l9 (K:Nat) (R:D4) (p0:Aa):Nat→Int→Int→Option Int
 | 0,_,_=>none
 | k+1,b,a=>(if a <(p0.Kids.length:Int) then (if (0:Int)≤a∧(a:Int) <(p0.Kids.length:Int) then (Option.bind (R.C1 (p0.Kids.getD (Int.toNat a) B5)) (fun a1=>C1.l9 K R p0 k (if a1 > b then a1 else b) (IntKind.i64.wrap (a+1)))) else none) else some b)
def C1.F (K:Nat) (R:D4) (p0:Aa):Option Int:=(Option.bind (C1.l9 K R p0 K 0 0:Option Int) (fun a=>some (IntKind.i64.wrap (a+1))))
theorem C1.body {Γ:Ud} {K:Nat} {R:D4} (hR:R.Ok) {p0:Aa} {r:Int} (h:C1.F K R p0=some r):Ub V P 20 100 Γ (Tryz.f22.body.getD .skip) (Ty P V Tryz.f22 (.I r) []) ⟨Tx 0 [.agg (Ah p0)],[]⟩:=by
 unfold C1.F at h;refine Tw L 200 <| Tw L 203 <| Tm <| Tw L 205 <| Tt <| kp (S':=⟨[(3,.I 0),(7,.cv (.ro .Af p0.Kids)),(8,.I (p0.Kids.length:Int)),(9,.I 0)],[]⟩) ?_;obtain ⟨o1,hp1,h⟩:=bind_some h;refine T4 (Q':=fun e S=>(e=.exit 0∧∃ c:Int,S=⟨[(3,.I c)],[]⟩∧c=o1)) (T8 (fun k S=>∃ a:Int,∃ b:Int,S=⟨[(3,.I a),(7,.cv (.ro .Af p0.Kids)),(8,.I (p0.Kids.length:Int)),(9,.I b)],[]⟩∧C1.l9 K R p0 k a b=some o1) ?_ ⟨_,_,rfl,hp1⟩) ?_
 ·clear h hp1;intro k S hS;obtain ⟨a,b,rfl,h⟩:=hS;cases k with
  | zero=>cases h
  | succ k =>
  unfold C1.l9 at h;refine Tw L 210 <| Tm ?_;rcases Tn h with ⟨c1,h⟩ |⟨c1,h⟩
  ·refine tT c1 <| Tr <| Tm <| Tt <| Tm ?_;obtain ⟨g1,h⟩:=Ts h;refine rg L 212 [] [] [] (Vf g1.1 g1.2) ?_;obtain ⟨a1,h1,h⟩:=bind_some h;refine rg L 217 [] [(2,.I a1)] [] (U4 (C1.okR hR h1)) ?_;refine Xi L 223 [] [] [] (S':=⟨[(3,.I (if a1 > a then a1 else a)),(7,.cv (.ro .Af p0.Kids)),(8,.I (p0.Kids.length:Int)),(9,.I (IntKind.i64.wrap (b+1)))],[]⟩) ?_;exact ⟨k,Nat.lt_succ_self k,_,_,rfl,h⟩
  refine fF c1 <| ex (S':=⟨[(3,.I a)],[]⟩) ?_;cases h;exact ⟨rfl,_,rfl,rfl⟩
 ·rintro e S ⟨rfl,c,rfl,rfl⟩;refine ⟨_,Tl.refl,?_⟩;refine Tw L 226 <| To ?_;cases h;exact T3
def D4.upto (K:Nat):Nat→D4
 | 0=>⟨fun _=>none⟩
 | k+1=>⟨C1.F K (D4.upto K k)⟩
theorem D4.upto_ok (K:Nat):∀ k,(D4.upto K k).Ok
 | 0=>⟨fun h=>(by cases h)⟩
 | k+1=>⟨fun {p0 r} h=>eo (fn:=Tryz.f22) (n:=20) (m:=100) fun Γ=>C1.body (K:=K) (D4.upto_ok K k) h⟩
def C1 (K:Nat) (p0:Aa):Option Int:=(D4.upto K K).C1 p0
theorem C1.okE {K:Nat} {p0:Aa} {r:Int} (h:C1 K p0=some r):Tv V P 22 [.agg (Ah p0)] [] [] (.I r) []:=(D4.upto_ok K K).C1 h
theorem C1.ok {K:Nat} {p0:Aa} {r:Int} (h:C1 K p0=some r):T1 V P 22 [.agg (Ah p0)] (.I r):=(C1.okE h).pcall (by kernel_rfl)
def Em (K:Nat) (p0:List Aq) (p1:Int):Option (Int ⊕ (Aa×Int×Int)):=(Option.bind (As K (⟨p0,0⟩:Ab)) (fun a1=>match a1 with |(Sum.inl a1)=>some (Sum.inl a1) |(Sum.inr (a,b))=>(Option.bind (Bj K b) (fun a2=>(if a2.Kind≠0 then (Option.bind (Bf K b) (fun a3=>some (Sum.inl a3))) else (Option.bind (C3 K a) (fun a4=>(if a4 > 4000 then some (Sum.inr ((⟨0,[],0,[],([]:List Aa)⟩:Aa),0,6)) else (Option.bind (C1 K a) (fun a5=>(if a5 > 40 then some (Sum.inr ((⟨0,[],0,[],([]:List Aa)⟩:Aa),0,7)) else some (Sum.inr (a,0,0)))))))))))))
def Em.rep (p0:List Aq) (p1:Int):Int ⊕ (Aa×Int×Int)→Uu T
 |(Sum.inl v0)=>.pan (Ui 49 v0)
 |(Sum.inr (v0,v1,v2))=>.ret (.tup [.agg [.I v0.Op,.str v0.Name,.I v0.Int,.str v0.Text,.ro .Af v0.Kids],.I v1,.I v2])
theorem Em.body {Γ:Ud} {K:Nat} {p0:List Aq} {p1:Int} {r:Int ⊕ (Aa×Int×Int)} (h:Em K p0 p1=some r):Ub V P 44 93 Γ (Ue (Ue (Ue (Ue (Tryz.f25.body.getD .skip))))) (Xu P V Tryz.f25 (Em.rep p0 p1 r)) ⟨[(1,.cv (.fn (.func 32) [] [])),(4,.P 90),(5,.P 91),(6,.P 92),(7,.cv (.ro .Ap p0))],[(90,.raw [.I 0,.str [],.I 0,.str [],.N]),(91,.raw [.I p1]),(92,.raw [.I 0])]⟩:=by
 unfold Em at h;refine Tw L 200 <| Tm ?_;obtain ⟨a1,h1,h⟩:=bind_some h;rcases a1 with a1 | a1
 ·dsimp only at h;refine pn L 205 [] [] [] 2 [4,5,6] [90,91,92] (ef [0] [0] (.tup []) [] [(0,202)]) (Ui 49 a1) (cs:=[Adr V P 32 [.P 0] [(0,.raw [.ro .Ap p0,.I 0])] (Ui 49 a1)]) (S':=⟨[(4,.P 90),(5,.P 91),(6,.P 92)],[(90,.raw [.I 0,.str [],.I 0,.str [],.N]),(91,.raw [.I p1]),(92,.raw [.I 0])]⟩) (As.okE h1) ?_;cases h;exact (rp:Xu P V Tryz.f25 (Em.rep p0 p1 (Sum.inl a1)) _ _)
 ·obtain ⟨a,b⟩:=a1;dsimp only at h;refine rg L 205 [] [] [(2,(ef [0] [0] (.agg (Ah a)) [(0,.raw (Ae b))] [(0,202)]))] (Tu (As.okE h1)) ?_;refine Tm <| Tm ?_;obtain ⟨a2,h2,h⟩:=bind_some h;refine rg L 210 [] [(1,.agg (D1 a2))] [] (U4 (Bj.ok h2)) ?_;rcases Tn h with ⟨c1,h⟩ |⟨c1,h⟩
  ·refine tT c1 ?_;obtain ⟨a3,h3,h⟩:=bind_some h;refine pn L 215 [] [] [] 1 [4,5,6] [90,91,92] (ef [0] [0] (.tup []) [] [(0,202)]) (Ui 49 a3) (cs:=[Adr V P 43 [.P 0] [(0,.raw (Ae b))] (Ui 49 a3)]) (S':=⟨[(4,.P 90),(5,.P 91),(6,.P 92)],[(90,.raw (Ah a)),(91,.raw [.I p1]),(92,.raw [.I 0])]⟩) (Bf.okE h3) ?_;cases h;exact (rp:Xu P V Tryz.f25 (Em.rep p0 p1 (Sum.inl a3)) _ _)
  refine fF c1 <| Tr <| Tm <| Tt <| Tm ?_;obtain ⟨a4,h4,h⟩:=bind_some h;refine rg L 218 [] [(1,.I a4)] [] (U4 (C3.ok h4)) ?_;rcases Tn h with ⟨c2,h⟩ |⟨c2,h⟩
  ·refine tT c2 <| Tw L 223 <| To ?_;cases h;exact rr0
  refine fF c2 <| Tm ?_;obtain ⟨a5,h5,h⟩:=bind_some h;refine rg L 228 [] [(1,.I a5)] [] (U4 (C1.ok h5)) ?_;rcases Tn h with ⟨c3,h⟩ |⟨c3,h⟩
  ·refine tT c3 <| Tw L 233 <| To ?_;cases h;exact rr0
  refine fF c3 <| Tr <| Tw L 238 <| To ?_;cases h;exact rr0
def Fu:Int ⊕ (Aa×Int×Int)→Aa×Int×Int
 |(Sum.inl v0)=>(B5,v0,29)
 |(Sum.inr (v0,v1,v2))=>(v0,v1,v2)
def Gg (K:Nat) (p0:List UInt8):Option (Aa×Int×Int):=Option.bind (Ec K p0) (fun (c,a,b)=>if b≠0 then some (B5,a,b) else Option.bind (Em K c a) (fun x=>some (Fu x)))
theorem Gg.ok {K:Nat} {p0:List UInt8} {r:Aa×Int×Int} (h:Gg K p0=some r):T1 V P 25 [.cv (.str p0),.cv (.fn (.func 32) [] [])] (.tup [.agg (Ah r.1),.I r.2.1,.I r.2.2]):=by
 unfold Gg at h;obtain ⟨⟨l,at0,e0⟩,h1,h⟩:=bind_some h;dsimp only at h;by_cases he:e0≠0
 ·rw [if_pos he] at h;obtain rfl:=Option.some.inj h;exact Ki (Ec.ok h1) he
 ·rw [if_neg he] at h;obtain ⟨x,h2,h⟩:=bind_some h;obtain rfl:=Option.some.inj h;have he0:e0=0:=Decidable.not_not.1 he;subst he0;refine Ju (o:=Em.rep l at0 x) (Ec.ok h1) (fun Γ=>Em.body h2) ?_;rcases x with v0 |⟨v0,v1,v2⟩
  ·exact .inr ⟨v0,rfl,rfl⟩
  ·exact .inl rfl
def Fl (K:Nat) (p0:List UInt8):Option (Aa×Int×Int):=(Option.bind (Gg K p0) (fun (a,b,c)=>some (a,b,c)))
theorem Fl.body {Γ:Ud} {K:Nat} {p0:List UInt8} {r:Aa×Int×Int} (h:Fl K p0=some r):Ub V P 10 100 Γ (Tryz.f15.body.getD .skip) (Ty P V Tryz.f15 (.tup [.agg [.I r.1.Op,.str r.1.Name,.I r.1.Int,.str r.1.Text,.ro .Af r.1.Kids],.I r.2.1,.I r.2.2]) []) ⟨Tx 0 [.cv (.str p0)],[]⟩:=by
 unfold Fl at h;refine Tw L 200 <| Tm ?_;obtain ⟨⟨a,b,c⟩,h1,h⟩:=bind_some h;dsimp only at h;refine rg L 204 [] [(1,.tup [.agg (Ah a),.I b,.I c])] [] (U4 (Gg.ok h1)) ?_;refine Tp (Tl.trans (Tl.kk [2,3,4] [200]) (Tl.rr [(200,100)])) ?_;refine To ?_;cases h;exact T3
theorem Fl.ok {K:Nat} {p0:List UInt8} {r:Aa×Int×Int} (h:Fl K p0=some r):T1 V P 15 [.cv (.str p0)] (.tup [.agg [.I r.1.Op,.str r.1.Name,.I r.1.Int,.str r.1.Text,.ro .Af r.1.Kids],.I r.2.1,.I r.2.2]):=Tv.pcall (eo (fn:=Tryz.f15) (n:=10) (m:=100) fun Γ=>Fl.body h) (by kernel_rfl)
def Cx (K:Nat) (p0:Ab):Option (Int ⊕ (Aa×Ab)):=(Option.bind (Ak K ([45]:List UInt8) p0) (fun (c,a)=>(if c=true then (Option.bind (Bj K a) (fun a2=>(if a2.Kind≠3 then (Option.bind (Bf K a) (fun a3=>some (Sum.inl a3))) else (Option.bind (Dr K a) (fun (d,e)=>(Option.bind (Cu K 14 ([(⟨4,[],d.Int,[],([]:List Aa)⟩:Aa)]:List Aa)) (fun a5=>some (Sum.inr (a5,e))))))))) else (Option.bind (Dq K a) (fun (f,g,b)=>(if g=true then some (Sum.inr (f,b)) else (Option.bind (Bf K b) (fun a7=>some (Sum.inl a7)))))))))
def Cx.rep (p0:Ab):Int ⊕ (Aa×Ab)→Uu T
 |(Sum.inl v0)=>.pan (Ui 49 v0)
 |(Sum.inr (v0,v1))=>.ret (.agg [.I v0.Op,.str v0.Name,.I v0.Int,.str v0.Text,.ro .Af v0.Kids])
def Cx.post (p0:Ab):Int ⊕ (Aa×Ab)→List (Nat×T9 T)
 |(Sum.inl v0)=>[]
 |(Sum.inr (v0,v1))=>[(0,.raw [.ro .Ap v1.l,.I v1.i])]
theorem Cx.body {Γ:Ud} {K:Nat} {p0:Ab} {r:Int ⊕ (Aa×Ab)} (h:Cx K p0=some r):Ub V P 29 100 Γ (Tryz.f47.body.getD .skip) (Uh P V Tryz.f47 (Cx.rep p0 r) (Cx.post p0 r)) ⟨Tx 0 [.P 0],[(0,.raw (Ae p0))]⟩:=by
 unfold Cx at h;refine Tw L 200 <| Tm <| Tm ?_;obtain ⟨⟨c,d⟩,h1,h⟩:=bind_some h;dsimp only at h;refine rg L 202 [] [] [(1,(T0 (.B c) [(0,.raw (Ae d))]))] (Tu (Ak.okE h1)) ?_;rcases Tn h with ⟨c1,h⟩ |⟨c1,h⟩
 ·refine tt c1 <| Tm <| Tm ?_;obtain ⟨a2,h2,h⟩:=bind_some h;refine rg L 205 [] [(1,.agg (D1 a2))] [] (U4 (Bj.ok h2)) ?_;rcases Tn h with ⟨c2,h⟩ |⟨c2,h⟩
  ·refine tT c2 ?_;obtain ⟨a3,h3,h⟩:=bind_some h;refine qn L 210 [] [] [] 1 (T0 (.tup []) []) (Ui 49 a3) (Tu (Bf.okE h3)) ?_;cases h;exact rfl
  refine fF c2 <| Tr <| Tm ?_;obtain ⟨⟨e,f⟩,h4,h⟩:=bind_some h;dsimp only at h;obtain ⟨a5,h5,h⟩:=bind_some h;refine rg L 213 [] [(5,.agg (Ah a5))] [(1,(T0 (.agg (D1 e)) [(0,.raw (Ae f))]))] (Tq (Dr.okE h4) (Tq (Cu.ok h5) (Tu trivial))) ?_;refine Tp (Tl.trans (Tl.kk [2] [0,200]) (Tl.rr [(0,0),(200,100)])) ?_;refine To ?_;cases h;exact Vj
 refine fN c1 <| Tr <| Tm ?_;obtain ⟨⟨g,a,i⟩,h6,h⟩:=bind_some h;dsimp only at h;refine rg L 221 [] [] [(1,(T0 (.tup [.agg (Ah g),.B a]) [(0,.raw (Ae i))]))] (Tu (Dq.okE h6)) ?_;refine Tm <| Tw L 230 ?_;rcases Tn h with ⟨c3,h⟩ |⟨c3,h⟩
 ·refine ff (b:=(!a)) (congrArg Bool.not (c3)) ?_;refine Tr <| Tw L 236 <| Tp (Tl.trans (Tl.kk [2] [0,200]) (Tl.rr [(0,0),(200,100)])) ?_;refine To ?_;cases h;exact Vj
 refine tt (b:=(!a)) (congrArg Bool.not (eq_false_of_ne_true c3)) ?_;obtain ⟨a7,h7,h⟩:=bind_some h;refine qn L 233 [] [] [] 1 (T0 (.tup []) []) (Ui 49 a7) (Tu (Bf.okE h7)) ?_;cases h;exact rfl
theorem Cx.okE {K:Nat} {p0:Ab} {r:Int ⊕ (Aa×Ab)} (h:Cx K p0=some r):Ug V P 47 [.P 0] [(0,.raw (Ae p0))] [0] (Cx.post p0 r) (Cx.rep p0 r) :=
 xo (fn:=Tryz.f47) (n:=29) (m:=100) fun Γ=>Cx.body h
def Bk (K:Nat) (p0:Ab):Option (Int ⊕ (Aa×Ab)):=(Option.bind (Au K p0) (fun a1=>match a1 with |(Sum.inl a1)=>some (Sum.inl a1) |(Sum.inr (a,b))=>some (Sum.inr ((⟨6,a,0,[],([]:List Aa)⟩:Aa),b))))
def Bk.rep (p0:Ab):Int ⊕ (Aa×Ab)→Uu T
 |(Sum.inl v0)=>.pan (Ui 49 v0)
 |(Sum.inr (v0,v1))=>.ret (.agg [.I v0.Op,.str v0.Name,.I v0.Int,.str v0.Text,.ro .Af v0.Kids])
def Bk.post (p0:Ab):Int ⊕ (Aa×Ab)→List (Nat×T9 T)
 |(Sum.inl v0)=>[]
 |(Sum.inr (v0,v1))=>[(0,.raw [.ro .Ap v1.l,.I v1.i])]
theorem Bk.body {Γ:Ud} {K:Nat} {p0:Ab} {r:Int ⊕ (Aa×Ab)} (h:Bk K p0=some r):Ub V P 6 100 Γ (Tryz.f49.body.getD .skip) (Uh P V Tryz.f49 (Bk.rep p0 r) (Bk.post p0 r)) ⟨Tx 0 [.P 0],[(0,.raw (Ae p0))]⟩:=by
 unfold Bk at h;refine Tw L 200 <| Tm ?_;obtain ⟨a1,h1,h⟩:=bind_some h;rcases a1 with a1 | a1
 ·dsimp only at h;refine qn L 202 [] [] [] 1 (T0 (.tup []) []) (Ui 49 a1) (Tu (Au.okE h1)) ?_;cases h;exact rfl
 ·obtain ⟨a,b⟩:=a1;dsimp only at h;refine rg L 202 [] [] [(1,(T0 (.cv (.str a)) [(0,.raw (Ae b))]))] (Tu (Au.okE h1)) ?_;refine Tp (Tl.trans (Tl.kk [2] [0,200]) (Tl.rr [(0,0),(200,100)])) ?_;refine To ?_;cases h;exact Vj
theorem Bk.okE {K:Nat} {p0:Ab} {r:Int ⊕ (Aa×Ab)} (h:Bk K p0=some r):Ug V P 49 [.P 0] [(0,.raw (Ae p0))] [0] (Bk.post p0 r) (Bk.rep p0 r) :=
 xo (fn:=Tryz.f49) (n:=6) (m:=100) fun Γ=>Bk.body h
end Go.Proofs.YtifjagfmfkemmaaGreatDoor
