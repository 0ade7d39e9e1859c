import Derived.Test.YtifjagfmfkemmaaGreatDoorPd
set_option linter.unusedVariables false
set_option maxHeartbeats 0
namespace Go.Proofs.YtifjagfmfkemmaaGreatDoor
open Eng
def Ch (K:Nat) (p0:A0) (p1:Int):Option Int:=(if (IntKind.i64.wrap (p0.at_+p1))≥(p0.src.length:Int) then some (-1) else (if (0:Int)≤(IntKind.i64.wrap (p0.at_+p1))∧((IntKind.i64.wrap (p0.at_+p1)):Int) <(p0.src.length:Int) then some ((IntKind.i32.wrap ((p0.src.getD (Int.toNat (IntKind.i64.wrap (p0.at_+p1))) 0).toNat:Int))) else none))
theorem Ch.body {Γ:Rm} {K:Nat} {p0:A0} {p1:Int} {r:Int} (h:Ch K p0 p1=some r):Ri V P 29 100 Γ (Tryz.f97.body.getD .skip) (Q7 P V Tryz.f97 (.cv (.lit (.int .i32 r))) []) ⟨Q6 0 [.cv (.pcs (A9 p0) 0),.I p1],[]⟩:=by
 unfold Ch at h
 refine Q4 L 200 <| Qv <| sd' L mixed 202 [] [] [] [] 12 pl0 ?_
 rcases Qw h with ⟨c1,h⟩ |⟨c1,h⟩
 ·refine tT c1 <| Q4 L 215 <| Qx ?_
  cases h
  exact Rd
 refine fF c1 <| Q0 <| Qv ?_
 obtain ⟨g1,h⟩:=Q1 h
 refine rd L mixed 217 [] [] [] [] 13 (Sj g1.1 g1.2) ?_
 refine Qx ?_
 cases h
 exact Rd
theorem Ch.ok {K:Nat} {p0:A0} {p1:Int} {r:Int} (h:Ch K p0 p1=some r):Rb V P 97 [.cv (.pcs (A9 p0) 0),.I p1] (.cv (.lit (.int .i32 r))):=Q5.pcall (eo (fn:=Tryz.f97) (n:=29) (m:=100) fun Γ=>Ch.body h) (by kernel_rfl)
def Fc (K:Nat) (p0:Int):Option Bool:=(if p0=32 then some true else (if p0=9 then some true else some (decide (p0=10))))
theorem Fc.body {Γ:Rm} {K:Nat} {p0:Int} {r:Bool} (h:Fc K p0=some r):Ri V P 13 100 Γ (Tryz.f71.body.getD .skip) (Q7 P V Tryz.f71 (.B r) []) ⟨Q6 0 [.cv (.lit (.int .i32 p0))],[]⟩:=by
 unfold Fc at h
 refine Q4 L 200 <| Qv ?_
 rcases Qw h with ⟨c1,h⟩ |⟨c1,h⟩
 ·refine rg L 202 [(2,true)] [] [] (Q3 (decide_eq_true c1)) ?_
  refine Qx ?_
  cases h
  exact Rd
 rcases Qw h with ⟨c2,h⟩ |⟨c2,h⟩
 ·refine rg L 202 [(2,false),(6,true)] [] [] (Sj (decide_eq_false c1) (decide_eq_true c2)) ?_
  refine Qx ?_
  cases h
  exact Rd
 refine rg L 202 [(2,false),(6,false)] [] [] (Sj (decide_eq_false c1) (decide_eq_false c2)) ?_
 refine Qx ?_
 cases h
 exact Rd
theorem Fc.ok {K:Nat} {p0:Int} {r:Bool} (h:Fc K p0=some r):Rb V P 71 [.cv (.lit (.int .i32 p0))] (.B r):=Q5.pcall (eo (fn:=Tryz.f71) (n:=13) (m:=100) fun Γ=>Fc.body h) (by kernel_rfl)
def Dh.l7 (K:Nat) (p0:A0):Nat→Int→Option Int
 | 0,_=>none
 | k+1,xh0_1_7h=>(Option.bind (Ch K (⟨p0.src,xh0_1_7h⟩:A0) 0) (fun a1=>(Option.bind (Fc K a1) (fun a2=>(if a2=true then Dh.l7 K p0 k (IntKind.i64.wrap (xh0_1_7h+1)) else some xh0_1_7h)))))
def Dh (K:Nat) (p0:A0):Option ((List UInt8)×A0):=(Option.bind (Dh.l7 K p0 K p0.at_:Option Int) (fun xh0_1_7=>(if (0:Int)≤p0.at_∧p0.at_≤xh0_1_7∧xh0_1_7≤(p0.src.length:Int) then some ((Vj p0.src p0.at_ xh0_1_7),(⟨p0.src,xh0_1_7⟩:A0)) else none)))
theorem Dh.body {Γ:Rm} {K:Nat} {p0:A0} {r:(List UInt8)×A0} (h:Dh K p0=some r):Ri V P 31 100 Γ (Tryz.f70.body.getD .skip) (Q7 P V Tryz.f70 (.cv (.str r.1)) [(0,.raw [.str r.2.src,.I r.2.at_])]) ⟨Q6 0 [.P 0,.cv (.fn (.func 71) [] [])],[(0,.raw (A9 p0))]⟩:=by
 unfold Dh at h
 refine Q4 L 200 <| Q4 L 202 <| Qv <| Q2 <| kp (S':=⟨[(0,.P 0),(1,.cv (.fn (.func 71) [] [])),(5,.I p0.at_)],[(0,.raw (A9 p0))]⟩) ?_
 obtain ⟨o1,hp1,h⟩:=bind_some h
 refine Ra (Q':=fun e S=>(e=.exit 0∧∃ xh0_1_7:Int,S=⟨[(0,.P 0),(5,.I p0.at_)],[(0,.raw [.str p0.src,.I xh0_1_7])]⟩∧xh0_1_7=o1)) (Rh (fun k S=>∃ xh0_1_7h:Int,S=⟨[(0,.P 0),(1,.cv (.fn (.func 71) [] [])),(5,.I p0.at_)],[(0,.raw [.str p0.src,.I xh0_1_7h])]⟩∧Dh.l7 K p0 k xh0_1_7h=some o1) ?_ ⟨_,rfl,hp1⟩) ?_
 ·clear h hp1
  intro k S hS
  obtain ⟨xh0_1_7h,rfl,h⟩:=hS
  cases k with
  | zero=>cases h
  | succ k =>
  unfold Dh.l7 at h
  refine Qv <| Qv ?_
  obtain ⟨a1,h1,h⟩:=bind_some h
  obtain ⟨a2,h2,h⟩:=bind_some h
  refine rg L 208 [] [(2,.cv (.lit (.int .i32 a1))),(3,.B a2)] [] (Qz (Ch.ok h1) (Qz trivial (Qz (Fc.ok h2) (Q3 trivial)))) ?_
  rcases Qw h with ⟨c1,h⟩ |⟨c1,h⟩
  ·refine tt c1 <| Q0 <| Q2 <| Tv L 213 [] [] [] (S':=⟨[(0,.P 0),(1,.cv (.fn (.func 71) [] [])),(5,.I p0.at_)],[(0,.raw [.str p0.src,.I (IntKind.i64.wrap (xh0_1_7h+1))])]⟩) ?_
   exact ⟨k,Nat.lt_succ_self k,_,rfl,h⟩
  refine fN c1 <| ex (S':=⟨[(0,.P 0),(5,.I p0.at_)],[(0,.raw [.str p0.src,.I xh0_1_7h])]⟩) ?_
  cases h
  exact ⟨rfl,_,rfl,rfl⟩
 ·rintro e S ⟨rfl,xh0_1_7,rfl,rfl⟩
  refine ⟨_,Qu.refl,?_⟩
  refine Qv ?_
  obtain ⟨g1,h⟩:=Q1 h
  refine rd L mixed 222 [] [] [] [] 11 (Qz g1.1 (Qz g1.2.1 (Q3 g1.2.2))) ?_
  refine Qx ?_
  cases h
  exact Rd
theorem Dh.okE {K:Nat} {p0:A0} {r:(List UInt8)×A0} (h:Dh K p0=some r):Q5 V P 70 [.P 0,.cv (.fn (.func 71) [] [])] [(0,.raw (A9 p0))] [0] (.cv (.str r.1)) [(0,.raw [.str r.2.src,.I r.2.at_])] :=
 eo (fn:=Tryz.f70) (n:=31) (m:=100) fun Γ=>Dh.body h
def Eu (K:Nat) (p0:Int):Option Bool:=(if p0≥97 then (if p0≤122 then some true else (if p0≥65 then (if p0≤90 then some true else some (decide (p0=95))) else some (decide (p0=95)))) else (if p0≥65 then (if p0≤90 then some true else some (decide (p0=95))) else some (decide (p0=95))))
theorem Eu.body {Γ:Rm} {K:Nat} {p0:Int} {r:Bool} (h:Eu K p0=some r):Ri V P 21 100 Γ (Tryz.f98.body.getD .skip) (Q7 P V Tryz.f98 (.B r) []) ⟨Q6 0 [.cv (.lit (.int .i32 p0))],[]⟩:=by
 unfold Eu at h
 refine Q4 L 200 <| Qv ?_
 rcases Qw h with ⟨c1,h⟩ |⟨c1,h⟩
 ·rcases Qw h with ⟨c2,h⟩ |⟨c2,h⟩
  ·refine rg L 202 [(2,true),(6,true)] [] [] (Sj (decide_eq_true c1) (decide_eq_true c2)) ?_
   refine Qx ?_
   cases h
   exact Rd
  rcases Qw h with ⟨c3,h⟩ |⟨c3,h⟩
  ·rcases Qw h with ⟨c4,h⟩ |⟨c4,h⟩
   ·refine rg L 202 [(2,true),(6,false),(9,true),(14,true)] [] [] (Qz (decide_eq_true c1) (Qz (decide_eq_false c2) (Qz (decide_eq_true c3) (Q3 (decide_eq_true c4))))) ?_
    refine Qx ?_
    cases h
    exact Rd
   refine rg L 202 [(2,true),(6,false),(9,true),(14,false)] [] [] (Qz (decide_eq_true c1) (Qz (decide_eq_false c2) (Qz (decide_eq_true c3) (Q3 (decide_eq_false c4))))) ?_
   refine Qx ?_
   cases h
   exact Rd
  refine rg L 202 [(2,true),(6,false),(9,false)] [] [] (Qz (decide_eq_true c1) (Qz (decide_eq_false c2) (Q3 (decide_eq_false c3)))) ?_
  refine Qx ?_
  cases h
  exact Rd
 rcases Qw h with ⟨c5,h⟩ |⟨c5,h⟩
 ·rcases Qw h with ⟨c6,h⟩ |⟨c6,h⟩
  ·refine rg L 202 [(2,false),(9,true),(14,true)] [] [] (Qz (decide_eq_false c1) (Qz (decide_eq_true c5) (Q3 (decide_eq_true c6)))) ?_
   refine Qx ?_
   cases h
   exact Rd
  refine rg L 202 [(2,false),(9,true),(14,false)] [] [] (Qz (decide_eq_false c1) (Qz (decide_eq_true c5) (Q3 (decide_eq_false c6)))) ?_
  refine Qx ?_
  cases h
  exact Rd
 refine rg L 202 [(2,false),(9,false)] [] [] (Sj (decide_eq_false c1) (decide_eq_false c5)) ?_
 refine Qx ?_
 cases h
 exact Rd
theorem Eu.ok {K:Nat} {p0:Int} {r:Bool} (h:Eu K p0=some r):Rb V P 98 [.cv (.lit (.int .i32 p0))] (.B r):=Q5.pcall (eo (fn:=Tryz.f98) (n:=21) (m:=100) fun Γ=>Eu.body h) (by kernel_rfl)
def E6 (K:Nat) (p0:Int):Option Bool:=(if p0≥48 then some (decide (p0≤57)) else some false)
theorem E6.body {Γ:Rm} {K:Nat} {p0:Int} {r:Bool} (h:E6 K p0=some r):Ri V P 9 100 Γ (Tryz.f100.body.getD .skip) (Q7 P V Tryz.f100 (.B r) []) ⟨Q6 0 [.cv (.lit (.int .i32 p0))],[]⟩:=by
 unfold E6 at h
 refine Q4 L 200 <| Qv ?_
 rcases Qw h with ⟨c1,h⟩ |⟨c1,h⟩
 ·refine rg L 202 [(2,true)] [] [] (Q3 (decide_eq_true c1)) ?_
  refine Qx ?_
  cases h
  exact Rd
 refine rg L 202 [(2,false)] [] [] (Q3 (decide_eq_false c1)) ?_
 refine Qx ?_
 cases h
 exact Rd
theorem E6.ok {K:Nat} {p0:Int} {r:Bool} (h:E6 K p0=some r):Rb V P 100 [.cv (.lit (.int .i32 p0))] (.B r):=Q5.pcall (eo (fn:=Tryz.f100) (n:=9) (m:=100) fun Γ=>E6.body h) (by kernel_rfl)
def Eg (K:Nat) (p0:Int):Option Bool:=(Option.bind (Eu K p0) (fun a1=>(if a1=true then some true else (Option.bind (E6 K p0) (fun a2=>some a2)))))
theorem Eg.body {Γ:Rm} {K:Nat} {p0:Int} {r:Bool} (h:Eg K p0=some r):Ri V P 9 100 Γ (Tryz.f125.body.getD .skip) (Q7 P V Tryz.f125 (.B r) []) ⟨Q6 0 [.cv (.lit (.int .i32 p0))],[]⟩:=by
 unfold Eg at h
 refine Q4 L 200 <| Qv ?_
 obtain ⟨a1,h1,h⟩:=bind_some h
 rcases Qw h with ⟨c1,h⟩ |⟨c1,h⟩
 ·refine rg L 202 [(2,true)] [(1,.B a1)] [] (Qz (Eu.ok h1) (Qz trivial (Q3 c1))) ?_
  refine Qx ?_
  cases h
  exact Rd
 obtain ⟨a2,h2,h⟩:=bind_some h
 refine rg L 202 [(2,false)] [(1,.B a1),(4,.B a2)] [] (Qz (Eu.ok h1) (Qz trivial (Qz (eq_false_of_ne_true c1) (Qz (E6.ok h2) (Q3 trivial))))) ?_
 refine Qx ?_
 cases h
 exact Rd
theorem Eg.ok {K:Nat} {p0:Int} {r:Bool} (h:Eg K p0=some r):Rb V P 125 [.cv (.lit (.int .i32 p0))] (.B r):=Q5.pcall (eo (fn:=Tryz.f125) (n:=9) (m:=100) fun Γ=>Eg.body h) (by kernel_rfl)
def Di.l7 (K:Nat) (p0:A0):Nat→Int→Option Int
 | 0,_=>none
 | k+1,xh0_1_7h=>(Option.bind (Ch K (⟨p0.src,xh0_1_7h⟩:A0) 0) (fun a1=>(Option.bind (Eg K a1) (fun a2=>(if a2=true then Di.l7 K p0 k (IntKind.i64.wrap (xh0_1_7h+1)) else some xh0_1_7h)))))
def Di (K:Nat) (p0:A0):Option ((List UInt8)×A0):=(Option.bind (Di.l7 K p0 K p0.at_:Option Int) (fun xh0_1_7=>(if (0:Int)≤p0.at_∧p0.at_≤xh0_1_7∧xh0_1_7≤(p0.src.length:Int) then some ((Vj p0.src p0.at_ xh0_1_7),(⟨p0.src,xh0_1_7⟩:A0)) else none)))
theorem Di.body {Γ:Rm} {K:Nat} {p0:A0} {r:(List UInt8)×A0} (h:Di K p0=some r):Ri V P 31 100 Γ (Tryz.f70.body.getD .skip) (Q7 P V Tryz.f70 (.cv (.str r.1)) [(0,.raw [.str r.2.src,.I r.2.at_])]) ⟨Q6 0 [.P 0,.cv (.fn (.func 125) [] [])],[(0,.raw (A9 p0))]⟩:=by
 unfold Di at h
 refine Q4 L 200 <| Q4 L 202 <| Qv <| Q2 <| kp (S':=⟨[(0,.P 0),(1,.cv (.fn (.func 125) [] [])),(5,.I p0.at_)],[(0,.raw (A9 p0))]⟩) ?_
 obtain ⟨o1,hp1,h⟩:=bind_some h
 refine Ra (Q':=fun e S=>(e=.exit 0∧∃ xh0_1_7:Int,S=⟨[(0,.P 0),(5,.I p0.at_)],[(0,.raw [.str p0.src,.I xh0_1_7])]⟩∧xh0_1_7=o1)) (Rh (fun k S=>∃ xh0_1_7h:Int,S=⟨[(0,.P 0),(1,.cv (.fn (.func 125) [] [])),(5,.I p0.at_)],[(0,.raw [.str p0.src,.I xh0_1_7h])]⟩∧Di.l7 K p0 k xh0_1_7h=some o1) ?_ ⟨_,rfl,hp1⟩) ?_
 ·clear h hp1
  intro k S hS
  obtain ⟨xh0_1_7h,rfl,h⟩:=hS
  cases k with
  | zero=>cases h
  | succ k =>
  unfold Di.l7 at h
  refine Qv <| Qv ?_
  obtain ⟨a1,h1,h⟩:=bind_some h
  obtain ⟨a2,h2,h⟩:=bind_some h
  refine rg L 208 [] [(2,.cv (.lit (.int .i32 a1))),(3,.B a2)] [] (Qz (Ch.ok h1) (Qz trivial (Qz (Eg.ok h2) (Q3 trivial)))) ?_
  rcases Qw h with ⟨c1,h⟩ |⟨c1,h⟩
  ·refine tt c1 <| Q0 <| Q2 <| Tv L 213 [] [] [] (S':=⟨[(0,.P 0),(1,.cv (.fn (.func 125) [] [])),(5,.I p0.at_)],[(0,.raw [.str p0.src,.I (IntKind.i64.wrap (xh0_1_7h+1))])]⟩) ?_
   exact ⟨k,Nat.lt_succ_self k,_,rfl,h⟩
  refine fN c1 <| ex (S':=⟨[(0,.P 0),(5,.I p0.at_)],[(0,.raw [.str p0.src,.I xh0_1_7h])]⟩) ?_
  cases h
  exact ⟨rfl,_,rfl,rfl⟩
 ·rintro e S ⟨rfl,xh0_1_7,rfl,rfl⟩
  refine ⟨_,Qu.refl,?_⟩
  refine Qv ?_
  obtain ⟨g1,h⟩:=Q1 h
  refine rd L mixed 222 [] [] [] [] 11 (Qz g1.1 (Qz g1.2.1 (Q3 g1.2.2))) ?_
  refine Qx ?_
  cases h
  exact Rd
theorem Di.okE {K:Nat} {p0:A0} {r:(List UInt8)×A0} (h:Di K p0=some r):Q5 V P 70 [.P 0,.cv (.fn (.func 125) [] [])] [(0,.raw (A9 p0))] [0] (.cv (.str r.1)) [(0,.raw [.str r.2.src,.I r.2.at_])] :=
 eo (fn:=Tryz.f70) (n:=31) (m:=100) fun Γ=>Di.body h
def D1.l7 (K:Nat) (p0:List (List UInt8)) (p1:List UInt8):Nat→Int→Option (Q9 Int Unit)
 | 0,_=>none
 | k+1,xt8_7h=>(if xt8_7h <(p0.length:Int) then (if (0:Int)≤xt8_7h∧(xt8_7h:Int) <(p0.length:Int) then (if p1=(p0.getD (Int.toNat xt8_7h) ([]:List UInt8)) then some (Q9.done xt8_7h) else D1.l7 K p0 p1 k (IntKind.i64.wrap (xt8_7h+1))) else none) else some (Q9.go ()))
def D1 (K:Nat) (p0:List (List UInt8)) (p1:List UInt8):Option Int:=(obind (D1.l7 K p0 p1 K 0:Option (Q9 Int Unit)) (fun r=>r) (fun _=>some (-1)))
theorem D1.body {Γ:Rm} {K:Nat} {p0:List (List UInt8)} {p1:List UInt8} {r:Int} (h:D1 K p0 p1=some r):Ri V P 19 100 Γ (Tryz.f135.body.getD .skip) (Q7 P V Tryz.f135 (.I r) []) ⟨Q6 0 [.cv (.ro .C8 p0),.cv (.str p1)],[]⟩:=by
 unfold D1 at h
 refine Q4 L 200 <| Qv <| Q4 L 202 <| Q2 <| kp (S':=⟨[(0,.cv (.ro .C8 p0)),(1,.cv (.str p1)),(7,.I (p0.length:Int)),(8,.I 0)],[]⟩) ?_
 obtain ⟨o1,hp1,h⟩:=Rf h
 refine Ra (Q':=fun e S=>(e=.exit 0∧S=⟨[],[]⟩∧Q9.go ()=o1)∨(e=.ret∧∃ a,Q9.done a=o1∧Q7 P V Tryz.f135 (.I a) [] .ret S)) (Rh (fun k S=>∃ xt8_7h:Int,S=⟨[(0,.cv (.ro .C8 p0)),(1,.cv (.str p1)),(7,.I (p0.length:Int)),(8,.I xt8_7h)],[]⟩∧D1.l7 K p0 p1 k xt8_7h=some o1) ?_ ⟨_,rfl,hp1⟩) ?_
 ·clear h hp1
  intro k S hS
  obtain ⟨xt8_7h,rfl,h⟩:=hS
  cases k with
  | zero=>cases h
  | succ k =>
  unfold D1.l7 at h
  refine Q4 L 206 <| Qv ?_
  rcases Qw h with ⟨c1,h⟩ |⟨c1,h⟩
  ·refine tT c1 <| Q0 <| Qv <| Q2 <| Q4 L 208 <| Qv ?_
   obtain ⟨g1,h⟩:=Q1 h
   refine rg L 211 [] [] [] (Sj g1.1 g1.2) ?_
   rcases Qw h with ⟨c2,h⟩ |⟨c2,h⟩
   ·refine tT c2 <| Q4 L 218 <| Qx ?_
    cases h
    exact .inr ⟨rfl,_,rfl,Rd⟩
   refine fF c2 <| Q0 <| Tv L 221 [] [] [] (S':=⟨[(0,.cv (.ro .C8 p0)),(1,.cv (.str p1)),(7,.I (p0.length:Int)),(8,.I (IntKind.i64.wrap (xt8_7h+1)))],[]⟩) ?_
   exact ⟨k,Nat.lt_succ_self k,_,rfl,h⟩
  refine fF c1 <| ex (S':=⟨[],[]⟩) ?_
  cases h
  exact .inl ⟨rfl,rfl,rfl⟩
 ·rintro e S (⟨rfl,rfl,rfl⟩ |⟨rfl,a,rfl,hr⟩)
  ·rcases h with ⟨_,e1,h⟩ |⟨_,e1,h⟩
   ·cases e1
   ·have e2:=Q9.go.inj e1
    subst e2
    refine ⟨_,Qu.refl,?_⟩
    refine Q4 L 224 <| Qx ?_
    cases h
    exact Rd
  ·rcases h with ⟨_,e1,h⟩ |⟨_,e1,h⟩
   ·have e2:=Q9.done.inj e1
    subst e2
    subst h
    exact ⟨_,Qu.refl,hr⟩
   ·cases e1
theorem D1.ok {K:Nat} {p0:List (List UInt8)} {p1:List UInt8} {r:Int} (h:D1 K p0 p1=some r):Rb V P 135 [.cv (.ro .C8 p0),.cv (.str p1)] (.I r):=Q5.pcall (eo (fn:=Tryz.f135) (n:=19) (m:=100) fun Γ=>D1.body h) (by kernel_rfl)
def Et (K:Nat) (p0:List (List UInt8)) (p1:List UInt8):Option Bool:=(Option.bind (D1 K p0 p1) (fun a1=>some (decide (a1≥0))))
theorem Et.body {Γ:Rm} {K:Nat} {p0:List (List UInt8)} {p1:List UInt8} {r:Bool} (h:Et K p0 p1=some r):Ri V P 9 100 Γ (Tryz.f119.body.getD .skip) (Q7 P V Tryz.f119 (.B r) []) ⟨Q6 0 [.cv (.ro .C8 p0),.cv (.str p1)],[]⟩:=by
 unfold Et at h
 refine Q4 L 200 <| Qv ?_
 obtain ⟨a1,h1,h⟩:=bind_some h
 refine rg L 202 [] [(2,.I a1)] [] (R6 (D1.ok h1)) ?_
 refine Qx ?_
 cases h
 exact Rd
theorem Et.ok {K:Nat} {p0:List (List UInt8)} {p1:List UInt8} {r:Bool} (h:Et K p0 p1=some r):Rb V P 119 [.cv (.ro .C8 p0),.cv (.str p1)] (.B r):=Q5.pcall (eo (fn:=Tryz.f119) (n:=9) (m:=100) fun Γ=>Et.body h) (by kernel_rfl)
def E0 (K:Nat) (p0:List UInt8):Option Bool:=(if ([97,110,100,32,97,119,97,105,116,32,99,97,115,101,32,99,97,116,99,104,32,99,104,101,99,107,32,101,108,115,101,32,102,97,108,115,101,32,102,117,110,99,32,103,111,32,105,102,32,108,101,116,32,110,111,116,32,110,117,108,108,32,111,110,32,111,114,32,113,117,101,114,121,32,114,101,116,117,114,110,32,115,97,103,97,32,115,101,108,101,99,116,32,115,105,103,110,97,108,32,116,104,114,111,119,32,116,114,117,101,32,116,114,121,32,117,110,100,111,32,117,112,100,97,116,101,32,118,97,114,32,119,104,105,108,101]:List UInt8).length < 4294967281∧(([97,110,100,32,97,119,97,105,116,32,99,97,115,101,32,99,97,116,99,104,32,99,104,101,99,107,32,101,108,115,101,32,102,97,108,115,101,32,102,117,110,99,32,103,111,32,105,102,32,108,101,116,32,110,111,116,32,110,117,108,108,32,111,110,32,111,114,32,113,117,101,114,121,32,114,101,116,117,114,110,32,115,97,103,97,32,115,101,108,101,99,116,32,115,105,103,110,97,108,32,116,104,114,111,119,32,116,114,117,101,32,116,114,121,32,117,110,100,111,32,117,112,100,97,116,101,32,118,97,114,32,119,104,105,108,101]:List UInt8).all fun b=>decide (b.toNat < 128))=true then (Option.bind (Et K (Lib.fields ([97,110,100,32,97,119,97,105,116,32,99,97,115,101,32,99,97,116,99,104,32,99,104,101,99,107,32,101,108,115,101,32,102,97,108,115,101,32,102,117,110,99,32,103,111,32,105,102,32,108,101,116,32,110,111,116,32,110,117,108,108,32,111,110,32,111,114,32,113,117,101,114,121,32,114,101,116,117,114,110,32,115,97,103,97,32,115,101,108,101,99,116,32,115,105,103,110,97,108,32,116,104,114,111,119,32,116,114,117,101,32,116,114,121,32,117,110,100,111,32,117,112,100,97,116,101,32,118,97,114,32,119,104,105,108,101]:List UInt8)) p0) (fun a1=>some a1)) else none)
theorem E0.body {Γ:Rm} {K:Nat} {p0:List UInt8} {r:Bool} (h:E0 K p0=some r):Ri V P 8 100 Γ (Tryz.f91.body.getD .skip) (Q7 P V Tryz.f91 (.B r) []) ⟨Q6 0 [.cv (.str p0)],[]⟩:=by
 unfold E0 at h
 refine Q4 L 200 <| Qv ?_
 obtain ⟨g1,h⟩:=Q1 h
 refine rg L 202 [] [(0,.cv (.ron .C8 (Lib.fields ([97,110,100,32,97,119,97,105,116,32,99,97,115,101,32,99,97,116,99,104,32,99,104,101,99,107,32,101,108,115,101,32,102,97,108,115,101,32,102,117,110,99,32,103,111,32,105,102,32,108,101,116,32,110,111,116,32,110,117,108,108,32,111,110,32,111,114,32,113,117,101,114,121,32,114,101,116,117,114,110,32,115,97,103,97,32,115,101,108,101,99,116,32,115,105,103,110,97,108,32,116,104,114,111,119,32,116,114,117,101,32,116,114,121,32,117,110,100,111,32,117,112,100,97,116,101,32,118,97,114,32,119,104,105,108,101]:List UInt8))))] [] (Q3 (show Uc V P 118 [.cv (.str ([97,110,100,32,97,119,97,105,116,32,99,97,115,101,32,99,97,116,99,104,32,99,104,101,99,107,32,101,108,115,101,32,102,97,108,115,101,32,102,117,110,99,32,103,111,32,105,102,32,108,101,116,32,110,111,116,32,110,117,108,108,32,111,110,32,111,114,32,113,117,101,114,121,32,114,101,116,117,114,110,32,115,97,103,97,32,115,101,108,101,99,116,32,115,105,103,110,97,108,32,116,104,114,111,119,32,116,114,117,101,32,116,114,121,32,117,110,100,111,32,117,112,100,97,116,101,32,118,97,114,32,119,104,105,108,101]:List UInt8))] Tag.C8 (Lib.fields ([97,110,100,32,97,119,97,105,116,32,99,97,115,101,32,99,97,116,99,104,32,99,104,101,99,107,32,101,108,115,101,32,102,97,108,115,101,32,102,117,110,99,32,103,111,32,105,102,32,108,101,116,32,110,111,116,32,110,117,108,108,32,111,110,32,111,114,32,113,117,101,114,121,32,114,101,116,117,114,110,32,115,97,103,97,32,115,101,108,101,99,116,32,115,105,103,110,97,108,32,116,104,114,111,119,32,116,114,117,101,32,116,114,121,32,117,110,100,111,32,117,112,100,97,116,101,32,118,97,114,32,119,104,105,108,101]:List UInt8)) from Ja.okF ([97,110,100,32,97,119,97,105,116,32,99,97,115,101,32,99,97,116,99,104,32,99,104,101,99,107,32,101,108,115,101,32,102,97,108,115,101,32,102,117,110,99,32,103,111,32,105,102,32,108,101,116,32,110,111,116,32,110,117,108,108,32,111,110,32,111,114,32,113,117,101,114,121,32,114,101,116,117,114,110,32,115,97,103,97,32,115,101,108,101,99,116,32,115,105,103,110,97,108,32,116,104,114,111,119,32,116,114,117,101,32,116,114,121,32,117,110,100,111,32,117,112,100,97,116,101,32,118,97,114,32,119,104,105,108,101]:List UInt8) g1.1 g1.2)) ?_
 refine Qv ?_
 obtain ⟨a1,h1,h⟩:=bind_some h
 refine rg L 205 [] [(2,.B a1)] [] (R6 (Et.ok h1)) ?_
 refine Qx ?_
 cases h
 exact Rd
theorem E0.ok {K:Nat} {p0:List UInt8} {r:Bool} (h:E0 K p0=some r):Rb V P 91 [.cv (.str p0)] (.B r):=Q5.pcall (eo (fn:=Tryz.f91) (n:=8) (m:=100) fun Γ=>E0.body h) (by kernel_rfl)
def Eh (K:Nat) (p0:A0):Option (Al×Int×A0):=(Option.bind (Di K p0) (fun (a1_0,a1_1)=>(if (a1_0.length:Int) > 64 then some ((⟨0,0,[],0⟩:Al),8,a1_1) else (Option.bind (E0 K a1_0) (fun a2=>(if a2=true then some ((⟨2,0,a1_0,0⟩:Al),0,a1_1) else some ((⟨1,0,a1_0,0⟩:Al),0,a1_1)))))))
theorem Eh.body {Γ:Rm} {K:Nat} {p0:A0} {r:Al×Int×A0} (h:Eh K p0=some r):Ri V P 17 100 Γ (Tryz.f99.body.getD .skip) (Q7 P V Tryz.f99 (.tup [.agg [.I r.1.Kind,.I r.1.At,.str r.1.Text,.I r.1.Int],.I r.2.1]) [(0,.raw [.str r.2.2.src,.I r.2.2.at_])]) ⟨Q6 0 [.P 0],[(0,.raw (A9 p0))]⟩:=by
 unfold Eh at h
 refine Q4 L 200 <| Qv ?_
 obtain ⟨⟨a1_0,a1_1⟩,h1,h⟩:=bind_some h
 dsimp only at h
 refine rg L 203 [] [] [(1,(Rc (.cv (.str a1_0)) [(0,.raw (A9 a1_1))]))] (Q3 (Di.okE h1)) ?_
 refine Qv <| Q4 L 207 ?_
 rcases Qw h with ⟨c1,h⟩ |⟨c1,h⟩
 ·refine tT c1 <| Q4 L 211 <| Qy (Qu.trans (Qu.kk [2,3] [0,200]) (Qu.rr [(0,0),(200,100)])) ?_
  refine Qx ?_
  cases h
  exact Rd
 refine fF c1 <| Q0 <| Qv <| Qv ?_
 obtain ⟨a2,h2,h⟩:=bind_some h
 refine rg L 215 [] [(1,.B a2)] [] (R6 (E0.ok h2)) ?_
 rcases Qw h with ⟨c2,h⟩ |⟨c2,h⟩
 ·refine tt c2 <| Q4 L 218 <| Qy (Qu.trans (Qu.kk [2,3] [0,200]) (Qu.rr [(0,0),(200,100)])) ?_
  refine Qx ?_
  cases h
  exact Rd
 refine fN c2 <| Q0 <| Q4 L 223 <| Qy (Qu.trans (Qu.kk [2,3] [0,200]) (Qu.rr [(0,0),(200,100)])) ?_
 refine Qx ?_
 cases h
 exact Rd
theorem Eh.okE {K:Nat} {p0:A0} {r:Al×Int×A0} (h:Eh K p0=some r):Q5 V P 99 [.P 0] [(0,.raw (A9 p0))] [0] (.tup [.agg [.I r.1.Kind,.I r.1.At,.str r.1.Text,.I r.1.Int],.I r.2.1]) [(0,.raw [.str r.2.2.src,.I r.2.2.at_])] :=
 eo (fn:=Tryz.f99) (n:=17) (m:=100) fun Γ=>Eh.body h
def Df.l7 (K:Nat) (p0:A0):Nat→Int→Option Int
 | 0,_=>none
 | k+1,xh0_1_7h=>(Option.bind (Ch K (⟨p0.src,xh0_1_7h⟩:A0) 0) (fun a1=>(Option.bind (E6 K a1) (fun a2=>(if a2=true then Df.l7 K p0 k (IntKind.i64.wrap (xh0_1_7h+1)) else some xh0_1_7h)))))
def Df (K:Nat) (p0:A0):Option ((List UInt8)×A0):=(Option.bind (Df.l7 K p0 K p0.at_:Option Int) (fun xh0_1_7=>(if (0:Int)≤p0.at_∧p0.at_≤xh0_1_7∧xh0_1_7≤(p0.src.length:Int) then some ((Vj p0.src p0.at_ xh0_1_7),(⟨p0.src,xh0_1_7⟩:A0)) else none)))
theorem Df.body {Γ:Rm} {K:Nat} {p0:A0} {r:(List UInt8)×A0} (h:Df K p0=some r):Ri V P 31 100 Γ (Tryz.f70.body.getD .skip) (Q7 P V Tryz.f70 (.cv (.str r.1)) [(0,.raw [.str r.2.src,.I r.2.at_])]) ⟨Q6 0 [.P 0,.cv (.fn (.func 100) [] [])],[(0,.raw (A9 p0))]⟩:=by
 unfold Df at h
 refine Q4 L 200 <| Q4 L 202 <| Qv <| Q2 <| kp (S':=⟨[(0,.P 0),(1,.cv (.fn (.func 100) [] [])),(5,.I p0.at_)],[(0,.raw (A9 p0))]⟩) ?_
 obtain ⟨o1,hp1,h⟩:=bind_some h
 refine Ra (Q':=fun e S=>(e=.exit 0∧∃ xh0_1_7:Int,S=⟨[(0,.P 0),(5,.I p0.at_)],[(0,.raw [.str p0.src,.I xh0_1_7])]⟩∧xh0_1_7=o1)) (Rh (fun k S=>∃ xh0_1_7h:Int,S=⟨[(0,.P 0),(1,.cv (.fn (.func 100) [] [])),(5,.I p0.at_)],[(0,.raw [.str p0.src,.I xh0_1_7h])]⟩∧Df.l7 K p0 k xh0_1_7h=some o1) ?_ ⟨_,rfl,hp1⟩) ?_
 ·clear h hp1
  intro k S hS
  obtain ⟨xh0_1_7h,rfl,h⟩:=hS
  cases k with
  | zero=>cases h
  | succ k =>
  unfold Df.l7 at h
  refine Qv <| Qv ?_
  obtain ⟨a1,h1,h⟩:=bind_some h
  obtain ⟨a2,h2,h⟩:=bind_some h
  refine rg L 208 [] [(2,.cv (.lit (.int .i32 a1))),(3,.B a2)] [] (Qz (Ch.ok h1) (Qz trivial (Qz (E6.ok h2) (Q3 trivial)))) ?_
  rcases Qw h with ⟨c1,h⟩ |⟨c1,h⟩
  ·refine tt c1 <| Q0 <| Q2 <| Tv L 213 [] [] [] (S':=⟨[(0,.P 0),(1,.cv (.fn (.func 100) [] [])),(5,.I p0.at_)],[(0,.raw [.str p0.src,.I (IntKind.i64.wrap (xh0_1_7h+1))])]⟩) ?_
   exact ⟨k,Nat.lt_succ_self k,_,rfl,h⟩
  refine fN c1 <| ex (S':=⟨[(0,.P 0),(5,.I p0.at_)],[(0,.raw [.str p0.src,.I xh0_1_7h])]⟩) ?_
  cases h
  exact ⟨rfl,_,rfl,rfl⟩
 ·rintro e S ⟨rfl,xh0_1_7,rfl,rfl⟩
  refine ⟨_,Qu.refl,?_⟩
  refine Qv ?_
  obtain ⟨g1,h⟩:=Q1 h
  refine rd L mixed 222 [] [] [] [] 11 (Qz g1.1 (Qz g1.2.1 (Q3 g1.2.2))) ?_
  refine Qx ?_
  cases h
  exact Rd
theorem Df.okE {K:Nat} {p0:A0} {r:(List UInt8)×A0} (h:Df K p0=some r):Q5 V P 70 [.P 0,.cv (.fn (.func 100) [] [])] [(0,.raw (A9 p0))] [0] (.cv (.str r.1)) [(0,.raw [.str r.2.src,.I r.2.at_])] :=
 eo (fn:=Tryz.f70) (n:=31) (m:=100) fun Γ=>Df.body h
def Ec (K:Nat) (p0:A0):Option (Al×Int×A0):=(Option.bind (Df K p0) (fun (a1_0,a1_1)=>(obind (((if (a1_0.length:Int) > 1 then (if (0:Int) <(a1_0.length:Int) then (if ((a1_0.getD (Int.toNat 0) 0).toNat:Int)=48 then some (Q9.done ((⟨0,0,[],0⟩:Al),3,a1_1)) else (Option.bind (Ch K a1_1 0) (fun a2=>(Option.bind (Eu K a2) (fun a3=>(if a3=true then some (Q9.done ((⟨0,0,[],0⟩:Al),3,a1_1)) else some (Q9.go ()))))))) else none) else (Option.bind (Ch K a1_1 0) (fun a4=>(Option.bind (Eu K a4) (fun a5=>(if a5=true then some (Q9.done ((⟨0,0,[],0⟩:Al),3,a1_1)) else some (Q9.go ())))))))):Option (Q9 (Al×Int×A0) Unit)) (fun r=>r) (fun _=>(if a1_0.length≤281474976710656 then (if (Ii a1_0)=true then some ((⟨3,0,[],(Hw a1_0)⟩:Al),0,a1_1) else some ((⟨0,0,[],0⟩:Al),14,a1_1)) else none)))))
theorem Ec.body {Γ:Rm} {K:Nat} {p0:A0} {r:Al×Int×A0} (h:Ec K p0=some r):Ri V P 33 100 Γ (Tryz.f101.body.getD .skip) (Q7 P V Tryz.f101 (.tup [.agg [.I r.1.Kind,.I r.1.At,.str r.1.Text,.I r.1.Int],.I r.2.1]) [(0,.raw [.str r.2.2.src,.I r.2.2.at_])]) ⟨Q6 0 [.P 0],[(0,.raw (A9 p0))]⟩:=by
 unfold Ec at h
 refine Q4 L 200 <| Qv ?_
 obtain ⟨⟨a1_0,a1_1⟩,h1,h⟩:=bind_some h
 dsimp only at h
 refine rg L 203 [] [] [(1,(Rc (.cv (.str a1_0)) [(0,.raw (A9 a1_1))]))] (Q3 (Df.okE h1)) ?_
 obtain ⟨o1,hp1,h⟩:=Rf h
 refine Qv (Rk (Q':=fun e S=>(e=.normal∧S=⟨[(2,.P 21000),(4,.cv (.str a1_0))],[(0,.raw (A9 a1_1)),(21000,.raw [.I 0,.I 0,.str [],.I 0])]⟩∧Q9.go ()=o1)∨(e=.ret∧∃ a,Q9.done a=o1∧Q7 P V Tryz.f101 (.tup [.agg [.I a.1.Kind,.I a.1.At,.str a.1.Text,.I a.1.Int],.I a.2.1]) [(0,.raw [.str a.2.2.src,.I a.2.2.at_])] .ret S)) ?_ ?_)
 ·clear h
  replace h:=hp1
  refine Qv ?_
  rcases Qw h with ⟨c1,h⟩ |⟨c1,h⟩
  ·obtain ⟨g1,h⟩:=Q1 h
   rcases Qw h with ⟨c2,h⟩ |⟨c2,h⟩
   ·refine rg L 207 [(3,true),(8,true)] [] [] (Qz (decide_eq_true c1) (Qz (show (0:Int)≤0 from by decide) (Qz g1 (Q3 (decide_eq_true c2))))) ?_
    refine tt (b:=true) (rfl) ?_
    refine Q4 L 221 <| Qy (Qu.trans (Qu.kk [2,3] [0,200]) (Qu.rr [(0,0),(200,100)])) ?_
    refine Qx ?_
    cases h
    exact .inr ⟨rfl,_,rfl,Rd⟩
   obtain ⟨a2,h2,h⟩:=bind_some h
   obtain ⟨a3,h3,h⟩:=bind_some h
   refine rg L 207 [(3,true),(8,false)] [(10,.cv (.lit (.int .i32 a2))),(11,.B a3)] [] (Qz (decide_eq_true c1) (Qz (show (0:Int)≤0 from by decide) (Qz g1 (Qz (decide_eq_false c2) (Qz (Ch.ok h2) (Qz trivial (Qz (Eu.ok h3) (Q3 trivial)))))))) ?_
   rcases Qw h with ⟨c3,h⟩ |⟨c3,h⟩
   ·refine tt c3 <| Q4 L 221 <| Qy (Qu.trans (Qu.kk [2,3] [0,200]) (Qu.rr [(0,0),(200,100)])) ?_
    refine Qx ?_
    cases h
    exact .inr ⟨rfl,_,rfl,Rd⟩
   refine fN c3 <| Qy (Qu.trans (Qu.kk [2,4] [0,200]) (Qu.rr [(0,0),(200,21000)])) ?_
   refine sk (S':=⟨[(2,.P 21000),(4,.cv (.str a1_0))],[(0,.raw (A9 a1_1)),(21000,.raw [.I 0,.I 0,.str [],.I 0])]⟩) ?_
   cases h
   exact .inl ⟨rfl,rfl,rfl⟩
  obtain ⟨a4,h4,h⟩:=bind_some h
  obtain ⟨a5,h5,h⟩:=bind_some h
  refine rg L 207 [(3,false)] [(10,.cv (.lit (.int .i32 a4))),(11,.B a5)] [] (Qz (decide_eq_false c1) (Qz (Ch.ok h4) (Qz trivial (Qz (Eu.ok h5) (Q3 trivial))))) ?_
  rcases Qw h with ⟨c4,h⟩ |⟨c4,h⟩
  ·refine tt c4 <| Q4 L 221 <| Qy (Qu.trans (Qu.kk [2,3] [0,200]) (Qu.rr [(0,0),(200,100)])) ?_
   refine Qx ?_
   cases h
   exact .inr ⟨rfl,_,rfl,Rd⟩
  refine fN c4 <| Qy (Qu.trans (Qu.kk [2,4] [0,200]) (Qu.rr [(0,0),(200,21000)])) ?_
  refine sk (S':=⟨[(2,.P 21000),(4,.cv (.str a1_0))],[(0,.raw (A9 a1_1)),(21000,.raw [.I 0,.I 0,.str [],.I 0])]⟩) ?_
  cases h
  exact .inl ⟨rfl,rfl,rfl⟩
 ·rintro e S (⟨rfl,rfl,rfl⟩ |⟨rfl,a,rfl,hr⟩)
  ·rcases h with ⟨_,e1,h⟩ |⟨_,e1,h⟩
   ·cases e1
   ·have e2:=Q9.go.inj e1
    subst e2
    refine Qv ?_
    obtain ⟨g2,h⟩:=Q1 h
    rcases Qw h with ⟨c5,h⟩ |⟨c5,h⟩
    ·refine rg L 225 [] [(1,.tup [.I (Hw a1_0),.cv (.lit .nilIface)])] [] (R6 (show Rb V P 126 [.cv (.str a1_0),.I 10,.I 64] (.tup [.I (Hw a1_0),.cv (.lit .nilIface)]) from Gh.ok a1_0 g2 (c5))) ?_
     refine Qv <| Q4 L 233 <| ff (b:=false) (rfl) ?_
     refine Q0 <| Q4 L 240 <| Qy (Qu.trans (Qu.kk [2,3] [0,21000]) (Qu.rr [(0,0),(21000,100)])) ?_
     refine Qx ?_
     cases h
     exact Rd
    refine rg L 225 [] [(1,.tup [.cv (.any),.cv (.ifc 122 false [.any])])] [] (R6 (show Rb V P 126 [.cv (.str a1_0),.I 10,.I 64] (.tup [.cv (.any),.cv (.ifc 122 false [.any])]) from Gh.no a1_0 g2 (eq_false_of_ne_true c5))) ?_
    refine Qv <| Q4 L 233 <| tt (b:=true) (rfl) ?_
    refine Q4 L 236 <| Qy (Qu.trans (Qu.kk [2,3] [0,21000]) (Qu.rr [(0,0),(21000,100)])) ?_
    refine Qx ?_
    cases h
    exact Rd
  ·rcases h with ⟨_,e1,h⟩ |⟨_,e1,h⟩
   ·have e2:=Q9.done.inj e1
    subst e2
    subst h
    exact hr
   ·cases e1
theorem Ec.okE {K:Nat} {p0:A0} {r:Al×Int×A0} (h:Ec K p0=some r):Q5 V P 101 [.P 0] [(0,.raw (A9 p0))] [0] (.tup [.agg [.I r.1.Kind,.I r.1.At,.str r.1.Text,.I r.1.Int],.I r.2.1]) [(0,.raw [.str r.2.2.src,.I r.2.2.at_])] :=
 eo (fn:=Tryz.f101) (n:=33) (m:=100) fun Γ=>Ec.body h
def Eb (K:Nat) (p0:A0):Option (Int×Int×A0):=(Option.bind (Ch K p0 0) (fun a1=>(if a1 < 0 then some (0,4,p0) else (if (Lib.indexByte ([48,49,50,51,52,53,54,55,56,57,97,98,99,100,101,102]:List UInt8) (Int.toNat (IntKind.u8.wrap a1)).toUInt8) < 0 then some (0,3,(⟨p0.src,(IntKind.i64.wrap (p0.at_+1))⟩:A0)) else some ((Lib.indexByte ([48,49,50,51,52,53,54,55,56,57,97,98,99,100,101,102]:List UInt8) (Int.toNat (IntKind.u8.wrap a1)).toUInt8),0,(⟨p0.src,(IntKind.i64.wrap (p0.at_+1))⟩:A0))))))
theorem Eb.body {Γ:Rm} {K:Nat} {p0:A0} {r:Int×Int×A0} (h:Eb K p0=some r):Ri V P 23 100 Γ (Tryz.f140.body.getD .skip) (Q7 P V Tryz.f140 (.tup [.I r.1,.I r.2.1]) [(0,.raw [.str r.2.2.src,.I r.2.2.at_])]) ⟨Q6 0 [.P 0],[(0,.raw (A9 p0))]⟩:=by
 unfold Eb at h
 refine Q4 L 200 <| Qv ?_
 obtain ⟨a1,h1,h⟩:=bind_some h
 refine rg L 203 [] [(1,.cv (.lit (.int .i32 a1)))] [] (R6 (Ch.ok h1)) ?_
 refine Qv <| Q4 L 207 ?_
 rcases Qw h with ⟨c1,h⟩ |⟨c1,h⟩
 ·refine tT c1 <| Q4 L 210 <| Qx ?_
  cases h
  exact Rd
 refine fF c1 <| Q0 <| Q4 L 213 <| sg L 222 [] [(2,.I (Lib.indexByte ([48,49,50,51,52,53,54,55,56,57,97,98,99,100,101,102]:List UInt8) (Int.toNat (IntKind.u8.wrap a1)).toUInt8))] [] (R6 (show Rb V P 152 [.cv (.str ([48,49,50,51,52,53,54,55,56,57,97,98,99,100,101,102]:List UInt8)),.cv (.lit (.int .u8 (IntKind.u8.wrap a1)))] (.I (Lib.indexByte ([48,49,50,51,52,53,54,55,56,57,97,98,99,100,101,102]:List UInt8) (Int.toNat (IntKind.u8.wrap a1)).toUInt8)) from strings_IndexByte.ok ([48,49,50,51,52,53,54,55,56,57,97,98,99,100,101,102]:List UInt8) (IntKind.u8.wrap a1))) ?_
 refine Qv <| Q4 L 227 ?_
 rcases Qw h with ⟨c2,h⟩ |⟨c2,h⟩
 ·refine tT c2 <| Q4 L 230 <| Qx ?_
  cases h
  exact Rd
 refine fF c2 <| Q0 <| Q4 L 233 <| Qx ?_
 cases h
 exact Rd
theorem Eb.okE {K:Nat} {p0:A0} {r:Int×Int×A0} (h:Eb K p0=some r):Q5 V P 140 [.P 0] [(0,.raw (A9 p0))] [0] (.tup [.I r.1,.I r.2.1]) [(0,.raw [.str r.2.2.src,.I r.2.2.at_])] :=
 eo (fn:=Tryz.f140) (n:=23) (m:=100) fun Γ=>Eb.body h
def Ee (K:Nat) (p0:A0):Option (Int×Int×A0):=(Option.bind (Ch K p0 0) (fun a1=>(if a1=(-1) then some (0,4,(⟨p0.src,(IntKind.i64.wrap (p0.at_+1))⟩:A0)) else (Option.bind ((if a1=34 then some (decide (a1=34)) else some (decide (a1=92))):Option Bool) (fun xt20_17=>(if xt20_17=true then some ((IntKind.u8.wrap a1),0,(⟨p0.src,(IntKind.i64.wrap (p0.at_+1))⟩:A0)) else (if a1=110 then some (10,0,(⟨p0.src,(IntKind.i64.wrap (p0.at_+1))⟩:A0)) else (if a1=116 then some (9,0,(⟨p0.src,(IntKind.i64.wrap (p0.at_+1))⟩:A0)) else (if a1=120 then (Option.bind (Eb K (⟨p0.src,(IntKind.i64.wrap (p0.at_+1))⟩:A0)) (fun (a2_0,a2_1,a2_2)=>(if a2_1≠0 then some (0,a2_1,a2_2) else (Option.bind (Eb K a2_2) (fun (a3_0,a3_1,a3_2)=>some (((IntKind.u8.wrap (IntKind.i64.wrap ((IntKind.i64.wrap (16 * a2_0))+a3_0))),a3_1,a3_2))))))) else some (0,3,(⟨p0.src,(IntKind.i64.wrap (p0.at_+1))⟩:A0)))))))))))
theorem Ee.body {Γ:Rm} {K:Nat} {p0:A0} {r:Int×Int×A0} (h:Ee K p0=some r):Ri V P 50 100 Γ (Tryz.f127.body.getD .skip) (Q7 P V Tryz.f127 (.tup [.cv (.lit (.int .u8 r.1)),.I r.2.1]) [(0,.raw [.str r.2.2.src,.I r.2.2.at_])]) ⟨Q6 0 [.P 0],[(0,.raw (A9 p0))]⟩:=by
 unfold Ee at h
 refine Q4 L 200 <| Qv ?_
 obtain ⟨a1,h1,h⟩:=bind_some h
 refine rg L 203 [] [(1,.cv (.lit (.int .i32 a1)))] [] (R6 (Ch.ok h1)) ?_
 refine Q4 L 207 <| Qv <| Q4 L 216 <| Q2 <| Q4 L 218 ?_
 rcases Qw h with ⟨c1,h⟩ |⟨c1,h⟩
 ·refine tT c1 <| Q4 L 221 <| Qx ?_
  cases h
  exact Rd
 refine fF c1 ?_
 obtain ⟨o1,hp1,h⟩:=bind_some h
 refine Qv (Rk (Q':=fun e S=>(e=.normal∧∃ xt20_17:Bool,S=⟨[(0,.P 0),(4,.cv (.lit (.int .i32 a1))),(17,.cv (.lit (.int .i32 a1))),(20,.B xt20_17)],[(0,.raw [.str p0.src,.I (IntKind.i64.wrap (p0.at_+1))])]⟩∧xt20_17=o1)) ?_ ?_)
 ·clear h
  replace h:=hp1
  refine Q4 L 224 ?_
  rcases Qw h with ⟨c2,h⟩ |⟨c2,h⟩
  ·refine tT c2 <| sk (S':=⟨[(0,.P 0),(4,.cv (.lit (.int .i32 a1))),(17,.cv (.lit (.int .i32 a1))),(20,.B (decide (a1=34)))],[(0,.raw [.str p0.src,.I (IntKind.i64.wrap (p0.at_+1))])]⟩) ?_
   cases h
   exact ⟨rfl,_,rfl,rfl⟩
  refine fF c2 <| Tv L 227 [] [] [] (S':=⟨[(0,.P 0),(4,.cv (.lit (.int .i32 a1))),(17,.cv (.lit (.int .i32 a1))),(20,.B (decide (a1=92)))],[(0,.raw [.str p0.src,.I (IntKind.i64.wrap (p0.at_+1))])]⟩) ?_
  cases h
  exact ⟨rfl,_,rfl,rfl⟩
 ·rintro e S ⟨rfl,xt20_17,rfl,rfl⟩
  rcases Qw h with ⟨c3,h⟩ |⟨c3,h⟩
  ·refine tt c3 <| Q4 L 230 <| Qx ?_
   cases h
   exact Rd
  refine fN c3 <| Q4 L 235 ?_
  rcases Qw h with ⟨c4,h⟩ |⟨c4,h⟩
  ·refine tT c4 <| Q4 L 238 <| Qx ?_
   cases h
   exact Rd
  refine fF c4 <| Q4 L 241 ?_
  rcases Qw h with ⟨c5,h⟩ |⟨c5,h⟩
  ·refine tT c5 <| Q4 L 244 <| Qx ?_
   cases h
   exact Rd
  refine fF c5 <| Q4 L 247 ?_
  rcases Qw h with ⟨c6,h⟩ |⟨c6,h⟩
  ·refine tT c6 <| Qv ?_
   obtain ⟨⟨a2_0,a2_1,a2_2⟩,h2,h⟩:=bind_some h
   dsimp only at h
   refine rg L 250 [] [] [(1,(Rc (.tup [.I a2_0,.I a2_1]) [(0,.raw (A9 a2_2))]))] (Q3 (Eb.okE h2)) ?_
   refine Qv <| Q4 L 258 ?_
   rcases Qw h with ⟨c7,h⟩ |⟨c7,h⟩
   ·refine tT c7 <| Q4 L 261 <| Qx ?_
    cases h
    exact Rd
   refine fF c7 <| Q0 <| Qv ?_
   obtain ⟨⟨a3_0,a3_1,a3_2⟩,h3,h⟩:=bind_some h
   dsimp only at h
   refine rg L 265 [] [] [(1,(Rc (.tup [.I a3_0,.I a3_1]) [(0,.raw (A9 a3_2))]))] (Q3 (Eb.okE h3)) ?_
   refine Q4 L 273 <| Qx ?_
   cases h
   exact Rd
  refine fF c6 <| Q0 <| Q4 L 282 <| Qx ?_
  cases h
  exact Rd
theorem Ee.okE {K:Nat} {p0:A0} {r:Int×Int×A0} (h:Ee K p0=some r):Q5 V P 127 [.P 0] [(0,.raw (A9 p0))] [0] (.tup [.cv (.lit (.int .u8 r.1)),.I r.2.1]) [(0,.raw [.str r.2.2.src,.I r.2.2.at_])] :=
 eo (fn:=Tryz.f127) (n:=50) (m:=100) fun Γ=>Ee.body h
def Db.l8 (K:Nat):Nat→(List UInt8)→Int→(List UInt8)→Option (Q9 (Al×Int×A0) Unit)
 | 0,_,_,_=>none
 | k+1,xh0_0_8h,xh0_1_8h,x21701=>(Option.bind (Ch K (⟨xh0_0_8h,xh0_1_8h⟩:A0) 0) (fun a1=>(if a1 < 0 then some (Q9.done ((⟨0,0,[],0⟩:Al),4,(⟨xh0_0_8h,(IntKind.i64.wrap (xh0_1_8h+1))⟩:A0))) else (if a1=34 then (if (x21701.length:Int) > 4096 then some (Q9.done ((⟨0,0,[],0⟩:Al),6,(⟨xh0_0_8h,(IntKind.i64.wrap (xh0_1_8h+1))⟩:A0))) else some (Q9.done ((⟨4,0,(x21701.map (fun b=>b)),0⟩:Al),0,(⟨xh0_0_8h,(IntKind.i64.wrap (xh0_1_8h+1))⟩:A0)))) else (if a1=92 then (Option.bind (Ee K (⟨xh0_0_8h,(IntKind.i64.wrap (xh0_1_8h+1))⟩:A0)) (fun (a2_0,a2_1,a2_2)=>(if a2_1≠0 then some (Q9.done ((⟨0,0,[],0⟩:Al),a2_1,a2_2)) else (if 0≤a2_0∧a2_0 < 256 then (if (x21701.length+([(UInt8.ofNat (Int.toNat a2_0))]:List UInt8).length) * 1≤140737488355328 then Db.l8 K k a2_2.src a2_2.at_ (x21701++([(UInt8.ofNat (Int.toNat a2_0))]:List UInt8)) else none) else none)))) else (Option.bind ((if a1≥32 then some (decide (a1≤126)) else some false):Option Bool) (fun xt55_49=>(if xt55_49=true then (if 0≤(IntKind.u8.wrap a1)∧(IntKind.u8.wrap a1) < 256 then (if (x21701.length+([(UInt8.ofNat (Int.toNat (IntKind.u8.wrap a1)))]:List UInt8).length) * 1≤140737488355328 then Db.l8 K k xh0_0_8h (IntKind.i64.wrap (xh0_1_8h+1)) (x21701++([(UInt8.ofNat (Int.toNat (IntKind.u8.wrap a1)))]:List UInt8)) else none) else none) else some (Q9.done ((⟨0,0,[],0⟩:Al),3,(⟨xh0_0_8h,(IntKind.i64.wrap (xh0_1_8h+1))⟩:A0)))))))))))
def Db (K:Nat) (p0:A0):Option (Al×Int×A0):=(obind (Db.l8 K K p0.src (IntKind.i64.wrap (p0.at_+1)) ([]:List UInt8):Option (Q9 (Al×Int×A0) Unit)) (fun r=>r) (fun _=>none))
theorem Db.body {Γ:Rm} {K:Nat} {p0:A0} {r:Al×Int×A0} (h:Db K p0=some r):Ri V P 67 100 Γ (Tryz.f102.body.getD .skip) (Q7 P V Tryz.f102 (.tup [.agg [.I r.1.Kind,.I r.1.At,.str r.1.Text,.I r.1.Int],.I r.2.1]) [(0,.raw [.str r.2.2.src,.I r.2.2.at_])]) ⟨Q6 0 [.P 0],[(0,.raw (A9 p0))]⟩:=by
 unfold Db at h
 refine Q4 L 200 <| Q4 L 203 <| Q4 L 212 <| Q2 <| Qy (Qu.trans (Qu.kk [0,2,4] [0,200]) (Qu.trans (Qu.no 4 9500 Tag.Ds) (Qu.trans (Qu.kk [0,2,4] [0,200,9500]) (Qu.rr [(0,0),(200,21700),(9500,21701)])))) ?_
 refine kp (S':=⟨[(0,.P 0),(2,.P 21700),(4,.cv (.own .Ds 21701))],[(0,.raw [.str p0.src,.I (IntKind.i64.wrap (p0.at_+1))]),(21700,.raw [.I 0,.I 0,.str [],.I 0]),(21701,.lst .Ds ([]:List UInt8))]⟩) ?_
 obtain ⟨o2,hp2,h⟩:=Rf h
 refine Ra (Q':=fun e S=>False∨(e=.ret∧∃ a,Q9.done a=o2∧Q7 P V Tryz.f102 (.tup [.agg [.I a.1.Kind,.I a.1.At,.str a.1.Text,.I a.1.Int],.I a.2.1]) [(0,.raw [.str a.2.2.src,.I a.2.2.at_])] .ret S)) (Rh (fun k S=>∃ xh0_0_8h:List UInt8,∃ xh0_1_8h:Int,∃ x21701:List UInt8,S=⟨[(0,.P 0),(2,.P 21700),(4,.cv (.own .Ds 21701))],[(0,.raw [.str xh0_0_8h,.I xh0_1_8h]),(21700,.raw [.I 0,.I 0,.str [],.I 0]),(21701,.lst .Ds x21701)]⟩∧Db.l8 K k xh0_0_8h xh0_1_8h x21701=some o2) ?_ ⟨_,_,_,rfl,hp2⟩) ?_
 ·clear h hp2
  intro k S hS
  obtain ⟨xh0_0_8h,xh0_1_8h,x21701,rfl,h⟩:=hS
  cases k with
  | zero=>cases h
  | succ k =>
  unfold Db.l8 at h
  refine Q2 <| Qv ?_
  obtain ⟨a1,h1,h⟩:=bind_some h
  refine rg L 214 [] [(1,.cv (.lit (.int .i32 a1)))] [] (R6 (Ch.ok h1)) ?_
  refine Q4 L 218 <| Q2 <| Q4 L 227 ?_
  rcases Qw h with ⟨c1,h⟩ |⟨c1,h⟩
  ·refine tT c1 <| Q4 L 231 <| Qy (Qu.trans (Qu.kk [2,3] [0,21700]) (Qu.rr [(0,0),(21700,100)])) ?_
   refine Qx ?_
   cases h
   exact .inr ⟨rfl,_,rfl,Rd⟩
  refine fF c1 <| Q4 L 235 ?_
  rcases Qw h with ⟨c2,h⟩ |⟨c2,h⟩
  ·refine tT c2 <| Qv <| Q4 L 239 ?_
   rcases Qw h with ⟨c3,h⟩ |⟨c3,h⟩
   ·refine tT c3 <| Q4 L 243 <| Qy (Qu.trans (Qu.kk [2,3] [0,21700]) (Qu.rr [(0,0),(21700,100)])) ?_
    refine Qx ?_
    cases h
    exact .inr ⟨rfl,_,rfl,Rd⟩
   refine fF c3 <| Q0 <| Q4 L 247 <| Qy (Qu.trans (Qu.kk [2,3] [0,21700]) (Qu.rr [(0,0),(21700,100)])) ?_
   refine Qx ?_
   cases h
   exact .inr ⟨rfl,_,rfl,Rd⟩
  refine fF c2 <| Q4 L 253 ?_
  rcases Qw h with ⟨c4,h⟩ |⟨c4,h⟩
  ·refine tT c4 <| Qv ?_
   obtain ⟨⟨a2_0,a2_1,a2_2⟩,h2,h⟩:=bind_some h
   dsimp only at h
   refine rg L 257 [] [] [(1,(Rc (.tup [.cv (.lit (.int .u8 a2_0)),.I a2_1]) [(0,.raw (A9 a2_2))]))] (Q3 (Ee.okE h2)) ?_
   refine Qv <| Q4 L 265 ?_
   rcases Qw h with ⟨c5,h⟩ |⟨c5,h⟩
   ·refine tT c5 <| Q4 L 268 <| Qy (Qu.trans (Qu.kk [2,3] [0,21700]) (Qu.rr [(0,0),(21700,100)])) ?_
    refine Qx ?_
    cases h
    exact .inr ⟨rfl,_,rfl,Rd⟩
   refine fF c5 <| Q0 ?_
   obtain ⟨g1,h⟩:=Q1 h
   obtain ⟨g2,h⟩:=Q1 h
   refine ar L 273 [] [] [] (cs:=[0≤a2_0,a2_0 < 256,(x21701.length+([(UInt8.ofNat (Int.toNat a2_0))]:List UInt8).length) * 1≤140737488355328,True]) (S':=⟨[(0,.P 0),(2,.P 21700),(4,.cv (.own .Ds 21701))],[(0,.raw (A9 a2_2)),(21700,.raw [.I 0,.I 0,.str [],.I 0]),(21701,.lst .Ds (x21701++([(UInt8.ofNat (Int.toNat a2_0))]:List UInt8)))]⟩) (And.intro g1.1 (And.intro g1.2 (And.intro g2 trivial))) ?_
   exact ⟨k,Nat.lt_succ_self k,_,_,_,rfl,h⟩
  refine fF c4 ?_
  obtain ⟨o1,hp1,h⟩:=bind_some h
  refine Qv (Rk (Q':=fun e S=>(e=.normal∧∃ xt55_49:Bool,S=⟨[(0,.P 0),(2,.P 29800),(4,.cv (.own .Ds 29801)),(5,.cv (.lit (.int .i32 a1))),(55,.B xt55_49)],[(0,.raw [.str xh0_0_8h,.I (IntKind.i64.wrap (xh0_1_8h+1))]),(29800,.raw [.I 0,.I 0,.str [],.I 0]),(29801,.lst .Ds x21701)]⟩∧xt55_49=o1)) ?_ ?_)
  ·clear h
   replace h:=hp1
   rcases Qw h with ⟨c6,h⟩ |⟨c6,h⟩
   ·refine Q8 (rg L 279 [(2,true)] [] [] (Q3 (decide_eq_true c6)) ⟨rfl,rfl⟩) (Qu.trans (Qu.kk [0,2,4,5,55] [0,21700,21701]) (Qu.trans (Qu.rr [(0,0),(21700,29800),(21701,29801)]) (Qu.kp (S':=⟨[(0,.P 0),(2,.P 29800),(4,.cv (.own .Ds 29801)),(5,.cv (.lit (.int .i32 a1))),(55,.B (decide (a1≤126)))],[(0,.raw [.str xh0_0_8h,.I (IntKind.i64.wrap (xh0_1_8h+1))]),(29800,.raw [.I 0,.I 0,.str [],.I 0]),(29801,.lst .Ds x21701)]⟩)))) ?_
    cases h
    exact ⟨rfl,_,rfl,rfl⟩
   refine Q8 (rg L 279 [(2,false)] [] [] (Q3 (decide_eq_false c6)) ⟨rfl,rfl⟩) (Qu.trans (Qu.kk [0,2,4,5,55] [0,21700,21701]) (Qu.trans (Qu.rr [(0,0),(21700,29800),(21701,29801)]) (Qu.kp (S':=⟨[(0,.P 0),(2,.P 29800),(4,.cv (.own .Ds 29801)),(5,.cv (.lit (.int .i32 a1))),(55,.B false)],[(0,.raw [.str xh0_0_8h,.I (IntKind.i64.wrap (xh0_1_8h+1))]),(29800,.raw [.I 0,.I 0,.str [],.I 0]),(29801,.lst .Ds x21701)]⟩)))) ?_
   cases h
   exact ⟨rfl,_,rfl,rfl⟩
  ·rintro e S ⟨rfl,xt55_49,rfl,rfl⟩
   rcases Qw h with ⟨c7,h⟩ |⟨c7,h⟩
   ·refine tt c7 ?_
    obtain ⟨g3,h⟩:=Q1 h
    obtain ⟨g4,h⟩:=Q1 h
    refine Q8 (rg L 287 [] [] [] (Qz g3.1 (Qz g3.2 (Qz g4 (Q3 trivial)))) ⟨rfl,rfl⟩) (Qu.trans (Qu.kk [0,2,4] [0,29800,29801]) (Qu.trans (Qu.rr [(0,0),(29800,21700),(29801,21701)]) (Qu.kp (S':=⟨[(0,.P 0),(2,.P 21700),(4,.cv (.own .Ds 21701))],[(0,.raw [.str xh0_0_8h,.I (IntKind.i64.wrap (xh0_1_8h+1))]),(21700,.raw [.I 0,.I 0,.str [],.I 0]),(21701,.lst .Ds (x21701++([(UInt8.ofNat (Int.toNat (IntKind.u8.wrap a1)))]:List UInt8)))]⟩)))) ?_
    exact ⟨k,Nat.lt_succ_self k,_,_,_,rfl,h⟩
   refine fN c7 <| Q4 L 294 <| Qy (Qu.trans (Qu.kk [2,3] [0,29800]) (Qu.rr [(0,0),(29800,100)])) ?_
   refine Qx ?_
   cases h
   exact .inr ⟨rfl,_,rfl,Rd⟩
 ·rintro e S (hf |⟨rfl,a,rfl,hr⟩)
  ·exact hf.elim
  ·rcases h with ⟨_,e1,h⟩ |⟨_,e1,h⟩
   ·have e2:=Q9.done.inj e1
    subst e2
    subst h
    exact ⟨_,Qu.refl,hr⟩
   ·cases e1
theorem Db.okE {K:Nat} {p0:A0} {r:Al×Int×A0} (h:Db K p0=some r):Q5 V P 102 [.P 0] [(0,.raw (A9 p0))] [0] (.tup [.agg [.I r.1.Kind,.I r.1.At,.str r.1.Text,.I r.1.Int],.I r.2.1]) [(0,.raw [.str r.2.2.src,.I r.2.2.at_])] :=
 eo (fn:=Tryz.f102) (n:=67) (m:=100) fun Γ=>Db.body h
def Ej (K:Nat) (p0:A0):Option (Al×Int×A0):=(Option.bind (((Option.bind (Ch K p0 0) (fun a1=>(Option.bind ((if a1=61 then some (decide (a1=61)) else (if a1=60 then some (decide (a1=60)) else (if a1=62 then some (decide (a1=62)) else some (decide (a1=33))))):Option Bool) (fun xt10_11=>(if xt10_11=true then (Option.bind (Ch K p0 1) (fun a2=>(if a2=61 then some 2 else (if a1≠33 then some 1 else some 0)))) else (if a1=40 then some 1 else (if a1=41 then some 1 else (if a1=123 then some 1 else (if a1=125 then some 1 else (if a1=91 then some 1 else (if a1=93 then some 1 else (if a1=44 then some 1 else (if a1=59 then some 1 else (if a1=46 then some 1 else (if a1=58 then some 1 else (if a1=43 then some 1 else (if a1=45 then some 1 else (if a1=42 then some 1 else (if a1=47 then some 1 else (if a1=37 then some 1 else some 0))))))))))))))))))))):Option Int) (fun xt4_5=>(if xt4_5=0 then some ((⟨0,0,[],0⟩:Al),3,p0) else (if (0:Int)≤p0.at_∧p0.at_≤(IntKind.i64.wrap (p0.at_+xt4_5))∧(IntKind.i64.wrap (p0.at_+xt4_5))≤(p0.src.length:Int) then some ((⟨5,0,(Vj p0.src p0.at_ (IntKind.i64.wrap (p0.at_+xt4_5))),0⟩:Al),0,(⟨p0.src,(IntKind.i64.wrap (p0.at_+xt4_5))⟩:A0)) else none))))
theorem Ej.body {Γ:Rm} {K:Nat} {p0:A0} {r:Al×Int×A0} (h:Ej K p0=some r):Ri V P 64 100 Γ (Tryz.f103.body.getD .skip) (Q7 P V Tryz.f103 (.tup [.agg [.I r.1.Kind,.I r.1.At,.str r.1.Text,.I r.1.Int],.I r.2.1]) [(0,.raw [.str r.2.2.src,.I r.2.2.at_])]) ⟨Q6 0 [.P 0],[(0,.raw (A9 p0))]⟩:=by
 unfold Ej at h
 refine Q4 L 200 <| Q4 L 203 ?_
 obtain ⟨o2,hp2,h⟩:=bind_some h
 refine Qv (Rk (Q':=fun e S=>(e=.normal∧∃ xt4_5:Int,S=⟨[(0,.P 0),(2,.P 21000),(4,.I xt4_5)],[(0,.raw (A9 p0)),(21000,.raw [.I 0,.I 0,.str [],.I 0])]⟩∧xt4_5=o2)) ?_ ?_)
 ·clear h
  replace h:=hp2
  refine Qv ?_
  obtain ⟨a1,h1,h⟩:=bind_some h
  refine rg L 205 [] [(1,.cv (.lit (.int .i32 a1)))] [] (R6 (Ch.ok h1)) ?_
  refine Q4 L 209 <| Q2 ?_
  obtain ⟨o1,hp1,h⟩:=bind_some h
  refine Qv (Rk (Q':=fun e S=>(e=.normal∧∃ xt10_11:Bool,S=⟨[(0,.P 0),(2,.P 22200),(4,.I 0),(5,.cv (.lit (.int .i32 a1))),(9,.cv (.lit (.int .i32 a1))),(10,.B xt10_11)],[(0,.raw (A9 p0)),(22200,.raw [.I 0,.I 0,.str [],.I 0])]⟩∧xt10_11=o1)) ?_ ?_)
  ·clear h
   replace h:=hp1
   refine Q4 L 211 ?_
   rcases Qw h with ⟨c1,h⟩ |⟨c1,h⟩
   ·refine tT c1 <| Qy (Qu.trans (Qu.kk [0,2,4,5,9,10] [0,200]) (Qu.rr [(0,0),(200,22200)])) ?_
    refine sk (S':=⟨[(0,.P 0),(2,.P 22200),(4,.I 0),(5,.cv (.lit (.int .i32 a1))),(9,.cv (.lit (.int .i32 a1))),(10,.B (decide (a1=61)))],[(0,.raw (A9 p0)),(22200,.raw [.I 0,.I 0,.str [],.I 0])]⟩) ?_
    cases h
    exact ⟨rfl,_,rfl,rfl⟩
   refine fF c1 <| Q4 L 214 ?_
   rcases Qw h with ⟨c2,h⟩ |⟨c2,h⟩
   ·refine tT c2 <| Qy (Qu.trans (Qu.kk [0,2,4,5,9,10] [0,200]) (Qu.rr [(0,0),(200,22200)])) ?_
    refine sk (S':=⟨[(0,.P 0),(2,.P 22200),(4,.I 0),(5,.cv (.lit (.int .i32 a1))),(9,.cv (.lit (.int .i32 a1))),(10,.B (decide (a1=60)))],[(0,.raw (A9 p0)),(22200,.raw [.I 0,.I 0,.str [],.I 0])]⟩) ?_
    cases h
    exact ⟨rfl,_,rfl,rfl⟩
   refine fF c2 <| Q4 L 217 ?_
   rcases Qw h with ⟨c3,h⟩ |⟨c3,h⟩
   ·refine tT c3 <| Qy (Qu.trans (Qu.kk [0,2,4,5,9,10] [0,200]) (Qu.rr [(0,0),(200,22200)])) ?_
    refine sk (S':=⟨[(0,.P 0),(2,.P 22200),(4,.I 0),(5,.cv (.lit (.int .i32 a1))),(9,.cv (.lit (.int .i32 a1))),(10,.B (decide (a1=62)))],[(0,.raw (A9 p0)),(22200,.raw [.I 0,.I 0,.str [],.I 0])]⟩) ?_
    cases h
    exact ⟨rfl,_,rfl,rfl⟩
   refine fF c3 <| Q8 (Ul L 220 ⟨rfl,rfl⟩) (Qu.trans (Qu.kk [0,2,4,5,9,10] [0,200]) (Qu.trans (Qu.rr [(0,0),(200,22200)]) (Qu.kp (S':=⟨[(0,.P 0),(2,.P 22200),(4,.I 0),(5,.cv (.lit (.int .i32 a1))),(9,.cv (.lit (.int .i32 a1))),(10,.B (decide (a1=33)))],[(0,.raw (A9 p0)),(22200,.raw [.I 0,.I 0,.str [],.I 0])]⟩)))) ?_
   cases h
   exact ⟨rfl,_,rfl,rfl⟩
  ·rintro e S ⟨rfl,xt10_11,rfl,rfl⟩
   rcases Qw h with ⟨c4,h⟩ |⟨c4,h⟩
   ·refine tt c4 <| Qv ?_
    obtain ⟨a2,h2,h⟩:=bind_some h
    refine rg L 223 [] [(1,.cv (.lit (.int .i32 a2)))] [] (R6 (Ch.ok h2)) ?_
    rcases Qw h with ⟨c5,h⟩ |⟨c5,h⟩
    ·refine tT c5 <| Q8 (Ul L 227 ⟨rfl,rfl⟩) (Qu.trans (Qu.kk [0,2,4] [0,22200]) (Qu.trans (Qu.rr [(0,0),(22200,21000)]) (Qu.kp (S':=⟨[(0,.P 0),(2,.P 21000),(4,.I 2)],[(0,.raw (A9 p0)),(21000,.raw [.I 0,.I 0,.str [],.I 0])]⟩)))) ?_
     cases h
     exact ⟨rfl,_,rfl,rfl⟩
    refine fF c5 <| Q4 L 229 ?_
    rcases Qw h with ⟨c6,h⟩ |⟨c6,h⟩
    ·refine tT c6 <| Q8 (Ul L 232 ⟨rfl,rfl⟩) (Qu.trans (Qu.kk [0,2,4] [0,22200]) (Qu.trans (Qu.rr [(0,0),(22200,21000)]) (Qu.kp (S':=⟨[(0,.P 0),(2,.P 21000),(4,.I 1)],[(0,.raw (A9 p0)),(21000,.raw [.I 0,.I 0,.str [],.I 0])]⟩)))) ?_
     cases h
     exact ⟨rfl,_,rfl,rfl⟩
    refine fF c6 <| Qy (Qu.trans (Qu.kk [0,2,4] [0,22200]) (Qu.rr [(0,0),(22200,21000)])) ?_
    refine sk (S':=⟨[(0,.P 0),(2,.P 21000),(4,.I 0)],[(0,.raw (A9 p0)),(21000,.raw [.I 0,.I 0,.str [],.I 0])]⟩) ?_
    cases h
    exact ⟨rfl,_,rfl,rfl⟩
   refine fN c4 <| Qv <| Q4 L 234 ?_
   rcases Qw h with ⟨c7,h⟩ |⟨c7,h⟩
   ·refine tT c7 <| Q0 <| tT c7 <| Q8 (Ul L 279 ⟨rfl,rfl⟩) (Qu.trans (Qu.kk [0,2,4] [0,22200]) (Qu.trans (Qu.rr [(0,0),(22200,21000)]) (Qu.kp (S':=⟨[(0,.P 0),(2,.P 21000),(4,.I 1)],[(0,.raw (A9 p0)),(21000,.raw [.I 0,.I 0,.str [],.I 0])]⟩)))) ?_
    cases h
    exact ⟨rfl,_,rfl,rfl⟩
   refine fF c7 <| Q4 L 237 ?_
   rcases Qw h with ⟨c8,h⟩ |⟨c8,h⟩
   ·refine tT c8 <| Q0 <| tT c8 <| Q8 (Ul L 279 ⟨rfl,rfl⟩) (Qu.trans (Qu.kk [0,2,4] [0,22200]) (Qu.trans (Qu.rr [(0,0),(22200,21000)]) (Qu.kp (S':=⟨[(0,.P 0),(2,.P 21000),(4,.I 1)],[(0,.raw (A9 p0)),(21000,.raw [.I 0,.I 0,.str [],.I 0])]⟩)))) ?_
    cases h
    exact ⟨rfl,_,rfl,rfl⟩
   refine fF c8 <| Q4 L 240 ?_
   rcases Qw h with ⟨c9,h⟩ |⟨c9,h⟩
   ·refine tT c9 <| Q0 <| tT c9 <| Q8 (Ul L 279 ⟨rfl,rfl⟩) (Qu.trans (Qu.kk [0,2,4] [0,22200]) (Qu.trans (Qu.rr [(0,0),(22200,21000)]) (Qu.kp (S':=⟨[(0,.P 0),(2,.P 21000),(4,.I 1)],[(0,.raw (A9 p0)),(21000,.raw [.I 0,.I 0,.str [],.I 0])]⟩)))) ?_
    cases h
    exact ⟨rfl,_,rfl,rfl⟩
   refine fF c9 <| Q4 L 243 ?_
   rcases Qw h with ⟨c10,h⟩ |⟨c10,h⟩
   ·refine tT c10 <| Q0 <| tT c10 <| Q8 (Ul L 279 ⟨rfl,rfl⟩) (Qu.trans (Qu.kk [0,2,4] [0,22200]) (Qu.trans (Qu.rr [(0,0),(22200,21000)]) (Qu.kp (S':=⟨[(0,.P 0),(2,.P 21000),(4,.I 1)],[(0,.raw (A9 p0)),(21000,.raw [.I 0,.I 0,.str [],.I 0])]⟩)))) ?_
    cases h
    exact ⟨rfl,_,rfl,rfl⟩
   refine fF c10 <| Q4 L 246 ?_
   rcases Qw h with ⟨c11,h⟩ |⟨c11,h⟩
   ·refine tT c11 <| Q0 <| tT c11 <| Q8 (Ul L 279 ⟨rfl,rfl⟩) (Qu.trans (Qu.kk [0,2,4] [0,22200]) (Qu.trans (Qu.rr [(0,0),(22200,21000)]) (Qu.kp (S':=⟨[(0,.P 0),(2,.P 21000),(4,.I 1)],[(0,.raw (A9 p0)),(21000,.raw [.I 0,.I 0,.str [],.I 0])]⟩)))) ?_
    cases h
    exact ⟨rfl,_,rfl,rfl⟩
   refine fF c11 <| Q4 L 249 ?_
   rcases Qw h with ⟨c12,h⟩ |⟨c12,h⟩
   ·refine tT c12 <| Q0 <| tT c12 <| Q8 (Ul L 279 ⟨rfl,rfl⟩) (Qu.trans (Qu.kk [0,2,4] [0,22200]) (Qu.trans (Qu.rr [(0,0),(22200,21000)]) (Qu.kp (S':=⟨[(0,.P 0),(2,.P 21000),(4,.I 1)],[(0,.raw (A9 p0)),(21000,.raw [.I 0,.I 0,.str [],.I 0])]⟩)))) ?_
    cases h
    exact ⟨rfl,_,rfl,rfl⟩
   refine fF c12 <| Q4 L 252 ?_
   rcases Qw h with ⟨c13,h⟩ |⟨c13,h⟩
   ·refine tT c13 <| Q0 <| tT c13 <| Q8 (Ul L 279 ⟨rfl,rfl⟩) (Qu.trans (Qu.kk [0,2,4] [0,22200]) (Qu.trans (Qu.rr [(0,0),(22200,21000)]) (Qu.kp (S':=⟨[(0,.P 0),(2,.P 21000),(4,.I 1)],[(0,.raw (A9 p0)),(21000,.raw [.I 0,.I 0,.str [],.I 0])]⟩)))) ?_
    cases h
    exact ⟨rfl,_,rfl,rfl⟩
   refine fF c13 <| Q4 L 255 ?_
   rcases Qw h with ⟨c14,h⟩ |⟨c14,h⟩
   ·refine tT c14 <| Q0 <| tT c14 <| Q8 (Ul L 279 ⟨rfl,rfl⟩) (Qu.trans (Qu.kk [0,2,4] [0,22200]) (Qu.trans (Qu.rr [(0,0),(22200,21000)]) (Qu.kp (S':=⟨[(0,.P 0),(2,.P 21000),(4,.I 1)],[(0,.raw (A9 p0)),(21000,.raw [.I 0,.I 0,.str [],.I 0])]⟩)))) ?_
    cases h
    exact ⟨rfl,_,rfl,rfl⟩
   refine fF c14 <| Q4 L 258 ?_
   rcases Qw h with ⟨c15,h⟩ |⟨c15,h⟩
   ·refine tT c15 <| Q0 <| tT c15 <| Q8 (Ul L 279 ⟨rfl,rfl⟩) (Qu.trans (Qu.kk [0,2,4] [0,22200]) (Qu.trans (Qu.rr [(0,0),(22200,21000)]) (Qu.kp (S':=⟨[(0,.P 0),(2,.P 21000),(4,.I 1)],[(0,.raw (A9 p0)),(21000,.raw [.I 0,.I 0,.str [],.I 0])]⟩)))) ?_
    cases h
    exact ⟨rfl,_,rfl,rfl⟩
   refine fF c15 <| Q4 L 261 ?_
   rcases Qw h with ⟨c16,h⟩ |⟨c16,h⟩
   ·refine tT c16 <| Q0 <| tT c16 <| Q8 (Ul L 279 ⟨rfl,rfl⟩) (Qu.trans (Qu.kk [0,2,4] [0,22200]) (Qu.trans (Qu.rr [(0,0),(22200,21000)]) (Qu.kp (S':=⟨[(0,.P 0),(2,.P 21000),(4,.I 1)],[(0,.raw (A9 p0)),(21000,.raw [.I 0,.I 0,.str [],.I 0])]⟩)))) ?_
    cases h
    exact ⟨rfl,_,rfl,rfl⟩
   refine fF c16 <| Q4 L 264 ?_
   rcases Qw h with ⟨c17,h⟩ |⟨c17,h⟩
   ·refine tT c17 <| Q0 <| tT c17 <| Q8 (Ul L 279 ⟨rfl,rfl⟩) (Qu.trans (Qu.kk [0,2,4] [0,22200]) (Qu.trans (Qu.rr [(0,0),(22200,21000)]) (Qu.kp (S':=⟨[(0,.P 0),(2,.P 21000),(4,.I 1)],[(0,.raw (A9 p0)),(21000,.raw [.I 0,.I 0,.str [],.I 0])]⟩)))) ?_
    cases h
    exact ⟨rfl,_,rfl,rfl⟩
   refine fF c17 <| Q4 L 267 ?_
   rcases Qw h with ⟨c18,h⟩ |⟨c18,h⟩
   ·refine tT c18 <| Q0 <| tT c18 <| Q8 (Ul L 279 ⟨rfl,rfl⟩) (Qu.trans (Qu.kk [0,2,4] [0,22200]) (Qu.trans (Qu.rr [(0,0),(22200,21000)]) (Qu.kp (S':=⟨[(0,.P 0),(2,.P 21000),(4,.I 1)],[(0,.raw (A9 p0)),(21000,.raw [.I 0,.I 0,.str [],.I 0])]⟩)))) ?_
    cases h
    exact ⟨rfl,_,rfl,rfl⟩
   refine fF c18 <| Q4 L 270 ?_
   rcases Qw h with ⟨c19,h⟩ |⟨c19,h⟩
   ·refine tT c19 <| Q0 <| tT c19 <| Q8 (Ul L 279 ⟨rfl,rfl⟩) (Qu.trans (Qu.kk [0,2,4] [0,22200]) (Qu.trans (Qu.rr [(0,0),(22200,21000)]) (Qu.kp (S':=⟨[(0,.P 0),(2,.P 21000),(4,.I 1)],[(0,.raw (A9 p0)),(21000,.raw [.I 0,.I 0,.str [],.I 0])]⟩)))) ?_
    cases h
    exact ⟨rfl,_,rfl,rfl⟩
   refine fF c19 <| Q4 L 273 ?_
   rcases Qw h with ⟨c20,h⟩ |⟨c20,h⟩
   ·refine tT c20 <| Q0 <| tT c20 <| Q8 (Ul L 279 ⟨rfl,rfl⟩) (Qu.trans (Qu.kk [0,2,4] [0,22200]) (Qu.trans (Qu.rr [(0,0),(22200,21000)]) (Qu.kp (S':=⟨[(0,.P 0),(2,.P 21000),(4,.I 1)],[(0,.raw (A9 p0)),(21000,.raw [.I 0,.I 0,.str [],.I 0])]⟩)))) ?_
    cases h
    exact ⟨rfl,_,rfl,rfl⟩
   refine fF c20 <| Ul L 276 ?_
   rcases Qw h with ⟨c21,h⟩ |⟨c21,h⟩
   ·refine tT c21 <| Q8 (Ul L 279 ⟨rfl,rfl⟩) (Qu.trans (Qu.kk [0,2,4] [0,22200]) (Qu.trans (Qu.rr [(0,0),(22200,21000)]) (Qu.kp (S':=⟨[(0,.P 0),(2,.P 21000),(4,.I 1)],[(0,.raw (A9 p0)),(21000,.raw [.I 0,.I 0,.str [],.I 0])]⟩)))) ?_
    cases h
    exact ⟨rfl,_,rfl,rfl⟩
   refine fF c21 <| Qy (Qu.trans (Qu.kk [0,2,4] [0,22200]) (Qu.rr [(0,0),(22200,21000)])) ?_
   refine sk (S':=⟨[(0,.P 0),(2,.P 21000),(4,.I 0)],[(0,.raw (A9 p0)),(21000,.raw [.I 0,.I 0,.str [],.I 0])]⟩) ?_
   cases h
   exact ⟨rfl,_,rfl,rfl⟩
 ·rintro e S ⟨rfl,xt4_5,rfl,rfl⟩
  refine Qv <| Q4 L 281 ?_
  rcases Qw h with ⟨c22,h⟩ |⟨c22,h⟩
  ·refine tT c22 <| Q4 L 284 <| Qy (Qu.trans (Qu.kk [2,3] [0,21000]) (Qu.rr [(0,0),(21000,100)])) ?_
   refine Qx ?_
   cases h
   exact Rd
  refine fF c22 <| Q0 <| Qv ?_
  obtain ⟨g1,h⟩:=Q1 h
  refine rd L mixed 288 [] [] [] [] 16 (Qz g1.1 (Qz g1.2.1 (Q3 g1.2.2))) ?_
  refine Q4 L 305 <| Q4 L 315 <| Qy (Qu.trans (Qu.kk [2,3] [0,21000]) (Qu.rr [(0,0),(21000,100)])) ?_
  refine Qx ?_
  cases h
  exact Rd
theorem Ej.okE {K:Nat} {p0:A0} {r:Al×Int×A0} (h:Ej K p0=some r):Q5 V P 103 [.P 0] [(0,.raw (A9 p0))] [0] (.tup [.agg [.I r.1.Kind,.I r.1.At,.str r.1.Text,.I r.1.Int],.I r.2.1]) [(0,.raw [.str r.2.2.src,.I r.2.2.at_])] :=
 eo (fn:=Tryz.f103) (n:=64) (m:=100) fun Γ=>Ej.body h
def Ef (K:Nat) (p0:A0):Option (Al×Int×A0):=(Option.bind (Ch K p0 0) (fun a1=>(Option.bind (Eu K a1) (fun a2=>(if a2=true then (Option.bind (Eh K p0) (fun (a3_0,a3_1,a3_2)=>some (a3_0,a3_1,a3_2))) else (Option.bind (E6 K a1) (fun a4=>(if a4=true then (Option.bind (Ec K p0) (fun (a5_0,a5_1,a5_2)=>some (a5_0,a5_1,a5_2))) else (if a1=34 then (Option.bind (Db K p0) (fun (a6_0,a6_1,a6_2)=>some (a6_0,a6_1,a6_2))) else (Option.bind (Ej K p0) (fun (a7_0,a7_1,a7_2)=>some (a7_0,a7_1,a7_2))))))))))))
theorem Ef.body {Γ:Rm} {K:Nat} {p0:A0} {r:Al×Int×A0} (h:Ef K p0=some r):Ri V P 32 100 Γ (Tryz.f72.body.getD .skip) (Q7 P V Tryz.f72 (.tup [.agg [.I r.1.Kind,.I r.1.At,.str r.1.Text,.I r.1.Int],.I r.2.1]) [(0,.raw [.str r.2.2.src,.I r.2.2.at_])]) ⟨Q6 0 [.P 0],[(0,.raw (A9 p0))]⟩:=by
 unfold Ef at h
 refine Q4 L 200 <| Qv <| Qv ?_
 obtain ⟨a1,h1,h⟩:=bind_some h
 refine rg L 203 [] [(1,.cv (.lit (.int .i32 a1)))] [] (R6 (Ch.ok h1)) ?_
 refine Q2 <| Qv ?_
 obtain ⟨a2,h2,h⟩:=bind_some h
 refine rg L 207 [] [(1,.B a2)] [] (R6 (Eu.ok h2)) ?_
 rcases Qw h with ⟨c1,h⟩ |⟨c1,h⟩
 ·refine tt c1 <| Qv ?_
  obtain ⟨⟨a3_0,a3_1,a3_2⟩,h3,h⟩:=bind_some h
  dsimp only at h
  refine rg L 211 [] [] [(1,(Rc (.tup [.agg (D8 a3_0),.I a3_1]) [(0,.raw (A9 a3_2))]))] (Q3 (Eh.okE h3)) ?_
  refine Qy (Qu.trans (Qu.kk [2,3] [0,200]) (Qu.rr [(0,0),(200,100)])) ?_
  refine Qx ?_
  cases h
  exact Rd
 refine fN c1 <| Qv ?_
 obtain ⟨a4,h4,h⟩:=bind_some h
 refine rg L 218 [] [(1,.B a4)] [] (R6 (E6.ok h4)) ?_
 rcases Qw h with ⟨c2,h⟩ |⟨c2,h⟩
 ·refine tt c2 <| Qv ?_
  obtain ⟨⟨a5_0,a5_1,a5_2⟩,h5,h⟩:=bind_some h
  dsimp only at h
  refine rg L 222 [] [] [(1,(Rc (.tup [.agg (D8 a5_0),.I a5_1]) [(0,.raw (A9 a5_2))]))] (Q3 (Ec.okE h5)) ?_
  refine Qy (Qu.trans (Qu.kk [2,3] [0,200]) (Qu.rr [(0,0),(200,100)])) ?_
  refine Qx ?_
  cases h
  exact Rd
 refine fN c2 <| Q4 L 229 ?_
 rcases Qw h with ⟨c3,h⟩ |⟨c3,h⟩
 ·refine tT c3 <| Qv ?_
  obtain ⟨⟨a6_0,a6_1,a6_2⟩,h6,h⟩:=bind_some h
  dsimp only at h
  refine rg L 233 [] [] [(1,(Rc (.tup [.agg (D8 a6_0),.I a6_1]) [(0,.raw (A9 a6_2))]))] (Q3 (Db.okE h6)) ?_
  refine Qy (Qu.trans (Qu.kk [2,3] [0,200]) (Qu.rr [(0,0),(200,100)])) ?_
  refine Qx ?_
  cases h
  exact Rd
 refine fF c3 <| Q0 <| Qv ?_
 obtain ⟨⟨a7_0,a7_1,a7_2⟩,h7,h⟩:=bind_some h
 dsimp only at h
 refine rg L 240 [] [] [(1,(Rc (.tup [.agg (D8 a7_0),.I a7_1]) [(0,.raw (A9 a7_2))]))] (Q3 (Ej.okE h7)) ?_
 refine Qy (Qu.trans (Qu.kk [2,3] [0,200]) (Qu.rr [(0,0),(200,100)])) ?_
 refine Qx ?_
 cases h
 exact Rd
theorem Ef.okE {K:Nat} {p0:A0} {r:Al×Int×A0} (h:Ef K p0=some r):Q5 V P 72 [.P 0] [(0,.raw (A9 p0))] [0] (.tup [.agg [.I r.1.Kind,.I r.1.At,.str r.1.Text,.I r.1.Int],.I r.2.1]) [(0,.raw [.str r.2.2.src,.I r.2.2.at_])] :=
 eo (fn:=Tryz.f72) (n:=32) (m:=100) fun Γ=>Ef.body h
def El.l16 (K:Nat) (p0:List UInt8):Nat→(List UInt8)→Int→(List Al)→Option (Q9 ((List Al)×Int×Int) Unit)
 | 0,_,_,_=>none
 | k+1,x23300_0,x23300_1,x23301=>(Option.bind (Dh K (⟨x23300_0,x23300_1⟩:A0)) (fun (a1_0,a1_1)=>(if a1_1.at_≥(p0.length:Int) then (if (x23301.length+([(⟨0,a1_1.at_,[],0⟩:Al)]:List Al).length) * 40≤140737488355328 then some (Q9.done ((x23301++([(⟨0,a1_1.at_,[],0⟩:Al)]:List Al)),0,0)) else none) else (Option.bind (Ef K a1_1) (fun (a2_0,a2_1,a2_2)=>(if a2_1≠0 then some (Q9.done (([]:List Al),a1_1.at_,a2_1)) else (if (x23301.length+([(⟨a2_0.Kind,a1_1.at_,a2_0.Text,a2_0.Int⟩:Al)]:List Al).length) * 40≤140737488355328 then El.l16 K p0 k a2_2.src a2_2.at_ (x23301++([(⟨a2_0.Kind,a1_1.at_,a2_0.Text,a2_0.Int⟩:Al)]:List Al)) else none)))))))
def El (K:Nat) (p0:List UInt8):Option ((List Al)×Int×Int):=(if (p0.length:Int) > 16384 then some (([]:List Al),0,6) else (obind (El.l16 K p0 K p0 0 ([]:List Al):Option (Q9 ((List Al)×Int×Int) Unit)) (fun r=>r) (fun _=>none)))
theorem El.body {Γ:Rm} {K:Nat} {p0:List UInt8} {r:(List Al)×Int×Int} (h:El K p0=some r):Ri V P 46 100 Γ (Tryz.f40.body.getD .skip) (Q7 P V Tryz.f40 (.tup [.cv (.ro .Ak r.1),.I r.2.1,.I r.2.2]) []) ⟨Q6 0 [.cv (.str p0)],[]⟩:=by
 unfold El at h
 refine Q4 L 200 <| Qv <| Q4 L 204 ?_
 rcases Qw h with ⟨c1,h⟩ |⟨c1,h⟩
 ·refine tT c1 <| Q4 L 208 <| Qx ?_
  cases h
  exact Rd
 refine fF c1 <| Q0 <| Q4 L 212 <| Q4 L 217 <| Q2 <| Qy (Qu.trans (Qu.kk [0,5,6] [214]) (Qu.trans (Qu.no 6 9500 Tag.Ak) (Qu.trans (Qu.kk [0,5,6] [214,9500]) (Qu.rr [(214,23300),(9500,23301)])))) ?_
 refine kp (S':=⟨[(0,.cv (.str p0)),(5,.P 23300),(6,.cv (.own .Ak 23301))],[(23300,.raw [.str p0,.I 0]),(23301,.lst .Ak ([]:List Al))]⟩) ?_
 obtain ⟨o1,hp1,h⟩:=Rf h
 refine Ra (Q':=fun e S=>False∨(e=.ret∧∃ a,Q9.done a=o1∧Q7 P V Tryz.f40 (.tup [.cv (.ro .Ak a.1),.I a.2.1,.I a.2.2]) [] .ret S)) (Rh (fun k S=>∃ x23300_0:List UInt8,∃ x23300_1:Int,∃ x23301:List Al,S=⟨[(0,.cv (.str p0)),(5,.P 23300),(6,.cv (.own .Ak 23301))],[(23300,.raw [.str x23300_0,.I x23300_1]),(23301,.lst .Ak x23301)]⟩∧El.l16 K p0 k x23300_0 x23300_1 x23301=some o1) ?_ ⟨_,_,_,rfl,hp1⟩) ?_
 ·clear h hp1
  intro k S hS
  obtain ⟨x23300_0,x23300_1,x23301,rfl,h⟩:=hS
  cases k with
  | zero=>cases h
  | succ k =>
  unfold El.l16 at h
  refine Q2 <| Qv ?_
  obtain ⟨⟨a1_0,a1_1⟩,h1,h⟩:=bind_some h
  dsimp only at h
  refine rg L 219 [] [] [(1,(ef [0] [0] (.cv (.str a1_0)) [(0,.raw (A9 a1_1))] [(0,23300)]))] (Q3 (Dh.okE h1)) ?_
  refine Q4 L 222 <| Qv <| Q4 L 228 ?_
  rcases Qw h with ⟨c2,h⟩ |⟨c2,h⟩
  ·refine tT c2 <| Qv ?_
   obtain ⟨g1,h⟩:=Q1 h
   refine rg L 233 [] [] [] (R6 g1) ?_
   refine Qy (Qu.trans (Qu.kk [2,3,4] [23301]) (Qu.fz 23301)) ?_
   refine Qx ?_
   cases h
   exact .inr ⟨rfl,_,rfl,Rd⟩
  refine fF c2 <| Q0 <| Qv ?_
  obtain ⟨⟨a2_0,a2_1,a2_2⟩,h2,h⟩:=bind_some h
  dsimp only at h
  refine rg L 242 [] [] [(1,(ef [0] [0] (.tup [.agg (D8 a2_0),.I a2_1]) [(0,.raw (A9 a2_2))] [(0,23300)]))] (Q3 (Ef.okE h2)) ?_
  refine Qv <| Q4 L 251 ?_
  rcases Qw h with ⟨c3,h⟩ |⟨c3,h⟩
  ·refine tT c3 <| Q4 L 254 <| Qx ?_
   cases h
   exact .inr ⟨rfl,_,rfl,Rd⟩
  refine fF c3 <| Q0 <| Q4 L 260 ?_
  obtain ⟨g2,h⟩:=Q1 h
  refine ar L 264 [] [] [] (cs:=[(x23301.length+([(⟨a2_0.Kind,a1_1.at_,a2_0.Text,a2_0.Int⟩:Al)]:List Al).length) * 40≤140737488355328,True]) (S':=⟨[(0,.cv (.str p0)),(5,.P 23300),(6,.cv (.own .Ak 23301))],[(23300,.raw (A9 a2_2)),(23301,.lst .Ak (x23301++([(⟨a2_0.Kind,a1_1.at_,a2_0.Text,a2_0.Int⟩:Al)]:List Al)))]⟩) (And.intro g2 trivial) ?_
  exact ⟨k,Nat.lt_succ_self k,_,_,_,rfl,h⟩
 ·rintro e S (hf |⟨rfl,a,rfl,hr⟩)
  ·exact hf.elim
  ·rcases h with ⟨_,e1,h⟩ |⟨_,e1,h⟩
   ·have e2:=Q9.done.inj e1
    subst e2
    subst h
    exact ⟨_,Qu.refl,hr⟩
   ·cases e1
theorem El.ok {K:Nat} {p0:List UInt8} {r:(List Al)×Int×Int} (h:El K p0=some r):Rb V P 40 [.cv (.str p0)] (.tup [.cv (.ro .Ak r.1),.I r.2.1,.I r.2.2]):=Q5.pcall (eo (fn:=Tryz.f40) (n:=46) (m:=100) fun Γ=>El.body h) (by kernel_rfl)
def Bx (K:Nat) (p0:Ab):Option Al:=(if (0:Int)≤(if (IntKind.i64.wrap ((p0.l.length:Int) - 1)) < p0.i then (IntKind.i64.wrap ((p0.l.length:Int) - 1)) else p0.i)∧((if (IntKind.i64.wrap ((p0.l.length:Int) - 1)) < p0.i then (IntKind.i64.wrap ((p0.l.length:Int) - 1)) else p0.i):Int) <(p0.l.length:Int) then some ((p0.l.getD (Int.toNat (if (IntKind.i64.wrap ((p0.l.length:Int) - 1)) < p0.i then (IntKind.i64.wrap ((p0.l.length:Int) - 1)) else p0.i)) Dr)) else none)
theorem Bx.body {Γ:Rm} {K:Nat} {p0:Ab} {r:Al} (h:Bx K p0=some r):Ri V P 20 100 Γ (Tryz.f42.body.getD .skip) (Q7 P V Tryz.f42 (.agg [.I r.Kind,.I r.At,.str r.Text,.I r.Int]) []) ⟨Q6 0 [.cv (.pcs (Af p0) 0)],[]⟩:=by
 unfold Bx at h
 refine Q4 L 200 <| Qv ?_
 obtain ⟨g1,h⟩:=Q1 h
 refine rd L mixed 202 [] [] [] [200] 18 (Sj g1.1 g1.2) ?_
 refine Qy (Qu.trans (Qu.kk [2] [200]) (Qu.rr [(200,100)])) ?_
 refine Qx ?_
 cases h
 exact Rd
theorem Bx.ok {K:Nat} {p0:Ab} {r:Al} (h:Bx K p0=some r):Rb V P 42 [.cv (.pcs (Af p0) 0)] (.agg [.I r.Kind,.I r.At,.str r.Text,.I r.Int]):=Q5.pcall (eo (fn:=Tryz.f42) (n:=20) (m:=100) fun Γ=>Bx.body h) (by kernel_rfl)
def D7 (K:Nat) (p0:Ab) (p1:List UInt8):Option Bool:=(Option.bind (Bx K p0) (fun a1=>(if a1.Kind=2 then some (decide (a1.Text=p1)) else (if a1.Kind=5 then some (decide (a1.Text=p1)) else some false))))
theorem D7.body {Γ:Rm} {K:Nat} {p0:Ab} {p1:List UInt8} {r:Bool} (h:D7 K p0 p1=some r):Ri V P 22 100 Γ (Tryz.f73.body.getD .skip) (Q7 P V Tryz.f73 (.B r) []) ⟨Q6 0 [.cv (.pcs (Af p0) 0),.cv (.str p1)],[]⟩:=by
 unfold D7 at h
 refine Q4 L 200 <| Qv ?_
 obtain ⟨a1,h1,h⟩:=bind_some h
 refine rg L 202 [] [(1,.agg (D8 a1))] [] (R6 (Bx.ok h1)) ?_
 refine Qv ?_
 rcases Qw h with ⟨c1,h⟩ |⟨c1,h⟩
 ·refine rg L 207 [(3,true)] [] [] (Q3 (decide_eq_true c1)) ?_
  refine Qx ?_
  cases h
  exact Rd
 rcases Qw h with ⟨c2,h⟩ |⟨c2,h⟩
 ·refine rg L 207 [(3,false),(8,true)] [] [] (Sj (decide_eq_false c1) (decide_eq_true c2)) ?_
  refine Qx ?_
  cases h
  exact Rd
 refine rg L 207 [(3,false),(8,false)] [] [] (Sj (decide_eq_false c1) (decide_eq_false c2)) ?_
 refine Qx ?_
 cases h
 exact Rd
theorem D7.ok {K:Nat} {p0:Ab} {p1:List UInt8} {r:Bool} (h:D7 K p0 p1=some r):Rb V P 73 [.cv (.pcs (Af p0) 0),.cv (.str p1)] (.B r):=Q5.pcall (eo (fn:=Tryz.f73) (n:=22) (m:=100) fun Γ=>D7.body h) (by kernel_rfl)
def Ao (K:Nat) (p0:List UInt8) (p1:Ab):Option (Bool×Ab):=(Option.bind (D7 K p1 p0) (fun a1=>(if a1=true then some (true,(⟨p1.l,(IntKind.i64.wrap (p1.i+1))⟩:Ab)) else some (false,p1))))
theorem Ao.body {Γ:Rm} {K:Nat} {p0:List UInt8} {p1:Ab} {r:Bool×Ab} (h:Ao K p0 p1=some r):Ri V P 16 100 Γ (Tryz.f44.body.getD .skip) (Q7 P V Tryz.f44 (.B r.1) [(0,.raw [.ro .Ak r.2.l,.I r.2.i])]) ⟨Q6 0 [.P 0,.cv (.str p0)],[(0,.raw (Af p1))]⟩:=by
 unfold Ao at h
 refine Q4 L 200 <| Qv <| Qv ?_
 obtain ⟨a1,h1,h⟩:=bind_some h
 refine rg L 202 [] [(2,.B a1)] [] (R6 (D7.ok h1)) ?_
 rcases Qw h with ⟨c1,h⟩ |⟨c1,h⟩
 ·refine ff (b:=(!a1)) (congrArg Bool.not (c1)) ?_
  refine Q0 <| Q4 L 209 <| Q4 L 218 <| Qx ?_
  cases h
  exact Rd
 refine tt (b:=(!a1)) (congrArg Bool.not (eq_false_of_ne_true c1)) ?_
 refine Q4 L 207 <| Qx ?_
 cases h
 exact Rd
theorem Ao.okE {K:Nat} {p0:List UInt8} {p1:Ab} {r:Bool×Ab} (h:Ao K p0 p1=some r):Q5 V P 44 [.P 0,.cv (.str p0)] [(0,.raw (Af p1))] [0] (.B r.1) [(0,.raw [.ro .Ak r.2.l,.I r.2.i])] :=
 eo (fn:=Tryz.f44) (n:=16) (m:=100) fun Γ=>Ao.body h
def Bl (K:Nat) (p0:Ab):Option Int:=(Option.bind (Bx K p0) (fun a1=>some a1.At))
def Bl.rep (p0:Ab):Int→Sc T
 | v0=>.pan (Rq 49 v0)
def Bl.post (p0:Ab):Int→List (Nat×Rj T)
 | v0=>[]
theorem Bl.body {Γ:Rm} {K:Nat} {p0:Ab} {r:Int} (h:Bl K p0=some r):Ri V P 7 100 Γ (Tryz.f43.body.getD .skip) (Rr P V Tryz.f43 (Bl.rep p0 r) (Bl.post p0 r)) ⟨Q6 0 [.P 0],[(0,.raw (Af p0))]⟩:=by
 unfold Bl at h
 obtain ⟨a1,h1,h⟩:=bind_some h
 refine qn L 200 [] [(1,.agg (D8 a1))] [] 5 (ef [] [] (.tup []) [] []) (Rq 49 a1.At) (Qz (Bx.ok h1) (Qz trivial (Q3 (show (Rq 49 a1.At)=(Rq 49 a1.At) from rfl)))) ?_
 cases h
 exact rfl
theorem Bl.okE {K:Nat} {p0:Ab} {r:Int} (h:Bl K p0=some r):Rp V P 43 [.P 0] [(0,.raw (Af p0))] [0] (Bl.post p0 r) (Bl.rep p0 r) :=
 xo (fn:=Tryz.f43) (n:=7) (m:=100) fun Γ=>Bl.body h
def D0 (K:Nat) (p0:Ab):Option (Al×Ab):=(Option.bind (Bx K p0) (fun a1=>some (a1,(⟨p0.l,(IntKind.i64.wrap (p0.i+1))⟩:Ab))))
theorem D0.body {Γ:Rm} {K:Nat} {p0:Ab} {r:Al×Ab} (h:D0 K p0=some r):Ri V P 14 100 Γ (Tryz.f74.body.getD .skip) (Q7 P V Tryz.f74 (.agg [.I r.1.Kind,.I r.1.At,.str r.1.Text,.I r.1.Int]) [(0,.raw [.ro .Ak r.2.l,.I r.2.i])]) ⟨Q6 0 [.P 0],[(0,.raw (Af p0))]⟩:=by
 unfold D0 at h
 refine Q4 L 200 <| Qv ?_
 obtain ⟨a1,h1,h⟩:=bind_some h
 refine rg L 202 [] [(1,.agg (D8 a1))] [] (R6 (Bx.ok h1)) ?_
 refine Q4 L 207 <| Q4 L 216 <| Qy (Qu.trans (Qu.kk [2] [0,200]) (Qu.rr [(0,0),(200,100)])) ?_
 refine Qx ?_
 cases h
 exact Rd
theorem D0.okE {K:Nat} {p0:Ab} {r:Al×Ab} (h:D0 K p0=some r):Q5 V P 74 [.P 0] [(0,.raw (Af p0))] [0] (.agg [.I r.1.Kind,.I r.1.At,.str r.1.Text,.I r.1.Int]) [(0,.raw [.ro .Ak r.2.l,.I r.2.i])] :=
 eo (fn:=Tryz.f74) (n:=14) (m:=100) fun Γ=>D0.body h
def Ay (K:Nat) (p0:Ab):Option (Int ⊕ ((List UInt8)×Ab)):=(Option.bind (Bx K p0) (fun a1=>(if a1.Kind≠1 then (Option.bind (Bl K p0) (fun a2=>some (Sum.inl a2))) else (Option.bind (D0 K p0) (fun (a3_0,a3_1)=>some (Sum.inr (a3_0.Text,a3_1)))))))
def Ay.rep (p0:Ab):Int ⊕ ((List UInt8)×Ab)→Sc T
 |(Sum.inl v0)=>.pan (Rq 49 v0)
 |(Sum.inr (v0,v1))=>.ret (.cv (.str v0))
def Ay.post (p0:Ab):Int ⊕ ((List UInt8)×Ab)→List (Nat×Rj T)
 |(Sum.inl v0)=>[]
 |(Sum.inr (v0,v1))=>[(0,.raw [.ro .Ak v1.l,.I v1.i])]
theorem Ay.body {Γ:Rm} {K:Nat} {p0:Ab} {r:Int ⊕ ((List UInt8)×Ab)} (h:Ay K p0=some r):Ri V P 12 100 Γ (Tryz.f45.body.getD .skip) (Rr P V Tryz.f45 (Ay.rep p0 r) (Ay.post p0 r)) ⟨Q6 0 [.P 0],[(0,.raw (Af p0))]⟩:=by
 unfold Ay at h
 refine Q4 L 200 <| Qv <| Qv ?_
 obtain ⟨a1,h1,h⟩:=bind_some h
 refine rg L 202 [] [(1,.agg (D8 a1))] [] (R6 (Bx.ok h1)) ?_
 rcases Qw h with ⟨c1,h⟩ |⟨c1,h⟩
 ·refine tT c1 ?_
  obtain ⟨a2,h2,h⟩:=bind_some h
  refine qn L 207 [] [] [] 1 (Rc (.tup []) []) (Rq 49 a2) (Q3 (Bl.okE h2)) ?_
  cases h
  exact rfl
 refine fF c1 <| Q0 <| Qv ?_
 obtain ⟨⟨a3_0,a3_1⟩,h3,h⟩:=bind_some h
 dsimp only at h
 refine rg L 210 [] [] [(1,(Rc (.agg (D8 a3_0)) [(0,.raw (Af a3_1))]))] (Q3 (D0.okE h3)) ?_
 refine Qx ?_
 cases h
 exact Sw
theorem Ay.okE {K:Nat} {p0:Ab} {r:Int ⊕ ((List UInt8)×Ab)} (h:Ay K p0=some r):Rp V P 45 [.P 0] [(0,.raw (Af p0))] [0] (Ay.post p0 r) (Ay.rep p0 r) :=
 xo (fn:=Tryz.f45) (n:=12) (m:=100) fun Γ=>Ay.body h
def Aq (K:Nat) (p0:List UInt8) (p1:Ab):Option (Ab ⊕ Int):=(Option.bind (Ao K p0 p1) (fun (a1_0,a1_1)=>(if a1_0=true then some (Sum.inl a1_1) else (Option.bind (Bl K a1_1) (fun a2=>some (Sum.inr a2))))))
def Aq.rep (p0:List UInt8) (p1:Ab):Ab ⊕ Int→Sc T
 |(Sum.inl v0)=>.ret (.tup [])
 |(Sum.inr v0)=>.pan (Rq 49 v0)
def Aq.post (p0:List UInt8) (p1:Ab):Ab ⊕ Int→List (Nat×Rj T)
 |(Sum.inl v0)=>[(0,.raw [.ro .Ak v0.l,.I v0.i])]
 |(Sum.inr v0)=>[]
theorem Aq.body {Γ:Rm} {K:Nat} {p0:List UInt8} {p1:Ab} {r:Ab ⊕ Int} (h:Aq K p0 p1=some r):Ri V P 10 100 Γ (Tryz.f46.body.getD .skip) (Rr P V Tryz.f46 (Aq.rep p0 p1 r) (Aq.post p0 p1 r)) ⟨Q6 0 [.P 0,.cv (.str p0)],[(0,.raw (Af p1))]⟩:=by
 unfold Aq at h
 refine Qv ?_
 obtain ⟨⟨a1_0,a1_1⟩,h1,h⟩:=bind_some h
 dsimp only at h
 refine rg L 200 [] [] [(2,(Rc (.B a1_0) [(0,.raw (Af a1_1))]))] (Q3 (Ao.okE h1)) ?_
 rcases Qw h with ⟨c1,h⟩ |⟨c1,h⟩
 ·refine ff (b:=(!a1_0)) (congrArg Bool.not (c1)) ?_
  refine sk (S':=⟨[],[(0,.raw (Af a1_1))]⟩) ?_
  cases h
  exact xn0
 refine tt (b:=(!a1_0)) (congrArg Bool.not (eq_false_of_ne_true c1)) ?_
 obtain ⟨a2,h2,h⟩:=bind_some h
 refine qn L 205 [] [] [] 1 (Rc (.tup []) []) (Rq 49 a2) (Q3 (Bl.okE h2)) ?_
 cases h
 exact rfl
theorem Aq.okE {K:Nat} {p0:List UInt8} {p1:Ab} {r:Ab ⊕ Int} (h:Aq K p0 p1=some r):Rp V P 46 [.P 0,.cv (.str p0)] [(0,.raw (Af p1))] [0] (Aq.post p0 p1 r) (Aq.rep p0 p1 r) :=
 xo (fn:=Tryz.f46) (n:=10) (m:=100) fun Γ=>Aq.body h
def B5.l7 (K:Nat) (p0:List (List UInt8)) (p1:List Int) (p2:Ab):Nat→Int→Option (Q9 (Int×Bool×Ab) Unit)
 | 0,_=>none
 | k+1,xt12_7h=>(if xt12_7h <(p0.length:Int) then (if (0:Int)≤xt12_7h∧(xt12_7h:Int) <(p0.length:Int) then (Option.bind (D7 K p2 (p0.getD (Int.toNat xt12_7h) ([]:List UInt8))) (fun a1=>(if a1=true then (if (xt12_7h:Int) <(p1.length:Int) then some (Q9.done ((p1.getD (Int.toNat xt12_7h) (0:Int)),true,(⟨p2.l,(IntKind.i64.wrap (p2.i+1))⟩:Ab))) else none) else B5.l7 K p0 p1 p2 k (IntKind.i64.wrap (xt12_7h+1))))) else none) else some (Q9.go ()))
def B5 (K:Nat) (p0:List (List UInt8)) (p1:List Int) (p2:Ab):Option (Int×Bool×Ab):=(obind (B5.l7 K p0 p1 p2 K 0:Option (Q9 (Int×Bool×Ab) Unit)) (fun r=>r) (fun _=>some (0,false,p2)))
theorem B5.body {Γ:Rm} {K:Nat} {p0:List (List UInt8)} {p1:List Int} {p2:Ab} {r:Int×Bool×Ab} (h:B5 K p0 p1 p2=some r):Ri V P 32 100 Γ (Tryz.f78.body.getD .skip) (Q7 P V Tryz.f78 (.tup [.I r.1,.B r.2.1]) [(0,.raw [.ro .Ak r.2.2.l,.I r.2.2.i])]) ⟨Q6 0 [.P 0,.cv (.ro .C8 p0),.cv (.ro .Fg p1)],[(0,.raw (Af p2))]⟩:=by
 unfold B5 at h
 refine Q4 L 200 <| Qv <| Q4 L 203 <| Q2 <| kp (S':=⟨[(0,.P 0),(2,.cv (.ro .Fg p1)),(10,.cv (.ro .C8 p0)),(11,.I (p0.length:Int)),(12,.I 0)],[(0,.raw (Af p2))]⟩) ?_
 obtain ⟨o1,hp1,h⟩:=Rf h
 refine Ra (Q':=fun e S=>(e=.exit 0∧S=⟨[],[(0,.raw (Af p2))]⟩∧Q9.go ()=o1)∨(e=.ret∧∃ a,Q9.done a=o1∧Q7 P V Tryz.f78 (.tup [.I a.1,.B a.2.1]) [(0,.raw [.ro .Ak a.2.2.l,.I a.2.2.i])] .ret S)) (Rh (fun k S=>∃ xt12_7h:Int,S=⟨[(0,.P 0),(2,.cv (.ro .Fg p1)),(10,.cv (.ro .C8 p0)),(11,.I (p0.length:Int)),(12,.I xt12_7h)],[(0,.raw (Af p2))]⟩∧B5.l7 K p0 p1 p2 k xt12_7h=some o1) ?_ ⟨_,rfl,hp1⟩) ?_
 ·clear h hp1
  intro k S hS
  obtain ⟨xt12_7h,rfl,h⟩:=hS
  cases k with
  | zero=>cases h
  | succ k =>
  unfold B5.l7 at h
  refine Q4 L 207 <| Qv ?_
  rcases Qw h with ⟨c1,h⟩ |⟨c1,h⟩
  ·refine tT c1 <| Q0 <| Qv <| Q2 <| Qv ?_
   obtain ⟨g1,h⟩:=Q1 h
   refine rg L 209 [] [] [] (Sj g1.1 g1.2) ?_
   refine Qv ?_
   obtain ⟨a1,h1,h⟩:=bind_some h
   refine rg L 215 [] [(2,.B a1)] [] (R6 (D7.ok h1)) ?_
   rcases Qw h with ⟨c2,h⟩ |⟨c2,h⟩
   ·refine tt c2 <| Q4 L 219 <| Qv ?_
    obtain ⟨g2,h⟩:=Q1 h
    refine rg L 228 [] [] [] (Sj g1.1 g2) ?_
    refine Qx ?_
    cases h
    exact .inr ⟨rfl,_,rfl,Rd⟩
   refine fN c2 <| Q0 <| Tv L 235 [] [] [] (S':=⟨[(0,.P 0),(2,.cv (.ro .Fg p1)),(10,.cv (.ro .C8 p0)),(11,.I (p0.length:Int)),(12,.I (IntKind.i64.wrap (xt12_7h+1)))],[(0,.raw (Af p2))]⟩) ?_
   exact ⟨k,Nat.lt_succ_self k,_,rfl,h⟩
  refine fF c1 <| ex (S':=⟨[],[(0,.raw (Af p2))]⟩) ?_
  cases h
  exact .inl ⟨rfl,rfl,rfl⟩
 ·rintro e S (⟨rfl,rfl,rfl⟩ |⟨rfl,a,rfl,hr⟩)
  ·rcases h with ⟨_,e1,h⟩ |⟨_,e1,h⟩
   ·cases e1
   ·have e2:=Q9.go.inj e1
    subst e2
    refine ⟨_,Qu.refl,?_⟩
    refine Q4 L 238 <| Qx ?_
    cases h
    exact Rd
  ·rcases h with ⟨_,e1,h⟩ |⟨_,e1,h⟩
   ·have e2:=Q9.done.inj e1
    subst e2
    subst h
    exact ⟨_,Qu.refl,hr⟩
   ·cases e1
theorem B5.okE {K:Nat} {p0:List (List UInt8)} {p1:List Int} {p2:Ab} {r:Int×Bool×Ab} (h:B5 K p0 p1 p2=some r):Q5 V P 78 [.P 0,.cv (.ro .C8 p0),.cv (.ro .Fg p1)] [(0,.raw (Af p2))] [0] (.tup [.I r.1,.B r.2.1]) [(0,.raw [.ro .Ak r.2.2.l,.I r.2.2.i])] :=
 eo (fn:=Tryz.f78) (n:=32) (m:=100) fun Γ=>B5.body h
def Dz (K:Nat) (p0:Ab):Option (Aa×Bool×Ab):=(Option.bind (Bx K p0) (fun a1=>(if a1.Kind=3 then some ((⟨4,[],a1.Int,[],([]:List Aa)⟩:Aa),true,(⟨p0.l,(IntKind.i64.wrap (p0.i+1))⟩:Ab)) else (if a1.Kind=4 then some ((⟨5,[],0,a1.Text,([]:List Aa)⟩:Aa),true,(⟨p0.l,(IntKind.i64.wrap (p0.i+1))⟩:Ab)) else (Option.bind (B5 K ([([110,117,108,108]:List UInt8),([116,114,117,101]:List UInt8),([102,97,108,115,101]:List UInt8)]:List (List UInt8)) ([1,2,3]:List Int) p0) (fun (a2_0,a2_1,a2_2)=>some ((⟨a2_0,[],0,[],([]:List Aa)⟩:Aa),a2_1,a2_2)))))))
theorem Dz.body {Γ:Rm} {K:Nat} {p0:Ab} {r:Aa×Bool×Ab} (h:Dz K p0=some r):Ri V P 47 100 Γ (Tryz.f76.body.getD .skip) (Q7 P V Tryz.f76 (.tup [.agg [.I r.1.Op,.str r.1.Name,.I r.1.Int,.str r.1.Text,.ro .Ae r.1.Kids],.B r.2.1]) [(0,.raw [.ro .Ak r.2.2.l,.I r.2.2.i])]) ⟨Q6 0 [.P 0],[(0,.raw (Af p0))]⟩:=by
 unfold Dz at h
 refine Q4 L 200 <| Qv <| Qv ?_
 obtain ⟨a1,h1,h⟩:=bind_some h
 refine rg L 203 [] [(1,.agg (D8 a1))] [] (R6 (Bx.ok h1)) ?_
 refine Q2 <| Q4 L 208 ?_
 rcases Qw h with ⟨c1,h⟩ |⟨c1,h⟩
 ·refine tT c1 <| Q4 L 213 <| Q4 L 222 <| Qy (Qu.trans (Qu.kk [2,3] [0,200]) (Qu.rr [(0,0),(200,100)])) ?_
  refine Qx ?_
  cases h
  exact Rd
 refine fF c1 <| Q4 L 228 ?_
 rcases Qw h with ⟨c2,h⟩ |⟨c2,h⟩
 ·refine tT c2 <| Q4 L 233 <| Q4 L 242 <| Qy (Qu.trans (Qu.kk [2,3] [0,200]) (Qu.rr [(0,0),(200,100)])) ?_
  refine Qx ?_
  cases h
  exact Rd
 refine fF c2 <| Q0 <| Qv ?_
 obtain ⟨⟨a2_0,a2_1,a2_2⟩,h2,h⟩:=bind_some h
 dsimp only at h
 refine rg L 248 [] [] [(3,(Rc (.tup [.I a2_0,.B a2_1]) [(0,.raw (Af a2_2))]))] (Q3 (B5.okE h2)) ?_
 refine Q4 L 258 <| Qy (Qu.trans (Qu.kk [2,3] [0,200]) (Qu.rr [(0,0),(200,100)])) ?_
 refine Qx ?_
 cases h
 exact Rd
theorem Dz.okE {K:Nat} {p0:Ab} {r:Aa×Bool×Ab} (h:Dz K p0=some r):Q5 V P 76 [.P 0] [(0,.raw (Af p0))] [0] (.tup [.agg [.I r.1.Op,.str r.1.Name,.I r.1.Int,.str r.1.Text,.ro .Ae r.1.Kids],.B r.2.1]) [(0,.raw [.ro .Ak r.2.2.l,.I r.2.2.i])] :=
 eo (fn:=Tryz.f76) (n:=47) (m:=100) fun Γ=>Dz.body h
def Ct (K:Nat) (p0:Int) (p1:List Aa):Option Aa:=some (⟨p0,[],0,[],p1⟩:Aa)
theorem Ct.body {Γ:Rm} {K:Nat} {p0:Int} {p1:List Aa} {r:Aa} (h:Ct K p0 p1=some r):Ri V P 8 100 Γ (Tryz.f75.body.getD .skip) (Q7 P V Tryz.f75 (.agg [.I r.Op,.str r.Name,.I r.Int,.str r.Text,.ro .Ae r.Kids]) []) ⟨Q6 0 [.I p0,.cv (.ro .Ae p1)],[]⟩:=by
 unfold Ct at h
 refine Q4 L 200 <| Q4 L 202 <| Qy (Qu.trans (Qu.kk [4] [200]) (Qu.rr [(200,100)])) ?_
 refine Qx ?_
 cases h
 exact Rd
theorem Ct.ok {K:Nat} {p0:Int} {p1:List Aa} {r:Aa} (h:Ct K p0 p1=some r):Rb V P 75 [.I p0,.cv (.ro .Ae p1)] (.agg [.I r.Op,.str r.Name,.I r.Int,.str r.Text,.ro .Ae r.Kids]):=Q5.pcall (eo (fn:=Tryz.f75) (n:=8) (m:=100) fun Γ=>Ct.body h) (by kernel_rfl)
def Bg.rep (p0:List UInt8) (p1:Ab):((List Aa)×Ab) ⊕ Int→Sc T
 |(Sum.inl (v0,v1))=>.ret (.cv (.ro .Ae v0))
 |(Sum.inr v0)=>.pan (Rq 49 v0)
def Bg.post (p0:List UInt8) (p1:Ab):((List Aa)×Ab) ⊕ Int→List (Nat×Rj T)
 |(Sum.inl (v0,v1))=>[(0,.raw [.ro .Ak v1.l,.I v1.i])]
 |(Sum.inr v0)=>[]
def Bn.rep (p0:Int) (p1:List UInt8) (p2:Ab):(Aa×Ab) ⊕ Int→Sc T
 |(Sum.inl (v0,v1))=>.ret (.agg [.I v0.Op,.str v0.Name,.I v0.Int,.str v0.Text,.ro .Ae v0.Kids])
 |(Sum.inr v0)=>.pan (Rq 49 v0)
def Bn.post (p0:Int) (p1:List UInt8) (p2:Ab):(Aa×Ab) ⊕ Int→List (Nat×Rj T)
 |(Sum.inl (v0,v1))=>[(0,.raw [.ro .Ak v1.l,.I v1.i])]
 |(Sum.inr v0)=>[]
def B6.rep (p0:Ab):Int ⊕ (Aa×Ab)→Sc T
 |(Sum.inl v0)=>.pan (Rq 49 v0)
 |(Sum.inr (v0,v1))=>.ret (.agg [.I v0.Op,.str v0.Name,.I v0.Int,.str v0.Text,.ro .Ae v0.Kids])
def B6.post (p0:Ab):Int ⊕ (Aa×Ab)→List (Nat×Rj T)
 |(Sum.inl v0)=>[]
 |(Sum.inr (v0,v1))=>[(0,.raw [.ro .Ak v1.l,.I v1.i])]
def Bq.rep (p0:List UInt8) (p1:Ab):((List Aa)×Ab) ⊕ Int→Sc T
 |(Sum.inl (v0,v1))=>.ret (.cv (.ro .Ae v0))
 |(Sum.inr v0)=>.pan (Rq 49 v0)
def Bq.post (p0:List UInt8) (p1:Ab):((List Aa)×Ab) ⊕ Int→List (Nat×Rj T)
 |(Sum.inl (v0,v1))=>[(0,.raw [.ro .Ak v1.l,.I v1.i])]
 |(Sum.inr v0)=>[]
def Bv.rep (p0:Ab):(Aa×Ab) ⊕ Int→Sc T
 |(Sum.inl (v0,v1))=>.ret (.agg [.I v0.Op,.str v0.Name,.I v0.Int,.str v0.Text,.ro .Ae v0.Kids])
 |(Sum.inr v0)=>.pan (Rq 49 v0)
def Bv.post (p0:Ab):(Aa×Ab) ⊕ Int→List (Nat×Rj T)
 |(Sum.inl (v0,v1))=>[(0,.raw [.ro .Ak v1.l,.I v1.i])]
 |(Sum.inr v0)=>[]
def Be.rep (p0:Ab):Int ⊕ (Aa×Ab)→Sc T
 |(Sum.inl v0)=>.pan (Rq 49 v0)
 |(Sum.inr (v0,v1))=>.ret (.agg [.I v0.Op,.str v0.Name,.I v0.Int,.str v0.Text,.ro .Ae v0.Kids])
def Be.post (p0:Ab):Int ⊕ (Aa×Ab)→List (Nat×Rj T)
 |(Sum.inl v0)=>[]
 |(Sum.inr (v0,v1))=>[(0,.raw [.ro .Ak v1.l,.I v1.i])]
def Bb.rep (p0:Ab):Int ⊕ (Aa×Ab)→Sc T
 |(Sum.inl v0)=>.pan (Rq 49 v0)
 |(Sum.inr (v0,v1))=>.ret (.agg [.I v0.Op,.str v0.Name,.I v0.Int,.str v0.Text,.ro .Ae v0.Kids])
def Bb.post (p0:Ab):Int ⊕ (Aa×Ab)→List (Nat×Rj T)
 |(Sum.inl v0)=>[]
 |(Sum.inr (v0,v1))=>[(0,.raw [.ro .Ak v1.l,.I v1.i])]
def Bw.rep (p0:List (List UInt8)) (p1:List Int) (p2:Ab):Int ⊕ (Aa×Ab)→Sc T
 |(Sum.inl v0)=>.pan (Rq 49 v0)
 |(Sum.inr (v0,v1))=>.ret (.agg [.I v0.Op,.str v0.Name,.I v0.Int,.str v0.Text,.ro .Ae v0.Kids])
def Bw.post (p0:List (List UInt8)) (p1:List Int) (p2:Ab):Int ⊕ (Aa×Ab)→List (Nat×Rj T)
 |(Sum.inl v0)=>[]
 |(Sum.inr (v0,v1))=>[(0,.raw [.ro .Ak v1.l,.I v1.i])]
def Bo.rep (p0:Ab):Int ⊕ (Aa×Ab)→Sc T
 |(Sum.inl v0)=>.pan (Rq 49 v0)
 |(Sum.inr (v0,v1))=>.ret (.agg [.I v0.Op,.str v0.Name,.I v0.Int,.str v0.Text,.ro .Ae v0.Kids])
def Bo.post (p0:Ab):Int ⊕ (Aa×Ab)→List (Nat×Rj T)
 |(Sum.inl v0)=>[]
 |(Sum.inr (v0,v1))=>[(0,.raw [.ro .Ak v1.l,.I v1.i])]
def Br.rep (p0:List (List UInt8)) (p1:List Int) (p2:Ab):Int ⊕ (Aa×Ab)→Sc T
 |(Sum.inl v0)=>.pan (Rq 49 v0)
 |(Sum.inr (v0,v1))=>.ret (.agg [.I v0.Op,.str v0.Name,.I v0.Int,.str v0.Text,.ro .Ae v0.Kids])
def Br.post (p0:List (List UInt8)) (p1:List Int) (p2:Ab):Int ⊕ (Aa×Ab)→List (Nat×Rj T)
 |(Sum.inl v0)=>[]
 |(Sum.inr (v0,v1))=>[(0,.raw [.ro .Ak v1.l,.I v1.i])]
def B4.rep (p0:Ab):Int ⊕ (Aa×Ab)→Sc T
 |(Sum.inl v0)=>.pan (Rq 49 v0)
 |(Sum.inr (v0,v1))=>.ret (.agg [.I v0.Op,.str v0.Name,.I v0.Int,.str v0.Text,.ro .Ae v0.Kids])
def B4.post (p0:Ab):Int ⊕ (Aa×Ab)→List (Nat×Rj T)
 |(Sum.inl v0)=>[]
 |(Sum.inr (v0,v1))=>[(0,.raw [.ro .Ak v1.l,.I v1.i])]
def Bm.rep (p0:Ab):Int ⊕ (Aa×Ab)→Sc T
 |(Sum.inl v0)=>.pan (Rq 49 v0)
 |(Sum.inr (v0,v1))=>.ret (.agg [.I v0.Op,.str v0.Name,.I v0.Int,.str v0.Text,.ro .Ae v0.Kids])
def Bm.post (p0:Ab):Int ⊕ (Aa×Ab)→List (Nat×Rj T)
 |(Sum.inl v0)=>[]
 |(Sum.inr (v0,v1))=>[(0,.raw [.ro .Ak v1.l,.I v1.i])]
def Bu.rep (p0:List (List UInt8)) (p1:List Int) (p2:Ab):Int ⊕ (Aa×Ab)→Sc T
 |(Sum.inl v0)=>.pan (Rq 49 v0)
 |(Sum.inr (v0,v1))=>.ret (.agg [.I v0.Op,.str v0.Name,.I v0.Int,.str v0.Text,.ro .Ae v0.Kids])
def Bu.post (p0:List (List UInt8)) (p1:List Int) (p2:Ab):Int ⊕ (Aa×Ab)→List (Nat×Rj T)
 |(Sum.inl v0)=>[]
 |(Sum.inr (v0,v1))=>[(0,.raw [.ro .Ak v1.l,.I v1.i])]
def Cf.rep (p0:Ab):Int ⊕ (Aa×Ab)→Sc T
 |(Sum.inl v0)=>.pan (Rq 49 v0)
 |(Sum.inr (v0,v1))=>.ret (.agg [.I v0.Op,.str v0.Name,.I v0.Int,.str v0.Text,.ro .Ae v0.Kids])
def Cf.post (p0:Ab):Int ⊕ (Aa×Ab)→List (Nat×Rj T)
 |(Sum.inl v0)=>[]
 |(Sum.inr (v0,v1))=>[(0,.raw [.ro .Ak v1.l,.I v1.i])]
def Bt.rep (p0:List (List UInt8)) (p1:List Int) (p2:Ab):Int ⊕ (Aa×Ab)→Sc T
 |(Sum.inl v0)=>.pan (Rq 49 v0)
 |(Sum.inr (v0,v1))=>.ret (.agg [.I v0.Op,.str v0.Name,.I v0.Int,.str v0.Text,.ro .Ae v0.Kids])
def Bt.post (p0:List (List UInt8)) (p1:List Int) (p2:Ab):Int ⊕ (Aa×Ab)→List (Nat×Rj T)
 |(Sum.inl v0)=>[]
 |(Sum.inr (v0,v1))=>[(0,.raw [.ro .Ak v1.l,.I v1.i])]
def Ax.rep (p0:Ab):Int ⊕ (Aa×Ab)→Sc T
 |(Sum.inl v0)=>.pan (Rq 49 v0)
 |(Sum.inr (v0,v1))=>.ret (.agg [.I v0.Op,.str v0.Name,.I v0.Int,.str v0.Text,.ro .Ae v0.Kids])
def Ax.post (p0:Ab):Int ⊕ (Aa×Ab)→List (Nat×Rj T)
 |(Sum.inl v0)=>[]
 |(Sum.inr (v0,v1))=>[(0,.raw [.ro .Ak v1.l,.I v1.i])]
structure Ai where
 Bg:(List UInt8)→Ab→Option (((List Aa)×Ab) ⊕ Int)
 Bn:Int→(List UInt8)→Ab→Option ((Aa×Ab) ⊕ Int)
 B6:Ab→Option (Int ⊕ (Aa×Ab))
 Bq:(List UInt8)→Ab→Option (((List Aa)×Ab) ⊕ Int)
 Bv:Ab→Option ((Aa×Ab) ⊕ Int)
 Be:Ab→Option (Int ⊕ (Aa×Ab))
 Bb:Ab→Option (Int ⊕ (Aa×Ab))
 Bw:(List (List UInt8))→(List Int)→Ab→Option (Int ⊕ (Aa×Ab))
 Bo:Ab→Option (Int ⊕ (Aa×Ab))
 Br:(List (List UInt8))→(List Int)→Ab→Option (Int ⊕ (Aa×Ab))
 B4:Ab→Option (Int ⊕ (Aa×Ab))
 Bm:Ab→Option (Int ⊕ (Aa×Ab))
 Bu:(List (List UInt8))→(List Int)→Ab→Option (Int ⊕ (Aa×Ab))
 Cf:Ab→Option (Int ⊕ (Aa×Ab))
 Bt:(List (List UInt8))→(List Int)→Ab→Option (Int ⊕ (Aa×Ab))
 Ax:Ab→Option (Int ⊕ (Aa×Ab))
structure Ai.Ok (R:Ai):Prop where
 Bg:∀ {p0:List UInt8} {p1:Ab} {r:((List Aa)×Ab) ⊕ Int},R.Bg p0 p1=some r→Rp V P 48 [.P 0,.cv (.str p0),.cv (.fn (.func 32) [.P 0] [])] [(0,.raw (Af p1))] [0] (Bg.post p0 p1 r) (Bg.rep p0 p1 r)
 Bn:∀ {p0:Int} {p1:List UInt8} {p2:Ab} {r:(Aa×Ab) ⊕ Int},R.Bn p0 p1 p2=some r→Rp V P 106 [.P 0,.I p0,.cv (.str p1)] [(0,.raw (Af p2))] [0] (Bn.post p0 p1 p2 r) (Bn.rep p0 p1 p2 r)
 B6:∀ {p0:Ab} {r:Int ⊕ (Aa×Ab)},R.B6 p0=some r→Rp V P 166 [.P 0] [(0,.raw (Af p0))] [0] (B6.post p0 r) (B6.rep p0 r)
 Bq:∀ {p0:List UInt8} {p1:Ab} {r:((List Aa)×Ab) ⊕ Int},R.Bq p0 p1=some r→Rp V P 48 [.P 0,.cv (.str p0),.cv (.fn (.func 166) [.P 0] [])] [(0,.raw (Af p1))] [0] (Bq.post p0 p1 r) (Bq.rep p0 p1 r)
 Bv:∀ {p0:Ab} {r:(Aa×Ab) ⊕ Int},R.Bv p0=some r→Rp V P 163 [.P 0] [(0,.raw (Af p0))] [0] (Bv.post p0 r) (Bv.rep p0 r)
 Be:∀ {p0:Ab} {r:Int ⊕ (Aa×Ab)},R.Be p0=some r→Rp V P 156 [.P 0] [(0,.raw (Af p0))] [0] (Be.post p0 r) (Be.rep p0 r)
 Bb:∀ {p0:Ab} {r:Int ⊕ (Aa×Ab)},R.Bb p0=some r→Rp V P 146 [.P 0] [(0,.raw (Af p0))] [0] (Bb.post p0 r) (Bb.rep p0 r)
 Bw:∀ {p0:List (List UInt8)} {p1:List Int} {p2:Ab} {r:Int ⊕ (Aa×Ab)},R.Bw p0 p1 p2=some r→Rp V P 62 [.P 0,.cv (.fn (.func 146) [.P 0] []),.cv (.ro .C8 p0),.cv (.ro .Fg p1)] [(0,.raw (Af p2))] [0] (Bw.post p0 p1 p2 r) (Bw.rep p0 p1 p2 r)
 Bo:∀ {p0:Ab} {r:Int ⊕ (Aa×Ab)},R.Bo p0=some r→Rp V P 137 [.P 0] [(0,.raw (Af p0))] [0] (Bo.post p0 r) (Bo.rep p0 r)
 Br:∀ {p0:List (List UInt8)} {p1:List Int} {p2:Ab} {r:Int ⊕ (Aa×Ab)},R.Br p0 p1 p2=some r→Rp V P 62 [.P 0,.cv (.fn (.func 137) [.P 0] []),.cv (.ro .C8 p0),.cv (.ro .Fg p1)] [(0,.raw (Af p2))] [0] (Br.post p0 p1 p2 r) (Br.rep p0 p1 p2 r)
 B4:∀ {p0:Ab} {r:Int ⊕ (Aa×Ab)},R.B4 p0=some r→Rp V P 122 [.P 0] [(0,.raw (Af p0))] [0] (B4.post p0 r) (B4.rep p0 r)
 Bm:∀ {p0:Ab} {r:Int ⊕ (Aa×Ab)},R.Bm p0=some r→Rp V P 93 [.P 0] [(0,.raw (Af p0))] [0] (Bm.post p0 r) (Bm.rep p0 r)
 Bu:∀ {p0:List (List UInt8)} {p1:List Int} {p2:Ab} {r:Int ⊕ (Aa×Ab)},R.Bu p0 p1 p2=some r→Rp V P 62 [.P 0,.cv (.fn (.func 93) [.P 0] []),.cv (.ro .C8 p0),.cv (.ro .Fg p1)] [(0,.raw (Af p2))] [0] (Bu.post p0 p1 p2 r) (Bu.rep p0 p1 p2 r)
 Cf:∀ {p0:Ab} {r:Int ⊕ (Aa×Ab)},R.Cf p0=some r→Rp V P 63 [.P 0] [(0,.raw (Af p0))] [0] (Cf.post p0 r) (Cf.rep p0 r)
 Bt:∀ {p0:List (List UInt8)} {p1:List Int} {p2:Ab} {r:Int ⊕ (Aa×Ab)},R.Bt p0 p1 p2=some r→Rp V P 62 [.P 0,.cv (.fn (.func 63) [.P 0] []),.cv (.ro .C8 p0),.cv (.ro .Fg p1)] [(0,.raw (Af p2))] [0] (Bt.post p0 p1 p2 r) (Bt.rep p0 p1 p2 r)
 Ax:∀ {p0:Ab} {r:Int ⊕ (Aa×Ab)},R.Ax p0=some r→Rp V P 32 [.P 0] [(0,.raw (Af p0))] [0] (Ax.post p0 r) (Ax.rep p0 r)
def Bg.l15 (K:Nat) (R:Ai):Nat→(List Al)→Int→(List Aa)→Option (Q9 (((List Aa)×Ab) ⊕ Int) ((List Al)×Int×(List Aa)))
 | 0,_,_,_=>none
 | k+1,xh0_0_15h,xh0_1_15h,x23100=>(Option.bind (Ao K ([44]:List UInt8) (⟨xh0_0_15h,xh0_1_15h⟩:Ab)) (fun (a3_0,a3_1)=>(if a3_0=true then (Option.bind (R.Ax a3_1) (fun a4=>match a4 with |(Sum.inl a4)=>some (Q9.done (Sum.inr a4)) |(Sum.inr (a4_0,a4_1))=>(if (x23100.length+([(⟨a4_0.Op,a4_0.Name,a4_0.Int,a4_0.Text,a4_0.Kids⟩:Aa)]:List Aa).length) * 72≤140737488355328 then Bg.l15 K R k a4_1.l a4_1.i (x23100++([(⟨a4_0.Op,a4_0.Name,a4_0.Int,a4_0.Text,a4_0.Kids⟩:Aa)]:List Aa)) else none))) else some (Q9.go (a3_1.l,a3_1.i,x23100)))))
def Bg.F (K:Nat) (R:Ai) (p0:List UInt8) (p1:Ab):Option (((List Aa)×Ab) ⊕ Int):=(Option.bind (Ao K p0 p1) (fun (a1_0,a1_1)=>(if a1_0=true then some (Sum.inl (([]:List Aa),a1_1)) else (Option.bind (R.Ax a1_1) (fun a2=>match a2 with |(Sum.inl a2)=>some (Sum.inr a2) |(Sum.inr (a2_0,a2_1))=>(obind (Bg.l15 K R K a2_1.l a2_1.i ([(⟨a2_0.Op,a2_0.Name,a2_0.Int,a2_0.Text,a2_0.Kids⟩:Aa)]:List Aa):Option (Q9 (((List Aa)×Ab) ⊕ Int) ((List Al)×Int×(List Aa)))) (fun r=>r) (fun (xh0_0_15,xh0_1_15,x23000)=>(Option.bind (Aq K p0 (⟨xh0_0_15,xh0_1_15⟩:Ab)) (fun a5=>match a5 with |(Sum.inl a5)=>some (Sum.inl (x23000,a5)) |(Sum.inr a5)=>some (Sum.inr a5))))))))))
theorem Bg.body {Γ:Rm} {K:Nat} {R:Ai} (hR:R.Ok) {p0:List UInt8} {p1:Ab} {r:((List Aa)×Ab) ⊕ Int} (h:Bg.F K R p0 p1=some r):Ri V P 25 100 Γ (Tryz.f48.body.getD .skip) (Rr P V Tryz.f48 (Bg.rep p0 p1 r) (Bg.post p0 p1 r)) ⟨Q6 0 [.P 0,.cv (.str p0),.cv (.fn (.func 32) [.P 0] [])],[(0,.raw (Af p1))]⟩:=by
 unfold Bg.F at h
 refine Q4 L 200 <| Qv <| Qv ?_
 obtain ⟨⟨a1_0,a1_1⟩,h1,h⟩:=bind_some h
 dsimp only at h
 refine rg L 202 [] [] [(2,(Rc (.B a1_0) [(0,.raw (Af a1_1))]))] (Q3 (Ao.okE h1)) ?_
 rcases Qw h with ⟨c1,h⟩ |⟨c1,h⟩
 ·refine tt c1 <| Q4 L 206 <| Qx ?_
  cases h
  exact Sw
 refine fN c1 <| Q0 <| Qv ?_
 obtain ⟨a2,h2,h⟩:=bind_some h
 rcases a2 with a2 | a2
 ·dsimp only at h
  refine qn L 100208 [] [] [] 1 (Rc (.tup []) []) (Rq 49 a2) (Q3 (hR.Ax h2)) ?_
  cases h
  exact rfl
 ·obtain ⟨a2_0,a2_1⟩:=a2
  dsimp only at h
  refine rg L 100208 [] [] [(1,(Rc (.agg (Aj a2_0)) [(0,.raw (Af a2_1))]))] (Q3 (hR.Ax h2)) ?_
  refine Qv <| Q2 <| Qy (Qu.trans (Qu.kk [0,1,2,7] [0,100210]) (Qu.rr [(0,0),(100210,23100)])) ?_
  refine kp (S':=⟨[(0,.P 0),(1,.cv (.str p0)),(2,.cv (.fn (.func 32) [.P 0] [])),(7,.cv (.own .Ae 23100))],[(0,.raw (Af a2_1)),(23100,.lst .Ae ([(⟨a2_0.Op,a2_0.Name,a2_0.Int,a2_0.Text,a2_0.Kids⟩:Aa)]:List Aa))]⟩) ?_
  obtain ⟨o1,hp1,h⟩:=Rf h
  refine Ra (Q':=fun e S=>(e=.exit 0∧∃ xh0_0_15:List Al,∃ xh0_1_15:Int,∃ x23000:List Aa,S=⟨[(0,.P 0),(1,.cv (.str p0)),(7,.cv (.own .Ae 23000))],[(0,.raw [.ro .Ak xh0_0_15,.I xh0_1_15]),(23000,.lst .Ae x23000)]⟩∧Q9.go (xh0_0_15,xh0_1_15,x23000)=o1)∨((e=.ret∨∃ ch,e=.panic ch)∧∃ a,Q9.done a=o1∧Rr P V Tryz.f48 (Bg.rep p0 p1 a) (Bg.post p0 p1 a) e S)) (Rh (fun k S=>∃ xh0_0_15h:List Al,∃ xh0_1_15h:Int,∃ x23100:List Aa,S=⟨[(0,.P 0),(1,.cv (.str p0)),(2,.cv (.fn (.func 32) [.P 0] [])),(7,.cv (.own .Ae 23100))],[(0,.raw [.ro .Ak xh0_0_15h,.I xh0_1_15h]),(23100,.lst .Ae x23100)]⟩∧Bg.l15 K R k xh0_0_15h xh0_1_15h x23100=some o1) ?_ ⟨_,_,_,rfl,hp1⟩) ?_
  ·clear h hp1
   intro k S hS
   obtain ⟨xh0_0_15h,xh0_1_15h,x23100,rfl,h⟩:=hS
   cases k with
   | zero=>cases h
   | succ k =>
   unfold Bg.l15 at h
   refine Qv <| Qv ?_
   obtain ⟨⟨a3_0,a3_1⟩,h3,h⟩:=bind_some h
   dsimp only at h
   refine rg L 213 [] [] [(1,(Rc (.B a3_0) [(0,.raw (Af a3_1))]))] (Q3 (Ao.okE h3)) ?_
   rcases Qw h with ⟨c2,h⟩ |⟨c2,h⟩
   ·refine tt c2 <| Q0 <| Q2 ?_
    obtain ⟨a4,h4,h⟩:=bind_some h
    rcases a4 with a4 | a4
    ·dsimp only at h
     refine qn L 216 [] [] [] 2 (Rc (.tup []) []) (Rq 49 a4) (Q3 (hR.Ax h4)) ?_
     cases h
     exact .inr ⟨.inr ⟨_,rfl⟩,_,rfl,rfl⟩
    ·obtain ⟨a4_0,a4_1⟩:=a4
     dsimp only at h
     obtain ⟨g1,h⟩:=Q1 h
     refine ar L 216 [] [] [(2,(Rc (.agg (Aj a4_0)) [(0,.raw (Af a4_1))]))] (cs:=[Q5 V P 32 [.P 0] [(0,.raw (Af a3_1))] [0] (.agg (Aj a4_0)) [(0,.raw (Af a4_1))],(x23100.length+([(⟨a4_0.Op,a4_0.Name,a4_0.Int,a4_0.Text,a4_0.Kids⟩:Aa)]:List Aa).length) * 72≤140737488355328,True]) (S':=⟨[(0,.P 0),(1,.cv (.str p0)),(2,.cv (.fn (.func 32) [.P 0] [])),(7,.cv (.own .Ae 23100))],[(0,.raw (Af a4_1)),(23100,.lst .Ae (x23100++([(⟨a4_0.Op,a4_0.Name,a4_0.Int,a4_0.Text,a4_0.Kids⟩:Aa)]:List Aa)))]⟩) (And.intro (hR.Ax h4) (And.intro g1 trivial)) ?_
     exact ⟨k,Nat.lt_succ_self k,_,_,_,rfl,h⟩
   refine fN c2 <| Qy (Qu.trans (Qu.kk [0,1,7] [0,23100]) (Qu.rr [(0,0),(23100,23000)])) ?_
   refine ex (S':=⟨[(0,.P 0),(1,.cv (.str p0)),(7,.cv (.own .Ae 23000))],[(0,.raw (Af a3_1)),(23000,.lst .Ae x23100)]⟩) ?_
   cases h
   exact .inl ⟨rfl,_,_,_,rfl,rfl⟩
  ·rintro e S (⟨rfl,xh0_0_15,xh0_1_15,x23000,rfl,rfl⟩ |⟨he,a,rfl,hr⟩)
   ·rcases h with ⟨_,e1,h⟩ |⟨_,e1,h⟩
    ·cases e1
    ·have e2:=Q9.go.inj e1
     subst e2
     dsimp only at h
     refine ⟨_,Qu.refl,?_⟩
     refine Qv ?_
     obtain ⟨a5,h5,h⟩:=bind_some h
     rcases a5 with a5 | a5
     ·dsimp only at h
      refine rg L 223 [] [] [(2,(Rc (.tup []) [(0,.raw (Af a5))]))] (Q3 (Aq.okE h5)) ?_
      refine Q4 L 227 <| Qy (Qu.trans (Qu.kk [6] [0,23000]) (Qu.fz 23000)) ?_
      refine Qx ?_
      cases h
      exact Sw
     ·obtain ⟨a5,rfl⟩:∃ z,z=a5:=⟨_,rfl⟩
      dsimp only at h
      refine qn L 223 [] [] [] 2 (Rc (.tup []) []) (Rq 49 a5) (Q3 (Aq.okE h5)) ?_
      cases h
      exact rfl
   ·rcases h with ⟨_,e1,h⟩ |⟨_,e1,h⟩
    ·have e2:=Q9.done.inj e1
     subst e2
     subst h
     rcases he with rfl |⟨ch,rfl⟩
     ·exact ⟨_,Qu.refl,hr⟩
     ·exact ⟨_,Qu.refl,hr⟩
    ·cases e1
def Bn.F (K:Nat) (R:Ai) (p0:Int) (p1:List UInt8) (p2:Ab):Option ((Aa×Ab) ⊕ Int):=(Option.bind (Aq K ([40]:List UInt8) p2) (fun a1=>match a1 with |(Sum.inl a1)=>(Option.bind (R.Bg ([41]:List UInt8) a1) (fun a2=>match a2 with |(Sum.inl (a2_0,a2_1))=>some (Sum.inl ((⟨p0,p1,0,[],a2_0⟩:Aa),a2_1)) |(Sum.inr a2)=>some (Sum.inr a2))) |(Sum.inr a1)=>some (Sum.inr a1)))
theorem Bn.body {Γ:Rm} {K:Nat} {R:Ai} (hR:R.Ok) {p0:Int} {p1:List UInt8} {p2:Ab} {r:(Aa×Ab) ⊕ Int} (h:Bn.F K R p0 p1 p2=some r):Ri V P 16 100 Γ (Tryz.f106.body.getD .skip) (Rr P V Tryz.f106 (Bn.rep p0 p1 p2 r) (Bn.post p0 p1 p2 r)) ⟨Q6 0 [.P 0,.I p0,.cv (.str p1)],[(0,.raw (Af p2))]⟩:=by
 unfold Bn.F at h
 refine Q4 L 200 <| Qv ?_
 obtain ⟨a1,h1,h⟩:=bind_some h
 rcases a1 with a1 | a1
 ·dsimp only at h
  refine rg L 202 [] [] [(1,(Rc (.tup []) [(0,.raw (Af a1))]))] (Q3 (Aq.okE h1)) ?_
  refine Qv ?_
  obtain ⟨a2,h2,h⟩:=bind_some h
  rcases a2 with ⟨a2_0,a2_1⟩ | a2
  ·dsimp only at h
   refine rg L 205 [] [] [(5,(Rc (.cv (.ro .Ae a2_0)) [(0,.raw (Af a2_1))]))] (Q3 (hR.Bg h2)) ?_
   refine Qy (Qu.trans (Qu.kk [6] [0,200]) (Qu.rr [(0,0),(200,100)])) ?_
   refine Qx ?_
   cases h
   exact Sw
  ·obtain ⟨a2,rfl⟩:∃ z,z=a2:=⟨_,rfl⟩
   dsimp only at h
   refine qn L 205 [] [] [] 5 (Rc (.tup []) []) (Rq 49 a2) (Q3 (hR.Bg h2)) ?_
   cases h
   exact rfl
 ·obtain ⟨a1,rfl⟩:∃ z,z=a1:=⟨_,rfl⟩
  dsimp only at h
  refine qn L 202 [] [] [] 1 (Rc (.tup []) []) (Rq 49 a1) (Q3 (Aq.okE h1)) ?_
  cases h
  exact rfl
def B6.F (K:Nat) (R:Ai) (p0:Ab):Option (Int ⊕ (Aa×Ab)):=(Option.bind (Bx K p0) (fun a1=>(if a1.Kind≠4 then (Option.bind (Bl K p0) (fun a2=>some (Sum.inl a2))) else (Option.bind (D0 K p0) (fun (a3_0,a3_1)=>(Option.bind (Aq K ([58]:List UInt8) a3_1) (fun a4=>match a4 with |(Sum.inl a4)=>(Option.bind (R.Ax a4) (fun a5=>match a5 with |(Sum.inl a5)=>some (Sum.inl a5) |(Sum.inr (a5_0,a5_1))=>some (Sum.inr ((⟨9,[],0,a3_0.Text,([(⟨a5_0.Op,a5_0.Name,a5_0.Int,a5_0.Text,a5_0.Kids⟩:Aa)]:List Aa)⟩:Aa),a5_1)))) |(Sum.inr a4)=>some (Sum.inl a4))))))))
theorem B6.body {Γ:Rm} {K:Nat} {R:Ai} (hR:R.Ok) {p0:Ab} {r:Int ⊕ (Aa×Ab)} (h:B6.F K R p0=some r):Ri V P 21 100 Γ (Tryz.f166.body.getD .skip) (Rr P V Tryz.f166 (B6.rep p0 r) (B6.post p0 r)) ⟨Q6 0 [.P 0],[(0,.raw (Af p0))]⟩:=by
 unfold B6.F at h
 refine Q4 L 200 <| Qv <| Qv ?_
 obtain ⟨a1,h1,h⟩:=bind_some h
 refine rg L 202 [] [(1,.agg (D8 a1))] [] (R6 (Bx.ok h1)) ?_
 rcases Qw h with ⟨c1,h⟩ |⟨c1,h⟩
 ·refine tT c1 ?_
  obtain ⟨a2,h2,h⟩:=bind_some h
  refine qn L 207 [] [] [] 1 (Rc (.tup []) []) (Rq 49 a2) (Q3 (Bl.okE h2)) ?_
  cases h
  exact rfl
 refine fF c1 <| Q0 <| Qv ?_
 obtain ⟨⟨a3_0,a3_1⟩,h3,h⟩:=bind_some h
 dsimp only at h
 refine rg L 210 [] [] [(1,(Rc (.agg (D8 a3_0)) [(0,.raw (Af a3_1))]))] (Q3 (D0.okE h3)) ?_
 refine Qv ?_
 obtain ⟨a4,h4,h⟩:=bind_some h
 rcases a4 with a4 | a4
 ·dsimp only at h
  refine rg L 217 [] [] [(1,(Rc (.tup []) [(0,.raw (Af a4))]))] (Q3 (Aq.okE h4)) ?_
  refine Qv ?_
  obtain ⟨a5,h5,h⟩:=bind_some h
  rcases a5 with a5 | a5
  ·dsimp only at h
   refine qn L 220 [] [] [] 1 (Rc (.tup []) []) (Rq 49 a5) (Q3 (hR.Ax h5)) ?_
   cases h
   exact rfl
  ·obtain ⟨a5_0,a5_1⟩:=a5
   dsimp only at h
   refine rg L 220 [] [] [(1,(Rc (.agg (Aj a5_0)) [(0,.raw (Af a5_1))]))] (Q3 (hR.Ax h5)) ?_
   refine Q4 L 226 <| Qy (Qu.trans (Qu.kk [2] [0,200]) (Qu.rr [(0,0),(200,100)])) ?_
   refine Qx ?_
   cases h
   exact Sw
 ·obtain ⟨a4,rfl⟩:∃ z,z=a4:=⟨_,rfl⟩
  dsimp only at h
  refine qn L 217 [] [] [] 1 (Rc (.tup []) []) (Rq 49 a4) (Q3 (Aq.okE h4)) ?_
  cases h
  exact rfl
def Bq.l15 (K:Nat) (R:Ai):Nat→(List Al)→Int→(List Aa)→Option (Q9 (((List Aa)×Ab) ⊕ Int) ((List Al)×Int×(List Aa)))
 | 0,_,_,_=>none
 | k+1,xh0_0_15h,xh0_1_15h,x23100=>(Option.bind (Ao K ([44]:List UInt8) (⟨xh0_0_15h,xh0_1_15h⟩:Ab)) (fun (a3_0,a3_1)=>(if a3_0=true then (Option.bind (R.B6 a3_1) (fun a4=>match a4 with |(Sum.inl a4)=>some (Q9.done (Sum.inr a4)) |(Sum.inr (a4_0,a4_1))=>(if (x23100.length+([(⟨a4_0.Op,a4_0.Name,a4_0.Int,a4_0.Text,a4_0.Kids⟩:Aa)]:List Aa).length) * 72≤140737488355328 then Bq.l15 K R k a4_1.l a4_1.i (x23100++([(⟨a4_0.Op,a4_0.Name,a4_0.Int,a4_0.Text,a4_0.Kids⟩:Aa)]:List Aa)) else none))) else some (Q9.go (a3_1.l,a3_1.i,x23100)))))
def Bq.F (K:Nat) (R:Ai) (p0:List UInt8) (p1:Ab):Option (((List Aa)×Ab) ⊕ Int):=(Option.bind (Ao K p0 p1) (fun (a1_0,a1_1)=>(if a1_0=true then some (Sum.inl (([]:List Aa),a1_1)) else (Option.bind (R.B6 a1_1) (fun a2=>match a2 with |(Sum.inl a2)=>some (Sum.inr a2) |(Sum.inr (a2_0,a2_1))=>(obind (Bq.l15 K R K a2_1.l a2_1.i ([(⟨a2_0.Op,a2_0.Name,a2_0.Int,a2_0.Text,a2_0.Kids⟩:Aa)]:List Aa):Option (Q9 (((List Aa)×Ab) ⊕ Int) ((List Al)×Int×(List Aa)))) (fun r=>r) (fun (xh0_0_15,xh0_1_15,x23000)=>(Option.bind (Aq K p0 (⟨xh0_0_15,xh0_1_15⟩:Ab)) (fun a5=>match a5 with |(Sum.inl a5)=>some (Sum.inl (x23000,a5)) |(Sum.inr a5)=>some (Sum.inr a5))))))))))
theorem Bq.body {Γ:Rm} {K:Nat} {R:Ai} (hR:R.Ok) {p0:List UInt8} {p1:Ab} {r:((List Aa)×Ab) ⊕ Int} (h:Bq.F K R p0 p1=some r):Ri V P 25 100 Γ (Tryz.f48.body.getD .skip) (Rr P V Tryz.f48 (Bq.rep p0 p1 r) (Bq.post p0 p1 r)) ⟨Q6 0 [.P 0,.cv (.str p0),.cv (.fn (.func 166) [.P 0] [])],[(0,.raw (Af p1))]⟩:=by
 unfold Bq.F at h
 refine Q4 L 200 <| Qv <| Qv ?_
 obtain ⟨⟨a1_0,a1_1⟩,h1,h⟩:=bind_some h
 dsimp only at h
 refine rg L 202 [] [] [(2,(Rc (.B a1_0) [(0,.raw (Af a1_1))]))] (Q3 (Ao.okE h1)) ?_
 rcases Qw h with ⟨c1,h⟩ |⟨c1,h⟩
 ·refine tt c1 <| Q4 L 206 <| Qx ?_
  cases h
  exact Sw
 refine fN c1 <| Q0 <| Qv ?_
 obtain ⟨a2,h2,h⟩:=bind_some h
 rcases a2 with a2 | a2
 ·dsimp only at h
  refine qn L 100208 [] [] [] 1 (Rc (.tup []) []) (Rq 49 a2) (Q3 (hR.B6 h2)) ?_
  cases h
  exact rfl
 ·obtain ⟨a2_0,a2_1⟩:=a2
  dsimp only at h
  refine rg L 100208 [] [] [(1,(Rc (.agg (Aj a2_0)) [(0,.raw (Af a2_1))]))] (Q3 (hR.B6 h2)) ?_
  refine Qv <| Q2 <| Qy (Qu.trans (Qu.kk [0,1,2,7] [0,100210]) (Qu.rr [(0,0),(100210,23100)])) ?_
  refine kp (S':=⟨[(0,.P 0),(1,.cv (.str p0)),(2,.cv (.fn (.func 166) [.P 0] [])),(7,.cv (.own .Ae 23100))],[(0,.raw (Af a2_1)),(23100,.lst .Ae ([(⟨a2_0.Op,a2_0.Name,a2_0.Int,a2_0.Text,a2_0.Kids⟩:Aa)]:List Aa))]⟩) ?_
  obtain ⟨o1,hp1,h⟩:=Rf h
  refine Ra (Q':=fun e S=>(e=.exit 0∧∃ xh0_0_15:List Al,∃ xh0_1_15:Int,∃ x23000:List Aa,S=⟨[(0,.P 0),(1,.cv (.str p0)),(7,.cv (.own .Ae 23000))],[(0,.raw [.ro .Ak xh0_0_15,.I xh0_1_15]),(23000,.lst .Ae x23000)]⟩∧Q9.go (xh0_0_15,xh0_1_15,x23000)=o1)∨((e=.ret∨∃ ch,e=.panic ch)∧∃ a,Q9.done a=o1∧Rr P V Tryz.f48 (Bq.rep p0 p1 a) (Bq.post p0 p1 a) e S)) (Rh (fun k S=>∃ xh0_0_15h:List Al,∃ xh0_1_15h:Int,∃ x23100:List Aa,S=⟨[(0,.P 0),(1,.cv (.str p0)),(2,.cv (.fn (.func 166) [.P 0] [])),(7,.cv (.own .Ae 23100))],[(0,.raw [.ro .Ak xh0_0_15h,.I xh0_1_15h]),(23100,.lst .Ae x23100)]⟩∧Bq.l15 K R k xh0_0_15h xh0_1_15h x23100=some o1) ?_ ⟨_,_,_,rfl,hp1⟩) ?_
  ·clear h hp1
   intro k S hS
   obtain ⟨xh0_0_15h,xh0_1_15h,x23100,rfl,h⟩:=hS
   cases k with
   | zero=>cases h
   | succ k =>
   unfold Bq.l15 at h
   refine Qv <| Qv ?_
   obtain ⟨⟨a3_0,a3_1⟩,h3,h⟩:=bind_some h
   dsimp only at h
   refine rg L 213 [] [] [(1,(Rc (.B a3_0) [(0,.raw (Af a3_1))]))] (Q3 (Ao.okE h3)) ?_
   rcases Qw h with ⟨c2,h⟩ |⟨c2,h⟩
   ·refine tt c2 <| Q0 <| Q2 ?_
    obtain ⟨a4,h4,h⟩:=bind_some h
    rcases a4 with a4 | a4
    ·dsimp only at h
     refine qn L 216 [] [] [] 2 (Rc (.tup []) []) (Rq 49 a4) (Q3 (hR.B6 h4)) ?_
     cases h
     exact .inr ⟨.inr ⟨_,rfl⟩,_,rfl,rfl⟩
    ·obtain ⟨a4_0,a4_1⟩:=a4
     dsimp only at h
     obtain ⟨g1,h⟩:=Q1 h
     refine ar L 216 [] [] [(2,(Rc (.agg (Aj a4_0)) [(0,.raw (Af a4_1))]))] (cs:=[Q5 V P 166 [.P 0] [(0,.raw (Af a3_1))] [0] (.agg (Aj a4_0)) [(0,.raw (Af a4_1))],(x23100.length+([(⟨a4_0.Op,a4_0.Name,a4_0.Int,a4_0.Text,a4_0.Kids⟩:Aa)]:List Aa).length) * 72≤140737488355328,True]) (S':=⟨[(0,.P 0),(1,.cv (.str p0)),(2,.cv (.fn (.func 166) [.P 0] [])),(7,.cv (.own .Ae 23100))],[(0,.raw (Af a4_1)),(23100,.lst .Ae (x23100++([(⟨a4_0.Op,a4_0.Name,a4_0.Int,a4_0.Text,a4_0.Kids⟩:Aa)]:List Aa)))]⟩) (And.intro (hR.B6 h4) (And.intro g1 trivial)) ?_
     exact ⟨k,Nat.lt_succ_self k,_,_,_,rfl,h⟩
   refine fN c2 <| Qy (Qu.trans (Qu.kk [0,1,7] [0,23100]) (Qu.rr [(0,0),(23100,23000)])) ?_
   refine ex (S':=⟨[(0,.P 0),(1,.cv (.str p0)),(7,.cv (.own .Ae 23000))],[(0,.raw (Af a3_1)),(23000,.lst .Ae x23100)]⟩) ?_
   cases h
   exact .inl ⟨rfl,_,_,_,rfl,rfl⟩
  ·rintro e S (⟨rfl,xh0_0_15,xh0_1_15,x23000,rfl,rfl⟩ |⟨he,a,rfl,hr⟩)
   ·rcases h with ⟨_,e1,h⟩ |⟨_,e1,h⟩
    ·cases e1
    ·have e2:=Q9.go.inj e1
     subst e2
     dsimp only at h
     refine ⟨_,Qu.refl,?_⟩
     refine Qv ?_
     obtain ⟨a5,h5,h⟩:=bind_some h
     rcases a5 with a5 | a5
     ·dsimp only at h
      refine rg L 223 [] [] [(2,(Rc (.tup []) [(0,.raw (Af a5))]))] (Q3 (Aq.okE h5)) ?_
      refine Q4 L 227 <| Qy (Qu.trans (Qu.kk [6] [0,23000]) (Qu.fz 23000)) ?_
      refine Qx ?_
      cases h
      exact Sw
     ·obtain ⟨a5,rfl⟩:∃ z,z=a5:=⟨_,rfl⟩
      dsimp only at h
      refine qn L 223 [] [] [] 2 (Rc (.tup []) []) (Rq 49 a5) (Q3 (Aq.okE h5)) ?_
      cases h
      exact rfl
   ·rcases h with ⟨_,e1,h⟩ |⟨_,e1,h⟩
    ·have e2:=Q9.done.inj e1
     subst e2
     subst h
     rcases he with rfl |⟨ch,rfl⟩
     ·exact ⟨_,Qu.refl,hr⟩
     ·exact ⟨_,Qu.refl,hr⟩
    ·cases e1
def Bv.F (K:Nat) (R:Ai) (p0:Ab):Option ((Aa×Ab) ⊕ Int):=(Option.bind (Dz K p0) (fun (a1_0,a1_1,a1_2)=>(if a1_1=true then some (Sum.inl (a1_0,a1_2)) else (Option.bind (Bx K a1_2) (fun a2=>(if a2.Kind=1 then (Option.bind (Ay K a1_2) (fun a3=>match a3 with |(Sum.inl a3)=>some (Sum.inr a3) |(Sum.inr (a3_0,a3_1))=>(Option.bind (D7 K a3_1 ([40]:List UInt8)) (fun a4=>(if a4=true then (Option.bind (R.Bn 10 a3_0 a3_1) (fun a5=>match a5 with |(Sum.inl (a5_0,a5_1))=>some (Sum.inl (a5_0,a5_1)) |(Sum.inr a5)=>some (Sum.inr a5))) else some (Sum.inl ((⟨6,a3_0,0,[],([]:List Aa)⟩:Aa),a3_1))))))) else (Option.bind (Ao K ([91]:List UInt8) a1_2) (fun (a6_0,a6_1)=>(if a6_0=true then (Option.bind (R.Bg ([93]:List UInt8) a6_1) (fun a7=>match a7 with |(Sum.inl (a7_0,a7_1))=>some (Sum.inl ((⟨7,[],0,[],a7_0⟩:Aa),a7_1)) |(Sum.inr a7)=>some (Sum.inr a7))) else (Option.bind (Ao K ([123]:List UInt8) a6_1) (fun (a8_0,a8_1)=>(if a8_0=true then (Option.bind (R.Bq ([125]:List UInt8) a8_1) (fun a9=>match a9 with |(Sum.inl (a9_0,a9_1))=>some (Sum.inl ((⟨8,[],0,[],a9_0⟩:Aa),a9_1)) |(Sum.inr a9)=>some (Sum.inr a9))) else (Option.bind (Aq K ([40]:List UInt8) a8_1) (fun a10=>match a10 with |(Sum.inl a10)=>(Option.bind (R.Ax a10) (fun a11=>match a11 with |(Sum.inl a11)=>some (Sum.inr a11) |(Sum.inr (a11_0,a11_1))=>(Option.bind (Aq K ([41]:List UInt8) a11_1) (fun a12=>match a12 with |(Sum.inl a12)=>some (Sum.inl (a11_0,a12)) |(Sum.inr a12)=>some (Sum.inr a12))))) |(Sum.inr a10)=>some (Sum.inr a10)))))))))))))))
theorem Bv.body {Γ:Rm} {K:Nat} {R:Ai} (hR:R.Ok) {p0:Ab} {r:(Aa×Ab) ⊕ Int} (h:Bv.F K R p0=some r):Ri V P 51 100 Γ (Tryz.f163.body.getD .skip) (Rr P V Tryz.f163 (Bv.rep p0 r) (Bv.post p0 r)) ⟨Q6 0 [.P 0],[(0,.raw (Af p0))]⟩:=by
 unfold Bv.F at h
 refine Q4 L 200 <| Qv <| Qv ?_
 obtain ⟨⟨a1_0,a1_1,a1_2⟩,h1,h⟩:=bind_some h
 dsimp only at h
 refine rg L 202 [] [] [(1,(Rc (.tup [.agg (Aj a1_0),.B a1_1]) [(0,.raw (Af a1_2))]))] (Q3 (Dz.okE h1)) ?_
 refine Q4 L 211 ?_
 rcases Qw h with ⟨c1,h⟩ |⟨c1,h⟩
 ·refine tt c1 <| Q4 L 213 <| Qy (Qu.trans (Qu.kk [2] [0,200]) (Qu.rr [(0,0),(200,100)])) ?_
  refine Qx ?_
  cases h
  exact Sw
 refine fN c1 <| Q0 <| Qv <| Q2 <| Qv ?_
 obtain ⟨a2,h2,h⟩:=bind_some h
 refine rg L 216 [] [(1,.agg (D8 a2))] [] (R6 (Bx.ok h2)) ?_
 rcases Qw h with ⟨c2,h⟩ |⟨c2,h⟩
 ·refine tT c2 <| Qv ?_
  obtain ⟨a3,h3,h⟩:=bind_some h
  rcases a3 with a3 | a3
  ·dsimp only at h
   refine qn L 222 [] [] [] 1 (Rc (.tup []) []) (Rq 49 a3) (Q3 (Ay.okE h3)) ?_
   cases h
   exact rfl
  ·obtain ⟨a3_0,a3_1⟩:=a3
   dsimp only at h
   refine rg L 222 [] [] [(1,(Rc (.cv (.str a3_0)) [(0,.raw (Af a3_1))]))] (Q3 (Ay.okE h3)) ?_
   refine Qv <| Qv ?_
   obtain ⟨a4,h4,h⟩:=bind_some h
   refine rg L 226 [] [(1,.B a4)] [] (R6 (D7.ok h4)) ?_
   rcases Qw h with ⟨c3,h⟩ |⟨c3,h⟩
   ·refine tt c3 <| Qv ?_
    obtain ⟨a5,h5,h⟩:=bind_some h
    rcases a5 with ⟨a5_0,a5_1⟩ | a5
    ·dsimp only at h
     refine rg L 229 [] [] [(2,(Rc (.agg (Aj a5_0)) [(0,.raw (Af a5_1))]))] (Q3 (hR.Bn h5)) ?_
     refine Qy (Qu.trans (Qu.kk [2] [0,200]) (Qu.rr [(0,0),(200,100)])) ?_
     refine Qx ?_
     cases h
     exact Sw
    ·obtain ⟨a5,rfl⟩:∃ z,z=a5:=⟨_,rfl⟩
     dsimp only at h
     refine qn L 229 [] [] [] 2 (Rc (.tup []) []) (Rq 49 a5) (Q3 (hR.Bn h5)) ?_
     cases h
     exact rfl
   refine fN c3 <| Q0 <| Q4 L 234 <| Qy (Qu.trans (Qu.kk [2] [0,200]) (Qu.rr [(0,0),(200,100)])) ?_
   refine Qx ?_
   cases h
   exact Sw
 refine fF c2 <| Qv ?_
 obtain ⟨⟨a6_0,a6_1⟩,h6,h⟩:=bind_some h
 dsimp only at h
 refine rg L 238 [] [] [(1,(Rc (.B a6_0) [(0,.raw (Af a6_1))]))] (Q3 (Ao.okE h6)) ?_
 rcases Qw h with ⟨c4,h⟩ |⟨c4,h⟩
 ·refine tt c4 <| Qv ?_
  obtain ⟨a7,h7,h⟩:=bind_some h
  rcases a7 with ⟨a7_0,a7_1⟩ | a7
  ·dsimp only at h
   refine rg L 242 [] [] [(3,(Rc (.cv (.ro .Ae a7_0)) [(0,.raw (Af a7_1))]))] (Q3 (hR.Bg h7)) ?_
   refine Qy (Qu.trans (Qu.kk [2] [0,200]) (Qu.rr [(0,0),(200,100)])) ?_
   refine Qx ?_
   cases h
   exact Sw
  ·obtain ⟨a7,rfl⟩:∃ z,z=a7:=⟨_,rfl⟩
   dsimp only at h
   refine qn L 242 [] [] [] 3 (Rc (.tup []) []) (Rq 49 a7) (Q3 (hR.Bg h7)) ?_
   cases h
   exact rfl
 refine fN c4 <| Qv ?_
 obtain ⟨⟨a8_0,a8_1⟩,h8,h⟩:=bind_some h
 dsimp only at h
 refine rg L 249 [] [] [(1,(Rc (.B a8_0) [(0,.raw (Af a8_1))]))] (Q3 (Ao.okE h8)) ?_
 rcases Qw h with ⟨c5,h⟩ |⟨c5,h⟩
 ·refine tt c5 <| Qv ?_
  obtain ⟨a9,h9,h⟩:=bind_some h
  rcases a9 with ⟨a9_0,a9_1⟩ | a9
  ·dsimp only at h
   refine rg L 253 [] [] [(3,(Rc (.cv (.ro .Ae a9_0)) [(0,.raw (Af a9_1))]))] (Q3 (hR.Bq h9)) ?_
   refine Qy (Qu.trans (Qu.kk [2] [0,200]) (Qu.rr [(0,0),(200,100)])) ?_
   refine Qx ?_
   cases h
   exact Sw
  ·obtain ⟨a9,rfl⟩:∃ z,z=a9:=⟨_,rfl⟩
   dsimp only at h
   refine qn L 253 [] [] [] 3 (Rc (.tup []) []) (Rq 49 a9) (Q3 (hR.Bq h9)) ?_
   cases h
   exact rfl
 refine fN c5 <| Q0 <| Qv ?_
 obtain ⟨a10,h10,h⟩:=bind_some h
 rcases a10 with a10 | a10
 ·dsimp only at h
  refine rg L 260 [] [] [(1,(Rc (.tup []) [(0,.raw (Af a10))]))] (Q3 (Aq.okE h10)) ?_
  refine Qv ?_
  obtain ⟨a11,h11,h⟩:=bind_some h
  rcases a11 with a11 | a11
  ·dsimp only at h
   refine qn L 263 [] [] [] 1 (Rc (.tup []) []) (Rq 49 a11) (Q3 (hR.Ax h11)) ?_
   cases h
   exact rfl
  ·obtain ⟨a11_0,a11_1⟩:=a11
   dsimp only at h
   refine rg L 263 [] [] [(1,(Rc (.agg (Aj a11_0)) [(0,.raw (Af a11_1))]))] (Q3 (hR.Ax h11)) ?_
   refine Qv ?_
   obtain ⟨a12,h12,h⟩:=bind_some h
   rcases a12 with a12 | a12
   ·dsimp only at h
    refine rg L 268 [] [] [(1,(Rc (.tup []) [(0,.raw (Af a12))]))] (Q3 (Aq.okE h12)) ?_
    refine Q4 L 271 <| Qy (Qu.trans (Qu.kk [2] [0,200]) (Qu.rr [(0,0),(200,100)])) ?_
    refine Qx ?_
    cases h
    exact Sw
   ·obtain ⟨a12,rfl⟩:∃ z,z=a12:=⟨_,rfl⟩
    dsimp only at h
    refine qn L 268 [] [] [] 1 (Rc (.tup []) []) (Rq 49 a12) (Q3 (Aq.okE h12)) ?_
    cases h
    exact rfl
 ·obtain ⟨a10,rfl⟩:∃ z,z=a10:=⟨_,rfl⟩
  dsimp only at h
  refine qn L 260 [] [] [] 1 (Rc (.tup []) []) (Rq 49 a10) (Q3 (Aq.okE h10)) ?_
  cases h
  exact rfl
def Be.l6 (K:Nat) (R:Ai):Nat→(List Al)→Int→Int→(List UInt8)→Int→(List UInt8)→(List Aa)→Option (Q9 (Int ⊕ (Aa×Ab)) Unit)
 | 0,_,_,_,_,_,_,_=>none
 | k+1,xh0_0_6h,xh0_1_6h,x21301_0,x21301_1,x21301_2,x21301_3,x21301_4=>(Option.bind (Ao K ([46]:List UInt8) (⟨xh0_0_6h,xh0_1_6h⟩:Ab)) (fun (a2_0,a2_1)=>(if a2_0=true then (Option.bind (Ay K a2_1) (fun a3=>match a3 with |(Sum.inl a3)=>some (Q9.done (Sum.inl a3)) |(Sum.inr (a3_0,a3_1))=>Be.l6 K R k a3_1.l a3_1.i 29 a3_0 0 [] ([(⟨x21301_0,x21301_1,x21301_2,x21301_3,x21301_4⟩:Aa)]:List Aa))) else (Option.bind (Ao K ([91]:List UInt8) a2_1) (fun (a4_0,a4_1)=>(if a4_0=true then (Option.bind (R.Ax a4_1) (fun a5=>match a5 with |(Sum.inl a5)=>some (Q9.done (Sum.inl a5)) |(Sum.inr (a5_0,a5_1))=>(Option.bind (Ct K 28 ([(⟨x21301_0,x21301_1,x21301_2,x21301_3,x21301_4⟩:Aa),(⟨a5_0.Op,a5_0.Name,a5_0.Int,a5_0.Text,a5_0.Kids⟩:Aa)]:List Aa)) (fun a6=>(Option.bind (Aq K ([93]:List UInt8) a5_1) (fun a7=>match a7 with |(Sum.inl a7)=>Be.l6 K R k a7.l a7.i a6.Op a6.Name a6.Int a6.Text a6.Kids |(Sum.inr a7)=>some (Q9.done (Sum.inl a7)))))))) else some (Q9.done (Sum.inr ((⟨x21301_0,x21301_1,x21301_2,x21301_3,x21301_4⟩:Aa),a4_1)))))))))
def Be.F (K:Nat) (R:Ai) (p0:Ab):Option (Int ⊕ (Aa×Ab)):=(Option.bind (R.Bv p0) (fun a1=>match a1 with |(Sum.inl (a1_0,a1_1))=>(obind (Be.l6 K R K a1_1.l a1_1.i a1_0.Op a1_0.Name a1_0.Int a1_0.Text a1_0.Kids:Option (Q9 (Int ⊕ (Aa×Ab)) Unit)) (fun r=>r) (fun _=>none)) |(Sum.inr a1)=>some (Sum.inl a1)))
theorem Be.body {Γ:Rm} {K:Nat} {R:Ai} (hR:R.Ok) {p0:Ab} {r:Int ⊕ (Aa×Ab)} (h:Be.F K R p0=some r):Ri V P 25 100 Γ (Tryz.f156.body.getD .skip) (Rr P V Tryz.f156 (Be.rep p0 r) (Be.post p0 r)) ⟨Q6 0 [.P 0],[(0,.raw (Af p0))]⟩:=by
 unfold Be.F at h
 refine Q4 L 200 <| Qv ?_
 obtain ⟨a1,h1,h⟩:=bind_some h
 rcases a1 with ⟨a1_0,a1_1⟩ | a1
 ·dsimp only at h
  refine rg L 202 [] [] [(1,(Rc (.agg (Aj a1_0)) [(0,.raw (Af a1_1))]))] (Q3 (hR.Bv h1)) ?_
  refine Q2 <| Qy (Qu.trans (Qu.kk [0,2,3] [0,200,204]) (Qu.rr [(0,0),(200,21300),(204,21301)])) ?_
  refine kp (S':=⟨[(0,.P 0),(2,.P 21300),(3,.P 21301)],[(0,.raw (Af a1_1)),(21300,.raw [.I 0,.str [],.I 0,.str [],.N]),(21301,.raw (Aj a1_0))]⟩) ?_
  obtain ⟨o1,hp1,h⟩:=Rf h
  refine Ra (Q':=fun e S=>False∨((e=.ret∨∃ ch,e=.panic ch)∧∃ a,Q9.done a=o1∧Rr P V Tryz.f156 (Be.rep p0 a) (Be.post p0 a) e S)) (Rh (fun k S=>∃ xh0_0_6h:List Al,∃ xh0_1_6h:Int,∃ x21301_0:Int,∃ x21301_1:List UInt8,∃ x21301_2:Int,∃ x21301_3:List UInt8,∃ x21301_4:List Aa,S=⟨[(0,.P 0),(2,.P 21300),(3,.P 21301)],[(0,.raw [.ro .Ak xh0_0_6h,.I xh0_1_6h]),(21300,.raw [.I 0,.str [],.I 0,.str [],.N]),(21301,.raw [.I x21301_0,.str x21301_1,.I x21301_2,.str x21301_3,.ro .Ae x21301_4])]⟩∧Be.l6 K R k xh0_0_6h xh0_1_6h x21301_0 x21301_1 x21301_2 x21301_3 x21301_4=some o1) ?_ ⟨_,_,_,_,_,_,_,rfl,hp1⟩) ?_
  ·clear h hp1
   intro k S hS
   obtain ⟨xh0_0_6h,xh0_1_6h,x21301_0,x21301_1,x21301_2,x21301_3,x21301_4,rfl,h⟩:=hS
   cases k with
   | zero=>cases h
   | succ k =>
   unfold Be.l6 at h
   refine Q2 <| Q2 <| Qv ?_
   obtain ⟨⟨a2_0,a2_1⟩,h2,h⟩:=bind_some h
   dsimp only at h
   refine rg L 207 [] [] [(1,(Rc (.B a2_0) [(0,.raw (Af a2_1))]))] (Q3 (Ao.okE h2)) ?_
   rcases Qw h with ⟨c1,h⟩ |⟨c1,h⟩
   ·refine tt c1 ?_
    obtain ⟨a3,h3,h⟩:=bind_some h
    rcases a3 with a3 | a3
    ·dsimp only at h
     refine qP L mixed 211 [] [] [] [0] 1 (Rc (.tup []) []) (Rq 49 a3) (Qz (Ay.okE h3) (Qz (Ay.okE h3) (Q3 (Ay.okE h3)))) ?_
     cases h
     exact .inr ⟨.inr ⟨_,rfl⟩,_,rfl,rfl⟩
    ·obtain ⟨a3_0,a3_1⟩:=a3
     dsimp only at h
     refine hB L mixed 211 [] [] [(1,(Rc (.cv (.str a3_0)) [(0,.raw (Af a3_1))]))] [0] 3 (Qz (Ay.okE h3) (Qz (Ay.okE h3) (Q3 (Ay.okE h3)))) (S':=⟨[(0,.P 0),(2,.P 21300),(3,.P 21301)],[(0,.raw (Af a3_1)),(21300,.raw [.I 0,.str [],.I 0,.str [],.N]),(21301,.raw [.I 29,.str a3_0,.I 0,.str [],.ro .Ae ([(⟨x21301_0,x21301_1,x21301_2,x21301_3,x21301_4⟩:Aa)]:List Aa)])]⟩) ?_
     exact ⟨k,Nat.lt_succ_self k,_,_,_,_,_,_,_,rfl,h⟩
   refine fN c1 <| Qv ?_
   obtain ⟨⟨a4_0,a4_1⟩,h4,h⟩:=bind_some h
   dsimp only at h
   refine rg L 218 [] [] [(1,(Rc (.B a4_0) [(0,.raw (Af a4_1))]))] (Q3 (Ao.okE h4)) ?_
   rcases Qw h with ⟨c2,h⟩ |⟨c2,h⟩
   ·refine tt c2 <| Qv ?_
    obtain ⟨a5,h5,h⟩:=bind_some h
    rcases a5 with a5 | a5
    ·dsimp only at h
     refine qP L mixed 222 [] [] [] [1] 2 (Rc (.tup []) []) (Rq 49 a5) (Sj (hR.Ax h5) (hR.Ax h5)) ?_
     cases h
     exact .inr ⟨.inr ⟨_,rfl⟩,_,rfl,rfl⟩
    ·obtain ⟨a5_0,a5_1⟩:=a5
     dsimp only at h
     obtain ⟨a6,h6,h⟩:=bind_some h
     refine hB L mixed 222 [] [(4,.agg (Aj a6))] [(2,(Rc (.agg (Aj a5_0)) [(0,.raw (Af a5_1))]))] [1] 2 (Qz (hR.Ax h5) (Qz (Ct.ok h6) (Qz trivial (Qz (hR.Ax h5) (Qz (Ct.ok h6) (Q3 trivial)))))) (S':=⟨[(0,.P 0),(2,.P 21300),(3,.P 21301)],[(0,.raw (Af a5_1)),(21300,.raw [.I 0,.str [],.I 0,.str [],.N]),(21301,.raw (Aj a6))]⟩) ?_
     obtain ⟨a7,h7,h⟩:=bind_some h
     rcases a7 with a7 | a7
     ·dsimp only at h
      refine ar L 229 [] [] [(1,(Rc (.tup []) [(0,.raw (Af a7))]))] (cs:=[Q5 V P 46 [.P 0,.cv (.str ([93]:List UInt8))] [(0,.raw (Af a5_1))] [0] (.tup []) [(0,.raw (Af a7))]]) (S':=⟨[(0,.P 0),(2,.P 21300),(3,.P 21301)],[(0,.raw (Af a7)),(21300,.raw [.I 0,.str [],.I 0,.str [],.N]),(21301,.raw (Aj a6))]⟩) (Aq.okE h7) ?_
      exact ⟨k,Nat.lt_succ_self k,_,_,_,_,_,_,_,rfl,h⟩
     ·obtain ⟨a7,rfl⟩:∃ z,z=a7:=⟨_,rfl⟩
      dsimp only at h
      refine qn L 229 [] [] [] 1 (Rc (.tup []) []) (Rq 49 a7) (Q3 (Aq.okE h7)) ?_
      cases h
      exact .inr ⟨.inr ⟨_,rfl⟩,_,rfl,rfl⟩
   refine fN c2 <| Q4 L 232 <| Qy (Qu.trans (Qu.kk [2] [0,21300]) (Qu.rr [(0,0),(21300,100)])) ?_
   refine Qx ?_
   cases h
   exact .inr ⟨.inl rfl,_,rfl,Sw⟩
  ·rintro e S (hf |⟨he,a,rfl,hr⟩)
   ·exact hf.elim
   ·rcases h with ⟨_,e1,h⟩ |⟨_,e1,h⟩
    ·have e2:=Q9.done.inj e1
     subst e2
     subst h
     rcases he with rfl |⟨ch,rfl⟩
     ·exact ⟨_,Qu.refl,hr⟩
     ·exact ⟨_,Qu.refl,hr⟩
    ·cases e1
 ·obtain ⟨a1,rfl⟩:∃ z,z=a1:=⟨_,rfl⟩
  dsimp only at h
  refine qn L 202 [] [] [] 1 (Rc (.tup []) []) (Rq 49 a1) (Q3 (hR.Bv h1)) ?_
  cases h
  exact rfl
def Bb.F (K:Nat) (R:Ai) (p0:Ab):Option (Int ⊕ (Aa×Ab)):=(Option.bind (Ao K ([45]:List UInt8) p0) (fun (a1_0,a1_1)=>(if a1_0=true then (Option.bind (R.Bb a1_1) (fun a2=>match a2 with |(Sum.inl a2)=>some (Sum.inl a2) |(Sum.inr (a2_0,a2_1))=>(Option.bind (Ct K 14 ([(⟨a2_0.Op,a2_0.Name,a2_0.Int,a2_0.Text,a2_0.Kids⟩:Aa)]:List Aa)) (fun a3=>some (Sum.inr (a3,a2_1)))))) else (Option.bind (Ao K ([97,119,97,105,116]:List UInt8) a1_1) (fun (a4_0,a4_1)=>(if a4_0=true then (Option.bind (R.Bb a4_1) (fun a5=>match a5 with |(Sum.inl a5)=>some (Sum.inl a5) |(Sum.inr (a5_0,a5_1))=>(Option.bind (Ct K 12 ([(⟨a5_0.Op,a5_0.Name,a5_0.Int,a5_0.Text,a5_0.Kids⟩:Aa)]:List Aa)) (fun a6=>some (Sum.inr (a6,a5_1)))))) else (Option.bind (Ao K ([103,111]:List UInt8) a4_1) (fun (a7_0,a7_1)=>(if a7_0=true then (Option.bind (Ay K a7_1) (fun a8=>match a8 with |(Sum.inl a8)=>some (Sum.inl a8) |(Sum.inr (a8_0,a8_1))=>(Option.bind (R.Bn 11 a8_0 a8_1) (fun a9=>match a9 with |(Sum.inl (a9_0,a9_1))=>some (Sum.inr (a9_0,a9_1)) |(Sum.inr a9)=>some (Sum.inl a9))))) else (Option.bind (R.Be a7_1) (fun a10=>match a10 with |(Sum.inl a10)=>some (Sum.inl a10) |(Sum.inr (a10_0,a10_1))=>some (Sum.inr (a10_0,a10_1)))))))))))))
theorem Bb.body {Γ:Rm} {K:Nat} {R:Ai} (hR:R.Ok) {p0:Ab} {r:Int ⊕ (Aa×Ab)} (h:Bb.F K R p0=some r):Ri V P 26 100 Γ (Tryz.f146.body.getD .skip) (Rr P V Tryz.f146 (Bb.rep p0 r) (Bb.post p0 r)) ⟨Q6 0 [.P 0],[(0,.raw (Af p0))]⟩:=by
 unfold Bb.F at h
 refine Q4 L 200 <| Qv <| Q2 <| Qv ?_
 obtain ⟨⟨a1_0,a1_1⟩,h1,h⟩:=bind_some h
 dsimp only at h
 refine rg L 202 [] [] [(1,(Rc (.B a1_0) [(0,.raw (Af a1_1))]))] (Q3 (Ao.okE h1)) ?_
 rcases Qw h with ⟨c1,h⟩ |⟨c1,h⟩
 ·refine tt c1 <| Qv ?_
  obtain ⟨a2,h2,h⟩:=bind_some h
  rcases a2 with a2 | a2
  ·dsimp only at h
   refine qn L 206 [] [] [] 1 (Rc (.tup []) []) (Rq 49 a2) (Q3 (hR.Bb h2)) ?_
   cases h
   exact rfl
  ·obtain ⟨a2_0,a2_1⟩:=a2
   dsimp only at h
   obtain ⟨a3,h3,h⟩:=bind_some h
   refine rg L 206 [] [(3,.agg (Aj a3))] [(1,(Rc (.agg (Aj a2_0)) [(0,.raw (Af a2_1))]))] (Qz (hR.Bb h2) (Qz (Ct.ok h3) (Q3 trivial))) ?_
   refine Qy (Qu.trans (Qu.kk [2] [0,200]) (Qu.rr [(0,0),(200,100)])) ?_
   refine Qx ?_
   cases h
   exact Sw
 refine fN c1 <| Qv ?_
 obtain ⟨⟨a4_0,a4_1⟩,h4,h⟩:=bind_some h
 dsimp only at h
 refine rg L 212 [] [] [(1,(Rc (.B a4_0) [(0,.raw (Af a4_1))]))] (Q3 (Ao.okE h4)) ?_
 rcases Qw h with ⟨c2,h⟩ |⟨c2,h⟩
 ·refine tt c2 <| Qv ?_
  obtain ⟨a5,h5,h⟩:=bind_some h
  rcases a5 with a5 | a5
  ·dsimp only at h
   refine qn L 216 [] [] [] 1 (Rc (.tup []) []) (Rq 49 a5) (Q3 (hR.Bb h5)) ?_
   cases h
   exact rfl
  ·obtain ⟨a5_0,a5_1⟩:=a5
   dsimp only at h
   obtain ⟨a6,h6,h⟩:=bind_some h
   refine rg L 216 [] [(3,.agg (Aj a6))] [(1,(Rc (.agg (Aj a5_0)) [(0,.raw (Af a5_1))]))] (Qz (hR.Bb h5) (Qz (Ct.ok h6) (Q3 trivial))) ?_
   refine Qy (Qu.trans (Qu.kk [2] [0,200]) (Qu.rr [(0,0),(200,100)])) ?_
   refine Qx ?_
   cases h
   exact Sw
 refine fN c2 <| Qv ?_
 obtain ⟨⟨a7_0,a7_1⟩,h7,h⟩:=bind_some h
 dsimp only at h
 refine rg L 222 [] [] [(1,(Rc (.B a7_0) [(0,.raw (Af a7_1))]))] (Q3 (Ao.okE h7)) ?_
 rcases Qw h with ⟨c3,h⟩ |⟨c3,h⟩
 ·refine tt c3 <| Qv ?_
  obtain ⟨a8,h8,h⟩:=bind_some h
  rcases a8 with a8 | a8
  ·dsimp only at h
   refine qn L 226 [] [] [] 2 (Rc (.tup []) []) (Rq 49 a8) (Q3 (Ay.okE h8)) ?_
   cases h
   exact rfl
  ·obtain ⟨a8_0,a8_1⟩:=a8
   dsimp only at h
   obtain ⟨a9,h9,h⟩:=bind_some h
   rcases a9 with ⟨a9_0,a9_1⟩ | a9
   ·dsimp only at h
    refine rg L 226 [] [] [(2,(Rc (.cv (.str a8_0)) [(0,.raw (Af a8_1))])),(3,(Rc (.agg (Aj a9_0)) [(0,.raw (Af a9_1))]))] (Sj (Ay.okE h8) (hR.Bn h9)) ?_
    refine Qy (Qu.trans (Qu.kk [2] [0,200]) (Qu.rr [(0,0),(200,100)])) ?_
    refine Qx ?_
    cases h
    exact Sw
   ·obtain ⟨a9,rfl⟩:∃ z,z=a9:=⟨_,rfl⟩
    dsimp only at h
    refine qn L 226 [] [] [(2,(Rc (.cv (.str a8_0)) [(0,.raw (Af a8_1))]))] 3 (Rc (.tup []) []) (Rq 49 a9) (Sj (Ay.okE h8) (hR.Bn h9)) ?_
    cases h
    exact rfl
 refine fN c3 <| Q0 <| Qv ?_
 obtain ⟨a10,h10,h⟩:=bind_some h
 rcases a10 with a10 | a10
 ·dsimp only at h
  refine qn L 232 [] [] [] 1 (Rc (.tup []) []) (Rq 49 a10) (Q3 (hR.Be h10)) ?_
  cases h
  exact rfl
 ·obtain ⟨a10_0,a10_1⟩:=a10
  dsimp only at h
  refine rg L 232 [] [] [(1,(Rc (.agg (Aj a10_0)) [(0,.raw (Af a10_1))]))] (Q3 (hR.Be h10)) ?_
  refine Qy (Qu.trans (Qu.kk [2] [0,200]) (Qu.rr [(0,0),(200,100)])) ?_
  refine Qx ?_
  cases h
  exact Sw
def Bw.l6 (K:Nat) (R:Ai) (p0:List (List UInt8)) (p1:List Int):Nat→(List Al)→Int→Int→(List UInt8)→Int→(List UInt8)→(List Aa)→Option (Q9 (Int ⊕ (Aa×Ab)) Unit)
 | 0,_,_,_,_,_,_,_=>none
 | k+1,xh0_0_6h,xh0_1_6h,x21301_0,x21301_1,x21301_2,x21301_3,x21301_4=>(Option.bind (B5 K p0 p1 (⟨xh0_0_6h,xh0_1_6h⟩:Ab)) (fun (a2_0,a2_1,a2_2)=>(if a2_1=true then (Option.bind (R.Bb a2_2) (fun a3=>match a3 with |(Sum.inl a3)=>some (Q9.done (Sum.inl a3)) |(Sum.inr (a3_0,a3_1))=>(Option.bind (Ct K a2_0 ([(⟨x21301_0,x21301_1,x21301_2,x21301_3,x21301_4⟩:Aa),(⟨a3_0.Op,a3_0.Name,a3_0.Int,a3_0.Text,a3_0.Kids⟩:Aa)]:List Aa)) (fun a4=>Bw.l6 K R p0 p1 k a3_1.l a3_1.i a4.Op a4.Name a4.Int a4.Text a4.Kids)))) else some (Q9.done (Sum.inr ((⟨x21301_0,x21301_1,x21301_2,x21301_3,x21301_4⟩:Aa),a2_2))))))
def Bw.F (K:Nat) (R:Ai) (p0:List (List UInt8)) (p1:List Int) (p2:Ab):Option (Int ⊕ (Aa×Ab)):=(Option.bind (R.Bb p2) (fun a1=>match a1 with |(Sum.inl a1)=>some (Sum.inl a1) |(Sum.inr (a1_0,a1_1))=>(obind (Bw.l6 K R p0 p1 K a1_1.l a1_1.i a1_0.Op a1_0.Name a1_0.Int a1_0.Text a1_0.Kids:Option (Q9 (Int ⊕ (Aa×Ab)) Unit)) (fun r=>r) (fun _=>none))))
theorem Bw.body {Γ:Rm} {K:Nat} {R:Ai} (hR:R.Ok) {p0:List (List UInt8)} {p1:List Int} {p2:Ab} {r:Int ⊕ (Aa×Ab)} (h:Bw.F K R p0 p1 p2=some r):Ri V P 30 100 Γ (Tryz.f62.body.getD .skip) (Rr P V Tryz.f62 (Bw.rep p0 p1 p2 r) (Bw.post p0 p1 p2 r)) ⟨Q6 0 [.P 0,.cv (.fn (.func 146) [.P 0] []),.cv (.ro .C8 p0),.cv (.ro .Fg p1)],[(0,.raw (Af p2))]⟩:=by
 unfold Bw.F at h
 refine Q4 L 200 <| Qv ?_
 obtain ⟨a1,h1,h⟩:=bind_some h
 rcases a1 with a1 | a1
 ·dsimp only at h
  refine qn L 202 [] [] [] 1 (Rc (.tup []) []) (Rq 49 a1) (Q3 (hR.Bb h1)) ?_
  cases h
  exact rfl
 ·obtain ⟨a1_0,a1_1⟩:=a1
  dsimp only at h
  refine rg L 202 [] [] [(1,(Rc (.agg (Aj a1_0)) [(0,.raw (Af a1_1))]))] (Q3 (hR.Bb h1)) ?_
  refine Q2 <| Qy (Qu.trans (Qu.kk [0,1,2,3,8,9] [0,200,204]) (Qu.rr [(0,0),(200,21300),(204,21301)])) ?_
  refine kp (S':=⟨[(0,.P 0),(1,.cv (.fn (.func 146) [.P 0] [])),(2,.cv (.ro .C8 p0)),(3,.cv (.ro .Fg p1)),(8,.P 21300),(9,.P 21301)],[(0,.raw (Af a1_1)),(21300,.raw [.I 0,.str [],.I 0,.str [],.N]),(21301,.raw (Aj a1_0))]⟩) ?_
  obtain ⟨o1,hp1,h⟩:=Rf h
  refine Ra (Q':=fun e S=>False∨((e=.ret∨∃ ch,e=.panic ch)∧∃ a,Q9.done a=o1∧Rr P V Tryz.f62 (Bw.rep p0 p1 p2 a) (Bw.post p0 p1 p2 a) e S)) (Rh (fun k S=>∃ xh0_0_6h:List Al,∃ xh0_1_6h:Int,∃ x21301_0:Int,∃ x21301_1:List UInt8,∃ x21301_2:Int,∃ x21301_3:List UInt8,∃ x21301_4:List Aa,S=⟨[(0,.P 0),(1,.cv (.fn (.func 146) [.P 0] [])),(2,.cv (.ro .C8 p0)),(3,.cv (.ro .Fg p1)),(8,.P 21300),(9,.P 21301)],[(0,.raw [.ro .Ak xh0_0_6h,.I xh0_1_6h]),(21300,.raw [.I 0,.str [],.I 0,.str [],.N]),(21301,.raw [.I x21301_0,.str x21301_1,.I x21301_2,.str x21301_3,.ro .Ae x21301_4])]⟩∧Bw.l6 K R p0 p1 k xh0_0_6h xh0_1_6h x21301_0 x21301_1 x21301_2 x21301_3 x21301_4=some o1) ?_ ⟨_,_,_,_,_,_,_,rfl,hp1⟩) ?_
  ·clear h hp1
   intro k S hS
   obtain ⟨xh0_0_6h,xh0_1_6h,x21301_0,x21301_1,x21301_2,x21301_3,x21301_4,rfl,h⟩:=hS
   cases k with
   | zero=>cases h
   | succ k =>
   unfold Bw.l6 at h
   refine Q2 <| Qv ?_
   obtain ⟨⟨a2_0,a2_1,a2_2⟩,h2,h⟩:=bind_some h
   dsimp only at h
   refine rg L 207 [] [] [(3,(Rc (.tup [.I a2_0,.B a2_1]) [(0,.raw (Af a2_2))]))] (Q3 (B5.okE h2)) ?_
   refine Qv <| Q4 L 217 ?_
   rcases Qw h with ⟨c1,h⟩ |⟨c1,h⟩
   ·refine ff (b:=(!a2_1)) (congrArg Bool.not (c1)) ?_
    refine Q0 ?_
    obtain ⟨a3,h3,h⟩:=bind_some h
    rcases a3 with a3 | a3
    ·dsimp only at h
     refine qP L mixed 223 [] [] [] [0,2] 3 (Rc (.tup []) []) (Rq 49 a3) (Sj (hR.Bb h3) (hR.Bb h3)) ?_
     cases h
     exact .inr ⟨.inr ⟨_,rfl⟩,_,rfl,rfl⟩
    ·obtain ⟨a3_0,a3_1⟩:=a3
     dsimp only at h
     obtain ⟨a4,h4,h⟩:=bind_some h
     refine hB L mixed 223 [] [(5,.agg (Aj a4))] [(3,(Rc (.agg (Aj a3_0)) [(0,.raw (Af a3_1))]))] [0,2] 2 (Qz (hR.Bb h3) (Qz (Ct.ok h4) (Qz trivial (Qz (hR.Bb h3) (Qz (Ct.ok h4) (Q3 trivial)))))) (S':=⟨[(0,.P 0),(1,.cv (.fn (.func 146) [.P 0] [])),(2,.cv (.ro .C8 p0)),(3,.cv (.ro .Fg p1)),(8,.P 21300),(9,.P 21301)],[(0,.raw (Af a3_1)),(21300,.raw [.I 0,.str [],.I 0,.str [],.N]),(21301,.raw (Aj a4))]⟩) ?_
     exact ⟨k,Nat.lt_succ_self k,_,_,_,_,_,_,_,rfl,h⟩
   refine tt (b:=(!a2_1)) (congrArg Bool.not (eq_false_of_ne_true c1)) ?_
   refine Q4 L 220 <| Qy (Qu.trans (Qu.kk [8] [0,21300]) (Qu.rr [(0,0),(21300,100)])) ?_
   refine Qx ?_
   cases h
   exact .inr ⟨.inl rfl,_,rfl,Sw⟩
  ·rintro e S (hf |⟨he,a,rfl,hr⟩)
   ·exact hf.elim
   ·rcases h with ⟨_,e1,h⟩ |⟨_,e1,h⟩
    ·have e2:=Q9.done.inj e1
     subst e2
     subst h
     rcases he with rfl |⟨ch,rfl⟩
     ·exact ⟨_,Qu.refl,hr⟩
     ·exact ⟨_,Qu.refl,hr⟩
    ·cases e1
def Bo.F (K:Nat) (R:Ai) (p0:Ab):Option (Int ⊕ (Aa×Ab)):=(Option.bind (R.Bw ([([42]:List UInt8),([47]:List UInt8),([37]:List UInt8)]:List (List UInt8)) ([15,16,17]:List Int) p0) (fun a1=>match a1 with |(Sum.inl a1)=>some (Sum.inl a1) |(Sum.inr (a1_0,a1_1))=>some (Sum.inr (a1_0,a1_1))))
theorem Bo.body {Γ:Rm} {K:Nat} {R:Ai} (hR:R.Ok) {p0:Ab} {r:Int ⊕ (Aa×Ab)} (h:Bo.F K R p0=some r):Ri V P 9 100 Γ (Tryz.f137.body.getD .skip) (Rr P V Tryz.f137 (Bo.rep p0 r) (Bo.post p0 r)) ⟨Q6 0 [.P 0],[(0,.raw (Af p0))]⟩:=by
 unfold Bo.F at h
 refine Q4 L 200 <| Qv ?_
 obtain ⟨a1,h1,h⟩:=bind_some h
 rcases a1 with a1 | a1
 ·dsimp only at h
  refine qn L 202 [] [] [] 5 (Rc (.tup []) []) (Rq 49 a1) (Q3 (hR.Bw h1)) ?_
  cases h
  exact rfl
 ·obtain ⟨a1_0,a1_1⟩:=a1
  dsimp only at h
  refine rg L 202 [] [] [(5,(Rc (.agg (Aj a1_0)) [(0,.raw (Af a1_1))]))] (Q3 (hR.Bw h1)) ?_
  refine Qy (Qu.trans (Qu.kk [2] [0,200]) (Qu.rr [(0,0),(200,100)])) ?_
  refine Qx ?_
  cases h
  exact Sw
def Br.l6 (K:Nat) (R:Ai) (p0:List (List UInt8)) (p1:List Int):Nat→(List Al)→Int→Int→(List UInt8)→Int→(List UInt8)→(List Aa)→Option (Q9 (Int ⊕ (Aa×Ab)) Unit)
 | 0,_,_,_,_,_,_,_=>none
 | k+1,xh0_0_6h,xh0_1_6h,x21301_0,x21301_1,x21301_2,x21301_3,x21301_4=>(Option.bind (B5 K p0 p1 (⟨xh0_0_6h,xh0_1_6h⟩:Ab)) (fun (a2_0,a2_1,a2_2)=>(if a2_1=true then (Option.bind (R.Bo a2_2) (fun a3=>match a3 with |(Sum.inl a3)=>some (Q9.done (Sum.inl a3)) |(Sum.inr (a3_0,a3_1))=>(Option.bind (Ct K a2_0 ([(⟨x21301_0,x21301_1,x21301_2,x21301_3,x21301_4⟩:Aa),(⟨a3_0.Op,a3_0.Name,a3_0.Int,a3_0.Text,a3_0.Kids⟩:Aa)]:List Aa)) (fun a4=>Br.l6 K R p0 p1 k a3_1.l a3_1.i a4.Op a4.Name a4.Int a4.Text a4.Kids)))) else some (Q9.done (Sum.inr ((⟨x21301_0,x21301_1,x21301_2,x21301_3,x21301_4⟩:Aa),a2_2))))))
def Br.F (K:Nat) (R:Ai) (p0:List (List UInt8)) (p1:List Int) (p2:Ab):Option (Int ⊕ (Aa×Ab)):=(Option.bind (R.Bo p2) (fun a1=>match a1 with |(Sum.inl a1)=>some (Sum.inl a1) |(Sum.inr (a1_0,a1_1))=>(obind (Br.l6 K R p0 p1 K a1_1.l a1_1.i a1_0.Op a1_0.Name a1_0.Int a1_0.Text a1_0.Kids:Option (Q9 (Int ⊕ (Aa×Ab)) Unit)) (fun r=>r) (fun _=>none))))
theorem Br.body {Γ:Rm} {K:Nat} {R:Ai} (hR:R.Ok) {p0:List (List UInt8)} {p1:List Int} {p2:Ab} {r:Int ⊕ (Aa×Ab)} (h:Br.F K R p0 p1 p2=some r):Ri V P 30 100 Γ (Tryz.f62.body.getD .skip) (Rr P V Tryz.f62 (Br.rep p0 p1 p2 r) (Br.post p0 p1 p2 r)) ⟨Q6 0 [.P 0,.cv (.fn (.func 137) [.P 0] []),.cv (.ro .C8 p0),.cv (.ro .Fg p1)],[(0,.raw (Af p2))]⟩:=by
 unfold Br.F at h
 refine Q4 L 200 <| Qv ?_
 obtain ⟨a1,h1,h⟩:=bind_some h
 rcases a1 with a1 | a1
 ·dsimp only at h
  refine qn L 202 [] [] [] 1 (Rc (.tup []) []) (Rq 49 a1) (Q3 (hR.Bo h1)) ?_
  cases h
  exact rfl
 ·obtain ⟨a1_0,a1_1⟩:=a1
  dsimp only at h
  refine rg L 202 [] [] [(1,(Rc (.agg (Aj a1_0)) [(0,.raw (Af a1_1))]))] (Q3 (hR.Bo h1)) ?_
  refine Q2 <| Qy (Qu.trans (Qu.kk [0,1,2,3,8,9] [0,200,204]) (Qu.rr [(0,0),(200,21300),(204,21301)])) ?_
  refine kp (S':=⟨[(0,.P 0),(1,.cv (.fn (.func 137) [.P 0] [])),(2,.cv (.ro .C8 p0)),(3,.cv (.ro .Fg p1)),(8,.P 21300),(9,.P 21301)],[(0,.raw (Af a1_1)),(21300,.raw [.I 0,.str [],.I 0,.str [],.N]),(21301,.raw (Aj a1_0))]⟩) ?_
  obtain ⟨o1,hp1,h⟩:=Rf h
  refine Ra (Q':=fun e S=>False∨((e=.ret∨∃ ch,e=.panic ch)∧∃ a,Q9.done a=o1∧Rr P V Tryz.f62 (Br.rep p0 p1 p2 a) (Br.post p0 p1 p2 a) e S)) (Rh (fun k S=>∃ xh0_0_6h:List Al,∃ xh0_1_6h:Int,∃ x21301_0:Int,∃ x21301_1:List UInt8,∃ x21301_2:Int,∃ x21301_3:List UInt8,∃ x21301_4:List Aa,S=⟨[(0,.P 0),(1,.cv (.fn (.func 137) [.P 0] [])),(2,.cv (.ro .C8 p0)),(3,.cv (.ro .Fg p1)),(8,.P 21300),(9,.P 21301)],[(0,.raw [.ro .Ak xh0_0_6h,.I xh0_1_6h]),(21300,.raw [.I 0,.str [],.I 0,.str [],.N]),(21301,.raw [.I x21301_0,.str x21301_1,.I x21301_2,.str x21301_3,.ro .Ae x21301_4])]⟩∧Br.l6 K R p0 p1 k xh0_0_6h xh0_1_6h x21301_0 x21301_1 x21301_2 x21301_3 x21301_4=some o1) ?_ ⟨_,_,_,_,_,_,_,rfl,hp1⟩) ?_
  ·clear h hp1
   intro k S hS
   obtain ⟨xh0_0_6h,xh0_1_6h,x21301_0,x21301_1,x21301_2,x21301_3,x21301_4,rfl,h⟩:=hS
   cases k with
   | zero=>cases h
   | succ k =>
   unfold Br.l6 at h
   refine Q2 <| Qv ?_
   obtain ⟨⟨a2_0,a2_1,a2_2⟩,h2,h⟩:=bind_some h
   dsimp only at h
   refine rg L 207 [] [] [(3,(Rc (.tup [.I a2_0,.B a2_1]) [(0,.raw (Af a2_2))]))] (Q3 (B5.okE h2)) ?_
   refine Qv <| Q4 L 217 ?_
   rcases Qw h with ⟨c1,h⟩ |⟨c1,h⟩
   ·refine ff (b:=(!a2_1)) (congrArg Bool.not (c1)) ?_
    refine Q0 ?_
    obtain ⟨a3,h3,h⟩:=bind_some h
    rcases a3 with a3 | a3
    ·dsimp only at h
     refine qP L mixed 223 [] [] [] [0,2] 3 (Rc (.tup []) []) (Rq 49 a3) (Sj (hR.Bo h3) (hR.Bo h3)) ?_
     cases h
     exact .inr ⟨.inr ⟨_,rfl⟩,_,rfl,rfl⟩
    ·obtain ⟨a3_0,a3_1⟩:=a3
     dsimp only at h
     obtain ⟨a4,h4,h⟩:=bind_some h
     refine hB L mixed 223 [] [(5,.agg (Aj a4))] [(3,(Rc (.agg (Aj a3_0)) [(0,.raw (Af a3_1))]))] [0,2] 2 (Qz (hR.Bo h3) (Qz (Ct.ok h4) (Qz trivial (Qz (hR.Bo h3) (Qz (Ct.ok h4) (Q3 trivial)))))) (S':=⟨[(0,.P 0),(1,.cv (.fn (.func 137) [.P 0] [])),(2,.cv (.ro .C8 p0)),(3,.cv (.ro .Fg p1)),(8,.P 21300),(9,.P 21301)],[(0,.raw (Af a3_1)),(21300,.raw [.I 0,.str [],.I 0,.str [],.N]),(21301,.raw (Aj a4))]⟩) ?_
     exact ⟨k,Nat.lt_succ_self k,_,_,_,_,_,_,_,rfl,h⟩
   refine tt (b:=(!a2_1)) (congrArg Bool.not (eq_false_of_ne_true c1)) ?_
   refine Q4 L 220 <| Qy (Qu.trans (Qu.kk [8] [0,21300]) (Qu.rr [(0,0),(21300,100)])) ?_
   refine Qx ?_
   cases h
   exact .inr ⟨.inl rfl,_,rfl,Sw⟩
  ·rintro e S (hf |⟨he,a,rfl,hr⟩)
   ·exact hf.elim
   ·rcases h with ⟨_,e1,h⟩ |⟨_,e1,h⟩
    ·have e2:=Q9.done.inj e1
     subst e2
     subst h
     rcases he with rfl |⟨ch,rfl⟩
     ·exact ⟨_,Qu.refl,hr⟩
     ·exact ⟨_,Qu.refl,hr⟩
    ·cases e1
def B4.F (K:Nat) (R:Ai) (p0:Ab):Option (Int ⊕ (Aa×Ab)):=(Option.bind (R.Br ([([43]:List UInt8),([45]:List UInt8)]:List (List UInt8)) ([18,19]:List Int) p0) (fun a1=>match a1 with |(Sum.inl a1)=>some (Sum.inl a1) |(Sum.inr (a1_0,a1_1))=>some (Sum.inr (a1_0,a1_1))))
theorem B4.body {Γ:Rm} {K:Nat} {R:Ai} (hR:R.Ok) {p0:Ab} {r:Int ⊕ (Aa×Ab)} (h:B4.F K R p0=some r):Ri V P 9 100 Γ (Tryz.f122.body.getD .skip) (Rr P V Tryz.f122 (B4.rep p0 r) (B4.post p0 r)) ⟨Q6 0 [.P 0],[(0,.raw (Af p0))]⟩:=by
 unfold B4.F at h
 refine Q4 L 200 <| Qv ?_
 obtain ⟨a1,h1,h⟩:=bind_some h
 rcases a1 with a1 | a1
 ·dsimp only at h
  refine qn L 202 [] [] [] 5 (Rc (.tup []) []) (Rq 49 a1) (Q3 (hR.Br h1)) ?_
  cases h
  exact rfl
 ·obtain ⟨a1_0,a1_1⟩:=a1
  dsimp only at h
  refine rg L 202 [] [] [(5,(Rc (.agg (Aj a1_0)) [(0,.raw (Af a1_1))]))] (Q3 (hR.Br h1)) ?_
  refine Qy (Qu.trans (Qu.kk [2] [0,200]) (Qu.rr [(0,0),(200,100)])) ?_
  refine Qx ?_
  cases h
  exact Sw
def Bm.F (K:Nat) (R:Ai) (p0:Ab):Option (Int ⊕ (Aa×Ab)):=(Option.bind (Ao K ([110,111,116]:List UInt8) p0) (fun (a1_0,a1_1)=>(if a1_0=true then (Option.bind (R.Bm a1_1) (fun a2=>match a2 with |(Sum.inl a2)=>some (Sum.inl a2) |(Sum.inr (a2_0,a2_1))=>(Option.bind (Ct K 13 ([(⟨a2_0.Op,a2_0.Name,a2_0.Int,a2_0.Text,a2_0.Kids⟩:Aa)]:List Aa)) (fun a3=>some (Sum.inr (a3,a2_1)))))) else (Option.bind (R.B4 a1_1) (fun a4=>match a4 with |(Sum.inl a4)=>some (Sum.inl a4) |(Sum.inr (a4_0,a4_1))=>(Option.bind (B5 K ([([60]:List UInt8),([60,61]:List UInt8),([62]:List UInt8),([62,61]:List UInt8),([61,61]:List UInt8),([33,61]:List UInt8)]:List (List UInt8)) ([20,21,22,23,24,25]:List Int) a4_1) (fun (a5_0,a5_1,a5_2)=>(if a5_1=true then (Option.bind (R.B4 a5_2) (fun a6=>match a6 with |(Sum.inl a6)=>some (Sum.inl a6) |(Sum.inr (a6_0,a6_1))=>(Option.bind (Ct K a5_0 ([(⟨a4_0.Op,a4_0.Name,a4_0.Int,a4_0.Text,a4_0.Kids⟩:Aa),(⟨a6_0.Op,a6_0.Name,a6_0.Int,a6_0.Text,a6_0.Kids⟩:Aa)]:List Aa)) (fun a7=>some (Sum.inr (a7,a6_1)))))) else some (Sum.inr (a4_0,a5_2))))))))))
theorem Bm.body {Γ:Rm} {K:Nat} {R:Ai} (hR:R.Ok) {p0:Ab} {r:Int ⊕ (Aa×Ab)} (h:Bm.F K R p0=some r):Ri V P 29 100 Γ (Tryz.f93.body.getD .skip) (Rr P V Tryz.f93 (Bm.rep p0 r) (Bm.post p0 r)) ⟨Q6 0 [.P 0],[(0,.raw (Af p0))]⟩:=by
 unfold Bm.F at h
 refine Q4 L 200 <| Qv <| Qv ?_
 obtain ⟨⟨a1_0,a1_1⟩,h1,h⟩:=bind_some h
 dsimp only at h
 refine rg L 202 [] [] [(1,(Rc (.B a1_0) [(0,.raw (Af a1_1))]))] (Q3 (Ao.okE h1)) ?_
 rcases Qw h with ⟨c1,h⟩ |⟨c1,h⟩
 ·refine tt c1 <| Qv ?_
  obtain ⟨a2,h2,h⟩:=bind_some h
  rcases a2 with a2 | a2
  ·dsimp only at h
   refine qn L 205 [] [] [] 1 (Rc (.tup []) []) (Rq 49 a2) (Q3 (hR.Bm h2)) ?_
   cases h
   exact rfl
  ·obtain ⟨a2_0,a2_1⟩:=a2
   dsimp only at h
   obtain ⟨a3,h3,h⟩:=bind_some h
   refine rg L 205 [] [(3,.agg (Aj a3))] [(1,(Rc (.agg (Aj a2_0)) [(0,.raw (Af a2_1))]))] (Qz (hR.Bm h2) (Qz (Ct.ok h3) (Q3 trivial))) ?_
   refine Qy (Qu.trans (Qu.kk [2] [0,200]) (Qu.rr [(0,0),(200,100)])) ?_
   refine Qx ?_
   cases h
   exact Sw
 refine fN c1 <| Q0 <| Qv ?_
 obtain ⟨a4,h4,h⟩:=bind_some h
 rcases a4 with a4 | a4
 ·dsimp only at h
  refine qn L 211 [] [] [] 1 (Rc (.tup []) []) (Rq 49 a4) (Q3 (hR.B4 h4)) ?_
  cases h
  exact rfl
 ·obtain ⟨a4_0,a4_1⟩:=a4
  dsimp only at h
  refine rg L 211 [] [] [(1,(Rc (.agg (Aj a4_0)) [(0,.raw (Af a4_1))]))] (Q3 (hR.B4 h4)) ?_
  refine Qv <| Qv ?_
  obtain ⟨⟨a5_0,a5_1,a5_2⟩,h5,h⟩:=bind_some h
  dsimp only at h
  refine rg L 216 [] [] [(3,(Rc (.tup [.I a5_0,.B a5_1]) [(0,.raw (Af a5_2))]))] (Q3 (B5.okE h5)) ?_
  refine Q4 L 226 ?_
  rcases Qw h with ⟨c2,h⟩ |⟨c2,h⟩
  ·refine tt c2 <| Qv ?_
   obtain ⟨a6,h6,h⟩:=bind_some h
   rcases a6 with a6 | a6
   ·dsimp only at h
    refine qP L mixed 228 [] [] [] [0,2] 3 (Rc (.tup []) []) (Rq 49 a6) (Sj (hR.B4 h6) (hR.B4 h6)) ?_
    cases h
    exact rfl
   ·obtain ⟨a6_0,a6_1⟩:=a6
    dsimp only at h
    obtain ⟨a7,h7,h⟩:=bind_some h
    refine hB L mixed 228 [] [(5,.agg (Aj a7))] [(3,(Rc (.agg (Aj a6_0)) [(0,.raw (Af a6_1))]))] [0,2] 2 (Qz (hR.B4 h6) (Qz (Ct.ok h7) (Qz trivial (Qz (hR.B4 h6) (Qz (Ct.ok h7) (Q3 trivial)))))) (S':=⟨[(2,.P 200)],[(0,.raw (Af a6_1)),(200,.raw (Aj a7))]⟩) ?_
    refine Qy (Qu.trans (Qu.kk [2] [0,200]) (Qu.rr [(0,0),(200,100)])) ?_
    refine Qx ?_
    cases h
    exact Sw
  refine fN c2 <| Q0 <| Q4 L 236 <| Qy (Qu.trans (Qu.kk [2] [0,200]) (Qu.rr [(0,0),(200,100)])) ?_
  refine Qx ?_
  cases h
  exact Sw
def Bu.l6 (K:Nat) (R:Ai) (p0:List (List UInt8)) (p1:List Int):Nat→(List Al)→Int→Int→(List UInt8)→Int→(List UInt8)→(List Aa)→Option (Q9 (Int ⊕ (Aa×Ab)) Unit)
 | 0,_,_,_,_,_,_,_=>none
 | k+1,xh0_0_6h,xh0_1_6h,x21301_0,x21301_1,x21301_2,x21301_3,x21301_4=>(Option.bind (B5 K p0 p1 (⟨xh0_0_6h,xh0_1_6h⟩:Ab)) (fun (a2_0,a2_1,a2_2)=>(if a2_1=true then (Option.bind (R.Bm a2_2) (fun a3=>match a3 with |(Sum.inl a3)=>some (Q9.done (Sum.inl a3)) |(Sum.inr (a3_0,a3_1))=>(Option.bind (Ct K a2_0 ([(⟨x21301_0,x21301_1,x21301_2,x21301_3,x21301_4⟩:Aa),(⟨a3_0.Op,a3_0.Name,a3_0.Int,a3_0.Text,a3_0.Kids⟩:Aa)]:List Aa)) (fun a4=>Bu.l6 K R p0 p1 k a3_1.l a3_1.i a4.Op a4.Name a4.Int a4.Text a4.Kids)))) else some (Q9.done (Sum.inr ((⟨x21301_0,x21301_1,x21301_2,x21301_3,x21301_4⟩:Aa),a2_2))))))
def Bu.F (K:Nat) (R:Ai) (p0:List (List UInt8)) (p1:List Int) (p2:Ab):Option (Int ⊕ (Aa×Ab)):=(Option.bind (R.Bm p2) (fun a1=>match a1 with |(Sum.inl a1)=>some (Sum.inl a1) |(Sum.inr (a1_0,a1_1))=>(obind (Bu.l6 K R p0 p1 K a1_1.l a1_1.i a1_0.Op a1_0.Name a1_0.Int a1_0.Text a1_0.Kids:Option (Q9 (Int ⊕ (Aa×Ab)) Unit)) (fun r=>r) (fun _=>none))))
theorem Bu.body {Γ:Rm} {K:Nat} {R:Ai} (hR:R.Ok) {p0:List (List UInt8)} {p1:List Int} {p2:Ab} {r:Int ⊕ (Aa×Ab)} (h:Bu.F K R p0 p1 p2=some r):Ri V P 30 100 Γ (Tryz.f62.body.getD .skip) (Rr P V Tryz.f62 (Bu.rep p0 p1 p2 r) (Bu.post p0 p1 p2 r)) ⟨Q6 0 [.P 0,.cv (.fn (.func 93) [.P 0] []),.cv (.ro .C8 p0),.cv (.ro .Fg p1)],[(0,.raw (Af p2))]⟩:=by
 unfold Bu.F at h
 refine Q4 L 200 <| Qv ?_
 obtain ⟨a1,h1,h⟩:=bind_some h
 rcases a1 with a1 | a1
 ·dsimp only at h
  refine qn L 202 [] [] [] 1 (Rc (.tup []) []) (Rq 49 a1) (Q3 (hR.Bm h1)) ?_
  cases h
  exact rfl
 ·obtain ⟨a1_0,a1_1⟩:=a1
  dsimp only at h
  refine rg L 202 [] [] [(1,(Rc (.agg (Aj a1_0)) [(0,.raw (Af a1_1))]))] (Q3 (hR.Bm h1)) ?_
  refine Q2 <| Qy (Qu.trans (Qu.kk [0,1,2,3,8,9] [0,200,204]) (Qu.rr [(0,0),(200,21300),(204,21301)])) ?_
  refine kp (S':=⟨[(0,.P 0),(1,.cv (.fn (.func 93) [.P 0] [])),(2,.cv (.ro .C8 p0)),(3,.cv (.ro .Fg p1)),(8,.P 21300),(9,.P 21301)],[(0,.raw (Af a1_1)),(21300,.raw [.I 0,.str [],.I 0,.str [],.N]),(21301,.raw (Aj a1_0))]⟩) ?_
  obtain ⟨o1,hp1,h⟩:=Rf h
  refine Ra (Q':=fun e S=>False∨((e=.ret∨∃ ch,e=.panic ch)∧∃ a,Q9.done a=o1∧Rr P V Tryz.f62 (Bu.rep p0 p1 p2 a) (Bu.post p0 p1 p2 a) e S)) (Rh (fun k S=>∃ xh0_0_6h:List Al,∃ xh0_1_6h:Int,∃ x21301_0:Int,∃ x21301_1:List UInt8,∃ x21301_2:Int,∃ x21301_3:List UInt8,∃ x21301_4:List Aa,S=⟨[(0,.P 0),(1,.cv (.fn (.func 93) [.P 0] [])),(2,.cv (.ro .C8 p0)),(3,.cv (.ro .Fg p1)),(8,.P 21300),(9,.P 21301)],[(0,.raw [.ro .Ak xh0_0_6h,.I xh0_1_6h]),(21300,.raw [.I 0,.str [],.I 0,.str [],.N]),(21301,.raw [.I x21301_0,.str x21301_1,.I x21301_2,.str x21301_3,.ro .Ae x21301_4])]⟩∧Bu.l6 K R p0 p1 k xh0_0_6h xh0_1_6h x21301_0 x21301_1 x21301_2 x21301_3 x21301_4=some o1) ?_ ⟨_,_,_,_,_,_,_,rfl,hp1⟩) ?_
  ·clear h hp1
   intro k S hS
   obtain ⟨xh0_0_6h,xh0_1_6h,x21301_0,x21301_1,x21301_2,x21301_3,x21301_4,rfl,h⟩:=hS
   cases k with
   | zero=>cases h
   | succ k =>
   unfold Bu.l6 at h
   refine Q2 <| Qv ?_
   obtain ⟨⟨a2_0,a2_1,a2_2⟩,h2,h⟩:=bind_some h
   dsimp only at h
   refine rg L 207 [] [] [(3,(Rc (.tup [.I a2_0,.B a2_1]) [(0,.raw (Af a2_2))]))] (Q3 (B5.okE h2)) ?_
   refine Qv <| Q4 L 217 ?_
   rcases Qw h with ⟨c1,h⟩ |⟨c1,h⟩
   ·refine ff (b:=(!a2_1)) (congrArg Bool.not (c1)) ?_
    refine Q0 ?_
    obtain ⟨a3,h3,h⟩:=bind_some h
    rcases a3 with a3 | a3
    ·dsimp only at h
     refine qP L mixed 223 [] [] [] [0,2] 3 (Rc (.tup []) []) (Rq 49 a3) (Sj (hR.Bm h3) (hR.Bm h3)) ?_
     cases h
     exact .inr ⟨.inr ⟨_,rfl⟩,_,rfl,rfl⟩
    ·obtain ⟨a3_0,a3_1⟩:=a3
     dsimp only at h
     obtain ⟨a4,h4,h⟩:=bind_some h
     refine hB L mixed 223 [] [(5,.agg (Aj a4))] [(3,(Rc (.agg (Aj a3_0)) [(0,.raw (Af a3_1))]))] [0,2] 2 (Qz (hR.Bm h3) (Qz (Ct.ok h4) (Qz trivial (Qz (hR.Bm h3) (Qz (Ct.ok h4) (Q3 trivial)))))) (S':=⟨[(0,.P 0),(1,.cv (.fn (.func 93) [.P 0] [])),(2,.cv (.ro .C8 p0)),(3,.cv (.ro .Fg p1)),(8,.P 21300),(9,.P 21301)],[(0,.raw (Af a3_1)),(21300,.raw [.I 0,.str [],.I 0,.str [],.N]),(21301,.raw (Aj a4))]⟩) ?_
     exact ⟨k,Nat.lt_succ_self k,_,_,_,_,_,_,_,rfl,h⟩
   refine tt (b:=(!a2_1)) (congrArg Bool.not (eq_false_of_ne_true c1)) ?_
   refine Q4 L 220 <| Qy (Qu.trans (Qu.kk [8] [0,21300]) (Qu.rr [(0,0),(21300,100)])) ?_
   refine Qx ?_
   cases h
   exact .inr ⟨.inl rfl,_,rfl,Sw⟩
  ·rintro e S (hf |⟨he,a,rfl,hr⟩)
   ·exact hf.elim
   ·rcases h with ⟨_,e1,h⟩ |⟨_,e1,h⟩
    ·have e2:=Q9.done.inj e1
     subst e2
     subst h
     rcases he with rfl |⟨ch,rfl⟩
     ·exact ⟨_,Qu.refl,hr⟩
     ·exact ⟨_,Qu.refl,hr⟩
    ·cases e1
def Cf.F (K:Nat) (R:Ai) (p0:Ab):Option (Int ⊕ (Aa×Ab)):=(Option.bind (R.Bu ([([97,110,100]:List UInt8)]:List (List UInt8)) ([26]:List Int) p0) (fun a1=>match a1 with |(Sum.inl a1)=>some (Sum.inl a1) |(Sum.inr (a1_0,a1_1))=>some (Sum.inr (a1_0,a1_1))))
theorem Cf.body {Γ:Rm} {K:Nat} {R:Ai} (hR:R.Ok) {p0:Ab} {r:Int ⊕ (Aa×Ab)} (h:Cf.F K R p0=some r):Ri V P 9 100 Γ (Tryz.f63.body.getD .skip) (Rr P V Tryz.f63 (Cf.rep p0 r) (Cf.post p0 r)) ⟨Q6 0 [.P 0],[(0,.raw (Af p0))]⟩:=by
 unfold Cf.F at h
 refine Q4 L 200 <| Qv ?_
 obtain ⟨a1,h1,h⟩:=bind_some h
 rcases a1 with a1 | a1
 ·dsimp only at h
  refine qn L 202 [] [] [] 5 (Rc (.tup []) []) (Rq 49 a1) (Q3 (hR.Bu h1)) ?_
  cases h
  exact rfl
 ·obtain ⟨a1_0,a1_1⟩:=a1
  dsimp only at h
  refine rg L 202 [] [] [(5,(Rc (.agg (Aj a1_0)) [(0,.raw (Af a1_1))]))] (Q3 (hR.Bu h1)) ?_
  refine Qy (Qu.trans (Qu.kk [2] [0,200]) (Qu.rr [(0,0),(200,100)])) ?_
  refine Qx ?_
  cases h
  exact Sw
def Bt.l6 (K:Nat) (R:Ai) (p0:List (List UInt8)) (p1:List Int):Nat→(List Al)→Int→Int→(List UInt8)→Int→(List UInt8)→(List Aa)→Option (Q9 (Int ⊕ (Aa×Ab)) Unit)
 | 0,_,_,_,_,_,_,_=>none
 | k+1,xh0_0_6h,xh0_1_6h,x21301_0,x21301_1,x21301_2,x21301_3,x21301_4=>(Option.bind (B5 K p0 p1 (⟨xh0_0_6h,xh0_1_6h⟩:Ab)) (fun (a2_0,a2_1,a2_2)=>(if a2_1=true then (Option.bind (R.Cf a2_2) (fun a3=>match a3 with |(Sum.inl a3)=>some (Q9.done (Sum.inl a3)) |(Sum.inr (a3_0,a3_1))=>(Option.bind (Ct K a2_0 ([(⟨x21301_0,x21301_1,x21301_2,x21301_3,x21301_4⟩:Aa),(⟨a3_0.Op,a3_0.Name,a3_0.Int,a3_0.Text,a3_0.Kids⟩:Aa)]:List Aa)) (fun a4=>Bt.l6 K R p0 p1 k a3_1.l a3_1.i a4.Op a4.Name a4.Int a4.Text a4.Kids)))) else some (Q9.done (Sum.inr ((⟨x21301_0,x21301_1,x21301_2,x21301_3,x21301_4⟩:Aa),a2_2))))))
def Bt.F (K:Nat) (R:Ai) (p0:List (List UInt8)) (p1:List Int) (p2:Ab):Option (Int ⊕ (Aa×Ab)):=(Option.bind (R.Cf p2) (fun a1=>match a1 with |(Sum.inl a1)=>some (Sum.inl a1) |(Sum.inr (a1_0,a1_1))=>(obind (Bt.l6 K R p0 p1 K a1_1.l a1_1.i a1_0.Op a1_0.Name a1_0.Int a1_0.Text a1_0.Kids:Option (Q9 (Int ⊕ (Aa×Ab)) Unit)) (fun r=>r) (fun _=>none))))
theorem Bt.body {Γ:Rm} {K:Nat} {R:Ai} (hR:R.Ok) {p0:List (List UInt8)} {p1:List Int} {p2:Ab} {r:Int ⊕ (Aa×Ab)} (h:Bt.F K R p0 p1 p2=some r):Ri V P 30 100 Γ (Tryz.f62.body.getD .skip) (Rr P V Tryz.f62 (Bt.rep p0 p1 p2 r) (Bt.post p0 p1 p2 r)) ⟨Q6 0 [.P 0,.cv (.fn (.func 63) [.P 0] []),.cv (.ro .C8 p0),.cv (.ro .Fg p1)],[(0,.raw (Af p2))]⟩:=by
 unfold Bt.F at h
 refine Q4 L 200 <| Qv ?_
 obtain ⟨a1,h1,h⟩:=bind_some h
 rcases a1 with a1 | a1
 ·dsimp only at h
  refine qn L 202 [] [] [] 1 (Rc (.tup []) []) (Rq 49 a1) (Q3 (hR.Cf h1)) ?_
  cases h
  exact rfl
 ·obtain ⟨a1_0,a1_1⟩:=a1
  dsimp only at h
  refine rg L 202 [] [] [(1,(Rc (.agg (Aj a1_0)) [(0,.raw (Af a1_1))]))] (Q3 (hR.Cf h1)) ?_
  refine Q2 <| Qy (Qu.trans (Qu.kk [0,1,2,3,8,9] [0,200,204]) (Qu.rr [(0,0),(200,21300),(204,21301)])) ?_
  refine kp (S':=⟨[(0,.P 0),(1,.cv (.fn (.func 63) [.P 0] [])),(2,.cv (.ro .C8 p0)),(3,.cv (.ro .Fg p1)),(8,.P 21300),(9,.P 21301)],[(0,.raw (Af a1_1)),(21300,.raw [.I 0,.str [],.I 0,.str [],.N]),(21301,.raw (Aj a1_0))]⟩) ?_
  obtain ⟨o1,hp1,h⟩:=Rf h
  refine Ra (Q':=fun e S=>False∨((e=.ret∨∃ ch,e=.panic ch)∧∃ a,Q9.done a=o1∧Rr P V Tryz.f62 (Bt.rep p0 p1 p2 a) (Bt.post p0 p1 p2 a) e S)) (Rh (fun k S=>∃ xh0_0_6h:List Al,∃ xh0_1_6h:Int,∃ x21301_0:Int,∃ x21301_1:List UInt8,∃ x21301_2:Int,∃ x21301_3:List UInt8,∃ x21301_4:List Aa,S=⟨[(0,.P 0),(1,.cv (.fn (.func 63) [.P 0] [])),(2,.cv (.ro .C8 p0)),(3,.cv (.ro .Fg p1)),(8,.P 21300),(9,.P 21301)],[(0,.raw [.ro .Ak xh0_0_6h,.I xh0_1_6h]),(21300,.raw [.I 0,.str [],.I 0,.str [],.N]),(21301,.raw [.I x21301_0,.str x21301_1,.I x21301_2,.str x21301_3,.ro .Ae x21301_4])]⟩∧Bt.l6 K R p0 p1 k xh0_0_6h xh0_1_6h x21301_0 x21301_1 x21301_2 x21301_3 x21301_4=some o1) ?_ ⟨_,_,_,_,_,_,_,rfl,hp1⟩) ?_
  ·clear h hp1
   intro k S hS
   obtain ⟨xh0_0_6h,xh0_1_6h,x21301_0,x21301_1,x21301_2,x21301_3,x21301_4,rfl,h⟩:=hS
   cases k with
   | zero=>cases h
   | succ k =>
   unfold Bt.l6 at h
   refine Q2 <| Qv ?_
   obtain ⟨⟨a2_0,a2_1,a2_2⟩,h2,h⟩:=bind_some h
   dsimp only at h
   refine rg L 207 [] [] [(3,(Rc (.tup [.I a2_0,.B a2_1]) [(0,.raw (Af a2_2))]))] (Q3 (B5.okE h2)) ?_
   refine Qv <| Q4 L 217 ?_
   rcases Qw h with ⟨c1,h⟩ |⟨c1,h⟩
   ·refine ff (b:=(!a2_1)) (congrArg Bool.not (c1)) ?_
    refine Q0 ?_
    obtain ⟨a3,h3,h⟩:=bind_some h
    rcases a3 with a3 | a3
    ·dsimp only at h
     refine qP L mixed 223 [] [] [] [0,2] 3 (Rc (.tup []) []) (Rq 49 a3) (Sj (hR.Cf h3) (hR.Cf h3)) ?_
     cases h
     exact .inr ⟨.inr ⟨_,rfl⟩,_,rfl,rfl⟩
    ·obtain ⟨a3_0,a3_1⟩:=a3
     dsimp only at h
     obtain ⟨a4,h4,h⟩:=bind_some h
     refine hB L mixed 223 [] [(5,.agg (Aj a4))] [(3,(Rc (.agg (Aj a3_0)) [(0,.raw (Af a3_1))]))] [0,2] 2 (Qz (hR.Cf h3) (Qz (Ct.ok h4) (Qz trivial (Qz (hR.Cf h3) (Qz (Ct.ok h4) (Q3 trivial)))))) (S':=⟨[(0,.P 0),(1,.cv (.fn (.func 63) [.P 0] [])),(2,.cv (.ro .C8 p0)),(3,.cv (.ro .Fg p1)),(8,.P 21300),(9,.P 21301)],[(0,.raw (Af a3_1)),(21300,.raw [.I 0,.str [],.I 0,.str [],.N]),(21301,.raw (Aj a4))]⟩) ?_
     exact ⟨k,Nat.lt_succ_self k,_,_,_,_,_,_,_,rfl,h⟩
   refine tt (b:=(!a2_1)) (congrArg Bool.not (eq_false_of_ne_true c1)) ?_
   refine Q4 L 220 <| Qy (Qu.trans (Qu.kk [8] [0,21300]) (Qu.rr [(0,0),(21300,100)])) ?_
   refine Qx ?_
   cases h
   exact .inr ⟨.inl rfl,_,rfl,Sw⟩
  ·rintro e S (hf |⟨he,a,rfl,hr⟩)
   ·exact hf.elim
   ·rcases h with ⟨_,e1,h⟩ |⟨_,e1,h⟩
    ·have e2:=Q9.done.inj e1
     subst e2
     subst h
     rcases he with rfl |⟨ch,rfl⟩
     ·exact ⟨_,Qu.refl,hr⟩
     ·exact ⟨_,Qu.refl,hr⟩
    ·cases e1
def Ax.F (K:Nat) (R:Ai) (p0:Ab):Option (Int ⊕ (Aa×Ab)):=(Option.bind (R.Bt ([([111,114]:List UInt8)]:List (List UInt8)) ([27]:List Int) p0) (fun a1=>match a1 with |(Sum.inl a1)=>some (Sum.inl a1) |(Sum.inr (a1_0,a1_1))=>some (Sum.inr (a1_0,a1_1))))
theorem Ax.body {Γ:Rm} {K:Nat} {R:Ai} (hR:R.Ok) {p0:Ab} {r:Int ⊕ (Aa×Ab)} (h:Ax.F K R p0=some r):Ri V P 9 100 Γ (Tryz.f32.body.getD .skip) (Rr P V Tryz.f32 (Ax.rep p0 r) (Ax.post p0 r)) ⟨Q6 0 [.P 0],[(0,.raw (Af p0))]⟩:=by
 unfold Ax.F at h
 refine Q4 L 200 <| Qv ?_
 obtain ⟨a1,h1,h⟩:=bind_some h
 rcases a1 with a1 | a1
 ·dsimp only at h
  refine qn L 202 [] [] [] 5 (Rc (.tup []) []) (Rq 49 a1) (Q3 (hR.Bt h1)) ?_
  cases h
  exact rfl
 ·obtain ⟨a1_0,a1_1⟩:=a1
  dsimp only at h
  refine rg L 202 [] [] [(5,(Rc (.agg (Aj a1_0)) [(0,.raw (Af a1_1))]))] (Q3 (hR.Bt h1)) ?_
  refine Qy (Qu.trans (Qu.kk [2] [0,200]) (Qu.rr [(0,0),(200,100)])) ?_
  refine Qx ?_
  cases h
  exact Sw
def Ai.upto (K:Nat):Nat→Ai
 | 0=>⟨fun _ _=>none,fun _ _ _=>none,fun _=>none,fun _ _=>none,fun _=>none,fun _=>none,fun _=>none,fun _ _ _=>none,fun _=>none,fun _ _ _=>none,fun _=>none,fun _=>none,fun _ _ _=>none,fun _=>none,fun _ _ _=>none,fun _=>none⟩
 | k+1=>⟨Bg.F K (Ai.upto K k),Bn.F K (Ai.upto K k),B6.F K (Ai.upto K k),Bq.F K (Ai.upto K k),Bv.F K (Ai.upto K k),Be.F K (Ai.upto K k),Bb.F K (Ai.upto K k),Bw.F K (Ai.upto K k),Bo.F K (Ai.upto K k),Br.F K (Ai.upto K k),B4.F K (Ai.upto K k),Bm.F K (Ai.upto K k),Bu.F K (Ai.upto K k),Cf.F K (Ai.upto K k),Bt.F K (Ai.upto K k),Ax.F K (Ai.upto K k)⟩
theorem Ai.upto_ok (K:Nat):∀ k,(Ai.upto K k).Ok
 | 0=>⟨fun h=>(by cases h),fun h=>(by cases h),fun h=>(by cases h),fun h=>(by cases h),fun h=>(by cases h),fun h=>(by cases h),fun h=>(by cases h),fun h=>(by cases h),fun h=>(by cases h),fun h=>(by cases h),fun h=>(by cases h),fun h=>(by cases h),fun h=>(by cases h),fun h=>(by cases h),fun h=>(by cases h),fun h=>(by cases h)⟩
 | k+1=>⟨fun {p0 p1 r} h=>xo (fn:=Tryz.f48) (n:=25) (m:=100) fun Γ=>Bg.body (K:=K) (Ai.upto_ok K k) h,fun {p0 p1 p2 r} h=>xo (fn:=Tryz.f106) (n:=16) (m:=100) fun Γ=>Bn.body (K:=K) (Ai.upto_ok K k) h,fun {p0 r} h=>xo (fn:=Tryz.f166) (n:=21) (m:=100) fun Γ=>B6.body (K:=K) (Ai.upto_ok K k) h,fun {p0 p1 r} h=>xo (fn:=Tryz.f48) (n:=25) (m:=100) fun Γ=>Bq.body (K:=K) (Ai.upto_ok K k) h,fun {p0 r} h=>xo (fn:=Tryz.f163) (n:=51) (m:=100) fun Γ=>Bv.body (K:=K) (Ai.upto_ok K k) h,fun {p0 r} h=>xo (fn:=Tryz.f156) (n:=25) (m:=100) fun Γ=>Be.body (K:=K) (Ai.upto_ok K k) h,fun {p0 r} h=>xo (fn:=Tryz.f146) (n:=26) (m:=100) fun Γ=>Bb.body (K:=K) (Ai.upto_ok K k) h,fun {p0 p1 p2 r} h=>xo (fn:=Tryz.f62) (n:=30) (m:=100) fun Γ=>Bw.body (K:=K) (Ai.upto_ok K k) h,fun {p0 r} h=>xo (fn:=Tryz.f137) (n:=9) (m:=100) fun Γ=>Bo.body (K:=K) (Ai.upto_ok K k) h,fun {p0 p1 p2 r} h=>xo (fn:=Tryz.f62) (n:=30) (m:=100) fun Γ=>Br.body (K:=K) (Ai.upto_ok K k) h,fun {p0 r} h=>xo (fn:=Tryz.f122) (n:=9) (m:=100) fun Γ=>B4.body (K:=K) (Ai.upto_ok K k) h,fun {p0 r} h=>xo (fn:=Tryz.f93) (n:=29) (m:=100) fun Γ=>Bm.body (K:=K) (Ai.upto_ok K k) h,fun {p0 p1 p2 r} h=>xo (fn:=Tryz.f62) (n:=30) (m:=100) fun Γ=>Bu.body (K:=K) (Ai.upto_ok K k) h,fun {p0 r} h=>xo (fn:=Tryz.f63) (n:=9) (m:=100) fun Γ=>Cf.body (K:=K) (Ai.upto_ok K k) h,fun {p0 p1 p2 r} h=>xo (fn:=Tryz.f62) (n:=30) (m:=100) fun Γ=>Bt.body (K:=K) (Ai.upto_ok K k) h,fun {p0 r} h=>xo (fn:=Tryz.f32) (n:=9) (m:=100) fun Γ=>Ax.body (K:=K) (Ai.upto_ok K k) h⟩
def Bg (K:Nat) (p0:List UInt8) (p1:Ab):Option (((List Aa)×Ab) ⊕ Int):=(Ai.upto K K).Bg p0 p1
theorem Bg.okE {K:Nat} {p0:List UInt8} {p1:Ab} {r:((List Aa)×Ab) ⊕ Int} (h:Bg K p0 p1=some r):Rp V P 48 [.P 0,.cv (.str p0),.cv (.fn (.func 32) [.P 0] [])] [(0,.raw (Af p1))] [0] (Bg.post p0 p1 r) (Bg.rep p0 p1 r):=(Ai.upto_ok K K).Bg h
def Bn (K:Nat) (p0:Int) (p1:List UInt8) (p2:Ab):Option ((Aa×Ab) ⊕ Int):=(Ai.upto K K).Bn p0 p1 p2
theorem Bn.okE {K:Nat} {p0:Int} {p1:List UInt8} {p2:Ab} {r:(Aa×Ab) ⊕ Int} (h:Bn K p0 p1 p2=some r):Rp V P 106 [.P 0,.I p0,.cv (.str p1)] [(0,.raw (Af p2))] [0] (Bn.post p0 p1 p2 r) (Bn.rep p0 p1 p2 r):=(Ai.upto_ok K K).Bn h
def B6 (K:Nat) (p0:Ab):Option (Int ⊕ (Aa×Ab)):=(Ai.upto K K).B6 p0
theorem B6.okE {K:Nat} {p0:Ab} {r:Int ⊕ (Aa×Ab)} (h:B6 K p0=some r):Rp V P 166 [.P 0] [(0,.raw (Af p0))] [0] (B6.post p0 r) (B6.rep p0 r):=(Ai.upto_ok K K).B6 h
def Bq (K:Nat) (p0:List UInt8) (p1:Ab):Option (((List Aa)×Ab) ⊕ Int):=(Ai.upto K K).Bq p0 p1
theorem Bq.okE {K:Nat} {p0:List UInt8} {p1:Ab} {r:((List Aa)×Ab) ⊕ Int} (h:Bq K p0 p1=some r):Rp V P 48 [.P 0,.cv (.str p0),.cv (.fn (.func 166) [.P 0] [])] [(0,.raw (Af p1))] [0] (Bq.post p0 p1 r) (Bq.rep p0 p1 r):=(Ai.upto_ok K K).Bq h
def Bv (K:Nat) (p0:Ab):Option ((Aa×Ab) ⊕ Int):=(Ai.upto K K).Bv p0
theorem Bv.okE {K:Nat} {p0:Ab} {r:(Aa×Ab) ⊕ Int} (h:Bv K p0=some r):Rp V P 163 [.P 0] [(0,.raw (Af p0))] [0] (Bv.post p0 r) (Bv.rep p0 r):=(Ai.upto_ok K K).Bv h
def Be (K:Nat) (p0:Ab):Option (Int ⊕ (Aa×Ab)):=(Ai.upto K K).Be p0
theorem Be.okE {K:Nat} {p0:Ab} {r:Int ⊕ (Aa×Ab)} (h:Be K p0=some r):Rp V P 156 [.P 0] [(0,.raw (Af p0))] [0] (Be.post p0 r) (Be.rep p0 r):=(Ai.upto_ok K K).Be h
def Bb (K:Nat) (p0:Ab):Option (Int ⊕ (Aa×Ab)):=(Ai.upto K K).Bb p0
theorem Bb.okE {K:Nat} {p0:Ab} {r:Int ⊕ (Aa×Ab)} (h:Bb K p0=some r):Rp V P 146 [.P 0] [(0,.raw (Af p0))] [0] (Bb.post p0 r) (Bb.rep p0 r):=(Ai.upto_ok K K).Bb h
def Bw (K:Nat) (p0:List (List UInt8)) (p1:List Int) (p2:Ab):Option (Int ⊕ (Aa×Ab)):=(Ai.upto K K).Bw p0 p1 p2
theorem Bw.okE {K:Nat} {p0:List (List UInt8)} {p1:List Int} {p2:Ab} {r:Int ⊕ (Aa×Ab)} (h:Bw K p0 p1 p2=some r):Rp V P 62 [.P 0,.cv (.fn (.func 146) [.P 0] []),.cv (.ro .C8 p0),.cv (.ro .Fg p1)] [(0,.raw (Af p2))] [0] (Bw.post p0 p1 p2 r) (Bw.rep p0 p1 p2 r):=(Ai.upto_ok K K).Bw h
def Bo (K:Nat) (p0:Ab):Option (Int ⊕ (Aa×Ab)):=(Ai.upto K K).Bo p0
theorem Bo.okE {K:Nat} {p0:Ab} {r:Int ⊕ (Aa×Ab)} (h:Bo K p0=some r):Rp V P 137 [.P 0] [(0,.raw (Af p0))] [0] (Bo.post p0 r) (Bo.rep p0 r):=(Ai.upto_ok K K).Bo h
def Br (K:Nat) (p0:List (List UInt8)) (p1:List Int) (p2:Ab):Option (Int ⊕ (Aa×Ab)):=(Ai.upto K K).Br p0 p1 p2
theorem Br.okE {K:Nat} {p0:List (List UInt8)} {p1:List Int} {p2:Ab} {r:Int ⊕ (Aa×Ab)} (h:Br K p0 p1 p2=some r):Rp V P 62 [.P 0,.cv (.fn (.func 137) [.P 0] []),.cv (.ro .C8 p0),.cv (.ro .Fg p1)] [(0,.raw (Af p2))] [0] (Br.post p0 p1 p2 r) (Br.rep p0 p1 p2 r):=(Ai.upto_ok K K).Br h
def B4 (K:Nat) (p0:Ab):Option (Int ⊕ (Aa×Ab)):=(Ai.upto K K).B4 p0
theorem B4.okE {K:Nat} {p0:Ab} {r:Int ⊕ (Aa×Ab)} (h:B4 K p0=some r):Rp V P 122 [.P 0] [(0,.raw (Af p0))] [0] (B4.post p0 r) (B4.rep p0 r):=(Ai.upto_ok K K).B4 h
def Bm (K:Nat) (p0:Ab):Option (Int ⊕ (Aa×Ab)):=(Ai.upto K K).Bm p0
theorem Bm.okE {K:Nat} {p0:Ab} {r:Int ⊕ (Aa×Ab)} (h:Bm K p0=some r):Rp V P 93 [.P 0] [(0,.raw (Af p0))] [0] (Bm.post p0 r) (Bm.rep p0 r):=(Ai.upto_ok K K).Bm h
def Bu (K:Nat) (p0:List (List UInt8)) (p1:List Int) (p2:Ab):Option (Int ⊕ (Aa×Ab)):=(Ai.upto K K).Bu p0 p1 p2
theorem Bu.okE {K:Nat} {p0:List (List UInt8)} {p1:List Int} {p2:Ab} {r:Int ⊕ (Aa×Ab)} (h:Bu K p0 p1 p2=some r):Rp V P 62 [.P 0,.cv (.fn (.func 93) [.P 0] []),.cv (.ro .C8 p0),.cv (.ro .Fg p1)] [(0,.raw (Af p2))] [0] (Bu.post p0 p1 p2 r) (Bu.rep p0 p1 p2 r):=(Ai.upto_ok K K).Bu h
def Cf (K:Nat) (p0:Ab):Option (Int ⊕ (Aa×Ab)):=(Ai.upto K K).Cf p0
theorem Cf.okE {K:Nat} {p0:Ab} {r:Int ⊕ (Aa×Ab)} (h:Cf K p0=some r):Rp V P 63 [.P 0] [(0,.raw (Af p0))] [0] (Cf.post p0 r) (Cf.rep p0 r):=(Ai.upto_ok K K).Cf h
def Bt (K:Nat) (p0:List (List UInt8)) (p1:List Int) (p2:Ab):Option (Int ⊕ (Aa×Ab)):=(Ai.upto K K).Bt p0 p1 p2
theorem Bt.okE {K:Nat} {p0:List (List UInt8)} {p1:List Int} {p2:Ab} {r:Int ⊕ (Aa×Ab)} (h:Bt K p0 p1 p2=some r):Rp V P 62 [.P 0,.cv (.fn (.func 63) [.P 0] []),.cv (.ro .C8 p0),.cv (.ro .Fg p1)] [(0,.raw (Af p2))] [0] (Bt.post p0 p1 p2 r) (Bt.rep p0 p1 p2 r):=(Ai.upto_ok K K).Bt h
def Ax (K:Nat) (p0:Ab):Option (Int ⊕ (Aa×Ab)):=(Ai.upto K K).Ax p0
theorem Ax.okE {K:Nat} {p0:Ab} {r:Int ⊕ (Aa×Ab)} (h:Ax K p0=some r):Rp V P 32 [.P 0] [(0,.raw (Af p0))] [0] (Ax.post p0 r) (Ax.rep p0 r):=(Ai.upto_ok K K).Ax h
structure Ei where
 C7:Aa→Option Int
structure Ei.Ok (R:Ei):Prop where
 C7:∀ {p0:Aa} {r:Int},R.C7 p0=some r→Q5 V P 21 [.agg (Aj p0)] [] [] (.I r) []
theorem C7.okR {R:Ei} (hR:R.Ok) {p0:Aa} {r:Int} (h:R.C7 p0=some r):Rb V P 21 [.agg (Aj p0)] (.I r):=(hR.C7 h).pcall (by kernel_rfl)
def C7.l9 (K:Nat) (R:Ei) (p0:Aa):Nat→Int→Int→Option Int
 | 0,_,_=>none
 | k+1,xt3_9h,xt9_9h=>(if xt9_9h <(p0.Kids.length:Int) then (if (0:Int)≤xt9_9h∧(xt9_9h:Int) <(p0.Kids.length:Int) then (Option.bind (R.C7 (p0.Kids.getD (Int.toNat xt9_9h) B3)) (fun a1=>C7.l9 K R p0 k (IntKind.i64.wrap (xt3_9h+a1)) (IntKind.i64.wrap (xt9_9h+1)))) else none) else some xt3_9h)
def C7.F (K:Nat) (R:Ei) (p0:Aa):Option Int:=(Option.bind (C7.l9 K R p0 K 1 0:Option Int) (fun xt3_9=>some xt3_9))
theorem C7.body {Γ:Rm} {K:Nat} {R:Ei} (hR:R.Ok) {p0:Aa} {r:Int} (h:C7.F K R p0=some r):Ri V P 19 100 Γ (Tryz.f21.body.getD .skip) (Q7 P V Tryz.f21 (.I r) []) ⟨Q6 0 [.agg (Aj p0)],[]⟩:=by
 unfold C7.F at h
 refine Q4 L 200 <| Q4 L 203 <| Qv <| Q4 L 205 <| Q2 <| kp (S':=⟨[(3,.I 1),(7,.cv (.ro .Ae p0.Kids)),(8,.I (p0.Kids.length:Int)),(9,.I 0)],[]⟩) ?_
 obtain ⟨o1,hp1,h⟩:=bind_some h
 refine Ra (Q':=fun e S=>(e=.exit 0∧∃ xt3_9:Int,S=⟨[(3,.I xt3_9)],[]⟩∧xt3_9=o1)) (Rh (fun k S=>∃ xt3_9h:Int,∃ xt9_9h:Int,S=⟨[(3,.I xt3_9h),(7,.cv (.ro .Ae p0.Kids)),(8,.I (p0.Kids.length:Int)),(9,.I xt9_9h)],[]⟩∧C7.l9 K R p0 k xt3_9h xt9_9h=some o1) ?_ ⟨_,_,rfl,hp1⟩) ?_
 ·clear h hp1
  intro k S hS
  obtain ⟨xt3_9h,xt9_9h,rfl,h⟩:=hS
  cases k with
  | zero=>cases h
  | succ k =>
  unfold C7.l9 at h
  refine Q4 L 210 <| Qv ?_
  rcases Qw h with ⟨c1,h⟩ |⟨c1,h⟩
  ·refine tT c1 <| Q0 <| Qv <| Q2 <| Qv ?_
   obtain ⟨g1,h⟩:=Q1 h
   refine rg L 212 [] [] [] (Sj g1.1 g1.2) ?_
   obtain ⟨a1,h1,h⟩:=bind_some h
   refine rg L 217 [] [(2,.I a1)] [] (R6 (C7.okR hR h1)) ?_
   refine Tv L 223 [] [] [] (S':=⟨[(3,.I (IntKind.i64.wrap (xt3_9h+a1))),(7,.cv (.ro .Ae p0.Kids)),(8,.I (p0.Kids.length:Int)),(9,.I (IntKind.i64.wrap (xt9_9h+1)))],[]⟩) ?_
   exact ⟨k,Nat.lt_succ_self k,_,_,rfl,h⟩
  refine fF c1 <| ex (S':=⟨[(3,.I xt3_9h)],[]⟩) ?_
  cases h
  exact ⟨rfl,_,rfl,rfl⟩
 ·rintro e S ⟨rfl,xt3_9,rfl,rfl⟩
  refine ⟨_,Qu.refl,?_⟩
  refine Q4 L 226 <| Qx ?_
  cases h
  exact Rd
def Ei.upto (K:Nat):Nat→Ei
 | 0=>⟨fun _=>none⟩
 | k+1=>⟨C7.F K (Ei.upto K k)⟩
theorem Ei.upto_ok (K:Nat):∀ k,(Ei.upto K k).Ok
 | 0=>⟨fun h=>(by cases h)⟩
 | k+1=>⟨fun {p0 r} h=>eo (fn:=Tryz.f21) (n:=19) (m:=100) fun Γ=>C7.body (K:=K) (Ei.upto_ok K k) h⟩
def C7 (K:Nat) (p0:Aa):Option Int:=(Ei.upto K K).C7 p0
theorem C7.okE {K:Nat} {p0:Aa} {r:Int} (h:C7 K p0=some r):Q5 V P 21 [.agg (Aj p0)] [] [] (.I r) []:=(Ei.upto_ok K K).C7 h
theorem C7.ok {K:Nat} {p0:Aa} {r:Int} (h:C7 K p0=some r):Rb V P 21 [.agg (Aj p0)] (.I r):=(C7.okE h).pcall (by kernel_rfl)
structure Ed where
 C6:Aa→Option Int
structure Ed.Ok (R:Ed):Prop where
 C6:∀ {p0:Aa} {r:Int},R.C6 p0=some r→Q5 V P 22 [.agg (Aj p0)] [] [] (.I r) []
theorem C6.okR {R:Ed} (hR:R.Ok) {p0:Aa} {r:Int} (h:R.C6 p0=some r):Rb V P 22 [.agg (Aj p0)] (.I r):=(hR.C6 h).pcall (by kernel_rfl)
def C6.l9 (K:Nat) (R:Ed) (p0:Aa):Nat→Int→Int→Option Int
 | 0,_,_=>none
 | k+1,xt3_9h,xt9_9h=>(if xt9_9h <(p0.Kids.length:Int) then (if (0:Int)≤xt9_9h∧(xt9_9h:Int) <(p0.Kids.length:Int) then (Option.bind (R.C6 (p0.Kids.getD (Int.toNat xt9_9h) B3)) (fun a1=>C6.l9 K R p0 k (if a1 > xt3_9h then a1 else xt3_9h) (IntKind.i64.wrap (xt9_9h+1)))) else none) else some xt3_9h)
def C6.F (K:Nat) (R:Ed) (p0:Aa):Option Int:=(Option.bind (C6.l9 K R p0 K 0 0:Option Int) (fun xt3_9=>some (IntKind.i64.wrap (xt3_9+1))))
theorem C6.body {Γ:Rm} {K:Nat} {R:Ed} (hR:R.Ok) {p0:Aa} {r:Int} (h:C6.F K R p0=some r):Ri V P 20 100 Γ (Tryz.f22.body.getD .skip) (Q7 P V Tryz.f22 (.I r) []) ⟨Q6 0 [.agg (Aj p0)],[]⟩:=by
 unfold C6.F at h
 refine Q4 L 200 <| Q4 L 203 <| Qv <| Q4 L 205 <| Q2 <| kp (S':=⟨[(3,.I 0),(7,.cv (.ro .Ae p0.Kids)),(8,.I (p0.Kids.length:Int)),(9,.I 0)],[]⟩) ?_
 obtain ⟨o1,hp1,h⟩:=bind_some h
 refine Ra (Q':=fun e S=>(e=.exit 0∧∃ xt3_9:Int,S=⟨[(3,.I xt3_9)],[]⟩∧xt3_9=o1)) (Rh (fun k S=>∃ xt3_9h:Int,∃ xt9_9h:Int,S=⟨[(3,.I xt3_9h),(7,.cv (.ro .Ae p0.Kids)),(8,.I (p0.Kids.length:Int)),(9,.I xt9_9h)],[]⟩∧C6.l9 K R p0 k xt3_9h xt9_9h=some o1) ?_ ⟨_,_,rfl,hp1⟩) ?_
 ·clear h hp1
  intro k S hS
  obtain ⟨xt3_9h,xt9_9h,rfl,h⟩:=hS
  cases k with
  | zero=>cases h
  | succ k =>
  unfold C6.l9 at h
  refine Q4 L 210 <| Qv ?_
  rcases Qw h with ⟨c1,h⟩ |⟨c1,h⟩
  ·refine tT c1 <| Q0 <| Qv <| Q2 <| Qv ?_
   obtain ⟨g1,h⟩:=Q1 h
   refine rg L 212 [] [] [] (Sj g1.1 g1.2) ?_
   obtain ⟨a1,h1,h⟩:=bind_some h
   refine rg L 217 [] [(2,.I a1)] [] (R6 (C6.okR hR h1)) ?_
   refine Tv L 223 [] [] [] (S':=⟨[(3,.I (if a1 > xt3_9h then a1 else xt3_9h)),(7,.cv (.ro .Ae p0.Kids)),(8,.I (p0.Kids.length:Int)),(9,.I (IntKind.i64.wrap (xt9_9h+1)))],[]⟩) ?_
   exact ⟨k,Nat.lt_succ_self k,_,_,rfl,h⟩
  refine fF c1 <| ex (S':=⟨[(3,.I xt3_9h)],[]⟩) ?_
  cases h
  exact ⟨rfl,_,rfl,rfl⟩
 ·rintro e S ⟨rfl,xt3_9,rfl,rfl⟩
  refine ⟨_,Qu.refl,?_⟩
  refine Q4 L 226 <| Qx ?_
  cases h
  exact Rd
def Ed.upto (K:Nat):Nat→Ed
 | 0=>⟨fun _=>none⟩
 | k+1=>⟨C6.F K (Ed.upto K k)⟩
theorem Ed.upto_ok (K:Nat):∀ k,(Ed.upto K k).Ok
 | 0=>⟨fun h=>(by cases h)⟩
 | k+1=>⟨fun {p0 r} h=>eo (fn:=Tryz.f22) (n:=20) (m:=100) fun Γ=>C6.body (K:=K) (Ed.upto_ok K k) h⟩
def C6 (K:Nat) (p0:Aa):Option Int:=(Ed.upto K K).C6 p0
theorem C6.okE {K:Nat} {p0:Aa} {r:Int} (h:C6 K p0=some r):Q5 V P 22 [.agg (Aj p0)] [] [] (.I r) []:=(Ed.upto_ok K K).C6 h
theorem C6.ok {K:Nat} {p0:Aa} {r:Int} (h:C6 K p0=some r):Rb V P 22 [.agg (Aj p0)] (.I r):=(C6.okE h).pcall (by kernel_rfl)
def E1 (K:Nat) (p0:List Al) (p1:Int):Option (Int ⊕ (Aa×Int×Int)):=(Option.bind (Ax K (⟨p0,0⟩:Ab)) (fun a1=>match a1 with |(Sum.inl a1)=>some (Sum.inl a1) |(Sum.inr (a1_0,a1_1))=>(Option.bind (Bx K a1_1) (fun a2=>(if a2.Kind≠0 then (Option.bind (Bl K a1_1) (fun a3=>some (Sum.inl a3))) else (Option.bind (C7 K a1_0) (fun a4=>(if a4 > 4000 then some (Sum.inr ((⟨0,[],0,[],([]:List Aa)⟩:Aa),0,6)) else (Option.bind (C6 K a1_0) (fun a5=>(if a5 > 40 then some (Sum.inr ((⟨0,[],0,[],([]:List Aa)⟩:Aa),0,7)) else some (Sum.inr (a1_0,0,0)))))))))))))
def E1.rep (p0:List Al) (p1:Int):Int ⊕ (Aa×Int×Int)→Sc T
 |(Sum.inl v0)=>.pan (Rq 49 v0)
 |(Sum.inr (v0,v1,v2))=>.ret (.tup [.agg [.I v0.Op,.str v0.Name,.I v0.Int,.str v0.Text,.ro .Ae v0.Kids],.I v1,.I v2])
theorem E1.body {Γ:Rm} {K:Nat} {p0:List Al} {p1:Int} {r:Int ⊕ (Aa×Int×Int)} (h:E1 K p0 p1=some r):Ri V P 44 93 Γ (Rn (Rn (Rn (Rn (Tryz.f25.body.getD .skip))))) (Va P V Tryz.f25 (E1.rep p0 p1 r)) ⟨[(1,.cv (.fn (.func 32) [] [])),(4,.P 90),(5,.P 91),(6,.P 92),(7,.cv (.ro .Ak p0))],[(90,.raw [.I 0,.str [],.I 0,.str [],.N]),(91,.raw [.I p1]),(92,.raw [.I 0])]⟩:=by
 unfold E1 at h
 refine Q4 L 200 <| Qv ?_
 obtain ⟨a1,h1,h⟩:=bind_some h
 rcases a1 with a1 | a1
 ·dsimp only at h
  refine pn L 205 [] [] [] 2 [4,5,6] [90,91,92] (ef [0] [0] (.tup []) [] [(0,202)]) (Rq 49 a1) (cs:=[Aa0 V P 32 [.P 0] [(0,.raw [.ro .Ak p0,.I 0])] (Rq 49 a1)]) (S':=⟨[(4,.P 90),(5,.P 91),(6,.P 92)],[(90,.raw [.I 0,.str [],.I 0,.str [],.N]),(91,.raw [.I p1]),(92,.raw [.I 0])]⟩) (Ax.okE h1) ?_
  cases h
  exact (rp:Va P V Tryz.f25 (E1.rep p0 p1 (Sum.inl a1)) _ _)
 ·obtain ⟨a1_0,a1_1⟩:=a1
  dsimp only at h
  refine rg L 205 [] [] [(2,(ef [0] [0] (.agg (Aj a1_0)) [(0,.raw (Af a1_1))] [(0,202)]))] (Q3 (Ax.okE h1)) ?_
  refine Qv <| Qv ?_
  obtain ⟨a2,h2,h⟩:=bind_some h
  refine rg L 210 [] [(1,.agg (D8 a2))] [] (R6 (Bx.ok h2)) ?_
  rcases Qw h with ⟨c1,h⟩ |⟨c1,h⟩
  ·refine tT c1 ?_
   obtain ⟨a3,h3,h⟩:=bind_some h
   refine pn L 215 [] [] [] 1 [4,5,6] [90,91,92] (ef [0] [0] (.tup []) [] [(0,202)]) (Rq 49 a3) (cs:=[Aa0 V P 43 [.P 0] [(0,.raw (Af a1_1))] (Rq 49 a3)]) (S':=⟨[(4,.P 90),(5,.P 91),(6,.P 92)],[(90,.raw (Aj a1_0)),(91,.raw [.I p1]),(92,.raw [.I 0])]⟩) (Bl.okE h3) ?_
   cases h
   exact (rp:Va P V Tryz.f25 (E1.rep p0 p1 (Sum.inl a3)) _ _)
  refine fF c1 <| Q0 <| Qv <| Q2 <| Qv ?_
  obtain ⟨a4,h4,h⟩:=bind_some h
  refine rg L 218 [] [(1,.I a4)] [] (R6 (C7.ok h4)) ?_
  rcases Qw h with ⟨c2,h⟩ |⟨c2,h⟩
  ·refine tT c2 <| Q4 L 223 <| Qx ?_
   cases h
   exact rr0
  refine fF c2 <| Qv ?_
  obtain ⟨a5,h5,h⟩:=bind_some h
  refine rg L 228 [] [(1,.I a5)] [] (R6 (C6.ok h5)) ?_
  rcases Qw h with ⟨c3,h⟩ |⟨c3,h⟩
  ·refine tT c3 <| Q4 L 233 <| Qx ?_
   cases h
   exact rr0
  refine fF c3 <| Q0 <| Q4 L 238 <| Qx ?_
  cases h
  exact rr0
def Gi:Int ⊕ (Aa×Int×Int)→Aa×Int×Int
 |(Sum.inl v0)=>(B3,v0,29)
 |(Sum.inr (v0,v1,v2))=>(v0,v1,v2)
def Fw (K:Nat) (p0:List UInt8):Option (Aa×Int×Int):=Option.bind (El K p0) (fun (a1_0,a1_1,a1_2)=>if a1_2≠0 then some (B3,a1_1,a1_2) else Option.bind (E1 K a1_0 a1_1) (fun x=>some (Gi x)))
theorem Fw.ok {K:Nat} {p0:List UInt8} {r:Aa×Int×Int} (h:Fw K p0=some r):Rb V P 25 [.cv (.str p0),.cv (.fn (.func 32) [] [])] (.tup [.agg (Aj r.1),.I r.2.1,.I r.2.2]):=by
 unfold Fw at h
 obtain ⟨⟨l,at0,e0⟩,h1,h⟩:=bind_some h
 dsimp only at h
 by_cases he:e0≠0
 ·rw [if_pos he] at h
  obtain rfl:=Option.some.inj h
  exact J5 (El.ok h1) he
 ·rw [if_neg he] at h
  obtain ⟨x,h2,h⟩:=bind_some h
  obtain rfl:=Option.some.inj h
  have he0:e0=0:=Decidable.not_not.1 he
  subst he0
  refine Jq (o:=E1.rep l at0 x) (El.ok h1) (fun Γ=>E1.body h2) ?_
  rcases x with v0 |⟨v0,v1,v2⟩
  ·exact .inr ⟨v0,rfl,rfl⟩
  ·exact .inl rfl
def E8 (K:Nat) (p0:List UInt8):Option (Aa×Int×Int):=(Option.bind (Fw K p0) (fun (a1_0,a1_1,a1_2)=>some (a1_0,a1_1,a1_2)))
theorem E8.body {Γ:Rm} {K:Nat} {p0:List UInt8} {r:Aa×Int×Int} (h:E8 K p0=some r):Ri V P 10 100 Γ (Tryz.f15.body.getD .skip) (Q7 P V Tryz.f15 (.tup [.agg [.I r.1.Op,.str r.1.Name,.I r.1.Int,.str r.1.Text,.ro .Ae r.1.Kids],.I r.2.1,.I r.2.2]) []) ⟨Q6 0 [.cv (.str p0)],[]⟩:=by
 unfold E8 at h
 refine Q4 L 200 <| Qv ?_
 obtain ⟨⟨a1_0,a1_1,a1_2⟩,h1,h⟩:=bind_some h
 dsimp only at h
 refine rg L 204 [] [(1,.tup [.agg (Aj a1_0),.I a1_1,.I a1_2])] [] (R6 (Fw.ok h1)) ?_
 refine Qy (Qu.trans (Qu.kk [2,3,4] [200]) (Qu.rr [(200,100)])) ?_
 refine Qx ?_
 cases h
 exact Rd
theorem E8.ok {K:Nat} {p0:List UInt8} {r:Aa×Int×Int} (h:E8 K p0=some r):Rb V P 15 [.cv (.str p0)] (.tup [.agg [.I r.1.Op,.str r.1.Name,.I r.1.Int,.str r.1.Text,.ro .Ae r.1.Kids],.I r.2.1,.I r.2.2]):=Q5.pcall (eo (fn:=Tryz.f15) (n:=10) (m:=100) fun Γ=>E8.body h) (by kernel_rfl)
def C4 (K:Nat) (p0:Ab):Option (Int ⊕ (Aa×Ab)):=(Option.bind (Ao K ([45]:List UInt8) p0) (fun (a1_0,a1_1)=>(if a1_0=true then (Option.bind (Bx K a1_1) (fun a2=>(if a2.Kind≠3 then (Option.bind (Bl K a1_1) (fun a3=>some (Sum.inl a3))) else (Option.bind (D0 K a1_1) (fun (a4_0,a4_1)=>(Option.bind (Ct K 14 ([(⟨4,[],a4_0.Int,[],([]:List Aa)⟩:Aa)]:List Aa)) (fun a5=>some (Sum.inr (a5,a4_1))))))))) else (Option.bind (Dz K a1_1) (fun (a6_0,a6_1,a6_2)=>(if a6_1=true then some (Sum.inr (a6_0,a6_2)) else (Option.bind (Bl K a6_2) (fun a7=>some (Sum.inl a7)))))))))
def C4.rep (p0:Ab):Int ⊕ (Aa×Ab)→Sc T
 |(Sum.inl v0)=>.pan (Rq 49 v0)
 |(Sum.inr (v0,v1))=>.ret (.agg [.I v0.Op,.str v0.Name,.I v0.Int,.str v0.Text,.ro .Ae v0.Kids])
def C4.post (p0:Ab):Int ⊕ (Aa×Ab)→List (Nat×Rj T)
 |(Sum.inl v0)=>[]
 |(Sum.inr (v0,v1))=>[(0,.raw [.ro .Ak v1.l,.I v1.i])]
theorem C4.body {Γ:Rm} {K:Nat} {p0:Ab} {r:Int ⊕ (Aa×Ab)} (h:C4 K p0=some r):Ri V P 29 100 Γ (Tryz.f47.body.getD .skip) (Rr P V Tryz.f47 (C4.rep p0 r) (C4.post p0 r)) ⟨Q6 0 [.P 0],[(0,.raw (Af p0))]⟩:=by
 unfold C4 at h
 refine Q4 L 200 <| Qv <| Qv ?_
 obtain ⟨⟨a1_0,a1_1⟩,h1,h⟩:=bind_some h
 dsimp only at h
 refine rg L 202 [] [] [(1,(Rc (.B a1_0) [(0,.raw (Af a1_1))]))] (Q3 (Ao.okE h1)) ?_
 rcases Qw h with ⟨c1,h⟩ |⟨c1,h⟩
 ·refine tt c1 <| Qv <| Qv ?_
  obtain ⟨a2,h2,h⟩:=bind_some h
  refine rg L 205 [] [(1,.agg (D8 a2))] [] (R6 (Bx.ok h2)) ?_
  rcases Qw h with ⟨c2,h⟩ |⟨c2,h⟩
  ·refine tT c2 ?_
   obtain ⟨a3,h3,h⟩:=bind_some h
   refine qn L 210 [] [] [] 1 (Rc (.tup []) []) (Rq 49 a3) (Q3 (Bl.okE h3)) ?_
   cases h
   exact rfl
  refine fF c2 <| Q0 <| Qv ?_
  obtain ⟨⟨a4_0,a4_1⟩,h4,h⟩:=bind_some h
  dsimp only at h
  obtain ⟨a5,h5,h⟩:=bind_some h
  refine rg L 213 [] [(5,.agg (Aj a5))] [(1,(Rc (.agg (D8 a4_0)) [(0,.raw (Af a4_1))]))] (Qz (D0.okE h4) (Qz (Ct.ok h5) (Q3 trivial))) ?_
  refine Qy (Qu.trans (Qu.kk [2] [0,200]) (Qu.rr [(0,0),(200,100)])) ?_
  refine Qx ?_
  cases h
  exact Sw
 refine fN c1 <| Q0 <| Qv ?_
 obtain ⟨⟨a6_0,a6_1,a6_2⟩,h6,h⟩:=bind_some h
 dsimp only at h
 refine rg L 221 [] [] [(1,(Rc (.tup [.agg (Aj a6_0),.B a6_1]) [(0,.raw (Af a6_2))]))] (Q3 (Dz.okE h6)) ?_
 refine Qv <| Q4 L 230 ?_
 rcases Qw h with ⟨c3,h⟩ |⟨c3,h⟩
 ·refine ff (b:=(!a6_1)) (congrArg Bool.not (c3)) ?_
  refine Q0 <| Q4 L 236 <| Qy (Qu.trans (Qu.kk [2] [0,200]) (Qu.rr [(0,0),(200,100)])) ?_
  refine Qx ?_
  cases h
  exact Sw
 refine tt (b:=(!a6_1)) (congrArg Bool.not (eq_false_of_ne_true c3)) ?_
 obtain ⟨a7,h7,h⟩:=bind_some h
 refine qn L 233 [] [] [] 1 (Rc (.tup []) []) (Rq 49 a7) (Q3 (Bl.okE h7)) ?_
 cases h
 exact rfl
theorem C4.okE {K:Nat} {p0:Ab} {r:Int ⊕ (Aa×Ab)} (h:C4 K p0=some r):Rp V P 47 [.P 0] [(0,.raw (Af p0))] [0] (C4.post p0 r) (C4.rep p0 r) :=
 xo (fn:=Tryz.f47) (n:=29) (m:=100) fun Γ=>C4.body h
def Cw (K:Nat) (p0:Ab):Option (Int ⊕ (Aa×Ab)):=(Option.bind (Ay K p0) (fun a1=>match a1 with |(Sum.inl a1)=>some (Sum.inl a1) |(Sum.inr (a1_0,a1_1))=>some (Sum.inr ((⟨6,a1_0,0,[],([]:List Aa)⟩:Aa),a1_1))))
def Cw.rep (p0:Ab):Int ⊕ (Aa×Ab)→Sc T
 |(Sum.inl v0)=>.pan (Rq 49 v0)
 |(Sum.inr (v0,v1))=>.ret (.agg [.I v0.Op,.str v0.Name,.I v0.Int,.str v0.Text,.ro .Ae v0.Kids])
def Cw.post (p0:Ab):Int ⊕ (Aa×Ab)→List (Nat×Rj T)
 |(Sum.inl v0)=>[]
 |(Sum.inr (v0,v1))=>[(0,.raw [.ro .Ak v1.l,.I v1.i])]
theorem Cw.body {Γ:Rm} {K:Nat} {p0:Ab} {r:Int ⊕ (Aa×Ab)} (h:Cw K p0=some r):Ri V P 6 100 Γ (Tryz.f49.body.getD .skip) (Rr P V Tryz.f49 (Cw.rep p0 r) (Cw.post p0 r)) ⟨Q6 0 [.P 0],[(0,.raw (Af p0))]⟩:=by
 unfold Cw at h
 refine Q4 L 200 <| Qv ?_
 obtain ⟨a1,h1,h⟩:=bind_some h
 rcases a1 with a1 | a1
 ·dsimp only at h
  refine qn L 202 [] [] [] 1 (Rc (.tup []) []) (Rq 49 a1) (Q3 (Ay.okE h1)) ?_
  cases h
  exact rfl
 ·obtain ⟨a1_0,a1_1⟩:=a1
  dsimp only at h
  refine rg L 202 [] [] [(1,(Rc (.cv (.str a1_0)) [(0,.raw (Af a1_1))]))] (Q3 (Ay.okE h1)) ?_
  refine Qy (Qu.trans (Qu.kk [2] [0,200]) (Qu.rr [(0,0),(200,100)])) ?_
  refine Qx ?_
  cases h
  exact Sw
theorem Cw.okE {K:Nat} {p0:Ab} {r:Int ⊕ (Aa×Ab)} (h:Cw K p0=some r):Rp V P 49 [.P 0] [(0,.raw (Af p0))] [0] (Cw.post p0 r) (Cw.rep p0 r) :=
 xo (fn:=Tryz.f49) (n:=6) (m:=100) fun Γ=>Cw.body h
end Go.Proofs.YtifjagfmfkemmaaGreatDoor
