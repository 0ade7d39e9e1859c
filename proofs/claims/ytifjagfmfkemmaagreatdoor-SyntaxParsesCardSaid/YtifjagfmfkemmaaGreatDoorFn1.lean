import Derived.Test.YtifjagfmfkemmaaGreatDoorPd
set_option linter.unusedVariables false
set_option maxHeartbeats 0
namespace Go.Proofs.YtifjagfmfkemmaaGreatDoor
open Eng
def Ct (K:Nat) (p0:A0) (p1:Int):Option Int:=(if (IntKind.i64.wrap (p0.at_+p1))≥(p0.src.length:Int) then some (-1) else (if (0:Int)≤(IntKind.i64.wrap (p0.at_+p1))∧((IntKind.i64.wrap (p0.at_+p1)):Int) <(p0.src.length:Int) then some ((IntKind.i32.wrap ((p0.src.getD (Int.toNat (IntKind.i64.wrap (p0.at_+p1))) 0).toNat:Int))) else none))
theorem Ct.body {Γ:Yg} {K:Nat} {p0:A0} {p1:Int} {r:Int} (h:Ct K p0 p1=some r):Yc V P 29 100 Γ (Tryz.f97.body.getD .skip) (X1 P V Tryz.f97 (.cv (.lit (.int .i32 r))) []) ⟨X0 0 [.cv (.pcs (Bh p0) 0),.I p1],[]⟩:=by
 unfold Ct at h;refine Xy L 200 <| Xo <| sd' L mixed 202 [] [] [] [] 12 pl0 ?_;rcases Xp h with ⟨c1,h⟩ |⟨c1,h⟩
 ·refine tT c1 <| Xy L 215 <| Xq ?_;cases h;exact X7
 refine fF c1 <| Xu <| Xo ?_;obtain ⟨g1,h⟩:=Xv h;refine rd L mixed 217 [] [] [] [] 13 (Zb g1.1 g1.2) ?_;refine Xq ?_;cases h;exact X7
theorem Ct.ok {K:Nat} {p0:A0} {p1:Int} {r:Int} (h:Ct K p0 p1=some r):X6 V P 97 [.cv (.pcs (Bh p0) 0),.I p1] (.cv (.lit (.int .i32 r))):=Xz.pcall (eo (fn:=Tryz.f97) (n:=29) (m:=100) fun Γ=>Ct.body h) (by kernel_rfl)
def Fm (K:Nat) (p0:Int):Option Bool:=(if p0=32 then some true else (if p0=9 then some true else some (decide (p0=10))))
theorem Fm.body {Γ:Yg} {K:Nat} {p0:Int} {r:Bool} (h:Fm K p0=some r):Yc V P 13 100 Γ (Tryz.f71.body.getD .skip) (X1 P V Tryz.f71 (.B r) []) ⟨X0 0 [.cv (.lit (.int .i32 p0))],[]⟩:=by
 unfold Fm at h;refine Xy L 200 <| Xo ?_;rcases Xp h with ⟨c1,h⟩ |⟨c1,h⟩
 ·refine rg L 202 [(2,true)] [] [] (Xx (decide_eq_true c1)) ?_;refine Xq ?_;cases h;exact X7
 rcases Xp h with ⟨c2,h⟩ |⟨c2,h⟩
 ·refine rg L 202 [(2,false),(6,true)] [] [] (Zb (decide_eq_false c1) (decide_eq_true c2)) ?_;refine Xq ?_;cases h;exact X7
 refine rg L 202 [(2,false),(6,false)] [] [] (Zb (decide_eq_false c1) (decide_eq_false c2)) ?_;refine Xq ?_;cases h;exact X7
theorem Fm.ok {K:Nat} {p0:Int} {r:Bool} (h:Fm K p0=some r):X6 V P 71 [.cv (.lit (.int .i32 p0))] (.B r):=Xz.pcall (eo (fn:=Tryz.f71) (n:=13) (m:=100) fun Γ=>Fm.body h) (by kernel_rfl)
def Do.l7 (K:Nat) (p0:A0):Nat→Int→Option Int
 | 0,_=>none
 | k+1,a=>(Option.bind (Ct K (⟨p0.src,a⟩:A0) 0) (fun a1=>(Option.bind (Fm K a1) (fun a2=>(if a2=true then Do.l7 K p0 k (IntKind.i64.wrap (a+1)) else some a)))))
def Do (K:Nat) (p0:A0):Option ((List UInt8)×A0):=(Option.bind (Do.l7 K p0 K p0.at_:Option Int) (fun a=>(if (0:Int)≤p0.at_∧p0.at_≤a∧a≤(p0.src.length:Int) then some ((slc p0.src p0.at_ a),(⟨p0.src,a⟩:A0)) else none)))
theorem Do.body {Γ:Yg} {K:Nat} {p0:A0} {r:(List UInt8)×A0} (h:Do K p0=some r):Yc V P 31 100 Γ (Tryz.f70.body.getD .skip) (X1 P V Tryz.f70 (.cv (.str r.1)) [(0,.raw [.str r.2.src,.I r.2.at_])]) ⟨X0 0 [.P 0,.cv (.fn (.func 71) [] [])],[(0,.raw (Bh p0))]⟩:=by
 unfold Do at h;refine Xy L 200 <| Xy L 202 <| Xo <| Xw <| kp (S':=⟨[(0,.P 0),(1,.cv (.fn (.func 71) [] [])),(5,.I p0.at_)],[(0,.raw (Bh p0))]⟩) ?_;obtain ⟨o1,hp1,h⟩:=bind_some h;refine X4 (Q':=fun e S=>(e=.exit 0∧∃ b:Int,S=⟨[(0,.P 0),(5,.I p0.at_)],[(0,.raw [.str p0.src,.I b])]⟩∧b=o1)) (Yb (fun k S=>∃ a:Int,S=⟨[(0,.P 0),(1,.cv (.fn (.func 71) [] [])),(5,.I p0.at_)],[(0,.raw [.str p0.src,.I a])]⟩∧Do.l7 K p0 k a=some o1) ?_ ⟨_,rfl,hp1⟩) ?_
 ·clear h hp1;intro k S hS;obtain ⟨a,rfl,h⟩:=hS;cases k with
  | zero=>cases h
  | succ k =>
  unfold Do.l7 at h;refine Xo <| Xo ?_;obtain ⟨a1,h1,h⟩:=bind_some h;obtain ⟨a2,h2,h⟩:=bind_some h;refine rg L 208 [] [(2,.cv (.lit (.int .i32 a1))),(3,.B a2)] [] (Xt (Ct.ok h1) (Xt trivial (Xt (Fm.ok h2) (Xx trivial)))) ?_;rcases Xp h with ⟨c1,h⟩ |⟨c1,h⟩
  ·refine tt c1 <| Xu <| Xw <| ar0 L 213 [] [] [] (S':=⟨[(0,.P 0),(1,.cv (.fn (.func 71) [] [])),(5,.I p0.at_)],[(0,.raw [.str p0.src,.I (IntKind.i64.wrap (a+1))])]⟩) ?_;exact ⟨k,Nat.lt_succ_self k,_,rfl,h⟩
  refine fN c1 <| ex (S':=⟨[(0,.P 0),(5,.I p0.at_)],[(0,.raw [.str p0.src,.I a])]⟩) ?_;cases h;exact ⟨rfl,_,rfl,rfl⟩
 ·rintro e S ⟨rfl,b,rfl,rfl⟩;refine ⟨_,Xn.refl,?_⟩;refine Xo ?_;obtain ⟨g1,h⟩:=Xv h;refine rd L mixed 222 [] [] [] [] 11 (Xt g1.1 (Xt g1.2.1 (Xx g1.2.2))) ?_;refine Xq ?_;cases h;exact X7
theorem Do.okE {K:Nat} {p0:A0} {r:(List UInt8)×A0} (h:Do K p0=some r):Xz V P 70 [.P 0,.cv (.fn (.func 71) [] [])] [(0,.raw (Bh p0))] [0] (.cv (.str r.1)) [(0,.raw [.str r.2.src,.I r.2.at_])] :=
 eo (fn:=Tryz.f70) (n:=31) (m:=100) fun Γ=>Do.body h
def E6 (K:Nat) (p0:Int):Option Bool:=(if p0≥97 then (if p0≤122 then some true else (if p0≥65 then (if p0≤90 then some true else some (decide (p0=95))) else some (decide (p0=95)))) else (if p0≥65 then (if p0≤90 then some true else some (decide (p0=95))) else some (decide (p0=95))))
theorem E6.body {Γ:Yg} {K:Nat} {p0:Int} {r:Bool} (h:E6 K p0=some r):Yc V P 21 100 Γ (Tryz.f98.body.getD .skip) (X1 P V Tryz.f98 (.B r) []) ⟨X0 0 [.cv (.lit (.int .i32 p0))],[]⟩:=by
 unfold E6 at h;refine Xy L 200 <| Xo ?_;rcases Xp h with ⟨c1,h⟩ |⟨c1,h⟩
 ·rcases Xp h with ⟨c2,h⟩ |⟨c2,h⟩
  ·refine rg L 202 [(2,true),(6,true)] [] [] (Zb (decide_eq_true c1) (decide_eq_true c2)) ?_;refine Xq ?_;cases h;exact X7
  rcases Xp h with ⟨c3,h⟩ |⟨c3,h⟩
  ·rcases Xp h with ⟨c4,h⟩ |⟨c4,h⟩
   ·refine rg L 202 [(2,true),(6,false),(9,true),(14,true)] [] [] (Xt (decide_eq_true c1) (Xt (decide_eq_false c2) (Xt (decide_eq_true c3) (Xx (decide_eq_true c4))))) ?_;refine Xq ?_;cases h;exact X7
   refine rg L 202 [(2,true),(6,false),(9,true),(14,false)] [] [] (Xt (decide_eq_true c1) (Xt (decide_eq_false c2) (Xt (decide_eq_true c3) (Xx (decide_eq_false c4))))) ?_;refine Xq ?_;cases h;exact X7
  refine rg L 202 [(2,true),(6,false),(9,false)] [] [] (Xt (decide_eq_true c1) (Xt (decide_eq_false c2) (Xx (decide_eq_false c3)))) ?_;refine Xq ?_;cases h;exact X7
 rcases Xp h with ⟨c5,h⟩ |⟨c5,h⟩
 ·rcases Xp h with ⟨c6,h⟩ |⟨c6,h⟩
  ·refine rg L 202 [(2,false),(9,true),(14,true)] [] [] (Xt (decide_eq_false c1) (Xt (decide_eq_true c5) (Xx (decide_eq_true c6)))) ?_;refine Xq ?_;cases h;exact X7
  refine rg L 202 [(2,false),(9,true),(14,false)] [] [] (Xt (decide_eq_false c1) (Xt (decide_eq_true c5) (Xx (decide_eq_false c6)))) ?_;refine Xq ?_;cases h;exact X7
 refine rg L 202 [(2,false),(9,false)] [] [] (Zb (decide_eq_false c1) (decide_eq_false c5)) ?_;refine Xq ?_;cases h;exact X7
theorem E6.ok {K:Nat} {p0:Int} {r:Bool} (h:E6 K p0=some r):X6 V P 98 [.cv (.lit (.int .i32 p0))] (.B r):=Xz.pcall (eo (fn:=Tryz.f98) (n:=21) (m:=100) fun Γ=>E6.body h) (by kernel_rfl)
def Fi (K:Nat) (p0:Int):Option Bool:=(if p0≥48 then some (decide (p0≤57)) else some false)
theorem Fi.body {Γ:Yg} {K:Nat} {p0:Int} {r:Bool} (h:Fi K p0=some r):Yc V P 9 100 Γ (Tryz.f100.body.getD .skip) (X1 P V Tryz.f100 (.B r) []) ⟨X0 0 [.cv (.lit (.int .i32 p0))],[]⟩:=by
 unfold Fi at h;refine Xy L 200 <| Xo ?_;rcases Xp h with ⟨c1,h⟩ |⟨c1,h⟩
 ·refine rg L 202 [(2,true)] [] [] (Xx (decide_eq_true c1)) ?_;refine Xq ?_;cases h;exact X7
 refine rg L 202 [(2,false)] [] [] (Xx (decide_eq_false c1)) ?_;refine Xq ?_;cases h;exact X7
theorem Fi.ok {K:Nat} {p0:Int} {r:Bool} (h:Fi K p0=some r):X6 V P 100 [.cv (.lit (.int .i32 p0))] (.B r):=Xz.pcall (eo (fn:=Tryz.f100) (n:=9) (m:=100) fun Γ=>Fi.body h) (by kernel_rfl)
def Et (K:Nat) (p0:Int):Option Bool:=(Option.bind (E6 K p0) (fun a1=>(if a1=true then some true else (Option.bind (Fi K p0) (fun a2=>some a2)))))
theorem Et.body {Γ:Yg} {K:Nat} {p0:Int} {r:Bool} (h:Et K p0=some r):Yc V P 9 100 Γ (Tryz.f125.body.getD .skip) (X1 P V Tryz.f125 (.B r) []) ⟨X0 0 [.cv (.lit (.int .i32 p0))],[]⟩:=by
 unfold Et at h;refine Xy L 200 <| Xo ?_;obtain ⟨a1,h1,h⟩:=bind_some h;rcases Xp h with ⟨c1,h⟩ |⟨c1,h⟩
 ·refine rg L 202 [(2,true)] [(1,.B a1)] [] (Xt (E6.ok h1) (Xt trivial (Xx c1))) ?_;refine Xq ?_;cases h;exact X7
 obtain ⟨a2,h2,h⟩:=bind_some h;refine rg L 202 [(2,false)] [(1,.B a1),(4,.B a2)] [] (Xt (E6.ok h1) (Xt trivial (Xt (eq_false_of_ne_true c1) (Xt (Fi.ok h2) (Xx trivial))))) ?_;refine Xq ?_;cases h;exact X7
theorem Et.ok {K:Nat} {p0:Int} {r:Bool} (h:Et K p0=some r):X6 V P 125 [.cv (.lit (.int .i32 p0))] (.B r):=Xz.pcall (eo (fn:=Tryz.f125) (n:=9) (m:=100) fun Γ=>Et.body h) (by kernel_rfl)
def Dq.l7 (K:Nat) (p0:A0):Nat→Int→Option Int
 | 0,_=>none
 | k+1,a=>(Option.bind (Ct K (⟨p0.src,a⟩:A0) 0) (fun a1=>(Option.bind (Et K a1) (fun a2=>(if a2=true then Dq.l7 K p0 k (IntKind.i64.wrap (a+1)) else some a)))))
def Dq (K:Nat) (p0:A0):Option ((List UInt8)×A0):=(Option.bind (Dq.l7 K p0 K p0.at_:Option Int) (fun a=>(if (0:Int)≤p0.at_∧p0.at_≤a∧a≤(p0.src.length:Int) then some ((slc p0.src p0.at_ a),(⟨p0.src,a⟩:A0)) else none)))
theorem Dq.body {Γ:Yg} {K:Nat} {p0:A0} {r:(List UInt8)×A0} (h:Dq K p0=some r):Yc V P 31 100 Γ (Tryz.f70.body.getD .skip) (X1 P V Tryz.f70 (.cv (.str r.1)) [(0,.raw [.str r.2.src,.I r.2.at_])]) ⟨X0 0 [.P 0,.cv (.fn (.func 125) [] [])],[(0,.raw (Bh p0))]⟩:=by
 unfold Dq at h;refine Xy L 200 <| Xy L 202 <| Xo <| Xw <| kp (S':=⟨[(0,.P 0),(1,.cv (.fn (.func 125) [] [])),(5,.I p0.at_)],[(0,.raw (Bh p0))]⟩) ?_;obtain ⟨o1,hp1,h⟩:=bind_some h;refine X4 (Q':=fun e S=>(e=.exit 0∧∃ b:Int,S=⟨[(0,.P 0),(5,.I p0.at_)],[(0,.raw [.str p0.src,.I b])]⟩∧b=o1)) (Yb (fun k S=>∃ a:Int,S=⟨[(0,.P 0),(1,.cv (.fn (.func 125) [] [])),(5,.I p0.at_)],[(0,.raw [.str p0.src,.I a])]⟩∧Dq.l7 K p0 k a=some o1) ?_ ⟨_,rfl,hp1⟩) ?_
 ·clear h hp1;intro k S hS;obtain ⟨a,rfl,h⟩:=hS;cases k with
  | zero=>cases h
  | succ k =>
  unfold Dq.l7 at h;refine Xo <| Xo ?_;obtain ⟨a1,h1,h⟩:=bind_some h;obtain ⟨a2,h2,h⟩:=bind_some h;refine rg L 208 [] [(2,.cv (.lit (.int .i32 a1))),(3,.B a2)] [] (Xt (Ct.ok h1) (Xt trivial (Xt (Et.ok h2) (Xx trivial)))) ?_;rcases Xp h with ⟨c1,h⟩ |⟨c1,h⟩
  ·refine tt c1 <| Xu <| Xw <| ar0 L 213 [] [] [] (S':=⟨[(0,.P 0),(1,.cv (.fn (.func 125) [] [])),(5,.I p0.at_)],[(0,.raw [.str p0.src,.I (IntKind.i64.wrap (a+1))])]⟩) ?_;exact ⟨k,Nat.lt_succ_self k,_,rfl,h⟩
  refine fN c1 <| ex (S':=⟨[(0,.P 0),(5,.I p0.at_)],[(0,.raw [.str p0.src,.I a])]⟩) ?_;cases h;exact ⟨rfl,_,rfl,rfl⟩
 ·rintro e S ⟨rfl,b,rfl,rfl⟩;refine ⟨_,Xn.refl,?_⟩;refine Xo ?_;obtain ⟨g1,h⟩:=Xv h;refine rd L mixed 222 [] [] [] [] 11 (Xt g1.1 (Xt g1.2.1 (Xx g1.2.2))) ?_;refine Xq ?_;cases h;exact X7
theorem Dq.okE {K:Nat} {p0:A0} {r:(List UInt8)×A0} (h:Dq K p0=some r):Xz V P 70 [.P 0,.cv (.fn (.func 125) [] [])] [(0,.raw (Bh p0))] [0] (.cv (.str r.1)) [(0,.raw [.str r.2.src,.I r.2.at_])] :=
 eo (fn:=Tryz.f70) (n:=31) (m:=100) fun Γ=>Dq.body h
def D9.l7 (K:Nat) (p0:List (List UInt8)) (p1:List UInt8):Nat→Int→Option (X3 Int Unit)
 | 0,_=>none
 | k+1,a=>(if a <(p0.length:Int) then (if (0:Int)≤a∧(a:Int) <(p0.length:Int) then (if p1=(p0.getD (Int.toNat a) ([]:List UInt8)) then some (X3.done a) else D9.l7 K p0 p1 k (IntKind.i64.wrap (a+1))) else none) else some (X3.go ()))
def D9 (K:Nat) (p0:List (List UInt8)) (p1:List UInt8):Option Int:=(obind (D9.l7 K p0 p1 K 0:Option (X3 Int Unit)) (fun r=>r) (fun _=>some (-1)))
theorem D9.body {Γ:Yg} {K:Nat} {p0:List (List UInt8)} {p1:List UInt8} {r:Int} (h:D9 K p0 p1=some r):Yc V P 19 100 Γ (Tryz.f135.body.getD .skip) (X1 P V Tryz.f135 (.I r) []) ⟨X0 0 [.cv (.ro .Dd p0),.cv (.str p1)],[]⟩:=by
 unfold D9 at h;refine Xy L 200 <| Xo <| Xy L 202 <| Xw <| kp (S':=⟨[(0,.cv (.ro .Dd p0)),(1,.cv (.str p1)),(7,.I (p0.length:Int)),(8,.I 0)],[]⟩) ?_;obtain ⟨o1,hp1,h⟩:=X9 h;refine X4 (Q':=fun e S=>(e=.exit 0∧S=⟨[],[]⟩∧X3.go ()=o1)∨(e=.ret∧∃ a,X3.done a=o1∧X1 P V Tryz.f135 (.I a) [] .ret S)) (Yb (fun k S=>∃ b:Int,S=⟨[(0,.cv (.ro .Dd p0)),(1,.cv (.str p1)),(7,.I (p0.length:Int)),(8,.I b)],[]⟩∧D9.l7 K p0 p1 k b=some o1) ?_ ⟨_,rfl,hp1⟩) ?_
 ·clear h hp1;intro k S hS;obtain ⟨b,rfl,h⟩:=hS;cases k with
  | zero=>cases h
  | succ k =>
  unfold D9.l7 at h;refine Xy L 206 <| Xo ?_;rcases Xp h with ⟨c1,h⟩ |⟨c1,h⟩
  ·refine tT c1 <| Xu <| Xo <| Xw <| Xy L 208 <| Xo ?_;obtain ⟨g1,h⟩:=Xv h;refine rg L 211 [] [] [] (Zb g1.1 g1.2) ?_;rcases Xp h with ⟨c2,h⟩ |⟨c2,h⟩
   ·refine tT c2 <| Xy L 218 <| Xq ?_;cases h;exact .inr ⟨rfl,_,rfl,X7⟩
   refine fF c2 <| Xu <| ar0 L 221 [] [] [] (S':=⟨[(0,.cv (.ro .Dd p0)),(1,.cv (.str p1)),(7,.I (p0.length:Int)),(8,.I (IntKind.i64.wrap (b+1)))],[]⟩) ?_;exact ⟨k,Nat.lt_succ_self k,_,rfl,h⟩
  refine fF c1 <| ex (S':=⟨[],[]⟩) ?_;cases h;exact .inl ⟨rfl,rfl,rfl⟩
 ·rintro e S (⟨rfl,rfl,rfl⟩ |⟨rfl,a,rfl,hr⟩)
  ·rcases h with ⟨_,e1,h⟩ |⟨_,e1,h⟩
   ·cases e1
   ·have e2:=X3.go.inj e1;subst e2;refine ⟨_,Xn.refl,?_⟩;refine Xy L 224 <| Xq ?_;cases h;exact X7
  ·rcases h with ⟨_,e1,h⟩ |⟨_,e1,h⟩
   ·have e2:=X3.done.inj e1;subst e2;subst h;exact ⟨_,Xn.refl,hr⟩
   ·cases e1
theorem D9.ok {K:Nat} {p0:List (List UInt8)} {p1:List UInt8} {r:Int} (h:D9 K p0 p1=some r):X6 V P 135 [.cv (.ro .Dd p0),.cv (.str p1)] (.I r):=Xz.pcall (eo (fn:=Tryz.f135) (n:=19) (m:=100) fun Γ=>D9.body h) (by kernel_rfl)
def E3 (K:Nat) (p0:List (List UInt8)) (p1:List UInt8):Option Bool:=(Option.bind (D9 K p0 p1) (fun a1=>some (decide (a1≥0))))
theorem E3.body {Γ:Yg} {K:Nat} {p0:List (List UInt8)} {p1:List UInt8} {r:Bool} (h:E3 K p0 p1=some r):Yc V P 9 100 Γ (Tryz.f119.body.getD .skip) (X1 P V Tryz.f119 (.B r) []) ⟨X0 0 [.cv (.ro .Dd p0),.cv (.str p1)],[]⟩:=by
 unfold E3 at h;refine Xy L 200 <| Xo ?_;obtain ⟨a1,h1,h⟩:=bind_some h;refine rg L 202 [] [(2,.I a1)] [] (Yw (D9.ok h1)) ?_;refine Xq ?_;cases h;exact X7
theorem E3.ok {K:Nat} {p0:List (List UInt8)} {p1:List UInt8} {r:Bool} (h:E3 K p0 p1=some r):X6 V P 119 [.cv (.ro .Dd p0),.cv (.str p1)] (.B r):=Xz.pcall (eo (fn:=Tryz.f119) (n:=9) (m:=100) fun Γ=>E3.body h) (by kernel_rfl)
def E9 (K:Nat) (p0:List UInt8):Option Bool:=(if ([97,110,100,32,97,119,97,105,116,32,99,97,115,101,32,99,97,116,99,104,32,99,104,101,99,107,32,101,108,115,101,32,102,97,108,115,101,32,102,117,110,99,32,103,111,32,105,102,32,108,101,116,32,110,111,116,32,110,117,108,108,32,111,110,32,111,114,32,113,117,101,114,121,32,114,101,116,117,114,110,32,115,97,103,97,32,115,101,108,101,99,116,32,115,105,103,110,97,108,32,116,104,114,111,119,32,116,114,117,101,32,116,114,121,32,117,110,100,111,32,117,112,100,97,116,101,32,118,97,114,32,119,104,105,108,101]:List UInt8).length < 4294967281∧(([97,110,100,32,97,119,97,105,116,32,99,97,115,101,32,99,97,116,99,104,32,99,104,101,99,107,32,101,108,115,101,32,102,97,108,115,101,32,102,117,110,99,32,103,111,32,105,102,32,108,101,116,32,110,111,116,32,110,117,108,108,32,111,110,32,111,114,32,113,117,101,114,121,32,114,101,116,117,114,110,32,115,97,103,97,32,115,101,108,101,99,116,32,115,105,103,110,97,108,32,116,104,114,111,119,32,116,114,117,101,32,116,114,121,32,117,110,100,111,32,117,112,100,97,116,101,32,118,97,114,32,119,104,105,108,101]:List UInt8).all fun b=>decide (b.toNat < 128))=true then (Option.bind (E3 K (Lib.fields ([97,110,100,32,97,119,97,105,116,32,99,97,115,101,32,99,97,116,99,104,32,99,104,101,99,107,32,101,108,115,101,32,102,97,108,115,101,32,102,117,110,99,32,103,111,32,105,102,32,108,101,116,32,110,111,116,32,110,117,108,108,32,111,110,32,111,114,32,113,117,101,114,121,32,114,101,116,117,114,110,32,115,97,103,97,32,115,101,108,101,99,116,32,115,105,103,110,97,108,32,116,104,114,111,119,32,116,114,117,101,32,116,114,121,32,117,110,100,111,32,117,112,100,97,116,101,32,118,97,114,32,119,104,105,108,101]:List UInt8)) p0) (fun a1=>some a1)) else none)
theorem E9.body {Γ:Yg} {K:Nat} {p0:List UInt8} {r:Bool} (h:E9 K p0=some r):Yc V P 8 100 Γ (Tryz.f91.body.getD .skip) (X1 P V Tryz.f91 (.B r) []) ⟨X0 0 [.cv (.str p0)],[]⟩:=by
 unfold E9 at h;refine Xy L 200 <| Xo ?_;obtain ⟨g1,h⟩:=Xv h;refine rg L 202 [] [(0,.cv (.ron .Dd (Lib.fields ([97,110,100,32,97,119,97,105,116,32,99,97,115,101,32,99,97,116,99,104,32,99,104,101,99,107,32,101,108,115,101,32,102,97,108,115,101,32,102,117,110,99,32,103,111,32,105,102,32,108,101,116,32,110,111,116,32,110,117,108,108,32,111,110,32,111,114,32,113,117,101,114,121,32,114,101,116,117,114,110,32,115,97,103,97,32,115,101,108,101,99,116,32,115,105,103,110,97,108,32,116,104,114,111,119,32,116,114,117,101,32,116,114,121,32,117,110,100,111,32,117,112,100,97,116,101,32,118,97,114,32,119,104,105,108,101]:List UInt8))))] [] (Xx (show Aa1 V P 118 [.cv (.str ([97,110,100,32,97,119,97,105,116,32,99,97,115,101,32,99,97,116,99,104,32,99,104,101,99,107,32,101,108,115,101,32,102,97,108,115,101,32,102,117,110,99,32,103,111,32,105,102,32,108,101,116,32,110,111,116,32,110,117,108,108,32,111,110,32,111,114,32,113,117,101,114,121,32,114,101,116,117,114,110,32,115,97,103,97,32,115,101,108,101,99,116,32,115,105,103,110,97,108,32,116,104,114,111,119,32,116,114,117,101,32,116,114,121,32,117,110,100,111,32,117,112,100,97,116,101,32,118,97,114,32,119,104,105,108,101]:List UInt8))] Tag.Dd (Lib.fields ([97,110,100,32,97,119,97,105,116,32,99,97,115,101,32,99,97,116,99,104,32,99,104,101,99,107,32,101,108,115,101,32,102,97,108,115,101,32,102,117,110,99,32,103,111,32,105,102,32,108,101,116,32,110,111,116,32,110,117,108,108,32,111,110,32,111,114,32,113,117,101,114,121,32,114,101,116,117,114,110,32,115,97,103,97,32,115,101,108,101,99,116,32,115,105,103,110,97,108,32,116,104,114,111,119,32,116,114,117,101,32,116,114,121,32,117,110,100,111,32,117,112,100,97,116,101,32,118,97,114,32,119,104,105,108,101]:List UInt8)) from L2.okF ([97,110,100,32,97,119,97,105,116,32,99,97,115,101,32,99,97,116,99,104,32,99,104,101,99,107,32,101,108,115,101,32,102,97,108,115,101,32,102,117,110,99,32,103,111,32,105,102,32,108,101,116,32,110,111,116,32,110,117,108,108,32,111,110,32,111,114,32,113,117,101,114,121,32,114,101,116,117,114,110,32,115,97,103,97,32,115,101,108,101,99,116,32,115,105,103,110,97,108,32,116,104,114,111,119,32,116,114,117,101,32,116,114,121,32,117,110,100,111,32,117,112,100,97,116,101,32,118,97,114,32,119,104,105,108,101]:List UInt8) g1.1 g1.2)) ?_;refine Xo ?_;obtain ⟨a1,h1,h⟩:=bind_some h;refine rg L 205 [] [(2,.B a1)] [] (Yw (E3.ok h1)) ?_;refine Xq ?_;cases h;exact X7
theorem E9.ok {K:Nat} {p0:List UInt8} {r:Bool} (h:E9 K p0=some r):X6 V P 91 [.cv (.str p0)] (.B r):=Xz.pcall (eo (fn:=Tryz.f91) (n:=8) (m:=100) fun Γ=>E9.body h) (by kernel_rfl)
def Er (K:Nat) (p0:A0):Option (Ar×Int×A0):=(Option.bind (Dq K p0) (fun (a,b)=>(if (a.length:Int) > 64 then some ((⟨0,0,[],0⟩:Ar),8,b) else (Option.bind (E9 K a) (fun a2=>(if a2=true then some ((⟨2,0,a,0⟩:Ar),0,b) else some ((⟨1,0,a,0⟩:Ar),0,b)))))))
theorem Er.body {Γ:Yg} {K:Nat} {p0:A0} {r:Ar×Int×A0} (h:Er K p0=some r):Yc V P 17 100 Γ (Tryz.f99.body.getD .skip) (X1 P V Tryz.f99 (.tup [.agg [.I r.1.Kind,.I r.1.At,.str r.1.Text,.I r.1.Int],.I r.2.1]) [(0,.raw [.str r.2.2.src,.I r.2.2.at_])]) ⟨X0 0 [.P 0],[(0,.raw (Bh p0))]⟩:=by
 unfold Er at h;refine Xy L 200 <| Xo ?_;obtain ⟨⟨a,b⟩,h1,h⟩:=bind_some h;dsimp only at h;refine rg L 203 [] [] [(1,(X5 (.cv (.str a)) [(0,.raw (Bh b))]))] (Xx (Dq.okE h1)) ?_;refine Xo <| Xy L 207 ?_;rcases Xp h with ⟨c1,h⟩ |⟨c1,h⟩
 ·refine tT c1 <| Xy L 211 <| Xr (Xn.trans (Xn.kk [2,3] [0,200]) (Xn.rr [(0,0),(200,100)])) ?_;refine Xq ?_;cases h;exact X7
 refine fF c1 <| Xu <| Xo <| Xo ?_;obtain ⟨a2,h2,h⟩:=bind_some h;refine rg L 215 [] [(1,.B a2)] [] (Yw (E9.ok h2)) ?_;rcases Xp h with ⟨c2,h⟩ |⟨c2,h⟩
 ·refine tt c2 <| Xy L 218 <| Xr (Xn.trans (Xn.kk [2,3] [0,200]) (Xn.rr [(0,0),(200,100)])) ?_;refine Xq ?_;cases h;exact X7
 refine fN c2 <| Xu <| Xy L 223 <| Xr (Xn.trans (Xn.kk [2,3] [0,200]) (Xn.rr [(0,0),(200,100)])) ?_;refine Xq ?_;cases h;exact X7
theorem Er.okE {K:Nat} {p0:A0} {r:Ar×Int×A0} (h:Er K p0=some r):Xz V P 99 [.P 0] [(0,.raw (Bh p0))] [0] (.tup [.agg [.I r.1.Kind,.I r.1.At,.str r.1.Text,.I r.1.Int],.I r.2.1]) [(0,.raw [.str r.2.2.src,.I r.2.2.at_])] :=
 eo (fn:=Tryz.f99) (n:=17) (m:=100) fun Γ=>Er.body h
def Dr.l7 (K:Nat) (p0:A0):Nat→Int→Option Int
 | 0,_=>none
 | k+1,a=>(Option.bind (Ct K (⟨p0.src,a⟩:A0) 0) (fun a1=>(Option.bind (Fi K a1) (fun a2=>(if a2=true then Dr.l7 K p0 k (IntKind.i64.wrap (a+1)) else some a)))))
def Dr (K:Nat) (p0:A0):Option ((List UInt8)×A0):=(Option.bind (Dr.l7 K p0 K p0.at_:Option Int) (fun a=>(if (0:Int)≤p0.at_∧p0.at_≤a∧a≤(p0.src.length:Int) then some ((slc p0.src p0.at_ a),(⟨p0.src,a⟩:A0)) else none)))
theorem Dr.body {Γ:Yg} {K:Nat} {p0:A0} {r:(List UInt8)×A0} (h:Dr K p0=some r):Yc V P 31 100 Γ (Tryz.f70.body.getD .skip) (X1 P V Tryz.f70 (.cv (.str r.1)) [(0,.raw [.str r.2.src,.I r.2.at_])]) ⟨X0 0 [.P 0,.cv (.fn (.func 100) [] [])],[(0,.raw (Bh p0))]⟩:=by
 unfold Dr at h;refine Xy L 200 <| Xy L 202 <| Xo <| Xw <| kp (S':=⟨[(0,.P 0),(1,.cv (.fn (.func 100) [] [])),(5,.I p0.at_)],[(0,.raw (Bh p0))]⟩) ?_;obtain ⟨o1,hp1,h⟩:=bind_some h;refine X4 (Q':=fun e S=>(e=.exit 0∧∃ b:Int,S=⟨[(0,.P 0),(5,.I p0.at_)],[(0,.raw [.str p0.src,.I b])]⟩∧b=o1)) (Yb (fun k S=>∃ a:Int,S=⟨[(0,.P 0),(1,.cv (.fn (.func 100) [] [])),(5,.I p0.at_)],[(0,.raw [.str p0.src,.I a])]⟩∧Dr.l7 K p0 k a=some o1) ?_ ⟨_,rfl,hp1⟩) ?_
 ·clear h hp1;intro k S hS;obtain ⟨a,rfl,h⟩:=hS;cases k with
  | zero=>cases h
  | succ k =>
  unfold Dr.l7 at h;refine Xo <| Xo ?_;obtain ⟨a1,h1,h⟩:=bind_some h;obtain ⟨a2,h2,h⟩:=bind_some h;refine rg L 208 [] [(2,.cv (.lit (.int .i32 a1))),(3,.B a2)] [] (Xt (Ct.ok h1) (Xt trivial (Xt (Fi.ok h2) (Xx trivial)))) ?_;rcases Xp h with ⟨c1,h⟩ |⟨c1,h⟩
  ·refine tt c1 <| Xu <| Xw <| ar0 L 213 [] [] [] (S':=⟨[(0,.P 0),(1,.cv (.fn (.func 100) [] [])),(5,.I p0.at_)],[(0,.raw [.str p0.src,.I (IntKind.i64.wrap (a+1))])]⟩) ?_;exact ⟨k,Nat.lt_succ_self k,_,rfl,h⟩
  refine fN c1 <| ex (S':=⟨[(0,.P 0),(5,.I p0.at_)],[(0,.raw [.str p0.src,.I a])]⟩) ?_;cases h;exact ⟨rfl,_,rfl,rfl⟩
 ·rintro e S ⟨rfl,b,rfl,rfl⟩;refine ⟨_,Xn.refl,?_⟩;refine Xo ?_;obtain ⟨g1,h⟩:=Xv h;refine rd L mixed 222 [] [] [] [] 11 (Xt g1.1 (Xt g1.2.1 (Xx g1.2.2))) ?_;refine Xq ?_;cases h;exact X7
theorem Dr.okE {K:Nat} {p0:A0} {r:(List UInt8)×A0} (h:Dr K p0=some r):Xz V P 70 [.P 0,.cv (.fn (.func 100) [] [])] [(0,.raw (Bh p0))] [0] (.cv (.str r.1)) [(0,.raw [.str r.2.src,.I r.2.at_])] :=
 eo (fn:=Tryz.f70) (n:=31) (m:=100) fun Γ=>Dr.body h
def Ej (K:Nat) (p0:A0):Option (Ar×Int×A0):=(Option.bind (Dr K p0) (fun (b,a)=>(obind (((if (b.length:Int) > 1 then (if (0:Int) <(b.length:Int) then (if ((b.getD (Int.toNat 0) 0).toNat:Int)=48 then some (X3.done ((⟨0,0,[],0⟩:Ar),3,a)) else (Option.bind (Ct K a 0) (fun a2=>(Option.bind (E6 K a2) (fun a3=>(if a3=true then some (X3.done ((⟨0,0,[],0⟩:Ar),3,a)) else some (X3.go ()))))))) else none) else (Option.bind (Ct K a 0) (fun a4=>(Option.bind (E6 K a4) (fun a5=>(if a5=true then some (X3.done ((⟨0,0,[],0⟩:Ar),3,a)) else some (X3.go ())))))))):Option (X3 (Ar×Int×A0) Unit)) (fun r=>r) (fun _=>(if b.length≤281474976710656 then (if (Kl b)=true then some ((⟨3,0,[],(Jq b)⟩:Ar),0,a) else some ((⟨0,0,[],0⟩:Ar),14,a)) else none)))))
theorem Ej.body {Γ:Yg} {K:Nat} {p0:A0} {r:Ar×Int×A0} (h:Ej K p0=some r):Yc V P 33 100 Γ (Tryz.f101.body.getD .skip) (X1 P V Tryz.f101 (.tup [.agg [.I r.1.Kind,.I r.1.At,.str r.1.Text,.I r.1.Int],.I r.2.1]) [(0,.raw [.str r.2.2.src,.I r.2.2.at_])]) ⟨X0 0 [.P 0],[(0,.raw (Bh p0))]⟩:=by
 unfold Ej at h;refine Xy L 200 <| Xo ?_;obtain ⟨⟨c,d⟩,h1,h⟩:=bind_some h;dsimp only at h;refine rg L 203 [] [] [(1,(X5 (.cv (.str c)) [(0,.raw (Bh d))]))] (Xx (Dr.okE h1)) ?_;obtain ⟨o1,hp1,h⟩:=X9 h;refine Xo (Ye (Q':=fun e S=>(e=.normal∧S=⟨[(2,.P 21000),(4,.cv (.str c))],[(0,.raw (Bh d)),(21000,.raw [.I 0,.I 0,.str [],.I 0])]⟩∧X3.go ()=o1)∨(e=.ret∧∃ a,X3.done a=o1∧X1 P V Tryz.f101 (.tup [.agg [.I a.1.Kind,.I a.1.At,.str a.1.Text,.I a.1.Int],.I a.2.1]) [(0,.raw [.str a.2.2.src,.I a.2.2.at_])] .ret S)) ?_ ?_)
 ·clear h;replace h:=hp1;refine Xo ?_;rcases Xp h with ⟨c1,h⟩ |⟨c1,h⟩
  ·obtain ⟨g1,h⟩:=Xv h;rcases Xp h with ⟨c2,h⟩ |⟨c2,h⟩
   ·refine rg L 207 [(3,true),(8,true)] [] [] (Xt (decide_eq_true c1) (Xt (show (0:Int)≤0 from by decide) (Xt g1 (Xx (decide_eq_true c2))))) ?_;refine tt (b:=true) (rfl) ?_;refine Xy L 221 <| Xr (Xn.trans (Xn.kk [2,3] [0,200]) (Xn.rr [(0,0),(200,100)])) ?_;refine Xq ?_;cases h;exact .inr ⟨rfl,_,rfl,X7⟩
   obtain ⟨a2,h2,h⟩:=bind_some h;obtain ⟨a3,h3,h⟩:=bind_some h;refine rg L 207 [(3,true),(8,false)] [(10,.cv (.lit (.int .i32 a2))),(11,.B a3)] [] (Xt (decide_eq_true c1) (Xt (show (0:Int)≤0 from by decide) (Xt g1 (Xt (decide_eq_false c2) (Xt (Ct.ok h2) (Xt trivial (Xt (E6.ok h3) (Xx trivial)))))))) ?_;rcases Xp h with ⟨c3,h⟩ |⟨c3,h⟩
   ·refine tt c3 <| Xy L 221 <| Xr (Xn.trans (Xn.kk [2,3] [0,200]) (Xn.rr [(0,0),(200,100)])) ?_;refine Xq ?_;cases h;exact .inr ⟨rfl,_,rfl,X7⟩
   refine fN c3 <| Xr (Xn.trans (Xn.kk [2,4] [0,200]) (Xn.rr [(0,0),(200,21000)])) ?_;refine sk (S':=⟨[(2,.P 21000),(4,.cv (.str c))],[(0,.raw (Bh d)),(21000,.raw [.I 0,.I 0,.str [],.I 0])]⟩) ?_;cases h;exact .inl ⟨rfl,rfl,rfl⟩
  obtain ⟨a4,h4,h⟩:=bind_some h;obtain ⟨a5,h5,h⟩:=bind_some h;refine rg L 207 [(3,false)] [(10,.cv (.lit (.int .i32 a4))),(11,.B a5)] [] (Xt (decide_eq_false c1) (Xt (Ct.ok h4) (Xt trivial (Xt (E6.ok h5) (Xx trivial))))) ?_;rcases Xp h with ⟨c4,h⟩ |⟨c4,h⟩
  ·refine tt c4 <| Xy L 221 <| Xr (Xn.trans (Xn.kk [2,3] [0,200]) (Xn.rr [(0,0),(200,100)])) ?_;refine Xq ?_;cases h;exact .inr ⟨rfl,_,rfl,X7⟩
  refine fN c4 <| Xr (Xn.trans (Xn.kk [2,4] [0,200]) (Xn.rr [(0,0),(200,21000)])) ?_;refine sk (S':=⟨[(2,.P 21000),(4,.cv (.str c))],[(0,.raw (Bh d)),(21000,.raw [.I 0,.I 0,.str [],.I 0])]⟩) ?_;cases h;exact .inl ⟨rfl,rfl,rfl⟩
 ·rintro e S (⟨rfl,rfl,rfl⟩ |⟨rfl,a,rfl,hr⟩)
  ·rcases h with ⟨_,e1,h⟩ |⟨_,e1,h⟩
   ·cases e1
   ·have e2:=X3.go.inj e1;subst e2;refine Xo ?_;obtain ⟨g2,h⟩:=Xv h;rcases Xp h with ⟨c5,h⟩ |⟨c5,h⟩
    ·refine rg L 225 [] [(1,.tup [.I (Jq c),.cv (.lit .nilIface)])] [] (Yw (show X6 V P 126 [.cv (.str c),.I 10,.I 64] (.tup [.I (Jq c),.cv (.lit .nilIface)]) from Hn.ok c g2 (c5))) ?_;refine Xo <| Xy L 233 <| ff (b:=false) (rfl) ?_;refine Xu <| Xy L 240 <| Xr (Xn.trans (Xn.kk [2,3] [0,21000]) (Xn.rr [(0,0),(21000,100)])) ?_;refine Xq ?_;cases h;exact X7
    refine rg L 225 [] [(1,.tup [.cv (.any),.cv (.ifc 122 false [.any])])] [] (Yw (show X6 V P 126 [.cv (.str c),.I 10,.I 64] (.tup [.cv (.any),.cv (.ifc 122 false [.any])]) from Hn.no c g2 (eq_false_of_ne_true c5))) ?_;refine Xo <| Xy L 233 <| tt (b:=true) (rfl) ?_;refine Xy L 236 <| Xr (Xn.trans (Xn.kk [2,3] [0,21000]) (Xn.rr [(0,0),(21000,100)])) ?_;refine Xq ?_;cases h;exact X7
  ·rcases h with ⟨_,e1,h⟩ |⟨_,e1,h⟩
   ·have e2:=X3.done.inj e1;subst e2;subst h;exact hr
   ·cases e1
theorem Ej.okE {K:Nat} {p0:A0} {r:Ar×Int×A0} (h:Ej K p0=some r):Xz V P 101 [.P 0] [(0,.raw (Bh p0))] [0] (.tup [.agg [.I r.1.Kind,.I r.1.At,.str r.1.Text,.I r.1.Int],.I r.2.1]) [(0,.raw [.str r.2.2.src,.I r.2.2.at_])] :=
 eo (fn:=Tryz.f101) (n:=33) (m:=100) fun Γ=>Ej.body h
def Eh (K:Nat) (p0:A0):Option (Int×Int×A0):=(Option.bind (Ct K p0 0) (fun a1=>(if a1 < 0 then some (0,4,p0) else (if (Lib.indexByte ([48,49,50,51,52,53,54,55,56,57,97,98,99,100,101,102]:List UInt8) (Int.toNat (IntKind.u8.wrap a1)).toUInt8) < 0 then some (0,3,(⟨p0.src,(IntKind.i64.wrap (p0.at_+1))⟩:A0)) else some ((Lib.indexByte ([48,49,50,51,52,53,54,55,56,57,97,98,99,100,101,102]:List UInt8) (Int.toNat (IntKind.u8.wrap a1)).toUInt8),0,(⟨p0.src,(IntKind.i64.wrap (p0.at_+1))⟩:A0))))))
theorem Eh.body {Γ:Yg} {K:Nat} {p0:A0} {r:Int×Int×A0} (h:Eh K p0=some r):Yc V P 23 100 Γ (Tryz.f140.body.getD .skip) (X1 P V Tryz.f140 (.tup [.I r.1,.I r.2.1]) [(0,.raw [.str r.2.2.src,.I r.2.2.at_])]) ⟨X0 0 [.P 0],[(0,.raw (Bh p0))]⟩:=by
 unfold Eh at h;refine Xy L 200 <| Xo ?_;obtain ⟨a1,h1,h⟩:=bind_some h;refine rg L 203 [] [(1,.cv (.lit (.int .i32 a1)))] [] (Yw (Ct.ok h1)) ?_;refine Xo <| Xy L 207 ?_;rcases Xp h with ⟨c1,h⟩ |⟨c1,h⟩
 ·refine tT c1 <| Xy L 210 <| Xq ?_;cases h;exact X7
 refine fF c1 <| Xu <| Xy L 213 <| sg L 222 [] [(2,.I (Lib.indexByte ([48,49,50,51,52,53,54,55,56,57,97,98,99,100,101,102]:List UInt8) (Int.toNat (IntKind.u8.wrap a1)).toUInt8))] [] (Yw (show X6 V P 152 [.cv (.str ([48,49,50,51,52,53,54,55,56,57,97,98,99,100,101,102]:List UInt8)),.cv (.lit (.int .u8 (IntKind.u8.wrap a1)))] (.I (Lib.indexByte ([48,49,50,51,52,53,54,55,56,57,97,98,99,100,101,102]:List UInt8) (Int.toNat (IntKind.u8.wrap a1)).toUInt8)) from strings_IndexByte.ok ([48,49,50,51,52,53,54,55,56,57,97,98,99,100,101,102]:List UInt8) (IntKind.u8.wrap a1))) ?_;refine Xo <| Xy L 227 ?_;rcases Xp h with ⟨c2,h⟩ |⟨c2,h⟩
 ·refine tT c2 <| Xy L 230 <| Xq ?_;cases h;exact X7
 refine fF c2 <| Xu <| Xy L 233 <| Xq ?_;cases h;exact X7
theorem Eh.okE {K:Nat} {p0:A0} {r:Int×Int×A0} (h:Eh K p0=some r):Xz V P 140 [.P 0] [(0,.raw (Bh p0))] [0] (.tup [.I r.1,.I r.2.1]) [(0,.raw [.str r.2.2.src,.I r.2.2.at_])] :=
 eo (fn:=Tryz.f140) (n:=23) (m:=100) fun Γ=>Eh.body h
def En (K:Nat) (p0:A0):Option (Int×Int×A0):=(Option.bind (Ct K p0 0) (fun a1=>(if a1=(-1) then some (0,4,(⟨p0.src,(IntKind.i64.wrap (p0.at_+1))⟩:A0)) else (Option.bind ((if a1=34 then some (decide (a1=34)) else some (decide (a1=92))):Option Bool) (fun a=>(if a=true then some ((IntKind.u8.wrap a1),0,(⟨p0.src,(IntKind.i64.wrap (p0.at_+1))⟩:A0)) else (if a1=110 then some (10,0,(⟨p0.src,(IntKind.i64.wrap (p0.at_+1))⟩:A0)) else (if a1=116 then some (9,0,(⟨p0.src,(IntKind.i64.wrap (p0.at_+1))⟩:A0)) else (if a1=120 then (Option.bind (Eh K (⟨p0.src,(IntKind.i64.wrap (p0.at_+1))⟩:A0)) (fun (d,b,c)=>(if b≠0 then some (0,b,c) else (Option.bind (Eh K c) (fun (e,f,g)=>some (((IntKind.u8.wrap (IntKind.i64.wrap ((IntKind.i64.wrap (16 * d))+e))),f,g))))))) else some (0,3,(⟨p0.src,(IntKind.i64.wrap (p0.at_+1))⟩:A0)))))))))))
theorem En.body {Γ:Yg} {K:Nat} {p0:A0} {r:Int×Int×A0} (h:En K p0=some r):Yc V P 50 100 Γ (Tryz.f127.body.getD .skip) (X1 P V Tryz.f127 (.tup [.cv (.lit (.int .u8 r.1)),.I r.2.1]) [(0,.raw [.str r.2.2.src,.I r.2.2.at_])]) ⟨X0 0 [.P 0],[(0,.raw (Bh p0))]⟩:=by
 unfold En at h;refine Xy L 200 <| Xo ?_;obtain ⟨a1,h1,h⟩:=bind_some h;refine rg L 203 [] [(1,.cv (.lit (.int .i32 a1)))] [] (Yw (Ct.ok h1)) ?_;refine Xy L 207 <| Xo <| Xy L 216 <| Xw <| Xy L 218 ?_;rcases Xp h with ⟨c1,h⟩ |⟨c1,h⟩
 ·refine tT c1 <| Xy L 221 <| Xq ?_;cases h;exact X7
 refine fF c1 ?_;obtain ⟨o1,hp1,h⟩:=bind_some h;refine Xo (Ye (Q':=fun e S=>(e=.normal∧∃ a:Bool,S=⟨[(0,.P 0),(4,.cv (.lit (.int .i32 a1))),(17,.cv (.lit (.int .i32 a1))),(20,.B a)],[(0,.raw [.str p0.src,.I (IntKind.i64.wrap (p0.at_+1))])]⟩∧a=o1)) ?_ ?_)
 ·clear h;replace h:=hp1;refine Xy L 224 ?_;rcases Xp h with ⟨c2,h⟩ |⟨c2,h⟩
  ·refine tT c2 <| sk (S':=⟨[(0,.P 0),(4,.cv (.lit (.int .i32 a1))),(17,.cv (.lit (.int .i32 a1))),(20,.B (decide (a1=34)))],[(0,.raw [.str p0.src,.I (IntKind.i64.wrap (p0.at_+1))])]⟩) ?_;cases h;exact ⟨rfl,_,rfl,rfl⟩
  refine fF c2 <| ar0 L 227 [] [] [] (S':=⟨[(0,.P 0),(4,.cv (.lit (.int .i32 a1))),(17,.cv (.lit (.int .i32 a1))),(20,.B (decide (a1=92)))],[(0,.raw [.str p0.src,.I (IntKind.i64.wrap (p0.at_+1))])]⟩) ?_;cases h;exact ⟨rfl,_,rfl,rfl⟩
 ·rintro e S ⟨rfl,a,rfl,rfl⟩;rcases Xp h with ⟨c3,h⟩ |⟨c3,h⟩
  ·refine tt c3 <| Xy L 230 <| Xq ?_;cases h;exact X7
  refine fN c3 <| Xy L 235 ?_;rcases Xp h with ⟨c4,h⟩ |⟨c4,h⟩
  ·refine tT c4 <| Xy L 238 <| Xq ?_;cases h;exact X7
  refine fF c4 <| Xy L 241 ?_;rcases Xp h with ⟨c5,h⟩ |⟨c5,h⟩
  ·refine tT c5 <| Xy L 244 <| Xq ?_;cases h;exact X7
  refine fF c5 <| Xy L 247 ?_;rcases Xp h with ⟨c6,h⟩ |⟨c6,h⟩
  ·refine tT c6 <| Xo ?_;obtain ⟨⟨b,c,d⟩,h2,h⟩:=bind_some h;dsimp only at h;refine rg L 250 [] [] [(1,(X5 (.tup [.I b,.I c]) [(0,.raw (Bh d))]))] (Xx (Eh.okE h2)) ?_;refine Xo <| Xy L 258 ?_;rcases Xp h with ⟨c7,h⟩ |⟨c7,h⟩
   ·refine tT c7 <| Xy L 261 <| Xq ?_;cases h;exact X7
   refine fF c7 <| Xu <| Xo ?_;obtain ⟨⟨f,g,i⟩,h3,h⟩:=bind_some h;dsimp only at h;refine rg L 265 [] [] [(1,(X5 (.tup [.I f,.I g]) [(0,.raw (Bh i))]))] (Xx (Eh.okE h3)) ?_;refine Xy L 273 <| Xq ?_;cases h;exact X7
  refine fF c6 <| Xu <| Xy L 282 <| Xq ?_;cases h;exact X7
theorem En.okE {K:Nat} {p0:A0} {r:Int×Int×A0} (h:En K p0=some r):Xz V P 127 [.P 0] [(0,.raw (Bh p0))] [0] (.tup [.cv (.lit (.int .u8 r.1)),.I r.2.1]) [(0,.raw [.str r.2.2.src,.I r.2.2.at_])] :=
 eo (fn:=Tryz.f127) (n:=50) (m:=100) fun Γ=>En.body h
def De.l8 (K:Nat):Nat→(List UInt8)→Int→(List UInt8)→Option (X3 (Ar×Int×A0) Unit)
 | 0,_,_,_=>none
 | k+1,a,c,d=>(Option.bind (Ct K (⟨a,c⟩:A0) 0) (fun a1=>(if a1 < 0 then some (X3.done ((⟨0,0,[],0⟩:Ar),4,(⟨a,(IntKind.i64.wrap (c+1))⟩:A0))) else (if a1=34 then (if (d.length:Int) > 4096 then some (X3.done ((⟨0,0,[],0⟩:Ar),6,(⟨a,(IntKind.i64.wrap (c+1))⟩:A0))) else some (X3.done ((⟨4,0,(d.map (fun b=>b)),0⟩:Ar),0,(⟨a,(IntKind.i64.wrap (c+1))⟩:A0)))) else (if a1=92 then (Option.bind (En K (⟨a,(IntKind.i64.wrap (c+1))⟩:A0)) (fun (e,h,f)=>(if h≠0 then some (X3.done ((⟨0,0,[],0⟩:Ar),h,f)) else (if 0≤e∧e < 256 then (if (d.length+([(UInt8.ofNat (Int.toNat e))]:List UInt8).length) * 1≤140737488355328 then De.l8 K k f.src f.at_ (d++([(UInt8.ofNat (Int.toNat e))]:List UInt8)) else none) else none)))) else (Option.bind ((if a1≥32 then some (decide (a1≤126)) else some false):Option Bool) (fun g=>(if g=true then (if 0≤(IntKind.u8.wrap a1)∧(IntKind.u8.wrap a1) < 256 then (if (d.length+([(UInt8.ofNat (Int.toNat (IntKind.u8.wrap a1)))]:List UInt8).length) * 1≤140737488355328 then De.l8 K k a (IntKind.i64.wrap (c+1)) (d++([(UInt8.ofNat (Int.toNat (IntKind.u8.wrap a1)))]:List UInt8)) else none) else none) else some (X3.done ((⟨0,0,[],0⟩:Ar),3,(⟨a,(IntKind.i64.wrap (c+1))⟩:A0)))))))))))
def De (K:Nat) (p0:A0):Option (Ar×Int×A0):=(obind (De.l8 K K p0.src (IntKind.i64.wrap (p0.at_+1)) ([]:List UInt8):Option (X3 (Ar×Int×A0) Unit)) (fun r=>r) (fun _=>none))
theorem De.body {Γ:Yg} {K:Nat} {p0:A0} {r:Ar×Int×A0} (h:De K p0=some r):Yc V P 67 100 Γ (Tryz.f102.body.getD .skip) (X1 P V Tryz.f102 (.tup [.agg [.I r.1.Kind,.I r.1.At,.str r.1.Text,.I r.1.Int],.I r.2.1]) [(0,.raw [.str r.2.2.src,.I r.2.2.at_])]) ⟨X0 0 [.P 0],[(0,.raw (Bh p0))]⟩:=by
 unfold De at h;refine Xy L 200 <| Xy L 203 <| Xy L 212 <| Xw <| Xr (Xn.trans (Xn.kk [0,2,4] [0,200]) (Xn.trans (Xn.no 4 9500 Tag.D3) (Xn.trans (Xn.kk [0,2,4] [0,200,9500]) (Xn.rr [(0,0),(200,21700),(9500,21701)])))) ?_;refine kp (S':=⟨[(0,.P 0),(2,.P 21700),(4,.cv (.own .D3 21701))],[(0,.raw [.str p0.src,.I (IntKind.i64.wrap (p0.at_+1))]),(21700,.raw [.I 0,.I 0,.str [],.I 0]),(21701,.lst .D3 ([]:List UInt8))]⟩) ?_;obtain ⟨o2,hp2,h⟩:=X9 h;refine X4 (Q':=fun e S=>False∨(e=.ret∧∃ a,X3.done a=o2∧X1 P V Tryz.f102 (.tup [.agg [.I a.1.Kind,.I a.1.At,.str a.1.Text,.I a.1.Int],.I a.2.1]) [(0,.raw [.str a.2.2.src,.I a.2.2.at_])] .ret S)) (Yb (fun k S=>∃ b:List UInt8,∃ c:Int,∃ d:List UInt8,S=⟨[(0,.P 0),(2,.P 21700),(4,.cv (.own .D3 21701))],[(0,.raw [.str b,.I c]),(21700,.raw [.I 0,.I 0,.str [],.I 0]),(21701,.lst .D3 d)]⟩∧De.l8 K k b c d=some o2) ?_ ⟨_,_,_,rfl,hp2⟩) ?_
 ·clear h hp2;intro k S hS;obtain ⟨b,c,d,rfl,h⟩:=hS;cases k with
  | zero=>cases h
  | succ k =>
  unfold De.l8 at h;refine Xw <| Xo ?_;obtain ⟨a1,h1,h⟩:=bind_some h;refine rg L 214 [] [(1,.cv (.lit (.int .i32 a1)))] [] (Yw (Ct.ok h1)) ?_;refine Xy L 218 <| Xw <| Xy L 227 ?_;rcases Xp h with ⟨c1,h⟩ |⟨c1,h⟩
  ·refine tT c1 <| Xy L 231 <| Xr (Xn.trans (Xn.kk [2,3] [0,21700]) (Xn.rr [(0,0),(21700,100)])) ?_;refine Xq ?_;cases h;exact .inr ⟨rfl,_,rfl,X7⟩
  refine fF c1 <| Xy L 235 ?_;rcases Xp h with ⟨c2,h⟩ |⟨c2,h⟩
  ·refine tT c2 <| Xo <| Xy L 239 ?_;rcases Xp h with ⟨c3,h⟩ |⟨c3,h⟩
   ·refine tT c3 <| Xy L 243 <| Xr (Xn.trans (Xn.kk [2,3] [0,21700]) (Xn.rr [(0,0),(21700,100)])) ?_;refine Xq ?_;cases h;exact .inr ⟨rfl,_,rfl,X7⟩
   refine fF c3 <| Xu <| Xy L 247 <| Xr (Xn.trans (Xn.kk [2,3] [0,21700]) (Xn.rr [(0,0),(21700,100)])) ?_;refine Xq ?_;cases h;exact .inr ⟨rfl,_,rfl,X7⟩
  refine fF c2 <| Xy L 253 ?_;rcases Xp h with ⟨c4,h⟩ |⟨c4,h⟩
  ·refine tT c4 <| Xo ?_;obtain ⟨⟨g,j,i⟩,h2,h⟩:=bind_some h;dsimp only at h;refine rg L 257 [] [] [(1,(X5 (.tup [.cv (.lit (.int .u8 g)),.I j]) [(0,.raw (Bh i))]))] (Xx (En.okE h2)) ?_;refine Xo <| Xy L 265 ?_;rcases Xp h with ⟨c5,h⟩ |⟨c5,h⟩
   ·refine tT c5 <| Xy L 268 <| Xr (Xn.trans (Xn.kk [2,3] [0,21700]) (Xn.rr [(0,0),(21700,100)])) ?_;refine Xq ?_;cases h;exact .inr ⟨rfl,_,rfl,X7⟩
   refine fF c5 <| Xu ?_;obtain ⟨g1,h⟩:=Xv h;obtain ⟨g2,h⟩:=Xv h;refine ar L 273 [] [] [] (cs:=[0≤g,g < 256,(d.length+([(UInt8.ofNat (Int.toNat g))]:List UInt8).length) * 1≤140737488355328,True]) (S':=⟨[(0,.P 0),(2,.P 21700),(4,.cv (.own .D3 21701))],[(0,.raw (Bh i)),(21700,.raw [.I 0,.I 0,.str [],.I 0]),(21701,.lst .D3 (d++([(UInt8.ofNat (Int.toNat g))]:List UInt8)))]⟩) (And.intro g1.1 (And.intro g1.2 (And.intro g2 trivial))) ?_;exact ⟨k,Nat.lt_succ_self k,_,_,_,rfl,h⟩
  refine fF c4 ?_;obtain ⟨o1,hp1,h⟩:=bind_some h;refine Xo (Ye (Q':=fun e S=>(e=.normal∧∃ f:Bool,S=⟨[(0,.P 0),(2,.P 29800),(4,.cv (.own .D3 29801)),(5,.cv (.lit (.int .i32 a1))),(55,.B f)],[(0,.raw [.str b,.I (IntKind.i64.wrap (c+1))]),(29800,.raw [.I 0,.I 0,.str [],.I 0]),(29801,.lst .D3 d)]⟩∧f=o1)) ?_ ?_)
  ·clear h;replace h:=hp1;rcases Xp h with ⟨c6,h⟩ |⟨c6,h⟩
   ·refine X2 (rg L 279 [(2,true)] [] [] (Xx (decide_eq_true c6)) ⟨rfl,rfl⟩) (Xn.trans (Xn.kk [0,2,4,5,55] [0,21700,21701]) (Xn.trans (Xn.rr [(0,0),(21700,29800),(21701,29801)]) (Xn.kp (S':=⟨[(0,.P 0),(2,.P 29800),(4,.cv (.own .D3 29801)),(5,.cv (.lit (.int .i32 a1))),(55,.B (decide (a1≤126)))],[(0,.raw [.str b,.I (IntKind.i64.wrap (c+1))]),(29800,.raw [.I 0,.I 0,.str [],.I 0]),(29801,.lst .D3 d)]⟩)))) ?_;cases h;exact ⟨rfl,_,rfl,rfl⟩
   refine X2 (rg L 279 [(2,false)] [] [] (Xx (decide_eq_false c6)) ⟨rfl,rfl⟩) (Xn.trans (Xn.kk [0,2,4,5,55] [0,21700,21701]) (Xn.trans (Xn.rr [(0,0),(21700,29800),(21701,29801)]) (Xn.kp (S':=⟨[(0,.P 0),(2,.P 29800),(4,.cv (.own .D3 29801)),(5,.cv (.lit (.int .i32 a1))),(55,.B false)],[(0,.raw [.str b,.I (IntKind.i64.wrap (c+1))]),(29800,.raw [.I 0,.I 0,.str [],.I 0]),(29801,.lst .D3 d)]⟩)))) ?_;cases h;exact ⟨rfl,_,rfl,rfl⟩
  ·rintro e S ⟨rfl,f,rfl,rfl⟩;rcases Xp h with ⟨c7,h⟩ |⟨c7,h⟩
   ·refine tt c7 ?_;obtain ⟨g3,h⟩:=Xv h;obtain ⟨g4,h⟩:=Xv h;refine X2 (rg L 287 [] [] [] (Xt g3.1 (Xt g3.2 (Xt g4 (Xx trivial)))) ⟨rfl,rfl⟩) (Xn.trans (Xn.kk [0,2,4] [0,29800,29801]) (Xn.trans (Xn.rr [(0,0),(29800,21700),(29801,21701)]) (Xn.kp (S':=⟨[(0,.P 0),(2,.P 21700),(4,.cv (.own .D3 21701))],[(0,.raw [.str b,.I (IntKind.i64.wrap (c+1))]),(21700,.raw [.I 0,.I 0,.str [],.I 0]),(21701,.lst .D3 (d++([(UInt8.ofNat (Int.toNat (IntKind.u8.wrap a1)))]:List UInt8)))]⟩)))) ?_;exact ⟨k,Nat.lt_succ_self k,_,_,_,rfl,h⟩
   refine fN c7 <| Xy L 294 <| Xr (Xn.trans (Xn.kk [2,3] [0,29800]) (Xn.rr [(0,0),(29800,100)])) ?_;refine Xq ?_;cases h;exact .inr ⟨rfl,_,rfl,X7⟩
 ·rintro e S (hf |⟨rfl,a,rfl,hr⟩)
  ·exact hf.elim
  ·rcases h with ⟨_,e1,h⟩ |⟨_,e1,h⟩
   ·have e2:=X3.done.inj e1;subst e2;subst h;exact ⟨_,Xn.refl,hr⟩
   ·cases e1
theorem De.okE {K:Nat} {p0:A0} {r:Ar×Int×A0} (h:De K p0=some r):Xz V P 102 [.P 0] [(0,.raw (Bh p0))] [0] (.tup [.agg [.I r.1.Kind,.I r.1.At,.str r.1.Text,.I r.1.Int],.I r.2.1]) [(0,.raw [.str r.2.2.src,.I r.2.2.at_])] :=
 eo (fn:=Tryz.f102) (n:=67) (m:=100) fun Γ=>De.body h
def Eo (K:Nat) (p0:A0):Option (Ar×Int×A0):=(Option.bind (((Option.bind (Ct K p0 0) (fun a1=>(Option.bind ((if a1=61 then some (decide (a1=61)) else (if a1=60 then some (decide (a1=60)) else (if a1=62 then some (decide (a1=62)) else some (decide (a1=33))))):Option Bool) (fun b=>(if b=true then (Option.bind (Ct K p0 1) (fun a2=>(if a2=61 then some 2 else (if a1≠33 then some 1 else some 0)))) else (if a1=40 then some 1 else (if a1=41 then some 1 else (if a1=123 then some 1 else (if a1=125 then some 1 else (if a1=91 then some 1 else (if a1=93 then some 1 else (if a1=44 then some 1 else (if a1=59 then some 1 else (if a1=46 then some 1 else (if a1=58 then some 1 else (if a1=43 then some 1 else (if a1=45 then some 1 else (if a1=42 then some 1 else (if a1=47 then some 1 else (if a1=37 then some 1 else some 0))))))))))))))))))))):Option Int) (fun a=>(if a=0 then some ((⟨0,0,[],0⟩:Ar),3,p0) else (if (0:Int)≤p0.at_∧p0.at_≤(IntKind.i64.wrap (p0.at_+a))∧(IntKind.i64.wrap (p0.at_+a))≤(p0.src.length:Int) then some ((⟨5,0,(slc p0.src p0.at_ (IntKind.i64.wrap (p0.at_+a))),0⟩:Ar),0,(⟨p0.src,(IntKind.i64.wrap (p0.at_+a))⟩:A0)) else none))))
theorem Eo.body {Γ:Yg} {K:Nat} {p0:A0} {r:Ar×Int×A0} (h:Eo K p0=some r):Yc V P 64 100 Γ (Tryz.f103.body.getD .skip) (X1 P V Tryz.f103 (.tup [.agg [.I r.1.Kind,.I r.1.At,.str r.1.Text,.I r.1.Int],.I r.2.1]) [(0,.raw [.str r.2.2.src,.I r.2.2.at_])]) ⟨X0 0 [.P 0],[(0,.raw (Bh p0))]⟩:=by
 unfold Eo at h;refine Xy L 200 <| Xy L 203 ?_;obtain ⟨o2,hp2,h⟩:=bind_some h;refine Xo (Ye (Q':=fun e S=>(e=.normal∧∃ b:Int,S=⟨[(0,.P 0),(2,.P 21000),(4,.I b)],[(0,.raw (Bh p0)),(21000,.raw [.I 0,.I 0,.str [],.I 0])]⟩∧b=o2)) ?_ ?_)
 ·clear h;replace h:=hp2;refine Xo ?_;obtain ⟨a1,h1,h⟩:=bind_some h;refine rg L 205 [] [(1,.cv (.lit (.int .i32 a1)))] [] (Yw (Ct.ok h1)) ?_;refine Xy L 209 <| Xw ?_;obtain ⟨o1,hp1,h⟩:=bind_some h;refine Xo (Ye (Q':=fun e S=>(e=.normal∧∃ a:Bool,S=⟨[(0,.P 0),(2,.P 22200),(4,.I 0),(5,.cv (.lit (.int .i32 a1))),(9,.cv (.lit (.int .i32 a1))),(10,.B a)],[(0,.raw (Bh p0)),(22200,.raw [.I 0,.I 0,.str [],.I 0])]⟩∧a=o1)) ?_ ?_)
  ·clear h;replace h:=hp1;refine Xy L 211 ?_;rcases Xp h with ⟨c1,h⟩ |⟨c1,h⟩
   ·refine tT c1 <| Xr (Xn.trans (Xn.kk [0,2,4,5,9,10] [0,200]) (Xn.rr [(0,0),(200,22200)])) ?_;refine sk (S':=⟨[(0,.P 0),(2,.P 22200),(4,.I 0),(5,.cv (.lit (.int .i32 a1))),(9,.cv (.lit (.int .i32 a1))),(10,.B (decide (a1=61)))],[(0,.raw (Bh p0)),(22200,.raw [.I 0,.I 0,.str [],.I 0])]⟩) ?_;cases h;exact ⟨rfl,_,rfl,rfl⟩
   refine fF c1 <| Xy L 214 ?_;rcases Xp h with ⟨c2,h⟩ |⟨c2,h⟩
   ·refine tT c2 <| Xr (Xn.trans (Xn.kk [0,2,4,5,9,10] [0,200]) (Xn.rr [(0,0),(200,22200)])) ?_;refine sk (S':=⟨[(0,.P 0),(2,.P 22200),(4,.I 0),(5,.cv (.lit (.int .i32 a1))),(9,.cv (.lit (.int .i32 a1))),(10,.B (decide (a1=60)))],[(0,.raw (Bh p0)),(22200,.raw [.I 0,.I 0,.str [],.I 0])]⟩) ?_;cases h;exact ⟨rfl,_,rfl,rfl⟩
   refine fF c2 <| Xy L 217 ?_;rcases Xp h with ⟨c3,h⟩ |⟨c3,h⟩
   ·refine tT c3 <| Xr (Xn.trans (Xn.kk [0,2,4,5,9,10] [0,200]) (Xn.rr [(0,0),(200,22200)])) ?_;refine sk (S':=⟨[(0,.P 0),(2,.P 22200),(4,.I 0),(5,.cv (.lit (.int .i32 a1))),(9,.cv (.lit (.int .i32 a1))),(10,.B (decide (a1=62)))],[(0,.raw (Bh p0)),(22200,.raw [.I 0,.I 0,.str [],.I 0])]⟩) ?_;cases h;exact ⟨rfl,_,rfl,rfl⟩
   refine fF c3 <| X2 (rg0 L 220 ⟨rfl,rfl⟩) (Xn.trans (Xn.kk [0,2,4,5,9,10] [0,200]) (Xn.trans (Xn.rr [(0,0),(200,22200)]) (Xn.kp (S':=⟨[(0,.P 0),(2,.P 22200),(4,.I 0),(5,.cv (.lit (.int .i32 a1))),(9,.cv (.lit (.int .i32 a1))),(10,.B (decide (a1=33)))],[(0,.raw (Bh p0)),(22200,.raw [.I 0,.I 0,.str [],.I 0])]⟩)))) ?_;cases h;exact ⟨rfl,_,rfl,rfl⟩
  ·rintro e S ⟨rfl,a,rfl,rfl⟩;rcases Xp h with ⟨c4,h⟩ |⟨c4,h⟩
   ·refine tt c4 <| Xo ?_;obtain ⟨a2,h2,h⟩:=bind_some h;refine rg L 223 [] [(1,.cv (.lit (.int .i32 a2)))] [] (Yw (Ct.ok h2)) ?_;rcases Xp h with ⟨c5,h⟩ |⟨c5,h⟩
    ·refine tT c5 <| X2 (rg0 L 227 ⟨rfl,rfl⟩) (Xn.trans (Xn.kk [0,2,4] [0,22200]) (Xn.trans (Xn.rr [(0,0),(22200,21000)]) (Xn.kp (S':=⟨[(0,.P 0),(2,.P 21000),(4,.I 2)],[(0,.raw (Bh p0)),(21000,.raw [.I 0,.I 0,.str [],.I 0])]⟩)))) ?_;cases h;exact ⟨rfl,_,rfl,rfl⟩
    refine fF c5 <| Xy L 229 ?_;rcases Xp h with ⟨c6,h⟩ |⟨c6,h⟩
    ·refine tT c6 <| X2 (rg0 L 232 ⟨rfl,rfl⟩) (Xn.trans (Xn.kk [0,2,4] [0,22200]) (Xn.trans (Xn.rr [(0,0),(22200,21000)]) (Xn.kp (S':=⟨[(0,.P 0),(2,.P 21000),(4,.I 1)],[(0,.raw (Bh p0)),(21000,.raw [.I 0,.I 0,.str [],.I 0])]⟩)))) ?_;cases h;exact ⟨rfl,_,rfl,rfl⟩
    refine fF c6 <| Xr (Xn.trans (Xn.kk [0,2,4] [0,22200]) (Xn.rr [(0,0),(22200,21000)])) ?_;refine sk (S':=⟨[(0,.P 0),(2,.P 21000),(4,.I 0)],[(0,.raw (Bh p0)),(21000,.raw [.I 0,.I 0,.str [],.I 0])]⟩) ?_;cases h;exact ⟨rfl,_,rfl,rfl⟩
   refine fN c4 <| Xo <| Xy L 234 ?_;rcases Xp h with ⟨c7,h⟩ |⟨c7,h⟩
   ·refine tT c7 <| Xu <| tT c7 <| X2 (rg0 L 279 ⟨rfl,rfl⟩) (Xn.trans (Xn.kk [0,2,4] [0,22200]) (Xn.trans (Xn.rr [(0,0),(22200,21000)]) (Xn.kp (S':=⟨[(0,.P 0),(2,.P 21000),(4,.I 1)],[(0,.raw (Bh p0)),(21000,.raw [.I 0,.I 0,.str [],.I 0])]⟩)))) ?_;cases h;exact ⟨rfl,_,rfl,rfl⟩
   refine fF c7 <| Xy L 237 ?_;rcases Xp h with ⟨c8,h⟩ |⟨c8,h⟩
   ·refine tT c8 <| Xu <| tT c8 <| X2 (rg0 L 279 ⟨rfl,rfl⟩) (Xn.trans (Xn.kk [0,2,4] [0,22200]) (Xn.trans (Xn.rr [(0,0),(22200,21000)]) (Xn.kp (S':=⟨[(0,.P 0),(2,.P 21000),(4,.I 1)],[(0,.raw (Bh p0)),(21000,.raw [.I 0,.I 0,.str [],.I 0])]⟩)))) ?_;cases h;exact ⟨rfl,_,rfl,rfl⟩
   refine fF c8 <| Xy L 240 ?_;rcases Xp h with ⟨c9,h⟩ |⟨c9,h⟩
   ·refine tT c9 <| Xu <| tT c9 <| X2 (rg0 L 279 ⟨rfl,rfl⟩) (Xn.trans (Xn.kk [0,2,4] [0,22200]) (Xn.trans (Xn.rr [(0,0),(22200,21000)]) (Xn.kp (S':=⟨[(0,.P 0),(2,.P 21000),(4,.I 1)],[(0,.raw (Bh p0)),(21000,.raw [.I 0,.I 0,.str [],.I 0])]⟩)))) ?_;cases h;exact ⟨rfl,_,rfl,rfl⟩
   refine fF c9 <| Xy L 243 ?_;rcases Xp h with ⟨c10,h⟩ |⟨c10,h⟩
   ·refine tT c10 <| Xu <| tT c10 <| X2 (rg0 L 279 ⟨rfl,rfl⟩) (Xn.trans (Xn.kk [0,2,4] [0,22200]) (Xn.trans (Xn.rr [(0,0),(22200,21000)]) (Xn.kp (S':=⟨[(0,.P 0),(2,.P 21000),(4,.I 1)],[(0,.raw (Bh p0)),(21000,.raw [.I 0,.I 0,.str [],.I 0])]⟩)))) ?_;cases h;exact ⟨rfl,_,rfl,rfl⟩
   refine fF c10 <| Xy L 246 ?_;rcases Xp h with ⟨c11,h⟩ |⟨c11,h⟩
   ·refine tT c11 <| Xu <| tT c11 <| X2 (rg0 L 279 ⟨rfl,rfl⟩) (Xn.trans (Xn.kk [0,2,4] [0,22200]) (Xn.trans (Xn.rr [(0,0),(22200,21000)]) (Xn.kp (S':=⟨[(0,.P 0),(2,.P 21000),(4,.I 1)],[(0,.raw (Bh p0)),(21000,.raw [.I 0,.I 0,.str [],.I 0])]⟩)))) ?_;cases h;exact ⟨rfl,_,rfl,rfl⟩
   refine fF c11 <| Xy L 249 ?_;rcases Xp h with ⟨c12,h⟩ |⟨c12,h⟩
   ·refine tT c12 <| Xu <| tT c12 <| X2 (rg0 L 279 ⟨rfl,rfl⟩) (Xn.trans (Xn.kk [0,2,4] [0,22200]) (Xn.trans (Xn.rr [(0,0),(22200,21000)]) (Xn.kp (S':=⟨[(0,.P 0),(2,.P 21000),(4,.I 1)],[(0,.raw (Bh p0)),(21000,.raw [.I 0,.I 0,.str [],.I 0])]⟩)))) ?_;cases h;exact ⟨rfl,_,rfl,rfl⟩
   refine fF c12 <| Xy L 252 ?_;rcases Xp h with ⟨c13,h⟩ |⟨c13,h⟩
   ·refine tT c13 <| Xu <| tT c13 <| X2 (rg0 L 279 ⟨rfl,rfl⟩) (Xn.trans (Xn.kk [0,2,4] [0,22200]) (Xn.trans (Xn.rr [(0,0),(22200,21000)]) (Xn.kp (S':=⟨[(0,.P 0),(2,.P 21000),(4,.I 1)],[(0,.raw (Bh p0)),(21000,.raw [.I 0,.I 0,.str [],.I 0])]⟩)))) ?_;cases h;exact ⟨rfl,_,rfl,rfl⟩
   refine fF c13 <| Xy L 255 ?_;rcases Xp h with ⟨c14,h⟩ |⟨c14,h⟩
   ·refine tT c14 <| Xu <| tT c14 <| X2 (rg0 L 279 ⟨rfl,rfl⟩) (Xn.trans (Xn.kk [0,2,4] [0,22200]) (Xn.trans (Xn.rr [(0,0),(22200,21000)]) (Xn.kp (S':=⟨[(0,.P 0),(2,.P 21000),(4,.I 1)],[(0,.raw (Bh p0)),(21000,.raw [.I 0,.I 0,.str [],.I 0])]⟩)))) ?_;cases h;exact ⟨rfl,_,rfl,rfl⟩
   refine fF c14 <| Xy L 258 ?_;rcases Xp h with ⟨c15,h⟩ |⟨c15,h⟩
   ·refine tT c15 <| Xu <| tT c15 <| X2 (rg0 L 279 ⟨rfl,rfl⟩) (Xn.trans (Xn.kk [0,2,4] [0,22200]) (Xn.trans (Xn.rr [(0,0),(22200,21000)]) (Xn.kp (S':=⟨[(0,.P 0),(2,.P 21000),(4,.I 1)],[(0,.raw (Bh p0)),(21000,.raw [.I 0,.I 0,.str [],.I 0])]⟩)))) ?_;cases h;exact ⟨rfl,_,rfl,rfl⟩
   refine fF c15 <| Xy L 261 ?_;rcases Xp h with ⟨c16,h⟩ |⟨c16,h⟩
   ·refine tT c16 <| Xu <| tT c16 <| X2 (rg0 L 279 ⟨rfl,rfl⟩) (Xn.trans (Xn.kk [0,2,4] [0,22200]) (Xn.trans (Xn.rr [(0,0),(22200,21000)]) (Xn.kp (S':=⟨[(0,.P 0),(2,.P 21000),(4,.I 1)],[(0,.raw (Bh p0)),(21000,.raw [.I 0,.I 0,.str [],.I 0])]⟩)))) ?_;cases h;exact ⟨rfl,_,rfl,rfl⟩
   refine fF c16 <| Xy L 264 ?_;rcases Xp h with ⟨c17,h⟩ |⟨c17,h⟩
   ·refine tT c17 <| Xu <| tT c17 <| X2 (rg0 L 279 ⟨rfl,rfl⟩) (Xn.trans (Xn.kk [0,2,4] [0,22200]) (Xn.trans (Xn.rr [(0,0),(22200,21000)]) (Xn.kp (S':=⟨[(0,.P 0),(2,.P 21000),(4,.I 1)],[(0,.raw (Bh p0)),(21000,.raw [.I 0,.I 0,.str [],.I 0])]⟩)))) ?_;cases h;exact ⟨rfl,_,rfl,rfl⟩
   refine fF c17 <| Xy L 267 ?_;rcases Xp h with ⟨c18,h⟩ |⟨c18,h⟩
   ·refine tT c18 <| Xu <| tT c18 <| X2 (rg0 L 279 ⟨rfl,rfl⟩) (Xn.trans (Xn.kk [0,2,4] [0,22200]) (Xn.trans (Xn.rr [(0,0),(22200,21000)]) (Xn.kp (S':=⟨[(0,.P 0),(2,.P 21000),(4,.I 1)],[(0,.raw (Bh p0)),(21000,.raw [.I 0,.I 0,.str [],.I 0])]⟩)))) ?_;cases h;exact ⟨rfl,_,rfl,rfl⟩
   refine fF c18 <| Xy L 270 ?_;rcases Xp h with ⟨c19,h⟩ |⟨c19,h⟩
   ·refine tT c19 <| Xu <| tT c19 <| X2 (rg0 L 279 ⟨rfl,rfl⟩) (Xn.trans (Xn.kk [0,2,4] [0,22200]) (Xn.trans (Xn.rr [(0,0),(22200,21000)]) (Xn.kp (S':=⟨[(0,.P 0),(2,.P 21000),(4,.I 1)],[(0,.raw (Bh p0)),(21000,.raw [.I 0,.I 0,.str [],.I 0])]⟩)))) ?_;cases h;exact ⟨rfl,_,rfl,rfl⟩
   refine fF c19 <| Xy L 273 ?_;rcases Xp h with ⟨c20,h⟩ |⟨c20,h⟩
   ·refine tT c20 <| Xu <| tT c20 <| X2 (rg0 L 279 ⟨rfl,rfl⟩) (Xn.trans (Xn.kk [0,2,4] [0,22200]) (Xn.trans (Xn.rr [(0,0),(22200,21000)]) (Xn.kp (S':=⟨[(0,.P 0),(2,.P 21000),(4,.I 1)],[(0,.raw (Bh p0)),(21000,.raw [.I 0,.I 0,.str [],.I 0])]⟩)))) ?_;cases h;exact ⟨rfl,_,rfl,rfl⟩
   refine fF c20 <| rg0 L 276 ?_;rcases Xp h with ⟨c21,h⟩ |⟨c21,h⟩
   ·refine tT c21 <| X2 (rg0 L 279 ⟨rfl,rfl⟩) (Xn.trans (Xn.kk [0,2,4] [0,22200]) (Xn.trans (Xn.rr [(0,0),(22200,21000)]) (Xn.kp (S':=⟨[(0,.P 0),(2,.P 21000),(4,.I 1)],[(0,.raw (Bh p0)),(21000,.raw [.I 0,.I 0,.str [],.I 0])]⟩)))) ?_;cases h;exact ⟨rfl,_,rfl,rfl⟩
   refine fF c21 <| Xr (Xn.trans (Xn.kk [0,2,4] [0,22200]) (Xn.rr [(0,0),(22200,21000)])) ?_;refine sk (S':=⟨[(0,.P 0),(2,.P 21000),(4,.I 0)],[(0,.raw (Bh p0)),(21000,.raw [.I 0,.I 0,.str [],.I 0])]⟩) ?_;cases h;exact ⟨rfl,_,rfl,rfl⟩
 ·rintro e S ⟨rfl,b,rfl,rfl⟩;refine Xo <| Xy L 281 ?_;rcases Xp h with ⟨c22,h⟩ |⟨c22,h⟩
  ·refine tT c22 <| Xy L 284 <| Xr (Xn.trans (Xn.kk [2,3] [0,21000]) (Xn.rr [(0,0),(21000,100)])) ?_;refine Xq ?_;cases h;exact X7
  refine fF c22 <| Xu <| Xo ?_;obtain ⟨g1,h⟩:=Xv h;refine rd L mixed 288 [] [] [] [] 16 (Xt g1.1 (Xt g1.2.1 (Xx g1.2.2))) ?_;refine Xy L 305 <| Xy L 315 <| Xr (Xn.trans (Xn.kk [2,3] [0,21000]) (Xn.rr [(0,0),(21000,100)])) ?_;refine Xq ?_;cases h;exact X7
theorem Eo.okE {K:Nat} {p0:A0} {r:Ar×Int×A0} (h:Eo K p0=some r):Xz V P 103 [.P 0] [(0,.raw (Bh p0))] [0] (.tup [.agg [.I r.1.Kind,.I r.1.At,.str r.1.Text,.I r.1.Int],.I r.2.1]) [(0,.raw [.str r.2.2.src,.I r.2.2.at_])] :=
 eo (fn:=Tryz.f103) (n:=64) (m:=100) fun Γ=>Eo.body h
def Eu (K:Nat) (p0:A0):Option (Ar×Int×A0):=(Option.bind (Ct K p0 0) (fun a1=>(Option.bind (E6 K a1) (fun a2=>(if a2=true then (Option.bind (Er K p0) (fun (a,b,c)=>some (a,b,c))) else (Option.bind (Fi K a1) (fun a4=>(if a4=true then (Option.bind (Ej K p0) (fun (d,e,f)=>some (d,e,f))) else (if a1=34 then (Option.bind (De K p0) (fun (g,h,i)=>some (g,h,i))) else (Option.bind (Eo K p0) (fun (j,k,l)=>some (j,k,l))))))))))))
theorem Eu.body {Γ:Yg} {K:Nat} {p0:A0} {r:Ar×Int×A0} (h:Eu K p0=some r):Yc V P 32 100 Γ (Tryz.f72.body.getD .skip) (X1 P V Tryz.f72 (.tup [.agg [.I r.1.Kind,.I r.1.At,.str r.1.Text,.I r.1.Int],.I r.2.1]) [(0,.raw [.str r.2.2.src,.I r.2.2.at_])]) ⟨X0 0 [.P 0],[(0,.raw (Bh p0))]⟩:=by
 unfold Eu at h;refine Xy L 200 <| Xo <| Xo ?_;obtain ⟨a1,h1,h⟩:=bind_some h;refine rg L 203 [] [(1,.cv (.lit (.int .i32 a1)))] [] (Yw (Ct.ok h1)) ?_;refine Xw <| Xo ?_;obtain ⟨a2,h2,h⟩:=bind_some h;refine rg L 207 [] [(1,.B a2)] [] (Yw (E6.ok h2)) ?_;rcases Xp h with ⟨c1,h⟩ |⟨c1,h⟩
 ·refine tt c1 <| Xo ?_;obtain ⟨⟨a,b,c⟩,h3,h⟩:=bind_some h;dsimp only at h;refine rg L 211 [] [] [(1,(X5 (.tup [.agg (Eg a),.I b]) [(0,.raw (Bh c))]))] (Xx (Er.okE h3)) ?_;refine Xr (Xn.trans (Xn.kk [2,3] [0,200]) (Xn.rr [(0,0),(200,100)])) ?_;refine Xq ?_;cases h;exact X7
 refine fN c1 <| Xo ?_;obtain ⟨a4,h4,h⟩:=bind_some h;refine rg L 218 [] [(1,.B a4)] [] (Yw (Fi.ok h4)) ?_;rcases Xp h with ⟨c2,h⟩ |⟨c2,h⟩
 ·refine tt c2 <| Xo ?_;obtain ⟨⟨d,e,f⟩,h5,h⟩:=bind_some h;dsimp only at h;refine rg L 222 [] [] [(1,(X5 (.tup [.agg (Eg d),.I e]) [(0,.raw (Bh f))]))] (Xx (Ej.okE h5)) ?_;refine Xr (Xn.trans (Xn.kk [2,3] [0,200]) (Xn.rr [(0,0),(200,100)])) ?_;refine Xq ?_;cases h;exact X7
 refine fN c2 <| Xy L 229 ?_;rcases Xp h with ⟨c3,h⟩ |⟨c3,h⟩
 ·refine tT c3 <| Xo ?_;obtain ⟨⟨g,i,j⟩,h6,h⟩:=bind_some h;dsimp only at h;refine rg L 233 [] [] [(1,(X5 (.tup [.agg (Eg g),.I i]) [(0,.raw (Bh j))]))] (Xx (De.okE h6)) ?_;refine Xr (Xn.trans (Xn.kk [2,3] [0,200]) (Xn.rr [(0,0),(200,100)])) ?_;refine Xq ?_;cases h;exact X7
 refine fF c3 <| Xu <| Xo ?_;obtain ⟨⟨k,l,m⟩,h7,h⟩:=bind_some h;dsimp only at h;refine rg L 240 [] [] [(1,(X5 (.tup [.agg (Eg k),.I l]) [(0,.raw (Bh m))]))] (Xx (Eo.okE h7)) ?_;refine Xr (Xn.trans (Xn.kk [2,3] [0,200]) (Xn.rr [(0,0),(200,100)])) ?_;refine Xq ?_;cases h;exact X7
theorem Eu.okE {K:Nat} {p0:A0} {r:Ar×Int×A0} (h:Eu K p0=some r):Xz V P 72 [.P 0] [(0,.raw (Bh p0))] [0] (.tup [.agg [.I r.1.Kind,.I r.1.At,.str r.1.Text,.I r.1.Int],.I r.2.1]) [(0,.raw [.str r.2.2.src,.I r.2.2.at_])] :=
 eo (fn:=Tryz.f72) (n:=32) (m:=100) fun Γ=>Eu.body h
def Ev.l16 (K:Nat) (p0:List UInt8):Nat→(List UInt8)→Int→(List Ar)→Option (X3 ((List Ar)×Int×Int) Unit)
 | 0,_,_,_=>none
 | k+1,d,e,a=>(Option.bind (Do K (⟨d,e⟩:A0)) (fun (h,b)=>(if b.at_≥(p0.length:Int) then (if (a.length+([(⟨0,b.at_,[],0⟩:Ar)]:List Ar).length) * 40≤140737488355328 then some (X3.done ((a++([(⟨0,b.at_,[],0⟩:Ar)]:List Ar)),0,0)) else none) else (Option.bind (Eu K b) (fun (c,f,g)=>(if f≠0 then some (X3.done (([]:List Ar),b.at_,f)) else (if (a.length+([(⟨c.Kind,b.at_,c.Text,c.Int⟩:Ar)]:List Ar).length) * 40≤140737488355328 then Ev.l16 K p0 k g.src g.at_ (a++([(⟨c.Kind,b.at_,c.Text,c.Int⟩:Ar)]:List Ar)) else none)))))))
def Ev (K:Nat) (p0:List UInt8):Option ((List Ar)×Int×Int):=(if (p0.length:Int) > 16384 then some (([]:List Ar),0,6) else (obind (Ev.l16 K p0 K p0 0 ([]:List Ar):Option (X3 ((List Ar)×Int×Int) Unit)) (fun r=>r) (fun _=>none)))
theorem Ev.body {Γ:Yg} {K:Nat} {p0:List UInt8} {r:(List Ar)×Int×Int} (h:Ev K p0=some r):Yc V P 46 100 Γ (Tryz.f40.body.getD .skip) (X1 P V Tryz.f40 (.tup [.cv (.ro .Ao r.1),.I r.2.1,.I r.2.2]) []) ⟨X0 0 [.cv (.str p0)],[]⟩:=by
 unfold Ev at h;refine Xy L 200 <| Xo <| Xy L 204 ?_;rcases Xp h with ⟨c1,h⟩ |⟨c1,h⟩
 ·refine tT c1 <| Xy L 208 <| Xq ?_;cases h;exact X7
 refine fF c1 <| Xu <| Xy L 212 <| Xy L 217 <| Xw <| Xr (Xn.trans (Xn.kk [0,5,6] [214]) (Xn.trans (Xn.no 6 9500 Tag.Ao) (Xn.trans (Xn.kk [0,5,6] [214,9500]) (Xn.rr [(214,23300),(9500,23301)])))) ?_;refine kp (S':=⟨[(0,.cv (.str p0)),(5,.P 23300),(6,.cv (.own .Ao 23301))],[(23300,.raw [.str p0,.I 0]),(23301,.lst .Ao ([]:List Ar))]⟩) ?_;obtain ⟨o1,hp1,h⟩:=X9 h;refine X4 (Q':=fun e S=>False∨(e=.ret∧∃ a,X3.done a=o1∧X1 P V Tryz.f40 (.tup [.cv (.ro .Ao a.1),.I a.2.1,.I a.2.2]) [] .ret S)) (Yb (fun k S=>∃ c:List UInt8,∃ d:Int,∃ b:List Ar,S=⟨[(0,.cv (.str p0)),(5,.P 23300),(6,.cv (.own .Ao 23301))],[(23300,.raw [.str c,.I d]),(23301,.lst .Ao b)]⟩∧Ev.l16 K p0 k c d b=some o1) ?_ ⟨_,_,_,rfl,hp1⟩) ?_
 ·clear h hp1;intro k S hS;obtain ⟨c,d,b,rfl,h⟩:=hS;cases k with
  | zero=>cases h
  | succ k =>
  unfold Ev.l16 at h;refine Xw <| Xo ?_;obtain ⟨⟨j,g⟩,h1,h⟩:=bind_some h;dsimp only at h;refine rg L 219 [] [] [(1,(ef [0] [0] (.cv (.str j)) [(0,.raw (Bh g))] [(0,23300)]))] (Xx (Do.okE h1)) ?_;refine Xy L 222 <| Xo <| Xy L 228 ?_;rcases Xp h with ⟨c2,h⟩ |⟨c2,h⟩
  ·refine tT c2 <| Xo ?_;obtain ⟨g1,h⟩:=Xv h;refine rg L 233 [] [] [] (Yw g1) ?_;refine Xr (Xn.trans (Xn.kk [2,3,4] [23301]) (Xn.fz 23301)) ?_;refine Xq ?_;cases h;exact .inr ⟨rfl,_,rfl,X7⟩
  refine fF c2 <| Xu <| Xo ?_;obtain ⟨⟨f,l,i⟩,h2,h⟩:=bind_some h;dsimp only at h;refine rg L 242 [] [] [(1,(ef [0] [0] (.tup [.agg (Eg f),.I l]) [(0,.raw (Bh i))] [(0,23300)]))] (Xx (Eu.okE h2)) ?_;refine Xo <| Xy L 251 ?_;rcases Xp h with ⟨c3,h⟩ |⟨c3,h⟩
  ·refine tT c3 <| Xy L 254 <| Xq ?_;cases h;exact .inr ⟨rfl,_,rfl,X7⟩
  refine fF c3 <| Xu <| Xy L 260 ?_;obtain ⟨g2,h⟩:=Xv h;refine ar L 264 [] [] [] (cs:=[(b.length+([(⟨f.Kind,g.at_,f.Text,f.Int⟩:Ar)]:List Ar).length) * 40≤140737488355328,True]) (S':=⟨[(0,.cv (.str p0)),(5,.P 23300),(6,.cv (.own .Ao 23301))],[(23300,.raw (Bh i)),(23301,.lst .Ao (b++([(⟨f.Kind,g.at_,f.Text,f.Int⟩:Ar)]:List Ar)))]⟩) (And.intro g2 trivial) ?_;exact ⟨k,Nat.lt_succ_self k,_,_,_,rfl,h⟩
 ·rintro e S (hf |⟨rfl,a,rfl,hr⟩)
  ·exact hf.elim
  ·rcases h with ⟨_,e1,h⟩ |⟨_,e1,h⟩
   ·have e2:=X3.done.inj e1;subst e2;subst h;exact ⟨_,Xn.refl,hr⟩
   ·cases e1
theorem Ev.ok {K:Nat} {p0:List UInt8} {r:(List Ar)×Int×Int} (h:Ev K p0=some r):X6 V P 40 [.cv (.str p0)] (.tup [.cv (.ro .Ao r.1),.I r.2.1,.I r.2.2]):=Xz.pcall (eo (fn:=Tryz.f40) (n:=46) (m:=100) fun Γ=>Ev.body h) (by kernel_rfl)
def Bx (K:Nat) (p0:Ab):Option Ar:=(if (0:Int)≤(if (IntKind.i64.wrap ((p0.l.length:Int) - 1)) < p0.i then (IntKind.i64.wrap ((p0.l.length:Int) - 1)) else p0.i)∧((if (IntKind.i64.wrap ((p0.l.length:Int) - 1)) < p0.i then (IntKind.i64.wrap ((p0.l.length:Int) - 1)) else p0.i):Int) <(p0.l.length:Int) then some ((p0.l.getD (Int.toNat (if (IntKind.i64.wrap ((p0.l.length:Int) - 1)) < p0.i then (IntKind.i64.wrap ((p0.l.length:Int) - 1)) else p0.i)) Dp)) else none)
theorem Bx.body {Γ:Yg} {K:Nat} {p0:Ab} {r:Ar} (h:Bx K p0=some r):Yc V P 20 100 Γ (Tryz.f42.body.getD .skip) (X1 P V Tryz.f42 (.agg [.I r.Kind,.I r.At,.str r.Text,.I r.Int]) []) ⟨X0 0 [.cv (.pcs (Af p0) 0)],[]⟩:=by
 unfold Bx at h;refine Xy L 200 <| Xo ?_;obtain ⟨g1,h⟩:=Xv h;refine rd L mixed 202 [] [] [] [200] 18 (Zb g1.1 g1.2) ?_;refine Xr (Xn.trans (Xn.kk [2] [200]) (Xn.rr [(200,100)])) ?_;refine Xq ?_;cases h;exact X7
theorem Bx.ok {K:Nat} {p0:Ab} {r:Ar} (h:Bx K p0=some r):X6 V P 42 [.cv (.pcs (Af p0) 0)] (.agg [.I r.Kind,.I r.At,.str r.Text,.I r.Int]):=Xz.pcall (eo (fn:=Tryz.f42) (n:=20) (m:=100) fun Γ=>Bx.body h) (by kernel_rfl)
def Ea (K:Nat) (p0:Ab) (p1:List UInt8):Option Bool:=(Option.bind (Bx K p0) (fun a1=>(if a1.Kind=2 then some (decide (a1.Text=p1)) else (if a1.Kind=5 then some (decide (a1.Text=p1)) else some false))))
theorem Ea.body {Γ:Yg} {K:Nat} {p0:Ab} {p1:List UInt8} {r:Bool} (h:Ea K p0 p1=some r):Yc V P 22 100 Γ (Tryz.f73.body.getD .skip) (X1 P V Tryz.f73 (.B r) []) ⟨X0 0 [.cv (.pcs (Af p0) 0),.cv (.str p1)],[]⟩:=by
 unfold Ea at h;refine Xy L 200 <| Xo ?_;obtain ⟨a1,h1,h⟩:=bind_some h;refine rg L 202 [] [(1,.agg (Eg a1))] [] (Yw (Bx.ok h1)) ?_;refine Xo ?_;rcases Xp h with ⟨c1,h⟩ |⟨c1,h⟩
 ·refine rg L 207 [(3,true)] [] [] (Xx (decide_eq_true c1)) ?_;refine Xq ?_;cases h;exact X7
 rcases Xp h with ⟨c2,h⟩ |⟨c2,h⟩
 ·refine rg L 207 [(3,false),(8,true)] [] [] (Zb (decide_eq_false c1) (decide_eq_true c2)) ?_;refine Xq ?_;cases h;exact X7
 refine rg L 207 [(3,false),(8,false)] [] [] (Zb (decide_eq_false c1) (decide_eq_false c2)) ?_;refine Xq ?_;cases h;exact X7
theorem Ea.ok {K:Nat} {p0:Ab} {p1:List UInt8} {r:Bool} (h:Ea K p0 p1=some r):X6 V P 73 [.cv (.pcs (Af p0) 0),.cv (.str p1)] (.B r):=Xz.pcall (eo (fn:=Tryz.f73) (n:=22) (m:=100) fun Γ=>Ea.body h) (by kernel_rfl)
def Ap (K:Nat) (p0:List UInt8) (p1:Ab):Option (Bool×Ab):=(Option.bind (Ea K p1 p0) (fun a1=>(if a1=true then some (true,(⟨p1.l,(IntKind.i64.wrap (p1.i+1))⟩:Ab)) else some (false,p1))))
theorem Ap.body {Γ:Yg} {K:Nat} {p0:List UInt8} {p1:Ab} {r:Bool×Ab} (h:Ap K p0 p1=some r):Yc V P 16 100 Γ (Tryz.f44.body.getD .skip) (X1 P V Tryz.f44 (.B r.1) [(0,.raw [.ro .Ao r.2.l,.I r.2.i])]) ⟨X0 0 [.P 0,.cv (.str p0)],[(0,.raw (Af p1))]⟩:=by
 unfold Ap at h;refine Xy L 200 <| Xo <| Xo ?_;obtain ⟨a1,h1,h⟩:=bind_some h;refine rg L 202 [] [(2,.B a1)] [] (Yw (Ea.ok h1)) ?_;rcases Xp h with ⟨c1,h⟩ |⟨c1,h⟩
 ·refine ff (b:=(!a1)) (congrArg Bool.not (c1)) ?_;refine Xu <| Xy L 209 <| Xy L 218 <| Xq ?_;cases h;exact X7
 refine tt (b:=(!a1)) (congrArg Bool.not (eq_false_of_ne_true c1)) ?_;refine Xy L 207 <| Xq ?_;cases h;exact X7
theorem Ap.okE {K:Nat} {p0:List UInt8} {p1:Ab} {r:Bool×Ab} (h:Ap K p0 p1=some r):Xz V P 44 [.P 0,.cv (.str p0)] [(0,.raw (Af p1))] [0] (.B r.1) [(0,.raw [.ro .Ao r.2.l,.I r.2.i])] :=
 eo (fn:=Tryz.f44) (n:=16) (m:=100) fun Γ=>Ap.body h
def Bp (K:Nat) (p0:Ab):Option Int:=(Option.bind (Bx K p0) (fun a1=>some a1.At))
def Bp.rep (p0:Ab):Int→Yx T
 | v0=>.pan (Yl 49 v0)
def Bp.post (p0:Ab):Int→List (Nat×Yd T)
 | v0=>[]
theorem Bp.body {Γ:Yg} {K:Nat} {p0:Ab} {r:Int} (h:Bp K p0=some r):Yc V P 7 100 Γ (Tryz.f43.body.getD .skip) (Yk P V Tryz.f43 (Bp.rep p0 r) (Bp.post p0 r)) ⟨X0 0 [.P 0],[(0,.raw (Af p0))]⟩:=by
 unfold Bp at h;obtain ⟨a1,h1,h⟩:=bind_some h;refine qn L 200 [] [(1,.agg (Eg a1))] [] 5 (ef [] [] (.tup []) [] []) (Yl 49 a1.At) (Xt (Bx.ok h1) (Xt trivial (Xx (show (Yl 49 a1.At)=(Yl 49 a1.At) from rfl)))) ?_;cases h;exact rfl
theorem Bp.okE {K:Nat} {p0:Ab} {r:Int} (h:Bp K p0=some r):Yj V P 43 [.P 0] [(0,.raw (Af p0))] [0] (Bp.post p0 r) (Bp.rep p0 r) :=
 xo (fn:=Tryz.f43) (n:=7) (m:=100) fun Γ=>Bp.body h
def D8 (K:Nat) (p0:Ab):Option (Ar×Ab):=(Option.bind (Bx K p0) (fun a1=>some (a1,(⟨p0.l,(IntKind.i64.wrap (p0.i+1))⟩:Ab))))
theorem D8.body {Γ:Yg} {K:Nat} {p0:Ab} {r:Ar×Ab} (h:D8 K p0=some r):Yc V P 14 100 Γ (Tryz.f74.body.getD .skip) (X1 P V Tryz.f74 (.agg [.I r.1.Kind,.I r.1.At,.str r.1.Text,.I r.1.Int]) [(0,.raw [.ro .Ao r.2.l,.I r.2.i])]) ⟨X0 0 [.P 0],[(0,.raw (Af p0))]⟩:=by
 unfold D8 at h;refine Xy L 200 <| Xo ?_;obtain ⟨a1,h1,h⟩:=bind_some h;refine rg L 202 [] [(1,.agg (Eg a1))] [] (Yw (Bx.ok h1)) ?_;refine Xy L 207 <| Xy L 216 <| Xr (Xn.trans (Xn.kk [2] [0,200]) (Xn.rr [(0,0),(200,100)])) ?_;refine Xq ?_;cases h;exact X7
theorem D8.okE {K:Nat} {p0:Ab} {r:Ar×Ab} (h:D8 K p0=some r):Xz V P 74 [.P 0] [(0,.raw (Af p0))] [0] (.agg [.I r.1.Kind,.I r.1.At,.str r.1.Text,.I r.1.Int]) [(0,.raw [.ro .Ao r.2.l,.I r.2.i])] :=
 eo (fn:=Tryz.f74) (n:=14) (m:=100) fun Γ=>D8.body h
def Ay (K:Nat) (p0:Ab):Option (Int ⊕ ((List UInt8)×Ab)):=(Option.bind (Bx K p0) (fun a1=>(if a1.Kind≠1 then (Option.bind (Bp K p0) (fun a2=>some (Sum.inl a2))) else (Option.bind (D8 K p0) (fun (a,b)=>some (Sum.inr (a.Text,b)))))))
def Ay.rep (p0:Ab):Int ⊕ ((List UInt8)×Ab)→Yx T
 |(Sum.inl v0)=>.pan (Yl 49 v0)
 |(Sum.inr (v0,v1))=>.ret (.cv (.str v0))
def Ay.post (p0:Ab):Int ⊕ ((List UInt8)×Ab)→List (Nat×Yd T)
 |(Sum.inl v0)=>[]
 |(Sum.inr (v0,v1))=>[(0,.raw [.ro .Ao v1.l,.I v1.i])]
theorem Ay.body {Γ:Yg} {K:Nat} {p0:Ab} {r:Int ⊕ ((List UInt8)×Ab)} (h:Ay K p0=some r):Yc V P 12 100 Γ (Tryz.f45.body.getD .skip) (Yk P V Tryz.f45 (Ay.rep p0 r) (Ay.post p0 r)) ⟨X0 0 [.P 0],[(0,.raw (Af p0))]⟩:=by
 unfold Ay at h;refine Xy L 200 <| Xo <| Xo ?_;obtain ⟨a1,h1,h⟩:=bind_some h;refine rg L 202 [] [(1,.agg (Eg a1))] [] (Yw (Bx.ok h1)) ?_;rcases Xp h with ⟨c1,h⟩ |⟨c1,h⟩
 ·refine tT c1 ?_;obtain ⟨a2,h2,h⟩:=bind_some h;refine qn L 207 [] [] [] 1 (X5 (.tup []) []) (Yl 49 a2) (Xx (Bp.okE h2)) ?_;cases h;exact rfl
 refine fF c1 <| Xu <| Xo ?_;obtain ⟨⟨a,b⟩,h3,h⟩:=bind_some h;dsimp only at h;refine rg L 210 [] [] [(1,(X5 (.agg (Eg a)) [(0,.raw (Af b))]))] (Xx (D8.okE h3)) ?_;refine Xq ?_;cases h;exact Zm
theorem Ay.okE {K:Nat} {p0:Ab} {r:Int ⊕ ((List UInt8)×Ab)} (h:Ay K p0=some r):Yj V P 45 [.P 0] [(0,.raw (Af p0))] [0] (Ay.post p0 r) (Ay.rep p0 r) :=
 xo (fn:=Tryz.f45) (n:=12) (m:=100) fun Γ=>Ay.body h
def Au (K:Nat) (p0:List UInt8) (p1:Ab):Option (Ab ⊕ Int):=(Option.bind (Ap K p0 p1) (fun (b,a)=>(if b=true then some (Sum.inl a) else (Option.bind (Bp K a) (fun a2=>some (Sum.inr a2))))))
def Au.rep (p0:List UInt8) (p1:Ab):Ab ⊕ Int→Yx T
 |(Sum.inl v0)=>.ret (.tup [])
 |(Sum.inr v0)=>.pan (Yl 49 v0)
def Au.post (p0:List UInt8) (p1:Ab):Ab ⊕ Int→List (Nat×Yd T)
 |(Sum.inl v0)=>[(0,.raw [.ro .Ao v0.l,.I v0.i])]
 |(Sum.inr v0)=>[]
theorem Au.body {Γ:Yg} {K:Nat} {p0:List UInt8} {p1:Ab} {r:Ab ⊕ Int} (h:Au K p0 p1=some r):Yc V P 10 100 Γ (Tryz.f46.body.getD .skip) (Yk P V Tryz.f46 (Au.rep p0 p1 r) (Au.post p0 p1 r)) ⟨X0 0 [.P 0,.cv (.str p0)],[(0,.raw (Af p1))]⟩:=by
 unfold Au at h;refine Xo ?_;obtain ⟨⟨a,c⟩,h1,h⟩:=bind_some h;dsimp only at h;refine rg L 200 [] [] [(2,(X5 (.B a) [(0,.raw (Af c))]))] (Xx (Ap.okE h1)) ?_;rcases Xp h with ⟨c1,h⟩ |⟨c1,h⟩
 ·refine ff (b:=(!a)) (congrArg Bool.not (c1)) ?_;refine sk (S':=⟨[],[(0,.raw (Af c))]⟩) ?_;cases h;exact xn0
 refine tt (b:=(!a)) (congrArg Bool.not (eq_false_of_ne_true c1)) ?_;obtain ⟨a2,h2,h⟩:=bind_some h;refine qn L 205 [] [] [] 1 (X5 (.tup []) []) (Yl 49 a2) (Xx (Bp.okE h2)) ?_;cases h;exact rfl
theorem Au.okE {K:Nat} {p0:List UInt8} {p1:Ab} {r:Ab ⊕ Int} (h:Au K p0 p1=some r):Yj V P 46 [.P 0,.cv (.str p0)] [(0,.raw (Af p1))] [0] (Au.post p0 p1 r) (Au.rep p0 p1 r) :=
 xo (fn:=Tryz.f46) (n:=10) (m:=100) fun Γ=>Au.body h
def Cd.l7 (K:Nat) (p0:List (List UInt8)) (p1:List Int) (p2:Ab):Nat→Int→Option (X3 (Int×Bool×Ab) Unit)
 | 0,_=>none
 | k+1,a=>(if a <(p0.length:Int) then (if (0:Int)≤a∧(a:Int) <(p0.length:Int) then (Option.bind (Ea K p2 (p0.getD (Int.toNat a) ([]:List UInt8))) (fun a1=>(if a1=true then (if (a:Int) <(p1.length:Int) then some (X3.done ((p1.getD (Int.toNat a) (0:Int)),true,(⟨p2.l,(IntKind.i64.wrap (p2.i+1))⟩:Ab))) else none) else Cd.l7 K p0 p1 p2 k (IntKind.i64.wrap (a+1))))) else none) else some (X3.go ()))
def Cd (K:Nat) (p0:List (List UInt8)) (p1:List Int) (p2:Ab):Option (Int×Bool×Ab):=(obind (Cd.l7 K p0 p1 p2 K 0:Option (X3 (Int×Bool×Ab) Unit)) (fun r=>r) (fun _=>some (0,false,p2)))
theorem Cd.body {Γ:Yg} {K:Nat} {p0:List (List UInt8)} {p1:List Int} {p2:Ab} {r:Int×Bool×Ab} (h:Cd K p0 p1 p2=some r):Yc V P 32 100 Γ (Tryz.f78.body.getD .skip) (X1 P V Tryz.f78 (.tup [.I r.1,.B r.2.1]) [(0,.raw [.ro .Ao r.2.2.l,.I r.2.2.i])]) ⟨X0 0 [.P 0,.cv (.ro .Dd p0),.cv (.ro .Fz p1)],[(0,.raw (Af p2))]⟩:=by
 unfold Cd at h;refine Xy L 200 <| Xo <| Xy L 203 <| Xw <| kp (S':=⟨[(0,.P 0),(2,.cv (.ro .Fz p1)),(10,.cv (.ro .Dd p0)),(11,.I (p0.length:Int)),(12,.I 0)],[(0,.raw (Af p2))]⟩) ?_;obtain ⟨o1,hp1,h⟩:=X9 h;refine X4 (Q':=fun e S=>(e=.exit 0∧S=⟨[],[(0,.raw (Af p2))]⟩∧X3.go ()=o1)∨(e=.ret∧∃ a,X3.done a=o1∧X1 P V Tryz.f78 (.tup [.I a.1,.B a.2.1]) [(0,.raw [.ro .Ao a.2.2.l,.I a.2.2.i])] .ret S)) (Yb (fun k S=>∃ b:Int,S=⟨[(0,.P 0),(2,.cv (.ro .Fz p1)),(10,.cv (.ro .Dd p0)),(11,.I (p0.length:Int)),(12,.I b)],[(0,.raw (Af p2))]⟩∧Cd.l7 K p0 p1 p2 k b=some o1) ?_ ⟨_,rfl,hp1⟩) ?_
 ·clear h hp1;intro k S hS;obtain ⟨b,rfl,h⟩:=hS;cases k with
  | zero=>cases h
  | succ k =>
  unfold Cd.l7 at h;refine Xy L 207 <| Xo ?_;rcases Xp h with ⟨c1,h⟩ |⟨c1,h⟩
  ·refine tT c1 <| Xu <| Xo <| Xw <| Xo ?_;obtain ⟨g1,h⟩:=Xv h;refine rg L 209 [] [] [] (Zb g1.1 g1.2) ?_;refine Xo ?_;obtain ⟨a1,h1,h⟩:=bind_some h;refine rg L 215 [] [(2,.B a1)] [] (Yw (Ea.ok h1)) ?_;rcases Xp h with ⟨c2,h⟩ |⟨c2,h⟩
   ·refine tt c2 <| Xy L 219 <| Xo ?_;obtain ⟨g2,h⟩:=Xv h;refine rg L 228 [] [] [] (Zb g1.1 g2) ?_;refine Xq ?_;cases h;exact .inr ⟨rfl,_,rfl,X7⟩
   refine fN c2 <| Xu <| ar0 L 235 [] [] [] (S':=⟨[(0,.P 0),(2,.cv (.ro .Fz p1)),(10,.cv (.ro .Dd p0)),(11,.I (p0.length:Int)),(12,.I (IntKind.i64.wrap (b+1)))],[(0,.raw (Af p2))]⟩) ?_;exact ⟨k,Nat.lt_succ_self k,_,rfl,h⟩
  refine fF c1 <| ex (S':=⟨[],[(0,.raw (Af p2))]⟩) ?_;cases h;exact .inl ⟨rfl,rfl,rfl⟩
 ·rintro e S (⟨rfl,rfl,rfl⟩ |⟨rfl,a,rfl,hr⟩)
  ·rcases h with ⟨_,e1,h⟩ |⟨_,e1,h⟩
   ·cases e1
   ·have e2:=X3.go.inj e1;subst e2;refine ⟨_,Xn.refl,?_⟩;refine Xy L 238 <| Xq ?_;cases h;exact X7
  ·rcases h with ⟨_,e1,h⟩ |⟨_,e1,h⟩
   ·have e2:=X3.done.inj e1;subst e2;subst h;exact ⟨_,Xn.refl,hr⟩
   ·cases e1
theorem Cd.okE {K:Nat} {p0:List (List UInt8)} {p1:List Int} {p2:Ab} {r:Int×Bool×Ab} (h:Cd K p0 p1 p2=some r):Xz V P 78 [.P 0,.cv (.ro .Dd p0),.cv (.ro .Fz p1)] [(0,.raw (Af p2))] [0] (.tup [.I r.1,.B r.2.1]) [(0,.raw [.ro .Ao r.2.2.l,.I r.2.2.i])] :=
 eo (fn:=Tryz.f78) (n:=32) (m:=100) fun Γ=>Cd.body h
def D6 (K:Nat) (p0:Ab):Option (Aa×Bool×Ab):=(Option.bind (Bx K p0) (fun a1=>(if a1.Kind=3 then some ((⟨4,[],a1.Int,[],([]:List Aa)⟩:Aa),true,(⟨p0.l,(IntKind.i64.wrap (p0.i+1))⟩:Ab)) else (if a1.Kind=4 then some ((⟨5,[],0,a1.Text,([]:List Aa)⟩:Aa),true,(⟨p0.l,(IntKind.i64.wrap (p0.i+1))⟩:Ab)) else (Option.bind (Cd K ([([110,117,108,108]:List UInt8),([116,114,117,101]:List UInt8),([102,97,108,115,101]:List UInt8)]:List (List UInt8)) ([1,2,3]:List Int) p0) (fun (a,b,c)=>some ((⟨a,[],0,[],([]:List Aa)⟩:Aa),b,c)))))))
theorem D6.body {Γ:Yg} {K:Nat} {p0:Ab} {r:Aa×Bool×Ab} (h:D6 K p0=some r):Yc V P 47 100 Γ (Tryz.f76.body.getD .skip) (X1 P V Tryz.f76 (.tup [.agg [.I r.1.Op,.str r.1.Name,.I r.1.Int,.str r.1.Text,.ro .Ae r.1.Kids],.B r.2.1]) [(0,.raw [.ro .Ao r.2.2.l,.I r.2.2.i])]) ⟨X0 0 [.P 0],[(0,.raw (Af p0))]⟩:=by
 unfold D6 at h;refine Xy L 200 <| Xo <| Xo ?_;obtain ⟨a1,h1,h⟩:=bind_some h;refine rg L 203 [] [(1,.agg (Eg a1))] [] (Yw (Bx.ok h1)) ?_;refine Xw <| Xy L 208 ?_;rcases Xp h with ⟨c1,h⟩ |⟨c1,h⟩
 ·refine tT c1 <| Xy L 213 <| Xy L 222 <| Xr (Xn.trans (Xn.kk [2,3] [0,200]) (Xn.rr [(0,0),(200,100)])) ?_;refine Xq ?_;cases h;exact X7
 refine fF c1 <| Xy L 228 ?_;rcases Xp h with ⟨c2,h⟩ |⟨c2,h⟩
 ·refine tT c2 <| Xy L 233 <| Xy L 242 <| Xr (Xn.trans (Xn.kk [2,3] [0,200]) (Xn.rr [(0,0),(200,100)])) ?_;refine Xq ?_;cases h;exact X7
 refine fF c2 <| Xu <| Xo ?_;obtain ⟨⟨a,b,c⟩,h2,h⟩:=bind_some h;dsimp only at h;refine rg L 248 [] [] [(3,(X5 (.tup [.I a,.B b]) [(0,.raw (Af c))]))] (Xx (Cd.okE h2)) ?_;refine Xy L 258 <| Xr (Xn.trans (Xn.kk [2,3] [0,200]) (Xn.rr [(0,0),(200,100)])) ?_;refine Xq ?_;cases h;exact X7
theorem D6.okE {K:Nat} {p0:Ab} {r:Aa×Bool×Ab} (h:D6 K p0=some r):Xz V P 76 [.P 0] [(0,.raw (Af p0))] [0] (.tup [.agg [.I r.1.Op,.str r.1.Name,.I r.1.Int,.str r.1.Text,.ro .Ae r.1.Kids],.B r.2.1]) [(0,.raw [.ro .Ao r.2.2.l,.I r.2.2.i])] :=
 eo (fn:=Tryz.f76) (n:=47) (m:=100) fun Γ=>D6.body h
def C1 (K:Nat) (p0:Int) (p1:List Aa):Option Aa:=some (⟨p0,[],0,[],p1⟩:Aa)
theorem C1.body {Γ:Yg} {K:Nat} {p0:Int} {p1:List Aa} {r:Aa} (h:C1 K p0 p1=some r):Yc V P 8 100 Γ (Tryz.f75.body.getD .skip) (X1 P V Tryz.f75 (.agg [.I r.Op,.str r.Name,.I r.Int,.str r.Text,.ro .Ae r.Kids]) []) ⟨X0 0 [.I p0,.cv (.ro .Ae p1)],[]⟩:=by
 unfold C1 at h;refine Xy L 200 <| Xy L 202 <| Xr (Xn.trans (Xn.kk [4] [200]) (Xn.rr [(200,100)])) ?_;refine Xq ?_;cases h;exact X7
theorem C1.ok {K:Nat} {p0:Int} {p1:List Aa} {r:Aa} (h:C1 K p0 p1=some r):X6 V P 75 [.I p0,.cv (.ro .Ae p1)] (.agg [.I r.Op,.str r.Name,.I r.Int,.str r.Text,.ro .Ae r.Kids]):=Xz.pcall (eo (fn:=Tryz.f75) (n:=8) (m:=100) fun Γ=>C1.body h) (by kernel_rfl)
def Bm.rep (p0:List UInt8) (p1:Ab):((List Aa)×Ab) ⊕ Int→Yx T
 |(Sum.inl (v0,v1))=>.ret (.cv (.ro .Ae v0))
 |(Sum.inr v0)=>.pan (Yl 49 v0)
def Bm.post (p0:List UInt8) (p1:Ab):((List Aa)×Ab) ⊕ Int→List (Nat×Yd T)
 |(Sum.inl (v0,v1))=>[(0,.raw [.ro .Ao v1.l,.I v1.i])]
 |(Sum.inr v0)=>[]
def Bv.rep (p0:Int) (p1:List UInt8) (p2:Ab):(Aa×Ab) ⊕ Int→Yx T
 |(Sum.inl (v0,v1))=>.ret (.agg [.I v0.Op,.str v0.Name,.I v0.Int,.str v0.Text,.ro .Ae v0.Kids])
 |(Sum.inr v0)=>.pan (Yl 49 v0)
def Bv.post (p0:Int) (p1:List UInt8) (p2:Ab):(Aa×Ab) ⊕ Int→List (Nat×Yd T)
 |(Sum.inl (v0,v1))=>[(0,.raw [.ro .Ao v1.l,.I v1.i])]
 |(Sum.inr v0)=>[]
def Ch.rep (p0:Ab):Int ⊕ (Aa×Ab)→Yx T
 |(Sum.inl v0)=>.pan (Yl 49 v0)
 |(Sum.inr (v0,v1))=>.ret (.agg [.I v0.Op,.str v0.Name,.I v0.Int,.str v0.Text,.ro .Ae v0.Kids])
def Ch.post (p0:Ab):Int ⊕ (Aa×Ab)→List (Nat×Yd T)
 |(Sum.inl v0)=>[]
 |(Sum.inr (v0,v1))=>[(0,.raw [.ro .Ao v1.l,.I v1.i])]
def B7.rep (p0:List UInt8) (p1:Ab):((List Aa)×Ab) ⊕ Int→Yx T
 |(Sum.inl (v0,v1))=>.ret (.cv (.ro .Ae v0))
 |(Sum.inr v0)=>.pan (Yl 49 v0)
def B7.post (p0:List UInt8) (p1:Ab):((List Aa)×Ab) ⊕ Int→List (Nat×Yd T)
 |(Sum.inl (v0,v1))=>[(0,.raw [.ro .Ao v1.l,.I v1.i])]
 |(Sum.inr v0)=>[]
def Cb.rep (p0:Ab):(Aa×Ab) ⊕ Int→Yx T
 |(Sum.inl (v0,v1))=>.ret (.agg [.I v0.Op,.str v0.Name,.I v0.Int,.str v0.Text,.ro .Ae v0.Kids])
 |(Sum.inr v0)=>.pan (Yl 49 v0)
def Cb.post (p0:Ab):(Aa×Ab) ⊕ Int→List (Nat×Yd T)
 |(Sum.inl (v0,v1))=>[(0,.raw [.ro .Ao v1.l,.I v1.i])]
 |(Sum.inr v0)=>[]
def Bk.rep (p0:Ab):Int ⊕ (Aa×Ab)→Yx T
 |(Sum.inl v0)=>.pan (Yl 49 v0)
 |(Sum.inr (v0,v1))=>.ret (.agg [.I v0.Op,.str v0.Name,.I v0.Int,.str v0.Text,.ro .Ae v0.Kids])
def Bk.post (p0:Ab):Int ⊕ (Aa×Ab)→List (Nat×Yd T)
 |(Sum.inl v0)=>[]
 |(Sum.inr (v0,v1))=>[(0,.raw [.ro .Ao v1.l,.I v1.i])]
def Bi.rep (p0:Ab):Int ⊕ (Aa×Ab)→Yx T
 |(Sum.inl v0)=>.pan (Yl 49 v0)
 |(Sum.inr (v0,v1))=>.ret (.agg [.I v0.Op,.str v0.Name,.I v0.Int,.str v0.Text,.ro .Ae v0.Kids])
def Bi.post (p0:Ab):Int ⊕ (Aa×Ab)→List (Nat×Yd T)
 |(Sum.inl v0)=>[]
 |(Sum.inr (v0,v1))=>[(0,.raw [.ro .Ao v1.l,.I v1.i])]
def B8.rep (p0:List (List UInt8)) (p1:List Int) (p2:Ab):Int ⊕ (Aa×Ab)→Yx T
 |(Sum.inl v0)=>.pan (Yl 49 v0)
 |(Sum.inr (v0,v1))=>.ret (.agg [.I v0.Op,.str v0.Name,.I v0.Int,.str v0.Text,.ro .Ae v0.Kids])
def B8.post (p0:List (List UInt8)) (p1:List Int) (p2:Ab):Int ⊕ (Aa×Ab)→List (Nat×Yd T)
 |(Sum.inl v0)=>[]
 |(Sum.inr (v0,v1))=>[(0,.raw [.ro .Ao v1.l,.I v1.i])]
def B4.rep (p0:Ab):Int ⊕ (Aa×Ab)→Yx T
 |(Sum.inl v0)=>.pan (Yl 49 v0)
 |(Sum.inr (v0,v1))=>.ret (.agg [.I v0.Op,.str v0.Name,.I v0.Int,.str v0.Text,.ro .Ae v0.Kids])
def B4.post (p0:Ab):Int ⊕ (Aa×Ab)→List (Nat×Yd T)
 |(Sum.inl v0)=>[]
 |(Sum.inr (v0,v1))=>[(0,.raw [.ro .Ao v1.l,.I v1.i])]
def Cc.rep (p0:List (List UInt8)) (p1:List Int) (p2:Ab):Int ⊕ (Aa×Ab)→Yx T
 |(Sum.inl v0)=>.pan (Yl 49 v0)
 |(Sum.inr (v0,v1))=>.ret (.agg [.I v0.Op,.str v0.Name,.I v0.Int,.str v0.Text,.ro .Ae v0.Kids])
def Cc.post (p0:List (List UInt8)) (p1:List Int) (p2:Ab):Int ⊕ (Aa×Ab)→List (Nat×Yd T)
 |(Sum.inl v0)=>[]
 |(Sum.inr (v0,v1))=>[(0,.raw [.ro .Ao v1.l,.I v1.i])]
def Cg.rep (p0:Ab):Int ⊕ (Aa×Ab)→Yx T
 |(Sum.inl v0)=>.pan (Yl 49 v0)
 |(Sum.inr (v0,v1))=>.ret (.agg [.I v0.Op,.str v0.Name,.I v0.Int,.str v0.Text,.ro .Ae v0.Kids])
def Cg.post (p0:Ab):Int ⊕ (Aa×Ab)→List (Nat×Yd T)
 |(Sum.inl v0)=>[]
 |(Sum.inr (v0,v1))=>[(0,.raw [.ro .Ao v1.l,.I v1.i])]
def B3.rep (p0:Ab):Int ⊕ (Aa×Ab)→Yx T
 |(Sum.inl v0)=>.pan (Yl 49 v0)
 |(Sum.inr (v0,v1))=>.ret (.agg [.I v0.Op,.str v0.Name,.I v0.Int,.str v0.Text,.ro .Ae v0.Kids])
def B3.post (p0:Ab):Int ⊕ (Aa×Ab)→List (Nat×Yd T)
 |(Sum.inl v0)=>[]
 |(Sum.inr (v0,v1))=>[(0,.raw [.ro .Ao v1.l,.I v1.i])]
def B9.rep (p0:List (List UInt8)) (p1:List Int) (p2:Ab):Int ⊕ (Aa×Ab)→Yx T
 |(Sum.inl v0)=>.pan (Yl 49 v0)
 |(Sum.inr (v0,v1))=>.ret (.agg [.I v0.Op,.str v0.Name,.I v0.Int,.str v0.Text,.ro .Ae v0.Kids])
def B9.post (p0:List (List UInt8)) (p1:List Int) (p2:Ab):Int ⊕ (Aa×Ab)→List (Nat×Yd T)
 |(Sum.inl v0)=>[]
 |(Sum.inr (v0,v1))=>[(0,.raw [.ro .Ao v1.l,.I v1.i])]
def Cr.rep (p0:Ab):Int ⊕ (Aa×Ab)→Yx T
 |(Sum.inl v0)=>.pan (Yl 49 v0)
 |(Sum.inr (v0,v1))=>.ret (.agg [.I v0.Op,.str v0.Name,.I v0.Int,.str v0.Text,.ro .Ae v0.Kids])
def Cr.post (p0:Ab):Int ⊕ (Aa×Ab)→List (Nat×Yd T)
 |(Sum.inl v0)=>[]
 |(Sum.inr (v0,v1))=>[(0,.raw [.ro .Ao v1.l,.I v1.i])]
def Ca.rep (p0:List (List UInt8)) (p1:List Int) (p2:Ab):Int ⊕ (Aa×Ab)→Yx T
 |(Sum.inl v0)=>.pan (Yl 49 v0)
 |(Sum.inr (v0,v1))=>.ret (.agg [.I v0.Op,.str v0.Name,.I v0.Int,.str v0.Text,.ro .Ae v0.Kids])
def Ca.post (p0:List (List UInt8)) (p1:List Int) (p2:Ab):Int ⊕ (Aa×Ab)→List (Nat×Yd T)
 |(Sum.inl v0)=>[]
 |(Sum.inr (v0,v1))=>[(0,.raw [.ro .Ao v1.l,.I v1.i])]
def Av.rep (p0:Ab):Int ⊕ (Aa×Ab)→Yx T
 |(Sum.inl v0)=>.pan (Yl 49 v0)
 |(Sum.inr (v0,v1))=>.ret (.agg [.I v0.Op,.str v0.Name,.I v0.Int,.str v0.Text,.ro .Ae v0.Kids])
def Av.post (p0:Ab):Int ⊕ (Aa×Ab)→List (Nat×Yd T)
 |(Sum.inl v0)=>[]
 |(Sum.inr (v0,v1))=>[(0,.raw [.ro .Ao v1.l,.I v1.i])]
structure Ai where
 Bm:(List UInt8)→Ab→Option (((List Aa)×Ab) ⊕ Int)
 Bv:Int→(List UInt8)→Ab→Option ((Aa×Ab) ⊕ Int)
 Ch:Ab→Option (Int ⊕ (Aa×Ab))
 B7:(List UInt8)→Ab→Option (((List Aa)×Ab) ⊕ Int)
 Cb:Ab→Option ((Aa×Ab) ⊕ Int)
 Bk:Ab→Option (Int ⊕ (Aa×Ab))
 Bi:Ab→Option (Int ⊕ (Aa×Ab))
 B8:(List (List UInt8))→(List Int)→Ab→Option (Int ⊕ (Aa×Ab))
 B4:Ab→Option (Int ⊕ (Aa×Ab))
 Cc:(List (List UInt8))→(List Int)→Ab→Option (Int ⊕ (Aa×Ab))
 Cg:Ab→Option (Int ⊕ (Aa×Ab))
 B3:Ab→Option (Int ⊕ (Aa×Ab))
 B9:(List (List UInt8))→(List Int)→Ab→Option (Int ⊕ (Aa×Ab))
 Cr:Ab→Option (Int ⊕ (Aa×Ab))
 Ca:(List (List UInt8))→(List Int)→Ab→Option (Int ⊕ (Aa×Ab))
 Av:Ab→Option (Int ⊕ (Aa×Ab))
structure Ai.Ok (R:Ai):Prop where
 Bm:∀ {p0:List UInt8} {p1:Ab} {r:((List Aa)×Ab) ⊕ Int},R.Bm p0 p1=some r→Yj V P 48 [.P 0,.cv (.str p0),.cv (.fn (.func 32) [.P 0] [])] [(0,.raw (Af p1))] [0] (Bm.post p0 p1 r) (Bm.rep p0 p1 r)
 Bv:∀ {p0:Int} {p1:List UInt8} {p2:Ab} {r:(Aa×Ab) ⊕ Int},R.Bv p0 p1 p2=some r→Yj V P 106 [.P 0,.I p0,.cv (.str p1)] [(0,.raw (Af p2))] [0] (Bv.post p0 p1 p2 r) (Bv.rep p0 p1 p2 r)
 Ch:∀ {p0:Ab} {r:Int ⊕ (Aa×Ab)},R.Ch p0=some r→Yj V P 166 [.P 0] [(0,.raw (Af p0))] [0] (Ch.post p0 r) (Ch.rep p0 r)
 B7:∀ {p0:List UInt8} {p1:Ab} {r:((List Aa)×Ab) ⊕ Int},R.B7 p0 p1=some r→Yj V P 48 [.P 0,.cv (.str p0),.cv (.fn (.func 166) [.P 0] [])] [(0,.raw (Af p1))] [0] (B7.post p0 p1 r) (B7.rep p0 p1 r)
 Cb:∀ {p0:Ab} {r:(Aa×Ab) ⊕ Int},R.Cb p0=some r→Yj V P 163 [.P 0] [(0,.raw (Af p0))] [0] (Cb.post p0 r) (Cb.rep p0 r)
 Bk:∀ {p0:Ab} {r:Int ⊕ (Aa×Ab)},R.Bk p0=some r→Yj V P 156 [.P 0] [(0,.raw (Af p0))] [0] (Bk.post p0 r) (Bk.rep p0 r)
 Bi:∀ {p0:Ab} {r:Int ⊕ (Aa×Ab)},R.Bi p0=some r→Yj V P 146 [.P 0] [(0,.raw (Af p0))] [0] (Bi.post p0 r) (Bi.rep p0 r)
 B8:∀ {p0:List (List UInt8)} {p1:List Int} {p2:Ab} {r:Int ⊕ (Aa×Ab)},R.B8 p0 p1 p2=some r→Yj V P 62 [.P 0,.cv (.fn (.func 146) [.P 0] []),.cv (.ro .Dd p0),.cv (.ro .Fz p1)] [(0,.raw (Af p2))] [0] (B8.post p0 p1 p2 r) (B8.rep p0 p1 p2 r)
 B4:∀ {p0:Ab} {r:Int ⊕ (Aa×Ab)},R.B4 p0=some r→Yj V P 137 [.P 0] [(0,.raw (Af p0))] [0] (B4.post p0 r) (B4.rep p0 r)
 Cc:∀ {p0:List (List UInt8)} {p1:List Int} {p2:Ab} {r:Int ⊕ (Aa×Ab)},R.Cc p0 p1 p2=some r→Yj V P 62 [.P 0,.cv (.fn (.func 137) [.P 0] []),.cv (.ro .Dd p0),.cv (.ro .Fz p1)] [(0,.raw (Af p2))] [0] (Cc.post p0 p1 p2 r) (Cc.rep p0 p1 p2 r)
 Cg:∀ {p0:Ab} {r:Int ⊕ (Aa×Ab)},R.Cg p0=some r→Yj V P 122 [.P 0] [(0,.raw (Af p0))] [0] (Cg.post p0 r) (Cg.rep p0 r)
 B3:∀ {p0:Ab} {r:Int ⊕ (Aa×Ab)},R.B3 p0=some r→Yj V P 93 [.P 0] [(0,.raw (Af p0))] [0] (B3.post p0 r) (B3.rep p0 r)
 B9:∀ {p0:List (List UInt8)} {p1:List Int} {p2:Ab} {r:Int ⊕ (Aa×Ab)},R.B9 p0 p1 p2=some r→Yj V P 62 [.P 0,.cv (.fn (.func 93) [.P 0] []),.cv (.ro .Dd p0),.cv (.ro .Fz p1)] [(0,.raw (Af p2))] [0] (B9.post p0 p1 p2 r) (B9.rep p0 p1 p2 r)
 Cr:∀ {p0:Ab} {r:Int ⊕ (Aa×Ab)},R.Cr p0=some r→Yj V P 63 [.P 0] [(0,.raw (Af p0))] [0] (Cr.post p0 r) (Cr.rep p0 r)
 Ca:∀ {p0:List (List UInt8)} {p1:List Int} {p2:Ab} {r:Int ⊕ (Aa×Ab)},R.Ca p0 p1 p2=some r→Yj V P 62 [.P 0,.cv (.fn (.func 63) [.P 0] []),.cv (.ro .Dd p0),.cv (.ro .Fz p1)] [(0,.raw (Af p2))] [0] (Ca.post p0 p1 p2 r) (Ca.rep p0 p1 p2 r)
 Av:∀ {p0:Ab} {r:Int ⊕ (Aa×Ab)},R.Av p0=some r→Yj V P 32 [.P 0] [(0,.raw (Af p0))] [0] (Av.post p0 r) (Av.rep p0 r)
def Bm.l15 (K:Nat) (R:Ai):Nat→(List Ar)→Int→(List Aa)→Option (X3 (((List Aa)×Ab) ⊕ Int) ((List Ar)×Int×(List Aa)))
 | 0,_,_,_=>none
 | k+1,c,d,b=>(Option.bind (Ap K ([44]:List UInt8) (⟨c,d⟩:Ab)) (fun (g,e)=>(if g=true then (Option.bind (R.Av e) (fun a4=>match a4 with |(Sum.inl a4)=>some (X3.done (Sum.inr a4)) |(Sum.inr (a,f))=>(if (b.length+([(⟨a.Op,a.Name,a.Int,a.Text,a.Kids⟩:Aa)]:List Aa).length) * 72≤140737488355328 then Bm.l15 K R k f.l f.i (b++([(⟨a.Op,a.Name,a.Int,a.Text,a.Kids⟩:Aa)]:List Aa)) else none))) else some (X3.go (e.l,e.i,b)))))
def Bm.F (K:Nat) (R:Ai) (p0:List UInt8) (p1:Ab):Option (((List Aa)×Ab) ⊕ Int):=(Option.bind (Ap K p0 p1) (fun (g,e)=>(if g=true then some (Sum.inl (([]:List Aa),e)) else (Option.bind (R.Av e) (fun a2=>match a2 with |(Sum.inl a2)=>some (Sum.inr a2) |(Sum.inr (a,f))=>(obind (Bm.l15 K R K f.l f.i ([(⟨a.Op,a.Name,a.Int,a.Text,a.Kids⟩:Aa)]:List Aa):Option (X3 (((List Aa)×Ab) ⊕ Int) ((List Ar)×Int×(List Aa)))) (fun r=>r) (fun (b,c,d)=>(Option.bind (Au K p0 (⟨b,c⟩:Ab)) (fun a5=>match a5 with |(Sum.inl a5)=>some (Sum.inl (d,a5)) |(Sum.inr a5)=>some (Sum.inr a5))))))))))
theorem Bm.body {Γ:Yg} {K:Nat} {R:Ai} (hR:R.Ok) {p0:List UInt8} {p1:Ab} {r:((List Aa)×Ab) ⊕ Int} (h:Bm.F K R p0 p1=some r):Yc V P 25 100 Γ (Tryz.f48.body.getD .skip) (Yk P V Tryz.f48 (Bm.rep p0 p1 r) (Bm.post p0 p1 r)) ⟨X0 0 [.P 0,.cv (.str p0),.cv (.fn (.func 32) [.P 0] [])],[(0,.raw (Af p1))]⟩:=by
 unfold Bm.F at h;refine Xy L 200 <| Xo <| Xo ?_;obtain ⟨⟨p,q⟩,h1,h⟩:=bind_some h;dsimp only at h;refine rg L 202 [] [] [(2,(X5 (.B p) [(0,.raw (Af q))]))] (Xx (Ap.okE h1)) ?_;rcases Xp h with ⟨c1,h⟩ |⟨c1,h⟩
 ·refine tt c1 <| Xy L 206 <| Xq ?_;cases h;exact Zm
 refine fN c1 <| Xu <| Xo ?_;obtain ⟨a2,h2,h⟩:=bind_some h;rcases a2 with a2 | a2
 ·dsimp only at h;refine qn L 100208 [] [] [] 1 (X5 (.tup []) []) (Yl 49 a2) (Xx (hR.Av h2)) ?_;cases h;exact rfl
 ·obtain ⟨j,o⟩:=a2;dsimp only at h;refine rg L 100208 [] [] [(1,(X5 (.agg (Aj j)) [(0,.raw (Af o))]))] (Xx (hR.Av h2)) ?_;refine Xo <| Xw <| Xr (Xn.trans (Xn.kk [0,1,2,7] [0,100210]) (Xn.rr [(0,0),(100210,23100)])) ?_;refine kp (S':=⟨[(0,.P 0),(1,.cv (.str p0)),(2,.cv (.fn (.func 32) [.P 0] [])),(7,.cv (.own .Ae 23100))],[(0,.raw (Af o)),(23100,.lst .Ae ([(⟨j.Op,j.Name,j.Int,j.Text,j.Kids⟩:Aa)]:List Aa))]⟩) ?_;obtain ⟨o1,hp1,h⟩:=X9 h;refine X4 (Q':=fun e S=>(e=.exit 0∧∃ g:List Ar,∃ i:Int,∃ l:List Aa,S=⟨[(0,.P 0),(1,.cv (.str p0)),(7,.cv (.own .Ae 23000))],[(0,.raw [.ro .Ao g,.I i]),(23000,.lst .Ae l)]⟩∧X3.go (g,i,l)=o1)∨((e=.ret∨∃ ch,e=.panic ch)∧∃ a,X3.done a=o1∧Yk P V Tryz.f48 (Bm.rep p0 p1 a) (Bm.post p0 p1 a) e S)) (Yb (fun k S=>∃ d:List Ar,∃ f:Int,∃ c:List Aa,S=⟨[(0,.P 0),(1,.cv (.str p0)),(2,.cv (.fn (.func 32) [.P 0] [])),(7,.cv (.own .Ae 23100))],[(0,.raw [.ro .Ao d,.I f]),(23100,.lst .Ae c)]⟩∧Bm.l15 K R k d f c=some o1) ?_ ⟨_,_,_,rfl,hp1⟩) ?_
  ·clear h hp1;intro k S hS;obtain ⟨d,f,c,rfl,h⟩:=hS;cases k with
   | zero=>cases h
   | succ k =>
   unfold Bm.l15 at h;refine Xo <| Xo ?_;obtain ⟨⟨s,m⟩,h3,h⟩:=bind_some h;dsimp only at h;refine rg L 213 [] [] [(1,(X5 (.B s) [(0,.raw (Af m))]))] (Xx (Ap.okE h3)) ?_;rcases Xp h with ⟨c2,h⟩ |⟨c2,h⟩
   ·refine tt c2 <| Xu <| Xw ?_;obtain ⟨a4,h4,h⟩:=bind_some h;rcases a4 with a4 | a4
    ·dsimp only at h;refine qn L 216 [] [] [] 2 (X5 (.tup []) []) (Yl 49 a4) (Xx (hR.Av h4)) ?_;cases h;exact .inr ⟨.inr ⟨_,rfl⟩,_,rfl,rfl⟩
    ·obtain ⟨b,n⟩:=a4;dsimp only at h;obtain ⟨g1,h⟩:=Xv h;refine ar L 216 [] [] [(2,(X5 (.agg (Aj b)) [(0,.raw (Af n))]))] (cs:=[Xz V P 32 [.P 0] [(0,.raw (Af m))] [0] (.agg (Aj b)) [(0,.raw (Af n))],(c.length+([(⟨b.Op,b.Name,b.Int,b.Text,b.Kids⟩:Aa)]:List Aa).length) * 72≤140737488355328,True]) (S':=⟨[(0,.P 0),(1,.cv (.str p0)),(2,.cv (.fn (.func 32) [.P 0] [])),(7,.cv (.own .Ae 23100))],[(0,.raw (Af n)),(23100,.lst .Ae (c++([(⟨b.Op,b.Name,b.Int,b.Text,b.Kids⟩:Aa)]:List Aa)))]⟩) (And.intro (hR.Av h4) (And.intro g1 trivial)) ?_;exact ⟨k,Nat.lt_succ_self k,_,_,_,rfl,h⟩
   refine fN c2 <| Xr (Xn.trans (Xn.kk [0,1,7] [0,23100]) (Xn.rr [(0,0),(23100,23000)])) ?_;refine ex (S':=⟨[(0,.P 0),(1,.cv (.str p0)),(7,.cv (.own .Ae 23000))],[(0,.raw (Af m)),(23000,.lst .Ae c)]⟩) ?_;cases h;exact .inl ⟨rfl,_,_,_,rfl,rfl⟩
  ·rintro e S (⟨rfl,g,i,l,rfl,rfl⟩ |⟨he,a,rfl,hr⟩)
   ·rcases h with ⟨_,e1,h⟩ |⟨_,e1,h⟩
    ·cases e1
    ·have e2:=X3.go.inj e1;subst e2;dsimp only at h;refine ⟨_,Xn.refl,?_⟩;refine Xo ?_;obtain ⟨a5,h5,h⟩:=bind_some h;rcases a5 with a5 | a5
     ·dsimp only at h;refine rg L 223 [] [] [(2,(X5 (.tup []) [(0,.raw (Af a5))]))] (Xx (Au.okE h5)) ?_;refine Xy L 227 <| Xr (Xn.trans (Xn.kk [6] [0,23000]) (Xn.fz 23000)) ?_;refine Xq ?_;cases h;exact Zm
     ·obtain ⟨a5,rfl⟩:∃ z,z=a5:=⟨_,rfl⟩
      dsimp only at h;refine qn L 223 [] [] [] 2 (X5 (.tup []) []) (Yl 49 a5) (Xx (Au.okE h5)) ?_;cases h;exact rfl
   ·rcases h with ⟨_,e1,h⟩ |⟨_,e1,h⟩
    ·have e2:=X3.done.inj e1;subst e2;subst h;rcases he with rfl |⟨ch,rfl⟩
     ·exact ⟨_,Xn.refl,hr⟩
     ·exact ⟨_,Xn.refl,hr⟩
    ·cases e1
def Bv.F (K:Nat) (R:Ai) (p0:Int) (p1:List UInt8) (p2:Ab):Option ((Aa×Ab) ⊕ Int):=(Option.bind (Au K ([40]:List UInt8) p2) (fun a1=>match a1 with |(Sum.inl a1)=>(Option.bind (R.Bm ([41]:List UInt8) a1) (fun a2=>match a2 with |(Sum.inl (a,b))=>some (Sum.inl ((⟨p0,p1,0,[],a⟩:Aa),b)) |(Sum.inr a2)=>some (Sum.inr a2))) |(Sum.inr a1)=>some (Sum.inr a1)))
theorem Bv.body {Γ:Yg} {K:Nat} {R:Ai} (hR:R.Ok) {p0:Int} {p1:List UInt8} {p2:Ab} {r:(Aa×Ab) ⊕ Int} (h:Bv.F K R p0 p1 p2=some r):Yc V P 16 100 Γ (Tryz.f106.body.getD .skip) (Yk P V Tryz.f106 (Bv.rep p0 p1 p2 r) (Bv.post p0 p1 p2 r)) ⟨X0 0 [.P 0,.I p0,.cv (.str p1)],[(0,.raw (Af p2))]⟩:=by
 unfold Bv.F at h;refine Xy L 200 <| Xo ?_;obtain ⟨a1,h1,h⟩:=bind_some h;rcases a1 with a1 | a1
 ·dsimp only at h;refine rg L 202 [] [] [(1,(X5 (.tup []) [(0,.raw (Af a1))]))] (Xx (Au.okE h1)) ?_;refine Xo ?_;obtain ⟨a2,h2,h⟩:=bind_some h;rcases a2 with ⟨a,b⟩ | a2
  ·dsimp only at h;refine rg L 205 [] [] [(5,(X5 (.cv (.ro .Ae a)) [(0,.raw (Af b))]))] (Xx (hR.Bm h2)) ?_;refine Xr (Xn.trans (Xn.kk [6] [0,200]) (Xn.rr [(0,0),(200,100)])) ?_;refine Xq ?_;cases h;exact Zm
  ·obtain ⟨a2,rfl⟩:∃ z,z=a2:=⟨_,rfl⟩
   dsimp only at h;refine qn L 205 [] [] [] 5 (X5 (.tup []) []) (Yl 49 a2) (Xx (hR.Bm h2)) ?_;cases h;exact rfl
 ·obtain ⟨a1,rfl⟩:∃ z,z=a1:=⟨_,rfl⟩
  dsimp only at h;refine qn L 202 [] [] [] 1 (X5 (.tup []) []) (Yl 49 a1) (Xx (Au.okE h1)) ?_;cases h;exact rfl
def Ch.F (K:Nat) (R:Ai) (p0:Ab):Option (Int ⊕ (Aa×Ab)):=(Option.bind (Bx K p0) (fun a1=>(if a1.Kind≠4 then (Option.bind (Bp K p0) (fun a2=>some (Sum.inl a2))) else (Option.bind (D8 K p0) (fun (b,c)=>(Option.bind (Au K ([58]:List UInt8) c) (fun a4=>match a4 with |(Sum.inl a4)=>(Option.bind (R.Av a4) (fun a5=>match a5 with |(Sum.inl a5)=>some (Sum.inl a5) |(Sum.inr (a,d))=>some (Sum.inr ((⟨9,[],0,b.Text,([(⟨a.Op,a.Name,a.Int,a.Text,a.Kids⟩:Aa)]:List Aa)⟩:Aa),d)))) |(Sum.inr a4)=>some (Sum.inl a4))))))))
theorem Ch.body {Γ:Yg} {K:Nat} {R:Ai} (hR:R.Ok) {p0:Ab} {r:Int ⊕ (Aa×Ab)} (h:Ch.F K R p0=some r):Yc V P 21 100 Γ (Tryz.f166.body.getD .skip) (Yk P V Tryz.f166 (Ch.rep p0 r) (Ch.post p0 r)) ⟨X0 0 [.P 0],[(0,.raw (Af p0))]⟩:=by
 unfold Ch.F at h;refine Xy L 200 <| Xo <| Xo ?_;obtain ⟨a1,h1,h⟩:=bind_some h;refine rg L 202 [] [(1,.agg (Eg a1))] [] (Yw (Bx.ok h1)) ?_;rcases Xp h with ⟨c1,h⟩ |⟨c1,h⟩
 ·refine tT c1 ?_;obtain ⟨a2,h2,h⟩:=bind_some h;refine qn L 207 [] [] [] 1 (X5 (.tup []) []) (Yl 49 a2) (Xx (Bp.okE h2)) ?_;cases h;exact rfl
 refine fF c1 <| Xu <| Xo ?_;obtain ⟨⟨a,b⟩,h3,h⟩:=bind_some h;dsimp only at h;refine rg L 210 [] [] [(1,(X5 (.agg (Eg a)) [(0,.raw (Af b))]))] (Xx (D8.okE h3)) ?_;refine Xo ?_;obtain ⟨a4,h4,h⟩:=bind_some h;rcases a4 with a4 | a4
 ·dsimp only at h;refine rg L 217 [] [] [(1,(X5 (.tup []) [(0,.raw (Af a4))]))] (Xx (Au.okE h4)) ?_;refine Xo ?_;obtain ⟨a5,h5,h⟩:=bind_some h;rcases a5 with a5 | a5
  ·dsimp only at h;refine qn L 220 [] [] [] 1 (X5 (.tup []) []) (Yl 49 a5) (Xx (hR.Av h5)) ?_;cases h;exact rfl
  ·obtain ⟨c,d⟩:=a5;dsimp only at h;refine rg L 220 [] [] [(1,(X5 (.agg (Aj c)) [(0,.raw (Af d))]))] (Xx (hR.Av h5)) ?_;refine Xy L 226 <| Xr (Xn.trans (Xn.kk [2] [0,200]) (Xn.rr [(0,0),(200,100)])) ?_;refine Xq ?_;cases h;exact Zm
 ·obtain ⟨a4,rfl⟩:∃ z,z=a4:=⟨_,rfl⟩
  dsimp only at h;refine qn L 217 [] [] [] 1 (X5 (.tup []) []) (Yl 49 a4) (Xx (Au.okE h4)) ?_;cases h;exact rfl
def B7.l15 (K:Nat) (R:Ai):Nat→(List Ar)→Int→(List Aa)→Option (X3 (((List Aa)×Ab) ⊕ Int) ((List Ar)×Int×(List Aa)))
 | 0,_,_,_=>none
 | k+1,c,d,b=>(Option.bind (Ap K ([44]:List UInt8) (⟨c,d⟩:Ab)) (fun (g,e)=>(if g=true then (Option.bind (R.Ch e) (fun a4=>match a4 with |(Sum.inl a4)=>some (X3.done (Sum.inr a4)) |(Sum.inr (a,f))=>(if (b.length+([(⟨a.Op,a.Name,a.Int,a.Text,a.Kids⟩:Aa)]:List Aa).length) * 72≤140737488355328 then B7.l15 K R k f.l f.i (b++([(⟨a.Op,a.Name,a.Int,a.Text,a.Kids⟩:Aa)]:List Aa)) else none))) else some (X3.go (e.l,e.i,b)))))
def B7.F (K:Nat) (R:Ai) (p0:List UInt8) (p1:Ab):Option (((List Aa)×Ab) ⊕ Int):=(Option.bind (Ap K p0 p1) (fun (g,e)=>(if g=true then some (Sum.inl (([]:List Aa),e)) else (Option.bind (R.Ch e) (fun a2=>match a2 with |(Sum.inl a2)=>some (Sum.inr a2) |(Sum.inr (a,f))=>(obind (B7.l15 K R K f.l f.i ([(⟨a.Op,a.Name,a.Int,a.Text,a.Kids⟩:Aa)]:List Aa):Option (X3 (((List Aa)×Ab) ⊕ Int) ((List Ar)×Int×(List Aa)))) (fun r=>r) (fun (b,c,d)=>(Option.bind (Au K p0 (⟨b,c⟩:Ab)) (fun a5=>match a5 with |(Sum.inl a5)=>some (Sum.inl (d,a5)) |(Sum.inr a5)=>some (Sum.inr a5))))))))))
theorem B7.body {Γ:Yg} {K:Nat} {R:Ai} (hR:R.Ok) {p0:List UInt8} {p1:Ab} {r:((List Aa)×Ab) ⊕ Int} (h:B7.F K R p0 p1=some r):Yc V P 25 100 Γ (Tryz.f48.body.getD .skip) (Yk P V Tryz.f48 (B7.rep p0 p1 r) (B7.post p0 p1 r)) ⟨X0 0 [.P 0,.cv (.str p0),.cv (.fn (.func 166) [.P 0] [])],[(0,.raw (Af p1))]⟩:=by
 unfold B7.F at h;refine Xy L 200 <| Xo <| Xo ?_;obtain ⟨⟨p,q⟩,h1,h⟩:=bind_some h;dsimp only at h;refine rg L 202 [] [] [(2,(X5 (.B p) [(0,.raw (Af q))]))] (Xx (Ap.okE h1)) ?_;rcases Xp h with ⟨c1,h⟩ |⟨c1,h⟩
 ·refine tt c1 <| Xy L 206 <| Xq ?_;cases h;exact Zm
 refine fN c1 <| Xu <| Xo ?_;obtain ⟨a2,h2,h⟩:=bind_some h;rcases a2 with a2 | a2
 ·dsimp only at h;refine qn L 100208 [] [] [] 1 (X5 (.tup []) []) (Yl 49 a2) (Xx (hR.Ch h2)) ?_;cases h;exact rfl
 ·obtain ⟨j,o⟩:=a2;dsimp only at h;refine rg L 100208 [] [] [(1,(X5 (.agg (Aj j)) [(0,.raw (Af o))]))] (Xx (hR.Ch h2)) ?_;refine Xo <| Xw <| Xr (Xn.trans (Xn.kk [0,1,2,7] [0,100210]) (Xn.rr [(0,0),(100210,23100)])) ?_;refine kp (S':=⟨[(0,.P 0),(1,.cv (.str p0)),(2,.cv (.fn (.func 166) [.P 0] [])),(7,.cv (.own .Ae 23100))],[(0,.raw (Af o)),(23100,.lst .Ae ([(⟨j.Op,j.Name,j.Int,j.Text,j.Kids⟩:Aa)]:List Aa))]⟩) ?_;obtain ⟨o1,hp1,h⟩:=X9 h;refine X4 (Q':=fun e S=>(e=.exit 0∧∃ g:List Ar,∃ i:Int,∃ l:List Aa,S=⟨[(0,.P 0),(1,.cv (.str p0)),(7,.cv (.own .Ae 23000))],[(0,.raw [.ro .Ao g,.I i]),(23000,.lst .Ae l)]⟩∧X3.go (g,i,l)=o1)∨((e=.ret∨∃ ch,e=.panic ch)∧∃ a,X3.done a=o1∧Yk P V Tryz.f48 (B7.rep p0 p1 a) (B7.post p0 p1 a) e S)) (Yb (fun k S=>∃ d:List Ar,∃ f:Int,∃ c:List Aa,S=⟨[(0,.P 0),(1,.cv (.str p0)),(2,.cv (.fn (.func 166) [.P 0] [])),(7,.cv (.own .Ae 23100))],[(0,.raw [.ro .Ao d,.I f]),(23100,.lst .Ae c)]⟩∧B7.l15 K R k d f c=some o1) ?_ ⟨_,_,_,rfl,hp1⟩) ?_
  ·clear h hp1;intro k S hS;obtain ⟨d,f,c,rfl,h⟩:=hS;cases k with
   | zero=>cases h
   | succ k =>
   unfold B7.l15 at h;refine Xo <| Xo ?_;obtain ⟨⟨s,m⟩,h3,h⟩:=bind_some h;dsimp only at h;refine rg L 213 [] [] [(1,(X5 (.B s) [(0,.raw (Af m))]))] (Xx (Ap.okE h3)) ?_;rcases Xp h with ⟨c2,h⟩ |⟨c2,h⟩
   ·refine tt c2 <| Xu <| Xw ?_;obtain ⟨a4,h4,h⟩:=bind_some h;rcases a4 with a4 | a4
    ·dsimp only at h;refine qn L 216 [] [] [] 2 (X5 (.tup []) []) (Yl 49 a4) (Xx (hR.Ch h4)) ?_;cases h;exact .inr ⟨.inr ⟨_,rfl⟩,_,rfl,rfl⟩
    ·obtain ⟨b,n⟩:=a4;dsimp only at h;obtain ⟨g1,h⟩:=Xv h;refine ar L 216 [] [] [(2,(X5 (.agg (Aj b)) [(0,.raw (Af n))]))] (cs:=[Xz V P 166 [.P 0] [(0,.raw (Af m))] [0] (.agg (Aj b)) [(0,.raw (Af n))],(c.length+([(⟨b.Op,b.Name,b.Int,b.Text,b.Kids⟩:Aa)]:List Aa).length) * 72≤140737488355328,True]) (S':=⟨[(0,.P 0),(1,.cv (.str p0)),(2,.cv (.fn (.func 166) [.P 0] [])),(7,.cv (.own .Ae 23100))],[(0,.raw (Af n)),(23100,.lst .Ae (c++([(⟨b.Op,b.Name,b.Int,b.Text,b.Kids⟩:Aa)]:List Aa)))]⟩) (And.intro (hR.Ch h4) (And.intro g1 trivial)) ?_;exact ⟨k,Nat.lt_succ_self k,_,_,_,rfl,h⟩
   refine fN c2 <| Xr (Xn.trans (Xn.kk [0,1,7] [0,23100]) (Xn.rr [(0,0),(23100,23000)])) ?_;refine ex (S':=⟨[(0,.P 0),(1,.cv (.str p0)),(7,.cv (.own .Ae 23000))],[(0,.raw (Af m)),(23000,.lst .Ae c)]⟩) ?_;cases h;exact .inl ⟨rfl,_,_,_,rfl,rfl⟩
  ·rintro e S (⟨rfl,g,i,l,rfl,rfl⟩ |⟨he,a,rfl,hr⟩)
   ·rcases h with ⟨_,e1,h⟩ |⟨_,e1,h⟩
    ·cases e1
    ·have e2:=X3.go.inj e1;subst e2;dsimp only at h;refine ⟨_,Xn.refl,?_⟩;refine Xo ?_;obtain ⟨a5,h5,h⟩:=bind_some h;rcases a5 with a5 | a5
     ·dsimp only at h;refine rg L 223 [] [] [(2,(X5 (.tup []) [(0,.raw (Af a5))]))] (Xx (Au.okE h5)) ?_;refine Xy L 227 <| Xr (Xn.trans (Xn.kk [6] [0,23000]) (Xn.fz 23000)) ?_;refine Xq ?_;cases h;exact Zm
     ·obtain ⟨a5,rfl⟩:∃ z,z=a5:=⟨_,rfl⟩
      dsimp only at h;refine qn L 223 [] [] [] 2 (X5 (.tup []) []) (Yl 49 a5) (Xx (Au.okE h5)) ?_;cases h;exact rfl
   ·rcases h with ⟨_,e1,h⟩ |⟨_,e1,h⟩
    ·have e2:=X3.done.inj e1;subst e2;subst h;rcases he with rfl |⟨ch,rfl⟩
     ·exact ⟨_,Xn.refl,hr⟩
     ·exact ⟨_,Xn.refl,hr⟩
    ·cases e1
def Cb.F (K:Nat) (R:Ai) (p0:Ab):Option ((Aa×Ab) ⊕ Int):=(Option.bind (D6 K p0) (fun (h,i,a)=>(if i=true then some (Sum.inl (h,a)) else (Option.bind (Bx K a) (fun a2=>(if a2.Kind=1 then (Option.bind (Ay K a) (fun a3=>match a3 with |(Sum.inl a3)=>some (Sum.inr a3) |(Sum.inr (c,b))=>(Option.bind (Ea K b ([40]:List UInt8)) (fun a4=>(if a4=true then (Option.bind (R.Bv 10 c b) (fun a5=>match a5 with |(Sum.inl (j,k))=>some (Sum.inl (j,k)) |(Sum.inr a5)=>some (Sum.inr a5))) else some (Sum.inl ((⟨6,c,0,[],([]:List Aa)⟩:Aa),b))))))) else (Option.bind (Ap K ([91]:List UInt8) a) (fun (l,d)=>(if l=true then (Option.bind (R.Bm ([93]:List UInt8) d) (fun a7=>match a7 with |(Sum.inl (m,n))=>some (Sum.inl ((⟨7,[],0,[],m⟩:Aa),n)) |(Sum.inr a7)=>some (Sum.inr a7))) else (Option.bind (Ap K ([123]:List UInt8) d) (fun (o,e)=>(if o=true then (Option.bind (R.B7 ([125]:List UInt8) e) (fun a9=>match a9 with |(Sum.inl (p,q))=>some (Sum.inl ((⟨8,[],0,[],p⟩:Aa),q)) |(Sum.inr a9)=>some (Sum.inr a9))) else (Option.bind (Au K ([40]:List UInt8) e) (fun a10=>match a10 with |(Sum.inl a10)=>(Option.bind (R.Av a10) (fun a11=>match a11 with |(Sum.inl a11)=>some (Sum.inr a11) |(Sum.inr (f,g))=>(Option.bind (Au K ([41]:List UInt8) g) (fun a12=>match a12 with |(Sum.inl a12)=>some (Sum.inl (f,a12)) |(Sum.inr a12)=>some (Sum.inr a12))))) |(Sum.inr a10)=>some (Sum.inr a10)))))))))))))))
theorem Cb.body {Γ:Yg} {K:Nat} {R:Ai} (hR:R.Ok) {p0:Ab} {r:(Aa×Ab) ⊕ Int} (h:Cb.F K R p0=some r):Yc V P 51 100 Γ (Tryz.f163.body.getD .skip) (Yk P V Tryz.f163 (Cb.rep p0 r) (Cb.post p0 r)) ⟨X0 0 [.P 0],[(0,.raw (Af p0))]⟩:=by
 unfold Cb.F at h;refine Xy L 200 <| Xo <| Xo ?_;obtain ⟨⟨c,d,e⟩,h1,h⟩:=bind_some h;dsimp only at h;refine rg L 202 [] [] [(1,(X5 (.tup [.agg (Aj c),.B d]) [(0,.raw (Af e))]))] (Xx (D6.okE h1)) ?_;refine Xy L 211 ?_;rcases Xp h with ⟨c1,h⟩ |⟨c1,h⟩
 ·refine tt c1 <| Xy L 213 <| Xr (Xn.trans (Xn.kk [2] [0,200]) (Xn.rr [(0,0),(200,100)])) ?_;refine Xq ?_;cases h;exact Zm
 refine fN c1 <| Xu <| Xo <| Xw <| Xo ?_;obtain ⟨a2,h2,h⟩:=bind_some h;refine rg L 216 [] [(1,.agg (Eg a2))] [] (Yw (Bx.ok h2)) ?_;rcases Xp h with ⟨c2,h⟩ |⟨c2,h⟩
 ·refine tT c2 <| Xo ?_;obtain ⟨a3,h3,h⟩:=bind_some h;rcases a3 with a3 | a3
  ·dsimp only at h;refine qn L 222 [] [] [] 1 (X5 (.tup []) []) (Yl 49 a3) (Xx (Ay.okE h3)) ?_;cases h;exact rfl
  ·obtain ⟨f,g⟩:=a3;dsimp only at h;refine rg L 222 [] [] [(1,(X5 (.cv (.str f)) [(0,.raw (Af g))]))] (Xx (Ay.okE h3)) ?_;refine Xo <| Xo ?_;obtain ⟨a4,h4,h⟩:=bind_some h;refine rg L 226 [] [(1,.B a4)] [] (Yw (Ea.ok h4)) ?_;rcases Xp h with ⟨c3,h⟩ |⟨c3,h⟩
   ·refine tt c3 <| Xo ?_;obtain ⟨a5,h5,h⟩:=bind_some h;rcases a5 with ⟨i,j⟩ | a5
    ·dsimp only at h;refine rg L 229 [] [] [(2,(X5 (.agg (Aj i)) [(0,.raw (Af j))]))] (Xx (hR.Bv h5)) ?_;refine Xr (Xn.trans (Xn.kk [2] [0,200]) (Xn.rr [(0,0),(200,100)])) ?_;refine Xq ?_;cases h;exact Zm
    ·obtain ⟨a5,rfl⟩:∃ z,z=a5:=⟨_,rfl⟩
     dsimp only at h;refine qn L 229 [] [] [] 2 (X5 (.tup []) []) (Yl 49 a5) (Xx (hR.Bv h5)) ?_;cases h;exact rfl
   refine fN c3 <| Xu <| Xy L 234 <| Xr (Xn.trans (Xn.kk [2] [0,200]) (Xn.rr [(0,0),(200,100)])) ?_;refine Xq ?_;cases h;exact Zm
 refine fF c2 <| Xo ?_;obtain ⟨⟨k,l⟩,h6,h⟩:=bind_some h;dsimp only at h;refine rg L 238 [] [] [(1,(X5 (.B k) [(0,.raw (Af l))]))] (Xx (Ap.okE h6)) ?_;rcases Xp h with ⟨c4,h⟩ |⟨c4,h⟩
 ·refine tt c4 <| Xo ?_;obtain ⟨a7,h7,h⟩:=bind_some h;rcases a7 with ⟨m,n⟩ | a7
  ·dsimp only at h;refine rg L 242 [] [] [(3,(X5 (.cv (.ro .Ae m)) [(0,.raw (Af n))]))] (Xx (hR.Bm h7)) ?_;refine Xr (Xn.trans (Xn.kk [2] [0,200]) (Xn.rr [(0,0),(200,100)])) ?_;refine Xq ?_;cases h;exact Zm
  ·obtain ⟨a7,rfl⟩:∃ z,z=a7:=⟨_,rfl⟩
   dsimp only at h;refine qn L 242 [] [] [] 3 (X5 (.tup []) []) (Yl 49 a7) (Xx (hR.Bm h7)) ?_;cases h;exact rfl
 refine fN c4 <| Xo ?_;obtain ⟨⟨o,p⟩,h8,h⟩:=bind_some h;dsimp only at h;refine rg L 249 [] [] [(1,(X5 (.B o) [(0,.raw (Af p))]))] (Xx (Ap.okE h8)) ?_;rcases Xp h with ⟨c5,h⟩ |⟨c5,h⟩
 ·refine tt c5 <| Xo ?_;obtain ⟨a9,h9,h⟩:=bind_some h;rcases a9 with ⟨q,s⟩ | a9
  ·dsimp only at h;refine rg L 253 [] [] [(3,(X5 (.cv (.ro .Ae q)) [(0,.raw (Af s))]))] (Xx (hR.B7 h9)) ?_;refine Xr (Xn.trans (Xn.kk [2] [0,200]) (Xn.rr [(0,0),(200,100)])) ?_;refine Xq ?_;cases h;exact Zm
  ·obtain ⟨a9,rfl⟩:∃ z,z=a9:=⟨_,rfl⟩
   dsimp only at h;refine qn L 253 [] [] [] 3 (X5 (.tup []) []) (Yl 49 a9) (Xx (hR.B7 h9)) ?_;cases h;exact rfl
 refine fN c5 <| Xu <| Xo ?_;obtain ⟨a10,h10,h⟩:=bind_some h;rcases a10 with a10 | a10
 ·dsimp only at h;refine rg L 260 [] [] [(1,(X5 (.tup []) [(0,.raw (Af a10))]))] (Xx (Au.okE h10)) ?_;refine Xo ?_;obtain ⟨a11,h11,h⟩:=bind_some h;rcases a11 with a11 | a11
  ·dsimp only at h;refine qn L 263 [] [] [] 1 (X5 (.tup []) []) (Yl 49 a11) (Xx (hR.Av h11)) ?_;cases h;exact rfl
  ·obtain ⟨a,b⟩:=a11;dsimp only at h;refine rg L 263 [] [] [(1,(X5 (.agg (Aj a)) [(0,.raw (Af b))]))] (Xx (hR.Av h11)) ?_;refine Xo ?_;obtain ⟨a12,h12,h⟩:=bind_some h;rcases a12 with a12 | a12
   ·dsimp only at h;refine rg L 268 [] [] [(1,(X5 (.tup []) [(0,.raw (Af a12))]))] (Xx (Au.okE h12)) ?_;refine Xy L 271 <| Xr (Xn.trans (Xn.kk [2] [0,200]) (Xn.rr [(0,0),(200,100)])) ?_;refine Xq ?_;cases h;exact Zm
   ·obtain ⟨a12,rfl⟩:∃ z,z=a12:=⟨_,rfl⟩
    dsimp only at h;refine qn L 268 [] [] [] 1 (X5 (.tup []) []) (Yl 49 a12) (Xx (Au.okE h12)) ?_;cases h;exact rfl
 ·obtain ⟨a10,rfl⟩:∃ z,z=a10:=⟨_,rfl⟩
  dsimp only at h;refine qn L 260 [] [] [] 1 (X5 (.tup []) []) (Yl 49 a10) (Xx (Au.okE h10)) ?_;cases h;exact rfl
def Bk.l6 (K:Nat) (R:Ai):Nat→(List Ar)→Int→Int→(List UInt8)→Int→(List UInt8)→(List Aa)→Option (X3 (Int ⊕ (Aa×Ab)) Unit)
 | 0,_,_,_,_,_,_,_=>none
 | k+1,g,h,a,b,c,d,e=>(Option.bind (Ap K ([46]:List UInt8) (⟨g,h⟩:Ab)) (fun (o,j)=>(if o=true then (Option.bind (Ay K j) (fun a3=>match a3 with |(Sum.inl a3)=>some (X3.done (Sum.inl a3)) |(Sum.inr (p,m))=>Bk.l6 K R k m.l m.i 29 p 0 [] ([(⟨a,b,c,d,e⟩:Aa)]:List Aa))) else (Option.bind (Ap K ([91]:List UInt8) j) (fun (q,n)=>(if q=true then (Option.bind (R.Av n) (fun a5=>match a5 with |(Sum.inl a5)=>some (X3.done (Sum.inl a5)) |(Sum.inr (f,r))=>(Option.bind (C1 K 28 ([(⟨a,b,c,d,e⟩:Aa),(⟨f.Op,f.Name,f.Int,f.Text,f.Kids⟩:Aa)]:List Aa)) (fun a6=>(Option.bind (Au K ([93]:List UInt8) r) (fun a7=>match a7 with |(Sum.inl a7)=>Bk.l6 K R k a7.l a7.i a6.Op a6.Name a6.Int a6.Text a6.Kids |(Sum.inr a7)=>some (X3.done (Sum.inl a7)))))))) else some (X3.done (Sum.inr ((⟨a,b,c,d,e⟩:Aa),n)))))))))
def Bk.F (K:Nat) (R:Ai) (p0:Ab):Option (Int ⊕ (Aa×Ab)):=(Option.bind (R.Cb p0) (fun a1=>match a1 with |(Sum.inl (a,b))=>(obind (Bk.l6 K R K b.l b.i a.Op a.Name a.Int a.Text a.Kids:Option (X3 (Int ⊕ (Aa×Ab)) Unit)) (fun r=>r) (fun _=>none)) |(Sum.inr a1)=>some (Sum.inl a1)))
theorem Bk.body {Γ:Yg} {K:Nat} {R:Ai} (hR:R.Ok) {p0:Ab} {r:Int ⊕ (Aa×Ab)} (h:Bk.F K R p0=some r):Yc V P 25 100 Γ (Tryz.f156.body.getD .skip) (Yk P V Tryz.f156 (Bk.rep p0 r) (Bk.post p0 r)) ⟨X0 0 [.P 0],[(0,.raw (Af p0))]⟩:=by
 unfold Bk.F at h;refine Xy L 200 <| Xo ?_;obtain ⟨a1,h1,h⟩:=bind_some h;rcases a1 with ⟨m,n⟩ | a1
 ·dsimp only at h;refine rg L 202 [] [] [(1,(X5 (.agg (Aj m)) [(0,.raw (Af n))]))] (Xx (hR.Cb h1)) ?_;refine Xw <| Xr (Xn.trans (Xn.kk [0,2,3] [0,200,204]) (Xn.rr [(0,0),(200,21300),(204,21301)])) ?_;refine kp (S':=⟨[(0,.P 0),(2,.P 21300),(3,.P 21301)],[(0,.raw (Af n)),(21300,.raw [.I 0,.str [],.I 0,.str [],.N]),(21301,.raw (Aj m))]⟩) ?_;obtain ⟨o1,hp1,h⟩:=X9 h;refine X4 (Q':=fun e S=>False∨((e=.ret∨∃ ch,e=.panic ch)∧∃ a,X3.done a=o1∧Yk P V Tryz.f156 (Bk.rep p0 a) (Bk.post p0 a) e S)) (Yb (fun k S=>∃ i:List Ar,∃ j:Int,∃ b:Int,∃ c:List UInt8,∃ d:Int,∃ f:List UInt8,∃ g:List Aa,S=⟨[(0,.P 0),(2,.P 21300),(3,.P 21301)],[(0,.raw [.ro .Ao i,.I j]),(21300,.raw [.I 0,.str [],.I 0,.str [],.N]),(21301,.raw [.I b,.str c,.I d,.str f,.ro .Ae g])]⟩∧Bk.l6 K R k i j b c d f g=some o1) ?_ ⟨_,_,_,_,_,_,_,rfl,hp1⟩) ?_
  ·clear h hp1;intro k S hS;obtain ⟨i,j,b,c,d,f,g,rfl,h⟩:=hS;cases k with
   | zero=>cases h
   | succ k =>
   unfold Bk.l6 at h;refine Xw <| Xw <| Xo ?_;obtain ⟨⟨q,s⟩,h2,h⟩:=bind_some h;dsimp only at h;refine rg L 207 [] [] [(1,(X5 (.B q) [(0,.raw (Af s))]))] (Xx (Ap.okE h2)) ?_;rcases Xp h with ⟨c1,h⟩ |⟨c1,h⟩
   ·refine tt c1 ?_;obtain ⟨a3,h3,h⟩:=bind_some h;rcases a3 with a3 | a3
    ·dsimp only at h;refine qP L mixed 211 [] [] [] [0] 1 (X5 (.tup []) []) (Yl 49 a3) (Xt (Ay.okE h3) (Xt (Ay.okE h3) (Xx (Ay.okE h3)))) ?_;cases h;exact .inr ⟨.inr ⟨_,rfl⟩,_,rfl,rfl⟩
    ·obtain ⟨o,p⟩:=a3;dsimp only at h;refine hB L mixed 211 [] [] [(1,(X5 (.cv (.str o)) [(0,.raw (Af p))]))] [0] 3 (Xt (Ay.okE h3) (Xt (Ay.okE h3) (Xx (Ay.okE h3)))) (S':=⟨[(0,.P 0),(2,.P 21300),(3,.P 21301)],[(0,.raw (Af p)),(21300,.raw [.I 0,.str [],.I 0,.str [],.N]),(21301,.raw [.I 29,.str o,.I 0,.str [],.ro .Ae ([(⟨b,c,d,f,g⟩:Aa)]:List Aa)])]⟩) ?_;exact ⟨k,Nat.lt_succ_self k,_,_,_,_,_,_,_,rfl,h⟩
   refine fN c1 <| Xo ?_;obtain ⟨⟨t,u⟩,h4,h⟩:=bind_some h;dsimp only at h;refine rg L 218 [] [] [(1,(X5 (.B t) [(0,.raw (Af u))]))] (Xx (Ap.okE h4)) ?_;rcases Xp h with ⟨c2,h⟩ |⟨c2,h⟩
   ·refine tt c2 <| Xo ?_;obtain ⟨a5,h5,h⟩:=bind_some h;rcases a5 with a5 | a5
    ·dsimp only at h;refine qP L mixed 222 [] [] [] [1] 2 (X5 (.tup []) []) (Yl 49 a5) (Zb (hR.Av h5) (hR.Av h5)) ?_;cases h;exact .inr ⟨.inr ⟨_,rfl⟩,_,rfl,rfl⟩
    ·obtain ⟨v,l⟩:=a5;dsimp only at h;obtain ⟨a6,h6,h⟩:=bind_some h;refine hB L mixed 222 [] [(4,.agg (Aj a6))] [(2,(X5 (.agg (Aj v)) [(0,.raw (Af l))]))] [1] 2 (Xt (hR.Av h5) (Xt (C1.ok h6) (Xt trivial (Xt (hR.Av h5) (Xt (C1.ok h6) (Xx trivial)))))) (S':=⟨[(0,.P 0),(2,.P 21300),(3,.P 21301)],[(0,.raw (Af l)),(21300,.raw [.I 0,.str [],.I 0,.str [],.N]),(21301,.raw (Aj a6))]⟩) ?_;obtain ⟨a7,h7,h⟩:=bind_some h;rcases a7 with a7 | a7
     ·dsimp only at h;refine ar L 229 [] [] [(1,(X5 (.tup []) [(0,.raw (Af a7))]))] (cs:=[Xz V P 46 [.P 0,.cv (.str ([93]:List UInt8))] [(0,.raw (Af l))] [0] (.tup []) [(0,.raw (Af a7))]]) (S':=⟨[(0,.P 0),(2,.P 21300),(3,.P 21301)],[(0,.raw (Af a7)),(21300,.raw [.I 0,.str [],.I 0,.str [],.N]),(21301,.raw (Aj a6))]⟩) (Au.okE h7) ?_;exact ⟨k,Nat.lt_succ_self k,_,_,_,_,_,_,_,rfl,h⟩
     ·obtain ⟨a7,rfl⟩:∃ z,z=a7:=⟨_,rfl⟩
      dsimp only at h;refine qn L 229 [] [] [] 1 (X5 (.tup []) []) (Yl 49 a7) (Xx (Au.okE h7)) ?_;cases h;exact .inr ⟨.inr ⟨_,rfl⟩,_,rfl,rfl⟩
   refine fN c2 <| Xy L 232 <| Xr (Xn.trans (Xn.kk [2] [0,21300]) (Xn.rr [(0,0),(21300,100)])) ?_;refine Xq ?_;cases h;exact .inr ⟨.inl rfl,_,rfl,Zm⟩
  ·rintro e S (hf |⟨he,a,rfl,hr⟩)
   ·exact hf.elim
   ·rcases h with ⟨_,e1,h⟩ |⟨_,e1,h⟩
    ·have e2:=X3.done.inj e1;subst e2;subst h;rcases he with rfl |⟨ch,rfl⟩
     ·exact ⟨_,Xn.refl,hr⟩
     ·exact ⟨_,Xn.refl,hr⟩
    ·cases e1
 ·obtain ⟨a1,rfl⟩:∃ z,z=a1:=⟨_,rfl⟩
  dsimp only at h;refine qn L 202 [] [] [] 1 (X5 (.tup []) []) (Yl 49 a1) (Xx (hR.Cb h1)) ?_;cases h;exact rfl
def Bi.F (K:Nat) (R:Ai) (p0:Ab):Option (Int ⊕ (Aa×Ab)):=(Option.bind (Ap K ([45]:List UInt8) p0) (fun (h,c)=>(if h=true then (Option.bind (R.Bi c) (fun a2=>match a2 with |(Sum.inl a2)=>some (Sum.inl a2) |(Sum.inr (a,i))=>(Option.bind (C1 K 14 ([(⟨a.Op,a.Name,a.Int,a.Text,a.Kids⟩:Aa)]:List Aa)) (fun a3=>some (Sum.inr (a3,i)))))) else (Option.bind (Ap K ([97,119,97,105,116]:List UInt8) c) (fun (j,d)=>(if j=true then (Option.bind (R.Bi d) (fun a5=>match a5 with |(Sum.inl a5)=>some (Sum.inl a5) |(Sum.inr (b,k))=>(Option.bind (C1 K 12 ([(⟨b.Op,b.Name,b.Int,b.Text,b.Kids⟩:Aa)]:List Aa)) (fun a6=>some (Sum.inr (a6,k)))))) else (Option.bind (Ap K ([103,111]:List UInt8) d) (fun (l,e)=>(if l=true then (Option.bind (Ay K e) (fun a8=>match a8 with |(Sum.inl a8)=>some (Sum.inl a8) |(Sum.inr (m,n))=>(Option.bind (R.Bv 11 m n) (fun a9=>match a9 with |(Sum.inl (o,p))=>some (Sum.inr (o,p)) |(Sum.inr a9)=>some (Sum.inl a9))))) else (Option.bind (R.Bk e) (fun a10=>match a10 with |(Sum.inl a10)=>some (Sum.inl a10) |(Sum.inr (f,g))=>some (Sum.inr (f,g)))))))))))))
theorem Bi.body {Γ:Yg} {K:Nat} {R:Ai} (hR:R.Ok) {p0:Ab} {r:Int ⊕ (Aa×Ab)} (h:Bi.F K R p0=some r):Yc V P 26 100 Γ (Tryz.f146.body.getD .skip) (Yk P V Tryz.f146 (Bi.rep p0 r) (Bi.post p0 r)) ⟨X0 0 [.P 0],[(0,.raw (Af p0))]⟩:=by
 unfold Bi.F at h;refine Xy L 200 <| Xo <| Xw <| Xo ?_;obtain ⟨⟨e,f⟩,h1,h⟩:=bind_some h;dsimp only at h;refine rg L 202 [] [] [(1,(X5 (.B e) [(0,.raw (Af f))]))] (Xx (Ap.okE h1)) ?_;rcases Xp h with ⟨c1,h⟩ |⟨c1,h⟩
 ·refine tt c1 <| Xo ?_;obtain ⟨a2,h2,h⟩:=bind_some h;rcases a2 with a2 | a2
  ·dsimp only at h;refine qn L 206 [] [] [] 1 (X5 (.tup []) []) (Yl 49 a2) (Xx (hR.Bi h2)) ?_;cases h;exact rfl
  ·obtain ⟨g,i⟩:=a2;dsimp only at h;obtain ⟨a3,h3,h⟩:=bind_some h;refine rg L 206 [] [(3,.agg (Aj a3))] [(1,(X5 (.agg (Aj g)) [(0,.raw (Af i))]))] (Xt (hR.Bi h2) (Xt (C1.ok h3) (Xx trivial))) ?_;refine Xr (Xn.trans (Xn.kk [2] [0,200]) (Xn.rr [(0,0),(200,100)])) ?_;refine Xq ?_;cases h;exact Zm
 refine fN c1 <| Xo ?_;obtain ⟨⟨j,k⟩,h4,h⟩:=bind_some h;dsimp only at h;refine rg L 212 [] [] [(1,(X5 (.B j) [(0,.raw (Af k))]))] (Xx (Ap.okE h4)) ?_;rcases Xp h with ⟨c2,h⟩ |⟨c2,h⟩
 ·refine tt c2 <| Xo ?_;obtain ⟨a5,h5,h⟩:=bind_some h;rcases a5 with a5 | a5
  ·dsimp only at h;refine qn L 216 [] [] [] 1 (X5 (.tup []) []) (Yl 49 a5) (Xx (hR.Bi h5)) ?_;cases h;exact rfl
  ·obtain ⟨l,m⟩:=a5;dsimp only at h;obtain ⟨a6,h6,h⟩:=bind_some h;refine rg L 216 [] [(3,.agg (Aj a6))] [(1,(X5 (.agg (Aj l)) [(0,.raw (Af m))]))] (Xt (hR.Bi h5) (Xt (C1.ok h6) (Xx trivial))) ?_;refine Xr (Xn.trans (Xn.kk [2] [0,200]) (Xn.rr [(0,0),(200,100)])) ?_;refine Xq ?_;cases h;exact Zm
 refine fN c2 <| Xo ?_;obtain ⟨⟨n,o⟩,h7,h⟩:=bind_some h;dsimp only at h;refine rg L 222 [] [] [(1,(X5 (.B n) [(0,.raw (Af o))]))] (Xx (Ap.okE h7)) ?_;rcases Xp h with ⟨c3,h⟩ |⟨c3,h⟩
 ·refine tt c3 <| Xo ?_;obtain ⟨a8,h8,h⟩:=bind_some h;rcases a8 with a8 | a8
  ·dsimp only at h;refine qn L 226 [] [] [] 2 (X5 (.tup []) []) (Yl 49 a8) (Xx (Ay.okE h8)) ?_;cases h;exact rfl
  ·obtain ⟨a,b⟩:=a8;dsimp only at h;obtain ⟨a9,h9,h⟩:=bind_some h;rcases a9 with ⟨p,q⟩ | a9
   ·dsimp only at h;refine rg L 226 [] [] [(2,(X5 (.cv (.str a)) [(0,.raw (Af b))])),(3,(X5 (.agg (Aj p)) [(0,.raw (Af q))]))] (Zb (Ay.okE h8) (hR.Bv h9)) ?_;refine Xr (Xn.trans (Xn.kk [2] [0,200]) (Xn.rr [(0,0),(200,100)])) ?_;refine Xq ?_;cases h;exact Zm
   ·obtain ⟨a9,rfl⟩:∃ z,z=a9:=⟨_,rfl⟩
    dsimp only at h;refine qn L 226 [] [] [(2,(X5 (.cv (.str a)) [(0,.raw (Af b))]))] 3 (X5 (.tup []) []) (Yl 49 a9) (Zb (Ay.okE h8) (hR.Bv h9)) ?_;cases h;exact rfl
 refine fN c3 <| Xu <| Xo ?_;obtain ⟨a10,h10,h⟩:=bind_some h;rcases a10 with a10 | a10
 ·dsimp only at h;refine qn L 232 [] [] [] 1 (X5 (.tup []) []) (Yl 49 a10) (Xx (hR.Bk h10)) ?_;cases h;exact rfl
 ·obtain ⟨c,d⟩:=a10;dsimp only at h;refine rg L 232 [] [] [(1,(X5 (.agg (Aj c)) [(0,.raw (Af d))]))] (Xx (hR.Bk h10)) ?_;refine Xr (Xn.trans (Xn.kk [2] [0,200]) (Xn.rr [(0,0),(200,100)])) ?_;refine Xq ?_;cases h;exact Zm
def B8.l6 (K:Nat) (R:Ai) (p0:List (List UInt8)) (p1:List Int):Nat→(List Ar)→Int→Int→(List UInt8)→Int→(List UInt8)→(List Aa)→Option (X3 (Int ⊕ (Aa×Ab)) Unit)
 | 0,_,_,_,_,_,_,_=>none
 | k+1,g,h,a,b,c,d,e=>(Option.bind (Cd K p0 p1 (⟨g,h⟩:Ab)) (fun (n,o,j)=>(if o=true then (Option.bind (R.Bi j) (fun a3=>match a3 with |(Sum.inl a3)=>some (X3.done (Sum.inl a3)) |(Sum.inr (f,m))=>(Option.bind (C1 K n ([(⟨a,b,c,d,e⟩:Aa),(⟨f.Op,f.Name,f.Int,f.Text,f.Kids⟩:Aa)]:List Aa)) (fun a4=>B8.l6 K R p0 p1 k m.l m.i a4.Op a4.Name a4.Int a4.Text a4.Kids)))) else some (X3.done (Sum.inr ((⟨a,b,c,d,e⟩:Aa),j))))))
def B8.F (K:Nat) (R:Ai) (p0:List (List UInt8)) (p1:List Int) (p2:Ab):Option (Int ⊕ (Aa×Ab)):=(Option.bind (R.Bi p2) (fun a1=>match a1 with |(Sum.inl a1)=>some (Sum.inl a1) |(Sum.inr (a,b))=>(obind (B8.l6 K R p0 p1 K b.l b.i a.Op a.Name a.Int a.Text a.Kids:Option (X3 (Int ⊕ (Aa×Ab)) Unit)) (fun r=>r) (fun _=>none))))
theorem B8.body {Γ:Yg} {K:Nat} {R:Ai} (hR:R.Ok) {p0:List (List UInt8)} {p1:List Int} {p2:Ab} {r:Int ⊕ (Aa×Ab)} (h:B8.F K R p0 p1 p2=some r):Yc V P 30 100 Γ (Tryz.f62.body.getD .skip) (Yk P V Tryz.f62 (B8.rep p0 p1 p2 r) (B8.post p0 p1 p2 r)) ⟨X0 0 [.P 0,.cv (.fn (.func 146) [.P 0] []),.cv (.ro .Dd p0),.cv (.ro .Fz p1)],[(0,.raw (Af p2))]⟩:=by
 unfold B8.F at h;refine Xy L 200 <| Xo ?_;obtain ⟨a1,h1,h⟩:=bind_some h;rcases a1 with a1 | a1
 ·dsimp only at h;refine qn L 202 [] [] [] 1 (X5 (.tup []) []) (Yl 49 a1) (Xx (hR.Bi h1)) ?_;cases h;exact rfl
 ·obtain ⟨n,o⟩:=a1;dsimp only at h;refine rg L 202 [] [] [(1,(X5 (.agg (Aj n)) [(0,.raw (Af o))]))] (Xx (hR.Bi h1)) ?_;refine Xw <| Xr (Xn.trans (Xn.kk [0,1,2,3,8,9] [0,200,204]) (Xn.rr [(0,0),(200,21300),(204,21301)])) ?_;refine kp (S':=⟨[(0,.P 0),(1,.cv (.fn (.func 146) [.P 0] [])),(2,.cv (.ro .Dd p0)),(3,.cv (.ro .Fz p1)),(8,.P 21300),(9,.P 21301)],[(0,.raw (Af o)),(21300,.raw [.I 0,.str [],.I 0,.str [],.N]),(21301,.raw (Aj n))]⟩) ?_;obtain ⟨o1,hp1,h⟩:=X9 h;refine X4 (Q':=fun e S=>False∨((e=.ret∨∃ ch,e=.panic ch)∧∃ a,X3.done a=o1∧Yk P V Tryz.f62 (B8.rep p0 p1 p2 a) (B8.post p0 p1 p2 a) e S)) (Yb (fun k S=>∃ c:List Ar,∃ d:Int,∃ f:Int,∃ g:List UInt8,∃ i:Int,∃ j:List UInt8,∃ l:List Aa,S=⟨[(0,.P 0),(1,.cv (.fn (.func 146) [.P 0] [])),(2,.cv (.ro .Dd p0)),(3,.cv (.ro .Fz p1)),(8,.P 21300),(9,.P 21301)],[(0,.raw [.ro .Ao c,.I d]),(21300,.raw [.I 0,.str [],.I 0,.str [],.N]),(21301,.raw [.I f,.str g,.I i,.str j,.ro .Ae l])]⟩∧B8.l6 K R p0 p1 k c d f g i j l=some o1) ?_ ⟨_,_,_,_,_,_,_,rfl,hp1⟩) ?_
  ·clear h hp1;intro k S hS;obtain ⟨c,d,f,g,i,j,l,rfl,h⟩:=hS;cases k with
   | zero=>cases h
   | succ k =>
   unfold B8.l6 at h;refine Xw <| Xo ?_;obtain ⟨⟨q,m,s⟩,h2,h⟩:=bind_some h;dsimp only at h;refine rg L 207 [] [] [(3,(X5 (.tup [.I q,.B m]) [(0,.raw (Af s))]))] (Xx (Cd.okE h2)) ?_;refine Xo <| Xy L 217 ?_;rcases Xp h with ⟨c1,h⟩ |⟨c1,h⟩
   ·refine ff (b:=(!m)) (congrArg Bool.not (c1)) ?_;refine Xu ?_;obtain ⟨a3,h3,h⟩:=bind_some h;rcases a3 with a3 | a3
    ·dsimp only at h;refine qP L mixed 223 [] [] [] [0,2] 3 (X5 (.tup []) []) (Yl 49 a3) (Zb (hR.Bi h3) (hR.Bi h3)) ?_;cases h;exact .inr ⟨.inr ⟨_,rfl⟩,_,rfl,rfl⟩
    ·obtain ⟨t,p⟩:=a3;dsimp only at h;obtain ⟨a4,h4,h⟩:=bind_some h;refine hB L mixed 223 [] [(5,.agg (Aj a4))] [(3,(X5 (.agg (Aj t)) [(0,.raw (Af p))]))] [0,2] 2 (Xt (hR.Bi h3) (Xt (C1.ok h4) (Xt trivial (Xt (hR.Bi h3) (Xt (C1.ok h4) (Xx trivial)))))) (S':=⟨[(0,.P 0),(1,.cv (.fn (.func 146) [.P 0] [])),(2,.cv (.ro .Dd p0)),(3,.cv (.ro .Fz p1)),(8,.P 21300),(9,.P 21301)],[(0,.raw (Af p)),(21300,.raw [.I 0,.str [],.I 0,.str [],.N]),(21301,.raw (Aj a4))]⟩) ?_;exact ⟨k,Nat.lt_succ_self k,_,_,_,_,_,_,_,rfl,h⟩
   refine tt (b:=(!m)) (congrArg Bool.not (eq_false_of_ne_true c1)) ?_;refine Xy L 220 <| Xr (Xn.trans (Xn.kk [8] [0,21300]) (Xn.rr [(0,0),(21300,100)])) ?_;refine Xq ?_;cases h;exact .inr ⟨.inl rfl,_,rfl,Zm⟩
  ·rintro e S (hf |⟨he,a,rfl,hr⟩)
   ·exact hf.elim
   ·rcases h with ⟨_,e1,h⟩ |⟨_,e1,h⟩
    ·have e2:=X3.done.inj e1;subst e2;subst h;rcases he with rfl |⟨ch,rfl⟩
     ·exact ⟨_,Xn.refl,hr⟩
     ·exact ⟨_,Xn.refl,hr⟩
    ·cases e1
def B4.F (K:Nat) (R:Ai) (p0:Ab):Option (Int ⊕ (Aa×Ab)):=(Option.bind (R.B8 ([([42]:List UInt8),([47]:List UInt8),([37]:List UInt8)]:List (List UInt8)) ([15,16,17]:List Int) p0) (fun a1=>match a1 with |(Sum.inl a1)=>some (Sum.inl a1) |(Sum.inr (a,b))=>some (Sum.inr (a,b))))
theorem B4.body {Γ:Yg} {K:Nat} {R:Ai} (hR:R.Ok) {p0:Ab} {r:Int ⊕ (Aa×Ab)} (h:B4.F K R p0=some r):Yc V P 9 100 Γ (Tryz.f137.body.getD .skip) (Yk P V Tryz.f137 (B4.rep p0 r) (B4.post p0 r)) ⟨X0 0 [.P 0],[(0,.raw (Af p0))]⟩:=by
 unfold B4.F at h;refine Xy L 200 <| Xo ?_;obtain ⟨a1,h1,h⟩:=bind_some h;rcases a1 with a1 | a1
 ·dsimp only at h;refine qn L 202 [] [] [] 5 (X5 (.tup []) []) (Yl 49 a1) (Xx (hR.B8 h1)) ?_;cases h;exact rfl
 ·obtain ⟨a,b⟩:=a1;dsimp only at h;refine rg L 202 [] [] [(5,(X5 (.agg (Aj a)) [(0,.raw (Af b))]))] (Xx (hR.B8 h1)) ?_;refine Xr (Xn.trans (Xn.kk [2] [0,200]) (Xn.rr [(0,0),(200,100)])) ?_;refine Xq ?_;cases h;exact Zm
def Cc.l6 (K:Nat) (R:Ai) (p0:List (List UInt8)) (p1:List Int):Nat→(List Ar)→Int→Int→(List UInt8)→Int→(List UInt8)→(List Aa)→Option (X3 (Int ⊕ (Aa×Ab)) Unit)
 | 0,_,_,_,_,_,_,_=>none
 | k+1,g,h,a,b,c,d,e=>(Option.bind (Cd K p0 p1 (⟨g,h⟩:Ab)) (fun (n,o,j)=>(if o=true then (Option.bind (R.B4 j) (fun a3=>match a3 with |(Sum.inl a3)=>some (X3.done (Sum.inl a3)) |(Sum.inr (f,m))=>(Option.bind (C1 K n ([(⟨a,b,c,d,e⟩:Aa),(⟨f.Op,f.Name,f.Int,f.Text,f.Kids⟩:Aa)]:List Aa)) (fun a4=>Cc.l6 K R p0 p1 k m.l m.i a4.Op a4.Name a4.Int a4.Text a4.Kids)))) else some (X3.done (Sum.inr ((⟨a,b,c,d,e⟩:Aa),j))))))
def Cc.F (K:Nat) (R:Ai) (p0:List (List UInt8)) (p1:List Int) (p2:Ab):Option (Int ⊕ (Aa×Ab)):=(Option.bind (R.B4 p2) (fun a1=>match a1 with |(Sum.inl a1)=>some (Sum.inl a1) |(Sum.inr (a,b))=>(obind (Cc.l6 K R p0 p1 K b.l b.i a.Op a.Name a.Int a.Text a.Kids:Option (X3 (Int ⊕ (Aa×Ab)) Unit)) (fun r=>r) (fun _=>none))))
theorem Cc.body {Γ:Yg} {K:Nat} {R:Ai} (hR:R.Ok) {p0:List (List UInt8)} {p1:List Int} {p2:Ab} {r:Int ⊕ (Aa×Ab)} (h:Cc.F K R p0 p1 p2=some r):Yc V P 30 100 Γ (Tryz.f62.body.getD .skip) (Yk P V Tryz.f62 (Cc.rep p0 p1 p2 r) (Cc.post p0 p1 p2 r)) ⟨X0 0 [.P 0,.cv (.fn (.func 137) [.P 0] []),.cv (.ro .Dd p0),.cv (.ro .Fz p1)],[(0,.raw (Af p2))]⟩:=by
 unfold Cc.F at h;refine Xy L 200 <| Xo ?_;obtain ⟨a1,h1,h⟩:=bind_some h;rcases a1 with a1 | a1
 ·dsimp only at h;refine qn L 202 [] [] [] 1 (X5 (.tup []) []) (Yl 49 a1) (Xx (hR.B4 h1)) ?_;cases h;exact rfl
 ·obtain ⟨n,o⟩:=a1;dsimp only at h;refine rg L 202 [] [] [(1,(X5 (.agg (Aj n)) [(0,.raw (Af o))]))] (Xx (hR.B4 h1)) ?_;refine Xw <| Xr (Xn.trans (Xn.kk [0,1,2,3,8,9] [0,200,204]) (Xn.rr [(0,0),(200,21300),(204,21301)])) ?_;refine kp (S':=⟨[(0,.P 0),(1,.cv (.fn (.func 137) [.P 0] [])),(2,.cv (.ro .Dd p0)),(3,.cv (.ro .Fz p1)),(8,.P 21300),(9,.P 21301)],[(0,.raw (Af o)),(21300,.raw [.I 0,.str [],.I 0,.str [],.N]),(21301,.raw (Aj n))]⟩) ?_;obtain ⟨o1,hp1,h⟩:=X9 h;refine X4 (Q':=fun e S=>False∨((e=.ret∨∃ ch,e=.panic ch)∧∃ a,X3.done a=o1∧Yk P V Tryz.f62 (Cc.rep p0 p1 p2 a) (Cc.post p0 p1 p2 a) e S)) (Yb (fun k S=>∃ c:List Ar,∃ d:Int,∃ f:Int,∃ g:List UInt8,∃ i:Int,∃ j:List UInt8,∃ l:List Aa,S=⟨[(0,.P 0),(1,.cv (.fn (.func 137) [.P 0] [])),(2,.cv (.ro .Dd p0)),(3,.cv (.ro .Fz p1)),(8,.P 21300),(9,.P 21301)],[(0,.raw [.ro .Ao c,.I d]),(21300,.raw [.I 0,.str [],.I 0,.str [],.N]),(21301,.raw [.I f,.str g,.I i,.str j,.ro .Ae l])]⟩∧Cc.l6 K R p0 p1 k c d f g i j l=some o1) ?_ ⟨_,_,_,_,_,_,_,rfl,hp1⟩) ?_
  ·clear h hp1;intro k S hS;obtain ⟨c,d,f,g,i,j,l,rfl,h⟩:=hS;cases k with
   | zero=>cases h
   | succ k =>
   unfold Cc.l6 at h;refine Xw <| Xo ?_;obtain ⟨⟨q,m,s⟩,h2,h⟩:=bind_some h;dsimp only at h;refine rg L 207 [] [] [(3,(X5 (.tup [.I q,.B m]) [(0,.raw (Af s))]))] (Xx (Cd.okE h2)) ?_;refine Xo <| Xy L 217 ?_;rcases Xp h with ⟨c1,h⟩ |⟨c1,h⟩
   ·refine ff (b:=(!m)) (congrArg Bool.not (c1)) ?_;refine Xu ?_;obtain ⟨a3,h3,h⟩:=bind_some h;rcases a3 with a3 | a3
    ·dsimp only at h;refine qP L mixed 223 [] [] [] [0,2] 3 (X5 (.tup []) []) (Yl 49 a3) (Zb (hR.B4 h3) (hR.B4 h3)) ?_;cases h;exact .inr ⟨.inr ⟨_,rfl⟩,_,rfl,rfl⟩
    ·obtain ⟨t,p⟩:=a3;dsimp only at h;obtain ⟨a4,h4,h⟩:=bind_some h;refine hB L mixed 223 [] [(5,.agg (Aj a4))] [(3,(X5 (.agg (Aj t)) [(0,.raw (Af p))]))] [0,2] 2 (Xt (hR.B4 h3) (Xt (C1.ok h4) (Xt trivial (Xt (hR.B4 h3) (Xt (C1.ok h4) (Xx trivial)))))) (S':=⟨[(0,.P 0),(1,.cv (.fn (.func 137) [.P 0] [])),(2,.cv (.ro .Dd p0)),(3,.cv (.ro .Fz p1)),(8,.P 21300),(9,.P 21301)],[(0,.raw (Af p)),(21300,.raw [.I 0,.str [],.I 0,.str [],.N]),(21301,.raw (Aj a4))]⟩) ?_;exact ⟨k,Nat.lt_succ_self k,_,_,_,_,_,_,_,rfl,h⟩
   refine tt (b:=(!m)) (congrArg Bool.not (eq_false_of_ne_true c1)) ?_;refine Xy L 220 <| Xr (Xn.trans (Xn.kk [8] [0,21300]) (Xn.rr [(0,0),(21300,100)])) ?_;refine Xq ?_;cases h;exact .inr ⟨.inl rfl,_,rfl,Zm⟩
  ·rintro e S (hf |⟨he,a,rfl,hr⟩)
   ·exact hf.elim
   ·rcases h with ⟨_,e1,h⟩ |⟨_,e1,h⟩
    ·have e2:=X3.done.inj e1;subst e2;subst h;rcases he with rfl |⟨ch,rfl⟩
     ·exact ⟨_,Xn.refl,hr⟩
     ·exact ⟨_,Xn.refl,hr⟩
    ·cases e1
def Cg.F (K:Nat) (R:Ai) (p0:Ab):Option (Int ⊕ (Aa×Ab)):=(Option.bind (R.Cc ([([43]:List UInt8),([45]:List UInt8)]:List (List UInt8)) ([18,19]:List Int) p0) (fun a1=>match a1 with |(Sum.inl a1)=>some (Sum.inl a1) |(Sum.inr (a,b))=>some (Sum.inr (a,b))))
theorem Cg.body {Γ:Yg} {K:Nat} {R:Ai} (hR:R.Ok) {p0:Ab} {r:Int ⊕ (Aa×Ab)} (h:Cg.F K R p0=some r):Yc V P 9 100 Γ (Tryz.f122.body.getD .skip) (Yk P V Tryz.f122 (Cg.rep p0 r) (Cg.post p0 r)) ⟨X0 0 [.P 0],[(0,.raw (Af p0))]⟩:=by
 unfold Cg.F at h;refine Xy L 200 <| Xo ?_;obtain ⟨a1,h1,h⟩:=bind_some h;rcases a1 with a1 | a1
 ·dsimp only at h;refine qn L 202 [] [] [] 5 (X5 (.tup []) []) (Yl 49 a1) (Xx (hR.Cc h1)) ?_;cases h;exact rfl
 ·obtain ⟨a,b⟩:=a1;dsimp only at h;refine rg L 202 [] [] [(5,(X5 (.agg (Aj a)) [(0,.raw (Af b))]))] (Xx (hR.Cc h1)) ?_;refine Xr (Xn.trans (Xn.kk [2] [0,200]) (Xn.rr [(0,0),(200,100)])) ?_;refine Xq ?_;cases h;exact Zm
def B3.F (K:Nat) (R:Ai) (p0:Ab):Option (Int ⊕ (Aa×Ab)):=(Option.bind (Ap K ([110,111,116]:List UInt8) p0) (fun (f,d)=>(if f=true then (Option.bind (R.B3 d) (fun a2=>match a2 with |(Sum.inl a2)=>some (Sum.inl a2) |(Sum.inr (b,g))=>(Option.bind (C1 K 13 ([(⟨b.Op,b.Name,b.Int,b.Text,b.Kids⟩:Aa)]:List Aa)) (fun a3=>some (Sum.inr (a3,g)))))) else (Option.bind (R.Cg d) (fun a4=>match a4 with |(Sum.inl a4)=>some (Sum.inl a4) |(Sum.inr (a,h))=>(Option.bind (Cd K ([([60]:List UInt8),([60,61]:List UInt8),([62]:List UInt8),([62,61]:List UInt8),([61,61]:List UInt8),([33,61]:List UInt8)]:List (List UInt8)) ([20,21,22,23,24,25]:List Int) h) (fun (i,j,e)=>(if j=true then (Option.bind (R.Cg e) (fun a6=>match a6 with |(Sum.inl a6)=>some (Sum.inl a6) |(Sum.inr (c,k))=>(Option.bind (C1 K i ([(⟨a.Op,a.Name,a.Int,a.Text,a.Kids⟩:Aa),(⟨c.Op,c.Name,c.Int,c.Text,c.Kids⟩:Aa)]:List Aa)) (fun a7=>some (Sum.inr (a7,k)))))) else some (Sum.inr (a,e))))))))))
theorem B3.body {Γ:Yg} {K:Nat} {R:Ai} (hR:R.Ok) {p0:Ab} {r:Int ⊕ (Aa×Ab)} (h:B3.F K R p0=some r):Yc V P 29 100 Γ (Tryz.f93.body.getD .skip) (Yk P V Tryz.f93 (B3.rep p0 r) (B3.post p0 r)) ⟨X0 0 [.P 0],[(0,.raw (Af p0))]⟩:=by
 unfold B3.F at h;refine Xy L 200 <| Xo <| Xo ?_;obtain ⟨⟨b,c⟩,h1,h⟩:=bind_some h;dsimp only at h;refine rg L 202 [] [] [(1,(X5 (.B b) [(0,.raw (Af c))]))] (Xx (Ap.okE h1)) ?_;rcases Xp h with ⟨c1,h⟩ |⟨c1,h⟩
 ·refine tt c1 <| Xo ?_;obtain ⟨a2,h2,h⟩:=bind_some h;rcases a2 with a2 | a2
  ·dsimp only at h;refine qn L 205 [] [] [] 1 (X5 (.tup []) []) (Yl 49 a2) (Xx (hR.B3 h2)) ?_;cases h;exact rfl
  ·obtain ⟨d,e⟩:=a2;dsimp only at h;obtain ⟨a3,h3,h⟩:=bind_some h;refine rg L 205 [] [(3,.agg (Aj a3))] [(1,(X5 (.agg (Aj d)) [(0,.raw (Af e))]))] (Xt (hR.B3 h2) (Xt (C1.ok h3) (Xx trivial))) ?_;refine Xr (Xn.trans (Xn.kk [2] [0,200]) (Xn.rr [(0,0),(200,100)])) ?_;refine Xq ?_;cases h;exact Zm
 refine fN c1 <| Xu <| Xo ?_;obtain ⟨a4,h4,h⟩:=bind_some h;rcases a4 with a4 | a4
 ·dsimp only at h;refine qn L 211 [] [] [] 1 (X5 (.tup []) []) (Yl 49 a4) (Xx (hR.Cg h4)) ?_;cases h;exact rfl
 ·obtain ⟨f,g⟩:=a4;dsimp only at h;refine rg L 211 [] [] [(1,(X5 (.agg (Aj f)) [(0,.raw (Af g))]))] (Xx (hR.Cg h4)) ?_;refine Xo <| Xo ?_;obtain ⟨⟨i,j,k⟩,h5,h⟩:=bind_some h;dsimp only at h;refine rg L 216 [] [] [(3,(X5 (.tup [.I i,.B j]) [(0,.raw (Af k))]))] (Xx (Cd.okE h5)) ?_;refine Xy L 226 ?_;rcases Xp h with ⟨c2,h⟩ |⟨c2,h⟩
  ·refine tt c2 <| Xo ?_;obtain ⟨a6,h6,h⟩:=bind_some h;rcases a6 with a6 | a6
   ·dsimp only at h;refine qP L mixed 228 [] [] [] [0,2] 3 (X5 (.tup []) []) (Yl 49 a6) (Zb (hR.Cg h6) (hR.Cg h6)) ?_;cases h;exact rfl
   ·obtain ⟨l,a⟩:=a6;dsimp only at h;obtain ⟨a7,h7,h⟩:=bind_some h;refine hB L mixed 228 [] [(5,.agg (Aj a7))] [(3,(X5 (.agg (Aj l)) [(0,.raw (Af a))]))] [0,2] 2 (Xt (hR.Cg h6) (Xt (C1.ok h7) (Xt trivial (Xt (hR.Cg h6) (Xt (C1.ok h7) (Xx trivial)))))) (S':=⟨[(2,.P 200)],[(0,.raw (Af a)),(200,.raw (Aj a7))]⟩) ?_;refine Xr (Xn.trans (Xn.kk [2] [0,200]) (Xn.rr [(0,0),(200,100)])) ?_;refine Xq ?_;cases h;exact Zm
  refine fN c2 <| Xu <| Xy L 236 <| Xr (Xn.trans (Xn.kk [2] [0,200]) (Xn.rr [(0,0),(200,100)])) ?_;refine Xq ?_;cases h;exact Zm
def B9.l6 (K:Nat) (R:Ai) (p0:List (List UInt8)) (p1:List Int):Nat→(List Ar)→Int→Int→(List UInt8)→Int→(List UInt8)→(List Aa)→Option (X3 (Int ⊕ (Aa×Ab)) Unit)
 | 0,_,_,_,_,_,_,_=>none
 | k+1,g,h,a,b,c,d,e=>(Option.bind (Cd K p0 p1 (⟨g,h⟩:Ab)) (fun (n,o,j)=>(if o=true then (Option.bind (R.B3 j) (fun a3=>match a3 with |(Sum.inl a3)=>some (X3.done (Sum.inl a3)) |(Sum.inr (f,m))=>(Option.bind (C1 K n ([(⟨a,b,c,d,e⟩:Aa),(⟨f.Op,f.Name,f.Int,f.Text,f.Kids⟩:Aa)]:List Aa)) (fun a4=>B9.l6 K R p0 p1 k m.l m.i a4.Op a4.Name a4.Int a4.Text a4.Kids)))) else some (X3.done (Sum.inr ((⟨a,b,c,d,e⟩:Aa),j))))))
def B9.F (K:Nat) (R:Ai) (p0:List (List UInt8)) (p1:List Int) (p2:Ab):Option (Int ⊕ (Aa×Ab)):=(Option.bind (R.B3 p2) (fun a1=>match a1 with |(Sum.inl a1)=>some (Sum.inl a1) |(Sum.inr (a,b))=>(obind (B9.l6 K R p0 p1 K b.l b.i a.Op a.Name a.Int a.Text a.Kids:Option (X3 (Int ⊕ (Aa×Ab)) Unit)) (fun r=>r) (fun _=>none))))
theorem B9.body {Γ:Yg} {K:Nat} {R:Ai} (hR:R.Ok) {p0:List (List UInt8)} {p1:List Int} {p2:Ab} {r:Int ⊕ (Aa×Ab)} (h:B9.F K R p0 p1 p2=some r):Yc V P 30 100 Γ (Tryz.f62.body.getD .skip) (Yk P V Tryz.f62 (B9.rep p0 p1 p2 r) (B9.post p0 p1 p2 r)) ⟨X0 0 [.P 0,.cv (.fn (.func 93) [.P 0] []),.cv (.ro .Dd p0),.cv (.ro .Fz p1)],[(0,.raw (Af p2))]⟩:=by
 unfold B9.F at h;refine Xy L 200 <| Xo ?_;obtain ⟨a1,h1,h⟩:=bind_some h;rcases a1 with a1 | a1
 ·dsimp only at h;refine qn L 202 [] [] [] 1 (X5 (.tup []) []) (Yl 49 a1) (Xx (hR.B3 h1)) ?_;cases h;exact rfl
 ·obtain ⟨n,o⟩:=a1;dsimp only at h;refine rg L 202 [] [] [(1,(X5 (.agg (Aj n)) [(0,.raw (Af o))]))] (Xx (hR.B3 h1)) ?_;refine Xw <| Xr (Xn.trans (Xn.kk [0,1,2,3,8,9] [0,200,204]) (Xn.rr [(0,0),(200,21300),(204,21301)])) ?_;refine kp (S':=⟨[(0,.P 0),(1,.cv (.fn (.func 93) [.P 0] [])),(2,.cv (.ro .Dd p0)),(3,.cv (.ro .Fz p1)),(8,.P 21300),(9,.P 21301)],[(0,.raw (Af o)),(21300,.raw [.I 0,.str [],.I 0,.str [],.N]),(21301,.raw (Aj n))]⟩) ?_;obtain ⟨o1,hp1,h⟩:=X9 h;refine X4 (Q':=fun e S=>False∨((e=.ret∨∃ ch,e=.panic ch)∧∃ a,X3.done a=o1∧Yk P V Tryz.f62 (B9.rep p0 p1 p2 a) (B9.post p0 p1 p2 a) e S)) (Yb (fun k S=>∃ c:List Ar,∃ d:Int,∃ f:Int,∃ g:List UInt8,∃ i:Int,∃ j:List UInt8,∃ l:List Aa,S=⟨[(0,.P 0),(1,.cv (.fn (.func 93) [.P 0] [])),(2,.cv (.ro .Dd p0)),(3,.cv (.ro .Fz p1)),(8,.P 21300),(9,.P 21301)],[(0,.raw [.ro .Ao c,.I d]),(21300,.raw [.I 0,.str [],.I 0,.str [],.N]),(21301,.raw [.I f,.str g,.I i,.str j,.ro .Ae l])]⟩∧B9.l6 K R p0 p1 k c d f g i j l=some o1) ?_ ⟨_,_,_,_,_,_,_,rfl,hp1⟩) ?_
  ·clear h hp1;intro k S hS;obtain ⟨c,d,f,g,i,j,l,rfl,h⟩:=hS;cases k with
   | zero=>cases h
   | succ k =>
   unfold B9.l6 at h;refine Xw <| Xo ?_;obtain ⟨⟨q,m,s⟩,h2,h⟩:=bind_some h;dsimp only at h;refine rg L 207 [] [] [(3,(X5 (.tup [.I q,.B m]) [(0,.raw (Af s))]))] (Xx (Cd.okE h2)) ?_;refine Xo <| Xy L 217 ?_;rcases Xp h with ⟨c1,h⟩ |⟨c1,h⟩
   ·refine ff (b:=(!m)) (congrArg Bool.not (c1)) ?_;refine Xu ?_;obtain ⟨a3,h3,h⟩:=bind_some h;rcases a3 with a3 | a3
    ·dsimp only at h;refine qP L mixed 223 [] [] [] [0,2] 3 (X5 (.tup []) []) (Yl 49 a3) (Zb (hR.B3 h3) (hR.B3 h3)) ?_;cases h;exact .inr ⟨.inr ⟨_,rfl⟩,_,rfl,rfl⟩
    ·obtain ⟨t,p⟩:=a3;dsimp only at h;obtain ⟨a4,h4,h⟩:=bind_some h;refine hB L mixed 223 [] [(5,.agg (Aj a4))] [(3,(X5 (.agg (Aj t)) [(0,.raw (Af p))]))] [0,2] 2 (Xt (hR.B3 h3) (Xt (C1.ok h4) (Xt trivial (Xt (hR.B3 h3) (Xt (C1.ok h4) (Xx trivial)))))) (S':=⟨[(0,.P 0),(1,.cv (.fn (.func 93) [.P 0] [])),(2,.cv (.ro .Dd p0)),(3,.cv (.ro .Fz p1)),(8,.P 21300),(9,.P 21301)],[(0,.raw (Af p)),(21300,.raw [.I 0,.str [],.I 0,.str [],.N]),(21301,.raw (Aj a4))]⟩) ?_;exact ⟨k,Nat.lt_succ_self k,_,_,_,_,_,_,_,rfl,h⟩
   refine tt (b:=(!m)) (congrArg Bool.not (eq_false_of_ne_true c1)) ?_;refine Xy L 220 <| Xr (Xn.trans (Xn.kk [8] [0,21300]) (Xn.rr [(0,0),(21300,100)])) ?_;refine Xq ?_;cases h;exact .inr ⟨.inl rfl,_,rfl,Zm⟩
  ·rintro e S (hf |⟨he,a,rfl,hr⟩)
   ·exact hf.elim
   ·rcases h with ⟨_,e1,h⟩ |⟨_,e1,h⟩
    ·have e2:=X3.done.inj e1;subst e2;subst h;rcases he with rfl |⟨ch,rfl⟩
     ·exact ⟨_,Xn.refl,hr⟩
     ·exact ⟨_,Xn.refl,hr⟩
    ·cases e1
def Cr.F (K:Nat) (R:Ai) (p0:Ab):Option (Int ⊕ (Aa×Ab)):=(Option.bind (R.B9 ([([97,110,100]:List UInt8)]:List (List UInt8)) ([26]:List Int) p0) (fun a1=>match a1 with |(Sum.inl a1)=>some (Sum.inl a1) |(Sum.inr (a,b))=>some (Sum.inr (a,b))))
theorem Cr.body {Γ:Yg} {K:Nat} {R:Ai} (hR:R.Ok) {p0:Ab} {r:Int ⊕ (Aa×Ab)} (h:Cr.F K R p0=some r):Yc V P 9 100 Γ (Tryz.f63.body.getD .skip) (Yk P V Tryz.f63 (Cr.rep p0 r) (Cr.post p0 r)) ⟨X0 0 [.P 0],[(0,.raw (Af p0))]⟩:=by
 unfold Cr.F at h;refine Xy L 200 <| Xo ?_;obtain ⟨a1,h1,h⟩:=bind_some h;rcases a1 with a1 | a1
 ·dsimp only at h;refine qn L 202 [] [] [] 5 (X5 (.tup []) []) (Yl 49 a1) (Xx (hR.B9 h1)) ?_;cases h;exact rfl
 ·obtain ⟨a,b⟩:=a1;dsimp only at h;refine rg L 202 [] [] [(5,(X5 (.agg (Aj a)) [(0,.raw (Af b))]))] (Xx (hR.B9 h1)) ?_;refine Xr (Xn.trans (Xn.kk [2] [0,200]) (Xn.rr [(0,0),(200,100)])) ?_;refine Xq ?_;cases h;exact Zm
def Ca.l6 (K:Nat) (R:Ai) (p0:List (List UInt8)) (p1:List Int):Nat→(List Ar)→Int→Int→(List UInt8)→Int→(List UInt8)→(List Aa)→Option (X3 (Int ⊕ (Aa×Ab)) Unit)
 | 0,_,_,_,_,_,_,_=>none
 | k+1,g,h,a,b,c,d,e=>(Option.bind (Cd K p0 p1 (⟨g,h⟩:Ab)) (fun (n,o,j)=>(if o=true then (Option.bind (R.Cr j) (fun a3=>match a3 with |(Sum.inl a3)=>some (X3.done (Sum.inl a3)) |(Sum.inr (f,m))=>(Option.bind (C1 K n ([(⟨a,b,c,d,e⟩:Aa),(⟨f.Op,f.Name,f.Int,f.Text,f.Kids⟩:Aa)]:List Aa)) (fun a4=>Ca.l6 K R p0 p1 k m.l m.i a4.Op a4.Name a4.Int a4.Text a4.Kids)))) else some (X3.done (Sum.inr ((⟨a,b,c,d,e⟩:Aa),j))))))
def Ca.F (K:Nat) (R:Ai) (p0:List (List UInt8)) (p1:List Int) (p2:Ab):Option (Int ⊕ (Aa×Ab)):=(Option.bind (R.Cr p2) (fun a1=>match a1 with |(Sum.inl a1)=>some (Sum.inl a1) |(Sum.inr (a,b))=>(obind (Ca.l6 K R p0 p1 K b.l b.i a.Op a.Name a.Int a.Text a.Kids:Option (X3 (Int ⊕ (Aa×Ab)) Unit)) (fun r=>r) (fun _=>none))))
theorem Ca.body {Γ:Yg} {K:Nat} {R:Ai} (hR:R.Ok) {p0:List (List UInt8)} {p1:List Int} {p2:Ab} {r:Int ⊕ (Aa×Ab)} (h:Ca.F K R p0 p1 p2=some r):Yc V P 30 100 Γ (Tryz.f62.body.getD .skip) (Yk P V Tryz.f62 (Ca.rep p0 p1 p2 r) (Ca.post p0 p1 p2 r)) ⟨X0 0 [.P 0,.cv (.fn (.func 63) [.P 0] []),.cv (.ro .Dd p0),.cv (.ro .Fz p1)],[(0,.raw (Af p2))]⟩:=by
 unfold Ca.F at h;refine Xy L 200 <| Xo ?_;obtain ⟨a1,h1,h⟩:=bind_some h;rcases a1 with a1 | a1
 ·dsimp only at h;refine qn L 202 [] [] [] 1 (X5 (.tup []) []) (Yl 49 a1) (Xx (hR.Cr h1)) ?_;cases h;exact rfl
 ·obtain ⟨n,o⟩:=a1;dsimp only at h;refine rg L 202 [] [] [(1,(X5 (.agg (Aj n)) [(0,.raw (Af o))]))] (Xx (hR.Cr h1)) ?_;refine Xw <| Xr (Xn.trans (Xn.kk [0,1,2,3,8,9] [0,200,204]) (Xn.rr [(0,0),(200,21300),(204,21301)])) ?_;refine kp (S':=⟨[(0,.P 0),(1,.cv (.fn (.func 63) [.P 0] [])),(2,.cv (.ro .Dd p0)),(3,.cv (.ro .Fz p1)),(8,.P 21300),(9,.P 21301)],[(0,.raw (Af o)),(21300,.raw [.I 0,.str [],.I 0,.str [],.N]),(21301,.raw (Aj n))]⟩) ?_;obtain ⟨o1,hp1,h⟩:=X9 h;refine X4 (Q':=fun e S=>False∨((e=.ret∨∃ ch,e=.panic ch)∧∃ a,X3.done a=o1∧Yk P V Tryz.f62 (Ca.rep p0 p1 p2 a) (Ca.post p0 p1 p2 a) e S)) (Yb (fun k S=>∃ c:List Ar,∃ d:Int,∃ f:Int,∃ g:List UInt8,∃ i:Int,∃ j:List UInt8,∃ l:List Aa,S=⟨[(0,.P 0),(1,.cv (.fn (.func 63) [.P 0] [])),(2,.cv (.ro .Dd p0)),(3,.cv (.ro .Fz p1)),(8,.P 21300),(9,.P 21301)],[(0,.raw [.ro .Ao c,.I d]),(21300,.raw [.I 0,.str [],.I 0,.str [],.N]),(21301,.raw [.I f,.str g,.I i,.str j,.ro .Ae l])]⟩∧Ca.l6 K R p0 p1 k c d f g i j l=some o1) ?_ ⟨_,_,_,_,_,_,_,rfl,hp1⟩) ?_
  ·clear h hp1;intro k S hS;obtain ⟨c,d,f,g,i,j,l,rfl,h⟩:=hS;cases k with
   | zero=>cases h
   | succ k =>
   unfold Ca.l6 at h;refine Xw <| Xo ?_;obtain ⟨⟨q,m,s⟩,h2,h⟩:=bind_some h;dsimp only at h;refine rg L 207 [] [] [(3,(X5 (.tup [.I q,.B m]) [(0,.raw (Af s))]))] (Xx (Cd.okE h2)) ?_;refine Xo <| Xy L 217 ?_;rcases Xp h with ⟨c1,h⟩ |⟨c1,h⟩
   ·refine ff (b:=(!m)) (congrArg Bool.not (c1)) ?_;refine Xu ?_;obtain ⟨a3,h3,h⟩:=bind_some h;rcases a3 with a3 | a3
    ·dsimp only at h;refine qP L mixed 223 [] [] [] [0,2] 3 (X5 (.tup []) []) (Yl 49 a3) (Zb (hR.Cr h3) (hR.Cr h3)) ?_;cases h;exact .inr ⟨.inr ⟨_,rfl⟩,_,rfl,rfl⟩
    ·obtain ⟨t,p⟩:=a3;dsimp only at h;obtain ⟨a4,h4,h⟩:=bind_some h;refine hB L mixed 223 [] [(5,.agg (Aj a4))] [(3,(X5 (.agg (Aj t)) [(0,.raw (Af p))]))] [0,2] 2 (Xt (hR.Cr h3) (Xt (C1.ok h4) (Xt trivial (Xt (hR.Cr h3) (Xt (C1.ok h4) (Xx trivial)))))) (S':=⟨[(0,.P 0),(1,.cv (.fn (.func 63) [.P 0] [])),(2,.cv (.ro .Dd p0)),(3,.cv (.ro .Fz p1)),(8,.P 21300),(9,.P 21301)],[(0,.raw (Af p)),(21300,.raw [.I 0,.str [],.I 0,.str [],.N]),(21301,.raw (Aj a4))]⟩) ?_;exact ⟨k,Nat.lt_succ_self k,_,_,_,_,_,_,_,rfl,h⟩
   refine tt (b:=(!m)) (congrArg Bool.not (eq_false_of_ne_true c1)) ?_;refine Xy L 220 <| Xr (Xn.trans (Xn.kk [8] [0,21300]) (Xn.rr [(0,0),(21300,100)])) ?_;refine Xq ?_;cases h;exact .inr ⟨.inl rfl,_,rfl,Zm⟩
  ·rintro e S (hf |⟨he,a,rfl,hr⟩)
   ·exact hf.elim
   ·rcases h with ⟨_,e1,h⟩ |⟨_,e1,h⟩
    ·have e2:=X3.done.inj e1;subst e2;subst h;rcases he with rfl |⟨ch,rfl⟩
     ·exact ⟨_,Xn.refl,hr⟩
     ·exact ⟨_,Xn.refl,hr⟩
    ·cases e1
def Av.F (K:Nat) (R:Ai) (p0:Ab):Option (Int ⊕ (Aa×Ab)):=(Option.bind (R.Ca ([([111,114]:List UInt8)]:List (List UInt8)) ([27]:List Int) p0) (fun a1=>match a1 with |(Sum.inl a1)=>some (Sum.inl a1) |(Sum.inr (a,b))=>some (Sum.inr (a,b))))
theorem Av.body {Γ:Yg} {K:Nat} {R:Ai} (hR:R.Ok) {p0:Ab} {r:Int ⊕ (Aa×Ab)} (h:Av.F K R p0=some r):Yc V P 9 100 Γ (Tryz.f32.body.getD .skip) (Yk P V Tryz.f32 (Av.rep p0 r) (Av.post p0 r)) ⟨X0 0 [.P 0],[(0,.raw (Af p0))]⟩:=by
 unfold Av.F at h;refine Xy L 200 <| Xo ?_;obtain ⟨a1,h1,h⟩:=bind_some h;rcases a1 with a1 | a1
 ·dsimp only at h;refine qn L 202 [] [] [] 5 (X5 (.tup []) []) (Yl 49 a1) (Xx (hR.Ca h1)) ?_;cases h;exact rfl
 ·obtain ⟨a,b⟩:=a1;dsimp only at h;refine rg L 202 [] [] [(5,(X5 (.agg (Aj a)) [(0,.raw (Af b))]))] (Xx (hR.Ca h1)) ?_;refine Xr (Xn.trans (Xn.kk [2] [0,200]) (Xn.rr [(0,0),(200,100)])) ?_;refine Xq ?_;cases h;exact Zm
def Ai.upto (K:Nat):Nat→Ai
 | 0=>⟨fun _ _=>none,fun _ _ _=>none,fun _=>none,fun _ _=>none,fun _=>none,fun _=>none,fun _=>none,fun _ _ _=>none,fun _=>none,fun _ _ _=>none,fun _=>none,fun _=>none,fun _ _ _=>none,fun _=>none,fun _ _ _=>none,fun _=>none⟩
 | k+1=>⟨Bm.F K (Ai.upto K k),Bv.F K (Ai.upto K k),Ch.F K (Ai.upto K k),B7.F K (Ai.upto K k),Cb.F K (Ai.upto K k),Bk.F K (Ai.upto K k),Bi.F K (Ai.upto K k),B8.F K (Ai.upto K k),B4.F K (Ai.upto K k),Cc.F K (Ai.upto K k),Cg.F K (Ai.upto K k),B3.F K (Ai.upto K k),B9.F K (Ai.upto K k),Cr.F K (Ai.upto K k),Ca.F K (Ai.upto K k),Av.F K (Ai.upto K k)⟩
theorem Ai.upto_ok (K:Nat):∀ k,(Ai.upto K k).Ok
 | 0=>⟨fun h=>(by cases h),fun h=>(by cases h),fun h=>(by cases h),fun h=>(by cases h),fun h=>(by cases h),fun h=>(by cases h),fun h=>(by cases h),fun h=>(by cases h),fun h=>(by cases h),fun h=>(by cases h),fun h=>(by cases h),fun h=>(by cases h),fun h=>(by cases h),fun h=>(by cases h),fun h=>(by cases h),fun h=>(by cases h)⟩
 | k+1=>⟨fun {p0 p1 r} h=>xo (fn:=Tryz.f48) (n:=25) (m:=100) fun Γ=>Bm.body (K:=K) (Ai.upto_ok K k) h,fun {p0 p1 p2 r} h=>xo (fn:=Tryz.f106) (n:=16) (m:=100) fun Γ=>Bv.body (K:=K) (Ai.upto_ok K k) h,fun {p0 r} h=>xo (fn:=Tryz.f166) (n:=21) (m:=100) fun Γ=>Ch.body (K:=K) (Ai.upto_ok K k) h,fun {p0 p1 r} h=>xo (fn:=Tryz.f48) (n:=25) (m:=100) fun Γ=>B7.body (K:=K) (Ai.upto_ok K k) h,fun {p0 r} h=>xo (fn:=Tryz.f163) (n:=51) (m:=100) fun Γ=>Cb.body (K:=K) (Ai.upto_ok K k) h,fun {p0 r} h=>xo (fn:=Tryz.f156) (n:=25) (m:=100) fun Γ=>Bk.body (K:=K) (Ai.upto_ok K k) h,fun {p0 r} h=>xo (fn:=Tryz.f146) (n:=26) (m:=100) fun Γ=>Bi.body (K:=K) (Ai.upto_ok K k) h,fun {p0 p1 p2 r} h=>xo (fn:=Tryz.f62) (n:=30) (m:=100) fun Γ=>B8.body (K:=K) (Ai.upto_ok K k) h,fun {p0 r} h=>xo (fn:=Tryz.f137) (n:=9) (m:=100) fun Γ=>B4.body (K:=K) (Ai.upto_ok K k) h,fun {p0 p1 p2 r} h=>xo (fn:=Tryz.f62) (n:=30) (m:=100) fun Γ=>Cc.body (K:=K) (Ai.upto_ok K k) h,fun {p0 r} h=>xo (fn:=Tryz.f122) (n:=9) (m:=100) fun Γ=>Cg.body (K:=K) (Ai.upto_ok K k) h,fun {p0 r} h=>xo (fn:=Tryz.f93) (n:=29) (m:=100) fun Γ=>B3.body (K:=K) (Ai.upto_ok K k) h,fun {p0 p1 p2 r} h=>xo (fn:=Tryz.f62) (n:=30) (m:=100) fun Γ=>B9.body (K:=K) (Ai.upto_ok K k) h,fun {p0 r} h=>xo (fn:=Tryz.f63) (n:=9) (m:=100) fun Γ=>Cr.body (K:=K) (Ai.upto_ok K k) h,fun {p0 p1 p2 r} h=>xo (fn:=Tryz.f62) (n:=30) (m:=100) fun Γ=>Ca.body (K:=K) (Ai.upto_ok K k) h,fun {p0 r} h=>xo (fn:=Tryz.f32) (n:=9) (m:=100) fun Γ=>Av.body (K:=K) (Ai.upto_ok K k) h⟩
def Bm (K:Nat) (p0:List UInt8) (p1:Ab):Option (((List Aa)×Ab) ⊕ Int):=(Ai.upto K K).Bm p0 p1
theorem Bm.okE {K:Nat} {p0:List UInt8} {p1:Ab} {r:((List Aa)×Ab) ⊕ Int} (h:Bm K p0 p1=some r):Yj V P 48 [.P 0,.cv (.str p0),.cv (.fn (.func 32) [.P 0] [])] [(0,.raw (Af p1))] [0] (Bm.post p0 p1 r) (Bm.rep p0 p1 r):=(Ai.upto_ok K K).Bm h
def Bv (K:Nat) (p0:Int) (p1:List UInt8) (p2:Ab):Option ((Aa×Ab) ⊕ Int):=(Ai.upto K K).Bv p0 p1 p2
theorem Bv.okE {K:Nat} {p0:Int} {p1:List UInt8} {p2:Ab} {r:(Aa×Ab) ⊕ Int} (h:Bv K p0 p1 p2=some r):Yj V P 106 [.P 0,.I p0,.cv (.str p1)] [(0,.raw (Af p2))] [0] (Bv.post p0 p1 p2 r) (Bv.rep p0 p1 p2 r):=(Ai.upto_ok K K).Bv h
def Ch (K:Nat) (p0:Ab):Option (Int ⊕ (Aa×Ab)):=(Ai.upto K K).Ch p0
theorem Ch.okE {K:Nat} {p0:Ab} {r:Int ⊕ (Aa×Ab)} (h:Ch K p0=some r):Yj V P 166 [.P 0] [(0,.raw (Af p0))] [0] (Ch.post p0 r) (Ch.rep p0 r):=(Ai.upto_ok K K).Ch h
def B7 (K:Nat) (p0:List UInt8) (p1:Ab):Option (((List Aa)×Ab) ⊕ Int):=(Ai.upto K K).B7 p0 p1
theorem B7.okE {K:Nat} {p0:List UInt8} {p1:Ab} {r:((List Aa)×Ab) ⊕ Int} (h:B7 K p0 p1=some r):Yj V P 48 [.P 0,.cv (.str p0),.cv (.fn (.func 166) [.P 0] [])] [(0,.raw (Af p1))] [0] (B7.post p0 p1 r) (B7.rep p0 p1 r):=(Ai.upto_ok K K).B7 h
def Cb (K:Nat) (p0:Ab):Option ((Aa×Ab) ⊕ Int):=(Ai.upto K K).Cb p0
theorem Cb.okE {K:Nat} {p0:Ab} {r:(Aa×Ab) ⊕ Int} (h:Cb K p0=some r):Yj V P 163 [.P 0] [(0,.raw (Af p0))] [0] (Cb.post p0 r) (Cb.rep p0 r):=(Ai.upto_ok K K).Cb h
def Bk (K:Nat) (p0:Ab):Option (Int ⊕ (Aa×Ab)):=(Ai.upto K K).Bk p0
theorem Bk.okE {K:Nat} {p0:Ab} {r:Int ⊕ (Aa×Ab)} (h:Bk K p0=some r):Yj V P 156 [.P 0] [(0,.raw (Af p0))] [0] (Bk.post p0 r) (Bk.rep p0 r):=(Ai.upto_ok K K).Bk h
def Bi (K:Nat) (p0:Ab):Option (Int ⊕ (Aa×Ab)):=(Ai.upto K K).Bi p0
theorem Bi.okE {K:Nat} {p0:Ab} {r:Int ⊕ (Aa×Ab)} (h:Bi K p0=some r):Yj V P 146 [.P 0] [(0,.raw (Af p0))] [0] (Bi.post p0 r) (Bi.rep p0 r):=(Ai.upto_ok K K).Bi h
def B8 (K:Nat) (p0:List (List UInt8)) (p1:List Int) (p2:Ab):Option (Int ⊕ (Aa×Ab)):=(Ai.upto K K).B8 p0 p1 p2
theorem B8.okE {K:Nat} {p0:List (List UInt8)} {p1:List Int} {p2:Ab} {r:Int ⊕ (Aa×Ab)} (h:B8 K p0 p1 p2=some r):Yj V P 62 [.P 0,.cv (.fn (.func 146) [.P 0] []),.cv (.ro .Dd p0),.cv (.ro .Fz p1)] [(0,.raw (Af p2))] [0] (B8.post p0 p1 p2 r) (B8.rep p0 p1 p2 r):=(Ai.upto_ok K K).B8 h
def B4 (K:Nat) (p0:Ab):Option (Int ⊕ (Aa×Ab)):=(Ai.upto K K).B4 p0
theorem B4.okE {K:Nat} {p0:Ab} {r:Int ⊕ (Aa×Ab)} (h:B4 K p0=some r):Yj V P 137 [.P 0] [(0,.raw (Af p0))] [0] (B4.post p0 r) (B4.rep p0 r):=(Ai.upto_ok K K).B4 h
def Cc (K:Nat) (p0:List (List UInt8)) (p1:List Int) (p2:Ab):Option (Int ⊕ (Aa×Ab)):=(Ai.upto K K).Cc p0 p1 p2
theorem Cc.okE {K:Nat} {p0:List (List UInt8)} {p1:List Int} {p2:Ab} {r:Int ⊕ (Aa×Ab)} (h:Cc K p0 p1 p2=some r):Yj V P 62 [.P 0,.cv (.fn (.func 137) [.P 0] []),.cv (.ro .Dd p0),.cv (.ro .Fz p1)] [(0,.raw (Af p2))] [0] (Cc.post p0 p1 p2 r) (Cc.rep p0 p1 p2 r):=(Ai.upto_ok K K).Cc h
def Cg (K:Nat) (p0:Ab):Option (Int ⊕ (Aa×Ab)):=(Ai.upto K K).Cg p0
theorem Cg.okE {K:Nat} {p0:Ab} {r:Int ⊕ (Aa×Ab)} (h:Cg K p0=some r):Yj V P 122 [.P 0] [(0,.raw (Af p0))] [0] (Cg.post p0 r) (Cg.rep p0 r):=(Ai.upto_ok K K).Cg h
def B3 (K:Nat) (p0:Ab):Option (Int ⊕ (Aa×Ab)):=(Ai.upto K K).B3 p0
theorem B3.okE {K:Nat} {p0:Ab} {r:Int ⊕ (Aa×Ab)} (h:B3 K p0=some r):Yj V P 93 [.P 0] [(0,.raw (Af p0))] [0] (B3.post p0 r) (B3.rep p0 r):=(Ai.upto_ok K K).B3 h
def B9 (K:Nat) (p0:List (List UInt8)) (p1:List Int) (p2:Ab):Option (Int ⊕ (Aa×Ab)):=(Ai.upto K K).B9 p0 p1 p2
theorem B9.okE {K:Nat} {p0:List (List UInt8)} {p1:List Int} {p2:Ab} {r:Int ⊕ (Aa×Ab)} (h:B9 K p0 p1 p2=some r):Yj V P 62 [.P 0,.cv (.fn (.func 93) [.P 0] []),.cv (.ro .Dd p0),.cv (.ro .Fz p1)] [(0,.raw (Af p2))] [0] (B9.post p0 p1 p2 r) (B9.rep p0 p1 p2 r):=(Ai.upto_ok K K).B9 h
def Cr (K:Nat) (p0:Ab):Option (Int ⊕ (Aa×Ab)):=(Ai.upto K K).Cr p0
theorem Cr.okE {K:Nat} {p0:Ab} {r:Int ⊕ (Aa×Ab)} (h:Cr K p0=some r):Yj V P 63 [.P 0] [(0,.raw (Af p0))] [0] (Cr.post p0 r) (Cr.rep p0 r):=(Ai.upto_ok K K).Cr h
def Ca (K:Nat) (p0:List (List UInt8)) (p1:List Int) (p2:Ab):Option (Int ⊕ (Aa×Ab)):=(Ai.upto K K).Ca p0 p1 p2
theorem Ca.okE {K:Nat} {p0:List (List UInt8)} {p1:List Int} {p2:Ab} {r:Int ⊕ (Aa×Ab)} (h:Ca K p0 p1 p2=some r):Yj V P 62 [.P 0,.cv (.fn (.func 63) [.P 0] []),.cv (.ro .Dd p0),.cv (.ro .Fz p1)] [(0,.raw (Af p2))] [0] (Ca.post p0 p1 p2 r) (Ca.rep p0 p1 p2 r):=(Ai.upto_ok K K).Ca h
def Av (K:Nat) (p0:Ab):Option (Int ⊕ (Aa×Ab)):=(Ai.upto K K).Av p0
theorem Av.okE {K:Nat} {p0:Ab} {r:Int ⊕ (Aa×Ab)} (h:Av K p0=some r):Yj V P 32 [.P 0] [(0,.raw (Af p0))] [0] (Av.post p0 r) (Av.rep p0 r):=(Ai.upto_ok K K).Av h
structure Ep where
 Dc:Aa→Option Int
structure Ep.Ok (R:Ep):Prop where
 Dc:∀ {p0:Aa} {r:Int},R.Dc p0=some r→Xz V P 21 [.agg (Aj p0)] [] [] (.I r) []
theorem Dc.okR {R:Ep} (hR:R.Ok) {p0:Aa} {r:Int} (h:R.Dc p0=some r):X6 V P 21 [.agg (Aj p0)] (.I r):=(hR.Dc h).pcall (by kernel_rfl)
def Dc.l9 (K:Nat) (R:Ep) (p0:Aa):Nat→Int→Int→Option Int
 | 0,_,_=>none
 | k+1,b,a=>(if a <(p0.Kids.length:Int) then (if (0:Int)≤a∧(a:Int) <(p0.Kids.length:Int) then (Option.bind (R.Dc (p0.Kids.getD (Int.toNat a) A9)) (fun a1=>Dc.l9 K R p0 k (IntKind.i64.wrap (b+a1)) (IntKind.i64.wrap (a+1)))) else none) else some b)
def Dc.F (K:Nat) (R:Ep) (p0:Aa):Option Int:=(Option.bind (Dc.l9 K R p0 K 1 0:Option Int) (fun a=>some a))
theorem Dc.body {Γ:Yg} {K:Nat} {R:Ep} (hR:R.Ok) {p0:Aa} {r:Int} (h:Dc.F K R p0=some r):Yc V P 19 100 Γ (Tryz.f21.body.getD .skip) (X1 P V Tryz.f21 (.I r) []) ⟨X0 0 [.agg (Aj p0)],[]⟩:=by
 unfold Dc.F at h;refine Xy L 200 <| Xy L 203 <| Xo <| Xy L 205 <| Xw <| kp (S':=⟨[(3,.I 1),(7,.cv (.ro .Ae p0.Kids)),(8,.I (p0.Kids.length:Int)),(9,.I 0)],[]⟩) ?_;obtain ⟨o1,hp1,h⟩:=bind_some h;refine X4 (Q':=fun e S=>(e=.exit 0∧∃ c:Int,S=⟨[(3,.I c)],[]⟩∧c=o1)) (Yb (fun k S=>∃ a:Int,∃ b:Int,S=⟨[(3,.I a),(7,.cv (.ro .Ae p0.Kids)),(8,.I (p0.Kids.length:Int)),(9,.I b)],[]⟩∧Dc.l9 K R p0 k a b=some o1) ?_ ⟨_,_,rfl,hp1⟩) ?_
 ·clear h hp1;intro k S hS;obtain ⟨a,b,rfl,h⟩:=hS;cases k with
  | zero=>cases h
  | succ k =>
  unfold Dc.l9 at h;refine Xy L 210 <| Xo ?_;rcases Xp h with ⟨c1,h⟩ |⟨c1,h⟩
  ·refine tT c1 <| Xu <| Xo <| Xw <| Xo ?_;obtain ⟨g1,h⟩:=Xv h;refine rg L 212 [] [] [] (Zb g1.1 g1.2) ?_;obtain ⟨a1,h1,h⟩:=bind_some h;refine rg L 217 [] [(2,.I a1)] [] (Yw (Dc.okR hR h1)) ?_;refine ar0 L 223 [] [] [] (S':=⟨[(3,.I (IntKind.i64.wrap (a+a1))),(7,.cv (.ro .Ae p0.Kids)),(8,.I (p0.Kids.length:Int)),(9,.I (IntKind.i64.wrap (b+1)))],[]⟩) ?_;exact ⟨k,Nat.lt_succ_self k,_,_,rfl,h⟩
  refine fF c1 <| ex (S':=⟨[(3,.I a)],[]⟩) ?_;cases h;exact ⟨rfl,_,rfl,rfl⟩
 ·rintro e S ⟨rfl,c,rfl,rfl⟩;refine ⟨_,Xn.refl,?_⟩;refine Xy L 226 <| Xq ?_;cases h;exact X7
def Ep.upto (K:Nat):Nat→Ep
 | 0=>⟨fun _=>none⟩
 | k+1=>⟨Dc.F K (Ep.upto K k)⟩
theorem Ep.upto_ok (K:Nat):∀ k,(Ep.upto K k).Ok
 | 0=>⟨fun h=>(by cases h)⟩
 | k+1=>⟨fun {p0 r} h=>eo (fn:=Tryz.f21) (n:=19) (m:=100) fun Γ=>Dc.body (K:=K) (Ep.upto_ok K k) h⟩
def Dc (K:Nat) (p0:Aa):Option Int:=(Ep.upto K K).Dc p0
theorem Dc.okE {K:Nat} {p0:Aa} {r:Int} (h:Dc K p0=some r):Xz V P 21 [.agg (Aj p0)] [] [] (.I r) []:=(Ep.upto_ok K K).Dc h
theorem Dc.ok {K:Nat} {p0:Aa} {r:Int} (h:Dc K p0=some r):X6 V P 21 [.agg (Aj p0)] (.I r):=(Dc.okE h).pcall (by kernel_rfl)
structure Ek where
 Db:Aa→Option Int
structure Ek.Ok (R:Ek):Prop where
 Db:∀ {p0:Aa} {r:Int},R.Db p0=some r→Xz V P 22 [.agg (Aj p0)] [] [] (.I r) []
theorem Db.okR {R:Ek} (hR:R.Ok) {p0:Aa} {r:Int} (h:R.Db p0=some r):X6 V P 22 [.agg (Aj p0)] (.I r):=(hR.Db h).pcall (by kernel_rfl)
def Db.l9 (K:Nat) (R:Ek) (p0:Aa):Nat→Int→Int→Option Int
 | 0,_,_=>none
 | k+1,b,a=>(if a <(p0.Kids.length:Int) then (if (0:Int)≤a∧(a:Int) <(p0.Kids.length:Int) then (Option.bind (R.Db (p0.Kids.getD (Int.toNat a) A9)) (fun a1=>Db.l9 K R p0 k (if a1 > b then a1 else b) (IntKind.i64.wrap (a+1)))) else none) else some b)
def Db.F (K:Nat) (R:Ek) (p0:Aa):Option Int:=(Option.bind (Db.l9 K R p0 K 0 0:Option Int) (fun a=>some (IntKind.i64.wrap (a+1))))
theorem Db.body {Γ:Yg} {K:Nat} {R:Ek} (hR:R.Ok) {p0:Aa} {r:Int} (h:Db.F K R p0=some r):Yc V P 20 100 Γ (Tryz.f22.body.getD .skip) (X1 P V Tryz.f22 (.I r) []) ⟨X0 0 [.agg (Aj p0)],[]⟩:=by
 unfold Db.F at h;refine Xy L 200 <| Xy L 203 <| Xo <| Xy L 205 <| Xw <| kp (S':=⟨[(3,.I 0),(7,.cv (.ro .Ae p0.Kids)),(8,.I (p0.Kids.length:Int)),(9,.I 0)],[]⟩) ?_;obtain ⟨o1,hp1,h⟩:=bind_some h;refine X4 (Q':=fun e S=>(e=.exit 0∧∃ c:Int,S=⟨[(3,.I c)],[]⟩∧c=o1)) (Yb (fun k S=>∃ a:Int,∃ b:Int,S=⟨[(3,.I a),(7,.cv (.ro .Ae p0.Kids)),(8,.I (p0.Kids.length:Int)),(9,.I b)],[]⟩∧Db.l9 K R p0 k a b=some o1) ?_ ⟨_,_,rfl,hp1⟩) ?_
 ·clear h hp1;intro k S hS;obtain ⟨a,b,rfl,h⟩:=hS;cases k with
  | zero=>cases h
  | succ k =>
  unfold Db.l9 at h;refine Xy L 210 <| Xo ?_;rcases Xp h with ⟨c1,h⟩ |⟨c1,h⟩
  ·refine tT c1 <| Xu <| Xo <| Xw <| Xo ?_;obtain ⟨g1,h⟩:=Xv h;refine rg L 212 [] [] [] (Zb g1.1 g1.2) ?_;obtain ⟨a1,h1,h⟩:=bind_some h;refine rg L 217 [] [(2,.I a1)] [] (Yw (Db.okR hR h1)) ?_;refine ar0 L 223 [] [] [] (S':=⟨[(3,.I (if a1 > a then a1 else a)),(7,.cv (.ro .Ae p0.Kids)),(8,.I (p0.Kids.length:Int)),(9,.I (IntKind.i64.wrap (b+1)))],[]⟩) ?_;exact ⟨k,Nat.lt_succ_self k,_,_,rfl,h⟩
  refine fF c1 <| ex (S':=⟨[(3,.I a)],[]⟩) ?_;cases h;exact ⟨rfl,_,rfl,rfl⟩
 ·rintro e S ⟨rfl,c,rfl,rfl⟩;refine ⟨_,Xn.refl,?_⟩;refine Xy L 226 <| Xq ?_;cases h;exact X7
def Ek.upto (K:Nat):Nat→Ek
 | 0=>⟨fun _=>none⟩
 | k+1=>⟨Db.F K (Ek.upto K k)⟩
theorem Ek.upto_ok (K:Nat):∀ k,(Ek.upto K k).Ok
 | 0=>⟨fun h=>(by cases h)⟩
 | k+1=>⟨fun {p0 r} h=>eo (fn:=Tryz.f22) (n:=20) (m:=100) fun Γ=>Db.body (K:=K) (Ek.upto_ok K k) h⟩
def Db (K:Nat) (p0:Aa):Option Int:=(Ek.upto K K).Db p0
theorem Db.okE {K:Nat} {p0:Aa} {r:Int} (h:Db K p0=some r):Xz V P 22 [.agg (Aj p0)] [] [] (.I r) []:=(Ek.upto_ok K K).Db h
theorem Db.ok {K:Nat} {p0:Aa} {r:Int} (h:Db K p0=some r):X6 V P 22 [.agg (Aj p0)] (.I r):=(Db.okE h).pcall (by kernel_rfl)
def Fa (K:Nat) (p0:List Ar) (p1:Int):Option (Int ⊕ (Aa×Int×Int)):=(Option.bind (Av K (⟨p0,0⟩:Ab)) (fun a1=>match a1 with |(Sum.inl a1)=>some (Sum.inl a1) |(Sum.inr (a,b))=>(Option.bind (Bx K b) (fun a2=>(if a2.Kind≠0 then (Option.bind (Bp K b) (fun a3=>some (Sum.inl a3))) else (Option.bind (Dc K a) (fun a4=>(if a4 > 4000 then some (Sum.inr ((⟨0,[],0,[],([]:List Aa)⟩:Aa),0,6)) else (Option.bind (Db K a) (fun a5=>(if a5 > 40 then some (Sum.inr ((⟨0,[],0,[],([]:List Aa)⟩:Aa),0,7)) else some (Sum.inr (a,0,0)))))))))))))
def Fa.rep (p0:List Ar) (p1:Int):Int ⊕ (Aa×Int×Int)→Yx T
 |(Sum.inl v0)=>.pan (Yl 49 v0)
 |(Sum.inr (v0,v1,v2))=>.ret (.tup [.agg [.I v0.Op,.str v0.Name,.I v0.Int,.str v0.Text,.ro .Ae v0.Kids],.I v1,.I v2])
theorem Fa.body {Γ:Yg} {K:Nat} {p0:List Ar} {p1:Int} {r:Int ⊕ (Aa×Int×Int)} (h:Fa K p0 p1=some r):Yc V P 44 93 Γ (Yh (Yh (Yh (Yh (Tryz.f25.body.getD .skip))))) (Abx P V Tryz.f25 (Fa.rep p0 p1 r)) ⟨[(1,.cv (.fn (.func 32) [] [])),(4,.P 90),(5,.P 91),(6,.P 92),(7,.cv (.ro .Ao p0))],[(90,.raw [.I 0,.str [],.I 0,.str [],.N]),(91,.raw [.I p1]),(92,.raw [.I 0])]⟩:=by
 unfold Fa at h;refine Xy L 200 <| Xo ?_;obtain ⟨a1,h1,h⟩:=bind_some h;rcases a1 with a1 | a1
 ·dsimp only at h;refine pn L 205 [] [] [] 2 [4,5,6] [90,91,92] (ef [0] [0] (.tup []) [] [(0,202)]) (Yl 49 a1) (cs:=[Ahd V P 32 [.P 0] [(0,.raw [.ro .Ao p0,.I 0])] (Yl 49 a1)]) (S':=⟨[(4,.P 90),(5,.P 91),(6,.P 92)],[(90,.raw [.I 0,.str [],.I 0,.str [],.N]),(91,.raw [.I p1]),(92,.raw [.I 0])]⟩) (Av.okE h1) ?_;cases h;exact (rp:Abx P V Tryz.f25 (Fa.rep p0 p1 (Sum.inl a1)) _ _)
 ·obtain ⟨a,b⟩:=a1;dsimp only at h;refine rg L 205 [] [] [(2,(ef [0] [0] (.agg (Aj a)) [(0,.raw (Af b))] [(0,202)]))] (Xx (Av.okE h1)) ?_;refine Xo <| Xo ?_;obtain ⟨a2,h2,h⟩:=bind_some h;refine rg L 210 [] [(1,.agg (Eg a2))] [] (Yw (Bx.ok h2)) ?_;rcases Xp h with ⟨c1,h⟩ |⟨c1,h⟩
  ·refine tT c1 ?_;obtain ⟨a3,h3,h⟩:=bind_some h;refine pn L 215 [] [] [] 1 [4,5,6] [90,91,92] (ef [0] [0] (.tup []) [] [(0,202)]) (Yl 49 a3) (cs:=[Ahd V P 43 [.P 0] [(0,.raw (Af b))] (Yl 49 a3)]) (S':=⟨[(4,.P 90),(5,.P 91),(6,.P 92)],[(90,.raw (Aj a)),(91,.raw [.I p1]),(92,.raw [.I 0])]⟩) (Bp.okE h3) ?_;cases h;exact (rp:Abx P V Tryz.f25 (Fa.rep p0 p1 (Sum.inl a3)) _ _)
  refine fF c1 <| Xu <| Xo <| Xw <| Xo ?_;obtain ⟨a4,h4,h⟩:=bind_some h;refine rg L 218 [] [(1,.I a4)] [] (Yw (Dc.ok h4)) ?_;rcases Xp h with ⟨c2,h⟩ |⟨c2,h⟩
  ·refine tT c2 <| Xy L 223 <| Xq ?_;cases h;exact rr0
  refine fF c2 <| Xo ?_;obtain ⟨a5,h5,h⟩:=bind_some h;refine rg L 228 [] [(1,.I a5)] [] (Yw (Db.ok h5)) ?_;rcases Xp h with ⟨c3,h⟩ |⟨c3,h⟩
  ·refine tT c3 <| Xy L 233 <| Xq ?_;cases h;exact rr0
  refine fF c3 <| Xu <| Xy L 238 <| Xq ?_;cases h;exact rr0
def Gu:Int ⊕ (Aa×Int×Int)→Aa×Int×Int
 |(Sum.inl v0)=>(A9,v0,29)
 |(Sum.inr (v0,v1,v2))=>(v0,v1,v2)
def Hg (K:Nat) (p0:List UInt8):Option (Aa×Int×Int):=Option.bind (Ev K p0) (fun (c,a,b)=>if b≠0 then some (A9,a,b) else Option.bind (Fa K c a) (fun x=>some (Gu x)))
theorem Hg.ok {K:Nat} {p0:List UInt8} {r:Aa×Int×Int} (h:Hg K p0=some r):X6 V P 25 [.cv (.str p0),.cv (.fn (.func 32) [] [])] (.tup [.agg (Aj r.1),.I r.2.1,.I r.2.2]):=by
 unfold Hg at h;obtain ⟨⟨l,at0,e0⟩,h1,h⟩:=bind_some h;dsimp only at h;by_cases he:e0≠0
 ·rw [if_pos he] at h;obtain rfl:=Option.some.inj h;exact Mk (Ev.ok h1) he
 ·rw [if_neg he] at h;obtain ⟨x,h2,h⟩:=bind_some h;obtain rfl:=Option.some.inj h;have he0:e0=0:=Decidable.not_not.1 he;subst he0;refine Lm (o:=Fa.rep l at0 x) (Ev.ok h1) (fun Γ=>Fa.body h2) ?_;rcases x with v0 |⟨v0,v1,v2⟩
  ·exact .inr ⟨v0,rfl,rfl⟩
  ·exact .inl rfl
def Gf (K:Nat) (p0:List UInt8):Option (Aa×Int×Int):=(Option.bind (Hg K p0) (fun (a,b,c)=>some (a,b,c)))
theorem Gf.body {Γ:Yg} {K:Nat} {p0:List UInt8} {r:Aa×Int×Int} (h:Gf K p0=some r):Yc V P 10 100 Γ (Tryz.f15.body.getD .skip) (X1 P V Tryz.f15 (.tup [.agg [.I r.1.Op,.str r.1.Name,.I r.1.Int,.str r.1.Text,.ro .Ae r.1.Kids],.I r.2.1,.I r.2.2]) []) ⟨X0 0 [.cv (.str p0)],[]⟩:=by
 unfold Gf at h;refine Xy L 200 <| Xo ?_;obtain ⟨⟨a,b,c⟩,h1,h⟩:=bind_some h;dsimp only at h;refine rg L 204 [] [(1,.tup [.agg (Aj a),.I b,.I c])] [] (Yw (Hg.ok h1)) ?_;refine Xr (Xn.trans (Xn.kk [2,3,4] [200]) (Xn.rr [(200,100)])) ?_;refine Xq ?_;cases h;exact X7
theorem Gf.ok {K:Nat} {p0:List UInt8} {r:Aa×Int×Int} (h:Gf K p0=some r):X6 V P 15 [.cv (.str p0)] (.tup [.agg [.I r.1.Op,.str r.1.Name,.I r.1.Int,.str r.1.Text,.ro .Ae r.1.Kids],.I r.2.1,.I r.2.2]):=Xz.pcall (eo (fn:=Tryz.f15) (n:=10) (m:=100) fun Γ=>Gf.body h) (by kernel_rfl)
def C5 (K:Nat) (p0:Ab):Option (Int ⊕ (Aa×Ab)):=(Option.bind (Ap K ([45]:List UInt8) p0) (fun (c,a)=>(if c=true then (Option.bind (Bx K a) (fun a2=>(if a2.Kind≠3 then (Option.bind (Bp K a) (fun a3=>some (Sum.inl a3))) else (Option.bind (D8 K a) (fun (d,e)=>(Option.bind (C1 K 14 ([(⟨4,[],d.Int,[],([]:List Aa)⟩:Aa)]:List Aa)) (fun a5=>some (Sum.inr (a5,e))))))))) else (Option.bind (D6 K a) (fun (f,g,b)=>(if g=true then some (Sum.inr (f,b)) else (Option.bind (Bp K b) (fun a7=>some (Sum.inl a7)))))))))
def C5.rep (p0:Ab):Int ⊕ (Aa×Ab)→Yx T
 |(Sum.inl v0)=>.pan (Yl 49 v0)
 |(Sum.inr (v0,v1))=>.ret (.agg [.I v0.Op,.str v0.Name,.I v0.Int,.str v0.Text,.ro .Ae v0.Kids])
def C5.post (p0:Ab):Int ⊕ (Aa×Ab)→List (Nat×Yd T)
 |(Sum.inl v0)=>[]
 |(Sum.inr (v0,v1))=>[(0,.raw [.ro .Ao v1.l,.I v1.i])]
theorem C5.body {Γ:Yg} {K:Nat} {p0:Ab} {r:Int ⊕ (Aa×Ab)} (h:C5 K p0=some r):Yc V P 29 100 Γ (Tryz.f47.body.getD .skip) (Yk P V Tryz.f47 (C5.rep p0 r) (C5.post p0 r)) ⟨X0 0 [.P 0],[(0,.raw (Af p0))]⟩:=by
 unfold C5 at h;refine Xy L 200 <| Xo <| Xo ?_;obtain ⟨⟨c,d⟩,h1,h⟩:=bind_some h;dsimp only at h;refine rg L 202 [] [] [(1,(X5 (.B c) [(0,.raw (Af d))]))] (Xx (Ap.okE h1)) ?_;rcases Xp h with ⟨c1,h⟩ |⟨c1,h⟩
 ·refine tt c1 <| Xo <| Xo ?_;obtain ⟨a2,h2,h⟩:=bind_some h;refine rg L 205 [] [(1,.agg (Eg a2))] [] (Yw (Bx.ok h2)) ?_;rcases Xp h with ⟨c2,h⟩ |⟨c2,h⟩
  ·refine tT c2 ?_;obtain ⟨a3,h3,h⟩:=bind_some h;refine qn L 210 [] [] [] 1 (X5 (.tup []) []) (Yl 49 a3) (Xx (Bp.okE h3)) ?_;cases h;exact rfl
  refine fF c2 <| Xu <| Xo ?_;obtain ⟨⟨e,f⟩,h4,h⟩:=bind_some h;dsimp only at h;obtain ⟨a5,h5,h⟩:=bind_some h;refine rg L 213 [] [(5,.agg (Aj a5))] [(1,(X5 (.agg (Eg e)) [(0,.raw (Af f))]))] (Xt (D8.okE h4) (Xt (C1.ok h5) (Xx trivial))) ?_;refine Xr (Xn.trans (Xn.kk [2] [0,200]) (Xn.rr [(0,0),(200,100)])) ?_;refine Xq ?_;cases h;exact Zm
 refine fN c1 <| Xu <| Xo ?_;obtain ⟨⟨g,a,i⟩,h6,h⟩:=bind_some h;dsimp only at h;refine rg L 221 [] [] [(1,(X5 (.tup [.agg (Aj g),.B a]) [(0,.raw (Af i))]))] (Xx (D6.okE h6)) ?_;refine Xo <| Xy L 230 ?_;rcases Xp h with ⟨c3,h⟩ |⟨c3,h⟩
 ·refine ff (b:=(!a)) (congrArg Bool.not (c3)) ?_;refine Xu <| Xy L 236 <| Xr (Xn.trans (Xn.kk [2] [0,200]) (Xn.rr [(0,0),(200,100)])) ?_;refine Xq ?_;cases h;exact Zm
 refine tt (b:=(!a)) (congrArg Bool.not (eq_false_of_ne_true c3)) ?_;obtain ⟨a7,h7,h⟩:=bind_some h;refine qn L 233 [] [] [] 1 (X5 (.tup []) []) (Yl 49 a7) (Xx (Bp.okE h7)) ?_;cases h;exact rfl
theorem C5.okE {K:Nat} {p0:Ab} {r:Int ⊕ (Aa×Ab)} (h:C5 K p0=some r):Yj V P 47 [.P 0] [(0,.raw (Af p0))] [0] (C5.post p0 r) (C5.rep p0 r) :=
 xo (fn:=Tryz.f47) (n:=29) (m:=100) fun Γ=>C5.body h
def Bz (K:Nat) (p0:Ab):Option (Int ⊕ (Aa×Ab)):=(Option.bind (Ay K p0) (fun a1=>match a1 with |(Sum.inl a1)=>some (Sum.inl a1) |(Sum.inr (a,b))=>some (Sum.inr ((⟨6,a,0,[],([]:List Aa)⟩:Aa),b))))
def Bz.rep (p0:Ab):Int ⊕ (Aa×Ab)→Yx T
 |(Sum.inl v0)=>.pan (Yl 49 v0)
 |(Sum.inr (v0,v1))=>.ret (.agg [.I v0.Op,.str v0.Name,.I v0.Int,.str v0.Text,.ro .Ae v0.Kids])
def Bz.post (p0:Ab):Int ⊕ (Aa×Ab)→List (Nat×Yd T)
 |(Sum.inl v0)=>[]
 |(Sum.inr (v0,v1))=>[(0,.raw [.ro .Ao v1.l,.I v1.i])]
theorem Bz.body {Γ:Yg} {K:Nat} {p0:Ab} {r:Int ⊕ (Aa×Ab)} (h:Bz K p0=some r):Yc V P 6 100 Γ (Tryz.f49.body.getD .skip) (Yk P V Tryz.f49 (Bz.rep p0 r) (Bz.post p0 r)) ⟨X0 0 [.P 0],[(0,.raw (Af p0))]⟩:=by
 unfold Bz at h;refine Xy L 200 <| Xo ?_;obtain ⟨a1,h1,h⟩:=bind_some h;rcases a1 with a1 | a1
 ·dsimp only at h;refine qn L 202 [] [] [] 1 (X5 (.tup []) []) (Yl 49 a1) (Xx (Ay.okE h1)) ?_;cases h;exact rfl
 ·obtain ⟨a,b⟩:=a1;dsimp only at h;refine rg L 202 [] [] [(1,(X5 (.cv (.str a)) [(0,.raw (Af b))]))] (Xx (Ay.okE h1)) ?_;refine Xr (Xn.trans (Xn.kk [2] [0,200]) (Xn.rr [(0,0),(200,100)])) ?_;refine Xq ?_;cases h;exact Zm
theorem Bz.okE {K:Nat} {p0:Ab} {r:Int ⊕ (Aa×Ab)} (h:Bz K p0=some r):Yj V P 49 [.P 0] [(0,.raw (Af p0))] [0] (Bz.post p0 r) (Bz.rep p0 r) :=
 xo (fn:=Tryz.f49) (n:=6) (m:=100) fun Γ=>Bz.body h
end Go.Proofs.YtifjagfmfkemmaaGreatDoor
