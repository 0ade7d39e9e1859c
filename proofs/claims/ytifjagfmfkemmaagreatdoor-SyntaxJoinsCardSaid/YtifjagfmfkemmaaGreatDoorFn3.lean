import Derived.Test.YtifjagfmfkemmaaGreatDoorFn2
set_option linter.unusedVariables false
set_option maxHeartbeats 0
namespace Go.Proofs.YtifjagfmfkemmaaGreatDoor
open Eng
def Dy.F (K:Nat) (R:Am) (p0:Aa):Option Bool:=(if p0.Op=50 then (Option.bind (Ay K p0 true false false) (fun a1=>(if a1=true then (if p0.Name=([]:List UInt8) then (if (p0.Kids.length:Int)=2 then (if (0:Int) <(p0.Kids.length:Int) then (Option.bind (B7 K (p0.Kids.getD (Int.toNat 0) B5)) (fun a2=>(if a2=true then (if (1:Int) <(p0.Kids.length:Int) then (Option.bind (R.Ck (p0.Kids.getD (Int.toNat 1) B5)) (fun a3=>some a3)) else none) else some false))) else none) else some false) else (Option.bind (B4 K p0.Name) (fun a4=>(if a4=true then (if (p0.Kids.length:Int)=2 then (if (0:Int) <(p0.Kids.length:Int) then (Option.bind (B7 K (p0.Kids.getD (Int.toNat 0) B5)) (fun a5=>(if a5=true then (if (1:Int) <(p0.Kids.length:Int) then (Option.bind (R.Ck (p0.Kids.getD (Int.toNat 1) B5)) (fun a6=>some a6)) else none) else some false))) else none) else some false) else some false)))) else some false))) else some false)
theorem Dy.body {Γ:Ud} {K:Nat} {R:Am} (hR:R.Ok) {p0:Aa} {r:Bool} (h:Dy.F K R p0=some r):Ub V P 40 100 Γ (Tryz.f136.body.getD .skip) (Ty P V Tryz.f136 (.B r) []) ⟨Tx 0 [.agg (Ah p0)],[]⟩:=by
 unfold Dy.F at h;refine Tw L 200 <| Tm ?_;rcases Tn h with ⟨c1,h⟩ |⟨c1,h⟩
 ·obtain ⟨a1,h1,h⟩:=bind_some h;rcases Tn h with ⟨c2,h⟩ |⟨c2,h⟩
  ·rcases Tn h with ⟨c3,h⟩ |⟨c3,h⟩
   ·rcases Tn h with ⟨c4,h⟩ |⟨c4,h⟩
    ·obtain ⟨g1,h⟩:=Ts h;obtain ⟨a2,h2,h⟩:=bind_some h;rcases Tn h with ⟨c5,h⟩ |⟨c5,h⟩
     ·obtain ⟨g2,h⟩:=Ts h;obtain ⟨a3,h3,h⟩:=bind_some h;refine rg L 203 [(3,true),(7,true),(11,true),(23,true),(30,true)] [(5,.B a1),(28,.B a2),(35,.B a3)] [] (Tq (decide_eq_true c1) (Tq (Ay.ok h1) (Tq trivial (Tq c2 (Tq (decide_eq_true c3) (Tq (decide_eq_true c4) (Tq (show (0:Int)≤0 from by decide) (Tq g1 (Tq (B7.ok h2) (Tq trivial (Tq c5 (Tq (show (0:Int)≤1 from by decide) (Tq g2 (Tq (Ck.okR hR h3) (Tu trivial))))))))))))))) ?_;refine To ?_;cases h;exact T3
     refine rg L 203 [(3,true),(7,true),(11,true),(23,true),(30,false)] [(5,.B a1),(28,.B a2)] [] (Tq (decide_eq_true c1) (Tq (Ay.ok h1) (Tq trivial (Tq c2 (Tq (decide_eq_true c3) (Tq (decide_eq_true c4) (Tq (show (0:Int)≤0 from by decide) (Tq g1 (Tq (B7.ok h2) (Tq trivial (Tu (eq_false_of_ne_true c5)))))))))))) ?_;refine To ?_;cases h;exact T3
    refine rg L 203 [(3,true),(7,true),(11,true),(23,false)] [(5,.B a1)] [] (Tq (decide_eq_true c1) (Tq (Ay.ok h1) (Tq trivial (Tq c2 (Tq (decide_eq_true c3) (Tu (decide_eq_false c4))))))) ?_;refine To ?_;cases h;exact T3
   obtain ⟨a4,h4,h⟩:=bind_some h;rcases Tn h with ⟨c6,h⟩ |⟨c6,h⟩
   ·rcases Tn h with ⟨c7,h⟩ |⟨c7,h⟩
    ·obtain ⟨g3,h⟩:=Ts h;obtain ⟨a5,h5,h⟩:=bind_some h;rcases Tn h with ⟨c8,h⟩ |⟨c8,h⟩
     ·obtain ⟨g4,h⟩:=Ts h;obtain ⟨a6,h6,h⟩:=bind_some h;refine rg L 203 [(3,true),(7,true),(11,false),(17,true),(23,true),(30,true)] [(5,.B a1),(14,.B a4),(28,.B a5),(35,.B a6)] [] (Tq (decide_eq_true c1) (Tq (Ay.ok h1) (Tq trivial (Tq c2 (Tq (decide_eq_false c3) (Tq (B4.ok h4) (Tq trivial (Tq c6 (Tq (decide_eq_true c7) (Tq (show (0:Int)≤0 from by decide) (Tq g3 (Tq (B7.ok h5) (Tq trivial (Tq c8 (Tq (show (0:Int)≤1 from by decide) (Tq g4 (Tq (Ck.okR hR h6) (Tu trivial)))))))))))))))))) ?_;refine To ?_;cases h;exact T3
     refine rg L 203 [(3,true),(7,true),(11,false),(17,true),(23,true),(30,false)] [(5,.B a1),(14,.B a4),(28,.B a5)] [] (Tq (decide_eq_true c1) (Tq (Ay.ok h1) (Tq trivial (Tq c2 (Tq (decide_eq_false c3) (Tq (B4.ok h4) (Tq trivial (Tq c6 (Tq (decide_eq_true c7) (Tq (show (0:Int)≤0 from by decide) (Tq g3 (Tq (B7.ok h5) (Tq trivial (Tu (eq_false_of_ne_true c8))))))))))))))) ?_;refine To ?_;cases h;exact T3
    refine rg L 203 [(3,true),(7,true),(11,false),(17,true),(23,false)] [(5,.B a1),(14,.B a4)] [] (Tq (decide_eq_true c1) (Tq (Ay.ok h1) (Tq trivial (Tq c2 (Tq (decide_eq_false c3) (Tq (B4.ok h4) (Tq trivial (Tq c6 (Tu (decide_eq_false c7)))))))))) ?_;refine To ?_;cases h;exact T3
   refine rg L 203 [(3,true),(7,true),(11,false),(17,false)] [(5,.B a1),(14,.B a4)] [] (Tq (decide_eq_true c1) (Tq (Ay.ok h1) (Tq trivial (Tq c2 (Tq (decide_eq_false c3) (Tq (B4.ok h4) (Tq trivial (Tu (eq_false_of_ne_true c6))))))))) ?_;refine To ?_;cases h;exact T3
  refine rg L 203 [(3,true),(7,false)] [(5,.B a1)] [] (Tq (decide_eq_true c1) (Tq (Ay.ok h1) (Tq trivial (Tu (eq_false_of_ne_true c2))))) ?_;refine To ?_;cases h;exact T3
 refine rg L 203 [(3,false)] [] [] (Tu (decide_eq_false c1)) ?_;refine To ?_;cases h;exact T3
def Dd.F (K:Nat) (R:Am) (p0:Aa):Option Bool:=(Option.bind (R.Dy p0) (fun a1=>some (!a1)))
theorem Dd.body {Γ:Ud} {K:Nat} {R:Am} (hR:R.Ok) {p0:Aa} {r:Bool} (h:Dd.F K R p0=some r):Ub V P 8 100 Γ (Tryz.f57.body.getD .skip) (Ty P V Tryz.f57 (.B r) []) ⟨Tx 0 [.agg (Ah p0),.cv (.pcs [.fn (.func 136) [] []] 0)],[]⟩:=by
 unfold Dd.F at h;refine Tw L 200 <| Tm ?_;obtain ⟨a1,h1,h⟩:=bind_some h;refine rg L 203 [] [(2,.B a1)] [] (U4 (Dy.okR hR h1)) ?_;refine To ?_;cases h;exact T3
def Ce.l7 (K:Nat) (R:Am) (p0:List Aa):Nat→Int→Option (T5 Int Unit)
 | 0,_=>none
 | k+1,a=>(if a <(p0.length:Int) then (if (0:Int)≤a∧(a:Int) <(p0.length:Int) then (Option.bind (R.Dd (p0.getD (Int.toNat a) B5)) (fun a1=>(if a1=true then some (T5.done a) else Ce.l7 K R p0 k (IntKind.i64.wrap (a+1))))) else none) else some (T5.go ()))
def Ce.F (K:Nat) (R:Am) (p0:List Aa):Option Int:=(obind (Ce.l7 K R p0 K 0:Option (T5 Int Unit)) (fun r=>r) (fun _=>some (-1)))
theorem Ce.body {Γ:Ud} {K:Nat} {R:Am} (hR:R.Ok) {p0:List Aa} {r:Int} (h:Ce.F K R p0=some r):Ub V P 19 100 Γ (Tryz.f90.body.getD .skip) (Ty P V Tryz.f90 (.I r) []) ⟨Tx 0 [.cv (.ro .Af p0),.cv (.fn (.func 57) [] [.pcs [.fn (.func 136) [] []] 0])],[]⟩:=by
 unfold Ce.F at h;refine Tw L 200 <| Tm <| Tw L 202 <| Tt <| kp (S':=⟨[(0,.cv (.ro .Af p0)),(1,.cv (.fn (.func 57) [] [.pcs [.fn (.func 136) [] []] 0])),(7,.I (p0.length:Int)),(8,.I 0)],[]⟩) ?_;obtain ⟨o1,hp1,h⟩:=T7 h;refine T4 (Q':=fun e S=>(e=.exit 0∧S=⟨[],[]⟩∧T5.go ()=o1)∨(e=.ret∧∃ a,T5.done a=o1∧Ty P V Tryz.f90 (.I a) [] .ret S)) (T8 (fun k S=>∃ b:Int,S=⟨[(0,.cv (.ro .Af p0)),(1,.cv (.fn (.func 57) [] [.pcs [.fn (.func 136) [] []] 0])),(7,.I (p0.length:Int)),(8,.I b)],[]⟩∧Ce.l7 K R p0 k b=some o1) ?_ ⟨_,rfl,hp1⟩) ?_
 ·clear h hp1;intro k S hS;obtain ⟨b,rfl,h⟩:=hS;cases k with
  | zero=>cases h
  | succ k =>
  unfold Ce.l7 at h;refine Tw L 206 <| Tm ?_;rcases Tn h with ⟨c1,h⟩ |⟨c1,h⟩
  ·refine tT c1 <| Tr <| Tm <| Tt <| Tw L 208 <| Tm ?_;obtain ⟨g1,h⟩:=Ts h;obtain ⟨a1,h1,h⟩:=bind_some h;refine rg L 211 [] [(5,.B a1)] [] (Tq g1.1 (Tq g1.2 (Tq (Dd.okR hR h1) (Tu trivial)))) ?_;rcases Tn h with ⟨c2,h⟩ |⟨c2,h⟩
   ·refine tt c2 <| Tw L 218 <| To ?_;cases h;exact .inr ⟨rfl,_,rfl,T3⟩
   refine fN c2 <| Tr <| Xi L 221 [] [] [] (S':=⟨[(0,.cv (.ro .Af p0)),(1,.cv (.fn (.func 57) [] [.pcs [.fn (.func 136) [] []] 0])),(7,.I (p0.length:Int)),(8,.I (IntKind.i64.wrap (b+1)))],[]⟩) ?_;exact ⟨k,Nat.lt_succ_self k,_,rfl,h⟩
  refine fF c1 <| ex (S':=⟨[],[]⟩) ?_;cases h;exact .inl ⟨rfl,rfl,rfl⟩
 ·rintro e S (⟨rfl,rfl,rfl⟩ |⟨rfl,a,rfl,hr⟩)
  ·rcases h with ⟨_,e1,h⟩ |⟨_,e1,h⟩
   ·cases e1
   ·have e2:=T5.go.inj e1;subst e2;refine ⟨_,Tl.refl,?_⟩;refine Tw L 224 <| To ?_;cases h;exact T3
  ·rcases h with ⟨_,e1,h⟩ |⟨_,e1,h⟩
   ·have e2:=T5.done.inj e1;subst e2;subst h;exact ⟨_,Tl.refl,hr⟩
   ·cases e1
def Cq.F (K:Nat) (R:Am) (p0:List Aa):Option Bool:=(Option.bind (R.Ce p0) (fun a1=>some (decide (a1≥0))))
theorem Cq.body {Γ:Ud} {K:Nat} {R:Am} (hR:R.Ok) {p0:List Aa} {r:Bool} (h:Cq.F K R p0=some r):Ub V P 9 100 Γ (Tryz.f56.body.getD .skip) (Ty P V Tryz.f56 (.B r) []) ⟨Tx 0 [.cv (.ro .Af p0),.cv (.fn (.func 57) [] [.pcs [.fn (.func 136) [] []] 0])],[]⟩:=by
 unfold Cq.F at h;refine Tw L 200 <| Tm ?_;obtain ⟨a1,h1,h⟩:=bind_some h;refine rg L 202 [] [(2,.I a1)] [] (U4 (Ce.okR hR h1)) ?_;refine To ?_;cases h;exact T3
def Di.F (K:Nat) (R:Am) (p0:List Aa):Option Bool:=(Option.bind (R.Cq p0) (fun a1=>some (!a1)))
theorem Di.body {Γ:Ud} {K:Nat} {R:Am} (hR:R.Ok) {p0:List Aa} {r:Bool} (h:Di.F K R p0=some r):Ub V P 9 100 Γ (Tryz.f30.body.getD .skip) (Ty P V Tryz.f30 (.B r) []) ⟨Tx 0 [.cv (.ro .Af p0),.cv (.fn (.func 136) [] [])],[]⟩:=by
 unfold Di.F at h;refine Tw L 200 <| Tm ?_;obtain ⟨a1,h1,h⟩:=bind_some h;refine rg L 203 [] [(2,.B a1)] [] (U4 (Cq.okR hR h1)) ?_;refine To ?_;cases h;exact T3
def Dp.F (K:Nat) (R:Am) (p0:List Aa):Option Bool:=(Option.bind (((if (IntKind.i64.wrap ((p0.length:Int) - 1))≥0 then (if (0:Int)≤(IntKind.i64.wrap ((p0.length:Int) - 1))∧((IntKind.i64.wrap ((p0.length:Int) - 1)):Int) <(p0.length:Int) then some ((decide ((p0.getD (Int.toNat (IntKind.i64.wrap ((p0.length:Int) - 1))) B5).Op=51))) else none) else some false)):Option Bool) (fun a=>(if a=true then (if (0:Int)≤(IntKind.i64.wrap ((p0.length:Int) - 1))∧((IntKind.i64.wrap ((p0.length:Int) - 1)):Int) <(p0.length:Int) then (Option.bind (Ay K (p0.getD (Int.toNat (IntKind.i64.wrap ((p0.length:Int) - 1))) B5) false false false) (fun a1=>(if a1=true then (if (((p0.getD (Int.toNat (IntKind.i64.wrap ((p0.length:Int) - 1))) B5).Kids).length:Int)≠1 then some false else (if (0:Int) <(((p0.getD (Int.toNat (IntKind.i64.wrap ((p0.length:Int) - 1))) B5).Kids).length:Int) then (Option.bind (R.Ck ((((p0.getD (Int.toNat (IntKind.i64.wrap ((p0.length:Int) - 1))) B5).Kids).getD (Int.toNat 0) B5))) (fun a2=>(if a2=true then (if (IntKind.i64.wrap ((p0.length:Int) - 1))≤16 then (if (IntKind.i64.wrap ((p0.length:Int) - 1))≤(p0.length:Int) then (Option.bind (R.Di (slc p0 0 (IntKind.i64.wrap ((p0.length:Int) - 1)))) (fun a3=>some a3)) else none) else some false) else some false))) else none)) else some false))) else none) else (if (p0.length:Int)≥1 then (if (p0.length:Int)≤16 then (Option.bind (R.Di p0) (fun a4=>some a4)) else some false) else some false))))
theorem Dp.body {Γ:Ud} {K:Nat} {R:Am} (hR:R.Ok) {p0:List Aa} {r:Bool} (h:Dp.F K R p0=some r):Ub V P 59 100 Γ (Tryz.f121.body.getD .skip) (Ty P V Tryz.f121 (.B r) []) ⟨Tx 0 [.cv (.ro .Af p0)],[]⟩:=by
 unfold Dp.F at h;refine Tw L 200 <| Tm <| Tw L 202 ?_;obtain ⟨o1,hp1,h⟩:=bind_some h;refine Tm (Uc (Q':=fun e S=>(e=.normal∧∃ a:Bool,S=⟨[(0,.cv (.ro .Af p0)),(3,.I (IntKind.i64.wrap ((p0.length:Int) - 1))),(17,.B a)],[]⟩∧a=o1)) ?_ ?_)
 ·clear h;replace h:=hp1;rcases Tn h with ⟨c1,h⟩ |⟨c1,h⟩
  ·obtain ⟨g1,h⟩:=Ts h;refine ar L 207 [(2,true)] [] [] (cs:=[(decide ((IntKind.i64.wrap ((p0.length:Int) - 1))≥0))=true,(0:Int)≤(IntKind.i64.wrap ((p0.length:Int) - 1)),((IntKind.i64.wrap ((p0.length:Int) - 1)):Int) <(p0.length:Int)]) (S':=⟨[(0,.cv (.ro .Af p0)),(3,.I (IntKind.i64.wrap ((p0.length:Int) - 1))),(17,.B ((decide ((p0.getD (Int.toNat (IntKind.i64.wrap ((p0.length:Int) - 1))) B5).Op=51))))],[]⟩) (And.intro (decide_eq_true c1) (And.intro g1.1 g1.2)) ?_;cases h;exact ⟨rfl,_,rfl,rfl⟩
  refine ar L 207 [(2,false)] [] [] (cs:=[(decide ((IntKind.i64.wrap ((p0.length:Int) - 1))≥0))=false]) (S':=⟨[(0,.cv (.ro .Af p0)),(3,.I (IntKind.i64.wrap ((p0.length:Int) - 1))),(17,.B false)],[]⟩) (decide_eq_false c1) ?_;cases h;exact ⟨rfl,_,rfl,rfl⟩
 ·rintro e S ⟨rfl,a,rfl,rfl⟩;rcases Tn h with ⟨c2,h⟩ |⟨c2,h⟩
  ·refine tt c2 <| Tm <| Tm ?_;obtain ⟨g2,h⟩:=Ts h;refine rg L 218 [] [] [] (Vf g2.1 g2.2) ?_;refine Tm ?_;obtain ⟨a1,h1,h⟩:=bind_some h;rcases Tn h with ⟨c3,h⟩ |⟨c3,h⟩
   ·rcases Tn h with ⟨c4,h⟩ |⟨c4,h⟩
    ·refine rg L 225 [(3,false),(9,true)] [(1,.B a1)] [] (Tq (Ay.ok h1) (Tq trivial (Tq (show (!a1)=false from congrArg Bool.not (c3)) (Tu (decide_eq_true c4))))) ?_;refine tt (b:=true) (rfl) ?_;refine Tw L 243 <| To ?_;cases h;exact T3
    obtain ⟨g3,h⟩:=Ts h;obtain ⟨a2,h2,h⟩:=bind_some h;refine rg L 225 [(3,false),(9,false)] [(1,.B a1),(14,.B a2)] [] (Tq (Ay.ok h1) (Tq trivial (Tq (show (!a1)=false from congrArg Bool.not (c3)) (Tq (decide_eq_false c4) (Tq (show (0:Int)≤0 from by decide) (Tq g3 (Tq (Ck.okR hR h2) (Tu trivial)))))))) ?_;rcases Tn h with ⟨c5,h⟩ |⟨c5,h⟩
    ·refine ff (b:=(!a2)) (congrArg Bool.not (c5)) ?_;refine Tr <| Tm ?_;rcases Tn h with ⟨c6,h⟩ |⟨c6,h⟩
     ·obtain ⟨g4,h⟩:=Ts h;obtain ⟨a3,h3,h⟩:=bind_some h;refine rg L 245 [(2,true)] [(6,.B a3)] [] (Tq (decide_eq_true c6) (Tq (show (0:Int)≤0 from Int.le_refl _) (Tq g2.1 (Tq g4 (Tq (Di.okR hR h3) (Tu trivial)))))) ?_;refine To ?_;cases h;exact T3
     refine rg L 245 [(2,false)] [] [] (Tu (decide_eq_false c6)) ?_;refine To ?_;cases h;exact T3
    refine tt (b:=(!a2)) (congrArg Bool.not (eq_false_of_ne_true c5)) ?_;refine Tw L 243 <| To ?_;cases h;exact T3
   refine rg L 225 [(3,true)] [(1,.B a1)] [] (Tq (Ay.ok h1) (Tq trivial (Tu (show (!a1)=true from congrArg Bool.not (eq_false_of_ne_true c3))))) ?_;refine tt (b:=true) (rfl) ?_;refine Tw L 243 <| To ?_;cases h;exact T3
  refine fN c2 <| Tr <| Tm ?_;rcases Tn h with ⟨c7,h⟩ |⟨c7,h⟩
  ·rcases Tn h with ⟨c8,h⟩ |⟨c8,h⟩
   ·obtain ⟨a4,h4,h⟩:=bind_some h;refine rg L 255 [(3,true),(8,true)] [(10,.B a4)] [] (Tq (decide_eq_true c7) (Tq (decide_eq_true c8) (Tq (Di.okR hR h4) (Tu trivial)))) ?_;refine To ?_;cases h;exact T3
   refine rg L 255 [(3,true),(8,false)] [] [] (Vf (decide_eq_true c7) (decide_eq_false c8)) ?_;refine To ?_;cases h;exact T3
  refine rg L 255 [(3,false)] [] [] (Tu (decide_eq_false c7)) ?_;refine To ?_;cases h;exact T3
def C4.F (K:Nat) (R:Am) (p0:Aa):Option Bool:=(Option.bind ((if p0.Op=40 then some (decide (p0.Op=40)) else some (decide (p0.Op=41))):Option Bool) (fun b=>(if b=true then (Option.bind (Ay K p0 true false false) (fun a1=>(if a1=true then (Option.bind (B4 K p0.Name) (fun a2=>(if a2=true then (if (p0.Kids.length:Int)=1 then (if (0:Int) <(p0.Kids.length:Int) then (Option.bind (B7 K (p0.Kids.getD (Int.toNat 0) B5)) (fun a3=>some a3)) else none) else some false) else some false))) else some false))) else (if p0.Op=42 then (Option.bind (Ay K p0 false false false) (fun a4=>(if a4=true then (Option.bind (R.Ee p0.Kids) (fun a5=>some a5)) else some false))) else (if p0.Op=43 then (Option.bind (Ay K p0 false false false) (fun a6=>(if a6=true then (if (p0.Kids.length:Int)=2 then (if (0:Int) <(p0.Kids.length:Int) then (Option.bind (B7 K (p0.Kids.getD (Int.toNat 0) B5)) (fun a7=>(if a7=true then (if (1:Int) <(p0.Kids.length:Int) then (Option.bind (R.Ck (p0.Kids.getD (Int.toNat 1) B5)) (fun a8=>some a8)) else none) else some false))) else none) else some false) else some false))) else (if p0.Op=44 then (Option.bind (Ay K p0 false false false) (fun a9=>(if a9=true then (if (p0.Kids.length:Int)≤1 then (Option.bind (C2 K p0.Kids) (fun a10=>some a10)) else some false) else some false))) else (Option.bind ((if p0.Op=45 then some (decide (p0.Op=45)) else some (decide (p0.Op=52))):Option Bool) (fun a=>(if a=true then (Option.bind (Ay K p0 false false false) (fun a11=>(if a11=true then (if (p0.Kids.length:Int)=1 then (if (0:Int) <(p0.Kids.length:Int) then (Option.bind (B7 K (p0.Kids.getD (Int.toNat 0) B5)) (fun a12=>some a12)) else none) else some false) else some false))) else (if p0.Op=46 then (Option.bind (Ay K p0 true false false) (fun a13=>(if a13=true then (Option.bind (B4 K p0.Name) (fun a14=>(if a14=true then (if (p0.Kids.length:Int)=2 then (Option.bind (R.Dj p0.Kids) (fun a15=>some a15)) else some false) else some false))) else some false))) else (if p0.Op=47 then (Option.bind (Ay K p0 false false false) (fun a16=>(if a16=true then (if (p0.Kids.length:Int)=1 then (if (0:Int) <(p0.Kids.length:Int) then (Option.bind (R.Ck (p0.Kids.getD (Int.toNat 0) B5)) (fun a17=>some a17)) else none) else some false) else some false))) else (if p0.Op=48 then (Option.bind (Ay K p0 true false false) (fun a18=>(if a18=true then (Option.bind (B4 K p0.Name) (fun a19=>(if a19=true then (Option.bind (C2 K p0.Kids) (fun a20=>some a20)) else some false))) else some false))) else (if p0.Op=49 then (Option.bind (Ay K p0 false false false) (fun a21=>(if a21=true then (Option.bind (R.Dp p0.Kids) (fun a22=>some a22)) else some false))) else (if p0.Op=53 then some false else some false))))))))))))))
theorem C4.body {Γ:Ud} {K:Nat} {R:Am} (hR:R.Ok) {p0:Aa} {r:Bool} (h:C4.F K R p0=some r):Ub V P 143 100 Γ (Tryz.f92.body.getD .skip) (Ty P V Tryz.f92 (.B r) []) ⟨Tx 0 [.agg (Ah p0)],[]⟩:=by
 unfold C4.F at h;refine Tw L 200 <| Tw L 203 <| Tm <| Tw L 207 <| Tt ?_;obtain ⟨o1,hp1,h⟩:=bind_some h;refine Tm (Uc (Q':=fun e S=>(e=.normal∧∃ b:Bool,S=⟨[(1,.P 21800),(3,.cv (.ro .Af p0.Kids)),(7,.I p0.Op),(8,.B b)],[(21800,.raw (Ah p0))]⟩∧b=o1)) ?_ ?_)
 ·clear h;replace h:=hp1;refine Tw L 210 ?_;rcases Tn h with ⟨c1,h⟩ |⟨c1,h⟩
  ·refine tT c1 <| Tp (Tl.trans (Tl.kk [1,3,7,8] [200]) (Tl.rr [(200,21800)])) ?_;refine sk (S':=⟨[(1,.P 21800),(3,.cv (.ro .Af p0.Kids)),(7,.I p0.Op),(8,.B (decide (p0.Op=40)))],[(21800,.raw (Ah p0))]⟩) ?_;cases h;exact ⟨rfl,_,rfl,rfl⟩
  refine fF c1 <| Tz (Yr L 213 ⟨rfl,rfl⟩) (Tl.trans (Tl.kk [1,3,7,8] [200]) (Tl.trans (Tl.rr [(200,21800)]) (Tl.kp (S':=⟨[(1,.P 21800),(3,.cv (.ro .Af p0.Kids)),(7,.I p0.Op),(8,.B (decide (p0.Op=41)))],[(21800,.raw (Ah p0))]⟩)))) ?_;cases h;exact ⟨rfl,_,rfl,rfl⟩
 ·rintro e S ⟨rfl,b,rfl,rfl⟩;rcases Tn h with ⟨c2,h⟩ |⟨c2,h⟩
  ·refine tt c2 <| Tm ?_;obtain ⟨a1,h1,h⟩:=bind_some h;rcases Tn h with ⟨c3,h⟩ |⟨c3,h⟩
   ·obtain ⟨a2,h2,h⟩:=bind_some h;rcases Tn h with ⟨c4,h⟩ |⟨c4,h⟩
    ·rcases Tn h with ⟨c5,h⟩ |⟨c5,h⟩
     ·obtain ⟨g1,h⟩:=Ts h;obtain ⟨a3,h3,h⟩:=bind_some h;refine rg L 216 [(2,true),(7,true),(12,true)] [(1,.B a1),(5,.B a2),(16,.B a3)] [] (Tq (Ay.ok h1) (Tq trivial (Tq c3 (Tq (B4.ok h2) (Tq trivial (Tq c4 (Tq (decide_eq_true c5) (Tq (show (0:Int)≤0 from by decide) (Tq g1 (Tq (B7.ok h3) (Tu trivial))))))))))) ?_;refine To ?_;cases h;exact T3
     refine rg L 216 [(2,true),(7,true),(12,false)] [(1,.B a1),(5,.B a2)] [] (Tq (Ay.ok h1) (Tq trivial (Tq c3 (Tq (B4.ok h2) (Tq trivial (Tq c4 (Tu (decide_eq_false c5)))))))) ?_;refine To ?_;cases h;exact T3
    refine rg L 216 [(2,true),(7,false)] [(1,.B a1),(5,.B a2)] [] (Tq (Ay.ok h1) (Tq trivial (Tq c3 (Tq (B4.ok h2) (Tq trivial (Tu (eq_false_of_ne_true c4))))))) ?_;refine To ?_;cases h;exact T3
   refine rg L 216 [(2,false)] [(1,.B a1)] [] (Tq (Ay.ok h1) (Tq trivial (Tu (eq_false_of_ne_true c3)))) ?_;refine To ?_;cases h;exact T3
  refine fN c2 <| Tw L 236 ?_;rcases Tn h with ⟨c6,h⟩ |⟨c6,h⟩
  ·refine tT c6 <| Tm ?_;obtain ⟨a4,h4,h⟩:=bind_some h;rcases Tn h with ⟨c7,h⟩ |⟨c7,h⟩
   ·obtain ⟨a5,h5,h⟩:=bind_some h;refine rg L 239 [(2,true)] [(1,.B a4),(4,.B a5)] [] (Tq (Ay.ok h4) (Tq trivial (Tq c7 (Tq (Ee.okR hR h5) (Tu trivial))))) ?_;refine To ?_;cases h;exact T3
   refine rg L 239 [(2,false)] [(1,.B a4)] [] (Tq (Ay.ok h4) (Tq trivial (Tu (eq_false_of_ne_true c7)))) ?_;refine To ?_;cases h;exact T3
  refine fF c6 <| Tw L 247 ?_;rcases Tn h with ⟨c8,h⟩ |⟨c8,h⟩
  ·refine tT c8 <| Tm ?_;obtain ⟨a6,h6,h⟩:=bind_some h;rcases Tn h with ⟨c9,h⟩ |⟨c9,h⟩
   ·rcases Tn h with ⟨c10,h⟩ |⟨c10,h⟩
    ·obtain ⟨g2,h⟩:=Ts h;obtain ⟨a7,h7,h⟩:=bind_some h;rcases Tn h with ⟨c11,h⟩ |⟨c11,h⟩
     ·obtain ⟨g3,h⟩:=Ts h;obtain ⟨a8,h8,h⟩:=bind_some h;refine rg L 250 [(2,true),(7,true),(13,true)] [(1,.B a6),(11,.B a7),(17,.B a8)] [] (Tq (Ay.ok h6) (Tq trivial (Tq c9 (Tq (decide_eq_true c10) (Tq (show (0:Int)≤0 from by decide) (Tq g2 (Tq (B7.ok h7) (Tq trivial (Tq c11 (Tq (show (0:Int)≤1 from by decide) (Tq g3 (Tq (Ck.okR hR h8) (Tu trivial))))))))))))) ?_;refine To ?_;cases h;exact T3
     refine rg L 250 [(2,true),(7,true),(13,false)] [(1,.B a6),(11,.B a7)] [] (Tq (Ay.ok h6) (Tq trivial (Tq c9 (Tq (decide_eq_true c10) (Tq (show (0:Int)≤0 from by decide) (Tq g2 (Tq (B7.ok h7) (Tq trivial (Tu (eq_false_of_ne_true c11)))))))))) ?_;refine To ?_;cases h;exact T3
    refine rg L 250 [(2,true),(7,false)] [(1,.B a6)] [] (Tq (Ay.ok h6) (Tq trivial (Tq c9 (Tu (decide_eq_false c10))))) ?_;refine To ?_;cases h;exact T3
   refine rg L 250 [(2,false)] [(1,.B a6)] [] (Tq (Ay.ok h6) (Tq trivial (Tu (eq_false_of_ne_true c9)))) ?_;refine To ?_;cases h;exact T3
  refine fF c8 <| Tw L 271 ?_;rcases Tn h with ⟨c12,h⟩ |⟨c12,h⟩
  ·refine tT c12 <| Tm ?_;obtain ⟨a9,h9,h⟩:=bind_some h;rcases Tn h with ⟨c13,h⟩ |⟨c13,h⟩
   ·rcases Tn h with ⟨c14,h⟩ |⟨c14,h⟩
    ·obtain ⟨a10,h10,h⟩:=bind_some h;refine rg L 274 [(2,true),(7,true)] [(1,.B a9),(9,.B a10)] [] (Tq (Ay.ok h9) (Tq trivial (Tq c13 (Tq (decide_eq_true c14) (Tq (C2.ok h10) (Tu trivial)))))) ?_;refine To ?_;cases h;exact T3
    refine rg L 274 [(2,true),(7,false)] [(1,.B a9)] [] (Tq (Ay.ok h9) (Tq trivial (Tq c13 (Tu (decide_eq_false c14))))) ?_;refine To ?_;cases h;exact T3
   refine rg L 274 [(2,false)] [(1,.B a9)] [] (Tq (Ay.ok h9) (Tq trivial (Tu (eq_false_of_ne_true c13)))) ?_;refine To ?_;cases h;exact T3
  refine fF c12 ?_;obtain ⟨o2,hp2,h⟩:=bind_some h;refine Tm (Uc (Q':=fun e S=>(e=.normal∧∃ a:Bool,S=⟨[(1,.P 27400),(3,.cv (.ro .Af p0.Kids)),(7,.I p0.Op),(71,.B a)],[(27400,.raw (Ah p0))]⟩∧a=o2)) ?_ ?_)
  ·clear h;replace h:=hp2;refine Tw L 287 ?_;rcases Tn h with ⟨c15,h⟩ |⟨c15,h⟩
   ·refine tT c15 <| Tp (Tl.trans (Tl.kk [1,3,7,71] [21800]) (Tl.rr [(21800,27400)])) ?_;refine sk (S':=⟨[(1,.P 27400),(3,.cv (.ro .Af p0.Kids)),(7,.I p0.Op),(71,.B (decide (p0.Op=45)))],[(27400,.raw (Ah p0))]⟩) ?_;cases h;exact ⟨rfl,_,rfl,rfl⟩
   refine fF c15 <| Tz (Yr L 290 ⟨rfl,rfl⟩) (Tl.trans (Tl.kk [1,3,7,71] [21800]) (Tl.trans (Tl.rr [(21800,27400)]) (Tl.kp (S':=⟨[(1,.P 27400),(3,.cv (.ro .Af p0.Kids)),(7,.I p0.Op),(71,.B (decide (p0.Op=52)))],[(27400,.raw (Ah p0))]⟩)))) ?_;cases h;exact ⟨rfl,_,rfl,rfl⟩
  ·rintro e S ⟨rfl,a,rfl,rfl⟩;rcases Tn h with ⟨c16,h⟩ |⟨c16,h⟩
   ·refine tt c16 <| Tm ?_;obtain ⟨a11,h11,h⟩:=bind_some h;rcases Tn h with ⟨c17,h⟩ |⟨c17,h⟩
    ·rcases Tn h with ⟨c18,h⟩ |⟨c18,h⟩
     ·obtain ⟨g4,h⟩:=Ts h;obtain ⟨a12,h12,h⟩:=bind_some h;refine rg L 293 [(2,true),(7,true)] [(1,.B a11),(11,.B a12)] [] (Tq (Ay.ok h11) (Tq trivial (Tq c17 (Tq (decide_eq_true c18) (Tq (show (0:Int)≤0 from by decide) (Tq g4 (Tq (B7.ok h12) (Tu trivial)))))))) ?_;refine To ?_;cases h;exact T3
     refine rg L 293 [(2,true),(7,false)] [(1,.B a11)] [] (Tq (Ay.ok h11) (Tq trivial (Tq c17 (Tu (decide_eq_false c18))))) ?_;refine To ?_;cases h;exact T3
    refine rg L 293 [(2,false)] [(1,.B a11)] [] (Tq (Ay.ok h11) (Tq trivial (Tu (eq_false_of_ne_true c17)))) ?_;refine To ?_;cases h;exact T3
   refine fN c16 <| Tw L 308 ?_;rcases Tn h with ⟨c19,h⟩ |⟨c19,h⟩
   ·refine tT c19 <| Tm ?_;obtain ⟨a13,h13,h⟩:=bind_some h;rcases Tn h with ⟨c20,h⟩ |⟨c20,h⟩
    ·obtain ⟨a14,h14,h⟩:=bind_some h;rcases Tn h with ⟨c21,h⟩ |⟨c21,h⟩
     ·rcases Tn h with ⟨c22,h⟩ |⟨c22,h⟩
      ·obtain ⟨a15,h15,h⟩:=bind_some h;refine rg L 311 [(2,true),(7,true),(12,true)] [(1,.B a13),(5,.B a14),(14,.B a15)] [] (Tq (Ay.ok h13) (Tq trivial (Tq c20 (Tq (B4.ok h14) (Tq trivial (Tq c21 (Tq (decide_eq_true c22) (Tq (Dj.okR hR h15) (Tu trivial))))))))) ?_;refine To ?_;cases h;exact T3
      refine rg L 311 [(2,true),(7,true),(12,false)] [(1,.B a13),(5,.B a14)] [] (Tq (Ay.ok h13) (Tq trivial (Tq c20 (Tq (B4.ok h14) (Tq trivial (Tq c21 (Tu (decide_eq_false c22)))))))) ?_;refine To ?_;cases h;exact T3
     refine rg L 311 [(2,true),(7,false)] [(1,.B a13),(5,.B a14)] [] (Tq (Ay.ok h13) (Tq trivial (Tq c20 (Tq (B4.ok h14) (Tq trivial (Tu (eq_false_of_ne_true c21))))))) ?_;refine To ?_;cases h;exact T3
    refine rg L 311 [(2,false)] [(1,.B a13)] [] (Tq (Ay.ok h13) (Tq trivial (Tu (eq_false_of_ne_true c20)))) ?_;refine To ?_;cases h;exact T3
   refine fF c19 <| Tw L 329 ?_;rcases Tn h with ⟨c23,h⟩ |⟨c23,h⟩
   ·refine tT c23 <| Tm ?_;obtain ⟨a16,h16,h⟩:=bind_some h;rcases Tn h with ⟨c24,h⟩ |⟨c24,h⟩
    ·rcases Tn h with ⟨c25,h⟩ |⟨c25,h⟩
     ·obtain ⟨g5,h⟩:=Ts h;obtain ⟨a17,h17,h⟩:=bind_some h;refine rg L 332 [(2,true),(7,true)] [(1,.B a16),(11,.B a17)] [] (Tq (Ay.ok h16) (Tq trivial (Tq c24 (Tq (decide_eq_true c25) (Tq (show (0:Int)≤0 from by decide) (Tq g5 (Tq (Ck.okR hR h17) (Tu trivial)))))))) ?_;refine To ?_;cases h;exact T3
     refine rg L 332 [(2,true),(7,false)] [(1,.B a16)] [] (Tq (Ay.ok h16) (Tq trivial (Tq c24 (Tu (decide_eq_false c25))))) ?_;refine To ?_;cases h;exact T3
    refine rg L 332 [(2,false)] [(1,.B a16)] [] (Tq (Ay.ok h16) (Tq trivial (Tu (eq_false_of_ne_true c24)))) ?_;refine To ?_;cases h;exact T3
   refine fF c23 <| Tw L 347 ?_;rcases Tn h with ⟨c26,h⟩ |⟨c26,h⟩
   ·refine tT c26 <| Tm ?_;obtain ⟨a18,h18,h⟩:=bind_some h;rcases Tn h with ⟨c27,h⟩ |⟨c27,h⟩
    ·obtain ⟨a19,h19,h⟩:=bind_some h;rcases Tn h with ⟨c28,h⟩ |⟨c28,h⟩
     ·obtain ⟨a20,h20,h⟩:=bind_some h;refine rg L 350 [(2,true),(7,true)] [(1,.B a18),(5,.B a19),(9,.B a20)] [] (Tq (Ay.ok h18) (Tq trivial (Tq c27 (Tq (B4.ok h19) (Tq trivial (Tq c28 (Tq (C2.ok h20) (Tu trivial)))))))) ?_;refine To ?_;cases h;exact T3
     refine rg L 350 [(2,true),(7,false)] [(1,.B a18),(5,.B a19)] [] (Tq (Ay.ok h18) (Tq trivial (Tq c27 (Tq (B4.ok h19) (Tq trivial (Tu (eq_false_of_ne_true c28))))))) ?_;refine To ?_;cases h;exact T3
    refine rg L 350 [(2,false)] [(1,.B a18)] [] (Tq (Ay.ok h18) (Tq trivial (Tu (eq_false_of_ne_true c27)))) ?_;refine To ?_;cases h;exact T3
   refine fF c26 <| Tw L 363 ?_;rcases Tn h with ⟨c29,h⟩ |⟨c29,h⟩
   ·refine tT c29 <| Tm ?_;obtain ⟨a21,h21,h⟩:=bind_some h;rcases Tn h with ⟨c30,h⟩ |⟨c30,h⟩
    ·obtain ⟨a22,h22,h⟩:=bind_some h;refine rg L 366 [(2,true)] [(1,.B a21),(4,.B a22)] [] (Tq (Ay.ok h21) (Tq trivial (Tq c30 (Tq (Dp.okR hR h22) (Tu trivial))))) ?_;refine To ?_;cases h;exact T3
    refine rg L 366 [(2,false)] [(1,.B a21)] [] (Tq (Ay.ok h21) (Tq trivial (Tu (eq_false_of_ne_true c30)))) ?_;refine To ?_;cases h;exact T3
   refine fF c29 <| Tw L 374 ?_;rcases Tn h with ⟨c31,h⟩ |⟨c31,h⟩
   ·refine tT c31 <| Tw L 377 <| To ?_;cases h;exact T3
   refine fF c31 <| Tr <| Tw L 379 <| To ?_;cases h;exact T3
def Db.F (K:Nat) (R:Am) (p0:Aa):Option Bool:=(Option.bind (R.C4 p0) (fun a1=>some (!a1)))
theorem Db.body {Γ:Ud} {K:Nat} {R:Am} (hR:R.Ok) {p0:Aa} {r:Bool} (h:Db.F K R p0=some r):Ub V P 8 100 Γ (Tryz.f57.body.getD .skip) (Ty P V Tryz.f57 (.B r) []) ⟨Tx 0 [.agg (Ah p0),.cv (.pcs [.fn (.func 92) [] []] 0)],[]⟩:=by
 unfold Db.F at h;refine Tw L 200 <| Tm ?_;obtain ⟨a1,h1,h⟩:=bind_some h;refine rg L 203 [] [(2,.B a1)] [] (U4 (C4.okR hR h1)) ?_;refine To ?_;cases h;exact T3
def Ci.l7 (K:Nat) (R:Am) (p0:List Aa):Nat→Int→Option (T5 Int Unit)
 | 0,_=>none
 | k+1,a=>(if a <(p0.length:Int) then (if (0:Int)≤a∧(a:Int) <(p0.length:Int) then (Option.bind (R.Db (p0.getD (Int.toNat a) B5)) (fun a1=>(if a1=true then some (T5.done a) else Ci.l7 K R p0 k (IntKind.i64.wrap (a+1))))) else none) else some (T5.go ()))
def Ci.F (K:Nat) (R:Am) (p0:List Aa):Option Int:=(obind (Ci.l7 K R p0 K 0:Option (T5 Int Unit)) (fun r=>r) (fun _=>some (-1)))
theorem Ci.body {Γ:Ud} {K:Nat} {R:Am} (hR:R.Ok) {p0:List Aa} {r:Int} (h:Ci.F K R p0=some r):Ub V P 19 100 Γ (Tryz.f90.body.getD .skip) (Ty P V Tryz.f90 (.I r) []) ⟨Tx 0 [.cv (.ro .Af p0),.cv (.fn (.func 57) [] [.pcs [.fn (.func 92) [] []] 0])],[]⟩:=by
 unfold Ci.F at h;refine Tw L 200 <| Tm <| Tw L 202 <| Tt <| kp (S':=⟨[(0,.cv (.ro .Af p0)),(1,.cv (.fn (.func 57) [] [.pcs [.fn (.func 92) [] []] 0])),(7,.I (p0.length:Int)),(8,.I 0)],[]⟩) ?_;obtain ⟨o1,hp1,h⟩:=T7 h;refine T4 (Q':=fun e S=>(e=.exit 0∧S=⟨[],[]⟩∧T5.go ()=o1)∨(e=.ret∧∃ a,T5.done a=o1∧Ty P V Tryz.f90 (.I a) [] .ret S)) (T8 (fun k S=>∃ b:Int,S=⟨[(0,.cv (.ro .Af p0)),(1,.cv (.fn (.func 57) [] [.pcs [.fn (.func 92) [] []] 0])),(7,.I (p0.length:Int)),(8,.I b)],[]⟩∧Ci.l7 K R p0 k b=some o1) ?_ ⟨_,rfl,hp1⟩) ?_
 ·clear h hp1;intro k S hS;obtain ⟨b,rfl,h⟩:=hS;cases k with
  | zero=>cases h
  | succ k =>
  unfold Ci.l7 at h;refine Tw L 206 <| Tm ?_;rcases Tn h with ⟨c1,h⟩ |⟨c1,h⟩
  ·refine tT c1 <| Tr <| Tm <| Tt <| Tw L 208 <| Tm ?_;obtain ⟨g1,h⟩:=Ts h;obtain ⟨a1,h1,h⟩:=bind_some h;refine rg L 211 [] [(5,.B a1)] [] (Tq g1.1 (Tq g1.2 (Tq (Db.okR hR h1) (Tu trivial)))) ?_;rcases Tn h with ⟨c2,h⟩ |⟨c2,h⟩
   ·refine tt c2 <| Tw L 218 <| To ?_;cases h;exact .inr ⟨rfl,_,rfl,T3⟩
   refine fN c2 <| Tr <| Xi L 221 [] [] [] (S':=⟨[(0,.cv (.ro .Af p0)),(1,.cv (.fn (.func 57) [] [.pcs [.fn (.func 92) [] []] 0])),(7,.I (p0.length:Int)),(8,.I (IntKind.i64.wrap (b+1)))],[]⟩) ?_;exact ⟨k,Nat.lt_succ_self k,_,rfl,h⟩
  refine fF c1 <| ex (S':=⟨[],[]⟩) ?_;cases h;exact .inl ⟨rfl,rfl,rfl⟩
 ·rintro e S (⟨rfl,rfl,rfl⟩ |⟨rfl,a,rfl,hr⟩)
  ·rcases h with ⟨_,e1,h⟩ |⟨_,e1,h⟩
   ·cases e1
   ·have e2:=T5.go.inj e1;subst e2;refine ⟨_,Tl.refl,?_⟩;refine Tw L 224 <| To ?_;cases h;exact T3
  ·rcases h with ⟨_,e1,h⟩ |⟨_,e1,h⟩
   ·have e2:=T5.done.inj e1;subst e2;subst h;exact ⟨_,Tl.refl,hr⟩
   ·cases e1
def Co.F (K:Nat) (R:Am) (p0:List Aa):Option Bool:=(Option.bind (R.Ci p0) (fun a1=>some (decide (a1≥0))))
theorem Co.body {Γ:Ud} {K:Nat} {R:Am} (hR:R.Ok) {p0:List Aa} {r:Bool} (h:Co.F K R p0=some r):Ub V P 9 100 Γ (Tryz.f56.body.getD .skip) (Ty P V Tryz.f56 (.B r) []) ⟨Tx 0 [.cv (.ro .Af p0),.cv (.fn (.func 57) [] [.pcs [.fn (.func 92) [] []] 0])],[]⟩:=by
 unfold Co.F at h;refine Tw L 200 <| Tm ?_;obtain ⟨a1,h1,h⟩:=bind_some h;refine rg L 202 [] [(2,.I a1)] [] (U4 (Ci.okR hR h1)) ?_;refine To ?_;cases h;exact T3
def Do.F (K:Nat) (R:Am) (p0:List Aa):Option Bool:=(Option.bind (R.Co p0) (fun a1=>some (!a1)))
theorem Do.body {Γ:Ud} {K:Nat} {R:Am} (hR:R.Ok) {p0:List Aa} {r:Bool} (h:Do.F K R p0=some r):Ub V P 9 100 Γ (Tryz.f30.body.getD .skip) (Ty P V Tryz.f30 (.B r) []) ⟨Tx 0 [.cv (.ro .Af p0),.cv (.fn (.func 92) [] [])],[]⟩:=by
 unfold Do.F at h;refine Tw L 200 <| Tm ?_;obtain ⟨a1,h1,h⟩:=bind_some h;refine rg L 203 [] [(2,.B a1)] [] (U4 (Co.okR hR h1)) ?_;refine To ?_;cases h;exact T3
def Ck.F (K:Nat) (R:Am) (p0:Aa):Option Bool:=(if p0.Op=53 then (Option.bind (Ay K p0 false false false) (fun a1=>(if a1=true then (Option.bind (R.Do p0.Kids) (fun a2=>some a2)) else some false))) else some false)
theorem Ck.body {Γ:Ud} {K:Nat} {R:Am} (hR:R.Ok) {p0:Aa} {r:Bool} (h:Ck.F K R p0=some r):Ub V P 15 100 Γ (Tryz.f60.body.getD .skip) (Ty P V Tryz.f60 (.B r) []) ⟨Tx 0 [.agg (Ah p0)],[]⟩:=by
 unfold Ck.F at h;refine Tw L 200 <| Tm ?_;rcases Tn h with ⟨c1,h⟩ |⟨c1,h⟩
 ·obtain ⟨a1,h1,h⟩:=bind_some h;rcases Tn h with ⟨c2,h⟩ |⟨c2,h⟩
  ·obtain ⟨a2,h2,h⟩:=bind_some h;refine rg L 203 [(3,true),(7,true)] [(5,.B a1),(10,.B a2)] [] (Tq (decide_eq_true c1) (Tq (Ay.ok h1) (Tq trivial (Tq c2 (Tq (Do.okR hR h2) (Tu trivial)))))) ?_;refine To ?_;cases h;exact T3
  refine rg L 203 [(3,true),(7,false)] [(5,.B a1)] [] (Tq (decide_eq_true c1) (Tq (Ay.ok h1) (Tq trivial (Tu (eq_false_of_ne_true c2))))) ?_;refine To ?_;cases h;exact T3
 refine rg L 203 [(3,false)] [] [] (Tu (decide_eq_false c1)) ?_;refine To ?_;cases h;exact T3
def Am.upto (K:Nat):Nat→Am
 | 0=>⟨fun _=>none,fun _=>none,fun _=>none,fun _=>none,fun _=>none,fun _=>none,fun _=>none,fun _=>none,fun _=>none,fun _=>none,fun _=>none,fun _=>none,fun _=>none,fun _=>none,fun _=>none,fun _=>none,fun _=>none⟩
 | k+1=>⟨Ee.F K (Am.upto K k),Dc.F K (Am.upto K k),Ch.F K (Am.upto K k),Ct.F K (Am.upto K k),Dj.F K (Am.upto K k),Dy.F K (Am.upto K k),Dd.F K (Am.upto K k),Ce.F K (Am.upto K k),Cq.F K (Am.upto K k),Di.F K (Am.upto K k),Dp.F K (Am.upto K k),C4.F K (Am.upto K k),Db.F K (Am.upto K k),Ci.F K (Am.upto K k),Co.F K (Am.upto K k),Do.F K (Am.upto K k),Ck.F K (Am.upto K k)⟩
theorem Am.upto_ok (K:Nat):∀ k,(Am.upto K k).Ok
 | 0=>⟨fun h=>(by cases h),fun h=>(by cases h),fun h=>(by cases h),fun h=>(by cases h),fun h=>(by cases h),fun h=>(by cases h),fun h=>(by cases h),fun h=>(by cases h),fun h=>(by cases h),fun h=>(by cases h),fun h=>(by cases h),fun h=>(by cases h),fun h=>(by cases h),fun h=>(by cases h),fun h=>(by cases h),fun h=>(by cases h),fun h=>(by cases h)⟩
 | k+1=>⟨fun {p0 r} h=>eo (fn:=Tryz.f120) (n:=47) (m:=100) fun Γ=>Ee.body (K:=K) (Am.upto_ok K k) h,fun {p0 r} h=>eo (fn:=Tryz.f57) (n:=8) (m:=100) fun Γ=>Dc.body (K:=K) (Am.upto_ok K k) h,fun {p0 r} h=>eo (fn:=Tryz.f90) (n:=19) (m:=100) fun Γ=>Ch.body (K:=K) (Am.upto_ok K k) h,fun {p0 r} h=>eo (fn:=Tryz.f56) (n:=9) (m:=100) fun Γ=>Ct.body (K:=K) (Am.upto_ok K k) h,fun {p0 r} h=>eo (fn:=Tryz.f30) (n:=9) (m:=100) fun Γ=>Dj.body (K:=K) (Am.upto_ok K k) h,fun {p0 r} h=>eo (fn:=Tryz.f136) (n:=40) (m:=100) fun Γ=>Dy.body (K:=K) (Am.upto_ok K k) h,fun {p0 r} h=>eo (fn:=Tryz.f57) (n:=8) (m:=100) fun Γ=>Dd.body (K:=K) (Am.upto_ok K k) h,fun {p0 r} h=>eo (fn:=Tryz.f90) (n:=19) (m:=100) fun Γ=>Ce.body (K:=K) (Am.upto_ok K k) h,fun {p0 r} h=>eo (fn:=Tryz.f56) (n:=9) (m:=100) fun Γ=>Cq.body (K:=K) (Am.upto_ok K k) h,fun {p0 r} h=>eo (fn:=Tryz.f30) (n:=9) (m:=100) fun Γ=>Di.body (K:=K) (Am.upto_ok K k) h,fun {p0 r} h=>eo (fn:=Tryz.f121) (n:=59) (m:=100) fun Γ=>Dp.body (K:=K) (Am.upto_ok K k) h,fun {p0 r} h=>eo (fn:=Tryz.f92) (n:=143) (m:=100) fun Γ=>C4.body (K:=K) (Am.upto_ok K k) h,fun {p0 r} h=>eo (fn:=Tryz.f57) (n:=8) (m:=100) fun Γ=>Db.body (K:=K) (Am.upto_ok K k) h,fun {p0 r} h=>eo (fn:=Tryz.f90) (n:=19) (m:=100) fun Γ=>Ci.body (K:=K) (Am.upto_ok K k) h,fun {p0 r} h=>eo (fn:=Tryz.f56) (n:=9) (m:=100) fun Γ=>Co.body (K:=K) (Am.upto_ok K k) h,fun {p0 r} h=>eo (fn:=Tryz.f30) (n:=9) (m:=100) fun Γ=>Do.body (K:=K) (Am.upto_ok K k) h,fun {p0 r} h=>eo (fn:=Tryz.f60) (n:=15) (m:=100) fun Γ=>Ck.body (K:=K) (Am.upto_ok K k) h⟩
def Ee (K:Nat) (p0:List Aa):Option Bool:=(Am.upto K K).Ee p0
theorem Ee.okE {K:Nat} {p0:List Aa} {r:Bool} (h:Ee K p0=some r):Tv V P 120 [.cv (.ro .Af p0)] [] [] (.B r) []:=(Am.upto_ok K K).Ee h
theorem Ee.ok {K:Nat} {p0:List Aa} {r:Bool} (h:Ee K p0=some r):T1 V P 120 [.cv (.ro .Af p0)] (.B r):=(Ee.okE h).pcall (by kernel_rfl)
def Dc (K:Nat) (p0:Aa):Option Bool:=(Am.upto K K).Dc p0
theorem Dc.okE {K:Nat} {p0:Aa} {r:Bool} (h:Dc K p0=some r):Tv V P 57 [.agg (Ah p0),.cv (.pcs [.fn (.func 60) [] []] 0)] [] [] (.B r) []:=(Am.upto_ok K K).Dc h
theorem Dc.ok {K:Nat} {p0:Aa} {r:Bool} (h:Dc K p0=some r):T1 V P 57 [.agg (Ah p0),.cv (.pcs [.fn (.func 60) [] []] 0)] (.B r):=(Dc.okE h).pcall (by kernel_rfl)
def Ch (K:Nat) (p0:List Aa):Option Int:=(Am.upto K K).Ch p0
theorem Ch.okE {K:Nat} {p0:List Aa} {r:Int} (h:Ch K p0=some r):Tv V P 90 [.cv (.ro .Af p0),.cv (.fn (.func 57) [] [.pcs [.fn (.func 60) [] []] 0])] [] [] (.I r) []:=(Am.upto_ok K K).Ch h
theorem Ch.ok {K:Nat} {p0:List Aa} {r:Int} (h:Ch K p0=some r):T1 V P 90 [.cv (.ro .Af p0),.cv (.fn (.func 57) [] [.pcs [.fn (.func 60) [] []] 0])] (.I r):=(Ch.okE h).pcall (by kernel_rfl)
def Ct (K:Nat) (p0:List Aa):Option Bool:=(Am.upto K K).Ct p0
theorem Ct.okE {K:Nat} {p0:List Aa} {r:Bool} (h:Ct K p0=some r):Tv V P 56 [.cv (.ro .Af p0),.cv (.fn (.func 57) [] [.pcs [.fn (.func 60) [] []] 0])] [] [] (.B r) []:=(Am.upto_ok K K).Ct h
theorem Ct.ok {K:Nat} {p0:List Aa} {r:Bool} (h:Ct K p0=some r):T1 V P 56 [.cv (.ro .Af p0),.cv (.fn (.func 57) [] [.pcs [.fn (.func 60) [] []] 0])] (.B r):=(Ct.okE h).pcall (by kernel_rfl)
def Dj (K:Nat) (p0:List Aa):Option Bool:=(Am.upto K K).Dj p0
theorem Dj.okE {K:Nat} {p0:List Aa} {r:Bool} (h:Dj K p0=some r):Tv V P 30 [.cv (.ro .Af p0),.cv (.fn (.func 60) [] [])] [] [] (.B r) []:=(Am.upto_ok K K).Dj h
theorem Dj.ok {K:Nat} {p0:List Aa} {r:Bool} (h:Dj K p0=some r):T1 V P 30 [.cv (.ro .Af p0),.cv (.fn (.func 60) [] [])] (.B r):=(Dj.okE h).pcall (by kernel_rfl)
def Dy (K:Nat) (p0:Aa):Option Bool:=(Am.upto K K).Dy p0
theorem Dy.okE {K:Nat} {p0:Aa} {r:Bool} (h:Dy K p0=some r):Tv V P 136 [.agg (Ah p0)] [] [] (.B r) []:=(Am.upto_ok K K).Dy h
theorem Dy.ok {K:Nat} {p0:Aa} {r:Bool} (h:Dy K p0=some r):T1 V P 136 [.agg (Ah p0)] (.B r):=(Dy.okE h).pcall (by kernel_rfl)
def Dd (K:Nat) (p0:Aa):Option Bool:=(Am.upto K K).Dd p0
theorem Dd.okE {K:Nat} {p0:Aa} {r:Bool} (h:Dd K p0=some r):Tv V P 57 [.agg (Ah p0),.cv (.pcs [.fn (.func 136) [] []] 0)] [] [] (.B r) []:=(Am.upto_ok K K).Dd h
theorem Dd.ok {K:Nat} {p0:Aa} {r:Bool} (h:Dd K p0=some r):T1 V P 57 [.agg (Ah p0),.cv (.pcs [.fn (.func 136) [] []] 0)] (.B r):=(Dd.okE h).pcall (by kernel_rfl)
def Ce (K:Nat) (p0:List Aa):Option Int:=(Am.upto K K).Ce p0
theorem Ce.okE {K:Nat} {p0:List Aa} {r:Int} (h:Ce K p0=some r):Tv V P 90 [.cv (.ro .Af p0),.cv (.fn (.func 57) [] [.pcs [.fn (.func 136) [] []] 0])] [] [] (.I r) []:=(Am.upto_ok K K).Ce h
theorem Ce.ok {K:Nat} {p0:List Aa} {r:Int} (h:Ce K p0=some r):T1 V P 90 [.cv (.ro .Af p0),.cv (.fn (.func 57) [] [.pcs [.fn (.func 136) [] []] 0])] (.I r):=(Ce.okE h).pcall (by kernel_rfl)
def Cq (K:Nat) (p0:List Aa):Option Bool:=(Am.upto K K).Cq p0
theorem Cq.okE {K:Nat} {p0:List Aa} {r:Bool} (h:Cq K p0=some r):Tv V P 56 [.cv (.ro .Af p0),.cv (.fn (.func 57) [] [.pcs [.fn (.func 136) [] []] 0])] [] [] (.B r) []:=(Am.upto_ok K K).Cq h
theorem Cq.ok {K:Nat} {p0:List Aa} {r:Bool} (h:Cq K p0=some r):T1 V P 56 [.cv (.ro .Af p0),.cv (.fn (.func 57) [] [.pcs [.fn (.func 136) [] []] 0])] (.B r):=(Cq.okE h).pcall (by kernel_rfl)
def Di (K:Nat) (p0:List Aa):Option Bool:=(Am.upto K K).Di p0
theorem Di.okE {K:Nat} {p0:List Aa} {r:Bool} (h:Di K p0=some r):Tv V P 30 [.cv (.ro .Af p0),.cv (.fn (.func 136) [] [])] [] [] (.B r) []:=(Am.upto_ok K K).Di h
theorem Di.ok {K:Nat} {p0:List Aa} {r:Bool} (h:Di K p0=some r):T1 V P 30 [.cv (.ro .Af p0),.cv (.fn (.func 136) [] [])] (.B r):=(Di.okE h).pcall (by kernel_rfl)
def Dp (K:Nat) (p0:List Aa):Option Bool:=(Am.upto K K).Dp p0
theorem Dp.okE {K:Nat} {p0:List Aa} {r:Bool} (h:Dp K p0=some r):Tv V P 121 [.cv (.ro .Af p0)] [] [] (.B r) []:=(Am.upto_ok K K).Dp h
theorem Dp.ok {K:Nat} {p0:List Aa} {r:Bool} (h:Dp K p0=some r):T1 V P 121 [.cv (.ro .Af p0)] (.B r):=(Dp.okE h).pcall (by kernel_rfl)
def C4 (K:Nat) (p0:Aa):Option Bool:=(Am.upto K K).C4 p0
theorem C4.okE {K:Nat} {p0:Aa} {r:Bool} (h:C4 K p0=some r):Tv V P 92 [.agg (Ah p0)] [] [] (.B r) []:=(Am.upto_ok K K).C4 h
theorem C4.ok {K:Nat} {p0:Aa} {r:Bool} (h:C4 K p0=some r):T1 V P 92 [.agg (Ah p0)] (.B r):=(C4.okE h).pcall (by kernel_rfl)
def Db (K:Nat) (p0:Aa):Option Bool:=(Am.upto K K).Db p0
theorem Db.okE {K:Nat} {p0:Aa} {r:Bool} (h:Db K p0=some r):Tv V P 57 [.agg (Ah p0),.cv (.pcs [.fn (.func 92) [] []] 0)] [] [] (.B r) []:=(Am.upto_ok K K).Db h
theorem Db.ok {K:Nat} {p0:Aa} {r:Bool} (h:Db K p0=some r):T1 V P 57 [.agg (Ah p0),.cv (.pcs [.fn (.func 92) [] []] 0)] (.B r):=(Db.okE h).pcall (by kernel_rfl)
def Ci (K:Nat) (p0:List Aa):Option Int:=(Am.upto K K).Ci p0
theorem Ci.okE {K:Nat} {p0:List Aa} {r:Int} (h:Ci K p0=some r):Tv V P 90 [.cv (.ro .Af p0),.cv (.fn (.func 57) [] [.pcs [.fn (.func 92) [] []] 0])] [] [] (.I r) []:=(Am.upto_ok K K).Ci h
theorem Ci.ok {K:Nat} {p0:List Aa} {r:Int} (h:Ci K p0=some r):T1 V P 90 [.cv (.ro .Af p0),.cv (.fn (.func 57) [] [.pcs [.fn (.func 92) [] []] 0])] (.I r):=(Ci.okE h).pcall (by kernel_rfl)
def Co (K:Nat) (p0:List Aa):Option Bool:=(Am.upto K K).Co p0
theorem Co.okE {K:Nat} {p0:List Aa} {r:Bool} (h:Co K p0=some r):Tv V P 56 [.cv (.ro .Af p0),.cv (.fn (.func 57) [] [.pcs [.fn (.func 92) [] []] 0])] [] [] (.B r) []:=(Am.upto_ok K K).Co h
theorem Co.ok {K:Nat} {p0:List Aa} {r:Bool} (h:Co K p0=some r):T1 V P 56 [.cv (.ro .Af p0),.cv (.fn (.func 57) [] [.pcs [.fn (.func 92) [] []] 0])] (.B r):=(Co.okE h).pcall (by kernel_rfl)
def Do (K:Nat) (p0:List Aa):Option Bool:=(Am.upto K K).Do p0
theorem Do.okE {K:Nat} {p0:List Aa} {r:Bool} (h:Do K p0=some r):Tv V P 30 [.cv (.ro .Af p0),.cv (.fn (.func 92) [] [])] [] [] (.B r) []:=(Am.upto_ok K K).Do h
theorem Do.ok {K:Nat} {p0:List Aa} {r:Bool} (h:Do K p0=some r):T1 V P 30 [.cv (.ro .Af p0),.cv (.fn (.func 92) [] [])] (.B r):=(Do.okE h).pcall (by kernel_rfl)
def Ck (K:Nat) (p0:Aa):Option Bool:=(Am.upto K K).Ck p0
theorem Ck.okE {K:Nat} {p0:Aa} {r:Bool} (h:Ck K p0=some r):Tv V P 60 [.agg (Ah p0)] [] [] (.B r) []:=(Am.upto_ok K K).Ck h
theorem Ck.ok {K:Nat} {p0:Aa} {r:Bool} (h:Ck K p0=some r):T1 V P 60 [.agg (Ah p0)] (.B r):=(Ck.okE h).pcall (by kernel_rfl)
def Eg (K:Nat) (p0:Aa):Option Bool:=(if p0.Op=6 then (Option.bind (B7 K p0) (fun a1=>some a1)) else some false)
theorem Eg.body {Γ:Ud} {K:Nat} {p0:Aa} {r:Bool} (h:Eg K p0=some r):Ub V P 10 100 Γ (Tryz.f61.body.getD .skip) (Ty P V Tryz.f61 (.B r) []) ⟨Tx 0 [.agg (Ah p0)],[]⟩:=by
 unfold Eg at h;refine Tw L 200 <| Tm ?_;rcases Tn h with ⟨c1,h⟩ |⟨c1,h⟩
 ·obtain ⟨a1,h1,h⟩:=bind_some h;refine rg L 203 [(3,true)] [(5,.B a1)] [] (Tq (decide_eq_true c1) (Tq (B7.ok h1) (Tu trivial))) ?_;refine To ?_;cases h;exact T3
 refine rg L 203 [(3,false)] [] [] (Tu (decide_eq_false c1)) ?_;refine To ?_;cases h;exact T3
theorem Eg.ok {K:Nat} {p0:Aa} {r:Bool} (h:Eg K p0=some r):T1 V P 61 [.agg (Ah p0)] (.B r):=Tv.pcall (eo (fn:=Tryz.f61) (n:=10) (m:=100) fun Γ=>Eg.body h) (by kernel_rfl)
def Ex (K:Nat) (p0:Aa):Option Bool:=(Option.bind (Eg K p0) (fun a1=>some (!a1)))
theorem Ex.body {Γ:Ud} {K:Nat} {p0:Aa} {r:Bool} (h:Ex K p0=some r):Ub V P 8 100 Γ (Tryz.f57.body.getD .skip) (Ty P V Tryz.f57 (.B r) []) ⟨Tx 0 [.agg (Ah p0),.cv (.pcs [.fn (.func 61) [] []] 0)],[]⟩:=by
 unfold Ex at h;refine Tw L 200 <| Tm ?_;obtain ⟨a1,h1,h⟩:=bind_some h;refine rg L 203 [] [(2,.B a1)] [] (U4 (Eg.ok h1)) ?_;refine To ?_;cases h;exact T3
theorem Ex.ok {K:Nat} {p0:Aa} {r:Bool} (h:Ex K p0=some r):T1 V P 57 [.agg (Ah p0),.cv (.pcs [.fn (.func 61) [] []] 0)] (.B r):=Tv.pcall (eo (fn:=Tryz.f57) (n:=8) (m:=100) fun Γ=>Ex.body h) (by kernel_rfl)
def Ds.l7 (K:Nat) (p0:List Aa):Nat→Int→Option (T5 Int Unit)
 | 0,_=>none
 | k+1,a=>(if a <(p0.length:Int) then (if (0:Int)≤a∧(a:Int) <(p0.length:Int) then (Option.bind (Ex K (p0.getD (Int.toNat a) B5)) (fun a1=>(if a1=true then some (T5.done a) else Ds.l7 K p0 k (IntKind.i64.wrap (a+1))))) else none) else some (T5.go ()))
def Ds (K:Nat) (p0:List Aa):Option Int:=(obind (Ds.l7 K p0 K 0:Option (T5 Int Unit)) (fun r=>r) (fun _=>some (-1)))
theorem Ds.body {Γ:Ud} {K:Nat} {p0:List Aa} {r:Int} (h:Ds K p0=some r):Ub V P 19 100 Γ (Tryz.f90.body.getD .skip) (Ty P V Tryz.f90 (.I r) []) ⟨Tx 0 [.cv (.ro .Af p0),.cv (.fn (.func 57) [] [.pcs [.fn (.func 61) [] []] 0])],[]⟩:=by
 unfold Ds at h;refine Tw L 200 <| Tm <| Tw L 202 <| Tt <| kp (S':=⟨[(0,.cv (.ro .Af p0)),(1,.cv (.fn (.func 57) [] [.pcs [.fn (.func 61) [] []] 0])),(7,.I (p0.length:Int)),(8,.I 0)],[]⟩) ?_;obtain ⟨o1,hp1,h⟩:=T7 h;refine T4 (Q':=fun e S=>(e=.exit 0∧S=⟨[],[]⟩∧T5.go ()=o1)∨(e=.ret∧∃ a,T5.done a=o1∧Ty P V Tryz.f90 (.I a) [] .ret S)) (T8 (fun k S=>∃ b:Int,S=⟨[(0,.cv (.ro .Af p0)),(1,.cv (.fn (.func 57) [] [.pcs [.fn (.func 61) [] []] 0])),(7,.I (p0.length:Int)),(8,.I b)],[]⟩∧Ds.l7 K p0 k b=some o1) ?_ ⟨_,rfl,hp1⟩) ?_
 ·clear h hp1;intro k S hS;obtain ⟨b,rfl,h⟩:=hS;cases k with
  | zero=>cases h
  | succ k =>
  unfold Ds.l7 at h;refine Tw L 206 <| Tm ?_;rcases Tn h with ⟨c1,h⟩ |⟨c1,h⟩
  ·refine tT c1 <| Tr <| Tm <| Tt <| Tw L 208 <| Tm ?_;obtain ⟨g1,h⟩:=Ts h;obtain ⟨a1,h1,h⟩:=bind_some h;refine rg L 211 [] [(5,.B a1)] [] (Tq g1.1 (Tq g1.2 (Tq (Ex.ok h1) (Tu trivial)))) ?_;rcases Tn h with ⟨c2,h⟩ |⟨c2,h⟩
   ·refine tt c2 <| Tw L 218 <| To ?_;cases h;exact .inr ⟨rfl,_,rfl,T3⟩
   refine fN c2 <| Tr <| Xi L 221 [] [] [] (S':=⟨[(0,.cv (.ro .Af p0)),(1,.cv (.fn (.func 57) [] [.pcs [.fn (.func 61) [] []] 0])),(7,.I (p0.length:Int)),(8,.I (IntKind.i64.wrap (b+1)))],[]⟩) ?_;exact ⟨k,Nat.lt_succ_self k,_,rfl,h⟩
  refine fF c1 <| ex (S':=⟨[],[]⟩) ?_;cases h;exact .inl ⟨rfl,rfl,rfl⟩
 ·rintro e S (⟨rfl,rfl,rfl⟩ |⟨rfl,a,rfl,hr⟩)
  ·rcases h with ⟨_,e1,h⟩ |⟨_,e1,h⟩
   ·cases e1
   ·have e2:=T5.go.inj e1;subst e2;refine ⟨_,Tl.refl,?_⟩;refine Tw L 224 <| To ?_;cases h;exact T3
  ·rcases h with ⟨_,e1,h⟩ |⟨_,e1,h⟩
   ·have e2:=T5.done.inj e1;subst e2;subst h;exact ⟨_,Tl.refl,hr⟩
   ·cases e1
theorem Ds.ok {K:Nat} {p0:List Aa} {r:Int} (h:Ds K p0=some r):T1 V P 90 [.cv (.ro .Af p0),.cv (.fn (.func 57) [] [.pcs [.fn (.func 61) [] []] 0])] (.I r):=Tv.pcall (eo (fn:=Tryz.f90) (n:=19) (m:=100) fun Γ=>Ds.body h) (by kernel_rfl)
def Ed (K:Nat) (p0:List Aa):Option Bool:=(Option.bind (Ds K p0) (fun a1=>some (decide (a1≥0))))
theorem Ed.body {Γ:Ud} {K:Nat} {p0:List Aa} {r:Bool} (h:Ed K p0=some r):Ub V P 9 100 Γ (Tryz.f56.body.getD .skip) (Ty P V Tryz.f56 (.B r) []) ⟨Tx 0 [.cv (.ro .Af p0),.cv (.fn (.func 57) [] [.pcs [.fn (.func 61) [] []] 0])],[]⟩:=by
 unfold Ed at h;refine Tw L 200 <| Tm ?_;obtain ⟨a1,h1,h⟩:=bind_some h;refine rg L 202 [] [(2,.I a1)] [] (U4 (Ds.ok h1)) ?_;refine To ?_;cases h;exact T3
theorem Ed.ok {K:Nat} {p0:List Aa} {r:Bool} (h:Ed K p0=some r):T1 V P 56 [.cv (.ro .Af p0),.cv (.fn (.func 57) [] [.pcs [.fn (.func 61) [] []] 0])] (.B r):=Tv.pcall (eo (fn:=Tryz.f56) (n:=9) (m:=100) fun Γ=>Ed.body h) (by kernel_rfl)
def E8 (K:Nat) (p0:List Aa):Option Bool:=(Option.bind (Ed K p0) (fun a1=>some (!a1)))
theorem E8.body {Γ:Ud} {K:Nat} {p0:List Aa} {r:Bool} (h:E8 K p0=some r):Ub V P 9 100 Γ (Tryz.f30.body.getD .skip) (Ty P V Tryz.f30 (.B r) []) ⟨Tx 0 [.cv (.ro .Af p0),.cv (.fn (.func 61) [] [])],[]⟩:=by
 unfold E8 at h;refine Tw L 200 <| Tm ?_;obtain ⟨a1,h1,h⟩:=bind_some h;refine rg L 203 [] [(2,.B a1)] [] (U4 (Ed.ok h1)) ?_;refine To ?_;cases h;exact T3
theorem E8.ok {K:Nat} {p0:List Aa} {r:Bool} (h:E8 K p0=some r):T1 V P 30 [.cv (.ro .Af p0),.cv (.fn (.func 61) [] [])] (.B r):=Tv.pcall (eo (fn:=Tryz.f30) (n:=9) (m:=100) fun Γ=>E8.body h) (by kernel_rfl)
def En (K:Nat) (p0:Aa):Option Bool:=(if (IntKind.i64.wrap ((p0.Kids.length:Int) - 1)) < 0 then some false else (Option.bind (B4 K p0.Name) (fun a1=>(if a1=true then (if p0.Op=61 then (Option.bind (Ay K p0 true false false) (fun a2=>(if a2=true then (if (IntKind.i64.wrap ((p0.Kids.length:Int) - 1))=0 then (if (0:Int) <(p0.Kids.length:Int) then (Option.bind (Ez K (p0.Kids.getD (Int.toNat 0) B5)) (fun a3=>some a3)) else none) else some false) else some false))) else (if p0.Op=62 then (Option.bind (Ay K p0 true false false) (fun a4=>(if a4=true then (if (0:Int)≤(IntKind.i64.wrap ((p0.Kids.length:Int) - 1))∧((IntKind.i64.wrap ((p0.Kids.length:Int) - 1)):Int) <(p0.Kids.length:Int) then (Option.bind (Ck K (p0.Kids.getD (Int.toNat (IntKind.i64.wrap ((p0.Kids.length:Int) - 1))) B5)) (fun a5=>(if a5=true then (if (IntKind.i64.wrap ((p0.Kids.length:Int) - 1))≤(p0.Kids.length:Int) then (Option.bind (E8 K (slc p0.Kids 0 (IntKind.i64.wrap ((p0.Kids.length:Int) - 1)))) (fun a6=>some a6)) else none) else some false))) else none) else some false))) else (Option.bind ((if p0.Op=63 then some (decide (p0.Op=63)) else some (decide (p0.Op=64))):Option Bool) (fun a=>(if a=true then (Option.bind (Ay K p0 true true false) (fun a7=>(if a7=true then (Option.bind (B4 K p0.Text) (fun a8=>(if a8=true then (if (IntKind.i64.wrap ((p0.Kids.length:Int) - 1))=0 then (if (0:Int) <(p0.Kids.length:Int) then (Option.bind (Ck K (p0.Kids.getD (Int.toNat 0) B5)) (fun a9=>some a9)) else none) else some false) else some false))) else some false))) else (if p0.Op=65 then (Option.bind (Ay K p0 true true false) (fun a10=>(if a10=true then (Option.bind (B4 K p0.Text) (fun a11=>(if a11=true then (if (IntKind.i64.wrap ((p0.Kids.length:Int) - 1))≤1 then (Option.bind (Dj K p0.Kids) (fun a12=>some a12)) else some false) else some false))) else some false))) else some false)))))) else some false))))
theorem En.body {Γ:Ud} {K:Nat} {p0:Aa} {r:Bool} (h:En K p0=some r):Ub V P 91 100 Γ (Tryz.f31.body.getD .skip) (Ty P V Tryz.f31 (.B r) []) ⟨Tx 0 [.agg (Ah p0)],[]⟩:=by
 unfold En at h;refine Tw L 200 <| Tw L 203 <| Tm <| Tm ?_;rcases Tn h with ⟨c1,h⟩ |⟨c1,h⟩
 ·refine rg L 209 [(2,true)] [] [] (Tu (decide_eq_true c1)) ?_;refine tt (b:=true) (rfl) ?_;refine Tw L 218 <| To ?_;cases h;exact T3
 obtain ⟨a1,h1,h⟩:=bind_some h;refine rg L 209 [(2,false)] [(5,.B a1)] [] (Tq (decide_eq_false c1) (Tq (B4.ok h1) (Tu trivial))) ?_;rcases Tn h with ⟨c2,h⟩ |⟨c2,h⟩
 ·refine ff (b:=(!a1)) (congrArg Bool.not (c2)) ?_;refine Tr <| Tm <| Tw L 220 <| Tt <| Tw L 223 ?_;rcases Tn h with ⟨c3,h⟩ |⟨c3,h⟩
  ·refine tT c3 <| Tm ?_;obtain ⟨a2,h2,h⟩:=bind_some h;rcases Tn h with ⟨c4,h⟩ |⟨c4,h⟩
   ·rcases Tn h with ⟨c5,h⟩ |⟨c5,h⟩
    ·obtain ⟨g1,h⟩:=Ts h;obtain ⟨a3,h3,h⟩:=bind_some h;refine rg L 226 [(2,true),(6,true)] [(1,.B a2),(11,.B a3)] [] (Tq (Ay.ok h2) (Tq trivial (Tq c4 (Tq (decide_eq_true c5) (Tq (show (0:Int)≤0 from by decide) (Tq g1 (Tq (Ez.ok h3) (Tu trivial)))))))) ?_;refine To ?_;cases h;exact T3
    refine rg L 226 [(2,true),(6,false)] [(1,.B a2)] [] (Tq (Ay.ok h2) (Tq trivial (Tq c4 (Tu (decide_eq_false c5))))) ?_;refine To ?_;cases h;exact T3
   refine rg L 226 [(2,false)] [(1,.B a2)] [] (Tq (Ay.ok h2) (Tq trivial (Tu (eq_false_of_ne_true c4)))) ?_;refine To ?_;cases h;exact T3
  refine fF c3 <| Tw L 241 ?_;rcases Tn h with ⟨c6,h⟩ |⟨c6,h⟩
  ·refine tT c6 <| Tm ?_;obtain ⟨a4,h4,h⟩:=bind_some h;rcases Tn h with ⟨c7,h⟩ |⟨c7,h⟩
   ·obtain ⟨g2,h⟩:=Ts h;obtain ⟨a5,h5,h⟩:=bind_some h;rcases Tn h with ⟨c8,h⟩ |⟨c8,h⟩
    ·obtain ⟨g3,h⟩:=Ts h;obtain ⟨a6,h6,h⟩:=bind_some h;refine rg L 244 [(2,true),(10,true)] [(1,.B a4),(8,.B a5),(15,.B a6)] [] (Tq (Ay.ok h4) (Tq trivial (Tq c7 (Tq g2.1 (Tq g2.2 (Tq (Ck.ok h5) (Tq trivial (Tq c8 (Tq (show (0:Int)≤0 from Int.le_refl _) (Tq g2.1 (Tq g3 (Tq (E8.ok h6) (Tu trivial))))))))))))) ?_;refine To ?_;cases h;exact T3
    refine rg L 244 [(2,true),(10,false)] [(1,.B a4),(8,.B a5)] [] (Tq (Ay.ok h4) (Tq trivial (Tq c7 (Tq g2.1 (Tq g2.2 (Tq (Ck.ok h5) (Tq trivial (Tu (eq_false_of_ne_true c8))))))))) ?_;refine To ?_;cases h;exact T3
   refine rg L 244 [(2,false)] [(1,.B a4)] [] (Tq (Ay.ok h4) (Tq trivial (Tu (eq_false_of_ne_true c7)))) ?_;refine To ?_;cases h;exact T3
  refine fF c6 ?_;obtain ⟨o1,hp1,h⟩:=bind_some h;refine Tm (Uc (Q':=fun e S=>(e=.normal∧∃ a:Bool,S=⟨[(1,.P 25800),(3,.I (IntKind.i64.wrap ((p0.Kids.length:Int) - 1))),(17,.I p0.Op),(52,.B a)],[(25800,.raw (Ah p0))]⟩∧a=o1)) ?_ ?_)
  ·clear h;replace h:=hp1;refine Tw L 263 ?_;rcases Tn h with ⟨c9,h⟩ |⟨c9,h⟩
   ·refine tT c9 <| Tp (Tl.trans (Tl.kk [1,3,17,52] [200]) (Tl.rr [(200,25800)])) ?_;refine sk (S':=⟨[(1,.P 25800),(3,.I (IntKind.i64.wrap ((p0.Kids.length:Int) - 1))),(17,.I p0.Op),(52,.B (decide (p0.Op=63)))],[(25800,.raw (Ah p0))]⟩) ?_;cases h;exact ⟨rfl,_,rfl,rfl⟩
   refine fF c9 <| Tz (Yr L 266 ⟨rfl,rfl⟩) (Tl.trans (Tl.kk [1,3,17,52] [200]) (Tl.trans (Tl.rr [(200,25800)]) (Tl.kp (S':=⟨[(1,.P 25800),(3,.I (IntKind.i64.wrap ((p0.Kids.length:Int) - 1))),(17,.I p0.Op),(52,.B (decide (p0.Op=64)))],[(25800,.raw (Ah p0))]⟩)))) ?_;cases h;exact ⟨rfl,_,rfl,rfl⟩
  ·rintro e S ⟨rfl,a,rfl,rfl⟩;rcases Tn h with ⟨c10,h⟩ |⟨c10,h⟩
   ·refine tt c10 <| Tm ?_;obtain ⟨a7,h7,h⟩:=bind_some h;rcases Tn h with ⟨c11,h⟩ |⟨c11,h⟩
    ·obtain ⟨a8,h8,h⟩:=bind_some h;rcases Tn h with ⟨c12,h⟩ |⟨c12,h⟩
     ·rcases Tn h with ⟨c13,h⟩ |⟨c13,h⟩
      ·obtain ⟨g4,h⟩:=Ts h;obtain ⟨a9,h9,h⟩:=bind_some h;refine rg L 269 [(2,true),(7,true),(11,true)] [(1,.B a7),(5,.B a8),(16,.B a9)] [] (Tq (Ay.ok h7) (Tq trivial (Tq c11 (Tq (B4.ok h8) (Tq trivial (Tq c12 (Tq (decide_eq_true c13) (Tq (show (0:Int)≤0 from by decide) (Tq g4 (Tq (Ck.ok h9) (Tu trivial))))))))))) ?_;refine To ?_;cases h;exact T3
      refine rg L 269 [(2,true),(7,true),(11,false)] [(1,.B a7),(5,.B a8)] [] (Tq (Ay.ok h7) (Tq trivial (Tq c11 (Tq (B4.ok h8) (Tq trivial (Tq c12 (Tu (decide_eq_false c13)))))))) ?_;refine To ?_;cases h;exact T3
     refine rg L 269 [(2,true),(7,false)] [(1,.B a7),(5,.B a8)] [] (Tq (Ay.ok h7) (Tq trivial (Tq c11 (Tq (B4.ok h8) (Tq trivial (Tu (eq_false_of_ne_true c12))))))) ?_;refine To ?_;cases h;exact T3
    refine rg L 269 [(2,false)] [(1,.B a7)] [] (Tq (Ay.ok h7) (Tq trivial (Tu (eq_false_of_ne_true c11)))) ?_;refine To ?_;cases h;exact T3
   refine fN c10 <| Tw L 289 ?_;rcases Tn h with ⟨c14,h⟩ |⟨c14,h⟩
   ·refine tT c14 <| Tm ?_;obtain ⟨a10,h10,h⟩:=bind_some h;rcases Tn h with ⟨c15,h⟩ |⟨c15,h⟩
    ·obtain ⟨a11,h11,h⟩:=bind_some h;rcases Tn h with ⟨c16,h⟩ |⟨c16,h⟩
     ·rcases Tn h with ⟨c17,h⟩ |⟨c17,h⟩
      ·obtain ⟨a12,h12,h⟩:=bind_some h;refine rg L 292 [(2,true),(7,true),(11,true)] [(1,.B a10),(5,.B a11),(14,.B a12)] [] (Tq (Ay.ok h10) (Tq trivial (Tq c15 (Tq (B4.ok h11) (Tq trivial (Tq c16 (Tq (decide_eq_true c17) (Tq (Dj.ok h12) (Tu trivial))))))))) ?_;refine To ?_;cases h;exact T3
      refine rg L 292 [(2,true),(7,true),(11,false)] [(1,.B a10),(5,.B a11)] [] (Tq (Ay.ok h10) (Tq trivial (Tq c15 (Tq (B4.ok h11) (Tq trivial (Tq c16 (Tu (decide_eq_false c17)))))))) ?_;refine To ?_;cases h;exact T3
     refine rg L 292 [(2,true),(7,false)] [(1,.B a10),(5,.B a11)] [] (Tq (Ay.ok h10) (Tq trivial (Tq c15 (Tq (B4.ok h11) (Tq trivial (Tu (eq_false_of_ne_true c16))))))) ?_;refine To ?_;cases h;exact T3
    refine rg L 292 [(2,false)] [(1,.B a10)] [] (Tq (Ay.ok h10) (Tq trivial (Tu (eq_false_of_ne_true c15)))) ?_;refine To ?_;cases h;exact T3
   refine fF c14 <| Tr <| Tw L 310 <| To ?_;cases h;exact T3
 refine tt (b:=(!a1)) (congrArg Bool.not (eq_false_of_ne_true c2)) ?_;refine Tw L 218 <| To ?_;cases h;exact T3
theorem En.ok {K:Nat} {p0:Aa} {r:Bool} (h:En K p0=some r):T1 V P 31 [.agg (Ah p0)] (.B r):=Tv.pcall (eo (fn:=Tryz.f31) (n:=91) (m:=100) fun Γ=>En.body h) (by kernel_rfl)
def Fa (K:Nat) (p0:Aa):Option Bool:=(Option.bind (En K p0) (fun a1=>some (!a1)))
theorem Fa.body {Γ:Ud} {K:Nat} {p0:Aa} {r:Bool} (h:Fa K p0=some r):Ub V P 8 100 Γ (Tryz.f57.body.getD .skip) (Ty P V Tryz.f57 (.B r) []) ⟨Tx 0 [.agg (Ah p0),.cv (.pcs [.fn (.func 31) [] []] 0)],[]⟩:=by
 unfold Fa at h;refine Tw L 200 <| Tm ?_;obtain ⟨a1,h1,h⟩:=bind_some h;refine rg L 203 [] [(2,.B a1)] [] (U4 (En.ok h1)) ?_;refine To ?_;cases h;exact T3
theorem Fa.ok {K:Nat} {p0:Aa} {r:Bool} (h:Fa K p0=some r):T1 V P 57 [.agg (Ah p0),.cv (.pcs [.fn (.func 31) [] []] 0)] (.B r):=Tv.pcall (eo (fn:=Tryz.f57) (n:=8) (m:=100) fun Γ=>Fa.body h) (by kernel_rfl)
def D0.l7 (K:Nat) (p0:List Aa):Nat→Int→Option (T5 Int Unit)
 | 0,_=>none
 | k+1,a=>(if a <(p0.length:Int) then (if (0:Int)≤a∧(a:Int) <(p0.length:Int) then (Option.bind (Fa K (p0.getD (Int.toNat a) B5)) (fun a1=>(if a1=true then some (T5.done a) else D0.l7 K p0 k (IntKind.i64.wrap (a+1))))) else none) else some (T5.go ()))
def D0 (K:Nat) (p0:List Aa):Option Int:=(obind (D0.l7 K p0 K 0:Option (T5 Int Unit)) (fun r=>r) (fun _=>some (-1)))
theorem D0.body {Γ:Ud} {K:Nat} {p0:List Aa} {r:Int} (h:D0 K p0=some r):Ub V P 19 100 Γ (Tryz.f90.body.getD .skip) (Ty P V Tryz.f90 (.I r) []) ⟨Tx 0 [.cv (.ro .Af p0),.cv (.fn (.func 57) [] [.pcs [.fn (.func 31) [] []] 0])],[]⟩:=by
 unfold D0 at h;refine Tw L 200 <| Tm <| Tw L 202 <| Tt <| kp (S':=⟨[(0,.cv (.ro .Af p0)),(1,.cv (.fn (.func 57) [] [.pcs [.fn (.func 31) [] []] 0])),(7,.I (p0.length:Int)),(8,.I 0)],[]⟩) ?_;obtain ⟨o1,hp1,h⟩:=T7 h;refine T4 (Q':=fun e S=>(e=.exit 0∧S=⟨[],[]⟩∧T5.go ()=o1)∨(e=.ret∧∃ a,T5.done a=o1∧Ty P V Tryz.f90 (.I a) [] .ret S)) (T8 (fun k S=>∃ b:Int,S=⟨[(0,.cv (.ro .Af p0)),(1,.cv (.fn (.func 57) [] [.pcs [.fn (.func 31) [] []] 0])),(7,.I (p0.length:Int)),(8,.I b)],[]⟩∧D0.l7 K p0 k b=some o1) ?_ ⟨_,rfl,hp1⟩) ?_
 ·clear h hp1;intro k S hS;obtain ⟨b,rfl,h⟩:=hS;cases k with
  | zero=>cases h
  | succ k =>
  unfold D0.l7 at h;refine Tw L 206 <| Tm ?_;rcases Tn h with ⟨c1,h⟩ |⟨c1,h⟩
  ·refine tT c1 <| Tr <| Tm <| Tt <| Tw L 208 <| Tm ?_;obtain ⟨g1,h⟩:=Ts h;obtain ⟨a1,h1,h⟩:=bind_some h;refine rg L 211 [] [(5,.B a1)] [] (Tq g1.1 (Tq g1.2 (Tq (Fa.ok h1) (Tu trivial)))) ?_;rcases Tn h with ⟨c2,h⟩ |⟨c2,h⟩
   ·refine tt c2 <| Tw L 218 <| To ?_;cases h;exact .inr ⟨rfl,_,rfl,T3⟩
   refine fN c2 <| Tr <| Xi L 221 [] [] [] (S':=⟨[(0,.cv (.ro .Af p0)),(1,.cv (.fn (.func 57) [] [.pcs [.fn (.func 31) [] []] 0])),(7,.I (p0.length:Int)),(8,.I (IntKind.i64.wrap (b+1)))],[]⟩) ?_;exact ⟨k,Nat.lt_succ_self k,_,rfl,h⟩
  refine fF c1 <| ex (S':=⟨[],[]⟩) ?_;cases h;exact .inl ⟨rfl,rfl,rfl⟩
 ·rintro e S (⟨rfl,rfl,rfl⟩ |⟨rfl,a,rfl,hr⟩)
  ·rcases h with ⟨_,e1,h⟩ |⟨_,e1,h⟩
   ·cases e1
   ·have e2:=T5.go.inj e1;subst e2;refine ⟨_,Tl.refl,?_⟩;refine Tw L 224 <| To ?_;cases h;exact T3
  ·rcases h with ⟨_,e1,h⟩ |⟨_,e1,h⟩
   ·have e2:=T5.done.inj e1;subst e2;subst h;exact ⟨_,Tl.refl,hr⟩
   ·cases e1
theorem D0.ok {K:Nat} {p0:List Aa} {r:Int} (h:D0 K p0=some r):T1 V P 90 [.cv (.ro .Af p0),.cv (.fn (.func 57) [] [.pcs [.fn (.func 31) [] []] 0])] (.I r):=Tv.pcall (eo (fn:=Tryz.f90) (n:=19) (m:=100) fun Γ=>D0.body h) (by kernel_rfl)
def Ej (K:Nat) (p0:List Aa):Option Bool:=(Option.bind (D0 K p0) (fun a1=>some (decide (a1≥0))))
theorem Ej.body {Γ:Ud} {K:Nat} {p0:List Aa} {r:Bool} (h:Ej K p0=some r):Ub V P 9 100 Γ (Tryz.f56.body.getD .skip) (Ty P V Tryz.f56 (.B r) []) ⟨Tx 0 [.cv (.ro .Af p0),.cv (.fn (.func 57) [] [.pcs [.fn (.func 31) [] []] 0])],[]⟩:=by
 unfold Ej at h;refine Tw L 200 <| Tm ?_;obtain ⟨a1,h1,h⟩:=bind_some h;refine rg L 202 [] [(2,.I a1)] [] (U4 (D0.ok h1)) ?_;refine To ?_;cases h;exact T3
theorem Ej.ok {K:Nat} {p0:List Aa} {r:Bool} (h:Ej K p0=some r):T1 V P 56 [.cv (.ro .Af p0),.cv (.fn (.func 57) [] [.pcs [.fn (.func 31) [] []] 0])] (.B r):=Tv.pcall (eo (fn:=Tryz.f56) (n:=9) (m:=100) fun Γ=>Ej.body h) (by kernel_rfl)
def Fp (K:Nat) (p0:List Aa):Option Bool:=(Option.bind (Ej K p0) (fun a1=>some (!a1)))
theorem Fp.body {Γ:Ud} {K:Nat} {p0:List Aa} {r:Bool} (h:Fp K p0=some r):Ub V P 9 100 Γ (Tryz.f30.body.getD .skip) (Ty P V Tryz.f30 (.B r) []) ⟨Tx 0 [.cv (.ro .Af p0),.cv (.fn (.func 31) [] [])],[]⟩:=by
 unfold Fp at h;refine Tw L 200 <| Tm ?_;obtain ⟨a1,h1,h⟩:=bind_some h;refine rg L 203 [] [(2,.B a1)] [] (U4 (Ej.ok h1)) ?_;refine To ?_;cases h;exact T3
theorem Fp.ok {K:Nat} {p0:List Aa} {r:Bool} (h:Fp K p0=some r):T1 V P 30 [.cv (.ro .Af p0),.cv (.fn (.func 31) [] [])] (.B r):=Tv.pcall (eo (fn:=Tryz.f30) (n:=9) (m:=100) fun Γ=>Fp.body h) (by kernel_rfl)
def Fj (K:Nat) (p0:Aa):Option Bool:=(Option.bind (E6 K p0) (fun a1=>(if a1=true then (if p0.Op=60 then (Option.bind (Ay K p0 false false false) (fun a2=>(if a2=true then (Option.bind (Fp K p0.Kids) (fun a3=>some a3)) else some false))) else some false) else some false)))
theorem Fj.body {Γ:Ud} {K:Nat} {p0:Aa} {r:Bool} (h:Fj K p0=some r):Ub V P 19 100 Γ (Tryz.f13.body.getD .skip) (Ty P V Tryz.f13 (.B r) []) ⟨Tx 0 [.agg (Ah p0)],[]⟩:=by
 unfold Fj at h;refine Tw L 200 <| Tm ?_;obtain ⟨a1,h1,h⟩:=bind_some h;rcases Tn h with ⟨c1,h⟩ |⟨c1,h⟩
 ·rcases Tn h with ⟨c2,h⟩ |⟨c2,h⟩
  ·obtain ⟨a2,h2,h⟩:=bind_some h;rcases Tn h with ⟨c3,h⟩ |⟨c3,h⟩
   ·obtain ⟨a3,h3,h⟩:=bind_some h;refine rg L 203 [(2,true),(7,true),(11,true)] [(1,.B a1),(9,.B a2),(14,.B a3)] [] (Tq (E6.ok h1) (Tq trivial (Tq c1 (Tq (decide_eq_true c2) (Tq (Ay.ok h2) (Tq trivial (Tq c3 (Tq (Fp.ok h3) (Tu trivial))))))))) ?_;refine To ?_;cases h;exact T3
   refine rg L 203 [(2,true),(7,true),(11,false)] [(1,.B a1),(9,.B a2)] [] (Tq (E6.ok h1) (Tq trivial (Tq c1 (Tq (decide_eq_true c2) (Tq (Ay.ok h2) (Tq trivial (Tu (eq_false_of_ne_true c3)))))))) ?_;refine To ?_;cases h;exact T3
  refine rg L 203 [(2,true),(7,false)] [(1,.B a1)] [] (Tq (E6.ok h1) (Tq trivial (Tq c1 (Tu (decide_eq_false c2))))) ?_;refine To ?_;cases h;exact T3
 refine rg L 203 [(2,false)] [(1,.B a1)] [] (Tq (E6.ok h1) (Tq trivial (Tu (eq_false_of_ne_true c1)))) ?_;refine To ?_;cases h;exact T3
theorem Fj.ok {K:Nat} {p0:Aa} {r:Bool} (h:Fj K p0=some r):T1 V P 13 [.agg (Ah p0)] (.B r):=Tv.pcall (eo (fn:=Tryz.f13) (n:=19) (m:=100) fun Γ=>Fj.body h) (by kernel_rfl)
def Dl (K:Nat):Option Bool:=(Option.bind (Fl K ([97,32,43,32,98,32,42,32,50]:List UInt8)) (fun (b,g,c)=>(Option.bind (Fl K ([97,32,60,32,98,32,60,32,99]:List UInt8)) (fun (h,d,e)=>(Option.bind (Ek K ([102,117,110,99,32,102,40,120,41,32,123,32,114,101,116,117,114,110,32,120,59,32,125]:List UInt8)) (fun (a,i,f)=>(if c=0 then (Option.bind (Bg K b ((⟨18,[],0,[],([(⟨6,([97]:List UInt8),0,[],([]:List Aa)⟩:Aa),(⟨15,[],0,[],([(⟨6,([98]:List UInt8),0,[],([]:List Aa)⟩:Aa),(⟨4,[],2,[],([]:List Aa)⟩:Aa)]:List Aa)⟩:Aa)]:List Aa)⟩:Aa))) (fun a4=>(if a4=true then (if d=6 then (if e=29 then (if f=0 then (Option.bind (Fj K a) (fun a5=>(if a5=true then (Option.bind (C3 K a) (fun a6=>some (decide (a6=6)))) else some false))) else some false) else some false) else some false) else some false))) else some false)))))))
theorem Dl.body {Γ:Ud} {K:Nat} {r:Bool} (h:Dl K=some r):Ub V P 61 100 Γ (Tryz.f9.body.getD .skip) (Ty P V Tryz.f9 (.B r) []) ⟨Tx 0 [],[]⟩:=by
 unfold Dl at h;refine Tw L 200 <| Tm ?_;obtain ⟨⟨a,b,c⟩,h1,h⟩:=bind_some h;dsimp only at h;refine rg L 202 [] [(0,.tup [.agg (Ah a),.I b,.I c])] [] (U4 (Fl.ok h1)) ?_;refine Tm ?_;obtain ⟨⟨d,e,f⟩,h2,h⟩:=bind_some h;dsimp only at h;refine rg L 212 [] [(0,.tup [.agg (Ah d),.I e,.I f])] [] (U4 (Fl.ok h2)) ?_;refine Tm ?_;obtain ⟨⟨g,i,j⟩,h3,h⟩:=bind_some h;dsimp only at h;refine rg L 222 [] [(0,.tup [.agg (Ah g),.I i,.I j])] [] (U4 (Ek.ok h3)) ?_;refine Tw L 232 <| Tm ?_;rcases Tn h with ⟨c1,h⟩ |⟨c1,h⟩
 ·obtain ⟨a4,h4,h⟩:=bind_some h;rcases Tn h with ⟨c2,h⟩ |⟨c2,h⟩
  ·rcases Tn h with ⟨c3,h⟩ |⟨c3,h⟩
   ·rcases Tn h with ⟨c4,h⟩ |⟨c4,h⟩
    ·rcases Tn h with ⟨c5,h⟩ |⟨c5,h⟩
     ·obtain ⟨a5,h5,h⟩:=bind_some h;rcases Tn h with ⟨c6,h⟩ |⟨c6,h⟩
      ·obtain ⟨a6,h6,h⟩:=bind_some h;refine rg L 242 [(2,true),(7,true),(11,true),(15,true),(19,true),(23,true)] [(5,.B a4),(21,.B a5),(25,.I a6)] [] (Tq (decide_eq_true c1) (Tq (Bg.ok h4) (Tq trivial (Tq c2 (Tq (decide_eq_true c3) (Tq (decide_eq_true c4) (Tq (decide_eq_true c5) (Tq (Fj.ok h5) (Tq trivial (Tq c6 (Tq (C3.ok h6) (Tu trivial)))))))))))) ?_;refine To ?_;cases h;exact T3
      refine rg L 242 [(2,true),(7,true),(11,true),(15,true),(19,true),(23,false)] [(5,.B a4),(21,.B a5)] [] (Tq (decide_eq_true c1) (Tq (Bg.ok h4) (Tq trivial (Tq c2 (Tq (decide_eq_true c3) (Tq (decide_eq_true c4) (Tq (decide_eq_true c5) (Tq (Fj.ok h5) (Tq trivial (Tu (eq_false_of_ne_true c6))))))))))) ?_;refine To ?_;cases h;exact T3
     refine rg L 242 [(2,true),(7,true),(11,true),(15,true),(19,false)] [(5,.B a4)] [] (Tq (decide_eq_true c1) (Tq (Bg.ok h4) (Tq trivial (Tq c2 (Tq (decide_eq_true c3) (Tq (decide_eq_true c4) (Tu (decide_eq_false c5)))))))) ?_;refine To ?_;cases h;exact T3
    refine rg L 242 [(2,true),(7,true),(11,true),(15,false)] [(5,.B a4)] [] (Tq (decide_eq_true c1) (Tq (Bg.ok h4) (Tq trivial (Tq c2 (Tq (decide_eq_true c3) (Tu (decide_eq_false c4))))))) ?_;refine To ?_;cases h;exact T3
   refine rg L 242 [(2,true),(7,true),(11,false)] [(5,.B a4)] [] (Tq (decide_eq_true c1) (Tq (Bg.ok h4) (Tq trivial (Tq c2 (Tu (decide_eq_false c3)))))) ?_;refine To ?_;cases h;exact T3
  refine rg L 242 [(2,true),(7,false)] [(5,.B a4)] [] (Tq (decide_eq_true c1) (Tq (Bg.ok h4) (Tq trivial (Tu (eq_false_of_ne_true c2))))) ?_;refine To ?_;cases h;exact T3
 refine rg L 242 [(2,false)] [] [] (Tu (decide_eq_false c1)) ?_;refine To ?_;cases h;exact T3
theorem Dl.ok {K:Nat} {r:Bool} (h:Dl K=some r):T1 V P 9 [] (.B r):=Tv.pcall (eo (fn:=Tryz.f9) (n:=61) (m:=100) fun Γ=>Dl.body h) (by kernel_rfl)
def Bl (K:Nat) (p0:Ad) (p1:Int):Option Bool:=(if p0.bad=true then some false else (if (0:Int)≤p0.at_∧(p0.at_:Int) <(p0.l.length:Int) then some (decide ((p0.l.getD (Int.toNat p0.at_) Dh).Kind=p1)) else none))
theorem Bl.body {Γ:Ud} {K:Nat} {p0:Ad} {p1:Int} {r:Bool} (h:Bl K p0 p1=some r):Ub V P 25 100 Γ (Tryz.f55.body.getD .skip) (Ty P V Tryz.f55 (.B r) []) ⟨Tx 0 [.cv (.pcs (Ac p0) 0),.I p1],[]⟩:=by
 unfold Bl at h;refine Tw L 200 <| Tm ?_;rcases Tn h with ⟨c1,h⟩ |⟨c1,h⟩
 ·refine rd L mixed 202 [(5,false)] [] [] [] 21 (Tu (show (!p0.bad)=false from congrArg Bool.not (c1))) ?_;refine To ?_;cases h;exact T3
 obtain ⟨g1,h⟩:=Ts h;refine rd L mixed 202 [(5,true)] [] [] [] 21 (Tq (show (!p0.bad)=true from congrArg Bool.not (eq_false_of_ne_true c1)) (Tq g1.1 (Tu g1.2))) ?_;refine To ?_;cases h;exact T3
theorem Bl.ok {K:Nat} {p0:Ad} {p1:Int} {r:Bool} (h:Bl K p0 p1=some r):T1 V P 55 [.cv (.pcs (Ac p0) 0),.I p1] (.B r):=Tv.pcall (eo (fn:=Tryz.f55) (n:=25) (m:=100) fun Γ=>Bl.body h) (by kernel_rfl)
def Cb (K:Nat) (p0:Ad) (p1:List UInt8):Option Bool:=(if (0:Int)≤p0.at_∧(p0.at_:Int) <(p0.l.length:Int) then (if p0.bad=true then some false else (if (p0.l.getD (Int.toNat p0.at_) Dh).Kind=5 then some (decide ((p0.l.getD (Int.toNat p0.at_) Dh).Text=p1)) else (if (p0.l.getD (Int.toNat p0.at_) Dh).Kind=2 then some (decide ((p0.l.getD (Int.toNat p0.at_) Dh).Text=p1)) else some false))) else none)
theorem Cb.body {Γ:Ud} {K:Nat} {p0:Ad} {p1:List UInt8} {r:Bool} (h:Cb K p0 p1=some r):Ub V P 37 100 Γ (Tryz.f114.body.getD .skip) (Ty P V Tryz.f114 (.B r) []) ⟨Tx 0 [.cv (.pcs (Ac p0) 0),.cv (.str p1)],[]⟩:=by
 unfold Cb at h;refine Tw L 200 <| Tm ?_;obtain ⟨g1,h⟩:=Ts h;refine rd L mixed 202 [] [] [] [212] 12 (Vf g1.1 g1.2) ?_;refine Tm ?_;rcases Tn h with ⟨c1,h⟩ |⟨c1,h⟩
 ·refine rg L 215 [(5,false)] [] [] (Tu (show (!p0.bad)=false from congrArg Bool.not (c1))) ?_;refine To ?_;cases h;exact T3
 rcases Tn h with ⟨c2,h⟩ |⟨c2,h⟩
 ·refine rg L 215 [(5,true),(9,true)] [] [] (Vf (show (!p0.bad)=true from congrArg Bool.not (eq_false_of_ne_true c1)) (decide_eq_true c2)) ?_;refine To ?_;cases h;exact T3
 rcases Tn h with ⟨c3,h⟩ |⟨c3,h⟩
 ·refine rg L 215 [(5,true),(9,false),(15,true)] [] [] (Tq (show (!p0.bad)=true from congrArg Bool.not (eq_false_of_ne_true c1)) (Tq (decide_eq_false c2) (Tu (decide_eq_true c3)))) ?_;refine To ?_;cases h;exact T3
 refine rg L 215 [(5,true),(9,false),(15,false)] [] [] (Tq (show (!p0.bad)=true from congrArg Bool.not (eq_false_of_ne_true c1)) (Tq (decide_eq_false c2) (Tu (decide_eq_false c3)))) ?_;refine To ?_;cases h;exact T3
theorem Cb.ok {K:Nat} {p0:Ad} {p1:List UInt8} {r:Bool} (h:Cb K p0 p1=some r):T1 V P 114 [.cv (.pcs (Ac p0) 0),.cv (.str p1)] (.B r):=Tv.pcall (eo (fn:=Tryz.f114) (n:=37) (m:=100) fun Γ=>Cb.body h) (by kernel_rfl)
def Ai (K:Nat) (p0:List UInt8) (p1:Ad):Option (Bool×Ad):=(Option.bind (Cb K p1 p0) (fun a1=>(if a1=true then some (true,(⟨p1.l,(IntKind.i64.wrap (p1.at_+1)),p1.bad⟩:Ad)) else some (false,p1))))
theorem Ai.body {Γ:Ud} {K:Nat} {p0:List UInt8} {p1:Ad} {r:Bool×Ad} (h:Ai K p0 p1=some r):Ub V P 16 100 Γ (Tryz.f80.body.getD .skip) (Ty P V Tryz.f80 (.B r.1) [(0,.raw [.ro .Ap r.2.l,.I r.2.at_,.B r.2.bad])]) ⟨Tx 0 [.P 0,.cv (.str p0)],[(0,.raw (Ac p1))]⟩:=by
 unfold Ai at h;refine Tw L 200 <| Tm <| Tm ?_;obtain ⟨a1,h1,h⟩:=bind_some h;refine rg L 202 [] [(2,.B a1)] [] (U4 (Cb.ok h1)) ?_;rcases Tn h with ⟨c1,h⟩ |⟨c1,h⟩
 ·refine ff (b:=(!a1)) (congrArg Bool.not (c1)) ?_;refine Tr <| Tw L 209 <| Tw L 218 <| To ?_;cases h;exact T3
 refine tt (b:=(!a1)) (congrArg Bool.not (eq_false_of_ne_true c1)) ?_;refine Tw L 207 <| To ?_;cases h;exact T3
theorem Ai.okE {K:Nat} {p0:List UInt8} {p1:Ad} {r:Bool×Ad} (h:Ai K p0 p1=some r):Tv V P 80 [.P 0,.cv (.str p0)] [(0,.raw (Ac p1))] [0] (.B r.1) [(0,.raw [.ro .Ap r.2.l,.I r.2.at_,.B r.2.bad])] :=
 eo (fn:=Tryz.f80) (n:=16) (m:=100) fun Γ=>Ai.body h
def Ca (K:Nat) (p0:Ad):Option ((List UInt8)×Ad):=(Option.bind (Bl K p0 1) (fun a1=>(if a1=true then (if (0:Int)≤(IntKind.i64.wrap ((IntKind.i64.wrap (p0.at_+1)) - 1))∧((IntKind.i64.wrap ((IntKind.i64.wrap (p0.at_+1)) - 1)):Int) <(p0.l.length:Int) then some ((((p0.l.getD (Int.toNat (IntKind.i64.wrap ((IntKind.i64.wrap (p0.at_+1)) - 1))) Dh)).Text,(⟨p0.l,(IntKind.i64.wrap (p0.at_+1)),p0.bad⟩:Ad))) else none) else some (([]:List UInt8),(⟨p0.l,p0.at_,true⟩:Ad)))))
theorem Ca.body {Γ:Ud} {K:Nat} {p0:Ad} {r:(List UInt8)×Ad} (h:Ca K p0=some r):Ub V P 28 100 Γ (Tryz.f81.body.getD .skip) (Ty P V Tryz.f81 (.cv (.str r.1)) [(0,.raw [.ro .Ap r.2.l,.I r.2.at_,.B r.2.bad])]) ⟨Tx 0 [.P 0],[(0,.raw (Ac p0))]⟩:=by
 unfold Ca at h;refine Tw L 200 <| Tm <| Tm ?_;obtain ⟨a1,h1,h⟩:=bind_some h;refine rg L 202 [] [(1,.B a1)] [] (U4 (Bl.ok h1)) ?_;rcases Tn h with ⟨c1,h⟩ |⟨c1,h⟩
 ·refine ff (b:=(!a1)) (congrArg Bool.not (c1)) ?_;refine Tr <| Tw L 213 <| Tm ?_;obtain ⟨g1,h⟩:=Ts h;refine rd L mixed 222 [] [] [] [] 13 (Vf g1.1 g1.2) ?_;refine To ?_;cases h;exact T3
 refine tt (b:=(!a1)) (congrArg Bool.not (eq_false_of_ne_true c1)) ?_;refine Tw L 206 <| Tw L 211 <| To ?_;cases h;exact T3
theorem Ca.okE {K:Nat} {p0:Ad} {r:(List UInt8)×Ad} (h:Ca K p0=some r):Tv V P 81 [.P 0] [(0,.raw (Ac p0))] [0] (.cv (.str r.1)) [(0,.raw [.ro .Ap r.2.l,.I r.2.at_,.B r.2.bad])] :=
 eo (fn:=Tryz.f81) (n:=28) (m:=100) fun Γ=>Ca.body h
def Ax (K:Nat) (p0:List UInt8) (p1:Ad):Option Ad:=(Option.bind (Ai K p0 p1) (fun (b,a)=>(if b=true then some a else some (⟨a.l,a.at_,true⟩:Ad))))
theorem Ax.body {Γ:Ud} {K:Nat} {p0:List UInt8} {p1:Ad} {r:Ad} (h:Ax K p0 p1=some r):Ub V P 11 100 Γ (Tryz.f82.body.getD .skip) (Ty P V Tryz.f82 (.tup []) [(0,.raw [.ro .Ap r.l,.I r.at_,.B r.bad])]) ⟨Tx 0 [.P 0,.cv (.str p0)],[(0,.raw (Ac p1))]⟩:=by
 unfold Ax at h;refine Tm ?_;obtain ⟨⟨c,a⟩,h1,h⟩:=bind_some h;dsimp only at h;refine rg L 200 [] [] [(2,(T0 (.B c) [(0,.raw (Ac a))]))] (Tu (Ai.okE h1)) ?_;rcases Tn h with ⟨c1,h⟩ |⟨c1,h⟩
 ·refine ff (b:=(!c)) (congrArg Bool.not (c1)) ?_;refine sk (S':=⟨[],[(0,.raw (Ac a))]⟩) ?_;cases h;exact en0
 refine tt (b:=(!c)) (congrArg Bool.not (eq_false_of_ne_true c1)) ?_;refine Xi L 205 [] [] [] (S':=⟨[],[(0,.raw [.ro .Ap a.l,.I a.at_,.B true])]⟩) ?_;cases h;exact en0
theorem Ax.okE {K:Nat} {p0:List UInt8} {p1:Ad} {r:Ad} (h:Ax K p0 p1=some r):Tv V P 82 [.P 0,.cv (.str p0)] [(0,.raw (Ac p1))] [0] (.tup []) [(0,.raw [.ro .Ap r.l,.I r.at_,.B r.bad])] :=
 eo (fn:=Tryz.f82) (n:=11) (m:=100) fun Γ=>Ax.body h
def Cv (K:Nat) (p0:Int) (p1:Aa):Option Aa:=some (⟨p0,[],0,[],([(⟨p1.Op,p1.Name,p1.Int,p1.Text,p1.Kids⟩:Aa)]:List Aa)⟩:Aa)
theorem Cv.body {Γ:Ud} {K:Nat} {p0:Int} {p1:Aa} {r:Aa} (h:Cv K p0 p1=some r):Ub V P 9 100 Γ (Tryz.f83.body.getD .skip) (Ty P V Tryz.f83 (.agg [.I r.Op,.str r.Name,.I r.Int,.str r.Text,.ro .Af r.Kids]) []) ⟨Tx 0 [.I p0,.agg (Ah p1)],[]⟩:=by
 unfold Cv at h;refine Tw L 200 <| Tw L 203 <| Tp (Tl.trans (Tl.kk [4] [201]) (Tl.rr [(201,100)])) ?_;refine To ?_;cases h;exact T3
theorem Cv.ok {K:Nat} {p0:Int} {p1:Aa} {r:Aa} (h:Cv K p0 p1=some r):T1 V P 83 [.I p0,.agg (Ah p1)] (.agg [.I r.Op,.str r.Name,.I r.Int,.str r.Text,.ro .Af r.Kids]):=Tv.pcall (eo (fn:=Tryz.f83) (n:=9) (m:=100) fun Γ=>Cv.body h) (by kernel_rfl)
def A0 (K:Nat) (p0:Int) (p1:Aa) (p2:Aa):Option Aa:=some (⟨p0,[],0,[],([(⟨p1.Op,p1.Name,p1.Int,p1.Text,p1.Kids⟩:Aa),(⟨p2.Op,p2.Name,p2.Int,p2.Text,p2.Kids⟩:Aa)]:List Aa)⟩:Aa)
theorem A0.body {Γ:Ud} {K:Nat} {p0:Int} {p1:Aa} {p2:Aa} {r:Aa} (h:A0 K p0 p1 p2=some r):Ub V P 12 100 Γ (Tryz.f89.body.getD .skip) (Ty P V Tryz.f89 (.agg [.I r.Op,.str r.Name,.I r.Int,.str r.Text,.ro .Af r.Kids]) []) ⟨Tx 0 [.I p0,.agg (Ah p1),.agg (Ah p2)],[]⟩:=by
 unfold A0 at h;refine Tw L 200 <| Tw L 204 <| Tp (Tl.trans (Tl.kk [6] [202]) (Tl.rr [(202,100)])) ?_;refine To ?_;cases h;exact T3
theorem A0.ok {K:Nat} {p0:Int} {p1:Aa} {p2:Aa} {r:Aa} (h:A0 K p0 p1 p2=some r):T1 V P 89 [.I p0,.agg (Ah p1),.agg (Ah p2)] (.agg [.I r.Op,.str r.Name,.I r.Int,.str r.Text,.ro .Af r.Kids]):=Tv.pcall (eo (fn:=Tryz.f89) (n:=12) (m:=100) fun Γ=>A0.body h) (by kernel_rfl)
structure Aj where
 A2:Ad→Option (Aa×Ad)
 A8:Ad→Option (Aa×Ad)
 Bb:Ad→Option (Aa×Ad)
 Be:Ad→Option (Aa×Ad)
 Bz:Ad→Option (Aa×Ad)
 Av:Ad→Option (Aa×Ad)
 Bc:(List UInt8)→Ad→Option ((List Aa)×Ad)
 B6:Ad→Option ((List Aa)×Ad)
 Bw:Ad→Option (Aa×Ad)
structure Aj.Ok (R:Aj):Prop where
 A2:∀ {p0:Ad} {r:Aa×Ad},R.A2 p0=some r→Tv V P 153 [.P 0] [(0,.raw (Ac p0))] [0] (.agg [.I r.1.Op,.str r.1.Name,.I r.1.Int,.str r.1.Text,.ro .Af r.1.Kids]) [(0,.raw [.ro .Ap r.2.l,.I r.2.at_,.B r.2.bad])]
 A8:∀ {p0:Ad} {r:Aa×Ad},R.A8 p0=some r→Tv V P 144 [.P 0] [(0,.raw (Ac p0))] [0] (.agg [.I r.1.Op,.str r.1.Name,.I r.1.Int,.str r.1.Text,.ro .Af r.1.Kids]) [(0,.raw [.ro .Ap r.2.l,.I r.2.at_,.B r.2.bad])]
 Bb:∀ {p0:Ad} {r:Aa×Ad},R.Bb p0=some r→Tv V P 132 [.P 0] [(0,.raw (Ac p0))] [0] (.agg [.I r.1.Op,.str r.1.Name,.I r.1.Int,.str r.1.Text,.ro .Af r.1.Kids]) [(0,.raw [.ro .Ap r.2.l,.I r.2.at_,.B r.2.bad])]
 Be:∀ {p0:Ad} {r:Aa×Ad},R.Be p0=some r→Tv V P 117 [.P 0] [(0,.raw (Ac p0))] [0] (.agg [.I r.1.Op,.str r.1.Name,.I r.1.Int,.str r.1.Text,.ro .Af r.1.Kids]) [(0,.raw [.ro .Ap r.2.l,.I r.2.at_,.B r.2.bad])]
 Bz:∀ {p0:Ad} {r:Aa×Ad},R.Bz p0=some r→Tv V P 88 [.P 0] [(0,.raw (Ac p0))] [0] (.agg [.I r.1.Op,.str r.1.Name,.I r.1.Int,.str r.1.Text,.ro .Af r.1.Kids]) [(0,.raw [.ro .Ap r.2.l,.I r.2.at_,.B r.2.bad])]
 Av:∀ {p0:Ad} {r:Aa×Ad},R.Av p0=some r→Tv V P 54 [.P 0] [(0,.raw (Ac p0))] [0] (.agg [.I r.1.Op,.str r.1.Name,.I r.1.Int,.str r.1.Text,.ro .Af r.1.Kids]) [(0,.raw [.ro .Ap r.2.l,.I r.2.at_,.B r.2.bad])]
 Bc:∀ {p0:List UInt8} {p1:Ad} {r:(List Aa)×Ad},R.Bc p0 p1=some r→Tv V P 129 [.P 0,.cv (.str p0)] [(0,.raw (Ac p1))] [0] (.cv (.ro .Af r.1)) [(0,.raw [.ro .Ap r.2.l,.I r.2.at_,.B r.2.bad])]
 B6:∀ {p0:Ad} {r:(List Aa)×Ad},R.B6 p0=some r→Tv V P 130 [.P 0] [(0,.raw (Ac p0))] [0] (.cv (.ro .Af r.1)) [(0,.raw [.ro .Ap r.2.l,.I r.2.at_,.B r.2.bad])]
 Bw:∀ {p0:Ad} {r:Aa×Ad},R.Bw p0=some r→Tv V P 115 [.P 0] [(0,.raw (Ac p0))] [0] (.agg [.I r.1.Op,.str r.1.Name,.I r.1.Int,.str r.1.Text,.ro .Af r.1.Kids]) [(0,.raw [.ro .Ap r.2.l,.I r.2.at_,.B r.2.bad])]
def A2.l34 (K:Nat) (R:Aj):Nat→(List Aq)→Int→Bool→Int→(List UInt8)→Int→(List UInt8)→(List Aa)→Option (T5 (Aa×Ad) Unit)
 | 0,_,_,_,_,_,_,_,_=>none
 | k+1,f,g,h,a,b,c,d,e=>(Option.bind (Ai K ([46]:List UInt8) (⟨f,g,h⟩:Ad)) (fun (n,j)=>(if n=true then (Option.bind (Cv K 29 (⟨a,b,c,d,e⟩:Aa)) (fun a13=>(Option.bind (Ca K j) (fun (o,i)=>A2.l34 K R k i.l i.at_ i.bad a13.Op o a13.Int a13.Text a13.Kids)))) else (Option.bind (Ai K ([91]:List UInt8) j) (fun (p,m)=>(if p=true then (Option.bind (R.Av m) (fun (q,r)=>(Option.bind (A0 K 28 (⟨a,b,c,d,e⟩:Aa) q) (fun a17=>(Option.bind (Ax K ([93]:List UInt8) r) (fun a18=>A2.l34 K R k a18.l a18.at_ a18.bad a17.Op a17.Name a17.Int a17.Text a17.Kids)))))) else some (T5.done ((⟨a,b,c,d,e⟩:Aa),m))))))))
def A2.F (K:Nat) (R:Aj) (p0:Ad):Option (Aa×Ad):=(Option.bind (Ai K ([45]:List UInt8) p0) (fun (h,c)=>(if h=true then (Option.bind (R.A2 c) (fun (i,j)=>(Option.bind (Cv K 14 i) (fun a3=>some (a3,j))))) else (Option.bind (Ai K ([97,119,97,105,116]:List UInt8) c) (fun (k,d)=>(if k=true then (Option.bind (R.A2 d) (fun (m,n)=>(Option.bind (Cv K 12 m) (fun a6=>some (a6,n))))) else (Option.bind (Ai K ([103,111]:List UInt8) d) (fun (o,e)=>(if o=true then (Option.bind (Ca K e) (fun (p,q)=>(Option.bind (Ax K ([40]:List UInt8) q) (fun a9=>(Option.bind (R.Bc ([41]:List UInt8) a9) (fun (f,g)=>some ((⟨11,p,0,[],f⟩:Aa),g))))))) else (Option.bind (R.Bw e) (fun (a,b)=>(obind (A2.l34 K R K b.l b.at_ b.bad a.Op a.Name a.Int a.Text a.Kids:Option (T5 (Aa×Ad) Unit)) (fun r=>r) (fun _=>none)))))))))))))
theorem A2.body {Γ:Ud} {K:Nat} {R:Aj} (hR:R.Ok) {p0:Ad} {r:Aa×Ad} (h:A2.F K R p0=some r):Ub V P 43 100 Γ (Tryz.f153.body.getD .skip) (Ty P V Tryz.f153 (.agg [.I r.1.Op,.str r.1.Name,.I r.1.Int,.str r.1.Text,.ro .Af r.1.Kids]) [(0,.raw [.ro .Ap r.2.l,.I r.2.at_,.B r.2.bad])]) ⟨Tx 0 [.P 0],[(0,.raw (Ac p0))]⟩:=by
 unfold A2.F at h;refine Tw L 200 <| Tm <| Tm ?_;obtain ⟨⟨aa,ab⟩,h1,h⟩:=bind_some h;dsimp only at h;refine rg L 202 [] [] [(1,(T0 (.B aa) [(0,.raw (Ac ab))]))] (Tu (Ai.okE h1)) ?_;rcases Tn h with ⟨c1,h⟩ |⟨c1,h⟩
 ·refine tt c1 <| Tm ?_;obtain ⟨⟨ad,ae⟩,h2,h⟩:=bind_some h;dsimp only at h;obtain ⟨a3,h3,h⟩:=bind_some h;refine rg L 205 [] [(2,.agg (Ah a3))] [(1,(T0 (.agg (Ah ad)) [(0,.raw (Ac ae))]))] (Tq (hR.A2 h2) (Tq (Cv.ok h3) (Tu trivial))) ?_;refine Tp (Tl.trans (Tl.kk [2] [0,200]) (Tl.rr [(0,0),(200,100)])) ?_;refine To ?_;cases h;exact T3
 refine fN c1 <| Tr <| Tm <| Tm ?_;obtain ⟨⟨af,ag⟩,h4,h⟩:=bind_some h;dsimp only at h;refine rg L 210 [] [] [(1,(T0 (.B af) [(0,.raw (Ac ag))]))] (Tu (Ai.okE h4)) ?_;rcases Tn h with ⟨c2,h⟩ |⟨c2,h⟩
 ·refine tt c2 <| Tm ?_;obtain ⟨⟨ah,ai⟩,h5,h⟩:=bind_some h;dsimp only at h;obtain ⟨a6,h6,h⟩:=bind_some h;refine rg L 213 [] [(2,.agg (Ah a6))] [(1,(T0 (.agg (Ah ah)) [(0,.raw (Ac ai))]))] (Tq (hR.A2 h5) (Tq (Cv.ok h6) (Tu trivial))) ?_;refine Tp (Tl.trans (Tl.kk [2] [0,200]) (Tl.rr [(0,0),(200,100)])) ?_;refine To ?_;cases h;exact T3
 refine fN c2 <| Tr <| Tm <| Tm ?_;obtain ⟨⟨aj,ak⟩,h7,h⟩:=bind_some h;dsimp only at h;refine rg L 218 [] [] [(1,(T0 (.B aj) [(0,.raw (Ac ak))]))] (Tu (Ai.okE h7)) ?_;rcases Tn h with ⟨c3,h⟩ |⟨c3,h⟩
 ·refine tt c3 <| Tm ?_;obtain ⟨⟨al,am⟩,h8,h⟩:=bind_some h;dsimp only at h;refine rg L 221 [] [] [(1,(T0 (.cv (.str al)) [(0,.raw (Ac am))]))] (Tu (Ca.okE h8)) ?_;refine Tm ?_;obtain ⟨a9,h9,h⟩:=bind_some h;refine rg L 225 [] [] [(1,(T0 (.tup []) [(0,.raw (Ac a9))]))] (Tu (Ax.okE h9)) ?_;refine Tm ?_;obtain ⟨⟨u,v⟩,h10,h⟩:=bind_some h;dsimp only at h;refine rg L 228 [] [] [(2,(T0 (.cv (.ro .Af u)) [(0,.raw (Ac v))]))] (Tu (hR.Bc h10)) ?_;refine Tp (Tl.trans (Tl.kk [2] [0,200]) (Tl.rr [(0,0),(200,100)])) ?_;refine To ?_;cases h;exact T3
 refine fN c3 <| Tr <| Tm ?_;obtain ⟨⟨q,s⟩,h11,h⟩:=bind_some h;dsimp only at h;refine rg L 234 [] [] [(1,(T0 (.agg (Ah q)) [(0,.raw (Ac s))]))] (Tu (hR.Bw h11)) ?_;refine Tt <| Tp (Tl.trans (Tl.kk [0,2,4] [0,200,236]) (Tl.rr [(0,0),(200,26900),(236,26901)])) ?_;refine kp (S':=⟨[(0,.P 0),(2,.P 26900),(4,.P 26901)],[(0,.raw (Ac s)),(26900,.raw [.I 0,.str [],.I 0,.str [],.N]),(26901,.raw (Ah q))]⟩) ?_;obtain ⟨o1,hp1,h⟩:=T7 h;refine T4 (Q':=fun e S=>False∨(e=.ret∧∃ a,T5.done a=o1∧Ty P V Tryz.f153 (.agg [.I a.1.Op,.str a.1.Name,.I a.1.Int,.str a.1.Text,.ro .Af a.1.Kids]) [(0,.raw [.ro .Ap a.2.l,.I a.2.at_,.B a.2.bad])] .ret S)) (T8 (fun k S=>∃ b:List Aq,∃ c:Int,∃ d:Bool,∃ f:Int,∃ g:List UInt8,∃ i:Int,∃ j:List UInt8,∃ m:List Aa,S=⟨[(0,.P 0),(2,.P 26900),(4,.P 26901)],[(0,.raw [.ro .Ap b,.I c,.B d]),(26900,.raw [.I 0,.str [],.I 0,.str [],.N]),(26901,.raw [.I f,.str g,.I i,.str j,.ro .Af m])]⟩∧A2.l34 K R k b c d f g i j m=some o1) ?_ ⟨_,_,_,_,_,_,_,_,rfl,hp1⟩) ?_
 ·clear h hp1;intro k S hS;obtain ⟨b,c,d,f,g,i,j,m,rfl,h⟩:=hS;cases k with
  | zero=>cases h
  | succ k =>
  unfold A2.l34 at h;refine Tt <| Tm ?_;obtain ⟨⟨w,t⟩,h12,h⟩:=bind_some h;dsimp only at h;refine rg L 239 [] [] [(1,(T0 (.B w) [(0,.raw (Ac t))]))] (Tu (Ai.okE h12)) ?_;rcases Tn h with ⟨c4,h⟩ |⟨c4,h⟩
  ·refine tt c4 <| Tm ?_;obtain ⟨a13,h13,h⟩:=bind_some h;refine rg L 242 [] [(1,.agg (Ah a13))] [] (U4 (Cv.ok h13)) ?_;obtain ⟨⟨n,o⟩,h14,h⟩:=bind_some h;dsimp only at h;refine ar L 246 [] [] [(1,(T0 (.cv (.str n)) [(0,.raw (Ac o))]))] (cs:=[Tv V P 81 [.P 0] [(0,.raw (Ac t))] [0] (.cv (.str n)) [(0,.raw (Ac o))]]) (S':=⟨[(0,.P 0),(2,.P 26900),(4,.P 26901)],[(0,.raw (Ac o)),(26900,.raw [.I 0,.str [],.I 0,.str [],.N]),(26901,.raw [.I a13.Op,.str n,.I a13.Int,.str a13.Text,.ro .Af a13.Kids])]⟩) (Ca.okE h14) ?_;exact ⟨k,Nat.lt_succ_self k,_,_,_,_,_,_,_,_,rfl,h⟩
  refine fN c4 <| Tm ?_;obtain ⟨⟨x,y⟩,h15,h⟩:=bind_some h;dsimp only at h;refine rg L 251 [] [] [(1,(T0 (.B x) [(0,.raw (Ac y))]))] (Tu (Ai.okE h15)) ?_;rcases Tn h with ⟨c5,h⟩ |⟨c5,h⟩
  ·refine tt c5 <| Tm ?_;obtain ⟨⟨z,p⟩,h16,h⟩:=bind_some h;dsimp only at h;obtain ⟨a17,h17,h⟩:=bind_some h;refine hB L mixed 254 [] [(3,.agg (Ah a17))] [(2,(T0 (.agg (Ah z)) [(0,.raw (Ac p))]))] [1] 2 (Tq (hR.Av h16) (Tq (A0.ok h17) (Tq trivial (Tq (hR.Av h16) (Tq (A0.ok h17) (Tu trivial)))))) (S':=⟨[(0,.P 0),(2,.P 26900),(4,.P 26901)],[(0,.raw (Ac p)),(26900,.raw [.I 0,.str [],.I 0,.str [],.N]),(26901,.raw (Ah a17))]⟩) ?_;obtain ⟨a18,h18,h⟩:=bind_some h;refine ar L 260 [] [] [(1,(T0 (.tup []) [(0,.raw (Ac a18))]))] (cs:=[Tv V P 82 [.P 0,.cv (.str ([93]:List UInt8))] [(0,.raw (Ac p))] [0] (.tup []) [(0,.raw (Ac a18))]]) (S':=⟨[(0,.P 0),(2,.P 26900),(4,.P 26901)],[(0,.raw (Ac a18)),(26900,.raw [.I 0,.str [],.I 0,.str [],.N]),(26901,.raw (Ah a17))]⟩) (Ax.okE h18) ?_;exact ⟨k,Nat.lt_succ_self k,_,_,_,_,_,_,_,_,rfl,h⟩
  refine fN c5 <| Tw L 263 <| Tp (Tl.trans (Tl.kk [2] [0,26900]) (Tl.rr [(0,0),(26900,100)])) ?_;refine To ?_;cases h;exact .inr ⟨rfl,_,rfl,T3⟩
 ·rintro e S (hf |⟨rfl,a,rfl,hr⟩)
  ·exact hf.elim
  ·rcases h with ⟨_,e1,h⟩ |⟨_,e1,h⟩
   ·have e2:=T5.done.inj e1;subst e2;subst h;exact ⟨_,Tl.refl,hr⟩
   ·cases e1
def A8.l6 (K:Nat) (R:Aj):Nat→(List Aq)→Int→Bool→Int→(List UInt8)→Int→(List UInt8)→(List Aa)→Option (T5 (Aa×Ad) Unit)
 | 0,_,_,_,_,_,_,_,_=>none
 | k+1,f,g,h,a,b,c,d,e=>(Option.bind (Ai K ([42]:List UInt8) (⟨f,g,h⟩:Ad)) (fun (q,n)=>(if q=true then (Option.bind (R.A2 n) (fun (r,i)=>(Option.bind (A0 K 15 (⟨a,b,c,d,e⟩:Aa) r) (fun a4=>A8.l6 K R k i.l i.at_ i.bad a4.Op a4.Name a4.Int a4.Text a4.Kids)))) else (Option.bind (Ai K ([47]:List UInt8) n) (fun (s,o)=>(if s=true then (Option.bind (R.A2 o) (fun (t,j)=>(Option.bind (A0 K 16 (⟨a,b,c,d,e⟩:Aa) t) (fun a7=>A8.l6 K R k j.l j.at_ j.bad a7.Op a7.Name a7.Int a7.Text a7.Kids)))) else (Option.bind (Ai K ([37]:List UInt8) o) (fun (u,p)=>(if u=true then (Option.bind (R.A2 p) (fun (v,m)=>(Option.bind (A0 K 17 (⟨a,b,c,d,e⟩:Aa) v) (fun a10=>A8.l6 K R k m.l m.at_ m.bad a10.Op a10.Name a10.Int a10.Text a10.Kids)))) else some (T5.done ((⟨a,b,c,d,e⟩:Aa),p)))))))))))
def A8.F (K:Nat) (R:Aj) (p0:Ad):Option (Aa×Ad):=(Option.bind (R.A2 p0) (fun (a,b)=>(obind (A8.l6 K R K b.l b.at_ b.bad a.Op a.Name a.Int a.Text a.Kids:Option (T5 (Aa×Ad) Unit)) (fun r=>r) (fun _=>none))))
theorem A8.body {Γ:Ud} {K:Nat} {R:Aj} (hR:R.Ok) {p0:Ad} {r:Aa×Ad} (h:A8.F K R p0=some r):Ub V P 25 100 Γ (Tryz.f144.body.getD .skip) (Ty P V Tryz.f144 (.agg [.I r.1.Op,.str r.1.Name,.I r.1.Int,.str r.1.Text,.ro .Af r.1.Kids]) [(0,.raw [.ro .Ap r.2.l,.I r.2.at_,.B r.2.bad])]) ⟨Tx 0 [.P 0],[(0,.raw (Ac p0))]⟩:=by
 unfold A8.F at h;refine Tw L 200 <| Tm ?_;obtain ⟨⟨n,o⟩,h1,h⟩:=bind_some h;dsimp only at h;refine rg L 202 [] [] [(1,(T0 (.agg (Ah n)) [(0,.raw (Ac o))]))] (Tu (hR.A2 h1)) ?_;refine Tt <| Tp (Tl.trans (Tl.kk [0,2,3] [0,200,204]) (Tl.rr [(0,0),(200,21300),(204,21301)])) ?_;refine kp (S':=⟨[(0,.P 0),(2,.P 21300),(3,.P 21301)],[(0,.raw (Ac o)),(21300,.raw [.I 0,.str [],.I 0,.str [],.N]),(21301,.raw (Ah n))]⟩) ?_;obtain ⟨o1,hp1,h⟩:=T7 h;refine T4 (Q':=fun e S=>False∨(e=.ret∧∃ a,T5.done a=o1∧Ty P V Tryz.f144 (.agg [.I a.1.Op,.str a.1.Name,.I a.1.Int,.str a.1.Text,.ro .Af a.1.Kids]) [(0,.raw [.ro .Ap a.2.l,.I a.2.at_,.B a.2.bad])] .ret S)) (T8 (fun k S=>∃ b:List Aq,∃ c:Int,∃ d:Bool,∃ f:Int,∃ g:List UInt8,∃ i:Int,∃ j:List UInt8,∃ m:List Aa,S=⟨[(0,.P 0),(2,.P 21300),(3,.P 21301)],[(0,.raw [.ro .Ap b,.I c,.B d]),(21300,.raw [.I 0,.str [],.I 0,.str [],.N]),(21301,.raw [.I f,.str g,.I i,.str j,.ro .Af m])]⟩∧A8.l6 K R k b c d f g i j m=some o1) ?_ ⟨_,_,_,_,_,_,_,_,rfl,hp1⟩) ?_
 ·clear h hp1;intro k S hS;obtain ⟨b,c,d,f,g,i,j,m,rfl,h⟩:=hS;cases k with
  | zero=>cases h
  | succ k =>
  unfold A8.l6 at h;refine Tt <| Tm ?_;obtain ⟨⟨t,u⟩,h2,h⟩:=bind_some h;dsimp only at h;refine rg L 207 [] [] [(1,(T0 (.B t) [(0,.raw (Ac u))]))] (Tu (Ai.okE h2)) ?_;rcases Tn h with ⟨c1,h⟩ |⟨c1,h⟩
  ·refine tt c1 ?_;obtain ⟨⟨v,p⟩,h3,h⟩:=bind_some h;dsimp only at h;obtain ⟨a4,h4,h⟩:=bind_some h;refine hB L mixed 210 [] [(3,.agg (Ah a4))] [(2,(T0 (.agg (Ah v)) [(0,.raw (Ac p))]))] [1] 2 (Tq (hR.A2 h3) (Tq (A0.ok h4) (Tq trivial (Tq (hR.A2 h3) (Tq (A0.ok h4) (Tu trivial)))))) (S':=⟨[(0,.P 0),(2,.P 21300),(3,.P 21301)],[(0,.raw (Ac p)),(21300,.raw [.I 0,.str [],.I 0,.str [],.N]),(21301,.raw (Ah a4))]⟩) ?_;exact ⟨k,Nat.lt_succ_self k,_,_,_,_,_,_,_,_,rfl,h⟩
  refine fN c1 <| Tm ?_;obtain ⟨⟨w,x⟩,h5,h⟩:=bind_some h;dsimp only at h;refine rg L 216 [] [] [(1,(T0 (.B w) [(0,.raw (Ac x))]))] (Tu (Ai.okE h5)) ?_;rcases Tn h with ⟨c2,h⟩ |⟨c2,h⟩
  ·refine tt c2 ?_;obtain ⟨⟨y,q⟩,h6,h⟩:=bind_some h;dsimp only at h;obtain ⟨a7,h7,h⟩:=bind_some h;refine hB L mixed 219 [] [(3,.agg (Ah a7))] [(2,(T0 (.agg (Ah y)) [(0,.raw (Ac q))]))] [1] 2 (Tq (hR.A2 h6) (Tq (A0.ok h7) (Tq trivial (Tq (hR.A2 h6) (Tq (A0.ok h7) (Tu trivial)))))) (S':=⟨[(0,.P 0),(2,.P 21300),(3,.P 21301)],[(0,.raw (Ac q)),(21300,.raw [.I 0,.str [],.I 0,.str [],.N]),(21301,.raw (Ah a7))]⟩) ?_;exact ⟨k,Nat.lt_succ_self k,_,_,_,_,_,_,_,_,rfl,h⟩
  refine fN c2 <| Tm ?_;obtain ⟨⟨z,aa⟩,h8,h⟩:=bind_some h;dsimp only at h;refine rg L 225 [] [] [(1,(T0 (.B z) [(0,.raw (Ac aa))]))] (Tu (Ai.okE h8)) ?_;rcases Tn h with ⟨c3,h⟩ |⟨c3,h⟩
  ·refine tt c3 ?_;obtain ⟨⟨ab,s⟩,h9,h⟩:=bind_some h;dsimp only at h;obtain ⟨a10,h10,h⟩:=bind_some h;refine hB L mixed 228 [] [(3,.agg (Ah a10))] [(2,(T0 (.agg (Ah ab)) [(0,.raw (Ac s))]))] [1] 2 (Tq (hR.A2 h9) (Tq (A0.ok h10) (Tq trivial (Tq (hR.A2 h9) (Tq (A0.ok h10) (Tu trivial)))))) (S':=⟨[(0,.P 0),(2,.P 21300),(3,.P 21301)],[(0,.raw (Ac s)),(21300,.raw [.I 0,.str [],.I 0,.str [],.N]),(21301,.raw (Ah a10))]⟩) ?_;exact ⟨k,Nat.lt_succ_self k,_,_,_,_,_,_,_,_,rfl,h⟩
  refine fN c3 <| Tw L 234 <| Tp (Tl.trans (Tl.kk [2] [0,21300]) (Tl.rr [(0,0),(21300,100)])) ?_;refine To ?_;cases h;exact .inr ⟨rfl,_,rfl,T3⟩
 ·rintro e S (hf |⟨rfl,a,rfl,hr⟩)
  ·exact hf.elim
  ·rcases h with ⟨_,e1,h⟩ |⟨_,e1,h⟩
   ·have e2:=T5.done.inj e1;subst e2;subst h;exact ⟨_,Tl.refl,hr⟩
   ·cases e1
def Bb.l6 (K:Nat) (R:Aj):Nat→(List Aq)→Int→Bool→Int→(List UInt8)→Int→(List UInt8)→(List Aa)→Option (T5 (Aa×Ad) Unit)
 | 0,_,_,_,_,_,_,_,_=>none
 | k+1,f,g,h,a,b,c,d,e=>(Option.bind (Ai K ([43]:List UInt8) (⟨f,g,h⟩:Ad)) (fun (o,m)=>(if o=true then (Option.bind (R.A8 m) (fun (p,i)=>(Option.bind (A0 K 18 (⟨a,b,c,d,e⟩:Aa) p) (fun a4=>Bb.l6 K R k i.l i.at_ i.bad a4.Op a4.Name a4.Int a4.Text a4.Kids)))) else (Option.bind (Ai K ([45]:List UInt8) m) (fun (q,n)=>(if q=true then (Option.bind (R.A8 n) (fun (r,j)=>(Option.bind (A0 K 19 (⟨a,b,c,d,e⟩:Aa) r) (fun a7=>Bb.l6 K R k j.l j.at_ j.bad a7.Op a7.Name a7.Int a7.Text a7.Kids)))) else some (T5.done ((⟨a,b,c,d,e⟩:Aa),n))))))))
def Bb.F (K:Nat) (R:Aj) (p0:Ad):Option (Aa×Ad):=(Option.bind (R.A8 p0) (fun (a,b)=>(obind (Bb.l6 K R K b.l b.at_ b.bad a.Op a.Name a.Int a.Text a.Kids:Option (T5 (Aa×Ad) Unit)) (fun r=>r) (fun _=>none))))
theorem Bb.body {Γ:Ud} {K:Nat} {R:Aj} (hR:R.Ok) {p0:Ad} {r:Aa×Ad} (h:Bb.F K R p0=some r):Ub V P 19 100 Γ (Tryz.f132.body.getD .skip) (Ty P V Tryz.f132 (.agg [.I r.1.Op,.str r.1.Name,.I r.1.Int,.str r.1.Text,.ro .Af r.1.Kids]) [(0,.raw [.ro .Ap r.2.l,.I r.2.at_,.B r.2.bad])]) ⟨Tx 0 [.P 0],[(0,.raw (Ac p0))]⟩:=by
 unfold Bb.F at h;refine Tw L 200 <| Tm ?_;obtain ⟨⟨n,o⟩,h1,h⟩:=bind_some h;dsimp only at h;refine rg L 202 [] [] [(1,(T0 (.agg (Ah n)) [(0,.raw (Ac o))]))] (Tu (hR.A8 h1)) ?_;refine Tt <| Tp (Tl.trans (Tl.kk [0,2,3] [0,200,204]) (Tl.rr [(0,0),(200,21300),(204,21301)])) ?_;refine kp (S':=⟨[(0,.P 0),(2,.P 21300),(3,.P 21301)],[(0,.raw (Ac o)),(21300,.raw [.I 0,.str [],.I 0,.str [],.N]),(21301,.raw (Ah n))]⟩) ?_;obtain ⟨o1,hp1,h⟩:=T7 h;refine T4 (Q':=fun e S=>False∨(e=.ret∧∃ a,T5.done a=o1∧Ty P V Tryz.f132 (.agg [.I a.1.Op,.str a.1.Name,.I a.1.Int,.str a.1.Text,.ro .Af a.1.Kids]) [(0,.raw [.ro .Ap a.2.l,.I a.2.at_,.B a.2.bad])] .ret S)) (T8 (fun k S=>∃ b:List Aq,∃ c:Int,∃ d:Bool,∃ f:Int,∃ g:List UInt8,∃ i:Int,∃ j:List UInt8,∃ m:List Aa,S=⟨[(0,.P 0),(2,.P 21300),(3,.P 21301)],[(0,.raw [.ro .Ap b,.I c,.B d]),(21300,.raw [.I 0,.str [],.I 0,.str [],.N]),(21301,.raw [.I f,.str g,.I i,.str j,.ro .Af m])]⟩∧Bb.l6 K R k b c d f g i j m=some o1) ?_ ⟨_,_,_,_,_,_,_,_,rfl,hp1⟩) ?_
 ·clear h hp1;intro k S hS;obtain ⟨b,c,d,f,g,i,j,m,rfl,h⟩:=hS;cases k with
  | zero=>cases h
  | succ k =>
  unfold Bb.l6 at h;refine Tt <| Tm ?_;obtain ⟨⟨s,t⟩,h2,h⟩:=bind_some h;dsimp only at h;refine rg L 207 [] [] [(1,(T0 (.B s) [(0,.raw (Ac t))]))] (Tu (Ai.okE h2)) ?_;rcases Tn h with ⟨c1,h⟩ |⟨c1,h⟩
  ·refine tt c1 ?_;obtain ⟨⟨u,p⟩,h3,h⟩:=bind_some h;dsimp only at h;obtain ⟨a4,h4,h⟩:=bind_some h;refine hB L mixed 210 [] [(3,.agg (Ah a4))] [(2,(T0 (.agg (Ah u)) [(0,.raw (Ac p))]))] [1] 2 (Tq (hR.A8 h3) (Tq (A0.ok h4) (Tq trivial (Tq (hR.A8 h3) (Tq (A0.ok h4) (Tu trivial)))))) (S':=⟨[(0,.P 0),(2,.P 21300),(3,.P 21301)],[(0,.raw (Ac p)),(21300,.raw [.I 0,.str [],.I 0,.str [],.N]),(21301,.raw (Ah a4))]⟩) ?_;exact ⟨k,Nat.lt_succ_self k,_,_,_,_,_,_,_,_,rfl,h⟩
  refine fN c1 <| Tm ?_;obtain ⟨⟨v,w⟩,h5,h⟩:=bind_some h;dsimp only at h;refine rg L 216 [] [] [(1,(T0 (.B v) [(0,.raw (Ac w))]))] (Tu (Ai.okE h5)) ?_;rcases Tn h with ⟨c2,h⟩ |⟨c2,h⟩
  ·refine tt c2 ?_;obtain ⟨⟨x,q⟩,h6,h⟩:=bind_some h;dsimp only at h;obtain ⟨a7,h7,h⟩:=bind_some h;refine hB L mixed 219 [] [(3,.agg (Ah a7))] [(2,(T0 (.agg (Ah x)) [(0,.raw (Ac q))]))] [1] 2 (Tq (hR.A8 h6) (Tq (A0.ok h7) (Tq trivial (Tq (hR.A8 h6) (Tq (A0.ok h7) (Tu trivial)))))) (S':=⟨[(0,.P 0),(2,.P 21300),(3,.P 21301)],[(0,.raw (Ac q)),(21300,.raw [.I 0,.str [],.I 0,.str [],.N]),(21301,.raw (Ah a7))]⟩) ?_;exact ⟨k,Nat.lt_succ_self k,_,_,_,_,_,_,_,_,rfl,h⟩
  refine fN c2 <| Tw L 225 <| Tp (Tl.trans (Tl.kk [2] [0,21300]) (Tl.rr [(0,0),(21300,100)])) ?_;refine To ?_;cases h;exact .inr ⟨rfl,_,rfl,T3⟩
 ·rintro e S (hf |⟨rfl,a,rfl,hr⟩)
  ·exact hf.elim
  ·rcases h with ⟨_,e1,h⟩ |⟨_,e1,h⟩
   ·have e2:=T5.done.inj e1;subst e2;subst h;exact ⟨_,Tl.refl,hr⟩
   ·cases e1
def Be.l21 (K:Nat) (R:Aj) (f:Aa):Nat→Int→(List Aq)→Int→Bool→Option (T5 (Aa×Ad) ((List Aq)×Int×Bool))
 | 0,_,_,_,_=>none
 | k+1,a,b,c,d=>(if a <(([([60]:List UInt8),([60,61]:List UInt8),([62]:List UInt8),([62,61]:List UInt8),([61,61]:List UInt8),([33,61]:List UInt8)]:List (List UInt8)).length:Int) then (if (0:Int)≤a∧(a:Int) <(([([60]:List UInt8),([60,61]:List UInt8),([62]:List UInt8),([62,61]:List UInt8),([61,61]:List UInt8),([33,61]:List UInt8)]:List (List UInt8)).length:Int) then (Option.bind (Ai K (([([60]:List UInt8),([60,61]:List UInt8),([62]:List UInt8),([62,61]:List UInt8),([61,61]:List UInt8),([33,61]:List UInt8)]:List (List UInt8)).getD (Int.toNat a) ([]:List UInt8)) (⟨b,c,d⟩:Ad)) (fun (g,e)=>(if g=true then (if (a:Int) <(([20,21,22,23,24,25]:List Int).length:Int) then (Option.bind (R.Bb e) (fun (h,i)=>(Option.bind (A0 K (([20,21,22,23,24,25]:List Int).getD (Int.toNat a) (0:Int)) f h) (fun a7=>some (T5.done (a7,i)))))) else none) else Be.l21 K R f k (IntKind.i64.wrap (a+1)) e.l e.at_ e.bad))) else none) else some (T5.go (b,c,d)))
def Be.F (K:Nat) (R:Aj) (p0:Ad):Option (Aa×Ad):=(Option.bind (Ai K ([110,111,116]:List UInt8) p0) (fun (g,e)=>(if g=true then (Option.bind (R.Be e) (fun (h,i)=>(Option.bind (Cv K 13 h) (fun a3=>some (a3,i))))) else (Option.bind (R.Bb e) (fun (f,d)=>(obind (Be.l21 K R f K 0 d.l d.at_ d.bad:Option (T5 (Aa×Ad) ((List Aq)×Int×Bool))) (fun r=>r) (fun (a,b,c)=>some (f,(⟨a,b,c⟩:Ad)))))))))
theorem Be.body {Γ:Ud} {K:Nat} {R:Aj} (hR:R.Ok) {p0:Ad} {r:Aa×Ad} (h:Be.F K R p0=some r):Ub V P 37 100 Γ (Tryz.f117.body.getD .skip) (Ty P V Tryz.f117 (.agg [.I r.1.Op,.str r.1.Name,.I r.1.Int,.str r.1.Text,.ro .Af r.1.Kids]) [(0,.raw [.ro .Ap r.2.l,.I r.2.at_,.B r.2.bad])]) ⟨Tx 0 [.P 0],[(0,.raw (Ac p0))]⟩:=by
 unfold Be.F at h;refine Tw L 200 <| Tm <| Tm ?_;obtain ⟨⟨q,s⟩,h1,h⟩:=bind_some h;dsimp only at h;refine rg L 202 [] [] [(1,(T0 (.B q) [(0,.raw (Ac s))]))] (Tu (Ai.okE h1)) ?_;rcases Tn h with ⟨c1,h⟩ |⟨c1,h⟩
 ·refine tt c1 <| Tm ?_;obtain ⟨⟨t,u⟩,h2,h⟩:=bind_some h;dsimp only at h;obtain ⟨a3,h3,h⟩:=bind_some h;refine rg L 205 [] [(2,.agg (Ah a3))] [(1,(T0 (.agg (Ah t)) [(0,.raw (Ac u))]))] (Tq (hR.Be h2) (Tq (Cv.ok h3) (Tu trivial))) ?_;refine Tp (Tl.trans (Tl.kk [2] [0,200]) (Tl.rr [(0,0),(200,100)])) ?_;refine To ?_;cases h;exact T3
 refine fN c1 <| Tr <| Tm ?_;obtain ⟨⟨m,n⟩,h4,h⟩:=bind_some h;dsimp only at h;refine rg L 210 [] [] [(1,(T0 (.agg (Ah m)) [(0,.raw (Ac n))]))] (Tu (hR.Bb h4)) ?_;refine Tw L 215 <| Tw L 218 <| Tm <| Tw L 221 <| Tt <| Tp (Tl.trans (Tl.kk [0,2,3,4,5,6] [0,200,212]) (Tl.rr [(0,0),(200,24300),(212,24301)])) ?_;refine kp (S':=⟨[(0,.P 0),(2,.P 24300),(3,.P 24301),(4,.cv (.ro .Dk ([([60]:List UInt8),([60,61]:List UInt8),([62]:List UInt8),([62,61]:List UInt8),([61,61]:List UInt8),([33,61]:List UInt8)]:List (List UInt8)))),(5,.cv (.ro .E5 ([20,21,22,23,24,25]:List Int))),(6,.I 0)],[(0,.raw (Ac n)),(24300,.raw [.I 0,.str [],.I 0,.str [],.N]),(24301,.raw (Ah m))]⟩) ?_;obtain ⟨o1,hp1,h⟩:=T7 h;refine T4 (Q':=fun e S=>(e=.exit 0∧∃ g:List Aq,∃ i:Int,∃ j:Bool,S=⟨[(2,.P 24200),(3,.P 24201)],[(0,.raw [.ro .Ap g,.I i,.B j]),(24200,.raw [.I 0,.str [],.I 0,.str [],.N]),(24201,.raw (Ah m))]⟩∧T5.go (g,i,j)=o1)∨(e=.ret∧∃ a,T5.done a=o1∧Ty P V Tryz.f117 (.agg [.I a.1.Op,.str a.1.Name,.I a.1.Int,.str a.1.Text,.ro .Af a.1.Kids]) [(0,.raw [.ro .Ap a.2.l,.I a.2.at_,.B a.2.bad])] .ret S)) (T8 (fun k S=>∃ f:Int,∃ b:List Aq,∃ c:Int,∃ d:Bool,S=⟨[(0,.P 0),(2,.P 24300),(3,.P 24301),(4,.cv (.ro .Dk ([([60]:List UInt8),([60,61]:List UInt8),([62]:List UInt8),([62,61]:List UInt8),([61,61]:List UInt8),([33,61]:List UInt8)]:List (List UInt8)))),(5,.cv (.ro .E5 ([20,21,22,23,24,25]:List Int))),(6,.I f)],[(0,.raw [.ro .Ap b,.I c,.B d]),(24300,.raw [.I 0,.str [],.I 0,.str [],.N]),(24301,.raw (Ah m))]⟩∧Be.l21 K R m k f b c d=some o1) ?_ ⟨_,_,_,_,rfl,hp1⟩) ?_
 ·clear h hp1;intro k S hS;obtain ⟨f,b,c,d,rfl,h⟩:=hS;cases k with
  | zero=>cases h
  | succ k =>
  unfold Be.l21 at h;refine Tm <| Tw L 223 ?_;rcases Tn h with ⟨c2,h⟩ |⟨c2,h⟩
  ·refine tT c2 <| Tr <| Tm <| Tt <| Tm ?_;obtain ⟨g1,h⟩:=Ts h;obtain ⟨⟨v,o⟩,h5,h⟩:=bind_some h;dsimp only at h;refine rg L 228 [] [] [(5,(T0 (.B v) [(0,.raw (Ac o))]))] (Tq g1.1 (Tq g1.2 (Tu (Ai.okE h5)))) ?_;rcases Tn h with ⟨c3,h⟩ |⟨c3,h⟩
   ·refine tt c3 <| Tm ?_;obtain ⟨g2,h⟩:=Ts h;obtain ⟨⟨w,p⟩,h6,h⟩:=bind_some h;dsimp only at h;obtain ⟨a7,h7,h⟩:=bind_some h;refine hB L mixed 235 [] [(7,.agg (Ah a7))] [(6,(T0 (.agg (Ah w)) [(0,.raw (Ac p))]))] [0,1,5] 12 (Tq g1.1 (Tq g2 (Tq (hR.Bb h6) (Tq (A0.ok h7) (Tq trivial (Tq (hR.Bb h6) (Tq (A0.ok h7) (Tq trivial (Tq (hR.Bb h6) (Tq (A0.ok h7) (Tq trivial (Tq (hR.Bb h6) (Tq (A0.ok h7) (Tq trivial (Tq (hR.Bb h6) (Tq (A0.ok h7) (Tq trivial (Tq (A0.ok h7) (Tq trivial (Tq g1.1 (Tq g2 (Tq (hR.Bb h6) (Tq (A0.ok h7) (Tq trivial (Tq (hR.Bb h6) (Tq (A0.ok h7) (Tq trivial (Tq (hR.Bb h6) (Tq g1.1 (Tq g2 (Tq (A0.ok h7) (Tq trivial (Tq (hR.Bb h6) (Tq g1.1 (Tq g2 (Tq (A0.ok h7) (Tq trivial (Tq (A0.ok h7) (Tq trivial (Tq g1.1 (Tq g2 (Tq (A0.ok h7) (Tu trivial))))))))))))))))))))))))))))))))))))))))))) (S':=⟨[(2,.P 24300)],[(0,.raw (Ac p)),(24300,.raw (Ah a7))]⟩) ?_;refine Tp (Tl.trans (Tl.kk [2] [0,24300]) (Tl.rr [(0,0),(24300,100)])) ?_;refine To ?_;cases h;exact .inr ⟨rfl,_,rfl,T3⟩
   refine fN c3 <| Tr <| Xi L 245 [] [] [] (S':=⟨[(0,.P 0),(2,.P 24300),(3,.P 24301),(4,.cv (.ro .Dk ([([60]:List UInt8),([60,61]:List UInt8),([62]:List UInt8),([62,61]:List UInt8),([61,61]:List UInt8),([33,61]:List UInt8)]:List (List UInt8)))),(5,.cv (.ro .E5 ([20,21,22,23,24,25]:List Int))),(6,.I (IntKind.i64.wrap (f+1)))],[(0,.raw (Ac o)),(24300,.raw [.I 0,.str [],.I 0,.str [],.N]),(24301,.raw (Ah m))]⟩) ?_;exact ⟨k,Nat.lt_succ_self k,_,_,_,_,rfl,h⟩
  refine fF c2 <| Tp (Tl.trans (Tl.kk [2,3] [0,24300,24301]) (Tl.rr [(0,0),(24300,24200),(24301,24201)])) ?_;refine ex (S':=⟨[(2,.P 24200),(3,.P 24201)],[(0,.raw [.ro .Ap b,.I c,.B d]),(24200,.raw [.I 0,.str [],.I 0,.str [],.N]),(24201,.raw (Ah m))]⟩) ?_;cases h;exact .inl ⟨rfl,_,_,_,rfl,rfl⟩
 ·rintro e S (⟨rfl,g,i,j,rfl,rfl⟩ |⟨rfl,a,rfl,hr⟩)
  ·rcases h with ⟨_,e1,h⟩ |⟨_,e1,h⟩
   ·cases e1
   ·have e2:=T5.go.inj e1;subst e2;dsimp only at h;refine ⟨_,Tl.refl,?_⟩;refine Tw L 249 <| Tp (Tl.trans (Tl.kk [2] [0,24200]) (Tl.rr [(0,0),(24200,100)])) ?_;refine To ?_;cases h;exact T3
  ·rcases h with ⟨_,e1,h⟩ |⟨_,e1,h⟩
   ·have e2:=T5.done.inj e1;subst e2;subst h;exact ⟨_,Tl.refl,hr⟩
   ·cases e1
def Bz.l7 (K:Nat) (R:Aj):Nat→(List Aq)→Int→Bool→Int→(List UInt8)→Int→(List UInt8)→(List Aa)→Option ((List Aq)×Int×Bool×Int×(List UInt8)×Int×(List UInt8)×(List Aa))
 | 0,_,_,_,_,_,_,_,_=>none
 | k+1,g,h,i,a,b,c,d,e=>(Option.bind (Ai K ([97,110,100]:List UInt8) (⟨g,h,i⟩:Ad)) (fun (m,f)=>(if m=true then (Option.bind (R.Be f) (fun (n,j)=>(Option.bind (A0 K 26 (⟨a,b,c,d,e⟩:Aa) n) (fun a4=>Bz.l7 K R k j.l j.at_ j.bad a4.Op a4.Name a4.Int a4.Text a4.Kids)))) else some (f.l,f.at_,f.bad,a,b,c,d,e))))
def Bz.F (K:Nat) (R:Aj) (p0:Ad):Option (Aa×Ad):=(Option.bind (R.Be p0) (fun (a,g)=>(Option.bind (Bz.l7 K R K g.l g.at_ g.bad a.Op a.Name a.Int a.Text a.Kids:Option ((List Aq)×Int×Bool×Int×(List UInt8)×Int×(List UInt8)×(List Aa))) (fun (h,i,j,b,c,d,e,f)=>some ((⟨b,c,d,e,f⟩:Aa),(⟨h,i,j⟩:Ad))))))
theorem Bz.body {Γ:Ud} {K:Nat} {R:Aj} (hR:R.Ok) {p0:Ad} {r:Aa×Ad} (h:Bz.F K R p0=some r):Ub V P 13 100 Γ (Tryz.f88.body.getD .skip) (Ty P V Tryz.f88 (.agg [.I r.1.Op,.str r.1.Name,.I r.1.Int,.str r.1.Text,.ro .Af r.1.Kids]) [(0,.raw [.ro .Ap r.2.l,.I r.2.at_,.B r.2.bad])]) ⟨Tx 0 [.P 0],[(0,.raw (Ac p0))]⟩:=by
 unfold Bz.F at h;refine Tw L 200 <| Tm ?_;obtain ⟨⟨v,w⟩,h1,h⟩:=bind_some h;dsimp only at h;refine rg L 202 [] [] [(1,(T0 (.agg (Ah v)) [(0,.raw (Ac w))]))] (Tu (hR.Be h1)) ?_;refine Tm <| Tt <| Tp (Tl.trans (Tl.kk [0,2,3] [0,200,204]) (Tl.rr [(0,0),(200,21500),(204,21501)])) ?_;refine kp (S':=⟨[(0,.P 0),(2,.P 21500),(3,.P 21501)],[(0,.raw (Ac w)),(21500,.raw [.I 0,.str [],.I 0,.str [],.N]),(21501,.raw (Ah v))]⟩) ?_;obtain ⟨o1,hp1,h⟩:=bind_some h;refine T4 (Q':=fun e S=>(e=.exit 0∧∃ s:List Aq,∃ t:Int,∃ u:Bool,∃ g:Int,∃ i:List UInt8,∃ j:Int,∃ m:List UInt8,∃ n:List Aa,S=⟨[(2,.P 21400),(3,.P 21401)],[(0,.raw [.ro .Ap s,.I t,.B u]),(21400,.raw [.I 0,.str [],.I 0,.str [],.N]),(21401,.raw [.I g,.str i,.I j,.str m,.ro .Af n])]⟩∧(s,t,u,g,i,j,m,n)=o1)) (T8 (fun k S=>∃ o:List Aq,∃ p:Int,∃ q:Bool,∃ a:Int,∃ b:List UInt8,∃ c:Int,∃ d:List UInt8,∃ f:List Aa,S=⟨[(0,.P 0),(2,.P 21500),(3,.P 21501)],[(0,.raw [.ro .Ap o,.I p,.B q]),(21500,.raw [.I 0,.str [],.I 0,.str [],.N]),(21501,.raw [.I a,.str b,.I c,.str d,.ro .Af f])]⟩∧Bz.l7 K R k o p q a b c d f=some o1) ?_ ⟨_,_,_,_,_,_,_,_,rfl,hp1⟩) ?_
 ·clear h hp1;intro k S hS;obtain ⟨o,p,q,a,b,c,d,f,rfl,h⟩:=hS;cases k with
  | zero=>cases h
  | succ k =>
  unfold Bz.l7 at h;refine Tm <| Tm ?_;obtain ⟨⟨z,x⟩,h2,h⟩:=bind_some h;dsimp only at h;refine rg L 207 [] [] [(1,(T0 (.B z) [(0,.raw (Ac x))]))] (Tu (Ai.okE h2)) ?_;rcases Tn h with ⟨c1,h⟩ |⟨c1,h⟩
  ·refine tt c1 <| Tr <| Tt ?_;obtain ⟨⟨aa,y⟩,h3,h⟩:=bind_some h;dsimp only at h;obtain ⟨a4,h4,h⟩:=bind_some h;refine hB L mixed 210 [] [(3,.agg (Ah a4))] [(2,(T0 (.agg (Ah aa)) [(0,.raw (Ac y))]))] [1] 2 (Tq (hR.Be h3) (Tq (A0.ok h4) (Tq trivial (Tq (hR.Be h3) (Tq (A0.ok h4) (Tu trivial)))))) (S':=⟨[(0,.P 0),(2,.P 21500),(3,.P 21501)],[(0,.raw (Ac y)),(21500,.raw [.I 0,.str [],.I 0,.str [],.N]),(21501,.raw (Ah a4))]⟩) ?_;exact ⟨k,Nat.lt_succ_self k,_,_,_,_,_,_,_,_,rfl,h⟩
  refine fN c1 <| Tp (Tl.trans (Tl.kk [2,3] [0,21500,21501]) (Tl.rr [(0,0),(21500,21400),(21501,21401)])) ?_;refine ex (S':=⟨[(2,.P 21400),(3,.P 21401)],[(0,.raw (Ac x)),(21400,.raw [.I 0,.str [],.I 0,.str [],.N]),(21401,.raw [.I a,.str b,.I c,.str d,.ro .Af f])]⟩) ?_;cases h;exact ⟨rfl,_,_,_,_,_,_,_,_,rfl,rfl⟩
 ·rintro e S ⟨rfl,s,t,u,g,i,j,m,n,rfl,rfl⟩;dsimp only at h;refine ⟨_,Tl.refl,?_⟩;refine Tw L 216 <| Tp (Tl.trans (Tl.kk [2] [0,21400]) (Tl.rr [(0,0),(21400,100)])) ?_;refine To ?_;cases h;exact T3
def Av.l7 (K:Nat) (R:Aj):Nat→(List Aq)→Int→Bool→Int→(List UInt8)→Int→(List UInt8)→(List Aa)→Option ((List Aq)×Int×Bool×Int×(List UInt8)×Int×(List UInt8)×(List Aa))
 | 0,_,_,_,_,_,_,_,_=>none
 | k+1,g,h,i,a,b,c,d,e=>(Option.bind (Ai K ([111,114]:List UInt8) (⟨g,h,i⟩:Ad)) (fun (m,f)=>(if m=true then (Option.bind (R.Bz f) (fun (n,j)=>(Option.bind (A0 K 27 (⟨a,b,c,d,e⟩:Aa) n) (fun a4=>Av.l7 K R k j.l j.at_ j.bad a4.Op a4.Name a4.Int a4.Text a4.Kids)))) else some (f.l,f.at_,f.bad,a,b,c,d,e))))
def Av.F (K:Nat) (R:Aj) (p0:Ad):Option (Aa×Ad):=(Option.bind (R.Bz p0) (fun (a,g)=>(Option.bind (Av.l7 K R K g.l g.at_ g.bad a.Op a.Name a.Int a.Text a.Kids:Option ((List Aq)×Int×Bool×Int×(List UInt8)×Int×(List UInt8)×(List Aa))) (fun (h,i,j,b,c,d,e,f)=>some ((⟨b,c,d,e,f⟩:Aa),(⟨h,i,j⟩:Ad))))))
theorem Av.body {Γ:Ud} {K:Nat} {R:Aj} (hR:R.Ok) {p0:Ad} {r:Aa×Ad} (h:Av.F K R p0=some r):Ub V P 13 100 Γ (Tryz.f54.body.getD .skip) (Ty P V Tryz.f54 (.agg [.I r.1.Op,.str r.1.Name,.I r.1.Int,.str r.1.Text,.ro .Af r.1.Kids]) [(0,.raw [.ro .Ap r.2.l,.I r.2.at_,.B r.2.bad])]) ⟨Tx 0 [.P 0],[(0,.raw (Ac p0))]⟩:=by
 unfold Av.F at h;refine Tw L 200 <| Tm ?_;obtain ⟨⟨v,w⟩,h1,h⟩:=bind_some h;dsimp only at h;refine rg L 202 [] [] [(1,(T0 (.agg (Ah v)) [(0,.raw (Ac w))]))] (Tu (hR.Bz h1)) ?_;refine Tm <| Tt <| Tp (Tl.trans (Tl.kk [0,2,3] [0,200,204]) (Tl.rr [(0,0),(200,21500),(204,21501)])) ?_;refine kp (S':=⟨[(0,.P 0),(2,.P 21500),(3,.P 21501)],[(0,.raw (Ac w)),(21500,.raw [.I 0,.str [],.I 0,.str [],.N]),(21501,.raw (Ah v))]⟩) ?_;obtain ⟨o1,hp1,h⟩:=bind_some h;refine T4 (Q':=fun e S=>(e=.exit 0∧∃ s:List Aq,∃ t:Int,∃ u:Bool,∃ g:Int,∃ i:List UInt8,∃ j:Int,∃ m:List UInt8,∃ n:List Aa,S=⟨[(2,.P 21400),(3,.P 21401)],[(0,.raw [.ro .Ap s,.I t,.B u]),(21400,.raw [.I 0,.str [],.I 0,.str [],.N]),(21401,.raw [.I g,.str i,.I j,.str m,.ro .Af n])]⟩∧(s,t,u,g,i,j,m,n)=o1)) (T8 (fun k S=>∃ o:List Aq,∃ p:Int,∃ q:Bool,∃ a:Int,∃ b:List UInt8,∃ c:Int,∃ d:List UInt8,∃ f:List Aa,S=⟨[(0,.P 0),(2,.P 21500),(3,.P 21501)],[(0,.raw [.ro .Ap o,.I p,.B q]),(21500,.raw [.I 0,.str [],.I 0,.str [],.N]),(21501,.raw [.I a,.str b,.I c,.str d,.ro .Af f])]⟩∧Av.l7 K R k o p q a b c d f=some o1) ?_ ⟨_,_,_,_,_,_,_,_,rfl,hp1⟩) ?_
 ·clear h hp1;intro k S hS;obtain ⟨o,p,q,a,b,c,d,f,rfl,h⟩:=hS;cases k with
  | zero=>cases h
  | succ k =>
  unfold Av.l7 at h;refine Tm <| Tm ?_;obtain ⟨⟨z,x⟩,h2,h⟩:=bind_some h;dsimp only at h;refine rg L 207 [] [] [(1,(T0 (.B z) [(0,.raw (Ac x))]))] (Tu (Ai.okE h2)) ?_;rcases Tn h with ⟨c1,h⟩ |⟨c1,h⟩
  ·refine tt c1 <| Tr <| Tt ?_;obtain ⟨⟨aa,y⟩,h3,h⟩:=bind_some h;dsimp only at h;obtain ⟨a4,h4,h⟩:=bind_some h;refine hB L mixed 210 [] [(3,.agg (Ah a4))] [(2,(T0 (.agg (Ah aa)) [(0,.raw (Ac y))]))] [1] 2 (Tq (hR.Bz h3) (Tq (A0.ok h4) (Tq trivial (Tq (hR.Bz h3) (Tq (A0.ok h4) (Tu trivial)))))) (S':=⟨[(0,.P 0),(2,.P 21500),(3,.P 21501)],[(0,.raw (Ac y)),(21500,.raw [.I 0,.str [],.I 0,.str [],.N]),(21501,.raw (Ah a4))]⟩) ?_;exact ⟨k,Nat.lt_succ_self k,_,_,_,_,_,_,_,_,rfl,h⟩
  refine fN c1 <| Tp (Tl.trans (Tl.kk [2,3] [0,21500,21501]) (Tl.rr [(0,0),(21500,21400),(21501,21401)])) ?_;refine ex (S':=⟨[(2,.P 21400),(3,.P 21401)],[(0,.raw (Ac x)),(21400,.raw [.I 0,.str [],.I 0,.str [],.N]),(21401,.raw [.I a,.str b,.I c,.str d,.ro .Af f])]⟩) ?_;cases h;exact ⟨rfl,_,_,_,_,_,_,_,_,rfl,rfl⟩
 ·rintro e S ⟨rfl,s,t,u,g,i,j,m,n,rfl,rfl⟩;dsimp only at h;refine ⟨_,Tl.refl,?_⟩;refine Tw L 216 <| Tp (Tl.trans (Tl.kk [2] [0,21400]) (Tl.rr [(0,0),(21400,100)])) ?_;refine To ?_;cases h;exact T3
def Bc.l15 (K:Nat) (R:Aj) (p0:List UInt8):Nat→(List Aq)→Int→Bool→(List Aa)→Option (T5 ((List Aa)×Ad) ((List Aq)×Int×Bool×(List Aa)))
 | 0,_,_,_,_=>none
 | k+1,d,e,b,c=>(if b=true then some (T5.go (d,e,b,c)) else (Option.bind (R.Av (⟨d,e,b⟩:Ad)) (fun (a,g)=>(if (c.length+([(⟨a.Op,a.Name,a.Int,a.Text,a.Kids⟩:Aa)]:List Aa).length) * 72≤140737488355328 then (Option.bind (Ai K p0 g) (fun (h,f)=>(if h=true then some (T5.done ((c++([(⟨a.Op,a.Name,a.Int,a.Text,a.Kids⟩:Aa)]:List Aa)),f)) else (Option.bind (Ax K ([44]:List UInt8) f) (fun a4=>Bc.l15 K R p0 k a4.l a4.at_ a4.bad (c++([(⟨a.Op,a.Name,a.Int,a.Text,a.Kids⟩:Aa)]:List Aa))))))) else none))))
def Bc.F (K:Nat) (R:Aj) (p0:List UInt8) (p1:Ad):Option ((List Aa)×Ad):=(Option.bind (Ai K p0 p1) (fun (f,a)=>(if f=true then some (([]:List Aa),a) else (obind (Bc.l15 K R p0 K a.l a.at_ a.bad ([]:List Aa):Option (T5 ((List Aa)×Ad) ((List Aq)×Int×Bool×(List Aa)))) (fun r=>r) (fun (b,c,d,e)=>some (e,(⟨b,c,d⟩:Ad)))))))
theorem Bc.body {Γ:Ud} {K:Nat} {R:Aj} (hR:R.Ok) {p0:List UInt8} {p1:Ad} {r:(List Aa)×Ad} (h:Bc.F K R p0 p1=some r):Ub V P 27 100 Γ (Tryz.f129.body.getD .skip) (Ty P V Tryz.f129 (.cv (.ro .Af r.1)) [(0,.raw [.ro .Ap r.2.l,.I r.2.at_,.B r.2.bad])]) ⟨Tx 0 [.P 0,.cv (.str p0)],[(0,.raw (Ac p1))]⟩:=by
 unfold Bc.F at h;refine Tw L 200 <| Tw L 202 <| Tm <| Tm ?_;obtain ⟨⟨s,p⟩,h1,h⟩:=bind_some h;dsimp only at h;refine rg L 204 [] [] [(2,(T0 (.B s) [(0,.raw (Ac p))]))] (Tu (Ai.okE h1)) ?_;rcases Tn h with ⟨c1,h⟩ |⟨c1,h⟩
 ·refine tt c1 <| Tw L 208 <| To ?_;cases h;exact T3
 refine fN c1 <| Tr <| Tm <| Tt <| Tp (Tl.trans (Tl.kk [0,1,5] [0]) (Tl.trans (Tl.no 5 9500 Tag.Af) (Tl.trans (Tl.kk [0,1,5] [0,9500]) (Tl.rr [(0,0),(9500,23100)])))) ?_;refine kp (S':=⟨[(0,.P 0),(1,.cv (.str p0)),(5,.cv (.own .Af 23100))],[(0,.raw (Ac p)),(23100,.lst .Af ([]:List Aa))]⟩) ?_;obtain ⟨o1,hp1,h⟩:=T7 h;refine T4 (Q':=fun e S=>(e=.exit 0∧∃ i:List Aq,∃ j:Int,∃ m:Bool,∃ o:List Aa,S=⟨[(5,.cv (.own .Af 23000))],[(0,.raw [.ro .Ap i,.I j,.B m]),(23000,.lst .Af o)]⟩∧T5.go (i,j,m,o)=o1)∨(e=.ret∧∃ a,T5.done a=o1∧Ty P V Tryz.f129 (.cv (.ro .Af a.1)) [(0,.raw [.ro .Ap a.2.l,.I a.2.at_,.B a.2.bad])] .ret S)) (T8 (fun k S=>∃ d:List Aq,∃ f:Int,∃ c:Bool,∃ g:List Aa,S=⟨[(0,.P 0),(1,.cv (.str p0)),(5,.cv (.own .Af 23100))],[(0,.raw [.ro .Ap d,.I f,.B c]),(23100,.lst .Af g)]⟩∧Bc.l15 K R p0 k d f c g=some o1) ?_ ⟨_,_,_,_,rfl,hp1⟩) ?_
 ·clear h hp1;intro k S hS;obtain ⟨d,f,c,g,rfl,h⟩:=hS;cases k with
  | zero=>cases h
  | succ k =>
  unfold Bc.l15 at h;refine Tm <| Tw L 211 ?_;rcases Tn h with ⟨c2,h⟩ |⟨c2,h⟩
  ·refine ff (b:=(!c)) (congrArg Bool.not (c2)) ?_;refine Tp (Tl.trans (Tl.kk [5] [0,23100]) (Tl.rr [(0,0),(23100,23000)])) ?_;refine ex (S':=⟨[(5,.cv (.own .Af 23000))],[(0,.raw [.ro .Ap d,.I f,.B c]),(23000,.lst .Af g)]⟩) ?_;cases h;exact .inl ⟨rfl,_,_,_,_,rfl,rfl⟩
  refine tt (b:=(!c)) (congrArg Bool.not (eq_false_of_ne_true c2)) ?_;refine Tr <| Tt <| Tm ?_;obtain ⟨⟨n,t⟩,h2,h⟩:=bind_some h;dsimp only at h;obtain ⟨g1,h⟩:=Ts h;refine rg L 217 [] [] [(2,(T0 (.agg (Ah n)) [(0,.raw (Ac t))]))] (Tq (hR.Av h2) (Tq g1 (Tu trivial))) ?_;refine Tm <| Tm ?_;obtain ⟨⟨u,q⟩,h3,h⟩:=bind_some h;dsimp only at h;refine rg L 224 [] [] [(2,(T0 (.B u) [(0,.raw (Ac q))]))] (Tu (Ai.okE h3)) ?_;rcases Tn h with ⟨c3,h⟩ |⟨c3,h⟩
  ·refine tt c3 <| Tw L 228 <| Tp (Tl.trans (Tl.kk [4] [0,23100]) (Tl.fz 23100)) ?_;refine To ?_;cases h;exact .inr ⟨rfl,_,rfl,T3⟩
  refine fN c3 <| Tr ?_;obtain ⟨a4,h4,h⟩:=bind_some h;refine ar L 231 [] [] [(1,(T0 (.tup []) [(0,.raw (Ac a4))]))] (cs:=[Tv V P 82 [.P 0,.cv (.str ([44]:List UInt8))] [(0,.raw (Ac q))] [0] (.tup []) [(0,.raw (Ac a4))]]) (S':=⟨[(0,.P 0),(1,.cv (.str p0)),(5,.cv (.own .Af 23100))],[(0,.raw (Ac a4)),(23100,.lst .Af (g++([(⟨n.Op,n.Name,n.Int,n.Text,n.Kids⟩:Aa)]:List Aa)))]⟩) (Ax.okE h4) ?_;exact ⟨k,Nat.lt_succ_self k,_,_,_,_,rfl,h⟩
 ·rintro e S (⟨rfl,i,j,m,o,rfl,rfl⟩ |⟨rfl,a,rfl,hr⟩)
  ·rcases h with ⟨_,e1,h⟩ |⟨_,e1,h⟩
   ·cases e1
   ·have e2:=T5.go.inj e1;subst e2;dsimp only at h;refine ⟨_,Tl.refl,?_⟩;refine Tw L 234 <| Tp (Tl.trans (Tl.kk [4] [0,23000]) (Tl.fz 23000)) ?_;refine To ?_;cases h;exact T3
  ·rcases h with ⟨_,e1,h⟩ |⟨_,e1,h⟩
   ·have e2:=T5.done.inj e1;subst e2;subst h;exact ⟨_,Tl.refl,hr⟩
   ·cases e1
def B6.l15 (K:Nat) (R:Aj):Nat→(List Aq)→Int→Bool→(List Aa)→Option (T5 ((List Aa)×Ad) ((List Aq)×Int×Bool×(List Aa)))
 | 0,_,_,_,_=>none
 | k+1,b,a,c,d=>(if c=true then some (T5.go (b,a,c,d)) else (Option.bind (Bl K (⟨b,a,c⟩:Ad) 4) (fun a2=>(if a2=true then (if (0:Int)≤a∧(a:Int) <(b.length:Int) then (Option.bind (Ax K ([58]:List UInt8) (⟨b,(IntKind.i64.wrap (a+1)),c⟩:Ad)) (fun a3=>(Option.bind (R.Av a3) (fun (f,g)=>(Option.bind (Cv K 9 f) (fun a5=>(if (d.length+([(⟨a5.Op,a5.Name,a5.Int,(b.getD (Int.toNat a) Dh).Text,a5.Kids⟩:Aa)]:List Aa).length) * 72≤140737488355328 then (Option.bind (Ai K ([125]:List UInt8) g) (fun (h,e)=>(if h=true then some (T5.done (((d++([(⟨a5.Op,a5.Name,a5.Int,(b.getD (Int.toNat a) Dh).Text,a5.Kids⟩:Aa)]:List Aa)),e))) else (Option.bind (Ax K ([44]:List UInt8) e) (fun a7=>B6.l15 K R k a7.l a7.at_ a7.bad (d++([(⟨a5.Op,a5.Name,a5.Int,(b.getD (Int.toNat a) Dh).Text,a5.Kids⟩:Aa)]:List Aa))))))) else none))))))) else none) else some (T5.done (d,(⟨b,a,true⟩:Ad)))))))
def B6.F (K:Nat) (R:Aj) (p0:Ad):Option ((List Aa)×Ad):=(Option.bind (Ai K ([125]:List UInt8) p0) (fun (f,a)=>(if f=true then some (([]:List Aa),a) else (obind (B6.l15 K R K a.l a.at_ a.bad ([]:List Aa):Option (T5 ((List Aa)×Ad) ((List Aq)×Int×Bool×(List Aa)))) (fun r=>r) (fun (b,c,d,e)=>some (e,(⟨b,c,d⟩:Ad)))))))
theorem B6.body {Γ:Ud} {K:Nat} {R:Aj} (hR:R.Ok) {p0:Ad} {r:(List Aa)×Ad} (h:B6.F K R p0=some r):Ub V P 56 100 Γ (Tryz.f130.body.getD .skip) (Ty P V Tryz.f130 (.cv (.ro .Af r.1)) [(0,.raw [.ro .Ap r.2.l,.I r.2.at_,.B r.2.bad])]) ⟨Tx 0 [.P 0],[(0,.raw (Ac p0))]⟩:=by
 unfold B6.F at h;refine Tw L 200 <| Tw L 202 <| Tm <| Tm ?_;obtain ⟨⟨q,o⟩,h1,h⟩:=bind_some h;dsimp only at h;refine rg L 204 [] [] [(1,(T0 (.B q) [(0,.raw (Ac o))]))] (Tu (Ai.okE h1)) ?_;rcases Tn h with ⟨c1,h⟩ |⟨c1,h⟩
 ·refine tt c1 <| Tw L 207 <| To ?_;cases h;exact T3
 refine fN c1 <| Tr <| Tm <| Tt <| Tp (Tl.trans (Tl.kk [0,3] [0]) (Tl.trans (Tl.no 3 9500 Tag.Af) (Tl.trans (Tl.kk [0,3] [0,9500]) (Tl.rr [(0,0),(9500,23100)])))) ?_;refine kp (S':=⟨[(0,.P 0),(3,.cv (.own .Af 23100))],[(0,.raw (Ac o)),(23100,.lst .Af ([]:List Aa))]⟩) ?_;obtain ⟨o1,hp1,h⟩:=T7 h;refine T4 (Q':=fun e S=>(e=.exit 0∧∃ i:List Aq,∃ j:Int,∃ m:Bool,∃ n:List Aa,S=⟨[(3,.cv (.own .Af 23000))],[(0,.raw [.ro .Ap i,.I j,.B m]),(23000,.lst .Af n)]⟩∧T5.go (i,j,m,n)=o1)∨(e=.ret∧∃ a,T5.done a=o1∧Ty P V Tryz.f130 (.cv (.ro .Af a.1)) [(0,.raw [.ro .Ap a.2.l,.I a.2.at_,.B a.2.bad])] .ret S)) (T8 (fun k S=>∃ d:List Aq,∃ f:Int,∃ c:Bool,∃ g:List Aa,S=⟨[(0,.P 0),(3,.cv (.own .Af 23100))],[(0,.raw [.ro .Ap d,.I f,.B c]),(23100,.lst .Af g)]⟩∧B6.l15 K R k d f c g=some o1) ?_ ⟨_,_,_,_,rfl,hp1⟩) ?_
 ·clear h hp1;intro k S hS;obtain ⟨d,f,c,g,rfl,h⟩:=hS;cases k with
  | zero=>cases h
  | succ k =>
  unfold B6.l15 at h;refine Tm <| Tw L 210 ?_;rcases Tn h with ⟨c2,h⟩ |⟨c2,h⟩
  ·refine ff (b:=(!c)) (congrArg Bool.not (c2)) ?_;refine Tp (Tl.trans (Tl.kk [3] [0,23100]) (Tl.rr [(0,0),(23100,23000)])) ?_;refine ex (S':=⟨[(3,.cv (.own .Af 23000))],[(0,.raw [.ro .Ap d,.I f,.B c]),(23000,.lst .Af g)]⟩) ?_;cases h;exact .inl ⟨rfl,_,_,_,_,rfl,rfl⟩
  refine tt (b:=(!c)) (congrArg Bool.not (eq_false_of_ne_true c2)) ?_;refine Tr <| Tt <| Tm <| Tm ?_;obtain ⟨a2,h2,h⟩:=bind_some h;refine rg L 216 [] [(1,.B a2)] [] (U4 (Bl.ok h2)) ?_;rcases Tn h with ⟨c3,h⟩ |⟨c3,h⟩
  ·refine ff (b:=(!a2)) (congrArg Bool.not (c3)) ?_;refine Tr <| Tm ?_;obtain ⟨g1,h⟩:=Ts h;refine rd L mixed 228 [] [] [] [] 12 (Vf g1.1 g1.2) ?_;refine Tw L 241 <| Tm ?_;obtain ⟨a3,h3,h⟩:=bind_some h;refine rg L 250 [] [] [(1,(T0 (.tup []) [(0,.raw (Ac a3))]))] (Tu (Ax.okE h3)) ?_;refine Tm ?_;obtain ⟨⟨s,t⟩,h4,h⟩:=bind_some h;dsimp only at h;obtain ⟨a5,h5,h⟩:=bind_some h;refine rg L 253 [] [(2,.agg (Ah a5))] [(1,(T0 (.agg (Ah s)) [(0,.raw (Ac t))]))] (Tq (hR.Av h4) (Tq (Cv.ok h5) (Tu trivial))) ?_;refine Tw L 259 <| Tm ?_;obtain ⟨g2,h⟩:=Ts h;refine rg L 263 [] [] [] (U4 g2) ?_;refine Tm <| Tm ?_;obtain ⟨⟨u,p⟩,h6,h⟩:=bind_some h;dsimp only at h;refine rg L 269 [] [] [(1,(T0 (.B u) [(0,.raw (Ac p))]))] (Tu (Ai.okE h6)) ?_;rcases Tn h with ⟨c4,h⟩ |⟨c4,h⟩
   ·refine tt c4 <| Tw L 272 <| Tp (Tl.trans (Tl.kk [2] [0,23100]) (Tl.fz 23100)) ?_;refine To ?_;cases h;exact .inr ⟨rfl,_,rfl,T3⟩
   refine fN c4 <| Tr ?_;obtain ⟨a7,h7,h⟩:=bind_some h;refine ar L 275 [] [] [(1,(T0 (.tup []) [(0,.raw (Ac a7))]))] (cs:=[Tv V P 82 [.P 0,.cv (.str ([44]:List UInt8))] [(0,.raw (Ac p))] [0] (.tup []) [(0,.raw (Ac a7))]]) (S':=⟨[(0,.P 0),(3,.cv (.own .Af 23100))],[(0,.raw (Ac a7)),(23100,.lst .Af (g++([(⟨a5.Op,a5.Name,a5.Int,(d.getD (Int.toNat f) Dh).Text,a5.Kids⟩:Aa)]:List Aa)))]⟩) (Ax.okE h7) ?_;exact ⟨k,Nat.lt_succ_self k,_,_,_,_,rfl,h⟩
  refine tt (b:=(!a2)) (congrArg Bool.not (eq_false_of_ne_true c3)) ?_;refine Tw L 220 <| Tw L 225 <| Tp (Tl.trans (Tl.kk [2] [0,23100]) (Tl.fz 23100)) ?_;refine To ?_;cases h;exact .inr ⟨rfl,_,rfl,T3⟩
 ·rintro e S (⟨rfl,i,j,m,n,rfl,rfl⟩ |⟨rfl,a,rfl,hr⟩)
  ·rcases h with ⟨_,e1,h⟩ |⟨_,e1,h⟩
   ·cases e1
   ·have e2:=T5.go.inj e1;subst e2;dsimp only at h;refine ⟨_,Tl.refl,?_⟩;refine Tw L 278 <| Tp (Tl.trans (Tl.kk [2] [0,23000]) (Tl.fz 23000)) ?_;refine To ?_;cases h;exact T3
  ·rcases h with ⟨_,e1,h⟩ |⟨_,e1,h⟩
   ·have e2:=T5.done.inj e1;subst e2;subst h;exact ⟨_,Tl.refl,hr⟩
   ·cases e1
end Go.Proofs.YtifjagfmfkemmaaGreatDoor
