import Derived.Test.YtifjagfmfkemmaaGreatDoorFn2
set_option linter.unusedVariables false
set_option maxHeartbeats 0
namespace Go.Proofs.YtifjagfmfkemmaaGreatDoor
open Eng
def D9.F (K:Nat) (R:Ap) (p0:Aa):Option Bool:=(if p0.Op=50 then (Option.bind (A4 K p0 true false false) (fun a1=>(if a1=true then (if p0.Name=([]:List UInt8) then (if (p0.Kids.length:Int)=2 then (if (0:Int) <(p0.Kids.length:Int) then (Option.bind (Bk K (p0.Kids.getD (Int.toNat 0) B3)) (fun a2=>(if a2=true then (if (1:Int) <(p0.Kids.length:Int) then (Option.bind (R.Cm (p0.Kids.getD (Int.toNat 1) B3)) (fun a3=>some a3)) else none) else some false))) else none) else some false) else (Option.bind (Bp K p0.Name) (fun a4=>(if a4=true then (if (p0.Kids.length:Int)=2 then (if (0:Int) <(p0.Kids.length:Int) then (Option.bind (Bk K (p0.Kids.getD (Int.toNat 0) B3)) (fun a5=>(if a5=true then (if (1:Int) <(p0.Kids.length:Int) then (Option.bind (R.Cm (p0.Kids.getD (Int.toNat 1) B3)) (fun a6=>some a6)) else none) else some false))) else none) else some false) else some false)))) else some false))) else some false)
theorem D9.body {Γ:Rm} {K:Nat} {R:Ap} (hR:R.Ok) {p0:Aa} {r:Bool} (h:D9.F K R p0=some r):Ri V P 40 100 Γ (Tryz.f136.body.getD .skip) (Q7 P V Tryz.f136 (.B r) []) ⟨Q6 0 [.agg (Aj p0)],[]⟩:=by
 unfold D9.F at h
 refine Q4 L 200 <| Qv ?_
 rcases Qw h with ⟨c1,h⟩ |⟨c1,h⟩
 ·obtain ⟨a1,h1,h⟩:=bind_some h
  rcases Qw h with ⟨c2,h⟩ |⟨c2,h⟩
  ·rcases Qw h with ⟨c3,h⟩ |⟨c3,h⟩
   ·rcases Qw h with ⟨c4,h⟩ |⟨c4,h⟩
    ·obtain ⟨g1,h⟩:=Q1 h
     obtain ⟨a2,h2,h⟩:=bind_some h
     rcases Qw h with ⟨c5,h⟩ |⟨c5,h⟩
     ·obtain ⟨g2,h⟩:=Q1 h
      obtain ⟨a3,h3,h⟩:=bind_some h
      refine rg L 203 [(3,true),(7,true),(11,true),(23,true),(30,true)] [(5,.B a1),(28,.B a2),(35,.B a3)] [] (Qz (decide_eq_true c1) (Qz (A4.ok h1) (Qz trivial (Qz c2 (Qz (decide_eq_true c3) (Qz (decide_eq_true c4) (Qz (show (0:Int)≤0 from by decide) (Qz g1 (Qz (Bk.ok h2) (Qz trivial (Qz c5 (Qz (show (0:Int)≤1 from by decide) (Qz g2 (Qz (Cm.okR hR h3) (Q3 trivial))))))))))))))) ?_
      refine Qx ?_
      cases h
      exact Rd
     refine rg L 203 [(3,true),(7,true),(11,true),(23,true),(30,false)] [(5,.B a1),(28,.B a2)] [] (Qz (decide_eq_true c1) (Qz (A4.ok h1) (Qz trivial (Qz c2 (Qz (decide_eq_true c3) (Qz (decide_eq_true c4) (Qz (show (0:Int)≤0 from by decide) (Qz g1 (Qz (Bk.ok h2) (Qz trivial (Q3 (eq_false_of_ne_true c5)))))))))))) ?_
     refine Qx ?_
     cases h
     exact Rd
    refine rg L 203 [(3,true),(7,true),(11,true),(23,false)] [(5,.B a1)] [] (Qz (decide_eq_true c1) (Qz (A4.ok h1) (Qz trivial (Qz c2 (Qz (decide_eq_true c3) (Q3 (decide_eq_false c4))))))) ?_
    refine Qx ?_
    cases h
    exact Rd
   obtain ⟨a4,h4,h⟩:=bind_some h
   rcases Qw h with ⟨c6,h⟩ |⟨c6,h⟩
   ·rcases Qw h with ⟨c7,h⟩ |⟨c7,h⟩
    ·obtain ⟨g3,h⟩:=Q1 h
     obtain ⟨a5,h5,h⟩:=bind_some h
     rcases Qw h with ⟨c8,h⟩ |⟨c8,h⟩
     ·obtain ⟨g4,h⟩:=Q1 h
      obtain ⟨a6,h6,h⟩:=bind_some h
      refine rg L 203 [(3,true),(7,true),(11,false),(17,true),(23,true),(30,true)] [(5,.B a1),(14,.B a4),(28,.B a5),(35,.B a6)] [] (Qz (decide_eq_true c1) (Qz (A4.ok h1) (Qz trivial (Qz c2 (Qz (decide_eq_false c3) (Qz (Bp.ok h4) (Qz trivial (Qz c6 (Qz (decide_eq_true c7) (Qz (show (0:Int)≤0 from by decide) (Qz g3 (Qz (Bk.ok h5) (Qz trivial (Qz c8 (Qz (show (0:Int)≤1 from by decide) (Qz g4 (Qz (Cm.okR hR h6) (Q3 trivial)))))))))))))))))) ?_
      refine Qx ?_
      cases h
      exact Rd
     refine rg L 203 [(3,true),(7,true),(11,false),(17,true),(23,true),(30,false)] [(5,.B a1),(14,.B a4),(28,.B a5)] [] (Qz (decide_eq_true c1) (Qz (A4.ok h1) (Qz trivial (Qz c2 (Qz (decide_eq_false c3) (Qz (Bp.ok h4) (Qz trivial (Qz c6 (Qz (decide_eq_true c7) (Qz (show (0:Int)≤0 from by decide) (Qz g3 (Qz (Bk.ok h5) (Qz trivial (Q3 (eq_false_of_ne_true c8))))))))))))))) ?_
     refine Qx ?_
     cases h
     exact Rd
    refine rg L 203 [(3,true),(7,true),(11,false),(17,true),(23,false)] [(5,.B a1),(14,.B a4)] [] (Qz (decide_eq_true c1) (Qz (A4.ok h1) (Qz trivial (Qz c2 (Qz (decide_eq_false c3) (Qz (Bp.ok h4) (Qz trivial (Qz c6 (Q3 (decide_eq_false c7)))))))))) ?_
    refine Qx ?_
    cases h
    exact Rd
   refine rg L 203 [(3,true),(7,true),(11,false),(17,false)] [(5,.B a1),(14,.B a4)] [] (Qz (decide_eq_true c1) (Qz (A4.ok h1) (Qz trivial (Qz c2 (Qz (decide_eq_false c3) (Qz (Bp.ok h4) (Qz trivial (Q3 (eq_false_of_ne_true c6))))))))) ?_
   refine Qx ?_
   cases h
   exact Rd
  refine rg L 203 [(3,true),(7,false)] [(5,.B a1)] [] (Qz (decide_eq_true c1) (Qz (A4.ok h1) (Qz trivial (Q3 (eq_false_of_ne_true c2))))) ?_
  refine Qx ?_
  cases h
  exact Rd
 refine rg L 203 [(3,false)] [] [] (Q3 (decide_eq_false c1)) ?_
 refine Qx ?_
 cases h
 exact Rd
def Dl.F (K:Nat) (R:Ap) (p0:Aa):Option Bool:=(Option.bind (R.D9 p0) (fun a1=>some (!a1)))
theorem Dl.body {Γ:Rm} {K:Nat} {R:Ap} (hR:R.Ok) {p0:Aa} {r:Bool} (h:Dl.F K R p0=some r):Ri V P 8 100 Γ (Tryz.f57.body.getD .skip) (Q7 P V Tryz.f57 (.B r) []) ⟨Q6 0 [.agg (Aj p0),.cv (.pcs [.fn (.func 136) [] []] 0)],[]⟩:=by
 unfold Dl.F at h
 refine Q4 L 200 <| Qv ?_
 obtain ⟨a1,h1,h⟩:=bind_some h
 refine rg L 203 [] [(2,.B a1)] [] (R6 (D9.okR hR h1)) ?_
 refine Qx ?_
 cases h
 exact Rd
def Cj.l7 (K:Nat) (R:Ap) (p0:List Aa):Nat→Int→Option (Q9 Int Unit)
 | 0,_=>none
 | k+1,xt8_7h=>(if xt8_7h <(p0.length:Int) then (if (0:Int)≤xt8_7h∧(xt8_7h:Int) <(p0.length:Int) then (Option.bind (R.Dl (p0.getD (Int.toNat xt8_7h) B3)) (fun a1=>(if a1=true then some (Q9.done xt8_7h) else Cj.l7 K R p0 k (IntKind.i64.wrap (xt8_7h+1))))) else none) else some (Q9.go ()))
def Cj.F (K:Nat) (R:Ap) (p0:List Aa):Option Int:=(obind (Cj.l7 K R p0 K 0:Option (Q9 Int Unit)) (fun r=>r) (fun _=>some (-1)))
theorem Cj.body {Γ:Rm} {K:Nat} {R:Ap} (hR:R.Ok) {p0:List Aa} {r:Int} (h:Cj.F K R p0=some r):Ri V P 19 100 Γ (Tryz.f90.body.getD .skip) (Q7 P V Tryz.f90 (.I r) []) ⟨Q6 0 [.cv (.ro .Ae p0),.cv (.fn (.func 57) [] [.pcs [.fn (.func 136) [] []] 0])],[]⟩:=by
 unfold Cj.F at h
 refine Q4 L 200 <| Qv <| Q4 L 202 <| Q2 <| kp (S':=⟨[(0,.cv (.ro .Ae p0)),(1,.cv (.fn (.func 57) [] [.pcs [.fn (.func 136) [] []] 0])),(7,.I (p0.length:Int)),(8,.I 0)],[]⟩) ?_
 obtain ⟨o1,hp1,h⟩:=Rf h
 refine Ra (Q':=fun e S=>(e=.exit 0∧S=⟨[],[]⟩∧Q9.go ()=o1)∨(e=.ret∧∃ a,Q9.done a=o1∧Q7 P V Tryz.f90 (.I a) [] .ret S)) (Rh (fun k S=>∃ xt8_7h:Int,S=⟨[(0,.cv (.ro .Ae p0)),(1,.cv (.fn (.func 57) [] [.pcs [.fn (.func 136) [] []] 0])),(7,.I (p0.length:Int)),(8,.I xt8_7h)],[]⟩∧Cj.l7 K R p0 k xt8_7h=some o1) ?_ ⟨_,rfl,hp1⟩) ?_
 ·clear h hp1
  intro k S hS
  obtain ⟨xt8_7h,rfl,h⟩:=hS
  cases k with
  | zero=>cases h
  | succ k =>
  unfold Cj.l7 at h
  refine Q4 L 206 <| Qv ?_
  rcases Qw h with ⟨c1,h⟩ |⟨c1,h⟩
  ·refine tT c1 <| Q0 <| Qv <| Q2 <| Q4 L 208 <| Qv ?_
   obtain ⟨g1,h⟩:=Q1 h
   obtain ⟨a1,h1,h⟩:=bind_some h
   refine rg L 211 [] [(5,.B a1)] [] (Qz g1.1 (Qz g1.2 (Qz (Dl.okR hR h1) (Q3 trivial)))) ?_
   rcases Qw h with ⟨c2,h⟩ |⟨c2,h⟩
   ·refine tt c2 <| Q4 L 218 <| Qx ?_
    cases h
    exact .inr ⟨rfl,_,rfl,Rd⟩
   refine fN c2 <| Q0 <| Tv L 221 [] [] [] (S':=⟨[(0,.cv (.ro .Ae p0)),(1,.cv (.fn (.func 57) [] [.pcs [.fn (.func 136) [] []] 0])),(7,.I (p0.length:Int)),(8,.I (IntKind.i64.wrap (xt8_7h+1)))],[]⟩) ?_
   exact ⟨k,Nat.lt_succ_self k,_,rfl,h⟩
  refine fF c1 <| ex (S':=⟨[],[]⟩) ?_
  cases h
  exact .inl ⟨rfl,rfl,rfl⟩
 ·rintro e S (⟨rfl,rfl,rfl⟩ |⟨rfl,a,rfl,hr⟩)
  ·rcases h with ⟨_,e1,h⟩ |⟨_,e1,h⟩
   ·cases e1
   ·have e2:=Q9.go.inj e1
    subst e2
    refine ⟨_,Qu.refl,?_⟩
    refine Q4 L 224 <| Qx ?_
    cases h
    exact Rd
  ·rcases h with ⟨_,e1,h⟩ |⟨_,e1,h⟩
   ·have e2:=Q9.done.inj e1
    subst e2
    subst h
    exact ⟨_,Qu.refl,hr⟩
   ·cases e1
def Cr.F (K:Nat) (R:Ap) (p0:List Aa):Option Bool:=(Option.bind (R.Cj p0) (fun a1=>some (decide (a1≥0))))
theorem Cr.body {Γ:Rm} {K:Nat} {R:Ap} (hR:R.Ok) {p0:List Aa} {r:Bool} (h:Cr.F K R p0=some r):Ri V P 9 100 Γ (Tryz.f56.body.getD .skip) (Q7 P V Tryz.f56 (.B r) []) ⟨Q6 0 [.cv (.ro .Ae p0),.cv (.fn (.func 57) [] [.pcs [.fn (.func 136) [] []] 0])],[]⟩:=by
 unfold Cr.F at h
 refine Q4 L 200 <| Qv ?_
 obtain ⟨a1,h1,h⟩:=bind_some h
 refine rg L 202 [] [(2,.I a1)] [] (R6 (Cj.okR hR h1)) ?_
 refine Qx ?_
 cases h
 exact Rd
def Dp.F (K:Nat) (R:Ap) (p0:List Aa):Option Bool:=(Option.bind (R.Cr p0) (fun a1=>some (!a1)))
theorem Dp.body {Γ:Rm} {K:Nat} {R:Ap} (hR:R.Ok) {p0:List Aa} {r:Bool} (h:Dp.F K R p0=some r):Ri V P 9 100 Γ (Tryz.f30.body.getD .skip) (Q7 P V Tryz.f30 (.B r) []) ⟨Q6 0 [.cv (.ro .Ae p0),.cv (.fn (.func 136) [] [])],[]⟩:=by
 unfold Dp.F at h
 refine Q4 L 200 <| Qv ?_
 obtain ⟨a1,h1,h⟩:=bind_some h
 refine rg L 203 [] [(2,.B a1)] [] (R6 (Cr.okR hR h1)) ?_
 refine Qx ?_
 cases h
 exact Rd
def Dy.F (K:Nat) (R:Ap) (p0:List Aa):Option Bool:=(Option.bind (((if (IntKind.i64.wrap ((p0.length:Int) - 1))≥0 then (if (0:Int)≤(IntKind.i64.wrap ((p0.length:Int) - 1))∧((IntKind.i64.wrap ((p0.length:Int) - 1)):Int) <(p0.length:Int) then some ((decide ((p0.getD (Int.toNat (IntKind.i64.wrap ((p0.length:Int) - 1))) B3).Op=51))) else none) else some false)):Option Bool) (fun xt17_6=>(if xt17_6=true then (if (0:Int)≤(IntKind.i64.wrap ((p0.length:Int) - 1))∧((IntKind.i64.wrap ((p0.length:Int) - 1)):Int) <(p0.length:Int) then (Option.bind (A4 K (p0.getD (Int.toNat (IntKind.i64.wrap ((p0.length:Int) - 1))) B3) false false false) (fun a1=>(if a1=true then (if (((p0.getD (Int.toNat (IntKind.i64.wrap ((p0.length:Int) - 1))) B3).Kids).length:Int)≠1 then some false else (if (0:Int) <(((p0.getD (Int.toNat (IntKind.i64.wrap ((p0.length:Int) - 1))) B3).Kids).length:Int) then (Option.bind (R.Cm ((((p0.getD (Int.toNat (IntKind.i64.wrap ((p0.length:Int) - 1))) B3).Kids).getD (Int.toNat 0) B3))) (fun a2=>(if a2=true then (if (IntKind.i64.wrap ((p0.length:Int) - 1))≤16 then (if (IntKind.i64.wrap ((p0.length:Int) - 1))≤(p0.length:Int) then (Option.bind (R.Dp (Vj p0 0 (IntKind.i64.wrap ((p0.length:Int) - 1)))) (fun a3=>some a3)) else none) else some false) else some false))) else none)) else some false))) else none) else (if (p0.length:Int)≥1 then (if (p0.length:Int)≤16 then (Option.bind (R.Dp p0) (fun a4=>some a4)) else some false) else some false))))
theorem Dy.body {Γ:Rm} {K:Nat} {R:Ap} (hR:R.Ok) {p0:List Aa} {r:Bool} (h:Dy.F K R p0=some r):Ri V P 59 100 Γ (Tryz.f121.body.getD .skip) (Q7 P V Tryz.f121 (.B r) []) ⟨Q6 0 [.cv (.ro .Ae p0)],[]⟩:=by
 unfold Dy.F at h
 refine Q4 L 200 <| Qv <| Q4 L 202 ?_
 obtain ⟨o1,hp1,h⟩:=bind_some h
 refine Qv (Rk (Q':=fun e S=>(e=.normal∧∃ xt17_6:Bool,S=⟨[(0,.cv (.ro .Ae p0)),(3,.I (IntKind.i64.wrap ((p0.length:Int) - 1))),(17,.B xt17_6)],[]⟩∧xt17_6=o1)) ?_ ?_)
 ·clear h
  replace h:=hp1
  rcases Qw h with ⟨c1,h⟩ |⟨c1,h⟩
  ·obtain ⟨g1,h⟩:=Q1 h
   refine ar L 207 [(2,true)] [] [] (cs:=[(decide ((IntKind.i64.wrap ((p0.length:Int) - 1))≥0))=true,(0:Int)≤(IntKind.i64.wrap ((p0.length:Int) - 1)),((IntKind.i64.wrap ((p0.length:Int) - 1)):Int) <(p0.length:Int)]) (S':=⟨[(0,.cv (.ro .Ae p0)),(3,.I (IntKind.i64.wrap ((p0.length:Int) - 1))),(17,.B ((decide ((p0.getD (Int.toNat (IntKind.i64.wrap ((p0.length:Int) - 1))) B3).Op=51))))],[]⟩) (And.intro (decide_eq_true c1) (And.intro g1.1 g1.2)) ?_
   cases h
   exact ⟨rfl,_,rfl,rfl⟩
  refine ar L 207 [(2,false)] [] [] (cs:=[(decide ((IntKind.i64.wrap ((p0.length:Int) - 1))≥0))=false]) (S':=⟨[(0,.cv (.ro .Ae p0)),(3,.I (IntKind.i64.wrap ((p0.length:Int) - 1))),(17,.B false)],[]⟩) (decide_eq_false c1) ?_
  cases h
  exact ⟨rfl,_,rfl,rfl⟩
 ·rintro e S ⟨rfl,xt17_6,rfl,rfl⟩
  rcases Qw h with ⟨c2,h⟩ |⟨c2,h⟩
  ·refine tt c2 <| Qv <| Qv ?_
   obtain ⟨g2,h⟩:=Q1 h
   refine rg L 218 [] [] [] (Sj g2.1 g2.2) ?_
   refine Qv ?_
   obtain ⟨a1,h1,h⟩:=bind_some h
   rcases Qw h with ⟨c3,h⟩ |⟨c3,h⟩
   ·rcases Qw h with ⟨c4,h⟩ |⟨c4,h⟩
    ·refine rg L 225 [(3,false),(9,true)] [(1,.B a1)] [] (Qz (A4.ok h1) (Qz trivial (Qz (show (!a1)=false from congrArg Bool.not (c3)) (Q3 (decide_eq_true c4))))) ?_
     refine tt (b:=true) (rfl) ?_
     refine Q4 L 243 <| Qx ?_
     cases h
     exact Rd
    obtain ⟨g3,h⟩:=Q1 h
    obtain ⟨a2,h2,h⟩:=bind_some h
    refine rg L 225 [(3,false),(9,false)] [(1,.B a1),(14,.B a2)] [] (Qz (A4.ok h1) (Qz trivial (Qz (show (!a1)=false from congrArg Bool.not (c3)) (Qz (decide_eq_false c4) (Qz (show (0:Int)≤0 from by decide) (Qz g3 (Qz (Cm.okR hR h2) (Q3 trivial)))))))) ?_
    rcases Qw h with ⟨c5,h⟩ |⟨c5,h⟩
    ·refine ff (b:=(!a2)) (congrArg Bool.not (c5)) ?_
     refine Q0 <| Qv ?_
     rcases Qw h with ⟨c6,h⟩ |⟨c6,h⟩
     ·obtain ⟨g4,h⟩:=Q1 h
      obtain ⟨a3,h3,h⟩:=bind_some h
      refine rg L 245 [(2,true)] [(6,.B a3)] [] (Qz (decide_eq_true c6) (Qz (show (0:Int)≤0 from Int.le_refl _) (Qz g2.1 (Qz g4 (Qz (Dp.okR hR h3) (Q3 trivial)))))) ?_
      refine Qx ?_
      cases h
      exact Rd
     refine rg L 245 [(2,false)] [] [] (Q3 (decide_eq_false c6)) ?_
     refine Qx ?_
     cases h
     exact Rd
    refine tt (b:=(!a2)) (congrArg Bool.not (eq_false_of_ne_true c5)) ?_
    refine Q4 L 243 <| Qx ?_
    cases h
    exact Rd
   refine rg L 225 [(3,true)] [(1,.B a1)] [] (Qz (A4.ok h1) (Qz trivial (Q3 (show (!a1)=true from congrArg Bool.not (eq_false_of_ne_true c3))))) ?_
   refine tt (b:=true) (rfl) ?_
   refine Q4 L 243 <| Qx ?_
   cases h
   exact Rd
  refine fN c2 <| Q0 <| Qv ?_
  rcases Qw h with ⟨c7,h⟩ |⟨c7,h⟩
  ·rcases Qw h with ⟨c8,h⟩ |⟨c8,h⟩
   ·obtain ⟨a4,h4,h⟩:=bind_some h
    refine rg L 255 [(3,true),(8,true)] [(10,.B a4)] [] (Qz (decide_eq_true c7) (Qz (decide_eq_true c8) (Qz (Dp.okR hR h4) (Q3 trivial)))) ?_
    refine Qx ?_
    cases h
    exact Rd
   refine rg L 255 [(3,true),(8,false)] [] [] (Sj (decide_eq_true c7) (decide_eq_false c8)) ?_
   refine Qx ?_
   cases h
   exact Rd
  refine rg L 255 [(3,false)] [] [] (Q3 (decide_eq_false c7)) ?_
  refine Qx ?_
  cases h
  exact Rd
def C9.F (K:Nat) (R:Ap) (p0:Aa):Option Bool:=(Option.bind ((if p0.Op=40 then some (decide (p0.Op=40)) else some (decide (p0.Op=41))):Option Bool) (fun xt8_9=>(if xt8_9=true then (Option.bind (A4 K p0 true false false) (fun a1=>(if a1=true then (Option.bind (Bp K p0.Name) (fun a2=>(if a2=true then (if (p0.Kids.length:Int)=1 then (if (0:Int) <(p0.Kids.length:Int) then (Option.bind (Bk K (p0.Kids.getD (Int.toNat 0) B3)) (fun a3=>some a3)) else none) else some false) else some false))) else some false))) else (if p0.Op=42 then (Option.bind (A4 K p0 false false false) (fun a4=>(if a4=true then (Option.bind (R.En p0.Kids) (fun a5=>some a5)) else some false))) else (if p0.Op=43 then (Option.bind (A4 K p0 false false false) (fun a6=>(if a6=true then (if (p0.Kids.length:Int)=2 then (if (0:Int) <(p0.Kids.length:Int) then (Option.bind (Bk K (p0.Kids.getD (Int.toNat 0) B3)) (fun a7=>(if a7=true then (if (1:Int) <(p0.Kids.length:Int) then (Option.bind (R.Cm (p0.Kids.getD (Int.toNat 1) B3)) (fun a8=>some a8)) else none) else some false))) else none) else some false) else some false))) else (if p0.Op=44 then (Option.bind (A4 K p0 false false false) (fun a9=>(if a9=true then (if (p0.Kids.length:Int)≤1 then (Option.bind (C3 K p0.Kids) (fun a10=>some a10)) else some false) else some false))) else (Option.bind ((if p0.Op=45 then some (decide (p0.Op=45)) else some (decide (p0.Op=52))):Option Bool) (fun xt71_37=>(if xt71_37=true then (Option.bind (A4 K p0 false false false) (fun a11=>(if a11=true then (if (p0.Kids.length:Int)=1 then (if (0:Int) <(p0.Kids.length:Int) then (Option.bind (Bk K (p0.Kids.getD (Int.toNat 0) B3)) (fun a12=>some a12)) else none) else some false) else some false))) else (if p0.Op=46 then (Option.bind (A4 K p0 true false false) (fun a13=>(if a13=true then (Option.bind (Bp K p0.Name) (fun a14=>(if a14=true then (if (p0.Kids.length:Int)=2 then (Option.bind (R.Do p0.Kids) (fun a15=>some a15)) else some false) else some false))) else some false))) else (if p0.Op=47 then (Option.bind (A4 K p0 false false false) (fun a16=>(if a16=true then (if (p0.Kids.length:Int)=1 then (if (0:Int) <(p0.Kids.length:Int) then (Option.bind (R.Cm (p0.Kids.getD (Int.toNat 0) B3)) (fun a17=>some a17)) else none) else some false) else some false))) else (if p0.Op=48 then (Option.bind (A4 K p0 true false false) (fun a18=>(if a18=true then (Option.bind (Bp K p0.Name) (fun a19=>(if a19=true then (Option.bind (C3 K p0.Kids) (fun a20=>some a20)) else some false))) else some false))) else (if p0.Op=49 then (Option.bind (A4 K p0 false false false) (fun a21=>(if a21=true then (Option.bind (R.Dy p0.Kids) (fun a22=>some a22)) else some false))) else (if p0.Op=53 then some false else some false))))))))))))))
theorem C9.body {Γ:Rm} {K:Nat} {R:Ap} (hR:R.Ok) {p0:Aa} {r:Bool} (h:C9.F K R p0=some r):Ri V P 143 100 Γ (Tryz.f92.body.getD .skip) (Q7 P V Tryz.f92 (.B r) []) ⟨Q6 0 [.agg (Aj p0)],[]⟩:=by
 unfold C9.F at h
 refine Q4 L 200 <| Q4 L 203 <| Qv <| Q4 L 207 <| Q2 ?_
 obtain ⟨o1,hp1,h⟩:=bind_some h
 refine Qv (Rk (Q':=fun e S=>(e=.normal∧∃ xt8_9:Bool,S=⟨[(1,.P 21800),(3,.cv (.ro .Ae p0.Kids)),(7,.I p0.Op),(8,.B xt8_9)],[(21800,.raw (Aj p0))]⟩∧xt8_9=o1)) ?_ ?_)
 ·clear h
  replace h:=hp1
  refine Q4 L 210 ?_
  rcases Qw h with ⟨c1,h⟩ |⟨c1,h⟩
  ·refine tT c1 <| Qy (Qu.trans (Qu.kk [1,3,7,8] [200]) (Qu.rr [(200,21800)])) ?_
   refine sk (S':=⟨[(1,.P 21800),(3,.cv (.ro .Ae p0.Kids)),(7,.I p0.Op),(8,.B (decide (p0.Op=40)))],[(21800,.raw (Aj p0))]⟩) ?_
   cases h
   exact ⟨rfl,_,rfl,rfl⟩
  refine fF c1 <| Q8 (Ul L 213 ⟨rfl,rfl⟩) (Qu.trans (Qu.kk [1,3,7,8] [200]) (Qu.trans (Qu.rr [(200,21800)]) (Qu.kp (S':=⟨[(1,.P 21800),(3,.cv (.ro .Ae p0.Kids)),(7,.I p0.Op),(8,.B (decide (p0.Op=41)))],[(21800,.raw (Aj p0))]⟩)))) ?_
  cases h
  exact ⟨rfl,_,rfl,rfl⟩
 ·rintro e S ⟨rfl,xt8_9,rfl,rfl⟩
  rcases Qw h with ⟨c2,h⟩ |⟨c2,h⟩
  ·refine tt c2 <| Qv ?_
   obtain ⟨a1,h1,h⟩:=bind_some h
   rcases Qw h with ⟨c3,h⟩ |⟨c3,h⟩
   ·obtain ⟨a2,h2,h⟩:=bind_some h
    rcases Qw h with ⟨c4,h⟩ |⟨c4,h⟩
    ·rcases Qw h with ⟨c5,h⟩ |⟨c5,h⟩
     ·obtain ⟨g1,h⟩:=Q1 h
      obtain ⟨a3,h3,h⟩:=bind_some h
      refine rg L 216 [(2,true),(7,true),(12,true)] [(1,.B a1),(5,.B a2),(16,.B a3)] [] (Qz (A4.ok h1) (Qz trivial (Qz c3 (Qz (Bp.ok h2) (Qz trivial (Qz c4 (Qz (decide_eq_true c5) (Qz (show (0:Int)≤0 from by decide) (Qz g1 (Qz (Bk.ok h3) (Q3 trivial))))))))))) ?_
      refine Qx ?_
      cases h
      exact Rd
     refine rg L 216 [(2,true),(7,true),(12,false)] [(1,.B a1),(5,.B a2)] [] (Qz (A4.ok h1) (Qz trivial (Qz c3 (Qz (Bp.ok h2) (Qz trivial (Qz c4 (Q3 (decide_eq_false c5)))))))) ?_
     refine Qx ?_
     cases h
     exact Rd
    refine rg L 216 [(2,true),(7,false)] [(1,.B a1),(5,.B a2)] [] (Qz (A4.ok h1) (Qz trivial (Qz c3 (Qz (Bp.ok h2) (Qz trivial (Q3 (eq_false_of_ne_true c4))))))) ?_
    refine Qx ?_
    cases h
    exact Rd
   refine rg L 216 [(2,false)] [(1,.B a1)] [] (Qz (A4.ok h1) (Qz trivial (Q3 (eq_false_of_ne_true c3)))) ?_
   refine Qx ?_
   cases h
   exact Rd
  refine fN c2 <| Q4 L 236 ?_
  rcases Qw h with ⟨c6,h⟩ |⟨c6,h⟩
  ·refine tT c6 <| Qv ?_
   obtain ⟨a4,h4,h⟩:=bind_some h
   rcases Qw h with ⟨c7,h⟩ |⟨c7,h⟩
   ·obtain ⟨a5,h5,h⟩:=bind_some h
    refine rg L 239 [(2,true)] [(1,.B a4),(4,.B a5)] [] (Qz (A4.ok h4) (Qz trivial (Qz c7 (Qz (En.okR hR h5) (Q3 trivial))))) ?_
    refine Qx ?_
    cases h
    exact Rd
   refine rg L 239 [(2,false)] [(1,.B a4)] [] (Qz (A4.ok h4) (Qz trivial (Q3 (eq_false_of_ne_true c7)))) ?_
   refine Qx ?_
   cases h
   exact Rd
  refine fF c6 <| Q4 L 247 ?_
  rcases Qw h with ⟨c8,h⟩ |⟨c8,h⟩
  ·refine tT c8 <| Qv ?_
   obtain ⟨a6,h6,h⟩:=bind_some h
   rcases Qw h with ⟨c9,h⟩ |⟨c9,h⟩
   ·rcases Qw h with ⟨c10,h⟩ |⟨c10,h⟩
    ·obtain ⟨g2,h⟩:=Q1 h
     obtain ⟨a7,h7,h⟩:=bind_some h
     rcases Qw h with ⟨c11,h⟩ |⟨c11,h⟩
     ·obtain ⟨g3,h⟩:=Q1 h
      obtain ⟨a8,h8,h⟩:=bind_some h
      refine rg L 250 [(2,true),(7,true),(13,true)] [(1,.B a6),(11,.B a7),(17,.B a8)] [] (Qz (A4.ok h6) (Qz trivial (Qz c9 (Qz (decide_eq_true c10) (Qz (show (0:Int)≤0 from by decide) (Qz g2 (Qz (Bk.ok h7) (Qz trivial (Qz c11 (Qz (show (0:Int)≤1 from by decide) (Qz g3 (Qz (Cm.okR hR h8) (Q3 trivial))))))))))))) ?_
      refine Qx ?_
      cases h
      exact Rd
     refine rg L 250 [(2,true),(7,true),(13,false)] [(1,.B a6),(11,.B a7)] [] (Qz (A4.ok h6) (Qz trivial (Qz c9 (Qz (decide_eq_true c10) (Qz (show (0:Int)≤0 from by decide) (Qz g2 (Qz (Bk.ok h7) (Qz trivial (Q3 (eq_false_of_ne_true c11)))))))))) ?_
     refine Qx ?_
     cases h
     exact Rd
    refine rg L 250 [(2,true),(7,false)] [(1,.B a6)] [] (Qz (A4.ok h6) (Qz trivial (Qz c9 (Q3 (decide_eq_false c10))))) ?_
    refine Qx ?_
    cases h
    exact Rd
   refine rg L 250 [(2,false)] [(1,.B a6)] [] (Qz (A4.ok h6) (Qz trivial (Q3 (eq_false_of_ne_true c9)))) ?_
   refine Qx ?_
   cases h
   exact Rd
  refine fF c8 <| Q4 L 271 ?_
  rcases Qw h with ⟨c12,h⟩ |⟨c12,h⟩
  ·refine tT c12 <| Qv ?_
   obtain ⟨a9,h9,h⟩:=bind_some h
   rcases Qw h with ⟨c13,h⟩ |⟨c13,h⟩
   ·rcases Qw h with ⟨c14,h⟩ |⟨c14,h⟩
    ·obtain ⟨a10,h10,h⟩:=bind_some h
     refine rg L 274 [(2,true),(7,true)] [(1,.B a9),(9,.B a10)] [] (Qz (A4.ok h9) (Qz trivial (Qz c13 (Qz (decide_eq_true c14) (Qz (C3.ok h10) (Q3 trivial)))))) ?_
     refine Qx ?_
     cases h
     exact Rd
    refine rg L 274 [(2,true),(7,false)] [(1,.B a9)] [] (Qz (A4.ok h9) (Qz trivial (Qz c13 (Q3 (decide_eq_false c14))))) ?_
    refine Qx ?_
    cases h
    exact Rd
   refine rg L 274 [(2,false)] [(1,.B a9)] [] (Qz (A4.ok h9) (Qz trivial (Q3 (eq_false_of_ne_true c13)))) ?_
   refine Qx ?_
   cases h
   exact Rd
  refine fF c12 ?_
  obtain ⟨o2,hp2,h⟩:=bind_some h
  refine Qv (Rk (Q':=fun e S=>(e=.normal∧∃ xt71_37:Bool,S=⟨[(1,.P 27400),(3,.cv (.ro .Ae p0.Kids)),(7,.I p0.Op),(71,.B xt71_37)],[(27400,.raw (Aj p0))]⟩∧xt71_37=o2)) ?_ ?_)
  ·clear h
   replace h:=hp2
   refine Q4 L 287 ?_
   rcases Qw h with ⟨c15,h⟩ |⟨c15,h⟩
   ·refine tT c15 <| Qy (Qu.trans (Qu.kk [1,3,7,71] [21800]) (Qu.rr [(21800,27400)])) ?_
    refine sk (S':=⟨[(1,.P 27400),(3,.cv (.ro .Ae p0.Kids)),(7,.I p0.Op),(71,.B (decide (p0.Op=45)))],[(27400,.raw (Aj p0))]⟩) ?_
    cases h
    exact ⟨rfl,_,rfl,rfl⟩
   refine fF c15 <| Q8 (Ul L 290 ⟨rfl,rfl⟩) (Qu.trans (Qu.kk [1,3,7,71] [21800]) (Qu.trans (Qu.rr [(21800,27400)]) (Qu.kp (S':=⟨[(1,.P 27400),(3,.cv (.ro .Ae p0.Kids)),(7,.I p0.Op),(71,.B (decide (p0.Op=52)))],[(27400,.raw (Aj p0))]⟩)))) ?_
   cases h
   exact ⟨rfl,_,rfl,rfl⟩
  ·rintro e S ⟨rfl,xt71_37,rfl,rfl⟩
   rcases Qw h with ⟨c16,h⟩ |⟨c16,h⟩
   ·refine tt c16 <| Qv ?_
    obtain ⟨a11,h11,h⟩:=bind_some h
    rcases Qw h with ⟨c17,h⟩ |⟨c17,h⟩
    ·rcases Qw h with ⟨c18,h⟩ |⟨c18,h⟩
     ·obtain ⟨g4,h⟩:=Q1 h
      obtain ⟨a12,h12,h⟩:=bind_some h
      refine rg L 293 [(2,true),(7,true)] [(1,.B a11),(11,.B a12)] [] (Qz (A4.ok h11) (Qz trivial (Qz c17 (Qz (decide_eq_true c18) (Qz (show (0:Int)≤0 from by decide) (Qz g4 (Qz (Bk.ok h12) (Q3 trivial)))))))) ?_
      refine Qx ?_
      cases h
      exact Rd
     refine rg L 293 [(2,true),(7,false)] [(1,.B a11)] [] (Qz (A4.ok h11) (Qz trivial (Qz c17 (Q3 (decide_eq_false c18))))) ?_
     refine Qx ?_
     cases h
     exact Rd
    refine rg L 293 [(2,false)] [(1,.B a11)] [] (Qz (A4.ok h11) (Qz trivial (Q3 (eq_false_of_ne_true c17)))) ?_
    refine Qx ?_
    cases h
    exact Rd
   refine fN c16 <| Q4 L 308 ?_
   rcases Qw h with ⟨c19,h⟩ |⟨c19,h⟩
   ·refine tT c19 <| Qv ?_
    obtain ⟨a13,h13,h⟩:=bind_some h
    rcases Qw h with ⟨c20,h⟩ |⟨c20,h⟩
    ·obtain ⟨a14,h14,h⟩:=bind_some h
     rcases Qw h with ⟨c21,h⟩ |⟨c21,h⟩
     ·rcases Qw h with ⟨c22,h⟩ |⟨c22,h⟩
      ·obtain ⟨a15,h15,h⟩:=bind_some h
       refine rg L 311 [(2,true),(7,true),(12,true)] [(1,.B a13),(5,.B a14),(14,.B a15)] [] (Qz (A4.ok h13) (Qz trivial (Qz c20 (Qz (Bp.ok h14) (Qz trivial (Qz c21 (Qz (decide_eq_true c22) (Qz (Do.okR hR h15) (Q3 trivial))))))))) ?_
       refine Qx ?_
       cases h
       exact Rd
      refine rg L 311 [(2,true),(7,true),(12,false)] [(1,.B a13),(5,.B a14)] [] (Qz (A4.ok h13) (Qz trivial (Qz c20 (Qz (Bp.ok h14) (Qz trivial (Qz c21 (Q3 (decide_eq_false c22)))))))) ?_
      refine Qx ?_
      cases h
      exact Rd
     refine rg L 311 [(2,true),(7,false)] [(1,.B a13),(5,.B a14)] [] (Qz (A4.ok h13) (Qz trivial (Qz c20 (Qz (Bp.ok h14) (Qz trivial (Q3 (eq_false_of_ne_true c21))))))) ?_
     refine Qx ?_
     cases h
     exact Rd
    refine rg L 311 [(2,false)] [(1,.B a13)] [] (Qz (A4.ok h13) (Qz trivial (Q3 (eq_false_of_ne_true c20)))) ?_
    refine Qx ?_
    cases h
    exact Rd
   refine fF c19 <| Q4 L 329 ?_
   rcases Qw h with ⟨c23,h⟩ |⟨c23,h⟩
   ·refine tT c23 <| Qv ?_
    obtain ⟨a16,h16,h⟩:=bind_some h
    rcases Qw h with ⟨c24,h⟩ |⟨c24,h⟩
    ·rcases Qw h with ⟨c25,h⟩ |⟨c25,h⟩
     ·obtain ⟨g5,h⟩:=Q1 h
      obtain ⟨a17,h17,h⟩:=bind_some h
      refine rg L 332 [(2,true),(7,true)] [(1,.B a16),(11,.B a17)] [] (Qz (A4.ok h16) (Qz trivial (Qz c24 (Qz (decide_eq_true c25) (Qz (show (0:Int)≤0 from by decide) (Qz g5 (Qz (Cm.okR hR h17) (Q3 trivial)))))))) ?_
      refine Qx ?_
      cases h
      exact Rd
     refine rg L 332 [(2,true),(7,false)] [(1,.B a16)] [] (Qz (A4.ok h16) (Qz trivial (Qz c24 (Q3 (decide_eq_false c25))))) ?_
     refine Qx ?_
     cases h
     exact Rd
    refine rg L 332 [(2,false)] [(1,.B a16)] [] (Qz (A4.ok h16) (Qz trivial (Q3 (eq_false_of_ne_true c24)))) ?_
    refine Qx ?_
    cases h
    exact Rd
   refine fF c23 <| Q4 L 347 ?_
   rcases Qw h with ⟨c26,h⟩ |⟨c26,h⟩
   ·refine tT c26 <| Qv ?_
    obtain ⟨a18,h18,h⟩:=bind_some h
    rcases Qw h with ⟨c27,h⟩ |⟨c27,h⟩
    ·obtain ⟨a19,h19,h⟩:=bind_some h
     rcases Qw h with ⟨c28,h⟩ |⟨c28,h⟩
     ·obtain ⟨a20,h20,h⟩:=bind_some h
      refine rg L 350 [(2,true),(7,true)] [(1,.B a18),(5,.B a19),(9,.B a20)] [] (Qz (A4.ok h18) (Qz trivial (Qz c27 (Qz (Bp.ok h19) (Qz trivial (Qz c28 (Qz (C3.ok h20) (Q3 trivial)))))))) ?_
      refine Qx ?_
      cases h
      exact Rd
     refine rg L 350 [(2,true),(7,false)] [(1,.B a18),(5,.B a19)] [] (Qz (A4.ok h18) (Qz trivial (Qz c27 (Qz (Bp.ok h19) (Qz trivial (Q3 (eq_false_of_ne_true c28))))))) ?_
     refine Qx ?_
     cases h
     exact Rd
    refine rg L 350 [(2,false)] [(1,.B a18)] [] (Qz (A4.ok h18) (Qz trivial (Q3 (eq_false_of_ne_true c27)))) ?_
    refine Qx ?_
    cases h
    exact Rd
   refine fF c26 <| Q4 L 363 ?_
   rcases Qw h with ⟨c29,h⟩ |⟨c29,h⟩
   ·refine tT c29 <| Qv ?_
    obtain ⟨a21,h21,h⟩:=bind_some h
    rcases Qw h with ⟨c30,h⟩ |⟨c30,h⟩
    ·obtain ⟨a22,h22,h⟩:=bind_some h
     refine rg L 366 [(2,true)] [(1,.B a21),(4,.B a22)] [] (Qz (A4.ok h21) (Qz trivial (Qz c30 (Qz (Dy.okR hR h22) (Q3 trivial))))) ?_
     refine Qx ?_
     cases h
     exact Rd
    refine rg L 366 [(2,false)] [(1,.B a21)] [] (Qz (A4.ok h21) (Qz trivial (Q3 (eq_false_of_ne_true c30)))) ?_
    refine Qx ?_
    cases h
    exact Rd
   refine fF c29 <| Q4 L 374 ?_
   rcases Qw h with ⟨c31,h⟩ |⟨c31,h⟩
   ·refine tT c31 <| Q4 L 377 <| Qx ?_
    cases h
    exact Rd
   refine fF c31 <| Q0 <| Q4 L 379 <| Qx ?_
   cases h
   exact Rd
def Dj.F (K:Nat) (R:Ap) (p0:Aa):Option Bool:=(Option.bind (R.C9 p0) (fun a1=>some (!a1)))
theorem Dj.body {Γ:Rm} {K:Nat} {R:Ap} (hR:R.Ok) {p0:Aa} {r:Bool} (h:Dj.F K R p0=some r):Ri V P 8 100 Γ (Tryz.f57.body.getD .skip) (Q7 P V Tryz.f57 (.B r) []) ⟨Q6 0 [.agg (Aj p0),.cv (.pcs [.fn (.func 92) [] []] 0)],[]⟩:=by
 unfold Dj.F at h
 refine Q4 L 200 <| Qv ?_
 obtain ⟨a1,h1,h⟩:=bind_some h
 refine rg L 203 [] [(2,.B a1)] [] (R6 (C9.okR hR h1)) ?_
 refine Qx ?_
 cases h
 exact Rd
def Ck.l7 (K:Nat) (R:Ap) (p0:List Aa):Nat→Int→Option (Q9 Int Unit)
 | 0,_=>none
 | k+1,xt8_7h=>(if xt8_7h <(p0.length:Int) then (if (0:Int)≤xt8_7h∧(xt8_7h:Int) <(p0.length:Int) then (Option.bind (R.Dj (p0.getD (Int.toNat xt8_7h) B3)) (fun a1=>(if a1=true then some (Q9.done xt8_7h) else Ck.l7 K R p0 k (IntKind.i64.wrap (xt8_7h+1))))) else none) else some (Q9.go ()))
def Ck.F (K:Nat) (R:Ap) (p0:List Aa):Option Int:=(obind (Ck.l7 K R p0 K 0:Option (Q9 Int Unit)) (fun r=>r) (fun _=>some (-1)))
theorem Ck.body {Γ:Rm} {K:Nat} {R:Ap} (hR:R.Ok) {p0:List Aa} {r:Int} (h:Ck.F K R p0=some r):Ri V P 19 100 Γ (Tryz.f90.body.getD .skip) (Q7 P V Tryz.f90 (.I r) []) ⟨Q6 0 [.cv (.ro .Ae p0),.cv (.fn (.func 57) [] [.pcs [.fn (.func 92) [] []] 0])],[]⟩:=by
 unfold Ck.F at h
 refine Q4 L 200 <| Qv <| Q4 L 202 <| Q2 <| kp (S':=⟨[(0,.cv (.ro .Ae p0)),(1,.cv (.fn (.func 57) [] [.pcs [.fn (.func 92) [] []] 0])),(7,.I (p0.length:Int)),(8,.I 0)],[]⟩) ?_
 obtain ⟨o1,hp1,h⟩:=Rf h
 refine Ra (Q':=fun e S=>(e=.exit 0∧S=⟨[],[]⟩∧Q9.go ()=o1)∨(e=.ret∧∃ a,Q9.done a=o1∧Q7 P V Tryz.f90 (.I a) [] .ret S)) (Rh (fun k S=>∃ xt8_7h:Int,S=⟨[(0,.cv (.ro .Ae p0)),(1,.cv (.fn (.func 57) [] [.pcs [.fn (.func 92) [] []] 0])),(7,.I (p0.length:Int)),(8,.I xt8_7h)],[]⟩∧Ck.l7 K R p0 k xt8_7h=some o1) ?_ ⟨_,rfl,hp1⟩) ?_
 ·clear h hp1
  intro k S hS
  obtain ⟨xt8_7h,rfl,h⟩:=hS
  cases k with
  | zero=>cases h
  | succ k =>
  unfold Ck.l7 at h
  refine Q4 L 206 <| Qv ?_
  rcases Qw h with ⟨c1,h⟩ |⟨c1,h⟩
  ·refine tT c1 <| Q0 <| Qv <| Q2 <| Q4 L 208 <| Qv ?_
   obtain ⟨g1,h⟩:=Q1 h
   obtain ⟨a1,h1,h⟩:=bind_some h
   refine rg L 211 [] [(5,.B a1)] [] (Qz g1.1 (Qz g1.2 (Qz (Dj.okR hR h1) (Q3 trivial)))) ?_
   rcases Qw h with ⟨c2,h⟩ |⟨c2,h⟩
   ·refine tt c2 <| Q4 L 218 <| Qx ?_
    cases h
    exact .inr ⟨rfl,_,rfl,Rd⟩
   refine fN c2 <| Q0 <| Tv L 221 [] [] [] (S':=⟨[(0,.cv (.ro .Ae p0)),(1,.cv (.fn (.func 57) [] [.pcs [.fn (.func 92) [] []] 0])),(7,.I (p0.length:Int)),(8,.I (IntKind.i64.wrap (xt8_7h+1)))],[]⟩) ?_
   exact ⟨k,Nat.lt_succ_self k,_,rfl,h⟩
  refine fF c1 <| ex (S':=⟨[],[]⟩) ?_
  cases h
  exact .inl ⟨rfl,rfl,rfl⟩
 ·rintro e S (⟨rfl,rfl,rfl⟩ |⟨rfl,a,rfl,hr⟩)
  ·rcases h with ⟨_,e1,h⟩ |⟨_,e1,h⟩
   ·cases e1
   ·have e2:=Q9.go.inj e1
    subst e2
    refine ⟨_,Qu.refl,?_⟩
    refine Q4 L 224 <| Qx ?_
    cases h
    exact Rd
  ·rcases h with ⟨_,e1,h⟩ |⟨_,e1,h⟩
   ·have e2:=Q9.done.inj e1
    subst e2
    subst h
    exact ⟨_,Qu.refl,hr⟩
   ·cases e1
def Cq.F (K:Nat) (R:Ap) (p0:List Aa):Option Bool:=(Option.bind (R.Ck p0) (fun a1=>some (decide (a1≥0))))
theorem Cq.body {Γ:Rm} {K:Nat} {R:Ap} (hR:R.Ok) {p0:List Aa} {r:Bool} (h:Cq.F K R p0=some r):Ri V P 9 100 Γ (Tryz.f56.body.getD .skip) (Q7 P V Tryz.f56 (.B r) []) ⟨Q6 0 [.cv (.ro .Ae p0),.cv (.fn (.func 57) [] [.pcs [.fn (.func 92) [] []] 0])],[]⟩:=by
 unfold Cq.F at h
 refine Q4 L 200 <| Qv ?_
 obtain ⟨a1,h1,h⟩:=bind_some h
 refine rg L 202 [] [(2,.I a1)] [] (R6 (Ck.okR hR h1)) ?_
 refine Qx ?_
 cases h
 exact Rd
def Dx.F (K:Nat) (R:Ap) (p0:List Aa):Option Bool:=(Option.bind (R.Cq p0) (fun a1=>some (!a1)))
theorem Dx.body {Γ:Rm} {K:Nat} {R:Ap} (hR:R.Ok) {p0:List Aa} {r:Bool} (h:Dx.F K R p0=some r):Ri V P 9 100 Γ (Tryz.f30.body.getD .skip) (Q7 P V Tryz.f30 (.B r) []) ⟨Q6 0 [.cv (.ro .Ae p0),.cv (.fn (.func 92) [] [])],[]⟩:=by
 unfold Dx.F at h
 refine Q4 L 200 <| Qv ?_
 obtain ⟨a1,h1,h⟩:=bind_some h
 refine rg L 203 [] [(2,.B a1)] [] (R6 (Cq.okR hR h1)) ?_
 refine Qx ?_
 cases h
 exact Rd
def Cm.F (K:Nat) (R:Ap) (p0:Aa):Option Bool:=(if p0.Op=53 then (Option.bind (A4 K p0 false false false) (fun a1=>(if a1=true then (Option.bind (R.Dx p0.Kids) (fun a2=>some a2)) else some false))) else some false)
theorem Cm.body {Γ:Rm} {K:Nat} {R:Ap} (hR:R.Ok) {p0:Aa} {r:Bool} (h:Cm.F K R p0=some r):Ri V P 15 100 Γ (Tryz.f60.body.getD .skip) (Q7 P V Tryz.f60 (.B r) []) ⟨Q6 0 [.agg (Aj p0)],[]⟩:=by
 unfold Cm.F at h
 refine Q4 L 200 <| Qv ?_
 rcases Qw h with ⟨c1,h⟩ |⟨c1,h⟩
 ·obtain ⟨a1,h1,h⟩:=bind_some h
  rcases Qw h with ⟨c2,h⟩ |⟨c2,h⟩
  ·obtain ⟨a2,h2,h⟩:=bind_some h
   refine rg L 203 [(3,true),(7,true)] [(5,.B a1),(10,.B a2)] [] (Qz (decide_eq_true c1) (Qz (A4.ok h1) (Qz trivial (Qz c2 (Qz (Dx.okR hR h2) (Q3 trivial)))))) ?_
   refine Qx ?_
   cases h
   exact Rd
  refine rg L 203 [(3,true),(7,false)] [(5,.B a1)] [] (Qz (decide_eq_true c1) (Qz (A4.ok h1) (Qz trivial (Q3 (eq_false_of_ne_true c2))))) ?_
  refine Qx ?_
  cases h
  exact Rd
 refine rg L 203 [(3,false)] [] [] (Q3 (decide_eq_false c1)) ?_
 refine Qx ?_
 cases h
 exact Rd
def Ap.upto (K:Nat):Nat→Ap
 | 0=>⟨fun _=>none,fun _=>none,fun _=>none,fun _=>none,fun _=>none,fun _=>none,fun _=>none,fun _=>none,fun _=>none,fun _=>none,fun _=>none,fun _=>none,fun _=>none,fun _=>none,fun _=>none,fun _=>none,fun _=>none⟩
 | k+1=>⟨En.F K (Ap.upto K k),Dk.F K (Ap.upto K k),Ci.F K (Ap.upto K k),Cn.F K (Ap.upto K k),Do.F K (Ap.upto K k),D9.F K (Ap.upto K k),Dl.F K (Ap.upto K k),Cj.F K (Ap.upto K k),Cr.F K (Ap.upto K k),Dp.F K (Ap.upto K k),Dy.F K (Ap.upto K k),C9.F K (Ap.upto K k),Dj.F K (Ap.upto K k),Ck.F K (Ap.upto K k),Cq.F K (Ap.upto K k),Dx.F K (Ap.upto K k),Cm.F K (Ap.upto K k)⟩
theorem Ap.upto_ok (K:Nat):∀ k,(Ap.upto K k).Ok
 | 0=>⟨fun h=>(by cases h),fun h=>(by cases h),fun h=>(by cases h),fun h=>(by cases h),fun h=>(by cases h),fun h=>(by cases h),fun h=>(by cases h),fun h=>(by cases h),fun h=>(by cases h),fun h=>(by cases h),fun h=>(by cases h),fun h=>(by cases h),fun h=>(by cases h),fun h=>(by cases h),fun h=>(by cases h),fun h=>(by cases h),fun h=>(by cases h)⟩
 | k+1=>⟨fun {p0 r} h=>eo (fn:=Tryz.f120) (n:=47) (m:=100) fun Γ=>En.body (K:=K) (Ap.upto_ok K k) h,fun {p0 r} h=>eo (fn:=Tryz.f57) (n:=8) (m:=100) fun Γ=>Dk.body (K:=K) (Ap.upto_ok K k) h,fun {p0 r} h=>eo (fn:=Tryz.f90) (n:=19) (m:=100) fun Γ=>Ci.body (K:=K) (Ap.upto_ok K k) h,fun {p0 r} h=>eo (fn:=Tryz.f56) (n:=9) (m:=100) fun Γ=>Cn.body (K:=K) (Ap.upto_ok K k) h,fun {p0 r} h=>eo (fn:=Tryz.f30) (n:=9) (m:=100) fun Γ=>Do.body (K:=K) (Ap.upto_ok K k) h,fun {p0 r} h=>eo (fn:=Tryz.f136) (n:=40) (m:=100) fun Γ=>D9.body (K:=K) (Ap.upto_ok K k) h,fun {p0 r} h=>eo (fn:=Tryz.f57) (n:=8) (m:=100) fun Γ=>Dl.body (K:=K) (Ap.upto_ok K k) h,fun {p0 r} h=>eo (fn:=Tryz.f90) (n:=19) (m:=100) fun Γ=>Cj.body (K:=K) (Ap.upto_ok K k) h,fun {p0 r} h=>eo (fn:=Tryz.f56) (n:=9) (m:=100) fun Γ=>Cr.body (K:=K) (Ap.upto_ok K k) h,fun {p0 r} h=>eo (fn:=Tryz.f30) (n:=9) (m:=100) fun Γ=>Dp.body (K:=K) (Ap.upto_ok K k) h,fun {p0 r} h=>eo (fn:=Tryz.f121) (n:=59) (m:=100) fun Γ=>Dy.body (K:=K) (Ap.upto_ok K k) h,fun {p0 r} h=>eo (fn:=Tryz.f92) (n:=143) (m:=100) fun Γ=>C9.body (K:=K) (Ap.upto_ok K k) h,fun {p0 r} h=>eo (fn:=Tryz.f57) (n:=8) (m:=100) fun Γ=>Dj.body (K:=K) (Ap.upto_ok K k) h,fun {p0 r} h=>eo (fn:=Tryz.f90) (n:=19) (m:=100) fun Γ=>Ck.body (K:=K) (Ap.upto_ok K k) h,fun {p0 r} h=>eo (fn:=Tryz.f56) (n:=9) (m:=100) fun Γ=>Cq.body (K:=K) (Ap.upto_ok K k) h,fun {p0 r} h=>eo (fn:=Tryz.f30) (n:=9) (m:=100) fun Γ=>Dx.body (K:=K) (Ap.upto_ok K k) h,fun {p0 r} h=>eo (fn:=Tryz.f60) (n:=15) (m:=100) fun Γ=>Cm.body (K:=K) (Ap.upto_ok K k) h⟩
def En (K:Nat) (p0:List Aa):Option Bool:=(Ap.upto K K).En p0
theorem En.okE {K:Nat} {p0:List Aa} {r:Bool} (h:En K p0=some r):Q5 V P 120 [.cv (.ro .Ae p0)] [] [] (.B r) []:=(Ap.upto_ok K K).En h
theorem En.ok {K:Nat} {p0:List Aa} {r:Bool} (h:En K p0=some r):Rb V P 120 [.cv (.ro .Ae p0)] (.B r):=(En.okE h).pcall (by kernel_rfl)
def Dk (K:Nat) (p0:Aa):Option Bool:=(Ap.upto K K).Dk p0
theorem Dk.okE {K:Nat} {p0:Aa} {r:Bool} (h:Dk K p0=some r):Q5 V P 57 [.agg (Aj p0),.cv (.pcs [.fn (.func 60) [] []] 0)] [] [] (.B r) []:=(Ap.upto_ok K K).Dk h
theorem Dk.ok {K:Nat} {p0:Aa} {r:Bool} (h:Dk K p0=some r):Rb V P 57 [.agg (Aj p0),.cv (.pcs [.fn (.func 60) [] []] 0)] (.B r):=(Dk.okE h).pcall (by kernel_rfl)
def Ci (K:Nat) (p0:List Aa):Option Int:=(Ap.upto K K).Ci p0
theorem Ci.okE {K:Nat} {p0:List Aa} {r:Int} (h:Ci K p0=some r):Q5 V P 90 [.cv (.ro .Ae p0),.cv (.fn (.func 57) [] [.pcs [.fn (.func 60) [] []] 0])] [] [] (.I r) []:=(Ap.upto_ok K K).Ci h
theorem Ci.ok {K:Nat} {p0:List Aa} {r:Int} (h:Ci K p0=some r):Rb V P 90 [.cv (.ro .Ae p0),.cv (.fn (.func 57) [] [.pcs [.fn (.func 60) [] []] 0])] (.I r):=(Ci.okE h).pcall (by kernel_rfl)
def Cn (K:Nat) (p0:List Aa):Option Bool:=(Ap.upto K K).Cn p0
theorem Cn.okE {K:Nat} {p0:List Aa} {r:Bool} (h:Cn K p0=some r):Q5 V P 56 [.cv (.ro .Ae p0),.cv (.fn (.func 57) [] [.pcs [.fn (.func 60) [] []] 0])] [] [] (.B r) []:=(Ap.upto_ok K K).Cn h
theorem Cn.ok {K:Nat} {p0:List Aa} {r:Bool} (h:Cn K p0=some r):Rb V P 56 [.cv (.ro .Ae p0),.cv (.fn (.func 57) [] [.pcs [.fn (.func 60) [] []] 0])] (.B r):=(Cn.okE h).pcall (by kernel_rfl)
def Do (K:Nat) (p0:List Aa):Option Bool:=(Ap.upto K K).Do p0
theorem Do.okE {K:Nat} {p0:List Aa} {r:Bool} (h:Do K p0=some r):Q5 V P 30 [.cv (.ro .Ae p0),.cv (.fn (.func 60) [] [])] [] [] (.B r) []:=(Ap.upto_ok K K).Do h
theorem Do.ok {K:Nat} {p0:List Aa} {r:Bool} (h:Do K p0=some r):Rb V P 30 [.cv (.ro .Ae p0),.cv (.fn (.func 60) [] [])] (.B r):=(Do.okE h).pcall (by kernel_rfl)
def D9 (K:Nat) (p0:Aa):Option Bool:=(Ap.upto K K).D9 p0
theorem D9.okE {K:Nat} {p0:Aa} {r:Bool} (h:D9 K p0=some r):Q5 V P 136 [.agg (Aj p0)] [] [] (.B r) []:=(Ap.upto_ok K K).D9 h
theorem D9.ok {K:Nat} {p0:Aa} {r:Bool} (h:D9 K p0=some r):Rb V P 136 [.agg (Aj p0)] (.B r):=(D9.okE h).pcall (by kernel_rfl)
def Dl (K:Nat) (p0:Aa):Option Bool:=(Ap.upto K K).Dl p0
theorem Dl.okE {K:Nat} {p0:Aa} {r:Bool} (h:Dl K p0=some r):Q5 V P 57 [.agg (Aj p0),.cv (.pcs [.fn (.func 136) [] []] 0)] [] [] (.B r) []:=(Ap.upto_ok K K).Dl h
theorem Dl.ok {K:Nat} {p0:Aa} {r:Bool} (h:Dl K p0=some r):Rb V P 57 [.agg (Aj p0),.cv (.pcs [.fn (.func 136) [] []] 0)] (.B r):=(Dl.okE h).pcall (by kernel_rfl)
def Cj (K:Nat) (p0:List Aa):Option Int:=(Ap.upto K K).Cj p0
theorem Cj.okE {K:Nat} {p0:List Aa} {r:Int} (h:Cj K p0=some r):Q5 V P 90 [.cv (.ro .Ae p0),.cv (.fn (.func 57) [] [.pcs [.fn (.func 136) [] []] 0])] [] [] (.I r) []:=(Ap.upto_ok K K).Cj h
theorem Cj.ok {K:Nat} {p0:List Aa} {r:Int} (h:Cj K p0=some r):Rb V P 90 [.cv (.ro .Ae p0),.cv (.fn (.func 57) [] [.pcs [.fn (.func 136) [] []] 0])] (.I r):=(Cj.okE h).pcall (by kernel_rfl)
def Cr (K:Nat) (p0:List Aa):Option Bool:=(Ap.upto K K).Cr p0
theorem Cr.okE {K:Nat} {p0:List Aa} {r:Bool} (h:Cr K p0=some r):Q5 V P 56 [.cv (.ro .Ae p0),.cv (.fn (.func 57) [] [.pcs [.fn (.func 136) [] []] 0])] [] [] (.B r) []:=(Ap.upto_ok K K).Cr h
theorem Cr.ok {K:Nat} {p0:List Aa} {r:Bool} (h:Cr K p0=some r):Rb V P 56 [.cv (.ro .Ae p0),.cv (.fn (.func 57) [] [.pcs [.fn (.func 136) [] []] 0])] (.B r):=(Cr.okE h).pcall (by kernel_rfl)
def Dp (K:Nat) (p0:List Aa):Option Bool:=(Ap.upto K K).Dp p0
theorem Dp.okE {K:Nat} {p0:List Aa} {r:Bool} (h:Dp K p0=some r):Q5 V P 30 [.cv (.ro .Ae p0),.cv (.fn (.func 136) [] [])] [] [] (.B r) []:=(Ap.upto_ok K K).Dp h
theorem Dp.ok {K:Nat} {p0:List Aa} {r:Bool} (h:Dp K p0=some r):Rb V P 30 [.cv (.ro .Ae p0),.cv (.fn (.func 136) [] [])] (.B r):=(Dp.okE h).pcall (by kernel_rfl)
def Dy (K:Nat) (p0:List Aa):Option Bool:=(Ap.upto K K).Dy p0
theorem Dy.okE {K:Nat} {p0:List Aa} {r:Bool} (h:Dy K p0=some r):Q5 V P 121 [.cv (.ro .Ae p0)] [] [] (.B r) []:=(Ap.upto_ok K K).Dy h
theorem Dy.ok {K:Nat} {p0:List Aa} {r:Bool} (h:Dy K p0=some r):Rb V P 121 [.cv (.ro .Ae p0)] (.B r):=(Dy.okE h).pcall (by kernel_rfl)
def C9 (K:Nat) (p0:Aa):Option Bool:=(Ap.upto K K).C9 p0
theorem C9.okE {K:Nat} {p0:Aa} {r:Bool} (h:C9 K p0=some r):Q5 V P 92 [.agg (Aj p0)] [] [] (.B r) []:=(Ap.upto_ok K K).C9 h
theorem C9.ok {K:Nat} {p0:Aa} {r:Bool} (h:C9 K p0=some r):Rb V P 92 [.agg (Aj p0)] (.B r):=(C9.okE h).pcall (by kernel_rfl)
def Dj (K:Nat) (p0:Aa):Option Bool:=(Ap.upto K K).Dj p0
theorem Dj.okE {K:Nat} {p0:Aa} {r:Bool} (h:Dj K p0=some r):Q5 V P 57 [.agg (Aj p0),.cv (.pcs [.fn (.func 92) [] []] 0)] [] [] (.B r) []:=(Ap.upto_ok K K).Dj h
theorem Dj.ok {K:Nat} {p0:Aa} {r:Bool} (h:Dj K p0=some r):Rb V P 57 [.agg (Aj p0),.cv (.pcs [.fn (.func 92) [] []] 0)] (.B r):=(Dj.okE h).pcall (by kernel_rfl)
def Ck (K:Nat) (p0:List Aa):Option Int:=(Ap.upto K K).Ck p0
theorem Ck.okE {K:Nat} {p0:List Aa} {r:Int} (h:Ck K p0=some r):Q5 V P 90 [.cv (.ro .Ae p0),.cv (.fn (.func 57) [] [.pcs [.fn (.func 92) [] []] 0])] [] [] (.I r) []:=(Ap.upto_ok K K).Ck h
theorem Ck.ok {K:Nat} {p0:List Aa} {r:Int} (h:Ck K p0=some r):Rb V P 90 [.cv (.ro .Ae p0),.cv (.fn (.func 57) [] [.pcs [.fn (.func 92) [] []] 0])] (.I r):=(Ck.okE h).pcall (by kernel_rfl)
def Cq (K:Nat) (p0:List Aa):Option Bool:=(Ap.upto K K).Cq p0
theorem Cq.okE {K:Nat} {p0:List Aa} {r:Bool} (h:Cq K p0=some r):Q5 V P 56 [.cv (.ro .Ae p0),.cv (.fn (.func 57) [] [.pcs [.fn (.func 92) [] []] 0])] [] [] (.B r) []:=(Ap.upto_ok K K).Cq h
theorem Cq.ok {K:Nat} {p0:List Aa} {r:Bool} (h:Cq K p0=some r):Rb V P 56 [.cv (.ro .Ae p0),.cv (.fn (.func 57) [] [.pcs [.fn (.func 92) [] []] 0])] (.B r):=(Cq.okE h).pcall (by kernel_rfl)
def Dx (K:Nat) (p0:List Aa):Option Bool:=(Ap.upto K K).Dx p0
theorem Dx.okE {K:Nat} {p0:List Aa} {r:Bool} (h:Dx K p0=some r):Q5 V P 30 [.cv (.ro .Ae p0),.cv (.fn (.func 92) [] [])] [] [] (.B r) []:=(Ap.upto_ok K K).Dx h
theorem Dx.ok {K:Nat} {p0:List Aa} {r:Bool} (h:Dx K p0=some r):Rb V P 30 [.cv (.ro .Ae p0),.cv (.fn (.func 92) [] [])] (.B r):=(Dx.okE h).pcall (by kernel_rfl)
def Cm (K:Nat) (p0:Aa):Option Bool:=(Ap.upto K K).Cm p0
theorem Cm.okE {K:Nat} {p0:Aa} {r:Bool} (h:Cm K p0=some r):Q5 V P 60 [.agg (Aj p0)] [] [] (.B r) []:=(Ap.upto_ok K K).Cm h
theorem Cm.ok {K:Nat} {p0:Aa} {r:Bool} (h:Cm K p0=some r):Rb V P 60 [.agg (Aj p0)] (.B r):=(Cm.okE h).pcall (by kernel_rfl)
def Eq (K:Nat) (p0:Aa):Option Bool:=(if p0.Op=6 then (Option.bind (Bk K p0) (fun a1=>some a1)) else some false)
theorem Eq.body {Γ:Rm} {K:Nat} {p0:Aa} {r:Bool} (h:Eq K p0=some r):Ri V P 10 100 Γ (Tryz.f61.body.getD .skip) (Q7 P V Tryz.f61 (.B r) []) ⟨Q6 0 [.agg (Aj p0)],[]⟩:=by
 unfold Eq at h
 refine Q4 L 200 <| Qv ?_
 rcases Qw h with ⟨c1,h⟩ |⟨c1,h⟩
 ·obtain ⟨a1,h1,h⟩:=bind_some h
  refine rg L 203 [(3,true)] [(5,.B a1)] [] (Qz (decide_eq_true c1) (Qz (Bk.ok h1) (Q3 trivial))) ?_
  refine Qx ?_
  cases h
  exact Rd
 refine rg L 203 [(3,false)] [] [] (Q3 (decide_eq_false c1)) ?_
 refine Qx ?_
 cases h
 exact Rd
theorem Eq.ok {K:Nat} {p0:Aa} {r:Bool} (h:Eq K p0=some r):Rb V P 61 [.agg (Aj p0)] (.B r):=Q5.pcall (eo (fn:=Tryz.f61) (n:=10) (m:=100) fun Γ=>Eq.body h) (by kernel_rfl)
def E5 (K:Nat) (p0:Aa):Option Bool:=(Option.bind (Eq K p0) (fun a1=>some (!a1)))
theorem E5.body {Γ:Rm} {K:Nat} {p0:Aa} {r:Bool} (h:E5 K p0=some r):Ri V P 8 100 Γ (Tryz.f57.body.getD .skip) (Q7 P V Tryz.f57 (.B r) []) ⟨Q6 0 [.agg (Aj p0),.cv (.pcs [.fn (.func 61) [] []] 0)],[]⟩:=by
 unfold E5 at h
 refine Q4 L 200 <| Qv ?_
 obtain ⟨a1,h1,h⟩:=bind_some h
 refine rg L 203 [] [(2,.B a1)] [] (R6 (Eq.ok h1)) ?_
 refine Qx ?_
 cases h
 exact Rd
theorem E5.ok {K:Nat} {p0:Aa} {r:Bool} (h:E5 K p0=some r):Rb V P 57 [.agg (Aj p0),.cv (.pcs [.fn (.func 61) [] []] 0)] (.B r):=Q5.pcall (eo (fn:=Tryz.f57) (n:=8) (m:=100) fun Γ=>E5.body h) (by kernel_rfl)
def D2.l7 (K:Nat) (p0:List Aa):Nat→Int→Option (Q9 Int Unit)
 | 0,_=>none
 | k+1,xt8_7h=>(if xt8_7h <(p0.length:Int) then (if (0:Int)≤xt8_7h∧(xt8_7h:Int) <(p0.length:Int) then (Option.bind (E5 K (p0.getD (Int.toNat xt8_7h) B3)) (fun a1=>(if a1=true then some (Q9.done xt8_7h) else D2.l7 K p0 k (IntKind.i64.wrap (xt8_7h+1))))) else none) else some (Q9.go ()))
def D2 (K:Nat) (p0:List Aa):Option Int:=(obind (D2.l7 K p0 K 0:Option (Q9 Int Unit)) (fun r=>r) (fun _=>some (-1)))
theorem D2.body {Γ:Rm} {K:Nat} {p0:List Aa} {r:Int} (h:D2 K p0=some r):Ri V P 19 100 Γ (Tryz.f90.body.getD .skip) (Q7 P V Tryz.f90 (.I r) []) ⟨Q6 0 [.cv (.ro .Ae p0),.cv (.fn (.func 57) [] [.pcs [.fn (.func 61) [] []] 0])],[]⟩:=by
 unfold D2 at h
 refine Q4 L 200 <| Qv <| Q4 L 202 <| Q2 <| kp (S':=⟨[(0,.cv (.ro .Ae p0)),(1,.cv (.fn (.func 57) [] [.pcs [.fn (.func 61) [] []] 0])),(7,.I (p0.length:Int)),(8,.I 0)],[]⟩) ?_
 obtain ⟨o1,hp1,h⟩:=Rf h
 refine Ra (Q':=fun e S=>(e=.exit 0∧S=⟨[],[]⟩∧Q9.go ()=o1)∨(e=.ret∧∃ a,Q9.done a=o1∧Q7 P V Tryz.f90 (.I a) [] .ret S)) (Rh (fun k S=>∃ xt8_7h:Int,S=⟨[(0,.cv (.ro .Ae p0)),(1,.cv (.fn (.func 57) [] [.pcs [.fn (.func 61) [] []] 0])),(7,.I (p0.length:Int)),(8,.I xt8_7h)],[]⟩∧D2.l7 K p0 k xt8_7h=some o1) ?_ ⟨_,rfl,hp1⟩) ?_
 ·clear h hp1
  intro k S hS
  obtain ⟨xt8_7h,rfl,h⟩:=hS
  cases k with
  | zero=>cases h
  | succ k =>
  unfold D2.l7 at h
  refine Q4 L 206 <| Qv ?_
  rcases Qw h with ⟨c1,h⟩ |⟨c1,h⟩
  ·refine tT c1 <| Q0 <| Qv <| Q2 <| Q4 L 208 <| Qv ?_
   obtain ⟨g1,h⟩:=Q1 h
   obtain ⟨a1,h1,h⟩:=bind_some h
   refine rg L 211 [] [(5,.B a1)] [] (Qz g1.1 (Qz g1.2 (Qz (E5.ok h1) (Q3 trivial)))) ?_
   rcases Qw h with ⟨c2,h⟩ |⟨c2,h⟩
   ·refine tt c2 <| Q4 L 218 <| Qx ?_
    cases h
    exact .inr ⟨rfl,_,rfl,Rd⟩
   refine fN c2 <| Q0 <| Tv L 221 [] [] [] (S':=⟨[(0,.cv (.ro .Ae p0)),(1,.cv (.fn (.func 57) [] [.pcs [.fn (.func 61) [] []] 0])),(7,.I (p0.length:Int)),(8,.I (IntKind.i64.wrap (xt8_7h+1)))],[]⟩) ?_
   exact ⟨k,Nat.lt_succ_self k,_,rfl,h⟩
  refine fF c1 <| ex (S':=⟨[],[]⟩) ?_
  cases h
  exact .inl ⟨rfl,rfl,rfl⟩
 ·rintro e S (⟨rfl,rfl,rfl⟩ |⟨rfl,a,rfl,hr⟩)
  ·rcases h with ⟨_,e1,h⟩ |⟨_,e1,h⟩
   ·cases e1
   ·have e2:=Q9.go.inj e1
    subst e2
    refine ⟨_,Qu.refl,?_⟩
    refine Q4 L 224 <| Qx ?_
    cases h
    exact Rd
  ·rcases h with ⟨_,e1,h⟩ |⟨_,e1,h⟩
   ·have e2:=Q9.done.inj e1
    subst e2
    subst h
    exact ⟨_,Qu.refl,hr⟩
   ·cases e1
theorem D2.ok {K:Nat} {p0:List Aa} {r:Int} (h:D2 K p0=some r):Rb V P 90 [.cv (.ro .Ae p0),.cv (.fn (.func 57) [] [.pcs [.fn (.func 61) [] []] 0])] (.I r):=Q5.pcall (eo (fn:=Tryz.f90) (n:=19) (m:=100) fun Γ=>D2.body h) (by kernel_rfl)
def Ek (K:Nat) (p0:List Aa):Option Bool:=(Option.bind (D2 K p0) (fun a1=>some (decide (a1≥0))))
theorem Ek.body {Γ:Rm} {K:Nat} {p0:List Aa} {r:Bool} (h:Ek K p0=some r):Ri V P 9 100 Γ (Tryz.f56.body.getD .skip) (Q7 P V Tryz.f56 (.B r) []) ⟨Q6 0 [.cv (.ro .Ae p0),.cv (.fn (.func 57) [] [.pcs [.fn (.func 61) [] []] 0])],[]⟩:=by
 unfold Ek at h
 refine Q4 L 200 <| Qv ?_
 obtain ⟨a1,h1,h⟩:=bind_some h
 refine rg L 202 [] [(2,.I a1)] [] (R6 (D2.ok h1)) ?_
 refine Qx ?_
 cases h
 exact Rd
theorem Ek.ok {K:Nat} {p0:List Aa} {r:Bool} (h:Ek K p0=some r):Rb V P 56 [.cv (.ro .Ae p0),.cv (.fn (.func 57) [] [.pcs [.fn (.func 61) [] []] 0])] (.B r):=Q5.pcall (eo (fn:=Tryz.f56) (n:=9) (m:=100) fun Γ=>Ek.body h) (by kernel_rfl)
def Fh (K:Nat) (p0:List Aa):Option Bool:=(Option.bind (Ek K p0) (fun a1=>some (!a1)))
theorem Fh.body {Γ:Rm} {K:Nat} {p0:List Aa} {r:Bool} (h:Fh K p0=some r):Ri V P 9 100 Γ (Tryz.f30.body.getD .skip) (Q7 P V Tryz.f30 (.B r) []) ⟨Q6 0 [.cv (.ro .Ae p0),.cv (.fn (.func 61) [] [])],[]⟩:=by
 unfold Fh at h
 refine Q4 L 200 <| Qv ?_
 obtain ⟨a1,h1,h⟩:=bind_some h
 refine rg L 203 [] [(2,.B a1)] [] (R6 (Ek.ok h1)) ?_
 refine Qx ?_
 cases h
 exact Rd
theorem Fh.ok {K:Nat} {p0:List Aa} {r:Bool} (h:Fh K p0=some r):Rb V P 30 [.cv (.ro .Ae p0),.cv (.fn (.func 61) [] [])] (.B r):=Q5.pcall (eo (fn:=Tryz.f30) (n:=9) (m:=100) fun Γ=>Fh.body h) (by kernel_rfl)
def E2 (K:Nat) (p0:Aa):Option Bool:=(if (IntKind.i64.wrap ((p0.Kids.length:Int) - 1)) < 0 then some false else (Option.bind (Bp K p0.Name) (fun a1=>(if a1=true then (if p0.Op=61 then (Option.bind (A4 K p0 true false false) (fun a2=>(if a2=true then (if (IntKind.i64.wrap ((p0.Kids.length:Int) - 1))=0 then (if (0:Int) <(p0.Kids.length:Int) then (Option.bind (E9 K (p0.Kids.getD (Int.toNat 0) B3)) (fun a3=>some a3)) else none) else some false) else some false))) else (if p0.Op=62 then (Option.bind (A4 K p0 true false false) (fun a4=>(if a4=true then (if (0:Int)≤(IntKind.i64.wrap ((p0.Kids.length:Int) - 1))∧((IntKind.i64.wrap ((p0.Kids.length:Int) - 1)):Int) <(p0.Kids.length:Int) then (Option.bind (Cm K (p0.Kids.getD (Int.toNat (IntKind.i64.wrap ((p0.Kids.length:Int) - 1))) B3)) (fun a5=>(if a5=true then (if (IntKind.i64.wrap ((p0.Kids.length:Int) - 1))≤(p0.Kids.length:Int) then (Option.bind (Fh K (Vj p0.Kids 0 (IntKind.i64.wrap ((p0.Kids.length:Int) - 1)))) (fun a6=>some a6)) else none) else some false))) else none) else some false))) else (Option.bind ((if p0.Op=63 then some (decide (p0.Op=63)) else some (decide (p0.Op=64))):Option Bool) (fun xt52_29=>(if xt52_29=true then (Option.bind (A4 K p0 true true false) (fun a7=>(if a7=true then (Option.bind (Bp K p0.Text) (fun a8=>(if a8=true then (if (IntKind.i64.wrap ((p0.Kids.length:Int) - 1))=0 then (if (0:Int) <(p0.Kids.length:Int) then (Option.bind (Cm K (p0.Kids.getD (Int.toNat 0) B3)) (fun a9=>some a9)) else none) else some false) else some false))) else some false))) else (if p0.Op=65 then (Option.bind (A4 K p0 true true false) (fun a10=>(if a10=true then (Option.bind (Bp K p0.Text) (fun a11=>(if a11=true then (if (IntKind.i64.wrap ((p0.Kids.length:Int) - 1))≤1 then (Option.bind (Do K p0.Kids) (fun a12=>some a12)) else some false) else some false))) else some false))) else some false)))))) else some false))))
theorem E2.body {Γ:Rm} {K:Nat} {p0:Aa} {r:Bool} (h:E2 K p0=some r):Ri V P 91 100 Γ (Tryz.f31.body.getD .skip) (Q7 P V Tryz.f31 (.B r) []) ⟨Q6 0 [.agg (Aj p0)],[]⟩:=by
 unfold E2 at h
 refine Q4 L 200 <| Q4 L 203 <| Qv <| Qv ?_
 rcases Qw h with ⟨c1,h⟩ |⟨c1,h⟩
 ·refine rg L 209 [(2,true)] [] [] (Q3 (decide_eq_true c1)) ?_
  refine tt (b:=true) (rfl) ?_
  refine Q4 L 218 <| Qx ?_
  cases h
  exact Rd
 obtain ⟨a1,h1,h⟩:=bind_some h
 refine rg L 209 [(2,false)] [(5,.B a1)] [] (Qz (decide_eq_false c1) (Qz (Bp.ok h1) (Q3 trivial))) ?_
 rcases Qw h with ⟨c2,h⟩ |⟨c2,h⟩
 ·refine ff (b:=(!a1)) (congrArg Bool.not (c2)) ?_
  refine Q0 <| Qv <| Q4 L 220 <| Q2 <| Q4 L 223 ?_
  rcases Qw h with ⟨c3,h⟩ |⟨c3,h⟩
  ·refine tT c3 <| Qv ?_
   obtain ⟨a2,h2,h⟩:=bind_some h
   rcases Qw h with ⟨c4,h⟩ |⟨c4,h⟩
   ·rcases Qw h with ⟨c5,h⟩ |⟨c5,h⟩
    ·obtain ⟨g1,h⟩:=Q1 h
     obtain ⟨a3,h3,h⟩:=bind_some h
     refine rg L 226 [(2,true),(6,true)] [(1,.B a2),(11,.B a3)] [] (Qz (A4.ok h2) (Qz trivial (Qz c4 (Qz (decide_eq_true c5) (Qz (show (0:Int)≤0 from by decide) (Qz g1 (Qz (E9.ok h3) (Q3 trivial)))))))) ?_
     refine Qx ?_
     cases h
     exact Rd
    refine rg L 226 [(2,true),(6,false)] [(1,.B a2)] [] (Qz (A4.ok h2) (Qz trivial (Qz c4 (Q3 (decide_eq_false c5))))) ?_
    refine Qx ?_
    cases h
    exact Rd
   refine rg L 226 [(2,false)] [(1,.B a2)] [] (Qz (A4.ok h2) (Qz trivial (Q3 (eq_false_of_ne_true c4)))) ?_
   refine Qx ?_
   cases h
   exact Rd
  refine fF c3 <| Q4 L 241 ?_
  rcases Qw h with ⟨c6,h⟩ |⟨c6,h⟩
  ·refine tT c6 <| Qv ?_
   obtain ⟨a4,h4,h⟩:=bind_some h
   rcases Qw h with ⟨c7,h⟩ |⟨c7,h⟩
   ·obtain ⟨g2,h⟩:=Q1 h
    obtain ⟨a5,h5,h⟩:=bind_some h
    rcases Qw h with ⟨c8,h⟩ |⟨c8,h⟩
    ·obtain ⟨g3,h⟩:=Q1 h
     obtain ⟨a6,h6,h⟩:=bind_some h
     refine rg L 244 [(2,true),(10,true)] [(1,.B a4),(8,.B a5),(15,.B a6)] [] (Qz (A4.ok h4) (Qz trivial (Qz c7 (Qz g2.1 (Qz g2.2 (Qz (Cm.ok h5) (Qz trivial (Qz c8 (Qz (show (0:Int)≤0 from Int.le_refl _) (Qz g2.1 (Qz g3 (Qz (Fh.ok h6) (Q3 trivial))))))))))))) ?_
     refine Qx ?_
     cases h
     exact Rd
    refine rg L 244 [(2,true),(10,false)] [(1,.B a4),(8,.B a5)] [] (Qz (A4.ok h4) (Qz trivial (Qz c7 (Qz g2.1 (Qz g2.2 (Qz (Cm.ok h5) (Qz trivial (Q3 (eq_false_of_ne_true c8))))))))) ?_
    refine Qx ?_
    cases h
    exact Rd
   refine rg L 244 [(2,false)] [(1,.B a4)] [] (Qz (A4.ok h4) (Qz trivial (Q3 (eq_false_of_ne_true c7)))) ?_
   refine Qx ?_
   cases h
   exact Rd
  refine fF c6 ?_
  obtain ⟨o1,hp1,h⟩:=bind_some h
  refine Qv (Rk (Q':=fun e S=>(e=.normal∧∃ xt52_29:Bool,S=⟨[(1,.P 25800),(3,.I (IntKind.i64.wrap ((p0.Kids.length:Int) - 1))),(17,.I p0.Op),(52,.B xt52_29)],[(25800,.raw (Aj p0))]⟩∧xt52_29=o1)) ?_ ?_)
  ·clear h
   replace h:=hp1
   refine Q4 L 263 ?_
   rcases Qw h with ⟨c9,h⟩ |⟨c9,h⟩
   ·refine tT c9 <| Qy (Qu.trans (Qu.kk [1,3,17,52] [200]) (Qu.rr [(200,25800)])) ?_
    refine sk (S':=⟨[(1,.P 25800),(3,.I (IntKind.i64.wrap ((p0.Kids.length:Int) - 1))),(17,.I p0.Op),(52,.B (decide (p0.Op=63)))],[(25800,.raw (Aj p0))]⟩) ?_
    cases h
    exact ⟨rfl,_,rfl,rfl⟩
   refine fF c9 <| Q8 (Ul L 266 ⟨rfl,rfl⟩) (Qu.trans (Qu.kk [1,3,17,52] [200]) (Qu.trans (Qu.rr [(200,25800)]) (Qu.kp (S':=⟨[(1,.P 25800),(3,.I (IntKind.i64.wrap ((p0.Kids.length:Int) - 1))),(17,.I p0.Op),(52,.B (decide (p0.Op=64)))],[(25800,.raw (Aj p0))]⟩)))) ?_
   cases h
   exact ⟨rfl,_,rfl,rfl⟩
  ·rintro e S ⟨rfl,xt52_29,rfl,rfl⟩
   rcases Qw h with ⟨c10,h⟩ |⟨c10,h⟩
   ·refine tt c10 <| Qv ?_
    obtain ⟨a7,h7,h⟩:=bind_some h
    rcases Qw h with ⟨c11,h⟩ |⟨c11,h⟩
    ·obtain ⟨a8,h8,h⟩:=bind_some h
     rcases Qw h with ⟨c12,h⟩ |⟨c12,h⟩
     ·rcases Qw h with ⟨c13,h⟩ |⟨c13,h⟩
      ·obtain ⟨g4,h⟩:=Q1 h
       obtain ⟨a9,h9,h⟩:=bind_some h
       refine rg L 269 [(2,true),(7,true),(11,true)] [(1,.B a7),(5,.B a8),(16,.B a9)] [] (Qz (A4.ok h7) (Qz trivial (Qz c11 (Qz (Bp.ok h8) (Qz trivial (Qz c12 (Qz (decide_eq_true c13) (Qz (show (0:Int)≤0 from by decide) (Qz g4 (Qz (Cm.ok h9) (Q3 trivial))))))))))) ?_
       refine Qx ?_
       cases h
       exact Rd
      refine rg L 269 [(2,true),(7,true),(11,false)] [(1,.B a7),(5,.B a8)] [] (Qz (A4.ok h7) (Qz trivial (Qz c11 (Qz (Bp.ok h8) (Qz trivial (Qz c12 (Q3 (decide_eq_false c13)))))))) ?_
      refine Qx ?_
      cases h
      exact Rd
     refine rg L 269 [(2,true),(7,false)] [(1,.B a7),(5,.B a8)] [] (Qz (A4.ok h7) (Qz trivial (Qz c11 (Qz (Bp.ok h8) (Qz trivial (Q3 (eq_false_of_ne_true c12))))))) ?_
     refine Qx ?_
     cases h
     exact Rd
    refine rg L 269 [(2,false)] [(1,.B a7)] [] (Qz (A4.ok h7) (Qz trivial (Q3 (eq_false_of_ne_true c11)))) ?_
    refine Qx ?_
    cases h
    exact Rd
   refine fN c10 <| Q4 L 289 ?_
   rcases Qw h with ⟨c14,h⟩ |⟨c14,h⟩
   ·refine tT c14 <| Qv ?_
    obtain ⟨a10,h10,h⟩:=bind_some h
    rcases Qw h with ⟨c15,h⟩ |⟨c15,h⟩
    ·obtain ⟨a11,h11,h⟩:=bind_some h
     rcases Qw h with ⟨c16,h⟩ |⟨c16,h⟩
     ·rcases Qw h with ⟨c17,h⟩ |⟨c17,h⟩
      ·obtain ⟨a12,h12,h⟩:=bind_some h
       refine rg L 292 [(2,true),(7,true),(11,true)] [(1,.B a10),(5,.B a11),(14,.B a12)] [] (Qz (A4.ok h10) (Qz trivial (Qz c15 (Qz (Bp.ok h11) (Qz trivial (Qz c16 (Qz (decide_eq_true c17) (Qz (Do.ok h12) (Q3 trivial))))))))) ?_
       refine Qx ?_
       cases h
       exact Rd
      refine rg L 292 [(2,true),(7,true),(11,false)] [(1,.B a10),(5,.B a11)] [] (Qz (A4.ok h10) (Qz trivial (Qz c15 (Qz (Bp.ok h11) (Qz trivial (Qz c16 (Q3 (decide_eq_false c17)))))))) ?_
      refine Qx ?_
      cases h
      exact Rd
     refine rg L 292 [(2,true),(7,false)] [(1,.B a10),(5,.B a11)] [] (Qz (A4.ok h10) (Qz trivial (Qz c15 (Qz (Bp.ok h11) (Qz trivial (Q3 (eq_false_of_ne_true c16))))))) ?_
     refine Qx ?_
     cases h
     exact Rd
    refine rg L 292 [(2,false)] [(1,.B a10)] [] (Qz (A4.ok h10) (Qz trivial (Q3 (eq_false_of_ne_true c15)))) ?_
    refine Qx ?_
    cases h
    exact Rd
   refine fF c14 <| Q0 <| Q4 L 310 <| Qx ?_
   cases h
   exact Rd
 refine tt (b:=(!a1)) (congrArg Bool.not (eq_false_of_ne_true c2)) ?_
 refine Q4 L 218 <| Qx ?_
 cases h
 exact Rd
theorem E2.ok {K:Nat} {p0:Aa} {r:Bool} (h:E2 K p0=some r):Rb V P 31 [.agg (Aj p0)] (.B r):=Q5.pcall (eo (fn:=Tryz.f31) (n:=91) (m:=100) fun Γ=>E2.body h) (by kernel_rfl)
def Fi (K:Nat) (p0:Aa):Option Bool:=(Option.bind (E2 K p0) (fun a1=>some (!a1)))
theorem Fi.body {Γ:Rm} {K:Nat} {p0:Aa} {r:Bool} (h:Fi K p0=some r):Ri V P 8 100 Γ (Tryz.f57.body.getD .skip) (Q7 P V Tryz.f57 (.B r) []) ⟨Q6 0 [.agg (Aj p0),.cv (.pcs [.fn (.func 31) [] []] 0)],[]⟩:=by
 unfold Fi at h
 refine Q4 L 200 <| Qv ?_
 obtain ⟨a1,h1,h⟩:=bind_some h
 refine rg L 203 [] [(2,.B a1)] [] (R6 (E2.ok h1)) ?_
 refine Qx ?_
 cases h
 exact Rd
theorem Fi.ok {K:Nat} {p0:Aa} {r:Bool} (h:Fi K p0=some r):Rb V P 57 [.agg (Aj p0),.cv (.pcs [.fn (.func 31) [] []] 0)] (.B r):=Q5.pcall (eo (fn:=Tryz.f57) (n:=8) (m:=100) fun Γ=>Fi.body h) (by kernel_rfl)
def Ea.l7 (K:Nat) (p0:List Aa):Nat→Int→Option (Q9 Int Unit)
 | 0,_=>none
 | k+1,xt8_7h=>(if xt8_7h <(p0.length:Int) then (if (0:Int)≤xt8_7h∧(xt8_7h:Int) <(p0.length:Int) then (Option.bind (Fi K (p0.getD (Int.toNat xt8_7h) B3)) (fun a1=>(if a1=true then some (Q9.done xt8_7h) else Ea.l7 K p0 k (IntKind.i64.wrap (xt8_7h+1))))) else none) else some (Q9.go ()))
def Ea (K:Nat) (p0:List Aa):Option Int:=(obind (Ea.l7 K p0 K 0:Option (Q9 Int Unit)) (fun r=>r) (fun _=>some (-1)))
theorem Ea.body {Γ:Rm} {K:Nat} {p0:List Aa} {r:Int} (h:Ea K p0=some r):Ri V P 19 100 Γ (Tryz.f90.body.getD .skip) (Q7 P V Tryz.f90 (.I r) []) ⟨Q6 0 [.cv (.ro .Ae p0),.cv (.fn (.func 57) [] [.pcs [.fn (.func 31) [] []] 0])],[]⟩:=by
 unfold Ea at h
 refine Q4 L 200 <| Qv <| Q4 L 202 <| Q2 <| kp (S':=⟨[(0,.cv (.ro .Ae p0)),(1,.cv (.fn (.func 57) [] [.pcs [.fn (.func 31) [] []] 0])),(7,.I (p0.length:Int)),(8,.I 0)],[]⟩) ?_
 obtain ⟨o1,hp1,h⟩:=Rf h
 refine Ra (Q':=fun e S=>(e=.exit 0∧S=⟨[],[]⟩∧Q9.go ()=o1)∨(e=.ret∧∃ a,Q9.done a=o1∧Q7 P V Tryz.f90 (.I a) [] .ret S)) (Rh (fun k S=>∃ xt8_7h:Int,S=⟨[(0,.cv (.ro .Ae p0)),(1,.cv (.fn (.func 57) [] [.pcs [.fn (.func 31) [] []] 0])),(7,.I (p0.length:Int)),(8,.I xt8_7h)],[]⟩∧Ea.l7 K p0 k xt8_7h=some o1) ?_ ⟨_,rfl,hp1⟩) ?_
 ·clear h hp1
  intro k S hS
  obtain ⟨xt8_7h,rfl,h⟩:=hS
  cases k with
  | zero=>cases h
  | succ k =>
  unfold Ea.l7 at h
  refine Q4 L 206 <| Qv ?_
  rcases Qw h with ⟨c1,h⟩ |⟨c1,h⟩
  ·refine tT c1 <| Q0 <| Qv <| Q2 <| Q4 L 208 <| Qv ?_
   obtain ⟨g1,h⟩:=Q1 h
   obtain ⟨a1,h1,h⟩:=bind_some h
   refine rg L 211 [] [(5,.B a1)] [] (Qz g1.1 (Qz g1.2 (Qz (Fi.ok h1) (Q3 trivial)))) ?_
   rcases Qw h with ⟨c2,h⟩ |⟨c2,h⟩
   ·refine tt c2 <| Q4 L 218 <| Qx ?_
    cases h
    exact .inr ⟨rfl,_,rfl,Rd⟩
   refine fN c2 <| Q0 <| Tv L 221 [] [] [] (S':=⟨[(0,.cv (.ro .Ae p0)),(1,.cv (.fn (.func 57) [] [.pcs [.fn (.func 31) [] []] 0])),(7,.I (p0.length:Int)),(8,.I (IntKind.i64.wrap (xt8_7h+1)))],[]⟩) ?_
   exact ⟨k,Nat.lt_succ_self k,_,rfl,h⟩
  refine fF c1 <| ex (S':=⟨[],[]⟩) ?_
  cases h
  exact .inl ⟨rfl,rfl,rfl⟩
 ·rintro e S (⟨rfl,rfl,rfl⟩ |⟨rfl,a,rfl,hr⟩)
  ·rcases h with ⟨_,e1,h⟩ |⟨_,e1,h⟩
   ·cases e1
   ·have e2:=Q9.go.inj e1
    subst e2
    refine ⟨_,Qu.refl,?_⟩
    refine Q4 L 224 <| Qx ?_
    cases h
    exact Rd
  ·rcases h with ⟨_,e1,h⟩ |⟨_,e1,h⟩
   ·have e2:=Q9.done.inj e1
    subst e2
    subst h
    exact ⟨_,Qu.refl,hr⟩
   ·cases e1
theorem Ea.ok {K:Nat} {p0:List Aa} {r:Int} (h:Ea K p0=some r):Rb V P 90 [.cv (.ro .Ae p0),.cv (.fn (.func 57) [] [.pcs [.fn (.func 31) [] []] 0])] (.I r):=Q5.pcall (eo (fn:=Tryz.f90) (n:=19) (m:=100) fun Γ=>Ea.body h) (by kernel_rfl)
def Ev (K:Nat) (p0:List Aa):Option Bool:=(Option.bind (Ea K p0) (fun a1=>some (decide (a1≥0))))
theorem Ev.body {Γ:Rm} {K:Nat} {p0:List Aa} {r:Bool} (h:Ev K p0=some r):Ri V P 9 100 Γ (Tryz.f56.body.getD .skip) (Q7 P V Tryz.f56 (.B r) []) ⟨Q6 0 [.cv (.ro .Ae p0),.cv (.fn (.func 57) [] [.pcs [.fn (.func 31) [] []] 0])],[]⟩:=by
 unfold Ev at h
 refine Q4 L 200 <| Qv ?_
 obtain ⟨a1,h1,h⟩:=bind_some h
 refine rg L 202 [] [(2,.I a1)] [] (R6 (Ea.ok h1)) ?_
 refine Qx ?_
 cases h
 exact Rd
theorem Ev.ok {K:Nat} {p0:List Aa} {r:Bool} (h:Ev K p0=some r):Rb V P 56 [.cv (.ro .Ae p0),.cv (.fn (.func 57) [] [.pcs [.fn (.func 31) [] []] 0])] (.B r):=Q5.pcall (eo (fn:=Tryz.f56) (n:=9) (m:=100) fun Γ=>Ev.body h) (by kernel_rfl)
def Ft (K:Nat) (p0:List Aa):Option Bool:=(Option.bind (Ev K p0) (fun a1=>some (!a1)))
theorem Ft.body {Γ:Rm} {K:Nat} {p0:List Aa} {r:Bool} (h:Ft K p0=some r):Ri V P 9 100 Γ (Tryz.f30.body.getD .skip) (Q7 P V Tryz.f30 (.B r) []) ⟨Q6 0 [.cv (.ro .Ae p0),.cv (.fn (.func 31) [] [])],[]⟩:=by
 unfold Ft at h
 refine Q4 L 200 <| Qv ?_
 obtain ⟨a1,h1,h⟩:=bind_some h
 refine rg L 203 [] [(2,.B a1)] [] (R6 (Ev.ok h1)) ?_
 refine Qx ?_
 cases h
 exact Rd
theorem Ft.ok {K:Nat} {p0:List Aa} {r:Bool} (h:Ft K p0=some r):Rb V P 30 [.cv (.ro .Ae p0),.cv (.fn (.func 31) [] [])] (.B r):=Q5.pcall (eo (fn:=Tryz.f30) (n:=9) (m:=100) fun Γ=>Ft.body h) (by kernel_rfl)
def Fo (K:Nat) (p0:Aa):Option Bool:=(Option.bind (Ex K p0) (fun a1=>(if a1=true then (if p0.Op=60 then (Option.bind (A4 K p0 false false false) (fun a2=>(if a2=true then (Option.bind (Ft K p0.Kids) (fun a3=>some a3)) else some false))) else some false) else some false)))
theorem Fo.body {Γ:Rm} {K:Nat} {p0:Aa} {r:Bool} (h:Fo K p0=some r):Ri V P 19 100 Γ (Tryz.f13.body.getD .skip) (Q7 P V Tryz.f13 (.B r) []) ⟨Q6 0 [.agg (Aj p0)],[]⟩:=by
 unfold Fo at h
 refine Q4 L 200 <| Qv ?_
 obtain ⟨a1,h1,h⟩:=bind_some h
 rcases Qw h with ⟨c1,h⟩ |⟨c1,h⟩
 ·rcases Qw h with ⟨c2,h⟩ |⟨c2,h⟩
  ·obtain ⟨a2,h2,h⟩:=bind_some h
   rcases Qw h with ⟨c3,h⟩ |⟨c3,h⟩
   ·obtain ⟨a3,h3,h⟩:=bind_some h
    refine rg L 203 [(2,true),(7,true),(11,true)] [(1,.B a1),(9,.B a2),(14,.B a3)] [] (Qz (Ex.ok h1) (Qz trivial (Qz c1 (Qz (decide_eq_true c2) (Qz (A4.ok h2) (Qz trivial (Qz c3 (Qz (Ft.ok h3) (Q3 trivial))))))))) ?_
    refine Qx ?_
    cases h
    exact Rd
   refine rg L 203 [(2,true),(7,true),(11,false)] [(1,.B a1),(9,.B a2)] [] (Qz (Ex.ok h1) (Qz trivial (Qz c1 (Qz (decide_eq_true c2) (Qz (A4.ok h2) (Qz trivial (Q3 (eq_false_of_ne_true c3)))))))) ?_
   refine Qx ?_
   cases h
   exact Rd
  refine rg L 203 [(2,true),(7,false)] [(1,.B a1)] [] (Qz (Ex.ok h1) (Qz trivial (Qz c1 (Q3 (decide_eq_false c2))))) ?_
  refine Qx ?_
  cases h
  exact Rd
 refine rg L 203 [(2,false)] [(1,.B a1)] [] (Qz (Ex.ok h1) (Qz trivial (Q3 (eq_false_of_ne_true c1)))) ?_
 refine Qx ?_
 cases h
 exact Rd
theorem Fo.ok {K:Nat} {p0:Aa} {r:Bool} (h:Fo K p0=some r):Rb V P 13 [.agg (Aj p0)] (.B r):=Q5.pcall (eo (fn:=Tryz.f13) (n:=19) (m:=100) fun Γ=>Fo.body h) (by kernel_rfl)
def D5 (K:Nat):Option Bool:=(Option.bind (E8 K ([97,32,43,32,98,32,42,32,50]:List UInt8)) (fun (a1_0,a1_1,a1_2)=>(Option.bind (E8 K ([97,32,60,32,98,32,60,32,99]:List UInt8)) (fun (a2_0,a2_1,a2_2)=>(Option.bind (Fu K ([102,117,110,99,32,102,40,120,41,32,123,32,114,101,116,117,114,110,32,120,59,32,125]:List UInt8)) (fun (a3_0,a3_1,a3_2)=>(if a1_2=0 then (Option.bind (Bh K a1_0 ((⟨18,[],0,[],([(⟨6,([97]:List UInt8),0,[],([]:List Aa)⟩:Aa),(⟨15,[],0,[],([(⟨6,([98]:List UInt8),0,[],([]:List Aa)⟩:Aa),(⟨4,[],2,[],([]:List Aa)⟩:Aa)]:List Aa)⟩:Aa)]:List Aa)⟩:Aa))) (fun a4=>(if a4=true then (if a2_1=6 then (if a2_2=29 then (if a3_2=0 then (Option.bind (Fo K a3_0) (fun a5=>(if a5=true then (Option.bind (C7 K a3_0) (fun a6=>some (decide (a6=6)))) else some false))) else some false) else some false) else some false) else some false))) else some false)))))))
theorem D5.body {Γ:Rm} {K:Nat} {r:Bool} (h:D5 K=some r):Ri V P 61 100 Γ (Tryz.f9.body.getD .skip) (Q7 P V Tryz.f9 (.B r) []) ⟨Q6 0 [],[]⟩:=by
 unfold D5 at h
 refine Q4 L 200 <| Qv ?_
 obtain ⟨⟨a1_0,a1_1,a1_2⟩,h1,h⟩:=bind_some h
 dsimp only at h
 refine rg L 202 [] [(0,.tup [.agg (Aj a1_0),.I a1_1,.I a1_2])] [] (R6 (E8.ok h1)) ?_
 refine Qv ?_
 obtain ⟨⟨a2_0,a2_1,a2_2⟩,h2,h⟩:=bind_some h
 dsimp only at h
 refine rg L 212 [] [(0,.tup [.agg (Aj a2_0),.I a2_1,.I a2_2])] [] (R6 (E8.ok h2)) ?_
 refine Qv ?_
 obtain ⟨⟨a3_0,a3_1,a3_2⟩,h3,h⟩:=bind_some h
 dsimp only at h
 refine rg L 222 [] [(0,.tup [.agg (Aj a3_0),.I a3_1,.I a3_2])] [] (R6 (Fu.ok h3)) ?_
 refine Q4 L 232 <| Qv ?_
 rcases Qw h with ⟨c1,h⟩ |⟨c1,h⟩
 ·obtain ⟨a4,h4,h⟩:=bind_some h
  rcases Qw h with ⟨c2,h⟩ |⟨c2,h⟩
  ·rcases Qw h with ⟨c3,h⟩ |⟨c3,h⟩
   ·rcases Qw h with ⟨c4,h⟩ |⟨c4,h⟩
    ·rcases Qw h with ⟨c5,h⟩ |⟨c5,h⟩
     ·obtain ⟨a5,h5,h⟩:=bind_some h
      rcases Qw h with ⟨c6,h⟩ |⟨c6,h⟩
      ·obtain ⟨a6,h6,h⟩:=bind_some h
       refine rg L 242 [(2,true),(7,true),(11,true),(15,true),(19,true),(23,true)] [(5,.B a4),(21,.B a5),(25,.I a6)] [] (Qz (decide_eq_true c1) (Qz (Bh.ok h4) (Qz trivial (Qz c2 (Qz (decide_eq_true c3) (Qz (decide_eq_true c4) (Qz (decide_eq_true c5) (Qz (Fo.ok h5) (Qz trivial (Qz c6 (Qz (C7.ok h6) (Q3 trivial)))))))))))) ?_
       refine Qx ?_
       cases h
       exact Rd
      refine rg L 242 [(2,true),(7,true),(11,true),(15,true),(19,true),(23,false)] [(5,.B a4),(21,.B a5)] [] (Qz (decide_eq_true c1) (Qz (Bh.ok h4) (Qz trivial (Qz c2 (Qz (decide_eq_true c3) (Qz (decide_eq_true c4) (Qz (decide_eq_true c5) (Qz (Fo.ok h5) (Qz trivial (Q3 (eq_false_of_ne_true c6))))))))))) ?_
      refine Qx ?_
      cases h
      exact Rd
     refine rg L 242 [(2,true),(7,true),(11,true),(15,true),(19,false)] [(5,.B a4)] [] (Qz (decide_eq_true c1) (Qz (Bh.ok h4) (Qz trivial (Qz c2 (Qz (decide_eq_true c3) (Qz (decide_eq_true c4) (Q3 (decide_eq_false c5)))))))) ?_
     refine Qx ?_
     cases h
     exact Rd
    refine rg L 242 [(2,true),(7,true),(11,true),(15,false)] [(5,.B a4)] [] (Qz (decide_eq_true c1) (Qz (Bh.ok h4) (Qz trivial (Qz c2 (Qz (decide_eq_true c3) (Q3 (decide_eq_false c4))))))) ?_
    refine Qx ?_
    cases h
    exact Rd
   refine rg L 242 [(2,true),(7,true),(11,false)] [(5,.B a4)] [] (Qz (decide_eq_true c1) (Qz (Bh.ok h4) (Qz trivial (Qz c2 (Q3 (decide_eq_false c3)))))) ?_
   refine Qx ?_
   cases h
   exact Rd
  refine rg L 242 [(2,true),(7,false)] [(5,.B a4)] [] (Qz (decide_eq_true c1) (Qz (Bh.ok h4) (Qz trivial (Q3 (eq_false_of_ne_true c2))))) ?_
  refine Qx ?_
  cases h
  exact Rd
 refine rg L 242 [(2,false)] [] [] (Q3 (decide_eq_false c1)) ?_
 refine Qx ?_
 cases h
 exact Rd
theorem D5.ok {K:Nat} {r:Bool} (h:D5 K=some r):Rb V P 9 [] (.B r):=Q5.pcall (eo (fn:=Tryz.f9) (n:=61) (m:=100) fun Γ=>D5.body h) (by kernel_rfl)
def Dg (K:Nat) (p0:Int):Option Bool:=(if p0≥97 then (if p0≤122 then some true else (if p0≥65 then (if p0≤90 then some true else some (decide (p0=95))) else some (decide (p0=95)))) else (if p0≥65 then (if p0≤90 then some true else some (decide (p0=95))) else some (decide (p0=95))))
theorem Dg.body {Γ:Rm} {K:Nat} {p0:Int} {r:Bool} (h:Dg K p0=some r):Ri V P 21 100 Γ (Tryz.f109.body.getD .skip) (Q7 P V Tryz.f109 (.B r) []) ⟨Q6 0 [.cv (.lit (.int .u8 p0))],[]⟩:=by
 unfold Dg at h
 refine Q4 L 200 <| Qv ?_
 rcases Qw h with ⟨c1,h⟩ |⟨c1,h⟩
 ·rcases Qw h with ⟨c2,h⟩ |⟨c2,h⟩
  ·refine rg L 202 [(2,true),(6,true)] [] [] (Sj (decide_eq_true c1) (decide_eq_true c2)) ?_
   refine Qx ?_
   cases h
   exact Rd
  rcases Qw h with ⟨c3,h⟩ |⟨c3,h⟩
  ·rcases Qw h with ⟨c4,h⟩ |⟨c4,h⟩
   ·refine rg L 202 [(2,true),(6,false),(9,true),(14,true)] [] [] (Qz (decide_eq_true c1) (Qz (decide_eq_false c2) (Qz (decide_eq_true c3) (Q3 (decide_eq_true c4))))) ?_
    refine Qx ?_
    cases h
    exact Rd
   refine rg L 202 [(2,true),(6,false),(9,true),(14,false)] [] [] (Qz (decide_eq_true c1) (Qz (decide_eq_false c2) (Qz (decide_eq_true c3) (Q3 (decide_eq_false c4))))) ?_
   refine Qx ?_
   cases h
   exact Rd
  refine rg L 202 [(2,true),(6,false),(9,false)] [] [] (Qz (decide_eq_true c1) (Qz (decide_eq_false c2) (Q3 (decide_eq_false c3)))) ?_
  refine Qx ?_
  cases h
  exact Rd
 rcases Qw h with ⟨c5,h⟩ |⟨c5,h⟩
 ·rcases Qw h with ⟨c6,h⟩ |⟨c6,h⟩
  ·refine rg L 202 [(2,false),(9,true),(14,true)] [] [] (Qz (decide_eq_false c1) (Qz (decide_eq_true c5) (Q3 (decide_eq_true c6)))) ?_
   refine Qx ?_
   cases h
   exact Rd
  refine rg L 202 [(2,false),(9,true),(14,false)] [] [] (Qz (decide_eq_false c1) (Qz (decide_eq_true c5) (Q3 (decide_eq_false c6)))) ?_
  refine Qx ?_
  cases h
  exact Rd
 refine rg L 202 [(2,false),(9,false)] [] [] (Sj (decide_eq_false c1) (decide_eq_false c5)) ?_
 refine Qx ?_
 cases h
 exact Rd
theorem Dg.ok {K:Nat} {p0:Int} {r:Bool} (h:Dg K p0=some r):Rb V P 109 [.cv (.lit (.int .u8 p0))] (.B r):=Q5.pcall (eo (fn:=Tryz.f109) (n:=21) (m:=100) fun Γ=>Dg.body h) (by kernel_rfl)
def Du (K:Nat) (p0:Int):Option Bool:=(if p0≥48 then some (decide (p0≤57)) else some false)
theorem Du.body {Γ:Rm} {K:Nat} {p0:Int} {r:Bool} (h:Du K p0=some r):Ri V P 9 100 Γ (Tryz.f110.body.getD .skip) (Q7 P V Tryz.f110 (.B r) []) ⟨Q6 0 [.cv (.lit (.int .u8 p0))],[]⟩:=by
 unfold Du at h
 refine Q4 L 200 <| Qv ?_
 rcases Qw h with ⟨c1,h⟩ |⟨c1,h⟩
 ·refine rg L 202 [(2,true)] [] [] (Q3 (decide_eq_true c1)) ?_
  refine Qx ?_
  cases h
  exact Rd
 refine rg L 202 [(2,false)] [] [] (Q3 (decide_eq_false c1)) ?_
 refine Qx ?_
 cases h
 exact Rd
theorem Du.ok {K:Nat} {p0:Int} {r:Bool} (h:Du K p0=some r):Rb V P 110 [.cv (.lit (.int .u8 p0))] (.B r):=Q5.pcall (eo (fn:=Tryz.f110) (n:=9) (m:=100) fun Γ=>Du.body h) (by kernel_rfl)
def Em (K:Nat):Option (List (List UInt8)):=some ([([97,110,100]:List UInt8),([97,119,97,105,116]:List UInt8),([99,97,115,101]:List UInt8),([99,97,116,99,104]:List UInt8),([99,104,101,99,107]:List UInt8),([101,108,115,101]:List UInt8),([102,97,108,115,101]:List UInt8),([102,117,110,99]:List UInt8),([103,111]:List UInt8),([105,102]:List UInt8),([108,101,116]:List UInt8),([110,111,116]:List UInt8),([110,117,108,108]:List UInt8),([111,110]:List UInt8),([111,114]:List UInt8),([113,117,101,114,121]:List UInt8),([114,101,116,117,114,110]:List UInt8),([115,97,103,97]:List UInt8),([115,101,108,101,99,116]:List UInt8),([115,105,103,110,97,108]:List UInt8),([116,104,114,111,119]:List UInt8),([116,114,117,101]:List UInt8),([116,114,121]:List UInt8),([117,110,100,111]:List UInt8),([117,112,100,97,116,101]:List UInt8),([118,97,114]:List UInt8),([119,104,105,108,101]:List UInt8)]:List (List UInt8))
theorem Em.body {Γ:Rm} {K:Nat} {r:List (List UInt8)} (h:Em K=some r):Ri V P 2 100 Γ (Tryz.f123.body.getD .skip) (Q7 P V Tryz.f123 (.cv (.ro .C8 r)) []) ⟨Q6 0 [],[]⟩:=by
 unfold Em at h
 refine Q4 L 200 <| Q4 L 202 <| Qx ?_
 cases h
 exact Rd
theorem Em.ok {K:Nat} {r:List (List UInt8)} (h:Em K=some r):Rb V P 123 [] (.cv (.ro .C8 r)):=Q5.pcall (eo (fn:=Tryz.f123) (n:=2) (m:=100) fun Γ=>Em.body h) (by kernel_rfl)
def Da.l7 (K:Nat) (p0:List UInt8) (a1:List (List UInt8)):Nat→Int→Option (Q9 Bool Unit)
 | 0,_=>none
 | k+1,xt7_7h=>(if xt7_7h <(a1.length:Int) then (if (0:Int)≤xt7_7h∧(xt7_7h:Int) <(a1.length:Int) then (if (a1.getD (Int.toNat xt7_7h) ([]:List UInt8))=p0 then some (Q9.done true) else Da.l7 K p0 a1 k (IntKind.i64.wrap (xt7_7h+1))) else none) else some (Q9.go ()))
def Da (K:Nat) (p0:List UInt8):Option Bool:=(Option.bind (Em K) (fun a1=>(obind (Da.l7 K p0 a1 K 0:Option (Q9 Bool Unit)) (fun r=>r) (fun _=>some false))))
theorem Da.body {Γ:Rm} {K:Nat} {p0:List UInt8} {r:Bool} (h:Da K p0=some r):Ri V P 15 100 Γ (Tryz.f95.body.getD .skip) (Q7 P V Tryz.f95 (.B r) []) ⟨Q6 0 [.cv (.str p0)],[]⟩:=by
 unfold Da at h
 refine Q4 L 200 <| Qv <| Qv ?_
 obtain ⟨a1,h1,h⟩:=bind_some h
 refine rg L 202 [] [(0,.cv (.ro .C8 a1))] [] (R6 (Em.ok h1)) ?_
 refine Q2 <| kp (S':=⟨[(0,.cv (.str p0)),(5,.cv (.ro .C8 a1)),(6,.I (a1.length:Int)),(7,.I 0)],[]⟩) ?_
 obtain ⟨o1,hp1,h⟩:=Rf h
 refine Ra (Q':=fun e S=>(e=.exit 0∧S=⟨[],[]⟩∧Q9.go ()=o1)∨(e=.ret∧∃ a,Q9.done a=o1∧Q7 P V Tryz.f95 (.B a) [] .ret S)) (Rh (fun k S=>∃ xt7_7h:Int,S=⟨[(0,.cv (.str p0)),(5,.cv (.ro .C8 a1)),(6,.I (a1.length:Int)),(7,.I xt7_7h)],[]⟩∧Da.l7 K p0 a1 k xt7_7h=some o1) ?_ ⟨_,rfl,hp1⟩) ?_
 ·clear h hp1
  intro k S hS
  obtain ⟨xt7_7h,rfl,h⟩:=hS
  cases k with
  | zero=>cases h
  | succ k =>
  unfold Da.l7 at h
  refine Q4 L 206 <| Qv ?_
  rcases Qw h with ⟨c1,h⟩ |⟨c1,h⟩
  ·refine tT c1 <| Q0 <| Qv <| Q2 <| Qv ?_
   obtain ⟨g1,h⟩:=Q1 h
   refine rg L 208 [] [] [] (Sj g1.1 g1.2) ?_
   refine Q4 L 212 ?_
   rcases Qw h with ⟨c2,h⟩ |⟨c2,h⟩
   ·refine tT c2 <| Q4 L 216 <| Qx ?_
    cases h
    exact .inr ⟨rfl,_,rfl,Rd⟩
   refine fF c2 <| Q0 <| Tv L 218 [] [] [] (S':=⟨[(0,.cv (.str p0)),(5,.cv (.ro .C8 a1)),(6,.I (a1.length:Int)),(7,.I (IntKind.i64.wrap (xt7_7h+1)))],[]⟩) ?_
   exact ⟨k,Nat.lt_succ_self k,_,rfl,h⟩
  refine fF c1 <| ex (S':=⟨[],[]⟩) ?_
  cases h
  exact .inl ⟨rfl,rfl,rfl⟩
 ·rintro e S (⟨rfl,rfl,rfl⟩ |⟨rfl,a,rfl,hr⟩)
  ·rcases h with ⟨_,e1,h⟩ |⟨_,e1,h⟩
   ·cases e1
   ·have e2:=Q9.go.inj e1
    subst e2
    refine ⟨_,Qu.refl,?_⟩
    refine Q4 L 221 <| Qx ?_
    cases h
    exact Rd
  ·rcases h with ⟨_,e1,h⟩ |⟨_,e1,h⟩
   ·have e2:=Q9.done.inj e1
    subst e2
    subst h
    exact ⟨_,Qu.refl,hr⟩
   ·cases e1
theorem Da.ok {K:Nat} {p0:List UInt8} {r:Bool} (h:Da K p0=some r):Rb V P 95 [.cv (.str p0)] (.B r):=Q5.pcall (eo (fn:=Tryz.f95) (n:=15) (m:=100) fun Γ=>Da.body h) (by kernel_rfl)
def Cu.l7 (K:Nat) (p0:List UInt8):Nat→Int→Option Int
 | 0,_=>none
 | k+1,xt5_7h=>(if xt5_7h <(p0.length:Int) then (if (0:Int)≤xt5_7h∧(xt5_7h:Int) <(p0.length:Int) then (Option.bind (Du K ((p0.getD (Int.toNat xt5_7h) 0).toNat:Int)) (fun a1=>(if a1=true then Cu.l7 K p0 k (IntKind.i64.wrap (xt5_7h+1)) else some xt5_7h))) else none) else some xt5_7h)
def Cu.l30 (K:Nat) (p0:List UInt8) (xt5_7:Int):Nat→Int→Int→Option (Q9 (Int×Int×Int) Int)
 | 0,_,_=>none
 | k+1,xt6_30h,xt7_30h=>(if xt7_30h < xt5_7 then (if (0:Int)≤xt7_30h∧(xt7_30h:Int) <(p0.length:Int) then (if xt6_30h >(IntKind.i64.wrap (Int.tdiv ((IntKind.i64.wrap (9223372036854775807 - (IntKind.i64.wrap (IntKind.u8.wrap (((p0.getD (Int.toNat xt7_30h) 0).toNat:Int) - 48)))))) 10)) then some (Q9.done (0,0,14)) else Cu.l30 K p0 xt5_7 k ((IntKind.i64.wrap ((IntKind.i64.wrap (10 * xt6_30h))+(IntKind.i64.wrap (IntKind.u8.wrap (((p0.getD (Int.toNat xt7_30h) 0).toNat:Int) - 48)))))) (IntKind.i64.wrap (xt7_30h+1))) else none) else some (Q9.go xt6_30h))
def Cu (K:Nat) (p0:List UInt8):Option (Int×Int×Int):=(Option.bind (Cu.l7 K p0 K 0:Option Int) (fun xt5_7=>(obind (((if xt5_7 > 1 then (if (0:Int) <(p0.length:Int) then (if ((p0.getD (Int.toNat 0) 0).toNat:Int)=48 then some (Q9.done (0,0,3)) else (if xt5_7 <(p0.length:Int) then (if (0:Int)≤xt5_7∧(xt5_7:Int) <(p0.length:Int) then (Option.bind (Dg K ((p0.getD (Int.toNat xt5_7) 0).toNat:Int)) (fun a2=>(if a2=true then some (Q9.done (0,0,3)) else some (Q9.go ())))) else none) else some (Q9.go ()))) else none) else (if xt5_7 <(p0.length:Int) then (if (0:Int)≤xt5_7∧(xt5_7:Int) <(p0.length:Int) then (Option.bind (Dg K ((p0.getD (Int.toNat xt5_7) 0).toNat:Int)) (fun a3=>(if a3=true then some (Q9.done (0,0,3)) else some (Q9.go ())))) else none) else some (Q9.go ())))):Option (Q9 (Int×Int×Int) Unit)) (fun r=>r) (fun _=>(obind (Cu.l30 K p0 xt5_7 K 0 0:Option (Q9 (Int×Int×Int) Int)) (fun r=>r) (fun xt6_30=>some (xt6_30,xt5_7,0)))))))
theorem Cu.body {Γ:Rm} {K:Nat} {p0:List UInt8} {r:Int×Int×Int} (h:Cu K p0=some r):Ri V P 61 100 Γ (Tryz.f111.body.getD .skip) (Q7 P V Tryz.f111 (.tup [.I r.1,.I r.2.1,.I r.2.2]) []) ⟨Q6 0 [.cv (.str p0)],[]⟩:=by
 unfold Cu at h
 refine Q4 L 200 <| Q4 L 204 <| Qv <| Q2 <| kp (S':=⟨[(0,.cv (.str p0)),(5,.I 0)],[]⟩) ?_
 obtain ⟨o1,hp1,h⟩:=bind_some h
 refine Ra (Q':=fun e S=>(e=.exit 0∧∃ xt5_7:Int,S=⟨[(0,.cv (.str p0)),(5,.I xt5_7)],[]⟩∧xt5_7=o1)) (Rh (fun k S=>∃ xt5_7h:Int,S=⟨[(0,.cv (.str p0)),(5,.I xt5_7h)],[]⟩∧Cu.l7 K p0 k xt5_7h=some o1) ?_ ⟨_,rfl,hp1⟩) ?_
 ·clear h hp1
  intro k S hS
  obtain ⟨xt5_7h,rfl,h⟩:=hS
  cases k with
  | zero=>cases h
  | succ k =>
  unfold Cu.l7 at h
  refine Qv <| Qv ?_
  rcases Qw h with ⟨c1,h⟩ |⟨c1,h⟩
  ·obtain ⟨g1,h⟩:=Q1 h
   obtain ⟨a1,h1,h⟩:=bind_some h
   refine rg L 206 [(4,true)] [(8,.B a1)] [] (Qz (decide_eq_true c1) (Qz g1.1 (Qz g1.2 (Qz (Du.ok h1) (Q3 trivial))))) ?_
   rcases Qw h with ⟨c2,h⟩ |⟨c2,h⟩
   ·refine tt c2 <| Q0 <| Q2 <| Tv L 217 [] [] [] (S':=⟨[(0,.cv (.str p0)),(5,.I (IntKind.i64.wrap (xt5_7h+1)))],[]⟩) ?_
    exact ⟨k,Nat.lt_succ_self k,_,rfl,h⟩
   refine fN c2 <| ex (S':=⟨[(0,.cv (.str p0)),(5,.I xt5_7h)],[]⟩) ?_
   cases h
   exact ⟨rfl,_,rfl,rfl⟩
  refine rg L 206 [(4,false)] [] [] (Q3 (decide_eq_false c1)) ?_
  refine ff (b:=false) (rfl) ?_
  refine ex (S':=⟨[(0,.cv (.str p0)),(5,.I xt5_7h)],[]⟩) ?_
  cases h
  exact ⟨rfl,_,rfl,rfl⟩
 ·rintro e S ⟨rfl,xt5_7,rfl,rfl⟩
  refine ⟨_,Qu.refl,?_⟩
  obtain ⟨o2,hp2,h⟩:=Rf h
  refine Qv (Rk (Q':=fun e S=>(e=.normal∧S=⟨[(0,.cv (.str p0)),(5,.I xt5_7)],[]⟩∧Q9.go ()=o2)∨(e=.ret∧∃ a,Q9.done a=o2∧Q7 P V Tryz.f111 (.tup [.I a.1,.I a.2.1,.I a.2.2]) [] .ret S)) ?_ ?_)
  ·clear h
   replace h:=hp2
   refine Qv ?_
   rcases Qw h with ⟨c3,h⟩ |⟨c3,h⟩
   ·obtain ⟨g2,h⟩:=Q1 h
    rcases Qw h with ⟨c4,h⟩ |⟨c4,h⟩
    ·refine rg L 221 [(2,true),(7,true)] [] [] (Qz (decide_eq_true c3) (Qz (show (0:Int)≤0 from by decide) (Qz g2 (Q3 (decide_eq_true c4))))) ?_
     refine tt (b:=true) (rfl) ?_
     refine Q4 L 241 <| Qx ?_
     cases h
     exact .inr ⟨rfl,_,rfl,Rd⟩
    rcases Qw h with ⟨c5,h⟩ |⟨c5,h⟩
    ·obtain ⟨g3,h⟩:=Q1 h
     obtain ⟨a2,h2,h⟩:=bind_some h
     refine rg L 221 [(2,true),(7,false),(12,true)] [(16,.B a2)] [] (Qz (decide_eq_true c3) (Qz (show (0:Int)≤0 from by decide) (Qz g2 (Qz (decide_eq_false c4) (Qz (decide_eq_true c5) (Qz g3.1 (Qz g3.2 (Qz (Dg.ok h2) (Q3 trivial))))))))) ?_
     rcases Qw h with ⟨c6,h⟩ |⟨c6,h⟩
     ·refine tt c6 <| Q4 L 241 <| Qx ?_
      cases h
      exact .inr ⟨rfl,_,rfl,Rd⟩
     refine fN c6 <| sk (S':=⟨[(0,.cv (.str p0)),(5,.I xt5_7)],[]⟩) ?_
     cases h
     exact .inl ⟨rfl,rfl,rfl⟩
    refine rg L 221 [(2,true),(7,false),(12,false)] [] [] (Qz (decide_eq_true c3) (Qz (show (0:Int)≤0 from by decide) (Qz g2 (Qz (decide_eq_false c4) (Q3 (decide_eq_false c5)))))) ?_
    refine ff (b:=false) (rfl) ?_
    refine sk (S':=⟨[(0,.cv (.str p0)),(5,.I xt5_7)],[]⟩) ?_
    cases h
    exact .inl ⟨rfl,rfl,rfl⟩
   rcases Qw h with ⟨c7,h⟩ |⟨c7,h⟩
   ·obtain ⟨g4,h⟩:=Q1 h
    obtain ⟨a3,h3,h⟩:=bind_some h
    refine rg L 221 [(2,false),(12,true)] [(16,.B a3)] [] (Qz (decide_eq_false c3) (Qz (decide_eq_true c7) (Qz g4.1 (Qz g4.2 (Qz (Dg.ok h3) (Q3 trivial)))))) ?_
    rcases Qw h with ⟨c8,h⟩ |⟨c8,h⟩
    ·refine tt c8 <| Q4 L 241 <| Qx ?_
     cases h
     exact .inr ⟨rfl,_,rfl,Rd⟩
    refine fN c8 <| sk (S':=⟨[(0,.cv (.str p0)),(5,.I xt5_7)],[]⟩) ?_
    cases h
    exact .inl ⟨rfl,rfl,rfl⟩
   refine rg L 221 [(2,false),(12,false)] [] [] (Sj (decide_eq_false c3) (decide_eq_false c7)) ?_
   refine ff (b:=false) (rfl) ?_
   refine sk (S':=⟨[(0,.cv (.str p0)),(5,.I xt5_7)],[]⟩) ?_
   cases h
   exact .inl ⟨rfl,rfl,rfl⟩
  ·rintro e S (⟨rfl,rfl,rfl⟩ |⟨rfl,a,rfl,hr⟩)
   ·rcases h with ⟨_,e1,h⟩ |⟨_,e1,h⟩
    ·cases e1
    ·have e2:=Q9.go.inj e1
     subst e2
     refine Q4 L 245 <| Qv <| Q4 L 247 <| Q2 <| kp (S':=⟨[(0,.cv (.str p0)),(5,.I xt5_7),(6,.I 0),(7,.I 0)],[]⟩) ?_
     obtain ⟨o3,hp3,h⟩:=Rf h
     refine Ra (Q':=fun e S=>(e=.exit 2∧∃ xt6_30:Int,S=⟨[(5,.I xt5_7),(6,.I xt6_30)],[]⟩∧Q9.go xt6_30=o3)∨(e=.ret∧∃ a,Q9.done a=o3∧Q7 P V Tryz.f111 (.tup [.I a.1,.I a.2.1,.I a.2.2]) [] .ret S)) (Rh (fun k S=>∃ xt6_30h:Int,∃ xt7_30h:Int,S=⟨[(0,.cv (.str p0)),(5,.I xt5_7),(6,.I xt6_30h),(7,.I xt7_30h)],[]⟩∧Cu.l30 K p0 xt5_7 k xt6_30h xt7_30h=some o3) ?_ ⟨_,_,rfl,hp3⟩) ?_
     ·clear h hp3
      intro k S hS
      obtain ⟨xt6_30h,xt7_30h,rfl,h⟩:=hS
      cases k with
      | zero=>cases h
      | succ k =>
      unfold Cu.l30 at h
      refine Qv <| Q4 L 249 ?_
      rcases Qw h with ⟨c9,h⟩ |⟨c9,h⟩
      ·refine tT c9 <| Q0 <| Qv <| Q2 <| Qv ?_
       obtain ⟨g5,h⟩:=Q1 h
       refine rg L 253 [] [] [] (Sj g5.1 g5.2) ?_
       refine Qv <| sg L 260 [] [] [] (Q3 (show 10≠(0:Int) from by decide)) ?_
       rcases Qw h with ⟨c10,h⟩ |⟨c10,h⟩
       ·refine tT c10 <| Q4 L 266 <| Qx ?_
        cases h
        exact .inr ⟨rfl,_,rfl,Rd⟩
       refine fF c10 <| Q0 <| Ul L 270 ?_
       refine Tv L 276 [] [] [] (S':=⟨[(0,.cv (.str p0)),(5,.I xt5_7),(6,.I ((IntKind.i64.wrap ((IntKind.i64.wrap (10 * xt6_30h))+(IntKind.i64.wrap (IntKind.u8.wrap (((p0.getD (Int.toNat xt7_30h) 0).toNat:Int) - 48))))))),(7,.I (IntKind.i64.wrap (xt7_30h+1)))],[]⟩) ?_
       exact ⟨k,Nat.lt_succ_self k,_,_,rfl,h⟩
      refine fF c9 <| ex (S':=⟨[(5,.I xt5_7),(6,.I xt6_30h)],[]⟩) ?_
      cases h
      exact .inl ⟨rfl,_,rfl,rfl⟩
     ·rintro e S (⟨rfl,xt6_30,rfl,rfl⟩ |⟨rfl,a,rfl,hr⟩)
      ·rcases h with ⟨_,e1,h⟩ |⟨_,e1,h⟩
       ·cases e1
       ·have e2:=Q9.go.inj e1
        subst e2
        refine ⟨_,Qu.refl,?_⟩
        refine Q4 L 280 <| Qx ?_
        cases h
        exact Rd
      ·rcases h with ⟨_,e1,h⟩ |⟨_,e1,h⟩
       ·have e2:=Q9.done.inj e1
        subst e2
        subst h
        exact ⟨_,Qu.refl,hr⟩
       ·cases e1
   ·rcases h with ⟨_,e1,h⟩ |⟨_,e1,h⟩
    ·have e2:=Q9.done.inj e1
     subst e2
     subst h
     exact hr
    ·cases e1
theorem Cu.ok {K:Nat} {p0:List UInt8} {r:Int×Int×Int} (h:Cu K p0=some r):Rb V P 111 [.cv (.str p0)] (.tup [.I r.1,.I r.2.1,.I r.2.2]):=Q5.pcall (eo (fn:=Tryz.f111) (n:=61) (m:=100) fun Γ=>Cu.body h) (by kernel_rfl)
def Ep (K:Nat) (p0:Int):Option Int:=(Option.bind (Du K p0) (fun a1=>(if a1=true then some (IntKind.i64.wrap (IntKind.u8.wrap (p0 - 48))) else (if p0≥97 then (if p0≤102 then some (IntKind.i64.wrap ((IntKind.i64.wrap (IntKind.u8.wrap (p0 - 97)))+10)) else some (-1)) else some (-1)))))
theorem Ep.body {Γ:Rm} {K:Nat} {p0:Int} {r:Int} (h:Ep K p0=some r):Ri V P 18 100 Γ (Tryz.f128.body.getD .skip) (Q7 P V Tryz.f128 (.I r) []) ⟨Q6 0 [.cv (.lit (.int .u8 p0))],[]⟩:=by
 unfold Ep at h
 refine Q4 L 200 <| Qv <| Qv ?_
 obtain ⟨a1,h1,h⟩:=bind_some h
 refine rg L 202 [] [(1,.B a1)] [] (R6 (Du.ok h1)) ?_
 rcases Qw h with ⟨c1,h⟩ |⟨c1,h⟩
 ·refine tt c1 <| Q4 L 205 <| Qx ?_
  cases h
  exact Rd
 refine fN c1 <| Q0 <| Qv <| Qv ?_
 rcases Qw h with ⟨c2,h⟩ |⟨c2,h⟩
 ·refine rg L 210 [(2,true)] [] [] (Q3 (decide_eq_true c2)) ?_
  rcases Qw h with ⟨c3,h⟩ |⟨c3,h⟩
  ·refine tT c3 <| Q4 L 217 <| Qx ?_
   cases h
   exact Rd
  refine fF c3 <| Q0 <| Q4 L 223 <| Qx ?_
  cases h
  exact Rd
 refine rg L 210 [(2,false)] [] [] (Q3 (decide_eq_false c2)) ?_
 refine ff (b:=false) (rfl) ?_
 refine Q0 <| Q4 L 223 <| Qx ?_
 cases h
 exact Rd
theorem Ep.ok {K:Nat} {p0:Int} {r:Int} (h:Ep K p0=some r):Rb V P 128 [.cv (.lit (.int .u8 p0))] (.I r):=Q5.pcall (eo (fn:=Tryz.f128) (n:=18) (m:=100) fun Γ=>Ep.body h) (by kernel_rfl)
def B7.l95 (K:Nat) (p0:List UInt8) (xt6_9h:Int):Nat→Int→Int→Option (Q9 ((List UInt8)×Int×Int) Int)
 | 0,_,_=>none
 | k+1,xt8_95h,xt9_95h=>(if xt9_95h≤3 then (if (IntKind.i64.wrap (xt6_9h+xt9_95h))≥(p0.length:Int) then some (Q9.done (([]:List UInt8),0,4)) else (if (0:Int)≤(IntKind.i64.wrap (xt6_9h+xt9_95h))∧((IntKind.i64.wrap (xt6_9h+xt9_95h)):Int) <(p0.length:Int) then (Option.bind (Ep K ((p0.getD (Int.toNat (IntKind.i64.wrap (xt6_9h+xt9_95h))) 0).toNat:Int)) (fun a1=>(if a1 < 0 then some (Q9.done (([]:List UInt8),0,3)) else (Option.bind (Ep K ((p0.getD (Int.toNat (IntKind.i64.wrap (xt6_9h+xt9_95h))) 0).toNat:Int)) (fun a2=>B7.l95 K p0 xt6_9h k (IntKind.i64.wrap ((IntKind.i64.wrap (16 * xt8_95h))+a2)) (IntKind.i64.wrap (xt9_95h+1))))))) else none)) else some (Q9.go xt8_95h))
def B7.l9 (K:Nat) (p0:List UInt8):Nat→Int→(List UInt8)→Option (Q9 ((List UInt8)×Int×Int) Unit)
 | 0,_,_=>none
 | k+1,xt6_9h,x21900=>(if xt6_9h <(p0.length:Int) then (if (0:Int)≤xt6_9h∧(xt6_9h:Int) <(p0.length:Int) then (if ((p0.getD (Int.toNat xt6_9h) 0).toNat:Int)=34 then (if (x21900.length:Int) > 4096 then some (Q9.done (([]:List UInt8),0,6)) else some (Q9.done ((x21900.map (fun b=>b)),(IntKind.i64.wrap (xt6_9h+1)),0))) else (if ((p0.getD (Int.toNat xt6_9h) 0).toNat:Int) < 32 then some (Q9.done (([]:List UInt8),0,3)) else (if ((p0.getD (Int.toNat xt6_9h) 0).toNat:Int) > 126 then some (Q9.done (([]:List UInt8),0,3)) else (if ((p0.getD (Int.toNat xt6_9h) 0).toNat:Int)≠92 then (if 0≤((p0.getD (Int.toNat xt6_9h) 0).toNat:Int)∧((p0.getD (Int.toNat xt6_9h) 0).toNat:Int) < 256 then (if (x21900.length+(([(UInt8.ofNat (Int.toNat ((p0.getD (Int.toNat xt6_9h) 0).toNat:Int)))]:List UInt8)).length) * 1≤140737488355328 then B7.l9 K p0 k (IntKind.i64.wrap (xt6_9h+1)) ((x21900++([(UInt8.ofNat (Int.toNat ((p0.getD (Int.toNat xt6_9h) 0).toNat:Int)))]:List UInt8))) else none) else none) else (if (IntKind.i64.wrap (xt6_9h+1))≥(p0.length:Int) then some (Q9.done (([]:List UInt8),0,4)) else (if (0:Int)≤(IntKind.i64.wrap (xt6_9h+1))∧((IntKind.i64.wrap (xt6_9h+1)):Int) <(p0.length:Int) then (Option.bind (((if ((p0.getD (Int.toNat (IntKind.i64.wrap (xt6_9h+1))) 0).toNat:Int)=34 then some ((decide (((p0.getD (Int.toNat (IntKind.i64.wrap (xt6_9h+1))) 0).toNat:Int)=34))) else some ((decide (((p0.getD (Int.toNat (IntKind.i64.wrap (xt6_9h+1))) 0).toNat:Int)=92))))):Option Bool) (fun xt49_64=>(if xt49_64=true then (if 0≤((p0.getD (Int.toNat (IntKind.i64.wrap (xt6_9h+1))) 0).toNat:Int)∧((p0.getD (Int.toNat (IntKind.i64.wrap (xt6_9h+1))) 0).toNat:Int) < 256 then (if (x21900.length+(([(UInt8.ofNat (Int.toNat ((p0.getD (Int.toNat (IntKind.i64.wrap (xt6_9h+1))) 0).toNat:Int)))]:List UInt8)).length) * 1≤140737488355328 then B7.l9 K p0 k (IntKind.i64.wrap (xt6_9h+2)) ((x21900++([(UInt8.ofNat (Int.toNat ((p0.getD (Int.toNat (IntKind.i64.wrap (xt6_9h+1))) 0).toNat:Int)))]:List UInt8))) else none) else none) else (if ((p0.getD (Int.toNat (IntKind.i64.wrap (xt6_9h+1))) 0).toNat:Int)=110 then (if (x21900.length+([(UInt8.ofNat (Int.toNat 10))]:List UInt8).length) * 1≤140737488355328 then B7.l9 K p0 k (IntKind.i64.wrap (xt6_9h+2)) (x21900++([(UInt8.ofNat (Int.toNat 10))]:List UInt8)) else none) else (if ((p0.getD (Int.toNat (IntKind.i64.wrap (xt6_9h+1))) 0).toNat:Int)=116 then (if (x21900.length+([(UInt8.ofNat (Int.toNat 9))]:List UInt8).length) * 1≤140737488355328 then B7.l9 K p0 k (IntKind.i64.wrap (xt6_9h+2)) (x21900++([(UInt8.ofNat (Int.toNat 9))]:List UInt8)) else none) else (if ((p0.getD (Int.toNat (IntKind.i64.wrap (xt6_9h+1))) 0).toNat:Int)=120 then (obind (B7.l95 K p0 xt6_9h K 0 2:Option (Q9 ((List UInt8)×Int×Int) Int)) Q9.done (fun xt8_95=>(if 0≤(IntKind.u8.wrap xt8_95)∧(IntKind.u8.wrap xt8_95) < 256 then (if (x21900.length+([(UInt8.ofNat (Int.toNat (IntKind.u8.wrap xt8_95)))]:List UInt8).length) * 1≤140737488355328 then B7.l9 K p0 k (IntKind.i64.wrap (xt6_9h+4)) (x21900++([(UInt8.ofNat (Int.toNat (IntKind.u8.wrap xt8_95)))]:List UInt8)) else none) else none))) else some (Q9.done (([]:List UInt8),0,3)))))))) else none)))))) else none) else some (Q9.go ()))
def B7 (K:Nat) (p0:List UInt8):Option ((List UInt8)×Int×Int):=(obind (B7.l9 K p0 K 1 ([]:List UInt8):Option (Q9 ((List UInt8)×Int×Int) Unit)) (fun r=>r) (fun _=>some (([]:List UInt8),0,4)))
theorem B7.body {Γ:Rm} {K:Nat} {p0:List UInt8} {r:(List UInt8)×Int×Int} (h:B7 K p0=some r):Ri V P 110 100 Γ (Tryz.f112.body.getD .skip) (Q7 P V Tryz.f112 (.tup [.cv (.str r.1),.I r.2.1,.I r.2.2]) []) ⟨Q6 0 [.cv (.str p0)],[]⟩:=by
 unfold B7 at h
 refine Q4 L 200 <| Q4 L 204 <| Q4 L 206 <| Qv <| Q2 <| Qy (Qu.trans (Qu.kk [0,5,6] []) (Qu.trans (Qu.no 5 9500 Tag.Ds) (Qu.trans (Qu.kk [0,5,6] [9500]) (Qu.rr [(9500,21900)])))) ?_
 refine kp (S':=⟨[(0,.cv (.str p0)),(5,.cv (.own .Ds 21900)),(6,.I 1)],[(21900,.lst .Ds ([]:List UInt8))]⟩) ?_
 obtain ⟨o3,hp3,h⟩:=Rf h
 refine Ra (Q':=fun e S=>(e=.exit 0∧S=⟨[],[]⟩∧Q9.go ()=o3)∨(e=.ret∧∃ a,Q9.done a=o3∧Q7 P V Tryz.f112 (.tup [.cv (.str a.1),.I a.2.1,.I a.2.2]) [] .ret S)) (Rh (fun k S=>∃ xt6_9h:Int,∃ x21900:List UInt8,S=⟨[(0,.cv (.str p0)),(5,.cv (.own .Ds 21900)),(6,.I xt6_9h)],[(21900,.lst .Ds x21900)]⟩∧B7.l9 K p0 k xt6_9h x21900=some o3) ?_ ⟨_,_,rfl,hp3⟩) ?_
 ·clear h hp3
  intro k S hS
  obtain ⟨xt6_9h,x21900,rfl,h⟩:=hS
  cases k with
  | zero=>cases h
  | succ k =>
  unfold B7.l9 at h
  refine Qv <| Q4 L 208 ?_
  rcases Qw h with ⟨c1,h⟩ |⟨c1,h⟩
  ·refine tT c1 <| Q0 <| Q2 <| Qv ?_
   obtain ⟨g1,h⟩:=Q1 h
   refine rg L 213 [] [] [] (Sj g1.1 g1.2) ?_
   refine Qv <| Q4 L 218 ?_
   rcases Qw h with ⟨c2,h⟩ |⟨c2,h⟩
   ·refine tT c2 <| Qv <| Q4 L 221 ?_
    rcases Qw h with ⟨c3,h⟩ |⟨c3,h⟩
    ·refine tT c3 <| Q4 L 225 <| Qx ?_
     cases h
     exact .inr ⟨rfl,_,rfl,Rd⟩
    refine fF c3 <| Q0 <| Q4 L 229 <| Qx ?_
    cases h
    exact .inr ⟨rfl,_,rfl,Rd⟩
   refine fF c2 <| Q0 <| Qv <| Qv ?_
   rcases Qw h with ⟨c4,h⟩ |⟨c4,h⟩
   ·refine rg L 237 [(2,true)] [] [] (Q3 (decide_eq_true c4)) ?_
    refine tt (b:=true) (rfl) ?_
    refine Q4 L 244 <| Qx ?_
    cases h
    exact .inr ⟨rfl,_,rfl,Rd⟩
   refine rg L 237 [(2,false)] [] [] (Q3 (decide_eq_false c4)) ?_
   rcases Qw h with ⟨c5,h⟩ |⟨c5,h⟩
   ·refine tT c5 <| Q4 L 244 <| Qx ?_
    cases h
    exact .inr ⟨rfl,_,rfl,Rd⟩
   refine fF c5 <| Q0 <| Qv <| Q4 L 248 ?_
   rcases Qw h with ⟨c6,h⟩ |⟨c6,h⟩
   ·refine tT c6 <| Qv ?_
    obtain ⟨g2,h⟩:=Q1 h
    obtain ⟨g3,h⟩:=Q1 h
    refine rg L 251 [] [] [] (Qz g2.1 (Qz g2.2 (Qz g3 (Q3 trivial)))) ?_
    refine Q4 L 257 <| ex (S':=⟨[(0,.cv (.str p0)),(5,.cv (.own .Ds 21900)),(6,.I (IntKind.i64.wrap (xt6_9h+1)))],[(21900,.lst .Ds ((x21900++([(UInt8.ofNat (Int.toNat ((p0.getD (Int.toNat xt6_9h) 0).toNat:Int)))]:List UInt8))))]⟩) ?_
    exact ⟨k,Nat.lt_succ_self k,_,_,rfl,h⟩
   refine fF c6 <| Q0 <| Qv <| Q4 L 261 ?_
   rcases Qw h with ⟨c7,h⟩ |⟨c7,h⟩
   ·refine tT c7 <| Q4 L 267 <| Qx ?_
    cases h
    exact .inr ⟨rfl,_,rfl,Rd⟩
   refine fF c7 <| Q0 <| Qv ?_
   obtain ⟨g4,h⟩:=Q1 h
   refine rg L 271 [] [] [] (Sj g4.1 g4.2) ?_
   refine Q2 ?_
   obtain ⟨o1,hp1,h⟩:=bind_some h
   refine Qv (Rk (Q':=fun e S=>(e=.normal∧∃ xt49_64:Bool,S=⟨[(0,.cv (.str p0)),(5,.cv (.own .Ds 32800)),(6,.I xt6_9h),(48,.cv (.lit (.int .u8 ((p0.getD (Int.toNat (IntKind.i64.wrap (xt6_9h+1))) 0).toNat:Int)))),(49,.B xt49_64)],[(32800,.lst .Ds x21900)]⟩∧xt49_64=o1)) ?_ ?_)
   ·clear h
    replace h:=hp1
    refine Q4 L 276 ?_
    rcases Qw h with ⟨c8,h⟩ |⟨c8,h⟩
    ·refine tT c8 <| Qy (Qu.trans (Qu.kk [0,5,6,48,49] [21900]) (Qu.rr [(21900,32800)])) ?_
     refine sk (S':=⟨[(0,.cv (.str p0)),(5,.cv (.own .Ds 32800)),(6,.I xt6_9h),(48,.cv (.lit (.int .u8 ((p0.getD (Int.toNat (IntKind.i64.wrap (xt6_9h+1))) 0).toNat:Int)))),(49,.B ((decide (((p0.getD (Int.toNat (IntKind.i64.wrap (xt6_9h+1))) 0).toNat:Int)=34))))],[(32800,.lst .Ds x21900)]⟩) ?_
     cases h
     exact ⟨rfl,_,rfl,rfl⟩
    refine fF c8 <| Q8 (Ul L 279 ⟨rfl,rfl⟩) (Qu.trans (Qu.kk [0,5,6,48,49] [21900]) (Qu.trans (Qu.rr [(21900,32800)]) (Qu.kp (S':=⟨[(0,.cv (.str p0)),(5,.cv (.own .Ds 32800)),(6,.I xt6_9h),(48,.cv (.lit (.int .u8 ((p0.getD (Int.toNat (IntKind.i64.wrap (xt6_9h+1))) 0).toNat:Int)))),(49,.B ((decide (((p0.getD (Int.toNat (IntKind.i64.wrap (xt6_9h+1))) 0).toNat:Int)=92))))],[(32800,.lst .Ds x21900)]⟩)))) ?_
    cases h
    exact ⟨rfl,_,rfl,rfl⟩
   ·rintro e S ⟨rfl,xt49_64,rfl,rfl⟩
    rcases Qw h with ⟨c9,h⟩ |⟨c9,h⟩
    ·refine tt c9 <| Qv ?_
     obtain ⟨g5,h⟩:=Q1 h
     obtain ⟨g6,h⟩:=Q1 h
     refine rg L 282 [] [] [] (Qz g4.1 (Qz g4.2 (Qz g5.1 (Qz g5.2 (Qz g6 (Q3 trivial)))))) ?_
     refine Q8 (Ul L 291 ⟨rfl,rfl⟩) (Qu.trans (Qu.kk [0,5,6] [32800]) (Qu.trans (Qu.rr [(32800,21900)]) (Qu.kp (S':=⟨[(0,.cv (.str p0)),(5,.cv (.own .Ds 21900)),(6,.I (IntKind.i64.wrap (xt6_9h+2)))],[(21900,.lst .Ds ((x21900++([(UInt8.ofNat (Int.toNat ((p0.getD (Int.toNat (IntKind.i64.wrap (xt6_9h+1))) 0).toNat:Int)))]:List UInt8))))]⟩)))) ?_
     exact ⟨k,Nat.lt_succ_self k,_,_,rfl,h⟩
    refine fN c9 <| Q4 L 295 ?_
    rcases Qw h with ⟨c10,h⟩ |⟨c10,h⟩
    ·refine tT c10 <| Qv ?_
     obtain ⟨g7,h⟩:=Q1 h
     refine rg L 298 [] [] [] (Qz (show (0:Int)≤10 from by decide) (Qz (show (10:Int) < 256 from by decide) (Qz g7 (Q3 trivial)))) ?_
     refine Q8 (Ul L 303 ⟨rfl,rfl⟩) (Qu.trans (Qu.kk [0,5,6] [32800]) (Qu.trans (Qu.rr [(32800,21900)]) (Qu.kp (S':=⟨[(0,.cv (.str p0)),(5,.cv (.own .Ds 21900)),(6,.I (IntKind.i64.wrap (xt6_9h+2)))],[(21900,.lst .Ds (x21900++([(UInt8.ofNat (Int.toNat 10))]:List UInt8)))]⟩)))) ?_
     exact ⟨k,Nat.lt_succ_self k,_,_,rfl,h⟩
    refine fF c10 <| Q4 L 307 ?_
    rcases Qw h with ⟨c11,h⟩ |⟨c11,h⟩
    ·refine tT c11 <| Qv ?_
     obtain ⟨g8,h⟩:=Q1 h
     refine rg L 310 [] [] [] (Qz (show (0:Int)≤9 from by decide) (Qz (show (9:Int) < 256 from by decide) (Qz g8 (Q3 trivial)))) ?_
     refine Q8 (Ul L 315 ⟨rfl,rfl⟩) (Qu.trans (Qu.kk [0,5,6] [32800]) (Qu.trans (Qu.rr [(32800,21900)]) (Qu.kp (S':=⟨[(0,.cv (.str p0)),(5,.cv (.own .Ds 21900)),(6,.I (IntKind.i64.wrap (xt6_9h+2)))],[(21900,.lst .Ds (x21900++([(UInt8.ofNat (Int.toNat 9))]:List UInt8)))]⟩)))) ?_
     exact ⟨k,Nat.lt_succ_self k,_,_,rfl,h⟩
    refine fF c11 <| Q4 L 319 ?_
    rcases Qw h with ⟨c12,h⟩ |⟨c12,h⟩
    ·refine tT c12 <| Q4 L 322 <| Qv <| Q4 L 324 <| Q2 <| Qy (Qu.trans (Qu.kk [0,5,6,8,9] [32800]) (Qu.rr [(32800,39100)])) ?_
     refine kp (S':=⟨[(0,.cv (.str p0)),(5,.cv (.own .Ds 39100)),(6,.I xt6_9h),(8,.I 0),(9,.I 2)],[(39100,.lst .Ds x21900)]⟩) ?_
     obtain ⟨o2,hp2,h⟩:=Rf h
     refine Ra (Q':=fun e S=>(e=.exit 3∧∃ xt8_95:Int,S=⟨[(0,.cv (.str p0)),(5,.cv (.own .Ds 39000)),(6,.I xt6_9h),(8,.I xt8_95)],[(39000,.lst .Ds x21900)]⟩∧Q9.go xt8_95=o2)∨(e=.ret∧∃ a,Q9.done a=o2∧Q7 P V Tryz.f112 (.tup [.cv (.str a.1),.I a.2.1,.I a.2.2]) [] .ret S)) (Rh (fun k S=>∃ xt8_95h:Int,∃ xt9_95h:Int,S=⟨[(0,.cv (.str p0)),(5,.cv (.own .Ds 39100)),(6,.I xt6_9h),(8,.I xt8_95h),(9,.I xt9_95h)],[(39100,.lst .Ds x21900)]⟩∧B7.l95 K p0 xt6_9h k xt8_95h xt9_95h=some o2) ?_ ⟨_,_,rfl,hp2⟩) ?_
     ·clear h hp2
      intro k S hS
      obtain ⟨xt8_95h,xt9_95h,rfl,h⟩:=hS
      cases k with
      | zero=>cases h
      | succ k =>
      unfold B7.l95 at h
      refine Qv <| Q4 L 326 ?_
      rcases Qw h with ⟨c13,h⟩ |⟨c13,h⟩
      ·refine tT c13 <| Q0 <| Qv <| Q2 <| Qv <| Q4 L 329 ?_
       rcases Qw h with ⟨c14,h⟩ |⟨c14,h⟩
       ·refine tT c14 <| Q4 L 336 <| Qx ?_
        cases h
        exact .inr ⟨rfl,_,rfl,Rd⟩
       refine fF c14 <| Q0 <| Qv <| Qv ?_
       obtain ⟨g9,h⟩:=Q1 h
       obtain ⟨a1,h1,h⟩:=bind_some h
       refine rg L 340 [] [(5,.I a1)] [] (Qz g9.1 (Qz g9.2 (Qz (Ep.ok h1) (Q3 trivial)))) ?_
       rcases Qw h with ⟨c15,h⟩ |⟨c15,h⟩
       ·refine tT c15 <| Q4 L 348 <| Qx ?_
        cases h
        exact .inr ⟨rfl,_,rfl,Rd⟩
       refine fF c15 <| Q0 ?_
       obtain ⟨a2,h2,h⟩:=bind_some h
       refine rg L 352 [] [(7,.I a2)] [] (Qz g9.1 (Qz g9.2 (Qz (Ep.ok h2) (Q3 trivial)))) ?_
       refine Tv L 363 [] [] [] (S':=⟨[(0,.cv (.str p0)),(5,.cv (.own .Ds 39100)),(6,.I xt6_9h),(8,.I (IntKind.i64.wrap ((IntKind.i64.wrap (16 * xt8_95h))+a2))),(9,.I (IntKind.i64.wrap (xt9_95h+1)))],[(39100,.lst .Ds x21900)]⟩) ?_
       exact ⟨k,Nat.lt_succ_self k,_,_,rfl,h⟩
      refine fF c13 <| Qy (Qu.trans (Qu.kk [0,5,6,8] [39100]) (Qu.rr [(39100,39000)])) ?_
      refine ex (S':=⟨[(0,.cv (.str p0)),(5,.cv (.own .Ds 39000)),(6,.I xt6_9h),(8,.I xt8_95h)],[(39000,.lst .Ds x21900)]⟩) ?_
      cases h
      exact .inl ⟨rfl,_,rfl,rfl⟩
     ·rintro e S (⟨rfl,xt8_95,rfl,rfl⟩ |⟨rfl,a,rfl,hr⟩)
      ·rcases h with ⟨_,e1,h⟩ |⟨_,e1,h⟩
       ·cases e1
       ·have e2:=Q9.go.inj e1
        subst e2
        refine ⟨_,Qu.refl,?_⟩
        refine Qv ?_
        obtain ⟨g10,h⟩:=Q1 h
        obtain ⟨g11,h⟩:=Q1 h
        refine rg L 367 [] [] [] (Qz g10.1 (Qz g10.2 (Qz g11 (Q3 trivial)))) ?_
        refine Q8 (Ul L 374 ⟨rfl,rfl⟩) (Qu.trans (Qu.kk [0,5,6] [39000]) (Qu.trans (Qu.rr [(39000,21900)]) (Qu.kp (S':=⟨[(0,.cv (.str p0)),(5,.cv (.own .Ds 21900)),(6,.I (IntKind.i64.wrap (xt6_9h+4)))],[(21900,.lst .Ds (x21900++([(UInt8.ofNat (Int.toNat (IntKind.u8.wrap xt8_95)))]:List UInt8)))]⟩)))) ?_
        exact ⟨k,Nat.lt_succ_self k,_,_,rfl,h⟩
      ·rcases h with ⟨_,e1,h⟩ |⟨_,e1,h⟩
       ·have e2:=Q9.done.inj e1
        subst e2
        subst h
        exact ⟨_,Qu.refl,.inr ⟨rfl,_,rfl,hr⟩⟩
       ·cases e1
    refine fF c12 <| Q4 L 378 <| Qx ?_
    cases h
    exact .inr ⟨rfl,_,rfl,Rd⟩
  refine fF c1 <| ex (S':=⟨[],[]⟩) ?_
  cases h
  exact .inl ⟨rfl,rfl,rfl⟩
 ·rintro e S (⟨rfl,rfl,rfl⟩ |⟨rfl,a,rfl,hr⟩)
  ·rcases h with ⟨_,e1,h⟩ |⟨_,e1,h⟩
   ·cases e1
   ·have e2:=Q9.go.inj e1
    subst e2
    refine ⟨_,Qu.refl,?_⟩
    refine Q4 L 382 <| Qx ?_
    cases h
    exact Rd
  ·rcases h with ⟨_,e1,h⟩ |⟨_,e1,h⟩
   ·have e2:=Q9.done.inj e1
    subst e2
    subst h
    exact ⟨_,Qu.refl,hr⟩
   ·cases e1
theorem B7.ok {K:Nat} {p0:List UInt8} {r:(List UInt8)×Int×Int} (h:B7 K p0=some r):Rb V P 112 [.cv (.str p0)] (.tup [.cv (.str r.1),.I r.2.1,.I r.2.2]):=Q5.pcall (eo (fn:=Tryz.f112) (n:=110) (m:=100) fun Γ=>B7.body h) (by kernel_rfl)
def Ey (K:Nat):Option (List (List UInt8)):=some ([([61,61]:List UInt8),([33,61]:List UInt8),([60,61]:List UInt8),([62,61]:List UInt8),([40]:List UInt8),([41]:List UInt8),([123]:List UInt8),([125]:List UInt8),([91]:List UInt8),([93]:List UInt8),([44]:List UInt8),([59]:List UInt8),([46]:List UInt8),([58]:List UInt8),([61]:List UInt8),([60]:List UInt8),([62]:List UInt8),([43]:List UInt8),([45]:List UInt8),([42]:List UInt8),([47]:List UInt8),([37]:List UInt8)]:List (List UInt8))
theorem Ey.body {Γ:Rm} {K:Nat} {r:List (List UInt8)} (h:Ey K=some r):Ri V P 2 100 Γ (Tryz.f113.body.getD .skip) (Q7 P V Tryz.f113 (.cv (.ro .C8 r)) []) ⟨Q6 0 [],[]⟩:=by
 unfold Ey at h
 refine Q4 L 200 <| Q4 L 202 <| Qx ?_
 cases h
 exact Rd
theorem Ey.ok {K:Nat} {r:List (List UInt8)} (h:Ey K=some r):Rb V P 113 [] (.cv (.ro .C8 r)):=Q5.pcall (eo (fn:=Tryz.f113) (n:=2) (m:=100) fun Γ=>Ey.body h) (by kernel_rfl)
def Cy.l13 (K:Nat) (p0:List UInt8):Nat→Int→Option Int
 | 0,_=>none
 | k+1,xt6_13h=>(if xt6_13h <(p0.length:Int) then (if (0:Int)≤xt6_13h∧(xt6_13h:Int) <(p0.length:Int) then (Option.bind (Dg K ((p0.getD (Int.toNat xt6_13h) 0).toNat:Int)) (fun a2=>(if a2=true then Cy.l13 K p0 k (IntKind.i64.wrap (xt6_13h+1)) else (Option.bind (Du K ((p0.getD (Int.toNat xt6_13h) 0).toNat:Int)) (fun a3=>(if a3=true then Cy.l13 K p0 k (IntKind.i64.wrap (xt6_13h+1)) else some xt6_13h)))))) else none) else some xt6_13h)
def Cy.l82 (K:Nat) (p0:List UInt8) (a8:List (List UInt8)):Nat→Int→Option (Q9 (Al×Int×Int) Unit)
 | 0,_=>none
 | k+1,xt83_82h=>(if xt83_82h <(a8.length:Int) then (if (0:Int)≤xt83_82h∧(xt83_82h:Int) <(a8.length:Int) then (if ((a8.getD (Int.toNat xt83_82h) ([]:List UInt8)).length:Int)≤(p0.length:Int) then (if (0:Int)≤((a8.getD (Int.toNat xt83_82h) ([]:List UInt8)).length:Int)∧((a8.getD (Int.toNat xt83_82h) ([]:List UInt8)).length:Int)≤(p0.length:Int) then (if (Vj p0 0 ((a8.getD (Int.toNat xt83_82h) ([]:List UInt8)).length:Int))=(a8.getD (Int.toNat xt83_82h) ([]:List UInt8)) then some (Q9.done ((⟨5,0,(a8.getD (Int.toNat xt83_82h) ([]:List UInt8)),0⟩:Al),((a8.getD (Int.toNat xt83_82h) ([]:List UInt8)).length:Int),0)) else Cy.l82 K p0 a8 k (IntKind.i64.wrap (xt83_82h+1))) else none) else Cy.l82 K p0 a8 k (IntKind.i64.wrap (xt83_82h+1))) else none) else some (Q9.go ()))
def Cy (K:Nat) (p0:List UInt8):Option (Al×Int×Int):=(if (0:Int) <(p0.length:Int) then (Option.bind (Dg K ((p0.getD (Int.toNat 0) 0).toNat:Int)) (fun a1=>(if a1=true then (Option.bind (Cy.l13 K p0 K 0:Option Int) (fun xt6_13=>(if xt6_13 > 64 then some ((⟨0,0,[],0⟩:Al),0,8) else (if (0:Int)≤xt6_13∧xt6_13≤(p0.length:Int) then (Option.bind (Da K (Vj p0 0 xt6_13)) (fun a4=>(if a4=true then some ((⟨2,0,(Vj p0 0 xt6_13),0⟩:Al),xt6_13,0) else some ((⟨1,0,(Vj p0 0 xt6_13),0⟩:Al),xt6_13,0)))) else none)))) else (Option.bind (Du K ((p0.getD (Int.toNat 0) 0).toNat:Int)) (fun a5=>(if a5=true then (Option.bind (Cu K p0) (fun (a6_0,a6_1,a6_2)=>(if a6_2≠0 then some ((⟨0,0,[],0⟩:Al),0,a6_2) else some ((⟨3,0,[],a6_0⟩:Al),a6_1,0)))) else (if ((p0.getD (Int.toNat 0) 0).toNat:Int)=34 then (Option.bind (B7 K p0) (fun (a7_0,a7_1,a7_2)=>(if a7_2≠0 then some ((⟨0,0,[],0⟩:Al),0,a7_2) else some ((⟨4,0,a7_0,0⟩:Al),a7_1,0)))) else (Option.bind (Ey K) (fun a8=>(obind (Cy.l82 K p0 a8 K 0:Option (Q9 (Al×Int×Int) Unit)) (fun r=>r) (fun _=>some ((⟨0,0,[],0⟩:Al),0,3)))))))))))) else none)
theorem Cy.body {Γ:Rm} {K:Nat} {p0:List UInt8} {r:Al×Int×Int} (h:Cy K p0=some r):Ri V P 106 100 Γ (Tryz.f79.body.getD .skip) (Q7 P V Tryz.f79 (.tup [.agg [.I r.1.Kind,.I r.1.At,.str r.1.Text,.I r.1.Int],.I r.2.1,.I r.2.2]) []) ⟨Q6 0 [.cv (.str p0)],[]⟩:=by
 unfold Cy at h
 refine Q4 L 200 <| Qv ?_
 obtain ⟨g1,h⟩:=Q1 h
 refine rg L 204 [] [] [] (Sj (show (0:Int)≤0 from by decide) g1) ?_
 refine Qv <| Qv ?_
 obtain ⟨a1,h1,h⟩:=bind_some h
 refine rg L 208 [] [(1,.B a1)] [] (R6 (Dg.ok h1)) ?_
 rcases Qw h with ⟨c1,h⟩ |⟨c1,h⟩
 ·refine tt c1 <| Q4 L 211 <| Qv <| Q2 <| Qy (Qu.trans (Qu.kk [0,2,6] [200]) (Qu.rr [(200,22700)])) ?_
  refine kp (S':=⟨[(0,.cv (.str p0)),(2,.P 22700),(6,.I 0)],[(22700,.raw [.I 0,.I 0,.str [],.I 0])]⟩) ?_
  obtain ⟨o1,hp1,h⟩:=bind_some h
  refine Ra (Q':=fun e S=>(e=.exit 0∧∃ xt6_13:Int,S=⟨[(0,.cv (.str p0)),(2,.P 22600),(6,.I xt6_13)],[(22600,.raw [.I 0,.I 0,.str [],.I 0])]⟩∧xt6_13=o1)) (Rh (fun k S=>∃ xt6_13h:Int,S=⟨[(0,.cv (.str p0)),(2,.P 22700),(6,.I xt6_13h)],[(22700,.raw [.I 0,.I 0,.str [],.I 0])]⟩∧Cy.l13 K p0 k xt6_13h=some o1) ?_ ⟨_,rfl,hp1⟩) ?_
  ·clear h hp1
   intro k S hS
   obtain ⟨xt6_13h,rfl,h⟩:=hS
   cases k with
   | zero=>cases h
   | succ k =>
   unfold Cy.l13 at h
   refine Qv <| Qv ?_
   rcases Qw h with ⟨c2,h⟩ |⟨c2,h⟩
   ·obtain ⟨g2,h⟩:=Q1 h
    obtain ⟨a2,h2,h⟩:=bind_some h
    rcases Qw h with ⟨c3,h⟩ |⟨c3,h⟩
    ·refine rg L 213 [(4,true),(9,true)] [(8,.B a2)] [] (Qz (decide_eq_true c2) (Qz g2.1 (Qz g2.2 (Qz (Dg.ok h2) (Qz trivial (Q3 c3)))))) ?_
     refine tt (b:=true) (rfl) ?_
     refine Q0 <| Q2 <| Tv L 230 [] [] [] (S':=⟨[(0,.cv (.str p0)),(2,.P 22700),(6,.I (IntKind.i64.wrap (xt6_13h+1)))],[(22700,.raw [.I 0,.I 0,.str [],.I 0])]⟩) ?_
     exact ⟨k,Nat.lt_succ_self k,_,rfl,h⟩
    obtain ⟨a3,h3,h⟩:=bind_some h
    refine rg L 213 [(4,true),(9,false)] [(8,.B a2),(13,.B a3)] [] (Qz (decide_eq_true c2) (Qz g2.1 (Qz g2.2 (Qz (Dg.ok h2) (Qz trivial (Qz (eq_false_of_ne_true c3) (Qz g2.1 (Qz g2.2 (Qz (Du.ok h3) (Q3 trivial)))))))))) ?_
    rcases Qw h with ⟨c4,h⟩ |⟨c4,h⟩
    ·refine tt c4 <| Q0 <| Q2 <| Tv L 230 [] [] [] (S':=⟨[(0,.cv (.str p0)),(2,.P 22700),(6,.I (IntKind.i64.wrap (xt6_13h+1)))],[(22700,.raw [.I 0,.I 0,.str [],.I 0])]⟩) ?_
     exact ⟨k,Nat.lt_succ_self k,_,rfl,h⟩
    refine fN c4 <| Qy (Qu.trans (Qu.kk [0,2,6] [22700]) (Qu.rr [(22700,22600)])) ?_
    refine ex (S':=⟨[(0,.cv (.str p0)),(2,.P 22600),(6,.I xt6_13h)],[(22600,.raw [.I 0,.I 0,.str [],.I 0])]⟩) ?_
    cases h
    exact ⟨rfl,_,rfl,rfl⟩
   refine rg L 213 [(4,false)] [] [] (Q3 (decide_eq_false c2)) ?_
   refine ff (b:=false) (rfl) ?_
   refine Qy (Qu.trans (Qu.kk [0,2,6] [22700]) (Qu.rr [(22700,22600)])) ?_
   refine ex (S':=⟨[(0,.cv (.str p0)),(2,.P 22600),(6,.I xt6_13h)],[(22600,.raw [.I 0,.I 0,.str [],.I 0])]⟩) ?_
   cases h
   exact ⟨rfl,_,rfl,rfl⟩
  ·rintro e S ⟨rfl,xt6_13,rfl,rfl⟩
   refine ⟨_,Qu.refl,?_⟩
   refine Qv <| Q4 L 234 ?_
   rcases Qw h with ⟨c5,h⟩ |⟨c5,h⟩
   ·refine tT c5 <| Q4 L 237 <| Qy (Qu.trans (Qu.kk [2,3,4] [22600]) (Qu.rr [(22600,100)])) ?_
    refine Qx ?_
    cases h
    exact Rd
   refine fF c5 <| Q0 <| Qv ?_
   obtain ⟨g3,h⟩:=Q1 h
   refine rg L 242 [] [] [] (Qz (show (0:Int)≤0 from Int.le_refl _) (Qz g3.1 (Q3 g3.2))) ?_
   refine Qv <| Qv ?_
   obtain ⟨a4,h4,h⟩:=bind_some h
   refine rg L 249 [] [(2,.B a4)] [] (R6 (Da.ok h4)) ?_
   rcases Qw h with ⟨c6,h⟩ |⟨c6,h⟩
   ·refine tt c6 <| Ul L 253 ?_
    refine Q4 L 256 <| Qy (Qu.trans (Qu.kk [2,3,4] [22600]) (Qu.rr [(22600,100)])) ?_
    refine Qx ?_
    cases h
    exact Rd
   refine fN c6 <| Q0 <| Q4 L 256 <| Qy (Qu.trans (Qu.kk [2,3,4] [22600]) (Qu.rr [(22600,100)])) ?_
   refine Qx ?_
   cases h
   exact Rd
 refine fN c1 <| Q0 <| Qv <| Qv ?_
 obtain ⟨a5,h5,h⟩:=bind_some h
 refine rg L 262 [] [(1,.B a5)] [] (R6 (Du.ok h5)) ?_
 rcases Qw h with ⟨c7,h⟩ |⟨c7,h⟩
 ·refine tt c7 <| Qv ?_
  obtain ⟨⟨a6_0,a6_1,a6_2⟩,h6,h⟩:=bind_some h
  dsimp only at h
  refine rg L 265 [] [(1,.tup [.I a6_0,.I a6_1,.I a6_2])] [] (R6 (Cu.ok h6)) ?_
  refine Qv <| Q4 L 275 ?_
  rcases Qw h with ⟨c8,h⟩ |⟨c8,h⟩
  ·refine tT c8 <| Q4 L 278 <| Qy (Qu.trans (Qu.kk [2,3,4] [200]) (Qu.rr [(200,100)])) ?_
   refine Qx ?_
   cases h
   exact Rd
  refine fF c8 <| Q0 <| Q4 L 284 <| Qy (Qu.trans (Qu.kk [2,3,4] [200]) (Qu.rr [(200,100)])) ?_
  refine Qx ?_
  cases h
  exact Rd
 refine fN c7 <| Q0 <| Qv <| Q4 L 291 ?_
 rcases Qw h with ⟨c9,h⟩ |⟨c9,h⟩
 ·refine tT c9 <| Qv ?_
  obtain ⟨⟨a7_0,a7_1,a7_2⟩,h7,h⟩:=bind_some h
  dsimp only at h
  refine rg L 294 [] [(1,.tup [.cv (.str a7_0),.I a7_1,.I a7_2])] [] (R6 (B7.ok h7)) ?_
  refine Qv <| Q4 L 304 ?_
  rcases Qw h with ⟨c10,h⟩ |⟨c10,h⟩
  ·refine tT c10 <| Q4 L 307 <| Qy (Qu.trans (Qu.kk [2,3,4] [200]) (Qu.rr [(200,100)])) ?_
   refine Qx ?_
   cases h
   exact Rd
  refine fF c10 <| Q0 <| Q4 L 313 <| Qy (Qu.trans (Qu.kk [2,3,4] [200]) (Qu.rr [(200,100)])) ?_
  refine Qx ?_
  cases h
  exact Rd
 refine fF c9 <| Q0 <| Qv <| Qv ?_
 obtain ⟨a8,h8,h⟩:=bind_some h
 refine rg L 320 [] [(0,.cv (.ro .C8 a8))] [] (R6 (Ey.ok h8)) ?_
 refine Q2 <| Qy (Qu.trans (Qu.kk [0,2,81,82,83] [200]) (Qu.rr [(200,36500)])) ?_
 refine kp (S':=⟨[(0,.cv (.str p0)),(2,.P 36500),(81,.cv (.ro .C8 a8)),(82,.I (a8.length:Int)),(83,.I 0)],[(36500,.raw [.I 0,.I 0,.str [],.I 0])]⟩) ?_
 obtain ⟨o2,hp2,h⟩:=Rf h
 refine Ra (Q':=fun e S=>(e=.exit 2∧S=⟨[(2,.P 36400)],[(36400,.raw [.I 0,.I 0,.str [],.I 0])]⟩∧Q9.go ()=o2)∨(e=.ret∧∃ a,Q9.done a=o2∧Q7 P V Tryz.f79 (.tup [.agg [.I a.1.Kind,.I a.1.At,.str a.1.Text,.I a.1.Int],.I a.2.1,.I a.2.2]) [] .ret S)) (Rh (fun k S=>∃ xt83_82h:Int,S=⟨[(0,.cv (.str p0)),(2,.P 36500),(81,.cv (.ro .C8 a8)),(82,.I (a8.length:Int)),(83,.I xt83_82h)],[(36500,.raw [.I 0,.I 0,.str [],.I 0])]⟩∧Cy.l82 K p0 a8 k xt83_82h=some o2) ?_ ⟨_,rfl,hp2⟩) ?_
 ·clear h hp2
  intro k S hS
  obtain ⟨xt83_82h,rfl,h⟩:=hS
  cases k with
  | zero=>cases h
  | succ k =>
  unfold Cy.l82 at h
  refine Q4 L 324 <| Qv ?_
  rcases Qw h with ⟨c11,h⟩ |⟨c11,h⟩
  ·refine tT c11 <| Q0 <| Qv <| Q2 <| Qv ?_
   obtain ⟨g4,h⟩:=Q1 h
   refine rg L 326 [] [] [] (Sj g4.1 g4.2) ?_
   refine Qv ?_
   rcases Qw h with ⟨c12,h⟩ |⟨c12,h⟩
   ·obtain ⟨g5,h⟩:=Q1 h
    refine rg L 330 [(5,true)] [] [] (Qz (decide_eq_true c12) (Qz (show (0:Int)≤0 from Int.le_refl _) (Qz g5.1 (Q3 g5.2)))) ?_
    rcases Qw h with ⟨c13,h⟩ |⟨c13,h⟩
    ·refine tT c13 <| Q4 L 344 <| Qy (Qu.trans (Qu.kk [2,3,4] [36500]) (Qu.rr [(36500,100)])) ?_
     refine Qx ?_
     cases h
     exact .inr ⟨rfl,_,rfl,Rd⟩
    refine fF c13 <| Q0 <| Tv L 352 [] [] [] (S':=⟨[(0,.cv (.str p0)),(2,.P 36500),(81,.cv (.ro .C8 a8)),(82,.I (a8.length:Int)),(83,.I (IntKind.i64.wrap (xt83_82h+1)))],[(36500,.raw [.I 0,.I 0,.str [],.I 0])]⟩) ?_
    exact ⟨k,Nat.lt_succ_self k,_,rfl,h⟩
   refine rg L 330 [(5,false)] [] [] (Q3 (decide_eq_false c12)) ?_
   refine ff (b:=false) (rfl) ?_
   refine Q0 <| Tv L 352 [] [] [] (S':=⟨[(0,.cv (.str p0)),(2,.P 36500),(81,.cv (.ro .C8 a8)),(82,.I (a8.length:Int)),(83,.I (IntKind.i64.wrap (xt83_82h+1)))],[(36500,.raw [.I 0,.I 0,.str [],.I 0])]⟩) ?_
   exact ⟨k,Nat.lt_succ_self k,_,rfl,h⟩
  refine fF c11 <| Qy (Qu.trans (Qu.kk [2] [36500]) (Qu.rr [(36500,36400)])) ?_
  refine ex (S':=⟨[(2,.P 36400)],[(36400,.raw [.I 0,.I 0,.str [],.I 0])]⟩) ?_
  cases h
  exact .inl ⟨rfl,rfl,rfl⟩
 ·rintro e S (⟨rfl,rfl,rfl⟩ |⟨rfl,a,rfl,hr⟩)
  ·rcases h with ⟨_,e1,h⟩ |⟨_,e1,h⟩
   ·cases e1
   ·have e2:=Q9.go.inj e1
    subst e2
    refine ⟨_,Qu.refl,?_⟩
    refine Q4 L 355 <| Qy (Qu.trans (Qu.kk [2,3,4] [36400]) (Qu.rr [(36400,100)])) ?_
    refine Qx ?_
    cases h
    exact Rd
  ·rcases h with ⟨_,e1,h⟩ |⟨_,e1,h⟩
   ·have e2:=Q9.done.inj e1
    subst e2
    subst h
    exact ⟨_,Qu.refl,hr⟩
   ·cases e1
theorem Cy.ok {K:Nat} {p0:List UInt8} {r:Al×Int×Int} (h:Cy K p0=some r):Rb V P 79 [.cv (.str p0)] (.tup [.agg [.I r.1.Kind,.I r.1.At,.str r.1.Text,.I r.1.Int],.I r.2.1,.I r.2.2]):=Q5.pcall (eo (fn:=Tryz.f79) (n:=106) (m:=100) fun Γ=>Cy.body h) (by kernel_rfl)
def Cz.l17 (K:Nat) (p0:List UInt8):Nat→Int→(List Al)→Option (Q9 ((List Al)×Int×Int) (List Al))
 | 0,_,_=>none
 | k+1,xt6_17h,x23500=>(if xt6_17h <(p0.length:Int) then (if (0:Int)≤xt6_17h∧(xt6_17h:Int) <(p0.length:Int) then (if ((p0.getD (Int.toNat xt6_17h) 0).toNat:Int)=32 then Cz.l17 K p0 k (IntKind.i64.wrap (xt6_17h+1)) x23500 else (if ((p0.getD (Int.toNat xt6_17h) 0).toNat:Int)=9 then Cz.l17 K p0 k (IntKind.i64.wrap (xt6_17h+1)) x23500 else (if ((p0.getD (Int.toNat xt6_17h) 0).toNat:Int)=10 then Cz.l17 K p0 k (IntKind.i64.wrap (xt6_17h+1)) x23500 else (if xt6_17h≤(p0.length:Int) then (Option.bind (Cy K (Vj p0 xt6_17h (p0.length:Int))) (fun (a1_0,a1_1,a1_2)=>(if a1_2≠0 then some (Q9.done (([]:List Al),xt6_17h,a1_2)) else (if (x23500.length+([(⟨a1_0.Kind,xt6_17h,a1_0.Text,a1_0.Int⟩:Al)]:List Al).length) * 40≤140737488355328 then Cz.l17 K p0 k (IntKind.i64.wrap (xt6_17h+a1_1)) (x23500++([(⟨a1_0.Kind,xt6_17h,a1_0.Text,a1_0.Int⟩:Al)]:List Al)) else none)))) else none)))) else none) else some (Q9.go x23500))
def Cz (K:Nat) (p0:List UInt8):Option ((List Al)×Int×Int):=(if (p0.length:Int) > 16384 then some (([]:List Al),0,6) else (obind (Cz.l17 K p0 K 0 ([]:List Al):Option (Q9 ((List Al)×Int×Int) (List Al))) (fun r=>r) (fun x23400=>(if (x23400.length+([(⟨0,(p0.length:Int),[],0⟩:Al)]:List Al).length) * 40≤140737488355328 then some ((x23400++([(⟨0,(p0.length:Int),[],0⟩:Al)]:List Al)),0,0) else none))))
theorem Cz.body {Γ:Rm} {K:Nat} {p0:List UInt8} {r:(List Al)×Int×Int} (h:Cz K p0=some r):Ri V P 63 100 Γ (Tryz.f52.body.getD .skip) (Q7 P V Tryz.f52 (.tup [.cv (.ro .Ak r.1),.I r.2.1,.I r.2.2]) []) ⟨Q6 0 [.cv (.str p0)],[]⟩:=by
 unfold Cz at h
 refine Q4 L 200 <| Qv <| Q4 L 204 ?_
 rcases Qw h with ⟨c1,h⟩ |⟨c1,h⟩
 ·refine tT c1 <| Q4 L 208 <| Qx ?_
  cases h
  exact Rd
 refine fF c1 <| Q0 <| Q4 L 212 <| Q4 L 214 <| Qv <| Q2 <| Qy (Qu.trans (Qu.kk [0,5,6] []) (Qu.trans (Qu.no 5 9500 Tag.Ak) (Qu.trans (Qu.kk [0,5,6] [9500]) (Qu.rr [(9500,23500)])))) ?_
 refine kp (S':=⟨[(0,.cv (.str p0)),(5,.cv (.own .Ak 23500)),(6,.I 0)],[(23500,.lst .Ak ([]:List Al))]⟩) ?_
 obtain ⟨o1,hp1,h⟩:=Rf h
 refine Ra (Q':=fun e S=>(e=.exit 0∧∃ x23400:List Al,S=⟨[(0,.cv (.str p0)),(5,.cv (.own .Ak 23400))],[(23400,.lst .Ak x23400)]⟩∧Q9.go x23400=o1)∨(e=.ret∧∃ a,Q9.done a=o1∧Q7 P V Tryz.f52 (.tup [.cv (.ro .Ak a.1),.I a.2.1,.I a.2.2]) [] .ret S)) (Rh (fun k S=>∃ xt6_17h:Int,∃ x23500:List Al,S=⟨[(0,.cv (.str p0)),(5,.cv (.own .Ak 23500)),(6,.I xt6_17h)],[(23500,.lst .Ak x23500)]⟩∧Cz.l17 K p0 k xt6_17h x23500=some o1) ?_ ⟨_,_,rfl,hp1⟩) ?_
 ·clear h hp1
  intro k S hS
  obtain ⟨xt6_17h,x23500,rfl,h⟩:=hS
  cases k with
  | zero=>cases h
  | succ k =>
  unfold Cz.l17 at h
  refine Qv <| Q4 L 216 ?_
  rcases Qw h with ⟨c2,h⟩ |⟨c2,h⟩
  ·refine tT c2 <| Q0 <| Q2 <| Qv <| Qv ?_
   obtain ⟨g1,h⟩:=Q1 h
   rcases Qw h with ⟨c3,h⟩ |⟨c3,h⟩
   ·refine rg L 221 [(4,true)] [] [] (Qz g1.1 (Qz g1.2 (Q3 (decide_eq_true c3)))) ?_
    refine tt (b:=true) (rfl) ?_
    refine Q4 L 238 <| ex (S':=⟨[(0,.cv (.str p0)),(5,.cv (.own .Ak 23500)),(6,.I (IntKind.i64.wrap (xt6_17h+1)))],[(23500,.lst .Ak x23500)]⟩) ?_
    exact ⟨k,Nat.lt_succ_self k,_,_,rfl,h⟩
   rcases Qw h with ⟨c4,h⟩ |⟨c4,h⟩
   ·refine rg L 221 [(4,false),(10,true)] [] [] (Qz g1.1 (Qz g1.2 (Qz (decide_eq_false c3) (Qz g1.1 (Qz g1.2 (Q3 (decide_eq_true c4))))))) ?_
    refine tt (b:=true) (rfl) ?_
    refine Q4 L 238 <| ex (S':=⟨[(0,.cv (.str p0)),(5,.cv (.own .Ak 23500)),(6,.I (IntKind.i64.wrap (xt6_17h+1)))],[(23500,.lst .Ak x23500)]⟩) ?_
    exact ⟨k,Nat.lt_succ_self k,_,_,rfl,h⟩
   refine rg L 221 [(4,false),(10,false)] [] [] (Qz g1.1 (Qz g1.2 (Qz (decide_eq_false c3) (Qz g1.1 (Qz g1.2 (Qz (decide_eq_false c4) (Qz g1.1 (Q3 g1.2)))))))) ?_
   rcases Qw h with ⟨c5,h⟩ |⟨c5,h⟩
   ·refine tT c5 <| Q4 L 238 <| ex (S':=⟨[(0,.cv (.str p0)),(5,.cv (.own .Ak 23500)),(6,.I (IntKind.i64.wrap (xt6_17h+1)))],[(23500,.lst .Ak x23500)]⟩) ?_
    exact ⟨k,Nat.lt_succ_self k,_,_,rfl,h⟩
   refine fF c5 <| Q0 <| Qv ?_
   obtain ⟨g2,h⟩:=Q1 h
   obtain ⟨⟨a1_0,a1_1,a1_2⟩,h1,h⟩:=bind_some h
   dsimp only at h
   refine rg L 242 [] [(3,.tup [.agg (D8 a1_0),.I a1_1,.I a1_2])] [] (Qz g1.1 (Qz g2 (Qz (show (p0.length:Int)≤(p0.length:Int) from Int.le_refl _) (Qz (Cy.ok h1) (Q3 trivial))))) ?_
   refine Qv <| Q4 L 255 ?_
   rcases Qw h with ⟨c6,h⟩ |⟨c6,h⟩
   ·refine tT c6 <| Q4 L 258 <| Qx ?_
    cases h
    exact .inr ⟨rfl,_,rfl,Rd⟩
   refine fF c6 <| Q0 <| Q4 L 264 <| Qv ?_
   obtain ⟨g3,h⟩:=Q1 h
   refine rg L 268 [] [] [] (R6 g3) ?_
   refine Tv L 274 [] [] [] (S':=⟨[(0,.cv (.str p0)),(5,.cv (.own .Ak 23500)),(6,.I (IntKind.i64.wrap (xt6_17h+a1_1)))],[(23500,.lst .Ak (x23500++([(⟨a1_0.Kind,xt6_17h,a1_0.Text,a1_0.Int⟩:Al)]:List Al)))]⟩) ?_
   exact ⟨k,Nat.lt_succ_self k,_,_,rfl,h⟩
  refine fF c2 <| Qy (Qu.trans (Qu.kk [0,5] [23500]) (Qu.rr [(23500,23400)])) ?_
  refine ex (S':=⟨[(0,.cv (.str p0)),(5,.cv (.own .Ak 23400))],[(23400,.lst .Ak x23500)]⟩) ?_
  cases h
  exact .inl ⟨rfl,_,rfl,rfl⟩
 ·rintro e S (⟨rfl,x23400,rfl,rfl⟩ |⟨rfl,a,rfl,hr⟩)
  ·rcases h with ⟨_,e1,h⟩ |⟨_,e1,h⟩
   ·cases e1
   ·have e2:=Q9.go.inj e1
    subst e2
    refine ⟨_,Qu.refl,?_⟩
    refine Qv ?_
    obtain ⟨g4,h⟩:=Q1 h
    refine rg L 279 [] [] [] (R6 g4) ?_
    refine Q4 L 287 <| Qy (Qu.trans (Qu.kk [2,3,4] [23400]) (Qu.fz 23400)) ?_
    refine Qx ?_
    cases h
    exact Rd
  ·rcases h with ⟨_,e1,h⟩ |⟨_,e1,h⟩
   ·have e2:=Q9.done.inj e1
    subst e2
    subst h
    exact ⟨_,Qu.refl,hr⟩
   ·cases e1
theorem Cz.ok {K:Nat} {p0:List UInt8} {r:(List Al)×Int×Int} (h:Cz K p0=some r):Rb V P 52 [.cv (.str p0)] (.tup [.cv (.ro .Ak r.1),.I r.2.1,.I r.2.2]):=Q5.pcall (eo (fn:=Tryz.f52) (n:=63) (m:=100) fun Γ=>Cz.body h) (by kernel_rfl)
def A7 (K:Nat) (p0:Ad) (p1:Int):Option Bool:=(if p0.bad=true then some false else (if (0:Int)≤p0.at_∧(p0.at_:Int) <(p0.l.length:Int) then some (decide ((p0.l.getD (Int.toNat p0.at_) Dr).Kind=p1)) else none))
theorem A7.body {Γ:Rm} {K:Nat} {p0:Ad} {p1:Int} {r:Bool} (h:A7 K p0 p1=some r):Ri V P 25 100 Γ (Tryz.f55.body.getD .skip) (Q7 P V Tryz.f55 (.B r) []) ⟨Q6 0 [.cv (.pcs (Ac p0) 0),.I p1],[]⟩:=by
 unfold A7 at h
 refine Q4 L 200 <| Qv ?_
 rcases Qw h with ⟨c1,h⟩ |⟨c1,h⟩
 ·refine rd L mixed 202 [(5,false)] [] [] [] 21 (Q3 (show (!p0.bad)=false from congrArg Bool.not (c1))) ?_
  refine Qx ?_
  cases h
  exact Rd
 obtain ⟨g1,h⟩:=Q1 h
 refine rd L mixed 202 [(5,true)] [] [] [] 21 (Qz (show (!p0.bad)=true from congrArg Bool.not (eq_false_of_ne_true c1)) (Qz g1.1 (Q3 g1.2))) ?_
 refine Qx ?_
 cases h
 exact Rd
theorem A7.ok {K:Nat} {p0:Ad} {p1:Int} {r:Bool} (h:A7 K p0 p1=some r):Rb V P 55 [.cv (.pcs (Ac p0) 0),.I p1] (.B r):=Q5.pcall (eo (fn:=Tryz.f55) (n:=25) (m:=100) fun Γ=>A7.body h) (by kernel_rfl)
def B8 (K:Nat) (p0:Ad) (p1:List UInt8):Option Bool:=(if (0:Int)≤p0.at_∧(p0.at_:Int) <(p0.l.length:Int) then (if p0.bad=true then some false else (if (p0.l.getD (Int.toNat p0.at_) Dr).Kind=5 then some (decide ((p0.l.getD (Int.toNat p0.at_) Dr).Text=p1)) else (if (p0.l.getD (Int.toNat p0.at_) Dr).Kind=2 then some (decide ((p0.l.getD (Int.toNat p0.at_) Dr).Text=p1)) else some false))) else none)
theorem B8.body {Γ:Rm} {K:Nat} {p0:Ad} {p1:List UInt8} {r:Bool} (h:B8 K p0 p1=some r):Ri V P 37 100 Γ (Tryz.f114.body.getD .skip) (Q7 P V Tryz.f114 (.B r) []) ⟨Q6 0 [.cv (.pcs (Ac p0) 0),.cv (.str p1)],[]⟩:=by
 unfold B8 at h
 refine Q4 L 200 <| Qv ?_
 obtain ⟨g1,h⟩:=Q1 h
 refine rd L mixed 202 [] [] [] [212] 12 (Sj g1.1 g1.2) ?_
 refine Qv ?_
 rcases Qw h with ⟨c1,h⟩ |⟨c1,h⟩
 ·refine rg L 215 [(5,false)] [] [] (Q3 (show (!p0.bad)=false from congrArg Bool.not (c1))) ?_
  refine Qx ?_
  cases h
  exact Rd
 rcases Qw h with ⟨c2,h⟩ |⟨c2,h⟩
 ·refine rg L 215 [(5,true),(9,true)] [] [] (Sj (show (!p0.bad)=true from congrArg Bool.not (eq_false_of_ne_true c1)) (decide_eq_true c2)) ?_
  refine Qx ?_
  cases h
  exact Rd
 rcases Qw h with ⟨c3,h⟩ |⟨c3,h⟩
 ·refine rg L 215 [(5,true),(9,false),(15,true)] [] [] (Qz (show (!p0.bad)=true from congrArg Bool.not (eq_false_of_ne_true c1)) (Qz (decide_eq_false c2) (Q3 (decide_eq_true c3)))) ?_
  refine Qx ?_
  cases h
  exact Rd
 refine rg L 215 [(5,true),(9,false),(15,false)] [] [] (Qz (show (!p0.bad)=true from congrArg Bool.not (eq_false_of_ne_true c1)) (Qz (decide_eq_false c2) (Q3 (decide_eq_false c3)))) ?_
 refine Qx ?_
 cases h
 exact Rd
theorem B8.ok {K:Nat} {p0:Ad} {p1:List UInt8} {r:Bool} (h:B8 K p0 p1=some r):Rb V P 114 [.cv (.pcs (Ac p0) 0),.cv (.str p1)] (.B r):=Q5.pcall (eo (fn:=Tryz.f114) (n:=37) (m:=100) fun Γ=>B8.body h) (by kernel_rfl)
def Ah (K:Nat) (p0:List UInt8) (p1:Ad):Option (Bool×Ad):=(Option.bind (B8 K p1 p0) (fun a1=>(if a1=true then some (true,(⟨p1.l,(IntKind.i64.wrap (p1.at_+1)),p1.bad⟩:Ad)) else some (false,p1))))
theorem Ah.body {Γ:Rm} {K:Nat} {p0:List UInt8} {p1:Ad} {r:Bool×Ad} (h:Ah K p0 p1=some r):Ri V P 16 100 Γ (Tryz.f80.body.getD .skip) (Q7 P V Tryz.f80 (.B r.1) [(0,.raw [.ro .Ak r.2.l,.I r.2.at_,.B r.2.bad])]) ⟨Q6 0 [.P 0,.cv (.str p0)],[(0,.raw (Ac p1))]⟩:=by
 unfold Ah at h
 refine Q4 L 200 <| Qv <| Qv ?_
 obtain ⟨a1,h1,h⟩:=bind_some h
 refine rg L 202 [] [(2,.B a1)] [] (R6 (B8.ok h1)) ?_
 rcases Qw h with ⟨c1,h⟩ |⟨c1,h⟩
 ·refine ff (b:=(!a1)) (congrArg Bool.not (c1)) ?_
  refine Q0 <| Q4 L 209 <| Q4 L 218 <| Qx ?_
  cases h
  exact Rd
 refine tt (b:=(!a1)) (congrArg Bool.not (eq_false_of_ne_true c1)) ?_
 refine Q4 L 207 <| Qx ?_
 cases h
 exact Rd
theorem Ah.okE {K:Nat} {p0:List UInt8} {p1:Ad} {r:Bool×Ad} (h:Ah K p0 p1=some r):Q5 V P 80 [.P 0,.cv (.str p0)] [(0,.raw (Ac p1))] [0] (.B r.1) [(0,.raw [.ro .Ak r.2.l,.I r.2.at_,.B r.2.bad])] :=
 eo (fn:=Tryz.f80) (n:=16) (m:=100) fun Γ=>Ah.body h
def Bd (K:Nat) (p0:Ad):Option ((List UInt8)×Ad):=(Option.bind (A7 K p0 1) (fun a1=>(if a1=true then (if (0:Int)≤(IntKind.i64.wrap ((IntKind.i64.wrap (p0.at_+1)) - 1))∧((IntKind.i64.wrap ((IntKind.i64.wrap (p0.at_+1)) - 1)):Int) <(p0.l.length:Int) then some ((((p0.l.getD (Int.toNat (IntKind.i64.wrap ((IntKind.i64.wrap (p0.at_+1)) - 1))) Dr)).Text,(⟨p0.l,(IntKind.i64.wrap (p0.at_+1)),p0.bad⟩:Ad))) else none) else some (([]:List UInt8),(⟨p0.l,p0.at_,true⟩:Ad)))))
theorem Bd.body {Γ:Rm} {K:Nat} {p0:Ad} {r:(List UInt8)×Ad} (h:Bd K p0=some r):Ri V P 28 100 Γ (Tryz.f81.body.getD .skip) (Q7 P V Tryz.f81 (.cv (.str r.1)) [(0,.raw [.ro .Ak r.2.l,.I r.2.at_,.B r.2.bad])]) ⟨Q6 0 [.P 0],[(0,.raw (Ac p0))]⟩:=by
 unfold Bd at h
 refine Q4 L 200 <| Qv <| Qv ?_
 obtain ⟨a1,h1,h⟩:=bind_some h
 refine rg L 202 [] [(1,.B a1)] [] (R6 (A7.ok h1)) ?_
 rcases Qw h with ⟨c1,h⟩ |⟨c1,h⟩
 ·refine ff (b:=(!a1)) (congrArg Bool.not (c1)) ?_
  refine Q0 <| Q4 L 213 <| Qv ?_
  obtain ⟨g1,h⟩:=Q1 h
  refine rd L mixed 222 [] [] [] [] 13 (Sj g1.1 g1.2) ?_
  refine Qx ?_
  cases h
  exact Rd
 refine tt (b:=(!a1)) (congrArg Bool.not (eq_false_of_ne_true c1)) ?_
 refine Q4 L 206 <| Q4 L 211 <| Qx ?_
 cases h
 exact Rd
theorem Bd.okE {K:Nat} {p0:Ad} {r:(List UInt8)×Ad} (h:Bd K p0=some r):Q5 V P 81 [.P 0] [(0,.raw (Ac p0))] [0] (.cv (.str r.1)) [(0,.raw [.ro .Ak r.2.l,.I r.2.at_,.B r.2.bad])] :=
 eo (fn:=Tryz.f81) (n:=28) (m:=100) fun Γ=>Bd.body h
def Ar (K:Nat) (p0:List UInt8) (p1:Ad):Option Ad:=(Option.bind (Ah K p0 p1) (fun (a1_0,a1_1)=>(if a1_0=true then some a1_1 else some (⟨a1_1.l,a1_1.at_,true⟩:Ad))))
theorem Ar.body {Γ:Rm} {K:Nat} {p0:List UInt8} {p1:Ad} {r:Ad} (h:Ar K p0 p1=some r):Ri V P 11 100 Γ (Tryz.f82.body.getD .skip) (Q7 P V Tryz.f82 (.tup []) [(0,.raw [.ro .Ak r.l,.I r.at_,.B r.bad])]) ⟨Q6 0 [.P 0,.cv (.str p0)],[(0,.raw (Ac p1))]⟩:=by
 unfold Ar at h
 refine Qv ?_
 obtain ⟨⟨a1_0,a1_1⟩,h1,h⟩:=bind_some h
 dsimp only at h
 refine rg L 200 [] [] [(2,(Rc (.B a1_0) [(0,.raw (Ac a1_1))]))] (Q3 (Ah.okE h1)) ?_
 rcases Qw h with ⟨c1,h⟩ |⟨c1,h⟩
 ·refine ff (b:=(!a1_0)) (congrArg Bool.not (c1)) ?_
  refine sk (S':=⟨[],[(0,.raw (Ac a1_1))]⟩) ?_
  cases h
  exact en0
 refine tt (b:=(!a1_0)) (congrArg Bool.not (eq_false_of_ne_true c1)) ?_
 refine Tv L 205 [] [] [] (S':=⟨[],[(0,.raw [.ro .Ak a1_1.l,.I a1_1.at_,.B true])]⟩) ?_
 cases h
 exact en0
theorem Ar.okE {K:Nat} {p0:List UInt8} {p1:Ad} {r:Ad} (h:Ar K p0 p1=some r):Q5 V P 82 [.P 0,.cv (.str p0)] [(0,.raw (Ac p1))] [0] (.tup []) [(0,.raw [.ro .Ak r.l,.I r.at_,.B r.bad])] :=
 eo (fn:=Tryz.f82) (n:=11) (m:=100) fun Γ=>Ar.body h
def Ca (K:Nat) (p0:Int) (p1:Aa):Option Aa:=some (⟨p0,[],0,[],([(⟨p1.Op,p1.Name,p1.Int,p1.Text,p1.Kids⟩:Aa)]:List Aa)⟩:Aa)
theorem Ca.body {Γ:Rm} {K:Nat} {p0:Int} {p1:Aa} {r:Aa} (h:Ca K p0 p1=some r):Ri V P 9 100 Γ (Tryz.f83.body.getD .skip) (Q7 P V Tryz.f83 (.agg [.I r.Op,.str r.Name,.I r.Int,.str r.Text,.ro .Ae r.Kids]) []) ⟨Q6 0 [.I p0,.agg (Aj p1)],[]⟩:=by
 unfold Ca at h
 refine Q4 L 200 <| Q4 L 203 <| Qy (Qu.trans (Qu.kk [4] [201]) (Qu.rr [(201,100)])) ?_
 refine Qx ?_
 cases h
 exact Rd
theorem Ca.ok {K:Nat} {p0:Int} {p1:Aa} {r:Aa} (h:Ca K p0 p1=some r):Rb V P 83 [.I p0,.agg (Aj p1)] (.agg [.I r.Op,.str r.Name,.I r.Int,.str r.Text,.ro .Ae r.Kids]):=Q5.pcall (eo (fn:=Tryz.f83) (n:=9) (m:=100) fun Γ=>Ca.body h) (by kernel_rfl)
def A3 (K:Nat) (p0:Int) (p1:Aa) (p2:Aa):Option Aa:=some (⟨p0,[],0,[],([(⟨p1.Op,p1.Name,p1.Int,p1.Text,p1.Kids⟩:Aa),(⟨p2.Op,p2.Name,p2.Int,p2.Text,p2.Kids⟩:Aa)]:List Aa)⟩:Aa)
theorem A3.body {Γ:Rm} {K:Nat} {p0:Int} {p1:Aa} {p2:Aa} {r:Aa} (h:A3 K p0 p1 p2=some r):Ri V P 12 100 Γ (Tryz.f89.body.getD .skip) (Q7 P V Tryz.f89 (.agg [.I r.Op,.str r.Name,.I r.Int,.str r.Text,.ro .Ae r.Kids]) []) ⟨Q6 0 [.I p0,.agg (Aj p1),.agg (Aj p2)],[]⟩:=by
 unfold A3 at h
 refine Q4 L 200 <| Q4 L 204 <| Qy (Qu.trans (Qu.kk [6] [202]) (Qu.rr [(202,100)])) ?_
 refine Qx ?_
 cases h
 exact Rd
theorem A3.ok {K:Nat} {p0:Int} {p1:Aa} {p2:Aa} {r:Aa} (h:A3 K p0 p1 p2=some r):Rb V P 89 [.I p0,.agg (Aj p1),.agg (Aj p2)] (.agg [.I r.Op,.str r.Name,.I r.Int,.str r.Text,.ro .Ae r.Kids]):=Q5.pcall (eo (fn:=Tryz.f89) (n:=12) (m:=100) fun Γ=>A3.body h) (by kernel_rfl)
structure Ag where
 Av:Ad→Option (Aa×Ad)
 A2:Ad→Option (Aa×Ad)
 A1:Ad→Option (Aa×Ad)
 Aw:Ad→Option (Aa×Ad)
 Bc:Ad→Option (Aa×Ad)
 Am:Ad→Option (Aa×Ad)
 A5:(List UInt8)→Ad→Option ((List Aa)×Ad)
 A8:Ad→Option ((List Aa)×Ad)
 Ba:Ad→Option (Aa×Ad)
structure Ag.Ok (R:Ag):Prop where
 Av:∀ {p0:Ad} {r:Aa×Ad},R.Av p0=some r→Q5 V P 153 [.P 0] [(0,.raw (Ac p0))] [0] (.agg [.I r.1.Op,.str r.1.Name,.I r.1.Int,.str r.1.Text,.ro .Ae r.1.Kids]) [(0,.raw [.ro .Ak r.2.l,.I r.2.at_,.B r.2.bad])]
 A2:∀ {p0:Ad} {r:Aa×Ad},R.A2 p0=some r→Q5 V P 144 [.P 0] [(0,.raw (Ac p0))] [0] (.agg [.I r.1.Op,.str r.1.Name,.I r.1.Int,.str r.1.Text,.ro .Ae r.1.Kids]) [(0,.raw [.ro .Ak r.2.l,.I r.2.at_,.B r.2.bad])]
 A1:∀ {p0:Ad} {r:Aa×Ad},R.A1 p0=some r→Q5 V P 132 [.P 0] [(0,.raw (Ac p0))] [0] (.agg [.I r.1.Op,.str r.1.Name,.I r.1.Int,.str r.1.Text,.ro .Ae r.1.Kids]) [(0,.raw [.ro .Ak r.2.l,.I r.2.at_,.B r.2.bad])]
 Aw:∀ {p0:Ad} {r:Aa×Ad},R.Aw p0=some r→Q5 V P 117 [.P 0] [(0,.raw (Ac p0))] [0] (.agg [.I r.1.Op,.str r.1.Name,.I r.1.Int,.str r.1.Text,.ro .Ae r.1.Kids]) [(0,.raw [.ro .Ak r.2.l,.I r.2.at_,.B r.2.bad])]
 Bc:∀ {p0:Ad} {r:Aa×Ad},R.Bc p0=some r→Q5 V P 88 [.P 0] [(0,.raw (Ac p0))] [0] (.agg [.I r.1.Op,.str r.1.Name,.I r.1.Int,.str r.1.Text,.ro .Ae r.1.Kids]) [(0,.raw [.ro .Ak r.2.l,.I r.2.at_,.B r.2.bad])]
 Am:∀ {p0:Ad} {r:Aa×Ad},R.Am p0=some r→Q5 V P 54 [.P 0] [(0,.raw (Ac p0))] [0] (.agg [.I r.1.Op,.str r.1.Name,.I r.1.Int,.str r.1.Text,.ro .Ae r.1.Kids]) [(0,.raw [.ro .Ak r.2.l,.I r.2.at_,.B r.2.bad])]
 A5:∀ {p0:List UInt8} {p1:Ad} {r:(List Aa)×Ad},R.A5 p0 p1=some r→Q5 V P 129 [.P 0,.cv (.str p0)] [(0,.raw (Ac p1))] [0] (.cv (.ro .Ae r.1)) [(0,.raw [.ro .Ak r.2.l,.I r.2.at_,.B r.2.bad])]
 A8:∀ {p0:Ad} {r:(List Aa)×Ad},R.A8 p0=some r→Q5 V P 130 [.P 0] [(0,.raw (Ac p0))] [0] (.cv (.ro .Ae r.1)) [(0,.raw [.ro .Ak r.2.l,.I r.2.at_,.B r.2.bad])]
 Ba:∀ {p0:Ad} {r:Aa×Ad},R.Ba p0=some r→Q5 V P 115 [.P 0] [(0,.raw (Ac p0))] [0] (.agg [.I r.1.Op,.str r.1.Name,.I r.1.Int,.str r.1.Text,.ro .Ae r.1.Kids]) [(0,.raw [.ro .Ak r.2.l,.I r.2.at_,.B r.2.bad])]
def Av.l34 (K:Nat) (R:Ag):Nat→(List Al)→Int→Bool→Int→(List UInt8)→Int→(List UInt8)→(List Aa)→Option (Q9 (Aa×Ad) Unit)
 | 0,_,_,_,_,_,_,_,_=>none
 | k+1,xh0_0_34h,xh0_1_34h,xh0_2_34h,x26901_0,x26901_1,x26901_2,x26901_3,x26901_4=>(Option.bind (Ah K ([46]:List UInt8) (⟨xh0_0_34h,xh0_1_34h,xh0_2_34h⟩:Ad)) (fun (a12_0,a12_1)=>(if a12_0=true then (Option.bind (Ca K 29 (⟨x26901_0,x26901_1,x26901_2,x26901_3,x26901_4⟩:Aa)) (fun a13=>(Option.bind (Bd K a12_1) (fun (a14_0,a14_1)=>Av.l34 K R k a14_1.l a14_1.at_ a14_1.bad a13.Op a14_0 a13.Int a13.Text a13.Kids)))) else (Option.bind (Ah K ([91]:List UInt8) a12_1) (fun (a15_0,a15_1)=>(if a15_0=true then (Option.bind (R.Am a15_1) (fun (a16_0,a16_1)=>(Option.bind (A3 K 28 (⟨x26901_0,x26901_1,x26901_2,x26901_3,x26901_4⟩:Aa) a16_0) (fun a17=>(Option.bind (Ar K ([93]:List UInt8) a16_1) (fun a18=>Av.l34 K R k a18.l a18.at_ a18.bad a17.Op a17.Name a17.Int a17.Text a17.Kids)))))) else some (Q9.done ((⟨x26901_0,x26901_1,x26901_2,x26901_3,x26901_4⟩:Aa),a15_1))))))))
def Av.F (K:Nat) (R:Ag) (p0:Ad):Option (Aa×Ad):=(Option.bind (Ah K ([45]:List UInt8) p0) (fun (a1_0,a1_1)=>(if a1_0=true then (Option.bind (R.Av a1_1) (fun (a2_0,a2_1)=>(Option.bind (Ca K 14 a2_0) (fun a3=>some (a3,a2_1))))) else (Option.bind (Ah K ([97,119,97,105,116]:List UInt8) a1_1) (fun (a4_0,a4_1)=>(if a4_0=true then (Option.bind (R.Av a4_1) (fun (a5_0,a5_1)=>(Option.bind (Ca K 12 a5_0) (fun a6=>some (a6,a5_1))))) else (Option.bind (Ah K ([103,111]:List UInt8) a4_1) (fun (a7_0,a7_1)=>(if a7_0=true then (Option.bind (Bd K a7_1) (fun (a8_0,a8_1)=>(Option.bind (Ar K ([40]:List UInt8) a8_1) (fun a9=>(Option.bind (R.A5 ([41]:List UInt8) a9) (fun (a10_0,a10_1)=>some ((⟨11,a8_0,0,[],a10_0⟩:Aa),a10_1))))))) else (Option.bind (R.Ba a7_1) (fun (a11_0,a11_1)=>(obind (Av.l34 K R K a11_1.l a11_1.at_ a11_1.bad a11_0.Op a11_0.Name a11_0.Int a11_0.Text a11_0.Kids:Option (Q9 (Aa×Ad) Unit)) (fun r=>r) (fun _=>none)))))))))))))
theorem Av.body {Γ:Rm} {K:Nat} {R:Ag} (hR:R.Ok) {p0:Ad} {r:Aa×Ad} (h:Av.F K R p0=some r):Ri V P 43 100 Γ (Tryz.f153.body.getD .skip) (Q7 P V Tryz.f153 (.agg [.I r.1.Op,.str r.1.Name,.I r.1.Int,.str r.1.Text,.ro .Ae r.1.Kids]) [(0,.raw [.ro .Ak r.2.l,.I r.2.at_,.B r.2.bad])]) ⟨Q6 0 [.P 0],[(0,.raw (Ac p0))]⟩:=by
 unfold Av.F at h
 refine Q4 L 200 <| Qv <| Qv ?_
 obtain ⟨⟨a1_0,a1_1⟩,h1,h⟩:=bind_some h
 dsimp only at h
 refine rg L 202 [] [] [(1,(Rc (.B a1_0) [(0,.raw (Ac a1_1))]))] (Q3 (Ah.okE h1)) ?_
 rcases Qw h with ⟨c1,h⟩ |⟨c1,h⟩
 ·refine tt c1 <| Qv ?_
  obtain ⟨⟨a2_0,a2_1⟩,h2,h⟩:=bind_some h
  dsimp only at h
  obtain ⟨a3,h3,h⟩:=bind_some h
  refine rg L 205 [] [(2,.agg (Aj a3))] [(1,(Rc (.agg (Aj a2_0)) [(0,.raw (Ac a2_1))]))] (Qz (hR.Av h2) (Qz (Ca.ok h3) (Q3 trivial))) ?_
  refine Qy (Qu.trans (Qu.kk [2] [0,200]) (Qu.rr [(0,0),(200,100)])) ?_
  refine Qx ?_
  cases h
  exact Rd
 refine fN c1 <| Q0 <| Qv <| Qv ?_
 obtain ⟨⟨a4_0,a4_1⟩,h4,h⟩:=bind_some h
 dsimp only at h
 refine rg L 210 [] [] [(1,(Rc (.B a4_0) [(0,.raw (Ac a4_1))]))] (Q3 (Ah.okE h4)) ?_
 rcases Qw h with ⟨c2,h⟩ |⟨c2,h⟩
 ·refine tt c2 <| Qv ?_
  obtain ⟨⟨a5_0,a5_1⟩,h5,h⟩:=bind_some h
  dsimp only at h
  obtain ⟨a6,h6,h⟩:=bind_some h
  refine rg L 213 [] [(2,.agg (Aj a6))] [(1,(Rc (.agg (Aj a5_0)) [(0,.raw (Ac a5_1))]))] (Qz (hR.Av h5) (Qz (Ca.ok h6) (Q3 trivial))) ?_
  refine Qy (Qu.trans (Qu.kk [2] [0,200]) (Qu.rr [(0,0),(200,100)])) ?_
  refine Qx ?_
  cases h
  exact Rd
 refine fN c2 <| Q0 <| Qv <| Qv ?_
 obtain ⟨⟨a7_0,a7_1⟩,h7,h⟩:=bind_some h
 dsimp only at h
 refine rg L 218 [] [] [(1,(Rc (.B a7_0) [(0,.raw (Ac a7_1))]))] (Q3 (Ah.okE h7)) ?_
 rcases Qw h with ⟨c3,h⟩ |⟨c3,h⟩
 ·refine tt c3 <| Qv ?_
  obtain ⟨⟨a8_0,a8_1⟩,h8,h⟩:=bind_some h
  dsimp only at h
  refine rg L 221 [] [] [(1,(Rc (.cv (.str a8_0)) [(0,.raw (Ac a8_1))]))] (Q3 (Bd.okE h8)) ?_
  refine Qv ?_
  obtain ⟨a9,h9,h⟩:=bind_some h
  refine rg L 225 [] [] [(1,(Rc (.tup []) [(0,.raw (Ac a9))]))] (Q3 (Ar.okE h9)) ?_
  refine Qv ?_
  obtain ⟨⟨a10_0,a10_1⟩,h10,h⟩:=bind_some h
  dsimp only at h
  refine rg L 228 [] [] [(2,(Rc (.cv (.ro .Ae a10_0)) [(0,.raw (Ac a10_1))]))] (Q3 (hR.A5 h10)) ?_
  refine Qy (Qu.trans (Qu.kk [2] [0,200]) (Qu.rr [(0,0),(200,100)])) ?_
  refine Qx ?_
  cases h
  exact Rd
 refine fN c3 <| Q0 <| Qv ?_
 obtain ⟨⟨a11_0,a11_1⟩,h11,h⟩:=bind_some h
 dsimp only at h
 refine rg L 234 [] [] [(1,(Rc (.agg (Aj a11_0)) [(0,.raw (Ac a11_1))]))] (Q3 (hR.Ba h11)) ?_
 refine Q2 <| Qy (Qu.trans (Qu.kk [0,2,4] [0,200,236]) (Qu.rr [(0,0),(200,26900),(236,26901)])) ?_
 refine kp (S':=⟨[(0,.P 0),(2,.P 26900),(4,.P 26901)],[(0,.raw (Ac a11_1)),(26900,.raw [.I 0,.str [],.I 0,.str [],.N]),(26901,.raw (Aj a11_0))]⟩) ?_
 obtain ⟨o1,hp1,h⟩:=Rf h
 refine Ra (Q':=fun e S=>False∨(e=.ret∧∃ a,Q9.done a=o1∧Q7 P V Tryz.f153 (.agg [.I a.1.Op,.str a.1.Name,.I a.1.Int,.str a.1.Text,.ro .Ae a.1.Kids]) [(0,.raw [.ro .Ak a.2.l,.I a.2.at_,.B a.2.bad])] .ret S)) (Rh (fun k S=>∃ xh0_0_34h:List Al,∃ xh0_1_34h:Int,∃ xh0_2_34h:Bool,∃ x26901_0:Int,∃ x26901_1:List UInt8,∃ x26901_2:Int,∃ x26901_3:List UInt8,∃ x26901_4:List Aa,S=⟨[(0,.P 0),(2,.P 26900),(4,.P 26901)],[(0,.raw [.ro .Ak xh0_0_34h,.I xh0_1_34h,.B xh0_2_34h]),(26900,.raw [.I 0,.str [],.I 0,.str [],.N]),(26901,.raw [.I x26901_0,.str x26901_1,.I x26901_2,.str x26901_3,.ro .Ae x26901_4])]⟩∧Av.l34 K R k xh0_0_34h xh0_1_34h xh0_2_34h x26901_0 x26901_1 x26901_2 x26901_3 x26901_4=some o1) ?_ ⟨_,_,_,_,_,_,_,_,rfl,hp1⟩) ?_
 ·clear h hp1
  intro k S hS
  obtain ⟨xh0_0_34h,xh0_1_34h,xh0_2_34h,x26901_0,x26901_1,x26901_2,x26901_3,x26901_4,rfl,h⟩:=hS
  cases k with
  | zero=>cases h
  | succ k =>
  unfold Av.l34 at h
  refine Q2 <| Qv ?_
  obtain ⟨⟨a12_0,a12_1⟩,h12,h⟩:=bind_some h
  dsimp only at h
  refine rg L 239 [] [] [(1,(Rc (.B a12_0) [(0,.raw (Ac a12_1))]))] (Q3 (Ah.okE h12)) ?_
  rcases Qw h with ⟨c4,h⟩ |⟨c4,h⟩
  ·refine tt c4 <| Qv ?_
   obtain ⟨a13,h13,h⟩:=bind_some h
   refine rg L 242 [] [(1,.agg (Aj a13))] [] (R6 (Ca.ok h13)) ?_
   obtain ⟨⟨a14_0,a14_1⟩,h14,h⟩:=bind_some h
   dsimp only at h
   refine ar L 246 [] [] [(1,(Rc (.cv (.str a14_0)) [(0,.raw (Ac a14_1))]))] (cs:=[Q5 V P 81 [.P 0] [(0,.raw (Ac a12_1))] [0] (.cv (.str a14_0)) [(0,.raw (Ac a14_1))]]) (S':=⟨[(0,.P 0),(2,.P 26900),(4,.P 26901)],[(0,.raw (Ac a14_1)),(26900,.raw [.I 0,.str [],.I 0,.str [],.N]),(26901,.raw [.I a13.Op,.str a14_0,.I a13.Int,.str a13.Text,.ro .Ae a13.Kids])]⟩) (Bd.okE h14) ?_
   exact ⟨k,Nat.lt_succ_self k,_,_,_,_,_,_,_,_,rfl,h⟩
  refine fN c4 <| Qv ?_
  obtain ⟨⟨a15_0,a15_1⟩,h15,h⟩:=bind_some h
  dsimp only at h
  refine rg L 251 [] [] [(1,(Rc (.B a15_0) [(0,.raw (Ac a15_1))]))] (Q3 (Ah.okE h15)) ?_
  rcases Qw h with ⟨c5,h⟩ |⟨c5,h⟩
  ·refine tt c5 <| Qv ?_
   obtain ⟨⟨a16_0,a16_1⟩,h16,h⟩:=bind_some h
   dsimp only at h
   obtain ⟨a17,h17,h⟩:=bind_some h
   refine hB L mixed 254 [] [(3,.agg (Aj a17))] [(2,(Rc (.agg (Aj a16_0)) [(0,.raw (Ac a16_1))]))] [1] 2 (Qz (hR.Am h16) (Qz (A3.ok h17) (Qz trivial (Qz (hR.Am h16) (Qz (A3.ok h17) (Q3 trivial)))))) (S':=⟨[(0,.P 0),(2,.P 26900),(4,.P 26901)],[(0,.raw (Ac a16_1)),(26900,.raw [.I 0,.str [],.I 0,.str [],.N]),(26901,.raw (Aj a17))]⟩) ?_
   obtain ⟨a18,h18,h⟩:=bind_some h
   refine ar L 260 [] [] [(1,(Rc (.tup []) [(0,.raw (Ac a18))]))] (cs:=[Q5 V P 82 [.P 0,.cv (.str ([93]:List UInt8))] [(0,.raw (Ac a16_1))] [0] (.tup []) [(0,.raw (Ac a18))]]) (S':=⟨[(0,.P 0),(2,.P 26900),(4,.P 26901)],[(0,.raw (Ac a18)),(26900,.raw [.I 0,.str [],.I 0,.str [],.N]),(26901,.raw (Aj a17))]⟩) (Ar.okE h18) ?_
   exact ⟨k,Nat.lt_succ_self k,_,_,_,_,_,_,_,_,rfl,h⟩
  refine fN c5 <| Q4 L 263 <| Qy (Qu.trans (Qu.kk [2] [0,26900]) (Qu.rr [(0,0),(26900,100)])) ?_
  refine Qx ?_
  cases h
  exact .inr ⟨rfl,_,rfl,Rd⟩
 ·rintro e S (hf |⟨rfl,a,rfl,hr⟩)
  ·exact hf.elim
  ·rcases h with ⟨_,e1,h⟩ |⟨_,e1,h⟩
   ·have e2:=Q9.done.inj e1
    subst e2
    subst h
    exact ⟨_,Qu.refl,hr⟩
   ·cases e1
def A2.l6 (K:Nat) (R:Ag):Nat→(List Al)→Int→Bool→Int→(List UInt8)→Int→(List UInt8)→(List Aa)→Option (Q9 (Aa×Ad) Unit)
 | 0,_,_,_,_,_,_,_,_=>none
 | k+1,xh0_0_6h,xh0_1_6h,xh0_2_6h,x21301_0,x21301_1,x21301_2,x21301_3,x21301_4=>(Option.bind (Ah K ([42]:List UInt8) (⟨xh0_0_6h,xh0_1_6h,xh0_2_6h⟩:Ad)) (fun (a2_0,a2_1)=>(if a2_0=true then (Option.bind (R.Av a2_1) (fun (a3_0,a3_1)=>(Option.bind (A3 K 15 (⟨x21301_0,x21301_1,x21301_2,x21301_3,x21301_4⟩:Aa) a3_0) (fun a4=>A2.l6 K R k a3_1.l a3_1.at_ a3_1.bad a4.Op a4.Name a4.Int a4.Text a4.Kids)))) else (Option.bind (Ah K ([47]:List UInt8) a2_1) (fun (a5_0,a5_1)=>(if a5_0=true then (Option.bind (R.Av a5_1) (fun (a6_0,a6_1)=>(Option.bind (A3 K 16 (⟨x21301_0,x21301_1,x21301_2,x21301_3,x21301_4⟩:Aa) a6_0) (fun a7=>A2.l6 K R k a6_1.l a6_1.at_ a6_1.bad a7.Op a7.Name a7.Int a7.Text a7.Kids)))) else (Option.bind (Ah K ([37]:List UInt8) a5_1) (fun (a8_0,a8_1)=>(if a8_0=true then (Option.bind (R.Av a8_1) (fun (a9_0,a9_1)=>(Option.bind (A3 K 17 (⟨x21301_0,x21301_1,x21301_2,x21301_3,x21301_4⟩:Aa) a9_0) (fun a10=>A2.l6 K R k a9_1.l a9_1.at_ a9_1.bad a10.Op a10.Name a10.Int a10.Text a10.Kids)))) else some (Q9.done ((⟨x21301_0,x21301_1,x21301_2,x21301_3,x21301_4⟩:Aa),a8_1)))))))))))
def A2.F (K:Nat) (R:Ag) (p0:Ad):Option (Aa×Ad):=(Option.bind (R.Av p0) (fun (a1_0,a1_1)=>(obind (A2.l6 K R K a1_1.l a1_1.at_ a1_1.bad a1_0.Op a1_0.Name a1_0.Int a1_0.Text a1_0.Kids:Option (Q9 (Aa×Ad) Unit)) (fun r=>r) (fun _=>none))))
theorem A2.body {Γ:Rm} {K:Nat} {R:Ag} (hR:R.Ok) {p0:Ad} {r:Aa×Ad} (h:A2.F K R p0=some r):Ri V P 25 100 Γ (Tryz.f144.body.getD .skip) (Q7 P V Tryz.f144 (.agg [.I r.1.Op,.str r.1.Name,.I r.1.Int,.str r.1.Text,.ro .Ae r.1.Kids]) [(0,.raw [.ro .Ak r.2.l,.I r.2.at_,.B r.2.bad])]) ⟨Q6 0 [.P 0],[(0,.raw (Ac p0))]⟩:=by
 unfold A2.F at h
 refine Q4 L 200 <| Qv ?_
 obtain ⟨⟨a1_0,a1_1⟩,h1,h⟩:=bind_some h
 dsimp only at h
 refine rg L 202 [] [] [(1,(Rc (.agg (Aj a1_0)) [(0,.raw (Ac a1_1))]))] (Q3 (hR.Av h1)) ?_
 refine Q2 <| Qy (Qu.trans (Qu.kk [0,2,3] [0,200,204]) (Qu.rr [(0,0),(200,21300),(204,21301)])) ?_
 refine kp (S':=⟨[(0,.P 0),(2,.P 21300),(3,.P 21301)],[(0,.raw (Ac a1_1)),(21300,.raw [.I 0,.str [],.I 0,.str [],.N]),(21301,.raw (Aj a1_0))]⟩) ?_
 obtain ⟨o1,hp1,h⟩:=Rf h
 refine Ra (Q':=fun e S=>False∨(e=.ret∧∃ a,Q9.done a=o1∧Q7 P V Tryz.f144 (.agg [.I a.1.Op,.str a.1.Name,.I a.1.Int,.str a.1.Text,.ro .Ae a.1.Kids]) [(0,.raw [.ro .Ak a.2.l,.I a.2.at_,.B a.2.bad])] .ret S)) (Rh (fun k S=>∃ xh0_0_6h:List Al,∃ xh0_1_6h:Int,∃ xh0_2_6h:Bool,∃ x21301_0:Int,∃ x21301_1:List UInt8,∃ x21301_2:Int,∃ x21301_3:List UInt8,∃ x21301_4:List Aa,S=⟨[(0,.P 0),(2,.P 21300),(3,.P 21301)],[(0,.raw [.ro .Ak xh0_0_6h,.I xh0_1_6h,.B xh0_2_6h]),(21300,.raw [.I 0,.str [],.I 0,.str [],.N]),(21301,.raw [.I x21301_0,.str x21301_1,.I x21301_2,.str x21301_3,.ro .Ae x21301_4])]⟩∧A2.l6 K R k xh0_0_6h xh0_1_6h xh0_2_6h x21301_0 x21301_1 x21301_2 x21301_3 x21301_4=some o1) ?_ ⟨_,_,_,_,_,_,_,_,rfl,hp1⟩) ?_
 ·clear h hp1
  intro k S hS
  obtain ⟨xh0_0_6h,xh0_1_6h,xh0_2_6h,x21301_0,x21301_1,x21301_2,x21301_3,x21301_4,rfl,h⟩:=hS
  cases k with
  | zero=>cases h
  | succ k =>
  unfold A2.l6 at h
  refine Q2 <| Qv ?_
  obtain ⟨⟨a2_0,a2_1⟩,h2,h⟩:=bind_some h
  dsimp only at h
  refine rg L 207 [] [] [(1,(Rc (.B a2_0) [(0,.raw (Ac a2_1))]))] (Q3 (Ah.okE h2)) ?_
  rcases Qw h with ⟨c1,h⟩ |⟨c1,h⟩
  ·refine tt c1 ?_
   obtain ⟨⟨a3_0,a3_1⟩,h3,h⟩:=bind_some h
   dsimp only at h
   obtain ⟨a4,h4,h⟩:=bind_some h
   refine hB L mixed 210 [] [(3,.agg (Aj a4))] [(2,(Rc (.agg (Aj a3_0)) [(0,.raw (Ac a3_1))]))] [1] 2 (Qz (hR.Av h3) (Qz (A3.ok h4) (Qz trivial (Qz (hR.Av h3) (Qz (A3.ok h4) (Q3 trivial)))))) (S':=⟨[(0,.P 0),(2,.P 21300),(3,.P 21301)],[(0,.raw (Ac a3_1)),(21300,.raw [.I 0,.str [],.I 0,.str [],.N]),(21301,.raw (Aj a4))]⟩) ?_
   exact ⟨k,Nat.lt_succ_self k,_,_,_,_,_,_,_,_,rfl,h⟩
  refine fN c1 <| Qv ?_
  obtain ⟨⟨a5_0,a5_1⟩,h5,h⟩:=bind_some h
  dsimp only at h
  refine rg L 216 [] [] [(1,(Rc (.B a5_0) [(0,.raw (Ac a5_1))]))] (Q3 (Ah.okE h5)) ?_
  rcases Qw h with ⟨c2,h⟩ |⟨c2,h⟩
  ·refine tt c2 ?_
   obtain ⟨⟨a6_0,a6_1⟩,h6,h⟩:=bind_some h
   dsimp only at h
   obtain ⟨a7,h7,h⟩:=bind_some h
   refine hB L mixed 219 [] [(3,.agg (Aj a7))] [(2,(Rc (.agg (Aj a6_0)) [(0,.raw (Ac a6_1))]))] [1] 2 (Qz (hR.Av h6) (Qz (A3.ok h7) (Qz trivial (Qz (hR.Av h6) (Qz (A3.ok h7) (Q3 trivial)))))) (S':=⟨[(0,.P 0),(2,.P 21300),(3,.P 21301)],[(0,.raw (Ac a6_1)),(21300,.raw [.I 0,.str [],.I 0,.str [],.N]),(21301,.raw (Aj a7))]⟩) ?_
   exact ⟨k,Nat.lt_succ_self k,_,_,_,_,_,_,_,_,rfl,h⟩
  refine fN c2 <| Qv ?_
  obtain ⟨⟨a8_0,a8_1⟩,h8,h⟩:=bind_some h
  dsimp only at h
  refine rg L 225 [] [] [(1,(Rc (.B a8_0) [(0,.raw (Ac a8_1))]))] (Q3 (Ah.okE h8)) ?_
  rcases Qw h with ⟨c3,h⟩ |⟨c3,h⟩
  ·refine tt c3 ?_
   obtain ⟨⟨a9_0,a9_1⟩,h9,h⟩:=bind_some h
   dsimp only at h
   obtain ⟨a10,h10,h⟩:=bind_some h
   refine hB L mixed 228 [] [(3,.agg (Aj a10))] [(2,(Rc (.agg (Aj a9_0)) [(0,.raw (Ac a9_1))]))] [1] 2 (Qz (hR.Av h9) (Qz (A3.ok h10) (Qz trivial (Qz (hR.Av h9) (Qz (A3.ok h10) (Q3 trivial)))))) (S':=⟨[(0,.P 0),(2,.P 21300),(3,.P 21301)],[(0,.raw (Ac a9_1)),(21300,.raw [.I 0,.str [],.I 0,.str [],.N]),(21301,.raw (Aj a10))]⟩) ?_
   exact ⟨k,Nat.lt_succ_self k,_,_,_,_,_,_,_,_,rfl,h⟩
  refine fN c3 <| Q4 L 234 <| Qy (Qu.trans (Qu.kk [2] [0,21300]) (Qu.rr [(0,0),(21300,100)])) ?_
  refine Qx ?_
  cases h
  exact .inr ⟨rfl,_,rfl,Rd⟩
 ·rintro e S (hf |⟨rfl,a,rfl,hr⟩)
  ·exact hf.elim
  ·rcases h with ⟨_,e1,h⟩ |⟨_,e1,h⟩
   ·have e2:=Q9.done.inj e1
    subst e2
    subst h
    exact ⟨_,Qu.refl,hr⟩
   ·cases e1
def A1.l6 (K:Nat) (R:Ag):Nat→(List Al)→Int→Bool→Int→(List UInt8)→Int→(List UInt8)→(List Aa)→Option (Q9 (Aa×Ad) Unit)
 | 0,_,_,_,_,_,_,_,_=>none
 | k+1,xh0_0_6h,xh0_1_6h,xh0_2_6h,x21301_0,x21301_1,x21301_2,x21301_3,x21301_4=>(Option.bind (Ah K ([43]:List UInt8) (⟨xh0_0_6h,xh0_1_6h,xh0_2_6h⟩:Ad)) (fun (a2_0,a2_1)=>(if a2_0=true then (Option.bind (R.A2 a2_1) (fun (a3_0,a3_1)=>(Option.bind (A3 K 18 (⟨x21301_0,x21301_1,x21301_2,x21301_3,x21301_4⟩:Aa) a3_0) (fun a4=>A1.l6 K R k a3_1.l a3_1.at_ a3_1.bad a4.Op a4.Name a4.Int a4.Text a4.Kids)))) else (Option.bind (Ah K ([45]:List UInt8) a2_1) (fun (a5_0,a5_1)=>(if a5_0=true then (Option.bind (R.A2 a5_1) (fun (a6_0,a6_1)=>(Option.bind (A3 K 19 (⟨x21301_0,x21301_1,x21301_2,x21301_3,x21301_4⟩:Aa) a6_0) (fun a7=>A1.l6 K R k a6_1.l a6_1.at_ a6_1.bad a7.Op a7.Name a7.Int a7.Text a7.Kids)))) else some (Q9.done ((⟨x21301_0,x21301_1,x21301_2,x21301_3,x21301_4⟩:Aa),a5_1))))))))
def A1.F (K:Nat) (R:Ag) (p0:Ad):Option (Aa×Ad):=(Option.bind (R.A2 p0) (fun (a1_0,a1_1)=>(obind (A1.l6 K R K a1_1.l a1_1.at_ a1_1.bad a1_0.Op a1_0.Name a1_0.Int a1_0.Text a1_0.Kids:Option (Q9 (Aa×Ad) Unit)) (fun r=>r) (fun _=>none))))
theorem A1.body {Γ:Rm} {K:Nat} {R:Ag} (hR:R.Ok) {p0:Ad} {r:Aa×Ad} (h:A1.F K R p0=some r):Ri V P 19 100 Γ (Tryz.f132.body.getD .skip) (Q7 P V Tryz.f132 (.agg [.I r.1.Op,.str r.1.Name,.I r.1.Int,.str r.1.Text,.ro .Ae r.1.Kids]) [(0,.raw [.ro .Ak r.2.l,.I r.2.at_,.B r.2.bad])]) ⟨Q6 0 [.P 0],[(0,.raw (Ac p0))]⟩:=by
 unfold A1.F at h
 refine Q4 L 200 <| Qv ?_
 obtain ⟨⟨a1_0,a1_1⟩,h1,h⟩:=bind_some h
 dsimp only at h
 refine rg L 202 [] [] [(1,(Rc (.agg (Aj a1_0)) [(0,.raw (Ac a1_1))]))] (Q3 (hR.A2 h1)) ?_
 refine Q2 <| Qy (Qu.trans (Qu.kk [0,2,3] [0,200,204]) (Qu.rr [(0,0),(200,21300),(204,21301)])) ?_
 refine kp (S':=⟨[(0,.P 0),(2,.P 21300),(3,.P 21301)],[(0,.raw (Ac a1_1)),(21300,.raw [.I 0,.str [],.I 0,.str [],.N]),(21301,.raw (Aj a1_0))]⟩) ?_
 obtain ⟨o1,hp1,h⟩:=Rf h
 refine Ra (Q':=fun e S=>False∨(e=.ret∧∃ a,Q9.done a=o1∧Q7 P V Tryz.f132 (.agg [.I a.1.Op,.str a.1.Name,.I a.1.Int,.str a.1.Text,.ro .Ae a.1.Kids]) [(0,.raw [.ro .Ak a.2.l,.I a.2.at_,.B a.2.bad])] .ret S)) (Rh (fun k S=>∃ xh0_0_6h:List Al,∃ xh0_1_6h:Int,∃ xh0_2_6h:Bool,∃ x21301_0:Int,∃ x21301_1:List UInt8,∃ x21301_2:Int,∃ x21301_3:List UInt8,∃ x21301_4:List Aa,S=⟨[(0,.P 0),(2,.P 21300),(3,.P 21301)],[(0,.raw [.ro .Ak xh0_0_6h,.I xh0_1_6h,.B xh0_2_6h]),(21300,.raw [.I 0,.str [],.I 0,.str [],.N]),(21301,.raw [.I x21301_0,.str x21301_1,.I x21301_2,.str x21301_3,.ro .Ae x21301_4])]⟩∧A1.l6 K R k xh0_0_6h xh0_1_6h xh0_2_6h x21301_0 x21301_1 x21301_2 x21301_3 x21301_4=some o1) ?_ ⟨_,_,_,_,_,_,_,_,rfl,hp1⟩) ?_
 ·clear h hp1
  intro k S hS
  obtain ⟨xh0_0_6h,xh0_1_6h,xh0_2_6h,x21301_0,x21301_1,x21301_2,x21301_3,x21301_4,rfl,h⟩:=hS
  cases k with
  | zero=>cases h
  | succ k =>
  unfold A1.l6 at h
  refine Q2 <| Qv ?_
  obtain ⟨⟨a2_0,a2_1⟩,h2,h⟩:=bind_some h
  dsimp only at h
  refine rg L 207 [] [] [(1,(Rc (.B a2_0) [(0,.raw (Ac a2_1))]))] (Q3 (Ah.okE h2)) ?_
  rcases Qw h with ⟨c1,h⟩ |⟨c1,h⟩
  ·refine tt c1 ?_
   obtain ⟨⟨a3_0,a3_1⟩,h3,h⟩:=bind_some h
   dsimp only at h
   obtain ⟨a4,h4,h⟩:=bind_some h
   refine hB L mixed 210 [] [(3,.agg (Aj a4))] [(2,(Rc (.agg (Aj a3_0)) [(0,.raw (Ac a3_1))]))] [1] 2 (Qz (hR.A2 h3) (Qz (A3.ok h4) (Qz trivial (Qz (hR.A2 h3) (Qz (A3.ok h4) (Q3 trivial)))))) (S':=⟨[(0,.P 0),(2,.P 21300),(3,.P 21301)],[(0,.raw (Ac a3_1)),(21300,.raw [.I 0,.str [],.I 0,.str [],.N]),(21301,.raw (Aj a4))]⟩) ?_
   exact ⟨k,Nat.lt_succ_self k,_,_,_,_,_,_,_,_,rfl,h⟩
  refine fN c1 <| Qv ?_
  obtain ⟨⟨a5_0,a5_1⟩,h5,h⟩:=bind_some h
  dsimp only at h
  refine rg L 216 [] [] [(1,(Rc (.B a5_0) [(0,.raw (Ac a5_1))]))] (Q3 (Ah.okE h5)) ?_
  rcases Qw h with ⟨c2,h⟩ |⟨c2,h⟩
  ·refine tt c2 ?_
   obtain ⟨⟨a6_0,a6_1⟩,h6,h⟩:=bind_some h
   dsimp only at h
   obtain ⟨a7,h7,h⟩:=bind_some h
   refine hB L mixed 219 [] [(3,.agg (Aj a7))] [(2,(Rc (.agg (Aj a6_0)) [(0,.raw (Ac a6_1))]))] [1] 2 (Qz (hR.A2 h6) (Qz (A3.ok h7) (Qz trivial (Qz (hR.A2 h6) (Qz (A3.ok h7) (Q3 trivial)))))) (S':=⟨[(0,.P 0),(2,.P 21300),(3,.P 21301)],[(0,.raw (Ac a6_1)),(21300,.raw [.I 0,.str [],.I 0,.str [],.N]),(21301,.raw (Aj a7))]⟩) ?_
   exact ⟨k,Nat.lt_succ_self k,_,_,_,_,_,_,_,_,rfl,h⟩
  refine fN c2 <| Q4 L 225 <| Qy (Qu.trans (Qu.kk [2] [0,21300]) (Qu.rr [(0,0),(21300,100)])) ?_
  refine Qx ?_
  cases h
  exact .inr ⟨rfl,_,rfl,Rd⟩
 ·rintro e S (hf |⟨rfl,a,rfl,hr⟩)
  ·exact hf.elim
  ·rcases h with ⟨_,e1,h⟩ |⟨_,e1,h⟩
   ·have e2:=Q9.done.inj e1
    subst e2
    subst h
    exact ⟨_,Qu.refl,hr⟩
   ·cases e1
def Aw.l21 (K:Nat) (R:Ag) (a4_0:Aa):Nat→Int→(List Al)→Int→Bool→Option (Q9 (Aa×Ad) ((List Al)×Int×Bool))
 | 0,_,_,_,_=>none
 | k+1,xt6_21h,xh0_0_21h,xh0_1_21h,xh0_2_21h=>(if xt6_21h <(([([60]:List UInt8),([60,61]:List UInt8),([62]:List UInt8),([62,61]:List UInt8),([61,61]:List UInt8),([33,61]:List UInt8)]:List (List UInt8)).length:Int) then (if (0:Int)≤xt6_21h∧(xt6_21h:Int) <(([([60]:List UInt8),([60,61]:List UInt8),([62]:List UInt8),([62,61]:List UInt8),([61,61]:List UInt8),([33,61]:List UInt8)]:List (List UInt8)).length:Int) then (Option.bind (Ah K (([([60]:List UInt8),([60,61]:List UInt8),([62]:List UInt8),([62,61]:List UInt8),([61,61]:List UInt8),([33,61]:List UInt8)]:List (List UInt8)).getD (Int.toNat xt6_21h) ([]:List UInt8)) (⟨xh0_0_21h,xh0_1_21h,xh0_2_21h⟩:Ad)) (fun (a5_0,a5_1)=>(if a5_0=true then (if (xt6_21h:Int) <(([20,21,22,23,24,25]:List Int).length:Int) then (Option.bind (R.A1 a5_1) (fun (a6_0,a6_1)=>(Option.bind (A3 K (([20,21,22,23,24,25]:List Int).getD (Int.toNat xt6_21h) (0:Int)) a4_0 a6_0) (fun a7=>some (Q9.done (a7,a6_1)))))) else none) else Aw.l21 K R a4_0 k (IntKind.i64.wrap (xt6_21h+1)) a5_1.l a5_1.at_ a5_1.bad))) else none) else some (Q9.go (xh0_0_21h,xh0_1_21h,xh0_2_21h)))
def Aw.F (K:Nat) (R:Ag) (p0:Ad):Option (Aa×Ad):=(Option.bind (Ah K ([110,111,116]:List UInt8) p0) (fun (a1_0,a1_1)=>(if a1_0=true then (Option.bind (R.Aw a1_1) (fun (a2_0,a2_1)=>(Option.bind (Ca K 13 a2_0) (fun a3=>some (a3,a2_1))))) else (Option.bind (R.A1 a1_1) (fun (a4_0,a4_1)=>(obind (Aw.l21 K R a4_0 K 0 a4_1.l a4_1.at_ a4_1.bad:Option (Q9 (Aa×Ad) ((List Al)×Int×Bool))) (fun r=>r) (fun (xh0_0_21,xh0_1_21,xh0_2_21)=>some (a4_0,(⟨xh0_0_21,xh0_1_21,xh0_2_21⟩:Ad)))))))))
theorem Aw.body {Γ:Rm} {K:Nat} {R:Ag} (hR:R.Ok) {p0:Ad} {r:Aa×Ad} (h:Aw.F K R p0=some r):Ri V P 37 100 Γ (Tryz.f117.body.getD .skip) (Q7 P V Tryz.f117 (.agg [.I r.1.Op,.str r.1.Name,.I r.1.Int,.str r.1.Text,.ro .Ae r.1.Kids]) [(0,.raw [.ro .Ak r.2.l,.I r.2.at_,.B r.2.bad])]) ⟨Q6 0 [.P 0],[(0,.raw (Ac p0))]⟩:=by
 unfold Aw.F at h
 refine Q4 L 200 <| Qv <| Qv ?_
 obtain ⟨⟨a1_0,a1_1⟩,h1,h⟩:=bind_some h
 dsimp only at h
 refine rg L 202 [] [] [(1,(Rc (.B a1_0) [(0,.raw (Ac a1_1))]))] (Q3 (Ah.okE h1)) ?_
 rcases Qw h with ⟨c1,h⟩ |⟨c1,h⟩
 ·refine tt c1 <| Qv ?_
  obtain ⟨⟨a2_0,a2_1⟩,h2,h⟩:=bind_some h
  dsimp only at h
  obtain ⟨a3,h3,h⟩:=bind_some h
  refine rg L 205 [] [(2,.agg (Aj a3))] [(1,(Rc (.agg (Aj a2_0)) [(0,.raw (Ac a2_1))]))] (Qz (hR.Aw h2) (Qz (Ca.ok h3) (Q3 trivial))) ?_
  refine Qy (Qu.trans (Qu.kk [2] [0,200]) (Qu.rr [(0,0),(200,100)])) ?_
  refine Qx ?_
  cases h
  exact Rd
 refine fN c1 <| Q0 <| Qv ?_
 obtain ⟨⟨a4_0,a4_1⟩,h4,h⟩:=bind_some h
 dsimp only at h
 refine rg L 210 [] [] [(1,(Rc (.agg (Aj a4_0)) [(0,.raw (Ac a4_1))]))] (Q3 (hR.A1 h4)) ?_
 refine Q4 L 215 <| Q4 L 218 <| Qv <| Q4 L 221 <| Q2 <| Qy (Qu.trans (Qu.kk [0,2,3,4,5,6] [0,200,212]) (Qu.rr [(0,0),(200,24300),(212,24301)])) ?_
 refine kp (S':=⟨[(0,.P 0),(2,.P 24300),(3,.P 24301),(4,.cv (.ro .C8 ([([60]:List UInt8),([60,61]:List UInt8),([62]:List UInt8),([62,61]:List UInt8),([61,61]:List UInt8),([33,61]:List UInt8)]:List (List UInt8)))),(5,.cv (.ro .Fg ([20,21,22,23,24,25]:List Int))),(6,.I 0)],[(0,.raw (Ac a4_1)),(24300,.raw [.I 0,.str [],.I 0,.str [],.N]),(24301,.raw (Aj a4_0))]⟩) ?_
 obtain ⟨o1,hp1,h⟩:=Rf h
 refine Ra (Q':=fun e S=>(e=.exit 0∧∃ xh0_0_21:List Al,∃ xh0_1_21:Int,∃ xh0_2_21:Bool,S=⟨[(2,.P 24200),(3,.P 24201)],[(0,.raw [.ro .Ak xh0_0_21,.I xh0_1_21,.B xh0_2_21]),(24200,.raw [.I 0,.str [],.I 0,.str [],.N]),(24201,.raw (Aj a4_0))]⟩∧Q9.go (xh0_0_21,xh0_1_21,xh0_2_21)=o1)∨(e=.ret∧∃ a,Q9.done a=o1∧Q7 P V Tryz.f117 (.agg [.I a.1.Op,.str a.1.Name,.I a.1.Int,.str a.1.Text,.ro .Ae a.1.Kids]) [(0,.raw [.ro .Ak a.2.l,.I a.2.at_,.B a.2.bad])] .ret S)) (Rh (fun k S=>∃ xt6_21h:Int,∃ xh0_0_21h:List Al,∃ xh0_1_21h:Int,∃ xh0_2_21h:Bool,S=⟨[(0,.P 0),(2,.P 24300),(3,.P 24301),(4,.cv (.ro .C8 ([([60]:List UInt8),([60,61]:List UInt8),([62]:List UInt8),([62,61]:List UInt8),([61,61]:List UInt8),([33,61]:List UInt8)]:List (List UInt8)))),(5,.cv (.ro .Fg ([20,21,22,23,24,25]:List Int))),(6,.I xt6_21h)],[(0,.raw [.ro .Ak xh0_0_21h,.I xh0_1_21h,.B xh0_2_21h]),(24300,.raw [.I 0,.str [],.I 0,.str [],.N]),(24301,.raw (Aj a4_0))]⟩∧Aw.l21 K R a4_0 k xt6_21h xh0_0_21h xh0_1_21h xh0_2_21h=some o1) ?_ ⟨_,_,_,_,rfl,hp1⟩) ?_
 ·clear h hp1
  intro k S hS
  obtain ⟨xt6_21h,xh0_0_21h,xh0_1_21h,xh0_2_21h,rfl,h⟩:=hS
  cases k with
  | zero=>cases h
  | succ k =>
  unfold Aw.l21 at h
  refine Qv <| Q4 L 223 ?_
  rcases Qw h with ⟨c2,h⟩ |⟨c2,h⟩
  ·refine tT c2 <| Q0 <| Qv <| Q2 <| Qv ?_
   obtain ⟨g1,h⟩:=Q1 h
   obtain ⟨⟨a5_0,a5_1⟩,h5,h⟩:=bind_some h
   dsimp only at h
   refine rg L 228 [] [] [(5,(Rc (.B a5_0) [(0,.raw (Ac a5_1))]))] (Qz g1.1 (Qz g1.2 (Q3 (Ah.okE h5)))) ?_
   rcases Qw h with ⟨c3,h⟩ |⟨c3,h⟩
   ·refine tt c3 <| Qv ?_
    obtain ⟨g2,h⟩:=Q1 h
    obtain ⟨⟨a6_0,a6_1⟩,h6,h⟩:=bind_some h
    dsimp only at h
    obtain ⟨a7,h7,h⟩:=bind_some h
    refine hB L mixed 235 [] [(7,.agg (Aj a7))] [(6,(Rc (.agg (Aj a6_0)) [(0,.raw (Ac a6_1))]))] [0,1,5] 12 (Qz g1.1 (Qz g2 (Qz (hR.A1 h6) (Qz (A3.ok h7) (Qz trivial (Qz (hR.A1 h6) (Qz (A3.ok h7) (Qz trivial (Qz (hR.A1 h6) (Qz (A3.ok h7) (Qz trivial (Qz (hR.A1 h6) (Qz (A3.ok h7) (Qz trivial (Qz (hR.A1 h6) (Qz (A3.ok h7) (Qz trivial (Qz (A3.ok h7) (Qz trivial (Qz g1.1 (Qz g2 (Qz (hR.A1 h6) (Qz (A3.ok h7) (Qz trivial (Qz (hR.A1 h6) (Qz (A3.ok h7) (Qz trivial (Qz (hR.A1 h6) (Qz g1.1 (Qz g2 (Qz (A3.ok h7) (Qz trivial (Qz (hR.A1 h6) (Qz g1.1 (Qz g2 (Qz (A3.ok h7) (Qz trivial (Qz (A3.ok h7) (Qz trivial (Qz g1.1 (Qz g2 (Qz (A3.ok h7) (Q3 trivial))))))))))))))))))))))))))))))))))))))))))) (S':=⟨[(2,.P 24300)],[(0,.raw (Ac a6_1)),(24300,.raw (Aj a7))]⟩) ?_
    refine Qy (Qu.trans (Qu.kk [2] [0,24300]) (Qu.rr [(0,0),(24300,100)])) ?_
    refine Qx ?_
    cases h
    exact .inr ⟨rfl,_,rfl,Rd⟩
   refine fN c3 <| Q0 <| Tv L 245 [] [] [] (S':=⟨[(0,.P 0),(2,.P 24300),(3,.P 24301),(4,.cv (.ro .C8 ([([60]:List UInt8),([60,61]:List UInt8),([62]:List UInt8),([62,61]:List UInt8),([61,61]:List UInt8),([33,61]:List UInt8)]:List (List UInt8)))),(5,.cv (.ro .Fg ([20,21,22,23,24,25]:List Int))),(6,.I (IntKind.i64.wrap (xt6_21h+1)))],[(0,.raw (Ac a5_1)),(24300,.raw [.I 0,.str [],.I 0,.str [],.N]),(24301,.raw (Aj a4_0))]⟩) ?_
   exact ⟨k,Nat.lt_succ_self k,_,_,_,_,rfl,h⟩
  refine fF c2 <| Qy (Qu.trans (Qu.kk [2,3] [0,24300,24301]) (Qu.rr [(0,0),(24300,24200),(24301,24201)])) ?_
  refine ex (S':=⟨[(2,.P 24200),(3,.P 24201)],[(0,.raw [.ro .Ak xh0_0_21h,.I xh0_1_21h,.B xh0_2_21h]),(24200,.raw [.I 0,.str [],.I 0,.str [],.N]),(24201,.raw (Aj a4_0))]⟩) ?_
  cases h
  exact .inl ⟨rfl,_,_,_,rfl,rfl⟩
 ·rintro e S (⟨rfl,xh0_0_21,xh0_1_21,xh0_2_21,rfl,rfl⟩ |⟨rfl,a,rfl,hr⟩)
  ·rcases h with ⟨_,e1,h⟩ |⟨_,e1,h⟩
   ·cases e1
   ·have e2:=Q9.go.inj e1
    subst e2
    dsimp only at h
    refine ⟨_,Qu.refl,?_⟩
    refine Q4 L 249 <| Qy (Qu.trans (Qu.kk [2] [0,24200]) (Qu.rr [(0,0),(24200,100)])) ?_
    refine Qx ?_
    cases h
    exact Rd
  ·rcases h with ⟨_,e1,h⟩ |⟨_,e1,h⟩
   ·have e2:=Q9.done.inj e1
    subst e2
    subst h
    exact ⟨_,Qu.refl,hr⟩
   ·cases e1
def Bc.l7 (K:Nat) (R:Ag):Nat→(List Al)→Int→Bool→Int→(List UInt8)→Int→(List UInt8)→(List Aa)→Option ((List Al)×Int×Bool×Int×(List UInt8)×Int×(List UInt8)×(List Aa))
 | 0,_,_,_,_,_,_,_,_=>none
 | k+1,xh0_0_7h,xh0_1_7h,xh0_2_7h,x21501_0,x21501_1,x21501_2,x21501_3,x21501_4=>(Option.bind (Ah K ([97,110,100]:List UInt8) (⟨xh0_0_7h,xh0_1_7h,xh0_2_7h⟩:Ad)) (fun (a2_0,a2_1)=>(if a2_0=true then (Option.bind (R.Aw a2_1) (fun (a3_0,a3_1)=>(Option.bind (A3 K 26 (⟨x21501_0,x21501_1,x21501_2,x21501_3,x21501_4⟩:Aa) a3_0) (fun a4=>Bc.l7 K R k a3_1.l a3_1.at_ a3_1.bad a4.Op a4.Name a4.Int a4.Text a4.Kids)))) else some (a2_1.l,a2_1.at_,a2_1.bad,x21501_0,x21501_1,x21501_2,x21501_3,x21501_4))))
def Bc.F (K:Nat) (R:Ag) (p0:Ad):Option (Aa×Ad):=(Option.bind (R.Aw p0) (fun (a1_0,a1_1)=>(Option.bind (Bc.l7 K R K a1_1.l a1_1.at_ a1_1.bad a1_0.Op a1_0.Name a1_0.Int a1_0.Text a1_0.Kids:Option ((List Al)×Int×Bool×Int×(List UInt8)×Int×(List UInt8)×(List Aa))) (fun (xh0_0_7,xh0_1_7,xh0_2_7,x21401_0,x21401_1,x21401_2,x21401_3,x21401_4)=>some ((⟨x21401_0,x21401_1,x21401_2,x21401_3,x21401_4⟩:Aa),(⟨xh0_0_7,xh0_1_7,xh0_2_7⟩:Ad))))))
theorem Bc.body {Γ:Rm} {K:Nat} {R:Ag} (hR:R.Ok) {p0:Ad} {r:Aa×Ad} (h:Bc.F K R p0=some r):Ri V P 13 100 Γ (Tryz.f88.body.getD .skip) (Q7 P V Tryz.f88 (.agg [.I r.1.Op,.str r.1.Name,.I r.1.Int,.str r.1.Text,.ro .Ae r.1.Kids]) [(0,.raw [.ro .Ak r.2.l,.I r.2.at_,.B r.2.bad])]) ⟨Q6 0 [.P 0],[(0,.raw (Ac p0))]⟩:=by
 unfold Bc.F at h
 refine Q4 L 200 <| Qv ?_
 obtain ⟨⟨a1_0,a1_1⟩,h1,h⟩:=bind_some h
 dsimp only at h
 refine rg L 202 [] [] [(1,(Rc (.agg (Aj a1_0)) [(0,.raw (Ac a1_1))]))] (Q3 (hR.Aw h1)) ?_
 refine Qv <| Q2 <| Qy (Qu.trans (Qu.kk [0,2,3] [0,200,204]) (Qu.rr [(0,0),(200,21500),(204,21501)])) ?_
 refine kp (S':=⟨[(0,.P 0),(2,.P 21500),(3,.P 21501)],[(0,.raw (Ac a1_1)),(21500,.raw [.I 0,.str [],.I 0,.str [],.N]),(21501,.raw (Aj a1_0))]⟩) ?_
 obtain ⟨o1,hp1,h⟩:=bind_some h
 refine Ra (Q':=fun e S=>(e=.exit 0∧∃ xh0_0_7:List Al,∃ xh0_1_7:Int,∃ xh0_2_7:Bool,∃ x21401_0:Int,∃ x21401_1:List UInt8,∃ x21401_2:Int,∃ x21401_3:List UInt8,∃ x21401_4:List Aa,S=⟨[(2,.P 21400),(3,.P 21401)],[(0,.raw [.ro .Ak xh0_0_7,.I xh0_1_7,.B xh0_2_7]),(21400,.raw [.I 0,.str [],.I 0,.str [],.N]),(21401,.raw [.I x21401_0,.str x21401_1,.I x21401_2,.str x21401_3,.ro .Ae x21401_4])]⟩∧(xh0_0_7,xh0_1_7,xh0_2_7,x21401_0,x21401_1,x21401_2,x21401_3,x21401_4)=o1)) (Rh (fun k S=>∃ xh0_0_7h:List Al,∃ xh0_1_7h:Int,∃ xh0_2_7h:Bool,∃ x21501_0:Int,∃ x21501_1:List UInt8,∃ x21501_2:Int,∃ x21501_3:List UInt8,∃ x21501_4:List Aa,S=⟨[(0,.P 0),(2,.P 21500),(3,.P 21501)],[(0,.raw [.ro .Ak xh0_0_7h,.I xh0_1_7h,.B xh0_2_7h]),(21500,.raw [.I 0,.str [],.I 0,.str [],.N]),(21501,.raw [.I x21501_0,.str x21501_1,.I x21501_2,.str x21501_3,.ro .Ae x21501_4])]⟩∧Bc.l7 K R k xh0_0_7h xh0_1_7h xh0_2_7h x21501_0 x21501_1 x21501_2 x21501_3 x21501_4=some o1) ?_ ⟨_,_,_,_,_,_,_,_,rfl,hp1⟩) ?_
 ·clear h hp1
  intro k S hS
  obtain ⟨xh0_0_7h,xh0_1_7h,xh0_2_7h,x21501_0,x21501_1,x21501_2,x21501_3,x21501_4,rfl,h⟩:=hS
  cases k with
  | zero=>cases h
  | succ k =>
  unfold Bc.l7 at h
  refine Qv <| Qv ?_
  obtain ⟨⟨a2_0,a2_1⟩,h2,h⟩:=bind_some h
  dsimp only at h
  refine rg L 207 [] [] [(1,(Rc (.B a2_0) [(0,.raw (Ac a2_1))]))] (Q3 (Ah.okE h2)) ?_
  rcases Qw h with ⟨c1,h⟩ |⟨c1,h⟩
  ·refine tt c1 <| Q0 <| Q2 ?_
   obtain ⟨⟨a3_0,a3_1⟩,h3,h⟩:=bind_some h
   dsimp only at h
   obtain ⟨a4,h4,h⟩:=bind_some h
   refine hB L mixed 210 [] [(3,.agg (Aj a4))] [(2,(Rc (.agg (Aj a3_0)) [(0,.raw (Ac a3_1))]))] [1] 2 (Qz (hR.Aw h3) (Qz (A3.ok h4) (Qz trivial (Qz (hR.Aw h3) (Qz (A3.ok h4) (Q3 trivial)))))) (S':=⟨[(0,.P 0),(2,.P 21500),(3,.P 21501)],[(0,.raw (Ac a3_1)),(21500,.raw [.I 0,.str [],.I 0,.str [],.N]),(21501,.raw (Aj a4))]⟩) ?_
   exact ⟨k,Nat.lt_succ_self k,_,_,_,_,_,_,_,_,rfl,h⟩
  refine fN c1 <| Qy (Qu.trans (Qu.kk [2,3] [0,21500,21501]) (Qu.rr [(0,0),(21500,21400),(21501,21401)])) ?_
  refine ex (S':=⟨[(2,.P 21400),(3,.P 21401)],[(0,.raw (Ac a2_1)),(21400,.raw [.I 0,.str [],.I 0,.str [],.N]),(21401,.raw [.I x21501_0,.str x21501_1,.I x21501_2,.str x21501_3,.ro .Ae x21501_4])]⟩) ?_
  cases h
  exact ⟨rfl,_,_,_,_,_,_,_,_,rfl,rfl⟩
 ·rintro e S ⟨rfl,xh0_0_7,xh0_1_7,xh0_2_7,x21401_0,x21401_1,x21401_2,x21401_3,x21401_4,rfl,rfl⟩
  dsimp only at h
  refine ⟨_,Qu.refl,?_⟩
  refine Q4 L 216 <| Qy (Qu.trans (Qu.kk [2] [0,21400]) (Qu.rr [(0,0),(21400,100)])) ?_
  refine Qx ?_
  cases h
  exact Rd
def Am.l7 (K:Nat) (R:Ag):Nat→(List Al)→Int→Bool→Int→(List UInt8)→Int→(List UInt8)→(List Aa)→Option ((List Al)×Int×Bool×Int×(List UInt8)×Int×(List UInt8)×(List Aa))
 | 0,_,_,_,_,_,_,_,_=>none
 | k+1,xh0_0_7h,xh0_1_7h,xh0_2_7h,x21501_0,x21501_1,x21501_2,x21501_3,x21501_4=>(Option.bind (Ah K ([111,114]:List UInt8) (⟨xh0_0_7h,xh0_1_7h,xh0_2_7h⟩:Ad)) (fun (a2_0,a2_1)=>(if a2_0=true then (Option.bind (R.Bc a2_1) (fun (a3_0,a3_1)=>(Option.bind (A3 K 27 (⟨x21501_0,x21501_1,x21501_2,x21501_3,x21501_4⟩:Aa) a3_0) (fun a4=>Am.l7 K R k a3_1.l a3_1.at_ a3_1.bad a4.Op a4.Name a4.Int a4.Text a4.Kids)))) else some (a2_1.l,a2_1.at_,a2_1.bad,x21501_0,x21501_1,x21501_2,x21501_3,x21501_4))))
def Am.F (K:Nat) (R:Ag) (p0:Ad):Option (Aa×Ad):=(Option.bind (R.Bc p0) (fun (a1_0,a1_1)=>(Option.bind (Am.l7 K R K a1_1.l a1_1.at_ a1_1.bad a1_0.Op a1_0.Name a1_0.Int a1_0.Text a1_0.Kids:Option ((List Al)×Int×Bool×Int×(List UInt8)×Int×(List UInt8)×(List Aa))) (fun (xh0_0_7,xh0_1_7,xh0_2_7,x21401_0,x21401_1,x21401_2,x21401_3,x21401_4)=>some ((⟨x21401_0,x21401_1,x21401_2,x21401_3,x21401_4⟩:Aa),(⟨xh0_0_7,xh0_1_7,xh0_2_7⟩:Ad))))))
theorem Am.body {Γ:Rm} {K:Nat} {R:Ag} (hR:R.Ok) {p0:Ad} {r:Aa×Ad} (h:Am.F K R p0=some r):Ri V P 13 100 Γ (Tryz.f54.body.getD .skip) (Q7 P V Tryz.f54 (.agg [.I r.1.Op,.str r.1.Name,.I r.1.Int,.str r.1.Text,.ro .Ae r.1.Kids]) [(0,.raw [.ro .Ak r.2.l,.I r.2.at_,.B r.2.bad])]) ⟨Q6 0 [.P 0],[(0,.raw (Ac p0))]⟩:=by
 unfold Am.F at h
 refine Q4 L 200 <| Qv ?_
 obtain ⟨⟨a1_0,a1_1⟩,h1,h⟩:=bind_some h
 dsimp only at h
 refine rg L 202 [] [] [(1,(Rc (.agg (Aj a1_0)) [(0,.raw (Ac a1_1))]))] (Q3 (hR.Bc h1)) ?_
 refine Qv <| Q2 <| Qy (Qu.trans (Qu.kk [0,2,3] [0,200,204]) (Qu.rr [(0,0),(200,21500),(204,21501)])) ?_
 refine kp (S':=⟨[(0,.P 0),(2,.P 21500),(3,.P 21501)],[(0,.raw (Ac a1_1)),(21500,.raw [.I 0,.str [],.I 0,.str [],.N]),(21501,.raw (Aj a1_0))]⟩) ?_
 obtain ⟨o1,hp1,h⟩:=bind_some h
 refine Ra (Q':=fun e S=>(e=.exit 0∧∃ xh0_0_7:List Al,∃ xh0_1_7:Int,∃ xh0_2_7:Bool,∃ x21401_0:Int,∃ x21401_1:List UInt8,∃ x21401_2:Int,∃ x21401_3:List UInt8,∃ x21401_4:List Aa,S=⟨[(2,.P 21400),(3,.P 21401)],[(0,.raw [.ro .Ak xh0_0_7,.I xh0_1_7,.B xh0_2_7]),(21400,.raw [.I 0,.str [],.I 0,.str [],.N]),(21401,.raw [.I x21401_0,.str x21401_1,.I x21401_2,.str x21401_3,.ro .Ae x21401_4])]⟩∧(xh0_0_7,xh0_1_7,xh0_2_7,x21401_0,x21401_1,x21401_2,x21401_3,x21401_4)=o1)) (Rh (fun k S=>∃ xh0_0_7h:List Al,∃ xh0_1_7h:Int,∃ xh0_2_7h:Bool,∃ x21501_0:Int,∃ x21501_1:List UInt8,∃ x21501_2:Int,∃ x21501_3:List UInt8,∃ x21501_4:List Aa,S=⟨[(0,.P 0),(2,.P 21500),(3,.P 21501)],[(0,.raw [.ro .Ak xh0_0_7h,.I xh0_1_7h,.B xh0_2_7h]),(21500,.raw [.I 0,.str [],.I 0,.str [],.N]),(21501,.raw [.I x21501_0,.str x21501_1,.I x21501_2,.str x21501_3,.ro .Ae x21501_4])]⟩∧Am.l7 K R k xh0_0_7h xh0_1_7h xh0_2_7h x21501_0 x21501_1 x21501_2 x21501_3 x21501_4=some o1) ?_ ⟨_,_,_,_,_,_,_,_,rfl,hp1⟩) ?_
 ·clear h hp1
  intro k S hS
  obtain ⟨xh0_0_7h,xh0_1_7h,xh0_2_7h,x21501_0,x21501_1,x21501_2,x21501_3,x21501_4,rfl,h⟩:=hS
  cases k with
  | zero=>cases h
  | succ k =>
  unfold Am.l7 at h
  refine Qv <| Qv ?_
  obtain ⟨⟨a2_0,a2_1⟩,h2,h⟩:=bind_some h
  dsimp only at h
  refine rg L 207 [] [] [(1,(Rc (.B a2_0) [(0,.raw (Ac a2_1))]))] (Q3 (Ah.okE h2)) ?_
  rcases Qw h with ⟨c1,h⟩ |⟨c1,h⟩
  ·refine tt c1 <| Q0 <| Q2 ?_
   obtain ⟨⟨a3_0,a3_1⟩,h3,h⟩:=bind_some h
   dsimp only at h
   obtain ⟨a4,h4,h⟩:=bind_some h
   refine hB L mixed 210 [] [(3,.agg (Aj a4))] [(2,(Rc (.agg (Aj a3_0)) [(0,.raw (Ac a3_1))]))] [1] 2 (Qz (hR.Bc h3) (Qz (A3.ok h4) (Qz trivial (Qz (hR.Bc h3) (Qz (A3.ok h4) (Q3 trivial)))))) (S':=⟨[(0,.P 0),(2,.P 21500),(3,.P 21501)],[(0,.raw (Ac a3_1)),(21500,.raw [.I 0,.str [],.I 0,.str [],.N]),(21501,.raw (Aj a4))]⟩) ?_
   exact ⟨k,Nat.lt_succ_self k,_,_,_,_,_,_,_,_,rfl,h⟩
  refine fN c1 <| Qy (Qu.trans (Qu.kk [2,3] [0,21500,21501]) (Qu.rr [(0,0),(21500,21400),(21501,21401)])) ?_
  refine ex (S':=⟨[(2,.P 21400),(3,.P 21401)],[(0,.raw (Ac a2_1)),(21400,.raw [.I 0,.str [],.I 0,.str [],.N]),(21401,.raw [.I x21501_0,.str x21501_1,.I x21501_2,.str x21501_3,.ro .Ae x21501_4])]⟩) ?_
  cases h
  exact ⟨rfl,_,_,_,_,_,_,_,_,rfl,rfl⟩
 ·rintro e S ⟨rfl,xh0_0_7,xh0_1_7,xh0_2_7,x21401_0,x21401_1,x21401_2,x21401_3,x21401_4,rfl,rfl⟩
  dsimp only at h
  refine ⟨_,Qu.refl,?_⟩
  refine Q4 L 216 <| Qy (Qu.trans (Qu.kk [2] [0,21400]) (Qu.rr [(0,0),(21400,100)])) ?_
  refine Qx ?_
  cases h
  exact Rd
def A5.l15 (K:Nat) (R:Ag) (p0:List UInt8):Nat→(List Al)→Int→Bool→(List Aa)→Option (Q9 ((List Aa)×Ad) ((List Al)×Int×Bool×(List Aa)))
 | 0,_,_,_,_=>none
 | k+1,xh0_0_15h,xh0_1_15h,xh0_2_15h,x23100=>(if xh0_2_15h=true then some (Q9.go (xh0_0_15h,xh0_1_15h,xh0_2_15h,x23100)) else (Option.bind (R.Am (⟨xh0_0_15h,xh0_1_15h,xh0_2_15h⟩:Ad)) (fun (a2_0,a2_1)=>(if (x23100.length+([(⟨a2_0.Op,a2_0.Name,a2_0.Int,a2_0.Text,a2_0.Kids⟩:Aa)]:List Aa).length) * 72≤140737488355328 then (Option.bind (Ah K p0 a2_1) (fun (a3_0,a3_1)=>(if a3_0=true then some (Q9.done ((x23100++([(⟨a2_0.Op,a2_0.Name,a2_0.Int,a2_0.Text,a2_0.Kids⟩:Aa)]:List Aa)),a3_1)) else (Option.bind (Ar K ([44]:List UInt8) a3_1) (fun a4=>A5.l15 K R p0 k a4.l a4.at_ a4.bad (x23100++([(⟨a2_0.Op,a2_0.Name,a2_0.Int,a2_0.Text,a2_0.Kids⟩:Aa)]:List Aa))))))) else none))))
def A5.F (K:Nat) (R:Ag) (p0:List UInt8) (p1:Ad):Option ((List Aa)×Ad):=(Option.bind (Ah K p0 p1) (fun (a1_0,a1_1)=>(if a1_0=true then some (([]:List Aa),a1_1) else (obind (A5.l15 K R p0 K a1_1.l a1_1.at_ a1_1.bad ([]:List Aa):Option (Q9 ((List Aa)×Ad) ((List Al)×Int×Bool×(List Aa)))) (fun r=>r) (fun (xh0_0_15,xh0_1_15,xh0_2_15,x23000)=>some (x23000,(⟨xh0_0_15,xh0_1_15,xh0_2_15⟩:Ad)))))))
theorem A5.body {Γ:Rm} {K:Nat} {R:Ag} (hR:R.Ok) {p0:List UInt8} {p1:Ad} {r:(List Aa)×Ad} (h:A5.F K R p0 p1=some r):Ri V P 27 100 Γ (Tryz.f129.body.getD .skip) (Q7 P V Tryz.f129 (.cv (.ro .Ae r.1)) [(0,.raw [.ro .Ak r.2.l,.I r.2.at_,.B r.2.bad])]) ⟨Q6 0 [.P 0,.cv (.str p0)],[(0,.raw (Ac p1))]⟩:=by
 unfold A5.F at h
 refine Q4 L 200 <| Q4 L 202 <| Qv <| Qv ?_
 obtain ⟨⟨a1_0,a1_1⟩,h1,h⟩:=bind_some h
 dsimp only at h
 refine rg L 204 [] [] [(2,(Rc (.B a1_0) [(0,.raw (Ac a1_1))]))] (Q3 (Ah.okE h1)) ?_
 rcases Qw h with ⟨c1,h⟩ |⟨c1,h⟩
 ·refine tt c1 <| Q4 L 208 <| Qx ?_
  cases h
  exact Rd
 refine fN c1 <| Q0 <| Qv <| Q2 <| Qy (Qu.trans (Qu.kk [0,1,5] [0]) (Qu.trans (Qu.no 5 9500 Tag.Ae) (Qu.trans (Qu.kk [0,1,5] [0,9500]) (Qu.rr [(0,0),(9500,23100)])))) ?_
 refine kp (S':=⟨[(0,.P 0),(1,.cv (.str p0)),(5,.cv (.own .Ae 23100))],[(0,.raw (Ac a1_1)),(23100,.lst .Ae ([]:List Aa))]⟩) ?_
 obtain ⟨o1,hp1,h⟩:=Rf h
 refine Ra (Q':=fun e S=>(e=.exit 0∧∃ xh0_0_15:List Al,∃ xh0_1_15:Int,∃ xh0_2_15:Bool,∃ x23000:List Aa,S=⟨[(5,.cv (.own .Ae 23000))],[(0,.raw [.ro .Ak xh0_0_15,.I xh0_1_15,.B xh0_2_15]),(23000,.lst .Ae x23000)]⟩∧Q9.go (xh0_0_15,xh0_1_15,xh0_2_15,x23000)=o1)∨(e=.ret∧∃ a,Q9.done a=o1∧Q7 P V Tryz.f129 (.cv (.ro .Ae a.1)) [(0,.raw [.ro .Ak a.2.l,.I a.2.at_,.B a.2.bad])] .ret S)) (Rh (fun k S=>∃ xh0_0_15h:List Al,∃ xh0_1_15h:Int,∃ xh0_2_15h:Bool,∃ x23100:List Aa,S=⟨[(0,.P 0),(1,.cv (.str p0)),(5,.cv (.own .Ae 23100))],[(0,.raw [.ro .Ak xh0_0_15h,.I xh0_1_15h,.B xh0_2_15h]),(23100,.lst .Ae x23100)]⟩∧A5.l15 K R p0 k xh0_0_15h xh0_1_15h xh0_2_15h x23100=some o1) ?_ ⟨_,_,_,_,rfl,hp1⟩) ?_
 ·clear h hp1
  intro k S hS
  obtain ⟨xh0_0_15h,xh0_1_15h,xh0_2_15h,x23100,rfl,h⟩:=hS
  cases k with
  | zero=>cases h
  | succ k =>
  unfold A5.l15 at h
  refine Qv <| Q4 L 211 ?_
  rcases Qw h with ⟨c2,h⟩ |⟨c2,h⟩
  ·refine ff (b:=(!xh0_2_15h)) (congrArg Bool.not (c2)) ?_
   refine Qy (Qu.trans (Qu.kk [5] [0,23100]) (Qu.rr [(0,0),(23100,23000)])) ?_
   refine ex (S':=⟨[(5,.cv (.own .Ae 23000))],[(0,.raw [.ro .Ak xh0_0_15h,.I xh0_1_15h,.B xh0_2_15h]),(23000,.lst .Ae x23100)]⟩) ?_
   cases h
   exact .inl ⟨rfl,_,_,_,_,rfl,rfl⟩
  refine tt (b:=(!xh0_2_15h)) (congrArg Bool.not (eq_false_of_ne_true c2)) ?_
  refine Q0 <| Q2 <| Qv ?_
  obtain ⟨⟨a2_0,a2_1⟩,h2,h⟩:=bind_some h
  dsimp only at h
  obtain ⟨g1,h⟩:=Q1 h
  refine rg L 217 [] [] [(2,(Rc (.agg (Aj a2_0)) [(0,.raw (Ac a2_1))]))] (Qz (hR.Am h2) (Qz g1 (Q3 trivial))) ?_
  refine Qv <| Qv ?_
  obtain ⟨⟨a3_0,a3_1⟩,h3,h⟩:=bind_some h
  dsimp only at h
  refine rg L 224 [] [] [(2,(Rc (.B a3_0) [(0,.raw (Ac a3_1))]))] (Q3 (Ah.okE h3)) ?_
  rcases Qw h with ⟨c3,h⟩ |⟨c3,h⟩
  ·refine tt c3 <| Q4 L 228 <| Qy (Qu.trans (Qu.kk [4] [0,23100]) (Qu.fz 23100)) ?_
   refine Qx ?_
   cases h
   exact .inr ⟨rfl,_,rfl,Rd⟩
  refine fN c3 <| Q0 ?_
  obtain ⟨a4,h4,h⟩:=bind_some h
  refine ar L 231 [] [] [(1,(Rc (.tup []) [(0,.raw (Ac a4))]))] (cs:=[Q5 V P 82 [.P 0,.cv (.str ([44]:List UInt8))] [(0,.raw (Ac a3_1))] [0] (.tup []) [(0,.raw (Ac a4))]]) (S':=⟨[(0,.P 0),(1,.cv (.str p0)),(5,.cv (.own .Ae 23100))],[(0,.raw (Ac a4)),(23100,.lst .Ae (x23100++([(⟨a2_0.Op,a2_0.Name,a2_0.Int,a2_0.Text,a2_0.Kids⟩:Aa)]:List Aa)))]⟩) (Ar.okE h4) ?_
  exact ⟨k,Nat.lt_succ_self k,_,_,_,_,rfl,h⟩
 ·rintro e S (⟨rfl,xh0_0_15,xh0_1_15,xh0_2_15,x23000,rfl,rfl⟩ |⟨rfl,a,rfl,hr⟩)
  ·rcases h with ⟨_,e1,h⟩ |⟨_,e1,h⟩
   ·cases e1
   ·have e2:=Q9.go.inj e1
    subst e2
    dsimp only at h
    refine ⟨_,Qu.refl,?_⟩
    refine Q4 L 234 <| Qy (Qu.trans (Qu.kk [4] [0,23000]) (Qu.fz 23000)) ?_
    refine Qx ?_
    cases h
    exact Rd
  ·rcases h with ⟨_,e1,h⟩ |⟨_,e1,h⟩
   ·have e2:=Q9.done.inj e1
    subst e2
    subst h
    exact ⟨_,Qu.refl,hr⟩
   ·cases e1
def A8.l15 (K:Nat) (R:Ag):Nat→(List Al)→Int→Bool→(List Aa)→Option (Q9 ((List Aa)×Ad) ((List Al)×Int×Bool×(List Aa)))
 | 0,_,_,_,_=>none
 | k+1,xh0_0_15h,xh0_1_15h,xh0_2_15h,x23100=>(if xh0_2_15h=true then some (Q9.go (xh0_0_15h,xh0_1_15h,xh0_2_15h,x23100)) else (Option.bind (A7 K (⟨xh0_0_15h,xh0_1_15h,xh0_2_15h⟩:Ad) 4) (fun a2=>(if a2=true then (if (0:Int)≤xh0_1_15h∧(xh0_1_15h:Int) <(xh0_0_15h.length:Int) then (Option.bind (Ar K ([58]:List UInt8) (⟨xh0_0_15h,(IntKind.i64.wrap (xh0_1_15h+1)),xh0_2_15h⟩:Ad)) (fun a3=>(Option.bind (R.Am a3) (fun (a4_0,a4_1)=>(Option.bind (Ca K 9 a4_0) (fun a5=>(if (x23100.length+([(⟨a5.Op,a5.Name,a5.Int,(xh0_0_15h.getD (Int.toNat xh0_1_15h) Dr).Text,a5.Kids⟩:Aa)]:List Aa).length) * 72≤140737488355328 then (Option.bind (Ah K ([125]:List UInt8) a4_1) (fun (a6_0,a6_1)=>(if a6_0=true then some (Q9.done (((x23100++([(⟨a5.Op,a5.Name,a5.Int,(xh0_0_15h.getD (Int.toNat xh0_1_15h) Dr).Text,a5.Kids⟩:Aa)]:List Aa)),a6_1))) else (Option.bind (Ar K ([44]:List UInt8) a6_1) (fun a7=>A8.l15 K R k a7.l a7.at_ a7.bad (x23100++([(⟨a5.Op,a5.Name,a5.Int,(xh0_0_15h.getD (Int.toNat xh0_1_15h) Dr).Text,a5.Kids⟩:Aa)]:List Aa))))))) else none))))))) else none) else some (Q9.done (x23100,(⟨xh0_0_15h,xh0_1_15h,true⟩:Ad)))))))
def A8.F (K:Nat) (R:Ag) (p0:Ad):Option ((List Aa)×Ad):=(Option.bind (Ah K ([125]:List UInt8) p0) (fun (a1_0,a1_1)=>(if a1_0=true then some (([]:List Aa),a1_1) else (obind (A8.l15 K R K a1_1.l a1_1.at_ a1_1.bad ([]:List Aa):Option (Q9 ((List Aa)×Ad) ((List Al)×Int×Bool×(List Aa)))) (fun r=>r) (fun (xh0_0_15,xh0_1_15,xh0_2_15,x23000)=>some (x23000,(⟨xh0_0_15,xh0_1_15,xh0_2_15⟩:Ad)))))))
theorem A8.body {Γ:Rm} {K:Nat} {R:Ag} (hR:R.Ok) {p0:Ad} {r:(List Aa)×Ad} (h:A8.F K R p0=some r):Ri V P 56 100 Γ (Tryz.f130.body.getD .skip) (Q7 P V Tryz.f130 (.cv (.ro .Ae r.1)) [(0,.raw [.ro .Ak r.2.l,.I r.2.at_,.B r.2.bad])]) ⟨Q6 0 [.P 0],[(0,.raw (Ac p0))]⟩:=by
 unfold A8.F at h
 refine Q4 L 200 <| Q4 L 202 <| Qv <| Qv ?_
 obtain ⟨⟨a1_0,a1_1⟩,h1,h⟩:=bind_some h
 dsimp only at h
 refine rg L 204 [] [] [(1,(Rc (.B a1_0) [(0,.raw (Ac a1_1))]))] (Q3 (Ah.okE h1)) ?_
 rcases Qw h with ⟨c1,h⟩ |⟨c1,h⟩
 ·refine tt c1 <| Q4 L 207 <| Qx ?_
  cases h
  exact Rd
 refine fN c1 <| Q0 <| Qv <| Q2 <| Qy (Qu.trans (Qu.kk [0,3] [0]) (Qu.trans (Qu.no 3 9500 Tag.Ae) (Qu.trans (Qu.kk [0,3] [0,9500]) (Qu.rr [(0,0),(9500,23100)])))) ?_
 refine kp (S':=⟨[(0,.P 0),(3,.cv (.own .Ae 23100))],[(0,.raw (Ac a1_1)),(23100,.lst .Ae ([]:List Aa))]⟩) ?_
 obtain ⟨o1,hp1,h⟩:=Rf h
 refine Ra (Q':=fun e S=>(e=.exit 0∧∃ xh0_0_15:List Al,∃ xh0_1_15:Int,∃ xh0_2_15:Bool,∃ x23000:List Aa,S=⟨[(3,.cv (.own .Ae 23000))],[(0,.raw [.ro .Ak xh0_0_15,.I xh0_1_15,.B xh0_2_15]),(23000,.lst .Ae x23000)]⟩∧Q9.go (xh0_0_15,xh0_1_15,xh0_2_15,x23000)=o1)∨(e=.ret∧∃ a,Q9.done a=o1∧Q7 P V Tryz.f130 (.cv (.ro .Ae a.1)) [(0,.raw [.ro .Ak a.2.l,.I a.2.at_,.B a.2.bad])] .ret S)) (Rh (fun k S=>∃ xh0_0_15h:List Al,∃ xh0_1_15h:Int,∃ xh0_2_15h:Bool,∃ x23100:List Aa,S=⟨[(0,.P 0),(3,.cv (.own .Ae 23100))],[(0,.raw [.ro .Ak xh0_0_15h,.I xh0_1_15h,.B xh0_2_15h]),(23100,.lst .Ae x23100)]⟩∧A8.l15 K R k xh0_0_15h xh0_1_15h xh0_2_15h x23100=some o1) ?_ ⟨_,_,_,_,rfl,hp1⟩) ?_
 ·clear h hp1
  intro k S hS
  obtain ⟨xh0_0_15h,xh0_1_15h,xh0_2_15h,x23100,rfl,h⟩:=hS
  cases k with
  | zero=>cases h
  | succ k =>
  unfold A8.l15 at h
  refine Qv <| Q4 L 210 ?_
  rcases Qw h with ⟨c2,h⟩ |⟨c2,h⟩
  ·refine ff (b:=(!xh0_2_15h)) (congrArg Bool.not (c2)) ?_
   refine Qy (Qu.trans (Qu.kk [3] [0,23100]) (Qu.rr [(0,0),(23100,23000)])) ?_
   refine ex (S':=⟨[(3,.cv (.own .Ae 23000))],[(0,.raw [.ro .Ak xh0_0_15h,.I xh0_1_15h,.B xh0_2_15h]),(23000,.lst .Ae x23100)]⟩) ?_
   cases h
   exact .inl ⟨rfl,_,_,_,_,rfl,rfl⟩
  refine tt (b:=(!xh0_2_15h)) (congrArg Bool.not (eq_false_of_ne_true c2)) ?_
  refine Q0 <| Q2 <| Qv <| Qv ?_
  obtain ⟨a2,h2,h⟩:=bind_some h
  refine rg L 216 [] [(1,.B a2)] [] (R6 (A7.ok h2)) ?_
  rcases Qw h with ⟨c3,h⟩ |⟨c3,h⟩
  ·refine ff (b:=(!a2)) (congrArg Bool.not (c3)) ?_
   refine Q0 <| Qv ?_
   obtain ⟨g1,h⟩:=Q1 h
   refine rd L mixed 228 [] [] [] [] 12 (Sj g1.1 g1.2) ?_
   refine Q4 L 241 <| Qv ?_
   obtain ⟨a3,h3,h⟩:=bind_some h
   refine rg L 250 [] [] [(1,(Rc (.tup []) [(0,.raw (Ac a3))]))] (Q3 (Ar.okE h3)) ?_
   refine Qv ?_
   obtain ⟨⟨a4_0,a4_1⟩,h4,h⟩:=bind_some h
   dsimp only at h
   obtain ⟨a5,h5,h⟩:=bind_some h
   refine rg L 253 [] [(2,.agg (Aj a5))] [(1,(Rc (.agg (Aj a4_0)) [(0,.raw (Ac a4_1))]))] (Qz (hR.Am h4) (Qz (Ca.ok h5) (Q3 trivial))) ?_
   refine Q4 L 259 <| Qv ?_
   obtain ⟨g2,h⟩:=Q1 h
   refine rg L 263 [] [] [] (R6 g2) ?_
   refine Qv <| Qv ?_
   obtain ⟨⟨a6_0,a6_1⟩,h6,h⟩:=bind_some h
   dsimp only at h
   refine rg L 269 [] [] [(1,(Rc (.B a6_0) [(0,.raw (Ac a6_1))]))] (Q3 (Ah.okE h6)) ?_
   rcases Qw h with ⟨c4,h⟩ |⟨c4,h⟩
   ·refine tt c4 <| Q4 L 272 <| Qy (Qu.trans (Qu.kk [2] [0,23100]) (Qu.fz 23100)) ?_
    refine Qx ?_
    cases h
    exact .inr ⟨rfl,_,rfl,Rd⟩
   refine fN c4 <| Q0 ?_
   obtain ⟨a7,h7,h⟩:=bind_some h
   refine ar L 275 [] [] [(1,(Rc (.tup []) [(0,.raw (Ac a7))]))] (cs:=[Q5 V P 82 [.P 0,.cv (.str ([44]:List UInt8))] [(0,.raw (Ac a6_1))] [0] (.tup []) [(0,.raw (Ac a7))]]) (S':=⟨[(0,.P 0),(3,.cv (.own .Ae 23100))],[(0,.raw (Ac a7)),(23100,.lst .Ae (x23100++([(⟨a5.Op,a5.Name,a5.Int,(xh0_0_15h.getD (Int.toNat xh0_1_15h) Dr).Text,a5.Kids⟩:Aa)]:List Aa)))]⟩) (Ar.okE h7) ?_
   exact ⟨k,Nat.lt_succ_self k,_,_,_,_,rfl,h⟩
  refine tt (b:=(!a2)) (congrArg Bool.not (eq_false_of_ne_true c3)) ?_
  refine Q4 L 220 <| Q4 L 225 <| Qy (Qu.trans (Qu.kk [2] [0,23100]) (Qu.fz 23100)) ?_
  refine Qx ?_
  cases h
  exact .inr ⟨rfl,_,rfl,Rd⟩
 ·rintro e S (⟨rfl,xh0_0_15,xh0_1_15,xh0_2_15,x23000,rfl,rfl⟩ |⟨rfl,a,rfl,hr⟩)
  ·rcases h with ⟨_,e1,h⟩ |⟨_,e1,h⟩
   ·cases e1
   ·have e2:=Q9.go.inj e1
    subst e2
    dsimp only at h
    refine ⟨_,Qu.refl,?_⟩
    refine Q4 L 278 <| Qy (Qu.trans (Qu.kk [2] [0,23000]) (Qu.fz 23000)) ?_
    refine Qx ?_
    cases h
    exact Rd
  ·rcases h with ⟨_,e1,h⟩ |⟨_,e1,h⟩
   ·have e2:=Q9.done.inj e1
    subst e2
    subst h
    exact ⟨_,Qu.refl,hr⟩
   ·cases e1
end Go.Proofs.YtifjagfmfkemmaaGreatDoor
