import Derived.Test.YtifjagfmfkemmaaGreatDoorFn2
set_option linter.unusedVariables false
set_option maxHeartbeats 0
namespace Go.Proofs.YtifjagfmfkemmaaGreatDoor
open Eng
def D0.F (K:Nat) (R:Al) (p0:Aa):Option Bool:=(if p0.Op=50 then (Option.bind (Ay K p0 true false false) (fun a1=>(if a1=true then (if p0.Name=([]:List UInt8) then (if (p0.Kids.length:Int)=2 then (if (0:Int) <(p0.Kids.length:Int) then (Option.bind (B4 K (p0.Kids.getD (Int.toNat 0) Ca)) (fun a2=>(if a2=true then (if (1:Int) <(p0.Kids.length:Int) then (Option.bind (R.Ci (p0.Kids.getD (Int.toNat 1) Ca)) (fun a3=>some a3)) else none) else some false))) else none) else some false) else (Option.bind (B2 K p0.Name) (fun a4=>(if a4=true then (if (p0.Kids.length:Int)=2 then (if (0:Int) <(p0.Kids.length:Int) then (Option.bind (B4 K (p0.Kids.getD (Int.toNat 0) Ca)) (fun a5=>(if a5=true then (if (1:Int) <(p0.Kids.length:Int) then (Option.bind (R.Ci (p0.Kids.getD (Int.toNat 1) Ca)) (fun a6=>some a6)) else none) else some false))) else none) else some false) else some false)))) else some false))) else some false)
theorem D0.body {Γ:P4} {K:Nat} {R:Al} (hR:R.Ok) {p0:Aa} {r:Bool} (h:D0.F K R p0=some r):P1 V P 40 100 Γ (Tryz.f136.body.getD .skip) (Po P V Tryz.f136 (.B r) []) ⟨Pn 0 [.agg (Ah p0)],[]⟩:=by
 unfold D0.F at h;refine Pl L 200 <| Pb ?_;rcases Pc h with ⟨c1,h⟩ |⟨c1,h⟩
 ·obtain ⟨a1,h1,h⟩:=bind_some h;rcases Pc h with ⟨c2,h⟩ |⟨c2,h⟩
  ·rcases Pc h with ⟨c3,h⟩ |⟨c3,h⟩
   ·rcases Pc h with ⟨c4,h⟩ |⟨c4,h⟩
    ·obtain ⟨g1,h⟩:=Ph h;obtain ⟨a2,h2,h⟩:=bind_some h;rcases Pc h with ⟨c5,h⟩ |⟨c5,h⟩
     ·obtain ⟨g2,h⟩:=Ph h;obtain ⟨a3,h3,h⟩:=bind_some h;refine rg L 203 [(3,true),(7,true),(11,true),(23,true),(30,true)] [(5,.B a1),(28,.B a2),(35,.B a3)] [] (Pf (decide_eq_true c1) (Pf (Ay.ok h1) (Pf trivial (Pf c2 (Pf (decide_eq_true c3) (Pf (decide_eq_true c4) (Pf (show (0:Int)≤0 from by decide) (Pf g1 (Pf (B4.ok h2) (Pf trivial (Pf c5 (Pf (show (0:Int)≤1 from by decide) (Pf g2 (Pf (Ci.okR hR h3) (Pk trivial))))))))))))))) ?_;refine Pd ?_;cases h;exact Pt
     refine rg L 203 [(3,true),(7,true),(11,true),(23,true),(30,false)] [(5,.B a1),(28,.B a2)] [] (Pf (decide_eq_true c1) (Pf (Ay.ok h1) (Pf trivial (Pf c2 (Pf (decide_eq_true c3) (Pf (decide_eq_true c4) (Pf (show (0:Int)≤0 from by decide) (Pf g1 (Pf (B4.ok h2) (Pf trivial (Pk (eq_false_of_ne_true c5)))))))))))) ?_;refine Pd ?_;cases h;exact Pt
    refine rg L 203 [(3,true),(7,true),(11,true),(23,false)] [(5,.B a1)] [] (Pf (decide_eq_true c1) (Pf (Ay.ok h1) (Pf trivial (Pf c2 (Pf (decide_eq_true c3) (Pk (decide_eq_false c4))))))) ?_;refine Pd ?_;cases h;exact Pt
   obtain ⟨a4,h4,h⟩:=bind_some h;rcases Pc h with ⟨c6,h⟩ |⟨c6,h⟩
   ·rcases Pc h with ⟨c7,h⟩ |⟨c7,h⟩
    ·obtain ⟨g3,h⟩:=Ph h;obtain ⟨a5,h5,h⟩:=bind_some h;rcases Pc h with ⟨c8,h⟩ |⟨c8,h⟩
     ·obtain ⟨g4,h⟩:=Ph h;obtain ⟨a6,h6,h⟩:=bind_some h;refine rg L 203 [(3,true),(7,true),(11,false),(17,true),(23,true),(30,true)] [(5,.B a1),(14,.B a4),(28,.B a5),(35,.B a6)] [] (Pf (decide_eq_true c1) (Pf (Ay.ok h1) (Pf trivial (Pf c2 (Pf (decide_eq_false c3) (Pf (B2.ok h4) (Pf trivial (Pf c6 (Pf (decide_eq_true c7) (Pf (show (0:Int)≤0 from by decide) (Pf g3 (Pf (B4.ok h5) (Pf trivial (Pf c8 (Pf (show (0:Int)≤1 from by decide) (Pf g4 (Pf (Ci.okR hR h6) (Pk trivial)))))))))))))))))) ?_;refine Pd ?_;cases h;exact Pt
     refine rg L 203 [(3,true),(7,true),(11,false),(17,true),(23,true),(30,false)] [(5,.B a1),(14,.B a4),(28,.B a5)] [] (Pf (decide_eq_true c1) (Pf (Ay.ok h1) (Pf trivial (Pf c2 (Pf (decide_eq_false c3) (Pf (B2.ok h4) (Pf trivial (Pf c6 (Pf (decide_eq_true c7) (Pf (show (0:Int)≤0 from by decide) (Pf g3 (Pf (B4.ok h5) (Pf trivial (Pk (eq_false_of_ne_true c8))))))))))))))) ?_;refine Pd ?_;cases h;exact Pt
    refine rg L 203 [(3,true),(7,true),(11,false),(17,true),(23,false)] [(5,.B a1),(14,.B a4)] [] (Pf (decide_eq_true c1) (Pf (Ay.ok h1) (Pf trivial (Pf c2 (Pf (decide_eq_false c3) (Pf (B2.ok h4) (Pf trivial (Pf c6 (Pk (decide_eq_false c7)))))))))) ?_;refine Pd ?_;cases h;exact Pt
   refine rg L 203 [(3,true),(7,true),(11,false),(17,false)] [(5,.B a1),(14,.B a4)] [] (Pf (decide_eq_true c1) (Pf (Ay.ok h1) (Pf trivial (Pf c2 (Pf (decide_eq_false c3) (Pf (B2.ok h4) (Pf trivial (Pk (eq_false_of_ne_true c6))))))))) ?_;refine Pd ?_;cases h;exact Pt
  refine rg L 203 [(3,true),(7,false)] [(5,.B a1)] [] (Pf (decide_eq_true c1) (Pf (Ay.ok h1) (Pf trivial (Pk (eq_false_of_ne_true c2))))) ?_;refine Pd ?_;cases h;exact Pt
 refine rg L 203 [(3,false)] [] [] (Pk (decide_eq_false c1)) ?_;refine Pd ?_;cases h;exact Pt
def Dd.F (K:Nat) (R:Al) (p0:Aa):Option Bool:=(Option.bind (R.D0 p0) (fun a1=>some (!a1)))
theorem Dd.body {Γ:P4} {K:Nat} {R:Al} (hR:R.Ok) {p0:Aa} {r:Bool} (h:Dd.F K R p0=some r):P1 V P 8 100 Γ (Tryz.f57.body.getD .skip) (Po P V Tryz.f57 (.B r) []) ⟨Pn 0 [.agg (Ah p0),.cv (.pcs [.fn (.func 136) [] []] 0)],[]⟩:=by
 unfold Dd.F at h;refine Pl L 200 <| Pb ?_;obtain ⟨a1,h1,h⟩:=bind_some h;refine rg L 203 [] [(2,.B a1)] [] (Qu (D0.okR hR h1)) ?_;refine Pd ?_;cases h;exact Pt
def Cd.l7 (K:Nat) (R:Al) (p0:List Aa):Nat→Int→Option (Pq Int Unit)
 | 0,_=>none
 | k+1,a=>(if a <(p0.length:Int) then (if (0:Int)≤a∧(a:Int) <(p0.length:Int) then (Option.bind (R.Dd (p0.getD (Int.toNat a) Ca)) (fun a1=>(if a1=true then some (Pq.done a) else Cd.l7 K R p0 k (IntKind.i64.wrap (a+1))))) else none) else some (Pq.go ()))
def Cd.F (K:Nat) (R:Al) (p0:List Aa):Option Int:=(obind (Cd.l7 K R p0 K 0:Option (Pq Int Unit)) (fun r=>r) (fun _=>some (-1)))
theorem Cd.body {Γ:P4} {K:Nat} {R:Al} (hR:R.Ok) {p0:List Aa} {r:Int} (h:Cd.F K R p0=some r):P1 V P 19 100 Γ (Tryz.f90.body.getD .skip) (Po P V Tryz.f90 (.I r) []) ⟨Pn 0 [.cv (.ro .Af p0),.cv (.fn (.func 57) [] [.pcs [.fn (.func 136) [] []] 0])],[]⟩:=by
 unfold Cd.F at h;refine Pl L 200 <| Pb <| Pl L 202 <| Pj <| kp (S':=⟨[(0,.cv (.ro .Af p0)),(1,.cv (.fn (.func 57) [] [.pcs [.fn (.func 136) [] []] 0])),(7,.I (p0.length:Int)),(8,.I 0)],[]⟩) ?_;obtain ⟨o1,hp1,h⟩:=Px h;refine Pu (Q':=fun e S=>(e=.exit 0∧S=⟨[],[]⟩∧Pq.go ()=o1)∨(e=.ret∧∃ a,Pq.done a=o1∧Po P V Tryz.f90 (.I a) [] .ret S)) (Pz (fun k S=>∃ b:Int,S=⟨[(0,.cv (.ro .Af p0)),(1,.cv (.fn (.func 57) [] [.pcs [.fn (.func 136) [] []] 0])),(7,.I (p0.length:Int)),(8,.I b)],[]⟩∧Cd.l7 K R p0 k b=some o1) ?_ ⟨_,rfl,hp1⟩) ?_
 ·clear h hp1;intro k S hS;obtain ⟨b,rfl,h⟩:=hS;cases k with
  | zero=>cases h
  | succ k =>
  unfold Cd.l7 at h;refine Pl L 206 <| Pb ?_;rcases Pc h with ⟨c1,h⟩ |⟨c1,h⟩
  ·refine tT c1 <| Pg <| Pb <| Pj <| Pl L 208 <| Pb ?_;obtain ⟨g1,h⟩:=Ph h;obtain ⟨a1,h1,h⟩:=bind_some h;refine rg L 211 [] [(5,.B a1)] [] (Pf g1.1 (Pf g1.2 (Pf (Dd.okR hR h1) (Pk trivial)))) ?_;rcases Pc h with ⟨c2,h⟩ |⟨c2,h⟩
   ·refine tt c2 <| Pl L 218 <| Pd ?_;cases h;exact .inr ⟨rfl,_,rfl,Pt⟩
   refine fN c2 <| Pg <| Se L 221 [] [] [] (S':=⟨[(0,.cv (.ro .Af p0)),(1,.cv (.fn (.func 57) [] [.pcs [.fn (.func 136) [] []] 0])),(7,.I (p0.length:Int)),(8,.I (IntKind.i64.wrap (b+1)))],[]⟩) ?_;exact ⟨k,Nat.lt_succ_self k,_,rfl,h⟩
  refine fF c1 <| ex (S':=⟨[],[]⟩) ?_;cases h;exact .inl ⟨rfl,rfl,rfl⟩
 ·rintro e S (⟨rfl,rfl,rfl⟩ |⟨rfl,a,rfl,hr⟩)
  ·rcases h with ⟨_,e1,h⟩ |⟨_,e1,h⟩
   ·cases e1
   ·have e2:=Pq.go.inj e1;subst e2;refine ⟨_,Pa.refl,?_⟩;refine Pl L 224 <| Pd ?_;cases h;exact Pt
  ·rcases h with ⟨_,e1,h⟩ |⟨_,e1,h⟩
   ·have e2:=Pq.done.inj e1;subst e2;subst h;exact ⟨_,Pa.refl,hr⟩
   ·cases e1
def Cl.F (K:Nat) (R:Al) (p0:List Aa):Option Bool:=(Option.bind (R.Cd p0) (fun a1=>some (decide (a1≥0))))
theorem Cl.body {Γ:P4} {K:Nat} {R:Al} (hR:R.Ok) {p0:List Aa} {r:Bool} (h:Cl.F K R p0=some r):P1 V P 9 100 Γ (Tryz.f56.body.getD .skip) (Po P V Tryz.f56 (.B r) []) ⟨Pn 0 [.cv (.ro .Af p0),.cv (.fn (.func 57) [] [.pcs [.fn (.func 136) [] []] 0])],[]⟩:=by
 unfold Cl.F at h;refine Pl L 200 <| Pb ?_;obtain ⟨a1,h1,h⟩:=bind_some h;refine rg L 202 [] [(2,.I a1)] [] (Qu (Cd.okR hR h1)) ?_;refine Pd ?_;cases h;exact Pt
def Di.F (K:Nat) (R:Al) (p0:List Aa):Option Bool:=(Option.bind (R.Cl p0) (fun a1=>some (!a1)))
theorem Di.body {Γ:P4} {K:Nat} {R:Al} (hR:R.Ok) {p0:List Aa} {r:Bool} (h:Di.F K R p0=some r):P1 V P 9 100 Γ (Tryz.f30.body.getD .skip) (Po P V Tryz.f30 (.B r) []) ⟨Pn 0 [.cv (.ro .Af p0),.cv (.fn (.func 136) [] [])],[]⟩:=by
 unfold Di.F at h;refine Pl L 200 <| Pb ?_;obtain ⟨a1,h1,h⟩:=bind_some h;refine rg L 203 [] [(2,.B a1)] [] (Qu (Cl.okR hR h1)) ?_;refine Pd ?_;cases h;exact Pt
def Dq.F (K:Nat) (R:Al) (p0:List Aa):Option Bool:=(Option.bind (((if (IntKind.i64.wrap ((p0.length:Int) - 1))≥0 then (if (0:Int)≤(IntKind.i64.wrap ((p0.length:Int) - 1))∧((IntKind.i64.wrap ((p0.length:Int) - 1)):Int) <(p0.length:Int) then some ((decide ((p0.getD (Int.toNat (IntKind.i64.wrap ((p0.length:Int) - 1))) Ca).Op=51))) else none) else some false)):Option Bool) (fun a=>(if a=true then (if (0:Int)≤(IntKind.i64.wrap ((p0.length:Int) - 1))∧((IntKind.i64.wrap ((p0.length:Int) - 1)):Int) <(p0.length:Int) then (Option.bind (Ay K (p0.getD (Int.toNat (IntKind.i64.wrap ((p0.length:Int) - 1))) Ca) false false false) (fun a1=>(if a1=true then (if (((p0.getD (Int.toNat (IntKind.i64.wrap ((p0.length:Int) - 1))) Ca).Kids).length:Int)≠1 then some false else (if (0:Int) <(((p0.getD (Int.toNat (IntKind.i64.wrap ((p0.length:Int) - 1))) Ca).Kids).length:Int) then (Option.bind (R.Ci ((((p0.getD (Int.toNat (IntKind.i64.wrap ((p0.length:Int) - 1))) Ca).Kids).getD (Int.toNat 0) Ca))) (fun a2=>(if a2=true then (if (IntKind.i64.wrap ((p0.length:Int) - 1))≤16 then (if (IntKind.i64.wrap ((p0.length:Int) - 1))≤(p0.length:Int) then (Option.bind (R.Di (Ur p0 0 (IntKind.i64.wrap ((p0.length:Int) - 1)))) (fun a3=>some a3)) else none) else some false) else some false))) else none)) else some false))) else none) else (if (p0.length:Int)≥1 then (if (p0.length:Int)≤16 then (Option.bind (R.Di p0) (fun a4=>some a4)) else some false) else some false))))
theorem Dq.body {Γ:P4} {K:Nat} {R:Al} (hR:R.Ok) {p0:List Aa} {r:Bool} (h:Dq.F K R p0=some r):P1 V P 59 100 Γ (Tryz.f121.body.getD .skip) (Po P V Tryz.f121 (.B r) []) ⟨Pn 0 [.cv (.ro .Af p0)],[]⟩:=by
 unfold Dq.F at h;refine Pl L 200 <| Pb <| Pl L 202 ?_;obtain ⟨o1,hp1,h⟩:=bind_some h;refine Pb (P3 (Q':=fun e S=>(e=.normal∧∃ a:Bool,S=⟨[(0,.cv (.ro .Af p0)),(3,.I (IntKind.i64.wrap ((p0.length:Int) - 1))),(17,.B a)],[]⟩∧a=o1)) ?_ ?_)
 ·clear h;replace h:=hp1;rcases Pc h with ⟨c1,h⟩ |⟨c1,h⟩
  ·obtain ⟨g1,h⟩:=Ph h;refine ar L 207 [(2,true)] [] [] (cs:=[(decide ((IntKind.i64.wrap ((p0.length:Int) - 1))≥0))=true,(0:Int)≤(IntKind.i64.wrap ((p0.length:Int) - 1)),((IntKind.i64.wrap ((p0.length:Int) - 1)):Int) <(p0.length:Int)]) (S':=⟨[(0,.cv (.ro .Af p0)),(3,.I (IntKind.i64.wrap ((p0.length:Int) - 1))),(17,.B ((decide ((p0.getD (Int.toNat (IntKind.i64.wrap ((p0.length:Int) - 1))) Ca).Op=51))))],[]⟩) (And.intro (decide_eq_true c1) (And.intro g1.1 g1.2)) ?_;cases h;exact ⟨rfl,_,rfl,rfl⟩
  refine ar L 207 [(2,false)] [] [] (cs:=[(decide ((IntKind.i64.wrap ((p0.length:Int) - 1))≥0))=false]) (S':=⟨[(0,.cv (.ro .Af p0)),(3,.I (IntKind.i64.wrap ((p0.length:Int) - 1))),(17,.B false)],[]⟩) (decide_eq_false c1) ?_;cases h;exact ⟨rfl,_,rfl,rfl⟩
 ·rintro e S ⟨rfl,a,rfl,rfl⟩;rcases Pc h with ⟨c2,h⟩ |⟨c2,h⟩
  ·refine tt c2 <| Pb <| Pb ?_;obtain ⟨g2,h⟩:=Ph h;refine rg L 218 [] [] [] (Q2 g2.1 g2.2) ?_;refine Pb ?_;obtain ⟨a1,h1,h⟩:=bind_some h;rcases Pc h with ⟨c3,h⟩ |⟨c3,h⟩
   ·rcases Pc h with ⟨c4,h⟩ |⟨c4,h⟩
    ·refine rg L 225 [(3,false),(9,true)] [(1,.B a1)] [] (Pf (Ay.ok h1) (Pf trivial (Pf (show (!a1)=false from congrArg Bool.not (c3)) (Pk (decide_eq_true c4))))) ?_;refine tt (b:=true) (rfl) ?_;refine Pl L 243 <| Pd ?_;cases h;exact Pt
    obtain ⟨g3,h⟩:=Ph h;obtain ⟨a2,h2,h⟩:=bind_some h;refine rg L 225 [(3,false),(9,false)] [(1,.B a1),(14,.B a2)] [] (Pf (Ay.ok h1) (Pf trivial (Pf (show (!a1)=false from congrArg Bool.not (c3)) (Pf (decide_eq_false c4) (Pf (show (0:Int)≤0 from by decide) (Pf g3 (Pf (Ci.okR hR h2) (Pk trivial)))))))) ?_;rcases Pc h with ⟨c5,h⟩ |⟨c5,h⟩
    ·refine ff (b:=(!a2)) (congrArg Bool.not (c5)) ?_;refine Pg <| Pb ?_;rcases Pc h with ⟨c6,h⟩ |⟨c6,h⟩
     ·obtain ⟨g4,h⟩:=Ph h;obtain ⟨a3,h3,h⟩:=bind_some h;refine rg L 245 [(2,true)] [(6,.B a3)] [] (Pf (decide_eq_true c6) (Pf (show (0:Int)≤0 from Int.le_refl _) (Pf g2.1 (Pf g4 (Pf (Di.okR hR h3) (Pk trivial)))))) ?_;refine Pd ?_;cases h;exact Pt
     refine rg L 245 [(2,false)] [] [] (Pk (decide_eq_false c6)) ?_;refine Pd ?_;cases h;exact Pt
    refine tt (b:=(!a2)) (congrArg Bool.not (eq_false_of_ne_true c5)) ?_;refine Pl L 243 <| Pd ?_;cases h;exact Pt
   refine rg L 225 [(3,true)] [(1,.B a1)] [] (Pf (Ay.ok h1) (Pf trivial (Pk (show (!a1)=true from congrArg Bool.not (eq_false_of_ne_true c3))))) ?_;refine tt (b:=true) (rfl) ?_;refine Pl L 243 <| Pd ?_;cases h;exact Pt
  refine fN c2 <| Pg <| Pb ?_;rcases Pc h with ⟨c7,h⟩ |⟨c7,h⟩
  ·rcases Pc h with ⟨c8,h⟩ |⟨c8,h⟩
   ·obtain ⟨a4,h4,h⟩:=bind_some h;refine rg L 255 [(3,true),(8,true)] [(10,.B a4)] [] (Pf (decide_eq_true c7) (Pf (decide_eq_true c8) (Pf (Di.okR hR h4) (Pk trivial)))) ?_;refine Pd ?_;cases h;exact Pt
   refine rg L 255 [(3,true),(8,false)] [] [] (Q2 (decide_eq_true c7) (decide_eq_false c8)) ?_;refine Pd ?_;cases h;exact Pt
  refine rg L 255 [(3,false)] [] [] (Pk (decide_eq_false c7)) ?_;refine Pd ?_;cases h;exact Pt
def C3.F (K:Nat) (R:Al) (p0:Aa):Option Bool:=(Option.bind ((if p0.Op=40 then some (decide (p0.Op=40)) else some (decide (p0.Op=41))):Option Bool) (fun b=>(if b=true then (Option.bind (Ay K p0 true false false) (fun a1=>(if a1=true then (Option.bind (B2 K p0.Name) (fun a2=>(if a2=true then (if (p0.Kids.length:Int)=1 then (if (0:Int) <(p0.Kids.length:Int) then (Option.bind (B4 K (p0.Kids.getD (Int.toNat 0) Ca)) (fun a3=>some a3)) else none) else some false) else some false))) else some false))) else (if p0.Op=42 then (Option.bind (Ay K p0 false false false) (fun a4=>(if a4=true then (Option.bind (R.Ef p0.Kids) (fun a5=>some a5)) else some false))) else (if p0.Op=43 then (Option.bind (Ay K p0 false false false) (fun a6=>(if a6=true then (if (p0.Kids.length:Int)=2 then (if (0:Int) <(p0.Kids.length:Int) then (Option.bind (B4 K (p0.Kids.getD (Int.toNat 0) Ca)) (fun a7=>(if a7=true then (if (1:Int) <(p0.Kids.length:Int) then (Option.bind (R.Ci (p0.Kids.getD (Int.toNat 1) Ca)) (fun a8=>some a8)) else none) else some false))) else none) else some false) else some false))) else (if p0.Op=44 then (Option.bind (Ay K p0 false false false) (fun a9=>(if a9=true then (if (p0.Kids.length:Int)≤1 then (Option.bind (C1 K p0.Kids) (fun a10=>some a10)) else some false) else some false))) else (Option.bind ((if p0.Op=45 then some (decide (p0.Op=45)) else some (decide (p0.Op=52))):Option Bool) (fun a=>(if a=true then (Option.bind (Ay K p0 false false false) (fun a11=>(if a11=true then (if (p0.Kids.length:Int)=1 then (if (0:Int) <(p0.Kids.length:Int) then (Option.bind (B4 K (p0.Kids.getD (Int.toNat 0) Ca)) (fun a12=>some a12)) else none) else some false) else some false))) else (if p0.Op=46 then (Option.bind (Ay K p0 true false false) (fun a13=>(if a13=true then (Option.bind (B2 K p0.Name) (fun a14=>(if a14=true then (if (p0.Kids.length:Int)=2 then (Option.bind (R.Dh p0.Kids) (fun a15=>some a15)) else some false) else some false))) else some false))) else (if p0.Op=47 then (Option.bind (Ay K p0 false false false) (fun a16=>(if a16=true then (if (p0.Kids.length:Int)=1 then (if (0:Int) <(p0.Kids.length:Int) then (Option.bind (R.Ci (p0.Kids.getD (Int.toNat 0) Ca)) (fun a17=>some a17)) else none) else some false) else some false))) else (if p0.Op=48 then (Option.bind (Ay K p0 true false false) (fun a18=>(if a18=true then (Option.bind (B2 K p0.Name) (fun a19=>(if a19=true then (Option.bind (C1 K p0.Kids) (fun a20=>some a20)) else some false))) else some false))) else (if p0.Op=49 then (Option.bind (Ay K p0 false false false) (fun a21=>(if a21=true then (Option.bind (R.Dq p0.Kids) (fun a22=>some a22)) else some false))) else (if p0.Op=53 then some false else some false))))))))))))))
theorem C3.body {Γ:P4} {K:Nat} {R:Al} (hR:R.Ok) {p0:Aa} {r:Bool} (h:C3.F K R p0=some r):P1 V P 143 100 Γ (Tryz.f92.body.getD .skip) (Po P V Tryz.f92 (.B r) []) ⟨Pn 0 [.agg (Ah p0)],[]⟩:=by
 unfold C3.F at h;refine Pl L 200 <| Pl L 203 <| Pb <| Pl L 207 <| Pj ?_;obtain ⟨o1,hp1,h⟩:=bind_some h;refine Pb (P3 (Q':=fun e S=>(e=.normal∧∃ b:Bool,S=⟨[(1,.P 21800),(3,.cv (.ro .Af p0.Kids)),(7,.I p0.Op),(8,.B b)],[(21800,.raw (Ah p0))]⟩∧b=o1)) ?_ ?_)
 ·clear h;replace h:=hp1;refine Pl L 210 ?_;rcases Pc h with ⟨c1,h⟩ |⟨c1,h⟩
  ·refine tT c1 <| Pe (Pa.trans (Pa.kk [1,3,7,8] [200]) (Pa.rr [(200,21800)])) ?_;refine sk (S':=⟨[(1,.P 21800),(3,.cv (.ro .Af p0.Kids)),(7,.I p0.Op),(8,.B (decide (p0.Op=40)))],[(21800,.raw (Ah p0))]⟩) ?_;cases h;exact ⟨rfl,_,rfl,rfl⟩
  refine fF c1 <| Pp (Tj L 213 ⟨rfl,rfl⟩) (Pa.trans (Pa.kk [1,3,7,8] [200]) (Pa.trans (Pa.rr [(200,21800)]) (Pa.kp (S':=⟨[(1,.P 21800),(3,.cv (.ro .Af p0.Kids)),(7,.I p0.Op),(8,.B (decide (p0.Op=41)))],[(21800,.raw (Ah p0))]⟩)))) ?_;cases h;exact ⟨rfl,_,rfl,rfl⟩
 ·rintro e S ⟨rfl,b,rfl,rfl⟩;rcases Pc h with ⟨c2,h⟩ |⟨c2,h⟩
  ·refine tt c2 <| Pb ?_;obtain ⟨a1,h1,h⟩:=bind_some h;rcases Pc h with ⟨c3,h⟩ |⟨c3,h⟩
   ·obtain ⟨a2,h2,h⟩:=bind_some h;rcases Pc h with ⟨c4,h⟩ |⟨c4,h⟩
    ·rcases Pc h with ⟨c5,h⟩ |⟨c5,h⟩
     ·obtain ⟨g1,h⟩:=Ph h;obtain ⟨a3,h3,h⟩:=bind_some h;refine rg L 216 [(2,true),(7,true),(12,true)] [(1,.B a1),(5,.B a2),(16,.B a3)] [] (Pf (Ay.ok h1) (Pf trivial (Pf c3 (Pf (B2.ok h2) (Pf trivial (Pf c4 (Pf (decide_eq_true c5) (Pf (show (0:Int)≤0 from by decide) (Pf g1 (Pf (B4.ok h3) (Pk trivial))))))))))) ?_;refine Pd ?_;cases h;exact Pt
     refine rg L 216 [(2,true),(7,true),(12,false)] [(1,.B a1),(5,.B a2)] [] (Pf (Ay.ok h1) (Pf trivial (Pf c3 (Pf (B2.ok h2) (Pf trivial (Pf c4 (Pk (decide_eq_false c5)))))))) ?_;refine Pd ?_;cases h;exact Pt
    refine rg L 216 [(2,true),(7,false)] [(1,.B a1),(5,.B a2)] [] (Pf (Ay.ok h1) (Pf trivial (Pf c3 (Pf (B2.ok h2) (Pf trivial (Pk (eq_false_of_ne_true c4))))))) ?_;refine Pd ?_;cases h;exact Pt
   refine rg L 216 [(2,false)] [(1,.B a1)] [] (Pf (Ay.ok h1) (Pf trivial (Pk (eq_false_of_ne_true c3)))) ?_;refine Pd ?_;cases h;exact Pt
  refine fN c2 <| Pl L 236 ?_;rcases Pc h with ⟨c6,h⟩ |⟨c6,h⟩
  ·refine tT c6 <| Pb ?_;obtain ⟨a4,h4,h⟩:=bind_some h;rcases Pc h with ⟨c7,h⟩ |⟨c7,h⟩
   ·obtain ⟨a5,h5,h⟩:=bind_some h;refine rg L 239 [(2,true)] [(1,.B a4),(4,.B a5)] [] (Pf (Ay.ok h4) (Pf trivial (Pf c7 (Pf (Ef.okR hR h5) (Pk trivial))))) ?_;refine Pd ?_;cases h;exact Pt
   refine rg L 239 [(2,false)] [(1,.B a4)] [] (Pf (Ay.ok h4) (Pf trivial (Pk (eq_false_of_ne_true c7)))) ?_;refine Pd ?_;cases h;exact Pt
  refine fF c6 <| Pl L 247 ?_;rcases Pc h with ⟨c8,h⟩ |⟨c8,h⟩
  ·refine tT c8 <| Pb ?_;obtain ⟨a6,h6,h⟩:=bind_some h;rcases Pc h with ⟨c9,h⟩ |⟨c9,h⟩
   ·rcases Pc h with ⟨c10,h⟩ |⟨c10,h⟩
    ·obtain ⟨g2,h⟩:=Ph h;obtain ⟨a7,h7,h⟩:=bind_some h;rcases Pc h with ⟨c11,h⟩ |⟨c11,h⟩
     ·obtain ⟨g3,h⟩:=Ph h;obtain ⟨a8,h8,h⟩:=bind_some h;refine rg L 250 [(2,true),(7,true),(13,true)] [(1,.B a6),(11,.B a7),(17,.B a8)] [] (Pf (Ay.ok h6) (Pf trivial (Pf c9 (Pf (decide_eq_true c10) (Pf (show (0:Int)≤0 from by decide) (Pf g2 (Pf (B4.ok h7) (Pf trivial (Pf c11 (Pf (show (0:Int)≤1 from by decide) (Pf g3 (Pf (Ci.okR hR h8) (Pk trivial))))))))))))) ?_;refine Pd ?_;cases h;exact Pt
     refine rg L 250 [(2,true),(7,true),(13,false)] [(1,.B a6),(11,.B a7)] [] (Pf (Ay.ok h6) (Pf trivial (Pf c9 (Pf (decide_eq_true c10) (Pf (show (0:Int)≤0 from by decide) (Pf g2 (Pf (B4.ok h7) (Pf trivial (Pk (eq_false_of_ne_true c11)))))))))) ?_;refine Pd ?_;cases h;exact Pt
    refine rg L 250 [(2,true),(7,false)] [(1,.B a6)] [] (Pf (Ay.ok h6) (Pf trivial (Pf c9 (Pk (decide_eq_false c10))))) ?_;refine Pd ?_;cases h;exact Pt
   refine rg L 250 [(2,false)] [(1,.B a6)] [] (Pf (Ay.ok h6) (Pf trivial (Pk (eq_false_of_ne_true c9)))) ?_;refine Pd ?_;cases h;exact Pt
  refine fF c8 <| Pl L 271 ?_;rcases Pc h with ⟨c12,h⟩ |⟨c12,h⟩
  ·refine tT c12 <| Pb ?_;obtain ⟨a9,h9,h⟩:=bind_some h;rcases Pc h with ⟨c13,h⟩ |⟨c13,h⟩
   ·rcases Pc h with ⟨c14,h⟩ |⟨c14,h⟩
    ·obtain ⟨a10,h10,h⟩:=bind_some h;refine rg L 274 [(2,true),(7,true)] [(1,.B a9),(9,.B a10)] [] (Pf (Ay.ok h9) (Pf trivial (Pf c13 (Pf (decide_eq_true c14) (Pf (C1.ok h10) (Pk trivial)))))) ?_;refine Pd ?_;cases h;exact Pt
    refine rg L 274 [(2,true),(7,false)] [(1,.B a9)] [] (Pf (Ay.ok h9) (Pf trivial (Pf c13 (Pk (decide_eq_false c14))))) ?_;refine Pd ?_;cases h;exact Pt
   refine rg L 274 [(2,false)] [(1,.B a9)] [] (Pf (Ay.ok h9) (Pf trivial (Pk (eq_false_of_ne_true c13)))) ?_;refine Pd ?_;cases h;exact Pt
  refine fF c12 ?_;obtain ⟨o2,hp2,h⟩:=bind_some h;refine Pb (P3 (Q':=fun e S=>(e=.normal∧∃ a:Bool,S=⟨[(1,.P 27400),(3,.cv (.ro .Af p0.Kids)),(7,.I p0.Op),(71,.B a)],[(27400,.raw (Ah p0))]⟩∧a=o2)) ?_ ?_)
  ·clear h;replace h:=hp2;refine Pl L 287 ?_;rcases Pc h with ⟨c15,h⟩ |⟨c15,h⟩
   ·refine tT c15 <| Pe (Pa.trans (Pa.kk [1,3,7,71] [21800]) (Pa.rr [(21800,27400)])) ?_;refine sk (S':=⟨[(1,.P 27400),(3,.cv (.ro .Af p0.Kids)),(7,.I p0.Op),(71,.B (decide (p0.Op=45)))],[(27400,.raw (Ah p0))]⟩) ?_;cases h;exact ⟨rfl,_,rfl,rfl⟩
   refine fF c15 <| Pp (Tj L 290 ⟨rfl,rfl⟩) (Pa.trans (Pa.kk [1,3,7,71] [21800]) (Pa.trans (Pa.rr [(21800,27400)]) (Pa.kp (S':=⟨[(1,.P 27400),(3,.cv (.ro .Af p0.Kids)),(7,.I p0.Op),(71,.B (decide (p0.Op=52)))],[(27400,.raw (Ah p0))]⟩)))) ?_;cases h;exact ⟨rfl,_,rfl,rfl⟩
  ·rintro e S ⟨rfl,a,rfl,rfl⟩;rcases Pc h with ⟨c16,h⟩ |⟨c16,h⟩
   ·refine tt c16 <| Pb ?_;obtain ⟨a11,h11,h⟩:=bind_some h;rcases Pc h with ⟨c17,h⟩ |⟨c17,h⟩
    ·rcases Pc h with ⟨c18,h⟩ |⟨c18,h⟩
     ·obtain ⟨g4,h⟩:=Ph h;obtain ⟨a12,h12,h⟩:=bind_some h;refine rg L 293 [(2,true),(7,true)] [(1,.B a11),(11,.B a12)] [] (Pf (Ay.ok h11) (Pf trivial (Pf c17 (Pf (decide_eq_true c18) (Pf (show (0:Int)≤0 from by decide) (Pf g4 (Pf (B4.ok h12) (Pk trivial)))))))) ?_;refine Pd ?_;cases h;exact Pt
     refine rg L 293 [(2,true),(7,false)] [(1,.B a11)] [] (Pf (Ay.ok h11) (Pf trivial (Pf c17 (Pk (decide_eq_false c18))))) ?_;refine Pd ?_;cases h;exact Pt
    refine rg L 293 [(2,false)] [(1,.B a11)] [] (Pf (Ay.ok h11) (Pf trivial (Pk (eq_false_of_ne_true c17)))) ?_;refine Pd ?_;cases h;exact Pt
   refine fN c16 <| Pl L 308 ?_;rcases Pc h with ⟨c19,h⟩ |⟨c19,h⟩
   ·refine tT c19 <| Pb ?_;obtain ⟨a13,h13,h⟩:=bind_some h;rcases Pc h with ⟨c20,h⟩ |⟨c20,h⟩
    ·obtain ⟨a14,h14,h⟩:=bind_some h;rcases Pc h with ⟨c21,h⟩ |⟨c21,h⟩
     ·rcases Pc h with ⟨c22,h⟩ |⟨c22,h⟩
      ·obtain ⟨a15,h15,h⟩:=bind_some h;refine rg L 311 [(2,true),(7,true),(12,true)] [(1,.B a13),(5,.B a14),(14,.B a15)] [] (Pf (Ay.ok h13) (Pf trivial (Pf c20 (Pf (B2.ok h14) (Pf trivial (Pf c21 (Pf (decide_eq_true c22) (Pf (Dh.okR hR h15) (Pk trivial))))))))) ?_;refine Pd ?_;cases h;exact Pt
      refine rg L 311 [(2,true),(7,true),(12,false)] [(1,.B a13),(5,.B a14)] [] (Pf (Ay.ok h13) (Pf trivial (Pf c20 (Pf (B2.ok h14) (Pf trivial (Pf c21 (Pk (decide_eq_false c22)))))))) ?_;refine Pd ?_;cases h;exact Pt
     refine rg L 311 [(2,true),(7,false)] [(1,.B a13),(5,.B a14)] [] (Pf (Ay.ok h13) (Pf trivial (Pf c20 (Pf (B2.ok h14) (Pf trivial (Pk (eq_false_of_ne_true c21))))))) ?_;refine Pd ?_;cases h;exact Pt
    refine rg L 311 [(2,false)] [(1,.B a13)] [] (Pf (Ay.ok h13) (Pf trivial (Pk (eq_false_of_ne_true c20)))) ?_;refine Pd ?_;cases h;exact Pt
   refine fF c19 <| Pl L 329 ?_;rcases Pc h with ⟨c23,h⟩ |⟨c23,h⟩
   ·refine tT c23 <| Pb ?_;obtain ⟨a16,h16,h⟩:=bind_some h;rcases Pc h with ⟨c24,h⟩ |⟨c24,h⟩
    ·rcases Pc h with ⟨c25,h⟩ |⟨c25,h⟩
     ·obtain ⟨g5,h⟩:=Ph h;obtain ⟨a17,h17,h⟩:=bind_some h;refine rg L 332 [(2,true),(7,true)] [(1,.B a16),(11,.B a17)] [] (Pf (Ay.ok h16) (Pf trivial (Pf c24 (Pf (decide_eq_true c25) (Pf (show (0:Int)≤0 from by decide) (Pf g5 (Pf (Ci.okR hR h17) (Pk trivial)))))))) ?_;refine Pd ?_;cases h;exact Pt
     refine rg L 332 [(2,true),(7,false)] [(1,.B a16)] [] (Pf (Ay.ok h16) (Pf trivial (Pf c24 (Pk (decide_eq_false c25))))) ?_;refine Pd ?_;cases h;exact Pt
    refine rg L 332 [(2,false)] [(1,.B a16)] [] (Pf (Ay.ok h16) (Pf trivial (Pk (eq_false_of_ne_true c24)))) ?_;refine Pd ?_;cases h;exact Pt
   refine fF c23 <| Pl L 347 ?_;rcases Pc h with ⟨c26,h⟩ |⟨c26,h⟩
   ·refine tT c26 <| Pb ?_;obtain ⟨a18,h18,h⟩:=bind_some h;rcases Pc h with ⟨c27,h⟩ |⟨c27,h⟩
    ·obtain ⟨a19,h19,h⟩:=bind_some h;rcases Pc h with ⟨c28,h⟩ |⟨c28,h⟩
     ·obtain ⟨a20,h20,h⟩:=bind_some h;refine rg L 350 [(2,true),(7,true)] [(1,.B a18),(5,.B a19),(9,.B a20)] [] (Pf (Ay.ok h18) (Pf trivial (Pf c27 (Pf (B2.ok h19) (Pf trivial (Pf c28 (Pf (C1.ok h20) (Pk trivial)))))))) ?_;refine Pd ?_;cases h;exact Pt
     refine rg L 350 [(2,true),(7,false)] [(1,.B a18),(5,.B a19)] [] (Pf (Ay.ok h18) (Pf trivial (Pf c27 (Pf (B2.ok h19) (Pf trivial (Pk (eq_false_of_ne_true c28))))))) ?_;refine Pd ?_;cases h;exact Pt
    refine rg L 350 [(2,false)] [(1,.B a18)] [] (Pf (Ay.ok h18) (Pf trivial (Pk (eq_false_of_ne_true c27)))) ?_;refine Pd ?_;cases h;exact Pt
   refine fF c26 <| Pl L 363 ?_;rcases Pc h with ⟨c29,h⟩ |⟨c29,h⟩
   ·refine tT c29 <| Pb ?_;obtain ⟨a21,h21,h⟩:=bind_some h;rcases Pc h with ⟨c30,h⟩ |⟨c30,h⟩
    ·obtain ⟨a22,h22,h⟩:=bind_some h;refine rg L 366 [(2,true)] [(1,.B a21),(4,.B a22)] [] (Pf (Ay.ok h21) (Pf trivial (Pf c30 (Pf (Dq.okR hR h22) (Pk trivial))))) ?_;refine Pd ?_;cases h;exact Pt
    refine rg L 366 [(2,false)] [(1,.B a21)] [] (Pf (Ay.ok h21) (Pf trivial (Pk (eq_false_of_ne_true c30)))) ?_;refine Pd ?_;cases h;exact Pt
   refine fF c29 <| Pl L 374 ?_;rcases Pc h with ⟨c31,h⟩ |⟨c31,h⟩
   ·refine tT c31 <| Pl L 377 <| Pd ?_;cases h;exact Pt
   refine fF c31 <| Pg <| Pl L 379 <| Pd ?_;cases h;exact Pt
def Db.F (K:Nat) (R:Al) (p0:Aa):Option Bool:=(Option.bind (R.C3 p0) (fun a1=>some (!a1)))
theorem Db.body {Γ:P4} {K:Nat} {R:Al} (hR:R.Ok) {p0:Aa} {r:Bool} (h:Db.F K R p0=some r):P1 V P 8 100 Γ (Tryz.f57.body.getD .skip) (Po P V Tryz.f57 (.B r) []) ⟨Pn 0 [.agg (Ah p0),.cv (.pcs [.fn (.func 92) [] []] 0)],[]⟩:=by
 unfold Db.F at h;refine Pl L 200 <| Pb ?_;obtain ⟨a1,h1,h⟩:=bind_some h;refine rg L 203 [] [(2,.B a1)] [] (Qu (C3.okR hR h1)) ?_;refine Pd ?_;cases h;exact Pt
def Cc.l7 (K:Nat) (R:Al) (p0:List Aa):Nat→Int→Option (Pq Int Unit)
 | 0,_=>none
 | k+1,a=>(if a <(p0.length:Int) then (if (0:Int)≤a∧(a:Int) <(p0.length:Int) then (Option.bind (R.Db (p0.getD (Int.toNat a) Ca)) (fun a1=>(if a1=true then some (Pq.done a) else Cc.l7 K R p0 k (IntKind.i64.wrap (a+1))))) else none) else some (Pq.go ()))
def Cc.F (K:Nat) (R:Al) (p0:List Aa):Option Int:=(obind (Cc.l7 K R p0 K 0:Option (Pq Int Unit)) (fun r=>r) (fun _=>some (-1)))
theorem Cc.body {Γ:P4} {K:Nat} {R:Al} (hR:R.Ok) {p0:List Aa} {r:Int} (h:Cc.F K R p0=some r):P1 V P 19 100 Γ (Tryz.f90.body.getD .skip) (Po P V Tryz.f90 (.I r) []) ⟨Pn 0 [.cv (.ro .Af p0),.cv (.fn (.func 57) [] [.pcs [.fn (.func 92) [] []] 0])],[]⟩:=by
 unfold Cc.F at h;refine Pl L 200 <| Pb <| Pl L 202 <| Pj <| kp (S':=⟨[(0,.cv (.ro .Af p0)),(1,.cv (.fn (.func 57) [] [.pcs [.fn (.func 92) [] []] 0])),(7,.I (p0.length:Int)),(8,.I 0)],[]⟩) ?_;obtain ⟨o1,hp1,h⟩:=Px h;refine Pu (Q':=fun e S=>(e=.exit 0∧S=⟨[],[]⟩∧Pq.go ()=o1)∨(e=.ret∧∃ a,Pq.done a=o1∧Po P V Tryz.f90 (.I a) [] .ret S)) (Pz (fun k S=>∃ b:Int,S=⟨[(0,.cv (.ro .Af p0)),(1,.cv (.fn (.func 57) [] [.pcs [.fn (.func 92) [] []] 0])),(7,.I (p0.length:Int)),(8,.I b)],[]⟩∧Cc.l7 K R p0 k b=some o1) ?_ ⟨_,rfl,hp1⟩) ?_
 ·clear h hp1;intro k S hS;obtain ⟨b,rfl,h⟩:=hS;cases k with
  | zero=>cases h
  | succ k =>
  unfold Cc.l7 at h;refine Pl L 206 <| Pb ?_;rcases Pc h with ⟨c1,h⟩ |⟨c1,h⟩
  ·refine tT c1 <| Pg <| Pb <| Pj <| Pl L 208 <| Pb ?_;obtain ⟨g1,h⟩:=Ph h;obtain ⟨a1,h1,h⟩:=bind_some h;refine rg L 211 [] [(5,.B a1)] [] (Pf g1.1 (Pf g1.2 (Pf (Db.okR hR h1) (Pk trivial)))) ?_;rcases Pc h with ⟨c2,h⟩ |⟨c2,h⟩
   ·refine tt c2 <| Pl L 218 <| Pd ?_;cases h;exact .inr ⟨rfl,_,rfl,Pt⟩
   refine fN c2 <| Pg <| Se L 221 [] [] [] (S':=⟨[(0,.cv (.ro .Af p0)),(1,.cv (.fn (.func 57) [] [.pcs [.fn (.func 92) [] []] 0])),(7,.I (p0.length:Int)),(8,.I (IntKind.i64.wrap (b+1)))],[]⟩) ?_;exact ⟨k,Nat.lt_succ_self k,_,rfl,h⟩
  refine fF c1 <| ex (S':=⟨[],[]⟩) ?_;cases h;exact .inl ⟨rfl,rfl,rfl⟩
 ·rintro e S (⟨rfl,rfl,rfl⟩ |⟨rfl,a,rfl,hr⟩)
  ·rcases h with ⟨_,e1,h⟩ |⟨_,e1,h⟩
   ·cases e1
   ·have e2:=Pq.go.inj e1;subst e2;refine ⟨_,Pa.refl,?_⟩;refine Pl L 224 <| Pd ?_;cases h;exact Pt
  ·rcases h with ⟨_,e1,h⟩ |⟨_,e1,h⟩
   ·have e2:=Pq.done.inj e1;subst e2;subst h;exact ⟨_,Pa.refl,hr⟩
   ·cases e1
def Cn.F (K:Nat) (R:Al) (p0:List Aa):Option Bool:=(Option.bind (R.Cc p0) (fun a1=>some (decide (a1≥0))))
theorem Cn.body {Γ:P4} {K:Nat} {R:Al} (hR:R.Ok) {p0:List Aa} {r:Bool} (h:Cn.F K R p0=some r):P1 V P 9 100 Γ (Tryz.f56.body.getD .skip) (Po P V Tryz.f56 (.B r) []) ⟨Pn 0 [.cv (.ro .Af p0),.cv (.fn (.func 57) [] [.pcs [.fn (.func 92) [] []] 0])],[]⟩:=by
 unfold Cn.F at h;refine Pl L 200 <| Pb ?_;obtain ⟨a1,h1,h⟩:=bind_some h;refine rg L 202 [] [(2,.I a1)] [] (Qu (Cc.okR hR h1)) ?_;refine Pd ?_;cases h;exact Pt
def Dp.F (K:Nat) (R:Al) (p0:List Aa):Option Bool:=(Option.bind (R.Cn p0) (fun a1=>some (!a1)))
theorem Dp.body {Γ:P4} {K:Nat} {R:Al} (hR:R.Ok) {p0:List Aa} {r:Bool} (h:Dp.F K R p0=some r):P1 V P 9 100 Γ (Tryz.f30.body.getD .skip) (Po P V Tryz.f30 (.B r) []) ⟨Pn 0 [.cv (.ro .Af p0),.cv (.fn (.func 92) [] [])],[]⟩:=by
 unfold Dp.F at h;refine Pl L 200 <| Pb ?_;obtain ⟨a1,h1,h⟩:=bind_some h;refine rg L 203 [] [(2,.B a1)] [] (Qu (Cn.okR hR h1)) ?_;refine Pd ?_;cases h;exact Pt
def Ci.F (K:Nat) (R:Al) (p0:Aa):Option Bool:=(if p0.Op=53 then (Option.bind (Ay K p0 false false false) (fun a1=>(if a1=true then (Option.bind (R.Dp p0.Kids) (fun a2=>some a2)) else some false))) else some false)
theorem Ci.body {Γ:P4} {K:Nat} {R:Al} (hR:R.Ok) {p0:Aa} {r:Bool} (h:Ci.F K R p0=some r):P1 V P 15 100 Γ (Tryz.f60.body.getD .skip) (Po P V Tryz.f60 (.B r) []) ⟨Pn 0 [.agg (Ah p0)],[]⟩:=by
 unfold Ci.F at h;refine Pl L 200 <| Pb ?_;rcases Pc h with ⟨c1,h⟩ |⟨c1,h⟩
 ·obtain ⟨a1,h1,h⟩:=bind_some h;rcases Pc h with ⟨c2,h⟩ |⟨c2,h⟩
  ·obtain ⟨a2,h2,h⟩:=bind_some h;refine rg L 203 [(3,true),(7,true)] [(5,.B a1),(10,.B a2)] [] (Pf (decide_eq_true c1) (Pf (Ay.ok h1) (Pf trivial (Pf c2 (Pf (Dp.okR hR h2) (Pk trivial)))))) ?_;refine Pd ?_;cases h;exact Pt
  refine rg L 203 [(3,true),(7,false)] [(5,.B a1)] [] (Pf (decide_eq_true c1) (Pf (Ay.ok h1) (Pf trivial (Pk (eq_false_of_ne_true c2))))) ?_;refine Pd ?_;cases h;exact Pt
 refine rg L 203 [(3,false)] [] [] (Pk (decide_eq_false c1)) ?_;refine Pd ?_;cases h;exact Pt
def Al.upto (K:Nat):Nat→Al
 | 0=>⟨fun _=>none,fun _=>none,fun _=>none,fun _=>none,fun _=>none,fun _=>none,fun _=>none,fun _=>none,fun _=>none,fun _=>none,fun _=>none,fun _=>none,fun _=>none,fun _=>none,fun _=>none,fun _=>none,fun _=>none⟩
 | k+1=>⟨Ef.F K (Al.upto K k),Df.F K (Al.upto K k),Cf.F K (Al.upto K k),Ck.F K (Al.upto K k),Dh.F K (Al.upto K k),D0.F K (Al.upto K k),Dd.F K (Al.upto K k),Cd.F K (Al.upto K k),Cl.F K (Al.upto K k),Di.F K (Al.upto K k),Dq.F K (Al.upto K k),C3.F K (Al.upto K k),Db.F K (Al.upto K k),Cc.F K (Al.upto K k),Cn.F K (Al.upto K k),Dp.F K (Al.upto K k),Ci.F K (Al.upto K k)⟩
theorem Al.upto_ok (K:Nat):∀ k,(Al.upto K k).Ok
 | 0=>⟨fun h=>(by cases h),fun h=>(by cases h),fun h=>(by cases h),fun h=>(by cases h),fun h=>(by cases h),fun h=>(by cases h),fun h=>(by cases h),fun h=>(by cases h),fun h=>(by cases h),fun h=>(by cases h),fun h=>(by cases h),fun h=>(by cases h),fun h=>(by cases h),fun h=>(by cases h),fun h=>(by cases h),fun h=>(by cases h),fun h=>(by cases h)⟩
 | k+1=>⟨fun {p0 r} h=>eo (fn:=Tryz.f120) (n:=47) (m:=100) fun Γ=>Ef.body (K:=K) (Al.upto_ok K k) h,fun {p0 r} h=>eo (fn:=Tryz.f57) (n:=8) (m:=100) fun Γ=>Df.body (K:=K) (Al.upto_ok K k) h,fun {p0 r} h=>eo (fn:=Tryz.f90) (n:=19) (m:=100) fun Γ=>Cf.body (K:=K) (Al.upto_ok K k) h,fun {p0 r} h=>eo (fn:=Tryz.f56) (n:=9) (m:=100) fun Γ=>Ck.body (K:=K) (Al.upto_ok K k) h,fun {p0 r} h=>eo (fn:=Tryz.f30) (n:=9) (m:=100) fun Γ=>Dh.body (K:=K) (Al.upto_ok K k) h,fun {p0 r} h=>eo (fn:=Tryz.f136) (n:=40) (m:=100) fun Γ=>D0.body (K:=K) (Al.upto_ok K k) h,fun {p0 r} h=>eo (fn:=Tryz.f57) (n:=8) (m:=100) fun Γ=>Dd.body (K:=K) (Al.upto_ok K k) h,fun {p0 r} h=>eo (fn:=Tryz.f90) (n:=19) (m:=100) fun Γ=>Cd.body (K:=K) (Al.upto_ok K k) h,fun {p0 r} h=>eo (fn:=Tryz.f56) (n:=9) (m:=100) fun Γ=>Cl.body (K:=K) (Al.upto_ok K k) h,fun {p0 r} h=>eo (fn:=Tryz.f30) (n:=9) (m:=100) fun Γ=>Di.body (K:=K) (Al.upto_ok K k) h,fun {p0 r} h=>eo (fn:=Tryz.f121) (n:=59) (m:=100) fun Γ=>Dq.body (K:=K) (Al.upto_ok K k) h,fun {p0 r} h=>eo (fn:=Tryz.f92) (n:=143) (m:=100) fun Γ=>C3.body (K:=K) (Al.upto_ok K k) h,fun {p0 r} h=>eo (fn:=Tryz.f57) (n:=8) (m:=100) fun Γ=>Db.body (K:=K) (Al.upto_ok K k) h,fun {p0 r} h=>eo (fn:=Tryz.f90) (n:=19) (m:=100) fun Γ=>Cc.body (K:=K) (Al.upto_ok K k) h,fun {p0 r} h=>eo (fn:=Tryz.f56) (n:=9) (m:=100) fun Γ=>Cn.body (K:=K) (Al.upto_ok K k) h,fun {p0 r} h=>eo (fn:=Tryz.f30) (n:=9) (m:=100) fun Γ=>Dp.body (K:=K) (Al.upto_ok K k) h,fun {p0 r} h=>eo (fn:=Tryz.f60) (n:=15) (m:=100) fun Γ=>Ci.body (K:=K) (Al.upto_ok K k) h⟩
def Ef (K:Nat) (p0:List Aa):Option Bool:=(Al.upto K K).Ef p0
theorem Ef.okE {K:Nat} {p0:List Aa} {r:Bool} (h:Ef K p0=some r):Pm V P 120 [.cv (.ro .Af p0)] [] [] (.B r) []:=(Al.upto_ok K K).Ef h
theorem Ef.ok {K:Nat} {p0:List Aa} {r:Bool} (h:Ef K p0=some r):Pr V P 120 [.cv (.ro .Af p0)] (.B r):=(Ef.okE h).pcall (by kernel_rfl)
def Df (K:Nat) (p0:Aa):Option Bool:=(Al.upto K K).Df p0
theorem Df.okE {K:Nat} {p0:Aa} {r:Bool} (h:Df K p0=some r):Pm V P 57 [.agg (Ah p0),.cv (.pcs [.fn (.func 60) [] []] 0)] [] [] (.B r) []:=(Al.upto_ok K K).Df h
theorem Df.ok {K:Nat} {p0:Aa} {r:Bool} (h:Df K p0=some r):Pr V P 57 [.agg (Ah p0),.cv (.pcs [.fn (.func 60) [] []] 0)] (.B r):=(Df.okE h).pcall (by kernel_rfl)
def Cf (K:Nat) (p0:List Aa):Option Int:=(Al.upto K K).Cf p0
theorem Cf.okE {K:Nat} {p0:List Aa} {r:Int} (h:Cf K p0=some r):Pm V P 90 [.cv (.ro .Af p0),.cv (.fn (.func 57) [] [.pcs [.fn (.func 60) [] []] 0])] [] [] (.I r) []:=(Al.upto_ok K K).Cf h
theorem Cf.ok {K:Nat} {p0:List Aa} {r:Int} (h:Cf K p0=some r):Pr V P 90 [.cv (.ro .Af p0),.cv (.fn (.func 57) [] [.pcs [.fn (.func 60) [] []] 0])] (.I r):=(Cf.okE h).pcall (by kernel_rfl)
def Ck (K:Nat) (p0:List Aa):Option Bool:=(Al.upto K K).Ck p0
theorem Ck.okE {K:Nat} {p0:List Aa} {r:Bool} (h:Ck K p0=some r):Pm V P 56 [.cv (.ro .Af p0),.cv (.fn (.func 57) [] [.pcs [.fn (.func 60) [] []] 0])] [] [] (.B r) []:=(Al.upto_ok K K).Ck h
theorem Ck.ok {K:Nat} {p0:List Aa} {r:Bool} (h:Ck K p0=some r):Pr V P 56 [.cv (.ro .Af p0),.cv (.fn (.func 57) [] [.pcs [.fn (.func 60) [] []] 0])] (.B r):=(Ck.okE h).pcall (by kernel_rfl)
def Dh (K:Nat) (p0:List Aa):Option Bool:=(Al.upto K K).Dh p0
theorem Dh.okE {K:Nat} {p0:List Aa} {r:Bool} (h:Dh K p0=some r):Pm V P 30 [.cv (.ro .Af p0),.cv (.fn (.func 60) [] [])] [] [] (.B r) []:=(Al.upto_ok K K).Dh h
theorem Dh.ok {K:Nat} {p0:List Aa} {r:Bool} (h:Dh K p0=some r):Pr V P 30 [.cv (.ro .Af p0),.cv (.fn (.func 60) [] [])] (.B r):=(Dh.okE h).pcall (by kernel_rfl)
def D0 (K:Nat) (p0:Aa):Option Bool:=(Al.upto K K).D0 p0
theorem D0.okE {K:Nat} {p0:Aa} {r:Bool} (h:D0 K p0=some r):Pm V P 136 [.agg (Ah p0)] [] [] (.B r) []:=(Al.upto_ok K K).D0 h
theorem D0.ok {K:Nat} {p0:Aa} {r:Bool} (h:D0 K p0=some r):Pr V P 136 [.agg (Ah p0)] (.B r):=(D0.okE h).pcall (by kernel_rfl)
def Dd (K:Nat) (p0:Aa):Option Bool:=(Al.upto K K).Dd p0
theorem Dd.okE {K:Nat} {p0:Aa} {r:Bool} (h:Dd K p0=some r):Pm V P 57 [.agg (Ah p0),.cv (.pcs [.fn (.func 136) [] []] 0)] [] [] (.B r) []:=(Al.upto_ok K K).Dd h
theorem Dd.ok {K:Nat} {p0:Aa} {r:Bool} (h:Dd K p0=some r):Pr V P 57 [.agg (Ah p0),.cv (.pcs [.fn (.func 136) [] []] 0)] (.B r):=(Dd.okE h).pcall (by kernel_rfl)
def Cd (K:Nat) (p0:List Aa):Option Int:=(Al.upto K K).Cd p0
theorem Cd.okE {K:Nat} {p0:List Aa} {r:Int} (h:Cd K p0=some r):Pm V P 90 [.cv (.ro .Af p0),.cv (.fn (.func 57) [] [.pcs [.fn (.func 136) [] []] 0])] [] [] (.I r) []:=(Al.upto_ok K K).Cd h
theorem Cd.ok {K:Nat} {p0:List Aa} {r:Int} (h:Cd K p0=some r):Pr V P 90 [.cv (.ro .Af p0),.cv (.fn (.func 57) [] [.pcs [.fn (.func 136) [] []] 0])] (.I r):=(Cd.okE h).pcall (by kernel_rfl)
def Cl (K:Nat) (p0:List Aa):Option Bool:=(Al.upto K K).Cl p0
theorem Cl.okE {K:Nat} {p0:List Aa} {r:Bool} (h:Cl K p0=some r):Pm V P 56 [.cv (.ro .Af p0),.cv (.fn (.func 57) [] [.pcs [.fn (.func 136) [] []] 0])] [] [] (.B r) []:=(Al.upto_ok K K).Cl h
theorem Cl.ok {K:Nat} {p0:List Aa} {r:Bool} (h:Cl K p0=some r):Pr V P 56 [.cv (.ro .Af p0),.cv (.fn (.func 57) [] [.pcs [.fn (.func 136) [] []] 0])] (.B r):=(Cl.okE h).pcall (by kernel_rfl)
def Di (K:Nat) (p0:List Aa):Option Bool:=(Al.upto K K).Di p0
theorem Di.okE {K:Nat} {p0:List Aa} {r:Bool} (h:Di K p0=some r):Pm V P 30 [.cv (.ro .Af p0),.cv (.fn (.func 136) [] [])] [] [] (.B r) []:=(Al.upto_ok K K).Di h
theorem Di.ok {K:Nat} {p0:List Aa} {r:Bool} (h:Di K p0=some r):Pr V P 30 [.cv (.ro .Af p0),.cv (.fn (.func 136) [] [])] (.B r):=(Di.okE h).pcall (by kernel_rfl)
def Dq (K:Nat) (p0:List Aa):Option Bool:=(Al.upto K K).Dq p0
theorem Dq.okE {K:Nat} {p0:List Aa} {r:Bool} (h:Dq K p0=some r):Pm V P 121 [.cv (.ro .Af p0)] [] [] (.B r) []:=(Al.upto_ok K K).Dq h
theorem Dq.ok {K:Nat} {p0:List Aa} {r:Bool} (h:Dq K p0=some r):Pr V P 121 [.cv (.ro .Af p0)] (.B r):=(Dq.okE h).pcall (by kernel_rfl)
def C3 (K:Nat) (p0:Aa):Option Bool:=(Al.upto K K).C3 p0
theorem C3.okE {K:Nat} {p0:Aa} {r:Bool} (h:C3 K p0=some r):Pm V P 92 [.agg (Ah p0)] [] [] (.B r) []:=(Al.upto_ok K K).C3 h
theorem C3.ok {K:Nat} {p0:Aa} {r:Bool} (h:C3 K p0=some r):Pr V P 92 [.agg (Ah p0)] (.B r):=(C3.okE h).pcall (by kernel_rfl)
def Db (K:Nat) (p0:Aa):Option Bool:=(Al.upto K K).Db p0
theorem Db.okE {K:Nat} {p0:Aa} {r:Bool} (h:Db K p0=some r):Pm V P 57 [.agg (Ah p0),.cv (.pcs [.fn (.func 92) [] []] 0)] [] [] (.B r) []:=(Al.upto_ok K K).Db h
theorem Db.ok {K:Nat} {p0:Aa} {r:Bool} (h:Db K p0=some r):Pr V P 57 [.agg (Ah p0),.cv (.pcs [.fn (.func 92) [] []] 0)] (.B r):=(Db.okE h).pcall (by kernel_rfl)
def Cc (K:Nat) (p0:List Aa):Option Int:=(Al.upto K K).Cc p0
theorem Cc.okE {K:Nat} {p0:List Aa} {r:Int} (h:Cc K p0=some r):Pm V P 90 [.cv (.ro .Af p0),.cv (.fn (.func 57) [] [.pcs [.fn (.func 92) [] []] 0])] [] [] (.I r) []:=(Al.upto_ok K K).Cc h
theorem Cc.ok {K:Nat} {p0:List Aa} {r:Int} (h:Cc K p0=some r):Pr V P 90 [.cv (.ro .Af p0),.cv (.fn (.func 57) [] [.pcs [.fn (.func 92) [] []] 0])] (.I r):=(Cc.okE h).pcall (by kernel_rfl)
def Cn (K:Nat) (p0:List Aa):Option Bool:=(Al.upto K K).Cn p0
theorem Cn.okE {K:Nat} {p0:List Aa} {r:Bool} (h:Cn K p0=some r):Pm V P 56 [.cv (.ro .Af p0),.cv (.fn (.func 57) [] [.pcs [.fn (.func 92) [] []] 0])] [] [] (.B r) []:=(Al.upto_ok K K).Cn h
theorem Cn.ok {K:Nat} {p0:List Aa} {r:Bool} (h:Cn K p0=some r):Pr V P 56 [.cv (.ro .Af p0),.cv (.fn (.func 57) [] [.pcs [.fn (.func 92) [] []] 0])] (.B r):=(Cn.okE h).pcall (by kernel_rfl)
def Dp (K:Nat) (p0:List Aa):Option Bool:=(Al.upto K K).Dp p0
theorem Dp.okE {K:Nat} {p0:List Aa} {r:Bool} (h:Dp K p0=some r):Pm V P 30 [.cv (.ro .Af p0),.cv (.fn (.func 92) [] [])] [] [] (.B r) []:=(Al.upto_ok K K).Dp h
theorem Dp.ok {K:Nat} {p0:List Aa} {r:Bool} (h:Dp K p0=some r):Pr V P 30 [.cv (.ro .Af p0),.cv (.fn (.func 92) [] [])] (.B r):=(Dp.okE h).pcall (by kernel_rfl)
def Ci (K:Nat) (p0:Aa):Option Bool:=(Al.upto K K).Ci p0
theorem Ci.okE {K:Nat} {p0:Aa} {r:Bool} (h:Ci K p0=some r):Pm V P 60 [.agg (Ah p0)] [] [] (.B r) []:=(Al.upto_ok K K).Ci h
theorem Ci.ok {K:Nat} {p0:Aa} {r:Bool} (h:Ci K p0=some r):Pr V P 60 [.agg (Ah p0)] (.B r):=(Ci.okE h).pcall (by kernel_rfl)
def Ei (K:Nat) (p0:Aa):Option Bool:=(if p0.Op=6 then (Option.bind (B4 K p0) (fun a1=>some a1)) else some false)
theorem Ei.body {Γ:P4} {K:Nat} {p0:Aa} {r:Bool} (h:Ei K p0=some r):P1 V P 10 100 Γ (Tryz.f61.body.getD .skip) (Po P V Tryz.f61 (.B r) []) ⟨Pn 0 [.agg (Ah p0)],[]⟩:=by
 unfold Ei at h;refine Pl L 200 <| Pb ?_;rcases Pc h with ⟨c1,h⟩ |⟨c1,h⟩
 ·obtain ⟨a1,h1,h⟩:=bind_some h;refine rg L 203 [(3,true)] [(5,.B a1)] [] (Pf (decide_eq_true c1) (Pf (B4.ok h1) (Pk trivial))) ?_;refine Pd ?_;cases h;exact Pt
 refine rg L 203 [(3,false)] [] [] (Pk (decide_eq_false c1)) ?_;refine Pd ?_;cases h;exact Pt
theorem Ei.ok {K:Nat} {p0:Aa} {r:Bool} (h:Ei K p0=some r):Pr V P 61 [.agg (Ah p0)] (.B r):=Pm.pcall (eo (fn:=Tryz.f61) (n:=10) (m:=100) fun Γ=>Ei.body h) (by kernel_rfl)
def Ey (K:Nat) (p0:Aa):Option Bool:=(Option.bind (Ei K p0) (fun a1=>some (!a1)))
theorem Ey.body {Γ:P4} {K:Nat} {p0:Aa} {r:Bool} (h:Ey K p0=some r):P1 V P 8 100 Γ (Tryz.f57.body.getD .skip) (Po P V Tryz.f57 (.B r) []) ⟨Pn 0 [.agg (Ah p0),.cv (.pcs [.fn (.func 61) [] []] 0)],[]⟩:=by
 unfold Ey at h;refine Pl L 200 <| Pb ?_;obtain ⟨a1,h1,h⟩:=bind_some h;refine rg L 203 [] [(2,.B a1)] [] (Qu (Ei.ok h1)) ?_;refine Pd ?_;cases h;exact Pt
theorem Ey.ok {K:Nat} {p0:Aa} {r:Bool} (h:Ey K p0=some r):Pr V P 57 [.agg (Ah p0),.cv (.pcs [.fn (.func 61) [] []] 0)] (.B r):=Pm.pcall (eo (fn:=Tryz.f57) (n:=8) (m:=100) fun Γ=>Ey.body h) (by kernel_rfl)
def Ds.l7 (K:Nat) (p0:List Aa):Nat→Int→Option (Pq Int Unit)
 | 0,_=>none
 | k+1,a=>(if a <(p0.length:Int) then (if (0:Int)≤a∧(a:Int) <(p0.length:Int) then (Option.bind (Ey K (p0.getD (Int.toNat a) Ca)) (fun a1=>(if a1=true then some (Pq.done a) else Ds.l7 K p0 k (IntKind.i64.wrap (a+1))))) else none) else some (Pq.go ()))
def Ds (K:Nat) (p0:List Aa):Option Int:=(obind (Ds.l7 K p0 K 0:Option (Pq Int Unit)) (fun r=>r) (fun _=>some (-1)))
theorem Ds.body {Γ:P4} {K:Nat} {p0:List Aa} {r:Int} (h:Ds K p0=some r):P1 V P 19 100 Γ (Tryz.f90.body.getD .skip) (Po P V Tryz.f90 (.I r) []) ⟨Pn 0 [.cv (.ro .Af p0),.cv (.fn (.func 57) [] [.pcs [.fn (.func 61) [] []] 0])],[]⟩:=by
 unfold Ds at h;refine Pl L 200 <| Pb <| Pl L 202 <| Pj <| kp (S':=⟨[(0,.cv (.ro .Af p0)),(1,.cv (.fn (.func 57) [] [.pcs [.fn (.func 61) [] []] 0])),(7,.I (p0.length:Int)),(8,.I 0)],[]⟩) ?_;obtain ⟨o1,hp1,h⟩:=Px h;refine Pu (Q':=fun e S=>(e=.exit 0∧S=⟨[],[]⟩∧Pq.go ()=o1)∨(e=.ret∧∃ a,Pq.done a=o1∧Po P V Tryz.f90 (.I a) [] .ret S)) (Pz (fun k S=>∃ b:Int,S=⟨[(0,.cv (.ro .Af p0)),(1,.cv (.fn (.func 57) [] [.pcs [.fn (.func 61) [] []] 0])),(7,.I (p0.length:Int)),(8,.I b)],[]⟩∧Ds.l7 K p0 k b=some o1) ?_ ⟨_,rfl,hp1⟩) ?_
 ·clear h hp1;intro k S hS;obtain ⟨b,rfl,h⟩:=hS;cases k with
  | zero=>cases h
  | succ k =>
  unfold Ds.l7 at h;refine Pl L 206 <| Pb ?_;rcases Pc h with ⟨c1,h⟩ |⟨c1,h⟩
  ·refine tT c1 <| Pg <| Pb <| Pj <| Pl L 208 <| Pb ?_;obtain ⟨g1,h⟩:=Ph h;obtain ⟨a1,h1,h⟩:=bind_some h;refine rg L 211 [] [(5,.B a1)] [] (Pf g1.1 (Pf g1.2 (Pf (Ey.ok h1) (Pk trivial)))) ?_;rcases Pc h with ⟨c2,h⟩ |⟨c2,h⟩
   ·refine tt c2 <| Pl L 218 <| Pd ?_;cases h;exact .inr ⟨rfl,_,rfl,Pt⟩
   refine fN c2 <| Pg <| Se L 221 [] [] [] (S':=⟨[(0,.cv (.ro .Af p0)),(1,.cv (.fn (.func 57) [] [.pcs [.fn (.func 61) [] []] 0])),(7,.I (p0.length:Int)),(8,.I (IntKind.i64.wrap (b+1)))],[]⟩) ?_;exact ⟨k,Nat.lt_succ_self k,_,rfl,h⟩
  refine fF c1 <| ex (S':=⟨[],[]⟩) ?_;cases h;exact .inl ⟨rfl,rfl,rfl⟩
 ·rintro e S (⟨rfl,rfl,rfl⟩ |⟨rfl,a,rfl,hr⟩)
  ·rcases h with ⟨_,e1,h⟩ |⟨_,e1,h⟩
   ·cases e1
   ·have e2:=Pq.go.inj e1;subst e2;refine ⟨_,Pa.refl,?_⟩;refine Pl L 224 <| Pd ?_;cases h;exact Pt
  ·rcases h with ⟨_,e1,h⟩ |⟨_,e1,h⟩
   ·have e2:=Pq.done.inj e1;subst e2;subst h;exact ⟨_,Pa.refl,hr⟩
   ·cases e1
theorem Ds.ok {K:Nat} {p0:List Aa} {r:Int} (h:Ds K p0=some r):Pr V P 90 [.cv (.ro .Af p0),.cv (.fn (.func 57) [] [.pcs [.fn (.func 61) [] []] 0])] (.I r):=Pm.pcall (eo (fn:=Tryz.f90) (n:=19) (m:=100) fun Γ=>Ds.body h) (by kernel_rfl)
def Ec (K:Nat) (p0:List Aa):Option Bool:=(Option.bind (Ds K p0) (fun a1=>some (decide (a1≥0))))
theorem Ec.body {Γ:P4} {K:Nat} {p0:List Aa} {r:Bool} (h:Ec K p0=some r):P1 V P 9 100 Γ (Tryz.f56.body.getD .skip) (Po P V Tryz.f56 (.B r) []) ⟨Pn 0 [.cv (.ro .Af p0),.cv (.fn (.func 57) [] [.pcs [.fn (.func 61) [] []] 0])],[]⟩:=by
 unfold Ec at h;refine Pl L 200 <| Pb ?_;obtain ⟨a1,h1,h⟩:=bind_some h;refine rg L 202 [] [(2,.I a1)] [] (Qu (Ds.ok h1)) ?_;refine Pd ?_;cases h;exact Pt
theorem Ec.ok {K:Nat} {p0:List Aa} {r:Bool} (h:Ec K p0=some r):Pr V P 56 [.cv (.ro .Af p0),.cv (.fn (.func 57) [] [.pcs [.fn (.func 61) [] []] 0])] (.B r):=Pm.pcall (eo (fn:=Tryz.f56) (n:=9) (m:=100) fun Γ=>Ec.body h) (by kernel_rfl)
def Fa (K:Nat) (p0:List Aa):Option Bool:=(Option.bind (Ec K p0) (fun a1=>some (!a1)))
theorem Fa.body {Γ:P4} {K:Nat} {p0:List Aa} {r:Bool} (h:Fa K p0=some r):P1 V P 9 100 Γ (Tryz.f30.body.getD .skip) (Po P V Tryz.f30 (.B r) []) ⟨Pn 0 [.cv (.ro .Af p0),.cv (.fn (.func 61) [] [])],[]⟩:=by
 unfold Fa at h;refine Pl L 200 <| Pb ?_;obtain ⟨a1,h1,h⟩:=bind_some h;refine rg L 203 [] [(2,.B a1)] [] (Qu (Ec.ok h1)) ?_;refine Pd ?_;cases h;exact Pt
theorem Fa.ok {K:Nat} {p0:List Aa} {r:Bool} (h:Fa K p0=some r):Pr V P 30 [.cv (.ro .Af p0),.cv (.fn (.func 61) [] [])] (.B r):=Pm.pcall (eo (fn:=Tryz.f30) (n:=9) (m:=100) fun Γ=>Fa.body h) (by kernel_rfl)
def Er (K:Nat) (p0:Aa):Option Bool:=(if (IntKind.i64.wrap ((p0.Kids.length:Int) - 1)) < 0 then some false else (Option.bind (B2 K p0.Name) (fun a1=>(if a1=true then (if p0.Op=61 then (Option.bind (Ay K p0 true false false) (fun a2=>(if a2=true then (if (IntKind.i64.wrap ((p0.Kids.length:Int) - 1))=0 then (if (0:Int) <(p0.Kids.length:Int) then (Option.bind (E1 K (p0.Kids.getD (Int.toNat 0) Ca)) (fun a3=>some a3)) else none) else some false) else some false))) else (if p0.Op=62 then (Option.bind (Ay K p0 true false false) (fun a4=>(if a4=true then (if (0:Int)≤(IntKind.i64.wrap ((p0.Kids.length:Int) - 1))∧((IntKind.i64.wrap ((p0.Kids.length:Int) - 1)):Int) <(p0.Kids.length:Int) then (Option.bind (Ci K (p0.Kids.getD (Int.toNat (IntKind.i64.wrap ((p0.Kids.length:Int) - 1))) Ca)) (fun a5=>(if a5=true then (if (IntKind.i64.wrap ((p0.Kids.length:Int) - 1))≤(p0.Kids.length:Int) then (Option.bind (Fa K (Ur p0.Kids 0 (IntKind.i64.wrap ((p0.Kids.length:Int) - 1)))) (fun a6=>some a6)) else none) else some false))) else none) else some false))) else (Option.bind ((if p0.Op=63 then some (decide (p0.Op=63)) else some (decide (p0.Op=64))):Option Bool) (fun a=>(if a=true then (Option.bind (Ay K p0 true true false) (fun a7=>(if a7=true then (Option.bind (B2 K p0.Text) (fun a8=>(if a8=true then (if (IntKind.i64.wrap ((p0.Kids.length:Int) - 1))=0 then (if (0:Int) <(p0.Kids.length:Int) then (Option.bind (Ci K (p0.Kids.getD (Int.toNat 0) Ca)) (fun a9=>some a9)) else none) else some false) else some false))) else some false))) else (if p0.Op=65 then (Option.bind (Ay K p0 true true false) (fun a10=>(if a10=true then (Option.bind (B2 K p0.Text) (fun a11=>(if a11=true then (if (IntKind.i64.wrap ((p0.Kids.length:Int) - 1))≤1 then (Option.bind (Dh K p0.Kids) (fun a12=>some a12)) else some false) else some false))) else some false))) else some false)))))) else some false))))
theorem Er.body {Γ:P4} {K:Nat} {p0:Aa} {r:Bool} (h:Er K p0=some r):P1 V P 91 100 Γ (Tryz.f31.body.getD .skip) (Po P V Tryz.f31 (.B r) []) ⟨Pn 0 [.agg (Ah p0)],[]⟩:=by
 unfold Er at h;refine Pl L 200 <| Pl L 203 <| Pb <| Pb ?_;rcases Pc h with ⟨c1,h⟩ |⟨c1,h⟩
 ·refine rg L 209 [(2,true)] [] [] (Pk (decide_eq_true c1)) ?_;refine tt (b:=true) (rfl) ?_;refine Pl L 218 <| Pd ?_;cases h;exact Pt
 obtain ⟨a1,h1,h⟩:=bind_some h;refine rg L 209 [(2,false)] [(5,.B a1)] [] (Pf (decide_eq_false c1) (Pf (B2.ok h1) (Pk trivial))) ?_;rcases Pc h with ⟨c2,h⟩ |⟨c2,h⟩
 ·refine ff (b:=(!a1)) (congrArg Bool.not (c2)) ?_;refine Pg <| Pb <| Pl L 220 <| Pj <| Pl L 223 ?_;rcases Pc h with ⟨c3,h⟩ |⟨c3,h⟩
  ·refine tT c3 <| Pb ?_;obtain ⟨a2,h2,h⟩:=bind_some h;rcases Pc h with ⟨c4,h⟩ |⟨c4,h⟩
   ·rcases Pc h with ⟨c5,h⟩ |⟨c5,h⟩
    ·obtain ⟨g1,h⟩:=Ph h;obtain ⟨a3,h3,h⟩:=bind_some h;refine rg L 226 [(2,true),(6,true)] [(1,.B a2),(11,.B a3)] [] (Pf (Ay.ok h2) (Pf trivial (Pf c4 (Pf (decide_eq_true c5) (Pf (show (0:Int)≤0 from by decide) (Pf g1 (Pf (E1.ok h3) (Pk trivial)))))))) ?_;refine Pd ?_;cases h;exact Pt
    refine rg L 226 [(2,true),(6,false)] [(1,.B a2)] [] (Pf (Ay.ok h2) (Pf trivial (Pf c4 (Pk (decide_eq_false c5))))) ?_;refine Pd ?_;cases h;exact Pt
   refine rg L 226 [(2,false)] [(1,.B a2)] [] (Pf (Ay.ok h2) (Pf trivial (Pk (eq_false_of_ne_true c4)))) ?_;refine Pd ?_;cases h;exact Pt
  refine fF c3 <| Pl L 241 ?_;rcases Pc h with ⟨c6,h⟩ |⟨c6,h⟩
  ·refine tT c6 <| Pb ?_;obtain ⟨a4,h4,h⟩:=bind_some h;rcases Pc h with ⟨c7,h⟩ |⟨c7,h⟩
   ·obtain ⟨g2,h⟩:=Ph h;obtain ⟨a5,h5,h⟩:=bind_some h;rcases Pc h with ⟨c8,h⟩ |⟨c8,h⟩
    ·obtain ⟨g3,h⟩:=Ph h;obtain ⟨a6,h6,h⟩:=bind_some h;refine rg L 244 [(2,true),(10,true)] [(1,.B a4),(8,.B a5),(15,.B a6)] [] (Pf (Ay.ok h4) (Pf trivial (Pf c7 (Pf g2.1 (Pf g2.2 (Pf (Ci.ok h5) (Pf trivial (Pf c8 (Pf (show (0:Int)≤0 from Int.le_refl _) (Pf g2.1 (Pf g3 (Pf (Fa.ok h6) (Pk trivial))))))))))))) ?_;refine Pd ?_;cases h;exact Pt
    refine rg L 244 [(2,true),(10,false)] [(1,.B a4),(8,.B a5)] [] (Pf (Ay.ok h4) (Pf trivial (Pf c7 (Pf g2.1 (Pf g2.2 (Pf (Ci.ok h5) (Pf trivial (Pk (eq_false_of_ne_true c8))))))))) ?_;refine Pd ?_;cases h;exact Pt
   refine rg L 244 [(2,false)] [(1,.B a4)] [] (Pf (Ay.ok h4) (Pf trivial (Pk (eq_false_of_ne_true c7)))) ?_;refine Pd ?_;cases h;exact Pt
  refine fF c6 ?_;obtain ⟨o1,hp1,h⟩:=bind_some h;refine Pb (P3 (Q':=fun e S=>(e=.normal∧∃ a:Bool,S=⟨[(1,.P 25800),(3,.I (IntKind.i64.wrap ((p0.Kids.length:Int) - 1))),(17,.I p0.Op),(52,.B a)],[(25800,.raw (Ah p0))]⟩∧a=o1)) ?_ ?_)
  ·clear h;replace h:=hp1;refine Pl L 263 ?_;rcases Pc h with ⟨c9,h⟩ |⟨c9,h⟩
   ·refine tT c9 <| Pe (Pa.trans (Pa.kk [1,3,17,52] [200]) (Pa.rr [(200,25800)])) ?_;refine sk (S':=⟨[(1,.P 25800),(3,.I (IntKind.i64.wrap ((p0.Kids.length:Int) - 1))),(17,.I p0.Op),(52,.B (decide (p0.Op=63)))],[(25800,.raw (Ah p0))]⟩) ?_;cases h;exact ⟨rfl,_,rfl,rfl⟩
   refine fF c9 <| Pp (Tj L 266 ⟨rfl,rfl⟩) (Pa.trans (Pa.kk [1,3,17,52] [200]) (Pa.trans (Pa.rr [(200,25800)]) (Pa.kp (S':=⟨[(1,.P 25800),(3,.I (IntKind.i64.wrap ((p0.Kids.length:Int) - 1))),(17,.I p0.Op),(52,.B (decide (p0.Op=64)))],[(25800,.raw (Ah p0))]⟩)))) ?_;cases h;exact ⟨rfl,_,rfl,rfl⟩
  ·rintro e S ⟨rfl,a,rfl,rfl⟩;rcases Pc h with ⟨c10,h⟩ |⟨c10,h⟩
   ·refine tt c10 <| Pb ?_;obtain ⟨a7,h7,h⟩:=bind_some h;rcases Pc h with ⟨c11,h⟩ |⟨c11,h⟩
    ·obtain ⟨a8,h8,h⟩:=bind_some h;rcases Pc h with ⟨c12,h⟩ |⟨c12,h⟩
     ·rcases Pc h with ⟨c13,h⟩ |⟨c13,h⟩
      ·obtain ⟨g4,h⟩:=Ph h;obtain ⟨a9,h9,h⟩:=bind_some h;refine rg L 269 [(2,true),(7,true),(11,true)] [(1,.B a7),(5,.B a8),(16,.B a9)] [] (Pf (Ay.ok h7) (Pf trivial (Pf c11 (Pf (B2.ok h8) (Pf trivial (Pf c12 (Pf (decide_eq_true c13) (Pf (show (0:Int)≤0 from by decide) (Pf g4 (Pf (Ci.ok h9) (Pk trivial))))))))))) ?_;refine Pd ?_;cases h;exact Pt
      refine rg L 269 [(2,true),(7,true),(11,false)] [(1,.B a7),(5,.B a8)] [] (Pf (Ay.ok h7) (Pf trivial (Pf c11 (Pf (B2.ok h8) (Pf trivial (Pf c12 (Pk (decide_eq_false c13)))))))) ?_;refine Pd ?_;cases h;exact Pt
     refine rg L 269 [(2,true),(7,false)] [(1,.B a7),(5,.B a8)] [] (Pf (Ay.ok h7) (Pf trivial (Pf c11 (Pf (B2.ok h8) (Pf trivial (Pk (eq_false_of_ne_true c12))))))) ?_;refine Pd ?_;cases h;exact Pt
    refine rg L 269 [(2,false)] [(1,.B a7)] [] (Pf (Ay.ok h7) (Pf trivial (Pk (eq_false_of_ne_true c11)))) ?_;refine Pd ?_;cases h;exact Pt
   refine fN c10 <| Pl L 289 ?_;rcases Pc h with ⟨c14,h⟩ |⟨c14,h⟩
   ·refine tT c14 <| Pb ?_;obtain ⟨a10,h10,h⟩:=bind_some h;rcases Pc h with ⟨c15,h⟩ |⟨c15,h⟩
    ·obtain ⟨a11,h11,h⟩:=bind_some h;rcases Pc h with ⟨c16,h⟩ |⟨c16,h⟩
     ·rcases Pc h with ⟨c17,h⟩ |⟨c17,h⟩
      ·obtain ⟨a12,h12,h⟩:=bind_some h;refine rg L 292 [(2,true),(7,true),(11,true)] [(1,.B a10),(5,.B a11),(14,.B a12)] [] (Pf (Ay.ok h10) (Pf trivial (Pf c15 (Pf (B2.ok h11) (Pf trivial (Pf c16 (Pf (decide_eq_true c17) (Pf (Dh.ok h12) (Pk trivial))))))))) ?_;refine Pd ?_;cases h;exact Pt
      refine rg L 292 [(2,true),(7,true),(11,false)] [(1,.B a10),(5,.B a11)] [] (Pf (Ay.ok h10) (Pf trivial (Pf c15 (Pf (B2.ok h11) (Pf trivial (Pf c16 (Pk (decide_eq_false c17)))))))) ?_;refine Pd ?_;cases h;exact Pt
     refine rg L 292 [(2,true),(7,false)] [(1,.B a10),(5,.B a11)] [] (Pf (Ay.ok h10) (Pf trivial (Pf c15 (Pf (B2.ok h11) (Pf trivial (Pk (eq_false_of_ne_true c16))))))) ?_;refine Pd ?_;cases h;exact Pt
    refine rg L 292 [(2,false)] [(1,.B a10)] [] (Pf (Ay.ok h10) (Pf trivial (Pk (eq_false_of_ne_true c15)))) ?_;refine Pd ?_;cases h;exact Pt
   refine fF c14 <| Pg <| Pl L 310 <| Pd ?_;cases h;exact Pt
 refine tt (b:=(!a1)) (congrArg Bool.not (eq_false_of_ne_true c2)) ?_;refine Pl L 218 <| Pd ?_;cases h;exact Pt
theorem Er.ok {K:Nat} {p0:Aa} {r:Bool} (h:Er K p0=some r):Pr V P 31 [.agg (Ah p0)] (.B r):=Pm.pcall (eo (fn:=Tryz.f31) (n:=91) (m:=100) fun Γ=>Er.body h) (by kernel_rfl)
def E9 (K:Nat) (p0:Aa):Option Bool:=(Option.bind (Er K p0) (fun a1=>some (!a1)))
theorem E9.body {Γ:P4} {K:Nat} {p0:Aa} {r:Bool} (h:E9 K p0=some r):P1 V P 8 100 Γ (Tryz.f57.body.getD .skip) (Po P V Tryz.f57 (.B r) []) ⟨Pn 0 [.agg (Ah p0),.cv (.pcs [.fn (.func 31) [] []] 0)],[]⟩:=by
 unfold E9 at h;refine Pl L 200 <| Pb ?_;obtain ⟨a1,h1,h⟩:=bind_some h;refine rg L 203 [] [(2,.B a1)] [] (Qu (Er.ok h1)) ?_;refine Pd ?_;cases h;exact Pt
theorem E9.ok {K:Nat} {p0:Aa} {r:Bool} (h:E9 K p0=some r):Pr V P 57 [.agg (Ah p0),.cv (.pcs [.fn (.func 31) [] []] 0)] (.B r):=Pm.pcall (eo (fn:=Tryz.f57) (n:=8) (m:=100) fun Γ=>E9.body h) (by kernel_rfl)
def D1.l7 (K:Nat) (p0:List Aa):Nat→Int→Option (Pq Int Unit)
 | 0,_=>none
 | k+1,a=>(if a <(p0.length:Int) then (if (0:Int)≤a∧(a:Int) <(p0.length:Int) then (Option.bind (E9 K (p0.getD (Int.toNat a) Ca)) (fun a1=>(if a1=true then some (Pq.done a) else D1.l7 K p0 k (IntKind.i64.wrap (a+1))))) else none) else some (Pq.go ()))
def D1 (K:Nat) (p0:List Aa):Option Int:=(obind (D1.l7 K p0 K 0:Option (Pq Int Unit)) (fun r=>r) (fun _=>some (-1)))
theorem D1.body {Γ:P4} {K:Nat} {p0:List Aa} {r:Int} (h:D1 K p0=some r):P1 V P 19 100 Γ (Tryz.f90.body.getD .skip) (Po P V Tryz.f90 (.I r) []) ⟨Pn 0 [.cv (.ro .Af p0),.cv (.fn (.func 57) [] [.pcs [.fn (.func 31) [] []] 0])],[]⟩:=by
 unfold D1 at h;refine Pl L 200 <| Pb <| Pl L 202 <| Pj <| kp (S':=⟨[(0,.cv (.ro .Af p0)),(1,.cv (.fn (.func 57) [] [.pcs [.fn (.func 31) [] []] 0])),(7,.I (p0.length:Int)),(8,.I 0)],[]⟩) ?_;obtain ⟨o1,hp1,h⟩:=Px h;refine Pu (Q':=fun e S=>(e=.exit 0∧S=⟨[],[]⟩∧Pq.go ()=o1)∨(e=.ret∧∃ a,Pq.done a=o1∧Po P V Tryz.f90 (.I a) [] .ret S)) (Pz (fun k S=>∃ b:Int,S=⟨[(0,.cv (.ro .Af p0)),(1,.cv (.fn (.func 57) [] [.pcs [.fn (.func 31) [] []] 0])),(7,.I (p0.length:Int)),(8,.I b)],[]⟩∧D1.l7 K p0 k b=some o1) ?_ ⟨_,rfl,hp1⟩) ?_
 ·clear h hp1;intro k S hS;obtain ⟨b,rfl,h⟩:=hS;cases k with
  | zero=>cases h
  | succ k =>
  unfold D1.l7 at h;refine Pl L 206 <| Pb ?_;rcases Pc h with ⟨c1,h⟩ |⟨c1,h⟩
  ·refine tT c1 <| Pg <| Pb <| Pj <| Pl L 208 <| Pb ?_;obtain ⟨g1,h⟩:=Ph h;obtain ⟨a1,h1,h⟩:=bind_some h;refine rg L 211 [] [(5,.B a1)] [] (Pf g1.1 (Pf g1.2 (Pf (E9.ok h1) (Pk trivial)))) ?_;rcases Pc h with ⟨c2,h⟩ |⟨c2,h⟩
   ·refine tt c2 <| Pl L 218 <| Pd ?_;cases h;exact .inr ⟨rfl,_,rfl,Pt⟩
   refine fN c2 <| Pg <| Se L 221 [] [] [] (S':=⟨[(0,.cv (.ro .Af p0)),(1,.cv (.fn (.func 57) [] [.pcs [.fn (.func 31) [] []] 0])),(7,.I (p0.length:Int)),(8,.I (IntKind.i64.wrap (b+1)))],[]⟩) ?_;exact ⟨k,Nat.lt_succ_self k,_,rfl,h⟩
  refine fF c1 <| ex (S':=⟨[],[]⟩) ?_;cases h;exact .inl ⟨rfl,rfl,rfl⟩
 ·rintro e S (⟨rfl,rfl,rfl⟩ |⟨rfl,a,rfl,hr⟩)
  ·rcases h with ⟨_,e1,h⟩ |⟨_,e1,h⟩
   ·cases e1
   ·have e2:=Pq.go.inj e1;subst e2;refine ⟨_,Pa.refl,?_⟩;refine Pl L 224 <| Pd ?_;cases h;exact Pt
  ·rcases h with ⟨_,e1,h⟩ |⟨_,e1,h⟩
   ·have e2:=Pq.done.inj e1;subst e2;subst h;exact ⟨_,Pa.refl,hr⟩
   ·cases e1
theorem D1.ok {K:Nat} {p0:List Aa} {r:Int} (h:D1 K p0=some r):Pr V P 90 [.cv (.ro .Af p0),.cv (.fn (.func 57) [] [.pcs [.fn (.func 31) [] []] 0])] (.I r):=Pm.pcall (eo (fn:=Tryz.f90) (n:=19) (m:=100) fun Γ=>D1.body h) (by kernel_rfl)
def Ek (K:Nat) (p0:List Aa):Option Bool:=(Option.bind (D1 K p0) (fun a1=>some (decide (a1≥0))))
theorem Ek.body {Γ:P4} {K:Nat} {p0:List Aa} {r:Bool} (h:Ek K p0=some r):P1 V P 9 100 Γ (Tryz.f56.body.getD .skip) (Po P V Tryz.f56 (.B r) []) ⟨Pn 0 [.cv (.ro .Af p0),.cv (.fn (.func 57) [] [.pcs [.fn (.func 31) [] []] 0])],[]⟩:=by
 unfold Ek at h;refine Pl L 200 <| Pb ?_;obtain ⟨a1,h1,h⟩:=bind_some h;refine rg L 202 [] [(2,.I a1)] [] (Qu (D1.ok h1)) ?_;refine Pd ?_;cases h;exact Pt
theorem Ek.ok {K:Nat} {p0:List Aa} {r:Bool} (h:Ek K p0=some r):Pr V P 56 [.cv (.ro .Af p0),.cv (.fn (.func 57) [] [.pcs [.fn (.func 31) [] []] 0])] (.B r):=Pm.pcall (eo (fn:=Tryz.f56) (n:=9) (m:=100) fun Γ=>Ek.body h) (by kernel_rfl)
def Fm (K:Nat) (p0:List Aa):Option Bool:=(Option.bind (Ek K p0) (fun a1=>some (!a1)))
theorem Fm.body {Γ:P4} {K:Nat} {p0:List Aa} {r:Bool} (h:Fm K p0=some r):P1 V P 9 100 Γ (Tryz.f30.body.getD .skip) (Po P V Tryz.f30 (.B r) []) ⟨Pn 0 [.cv (.ro .Af p0),.cv (.fn (.func 31) [] [])],[]⟩:=by
 unfold Fm at h;refine Pl L 200 <| Pb ?_;obtain ⟨a1,h1,h⟩:=bind_some h;refine rg L 203 [] [(2,.B a1)] [] (Qu (Ek.ok h1)) ?_;refine Pd ?_;cases h;exact Pt
theorem Fm.ok {K:Nat} {p0:List Aa} {r:Bool} (h:Fm K p0=some r):Pr V P 30 [.cv (.ro .Af p0),.cv (.fn (.func 31) [] [])] (.B r):=Pm.pcall (eo (fn:=Tryz.f30) (n:=9) (m:=100) fun Γ=>Fm.body h) (by kernel_rfl)
def Fg (K:Nat) (p0:Aa):Option Bool:=(Option.bind (E7 K p0) (fun a1=>(if a1=true then (if p0.Op=60 then (Option.bind (Ay K p0 false false false) (fun a2=>(if a2=true then (Option.bind (Fm K p0.Kids) (fun a3=>some a3)) else some false))) else some false) else some false)))
theorem Fg.body {Γ:P4} {K:Nat} {p0:Aa} {r:Bool} (h:Fg K p0=some r):P1 V P 19 100 Γ (Tryz.f13.body.getD .skip) (Po P V Tryz.f13 (.B r) []) ⟨Pn 0 [.agg (Ah p0)],[]⟩:=by
 unfold Fg at h;refine Pl L 200 <| Pb ?_;obtain ⟨a1,h1,h⟩:=bind_some h;rcases Pc h with ⟨c1,h⟩ |⟨c1,h⟩
 ·rcases Pc h with ⟨c2,h⟩ |⟨c2,h⟩
  ·obtain ⟨a2,h2,h⟩:=bind_some h;rcases Pc h with ⟨c3,h⟩ |⟨c3,h⟩
   ·obtain ⟨a3,h3,h⟩:=bind_some h;refine rg L 203 [(2,true),(7,true),(11,true)] [(1,.B a1),(9,.B a2),(14,.B a3)] [] (Pf (E7.ok h1) (Pf trivial (Pf c1 (Pf (decide_eq_true c2) (Pf (Ay.ok h2) (Pf trivial (Pf c3 (Pf (Fm.ok h3) (Pk trivial))))))))) ?_;refine Pd ?_;cases h;exact Pt
   refine rg L 203 [(2,true),(7,true),(11,false)] [(1,.B a1),(9,.B a2)] [] (Pf (E7.ok h1) (Pf trivial (Pf c1 (Pf (decide_eq_true c2) (Pf (Ay.ok h2) (Pf trivial (Pk (eq_false_of_ne_true c3)))))))) ?_;refine Pd ?_;cases h;exact Pt
  refine rg L 203 [(2,true),(7,false)] [(1,.B a1)] [] (Pf (E7.ok h1) (Pf trivial (Pf c1 (Pk (decide_eq_false c2))))) ?_;refine Pd ?_;cases h;exact Pt
 refine rg L 203 [(2,false)] [(1,.B a1)] [] (Pf (E7.ok h1) (Pf trivial (Pk (eq_false_of_ne_true c1)))) ?_;refine Pd ?_;cases h;exact Pt
theorem Fg.ok {K:Nat} {p0:Aa} {r:Bool} (h:Fg K p0=some r):Pr V P 13 [.agg (Ah p0)] (.B r):=Pm.pcall (eo (fn:=Tryz.f13) (n:=19) (m:=100) fun Γ=>Fg.body h) (by kernel_rfl)
def Dw (K:Nat):Option Bool:=(Option.bind (Em K ([97,32,43,32,98,32,42,32,50]:List UInt8)) (fun (b,g,c)=>(Option.bind (Em K ([97,32,60,32,98,32,60,32,99]:List UInt8)) (fun (h,d,e)=>(Option.bind (Fo K ([102,117,110,99,32,102,40,120,41,32,123,32,114,101,116,117,114,110,32,120,59,32,125]:List UInt8)) (fun (a,i,f)=>(if c=0 then (Option.bind (Bd K b ((⟨18,[],0,[],([(⟨6,([97]:List UInt8),0,[],([]:List Aa)⟩:Aa),(⟨15,[],0,[],([(⟨6,([98]:List UInt8),0,[],([]:List Aa)⟩:Aa),(⟨4,[],2,[],([]:List Aa)⟩:Aa)]:List Aa)⟩:Aa)]:List Aa)⟩:Aa))) (fun a4=>(if a4=true then (if d=6 then (if e=29 then (if f=0 then (Option.bind (Fg K a) (fun a5=>(if a5=true then (Option.bind (C2 K a) (fun a6=>some (decide (a6=6)))) else some false))) else some false) else some false) else some false) else some false))) else some false)))))))
theorem Dw.body {Γ:P4} {K:Nat} {r:Bool} (h:Dw K=some r):P1 V P 61 100 Γ (Tryz.f9.body.getD .skip) (Po P V Tryz.f9 (.B r) []) ⟨Pn 0 [],[]⟩:=by
 unfold Dw at h;refine Pl L 200 <| Pb ?_;obtain ⟨⟨a,b,c⟩,h1,h⟩:=bind_some h;dsimp only at h;refine rg L 202 [] [(0,.tup [.agg (Ah a),.I b,.I c])] [] (Qu (Em.ok h1)) ?_;refine Pb ?_;obtain ⟨⟨d,e,f⟩,h2,h⟩:=bind_some h;dsimp only at h;refine rg L 212 [] [(0,.tup [.agg (Ah d),.I e,.I f])] [] (Qu (Em.ok h2)) ?_;refine Pb ?_;obtain ⟨⟨g,i,j⟩,h3,h⟩:=bind_some h;dsimp only at h;refine rg L 222 [] [(0,.tup [.agg (Ah g),.I i,.I j])] [] (Qu (Fo.ok h3)) ?_;refine Pl L 232 <| Pb ?_;rcases Pc h with ⟨c1,h⟩ |⟨c1,h⟩
 ·obtain ⟨a4,h4,h⟩:=bind_some h;rcases Pc h with ⟨c2,h⟩ |⟨c2,h⟩
  ·rcases Pc h with ⟨c3,h⟩ |⟨c3,h⟩
   ·rcases Pc h with ⟨c4,h⟩ |⟨c4,h⟩
    ·rcases Pc h with ⟨c5,h⟩ |⟨c5,h⟩
     ·obtain ⟨a5,h5,h⟩:=bind_some h;rcases Pc h with ⟨c6,h⟩ |⟨c6,h⟩
      ·obtain ⟨a6,h6,h⟩:=bind_some h;refine rg L 242 [(2,true),(7,true),(11,true),(15,true),(19,true),(23,true)] [(5,.B a4),(21,.B a5),(25,.I a6)] [] (Pf (decide_eq_true c1) (Pf (Bd.ok h4) (Pf trivial (Pf c2 (Pf (decide_eq_true c3) (Pf (decide_eq_true c4) (Pf (decide_eq_true c5) (Pf (Fg.ok h5) (Pf trivial (Pf c6 (Pf (C2.ok h6) (Pk trivial)))))))))))) ?_;refine Pd ?_;cases h;exact Pt
      refine rg L 242 [(2,true),(7,true),(11,true),(15,true),(19,true),(23,false)] [(5,.B a4),(21,.B a5)] [] (Pf (decide_eq_true c1) (Pf (Bd.ok h4) (Pf trivial (Pf c2 (Pf (decide_eq_true c3) (Pf (decide_eq_true c4) (Pf (decide_eq_true c5) (Pf (Fg.ok h5) (Pf trivial (Pk (eq_false_of_ne_true c6))))))))))) ?_;refine Pd ?_;cases h;exact Pt
     refine rg L 242 [(2,true),(7,true),(11,true),(15,true),(19,false)] [(5,.B a4)] [] (Pf (decide_eq_true c1) (Pf (Bd.ok h4) (Pf trivial (Pf c2 (Pf (decide_eq_true c3) (Pf (decide_eq_true c4) (Pk (decide_eq_false c5)))))))) ?_;refine Pd ?_;cases h;exact Pt
    refine rg L 242 [(2,true),(7,true),(11,true),(15,false)] [(5,.B a4)] [] (Pf (decide_eq_true c1) (Pf (Bd.ok h4) (Pf trivial (Pf c2 (Pf (decide_eq_true c3) (Pk (decide_eq_false c4))))))) ?_;refine Pd ?_;cases h;exact Pt
   refine rg L 242 [(2,true),(7,true),(11,false)] [(5,.B a4)] [] (Pf (decide_eq_true c1) (Pf (Bd.ok h4) (Pf trivial (Pf c2 (Pk (decide_eq_false c3)))))) ?_;refine Pd ?_;cases h;exact Pt
  refine rg L 242 [(2,true),(7,false)] [(5,.B a4)] [] (Pf (decide_eq_true c1) (Pf (Bd.ok h4) (Pf trivial (Pk (eq_false_of_ne_true c2))))) ?_;refine Pd ?_;cases h;exact Pt
 refine rg L 242 [(2,false)] [] [] (Pk (decide_eq_false c1)) ?_;refine Pd ?_;cases h;exact Pt
theorem Dw.ok {K:Nat} {r:Bool} (h:Dw K=some r):Pr V P 9 [] (.B r):=Pm.pcall (eo (fn:=Tryz.f9) (n:=61) (m:=100) fun Γ=>Dw.body h) (by kernel_rfl)
def C8 (K:Nat) (p0:Int):Option Bool:=(if p0≥97 then (if p0≤122 then some true else (if p0≥65 then (if p0≤90 then some true else some (decide (p0=95))) else some (decide (p0=95)))) else (if p0≥65 then (if p0≤90 then some true else some (decide (p0=95))) else some (decide (p0=95))))
theorem C8.body {Γ:P4} {K:Nat} {p0:Int} {r:Bool} (h:C8 K p0=some r):P1 V P 21 100 Γ (Tryz.f109.body.getD .skip) (Po P V Tryz.f109 (.B r) []) ⟨Pn 0 [.cv (.lit (.int .u8 p0))],[]⟩:=by
 unfold C8 at h;refine Pl L 200 <| Pb ?_;rcases Pc h with ⟨c1,h⟩ |⟨c1,h⟩
 ·rcases Pc h with ⟨c2,h⟩ |⟨c2,h⟩
  ·refine rg L 202 [(2,true),(6,true)] [] [] (Q2 (decide_eq_true c1) (decide_eq_true c2)) ?_;refine Pd ?_;cases h;exact Pt
  rcases Pc h with ⟨c3,h⟩ |⟨c3,h⟩
  ·rcases Pc h with ⟨c4,h⟩ |⟨c4,h⟩
   ·refine rg L 202 [(2,true),(6,false),(9,true),(14,true)] [] [] (Pf (decide_eq_true c1) (Pf (decide_eq_false c2) (Pf (decide_eq_true c3) (Pk (decide_eq_true c4))))) ?_;refine Pd ?_;cases h;exact Pt
   refine rg L 202 [(2,true),(6,false),(9,true),(14,false)] [] [] (Pf (decide_eq_true c1) (Pf (decide_eq_false c2) (Pf (decide_eq_true c3) (Pk (decide_eq_false c4))))) ?_;refine Pd ?_;cases h;exact Pt
  refine rg L 202 [(2,true),(6,false),(9,false)] [] [] (Pf (decide_eq_true c1) (Pf (decide_eq_false c2) (Pk (decide_eq_false c3)))) ?_;refine Pd ?_;cases h;exact Pt
 rcases Pc h with ⟨c5,h⟩ |⟨c5,h⟩
 ·rcases Pc h with ⟨c6,h⟩ |⟨c6,h⟩
  ·refine rg L 202 [(2,false),(9,true),(14,true)] [] [] (Pf (decide_eq_false c1) (Pf (decide_eq_true c5) (Pk (decide_eq_true c6)))) ?_;refine Pd ?_;cases h;exact Pt
  refine rg L 202 [(2,false),(9,true),(14,false)] [] [] (Pf (decide_eq_false c1) (Pf (decide_eq_true c5) (Pk (decide_eq_false c6)))) ?_;refine Pd ?_;cases h;exact Pt
 refine rg L 202 [(2,false),(9,false)] [] [] (Q2 (decide_eq_false c1) (decide_eq_false c5)) ?_;refine Pd ?_;cases h;exact Pt
theorem C8.ok {K:Nat} {p0:Int} {r:Bool} (h:C8 K p0=some r):Pr V P 109 [.cv (.lit (.int .u8 p0))] (.B r):=Pm.pcall (eo (fn:=Tryz.f109) (n:=21) (m:=100) fun Γ=>C8.body h) (by kernel_rfl)
def Dl (K:Nat) (p0:Int):Option Bool:=(if p0≥48 then some (decide (p0≤57)) else some false)
theorem Dl.body {Γ:P4} {K:Nat} {p0:Int} {r:Bool} (h:Dl K p0=some r):P1 V P 9 100 Γ (Tryz.f110.body.getD .skip) (Po P V Tryz.f110 (.B r) []) ⟨Pn 0 [.cv (.lit (.int .u8 p0))],[]⟩:=by
 unfold Dl at h;refine Pl L 200 <| Pb ?_;rcases Pc h with ⟨c1,h⟩ |⟨c1,h⟩
 ·refine rg L 202 [(2,true)] [] [] (Pk (decide_eq_true c1)) ?_;refine Pd ?_;cases h;exact Pt
 refine rg L 202 [(2,false)] [] [] (Pk (decide_eq_false c1)) ?_;refine Pd ?_;cases h;exact Pt
theorem Dl.ok {K:Nat} {p0:Int} {r:Bool} (h:Dl K p0=some r):Pr V P 110 [.cv (.lit (.int .u8 p0))] (.B r):=Pm.pcall (eo (fn:=Tryz.f110) (n:=9) (m:=100) fun Γ=>Dl.body h) (by kernel_rfl)
def Ee (K:Nat):Option (List (List UInt8)):=some ([([97,110,100]:List UInt8),([97,119,97,105,116]:List UInt8),([99,97,115,101]:List UInt8),([99,97,116,99,104]:List UInt8),([99,104,101,99,107]:List UInt8),([101,108,115,101]:List UInt8),([102,97,108,115,101]:List UInt8),([102,117,110,99]:List UInt8),([103,111]:List UInt8),([105,102]:List UInt8),([108,101,116]:List UInt8),([110,111,116]:List UInt8),([110,117,108,108]:List UInt8),([111,110]:List UInt8),([111,114]:List UInt8),([113,117,101,114,121]:List UInt8),([114,101,116,117,114,110]:List UInt8),([115,97,103,97]:List UInt8),([115,101,108,101,99,116]:List UInt8),([115,105,103,110,97,108]:List UInt8),([116,104,114,111,119]:List UInt8),([116,114,117,101]:List UInt8),([116,114,121]:List UInt8),([117,110,100,111]:List UInt8),([117,112,100,97,116,101]:List UInt8),([118,97,114]:List UInt8),([119,104,105,108,101]:List UInt8)]:List (List UInt8))
theorem Ee.body {Γ:P4} {K:Nat} {r:List (List UInt8)} (h:Ee K=some r):P1 V P 2 100 Γ (Tryz.f123.body.getD .skip) (Po P V Tryz.f123 (.cv (.ro .C4 r)) []) ⟨Pn 0 [],[]⟩:=by
 unfold Ee at h;refine Pl L 200 <| Pl L 202 <| Pd ?_;cases h;exact Pt
theorem Ee.ok {K:Nat} {r:List (List UInt8)} (h:Ee K=some r):Pr V P 123 [] (.cv (.ro .C4 r)):=Pm.pcall (eo (fn:=Tryz.f123) (n:=2) (m:=100) fun Γ=>Ee.body h) (by kernel_rfl)
def C5.l7 (K:Nat) (p0:List UInt8) (a1:List (List UInt8)):Nat→Int→Option (Pq Bool Unit)
 | 0,_=>none
 | k+1,a=>(if a <(a1.length:Int) then (if (0:Int)≤a∧(a:Int) <(a1.length:Int) then (if (a1.getD (Int.toNat a) ([]:List UInt8))=p0 then some (Pq.done true) else C5.l7 K p0 a1 k (IntKind.i64.wrap (a+1))) else none) else some (Pq.go ()))
def C5 (K:Nat) (p0:List UInt8):Option Bool:=(Option.bind (Ee K) (fun a1=>(obind (C5.l7 K p0 a1 K 0:Option (Pq Bool Unit)) (fun r=>r) (fun _=>some false))))
theorem C5.body {Γ:P4} {K:Nat} {p0:List UInt8} {r:Bool} (h:C5 K p0=some r):P1 V P 15 100 Γ (Tryz.f95.body.getD .skip) (Po P V Tryz.f95 (.B r) []) ⟨Pn 0 [.cv (.str p0)],[]⟩:=by
 unfold C5 at h;refine Pl L 200 <| Pb <| Pb ?_;obtain ⟨a1,h1,h⟩:=bind_some h;refine rg L 202 [] [(0,.cv (.ro .C4 a1))] [] (Qu (Ee.ok h1)) ?_;refine Pj <| kp (S':=⟨[(0,.cv (.str p0)),(5,.cv (.ro .C4 a1)),(6,.I (a1.length:Int)),(7,.I 0)],[]⟩) ?_;obtain ⟨o1,hp1,h⟩:=Px h;refine Pu (Q':=fun e S=>(e=.exit 0∧S=⟨[],[]⟩∧Pq.go ()=o1)∨(e=.ret∧∃ a,Pq.done a=o1∧Po P V Tryz.f95 (.B a) [] .ret S)) (Pz (fun k S=>∃ b:Int,S=⟨[(0,.cv (.str p0)),(5,.cv (.ro .C4 a1)),(6,.I (a1.length:Int)),(7,.I b)],[]⟩∧C5.l7 K p0 a1 k b=some o1) ?_ ⟨_,rfl,hp1⟩) ?_
 ·clear h hp1;intro k S hS;obtain ⟨b,rfl,h⟩:=hS;cases k with
  | zero=>cases h
  | succ k =>
  unfold C5.l7 at h;refine Pl L 206 <| Pb ?_;rcases Pc h with ⟨c1,h⟩ |⟨c1,h⟩
  ·refine tT c1 <| Pg <| Pb <| Pj <| Pb ?_;obtain ⟨g1,h⟩:=Ph h;refine rg L 208 [] [] [] (Q2 g1.1 g1.2) ?_;refine Pl L 212 ?_;rcases Pc h with ⟨c2,h⟩ |⟨c2,h⟩
   ·refine tT c2 <| Pl L 216 <| Pd ?_;cases h;exact .inr ⟨rfl,_,rfl,Pt⟩
   refine fF c2 <| Pg <| Se L 218 [] [] [] (S':=⟨[(0,.cv (.str p0)),(5,.cv (.ro .C4 a1)),(6,.I (a1.length:Int)),(7,.I (IntKind.i64.wrap (b+1)))],[]⟩) ?_;exact ⟨k,Nat.lt_succ_self k,_,rfl,h⟩
  refine fF c1 <| ex (S':=⟨[],[]⟩) ?_;cases h;exact .inl ⟨rfl,rfl,rfl⟩
 ·rintro e S (⟨rfl,rfl,rfl⟩ |⟨rfl,a,rfl,hr⟩)
  ·rcases h with ⟨_,e1,h⟩ |⟨_,e1,h⟩
   ·cases e1
   ·have e2:=Pq.go.inj e1;subst e2;refine ⟨_,Pa.refl,?_⟩;refine Pl L 221 <| Pd ?_;cases h;exact Pt
  ·rcases h with ⟨_,e1,h⟩ |⟨_,e1,h⟩
   ·have e2:=Pq.done.inj e1;subst e2;subst h;exact ⟨_,Pa.refl,hr⟩
   ·cases e1
theorem C5.ok {K:Nat} {p0:List UInt8} {r:Bool} (h:C5 K p0=some r):Pr V P 95 [.cv (.str p0)] (.B r):=Pm.pcall (eo (fn:=Tryz.f95) (n:=15) (m:=100) fun Γ=>C5.body h) (by kernel_rfl)
def Cq.l7 (K:Nat) (p0:List UInt8):Nat→Int→Option Int
 | 0,_=>none
 | k+1,a=>(if a <(p0.length:Int) then (if (0:Int)≤a∧(a:Int) <(p0.length:Int) then (Option.bind (Dl K ((p0.getD (Int.toNat a) 0).toNat:Int)) (fun a1=>(if a1=true then Cq.l7 K p0 k (IntKind.i64.wrap (a+1)) else some a))) else none) else some a)
def Cq.l30 (K:Nat) (p0:List UInt8) (c:Int):Nat→Int→Int→Option (Pq (Int×Int×Int) Int)
 | 0,_,_=>none
 | k+1,b,a=>(if a < c then (if (0:Int)≤a∧(a:Int) <(p0.length:Int) then (if b >(IntKind.i64.wrap (Int.tdiv ((IntKind.i64.wrap (9223372036854775807 - (IntKind.i64.wrap (IntKind.u8.wrap (((p0.getD (Int.toNat a) 0).toNat:Int) - 48)))))) 10)) then some (Pq.done (0,0,14)) else Cq.l30 K p0 c k ((IntKind.i64.wrap ((IntKind.i64.wrap (10 * b))+(IntKind.i64.wrap (IntKind.u8.wrap (((p0.getD (Int.toNat a) 0).toNat:Int) - 48)))))) (IntKind.i64.wrap (a+1))) else none) else some (Pq.go b))
def Cq (K:Nat) (p0:List UInt8):Option (Int×Int×Int):=(Option.bind (Cq.l7 K p0 K 0:Option Int) (fun a=>(obind (((if a > 1 then (if (0:Int) <(p0.length:Int) then (if ((p0.getD (Int.toNat 0) 0).toNat:Int)=48 then some (Pq.done (0,0,3)) else (if a <(p0.length:Int) then (if (0:Int)≤a∧(a:Int) <(p0.length:Int) then (Option.bind (C8 K ((p0.getD (Int.toNat a) 0).toNat:Int)) (fun a2=>(if a2=true then some (Pq.done (0,0,3)) else some (Pq.go ())))) else none) else some (Pq.go ()))) else none) else (if a <(p0.length:Int) then (if (0:Int)≤a∧(a:Int) <(p0.length:Int) then (Option.bind (C8 K ((p0.getD (Int.toNat a) 0).toNat:Int)) (fun a3=>(if a3=true then some (Pq.done (0,0,3)) else some (Pq.go ())))) else none) else some (Pq.go ())))):Option (Pq (Int×Int×Int) Unit)) (fun r=>r) (fun _=>(obind (Cq.l30 K p0 a K 0 0:Option (Pq (Int×Int×Int) Int)) (fun r=>r) (fun b=>some (b,a,0)))))))
theorem Cq.body {Γ:P4} {K:Nat} {p0:List UInt8} {r:Int×Int×Int} (h:Cq K p0=some r):P1 V P 61 100 Γ (Tryz.f111.body.getD .skip) (Po P V Tryz.f111 (.tup [.I r.1,.I r.2.1,.I r.2.2]) []) ⟨Pn 0 [.cv (.str p0)],[]⟩:=by
 unfold Cq at h;refine Pl L 200 <| Pl L 204 <| Pb <| Pj <| kp (S':=⟨[(0,.cv (.str p0)),(5,.I 0)],[]⟩) ?_;obtain ⟨o1,hp1,h⟩:=bind_some h;refine Pu (Q':=fun e S=>(e=.exit 0∧∃ c:Int,S=⟨[(0,.cv (.str p0)),(5,.I c)],[]⟩∧c=o1)) (Pz (fun k S=>∃ g:Int,S=⟨[(0,.cv (.str p0)),(5,.I g)],[]⟩∧Cq.l7 K p0 k g=some o1) ?_ ⟨_,rfl,hp1⟩) ?_
 ·clear h hp1;intro k S hS;obtain ⟨g,rfl,h⟩:=hS;cases k with
  | zero=>cases h
  | succ k =>
  unfold Cq.l7 at h;refine Pb <| Pb ?_;rcases Pc h with ⟨c1,h⟩ |⟨c1,h⟩
  ·obtain ⟨g1,h⟩:=Ph h;obtain ⟨a1,h1,h⟩:=bind_some h;refine rg L 206 [(4,true)] [(8,.B a1)] [] (Pf (decide_eq_true c1) (Pf g1.1 (Pf g1.2 (Pf (Dl.ok h1) (Pk trivial))))) ?_;rcases Pc h with ⟨c2,h⟩ |⟨c2,h⟩
   ·refine tt c2 <| Pg <| Pj <| Se L 217 [] [] [] (S':=⟨[(0,.cv (.str p0)),(5,.I (IntKind.i64.wrap (g+1)))],[]⟩) ?_;exact ⟨k,Nat.lt_succ_self k,_,rfl,h⟩
   refine fN c2 <| ex (S':=⟨[(0,.cv (.str p0)),(5,.I g)],[]⟩) ?_;cases h;exact ⟨rfl,_,rfl,rfl⟩
  refine rg L 206 [(4,false)] [] [] (Pk (decide_eq_false c1)) ?_;refine ff (b:=false) (rfl) ?_;refine ex (S':=⟨[(0,.cv (.str p0)),(5,.I g)],[]⟩) ?_;cases h;exact ⟨rfl,_,rfl,rfl⟩
 ·rintro e S ⟨rfl,c,rfl,rfl⟩;refine ⟨_,Pa.refl,?_⟩;obtain ⟨o2,hp2,h⟩:=Px h;refine Pb (P3 (Q':=fun e S=>(e=.normal∧S=⟨[(0,.cv (.str p0)),(5,.I c)],[]⟩∧Pq.go ()=o2)∨(e=.ret∧∃ a,Pq.done a=o2∧Po P V Tryz.f111 (.tup [.I a.1,.I a.2.1,.I a.2.2]) [] .ret S)) ?_ ?_)
  ·clear h;replace h:=hp2;refine Pb ?_;rcases Pc h with ⟨c3,h⟩ |⟨c3,h⟩
   ·obtain ⟨g2,h⟩:=Ph h;rcases Pc h with ⟨c4,h⟩ |⟨c4,h⟩
    ·refine rg L 221 [(2,true),(7,true)] [] [] (Pf (decide_eq_true c3) (Pf (show (0:Int)≤0 from by decide) (Pf g2 (Pk (decide_eq_true c4))))) ?_;refine tt (b:=true) (rfl) ?_;refine Pl L 241 <| Pd ?_;cases h;exact .inr ⟨rfl,_,rfl,Pt⟩
    rcases Pc h with ⟨c5,h⟩ |⟨c5,h⟩
    ·obtain ⟨g3,h⟩:=Ph h;obtain ⟨a2,h2,h⟩:=bind_some h;refine rg L 221 [(2,true),(7,false),(12,true)] [(16,.B a2)] [] (Pf (decide_eq_true c3) (Pf (show (0:Int)≤0 from by decide) (Pf g2 (Pf (decide_eq_false c4) (Pf (decide_eq_true c5) (Pf g3.1 (Pf g3.2 (Pf (C8.ok h2) (Pk trivial))))))))) ?_;rcases Pc h with ⟨c6,h⟩ |⟨c6,h⟩
     ·refine tt c6 <| Pl L 241 <| Pd ?_;cases h;exact .inr ⟨rfl,_,rfl,Pt⟩
     refine fN c6 <| sk (S':=⟨[(0,.cv (.str p0)),(5,.I c)],[]⟩) ?_;cases h;exact .inl ⟨rfl,rfl,rfl⟩
    refine rg L 221 [(2,true),(7,false),(12,false)] [] [] (Pf (decide_eq_true c3) (Pf (show (0:Int)≤0 from by decide) (Pf g2 (Pf (decide_eq_false c4) (Pk (decide_eq_false c5)))))) ?_;refine ff (b:=false) (rfl) ?_;refine sk (S':=⟨[(0,.cv (.str p0)),(5,.I c)],[]⟩) ?_;cases h;exact .inl ⟨rfl,rfl,rfl⟩
   rcases Pc h with ⟨c7,h⟩ |⟨c7,h⟩
   ·obtain ⟨g4,h⟩:=Ph h;obtain ⟨a3,h3,h⟩:=bind_some h;refine rg L 221 [(2,false),(12,true)] [(16,.B a3)] [] (Pf (decide_eq_false c3) (Pf (decide_eq_true c7) (Pf g4.1 (Pf g4.2 (Pf (C8.ok h3) (Pk trivial)))))) ?_;rcases Pc h with ⟨c8,h⟩ |⟨c8,h⟩
    ·refine tt c8 <| Pl L 241 <| Pd ?_;cases h;exact .inr ⟨rfl,_,rfl,Pt⟩
    refine fN c8 <| sk (S':=⟨[(0,.cv (.str p0)),(5,.I c)],[]⟩) ?_;cases h;exact .inl ⟨rfl,rfl,rfl⟩
   refine rg L 221 [(2,false),(12,false)] [] [] (Q2 (decide_eq_false c3) (decide_eq_false c7)) ?_;refine ff (b:=false) (rfl) ?_;refine sk (S':=⟨[(0,.cv (.str p0)),(5,.I c)],[]⟩) ?_;cases h;exact .inl ⟨rfl,rfl,rfl⟩
  ·rintro e S (⟨rfl,rfl,rfl⟩ |⟨rfl,a,rfl,hr⟩)
   ·rcases h with ⟨_,e1,h⟩ |⟨_,e1,h⟩
    ·cases e1
    ·have e2:=Pq.go.inj e1;subst e2;refine Pl L 245 <| Pb <| Pl L 247 <| Pj <| kp (S':=⟨[(0,.cv (.str p0)),(5,.I c),(6,.I 0),(7,.I 0)],[]⟩) ?_;obtain ⟨o3,hp3,h⟩:=Px h;refine Pu (Q':=fun e S=>(e=.exit 2∧∃ i:Int,S=⟨[(5,.I c),(6,.I i)],[]⟩∧Pq.go i=o3)∨(e=.ret∧∃ a,Pq.done a=o3∧Po P V Tryz.f111 (.tup [.I a.1,.I a.2.1,.I a.2.2]) [] .ret S)) (Pz (fun k S=>∃ d:Int,∃ f:Int,S=⟨[(0,.cv (.str p0)),(5,.I c),(6,.I d),(7,.I f)],[]⟩∧Cq.l30 K p0 c k d f=some o3) ?_ ⟨_,_,rfl,hp3⟩) ?_
     ·clear h hp3;intro k S hS;obtain ⟨d,f,rfl,h⟩:=hS;cases k with
      | zero=>cases h
      | succ k =>
      unfold Cq.l30 at h;refine Pb <| Pl L 249 ?_;rcases Pc h with ⟨c9,h⟩ |⟨c9,h⟩
      ·refine tT c9 <| Pg <| Pb <| Pj <| Pb ?_;obtain ⟨g5,h⟩:=Ph h;refine rg L 253 [] [] [] (Q2 g5.1 g5.2) ?_;refine Pb <| sg L 260 [] [] [] (Pk (show 10≠(0:Int) from by decide)) ?_;rcases Pc h with ⟨c10,h⟩ |⟨c10,h⟩
       ·refine tT c10 <| Pl L 266 <| Pd ?_;cases h;exact .inr ⟨rfl,_,rfl,Pt⟩
       refine fF c10 <| Pg <| Tj L 270 ?_;refine Se L 276 [] [] [] (S':=⟨[(0,.cv (.str p0)),(5,.I c),(6,.I ((IntKind.i64.wrap ((IntKind.i64.wrap (10 * d))+(IntKind.i64.wrap (IntKind.u8.wrap (((p0.getD (Int.toNat f) 0).toNat:Int) - 48))))))),(7,.I (IntKind.i64.wrap (f+1)))],[]⟩) ?_;exact ⟨k,Nat.lt_succ_self k,_,_,rfl,h⟩
      refine fF c9 <| ex (S':=⟨[(5,.I c),(6,.I d)],[]⟩) ?_;cases h;exact .inl ⟨rfl,_,rfl,rfl⟩
     ·rintro e S (⟨rfl,i,rfl,rfl⟩ |⟨rfl,a,rfl,hr⟩)
      ·rcases h with ⟨_,e1,h⟩ |⟨_,e1,h⟩
       ·cases e1
       ·have e2:=Pq.go.inj e1;subst e2;refine ⟨_,Pa.refl,?_⟩;refine Pl L 280 <| Pd ?_;cases h;exact Pt
      ·rcases h with ⟨_,e1,h⟩ |⟨_,e1,h⟩
       ·have e2:=Pq.done.inj e1;subst e2;subst h;exact ⟨_,Pa.refl,hr⟩
       ·cases e1
   ·rcases h with ⟨_,e1,h⟩ |⟨_,e1,h⟩
    ·have e2:=Pq.done.inj e1;subst e2;subst h;exact hr
    ·cases e1
theorem Cq.ok {K:Nat} {p0:List UInt8} {r:Int×Int×Int} (h:Cq K p0=some r):Pr V P 111 [.cv (.str p0)] (.tup [.I r.1,.I r.2.1,.I r.2.2]):=Pm.pcall (eo (fn:=Tryz.f111) (n:=61) (m:=100) fun Γ=>Cq.body h) (by kernel_rfl)
def Eh (K:Nat) (p0:Int):Option Int:=(Option.bind (Dl K p0) (fun a1=>(if a1=true then some (IntKind.i64.wrap (IntKind.u8.wrap (p0 - 48))) else (if p0≥97 then (if p0≤102 then some (IntKind.i64.wrap ((IntKind.i64.wrap (IntKind.u8.wrap (p0 - 97)))+10)) else some (-1)) else some (-1)))))
theorem Eh.body {Γ:P4} {K:Nat} {p0:Int} {r:Int} (h:Eh K p0=some r):P1 V P 18 100 Γ (Tryz.f128.body.getD .skip) (Po P V Tryz.f128 (.I r) []) ⟨Pn 0 [.cv (.lit (.int .u8 p0))],[]⟩:=by
 unfold Eh at h;refine Pl L 200 <| Pb <| Pb ?_;obtain ⟨a1,h1,h⟩:=bind_some h;refine rg L 202 [] [(1,.B a1)] [] (Qu (Dl.ok h1)) ?_;rcases Pc h with ⟨c1,h⟩ |⟨c1,h⟩
 ·refine tt c1 <| Pl L 205 <| Pd ?_;cases h;exact Pt
 refine fN c1 <| Pg <| Pb <| Pb ?_;rcases Pc h with ⟨c2,h⟩ |⟨c2,h⟩
 ·refine rg L 210 [(2,true)] [] [] (Pk (decide_eq_true c2)) ?_;rcases Pc h with ⟨c3,h⟩ |⟨c3,h⟩
  ·refine tT c3 <| Pl L 217 <| Pd ?_;cases h;exact Pt
  refine fF c3 <| Pg <| Pl L 223 <| Pd ?_;cases h;exact Pt
 refine rg L 210 [(2,false)] [] [] (Pk (decide_eq_false c2)) ?_;refine ff (b:=false) (rfl) ?_;refine Pg <| Pl L 223 <| Pd ?_;cases h;exact Pt
theorem Eh.ok {K:Nat} {p0:Int} {r:Int} (h:Eh K p0=some r):Pr V P 128 [.cv (.lit (.int .u8 p0))] (.I r):=Pm.pcall (eo (fn:=Tryz.f128) (n:=18) (m:=100) fun Γ=>Eh.body h) (by kernel_rfl)
def Bz.l95 (K:Nat) (p0:List UInt8) (b:Int):Nat→Int→Int→Option (Pq ((List UInt8)×Int×Int) Int)
 | 0,_,_=>none
 | k+1,c,a=>(if a≤3 then (if (IntKind.i64.wrap (b+a))≥(p0.length:Int) then some (Pq.done (([]:List UInt8),0,4)) else (if (0:Int)≤(IntKind.i64.wrap (b+a))∧((IntKind.i64.wrap (b+a)):Int) <(p0.length:Int) then (Option.bind (Eh K ((p0.getD (Int.toNat (IntKind.i64.wrap (b+a))) 0).toNat:Int)) (fun a1=>(if a1 < 0 then some (Pq.done (([]:List UInt8),0,3)) else (Option.bind (Eh K ((p0.getD (Int.toNat (IntKind.i64.wrap (b+a))) 0).toNat:Int)) (fun a2=>Bz.l95 K p0 b k (IntKind.i64.wrap ((IntKind.i64.wrap (16 * c))+a2)) (IntKind.i64.wrap (a+1))))))) else none)) else some (Pq.go c))
def Bz.l9 (K:Nat) (p0:List UInt8):Nat→Int→(List UInt8)→Option (Pq ((List UInt8)×Int×Int) Unit)
 | 0,_,_=>none
 | k+1,a,c=>(if a <(p0.length:Int) then (if (0:Int)≤a∧(a:Int) <(p0.length:Int) then (if ((p0.getD (Int.toNat a) 0).toNat:Int)=34 then (if (c.length:Int) > 4096 then some (Pq.done (([]:List UInt8),0,6)) else some (Pq.done ((c.map (fun b=>b)),(IntKind.i64.wrap (a+1)),0))) else (if ((p0.getD (Int.toNat a) 0).toNat:Int) < 32 then some (Pq.done (([]:List UInt8),0,3)) else (if ((p0.getD (Int.toNat a) 0).toNat:Int) > 126 then some (Pq.done (([]:List UInt8),0,3)) else (if ((p0.getD (Int.toNat a) 0).toNat:Int)≠92 then (if 0≤((p0.getD (Int.toNat a) 0).toNat:Int)∧((p0.getD (Int.toNat a) 0).toNat:Int) < 256 then (if (c.length+(([(UInt8.ofNat (Int.toNat ((p0.getD (Int.toNat a) 0).toNat:Int)))]:List UInt8)).length) * 1≤140737488355328 then Bz.l9 K p0 k (IntKind.i64.wrap (a+1)) ((c++([(UInt8.ofNat (Int.toNat ((p0.getD (Int.toNat a) 0).toNat:Int)))]:List UInt8))) else none) else none) else (if (IntKind.i64.wrap (a+1))≥(p0.length:Int) then some (Pq.done (([]:List UInt8),0,4)) else (if (0:Int)≤(IntKind.i64.wrap (a+1))∧((IntKind.i64.wrap (a+1)):Int) <(p0.length:Int) then (Option.bind (((if ((p0.getD (Int.toNat (IntKind.i64.wrap (a+1))) 0).toNat:Int)=34 then some ((decide (((p0.getD (Int.toNat (IntKind.i64.wrap (a+1))) 0).toNat:Int)=34))) else some ((decide (((p0.getD (Int.toNat (IntKind.i64.wrap (a+1))) 0).toNat:Int)=92))))):Option Bool) (fun e=>(if e=true then (if 0≤((p0.getD (Int.toNat (IntKind.i64.wrap (a+1))) 0).toNat:Int)∧((p0.getD (Int.toNat (IntKind.i64.wrap (a+1))) 0).toNat:Int) < 256 then (if (c.length+(([(UInt8.ofNat (Int.toNat ((p0.getD (Int.toNat (IntKind.i64.wrap (a+1))) 0).toNat:Int)))]:List UInt8)).length) * 1≤140737488355328 then Bz.l9 K p0 k (IntKind.i64.wrap (a+2)) ((c++([(UInt8.ofNat (Int.toNat ((p0.getD (Int.toNat (IntKind.i64.wrap (a+1))) 0).toNat:Int)))]:List UInt8))) else none) else none) else (if ((p0.getD (Int.toNat (IntKind.i64.wrap (a+1))) 0).toNat:Int)=110 then (if (c.length+([(UInt8.ofNat (Int.toNat 10))]:List UInt8).length) * 1≤140737488355328 then Bz.l9 K p0 k (IntKind.i64.wrap (a+2)) (c++([(UInt8.ofNat (Int.toNat 10))]:List UInt8)) else none) else (if ((p0.getD (Int.toNat (IntKind.i64.wrap (a+1))) 0).toNat:Int)=116 then (if (c.length+([(UInt8.ofNat (Int.toNat 9))]:List UInt8).length) * 1≤140737488355328 then Bz.l9 K p0 k (IntKind.i64.wrap (a+2)) (c++([(UInt8.ofNat (Int.toNat 9))]:List UInt8)) else none) else (if ((p0.getD (Int.toNat (IntKind.i64.wrap (a+1))) 0).toNat:Int)=120 then (obind (Bz.l95 K p0 a K 0 2:Option (Pq ((List UInt8)×Int×Int) Int)) Pq.done (fun d=>(if 0≤(IntKind.u8.wrap d)∧(IntKind.u8.wrap d) < 256 then (if (c.length+([(UInt8.ofNat (Int.toNat (IntKind.u8.wrap d)))]:List UInt8).length) * 1≤140737488355328 then Bz.l9 K p0 k (IntKind.i64.wrap (a+4)) (c++([(UInt8.ofNat (Int.toNat (IntKind.u8.wrap d)))]:List UInt8)) else none) else none))) else some (Pq.done (([]:List UInt8),0,3)))))))) else none)))))) else none) else some (Pq.go ()))
def Bz (K:Nat) (p0:List UInt8):Option ((List UInt8)×Int×Int):=(obind (Bz.l9 K p0 K 1 ([]:List UInt8):Option (Pq ((List UInt8)×Int×Int) Unit)) (fun r=>r) (fun _=>some (([]:List UInt8),0,4)))
theorem Bz.body {Γ:P4} {K:Nat} {p0:List UInt8} {r:(List UInt8)×Int×Int} (h:Bz K p0=some r):P1 V P 110 100 Γ (Tryz.f112.body.getD .skip) (Po P V Tryz.f112 (.tup [.cv (.str r.1),.I r.2.1,.I r.2.2]) []) ⟨Pn 0 [.cv (.str p0)],[]⟩:=by
 unfold Bz at h;refine Pl L 200 <| Pl L 204 <| Pl L 206 <| Pb <| Pj <| Pe (Pa.trans (Pa.kk [0,5,6] []) (Pa.trans (Pa.no 5 9500 Tag.Dk) (Pa.trans (Pa.kk [0,5,6] [9500]) (Pa.rr [(9500,21900)])))) ?_;refine kp (S':=⟨[(0,.cv (.str p0)),(5,.cv (.own .Dk 21900)),(6,.I 1)],[(21900,.lst .Dk ([]:List UInt8))]⟩) ?_;obtain ⟨o3,hp3,h⟩:=Px h;refine Pu (Q':=fun e S=>(e=.exit 0∧S=⟨[],[]⟩∧Pq.go ()=o3)∨(e=.ret∧∃ a,Pq.done a=o3∧Po P V Tryz.f112 (.tup [.cv (.str a.1),.I a.2.1,.I a.2.2]) [] .ret S)) (Pz (fun k S=>∃ c:Int,∃ d:List UInt8,S=⟨[(0,.cv (.str p0)),(5,.cv (.own .Dk 21900)),(6,.I c)],[(21900,.lst .Dk d)]⟩∧Bz.l9 K p0 k c d=some o3) ?_ ⟨_,_,rfl,hp3⟩) ?_
 ·clear h hp3;intro k S hS;obtain ⟨c,d,rfl,h⟩:=hS;cases k with
  | zero=>cases h
  | succ k =>
  unfold Bz.l9 at h;refine Pb <| Pl L 208 ?_;rcases Pc h with ⟨c1,h⟩ |⟨c1,h⟩
  ·refine tT c1 <| Pg <| Pj <| Pb ?_;obtain ⟨g1,h⟩:=Ph h;refine rg L 213 [] [] [] (Q2 g1.1 g1.2) ?_;refine Pb <| Pl L 218 ?_;rcases Pc h with ⟨c2,h⟩ |⟨c2,h⟩
   ·refine tT c2 <| Pb <| Pl L 221 ?_;rcases Pc h with ⟨c3,h⟩ |⟨c3,h⟩
    ·refine tT c3 <| Pl L 225 <| Pd ?_;cases h;exact .inr ⟨rfl,_,rfl,Pt⟩
    refine fF c3 <| Pg <| Pl L 229 <| Pd ?_;cases h;exact .inr ⟨rfl,_,rfl,Pt⟩
   refine fF c2 <| Pg <| Pb <| Pb ?_;rcases Pc h with ⟨c4,h⟩ |⟨c4,h⟩
   ·refine rg L 237 [(2,true)] [] [] (Pk (decide_eq_true c4)) ?_;refine tt (b:=true) (rfl) ?_;refine Pl L 244 <| Pd ?_;cases h;exact .inr ⟨rfl,_,rfl,Pt⟩
   refine rg L 237 [(2,false)] [] [] (Pk (decide_eq_false c4)) ?_;rcases Pc h with ⟨c5,h⟩ |⟨c5,h⟩
   ·refine tT c5 <| Pl L 244 <| Pd ?_;cases h;exact .inr ⟨rfl,_,rfl,Pt⟩
   refine fF c5 <| Pg <| Pb <| Pl L 248 ?_;rcases Pc h with ⟨c6,h⟩ |⟨c6,h⟩
   ·refine tT c6 <| Pb ?_;obtain ⟨g2,h⟩:=Ph h;obtain ⟨g3,h⟩:=Ph h;refine rg L 251 [] [] [] (Pf g2.1 (Pf g2.2 (Pf g3 (Pk trivial)))) ?_;refine Pl L 257 <| ex (S':=⟨[(0,.cv (.str p0)),(5,.cv (.own .Dk 21900)),(6,.I (IntKind.i64.wrap (c+1)))],[(21900,.lst .Dk ((d++([(UInt8.ofNat (Int.toNat ((p0.getD (Int.toNat c) 0).toNat:Int)))]:List UInt8))))]⟩) ?_;exact ⟨k,Nat.lt_succ_self k,_,_,rfl,h⟩
   refine fF c6 <| Pg <| Pb <| Pl L 261 ?_;rcases Pc h with ⟨c7,h⟩ |⟨c7,h⟩
   ·refine tT c7 <| Pl L 267 <| Pd ?_;cases h;exact .inr ⟨rfl,_,rfl,Pt⟩
   refine fF c7 <| Pg <| Pb ?_;obtain ⟨g4,h⟩:=Ph h;refine rg L 271 [] [] [] (Q2 g4.1 g4.2) ?_;refine Pj ?_;obtain ⟨o1,hp1,h⟩:=bind_some h;refine Pb (P3 (Q':=fun e S=>(e=.normal∧∃ j:Bool,S=⟨[(0,.cv (.str p0)),(5,.cv (.own .Dk 32800)),(6,.I c),(48,.cv (.lit (.int .u8 ((p0.getD (Int.toNat (IntKind.i64.wrap (c+1))) 0).toNat:Int)))),(49,.B j)],[(32800,.lst .Dk d)]⟩∧j=o1)) ?_ ?_)
   ·clear h;replace h:=hp1;refine Pl L 276 ?_;rcases Pc h with ⟨c8,h⟩ |⟨c8,h⟩
    ·refine tT c8 <| Pe (Pa.trans (Pa.kk [0,5,6,48,49] [21900]) (Pa.rr [(21900,32800)])) ?_;refine sk (S':=⟨[(0,.cv (.str p0)),(5,.cv (.own .Dk 32800)),(6,.I c),(48,.cv (.lit (.int .u8 ((p0.getD (Int.toNat (IntKind.i64.wrap (c+1))) 0).toNat:Int)))),(49,.B ((decide (((p0.getD (Int.toNat (IntKind.i64.wrap (c+1))) 0).toNat:Int)=34))))],[(32800,.lst .Dk d)]⟩) ?_;cases h;exact ⟨rfl,_,rfl,rfl⟩
    refine fF c8 <| Pp (Tj L 279 ⟨rfl,rfl⟩) (Pa.trans (Pa.kk [0,5,6,48,49] [21900]) (Pa.trans (Pa.rr [(21900,32800)]) (Pa.kp (S':=⟨[(0,.cv (.str p0)),(5,.cv (.own .Dk 32800)),(6,.I c),(48,.cv (.lit (.int .u8 ((p0.getD (Int.toNat (IntKind.i64.wrap (c+1))) 0).toNat:Int)))),(49,.B ((decide (((p0.getD (Int.toNat (IntKind.i64.wrap (c+1))) 0).toNat:Int)=92))))],[(32800,.lst .Dk d)]⟩)))) ?_;cases h;exact ⟨rfl,_,rfl,rfl⟩
   ·rintro e S ⟨rfl,j,rfl,rfl⟩;rcases Pc h with ⟨c9,h⟩ |⟨c9,h⟩
    ·refine tt c9 <| Pb ?_;obtain ⟨g5,h⟩:=Ph h;obtain ⟨g6,h⟩:=Ph h;refine rg L 282 [] [] [] (Pf g4.1 (Pf g4.2 (Pf g5.1 (Pf g5.2 (Pf g6 (Pk trivial)))))) ?_;refine Pp (Tj L 291 ⟨rfl,rfl⟩) (Pa.trans (Pa.kk [0,5,6] [32800]) (Pa.trans (Pa.rr [(32800,21900)]) (Pa.kp (S':=⟨[(0,.cv (.str p0)),(5,.cv (.own .Dk 21900)),(6,.I (IntKind.i64.wrap (c+2)))],[(21900,.lst .Dk ((d++([(UInt8.ofNat (Int.toNat ((p0.getD (Int.toNat (IntKind.i64.wrap (c+1))) 0).toNat:Int)))]:List UInt8))))]⟩)))) ?_;exact ⟨k,Nat.lt_succ_self k,_,_,rfl,h⟩
    refine fN c9 <| Pl L 295 ?_;rcases Pc h with ⟨c10,h⟩ |⟨c10,h⟩
    ·refine tT c10 <| Pb ?_;obtain ⟨g7,h⟩:=Ph h;refine rg L 298 [] [] [] (Pf (show (0:Int)≤10 from by decide) (Pf (show (10:Int) < 256 from by decide) (Pf g7 (Pk trivial)))) ?_;refine Pp (Tj L 303 ⟨rfl,rfl⟩) (Pa.trans (Pa.kk [0,5,6] [32800]) (Pa.trans (Pa.rr [(32800,21900)]) (Pa.kp (S':=⟨[(0,.cv (.str p0)),(5,.cv (.own .Dk 21900)),(6,.I (IntKind.i64.wrap (c+2)))],[(21900,.lst .Dk (d++([(UInt8.ofNat (Int.toNat 10))]:List UInt8)))]⟩)))) ?_;exact ⟨k,Nat.lt_succ_self k,_,_,rfl,h⟩
    refine fF c10 <| Pl L 307 ?_;rcases Pc h with ⟨c11,h⟩ |⟨c11,h⟩
    ·refine tT c11 <| Pb ?_;obtain ⟨g8,h⟩:=Ph h;refine rg L 310 [] [] [] (Pf (show (0:Int)≤9 from by decide) (Pf (show (9:Int) < 256 from by decide) (Pf g8 (Pk trivial)))) ?_;refine Pp (Tj L 315 ⟨rfl,rfl⟩) (Pa.trans (Pa.kk [0,5,6] [32800]) (Pa.trans (Pa.rr [(32800,21900)]) (Pa.kp (S':=⟨[(0,.cv (.str p0)),(5,.cv (.own .Dk 21900)),(6,.I (IntKind.i64.wrap (c+2)))],[(21900,.lst .Dk (d++([(UInt8.ofNat (Int.toNat 9))]:List UInt8)))]⟩)))) ?_;exact ⟨k,Nat.lt_succ_self k,_,_,rfl,h⟩
    refine fF c11 <| Pl L 319 ?_;rcases Pc h with ⟨c12,h⟩ |⟨c12,h⟩
    ·refine tT c12 <| Pl L 322 <| Pb <| Pl L 324 <| Pj <| Pe (Pa.trans (Pa.kk [0,5,6,8,9] [32800]) (Pa.rr [(32800,39100)])) ?_;refine kp (S':=⟨[(0,.cv (.str p0)),(5,.cv (.own .Dk 39100)),(6,.I c),(8,.I 0),(9,.I 2)],[(39100,.lst .Dk d)]⟩) ?_;obtain ⟨o2,hp2,h⟩:=Px h;refine Pu (Q':=fun e S=>(e=.exit 3∧∃ i:Int,S=⟨[(0,.cv (.str p0)),(5,.cv (.own .Dk 39000)),(6,.I c),(8,.I i)],[(39000,.lst .Dk d)]⟩∧Pq.go i=o2)∨(e=.ret∧∃ a,Pq.done a=o2∧Po P V Tryz.f112 (.tup [.cv (.str a.1),.I a.2.1,.I a.2.2]) [] .ret S)) (Pz (fun k S=>∃ f:Int,∃ g:Int,S=⟨[(0,.cv (.str p0)),(5,.cv (.own .Dk 39100)),(6,.I c),(8,.I f),(9,.I g)],[(39100,.lst .Dk d)]⟩∧Bz.l95 K p0 c k f g=some o2) ?_ ⟨_,_,rfl,hp2⟩) ?_
     ·clear h hp2;intro k S hS;obtain ⟨f,g,rfl,h⟩:=hS;cases k with
      | zero=>cases h
      | succ k =>
      unfold Bz.l95 at h;refine Pb <| Pl L 326 ?_;rcases Pc h with ⟨c13,h⟩ |⟨c13,h⟩
      ·refine tT c13 <| Pg <| Pb <| Pj <| Pb <| Pl L 329 ?_;rcases Pc h with ⟨c14,h⟩ |⟨c14,h⟩
       ·refine tT c14 <| Pl L 336 <| Pd ?_;cases h;exact .inr ⟨rfl,_,rfl,Pt⟩
       refine fF c14 <| Pg <| Pb <| Pb ?_;obtain ⟨g9,h⟩:=Ph h;obtain ⟨a1,h1,h⟩:=bind_some h;refine rg L 340 [] [(5,.I a1)] [] (Pf g9.1 (Pf g9.2 (Pf (Eh.ok h1) (Pk trivial)))) ?_;rcases Pc h with ⟨c15,h⟩ |⟨c15,h⟩
       ·refine tT c15 <| Pl L 348 <| Pd ?_;cases h;exact .inr ⟨rfl,_,rfl,Pt⟩
       refine fF c15 <| Pg ?_;obtain ⟨a2,h2,h⟩:=bind_some h;refine rg L 352 [] [(7,.I a2)] [] (Pf g9.1 (Pf g9.2 (Pf (Eh.ok h2) (Pk trivial)))) ?_;refine Se L 363 [] [] [] (S':=⟨[(0,.cv (.str p0)),(5,.cv (.own .Dk 39100)),(6,.I c),(8,.I (IntKind.i64.wrap ((IntKind.i64.wrap (16 * f))+a2))),(9,.I (IntKind.i64.wrap (g+1)))],[(39100,.lst .Dk d)]⟩) ?_;exact ⟨k,Nat.lt_succ_self k,_,_,rfl,h⟩
      refine fF c13 <| Pe (Pa.trans (Pa.kk [0,5,6,8] [39100]) (Pa.rr [(39100,39000)])) ?_;refine ex (S':=⟨[(0,.cv (.str p0)),(5,.cv (.own .Dk 39000)),(6,.I c),(8,.I f)],[(39000,.lst .Dk d)]⟩) ?_;cases h;exact .inl ⟨rfl,_,rfl,rfl⟩
     ·rintro e S (⟨rfl,i,rfl,rfl⟩ |⟨rfl,a,rfl,hr⟩)
      ·rcases h with ⟨_,e1,h⟩ |⟨_,e1,h⟩
       ·cases e1
       ·have e2:=Pq.go.inj e1;subst e2;refine ⟨_,Pa.refl,?_⟩;refine Pb ?_;obtain ⟨g10,h⟩:=Ph h;obtain ⟨g11,h⟩:=Ph h;refine rg L 367 [] [] [] (Pf g10.1 (Pf g10.2 (Pf g11 (Pk trivial)))) ?_;refine Pp (Tj L 374 ⟨rfl,rfl⟩) (Pa.trans (Pa.kk [0,5,6] [39000]) (Pa.trans (Pa.rr [(39000,21900)]) (Pa.kp (S':=⟨[(0,.cv (.str p0)),(5,.cv (.own .Dk 21900)),(6,.I (IntKind.i64.wrap (c+4)))],[(21900,.lst .Dk (d++([(UInt8.ofNat (Int.toNat (IntKind.u8.wrap i)))]:List UInt8)))]⟩)))) ?_;exact ⟨k,Nat.lt_succ_self k,_,_,rfl,h⟩
      ·rcases h with ⟨_,e1,h⟩ |⟨_,e1,h⟩
       ·have e2:=Pq.done.inj e1;subst e2;subst h;exact ⟨_,Pa.refl,.inr ⟨rfl,_,rfl,hr⟩⟩
       ·cases e1
    refine fF c12 <| Pl L 378 <| Pd ?_;cases h;exact .inr ⟨rfl,_,rfl,Pt⟩
  refine fF c1 <| ex (S':=⟨[],[]⟩) ?_;cases h;exact .inl ⟨rfl,rfl,rfl⟩
 ·rintro e S (⟨rfl,rfl,rfl⟩ |⟨rfl,a,rfl,hr⟩)
  ·rcases h with ⟨_,e1,h⟩ |⟨_,e1,h⟩
   ·cases e1
   ·have e2:=Pq.go.inj e1;subst e2;refine ⟨_,Pa.refl,?_⟩;refine Pl L 382 <| Pd ?_;cases h;exact Pt
  ·rcases h with ⟨_,e1,h⟩ |⟨_,e1,h⟩
   ·have e2:=Pq.done.inj e1;subst e2;subst h;exact ⟨_,Pa.refl,hr⟩
   ·cases e1
theorem Bz.ok {K:Nat} {p0:List UInt8} {r:(List UInt8)×Int×Int} (h:Bz K p0=some r):Pr V P 112 [.cv (.str p0)] (.tup [.cv (.str r.1),.I r.2.1,.I r.2.2]):=Pm.pcall (eo (fn:=Tryz.f112) (n:=110) (m:=100) fun Γ=>Bz.body h) (by kernel_rfl)
def En (K:Nat):Option (List (List UInt8)):=some ([([61,61]:List UInt8),([33,61]:List UInt8),([60,61]:List UInt8),([62,61]:List UInt8),([40]:List UInt8),([41]:List UInt8),([123]:List UInt8),([125]:List UInt8),([91]:List UInt8),([93]:List UInt8),([44]:List UInt8),([59]:List UInt8),([46]:List UInt8),([58]:List UInt8),([61]:List UInt8),([60]:List UInt8),([62]:List UInt8),([43]:List UInt8),([45]:List UInt8),([42]:List UInt8),([47]:List UInt8),([37]:List UInt8)]:List (List UInt8))
theorem En.body {Γ:P4} {K:Nat} {r:List (List UInt8)} (h:En K=some r):P1 V P 2 100 Γ (Tryz.f113.body.getD .skip) (Po P V Tryz.f113 (.cv (.ro .C4 r)) []) ⟨Pn 0 [],[]⟩:=by
 unfold En at h;refine Pl L 200 <| Pl L 202 <| Pd ?_;cases h;exact Pt
theorem En.ok {K:Nat} {r:List (List UInt8)} (h:En K=some r):Pr V P 113 [] (.cv (.ro .C4 r)):=Pm.pcall (eo (fn:=Tryz.f113) (n:=2) (m:=100) fun Γ=>En.body h) (by kernel_rfl)
def Cx.l13 (K:Nat) (p0:List UInt8):Nat→Int→Option Int
 | 0,_=>none
 | k+1,a=>(if a <(p0.length:Int) then (if (0:Int)≤a∧(a:Int) <(p0.length:Int) then (Option.bind (C8 K ((p0.getD (Int.toNat a) 0).toNat:Int)) (fun a2=>(if a2=true then Cx.l13 K p0 k (IntKind.i64.wrap (a+1)) else (Option.bind (Dl K ((p0.getD (Int.toNat a) 0).toNat:Int)) (fun a3=>(if a3=true then Cx.l13 K p0 k (IntKind.i64.wrap (a+1)) else some a)))))) else none) else some a)
def Cx.l82 (K:Nat) (p0:List UInt8) (a8:List (List UInt8)):Nat→Int→Option (Pq (Ap×Int×Int) Unit)
 | 0,_=>none
 | k+1,a=>(if a <(a8.length:Int) then (if (0:Int)≤a∧(a:Int) <(a8.length:Int) then (if ((a8.getD (Int.toNat a) ([]:List UInt8)).length:Int)≤(p0.length:Int) then (if (0:Int)≤((a8.getD (Int.toNat a) ([]:List UInt8)).length:Int)∧((a8.getD (Int.toNat a) ([]:List UInt8)).length:Int)≤(p0.length:Int) then (if (Ur p0 0 ((a8.getD (Int.toNat a) ([]:List UInt8)).length:Int))=(a8.getD (Int.toNat a) ([]:List UInt8)) then some (Pq.done ((⟨5,0,(a8.getD (Int.toNat a) ([]:List UInt8)),0⟩:Ap),((a8.getD (Int.toNat a) ([]:List UInt8)).length:Int),0)) else Cx.l82 K p0 a8 k (IntKind.i64.wrap (a+1))) else none) else Cx.l82 K p0 a8 k (IntKind.i64.wrap (a+1))) else none) else some (Pq.go ()))
def Cx (K:Nat) (p0:List UInt8):Option (Ap×Int×Int):=(if (0:Int) <(p0.length:Int) then (Option.bind (C8 K ((p0.getD (Int.toNat 0) 0).toNat:Int)) (fun a1=>(if a1=true then (Option.bind (Cx.l13 K p0 K 0:Option Int) (fun a=>(if a > 64 then some ((⟨0,0,[],0⟩:Ap),0,8) else (if (0:Int)≤a∧a≤(p0.length:Int) then (Option.bind (C5 K (Ur p0 0 a)) (fun a4=>(if a4=true then some ((⟨2,0,(Ur p0 0 a),0⟩:Ap),a,0) else some ((⟨1,0,(Ur p0 0 a),0⟩:Ap),a,0)))) else none)))) else (Option.bind (Dl K ((p0.getD (Int.toNat 0) 0).toNat:Int)) (fun a5=>(if a5=true then (Option.bind (Cq K p0) (fun (d,e,b)=>(if b≠0 then some ((⟨0,0,[],0⟩:Ap),0,b) else some ((⟨3,0,[],d⟩:Ap),e,0)))) else (if ((p0.getD (Int.toNat 0) 0).toNat:Int)=34 then (Option.bind (Bz K p0) (fun (f,g,c)=>(if c≠0 then some ((⟨0,0,[],0⟩:Ap),0,c) else some ((⟨4,0,f,0⟩:Ap),g,0)))) else (Option.bind (En K) (fun a8=>(obind (Cx.l82 K p0 a8 K 0:Option (Pq (Ap×Int×Int) Unit)) (fun r=>r) (fun _=>some ((⟨0,0,[],0⟩:Ap),0,3)))))))))))) else none)
theorem Cx.body {Γ:P4} {K:Nat} {p0:List UInt8} {r:Ap×Int×Int} (h:Cx K p0=some r):P1 V P 106 100 Γ (Tryz.f79.body.getD .skip) (Po P V Tryz.f79 (.tup [.agg [.I r.1.Kind,.I r.1.At,.str r.1.Text,.I r.1.Int],.I r.2.1,.I r.2.2]) []) ⟨Pn 0 [.cv (.str p0)],[]⟩:=by
 unfold Cx at h;refine Pl L 200 <| Pb ?_;obtain ⟨g1,h⟩:=Ph h;refine rg L 204 [] [] [] (Q2 (show (0:Int)≤0 from by decide) g1) ?_;refine Pb <| Pb ?_;obtain ⟨a1,h1,h⟩:=bind_some h;refine rg L 208 [] [(1,.B a1)] [] (Qu (C8.ok h1)) ?_;rcases Pc h with ⟨c1,h⟩ |⟨c1,h⟩
 ·refine tt c1 <| Pl L 211 <| Pb <| Pj <| Pe (Pa.trans (Pa.kk [0,2,6] [200]) (Pa.rr [(200,22700)])) ?_;refine kp (S':=⟨[(0,.cv (.str p0)),(2,.P 22700),(6,.I 0)],[(22700,.raw [.I 0,.I 0,.str [],.I 0])]⟩) ?_;obtain ⟨o1,hp1,h⟩:=bind_some h;refine Pu (Q':=fun e S=>(e=.exit 0∧∃ f:Int,S=⟨[(0,.cv (.str p0)),(2,.P 22600),(6,.I f)],[(22600,.raw [.I 0,.I 0,.str [],.I 0])]⟩∧f=o1)) (Pz (fun k S=>∃ c:Int,S=⟨[(0,.cv (.str p0)),(2,.P 22700),(6,.I c)],[(22700,.raw [.I 0,.I 0,.str [],.I 0])]⟩∧Cx.l13 K p0 k c=some o1) ?_ ⟨_,rfl,hp1⟩) ?_
  ·clear h hp1;intro k S hS;obtain ⟨c,rfl,h⟩:=hS;cases k with
   | zero=>cases h
   | succ k =>
   unfold Cx.l13 at h;refine Pb <| Pb ?_;rcases Pc h with ⟨c2,h⟩ |⟨c2,h⟩
   ·obtain ⟨g2,h⟩:=Ph h;obtain ⟨a2,h2,h⟩:=bind_some h;rcases Pc h with ⟨c3,h⟩ |⟨c3,h⟩
    ·refine rg L 213 [(4,true),(9,true)] [(8,.B a2)] [] (Pf (decide_eq_true c2) (Pf g2.1 (Pf g2.2 (Pf (C8.ok h2) (Pf trivial (Pk c3)))))) ?_;refine tt (b:=true) (rfl) ?_;refine Pg <| Pj <| Se L 230 [] [] [] (S':=⟨[(0,.cv (.str p0)),(2,.P 22700),(6,.I (IntKind.i64.wrap (c+1)))],[(22700,.raw [.I 0,.I 0,.str [],.I 0])]⟩) ?_;exact ⟨k,Nat.lt_succ_self k,_,rfl,h⟩
    obtain ⟨a3,h3,h⟩:=bind_some h;refine rg L 213 [(4,true),(9,false)] [(8,.B a2),(13,.B a3)] [] (Pf (decide_eq_true c2) (Pf g2.1 (Pf g2.2 (Pf (C8.ok h2) (Pf trivial (Pf (eq_false_of_ne_true c3) (Pf g2.1 (Pf g2.2 (Pf (Dl.ok h3) (Pk trivial)))))))))) ?_;rcases Pc h with ⟨c4,h⟩ |⟨c4,h⟩
    ·refine tt c4 <| Pg <| Pj <| Se L 230 [] [] [] (S':=⟨[(0,.cv (.str p0)),(2,.P 22700),(6,.I (IntKind.i64.wrap (c+1)))],[(22700,.raw [.I 0,.I 0,.str [],.I 0])]⟩) ?_;exact ⟨k,Nat.lt_succ_self k,_,rfl,h⟩
    refine fN c4 <| Pe (Pa.trans (Pa.kk [0,2,6] [22700]) (Pa.rr [(22700,22600)])) ?_;refine ex (S':=⟨[(0,.cv (.str p0)),(2,.P 22600),(6,.I c)],[(22600,.raw [.I 0,.I 0,.str [],.I 0])]⟩) ?_;cases h;exact ⟨rfl,_,rfl,rfl⟩
   refine rg L 213 [(4,false)] [] [] (Pk (decide_eq_false c2)) ?_;refine ff (b:=false) (rfl) ?_;refine Pe (Pa.trans (Pa.kk [0,2,6] [22700]) (Pa.rr [(22700,22600)])) ?_;refine ex (S':=⟨[(0,.cv (.str p0)),(2,.P 22600),(6,.I c)],[(22600,.raw [.I 0,.I 0,.str [],.I 0])]⟩) ?_;cases h;exact ⟨rfl,_,rfl,rfl⟩
  ·rintro e S ⟨rfl,f,rfl,rfl⟩;refine ⟨_,Pa.refl,?_⟩;refine Pb <| Pl L 234 ?_;rcases Pc h with ⟨c5,h⟩ |⟨c5,h⟩
   ·refine tT c5 <| Pl L 237 <| Pe (Pa.trans (Pa.kk [2,3,4] [22600]) (Pa.rr [(22600,100)])) ?_;refine Pd ?_;cases h;exact Pt
   refine fF c5 <| Pg <| Pb ?_;obtain ⟨g3,h⟩:=Ph h;refine rg L 242 [] [] [] (Pf (show (0:Int)≤0 from Int.le_refl _) (Pf g3.1 (Pk g3.2))) ?_;refine Pb <| Pb ?_;obtain ⟨a4,h4,h⟩:=bind_some h;refine rg L 249 [] [(2,.B a4)] [] (Qu (C5.ok h4)) ?_;rcases Pc h with ⟨c6,h⟩ |⟨c6,h⟩
   ·refine tt c6 <| Tj L 253 ?_;refine Pl L 256 <| Pe (Pa.trans (Pa.kk [2,3,4] [22600]) (Pa.rr [(22600,100)])) ?_;refine Pd ?_;cases h;exact Pt
   refine fN c6 <| Pg <| Pl L 256 <| Pe (Pa.trans (Pa.kk [2,3,4] [22600]) (Pa.rr [(22600,100)])) ?_;refine Pd ?_;cases h;exact Pt
 refine fN c1 <| Pg <| Pb <| Pb ?_;obtain ⟨a5,h5,h⟩:=bind_some h;refine rg L 262 [] [(1,.B a5)] [] (Qu (Dl.ok h5)) ?_;rcases Pc h with ⟨c7,h⟩ |⟨c7,h⟩
 ·refine tt c7 <| Pb ?_;obtain ⟨⟨g,i,j⟩,h6,h⟩:=bind_some h;dsimp only at h;refine rg L 265 [] [(1,.tup [.I g,.I i,.I j])] [] (Qu (Cq.ok h6)) ?_;refine Pb <| Pl L 275 ?_;rcases Pc h with ⟨c8,h⟩ |⟨c8,h⟩
  ·refine tT c8 <| Pl L 278 <| Pe (Pa.trans (Pa.kk [2,3,4] [200]) (Pa.rr [(200,100)])) ?_;refine Pd ?_;cases h;exact Pt
  refine fF c8 <| Pg <| Pl L 284 <| Pe (Pa.trans (Pa.kk [2,3,4] [200]) (Pa.rr [(200,100)])) ?_;refine Pd ?_;cases h;exact Pt
 refine fN c7 <| Pg <| Pb <| Pl L 291 ?_;rcases Pc h with ⟨c9,h⟩ |⟨c9,h⟩
 ·refine tT c9 <| Pb ?_;obtain ⟨⟨l,m,n⟩,h7,h⟩:=bind_some h;dsimp only at h;refine rg L 294 [] [(1,.tup [.cv (.str l),.I m,.I n])] [] (Qu (Bz.ok h7)) ?_;refine Pb <| Pl L 304 ?_;rcases Pc h with ⟨c10,h⟩ |⟨c10,h⟩
  ·refine tT c10 <| Pl L 307 <| Pe (Pa.trans (Pa.kk [2,3,4] [200]) (Pa.rr [(200,100)])) ?_;refine Pd ?_;cases h;exact Pt
  refine fF c10 <| Pg <| Pl L 313 <| Pe (Pa.trans (Pa.kk [2,3,4] [200]) (Pa.rr [(200,100)])) ?_;refine Pd ?_;cases h;exact Pt
 refine fF c9 <| Pg <| Pb <| Pb ?_;obtain ⟨a8,h8,h⟩:=bind_some h;refine rg L 320 [] [(0,.cv (.ro .C4 a8))] [] (Qu (En.ok h8)) ?_;refine Pj <| Pe (Pa.trans (Pa.kk [0,2,81,82,83] [200]) (Pa.rr [(200,36500)])) ?_;refine kp (S':=⟨[(0,.cv (.str p0)),(2,.P 36500),(81,.cv (.ro .C4 a8)),(82,.I (a8.length:Int)),(83,.I 0)],[(36500,.raw [.I 0,.I 0,.str [],.I 0])]⟩) ?_;obtain ⟨o2,hp2,h⟩:=Px h;refine Pu (Q':=fun e S=>(e=.exit 2∧S=⟨[(2,.P 36400)],[(36400,.raw [.I 0,.I 0,.str [],.I 0])]⟩∧Pq.go ()=o2)∨(e=.ret∧∃ a,Pq.done a=o2∧Po P V Tryz.f79 (.tup [.agg [.I a.1.Kind,.I a.1.At,.str a.1.Text,.I a.1.Int],.I a.2.1,.I a.2.2]) [] .ret S)) (Pz (fun k S=>∃ d:Int,S=⟨[(0,.cv (.str p0)),(2,.P 36500),(81,.cv (.ro .C4 a8)),(82,.I (a8.length:Int)),(83,.I d)],[(36500,.raw [.I 0,.I 0,.str [],.I 0])]⟩∧Cx.l82 K p0 a8 k d=some o2) ?_ ⟨_,rfl,hp2⟩) ?_
 ·clear h hp2;intro k S hS;obtain ⟨d,rfl,h⟩:=hS;cases k with
  | zero=>cases h
  | succ k =>
  unfold Cx.l82 at h;refine Pl L 324 <| Pb ?_;rcases Pc h with ⟨c11,h⟩ |⟨c11,h⟩
  ·refine tT c11 <| Pg <| Pb <| Pj <| Pb ?_;obtain ⟨g4,h⟩:=Ph h;refine rg L 326 [] [] [] (Q2 g4.1 g4.2) ?_;refine Pb ?_;rcases Pc h with ⟨c12,h⟩ |⟨c12,h⟩
   ·obtain ⟨g5,h⟩:=Ph h;refine rg L 330 [(5,true)] [] [] (Pf (decide_eq_true c12) (Pf (show (0:Int)≤0 from Int.le_refl _) (Pf g5.1 (Pk g5.2)))) ?_;rcases Pc h with ⟨c13,h⟩ |⟨c13,h⟩
    ·refine tT c13 <| Pl L 344 <| Pe (Pa.trans (Pa.kk [2,3,4] [36500]) (Pa.rr [(36500,100)])) ?_;refine Pd ?_;cases h;exact .inr ⟨rfl,_,rfl,Pt⟩
    refine fF c13 <| Pg <| Se L 352 [] [] [] (S':=⟨[(0,.cv (.str p0)),(2,.P 36500),(81,.cv (.ro .C4 a8)),(82,.I (a8.length:Int)),(83,.I (IntKind.i64.wrap (d+1)))],[(36500,.raw [.I 0,.I 0,.str [],.I 0])]⟩) ?_;exact ⟨k,Nat.lt_succ_self k,_,rfl,h⟩
   refine rg L 330 [(5,false)] [] [] (Pk (decide_eq_false c12)) ?_;refine ff (b:=false) (rfl) ?_;refine Pg <| Se L 352 [] [] [] (S':=⟨[(0,.cv (.str p0)),(2,.P 36500),(81,.cv (.ro .C4 a8)),(82,.I (a8.length:Int)),(83,.I (IntKind.i64.wrap (d+1)))],[(36500,.raw [.I 0,.I 0,.str [],.I 0])]⟩) ?_;exact ⟨k,Nat.lt_succ_self k,_,rfl,h⟩
  refine fF c11 <| Pe (Pa.trans (Pa.kk [2] [36500]) (Pa.rr [(36500,36400)])) ?_;refine ex (S':=⟨[(2,.P 36400)],[(36400,.raw [.I 0,.I 0,.str [],.I 0])]⟩) ?_;cases h;exact .inl ⟨rfl,rfl,rfl⟩
 ·rintro e S (⟨rfl,rfl,rfl⟩ |⟨rfl,a,rfl,hr⟩)
  ·rcases h with ⟨_,e1,h⟩ |⟨_,e1,h⟩
   ·cases e1
   ·have e2:=Pq.go.inj e1;subst e2;refine ⟨_,Pa.refl,?_⟩;refine Pl L 355 <| Pe (Pa.trans (Pa.kk [2,3,4] [36400]) (Pa.rr [(36400,100)])) ?_;refine Pd ?_;cases h;exact Pt
  ·rcases h with ⟨_,e1,h⟩ |⟨_,e1,h⟩
   ·have e2:=Pq.done.inj e1;subst e2;subst h;exact ⟨_,Pa.refl,hr⟩
   ·cases e1
theorem Cx.ok {K:Nat} {p0:List UInt8} {r:Ap×Int×Int} (h:Cx K p0=some r):Pr V P 79 [.cv (.str p0)] (.tup [.agg [.I r.1.Kind,.I r.1.At,.str r.1.Text,.I r.1.Int],.I r.2.1,.I r.2.2]):=Pm.pcall (eo (fn:=Tryz.f79) (n:=106) (m:=100) fun Γ=>Cx.body h) (by kernel_rfl)
def Bh (K:Nat) (p0:Ad) (p1:Int):Option Bool:=(if p0.bad=true then some false else (if (0:Int)≤p0.at_∧(p0.at_:Int) <(p0.l.length:Int) then some (decide ((p0.l.getD (Int.toNat p0.at_) Du).Kind=p1)) else none))
theorem Bh.body {Γ:P4} {K:Nat} {p0:Ad} {p1:Int} {r:Bool} (h:Bh K p0 p1=some r):P1 V P 25 100 Γ (Tryz.f55.body.getD .skip) (Po P V Tryz.f55 (.B r) []) ⟨Pn 0 [.cv (.pcs (Ac p0) 0),.I p1],[]⟩:=by
 unfold Bh at h;refine Pl L 200 <| Pb ?_;rcases Pc h with ⟨c1,h⟩ |⟨c1,h⟩
 ·refine rd L mixed 202 [(5,false)] [] [] [] 21 (Pk (show (!p0.bad)=false from congrArg Bool.not (c1))) ?_;refine Pd ?_;cases h;exact Pt
 obtain ⟨g1,h⟩:=Ph h;refine rd L mixed 202 [(5,true)] [] [] [] 21 (Pf (show (!p0.bad)=true from congrArg Bool.not (eq_false_of_ne_true c1)) (Pf g1.1 (Pk g1.2))) ?_;refine Pd ?_;cases h;exact Pt
theorem Bh.ok {K:Nat} {p0:Ad} {p1:Int} {r:Bool} (h:Bh K p0 p1=some r):Pr V P 55 [.cv (.pcs (Ac p0) 0),.I p1] (.B r):=Pm.pcall (eo (fn:=Tryz.f55) (n:=25) (m:=100) fun Γ=>Bh.body h) (by kernel_rfl)
def B8 (K:Nat) (p0:Ad) (p1:List UInt8):Option Bool:=(if (0:Int)≤p0.at_∧(p0.at_:Int) <(p0.l.length:Int) then (if p0.bad=true then some false else (if (p0.l.getD (Int.toNat p0.at_) Du).Kind=5 then some (decide ((p0.l.getD (Int.toNat p0.at_) Du).Text=p1)) else (if (p0.l.getD (Int.toNat p0.at_) Du).Kind=2 then some (decide ((p0.l.getD (Int.toNat p0.at_) Du).Text=p1)) else some false))) else none)
theorem B8.body {Γ:P4} {K:Nat} {p0:Ad} {p1:List UInt8} {r:Bool} (h:B8 K p0 p1=some r):P1 V P 37 100 Γ (Tryz.f114.body.getD .skip) (Po P V Tryz.f114 (.B r) []) ⟨Pn 0 [.cv (.pcs (Ac p0) 0),.cv (.str p1)],[]⟩:=by
 unfold B8 at h;refine Pl L 200 <| Pb ?_;obtain ⟨g1,h⟩:=Ph h;refine rd L mixed 202 [] [] [] [212] 12 (Q2 g1.1 g1.2) ?_;refine Pb ?_;rcases Pc h with ⟨c1,h⟩ |⟨c1,h⟩
 ·refine rg L 215 [(5,false)] [] [] (Pk (show (!p0.bad)=false from congrArg Bool.not (c1))) ?_;refine Pd ?_;cases h;exact Pt
 rcases Pc h with ⟨c2,h⟩ |⟨c2,h⟩
 ·refine rg L 215 [(5,true),(9,true)] [] [] (Q2 (show (!p0.bad)=true from congrArg Bool.not (eq_false_of_ne_true c1)) (decide_eq_true c2)) ?_;refine Pd ?_;cases h;exact Pt
 rcases Pc h with ⟨c3,h⟩ |⟨c3,h⟩
 ·refine rg L 215 [(5,true),(9,false),(15,true)] [] [] (Pf (show (!p0.bad)=true from congrArg Bool.not (eq_false_of_ne_true c1)) (Pf (decide_eq_false c2) (Pk (decide_eq_true c3)))) ?_;refine Pd ?_;cases h;exact Pt
 refine rg L 215 [(5,true),(9,false),(15,false)] [] [] (Pf (show (!p0.bad)=true from congrArg Bool.not (eq_false_of_ne_true c1)) (Pf (decide_eq_false c2) (Pk (decide_eq_false c3)))) ?_;refine Pd ?_;cases h;exact Pt
theorem B8.ok {K:Nat} {p0:Ad} {p1:List UInt8} {r:Bool} (h:B8 K p0 p1=some r):Pr V P 114 [.cv (.pcs (Ac p0) 0),.cv (.str p1)] (.B r):=Pm.pcall (eo (fn:=Tryz.f114) (n:=37) (m:=100) fun Γ=>B8.body h) (by kernel_rfl)
def Ai (K:Nat) (p0:List UInt8) (p1:Ad):Option (Bool×Ad):=(Option.bind (B8 K p1 p0) (fun a1=>(if a1=true then some (true,(⟨p1.l,(IntKind.i64.wrap (p1.at_+1)),p1.bad⟩:Ad)) else some (false,p1))))
theorem Ai.body {Γ:P4} {K:Nat} {p0:List UInt8} {p1:Ad} {r:Bool×Ad} (h:Ai K p0 p1=some r):P1 V P 16 100 Γ (Tryz.f80.body.getD .skip) (Po P V Tryz.f80 (.B r.1) [(0,.raw [.ro .Am r.2.l,.I r.2.at_,.B r.2.bad])]) ⟨Pn 0 [.P 0,.cv (.str p0)],[(0,.raw (Ac p1))]⟩:=by
 unfold Ai at h;refine Pl L 200 <| Pb <| Pb ?_;obtain ⟨a1,h1,h⟩:=bind_some h;refine rg L 202 [] [(2,.B a1)] [] (Qu (B8.ok h1)) ?_;rcases Pc h with ⟨c1,h⟩ |⟨c1,h⟩
 ·refine ff (b:=(!a1)) (congrArg Bool.not (c1)) ?_;refine Pg <| Pl L 209 <| Pl L 218 <| Pd ?_;cases h;exact Pt
 refine tt (b:=(!a1)) (congrArg Bool.not (eq_false_of_ne_true c1)) ?_;refine Pl L 207 <| Pd ?_;cases h;exact Pt
theorem Ai.okE {K:Nat} {p0:List UInt8} {p1:Ad} {r:Bool×Ad} (h:Ai K p0 p1=some r):Pm V P 80 [.P 0,.cv (.str p0)] [(0,.raw (Ac p1))] [0] (.B r.1) [(0,.raw [.ro .Am r.2.l,.I r.2.at_,.B r.2.bad])] :=
 eo (fn:=Tryz.f80) (n:=16) (m:=100) fun Γ=>Ai.body h
def B9 (K:Nat) (p0:Ad):Option ((List UInt8)×Ad):=(Option.bind (Bh K p0 1) (fun a1=>(if a1=true then (if (0:Int)≤(IntKind.i64.wrap ((IntKind.i64.wrap (p0.at_+1)) - 1))∧((IntKind.i64.wrap ((IntKind.i64.wrap (p0.at_+1)) - 1)):Int) <(p0.l.length:Int) then some ((((p0.l.getD (Int.toNat (IntKind.i64.wrap ((IntKind.i64.wrap (p0.at_+1)) - 1))) Du)).Text,(⟨p0.l,(IntKind.i64.wrap (p0.at_+1)),p0.bad⟩:Ad))) else none) else some (([]:List UInt8),(⟨p0.l,p0.at_,true⟩:Ad)))))
theorem B9.body {Γ:P4} {K:Nat} {p0:Ad} {r:(List UInt8)×Ad} (h:B9 K p0=some r):P1 V P 28 100 Γ (Tryz.f81.body.getD .skip) (Po P V Tryz.f81 (.cv (.str r.1)) [(0,.raw [.ro .Am r.2.l,.I r.2.at_,.B r.2.bad])]) ⟨Pn 0 [.P 0],[(0,.raw (Ac p0))]⟩:=by
 unfold B9 at h;refine Pl L 200 <| Pb <| Pb ?_;obtain ⟨a1,h1,h⟩:=bind_some h;refine rg L 202 [] [(1,.B a1)] [] (Qu (Bh.ok h1)) ?_;rcases Pc h with ⟨c1,h⟩ |⟨c1,h⟩
 ·refine ff (b:=(!a1)) (congrArg Bool.not (c1)) ?_;refine Pg <| Pl L 213 <| Pb ?_;obtain ⟨g1,h⟩:=Ph h;refine rd L mixed 222 [] [] [] [] 13 (Q2 g1.1 g1.2) ?_;refine Pd ?_;cases h;exact Pt
 refine tt (b:=(!a1)) (congrArg Bool.not (eq_false_of_ne_true c1)) ?_;refine Pl L 206 <| Pl L 211 <| Pd ?_;cases h;exact Pt
theorem B9.okE {K:Nat} {p0:Ad} {r:(List UInt8)×Ad} (h:B9 K p0=some r):Pm V P 81 [.P 0] [(0,.raw (Ac p0))] [0] (.cv (.str r.1)) [(0,.raw [.ro .Am r.2.l,.I r.2.at_,.B r.2.bad])] :=
 eo (fn:=Tryz.f81) (n:=28) (m:=100) fun Γ=>B9.body h
def Ax (K:Nat) (p0:List UInt8) (p1:Ad):Option Ad:=(Option.bind (Ai K p0 p1) (fun (b,a)=>(if b=true then some a else some (⟨a.l,a.at_,true⟩:Ad))))
theorem Ax.body {Γ:P4} {K:Nat} {p0:List UInt8} {p1:Ad} {r:Ad} (h:Ax K p0 p1=some r):P1 V P 11 100 Γ (Tryz.f82.body.getD .skip) (Po P V Tryz.f82 (.tup []) [(0,.raw [.ro .Am r.l,.I r.at_,.B r.bad])]) ⟨Pn 0 [.P 0,.cv (.str p0)],[(0,.raw (Ac p1))]⟩:=by
 unfold Ax at h;refine Pb ?_;obtain ⟨⟨c,a⟩,h1,h⟩:=bind_some h;dsimp only at h;refine rg L 200 [] [] [(2,(Pv (.B c) [(0,.raw (Ac a))]))] (Pk (Ai.okE h1)) ?_;rcases Pc h with ⟨c1,h⟩ |⟨c1,h⟩
 ·refine ff (b:=(!c)) (congrArg Bool.not (c1)) ?_;refine sk (S':=⟨[],[(0,.raw (Ac a))]⟩) ?_;cases h;exact en0
 refine tt (b:=(!c)) (congrArg Bool.not (eq_false_of_ne_true c1)) ?_;refine Se L 205 [] [] [] (S':=⟨[],[(0,.raw [.ro .Am a.l,.I a.at_,.B true])]⟩) ?_;cases h;exact en0
theorem Ax.okE {K:Nat} {p0:List UInt8} {p1:Ad} {r:Ad} (h:Ax K p0 p1=some r):Pm V P 82 [.P 0,.cv (.str p0)] [(0,.raw (Ac p1))] [0] (.tup []) [(0,.raw [.ro .Am r.l,.I r.at_,.B r.bad])] :=
 eo (fn:=Tryz.f82) (n:=11) (m:=100) fun Γ=>Ax.body h
def Cp (K:Nat) (p0:Int) (p1:Aa):Option Aa:=some (⟨p0,[],0,[],([(⟨p1.Op,p1.Name,p1.Int,p1.Text,p1.Kids⟩:Aa)]:List Aa)⟩:Aa)
theorem Cp.body {Γ:P4} {K:Nat} {p0:Int} {p1:Aa} {r:Aa} (h:Cp K p0 p1=some r):P1 V P 9 100 Γ (Tryz.f83.body.getD .skip) (Po P V Tryz.f83 (.agg [.I r.Op,.str r.Name,.I r.Int,.str r.Text,.ro .Af r.Kids]) []) ⟨Pn 0 [.I p0,.agg (Ah p1)],[]⟩:=by
 unfold Cp at h;refine Pl L 200 <| Pl L 203 <| Pe (Pa.trans (Pa.kk [4] [201]) (Pa.rr [(201,100)])) ?_;refine Pd ?_;cases h;exact Pt
theorem Cp.ok {K:Nat} {p0:Int} {p1:Aa} {r:Aa} (h:Cp K p0 p1=some r):Pr V P 83 [.I p0,.agg (Ah p1)] (.agg [.I r.Op,.str r.Name,.I r.Int,.str r.Text,.ro .Af r.Kids]):=Pm.pcall (eo (fn:=Tryz.f83) (n:=9) (m:=100) fun Γ=>Cp.body h) (by kernel_rfl)
def A0 (K:Nat) (p0:Int) (p1:Aa) (p2:Aa):Option Aa:=some (⟨p0,[],0,[],([(⟨p1.Op,p1.Name,p1.Int,p1.Text,p1.Kids⟩:Aa),(⟨p2.Op,p2.Name,p2.Int,p2.Text,p2.Kids⟩:Aa)]:List Aa)⟩:Aa)
theorem A0.body {Γ:P4} {K:Nat} {p0:Int} {p1:Aa} {p2:Aa} {r:Aa} (h:A0 K p0 p1 p2=some r):P1 V P 12 100 Γ (Tryz.f89.body.getD .skip) (Po P V Tryz.f89 (.agg [.I r.Op,.str r.Name,.I r.Int,.str r.Text,.ro .Af r.Kids]) []) ⟨Pn 0 [.I p0,.agg (Ah p1),.agg (Ah p2)],[]⟩:=by
 unfold A0 at h;refine Pl L 200 <| Pl L 204 <| Pe (Pa.trans (Pa.kk [6] [202]) (Pa.rr [(202,100)])) ?_;refine Pd ?_;cases h;exact Pt
theorem A0.ok {K:Nat} {p0:Int} {p1:Aa} {p2:Aa} {r:Aa} (h:A0 K p0 p1 p2=some r):Pr V P 89 [.I p0,.agg (Ah p1),.agg (Ah p2)] (.agg [.I r.Op,.str r.Name,.I r.Int,.str r.Text,.ro .Af r.Kids]):=Pm.pcall (eo (fn:=Tryz.f89) (n:=12) (m:=100) fun Γ=>A0.body h) (by kernel_rfl)
structure Aj where
 A2:Ad→Option (Aa×Ad)
 A5:Ad→Option (Aa×Ad)
 A7:Ad→Option (Aa×Ad)
 Bc:Ad→Option (Aa×Ad)
 Bv:Ad→Option (Aa×Ad)
 Av:Ad→Option (Aa×Ad)
 A9:(List UInt8)→Ad→Option ((List Aa)×Ad)
 B3:Ad→Option ((List Aa)×Ad)
 Bu:Ad→Option (Aa×Ad)
structure Aj.Ok (R:Aj):Prop where
 A2:∀ {p0:Ad} {r:Aa×Ad},R.A2 p0=some r→Pm V P 153 [.P 0] [(0,.raw (Ac p0))] [0] (.agg [.I r.1.Op,.str r.1.Name,.I r.1.Int,.str r.1.Text,.ro .Af r.1.Kids]) [(0,.raw [.ro .Am r.2.l,.I r.2.at_,.B r.2.bad])]
 A5:∀ {p0:Ad} {r:Aa×Ad},R.A5 p0=some r→Pm V P 144 [.P 0] [(0,.raw (Ac p0))] [0] (.agg [.I r.1.Op,.str r.1.Name,.I r.1.Int,.str r.1.Text,.ro .Af r.1.Kids]) [(0,.raw [.ro .Am r.2.l,.I r.2.at_,.B r.2.bad])]
 A7:∀ {p0:Ad} {r:Aa×Ad},R.A7 p0=some r→Pm V P 132 [.P 0] [(0,.raw (Ac p0))] [0] (.agg [.I r.1.Op,.str r.1.Name,.I r.1.Int,.str r.1.Text,.ro .Af r.1.Kids]) [(0,.raw [.ro .Am r.2.l,.I r.2.at_,.B r.2.bad])]
 Bc:∀ {p0:Ad} {r:Aa×Ad},R.Bc p0=some r→Pm V P 117 [.P 0] [(0,.raw (Ac p0))] [0] (.agg [.I r.1.Op,.str r.1.Name,.I r.1.Int,.str r.1.Text,.ro .Af r.1.Kids]) [(0,.raw [.ro .Am r.2.l,.I r.2.at_,.B r.2.bad])]
 Bv:∀ {p0:Ad} {r:Aa×Ad},R.Bv p0=some r→Pm V P 88 [.P 0] [(0,.raw (Ac p0))] [0] (.agg [.I r.1.Op,.str r.1.Name,.I r.1.Int,.str r.1.Text,.ro .Af r.1.Kids]) [(0,.raw [.ro .Am r.2.l,.I r.2.at_,.B r.2.bad])]
 Av:∀ {p0:Ad} {r:Aa×Ad},R.Av p0=some r→Pm V P 54 [.P 0] [(0,.raw (Ac p0))] [0] (.agg [.I r.1.Op,.str r.1.Name,.I r.1.Int,.str r.1.Text,.ro .Af r.1.Kids]) [(0,.raw [.ro .Am r.2.l,.I r.2.at_,.B r.2.bad])]
 A9:∀ {p0:List UInt8} {p1:Ad} {r:(List Aa)×Ad},R.A9 p0 p1=some r→Pm V P 129 [.P 0,.cv (.str p0)] [(0,.raw (Ac p1))] [0] (.cv (.ro .Af r.1)) [(0,.raw [.ro .Am r.2.l,.I r.2.at_,.B r.2.bad])]
 B3:∀ {p0:Ad} {r:(List Aa)×Ad},R.B3 p0=some r→Pm V P 130 [.P 0] [(0,.raw (Ac p0))] [0] (.cv (.ro .Af r.1)) [(0,.raw [.ro .Am r.2.l,.I r.2.at_,.B r.2.bad])]
 Bu:∀ {p0:Ad} {r:Aa×Ad},R.Bu p0=some r→Pm V P 115 [.P 0] [(0,.raw (Ac p0))] [0] (.agg [.I r.1.Op,.str r.1.Name,.I r.1.Int,.str r.1.Text,.ro .Af r.1.Kids]) [(0,.raw [.ro .Am r.2.l,.I r.2.at_,.B r.2.bad])]
def A2.l34 (K:Nat) (R:Aj):Nat→(List Ap)→Int→Bool→Int→(List UInt8)→Int→(List UInt8)→(List Aa)→Option (Pq (Aa×Ad) Unit)
 | 0,_,_,_,_,_,_,_,_=>none
 | k+1,f,g,h,a,b,c,d,e=>(Option.bind (Ai K ([46]:List UInt8) (⟨f,g,h⟩:Ad)) (fun (n,j)=>(if n=true then (Option.bind (Cp K 29 (⟨a,b,c,d,e⟩:Aa)) (fun a13=>(Option.bind (B9 K j) (fun (o,i)=>A2.l34 K R k i.l i.at_ i.bad a13.Op o a13.Int a13.Text a13.Kids)))) else (Option.bind (Ai K ([91]:List UInt8) j) (fun (p,m)=>(if p=true then (Option.bind (R.Av m) (fun (q,r)=>(Option.bind (A0 K 28 (⟨a,b,c,d,e⟩:Aa) q) (fun a17=>(Option.bind (Ax K ([93]:List UInt8) r) (fun a18=>A2.l34 K R k a18.l a18.at_ a18.bad a17.Op a17.Name a17.Int a17.Text a17.Kids)))))) else some (Pq.done ((⟨a,b,c,d,e⟩:Aa),m))))))))
def A2.F (K:Nat) (R:Aj) (p0:Ad):Option (Aa×Ad):=(Option.bind (Ai K ([45]:List UInt8) p0) (fun (h,c)=>(if h=true then (Option.bind (R.A2 c) (fun (i,j)=>(Option.bind (Cp K 14 i) (fun a3=>some (a3,j))))) else (Option.bind (Ai K ([97,119,97,105,116]:List UInt8) c) (fun (k,d)=>(if k=true then (Option.bind (R.A2 d) (fun (m,n)=>(Option.bind (Cp K 12 m) (fun a6=>some (a6,n))))) else (Option.bind (Ai K ([103,111]:List UInt8) d) (fun (o,e)=>(if o=true then (Option.bind (B9 K e) (fun (p,q)=>(Option.bind (Ax K ([40]:List UInt8) q) (fun a9=>(Option.bind (R.A9 ([41]:List UInt8) a9) (fun (f,g)=>some ((⟨11,p,0,[],f⟩:Aa),g))))))) else (Option.bind (R.Bu e) (fun (a,b)=>(obind (A2.l34 K R K b.l b.at_ b.bad a.Op a.Name a.Int a.Text a.Kids:Option (Pq (Aa×Ad) Unit)) (fun r=>r) (fun _=>none)))))))))))))
theorem A2.body {Γ:P4} {K:Nat} {R:Aj} (hR:R.Ok) {p0:Ad} {r:Aa×Ad} (h:A2.F K R p0=some r):P1 V P 43 100 Γ (Tryz.f153.body.getD .skip) (Po P V Tryz.f153 (.agg [.I r.1.Op,.str r.1.Name,.I r.1.Int,.str r.1.Text,.ro .Af r.1.Kids]) [(0,.raw [.ro .Am r.2.l,.I r.2.at_,.B r.2.bad])]) ⟨Pn 0 [.P 0],[(0,.raw (Ac p0))]⟩:=by
 unfold A2.F at h;refine Pl L 200 <| Pb <| Pb ?_;obtain ⟨⟨aa,ab⟩,h1,h⟩:=bind_some h;dsimp only at h;refine rg L 202 [] [] [(1,(Pv (.B aa) [(0,.raw (Ac ab))]))] (Pk (Ai.okE h1)) ?_;rcases Pc h with ⟨c1,h⟩ |⟨c1,h⟩
 ·refine tt c1 <| Pb ?_;obtain ⟨⟨ad,ae⟩,h2,h⟩:=bind_some h;dsimp only at h;obtain ⟨a3,h3,h⟩:=bind_some h;refine rg L 205 [] [(2,.agg (Ah a3))] [(1,(Pv (.agg (Ah ad)) [(0,.raw (Ac ae))]))] (Pf (hR.A2 h2) (Pf (Cp.ok h3) (Pk trivial))) ?_;refine Pe (Pa.trans (Pa.kk [2] [0,200]) (Pa.rr [(0,0),(200,100)])) ?_;refine Pd ?_;cases h;exact Pt
 refine fN c1 <| Pg <| Pb <| Pb ?_;obtain ⟨⟨af,ag⟩,h4,h⟩:=bind_some h;dsimp only at h;refine rg L 210 [] [] [(1,(Pv (.B af) [(0,.raw (Ac ag))]))] (Pk (Ai.okE h4)) ?_;rcases Pc h with ⟨c2,h⟩ |⟨c2,h⟩
 ·refine tt c2 <| Pb ?_;obtain ⟨⟨ah,ai⟩,h5,h⟩:=bind_some h;dsimp only at h;obtain ⟨a6,h6,h⟩:=bind_some h;refine rg L 213 [] [(2,.agg (Ah a6))] [(1,(Pv (.agg (Ah ah)) [(0,.raw (Ac ai))]))] (Pf (hR.A2 h5) (Pf (Cp.ok h6) (Pk trivial))) ?_;refine Pe (Pa.trans (Pa.kk [2] [0,200]) (Pa.rr [(0,0),(200,100)])) ?_;refine Pd ?_;cases h;exact Pt
 refine fN c2 <| Pg <| Pb <| Pb ?_;obtain ⟨⟨aj,ak⟩,h7,h⟩:=bind_some h;dsimp only at h;refine rg L 218 [] [] [(1,(Pv (.B aj) [(0,.raw (Ac ak))]))] (Pk (Ai.okE h7)) ?_;rcases Pc h with ⟨c3,h⟩ |⟨c3,h⟩
 ·refine tt c3 <| Pb ?_;obtain ⟨⟨al,am⟩,h8,h⟩:=bind_some h;dsimp only at h;refine rg L 221 [] [] [(1,(Pv (.cv (.str al)) [(0,.raw (Ac am))]))] (Pk (B9.okE h8)) ?_;refine Pb ?_;obtain ⟨a9,h9,h⟩:=bind_some h;refine rg L 225 [] [] [(1,(Pv (.tup []) [(0,.raw (Ac a9))]))] (Pk (Ax.okE h9)) ?_;refine Pb ?_;obtain ⟨⟨u,v⟩,h10,h⟩:=bind_some h;dsimp only at h;refine rg L 228 [] [] [(2,(Pv (.cv (.ro .Af u)) [(0,.raw (Ac v))]))] (Pk (hR.A9 h10)) ?_;refine Pe (Pa.trans (Pa.kk [2] [0,200]) (Pa.rr [(0,0),(200,100)])) ?_;refine Pd ?_;cases h;exact Pt
 refine fN c3 <| Pg <| Pb ?_;obtain ⟨⟨q,s⟩,h11,h⟩:=bind_some h;dsimp only at h;refine rg L 234 [] [] [(1,(Pv (.agg (Ah q)) [(0,.raw (Ac s))]))] (Pk (hR.Bu h11)) ?_;refine Pj <| Pe (Pa.trans (Pa.kk [0,2,4] [0,200,236]) (Pa.rr [(0,0),(200,26900),(236,26901)])) ?_;refine kp (S':=⟨[(0,.P 0),(2,.P 26900),(4,.P 26901)],[(0,.raw (Ac s)),(26900,.raw [.I 0,.str [],.I 0,.str [],.N]),(26901,.raw (Ah q))]⟩) ?_;obtain ⟨o1,hp1,h⟩:=Px h;refine Pu (Q':=fun e S=>False∨(e=.ret∧∃ a,Pq.done a=o1∧Po P V Tryz.f153 (.agg [.I a.1.Op,.str a.1.Name,.I a.1.Int,.str a.1.Text,.ro .Af a.1.Kids]) [(0,.raw [.ro .Am a.2.l,.I a.2.at_,.B a.2.bad])] .ret S)) (Pz (fun k S=>∃ b:List Ap,∃ c:Int,∃ d:Bool,∃ f:Int,∃ g:List UInt8,∃ i:Int,∃ j:List UInt8,∃ m:List Aa,S=⟨[(0,.P 0),(2,.P 26900),(4,.P 26901)],[(0,.raw [.ro .Am b,.I c,.B d]),(26900,.raw [.I 0,.str [],.I 0,.str [],.N]),(26901,.raw [.I f,.str g,.I i,.str j,.ro .Af m])]⟩∧A2.l34 K R k b c d f g i j m=some o1) ?_ ⟨_,_,_,_,_,_,_,_,rfl,hp1⟩) ?_
 ·clear h hp1;intro k S hS;obtain ⟨b,c,d,f,g,i,j,m,rfl,h⟩:=hS;cases k with
  | zero=>cases h
  | succ k =>
  unfold A2.l34 at h;refine Pj <| Pb ?_;obtain ⟨⟨w,t⟩,h12,h⟩:=bind_some h;dsimp only at h;refine rg L 239 [] [] [(1,(Pv (.B w) [(0,.raw (Ac t))]))] (Pk (Ai.okE h12)) ?_;rcases Pc h with ⟨c4,h⟩ |⟨c4,h⟩
  ·refine tt c4 <| Pb ?_;obtain ⟨a13,h13,h⟩:=bind_some h;refine rg L 242 [] [(1,.agg (Ah a13))] [] (Qu (Cp.ok h13)) ?_;obtain ⟨⟨n,o⟩,h14,h⟩:=bind_some h;dsimp only at h;refine ar L 246 [] [] [(1,(Pv (.cv (.str n)) [(0,.raw (Ac o))]))] (cs:=[Pm V P 81 [.P 0] [(0,.raw (Ac t))] [0] (.cv (.str n)) [(0,.raw (Ac o))]]) (S':=⟨[(0,.P 0),(2,.P 26900),(4,.P 26901)],[(0,.raw (Ac o)),(26900,.raw [.I 0,.str [],.I 0,.str [],.N]),(26901,.raw [.I a13.Op,.str n,.I a13.Int,.str a13.Text,.ro .Af a13.Kids])]⟩) (B9.okE h14) ?_;exact ⟨k,Nat.lt_succ_self k,_,_,_,_,_,_,_,_,rfl,h⟩
  refine fN c4 <| Pb ?_;obtain ⟨⟨x,y⟩,h15,h⟩:=bind_some h;dsimp only at h;refine rg L 251 [] [] [(1,(Pv (.B x) [(0,.raw (Ac y))]))] (Pk (Ai.okE h15)) ?_;rcases Pc h with ⟨c5,h⟩ |⟨c5,h⟩
  ·refine tt c5 <| Pb ?_;obtain ⟨⟨z,p⟩,h16,h⟩:=bind_some h;dsimp only at h;obtain ⟨a17,h17,h⟩:=bind_some h;refine hB L mixed 254 [] [(3,.agg (Ah a17))] [(2,(Pv (.agg (Ah z)) [(0,.raw (Ac p))]))] [1] 2 (Pf (hR.Av h16) (Pf (A0.ok h17) (Pf trivial (Pf (hR.Av h16) (Pf (A0.ok h17) (Pk trivial)))))) (S':=⟨[(0,.P 0),(2,.P 26900),(4,.P 26901)],[(0,.raw (Ac p)),(26900,.raw [.I 0,.str [],.I 0,.str [],.N]),(26901,.raw (Ah a17))]⟩) ?_;obtain ⟨a18,h18,h⟩:=bind_some h;refine ar L 260 [] [] [(1,(Pv (.tup []) [(0,.raw (Ac a18))]))] (cs:=[Pm V P 82 [.P 0,.cv (.str ([93]:List UInt8))] [(0,.raw (Ac p))] [0] (.tup []) [(0,.raw (Ac a18))]]) (S':=⟨[(0,.P 0),(2,.P 26900),(4,.P 26901)],[(0,.raw (Ac a18)),(26900,.raw [.I 0,.str [],.I 0,.str [],.N]),(26901,.raw (Ah a17))]⟩) (Ax.okE h18) ?_;exact ⟨k,Nat.lt_succ_self k,_,_,_,_,_,_,_,_,rfl,h⟩
  refine fN c5 <| Pl L 263 <| Pe (Pa.trans (Pa.kk [2] [0,26900]) (Pa.rr [(0,0),(26900,100)])) ?_;refine Pd ?_;cases h;exact .inr ⟨rfl,_,rfl,Pt⟩
 ·rintro e S (hf |⟨rfl,a,rfl,hr⟩)
  ·exact hf.elim
  ·rcases h with ⟨_,e1,h⟩ |⟨_,e1,h⟩
   ·have e2:=Pq.done.inj e1;subst e2;subst h;exact ⟨_,Pa.refl,hr⟩
   ·cases e1
def A5.l6 (K:Nat) (R:Aj):Nat→(List Ap)→Int→Bool→Int→(List UInt8)→Int→(List UInt8)→(List Aa)→Option (Pq (Aa×Ad) Unit)
 | 0,_,_,_,_,_,_,_,_=>none
 | k+1,f,g,h,a,b,c,d,e=>(Option.bind (Ai K ([42]:List UInt8) (⟨f,g,h⟩:Ad)) (fun (q,n)=>(if q=true then (Option.bind (R.A2 n) (fun (r,i)=>(Option.bind (A0 K 15 (⟨a,b,c,d,e⟩:Aa) r) (fun a4=>A5.l6 K R k i.l i.at_ i.bad a4.Op a4.Name a4.Int a4.Text a4.Kids)))) else (Option.bind (Ai K ([47]:List UInt8) n) (fun (s,o)=>(if s=true then (Option.bind (R.A2 o) (fun (t,j)=>(Option.bind (A0 K 16 (⟨a,b,c,d,e⟩:Aa) t) (fun a7=>A5.l6 K R k j.l j.at_ j.bad a7.Op a7.Name a7.Int a7.Text a7.Kids)))) else (Option.bind (Ai K ([37]:List UInt8) o) (fun (u,p)=>(if u=true then (Option.bind (R.A2 p) (fun (v,m)=>(Option.bind (A0 K 17 (⟨a,b,c,d,e⟩:Aa) v) (fun a10=>A5.l6 K R k m.l m.at_ m.bad a10.Op a10.Name a10.Int a10.Text a10.Kids)))) else some (Pq.done ((⟨a,b,c,d,e⟩:Aa),p)))))))))))
def A5.F (K:Nat) (R:Aj) (p0:Ad):Option (Aa×Ad):=(Option.bind (R.A2 p0) (fun (a,b)=>(obind (A5.l6 K R K b.l b.at_ b.bad a.Op a.Name a.Int a.Text a.Kids:Option (Pq (Aa×Ad) Unit)) (fun r=>r) (fun _=>none))))
theorem A5.body {Γ:P4} {K:Nat} {R:Aj} (hR:R.Ok) {p0:Ad} {r:Aa×Ad} (h:A5.F K R p0=some r):P1 V P 25 100 Γ (Tryz.f144.body.getD .skip) (Po P V Tryz.f144 (.agg [.I r.1.Op,.str r.1.Name,.I r.1.Int,.str r.1.Text,.ro .Af r.1.Kids]) [(0,.raw [.ro .Am r.2.l,.I r.2.at_,.B r.2.bad])]) ⟨Pn 0 [.P 0],[(0,.raw (Ac p0))]⟩:=by
 unfold A5.F at h;refine Pl L 200 <| Pb ?_;obtain ⟨⟨n,o⟩,h1,h⟩:=bind_some h;dsimp only at h;refine rg L 202 [] [] [(1,(Pv (.agg (Ah n)) [(0,.raw (Ac o))]))] (Pk (hR.A2 h1)) ?_;refine Pj <| Pe (Pa.trans (Pa.kk [0,2,3] [0,200,204]) (Pa.rr [(0,0),(200,21300),(204,21301)])) ?_;refine kp (S':=⟨[(0,.P 0),(2,.P 21300),(3,.P 21301)],[(0,.raw (Ac o)),(21300,.raw [.I 0,.str [],.I 0,.str [],.N]),(21301,.raw (Ah n))]⟩) ?_;obtain ⟨o1,hp1,h⟩:=Px h;refine Pu (Q':=fun e S=>False∨(e=.ret∧∃ a,Pq.done a=o1∧Po P V Tryz.f144 (.agg [.I a.1.Op,.str a.1.Name,.I a.1.Int,.str a.1.Text,.ro .Af a.1.Kids]) [(0,.raw [.ro .Am a.2.l,.I a.2.at_,.B a.2.bad])] .ret S)) (Pz (fun k S=>∃ b:List Ap,∃ c:Int,∃ d:Bool,∃ f:Int,∃ g:List UInt8,∃ i:Int,∃ j:List UInt8,∃ m:List Aa,S=⟨[(0,.P 0),(2,.P 21300),(3,.P 21301)],[(0,.raw [.ro .Am b,.I c,.B d]),(21300,.raw [.I 0,.str [],.I 0,.str [],.N]),(21301,.raw [.I f,.str g,.I i,.str j,.ro .Af m])]⟩∧A5.l6 K R k b c d f g i j m=some o1) ?_ ⟨_,_,_,_,_,_,_,_,rfl,hp1⟩) ?_
 ·clear h hp1;intro k S hS;obtain ⟨b,c,d,f,g,i,j,m,rfl,h⟩:=hS;cases k with
  | zero=>cases h
  | succ k =>
  unfold A5.l6 at h;refine Pj <| Pb ?_;obtain ⟨⟨t,u⟩,h2,h⟩:=bind_some h;dsimp only at h;refine rg L 207 [] [] [(1,(Pv (.B t) [(0,.raw (Ac u))]))] (Pk (Ai.okE h2)) ?_;rcases Pc h with ⟨c1,h⟩ |⟨c1,h⟩
  ·refine tt c1 ?_;obtain ⟨⟨v,p⟩,h3,h⟩:=bind_some h;dsimp only at h;obtain ⟨a4,h4,h⟩:=bind_some h;refine hB L mixed 210 [] [(3,.agg (Ah a4))] [(2,(Pv (.agg (Ah v)) [(0,.raw (Ac p))]))] [1] 2 (Pf (hR.A2 h3) (Pf (A0.ok h4) (Pf trivial (Pf (hR.A2 h3) (Pf (A0.ok h4) (Pk trivial)))))) (S':=⟨[(0,.P 0),(2,.P 21300),(3,.P 21301)],[(0,.raw (Ac p)),(21300,.raw [.I 0,.str [],.I 0,.str [],.N]),(21301,.raw (Ah a4))]⟩) ?_;exact ⟨k,Nat.lt_succ_self k,_,_,_,_,_,_,_,_,rfl,h⟩
  refine fN c1 <| Pb ?_;obtain ⟨⟨w,x⟩,h5,h⟩:=bind_some h;dsimp only at h;refine rg L 216 [] [] [(1,(Pv (.B w) [(0,.raw (Ac x))]))] (Pk (Ai.okE h5)) ?_;rcases Pc h with ⟨c2,h⟩ |⟨c2,h⟩
  ·refine tt c2 ?_;obtain ⟨⟨y,q⟩,h6,h⟩:=bind_some h;dsimp only at h;obtain ⟨a7,h7,h⟩:=bind_some h;refine hB L mixed 219 [] [(3,.agg (Ah a7))] [(2,(Pv (.agg (Ah y)) [(0,.raw (Ac q))]))] [1] 2 (Pf (hR.A2 h6) (Pf (A0.ok h7) (Pf trivial (Pf (hR.A2 h6) (Pf (A0.ok h7) (Pk trivial)))))) (S':=⟨[(0,.P 0),(2,.P 21300),(3,.P 21301)],[(0,.raw (Ac q)),(21300,.raw [.I 0,.str [],.I 0,.str [],.N]),(21301,.raw (Ah a7))]⟩) ?_;exact ⟨k,Nat.lt_succ_self k,_,_,_,_,_,_,_,_,rfl,h⟩
  refine fN c2 <| Pb ?_;obtain ⟨⟨z,aa⟩,h8,h⟩:=bind_some h;dsimp only at h;refine rg L 225 [] [] [(1,(Pv (.B z) [(0,.raw (Ac aa))]))] (Pk (Ai.okE h8)) ?_;rcases Pc h with ⟨c3,h⟩ |⟨c3,h⟩
  ·refine tt c3 ?_;obtain ⟨⟨ab,s⟩,h9,h⟩:=bind_some h;dsimp only at h;obtain ⟨a10,h10,h⟩:=bind_some h;refine hB L mixed 228 [] [(3,.agg (Ah a10))] [(2,(Pv (.agg (Ah ab)) [(0,.raw (Ac s))]))] [1] 2 (Pf (hR.A2 h9) (Pf (A0.ok h10) (Pf trivial (Pf (hR.A2 h9) (Pf (A0.ok h10) (Pk trivial)))))) (S':=⟨[(0,.P 0),(2,.P 21300),(3,.P 21301)],[(0,.raw (Ac s)),(21300,.raw [.I 0,.str [],.I 0,.str [],.N]),(21301,.raw (Ah a10))]⟩) ?_;exact ⟨k,Nat.lt_succ_self k,_,_,_,_,_,_,_,_,rfl,h⟩
  refine fN c3 <| Pl L 234 <| Pe (Pa.trans (Pa.kk [2] [0,21300]) (Pa.rr [(0,0),(21300,100)])) ?_;refine Pd ?_;cases h;exact .inr ⟨rfl,_,rfl,Pt⟩
 ·rintro e S (hf |⟨rfl,a,rfl,hr⟩)
  ·exact hf.elim
  ·rcases h with ⟨_,e1,h⟩ |⟨_,e1,h⟩
   ·have e2:=Pq.done.inj e1;subst e2;subst h;exact ⟨_,Pa.refl,hr⟩
   ·cases e1
def A7.l6 (K:Nat) (R:Aj):Nat→(List Ap)→Int→Bool→Int→(List UInt8)→Int→(List UInt8)→(List Aa)→Option (Pq (Aa×Ad) Unit)
 | 0,_,_,_,_,_,_,_,_=>none
 | k+1,f,g,h,a,b,c,d,e=>(Option.bind (Ai K ([43]:List UInt8) (⟨f,g,h⟩:Ad)) (fun (o,m)=>(if o=true then (Option.bind (R.A5 m) (fun (p,i)=>(Option.bind (A0 K 18 (⟨a,b,c,d,e⟩:Aa) p) (fun a4=>A7.l6 K R k i.l i.at_ i.bad a4.Op a4.Name a4.Int a4.Text a4.Kids)))) else (Option.bind (Ai K ([45]:List UInt8) m) (fun (q,n)=>(if q=true then (Option.bind (R.A5 n) (fun (r,j)=>(Option.bind (A0 K 19 (⟨a,b,c,d,e⟩:Aa) r) (fun a7=>A7.l6 K R k j.l j.at_ j.bad a7.Op a7.Name a7.Int a7.Text a7.Kids)))) else some (Pq.done ((⟨a,b,c,d,e⟩:Aa),n))))))))
def A7.F (K:Nat) (R:Aj) (p0:Ad):Option (Aa×Ad):=(Option.bind (R.A5 p0) (fun (a,b)=>(obind (A7.l6 K R K b.l b.at_ b.bad a.Op a.Name a.Int a.Text a.Kids:Option (Pq (Aa×Ad) Unit)) (fun r=>r) (fun _=>none))))
theorem A7.body {Γ:P4} {K:Nat} {R:Aj} (hR:R.Ok) {p0:Ad} {r:Aa×Ad} (h:A7.F K R p0=some r):P1 V P 19 100 Γ (Tryz.f132.body.getD .skip) (Po P V Tryz.f132 (.agg [.I r.1.Op,.str r.1.Name,.I r.1.Int,.str r.1.Text,.ro .Af r.1.Kids]) [(0,.raw [.ro .Am r.2.l,.I r.2.at_,.B r.2.bad])]) ⟨Pn 0 [.P 0],[(0,.raw (Ac p0))]⟩:=by
 unfold A7.F at h;refine Pl L 200 <| Pb ?_;obtain ⟨⟨n,o⟩,h1,h⟩:=bind_some h;dsimp only at h;refine rg L 202 [] [] [(1,(Pv (.agg (Ah n)) [(0,.raw (Ac o))]))] (Pk (hR.A5 h1)) ?_;refine Pj <| Pe (Pa.trans (Pa.kk [0,2,3] [0,200,204]) (Pa.rr [(0,0),(200,21300),(204,21301)])) ?_;refine kp (S':=⟨[(0,.P 0),(2,.P 21300),(3,.P 21301)],[(0,.raw (Ac o)),(21300,.raw [.I 0,.str [],.I 0,.str [],.N]),(21301,.raw (Ah n))]⟩) ?_;obtain ⟨o1,hp1,h⟩:=Px h;refine Pu (Q':=fun e S=>False∨(e=.ret∧∃ a,Pq.done a=o1∧Po P V Tryz.f132 (.agg [.I a.1.Op,.str a.1.Name,.I a.1.Int,.str a.1.Text,.ro .Af a.1.Kids]) [(0,.raw [.ro .Am a.2.l,.I a.2.at_,.B a.2.bad])] .ret S)) (Pz (fun k S=>∃ b:List Ap,∃ c:Int,∃ d:Bool,∃ f:Int,∃ g:List UInt8,∃ i:Int,∃ j:List UInt8,∃ m:List Aa,S=⟨[(0,.P 0),(2,.P 21300),(3,.P 21301)],[(0,.raw [.ro .Am b,.I c,.B d]),(21300,.raw [.I 0,.str [],.I 0,.str [],.N]),(21301,.raw [.I f,.str g,.I i,.str j,.ro .Af m])]⟩∧A7.l6 K R k b c d f g i j m=some o1) ?_ ⟨_,_,_,_,_,_,_,_,rfl,hp1⟩) ?_
 ·clear h hp1;intro k S hS;obtain ⟨b,c,d,f,g,i,j,m,rfl,h⟩:=hS;cases k with
  | zero=>cases h
  | succ k =>
  unfold A7.l6 at h;refine Pj <| Pb ?_;obtain ⟨⟨s,t⟩,h2,h⟩:=bind_some h;dsimp only at h;refine rg L 207 [] [] [(1,(Pv (.B s) [(0,.raw (Ac t))]))] (Pk (Ai.okE h2)) ?_;rcases Pc h with ⟨c1,h⟩ |⟨c1,h⟩
  ·refine tt c1 ?_;obtain ⟨⟨u,p⟩,h3,h⟩:=bind_some h;dsimp only at h;obtain ⟨a4,h4,h⟩:=bind_some h;refine hB L mixed 210 [] [(3,.agg (Ah a4))] [(2,(Pv (.agg (Ah u)) [(0,.raw (Ac p))]))] [1] 2 (Pf (hR.A5 h3) (Pf (A0.ok h4) (Pf trivial (Pf (hR.A5 h3) (Pf (A0.ok h4) (Pk trivial)))))) (S':=⟨[(0,.P 0),(2,.P 21300),(3,.P 21301)],[(0,.raw (Ac p)),(21300,.raw [.I 0,.str [],.I 0,.str [],.N]),(21301,.raw (Ah a4))]⟩) ?_;exact ⟨k,Nat.lt_succ_self k,_,_,_,_,_,_,_,_,rfl,h⟩
  refine fN c1 <| Pb ?_;obtain ⟨⟨v,w⟩,h5,h⟩:=bind_some h;dsimp only at h;refine rg L 216 [] [] [(1,(Pv (.B v) [(0,.raw (Ac w))]))] (Pk (Ai.okE h5)) ?_;rcases Pc h with ⟨c2,h⟩ |⟨c2,h⟩
  ·refine tt c2 ?_;obtain ⟨⟨x,q⟩,h6,h⟩:=bind_some h;dsimp only at h;obtain ⟨a7,h7,h⟩:=bind_some h;refine hB L mixed 219 [] [(3,.agg (Ah a7))] [(2,(Pv (.agg (Ah x)) [(0,.raw (Ac q))]))] [1] 2 (Pf (hR.A5 h6) (Pf (A0.ok h7) (Pf trivial (Pf (hR.A5 h6) (Pf (A0.ok h7) (Pk trivial)))))) (S':=⟨[(0,.P 0),(2,.P 21300),(3,.P 21301)],[(0,.raw (Ac q)),(21300,.raw [.I 0,.str [],.I 0,.str [],.N]),(21301,.raw (Ah a7))]⟩) ?_;exact ⟨k,Nat.lt_succ_self k,_,_,_,_,_,_,_,_,rfl,h⟩
  refine fN c2 <| Pl L 225 <| Pe (Pa.trans (Pa.kk [2] [0,21300]) (Pa.rr [(0,0),(21300,100)])) ?_;refine Pd ?_;cases h;exact .inr ⟨rfl,_,rfl,Pt⟩
 ·rintro e S (hf |⟨rfl,a,rfl,hr⟩)
  ·exact hf.elim
  ·rcases h with ⟨_,e1,h⟩ |⟨_,e1,h⟩
   ·have e2:=Pq.done.inj e1;subst e2;subst h;exact ⟨_,Pa.refl,hr⟩
   ·cases e1
def Bc.l21 (K:Nat) (R:Aj) (f:Aa):Nat→Int→(List Ap)→Int→Bool→Option (Pq (Aa×Ad) ((List Ap)×Int×Bool))
 | 0,_,_,_,_=>none
 | k+1,a,b,c,d=>(if a <(([([60]:List UInt8),([60,61]:List UInt8),([62]:List UInt8),([62,61]:List UInt8),([61,61]:List UInt8),([33,61]:List UInt8)]:List (List UInt8)).length:Int) then (if (0:Int)≤a∧(a:Int) <(([([60]:List UInt8),([60,61]:List UInt8),([62]:List UInt8),([62,61]:List UInt8),([61,61]:List UInt8),([33,61]:List UInt8)]:List (List UInt8)).length:Int) then (Option.bind (Ai K (([([60]:List UInt8),([60,61]:List UInt8),([62]:List UInt8),([62,61]:List UInt8),([61,61]:List UInt8),([33,61]:List UInt8)]:List (List UInt8)).getD (Int.toNat a) ([]:List UInt8)) (⟨b,c,d⟩:Ad)) (fun (g,e)=>(if g=true then (if (a:Int) <(([20,21,22,23,24,25]:List Int).length:Int) then (Option.bind (R.A7 e) (fun (h,i)=>(Option.bind (A0 K (([20,21,22,23,24,25]:List Int).getD (Int.toNat a) (0:Int)) f h) (fun a7=>some (Pq.done (a7,i)))))) else none) else Bc.l21 K R f k (IntKind.i64.wrap (a+1)) e.l e.at_ e.bad))) else none) else some (Pq.go (b,c,d)))
def Bc.F (K:Nat) (R:Aj) (p0:Ad):Option (Aa×Ad):=(Option.bind (Ai K ([110,111,116]:List UInt8) p0) (fun (g,e)=>(if g=true then (Option.bind (R.Bc e) (fun (h,i)=>(Option.bind (Cp K 13 h) (fun a3=>some (a3,i))))) else (Option.bind (R.A7 e) (fun (f,d)=>(obind (Bc.l21 K R f K 0 d.l d.at_ d.bad:Option (Pq (Aa×Ad) ((List Ap)×Int×Bool))) (fun r=>r) (fun (a,b,c)=>some (f,(⟨a,b,c⟩:Ad)))))))))
theorem Bc.body {Γ:P4} {K:Nat} {R:Aj} (hR:R.Ok) {p0:Ad} {r:Aa×Ad} (h:Bc.F K R p0=some r):P1 V P 37 100 Γ (Tryz.f117.body.getD .skip) (Po P V Tryz.f117 (.agg [.I r.1.Op,.str r.1.Name,.I r.1.Int,.str r.1.Text,.ro .Af r.1.Kids]) [(0,.raw [.ro .Am r.2.l,.I r.2.at_,.B r.2.bad])]) ⟨Pn 0 [.P 0],[(0,.raw (Ac p0))]⟩:=by
 unfold Bc.F at h;refine Pl L 200 <| Pb <| Pb ?_;obtain ⟨⟨q,s⟩,h1,h⟩:=bind_some h;dsimp only at h;refine rg L 202 [] [] [(1,(Pv (.B q) [(0,.raw (Ac s))]))] (Pk (Ai.okE h1)) ?_;rcases Pc h with ⟨c1,h⟩ |⟨c1,h⟩
 ·refine tt c1 <| Pb ?_;obtain ⟨⟨t,u⟩,h2,h⟩:=bind_some h;dsimp only at h;obtain ⟨a3,h3,h⟩:=bind_some h;refine rg L 205 [] [(2,.agg (Ah a3))] [(1,(Pv (.agg (Ah t)) [(0,.raw (Ac u))]))] (Pf (hR.Bc h2) (Pf (Cp.ok h3) (Pk trivial))) ?_;refine Pe (Pa.trans (Pa.kk [2] [0,200]) (Pa.rr [(0,0),(200,100)])) ?_;refine Pd ?_;cases h;exact Pt
 refine fN c1 <| Pg <| Pb ?_;obtain ⟨⟨m,n⟩,h4,h⟩:=bind_some h;dsimp only at h;refine rg L 210 [] [] [(1,(Pv (.agg (Ah m)) [(0,.raw (Ac n))]))] (Pk (hR.A7 h4)) ?_;refine Pl L 215 <| Pl L 218 <| Pb <| Pl L 221 <| Pj <| Pe (Pa.trans (Pa.kk [0,2,3,4,5,6] [0,200,212]) (Pa.rr [(0,0),(200,24300),(212,24301)])) ?_;refine kp (S':=⟨[(0,.P 0),(2,.P 24300),(3,.P 24301),(4,.cv (.ro .C4 ([([60]:List UInt8),([60,61]:List UInt8),([62]:List UInt8),([62,61]:List UInt8),([61,61]:List UInt8),([33,61]:List UInt8)]:List (List UInt8)))),(5,.cv (.ro .E8 ([20,21,22,23,24,25]:List Int))),(6,.I 0)],[(0,.raw (Ac n)),(24300,.raw [.I 0,.str [],.I 0,.str [],.N]),(24301,.raw (Ah m))]⟩) ?_;obtain ⟨o1,hp1,h⟩:=Px h;refine Pu (Q':=fun e S=>(e=.exit 0∧∃ g:List Ap,∃ i:Int,∃ j:Bool,S=⟨[(2,.P 24200),(3,.P 24201)],[(0,.raw [.ro .Am g,.I i,.B j]),(24200,.raw [.I 0,.str [],.I 0,.str [],.N]),(24201,.raw (Ah m))]⟩∧Pq.go (g,i,j)=o1)∨(e=.ret∧∃ a,Pq.done a=o1∧Po P V Tryz.f117 (.agg [.I a.1.Op,.str a.1.Name,.I a.1.Int,.str a.1.Text,.ro .Af a.1.Kids]) [(0,.raw [.ro .Am a.2.l,.I a.2.at_,.B a.2.bad])] .ret S)) (Pz (fun k S=>∃ f:Int,∃ b:List Ap,∃ c:Int,∃ d:Bool,S=⟨[(0,.P 0),(2,.P 24300),(3,.P 24301),(4,.cv (.ro .C4 ([([60]:List UInt8),([60,61]:List UInt8),([62]:List UInt8),([62,61]:List UInt8),([61,61]:List UInt8),([33,61]:List UInt8)]:List (List UInt8)))),(5,.cv (.ro .E8 ([20,21,22,23,24,25]:List Int))),(6,.I f)],[(0,.raw [.ro .Am b,.I c,.B d]),(24300,.raw [.I 0,.str [],.I 0,.str [],.N]),(24301,.raw (Ah m))]⟩∧Bc.l21 K R m k f b c d=some o1) ?_ ⟨_,_,_,_,rfl,hp1⟩) ?_
 ·clear h hp1;intro k S hS;obtain ⟨f,b,c,d,rfl,h⟩:=hS;cases k with
  | zero=>cases h
  | succ k =>
  unfold Bc.l21 at h;refine Pb <| Pl L 223 ?_;rcases Pc h with ⟨c2,h⟩ |⟨c2,h⟩
  ·refine tT c2 <| Pg <| Pb <| Pj <| Pb ?_;obtain ⟨g1,h⟩:=Ph h;obtain ⟨⟨v,o⟩,h5,h⟩:=bind_some h;dsimp only at h;refine rg L 228 [] [] [(5,(Pv (.B v) [(0,.raw (Ac o))]))] (Pf g1.1 (Pf g1.2 (Pk (Ai.okE h5)))) ?_;rcases Pc h with ⟨c3,h⟩ |⟨c3,h⟩
   ·refine tt c3 <| Pb ?_;obtain ⟨g2,h⟩:=Ph h;obtain ⟨⟨w,p⟩,h6,h⟩:=bind_some h;dsimp only at h;obtain ⟨a7,h7,h⟩:=bind_some h;refine hB L mixed 235 [] [(7,.agg (Ah a7))] [(6,(Pv (.agg (Ah w)) [(0,.raw (Ac p))]))] [0,1,5] 12 (Pf g1.1 (Pf g2 (Pf (hR.A7 h6) (Pf (A0.ok h7) (Pf trivial (Pf (hR.A7 h6) (Pf (A0.ok h7) (Pf trivial (Pf (hR.A7 h6) (Pf (A0.ok h7) (Pf trivial (Pf (hR.A7 h6) (Pf (A0.ok h7) (Pf trivial (Pf (hR.A7 h6) (Pf (A0.ok h7) (Pf trivial (Pf (A0.ok h7) (Pf trivial (Pf g1.1 (Pf g2 (Pf (hR.A7 h6) (Pf (A0.ok h7) (Pf trivial (Pf (hR.A7 h6) (Pf (A0.ok h7) (Pf trivial (Pf (hR.A7 h6) (Pf g1.1 (Pf g2 (Pf (A0.ok h7) (Pf trivial (Pf (hR.A7 h6) (Pf g1.1 (Pf g2 (Pf (A0.ok h7) (Pf trivial (Pf (A0.ok h7) (Pf trivial (Pf g1.1 (Pf g2 (Pf (A0.ok h7) (Pk trivial))))))))))))))))))))))))))))))))))))))))))) (S':=⟨[(2,.P 24300)],[(0,.raw (Ac p)),(24300,.raw (Ah a7))]⟩) ?_;refine Pe (Pa.trans (Pa.kk [2] [0,24300]) (Pa.rr [(0,0),(24300,100)])) ?_;refine Pd ?_;cases h;exact .inr ⟨rfl,_,rfl,Pt⟩
   refine fN c3 <| Pg <| Se L 245 [] [] [] (S':=⟨[(0,.P 0),(2,.P 24300),(3,.P 24301),(4,.cv (.ro .C4 ([([60]:List UInt8),([60,61]:List UInt8),([62]:List UInt8),([62,61]:List UInt8),([61,61]:List UInt8),([33,61]:List UInt8)]:List (List UInt8)))),(5,.cv (.ro .E8 ([20,21,22,23,24,25]:List Int))),(6,.I (IntKind.i64.wrap (f+1)))],[(0,.raw (Ac o)),(24300,.raw [.I 0,.str [],.I 0,.str [],.N]),(24301,.raw (Ah m))]⟩) ?_;exact ⟨k,Nat.lt_succ_self k,_,_,_,_,rfl,h⟩
  refine fF c2 <| Pe (Pa.trans (Pa.kk [2,3] [0,24300,24301]) (Pa.rr [(0,0),(24300,24200),(24301,24201)])) ?_;refine ex (S':=⟨[(2,.P 24200),(3,.P 24201)],[(0,.raw [.ro .Am b,.I c,.B d]),(24200,.raw [.I 0,.str [],.I 0,.str [],.N]),(24201,.raw (Ah m))]⟩) ?_;cases h;exact .inl ⟨rfl,_,_,_,rfl,rfl⟩
 ·rintro e S (⟨rfl,g,i,j,rfl,rfl⟩ |⟨rfl,a,rfl,hr⟩)
  ·rcases h with ⟨_,e1,h⟩ |⟨_,e1,h⟩
   ·cases e1
   ·have e2:=Pq.go.inj e1;subst e2;dsimp only at h;refine ⟨_,Pa.refl,?_⟩;refine Pl L 249 <| Pe (Pa.trans (Pa.kk [2] [0,24200]) (Pa.rr [(0,0),(24200,100)])) ?_;refine Pd ?_;cases h;exact Pt
  ·rcases h with ⟨_,e1,h⟩ |⟨_,e1,h⟩
   ·have e2:=Pq.done.inj e1;subst e2;subst h;exact ⟨_,Pa.refl,hr⟩
   ·cases e1
def Bv.l7 (K:Nat) (R:Aj):Nat→(List Ap)→Int→Bool→Int→(List UInt8)→Int→(List UInt8)→(List Aa)→Option ((List Ap)×Int×Bool×Int×(List UInt8)×Int×(List UInt8)×(List Aa))
 | 0,_,_,_,_,_,_,_,_=>none
 | k+1,g,h,i,a,b,c,d,e=>(Option.bind (Ai K ([97,110,100]:List UInt8) (⟨g,h,i⟩:Ad)) (fun (m,f)=>(if m=true then (Option.bind (R.Bc f) (fun (n,j)=>(Option.bind (A0 K 26 (⟨a,b,c,d,e⟩:Aa) n) (fun a4=>Bv.l7 K R k j.l j.at_ j.bad a4.Op a4.Name a4.Int a4.Text a4.Kids)))) else some (f.l,f.at_,f.bad,a,b,c,d,e))))
def Bv.F (K:Nat) (R:Aj) (p0:Ad):Option (Aa×Ad):=(Option.bind (R.Bc p0) (fun (a,g)=>(Option.bind (Bv.l7 K R K g.l g.at_ g.bad a.Op a.Name a.Int a.Text a.Kids:Option ((List Ap)×Int×Bool×Int×(List UInt8)×Int×(List UInt8)×(List Aa))) (fun (h,i,j,b,c,d,e,f)=>some ((⟨b,c,d,e,f⟩:Aa),(⟨h,i,j⟩:Ad))))))
theorem Bv.body {Γ:P4} {K:Nat} {R:Aj} (hR:R.Ok) {p0:Ad} {r:Aa×Ad} (h:Bv.F K R p0=some r):P1 V P 13 100 Γ (Tryz.f88.body.getD .skip) (Po P V Tryz.f88 (.agg [.I r.1.Op,.str r.1.Name,.I r.1.Int,.str r.1.Text,.ro .Af r.1.Kids]) [(0,.raw [.ro .Am r.2.l,.I r.2.at_,.B r.2.bad])]) ⟨Pn 0 [.P 0],[(0,.raw (Ac p0))]⟩:=by
 unfold Bv.F at h;refine Pl L 200 <| Pb ?_;obtain ⟨⟨v,w⟩,h1,h⟩:=bind_some h;dsimp only at h;refine rg L 202 [] [] [(1,(Pv (.agg (Ah v)) [(0,.raw (Ac w))]))] (Pk (hR.Bc h1)) ?_;refine Pb <| Pj <| Pe (Pa.trans (Pa.kk [0,2,3] [0,200,204]) (Pa.rr [(0,0),(200,21500),(204,21501)])) ?_;refine kp (S':=⟨[(0,.P 0),(2,.P 21500),(3,.P 21501)],[(0,.raw (Ac w)),(21500,.raw [.I 0,.str [],.I 0,.str [],.N]),(21501,.raw (Ah v))]⟩) ?_;obtain ⟨o1,hp1,h⟩:=bind_some h;refine Pu (Q':=fun e S=>(e=.exit 0∧∃ s:List Ap,∃ t:Int,∃ u:Bool,∃ g:Int,∃ i:List UInt8,∃ j:Int,∃ m:List UInt8,∃ n:List Aa,S=⟨[(2,.P 21400),(3,.P 21401)],[(0,.raw [.ro .Am s,.I t,.B u]),(21400,.raw [.I 0,.str [],.I 0,.str [],.N]),(21401,.raw [.I g,.str i,.I j,.str m,.ro .Af n])]⟩∧(s,t,u,g,i,j,m,n)=o1)) (Pz (fun k S=>∃ o:List Ap,∃ p:Int,∃ q:Bool,∃ a:Int,∃ b:List UInt8,∃ c:Int,∃ d:List UInt8,∃ f:List Aa,S=⟨[(0,.P 0),(2,.P 21500),(3,.P 21501)],[(0,.raw [.ro .Am o,.I p,.B q]),(21500,.raw [.I 0,.str [],.I 0,.str [],.N]),(21501,.raw [.I a,.str b,.I c,.str d,.ro .Af f])]⟩∧Bv.l7 K R k o p q a b c d f=some o1) ?_ ⟨_,_,_,_,_,_,_,_,rfl,hp1⟩) ?_
 ·clear h hp1;intro k S hS;obtain ⟨o,p,q,a,b,c,d,f,rfl,h⟩:=hS;cases k with
  | zero=>cases h
  | succ k =>
  unfold Bv.l7 at h;refine Pb <| Pb ?_;obtain ⟨⟨z,x⟩,h2,h⟩:=bind_some h;dsimp only at h;refine rg L 207 [] [] [(1,(Pv (.B z) [(0,.raw (Ac x))]))] (Pk (Ai.okE h2)) ?_;rcases Pc h with ⟨c1,h⟩ |⟨c1,h⟩
  ·refine tt c1 <| Pg <| Pj ?_;obtain ⟨⟨aa,y⟩,h3,h⟩:=bind_some h;dsimp only at h;obtain ⟨a4,h4,h⟩:=bind_some h;refine hB L mixed 210 [] [(3,.agg (Ah a4))] [(2,(Pv (.agg (Ah aa)) [(0,.raw (Ac y))]))] [1] 2 (Pf (hR.Bc h3) (Pf (A0.ok h4) (Pf trivial (Pf (hR.Bc h3) (Pf (A0.ok h4) (Pk trivial)))))) (S':=⟨[(0,.P 0),(2,.P 21500),(3,.P 21501)],[(0,.raw (Ac y)),(21500,.raw [.I 0,.str [],.I 0,.str [],.N]),(21501,.raw (Ah a4))]⟩) ?_;exact ⟨k,Nat.lt_succ_self k,_,_,_,_,_,_,_,_,rfl,h⟩
  refine fN c1 <| Pe (Pa.trans (Pa.kk [2,3] [0,21500,21501]) (Pa.rr [(0,0),(21500,21400),(21501,21401)])) ?_;refine ex (S':=⟨[(2,.P 21400),(3,.P 21401)],[(0,.raw (Ac x)),(21400,.raw [.I 0,.str [],.I 0,.str [],.N]),(21401,.raw [.I a,.str b,.I c,.str d,.ro .Af f])]⟩) ?_;cases h;exact ⟨rfl,_,_,_,_,_,_,_,_,rfl,rfl⟩
 ·rintro e S ⟨rfl,s,t,u,g,i,j,m,n,rfl,rfl⟩;dsimp only at h;refine ⟨_,Pa.refl,?_⟩;refine Pl L 216 <| Pe (Pa.trans (Pa.kk [2] [0,21400]) (Pa.rr [(0,0),(21400,100)])) ?_;refine Pd ?_;cases h;exact Pt
def Av.l7 (K:Nat) (R:Aj):Nat→(List Ap)→Int→Bool→Int→(List UInt8)→Int→(List UInt8)→(List Aa)→Option ((List Ap)×Int×Bool×Int×(List UInt8)×Int×(List UInt8)×(List Aa))
 | 0,_,_,_,_,_,_,_,_=>none
 | k+1,g,h,i,a,b,c,d,e=>(Option.bind (Ai K ([111,114]:List UInt8) (⟨g,h,i⟩:Ad)) (fun (m,f)=>(if m=true then (Option.bind (R.Bv f) (fun (n,j)=>(Option.bind (A0 K 27 (⟨a,b,c,d,e⟩:Aa) n) (fun a4=>Av.l7 K R k j.l j.at_ j.bad a4.Op a4.Name a4.Int a4.Text a4.Kids)))) else some (f.l,f.at_,f.bad,a,b,c,d,e))))
def Av.F (K:Nat) (R:Aj) (p0:Ad):Option (Aa×Ad):=(Option.bind (R.Bv p0) (fun (a,g)=>(Option.bind (Av.l7 K R K g.l g.at_ g.bad a.Op a.Name a.Int a.Text a.Kids:Option ((List Ap)×Int×Bool×Int×(List UInt8)×Int×(List UInt8)×(List Aa))) (fun (h,i,j,b,c,d,e,f)=>some ((⟨b,c,d,e,f⟩:Aa),(⟨h,i,j⟩:Ad))))))
theorem Av.body {Γ:P4} {K:Nat} {R:Aj} (hR:R.Ok) {p0:Ad} {r:Aa×Ad} (h:Av.F K R p0=some r):P1 V P 13 100 Γ (Tryz.f54.body.getD .skip) (Po P V Tryz.f54 (.agg [.I r.1.Op,.str r.1.Name,.I r.1.Int,.str r.1.Text,.ro .Af r.1.Kids]) [(0,.raw [.ro .Am r.2.l,.I r.2.at_,.B r.2.bad])]) ⟨Pn 0 [.P 0],[(0,.raw (Ac p0))]⟩:=by
 unfold Av.F at h;refine Pl L 200 <| Pb ?_;obtain ⟨⟨v,w⟩,h1,h⟩:=bind_some h;dsimp only at h;refine rg L 202 [] [] [(1,(Pv (.agg (Ah v)) [(0,.raw (Ac w))]))] (Pk (hR.Bv h1)) ?_;refine Pb <| Pj <| Pe (Pa.trans (Pa.kk [0,2,3] [0,200,204]) (Pa.rr [(0,0),(200,21500),(204,21501)])) ?_;refine kp (S':=⟨[(0,.P 0),(2,.P 21500),(3,.P 21501)],[(0,.raw (Ac w)),(21500,.raw [.I 0,.str [],.I 0,.str [],.N]),(21501,.raw (Ah v))]⟩) ?_;obtain ⟨o1,hp1,h⟩:=bind_some h;refine Pu (Q':=fun e S=>(e=.exit 0∧∃ s:List Ap,∃ t:Int,∃ u:Bool,∃ g:Int,∃ i:List UInt8,∃ j:Int,∃ m:List UInt8,∃ n:List Aa,S=⟨[(2,.P 21400),(3,.P 21401)],[(0,.raw [.ro .Am s,.I t,.B u]),(21400,.raw [.I 0,.str [],.I 0,.str [],.N]),(21401,.raw [.I g,.str i,.I j,.str m,.ro .Af n])]⟩∧(s,t,u,g,i,j,m,n)=o1)) (Pz (fun k S=>∃ o:List Ap,∃ p:Int,∃ q:Bool,∃ a:Int,∃ b:List UInt8,∃ c:Int,∃ d:List UInt8,∃ f:List Aa,S=⟨[(0,.P 0),(2,.P 21500),(3,.P 21501)],[(0,.raw [.ro .Am o,.I p,.B q]),(21500,.raw [.I 0,.str [],.I 0,.str [],.N]),(21501,.raw [.I a,.str b,.I c,.str d,.ro .Af f])]⟩∧Av.l7 K R k o p q a b c d f=some o1) ?_ ⟨_,_,_,_,_,_,_,_,rfl,hp1⟩) ?_
 ·clear h hp1;intro k S hS;obtain ⟨o,p,q,a,b,c,d,f,rfl,h⟩:=hS;cases k with
  | zero=>cases h
  | succ k =>
  unfold Av.l7 at h;refine Pb <| Pb ?_;obtain ⟨⟨z,x⟩,h2,h⟩:=bind_some h;dsimp only at h;refine rg L 207 [] [] [(1,(Pv (.B z) [(0,.raw (Ac x))]))] (Pk (Ai.okE h2)) ?_;rcases Pc h with ⟨c1,h⟩ |⟨c1,h⟩
  ·refine tt c1 <| Pg <| Pj ?_;obtain ⟨⟨aa,y⟩,h3,h⟩:=bind_some h;dsimp only at h;obtain ⟨a4,h4,h⟩:=bind_some h;refine hB L mixed 210 [] [(3,.agg (Ah a4))] [(2,(Pv (.agg (Ah aa)) [(0,.raw (Ac y))]))] [1] 2 (Pf (hR.Bv h3) (Pf (A0.ok h4) (Pf trivial (Pf (hR.Bv h3) (Pf (A0.ok h4) (Pk trivial)))))) (S':=⟨[(0,.P 0),(2,.P 21500),(3,.P 21501)],[(0,.raw (Ac y)),(21500,.raw [.I 0,.str [],.I 0,.str [],.N]),(21501,.raw (Ah a4))]⟩) ?_;exact ⟨k,Nat.lt_succ_self k,_,_,_,_,_,_,_,_,rfl,h⟩
  refine fN c1 <| Pe (Pa.trans (Pa.kk [2,3] [0,21500,21501]) (Pa.rr [(0,0),(21500,21400),(21501,21401)])) ?_;refine ex (S':=⟨[(2,.P 21400),(3,.P 21401)],[(0,.raw (Ac x)),(21400,.raw [.I 0,.str [],.I 0,.str [],.N]),(21401,.raw [.I a,.str b,.I c,.str d,.ro .Af f])]⟩) ?_;cases h;exact ⟨rfl,_,_,_,_,_,_,_,_,rfl,rfl⟩
 ·rintro e S ⟨rfl,s,t,u,g,i,j,m,n,rfl,rfl⟩;dsimp only at h;refine ⟨_,Pa.refl,?_⟩;refine Pl L 216 <| Pe (Pa.trans (Pa.kk [2] [0,21400]) (Pa.rr [(0,0),(21400,100)])) ?_;refine Pd ?_;cases h;exact Pt
def A9.l15 (K:Nat) (R:Aj) (p0:List UInt8):Nat→(List Ap)→Int→Bool→(List Aa)→Option (Pq ((List Aa)×Ad) ((List Ap)×Int×Bool×(List Aa)))
 | 0,_,_,_,_=>none
 | k+1,d,e,b,c=>(if b=true then some (Pq.go (d,e,b,c)) else (Option.bind (R.Av (⟨d,e,b⟩:Ad)) (fun (a,g)=>(if (c.length+([(⟨a.Op,a.Name,a.Int,a.Text,a.Kids⟩:Aa)]:List Aa).length) * 72≤140737488355328 then (Option.bind (Ai K p0 g) (fun (h,f)=>(if h=true then some (Pq.done ((c++([(⟨a.Op,a.Name,a.Int,a.Text,a.Kids⟩:Aa)]:List Aa)),f)) else (Option.bind (Ax K ([44]:List UInt8) f) (fun a4=>A9.l15 K R p0 k a4.l a4.at_ a4.bad (c++([(⟨a.Op,a.Name,a.Int,a.Text,a.Kids⟩:Aa)]:List Aa))))))) else none))))
def A9.F (K:Nat) (R:Aj) (p0:List UInt8) (p1:Ad):Option ((List Aa)×Ad):=(Option.bind (Ai K p0 p1) (fun (f,a)=>(if f=true then some (([]:List Aa),a) else (obind (A9.l15 K R p0 K a.l a.at_ a.bad ([]:List Aa):Option (Pq ((List Aa)×Ad) ((List Ap)×Int×Bool×(List Aa)))) (fun r=>r) (fun (b,c,d,e)=>some (e,(⟨b,c,d⟩:Ad)))))))
theorem A9.body {Γ:P4} {K:Nat} {R:Aj} (hR:R.Ok) {p0:List UInt8} {p1:Ad} {r:(List Aa)×Ad} (h:A9.F K R p0 p1=some r):P1 V P 27 100 Γ (Tryz.f129.body.getD .skip) (Po P V Tryz.f129 (.cv (.ro .Af r.1)) [(0,.raw [.ro .Am r.2.l,.I r.2.at_,.B r.2.bad])]) ⟨Pn 0 [.P 0,.cv (.str p0)],[(0,.raw (Ac p1))]⟩:=by
 unfold A9.F at h;refine Pl L 200 <| Pl L 202 <| Pb <| Pb ?_;obtain ⟨⟨s,p⟩,h1,h⟩:=bind_some h;dsimp only at h;refine rg L 204 [] [] [(2,(Pv (.B s) [(0,.raw (Ac p))]))] (Pk (Ai.okE h1)) ?_;rcases Pc h with ⟨c1,h⟩ |⟨c1,h⟩
 ·refine tt c1 <| Pl L 208 <| Pd ?_;cases h;exact Pt
 refine fN c1 <| Pg <| Pb <| Pj <| Pe (Pa.trans (Pa.kk [0,1,5] [0]) (Pa.trans (Pa.no 5 9500 Tag.Af) (Pa.trans (Pa.kk [0,1,5] [0,9500]) (Pa.rr [(0,0),(9500,23100)])))) ?_;refine kp (S':=⟨[(0,.P 0),(1,.cv (.str p0)),(5,.cv (.own .Af 23100))],[(0,.raw (Ac p)),(23100,.lst .Af ([]:List Aa))]⟩) ?_;obtain ⟨o1,hp1,h⟩:=Px h;refine Pu (Q':=fun e S=>(e=.exit 0∧∃ i:List Ap,∃ j:Int,∃ m:Bool,∃ o:List Aa,S=⟨[(5,.cv (.own .Af 23000))],[(0,.raw [.ro .Am i,.I j,.B m]),(23000,.lst .Af o)]⟩∧Pq.go (i,j,m,o)=o1)∨(e=.ret∧∃ a,Pq.done a=o1∧Po P V Tryz.f129 (.cv (.ro .Af a.1)) [(0,.raw [.ro .Am a.2.l,.I a.2.at_,.B a.2.bad])] .ret S)) (Pz (fun k S=>∃ d:List Ap,∃ f:Int,∃ c:Bool,∃ g:List Aa,S=⟨[(0,.P 0),(1,.cv (.str p0)),(5,.cv (.own .Af 23100))],[(0,.raw [.ro .Am d,.I f,.B c]),(23100,.lst .Af g)]⟩∧A9.l15 K R p0 k d f c g=some o1) ?_ ⟨_,_,_,_,rfl,hp1⟩) ?_
 ·clear h hp1;intro k S hS;obtain ⟨d,f,c,g,rfl,h⟩:=hS;cases k with
  | zero=>cases h
  | succ k =>
  unfold A9.l15 at h;refine Pb <| Pl L 211 ?_;rcases Pc h with ⟨c2,h⟩ |⟨c2,h⟩
  ·refine ff (b:=(!c)) (congrArg Bool.not (c2)) ?_;refine Pe (Pa.trans (Pa.kk [5] [0,23100]) (Pa.rr [(0,0),(23100,23000)])) ?_;refine ex (S':=⟨[(5,.cv (.own .Af 23000))],[(0,.raw [.ro .Am d,.I f,.B c]),(23000,.lst .Af g)]⟩) ?_;cases h;exact .inl ⟨rfl,_,_,_,_,rfl,rfl⟩
  refine tt (b:=(!c)) (congrArg Bool.not (eq_false_of_ne_true c2)) ?_;refine Pg <| Pj <| Pb ?_;obtain ⟨⟨n,t⟩,h2,h⟩:=bind_some h;dsimp only at h;obtain ⟨g1,h⟩:=Ph h;refine rg L 217 [] [] [(2,(Pv (.agg (Ah n)) [(0,.raw (Ac t))]))] (Pf (hR.Av h2) (Pf g1 (Pk trivial))) ?_;refine Pb <| Pb ?_;obtain ⟨⟨u,q⟩,h3,h⟩:=bind_some h;dsimp only at h;refine rg L 224 [] [] [(2,(Pv (.B u) [(0,.raw (Ac q))]))] (Pk (Ai.okE h3)) ?_;rcases Pc h with ⟨c3,h⟩ |⟨c3,h⟩
  ·refine tt c3 <| Pl L 228 <| Pe (Pa.trans (Pa.kk [4] [0,23100]) (Pa.fz 23100)) ?_;refine Pd ?_;cases h;exact .inr ⟨rfl,_,rfl,Pt⟩
  refine fN c3 <| Pg ?_;obtain ⟨a4,h4,h⟩:=bind_some h;refine ar L 231 [] [] [(1,(Pv (.tup []) [(0,.raw (Ac a4))]))] (cs:=[Pm V P 82 [.P 0,.cv (.str ([44]:List UInt8))] [(0,.raw (Ac q))] [0] (.tup []) [(0,.raw (Ac a4))]]) (S':=⟨[(0,.P 0),(1,.cv (.str p0)),(5,.cv (.own .Af 23100))],[(0,.raw (Ac a4)),(23100,.lst .Af (g++([(⟨n.Op,n.Name,n.Int,n.Text,n.Kids⟩:Aa)]:List Aa)))]⟩) (Ax.okE h4) ?_;exact ⟨k,Nat.lt_succ_self k,_,_,_,_,rfl,h⟩
 ·rintro e S (⟨rfl,i,j,m,o,rfl,rfl⟩ |⟨rfl,a,rfl,hr⟩)
  ·rcases h with ⟨_,e1,h⟩ |⟨_,e1,h⟩
   ·cases e1
   ·have e2:=Pq.go.inj e1;subst e2;dsimp only at h;refine ⟨_,Pa.refl,?_⟩;refine Pl L 234 <| Pe (Pa.trans (Pa.kk [4] [0,23000]) (Pa.fz 23000)) ?_;refine Pd ?_;cases h;exact Pt
  ·rcases h with ⟨_,e1,h⟩ |⟨_,e1,h⟩
   ·have e2:=Pq.done.inj e1;subst e2;subst h;exact ⟨_,Pa.refl,hr⟩
   ·cases e1
def B3.l15 (K:Nat) (R:Aj):Nat→(List Ap)→Int→Bool→(List Aa)→Option (Pq ((List Aa)×Ad) ((List Ap)×Int×Bool×(List Aa)))
 | 0,_,_,_,_=>none
 | k+1,b,a,c,d=>(if c=true then some (Pq.go (b,a,c,d)) else (Option.bind (Bh K (⟨b,a,c⟩:Ad) 4) (fun a2=>(if a2=true then (if (0:Int)≤a∧(a:Int) <(b.length:Int) then (Option.bind (Ax K ([58]:List UInt8) (⟨b,(IntKind.i64.wrap (a+1)),c⟩:Ad)) (fun a3=>(Option.bind (R.Av a3) (fun (f,g)=>(Option.bind (Cp K 9 f) (fun a5=>(if (d.length+([(⟨a5.Op,a5.Name,a5.Int,(b.getD (Int.toNat a) Du).Text,a5.Kids⟩:Aa)]:List Aa).length) * 72≤140737488355328 then (Option.bind (Ai K ([125]:List UInt8) g) (fun (h,e)=>(if h=true then some (Pq.done (((d++([(⟨a5.Op,a5.Name,a5.Int,(b.getD (Int.toNat a) Du).Text,a5.Kids⟩:Aa)]:List Aa)),e))) else (Option.bind (Ax K ([44]:List UInt8) e) (fun a7=>B3.l15 K R k a7.l a7.at_ a7.bad (d++([(⟨a5.Op,a5.Name,a5.Int,(b.getD (Int.toNat a) Du).Text,a5.Kids⟩:Aa)]:List Aa))))))) else none))))))) else none) else some (Pq.done (d,(⟨b,a,true⟩:Ad)))))))
def B3.F (K:Nat) (R:Aj) (p0:Ad):Option ((List Aa)×Ad):=(Option.bind (Ai K ([125]:List UInt8) p0) (fun (f,a)=>(if f=true then some (([]:List Aa),a) else (obind (B3.l15 K R K a.l a.at_ a.bad ([]:List Aa):Option (Pq ((List Aa)×Ad) ((List Ap)×Int×Bool×(List Aa)))) (fun r=>r) (fun (b,c,d,e)=>some (e,(⟨b,c,d⟩:Ad)))))))
theorem B3.body {Γ:P4} {K:Nat} {R:Aj} (hR:R.Ok) {p0:Ad} {r:(List Aa)×Ad} (h:B3.F K R p0=some r):P1 V P 56 100 Γ (Tryz.f130.body.getD .skip) (Po P V Tryz.f130 (.cv (.ro .Af r.1)) [(0,.raw [.ro .Am r.2.l,.I r.2.at_,.B r.2.bad])]) ⟨Pn 0 [.P 0],[(0,.raw (Ac p0))]⟩:=by
 unfold B3.F at h;refine Pl L 200 <| Pl L 202 <| Pb <| Pb ?_;obtain ⟨⟨q,o⟩,h1,h⟩:=bind_some h;dsimp only at h;refine rg L 204 [] [] [(1,(Pv (.B q) [(0,.raw (Ac o))]))] (Pk (Ai.okE h1)) ?_;rcases Pc h with ⟨c1,h⟩ |⟨c1,h⟩
 ·refine tt c1 <| Pl L 207 <| Pd ?_;cases h;exact Pt
 refine fN c1 <| Pg <| Pb <| Pj <| Pe (Pa.trans (Pa.kk [0,3] [0]) (Pa.trans (Pa.no 3 9500 Tag.Af) (Pa.trans (Pa.kk [0,3] [0,9500]) (Pa.rr [(0,0),(9500,23100)])))) ?_;refine kp (S':=⟨[(0,.P 0),(3,.cv (.own .Af 23100))],[(0,.raw (Ac o)),(23100,.lst .Af ([]:List Aa))]⟩) ?_;obtain ⟨o1,hp1,h⟩:=Px h;refine Pu (Q':=fun e S=>(e=.exit 0∧∃ i:List Ap,∃ j:Int,∃ m:Bool,∃ n:List Aa,S=⟨[(3,.cv (.own .Af 23000))],[(0,.raw [.ro .Am i,.I j,.B m]),(23000,.lst .Af n)]⟩∧Pq.go (i,j,m,n)=o1)∨(e=.ret∧∃ a,Pq.done a=o1∧Po P V Tryz.f130 (.cv (.ro .Af a.1)) [(0,.raw [.ro .Am a.2.l,.I a.2.at_,.B a.2.bad])] .ret S)) (Pz (fun k S=>∃ d:List Ap,∃ f:Int,∃ c:Bool,∃ g:List Aa,S=⟨[(0,.P 0),(3,.cv (.own .Af 23100))],[(0,.raw [.ro .Am d,.I f,.B c]),(23100,.lst .Af g)]⟩∧B3.l15 K R k d f c g=some o1) ?_ ⟨_,_,_,_,rfl,hp1⟩) ?_
 ·clear h hp1;intro k S hS;obtain ⟨d,f,c,g,rfl,h⟩:=hS;cases k with
  | zero=>cases h
  | succ k =>
  unfold B3.l15 at h;refine Pb <| Pl L 210 ?_;rcases Pc h with ⟨c2,h⟩ |⟨c2,h⟩
  ·refine ff (b:=(!c)) (congrArg Bool.not (c2)) ?_;refine Pe (Pa.trans (Pa.kk [3] [0,23100]) (Pa.rr [(0,0),(23100,23000)])) ?_;refine ex (S':=⟨[(3,.cv (.own .Af 23000))],[(0,.raw [.ro .Am d,.I f,.B c]),(23000,.lst .Af g)]⟩) ?_;cases h;exact .inl ⟨rfl,_,_,_,_,rfl,rfl⟩
  refine tt (b:=(!c)) (congrArg Bool.not (eq_false_of_ne_true c2)) ?_;refine Pg <| Pj <| Pb <| Pb ?_;obtain ⟨a2,h2,h⟩:=bind_some h;refine rg L 216 [] [(1,.B a2)] [] (Qu (Bh.ok h2)) ?_;rcases Pc h with ⟨c3,h⟩ |⟨c3,h⟩
  ·refine ff (b:=(!a2)) (congrArg Bool.not (c3)) ?_;refine Pg <| Pb ?_;obtain ⟨g1,h⟩:=Ph h;refine rd L mixed 228 [] [] [] [] 12 (Q2 g1.1 g1.2) ?_;refine Pl L 241 <| Pb ?_;obtain ⟨a3,h3,h⟩:=bind_some h;refine rg L 250 [] [] [(1,(Pv (.tup []) [(0,.raw (Ac a3))]))] (Pk (Ax.okE h3)) ?_;refine Pb ?_;obtain ⟨⟨s,t⟩,h4,h⟩:=bind_some h;dsimp only at h;obtain ⟨a5,h5,h⟩:=bind_some h;refine rg L 253 [] [(2,.agg (Ah a5))] [(1,(Pv (.agg (Ah s)) [(0,.raw (Ac t))]))] (Pf (hR.Av h4) (Pf (Cp.ok h5) (Pk trivial))) ?_;refine Pl L 259 <| Pb ?_;obtain ⟨g2,h⟩:=Ph h;refine rg L 263 [] [] [] (Qu g2) ?_;refine Pb <| Pb ?_;obtain ⟨⟨u,p⟩,h6,h⟩:=bind_some h;dsimp only at h;refine rg L 269 [] [] [(1,(Pv (.B u) [(0,.raw (Ac p))]))] (Pk (Ai.okE h6)) ?_;rcases Pc h with ⟨c4,h⟩ |⟨c4,h⟩
   ·refine tt c4 <| Pl L 272 <| Pe (Pa.trans (Pa.kk [2] [0,23100]) (Pa.fz 23100)) ?_;refine Pd ?_;cases h;exact .inr ⟨rfl,_,rfl,Pt⟩
   refine fN c4 <| Pg ?_;obtain ⟨a7,h7,h⟩:=bind_some h;refine ar L 275 [] [] [(1,(Pv (.tup []) [(0,.raw (Ac a7))]))] (cs:=[Pm V P 82 [.P 0,.cv (.str ([44]:List UInt8))] [(0,.raw (Ac p))] [0] (.tup []) [(0,.raw (Ac a7))]]) (S':=⟨[(0,.P 0),(3,.cv (.own .Af 23100))],[(0,.raw (Ac a7)),(23100,.lst .Af (g++([(⟨a5.Op,a5.Name,a5.Int,(d.getD (Int.toNat f) Du).Text,a5.Kids⟩:Aa)]:List Aa)))]⟩) (Ax.okE h7) ?_;exact ⟨k,Nat.lt_succ_self k,_,_,_,_,rfl,h⟩
  refine tt (b:=(!a2)) (congrArg Bool.not (eq_false_of_ne_true c3)) ?_;refine Pl L 220 <| Pl L 225 <| Pe (Pa.trans (Pa.kk [2] [0,23100]) (Pa.fz 23100)) ?_;refine Pd ?_;cases h;exact .inr ⟨rfl,_,rfl,Pt⟩
 ·rintro e S (⟨rfl,i,j,m,n,rfl,rfl⟩ |⟨rfl,a,rfl,hr⟩)
  ·rcases h with ⟨_,e1,h⟩ |⟨_,e1,h⟩
   ·cases e1
   ·have e2:=Pq.go.inj e1;subst e2;dsimp only at h;refine ⟨_,Pa.refl,?_⟩;refine Pl L 278 <| Pe (Pa.trans (Pa.kk [2] [0,23000]) (Pa.fz 23000)) ?_;refine Pd ?_;cases h;exact Pt
  ·rcases h with ⟨_,e1,h⟩ |⟨_,e1,h⟩
   ·have e2:=Pq.done.inj e1;subst e2;subst h;exact ⟨_,Pa.refl,hr⟩
   ·cases e1
end Go.Proofs.YtifjagfmfkemmaaGreatDoor
