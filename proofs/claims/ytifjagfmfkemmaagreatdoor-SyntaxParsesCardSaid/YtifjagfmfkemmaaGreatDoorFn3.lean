import Derived.Test.YtifjagfmfkemmaaGreatDoorFn2
set_option linter.unusedVariables false
set_option maxHeartbeats 0
namespace Go.Proofs.YtifjagfmfkemmaaGreatDoor
open Eng
def D2.F (K:Nat) (R:Am) (p0:Aa):Option Bool:=(if p0.Op=50 then (Option.bind (Bb K p0 true false false) (fun a1=>(if a1=true then (if p0.Name=([]:List UInt8) then (if (p0.Kids.length:Int)=2 then (if (0:Int) <(p0.Kids.length:Int) then (Option.bind (Bo K (p0.Kids.getD (Int.toNat 0) A9)) (fun a2=>(if a2=true then (if (1:Int) <(p0.Kids.length:Int) then (Option.bind (R.Bq (p0.Kids.getD (Int.toNat 1) A9)) (fun a3=>some a3)) else none) else some false))) else none) else some false) else (Option.bind (B6 K p0.Name) (fun a4=>(if a4=true then (if (p0.Kids.length:Int)=2 then (if (0:Int) <(p0.Kids.length:Int) then (Option.bind (Bo K (p0.Kids.getD (Int.toNat 0) A9)) (fun a5=>(if a5=true then (if (1:Int) <(p0.Kids.length:Int) then (Option.bind (R.Bq (p0.Kids.getD (Int.toNat 1) A9)) (fun a6=>some a6)) else none) else some false))) else none) else some false) else some false)))) else some false))) else some false)
theorem D2.body {Γ:Yg} {K:Nat} {R:Am} (hR:R.Ok) {p0:Aa} {r:Bool} (h:D2.F K R p0=some r):Yc V P 40 100 Γ (Tryz.f136.body.getD .skip) (X1 P V Tryz.f136 (.B r) []) ⟨X0 0 [.agg (Aj p0)],[]⟩:=by
 unfold D2.F at h;refine Xy L 200 <| Xo ?_;rcases Xp h with ⟨c1,h⟩ |⟨c1,h⟩
 ·obtain ⟨a1,h1,h⟩:=bind_some h;rcases Xp h with ⟨c2,h⟩ |⟨c2,h⟩
  ·rcases Xp h with ⟨c3,h⟩ |⟨c3,h⟩
   ·rcases Xp h with ⟨c4,h⟩ |⟨c4,h⟩
    ·obtain ⟨g1,h⟩:=Xv h;obtain ⟨a2,h2,h⟩:=bind_some h;rcases Xp h with ⟨c5,h⟩ |⟨c5,h⟩
     ·obtain ⟨g2,h⟩:=Xv h;obtain ⟨a3,h3,h⟩:=bind_some h;refine rg L 203 [(3,true),(7,true),(11,true),(23,true),(30,true)] [(5,.B a1),(28,.B a2),(35,.B a3)] [] (Xt (decide_eq_true c1) (Xt (Bb.ok h1) (Xt trivial (Xt c2 (Xt (decide_eq_true c3) (Xt (decide_eq_true c4) (Xt (show (0:Int)≤0 from by decide) (Xt g1 (Xt (Bo.ok h2) (Xt trivial (Xt c5 (Xt (show (0:Int)≤1 from by decide) (Xt g2 (Xt (Bq.okR hR h3) (Xx trivial))))))))))))))) ?_;refine Xq ?_;cases h;exact X7
     refine rg L 203 [(3,true),(7,true),(11,true),(23,true),(30,false)] [(5,.B a1),(28,.B a2)] [] (Xt (decide_eq_true c1) (Xt (Bb.ok h1) (Xt trivial (Xt c2 (Xt (decide_eq_true c3) (Xt (decide_eq_true c4) (Xt (show (0:Int)≤0 from by decide) (Xt g1 (Xt (Bo.ok h2) (Xt trivial (Xx (eq_false_of_ne_true c5)))))))))))) ?_;refine Xq ?_;cases h;exact X7
    refine rg L 203 [(3,true),(7,true),(11,true),(23,false)] [(5,.B a1)] [] (Xt (decide_eq_true c1) (Xt (Bb.ok h1) (Xt trivial (Xt c2 (Xt (decide_eq_true c3) (Xx (decide_eq_false c4))))))) ?_;refine Xq ?_;cases h;exact X7
   obtain ⟨a4,h4,h⟩:=bind_some h;rcases Xp h with ⟨c6,h⟩ |⟨c6,h⟩
   ·rcases Xp h with ⟨c7,h⟩ |⟨c7,h⟩
    ·obtain ⟨g3,h⟩:=Xv h;obtain ⟨a5,h5,h⟩:=bind_some h;rcases Xp h with ⟨c8,h⟩ |⟨c8,h⟩
     ·obtain ⟨g4,h⟩:=Xv h;obtain ⟨a6,h6,h⟩:=bind_some h;refine rg L 203 [(3,true),(7,true),(11,false),(17,true),(23,true),(30,true)] [(5,.B a1),(14,.B a4),(28,.B a5),(35,.B a6)] [] (Xt (decide_eq_true c1) (Xt (Bb.ok h1) (Xt trivial (Xt c2 (Xt (decide_eq_false c3) (Xt (B6.ok h4) (Xt trivial (Xt c6 (Xt (decide_eq_true c7) (Xt (show (0:Int)≤0 from by decide) (Xt g3 (Xt (Bo.ok h5) (Xt trivial (Xt c8 (Xt (show (0:Int)≤1 from by decide) (Xt g4 (Xt (Bq.okR hR h6) (Xx trivial)))))))))))))))))) ?_;refine Xq ?_;cases h;exact X7
     refine rg L 203 [(3,true),(7,true),(11,false),(17,true),(23,true),(30,false)] [(5,.B a1),(14,.B a4),(28,.B a5)] [] (Xt (decide_eq_true c1) (Xt (Bb.ok h1) (Xt trivial (Xt c2 (Xt (decide_eq_false c3) (Xt (B6.ok h4) (Xt trivial (Xt c6 (Xt (decide_eq_true c7) (Xt (show (0:Int)≤0 from by decide) (Xt g3 (Xt (Bo.ok h5) (Xt trivial (Xx (eq_false_of_ne_true c8))))))))))))))) ?_;refine Xq ?_;cases h;exact X7
    refine rg L 203 [(3,true),(7,true),(11,false),(17,true),(23,false)] [(5,.B a1),(14,.B a4)] [] (Xt (decide_eq_true c1) (Xt (Bb.ok h1) (Xt trivial (Xt c2 (Xt (decide_eq_false c3) (Xt (B6.ok h4) (Xt trivial (Xt c6 (Xx (decide_eq_false c7)))))))))) ?_;refine Xq ?_;cases h;exact X7
   refine rg L 203 [(3,true),(7,true),(11,false),(17,false)] [(5,.B a1),(14,.B a4)] [] (Xt (decide_eq_true c1) (Xt (Bb.ok h1) (Xt trivial (Xt c2 (Xt (decide_eq_false c3) (Xt (B6.ok h4) (Xt trivial (Xx (eq_false_of_ne_true c6))))))))) ?_;refine Xq ?_;cases h;exact X7
  refine rg L 203 [(3,true),(7,false)] [(5,.B a1)] [] (Xt (decide_eq_true c1) (Xt (Bb.ok h1) (Xt trivial (Xx (eq_false_of_ne_true c2))))) ?_;refine Xq ?_;cases h;exact X7
 refine rg L 203 [(3,false)] [] [] (Xx (decide_eq_false c1)) ?_;refine Xq ?_;cases h;exact X7
def Dl.F (K:Nat) (R:Am) (p0:Aa):Option Bool:=(Option.bind (R.D2 p0) (fun a1=>some (!a1)))
theorem Dl.body {Γ:Yg} {K:Nat} {R:Am} (hR:R.Ok) {p0:Aa} {r:Bool} (h:Dl.F K R p0=some r):Yc V P 8 100 Γ (Tryz.f57.body.getD .skip) (X1 P V Tryz.f57 (.B r) []) ⟨X0 0 [.agg (Aj p0),.cv (.pcs [.fn (.func 136) [] []] 0)],[]⟩:=by
 unfold Dl.F at h;refine Xy L 200 <| Xo ?_;obtain ⟨a1,h1,h⟩:=bind_some h;refine rg L 203 [] [(2,.B a1)] [] (Yw (D2.okR hR h1)) ?_;refine Xq ?_;cases h;exact X7
def Cn.l7 (K:Nat) (R:Am) (p0:List Aa):Nat→Int→Option (X3 Int Unit)
 | 0,_=>none
 | k+1,a=>(if a <(p0.length:Int) then (if (0:Int)≤a∧(a:Int) <(p0.length:Int) then (Option.bind (R.Dl (p0.getD (Int.toNat a) A9)) (fun a1=>(if a1=true then some (X3.done a) else Cn.l7 K R p0 k (IntKind.i64.wrap (a+1))))) else none) else some (X3.go ()))
def Cn.F (K:Nat) (R:Am) (p0:List Aa):Option Int:=(obind (Cn.l7 K R p0 K 0:Option (X3 Int Unit)) (fun r=>r) (fun _=>some (-1)))
theorem Cn.body {Γ:Yg} {K:Nat} {R:Am} (hR:R.Ok) {p0:List Aa} {r:Int} (h:Cn.F K R p0=some r):Yc V P 19 100 Γ (Tryz.f90.body.getD .skip) (X1 P V Tryz.f90 (.I r) []) ⟨X0 0 [.cv (.ro .Ae p0),.cv (.fn (.func 57) [] [.pcs [.fn (.func 136) [] []] 0])],[]⟩:=by
 unfold Cn.F at h;refine Xy L 200 <| Xo <| Xy L 202 <| Xw <| kp (S':=⟨[(0,.cv (.ro .Ae p0)),(1,.cv (.fn (.func 57) [] [.pcs [.fn (.func 136) [] []] 0])),(7,.I (p0.length:Int)),(8,.I 0)],[]⟩) ?_;obtain ⟨o1,hp1,h⟩:=X9 h;refine X4 (Q':=fun e S=>(e=.exit 0∧S=⟨[],[]⟩∧X3.go ()=o1)∨(e=.ret∧∃ a,X3.done a=o1∧X1 P V Tryz.f90 (.I a) [] .ret S)) (Yb (fun k S=>∃ b:Int,S=⟨[(0,.cv (.ro .Ae p0)),(1,.cv (.fn (.func 57) [] [.pcs [.fn (.func 136) [] []] 0])),(7,.I (p0.length:Int)),(8,.I b)],[]⟩∧Cn.l7 K R p0 k b=some o1) ?_ ⟨_,rfl,hp1⟩) ?_
 ·clear h hp1;intro k S hS;obtain ⟨b,rfl,h⟩:=hS;cases k with
  | zero=>cases h
  | succ k =>
  unfold Cn.l7 at h;refine Xy L 206 <| Xo ?_;rcases Xp h with ⟨c1,h⟩ |⟨c1,h⟩
  ·refine tT c1 <| Xu <| Xo <| Xw <| Xy L 208 <| Xo ?_;obtain ⟨g1,h⟩:=Xv h;obtain ⟨a1,h1,h⟩:=bind_some h;refine rg L 211 [] [(5,.B a1)] [] (Xt g1.1 (Xt g1.2 (Xt (Dl.okR hR h1) (Xx trivial)))) ?_;rcases Xp h with ⟨c2,h⟩ |⟨c2,h⟩
   ·refine tt c2 <| Xy L 218 <| Xq ?_;cases h;exact .inr ⟨rfl,_,rfl,X7⟩
   refine fN c2 <| Xu <| ar0 L 221 [] [] [] (S':=⟨[(0,.cv (.ro .Ae p0)),(1,.cv (.fn (.func 57) [] [.pcs [.fn (.func 136) [] []] 0])),(7,.I (p0.length:Int)),(8,.I (IntKind.i64.wrap (b+1)))],[]⟩) ?_;exact ⟨k,Nat.lt_succ_self k,_,rfl,h⟩
  refine fF c1 <| ex (S':=⟨[],[]⟩) ?_;cases h;exact .inl ⟨rfl,rfl,rfl⟩
 ·rintro e S (⟨rfl,rfl,rfl⟩ |⟨rfl,a,rfl,hr⟩)
  ·rcases h with ⟨_,e1,h⟩ |⟨_,e1,h⟩
   ·cases e1
   ·have e2:=X3.go.inj e1;subst e2;refine ⟨_,Xn.refl,?_⟩;refine Xy L 224 <| Xq ?_;cases h;exact X7
  ·rcases h with ⟨_,e1,h⟩ |⟨_,e1,h⟩
   ·have e2:=X3.done.inj e1;subst e2;subst h;exact ⟨_,Xn.refl,hr⟩
   ·cases e1
def Cy.F (K:Nat) (R:Am) (p0:List Aa):Option Bool:=(Option.bind (R.Cn p0) (fun a1=>some (decide (a1≥0))))
theorem Cy.body {Γ:Yg} {K:Nat} {R:Am} (hR:R.Ok) {p0:List Aa} {r:Bool} (h:Cy.F K R p0=some r):Yc V P 9 100 Γ (Tryz.f56.body.getD .skip) (X1 P V Tryz.f56 (.B r) []) ⟨X0 0 [.cv (.ro .Ae p0),.cv (.fn (.func 57) [] [.pcs [.fn (.func 136) [] []] 0])],[]⟩:=by
 unfold Cy.F at h;refine Xy L 200 <| Xo ?_;obtain ⟨a1,h1,h⟩:=bind_some h;refine rg L 202 [] [(2,.I a1)] [] (Yw (Cn.okR hR h1)) ?_;refine Xq ?_;cases h;exact X7
def Dw.F (K:Nat) (R:Am) (p0:List Aa):Option Bool:=(Option.bind (R.Cy p0) (fun a1=>some (!a1)))
theorem Dw.body {Γ:Yg} {K:Nat} {R:Am} (hR:R.Ok) {p0:List Aa} {r:Bool} (h:Dw.F K R p0=some r):Yc V P 9 100 Γ (Tryz.f30.body.getD .skip) (X1 P V Tryz.f30 (.B r) []) ⟨X0 0 [.cv (.ro .Ae p0),.cv (.fn (.func 136) [] [])],[]⟩:=by
 unfold Dw.F at h;refine Xy L 200 <| Xo ?_;obtain ⟨a1,h1,h⟩:=bind_some h;refine rg L 203 [] [(2,.B a1)] [] (Yw (Cy.okR hR h1)) ?_;refine Xq ?_;cases h;exact X7
def Dx.F (K:Nat) (R:Am) (p0:List Aa):Option Bool:=(Option.bind (((if (IntKind.i64.wrap ((p0.length:Int) - 1))≥0 then (if (0:Int)≤(IntKind.i64.wrap ((p0.length:Int) - 1))∧((IntKind.i64.wrap ((p0.length:Int) - 1)):Int) <(p0.length:Int) then some ((decide ((p0.getD (Int.toNat (IntKind.i64.wrap ((p0.length:Int) - 1))) A9).Op=51))) else none) else some false)):Option Bool) (fun a=>(if a=true then (if (0:Int)≤(IntKind.i64.wrap ((p0.length:Int) - 1))∧((IntKind.i64.wrap ((p0.length:Int) - 1)):Int) <(p0.length:Int) then (Option.bind (Bb K (p0.getD (Int.toNat (IntKind.i64.wrap ((p0.length:Int) - 1))) A9) false false false) (fun a1=>(if a1=true then (if (((p0.getD (Int.toNat (IntKind.i64.wrap ((p0.length:Int) - 1))) A9).Kids).length:Int)≠1 then some false else (if (0:Int) <(((p0.getD (Int.toNat (IntKind.i64.wrap ((p0.length:Int) - 1))) A9).Kids).length:Int) then (Option.bind (R.Bq ((((p0.getD (Int.toNat (IntKind.i64.wrap ((p0.length:Int) - 1))) A9).Kids).getD (Int.toNat 0) A9))) (fun a2=>(if a2=true then (if (IntKind.i64.wrap ((p0.length:Int) - 1))≤16 then (if (IntKind.i64.wrap ((p0.length:Int) - 1))≤(p0.length:Int) then (Option.bind (R.Dw (slc p0 0 (IntKind.i64.wrap ((p0.length:Int) - 1)))) (fun a3=>some a3)) else none) else some false) else some false))) else none)) else some false))) else none) else (if (p0.length:Int)≥1 then (if (p0.length:Int)≤16 then (Option.bind (R.Dw p0) (fun a4=>some a4)) else some false) else some false))))
theorem Dx.body {Γ:Yg} {K:Nat} {R:Am} (hR:R.Ok) {p0:List Aa} {r:Bool} (h:Dx.F K R p0=some r):Yc V P 59 100 Γ (Tryz.f121.body.getD .skip) (X1 P V Tryz.f121 (.B r) []) ⟨X0 0 [.cv (.ro .Ae p0)],[]⟩:=by
 unfold Dx.F at h;refine Xy L 200 <| Xo <| Xy L 202 ?_;obtain ⟨o1,hp1,h⟩:=bind_some h;refine Xo (Ye (Q':=fun e S=>(e=.normal∧∃ a:Bool,S=⟨[(0,.cv (.ro .Ae p0)),(3,.I (IntKind.i64.wrap ((p0.length:Int) - 1))),(17,.B a)],[]⟩∧a=o1)) ?_ ?_)
 ·clear h;replace h:=hp1;rcases Xp h with ⟨c1,h⟩ |⟨c1,h⟩
  ·obtain ⟨g1,h⟩:=Xv h;refine ar L 207 [(2,true)] [] [] (cs:=[(decide ((IntKind.i64.wrap ((p0.length:Int) - 1))≥0))=true,(0:Int)≤(IntKind.i64.wrap ((p0.length:Int) - 1)),((IntKind.i64.wrap ((p0.length:Int) - 1)):Int) <(p0.length:Int)]) (S':=⟨[(0,.cv (.ro .Ae p0)),(3,.I (IntKind.i64.wrap ((p0.length:Int) - 1))),(17,.B ((decide ((p0.getD (Int.toNat (IntKind.i64.wrap ((p0.length:Int) - 1))) A9).Op=51))))],[]⟩) (And.intro (decide_eq_true c1) (And.intro g1.1 g1.2)) ?_;cases h;exact ⟨rfl,_,rfl,rfl⟩
  refine ar L 207 [(2,false)] [] [] (cs:=[(decide ((IntKind.i64.wrap ((p0.length:Int) - 1))≥0))=false]) (S':=⟨[(0,.cv (.ro .Ae p0)),(3,.I (IntKind.i64.wrap ((p0.length:Int) - 1))),(17,.B false)],[]⟩) (decide_eq_false c1) ?_;cases h;exact ⟨rfl,_,rfl,rfl⟩
 ·rintro e S ⟨rfl,a,rfl,rfl⟩;rcases Xp h with ⟨c2,h⟩ |⟨c2,h⟩
  ·refine tt c2 <| Xo <| Xo ?_;obtain ⟨g2,h⟩:=Xv h;refine rg L 218 [] [] [] (Zb g2.1 g2.2) ?_;refine Xo ?_;obtain ⟨a1,h1,h⟩:=bind_some h;rcases Xp h with ⟨c3,h⟩ |⟨c3,h⟩
   ·rcases Xp h with ⟨c4,h⟩ |⟨c4,h⟩
    ·refine rg L 225 [(3,false),(9,true)] [(1,.B a1)] [] (Xt (Bb.ok h1) (Xt trivial (Xt (show (!a1)=false from congrArg Bool.not (c3)) (Xx (decide_eq_true c4))))) ?_;refine tt (b:=true) (rfl) ?_;refine Xy L 243 <| Xq ?_;cases h;exact X7
    obtain ⟨g3,h⟩:=Xv h;obtain ⟨a2,h2,h⟩:=bind_some h;refine rg L 225 [(3,false),(9,false)] [(1,.B a1),(14,.B a2)] [] (Xt (Bb.ok h1) (Xt trivial (Xt (show (!a1)=false from congrArg Bool.not (c3)) (Xt (decide_eq_false c4) (Xt (show (0:Int)≤0 from by decide) (Xt g3 (Xt (Bq.okR hR h2) (Xx trivial)))))))) ?_;rcases Xp h with ⟨c5,h⟩ |⟨c5,h⟩
    ·refine ff (b:=(!a2)) (congrArg Bool.not (c5)) ?_;refine Xu <| Xo ?_;rcases Xp h with ⟨c6,h⟩ |⟨c6,h⟩
     ·obtain ⟨g4,h⟩:=Xv h;obtain ⟨a3,h3,h⟩:=bind_some h;refine rg L 245 [(2,true)] [(6,.B a3)] [] (Xt (decide_eq_true c6) (Xt (show (0:Int)≤0 from Int.le_refl _) (Xt g2.1 (Xt g4 (Xt (Dw.okR hR h3) (Xx trivial)))))) ?_;refine Xq ?_;cases h;exact X7
     refine rg L 245 [(2,false)] [] [] (Xx (decide_eq_false c6)) ?_;refine Xq ?_;cases h;exact X7
    refine tt (b:=(!a2)) (congrArg Bool.not (eq_false_of_ne_true c5)) ?_;refine Xy L 243 <| Xq ?_;cases h;exact X7
   refine rg L 225 [(3,true)] [(1,.B a1)] [] (Xt (Bb.ok h1) (Xt trivial (Xx (show (!a1)=true from congrArg Bool.not (eq_false_of_ne_true c3))))) ?_;refine tt (b:=true) (rfl) ?_;refine Xy L 243 <| Xq ?_;cases h;exact X7
  refine fN c2 <| Xu <| Xo ?_;rcases Xp h with ⟨c7,h⟩ |⟨c7,h⟩
  ·rcases Xp h with ⟨c8,h⟩ |⟨c8,h⟩
   ·obtain ⟨a4,h4,h⟩:=bind_some h;refine rg L 255 [(3,true),(8,true)] [(10,.B a4)] [] (Xt (decide_eq_true c7) (Xt (decide_eq_true c8) (Xt (Dw.okR hR h4) (Xx trivial)))) ?_;refine Xq ?_;cases h;exact X7
   refine rg L 255 [(3,true),(8,false)] [] [] (Zb (decide_eq_true c7) (decide_eq_false c8)) ?_;refine Xq ?_;cases h;exact X7
  refine rg L 255 [(3,false)] [] [] (Xx (decide_eq_false c7)) ?_;refine Xq ?_;cases h;exact X7
def C4.F (K:Nat) (R:Am) (p0:Aa):Option Bool:=(Option.bind ((if p0.Op=40 then some (decide (p0.Op=40)) else some (decide (p0.Op=41))):Option Bool) (fun b=>(if b=true then (Option.bind (Bb K p0 true false false) (fun a1=>(if a1=true then (Option.bind (B6 K p0.Name) (fun a2=>(if a2=true then (if (p0.Kids.length:Int)=1 then (if (0:Int) <(p0.Kids.length:Int) then (Option.bind (Bo K (p0.Kids.getD (Int.toNat 0) A9)) (fun a3=>some a3)) else none) else some false) else some false))) else some false))) else (if p0.Op=42 then (Option.bind (Bb K p0 false false false) (fun a4=>(if a4=true then (Option.bind (R.El p0.Kids) (fun a5=>some a5)) else some false))) else (if p0.Op=43 then (Option.bind (Bb K p0 false false false) (fun a6=>(if a6=true then (if (p0.Kids.length:Int)=2 then (if (0:Int) <(p0.Kids.length:Int) then (Option.bind (Bo K (p0.Kids.getD (Int.toNat 0) A9)) (fun a7=>(if a7=true then (if (1:Int) <(p0.Kids.length:Int) then (Option.bind (R.Bq (p0.Kids.getD (Int.toNat 1) A9)) (fun a8=>some a8)) else none) else some false))) else none) else some false) else some false))) else (if p0.Op=44 then (Option.bind (Bb K p0 false false false) (fun a9=>(if a9=true then (if (p0.Kids.length:Int)≤1 then (Option.bind (C9 K p0.Kids) (fun a10=>some a10)) else some false) else some false))) else (Option.bind ((if p0.Op=45 then some (decide (p0.Op=45)) else some (decide (p0.Op=52))):Option Bool) (fun a=>(if a=true then (Option.bind (Bb K p0 false false false) (fun a11=>(if a11=true then (if (p0.Kids.length:Int)=1 then (if (0:Int) <(p0.Kids.length:Int) then (Option.bind (Bo K (p0.Kids.getD (Int.toNat 0) A9)) (fun a12=>some a12)) else none) else some false) else some false))) else (if p0.Op=46 then (Option.bind (Bb K p0 true false false) (fun a13=>(if a13=true then (Option.bind (B6 K p0.Name) (fun a14=>(if a14=true then (if (p0.Kids.length:Int)=2 then (Option.bind (R.Ds p0.Kids) (fun a15=>some a15)) else some false) else some false))) else some false))) else (if p0.Op=47 then (Option.bind (Bb K p0 false false false) (fun a16=>(if a16=true then (if (p0.Kids.length:Int)=1 then (if (0:Int) <(p0.Kids.length:Int) then (Option.bind (R.Bq (p0.Kids.getD (Int.toNat 0) A9)) (fun a17=>some a17)) else none) else some false) else some false))) else (if p0.Op=48 then (Option.bind (Bb K p0 true false false) (fun a18=>(if a18=true then (Option.bind (B6 K p0.Name) (fun a19=>(if a19=true then (Option.bind (C9 K p0.Kids) (fun a20=>some a20)) else some false))) else some false))) else (if p0.Op=49 then (Option.bind (Bb K p0 false false false) (fun a21=>(if a21=true then (Option.bind (R.Dx p0.Kids) (fun a22=>some a22)) else some false))) else (if p0.Op=53 then some false else some false))))))))))))))
theorem C4.body {Γ:Yg} {K:Nat} {R:Am} (hR:R.Ok) {p0:Aa} {r:Bool} (h:C4.F K R p0=some r):Yc V P 143 100 Γ (Tryz.f92.body.getD .skip) (X1 P V Tryz.f92 (.B r) []) ⟨X0 0 [.agg (Aj p0)],[]⟩:=by
 unfold C4.F at h;refine Xy L 200 <| Xy L 203 <| Xo <| Xy L 207 <| Xw ?_;obtain ⟨o1,hp1,h⟩:=bind_some h;refine Xo (Ye (Q':=fun e S=>(e=.normal∧∃ b:Bool,S=⟨[(1,.P 21800),(3,.cv (.ro .Ae p0.Kids)),(7,.I p0.Op),(8,.B b)],[(21800,.raw (Aj p0))]⟩∧b=o1)) ?_ ?_)
 ·clear h;replace h:=hp1;refine Xy L 210 ?_;rcases Xp h with ⟨c1,h⟩ |⟨c1,h⟩
  ·refine tT c1 <| Xr (Xn.trans (Xn.kk [1,3,7,8] [200]) (Xn.rr [(200,21800)])) ?_;refine sk (S':=⟨[(1,.P 21800),(3,.cv (.ro .Ae p0.Kids)),(7,.I p0.Op),(8,.B (decide (p0.Op=40)))],[(21800,.raw (Aj p0))]⟩) ?_;cases h;exact ⟨rfl,_,rfl,rfl⟩
  refine fF c1 <| X2 (rg0 L 213 ⟨rfl,rfl⟩) (Xn.trans (Xn.kk [1,3,7,8] [200]) (Xn.trans (Xn.rr [(200,21800)]) (Xn.kp (S':=⟨[(1,.P 21800),(3,.cv (.ro .Ae p0.Kids)),(7,.I p0.Op),(8,.B (decide (p0.Op=41)))],[(21800,.raw (Aj p0))]⟩)))) ?_;cases h;exact ⟨rfl,_,rfl,rfl⟩
 ·rintro e S ⟨rfl,b,rfl,rfl⟩;rcases Xp h with ⟨c2,h⟩ |⟨c2,h⟩
  ·refine tt c2 <| Xo ?_;obtain ⟨a1,h1,h⟩:=bind_some h;rcases Xp h with ⟨c3,h⟩ |⟨c3,h⟩
   ·obtain ⟨a2,h2,h⟩:=bind_some h;rcases Xp h with ⟨c4,h⟩ |⟨c4,h⟩
    ·rcases Xp h with ⟨c5,h⟩ |⟨c5,h⟩
     ·obtain ⟨g1,h⟩:=Xv h;obtain ⟨a3,h3,h⟩:=bind_some h;refine rg L 216 [(2,true),(7,true),(12,true)] [(1,.B a1),(5,.B a2),(16,.B a3)] [] (Xt (Bb.ok h1) (Xt trivial (Xt c3 (Xt (B6.ok h2) (Xt trivial (Xt c4 (Xt (decide_eq_true c5) (Xt (show (0:Int)≤0 from by decide) (Xt g1 (Xt (Bo.ok h3) (Xx trivial))))))))))) ?_;refine Xq ?_;cases h;exact X7
     refine rg L 216 [(2,true),(7,true),(12,false)] [(1,.B a1),(5,.B a2)] [] (Xt (Bb.ok h1) (Xt trivial (Xt c3 (Xt (B6.ok h2) (Xt trivial (Xt c4 (Xx (decide_eq_false c5)))))))) ?_;refine Xq ?_;cases h;exact X7
    refine rg L 216 [(2,true),(7,false)] [(1,.B a1),(5,.B a2)] [] (Xt (Bb.ok h1) (Xt trivial (Xt c3 (Xt (B6.ok h2) (Xt trivial (Xx (eq_false_of_ne_true c4))))))) ?_;refine Xq ?_;cases h;exact X7
   refine rg L 216 [(2,false)] [(1,.B a1)] [] (Xt (Bb.ok h1) (Xt trivial (Xx (eq_false_of_ne_true c3)))) ?_;refine Xq ?_;cases h;exact X7
  refine fN c2 <| Xy L 236 ?_;rcases Xp h with ⟨c6,h⟩ |⟨c6,h⟩
  ·refine tT c6 <| Xo ?_;obtain ⟨a4,h4,h⟩:=bind_some h;rcases Xp h with ⟨c7,h⟩ |⟨c7,h⟩
   ·obtain ⟨a5,h5,h⟩:=bind_some h;refine rg L 239 [(2,true)] [(1,.B a4),(4,.B a5)] [] (Xt (Bb.ok h4) (Xt trivial (Xt c7 (Xt (El.okR hR h5) (Xx trivial))))) ?_;refine Xq ?_;cases h;exact X7
   refine rg L 239 [(2,false)] [(1,.B a4)] [] (Xt (Bb.ok h4) (Xt trivial (Xx (eq_false_of_ne_true c7)))) ?_;refine Xq ?_;cases h;exact X7
  refine fF c6 <| Xy L 247 ?_;rcases Xp h with ⟨c8,h⟩ |⟨c8,h⟩
  ·refine tT c8 <| Xo ?_;obtain ⟨a6,h6,h⟩:=bind_some h;rcases Xp h with ⟨c9,h⟩ |⟨c9,h⟩
   ·rcases Xp h with ⟨c10,h⟩ |⟨c10,h⟩
    ·obtain ⟨g2,h⟩:=Xv h;obtain ⟨a7,h7,h⟩:=bind_some h;rcases Xp h with ⟨c11,h⟩ |⟨c11,h⟩
     ·obtain ⟨g3,h⟩:=Xv h;obtain ⟨a8,h8,h⟩:=bind_some h;refine rg L 250 [(2,true),(7,true),(13,true)] [(1,.B a6),(11,.B a7),(17,.B a8)] [] (Xt (Bb.ok h6) (Xt trivial (Xt c9 (Xt (decide_eq_true c10) (Xt (show (0:Int)≤0 from by decide) (Xt g2 (Xt (Bo.ok h7) (Xt trivial (Xt c11 (Xt (show (0:Int)≤1 from by decide) (Xt g3 (Xt (Bq.okR hR h8) (Xx trivial))))))))))))) ?_;refine Xq ?_;cases h;exact X7
     refine rg L 250 [(2,true),(7,true),(13,false)] [(1,.B a6),(11,.B a7)] [] (Xt (Bb.ok h6) (Xt trivial (Xt c9 (Xt (decide_eq_true c10) (Xt (show (0:Int)≤0 from by decide) (Xt g2 (Xt (Bo.ok h7) (Xt trivial (Xx (eq_false_of_ne_true c11)))))))))) ?_;refine Xq ?_;cases h;exact X7
    refine rg L 250 [(2,true),(7,false)] [(1,.B a6)] [] (Xt (Bb.ok h6) (Xt trivial (Xt c9 (Xx (decide_eq_false c10))))) ?_;refine Xq ?_;cases h;exact X7
   refine rg L 250 [(2,false)] [(1,.B a6)] [] (Xt (Bb.ok h6) (Xt trivial (Xx (eq_false_of_ne_true c9)))) ?_;refine Xq ?_;cases h;exact X7
  refine fF c8 <| Xy L 271 ?_;rcases Xp h with ⟨c12,h⟩ |⟨c12,h⟩
  ·refine tT c12 <| Xo ?_;obtain ⟨a9,h9,h⟩:=bind_some h;rcases Xp h with ⟨c13,h⟩ |⟨c13,h⟩
   ·rcases Xp h with ⟨c14,h⟩ |⟨c14,h⟩
    ·obtain ⟨a10,h10,h⟩:=bind_some h;refine rg L 274 [(2,true),(7,true)] [(1,.B a9),(9,.B a10)] [] (Xt (Bb.ok h9) (Xt trivial (Xt c13 (Xt (decide_eq_true c14) (Xt (C9.ok h10) (Xx trivial)))))) ?_;refine Xq ?_;cases h;exact X7
    refine rg L 274 [(2,true),(7,false)] [(1,.B a9)] [] (Xt (Bb.ok h9) (Xt trivial (Xt c13 (Xx (decide_eq_false c14))))) ?_;refine Xq ?_;cases h;exact X7
   refine rg L 274 [(2,false)] [(1,.B a9)] [] (Xt (Bb.ok h9) (Xt trivial (Xx (eq_false_of_ne_true c13)))) ?_;refine Xq ?_;cases h;exact X7
  refine fF c12 ?_;obtain ⟨o2,hp2,h⟩:=bind_some h;refine Xo (Ye (Q':=fun e S=>(e=.normal∧∃ a:Bool,S=⟨[(1,.P 27400),(3,.cv (.ro .Ae p0.Kids)),(7,.I p0.Op),(71,.B a)],[(27400,.raw (Aj p0))]⟩∧a=o2)) ?_ ?_)
  ·clear h;replace h:=hp2;refine Xy L 287 ?_;rcases Xp h with ⟨c15,h⟩ |⟨c15,h⟩
   ·refine tT c15 <| Xr (Xn.trans (Xn.kk [1,3,7,71] [21800]) (Xn.rr [(21800,27400)])) ?_;refine sk (S':=⟨[(1,.P 27400),(3,.cv (.ro .Ae p0.Kids)),(7,.I p0.Op),(71,.B (decide (p0.Op=45)))],[(27400,.raw (Aj p0))]⟩) ?_;cases h;exact ⟨rfl,_,rfl,rfl⟩
   refine fF c15 <| X2 (rg0 L 290 ⟨rfl,rfl⟩) (Xn.trans (Xn.kk [1,3,7,71] [21800]) (Xn.trans (Xn.rr [(21800,27400)]) (Xn.kp (S':=⟨[(1,.P 27400),(3,.cv (.ro .Ae p0.Kids)),(7,.I p0.Op),(71,.B (decide (p0.Op=52)))],[(27400,.raw (Aj p0))]⟩)))) ?_;cases h;exact ⟨rfl,_,rfl,rfl⟩
  ·rintro e S ⟨rfl,a,rfl,rfl⟩;rcases Xp h with ⟨c16,h⟩ |⟨c16,h⟩
   ·refine tt c16 <| Xo ?_;obtain ⟨a11,h11,h⟩:=bind_some h;rcases Xp h with ⟨c17,h⟩ |⟨c17,h⟩
    ·rcases Xp h with ⟨c18,h⟩ |⟨c18,h⟩
     ·obtain ⟨g4,h⟩:=Xv h;obtain ⟨a12,h12,h⟩:=bind_some h;refine rg L 293 [(2,true),(7,true)] [(1,.B a11),(11,.B a12)] [] (Xt (Bb.ok h11) (Xt trivial (Xt c17 (Xt (decide_eq_true c18) (Xt (show (0:Int)≤0 from by decide) (Xt g4 (Xt (Bo.ok h12) (Xx trivial)))))))) ?_;refine Xq ?_;cases h;exact X7
     refine rg L 293 [(2,true),(7,false)] [(1,.B a11)] [] (Xt (Bb.ok h11) (Xt trivial (Xt c17 (Xx (decide_eq_false c18))))) ?_;refine Xq ?_;cases h;exact X7
    refine rg L 293 [(2,false)] [(1,.B a11)] [] (Xt (Bb.ok h11) (Xt trivial (Xx (eq_false_of_ne_true c17)))) ?_;refine Xq ?_;cases h;exact X7
   refine fN c16 <| Xy L 308 ?_;rcases Xp h with ⟨c19,h⟩ |⟨c19,h⟩
   ·refine tT c19 <| Xo ?_;obtain ⟨a13,h13,h⟩:=bind_some h;rcases Xp h with ⟨c20,h⟩ |⟨c20,h⟩
    ·obtain ⟨a14,h14,h⟩:=bind_some h;rcases Xp h with ⟨c21,h⟩ |⟨c21,h⟩
     ·rcases Xp h with ⟨c22,h⟩ |⟨c22,h⟩
      ·obtain ⟨a15,h15,h⟩:=bind_some h;refine rg L 311 [(2,true),(7,true),(12,true)] [(1,.B a13),(5,.B a14),(14,.B a15)] [] (Xt (Bb.ok h13) (Xt trivial (Xt c20 (Xt (B6.ok h14) (Xt trivial (Xt c21 (Xt (decide_eq_true c22) (Xt (Ds.okR hR h15) (Xx trivial))))))))) ?_;refine Xq ?_;cases h;exact X7
      refine rg L 311 [(2,true),(7,true),(12,false)] [(1,.B a13),(5,.B a14)] [] (Xt (Bb.ok h13) (Xt trivial (Xt c20 (Xt (B6.ok h14) (Xt trivial (Xt c21 (Xx (decide_eq_false c22)))))))) ?_;refine Xq ?_;cases h;exact X7
     refine rg L 311 [(2,true),(7,false)] [(1,.B a13),(5,.B a14)] [] (Xt (Bb.ok h13) (Xt trivial (Xt c20 (Xt (B6.ok h14) (Xt trivial (Xx (eq_false_of_ne_true c21))))))) ?_;refine Xq ?_;cases h;exact X7
    refine rg L 311 [(2,false)] [(1,.B a13)] [] (Xt (Bb.ok h13) (Xt trivial (Xx (eq_false_of_ne_true c20)))) ?_;refine Xq ?_;cases h;exact X7
   refine fF c19 <| Xy L 329 ?_;rcases Xp h with ⟨c23,h⟩ |⟨c23,h⟩
   ·refine tT c23 <| Xo ?_;obtain ⟨a16,h16,h⟩:=bind_some h;rcases Xp h with ⟨c24,h⟩ |⟨c24,h⟩
    ·rcases Xp h with ⟨c25,h⟩ |⟨c25,h⟩
     ·obtain ⟨g5,h⟩:=Xv h;obtain ⟨a17,h17,h⟩:=bind_some h;refine rg L 332 [(2,true),(7,true)] [(1,.B a16),(11,.B a17)] [] (Xt (Bb.ok h16) (Xt trivial (Xt c24 (Xt (decide_eq_true c25) (Xt (show (0:Int)≤0 from by decide) (Xt g5 (Xt (Bq.okR hR h17) (Xx trivial)))))))) ?_;refine Xq ?_;cases h;exact X7
     refine rg L 332 [(2,true),(7,false)] [(1,.B a16)] [] (Xt (Bb.ok h16) (Xt trivial (Xt c24 (Xx (decide_eq_false c25))))) ?_;refine Xq ?_;cases h;exact X7
    refine rg L 332 [(2,false)] [(1,.B a16)] [] (Xt (Bb.ok h16) (Xt trivial (Xx (eq_false_of_ne_true c24)))) ?_;refine Xq ?_;cases h;exact X7
   refine fF c23 <| Xy L 347 ?_;rcases Xp h with ⟨c26,h⟩ |⟨c26,h⟩
   ·refine tT c26 <| Xo ?_;obtain ⟨a18,h18,h⟩:=bind_some h;rcases Xp h with ⟨c27,h⟩ |⟨c27,h⟩
    ·obtain ⟨a19,h19,h⟩:=bind_some h;rcases Xp h with ⟨c28,h⟩ |⟨c28,h⟩
     ·obtain ⟨a20,h20,h⟩:=bind_some h;refine rg L 350 [(2,true),(7,true)] [(1,.B a18),(5,.B a19),(9,.B a20)] [] (Xt (Bb.ok h18) (Xt trivial (Xt c27 (Xt (B6.ok h19) (Xt trivial (Xt c28 (Xt (C9.ok h20) (Xx trivial)))))))) ?_;refine Xq ?_;cases h;exact X7
     refine rg L 350 [(2,true),(7,false)] [(1,.B a18),(5,.B a19)] [] (Xt (Bb.ok h18) (Xt trivial (Xt c27 (Xt (B6.ok h19) (Xt trivial (Xx (eq_false_of_ne_true c28))))))) ?_;refine Xq ?_;cases h;exact X7
    refine rg L 350 [(2,false)] [(1,.B a18)] [] (Xt (Bb.ok h18) (Xt trivial (Xx (eq_false_of_ne_true c27)))) ?_;refine Xq ?_;cases h;exact X7
   refine fF c26 <| Xy L 363 ?_;rcases Xp h with ⟨c29,h⟩ |⟨c29,h⟩
   ·refine tT c29 <| Xo ?_;obtain ⟨a21,h21,h⟩:=bind_some h;rcases Xp h with ⟨c30,h⟩ |⟨c30,h⟩
    ·obtain ⟨a22,h22,h⟩:=bind_some h;refine rg L 366 [(2,true)] [(1,.B a21),(4,.B a22)] [] (Xt (Bb.ok h21) (Xt trivial (Xt c30 (Xt (Dx.okR hR h22) (Xx trivial))))) ?_;refine Xq ?_;cases h;exact X7
    refine rg L 366 [(2,false)] [(1,.B a21)] [] (Xt (Bb.ok h21) (Xt trivial (Xx (eq_false_of_ne_true c30)))) ?_;refine Xq ?_;cases h;exact X7
   refine fF c29 <| Xy L 374 ?_;rcases Xp h with ⟨c31,h⟩ |⟨c31,h⟩
   ·refine tT c31 <| Xy L 377 <| Xq ?_;cases h;exact X7
   refine fF c31 <| Xu <| Xy L 379 <| Xq ?_;cases h;exact X7
def Dh.F (K:Nat) (R:Am) (p0:Aa):Option Bool:=(Option.bind (R.C4 p0) (fun a1=>some (!a1)))
theorem Dh.body {Γ:Yg} {K:Nat} {R:Am} (hR:R.Ok) {p0:Aa} {r:Bool} (h:Dh.F K R p0=some r):Yc V P 8 100 Γ (Tryz.f57.body.getD .skip) (X1 P V Tryz.f57 (.B r) []) ⟨X0 0 [.agg (Aj p0),.cv (.pcs [.fn (.func 92) [] []] 0)],[]⟩:=by
 unfold Dh.F at h;refine Xy L 200 <| Xo ?_;obtain ⟨a1,h1,h⟩:=bind_some h;refine rg L 203 [] [(2,.B a1)] [] (Yw (C4.okR hR h1)) ?_;refine Xq ?_;cases h;exact X7
def Cq.l7 (K:Nat) (R:Am) (p0:List Aa):Nat→Int→Option (X3 Int Unit)
 | 0,_=>none
 | k+1,a=>(if a <(p0.length:Int) then (if (0:Int)≤a∧(a:Int) <(p0.length:Int) then (Option.bind (R.Dh (p0.getD (Int.toNat a) A9)) (fun a1=>(if a1=true then some (X3.done a) else Cq.l7 K R p0 k (IntKind.i64.wrap (a+1))))) else none) else some (X3.go ()))
def Cq.F (K:Nat) (R:Am) (p0:List Aa):Option Int:=(obind (Cq.l7 K R p0 K 0:Option (X3 Int Unit)) (fun r=>r) (fun _=>some (-1)))
theorem Cq.body {Γ:Yg} {K:Nat} {R:Am} (hR:R.Ok) {p0:List Aa} {r:Int} (h:Cq.F K R p0=some r):Yc V P 19 100 Γ (Tryz.f90.body.getD .skip) (X1 P V Tryz.f90 (.I r) []) ⟨X0 0 [.cv (.ro .Ae p0),.cv (.fn (.func 57) [] [.pcs [.fn (.func 92) [] []] 0])],[]⟩:=by
 unfold Cq.F at h;refine Xy L 200 <| Xo <| Xy L 202 <| Xw <| kp (S':=⟨[(0,.cv (.ro .Ae p0)),(1,.cv (.fn (.func 57) [] [.pcs [.fn (.func 92) [] []] 0])),(7,.I (p0.length:Int)),(8,.I 0)],[]⟩) ?_;obtain ⟨o1,hp1,h⟩:=X9 h;refine X4 (Q':=fun e S=>(e=.exit 0∧S=⟨[],[]⟩∧X3.go ()=o1)∨(e=.ret∧∃ a,X3.done a=o1∧X1 P V Tryz.f90 (.I a) [] .ret S)) (Yb (fun k S=>∃ b:Int,S=⟨[(0,.cv (.ro .Ae p0)),(1,.cv (.fn (.func 57) [] [.pcs [.fn (.func 92) [] []] 0])),(7,.I (p0.length:Int)),(8,.I b)],[]⟩∧Cq.l7 K R p0 k b=some o1) ?_ ⟨_,rfl,hp1⟩) ?_
 ·clear h hp1;intro k S hS;obtain ⟨b,rfl,h⟩:=hS;cases k with
  | zero=>cases h
  | succ k =>
  unfold Cq.l7 at h;refine Xy L 206 <| Xo ?_;rcases Xp h with ⟨c1,h⟩ |⟨c1,h⟩
  ·refine tT c1 <| Xu <| Xo <| Xw <| Xy L 208 <| Xo ?_;obtain ⟨g1,h⟩:=Xv h;obtain ⟨a1,h1,h⟩:=bind_some h;refine rg L 211 [] [(5,.B a1)] [] (Xt g1.1 (Xt g1.2 (Xt (Dh.okR hR h1) (Xx trivial)))) ?_;rcases Xp h with ⟨c2,h⟩ |⟨c2,h⟩
   ·refine tt c2 <| Xy L 218 <| Xq ?_;cases h;exact .inr ⟨rfl,_,rfl,X7⟩
   refine fN c2 <| Xu <| ar0 L 221 [] [] [] (S':=⟨[(0,.cv (.ro .Ae p0)),(1,.cv (.fn (.func 57) [] [.pcs [.fn (.func 92) [] []] 0])),(7,.I (p0.length:Int)),(8,.I (IntKind.i64.wrap (b+1)))],[]⟩) ?_;exact ⟨k,Nat.lt_succ_self k,_,rfl,h⟩
  refine fF c1 <| ex (S':=⟨[],[]⟩) ?_;cases h;exact .inl ⟨rfl,rfl,rfl⟩
 ·rintro e S (⟨rfl,rfl,rfl⟩ |⟨rfl,a,rfl,hr⟩)
  ·rcases h with ⟨_,e1,h⟩ |⟨_,e1,h⟩
   ·cases e1
   ·have e2:=X3.go.inj e1;subst e2;refine ⟨_,Xn.refl,?_⟩;refine Xy L 224 <| Xq ?_;cases h;exact X7
  ·rcases h with ⟨_,e1,h⟩ |⟨_,e1,h⟩
   ·have e2:=X3.done.inj e1;subst e2;subst h;exact ⟨_,Xn.refl,hr⟩
   ·cases e1
def Cz.F (K:Nat) (R:Am) (p0:List Aa):Option Bool:=(Option.bind (R.Cq p0) (fun a1=>some (decide (a1≥0))))
theorem Cz.body {Γ:Yg} {K:Nat} {R:Am} (hR:R.Ok) {p0:List Aa} {r:Bool} (h:Cz.F K R p0=some r):Yc V P 9 100 Γ (Tryz.f56.body.getD .skip) (X1 P V Tryz.f56 (.B r) []) ⟨X0 0 [.cv (.ro .Ae p0),.cv (.fn (.func 57) [] [.pcs [.fn (.func 92) [] []] 0])],[]⟩:=by
 unfold Cz.F at h;refine Xy L 200 <| Xo ?_;obtain ⟨a1,h1,h⟩:=bind_some h;refine rg L 202 [] [(2,.I a1)] [] (Yw (Cq.okR hR h1)) ?_;refine Xq ?_;cases h;exact X7
def D1.F (K:Nat) (R:Am) (p0:List Aa):Option Bool:=(Option.bind (R.Cz p0) (fun a1=>some (!a1)))
theorem D1.body {Γ:Yg} {K:Nat} {R:Am} (hR:R.Ok) {p0:List Aa} {r:Bool} (h:D1.F K R p0=some r):Yc V P 9 100 Γ (Tryz.f30.body.getD .skip) (X1 P V Tryz.f30 (.B r) []) ⟨X0 0 [.cv (.ro .Ae p0),.cv (.fn (.func 92) [] [])],[]⟩:=by
 unfold D1.F at h;refine Xy L 200 <| Xo ?_;obtain ⟨a1,h1,h⟩:=bind_some h;refine rg L 203 [] [(2,.B a1)] [] (Yw (Cz.okR hR h1)) ?_;refine Xq ?_;cases h;exact X7
def Bq.F (K:Nat) (R:Am) (p0:Aa):Option Bool:=(if p0.Op=53 then (Option.bind (Bb K p0 false false false) (fun a1=>(if a1=true then (Option.bind (R.D1 p0.Kids) (fun a2=>some a2)) else some false))) else some false)
theorem Bq.body {Γ:Yg} {K:Nat} {R:Am} (hR:R.Ok) {p0:Aa} {r:Bool} (h:Bq.F K R p0=some r):Yc V P 15 100 Γ (Tryz.f60.body.getD .skip) (X1 P V Tryz.f60 (.B r) []) ⟨X0 0 [.agg (Aj p0)],[]⟩:=by
 unfold Bq.F at h;refine Xy L 200 <| Xo ?_;rcases Xp h with ⟨c1,h⟩ |⟨c1,h⟩
 ·obtain ⟨a1,h1,h⟩:=bind_some h;rcases Xp h with ⟨c2,h⟩ |⟨c2,h⟩
  ·obtain ⟨a2,h2,h⟩:=bind_some h;refine rg L 203 [(3,true),(7,true)] [(5,.B a1),(10,.B a2)] [] (Xt (decide_eq_true c1) (Xt (Bb.ok h1) (Xt trivial (Xt c2 (Xt (D1.okR hR h2) (Xx trivial)))))) ?_;refine Xq ?_;cases h;exact X7
  refine rg L 203 [(3,true),(7,false)] [(5,.B a1)] [] (Xt (decide_eq_true c1) (Xt (Bb.ok h1) (Xt trivial (Xx (eq_false_of_ne_true c2))))) ?_;refine Xq ?_;cases h;exact X7
 refine rg L 203 [(3,false)] [] [] (Xx (decide_eq_false c1)) ?_;refine Xq ?_;cases h;exact X7
def Am.upto (K:Nat):Nat→Am
 | 0=>⟨fun _=>none,fun _=>none,fun _=>none,fun _=>none,fun _=>none,fun _=>none,fun _=>none,fun _=>none,fun _=>none,fun _=>none,fun _=>none,fun _=>none,fun _=>none,fun _=>none,fun _=>none,fun _=>none,fun _=>none⟩
 | k+1=>⟨El.F K (Am.upto K k),Dj.F K (Am.upto K k),Co.F K (Am.upto K k),Cx.F K (Am.upto K k),Ds.F K (Am.upto K k),D2.F K (Am.upto K k),Dl.F K (Am.upto K k),Cn.F K (Am.upto K k),Cy.F K (Am.upto K k),Dw.F K (Am.upto K k),Dx.F K (Am.upto K k),C4.F K (Am.upto K k),Dh.F K (Am.upto K k),Cq.F K (Am.upto K k),Cz.F K (Am.upto K k),D1.F K (Am.upto K k),Bq.F K (Am.upto K k)⟩
theorem Am.upto_ok (K:Nat):∀ k,(Am.upto K k).Ok
 | 0=>⟨fun h=>(by cases h),fun h=>(by cases h),fun h=>(by cases h),fun h=>(by cases h),fun h=>(by cases h),fun h=>(by cases h),fun h=>(by cases h),fun h=>(by cases h),fun h=>(by cases h),fun h=>(by cases h),fun h=>(by cases h),fun h=>(by cases h),fun h=>(by cases h),fun h=>(by cases h),fun h=>(by cases h),fun h=>(by cases h),fun h=>(by cases h)⟩
 | k+1=>⟨fun {p0 r} h=>eo (fn:=Tryz.f120) (n:=47) (m:=100) fun Γ=>El.body (K:=K) (Am.upto_ok K k) h,fun {p0 r} h=>eo (fn:=Tryz.f57) (n:=8) (m:=100) fun Γ=>Dj.body (K:=K) (Am.upto_ok K k) h,fun {p0 r} h=>eo (fn:=Tryz.f90) (n:=19) (m:=100) fun Γ=>Co.body (K:=K) (Am.upto_ok K k) h,fun {p0 r} h=>eo (fn:=Tryz.f56) (n:=9) (m:=100) fun Γ=>Cx.body (K:=K) (Am.upto_ok K k) h,fun {p0 r} h=>eo (fn:=Tryz.f30) (n:=9) (m:=100) fun Γ=>Ds.body (K:=K) (Am.upto_ok K k) h,fun {p0 r} h=>eo (fn:=Tryz.f136) (n:=40) (m:=100) fun Γ=>D2.body (K:=K) (Am.upto_ok K k) h,fun {p0 r} h=>eo (fn:=Tryz.f57) (n:=8) (m:=100) fun Γ=>Dl.body (K:=K) (Am.upto_ok K k) h,fun {p0 r} h=>eo (fn:=Tryz.f90) (n:=19) (m:=100) fun Γ=>Cn.body (K:=K) (Am.upto_ok K k) h,fun {p0 r} h=>eo (fn:=Tryz.f56) (n:=9) (m:=100) fun Γ=>Cy.body (K:=K) (Am.upto_ok K k) h,fun {p0 r} h=>eo (fn:=Tryz.f30) (n:=9) (m:=100) fun Γ=>Dw.body (K:=K) (Am.upto_ok K k) h,fun {p0 r} h=>eo (fn:=Tryz.f121) (n:=59) (m:=100) fun Γ=>Dx.body (K:=K) (Am.upto_ok K k) h,fun {p0 r} h=>eo (fn:=Tryz.f92) (n:=143) (m:=100) fun Γ=>C4.body (K:=K) (Am.upto_ok K k) h,fun {p0 r} h=>eo (fn:=Tryz.f57) (n:=8) (m:=100) fun Γ=>Dh.body (K:=K) (Am.upto_ok K k) h,fun {p0 r} h=>eo (fn:=Tryz.f90) (n:=19) (m:=100) fun Γ=>Cq.body (K:=K) (Am.upto_ok K k) h,fun {p0 r} h=>eo (fn:=Tryz.f56) (n:=9) (m:=100) fun Γ=>Cz.body (K:=K) (Am.upto_ok K k) h,fun {p0 r} h=>eo (fn:=Tryz.f30) (n:=9) (m:=100) fun Γ=>D1.body (K:=K) (Am.upto_ok K k) h,fun {p0 r} h=>eo (fn:=Tryz.f60) (n:=15) (m:=100) fun Γ=>Bq.body (K:=K) (Am.upto_ok K k) h⟩
def El (K:Nat) (p0:List Aa):Option Bool:=(Am.upto K K).El p0
theorem El.okE {K:Nat} {p0:List Aa} {r:Bool} (h:El K p0=some r):Xz V P 120 [.cv (.ro .Ae p0)] [] [] (.B r) []:=(Am.upto_ok K K).El h
theorem El.ok {K:Nat} {p0:List Aa} {r:Bool} (h:El K p0=some r):X6 V P 120 [.cv (.ro .Ae p0)] (.B r):=(El.okE h).pcall (by kernel_rfl)
def Dj (K:Nat) (p0:Aa):Option Bool:=(Am.upto K K).Dj p0
theorem Dj.okE {K:Nat} {p0:Aa} {r:Bool} (h:Dj K p0=some r):Xz V P 57 [.agg (Aj p0),.cv (.pcs [.fn (.func 60) [] []] 0)] [] [] (.B r) []:=(Am.upto_ok K K).Dj h
theorem Dj.ok {K:Nat} {p0:Aa} {r:Bool} (h:Dj K p0=some r):X6 V P 57 [.agg (Aj p0),.cv (.pcs [.fn (.func 60) [] []] 0)] (.B r):=(Dj.okE h).pcall (by kernel_rfl)
def Co (K:Nat) (p0:List Aa):Option Int:=(Am.upto K K).Co p0
theorem Co.okE {K:Nat} {p0:List Aa} {r:Int} (h:Co K p0=some r):Xz V P 90 [.cv (.ro .Ae p0),.cv (.fn (.func 57) [] [.pcs [.fn (.func 60) [] []] 0])] [] [] (.I r) []:=(Am.upto_ok K K).Co h
theorem Co.ok {K:Nat} {p0:List Aa} {r:Int} (h:Co K p0=some r):X6 V P 90 [.cv (.ro .Ae p0),.cv (.fn (.func 57) [] [.pcs [.fn (.func 60) [] []] 0])] (.I r):=(Co.okE h).pcall (by kernel_rfl)
def Cx (K:Nat) (p0:List Aa):Option Bool:=(Am.upto K K).Cx p0
theorem Cx.okE {K:Nat} {p0:List Aa} {r:Bool} (h:Cx K p0=some r):Xz V P 56 [.cv (.ro .Ae p0),.cv (.fn (.func 57) [] [.pcs [.fn (.func 60) [] []] 0])] [] [] (.B r) []:=(Am.upto_ok K K).Cx h
theorem Cx.ok {K:Nat} {p0:List Aa} {r:Bool} (h:Cx K p0=some r):X6 V P 56 [.cv (.ro .Ae p0),.cv (.fn (.func 57) [] [.pcs [.fn (.func 60) [] []] 0])] (.B r):=(Cx.okE h).pcall (by kernel_rfl)
def Ds (K:Nat) (p0:List Aa):Option Bool:=(Am.upto K K).Ds p0
theorem Ds.okE {K:Nat} {p0:List Aa} {r:Bool} (h:Ds K p0=some r):Xz V P 30 [.cv (.ro .Ae p0),.cv (.fn (.func 60) [] [])] [] [] (.B r) []:=(Am.upto_ok K K).Ds h
theorem Ds.ok {K:Nat} {p0:List Aa} {r:Bool} (h:Ds K p0=some r):X6 V P 30 [.cv (.ro .Ae p0),.cv (.fn (.func 60) [] [])] (.B r):=(Ds.okE h).pcall (by kernel_rfl)
def D2 (K:Nat) (p0:Aa):Option Bool:=(Am.upto K K).D2 p0
theorem D2.okE {K:Nat} {p0:Aa} {r:Bool} (h:D2 K p0=some r):Xz V P 136 [.agg (Aj p0)] [] [] (.B r) []:=(Am.upto_ok K K).D2 h
theorem D2.ok {K:Nat} {p0:Aa} {r:Bool} (h:D2 K p0=some r):X6 V P 136 [.agg (Aj p0)] (.B r):=(D2.okE h).pcall (by kernel_rfl)
def Dl (K:Nat) (p0:Aa):Option Bool:=(Am.upto K K).Dl p0
theorem Dl.okE {K:Nat} {p0:Aa} {r:Bool} (h:Dl K p0=some r):Xz V P 57 [.agg (Aj p0),.cv (.pcs [.fn (.func 136) [] []] 0)] [] [] (.B r) []:=(Am.upto_ok K K).Dl h
theorem Dl.ok {K:Nat} {p0:Aa} {r:Bool} (h:Dl K p0=some r):X6 V P 57 [.agg (Aj p0),.cv (.pcs [.fn (.func 136) [] []] 0)] (.B r):=(Dl.okE h).pcall (by kernel_rfl)
def Cn (K:Nat) (p0:List Aa):Option Int:=(Am.upto K K).Cn p0
theorem Cn.okE {K:Nat} {p0:List Aa} {r:Int} (h:Cn K p0=some r):Xz V P 90 [.cv (.ro .Ae p0),.cv (.fn (.func 57) [] [.pcs [.fn (.func 136) [] []] 0])] [] [] (.I r) []:=(Am.upto_ok K K).Cn h
theorem Cn.ok {K:Nat} {p0:List Aa} {r:Int} (h:Cn K p0=some r):X6 V P 90 [.cv (.ro .Ae p0),.cv (.fn (.func 57) [] [.pcs [.fn (.func 136) [] []] 0])] (.I r):=(Cn.okE h).pcall (by kernel_rfl)
def Cy (K:Nat) (p0:List Aa):Option Bool:=(Am.upto K K).Cy p0
theorem Cy.okE {K:Nat} {p0:List Aa} {r:Bool} (h:Cy K p0=some r):Xz V P 56 [.cv (.ro .Ae p0),.cv (.fn (.func 57) [] [.pcs [.fn (.func 136) [] []] 0])] [] [] (.B r) []:=(Am.upto_ok K K).Cy h
theorem Cy.ok {K:Nat} {p0:List Aa} {r:Bool} (h:Cy K p0=some r):X6 V P 56 [.cv (.ro .Ae p0),.cv (.fn (.func 57) [] [.pcs [.fn (.func 136) [] []] 0])] (.B r):=(Cy.okE h).pcall (by kernel_rfl)
def Dw (K:Nat) (p0:List Aa):Option Bool:=(Am.upto K K).Dw p0
theorem Dw.okE {K:Nat} {p0:List Aa} {r:Bool} (h:Dw K p0=some r):Xz V P 30 [.cv (.ro .Ae p0),.cv (.fn (.func 136) [] [])] [] [] (.B r) []:=(Am.upto_ok K K).Dw h
theorem Dw.ok {K:Nat} {p0:List Aa} {r:Bool} (h:Dw K p0=some r):X6 V P 30 [.cv (.ro .Ae p0),.cv (.fn (.func 136) [] [])] (.B r):=(Dw.okE h).pcall (by kernel_rfl)
def Dx (K:Nat) (p0:List Aa):Option Bool:=(Am.upto K K).Dx p0
theorem Dx.okE {K:Nat} {p0:List Aa} {r:Bool} (h:Dx K p0=some r):Xz V P 121 [.cv (.ro .Ae p0)] [] [] (.B r) []:=(Am.upto_ok K K).Dx h
theorem Dx.ok {K:Nat} {p0:List Aa} {r:Bool} (h:Dx K p0=some r):X6 V P 121 [.cv (.ro .Ae p0)] (.B r):=(Dx.okE h).pcall (by kernel_rfl)
def C4 (K:Nat) (p0:Aa):Option Bool:=(Am.upto K K).C4 p0
theorem C4.okE {K:Nat} {p0:Aa} {r:Bool} (h:C4 K p0=some r):Xz V P 92 [.agg (Aj p0)] [] [] (.B r) []:=(Am.upto_ok K K).C4 h
theorem C4.ok {K:Nat} {p0:Aa} {r:Bool} (h:C4 K p0=some r):X6 V P 92 [.agg (Aj p0)] (.B r):=(C4.okE h).pcall (by kernel_rfl)
def Dh (K:Nat) (p0:Aa):Option Bool:=(Am.upto K K).Dh p0
theorem Dh.okE {K:Nat} {p0:Aa} {r:Bool} (h:Dh K p0=some r):Xz V P 57 [.agg (Aj p0),.cv (.pcs [.fn (.func 92) [] []] 0)] [] [] (.B r) []:=(Am.upto_ok K K).Dh h
theorem Dh.ok {K:Nat} {p0:Aa} {r:Bool} (h:Dh K p0=some r):X6 V P 57 [.agg (Aj p0),.cv (.pcs [.fn (.func 92) [] []] 0)] (.B r):=(Dh.okE h).pcall (by kernel_rfl)
def Cq (K:Nat) (p0:List Aa):Option Int:=(Am.upto K K).Cq p0
theorem Cq.okE {K:Nat} {p0:List Aa} {r:Int} (h:Cq K p0=some r):Xz V P 90 [.cv (.ro .Ae p0),.cv (.fn (.func 57) [] [.pcs [.fn (.func 92) [] []] 0])] [] [] (.I r) []:=(Am.upto_ok K K).Cq h
theorem Cq.ok {K:Nat} {p0:List Aa} {r:Int} (h:Cq K p0=some r):X6 V P 90 [.cv (.ro .Ae p0),.cv (.fn (.func 57) [] [.pcs [.fn (.func 92) [] []] 0])] (.I r):=(Cq.okE h).pcall (by kernel_rfl)
def Cz (K:Nat) (p0:List Aa):Option Bool:=(Am.upto K K).Cz p0
theorem Cz.okE {K:Nat} {p0:List Aa} {r:Bool} (h:Cz K p0=some r):Xz V P 56 [.cv (.ro .Ae p0),.cv (.fn (.func 57) [] [.pcs [.fn (.func 92) [] []] 0])] [] [] (.B r) []:=(Am.upto_ok K K).Cz h
theorem Cz.ok {K:Nat} {p0:List Aa} {r:Bool} (h:Cz K p0=some r):X6 V P 56 [.cv (.ro .Ae p0),.cv (.fn (.func 57) [] [.pcs [.fn (.func 92) [] []] 0])] (.B r):=(Cz.okE h).pcall (by kernel_rfl)
def D1 (K:Nat) (p0:List Aa):Option Bool:=(Am.upto K K).D1 p0
theorem D1.okE {K:Nat} {p0:List Aa} {r:Bool} (h:D1 K p0=some r):Xz V P 30 [.cv (.ro .Ae p0),.cv (.fn (.func 92) [] [])] [] [] (.B r) []:=(Am.upto_ok K K).D1 h
theorem D1.ok {K:Nat} {p0:List Aa} {r:Bool} (h:D1 K p0=some r):X6 V P 30 [.cv (.ro .Ae p0),.cv (.fn (.func 92) [] [])] (.B r):=(D1.okE h).pcall (by kernel_rfl)
def Bq (K:Nat) (p0:Aa):Option Bool:=(Am.upto K K).Bq p0
theorem Bq.okE {K:Nat} {p0:Aa} {r:Bool} (h:Bq K p0=some r):Xz V P 60 [.agg (Aj p0)] [] [] (.B r) []:=(Am.upto_ok K K).Bq h
theorem Bq.ok {K:Nat} {p0:Aa} {r:Bool} (h:Bq K p0=some r):X6 V P 60 [.agg (Aj p0)] (.B r):=(Bq.okE h).pcall (by kernel_rfl)
def Ei (K:Nat) (p0:Aa):Option Bool:=(if p0.Op=6 then (Option.bind (Bo K p0) (fun a1=>some a1)) else some false)
theorem Ei.body {Γ:Yg} {K:Nat} {p0:Aa} {r:Bool} (h:Ei K p0=some r):Yc V P 10 100 Γ (Tryz.f61.body.getD .skip) (X1 P V Tryz.f61 (.B r) []) ⟨X0 0 [.agg (Aj p0)],[]⟩:=by
 unfold Ei at h;refine Xy L 200 <| Xo ?_;rcases Xp h with ⟨c1,h⟩ |⟨c1,h⟩
 ·obtain ⟨a1,h1,h⟩:=bind_some h;refine rg L 203 [(3,true)] [(5,.B a1)] [] (Xt (decide_eq_true c1) (Xt (Bo.ok h1) (Xx trivial))) ?_;refine Xq ?_;cases h;exact X7
 refine rg L 203 [(3,false)] [] [] (Xx (decide_eq_false c1)) ?_;refine Xq ?_;cases h;exact X7
theorem Ei.ok {K:Nat} {p0:Aa} {r:Bool} (h:Ei K p0=some r):X6 V P 61 [.agg (Aj p0)] (.B r):=Xz.pcall (eo (fn:=Tryz.f61) (n:=10) (m:=100) fun Γ=>Ei.body h) (by kernel_rfl)
def Fb (K:Nat) (p0:Aa):Option Bool:=(Option.bind (Ei K p0) (fun a1=>some (!a1)))
theorem Fb.body {Γ:Yg} {K:Nat} {p0:Aa} {r:Bool} (h:Fb K p0=some r):Yc V P 8 100 Γ (Tryz.f57.body.getD .skip) (X1 P V Tryz.f57 (.B r) []) ⟨X0 0 [.agg (Aj p0),.cv (.pcs [.fn (.func 61) [] []] 0)],[]⟩:=by
 unfold Fb at h;refine Xy L 200 <| Xo ?_;obtain ⟨a1,h1,h⟩:=bind_some h;refine rg L 203 [] [(2,.B a1)] [] (Yw (Ei.ok h1)) ?_;refine Xq ?_;cases h;exact X7
theorem Fb.ok {K:Nat} {p0:Aa} {r:Bool} (h:Fb K p0=some r):X6 V P 57 [.agg (Aj p0),.cv (.pcs [.fn (.func 61) [] []] 0)] (.B r):=Xz.pcall (eo (fn:=Tryz.f57) (n:=8) (m:=100) fun Γ=>Fb.body h) (by kernel_rfl)
def Dz.l7 (K:Nat) (p0:List Aa):Nat→Int→Option (X3 Int Unit)
 | 0,_=>none
 | k+1,a=>(if a <(p0.length:Int) then (if (0:Int)≤a∧(a:Int) <(p0.length:Int) then (Option.bind (Fb K (p0.getD (Int.toNat a) A9)) (fun a1=>(if a1=true then some (X3.done a) else Dz.l7 K p0 k (IntKind.i64.wrap (a+1))))) else none) else some (X3.go ()))
def Dz (K:Nat) (p0:List Aa):Option Int:=(obind (Dz.l7 K p0 K 0:Option (X3 Int Unit)) (fun r=>r) (fun _=>some (-1)))
theorem Dz.body {Γ:Yg} {K:Nat} {p0:List Aa} {r:Int} (h:Dz K p0=some r):Yc V P 19 100 Γ (Tryz.f90.body.getD .skip) (X1 P V Tryz.f90 (.I r) []) ⟨X0 0 [.cv (.ro .Ae p0),.cv (.fn (.func 57) [] [.pcs [.fn (.func 61) [] []] 0])],[]⟩:=by
 unfold Dz at h;refine Xy L 200 <| Xo <| Xy L 202 <| Xw <| kp (S':=⟨[(0,.cv (.ro .Ae p0)),(1,.cv (.fn (.func 57) [] [.pcs [.fn (.func 61) [] []] 0])),(7,.I (p0.length:Int)),(8,.I 0)],[]⟩) ?_;obtain ⟨o1,hp1,h⟩:=X9 h;refine X4 (Q':=fun e S=>(e=.exit 0∧S=⟨[],[]⟩∧X3.go ()=o1)∨(e=.ret∧∃ a,X3.done a=o1∧X1 P V Tryz.f90 (.I a) [] .ret S)) (Yb (fun k S=>∃ b:Int,S=⟨[(0,.cv (.ro .Ae p0)),(1,.cv (.fn (.func 57) [] [.pcs [.fn (.func 61) [] []] 0])),(7,.I (p0.length:Int)),(8,.I b)],[]⟩∧Dz.l7 K p0 k b=some o1) ?_ ⟨_,rfl,hp1⟩) ?_
 ·clear h hp1;intro k S hS;obtain ⟨b,rfl,h⟩:=hS;cases k with
  | zero=>cases h
  | succ k =>
  unfold Dz.l7 at h;refine Xy L 206 <| Xo ?_;rcases Xp h with ⟨c1,h⟩ |⟨c1,h⟩
  ·refine tT c1 <| Xu <| Xo <| Xw <| Xy L 208 <| Xo ?_;obtain ⟨g1,h⟩:=Xv h;obtain ⟨a1,h1,h⟩:=bind_some h;refine rg L 211 [] [(5,.B a1)] [] (Xt g1.1 (Xt g1.2 (Xt (Fb.ok h1) (Xx trivial)))) ?_;rcases Xp h with ⟨c2,h⟩ |⟨c2,h⟩
   ·refine tt c2 <| Xy L 218 <| Xq ?_;cases h;exact .inr ⟨rfl,_,rfl,X7⟩
   refine fN c2 <| Xu <| ar0 L 221 [] [] [] (S':=⟨[(0,.cv (.ro .Ae p0)),(1,.cv (.fn (.func 57) [] [.pcs [.fn (.func 61) [] []] 0])),(7,.I (p0.length:Int)),(8,.I (IntKind.i64.wrap (b+1)))],[]⟩) ?_;exact ⟨k,Nat.lt_succ_self k,_,rfl,h⟩
  refine fF c1 <| ex (S':=⟨[],[]⟩) ?_;cases h;exact .inl ⟨rfl,rfl,rfl⟩
 ·rintro e S (⟨rfl,rfl,rfl⟩ |⟨rfl,a,rfl,hr⟩)
  ·rcases h with ⟨_,e1,h⟩ |⟨_,e1,h⟩
   ·cases e1
   ·have e2:=X3.go.inj e1;subst e2;refine ⟨_,Xn.refl,?_⟩;refine Xy L 224 <| Xq ?_;cases h;exact X7
  ·rcases h with ⟨_,e1,h⟩ |⟨_,e1,h⟩
   ·have e2:=X3.done.inj e1;subst e2;subst h;exact ⟨_,Xn.refl,hr⟩
   ·cases e1
theorem Dz.ok {K:Nat} {p0:List Aa} {r:Int} (h:Dz K p0=some r):X6 V P 90 [.cv (.ro .Ae p0),.cv (.fn (.func 57) [] [.pcs [.fn (.func 61) [] []] 0])] (.I r):=Xz.pcall (eo (fn:=Tryz.f90) (n:=19) (m:=100) fun Γ=>Dz.body h) (by kernel_rfl)
def Ew (K:Nat) (p0:List Aa):Option Bool:=(Option.bind (Dz K p0) (fun a1=>some (decide (a1≥0))))
theorem Ew.body {Γ:Yg} {K:Nat} {p0:List Aa} {r:Bool} (h:Ew K p0=some r):Yc V P 9 100 Γ (Tryz.f56.body.getD .skip) (X1 P V Tryz.f56 (.B r) []) ⟨X0 0 [.cv (.ro .Ae p0),.cv (.fn (.func 57) [] [.pcs [.fn (.func 61) [] []] 0])],[]⟩:=by
 unfold Ew at h;refine Xy L 200 <| Xo ?_;obtain ⟨a1,h1,h⟩:=bind_some h;refine rg L 202 [] [(2,.I a1)] [] (Yw (Dz.ok h1)) ?_;refine Xq ?_;cases h;exact X7
theorem Ew.ok {K:Nat} {p0:List Aa} {r:Bool} (h:Ew K p0=some r):X6 V P 56 [.cv (.ro .Ae p0),.cv (.fn (.func 57) [] [.pcs [.fn (.func 61) [] []] 0])] (.B r):=Xz.pcall (eo (fn:=Tryz.f56) (n:=9) (m:=100) fun Γ=>Ew.body h) (by kernel_rfl)
def Fp (K:Nat) (p0:List Aa):Option Bool:=(Option.bind (Ew K p0) (fun a1=>some (!a1)))
theorem Fp.body {Γ:Yg} {K:Nat} {p0:List Aa} {r:Bool} (h:Fp K p0=some r):Yc V P 9 100 Γ (Tryz.f30.body.getD .skip) (X1 P V Tryz.f30 (.B r) []) ⟨X0 0 [.cv (.ro .Ae p0),.cv (.fn (.func 61) [] [])],[]⟩:=by
 unfold Fp at h;refine Xy L 200 <| Xo ?_;obtain ⟨a1,h1,h⟩:=bind_some h;refine rg L 203 [] [(2,.B a1)] [] (Yw (Ew.ok h1)) ?_;refine Xq ?_;cases h;exact X7
theorem Fp.ok {K:Nat} {p0:List Aa} {r:Bool} (h:Fp K p0=some r):X6 V P 30 [.cv (.ro .Ae p0),.cv (.fn (.func 61) [] [])] (.B r):=Xz.pcall (eo (fn:=Tryz.f30) (n:=9) (m:=100) fun Γ=>Fp.body h) (by kernel_rfl)
def Em (K:Nat) (p0:Aa):Option Bool:=(if (IntKind.i64.wrap ((p0.Kids.length:Int) - 1)) < 0 then some false else (Option.bind (B6 K p0.Name) (fun a1=>(if a1=true then (if p0.Op=61 then (Option.bind (Bb K p0 true false false) (fun a2=>(if a2=true then (if (IntKind.i64.wrap ((p0.Kids.length:Int) - 1))=0 then (if (0:Int) <(p0.Kids.length:Int) then (Option.bind (E1 K (p0.Kids.getD (Int.toNat 0) A9)) (fun a3=>some a3)) else none) else some false) else some false))) else (if p0.Op=62 then (Option.bind (Bb K p0 true false false) (fun a4=>(if a4=true then (if (0:Int)≤(IntKind.i64.wrap ((p0.Kids.length:Int) - 1))∧((IntKind.i64.wrap ((p0.Kids.length:Int) - 1)):Int) <(p0.Kids.length:Int) then (Option.bind (Bq K (p0.Kids.getD (Int.toNat (IntKind.i64.wrap ((p0.Kids.length:Int) - 1))) A9)) (fun a5=>(if a5=true then (if (IntKind.i64.wrap ((p0.Kids.length:Int) - 1))≤(p0.Kids.length:Int) then (Option.bind (Fp K (slc p0.Kids 0 (IntKind.i64.wrap ((p0.Kids.length:Int) - 1)))) (fun a6=>some a6)) else none) else some false))) else none) else some false))) else (Option.bind ((if p0.Op=63 then some (decide (p0.Op=63)) else some (decide (p0.Op=64))):Option Bool) (fun a=>(if a=true then (Option.bind (Bb K p0 true true false) (fun a7=>(if a7=true then (Option.bind (B6 K p0.Text) (fun a8=>(if a8=true then (if (IntKind.i64.wrap ((p0.Kids.length:Int) - 1))=0 then (if (0:Int) <(p0.Kids.length:Int) then (Option.bind (Bq K (p0.Kids.getD (Int.toNat 0) A9)) (fun a9=>some a9)) else none) else some false) else some false))) else some false))) else (if p0.Op=65 then (Option.bind (Bb K p0 true true false) (fun a10=>(if a10=true then (Option.bind (B6 K p0.Text) (fun a11=>(if a11=true then (if (IntKind.i64.wrap ((p0.Kids.length:Int) - 1))≤1 then (Option.bind (Ds K p0.Kids) (fun a12=>some a12)) else some false) else some false))) else some false))) else some false)))))) else some false))))
theorem Em.body {Γ:Yg} {K:Nat} {p0:Aa} {r:Bool} (h:Em K p0=some r):Yc V P 91 100 Γ (Tryz.f31.body.getD .skip) (X1 P V Tryz.f31 (.B r) []) ⟨X0 0 [.agg (Aj p0)],[]⟩:=by
 unfold Em at h;refine Xy L 200 <| Xy L 203 <| Xo <| Xo ?_;rcases Xp h with ⟨c1,h⟩ |⟨c1,h⟩
 ·refine rg L 209 [(2,true)] [] [] (Xx (decide_eq_true c1)) ?_;refine tt (b:=true) (rfl) ?_;refine Xy L 218 <| Xq ?_;cases h;exact X7
 obtain ⟨a1,h1,h⟩:=bind_some h;refine rg L 209 [(2,false)] [(5,.B a1)] [] (Xt (decide_eq_false c1) (Xt (B6.ok h1) (Xx trivial))) ?_;rcases Xp h with ⟨c2,h⟩ |⟨c2,h⟩
 ·refine ff (b:=(!a1)) (congrArg Bool.not (c2)) ?_;refine Xu <| Xo <| Xy L 220 <| Xw <| Xy L 223 ?_;rcases Xp h with ⟨c3,h⟩ |⟨c3,h⟩
  ·refine tT c3 <| Xo ?_;obtain ⟨a2,h2,h⟩:=bind_some h;rcases Xp h with ⟨c4,h⟩ |⟨c4,h⟩
   ·rcases Xp h with ⟨c5,h⟩ |⟨c5,h⟩
    ·obtain ⟨g1,h⟩:=Xv h;obtain ⟨a3,h3,h⟩:=bind_some h;refine rg L 226 [(2,true),(6,true)] [(1,.B a2),(11,.B a3)] [] (Xt (Bb.ok h2) (Xt trivial (Xt c4 (Xt (decide_eq_true c5) (Xt (show (0:Int)≤0 from by decide) (Xt g1 (Xt (E1.ok h3) (Xx trivial)))))))) ?_;refine Xq ?_;cases h;exact X7
    refine rg L 226 [(2,true),(6,false)] [(1,.B a2)] [] (Xt (Bb.ok h2) (Xt trivial (Xt c4 (Xx (decide_eq_false c5))))) ?_;refine Xq ?_;cases h;exact X7
   refine rg L 226 [(2,false)] [(1,.B a2)] [] (Xt (Bb.ok h2) (Xt trivial (Xx (eq_false_of_ne_true c4)))) ?_;refine Xq ?_;cases h;exact X7
  refine fF c3 <| Xy L 241 ?_;rcases Xp h with ⟨c6,h⟩ |⟨c6,h⟩
  ·refine tT c6 <| Xo ?_;obtain ⟨a4,h4,h⟩:=bind_some h;rcases Xp h with ⟨c7,h⟩ |⟨c7,h⟩
   ·obtain ⟨g2,h⟩:=Xv h;obtain ⟨a5,h5,h⟩:=bind_some h;rcases Xp h with ⟨c8,h⟩ |⟨c8,h⟩
    ·obtain ⟨g3,h⟩:=Xv h;obtain ⟨a6,h6,h⟩:=bind_some h;refine rg L 244 [(2,true),(10,true)] [(1,.B a4),(8,.B a5),(15,.B a6)] [] (Xt (Bb.ok h4) (Xt trivial (Xt c7 (Xt g2.1 (Xt g2.2 (Xt (Bq.ok h5) (Xt trivial (Xt c8 (Xt (show (0:Int)≤0 from Int.le_refl _) (Xt g2.1 (Xt g3 (Xt (Fp.ok h6) (Xx trivial))))))))))))) ?_;refine Xq ?_;cases h;exact X7
    refine rg L 244 [(2,true),(10,false)] [(1,.B a4),(8,.B a5)] [] (Xt (Bb.ok h4) (Xt trivial (Xt c7 (Xt g2.1 (Xt g2.2 (Xt (Bq.ok h5) (Xt trivial (Xx (eq_false_of_ne_true c8))))))))) ?_;refine Xq ?_;cases h;exact X7
   refine rg L 244 [(2,false)] [(1,.B a4)] [] (Xt (Bb.ok h4) (Xt trivial (Xx (eq_false_of_ne_true c7)))) ?_;refine Xq ?_;cases h;exact X7
  refine fF c6 ?_;obtain ⟨o1,hp1,h⟩:=bind_some h;refine Xo (Ye (Q':=fun e S=>(e=.normal∧∃ a:Bool,S=⟨[(1,.P 25800),(3,.I (IntKind.i64.wrap ((p0.Kids.length:Int) - 1))),(17,.I p0.Op),(52,.B a)],[(25800,.raw (Aj p0))]⟩∧a=o1)) ?_ ?_)
  ·clear h;replace h:=hp1;refine Xy L 263 ?_;rcases Xp h with ⟨c9,h⟩ |⟨c9,h⟩
   ·refine tT c9 <| Xr (Xn.trans (Xn.kk [1,3,17,52] [200]) (Xn.rr [(200,25800)])) ?_;refine sk (S':=⟨[(1,.P 25800),(3,.I (IntKind.i64.wrap ((p0.Kids.length:Int) - 1))),(17,.I p0.Op),(52,.B (decide (p0.Op=63)))],[(25800,.raw (Aj p0))]⟩) ?_;cases h;exact ⟨rfl,_,rfl,rfl⟩
   refine fF c9 <| X2 (rg0 L 266 ⟨rfl,rfl⟩) (Xn.trans (Xn.kk [1,3,17,52] [200]) (Xn.trans (Xn.rr [(200,25800)]) (Xn.kp (S':=⟨[(1,.P 25800),(3,.I (IntKind.i64.wrap ((p0.Kids.length:Int) - 1))),(17,.I p0.Op),(52,.B (decide (p0.Op=64)))],[(25800,.raw (Aj p0))]⟩)))) ?_;cases h;exact ⟨rfl,_,rfl,rfl⟩
  ·rintro e S ⟨rfl,a,rfl,rfl⟩;rcases Xp h with ⟨c10,h⟩ |⟨c10,h⟩
   ·refine tt c10 <| Xo ?_;obtain ⟨a7,h7,h⟩:=bind_some h;rcases Xp h with ⟨c11,h⟩ |⟨c11,h⟩
    ·obtain ⟨a8,h8,h⟩:=bind_some h;rcases Xp h with ⟨c12,h⟩ |⟨c12,h⟩
     ·rcases Xp h with ⟨c13,h⟩ |⟨c13,h⟩
      ·obtain ⟨g4,h⟩:=Xv h;obtain ⟨a9,h9,h⟩:=bind_some h;refine rg L 269 [(2,true),(7,true),(11,true)] [(1,.B a7),(5,.B a8),(16,.B a9)] [] (Xt (Bb.ok h7) (Xt trivial (Xt c11 (Xt (B6.ok h8) (Xt trivial (Xt c12 (Xt (decide_eq_true c13) (Xt (show (0:Int)≤0 from by decide) (Xt g4 (Xt (Bq.ok h9) (Xx trivial))))))))))) ?_;refine Xq ?_;cases h;exact X7
      refine rg L 269 [(2,true),(7,true),(11,false)] [(1,.B a7),(5,.B a8)] [] (Xt (Bb.ok h7) (Xt trivial (Xt c11 (Xt (B6.ok h8) (Xt trivial (Xt c12 (Xx (decide_eq_false c13)))))))) ?_;refine Xq ?_;cases h;exact X7
     refine rg L 269 [(2,true),(7,false)] [(1,.B a7),(5,.B a8)] [] (Xt (Bb.ok h7) (Xt trivial (Xt c11 (Xt (B6.ok h8) (Xt trivial (Xx (eq_false_of_ne_true c12))))))) ?_;refine Xq ?_;cases h;exact X7
    refine rg L 269 [(2,false)] [(1,.B a7)] [] (Xt (Bb.ok h7) (Xt trivial (Xx (eq_false_of_ne_true c11)))) ?_;refine Xq ?_;cases h;exact X7
   refine fN c10 <| Xy L 289 ?_;rcases Xp h with ⟨c14,h⟩ |⟨c14,h⟩
   ·refine tT c14 <| Xo ?_;obtain ⟨a10,h10,h⟩:=bind_some h;rcases Xp h with ⟨c15,h⟩ |⟨c15,h⟩
    ·obtain ⟨a11,h11,h⟩:=bind_some h;rcases Xp h with ⟨c16,h⟩ |⟨c16,h⟩
     ·rcases Xp h with ⟨c17,h⟩ |⟨c17,h⟩
      ·obtain ⟨a12,h12,h⟩:=bind_some h;refine rg L 292 [(2,true),(7,true),(11,true)] [(1,.B a10),(5,.B a11),(14,.B a12)] [] (Xt (Bb.ok h10) (Xt trivial (Xt c15 (Xt (B6.ok h11) (Xt trivial (Xt c16 (Xt (decide_eq_true c17) (Xt (Ds.ok h12) (Xx trivial))))))))) ?_;refine Xq ?_;cases h;exact X7
      refine rg L 292 [(2,true),(7,true),(11,false)] [(1,.B a10),(5,.B a11)] [] (Xt (Bb.ok h10) (Xt trivial (Xt c15 (Xt (B6.ok h11) (Xt trivial (Xt c16 (Xx (decide_eq_false c17)))))))) ?_;refine Xq ?_;cases h;exact X7
     refine rg L 292 [(2,true),(7,false)] [(1,.B a10),(5,.B a11)] [] (Xt (Bb.ok h10) (Xt trivial (Xt c15 (Xt (B6.ok h11) (Xt trivial (Xx (eq_false_of_ne_true c16))))))) ?_;refine Xq ?_;cases h;exact X7
    refine rg L 292 [(2,false)] [(1,.B a10)] [] (Xt (Bb.ok h10) (Xt trivial (Xx (eq_false_of_ne_true c15)))) ?_;refine Xq ?_;cases h;exact X7
   refine fF c14 <| Xu <| Xy L 310 <| Xq ?_;cases h;exact X7
 refine tt (b:=(!a1)) (congrArg Bool.not (eq_false_of_ne_true c2)) ?_;refine Xy L 218 <| Xq ?_;cases h;exact X7
theorem Em.ok {K:Nat} {p0:Aa} {r:Bool} (h:Em K p0=some r):X6 V P 31 [.agg (Aj p0)] (.B r):=Xz.pcall (eo (fn:=Tryz.f31) (n:=91) (m:=100) fun Γ=>Em.body h) (by kernel_rfl)
def Ft (K:Nat) (p0:Aa):Option Bool:=(Option.bind (Em K p0) (fun a1=>some (!a1)))
theorem Ft.body {Γ:Yg} {K:Nat} {p0:Aa} {r:Bool} (h:Ft K p0=some r):Yc V P 8 100 Γ (Tryz.f57.body.getD .skip) (X1 P V Tryz.f57 (.B r) []) ⟨X0 0 [.agg (Aj p0),.cv (.pcs [.fn (.func 31) [] []] 0)],[]⟩:=by
 unfold Ft at h;refine Xy L 200 <| Xo ?_;obtain ⟨a1,h1,h⟩:=bind_some h;refine rg L 203 [] [(2,.B a1)] [] (Yw (Em.ok h1)) ?_;refine Xq ?_;cases h;exact X7
theorem Ft.ok {K:Nat} {p0:Aa} {r:Bool} (h:Ft K p0=some r):X6 V P 57 [.agg (Aj p0),.cv (.pcs [.fn (.func 31) [] []] 0)] (.B r):=Xz.pcall (eo (fn:=Tryz.f57) (n:=8) (m:=100) fun Γ=>Ft.body h) (by kernel_rfl)
def Eb.l7 (K:Nat) (p0:List Aa):Nat→Int→Option (X3 Int Unit)
 | 0,_=>none
 | k+1,a=>(if a <(p0.length:Int) then (if (0:Int)≤a∧(a:Int) <(p0.length:Int) then (Option.bind (Ft K (p0.getD (Int.toNat a) A9)) (fun a1=>(if a1=true then some (X3.done a) else Eb.l7 K p0 k (IntKind.i64.wrap (a+1))))) else none) else some (X3.go ()))
def Eb (K:Nat) (p0:List Aa):Option Int:=(obind (Eb.l7 K p0 K 0:Option (X3 Int Unit)) (fun r=>r) (fun _=>some (-1)))
theorem Eb.body {Γ:Yg} {K:Nat} {p0:List Aa} {r:Int} (h:Eb K p0=some r):Yc V P 19 100 Γ (Tryz.f90.body.getD .skip) (X1 P V Tryz.f90 (.I r) []) ⟨X0 0 [.cv (.ro .Ae p0),.cv (.fn (.func 57) [] [.pcs [.fn (.func 31) [] []] 0])],[]⟩:=by
 unfold Eb at h;refine Xy L 200 <| Xo <| Xy L 202 <| Xw <| kp (S':=⟨[(0,.cv (.ro .Ae p0)),(1,.cv (.fn (.func 57) [] [.pcs [.fn (.func 31) [] []] 0])),(7,.I (p0.length:Int)),(8,.I 0)],[]⟩) ?_;obtain ⟨o1,hp1,h⟩:=X9 h;refine X4 (Q':=fun e S=>(e=.exit 0∧S=⟨[],[]⟩∧X3.go ()=o1)∨(e=.ret∧∃ a,X3.done a=o1∧X1 P V Tryz.f90 (.I a) [] .ret S)) (Yb (fun k S=>∃ b:Int,S=⟨[(0,.cv (.ro .Ae p0)),(1,.cv (.fn (.func 57) [] [.pcs [.fn (.func 31) [] []] 0])),(7,.I (p0.length:Int)),(8,.I b)],[]⟩∧Eb.l7 K p0 k b=some o1) ?_ ⟨_,rfl,hp1⟩) ?_
 ·clear h hp1;intro k S hS;obtain ⟨b,rfl,h⟩:=hS;cases k with
  | zero=>cases h
  | succ k =>
  unfold Eb.l7 at h;refine Xy L 206 <| Xo ?_;rcases Xp h with ⟨c1,h⟩ |⟨c1,h⟩
  ·refine tT c1 <| Xu <| Xo <| Xw <| Xy L 208 <| Xo ?_;obtain ⟨g1,h⟩:=Xv h;obtain ⟨a1,h1,h⟩:=bind_some h;refine rg L 211 [] [(5,.B a1)] [] (Xt g1.1 (Xt g1.2 (Xt (Ft.ok h1) (Xx trivial)))) ?_;rcases Xp h with ⟨c2,h⟩ |⟨c2,h⟩
   ·refine tt c2 <| Xy L 218 <| Xq ?_;cases h;exact .inr ⟨rfl,_,rfl,X7⟩
   refine fN c2 <| Xu <| ar0 L 221 [] [] [] (S':=⟨[(0,.cv (.ro .Ae p0)),(1,.cv (.fn (.func 57) [] [.pcs [.fn (.func 31) [] []] 0])),(7,.I (p0.length:Int)),(8,.I (IntKind.i64.wrap (b+1)))],[]⟩) ?_;exact ⟨k,Nat.lt_succ_self k,_,rfl,h⟩
  refine fF c1 <| ex (S':=⟨[],[]⟩) ?_;cases h;exact .inl ⟨rfl,rfl,rfl⟩
 ·rintro e S (⟨rfl,rfl,rfl⟩ |⟨rfl,a,rfl,hr⟩)
  ·rcases h with ⟨_,e1,h⟩ |⟨_,e1,h⟩
   ·cases e1
   ·have e2:=X3.go.inj e1;subst e2;refine ⟨_,Xn.refl,?_⟩;refine Xy L 224 <| Xq ?_;cases h;exact X7
  ·rcases h with ⟨_,e1,h⟩ |⟨_,e1,h⟩
   ·have e2:=X3.done.inj e1;subst e2;subst h;exact ⟨_,Xn.refl,hr⟩
   ·cases e1
theorem Eb.ok {K:Nat} {p0:List Aa} {r:Int} (h:Eb K p0=some r):X6 V P 90 [.cv (.ro .Ae p0),.cv (.fn (.func 57) [] [.pcs [.fn (.func 31) [] []] 0])] (.I r):=Xz.pcall (eo (fn:=Tryz.f90) (n:=19) (m:=100) fun Γ=>Eb.body h) (by kernel_rfl)
def E5 (K:Nat) (p0:List Aa):Option Bool:=(Option.bind (Eb K p0) (fun a1=>some (decide (a1≥0))))
theorem E5.body {Γ:Yg} {K:Nat} {p0:List Aa} {r:Bool} (h:E5 K p0=some r):Yc V P 9 100 Γ (Tryz.f56.body.getD .skip) (X1 P V Tryz.f56 (.B r) []) ⟨X0 0 [.cv (.ro .Ae p0),.cv (.fn (.func 57) [] [.pcs [.fn (.func 31) [] []] 0])],[]⟩:=by
 unfold E5 at h;refine Xy L 200 <| Xo ?_;obtain ⟨a1,h1,h⟩:=bind_some h;refine rg L 202 [] [(2,.I a1)] [] (Yw (Eb.ok h1)) ?_;refine Xq ?_;cases h;exact X7
theorem E5.ok {K:Nat} {p0:List Aa} {r:Bool} (h:E5 K p0=some r):X6 V P 56 [.cv (.ro .Ae p0),.cv (.fn (.func 57) [] [.pcs [.fn (.func 31) [] []] 0])] (.B r):=Xz.pcall (eo (fn:=Tryz.f56) (n:=9) (m:=100) fun Γ=>E5.body h) (by kernel_rfl)
def Gc (K:Nat) (p0:List Aa):Option Bool:=(Option.bind (E5 K p0) (fun a1=>some (!a1)))
theorem Gc.body {Γ:Yg} {K:Nat} {p0:List Aa} {r:Bool} (h:Gc K p0=some r):Yc V P 9 100 Γ (Tryz.f30.body.getD .skip) (X1 P V Tryz.f30 (.B r) []) ⟨X0 0 [.cv (.ro .Ae p0),.cv (.fn (.func 31) [] [])],[]⟩:=by
 unfold Gc at h;refine Xy L 200 <| Xo ?_;obtain ⟨a1,h1,h⟩:=bind_some h;refine rg L 203 [] [(2,.B a1)] [] (Yw (E5.ok h1)) ?_;refine Xq ?_;cases h;exact X7
theorem Gc.ok {K:Nat} {p0:List Aa} {r:Bool} (h:Gc K p0=some r):X6 V P 30 [.cv (.ro .Ae p0),.cv (.fn (.func 31) [] [])] (.B r):=Xz.pcall (eo (fn:=Tryz.f30) (n:=9) (m:=100) fun Γ=>Gc.body h) (by kernel_rfl)
def Ff (K:Nat) (p0:Aa):Option Bool:=(Option.bind (Fj K p0) (fun a1=>(if a1=true then (if p0.Op=60 then (Option.bind (Bb K p0 false false false) (fun a2=>(if a2=true then (Option.bind (Gc K p0.Kids) (fun a3=>some a3)) else some false))) else some false) else some false)))
theorem Ff.body {Γ:Yg} {K:Nat} {p0:Aa} {r:Bool} (h:Ff K p0=some r):Yc V P 19 100 Γ (Tryz.f13.body.getD .skip) (X1 P V Tryz.f13 (.B r) []) ⟨X0 0 [.agg (Aj p0)],[]⟩:=by
 unfold Ff at h;refine Xy L 200 <| Xo ?_;obtain ⟨a1,h1,h⟩:=bind_some h;rcases Xp h with ⟨c1,h⟩ |⟨c1,h⟩
 ·rcases Xp h with ⟨c2,h⟩ |⟨c2,h⟩
  ·obtain ⟨a2,h2,h⟩:=bind_some h;rcases Xp h with ⟨c3,h⟩ |⟨c3,h⟩
   ·obtain ⟨a3,h3,h⟩:=bind_some h;refine rg L 203 [(2,true),(7,true),(11,true)] [(1,.B a1),(9,.B a2),(14,.B a3)] [] (Xt (Fj.ok h1) (Xt trivial (Xt c1 (Xt (decide_eq_true c2) (Xt (Bb.ok h2) (Xt trivial (Xt c3 (Xt (Gc.ok h3) (Xx trivial))))))))) ?_;refine Xq ?_;cases h;exact X7
   refine rg L 203 [(2,true),(7,true),(11,false)] [(1,.B a1),(9,.B a2)] [] (Xt (Fj.ok h1) (Xt trivial (Xt c1 (Xt (decide_eq_true c2) (Xt (Bb.ok h2) (Xt trivial (Xx (eq_false_of_ne_true c3)))))))) ?_;refine Xq ?_;cases h;exact X7
  refine rg L 203 [(2,true),(7,false)] [(1,.B a1)] [] (Xt (Fj.ok h1) (Xt trivial (Xt c1 (Xx (decide_eq_false c2))))) ?_;refine Xq ?_;cases h;exact X7
 refine rg L 203 [(2,false)] [(1,.B a1)] [] (Xt (Fj.ok h1) (Xt trivial (Xx (eq_false_of_ne_true c1)))) ?_;refine Xq ?_;cases h;exact X7
theorem Ff.ok {K:Nat} {p0:Aa} {r:Bool} (h:Ff K p0=some r):X6 V P 13 [.agg (Aj p0)] (.B r):=Xz.pcall (eo (fn:=Tryz.f13) (n:=19) (m:=100) fun Γ=>Ff.body h) (by kernel_rfl)
def Ec (K:Nat):Option Bool:=(Option.bind (Gf K ([97,32,43,32,98,32,42,32,50]:List UInt8)) (fun (b,g,c)=>(Option.bind (Gf K ([97,32,60,32,98,32,60,32,99]:List UInt8)) (fun (h,d,e)=>(Option.bind (Fu K ([102,117,110,99,32,102,40,120,41,32,123,32,114,101,116,117,114,110,32,120,59,32,125]:List UInt8)) (fun (a,i,f)=>(if c=0 then (Option.bind (Bn K b ((⟨18,[],0,[],([(⟨6,([97]:List UInt8),0,[],([]:List Aa)⟩:Aa),(⟨15,[],0,[],([(⟨6,([98]:List UInt8),0,[],([]:List Aa)⟩:Aa),(⟨4,[],2,[],([]:List Aa)⟩:Aa)]:List Aa)⟩:Aa)]:List Aa)⟩:Aa))) (fun a4=>(if a4=true then (if d=6 then (if e=29 then (if f=0 then (Option.bind (Ff K a) (fun a5=>(if a5=true then (Option.bind (Dc K a) (fun a6=>some (decide (a6=6)))) else some false))) else some false) else some false) else some false) else some false))) else some false)))))))
theorem Ec.body {Γ:Yg} {K:Nat} {r:Bool} (h:Ec K=some r):Yc V P 61 100 Γ (Tryz.f9.body.getD .skip) (X1 P V Tryz.f9 (.B r) []) ⟨X0 0 [],[]⟩:=by
 unfold Ec at h;refine Xy L 200 <| Xo ?_;obtain ⟨⟨a,b,c⟩,h1,h⟩:=bind_some h;dsimp only at h;refine rg L 202 [] [(0,.tup [.agg (Aj a),.I b,.I c])] [] (Yw (Gf.ok h1)) ?_;refine Xo ?_;obtain ⟨⟨d,e,f⟩,h2,h⟩:=bind_some h;dsimp only at h;refine rg L 212 [] [(0,.tup [.agg (Aj d),.I e,.I f])] [] (Yw (Gf.ok h2)) ?_;refine Xo ?_;obtain ⟨⟨g,i,j⟩,h3,h⟩:=bind_some h;dsimp only at h;refine rg L 222 [] [(0,.tup [.agg (Aj g),.I i,.I j])] [] (Yw (Fu.ok h3)) ?_;refine Xy L 232 <| Xo ?_;rcases Xp h with ⟨c1,h⟩ |⟨c1,h⟩
 ·obtain ⟨a4,h4,h⟩:=bind_some h;rcases Xp h with ⟨c2,h⟩ |⟨c2,h⟩
  ·rcases Xp h with ⟨c3,h⟩ |⟨c3,h⟩
   ·rcases Xp h with ⟨c4,h⟩ |⟨c4,h⟩
    ·rcases Xp h with ⟨c5,h⟩ |⟨c5,h⟩
     ·obtain ⟨a5,h5,h⟩:=bind_some h;rcases Xp h with ⟨c6,h⟩ |⟨c6,h⟩
      ·obtain ⟨a6,h6,h⟩:=bind_some h;refine rg L 242 [(2,true),(7,true),(11,true),(15,true),(19,true),(23,true)] [(5,.B a4),(21,.B a5),(25,.I a6)] [] (Xt (decide_eq_true c1) (Xt (Bn.ok h4) (Xt trivial (Xt c2 (Xt (decide_eq_true c3) (Xt (decide_eq_true c4) (Xt (decide_eq_true c5) (Xt (Ff.ok h5) (Xt trivial (Xt c6 (Xt (Dc.ok h6) (Xx trivial)))))))))))) ?_;refine Xq ?_;cases h;exact X7
      refine rg L 242 [(2,true),(7,true),(11,true),(15,true),(19,true),(23,false)] [(5,.B a4),(21,.B a5)] [] (Xt (decide_eq_true c1) (Xt (Bn.ok h4) (Xt trivial (Xt c2 (Xt (decide_eq_true c3) (Xt (decide_eq_true c4) (Xt (decide_eq_true c5) (Xt (Ff.ok h5) (Xt trivial (Xx (eq_false_of_ne_true c6))))))))))) ?_;refine Xq ?_;cases h;exact X7
     refine rg L 242 [(2,true),(7,true),(11,true),(15,true),(19,false)] [(5,.B a4)] [] (Xt (decide_eq_true c1) (Xt (Bn.ok h4) (Xt trivial (Xt c2 (Xt (decide_eq_true c3) (Xt (decide_eq_true c4) (Xx (decide_eq_false c5)))))))) ?_;refine Xq ?_;cases h;exact X7
    refine rg L 242 [(2,true),(7,true),(11,true),(15,false)] [(5,.B a4)] [] (Xt (decide_eq_true c1) (Xt (Bn.ok h4) (Xt trivial (Xt c2 (Xt (decide_eq_true c3) (Xx (decide_eq_false c4))))))) ?_;refine Xq ?_;cases h;exact X7
   refine rg L 242 [(2,true),(7,true),(11,false)] [(5,.B a4)] [] (Xt (decide_eq_true c1) (Xt (Bn.ok h4) (Xt trivial (Xt c2 (Xx (decide_eq_false c3)))))) ?_;refine Xq ?_;cases h;exact X7
  refine rg L 242 [(2,true),(7,false)] [(5,.B a4)] [] (Xt (decide_eq_true c1) (Xt (Bn.ok h4) (Xt trivial (Xx (eq_false_of_ne_true c2))))) ?_;refine Xq ?_;cases h;exact X7
 refine rg L 242 [(2,false)] [] [] (Xx (decide_eq_false c1)) ?_;refine Xq ?_;cases h;exact X7
theorem Ec.ok {K:Nat} {r:Bool} (h:Ec K=some r):X6 V P 9 [] (.B r):=Xz.pcall (eo (fn:=Tryz.f9) (n:=61) (m:=100) fun Γ=>Ec.body h) (by kernel_rfl)
def Dn (K:Nat) (p0:Int):Option Bool:=(if p0≥97 then (if p0≤122 then some true else (if p0≥65 then (if p0≤90 then some true else some (decide (p0=95))) else some (decide (p0=95)))) else (if p0≥65 then (if p0≤90 then some true else some (decide (p0=95))) else some (decide (p0=95))))
theorem Dn.body {Γ:Yg} {K:Nat} {p0:Int} {r:Bool} (h:Dn K p0=some r):Yc V P 21 100 Γ (Tryz.f109.body.getD .skip) (X1 P V Tryz.f109 (.B r) []) ⟨X0 0 [.cv (.lit (.int .u8 p0))],[]⟩:=by
 unfold Dn at h;refine Xy L 200 <| Xo ?_;rcases Xp h with ⟨c1,h⟩ |⟨c1,h⟩
 ·rcases Xp h with ⟨c2,h⟩ |⟨c2,h⟩
  ·refine rg L 202 [(2,true),(6,true)] [] [] (Zb (decide_eq_true c1) (decide_eq_true c2)) ?_;refine Xq ?_;cases h;exact X7
  rcases Xp h with ⟨c3,h⟩ |⟨c3,h⟩
  ·rcases Xp h with ⟨c4,h⟩ |⟨c4,h⟩
   ·refine rg L 202 [(2,true),(6,false),(9,true),(14,true)] [] [] (Xt (decide_eq_true c1) (Xt (decide_eq_false c2) (Xt (decide_eq_true c3) (Xx (decide_eq_true c4))))) ?_;refine Xq ?_;cases h;exact X7
   refine rg L 202 [(2,true),(6,false),(9,true),(14,false)] [] [] (Xt (decide_eq_true c1) (Xt (decide_eq_false c2) (Xt (decide_eq_true c3) (Xx (decide_eq_false c4))))) ?_;refine Xq ?_;cases h;exact X7
  refine rg L 202 [(2,true),(6,false),(9,false)] [] [] (Xt (decide_eq_true c1) (Xt (decide_eq_false c2) (Xx (decide_eq_false c3)))) ?_;refine Xq ?_;cases h;exact X7
 rcases Xp h with ⟨c5,h⟩ |⟨c5,h⟩
 ·rcases Xp h with ⟨c6,h⟩ |⟨c6,h⟩
  ·refine rg L 202 [(2,false),(9,true),(14,true)] [] [] (Xt (decide_eq_false c1) (Xt (decide_eq_true c5) (Xx (decide_eq_true c6)))) ?_;refine Xq ?_;cases h;exact X7
  refine rg L 202 [(2,false),(9,true),(14,false)] [] [] (Xt (decide_eq_false c1) (Xt (decide_eq_true c5) (Xx (decide_eq_false c6)))) ?_;refine Xq ?_;cases h;exact X7
 refine rg L 202 [(2,false),(9,false)] [] [] (Zb (decide_eq_false c1) (decide_eq_false c5)) ?_;refine Xq ?_;cases h;exact X7
theorem Dn.ok {K:Nat} {p0:Int} {r:Bool} (h:Dn K p0=some r):X6 V P 109 [.cv (.lit (.int .u8 p0))] (.B r):=Xz.pcall (eo (fn:=Tryz.f109) (n:=21) (m:=100) fun Γ=>Dn.body h) (by kernel_rfl)
def D4 (K:Nat) (p0:Int):Option Bool:=(if p0≥48 then some (decide (p0≤57)) else some false)
theorem D4.body {Γ:Yg} {K:Nat} {p0:Int} {r:Bool} (h:D4 K p0=some r):Yc V P 9 100 Γ (Tryz.f110.body.getD .skip) (X1 P V Tryz.f110 (.B r) []) ⟨X0 0 [.cv (.lit (.int .u8 p0))],[]⟩:=by
 unfold D4 at h;refine Xy L 200 <| Xo ?_;rcases Xp h with ⟨c1,h⟩ |⟨c1,h⟩
 ·refine rg L 202 [(2,true)] [] [] (Xx (decide_eq_true c1)) ?_;refine Xq ?_;cases h;exact X7
 refine rg L 202 [(2,false)] [] [] (Xx (decide_eq_false c1)) ?_;refine Xq ?_;cases h;exact X7
theorem D4.ok {K:Nat} {p0:Int} {r:Bool} (h:D4 K p0=some r):X6 V P 110 [.cv (.lit (.int .u8 p0))] (.B r):=Xz.pcall (eo (fn:=Tryz.f110) (n:=9) (m:=100) fun Γ=>D4.body h) (by kernel_rfl)
def Ex (K:Nat):Option (List (List UInt8)):=some ([([97,110,100]:List UInt8),([97,119,97,105,116]:List UInt8),([99,97,115,101]:List UInt8),([99,97,116,99,104]:List UInt8),([99,104,101,99,107]:List UInt8),([101,108,115,101]:List UInt8),([102,97,108,115,101]:List UInt8),([102,117,110,99]:List UInt8),([103,111]:List UInt8),([105,102]:List UInt8),([108,101,116]:List UInt8),([110,111,116]:List UInt8),([110,117,108,108]:List UInt8),([111,110]:List UInt8),([111,114]:List UInt8),([113,117,101,114,121]:List UInt8),([114,101,116,117,114,110]:List UInt8),([115,97,103,97]:List UInt8),([115,101,108,101,99,116]:List UInt8),([115,105,103,110,97,108]:List UInt8),([116,104,114,111,119]:List UInt8),([116,114,117,101]:List UInt8),([116,114,121]:List UInt8),([117,110,100,111]:List UInt8),([117,112,100,97,116,101]:List UInt8),([118,97,114]:List UInt8),([119,104,105,108,101]:List UInt8)]:List (List UInt8))
theorem Ex.body {Γ:Yg} {K:Nat} {r:List (List UInt8)} (h:Ex K=some r):Yc V P 2 100 Γ (Tryz.f123.body.getD .skip) (X1 P V Tryz.f123 (.cv (.ro .Dd r)) []) ⟨X0 0 [],[]⟩:=by
 unfold Ex at h;refine Xy L 200 <| Xy L 202 <| Xq ?_;cases h;exact X7
theorem Ex.ok {K:Nat} {r:List (List UInt8)} (h:Ex K=some r):X6 V P 123 [] (.cv (.ro .Dd r)):=Xz.pcall (eo (fn:=Tryz.f123) (n:=2) (m:=100) fun Γ=>Ex.body h) (by kernel_rfl)
def Df.l7 (K:Nat) (p0:List UInt8) (a1:List (List UInt8)):Nat→Int→Option (X3 Bool Unit)
 | 0,_=>none
 | k+1,a=>(if a <(a1.length:Int) then (if (0:Int)≤a∧(a:Int) <(a1.length:Int) then (if (a1.getD (Int.toNat a) ([]:List UInt8))=p0 then some (X3.done true) else Df.l7 K p0 a1 k (IntKind.i64.wrap (a+1))) else none) else some (X3.go ()))
def Df (K:Nat) (p0:List UInt8):Option Bool:=(Option.bind (Ex K) (fun a1=>(obind (Df.l7 K p0 a1 K 0:Option (X3 Bool Unit)) (fun r=>r) (fun _=>some false))))
theorem Df.body {Γ:Yg} {K:Nat} {p0:List UInt8} {r:Bool} (h:Df K p0=some r):Yc V P 15 100 Γ (Tryz.f95.body.getD .skip) (X1 P V Tryz.f95 (.B r) []) ⟨X0 0 [.cv (.str p0)],[]⟩:=by
 unfold Df at h;refine Xy L 200 <| Xo <| Xo ?_;obtain ⟨a1,h1,h⟩:=bind_some h;refine rg L 202 [] [(0,.cv (.ro .Dd a1))] [] (Yw (Ex.ok h1)) ?_;refine Xw <| kp (S':=⟨[(0,.cv (.str p0)),(5,.cv (.ro .Dd a1)),(6,.I (a1.length:Int)),(7,.I 0)],[]⟩) ?_;obtain ⟨o1,hp1,h⟩:=X9 h;refine X4 (Q':=fun e S=>(e=.exit 0∧S=⟨[],[]⟩∧X3.go ()=o1)∨(e=.ret∧∃ a,X3.done a=o1∧X1 P V Tryz.f95 (.B a) [] .ret S)) (Yb (fun k S=>∃ b:Int,S=⟨[(0,.cv (.str p0)),(5,.cv (.ro .Dd a1)),(6,.I (a1.length:Int)),(7,.I b)],[]⟩∧Df.l7 K p0 a1 k b=some o1) ?_ ⟨_,rfl,hp1⟩) ?_
 ·clear h hp1;intro k S hS;obtain ⟨b,rfl,h⟩:=hS;cases k with
  | zero=>cases h
  | succ k =>
  unfold Df.l7 at h;refine Xy L 206 <| Xo ?_;rcases Xp h with ⟨c1,h⟩ |⟨c1,h⟩
  ·refine tT c1 <| Xu <| Xo <| Xw <| Xo ?_;obtain ⟨g1,h⟩:=Xv h;refine rg L 208 [] [] [] (Zb g1.1 g1.2) ?_;refine Xy L 212 ?_;rcases Xp h with ⟨c2,h⟩ |⟨c2,h⟩
   ·refine tT c2 <| Xy L 216 <| Xq ?_;cases h;exact .inr ⟨rfl,_,rfl,X7⟩
   refine fF c2 <| Xu <| ar0 L 218 [] [] [] (S':=⟨[(0,.cv (.str p0)),(5,.cv (.ro .Dd a1)),(6,.I (a1.length:Int)),(7,.I (IntKind.i64.wrap (b+1)))],[]⟩) ?_;exact ⟨k,Nat.lt_succ_self k,_,rfl,h⟩
  refine fF c1 <| ex (S':=⟨[],[]⟩) ?_;cases h;exact .inl ⟨rfl,rfl,rfl⟩
 ·rintro e S (⟨rfl,rfl,rfl⟩ |⟨rfl,a,rfl,hr⟩)
  ·rcases h with ⟨_,e1,h⟩ |⟨_,e1,h⟩
   ·cases e1
   ·have e2:=X3.go.inj e1;subst e2;refine ⟨_,Xn.refl,?_⟩;refine Xy L 221 <| Xq ?_;cases h;exact X7
  ·rcases h with ⟨_,e1,h⟩ |⟨_,e1,h⟩
   ·have e2:=X3.done.inj e1;subst e2;subst h;exact ⟨_,Xn.refl,hr⟩
   ·cases e1
theorem Df.ok {K:Nat} {p0:List UInt8} {r:Bool} (h:Df K p0=some r):X6 V P 95 [.cv (.str p0)] (.B r):=Xz.pcall (eo (fn:=Tryz.f95) (n:=15) (m:=100) fun Γ=>Df.body h) (by kernel_rfl)
def C2.l7 (K:Nat) (p0:List UInt8):Nat→Int→Option Int
 | 0,_=>none
 | k+1,a=>(if a <(p0.length:Int) then (if (0:Int)≤a∧(a:Int) <(p0.length:Int) then (Option.bind (D4 K ((p0.getD (Int.toNat a) 0).toNat:Int)) (fun a1=>(if a1=true then C2.l7 K p0 k (IntKind.i64.wrap (a+1)) else some a))) else none) else some a)
def C2.l30 (K:Nat) (p0:List UInt8) (c:Int):Nat→Int→Int→Option (X3 (Int×Int×Int) Int)
 | 0,_,_=>none
 | k+1,b,a=>(if a < c then (if (0:Int)≤a∧(a:Int) <(p0.length:Int) then (if b >(IntKind.i64.wrap (Int.tdiv ((IntKind.i64.wrap (9223372036854775807 - (IntKind.i64.wrap (IntKind.u8.wrap (((p0.getD (Int.toNat a) 0).toNat:Int) - 48)))))) 10)) then some (X3.done (0,0,14)) else C2.l30 K p0 c k ((IntKind.i64.wrap ((IntKind.i64.wrap (10 * b))+(IntKind.i64.wrap (IntKind.u8.wrap (((p0.getD (Int.toNat a) 0).toNat:Int) - 48)))))) (IntKind.i64.wrap (a+1))) else none) else some (X3.go b))
def C2 (K:Nat) (p0:List UInt8):Option (Int×Int×Int):=(Option.bind (C2.l7 K p0 K 0:Option Int) (fun a=>(obind (((if a > 1 then (if (0:Int) <(p0.length:Int) then (if ((p0.getD (Int.toNat 0) 0).toNat:Int)=48 then some (X3.done (0,0,3)) else (if a <(p0.length:Int) then (if (0:Int)≤a∧(a:Int) <(p0.length:Int) then (Option.bind (Dn K ((p0.getD (Int.toNat a) 0).toNat:Int)) (fun a2=>(if a2=true then some (X3.done (0,0,3)) else some (X3.go ())))) else none) else some (X3.go ()))) else none) else (if a <(p0.length:Int) then (if (0:Int)≤a∧(a:Int) <(p0.length:Int) then (Option.bind (Dn K ((p0.getD (Int.toNat a) 0).toNat:Int)) (fun a3=>(if a3=true then some (X3.done (0,0,3)) else some (X3.go ())))) else none) else some (X3.go ())))):Option (X3 (Int×Int×Int) Unit)) (fun r=>r) (fun _=>(obind (C2.l30 K p0 a K 0 0:Option (X3 (Int×Int×Int) Int)) (fun r=>r) (fun b=>some (b,a,0)))))))
theorem C2.body {Γ:Yg} {K:Nat} {p0:List UInt8} {r:Int×Int×Int} (h:C2 K p0=some r):Yc V P 61 100 Γ (Tryz.f111.body.getD .skip) (X1 P V Tryz.f111 (.tup [.I r.1,.I r.2.1,.I r.2.2]) []) ⟨X0 0 [.cv (.str p0)],[]⟩:=by
 unfold C2 at h;refine Xy L 200 <| Xy L 204 <| Xo <| Xw <| kp (S':=⟨[(0,.cv (.str p0)),(5,.I 0)],[]⟩) ?_;obtain ⟨o1,hp1,h⟩:=bind_some h;refine X4 (Q':=fun e S=>(e=.exit 0∧∃ c:Int,S=⟨[(0,.cv (.str p0)),(5,.I c)],[]⟩∧c=o1)) (Yb (fun k S=>∃ g:Int,S=⟨[(0,.cv (.str p0)),(5,.I g)],[]⟩∧C2.l7 K p0 k g=some o1) ?_ ⟨_,rfl,hp1⟩) ?_
 ·clear h hp1;intro k S hS;obtain ⟨g,rfl,h⟩:=hS;cases k with
  | zero=>cases h
  | succ k =>
  unfold C2.l7 at h;refine Xo <| Xo ?_;rcases Xp h with ⟨c1,h⟩ |⟨c1,h⟩
  ·obtain ⟨g1,h⟩:=Xv h;obtain ⟨a1,h1,h⟩:=bind_some h;refine rg L 206 [(4,true)] [(8,.B a1)] [] (Xt (decide_eq_true c1) (Xt g1.1 (Xt g1.2 (Xt (D4.ok h1) (Xx trivial))))) ?_;rcases Xp h with ⟨c2,h⟩ |⟨c2,h⟩
   ·refine tt c2 <| Xu <| Xw <| ar0 L 217 [] [] [] (S':=⟨[(0,.cv (.str p0)),(5,.I (IntKind.i64.wrap (g+1)))],[]⟩) ?_;exact ⟨k,Nat.lt_succ_self k,_,rfl,h⟩
   refine fN c2 <| ex (S':=⟨[(0,.cv (.str p0)),(5,.I g)],[]⟩) ?_;cases h;exact ⟨rfl,_,rfl,rfl⟩
  refine rg L 206 [(4,false)] [] [] (Xx (decide_eq_false c1)) ?_;refine ff (b:=false) (rfl) ?_;refine ex (S':=⟨[(0,.cv (.str p0)),(5,.I g)],[]⟩) ?_;cases h;exact ⟨rfl,_,rfl,rfl⟩
 ·rintro e S ⟨rfl,c,rfl,rfl⟩;refine ⟨_,Xn.refl,?_⟩;obtain ⟨o2,hp2,h⟩:=X9 h;refine Xo (Ye (Q':=fun e S=>(e=.normal∧S=⟨[(0,.cv (.str p0)),(5,.I c)],[]⟩∧X3.go ()=o2)∨(e=.ret∧∃ a,X3.done a=o2∧X1 P V Tryz.f111 (.tup [.I a.1,.I a.2.1,.I a.2.2]) [] .ret S)) ?_ ?_)
  ·clear h;replace h:=hp2;refine Xo ?_;rcases Xp h with ⟨c3,h⟩ |⟨c3,h⟩
   ·obtain ⟨g2,h⟩:=Xv h;rcases Xp h with ⟨c4,h⟩ |⟨c4,h⟩
    ·refine rg L 221 [(2,true),(7,true)] [] [] (Xt (decide_eq_true c3) (Xt (show (0:Int)≤0 from by decide) (Xt g2 (Xx (decide_eq_true c4))))) ?_;refine tt (b:=true) (rfl) ?_;refine Xy L 241 <| Xq ?_;cases h;exact .inr ⟨rfl,_,rfl,X7⟩
    rcases Xp h with ⟨c5,h⟩ |⟨c5,h⟩
    ·obtain ⟨g3,h⟩:=Xv h;obtain ⟨a2,h2,h⟩:=bind_some h;refine rg L 221 [(2,true),(7,false),(12,true)] [(16,.B a2)] [] (Xt (decide_eq_true c3) (Xt (show (0:Int)≤0 from by decide) (Xt g2 (Xt (decide_eq_false c4) (Xt (decide_eq_true c5) (Xt g3.1 (Xt g3.2 (Xt (Dn.ok h2) (Xx trivial))))))))) ?_;rcases Xp h with ⟨c6,h⟩ |⟨c6,h⟩
     ·refine tt c6 <| Xy L 241 <| Xq ?_;cases h;exact .inr ⟨rfl,_,rfl,X7⟩
     refine fN c6 <| sk (S':=⟨[(0,.cv (.str p0)),(5,.I c)],[]⟩) ?_;cases h;exact .inl ⟨rfl,rfl,rfl⟩
    refine rg L 221 [(2,true),(7,false),(12,false)] [] [] (Xt (decide_eq_true c3) (Xt (show (0:Int)≤0 from by decide) (Xt g2 (Xt (decide_eq_false c4) (Xx (decide_eq_false c5)))))) ?_;refine ff (b:=false) (rfl) ?_;refine sk (S':=⟨[(0,.cv (.str p0)),(5,.I c)],[]⟩) ?_;cases h;exact .inl ⟨rfl,rfl,rfl⟩
   rcases Xp h with ⟨c7,h⟩ |⟨c7,h⟩
   ·obtain ⟨g4,h⟩:=Xv h;obtain ⟨a3,h3,h⟩:=bind_some h;refine rg L 221 [(2,false),(12,true)] [(16,.B a3)] [] (Xt (decide_eq_false c3) (Xt (decide_eq_true c7) (Xt g4.1 (Xt g4.2 (Xt (Dn.ok h3) (Xx trivial)))))) ?_;rcases Xp h with ⟨c8,h⟩ |⟨c8,h⟩
    ·refine tt c8 <| Xy L 241 <| Xq ?_;cases h;exact .inr ⟨rfl,_,rfl,X7⟩
    refine fN c8 <| sk (S':=⟨[(0,.cv (.str p0)),(5,.I c)],[]⟩) ?_;cases h;exact .inl ⟨rfl,rfl,rfl⟩
   refine rg L 221 [(2,false),(12,false)] [] [] (Zb (decide_eq_false c3) (decide_eq_false c7)) ?_;refine ff (b:=false) (rfl) ?_;refine sk (S':=⟨[(0,.cv (.str p0)),(5,.I c)],[]⟩) ?_;cases h;exact .inl ⟨rfl,rfl,rfl⟩
  ·rintro e S (⟨rfl,rfl,rfl⟩ |⟨rfl,a,rfl,hr⟩)
   ·rcases h with ⟨_,e1,h⟩ |⟨_,e1,h⟩
    ·cases e1
    ·have e2:=X3.go.inj e1;subst e2;refine Xy L 245 <| Xo <| Xy L 247 <| Xw <| kp (S':=⟨[(0,.cv (.str p0)),(5,.I c),(6,.I 0),(7,.I 0)],[]⟩) ?_;obtain ⟨o3,hp3,h⟩:=X9 h;refine X4 (Q':=fun e S=>(e=.exit 2∧∃ i:Int,S=⟨[(5,.I c),(6,.I i)],[]⟩∧X3.go i=o3)∨(e=.ret∧∃ a,X3.done a=o3∧X1 P V Tryz.f111 (.tup [.I a.1,.I a.2.1,.I a.2.2]) [] .ret S)) (Yb (fun k S=>∃ d:Int,∃ f:Int,S=⟨[(0,.cv (.str p0)),(5,.I c),(6,.I d),(7,.I f)],[]⟩∧C2.l30 K p0 c k d f=some o3) ?_ ⟨_,_,rfl,hp3⟩) ?_
     ·clear h hp3;intro k S hS;obtain ⟨d,f,rfl,h⟩:=hS;cases k with
      | zero=>cases h
      | succ k =>
      unfold C2.l30 at h;refine Xo <| Xy L 249 ?_;rcases Xp h with ⟨c9,h⟩ |⟨c9,h⟩
      ·refine tT c9 <| Xu <| Xo <| Xw <| Xo ?_;obtain ⟨g5,h⟩:=Xv h;refine rg L 253 [] [] [] (Zb g5.1 g5.2) ?_;refine Xo <| sg L 260 [] [] [] (Xx (show 10≠(0:Int) from by decide)) ?_;rcases Xp h with ⟨c10,h⟩ |⟨c10,h⟩
       ·refine tT c10 <| Xy L 266 <| Xq ?_;cases h;exact .inr ⟨rfl,_,rfl,X7⟩
       refine fF c10 <| Xu <| rg0 L 270 ?_;refine ar0 L 276 [] [] [] (S':=⟨[(0,.cv (.str p0)),(5,.I c),(6,.I ((IntKind.i64.wrap ((IntKind.i64.wrap (10 * d))+(IntKind.i64.wrap (IntKind.u8.wrap (((p0.getD (Int.toNat f) 0).toNat:Int) - 48))))))),(7,.I (IntKind.i64.wrap (f+1)))],[]⟩) ?_;exact ⟨k,Nat.lt_succ_self k,_,_,rfl,h⟩
      refine fF c9 <| ex (S':=⟨[(5,.I c),(6,.I d)],[]⟩) ?_;cases h;exact .inl ⟨rfl,_,rfl,rfl⟩
     ·rintro e S (⟨rfl,i,rfl,rfl⟩ |⟨rfl,a,rfl,hr⟩)
      ·rcases h with ⟨_,e1,h⟩ |⟨_,e1,h⟩
       ·cases e1
       ·have e2:=X3.go.inj e1;subst e2;refine ⟨_,Xn.refl,?_⟩;refine Xy L 280 <| Xq ?_;cases h;exact X7
      ·rcases h with ⟨_,e1,h⟩ |⟨_,e1,h⟩
       ·have e2:=X3.done.inj e1;subst e2;subst h;exact ⟨_,Xn.refl,hr⟩
       ·cases e1
   ·rcases h with ⟨_,e1,h⟩ |⟨_,e1,h⟩
    ·have e2:=X3.done.inj e1;subst e2;subst h;exact hr
    ·cases e1
theorem C2.ok {K:Nat} {p0:List UInt8} {r:Int×Int×Int} (h:C2 K p0=some r):X6 V P 111 [.cv (.str p0)] (.tup [.I r.1,.I r.2.1,.I r.2.2]):=Xz.pcall (eo (fn:=Tryz.f111) (n:=61) (m:=100) fun Γ=>C2.body h) (by kernel_rfl)
def Ez (K:Nat) (p0:Int):Option Int:=(Option.bind (D4 K p0) (fun a1=>(if a1=true then some (IntKind.i64.wrap (IntKind.u8.wrap (p0 - 48))) else (if p0≥97 then (if p0≤102 then some (IntKind.i64.wrap ((IntKind.i64.wrap (IntKind.u8.wrap (p0 - 97)))+10)) else some (-1)) else some (-1)))))
theorem Ez.body {Γ:Yg} {K:Nat} {p0:Int} {r:Int} (h:Ez K p0=some r):Yc V P 18 100 Γ (Tryz.f128.body.getD .skip) (X1 P V Tryz.f128 (.I r) []) ⟨X0 0 [.cv (.lit (.int .u8 p0))],[]⟩:=by
 unfold Ez at h;refine Xy L 200 <| Xo <| Xo ?_;obtain ⟨a1,h1,h⟩:=bind_some h;refine rg L 202 [] [(1,.B a1)] [] (Yw (D4.ok h1)) ?_;rcases Xp h with ⟨c1,h⟩ |⟨c1,h⟩
 ·refine tt c1 <| Xy L 205 <| Xq ?_;cases h;exact X7
 refine fN c1 <| Xu <| Xo <| Xo ?_;rcases Xp h with ⟨c2,h⟩ |⟨c2,h⟩
 ·refine rg L 210 [(2,true)] [] [] (Xx (decide_eq_true c2)) ?_;rcases Xp h with ⟨c3,h⟩ |⟨c3,h⟩
  ·refine tT c3 <| Xy L 217 <| Xq ?_;cases h;exact X7
  refine fF c3 <| Xu <| Xy L 223 <| Xq ?_;cases h;exact X7
 refine rg L 210 [(2,false)] [] [] (Xx (decide_eq_false c2)) ?_;refine ff (b:=false) (rfl) ?_;refine Xu <| Xy L 223 <| Xq ?_;cases h;exact X7
theorem Ez.ok {K:Nat} {p0:Int} {r:Int} (h:Ez K p0=some r):X6 V P 128 [.cv (.lit (.int .u8 p0))] (.I r):=Xz.pcall (eo (fn:=Tryz.f128) (n:=18) (m:=100) fun Γ=>Ez.body h) (by kernel_rfl)
def Ci.l95 (K:Nat) (p0:List UInt8) (b:Int):Nat→Int→Int→Option (X3 ((List UInt8)×Int×Int) Int)
 | 0,_,_=>none
 | k+1,c,a=>(if a≤3 then (if (IntKind.i64.wrap (b+a))≥(p0.length:Int) then some (X3.done (([]:List UInt8),0,4)) else (if (0:Int)≤(IntKind.i64.wrap (b+a))∧((IntKind.i64.wrap (b+a)):Int) <(p0.length:Int) then (Option.bind (Ez K ((p0.getD (Int.toNat (IntKind.i64.wrap (b+a))) 0).toNat:Int)) (fun a1=>(if a1 < 0 then some (X3.done (([]:List UInt8),0,3)) else (Option.bind (Ez K ((p0.getD (Int.toNat (IntKind.i64.wrap (b+a))) 0).toNat:Int)) (fun a2=>Ci.l95 K p0 b k (IntKind.i64.wrap ((IntKind.i64.wrap (16 * c))+a2)) (IntKind.i64.wrap (a+1))))))) else none)) else some (X3.go c))
def Ci.l9 (K:Nat) (p0:List UInt8):Nat→Int→(List UInt8)→Option (X3 ((List UInt8)×Int×Int) Unit)
 | 0,_,_=>none
 | k+1,a,c=>(if a <(p0.length:Int) then (if (0:Int)≤a∧(a:Int) <(p0.length:Int) then (if ((p0.getD (Int.toNat a) 0).toNat:Int)=34 then (if (c.length:Int) > 4096 then some (X3.done (([]:List UInt8),0,6)) else some (X3.done ((c.map (fun b=>b)),(IntKind.i64.wrap (a+1)),0))) else (if ((p0.getD (Int.toNat a) 0).toNat:Int) < 32 then some (X3.done (([]:List UInt8),0,3)) else (if ((p0.getD (Int.toNat a) 0).toNat:Int) > 126 then some (X3.done (([]:List UInt8),0,3)) else (if ((p0.getD (Int.toNat a) 0).toNat:Int)≠92 then (if 0≤((p0.getD (Int.toNat a) 0).toNat:Int)∧((p0.getD (Int.toNat a) 0).toNat:Int) < 256 then (if (c.length+(([(UInt8.ofNat (Int.toNat ((p0.getD (Int.toNat a) 0).toNat:Int)))]:List UInt8)).length) * 1≤140737488355328 then Ci.l9 K p0 k (IntKind.i64.wrap (a+1)) ((c++([(UInt8.ofNat (Int.toNat ((p0.getD (Int.toNat a) 0).toNat:Int)))]:List UInt8))) else none) else none) else (if (IntKind.i64.wrap (a+1))≥(p0.length:Int) then some (X3.done (([]:List UInt8),0,4)) else (if (0:Int)≤(IntKind.i64.wrap (a+1))∧((IntKind.i64.wrap (a+1)):Int) <(p0.length:Int) then (Option.bind (((if ((p0.getD (Int.toNat (IntKind.i64.wrap (a+1))) 0).toNat:Int)=34 then some ((decide (((p0.getD (Int.toNat (IntKind.i64.wrap (a+1))) 0).toNat:Int)=34))) else some ((decide (((p0.getD (Int.toNat (IntKind.i64.wrap (a+1))) 0).toNat:Int)=92))))):Option Bool) (fun e=>(if e=true then (if 0≤((p0.getD (Int.toNat (IntKind.i64.wrap (a+1))) 0).toNat:Int)∧((p0.getD (Int.toNat (IntKind.i64.wrap (a+1))) 0).toNat:Int) < 256 then (if (c.length+(([(UInt8.ofNat (Int.toNat ((p0.getD (Int.toNat (IntKind.i64.wrap (a+1))) 0).toNat:Int)))]:List UInt8)).length) * 1≤140737488355328 then Ci.l9 K p0 k (IntKind.i64.wrap (a+2)) ((c++([(UInt8.ofNat (Int.toNat ((p0.getD (Int.toNat (IntKind.i64.wrap (a+1))) 0).toNat:Int)))]:List UInt8))) else none) else none) else (if ((p0.getD (Int.toNat (IntKind.i64.wrap (a+1))) 0).toNat:Int)=110 then (if (c.length+([(UInt8.ofNat (Int.toNat 10))]:List UInt8).length) * 1≤140737488355328 then Ci.l9 K p0 k (IntKind.i64.wrap (a+2)) (c++([(UInt8.ofNat (Int.toNat 10))]:List UInt8)) else none) else (if ((p0.getD (Int.toNat (IntKind.i64.wrap (a+1))) 0).toNat:Int)=116 then (if (c.length+([(UInt8.ofNat (Int.toNat 9))]:List UInt8).length) * 1≤140737488355328 then Ci.l9 K p0 k (IntKind.i64.wrap (a+2)) (c++([(UInt8.ofNat (Int.toNat 9))]:List UInt8)) else none) else (if ((p0.getD (Int.toNat (IntKind.i64.wrap (a+1))) 0).toNat:Int)=120 then (obind (Ci.l95 K p0 a K 0 2:Option (X3 ((List UInt8)×Int×Int) Int)) X3.done (fun d=>(if 0≤(IntKind.u8.wrap d)∧(IntKind.u8.wrap d) < 256 then (if (c.length+([(UInt8.ofNat (Int.toNat (IntKind.u8.wrap d)))]:List UInt8).length) * 1≤140737488355328 then Ci.l9 K p0 k (IntKind.i64.wrap (a+4)) (c++([(UInt8.ofNat (Int.toNat (IntKind.u8.wrap d)))]:List UInt8)) else none) else none))) else some (X3.done (([]:List UInt8),0,3)))))))) else none)))))) else none) else some (X3.go ()))
def Ci (K:Nat) (p0:List UInt8):Option ((List UInt8)×Int×Int):=(obind (Ci.l9 K p0 K 1 ([]:List UInt8):Option (X3 ((List UInt8)×Int×Int) Unit)) (fun r=>r) (fun _=>some (([]:List UInt8),0,4)))
theorem Ci.body {Γ:Yg} {K:Nat} {p0:List UInt8} {r:(List UInt8)×Int×Int} (h:Ci K p0=some r):Yc V P 110 100 Γ (Tryz.f112.body.getD .skip) (X1 P V Tryz.f112 (.tup [.cv (.str r.1),.I r.2.1,.I r.2.2]) []) ⟨X0 0 [.cv (.str p0)],[]⟩:=by
 unfold Ci at h;refine Xy L 200 <| Xy L 204 <| Xy L 206 <| Xo <| Xw <| Xr (Xn.trans (Xn.kk [0,5,6] []) (Xn.trans (Xn.no 5 9500 Tag.D3) (Xn.trans (Xn.kk [0,5,6] [9500]) (Xn.rr [(9500,21900)])))) ?_;refine kp (S':=⟨[(0,.cv (.str p0)),(5,.cv (.own .D3 21900)),(6,.I 1)],[(21900,.lst .D3 ([]:List UInt8))]⟩) ?_;obtain ⟨o3,hp3,h⟩:=X9 h;refine X4 (Q':=fun e S=>(e=.exit 0∧S=⟨[],[]⟩∧X3.go ()=o3)∨(e=.ret∧∃ a,X3.done a=o3∧X1 P V Tryz.f112 (.tup [.cv (.str a.1),.I a.2.1,.I a.2.2]) [] .ret S)) (Yb (fun k S=>∃ c:Int,∃ d:List UInt8,S=⟨[(0,.cv (.str p0)),(5,.cv (.own .D3 21900)),(6,.I c)],[(21900,.lst .D3 d)]⟩∧Ci.l9 K p0 k c d=some o3) ?_ ⟨_,_,rfl,hp3⟩) ?_
 ·clear h hp3;intro k S hS;obtain ⟨c,d,rfl,h⟩:=hS;cases k with
  | zero=>cases h
  | succ k =>
  unfold Ci.l9 at h;refine Xo <| Xy L 208 ?_;rcases Xp h with ⟨c1,h⟩ |⟨c1,h⟩
  ·refine tT c1 <| Xu <| Xw <| Xo ?_;obtain ⟨g1,h⟩:=Xv h;refine rg L 213 [] [] [] (Zb g1.1 g1.2) ?_;refine Xo <| Xy L 218 ?_;rcases Xp h with ⟨c2,h⟩ |⟨c2,h⟩
   ·refine tT c2 <| Xo <| Xy L 221 ?_;rcases Xp h with ⟨c3,h⟩ |⟨c3,h⟩
    ·refine tT c3 <| Xy L 225 <| Xq ?_;cases h;exact .inr ⟨rfl,_,rfl,X7⟩
    refine fF c3 <| Xu <| Xy L 229 <| Xq ?_;cases h;exact .inr ⟨rfl,_,rfl,X7⟩
   refine fF c2 <| Xu <| Xo <| Xo ?_;rcases Xp h with ⟨c4,h⟩ |⟨c4,h⟩
   ·refine rg L 237 [(2,true)] [] [] (Xx (decide_eq_true c4)) ?_;refine tt (b:=true) (rfl) ?_;refine Xy L 244 <| Xq ?_;cases h;exact .inr ⟨rfl,_,rfl,X7⟩
   refine rg L 237 [(2,false)] [] [] (Xx (decide_eq_false c4)) ?_;rcases Xp h with ⟨c5,h⟩ |⟨c5,h⟩
   ·refine tT c5 <| Xy L 244 <| Xq ?_;cases h;exact .inr ⟨rfl,_,rfl,X7⟩
   refine fF c5 <| Xu <| Xo <| Xy L 248 ?_;rcases Xp h with ⟨c6,h⟩ |⟨c6,h⟩
   ·refine tT c6 <| Xo ?_;obtain ⟨g2,h⟩:=Xv h;obtain ⟨g3,h⟩:=Xv h;refine rg L 251 [] [] [] (Xt g2.1 (Xt g2.2 (Xt g3 (Xx trivial)))) ?_;refine Xy L 257 <| ex (S':=⟨[(0,.cv (.str p0)),(5,.cv (.own .D3 21900)),(6,.I (IntKind.i64.wrap (c+1)))],[(21900,.lst .D3 ((d++([(UInt8.ofNat (Int.toNat ((p0.getD (Int.toNat c) 0).toNat:Int)))]:List UInt8))))]⟩) ?_;exact ⟨k,Nat.lt_succ_self k,_,_,rfl,h⟩
   refine fF c6 <| Xu <| Xo <| Xy L 261 ?_;rcases Xp h with ⟨c7,h⟩ |⟨c7,h⟩
   ·refine tT c7 <| Xy L 267 <| Xq ?_;cases h;exact .inr ⟨rfl,_,rfl,X7⟩
   refine fF c7 <| Xu <| Xo ?_;obtain ⟨g4,h⟩:=Xv h;refine rg L 271 [] [] [] (Zb g4.1 g4.2) ?_;refine Xw ?_;obtain ⟨o1,hp1,h⟩:=bind_some h;refine Xo (Ye (Q':=fun e S=>(e=.normal∧∃ j:Bool,S=⟨[(0,.cv (.str p0)),(5,.cv (.own .D3 32800)),(6,.I c),(48,.cv (.lit (.int .u8 ((p0.getD (Int.toNat (IntKind.i64.wrap (c+1))) 0).toNat:Int)))),(49,.B j)],[(32800,.lst .D3 d)]⟩∧j=o1)) ?_ ?_)
   ·clear h;replace h:=hp1;refine Xy L 276 ?_;rcases Xp h with ⟨c8,h⟩ |⟨c8,h⟩
    ·refine tT c8 <| Xr (Xn.trans (Xn.kk [0,5,6,48,49] [21900]) (Xn.rr [(21900,32800)])) ?_;refine sk (S':=⟨[(0,.cv (.str p0)),(5,.cv (.own .D3 32800)),(6,.I c),(48,.cv (.lit (.int .u8 ((p0.getD (Int.toNat (IntKind.i64.wrap (c+1))) 0).toNat:Int)))),(49,.B ((decide (((p0.getD (Int.toNat (IntKind.i64.wrap (c+1))) 0).toNat:Int)=34))))],[(32800,.lst .D3 d)]⟩) ?_;cases h;exact ⟨rfl,_,rfl,rfl⟩
    refine fF c8 <| X2 (rg0 L 279 ⟨rfl,rfl⟩) (Xn.trans (Xn.kk [0,5,6,48,49] [21900]) (Xn.trans (Xn.rr [(21900,32800)]) (Xn.kp (S':=⟨[(0,.cv (.str p0)),(5,.cv (.own .D3 32800)),(6,.I c),(48,.cv (.lit (.int .u8 ((p0.getD (Int.toNat (IntKind.i64.wrap (c+1))) 0).toNat:Int)))),(49,.B ((decide (((p0.getD (Int.toNat (IntKind.i64.wrap (c+1))) 0).toNat:Int)=92))))],[(32800,.lst .D3 d)]⟩)))) ?_;cases h;exact ⟨rfl,_,rfl,rfl⟩
   ·rintro e S ⟨rfl,j,rfl,rfl⟩;rcases Xp h with ⟨c9,h⟩ |⟨c9,h⟩
    ·refine tt c9 <| Xo ?_;obtain ⟨g5,h⟩:=Xv h;obtain ⟨g6,h⟩:=Xv h;refine rg L 282 [] [] [] (Xt g4.1 (Xt g4.2 (Xt g5.1 (Xt g5.2 (Xt g6 (Xx trivial)))))) ?_;refine X2 (rg0 L 291 ⟨rfl,rfl⟩) (Xn.trans (Xn.kk [0,5,6] [32800]) (Xn.trans (Xn.rr [(32800,21900)]) (Xn.kp (S':=⟨[(0,.cv (.str p0)),(5,.cv (.own .D3 21900)),(6,.I (IntKind.i64.wrap (c+2)))],[(21900,.lst .D3 ((d++([(UInt8.ofNat (Int.toNat ((p0.getD (Int.toNat (IntKind.i64.wrap (c+1))) 0).toNat:Int)))]:List UInt8))))]⟩)))) ?_;exact ⟨k,Nat.lt_succ_self k,_,_,rfl,h⟩
    refine fN c9 <| Xy L 295 ?_;rcases Xp h with ⟨c10,h⟩ |⟨c10,h⟩
    ·refine tT c10 <| Xo ?_;obtain ⟨g7,h⟩:=Xv h;refine rg L 298 [] [] [] (Xt (show (0:Int)≤10 from by decide) (Xt (show (10:Int) < 256 from by decide) (Xt g7 (Xx trivial)))) ?_;refine X2 (rg0 L 303 ⟨rfl,rfl⟩) (Xn.trans (Xn.kk [0,5,6] [32800]) (Xn.trans (Xn.rr [(32800,21900)]) (Xn.kp (S':=⟨[(0,.cv (.str p0)),(5,.cv (.own .D3 21900)),(6,.I (IntKind.i64.wrap (c+2)))],[(21900,.lst .D3 (d++([(UInt8.ofNat (Int.toNat 10))]:List UInt8)))]⟩)))) ?_;exact ⟨k,Nat.lt_succ_self k,_,_,rfl,h⟩
    refine fF c10 <| Xy L 307 ?_;rcases Xp h with ⟨c11,h⟩ |⟨c11,h⟩
    ·refine tT c11 <| Xo ?_;obtain ⟨g8,h⟩:=Xv h;refine rg L 310 [] [] [] (Xt (show (0:Int)≤9 from by decide) (Xt (show (9:Int) < 256 from by decide) (Xt g8 (Xx trivial)))) ?_;refine X2 (rg0 L 315 ⟨rfl,rfl⟩) (Xn.trans (Xn.kk [0,5,6] [32800]) (Xn.trans (Xn.rr [(32800,21900)]) (Xn.kp (S':=⟨[(0,.cv (.str p0)),(5,.cv (.own .D3 21900)),(6,.I (IntKind.i64.wrap (c+2)))],[(21900,.lst .D3 (d++([(UInt8.ofNat (Int.toNat 9))]:List UInt8)))]⟩)))) ?_;exact ⟨k,Nat.lt_succ_self k,_,_,rfl,h⟩
    refine fF c11 <| Xy L 319 ?_;rcases Xp h with ⟨c12,h⟩ |⟨c12,h⟩
    ·refine tT c12 <| Xy L 322 <| Xo <| Xy L 324 <| Xw <| Xr (Xn.trans (Xn.kk [0,5,6,8,9] [32800]) (Xn.rr [(32800,39100)])) ?_;refine kp (S':=⟨[(0,.cv (.str p0)),(5,.cv (.own .D3 39100)),(6,.I c),(8,.I 0),(9,.I 2)],[(39100,.lst .D3 d)]⟩) ?_;obtain ⟨o2,hp2,h⟩:=X9 h;refine X4 (Q':=fun e S=>(e=.exit 3∧∃ i:Int,S=⟨[(0,.cv (.str p0)),(5,.cv (.own .D3 39000)),(6,.I c),(8,.I i)],[(39000,.lst .D3 d)]⟩∧X3.go i=o2)∨(e=.ret∧∃ a,X3.done a=o2∧X1 P V Tryz.f112 (.tup [.cv (.str a.1),.I a.2.1,.I a.2.2]) [] .ret S)) (Yb (fun k S=>∃ f:Int,∃ g:Int,S=⟨[(0,.cv (.str p0)),(5,.cv (.own .D3 39100)),(6,.I c),(8,.I f),(9,.I g)],[(39100,.lst .D3 d)]⟩∧Ci.l95 K p0 c k f g=some o2) ?_ ⟨_,_,rfl,hp2⟩) ?_
     ·clear h hp2;intro k S hS;obtain ⟨f,g,rfl,h⟩:=hS;cases k with
      | zero=>cases h
      | succ k =>
      unfold Ci.l95 at h;refine Xo <| Xy L 326 ?_;rcases Xp h with ⟨c13,h⟩ |⟨c13,h⟩
      ·refine tT c13 <| Xu <| Xo <| Xw <| Xo <| Xy L 329 ?_;rcases Xp h with ⟨c14,h⟩ |⟨c14,h⟩
       ·refine tT c14 <| Xy L 336 <| Xq ?_;cases h;exact .inr ⟨rfl,_,rfl,X7⟩
       refine fF c14 <| Xu <| Xo <| Xo ?_;obtain ⟨g9,h⟩:=Xv h;obtain ⟨a1,h1,h⟩:=bind_some h;refine rg L 340 [] [(5,.I a1)] [] (Xt g9.1 (Xt g9.2 (Xt (Ez.ok h1) (Xx trivial)))) ?_;rcases Xp h with ⟨c15,h⟩ |⟨c15,h⟩
       ·refine tT c15 <| Xy L 348 <| Xq ?_;cases h;exact .inr ⟨rfl,_,rfl,X7⟩
       refine fF c15 <| Xu ?_;obtain ⟨a2,h2,h⟩:=bind_some h;refine rg L 352 [] [(7,.I a2)] [] (Xt g9.1 (Xt g9.2 (Xt (Ez.ok h2) (Xx trivial)))) ?_;refine ar0 L 363 [] [] [] (S':=⟨[(0,.cv (.str p0)),(5,.cv (.own .D3 39100)),(6,.I c),(8,.I (IntKind.i64.wrap ((IntKind.i64.wrap (16 * f))+a2))),(9,.I (IntKind.i64.wrap (g+1)))],[(39100,.lst .D3 d)]⟩) ?_;exact ⟨k,Nat.lt_succ_self k,_,_,rfl,h⟩
      refine fF c13 <| Xr (Xn.trans (Xn.kk [0,5,6,8] [39100]) (Xn.rr [(39100,39000)])) ?_;refine ex (S':=⟨[(0,.cv (.str p0)),(5,.cv (.own .D3 39000)),(6,.I c),(8,.I f)],[(39000,.lst .D3 d)]⟩) ?_;cases h;exact .inl ⟨rfl,_,rfl,rfl⟩
     ·rintro e S (⟨rfl,i,rfl,rfl⟩ |⟨rfl,a,rfl,hr⟩)
      ·rcases h with ⟨_,e1,h⟩ |⟨_,e1,h⟩
       ·cases e1
       ·have e2:=X3.go.inj e1;subst e2;refine ⟨_,Xn.refl,?_⟩;refine Xo ?_;obtain ⟨g10,h⟩:=Xv h;obtain ⟨g11,h⟩:=Xv h;refine rg L 367 [] [] [] (Xt g10.1 (Xt g10.2 (Xt g11 (Xx trivial)))) ?_;refine X2 (rg0 L 374 ⟨rfl,rfl⟩) (Xn.trans (Xn.kk [0,5,6] [39000]) (Xn.trans (Xn.rr [(39000,21900)]) (Xn.kp (S':=⟨[(0,.cv (.str p0)),(5,.cv (.own .D3 21900)),(6,.I (IntKind.i64.wrap (c+4)))],[(21900,.lst .D3 (d++([(UInt8.ofNat (Int.toNat (IntKind.u8.wrap i)))]:List UInt8)))]⟩)))) ?_;exact ⟨k,Nat.lt_succ_self k,_,_,rfl,h⟩
      ·rcases h with ⟨_,e1,h⟩ |⟨_,e1,h⟩
       ·have e2:=X3.done.inj e1;subst e2;subst h;exact ⟨_,Xn.refl,.inr ⟨rfl,_,rfl,hr⟩⟩
       ·cases e1
    refine fF c12 <| Xy L 378 <| Xq ?_;cases h;exact .inr ⟨rfl,_,rfl,X7⟩
  refine fF c1 <| ex (S':=⟨[],[]⟩) ?_;cases h;exact .inl ⟨rfl,rfl,rfl⟩
 ·rintro e S (⟨rfl,rfl,rfl⟩ |⟨rfl,a,rfl,hr⟩)
  ·rcases h with ⟨_,e1,h⟩ |⟨_,e1,h⟩
   ·cases e1
   ·have e2:=X3.go.inj e1;subst e2;refine ⟨_,Xn.refl,?_⟩;refine Xy L 382 <| Xq ?_;cases h;exact X7
  ·rcases h with ⟨_,e1,h⟩ |⟨_,e1,h⟩
   ·have e2:=X3.done.inj e1;subst e2;subst h;exact ⟨_,Xn.refl,hr⟩
   ·cases e1
theorem Ci.ok {K:Nat} {p0:List UInt8} {r:(List UInt8)×Int×Int} (h:Ci K p0=some r):X6 V P 112 [.cv (.str p0)] (.tup [.cv (.str r.1),.I r.2.1,.I r.2.2]):=Xz.pcall (eo (fn:=Tryz.f112) (n:=110) (m:=100) fun Γ=>Ci.body h) (by kernel_rfl)
def E8 (K:Nat):Option (List (List UInt8)):=some ([([61,61]:List UInt8),([33,61]:List UInt8),([60,61]:List UInt8),([62,61]:List UInt8),([40]:List UInt8),([41]:List UInt8),([123]:List UInt8),([125]:List UInt8),([91]:List UInt8),([93]:List UInt8),([44]:List UInt8),([59]:List UInt8),([46]:List UInt8),([58]:List UInt8),([61]:List UInt8),([60]:List UInt8),([62]:List UInt8),([43]:List UInt8),([45]:List UInt8),([42]:List UInt8),([47]:List UInt8),([37]:List UInt8)]:List (List UInt8))
theorem E8.body {Γ:Yg} {K:Nat} {r:List (List UInt8)} (h:E8 K=some r):Yc V P 2 100 Γ (Tryz.f113.body.getD .skip) (X1 P V Tryz.f113 (.cv (.ro .Dd r)) []) ⟨X0 0 [],[]⟩:=by
 unfold E8 at h;refine Xy L 200 <| Xy L 202 <| Xq ?_;cases h;exact X7
theorem E8.ok {K:Nat} {r:List (List UInt8)} (h:E8 K=some r):X6 V P 113 [] (.cv (.ro .Dd r)):=Xz.pcall (eo (fn:=Tryz.f113) (n:=2) (m:=100) fun Γ=>E8.body h) (by kernel_rfl)
def C7.l13 (K:Nat) (p0:List UInt8):Nat→Int→Option Int
 | 0,_=>none
 | k+1,a=>(if a <(p0.length:Int) then (if (0:Int)≤a∧(a:Int) <(p0.length:Int) then (Option.bind (Dn K ((p0.getD (Int.toNat a) 0).toNat:Int)) (fun a2=>(if a2=true then C7.l13 K p0 k (IntKind.i64.wrap (a+1)) else (Option.bind (D4 K ((p0.getD (Int.toNat a) 0).toNat:Int)) (fun a3=>(if a3=true then C7.l13 K p0 k (IntKind.i64.wrap (a+1)) else some a)))))) else none) else some a)
def C7.l82 (K:Nat) (p0:List UInt8) (a8:List (List UInt8)):Nat→Int→Option (X3 (Ar×Int×Int) Unit)
 | 0,_=>none
 | k+1,a=>(if a <(a8.length:Int) then (if (0:Int)≤a∧(a:Int) <(a8.length:Int) then (if ((a8.getD (Int.toNat a) ([]:List UInt8)).length:Int)≤(p0.length:Int) then (if (0:Int)≤((a8.getD (Int.toNat a) ([]:List UInt8)).length:Int)∧((a8.getD (Int.toNat a) ([]:List UInt8)).length:Int)≤(p0.length:Int) then (if (slc p0 0 ((a8.getD (Int.toNat a) ([]:List UInt8)).length:Int))=(a8.getD (Int.toNat a) ([]:List UInt8)) then some (X3.done ((⟨5,0,(a8.getD (Int.toNat a) ([]:List UInt8)),0⟩:Ar),((a8.getD (Int.toNat a) ([]:List UInt8)).length:Int),0)) else C7.l82 K p0 a8 k (IntKind.i64.wrap (a+1))) else none) else C7.l82 K p0 a8 k (IntKind.i64.wrap (a+1))) else none) else some (X3.go ()))
def C7 (K:Nat) (p0:List UInt8):Option (Ar×Int×Int):=(if (0:Int) <(p0.length:Int) then (Option.bind (Dn K ((p0.getD (Int.toNat 0) 0).toNat:Int)) (fun a1=>(if a1=true then (Option.bind (C7.l13 K p0 K 0:Option Int) (fun a=>(if a > 64 then some ((⟨0,0,[],0⟩:Ar),0,8) else (if (0:Int)≤a∧a≤(p0.length:Int) then (Option.bind (Df K (slc p0 0 a)) (fun a4=>(if a4=true then some ((⟨2,0,(slc p0 0 a),0⟩:Ar),a,0) else some ((⟨1,0,(slc p0 0 a),0⟩:Ar),a,0)))) else none)))) else (Option.bind (D4 K ((p0.getD (Int.toNat 0) 0).toNat:Int)) (fun a5=>(if a5=true then (Option.bind (C2 K p0) (fun (d,e,b)=>(if b≠0 then some ((⟨0,0,[],0⟩:Ar),0,b) else some ((⟨3,0,[],d⟩:Ar),e,0)))) else (if ((p0.getD (Int.toNat 0) 0).toNat:Int)=34 then (Option.bind (Ci K p0) (fun (f,g,c)=>(if c≠0 then some ((⟨0,0,[],0⟩:Ar),0,c) else some ((⟨4,0,f,0⟩:Ar),g,0)))) else (Option.bind (E8 K) (fun a8=>(obind (C7.l82 K p0 a8 K 0:Option (X3 (Ar×Int×Int) Unit)) (fun r=>r) (fun _=>some ((⟨0,0,[],0⟩:Ar),0,3)))))))))))) else none)
theorem C7.body {Γ:Yg} {K:Nat} {p0:List UInt8} {r:Ar×Int×Int} (h:C7 K p0=some r):Yc V P 106 100 Γ (Tryz.f79.body.getD .skip) (X1 P V Tryz.f79 (.tup [.agg [.I r.1.Kind,.I r.1.At,.str r.1.Text,.I r.1.Int],.I r.2.1,.I r.2.2]) []) ⟨X0 0 [.cv (.str p0)],[]⟩:=by
 unfold C7 at h;refine Xy L 200 <| Xo ?_;obtain ⟨g1,h⟩:=Xv h;refine rg L 204 [] [] [] (Zb (show (0:Int)≤0 from by decide) g1) ?_;refine Xo <| Xo ?_;obtain ⟨a1,h1,h⟩:=bind_some h;refine rg L 208 [] [(1,.B a1)] [] (Yw (Dn.ok h1)) ?_;rcases Xp h with ⟨c1,h⟩ |⟨c1,h⟩
 ·refine tt c1 <| Xy L 211 <| Xo <| Xw <| Xr (Xn.trans (Xn.kk [0,2,6] [200]) (Xn.rr [(200,22700)])) ?_;refine kp (S':=⟨[(0,.cv (.str p0)),(2,.P 22700),(6,.I 0)],[(22700,.raw [.I 0,.I 0,.str [],.I 0])]⟩) ?_;obtain ⟨o1,hp1,h⟩:=bind_some h;refine X4 (Q':=fun e S=>(e=.exit 0∧∃ f:Int,S=⟨[(0,.cv (.str p0)),(2,.P 22600),(6,.I f)],[(22600,.raw [.I 0,.I 0,.str [],.I 0])]⟩∧f=o1)) (Yb (fun k S=>∃ c:Int,S=⟨[(0,.cv (.str p0)),(2,.P 22700),(6,.I c)],[(22700,.raw [.I 0,.I 0,.str [],.I 0])]⟩∧C7.l13 K p0 k c=some o1) ?_ ⟨_,rfl,hp1⟩) ?_
  ·clear h hp1;intro k S hS;obtain ⟨c,rfl,h⟩:=hS;cases k with
   | zero=>cases h
   | succ k =>
   unfold C7.l13 at h;refine Xo <| Xo ?_;rcases Xp h with ⟨c2,h⟩ |⟨c2,h⟩
   ·obtain ⟨g2,h⟩:=Xv h;obtain ⟨a2,h2,h⟩:=bind_some h;rcases Xp h with ⟨c3,h⟩ |⟨c3,h⟩
    ·refine rg L 213 [(4,true),(9,true)] [(8,.B a2)] [] (Xt (decide_eq_true c2) (Xt g2.1 (Xt g2.2 (Xt (Dn.ok h2) (Xt trivial (Xx c3)))))) ?_;refine tt (b:=true) (rfl) ?_;refine Xu <| Xw <| ar0 L 230 [] [] [] (S':=⟨[(0,.cv (.str p0)),(2,.P 22700),(6,.I (IntKind.i64.wrap (c+1)))],[(22700,.raw [.I 0,.I 0,.str [],.I 0])]⟩) ?_;exact ⟨k,Nat.lt_succ_self k,_,rfl,h⟩
    obtain ⟨a3,h3,h⟩:=bind_some h;refine rg L 213 [(4,true),(9,false)] [(8,.B a2),(13,.B a3)] [] (Xt (decide_eq_true c2) (Xt g2.1 (Xt g2.2 (Xt (Dn.ok h2) (Xt trivial (Xt (eq_false_of_ne_true c3) (Xt g2.1 (Xt g2.2 (Xt (D4.ok h3) (Xx trivial)))))))))) ?_;rcases Xp h with ⟨c4,h⟩ |⟨c4,h⟩
    ·refine tt c4 <| Xu <| Xw <| ar0 L 230 [] [] [] (S':=⟨[(0,.cv (.str p0)),(2,.P 22700),(6,.I (IntKind.i64.wrap (c+1)))],[(22700,.raw [.I 0,.I 0,.str [],.I 0])]⟩) ?_;exact ⟨k,Nat.lt_succ_self k,_,rfl,h⟩
    refine fN c4 <| Xr (Xn.trans (Xn.kk [0,2,6] [22700]) (Xn.rr [(22700,22600)])) ?_;refine ex (S':=⟨[(0,.cv (.str p0)),(2,.P 22600),(6,.I c)],[(22600,.raw [.I 0,.I 0,.str [],.I 0])]⟩) ?_;cases h;exact ⟨rfl,_,rfl,rfl⟩
   refine rg L 213 [(4,false)] [] [] (Xx (decide_eq_false c2)) ?_;refine ff (b:=false) (rfl) ?_;refine Xr (Xn.trans (Xn.kk [0,2,6] [22700]) (Xn.rr [(22700,22600)])) ?_;refine ex (S':=⟨[(0,.cv (.str p0)),(2,.P 22600),(6,.I c)],[(22600,.raw [.I 0,.I 0,.str [],.I 0])]⟩) ?_;cases h;exact ⟨rfl,_,rfl,rfl⟩
  ·rintro e S ⟨rfl,f,rfl,rfl⟩;refine ⟨_,Xn.refl,?_⟩;refine Xo <| Xy L 234 ?_;rcases Xp h with ⟨c5,h⟩ |⟨c5,h⟩
   ·refine tT c5 <| Xy L 237 <| Xr (Xn.trans (Xn.kk [2,3,4] [22600]) (Xn.rr [(22600,100)])) ?_;refine Xq ?_;cases h;exact X7
   refine fF c5 <| Xu <| Xo ?_;obtain ⟨g3,h⟩:=Xv h;refine rg L 242 [] [] [] (Xt (show (0:Int)≤0 from Int.le_refl _) (Xt g3.1 (Xx g3.2))) ?_;refine Xo <| Xo ?_;obtain ⟨a4,h4,h⟩:=bind_some h;refine rg L 249 [] [(2,.B a4)] [] (Yw (Df.ok h4)) ?_;rcases Xp h with ⟨c6,h⟩ |⟨c6,h⟩
   ·refine tt c6 <| rg0 L 253 ?_;refine Xy L 256 <| Xr (Xn.trans (Xn.kk [2,3,4] [22600]) (Xn.rr [(22600,100)])) ?_;refine Xq ?_;cases h;exact X7
   refine fN c6 <| Xu <| Xy L 256 <| Xr (Xn.trans (Xn.kk [2,3,4] [22600]) (Xn.rr [(22600,100)])) ?_;refine Xq ?_;cases h;exact X7
 refine fN c1 <| Xu <| Xo <| Xo ?_;obtain ⟨a5,h5,h⟩:=bind_some h;refine rg L 262 [] [(1,.B a5)] [] (Yw (D4.ok h5)) ?_;rcases Xp h with ⟨c7,h⟩ |⟨c7,h⟩
 ·refine tt c7 <| Xo ?_;obtain ⟨⟨g,i,j⟩,h6,h⟩:=bind_some h;dsimp only at h;refine rg L 265 [] [(1,.tup [.I g,.I i,.I j])] [] (Yw (C2.ok h6)) ?_;refine Xo <| Xy L 275 ?_;rcases Xp h with ⟨c8,h⟩ |⟨c8,h⟩
  ·refine tT c8 <| Xy L 278 <| Xr (Xn.trans (Xn.kk [2,3,4] [200]) (Xn.rr [(200,100)])) ?_;refine Xq ?_;cases h;exact X7
  refine fF c8 <| Xu <| Xy L 284 <| Xr (Xn.trans (Xn.kk [2,3,4] [200]) (Xn.rr [(200,100)])) ?_;refine Xq ?_;cases h;exact X7
 refine fN c7 <| Xu <| Xo <| Xy L 291 ?_;rcases Xp h with ⟨c9,h⟩ |⟨c9,h⟩
 ·refine tT c9 <| Xo ?_;obtain ⟨⟨l,m,n⟩,h7,h⟩:=bind_some h;dsimp only at h;refine rg L 294 [] [(1,.tup [.cv (.str l),.I m,.I n])] [] (Yw (Ci.ok h7)) ?_;refine Xo <| Xy L 304 ?_;rcases Xp h with ⟨c10,h⟩ |⟨c10,h⟩
  ·refine tT c10 <| Xy L 307 <| Xr (Xn.trans (Xn.kk [2,3,4] [200]) (Xn.rr [(200,100)])) ?_;refine Xq ?_;cases h;exact X7
  refine fF c10 <| Xu <| Xy L 313 <| Xr (Xn.trans (Xn.kk [2,3,4] [200]) (Xn.rr [(200,100)])) ?_;refine Xq ?_;cases h;exact X7
 refine fF c9 <| Xu <| Xo <| Xo ?_;obtain ⟨a8,h8,h⟩:=bind_some h;refine rg L 320 [] [(0,.cv (.ro .Dd a8))] [] (Yw (E8.ok h8)) ?_;refine Xw <| Xr (Xn.trans (Xn.kk [0,2,81,82,83] [200]) (Xn.rr [(200,36500)])) ?_;refine kp (S':=⟨[(0,.cv (.str p0)),(2,.P 36500),(81,.cv (.ro .Dd a8)),(82,.I (a8.length:Int)),(83,.I 0)],[(36500,.raw [.I 0,.I 0,.str [],.I 0])]⟩) ?_;obtain ⟨o2,hp2,h⟩:=X9 h;refine X4 (Q':=fun e S=>(e=.exit 2∧S=⟨[(2,.P 36400)],[(36400,.raw [.I 0,.I 0,.str [],.I 0])]⟩∧X3.go ()=o2)∨(e=.ret∧∃ a,X3.done a=o2∧X1 P V Tryz.f79 (.tup [.agg [.I a.1.Kind,.I a.1.At,.str a.1.Text,.I a.1.Int],.I a.2.1,.I a.2.2]) [] .ret S)) (Yb (fun k S=>∃ d:Int,S=⟨[(0,.cv (.str p0)),(2,.P 36500),(81,.cv (.ro .Dd a8)),(82,.I (a8.length:Int)),(83,.I d)],[(36500,.raw [.I 0,.I 0,.str [],.I 0])]⟩∧C7.l82 K p0 a8 k d=some o2) ?_ ⟨_,rfl,hp2⟩) ?_
 ·clear h hp2;intro k S hS;obtain ⟨d,rfl,h⟩:=hS;cases k with
  | zero=>cases h
  | succ k =>
  unfold C7.l82 at h;refine Xy L 324 <| Xo ?_;rcases Xp h with ⟨c11,h⟩ |⟨c11,h⟩
  ·refine tT c11 <| Xu <| Xo <| Xw <| Xo ?_;obtain ⟨g4,h⟩:=Xv h;refine rg L 326 [] [] [] (Zb g4.1 g4.2) ?_;refine Xo ?_;rcases Xp h with ⟨c12,h⟩ |⟨c12,h⟩
   ·obtain ⟨g5,h⟩:=Xv h;refine rg L 330 [(5,true)] [] [] (Xt (decide_eq_true c12) (Xt (show (0:Int)≤0 from Int.le_refl _) (Xt g5.1 (Xx g5.2)))) ?_;rcases Xp h with ⟨c13,h⟩ |⟨c13,h⟩
    ·refine tT c13 <| Xy L 344 <| Xr (Xn.trans (Xn.kk [2,3,4] [36500]) (Xn.rr [(36500,100)])) ?_;refine Xq ?_;cases h;exact .inr ⟨rfl,_,rfl,X7⟩
    refine fF c13 <| Xu <| ar0 L 352 [] [] [] (S':=⟨[(0,.cv (.str p0)),(2,.P 36500),(81,.cv (.ro .Dd a8)),(82,.I (a8.length:Int)),(83,.I (IntKind.i64.wrap (d+1)))],[(36500,.raw [.I 0,.I 0,.str [],.I 0])]⟩) ?_;exact ⟨k,Nat.lt_succ_self k,_,rfl,h⟩
   refine rg L 330 [(5,false)] [] [] (Xx (decide_eq_false c12)) ?_;refine ff (b:=false) (rfl) ?_;refine Xu <| ar0 L 352 [] [] [] (S':=⟨[(0,.cv (.str p0)),(2,.P 36500),(81,.cv (.ro .Dd a8)),(82,.I (a8.length:Int)),(83,.I (IntKind.i64.wrap (d+1)))],[(36500,.raw [.I 0,.I 0,.str [],.I 0])]⟩) ?_;exact ⟨k,Nat.lt_succ_self k,_,rfl,h⟩
  refine fF c11 <| Xr (Xn.trans (Xn.kk [2] [36500]) (Xn.rr [(36500,36400)])) ?_;refine ex (S':=⟨[(2,.P 36400)],[(36400,.raw [.I 0,.I 0,.str [],.I 0])]⟩) ?_;cases h;exact .inl ⟨rfl,rfl,rfl⟩
 ·rintro e S (⟨rfl,rfl,rfl⟩ |⟨rfl,a,rfl,hr⟩)
  ·rcases h with ⟨_,e1,h⟩ |⟨_,e1,h⟩
   ·cases e1
   ·have e2:=X3.go.inj e1;subst e2;refine ⟨_,Xn.refl,?_⟩;refine Xy L 355 <| Xr (Xn.trans (Xn.kk [2,3,4] [36400]) (Xn.rr [(36400,100)])) ?_;refine Xq ?_;cases h;exact X7
  ·rcases h with ⟨_,e1,h⟩ |⟨_,e1,h⟩
   ·have e2:=X3.done.inj e1;subst e2;subst h;exact ⟨_,Xn.refl,hr⟩
   ·cases e1
theorem C7.ok {K:Nat} {p0:List UInt8} {r:Ar×Int×Int} (h:C7 K p0=some r):X6 V P 79 [.cv (.str p0)] (.tup [.agg [.I r.1.Kind,.I r.1.At,.str r.1.Text,.I r.1.Int],.I r.2.1,.I r.2.2]):=Xz.pcall (eo (fn:=Tryz.f79) (n:=106) (m:=100) fun Γ=>C7.body h) (by kernel_rfl)
def C8.l17 (K:Nat) (p0:List UInt8):Nat→Int→(List Ar)→Option (X3 ((List Ar)×Int×Int) (List Ar))
 | 0,_,_=>none
 | k+1,a,b=>(if a <(p0.length:Int) then (if (0:Int)≤a∧(a:Int) <(p0.length:Int) then (if ((p0.getD (Int.toNat a) 0).toNat:Int)=32 then C8.l17 K p0 k (IntKind.i64.wrap (a+1)) b else (if ((p0.getD (Int.toNat a) 0).toNat:Int)=9 then C8.l17 K p0 k (IntKind.i64.wrap (a+1)) b else (if ((p0.getD (Int.toNat a) 0).toNat:Int)=10 then C8.l17 K p0 k (IntKind.i64.wrap (a+1)) b else (if a≤(p0.length:Int) then (Option.bind (C7 K (slc p0 a (p0.length:Int))) (fun (c,e,d)=>(if d≠0 then some (X3.done (([]:List Ar),a,d)) else (if (b.length+([(⟨c.Kind,a,c.Text,c.Int⟩:Ar)]:List Ar).length) * 40≤140737488355328 then C8.l17 K p0 k (IntKind.i64.wrap (a+e)) (b++([(⟨c.Kind,a,c.Text,c.Int⟩:Ar)]:List Ar)) else none)))) else none)))) else none) else some (X3.go b))
def C8 (K:Nat) (p0:List UInt8):Option ((List Ar)×Int×Int):=(if (p0.length:Int) > 16384 then some (([]:List Ar),0,6) else (obind (C8.l17 K p0 K 0 ([]:List Ar):Option (X3 ((List Ar)×Int×Int) (List Ar))) (fun r=>r) (fun a=>(if (a.length+([(⟨0,(p0.length:Int),[],0⟩:Ar)]:List Ar).length) * 40≤140737488355328 then some ((a++([(⟨0,(p0.length:Int),[],0⟩:Ar)]:List Ar)),0,0) else none))))
theorem C8.body {Γ:Yg} {K:Nat} {p0:List UInt8} {r:(List Ar)×Int×Int} (h:C8 K p0=some r):Yc V P 63 100 Γ (Tryz.f52.body.getD .skip) (X1 P V Tryz.f52 (.tup [.cv (.ro .Ao r.1),.I r.2.1,.I r.2.2]) []) ⟨X0 0 [.cv (.str p0)],[]⟩:=by
 unfold C8 at h;refine Xy L 200 <| Xo <| Xy L 204 ?_;rcases Xp h with ⟨c1,h⟩ |⟨c1,h⟩
 ·refine tT c1 <| Xy L 208 <| Xq ?_;cases h;exact X7
 refine fF c1 <| Xu <| Xy L 212 <| Xy L 214 <| Xo <| Xw <| Xr (Xn.trans (Xn.kk [0,5,6] []) (Xn.trans (Xn.no 5 9500 Tag.Ao) (Xn.trans (Xn.kk [0,5,6] [9500]) (Xn.rr [(9500,23500)])))) ?_;refine kp (S':=⟨[(0,.cv (.str p0)),(5,.cv (.own .Ao 23500)),(6,.I 0)],[(23500,.lst .Ao ([]:List Ar))]⟩) ?_;obtain ⟨o1,hp1,h⟩:=X9 h;refine X4 (Q':=fun e S=>(e=.exit 0∧∃ f:List Ar,S=⟨[(0,.cv (.str p0)),(5,.cv (.own .Ao 23400))],[(23400,.lst .Ao f)]⟩∧X3.go f=o1)∨(e=.ret∧∃ a,X3.done a=o1∧X1 P V Tryz.f52 (.tup [.cv (.ro .Ao a.1),.I a.2.1,.I a.2.2]) [] .ret S)) (Yb (fun k S=>∃ c:Int,∃ d:List Ar,S=⟨[(0,.cv (.str p0)),(5,.cv (.own .Ao 23500)),(6,.I c)],[(23500,.lst .Ao d)]⟩∧C8.l17 K p0 k c d=some o1) ?_ ⟨_,_,rfl,hp1⟩) ?_
 ·clear h hp1;intro k S hS;obtain ⟨c,d,rfl,h⟩:=hS;cases k with
  | zero=>cases h
  | succ k =>
  unfold C8.l17 at h;refine Xo <| Xy L 216 ?_;rcases Xp h with ⟨c2,h⟩ |⟨c2,h⟩
  ·refine tT c2 <| Xu <| Xw <| Xo <| Xo ?_;obtain ⟨g1,h⟩:=Xv h;rcases Xp h with ⟨c3,h⟩ |⟨c3,h⟩
   ·refine rg L 221 [(4,true)] [] [] (Xt g1.1 (Xt g1.2 (Xx (decide_eq_true c3)))) ?_;refine tt (b:=true) (rfl) ?_;refine Xy L 238 <| ex (S':=⟨[(0,.cv (.str p0)),(5,.cv (.own .Ao 23500)),(6,.I (IntKind.i64.wrap (c+1)))],[(23500,.lst .Ao d)]⟩) ?_;exact ⟨k,Nat.lt_succ_self k,_,_,rfl,h⟩
   rcases Xp h with ⟨c4,h⟩ |⟨c4,h⟩
   ·refine rg L 221 [(4,false),(10,true)] [] [] (Xt g1.1 (Xt g1.2 (Xt (decide_eq_false c3) (Xt g1.1 (Xt g1.2 (Xx (decide_eq_true c4))))))) ?_;refine tt (b:=true) (rfl) ?_;refine Xy L 238 <| ex (S':=⟨[(0,.cv (.str p0)),(5,.cv (.own .Ao 23500)),(6,.I (IntKind.i64.wrap (c+1)))],[(23500,.lst .Ao d)]⟩) ?_;exact ⟨k,Nat.lt_succ_self k,_,_,rfl,h⟩
   refine rg L 221 [(4,false),(10,false)] [] [] (Xt g1.1 (Xt g1.2 (Xt (decide_eq_false c3) (Xt g1.1 (Xt g1.2 (Xt (decide_eq_false c4) (Xt g1.1 (Xx g1.2)))))))) ?_;rcases Xp h with ⟨c5,h⟩ |⟨c5,h⟩
   ·refine tT c5 <| Xy L 238 <| ex (S':=⟨[(0,.cv (.str p0)),(5,.cv (.own .Ao 23500)),(6,.I (IntKind.i64.wrap (c+1)))],[(23500,.lst .Ao d)]⟩) ?_;exact ⟨k,Nat.lt_succ_self k,_,_,rfl,h⟩
   refine fF c5 <| Xu <| Xo ?_;obtain ⟨g2,h⟩:=Xv h;obtain ⟨⟨g,i,j⟩,h1,h⟩:=bind_some h;dsimp only at h;refine rg L 242 [] [(3,.tup [.agg (Eg g),.I i,.I j])] [] (Xt g1.1 (Xt g2 (Xt (show (p0.length:Int)≤(p0.length:Int) from Int.le_refl _) (Xt (C7.ok h1) (Xx trivial))))) ?_;refine Xo <| Xy L 255 ?_;rcases Xp h with ⟨c6,h⟩ |⟨c6,h⟩
   ·refine tT c6 <| Xy L 258 <| Xq ?_;cases h;exact .inr ⟨rfl,_,rfl,X7⟩
   refine fF c6 <| Xu <| Xy L 264 <| Xo ?_;obtain ⟨g3,h⟩:=Xv h;refine rg L 268 [] [] [] (Yw g3) ?_;refine ar0 L 274 [] [] [] (S':=⟨[(0,.cv (.str p0)),(5,.cv (.own .Ao 23500)),(6,.I (IntKind.i64.wrap (c+i)))],[(23500,.lst .Ao (d++([(⟨g.Kind,c,g.Text,g.Int⟩:Ar)]:List Ar)))]⟩) ?_;exact ⟨k,Nat.lt_succ_self k,_,_,rfl,h⟩
  refine fF c2 <| Xr (Xn.trans (Xn.kk [0,5] [23500]) (Xn.rr [(23500,23400)])) ?_;refine ex (S':=⟨[(0,.cv (.str p0)),(5,.cv (.own .Ao 23400))],[(23400,.lst .Ao d)]⟩) ?_;cases h;exact .inl ⟨rfl,_,rfl,rfl⟩
 ·rintro e S (⟨rfl,f,rfl,rfl⟩ |⟨rfl,a,rfl,hr⟩)
  ·rcases h with ⟨_,e1,h⟩ |⟨_,e1,h⟩
   ·cases e1
   ·have e2:=X3.go.inj e1;subst e2;refine ⟨_,Xn.refl,?_⟩;refine Xo ?_;obtain ⟨g4,h⟩:=Xv h;refine rg L 279 [] [] [] (Yw g4) ?_;refine Xy L 287 <| Xr (Xn.trans (Xn.kk [2,3,4] [23400]) (Xn.fz 23400)) ?_;refine Xq ?_;cases h;exact X7
  ·rcases h with ⟨_,e1,h⟩ |⟨_,e1,h⟩
   ·have e2:=X3.done.inj e1;subst e2;subst h;exact ⟨_,Xn.refl,hr⟩
   ·cases e1
theorem C8.ok {K:Nat} {p0:List UInt8} {r:(List Ar)×Int×Int} (h:C8 K p0=some r):X6 V P 52 [.cv (.str p0)] (.tup [.cv (.ro .Ao r.1),.I r.2.1,.I r.2.2]):=Xz.pcall (eo (fn:=Tryz.f52) (n:=63) (m:=100) fun Γ=>C8.body h) (by kernel_rfl)
def A4 (K:Nat) (p0:Ad) (p1:Int):Option Bool:=(if p0.bad=true then some false else (if (0:Int)≤p0.at_∧(p0.at_:Int) <(p0.l.length:Int) then some (decide ((p0.l.getD (Int.toNat p0.at_) Dp).Kind=p1)) else none))
theorem A4.body {Γ:Yg} {K:Nat} {p0:Ad} {p1:Int} {r:Bool} (h:A4 K p0 p1=some r):Yc V P 25 100 Γ (Tryz.f55.body.getD .skip) (X1 P V Tryz.f55 (.B r) []) ⟨X0 0 [.cv (.pcs (Ac p0) 0),.I p1],[]⟩:=by
 unfold A4 at h;refine Xy L 200 <| Xo ?_;rcases Xp h with ⟨c1,h⟩ |⟨c1,h⟩
 ·refine rd L mixed 202 [(5,false)] [] [] [] 21 (Xx (show (!p0.bad)=false from congrArg Bool.not (c1))) ?_;refine Xq ?_;cases h;exact X7
 obtain ⟨g1,h⟩:=Xv h;refine rd L mixed 202 [(5,true)] [] [] [] 21 (Xt (show (!p0.bad)=true from congrArg Bool.not (eq_false_of_ne_true c1)) (Xt g1.1 (Xx g1.2))) ?_;refine Xq ?_;cases h;exact X7
theorem A4.ok {K:Nat} {p0:Ad} {p1:Int} {r:Bool} (h:A4 K p0 p1=some r):X6 V P 55 [.cv (.pcs (Ac p0) 0),.I p1] (.B r):=Xz.pcall (eo (fn:=Tryz.f55) (n:=25) (m:=100) fun Γ=>A4.body h) (by kernel_rfl)
def B2 (K:Nat) (p0:Ad) (p1:List UInt8):Option Bool:=(if (0:Int)≤p0.at_∧(p0.at_:Int) <(p0.l.length:Int) then (if p0.bad=true then some false else (if (p0.l.getD (Int.toNat p0.at_) Dp).Kind=5 then some (decide ((p0.l.getD (Int.toNat p0.at_) Dp).Text=p1)) else (if (p0.l.getD (Int.toNat p0.at_) Dp).Kind=2 then some (decide ((p0.l.getD (Int.toNat p0.at_) Dp).Text=p1)) else some false))) else none)
theorem B2.body {Γ:Yg} {K:Nat} {p0:Ad} {p1:List UInt8} {r:Bool} (h:B2 K p0 p1=some r):Yc V P 37 100 Γ (Tryz.f114.body.getD .skip) (X1 P V Tryz.f114 (.B r) []) ⟨X0 0 [.cv (.pcs (Ac p0) 0),.cv (.str p1)],[]⟩:=by
 unfold B2 at h;refine Xy L 200 <| Xo ?_;obtain ⟨g1,h⟩:=Xv h;refine rd L mixed 202 [] [] [] [212] 12 (Zb g1.1 g1.2) ?_;refine Xo ?_;rcases Xp h with ⟨c1,h⟩ |⟨c1,h⟩
 ·refine rg L 215 [(5,false)] [] [] (Xx (show (!p0.bad)=false from congrArg Bool.not (c1))) ?_;refine Xq ?_;cases h;exact X7
 rcases Xp h with ⟨c2,h⟩ |⟨c2,h⟩
 ·refine rg L 215 [(5,true),(9,true)] [] [] (Zb (show (!p0.bad)=true from congrArg Bool.not (eq_false_of_ne_true c1)) (decide_eq_true c2)) ?_;refine Xq ?_;cases h;exact X7
 rcases Xp h with ⟨c3,h⟩ |⟨c3,h⟩
 ·refine rg L 215 [(5,true),(9,false),(15,true)] [] [] (Xt (show (!p0.bad)=true from congrArg Bool.not (eq_false_of_ne_true c1)) (Xt (decide_eq_false c2) (Xx (decide_eq_true c3)))) ?_;refine Xq ?_;cases h;exact X7
 refine rg L 215 [(5,true),(9,false),(15,false)] [] [] (Xt (show (!p0.bad)=true from congrArg Bool.not (eq_false_of_ne_true c1)) (Xt (decide_eq_false c2) (Xx (decide_eq_false c3)))) ?_;refine Xq ?_;cases h;exact X7
theorem B2.ok {K:Nat} {p0:Ad} {p1:List UInt8} {r:Bool} (h:B2 K p0 p1=some r):X6 V P 114 [.cv (.pcs (Ac p0) 0),.cv (.str p1)] (.B r):=Xz.pcall (eo (fn:=Tryz.f114) (n:=37) (m:=100) fun Γ=>B2.body h) (by kernel_rfl)
def Ag (K:Nat) (p0:List UInt8) (p1:Ad):Option (Bool×Ad):=(Option.bind (B2 K p1 p0) (fun a1=>(if a1=true then some (true,(⟨p1.l,(IntKind.i64.wrap (p1.at_+1)),p1.bad⟩:Ad)) else some (false,p1))))
theorem Ag.body {Γ:Yg} {K:Nat} {p0:List UInt8} {p1:Ad} {r:Bool×Ad} (h:Ag K p0 p1=some r):Yc V P 16 100 Γ (Tryz.f80.body.getD .skip) (X1 P V Tryz.f80 (.B r.1) [(0,.raw [.ro .Ao r.2.l,.I r.2.at_,.B r.2.bad])]) ⟨X0 0 [.P 0,.cv (.str p0)],[(0,.raw (Ac p1))]⟩:=by
 unfold Ag at h;refine Xy L 200 <| Xo <| Xo ?_;obtain ⟨a1,h1,h⟩:=bind_some h;refine rg L 202 [] [(2,.B a1)] [] (Yw (B2.ok h1)) ?_;rcases Xp h with ⟨c1,h⟩ |⟨c1,h⟩
 ·refine ff (b:=(!a1)) (congrArg Bool.not (c1)) ?_;refine Xu <| Xy L 209 <| Xy L 218 <| Xq ?_;cases h;exact X7
 refine tt (b:=(!a1)) (congrArg Bool.not (eq_false_of_ne_true c1)) ?_;refine Xy L 207 <| Xq ?_;cases h;exact X7
theorem Ag.okE {K:Nat} {p0:List UInt8} {p1:Ad} {r:Bool×Ad} (h:Ag K p0 p1=some r):Xz V P 80 [.P 0,.cv (.str p0)] [(0,.raw (Ac p1))] [0] (.B r.1) [(0,.raw [.ro .Ao r.2.l,.I r.2.at_,.B r.2.bad])] :=
 eo (fn:=Tryz.f80) (n:=16) (m:=100) fun Γ=>Ag.body h
def A1 (K:Nat) (p0:Ad):Option ((List UInt8)×Ad):=(Option.bind (A4 K p0 1) (fun a1=>(if a1=true then (if (0:Int)≤(IntKind.i64.wrap ((IntKind.i64.wrap (p0.at_+1)) - 1))∧((IntKind.i64.wrap ((IntKind.i64.wrap (p0.at_+1)) - 1)):Int) <(p0.l.length:Int) then some ((((p0.l.getD (Int.toNat (IntKind.i64.wrap ((IntKind.i64.wrap (p0.at_+1)) - 1))) Dp)).Text,(⟨p0.l,(IntKind.i64.wrap (p0.at_+1)),p0.bad⟩:Ad))) else none) else some (([]:List UInt8),(⟨p0.l,p0.at_,true⟩:Ad)))))
theorem A1.body {Γ:Yg} {K:Nat} {p0:Ad} {r:(List UInt8)×Ad} (h:A1 K p0=some r):Yc V P 28 100 Γ (Tryz.f81.body.getD .skip) (X1 P V Tryz.f81 (.cv (.str r.1)) [(0,.raw [.ro .Ao r.2.l,.I r.2.at_,.B r.2.bad])]) ⟨X0 0 [.P 0],[(0,.raw (Ac p0))]⟩:=by
 unfold A1 at h;refine Xy L 200 <| Xo <| Xo ?_;obtain ⟨a1,h1,h⟩:=bind_some h;refine rg L 202 [] [(1,.B a1)] [] (Yw (A4.ok h1)) ?_;rcases Xp h with ⟨c1,h⟩ |⟨c1,h⟩
 ·refine ff (b:=(!a1)) (congrArg Bool.not (c1)) ?_;refine Xu <| Xy L 213 <| Xo ?_;obtain ⟨g1,h⟩:=Xv h;refine rd L mixed 222 [] [] [] [] 13 (Zb g1.1 g1.2) ?_;refine Xq ?_;cases h;exact X7
 refine tt (b:=(!a1)) (congrArg Bool.not (eq_false_of_ne_true c1)) ?_;refine Xy L 206 <| Xy L 211 <| Xq ?_;cases h;exact X7
theorem A1.okE {K:Nat} {p0:Ad} {r:(List UInt8)×Ad} (h:A1 K p0=some r):Xz V P 81 [.P 0] [(0,.raw (Ac p0))] [0] (.cv (.str r.1)) [(0,.raw [.ro .Ao r.2.l,.I r.2.at_,.B r.2.bad])] :=
 eo (fn:=Tryz.f81) (n:=28) (m:=100) fun Γ=>A1.body h
def Aq (K:Nat) (p0:List UInt8) (p1:Ad):Option Ad:=(Option.bind (Ag K p0 p1) (fun (b,a)=>(if b=true then some a else some (⟨a.l,a.at_,true⟩:Ad))))
theorem Aq.body {Γ:Yg} {K:Nat} {p0:List UInt8} {p1:Ad} {r:Ad} (h:Aq K p0 p1=some r):Yc V P 11 100 Γ (Tryz.f82.body.getD .skip) (X1 P V Tryz.f82 (.tup []) [(0,.raw [.ro .Ao r.l,.I r.at_,.B r.bad])]) ⟨X0 0 [.P 0,.cv (.str p0)],[(0,.raw (Ac p1))]⟩:=by
 unfold Aq at h;refine Xo ?_;obtain ⟨⟨c,a⟩,h1,h⟩:=bind_some h;dsimp only at h;refine rg L 200 [] [] [(2,(X5 (.B c) [(0,.raw (Ac a))]))] (Xx (Ag.okE h1)) ?_;rcases Xp h with ⟨c1,h⟩ |⟨c1,h⟩
 ·refine ff (b:=(!c)) (congrArg Bool.not (c1)) ?_;refine sk (S':=⟨[],[(0,.raw (Ac a))]⟩) ?_;cases h;exact en0
 refine tt (b:=(!c)) (congrArg Bool.not (eq_false_of_ne_true c1)) ?_;refine ar0 L 205 [] [] [] (S':=⟨[],[(0,.raw [.ro .Ao a.l,.I a.at_,.B true])]⟩) ?_;cases h;exact en0
theorem Aq.okE {K:Nat} {p0:List UInt8} {p1:Ad} {r:Ad} (h:Aq K p0 p1=some r):Xz V P 82 [.P 0,.cv (.str p0)] [(0,.raw (Ac p1))] [0] (.tup []) [(0,.raw [.ro .Ao r.l,.I r.at_,.B r.bad])] :=
 eo (fn:=Tryz.f82) (n:=11) (m:=100) fun Γ=>Aq.body h
def B5 (K:Nat) (p0:Int) (p1:Aa):Option Aa:=some (⟨p0,[],0,[],([(⟨p1.Op,p1.Name,p1.Int,p1.Text,p1.Kids⟩:Aa)]:List Aa)⟩:Aa)
theorem B5.body {Γ:Yg} {K:Nat} {p0:Int} {p1:Aa} {r:Aa} (h:B5 K p0 p1=some r):Yc V P 9 100 Γ (Tryz.f83.body.getD .skip) (X1 P V Tryz.f83 (.agg [.I r.Op,.str r.Name,.I r.Int,.str r.Text,.ro .Ae r.Kids]) []) ⟨X0 0 [.I p0,.agg (Aj p1)],[]⟩:=by
 unfold B5 at h;refine Xy L 200 <| Xy L 203 <| Xr (Xn.trans (Xn.kk [4] [201]) (Xn.rr [(201,100)])) ?_;refine Xq ?_;cases h;exact X7
theorem B5.ok {K:Nat} {p0:Int} {p1:Aa} {r:Aa} (h:B5 K p0 p1=some r):X6 V P 83 [.I p0,.agg (Aj p1)] (.agg [.I r.Op,.str r.Name,.I r.Int,.str r.Text,.ro .Ae r.Kids]):=Xz.pcall (eo (fn:=Tryz.f83) (n:=9) (m:=100) fun Γ=>B5.body h) (by kernel_rfl)
def A5 (K:Nat) (p0:Int) (p1:Aa) (p2:Aa):Option Aa:=some (⟨p0,[],0,[],([(⟨p1.Op,p1.Name,p1.Int,p1.Text,p1.Kids⟩:Aa),(⟨p2.Op,p2.Name,p2.Int,p2.Text,p2.Kids⟩:Aa)]:List Aa)⟩:Aa)
theorem A5.body {Γ:Yg} {K:Nat} {p0:Int} {p1:Aa} {p2:Aa} {r:Aa} (h:A5 K p0 p1 p2=some r):Yc V P 12 100 Γ (Tryz.f89.body.getD .skip) (X1 P V Tryz.f89 (.agg [.I r.Op,.str r.Name,.I r.Int,.str r.Text,.ro .Ae r.Kids]) []) ⟨X0 0 [.I p0,.agg (Aj p1),.agg (Aj p2)],[]⟩:=by
 unfold A5 at h;refine Xy L 200 <| Xy L 204 <| Xr (Xn.trans (Xn.kk [6] [202]) (Xn.rr [(202,100)])) ?_;refine Xq ?_;cases h;exact X7
theorem A5.ok {K:Nat} {p0:Int} {p1:Aa} {p2:Aa} {r:Aa} (h:A5 K p0 p1 p2=some r):X6 V P 89 [.I p0,.agg (Aj p1),.agg (Aj p2)] (.agg [.I r.Op,.str r.Name,.I r.Int,.str r.Text,.ro .Ae r.Kids]):=Xz.pcall (eo (fn:=Tryz.f89) (n:=12) (m:=100) fun Γ=>A5.body h) (by kernel_rfl)
structure Ah where
 Aw:Ad→Option (Aa×Ad)
 A7:Ad→Option (Aa×Ad)
 A3:Ad→Option (Aa×Ad)
 Ax:Ad→Option (Aa×Ad)
 Bj:Ad→Option (Aa×Ad)
 Al:Ad→Option (Aa×Ad)
 A8:(List UInt8)→Ad→Option ((List Aa)×Ad)
 Be:Ad→Option ((List Aa)×Ad)
 Ba:Ad→Option (Aa×Ad)
structure Ah.Ok (R:Ah):Prop where
 Aw:∀ {p0:Ad} {r:Aa×Ad},R.Aw p0=some r→Xz V P 153 [.P 0] [(0,.raw (Ac p0))] [0] (.agg [.I r.1.Op,.str r.1.Name,.I r.1.Int,.str r.1.Text,.ro .Ae r.1.Kids]) [(0,.raw [.ro .Ao r.2.l,.I r.2.at_,.B r.2.bad])]
 A7:∀ {p0:Ad} {r:Aa×Ad},R.A7 p0=some r→Xz V P 144 [.P 0] [(0,.raw (Ac p0))] [0] (.agg [.I r.1.Op,.str r.1.Name,.I r.1.Int,.str r.1.Text,.ro .Ae r.1.Kids]) [(0,.raw [.ro .Ao r.2.l,.I r.2.at_,.B r.2.bad])]
 A3:∀ {p0:Ad} {r:Aa×Ad},R.A3 p0=some r→Xz V P 132 [.P 0] [(0,.raw (Ac p0))] [0] (.agg [.I r.1.Op,.str r.1.Name,.I r.1.Int,.str r.1.Text,.ro .Ae r.1.Kids]) [(0,.raw [.ro .Ao r.2.l,.I r.2.at_,.B r.2.bad])]
 Ax:∀ {p0:Ad} {r:Aa×Ad},R.Ax p0=some r→Xz V P 117 [.P 0] [(0,.raw (Ac p0))] [0] (.agg [.I r.1.Op,.str r.1.Name,.I r.1.Int,.str r.1.Text,.ro .Ae r.1.Kids]) [(0,.raw [.ro .Ao r.2.l,.I r.2.at_,.B r.2.bad])]
 Bj:∀ {p0:Ad} {r:Aa×Ad},R.Bj p0=some r→Xz V P 88 [.P 0] [(0,.raw (Ac p0))] [0] (.agg [.I r.1.Op,.str r.1.Name,.I r.1.Int,.str r.1.Text,.ro .Ae r.1.Kids]) [(0,.raw [.ro .Ao r.2.l,.I r.2.at_,.B r.2.bad])]
 Al:∀ {p0:Ad} {r:Aa×Ad},R.Al p0=some r→Xz V P 54 [.P 0] [(0,.raw (Ac p0))] [0] (.agg [.I r.1.Op,.str r.1.Name,.I r.1.Int,.str r.1.Text,.ro .Ae r.1.Kids]) [(0,.raw [.ro .Ao r.2.l,.I r.2.at_,.B r.2.bad])]
 A8:∀ {p0:List UInt8} {p1:Ad} {r:(List Aa)×Ad},R.A8 p0 p1=some r→Xz V P 129 [.P 0,.cv (.str p0)] [(0,.raw (Ac p1))] [0] (.cv (.ro .Ae r.1)) [(0,.raw [.ro .Ao r.2.l,.I r.2.at_,.B r.2.bad])]
 Be:∀ {p0:Ad} {r:(List Aa)×Ad},R.Be p0=some r→Xz V P 130 [.P 0] [(0,.raw (Ac p0))] [0] (.cv (.ro .Ae r.1)) [(0,.raw [.ro .Ao r.2.l,.I r.2.at_,.B r.2.bad])]
 Ba:∀ {p0:Ad} {r:Aa×Ad},R.Ba p0=some r→Xz V P 115 [.P 0] [(0,.raw (Ac p0))] [0] (.agg [.I r.1.Op,.str r.1.Name,.I r.1.Int,.str r.1.Text,.ro .Ae r.1.Kids]) [(0,.raw [.ro .Ao r.2.l,.I r.2.at_,.B r.2.bad])]
def Aw.l34 (K:Nat) (R:Ah):Nat→(List Ar)→Int→Bool→Int→(List UInt8)→Int→(List UInt8)→(List Aa)→Option (X3 (Aa×Ad) Unit)
 | 0,_,_,_,_,_,_,_,_=>none
 | k+1,f,g,h,a,b,c,d,e=>(Option.bind (Ag K ([46]:List UInt8) (⟨f,g,h⟩:Ad)) (fun (n,j)=>(if n=true then (Option.bind (B5 K 29 (⟨a,b,c,d,e⟩:Aa)) (fun a13=>(Option.bind (A1 K j) (fun (o,i)=>Aw.l34 K R k i.l i.at_ i.bad a13.Op o a13.Int a13.Text a13.Kids)))) else (Option.bind (Ag K ([91]:List UInt8) j) (fun (p,m)=>(if p=true then (Option.bind (R.Al m) (fun (q,r)=>(Option.bind (A5 K 28 (⟨a,b,c,d,e⟩:Aa) q) (fun a17=>(Option.bind (Aq K ([93]:List UInt8) r) (fun a18=>Aw.l34 K R k a18.l a18.at_ a18.bad a17.Op a17.Name a17.Int a17.Text a17.Kids)))))) else some (X3.done ((⟨a,b,c,d,e⟩:Aa),m))))))))
def Aw.F (K:Nat) (R:Ah) (p0:Ad):Option (Aa×Ad):=(Option.bind (Ag K ([45]:List UInt8) p0) (fun (h,c)=>(if h=true then (Option.bind (R.Aw c) (fun (i,j)=>(Option.bind (B5 K 14 i) (fun a3=>some (a3,j))))) else (Option.bind (Ag K ([97,119,97,105,116]:List UInt8) c) (fun (k,d)=>(if k=true then (Option.bind (R.Aw d) (fun (m,n)=>(Option.bind (B5 K 12 m) (fun a6=>some (a6,n))))) else (Option.bind (Ag K ([103,111]:List UInt8) d) (fun (o,e)=>(if o=true then (Option.bind (A1 K e) (fun (p,q)=>(Option.bind (Aq K ([40]:List UInt8) q) (fun a9=>(Option.bind (R.A8 ([41]:List UInt8) a9) (fun (f,g)=>some ((⟨11,p,0,[],f⟩:Aa),g))))))) else (Option.bind (R.Ba e) (fun (a,b)=>(obind (Aw.l34 K R K b.l b.at_ b.bad a.Op a.Name a.Int a.Text a.Kids:Option (X3 (Aa×Ad) Unit)) (fun r=>r) (fun _=>none)))))))))))))
theorem Aw.body {Γ:Yg} {K:Nat} {R:Ah} (hR:R.Ok) {p0:Ad} {r:Aa×Ad} (h:Aw.F K R p0=some r):Yc V P 43 100 Γ (Tryz.f153.body.getD .skip) (X1 P V Tryz.f153 (.agg [.I r.1.Op,.str r.1.Name,.I r.1.Int,.str r.1.Text,.ro .Ae r.1.Kids]) [(0,.raw [.ro .Ao r.2.l,.I r.2.at_,.B r.2.bad])]) ⟨X0 0 [.P 0],[(0,.raw (Ac p0))]⟩:=by
 unfold Aw.F at h;refine Xy L 200 <| Xo <| Xo ?_;obtain ⟨⟨aa,ab⟩,h1,h⟩:=bind_some h;dsimp only at h;refine rg L 202 [] [] [(1,(X5 (.B aa) [(0,.raw (Ac ab))]))] (Xx (Ag.okE h1)) ?_;rcases Xp h with ⟨c1,h⟩ |⟨c1,h⟩
 ·refine tt c1 <| Xo ?_;obtain ⟨⟨ad,ae⟩,h2,h⟩:=bind_some h;dsimp only at h;obtain ⟨a3,h3,h⟩:=bind_some h;refine rg L 205 [] [(2,.agg (Aj a3))] [(1,(X5 (.agg (Aj ad)) [(0,.raw (Ac ae))]))] (Xt (hR.Aw h2) (Xt (B5.ok h3) (Xx trivial))) ?_;refine Xr (Xn.trans (Xn.kk [2] [0,200]) (Xn.rr [(0,0),(200,100)])) ?_;refine Xq ?_;cases h;exact X7
 refine fN c1 <| Xu <| Xo <| Xo ?_;obtain ⟨⟨af,ag⟩,h4,h⟩:=bind_some h;dsimp only at h;refine rg L 210 [] [] [(1,(X5 (.B af) [(0,.raw (Ac ag))]))] (Xx (Ag.okE h4)) ?_;rcases Xp h with ⟨c2,h⟩ |⟨c2,h⟩
 ·refine tt c2 <| Xo ?_;obtain ⟨⟨ah,ai⟩,h5,h⟩:=bind_some h;dsimp only at h;obtain ⟨a6,h6,h⟩:=bind_some h;refine rg L 213 [] [(2,.agg (Aj a6))] [(1,(X5 (.agg (Aj ah)) [(0,.raw (Ac ai))]))] (Xt (hR.Aw h5) (Xt (B5.ok h6) (Xx trivial))) ?_;refine Xr (Xn.trans (Xn.kk [2] [0,200]) (Xn.rr [(0,0),(200,100)])) ?_;refine Xq ?_;cases h;exact X7
 refine fN c2 <| Xu <| Xo <| Xo ?_;obtain ⟨⟨aj,ak⟩,h7,h⟩:=bind_some h;dsimp only at h;refine rg L 218 [] [] [(1,(X5 (.B aj) [(0,.raw (Ac ak))]))] (Xx (Ag.okE h7)) ?_;rcases Xp h with ⟨c3,h⟩ |⟨c3,h⟩
 ·refine tt c3 <| Xo ?_;obtain ⟨⟨al,am⟩,h8,h⟩:=bind_some h;dsimp only at h;refine rg L 221 [] [] [(1,(X5 (.cv (.str al)) [(0,.raw (Ac am))]))] (Xx (A1.okE h8)) ?_;refine Xo ?_;obtain ⟨a9,h9,h⟩:=bind_some h;refine rg L 225 [] [] [(1,(X5 (.tup []) [(0,.raw (Ac a9))]))] (Xx (Aq.okE h9)) ?_;refine Xo ?_;obtain ⟨⟨u,v⟩,h10,h⟩:=bind_some h;dsimp only at h;refine rg L 228 [] [] [(2,(X5 (.cv (.ro .Ae u)) [(0,.raw (Ac v))]))] (Xx (hR.A8 h10)) ?_;refine Xr (Xn.trans (Xn.kk [2] [0,200]) (Xn.rr [(0,0),(200,100)])) ?_;refine Xq ?_;cases h;exact X7
 refine fN c3 <| Xu <| Xo ?_;obtain ⟨⟨q,s⟩,h11,h⟩:=bind_some h;dsimp only at h;refine rg L 234 [] [] [(1,(X5 (.agg (Aj q)) [(0,.raw (Ac s))]))] (Xx (hR.Ba h11)) ?_;refine Xw <| Xr (Xn.trans (Xn.kk [0,2,4] [0,200,236]) (Xn.rr [(0,0),(200,26900),(236,26901)])) ?_;refine kp (S':=⟨[(0,.P 0),(2,.P 26900),(4,.P 26901)],[(0,.raw (Ac s)),(26900,.raw [.I 0,.str [],.I 0,.str [],.N]),(26901,.raw (Aj q))]⟩) ?_;obtain ⟨o1,hp1,h⟩:=X9 h;refine X4 (Q':=fun e S=>False∨(e=.ret∧∃ a,X3.done a=o1∧X1 P V Tryz.f153 (.agg [.I a.1.Op,.str a.1.Name,.I a.1.Int,.str a.1.Text,.ro .Ae a.1.Kids]) [(0,.raw [.ro .Ao a.2.l,.I a.2.at_,.B a.2.bad])] .ret S)) (Yb (fun k S=>∃ b:List Ar,∃ c:Int,∃ d:Bool,∃ f:Int,∃ g:List UInt8,∃ i:Int,∃ j:List UInt8,∃ m:List Aa,S=⟨[(0,.P 0),(2,.P 26900),(4,.P 26901)],[(0,.raw [.ro .Ao b,.I c,.B d]),(26900,.raw [.I 0,.str [],.I 0,.str [],.N]),(26901,.raw [.I f,.str g,.I i,.str j,.ro .Ae m])]⟩∧Aw.l34 K R k b c d f g i j m=some o1) ?_ ⟨_,_,_,_,_,_,_,_,rfl,hp1⟩) ?_
 ·clear h hp1;intro k S hS;obtain ⟨b,c,d,f,g,i,j,m,rfl,h⟩:=hS;cases k with
  | zero=>cases h
  | succ k =>
  unfold Aw.l34 at h;refine Xw <| Xo ?_;obtain ⟨⟨w,t⟩,h12,h⟩:=bind_some h;dsimp only at h;refine rg L 239 [] [] [(1,(X5 (.B w) [(0,.raw (Ac t))]))] (Xx (Ag.okE h12)) ?_;rcases Xp h with ⟨c4,h⟩ |⟨c4,h⟩
  ·refine tt c4 <| Xo ?_;obtain ⟨a13,h13,h⟩:=bind_some h;refine rg L 242 [] [(1,.agg (Aj a13))] [] (Yw (B5.ok h13)) ?_;obtain ⟨⟨n,o⟩,h14,h⟩:=bind_some h;dsimp only at h;refine ar L 246 [] [] [(1,(X5 (.cv (.str n)) [(0,.raw (Ac o))]))] (cs:=[Xz V P 81 [.P 0] [(0,.raw (Ac t))] [0] (.cv (.str n)) [(0,.raw (Ac o))]]) (S':=⟨[(0,.P 0),(2,.P 26900),(4,.P 26901)],[(0,.raw (Ac o)),(26900,.raw [.I 0,.str [],.I 0,.str [],.N]),(26901,.raw [.I a13.Op,.str n,.I a13.Int,.str a13.Text,.ro .Ae a13.Kids])]⟩) (A1.okE h14) ?_;exact ⟨k,Nat.lt_succ_self k,_,_,_,_,_,_,_,_,rfl,h⟩
  refine fN c4 <| Xo ?_;obtain ⟨⟨x,y⟩,h15,h⟩:=bind_some h;dsimp only at h;refine rg L 251 [] [] [(1,(X5 (.B x) [(0,.raw (Ac y))]))] (Xx (Ag.okE h15)) ?_;rcases Xp h with ⟨c5,h⟩ |⟨c5,h⟩
  ·refine tt c5 <| Xo ?_;obtain ⟨⟨z,p⟩,h16,h⟩:=bind_some h;dsimp only at h;obtain ⟨a17,h17,h⟩:=bind_some h;refine hB L mixed 254 [] [(3,.agg (Aj a17))] [(2,(X5 (.agg (Aj z)) [(0,.raw (Ac p))]))] [1] 2 (Xt (hR.Al h16) (Xt (A5.ok h17) (Xt trivial (Xt (hR.Al h16) (Xt (A5.ok h17) (Xx trivial)))))) (S':=⟨[(0,.P 0),(2,.P 26900),(4,.P 26901)],[(0,.raw (Ac p)),(26900,.raw [.I 0,.str [],.I 0,.str [],.N]),(26901,.raw (Aj a17))]⟩) ?_;obtain ⟨a18,h18,h⟩:=bind_some h;refine ar L 260 [] [] [(1,(X5 (.tup []) [(0,.raw (Ac a18))]))] (cs:=[Xz V P 82 [.P 0,.cv (.str ([93]:List UInt8))] [(0,.raw (Ac p))] [0] (.tup []) [(0,.raw (Ac a18))]]) (S':=⟨[(0,.P 0),(2,.P 26900),(4,.P 26901)],[(0,.raw (Ac a18)),(26900,.raw [.I 0,.str [],.I 0,.str [],.N]),(26901,.raw (Aj a17))]⟩) (Aq.okE h18) ?_;exact ⟨k,Nat.lt_succ_self k,_,_,_,_,_,_,_,_,rfl,h⟩
  refine fN c5 <| Xy L 263 <| Xr (Xn.trans (Xn.kk [2] [0,26900]) (Xn.rr [(0,0),(26900,100)])) ?_;refine Xq ?_;cases h;exact .inr ⟨rfl,_,rfl,X7⟩
 ·rintro e S (hf |⟨rfl,a,rfl,hr⟩)
  ·exact hf.elim
  ·rcases h with ⟨_,e1,h⟩ |⟨_,e1,h⟩
   ·have e2:=X3.done.inj e1;subst e2;subst h;exact ⟨_,Xn.refl,hr⟩
   ·cases e1
def A7.l6 (K:Nat) (R:Ah):Nat→(List Ar)→Int→Bool→Int→(List UInt8)→Int→(List UInt8)→(List Aa)→Option (X3 (Aa×Ad) Unit)
 | 0,_,_,_,_,_,_,_,_=>none
 | k+1,f,g,h,a,b,c,d,e=>(Option.bind (Ag K ([42]:List UInt8) (⟨f,g,h⟩:Ad)) (fun (q,n)=>(if q=true then (Option.bind (R.Aw n) (fun (r,i)=>(Option.bind (A5 K 15 (⟨a,b,c,d,e⟩:Aa) r) (fun a4=>A7.l6 K R k i.l i.at_ i.bad a4.Op a4.Name a4.Int a4.Text a4.Kids)))) else (Option.bind (Ag K ([47]:List UInt8) n) (fun (s,o)=>(if s=true then (Option.bind (R.Aw o) (fun (t,j)=>(Option.bind (A5 K 16 (⟨a,b,c,d,e⟩:Aa) t) (fun a7=>A7.l6 K R k j.l j.at_ j.bad a7.Op a7.Name a7.Int a7.Text a7.Kids)))) else (Option.bind (Ag K ([37]:List UInt8) o) (fun (u,p)=>(if u=true then (Option.bind (R.Aw p) (fun (v,m)=>(Option.bind (A5 K 17 (⟨a,b,c,d,e⟩:Aa) v) (fun a10=>A7.l6 K R k m.l m.at_ m.bad a10.Op a10.Name a10.Int a10.Text a10.Kids)))) else some (X3.done ((⟨a,b,c,d,e⟩:Aa),p)))))))))))
def A7.F (K:Nat) (R:Ah) (p0:Ad):Option (Aa×Ad):=(Option.bind (R.Aw p0) (fun (a,b)=>(obind (A7.l6 K R K b.l b.at_ b.bad a.Op a.Name a.Int a.Text a.Kids:Option (X3 (Aa×Ad) Unit)) (fun r=>r) (fun _=>none))))
theorem A7.body {Γ:Yg} {K:Nat} {R:Ah} (hR:R.Ok) {p0:Ad} {r:Aa×Ad} (h:A7.F K R p0=some r):Yc V P 25 100 Γ (Tryz.f144.body.getD .skip) (X1 P V Tryz.f144 (.agg [.I r.1.Op,.str r.1.Name,.I r.1.Int,.str r.1.Text,.ro .Ae r.1.Kids]) [(0,.raw [.ro .Ao r.2.l,.I r.2.at_,.B r.2.bad])]) ⟨X0 0 [.P 0],[(0,.raw (Ac p0))]⟩:=by
 unfold A7.F at h;refine Xy L 200 <| Xo ?_;obtain ⟨⟨n,o⟩,h1,h⟩:=bind_some h;dsimp only at h;refine rg L 202 [] [] [(1,(X5 (.agg (Aj n)) [(0,.raw (Ac o))]))] (Xx (hR.Aw h1)) ?_;refine Xw <| Xr (Xn.trans (Xn.kk [0,2,3] [0,200,204]) (Xn.rr [(0,0),(200,21300),(204,21301)])) ?_;refine kp (S':=⟨[(0,.P 0),(2,.P 21300),(3,.P 21301)],[(0,.raw (Ac o)),(21300,.raw [.I 0,.str [],.I 0,.str [],.N]),(21301,.raw (Aj n))]⟩) ?_;obtain ⟨o1,hp1,h⟩:=X9 h;refine X4 (Q':=fun e S=>False∨(e=.ret∧∃ a,X3.done a=o1∧X1 P V Tryz.f144 (.agg [.I a.1.Op,.str a.1.Name,.I a.1.Int,.str a.1.Text,.ro .Ae a.1.Kids]) [(0,.raw [.ro .Ao a.2.l,.I a.2.at_,.B a.2.bad])] .ret S)) (Yb (fun k S=>∃ b:List Ar,∃ c:Int,∃ d:Bool,∃ f:Int,∃ g:List UInt8,∃ i:Int,∃ j:List UInt8,∃ m:List Aa,S=⟨[(0,.P 0),(2,.P 21300),(3,.P 21301)],[(0,.raw [.ro .Ao b,.I c,.B d]),(21300,.raw [.I 0,.str [],.I 0,.str [],.N]),(21301,.raw [.I f,.str g,.I i,.str j,.ro .Ae m])]⟩∧A7.l6 K R k b c d f g i j m=some o1) ?_ ⟨_,_,_,_,_,_,_,_,rfl,hp1⟩) ?_
 ·clear h hp1;intro k S hS;obtain ⟨b,c,d,f,g,i,j,m,rfl,h⟩:=hS;cases k with
  | zero=>cases h
  | succ k =>
  unfold A7.l6 at h;refine Xw <| Xo ?_;obtain ⟨⟨t,u⟩,h2,h⟩:=bind_some h;dsimp only at h;refine rg L 207 [] [] [(1,(X5 (.B t) [(0,.raw (Ac u))]))] (Xx (Ag.okE h2)) ?_;rcases Xp h with ⟨c1,h⟩ |⟨c1,h⟩
  ·refine tt c1 ?_;obtain ⟨⟨v,p⟩,h3,h⟩:=bind_some h;dsimp only at h;obtain ⟨a4,h4,h⟩:=bind_some h;refine hB L mixed 210 [] [(3,.agg (Aj a4))] [(2,(X5 (.agg (Aj v)) [(0,.raw (Ac p))]))] [1] 2 (Xt (hR.Aw h3) (Xt (A5.ok h4) (Xt trivial (Xt (hR.Aw h3) (Xt (A5.ok h4) (Xx trivial)))))) (S':=⟨[(0,.P 0),(2,.P 21300),(3,.P 21301)],[(0,.raw (Ac p)),(21300,.raw [.I 0,.str [],.I 0,.str [],.N]),(21301,.raw (Aj a4))]⟩) ?_;exact ⟨k,Nat.lt_succ_self k,_,_,_,_,_,_,_,_,rfl,h⟩
  refine fN c1 <| Xo ?_;obtain ⟨⟨w,x⟩,h5,h⟩:=bind_some h;dsimp only at h;refine rg L 216 [] [] [(1,(X5 (.B w) [(0,.raw (Ac x))]))] (Xx (Ag.okE h5)) ?_;rcases Xp h with ⟨c2,h⟩ |⟨c2,h⟩
  ·refine tt c2 ?_;obtain ⟨⟨y,q⟩,h6,h⟩:=bind_some h;dsimp only at h;obtain ⟨a7,h7,h⟩:=bind_some h;refine hB L mixed 219 [] [(3,.agg (Aj a7))] [(2,(X5 (.agg (Aj y)) [(0,.raw (Ac q))]))] [1] 2 (Xt (hR.Aw h6) (Xt (A5.ok h7) (Xt trivial (Xt (hR.Aw h6) (Xt (A5.ok h7) (Xx trivial)))))) (S':=⟨[(0,.P 0),(2,.P 21300),(3,.P 21301)],[(0,.raw (Ac q)),(21300,.raw [.I 0,.str [],.I 0,.str [],.N]),(21301,.raw (Aj a7))]⟩) ?_;exact ⟨k,Nat.lt_succ_self k,_,_,_,_,_,_,_,_,rfl,h⟩
  refine fN c2 <| Xo ?_;obtain ⟨⟨z,aa⟩,h8,h⟩:=bind_some h;dsimp only at h;refine rg L 225 [] [] [(1,(X5 (.B z) [(0,.raw (Ac aa))]))] (Xx (Ag.okE h8)) ?_;rcases Xp h with ⟨c3,h⟩ |⟨c3,h⟩
  ·refine tt c3 ?_;obtain ⟨⟨ab,s⟩,h9,h⟩:=bind_some h;dsimp only at h;obtain ⟨a10,h10,h⟩:=bind_some h;refine hB L mixed 228 [] [(3,.agg (Aj a10))] [(2,(X5 (.agg (Aj ab)) [(0,.raw (Ac s))]))] [1] 2 (Xt (hR.Aw h9) (Xt (A5.ok h10) (Xt trivial (Xt (hR.Aw h9) (Xt (A5.ok h10) (Xx trivial)))))) (S':=⟨[(0,.P 0),(2,.P 21300),(3,.P 21301)],[(0,.raw (Ac s)),(21300,.raw [.I 0,.str [],.I 0,.str [],.N]),(21301,.raw (Aj a10))]⟩) ?_;exact ⟨k,Nat.lt_succ_self k,_,_,_,_,_,_,_,_,rfl,h⟩
  refine fN c3 <| Xy L 234 <| Xr (Xn.trans (Xn.kk [2] [0,21300]) (Xn.rr [(0,0),(21300,100)])) ?_;refine Xq ?_;cases h;exact .inr ⟨rfl,_,rfl,X7⟩
 ·rintro e S (hf |⟨rfl,a,rfl,hr⟩)
  ·exact hf.elim
  ·rcases h with ⟨_,e1,h⟩ |⟨_,e1,h⟩
   ·have e2:=X3.done.inj e1;subst e2;subst h;exact ⟨_,Xn.refl,hr⟩
   ·cases e1
def A3.l6 (K:Nat) (R:Ah):Nat→(List Ar)→Int→Bool→Int→(List UInt8)→Int→(List UInt8)→(List Aa)→Option (X3 (Aa×Ad) Unit)
 | 0,_,_,_,_,_,_,_,_=>none
 | k+1,f,g,h,a,b,c,d,e=>(Option.bind (Ag K ([43]:List UInt8) (⟨f,g,h⟩:Ad)) (fun (o,m)=>(if o=true then (Option.bind (R.A7 m) (fun (p,i)=>(Option.bind (A5 K 18 (⟨a,b,c,d,e⟩:Aa) p) (fun a4=>A3.l6 K R k i.l i.at_ i.bad a4.Op a4.Name a4.Int a4.Text a4.Kids)))) else (Option.bind (Ag K ([45]:List UInt8) m) (fun (q,n)=>(if q=true then (Option.bind (R.A7 n) (fun (r,j)=>(Option.bind (A5 K 19 (⟨a,b,c,d,e⟩:Aa) r) (fun a7=>A3.l6 K R k j.l j.at_ j.bad a7.Op a7.Name a7.Int a7.Text a7.Kids)))) else some (X3.done ((⟨a,b,c,d,e⟩:Aa),n))))))))
def A3.F (K:Nat) (R:Ah) (p0:Ad):Option (Aa×Ad):=(Option.bind (R.A7 p0) (fun (a,b)=>(obind (A3.l6 K R K b.l b.at_ b.bad a.Op a.Name a.Int a.Text a.Kids:Option (X3 (Aa×Ad) Unit)) (fun r=>r) (fun _=>none))))
theorem A3.body {Γ:Yg} {K:Nat} {R:Ah} (hR:R.Ok) {p0:Ad} {r:Aa×Ad} (h:A3.F K R p0=some r):Yc V P 19 100 Γ (Tryz.f132.body.getD .skip) (X1 P V Tryz.f132 (.agg [.I r.1.Op,.str r.1.Name,.I r.1.Int,.str r.1.Text,.ro .Ae r.1.Kids]) [(0,.raw [.ro .Ao r.2.l,.I r.2.at_,.B r.2.bad])]) ⟨X0 0 [.P 0],[(0,.raw (Ac p0))]⟩:=by
 unfold A3.F at h;refine Xy L 200 <| Xo ?_;obtain ⟨⟨n,o⟩,h1,h⟩:=bind_some h;dsimp only at h;refine rg L 202 [] [] [(1,(X5 (.agg (Aj n)) [(0,.raw (Ac o))]))] (Xx (hR.A7 h1)) ?_;refine Xw <| Xr (Xn.trans (Xn.kk [0,2,3] [0,200,204]) (Xn.rr [(0,0),(200,21300),(204,21301)])) ?_;refine kp (S':=⟨[(0,.P 0),(2,.P 21300),(3,.P 21301)],[(0,.raw (Ac o)),(21300,.raw [.I 0,.str [],.I 0,.str [],.N]),(21301,.raw (Aj n))]⟩) ?_;obtain ⟨o1,hp1,h⟩:=X9 h;refine X4 (Q':=fun e S=>False∨(e=.ret∧∃ a,X3.done a=o1∧X1 P V Tryz.f132 (.agg [.I a.1.Op,.str a.1.Name,.I a.1.Int,.str a.1.Text,.ro .Ae a.1.Kids]) [(0,.raw [.ro .Ao a.2.l,.I a.2.at_,.B a.2.bad])] .ret S)) (Yb (fun k S=>∃ b:List Ar,∃ c:Int,∃ d:Bool,∃ f:Int,∃ g:List UInt8,∃ i:Int,∃ j:List UInt8,∃ m:List Aa,S=⟨[(0,.P 0),(2,.P 21300),(3,.P 21301)],[(0,.raw [.ro .Ao b,.I c,.B d]),(21300,.raw [.I 0,.str [],.I 0,.str [],.N]),(21301,.raw [.I f,.str g,.I i,.str j,.ro .Ae m])]⟩∧A3.l6 K R k b c d f g i j m=some o1) ?_ ⟨_,_,_,_,_,_,_,_,rfl,hp1⟩) ?_
 ·clear h hp1;intro k S hS;obtain ⟨b,c,d,f,g,i,j,m,rfl,h⟩:=hS;cases k with
  | zero=>cases h
  | succ k =>
  unfold A3.l6 at h;refine Xw <| Xo ?_;obtain ⟨⟨s,t⟩,h2,h⟩:=bind_some h;dsimp only at h;refine rg L 207 [] [] [(1,(X5 (.B s) [(0,.raw (Ac t))]))] (Xx (Ag.okE h2)) ?_;rcases Xp h with ⟨c1,h⟩ |⟨c1,h⟩
  ·refine tt c1 ?_;obtain ⟨⟨u,p⟩,h3,h⟩:=bind_some h;dsimp only at h;obtain ⟨a4,h4,h⟩:=bind_some h;refine hB L mixed 210 [] [(3,.agg (Aj a4))] [(2,(X5 (.agg (Aj u)) [(0,.raw (Ac p))]))] [1] 2 (Xt (hR.A7 h3) (Xt (A5.ok h4) (Xt trivial (Xt (hR.A7 h3) (Xt (A5.ok h4) (Xx trivial)))))) (S':=⟨[(0,.P 0),(2,.P 21300),(3,.P 21301)],[(0,.raw (Ac p)),(21300,.raw [.I 0,.str [],.I 0,.str [],.N]),(21301,.raw (Aj a4))]⟩) ?_;exact ⟨k,Nat.lt_succ_self k,_,_,_,_,_,_,_,_,rfl,h⟩
  refine fN c1 <| Xo ?_;obtain ⟨⟨v,w⟩,h5,h⟩:=bind_some h;dsimp only at h;refine rg L 216 [] [] [(1,(X5 (.B v) [(0,.raw (Ac w))]))] (Xx (Ag.okE h5)) ?_;rcases Xp h with ⟨c2,h⟩ |⟨c2,h⟩
  ·refine tt c2 ?_;obtain ⟨⟨x,q⟩,h6,h⟩:=bind_some h;dsimp only at h;obtain ⟨a7,h7,h⟩:=bind_some h;refine hB L mixed 219 [] [(3,.agg (Aj a7))] [(2,(X5 (.agg (Aj x)) [(0,.raw (Ac q))]))] [1] 2 (Xt (hR.A7 h6) (Xt (A5.ok h7) (Xt trivial (Xt (hR.A7 h6) (Xt (A5.ok h7) (Xx trivial)))))) (S':=⟨[(0,.P 0),(2,.P 21300),(3,.P 21301)],[(0,.raw (Ac q)),(21300,.raw [.I 0,.str [],.I 0,.str [],.N]),(21301,.raw (Aj a7))]⟩) ?_;exact ⟨k,Nat.lt_succ_self k,_,_,_,_,_,_,_,_,rfl,h⟩
  refine fN c2 <| Xy L 225 <| Xr (Xn.trans (Xn.kk [2] [0,21300]) (Xn.rr [(0,0),(21300,100)])) ?_;refine Xq ?_;cases h;exact .inr ⟨rfl,_,rfl,X7⟩
 ·rintro e S (hf |⟨rfl,a,rfl,hr⟩)
  ·exact hf.elim
  ·rcases h with ⟨_,e1,h⟩ |⟨_,e1,h⟩
   ·have e2:=X3.done.inj e1;subst e2;subst h;exact ⟨_,Xn.refl,hr⟩
   ·cases e1
def Ax.l21 (K:Nat) (R:Ah) (f:Aa):Nat→Int→(List Ar)→Int→Bool→Option (X3 (Aa×Ad) ((List Ar)×Int×Bool))
 | 0,_,_,_,_=>none
 | k+1,a,b,c,d=>(if a <(([([60]:List UInt8),([60,61]:List UInt8),([62]:List UInt8),([62,61]:List UInt8),([61,61]:List UInt8),([33,61]:List UInt8)]:List (List UInt8)).length:Int) then (if (0:Int)≤a∧(a:Int) <(([([60]:List UInt8),([60,61]:List UInt8),([62]:List UInt8),([62,61]:List UInt8),([61,61]:List UInt8),([33,61]:List UInt8)]:List (List UInt8)).length:Int) then (Option.bind (Ag K (([([60]:List UInt8),([60,61]:List UInt8),([62]:List UInt8),([62,61]:List UInt8),([61,61]:List UInt8),([33,61]:List UInt8)]:List (List UInt8)).getD (Int.toNat a) ([]:List UInt8)) (⟨b,c,d⟩:Ad)) (fun (g,e)=>(if g=true then (if (a:Int) <(([20,21,22,23,24,25]:List Int).length:Int) then (Option.bind (R.A3 e) (fun (h,i)=>(Option.bind (A5 K (([20,21,22,23,24,25]:List Int).getD (Int.toNat a) (0:Int)) f h) (fun a7=>some (X3.done (a7,i)))))) else none) else Ax.l21 K R f k (IntKind.i64.wrap (a+1)) e.l e.at_ e.bad))) else none) else some (X3.go (b,c,d)))
def Ax.F (K:Nat) (R:Ah) (p0:Ad):Option (Aa×Ad):=(Option.bind (Ag K ([110,111,116]:List UInt8) p0) (fun (g,e)=>(if g=true then (Option.bind (R.Ax e) (fun (h,i)=>(Option.bind (B5 K 13 h) (fun a3=>some (a3,i))))) else (Option.bind (R.A3 e) (fun (f,d)=>(obind (Ax.l21 K R f K 0 d.l d.at_ d.bad:Option (X3 (Aa×Ad) ((List Ar)×Int×Bool))) (fun r=>r) (fun (a,b,c)=>some (f,(⟨a,b,c⟩:Ad)))))))))
theorem Ax.body {Γ:Yg} {K:Nat} {R:Ah} (hR:R.Ok) {p0:Ad} {r:Aa×Ad} (h:Ax.F K R p0=some r):Yc V P 37 100 Γ (Tryz.f117.body.getD .skip) (X1 P V Tryz.f117 (.agg [.I r.1.Op,.str r.1.Name,.I r.1.Int,.str r.1.Text,.ro .Ae r.1.Kids]) [(0,.raw [.ro .Ao r.2.l,.I r.2.at_,.B r.2.bad])]) ⟨X0 0 [.P 0],[(0,.raw (Ac p0))]⟩:=by
 unfold Ax.F at h;refine Xy L 200 <| Xo <| Xo ?_;obtain ⟨⟨q,s⟩,h1,h⟩:=bind_some h;dsimp only at h;refine rg L 202 [] [] [(1,(X5 (.B q) [(0,.raw (Ac s))]))] (Xx (Ag.okE h1)) ?_;rcases Xp h with ⟨c1,h⟩ |⟨c1,h⟩
 ·refine tt c1 <| Xo ?_;obtain ⟨⟨t,u⟩,h2,h⟩:=bind_some h;dsimp only at h;obtain ⟨a3,h3,h⟩:=bind_some h;refine rg L 205 [] [(2,.agg (Aj a3))] [(1,(X5 (.agg (Aj t)) [(0,.raw (Ac u))]))] (Xt (hR.Ax h2) (Xt (B5.ok h3) (Xx trivial))) ?_;refine Xr (Xn.trans (Xn.kk [2] [0,200]) (Xn.rr [(0,0),(200,100)])) ?_;refine Xq ?_;cases h;exact X7
 refine fN c1 <| Xu <| Xo ?_;obtain ⟨⟨m,n⟩,h4,h⟩:=bind_some h;dsimp only at h;refine rg L 210 [] [] [(1,(X5 (.agg (Aj m)) [(0,.raw (Ac n))]))] (Xx (hR.A3 h4)) ?_;refine Xy L 215 <| Xy L 218 <| Xo <| Xy L 221 <| Xw <| Xr (Xn.trans (Xn.kk [0,2,3,4,5,6] [0,200,212]) (Xn.rr [(0,0),(200,24300),(212,24301)])) ?_;refine kp (S':=⟨[(0,.P 0),(2,.P 24300),(3,.P 24301),(4,.cv (.ro .Dd ([([60]:List UInt8),([60,61]:List UInt8),([62]:List UInt8),([62,61]:List UInt8),([61,61]:List UInt8),([33,61]:List UInt8)]:List (List UInt8)))),(5,.cv (.ro .Fz ([20,21,22,23,24,25]:List Int))),(6,.I 0)],[(0,.raw (Ac n)),(24300,.raw [.I 0,.str [],.I 0,.str [],.N]),(24301,.raw (Aj m))]⟩) ?_;obtain ⟨o1,hp1,h⟩:=X9 h;refine X4 (Q':=fun e S=>(e=.exit 0∧∃ g:List Ar,∃ i:Int,∃ j:Bool,S=⟨[(2,.P 24200),(3,.P 24201)],[(0,.raw [.ro .Ao g,.I i,.B j]),(24200,.raw [.I 0,.str [],.I 0,.str [],.N]),(24201,.raw (Aj m))]⟩∧X3.go (g,i,j)=o1)∨(e=.ret∧∃ a,X3.done a=o1∧X1 P V Tryz.f117 (.agg [.I a.1.Op,.str a.1.Name,.I a.1.Int,.str a.1.Text,.ro .Ae a.1.Kids]) [(0,.raw [.ro .Ao a.2.l,.I a.2.at_,.B a.2.bad])] .ret S)) (Yb (fun k S=>∃ f:Int,∃ b:List Ar,∃ c:Int,∃ d:Bool,S=⟨[(0,.P 0),(2,.P 24300),(3,.P 24301),(4,.cv (.ro .Dd ([([60]:List UInt8),([60,61]:List UInt8),([62]:List UInt8),([62,61]:List UInt8),([61,61]:List UInt8),([33,61]:List UInt8)]:List (List UInt8)))),(5,.cv (.ro .Fz ([20,21,22,23,24,25]:List Int))),(6,.I f)],[(0,.raw [.ro .Ao b,.I c,.B d]),(24300,.raw [.I 0,.str [],.I 0,.str [],.N]),(24301,.raw (Aj m))]⟩∧Ax.l21 K R m k f b c d=some o1) ?_ ⟨_,_,_,_,rfl,hp1⟩) ?_
 ·clear h hp1;intro k S hS;obtain ⟨f,b,c,d,rfl,h⟩:=hS;cases k with
  | zero=>cases h
  | succ k =>
  unfold Ax.l21 at h;refine Xo <| Xy L 223 ?_;rcases Xp h with ⟨c2,h⟩ |⟨c2,h⟩
  ·refine tT c2 <| Xu <| Xo <| Xw <| Xo ?_;obtain ⟨g1,h⟩:=Xv h;obtain ⟨⟨v,o⟩,h5,h⟩:=bind_some h;dsimp only at h;refine rg L 228 [] [] [(5,(X5 (.B v) [(0,.raw (Ac o))]))] (Xt g1.1 (Xt g1.2 (Xx (Ag.okE h5)))) ?_;rcases Xp h with ⟨c3,h⟩ |⟨c3,h⟩
   ·refine tt c3 <| Xo ?_;obtain ⟨g2,h⟩:=Xv h;obtain ⟨⟨w,p⟩,h6,h⟩:=bind_some h;dsimp only at h;obtain ⟨a7,h7,h⟩:=bind_some h;refine hB L mixed 235 [] [(7,.agg (Aj a7))] [(6,(X5 (.agg (Aj w)) [(0,.raw (Ac p))]))] [0,1,5] 12 (Xt g1.1 (Xt g2 (Xt (hR.A3 h6) (Xt (A5.ok h7) (Xt trivial (Xt (hR.A3 h6) (Xt (A5.ok h7) (Xt trivial (Xt (hR.A3 h6) (Xt (A5.ok h7) (Xt trivial (Xt (hR.A3 h6) (Xt (A5.ok h7) (Xt trivial (Xt (hR.A3 h6) (Xt (A5.ok h7) (Xt trivial (Xt (A5.ok h7) (Xt trivial (Xt g1.1 (Xt g2 (Xt (hR.A3 h6) (Xt (A5.ok h7) (Xt trivial (Xt (hR.A3 h6) (Xt (A5.ok h7) (Xt trivial (Xt (hR.A3 h6) (Xt g1.1 (Xt g2 (Xt (A5.ok h7) (Xt trivial (Xt (hR.A3 h6) (Xt g1.1 (Xt g2 (Xt (A5.ok h7) (Xt trivial (Xt (A5.ok h7) (Xt trivial (Xt g1.1 (Xt g2 (Xt (A5.ok h7) (Xx trivial))))))))))))))))))))))))))))))))))))))))))) (S':=⟨[(2,.P 24300)],[(0,.raw (Ac p)),(24300,.raw (Aj a7))]⟩) ?_;refine Xr (Xn.trans (Xn.kk [2] [0,24300]) (Xn.rr [(0,0),(24300,100)])) ?_;refine Xq ?_;cases h;exact .inr ⟨rfl,_,rfl,X7⟩
   refine fN c3 <| Xu <| ar0 L 245 [] [] [] (S':=⟨[(0,.P 0),(2,.P 24300),(3,.P 24301),(4,.cv (.ro .Dd ([([60]:List UInt8),([60,61]:List UInt8),([62]:List UInt8),([62,61]:List UInt8),([61,61]:List UInt8),([33,61]:List UInt8)]:List (List UInt8)))),(5,.cv (.ro .Fz ([20,21,22,23,24,25]:List Int))),(6,.I (IntKind.i64.wrap (f+1)))],[(0,.raw (Ac o)),(24300,.raw [.I 0,.str [],.I 0,.str [],.N]),(24301,.raw (Aj m))]⟩) ?_;exact ⟨k,Nat.lt_succ_self k,_,_,_,_,rfl,h⟩
  refine fF c2 <| Xr (Xn.trans (Xn.kk [2,3] [0,24300,24301]) (Xn.rr [(0,0),(24300,24200),(24301,24201)])) ?_;refine ex (S':=⟨[(2,.P 24200),(3,.P 24201)],[(0,.raw [.ro .Ao b,.I c,.B d]),(24200,.raw [.I 0,.str [],.I 0,.str [],.N]),(24201,.raw (Aj m))]⟩) ?_;cases h;exact .inl ⟨rfl,_,_,_,rfl,rfl⟩
 ·rintro e S (⟨rfl,g,i,j,rfl,rfl⟩ |⟨rfl,a,rfl,hr⟩)
  ·rcases h with ⟨_,e1,h⟩ |⟨_,e1,h⟩
   ·cases e1
   ·have e2:=X3.go.inj e1;subst e2;dsimp only at h;refine ⟨_,Xn.refl,?_⟩;refine Xy L 249 <| Xr (Xn.trans (Xn.kk [2] [0,24200]) (Xn.rr [(0,0),(24200,100)])) ?_;refine Xq ?_;cases h;exact X7
  ·rcases h with ⟨_,e1,h⟩ |⟨_,e1,h⟩
   ·have e2:=X3.done.inj e1;subst e2;subst h;exact ⟨_,Xn.refl,hr⟩
   ·cases e1
def Bj.l7 (K:Nat) (R:Ah):Nat→(List Ar)→Int→Bool→Int→(List UInt8)→Int→(List UInt8)→(List Aa)→Option ((List Ar)×Int×Bool×Int×(List UInt8)×Int×(List UInt8)×(List Aa))
 | 0,_,_,_,_,_,_,_,_=>none
 | k+1,g,h,i,a,b,c,d,e=>(Option.bind (Ag K ([97,110,100]:List UInt8) (⟨g,h,i⟩:Ad)) (fun (m,f)=>(if m=true then (Option.bind (R.Ax f) (fun (n,j)=>(Option.bind (A5 K 26 (⟨a,b,c,d,e⟩:Aa) n) (fun a4=>Bj.l7 K R k j.l j.at_ j.bad a4.Op a4.Name a4.Int a4.Text a4.Kids)))) else some (f.l,f.at_,f.bad,a,b,c,d,e))))
def Bj.F (K:Nat) (R:Ah) (p0:Ad):Option (Aa×Ad):=(Option.bind (R.Ax p0) (fun (a,g)=>(Option.bind (Bj.l7 K R K g.l g.at_ g.bad a.Op a.Name a.Int a.Text a.Kids:Option ((List Ar)×Int×Bool×Int×(List UInt8)×Int×(List UInt8)×(List Aa))) (fun (h,i,j,b,c,d,e,f)=>some ((⟨b,c,d,e,f⟩:Aa),(⟨h,i,j⟩:Ad))))))
theorem Bj.body {Γ:Yg} {K:Nat} {R:Ah} (hR:R.Ok) {p0:Ad} {r:Aa×Ad} (h:Bj.F K R p0=some r):Yc V P 13 100 Γ (Tryz.f88.body.getD .skip) (X1 P V Tryz.f88 (.agg [.I r.1.Op,.str r.1.Name,.I r.1.Int,.str r.1.Text,.ro .Ae r.1.Kids]) [(0,.raw [.ro .Ao r.2.l,.I r.2.at_,.B r.2.bad])]) ⟨X0 0 [.P 0],[(0,.raw (Ac p0))]⟩:=by
 unfold Bj.F at h;refine Xy L 200 <| Xo ?_;obtain ⟨⟨v,w⟩,h1,h⟩:=bind_some h;dsimp only at h;refine rg L 202 [] [] [(1,(X5 (.agg (Aj v)) [(0,.raw (Ac w))]))] (Xx (hR.Ax h1)) ?_;refine Xo <| Xw <| Xr (Xn.trans (Xn.kk [0,2,3] [0,200,204]) (Xn.rr [(0,0),(200,21500),(204,21501)])) ?_;refine kp (S':=⟨[(0,.P 0),(2,.P 21500),(3,.P 21501)],[(0,.raw (Ac w)),(21500,.raw [.I 0,.str [],.I 0,.str [],.N]),(21501,.raw (Aj v))]⟩) ?_;obtain ⟨o1,hp1,h⟩:=bind_some h;refine X4 (Q':=fun e S=>(e=.exit 0∧∃ s:List Ar,∃ t:Int,∃ u:Bool,∃ g:Int,∃ i:List UInt8,∃ j:Int,∃ m:List UInt8,∃ n:List Aa,S=⟨[(2,.P 21400),(3,.P 21401)],[(0,.raw [.ro .Ao s,.I t,.B u]),(21400,.raw [.I 0,.str [],.I 0,.str [],.N]),(21401,.raw [.I g,.str i,.I j,.str m,.ro .Ae n])]⟩∧(s,t,u,g,i,j,m,n)=o1)) (Yb (fun k S=>∃ o:List Ar,∃ p:Int,∃ q:Bool,∃ a:Int,∃ b:List UInt8,∃ c:Int,∃ d:List UInt8,∃ f:List Aa,S=⟨[(0,.P 0),(2,.P 21500),(3,.P 21501)],[(0,.raw [.ro .Ao o,.I p,.B q]),(21500,.raw [.I 0,.str [],.I 0,.str [],.N]),(21501,.raw [.I a,.str b,.I c,.str d,.ro .Ae f])]⟩∧Bj.l7 K R k o p q a b c d f=some o1) ?_ ⟨_,_,_,_,_,_,_,_,rfl,hp1⟩) ?_
 ·clear h hp1;intro k S hS;obtain ⟨o,p,q,a,b,c,d,f,rfl,h⟩:=hS;cases k with
  | zero=>cases h
  | succ k =>
  unfold Bj.l7 at h;refine Xo <| Xo ?_;obtain ⟨⟨z,x⟩,h2,h⟩:=bind_some h;dsimp only at h;refine rg L 207 [] [] [(1,(X5 (.B z) [(0,.raw (Ac x))]))] (Xx (Ag.okE h2)) ?_;rcases Xp h with ⟨c1,h⟩ |⟨c1,h⟩
  ·refine tt c1 <| Xu <| Xw ?_;obtain ⟨⟨aa,y⟩,h3,h⟩:=bind_some h;dsimp only at h;obtain ⟨a4,h4,h⟩:=bind_some h;refine hB L mixed 210 [] [(3,.agg (Aj a4))] [(2,(X5 (.agg (Aj aa)) [(0,.raw (Ac y))]))] [1] 2 (Xt (hR.Ax h3) (Xt (A5.ok h4) (Xt trivial (Xt (hR.Ax h3) (Xt (A5.ok h4) (Xx trivial)))))) (S':=⟨[(0,.P 0),(2,.P 21500),(3,.P 21501)],[(0,.raw (Ac y)),(21500,.raw [.I 0,.str [],.I 0,.str [],.N]),(21501,.raw (Aj a4))]⟩) ?_;exact ⟨k,Nat.lt_succ_self k,_,_,_,_,_,_,_,_,rfl,h⟩
  refine fN c1 <| Xr (Xn.trans (Xn.kk [2,3] [0,21500,21501]) (Xn.rr [(0,0),(21500,21400),(21501,21401)])) ?_;refine ex (S':=⟨[(2,.P 21400),(3,.P 21401)],[(0,.raw (Ac x)),(21400,.raw [.I 0,.str [],.I 0,.str [],.N]),(21401,.raw [.I a,.str b,.I c,.str d,.ro .Ae f])]⟩) ?_;cases h;exact ⟨rfl,_,_,_,_,_,_,_,_,rfl,rfl⟩
 ·rintro e S ⟨rfl,s,t,u,g,i,j,m,n,rfl,rfl⟩;dsimp only at h;refine ⟨_,Xn.refl,?_⟩;refine Xy L 216 <| Xr (Xn.trans (Xn.kk [2] [0,21400]) (Xn.rr [(0,0),(21400,100)])) ?_;refine Xq ?_;cases h;exact X7
def Al.l7 (K:Nat) (R:Ah):Nat→(List Ar)→Int→Bool→Int→(List UInt8)→Int→(List UInt8)→(List Aa)→Option ((List Ar)×Int×Bool×Int×(List UInt8)×Int×(List UInt8)×(List Aa))
 | 0,_,_,_,_,_,_,_,_=>none
 | k+1,g,h,i,a,b,c,d,e=>(Option.bind (Ag K ([111,114]:List UInt8) (⟨g,h,i⟩:Ad)) (fun (m,f)=>(if m=true then (Option.bind (R.Bj f) (fun (n,j)=>(Option.bind (A5 K 27 (⟨a,b,c,d,e⟩:Aa) n) (fun a4=>Al.l7 K R k j.l j.at_ j.bad a4.Op a4.Name a4.Int a4.Text a4.Kids)))) else some (f.l,f.at_,f.bad,a,b,c,d,e))))
def Al.F (K:Nat) (R:Ah) (p0:Ad):Option (Aa×Ad):=(Option.bind (R.Bj p0) (fun (a,g)=>(Option.bind (Al.l7 K R K g.l g.at_ g.bad a.Op a.Name a.Int a.Text a.Kids:Option ((List Ar)×Int×Bool×Int×(List UInt8)×Int×(List UInt8)×(List Aa))) (fun (h,i,j,b,c,d,e,f)=>some ((⟨b,c,d,e,f⟩:Aa),(⟨h,i,j⟩:Ad))))))
theorem Al.body {Γ:Yg} {K:Nat} {R:Ah} (hR:R.Ok) {p0:Ad} {r:Aa×Ad} (h:Al.F K R p0=some r):Yc V P 13 100 Γ (Tryz.f54.body.getD .skip) (X1 P V Tryz.f54 (.agg [.I r.1.Op,.str r.1.Name,.I r.1.Int,.str r.1.Text,.ro .Ae r.1.Kids]) [(0,.raw [.ro .Ao r.2.l,.I r.2.at_,.B r.2.bad])]) ⟨X0 0 [.P 0],[(0,.raw (Ac p0))]⟩:=by
 unfold Al.F at h;refine Xy L 200 <| Xo ?_;obtain ⟨⟨v,w⟩,h1,h⟩:=bind_some h;dsimp only at h;refine rg L 202 [] [] [(1,(X5 (.agg (Aj v)) [(0,.raw (Ac w))]))] (Xx (hR.Bj h1)) ?_;refine Xo <| Xw <| Xr (Xn.trans (Xn.kk [0,2,3] [0,200,204]) (Xn.rr [(0,0),(200,21500),(204,21501)])) ?_;refine kp (S':=⟨[(0,.P 0),(2,.P 21500),(3,.P 21501)],[(0,.raw (Ac w)),(21500,.raw [.I 0,.str [],.I 0,.str [],.N]),(21501,.raw (Aj v))]⟩) ?_;obtain ⟨o1,hp1,h⟩:=bind_some h;refine X4 (Q':=fun e S=>(e=.exit 0∧∃ s:List Ar,∃ t:Int,∃ u:Bool,∃ g:Int,∃ i:List UInt8,∃ j:Int,∃ m:List UInt8,∃ n:List Aa,S=⟨[(2,.P 21400),(3,.P 21401)],[(0,.raw [.ro .Ao s,.I t,.B u]),(21400,.raw [.I 0,.str [],.I 0,.str [],.N]),(21401,.raw [.I g,.str i,.I j,.str m,.ro .Ae n])]⟩∧(s,t,u,g,i,j,m,n)=o1)) (Yb (fun k S=>∃ o:List Ar,∃ p:Int,∃ q:Bool,∃ a:Int,∃ b:List UInt8,∃ c:Int,∃ d:List UInt8,∃ f:List Aa,S=⟨[(0,.P 0),(2,.P 21500),(3,.P 21501)],[(0,.raw [.ro .Ao o,.I p,.B q]),(21500,.raw [.I 0,.str [],.I 0,.str [],.N]),(21501,.raw [.I a,.str b,.I c,.str d,.ro .Ae f])]⟩∧Al.l7 K R k o p q a b c d f=some o1) ?_ ⟨_,_,_,_,_,_,_,_,rfl,hp1⟩) ?_
 ·clear h hp1;intro k S hS;obtain ⟨o,p,q,a,b,c,d,f,rfl,h⟩:=hS;cases k with
  | zero=>cases h
  | succ k =>
  unfold Al.l7 at h;refine Xo <| Xo ?_;obtain ⟨⟨z,x⟩,h2,h⟩:=bind_some h;dsimp only at h;refine rg L 207 [] [] [(1,(X5 (.B z) [(0,.raw (Ac x))]))] (Xx (Ag.okE h2)) ?_;rcases Xp h with ⟨c1,h⟩ |⟨c1,h⟩
  ·refine tt c1 <| Xu <| Xw ?_;obtain ⟨⟨aa,y⟩,h3,h⟩:=bind_some h;dsimp only at h;obtain ⟨a4,h4,h⟩:=bind_some h;refine hB L mixed 210 [] [(3,.agg (Aj a4))] [(2,(X5 (.agg (Aj aa)) [(0,.raw (Ac y))]))] [1] 2 (Xt (hR.Bj h3) (Xt (A5.ok h4) (Xt trivial (Xt (hR.Bj h3) (Xt (A5.ok h4) (Xx trivial)))))) (S':=⟨[(0,.P 0),(2,.P 21500),(3,.P 21501)],[(0,.raw (Ac y)),(21500,.raw [.I 0,.str [],.I 0,.str [],.N]),(21501,.raw (Aj a4))]⟩) ?_;exact ⟨k,Nat.lt_succ_self k,_,_,_,_,_,_,_,_,rfl,h⟩
  refine fN c1 <| Xr (Xn.trans (Xn.kk [2,3] [0,21500,21501]) (Xn.rr [(0,0),(21500,21400),(21501,21401)])) ?_;refine ex (S':=⟨[(2,.P 21400),(3,.P 21401)],[(0,.raw (Ac x)),(21400,.raw [.I 0,.str [],.I 0,.str [],.N]),(21401,.raw [.I a,.str b,.I c,.str d,.ro .Ae f])]⟩) ?_;cases h;exact ⟨rfl,_,_,_,_,_,_,_,_,rfl,rfl⟩
 ·rintro e S ⟨rfl,s,t,u,g,i,j,m,n,rfl,rfl⟩;dsimp only at h;refine ⟨_,Xn.refl,?_⟩;refine Xy L 216 <| Xr (Xn.trans (Xn.kk [2] [0,21400]) (Xn.rr [(0,0),(21400,100)])) ?_;refine Xq ?_;cases h;exact X7
def A8.l15 (K:Nat) (R:Ah) (p0:List UInt8):Nat→(List Ar)→Int→Bool→(List Aa)→Option (X3 ((List Aa)×Ad) ((List Ar)×Int×Bool×(List Aa)))
 | 0,_,_,_,_=>none
 | k+1,d,e,b,c=>(if b=true then some (X3.go (d,e,b,c)) else (Option.bind (R.Al (⟨d,e,b⟩:Ad)) (fun (a,g)=>(if (c.length+([(⟨a.Op,a.Name,a.Int,a.Text,a.Kids⟩:Aa)]:List Aa).length) * 72≤140737488355328 then (Option.bind (Ag K p0 g) (fun (h,f)=>(if h=true then some (X3.done ((c++([(⟨a.Op,a.Name,a.Int,a.Text,a.Kids⟩:Aa)]:List Aa)),f)) else (Option.bind (Aq K ([44]:List UInt8) f) (fun a4=>A8.l15 K R p0 k a4.l a4.at_ a4.bad (c++([(⟨a.Op,a.Name,a.Int,a.Text,a.Kids⟩:Aa)]:List Aa))))))) else none))))
def A8.F (K:Nat) (R:Ah) (p0:List UInt8) (p1:Ad):Option ((List Aa)×Ad):=(Option.bind (Ag K p0 p1) (fun (f,a)=>(if f=true then some (([]:List Aa),a) else (obind (A8.l15 K R p0 K a.l a.at_ a.bad ([]:List Aa):Option (X3 ((List Aa)×Ad) ((List Ar)×Int×Bool×(List Aa)))) (fun r=>r) (fun (b,c,d,e)=>some (e,(⟨b,c,d⟩:Ad)))))))
theorem A8.body {Γ:Yg} {K:Nat} {R:Ah} (hR:R.Ok) {p0:List UInt8} {p1:Ad} {r:(List Aa)×Ad} (h:A8.F K R p0 p1=some r):Yc V P 27 100 Γ (Tryz.f129.body.getD .skip) (X1 P V Tryz.f129 (.cv (.ro .Ae r.1)) [(0,.raw [.ro .Ao r.2.l,.I r.2.at_,.B r.2.bad])]) ⟨X0 0 [.P 0,.cv (.str p0)],[(0,.raw (Ac p1))]⟩:=by
 unfold A8.F at h;refine Xy L 200 <| Xy L 202 <| Xo <| Xo ?_;obtain ⟨⟨s,p⟩,h1,h⟩:=bind_some h;dsimp only at h;refine rg L 204 [] [] [(2,(X5 (.B s) [(0,.raw (Ac p))]))] (Xx (Ag.okE h1)) ?_;rcases Xp h with ⟨c1,h⟩ |⟨c1,h⟩
 ·refine tt c1 <| Xy L 208 <| Xq ?_;cases h;exact X7
 refine fN c1 <| Xu <| Xo <| Xw <| Xr (Xn.trans (Xn.kk [0,1,5] [0]) (Xn.trans (Xn.no 5 9500 Tag.Ae) (Xn.trans (Xn.kk [0,1,5] [0,9500]) (Xn.rr [(0,0),(9500,23100)])))) ?_;refine kp (S':=⟨[(0,.P 0),(1,.cv (.str p0)),(5,.cv (.own .Ae 23100))],[(0,.raw (Ac p)),(23100,.lst .Ae ([]:List Aa))]⟩) ?_;obtain ⟨o1,hp1,h⟩:=X9 h;refine X4 (Q':=fun e S=>(e=.exit 0∧∃ i:List Ar,∃ j:Int,∃ m:Bool,∃ o:List Aa,S=⟨[(5,.cv (.own .Ae 23000))],[(0,.raw [.ro .Ao i,.I j,.B m]),(23000,.lst .Ae o)]⟩∧X3.go (i,j,m,o)=o1)∨(e=.ret∧∃ a,X3.done a=o1∧X1 P V Tryz.f129 (.cv (.ro .Ae a.1)) [(0,.raw [.ro .Ao a.2.l,.I a.2.at_,.B a.2.bad])] .ret S)) (Yb (fun k S=>∃ d:List Ar,∃ f:Int,∃ c:Bool,∃ g:List Aa,S=⟨[(0,.P 0),(1,.cv (.str p0)),(5,.cv (.own .Ae 23100))],[(0,.raw [.ro .Ao d,.I f,.B c]),(23100,.lst .Ae g)]⟩∧A8.l15 K R p0 k d f c g=some o1) ?_ ⟨_,_,_,_,rfl,hp1⟩) ?_
 ·clear h hp1;intro k S hS;obtain ⟨d,f,c,g,rfl,h⟩:=hS;cases k with
  | zero=>cases h
  | succ k =>
  unfold A8.l15 at h;refine Xo <| Xy L 211 ?_;rcases Xp h with ⟨c2,h⟩ |⟨c2,h⟩
  ·refine ff (b:=(!c)) (congrArg Bool.not (c2)) ?_;refine Xr (Xn.trans (Xn.kk [5] [0,23100]) (Xn.rr [(0,0),(23100,23000)])) ?_;refine ex (S':=⟨[(5,.cv (.own .Ae 23000))],[(0,.raw [.ro .Ao d,.I f,.B c]),(23000,.lst .Ae g)]⟩) ?_;cases h;exact .inl ⟨rfl,_,_,_,_,rfl,rfl⟩
  refine tt (b:=(!c)) (congrArg Bool.not (eq_false_of_ne_true c2)) ?_;refine Xu <| Xw <| Xo ?_;obtain ⟨⟨n,t⟩,h2,h⟩:=bind_some h;dsimp only at h;obtain ⟨g1,h⟩:=Xv h;refine rg L 217 [] [] [(2,(X5 (.agg (Aj n)) [(0,.raw (Ac t))]))] (Xt (hR.Al h2) (Xt g1 (Xx trivial))) ?_;refine Xo <| Xo ?_;obtain ⟨⟨u,q⟩,h3,h⟩:=bind_some h;dsimp only at h;refine rg L 224 [] [] [(2,(X5 (.B u) [(0,.raw (Ac q))]))] (Xx (Ag.okE h3)) ?_;rcases Xp h with ⟨c3,h⟩ |⟨c3,h⟩
  ·refine tt c3 <| Xy L 228 <| Xr (Xn.trans (Xn.kk [4] [0,23100]) (Xn.fz 23100)) ?_;refine Xq ?_;cases h;exact .inr ⟨rfl,_,rfl,X7⟩
  refine fN c3 <| Xu ?_;obtain ⟨a4,h4,h⟩:=bind_some h;refine ar L 231 [] [] [(1,(X5 (.tup []) [(0,.raw (Ac a4))]))] (cs:=[Xz V P 82 [.P 0,.cv (.str ([44]:List UInt8))] [(0,.raw (Ac q))] [0] (.tup []) [(0,.raw (Ac a4))]]) (S':=⟨[(0,.P 0),(1,.cv (.str p0)),(5,.cv (.own .Ae 23100))],[(0,.raw (Ac a4)),(23100,.lst .Ae (g++([(⟨n.Op,n.Name,n.Int,n.Text,n.Kids⟩:Aa)]:List Aa)))]⟩) (Aq.okE h4) ?_;exact ⟨k,Nat.lt_succ_self k,_,_,_,_,rfl,h⟩
 ·rintro e S (⟨rfl,i,j,m,o,rfl,rfl⟩ |⟨rfl,a,rfl,hr⟩)
  ·rcases h with ⟨_,e1,h⟩ |⟨_,e1,h⟩
   ·cases e1
   ·have e2:=X3.go.inj e1;subst e2;dsimp only at h;refine ⟨_,Xn.refl,?_⟩;refine Xy L 234 <| Xr (Xn.trans (Xn.kk [4] [0,23000]) (Xn.fz 23000)) ?_;refine Xq ?_;cases h;exact X7
  ·rcases h with ⟨_,e1,h⟩ |⟨_,e1,h⟩
   ·have e2:=X3.done.inj e1;subst e2;subst h;exact ⟨_,Xn.refl,hr⟩
   ·cases e1
def Be.l15 (K:Nat) (R:Ah):Nat→(List Ar)→Int→Bool→(List Aa)→Option (X3 ((List Aa)×Ad) ((List Ar)×Int×Bool×(List Aa)))
 | 0,_,_,_,_=>none
 | k+1,b,a,c,d=>(if c=true then some (X3.go (b,a,c,d)) else (Option.bind (A4 K (⟨b,a,c⟩:Ad) 4) (fun a2=>(if a2=true then (if (0:Int)≤a∧(a:Int) <(b.length:Int) then (Option.bind (Aq K ([58]:List UInt8) (⟨b,(IntKind.i64.wrap (a+1)),c⟩:Ad)) (fun a3=>(Option.bind (R.Al a3) (fun (f,g)=>(Option.bind (B5 K 9 f) (fun a5=>(if (d.length+([(⟨a5.Op,a5.Name,a5.Int,(b.getD (Int.toNat a) Dp).Text,a5.Kids⟩:Aa)]:List Aa).length) * 72≤140737488355328 then (Option.bind (Ag K ([125]:List UInt8) g) (fun (h,e)=>(if h=true then some (X3.done (((d++([(⟨a5.Op,a5.Name,a5.Int,(b.getD (Int.toNat a) Dp).Text,a5.Kids⟩:Aa)]:List Aa)),e))) else (Option.bind (Aq K ([44]:List UInt8) e) (fun a7=>Be.l15 K R k a7.l a7.at_ a7.bad (d++([(⟨a5.Op,a5.Name,a5.Int,(b.getD (Int.toNat a) Dp).Text,a5.Kids⟩:Aa)]:List Aa))))))) else none))))))) else none) else some (X3.done (d,(⟨b,a,true⟩:Ad)))))))
def Be.F (K:Nat) (R:Ah) (p0:Ad):Option ((List Aa)×Ad):=(Option.bind (Ag K ([125]:List UInt8) p0) (fun (f,a)=>(if f=true then some (([]:List Aa),a) else (obind (Be.l15 K R K a.l a.at_ a.bad ([]:List Aa):Option (X3 ((List Aa)×Ad) ((List Ar)×Int×Bool×(List Aa)))) (fun r=>r) (fun (b,c,d,e)=>some (e,(⟨b,c,d⟩:Ad)))))))
theorem Be.body {Γ:Yg} {K:Nat} {R:Ah} (hR:R.Ok) {p0:Ad} {r:(List Aa)×Ad} (h:Be.F K R p0=some r):Yc V P 56 100 Γ (Tryz.f130.body.getD .skip) (X1 P V Tryz.f130 (.cv (.ro .Ae r.1)) [(0,.raw [.ro .Ao r.2.l,.I r.2.at_,.B r.2.bad])]) ⟨X0 0 [.P 0],[(0,.raw (Ac p0))]⟩:=by
 unfold Be.F at h;refine Xy L 200 <| Xy L 202 <| Xo <| Xo ?_;obtain ⟨⟨q,o⟩,h1,h⟩:=bind_some h;dsimp only at h;refine rg L 204 [] [] [(1,(X5 (.B q) [(0,.raw (Ac o))]))] (Xx (Ag.okE h1)) ?_;rcases Xp h with ⟨c1,h⟩ |⟨c1,h⟩
 ·refine tt c1 <| Xy L 207 <| Xq ?_;cases h;exact X7
 refine fN c1 <| Xu <| Xo <| Xw <| Xr (Xn.trans (Xn.kk [0,3] [0]) (Xn.trans (Xn.no 3 9500 Tag.Ae) (Xn.trans (Xn.kk [0,3] [0,9500]) (Xn.rr [(0,0),(9500,23100)])))) ?_;refine kp (S':=⟨[(0,.P 0),(3,.cv (.own .Ae 23100))],[(0,.raw (Ac o)),(23100,.lst .Ae ([]:List Aa))]⟩) ?_;obtain ⟨o1,hp1,h⟩:=X9 h;refine X4 (Q':=fun e S=>(e=.exit 0∧∃ i:List Ar,∃ j:Int,∃ m:Bool,∃ n:List Aa,S=⟨[(3,.cv (.own .Ae 23000))],[(0,.raw [.ro .Ao i,.I j,.B m]),(23000,.lst .Ae n)]⟩∧X3.go (i,j,m,n)=o1)∨(e=.ret∧∃ a,X3.done a=o1∧X1 P V Tryz.f130 (.cv (.ro .Ae a.1)) [(0,.raw [.ro .Ao a.2.l,.I a.2.at_,.B a.2.bad])] .ret S)) (Yb (fun k S=>∃ d:List Ar,∃ f:Int,∃ c:Bool,∃ g:List Aa,S=⟨[(0,.P 0),(3,.cv (.own .Ae 23100))],[(0,.raw [.ro .Ao d,.I f,.B c]),(23100,.lst .Ae g)]⟩∧Be.l15 K R k d f c g=some o1) ?_ ⟨_,_,_,_,rfl,hp1⟩) ?_
 ·clear h hp1;intro k S hS;obtain ⟨d,f,c,g,rfl,h⟩:=hS;cases k with
  | zero=>cases h
  | succ k =>
  unfold Be.l15 at h;refine Xo <| Xy L 210 ?_;rcases Xp h with ⟨c2,h⟩ |⟨c2,h⟩
  ·refine ff (b:=(!c)) (congrArg Bool.not (c2)) ?_;refine Xr (Xn.trans (Xn.kk [3] [0,23100]) (Xn.rr [(0,0),(23100,23000)])) ?_;refine ex (S':=⟨[(3,.cv (.own .Ae 23000))],[(0,.raw [.ro .Ao d,.I f,.B c]),(23000,.lst .Ae g)]⟩) ?_;cases h;exact .inl ⟨rfl,_,_,_,_,rfl,rfl⟩
  refine tt (b:=(!c)) (congrArg Bool.not (eq_false_of_ne_true c2)) ?_;refine Xu <| Xw <| Xo <| Xo ?_;obtain ⟨a2,h2,h⟩:=bind_some h;refine rg L 216 [] [(1,.B a2)] [] (Yw (A4.ok h2)) ?_;rcases Xp h with ⟨c3,h⟩ |⟨c3,h⟩
  ·refine ff (b:=(!a2)) (congrArg Bool.not (c3)) ?_;refine Xu <| Xo ?_;obtain ⟨g1,h⟩:=Xv h;refine rd L mixed 228 [] [] [] [] 12 (Zb g1.1 g1.2) ?_;refine Xy L 241 <| Xo ?_;obtain ⟨a3,h3,h⟩:=bind_some h;refine rg L 250 [] [] [(1,(X5 (.tup []) [(0,.raw (Ac a3))]))] (Xx (Aq.okE h3)) ?_;refine Xo ?_;obtain ⟨⟨s,t⟩,h4,h⟩:=bind_some h;dsimp only at h;obtain ⟨a5,h5,h⟩:=bind_some h;refine rg L 253 [] [(2,.agg (Aj a5))] [(1,(X5 (.agg (Aj s)) [(0,.raw (Ac t))]))] (Xt (hR.Al h4) (Xt (B5.ok h5) (Xx trivial))) ?_;refine Xy L 259 <| Xo ?_;obtain ⟨g2,h⟩:=Xv h;refine rg L 263 [] [] [] (Yw g2) ?_;refine Xo <| Xo ?_;obtain ⟨⟨u,p⟩,h6,h⟩:=bind_some h;dsimp only at h;refine rg L 269 [] [] [(1,(X5 (.B u) [(0,.raw (Ac p))]))] (Xx (Ag.okE h6)) ?_;rcases Xp h with ⟨c4,h⟩ |⟨c4,h⟩
   ·refine tt c4 <| Xy L 272 <| Xr (Xn.trans (Xn.kk [2] [0,23100]) (Xn.fz 23100)) ?_;refine Xq ?_;cases h;exact .inr ⟨rfl,_,rfl,X7⟩
   refine fN c4 <| Xu ?_;obtain ⟨a7,h7,h⟩:=bind_some h;refine ar L 275 [] [] [(1,(X5 (.tup []) [(0,.raw (Ac a7))]))] (cs:=[Xz V P 82 [.P 0,.cv (.str ([44]:List UInt8))] [(0,.raw (Ac p))] [0] (.tup []) [(0,.raw (Ac a7))]]) (S':=⟨[(0,.P 0),(3,.cv (.own .Ae 23100))],[(0,.raw (Ac a7)),(23100,.lst .Ae (g++([(⟨a5.Op,a5.Name,a5.Int,(d.getD (Int.toNat f) Dp).Text,a5.Kids⟩:Aa)]:List Aa)))]⟩) (Aq.okE h7) ?_;exact ⟨k,Nat.lt_succ_self k,_,_,_,_,rfl,h⟩
  refine tt (b:=(!a2)) (congrArg Bool.not (eq_false_of_ne_true c3)) ?_;refine Xy L 220 <| Xy L 225 <| Xr (Xn.trans (Xn.kk [2] [0,23100]) (Xn.fz 23100)) ?_;refine Xq ?_;cases h;exact .inr ⟨rfl,_,rfl,X7⟩
 ·rintro e S (⟨rfl,i,j,m,n,rfl,rfl⟩ |⟨rfl,a,rfl,hr⟩)
  ·rcases h with ⟨_,e1,h⟩ |⟨_,e1,h⟩
   ·cases e1
   ·have e2:=X3.go.inj e1;subst e2;dsimp only at h;refine ⟨_,Xn.refl,?_⟩;refine Xy L 278 <| Xr (Xn.trans (Xn.kk [2] [0,23000]) (Xn.fz 23000)) ?_;refine Xq ?_;cases h;exact X7
  ·rcases h with ⟨_,e1,h⟩ |⟨_,e1,h⟩
   ·have e2:=X3.done.inj e1;subst e2;subst h;exact ⟨_,Xn.refl,hr⟩
   ·cases e1
end Go.Proofs.YtifjagfmfkemmaaGreatDoor
