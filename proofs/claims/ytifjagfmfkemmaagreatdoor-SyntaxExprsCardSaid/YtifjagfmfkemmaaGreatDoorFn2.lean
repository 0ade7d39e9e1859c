import Derived.Test.YtifjagfmfkemmaaGreatDoorFn1
set_option linter.unusedVariables false
set_option maxHeartbeats 0
namespace Go.Proofs.YtifjagfmfkemmaaGreatDoor
open Eng
def Ce (K:Nat) (p0:Ab):Option (Int ⊕ (Aa×Ab)):=(Option.bind (Ax K p0) (fun a1=>match a1 with |(Sum.inl a1)=>some (Sum.inl a1) |(Sum.inr (a1_0,a1_1))=>(Option.bind (Aq K ([59]:List UInt8) a1_1) (fun a2=>match a2 with |(Sum.inl a2)=>some (Sum.inr (a1_0,a2)) |(Sum.inr a2)=>some (Sum.inl a2)))))
def Ce.rep (p0:Ab):Int ⊕ (Aa×Ab)→Sc T
 |(Sum.inl v0)=>.pan (Rq 49 v0)
 |(Sum.inr (v0,v1))=>.ret (.agg [.I v0.Op,.str v0.Name,.I v0.Int,.str v0.Text,.ro .Ae v0.Kids])
def Ce.post (p0:Ab):Int ⊕ (Aa×Ab)→List (Nat×Rj T)
 |(Sum.inl v0)=>[]
 |(Sum.inr (v0,v1))=>[(0,.raw [.ro .Ak v1.l,.I v1.i])]
theorem Ce.body {Γ:Rm} {K:Nat} {p0:Ab} {r:Int ⊕ (Aa×Ab)} (h:Ce K p0=some r):Ri V P 9 100 Γ (Tryz.f104.body.getD .skip) (Rr P V Tryz.f104 (Ce.rep p0 r) (Ce.post p0 r)) ⟨Q6 0 [.P 0],[(0,.raw (Af p0))]⟩:=by
 unfold Ce at h
 refine Q4 L 200 <| Qv ?_
 obtain ⟨a1,h1,h⟩:=bind_some h
 rcases a1 with a1 | a1
 ·dsimp only at h
  refine qn L 202 [] [] [] 1 (Rc (.tup []) []) (Rq 49 a1) (Q3 (Ax.okE h1)) ?_
  cases h
  exact rfl
 ·obtain ⟨a1_0,a1_1⟩:=a1
  dsimp only at h
  refine rg L 202 [] [] [(1,(Rc (.agg (Aj a1_0)) [(0,.raw (Af a1_1))]))] (Q3 (Ax.okE h1)) ?_
  refine Qv ?_
  obtain ⟨a2,h2,h⟩:=bind_some h
  rcases a2 with a2 | a2
  ·dsimp only at h
   refine rg L 207 [] [] [(1,(Rc (.tup []) [(0,.raw (Af a2))]))] (Q3 (Aq.okE h2)) ?_
   refine Q4 L 210 <| Qy (Qu.trans (Qu.kk [2] [0,200]) (Qu.rr [(0,0),(200,100)])) ?_
   refine Qx ?_
   cases h
   exact Sw
  ·obtain ⟨a2,rfl⟩:∃ z,z=a2:=⟨_,rfl⟩
   dsimp only at h
   refine qn L 207 [] [] [] 1 (Rc (.tup []) []) (Rq 49 a2) (Q3 (Aq.okE h2)) ?_
   cases h
   exact rfl
theorem Ce.okE {K:Nat} {p0:Ab} {r:Int ⊕ (Aa×Ab)} (h:Ce K p0=some r):Rp V P 104 [.P 0] [(0,.raw (Af p0))] [0] (Ce.post p0 r) (Ce.rep p0 r) :=
 xo (fn:=Tryz.f104) (n:=9) (m:=100) fun Γ=>Ce.body h
def C5 (K:Nat) (p0:Ab):Option (Int ⊕ (Aa×Ab)):=(if (0:Int)≤(if (IntKind.i64.wrap ((p0.l.length:Int) - 1)) <(IntKind.i64.wrap (p0.i+1)) then (IntKind.i64.wrap ((p0.l.length:Int) - 1)) else (IntKind.i64.wrap (p0.i+1)))∧((if (IntKind.i64.wrap ((p0.l.length:Int) - 1)) <(IntKind.i64.wrap (p0.i+1)) then (IntKind.i64.wrap ((p0.l.length:Int) - 1)) else (IntKind.i64.wrap (p0.i+1))):Int) <(p0.l.length:Int) then (Option.bind (((Option.bind (Bx K p0) (fun a1=>(if a1.Kind=1 then (if ((p0.l.getD (Int.toNat (if (IntKind.i64.wrap ((p0.l.length:Int) - 1)) <(IntKind.i64.wrap (p0.i+1)) then (IntKind.i64.wrap ((p0.l.length:Int) - 1)) else (IntKind.i64.wrap (p0.i+1)))) Dr)).Kind=5 then some ((decide (((p0.l.getD (Int.toNat (if (IntKind.i64.wrap ((p0.l.length:Int) - 1)) <(IntKind.i64.wrap (p0.i+1)) then (IntKind.i64.wrap ((p0.l.length:Int) - 1)) else (IntKind.i64.wrap (p0.i+1)))) Dr)).Text=([61]:List UInt8)))) else some false) else some false)))):Option Bool) (fun xt36_6=>(if xt36_6=true then (Option.bind (Ay K p0) (fun a2=>match a2 with |(Sum.inl a2)=>some (Sum.inl a2) |(Sum.inr (a2_0,a2_1))=>(Option.bind (Ce K (⟨a2_1.l,(IntKind.i64.wrap (a2_1.i+1))⟩:Ab)) (fun a3=>match a3 with |(Sum.inl a3)=>some (Sum.inl a3) |(Sum.inr (a3_0,a3_1))=>some (Sum.inr ((⟨41,a2_0,0,[],([(⟨a3_0.Op,a3_0.Name,a3_0.Int,a3_0.Text,a3_0.Kids⟩:Aa)]:List Aa)⟩:Aa),a3_1)))))) else (Option.bind (Ce K p0) (fun a4=>match a4 with |(Sum.inl a4)=>some (Sum.inl a4) |(Sum.inr (a4_0,a4_1))=>(Option.bind (Ct K 52 ([(⟨a4_0.Op,a4_0.Name,a4_0.Int,a4_0.Text,a4_0.Kids⟩:Aa)]:List Aa)) (fun a5=>some (Sum.inr (a5,a4_1))))))))) else none)
def C5.rep (p0:Ab):Int ⊕ (Aa×Ab)→Sc T
 |(Sum.inl v0)=>.pan (Rq 49 v0)
 |(Sum.inr (v0,v1))=>.ret (.agg [.I v0.Op,.str v0.Name,.I v0.Int,.str v0.Text,.ro .Ae v0.Kids])
def C5.post (p0:Ab):Int ⊕ (Aa×Ab)→List (Nat×Rj T)
 |(Sum.inl v0)=>[]
 |(Sum.inr (v0,v1))=>[(0,.raw [.ro .Ak v1.l,.I v1.i])]
theorem C5.body {Γ:Rm} {K:Nat} {p0:Ab} {r:Int ⊕ (Aa×Ab)} (h:C5 K p0=some r):Ri V P 55 100 Γ (Tryz.f108.body.getD .skip) (Rr P V Tryz.f108 (C5.rep p0 r) (C5.post p0 r)) ⟨Q6 0 [.P 0],[(0,.raw (Af p0))]⟩:=by
 unfold C5 at h
 refine Q4 L 200 <| Qv <| Qv ?_
 obtain ⟨g1,h⟩:=Q1 h
 refine rd L mixed 202 [] [] [] [220] 20 (Sj g1.1 g1.2) ?_
 obtain ⟨o1,hp1,h⟩:=bind_some h
 refine Qv (Rk (Q':=fun e S=>(e=.normal∧∃ xt36_6:Bool,S=⟨[(0,.P 0),(2,.P 21200),(36,.B xt36_6)],[(0,.raw (Af p0)),(21200,.raw [.I 0,.str [],.I 0,.str [],.N])]⟩∧xt36_6=o1)) ?_ ?_)
 ·clear h
  replace h:=hp1
  obtain ⟨a1,h1,h⟩:=bind_some h
  rcases Qw h with ⟨c1,h⟩ |⟨c1,h⟩
  ·rcases Qw h with ⟨c2,h⟩ |⟨c2,h⟩
   ·refine Q8 (rg L 223 [(4,true),(9,true)] [(1,.agg (D8 a1))] [] (Qz (Bx.ok h1) (Qz trivial (Qz (decide_eq_true c1) (Q3 (decide_eq_true c2))))) ⟨rfl,rfl⟩) (Qu.trans (Qu.kk [0,2,36] [0,200]) (Qu.trans (Qu.rr [(0,0),(200,21200)]) (Qu.kp (S':=⟨[(0,.P 0),(2,.P 21200),(36,.B ((decide (((p0.l.getD (Int.toNat (if (IntKind.i64.wrap ((p0.l.length:Int) - 1)) <(IntKind.i64.wrap (p0.i+1)) then (IntKind.i64.wrap ((p0.l.length:Int) - 1)) else (IntKind.i64.wrap (p0.i+1)))) Dr)).Text=([61]:List UInt8)))))],[(0,.raw (Af p0)),(21200,.raw [.I 0,.str [],.I 0,.str [],.N])]⟩)))) ?_
    cases h
    exact ⟨rfl,_,rfl,rfl⟩
   refine Q8 (rg L 223 [(4,true),(9,false)] [(1,.agg (D8 a1))] [] (Qz (Bx.ok h1) (Qz trivial (Qz (decide_eq_true c1) (Q3 (decide_eq_false c2))))) ⟨rfl,rfl⟩) (Qu.trans (Qu.kk [0,2,36] [0,200]) (Qu.trans (Qu.rr [(0,0),(200,21200)]) (Qu.kp (S':=⟨[(0,.P 0),(2,.P 21200),(36,.B false)],[(0,.raw (Af p0)),(21200,.raw [.I 0,.str [],.I 0,.str [],.N])]⟩)))) ?_
   cases h
   exact ⟨rfl,_,rfl,rfl⟩
  refine Q8 (rg L 223 [(4,false)] [(1,.agg (D8 a1))] [] (Qz (Bx.ok h1) (Qz trivial (Q3 (decide_eq_false c1)))) ⟨rfl,rfl⟩) (Qu.trans (Qu.kk [0,2,36] [0,200]) (Qu.trans (Qu.rr [(0,0),(200,21200)]) (Qu.kp (S':=⟨[(0,.P 0),(2,.P 21200),(36,.B false)],[(0,.raw (Af p0)),(21200,.raw [.I 0,.str [],.I 0,.str [],.N])]⟩)))) ?_
  cases h
  exact ⟨rfl,_,rfl,rfl⟩
 ·rintro e S ⟨rfl,xt36_6,rfl,rfl⟩
  rcases Qw h with ⟨c3,h⟩ |⟨c3,h⟩
  ·refine tt c3 <| Qv ?_
   obtain ⟨a2,h2,h⟩:=bind_some h
   rcases a2 with a2 | a2
   ·dsimp only at h
    refine qn L 238 [] [] [] 1 (Rc (.tup []) []) (Rq 49 a2) (Q3 (Ay.okE h2)) ?_
    cases h
    exact rfl
   ·obtain ⟨a2_0,a2_1⟩:=a2
    dsimp only at h
    refine rg L 238 [] [] [(1,(Rc (.cv (.str a2_0)) [(0,.raw (Af a2_1))]))] (Q3 (Ay.okE h2)) ?_
    refine Q4 L 242 <| Qv ?_
    obtain ⟨a3,h3,h⟩:=bind_some h
    rcases a3 with a3 | a3
    ·dsimp only at h
     refine qn L 251 [] [] [] 2 (Rc (.tup []) []) (Rq 49 a3) (Q3 (Ce.okE h3)) ?_
     cases h
     exact rfl
    ·obtain ⟨a3_0,a3_1⟩:=a3
     dsimp only at h
     refine rg L 251 [] [] [(2,(Rc (.agg (Aj a3_0)) [(0,.raw (Af a3_1))]))] (Q3 (Ce.okE h3)) ?_
     refine Qy (Qu.trans (Qu.kk [2] [0,21200]) (Qu.rr [(0,0),(21200,100)])) ?_
     refine Qx ?_
     cases h
     exact Sw
  refine fN c3 <| Q0 <| Qv ?_
  obtain ⟨a4,h4,h⟩:=bind_some h
  rcases a4 with a4 | a4
  ·dsimp only at h
   refine qn L 258 [] [] [] 1 (Rc (.tup []) []) (Rq 49 a4) (Q3 (Ce.okE h4)) ?_
   cases h
   exact rfl
  ·obtain ⟨a4_0,a4_1⟩:=a4
   dsimp only at h
   obtain ⟨a5,h5,h⟩:=bind_some h
   refine rg L 258 [] [(3,.agg (Aj a5))] [(1,(Rc (.agg (Aj a4_0)) [(0,.raw (Af a4_1))]))] (Qz (Ce.okE h4) (Qz (Ct.ok h5) (Q3 trivial))) ?_
   refine Qy (Qu.trans (Qu.kk [2] [0,21200]) (Qu.rr [(0,0),(21200,100)])) ?_
   refine Qx ?_
   cases h
   exact Sw
theorem C5.okE {K:Nat} {p0:Ab} {r:Int ⊕ (Aa×Ab)} (h:C5 K p0=some r):Rp V P 108 [.P 0] [(0,.raw (Af p0))] [0] (C5.post p0 r) (C5.rep p0 r) :=
 xo (fn:=Tryz.f108) (n:=55) (m:=100) fun Γ=>C5.body h
def Fm (K:Nat) (p0:Int) (p1:List Aa):Option (List Aa):=some p1
theorem Fm.body {Γ:Rm} {K:Nat} {p0:Int} {p1:List Aa} {r:List Aa} (h:Fm K p0 p1=some r):Ri V P 8 100 Γ (Tryz.f75.body.getD .skip) (Q7 P V Tryz.f75 (.agg [.I p0,.str [],.I 0,.str [],.own .Ae 0]) [(0,.lst .Ae r)]) ⟨Q6 0 [.I p0,.cv (.own .Ae 0)],[(0,.lst .Ae p1)]⟩:=by
 unfold Fm at h
 refine Q4 L 200 <| Q4 L 202 <| Qy (Qu.trans (Qu.kk [4] [0,200]) (Qu.rr [(0,0),(200,100)])) ?_
 refine Qx ?_
 cases h
 exact Rd
theorem Fm.okE {K:Nat} {p0:Int} {p1:List Aa} {r:List Aa} (h:Fm K p0 p1=some r):Q5 V P 75 [.I p0,.cv (.own .Ae 0)] [(0,.lst .Ae p1)] [0] (.agg [.I p0,.str [],.I 0,.str [],.own .Ae 0]) [(0,.lst .Ae r)] :=
 eo (fn:=Tryz.f75) (n:=8) (m:=100) fun Γ=>Fm.body h
def Bf.rep (p0:Ab):Int ⊕ (Aa×Ab)→Sc T
 |(Sum.inl v0)=>.pan (Rq 49 v0)
 |(Sum.inr (v0,v1))=>.ret (.agg [.I v0.Op,.str v0.Name,.I v0.Int,.str v0.Text,.ro .Ae v0.Kids])
def Bf.post (p0:Ab):Int ⊕ (Aa×Ab)→List (Nat×Rj T)
 |(Sum.inl v0)=>[]
 |(Sum.inr (v0,v1))=>[(0,.raw [.ro .Ak v1.l,.I v1.i])]
def Bi.rep (p0:Ab):Int ⊕ (Aa×Ab)→Sc T
 |(Sum.inl v0)=>.pan (Rq 49 v0)
 |(Sum.inr (v0,v1))=>.ret (.agg [.I v0.Op,.str v0.Name,.I v0.Int,.str v0.Text,.ro .Ae v0.Kids])
def Bi.post (p0:Ab):Int ⊕ (Aa×Ab)→List (Nat×Rj T)
 |(Sum.inl v0)=>[]
 |(Sum.inr (v0,v1))=>[(0,.raw [.ro .Ak v1.l,.I v1.i])]
def B1.rep (p0:Ab):Int ⊕ (Aa×Ab)→Sc T
 |(Sum.inl v0)=>.pan (Rq 49 v0)
 |(Sum.inr (v0,v1))=>.ret (.agg [.I v0.Op,.str v0.Name,.I v0.Int,.str v0.Text,.ro .Ae v0.Kids])
def B1.post (p0:Ab):Int ⊕ (Aa×Ab)→List (Nat×Rj T)
 |(Sum.inl v0)=>[]
 |(Sum.inr (v0,v1))=>[(0,.raw [.ro .Ak v1.l,.I v1.i])]
def Au.rep (p0:Ab):Int ⊕ (Aa×Ab)→Sc T
 |(Sum.inl v0)=>.pan (Rq 49 v0)
 |(Sum.inr (v0,v1))=>.ret (.agg [.I v0.Op,.str v0.Name,.I v0.Int,.str v0.Text,.ro .Ae v0.Kids])
def Au.post (p0:Ab):Int ⊕ (Aa×Ab)→List (Nat×Rj T)
 |(Sum.inl v0)=>[]
 |(Sum.inr (v0,v1))=>[(0,.raw [.ro .Ak v1.l,.I v1.i])]
structure Bj where
 Bf:Ab→Option (Int ⊕ (Aa×Ab))
 Bi:Ab→Option (Int ⊕ (Aa×Ab))
 B1:Ab→Option (Int ⊕ (Aa×Ab))
 Au:Ab→Option (Int ⊕ (Aa×Ab))
structure Bj.Ok (R:Bj):Prop where
 Bf:∀ {p0:Ab} {r:Int ⊕ (Aa×Ab)},R.Bf p0=some r→Rp V P 105 [.P 0] [(0,.raw (Af p0))] [0] (Bf.post p0 r) (Bf.rep p0 r)
 Bi:∀ {p0:Ab} {r:Int ⊕ (Aa×Ab)},R.Bi p0=some r→Rp V P 107 [.P 0] [(0,.raw (Af p0))] [0] (Bi.post p0 r) (Bi.rep p0 r)
 B1:∀ {p0:Ab} {r:Int ⊕ (Aa×Ab)},R.B1 p0=some r→Rp V P 77 [.P 0] [(0,.raw (Af p0))] [0] (B1.post p0 r) (B1.rep p0 r)
 Au:∀ {p0:Ab} {r:Int ⊕ (Aa×Ab)},R.Au p0=some r→Rp V P 50 [.P 0] [(0,.raw (Af p0))] [0] (Au.post p0 r) (Au.rep p0 r)
def Bf.F (K:Nat) (R:Bj) (p0:Ab):Option (Int ⊕ (Aa×Ab)):=(Option.bind (Ax K p0) (fun a1=>match a1 with |(Sum.inl a1)=>some (Sum.inl a1) |(Sum.inr (a1_0,a1_1))=>(Option.bind (R.Au a1_1) (fun a2=>match a2 with |(Sum.inl a2)=>some (Sum.inl a2) |(Sum.inr (a2_0,a2_1))=>(Option.bind (Fm K 42 ([(⟨a1_0.Op,a1_0.Name,a1_0.Int,a1_0.Text,a1_0.Kids⟩:Aa),(⟨a2_0.Op,a2_0.Name,a2_0.Int,a2_0.Text,a2_0.Kids⟩:Aa)]:List Aa)) (fun a3=>(Option.bind (Ao K ([101,108,115,101]:List UInt8) a2_1) (fun (a4_0,a4_1)=>(if a4_0=true then (Option.bind (Ao K ([105,102]:List UInt8) a4_1) (fun (a5_0,a5_1)=>(if a5_0=true then (Option.bind (R.Bf a5_1) (fun a6=>match a6 with |(Sum.inl a6)=>some (Sum.inl a6) |(Sum.inr (a6_0,a6_1))=>(if (a3.length+([(⟨a6_0.Op,a6_0.Name,a6_0.Int,a6_0.Text,a6_0.Kids⟩:Aa)]:List Aa).length) * 72≤140737488355328 then some ((Sum.inr ((⟨42,[],0,[],(a3++([(⟨a6_0.Op,a6_0.Name,a6_0.Int,a6_0.Text,a6_0.Kids⟩:Aa)]:List Aa))⟩:Aa),a6_1))) else none))) else (Option.bind (R.Au a5_1) (fun a7=>match a7 with |(Sum.inl a7)=>some (Sum.inl a7) |(Sum.inr (a7_0,a7_1))=>(if (a3.length+([(⟨a7_0.Op,a7_0.Name,a7_0.Int,a7_0.Text,a7_0.Kids⟩:Aa)]:List Aa).length) * 72≤140737488355328 then some ((Sum.inr ((⟨42,[],0,[],(a3++([(⟨a7_0.Op,a7_0.Name,a7_0.Int,a7_0.Text,a7_0.Kids⟩:Aa)]:List Aa))⟩:Aa),a7_1))) else none)))))) else some (Sum.inr ((⟨42,[],0,[],a3⟩:Aa),a4_1)))))))))))
theorem Bf.body {Γ:Rm} {K:Nat} {R:Bj} (hR:R.Ok) {p0:Ab} {r:Int ⊕ (Aa×Ab)} (h:Bf.F K R p0=some r):Ri V P 31 100 Γ (Tryz.f105.body.getD .skip) (Rr P V Tryz.f105 (Bf.rep p0 r) (Bf.post p0 r)) ⟨Q6 0 [.P 0],[(0,.raw (Af p0))]⟩:=by
 unfold Bf.F at h
 refine Q4 L 200 <| Qv ?_
 obtain ⟨a1,h1,h⟩:=bind_some h
 rcases a1 with a1 | a1
 ·dsimp only at h
  refine qn L 100202 [] [] [] 1 (Rc (.tup []) []) (Rq 49 a1) (Q3 (Ax.okE h1)) ?_
  cases h
  exact rfl
 ·obtain ⟨a1_0,a1_1⟩:=a1
  dsimp only at h
  obtain ⟨a2,h2,h⟩:=bind_some h
  rcases a2 with a2 | a2
  ·dsimp only at h
   refine qn L 100202 [] [] [(1,(Rc (.agg (Aj a1_0)) [(0,.raw (Af a1_1))]))] 3 (Rc (.tup []) []) (Rq 49 a2) (Sj (Ax.okE h1) (hR.Au h2)) ?_
   cases h
   exact rfl
  ·obtain ⟨a2_0,a2_1⟩:=a2
   dsimp only at h
   obtain ⟨a3,h3,h⟩:=bind_some h
   refine rg L 100202 [] [] [(1,(Rc (.agg (Aj a1_0)) [(0,.raw (Af a1_1))])),(3,(Rc (.agg (Aj a2_0)) [(0,.raw (Af a2_1))])),(5,(ef [0] [0] (.agg [.I 42,.str [],.I 0,.str [],.own .Ae 0]) [(0,.lst .Ae a3)] [(0,100206)]))] (Qz (Ax.okE h1) (Qz (hR.Au h2) (Q3 (Fm.okE h3)))) ?_
   refine Qv <| Qv ?_
   obtain ⟨⟨a4_0,a4_1⟩,h4,h⟩:=bind_some h
   dsimp only at h
   refine rg L 211 [] [] [(1,(Rc (.B a4_0) [(0,.raw (Af a4_1))]))] (Q3 (Ao.okE h4)) ?_
   rcases Qw h with ⟨c1,h⟩ |⟨c1,h⟩
   ·refine ff (b:=(!a4_0)) (congrArg Bool.not (c1)) ?_
    refine Q0 <| Qv <| Qv ?_
    obtain ⟨⟨a5_0,a5_1⟩,h5,h⟩:=bind_some h
    dsimp only at h
    refine rg L 218 [] [] [(1,(Rc (.B a5_0) [(0,.raw (Af a5_1))]))] (Q3 (Ao.okE h5)) ?_
    rcases Qw h with ⟨c2,h⟩ |⟨c2,h⟩
    ·refine tt c2 ?_
     obtain ⟨a6,h6,h⟩:=bind_some h
     rcases a6 with a6 | a6
     ·dsimp only at h
      refine qP L mixed 221 [] [] [] [0,2] 3 (Rc (.tup []) []) (Rq 49 a6) (Sj (hR.Bf h6) (hR.Bf h6)) ?_
      cases h
      exact rfl
     ·obtain ⟨a6_0,a6_1⟩:=a6
      dsimp only at h
      obtain ⟨g1,h⟩:=Q1 h
      refine hB L mixed 221 [] [] [(3,(Rc (.agg (Aj a6_0)) [(0,.raw (Af a6_1))]))] [0,2] 3 (Qz (hR.Bf h6) (Qz g1 (Qz trivial (Qz (hR.Bf h6) (Qz g1 (Qz trivial (Qz g1 (Q3 trivial)))))))) (S':=⟨[(2,.P 200),(3,.P 100208)],[(0,.raw (Af a6_1)),(200,.raw [.I 0,.str [],.I 0,.str [],.N]),(100206,.lst .Ae (a3++([(⟨a6_0.Op,a6_0.Name,a6_0.Int,a6_0.Text,a6_0.Kids⟩:Aa)]:List Aa))),(100208,.raw [.I 42,.str [],.I 0,.str [],.own .Ae 100206])]⟩) ?_
      refine Q4 L 239 <| Qy (Qu.trans (Qu.kk [2] [0,200,100206]) (Qu.trans (Qu.fz 100206) (Qu.rr [(0,0),(200,100)]))) ?_
      refine Qx ?_
      cases h
      exact Sw
    refine fN c2 ?_
    obtain ⟨a7,h7,h⟩:=bind_some h
    rcases a7 with a7 | a7
    ·dsimp only at h
     refine qP L mixed 230 [] [] [] [0,2] 3 (Rc (.tup []) []) (Rq 49 a7) (Sj (hR.Au h7) (hR.Au h7)) ?_
     cases h
     exact rfl
    ·obtain ⟨a7_0,a7_1⟩:=a7
     dsimp only at h
     obtain ⟨g2,h⟩:=Q1 h
     refine hB L mixed 230 [] [] [(3,(Rc (.agg (Aj a7_0)) [(0,.raw (Af a7_1))]))] [0,2] 3 (Qz (hR.Au h7) (Qz g2 (Qz trivial (Qz (hR.Au h7) (Qz g2 (Qz trivial (Qz g2 (Q3 trivial)))))))) (S':=⟨[(2,.P 200),(3,.P 100208)],[(0,.raw (Af a7_1)),(200,.raw [.I 0,.str [],.I 0,.str [],.N]),(100206,.lst .Ae (a3++([(⟨a7_0.Op,a7_0.Name,a7_0.Int,a7_0.Text,a7_0.Kids⟩:Aa)]:List Aa))),(100208,.raw [.I 42,.str [],.I 0,.str [],.own .Ae 100206])]⟩) ?_
     refine Q4 L 239 <| Qy (Qu.trans (Qu.kk [2] [0,200,100206]) (Qu.trans (Qu.fz 100206) (Qu.rr [(0,0),(200,100)]))) ?_
     refine Qx ?_
     cases h
     exact Sw
   refine tt (b:=(!a4_0)) (congrArg Bool.not (eq_false_of_ne_true c1)) ?_
   refine Q4 L 215 <| Qy (Qu.trans (Qu.kk [2] [0,200,100206]) (Qu.trans (Qu.fz 100206) (Qu.rr [(0,0),(200,100)]))) ?_
   refine Qx ?_
   cases h
   exact Sw
def Bi.l9 (K:Nat) (R:Bj):Nat→(List Al)→Int→(List Aa)→Option (Q9 (Int ⊕ (Aa×Ab)) ((List Al)×Int×(List Aa)))
 | 0,_,_,_=>none
 | k+1,xh0_0_9h,xh0_1_9h,x21902=>(Option.bind (D7 K (⟨xh0_0_9h,xh0_1_9h⟩:Ab) ([99,97,115,101]:List UInt8)) (fun a2=>(if a2=true then (if (x21902.length:Int)=16 then (Option.bind (Bl K (⟨xh0_0_9h,xh0_1_9h⟩:Ab)) (fun a3=>some (Q9.done (Sum.inl a3)))) else (obind (((if (0:Int)≤(if (IntKind.i64.wrap ((xh0_0_9h.length:Int) - 1)) <(IntKind.i64.wrap ((IntKind.i64.wrap (xh0_1_9h+1))+1)) then (IntKind.i64.wrap ((xh0_0_9h.length:Int) - 1)) else (IntKind.i64.wrap ((IntKind.i64.wrap (xh0_1_9h+1))+1)))∧((if (IntKind.i64.wrap ((xh0_0_9h.length:Int) - 1)) <(IntKind.i64.wrap ((IntKind.i64.wrap (xh0_1_9h+1))+1)) then (IntKind.i64.wrap ((xh0_0_9h.length:Int) - 1)) else (IntKind.i64.wrap ((IntKind.i64.wrap (xh0_1_9h+1))+1))):Int) <(xh0_0_9h.length:Int) then (Option.bind (((Option.bind (Bx K (⟨xh0_0_9h,(IntKind.i64.wrap (xh0_1_9h+1))⟩:Ab)) (fun a4=>(if a4.Kind=1 then (if ((xh0_0_9h.getD (Int.toNat (if (IntKind.i64.wrap ((xh0_0_9h.length:Int) - 1)) <(IntKind.i64.wrap ((IntKind.i64.wrap (xh0_1_9h+1))+1)) then (IntKind.i64.wrap ((xh0_0_9h.length:Int) - 1)) else (IntKind.i64.wrap ((IntKind.i64.wrap (xh0_1_9h+1))+1)))) Dr)).Kind=5 then some ((decide (((xh0_0_9h.getD (Int.toNat (if (IntKind.i64.wrap ((xh0_0_9h.length:Int) - 1)) <(IntKind.i64.wrap ((IntKind.i64.wrap (xh0_1_9h+1))+1)) then (IntKind.i64.wrap ((xh0_0_9h.length:Int) - 1)) else (IntKind.i64.wrap ((IntKind.i64.wrap (xh0_1_9h+1))+1)))) Dr)).Text=([61]:List UInt8)))) else some false) else some false)))):Option Bool) (fun xt56_30=>(if xt56_30=true then (Option.bind (Ay K (⟨xh0_0_9h,(IntKind.i64.wrap (xh0_1_9h+1))⟩:Ab)) (fun a5=>match a5 with |(Sum.inl a5)=>some (Q9.done (Sum.inl a5)) |(Sum.inr (a5_0,a5_1))=>some (Q9.go (a5_1.l,(IntKind.i64.wrap (a5_1.i+1)),a5_0)))) else some (Q9.go (xh0_0_9h,(IntKind.i64.wrap (xh0_1_9h+1)),[]))))) else none)):Option (Q9 (Int ⊕ (Aa×Ab)) ((List Al)×Int×(List UInt8)))) Q9.done (fun (xh0_0_27,xh0_1_27,x25402_1)=>(Option.bind (Ax K (⟨xh0_0_27,xh0_1_27⟩:Ab)) (fun a6=>match a6 with |(Sum.inl a6)=>some (Q9.done (Sum.inl a6)) |(Sum.inr (a6_0,a6_1))=>(Option.bind (R.Au a6_1) (fun a7=>match a7 with |(Sum.inl a7)=>some (Q9.done (Sum.inl a7)) |(Sum.inr (a7_0,a7_1))=>(if (x21902.length+([(⟨50,x25402_1,0,[],([(⟨a6_0.Op,a6_0.Name,a6_0.Int,a6_0.Text,a6_0.Kids⟩:Aa),(⟨a7_0.Op,a7_0.Name,a7_0.Int,a7_0.Text,a7_0.Kids⟩:Aa)]:List Aa)⟩:Aa)]:List Aa).length) * 72≤140737488355328 then Bi.l9 K R k a7_1.l a7_1.i (x21902++([(⟨50,x25402_1,0,[],([(⟨a6_0.Op,a6_0.Name,a6_0.Int,a6_0.Text,a6_0.Kids⟩:Aa),(⟨a7_0.Op,a7_0.Name,a7_0.Int,a7_0.Text,a7_0.Kids⟩:Aa)]:List Aa)⟩:Aa)]:List Aa)) else none)))))))) else some (Q9.go (xh0_0_9h,xh0_1_9h,x21902)))))
def Bi.F (K:Nat) (R:Bj) (p0:Ab):Option (Int ⊕ (Aa×Ab)):=(Option.bind (Aq K ([123]:List UInt8) p0) (fun a1=>match a1 with |(Sum.inl a1)=>(obind (Bi.l9 K R K a1.l a1.i ([]:List Aa):Option (Q9 (Int ⊕ (Aa×Ab)) ((List Al)×Int×(List Aa)))) (fun r=>r) (fun (xh0_0_9,xh0_1_9,x21802)=>(obind (((Option.bind (Ao K ([101,108,115,101]:List UInt8) (⟨xh0_0_9,xh0_1_9⟩:Ab)) (fun (a8_0,a8_1)=>(if a8_0=true then (Option.bind (R.Au a8_1) (fun a9=>match a9 with |(Sum.inl a9)=>some (Q9.done (Sum.inl a9)) |(Sum.inr (a9_0,a9_1))=>(Option.bind (Ct K 51 ([(⟨a9_0.Op,a9_0.Name,a9_0.Int,a9_0.Text,a9_0.Kids⟩:Aa)]:List Aa)) (fun a10=>(if (x21802.length+([(⟨a10.Op,a10.Name,a10.Int,a10.Text,a10.Kids⟩:Aa)]:List Aa).length) * 72≤140737488355328 then some (Q9.go (a9_1.l,a9_1.i,(x21802++([(⟨a10.Op,a10.Name,a10.Int,a10.Text,a10.Kids⟩:Aa)]:List Aa)))) else none))))) else some (Q9.go (a8_1.l,a8_1.i,x21802)))))):Option (Q9 (Int ⊕ (Aa×Ab)) ((List Al)×Int×(List Aa)))) (fun r=>r) (fun (xh0_0_40,xh0_1_40,x28002)=>(if (x28002.length:Int)=0 then (Option.bind (Bl K (⟨xh0_0_40,xh0_1_40⟩:Ab)) (fun a11=>some (Sum.inl a11))) else (Option.bind (Aq K ([125]:List UInt8) (⟨xh0_0_40,xh0_1_40⟩:Ab)) (fun a12=>match a12 with |(Sum.inl a12)=>some (Sum.inr ((⟨49,[],0,[],x28002⟩:Aa),a12)) |(Sum.inr a12)=>some (Sum.inl a12)))))))) |(Sum.inr a1)=>some (Sum.inl a1)))
theorem Bi.body {Γ:Rm} {K:Nat} {R:Bj} (hR:R.Ok) {p0:Ab} {r:Int ⊕ (Aa×Ab)} (h:Bi.F K R p0=some r):Ri V P 99 100 Γ (Tryz.f107.body.getD .skip) (Rr P V Tryz.f107 (Bi.rep p0 r) (Bi.post p0 r)) ⟨Q6 0 [.P 0],[(0,.raw (Af p0))]⟩:=by
 unfold Bi.F at h
 refine Q4 L 200 <| Q4 L 202 <| Qv ?_
 obtain ⟨a1,h1,h⟩:=bind_some h
 rcases a1 with a1 | a1
 ·dsimp only at h
  refine rg L 206 [] [] [(1,(Rc (.tup []) [(0,.raw (Af a1))]))] (Q3 (Aq.okE h1)) ?_
  refine Qv <| Q2 <| Qy (Qu.trans (Qu.kk [0,2,3] [0,200,203]) (Qu.trans (Qu.nc 203 4 9500 Tag.Ae) (Qu.trans (Qu.kk [0,2,3] [0,200,203,9500]) (Qu.rr [(0,0),(200,21900),(203,21901),(9500,21902)])))) ?_
  refine kp (S':=⟨[(0,.P 0),(2,.P 21900),(3,.P 21901)],[(0,.raw (Af a1)),(21900,.raw [.I 0,.str [],.I 0,.str [],.N]),(21901,.raw [.I 49,.str [],.I 0,.str [],.own .Ae 21902]),(21902,.lst .Ae ([]:List Aa))]⟩) ?_
  obtain ⟨o3,hp3,h⟩:=Rf h
  refine Ra (Q':=fun e S=>(e=.exit 0∧∃ xh0_0_9:List Al,∃ xh0_1_9:Int,∃ x21802:List Aa,S=⟨[(0,.P 0),(2,.P 21800),(3,.P 21801)],[(0,.raw [.ro .Ak xh0_0_9,.I xh0_1_9]),(21800,.raw [.I 0,.str [],.I 0,.str [],.N]),(21801,.raw [.I 49,.str [],.I 0,.str [],.own .Ae 21802]),(21802,.lst .Ae x21802)]⟩∧Q9.go (xh0_0_9,xh0_1_9,x21802)=o3)∨((e=.ret∨∃ ch,e=.panic ch)∧∃ a,Q9.done a=o3∧Rr P V Tryz.f107 (Bi.rep p0 a) (Bi.post p0 a) e S)) (Rh (fun k S=>∃ xh0_0_9h:List Al,∃ xh0_1_9h:Int,∃ x21902:List Aa,S=⟨[(0,.P 0),(2,.P 21900),(3,.P 21901)],[(0,.raw [.ro .Ak xh0_0_9h,.I xh0_1_9h]),(21900,.raw [.I 0,.str [],.I 0,.str [],.N]),(21901,.raw [.I 49,.str [],.I 0,.str [],.own .Ae 21902]),(21902,.lst .Ae x21902)]⟩∧Bi.l9 K R k xh0_0_9h xh0_1_9h x21902=some o3) ?_ ⟨_,_,_,rfl,hp3⟩) ?_
  ·clear h hp3
   intro k S hS
   obtain ⟨xh0_0_9h,xh0_1_9h,x21902,rfl,h⟩:=hS
   cases k with
   | zero=>cases h
   | succ k =>
   unfold Bi.l9 at h
   refine Qv <| Qv ?_
   obtain ⟨a2,h2,h⟩:=bind_some h
   refine rg L 209 [] [(1,.B a2)] [] (R6 (D7.ok h2)) ?_
   rcases Qw h with ⟨c1,h⟩ |⟨c1,h⟩
   ·refine tt c1 <| Q0 <| Q2 <| Qv <| Q4 L 212 ?_
    rcases Qw h with ⟨c2,h⟩ |⟨c2,h⟩
    ·refine tT c2 ?_
     obtain ⟨a3,h3,h⟩:=bind_some h
     refine qn L 217 [] [] [] 1 (Rc (.tup []) []) (Rq 49 a3) (Q3 (Bl.okE h3)) ?_
     cases h
     exact .inr ⟨.inr ⟨_,rfl⟩,_,rfl,rfl⟩
    refine fF c2 <| Q0 <| Q4 L 220 <| Q4 L 229 ?_
    obtain ⟨o2,hp2,h⟩:=Rf h
    refine Qv (Rk (Q':=fun e S=>(e=.normal∧∃ xh0_0_27:List Al,∃ xh0_1_27:Int,∃ x25402_1:List UInt8,S=⟨[(0,.P 0),(2,.P 25400),(3,.P 25401),(4,.P 25402)],[(0,.raw [.ro .Ak xh0_0_27,.I xh0_1_27]),(25400,.raw [.I 0,.str [],.I 0,.str [],.N]),(25401,.raw [.I 49,.str [],.I 0,.str [],.own .Ae 25403]),(25402,.raw [.I 50,.str x25402_1,.I 0,.str [],.N]),(25403,.lst .Ae x21902)]⟩∧Q9.go (xh0_0_27,xh0_1_27,x25402_1)=o2)∨((e=.ret∨∃ ch,e=.panic ch)∧∃ a,Q9.done a=o2∧Rr P V Tryz.f107 (Bi.rep p0 a) (Bi.post p0 a) e S)) ?_ ?_)
    ·clear h
     replace h:=hp2
     refine Qv ?_
     obtain ⟨g1,h⟩:=Q1 h
     refine rd L mixed 233 [] [] [] [251] 20 (Sj g1.1 g1.2) ?_
     obtain ⟨o1,hp1,h⟩:=bind_some h
     refine Qv (Rk (Q':=fun e S=>(e=.normal∧∃ xt56_30:Bool,S=⟨[(0,.P 0),(2,.P 26000),(3,.P 26001),(4,.P 26002),(56,.B xt56_30)],[(0,.raw [.ro .Ak xh0_0_9h,.I (IntKind.i64.wrap (xh0_1_9h+1))]),(26000,.raw [.I 0,.str [],.I 0,.str [],.N]),(26001,.raw [.I 49,.str [],.I 0,.str [],.own .Ae 26003]),(26002,.raw [.I 50,.str [],.I 0,.str [],.N]),(26003,.lst .Ae x21902)]⟩∧xt56_30=o1)) ?_ ?_)
     ·clear h
      replace h:=hp1
      obtain ⟨a4,h4,h⟩:=bind_some h
      rcases Qw h with ⟨c3,h⟩ |⟨c3,h⟩
      ·rcases Qw h with ⟨c4,h⟩ |⟨c4,h⟩
       ·refine Q8 (rg L 254 [(4,true),(9,true)] [(1,.agg (D8 a4))] [] (Qz (Bx.ok h4) (Qz trivial (Qz (decide_eq_true c3) (Q3 (decide_eq_true c4))))) ⟨rfl,rfl⟩) (Qu.trans (Qu.kk [0,2,3,4,56] [0,230,21900,21901,21902]) (Qu.trans (Qu.rr [(0,0),(230,26002),(21900,26000),(21901,26001),(21902,26003)]) (Qu.kp (S':=⟨[(0,.P 0),(2,.P 26000),(3,.P 26001),(4,.P 26002),(56,.B ((decide (((xh0_0_9h.getD (Int.toNat (if (IntKind.i64.wrap ((xh0_0_9h.length:Int) - 1)) <(IntKind.i64.wrap ((IntKind.i64.wrap (xh0_1_9h+1))+1)) then (IntKind.i64.wrap ((xh0_0_9h.length:Int) - 1)) else (IntKind.i64.wrap ((IntKind.i64.wrap (xh0_1_9h+1))+1)))) Dr)).Text=([61]:List UInt8)))))],[(0,.raw [.ro .Ak xh0_0_9h,.I (IntKind.i64.wrap (xh0_1_9h+1))]),(26000,.raw [.I 0,.str [],.I 0,.str [],.N]),(26001,.raw [.I 49,.str [],.I 0,.str [],.own .Ae 26003]),(26002,.raw [.I 50,.str [],.I 0,.str [],.N]),(26003,.lst .Ae x21902)]⟩)))) ?_
        cases h
        exact ⟨rfl,_,rfl,rfl⟩
       refine Q8 (rg L 254 [(4,true),(9,false)] [(1,.agg (D8 a4))] [] (Qz (Bx.ok h4) (Qz trivial (Qz (decide_eq_true c3) (Q3 (decide_eq_false c4))))) ⟨rfl,rfl⟩) (Qu.trans (Qu.kk [0,2,3,4,56] [0,230,21900,21901,21902]) (Qu.trans (Qu.rr [(0,0),(230,26002),(21900,26000),(21901,26001),(21902,26003)]) (Qu.kp (S':=⟨[(0,.P 0),(2,.P 26000),(3,.P 26001),(4,.P 26002),(56,.B false)],[(0,.raw [.ro .Ak xh0_0_9h,.I (IntKind.i64.wrap (xh0_1_9h+1))]),(26000,.raw [.I 0,.str [],.I 0,.str [],.N]),(26001,.raw [.I 49,.str [],.I 0,.str [],.own .Ae 26003]),(26002,.raw [.I 50,.str [],.I 0,.str [],.N]),(26003,.lst .Ae x21902)]⟩)))) ?_
       cases h
       exact ⟨rfl,_,rfl,rfl⟩
      refine Q8 (rg L 254 [(4,false)] [(1,.agg (D8 a4))] [] (Qz (Bx.ok h4) (Qz trivial (Q3 (decide_eq_false c3)))) ⟨rfl,rfl⟩) (Qu.trans (Qu.kk [0,2,3,4,56] [0,230,21900,21901,21902]) (Qu.trans (Qu.rr [(0,0),(230,26002),(21900,26000),(21901,26001),(21902,26003)]) (Qu.kp (S':=⟨[(0,.P 0),(2,.P 26000),(3,.P 26001),(4,.P 26002),(56,.B false)],[(0,.raw [.ro .Ak xh0_0_9h,.I (IntKind.i64.wrap (xh0_1_9h+1))]),(26000,.raw [.I 0,.str [],.I 0,.str [],.N]),(26001,.raw [.I 49,.str [],.I 0,.str [],.own .Ae 26003]),(26002,.raw [.I 50,.str [],.I 0,.str [],.N]),(26003,.lst .Ae x21902)]⟩)))) ?_
      cases h
      exact ⟨rfl,_,rfl,rfl⟩
     ·rintro e S ⟨rfl,xt56_30,rfl,rfl⟩
      rcases Qw h with ⟨c5,h⟩ |⟨c5,h⟩
      ·refine tt c5 <| Qv ?_
       obtain ⟨a5,h5,h⟩:=bind_some h
       rcases a5 with a5 | a5
       ·dsimp only at h
        refine qn L 269 [] [] [] 1 (Rc (.tup []) []) (Rq 49 a5) (Q3 (Ay.okE h5)) ?_
        cases h
        exact .inr ⟨.inr ⟨_,rfl⟩,_,rfl,rfl⟩
       ·obtain ⟨a5_0,a5_1⟩:=a5
        dsimp only at h
        refine rg L 269 [] [] [(1,(Rc (.cv (.str a5_0)) [(0,.raw (Af a5_1))]))] (Q3 (Ay.okE h5)) ?_
        refine Q8 (Ul L 274 ⟨rfl,rfl⟩) (Qu.trans (Qu.kk [0,2,3,4] [0,26000,26001,26002,26003]) (Qu.trans (Qu.rr [(0,0),(26000,25400),(26001,25401),(26002,25402),(26003,25403)]) (Qu.kp (S':=⟨[(0,.P 0),(2,.P 25400),(3,.P 25401),(4,.P 25402)],[(0,.raw [.ro .Ak a5_1.l,.I (IntKind.i64.wrap (a5_1.i+1))]),(25400,.raw [.I 0,.str [],.I 0,.str [],.N]),(25401,.raw [.I 49,.str [],.I 0,.str [],.own .Ae 25403]),(25402,.raw [.I 50,.str a5_0,.I 0,.str [],.N]),(25403,.lst .Ae x21902)]⟩)))) ?_
        cases h
        exact .inl ⟨rfl,_,_,_,rfl,rfl⟩
      refine fN c5 <| Qy (Qu.trans (Qu.kk [0,2,3,4] [0,26000,26001,26002,26003]) (Qu.rr [(0,0),(26000,25400),(26001,25401),(26002,25402),(26003,25403)])) ?_
      refine sk (S':=⟨[(0,.P 0),(2,.P 25400),(3,.P 25401),(4,.P 25402)],[(0,.raw [.ro .Ak xh0_0_9h,.I (IntKind.i64.wrap (xh0_1_9h+1))]),(25400,.raw [.I 0,.str [],.I 0,.str [],.N]),(25401,.raw [.I 49,.str [],.I 0,.str [],.own .Ae 25403]),(25402,.raw [.I 50,.str [],.I 0,.str [],.N]),(25403,.lst .Ae x21902)]⟩) ?_
      cases h
      exact .inl ⟨rfl,_,_,_,rfl,rfl⟩
    ·rintro e S (⟨rfl,xh0_0_27,xh0_1_27,x25402_1,rfl,rfl⟩ |⟨he,a,rfl,hr⟩)
     ·rcases h with ⟨_,e1,h⟩ |⟨_,e1,h⟩
      ·cases e1
      ·have e2:=Q9.go.inj e1
       subst e2
       dsimp only at h
       refine Qv ?_
       obtain ⟨a6,h6,h⟩:=bind_some h
       rcases a6 with a6 | a6
       ·dsimp only at h
        refine qn L 283 [] [] [] 1 (Rc (.tup []) []) (Rq 49 a6) (Q3 (Ax.okE h6)) ?_
        cases h
        exact .inr ⟨.inr ⟨_,rfl⟩,_,rfl,rfl⟩
       ·obtain ⟨a6_0,a6_1⟩:=a6
        dsimp only at h
        obtain ⟨a7,h7,h⟩:=bind_some h
        rcases a7 with a7 | a7
        ·dsimp only at h
         refine qn L 283 [] [] [(1,(Rc (.agg (Aj a6_0)) [(0,.raw (Af a6_1))]))] 3 (Rc (.tup []) []) (Rq 49 a7) (Sj (Ax.okE h6) (hR.Au h7)) ?_
         cases h
         exact .inr ⟨.inr ⟨_,rfl⟩,_,rfl,rfl⟩
        ·obtain ⟨a7_0,a7_1⟩:=a7
         dsimp only at h
         refine rg L 283 [] [] [(1,(Rc (.agg (Aj a6_0)) [(0,.raw (Af a6_1))])),(3,(Rc (.agg (Aj a7_0)) [(0,.raw (Af a7_1))]))] (Sj (Ax.okE h6) (hR.Au h7)) ?_
         obtain ⟨g2,h⟩:=Q1 h
         refine Q8 (rg L 291 [] [] [] (R6 g2) ⟨rfl,rfl⟩) (Qu.trans (Qu.kk [0,2,3] [0,25400,25401,25403]) (Qu.trans (Qu.rr [(0,0),(25400,21900),(25401,21901),(25403,21902)]) (Qu.kp (S':=⟨[(0,.P 0),(2,.P 21900),(3,.P 21901)],[(0,.raw (Af a7_1)),(21900,.raw [.I 0,.str [],.I 0,.str [],.N]),(21901,.raw [.I 49,.str [],.I 0,.str [],.own .Ae 21902]),(21902,.lst .Ae (x21902++([(⟨50,x25402_1,0,[],([(⟨a6_0.Op,a6_0.Name,a6_0.Int,a6_0.Text,a6_0.Kids⟩:Aa),(⟨a7_0.Op,a7_0.Name,a7_0.Int,a7_0.Text,a7_0.Kids⟩:Aa)]:List Aa)⟩:Aa)]:List Aa)))]⟩)))) ?_
         exact ⟨k,Nat.lt_succ_self k,_,_,_,rfl,h⟩
     ·rcases h with ⟨_,e1,h⟩ |⟨_,e1,h⟩
      ·have e2:=Q9.done.inj e1
       subst e2
       subst h
       rcases he with rfl |⟨ch,rfl⟩
       ·exact .inr ⟨.inl rfl,_,rfl,hr⟩
       ·exact .inr ⟨.inr ⟨_,rfl⟩,_,rfl,hr⟩
      ·cases e1
   refine fN c1 <| Qy (Qu.trans (Qu.kk [0,2,3] [0,21900,21901,21902]) (Qu.rr [(0,0),(21900,21800),(21901,21801),(21902,21802)])) ?_
   refine ex (S':=⟨[(0,.P 0),(2,.P 21800),(3,.P 21801)],[(0,.raw [.ro .Ak xh0_0_9h,.I xh0_1_9h]),(21800,.raw [.I 0,.str [],.I 0,.str [],.N]),(21801,.raw [.I 49,.str [],.I 0,.str [],.own .Ae 21802]),(21802,.lst .Ae x21902)]⟩) ?_
   cases h
   exact .inl ⟨rfl,_,_,_,rfl,rfl⟩
  ·rintro e S (⟨rfl,xh0_0_9,xh0_1_9,x21802,rfl,rfl⟩ |⟨he,a,rfl,hr⟩)
   ·rcases h with ⟨_,e1,h⟩ |⟨_,e1,h⟩
    ·cases e1
    ·have e2:=Q9.go.inj e1
     subst e2
     dsimp only at h
     refine ⟨_,Qu.refl,?_⟩
     obtain ⟨o4,hp4,h⟩:=Rf h
     refine Qv (Rk (Q':=fun e S=>(e=.normal∧∃ xh0_0_40:List Al,∃ xh0_1_40:Int,∃ x28002:List Aa,S=⟨[(0,.P 0),(2,.P 28000),(3,.P 28001)],[(0,.raw [.ro .Ak xh0_0_40,.I xh0_1_40]),(28000,.raw [.I 0,.str [],.I 0,.str [],.N]),(28001,.raw [.I 49,.str [],.I 0,.str [],.own .Ae 28002]),(28002,.lst .Ae x28002)]⟩∧Q9.go (xh0_0_40,xh0_1_40,x28002)=o4)∨((e=.ret∨∃ ch,e=.panic ch)∧∃ a,Q9.done a=o4∧Rr P V Tryz.f107 (Bi.rep p0 a) (Bi.post p0 a) e S)) ?_ ?_)
     ·clear h
      replace h:=hp4
      refine Qv ?_
      obtain ⟨⟨a8_0,a8_1⟩,h8,h⟩:=bind_some h
      dsimp only at h
      refine rg L 299 [] [] [(1,(Rc (.B a8_0) [(0,.raw (Af a8_1))]))] (Q3 (Ao.okE h8)) ?_
      rcases Qw h with ⟨c6,h⟩ |⟨c6,h⟩
      ·refine tt c6 ?_
       obtain ⟨a9,h9,h⟩:=bind_some h
       rcases a9 with a9 | a9
       ·dsimp only at h
        refine qP L mixed 302 [] [] [] [0,2] 3 (Rc (.tup []) []) (Rq 49 a9) (Sj (hR.Au h9) (hR.Au h9)) ?_
        cases h
        exact .inr ⟨.inr ⟨_,rfl⟩,_,rfl,rfl⟩
       ·obtain ⟨a9_0,a9_1⟩:=a9
        dsimp only at h
        obtain ⟨a10,h10,h⟩:=bind_some h
        obtain ⟨g3,h⟩:=Q1 h
        refine Q8 (hB L mixed 302 [] [(5,.agg (Aj a10))] [(3,(Rc (.agg (Aj a9_0)) [(0,.raw (Af a9_1))]))] [0,2] 5 (Qz (hR.Au h9) (Qz (Ct.ok h10) (Qz trivial (Qz g3 (Qz trivial (Qz (hR.Au h9) (Qz (Ct.ok h10) (Qz trivial (Qz g3 (Qz trivial (Qz (Ct.ok h10) (Qz trivial (Qz g3 (Qz trivial (Qz (Ct.ok h10) (Qz trivial (Qz g3 (Qz trivial (Qz g3 (Q3 trivial)))))))))))))))))))) (S':=⟨[(0,.P 0),(2,.P 21800),(3,.P 21801)],[(0,.raw (Af a9_1)),(21800,.raw [.I 0,.str [],.I 0,.str [],.N]),(21801,.raw [.I 49,.str [],.I 0,.str [],.own .Ae 21802]),(21802,.lst .Ae (x21802++([(⟨a10.Op,a10.Name,a10.Int,a10.Text,a10.Kids⟩:Aa)]:List Aa)))]⟩) ⟨rfl,rfl⟩) (Qu.trans (Qu.kk [0,2,3] [0,21800,21801,21802]) (Qu.trans (Qu.rr [(0,0),(21800,28000),(21801,28001),(21802,28002)]) (Qu.kp (S':=⟨[(0,.P 0),(2,.P 28000),(3,.P 28001)],[(0,.raw (Af a9_1)),(28000,.raw [.I 0,.str [],.I 0,.str [],.N]),(28001,.raw [.I 49,.str [],.I 0,.str [],.own .Ae 28002]),(28002,.lst .Ae (x21802++([(⟨a10.Op,a10.Name,a10.Int,a10.Text,a10.Kids⟩:Aa)]:List Aa)))]⟩)))) ?_
        cases h
        exact .inl ⟨rfl,_,_,_,rfl,rfl⟩
      refine fN c6 <| Qy (Qu.trans (Qu.kk [0,2,3] [0,21800,21801,21802]) (Qu.rr [(0,0),(21800,28000),(21801,28001),(21802,28002)])) ?_
      refine sk (S':=⟨[(0,.P 0),(2,.P 28000),(3,.P 28001)],[(0,.raw (Af a8_1)),(28000,.raw [.I 0,.str [],.I 0,.str [],.N]),(28001,.raw [.I 49,.str [],.I 0,.str [],.own .Ae 28002]),(28002,.lst .Ae x21802)]⟩) ?_
      cases h
      exact .inl ⟨rfl,_,_,_,rfl,rfl⟩
     ·rintro e S (⟨rfl,xh0_0_40,xh0_1_40,x28002,rfl,rfl⟩ |⟨he,a,rfl,hr⟩)
      ·rcases h with ⟨_,e1,h⟩ |⟨_,e1,h⟩
       ·cases e1
       ·have e2:=Q9.go.inj e1
        subst e2
        dsimp only at h
        refine Qv <| Q4 L 313 ?_
        rcases Qw h with ⟨c7,h⟩ |⟨c7,h⟩
        ·refine tT c7 ?_
         obtain ⟨a11,h11,h⟩:=bind_some h
         refine qn L 318 [] [] [] 1 (Rc (.tup []) []) (Rq 49 a11) (Q3 (Bl.okE h11)) ?_
         cases h
         exact rfl
        refine fF c7 <| Q0 <| Qv ?_
        obtain ⟨a12,h12,h⟩:=bind_some h
        rcases a12 with a12 | a12
        ·dsimp only at h
         refine rg L 321 [] [] [(1,(Rc (.tup []) [(0,.raw (Af a12))]))] (Q3 (Aq.okE h12)) ?_
         refine Q4 L 324 <| Qy (Qu.trans (Qu.kk [2] [0,28000,28002]) (Qu.trans (Qu.fz 28002) (Qu.rr [(0,0),(28000,100)]))) ?_
         refine Qx ?_
         cases h
         exact Sw
        ·obtain ⟨a12,rfl⟩:∃ z,z=a12:=⟨_,rfl⟩
         dsimp only at h
         refine qn L 321 [] [] [] 1 (Rc (.tup []) []) (Rq 49 a12) (Q3 (Aq.okE h12)) ?_
         cases h
         exact rfl
      ·rcases h with ⟨_,e1,h⟩ |⟨_,e1,h⟩
       ·have e2:=Q9.done.inj e1
        subst e2
        subst h
        rcases he with rfl |⟨ch,rfl⟩
        ·exact hr
        ·exact hr
       ·cases e1
   ·rcases h with ⟨_,e1,h⟩ |⟨_,e1,h⟩
    ·have e2:=Q9.done.inj e1
     subst e2
     subst h
     rcases he with rfl |⟨ch,rfl⟩
     ·exact ⟨_,Qu.refl,hr⟩
     ·exact ⟨_,Qu.refl,hr⟩
    ·cases e1
 ·obtain ⟨a1,rfl⟩:∃ z,z=a1:=⟨_,rfl⟩
  dsimp only at h
  refine qn L 206 [] [] [] 1 (Rc (.tup []) []) (Rq 49 a1) (Q3 (Aq.okE h1)) ?_
  cases h
  exact rfl
def B1.F (K:Nat) (R:Bj) (p0:Ab):Option (Int ⊕ (Aa×Ab)):=(Option.bind (Ao K ([108,101,116]:List UInt8) p0) (fun (a1_0,a1_1)=>(if a1_0=true then (Option.bind (Ay K a1_1) (fun a2=>match a2 with |(Sum.inl a2)=>some (Sum.inl a2) |(Sum.inr (a2_0,a2_1))=>(Option.bind (Aq K ([61]:List UInt8) a2_1) (fun a3=>match a3 with |(Sum.inl a3)=>(Option.bind (Ce K a3) (fun a4=>match a4 with |(Sum.inl a4)=>some (Sum.inl a4) |(Sum.inr (a4_0,a4_1))=>some (Sum.inr ((⟨40,a2_0,0,[],([(⟨a4_0.Op,a4_0.Name,a4_0.Int,a4_0.Text,a4_0.Kids⟩:Aa)]:List Aa)⟩:Aa),a4_1)))) |(Sum.inr a3)=>some (Sum.inl a3))))) else (Option.bind (Ao K ([105,102]:List UInt8) a1_1) (fun (a5_0,a5_1)=>(if a5_0=true then (Option.bind (R.Bf a5_1) (fun a6=>match a6 with |(Sum.inl a6)=>some (Sum.inl a6) |(Sum.inr (a6_0,a6_1))=>some (Sum.inr (a6_0,a6_1)))) else (Option.bind (Ao K ([119,104,105,108,101]:List UInt8) a5_1) (fun (a7_0,a7_1)=>(if a7_0=true then (Option.bind (Ax K a7_1) (fun a8=>match a8 with |(Sum.inl a8)=>some (Sum.inl a8) |(Sum.inr (a8_0,a8_1))=>(Option.bind (R.Au a8_1) (fun a9=>match a9 with |(Sum.inl a9)=>some (Sum.inl a9) |(Sum.inr (a9_0,a9_1))=>(Option.bind (Ct K 43 ([(⟨a8_0.Op,a8_0.Name,a8_0.Int,a8_0.Text,a8_0.Kids⟩:Aa),(⟨a9_0.Op,a9_0.Name,a9_0.Int,a9_0.Text,a9_0.Kids⟩:Aa)]:List Aa)) (fun a10=>some (Sum.inr (a10,a9_1)))))))) else (Option.bind (Ao K ([114,101,116,117,114,110]:List UInt8) a7_1) (fun (a11_0,a11_1)=>(if a11_0=true then (Option.bind (Ao K ([59]:List UInt8) a11_1) (fun (a12_0,a12_1)=>(if a12_0=true then some (Sum.inr ((⟨44,[],0,[],([]:List Aa)⟩:Aa),a12_1)) else (Option.bind (Ce K a12_1) (fun a13=>match a13 with |(Sum.inl a13)=>some (Sum.inl a13) |(Sum.inr (a13_0,a13_1))=>(Option.bind (Ct K 44 ([(⟨a13_0.Op,a13_0.Name,a13_0.Int,a13_0.Text,a13_0.Kids⟩:Aa)]:List Aa)) (fun a14=>some (Sum.inr (a14,a13_1))))))))) else (Option.bind (Ao K ([116,104,114,111,119]:List UInt8) a11_1) (fun (a15_0,a15_1)=>(if a15_0=true then (Option.bind (Ce K a15_1) (fun a16=>match a16 with |(Sum.inl a16)=>some (Sum.inl a16) |(Sum.inr (a16_0,a16_1))=>(Option.bind (Ct K 45 ([(⟨a16_0.Op,a16_0.Name,a16_0.Int,a16_0.Text,a16_0.Kids⟩:Aa)]:List Aa)) (fun a17=>some (Sum.inr (a17,a16_1)))))) else (Option.bind (Ao K ([116,114,121]:List UInt8) a15_1) (fun (a18_0,a18_1)=>(if a18_0=true then (Option.bind (R.Au a18_1) (fun a19=>match a19 with |(Sum.inl a19)=>some (Sum.inl a19) |(Sum.inr (a19_0,a19_1))=>(Option.bind (Aq K ([99,97,116,99,104]:List UInt8) a19_1) (fun a20=>match a20 with |(Sum.inl a20)=>(Option.bind (Ay K a20) (fun a21=>match a21 with |(Sum.inl a21)=>some (Sum.inl a21) |(Sum.inr (a21_0,a21_1))=>(Option.bind (R.Au a21_1) (fun a22=>match a22 with |(Sum.inl a22)=>some (Sum.inl a22) |(Sum.inr (a22_0,a22_1))=>some (Sum.inr ((⟨46,a21_0,0,[],([(⟨a19_0.Op,a19_0.Name,a19_0.Int,a19_0.Text,a19_0.Kids⟩:Aa),(⟨a22_0.Op,a22_0.Name,a22_0.Int,a22_0.Text,a22_0.Kids⟩:Aa)]:List Aa)⟩:Aa),a22_1)))))) |(Sum.inr a20)=>some (Sum.inl a20))))) else (Option.bind (Ao K ([115,97,103,97]:List UInt8) a18_1) (fun (a23_0,a23_1)=>(if a23_0=true then (Option.bind (R.Au a23_1) (fun a24=>match a24 with |(Sum.inl a24)=>some (Sum.inl a24) |(Sum.inr (a24_0,a24_1))=>(Option.bind (Ct K 47 ([(⟨a24_0.Op,a24_0.Name,a24_0.Int,a24_0.Text,a24_0.Kids⟩:Aa)]:List Aa)) (fun a25=>some (Sum.inr (a25,a24_1)))))) else (Option.bind (Ao K ([117,110,100,111]:List UInt8) a23_1) (fun (a26_0,a26_1)=>(if a26_0=true then (Option.bind (Ay K a26_1) (fun a27=>match a27 with |(Sum.inl a27)=>some (Sum.inl a27) |(Sum.inr (a27_0,a27_1))=>(Option.bind (Bn K 48 a27_0 a27_1) (fun a28=>match a28 with |(Sum.inl (a28_0,a28_1))=>(Option.bind (Aq K ([59]:List UInt8) a28_1) (fun a29=>match a29 with |(Sum.inl a29)=>some (Sum.inr (a28_0,a29)) |(Sum.inr a29)=>some (Sum.inl a29))) |(Sum.inr a28)=>some (Sum.inl a28))))) else (Option.bind (Ao K ([115,101,108,101,99,116]:List UInt8) a26_1) (fun (a30_0,a30_1)=>(if a30_0=true then (Option.bind (R.Bi a30_1) (fun a31=>match a31 with |(Sum.inl a31)=>some (Sum.inl a31) |(Sum.inr (a31_0,a31_1))=>some (Sum.inr (a31_0,a31_1)))) else (Option.bind (C5 K a30_1) (fun a32=>match a32 with |(Sum.inl a32)=>some (Sum.inl a32) |(Sum.inr (a32_0,a32_1))=>some (Sum.inr (a32_0,a32_1)))))))))))))))))))))))))))))))
theorem B1.body {Γ:Rm} {K:Nat} {R:Bj} (hR:R.Ok) {p0:Ab} {r:Int ⊕ (Aa×Ab)} (h:B1.F K R p0=some r):Ri V P 87 100 Γ (Tryz.f77.body.getD .skip) (Rr P V Tryz.f77 (B1.rep p0 r) (B1.post p0 r)) ⟨Q6 0 [.P 0],[(0,.raw (Af p0))]⟩:=by
 unfold B1.F at h
 refine Q4 L 200 <| Qv <| Q2 <| Qv ?_
 obtain ⟨⟨a1_0,a1_1⟩,h1,h⟩:=bind_some h
 dsimp only at h
 refine rg L 202 [] [] [(1,(Rc (.B a1_0) [(0,.raw (Af a1_1))]))] (Q3 (Ao.okE h1)) ?_
 rcases Qw h with ⟨c1,h⟩ |⟨c1,h⟩
 ·refine tt c1 <| Qv ?_
  obtain ⟨a2,h2,h⟩:=bind_some h
  rcases a2 with a2 | a2
  ·dsimp only at h
   refine qn L 206 [] [] [] 1 (Rc (.tup []) []) (Rq 49 a2) (Q3 (Ay.okE h2)) ?_
   cases h
   exact rfl
  ·obtain ⟨a2_0,a2_1⟩:=a2
   dsimp only at h
   refine rg L 206 [] [] [(1,(Rc (.cv (.str a2_0)) [(0,.raw (Af a2_1))]))] (Q3 (Ay.okE h2)) ?_
   refine Qv ?_
   obtain ⟨a3,h3,h⟩:=bind_some h
   rcases a3 with a3 | a3
   ·dsimp only at h
    refine rg L 210 [] [] [(1,(Rc (.tup []) [(0,.raw (Af a3))]))] (Q3 (Aq.okE h3)) ?_
    refine Qv ?_
    obtain ⟨a4,h4,h⟩:=bind_some h
    rcases a4 with a4 | a4
    ·dsimp only at h
     refine qn L 213 [] [] [] 2 (Rc (.tup []) []) (Rq 49 a4) (Q3 (Ce.okE h4)) ?_
     cases h
     exact rfl
    ·obtain ⟨a4_0,a4_1⟩:=a4
     dsimp only at h
     refine rg L 213 [] [] [(2,(Rc (.agg (Aj a4_0)) [(0,.raw (Af a4_1))]))] (Q3 (Ce.okE h4)) ?_
     refine Qy (Qu.trans (Qu.kk [2] [0,200]) (Qu.rr [(0,0),(200,100)])) ?_
     refine Qx ?_
     cases h
     exact Sw
   ·obtain ⟨a3,rfl⟩:∃ z,z=a3:=⟨_,rfl⟩
    dsimp only at h
    refine qn L 210 [] [] [] 1 (Rc (.tup []) []) (Rq 49 a3) (Q3 (Aq.okE h3)) ?_
    cases h
    exact rfl
 refine fN c1 <| Qv ?_
 obtain ⟨⟨a5_0,a5_1⟩,h5,h⟩:=bind_some h
 dsimp only at h
 refine rg L 220 [] [] [(1,(Rc (.B a5_0) [(0,.raw (Af a5_1))]))] (Q3 (Ao.okE h5)) ?_
 rcases Qw h with ⟨c2,h⟩ |⟨c2,h⟩
 ·refine tt c2 <| Qv ?_
  obtain ⟨a6,h6,h⟩:=bind_some h
  rcases a6 with a6 | a6
  ·dsimp only at h
   refine qn L 224 [] [] [] 1 (Rc (.tup []) []) (Rq 49 a6) (Q3 (hR.Bf h6)) ?_
   cases h
   exact rfl
  ·obtain ⟨a6_0,a6_1⟩:=a6
   dsimp only at h
   refine rg L 224 [] [] [(1,(Rc (.agg (Aj a6_0)) [(0,.raw (Af a6_1))]))] (Q3 (hR.Bf h6)) ?_
   refine Qy (Qu.trans (Qu.kk [2] [0,200]) (Qu.rr [(0,0),(200,100)])) ?_
   refine Qx ?_
   cases h
   exact Sw
 refine fN c2 <| Qv ?_
 obtain ⟨⟨a7_0,a7_1⟩,h7,h⟩:=bind_some h
 dsimp only at h
 refine rg L 228 [] [] [(1,(Rc (.B a7_0) [(0,.raw (Af a7_1))]))] (Q3 (Ao.okE h7)) ?_
 rcases Qw h with ⟨c3,h⟩ |⟨c3,h⟩
 ·refine tt c3 <| Qv ?_
  obtain ⟨a8,h8,h⟩:=bind_some h
  rcases a8 with a8 | a8
  ·dsimp only at h
   refine qn L 232 [] [] [] 1 (Rc (.tup []) []) (Rq 49 a8) (Q3 (Ax.okE h8)) ?_
   cases h
   exact rfl
  ·obtain ⟨a8_0,a8_1⟩:=a8
   dsimp only at h
   obtain ⟨a9,h9,h⟩:=bind_some h
   rcases a9 with a9 | a9
   ·dsimp only at h
    refine qn L 232 [] [] [(1,(Rc (.agg (Aj a8_0)) [(0,.raw (Af a8_1))]))] 3 (Rc (.tup []) []) (Rq 49 a9) (Sj (Ax.okE h8) (hR.Au h9)) ?_
    cases h
    exact rfl
   ·obtain ⟨a9_0,a9_1⟩:=a9
    dsimp only at h
    obtain ⟨a10,h10,h⟩:=bind_some h
    refine rg L 232 [] [(5,.agg (Aj a10))] [(1,(Rc (.agg (Aj a8_0)) [(0,.raw (Af a8_1))])),(3,(Rc (.agg (Aj a9_0)) [(0,.raw (Af a9_1))]))] (Qz (Ax.okE h8) (Qz (hR.Au h9) (Qz (Ct.ok h10) (Q3 trivial)))) ?_
    refine Qy (Qu.trans (Qu.kk [2] [0,200]) (Qu.rr [(0,0),(200,100)])) ?_
    refine Qx ?_
    cases h
    exact Sw
 refine fN c3 <| Qv ?_
 obtain ⟨⟨a11_0,a11_1⟩,h11,h⟩:=bind_some h
 dsimp only at h
 refine rg L 240 [] [] [(1,(Rc (.B a11_0) [(0,.raw (Af a11_1))]))] (Q3 (Ao.okE h11)) ?_
 rcases Qw h with ⟨c4,h⟩ |⟨c4,h⟩
 ·refine tt c4 <| Qv <| Qv ?_
  obtain ⟨⟨a12_0,a12_1⟩,h12,h⟩:=bind_some h
  dsimp only at h
  refine rg L 244 [] [] [(1,(Rc (.B a12_0) [(0,.raw (Af a12_1))]))] (Q3 (Ao.okE h12)) ?_
  rcases Qw h with ⟨c5,h⟩ |⟨c5,h⟩
  ·refine tt c5 <| Q4 L 247 <| Qy (Qu.trans (Qu.kk [2] [0,200]) (Qu.rr [(0,0),(200,100)])) ?_
   refine Qx ?_
   cases h
   exact Sw
  refine fN c5 <| Q0 <| Qv ?_
  obtain ⟨a13,h13,h⟩:=bind_some h
  rcases a13 with a13 | a13
  ·dsimp only at h
   refine qn L 250 [] [] [] 1 (Rc (.tup []) []) (Rq 49 a13) (Q3 (Ce.okE h13)) ?_
   cases h
   exact rfl
  ·obtain ⟨a13_0,a13_1⟩:=a13
   dsimp only at h
   obtain ⟨a14,h14,h⟩:=bind_some h
   refine rg L 250 [] [(3,.agg (Aj a14))] [(1,(Rc (.agg (Aj a13_0)) [(0,.raw (Af a13_1))]))] (Qz (Ce.okE h13) (Qz (Ct.ok h14) (Q3 trivial))) ?_
   refine Qy (Qu.trans (Qu.kk [2] [0,200]) (Qu.rr [(0,0),(200,100)])) ?_
   refine Qx ?_
   cases h
   exact Sw
 refine fN c4 <| Qv ?_
 obtain ⟨⟨a15_0,a15_1⟩,h15,h⟩:=bind_some h
 dsimp only at h
 refine rg L 256 [] [] [(1,(Rc (.B a15_0) [(0,.raw (Af a15_1))]))] (Q3 (Ao.okE h15)) ?_
 rcases Qw h with ⟨c6,h⟩ |⟨c6,h⟩
 ·refine tt c6 <| Qv ?_
  obtain ⟨a16,h16,h⟩:=bind_some h
  rcases a16 with a16 | a16
  ·dsimp only at h
   refine qn L 260 [] [] [] 1 (Rc (.tup []) []) (Rq 49 a16) (Q3 (Ce.okE h16)) ?_
   cases h
   exact rfl
  ·obtain ⟨a16_0,a16_1⟩:=a16
   dsimp only at h
   obtain ⟨a17,h17,h⟩:=bind_some h
   refine rg L 260 [] [(3,.agg (Aj a17))] [(1,(Rc (.agg (Aj a16_0)) [(0,.raw (Af a16_1))]))] (Qz (Ce.okE h16) (Qz (Ct.ok h17) (Q3 trivial))) ?_
   refine Qy (Qu.trans (Qu.kk [2] [0,200]) (Qu.rr [(0,0),(200,100)])) ?_
   refine Qx ?_
   cases h
   exact Sw
 refine fN c6 <| Qv ?_
 obtain ⟨⟨a18_0,a18_1⟩,h18,h⟩:=bind_some h
 dsimp only at h
 refine rg L 266 [] [] [(1,(Rc (.B a18_0) [(0,.raw (Af a18_1))]))] (Q3 (Ao.okE h18)) ?_
 rcases Qw h with ⟨c7,h⟩ |⟨c7,h⟩
 ·refine tt c7 <| Qv ?_
  obtain ⟨a19,h19,h⟩:=bind_some h
  rcases a19 with a19 | a19
  ·dsimp only at h
   refine qn L 270 [] [] [] 1 (Rc (.tup []) []) (Rq 49 a19) (Q3 (hR.Au h19)) ?_
   cases h
   exact rfl
  ·obtain ⟨a19_0,a19_1⟩:=a19
   dsimp only at h
   refine rg L 270 [] [] [(1,(Rc (.agg (Aj a19_0)) [(0,.raw (Af a19_1))]))] (Q3 (hR.Au h19)) ?_
   refine Qv ?_
   obtain ⟨a20,h20,h⟩:=bind_some h
   rcases a20 with a20 | a20
   ·dsimp only at h
    refine rg L 275 [] [] [(1,(Rc (.tup []) [(0,.raw (Af a20))]))] (Q3 (Aq.okE h20)) ?_
    refine Qv ?_
    obtain ⟨a21,h21,h⟩:=bind_some h
    rcases a21 with a21 | a21
    ·dsimp only at h
     refine qP L mixed 278 [] [] [] [0,3] 1 (Rc (.tup []) []) (Rq 49 a21) (Sj (Ay.okE h21) (Ay.okE h21)) ?_
     cases h
     exact rfl
    ·obtain ⟨a21_0,a21_1⟩:=a21
     dsimp only at h
     obtain ⟨a22,h22,h⟩:=bind_some h
     rcases a22 with a22 | a22
     ·dsimp only at h
      refine qP L mixed 278 [] [] [(1,(Rc (.cv (.str a21_0)) [(0,.raw (Af a21_1))]))] [0,3] 4 (Rc (.tup []) []) (Rq 49 a22) (Qz (Ay.okE h21) (Qz (hR.Au h22) (Qz (hR.Au h22) (Qz (Ay.okE h21) (Q3 (hR.Au h22)))))) ?_
      cases h
      exact rfl
     ·obtain ⟨a22_0,a22_1⟩:=a22
      dsimp only at h
      refine hB L mixed 278 [] [] [(1,(Rc (.cv (.str a21_0)) [(0,.raw (Af a21_1))])),(4,(Rc (.agg (Aj a22_0)) [(0,.raw (Af a22_1))]))] [0,3] 3 (Qz (Ay.okE h21) (Qz (hR.Au h22) (Qz (hR.Au h22) (Qz (Ay.okE h21) (Q3 (hR.Au h22)))))) (S':=⟨[(2,.P 200)],[(0,.raw (Af a22_1)),(200,.raw [.I 46,.str a21_0,.I 0,.str [],.ro .Ae ([(⟨a19_0.Op,a19_0.Name,a19_0.Int,a19_0.Text,a19_0.Kids⟩:Aa),(⟨a22_0.Op,a22_0.Name,a22_0.Int,a22_0.Text,a22_0.Kids⟩:Aa)]:List Aa)])]⟩) ?_
      refine Qy (Qu.trans (Qu.kk [2] [0,200]) (Qu.rr [(0,0),(200,100)])) ?_
      refine Qx ?_
      cases h
      exact Sw
   ·obtain ⟨a20,rfl⟩:∃ z,z=a20:=⟨_,rfl⟩
    dsimp only at h
    refine qn L 275 [] [] [] 1 (Rc (.tup []) []) (Rq 49 a20) (Q3 (Aq.okE h20)) ?_
    cases h
    exact rfl
 refine fN c7 <| Qv ?_
 obtain ⟨⟨a23_0,a23_1⟩,h23,h⟩:=bind_some h
 dsimp only at h
 refine rg L 287 [] [] [(1,(Rc (.B a23_0) [(0,.raw (Af a23_1))]))] (Q3 (Ao.okE h23)) ?_
 rcases Qw h with ⟨c8,h⟩ |⟨c8,h⟩
 ·refine tt c8 <| Qv ?_
  obtain ⟨a24,h24,h⟩:=bind_some h
  rcases a24 with a24 | a24
  ·dsimp only at h
   refine qn L 291 [] [] [] 1 (Rc (.tup []) []) (Rq 49 a24) (Q3 (hR.Au h24)) ?_
   cases h
   exact rfl
  ·obtain ⟨a24_0,a24_1⟩:=a24
   dsimp only at h
   obtain ⟨a25,h25,h⟩:=bind_some h
   refine rg L 291 [] [(3,.agg (Aj a25))] [(1,(Rc (.agg (Aj a24_0)) [(0,.raw (Af a24_1))]))] (Qz (hR.Au h24) (Qz (Ct.ok h25) (Q3 trivial))) ?_
   refine Qy (Qu.trans (Qu.kk [2] [0,200]) (Qu.rr [(0,0),(200,100)])) ?_
   refine Qx ?_
   cases h
   exact Sw
 refine fN c8 <| Qv ?_
 obtain ⟨⟨a26_0,a26_1⟩,h26,h⟩:=bind_some h
 dsimp only at h
 refine rg L 297 [] [] [(1,(Rc (.B a26_0) [(0,.raw (Af a26_1))]))] (Q3 (Ao.okE h26)) ?_
 rcases Qw h with ⟨c9,h⟩ |⟨c9,h⟩
 ·refine tt c9 <| Qv ?_
  obtain ⟨a27,h27,h⟩:=bind_some h
  rcases a27 with a27 | a27
  ·dsimp only at h
   refine qn L 301 [] [] [] 2 (Rc (.tup []) []) (Rq 49 a27) (Q3 (Ay.okE h27)) ?_
   cases h
   exact rfl
  ·obtain ⟨a27_0,a27_1⟩:=a27
   dsimp only at h
   obtain ⟨a28,h28,h⟩:=bind_some h
   rcases a28 with ⟨a28_0,a28_1⟩ | a28
   ·dsimp only at h
    refine rg L 301 [] [] [(2,(Rc (.cv (.str a27_0)) [(0,.raw (Af a27_1))])),(3,(Rc (.agg (Aj a28_0)) [(0,.raw (Af a28_1))]))] (Sj (Ay.okE h27) (Bn.okE h28)) ?_
    refine Qv ?_
    obtain ⟨a29,h29,h⟩:=bind_some h
    rcases a29 with a29 | a29
    ·dsimp only at h
     refine rg L 308 [] [] [(1,(Rc (.tup []) [(0,.raw (Af a29))]))] (Q3 (Aq.okE h29)) ?_
     refine Q4 L 311 <| Qy (Qu.trans (Qu.kk [2] [0,200]) (Qu.rr [(0,0),(200,100)])) ?_
     refine Qx ?_
     cases h
     exact Sw
    ·obtain ⟨a29,rfl⟩:∃ z,z=a29:=⟨_,rfl⟩
     dsimp only at h
     refine qn L 308 [] [] [] 1 (Rc (.tup []) []) (Rq 49 a29) (Q3 (Aq.okE h29)) ?_
     cases h
     exact rfl
   ·obtain ⟨a28,rfl⟩:∃ z,z=a28:=⟨_,rfl⟩
    dsimp only at h
    refine qn L 301 [] [] [(2,(Rc (.cv (.str a27_0)) [(0,.raw (Af a27_1))]))] 3 (Rc (.tup []) []) (Rq 49 a28) (Sj (Ay.okE h27) (Bn.okE h28)) ?_
    cases h
    exact rfl
 refine fN c9 <| Qv ?_
 obtain ⟨⟨a30_0,a30_1⟩,h30,h⟩:=bind_some h
 dsimp only at h
 refine rg L 314 [] [] [(1,(Rc (.B a30_0) [(0,.raw (Af a30_1))]))] (Q3 (Ao.okE h30)) ?_
 rcases Qw h with ⟨c10,h⟩ |⟨c10,h⟩
 ·refine tt c10 <| Qv ?_
  obtain ⟨a31,h31,h⟩:=bind_some h
  rcases a31 with a31 | a31
  ·dsimp only at h
   refine qn L 318 [] [] [] 1 (Rc (.tup []) []) (Rq 49 a31) (Q3 (hR.Bi h31)) ?_
   cases h
   exact rfl
  ·obtain ⟨a31_0,a31_1⟩:=a31
   dsimp only at h
   refine rg L 318 [] [] [(1,(Rc (.agg (Aj a31_0)) [(0,.raw (Af a31_1))]))] (Q3 (hR.Bi h31)) ?_
   refine Qy (Qu.trans (Qu.kk [2] [0,200]) (Qu.rr [(0,0),(200,100)])) ?_
   refine Qx ?_
   cases h
   exact Sw
 refine fN c10 <| Q0 <| Qv ?_
 obtain ⟨a32,h32,h⟩:=bind_some h
 rcases a32 with a32 | a32
 ·dsimp only at h
  refine qn L 322 [] [] [] 1 (Rc (.tup []) []) (Rq 49 a32) (Q3 (C5.okE h32)) ?_
  cases h
  exact rfl
 ·obtain ⟨a32_0,a32_1⟩:=a32
  dsimp only at h
  refine rg L 322 [] [] [(1,(Rc (.agg (Aj a32_0)) [(0,.raw (Af a32_1))]))] (Q3 (C5.okE h32)) ?_
  refine Qy (Qu.trans (Qu.kk [2] [0,200]) (Qu.rr [(0,0),(200,100)])) ?_
  refine Qx ?_
  cases h
  exact Sw
def Au.l9 (K:Nat) (R:Bj):Nat→(List Al)→Int→(List Aa)→Option (Q9 (Int ⊕ (Aa×Ab)) ((List Al)×Int×(List Aa)))
 | 0,_,_,_=>none
 | k+1,xh0_0_9h,xh0_1_9h,x21902=>(Option.bind (Ao K ([125]:List UInt8) (⟨xh0_0_9h,xh0_1_9h⟩:Ab)) (fun (a2_0,a2_1)=>(if a2_0=true then some (Q9.go (a2_1.l,a2_1.i,x21902)) else (Option.bind (R.B1 a2_1) (fun a3=>match a3 with |(Sum.inl a3)=>some (Q9.done (Sum.inl a3)) |(Sum.inr (a3_0,a3_1))=>(if (x21902.length+([(⟨a3_0.Op,a3_0.Name,a3_0.Int,a3_0.Text,a3_0.Kids⟩:Aa)]:List Aa).length) * 72≤140737488355328 then Au.l9 K R k a3_1.l a3_1.i (x21902++([(⟨a3_0.Op,a3_0.Name,a3_0.Int,a3_0.Text,a3_0.Kids⟩:Aa)]:List Aa)) else none))))))
def Au.F (K:Nat) (R:Bj) (p0:Ab):Option (Int ⊕ (Aa×Ab)):=(Option.bind (Aq K ([123]:List UInt8) p0) (fun a1=>match a1 with |(Sum.inl a1)=>(obind (Au.l9 K R K a1.l a1.i ([]:List Aa):Option (Q9 (Int ⊕ (Aa×Ab)) ((List Al)×Int×(List Aa)))) (fun r=>r) (fun (xh0_0_9,xh0_1_9,x21802)=>some (Sum.inr ((⟨53,[],0,[],x21802⟩:Aa),(⟨xh0_0_9,xh0_1_9⟩:Ab))))) |(Sum.inr a1)=>some (Sum.inl a1)))
theorem Au.body {Γ:Rm} {K:Nat} {R:Bj} (hR:R.Ok) {p0:Ab} {r:Int ⊕ (Aa×Ab)} (h:Au.F K R p0=some r):Ri V P 18 100 Γ (Tryz.f50.body.getD .skip) (Rr P V Tryz.f50 (Au.rep p0 r) (Au.post p0 r)) ⟨Q6 0 [.P 0],[(0,.raw (Af p0))]⟩:=by
 unfold Au.F at h
 refine Q4 L 200 <| Q4 L 202 <| Qv ?_
 obtain ⟨a1,h1,h⟩:=bind_some h
 rcases a1 with a1 | a1
 ·dsimp only at h
  refine rg L 206 [] [] [(1,(Rc (.tup []) [(0,.raw (Af a1))]))] (Q3 (Aq.okE h1)) ?_
  refine Qv <| Q2 <| Qy (Qu.trans (Qu.kk [0,2,3] [0,200,203]) (Qu.trans (Qu.nc 203 4 9500 Tag.Ae) (Qu.trans (Qu.kk [0,2,3] [0,200,203,9500]) (Qu.rr [(0,0),(200,21900),(203,21901),(9500,21902)])))) ?_
  refine kp (S':=⟨[(0,.P 0),(2,.P 21900),(3,.P 21901)],[(0,.raw (Af a1)),(21900,.raw [.I 0,.str [],.I 0,.str [],.N]),(21901,.raw [.I 53,.str [],.I 0,.str [],.own .Ae 21902]),(21902,.lst .Ae ([]:List Aa))]⟩) ?_
  obtain ⟨o1,hp1,h⟩:=Rf h
  refine Ra (Q':=fun e S=>(e=.exit 0∧∃ xh0_0_9:List Al,∃ xh0_1_9:Int,∃ x21802:List Aa,S=⟨[(2,.P 21800),(3,.P 21801)],[(0,.raw [.ro .Ak xh0_0_9,.I xh0_1_9]),(21800,.raw [.I 0,.str [],.I 0,.str [],.N]),(21801,.raw [.I 53,.str [],.I 0,.str [],.own .Ae 21802]),(21802,.lst .Ae x21802)]⟩∧Q9.go (xh0_0_9,xh0_1_9,x21802)=o1)∨((e=.ret∨∃ ch,e=.panic ch)∧∃ a,Q9.done a=o1∧Rr P V Tryz.f50 (Au.rep p0 a) (Au.post p0 a) e S)) (Rh (fun k S=>∃ xh0_0_9h:List Al,∃ xh0_1_9h:Int,∃ x21902:List Aa,S=⟨[(0,.P 0),(2,.P 21900),(3,.P 21901)],[(0,.raw [.ro .Ak xh0_0_9h,.I xh0_1_9h]),(21900,.raw [.I 0,.str [],.I 0,.str [],.N]),(21901,.raw [.I 53,.str [],.I 0,.str [],.own .Ae 21902]),(21902,.lst .Ae x21902)]⟩∧Au.l9 K R k xh0_0_9h xh0_1_9h x21902=some o1) ?_ ⟨_,_,_,rfl,hp1⟩) ?_
  ·clear h hp1
   intro k S hS
   obtain ⟨xh0_0_9h,xh0_1_9h,x21902,rfl,h⟩:=hS
   cases k with
   | zero=>cases h
   | succ k =>
   unfold Au.l9 at h
   refine Qv <| Qv ?_
   obtain ⟨⟨a2_0,a2_1⟩,h2,h⟩:=bind_some h
   dsimp only at h
   refine rg L 209 [] [] [(1,(Rc (.B a2_0) [(0,.raw (Af a2_1))]))] (Q3 (Ao.okE h2)) ?_
   rcases Qw h with ⟨c1,h⟩ |⟨c1,h⟩
   ·refine ff (b:=(!a2_0)) (congrArg Bool.not (c1)) ?_
    refine Qy (Qu.trans (Qu.kk [2,3] [0,21900,21901,21902]) (Qu.rr [(0,0),(21900,21800),(21901,21801),(21902,21802)])) ?_
    refine ex (S':=⟨[(2,.P 21800),(3,.P 21801)],[(0,.raw (Af a2_1)),(21800,.raw [.I 0,.str [],.I 0,.str [],.N]),(21801,.raw [.I 53,.str [],.I 0,.str [],.own .Ae 21802]),(21802,.lst .Ae x21902)]⟩) ?_
    cases h
    exact .inl ⟨rfl,_,_,_,rfl,rfl⟩
   refine tt (b:=(!a2_0)) (congrArg Bool.not (eq_false_of_ne_true c1)) ?_
   refine Q0 <| Q2 ?_
   obtain ⟨a3,h3,h⟩:=bind_some h
   rcases a3 with a3 | a3
   ·dsimp only at h
    refine qP L mixed 213 [] [] [] [0,2] 3 (Rc (.tup []) []) (Rq 49 a3) (Sj (hR.B1 h3) (hR.B1 h3)) ?_
    cases h
    exact .inr ⟨.inr ⟨_,rfl⟩,_,rfl,rfl⟩
   ·obtain ⟨a3_0,a3_1⟩:=a3
    dsimp only at h
    obtain ⟨g1,h⟩:=Q1 h
    refine hB L mixed 213 [] [] [(3,(Rc (.agg (Aj a3_0)) [(0,.raw (Af a3_1))]))] [0,2] 3 (Qz (hR.B1 h3) (Qz g1 (Qz trivial (Qz (hR.B1 h3) (Qz g1 (Qz trivial (Qz g1 (Q3 trivial)))))))) (S':=⟨[(0,.P 0),(2,.P 21900),(3,.P 21901)],[(0,.raw (Af a3_1)),(21900,.raw [.I 0,.str [],.I 0,.str [],.N]),(21901,.raw [.I 53,.str [],.I 0,.str [],.own .Ae 21902]),(21902,.lst .Ae (x21902++([(⟨a3_0.Op,a3_0.Name,a3_0.Int,a3_0.Text,a3_0.Kids⟩:Aa)]:List Aa)))]⟩) ?_
    exact ⟨k,Nat.lt_succ_self k,_,_,_,rfl,h⟩
  ·rintro e S (⟨rfl,xh0_0_9,xh0_1_9,x21802,rfl,rfl⟩ |⟨he,a,rfl,hr⟩)
   ·rcases h with ⟨_,e1,h⟩ |⟨_,e1,h⟩
    ·cases e1
    ·have e2:=Q9.go.inj e1
     subst e2
     dsimp only at h
     refine ⟨_,Qu.refl,?_⟩
     refine Q4 L 222 <| Qy (Qu.trans (Qu.kk [2] [0,21800,21802]) (Qu.trans (Qu.fz 21802) (Qu.rr [(0,0),(21800,100)]))) ?_
     refine Qx ?_
     cases h
     exact Sw
   ·rcases h with ⟨_,e1,h⟩ |⟨_,e1,h⟩
    ·have e2:=Q9.done.inj e1
     subst e2
     subst h
     rcases he with rfl |⟨ch,rfl⟩
     ·exact ⟨_,Qu.refl,hr⟩
     ·exact ⟨_,Qu.refl,hr⟩
    ·cases e1
 ·obtain ⟨a1,rfl⟩:∃ z,z=a1:=⟨_,rfl⟩
  dsimp only at h
  refine qn L 206 [] [] [] 1 (Rc (.tup []) []) (Rq 49 a1) (Q3 (Aq.okE h1)) ?_
  cases h
  exact rfl
def Bj.upto (K:Nat):Nat→Bj
 | 0=>⟨fun _=>none,fun _=>none,fun _=>none,fun _=>none⟩
 | k+1=>⟨Bf.F K (Bj.upto K k),Bi.F K (Bj.upto K k),B1.F K (Bj.upto K k),Au.F K (Bj.upto K k)⟩
theorem Bj.upto_ok (K:Nat):∀ k,(Bj.upto K k).Ok
 | 0=>⟨fun h=>(by cases h),fun h=>(by cases h),fun h=>(by cases h),fun h=>(by cases h)⟩
 | k+1=>⟨fun {p0 r} h=>xo (fn:=Tryz.f105) (n:=31) (m:=100) fun Γ=>Bf.body (K:=K) (Bj.upto_ok K k) h,fun {p0 r} h=>xo (fn:=Tryz.f107) (n:=99) (m:=100) fun Γ=>Bi.body (K:=K) (Bj.upto_ok K k) h,fun {p0 r} h=>xo (fn:=Tryz.f77) (n:=87) (m:=100) fun Γ=>B1.body (K:=K) (Bj.upto_ok K k) h,fun {p0 r} h=>xo (fn:=Tryz.f50) (n:=18) (m:=100) fun Γ=>Au.body (K:=K) (Bj.upto_ok K k) h⟩
def Bf (K:Nat) (p0:Ab):Option (Int ⊕ (Aa×Ab)):=(Bj.upto K K).Bf p0
theorem Bf.okE {K:Nat} {p0:Ab} {r:Int ⊕ (Aa×Ab)} (h:Bf K p0=some r):Rp V P 105 [.P 0] [(0,.raw (Af p0))] [0] (Bf.post p0 r) (Bf.rep p0 r):=(Bj.upto_ok K K).Bf h
def Bi (K:Nat) (p0:Ab):Option (Int ⊕ (Aa×Ab)):=(Bj.upto K K).Bi p0
theorem Bi.okE {K:Nat} {p0:Ab} {r:Int ⊕ (Aa×Ab)} (h:Bi K p0=some r):Rp V P 107 [.P 0] [(0,.raw (Af p0))] [0] (Bi.post p0 r) (Bi.rep p0 r):=(Bj.upto_ok K K).Bi h
def B1 (K:Nat) (p0:Ab):Option (Int ⊕ (Aa×Ab)):=(Bj.upto K K).B1 p0
theorem B1.okE {K:Nat} {p0:Ab} {r:Int ⊕ (Aa×Ab)} (h:B1 K p0=some r):Rp V P 77 [.P 0] [(0,.raw (Af p0))] [0] (B1.post p0 r) (B1.rep p0 r):=(Bj.upto_ok K K).B1 h
def Au (K:Nat) (p0:Ab):Option (Int ⊕ (Aa×Ab)):=(Bj.upto K K).Au p0
theorem Au.okE {K:Nat} {p0:Ab} {r:Int ⊕ (Aa×Ab)} (h:Au K p0=some r):Rp V P 50 [.P 0] [(0,.raw (Af p0))] [0] (Au.post p0 r) (Au.rep p0 r):=(Bj.upto_ok K K).Au h
def C2.l15 (K:Nat):Nat→(List Al)→Int→(List Aa)→Option (Q9 ((Ab×(List Aa)) ⊕ Int) ((List Al)×Int×(List Aa)))
 | 0,_,_,_=>none
 | k+1,xh0_0_15h,xh0_1_15h,x23100=>(Option.bind (Ao K ([44]:List UInt8) (⟨xh0_0_15h,xh0_1_15h⟩:Ab)) (fun (a3_0,a3_1)=>(if a3_0=true then (Option.bind (Cw K a3_1) (fun a4=>match a4 with |(Sum.inl a4)=>some (Q9.done (Sum.inr a4)) |(Sum.inr (a4_0,a4_1))=>(if (x23100.length+([(⟨a4_0.Op,a4_0.Name,a4_0.Int,a4_0.Text,a4_0.Kids⟩:Aa)]:List Aa).length) * 72≤140737488355328 then C2.l15 K k a4_1.l a4_1.i (x23100++([(⟨a4_0.Op,a4_0.Name,a4_0.Int,a4_0.Text,a4_0.Kids⟩:Aa)]:List Aa)) else none))) else some (Q9.go (a3_1.l,a3_1.i,x23100)))))
def C2 (K:Nat) (p0:List UInt8) (p1:Ab):Option ((Ab×(List Aa)) ⊕ Int):=(Option.bind (Ao K p0 p1) (fun (a1_0,a1_1)=>(if a1_0=true then some (Sum.inl (a1_1,([]:List Aa))) else (Option.bind (Cw K a1_1) (fun a2=>match a2 with |(Sum.inl a2)=>some (Sum.inr a2) |(Sum.inr (a2_0,a2_1))=>(obind (C2.l15 K K a2_1.l a2_1.i ([(⟨a2_0.Op,a2_0.Name,a2_0.Int,a2_0.Text,a2_0.Kids⟩:Aa)]:List Aa):Option (Q9 ((Ab×(List Aa)) ⊕ Int) ((List Al)×Int×(List Aa)))) (fun r=>r) (fun (xh0_0_15,xh0_1_15,x23000)=>(Option.bind (Aq K p0 (⟨xh0_0_15,xh0_1_15⟩:Ab)) (fun a5=>match a5 with |(Sum.inl a5)=>some (Sum.inl (a5,x23000)) |(Sum.inr a5)=>some (Sum.inr a5))))))))))
def C2.rep (p0:List UInt8) (p1:Ab):(Ab×(List Aa)) ⊕ Int→Sc T
 |(Sum.inl (v0,v1))=>.ret (.cv (.own .Ae 100))
 |(Sum.inr v0)=>.pan (Rq 49 v0)
def C2.post (p0:List UInt8) (p1:Ab):(Ab×(List Aa)) ⊕ Int→List (Nat×Rj T)
 |(Sum.inl (v0,v1))=>[(0,.raw [.ro .Ak v0.l,.I v0.i]),(100,.lst .Ae v1)]
 |(Sum.inr v0)=>[]
theorem C2.body {Γ:Rm} {K:Nat} {p0:List UInt8} {p1:Ab} {r:(Ab×(List Aa)) ⊕ Int} (h:C2 K p0 p1=some r):Ri V P 25 100 Γ (Tryz.f48.body.getD .skip) (Rr P V Tryz.f48 (C2.rep p0 p1 r) (C2.post p0 p1 r)) ⟨Q6 0 [.P 0,.cv (.str p0),.cv (.fn (.func 49) [.P 0] [])],[(0,.raw (Af p1))]⟩:=by
 unfold C2 at h
 refine Q4 L 200 <| Qv <| Qv ?_
 obtain ⟨⟨a1_0,a1_1⟩,h1,h⟩:=bind_some h
 dsimp only at h
 refine rg L 202 [] [] [(2,(Rc (.B a1_0) [(0,.raw (Af a1_1))]))] (Q3 (Ao.okE h1)) ?_
 rcases Qw h with ⟨c1,h⟩ |⟨c1,h⟩
 ·refine tt c1 <| Q4 L 206 <| Qy (Qu.trans (Qu.kk [6] [0]) (Qu.trans (Qu.no 6 9000 Tag.Ae) (Qu.trans (Qu.kk [6] [0,9000]) (Qu.rr [(0,0),(9000,100)])))) ?_
  refine Qx ?_
  cases h
  exact Sw
 refine fN c1 <| Q0 <| Qv ?_
 obtain ⟨a2,h2,h⟩:=bind_some h
 rcases a2 with a2 | a2
 ·dsimp only at h
  refine qn L 100208 [] [] [] 1 (Rc (.tup []) []) (Rq 49 a2) (Q3 (Cw.okE h2)) ?_
  cases h
  exact rfl
 ·obtain ⟨a2_0,a2_1⟩:=a2
  dsimp only at h
  refine rg L 100208 [] [] [(1,(Rc (.agg (Aj a2_0)) [(0,.raw (Af a2_1))]))] (Q3 (Cw.okE h2)) ?_
  refine Qv <| Q2 <| Qy (Qu.trans (Qu.kk [0,1,2,7] [0,100210]) (Qu.rr [(0,0),(100210,23100)])) ?_
  refine kp (S':=⟨[(0,.P 0),(1,.cv (.str p0)),(2,.cv (.fn (.func 49) [.P 0] [])),(7,.cv (.own .Ae 23100))],[(0,.raw (Af a2_1)),(23100,.lst .Ae ([(⟨a2_0.Op,a2_0.Name,a2_0.Int,a2_0.Text,a2_0.Kids⟩:Aa)]:List Aa))]⟩) ?_
  obtain ⟨o1,hp1,h⟩:=Rf h
  refine Ra (Q':=fun e S=>(e=.exit 0∧∃ xh0_0_15:List Al,∃ xh0_1_15:Int,∃ x23000:List Aa,S=⟨[(0,.P 0),(1,.cv (.str p0)),(7,.cv (.own .Ae 23000))],[(0,.raw [.ro .Ak xh0_0_15,.I xh0_1_15]),(23000,.lst .Ae x23000)]⟩∧Q9.go (xh0_0_15,xh0_1_15,x23000)=o1)∨((e=.ret∨∃ ch,e=.panic ch)∧∃ a,Q9.done a=o1∧Rr P V Tryz.f48 (C2.rep p0 p1 a) (C2.post p0 p1 a) e S)) (Rh (fun k S=>∃ xh0_0_15h:List Al,∃ xh0_1_15h:Int,∃ x23100:List Aa,S=⟨[(0,.P 0),(1,.cv (.str p0)),(2,.cv (.fn (.func 49) [.P 0] [])),(7,.cv (.own .Ae 23100))],[(0,.raw [.ro .Ak xh0_0_15h,.I xh0_1_15h]),(23100,.lst .Ae x23100)]⟩∧C2.l15 K k xh0_0_15h xh0_1_15h x23100=some o1) ?_ ⟨_,_,_,rfl,hp1⟩) ?_
  ·clear h hp1
   intro k S hS
   obtain ⟨xh0_0_15h,xh0_1_15h,x23100,rfl,h⟩:=hS
   cases k with
   | zero=>cases h
   | succ k =>
   unfold C2.l15 at h
   refine Qv <| Qv ?_
   obtain ⟨⟨a3_0,a3_1⟩,h3,h⟩:=bind_some h
   dsimp only at h
   refine rg L 213 [] [] [(1,(Rc (.B a3_0) [(0,.raw (Af a3_1))]))] (Q3 (Ao.okE h3)) ?_
   rcases Qw h with ⟨c2,h⟩ |⟨c2,h⟩
   ·refine tt c2 <| Q0 <| Q2 ?_
    obtain ⟨a4,h4,h⟩:=bind_some h
    rcases a4 with a4 | a4
    ·dsimp only at h
     refine qn L 216 [] [] [] 2 (Rc (.tup []) []) (Rq 49 a4) (Q3 (Cw.okE h4)) ?_
     cases h
     exact .inr ⟨.inr ⟨_,rfl⟩,_,rfl,rfl⟩
    ·obtain ⟨a4_0,a4_1⟩:=a4
     dsimp only at h
     obtain ⟨g1,h⟩:=Q1 h
     refine ar L 216 [] [] [(2,(Rc (.agg (Aj a4_0)) [(0,.raw (Af a4_1))]))] (cs:=[Q5 V P 49 [.P 0] [(0,.raw (Af a3_1))] [0] (.agg (Aj a4_0)) [(0,.raw (Af a4_1))],(x23100.length+([(⟨a4_0.Op,a4_0.Name,a4_0.Int,a4_0.Text,a4_0.Kids⟩:Aa)]:List Aa).length) * 72≤140737488355328,True]) (S':=⟨[(0,.P 0),(1,.cv (.str p0)),(2,.cv (.fn (.func 49) [.P 0] [])),(7,.cv (.own .Ae 23100))],[(0,.raw (Af a4_1)),(23100,.lst .Ae (x23100++([(⟨a4_0.Op,a4_0.Name,a4_0.Int,a4_0.Text,a4_0.Kids⟩:Aa)]:List Aa)))]⟩) (And.intro (Cw.okE h4) (And.intro g1 trivial)) ?_
     exact ⟨k,Nat.lt_succ_self k,_,_,_,rfl,h⟩
   refine fN c2 <| Qy (Qu.trans (Qu.kk [0,1,7] [0,23100]) (Qu.rr [(0,0),(23100,23000)])) ?_
   refine ex (S':=⟨[(0,.P 0),(1,.cv (.str p0)),(7,.cv (.own .Ae 23000))],[(0,.raw (Af a3_1)),(23000,.lst .Ae x23100)]⟩) ?_
   cases h
   exact .inl ⟨rfl,_,_,_,rfl,rfl⟩
  ·rintro e S (⟨rfl,xh0_0_15,xh0_1_15,x23000,rfl,rfl⟩ |⟨he,a,rfl,hr⟩)
   ·rcases h with ⟨_,e1,h⟩ |⟨_,e1,h⟩
    ·cases e1
    ·have e2:=Q9.go.inj e1
     subst e2
     dsimp only at h
     refine ⟨_,Qu.refl,?_⟩
     refine Qv ?_
     obtain ⟨a5,h5,h⟩:=bind_some h
     rcases a5 with a5 | a5
     ·dsimp only at h
      refine rg L 223 [] [] [(2,(Rc (.tup []) [(0,.raw (Af a5))]))] (Q3 (Aq.okE h5)) ?_
      refine Q4 L 227 <| Qy (Qu.trans (Qu.kk [6] [0,23000]) (Qu.rr [(0,0),(23000,100)])) ?_
      refine Qx ?_
      cases h
      exact Sw
     ·obtain ⟨a5,rfl⟩:∃ z,z=a5:=⟨_,rfl⟩
      dsimp only at h
      refine qn L 223 [] [] [] 2 (Rc (.tup []) []) (Rq 49 a5) (Q3 (Aq.okE h5)) ?_
      cases h
      exact rfl
   ·rcases h with ⟨_,e1,h⟩ |⟨_,e1,h⟩
    ·have e2:=Q9.done.inj e1
     subst e2
     subst h
     rcases he with rfl |⟨ch,rfl⟩
     ·exact ⟨_,Qu.refl,hr⟩
     ·exact ⟨_,Qu.refl,hr⟩
    ·cases e1
theorem C2.okE {K:Nat} {p0:List UInt8} {p1:Ab} {r:(Ab×(List Aa)) ⊕ Int} (h:C2 K p0 p1=some r):Rp V P 48 [.P 0,.cv (.str p0),.cv (.fn (.func 49) [.P 0] [])] [(0,.raw (Af p1))] [0] (C2.post p0 p1 r) (C2.rep p0 p1 r) :=
 xo (fn:=Tryz.f48) (n:=25) (m:=100) fun Γ=>C2.body h
def C1 (K:Nat) (p0:Ab):Option (Int ⊕ (Aa×Ab)):=(Option.bind (B5 K ([([115,105,103,110,97,108]:List UInt8),([113,117,101,114,121]:List UInt8),([117,112,100,97,116,101]:List UInt8)]:List (List UInt8)) ([63,64,65]:List Int) p0) (fun (a1_0,a1_1,a1_2)=>(if a1_1=true then (Option.bind (Ay K a1_2) (fun a2=>match a2 with |(Sum.inl a2)=>some (Sum.inl a2) |(Sum.inr (a2_0,a2_1))=>(Option.bind (Aq K ([40]:List UInt8) a2_1) (fun a3=>match a3 with |(Sum.inl a3)=>(Option.bind (Ay K a3) (fun a4=>match a4 with |(Sum.inl a4)=>some (Sum.inl a4) |(Sum.inr (a4_0,a4_1))=>(Option.bind (Aq K ([41]:List UInt8) a4_1) (fun a5=>match a5 with |(Sum.inl a5)=>(obind (((Option.bind ((if a1_0=65 then (Option.bind (Ao K ([99,104,101,99,107]:List UInt8) a5) (fun (a6_0,a6_1)=>some (a6_0,a6_1.l,a6_1.i))) else some (false,a5.l,a5.i)):Option (Bool×(List Al)×Int)) (fun (xt33_20,xh0_0_20,xh0_1_20)=>(if xt33_20=true then (Option.bind (Au K (⟨xh0_0_20,xh0_1_20⟩:Ab)) (fun a7=>match a7 with |(Sum.inl a7)=>some (Q9.done (Sum.inl a7)) |(Sum.inr (a7_0,a7_1))=>(if ([(⟨a7_0.Op,a7_0.Name,a7_0.Int,a7_0.Text,a7_0.Kids⟩:Aa)]:List Aa).length * 72≤140737488355328 then some (Q9.go (a7_1.l,a7_1.i,([(⟨a7_0.Op,a7_0.Name,a7_0.Int,a7_0.Text,a7_0.Kids⟩:Aa)]:List Aa))) else none))) else some (Q9.go (xh0_0_20,xh0_1_20,([]:List Aa))))))):Option (Q9 (Int ⊕ (Aa×Ab)) ((List Al)×Int×(List Aa)))) (fun r=>r) (fun (xh0_0_19,xh0_1_19,x23802)=>(Option.bind (Au K (⟨xh0_0_19,xh0_1_19⟩:Ab)) (fun a8=>match a8 with |(Sum.inl a8)=>some (Sum.inl a8) |(Sum.inr (a8_0,a8_1))=>(if (x23802.length+([(⟨a8_0.Op,a8_0.Name,a8_0.Int,a8_0.Text,a8_0.Kids⟩:Aa)]:List Aa).length) * 72≤140737488355328 then some ((Sum.inr ((⟨a1_0,a2_0,0,a4_0,(x23802++([(⟨a8_0.Op,a8_0.Name,a8_0.Int,a8_0.Text,a8_0.Kids⟩:Aa)]:List Aa))⟩:Aa),a8_1))) else none))))) |(Sum.inr a5)=>some (Sum.inl a5))))) |(Sum.inr a3)=>some (Sum.inl a3))))) else (Option.bind (Bl K a1_2) (fun a9=>some (Sum.inl a9))))))
def C1.rep (p0:Ab):Int ⊕ (Aa×Ab)→Sc T
 |(Sum.inl v0)=>.pan (Rq 49 v0)
 |(Sum.inr (v0,v1))=>.ret (.agg [.I v0.Op,.str v0.Name,.I v0.Int,.str v0.Text,.ro .Ae v0.Kids])
def C1.post (p0:Ab):Int ⊕ (Aa×Ab)→List (Nat×Rj T)
 |(Sum.inl v0)=>[]
 |(Sum.inr (v0,v1))=>[(0,.raw [.ro .Ak v1.l,.I v1.i])]
theorem C1.body {Γ:Rm} {K:Nat} {p0:Ab} {r:Int ⊕ (Aa×Ab)} (h:C1 K p0=some r):Ri V P 49 100 Γ (Tryz.f51.body.getD .skip) (Rr P V Tryz.f51 (C1.rep p0 r) (C1.post p0 r)) ⟨Q6 0 [.P 0],[(0,.raw (Af p0))]⟩:=by
 unfold C1 at h
 refine Q4 L 200 <| Qv ?_
 obtain ⟨⟨a1_0,a1_1,a1_2⟩,h1,h⟩:=bind_some h
 dsimp only at h
 refine rg L 202 [] [] [(3,(Rc (.tup [.I a1_0,.B a1_1]) [(0,.raw (Af a1_2))]))] (Q3 (B5.okE h1)) ?_
 refine Qv <| Q4 L 212 ?_
 rcases Qw h with ⟨c1,h⟩ |⟨c1,h⟩
 ·refine ff (b:=(!a1_1)) (congrArg Bool.not (c1)) ?_
  refine Q0 <| Qv ?_
  obtain ⟨a2,h2,h⟩:=bind_some h
  rcases a2 with a2 | a2
  ·dsimp only at h
   refine qn L 218 [] [] [] 2 (Rc (.tup []) []) (Rq 49 a2) (Q3 (Ay.okE h2)) ?_
   cases h
   exact rfl
  ·obtain ⟨a2_0,a2_1⟩:=a2
   dsimp only at h
   refine rg L 218 [] [] [(2,(Rc (.cv (.str a2_0)) [(0,.raw (Af a2_1))]))] (Q3 (Ay.okE h2)) ?_
   refine Qv ?_
   obtain ⟨a3,h3,h⟩:=bind_some h
   rcases a3 with a3 | a3
   ·dsimp only at h
    refine rg L 225 [] [] [(1,(Rc (.tup []) [(0,.raw (Af a3))]))] (Q3 (Aq.okE h3)) ?_
    refine Qv ?_
    obtain ⟨a4,h4,h⟩:=bind_some h
    rcases a4 with a4 | a4
    ·dsimp only at h
     refine qn L 228 [] [] [] 1 (Rc (.tup []) []) (Rq 49 a4) (Q3 (Ay.okE h4)) ?_
     cases h
     exact rfl
    ·obtain ⟨a4_0,a4_1⟩:=a4
     dsimp only at h
     refine rg L 228 [] [] [(1,(Rc (.cv (.str a4_0)) [(0,.raw (Af a4_1))]))] (Q3 (Ay.okE h4)) ?_
     refine Qv ?_
     obtain ⟨a5,h5,h⟩:=bind_some h
     rcases a5 with a5 | a5
     ·dsimp only at h
      refine rg L 233 [] [] [(1,(Rc (.tup []) [(0,.raw (Af a5))]))] (Q3 (Aq.okE h5)) ?_
      obtain ⟨o2,hp2,h⟩:=Rf h
      refine Qv (Rk (Q':=fun e S=>(e=.normal∧∃ xh0_0_19:List Al,∃ xh0_1_19:Int,∃ x23802:List Aa,S=⟨[(0,.P 0),(2,.P 23800),(5,.P 23801)],[(0,.raw [.ro .Ak xh0_0_19,.I xh0_1_19]),(23800,.raw [.I 0,.str [],.I 0,.str [],.N]),(23801,.raw [.I a1_0,.str a2_0,.I 0,.str a4_0,.own .Ae 23802]),(23802,.lst .Ae x23802)]⟩∧Q9.go (xh0_0_19,xh0_1_19,x23802)=o2)∨((e=.ret∨∃ ch,e=.panic ch)∧∃ a,Q9.done a=o2∧Rr P V Tryz.f51 (C1.rep p0 a) (C1.post p0 a) e S)) ?_ ?_)
      ·clear h
       replace h:=hp2
       obtain ⟨o1,hp1,h⟩:=bind_some h
       refine Qv (Rk (Q':=fun e S=>(e=.normal∧∃ xt33_20:Bool,∃ xh0_0_20:List Al,∃ xh0_1_20:Int,S=⟨[(0,.P 0),(2,.P 24000),(5,.P 24001),(33,.B xt33_20)],[(0,.raw [.ro .Ak xh0_0_20,.I xh0_1_20]),(24000,.raw [.I 0,.str [],.I 0,.str [],.N]),(24001,.raw [.I a1_0,.str a2_0,.I 0,.str a4_0,.N])]⟩∧(xt33_20,xh0_0_20,xh0_1_20)=o1)) ?_ ?_)
       ·clear h
        replace h:=hp1
        rcases Qw h with ⟨c2,h⟩ |⟨c2,h⟩
        ·obtain ⟨⟨a6_0,a6_1⟩,h6,h⟩:=bind_some h
         dsimp only at h
         refine Q8 (rg L 236 [(2,true)] [] [(4,(Rc (.B a6_0) [(0,.raw (Af a6_1))]))] (Sj (decide_eq_true c2) (Ao.okE h6)) ⟨rfl,rfl⟩) (Qu.trans (Qu.kk [0,2,5,33] [0,200,222]) (Qu.trans (Qu.rr [(0,0),(200,24000),(222,24001)]) (Qu.kp (S':=⟨[(0,.P 0),(2,.P 24000),(5,.P 24001),(33,.B a6_0)],[(0,.raw (Af a6_1)),(24000,.raw [.I 0,.str [],.I 0,.str [],.N]),(24001,.raw [.I a1_0,.str a2_0,.I 0,.str a4_0,.N])]⟩)))) ?_
         cases h
         exact ⟨rfl,_,_,_,rfl,rfl⟩
        refine Q8 (rg L 236 [(2,false)] [] [] (Q3 (decide_eq_false c2)) ⟨rfl,rfl⟩) (Qu.trans (Qu.kk [0,2,5,33] [0,200,222]) (Qu.trans (Qu.rr [(0,0),(200,24000),(222,24001)]) (Qu.kp (S':=⟨[(0,.P 0),(2,.P 24000),(5,.P 24001),(33,.B false)],[(0,.raw (Af a5)),(24000,.raw [.I 0,.str [],.I 0,.str [],.N]),(24001,.raw [.I a1_0,.str a2_0,.I 0,.str a4_0,.N])]⟩)))) ?_
        cases h
        exact ⟨rfl,_,_,_,rfl,rfl⟩
       ·rintro e S ⟨rfl,xt33_20,xh0_0_20,xh0_1_20,rfl,rfl⟩
        dsimp only at h
        rcases Qw h with ⟨c3,h⟩ |⟨c3,h⟩
        ·refine tt c3 ?_
         obtain ⟨a7,h7,h⟩:=bind_some h
         rcases a7 with a7 | a7
         ·dsimp only at h
          refine qP L mixed 243 [] [] [] [0,2] 3 (Rc (.tup []) []) (Rq 49 a7) (Sj (Au.okE h7) (Au.okE h7)) ?_
          cases h
          exact .inr ⟨.inr ⟨_,rfl⟩,_,rfl,rfl⟩
         ·obtain ⟨a7_0,a7_1⟩:=a7
          dsimp only at h
          obtain ⟨g1,h⟩:=Q1 h
          refine Q8 (hB L mixed 243 [] [] [(3,(Rc (.agg (Aj a7_0)) [(0,.raw (Af a7_1))]))] [0,2] 3 (Qz (Au.okE h7) (Qz g1 (Qz trivial (Qz (Au.okE h7) (Qz g1 (Qz trivial (Qz g1 (Q3 trivial)))))))) (S':=⟨[(0,.P 0),(2,.P 24000),(5,.P 24001)],[(0,.raw (Af a7_1)),(248,.lst .Ae ([(⟨a7_0.Op,a7_0.Name,a7_0.Int,a7_0.Text,a7_0.Kids⟩:Aa)]:List Aa)),(24000,.raw [.I 0,.str [],.I 0,.str [],.N]),(24001,.raw [.I a1_0,.str a2_0,.I 0,.str a4_0,.own .Ae 248])]⟩) ⟨rfl,rfl⟩) (Qu.trans (Qu.kk [0,2,5] [0,248,24000,24001]) (Qu.trans (Qu.rr [(0,0),(248,23802),(24000,23800),(24001,23801)]) (Qu.kp (S':=⟨[(0,.P 0),(2,.P 23800),(5,.P 23801)],[(0,.raw (Af a7_1)),(23800,.raw [.I 0,.str [],.I 0,.str [],.N]),(23801,.raw [.I a1_0,.str a2_0,.I 0,.str a4_0,.own .Ae 23802]),(23802,.lst .Ae ([(⟨a7_0.Op,a7_0.Name,a7_0.Int,a7_0.Text,a7_0.Kids⟩:Aa)]:List Aa))]⟩)))) ?_
          cases h
          exact .inl ⟨rfl,_,_,_,rfl,rfl⟩
        refine fN c3 <| Qy (Qu.trans (Qu.kk [0,2,5] [0,24000,24001]) (Qu.trans (Qu.nc 24001 4 9500 Tag.Ae) (Qu.trans (Qu.kk [0,2,5] [0,9500,24000,24001]) (Qu.rr [(0,0),(9500,23802),(24000,23800),(24001,23801)])))) ?_
        refine sk (S':=⟨[(0,.P 0),(2,.P 23800),(5,.P 23801)],[(0,.raw [.ro .Ak xh0_0_20,.I xh0_1_20]),(23800,.raw [.I 0,.str [],.I 0,.str [],.N]),(23801,.raw [.I a1_0,.str a2_0,.I 0,.str a4_0,.own .Ae 23802]),(23802,.lst .Ae ([]:List Aa))]⟩) ?_
        cases h
        exact .inl ⟨rfl,_,_,_,rfl,rfl⟩
      ·rintro e S (⟨rfl,xh0_0_19,xh0_1_19,x23802,rfl,rfl⟩ |⟨he,a,rfl,hr⟩)
       ·rcases h with ⟨_,e1,h⟩ |⟨_,e1,h⟩
        ·cases e1
        ·have e2:=Q9.go.inj e1
         subst e2
         dsimp only at h
         refine Qv ?_
         obtain ⟨a8,h8,h⟩:=bind_some h
         rcases a8 with a8 | a8
         ·dsimp only at h
          refine qP L mixed 252 [] [] [] [0,2] 3 (Rc (.tup []) []) (Rq 49 a8) (Sj (Au.okE h8) (Au.okE h8)) ?_
          cases h
          exact rfl
         ·obtain ⟨a8_0,a8_1⟩:=a8
          dsimp only at h
          obtain ⟨g2,h⟩:=Q1 h
          refine hB L mixed 252 [] [] [(3,(Rc (.agg (Aj a8_0)) [(0,.raw (Af a8_1))]))] [0,2] 3 (Qz (Au.okE h8) (Qz g2 (Qz trivial (Qz (Au.okE h8) (Qz g2 (Qz trivial (Qz g2 (Q3 trivial)))))))) (S':=⟨[(2,.P 23800),(5,.P 23801)],[(0,.raw (Af a8_1)),(23800,.raw [.I 0,.str [],.I 0,.str [],.N]),(23801,.raw [.I a1_0,.str a2_0,.I 0,.str a4_0,.own .Ae 23802]),(23802,.lst .Ae (x23802++([(⟨a8_0.Op,a8_0.Name,a8_0.Int,a8_0.Text,a8_0.Kids⟩:Aa)]:List Aa)))]⟩) ?_
          refine Q4 L 261 <| Qy (Qu.trans (Qu.kk [2] [0,23800,23802]) (Qu.trans (Qu.fz 23802) (Qu.rr [(0,0),(23800,100)]))) ?_
          refine Qx ?_
          cases h
          exact Sw
       ·rcases h with ⟨_,e1,h⟩ |⟨_,e1,h⟩
        ·have e2:=Q9.done.inj e1
         subst e2
         subst h
         rcases he with rfl |⟨ch,rfl⟩
         ·exact hr
         ·exact hr
        ·cases e1
     ·obtain ⟨a5,rfl⟩:∃ z,z=a5:=⟨_,rfl⟩
      dsimp only at h
      refine qn L 233 [] [] [] 1 (Rc (.tup []) []) (Rq 49 a5) (Q3 (Aq.okE h5)) ?_
      cases h
      exact rfl
   ·obtain ⟨a3,rfl⟩:∃ z,z=a3:=⟨_,rfl⟩
    dsimp only at h
    refine qn L 225 [] [] [] 1 (Rc (.tup []) []) (Rq 49 a3) (Q3 (Aq.okE h3)) ?_
    cases h
    exact rfl
 refine tt (b:=(!a1_1)) (congrArg Bool.not (eq_false_of_ne_true c1)) ?_
 obtain ⟨a9,h9,h⟩:=bind_some h
 refine qn L 215 [] [] [] 1 (Rc (.tup []) []) (Rq 49 a9) (Q3 (Bl.okE h9)) ?_
 cases h
 exact rfl
theorem C1.okE {K:Nat} {p0:Ab} {r:Int ⊕ (Aa×Ab)} (h:C1 K p0=some r):Rp V P 51 [.P 0] [(0,.raw (Af p0))] [0] (C1.post p0 r) (C1.rep p0 r) :=
 xo (fn:=Tryz.f51) (n:=49) (m:=100) fun Γ=>C1.body h
def Cg.l7 (K:Nat):Nat→(List Al)→Int→(List Aa)→Option (Q9 (Int ⊕ (Aa×Ab)) ((List Al)×Int×(List Aa)))
 | 0,_,_,_=>none
 | k+1,xh0_0_7h,xh0_1_7h,x21502=>(Option.bind (Bx K (⟨xh0_0_7h,xh0_1_7h⟩:Ab)) (fun a1=>(if a1.Kind≠0 then (Option.bind (Ao K ([118,97,114]:List UInt8) (⟨xh0_0_7h,xh0_1_7h⟩:Ab)) (fun (a2_0,a2_1)=>(if a2_0=true then (Option.bind (Ay K a2_1) (fun a3=>match a3 with |(Sum.inl a3)=>some (Q9.done (Sum.inl a3)) |(Sum.inr (a3_0,a3_1))=>(Option.bind (Aq K ([61]:List UInt8) a3_1) (fun a4=>match a4 with |(Sum.inl a4)=>(Option.bind (C4 K a4) (fun a5=>match a5 with |(Sum.inl a5)=>some (Q9.done (Sum.inl a5)) |(Sum.inr (a5_0,a5_1))=>(if (x21502.length+([(⟨61,a3_0,0,[],([(⟨a5_0.Op,a5_0.Name,a5_0.Int,a5_0.Text,a5_0.Kids⟩:Aa)]:List Aa)⟩:Aa)]:List Aa).length) * 72≤140737488355328 then (Option.bind (Aq K ([59]:List UInt8) a5_1) (fun a6=>match a6 with |(Sum.inl a6)=>Cg.l7 K k a6.l a6.i (x21502++([(⟨61,a3_0,0,[],([(⟨a5_0.Op,a5_0.Name,a5_0.Int,a5_0.Text,a5_0.Kids⟩:Aa)]:List Aa)⟩:Aa)]:List Aa)) |(Sum.inr a6)=>some (Q9.done (Sum.inl a6)))) else none))) |(Sum.inr a4)=>some (Q9.done (Sum.inl a4)))))) else (Option.bind (Ao K ([102,117,110,99]:List UInt8) a2_1) (fun (a7_0,a7_1)=>(if a7_0=true then (Option.bind (Ay K a7_1) (fun a8=>match a8 with |(Sum.inl a8)=>some (Q9.done (Sum.inl a8)) |(Sum.inr (a8_0,a8_1))=>(Option.bind (Aq K ([40]:List UInt8) a8_1) (fun a9=>match a9 with |(Sum.inl a9)=>(Option.bind (C2 K ([41]:List UInt8) a9) (fun a10=>match a10 with |(Sum.inl (a10_0,a10_1))=>(Option.bind (Au K a10_0) (fun a11=>match a11 with |(Sum.inl a11)=>some (Q9.done (Sum.inl a11)) |(Sum.inr (a11_0,a11_1))=>(if (a10_1.length+([(⟨a11_0.Op,a11_0.Name,a11_0.Int,a11_0.Text,a11_0.Kids⟩:Aa)]:List Aa).length) * 72≤140737488355328 then (if (x21502.length+([(⟨62,a8_0,0,[],(a10_1++([(⟨a11_0.Op,a11_0.Name,a11_0.Int,a11_0.Text,a11_0.Kids⟩:Aa)]:List Aa))⟩:Aa)]:List Aa).length) * 72≤140737488355328 then Cg.l7 K k a11_1.l a11_1.i ((x21502++([(⟨62,a8_0,0,[],(a10_1++([(⟨a11_0.Op,a11_0.Name,a11_0.Int,a11_0.Text,a11_0.Kids⟩:Aa)]:List Aa))⟩:Aa)]:List Aa))) else none) else none))) |(Sum.inr a10)=>some (Q9.done (Sum.inl a10)))) |(Sum.inr a9)=>some (Q9.done (Sum.inl a9)))))) else (Option.bind (Aq K ([111,110]:List UInt8) a7_1) (fun a12=>match a12 with |(Sum.inl a12)=>(Option.bind (C1 K a12) (fun a13=>match a13 with |(Sum.inl a13)=>some (Q9.done (Sum.inl a13)) |(Sum.inr (a13_0,a13_1))=>(if (x21502.length+([(⟨a13_0.Op,a13_0.Name,a13_0.Int,a13_0.Text,a13_0.Kids⟩:Aa)]:List Aa).length) * 72≤140737488355328 then Cg.l7 K k a13_1.l a13_1.i (x21502++([(⟨a13_0.Op,a13_0.Name,a13_0.Int,a13_0.Text,a13_0.Kids⟩:Aa)]:List Aa)) else none))) |(Sum.inr a12)=>some (Q9.done (Sum.inl a12)))))))))) else some (Q9.go (xh0_0_7h,xh0_1_7h,x21502)))))
def Cg (K:Nat) (p0:Ab):Option (Int ⊕ (Aa×Ab)):=(obind (Cg.l7 K K p0.l p0.i ([]:List Aa):Option (Q9 (Int ⊕ (Aa×Ab)) ((List Al)×Int×(List Aa)))) (fun r=>r) (fun (xh0_0_7,xh0_1_7,x21402)=>some (Sum.inr ((⟨60,[],0,[],x21402⟩:Aa),(⟨xh0_0_7,xh0_1_7⟩:Ab)))))
def Cg.rep (p0:Ab):Int ⊕ (Aa×Ab)→Sc T
 |(Sum.inl v0)=>.pan (Rq 49 v0)
 |(Sum.inr (v0,v1))=>.ret (.agg [.I v0.Op,.str v0.Name,.I v0.Int,.str v0.Text,.ro .Ae v0.Kids])
def Cg.post (p0:Ab):Int ⊕ (Aa×Ab)→List (Nat×Rj T)
 |(Sum.inl v0)=>[]
 |(Sum.inr (v0,v1))=>[(0,.raw [.ro .Ak v1.l,.I v1.i])]
theorem Cg.body {Γ:Rm} {K:Nat} {p0:Ab} {r:Int ⊕ (Aa×Ab)} (h:Cg K p0=some r):Ri V P 64 100 Γ (Tryz.f26.body.getD .skip) (Rr P V Tryz.f26 (Cg.rep p0 r) (Cg.post p0 r)) ⟨Q6 0 [.P 0],[(0,.raw (Af p0))]⟩:=by
 unfold Cg at h
 refine Q4 L 200 <| Q4 L 202 <| Qv <| Q2 <| Qy (Qu.trans (Qu.kk [0,2,3] [0,200,203]) (Qu.trans (Qu.nc 203 4 9500 Tag.Ae) (Qu.trans (Qu.kk [0,2,3] [0,200,203,9500]) (Qu.rr [(0,0),(200,21500),(203,21501),(9500,21502)])))) ?_
 refine kp (S':=⟨[(0,.P 0),(2,.P 21500),(3,.P 21501)],[(0,.raw (Af p0)),(21500,.raw [.I 0,.str [],.I 0,.str [],.N]),(21501,.raw [.I 60,.str [],.I 0,.str [],.own .Ae 21502]),(21502,.lst .Ae ([]:List Aa))]⟩) ?_
 obtain ⟨o1,hp1,h⟩:=Rf h
 refine Ra (Q':=fun e S=>(e=.exit 0∧∃ xh0_0_7:List Al,∃ xh0_1_7:Int,∃ x21402:List Aa,S=⟨[(2,.P 21400),(3,.P 21401)],[(0,.raw [.ro .Ak xh0_0_7,.I xh0_1_7]),(21400,.raw [.I 0,.str [],.I 0,.str [],.N]),(21401,.raw [.I 60,.str [],.I 0,.str [],.own .Ae 21402]),(21402,.lst .Ae x21402)]⟩∧Q9.go (xh0_0_7,xh0_1_7,x21402)=o1)∨((e=.ret∨∃ ch,e=.panic ch)∧∃ a,Q9.done a=o1∧Rr P V Tryz.f26 (Cg.rep p0 a) (Cg.post p0 a) e S)) (Rh (fun k S=>∃ xh0_0_7h:List Al,∃ xh0_1_7h:Int,∃ x21502:List Aa,S=⟨[(0,.P 0),(2,.P 21500),(3,.P 21501)],[(0,.raw [.ro .Ak xh0_0_7h,.I xh0_1_7h]),(21500,.raw [.I 0,.str [],.I 0,.str [],.N]),(21501,.raw [.I 60,.str [],.I 0,.str [],.own .Ae 21502]),(21502,.lst .Ae x21502)]⟩∧Cg.l7 K k xh0_0_7h xh0_1_7h x21502=some o1) ?_ ⟨_,_,_,rfl,hp1⟩) ?_
 ·clear h hp1
  intro k S hS
  obtain ⟨xh0_0_7h,xh0_1_7h,x21502,rfl,h⟩:=hS
  cases k with
  | zero=>cases h
  | succ k =>
  unfold Cg.l7 at h
  refine Qv <| Qv ?_
  obtain ⟨a1,h1,h⟩:=bind_some h
  refine rg L 206 [] [(1,.agg (D8 a1))] [] (R6 (Bx.ok h1)) ?_
  rcases Qw h with ⟨c1,h⟩ |⟨c1,h⟩
  ·refine tT c1 <| Q0 <| Q2 <| Q2 <| Qv ?_
   obtain ⟨⟨a2_0,a2_1⟩,h2,h⟩:=bind_some h
   dsimp only at h
   refine rg L 211 [] [] [(1,(Rc (.B a2_0) [(0,.raw (Af a2_1))]))] (Q3 (Ao.okE h2)) ?_
   rcases Qw h with ⟨c2,h⟩ |⟨c2,h⟩
   ·refine tt c2 <| Qv ?_
    obtain ⟨a3,h3,h⟩:=bind_some h
    rcases a3 with a3 | a3
    ·dsimp only at h
     refine qn L 215 [] [] [] 1 (Rc (.tup []) []) (Rq 49 a3) (Q3 (Ay.okE h3)) ?_
     cases h
     exact .inr ⟨.inr ⟨_,rfl⟩,_,rfl,rfl⟩
    ·obtain ⟨a3_0,a3_1⟩:=a3
     dsimp only at h
     refine rg L 215 [] [] [(1,(Rc (.cv (.str a3_0)) [(0,.raw (Af a3_1))]))] (Q3 (Ay.okE h3)) ?_
     refine Qv ?_
     obtain ⟨a4,h4,h⟩:=bind_some h
     rcases a4 with a4 | a4
     ·dsimp only at h
      refine rg L 219 [] [] [(1,(Rc (.tup []) [(0,.raw (Af a4))]))] (Q3 (Aq.okE h4)) ?_
      refine Qv ?_
      obtain ⟨a5,h5,h⟩:=bind_some h
      rcases a5 with a5 | a5
      ·dsimp only at h
       refine qP L mixed 222 [] [] [] [0,2,3] 4 (Rc (.tup []) []) (Rq 49 a5) (Sj (C4.okE h5) (C4.okE h5)) ?_
       cases h
       exact .inr ⟨.inr ⟨_,rfl⟩,_,rfl,rfl⟩
      ·obtain ⟨a5_0,a5_1⟩:=a5
       dsimp only at h
       obtain ⟨g1,h⟩:=Q1 h
       refine hB L mixed 222 [] [] [(4,(Rc (.agg (Aj a5_0)) [(0,.raw (Af a5_1))]))] [0,2,3] 5 (Qz (C4.okE h5) (Qz g1 (Qz trivial (Qz (C4.okE h5) (Qz g1 (Qz trivial (Qz g1 (Qz trivial (Qz g1 (Qz trivial (Qz g1 (Q3 trivial)))))))))))) (S':=⟨[(0,.P 0),(2,.P 21500),(3,.P 21501)],[(0,.raw (Af a5_1)),(21500,.raw [.I 0,.str [],.I 0,.str [],.N]),(21501,.raw [.I 60,.str [],.I 0,.str [],.own .Ae 21502]),(21502,.lst .Ae (x21502++([(⟨61,a3_0,0,[],([(⟨a5_0.Op,a5_0.Name,a5_0.Int,a5_0.Text,a5_0.Kids⟩:Aa)]:List Aa)⟩:Aa)]:List Aa)))]⟩) ?_
       obtain ⟨a6,h6,h⟩:=bind_some h
       rcases a6 with a6 | a6
       ·dsimp only at h
        refine ar L 234 [] [] [(1,(Rc (.tup []) [(0,.raw (Af a6))]))] (cs:=[Q5 V P 46 [.P 0,.cv (.str ([59]:List UInt8))] [(0,.raw (Af a5_1))] [0] (.tup []) [(0,.raw (Af a6))]]) (S':=⟨[(0,.P 0),(2,.P 21500),(3,.P 21501)],[(0,.raw (Af a6)),(21500,.raw [.I 0,.str [],.I 0,.str [],.N]),(21501,.raw [.I 60,.str [],.I 0,.str [],.own .Ae 21502]),(21502,.lst .Ae (x21502++([(⟨61,a3_0,0,[],([(⟨a5_0.Op,a5_0.Name,a5_0.Int,a5_0.Text,a5_0.Kids⟩:Aa)]:List Aa)⟩:Aa)]:List Aa)))]⟩) (Aq.okE h6) ?_
        exact ⟨k,Nat.lt_succ_self k,_,_,_,rfl,h⟩
       ·obtain ⟨a6,rfl⟩:∃ z,z=a6:=⟨_,rfl⟩
        dsimp only at h
        refine qn L 234 [] [] [] 1 (Rc (.tup []) []) (Rq 49 a6) (Q3 (Aq.okE h6)) ?_
        cases h
        exact .inr ⟨.inr ⟨_,rfl⟩,_,rfl,rfl⟩
     ·obtain ⟨a4,rfl⟩:∃ z,z=a4:=⟨_,rfl⟩
      dsimp only at h
      refine qn L 219 [] [] [] 1 (Rc (.tup []) []) (Rq 49 a4) (Q3 (Aq.okE h4)) ?_
      cases h
      exact .inr ⟨.inr ⟨_,rfl⟩,_,rfl,rfl⟩
   refine fN c2 <| Qv ?_
   obtain ⟨⟨a7_0,a7_1⟩,h7,h⟩:=bind_some h
   dsimp only at h
   refine rg L 237 [] [] [(1,(Rc (.B a7_0) [(0,.raw (Af a7_1))]))] (Q3 (Ao.okE h7)) ?_
   rcases Qw h with ⟨c3,h⟩ |⟨c3,h⟩
   ·refine tt c3 <| Qv ?_
    obtain ⟨a8,h8,h⟩:=bind_some h
    rcases a8 with a8 | a8
    ·dsimp only at h
     refine qn L 241 [] [] [] 1 (Rc (.tup []) []) (Rq 49 a8) (Q3 (Ay.okE h8)) ?_
     cases h
     exact .inr ⟨.inr ⟨_,rfl⟩,_,rfl,rfl⟩
    ·obtain ⟨a8_0,a8_1⟩:=a8
     dsimp only at h
     refine rg L 241 [] [] [(1,(Rc (.cv (.str a8_0)) [(0,.raw (Af a8_1))]))] (Q3 (Ay.okE h8)) ?_
     refine Qv ?_
     obtain ⟨a9,h9,h⟩:=bind_some h
     rcases a9 with a9 | a9
     ·dsimp only at h
      refine rg L 245 [] [] [(1,(Rc (.tup []) [(0,.raw (Af a9))]))] (Q3 (Aq.okE h9)) ?_
      refine Qv ?_
      obtain ⟨a10,h10,h⟩:=bind_some h
      rcases a10 with ⟨a10_0,a10_1⟩ | a10
      ·dsimp only at h
       refine rg L 248 [] [] [(3,(ef [0] [0] (.cv (.own .Ae 100)) [(0,.raw (Af a10_0)),(100,.lst .Ae a10_1)] [(0,0),(100,5408)]))] (Q3 (C2.okE h10)) ?_
       obtain ⟨a11,h11,h⟩:=bind_some h
       rcases a11 with a11 | a11
       ·dsimp only at h
        refine qP L mixed 254 [] [] [] [0,2,3,4] 5 (Rc (.tup []) []) (Rq 49 a11) (Sj (Au.okE h11) (Au.okE h11)) ?_
        cases h
        exact .inr ⟨.inr ⟨_,rfl⟩,_,rfl,rfl⟩
       ·obtain ⟨a11_0,a11_1⟩:=a11
        dsimp only at h
        obtain ⟨g2,h⟩:=Q1 h
        obtain ⟨g3,h⟩:=Q1 h
        refine hB L mixed 254 [] [] [(5,(Rc (.agg (Aj a11_0)) [(0,.raw (Af a11_1))])),(9,{ hids:=[],fx:=[],r:=.tup [],H':=[],σ:=[],fr:=[5408] })] [0,2,3,4] 6 (Qz (Au.okE h11) (Qz g2 (Qz trivial (Qz g3 (Qz trivial (Qz (Au.okE h11) (Qz g2 (Qz trivial (Qz g3 (Qz trivial (Qz g2 (Qz trivial (Qz g3 (Qz trivial (Qz g2 (Qz trivial (Qz g3 (Qz trivial (Qz g3 (Qz trivial (Qz g3 (Q3 trivial)))))))))))))))))))))) (S':=⟨[(0,.P 0),(2,.P 21500),(3,.P 21501)],[(0,.raw (Af a11_1)),(21500,.raw [.I 0,.str [],.I 0,.str [],.N]),(21501,.raw [.I 60,.str [],.I 0,.str [],.own .Ae 21502]),(21502,.lst .Ae ((x21502++([(⟨62,a8_0,0,[],(a10_1++([(⟨a11_0.Op,a11_0.Name,a11_0.Int,a11_0.Text,a11_0.Kids⟩:Aa)]:List Aa))⟩:Aa)]:List Aa))))]⟩) ?_
        exact ⟨k,Nat.lt_succ_self k,_,_,_,rfl,h⟩
      ·obtain ⟨a10,rfl⟩:∃ z,z=a10:=⟨_,rfl⟩
       dsimp only at h
       refine qn L 248 [] [] [] 3 (Rc (.tup []) []) (Rq 49 a10) (Q3 (C2.okE h10)) ?_
       cases h
       exact .inr ⟨.inr ⟨_,rfl⟩,_,rfl,rfl⟩
     ·obtain ⟨a9,rfl⟩:∃ z,z=a9:=⟨_,rfl⟩
      dsimp only at h
      refine qn L 245 [] [] [] 1 (Rc (.tup []) []) (Rq 49 a9) (Q3 (Aq.okE h9)) ?_
      cases h
      exact .inr ⟨.inr ⟨_,rfl⟩,_,rfl,rfl⟩
   refine fN c3 <| Qv ?_
   obtain ⟨a12,h12,h⟩:=bind_some h
   rcases a12 with a12 | a12
   ·dsimp only at h
    refine rg L 268 [] [] [(1,(Rc (.tup []) [(0,.raw (Af a12))]))] (Q3 (Aq.okE h12)) ?_
    obtain ⟨a13,h13,h⟩:=bind_some h
    rcases a13 with a13 | a13
    ·dsimp only at h
     refine qP L mixed 271 [] [] [] [0,2] 3 (Rc (.tup []) []) (Rq 49 a13) (Sj (C1.okE h13) (C1.okE h13)) ?_
     cases h
     exact .inr ⟨.inr ⟨_,rfl⟩,_,rfl,rfl⟩
    ·obtain ⟨a13_0,a13_1⟩:=a13
     dsimp only at h
     obtain ⟨g4,h⟩:=Q1 h
     refine hB L mixed 271 [] [] [(3,(Rc (.agg (Aj a13_0)) [(0,.raw (Af a13_1))]))] [0,2] 3 (Qz (C1.okE h13) (Qz g4 (Qz trivial (Qz (C1.okE h13) (Qz g4 (Qz trivial (Qz g4 (Q3 trivial)))))))) (S':=⟨[(0,.P 0),(2,.P 21500),(3,.P 21501)],[(0,.raw (Af a13_1)),(21500,.raw [.I 0,.str [],.I 0,.str [],.N]),(21501,.raw [.I 60,.str [],.I 0,.str [],.own .Ae 21502]),(21502,.lst .Ae (x21502++([(⟨a13_0.Op,a13_0.Name,a13_0.Int,a13_0.Text,a13_0.Kids⟩:Aa)]:List Aa)))]⟩) ?_
     exact ⟨k,Nat.lt_succ_self k,_,_,_,rfl,h⟩
   ·obtain ⟨a12,rfl⟩:∃ z,z=a12:=⟨_,rfl⟩
    dsimp only at h
    refine qn L 268 [] [] [] 1 (Rc (.tup []) []) (Rq 49 a12) (Q3 (Aq.okE h12)) ?_
    cases h
    exact .inr ⟨.inr ⟨_,rfl⟩,_,rfl,rfl⟩
  refine fF c1 <| Qy (Qu.trans (Qu.kk [2,3] [0,21500,21501,21502]) (Qu.rr [(0,0),(21500,21400),(21501,21401),(21502,21402)])) ?_
  refine ex (S':=⟨[(2,.P 21400),(3,.P 21401)],[(0,.raw [.ro .Ak xh0_0_7h,.I xh0_1_7h]),(21400,.raw [.I 0,.str [],.I 0,.str [],.N]),(21401,.raw [.I 60,.str [],.I 0,.str [],.own .Ae 21402]),(21402,.lst .Ae x21502)]⟩) ?_
  cases h
  exact .inl ⟨rfl,_,_,_,rfl,rfl⟩
 ·rintro e S (⟨rfl,xh0_0_7,xh0_1_7,x21402,rfl,rfl⟩ |⟨he,a,rfl,hr⟩)
  ·rcases h with ⟨_,e1,h⟩ |⟨_,e1,h⟩
   ·cases e1
   ·have e2:=Q9.go.inj e1
    subst e2
    dsimp only at h
    refine ⟨_,Qu.refl,?_⟩
    refine Q4 L 280 <| Qy (Qu.trans (Qu.kk [2] [0,21400,21402]) (Qu.trans (Qu.fz 21402) (Qu.rr [(0,0),(21400,100)]))) ?_
    refine Qx ?_
    cases h
    exact Sw
  ·rcases h with ⟨_,e1,h⟩ |⟨_,e1,h⟩
   ·have e2:=Q9.done.inj e1
    subst e2
    subst h
    rcases he with rfl |⟨ch,rfl⟩
    ·exact ⟨_,Qu.refl,hr⟩
    ·exact ⟨_,Qu.refl,hr⟩
   ·cases e1
theorem Cg.okE {K:Nat} {p0:Ab} {r:Int ⊕ (Aa×Ab)} (h:Cg K p0=some r):Rp V P 26 [.P 0] [(0,.raw (Af p0))] [0] (Cg.post p0 r) (Cg.rep p0 r) :=
 xo (fn:=Tryz.f26) (n:=64) (m:=100) fun Γ=>Cg.body h
def Eo (K:Nat) (p0:List Al) (p1:Int):Option (Int ⊕ (Aa×Int×Int)):=(Option.bind (Cg K (⟨p0,0⟩:Ab)) (fun a1=>match a1 with |(Sum.inl a1)=>some (Sum.inl a1) |(Sum.inr (a1_0,a1_1))=>(Option.bind (Bx K a1_1) (fun a2=>(if a2.Kind≠0 then (Option.bind (Bl K a1_1) (fun a3=>some (Sum.inl a3))) else (Option.bind (C7 K a1_0) (fun a4=>(if a4 > 4000 then some (Sum.inr ((⟨0,[],0,[],([]:List Aa)⟩:Aa),0,6)) else (Option.bind (C6 K a1_0) (fun a5=>(if a5 > 40 then some (Sum.inr ((⟨0,[],0,[],([]:List Aa)⟩:Aa),0,7)) else some (Sum.inr (a1_0,0,0)))))))))))))
def Eo.rep (p0:List Al) (p1:Int):Int ⊕ (Aa×Int×Int)→Sc T
 |(Sum.inl v0)=>.pan (Rq 49 v0)
 |(Sum.inr (v0,v1,v2))=>.ret (.tup [.agg [.I v0.Op,.str v0.Name,.I v0.Int,.str v0.Text,.ro .Ae v0.Kids],.I v1,.I v2])
theorem Eo.body {Γ:Rm} {K:Nat} {p0:List Al} {p1:Int} {r:Int ⊕ (Aa×Int×Int)} (h:Eo K p0 p1=some r):Ri V P 44 93 Γ (Rn (Rn (Rn (Rn (Tryz.f25.body.getD .skip))))) (Va P V Tryz.f25 (Eo.rep p0 p1 r)) ⟨[(1,.cv (.fn (.func 26) [] [])),(4,.P 90),(5,.P 91),(6,.P 92),(7,.cv (.ro .Ak p0))],[(90,.raw [.I 0,.str [],.I 0,.str [],.N]),(91,.raw [.I p1]),(92,.raw [.I 0])]⟩:=by
 unfold Eo at h
 refine Q4 L 200 <| Qv ?_
 obtain ⟨a1,h1,h⟩:=bind_some h
 rcases a1 with a1 | a1
 ·dsimp only at h
  refine pn L 205 [] [] [] 2 [4,5,6] [90,91,92] (ef [0] [0] (.tup []) [] [(0,202)]) (Rq 49 a1) (cs:=[Aa0 V P 26 [.P 0] [(0,.raw [.ro .Ak p0,.I 0])] (Rq 49 a1)]) (S':=⟨[(4,.P 90),(5,.P 91),(6,.P 92)],[(90,.raw [.I 0,.str [],.I 0,.str [],.N]),(91,.raw [.I p1]),(92,.raw [.I 0])]⟩) (Cg.okE h1) ?_
  cases h
  exact (rp:Va P V Tryz.f25 (Eo.rep p0 p1 (Sum.inl a1)) _ _)
 ·obtain ⟨a1_0,a1_1⟩:=a1
  dsimp only at h
  refine rg L 205 [] [] [(2,(ef [0] [0] (.agg (Aj a1_0)) [(0,.raw (Af a1_1))] [(0,202)]))] (Q3 (Cg.okE h1)) ?_
  refine Qv <| Qv ?_
  obtain ⟨a2,h2,h⟩:=bind_some h
  refine rg L 210 [] [(1,.agg (D8 a2))] [] (R6 (Bx.ok h2)) ?_
  rcases Qw h with ⟨c1,h⟩ |⟨c1,h⟩
  ·refine tT c1 ?_
   obtain ⟨a3,h3,h⟩:=bind_some h
   refine pn L 215 [] [] [] 1 [4,5,6] [90,91,92] (ef [0] [0] (.tup []) [] [(0,202)]) (Rq 49 a3) (cs:=[Aa0 V P 43 [.P 0] [(0,.raw (Af a1_1))] (Rq 49 a3)]) (S':=⟨[(4,.P 90),(5,.P 91),(6,.P 92)],[(90,.raw (Aj a1_0)),(91,.raw [.I p1]),(92,.raw [.I 0])]⟩) (Bl.okE h3) ?_
   cases h
   exact (rp:Va P V Tryz.f25 (Eo.rep p0 p1 (Sum.inl a3)) _ _)
  refine fF c1 <| Q0 <| Qv <| Q2 <| Qv ?_
  obtain ⟨a4,h4,h⟩:=bind_some h
  refine rg L 218 [] [(1,.I a4)] [] (R6 (C7.ok h4)) ?_
  rcases Qw h with ⟨c2,h⟩ |⟨c2,h⟩
  ·refine tT c2 <| Q4 L 223 <| Qx ?_
   cases h
   exact rr0
  refine fF c2 <| Qv ?_
  obtain ⟨a5,h5,h⟩:=bind_some h
  refine rg L 228 [] [(1,.I a5)] [] (R6 (C6.ok h5)) ?_
  rcases Qw h with ⟨c3,h⟩ |⟨c3,h⟩
  ·refine tT c3 <| Q4 L 233 <| Qx ?_
   cases h
   exact rr0
  refine fF c3 <| Q0 <| Q4 L 238 <| Qx ?_
  cases h
  exact rr0
def Hu:Int ⊕ (Aa×Int×Int)→Aa×Int×Int
 |(Sum.inl v0)=>(B3,v0,29)
 |(Sum.inr (v0,v1,v2))=>(v0,v1,v2)
def Fz (K:Nat) (p0:List UInt8):Option (Aa×Int×Int):=Option.bind (El K p0) (fun (a1_0,a1_1,a1_2)=>if a1_2≠0 then some (B3,a1_1,a1_2) else Option.bind (Eo K a1_0 a1_1) (fun x=>some (Hu x)))
theorem Fz.ok {K:Nat} {p0:List UInt8} {r:Aa×Int×Int} (h:Fz K p0=some r):Rb V P 25 [.cv (.str p0),.cv (.fn (.func 26) [] [])] (.tup [.agg (Aj r.1),.I r.2.1,.I r.2.2]):=by
 unfold Fz at h
 obtain ⟨⟨l,at0,e0⟩,h1,h⟩:=bind_some h
 dsimp only at h
 by_cases he:e0≠0
 ·rw [if_pos he] at h
  obtain rfl:=Option.some.inj h
  exact J5 (El.ok h1) he
 ·rw [if_neg he] at h
  obtain ⟨x,h2,h⟩:=bind_some h
  obtain rfl:=Option.some.inj h
  have he0:e0=0:=Decidable.not_not.1 he
  subst he0
  refine Jq (o:=Eo.rep l at0 x) (El.ok h1) (fun Γ=>Eo.body h2) ?_
  rcases x with v0 |⟨v0,v1,v2⟩
  ·exact .inr ⟨v0,rfl,rfl⟩
  ·exact .inl rfl
def Fu (K:Nat) (p0:List UInt8):Option (Aa×Int×Int):=(Option.bind (Fz K p0) (fun (a1_0,a1_1,a1_2)=>some (a1_0,a1_1,a1_2)))
theorem Fu.body {Γ:Rm} {K:Nat} {p0:List UInt8} {r:Aa×Int×Int} (h:Fu K p0=some r):Ri V P 10 100 Γ (Tryz.f10.body.getD .skip) (Q7 P V Tryz.f10 (.tup [.agg [.I r.1.Op,.str r.1.Name,.I r.1.Int,.str r.1.Text,.ro .Ae r.1.Kids],.I r.2.1,.I r.2.2]) []) ⟨Q6 0 [.cv (.str p0)],[]⟩:=by
 unfold Fu at h
 refine Q4 L 200 <| Qv ?_
 obtain ⟨⟨a1_0,a1_1,a1_2⟩,h1,h⟩:=bind_some h
 dsimp only at h
 refine rg L 204 [] [(1,.tup [.agg (Aj a1_0),.I a1_1,.I a1_2])] [] (R6 (Fz.ok h1)) ?_
 refine Qy (Qu.trans (Qu.kk [2,3,4] [200]) (Qu.rr [(200,100)])) ?_
 refine Qx ?_
 cases h
 exact Rd
theorem Fu.ok {K:Nat} {p0:List UInt8} {r:Aa×Int×Int} (h:Fu K p0=some r):Rb V P 10 [.cv (.str p0)] (.tup [.agg [.I r.1.Op,.str r.1.Name,.I r.1.Int,.str r.1.Text,.ro .Ae r.1.Kids],.I r.2.1,.I r.2.2]):=Q5.pcall (eo (fn:=Tryz.f10) (n:=10) (m:=100) fun Γ=>Fu.body h) (by kernel_rfl)
structure Dn where
 Bh:Aa→Aa→Option Bool
structure Dn.Ok (R:Dn):Prop where
 Bh:∀ {p0:Aa} {p1:Aa} {r:Bool},R.Bh p0 p1=some r→Q5 V P 12 [.agg (Aj p0),.agg (Aj p1)] [] [] (.B r) []
theorem Bh.okR {R:Dn} (hR:R.Ok) {p0:Aa} {p1:Aa} {r:Bool} (h:R.Bh p0 p1=some r):Rb V P 12 [.agg (Aj p0),.agg (Aj p1)] (.B r):=(hR.Bh h).pcall (by kernel_rfl)
def Bh.l15 (K:Nat) (R:Dn) (p0:Aa) (p1:Aa):Nat→Int→Option (Q9 Bool Unit)
 | 0,_=>none
 | k+1,xt5_15h=>(if xt5_15h <(p0.Kids.length:Int) then (if (0:Int)≤xt5_15h∧(xt5_15h:Int) <(p0.Kids.length:Int) then (if (xt5_15h:Int) <(p1.Kids.length:Int) then (Option.bind (R.Bh (p0.Kids.getD (Int.toNat xt5_15h) B3) (p1.Kids.getD (Int.toNat xt5_15h) B3)) (fun a1=>(if a1=true then Bh.l15 K R p0 p1 k (IntKind.i64.wrap (xt5_15h+1)) else some (Q9.done false)))) else none) else none) else some (Q9.go ()))
def Bh.F (K:Nat) (R:Dn) (p0:Aa) (p1:Aa):Option Bool:=(if p0.Op≠p1.Op then some false else (if p0.Name≠p1.Name then some false else (if p0.Int≠p1.Int then some false else (if p0.Text≠p1.Text then some false else (if (p0.Kids.length:Int)≠(p1.Kids.length:Int) then some false else (obind (Bh.l15 K R p0 p1 K 0:Option (Q9 Bool Unit)) (fun r=>r) (fun _=>some true)))))))
theorem Bh.body {Γ:Rm} {K:Nat} {R:Dn} (hR:R.Ok) {p0:Aa} {p1:Aa} {r:Bool} (h:Bh.F K R p0 p1=some r):Ri V P 60 100 Γ (Tryz.f12.body.getD .skip) (Q7 P V Tryz.f12 (.B r) []) ⟨Q6 0 [.agg (Aj p0),.agg (Aj p1)],[]⟩:=by
 unfold Bh.F at h
 refine Q4 L 200 <| Qv <| Qv ?_
 rcases Qw h with ⟨c1,h⟩ |⟨c1,h⟩
 ·refine rg L 204 [(5,true)] [] [] (Q3 (decide_eq_true c1)) ?_
  refine tt (b:=true) (rfl) ?_
  refine Q4 L 240 <| Qx ?_
  cases h
  exact Rd
 rcases Qw h with ⟨c2,h⟩ |⟨c2,h⟩
 ·refine rg L 204 [(5,false),(12,true)] [] [] (Sj (decide_eq_false c1) (decide_eq_true c2)) ?_
  refine tt (b:=true) (rfl) ?_
  refine Q4 L 240 <| Qx ?_
  cases h
  exact Rd
 rcases Qw h with ⟨c3,h⟩ |⟨c3,h⟩
 ·refine rg L 204 [(5,false),(12,false),(19,true)] [] [] (Qz (decide_eq_false c1) (Qz (decide_eq_false c2) (Q3 (decide_eq_true c3)))) ?_
  refine tt (b:=true) (rfl) ?_
  refine Q4 L 240 <| Qx ?_
  cases h
  exact Rd
 rcases Qw h with ⟨c4,h⟩ |⟨c4,h⟩
 ·refine rg L 204 [(5,false),(12,false),(19,false),(26,true)] [] [] (Qz (decide_eq_false c1) (Qz (decide_eq_false c2) (Qz (decide_eq_false c3) (Q3 (decide_eq_true c4))))) ?_
  refine tt (b:=true) (rfl) ?_
  refine Q4 L 240 <| Qx ?_
  cases h
  exact Rd
 refine rg L 204 [(5,false),(12,false),(19,false),(26,false)] [] [] (Qz (decide_eq_false c1) (Qz (decide_eq_false c2) (Qz (decide_eq_false c3) (Q3 (decide_eq_false c4))))) ?_
 rcases Qw h with ⟨c5,h⟩ |⟨c5,h⟩
 ·refine tT c5 <| Q4 L 240 <| Qx ?_
  cases h
  exact Rd
 refine fF c5 <| Q0 <| Qv <| Q4 L 242 <| Q2 <| Qy (Qu.trans (Qu.kk [2,3,5] [200,201]) (Qu.rr [(200,23100),(201,23101)])) ?_
 refine kp (S':=⟨[(2,.P 23100),(3,.P 23101),(5,.I 0)],[(23100,.raw (Aj p0)),(23101,.raw (Aj p1))]⟩) ?_
 obtain ⟨o1,hp1,h⟩:=Rf h
 refine Ra (Q':=fun e S=>(e=.exit 0∧S=⟨[],[]⟩∧Q9.go ()=o1)∨(e=.ret∧∃ a,Q9.done a=o1∧Q7 P V Tryz.f12 (.B a) [] .ret S)) (Rh (fun k S=>∃ xt5_15h:Int,S=⟨[(2,.P 23100),(3,.P 23101),(5,.I xt5_15h)],[(23100,.raw (Aj p0)),(23101,.raw (Aj p1))]⟩∧Bh.l15 K R p0 p1 k xt5_15h=some o1) ?_ ⟨_,rfl,hp1⟩) ?_
 ·clear h hp1
  intro k S hS
  obtain ⟨xt5_15h,rfl,h⟩:=hS
  cases k with
  | zero=>cases h
  | succ k =>
  unfold Bh.l15 at h
  refine Qv <| Q4 L 244 ?_
  rcases Qw h with ⟨c6,h⟩ |⟨c6,h⟩
  ·refine tT c6 <| Q0 <| Qv <| Q2 <| Qv ?_
   obtain ⟨g1,h⟩:=Q1 h
   obtain ⟨g2,h⟩:=Q1 h
   obtain ⟨a1,h1,h⟩:=bind_some h
   refine rd L mixed 250 [] [(10,.B a1)] [] [] 12 (Qz g1.1 (Qz g1.2 (Qz g1.1 (Qz g2 (Qz (Bh.okR hR h1) (Q3 trivial)))))) ?_
   rcases Qw h with ⟨c7,h⟩ |⟨c7,h⟩
   ·refine ff (b:=(!a1)) (congrArg Bool.not (c7)) ?_
    refine Q0 <| Tv L 265 [] [] [] (S':=⟨[(2,.P 23100),(3,.P 23101),(5,.I (IntKind.i64.wrap (xt5_15h+1)))],[(23100,.raw (Aj p0)),(23101,.raw (Aj p1))]⟩) ?_
    exact ⟨k,Nat.lt_succ_self k,_,rfl,h⟩
   refine tt (b:=(!a1)) (congrArg Bool.not (eq_false_of_ne_true c7)) ?_
   refine Q4 L 263 <| Qx ?_
   cases h
   exact .inr ⟨rfl,_,rfl,Rd⟩
  refine fF c6 <| ex (S':=⟨[],[]⟩) ?_
  cases h
  exact .inl ⟨rfl,rfl,rfl⟩
 ·rintro e S (⟨rfl,rfl,rfl⟩ |⟨rfl,a,rfl,hr⟩)
  ·rcases h with ⟨_,e1,h⟩ |⟨_,e1,h⟩
   ·cases e1
   ·have e2:=Q9.go.inj e1
    subst e2
    refine ⟨_,Qu.refl,?_⟩
    refine Q4 L 269 <| Qx ?_
    cases h
    exact Rd
  ·rcases h with ⟨_,e1,h⟩ |⟨_,e1,h⟩
   ·have e2:=Q9.done.inj e1
    subst e2
    subst h
    exact ⟨_,Qu.refl,hr⟩
   ·cases e1
def Dn.upto (K:Nat):Nat→Dn
 | 0=>⟨fun _ _=>none⟩
 | k+1=>⟨Bh.F K (Dn.upto K k)⟩
theorem Dn.upto_ok (K:Nat):∀ k,(Dn.upto K k).Ok
 | 0=>⟨fun h=>(by cases h)⟩
 | k+1=>⟨fun {p0 p1 r} h=>eo (fn:=Tryz.f12) (n:=60) (m:=100) fun Γ=>Bh.body (K:=K) (Dn.upto_ok K k) h⟩
def Bh (K:Nat) (p0:Aa) (p1:Aa):Option Bool:=(Dn.upto K K).Bh p0 p1
theorem Bh.okE {K:Nat} {p0:Aa} {p1:Aa} {r:Bool} (h:Bh K p0 p1=some r):Q5 V P 12 [.agg (Aj p0),.agg (Aj p1)] [] [] (.B r) []:=(Dn.upto_ok K K).Bh h
theorem Bh.ok {K:Nat} {p0:Aa} {p1:Aa} {r:Bool} (h:Bh K p0 p1=some r):Rb V P 12 [.agg (Aj p0),.agg (Aj p1)] (.B r):=(Bh.okE h).pcall (by kernel_rfl)
def Ex (K:Nat) (p0:Aa):Option Bool:=(Option.bind (C7 K p0) (fun a1=>(if a1≤4000 then (Option.bind (C6 K p0) (fun a2=>some (decide (a2≤40)))) else some false)))
theorem Ex.body {Γ:Rm} {K:Nat} {p0:Aa} {r:Bool} (h:Ex K p0=some r):Ri V P 11 100 Γ (Tryz.f28.body.getD .skip) (Q7 P V Tryz.f28 (.B r) []) ⟨Q6 0 [.agg (Aj p0)],[]⟩:=by
 unfold Ex at h
 refine Q4 L 200 <| Qv ?_
 obtain ⟨a1,h1,h⟩:=bind_some h
 rcases Qw h with ⟨c1,h⟩ |⟨c1,h⟩
 ·obtain ⟨a2,h2,h⟩:=bind_some h
  refine rg L 203 [(3,true)] [(1,.I a1),(5,.I a2)] [] (Qz (C7.ok h1) (Qz trivial (Qz (decide_eq_true c1) (Qz (C6.ok h2) (Q3 trivial))))) ?_
  refine Qx ?_
  cases h
  exact Rd
 refine rg L 203 [(3,false)] [(1,.I a1)] [] (Qz (C7.ok h1) (Qz trivial (Q3 (decide_eq_false c1)))) ?_
 refine Qx ?_
 cases h
 exact Rd
theorem Ex.ok {K:Nat} {p0:Aa} {r:Bool} (h:Ex K p0=some r):Rb V P 28 [.agg (Aj p0)] (.B r):=Q5.pcall (eo (fn:=Tryz.f28) (n:=11) (m:=100) fun Γ=>Ex.body h) (by kernel_rfl)
def A4 (K:Nat) (p0:Aa) (p1:Bool) (p2:Bool) (p3:Bool):Option Bool:=(if p1=true then (if p2=true then (if p3=true then some true else some (decide (p0.Int=0))) else (if p0.Text=([]:List UInt8) then (if p3=true then some true else some (decide (p0.Int=0))) else some false)) else (if p0.Name=([]:List UInt8) then (if p2=true then (if p3=true then some true else some (decide (p0.Int=0))) else (if p0.Text=([]:List UInt8) then (if p3=true then some true else some (decide (p0.Int=0))) else some false)) else some false))
theorem A4.body {Γ:Rm} {K:Nat} {p0:Aa} {p1:Bool} {p2:Bool} {p3:Bool} {r:Bool} (h:A4 K p0 p1 p2 p3=some r):Ri V P 31 100 Γ (Tryz.f29.body.getD .skip) (Q7 P V Tryz.f29 (.B r) []) ⟨Q6 0 [.agg (Aj p0),.B p1,.B p2,.B p3],[]⟩:=by
 unfold A4 at h
 refine Q4 L 200 <| Qv ?_
 rcases Qw h with ⟨c1,h⟩ |⟨c1,h⟩
 ·rcases Qw h with ⟨c2,h⟩ |⟨c2,h⟩
  ·rcases Qw h with ⟨c3,h⟩ |⟨c3,h⟩
   ·refine rg L 203 [(1,true),(8,true),(16,true)] [] [] (Qz c1 (Qz c2 (Q3 c3))) ?_
    refine Qx ?_
    cases h
    exact Rd
   refine rg L 203 [(1,true),(8,true),(16,false)] [] [] (Qz c1 (Qz c2 (Q3 (eq_false_of_ne_true c3)))) ?_
   refine Qx ?_
   cases h
   exact Rd
  rcases Qw h with ⟨c4,h⟩ |⟨c4,h⟩
  ·rcases Qw h with ⟨c5,h⟩ |⟨c5,h⟩
   ·refine rg L 203 [(1,true),(8,false),(14,true),(16,true)] [] [] (Qz c1 (Qz (eq_false_of_ne_true c2) (Qz (decide_eq_true c4) (Q3 c5)))) ?_
    refine Qx ?_
    cases h
    exact Rd
   refine rg L 203 [(1,true),(8,false),(14,true),(16,false)] [] [] (Qz c1 (Qz (eq_false_of_ne_true c2) (Qz (decide_eq_true c4) (Q3 (eq_false_of_ne_true c5))))) ?_
   refine Qx ?_
   cases h
   exact Rd
  refine rg L 203 [(1,true),(8,false),(14,false)] [] [] (Qz c1 (Qz (eq_false_of_ne_true c2) (Q3 (decide_eq_false c4)))) ?_
  refine Qx ?_
  cases h
  exact Rd
 rcases Qw h with ⟨c6,h⟩ |⟨c6,h⟩
 ·rcases Qw h with ⟨c7,h⟩ |⟨c7,h⟩
  ·rcases Qw h with ⟨c8,h⟩ |⟨c8,h⟩
   ·refine rg L 203 [(1,false),(6,true),(8,true),(16,true)] [] [] (Qz (eq_false_of_ne_true c1) (Qz (decide_eq_true c6) (Qz c7 (Q3 c8)))) ?_
    refine Qx ?_
    cases h
    exact Rd
   refine rg L 203 [(1,false),(6,true),(8,true),(16,false)] [] [] (Qz (eq_false_of_ne_true c1) (Qz (decide_eq_true c6) (Qz c7 (Q3 (eq_false_of_ne_true c8))))) ?_
   refine Qx ?_
   cases h
   exact Rd
  rcases Qw h with ⟨c9,h⟩ |⟨c9,h⟩
  ·rcases Qw h with ⟨c10,h⟩ |⟨c10,h⟩
   ·refine rg L 203 [(1,false),(6,true),(8,false),(14,true),(16,true)] [] [] (Qz (eq_false_of_ne_true c1) (Qz (decide_eq_true c6) (Qz (eq_false_of_ne_true c7) (Qz (decide_eq_true c9) (Q3 c10))))) ?_
    refine Qx ?_
    cases h
    exact Rd
   refine rg L 203 [(1,false),(6,true),(8,false),(14,true),(16,false)] [] [] (Qz (eq_false_of_ne_true c1) (Qz (decide_eq_true c6) (Qz (eq_false_of_ne_true c7) (Qz (decide_eq_true c9) (Q3 (eq_false_of_ne_true c10)))))) ?_
   refine Qx ?_
   cases h
   exact Rd
  refine rg L 203 [(1,false),(6,true),(8,false),(14,false)] [] [] (Qz (eq_false_of_ne_true c1) (Qz (decide_eq_true c6) (Qz (eq_false_of_ne_true c7) (Q3 (decide_eq_false c9))))) ?_
  refine Qx ?_
  cases h
  exact Rd
 refine rg L 203 [(1,false),(6,false)] [] [] (Sj (eq_false_of_ne_true c1) (decide_eq_false c6)) ?_
 refine Qx ?_
 cases h
 exact Rd
theorem A4.ok {K:Nat} {p0:Aa} {p1:Bool} {p2:Bool} {p3:Bool} {r:Bool} (h:A4 K p0 p1 p2 p3=some r):Rb V P 29 [.agg (Aj p0),.B p1,.B p2,.B p3] (.B r):=Q5.pcall (eo (fn:=Tryz.f29) (n:=31) (m:=100) fun Γ=>A4.body h) (by kernel_rfl)
def Bp.l15 (K:Nat) (p0:List UInt8):Nat→Int→Option (Q9 Bool Unit)
 | 0,_=>none
 | k+1,xt29_15h=>(if xt29_15h <(p0.length:Int) then (if (0:Int)≤xt29_15h∧(xt29_15h:Int) <(p0.length:Int) then (if ((p0.getD (Int.toNat xt29_15h) 0).toNat:Int)≥97 then (if ((p0.getD (Int.toNat xt29_15h) 0).toNat:Int)≤122 then Bp.l15 K p0 k (IntKind.i64.wrap (xt29_15h+1)) else (if ((p0.getD (Int.toNat xt29_15h) 0).toNat:Int)≥65 then (if ((p0.getD (Int.toNat xt29_15h) 0).toNat:Int)≤90 then Bp.l15 K p0 k (IntKind.i64.wrap (xt29_15h+1)) else (if ((p0.getD (Int.toNat xt29_15h) 0).toNat:Int)≥48 then (if ((p0.getD (Int.toNat xt29_15h) 0).toNat:Int)≤57 then Bp.l15 K p0 k (IntKind.i64.wrap (xt29_15h+1)) else (if ((p0.getD (Int.toNat xt29_15h) 0).toNat:Int)=95 then Bp.l15 K p0 k (IntKind.i64.wrap (xt29_15h+1)) else some (Q9.done false))) else (if ((p0.getD (Int.toNat xt29_15h) 0).toNat:Int)=95 then Bp.l15 K p0 k (IntKind.i64.wrap (xt29_15h+1)) else some (Q9.done false)))) else (if ((p0.getD (Int.toNat xt29_15h) 0).toNat:Int)≥48 then (if ((p0.getD (Int.toNat xt29_15h) 0).toNat:Int)≤57 then Bp.l15 K p0 k (IntKind.i64.wrap (xt29_15h+1)) else (if ((p0.getD (Int.toNat xt29_15h) 0).toNat:Int)=95 then Bp.l15 K p0 k (IntKind.i64.wrap (xt29_15h+1)) else some (Q9.done false))) else (if ((p0.getD (Int.toNat xt29_15h) 0).toNat:Int)=95 then Bp.l15 K p0 k (IntKind.i64.wrap (xt29_15h+1)) else some (Q9.done false))))) else (if ((p0.getD (Int.toNat xt29_15h) 0).toNat:Int)≥65 then (if ((p0.getD (Int.toNat xt29_15h) 0).toNat:Int)≤90 then Bp.l15 K p0 k (IntKind.i64.wrap (xt29_15h+1)) else (if ((p0.getD (Int.toNat xt29_15h) 0).toNat:Int)≥48 then (if ((p0.getD (Int.toNat xt29_15h) 0).toNat:Int)≤57 then Bp.l15 K p0 k (IntKind.i64.wrap (xt29_15h+1)) else (if ((p0.getD (Int.toNat xt29_15h) 0).toNat:Int)=95 then Bp.l15 K p0 k (IntKind.i64.wrap (xt29_15h+1)) else some (Q9.done false))) else (if ((p0.getD (Int.toNat xt29_15h) 0).toNat:Int)=95 then Bp.l15 K p0 k (IntKind.i64.wrap (xt29_15h+1)) else some (Q9.done false)))) else (if ((p0.getD (Int.toNat xt29_15h) 0).toNat:Int)≥48 then (if ((p0.getD (Int.toNat xt29_15h) 0).toNat:Int)≤57 then Bp.l15 K p0 k (IntKind.i64.wrap (xt29_15h+1)) else (if ((p0.getD (Int.toNat xt29_15h) 0).toNat:Int)=95 then Bp.l15 K p0 k (IntKind.i64.wrap (xt29_15h+1)) else some (Q9.done false))) else (if ((p0.getD (Int.toNat xt29_15h) 0).toNat:Int)=95 then Bp.l15 K p0 k (IntKind.i64.wrap (xt29_15h+1)) else some (Q9.done false))))) else none) else some (Q9.go ()))
def Bp (K:Nat) (p0:List UInt8):Option Bool:=(obind (((if (p0.length:Int) < 1 then some (Q9.done false) else (if (p0.length:Int) > 64 then some (Q9.done false) else (Option.bind (E0 K p0) (fun a1=>(if a1=true then some (Q9.done false) else (if (0:Int) <(p0.length:Int) then (if ((p0.getD (Int.toNat 0) 0).toNat:Int)≥48 then (if ((p0.getD (Int.toNat 0) 0).toNat:Int)≤57 then some (Q9.done false) else some (Q9.go ())) else some (Q9.go ())) else none))))))):Option (Q9 Bool Unit)) (fun r=>r) (fun _=>(obind (Bp.l15 K p0 K 0:Option (Q9 Bool Unit)) (fun r=>r) (fun _=>some true))))
theorem Bp.body {Γ:Rm} {K:Nat} {p0:List UInt8} {r:Bool} (h:Bp K p0=some r):Ri V P 63 100 Γ (Tryz.f58.body.getD .skip) (Q7 P V Tryz.f58 (.B r) []) ⟨Q6 0 [.cv (.str p0)],[]⟩:=by
 unfold Bp at h
 refine Q4 L 200 ?_
 obtain ⟨o1,hp1,h⟩:=Rf h
 refine Qv (Rk (Q':=fun e S=>(e=.normal∧S=⟨[(0,.cv (.str p0))],[]⟩∧Q9.go ()=o1)∨(e=.ret∧∃ a,Q9.done a=o1∧Q7 P V Tryz.f58 (.B a) [] .ret S)) ?_ ?_)
 ·clear h
  replace h:=hp1
  refine Qv ?_
  rcases Qw h with ⟨c1,h⟩ |⟨c1,h⟩
  ·refine rg L 202 [(3,true)] [] [] (Q3 (decide_eq_true c1)) ?_
   refine tt (b:=true) (rfl) ?_
   refine Q4 L 225 <| Qx ?_
   cases h
   exact .inr ⟨rfl,_,rfl,Rd⟩
  rcases Qw h with ⟨c2,h⟩ |⟨c2,h⟩
  ·refine rg L 202 [(3,false),(8,true)] [] [] (Sj (decide_eq_false c1) (decide_eq_true c2)) ?_
   refine tt (b:=true) (rfl) ?_
   refine Q4 L 225 <| Qx ?_
   cases h
   exact .inr ⟨rfl,_,rfl,Rd⟩
  obtain ⟨a1,h1,h⟩:=bind_some h
  rcases Qw h with ⟨c3,h⟩ |⟨c3,h⟩
  ·refine rg L 202 [(3,false),(8,false),(12,true)] [(10,.B a1)] [] (Qz (decide_eq_false c1) (Qz (decide_eq_false c2) (Qz (E0.ok h1) (Qz trivial (Q3 c3))))) ?_
   refine tt (b:=true) (rfl) ?_
   refine Q4 L 225 <| Qx ?_
   cases h
   exact .inr ⟨rfl,_,rfl,Rd⟩
  obtain ⟨g1,h⟩:=Q1 h
  rcases Qw h with ⟨c4,h⟩ |⟨c4,h⟩
  ·refine rg L 202 [(3,false),(8,false),(12,false),(16,true)] [(10,.B a1)] [] (Qz (decide_eq_false c1) (Qz (decide_eq_false c2) (Qz (E0.ok h1) (Qz trivial (Qz (eq_false_of_ne_true c3) (Qz (show (0:Int)≤0 from by decide) (Qz g1 (Qz (decide_eq_true c4) (Qz (show (0:Int)≤0 from by decide) (Q3 g1)))))))))) ?_
   rcases Qw h with ⟨c5,h⟩ |⟨c5,h⟩
   ·refine tT c5 <| Q4 L 225 <| Qx ?_
    cases h
    exact .inr ⟨rfl,_,rfl,Rd⟩
   refine fF c5 <| sk (S':=⟨[(0,.cv (.str p0))],[]⟩) ?_
   cases h
   exact .inl ⟨rfl,rfl,rfl⟩
  refine rg L 202 [(3,false),(8,false),(12,false),(16,false)] [(10,.B a1)] [] (Qz (decide_eq_false c1) (Qz (decide_eq_false c2) (Qz (E0.ok h1) (Qz trivial (Qz (eq_false_of_ne_true c3) (Qz (show (0:Int)≤0 from by decide) (Qz g1 (Q3 (decide_eq_false c4))))))))) ?_
  refine ff (b:=false) (rfl) ?_
  refine sk (S':=⟨[(0,.cv (.str p0))],[]⟩) ?_
  cases h
  exact .inl ⟨rfl,rfl,rfl⟩
 ·rintro e S (⟨rfl,rfl,rfl⟩ |⟨rfl,a,rfl,hr⟩)
  ·rcases h with ⟨_,e1,h⟩ |⟨_,e1,h⟩
   ·cases e1
   ·have e2:=Q9.go.inj e1
    subst e2
    refine Qv <| Q4 L 227 <| Q2 <| kp (S':=⟨[(0,.cv (.str p0)),(28,.I (p0.length:Int)),(29,.I 0)],[]⟩) ?_
    obtain ⟨o2,hp2,h⟩:=Rf h
    refine Ra (Q':=fun e S=>(e=.exit 0∧S=⟨[],[]⟩∧Q9.go ()=o2)∨(e=.ret∧∃ a,Q9.done a=o2∧Q7 P V Tryz.f58 (.B a) [] .ret S)) (Rh (fun k S=>∃ xt29_15h:Int,S=⟨[(0,.cv (.str p0)),(28,.I (p0.length:Int)),(29,.I xt29_15h)],[]⟩∧Bp.l15 K p0 k xt29_15h=some o2) ?_ ⟨_,rfl,hp2⟩) ?_
    ·clear h hp2
     intro k S hS
     obtain ⟨xt29_15h,rfl,h⟩:=hS
     cases k with
     | zero=>cases h
     | succ k =>
     unfold Bp.l15 at h
     refine Q4 L 231 <| Qv ?_
     rcases Qw h with ⟨c6,h⟩ |⟨c6,h⟩
     ·refine tT c6 <| Q0 <| Qv <| Q2 <| Q4 L 233 <| Qv ?_
      obtain ⟨g2,h⟩:=Q1 h
      refine rg L 236 [] [] [] (Sj g2.1 g2.2) ?_
      refine Qv ?_
      rcases Qw h with ⟨c7,h⟩ |⟨c7,h⟩
      ·rcases Qw h with ⟨c8,h⟩ |⟨c8,h⟩
       ·refine rg L 241 [(2,true),(6,true)] [] [] (Sj (decide_eq_true c7) (decide_eq_true c8)) ?_
        refine ff (b:=false) (rfl) ?_
        refine Q0 <| Tv L 271 [] [] [] (S':=⟨[(0,.cv (.str p0)),(28,.I (p0.length:Int)),(29,.I (IntKind.i64.wrap (xt29_15h+1)))],[]⟩) ?_
        exact ⟨k,Nat.lt_succ_self k,_,rfl,h⟩
       rcases Qw h with ⟨c9,h⟩ |⟨c9,h⟩
       ·rcases Qw h with ⟨c10,h⟩ |⟨c10,h⟩
        ·refine rg L 241 [(2,true),(6,false),(9,true),(14,true)] [] [] (Qz (decide_eq_true c7) (Qz (decide_eq_false c8) (Qz (decide_eq_true c9) (Q3 (decide_eq_true c10))))) ?_
         refine ff (b:=false) (rfl) ?_
         refine Q0 <| Tv L 271 [] [] [] (S':=⟨[(0,.cv (.str p0)),(28,.I (p0.length:Int)),(29,.I (IntKind.i64.wrap (xt29_15h+1)))],[]⟩) ?_
         exact ⟨k,Nat.lt_succ_self k,_,rfl,h⟩
        rcases Qw h with ⟨c11,h⟩ |⟨c11,h⟩
        ·rcases Qw h with ⟨c12,h⟩ |⟨c12,h⟩
         ·refine rg L 241 [(2,true),(6,false),(9,true),(14,false),(17,true),(22,true)] [] [] (Qz (decide_eq_true c7) (Qz (decide_eq_false c8) (Qz (decide_eq_true c9) (Qz (decide_eq_false c10) (Qz (decide_eq_true c11) (Q3 (decide_eq_true c12))))))) ?_
          refine ff (b:=false) (rfl) ?_
          refine Q0 <| Tv L 271 [] [] [] (S':=⟨[(0,.cv (.str p0)),(28,.I (p0.length:Int)),(29,.I (IntKind.i64.wrap (xt29_15h+1)))],[]⟩) ?_
          exact ⟨k,Nat.lt_succ_self k,_,rfl,h⟩
         refine rg L 241 [(2,true),(6,false),(9,true),(14,false),(17,true),(22,false)] [] [] (Qz (decide_eq_true c7) (Qz (decide_eq_false c8) (Qz (decide_eq_true c9) (Qz (decide_eq_false c10) (Qz (decide_eq_true c11) (Q3 (decide_eq_false c12))))))) ?_
         rcases Qw h with ⟨c13,h⟩ |⟨c13,h⟩
         ·refine ff (b:=(!(decide (((p0.getD (Int.toNat xt29_15h) 0).toNat:Int)=95)))) (congrArg Bool.not (decide_eq_true c13)) ?_
          refine Q0 <| Tv L 271 [] [] [] (S':=⟨[(0,.cv (.str p0)),(28,.I (p0.length:Int)),(29,.I (IntKind.i64.wrap (xt29_15h+1)))],[]⟩) ?_
          exact ⟨k,Nat.lt_succ_self k,_,rfl,h⟩
         refine tt (b:=(!(decide (((p0.getD (Int.toNat xt29_15h) 0).toNat:Int)=95)))) (congrArg Bool.not (decide_eq_false c13)) ?_
         refine Q4 L 269 <| Qx ?_
         cases h
         exact .inr ⟨rfl,_,rfl,Rd⟩
        refine rg L 241 [(2,true),(6,false),(9,true),(14,false),(17,false)] [] [] (Qz (decide_eq_true c7) (Qz (decide_eq_false c8) (Qz (decide_eq_true c9) (Qz (decide_eq_false c10) (Q3 (decide_eq_false c11)))))) ?_
        rcases Qw h with ⟨c14,h⟩ |⟨c14,h⟩
        ·refine ff (b:=(!(decide (((p0.getD (Int.toNat xt29_15h) 0).toNat:Int)=95)))) (congrArg Bool.not (decide_eq_true c14)) ?_
         refine Q0 <| Tv L 271 [] [] [] (S':=⟨[(0,.cv (.str p0)),(28,.I (p0.length:Int)),(29,.I (IntKind.i64.wrap (xt29_15h+1)))],[]⟩) ?_
         exact ⟨k,Nat.lt_succ_self k,_,rfl,h⟩
        refine tt (b:=(!(decide (((p0.getD (Int.toNat xt29_15h) 0).toNat:Int)=95)))) (congrArg Bool.not (decide_eq_false c14)) ?_
        refine Q4 L 269 <| Qx ?_
        cases h
        exact .inr ⟨rfl,_,rfl,Rd⟩
       rcases Qw h with ⟨c15,h⟩ |⟨c15,h⟩
       ·rcases Qw h with ⟨c16,h⟩ |⟨c16,h⟩
        ·refine rg L 241 [(2,true),(6,false),(9,false),(17,true),(22,true)] [] [] (Qz (decide_eq_true c7) (Qz (decide_eq_false c8) (Qz (decide_eq_false c9) (Qz (decide_eq_true c15) (Q3 (decide_eq_true c16)))))) ?_
         refine ff (b:=false) (rfl) ?_
         refine Q0 <| Tv L 271 [] [] [] (S':=⟨[(0,.cv (.str p0)),(28,.I (p0.length:Int)),(29,.I (IntKind.i64.wrap (xt29_15h+1)))],[]⟩) ?_
         exact ⟨k,Nat.lt_succ_self k,_,rfl,h⟩
        refine rg L 241 [(2,true),(6,false),(9,false),(17,true),(22,false)] [] [] (Qz (decide_eq_true c7) (Qz (decide_eq_false c8) (Qz (decide_eq_false c9) (Qz (decide_eq_true c15) (Q3 (decide_eq_false c16)))))) ?_
        rcases Qw h with ⟨c17,h⟩ |⟨c17,h⟩
        ·refine ff (b:=(!(decide (((p0.getD (Int.toNat xt29_15h) 0).toNat:Int)=95)))) (congrArg Bool.not (decide_eq_true c17)) ?_
         refine Q0 <| Tv L 271 [] [] [] (S':=⟨[(0,.cv (.str p0)),(28,.I (p0.length:Int)),(29,.I (IntKind.i64.wrap (xt29_15h+1)))],[]⟩) ?_
         exact ⟨k,Nat.lt_succ_self k,_,rfl,h⟩
        refine tt (b:=(!(decide (((p0.getD (Int.toNat xt29_15h) 0).toNat:Int)=95)))) (congrArg Bool.not (decide_eq_false c17)) ?_
        refine Q4 L 269 <| Qx ?_
        cases h
        exact .inr ⟨rfl,_,rfl,Rd⟩
       refine rg L 241 [(2,true),(6,false),(9,false),(17,false)] [] [] (Qz (decide_eq_true c7) (Qz (decide_eq_false c8) (Qz (decide_eq_false c9) (Q3 (decide_eq_false c15))))) ?_
       rcases Qw h with ⟨c18,h⟩ |⟨c18,h⟩
       ·refine ff (b:=(!(decide (((p0.getD (Int.toNat xt29_15h) 0).toNat:Int)=95)))) (congrArg Bool.not (decide_eq_true c18)) ?_
        refine Q0 <| Tv L 271 [] [] [] (S':=⟨[(0,.cv (.str p0)),(28,.I (p0.length:Int)),(29,.I (IntKind.i64.wrap (xt29_15h+1)))],[]⟩) ?_
        exact ⟨k,Nat.lt_succ_self k,_,rfl,h⟩
       refine tt (b:=(!(decide (((p0.getD (Int.toNat xt29_15h) 0).toNat:Int)=95)))) (congrArg Bool.not (decide_eq_false c18)) ?_
       refine Q4 L 269 <| Qx ?_
       cases h
       exact .inr ⟨rfl,_,rfl,Rd⟩
      rcases Qw h with ⟨c19,h⟩ |⟨c19,h⟩
      ·rcases Qw h with ⟨c20,h⟩ |⟨c20,h⟩
       ·refine rg L 241 [(2,false),(9,true),(14,true)] [] [] (Qz (decide_eq_false c7) (Qz (decide_eq_true c19) (Q3 (decide_eq_true c20)))) ?_
        refine ff (b:=false) (rfl) ?_
        refine Q0 <| Tv L 271 [] [] [] (S':=⟨[(0,.cv (.str p0)),(28,.I (p0.length:Int)),(29,.I (IntKind.i64.wrap (xt29_15h+1)))],[]⟩) ?_
        exact ⟨k,Nat.lt_succ_self k,_,rfl,h⟩
       rcases Qw h with ⟨c21,h⟩ |⟨c21,h⟩
       ·rcases Qw h with ⟨c22,h⟩ |⟨c22,h⟩
        ·refine rg L 241 [(2,false),(9,true),(14,false),(17,true),(22,true)] [] [] (Qz (decide_eq_false c7) (Qz (decide_eq_true c19) (Qz (decide_eq_false c20) (Qz (decide_eq_true c21) (Q3 (decide_eq_true c22)))))) ?_
         refine ff (b:=false) (rfl) ?_
         refine Q0 <| Tv L 271 [] [] [] (S':=⟨[(0,.cv (.str p0)),(28,.I (p0.length:Int)),(29,.I (IntKind.i64.wrap (xt29_15h+1)))],[]⟩) ?_
         exact ⟨k,Nat.lt_succ_self k,_,rfl,h⟩
        refine rg L 241 [(2,false),(9,true),(14,false),(17,true),(22,false)] [] [] (Qz (decide_eq_false c7) (Qz (decide_eq_true c19) (Qz (decide_eq_false c20) (Qz (decide_eq_true c21) (Q3 (decide_eq_false c22)))))) ?_
        rcases Qw h with ⟨c23,h⟩ |⟨c23,h⟩
        ·refine ff (b:=(!(decide (((p0.getD (Int.toNat xt29_15h) 0).toNat:Int)=95)))) (congrArg Bool.not (decide_eq_true c23)) ?_
         refine Q0 <| Tv L 271 [] [] [] (S':=⟨[(0,.cv (.str p0)),(28,.I (p0.length:Int)),(29,.I (IntKind.i64.wrap (xt29_15h+1)))],[]⟩) ?_
         exact ⟨k,Nat.lt_succ_self k,_,rfl,h⟩
        refine tt (b:=(!(decide (((p0.getD (Int.toNat xt29_15h) 0).toNat:Int)=95)))) (congrArg Bool.not (decide_eq_false c23)) ?_
        refine Q4 L 269 <| Qx ?_
        cases h
        exact .inr ⟨rfl,_,rfl,Rd⟩
       refine rg L 241 [(2,false),(9,true),(14,false),(17,false)] [] [] (Qz (decide_eq_false c7) (Qz (decide_eq_true c19) (Qz (decide_eq_false c20) (Q3 (decide_eq_false c21))))) ?_
       rcases Qw h with ⟨c24,h⟩ |⟨c24,h⟩
       ·refine ff (b:=(!(decide (((p0.getD (Int.toNat xt29_15h) 0).toNat:Int)=95)))) (congrArg Bool.not (decide_eq_true c24)) ?_
        refine Q0 <| Tv L 271 [] [] [] (S':=⟨[(0,.cv (.str p0)),(28,.I (p0.length:Int)),(29,.I (IntKind.i64.wrap (xt29_15h+1)))],[]⟩) ?_
        exact ⟨k,Nat.lt_succ_self k,_,rfl,h⟩
       refine tt (b:=(!(decide (((p0.getD (Int.toNat xt29_15h) 0).toNat:Int)=95)))) (congrArg Bool.not (decide_eq_false c24)) ?_
       refine Q4 L 269 <| Qx ?_
       cases h
       exact .inr ⟨rfl,_,rfl,Rd⟩
      rcases Qw h with ⟨c25,h⟩ |⟨c25,h⟩
      ·rcases Qw h with ⟨c26,h⟩ |⟨c26,h⟩
       ·refine rg L 241 [(2,false),(9,false),(17,true),(22,true)] [] [] (Qz (decide_eq_false c7) (Qz (decide_eq_false c19) (Qz (decide_eq_true c25) (Q3 (decide_eq_true c26))))) ?_
        refine ff (b:=false) (rfl) ?_
        refine Q0 <| Tv L 271 [] [] [] (S':=⟨[(0,.cv (.str p0)),(28,.I (p0.length:Int)),(29,.I (IntKind.i64.wrap (xt29_15h+1)))],[]⟩) ?_
        exact ⟨k,Nat.lt_succ_self k,_,rfl,h⟩
       refine rg L 241 [(2,false),(9,false),(17,true),(22,false)] [] [] (Qz (decide_eq_false c7) (Qz (decide_eq_false c19) (Qz (decide_eq_true c25) (Q3 (decide_eq_false c26))))) ?_
       rcases Qw h with ⟨c27,h⟩ |⟨c27,h⟩
       ·refine ff (b:=(!(decide (((p0.getD (Int.toNat xt29_15h) 0).toNat:Int)=95)))) (congrArg Bool.not (decide_eq_true c27)) ?_
        refine Q0 <| Tv L 271 [] [] [] (S':=⟨[(0,.cv (.str p0)),(28,.I (p0.length:Int)),(29,.I (IntKind.i64.wrap (xt29_15h+1)))],[]⟩) ?_
        exact ⟨k,Nat.lt_succ_self k,_,rfl,h⟩
       refine tt (b:=(!(decide (((p0.getD (Int.toNat xt29_15h) 0).toNat:Int)=95)))) (congrArg Bool.not (decide_eq_false c27)) ?_
       refine Q4 L 269 <| Qx ?_
       cases h
       exact .inr ⟨rfl,_,rfl,Rd⟩
      refine rg L 241 [(2,false),(9,false),(17,false)] [] [] (Qz (decide_eq_false c7) (Qz (decide_eq_false c19) (Q3 (decide_eq_false c25)))) ?_
      rcases Qw h with ⟨c28,h⟩ |⟨c28,h⟩
      ·refine ff (b:=(!(decide (((p0.getD (Int.toNat xt29_15h) 0).toNat:Int)=95)))) (congrArg Bool.not (decide_eq_true c28)) ?_
       refine Q0 <| Tv L 271 [] [] [] (S':=⟨[(0,.cv (.str p0)),(28,.I (p0.length:Int)),(29,.I (IntKind.i64.wrap (xt29_15h+1)))],[]⟩) ?_
       exact ⟨k,Nat.lt_succ_self k,_,rfl,h⟩
      refine tt (b:=(!(decide (((p0.getD (Int.toNat xt29_15h) 0).toNat:Int)=95)))) (congrArg Bool.not (decide_eq_false c28)) ?_
      refine Q4 L 269 <| Qx ?_
      cases h
      exact .inr ⟨rfl,_,rfl,Rd⟩
     refine fF c6 <| ex (S':=⟨[],[]⟩) ?_
     cases h
     exact .inl ⟨rfl,rfl,rfl⟩
    ·rintro e S (⟨rfl,rfl,rfl⟩ |⟨rfl,a,rfl,hr⟩)
     ·rcases h with ⟨_,e1,h⟩ |⟨_,e1,h⟩
      ·cases e1
      ·have e2:=Q9.go.inj e1
       subst e2
       refine ⟨_,Qu.refl,?_⟩
       refine Q4 L 274 <| Qx ?_
       cases h
       exact Rd
     ·rcases h with ⟨_,e1,h⟩ |⟨_,e1,h⟩
      ·have e2:=Q9.done.inj e1
       subst e2
       subst h
       exact ⟨_,Qu.refl,hr⟩
      ·cases e1
  ·rcases h with ⟨_,e1,h⟩ |⟨_,e1,h⟩
   ·have e2:=Q9.done.inj e1
    subst e2
    subst h
    exact hr
   ·cases e1
theorem Bp.ok {K:Nat} {p0:List UInt8} {r:Bool} (h:Bp K p0=some r):Rb V P 58 [.cv (.str p0)] (.B r):=Q5.pcall (eo (fn:=Tryz.f58) (n:=63) (m:=100) fun Γ=>Bp.body h) (by kernel_rfl)
structure Az where
 Dw:Aa→Option Bool
 Dc:Aa→Option Bool
 Cd:(List Aa)→Option Int
 Cp:(List Aa)→Option Bool
 Dq:(List Aa)→Option Bool
 Dd:Aa→Option Bool
 Cc:(List Aa)→Option Int
 Co:(List Aa)→Option Bool
 C3:(List Aa)→Option Bool
 Bk:Aa→Option Bool
structure Az.Ok (R:Az):Prop where
 Dw:∀ {p0:Aa} {r:Bool},R.Dw p0=some r→Q5 V P 64 [.agg (Aj p0)] [] [] (.B r) []
 Dc:∀ {p0:Aa} {r:Bool},R.Dc p0=some r→Q5 V P 57 [.agg (Aj p0),.cv (.pcs [.fn (.func 64) [] []] 0)] [] [] (.B r) []
 Cd:∀ {p0:List Aa} {r:Int},R.Cd p0=some r→Q5 V P 90 [.cv (.ro .Ae p0),.cv (.fn (.func 57) [] [.pcs [.fn (.func 64) [] []] 0])] [] [] (.I r) []
 Cp:∀ {p0:List Aa} {r:Bool},R.Cp p0=some r→Q5 V P 56 [.cv (.ro .Ae p0),.cv (.fn (.func 57) [] [.pcs [.fn (.func 64) [] []] 0])] [] [] (.B r) []
 Dq:∀ {p0:List Aa} {r:Bool},R.Dq p0=some r→Q5 V P 30 [.cv (.ro .Ae p0),.cv (.fn (.func 64) [] [])] [] [] (.B r) []
 Dd:∀ {p0:Aa} {r:Bool},R.Dd p0=some r→Q5 V P 57 [.agg (Aj p0),.cv (.pcs [.fn (.func 33) [] []] 0)] [] [] (.B r) []
 Cc:∀ {p0:List Aa} {r:Int},R.Cc p0=some r→Q5 V P 90 [.cv (.ro .Ae p0),.cv (.fn (.func 57) [] [.pcs [.fn (.func 33) [] []] 0])] [] [] (.I r) []
 Co:∀ {p0:List Aa} {r:Bool},R.Co p0=some r→Q5 V P 56 [.cv (.ro .Ae p0),.cv (.fn (.func 57) [] [.pcs [.fn (.func 33) [] []] 0])] [] [] (.B r) []
 C3:∀ {p0:List Aa} {r:Bool},R.C3 p0=some r→Q5 V P 30 [.cv (.ro .Ae p0),.cv (.fn (.func 33) [] [])] [] [] (.B r) []
 Bk:∀ {p0:Aa} {r:Bool},R.Bk p0=some r→Q5 V P 33 [.agg (Aj p0)] [] [] (.B r) []
theorem Dw.okR {R:Az} (hR:R.Ok) {p0:Aa} {r:Bool} (h:R.Dw p0=some r):Rb V P 64 [.agg (Aj p0)] (.B r):=(hR.Dw h).pcall (by kernel_rfl)
theorem Dc.okR {R:Az} (hR:R.Ok) {p0:Aa} {r:Bool} (h:R.Dc p0=some r):Rb V P 57 [.agg (Aj p0),.cv (.pcs [.fn (.func 64) [] []] 0)] (.B r):=(hR.Dc h).pcall (by kernel_rfl)
theorem Cd.okR {R:Az} (hR:R.Ok) {p0:List Aa} {r:Int} (h:R.Cd p0=some r):Rb V P 90 [.cv (.ro .Ae p0),.cv (.fn (.func 57) [] [.pcs [.fn (.func 64) [] []] 0])] (.I r):=(hR.Cd h).pcall (by kernel_rfl)
theorem Cp.okR {R:Az} (hR:R.Ok) {p0:List Aa} {r:Bool} (h:R.Cp p0=some r):Rb V P 56 [.cv (.ro .Ae p0),.cv (.fn (.func 57) [] [.pcs [.fn (.func 64) [] []] 0])] (.B r):=(hR.Cp h).pcall (by kernel_rfl)
theorem Dq.okR {R:Az} (hR:R.Ok) {p0:List Aa} {r:Bool} (h:R.Dq p0=some r):Rb V P 30 [.cv (.ro .Ae p0),.cv (.fn (.func 64) [] [])] (.B r):=(hR.Dq h).pcall (by kernel_rfl)
theorem Dd.okR {R:Az} (hR:R.Ok) {p0:Aa} {r:Bool} (h:R.Dd p0=some r):Rb V P 57 [.agg (Aj p0),.cv (.pcs [.fn (.func 33) [] []] 0)] (.B r):=(hR.Dd h).pcall (by kernel_rfl)
theorem Cc.okR {R:Az} (hR:R.Ok) {p0:List Aa} {r:Int} (h:R.Cc p0=some r):Rb V P 90 [.cv (.ro .Ae p0),.cv (.fn (.func 57) [] [.pcs [.fn (.func 33) [] []] 0])] (.I r):=(hR.Cc h).pcall (by kernel_rfl)
theorem Co.okR {R:Az} (hR:R.Ok) {p0:List Aa} {r:Bool} (h:R.Co p0=some r):Rb V P 56 [.cv (.ro .Ae p0),.cv (.fn (.func 57) [] [.pcs [.fn (.func 33) [] []] 0])] (.B r):=(hR.Co h).pcall (by kernel_rfl)
theorem C3.okR {R:Az} (hR:R.Ok) {p0:List Aa} {r:Bool} (h:R.C3 p0=some r):Rb V P 30 [.cv (.ro .Ae p0),.cv (.fn (.func 33) [] [])] (.B r):=(hR.C3 h).pcall (by kernel_rfl)
theorem Bk.okR {R:Az} (hR:R.Ok) {p0:Aa} {r:Bool} (h:R.Bk p0=some r):Rb V P 33 [.agg (Aj p0)] (.B r):=(hR.Bk h).pcall (by kernel_rfl)
def Dw.F (K:Nat) (R:Az) (p0:Aa):Option Bool:=(if p0.Op=9 then (Option.bind (A4 K p0 false true false) (fun a1=>(if a1=true then (if (p0.Text.length:Int)≤4096 then (if (p0.Kids.length:Int)=1 then (if (0:Int) <(p0.Kids.length:Int) then (Option.bind (R.Bk (p0.Kids.getD (Int.toNat 0) B3)) (fun a2=>some a2)) else none) else some false) else some false) else some false))) else some false)
theorem Dw.body {Γ:Rm} {K:Nat} {R:Az} (hR:R.Ok) {p0:Aa} {r:Bool} (h:Dw.F K R p0=some r):Ri V P 29 100 Γ (Tryz.f64.body.getD .skip) (Q7 P V Tryz.f64 (.B r) []) ⟨Q6 0 [.agg (Aj p0)],[]⟩:=by
 unfold Dw.F at h
 refine Q4 L 200 <| Qv ?_
 rcases Qw h with ⟨c1,h⟩ |⟨c1,h⟩
 ·obtain ⟨a1,h1,h⟩:=bind_some h
  rcases Qw h with ⟨c2,h⟩ |⟨c2,h⟩
  ·rcases Qw h with ⟨c3,h⟩ |⟨c3,h⟩
   ·rcases Qw h with ⟨c4,h⟩ |⟨c4,h⟩
    ·obtain ⟨g1,h⟩:=Q1 h
     obtain ⟨a2,h2,h⟩:=bind_some h
     refine rg L 203 [(3,true),(7,true),(13,true),(19,true)] [(5,.B a1),(24,.B a2)] [] (Qz (decide_eq_true c1) (Qz (A4.ok h1) (Qz trivial (Qz c2 (Qz (decide_eq_true c3) (Qz (decide_eq_true c4) (Qz (show (0:Int)≤0 from by decide) (Qz g1 (Qz (Bk.okR hR h2) (Q3 trivial)))))))))) ?_
     refine Qx ?_
     cases h
     exact Rd
    refine rg L 203 [(3,true),(7,true),(13,true),(19,false)] [(5,.B a1)] [] (Qz (decide_eq_true c1) (Qz (A4.ok h1) (Qz trivial (Qz c2 (Qz (decide_eq_true c3) (Q3 (decide_eq_false c4))))))) ?_
    refine Qx ?_
    cases h
    exact Rd
   refine rg L 203 [(3,true),(7,true),(13,false)] [(5,.B a1)] [] (Qz (decide_eq_true c1) (Qz (A4.ok h1) (Qz trivial (Qz c2 (Q3 (decide_eq_false c3)))))) ?_
   refine Qx ?_
   cases h
   exact Rd
  refine rg L 203 [(3,true),(7,false)] [(5,.B a1)] [] (Qz (decide_eq_true c1) (Qz (A4.ok h1) (Qz trivial (Q3 (eq_false_of_ne_true c2))))) ?_
  refine Qx ?_
  cases h
  exact Rd
 refine rg L 203 [(3,false)] [] [] (Q3 (decide_eq_false c1)) ?_
 refine Qx ?_
 cases h
 exact Rd
def Dc.F (K:Nat) (R:Az) (p0:Aa):Option Bool:=(Option.bind (R.Dw p0) (fun a1=>some (!a1)))
theorem Dc.body {Γ:Rm} {K:Nat} {R:Az} (hR:R.Ok) {p0:Aa} {r:Bool} (h:Dc.F K R p0=some r):Ri V P 8 100 Γ (Tryz.f57.body.getD .skip) (Q7 P V Tryz.f57 (.B r) []) ⟨Q6 0 [.agg (Aj p0),.cv (.pcs [.fn (.func 64) [] []] 0)],[]⟩:=by
 unfold Dc.F at h
 refine Q4 L 200 <| Qv ?_
 obtain ⟨a1,h1,h⟩:=bind_some h
 refine rg L 203 [] [(2,.B a1)] [] (R6 (Dw.okR hR h1)) ?_
 refine Qx ?_
 cases h
 exact Rd
def Cd.l7 (K:Nat) (R:Az) (p0:List Aa):Nat→Int→Option (Q9 Int Unit)
 | 0,_=>none
 | k+1,xt8_7h=>(if xt8_7h <(p0.length:Int) then (if (0:Int)≤xt8_7h∧(xt8_7h:Int) <(p0.length:Int) then (Option.bind (R.Dc (p0.getD (Int.toNat xt8_7h) B3)) (fun a1=>(if a1=true then some (Q9.done xt8_7h) else Cd.l7 K R p0 k (IntKind.i64.wrap (xt8_7h+1))))) else none) else some (Q9.go ()))
def Cd.F (K:Nat) (R:Az) (p0:List Aa):Option Int:=(obind (Cd.l7 K R p0 K 0:Option (Q9 Int Unit)) (fun r=>r) (fun _=>some (-1)))
theorem Cd.body {Γ:Rm} {K:Nat} {R:Az} (hR:R.Ok) {p0:List Aa} {r:Int} (h:Cd.F K R p0=some r):Ri V P 19 100 Γ (Tryz.f90.body.getD .skip) (Q7 P V Tryz.f90 (.I r) []) ⟨Q6 0 [.cv (.ro .Ae p0),.cv (.fn (.func 57) [] [.pcs [.fn (.func 64) [] []] 0])],[]⟩:=by
 unfold Cd.F at h
 refine Q4 L 200 <| Qv <| Q4 L 202 <| Q2 <| kp (S':=⟨[(0,.cv (.ro .Ae p0)),(1,.cv (.fn (.func 57) [] [.pcs [.fn (.func 64) [] []] 0])),(7,.I (p0.length:Int)),(8,.I 0)],[]⟩) ?_
 obtain ⟨o1,hp1,h⟩:=Rf h
 refine Ra (Q':=fun e S=>(e=.exit 0∧S=⟨[],[]⟩∧Q9.go ()=o1)∨(e=.ret∧∃ a,Q9.done a=o1∧Q7 P V Tryz.f90 (.I a) [] .ret S)) (Rh (fun k S=>∃ xt8_7h:Int,S=⟨[(0,.cv (.ro .Ae p0)),(1,.cv (.fn (.func 57) [] [.pcs [.fn (.func 64) [] []] 0])),(7,.I (p0.length:Int)),(8,.I xt8_7h)],[]⟩∧Cd.l7 K R p0 k xt8_7h=some o1) ?_ ⟨_,rfl,hp1⟩) ?_
 ·clear h hp1
  intro k S hS
  obtain ⟨xt8_7h,rfl,h⟩:=hS
  cases k with
  | zero=>cases h
  | succ k =>
  unfold Cd.l7 at h
  refine Q4 L 206 <| Qv ?_
  rcases Qw h with ⟨c1,h⟩ |⟨c1,h⟩
  ·refine tT c1 <| Q0 <| Qv <| Q2 <| Q4 L 208 <| Qv ?_
   obtain ⟨g1,h⟩:=Q1 h
   obtain ⟨a1,h1,h⟩:=bind_some h
   refine rg L 211 [] [(5,.B a1)] [] (Qz g1.1 (Qz g1.2 (Qz (Dc.okR hR h1) (Q3 trivial)))) ?_
   rcases Qw h with ⟨c2,h⟩ |⟨c2,h⟩
   ·refine tt c2 <| Q4 L 218 <| Qx ?_
    cases h
    exact .inr ⟨rfl,_,rfl,Rd⟩
   refine fN c2 <| Q0 <| Tv L 221 [] [] [] (S':=⟨[(0,.cv (.ro .Ae p0)),(1,.cv (.fn (.func 57) [] [.pcs [.fn (.func 64) [] []] 0])),(7,.I (p0.length:Int)),(8,.I (IntKind.i64.wrap (xt8_7h+1)))],[]⟩) ?_
   exact ⟨k,Nat.lt_succ_self k,_,rfl,h⟩
  refine fF c1 <| ex (S':=⟨[],[]⟩) ?_
  cases h
  exact .inl ⟨rfl,rfl,rfl⟩
 ·rintro e S (⟨rfl,rfl,rfl⟩ |⟨rfl,a,rfl,hr⟩)
  ·rcases h with ⟨_,e1,h⟩ |⟨_,e1,h⟩
   ·cases e1
   ·have e2:=Q9.go.inj e1
    subst e2
    refine ⟨_,Qu.refl,?_⟩
    refine Q4 L 224 <| Qx ?_
    cases h
    exact Rd
  ·rcases h with ⟨_,e1,h⟩ |⟨_,e1,h⟩
   ·have e2:=Q9.done.inj e1
    subst e2
    subst h
    exact ⟨_,Qu.refl,hr⟩
   ·cases e1
def Cp.F (K:Nat) (R:Az) (p0:List Aa):Option Bool:=(Option.bind (R.Cd p0) (fun a1=>some (decide (a1≥0))))
theorem Cp.body {Γ:Rm} {K:Nat} {R:Az} (hR:R.Ok) {p0:List Aa} {r:Bool} (h:Cp.F K R p0=some r):Ri V P 9 100 Γ (Tryz.f56.body.getD .skip) (Q7 P V Tryz.f56 (.B r) []) ⟨Q6 0 [.cv (.ro .Ae p0),.cv (.fn (.func 57) [] [.pcs [.fn (.func 64) [] []] 0])],[]⟩:=by
 unfold Cp.F at h
 refine Q4 L 200 <| Qv ?_
 obtain ⟨a1,h1,h⟩:=bind_some h
 refine rg L 202 [] [(2,.I a1)] [] (R6 (Cd.okR hR h1)) ?_
 refine Qx ?_
 cases h
 exact Rd
def Dq.F (K:Nat) (R:Az) (p0:List Aa):Option Bool:=(Option.bind (R.Cp p0) (fun a1=>some (!a1)))
theorem Dq.body {Γ:Rm} {K:Nat} {R:Az} (hR:R.Ok) {p0:List Aa} {r:Bool} (h:Dq.F K R p0=some r):Ri V P 9 100 Γ (Tryz.f30.body.getD .skip) (Q7 P V Tryz.f30 (.B r) []) ⟨Q6 0 [.cv (.ro .Ae p0),.cv (.fn (.func 64) [] [])],[]⟩:=by
 unfold Dq.F at h
 refine Q4 L 200 <| Qv ?_
 obtain ⟨a1,h1,h⟩:=bind_some h
 refine rg L 203 [] [(2,.B a1)] [] (R6 (Cp.okR hR h1)) ?_
 refine Qx ?_
 cases h
 exact Rd
def Dd.F (K:Nat) (R:Az) (p0:Aa):Option Bool:=(Option.bind (R.Bk p0) (fun a1=>some (!a1)))
theorem Dd.body {Γ:Rm} {K:Nat} {R:Az} (hR:R.Ok) {p0:Aa} {r:Bool} (h:Dd.F K R p0=some r):Ri V P 8 100 Γ (Tryz.f57.body.getD .skip) (Q7 P V Tryz.f57 (.B r) []) ⟨Q6 0 [.agg (Aj p0),.cv (.pcs [.fn (.func 33) [] []] 0)],[]⟩:=by
 unfold Dd.F at h
 refine Q4 L 200 <| Qv ?_
 obtain ⟨a1,h1,h⟩:=bind_some h
 refine rg L 203 [] [(2,.B a1)] [] (R6 (Bk.okR hR h1)) ?_
 refine Qx ?_
 cases h
 exact Rd
def Cc.l7 (K:Nat) (R:Az) (p0:List Aa):Nat→Int→Option (Q9 Int Unit)
 | 0,_=>none
 | k+1,xt8_7h=>(if xt8_7h <(p0.length:Int) then (if (0:Int)≤xt8_7h∧(xt8_7h:Int) <(p0.length:Int) then (Option.bind (R.Dd (p0.getD (Int.toNat xt8_7h) B3)) (fun a1=>(if a1=true then some (Q9.done xt8_7h) else Cc.l7 K R p0 k (IntKind.i64.wrap (xt8_7h+1))))) else none) else some (Q9.go ()))
def Cc.F (K:Nat) (R:Az) (p0:List Aa):Option Int:=(obind (Cc.l7 K R p0 K 0:Option (Q9 Int Unit)) (fun r=>r) (fun _=>some (-1)))
theorem Cc.body {Γ:Rm} {K:Nat} {R:Az} (hR:R.Ok) {p0:List Aa} {r:Int} (h:Cc.F K R p0=some r):Ri V P 19 100 Γ (Tryz.f90.body.getD .skip) (Q7 P V Tryz.f90 (.I r) []) ⟨Q6 0 [.cv (.ro .Ae p0),.cv (.fn (.func 57) [] [.pcs [.fn (.func 33) [] []] 0])],[]⟩:=by
 unfold Cc.F at h
 refine Q4 L 200 <| Qv <| Q4 L 202 <| Q2 <| kp (S':=⟨[(0,.cv (.ro .Ae p0)),(1,.cv (.fn (.func 57) [] [.pcs [.fn (.func 33) [] []] 0])),(7,.I (p0.length:Int)),(8,.I 0)],[]⟩) ?_
 obtain ⟨o1,hp1,h⟩:=Rf h
 refine Ra (Q':=fun e S=>(e=.exit 0∧S=⟨[],[]⟩∧Q9.go ()=o1)∨(e=.ret∧∃ a,Q9.done a=o1∧Q7 P V Tryz.f90 (.I a) [] .ret S)) (Rh (fun k S=>∃ xt8_7h:Int,S=⟨[(0,.cv (.ro .Ae p0)),(1,.cv (.fn (.func 57) [] [.pcs [.fn (.func 33) [] []] 0])),(7,.I (p0.length:Int)),(8,.I xt8_7h)],[]⟩∧Cc.l7 K R p0 k xt8_7h=some o1) ?_ ⟨_,rfl,hp1⟩) ?_
 ·clear h hp1
  intro k S hS
  obtain ⟨xt8_7h,rfl,h⟩:=hS
  cases k with
  | zero=>cases h
  | succ k =>
  unfold Cc.l7 at h
  refine Q4 L 206 <| Qv ?_
  rcases Qw h with ⟨c1,h⟩ |⟨c1,h⟩
  ·refine tT c1 <| Q0 <| Qv <| Q2 <| Q4 L 208 <| Qv ?_
   obtain ⟨g1,h⟩:=Q1 h
   obtain ⟨a1,h1,h⟩:=bind_some h
   refine rg L 211 [] [(5,.B a1)] [] (Qz g1.1 (Qz g1.2 (Qz (Dd.okR hR h1) (Q3 trivial)))) ?_
   rcases Qw h with ⟨c2,h⟩ |⟨c2,h⟩
   ·refine tt c2 <| Q4 L 218 <| Qx ?_
    cases h
    exact .inr ⟨rfl,_,rfl,Rd⟩
   refine fN c2 <| Q0 <| Tv L 221 [] [] [] (S':=⟨[(0,.cv (.ro .Ae p0)),(1,.cv (.fn (.func 57) [] [.pcs [.fn (.func 33) [] []] 0])),(7,.I (p0.length:Int)),(8,.I (IntKind.i64.wrap (xt8_7h+1)))],[]⟩) ?_
   exact ⟨k,Nat.lt_succ_self k,_,rfl,h⟩
  refine fF c1 <| ex (S':=⟨[],[]⟩) ?_
  cases h
  exact .inl ⟨rfl,rfl,rfl⟩
 ·rintro e S (⟨rfl,rfl,rfl⟩ |⟨rfl,a,rfl,hr⟩)
  ·rcases h with ⟨_,e1,h⟩ |⟨_,e1,h⟩
   ·cases e1
   ·have e2:=Q9.go.inj e1
    subst e2
    refine ⟨_,Qu.refl,?_⟩
    refine Q4 L 224 <| Qx ?_
    cases h
    exact Rd
  ·rcases h with ⟨_,e1,h⟩ |⟨_,e1,h⟩
   ·have e2:=Q9.done.inj e1
    subst e2
    subst h
    exact ⟨_,Qu.refl,hr⟩
   ·cases e1
def Co.F (K:Nat) (R:Az) (p0:List Aa):Option Bool:=(Option.bind (R.Cc p0) (fun a1=>some (decide (a1≥0))))
theorem Co.body {Γ:Rm} {K:Nat} {R:Az} (hR:R.Ok) {p0:List Aa} {r:Bool} (h:Co.F K R p0=some r):Ri V P 9 100 Γ (Tryz.f56.body.getD .skip) (Q7 P V Tryz.f56 (.B r) []) ⟨Q6 0 [.cv (.ro .Ae p0),.cv (.fn (.func 57) [] [.pcs [.fn (.func 33) [] []] 0])],[]⟩:=by
 unfold Co.F at h
 refine Q4 L 200 <| Qv ?_
 obtain ⟨a1,h1,h⟩:=bind_some h
 refine rg L 202 [] [(2,.I a1)] [] (R6 (Cc.okR hR h1)) ?_
 refine Qx ?_
 cases h
 exact Rd
def C3.F (K:Nat) (R:Az) (p0:List Aa):Option Bool:=(Option.bind (R.Co p0) (fun a1=>some (!a1)))
theorem C3.body {Γ:Rm} {K:Nat} {R:Az} (hR:R.Ok) {p0:List Aa} {r:Bool} (h:C3.F K R p0=some r):Ri V P 9 100 Γ (Tryz.f30.body.getD .skip) (Q7 P V Tryz.f30 (.B r) []) ⟨Q6 0 [.cv (.ro .Ae p0),.cv (.fn (.func 33) [] [])],[]⟩:=by
 unfold C3.F at h
 refine Q4 L 200 <| Qv ?_
 obtain ⟨a1,h1,h⟩:=bind_some h
 refine rg L 203 [] [(2,.B a1)] [] (R6 (Co.okR hR h1)) ?_
 refine Qx ?_
 cases h
 exact Rd
def Bk.F (K:Nat) (R:Az) (p0:Aa):Option Bool:=(Option.bind ((if p0.Op=1 then some true else (if p0.Op=2 then some true else some (decide (p0.Op=3)))):Option Bool) (fun xt10_9=>(if xt10_9=true then (if (p0.Kids.length:Int)=0 then (Option.bind (A4 K p0 false false false) (fun a1=>some a1)) else some false) else (if p0.Op=4 then (if (p0.Kids.length:Int)=0 then (Option.bind (A4 K p0 false false true) (fun a2=>(if a2=true then some (decide (p0.Int≥0)) else some false))) else some false) else (if p0.Op=5 then (if (p0.Kids.length:Int)=0 then (Option.bind (A4 K p0 false true false) (fun a3=>(if a3=true then some (decide ((p0.Text.length:Int)≤4096)) else some false))) else some false) else (if p0.Op=6 then (if (p0.Kids.length:Int)=0 then (Option.bind (A4 K p0 true false false) (fun a4=>(if a4=true then (Option.bind (Bp K p0.Name) (fun a5=>some a5)) else some false))) else some false) else (if p0.Op=8 then (Option.bind (A4 K p0 false false false) (fun a6=>(if a6=true then (Option.bind (R.Dq p0.Kids) (fun a7=>some a7)) else some false))) else (if p0.Op=7 then (Option.bind (A4 K p0 false false false) (fun a8=>(if a8=true then (Option.bind (R.C3 p0.Kids) (fun a9=>some a9)) else some false))) else (Option.bind ((if p0.Op=10 then some true else some (decide (p0.Op=11))):Option Bool) (fun xt90_45=>(if xt90_45=true then (Option.bind (A4 K p0 true false false) (fun a10=>(if a10=true then (Option.bind (Bp K p0.Name) (fun a11=>(if a11=true then (Option.bind (R.C3 p0.Kids) (fun a12=>some a12)) else some false))) else some false))) else (if p0.Op=29 then (if (p0.Kids.length:Int)=1 then (Option.bind (A4 K p0 true false false) (fun a13=>(if a13=true then (Option.bind (Bp K p0.Name) (fun a14=>(if a14=true then (if (0:Int) <(p0.Kids.length:Int) then (Option.bind (R.Bk (p0.Kids.getD (Int.toNat 0) B3)) (fun a15=>some a15)) else none) else some false))) else some false))) else some false) else (Option.bind ((if p0.Op=12 then some true else (if p0.Op=13 then some true else some (decide (p0.Op=14)))):Option Bool) (fun xt130_57=>(if xt130_57=true then (if (p0.Kids.length:Int)=1 then (Option.bind (A4 K p0 false false false) (fun a16=>(if a16=true then (if (0:Int) <(p0.Kids.length:Int) then (Option.bind (R.Bk (p0.Kids.getD (Int.toNat 0) B3)) (fun a17=>some a17)) else none) else some false))) else some false) else (Option.bind ((if p0.Op≥15 then some (decide (p0.Op≤28)) else some false):Option Bool) (fun xt154_63=>(if xt154_63=true then (if (p0.Kids.length:Int)=2 then (Option.bind (A4 K p0 false false false) (fun a18=>(if a18=true then (Option.bind (R.C3 p0.Kids) (fun a19=>some a19)) else some false))) else some false) else some false))))))))))))))))))
theorem Bk.body {Γ:Rm} {K:Nat} {R:Az} (hR:R.Ok) {p0:Aa} {r:Bool} (h:Bk.F K R p0=some r):Ri V P 172 100 Γ (Tryz.f33.body.getD .skip) (Q7 P V Tryz.f33 (.B r) []) ⟨Q6 0 [.agg (Aj p0)],[]⟩:=by
 unfold Bk.F at h
 refine Q4 L 200 <| Q4 L 203 <| Qv <| Q4 L 208 <| Q2 ?_
 obtain ⟨o1,hp1,h⟩:=bind_some h
 refine Qv (Rk (Q':=fun e S=>(e=.normal∧∃ xt10_9:Bool,S=⟨[(1,.P 21800),(3,.I (p0.Kids.length:Int)),(4,.I p0.Op),(10,.B xt10_9)],[(21800,.raw (Aj p0))]⟩∧xt10_9=o1)) ?_ ?_)
 ·clear h
  replace h:=hp1
  rcases Qw h with ⟨c1,h⟩ |⟨c1,h⟩
  ·refine Q8 (rg L 212 [(2,true)] [] [] (Q3 (decide_eq_true c1)) ⟨rfl,rfl⟩) (Qu.trans (Qu.kk [1,3,4,10] [200]) (Qu.trans (Qu.rr [(200,21800)]) (Qu.kp (S':=⟨[(1,.P 21800),(3,.I (p0.Kids.length:Int)),(4,.I p0.Op),(10,.B true)],[(21800,.raw (Aj p0))]⟩)))) ?_
   cases h
   exact ⟨rfl,_,rfl,rfl⟩
  rcases Qw h with ⟨c2,h⟩ |⟨c2,h⟩
  ·refine Q8 (rg L 212 [(2,false),(6,true)] [] [] (Sj (decide_eq_false c1) (decide_eq_true c2)) ⟨rfl,rfl⟩) (Qu.trans (Qu.kk [1,3,4,10] [200]) (Qu.trans (Qu.rr [(200,21800)]) (Qu.kp (S':=⟨[(1,.P 21800),(3,.I (p0.Kids.length:Int)),(4,.I p0.Op),(10,.B true)],[(21800,.raw (Aj p0))]⟩)))) ?_
   cases h
   exact ⟨rfl,_,rfl,rfl⟩
  refine Q8 (rg L 212 [(2,false),(6,false)] [] [] (Sj (decide_eq_false c1) (decide_eq_false c2)) ⟨rfl,rfl⟩) (Qu.trans (Qu.kk [1,3,4,10] [200]) (Qu.trans (Qu.rr [(200,21800)]) (Qu.kp (S':=⟨[(1,.P 21800),(3,.I (p0.Kids.length:Int)),(4,.I p0.Op),(10,.B (decide (p0.Op=3)))],[(21800,.raw (Aj p0))]⟩)))) ?_
  cases h
  exact ⟨rfl,_,rfl,rfl⟩
 ·rintro e S ⟨rfl,xt10_9,rfl,rfl⟩
  rcases Qw h with ⟨c3,h⟩ |⟨c3,h⟩
  ·refine tt c3 <| Qv ?_
   rcases Qw h with ⟨c4,h⟩ |⟨c4,h⟩
   ·obtain ⟨a1,h1,h⟩:=bind_some h
    refine rg L 224 [(2,true)] [(4,.B a1)] [] (Qz (decide_eq_true c4) (Qz (A4.ok h1) (Q3 trivial))) ?_
    refine Qx ?_
    cases h
    exact Rd
   refine rg L 224 [(2,false)] [] [] (Q3 (decide_eq_false c4)) ?_
   refine Qx ?_
   cases h
   exact Rd
  refine fN c3 <| Q4 L 232 ?_
  rcases Qw h with ⟨c5,h⟩ |⟨c5,h⟩
  ·refine tT c5 <| Qv ?_
   rcases Qw h with ⟨c6,h⟩ |⟨c6,h⟩
   ·obtain ⟨a2,h2,h⟩:=bind_some h
    rcases Qw h with ⟨c7,h⟩ |⟨c7,h⟩
    ·refine rg L 236 [(2,true),(6,true)] [(4,.B a2)] [] (Qz (decide_eq_true c6) (Qz (A4.ok h2) (Qz trivial (Q3 c7)))) ?_
     refine Qx ?_
     cases h
     exact Rd
    refine rg L 236 [(2,true),(6,false)] [(4,.B a2)] [] (Qz (decide_eq_true c6) (Qz (A4.ok h2) (Qz trivial (Q3 (eq_false_of_ne_true c7))))) ?_
    refine Qx ?_
    cases h
    exact Rd
   refine rg L 236 [(2,false)] [] [] (Q3 (decide_eq_false c6)) ?_
   refine Qx ?_
   cases h
   exact Rd
  refine fF c5 <| Q4 L 249 ?_
  rcases Qw h with ⟨c8,h⟩ |⟨c8,h⟩
  ·refine tT c8 <| Qv ?_
   rcases Qw h with ⟨c9,h⟩ |⟨c9,h⟩
   ·obtain ⟨a3,h3,h⟩:=bind_some h
    rcases Qw h with ⟨c10,h⟩ |⟨c10,h⟩
    ·refine rg L 253 [(2,true),(6,true)] [(4,.B a3)] [] (Qz (decide_eq_true c9) (Qz (A4.ok h3) (Qz trivial (Q3 c10)))) ?_
     refine Qx ?_
     cases h
     exact Rd
    refine rg L 253 [(2,true),(6,false)] [(4,.B a3)] [] (Qz (decide_eq_true c9) (Qz (A4.ok h3) (Qz trivial (Q3 (eq_false_of_ne_true c10))))) ?_
    refine Qx ?_
    cases h
    exact Rd
   refine rg L 253 [(2,false)] [] [] (Q3 (decide_eq_false c9)) ?_
   refine Qx ?_
   cases h
   exact Rd
  refine fF c8 <| Q4 L 267 ?_
  rcases Qw h with ⟨c11,h⟩ |⟨c11,h⟩
  ·refine tT c11 <| Qv ?_
   rcases Qw h with ⟨c12,h⟩ |⟨c12,h⟩
   ·obtain ⟨a4,h4,h⟩:=bind_some h
    rcases Qw h with ⟨c13,h⟩ |⟨c13,h⟩
    ·obtain ⟨a5,h5,h⟩:=bind_some h
     refine rg L 271 [(2,true),(6,true)] [(4,.B a4),(9,.B a5)] [] (Qz (decide_eq_true c12) (Qz (A4.ok h4) (Qz trivial (Qz c13 (Qz (Bp.ok h5) (Q3 trivial)))))) ?_
     refine Qx ?_
     cases h
     exact Rd
    refine rg L 271 [(2,true),(6,false)] [(4,.B a4)] [] (Qz (decide_eq_true c12) (Qz (A4.ok h4) (Qz trivial (Q3 (eq_false_of_ne_true c13))))) ?_
    refine Qx ?_
    cases h
    exact Rd
   refine rg L 271 [(2,false)] [] [] (Q3 (decide_eq_false c12)) ?_
   refine Qx ?_
   cases h
   exact Rd
  refine fF c11 <| Q4 L 284 ?_
  rcases Qw h with ⟨c14,h⟩ |⟨c14,h⟩
  ·refine tT c14 <| Qv ?_
   obtain ⟨a6,h6,h⟩:=bind_some h
   rcases Qw h with ⟨c15,h⟩ |⟨c15,h⟩
   ·obtain ⟨a7,h7,h⟩:=bind_some h
    refine rg L 288 [(2,true)] [(1,.B a6),(5,.B a7)] [] (Qz (A4.ok h6) (Qz trivial (Qz c15 (Qz (Dq.okR hR h7) (Q3 trivial))))) ?_
    refine Qx ?_
    cases h
    exact Rd
   refine rg L 288 [(2,false)] [(1,.B a6)] [] (Qz (A4.ok h6) (Qz trivial (Q3 (eq_false_of_ne_true c15)))) ?_
   refine Qx ?_
   cases h
   exact Rd
  refine fF c14 <| Q4 L 297 ?_
  rcases Qw h with ⟨c16,h⟩ |⟨c16,h⟩
  ·refine tT c16 <| Qv ?_
   obtain ⟨a8,h8,h⟩:=bind_some h
   rcases Qw h with ⟨c17,h⟩ |⟨c17,h⟩
   ·obtain ⟨a9,h9,h⟩:=bind_some h
    refine rg L 301 [(2,true)] [(1,.B a8),(5,.B a9)] [] (Qz (A4.ok h8) (Qz trivial (Qz c17 (Qz (C3.okR hR h9) (Q3 trivial))))) ?_
    refine Qx ?_
    cases h
    exact Rd
   refine rg L 301 [(2,false)] [(1,.B a8)] [] (Qz (A4.ok h8) (Qz trivial (Q3 (eq_false_of_ne_true c17)))) ?_
   refine Qx ?_
   cases h
   exact Rd
  refine fF c16 ?_
  obtain ⟨o2,hp2,h⟩:=bind_some h
  refine Qv (Rk (Q':=fun e S=>(e=.normal∧∃ xt90_45:Bool,S=⟨[(1,.P 29000),(3,.I (p0.Kids.length:Int)),(4,.I p0.Op),(90,.B xt90_45)],[(29000,.raw (Aj p0))]⟩∧xt90_45=o2)) ?_ ?_)
  ·clear h
   replace h:=hp2
   rcases Qw h with ⟨c18,h⟩ |⟨c18,h⟩
   ·refine Q8 (rg L 310 [(2,true)] [] [] (Q3 (decide_eq_true c18)) ⟨rfl,rfl⟩) (Qu.trans (Qu.kk [1,3,4,90] [21800]) (Qu.trans (Qu.rr [(21800,29000)]) (Qu.kp (S':=⟨[(1,.P 29000),(3,.I (p0.Kids.length:Int)),(4,.I p0.Op),(90,.B true)],[(29000,.raw (Aj p0))]⟩)))) ?_
    cases h
    exact ⟨rfl,_,rfl,rfl⟩
   refine Q8 (rg L 310 [(2,false)] [] [] (Q3 (decide_eq_false c18)) ⟨rfl,rfl⟩) (Qu.trans (Qu.kk [1,3,4,90] [21800]) (Qu.trans (Qu.rr [(21800,29000)]) (Qu.kp (S':=⟨[(1,.P 29000),(3,.I (p0.Kids.length:Int)),(4,.I p0.Op),(90,.B (decide (p0.Op=11)))],[(29000,.raw (Aj p0))]⟩)))) ?_
   cases h
   exact ⟨rfl,_,rfl,rfl⟩
  ·rintro e S ⟨rfl,xt90_45,rfl,rfl⟩
   rcases Qw h with ⟨c19,h⟩ |⟨c19,h⟩
   ·refine tt c19 <| Qv ?_
    obtain ⟨a10,h10,h⟩:=bind_some h
    rcases Qw h with ⟨c20,h⟩ |⟨c20,h⟩
    ·obtain ⟨a11,h11,h⟩:=bind_some h
     rcases Qw h with ⟨c21,h⟩ |⟨c21,h⟩
     ·obtain ⟨a12,h12,h⟩:=bind_some h
      refine rg L 318 [(2,true),(7,true)] [(1,.B a10),(5,.B a11),(10,.B a12)] [] (Qz (A4.ok h10) (Qz trivial (Qz c20 (Qz (Bp.ok h11) (Qz trivial (Qz c21 (Qz (C3.okR hR h12) (Q3 trivial)))))))) ?_
      refine Qx ?_
      cases h
      exact Rd
     refine rg L 318 [(2,true),(7,false)] [(1,.B a10),(5,.B a11)] [] (Qz (A4.ok h10) (Qz trivial (Qz c20 (Qz (Bp.ok h11) (Qz trivial (Q3 (eq_false_of_ne_true c21))))))) ?_
     refine Qx ?_
     cases h
     exact Rd
    refine rg L 318 [(2,false)] [(1,.B a10)] [] (Qz (A4.ok h10) (Qz trivial (Q3 (eq_false_of_ne_true c20)))) ?_
    refine Qx ?_
    cases h
    exact Rd
   refine fN c19 <| Q4 L 332 ?_
   rcases Qw h with ⟨c22,h⟩ |⟨c22,h⟩
   ·refine tT c22 <| Qv ?_
    rcases Qw h with ⟨c23,h⟩ |⟨c23,h⟩
    ·obtain ⟨a13,h13,h⟩:=bind_some h
     rcases Qw h with ⟨c24,h⟩ |⟨c24,h⟩
     ·obtain ⟨a14,h14,h⟩:=bind_some h
      rcases Qw h with ⟨c25,h⟩ |⟨c25,h⟩
      ·obtain ⟨g1,h⟩:=Q1 h
       obtain ⟨a15,h15,h⟩:=bind_some h
       refine rg L 336 [(2,true),(6,true),(11,true)] [(4,.B a13),(9,.B a14),(16,.B a15)] [] (Qz (decide_eq_true c23) (Qz (A4.ok h13) (Qz trivial (Qz c24 (Qz (Bp.ok h14) (Qz trivial (Qz c25 (Qz (show (0:Int)≤0 from by decide) (Qz g1 (Qz (Bk.okR hR h15) (Q3 trivial))))))))))) ?_
       refine Qx ?_
       cases h
       exact Rd
      refine rg L 336 [(2,true),(6,true),(11,false)] [(4,.B a13),(9,.B a14)] [] (Qz (decide_eq_true c23) (Qz (A4.ok h13) (Qz trivial (Qz c24 (Qz (Bp.ok h14) (Qz trivial (Q3 (eq_false_of_ne_true c25)))))))) ?_
      refine Qx ?_
      cases h
      exact Rd
     refine rg L 336 [(2,true),(6,false)] [(4,.B a13)] [] (Qz (decide_eq_true c23) (Qz (A4.ok h13) (Qz trivial (Q3 (eq_false_of_ne_true c24))))) ?_
     refine Qx ?_
     cases h
     exact Rd
    refine rg L 336 [(2,false)] [] [] (Q3 (decide_eq_false c23)) ?_
    refine Qx ?_
    cases h
    exact Rd
   refine fF c22 ?_
   obtain ⟨o3,hp3,h⟩:=bind_some h
   refine Qv (Rk (Q':=fun e S=>(e=.normal∧∃ xt130_57:Bool,S=⟨[(1,.P 31400),(3,.I (p0.Kids.length:Int)),(4,.I p0.Op),(130,.B xt130_57)],[(31400,.raw (Aj p0))]⟩∧xt130_57=o3)) ?_ ?_)
   ·clear h
    replace h:=hp3
    rcases Qw h with ⟨c26,h⟩ |⟨c26,h⟩
    ·refine Q8 (rg L 356 [(2,true)] [] [] (Q3 (decide_eq_true c26)) ⟨rfl,rfl⟩) (Qu.trans (Qu.kk [1,3,4,130] [29000]) (Qu.trans (Qu.rr [(29000,31400)]) (Qu.kp (S':=⟨[(1,.P 31400),(3,.I (p0.Kids.length:Int)),(4,.I p0.Op),(130,.B true)],[(31400,.raw (Aj p0))]⟩)))) ?_
     cases h
     exact ⟨rfl,_,rfl,rfl⟩
    rcases Qw h with ⟨c27,h⟩ |⟨c27,h⟩
    ·refine Q8 (rg L 356 [(2,false),(6,true)] [] [] (Sj (decide_eq_false c26) (decide_eq_true c27)) ⟨rfl,rfl⟩) (Qu.trans (Qu.kk [1,3,4,130] [29000]) (Qu.trans (Qu.rr [(29000,31400)]) (Qu.kp (S':=⟨[(1,.P 31400),(3,.I (p0.Kids.length:Int)),(4,.I p0.Op),(130,.B true)],[(31400,.raw (Aj p0))]⟩)))) ?_
     cases h
     exact ⟨rfl,_,rfl,rfl⟩
    refine Q8 (rg L 356 [(2,false),(6,false)] [] [] (Sj (decide_eq_false c26) (decide_eq_false c27)) ⟨rfl,rfl⟩) (Qu.trans (Qu.kk [1,3,4,130] [29000]) (Qu.trans (Qu.rr [(29000,31400)]) (Qu.kp (S':=⟨[(1,.P 31400),(3,.I (p0.Kids.length:Int)),(4,.I p0.Op),(130,.B (decide (p0.Op=14)))],[(31400,.raw (Aj p0))]⟩)))) ?_
    cases h
    exact ⟨rfl,_,rfl,rfl⟩
   ·rintro e S ⟨rfl,xt130_57,rfl,rfl⟩
    rcases Qw h with ⟨c28,h⟩ |⟨c28,h⟩
    ·refine tt c28 <| Qv ?_
     rcases Qw h with ⟨c29,h⟩ |⟨c29,h⟩
     ·obtain ⟨a16,h16,h⟩:=bind_some h
      rcases Qw h with ⟨c30,h⟩ |⟨c30,h⟩
      ·obtain ⟨g2,h⟩:=Q1 h
       obtain ⟨a17,h17,h⟩:=bind_some h
       refine rg L 368 [(2,true),(6,true)] [(4,.B a16),(11,.B a17)] [] (Qz (decide_eq_true c29) (Qz (A4.ok h16) (Qz trivial (Qz c30 (Qz (show (0:Int)≤0 from by decide) (Qz g2 (Qz (Bk.okR hR h17) (Q3 trivial)))))))) ?_
       refine Qx ?_
       cases h
       exact Rd
      refine rg L 368 [(2,true),(6,false)] [(4,.B a16)] [] (Qz (decide_eq_true c29) (Qz (A4.ok h16) (Qz trivial (Q3 (eq_false_of_ne_true c30))))) ?_
      refine Qx ?_
      cases h
      exact Rd
     refine rg L 368 [(2,false)] [] [] (Q3 (decide_eq_false c29)) ?_
     refine Qx ?_
     cases h
     exact Rd
    refine fN c28 ?_
    obtain ⟨o4,hp4,h⟩:=bind_some h
    refine Qv (Rk (Q':=fun e S=>(e=.normal∧∃ xt154_63:Bool,S=⟨[(1,.P 32600),(3,.I (p0.Kids.length:Int)),(154,.B xt154_63)],[(32600,.raw (Aj p0))]⟩∧xt154_63=o4)) ?_ ?_)
    ·clear h
     replace h:=hp4
     rcases Qw h with ⟨c31,h⟩ |⟨c31,h⟩
     ·refine Q8 (rg L 383 [(2,true)] [] [] (Q3 (decide_eq_true c31)) ⟨rfl,rfl⟩) (Qu.trans (Qu.kk [1,3,154] [31400]) (Qu.trans (Qu.rr [(31400,32600)]) (Qu.kp (S':=⟨[(1,.P 32600),(3,.I (p0.Kids.length:Int)),(154,.B (decide (p0.Op≤28)))],[(32600,.raw (Aj p0))]⟩)))) ?_
      cases h
      exact ⟨rfl,_,rfl,rfl⟩
     refine Q8 (rg L 383 [(2,false)] [] [] (Q3 (decide_eq_false c31)) ⟨rfl,rfl⟩) (Qu.trans (Qu.kk [1,3,154] [31400]) (Qu.trans (Qu.rr [(31400,32600)]) (Qu.kp (S':=⟨[(1,.P 32600),(3,.I (p0.Kids.length:Int)),(154,.B false)],[(32600,.raw (Aj p0))]⟩)))) ?_
     cases h
     exact ⟨rfl,_,rfl,rfl⟩
    ·rintro e S ⟨rfl,xt154_63,rfl,rfl⟩
     rcases Qw h with ⟨c32,h⟩ |⟨c32,h⟩
     ·refine tt c32 <| Qv ?_
      rcases Qw h with ⟨c33,h⟩ |⟨c33,h⟩
      ·obtain ⟨a18,h18,h⟩:=bind_some h
       rcases Qw h with ⟨c34,h⟩ |⟨c34,h⟩
       ·obtain ⟨a19,h19,h⟩:=bind_some h
        refine rg L 391 [(2,true),(6,true)] [(4,.B a18),(9,.B a19)] [] (Qz (decide_eq_true c33) (Qz (A4.ok h18) (Qz trivial (Qz c34 (Qz (C3.okR hR h19) (Q3 trivial)))))) ?_
        refine Qx ?_
        cases h
        exact Rd
       refine rg L 391 [(2,true),(6,false)] [(4,.B a18)] [] (Qz (decide_eq_true c33) (Qz (A4.ok h18) (Qz trivial (Q3 (eq_false_of_ne_true c34))))) ?_
       refine Qx ?_
       cases h
       exact Rd
      refine rg L 391 [(2,false)] [] [] (Q3 (decide_eq_false c33)) ?_
      refine Qx ?_
      cases h
      exact Rd
     refine fN c32 <| Q0 <| Q4 L 404 <| Qx ?_
     cases h
     exact Rd
def Az.upto (K:Nat):Nat→Az
 | 0=>⟨fun _=>none,fun _=>none,fun _=>none,fun _=>none,fun _=>none,fun _=>none,fun _=>none,fun _=>none,fun _=>none,fun _=>none⟩
 | k+1=>⟨Dw.F K (Az.upto K k),Dc.F K (Az.upto K k),Cd.F K (Az.upto K k),Cp.F K (Az.upto K k),Dq.F K (Az.upto K k),Dd.F K (Az.upto K k),Cc.F K (Az.upto K k),Co.F K (Az.upto K k),C3.F K (Az.upto K k),Bk.F K (Az.upto K k)⟩
theorem Az.upto_ok (K:Nat):∀ k,(Az.upto K k).Ok
 | 0=>⟨fun h=>(by cases h),fun h=>(by cases h),fun h=>(by cases h),fun h=>(by cases h),fun h=>(by cases h),fun h=>(by cases h),fun h=>(by cases h),fun h=>(by cases h),fun h=>(by cases h),fun h=>(by cases h)⟩
 | k+1=>⟨fun {p0 r} h=>eo (fn:=Tryz.f64) (n:=29) (m:=100) fun Γ=>Dw.body (K:=K) (Az.upto_ok K k) h,fun {p0 r} h=>eo (fn:=Tryz.f57) (n:=8) (m:=100) fun Γ=>Dc.body (K:=K) (Az.upto_ok K k) h,fun {p0 r} h=>eo (fn:=Tryz.f90) (n:=19) (m:=100) fun Γ=>Cd.body (K:=K) (Az.upto_ok K k) h,fun {p0 r} h=>eo (fn:=Tryz.f56) (n:=9) (m:=100) fun Γ=>Cp.body (K:=K) (Az.upto_ok K k) h,fun {p0 r} h=>eo (fn:=Tryz.f30) (n:=9) (m:=100) fun Γ=>Dq.body (K:=K) (Az.upto_ok K k) h,fun {p0 r} h=>eo (fn:=Tryz.f57) (n:=8) (m:=100) fun Γ=>Dd.body (K:=K) (Az.upto_ok K k) h,fun {p0 r} h=>eo (fn:=Tryz.f90) (n:=19) (m:=100) fun Γ=>Cc.body (K:=K) (Az.upto_ok K k) h,fun {p0 r} h=>eo (fn:=Tryz.f56) (n:=9) (m:=100) fun Γ=>Co.body (K:=K) (Az.upto_ok K k) h,fun {p0 r} h=>eo (fn:=Tryz.f30) (n:=9) (m:=100) fun Γ=>C3.body (K:=K) (Az.upto_ok K k) h,fun {p0 r} h=>eo (fn:=Tryz.f33) (n:=172) (m:=100) fun Γ=>Bk.body (K:=K) (Az.upto_ok K k) h⟩
def Dw (K:Nat) (p0:Aa):Option Bool:=(Az.upto K K).Dw p0
theorem Dw.okE {K:Nat} {p0:Aa} {r:Bool} (h:Dw K p0=some r):Q5 V P 64 [.agg (Aj p0)] [] [] (.B r) []:=(Az.upto_ok K K).Dw h
theorem Dw.ok {K:Nat} {p0:Aa} {r:Bool} (h:Dw K p0=some r):Rb V P 64 [.agg (Aj p0)] (.B r):=(Dw.okE h).pcall (by kernel_rfl)
def Dc (K:Nat) (p0:Aa):Option Bool:=(Az.upto K K).Dc p0
theorem Dc.okE {K:Nat} {p0:Aa} {r:Bool} (h:Dc K p0=some r):Q5 V P 57 [.agg (Aj p0),.cv (.pcs [.fn (.func 64) [] []] 0)] [] [] (.B r) []:=(Az.upto_ok K K).Dc h
theorem Dc.ok {K:Nat} {p0:Aa} {r:Bool} (h:Dc K p0=some r):Rb V P 57 [.agg (Aj p0),.cv (.pcs [.fn (.func 64) [] []] 0)] (.B r):=(Dc.okE h).pcall (by kernel_rfl)
def Cd (K:Nat) (p0:List Aa):Option Int:=(Az.upto K K).Cd p0
theorem Cd.okE {K:Nat} {p0:List Aa} {r:Int} (h:Cd K p0=some r):Q5 V P 90 [.cv (.ro .Ae p0),.cv (.fn (.func 57) [] [.pcs [.fn (.func 64) [] []] 0])] [] [] (.I r) []:=(Az.upto_ok K K).Cd h
theorem Cd.ok {K:Nat} {p0:List Aa} {r:Int} (h:Cd K p0=some r):Rb V P 90 [.cv (.ro .Ae p0),.cv (.fn (.func 57) [] [.pcs [.fn (.func 64) [] []] 0])] (.I r):=(Cd.okE h).pcall (by kernel_rfl)
def Cp (K:Nat) (p0:List Aa):Option Bool:=(Az.upto K K).Cp p0
theorem Cp.okE {K:Nat} {p0:List Aa} {r:Bool} (h:Cp K p0=some r):Q5 V P 56 [.cv (.ro .Ae p0),.cv (.fn (.func 57) [] [.pcs [.fn (.func 64) [] []] 0])] [] [] (.B r) []:=(Az.upto_ok K K).Cp h
theorem Cp.ok {K:Nat} {p0:List Aa} {r:Bool} (h:Cp K p0=some r):Rb V P 56 [.cv (.ro .Ae p0),.cv (.fn (.func 57) [] [.pcs [.fn (.func 64) [] []] 0])] (.B r):=(Cp.okE h).pcall (by kernel_rfl)
def Dq (K:Nat) (p0:List Aa):Option Bool:=(Az.upto K K).Dq p0
theorem Dq.okE {K:Nat} {p0:List Aa} {r:Bool} (h:Dq K p0=some r):Q5 V P 30 [.cv (.ro .Ae p0),.cv (.fn (.func 64) [] [])] [] [] (.B r) []:=(Az.upto_ok K K).Dq h
theorem Dq.ok {K:Nat} {p0:List Aa} {r:Bool} (h:Dq K p0=some r):Rb V P 30 [.cv (.ro .Ae p0),.cv (.fn (.func 64) [] [])] (.B r):=(Dq.okE h).pcall (by kernel_rfl)
def Dd (K:Nat) (p0:Aa):Option Bool:=(Az.upto K K).Dd p0
theorem Dd.okE {K:Nat} {p0:Aa} {r:Bool} (h:Dd K p0=some r):Q5 V P 57 [.agg (Aj p0),.cv (.pcs [.fn (.func 33) [] []] 0)] [] [] (.B r) []:=(Az.upto_ok K K).Dd h
theorem Dd.ok {K:Nat} {p0:Aa} {r:Bool} (h:Dd K p0=some r):Rb V P 57 [.agg (Aj p0),.cv (.pcs [.fn (.func 33) [] []] 0)] (.B r):=(Dd.okE h).pcall (by kernel_rfl)
def Cc (K:Nat) (p0:List Aa):Option Int:=(Az.upto K K).Cc p0
theorem Cc.okE {K:Nat} {p0:List Aa} {r:Int} (h:Cc K p0=some r):Q5 V P 90 [.cv (.ro .Ae p0),.cv (.fn (.func 57) [] [.pcs [.fn (.func 33) [] []] 0])] [] [] (.I r) []:=(Az.upto_ok K K).Cc h
theorem Cc.ok {K:Nat} {p0:List Aa} {r:Int} (h:Cc K p0=some r):Rb V P 90 [.cv (.ro .Ae p0),.cv (.fn (.func 57) [] [.pcs [.fn (.func 33) [] []] 0])] (.I r):=(Cc.okE h).pcall (by kernel_rfl)
def Co (K:Nat) (p0:List Aa):Option Bool:=(Az.upto K K).Co p0
theorem Co.okE {K:Nat} {p0:List Aa} {r:Bool} (h:Co K p0=some r):Q5 V P 56 [.cv (.ro .Ae p0),.cv (.fn (.func 57) [] [.pcs [.fn (.func 33) [] []] 0])] [] [] (.B r) []:=(Az.upto_ok K K).Co h
theorem Co.ok {K:Nat} {p0:List Aa} {r:Bool} (h:Co K p0=some r):Rb V P 56 [.cv (.ro .Ae p0),.cv (.fn (.func 57) [] [.pcs [.fn (.func 33) [] []] 0])] (.B r):=(Co.okE h).pcall (by kernel_rfl)
def C3 (K:Nat) (p0:List Aa):Option Bool:=(Az.upto K K).C3 p0
theorem C3.okE {K:Nat} {p0:List Aa} {r:Bool} (h:C3 K p0=some r):Q5 V P 30 [.cv (.ro .Ae p0),.cv (.fn (.func 33) [] [])] [] [] (.B r) []:=(Az.upto_ok K K).C3 h
theorem C3.ok {K:Nat} {p0:List Aa} {r:Bool} (h:C3 K p0=some r):Rb V P 30 [.cv (.ro .Ae p0),.cv (.fn (.func 33) [] [])] (.B r):=(C3.okE h).pcall (by kernel_rfl)
def Bk (K:Nat) (p0:Aa):Option Bool:=(Az.upto K K).Bk p0
theorem Bk.okE {K:Nat} {p0:Aa} {r:Bool} (h:Bk K p0=some r):Q5 V P 33 [.agg (Aj p0)] [] [] (.B r) []:=(Az.upto_ok K K).Bk h
theorem Bk.ok {K:Nat} {p0:Aa} {r:Bool} (h:Bk K p0=some r):Rb V P 33 [.agg (Aj p0)] (.B r):=(Bk.okE h).pcall (by kernel_rfl)
def E9 (K:Nat) (p0:Aa):Option Bool:=(Option.bind (((if p0.Op=1 then some (decide (p0.Op=1)) else (if p0.Op=2 then some (decide (p0.Op=2)) else (if p0.Op=3 then some (decide (p0.Op=3)) else (if p0.Op=4 then some (decide (p0.Op=4)) else some (decide (p0.Op=5))))))):Option Bool) (fun xt5_7=>(if xt5_7=true then (Option.bind (Bk K p0) (fun a1=>some a1)) else (if p0.Op=14 then (Option.bind (Bk K p0) (fun a2=>(if a2=true then (if (0:Int) <(p0.Kids.length:Int) then some (decide ((p0.Kids.getD (Int.toNat 0) B3).Op=4)) else none) else some false))) else some false))))
theorem E9.body {Γ:Rm} {K:Nat} {p0:Aa} {r:Bool} (h:E9 K p0=some r):Ri V P 25 100 Γ (Tryz.f59.body.getD .skip) (Q7 P V Tryz.f59 (.B r) []) ⟨Q6 0 [.agg (Aj p0)],[]⟩:=by
 unfold E9 at h
 refine Q4 L 200 <| Qv <| Q4 L 203 <| Q2 ?_
 obtain ⟨o1,hp1,h⟩:=bind_some h
 refine Qv (Rk (Q':=fun e S=>(e=.normal∧∃ xt5_7:Bool,S=⟨[(1,.P 21400),(4,.I p0.Op),(5,.B xt5_7)],[(21400,.raw (Aj p0))]⟩∧xt5_7=o1)) ?_ ?_)
 ·clear h
  replace h:=hp1
  refine Q4 L 206 ?_
  rcases Qw h with ⟨c1,h⟩ |⟨c1,h⟩
  ·refine tT c1 <| Qy (Qu.trans (Qu.kk [1,4,5] [200]) (Qu.rr [(200,21400)])) ?_
   refine sk (S':=⟨[(1,.P 21400),(4,.I p0.Op),(5,.B (decide (p0.Op=1)))],[(21400,.raw (Aj p0))]⟩) ?_
   cases h
   exact ⟨rfl,_,rfl,rfl⟩
  refine fF c1 <| Q4 L 209 ?_
  rcases Qw h with ⟨c2,h⟩ |⟨c2,h⟩
  ·refine tT c2 <| Qy (Qu.trans (Qu.kk [1,4,5] [200]) (Qu.rr [(200,21400)])) ?_
   refine sk (S':=⟨[(1,.P 21400),(4,.I p0.Op),(5,.B (decide (p0.Op=2)))],[(21400,.raw (Aj p0))]⟩) ?_
   cases h
   exact ⟨rfl,_,rfl,rfl⟩
  refine fF c2 <| Q4 L 212 ?_
  rcases Qw h with ⟨c3,h⟩ |⟨c3,h⟩
  ·refine tT c3 <| Qy (Qu.trans (Qu.kk [1,4,5] [200]) (Qu.rr [(200,21400)])) ?_
   refine sk (S':=⟨[(1,.P 21400),(4,.I p0.Op),(5,.B (decide (p0.Op=3)))],[(21400,.raw (Aj p0))]⟩) ?_
   cases h
   exact ⟨rfl,_,rfl,rfl⟩
  refine fF c3 <| Q4 L 215 ?_
  rcases Qw h with ⟨c4,h⟩ |⟨c4,h⟩
  ·refine tT c4 <| Qy (Qu.trans (Qu.kk [1,4,5] [200]) (Qu.rr [(200,21400)])) ?_
   refine sk (S':=⟨[(1,.P 21400),(4,.I p0.Op),(5,.B (decide (p0.Op=4)))],[(21400,.raw (Aj p0))]⟩) ?_
   cases h
   exact ⟨rfl,_,rfl,rfl⟩
  refine fF c4 <| Q8 (Ul L 218 ⟨rfl,rfl⟩) (Qu.trans (Qu.kk [1,4,5] [200]) (Qu.trans (Qu.rr [(200,21400)]) (Qu.kp (S':=⟨[(1,.P 21400),(4,.I p0.Op),(5,.B (decide (p0.Op=5)))],[(21400,.raw (Aj p0))]⟩)))) ?_
  cases h
  exact ⟨rfl,_,rfl,rfl⟩
 ·rintro e S ⟨rfl,xt5_7,rfl,rfl⟩
  rcases Qw h with ⟨c5,h⟩ |⟨c5,h⟩
  ·refine tt c5 <| Qv ?_
   obtain ⟨a1,h1,h⟩:=bind_some h
   refine rg L 221 [] [(1,.B a1)] [] (R6 (Bk.ok h1)) ?_
   refine Qx ?_
   cases h
   exact Rd
  refine fN c5 <| Q4 L 225 ?_
  rcases Qw h with ⟨c6,h⟩ |⟨c6,h⟩
  ·refine tT c6 <| Qv ?_
   obtain ⟨a2,h2,h⟩:=bind_some h
   rcases Qw h with ⟨c7,h⟩ |⟨c7,h⟩
   ·obtain ⟨g1,h⟩:=Q1 h
    refine rg L 228 [(2,true)] [(1,.B a2)] [] (Qz (Bk.ok h2) (Qz trivial (Qz c7 (Qz (show (0:Int)≤0 from by decide) (Q3 g1))))) ?_
    refine Qx ?_
    cases h
    exact Rd
   refine rg L 228 [(2,false)] [(1,.B a2)] [] (Qz (Bk.ok h2) (Qz trivial (Q3 (eq_false_of_ne_true c7)))) ?_
   refine Qx ?_
   cases h
   exact Rd
  refine fF c6 <| Q0 <| Q4 L 240 <| Qx ?_
  cases h
  exact Rd
theorem E9.ok {K:Nat} {p0:Aa} {r:Bool} (h:E9 K p0=some r):Rb V P 59 [.agg (Aj p0)] (.B r):=Q5.pcall (eo (fn:=Tryz.f59) (n:=25) (m:=100) fun Γ=>E9.body h) (by kernel_rfl)
structure Ap where
 En:(List Aa)→Option Bool
 Dk:Aa→Option Bool
 Ci:(List Aa)→Option Int
 Cn:(List Aa)→Option Bool
 Do:(List Aa)→Option Bool
 D9:Aa→Option Bool
 Dl:Aa→Option Bool
 Cj:(List Aa)→Option Int
 Cr:(List Aa)→Option Bool
 Dp:(List Aa)→Option Bool
 Dy:(List Aa)→Option Bool
 C9:Aa→Option Bool
 Dj:Aa→Option Bool
 Ck:(List Aa)→Option Int
 Cq:(List Aa)→Option Bool
 Dx:(List Aa)→Option Bool
 Cm:Aa→Option Bool
structure Ap.Ok (R:Ap):Prop where
 En:∀ {p0:List Aa} {r:Bool},R.En p0=some r→Q5 V P 120 [.cv (.ro .Ae p0)] [] [] (.B r) []
 Dk:∀ {p0:Aa} {r:Bool},R.Dk p0=some r→Q5 V P 57 [.agg (Aj p0),.cv (.pcs [.fn (.func 60) [] []] 0)] [] [] (.B r) []
 Ci:∀ {p0:List Aa} {r:Int},R.Ci p0=some r→Q5 V P 90 [.cv (.ro .Ae p0),.cv (.fn (.func 57) [] [.pcs [.fn (.func 60) [] []] 0])] [] [] (.I r) []
 Cn:∀ {p0:List Aa} {r:Bool},R.Cn p0=some r→Q5 V P 56 [.cv (.ro .Ae p0),.cv (.fn (.func 57) [] [.pcs [.fn (.func 60) [] []] 0])] [] [] (.B r) []
 Do:∀ {p0:List Aa} {r:Bool},R.Do p0=some r→Q5 V P 30 [.cv (.ro .Ae p0),.cv (.fn (.func 60) [] [])] [] [] (.B r) []
 D9:∀ {p0:Aa} {r:Bool},R.D9 p0=some r→Q5 V P 136 [.agg (Aj p0)] [] [] (.B r) []
 Dl:∀ {p0:Aa} {r:Bool},R.Dl p0=some r→Q5 V P 57 [.agg (Aj p0),.cv (.pcs [.fn (.func 136) [] []] 0)] [] [] (.B r) []
 Cj:∀ {p0:List Aa} {r:Int},R.Cj p0=some r→Q5 V P 90 [.cv (.ro .Ae p0),.cv (.fn (.func 57) [] [.pcs [.fn (.func 136) [] []] 0])] [] [] (.I r) []
 Cr:∀ {p0:List Aa} {r:Bool},R.Cr p0=some r→Q5 V P 56 [.cv (.ro .Ae p0),.cv (.fn (.func 57) [] [.pcs [.fn (.func 136) [] []] 0])] [] [] (.B r) []
 Dp:∀ {p0:List Aa} {r:Bool},R.Dp p0=some r→Q5 V P 30 [.cv (.ro .Ae p0),.cv (.fn (.func 136) [] [])] [] [] (.B r) []
 Dy:∀ {p0:List Aa} {r:Bool},R.Dy p0=some r→Q5 V P 121 [.cv (.ro .Ae p0)] [] [] (.B r) []
 C9:∀ {p0:Aa} {r:Bool},R.C9 p0=some r→Q5 V P 92 [.agg (Aj p0)] [] [] (.B r) []
 Dj:∀ {p0:Aa} {r:Bool},R.Dj p0=some r→Q5 V P 57 [.agg (Aj p0),.cv (.pcs [.fn (.func 92) [] []] 0)] [] [] (.B r) []
 Ck:∀ {p0:List Aa} {r:Int},R.Ck p0=some r→Q5 V P 90 [.cv (.ro .Ae p0),.cv (.fn (.func 57) [] [.pcs [.fn (.func 92) [] []] 0])] [] [] (.I r) []
 Cq:∀ {p0:List Aa} {r:Bool},R.Cq p0=some r→Q5 V P 56 [.cv (.ro .Ae p0),.cv (.fn (.func 57) [] [.pcs [.fn (.func 92) [] []] 0])] [] [] (.B r) []
 Dx:∀ {p0:List Aa} {r:Bool},R.Dx p0=some r→Q5 V P 30 [.cv (.ro .Ae p0),.cv (.fn (.func 92) [] [])] [] [] (.B r) []
 Cm:∀ {p0:Aa} {r:Bool},R.Cm p0=some r→Q5 V P 60 [.agg (Aj p0)] [] [] (.B r) []
theorem En.okR {R:Ap} (hR:R.Ok) {p0:List Aa} {r:Bool} (h:R.En p0=some r):Rb V P 120 [.cv (.ro .Ae p0)] (.B r):=(hR.En h).pcall (by kernel_rfl)
theorem Dk.okR {R:Ap} (hR:R.Ok) {p0:Aa} {r:Bool} (h:R.Dk p0=some r):Rb V P 57 [.agg (Aj p0),.cv (.pcs [.fn (.func 60) [] []] 0)] (.B r):=(hR.Dk h).pcall (by kernel_rfl)
theorem Ci.okR {R:Ap} (hR:R.Ok) {p0:List Aa} {r:Int} (h:R.Ci p0=some r):Rb V P 90 [.cv (.ro .Ae p0),.cv (.fn (.func 57) [] [.pcs [.fn (.func 60) [] []] 0])] (.I r):=(hR.Ci h).pcall (by kernel_rfl)
theorem Cn.okR {R:Ap} (hR:R.Ok) {p0:List Aa} {r:Bool} (h:R.Cn p0=some r):Rb V P 56 [.cv (.ro .Ae p0),.cv (.fn (.func 57) [] [.pcs [.fn (.func 60) [] []] 0])] (.B r):=(hR.Cn h).pcall (by kernel_rfl)
theorem Do.okR {R:Ap} (hR:R.Ok) {p0:List Aa} {r:Bool} (h:R.Do p0=some r):Rb V P 30 [.cv (.ro .Ae p0),.cv (.fn (.func 60) [] [])] (.B r):=(hR.Do h).pcall (by kernel_rfl)
theorem D9.okR {R:Ap} (hR:R.Ok) {p0:Aa} {r:Bool} (h:R.D9 p0=some r):Rb V P 136 [.agg (Aj p0)] (.B r):=(hR.D9 h).pcall (by kernel_rfl)
theorem Dl.okR {R:Ap} (hR:R.Ok) {p0:Aa} {r:Bool} (h:R.Dl p0=some r):Rb V P 57 [.agg (Aj p0),.cv (.pcs [.fn (.func 136) [] []] 0)] (.B r):=(hR.Dl h).pcall (by kernel_rfl)
theorem Cj.okR {R:Ap} (hR:R.Ok) {p0:List Aa} {r:Int} (h:R.Cj p0=some r):Rb V P 90 [.cv (.ro .Ae p0),.cv (.fn (.func 57) [] [.pcs [.fn (.func 136) [] []] 0])] (.I r):=(hR.Cj h).pcall (by kernel_rfl)
theorem Cr.okR {R:Ap} (hR:R.Ok) {p0:List Aa} {r:Bool} (h:R.Cr p0=some r):Rb V P 56 [.cv (.ro .Ae p0),.cv (.fn (.func 57) [] [.pcs [.fn (.func 136) [] []] 0])] (.B r):=(hR.Cr h).pcall (by kernel_rfl)
theorem Dp.okR {R:Ap} (hR:R.Ok) {p0:List Aa} {r:Bool} (h:R.Dp p0=some r):Rb V P 30 [.cv (.ro .Ae p0),.cv (.fn (.func 136) [] [])] (.B r):=(hR.Dp h).pcall (by kernel_rfl)
theorem Dy.okR {R:Ap} (hR:R.Ok) {p0:List Aa} {r:Bool} (h:R.Dy p0=some r):Rb V P 121 [.cv (.ro .Ae p0)] (.B r):=(hR.Dy h).pcall (by kernel_rfl)
theorem C9.okR {R:Ap} (hR:R.Ok) {p0:Aa} {r:Bool} (h:R.C9 p0=some r):Rb V P 92 [.agg (Aj p0)] (.B r):=(hR.C9 h).pcall (by kernel_rfl)
theorem Dj.okR {R:Ap} (hR:R.Ok) {p0:Aa} {r:Bool} (h:R.Dj p0=some r):Rb V P 57 [.agg (Aj p0),.cv (.pcs [.fn (.func 92) [] []] 0)] (.B r):=(hR.Dj h).pcall (by kernel_rfl)
theorem Ck.okR {R:Ap} (hR:R.Ok) {p0:List Aa} {r:Int} (h:R.Ck p0=some r):Rb V P 90 [.cv (.ro .Ae p0),.cv (.fn (.func 57) [] [.pcs [.fn (.func 92) [] []] 0])] (.I r):=(hR.Ck h).pcall (by kernel_rfl)
theorem Cq.okR {R:Ap} (hR:R.Ok) {p0:List Aa} {r:Bool} (h:R.Cq p0=some r):Rb V P 56 [.cv (.ro .Ae p0),.cv (.fn (.func 57) [] [.pcs [.fn (.func 92) [] []] 0])] (.B r):=(hR.Cq h).pcall (by kernel_rfl)
theorem Dx.okR {R:Ap} (hR:R.Ok) {p0:List Aa} {r:Bool} (h:R.Dx p0=some r):Rb V P 30 [.cv (.ro .Ae p0),.cv (.fn (.func 92) [] [])] (.B r):=(hR.Dx h).pcall (by kernel_rfl)
theorem Cm.okR {R:Ap} (hR:R.Ok) {p0:Aa} {r:Bool} (h:R.Cm p0=some r):Rb V P 60 [.agg (Aj p0)] (.B r):=(hR.Cm h).pcall (by kernel_rfl)
def En.F (K:Nat) (R:Ap) (p0:List Aa):Option Bool:=(if (p0.length:Int) < 2 then some false else (if (p0.length:Int) > 3 then some false else (if (0:Int) <(p0.length:Int) then (Option.bind (Bk K (p0.getD (Int.toNat 0) B3)) (fun a1=>(if a1=true then (if (1:Int) <(p0.length:Int) then (Option.bind (R.Cm (p0.getD (Int.toNat 1) B3)) (fun a2=>(if a2=true then (if (p0.length:Int)=2 then some true else (if (2:Int) <(p0.length:Int) then (Option.bind (R.Cm (p0.getD (Int.toNat 2) B3)) (fun a3=>(if a3=true then some true else (if (p0.getD (Int.toNat 2) B3).Op=42 then (Option.bind (R.C9 (p0.getD (Int.toNat 2) B3)) (fun a4=>some a4)) else some false)))) else none)) else some false))) else none) else some false))) else none)))
theorem En.body {Γ:Rm} {K:Nat} {R:Ap} (hR:R.Ok) {p0:List Aa} {r:Bool} (h:En.F K R p0=some r):Ri V P 47 100 Γ (Tryz.f120.body.getD .skip) (Q7 P V Tryz.f120 (.B r) []) ⟨Q6 0 [.cv (.ro .Ae p0)],[]⟩:=by
 unfold En.F at h
 refine Q4 L 200 <| Qv <| Qv ?_
 rcases Qw h with ⟨c1,h⟩ |⟨c1,h⟩
 ·refine rg L 202 [(3,true)] [] [] (Q3 (decide_eq_true c1)) ?_
  refine tt (b:=true) (rfl) ?_
  refine Q4 L 225 <| Qx ?_
  cases h
  exact Rd
 rcases Qw h with ⟨c2,h⟩ |⟨c2,h⟩
 ·refine rg L 202 [(3,false),(8,true)] [] [] (Sj (decide_eq_false c1) (decide_eq_true c2)) ?_
  refine tt (b:=true) (rfl) ?_
  refine Q4 L 225 <| Qx ?_
  cases h
  exact Rd
 obtain ⟨g1,h⟩:=Q1 h
 obtain ⟨a1,h1,h⟩:=bind_some h
 rcases Qw h with ⟨c3,h⟩ |⟨c3,h⟩
 ·obtain ⟨g2,h⟩:=Q1 h
  obtain ⟨a2,h2,h⟩:=bind_some h
  refine rg L 202 [(3,false),(8,false),(15,false)] [(12,.B a1),(19,.B a2)] [] (Qz (decide_eq_false c1) (Qz (decide_eq_false c2) (Qz (show (0:Int)≤0 from by decide) (Qz g1 (Qz (Bk.ok h1) (Qz trivial (Qz (show (!a1)=false from congrArg Bool.not (c3)) (Qz (show (0:Int)≤1 from by decide) (Qz g2 (Qz (Cm.okR hR h2) (Q3 trivial))))))))))) ?_
  rcases Qw h with ⟨c4,h⟩ |⟨c4,h⟩
  ·refine ff (b:=(!a2)) (congrArg Bool.not (c4)) ?_
   refine Q0 <| Qv ?_
   rcases Qw h with ⟨c5,h⟩ |⟨c5,h⟩
   ·refine rg L 227 [(3,true)] [] [] (Q3 (decide_eq_true c5)) ?_
    refine Qx ?_
    cases h
    exact Rd
   obtain ⟨g3,h⟩:=Q1 h
   obtain ⟨a3,h3,h⟩:=bind_some h
   rcases Qw h with ⟨c6,h⟩ |⟨c6,h⟩
   ·refine rg L 227 [(3,false),(9,true)] [(7,.B a3)] [] (Qz (decide_eq_false c5) (Qz (show (0:Int)≤2 from by decide) (Qz g3 (Qz (Cm.okR hR h3) (Qz trivial (Q3 c6)))))) ?_
    refine Qx ?_
    cases h
    exact Rd
   rcases Qw h with ⟨c7,h⟩ |⟨c7,h⟩
   ·obtain ⟨a4,h4,h⟩:=bind_some h
    refine rg L 227 [(3,false),(9,false),(15,true)] [(7,.B a3),(19,.B a4)] [] (Qz (decide_eq_false c5) (Qz (show (0:Int)≤2 from by decide) (Qz g3 (Qz (Cm.okR hR h3) (Qz trivial (Qz (eq_false_of_ne_true c6) (Qz (show (0:Int)≤2 from by decide) (Qz g3 (Qz (decide_eq_true c7) (Qz (show (0:Int)≤2 from by decide) (Qz g3 (Qz (C9.okR hR h4) (Q3 trivial))))))))))))) ?_
    refine Qx ?_
    cases h
    exact Rd
   refine rg L 227 [(3,false),(9,false),(15,false)] [(7,.B a3)] [] (Qz (decide_eq_false c5) (Qz (show (0:Int)≤2 from by decide) (Qz g3 (Qz (Cm.okR hR h3) (Qz trivial (Qz (eq_false_of_ne_true c6) (Qz (show (0:Int)≤2 from by decide) (Qz g3 (Q3 (decide_eq_false c7)))))))))) ?_
   refine Qx ?_
   cases h
   exact Rd
  refine tt (b:=(!a2)) (congrArg Bool.not (eq_false_of_ne_true c4)) ?_
  refine Q4 L 225 <| Qx ?_
  cases h
  exact Rd
 refine rg L 202 [(3,false),(8,false),(15,true)] [(12,.B a1)] [] (Qz (decide_eq_false c1) (Qz (decide_eq_false c2) (Qz (show (0:Int)≤0 from by decide) (Qz g1 (Qz (Bk.ok h1) (Qz trivial (Q3 (show (!a1)=true from congrArg Bool.not (eq_false_of_ne_true c3))))))))) ?_
 refine tt (b:=true) (rfl) ?_
 refine Q4 L 225 <| Qx ?_
 cases h
 exact Rd
def Dk.F (K:Nat) (R:Ap) (p0:Aa):Option Bool:=(Option.bind (R.Cm p0) (fun a1=>some (!a1)))
theorem Dk.body {Γ:Rm} {K:Nat} {R:Ap} (hR:R.Ok) {p0:Aa} {r:Bool} (h:Dk.F K R p0=some r):Ri V P 8 100 Γ (Tryz.f57.body.getD .skip) (Q7 P V Tryz.f57 (.B r) []) ⟨Q6 0 [.agg (Aj p0),.cv (.pcs [.fn (.func 60) [] []] 0)],[]⟩:=by
 unfold Dk.F at h
 refine Q4 L 200 <| Qv ?_
 obtain ⟨a1,h1,h⟩:=bind_some h
 refine rg L 203 [] [(2,.B a1)] [] (R6 (Cm.okR hR h1)) ?_
 refine Qx ?_
 cases h
 exact Rd
def Ci.l7 (K:Nat) (R:Ap) (p0:List Aa):Nat→Int→Option (Q9 Int Unit)
 | 0,_=>none
 | k+1,xt8_7h=>(if xt8_7h <(p0.length:Int) then (if (0:Int)≤xt8_7h∧(xt8_7h:Int) <(p0.length:Int) then (Option.bind (R.Dk (p0.getD (Int.toNat xt8_7h) B3)) (fun a1=>(if a1=true then some (Q9.done xt8_7h) else Ci.l7 K R p0 k (IntKind.i64.wrap (xt8_7h+1))))) else none) else some (Q9.go ()))
def Ci.F (K:Nat) (R:Ap) (p0:List Aa):Option Int:=(obind (Ci.l7 K R p0 K 0:Option (Q9 Int Unit)) (fun r=>r) (fun _=>some (-1)))
theorem Ci.body {Γ:Rm} {K:Nat} {R:Ap} (hR:R.Ok) {p0:List Aa} {r:Int} (h:Ci.F K R p0=some r):Ri V P 19 100 Γ (Tryz.f90.body.getD .skip) (Q7 P V Tryz.f90 (.I r) []) ⟨Q6 0 [.cv (.ro .Ae p0),.cv (.fn (.func 57) [] [.pcs [.fn (.func 60) [] []] 0])],[]⟩:=by
 unfold Ci.F at h
 refine Q4 L 200 <| Qv <| Q4 L 202 <| Q2 <| kp (S':=⟨[(0,.cv (.ro .Ae p0)),(1,.cv (.fn (.func 57) [] [.pcs [.fn (.func 60) [] []] 0])),(7,.I (p0.length:Int)),(8,.I 0)],[]⟩) ?_
 obtain ⟨o1,hp1,h⟩:=Rf h
 refine Ra (Q':=fun e S=>(e=.exit 0∧S=⟨[],[]⟩∧Q9.go ()=o1)∨(e=.ret∧∃ a,Q9.done a=o1∧Q7 P V Tryz.f90 (.I a) [] .ret S)) (Rh (fun k S=>∃ xt8_7h:Int,S=⟨[(0,.cv (.ro .Ae p0)),(1,.cv (.fn (.func 57) [] [.pcs [.fn (.func 60) [] []] 0])),(7,.I (p0.length:Int)),(8,.I xt8_7h)],[]⟩∧Ci.l7 K R p0 k xt8_7h=some o1) ?_ ⟨_,rfl,hp1⟩) ?_
 ·clear h hp1
  intro k S hS
  obtain ⟨xt8_7h,rfl,h⟩:=hS
  cases k with
  | zero=>cases h
  | succ k =>
  unfold Ci.l7 at h
  refine Q4 L 206 <| Qv ?_
  rcases Qw h with ⟨c1,h⟩ |⟨c1,h⟩
  ·refine tT c1 <| Q0 <| Qv <| Q2 <| Q4 L 208 <| Qv ?_
   obtain ⟨g1,h⟩:=Q1 h
   obtain ⟨a1,h1,h⟩:=bind_some h
   refine rg L 211 [] [(5,.B a1)] [] (Qz g1.1 (Qz g1.2 (Qz (Dk.okR hR h1) (Q3 trivial)))) ?_
   rcases Qw h with ⟨c2,h⟩ |⟨c2,h⟩
   ·refine tt c2 <| Q4 L 218 <| Qx ?_
    cases h
    exact .inr ⟨rfl,_,rfl,Rd⟩
   refine fN c2 <| Q0 <| Tv L 221 [] [] [] (S':=⟨[(0,.cv (.ro .Ae p0)),(1,.cv (.fn (.func 57) [] [.pcs [.fn (.func 60) [] []] 0])),(7,.I (p0.length:Int)),(8,.I (IntKind.i64.wrap (xt8_7h+1)))],[]⟩) ?_
   exact ⟨k,Nat.lt_succ_self k,_,rfl,h⟩
  refine fF c1 <| ex (S':=⟨[],[]⟩) ?_
  cases h
  exact .inl ⟨rfl,rfl,rfl⟩
 ·rintro e S (⟨rfl,rfl,rfl⟩ |⟨rfl,a,rfl,hr⟩)
  ·rcases h with ⟨_,e1,h⟩ |⟨_,e1,h⟩
   ·cases e1
   ·have e2:=Q9.go.inj e1
    subst e2
    refine ⟨_,Qu.refl,?_⟩
    refine Q4 L 224 <| Qx ?_
    cases h
    exact Rd
  ·rcases h with ⟨_,e1,h⟩ |⟨_,e1,h⟩
   ·have e2:=Q9.done.inj e1
    subst e2
    subst h
    exact ⟨_,Qu.refl,hr⟩
   ·cases e1
def Cn.F (K:Nat) (R:Ap) (p0:List Aa):Option Bool:=(Option.bind (R.Ci p0) (fun a1=>some (decide (a1≥0))))
theorem Cn.body {Γ:Rm} {K:Nat} {R:Ap} (hR:R.Ok) {p0:List Aa} {r:Bool} (h:Cn.F K R p0=some r):Ri V P 9 100 Γ (Tryz.f56.body.getD .skip) (Q7 P V Tryz.f56 (.B r) []) ⟨Q6 0 [.cv (.ro .Ae p0),.cv (.fn (.func 57) [] [.pcs [.fn (.func 60) [] []] 0])],[]⟩:=by
 unfold Cn.F at h
 refine Q4 L 200 <| Qv ?_
 obtain ⟨a1,h1,h⟩:=bind_some h
 refine rg L 202 [] [(2,.I a1)] [] (R6 (Ci.okR hR h1)) ?_
 refine Qx ?_
 cases h
 exact Rd
def Do.F (K:Nat) (R:Ap) (p0:List Aa):Option Bool:=(Option.bind (R.Cn p0) (fun a1=>some (!a1)))
theorem Do.body {Γ:Rm} {K:Nat} {R:Ap} (hR:R.Ok) {p0:List Aa} {r:Bool} (h:Do.F K R p0=some r):Ri V P 9 100 Γ (Tryz.f30.body.getD .skip) (Q7 P V Tryz.f30 (.B r) []) ⟨Q6 0 [.cv (.ro .Ae p0),.cv (.fn (.func 60) [] [])],[]⟩:=by
 unfold Do.F at h
 refine Q4 L 200 <| Qv ?_
 obtain ⟨a1,h1,h⟩:=bind_some h
 refine rg L 203 [] [(2,.B a1)] [] (R6 (Cn.okR hR h1)) ?_
 refine Qx ?_
 cases h
 exact Rd
end Go.Proofs.YtifjagfmfkemmaaGreatDoor
