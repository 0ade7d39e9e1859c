import Derived.Test.YtifjagfmfkemmaaGreatDoorFn1
set_option linter.unusedVariables false
set_option maxHeartbeats 0
namespace Go.Proofs.YtifjagfmfkemmaaGreatDoor
open Eng
def B5 (K:Nat) (p0:Ab):Option (Int ⊕ (Aa×Ab)):=(Option.bind (As K p0) (fun a1=>match a1 with |(Sum.inl a1)=>some (Sum.inl a1) |(Sum.inr (a,b))=>(Option.bind (Ao K ([59]:List UInt8) b) (fun a2=>match a2 with |(Sum.inl a2)=>some (Sum.inr (a,a2)) |(Sum.inr a2)=>some (Sum.inl a2)))))
def B5.rep (p0:Ab):Int ⊕ (Aa×Ab)→Qo T
 |(Sum.inl v0)=>.pan (P8 49 v0)
 |(Sum.inr (v0,v1))=>.ret (.agg [.I v0.Op,.str v0.Name,.I v0.Int,.str v0.Text,.ro .Af v0.Kids])
def B5.post (p0:Ab):Int ⊕ (Aa×Ab)→List (Nat×P0 T)
 |(Sum.inl v0)=>[]
 |(Sum.inr (v0,v1))=>[(0,.raw [.ro .Am v1.l,.I v1.i])]
theorem B5.body {Γ:P4} {K:Nat} {p0:Ab} {r:Int ⊕ (Aa×Ab)} (h:B5 K p0=some r):P1 V P 9 100 Γ (Tryz.f104.body.getD .skip) (P9 P V Tryz.f104 (B5.rep p0 r) (B5.post p0 r)) ⟨Pn 0 [.P 0],[(0,.raw (Ae p0))]⟩:=by
 unfold B5 at h;refine Pl L 200 <| Pb ?_;obtain ⟨a1,h1,h⟩:=bind_some h;rcases a1 with a1 | a1
 ·dsimp only at h;refine qn L 202 [] [] [] 1 (Pv (.tup []) []) (P8 49 a1) (Pk (As.okE h1)) ?_;cases h;exact rfl
 ·obtain ⟨a,b⟩:=a1;dsimp only at h;refine rg L 202 [] [] [(1,(Pv (.agg (Ah a)) [(0,.raw (Ae b))]))] (Pk (As.okE h1)) ?_;refine Pb ?_;obtain ⟨a2,h2,h⟩:=bind_some h;rcases a2 with a2 | a2
  ·dsimp only at h;refine rg L 207 [] [] [(1,(Pv (.tup []) [(0,.raw (Ae a2))]))] (Pk (Ao.okE h2)) ?_;refine Pl L 210 <| Pe (Pa.trans (Pa.kk [2] [0,200]) (Pa.rr [(0,0),(200,100)])) ?_;refine Pd ?_;cases h;exact Ra
  ·obtain ⟨a2,rfl⟩:∃ z,z=a2:=⟨_,rfl⟩
   dsimp only at h;refine qn L 207 [] [] [] 1 (Pv (.tup []) []) (P8 49 a2) (Pk (Ao.okE h2)) ?_;cases h;exact rfl
theorem B5.okE {K:Nat} {p0:Ab} {r:Int ⊕ (Aa×Ab)} (h:B5 K p0=some r):P7 V P 104 [.P 0] [(0,.raw (Ae p0))] [0] (B5.post p0 r) (B5.rep p0 r) :=
 xo (fn:=Tryz.f104) (n:=9) (m:=100) fun Γ=>B5.body h
def C0 (K:Nat) (p0:Ab):Option (Int ⊕ (Aa×Ab)):=(if (0:Int)≤(if (IntKind.i64.wrap ((p0.l.length:Int) - 1)) <(IntKind.i64.wrap (p0.i+1)) then (IntKind.i64.wrap ((p0.l.length:Int) - 1)) else (IntKind.i64.wrap (p0.i+1)))∧((if (IntKind.i64.wrap ((p0.l.length:Int) - 1)) <(IntKind.i64.wrap (p0.i+1)) then (IntKind.i64.wrap ((p0.l.length:Int) - 1)) else (IntKind.i64.wrap (p0.i+1))):Int) <(p0.l.length:Int) then (Option.bind (((Option.bind (Bq K p0) (fun a1=>(if a1.Kind=1 then (if ((p0.l.getD (Int.toNat (if (IntKind.i64.wrap ((p0.l.length:Int) - 1)) <(IntKind.i64.wrap (p0.i+1)) then (IntKind.i64.wrap ((p0.l.length:Int) - 1)) else (IntKind.i64.wrap (p0.i+1)))) Du)).Kind=5 then some ((decide (((p0.l.getD (Int.toNat (if (IntKind.i64.wrap ((p0.l.length:Int) - 1)) <(IntKind.i64.wrap (p0.i+1)) then (IntKind.i64.wrap ((p0.l.length:Int) - 1)) else (IntKind.i64.wrap (p0.i+1)))) Du)).Text=([61]:List UInt8)))) else some false) else some false)))):Option Bool) (fun c=>(if c=true then (Option.bind (Au K p0) (fun a2=>match a2 with |(Sum.inl a2)=>some (Sum.inl a2) |(Sum.inr (e,d))=>(Option.bind (B5 K (⟨d.l,(IntKind.i64.wrap (d.i+1))⟩:Ab)) (fun a3=>match a3 with |(Sum.inl a3)=>some (Sum.inl a3) |(Sum.inr (a,f))=>some (Sum.inr ((⟨41,e,0,[],([(⟨a.Op,a.Name,a.Int,a.Text,a.Kids⟩:Aa)]:List Aa)⟩:Aa),f)))))) else (Option.bind (B5 K p0) (fun a4=>match a4 with |(Sum.inl a4)=>some (Sum.inl a4) |(Sum.inr (b,g))=>(Option.bind (Co K 52 ([(⟨b.Op,b.Name,b.Int,b.Text,b.Kids⟩:Aa)]:List Aa)) (fun a5=>some (Sum.inr (a5,g))))))))) else none)
def C0.rep (p0:Ab):Int ⊕ (Aa×Ab)→Qo T
 |(Sum.inl v0)=>.pan (P8 49 v0)
 |(Sum.inr (v0,v1))=>.ret (.agg [.I v0.Op,.str v0.Name,.I v0.Int,.str v0.Text,.ro .Af v0.Kids])
def C0.post (p0:Ab):Int ⊕ (Aa×Ab)→List (Nat×P0 T)
 |(Sum.inl v0)=>[]
 |(Sum.inr (v0,v1))=>[(0,.raw [.ro .Am v1.l,.I v1.i])]
theorem C0.body {Γ:P4} {K:Nat} {p0:Ab} {r:Int ⊕ (Aa×Ab)} (h:C0 K p0=some r):P1 V P 55 100 Γ (Tryz.f108.body.getD .skip) (P9 P V Tryz.f108 (C0.rep p0 r) (C0.post p0 r)) ⟨Pn 0 [.P 0],[(0,.raw (Ae p0))]⟩:=by
 unfold C0 at h;refine Pl L 200 <| Pb <| Pb ?_;obtain ⟨g1,h⟩:=Ph h;refine rd L mixed 202 [] [] [] [220] 20 (Q2 g1.1 g1.2) ?_;obtain ⟨o1,hp1,h⟩:=bind_some h;refine Pb (P3 (Q':=fun e S=>(e=.normal∧∃ a:Bool,S=⟨[(0,.P 0),(2,.P 21200),(36,.B a)],[(0,.raw (Ae p0)),(21200,.raw [.I 0,.str [],.I 0,.str [],.N])]⟩∧a=o1)) ?_ ?_)
 ·clear h;replace h:=hp1;obtain ⟨a1,h1,h⟩:=bind_some h;rcases Pc h with ⟨c1,h⟩ |⟨c1,h⟩
  ·rcases Pc h with ⟨c2,h⟩ |⟨c2,h⟩
   ·refine Pp (rg L 223 [(4,true),(9,true)] [(1,.agg (D3 a1))] [] (Pf (Bq.ok h1) (Pf trivial (Pf (decide_eq_true c1) (Pk (decide_eq_true c2))))) ⟨rfl,rfl⟩) (Pa.trans (Pa.kk [0,2,36] [0,200]) (Pa.trans (Pa.rr [(0,0),(200,21200)]) (Pa.kp (S':=⟨[(0,.P 0),(2,.P 21200),(36,.B ((decide (((p0.l.getD (Int.toNat (if (IntKind.i64.wrap ((p0.l.length:Int) - 1)) <(IntKind.i64.wrap (p0.i+1)) then (IntKind.i64.wrap ((p0.l.length:Int) - 1)) else (IntKind.i64.wrap (p0.i+1)))) Du)).Text=([61]:List UInt8)))))],[(0,.raw (Ae p0)),(21200,.raw [.I 0,.str [],.I 0,.str [],.N])]⟩)))) ?_;cases h;exact ⟨rfl,_,rfl,rfl⟩
   refine Pp (rg L 223 [(4,true),(9,false)] [(1,.agg (D3 a1))] [] (Pf (Bq.ok h1) (Pf trivial (Pf (decide_eq_true c1) (Pk (decide_eq_false c2))))) ⟨rfl,rfl⟩) (Pa.trans (Pa.kk [0,2,36] [0,200]) (Pa.trans (Pa.rr [(0,0),(200,21200)]) (Pa.kp (S':=⟨[(0,.P 0),(2,.P 21200),(36,.B false)],[(0,.raw (Ae p0)),(21200,.raw [.I 0,.str [],.I 0,.str [],.N])]⟩)))) ?_;cases h;exact ⟨rfl,_,rfl,rfl⟩
  refine Pp (rg L 223 [(4,false)] [(1,.agg (D3 a1))] [] (Pf (Bq.ok h1) (Pf trivial (Pk (decide_eq_false c1)))) ⟨rfl,rfl⟩) (Pa.trans (Pa.kk [0,2,36] [0,200]) (Pa.trans (Pa.rr [(0,0),(200,21200)]) (Pa.kp (S':=⟨[(0,.P 0),(2,.P 21200),(36,.B false)],[(0,.raw (Ae p0)),(21200,.raw [.I 0,.str [],.I 0,.str [],.N])]⟩)))) ?_;cases h;exact ⟨rfl,_,rfl,rfl⟩
 ·rintro e S ⟨rfl,a,rfl,rfl⟩;rcases Pc h with ⟨c3,h⟩ |⟨c3,h⟩
  ·refine tt c3 <| Pb ?_;obtain ⟨a2,h2,h⟩:=bind_some h;rcases a2 with a2 | a2
   ·dsimp only at h;refine qn L 238 [] [] [] 1 (Pv (.tup []) []) (P8 49 a2) (Pk (Au.okE h2)) ?_;cases h;exact rfl
   ·obtain ⟨b,c⟩:=a2;dsimp only at h;refine rg L 238 [] [] [(1,(Pv (.cv (.str b)) [(0,.raw (Ae c))]))] (Pk (Au.okE h2)) ?_;refine Pl L 242 <| Pb ?_;obtain ⟨a3,h3,h⟩:=bind_some h;rcases a3 with a3 | a3
    ·dsimp only at h;refine qn L 251 [] [] [] 2 (Pv (.tup []) []) (P8 49 a3) (Pk (B5.okE h3)) ?_;cases h;exact rfl
    ·obtain ⟨d,f⟩:=a3;dsimp only at h;refine rg L 251 [] [] [(2,(Pv (.agg (Ah d)) [(0,.raw (Ae f))]))] (Pk (B5.okE h3)) ?_;refine Pe (Pa.trans (Pa.kk [2] [0,21200]) (Pa.rr [(0,0),(21200,100)])) ?_;refine Pd ?_;cases h;exact Ra
  refine fN c3 <| Pg <| Pb ?_;obtain ⟨a4,h4,h⟩:=bind_some h;rcases a4 with a4 | a4
  ·dsimp only at h;refine qn L 258 [] [] [] 1 (Pv (.tup []) []) (P8 49 a4) (Pk (B5.okE h4)) ?_;cases h;exact rfl
  ·obtain ⟨g,j⟩:=a4;dsimp only at h;obtain ⟨a5,h5,h⟩:=bind_some h;refine rg L 258 [] [(3,.agg (Ah a5))] [(1,(Pv (.agg (Ah g)) [(0,.raw (Ae j))]))] (Pf (B5.okE h4) (Pf (Co.ok h5) (Pk trivial))) ?_;refine Pe (Pa.trans (Pa.kk [2] [0,21200]) (Pa.rr [(0,0),(21200,100)])) ?_;refine Pd ?_;cases h;exact Ra
theorem C0.okE {K:Nat} {p0:Ab} {r:Int ⊕ (Aa×Ab)} (h:C0 K p0=some r):P7 V P 108 [.P 0] [(0,.raw (Ae p0))] [0] (C0.post p0 r) (C0.rep p0 r) :=
 xo (fn:=Tryz.f108) (n:=55) (m:=100) fun Γ=>C0.body h
def Fe (K:Nat) (p0:Int) (p1:List Aa):Option (List Aa):=some p1
theorem Fe.body {Γ:P4} {K:Nat} {p0:Int} {p1:List Aa} {r:List Aa} (h:Fe K p0 p1=some r):P1 V P 8 100 Γ (Tryz.f75.body.getD .skip) (Po P V Tryz.f75 (.agg [.I p0,.str [],.I 0,.str [],.own .Af 0]) [(0,.lst .Af r)]) ⟨Pn 0 [.I p0,.cv (.own .Af 0)],[(0,.lst .Af p1)]⟩:=by
 unfold Fe at h;refine Pl L 200 <| Pl L 202 <| Pe (Pa.trans (Pa.kk [4] [0,200]) (Pa.rr [(0,0),(200,100)])) ?_;refine Pd ?_;cases h;exact Pt
theorem Fe.okE {K:Nat} {p0:Int} {p1:List Aa} {r:List Aa} (h:Fe K p0 p1=some r):Pm V P 75 [.I p0,.cv (.own .Af 0)] [(0,.lst .Af p1)] [0] (.agg [.I p0,.str [],.I 0,.str [],.own .Af 0]) [(0,.lst .Af r)] :=
 eo (fn:=Tryz.f75) (n:=8) (m:=100) fun Γ=>Fe.body h
def A8.rep (p0:Ab):Int ⊕ (Aa×Ab)→Qo T
 |(Sum.inl v0)=>.pan (P8 49 v0)
 |(Sum.inr (v0,v1))=>.ret (.agg [.I v0.Op,.str v0.Name,.I v0.Int,.str v0.Text,.ro .Af v0.Kids])
def A8.post (p0:Ab):Int ⊕ (Aa×Ab)→List (Nat×P0 T)
 |(Sum.inl v0)=>[]
 |(Sum.inr (v0,v1))=>[(0,.raw [.ro .Am v1.l,.I v1.i])]
def Bb.rep (p0:Ab):Int ⊕ (Aa×Ab)→Qo T
 |(Sum.inl v0)=>.pan (P8 49 v0)
 |(Sum.inr (v0,v1))=>.ret (.agg [.I v0.Op,.str v0.Name,.I v0.Int,.str v0.Text,.ro .Af v0.Kids])
def Bb.post (p0:Ab):Int ⊕ (Aa×Ab)→List (Nat×P0 T)
 |(Sum.inl v0)=>[]
 |(Sum.inr (v0,v1))=>[(0,.raw [.ro .Am v1.l,.I v1.i])]
def Bt.rep (p0:Ab):Int ⊕ (Aa×Ab)→Qo T
 |(Sum.inl v0)=>.pan (P8 49 v0)
 |(Sum.inr (v0,v1))=>.ret (.agg [.I v0.Op,.str v0.Name,.I v0.Int,.str v0.Text,.ro .Af v0.Kids])
def Bt.post (p0:Ab):Int ⊕ (Aa×Ab)→List (Nat×P0 T)
 |(Sum.inl v0)=>[]
 |(Sum.inr (v0,v1))=>[(0,.raw [.ro .Am v1.l,.I v1.i])]
def Aq.rep (p0:Ab):Int ⊕ (Aa×Ab)→Qo T
 |(Sum.inl v0)=>.pan (P8 49 v0)
 |(Sum.inr (v0,v1))=>.ret (.agg [.I v0.Op,.str v0.Name,.I v0.Int,.str v0.Text,.ro .Af v0.Kids])
def Aq.post (p0:Ab):Int ⊕ (Aa×Ab)→List (Nat×P0 T)
 |(Sum.inl v0)=>[]
 |(Sum.inr (v0,v1))=>[(0,.raw [.ro .Am v1.l,.I v1.i])]
structure Be where
 A8:Ab→Option (Int ⊕ (Aa×Ab))
 Bb:Ab→Option (Int ⊕ (Aa×Ab))
 Bt:Ab→Option (Int ⊕ (Aa×Ab))
 Aq:Ab→Option (Int ⊕ (Aa×Ab))
structure Be.Ok (R:Be):Prop where
 A8:∀ {p0:Ab} {r:Int ⊕ (Aa×Ab)},R.A8 p0=some r→P7 V P 105 [.P 0] [(0,.raw (Ae p0))] [0] (A8.post p0 r) (A8.rep p0 r)
 Bb:∀ {p0:Ab} {r:Int ⊕ (Aa×Ab)},R.Bb p0=some r→P7 V P 107 [.P 0] [(0,.raw (Ae p0))] [0] (Bb.post p0 r) (Bb.rep p0 r)
 Bt:∀ {p0:Ab} {r:Int ⊕ (Aa×Ab)},R.Bt p0=some r→P7 V P 77 [.P 0] [(0,.raw (Ae p0))] [0] (Bt.post p0 r) (Bt.rep p0 r)
 Aq:∀ {p0:Ab} {r:Int ⊕ (Aa×Ab)},R.Aq p0=some r→P7 V P 50 [.P 0] [(0,.raw (Ae p0))] [0] (Aq.post p0 r) (Aq.rep p0 r)
def A8.F (K:Nat) (R:Be) (p0:Ab):Option (Int ⊕ (Aa×Ab)):=(Option.bind (As K p0) (fun a1=>match a1 with |(Sum.inl a1)=>some (Sum.inl a1) |(Sum.inr (c,g))=>(Option.bind (R.Aq g) (fun a2=>match a2 with |(Sum.inl a2)=>some (Sum.inl a2) |(Sum.inr (d,h))=>(Option.bind (Fe K 42 ([(⟨c.Op,c.Name,c.Int,c.Text,c.Kids⟩:Aa),(⟨d.Op,d.Name,d.Int,d.Text,d.Kids⟩:Aa)]:List Aa)) (fun a3=>(Option.bind (Ak K ([101,108,115,101]:List UInt8) h) (fun (i,e)=>(if i=true then (Option.bind (Ak K ([105,102]:List UInt8) e) (fun (j,f)=>(if j=true then (Option.bind (R.A8 f) (fun a6=>match a6 with |(Sum.inl a6)=>some (Sum.inl a6) |(Sum.inr (a,k))=>(if (a3.length+([(⟨a.Op,a.Name,a.Int,a.Text,a.Kids⟩:Aa)]:List Aa).length) * 72≤140737488355328 then some ((Sum.inr ((⟨42,[],0,[],(a3++([(⟨a.Op,a.Name,a.Int,a.Text,a.Kids⟩:Aa)]:List Aa))⟩:Aa),k))) else none))) else (Option.bind (R.Aq f) (fun a7=>match a7 with |(Sum.inl a7)=>some (Sum.inl a7) |(Sum.inr (b,l))=>(if (a3.length+([(⟨b.Op,b.Name,b.Int,b.Text,b.Kids⟩:Aa)]:List Aa).length) * 72≤140737488355328 then some ((Sum.inr ((⟨42,[],0,[],(a3++([(⟨b.Op,b.Name,b.Int,b.Text,b.Kids⟩:Aa)]:List Aa))⟩:Aa),l))) else none)))))) else some (Sum.inr ((⟨42,[],0,[],a3⟩:Aa),e)))))))))))
theorem A8.body {Γ:P4} {K:Nat} {R:Be} (hR:R.Ok) {p0:Ab} {r:Int ⊕ (Aa×Ab)} (h:A8.F K R p0=some r):P1 V P 31 100 Γ (Tryz.f105.body.getD .skip) (P9 P V Tryz.f105 (A8.rep p0 r) (A8.post p0 r)) ⟨Pn 0 [.P 0],[(0,.raw (Ae p0))]⟩:=by
 unfold A8.F at h;refine Pl L 200 <| Pb ?_;obtain ⟨a1,h1,h⟩:=bind_some h;rcases a1 with a1 | a1
 ·dsimp only at h;refine qn L 100202 [] [] [] 1 (Pv (.tup []) []) (P8 49 a1) (Pk (As.okE h1)) ?_;cases h;exact rfl
 ·obtain ⟨e,f⟩:=a1;dsimp only at h;obtain ⟨a2,h2,h⟩:=bind_some h;rcases a2 with a2 | a2
  ·dsimp only at h;refine qn L 100202 [] [] [(1,(Pv (.agg (Ah e)) [(0,.raw (Ae f))]))] 3 (Pv (.tup []) []) (P8 49 a2) (Q2 (As.okE h1) (hR.Aq h2)) ?_;cases h;exact rfl
  ·obtain ⟨j,k⟩:=a2;dsimp only at h;obtain ⟨a3,h3,h⟩:=bind_some h;refine rg L 100202 [] [] [(1,(Pv (.agg (Ah e)) [(0,.raw (Ae f))])),(3,(Pv (.agg (Ah j)) [(0,.raw (Ae k))])),(5,(ef [0] [0] (.agg [.I 42,.str [],.I 0,.str [],.own .Af 0]) [(0,.lst .Af a3)] [(0,100206)]))] (Pf (As.okE h1) (Pf (hR.Aq h2) (Pk (Fe.okE h3)))) ?_;refine Pb <| Pb ?_;obtain ⟨⟨d,l⟩,h4,h⟩:=bind_some h;dsimp only at h;refine rg L 211 [] [] [(1,(Pv (.B d) [(0,.raw (Ae l))]))] (Pk (Ak.okE h4)) ?_;rcases Pc h with ⟨c1,h⟩ |⟨c1,h⟩
   ·refine ff (b:=(!d)) (congrArg Bool.not (c1)) ?_;refine Pg <| Pb <| Pb ?_;obtain ⟨⟨m,n⟩,h5,h⟩:=bind_some h;dsimp only at h;refine rg L 218 [] [] [(1,(Pv (.B m) [(0,.raw (Ae n))]))] (Pk (Ak.okE h5)) ?_;rcases Pc h with ⟨c2,h⟩ |⟨c2,h⟩
    ·refine tt c2 ?_;obtain ⟨a6,h6,h⟩:=bind_some h;rcases a6 with a6 | a6
     ·dsimp only at h;refine qP L mixed 221 [] [] [] [0,2] 3 (Pv (.tup []) []) (P8 49 a6) (Q2 (hR.A8 h6) (hR.A8 h6)) ?_;cases h;exact rfl
     ·obtain ⟨a,g⟩:=a6;dsimp only at h;obtain ⟨g1,h⟩:=Ph h;refine hB L mixed 221 [] [] [(3,(Pv (.agg (Ah a)) [(0,.raw (Ae g))]))] [0,2] 3 (Pf (hR.A8 h6) (Pf g1 (Pf trivial (Pf (hR.A8 h6) (Pf g1 (Pf trivial (Pf g1 (Pk trivial)))))))) (S':=⟨[(2,.P 200),(3,.P 100208)],[(0,.raw (Ae g)),(200,.raw [.I 0,.str [],.I 0,.str [],.N]),(100206,.lst .Af (a3++([(⟨a.Op,a.Name,a.Int,a.Text,a.Kids⟩:Aa)]:List Aa))),(100208,.raw [.I 42,.str [],.I 0,.str [],.own .Af 100206])]⟩) ?_;refine Pl L 239 <| Pe (Pa.trans (Pa.kk [2] [0,200,100206]) (Pa.trans (Pa.fz 100206) (Pa.rr [(0,0),(200,100)]))) ?_;refine Pd ?_;cases h;exact Ra
    refine fN c2 ?_;obtain ⟨a7,h7,h⟩:=bind_some h;rcases a7 with a7 | a7
    ·dsimp only at h;refine qP L mixed 230 [] [] [] [0,2] 3 (Pv (.tup []) []) (P8 49 a7) (Q2 (hR.Aq h7) (hR.Aq h7)) ?_;cases h;exact rfl
    ·obtain ⟨c,i⟩:=a7;dsimp only at h;obtain ⟨g2,h⟩:=Ph h;refine hB L mixed 230 [] [] [(3,(Pv (.agg (Ah c)) [(0,.raw (Ae i))]))] [0,2] 3 (Pf (hR.Aq h7) (Pf g2 (Pf trivial (Pf (hR.Aq h7) (Pf g2 (Pf trivial (Pf g2 (Pk trivial)))))))) (S':=⟨[(2,.P 200),(3,.P 100208)],[(0,.raw (Ae i)),(200,.raw [.I 0,.str [],.I 0,.str [],.N]),(100206,.lst .Af (a3++([(⟨c.Op,c.Name,c.Int,c.Text,c.Kids⟩:Aa)]:List Aa))),(100208,.raw [.I 42,.str [],.I 0,.str [],.own .Af 100206])]⟩) ?_;refine Pl L 239 <| Pe (Pa.trans (Pa.kk [2] [0,200,100206]) (Pa.trans (Pa.fz 100206) (Pa.rr [(0,0),(200,100)]))) ?_;refine Pd ?_;cases h;exact Ra
   refine tt (b:=(!d)) (congrArg Bool.not (eq_false_of_ne_true c1)) ?_;refine Pl L 215 <| Pe (Pa.trans (Pa.kk [2] [0,200,100206]) (Pa.trans (Pa.fz 100206) (Pa.rr [(0,0),(200,100)]))) ?_;refine Pd ?_;cases h;exact Ra
def Bb.l9 (K:Nat) (R:Be):Nat→(List Ap)→Int→(List Aa)→Option (Pq (Int ⊕ (Aa×Ab)) ((List Ap)×Int×(List Aa)))
 | 0,_,_,_=>none
 | k+1,a,b,e=>(Option.bind (Dy K (⟨a,b⟩:Ab) ([99,97,115,101]:List UInt8)) (fun a2=>(if a2=true then (if (e.length:Int)=16 then (Option.bind (Bf K (⟨a,b⟩:Ab)) (fun a3=>some (Pq.done (Sum.inl a3)))) else (obind (((if (0:Int)≤(if (IntKind.i64.wrap ((a.length:Int) - 1)) <(IntKind.i64.wrap ((IntKind.i64.wrap (b+1))+1)) then (IntKind.i64.wrap ((a.length:Int) - 1)) else (IntKind.i64.wrap ((IntKind.i64.wrap (b+1))+1)))∧((if (IntKind.i64.wrap ((a.length:Int) - 1)) <(IntKind.i64.wrap ((IntKind.i64.wrap (b+1))+1)) then (IntKind.i64.wrap ((a.length:Int) - 1)) else (IntKind.i64.wrap ((IntKind.i64.wrap (b+1))+1))):Int) <(a.length:Int) then (Option.bind (((Option.bind (Bq K (⟨a,(IntKind.i64.wrap (b+1))⟩:Ab)) (fun a4=>(if a4.Kind=1 then (if ((a.getD (Int.toNat (if (IntKind.i64.wrap ((a.length:Int) - 1)) <(IntKind.i64.wrap ((IntKind.i64.wrap (b+1))+1)) then (IntKind.i64.wrap ((a.length:Int) - 1)) else (IntKind.i64.wrap ((IntKind.i64.wrap (b+1))+1)))) Du)).Kind=5 then some ((decide (((a.getD (Int.toNat (if (IntKind.i64.wrap ((a.length:Int) - 1)) <(IntKind.i64.wrap ((IntKind.i64.wrap (b+1))+1)) then (IntKind.i64.wrap ((a.length:Int) - 1)) else (IntKind.i64.wrap ((IntKind.i64.wrap (b+1))+1)))) Du)).Text=([61]:List UInt8)))) else some false) else some false)))):Option Bool) (fun j=>(if j=true then (Option.bind (Au K (⟨a,(IntKind.i64.wrap (b+1))⟩:Ab)) (fun a5=>match a5 with |(Sum.inl a5)=>some (Pq.done (Sum.inl a5)) |(Sum.inr (o,m))=>some (Pq.go (m.l,(IntKind.i64.wrap (m.i+1)),o)))) else some (Pq.go (a,(IntKind.i64.wrap (b+1)),[]))))) else none)):Option (Pq (Int ⊕ (Aa×Ab)) ((List Ap)×Int×(List UInt8)))) Pq.done (fun (g,h,f)=>(Option.bind (As K (⟨g,h⟩:Ab)) (fun a6=>match a6 with |(Sum.inl a6)=>some (Pq.done (Sum.inl a6)) |(Sum.inr (c,p))=>(Option.bind (R.Aq p) (fun a7=>match a7 with |(Sum.inl a7)=>some (Pq.done (Sum.inl a7)) |(Sum.inr (d,n))=>(if (e.length+([(⟨50,f,0,[],([(⟨c.Op,c.Name,c.Int,c.Text,c.Kids⟩:Aa),(⟨d.Op,d.Name,d.Int,d.Text,d.Kids⟩:Aa)]:List Aa)⟩:Aa)]:List Aa).length) * 72≤140737488355328 then Bb.l9 K R k n.l n.i (e++([(⟨50,f,0,[],([(⟨c.Op,c.Name,c.Int,c.Text,c.Kids⟩:Aa),(⟨d.Op,d.Name,d.Int,d.Text,d.Kids⟩:Aa)]:List Aa)⟩:Aa)]:List Aa)) else none)))))))) else some (Pq.go (a,b,e)))))
def Bb.F (K:Nat) (R:Be) (p0:Ab):Option (Int ⊕ (Aa×Ab)):=(Option.bind (Ao K ([123]:List UInt8) p0) (fun a1=>match a1 with |(Sum.inl a1)=>(obind (Bb.l9 K R K a1.l a1.i ([]:List Aa):Option (Pq (Int ⊕ (Aa×Ab)) ((List Ap)×Int×(List Aa)))) (fun r=>r) (fun (f,g,c)=>(obind (((Option.bind (Ak K ([101,108,115,101]:List UInt8) (⟨f,g⟩:Ab)) (fun (k,h)=>(if k=true then (Option.bind (R.Aq h) (fun a9=>match a9 with |(Sum.inl a9)=>some (Pq.done (Sum.inl a9)) |(Sum.inr (d,j))=>(Option.bind (Co K 51 ([(⟨d.Op,d.Name,d.Int,d.Text,d.Kids⟩:Aa)]:List Aa)) (fun a10=>(if (c.length+([(⟨a10.Op,a10.Name,a10.Int,a10.Text,a10.Kids⟩:Aa)]:List Aa).length) * 72≤140737488355328 then some (Pq.go (j.l,j.i,(c++([(⟨a10.Op,a10.Name,a10.Int,a10.Text,a10.Kids⟩:Aa)]:List Aa)))) else none))))) else some (Pq.go (h.l,h.i,c)))))):Option (Pq (Int ⊕ (Aa×Ab)) ((List Ap)×Int×(List Aa)))) (fun r=>r) (fun (a,b,e)=>(if (e.length:Int)=0 then (Option.bind (Bf K (⟨a,b⟩:Ab)) (fun a11=>some (Sum.inl a11))) else (Option.bind (Ao K ([125]:List UInt8) (⟨a,b⟩:Ab)) (fun a12=>match a12 with |(Sum.inl a12)=>some (Sum.inr ((⟨49,[],0,[],e⟩:Aa),a12)) |(Sum.inr a12)=>some (Sum.inl a12)))))))) |(Sum.inr a1)=>some (Sum.inl a1)))
theorem Bb.body {Γ:P4} {K:Nat} {R:Be} (hR:R.Ok) {p0:Ab} {r:Int ⊕ (Aa×Ab)} (h:Bb.F K R p0=some r):P1 V P 99 100 Γ (Tryz.f107.body.getD .skip) (P9 P V Tryz.f107 (Bb.rep p0 r) (Bb.post p0 r)) ⟨Pn 0 [.P 0],[(0,.raw (Ae p0))]⟩:=by
 unfold Bb.F at h;refine Pl L 200 <| Pl L 202 <| Pb ?_;obtain ⟨a1,h1,h⟩:=bind_some h;rcases a1 with a1 | a1
 ·dsimp only at h;refine rg L 206 [] [] [(1,(Pv (.tup []) [(0,.raw (Ae a1))]))] (Pk (Ao.okE h1)) ?_;refine Pb <| Pj <| Pe (Pa.trans (Pa.kk [0,2,3] [0,200,203]) (Pa.trans (Pa.nc 203 4 9500 Tag.Af) (Pa.trans (Pa.kk [0,2,3] [0,200,203,9500]) (Pa.rr [(0,0),(200,21900),(203,21901),(9500,21902)])))) ?_;refine kp (S':=⟨[(0,.P 0),(2,.P 21900),(3,.P 21901)],[(0,.raw (Ae a1)),(21900,.raw [.I 0,.str [],.I 0,.str [],.N]),(21901,.raw [.I 49,.str [],.I 0,.str [],.own .Af 21902]),(21902,.lst .Af ([]:List Aa))]⟩) ?_;obtain ⟨o3,hp3,h⟩:=Px h;refine Pu (Q':=fun e S=>(e=.exit 0∧∃ p:List Ap,∃ q:Int,∃ f:List Aa,S=⟨[(0,.P 0),(2,.P 21800),(3,.P 21801)],[(0,.raw [.ro .Am p,.I q]),(21800,.raw [.I 0,.str [],.I 0,.str [],.N]),(21801,.raw [.I 49,.str [],.I 0,.str [],.own .Af 21802]),(21802,.lst .Af f)]⟩∧Pq.go (p,q,f)=o3)∨((e=.ret∨∃ ch,e=.panic ch)∧∃ a,Pq.done a=o3∧P9 P V Tryz.f107 (Bb.rep p0 a) (Bb.post p0 a) e S)) (Pz (fun k S=>∃ b:List Ap,∃ c:Int,∃ d:List Aa,S=⟨[(0,.P 0),(2,.P 21900),(3,.P 21901)],[(0,.raw [.ro .Am b,.I c]),(21900,.raw [.I 0,.str [],.I 0,.str [],.N]),(21901,.raw [.I 49,.str [],.I 0,.str [],.own .Af 21902]),(21902,.lst .Af d)]⟩∧Bb.l9 K R k b c d=some o3) ?_ ⟨_,_,_,rfl,hp3⟩) ?_
  ·clear h hp3;intro k S hS;obtain ⟨b,c,d,rfl,h⟩:=hS;cases k with
   | zero=>cases h
   | succ k =>
   unfold Bb.l9 at h;refine Pb <| Pb ?_;obtain ⟨a2,h2,h⟩:=bind_some h;refine rg L 209 [] [(1,.B a2)] [] (Qu (Dy.ok h2)) ?_;rcases Pc h with ⟨c1,h⟩ |⟨c1,h⟩
   ·refine tt c1 <| Pg <| Pj <| Pb <| Pl L 212 ?_;rcases Pc h with ⟨c2,h⟩ |⟨c2,h⟩
    ·refine tT c2 ?_;obtain ⟨a3,h3,h⟩:=bind_some h;refine qn L 217 [] [] [] 1 (Pv (.tup []) []) (P8 49 a3) (Pk (Bf.okE h3)) ?_;cases h;exact .inr ⟨.inr ⟨_,rfl⟩,_,rfl,rfl⟩
    refine fF c2 <| Pg <| Pl L 220 <| Pl L 229 ?_;obtain ⟨o2,hp2,h⟩:=Px h;refine Pb (P3 (Q':=fun e S=>(e=.normal∧∃ j:List Ap,∃ m:Int,∃ g:List UInt8,S=⟨[(0,.P 0),(2,.P 25400),(3,.P 25401),(4,.P 25402)],[(0,.raw [.ro .Am j,.I m]),(25400,.raw [.I 0,.str [],.I 0,.str [],.N]),(25401,.raw [.I 49,.str [],.I 0,.str [],.own .Af 25403]),(25402,.raw [.I 50,.str g,.I 0,.str [],.N]),(25403,.lst .Af d)]⟩∧Pq.go (j,m,g)=o2)∨((e=.ret∨∃ ch,e=.panic ch)∧∃ a,Pq.done a=o2∧P9 P V Tryz.f107 (Bb.rep p0 a) (Bb.post p0 a) e S)) ?_ ?_)
    ·clear h;replace h:=hp2;refine Pb ?_;obtain ⟨g1,h⟩:=Ph h;refine rd L mixed 233 [] [] [] [251] 20 (Q2 g1.1 g1.2) ?_;obtain ⟨o1,hp1,h⟩:=bind_some h;refine Pb (P3 (Q':=fun e S=>(e=.normal∧∃ s:Bool,S=⟨[(0,.P 0),(2,.P 26000),(3,.P 26001),(4,.P 26002),(56,.B s)],[(0,.raw [.ro .Am b,.I (IntKind.i64.wrap (c+1))]),(26000,.raw [.I 0,.str [],.I 0,.str [],.N]),(26001,.raw [.I 49,.str [],.I 0,.str [],.own .Af 26003]),(26002,.raw [.I 50,.str [],.I 0,.str [],.N]),(26003,.lst .Af d)]⟩∧s=o1)) ?_ ?_)
     ·clear h;replace h:=hp1;obtain ⟨a4,h4,h⟩:=bind_some h;rcases Pc h with ⟨c3,h⟩ |⟨c3,h⟩
      ·rcases Pc h with ⟨c4,h⟩ |⟨c4,h⟩
       ·refine Pp (rg L 254 [(4,true),(9,true)] [(1,.agg (D3 a4))] [] (Pf (Bq.ok h4) (Pf trivial (Pf (decide_eq_true c3) (Pk (decide_eq_true c4))))) ⟨rfl,rfl⟩) (Pa.trans (Pa.kk [0,2,3,4,56] [0,230,21900,21901,21902]) (Pa.trans (Pa.rr [(0,0),(230,26002),(21900,26000),(21901,26001),(21902,26003)]) (Pa.kp (S':=⟨[(0,.P 0),(2,.P 26000),(3,.P 26001),(4,.P 26002),(56,.B ((decide (((b.getD (Int.toNat (if (IntKind.i64.wrap ((b.length:Int) - 1)) <(IntKind.i64.wrap ((IntKind.i64.wrap (c+1))+1)) then (IntKind.i64.wrap ((b.length:Int) - 1)) else (IntKind.i64.wrap ((IntKind.i64.wrap (c+1))+1)))) Du)).Text=([61]:List UInt8)))))],[(0,.raw [.ro .Am b,.I (IntKind.i64.wrap (c+1))]),(26000,.raw [.I 0,.str [],.I 0,.str [],.N]),(26001,.raw [.I 49,.str [],.I 0,.str [],.own .Af 26003]),(26002,.raw [.I 50,.str [],.I 0,.str [],.N]),(26003,.lst .Af d)]⟩)))) ?_;cases h;exact ⟨rfl,_,rfl,rfl⟩
       refine Pp (rg L 254 [(4,true),(9,false)] [(1,.agg (D3 a4))] [] (Pf (Bq.ok h4) (Pf trivial (Pf (decide_eq_true c3) (Pk (decide_eq_false c4))))) ⟨rfl,rfl⟩) (Pa.trans (Pa.kk [0,2,3,4,56] [0,230,21900,21901,21902]) (Pa.trans (Pa.rr [(0,0),(230,26002),(21900,26000),(21901,26001),(21902,26003)]) (Pa.kp (S':=⟨[(0,.P 0),(2,.P 26000),(3,.P 26001),(4,.P 26002),(56,.B false)],[(0,.raw [.ro .Am b,.I (IntKind.i64.wrap (c+1))]),(26000,.raw [.I 0,.str [],.I 0,.str [],.N]),(26001,.raw [.I 49,.str [],.I 0,.str [],.own .Af 26003]),(26002,.raw [.I 50,.str [],.I 0,.str [],.N]),(26003,.lst .Af d)]⟩)))) ?_;cases h;exact ⟨rfl,_,rfl,rfl⟩
      refine Pp (rg L 254 [(4,false)] [(1,.agg (D3 a4))] [] (Pf (Bq.ok h4) (Pf trivial (Pk (decide_eq_false c3)))) ⟨rfl,rfl⟩) (Pa.trans (Pa.kk [0,2,3,4,56] [0,230,21900,21901,21902]) (Pa.trans (Pa.rr [(0,0),(230,26002),(21900,26000),(21901,26001),(21902,26003)]) (Pa.kp (S':=⟨[(0,.P 0),(2,.P 26000),(3,.P 26001),(4,.P 26002),(56,.B false)],[(0,.raw [.ro .Am b,.I (IntKind.i64.wrap (c+1))]),(26000,.raw [.I 0,.str [],.I 0,.str [],.N]),(26001,.raw [.I 49,.str [],.I 0,.str [],.own .Af 26003]),(26002,.raw [.I 50,.str [],.I 0,.str [],.N]),(26003,.lst .Af d)]⟩)))) ?_;cases h;exact ⟨rfl,_,rfl,rfl⟩
     ·rintro e S ⟨rfl,s,rfl,rfl⟩;rcases Pc h with ⟨c5,h⟩ |⟨c5,h⟩
      ·refine tt c5 <| Pb ?_;obtain ⟨a5,h5,h⟩:=bind_some h;rcases a5 with a5 | a5
       ·dsimp only at h;refine qn L 269 [] [] [] 1 (Pv (.tup []) []) (P8 49 a5) (Pk (Au.okE h5)) ?_;cases h;exact .inr ⟨.inr ⟨_,rfl⟩,_,rfl,rfl⟩
       ·obtain ⟨y,w⟩:=a5;dsimp only at h;refine rg L 269 [] [] [(1,(Pv (.cv (.str y)) [(0,.raw (Ae w))]))] (Pk (Au.okE h5)) ?_;refine Pp (Tj L 274 ⟨rfl,rfl⟩) (Pa.trans (Pa.kk [0,2,3,4] [0,26000,26001,26002,26003]) (Pa.trans (Pa.rr [(0,0),(26000,25400),(26001,25401),(26002,25402),(26003,25403)]) (Pa.kp (S':=⟨[(0,.P 0),(2,.P 25400),(3,.P 25401),(4,.P 25402)],[(0,.raw [.ro .Am w.l,.I (IntKind.i64.wrap (w.i+1))]),(25400,.raw [.I 0,.str [],.I 0,.str [],.N]),(25401,.raw [.I 49,.str [],.I 0,.str [],.own .Af 25403]),(25402,.raw [.I 50,.str y,.I 0,.str [],.N]),(25403,.lst .Af d)]⟩)))) ?_;cases h;exact .inl ⟨rfl,_,_,_,rfl,rfl⟩
      refine fN c5 <| Pe (Pa.trans (Pa.kk [0,2,3,4] [0,26000,26001,26002,26003]) (Pa.rr [(0,0),(26000,25400),(26001,25401),(26002,25402),(26003,25403)])) ?_;refine sk (S':=⟨[(0,.P 0),(2,.P 25400),(3,.P 25401),(4,.P 25402)],[(0,.raw [.ro .Am b,.I (IntKind.i64.wrap (c+1))]),(25400,.raw [.I 0,.str [],.I 0,.str [],.N]),(25401,.raw [.I 49,.str [],.I 0,.str [],.own .Af 25403]),(25402,.raw [.I 50,.str [],.I 0,.str [],.N]),(25403,.lst .Af d)]⟩) ?_;cases h;exact .inl ⟨rfl,_,_,_,rfl,rfl⟩
    ·rintro e S (⟨rfl,j,m,g,rfl,rfl⟩ |⟨he,a,rfl,hr⟩)
     ·rcases h with ⟨_,e1,h⟩ |⟨_,e1,h⟩
      ·cases e1
      ·have e2:=Pq.go.inj e1;subst e2;dsimp only at h;refine Pb ?_;obtain ⟨a6,h6,h⟩:=bind_some h;rcases a6 with a6 | a6
       ·dsimp only at h;refine qn L 283 [] [] [] 1 (Pv (.tup []) []) (P8 49 a6) (Pk (As.okE h6)) ?_;cases h;exact .inr ⟨.inr ⟨_,rfl⟩,_,rfl,rfl⟩
       ·obtain ⟨t,aa⟩:=a6;dsimp only at h;obtain ⟨a7,h7,h⟩:=bind_some h;rcases a7 with a7 | a7
        ·dsimp only at h;refine qn L 283 [] [] [(1,(Pv (.agg (Ah t)) [(0,.raw (Ae aa))]))] 3 (Pv (.tup []) []) (P8 49 a7) (Q2 (As.okE h6) (hR.Aq h7)) ?_;cases h;exact .inr ⟨.inr ⟨_,rfl⟩,_,rfl,rfl⟩
        ·obtain ⟨u,ab⟩:=a7;dsimp only at h;refine rg L 283 [] [] [(1,(Pv (.agg (Ah t)) [(0,.raw (Ae aa))])),(3,(Pv (.agg (Ah u)) [(0,.raw (Ae ab))]))] (Q2 (As.okE h6) (hR.Aq h7)) ?_;obtain ⟨g2,h⟩:=Ph h;refine Pp (rg L 291 [] [] [] (Qu g2) ⟨rfl,rfl⟩) (Pa.trans (Pa.kk [0,2,3] [0,25400,25401,25403]) (Pa.trans (Pa.rr [(0,0),(25400,21900),(25401,21901),(25403,21902)]) (Pa.kp (S':=⟨[(0,.P 0),(2,.P 21900),(3,.P 21901)],[(0,.raw (Ae ab)),(21900,.raw [.I 0,.str [],.I 0,.str [],.N]),(21901,.raw [.I 49,.str [],.I 0,.str [],.own .Af 21902]),(21902,.lst .Af (d++([(⟨50,g,0,[],([(⟨t.Op,t.Name,t.Int,t.Text,t.Kids⟩:Aa),(⟨u.Op,u.Name,u.Int,u.Text,u.Kids⟩:Aa)]:List Aa)⟩:Aa)]:List Aa)))]⟩)))) ?_;exact ⟨k,Nat.lt_succ_self k,_,_,_,rfl,h⟩
     ·rcases h with ⟨_,e1,h⟩ |⟨_,e1,h⟩
      ·have e2:=Pq.done.inj e1;subst e2;subst h;rcases he with rfl |⟨ch,rfl⟩
       ·exact .inr ⟨.inl rfl,_,rfl,hr⟩
       ·exact .inr ⟨.inr ⟨_,rfl⟩,_,rfl,hr⟩
      ·cases e1
   refine fN c1 <| Pe (Pa.trans (Pa.kk [0,2,3] [0,21900,21901,21902]) (Pa.rr [(0,0),(21900,21800),(21901,21801),(21902,21802)])) ?_;refine ex (S':=⟨[(0,.P 0),(2,.P 21800),(3,.P 21801)],[(0,.raw [.ro .Am b,.I c]),(21800,.raw [.I 0,.str [],.I 0,.str [],.N]),(21801,.raw [.I 49,.str [],.I 0,.str [],.own .Af 21802]),(21802,.lst .Af d)]⟩) ?_;cases h;exact .inl ⟨rfl,_,_,_,rfl,rfl⟩
  ·rintro e S (⟨rfl,p,q,f,rfl,rfl⟩ |⟨he,a,rfl,hr⟩)
   ·rcases h with ⟨_,e1,h⟩ |⟨_,e1,h⟩
    ·cases e1
    ·have e2:=Pq.go.inj e1;subst e2;dsimp only at h;refine ⟨_,Pa.refl,?_⟩;obtain ⟨o4,hp4,h⟩:=Px h;refine Pb (P3 (Q':=fun e S=>(e=.normal∧∃ n:List Ap,∃ o:Int,∃ v:List Aa,S=⟨[(0,.P 0),(2,.P 28000),(3,.P 28001)],[(0,.raw [.ro .Am n,.I o]),(28000,.raw [.I 0,.str [],.I 0,.str [],.N]),(28001,.raw [.I 49,.str [],.I 0,.str [],.own .Af 28002]),(28002,.lst .Af v)]⟩∧Pq.go (n,o,v)=o4)∨((e=.ret∨∃ ch,e=.panic ch)∧∃ a,Pq.done a=o4∧P9 P V Tryz.f107 (Bb.rep p0 a) (Bb.post p0 a) e S)) ?_ ?_)
     ·clear h;replace h:=hp4;refine Pb ?_;obtain ⟨⟨ae,ad⟩,h8,h⟩:=bind_some h;dsimp only at h;refine rg L 299 [] [] [(1,(Pv (.B ae) [(0,.raw (Ae ad))]))] (Pk (Ak.okE h8)) ?_;rcases Pc h with ⟨c6,h⟩ |⟨c6,h⟩
      ·refine tt c6 ?_;obtain ⟨a9,h9,h⟩:=bind_some h;rcases a9 with a9 | a9
       ·dsimp only at h;refine qP L mixed 302 [] [] [] [0,2] 3 (Pv (.tup []) []) (P8 49 a9) (Q2 (hR.Aq h9) (hR.Aq h9)) ?_;cases h;exact .inr ⟨.inr ⟨_,rfl⟩,_,rfl,rfl⟩
       ·obtain ⟨af,x⟩:=a9;dsimp only at h;obtain ⟨a10,h10,h⟩:=bind_some h;obtain ⟨g3,h⟩:=Ph h;refine Pp (hB L mixed 302 [] [(5,.agg (Ah a10))] [(3,(Pv (.agg (Ah af)) [(0,.raw (Ae x))]))] [0,2] 5 (Pf (hR.Aq h9) (Pf (Co.ok h10) (Pf trivial (Pf g3 (Pf trivial (Pf (hR.Aq h9) (Pf (Co.ok h10) (Pf trivial (Pf g3 (Pf trivial (Pf (Co.ok h10) (Pf trivial (Pf g3 (Pf trivial (Pf (Co.ok h10) (Pf trivial (Pf g3 (Pf trivial (Pf g3 (Pk trivial)))))))))))))))))))) (S':=⟨[(0,.P 0),(2,.P 21800),(3,.P 21801)],[(0,.raw (Ae x)),(21800,.raw [.I 0,.str [],.I 0,.str [],.N]),(21801,.raw [.I 49,.str [],.I 0,.str [],.own .Af 21802]),(21802,.lst .Af (f++([(⟨a10.Op,a10.Name,a10.Int,a10.Text,a10.Kids⟩:Aa)]:List Aa)))]⟩) ⟨rfl,rfl⟩) (Pa.trans (Pa.kk [0,2,3] [0,21800,21801,21802]) (Pa.trans (Pa.rr [(0,0),(21800,28000),(21801,28001),(21802,28002)]) (Pa.kp (S':=⟨[(0,.P 0),(2,.P 28000),(3,.P 28001)],[(0,.raw (Ae x)),(28000,.raw [.I 0,.str [],.I 0,.str [],.N]),(28001,.raw [.I 49,.str [],.I 0,.str [],.own .Af 28002]),(28002,.lst .Af (f++([(⟨a10.Op,a10.Name,a10.Int,a10.Text,a10.Kids⟩:Aa)]:List Aa)))]⟩)))) ?_;cases h;exact .inl ⟨rfl,_,_,_,rfl,rfl⟩
      refine fN c6 <| Pe (Pa.trans (Pa.kk [0,2,3] [0,21800,21801,21802]) (Pa.rr [(0,0),(21800,28000),(21801,28001),(21802,28002)])) ?_;refine sk (S':=⟨[(0,.P 0),(2,.P 28000),(3,.P 28001)],[(0,.raw (Ae ad)),(28000,.raw [.I 0,.str [],.I 0,.str [],.N]),(28001,.raw [.I 49,.str [],.I 0,.str [],.own .Af 28002]),(28002,.lst .Af f)]⟩) ?_;cases h;exact .inl ⟨rfl,_,_,_,rfl,rfl⟩
     ·rintro e S (⟨rfl,n,o,v,rfl,rfl⟩ |⟨he,a,rfl,hr⟩)
      ·rcases h with ⟨_,e1,h⟩ |⟨_,e1,h⟩
       ·cases e1
       ·have e2:=Pq.go.inj e1;subst e2;dsimp only at h;refine Pb <| Pl L 313 ?_;rcases Pc h with ⟨c7,h⟩ |⟨c7,h⟩
        ·refine tT c7 ?_;obtain ⟨a11,h11,h⟩:=bind_some h;refine qn L 318 [] [] [] 1 (Pv (.tup []) []) (P8 49 a11) (Pk (Bf.okE h11)) ?_;cases h;exact rfl
        refine fF c7 <| Pg <| Pb ?_;obtain ⟨a12,h12,h⟩:=bind_some h;rcases a12 with a12 | a12
        ·dsimp only at h;refine rg L 321 [] [] [(1,(Pv (.tup []) [(0,.raw (Ae a12))]))] (Pk (Ao.okE h12)) ?_;refine Pl L 324 <| Pe (Pa.trans (Pa.kk [2] [0,28000,28002]) (Pa.trans (Pa.fz 28002) (Pa.rr [(0,0),(28000,100)]))) ?_;refine Pd ?_;cases h;exact Ra
        ·obtain ⟨a12,rfl⟩:∃ z,z=a12:=⟨_,rfl⟩
         dsimp only at h;refine qn L 321 [] [] [] 1 (Pv (.tup []) []) (P8 49 a12) (Pk (Ao.okE h12)) ?_;cases h;exact rfl
      ·rcases h with ⟨_,e1,h⟩ |⟨_,e1,h⟩
       ·have e2:=Pq.done.inj e1;subst e2;subst h;rcases he with rfl |⟨ch,rfl⟩
        ·exact hr
        ·exact hr
       ·cases e1
   ·rcases h with ⟨_,e1,h⟩ |⟨_,e1,h⟩
    ·have e2:=Pq.done.inj e1;subst e2;subst h;rcases he with rfl |⟨ch,rfl⟩
     ·exact ⟨_,Pa.refl,hr⟩
     ·exact ⟨_,Pa.refl,hr⟩
    ·cases e1
 ·obtain ⟨a1,rfl⟩:∃ z,z=a1:=⟨_,rfl⟩
  dsimp only at h;refine qn L 206 [] [] [] 1 (Pv (.tup []) []) (P8 49 a1) (Pk (Ao.okE h1)) ?_;cases h;exact rfl
def Bt.F (K:Nat) (R:Be) (p0:Ab):Option (Int ⊕ (Aa×Ab)):=(Option.bind (Ak K ([108,101,116]:List UInt8) p0) (fun (ap,p)=>(if ap=true then (Option.bind (Au K p) (fun a2=>match a2 with |(Sum.inl a2)=>some (Sum.inl a2) |(Sum.inr (aq,ar))=>(Option.bind (Ao K ([61]:List UInt8) ar) (fun a3=>match a3 with |(Sum.inl a3)=>(Option.bind (B5 K a3) (fun a4=>match a4 with |(Sum.inl a4)=>some (Sum.inl a4) |(Sum.inr (f,au))=>some (Sum.inr ((⟨40,aq,0,[],([(⟨f.Op,f.Name,f.Int,f.Text,f.Kids⟩:Aa)]:List Aa)⟩:Aa),au)))) |(Sum.inr a3)=>some (Sum.inl a3))))) else (Option.bind (Ak K ([105,102]:List UInt8) p) (fun (av,q)=>(if av=true then (Option.bind (R.A8 q) (fun a6=>match a6 with |(Sum.inl a6)=>some (Sum.inl a6) |(Sum.inr (aw,ax))=>some (Sum.inr (aw,ax)))) else (Option.bind (Ak K ([119,104,105,108,101]:List UInt8) q) (fun (ay,r)=>(if ay=true then (Option.bind (As K r) (fun a8=>match a8 with |(Sum.inl a8)=>some (Sum.inl a8) |(Sum.inr (g,az))=>(Option.bind (R.Aq az) (fun a9=>match a9 with |(Sum.inl a9)=>some (Sum.inl a9) |(Sum.inr (h,a0))=>(Option.bind (Co K 43 ([(⟨g.Op,g.Name,g.Int,g.Text,g.Kids⟩:Aa),(⟨h.Op,h.Name,h.Int,h.Text,h.Kids⟩:Aa)]:List Aa)) (fun a10=>some (Sum.inr (a10,a0)))))))) else (Option.bind (Ak K ([114,101,116,117,114,110]:List UInt8) r) (fun (s,i)=>(if s=true then (Option.bind (Ak K ([59]:List UInt8) i) (fun (t,j)=>(if t=true then some (Sum.inr ((⟨44,[],0,[],([]:List Aa)⟩:Aa),j)) else (Option.bind (B5 K j) (fun a13=>match a13 with |(Sum.inl a13)=>some (Sum.inl a13) |(Sum.inr (a,u))=>(Option.bind (Co K 44 ([(⟨a.Op,a.Name,a.Int,a.Text,a.Kids⟩:Aa)]:List Aa)) (fun a14=>some (Sum.inr (a14,u))))))))) else (Option.bind (Ak K ([116,104,114,111,119]:List UInt8) i) (fun (v,k)=>(if v=true then (Option.bind (B5 K k) (fun a16=>match a16 with |(Sum.inl a16)=>some (Sum.inl a16) |(Sum.inr (b,w))=>(Option.bind (Co K 45 ([(⟨b.Op,b.Name,b.Int,b.Text,b.Kids⟩:Aa)]:List Aa)) (fun a17=>some (Sum.inr (a17,w)))))) else (Option.bind (Ak K ([116,114,121]:List UInt8) k) (fun (x,l)=>(if x=true then (Option.bind (R.Aq l) (fun a19=>match a19 with |(Sum.inl a19)=>some (Sum.inl a19) |(Sum.inr (c,y))=>(Option.bind (Ao K ([99,97,116,99,104]:List UInt8) y) (fun a20=>match a20 with |(Sum.inl a20)=>(Option.bind (Au K a20) (fun a21=>match a21 with |(Sum.inl a21)=>some (Sum.inl a21) |(Sum.inr (z,aa))=>(Option.bind (R.Aq aa) (fun a22=>match a22 with |(Sum.inl a22)=>some (Sum.inl a22) |(Sum.inr (d,ab))=>some (Sum.inr ((⟨46,z,0,[],([(⟨c.Op,c.Name,c.Int,c.Text,c.Kids⟩:Aa),(⟨d.Op,d.Name,d.Int,d.Text,d.Kids⟩:Aa)]:List Aa)⟩:Aa),ab)))))) |(Sum.inr a20)=>some (Sum.inl a20))))) else (Option.bind (Ak K ([115,97,103,97]:List UInt8) l) (fun (ad,m)=>(if ad=true then (Option.bind (R.Aq m) (fun a24=>match a24 with |(Sum.inl a24)=>some (Sum.inl a24) |(Sum.inr (e,ae))=>(Option.bind (Co K 47 ([(⟨e.Op,e.Name,e.Int,e.Text,e.Kids⟩:Aa)]:List Aa)) (fun a25=>some (Sum.inr (a25,ae)))))) else (Option.bind (Ak K ([117,110,100,111]:List UInt8) m) (fun (af,n)=>(if af=true then (Option.bind (Au K n) (fun a27=>match a27 with |(Sum.inl a27)=>some (Sum.inl a27) |(Sum.inr (ag,ah))=>(Option.bind (Bg K 48 ag ah) (fun a28=>match a28 with |(Sum.inl (ai,aj))=>(Option.bind (Ao K ([59]:List UInt8) aj) (fun a29=>match a29 with |(Sum.inl a29)=>some (Sum.inr (ai,a29)) |(Sum.inr a29)=>some (Sum.inl a29))) |(Sum.inr a28)=>some (Sum.inl a28))))) else (Option.bind (Ak K ([115,101,108,101,99,116]:List UInt8) n) (fun (ak,o)=>(if ak=true then (Option.bind (R.Bb o) (fun a31=>match a31 with |(Sum.inl a31)=>some (Sum.inl a31) |(Sum.inr (al,am))=>some (Sum.inr (al,am)))) else (Option.bind (C0 K o) (fun a32=>match a32 with |(Sum.inl a32)=>some (Sum.inl a32) |(Sum.inr (an,ao))=>some (Sum.inr (an,ao)))))))))))))))))))))))))))))))
theorem Bt.body {Γ:P4} {K:Nat} {R:Be} (hR:R.Ok) {p0:Ab} {r:Int ⊕ (Aa×Ab)} (h:Bt.F K R p0=some r):P1 V P 87 100 Γ (Tryz.f77.body.getD .skip) (P9 P V Tryz.f77 (Bt.rep p0 r) (Bt.post p0 r)) ⟨Pn 0 [.P 0],[(0,.raw (Ae p0))]⟩:=by
 unfold Bt.F at h;refine Pl L 200 <| Pb <| Pj <| Pb ?_;obtain ⟨⟨ao,ap⟩,h1,h⟩:=bind_some h;dsimp only at h;refine rg L 202 [] [] [(1,(Pv (.B ao) [(0,.raw (Ae ap))]))] (Pk (Ak.okE h1)) ?_;rcases Pc h with ⟨c1,h⟩ |⟨c1,h⟩
 ·refine tt c1 <| Pb ?_;obtain ⟨a2,h2,h⟩:=bind_some h;rcases a2 with a2 | a2
  ·dsimp only at h;refine qn L 206 [] [] [] 1 (Pv (.tup []) []) (P8 49 a2) (Pk (Au.okE h2)) ?_;cases h;exact rfl
  ·obtain ⟨aq,ar⟩:=a2;dsimp only at h;refine rg L 206 [] [] [(1,(Pv (.cv (.str aq)) [(0,.raw (Ae ar))]))] (Pk (Au.okE h2)) ?_;refine Pb ?_;obtain ⟨a3,h3,h⟩:=bind_some h;rcases a3 with a3 | a3
   ·dsimp only at h;refine rg L 210 [] [] [(1,(Pv (.tup []) [(0,.raw (Ae a3))]))] (Pk (Ao.okE h3)) ?_;refine Pb ?_;obtain ⟨a4,h4,h⟩:=bind_some h;rcases a4 with a4 | a4
    ·dsimp only at h;refine qn L 213 [] [] [] 2 (Pv (.tup []) []) (P8 49 a4) (Pk (B5.okE h4)) ?_;cases h;exact rfl
    ·obtain ⟨au,av⟩:=a4;dsimp only at h;refine rg L 213 [] [] [(2,(Pv (.agg (Ah au)) [(0,.raw (Ae av))]))] (Pk (B5.okE h4)) ?_;refine Pe (Pa.trans (Pa.kk [2] [0,200]) (Pa.rr [(0,0),(200,100)])) ?_;refine Pd ?_;cases h;exact Ra
   ·obtain ⟨a3,rfl⟩:∃ z,z=a3:=⟨_,rfl⟩
    dsimp only at h;refine qn L 210 [] [] [] 1 (Pv (.tup []) []) (P8 49 a3) (Pk (Ao.okE h3)) ?_;cases h;exact rfl
 refine fN c1 <| Pb ?_;obtain ⟨⟨aw,ax⟩,h5,h⟩:=bind_some h;dsimp only at h;refine rg L 220 [] [] [(1,(Pv (.B aw) [(0,.raw (Ae ax))]))] (Pk (Ak.okE h5)) ?_;rcases Pc h with ⟨c2,h⟩ |⟨c2,h⟩
 ·refine tt c2 <| Pb ?_;obtain ⟨a6,h6,h⟩:=bind_some h;rcases a6 with a6 | a6
  ·dsimp only at h;refine qn L 224 [] [] [] 1 (Pv (.tup []) []) (P8 49 a6) (Pk (hR.A8 h6)) ?_;cases h;exact rfl
  ·obtain ⟨ay,az⟩:=a6;dsimp only at h;refine rg L 224 [] [] [(1,(Pv (.agg (Ah ay)) [(0,.raw (Ae az))]))] (Pk (hR.A8 h6)) ?_;refine Pe (Pa.trans (Pa.kk [2] [0,200]) (Pa.rr [(0,0),(200,100)])) ?_;refine Pd ?_;cases h;exact Ra
 refine fN c2 <| Pb ?_;obtain ⟨⟨a0,a1⟩,h7,h⟩:=bind_some h;dsimp only at h;refine rg L 228 [] [] [(1,(Pv (.B a0) [(0,.raw (Ae a1))]))] (Pk (Ak.okE h7)) ?_;rcases Pc h with ⟨c3,h⟩ |⟨c3,h⟩
 ·refine tt c3 <| Pb ?_;obtain ⟨a8,h8,h⟩:=bind_some h;rcases a8 with a8 | a8
  ·dsimp only at h;refine qn L 232 [] [] [] 1 (Pv (.tup []) []) (P8 49 a8) (Pk (As.okE h8)) ?_;cases h;exact rfl
  ·obtain ⟨i,j⟩:=a8;dsimp only at h;obtain ⟨a9,h9,h⟩:=bind_some h;rcases a9 with a9 | a9
   ·dsimp only at h;refine qn L 232 [] [] [(1,(Pv (.agg (Ah i)) [(0,.raw (Ae j))]))] 3 (Pv (.tup []) []) (P8 49 a9) (Q2 (As.okE h8) (hR.Aq h9)) ?_;cases h;exact rfl
   ·obtain ⟨a5,a7⟩:=a9;dsimp only at h;obtain ⟨a10,h10,h⟩:=bind_some h;refine rg L 232 [] [(5,.agg (Ah a10))] [(1,(Pv (.agg (Ah i)) [(0,.raw (Ae j))])),(3,(Pv (.agg (Ah a5)) [(0,.raw (Ae a7))]))] (Pf (As.okE h8) (Pf (hR.Aq h9) (Pf (Co.ok h10) (Pk trivial)))) ?_;refine Pe (Pa.trans (Pa.kk [2] [0,200]) (Pa.rr [(0,0),(200,100)])) ?_;refine Pd ?_;cases h;exact Ra
 refine fN c3 <| Pb ?_;obtain ⟨⟨k,l⟩,h11,h⟩:=bind_some h;dsimp only at h;refine rg L 240 [] [] [(1,(Pv (.B k) [(0,.raw (Ae l))]))] (Pk (Ak.okE h11)) ?_;rcases Pc h with ⟨c4,h⟩ |⟨c4,h⟩
 ·refine tt c4 <| Pb <| Pb ?_;obtain ⟨⟨m,n⟩,h12,h⟩:=bind_some h;dsimp only at h;refine rg L 244 [] [] [(1,(Pv (.B m) [(0,.raw (Ae n))]))] (Pk (Ak.okE h12)) ?_;rcases Pc h with ⟨c5,h⟩ |⟨c5,h⟩
  ·refine tt c5 <| Pl L 247 <| Pe (Pa.trans (Pa.kk [2] [0,200]) (Pa.rr [(0,0),(200,100)])) ?_;refine Pd ?_;cases h;exact Ra
  refine fN c5 <| Pg <| Pb ?_;obtain ⟨a13,h13,h⟩:=bind_some h;rcases a13 with a13 | a13
  ·dsimp only at h;refine qn L 250 [] [] [] 1 (Pv (.tup []) []) (P8 49 a13) (Pk (B5.okE h13)) ?_;cases h;exact rfl
  ·obtain ⟨o,p⟩:=a13;dsimp only at h;obtain ⟨a14,h14,h⟩:=bind_some h;refine rg L 250 [] [(3,.agg (Ah a14))] [(1,(Pv (.agg (Ah o)) [(0,.raw (Ae p))]))] (Pf (B5.okE h13) (Pf (Co.ok h14) (Pk trivial))) ?_;refine Pe (Pa.trans (Pa.kk [2] [0,200]) (Pa.rr [(0,0),(200,100)])) ?_;refine Pd ?_;cases h;exact Ra
 refine fN c4 <| Pb ?_;obtain ⟨⟨q,s⟩,h15,h⟩:=bind_some h;dsimp only at h;refine rg L 256 [] [] [(1,(Pv (.B q) [(0,.raw (Ae s))]))] (Pk (Ak.okE h15)) ?_;rcases Pc h with ⟨c6,h⟩ |⟨c6,h⟩
 ·refine tt c6 <| Pb ?_;obtain ⟨a16,h16,h⟩:=bind_some h;rcases a16 with a16 | a16
  ·dsimp only at h;refine qn L 260 [] [] [] 1 (Pv (.tup []) []) (P8 49 a16) (Pk (B5.okE h16)) ?_;cases h;exact rfl
  ·obtain ⟨t,u⟩:=a16;dsimp only at h;obtain ⟨a17,h17,h⟩:=bind_some h;refine rg L 260 [] [(3,.agg (Ah a17))] [(1,(Pv (.agg (Ah t)) [(0,.raw (Ae u))]))] (Pf (B5.okE h16) (Pf (Co.ok h17) (Pk trivial))) ?_;refine Pe (Pa.trans (Pa.kk [2] [0,200]) (Pa.rr [(0,0),(200,100)])) ?_;refine Pd ?_;cases h;exact Ra
 refine fN c6 <| Pb ?_;obtain ⟨⟨v,w⟩,h18,h⟩:=bind_some h;dsimp only at h;refine rg L 266 [] [] [(1,(Pv (.B v) [(0,.raw (Ae w))]))] (Pk (Ak.okE h18)) ?_;rcases Pc h with ⟨c7,h⟩ |⟨c7,h⟩
 ·refine tt c7 <| Pb ?_;obtain ⟨a19,h19,h⟩:=bind_some h;rcases a19 with a19 | a19
  ·dsimp only at h;refine qn L 270 [] [] [] 1 (Pv (.tup []) []) (P8 49 a19) (Pk (hR.Aq h19)) ?_;cases h;exact rfl
  ·obtain ⟨a,x⟩:=a19;dsimp only at h;refine rg L 270 [] [] [(1,(Pv (.agg (Ah a)) [(0,.raw (Ae x))]))] (Pk (hR.Aq h19)) ?_;refine Pb ?_;obtain ⟨a20,h20,h⟩:=bind_some h;rcases a20 with a20 | a20
   ·dsimp only at h;refine rg L 275 [] [] [(1,(Pv (.tup []) [(0,.raw (Ae a20))]))] (Pk (Ao.okE h20)) ?_;refine Pb ?_;obtain ⟨a21,h21,h⟩:=bind_some h;rcases a21 with a21 | a21
    ·dsimp only at h;refine qP L mixed 278 [] [] [] [0,3] 1 (Pv (.tup []) []) (P8 49 a21) (Q2 (Au.okE h21) (Au.okE h21)) ?_;cases h;exact rfl
    ·obtain ⟨c,d⟩:=a21;dsimp only at h;obtain ⟨a22,h22,h⟩:=bind_some h;rcases a22 with a22 | a22
     ·dsimp only at h;refine qP L mixed 278 [] [] [(1,(Pv (.cv (.str c)) [(0,.raw (Ae d))]))] [0,3] 4 (Pv (.tup []) []) (P8 49 a22) (Pf (Au.okE h21) (Pf (hR.Aq h22) (Pf (hR.Aq h22) (Pf (Au.okE h21) (Pk (hR.Aq h22)))))) ?_;cases h;exact rfl
     ·obtain ⟨b,e⟩:=a22;dsimp only at h;refine hB L mixed 278 [] [] [(1,(Pv (.cv (.str c)) [(0,.raw (Ae d))])),(4,(Pv (.agg (Ah b)) [(0,.raw (Ae e))]))] [0,3] 3 (Pf (Au.okE h21) (Pf (hR.Aq h22) (Pf (hR.Aq h22) (Pf (Au.okE h21) (Pk (hR.Aq h22)))))) (S':=⟨[(2,.P 200)],[(0,.raw (Ae e)),(200,.raw [.I 46,.str c,.I 0,.str [],.ro .Af ([(⟨a.Op,a.Name,a.Int,a.Text,a.Kids⟩:Aa),(⟨b.Op,b.Name,b.Int,b.Text,b.Kids⟩:Aa)]:List Aa)])]⟩) ?_;refine Pe (Pa.trans (Pa.kk [2] [0,200]) (Pa.rr [(0,0),(200,100)])) ?_;refine Pd ?_;cases h;exact Ra
   ·obtain ⟨a20,rfl⟩:∃ z,z=a20:=⟨_,rfl⟩
    dsimp only at h;refine qn L 275 [] [] [] 1 (Pv (.tup []) []) (P8 49 a20) (Pk (Ao.okE h20)) ?_;cases h;exact rfl
 refine fN c7 <| Pb ?_;obtain ⟨⟨y,aa⟩,h23,h⟩:=bind_some h;dsimp only at h;refine rg L 287 [] [] [(1,(Pv (.B y) [(0,.raw (Ae aa))]))] (Pk (Ak.okE h23)) ?_;rcases Pc h with ⟨c8,h⟩ |⟨c8,h⟩
 ·refine tt c8 <| Pb ?_;obtain ⟨a24,h24,h⟩:=bind_some h;rcases a24 with a24 | a24
  ·dsimp only at h;refine qn L 291 [] [] [] 1 (Pv (.tup []) []) (P8 49 a24) (Pk (hR.Aq h24)) ?_;cases h;exact rfl
  ·obtain ⟨ab,ad⟩:=a24;dsimp only at h;obtain ⟨a25,h25,h⟩:=bind_some h;refine rg L 291 [] [(3,.agg (Ah a25))] [(1,(Pv (.agg (Ah ab)) [(0,.raw (Ae ad))]))] (Pf (hR.Aq h24) (Pf (Co.ok h25) (Pk trivial))) ?_;refine Pe (Pa.trans (Pa.kk [2] [0,200]) (Pa.rr [(0,0),(200,100)])) ?_;refine Pd ?_;cases h;exact Ra
 refine fN c8 <| Pb ?_;obtain ⟨⟨ae,af⟩,h26,h⟩:=bind_some h;dsimp only at h;refine rg L 297 [] [] [(1,(Pv (.B ae) [(0,.raw (Ae af))]))] (Pk (Ak.okE h26)) ?_;rcases Pc h with ⟨c9,h⟩ |⟨c9,h⟩
 ·refine tt c9 <| Pb ?_;obtain ⟨a27,h27,h⟩:=bind_some h;rcases a27 with a27 | a27
  ·dsimp only at h;refine qn L 301 [] [] [] 2 (Pv (.tup []) []) (P8 49 a27) (Pk (Au.okE h27)) ?_;cases h;exact rfl
  ·obtain ⟨f,g⟩:=a27;dsimp only at h;obtain ⟨a28,h28,h⟩:=bind_some h;rcases a28 with ⟨ag,ah⟩ | a28
   ·dsimp only at h;refine rg L 301 [] [] [(2,(Pv (.cv (.str f)) [(0,.raw (Ae g))])),(3,(Pv (.agg (Ah ag)) [(0,.raw (Ae ah))]))] (Q2 (Au.okE h27) (Bg.okE h28)) ?_;refine Pb ?_;obtain ⟨a29,h29,h⟩:=bind_some h;rcases a29 with a29 | a29
    ·dsimp only at h;refine rg L 308 [] [] [(1,(Pv (.tup []) [(0,.raw (Ae a29))]))] (Pk (Ao.okE h29)) ?_;refine Pl L 311 <| Pe (Pa.trans (Pa.kk [2] [0,200]) (Pa.rr [(0,0),(200,100)])) ?_;refine Pd ?_;cases h;exact Ra
    ·obtain ⟨a29,rfl⟩:∃ z,z=a29:=⟨_,rfl⟩
     dsimp only at h;refine qn L 308 [] [] [] 1 (Pv (.tup []) []) (P8 49 a29) (Pk (Ao.okE h29)) ?_;cases h;exact rfl
   ·obtain ⟨a28,rfl⟩:∃ z,z=a28:=⟨_,rfl⟩
    dsimp only at h;refine qn L 301 [] [] [(2,(Pv (.cv (.str f)) [(0,.raw (Ae g))]))] 3 (Pv (.tup []) []) (P8 49 a28) (Q2 (Au.okE h27) (Bg.okE h28)) ?_;cases h;exact rfl
 refine fN c9 <| Pb ?_;obtain ⟨⟨ai,aj⟩,h30,h⟩:=bind_some h;dsimp only at h;refine rg L 314 [] [] [(1,(Pv (.B ai) [(0,.raw (Ae aj))]))] (Pk (Ak.okE h30)) ?_;rcases Pc h with ⟨c10,h⟩ |⟨c10,h⟩
 ·refine tt c10 <| Pb ?_;obtain ⟨a31,h31,h⟩:=bind_some h;rcases a31 with a31 | a31
  ·dsimp only at h;refine qn L 318 [] [] [] 1 (Pv (.tup []) []) (P8 49 a31) (Pk (hR.Bb h31)) ?_;cases h;exact rfl
  ·obtain ⟨ak,al⟩:=a31;dsimp only at h;refine rg L 318 [] [] [(1,(Pv (.agg (Ah ak)) [(0,.raw (Ae al))]))] (Pk (hR.Bb h31)) ?_;refine Pe (Pa.trans (Pa.kk [2] [0,200]) (Pa.rr [(0,0),(200,100)])) ?_;refine Pd ?_;cases h;exact Ra
 refine fN c10 <| Pg <| Pb ?_;obtain ⟨a32,h32,h⟩:=bind_some h;rcases a32 with a32 | a32
 ·dsimp only at h;refine qn L 322 [] [] [] 1 (Pv (.tup []) []) (P8 49 a32) (Pk (C0.okE h32)) ?_;cases h;exact rfl
 ·obtain ⟨am,an⟩:=a32;dsimp only at h;refine rg L 322 [] [] [(1,(Pv (.agg (Ah am)) [(0,.raw (Ae an))]))] (Pk (C0.okE h32)) ?_;refine Pe (Pa.trans (Pa.kk [2] [0,200]) (Pa.rr [(0,0),(200,100)])) ?_;refine Pd ?_;cases h;exact Ra
def Aq.l9 (K:Nat) (R:Be):Nat→(List Ap)→Int→(List Aa)→Option (Pq (Int ⊕ (Aa×Ab)) ((List Ap)×Int×(List Aa)))
 | 0,_,_,_=>none
 | k+1,c,d,b=>(Option.bind (Ak K ([125]:List UInt8) (⟨c,d⟩:Ab)) (fun (g,e)=>(if g=true then some (Pq.go (e.l,e.i,b)) else (Option.bind (R.Bt e) (fun a3=>match a3 with |(Sum.inl a3)=>some (Pq.done (Sum.inl a3)) |(Sum.inr (a,f))=>(if (b.length+([(⟨a.Op,a.Name,a.Int,a.Text,a.Kids⟩:Aa)]:List Aa).length) * 72≤140737488355328 then Aq.l9 K R k f.l f.i (b++([(⟨a.Op,a.Name,a.Int,a.Text,a.Kids⟩:Aa)]:List Aa)) else none))))))
def Aq.F (K:Nat) (R:Be) (p0:Ab):Option (Int ⊕ (Aa×Ab)):=(Option.bind (Ao K ([123]:List UInt8) p0) (fun a1=>match a1 with |(Sum.inl a1)=>(obind (Aq.l9 K R K a1.l a1.i ([]:List Aa):Option (Pq (Int ⊕ (Aa×Ab)) ((List Ap)×Int×(List Aa)))) (fun r=>r) (fun (a,b,c)=>some (Sum.inr ((⟨53,[],0,[],c⟩:Aa),(⟨a,b⟩:Ab))))) |(Sum.inr a1)=>some (Sum.inl a1)))
theorem Aq.body {Γ:P4} {K:Nat} {R:Be} (hR:R.Ok) {p0:Ab} {r:Int ⊕ (Aa×Ab)} (h:Aq.F K R p0=some r):P1 V P 18 100 Γ (Tryz.f50.body.getD .skip) (P9 P V Tryz.f50 (Aq.rep p0 r) (Aq.post p0 r)) ⟨Pn 0 [.P 0],[(0,.raw (Ae p0))]⟩:=by
 unfold Aq.F at h;refine Pl L 200 <| Pl L 202 <| Pb ?_;obtain ⟨a1,h1,h⟩:=bind_some h;rcases a1 with a1 | a1
 ·dsimp only at h;refine rg L 206 [] [] [(1,(Pv (.tup []) [(0,.raw (Ae a1))]))] (Pk (Ao.okE h1)) ?_;refine Pb <| Pj <| Pe (Pa.trans (Pa.kk [0,2,3] [0,200,203]) (Pa.trans (Pa.nc 203 4 9500 Tag.Af) (Pa.trans (Pa.kk [0,2,3] [0,200,203,9500]) (Pa.rr [(0,0),(200,21900),(203,21901),(9500,21902)])))) ?_;refine kp (S':=⟨[(0,.P 0),(2,.P 21900),(3,.P 21901)],[(0,.raw (Ae a1)),(21900,.raw [.I 0,.str [],.I 0,.str [],.N]),(21901,.raw [.I 53,.str [],.I 0,.str [],.own .Af 21902]),(21902,.lst .Af ([]:List Aa))]⟩) ?_;obtain ⟨o1,hp1,h⟩:=Px h;refine Pu (Q':=fun e S=>(e=.exit 0∧∃ g:List Ap,∃ i:Int,∃ l:List Aa,S=⟨[(2,.P 21800),(3,.P 21801)],[(0,.raw [.ro .Am g,.I i]),(21800,.raw [.I 0,.str [],.I 0,.str [],.N]),(21801,.raw [.I 53,.str [],.I 0,.str [],.own .Af 21802]),(21802,.lst .Af l)]⟩∧Pq.go (g,i,l)=o1)∨((e=.ret∨∃ ch,e=.panic ch)∧∃ a,Pq.done a=o1∧P9 P V Tryz.f50 (Aq.rep p0 a) (Aq.post p0 a) e S)) (Pz (fun k S=>∃ d:List Ap,∃ f:Int,∃ c:List Aa,S=⟨[(0,.P 0),(2,.P 21900),(3,.P 21901)],[(0,.raw [.ro .Am d,.I f]),(21900,.raw [.I 0,.str [],.I 0,.str [],.N]),(21901,.raw [.I 53,.str [],.I 0,.str [],.own .Af 21902]),(21902,.lst .Af c)]⟩∧Aq.l9 K R k d f c=some o1) ?_ ⟨_,_,_,rfl,hp1⟩) ?_
  ·clear h hp1;intro k S hS;obtain ⟨d,f,c,rfl,h⟩:=hS;cases k with
   | zero=>cases h
   | succ k =>
   unfold Aq.l9 at h;refine Pb <| Pb ?_;obtain ⟨⟨m,n⟩,h2,h⟩:=bind_some h;dsimp only at h;refine rg L 209 [] [] [(1,(Pv (.B m) [(0,.raw (Ae n))]))] (Pk (Ak.okE h2)) ?_;rcases Pc h with ⟨c1,h⟩ |⟨c1,h⟩
   ·refine ff (b:=(!m)) (congrArg Bool.not (c1)) ?_;refine Pe (Pa.trans (Pa.kk [2,3] [0,21900,21901,21902]) (Pa.rr [(0,0),(21900,21800),(21901,21801),(21902,21802)])) ?_;refine ex (S':=⟨[(2,.P 21800),(3,.P 21801)],[(0,.raw (Ae n)),(21800,.raw [.I 0,.str [],.I 0,.str [],.N]),(21801,.raw [.I 53,.str [],.I 0,.str [],.own .Af 21802]),(21802,.lst .Af c)]⟩) ?_;cases h;exact .inl ⟨rfl,_,_,_,rfl,rfl⟩
   refine tt (b:=(!m)) (congrArg Bool.not (eq_false_of_ne_true c1)) ?_;refine Pg <| Pj ?_;obtain ⟨a3,h3,h⟩:=bind_some h;rcases a3 with a3 | a3
   ·dsimp only at h;refine qP L mixed 213 [] [] [] [0,2] 3 (Pv (.tup []) []) (P8 49 a3) (Q2 (hR.Bt h3) (hR.Bt h3)) ?_;cases h;exact .inr ⟨.inr ⟨_,rfl⟩,_,rfl,rfl⟩
   ·obtain ⟨j,o⟩:=a3;dsimp only at h;obtain ⟨g1,h⟩:=Ph h;refine hB L mixed 213 [] [] [(3,(Pv (.agg (Ah j)) [(0,.raw (Ae o))]))] [0,2] 3 (Pf (hR.Bt h3) (Pf g1 (Pf trivial (Pf (hR.Bt h3) (Pf g1 (Pf trivial (Pf g1 (Pk trivial)))))))) (S':=⟨[(0,.P 0),(2,.P 21900),(3,.P 21901)],[(0,.raw (Ae o)),(21900,.raw [.I 0,.str [],.I 0,.str [],.N]),(21901,.raw [.I 53,.str [],.I 0,.str [],.own .Af 21902]),(21902,.lst .Af (c++([(⟨j.Op,j.Name,j.Int,j.Text,j.Kids⟩:Aa)]:List Aa)))]⟩) ?_;exact ⟨k,Nat.lt_succ_self k,_,_,_,rfl,h⟩
  ·rintro e S (⟨rfl,g,i,l,rfl,rfl⟩ |⟨he,a,rfl,hr⟩)
   ·rcases h with ⟨_,e1,h⟩ |⟨_,e1,h⟩
    ·cases e1
    ·have e2:=Pq.go.inj e1;subst e2;dsimp only at h;refine ⟨_,Pa.refl,?_⟩;refine Pl L 222 <| Pe (Pa.trans (Pa.kk [2] [0,21800,21802]) (Pa.trans (Pa.fz 21802) (Pa.rr [(0,0),(21800,100)]))) ?_;refine Pd ?_;cases h;exact Ra
   ·rcases h with ⟨_,e1,h⟩ |⟨_,e1,h⟩
    ·have e2:=Pq.done.inj e1;subst e2;subst h;rcases he with rfl |⟨ch,rfl⟩
     ·exact ⟨_,Pa.refl,hr⟩
     ·exact ⟨_,Pa.refl,hr⟩
    ·cases e1
 ·obtain ⟨a1,rfl⟩:∃ z,z=a1:=⟨_,rfl⟩
  dsimp only at h;refine qn L 206 [] [] [] 1 (Pv (.tup []) []) (P8 49 a1) (Pk (Ao.okE h1)) ?_;cases h;exact rfl
def Be.upto (K:Nat):Nat→Be
 | 0=>⟨fun _=>none,fun _=>none,fun _=>none,fun _=>none⟩
 | k+1=>⟨A8.F K (Be.upto K k),Bb.F K (Be.upto K k),Bt.F K (Be.upto K k),Aq.F K (Be.upto K k)⟩
theorem Be.upto_ok (K:Nat):∀ k,(Be.upto K k).Ok
 | 0=>⟨fun h=>(by cases h),fun h=>(by cases h),fun h=>(by cases h),fun h=>(by cases h)⟩
 | k+1=>⟨fun {p0 r} h=>xo (fn:=Tryz.f105) (n:=31) (m:=100) fun Γ=>A8.body (K:=K) (Be.upto_ok K k) h,fun {p0 r} h=>xo (fn:=Tryz.f107) (n:=99) (m:=100) fun Γ=>Bb.body (K:=K) (Be.upto_ok K k) h,fun {p0 r} h=>xo (fn:=Tryz.f77) (n:=87) (m:=100) fun Γ=>Bt.body (K:=K) (Be.upto_ok K k) h,fun {p0 r} h=>xo (fn:=Tryz.f50) (n:=18) (m:=100) fun Γ=>Aq.body (K:=K) (Be.upto_ok K k) h⟩
def A8 (K:Nat) (p0:Ab):Option (Int ⊕ (Aa×Ab)):=(Be.upto K K).A8 p0
theorem A8.okE {K:Nat} {p0:Ab} {r:Int ⊕ (Aa×Ab)} (h:A8 K p0=some r):P7 V P 105 [.P 0] [(0,.raw (Ae p0))] [0] (A8.post p0 r) (A8.rep p0 r):=(Be.upto_ok K K).A8 h
def Bb (K:Nat) (p0:Ab):Option (Int ⊕ (Aa×Ab)):=(Be.upto K K).Bb p0
theorem Bb.okE {K:Nat} {p0:Ab} {r:Int ⊕ (Aa×Ab)} (h:Bb K p0=some r):P7 V P 107 [.P 0] [(0,.raw (Ae p0))] [0] (Bb.post p0 r) (Bb.rep p0 r):=(Be.upto_ok K K).Bb h
def Bt (K:Nat) (p0:Ab):Option (Int ⊕ (Aa×Ab)):=(Be.upto K K).Bt p0
theorem Bt.okE {K:Nat} {p0:Ab} {r:Int ⊕ (Aa×Ab)} (h:Bt K p0=some r):P7 V P 77 [.P 0] [(0,.raw (Ae p0))] [0] (Bt.post p0 r) (Bt.rep p0 r):=(Be.upto_ok K K).Bt h
def Aq (K:Nat) (p0:Ab):Option (Int ⊕ (Aa×Ab)):=(Be.upto K K).Aq p0
theorem Aq.okE {K:Nat} {p0:Ab} {r:Int ⊕ (Aa×Ab)} (h:Aq K p0=some r):P7 V P 50 [.P 0] [(0,.raw (Ae p0))] [0] (Aq.post p0 r) (Aq.rep p0 r):=(Be.upto_ok K K).Aq h
def Cw.l15 (K:Nat):Nat→(List Ap)→Int→(List Aa)→Option (Pq ((Ab×(List Aa)) ⊕ Int) ((List Ap)×Int×(List Aa)))
 | 0,_,_,_=>none
 | k+1,c,d,b=>(Option.bind (Ak K ([44]:List UInt8) (⟨c,d⟩:Ab)) (fun (g,e)=>(if g=true then (Option.bind (Ct K e) (fun a4=>match a4 with |(Sum.inl a4)=>some (Pq.done (Sum.inr a4)) |(Sum.inr (a,f))=>(if (b.length+([(⟨a.Op,a.Name,a.Int,a.Text,a.Kids⟩:Aa)]:List Aa).length) * 72≤140737488355328 then Cw.l15 K k f.l f.i (b++([(⟨a.Op,a.Name,a.Int,a.Text,a.Kids⟩:Aa)]:List Aa)) else none))) else some (Pq.go (e.l,e.i,b)))))
def Cw (K:Nat) (p0:List UInt8) (p1:Ab):Option ((Ab×(List Aa)) ⊕ Int):=(Option.bind (Ak K p0 p1) (fun (g,e)=>(if g=true then some (Sum.inl (e,([]:List Aa))) else (Option.bind (Ct K e) (fun a2=>match a2 with |(Sum.inl a2)=>some (Sum.inr a2) |(Sum.inr (a,f))=>(obind (Cw.l15 K K f.l f.i ([(⟨a.Op,a.Name,a.Int,a.Text,a.Kids⟩:Aa)]:List Aa):Option (Pq ((Ab×(List Aa)) ⊕ Int) ((List Ap)×Int×(List Aa)))) (fun r=>r) (fun (b,c,d)=>(Option.bind (Ao K p0 (⟨b,c⟩:Ab)) (fun a5=>match a5 with |(Sum.inl a5)=>some (Sum.inl (a5,d)) |(Sum.inr a5)=>some (Sum.inr a5))))))))))
def Cw.rep (p0:List UInt8) (p1:Ab):(Ab×(List Aa)) ⊕ Int→Qo T
 |(Sum.inl (v0,v1))=>.ret (.cv (.own .Af 100))
 |(Sum.inr v0)=>.pan (P8 49 v0)
def Cw.post (p0:List UInt8) (p1:Ab):(Ab×(List Aa)) ⊕ Int→List (Nat×P0 T)
 |(Sum.inl (v0,v1))=>[(0,.raw [.ro .Am v0.l,.I v0.i]),(100,.lst .Af v1)]
 |(Sum.inr v0)=>[]
theorem Cw.body {Γ:P4} {K:Nat} {p0:List UInt8} {p1:Ab} {r:(Ab×(List Aa)) ⊕ Int} (h:Cw K p0 p1=some r):P1 V P 25 100 Γ (Tryz.f48.body.getD .skip) (P9 P V Tryz.f48 (Cw.rep p0 p1 r) (Cw.post p0 p1 r)) ⟨Pn 0 [.P 0,.cv (.str p0),.cv (.fn (.func 49) [.P 0] [])],[(0,.raw (Ae p1))]⟩:=by
 unfold Cw at h;refine Pl L 200 <| Pb <| Pb ?_;obtain ⟨⟨p,q⟩,h1,h⟩:=bind_some h;dsimp only at h;refine rg L 202 [] [] [(2,(Pv (.B p) [(0,.raw (Ae q))]))] (Pk (Ak.okE h1)) ?_;rcases Pc h with ⟨c1,h⟩ |⟨c1,h⟩
 ·refine tt c1 <| Pl L 206 <| Pe (Pa.trans (Pa.kk [6] [0]) (Pa.trans (Pa.no 6 9000 Tag.Af) (Pa.trans (Pa.kk [6] [0,9000]) (Pa.rr [(0,0),(9000,100)])))) ?_;refine Pd ?_;cases h;exact Ra
 refine fN c1 <| Pg <| Pb ?_;obtain ⟨a2,h2,h⟩:=bind_some h;rcases a2 with a2 | a2
 ·dsimp only at h;refine qn L 100208 [] [] [] 1 (Pv (.tup []) []) (P8 49 a2) (Pk (Ct.okE h2)) ?_;cases h;exact rfl
 ·obtain ⟨j,o⟩:=a2;dsimp only at h;refine rg L 100208 [] [] [(1,(Pv (.agg (Ah j)) [(0,.raw (Ae o))]))] (Pk (Ct.okE h2)) ?_;refine Pb <| Pj <| Pe (Pa.trans (Pa.kk [0,1,2,7] [0,100210]) (Pa.rr [(0,0),(100210,23100)])) ?_;refine kp (S':=⟨[(0,.P 0),(1,.cv (.str p0)),(2,.cv (.fn (.func 49) [.P 0] [])),(7,.cv (.own .Af 23100))],[(0,.raw (Ae o)),(23100,.lst .Af ([(⟨j.Op,j.Name,j.Int,j.Text,j.Kids⟩:Aa)]:List Aa))]⟩) ?_;obtain ⟨o1,hp1,h⟩:=Px h;refine Pu (Q':=fun e S=>(e=.exit 0∧∃ g:List Ap,∃ i:Int,∃ l:List Aa,S=⟨[(0,.P 0),(1,.cv (.str p0)),(7,.cv (.own .Af 23000))],[(0,.raw [.ro .Am g,.I i]),(23000,.lst .Af l)]⟩∧Pq.go (g,i,l)=o1)∨((e=.ret∨∃ ch,e=.panic ch)∧∃ a,Pq.done a=o1∧P9 P V Tryz.f48 (Cw.rep p0 p1 a) (Cw.post p0 p1 a) e S)) (Pz (fun k S=>∃ d:List Ap,∃ f:Int,∃ c:List Aa,S=⟨[(0,.P 0),(1,.cv (.str p0)),(2,.cv (.fn (.func 49) [.P 0] [])),(7,.cv (.own .Af 23100))],[(0,.raw [.ro .Am d,.I f]),(23100,.lst .Af c)]⟩∧Cw.l15 K k d f c=some o1) ?_ ⟨_,_,_,rfl,hp1⟩) ?_
  ·clear h hp1;intro k S hS;obtain ⟨d,f,c,rfl,h⟩:=hS;cases k with
   | zero=>cases h
   | succ k =>
   unfold Cw.l15 at h;refine Pb <| Pb ?_;obtain ⟨⟨s,m⟩,h3,h⟩:=bind_some h;dsimp only at h;refine rg L 213 [] [] [(1,(Pv (.B s) [(0,.raw (Ae m))]))] (Pk (Ak.okE h3)) ?_;rcases Pc h with ⟨c2,h⟩ |⟨c2,h⟩
   ·refine tt c2 <| Pg <| Pj ?_;obtain ⟨a4,h4,h⟩:=bind_some h;rcases a4 with a4 | a4
    ·dsimp only at h;refine qn L 216 [] [] [] 2 (Pv (.tup []) []) (P8 49 a4) (Pk (Ct.okE h4)) ?_;cases h;exact .inr ⟨.inr ⟨_,rfl⟩,_,rfl,rfl⟩
    ·obtain ⟨b,n⟩:=a4;dsimp only at h;obtain ⟨g1,h⟩:=Ph h;refine ar L 216 [] [] [(2,(Pv (.agg (Ah b)) [(0,.raw (Ae n))]))] (cs:=[Pm V P 49 [.P 0] [(0,.raw (Ae m))] [0] (.agg (Ah b)) [(0,.raw (Ae n))],(c.length+([(⟨b.Op,b.Name,b.Int,b.Text,b.Kids⟩:Aa)]:List Aa).length) * 72≤140737488355328,True]) (S':=⟨[(0,.P 0),(1,.cv (.str p0)),(2,.cv (.fn (.func 49) [.P 0] [])),(7,.cv (.own .Af 23100))],[(0,.raw (Ae n)),(23100,.lst .Af (c++([(⟨b.Op,b.Name,b.Int,b.Text,b.Kids⟩:Aa)]:List Aa)))]⟩) (And.intro (Ct.okE h4) (And.intro g1 trivial)) ?_;exact ⟨k,Nat.lt_succ_self k,_,_,_,rfl,h⟩
   refine fN c2 <| Pe (Pa.trans (Pa.kk [0,1,7] [0,23100]) (Pa.rr [(0,0),(23100,23000)])) ?_;refine ex (S':=⟨[(0,.P 0),(1,.cv (.str p0)),(7,.cv (.own .Af 23000))],[(0,.raw (Ae m)),(23000,.lst .Af c)]⟩) ?_;cases h;exact .inl ⟨rfl,_,_,_,rfl,rfl⟩
  ·rintro e S (⟨rfl,g,i,l,rfl,rfl⟩ |⟨he,a,rfl,hr⟩)
   ·rcases h with ⟨_,e1,h⟩ |⟨_,e1,h⟩
    ·cases e1
    ·have e2:=Pq.go.inj e1;subst e2;dsimp only at h;refine ⟨_,Pa.refl,?_⟩;refine Pb ?_;obtain ⟨a5,h5,h⟩:=bind_some h;rcases a5 with a5 | a5
     ·dsimp only at h;refine rg L 223 [] [] [(2,(Pv (.tup []) [(0,.raw (Ae a5))]))] (Pk (Ao.okE h5)) ?_;refine Pl L 227 <| Pe (Pa.trans (Pa.kk [6] [0,23000]) (Pa.rr [(0,0),(23000,100)])) ?_;refine Pd ?_;cases h;exact Ra
     ·obtain ⟨a5,rfl⟩:∃ z,z=a5:=⟨_,rfl⟩
      dsimp only at h;refine qn L 223 [] [] [] 2 (Pv (.tup []) []) (P8 49 a5) (Pk (Ao.okE h5)) ?_;cases h;exact rfl
   ·rcases h with ⟨_,e1,h⟩ |⟨_,e1,h⟩
    ·have e2:=Pq.done.inj e1;subst e2;subst h;rcases he with rfl |⟨ch,rfl⟩
     ·exact ⟨_,Pa.refl,hr⟩
     ·exact ⟨_,Pa.refl,hr⟩
    ·cases e1
theorem Cw.okE {K:Nat} {p0:List UInt8} {p1:Ab} {r:(Ab×(List Aa)) ⊕ Int} (h:Cw K p0 p1=some r):P7 V P 48 [.P 0,.cv (.str p0),.cv (.fn (.func 49) [.P 0] [])] [(0,.raw (Ae p1))] [0] (Cw.post p0 p1 r) (Cw.rep p0 p1 r) :=
 xo (fn:=Tryz.f48) (n:=25) (m:=100) fun Γ=>Cw.body h
def Cv (K:Nat) (p0:Ab):Option (Int ⊕ (Aa×Ab)):=(Option.bind (Bx K ([([115,105,103,110,97,108]:List UInt8),([113,117,101,114,121]:List UInt8),([117,112,100,97,116,101]:List UInt8)]:List (List UInt8)) ([63,64,65]:List Int) p0) (fun (j,o,k)=>(if o=true then (Option.bind (Au K k) (fun a2=>match a2 with |(Sum.inl a2)=>some (Sum.inl a2) |(Sum.inr (p,q))=>(Option.bind (Ao K ([40]:List UInt8) q) (fun a3=>match a3 with |(Sum.inl a3)=>(Option.bind (Au K a3) (fun a4=>match a4 with |(Sum.inl a4)=>some (Sum.inl a4) |(Sum.inr (s,t))=>(Option.bind (Ao K ([41]:List UInt8) t) (fun a5=>match a5 with |(Sum.inl a5)=>(obind (((Option.bind ((if j=65 then (Option.bind (Ak K ([99,104,101,99,107]:List UInt8) a5) (fun (u,m)=>some (u,m.l,m.i))) else some (false,a5.l,a5.i)):Option (Bool×(List Ap)×Int)) (fun (h,c,d)=>(if h=true then (Option.bind (Aq K (⟨c,d⟩:Ab)) (fun a7=>match a7 with |(Sum.inl a7)=>some (Pq.done (Sum.inl a7)) |(Sum.inr (a,n))=>(if ([(⟨a.Op,a.Name,a.Int,a.Text,a.Kids⟩:Aa)]:List Aa).length * 72≤140737488355328 then some (Pq.go (n.l,n.i,([(⟨a.Op,a.Name,a.Int,a.Text,a.Kids⟩:Aa)]:List Aa))) else none))) else some (Pq.go (c,d,([]:List Aa))))))):Option (Pq (Int ⊕ (Aa×Ab)) ((List Ap)×Int×(List Aa)))) (fun r=>r) (fun (f,g,e)=>(Option.bind (Aq K (⟨f,g⟩:Ab)) (fun a8=>match a8 with |(Sum.inl a8)=>some (Sum.inl a8) |(Sum.inr (b,v))=>(if (e.length+([(⟨b.Op,b.Name,b.Int,b.Text,b.Kids⟩:Aa)]:List Aa).length) * 72≤140737488355328 then some ((Sum.inr ((⟨j,p,0,s,(e++([(⟨b.Op,b.Name,b.Int,b.Text,b.Kids⟩:Aa)]:List Aa))⟩:Aa),v))) else none))))) |(Sum.inr a5)=>some (Sum.inl a5))))) |(Sum.inr a3)=>some (Sum.inl a3))))) else (Option.bind (Bf K k) (fun a9=>some (Sum.inl a9))))))
def Cv.rep (p0:Ab):Int ⊕ (Aa×Ab)→Qo T
 |(Sum.inl v0)=>.pan (P8 49 v0)
 |(Sum.inr (v0,v1))=>.ret (.agg [.I v0.Op,.str v0.Name,.I v0.Int,.str v0.Text,.ro .Af v0.Kids])
def Cv.post (p0:Ab):Int ⊕ (Aa×Ab)→List (Nat×P0 T)
 |(Sum.inl v0)=>[]
 |(Sum.inr (v0,v1))=>[(0,.raw [.ro .Am v1.l,.I v1.i])]
theorem Cv.body {Γ:P4} {K:Nat} {p0:Ab} {r:Int ⊕ (Aa×Ab)} (h:Cv K p0=some r):P1 V P 49 100 Γ (Tryz.f51.body.getD .skip) (P9 P V Tryz.f51 (Cv.rep p0 r) (Cv.post p0 r)) ⟨Pn 0 [.P 0],[(0,.raw (Ae p0))]⟩:=by
 unfold Cv at h;refine Pl L 200 <| Pb ?_;obtain ⟨⟨g,p,v⟩,h1,h⟩:=bind_some h;dsimp only at h;refine rg L 202 [] [] [(3,(Pv (.tup [.I g,.B p]) [(0,.raw (Ae v))]))] (Pk (Bx.okE h1)) ?_;refine Pb <| Pl L 212 ?_;rcases Pc h with ⟨c1,h⟩ |⟨c1,h⟩
 ·refine ff (b:=(!p)) (congrArg Bool.not (c1)) ?_;refine Pg <| Pb ?_;obtain ⟨a2,h2,h⟩:=bind_some h;rcases a2 with a2 | a2
  ·dsimp only at h;refine qn L 218 [] [] [] 2 (Pv (.tup []) []) (P8 49 a2) (Pk (Au.okE h2)) ?_;cases h;exact rfl
  ·obtain ⟨i,w⟩:=a2;dsimp only at h;refine rg L 218 [] [] [(2,(Pv (.cv (.str i)) [(0,.raw (Ae w))]))] (Pk (Au.okE h2)) ?_;refine Pb ?_;obtain ⟨a3,h3,h⟩:=bind_some h;rcases a3 with a3 | a3
   ·dsimp only at h;refine rg L 225 [] [] [(1,(Pv (.tup []) [(0,.raw (Ae a3))]))] (Pk (Ao.okE h3)) ?_;refine Pb ?_;obtain ⟨a4,h4,h⟩:=bind_some h;rcases a4 with a4 | a4
    ·dsimp only at h;refine qn L 228 [] [] [] 1 (Pv (.tup []) []) (P8 49 a4) (Pk (Au.okE h4)) ?_;cases h;exact rfl
    ·obtain ⟨j,x⟩:=a4;dsimp only at h;refine rg L 228 [] [] [(1,(Pv (.cv (.str j)) [(0,.raw (Ae x))]))] (Pk (Au.okE h4)) ?_;refine Pb ?_;obtain ⟨a5,h5,h⟩:=bind_some h;rcases a5 with a5 | a5
     ·dsimp only at h;refine rg L 233 [] [] [(1,(Pv (.tup []) [(0,.raw (Ae a5))]))] (Pk (Ao.okE h5)) ?_;obtain ⟨o2,hp2,h⟩:=Px h;refine Pb (P3 (Q':=fun e S=>(e=.normal∧∃ k:List Ap,∃ l:Int,∃ m:List Aa,S=⟨[(0,.P 0),(2,.P 23800),(5,.P 23801)],[(0,.raw [.ro .Am k,.I l]),(23800,.raw [.I 0,.str [],.I 0,.str [],.N]),(23801,.raw [.I g,.str i,.I 0,.str j,.own .Af 23802]),(23802,.lst .Af m)]⟩∧Pq.go (k,l,m)=o2)∨((e=.ret∨∃ ch,e=.panic ch)∧∃ a,Pq.done a=o2∧P9 P V Tryz.f51 (Cv.rep p0 a) (Cv.post p0 a) e S)) ?_ ?_)
      ·clear h;replace h:=hp2;obtain ⟨o1,hp1,h⟩:=bind_some h;refine Pb (P3 (Q':=fun e S=>(e=.normal∧∃ n:Bool,∃ d:List Ap,∃ f:Int,S=⟨[(0,.P 0),(2,.P 24000),(5,.P 24001),(33,.B n)],[(0,.raw [.ro .Am d,.I f]),(24000,.raw [.I 0,.str [],.I 0,.str [],.N]),(24001,.raw [.I g,.str i,.I 0,.str j,.N])]⟩∧(n,d,f)=o1)) ?_ ?_)
       ·clear h;replace h:=hp1;rcases Pc h with ⟨c2,h⟩ |⟨c2,h⟩
        ·obtain ⟨⟨s,t⟩,h6,h⟩:=bind_some h;dsimp only at h;refine Pp (rg L 236 [(2,true)] [] [(4,(Pv (.B s) [(0,.raw (Ae t))]))] (Q2 (decide_eq_true c2) (Ak.okE h6)) ⟨rfl,rfl⟩) (Pa.trans (Pa.kk [0,2,5,33] [0,200,222]) (Pa.trans (Pa.rr [(0,0),(200,24000),(222,24001)]) (Pa.kp (S':=⟨[(0,.P 0),(2,.P 24000),(5,.P 24001),(33,.B s)],[(0,.raw (Ae t)),(24000,.raw [.I 0,.str [],.I 0,.str [],.N]),(24001,.raw [.I g,.str i,.I 0,.str j,.N])]⟩)))) ?_;cases h;exact ⟨rfl,_,_,_,rfl,rfl⟩
        refine Pp (rg L 236 [(2,false)] [] [] (Pk (decide_eq_false c2)) ⟨rfl,rfl⟩) (Pa.trans (Pa.kk [0,2,5,33] [0,200,222]) (Pa.trans (Pa.rr [(0,0),(200,24000),(222,24001)]) (Pa.kp (S':=⟨[(0,.P 0),(2,.P 24000),(5,.P 24001),(33,.B false)],[(0,.raw (Ae a5)),(24000,.raw [.I 0,.str [],.I 0,.str [],.N]),(24001,.raw [.I g,.str i,.I 0,.str j,.N])]⟩)))) ?_;cases h;exact ⟨rfl,_,_,_,rfl,rfl⟩
       ·rintro e S ⟨rfl,n,d,f,rfl,rfl⟩;dsimp only at h;rcases Pc h with ⟨c3,h⟩ |⟨c3,h⟩
        ·refine tt c3 ?_;obtain ⟨a7,h7,h⟩:=bind_some h;rcases a7 with a7 | a7
         ·dsimp only at h;refine qP L mixed 243 [] [] [] [0,2] 3 (Pv (.tup []) []) (P8 49 a7) (Q2 (Aq.okE h7) (Aq.okE h7)) ?_;cases h;exact .inr ⟨.inr ⟨_,rfl⟩,_,rfl,rfl⟩
         ·obtain ⟨c,q⟩:=a7;dsimp only at h;obtain ⟨g1,h⟩:=Ph h;refine Pp (hB L mixed 243 [] [] [(3,(Pv (.agg (Ah c)) [(0,.raw (Ae q))]))] [0,2] 3 (Pf (Aq.okE h7) (Pf g1 (Pf trivial (Pf (Aq.okE h7) (Pf g1 (Pf trivial (Pf g1 (Pk trivial)))))))) (S':=⟨[(0,.P 0),(2,.P 24000),(5,.P 24001)],[(0,.raw (Ae q)),(248,.lst .Af ([(⟨c.Op,c.Name,c.Int,c.Text,c.Kids⟩:Aa)]:List Aa)),(24000,.raw [.I 0,.str [],.I 0,.str [],.N]),(24001,.raw [.I g,.str i,.I 0,.str j,.own .Af 248])]⟩) ⟨rfl,rfl⟩) (Pa.trans (Pa.kk [0,2,5] [0,248,24000,24001]) (Pa.trans (Pa.rr [(0,0),(248,23802),(24000,23800),(24001,23801)]) (Pa.kp (S':=⟨[(0,.P 0),(2,.P 23800),(5,.P 23801)],[(0,.raw (Ae q)),(23800,.raw [.I 0,.str [],.I 0,.str [],.N]),(23801,.raw [.I g,.str i,.I 0,.str j,.own .Af 23802]),(23802,.lst .Af ([(⟨c.Op,c.Name,c.Int,c.Text,c.Kids⟩:Aa)]:List Aa))]⟩)))) ?_;cases h;exact .inl ⟨rfl,_,_,_,rfl,rfl⟩
        refine fN c3 <| Pe (Pa.trans (Pa.kk [0,2,5] [0,24000,24001]) (Pa.trans (Pa.nc 24001 4 9500 Tag.Af) (Pa.trans (Pa.kk [0,2,5] [0,9500,24000,24001]) (Pa.rr [(0,0),(9500,23802),(24000,23800),(24001,23801)])))) ?_;refine sk (S':=⟨[(0,.P 0),(2,.P 23800),(5,.P 23801)],[(0,.raw [.ro .Am d,.I f]),(23800,.raw [.I 0,.str [],.I 0,.str [],.N]),(23801,.raw [.I g,.str i,.I 0,.str j,.own .Af 23802]),(23802,.lst .Af ([]:List Aa))]⟩) ?_;cases h;exact .inl ⟨rfl,_,_,_,rfl,rfl⟩
      ·rintro e S (⟨rfl,k,l,m,rfl,rfl⟩ |⟨he,a,rfl,hr⟩)
       ·rcases h with ⟨_,e1,h⟩ |⟨_,e1,h⟩
        ·cases e1
        ·have e2:=Pq.go.inj e1;subst e2;dsimp only at h;refine Pb ?_;obtain ⟨a8,h8,h⟩:=bind_some h;rcases a8 with a8 | a8
         ·dsimp only at h;refine qP L mixed 252 [] [] [] [0,2] 3 (Pv (.tup []) []) (P8 49 a8) (Q2 (Aq.okE h8) (Aq.okE h8)) ?_;cases h;exact rfl
         ·obtain ⟨o,u⟩:=a8;dsimp only at h;obtain ⟨g2,h⟩:=Ph h;refine hB L mixed 252 [] [] [(3,(Pv (.agg (Ah o)) [(0,.raw (Ae u))]))] [0,2] 3 (Pf (Aq.okE h8) (Pf g2 (Pf trivial (Pf (Aq.okE h8) (Pf g2 (Pf trivial (Pf g2 (Pk trivial)))))))) (S':=⟨[(2,.P 23800),(5,.P 23801)],[(0,.raw (Ae u)),(23800,.raw [.I 0,.str [],.I 0,.str [],.N]),(23801,.raw [.I g,.str i,.I 0,.str j,.own .Af 23802]),(23802,.lst .Af (m++([(⟨o.Op,o.Name,o.Int,o.Text,o.Kids⟩:Aa)]:List Aa)))]⟩) ?_;refine Pl L 261 <| Pe (Pa.trans (Pa.kk [2] [0,23800,23802]) (Pa.trans (Pa.fz 23802) (Pa.rr [(0,0),(23800,100)]))) ?_;refine Pd ?_;cases h;exact Ra
       ·rcases h with ⟨_,e1,h⟩ |⟨_,e1,h⟩
        ·have e2:=Pq.done.inj e1;subst e2;subst h;rcases he with rfl |⟨ch,rfl⟩
         ·exact hr
         ·exact hr
        ·cases e1
     ·obtain ⟨a5,rfl⟩:∃ z,z=a5:=⟨_,rfl⟩
      dsimp only at h;refine qn L 233 [] [] [] 1 (Pv (.tup []) []) (P8 49 a5) (Pk (Ao.okE h5)) ?_;cases h;exact rfl
   ·obtain ⟨a3,rfl⟩:∃ z,z=a3:=⟨_,rfl⟩
    dsimp only at h;refine qn L 225 [] [] [] 1 (Pv (.tup []) []) (P8 49 a3) (Pk (Ao.okE h3)) ?_;cases h;exact rfl
 refine tt (b:=(!p)) (congrArg Bool.not (eq_false_of_ne_true c1)) ?_;obtain ⟨a9,h9,h⟩:=bind_some h;refine qn L 215 [] [] [] 1 (Pv (.tup []) []) (P8 49 a9) (Pk (Bf.okE h9)) ?_;cases h;exact rfl
theorem Cv.okE {K:Nat} {p0:Ab} {r:Int ⊕ (Aa×Ab)} (h:Cv K p0=some r):P7 V P 51 [.P 0] [(0,.raw (Ae p0))] [0] (Cv.post p0 r) (Cv.rep p0 r) :=
 xo (fn:=Tryz.f51) (n:=49) (m:=100) fun Γ=>Cv.body h
def B7.l7 (K:Nat):Nat→(List Ap)→Int→(List Aa)→Option (Pq (Int ⊕ (Aa×Ab)) ((List Ap)×Int×(List Aa)))
 | 0,_,_,_=>none
 | k+1,e,f,c=>(Option.bind (Bq K (⟨e,f⟩:Ab)) (fun a1=>(if a1.Kind≠0 then (Option.bind (Ak K ([118,97,114]:List UInt8) (⟨e,f⟩:Ab)) (fun (r,m)=>(if r=true then (Option.bind (Au K m) (fun a3=>match a3 with |(Sum.inl a3)=>some (Pq.done (Sum.inl a3)) |(Sum.inr (n,s))=>(Option.bind (Ao K ([61]:List UInt8) s) (fun a4=>match a4 with |(Sum.inl a4)=>(Option.bind (Cy K a4) (fun a5=>match a5 with |(Sum.inl a5)=>some (Pq.done (Sum.inl a5)) |(Sum.inr (d,t))=>(if (c.length+([(⟨61,n,0,[],([(⟨d.Op,d.Name,d.Int,d.Text,d.Kids⟩:Aa)]:List Aa)⟩:Aa)]:List Aa).length) * 72≤140737488355328 then (Option.bind (Ao K ([59]:List UInt8) t) (fun a6=>match a6 with |(Sum.inl a6)=>B7.l7 K k a6.l a6.i (c++([(⟨61,n,0,[],([(⟨d.Op,d.Name,d.Int,d.Text,d.Kids⟩:Aa)]:List Aa)⟩:Aa)]:List Aa)) |(Sum.inr a6)=>some (Pq.done (Sum.inl a6)))) else none))) |(Sum.inr a4)=>some (Pq.done (Sum.inl a4)))))) else (Option.bind (Ak K ([102,117,110,99]:List UInt8) m) (fun (u,o)=>(if u=true then (Option.bind (Au K o) (fun a8=>match a8 with |(Sum.inl a8)=>some (Pq.done (Sum.inl a8)) |(Sum.inr (p,v))=>(Option.bind (Ao K ([40]:List UInt8) v) (fun a9=>match a9 with |(Sum.inl a9)=>(Option.bind (Cw K ([41]:List UInt8) a9) (fun a10=>match a10 with |(Sum.inl (q,g))=>(Option.bind (Aq K q) (fun a11=>match a11 with |(Sum.inl a11)=>some (Pq.done (Sum.inl a11)) |(Sum.inr (a,h))=>(if (g.length+([(⟨a.Op,a.Name,a.Int,a.Text,a.Kids⟩:Aa)]:List Aa).length) * 72≤140737488355328 then (if (c.length+([(⟨62,p,0,[],(g++([(⟨a.Op,a.Name,a.Int,a.Text,a.Kids⟩:Aa)]:List Aa))⟩:Aa)]:List Aa).length) * 72≤140737488355328 then B7.l7 K k h.l h.i ((c++([(⟨62,p,0,[],(g++([(⟨a.Op,a.Name,a.Int,a.Text,a.Kids⟩:Aa)]:List Aa))⟩:Aa)]:List Aa))) else none) else none))) |(Sum.inr a10)=>some (Pq.done (Sum.inl a10)))) |(Sum.inr a9)=>some (Pq.done (Sum.inl a9)))))) else (Option.bind (Ao K ([111,110]:List UInt8) o) (fun a12=>match a12 with |(Sum.inl a12)=>(Option.bind (Cv K a12) (fun a13=>match a13 with |(Sum.inl a13)=>some (Pq.done (Sum.inl a13)) |(Sum.inr (b,j))=>(if (c.length+([(⟨b.Op,b.Name,b.Int,b.Text,b.Kids⟩:Aa)]:List Aa).length) * 72≤140737488355328 then B7.l7 K k j.l j.i (c++([(⟨b.Op,b.Name,b.Int,b.Text,b.Kids⟩:Aa)]:List Aa)) else none))) |(Sum.inr a12)=>some (Pq.done (Sum.inl a12)))))))))) else some (Pq.go (e,f,c)))))
def B7 (K:Nat) (p0:Ab):Option (Int ⊕ (Aa×Ab)):=(obind (B7.l7 K K p0.l p0.i ([]:List Aa):Option (Pq (Int ⊕ (Aa×Ab)) ((List Ap)×Int×(List Aa)))) (fun r=>r) (fun (a,b,c)=>some (Sum.inr ((⟨60,[],0,[],c⟩:Aa),(⟨a,b⟩:Ab)))))
def B7.rep (p0:Ab):Int ⊕ (Aa×Ab)→Qo T
 |(Sum.inl v0)=>.pan (P8 49 v0)
 |(Sum.inr (v0,v1))=>.ret (.agg [.I v0.Op,.str v0.Name,.I v0.Int,.str v0.Text,.ro .Af v0.Kids])
def B7.post (p0:Ab):Int ⊕ (Aa×Ab)→List (Nat×P0 T)
 |(Sum.inl v0)=>[]
 |(Sum.inr (v0,v1))=>[(0,.raw [.ro .Am v1.l,.I v1.i])]
theorem B7.body {Γ:P4} {K:Nat} {p0:Ab} {r:Int ⊕ (Aa×Ab)} (h:B7 K p0=some r):P1 V P 64 100 Γ (Tryz.f26.body.getD .skip) (P9 P V Tryz.f26 (B7.rep p0 r) (B7.post p0 r)) ⟨Pn 0 [.P 0],[(0,.raw (Ae p0))]⟩:=by
 unfold B7 at h;refine Pl L 200 <| Pl L 202 <| Pb <| Pj <| Pe (Pa.trans (Pa.kk [0,2,3] [0,200,203]) (Pa.trans (Pa.nc 203 4 9500 Tag.Af) (Pa.trans (Pa.kk [0,2,3] [0,200,203,9500]) (Pa.rr [(0,0),(200,21500),(203,21501),(9500,21502)])))) ?_;refine kp (S':=⟨[(0,.P 0),(2,.P 21500),(3,.P 21501)],[(0,.raw (Ae p0)),(21500,.raw [.I 0,.str [],.I 0,.str [],.N]),(21501,.raw [.I 60,.str [],.I 0,.str [],.own .Af 21502]),(21502,.lst .Af ([]:List Aa))]⟩) ?_;obtain ⟨o1,hp1,h⟩:=Px h;refine Pu (Q':=fun e S=>(e=.exit 0∧∃ j:List Ap,∃ l:Int,∃ m:List Aa,S=⟨[(2,.P 21400),(3,.P 21401)],[(0,.raw [.ro .Am j,.I l]),(21400,.raw [.I 0,.str [],.I 0,.str [],.N]),(21401,.raw [.I 60,.str [],.I 0,.str [],.own .Af 21402]),(21402,.lst .Af m)]⟩∧Pq.go (j,l,m)=o1)∨((e=.ret∨∃ ch,e=.panic ch)∧∃ a,Pq.done a=o1∧P9 P V Tryz.f26 (B7.rep p0 a) (B7.post p0 a) e S)) (Pz (fun k S=>∃ d:List Ap,∃ f:Int,∃ b:List Aa,S=⟨[(0,.P 0),(2,.P 21500),(3,.P 21501)],[(0,.raw [.ro .Am d,.I f]),(21500,.raw [.I 0,.str [],.I 0,.str [],.N]),(21501,.raw [.I 60,.str [],.I 0,.str [],.own .Af 21502]),(21502,.lst .Af b)]⟩∧B7.l7 K k d f b=some o1) ?_ ⟨_,_,_,rfl,hp1⟩) ?_
 ·clear h hp1;intro k S hS;obtain ⟨d,f,b,rfl,h⟩:=hS;cases k with
  | zero=>cases h
  | succ k =>
  unfold B7.l7 at h;refine Pb <| Pb ?_;obtain ⟨a1,h1,h⟩:=bind_some h;refine rg L 206 [] [(1,.agg (D3 a1))] [] (Qu (Bq.ok h1)) ?_;rcases Pc h with ⟨c1,h⟩ |⟨c1,h⟩
  ·refine tT c1 <| Pg <| Pj <| Pj <| Pb ?_;obtain ⟨⟨v,w⟩,h2,h⟩:=bind_some h;dsimp only at h;refine rg L 211 [] [] [(1,(Pv (.B v) [(0,.raw (Ae w))]))] (Pk (Ak.okE h2)) ?_;rcases Pc h with ⟨c2,h⟩ |⟨c2,h⟩
   ·refine tt c2 <| Pb ?_;obtain ⟨a3,h3,h⟩:=bind_some h;rcases a3 with a3 | a3
    ·dsimp only at h;refine qn L 215 [] [] [] 1 (Pv (.tup []) []) (P8 49 a3) (Pk (Au.okE h3)) ?_;cases h;exact .inr ⟨.inr ⟨_,rfl⟩,_,rfl,rfl⟩
    ·obtain ⟨n,x⟩:=a3;dsimp only at h;refine rg L 215 [] [] [(1,(Pv (.cv (.str n)) [(0,.raw (Ae x))]))] (Pk (Au.okE h3)) ?_;refine Pb ?_;obtain ⟨a4,h4,h⟩:=bind_some h;rcases a4 with a4 | a4
     ·dsimp only at h;refine rg L 219 [] [] [(1,(Pv (.tup []) [(0,.raw (Ae a4))]))] (Pk (Ao.okE h4)) ?_;refine Pb ?_;obtain ⟨a5,h5,h⟩:=bind_some h;rcases a5 with a5 | a5
      ·dsimp only at h;refine qP L mixed 222 [] [] [] [0,2,3] 4 (Pv (.tup []) []) (P8 49 a5) (Q2 (Cy.okE h5) (Cy.okE h5)) ?_;cases h;exact .inr ⟨.inr ⟨_,rfl⟩,_,rfl,rfl⟩
      ·obtain ⟨c,o⟩:=a5;dsimp only at h;obtain ⟨g1,h⟩:=Ph h;refine hB L mixed 222 [] [] [(4,(Pv (.agg (Ah c)) [(0,.raw (Ae o))]))] [0,2,3] 5 (Pf (Cy.okE h5) (Pf g1 (Pf trivial (Pf (Cy.okE h5) (Pf g1 (Pf trivial (Pf g1 (Pf trivial (Pf g1 (Pf trivial (Pf g1 (Pk trivial)))))))))))) (S':=⟨[(0,.P 0),(2,.P 21500),(3,.P 21501)],[(0,.raw (Ae o)),(21500,.raw [.I 0,.str [],.I 0,.str [],.N]),(21501,.raw [.I 60,.str [],.I 0,.str [],.own .Af 21502]),(21502,.lst .Af (b++([(⟨61,n,0,[],([(⟨c.Op,c.Name,c.Int,c.Text,c.Kids⟩:Aa)]:List Aa)⟩:Aa)]:List Aa)))]⟩) ?_;obtain ⟨a6,h6,h⟩:=bind_some h;rcases a6 with a6 | a6
       ·dsimp only at h;refine ar L 234 [] [] [(1,(Pv (.tup []) [(0,.raw (Ae a6))]))] (cs:=[Pm V P 46 [.P 0,.cv (.str ([59]:List UInt8))] [(0,.raw (Ae o))] [0] (.tup []) [(0,.raw (Ae a6))]]) (S':=⟨[(0,.P 0),(2,.P 21500),(3,.P 21501)],[(0,.raw (Ae a6)),(21500,.raw [.I 0,.str [],.I 0,.str [],.N]),(21501,.raw [.I 60,.str [],.I 0,.str [],.own .Af 21502]),(21502,.lst .Af (b++([(⟨61,n,0,[],([(⟨c.Op,c.Name,c.Int,c.Text,c.Kids⟩:Aa)]:List Aa)⟩:Aa)]:List Aa)))]⟩) (Ao.okE h6) ?_;exact ⟨k,Nat.lt_succ_self k,_,_,_,rfl,h⟩
       ·obtain ⟨a6,rfl⟩:∃ z,z=a6:=⟨_,rfl⟩
        dsimp only at h;refine qn L 234 [] [] [] 1 (Pv (.tup []) []) (P8 49 a6) (Pk (Ao.okE h6)) ?_;cases h;exact .inr ⟨.inr ⟨_,rfl⟩,_,rfl,rfl⟩
     ·obtain ⟨a4,rfl⟩:∃ z,z=a4:=⟨_,rfl⟩
      dsimp only at h;refine qn L 219 [] [] [] 1 (Pv (.tup []) []) (P8 49 a4) (Pk (Ao.okE h4)) ?_;cases h;exact .inr ⟨.inr ⟨_,rfl⟩,_,rfl,rfl⟩
   refine fN c2 <| Pb ?_;obtain ⟨⟨y,aa⟩,h7,h⟩:=bind_some h;dsimp only at h;refine rg L 237 [] [] [(1,(Pv (.B y) [(0,.raw (Ae aa))]))] (Pk (Ak.okE h7)) ?_;rcases Pc h with ⟨c3,h⟩ |⟨c3,h⟩
   ·refine tt c3 <| Pb ?_;obtain ⟨a8,h8,h⟩:=bind_some h;rcases a8 with a8 | a8
    ·dsimp only at h;refine qn L 241 [] [] [] 1 (Pv (.tup []) []) (P8 49 a8) (Pk (Au.okE h8)) ?_;cases h;exact .inr ⟨.inr ⟨_,rfl⟩,_,rfl,rfl⟩
    ·obtain ⟨t,ab⟩:=a8;dsimp only at h;refine rg L 241 [] [] [(1,(Pv (.cv (.str t)) [(0,.raw (Ae ab))]))] (Pk (Au.okE h8)) ?_;refine Pb ?_;obtain ⟨a9,h9,h⟩:=bind_some h;rcases a9 with a9 | a9
     ·dsimp only at h;refine rg L 245 [] [] [(1,(Pv (.tup []) [(0,.raw (Ae a9))]))] (Pk (Ao.okE h9)) ?_;refine Pb ?_;obtain ⟨a10,h10,h⟩:=bind_some h;rcases a10 with ⟨u,p⟩ | a10
      ·dsimp only at h;refine rg L 248 [] [] [(3,(ef [0] [0] (.cv (.own .Af 100)) [(0,.raw (Ae u)),(100,.lst .Af p)] [(0,0),(100,5408)]))] (Pk (Cw.okE h10)) ?_;obtain ⟨a11,h11,h⟩:=bind_some h;rcases a11 with a11 | a11
       ·dsimp only at h;refine qP L mixed 254 [] [] [] [0,2,3,4] 5 (Pv (.tup []) []) (P8 49 a11) (Q2 (Aq.okE h11) (Aq.okE h11)) ?_;cases h;exact .inr ⟨.inr ⟨_,rfl⟩,_,rfl,rfl⟩
       ·obtain ⟨g,q⟩:=a11;dsimp only at h;obtain ⟨g2,h⟩:=Ph h;obtain ⟨g3,h⟩:=Ph h;refine hB L mixed 254 [] [] [(5,(Pv (.agg (Ah g)) [(0,.raw (Ae q))])),(9,{ hids:=[],fx:=[],r:=.tup [],H':=[],σ:=[],fr:=[5408] })] [0,2,3,4] 6 (Pf (Aq.okE h11) (Pf g2 (Pf trivial (Pf g3 (Pf trivial (Pf (Aq.okE h11) (Pf g2 (Pf trivial (Pf g3 (Pf trivial (Pf g2 (Pf trivial (Pf g3 (Pf trivial (Pf g2 (Pf trivial (Pf g3 (Pf trivial (Pf g3 (Pf trivial (Pf g3 (Pk trivial)))))))))))))))))))))) (S':=⟨[(0,.P 0),(2,.P 21500),(3,.P 21501)],[(0,.raw (Ae q)),(21500,.raw [.I 0,.str [],.I 0,.str [],.N]),(21501,.raw [.I 60,.str [],.I 0,.str [],.own .Af 21502]),(21502,.lst .Af ((b++([(⟨62,t,0,[],(p++([(⟨g.Op,g.Name,g.Int,g.Text,g.Kids⟩:Aa)]:List Aa))⟩:Aa)]:List Aa))))]⟩) ?_;exact ⟨k,Nat.lt_succ_self k,_,_,_,rfl,h⟩
      ·obtain ⟨a10,rfl⟩:∃ z,z=a10:=⟨_,rfl⟩
       dsimp only at h;refine qn L 248 [] [] [] 3 (Pv (.tup []) []) (P8 49 a10) (Pk (Cw.okE h10)) ?_;cases h;exact .inr ⟨.inr ⟨_,rfl⟩,_,rfl,rfl⟩
     ·obtain ⟨a9,rfl⟩:∃ z,z=a9:=⟨_,rfl⟩
      dsimp only at h;refine qn L 245 [] [] [] 1 (Pv (.tup []) []) (P8 49 a9) (Pk (Ao.okE h9)) ?_;cases h;exact .inr ⟨.inr ⟨_,rfl⟩,_,rfl,rfl⟩
   refine fN c3 <| Pb ?_;obtain ⟨a12,h12,h⟩:=bind_some h;rcases a12 with a12 | a12
   ·dsimp only at h;refine rg L 268 [] [] [(1,(Pv (.tup []) [(0,.raw (Ae a12))]))] (Pk (Ao.okE h12)) ?_;obtain ⟨a13,h13,h⟩:=bind_some h;rcases a13 with a13 | a13
    ·dsimp only at h;refine qP L mixed 271 [] [] [] [0,2] 3 (Pv (.tup []) []) (P8 49 a13) (Q2 (Cv.okE h13) (Cv.okE h13)) ?_;cases h;exact .inr ⟨.inr ⟨_,rfl⟩,_,rfl,rfl⟩
    ·obtain ⟨i,s⟩:=a13;dsimp only at h;obtain ⟨g4,h⟩:=Ph h;refine hB L mixed 271 [] [] [(3,(Pv (.agg (Ah i)) [(0,.raw (Ae s))]))] [0,2] 3 (Pf (Cv.okE h13) (Pf g4 (Pf trivial (Pf (Cv.okE h13) (Pf g4 (Pf trivial (Pf g4 (Pk trivial)))))))) (S':=⟨[(0,.P 0),(2,.P 21500),(3,.P 21501)],[(0,.raw (Ae s)),(21500,.raw [.I 0,.str [],.I 0,.str [],.N]),(21501,.raw [.I 60,.str [],.I 0,.str [],.own .Af 21502]),(21502,.lst .Af (b++([(⟨i.Op,i.Name,i.Int,i.Text,i.Kids⟩:Aa)]:List Aa)))]⟩) ?_;exact ⟨k,Nat.lt_succ_self k,_,_,_,rfl,h⟩
   ·obtain ⟨a12,rfl⟩:∃ z,z=a12:=⟨_,rfl⟩
    dsimp only at h;refine qn L 268 [] [] [] 1 (Pv (.tup []) []) (P8 49 a12) (Pk (Ao.okE h12)) ?_;cases h;exact .inr ⟨.inr ⟨_,rfl⟩,_,rfl,rfl⟩
  refine fF c1 <| Pe (Pa.trans (Pa.kk [2,3] [0,21500,21501,21502]) (Pa.rr [(0,0),(21500,21400),(21501,21401),(21502,21402)])) ?_;refine ex (S':=⟨[(2,.P 21400),(3,.P 21401)],[(0,.raw [.ro .Am d,.I f]),(21400,.raw [.I 0,.str [],.I 0,.str [],.N]),(21401,.raw [.I 60,.str [],.I 0,.str [],.own .Af 21402]),(21402,.lst .Af b)]⟩) ?_;cases h;exact .inl ⟨rfl,_,_,_,rfl,rfl⟩
 ·rintro e S (⟨rfl,j,l,m,rfl,rfl⟩ |⟨he,a,rfl,hr⟩)
  ·rcases h with ⟨_,e1,h⟩ |⟨_,e1,h⟩
   ·cases e1
   ·have e2:=Pq.go.inj e1;subst e2;dsimp only at h;refine ⟨_,Pa.refl,?_⟩;refine Pl L 280 <| Pe (Pa.trans (Pa.kk [2] [0,21400,21402]) (Pa.trans (Pa.fz 21402) (Pa.rr [(0,0),(21400,100)]))) ?_;refine Pd ?_;cases h;exact Ra
  ·rcases h with ⟨_,e1,h⟩ |⟨_,e1,h⟩
   ·have e2:=Pq.done.inj e1;subst e2;subst h;rcases he with rfl |⟨ch,rfl⟩
    ·exact ⟨_,Pa.refl,hr⟩
    ·exact ⟨_,Pa.refl,hr⟩
   ·cases e1
theorem B7.okE {K:Nat} {p0:Ab} {r:Int ⊕ (Aa×Ab)} (h:B7 K p0=some r):P7 V P 26 [.P 0] [(0,.raw (Ae p0))] [0] (B7.post p0 r) (B7.rep p0 r) :=
 xo (fn:=Tryz.f26) (n:=64) (m:=100) fun Γ=>B7.body h
def Eg (K:Nat) (p0:List Ap) (p1:Int):Option (Int ⊕ (Aa×Int×Int)):=(Option.bind (B7 K (⟨p0,0⟩:Ab)) (fun a1=>match a1 with |(Sum.inl a1)=>some (Sum.inl a1) |(Sum.inr (a,b))=>(Option.bind (Bq K b) (fun a2=>(if a2.Kind≠0 then (Option.bind (Bf K b) (fun a3=>some (Sum.inl a3))) else (Option.bind (C2 K a) (fun a4=>(if a4 > 4000 then some (Sum.inr ((⟨0,[],0,[],([]:List Aa)⟩:Aa),0,6)) else (Option.bind (Cz K a) (fun a5=>(if a5 > 40 then some (Sum.inr ((⟨0,[],0,[],([]:List Aa)⟩:Aa),0,7)) else some (Sum.inr (a,0,0)))))))))))))
def Eg.rep (p0:List Ap) (p1:Int):Int ⊕ (Aa×Int×Int)→Qo T
 |(Sum.inl v0)=>.pan (P8 49 v0)
 |(Sum.inr (v0,v1,v2))=>.ret (.tup [.agg [.I v0.Op,.str v0.Name,.I v0.Int,.str v0.Text,.ro .Af v0.Kids],.I v1,.I v2])
theorem Eg.body {Γ:P4} {K:Nat} {p0:List Ap} {p1:Int} {r:Int ⊕ (Aa×Int×Int)} (h:Eg K p0 p1=some r):P1 V P 44 93 Γ (P5 (P5 (P5 (P5 (Tryz.f25.body.getD .skip))))) (Tp P V Tryz.f25 (Eg.rep p0 p1 r)) ⟨[(1,.cv (.fn (.func 26) [] [])),(4,.P 90),(5,.P 91),(6,.P 92),(7,.cv (.ro .Am p0))],[(90,.raw [.I 0,.str [],.I 0,.str [],.N]),(91,.raw [.I p1]),(92,.raw [.I 0])]⟩:=by
 unfold Eg at h;refine Pl L 200 <| Pb ?_;obtain ⟨a1,h1,h⟩:=bind_some h;rcases a1 with a1 | a1
 ·dsimp only at h;refine pn L 205 [] [] [] 2 [4,5,6] [90,91,92] (ef [0] [0] (.tup []) [] [(0,202)]) (P8 49 a1) (cs:=[Zl V P 26 [.P 0] [(0,.raw [.ro .Am p0,.I 0])] (P8 49 a1)]) (S':=⟨[(4,.P 90),(5,.P 91),(6,.P 92)],[(90,.raw [.I 0,.str [],.I 0,.str [],.N]),(91,.raw [.I p1]),(92,.raw [.I 0])]⟩) (B7.okE h1) ?_;cases h;exact (rp:Tp P V Tryz.f25 (Eg.rep p0 p1 (Sum.inl a1)) _ _)
 ·obtain ⟨a,b⟩:=a1;dsimp only at h;refine rg L 205 [] [] [(2,(ef [0] [0] (.agg (Ah a)) [(0,.raw (Ae b))] [(0,202)]))] (Pk (B7.okE h1)) ?_;refine Pb <| Pb ?_;obtain ⟨a2,h2,h⟩:=bind_some h;refine rg L 210 [] [(1,.agg (D3 a2))] [] (Qu (Bq.ok h2)) ?_;rcases Pc h with ⟨c1,h⟩ |⟨c1,h⟩
  ·refine tT c1 ?_;obtain ⟨a3,h3,h⟩:=bind_some h;refine pn L 215 [] [] [] 1 [4,5,6] [90,91,92] (ef [0] [0] (.tup []) [] [(0,202)]) (P8 49 a3) (cs:=[Zl V P 43 [.P 0] [(0,.raw (Ae b))] (P8 49 a3)]) (S':=⟨[(4,.P 90),(5,.P 91),(6,.P 92)],[(90,.raw (Ah a)),(91,.raw [.I p1]),(92,.raw [.I 0])]⟩) (Bf.okE h3) ?_;cases h;exact (rp:Tp P V Tryz.f25 (Eg.rep p0 p1 (Sum.inl a3)) _ _)
  refine fF c1 <| Pg <| Pb <| Pj <| Pb ?_;obtain ⟨a4,h4,h⟩:=bind_some h;refine rg L 218 [] [(1,.I a4)] [] (Qu (C2.ok h4)) ?_;rcases Pc h with ⟨c2,h⟩ |⟨c2,h⟩
  ·refine tT c2 <| Pl L 223 <| Pd ?_;cases h;exact rr0
  refine fF c2 <| Pb ?_;obtain ⟨a5,h5,h⟩:=bind_some h;refine rg L 228 [] [(1,.I a5)] [] (Qu (Cz.ok h5)) ?_;rcases Pc h with ⟨c3,h⟩ |⟨c3,h⟩
  ·refine tT c3 <| Pl L 233 <| Pd ?_;cases h;exact rr0
  refine fF c3 <| Pg <| Pl L 238 <| Pd ?_;cases h;exact rr0
def He:Int ⊕ (Aa×Int×Int)→Aa×Int×Int
 |(Sum.inl v0)=>(Ca,v0,29)
 |(Sum.inr (v0,v1,v2))=>(v0,v1,v2)
def Fw (K:Nat) (p0:List UInt8):Option (Aa×Int×Int):=Option.bind (Ed K p0) (fun (c,a,b)=>if b≠0 then some (Ca,a,b) else Option.bind (Eg K c a) (fun x=>some (He x)))
theorem Fw.ok {K:Nat} {p0:List UInt8} {r:Aa×Int×Int} (h:Fw K p0=some r):Pr V P 25 [.cv (.str p0),.cv (.fn (.func 26) [] [])] (.tup [.agg (Ah r.1),.I r.2.1,.I r.2.2]):=by
 unfold Fw at h;obtain ⟨⟨l,at0,e0⟩,h1,h⟩:=bind_some h;dsimp only at h;by_cases he:e0≠0
 ·rw [if_pos he] at h;obtain rfl:=Option.some.inj h;exact I7 (Ed.ok h1) he
 ·rw [if_neg he] at h;obtain ⟨x,h2,h⟩:=bind_some h;obtain rfl:=Option.some.inj h;have he0:e0=0:=Decidable.not_not.1 he;subst he0;refine Io (o:=Eg.rep l at0 x) (Ed.ok h1) (fun Γ=>Eg.body h2) ?_;rcases x with v0 |⟨v0,v1,v2⟩
  ·exact .inr ⟨v0,rfl,rfl⟩
  ·exact .inl rfl
def Fo (K:Nat) (p0:List UInt8):Option (Aa×Int×Int):=(Option.bind (Fw K p0) (fun (a,b,c)=>some (a,b,c)))
theorem Fo.body {Γ:P4} {K:Nat} {p0:List UInt8} {r:Aa×Int×Int} (h:Fo K p0=some r):P1 V P 10 100 Γ (Tryz.f10.body.getD .skip) (Po P V Tryz.f10 (.tup [.agg [.I r.1.Op,.str r.1.Name,.I r.1.Int,.str r.1.Text,.ro .Af r.1.Kids],.I r.2.1,.I r.2.2]) []) ⟨Pn 0 [.cv (.str p0)],[]⟩:=by
 unfold Fo at h;refine Pl L 200 <| Pb ?_;obtain ⟨⟨a,b,c⟩,h1,h⟩:=bind_some h;dsimp only at h;refine rg L 204 [] [(1,.tup [.agg (Ah a),.I b,.I c])] [] (Qu (Fw.ok h1)) ?_;refine Pe (Pa.trans (Pa.kk [2,3,4] [200]) (Pa.rr [(200,100)])) ?_;refine Pd ?_;cases h;exact Pt
theorem Fo.ok {K:Nat} {p0:List UInt8} {r:Aa×Int×Int} (h:Fo K p0=some r):Pr V P 10 [.cv (.str p0)] (.tup [.agg [.I r.1.Op,.str r.1.Name,.I r.1.Int,.str r.1.Text,.ro .Af r.1.Kids],.I r.2.1,.I r.2.2]):=Pm.pcall (eo (fn:=Tryz.f10) (n:=10) (m:=100) fun Γ=>Fo.body h) (by kernel_rfl)
structure Dg where
 Bd:Aa→Aa→Option Bool
structure Dg.Ok (R:Dg):Prop where
 Bd:∀ {p0:Aa} {p1:Aa} {r:Bool},R.Bd p0 p1=some r→Pm V P 12 [.agg (Ah p0),.agg (Ah p1)] [] [] (.B r) []
theorem Bd.okR {R:Dg} (hR:R.Ok) {p0:Aa} {p1:Aa} {r:Bool} (h:R.Bd p0 p1=some r):Pr V P 12 [.agg (Ah p0),.agg (Ah p1)] (.B r):=(hR.Bd h).pcall (by kernel_rfl)
def Bd.l15 (K:Nat) (R:Dg) (p0:Aa) (p1:Aa):Nat→Int→Option (Pq Bool Unit)
 | 0,_=>none
 | k+1,a=>(if a <(p0.Kids.length:Int) then (if (0:Int)≤a∧(a:Int) <(p0.Kids.length:Int) then (if (a:Int) <(p1.Kids.length:Int) then (Option.bind (R.Bd (p0.Kids.getD (Int.toNat a) Ca) (p1.Kids.getD (Int.toNat a) Ca)) (fun a1=>(if a1=true then Bd.l15 K R p0 p1 k (IntKind.i64.wrap (a+1)) else some (Pq.done false)))) else none) else none) else some (Pq.go ()))
def Bd.F (K:Nat) (R:Dg) (p0:Aa) (p1:Aa):Option Bool:=(if p0.Op≠p1.Op then some false else (if p0.Name≠p1.Name then some false else (if p0.Int≠p1.Int then some false else (if p0.Text≠p1.Text then some false else (if (p0.Kids.length:Int)≠(p1.Kids.length:Int) then some false else (obind (Bd.l15 K R p0 p1 K 0:Option (Pq Bool Unit)) (fun r=>r) (fun _=>some true)))))))
theorem Bd.body {Γ:P4} {K:Nat} {R:Dg} (hR:R.Ok) {p0:Aa} {p1:Aa} {r:Bool} (h:Bd.F K R p0 p1=some r):P1 V P 60 100 Γ (Tryz.f12.body.getD .skip) (Po P V Tryz.f12 (.B r) []) ⟨Pn 0 [.agg (Ah p0),.agg (Ah p1)],[]⟩:=by
 unfold Bd.F at h;refine Pl L 200 <| Pb <| Pb ?_;rcases Pc h with ⟨c1,h⟩ |⟨c1,h⟩
 ·refine rg L 204 [(5,true)] [] [] (Pk (decide_eq_true c1)) ?_;refine tt (b:=true) (rfl) ?_;refine Pl L 240 <| Pd ?_;cases h;exact Pt
 rcases Pc h with ⟨c2,h⟩ |⟨c2,h⟩
 ·refine rg L 204 [(5,false),(12,true)] [] [] (Q2 (decide_eq_false c1) (decide_eq_true c2)) ?_;refine tt (b:=true) (rfl) ?_;refine Pl L 240 <| Pd ?_;cases h;exact Pt
 rcases Pc h with ⟨c3,h⟩ |⟨c3,h⟩
 ·refine rg L 204 [(5,false),(12,false),(19,true)] [] [] (Pf (decide_eq_false c1) (Pf (decide_eq_false c2) (Pk (decide_eq_true c3)))) ?_;refine tt (b:=true) (rfl) ?_;refine Pl L 240 <| Pd ?_;cases h;exact Pt
 rcases Pc h with ⟨c4,h⟩ |⟨c4,h⟩
 ·refine rg L 204 [(5,false),(12,false),(19,false),(26,true)] [] [] (Pf (decide_eq_false c1) (Pf (decide_eq_false c2) (Pf (decide_eq_false c3) (Pk (decide_eq_true c4))))) ?_;refine tt (b:=true) (rfl) ?_;refine Pl L 240 <| Pd ?_;cases h;exact Pt
 refine rg L 204 [(5,false),(12,false),(19,false),(26,false)] [] [] (Pf (decide_eq_false c1) (Pf (decide_eq_false c2) (Pf (decide_eq_false c3) (Pk (decide_eq_false c4))))) ?_;rcases Pc h with ⟨c5,h⟩ |⟨c5,h⟩
 ·refine tT c5 <| Pl L 240 <| Pd ?_;cases h;exact Pt
 refine fF c5 <| Pg <| Pb <| Pl L 242 <| Pj <| Pe (Pa.trans (Pa.kk [2,3,5] [200,201]) (Pa.rr [(200,23100),(201,23101)])) ?_;refine kp (S':=⟨[(2,.P 23100),(3,.P 23101),(5,.I 0)],[(23100,.raw (Ah p0)),(23101,.raw (Ah p1))]⟩) ?_;obtain ⟨o1,hp1,h⟩:=Px h;refine Pu (Q':=fun e S=>(e=.exit 0∧S=⟨[],[]⟩∧Pq.go ()=o1)∨(e=.ret∧∃ a,Pq.done a=o1∧Po P V Tryz.f12 (.B a) [] .ret S)) (Pz (fun k S=>∃ c:Int,S=⟨[(2,.P 23100),(3,.P 23101),(5,.I c)],[(23100,.raw (Ah p0)),(23101,.raw (Ah p1))]⟩∧Bd.l15 K R p0 p1 k c=some o1) ?_ ⟨_,rfl,hp1⟩) ?_
 ·clear h hp1;intro k S hS;obtain ⟨c,rfl,h⟩:=hS;cases k with
  | zero=>cases h
  | succ k =>
  unfold Bd.l15 at h;refine Pb <| Pl L 244 ?_;rcases Pc h with ⟨c6,h⟩ |⟨c6,h⟩
  ·refine tT c6 <| Pg <| Pb <| Pj <| Pb ?_;obtain ⟨g1,h⟩:=Ph h;obtain ⟨g2,h⟩:=Ph h;obtain ⟨a1,h1,h⟩:=bind_some h;refine rd L mixed 250 [] [(10,.B a1)] [] [] 12 (Pf g1.1 (Pf g1.2 (Pf g1.1 (Pf g2 (Pf (Bd.okR hR h1) (Pk trivial)))))) ?_;rcases Pc h with ⟨c7,h⟩ |⟨c7,h⟩
   ·refine ff (b:=(!a1)) (congrArg Bool.not (c7)) ?_;refine Pg <| Se L 265 [] [] [] (S':=⟨[(2,.P 23100),(3,.P 23101),(5,.I (IntKind.i64.wrap (c+1)))],[(23100,.raw (Ah p0)),(23101,.raw (Ah p1))]⟩) ?_;exact ⟨k,Nat.lt_succ_self k,_,rfl,h⟩
   refine tt (b:=(!a1)) (congrArg Bool.not (eq_false_of_ne_true c7)) ?_;refine Pl L 263 <| Pd ?_;cases h;exact .inr ⟨rfl,_,rfl,Pt⟩
  refine fF c6 <| ex (S':=⟨[],[]⟩) ?_;cases h;exact .inl ⟨rfl,rfl,rfl⟩
 ·rintro e S (⟨rfl,rfl,rfl⟩ |⟨rfl,a,rfl,hr⟩)
  ·rcases h with ⟨_,e1,h⟩ |⟨_,e1,h⟩
   ·cases e1
   ·have e2:=Pq.go.inj e1;subst e2;refine ⟨_,Pa.refl,?_⟩;refine Pl L 269 <| Pd ?_;cases h;exact Pt
  ·rcases h with ⟨_,e1,h⟩ |⟨_,e1,h⟩
   ·have e2:=Pq.done.inj e1;subst e2;subst h;exact ⟨_,Pa.refl,hr⟩
   ·cases e1
def Dg.upto (K:Nat):Nat→Dg
 | 0=>⟨fun _ _=>none⟩
 | k+1=>⟨Bd.F K (Dg.upto K k)⟩
theorem Dg.upto_ok (K:Nat):∀ k,(Dg.upto K k).Ok
 | 0=>⟨fun h=>(by cases h)⟩
 | k+1=>⟨fun {p0 p1 r} h=>eo (fn:=Tryz.f12) (n:=60) (m:=100) fun Γ=>Bd.body (K:=K) (Dg.upto_ok K k) h⟩
def Bd (K:Nat) (p0:Aa) (p1:Aa):Option Bool:=(Dg.upto K K).Bd p0 p1
theorem Bd.okE {K:Nat} {p0:Aa} {p1:Aa} {r:Bool} (h:Bd K p0 p1=some r):Pm V P 12 [.agg (Ah p0),.agg (Ah p1)] [] [] (.B r) []:=(Dg.upto_ok K K).Bd h
theorem Bd.ok {K:Nat} {p0:Aa} {p1:Aa} {r:Bool} (h:Bd K p0 p1=some r):Pr V P 12 [.agg (Ah p0),.agg (Ah p1)] (.B r):=(Bd.okE h).pcall (by kernel_rfl)
def E7 (K:Nat) (p0:Aa):Option Bool:=(Option.bind (C2 K p0) (fun a1=>(if a1≤4000 then (Option.bind (Cz K p0) (fun a2=>some (decide (a2≤40)))) else some false)))
theorem E7.body {Γ:P4} {K:Nat} {p0:Aa} {r:Bool} (h:E7 K p0=some r):P1 V P 11 100 Γ (Tryz.f28.body.getD .skip) (Po P V Tryz.f28 (.B r) []) ⟨Pn 0 [.agg (Ah p0)],[]⟩:=by
 unfold E7 at h;refine Pl L 200 <| Pb ?_;obtain ⟨a1,h1,h⟩:=bind_some h;rcases Pc h with ⟨c1,h⟩ |⟨c1,h⟩
 ·obtain ⟨a2,h2,h⟩:=bind_some h;refine rg L 203 [(3,true)] [(1,.I a1),(5,.I a2)] [] (Pf (C2.ok h1) (Pf trivial (Pf (decide_eq_true c1) (Pf (Cz.ok h2) (Pk trivial))))) ?_;refine Pd ?_;cases h;exact Pt
 refine rg L 203 [(3,false)] [(1,.I a1)] [] (Pf (C2.ok h1) (Pf trivial (Pk (decide_eq_false c1)))) ?_;refine Pd ?_;cases h;exact Pt
theorem E7.ok {K:Nat} {p0:Aa} {r:Bool} (h:E7 K p0=some r):Pr V P 28 [.agg (Ah p0)] (.B r):=Pm.pcall (eo (fn:=Tryz.f28) (n:=11) (m:=100) fun Γ=>E7.body h) (by kernel_rfl)
def Ay (K:Nat) (p0:Aa) (p1:Bool) (p2:Bool) (p3:Bool):Option Bool:=(if p1=true then (if p2=true then (if p3=true then some true else some (decide (p0.Int=0))) else (if p0.Text=([]:List UInt8) then (if p3=true then some true else some (decide (p0.Int=0))) else some false)) else (if p0.Name=([]:List UInt8) then (if p2=true then (if p3=true then some true else some (decide (p0.Int=0))) else (if p0.Text=([]:List UInt8) then (if p3=true then some true else some (decide (p0.Int=0))) else some false)) else some false))
theorem Ay.body {Γ:P4} {K:Nat} {p0:Aa} {p1:Bool} {p2:Bool} {p3:Bool} {r:Bool} (h:Ay K p0 p1 p2 p3=some r):P1 V P 31 100 Γ (Tryz.f29.body.getD .skip) (Po P V Tryz.f29 (.B r) []) ⟨Pn 0 [.agg (Ah p0),.B p1,.B p2,.B p3],[]⟩:=by
 unfold Ay at h;refine Pl L 200 <| Pb ?_;rcases Pc h with ⟨c1,h⟩ |⟨c1,h⟩
 ·rcases Pc h with ⟨c2,h⟩ |⟨c2,h⟩
  ·rcases Pc h with ⟨c3,h⟩ |⟨c3,h⟩
   ·refine rg L 203 [(1,true),(8,true),(16,true)] [] [] (Pf c1 (Pf c2 (Pk c3))) ?_;refine Pd ?_;cases h;exact Pt
   refine rg L 203 [(1,true),(8,true),(16,false)] [] [] (Pf c1 (Pf c2 (Pk (eq_false_of_ne_true c3)))) ?_;refine Pd ?_;cases h;exact Pt
  rcases Pc h with ⟨c4,h⟩ |⟨c4,h⟩
  ·rcases Pc h with ⟨c5,h⟩ |⟨c5,h⟩
   ·refine rg L 203 [(1,true),(8,false),(14,true),(16,true)] [] [] (Pf c1 (Pf (eq_false_of_ne_true c2) (Pf (decide_eq_true c4) (Pk c5)))) ?_;refine Pd ?_;cases h;exact Pt
   refine rg L 203 [(1,true),(8,false),(14,true),(16,false)] [] [] (Pf c1 (Pf (eq_false_of_ne_true c2) (Pf (decide_eq_true c4) (Pk (eq_false_of_ne_true c5))))) ?_;refine Pd ?_;cases h;exact Pt
  refine rg L 203 [(1,true),(8,false),(14,false)] [] [] (Pf c1 (Pf (eq_false_of_ne_true c2) (Pk (decide_eq_false c4)))) ?_;refine Pd ?_;cases h;exact Pt
 rcases Pc h with ⟨c6,h⟩ |⟨c6,h⟩
 ·rcases Pc h with ⟨c7,h⟩ |⟨c7,h⟩
  ·rcases Pc h with ⟨c8,h⟩ |⟨c8,h⟩
   ·refine rg L 203 [(1,false),(6,true),(8,true),(16,true)] [] [] (Pf (eq_false_of_ne_true c1) (Pf (decide_eq_true c6) (Pf c7 (Pk c8)))) ?_;refine Pd ?_;cases h;exact Pt
   refine rg L 203 [(1,false),(6,true),(8,true),(16,false)] [] [] (Pf (eq_false_of_ne_true c1) (Pf (decide_eq_true c6) (Pf c7 (Pk (eq_false_of_ne_true c8))))) ?_;refine Pd ?_;cases h;exact Pt
  rcases Pc h with ⟨c9,h⟩ |⟨c9,h⟩
  ·rcases Pc h with ⟨c10,h⟩ |⟨c10,h⟩
   ·refine rg L 203 [(1,false),(6,true),(8,false),(14,true),(16,true)] [] [] (Pf (eq_false_of_ne_true c1) (Pf (decide_eq_true c6) (Pf (eq_false_of_ne_true c7) (Pf (decide_eq_true c9) (Pk c10))))) ?_;refine Pd ?_;cases h;exact Pt
   refine rg L 203 [(1,false),(6,true),(8,false),(14,true),(16,false)] [] [] (Pf (eq_false_of_ne_true c1) (Pf (decide_eq_true c6) (Pf (eq_false_of_ne_true c7) (Pf (decide_eq_true c9) (Pk (eq_false_of_ne_true c10)))))) ?_;refine Pd ?_;cases h;exact Pt
  refine rg L 203 [(1,false),(6,true),(8,false),(14,false)] [] [] (Pf (eq_false_of_ne_true c1) (Pf (decide_eq_true c6) (Pf (eq_false_of_ne_true c7) (Pk (decide_eq_false c9))))) ?_;refine Pd ?_;cases h;exact Pt
 refine rg L 203 [(1,false),(6,false)] [] [] (Q2 (eq_false_of_ne_true c1) (decide_eq_false c6)) ?_;refine Pd ?_;cases h;exact Pt
theorem Ay.ok {K:Nat} {p0:Aa} {p1:Bool} {p2:Bool} {p3:Bool} {r:Bool} (h:Ay K p0 p1 p2 p3=some r):Pr V P 29 [.agg (Ah p0),.B p1,.B p2,.B p3] (.B r):=Pm.pcall (eo (fn:=Tryz.f29) (n:=31) (m:=100) fun Γ=>Ay.body h) (by kernel_rfl)
def B2.l15 (K:Nat) (p0:List UInt8):Nat→Int→Option (Pq Bool Unit)
 | 0,_=>none
 | k+1,a=>(if a <(p0.length:Int) then (if (0:Int)≤a∧(a:Int) <(p0.length:Int) then (if ((p0.getD (Int.toNat a) 0).toNat:Int)≥97 then (if ((p0.getD (Int.toNat a) 0).toNat:Int)≤122 then B2.l15 K p0 k (IntKind.i64.wrap (a+1)) else (if ((p0.getD (Int.toNat a) 0).toNat:Int)≥65 then (if ((p0.getD (Int.toNat a) 0).toNat:Int)≤90 then B2.l15 K p0 k (IntKind.i64.wrap (a+1)) else (if ((p0.getD (Int.toNat a) 0).toNat:Int)≥48 then (if ((p0.getD (Int.toNat a) 0).toNat:Int)≤57 then B2.l15 K p0 k (IntKind.i64.wrap (a+1)) else (if ((p0.getD (Int.toNat a) 0).toNat:Int)=95 then B2.l15 K p0 k (IntKind.i64.wrap (a+1)) else some (Pq.done false))) else (if ((p0.getD (Int.toNat a) 0).toNat:Int)=95 then B2.l15 K p0 k (IntKind.i64.wrap (a+1)) else some (Pq.done false)))) else (if ((p0.getD (Int.toNat a) 0).toNat:Int)≥48 then (if ((p0.getD (Int.toNat a) 0).toNat:Int)≤57 then B2.l15 K p0 k (IntKind.i64.wrap (a+1)) else (if ((p0.getD (Int.toNat a) 0).toNat:Int)=95 then B2.l15 K p0 k (IntKind.i64.wrap (a+1)) else some (Pq.done false))) else (if ((p0.getD (Int.toNat a) 0).toNat:Int)=95 then B2.l15 K p0 k (IntKind.i64.wrap (a+1)) else some (Pq.done false))))) else (if ((p0.getD (Int.toNat a) 0).toNat:Int)≥65 then (if ((p0.getD (Int.toNat a) 0).toNat:Int)≤90 then B2.l15 K p0 k (IntKind.i64.wrap (a+1)) else (if ((p0.getD (Int.toNat a) 0).toNat:Int)≥48 then (if ((p0.getD (Int.toNat a) 0).toNat:Int)≤57 then B2.l15 K p0 k (IntKind.i64.wrap (a+1)) else (if ((p0.getD (Int.toNat a) 0).toNat:Int)=95 then B2.l15 K p0 k (IntKind.i64.wrap (a+1)) else some (Pq.done false))) else (if ((p0.getD (Int.toNat a) 0).toNat:Int)=95 then B2.l15 K p0 k (IntKind.i64.wrap (a+1)) else some (Pq.done false)))) else (if ((p0.getD (Int.toNat a) 0).toNat:Int)≥48 then (if ((p0.getD (Int.toNat a) 0).toNat:Int)≤57 then B2.l15 K p0 k (IntKind.i64.wrap (a+1)) else (if ((p0.getD (Int.toNat a) 0).toNat:Int)=95 then B2.l15 K p0 k (IntKind.i64.wrap (a+1)) else some (Pq.done false))) else (if ((p0.getD (Int.toNat a) 0).toNat:Int)=95 then B2.l15 K p0 k (IntKind.i64.wrap (a+1)) else some (Pq.done false))))) else none) else some (Pq.go ()))
def B2 (K:Nat) (p0:List UInt8):Option Bool:=(obind (((if (p0.length:Int) < 1 then some (Pq.done false) else (if (p0.length:Int) > 64 then some (Pq.done false) else (Option.bind (Eo K p0) (fun a1=>(if a1=true then some (Pq.done false) else (if (0:Int) <(p0.length:Int) then (if ((p0.getD (Int.toNat 0) 0).toNat:Int)≥48 then (if ((p0.getD (Int.toNat 0) 0).toNat:Int)≤57 then some (Pq.done false) else some (Pq.go ())) else some (Pq.go ())) else none))))))):Option (Pq Bool Unit)) (fun r=>r) (fun _=>(obind (B2.l15 K p0 K 0:Option (Pq Bool Unit)) (fun r=>r) (fun _=>some true))))
theorem B2.body {Γ:P4} {K:Nat} {p0:List UInt8} {r:Bool} (h:B2 K p0=some r):P1 V P 63 100 Γ (Tryz.f58.body.getD .skip) (Po P V Tryz.f58 (.B r) []) ⟨Pn 0 [.cv (.str p0)],[]⟩:=by
 unfold B2 at h;refine Pl L 200 ?_;obtain ⟨o1,hp1,h⟩:=Px h;refine Pb (P3 (Q':=fun e S=>(e=.normal∧S=⟨[(0,.cv (.str p0))],[]⟩∧Pq.go ()=o1)∨(e=.ret∧∃ a,Pq.done a=o1∧Po P V Tryz.f58 (.B a) [] .ret S)) ?_ ?_)
 ·clear h;replace h:=hp1;refine Pb ?_;rcases Pc h with ⟨c1,h⟩ |⟨c1,h⟩
  ·refine rg L 202 [(3,true)] [] [] (Pk (decide_eq_true c1)) ?_;refine tt (b:=true) (rfl) ?_;refine Pl L 225 <| Pd ?_;cases h;exact .inr ⟨rfl,_,rfl,Pt⟩
  rcases Pc h with ⟨c2,h⟩ |⟨c2,h⟩
  ·refine rg L 202 [(3,false),(8,true)] [] [] (Q2 (decide_eq_false c1) (decide_eq_true c2)) ?_;refine tt (b:=true) (rfl) ?_;refine Pl L 225 <| Pd ?_;cases h;exact .inr ⟨rfl,_,rfl,Pt⟩
  obtain ⟨a1,h1,h⟩:=bind_some h;rcases Pc h with ⟨c3,h⟩ |⟨c3,h⟩
  ·refine rg L 202 [(3,false),(8,false),(12,true)] [(10,.B a1)] [] (Pf (decide_eq_false c1) (Pf (decide_eq_false c2) (Pf (Eo.ok h1) (Pf trivial (Pk c3))))) ?_;refine tt (b:=true) (rfl) ?_;refine Pl L 225 <| Pd ?_;cases h;exact .inr ⟨rfl,_,rfl,Pt⟩
  obtain ⟨g1,h⟩:=Ph h;rcases Pc h with ⟨c4,h⟩ |⟨c4,h⟩
  ·refine rg L 202 [(3,false),(8,false),(12,false),(16,true)] [(10,.B a1)] [] (Pf (decide_eq_false c1) (Pf (decide_eq_false c2) (Pf (Eo.ok h1) (Pf trivial (Pf (eq_false_of_ne_true c3) (Pf (show (0:Int)≤0 from by decide) (Pf g1 (Pf (decide_eq_true c4) (Pf (show (0:Int)≤0 from by decide) (Pk g1)))))))))) ?_;rcases Pc h with ⟨c5,h⟩ |⟨c5,h⟩
   ·refine tT c5 <| Pl L 225 <| Pd ?_;cases h;exact .inr ⟨rfl,_,rfl,Pt⟩
   refine fF c5 <| sk (S':=⟨[(0,.cv (.str p0))],[]⟩) ?_;cases h;exact .inl ⟨rfl,rfl,rfl⟩
  refine rg L 202 [(3,false),(8,false),(12,false),(16,false)] [(10,.B a1)] [] (Pf (decide_eq_false c1) (Pf (decide_eq_false c2) (Pf (Eo.ok h1) (Pf trivial (Pf (eq_false_of_ne_true c3) (Pf (show (0:Int)≤0 from by decide) (Pf g1 (Pk (decide_eq_false c4))))))))) ?_;refine ff (b:=false) (rfl) ?_;refine sk (S':=⟨[(0,.cv (.str p0))],[]⟩) ?_;cases h;exact .inl ⟨rfl,rfl,rfl⟩
 ·rintro e S (⟨rfl,rfl,rfl⟩ |⟨rfl,a,rfl,hr⟩)
  ·rcases h with ⟨_,e1,h⟩ |⟨_,e1,h⟩
   ·cases e1
   ·have e2:=Pq.go.inj e1;subst e2;refine Pb <| Pl L 227 <| Pj <| kp (S':=⟨[(0,.cv (.str p0)),(28,.I (p0.length:Int)),(29,.I 0)],[]⟩) ?_;obtain ⟨o2,hp2,h⟩:=Px h;refine Pu (Q':=fun e S=>(e=.exit 0∧S=⟨[],[]⟩∧Pq.go ()=o2)∨(e=.ret∧∃ a,Pq.done a=o2∧Po P V Tryz.f58 (.B a) [] .ret S)) (Pz (fun k S=>∃ c:Int,S=⟨[(0,.cv (.str p0)),(28,.I (p0.length:Int)),(29,.I c)],[]⟩∧B2.l15 K p0 k c=some o2) ?_ ⟨_,rfl,hp2⟩) ?_
    ·clear h hp2;intro k S hS;obtain ⟨c,rfl,h⟩:=hS;cases k with
     | zero=>cases h
     | succ k =>
     unfold B2.l15 at h;refine Pl L 231 <| Pb ?_;rcases Pc h with ⟨c6,h⟩ |⟨c6,h⟩
     ·refine tT c6 <| Pg <| Pb <| Pj <| Pl L 233 <| Pb ?_;obtain ⟨g2,h⟩:=Ph h;refine rg L 236 [] [] [] (Q2 g2.1 g2.2) ?_;refine Pb ?_;rcases Pc h with ⟨c7,h⟩ |⟨c7,h⟩
      ·rcases Pc h with ⟨c8,h⟩ |⟨c8,h⟩
       ·refine rg L 241 [(2,true),(6,true)] [] [] (Q2 (decide_eq_true c7) (decide_eq_true c8)) ?_;refine ff (b:=false) (rfl) ?_;refine Pg <| Se L 271 [] [] [] (S':=⟨[(0,.cv (.str p0)),(28,.I (p0.length:Int)),(29,.I (IntKind.i64.wrap (c+1)))],[]⟩) ?_;exact ⟨k,Nat.lt_succ_self k,_,rfl,h⟩
       rcases Pc h with ⟨c9,h⟩ |⟨c9,h⟩
       ·rcases Pc h with ⟨c10,h⟩ |⟨c10,h⟩
        ·refine rg L 241 [(2,true),(6,false),(9,true),(14,true)] [] [] (Pf (decide_eq_true c7) (Pf (decide_eq_false c8) (Pf (decide_eq_true c9) (Pk (decide_eq_true c10))))) ?_;refine ff (b:=false) (rfl) ?_;refine Pg <| Se L 271 [] [] [] (S':=⟨[(0,.cv (.str p0)),(28,.I (p0.length:Int)),(29,.I (IntKind.i64.wrap (c+1)))],[]⟩) ?_;exact ⟨k,Nat.lt_succ_self k,_,rfl,h⟩
        rcases Pc h with ⟨c11,h⟩ |⟨c11,h⟩
        ·rcases Pc h with ⟨c12,h⟩ |⟨c12,h⟩
         ·refine rg L 241 [(2,true),(6,false),(9,true),(14,false),(17,true),(22,true)] [] [] (Pf (decide_eq_true c7) (Pf (decide_eq_false c8) (Pf (decide_eq_true c9) (Pf (decide_eq_false c10) (Pf (decide_eq_true c11) (Pk (decide_eq_true c12))))))) ?_;refine ff (b:=false) (rfl) ?_;refine Pg <| Se L 271 [] [] [] (S':=⟨[(0,.cv (.str p0)),(28,.I (p0.length:Int)),(29,.I (IntKind.i64.wrap (c+1)))],[]⟩) ?_;exact ⟨k,Nat.lt_succ_self k,_,rfl,h⟩
         refine rg L 241 [(2,true),(6,false),(9,true),(14,false),(17,true),(22,false)] [] [] (Pf (decide_eq_true c7) (Pf (decide_eq_false c8) (Pf (decide_eq_true c9) (Pf (decide_eq_false c10) (Pf (decide_eq_true c11) (Pk (decide_eq_false c12))))))) ?_;rcases Pc h with ⟨c13,h⟩ |⟨c13,h⟩
         ·refine ff (b:=(!(decide (((p0.getD (Int.toNat c) 0).toNat:Int)=95)))) (congrArg Bool.not (decide_eq_true c13)) ?_;refine Pg <| Se L 271 [] [] [] (S':=⟨[(0,.cv (.str p0)),(28,.I (p0.length:Int)),(29,.I (IntKind.i64.wrap (c+1)))],[]⟩) ?_;exact ⟨k,Nat.lt_succ_self k,_,rfl,h⟩
         refine tt (b:=(!(decide (((p0.getD (Int.toNat c) 0).toNat:Int)=95)))) (congrArg Bool.not (decide_eq_false c13)) ?_;refine Pl L 269 <| Pd ?_;cases h;exact .inr ⟨rfl,_,rfl,Pt⟩
        refine rg L 241 [(2,true),(6,false),(9,true),(14,false),(17,false)] [] [] (Pf (decide_eq_true c7) (Pf (decide_eq_false c8) (Pf (decide_eq_true c9) (Pf (decide_eq_false c10) (Pk (decide_eq_false c11)))))) ?_;rcases Pc h with ⟨c14,h⟩ |⟨c14,h⟩
        ·refine ff (b:=(!(decide (((p0.getD (Int.toNat c) 0).toNat:Int)=95)))) (congrArg Bool.not (decide_eq_true c14)) ?_;refine Pg <| Se L 271 [] [] [] (S':=⟨[(0,.cv (.str p0)),(28,.I (p0.length:Int)),(29,.I (IntKind.i64.wrap (c+1)))],[]⟩) ?_;exact ⟨k,Nat.lt_succ_self k,_,rfl,h⟩
        refine tt (b:=(!(decide (((p0.getD (Int.toNat c) 0).toNat:Int)=95)))) (congrArg Bool.not (decide_eq_false c14)) ?_;refine Pl L 269 <| Pd ?_;cases h;exact .inr ⟨rfl,_,rfl,Pt⟩
       rcases Pc h with ⟨c15,h⟩ |⟨c15,h⟩
       ·rcases Pc h with ⟨c16,h⟩ |⟨c16,h⟩
        ·refine rg L 241 [(2,true),(6,false),(9,false),(17,true),(22,true)] [] [] (Pf (decide_eq_true c7) (Pf (decide_eq_false c8) (Pf (decide_eq_false c9) (Pf (decide_eq_true c15) (Pk (decide_eq_true c16)))))) ?_;refine ff (b:=false) (rfl) ?_;refine Pg <| Se L 271 [] [] [] (S':=⟨[(0,.cv (.str p0)),(28,.I (p0.length:Int)),(29,.I (IntKind.i64.wrap (c+1)))],[]⟩) ?_;exact ⟨k,Nat.lt_succ_self k,_,rfl,h⟩
        refine rg L 241 [(2,true),(6,false),(9,false),(17,true),(22,false)] [] [] (Pf (decide_eq_true c7) (Pf (decide_eq_false c8) (Pf (decide_eq_false c9) (Pf (decide_eq_true c15) (Pk (decide_eq_false c16)))))) ?_;rcases Pc h with ⟨c17,h⟩ |⟨c17,h⟩
        ·refine ff (b:=(!(decide (((p0.getD (Int.toNat c) 0).toNat:Int)=95)))) (congrArg Bool.not (decide_eq_true c17)) ?_;refine Pg <| Se L 271 [] [] [] (S':=⟨[(0,.cv (.str p0)),(28,.I (p0.length:Int)),(29,.I (IntKind.i64.wrap (c+1)))],[]⟩) ?_;exact ⟨k,Nat.lt_succ_self k,_,rfl,h⟩
        refine tt (b:=(!(decide (((p0.getD (Int.toNat c) 0).toNat:Int)=95)))) (congrArg Bool.not (decide_eq_false c17)) ?_;refine Pl L 269 <| Pd ?_;cases h;exact .inr ⟨rfl,_,rfl,Pt⟩
       refine rg L 241 [(2,true),(6,false),(9,false),(17,false)] [] [] (Pf (decide_eq_true c7) (Pf (decide_eq_false c8) (Pf (decide_eq_false c9) (Pk (decide_eq_false c15))))) ?_;rcases Pc h with ⟨c18,h⟩ |⟨c18,h⟩
       ·refine ff (b:=(!(decide (((p0.getD (Int.toNat c) 0).toNat:Int)=95)))) (congrArg Bool.not (decide_eq_true c18)) ?_;refine Pg <| Se L 271 [] [] [] (S':=⟨[(0,.cv (.str p0)),(28,.I (p0.length:Int)),(29,.I (IntKind.i64.wrap (c+1)))],[]⟩) ?_;exact ⟨k,Nat.lt_succ_self k,_,rfl,h⟩
       refine tt (b:=(!(decide (((p0.getD (Int.toNat c) 0).toNat:Int)=95)))) (congrArg Bool.not (decide_eq_false c18)) ?_;refine Pl L 269 <| Pd ?_;cases h;exact .inr ⟨rfl,_,rfl,Pt⟩
      rcases Pc h with ⟨c19,h⟩ |⟨c19,h⟩
      ·rcases Pc h with ⟨c20,h⟩ |⟨c20,h⟩
       ·refine rg L 241 [(2,false),(9,true),(14,true)] [] [] (Pf (decide_eq_false c7) (Pf (decide_eq_true c19) (Pk (decide_eq_true c20)))) ?_;refine ff (b:=false) (rfl) ?_;refine Pg <| Se L 271 [] [] [] (S':=⟨[(0,.cv (.str p0)),(28,.I (p0.length:Int)),(29,.I (IntKind.i64.wrap (c+1)))],[]⟩) ?_;exact ⟨k,Nat.lt_succ_self k,_,rfl,h⟩
       rcases Pc h with ⟨c21,h⟩ |⟨c21,h⟩
       ·rcases Pc h with ⟨c22,h⟩ |⟨c22,h⟩
        ·refine rg L 241 [(2,false),(9,true),(14,false),(17,true),(22,true)] [] [] (Pf (decide_eq_false c7) (Pf (decide_eq_true c19) (Pf (decide_eq_false c20) (Pf (decide_eq_true c21) (Pk (decide_eq_true c22)))))) ?_;refine ff (b:=false) (rfl) ?_;refine Pg <| Se L 271 [] [] [] (S':=⟨[(0,.cv (.str p0)),(28,.I (p0.length:Int)),(29,.I (IntKind.i64.wrap (c+1)))],[]⟩) ?_;exact ⟨k,Nat.lt_succ_self k,_,rfl,h⟩
        refine rg L 241 [(2,false),(9,true),(14,false),(17,true),(22,false)] [] [] (Pf (decide_eq_false c7) (Pf (decide_eq_true c19) (Pf (decide_eq_false c20) (Pf (decide_eq_true c21) (Pk (decide_eq_false c22)))))) ?_;rcases Pc h with ⟨c23,h⟩ |⟨c23,h⟩
        ·refine ff (b:=(!(decide (((p0.getD (Int.toNat c) 0).toNat:Int)=95)))) (congrArg Bool.not (decide_eq_true c23)) ?_;refine Pg <| Se L 271 [] [] [] (S':=⟨[(0,.cv (.str p0)),(28,.I (p0.length:Int)),(29,.I (IntKind.i64.wrap (c+1)))],[]⟩) ?_;exact ⟨k,Nat.lt_succ_self k,_,rfl,h⟩
        refine tt (b:=(!(decide (((p0.getD (Int.toNat c) 0).toNat:Int)=95)))) (congrArg Bool.not (decide_eq_false c23)) ?_;refine Pl L 269 <| Pd ?_;cases h;exact .inr ⟨rfl,_,rfl,Pt⟩
       refine rg L 241 [(2,false),(9,true),(14,false),(17,false)] [] [] (Pf (decide_eq_false c7) (Pf (decide_eq_true c19) (Pf (decide_eq_false c20) (Pk (decide_eq_false c21))))) ?_;rcases Pc h with ⟨c24,h⟩ |⟨c24,h⟩
       ·refine ff (b:=(!(decide (((p0.getD (Int.toNat c) 0).toNat:Int)=95)))) (congrArg Bool.not (decide_eq_true c24)) ?_;refine Pg <| Se L 271 [] [] [] (S':=⟨[(0,.cv (.str p0)),(28,.I (p0.length:Int)),(29,.I (IntKind.i64.wrap (c+1)))],[]⟩) ?_;exact ⟨k,Nat.lt_succ_self k,_,rfl,h⟩
       refine tt (b:=(!(decide (((p0.getD (Int.toNat c) 0).toNat:Int)=95)))) (congrArg Bool.not (decide_eq_false c24)) ?_;refine Pl L 269 <| Pd ?_;cases h;exact .inr ⟨rfl,_,rfl,Pt⟩
      rcases Pc h with ⟨c25,h⟩ |⟨c25,h⟩
      ·rcases Pc h with ⟨c26,h⟩ |⟨c26,h⟩
       ·refine rg L 241 [(2,false),(9,false),(17,true),(22,true)] [] [] (Pf (decide_eq_false c7) (Pf (decide_eq_false c19) (Pf (decide_eq_true c25) (Pk (decide_eq_true c26))))) ?_;refine ff (b:=false) (rfl) ?_;refine Pg <| Se L 271 [] [] [] (S':=⟨[(0,.cv (.str p0)),(28,.I (p0.length:Int)),(29,.I (IntKind.i64.wrap (c+1)))],[]⟩) ?_;exact ⟨k,Nat.lt_succ_self k,_,rfl,h⟩
       refine rg L 241 [(2,false),(9,false),(17,true),(22,false)] [] [] (Pf (decide_eq_false c7) (Pf (decide_eq_false c19) (Pf (decide_eq_true c25) (Pk (decide_eq_false c26))))) ?_;rcases Pc h with ⟨c27,h⟩ |⟨c27,h⟩
       ·refine ff (b:=(!(decide (((p0.getD (Int.toNat c) 0).toNat:Int)=95)))) (congrArg Bool.not (decide_eq_true c27)) ?_;refine Pg <| Se L 271 [] [] [] (S':=⟨[(0,.cv (.str p0)),(28,.I (p0.length:Int)),(29,.I (IntKind.i64.wrap (c+1)))],[]⟩) ?_;exact ⟨k,Nat.lt_succ_self k,_,rfl,h⟩
       refine tt (b:=(!(decide (((p0.getD (Int.toNat c) 0).toNat:Int)=95)))) (congrArg Bool.not (decide_eq_false c27)) ?_;refine Pl L 269 <| Pd ?_;cases h;exact .inr ⟨rfl,_,rfl,Pt⟩
      refine rg L 241 [(2,false),(9,false),(17,false)] [] [] (Pf (decide_eq_false c7) (Pf (decide_eq_false c19) (Pk (decide_eq_false c25)))) ?_;rcases Pc h with ⟨c28,h⟩ |⟨c28,h⟩
      ·refine ff (b:=(!(decide (((p0.getD (Int.toNat c) 0).toNat:Int)=95)))) (congrArg Bool.not (decide_eq_true c28)) ?_;refine Pg <| Se L 271 [] [] [] (S':=⟨[(0,.cv (.str p0)),(28,.I (p0.length:Int)),(29,.I (IntKind.i64.wrap (c+1)))],[]⟩) ?_;exact ⟨k,Nat.lt_succ_self k,_,rfl,h⟩
      refine tt (b:=(!(decide (((p0.getD (Int.toNat c) 0).toNat:Int)=95)))) (congrArg Bool.not (decide_eq_false c28)) ?_;refine Pl L 269 <| Pd ?_;cases h;exact .inr ⟨rfl,_,rfl,Pt⟩
     refine fF c6 <| ex (S':=⟨[],[]⟩) ?_;cases h;exact .inl ⟨rfl,rfl,rfl⟩
    ·rintro e S (⟨rfl,rfl,rfl⟩ |⟨rfl,a,rfl,hr⟩)
     ·rcases h with ⟨_,e1,h⟩ |⟨_,e1,h⟩
      ·cases e1
      ·have e2:=Pq.go.inj e1;subst e2;refine ⟨_,Pa.refl,?_⟩;refine Pl L 274 <| Pd ?_;cases h;exact Pt
     ·rcases h with ⟨_,e1,h⟩ |⟨_,e1,h⟩
      ·have e2:=Pq.done.inj e1;subst e2;subst h;exact ⟨_,Pa.refl,hr⟩
      ·cases e1
  ·rcases h with ⟨_,e1,h⟩ |⟨_,e1,h⟩
   ·have e2:=Pq.done.inj e1;subst e2;subst h;exact hr
   ·cases e1
theorem B2.ok {K:Nat} {p0:List UInt8} {r:Bool} (h:B2 K p0=some r):Pr V P 58 [.cv (.str p0)] (.B r):=Pm.pcall (eo (fn:=Tryz.f58) (n:=63) (m:=100) fun Γ=>B2.body h) (by kernel_rfl)
structure Az where
 Dz:Aa→Option Bool
 Dc:Aa→Option Bool
 Ce:(List Aa)→Option Int
 Cj:(List Aa)→Option Bool
 Dn:(List Aa)→Option Bool
 De:Aa→Option Bool
 Cg:(List Aa)→Option Int
 Cm:(List Aa)→Option Bool
 C1:(List Aa)→Option Bool
 B4:Aa→Option Bool
structure Az.Ok (R:Az):Prop where
 Dz:∀ {p0:Aa} {r:Bool},R.Dz p0=some r→Pm V P 64 [.agg (Ah p0)] [] [] (.B r) []
 Dc:∀ {p0:Aa} {r:Bool},R.Dc p0=some r→Pm V P 57 [.agg (Ah p0),.cv (.pcs [.fn (.func 64) [] []] 0)] [] [] (.B r) []
 Ce:∀ {p0:List Aa} {r:Int},R.Ce p0=some r→Pm V P 90 [.cv (.ro .Af p0),.cv (.fn (.func 57) [] [.pcs [.fn (.func 64) [] []] 0])] [] [] (.I r) []
 Cj:∀ {p0:List Aa} {r:Bool},R.Cj p0=some r→Pm V P 56 [.cv (.ro .Af p0),.cv (.fn (.func 57) [] [.pcs [.fn (.func 64) [] []] 0])] [] [] (.B r) []
 Dn:∀ {p0:List Aa} {r:Bool},R.Dn p0=some r→Pm V P 30 [.cv (.ro .Af p0),.cv (.fn (.func 64) [] [])] [] [] (.B r) []
 De:∀ {p0:Aa} {r:Bool},R.De p0=some r→Pm V P 57 [.agg (Ah p0),.cv (.pcs [.fn (.func 33) [] []] 0)] [] [] (.B r) []
 Cg:∀ {p0:List Aa} {r:Int},R.Cg p0=some r→Pm V P 90 [.cv (.ro .Af p0),.cv (.fn (.func 57) [] [.pcs [.fn (.func 33) [] []] 0])] [] [] (.I r) []
 Cm:∀ {p0:List Aa} {r:Bool},R.Cm p0=some r→Pm V P 56 [.cv (.ro .Af p0),.cv (.fn (.func 57) [] [.pcs [.fn (.func 33) [] []] 0])] [] [] (.B r) []
 C1:∀ {p0:List Aa} {r:Bool},R.C1 p0=some r→Pm V P 30 [.cv (.ro .Af p0),.cv (.fn (.func 33) [] [])] [] [] (.B r) []
 B4:∀ {p0:Aa} {r:Bool},R.B4 p0=some r→Pm V P 33 [.agg (Ah p0)] [] [] (.B r) []
theorem Dz.okR {R:Az} (hR:R.Ok) {p0:Aa} {r:Bool} (h:R.Dz p0=some r):Pr V P 64 [.agg (Ah p0)] (.B r):=(hR.Dz h).pcall (by kernel_rfl)
theorem Dc.okR {R:Az} (hR:R.Ok) {p0:Aa} {r:Bool} (h:R.Dc p0=some r):Pr V P 57 [.agg (Ah p0),.cv (.pcs [.fn (.func 64) [] []] 0)] (.B r):=(hR.Dc h).pcall (by kernel_rfl)
theorem Ce.okR {R:Az} (hR:R.Ok) {p0:List Aa} {r:Int} (h:R.Ce p0=some r):Pr V P 90 [.cv (.ro .Af p0),.cv (.fn (.func 57) [] [.pcs [.fn (.func 64) [] []] 0])] (.I r):=(hR.Ce h).pcall (by kernel_rfl)
theorem Cj.okR {R:Az} (hR:R.Ok) {p0:List Aa} {r:Bool} (h:R.Cj p0=some r):Pr V P 56 [.cv (.ro .Af p0),.cv (.fn (.func 57) [] [.pcs [.fn (.func 64) [] []] 0])] (.B r):=(hR.Cj h).pcall (by kernel_rfl)
theorem Dn.okR {R:Az} (hR:R.Ok) {p0:List Aa} {r:Bool} (h:R.Dn p0=some r):Pr V P 30 [.cv (.ro .Af p0),.cv (.fn (.func 64) [] [])] (.B r):=(hR.Dn h).pcall (by kernel_rfl)
theorem De.okR {R:Az} (hR:R.Ok) {p0:Aa} {r:Bool} (h:R.De p0=some r):Pr V P 57 [.agg (Ah p0),.cv (.pcs [.fn (.func 33) [] []] 0)] (.B r):=(hR.De h).pcall (by kernel_rfl)
theorem Cg.okR {R:Az} (hR:R.Ok) {p0:List Aa} {r:Int} (h:R.Cg p0=some r):Pr V P 90 [.cv (.ro .Af p0),.cv (.fn (.func 57) [] [.pcs [.fn (.func 33) [] []] 0])] (.I r):=(hR.Cg h).pcall (by kernel_rfl)
theorem Cm.okR {R:Az} (hR:R.Ok) {p0:List Aa} {r:Bool} (h:R.Cm p0=some r):Pr V P 56 [.cv (.ro .Af p0),.cv (.fn (.func 57) [] [.pcs [.fn (.func 33) [] []] 0])] (.B r):=(hR.Cm h).pcall (by kernel_rfl)
theorem C1.okR {R:Az} (hR:R.Ok) {p0:List Aa} {r:Bool} (h:R.C1 p0=some r):Pr V P 30 [.cv (.ro .Af p0),.cv (.fn (.func 33) [] [])] (.B r):=(hR.C1 h).pcall (by kernel_rfl)
theorem B4.okR {R:Az} (hR:R.Ok) {p0:Aa} {r:Bool} (h:R.B4 p0=some r):Pr V P 33 [.agg (Ah p0)] (.B r):=(hR.B4 h).pcall (by kernel_rfl)
def Dz.F (K:Nat) (R:Az) (p0:Aa):Option Bool:=(if p0.Op=9 then (Option.bind (Ay K p0 false true false) (fun a1=>(if a1=true then (if (p0.Text.length:Int)≤4096 then (if (p0.Kids.length:Int)=1 then (if (0:Int) <(p0.Kids.length:Int) then (Option.bind (R.B4 (p0.Kids.getD (Int.toNat 0) Ca)) (fun a2=>some a2)) else none) else some false) else some false) else some false))) else some false)
theorem Dz.body {Γ:P4} {K:Nat} {R:Az} (hR:R.Ok) {p0:Aa} {r:Bool} (h:Dz.F K R p0=some r):P1 V P 29 100 Γ (Tryz.f64.body.getD .skip) (Po P V Tryz.f64 (.B r) []) ⟨Pn 0 [.agg (Ah p0)],[]⟩:=by
 unfold Dz.F at h;refine Pl L 200 <| Pb ?_;rcases Pc h with ⟨c1,h⟩ |⟨c1,h⟩
 ·obtain ⟨a1,h1,h⟩:=bind_some h;rcases Pc h with ⟨c2,h⟩ |⟨c2,h⟩
  ·rcases Pc h with ⟨c3,h⟩ |⟨c3,h⟩
   ·rcases Pc h with ⟨c4,h⟩ |⟨c4,h⟩
    ·obtain ⟨g1,h⟩:=Ph h;obtain ⟨a2,h2,h⟩:=bind_some h;refine rg L 203 [(3,true),(7,true),(13,true),(19,true)] [(5,.B a1),(24,.B a2)] [] (Pf (decide_eq_true c1) (Pf (Ay.ok h1) (Pf trivial (Pf c2 (Pf (decide_eq_true c3) (Pf (decide_eq_true c4) (Pf (show (0:Int)≤0 from by decide) (Pf g1 (Pf (B4.okR hR h2) (Pk trivial)))))))))) ?_;refine Pd ?_;cases h;exact Pt
    refine rg L 203 [(3,true),(7,true),(13,true),(19,false)] [(5,.B a1)] [] (Pf (decide_eq_true c1) (Pf (Ay.ok h1) (Pf trivial (Pf c2 (Pf (decide_eq_true c3) (Pk (decide_eq_false c4))))))) ?_;refine Pd ?_;cases h;exact Pt
   refine rg L 203 [(3,true),(7,true),(13,false)] [(5,.B a1)] [] (Pf (decide_eq_true c1) (Pf (Ay.ok h1) (Pf trivial (Pf c2 (Pk (decide_eq_false c3)))))) ?_;refine Pd ?_;cases h;exact Pt
  refine rg L 203 [(3,true),(7,false)] [(5,.B a1)] [] (Pf (decide_eq_true c1) (Pf (Ay.ok h1) (Pf trivial (Pk (eq_false_of_ne_true c2))))) ?_;refine Pd ?_;cases h;exact Pt
 refine rg L 203 [(3,false)] [] [] (Pk (decide_eq_false c1)) ?_;refine Pd ?_;cases h;exact Pt
def Dc.F (K:Nat) (R:Az) (p0:Aa):Option Bool:=(Option.bind (R.Dz p0) (fun a1=>some (!a1)))
theorem Dc.body {Γ:P4} {K:Nat} {R:Az} (hR:R.Ok) {p0:Aa} {r:Bool} (h:Dc.F K R p0=some r):P1 V P 8 100 Γ (Tryz.f57.body.getD .skip) (Po P V Tryz.f57 (.B r) []) ⟨Pn 0 [.agg (Ah p0),.cv (.pcs [.fn (.func 64) [] []] 0)],[]⟩:=by
 unfold Dc.F at h;refine Pl L 200 <| Pb ?_;obtain ⟨a1,h1,h⟩:=bind_some h;refine rg L 203 [] [(2,.B a1)] [] (Qu (Dz.okR hR h1)) ?_;refine Pd ?_;cases h;exact Pt
def Ce.l7 (K:Nat) (R:Az) (p0:List Aa):Nat→Int→Option (Pq Int Unit)
 | 0,_=>none
 | k+1,a=>(if a <(p0.length:Int) then (if (0:Int)≤a∧(a:Int) <(p0.length:Int) then (Option.bind (R.Dc (p0.getD (Int.toNat a) Ca)) (fun a1=>(if a1=true then some (Pq.done a) else Ce.l7 K R p0 k (IntKind.i64.wrap (a+1))))) else none) else some (Pq.go ()))
def Ce.F (K:Nat) (R:Az) (p0:List Aa):Option Int:=(obind (Ce.l7 K R p0 K 0:Option (Pq Int Unit)) (fun r=>r) (fun _=>some (-1)))
theorem Ce.body {Γ:P4} {K:Nat} {R:Az} (hR:R.Ok) {p0:List Aa} {r:Int} (h:Ce.F K R p0=some r):P1 V P 19 100 Γ (Tryz.f90.body.getD .skip) (Po P V Tryz.f90 (.I r) []) ⟨Pn 0 [.cv (.ro .Af p0),.cv (.fn (.func 57) [] [.pcs [.fn (.func 64) [] []] 0])],[]⟩:=by
 unfold Ce.F at h;refine Pl L 200 <| Pb <| Pl L 202 <| Pj <| kp (S':=⟨[(0,.cv (.ro .Af p0)),(1,.cv (.fn (.func 57) [] [.pcs [.fn (.func 64) [] []] 0])),(7,.I (p0.length:Int)),(8,.I 0)],[]⟩) ?_;obtain ⟨o1,hp1,h⟩:=Px h;refine Pu (Q':=fun e S=>(e=.exit 0∧S=⟨[],[]⟩∧Pq.go ()=o1)∨(e=.ret∧∃ a,Pq.done a=o1∧Po P V Tryz.f90 (.I a) [] .ret S)) (Pz (fun k S=>∃ b:Int,S=⟨[(0,.cv (.ro .Af p0)),(1,.cv (.fn (.func 57) [] [.pcs [.fn (.func 64) [] []] 0])),(7,.I (p0.length:Int)),(8,.I b)],[]⟩∧Ce.l7 K R p0 k b=some o1) ?_ ⟨_,rfl,hp1⟩) ?_
 ·clear h hp1;intro k S hS;obtain ⟨b,rfl,h⟩:=hS;cases k with
  | zero=>cases h
  | succ k =>
  unfold Ce.l7 at h;refine Pl L 206 <| Pb ?_;rcases Pc h with ⟨c1,h⟩ |⟨c1,h⟩
  ·refine tT c1 <| Pg <| Pb <| Pj <| Pl L 208 <| Pb ?_;obtain ⟨g1,h⟩:=Ph h;obtain ⟨a1,h1,h⟩:=bind_some h;refine rg L 211 [] [(5,.B a1)] [] (Pf g1.1 (Pf g1.2 (Pf (Dc.okR hR h1) (Pk trivial)))) ?_;rcases Pc h with ⟨c2,h⟩ |⟨c2,h⟩
   ·refine tt c2 <| Pl L 218 <| Pd ?_;cases h;exact .inr ⟨rfl,_,rfl,Pt⟩
   refine fN c2 <| Pg <| Se L 221 [] [] [] (S':=⟨[(0,.cv (.ro .Af p0)),(1,.cv (.fn (.func 57) [] [.pcs [.fn (.func 64) [] []] 0])),(7,.I (p0.length:Int)),(8,.I (IntKind.i64.wrap (b+1)))],[]⟩) ?_;exact ⟨k,Nat.lt_succ_self k,_,rfl,h⟩
  refine fF c1 <| ex (S':=⟨[],[]⟩) ?_;cases h;exact .inl ⟨rfl,rfl,rfl⟩
 ·rintro e S (⟨rfl,rfl,rfl⟩ |⟨rfl,a,rfl,hr⟩)
  ·rcases h with ⟨_,e1,h⟩ |⟨_,e1,h⟩
   ·cases e1
   ·have e2:=Pq.go.inj e1;subst e2;refine ⟨_,Pa.refl,?_⟩;refine Pl L 224 <| Pd ?_;cases h;exact Pt
  ·rcases h with ⟨_,e1,h⟩ |⟨_,e1,h⟩
   ·have e2:=Pq.done.inj e1;subst e2;subst h;exact ⟨_,Pa.refl,hr⟩
   ·cases e1
def Cj.F (K:Nat) (R:Az) (p0:List Aa):Option Bool:=(Option.bind (R.Ce p0) (fun a1=>some (decide (a1≥0))))
theorem Cj.body {Γ:P4} {K:Nat} {R:Az} (hR:R.Ok) {p0:List Aa} {r:Bool} (h:Cj.F K R p0=some r):P1 V P 9 100 Γ (Tryz.f56.body.getD .skip) (Po P V Tryz.f56 (.B r) []) ⟨Pn 0 [.cv (.ro .Af p0),.cv (.fn (.func 57) [] [.pcs [.fn (.func 64) [] []] 0])],[]⟩:=by
 unfold Cj.F at h;refine Pl L 200 <| Pb ?_;obtain ⟨a1,h1,h⟩:=bind_some h;refine rg L 202 [] [(2,.I a1)] [] (Qu (Ce.okR hR h1)) ?_;refine Pd ?_;cases h;exact Pt
def Dn.F (K:Nat) (R:Az) (p0:List Aa):Option Bool:=(Option.bind (R.Cj p0) (fun a1=>some (!a1)))
theorem Dn.body {Γ:P4} {K:Nat} {R:Az} (hR:R.Ok) {p0:List Aa} {r:Bool} (h:Dn.F K R p0=some r):P1 V P 9 100 Γ (Tryz.f30.body.getD .skip) (Po P V Tryz.f30 (.B r) []) ⟨Pn 0 [.cv (.ro .Af p0),.cv (.fn (.func 64) [] [])],[]⟩:=by
 unfold Dn.F at h;refine Pl L 200 <| Pb ?_;obtain ⟨a1,h1,h⟩:=bind_some h;refine rg L 203 [] [(2,.B a1)] [] (Qu (Cj.okR hR h1)) ?_;refine Pd ?_;cases h;exact Pt
def De.F (K:Nat) (R:Az) (p0:Aa):Option Bool:=(Option.bind (R.B4 p0) (fun a1=>some (!a1)))
theorem De.body {Γ:P4} {K:Nat} {R:Az} (hR:R.Ok) {p0:Aa} {r:Bool} (h:De.F K R p0=some r):P1 V P 8 100 Γ (Tryz.f57.body.getD .skip) (Po P V Tryz.f57 (.B r) []) ⟨Pn 0 [.agg (Ah p0),.cv (.pcs [.fn (.func 33) [] []] 0)],[]⟩:=by
 unfold De.F at h;refine Pl L 200 <| Pb ?_;obtain ⟨a1,h1,h⟩:=bind_some h;refine rg L 203 [] [(2,.B a1)] [] (Qu (B4.okR hR h1)) ?_;refine Pd ?_;cases h;exact Pt
def Cg.l7 (K:Nat) (R:Az) (p0:List Aa):Nat→Int→Option (Pq Int Unit)
 | 0,_=>none
 | k+1,a=>(if a <(p0.length:Int) then (if (0:Int)≤a∧(a:Int) <(p0.length:Int) then (Option.bind (R.De (p0.getD (Int.toNat a) Ca)) (fun a1=>(if a1=true then some (Pq.done a) else Cg.l7 K R p0 k (IntKind.i64.wrap (a+1))))) else none) else some (Pq.go ()))
def Cg.F (K:Nat) (R:Az) (p0:List Aa):Option Int:=(obind (Cg.l7 K R p0 K 0:Option (Pq Int Unit)) (fun r=>r) (fun _=>some (-1)))
theorem Cg.body {Γ:P4} {K:Nat} {R:Az} (hR:R.Ok) {p0:List Aa} {r:Int} (h:Cg.F K R p0=some r):P1 V P 19 100 Γ (Tryz.f90.body.getD .skip) (Po P V Tryz.f90 (.I r) []) ⟨Pn 0 [.cv (.ro .Af p0),.cv (.fn (.func 57) [] [.pcs [.fn (.func 33) [] []] 0])],[]⟩:=by
 unfold Cg.F at h;refine Pl L 200 <| Pb <| Pl L 202 <| Pj <| kp (S':=⟨[(0,.cv (.ro .Af p0)),(1,.cv (.fn (.func 57) [] [.pcs [.fn (.func 33) [] []] 0])),(7,.I (p0.length:Int)),(8,.I 0)],[]⟩) ?_;obtain ⟨o1,hp1,h⟩:=Px h;refine Pu (Q':=fun e S=>(e=.exit 0∧S=⟨[],[]⟩∧Pq.go ()=o1)∨(e=.ret∧∃ a,Pq.done a=o1∧Po P V Tryz.f90 (.I a) [] .ret S)) (Pz (fun k S=>∃ b:Int,S=⟨[(0,.cv (.ro .Af p0)),(1,.cv (.fn (.func 57) [] [.pcs [.fn (.func 33) [] []] 0])),(7,.I (p0.length:Int)),(8,.I b)],[]⟩∧Cg.l7 K R p0 k b=some o1) ?_ ⟨_,rfl,hp1⟩) ?_
 ·clear h hp1;intro k S hS;obtain ⟨b,rfl,h⟩:=hS;cases k with
  | zero=>cases h
  | succ k =>
  unfold Cg.l7 at h;refine Pl L 206 <| Pb ?_;rcases Pc h with ⟨c1,h⟩ |⟨c1,h⟩
  ·refine tT c1 <| Pg <| Pb <| Pj <| Pl L 208 <| Pb ?_;obtain ⟨g1,h⟩:=Ph h;obtain ⟨a1,h1,h⟩:=bind_some h;refine rg L 211 [] [(5,.B a1)] [] (Pf g1.1 (Pf g1.2 (Pf (De.okR hR h1) (Pk trivial)))) ?_;rcases Pc h with ⟨c2,h⟩ |⟨c2,h⟩
   ·refine tt c2 <| Pl L 218 <| Pd ?_;cases h;exact .inr ⟨rfl,_,rfl,Pt⟩
   refine fN c2 <| Pg <| Se L 221 [] [] [] (S':=⟨[(0,.cv (.ro .Af p0)),(1,.cv (.fn (.func 57) [] [.pcs [.fn (.func 33) [] []] 0])),(7,.I (p0.length:Int)),(8,.I (IntKind.i64.wrap (b+1)))],[]⟩) ?_;exact ⟨k,Nat.lt_succ_self k,_,rfl,h⟩
  refine fF c1 <| ex (S':=⟨[],[]⟩) ?_;cases h;exact .inl ⟨rfl,rfl,rfl⟩
 ·rintro e S (⟨rfl,rfl,rfl⟩ |⟨rfl,a,rfl,hr⟩)
  ·rcases h with ⟨_,e1,h⟩ |⟨_,e1,h⟩
   ·cases e1
   ·have e2:=Pq.go.inj e1;subst e2;refine ⟨_,Pa.refl,?_⟩;refine Pl L 224 <| Pd ?_;cases h;exact Pt
  ·rcases h with ⟨_,e1,h⟩ |⟨_,e1,h⟩
   ·have e2:=Pq.done.inj e1;subst e2;subst h;exact ⟨_,Pa.refl,hr⟩
   ·cases e1
def Cm.F (K:Nat) (R:Az) (p0:List Aa):Option Bool:=(Option.bind (R.Cg p0) (fun a1=>some (decide (a1≥0))))
theorem Cm.body {Γ:P4} {K:Nat} {R:Az} (hR:R.Ok) {p0:List Aa} {r:Bool} (h:Cm.F K R p0=some r):P1 V P 9 100 Γ (Tryz.f56.body.getD .skip) (Po P V Tryz.f56 (.B r) []) ⟨Pn 0 [.cv (.ro .Af p0),.cv (.fn (.func 57) [] [.pcs [.fn (.func 33) [] []] 0])],[]⟩:=by
 unfold Cm.F at h;refine Pl L 200 <| Pb ?_;obtain ⟨a1,h1,h⟩:=bind_some h;refine rg L 202 [] [(2,.I a1)] [] (Qu (Cg.okR hR h1)) ?_;refine Pd ?_;cases h;exact Pt
def C1.F (K:Nat) (R:Az) (p0:List Aa):Option Bool:=(Option.bind (R.Cm p0) (fun a1=>some (!a1)))
theorem C1.body {Γ:P4} {K:Nat} {R:Az} (hR:R.Ok) {p0:List Aa} {r:Bool} (h:C1.F K R p0=some r):P1 V P 9 100 Γ (Tryz.f30.body.getD .skip) (Po P V Tryz.f30 (.B r) []) ⟨Pn 0 [.cv (.ro .Af p0),.cv (.fn (.func 33) [] [])],[]⟩:=by
 unfold C1.F at h;refine Pl L 200 <| Pb ?_;obtain ⟨a1,h1,h⟩:=bind_some h;refine rg L 203 [] [(2,.B a1)] [] (Qu (Cm.okR hR h1)) ?_;refine Pd ?_;cases h;exact Pt
def B4.F (K:Nat) (R:Az) (p0:Aa):Option Bool:=(Option.bind ((if p0.Op=1 then some true else (if p0.Op=2 then some true else some (decide (p0.Op=3)))):Option Bool) (fun d=>(if d=true then (if (p0.Kids.length:Int)=0 then (Option.bind (Ay K p0 false false false) (fun a1=>some a1)) else some false) else (if p0.Op=4 then (if (p0.Kids.length:Int)=0 then (Option.bind (Ay K p0 false false true) (fun a2=>(if a2=true then some (decide (p0.Int≥0)) else some false))) else some false) else (if p0.Op=5 then (if (p0.Kids.length:Int)=0 then (Option.bind (Ay K p0 false true false) (fun a3=>(if a3=true then some (decide ((p0.Text.length:Int)≤4096)) else some false))) else some false) else (if p0.Op=6 then (if (p0.Kids.length:Int)=0 then (Option.bind (Ay K p0 true false false) (fun a4=>(if a4=true then (Option.bind (B2 K p0.Name) (fun a5=>some a5)) else some false))) else some false) else (if p0.Op=8 then (Option.bind (Ay K p0 false false false) (fun a6=>(if a6=true then (Option.bind (R.Dn p0.Kids) (fun a7=>some a7)) else some false))) else (if p0.Op=7 then (Option.bind (Ay K p0 false false false) (fun a8=>(if a8=true then (Option.bind (R.C1 p0.Kids) (fun a9=>some a9)) else some false))) else (Option.bind ((if p0.Op=10 then some true else some (decide (p0.Op=11))):Option Bool) (fun c=>(if c=true then (Option.bind (Ay K p0 true false false) (fun a10=>(if a10=true then (Option.bind (B2 K p0.Name) (fun a11=>(if a11=true then (Option.bind (R.C1 p0.Kids) (fun a12=>some a12)) else some false))) else some false))) else (if p0.Op=29 then (if (p0.Kids.length:Int)=1 then (Option.bind (Ay K p0 true false false) (fun a13=>(if a13=true then (Option.bind (B2 K p0.Name) (fun a14=>(if a14=true then (if (0:Int) <(p0.Kids.length:Int) then (Option.bind (R.B4 (p0.Kids.getD (Int.toNat 0) Ca)) (fun a15=>some a15)) else none) else some false))) else some false))) else some false) else (Option.bind ((if p0.Op=12 then some true else (if p0.Op=13 then some true else some (decide (p0.Op=14)))):Option Bool) (fun a=>(if a=true then (if (p0.Kids.length:Int)=1 then (Option.bind (Ay K p0 false false false) (fun a16=>(if a16=true then (if (0:Int) <(p0.Kids.length:Int) then (Option.bind (R.B4 (p0.Kids.getD (Int.toNat 0) Ca)) (fun a17=>some a17)) else none) else some false))) else some false) else (Option.bind ((if p0.Op≥15 then some (decide (p0.Op≤28)) else some false):Option Bool) (fun b=>(if b=true then (if (p0.Kids.length:Int)=2 then (Option.bind (Ay K p0 false false false) (fun a18=>(if a18=true then (Option.bind (R.C1 p0.Kids) (fun a19=>some a19)) else some false))) else some false) else some false))))))))))))))))))
theorem B4.body {Γ:P4} {K:Nat} {R:Az} (hR:R.Ok) {p0:Aa} {r:Bool} (h:B4.F K R p0=some r):P1 V P 172 100 Γ (Tryz.f33.body.getD .skip) (Po P V Tryz.f33 (.B r) []) ⟨Pn 0 [.agg (Ah p0)],[]⟩:=by
 unfold B4.F at h;refine Pl L 200 <| Pl L 203 <| Pb <| Pl L 208 <| Pj ?_;obtain ⟨o1,hp1,h⟩:=bind_some h;refine Pb (P3 (Q':=fun e S=>(e=.normal∧∃ d:Bool,S=⟨[(1,.P 21800),(3,.I (p0.Kids.length:Int)),(4,.I p0.Op),(10,.B d)],[(21800,.raw (Ah p0))]⟩∧d=o1)) ?_ ?_)
 ·clear h;replace h:=hp1;rcases Pc h with ⟨c1,h⟩ |⟨c1,h⟩
  ·refine Pp (rg L 212 [(2,true)] [] [] (Pk (decide_eq_true c1)) ⟨rfl,rfl⟩) (Pa.trans (Pa.kk [1,3,4,10] [200]) (Pa.trans (Pa.rr [(200,21800)]) (Pa.kp (S':=⟨[(1,.P 21800),(3,.I (p0.Kids.length:Int)),(4,.I p0.Op),(10,.B true)],[(21800,.raw (Ah p0))]⟩)))) ?_;cases h;exact ⟨rfl,_,rfl,rfl⟩
  rcases Pc h with ⟨c2,h⟩ |⟨c2,h⟩
  ·refine Pp (rg L 212 [(2,false),(6,true)] [] [] (Q2 (decide_eq_false c1) (decide_eq_true c2)) ⟨rfl,rfl⟩) (Pa.trans (Pa.kk [1,3,4,10] [200]) (Pa.trans (Pa.rr [(200,21800)]) (Pa.kp (S':=⟨[(1,.P 21800),(3,.I (p0.Kids.length:Int)),(4,.I p0.Op),(10,.B true)],[(21800,.raw (Ah p0))]⟩)))) ?_;cases h;exact ⟨rfl,_,rfl,rfl⟩
  refine Pp (rg L 212 [(2,false),(6,false)] [] [] (Q2 (decide_eq_false c1) (decide_eq_false c2)) ⟨rfl,rfl⟩) (Pa.trans (Pa.kk [1,3,4,10] [200]) (Pa.trans (Pa.rr [(200,21800)]) (Pa.kp (S':=⟨[(1,.P 21800),(3,.I (p0.Kids.length:Int)),(4,.I p0.Op),(10,.B (decide (p0.Op=3)))],[(21800,.raw (Ah p0))]⟩)))) ?_;cases h;exact ⟨rfl,_,rfl,rfl⟩
 ·rintro e S ⟨rfl,d,rfl,rfl⟩;rcases Pc h with ⟨c3,h⟩ |⟨c3,h⟩
  ·refine tt c3 <| Pb ?_;rcases Pc h with ⟨c4,h⟩ |⟨c4,h⟩
   ·obtain ⟨a1,h1,h⟩:=bind_some h;refine rg L 224 [(2,true)] [(4,.B a1)] [] (Pf (decide_eq_true c4) (Pf (Ay.ok h1) (Pk trivial))) ?_;refine Pd ?_;cases h;exact Pt
   refine rg L 224 [(2,false)] [] [] (Pk (decide_eq_false c4)) ?_;refine Pd ?_;cases h;exact Pt
  refine fN c3 <| Pl L 232 ?_;rcases Pc h with ⟨c5,h⟩ |⟨c5,h⟩
  ·refine tT c5 <| Pb ?_;rcases Pc h with ⟨c6,h⟩ |⟨c6,h⟩
   ·obtain ⟨a2,h2,h⟩:=bind_some h;rcases Pc h with ⟨c7,h⟩ |⟨c7,h⟩
    ·refine rg L 236 [(2,true),(6,true)] [(4,.B a2)] [] (Pf (decide_eq_true c6) (Pf (Ay.ok h2) (Pf trivial (Pk c7)))) ?_;refine Pd ?_;cases h;exact Pt
    refine rg L 236 [(2,true),(6,false)] [(4,.B a2)] [] (Pf (decide_eq_true c6) (Pf (Ay.ok h2) (Pf trivial (Pk (eq_false_of_ne_true c7))))) ?_;refine Pd ?_;cases h;exact Pt
   refine rg L 236 [(2,false)] [] [] (Pk (decide_eq_false c6)) ?_;refine Pd ?_;cases h;exact Pt
  refine fF c5 <| Pl L 249 ?_;rcases Pc h with ⟨c8,h⟩ |⟨c8,h⟩
  ·refine tT c8 <| Pb ?_;rcases Pc h with ⟨c9,h⟩ |⟨c9,h⟩
   ·obtain ⟨a3,h3,h⟩:=bind_some h;rcases Pc h with ⟨c10,h⟩ |⟨c10,h⟩
    ·refine rg L 253 [(2,true),(6,true)] [(4,.B a3)] [] (Pf (decide_eq_true c9) (Pf (Ay.ok h3) (Pf trivial (Pk c10)))) ?_;refine Pd ?_;cases h;exact Pt
    refine rg L 253 [(2,true),(6,false)] [(4,.B a3)] [] (Pf (decide_eq_true c9) (Pf (Ay.ok h3) (Pf trivial (Pk (eq_false_of_ne_true c10))))) ?_;refine Pd ?_;cases h;exact Pt
   refine rg L 253 [(2,false)] [] [] (Pk (decide_eq_false c9)) ?_;refine Pd ?_;cases h;exact Pt
  refine fF c8 <| Pl L 267 ?_;rcases Pc h with ⟨c11,h⟩ |⟨c11,h⟩
  ·refine tT c11 <| Pb ?_;rcases Pc h with ⟨c12,h⟩ |⟨c12,h⟩
   ·obtain ⟨a4,h4,h⟩:=bind_some h;rcases Pc h with ⟨c13,h⟩ |⟨c13,h⟩
    ·obtain ⟨a5,h5,h⟩:=bind_some h;refine rg L 271 [(2,true),(6,true)] [(4,.B a4),(9,.B a5)] [] (Pf (decide_eq_true c12) (Pf (Ay.ok h4) (Pf trivial (Pf c13 (Pf (B2.ok h5) (Pk trivial)))))) ?_;refine Pd ?_;cases h;exact Pt
    refine rg L 271 [(2,true),(6,false)] [(4,.B a4)] [] (Pf (decide_eq_true c12) (Pf (Ay.ok h4) (Pf trivial (Pk (eq_false_of_ne_true c13))))) ?_;refine Pd ?_;cases h;exact Pt
   refine rg L 271 [(2,false)] [] [] (Pk (decide_eq_false c12)) ?_;refine Pd ?_;cases h;exact Pt
  refine fF c11 <| Pl L 284 ?_;rcases Pc h with ⟨c14,h⟩ |⟨c14,h⟩
  ·refine tT c14 <| Pb ?_;obtain ⟨a6,h6,h⟩:=bind_some h;rcases Pc h with ⟨c15,h⟩ |⟨c15,h⟩
   ·obtain ⟨a7,h7,h⟩:=bind_some h;refine rg L 288 [(2,true)] [(1,.B a6),(5,.B a7)] [] (Pf (Ay.ok h6) (Pf trivial (Pf c15 (Pf (Dn.okR hR h7) (Pk trivial))))) ?_;refine Pd ?_;cases h;exact Pt
   refine rg L 288 [(2,false)] [(1,.B a6)] [] (Pf (Ay.ok h6) (Pf trivial (Pk (eq_false_of_ne_true c15)))) ?_;refine Pd ?_;cases h;exact Pt
  refine fF c14 <| Pl L 297 ?_;rcases Pc h with ⟨c16,h⟩ |⟨c16,h⟩
  ·refine tT c16 <| Pb ?_;obtain ⟨a8,h8,h⟩:=bind_some h;rcases Pc h with ⟨c17,h⟩ |⟨c17,h⟩
   ·obtain ⟨a9,h9,h⟩:=bind_some h;refine rg L 301 [(2,true)] [(1,.B a8),(5,.B a9)] [] (Pf (Ay.ok h8) (Pf trivial (Pf c17 (Pf (C1.okR hR h9) (Pk trivial))))) ?_;refine Pd ?_;cases h;exact Pt
   refine rg L 301 [(2,false)] [(1,.B a8)] [] (Pf (Ay.ok h8) (Pf trivial (Pk (eq_false_of_ne_true c17)))) ?_;refine Pd ?_;cases h;exact Pt
  refine fF c16 ?_;obtain ⟨o2,hp2,h⟩:=bind_some h;refine Pb (P3 (Q':=fun e S=>(e=.normal∧∃ c:Bool,S=⟨[(1,.P 29000),(3,.I (p0.Kids.length:Int)),(4,.I p0.Op),(90,.B c)],[(29000,.raw (Ah p0))]⟩∧c=o2)) ?_ ?_)
  ·clear h;replace h:=hp2;rcases Pc h with ⟨c18,h⟩ |⟨c18,h⟩
   ·refine Pp (rg L 310 [(2,true)] [] [] (Pk (decide_eq_true c18)) ⟨rfl,rfl⟩) (Pa.trans (Pa.kk [1,3,4,90] [21800]) (Pa.trans (Pa.rr [(21800,29000)]) (Pa.kp (S':=⟨[(1,.P 29000),(3,.I (p0.Kids.length:Int)),(4,.I p0.Op),(90,.B true)],[(29000,.raw (Ah p0))]⟩)))) ?_;cases h;exact ⟨rfl,_,rfl,rfl⟩
   refine Pp (rg L 310 [(2,false)] [] [] (Pk (decide_eq_false c18)) ⟨rfl,rfl⟩) (Pa.trans (Pa.kk [1,3,4,90] [21800]) (Pa.trans (Pa.rr [(21800,29000)]) (Pa.kp (S':=⟨[(1,.P 29000),(3,.I (p0.Kids.length:Int)),(4,.I p0.Op),(90,.B (decide (p0.Op=11)))],[(29000,.raw (Ah p0))]⟩)))) ?_;cases h;exact ⟨rfl,_,rfl,rfl⟩
  ·rintro e S ⟨rfl,c,rfl,rfl⟩;rcases Pc h with ⟨c19,h⟩ |⟨c19,h⟩
   ·refine tt c19 <| Pb ?_;obtain ⟨a10,h10,h⟩:=bind_some h;rcases Pc h with ⟨c20,h⟩ |⟨c20,h⟩
    ·obtain ⟨a11,h11,h⟩:=bind_some h;rcases Pc h with ⟨c21,h⟩ |⟨c21,h⟩
     ·obtain ⟨a12,h12,h⟩:=bind_some h;refine rg L 318 [(2,true),(7,true)] [(1,.B a10),(5,.B a11),(10,.B a12)] [] (Pf (Ay.ok h10) (Pf trivial (Pf c20 (Pf (B2.ok h11) (Pf trivial (Pf c21 (Pf (C1.okR hR h12) (Pk trivial)))))))) ?_;refine Pd ?_;cases h;exact Pt
     refine rg L 318 [(2,true),(7,false)] [(1,.B a10),(5,.B a11)] [] (Pf (Ay.ok h10) (Pf trivial (Pf c20 (Pf (B2.ok h11) (Pf trivial (Pk (eq_false_of_ne_true c21))))))) ?_;refine Pd ?_;cases h;exact Pt
    refine rg L 318 [(2,false)] [(1,.B a10)] [] (Pf (Ay.ok h10) (Pf trivial (Pk (eq_false_of_ne_true c20)))) ?_;refine Pd ?_;cases h;exact Pt
   refine fN c19 <| Pl L 332 ?_;rcases Pc h with ⟨c22,h⟩ |⟨c22,h⟩
   ·refine tT c22 <| Pb ?_;rcases Pc h with ⟨c23,h⟩ |⟨c23,h⟩
    ·obtain ⟨a13,h13,h⟩:=bind_some h;rcases Pc h with ⟨c24,h⟩ |⟨c24,h⟩
     ·obtain ⟨a14,h14,h⟩:=bind_some h;rcases Pc h with ⟨c25,h⟩ |⟨c25,h⟩
      ·obtain ⟨g1,h⟩:=Ph h;obtain ⟨a15,h15,h⟩:=bind_some h;refine rg L 336 [(2,true),(6,true),(11,true)] [(4,.B a13),(9,.B a14),(16,.B a15)] [] (Pf (decide_eq_true c23) (Pf (Ay.ok h13) (Pf trivial (Pf c24 (Pf (B2.ok h14) (Pf trivial (Pf c25 (Pf (show (0:Int)≤0 from by decide) (Pf g1 (Pf (B4.okR hR h15) (Pk trivial))))))))))) ?_;refine Pd ?_;cases h;exact Pt
      refine rg L 336 [(2,true),(6,true),(11,false)] [(4,.B a13),(9,.B a14)] [] (Pf (decide_eq_true c23) (Pf (Ay.ok h13) (Pf trivial (Pf c24 (Pf (B2.ok h14) (Pf trivial (Pk (eq_false_of_ne_true c25)))))))) ?_;refine Pd ?_;cases h;exact Pt
     refine rg L 336 [(2,true),(6,false)] [(4,.B a13)] [] (Pf (decide_eq_true c23) (Pf (Ay.ok h13) (Pf trivial (Pk (eq_false_of_ne_true c24))))) ?_;refine Pd ?_;cases h;exact Pt
    refine rg L 336 [(2,false)] [] [] (Pk (decide_eq_false c23)) ?_;refine Pd ?_;cases h;exact Pt
   refine fF c22 ?_;obtain ⟨o3,hp3,h⟩:=bind_some h;refine Pb (P3 (Q':=fun e S=>(e=.normal∧∃ a:Bool,S=⟨[(1,.P 31400),(3,.I (p0.Kids.length:Int)),(4,.I p0.Op),(130,.B a)],[(31400,.raw (Ah p0))]⟩∧a=o3)) ?_ ?_)
   ·clear h;replace h:=hp3;rcases Pc h with ⟨c26,h⟩ |⟨c26,h⟩
    ·refine Pp (rg L 356 [(2,true)] [] [] (Pk (decide_eq_true c26)) ⟨rfl,rfl⟩) (Pa.trans (Pa.kk [1,3,4,130] [29000]) (Pa.trans (Pa.rr [(29000,31400)]) (Pa.kp (S':=⟨[(1,.P 31400),(3,.I (p0.Kids.length:Int)),(4,.I p0.Op),(130,.B true)],[(31400,.raw (Ah p0))]⟩)))) ?_;cases h;exact ⟨rfl,_,rfl,rfl⟩
    rcases Pc h with ⟨c27,h⟩ |⟨c27,h⟩
    ·refine Pp (rg L 356 [(2,false),(6,true)] [] [] (Q2 (decide_eq_false c26) (decide_eq_true c27)) ⟨rfl,rfl⟩) (Pa.trans (Pa.kk [1,3,4,130] [29000]) (Pa.trans (Pa.rr [(29000,31400)]) (Pa.kp (S':=⟨[(1,.P 31400),(3,.I (p0.Kids.length:Int)),(4,.I p0.Op),(130,.B true)],[(31400,.raw (Ah p0))]⟩)))) ?_;cases h;exact ⟨rfl,_,rfl,rfl⟩
    refine Pp (rg L 356 [(2,false),(6,false)] [] [] (Q2 (decide_eq_false c26) (decide_eq_false c27)) ⟨rfl,rfl⟩) (Pa.trans (Pa.kk [1,3,4,130] [29000]) (Pa.trans (Pa.rr [(29000,31400)]) (Pa.kp (S':=⟨[(1,.P 31400),(3,.I (p0.Kids.length:Int)),(4,.I p0.Op),(130,.B (decide (p0.Op=14)))],[(31400,.raw (Ah p0))]⟩)))) ?_;cases h;exact ⟨rfl,_,rfl,rfl⟩
   ·rintro e S ⟨rfl,a,rfl,rfl⟩;rcases Pc h with ⟨c28,h⟩ |⟨c28,h⟩
    ·refine tt c28 <| Pb ?_;rcases Pc h with ⟨c29,h⟩ |⟨c29,h⟩
     ·obtain ⟨a16,h16,h⟩:=bind_some h;rcases Pc h with ⟨c30,h⟩ |⟨c30,h⟩
      ·obtain ⟨g2,h⟩:=Ph h;obtain ⟨a17,h17,h⟩:=bind_some h;refine rg L 368 [(2,true),(6,true)] [(4,.B a16),(11,.B a17)] [] (Pf (decide_eq_true c29) (Pf (Ay.ok h16) (Pf trivial (Pf c30 (Pf (show (0:Int)≤0 from by decide) (Pf g2 (Pf (B4.okR hR h17) (Pk trivial)))))))) ?_;refine Pd ?_;cases h;exact Pt
      refine rg L 368 [(2,true),(6,false)] [(4,.B a16)] [] (Pf (decide_eq_true c29) (Pf (Ay.ok h16) (Pf trivial (Pk (eq_false_of_ne_true c30))))) ?_;refine Pd ?_;cases h;exact Pt
     refine rg L 368 [(2,false)] [] [] (Pk (decide_eq_false c29)) ?_;refine Pd ?_;cases h;exact Pt
    refine fN c28 ?_;obtain ⟨o4,hp4,h⟩:=bind_some h;refine Pb (P3 (Q':=fun e S=>(e=.normal∧∃ b:Bool,S=⟨[(1,.P 32600),(3,.I (p0.Kids.length:Int)),(154,.B b)],[(32600,.raw (Ah p0))]⟩∧b=o4)) ?_ ?_)
    ·clear h;replace h:=hp4;rcases Pc h with ⟨c31,h⟩ |⟨c31,h⟩
     ·refine Pp (rg L 383 [(2,true)] [] [] (Pk (decide_eq_true c31)) ⟨rfl,rfl⟩) (Pa.trans (Pa.kk [1,3,154] [31400]) (Pa.trans (Pa.rr [(31400,32600)]) (Pa.kp (S':=⟨[(1,.P 32600),(3,.I (p0.Kids.length:Int)),(154,.B (decide (p0.Op≤28)))],[(32600,.raw (Ah p0))]⟩)))) ?_;cases h;exact ⟨rfl,_,rfl,rfl⟩
     refine Pp (rg L 383 [(2,false)] [] [] (Pk (decide_eq_false c31)) ⟨rfl,rfl⟩) (Pa.trans (Pa.kk [1,3,154] [31400]) (Pa.trans (Pa.rr [(31400,32600)]) (Pa.kp (S':=⟨[(1,.P 32600),(3,.I (p0.Kids.length:Int)),(154,.B false)],[(32600,.raw (Ah p0))]⟩)))) ?_;cases h;exact ⟨rfl,_,rfl,rfl⟩
    ·rintro e S ⟨rfl,b,rfl,rfl⟩;rcases Pc h with ⟨c32,h⟩ |⟨c32,h⟩
     ·refine tt c32 <| Pb ?_;rcases Pc h with ⟨c33,h⟩ |⟨c33,h⟩
      ·obtain ⟨a18,h18,h⟩:=bind_some h;rcases Pc h with ⟨c34,h⟩ |⟨c34,h⟩
       ·obtain ⟨a19,h19,h⟩:=bind_some h;refine rg L 391 [(2,true),(6,true)] [(4,.B a18),(9,.B a19)] [] (Pf (decide_eq_true c33) (Pf (Ay.ok h18) (Pf trivial (Pf c34 (Pf (C1.okR hR h19) (Pk trivial)))))) ?_;refine Pd ?_;cases h;exact Pt
       refine rg L 391 [(2,true),(6,false)] [(4,.B a18)] [] (Pf (decide_eq_true c33) (Pf (Ay.ok h18) (Pf trivial (Pk (eq_false_of_ne_true c34))))) ?_;refine Pd ?_;cases h;exact Pt
      refine rg L 391 [(2,false)] [] [] (Pk (decide_eq_false c33)) ?_;refine Pd ?_;cases h;exact Pt
     refine fN c32 <| Pg <| Pl L 404 <| Pd ?_;cases h;exact Pt
def Az.upto (K:Nat):Nat→Az
 | 0=>⟨fun _=>none,fun _=>none,fun _=>none,fun _=>none,fun _=>none,fun _=>none,fun _=>none,fun _=>none,fun _=>none,fun _=>none⟩
 | k+1=>⟨Dz.F K (Az.upto K k),Dc.F K (Az.upto K k),Ce.F K (Az.upto K k),Cj.F K (Az.upto K k),Dn.F K (Az.upto K k),De.F K (Az.upto K k),Cg.F K (Az.upto K k),Cm.F K (Az.upto K k),C1.F K (Az.upto K k),B4.F K (Az.upto K k)⟩
theorem Az.upto_ok (K:Nat):∀ k,(Az.upto K k).Ok
 | 0=>⟨fun h=>(by cases h),fun h=>(by cases h),fun h=>(by cases h),fun h=>(by cases h),fun h=>(by cases h),fun h=>(by cases h),fun h=>(by cases h),fun h=>(by cases h),fun h=>(by cases h),fun h=>(by cases h)⟩
 | k+1=>⟨fun {p0 r} h=>eo (fn:=Tryz.f64) (n:=29) (m:=100) fun Γ=>Dz.body (K:=K) (Az.upto_ok K k) h,fun {p0 r} h=>eo (fn:=Tryz.f57) (n:=8) (m:=100) fun Γ=>Dc.body (K:=K) (Az.upto_ok K k) h,fun {p0 r} h=>eo (fn:=Tryz.f90) (n:=19) (m:=100) fun Γ=>Ce.body (K:=K) (Az.upto_ok K k) h,fun {p0 r} h=>eo (fn:=Tryz.f56) (n:=9) (m:=100) fun Γ=>Cj.body (K:=K) (Az.upto_ok K k) h,fun {p0 r} h=>eo (fn:=Tryz.f30) (n:=9) (m:=100) fun Γ=>Dn.body (K:=K) (Az.upto_ok K k) h,fun {p0 r} h=>eo (fn:=Tryz.f57) (n:=8) (m:=100) fun Γ=>De.body (K:=K) (Az.upto_ok K k) h,fun {p0 r} h=>eo (fn:=Tryz.f90) (n:=19) (m:=100) fun Γ=>Cg.body (K:=K) (Az.upto_ok K k) h,fun {p0 r} h=>eo (fn:=Tryz.f56) (n:=9) (m:=100) fun Γ=>Cm.body (K:=K) (Az.upto_ok K k) h,fun {p0 r} h=>eo (fn:=Tryz.f30) (n:=9) (m:=100) fun Γ=>C1.body (K:=K) (Az.upto_ok K k) h,fun {p0 r} h=>eo (fn:=Tryz.f33) (n:=172) (m:=100) fun Γ=>B4.body (K:=K) (Az.upto_ok K k) h⟩
def Dz (K:Nat) (p0:Aa):Option Bool:=(Az.upto K K).Dz p0
theorem Dz.okE {K:Nat} {p0:Aa} {r:Bool} (h:Dz K p0=some r):Pm V P 64 [.agg (Ah p0)] [] [] (.B r) []:=(Az.upto_ok K K).Dz h
theorem Dz.ok {K:Nat} {p0:Aa} {r:Bool} (h:Dz K p0=some r):Pr V P 64 [.agg (Ah p0)] (.B r):=(Dz.okE h).pcall (by kernel_rfl)
def Dc (K:Nat) (p0:Aa):Option Bool:=(Az.upto K K).Dc p0
theorem Dc.okE {K:Nat} {p0:Aa} {r:Bool} (h:Dc K p0=some r):Pm V P 57 [.agg (Ah p0),.cv (.pcs [.fn (.func 64) [] []] 0)] [] [] (.B r) []:=(Az.upto_ok K K).Dc h
theorem Dc.ok {K:Nat} {p0:Aa} {r:Bool} (h:Dc K p0=some r):Pr V P 57 [.agg (Ah p0),.cv (.pcs [.fn (.func 64) [] []] 0)] (.B r):=(Dc.okE h).pcall (by kernel_rfl)
def Ce (K:Nat) (p0:List Aa):Option Int:=(Az.upto K K).Ce p0
theorem Ce.okE {K:Nat} {p0:List Aa} {r:Int} (h:Ce K p0=some r):Pm V P 90 [.cv (.ro .Af p0),.cv (.fn (.func 57) [] [.pcs [.fn (.func 64) [] []] 0])] [] [] (.I r) []:=(Az.upto_ok K K).Ce h
theorem Ce.ok {K:Nat} {p0:List Aa} {r:Int} (h:Ce K p0=some r):Pr V P 90 [.cv (.ro .Af p0),.cv (.fn (.func 57) [] [.pcs [.fn (.func 64) [] []] 0])] (.I r):=(Ce.okE h).pcall (by kernel_rfl)
def Cj (K:Nat) (p0:List Aa):Option Bool:=(Az.upto K K).Cj p0
theorem Cj.okE {K:Nat} {p0:List Aa} {r:Bool} (h:Cj K p0=some r):Pm V P 56 [.cv (.ro .Af p0),.cv (.fn (.func 57) [] [.pcs [.fn (.func 64) [] []] 0])] [] [] (.B r) []:=(Az.upto_ok K K).Cj h
theorem Cj.ok {K:Nat} {p0:List Aa} {r:Bool} (h:Cj K p0=some r):Pr V P 56 [.cv (.ro .Af p0),.cv (.fn (.func 57) [] [.pcs [.fn (.func 64) [] []] 0])] (.B r):=(Cj.okE h).pcall (by kernel_rfl)
def Dn (K:Nat) (p0:List Aa):Option Bool:=(Az.upto K K).Dn p0
theorem Dn.okE {K:Nat} {p0:List Aa} {r:Bool} (h:Dn K p0=some r):Pm V P 30 [.cv (.ro .Af p0),.cv (.fn (.func 64) [] [])] [] [] (.B r) []:=(Az.upto_ok K K).Dn h
theorem Dn.ok {K:Nat} {p0:List Aa} {r:Bool} (h:Dn K p0=some r):Pr V P 30 [.cv (.ro .Af p0),.cv (.fn (.func 64) [] [])] (.B r):=(Dn.okE h).pcall (by kernel_rfl)
def De (K:Nat) (p0:Aa):Option Bool:=(Az.upto K K).De p0
theorem De.okE {K:Nat} {p0:Aa} {r:Bool} (h:De K p0=some r):Pm V P 57 [.agg (Ah p0),.cv (.pcs [.fn (.func 33) [] []] 0)] [] [] (.B r) []:=(Az.upto_ok K K).De h
theorem De.ok {K:Nat} {p0:Aa} {r:Bool} (h:De K p0=some r):Pr V P 57 [.agg (Ah p0),.cv (.pcs [.fn (.func 33) [] []] 0)] (.B r):=(De.okE h).pcall (by kernel_rfl)
def Cg (K:Nat) (p0:List Aa):Option Int:=(Az.upto K K).Cg p0
theorem Cg.okE {K:Nat} {p0:List Aa} {r:Int} (h:Cg K p0=some r):Pm V P 90 [.cv (.ro .Af p0),.cv (.fn (.func 57) [] [.pcs [.fn (.func 33) [] []] 0])] [] [] (.I r) []:=(Az.upto_ok K K).Cg h
theorem Cg.ok {K:Nat} {p0:List Aa} {r:Int} (h:Cg K p0=some r):Pr V P 90 [.cv (.ro .Af p0),.cv (.fn (.func 57) [] [.pcs [.fn (.func 33) [] []] 0])] (.I r):=(Cg.okE h).pcall (by kernel_rfl)
def Cm (K:Nat) (p0:List Aa):Option Bool:=(Az.upto K K).Cm p0
theorem Cm.okE {K:Nat} {p0:List Aa} {r:Bool} (h:Cm K p0=some r):Pm V P 56 [.cv (.ro .Af p0),.cv (.fn (.func 57) [] [.pcs [.fn (.func 33) [] []] 0])] [] [] (.B r) []:=(Az.upto_ok K K).Cm h
theorem Cm.ok {K:Nat} {p0:List Aa} {r:Bool} (h:Cm K p0=some r):Pr V P 56 [.cv (.ro .Af p0),.cv (.fn (.func 57) [] [.pcs [.fn (.func 33) [] []] 0])] (.B r):=(Cm.okE h).pcall (by kernel_rfl)
def C1 (K:Nat) (p0:List Aa):Option Bool:=(Az.upto K K).C1 p0
theorem C1.okE {K:Nat} {p0:List Aa} {r:Bool} (h:C1 K p0=some r):Pm V P 30 [.cv (.ro .Af p0),.cv (.fn (.func 33) [] [])] [] [] (.B r) []:=(Az.upto_ok K K).C1 h
theorem C1.ok {K:Nat} {p0:List Aa} {r:Bool} (h:C1 K p0=some r):Pr V P 30 [.cv (.ro .Af p0),.cv (.fn (.func 33) [] [])] (.B r):=(C1.okE h).pcall (by kernel_rfl)
def B4 (K:Nat) (p0:Aa):Option Bool:=(Az.upto K K).B4 p0
theorem B4.okE {K:Nat} {p0:Aa} {r:Bool} (h:B4 K p0=some r):Pm V P 33 [.agg (Ah p0)] [] [] (.B r) []:=(Az.upto_ok K K).B4 h
theorem B4.ok {K:Nat} {p0:Aa} {r:Bool} (h:B4 K p0=some r):Pr V P 33 [.agg (Ah p0)] (.B r):=(B4.okE h).pcall (by kernel_rfl)
def E1 (K:Nat) (p0:Aa):Option Bool:=(Option.bind (((if p0.Op=1 then some (decide (p0.Op=1)) else (if p0.Op=2 then some (decide (p0.Op=2)) else (if p0.Op=3 then some (decide (p0.Op=3)) else (if p0.Op=4 then some (decide (p0.Op=4)) else some (decide (p0.Op=5))))))):Option Bool) (fun a=>(if a=true then (Option.bind (B4 K p0) (fun a1=>some a1)) else (if p0.Op=14 then (Option.bind (B4 K p0) (fun a2=>(if a2=true then (if (0:Int) <(p0.Kids.length:Int) then some (decide ((p0.Kids.getD (Int.toNat 0) Ca).Op=4)) else none) else some false))) else some false))))
theorem E1.body {Γ:P4} {K:Nat} {p0:Aa} {r:Bool} (h:E1 K p0=some r):P1 V P 25 100 Γ (Tryz.f59.body.getD .skip) (Po P V Tryz.f59 (.B r) []) ⟨Pn 0 [.agg (Ah p0)],[]⟩:=by
 unfold E1 at h;refine Pl L 200 <| Pb <| Pl L 203 <| Pj ?_;obtain ⟨o1,hp1,h⟩:=bind_some h;refine Pb (P3 (Q':=fun e S=>(e=.normal∧∃ a:Bool,S=⟨[(1,.P 21400),(4,.I p0.Op),(5,.B a)],[(21400,.raw (Ah p0))]⟩∧a=o1)) ?_ ?_)
 ·clear h;replace h:=hp1;refine Pl L 206 ?_;rcases Pc h with ⟨c1,h⟩ |⟨c1,h⟩
  ·refine tT c1 <| Pe (Pa.trans (Pa.kk [1,4,5] [200]) (Pa.rr [(200,21400)])) ?_;refine sk (S':=⟨[(1,.P 21400),(4,.I p0.Op),(5,.B (decide (p0.Op=1)))],[(21400,.raw (Ah p0))]⟩) ?_;cases h;exact ⟨rfl,_,rfl,rfl⟩
  refine fF c1 <| Pl L 209 ?_;rcases Pc h with ⟨c2,h⟩ |⟨c2,h⟩
  ·refine tT c2 <| Pe (Pa.trans (Pa.kk [1,4,5] [200]) (Pa.rr [(200,21400)])) ?_;refine sk (S':=⟨[(1,.P 21400),(4,.I p0.Op),(5,.B (decide (p0.Op=2)))],[(21400,.raw (Ah p0))]⟩) ?_;cases h;exact ⟨rfl,_,rfl,rfl⟩
  refine fF c2 <| Pl L 212 ?_;rcases Pc h with ⟨c3,h⟩ |⟨c3,h⟩
  ·refine tT c3 <| Pe (Pa.trans (Pa.kk [1,4,5] [200]) (Pa.rr [(200,21400)])) ?_;refine sk (S':=⟨[(1,.P 21400),(4,.I p0.Op),(5,.B (decide (p0.Op=3)))],[(21400,.raw (Ah p0))]⟩) ?_;cases h;exact ⟨rfl,_,rfl,rfl⟩
  refine fF c3 <| Pl L 215 ?_;rcases Pc h with ⟨c4,h⟩ |⟨c4,h⟩
  ·refine tT c4 <| Pe (Pa.trans (Pa.kk [1,4,5] [200]) (Pa.rr [(200,21400)])) ?_;refine sk (S':=⟨[(1,.P 21400),(4,.I p0.Op),(5,.B (decide (p0.Op=4)))],[(21400,.raw (Ah p0))]⟩) ?_;cases h;exact ⟨rfl,_,rfl,rfl⟩
  refine fF c4 <| Pp (Tj L 218 ⟨rfl,rfl⟩) (Pa.trans (Pa.kk [1,4,5] [200]) (Pa.trans (Pa.rr [(200,21400)]) (Pa.kp (S':=⟨[(1,.P 21400),(4,.I p0.Op),(5,.B (decide (p0.Op=5)))],[(21400,.raw (Ah p0))]⟩)))) ?_;cases h;exact ⟨rfl,_,rfl,rfl⟩
 ·rintro e S ⟨rfl,a,rfl,rfl⟩;rcases Pc h with ⟨c5,h⟩ |⟨c5,h⟩
  ·refine tt c5 <| Pb ?_;obtain ⟨a1,h1,h⟩:=bind_some h;refine rg L 221 [] [(1,.B a1)] [] (Qu (B4.ok h1)) ?_;refine Pd ?_;cases h;exact Pt
  refine fN c5 <| Pl L 225 ?_;rcases Pc h with ⟨c6,h⟩ |⟨c6,h⟩
  ·refine tT c6 <| Pb ?_;obtain ⟨a2,h2,h⟩:=bind_some h;rcases Pc h with ⟨c7,h⟩ |⟨c7,h⟩
   ·obtain ⟨g1,h⟩:=Ph h;refine rg L 228 [(2,true)] [(1,.B a2)] [] (Pf (B4.ok h2) (Pf trivial (Pf c7 (Pf (show (0:Int)≤0 from by decide) (Pk g1))))) ?_;refine Pd ?_;cases h;exact Pt
   refine rg L 228 [(2,false)] [(1,.B a2)] [] (Pf (B4.ok h2) (Pf trivial (Pk (eq_false_of_ne_true c7)))) ?_;refine Pd ?_;cases h;exact Pt
  refine fF c6 <| Pg <| Pl L 240 <| Pd ?_;cases h;exact Pt
theorem E1.ok {K:Nat} {p0:Aa} {r:Bool} (h:E1 K p0=some r):Pr V P 59 [.agg (Ah p0)] (.B r):=Pm.pcall (eo (fn:=Tryz.f59) (n:=25) (m:=100) fun Γ=>E1.body h) (by kernel_rfl)
structure Al where
 Ef:(List Aa)→Option Bool
 Df:Aa→Option Bool
 Cf:(List Aa)→Option Int
 Ck:(List Aa)→Option Bool
 Dh:(List Aa)→Option Bool
 D0:Aa→Option Bool
 Dd:Aa→Option Bool
 Cd:(List Aa)→Option Int
 Cl:(List Aa)→Option Bool
 Di:(List Aa)→Option Bool
 Dq:(List Aa)→Option Bool
 C3:Aa→Option Bool
 Db:Aa→Option Bool
 Cc:(List Aa)→Option Int
 Cn:(List Aa)→Option Bool
 Dp:(List Aa)→Option Bool
 Ci:Aa→Option Bool
structure Al.Ok (R:Al):Prop where
 Ef:∀ {p0:List Aa} {r:Bool},R.Ef p0=some r→Pm V P 120 [.cv (.ro .Af p0)] [] [] (.B r) []
 Df:∀ {p0:Aa} {r:Bool},R.Df p0=some r→Pm V P 57 [.agg (Ah p0),.cv (.pcs [.fn (.func 60) [] []] 0)] [] [] (.B r) []
 Cf:∀ {p0:List Aa} {r:Int},R.Cf p0=some r→Pm V P 90 [.cv (.ro .Af p0),.cv (.fn (.func 57) [] [.pcs [.fn (.func 60) [] []] 0])] [] [] (.I r) []
 Ck:∀ {p0:List Aa} {r:Bool},R.Ck p0=some r→Pm V P 56 [.cv (.ro .Af p0),.cv (.fn (.func 57) [] [.pcs [.fn (.func 60) [] []] 0])] [] [] (.B r) []
 Dh:∀ {p0:List Aa} {r:Bool},R.Dh p0=some r→Pm V P 30 [.cv (.ro .Af p0),.cv (.fn (.func 60) [] [])] [] [] (.B r) []
 D0:∀ {p0:Aa} {r:Bool},R.D0 p0=some r→Pm V P 136 [.agg (Ah p0)] [] [] (.B r) []
 Dd:∀ {p0:Aa} {r:Bool},R.Dd p0=some r→Pm V P 57 [.agg (Ah p0),.cv (.pcs [.fn (.func 136) [] []] 0)] [] [] (.B r) []
 Cd:∀ {p0:List Aa} {r:Int},R.Cd p0=some r→Pm V P 90 [.cv (.ro .Af p0),.cv (.fn (.func 57) [] [.pcs [.fn (.func 136) [] []] 0])] [] [] (.I r) []
 Cl:∀ {p0:List Aa} {r:Bool},R.Cl p0=some r→Pm V P 56 [.cv (.ro .Af p0),.cv (.fn (.func 57) [] [.pcs [.fn (.func 136) [] []] 0])] [] [] (.B r) []
 Di:∀ {p0:List Aa} {r:Bool},R.Di p0=some r→Pm V P 30 [.cv (.ro .Af p0),.cv (.fn (.func 136) [] [])] [] [] (.B r) []
 Dq:∀ {p0:List Aa} {r:Bool},R.Dq p0=some r→Pm V P 121 [.cv (.ro .Af p0)] [] [] (.B r) []
 C3:∀ {p0:Aa} {r:Bool},R.C3 p0=some r→Pm V P 92 [.agg (Ah p0)] [] [] (.B r) []
 Db:∀ {p0:Aa} {r:Bool},R.Db p0=some r→Pm V P 57 [.agg (Ah p0),.cv (.pcs [.fn (.func 92) [] []] 0)] [] [] (.B r) []
 Cc:∀ {p0:List Aa} {r:Int},R.Cc p0=some r→Pm V P 90 [.cv (.ro .Af p0),.cv (.fn (.func 57) [] [.pcs [.fn (.func 92) [] []] 0])] [] [] (.I r) []
 Cn:∀ {p0:List Aa} {r:Bool},R.Cn p0=some r→Pm V P 56 [.cv (.ro .Af p0),.cv (.fn (.func 57) [] [.pcs [.fn (.func 92) [] []] 0])] [] [] (.B r) []
 Dp:∀ {p0:List Aa} {r:Bool},R.Dp p0=some r→Pm V P 30 [.cv (.ro .Af p0),.cv (.fn (.func 92) [] [])] [] [] (.B r) []
 Ci:∀ {p0:Aa} {r:Bool},R.Ci p0=some r→Pm V P 60 [.agg (Ah p0)] [] [] (.B r) []
theorem Ef.okR {R:Al} (hR:R.Ok) {p0:List Aa} {r:Bool} (h:R.Ef p0=some r):Pr V P 120 [.cv (.ro .Af p0)] (.B r):=(hR.Ef h).pcall (by kernel_rfl)
theorem Df.okR {R:Al} (hR:R.Ok) {p0:Aa} {r:Bool} (h:R.Df p0=some r):Pr V P 57 [.agg (Ah p0),.cv (.pcs [.fn (.func 60) [] []] 0)] (.B r):=(hR.Df h).pcall (by kernel_rfl)
theorem Cf.okR {R:Al} (hR:R.Ok) {p0:List Aa} {r:Int} (h:R.Cf p0=some r):Pr V P 90 [.cv (.ro .Af p0),.cv (.fn (.func 57) [] [.pcs [.fn (.func 60) [] []] 0])] (.I r):=(hR.Cf h).pcall (by kernel_rfl)
theorem Ck.okR {R:Al} (hR:R.Ok) {p0:List Aa} {r:Bool} (h:R.Ck p0=some r):Pr V P 56 [.cv (.ro .Af p0),.cv (.fn (.func 57) [] [.pcs [.fn (.func 60) [] []] 0])] (.B r):=(hR.Ck h).pcall (by kernel_rfl)
theorem Dh.okR {R:Al} (hR:R.Ok) {p0:List Aa} {r:Bool} (h:R.Dh p0=some r):Pr V P 30 [.cv (.ro .Af p0),.cv (.fn (.func 60) [] [])] (.B r):=(hR.Dh h).pcall (by kernel_rfl)
theorem D0.okR {R:Al} (hR:R.Ok) {p0:Aa} {r:Bool} (h:R.D0 p0=some r):Pr V P 136 [.agg (Ah p0)] (.B r):=(hR.D0 h).pcall (by kernel_rfl)
theorem Dd.okR {R:Al} (hR:R.Ok) {p0:Aa} {r:Bool} (h:R.Dd p0=some r):Pr V P 57 [.agg (Ah p0),.cv (.pcs [.fn (.func 136) [] []] 0)] (.B r):=(hR.Dd h).pcall (by kernel_rfl)
theorem Cd.okR {R:Al} (hR:R.Ok) {p0:List Aa} {r:Int} (h:R.Cd p0=some r):Pr V P 90 [.cv (.ro .Af p0),.cv (.fn (.func 57) [] [.pcs [.fn (.func 136) [] []] 0])] (.I r):=(hR.Cd h).pcall (by kernel_rfl)
theorem Cl.okR {R:Al} (hR:R.Ok) {p0:List Aa} {r:Bool} (h:R.Cl p0=some r):Pr V P 56 [.cv (.ro .Af p0),.cv (.fn (.func 57) [] [.pcs [.fn (.func 136) [] []] 0])] (.B r):=(hR.Cl h).pcall (by kernel_rfl)
theorem Di.okR {R:Al} (hR:R.Ok) {p0:List Aa} {r:Bool} (h:R.Di p0=some r):Pr V P 30 [.cv (.ro .Af p0),.cv (.fn (.func 136) [] [])] (.B r):=(hR.Di h).pcall (by kernel_rfl)
theorem Dq.okR {R:Al} (hR:R.Ok) {p0:List Aa} {r:Bool} (h:R.Dq p0=some r):Pr V P 121 [.cv (.ro .Af p0)] (.B r):=(hR.Dq h).pcall (by kernel_rfl)
theorem C3.okR {R:Al} (hR:R.Ok) {p0:Aa} {r:Bool} (h:R.C3 p0=some r):Pr V P 92 [.agg (Ah p0)] (.B r):=(hR.C3 h).pcall (by kernel_rfl)
theorem Db.okR {R:Al} (hR:R.Ok) {p0:Aa} {r:Bool} (h:R.Db p0=some r):Pr V P 57 [.agg (Ah p0),.cv (.pcs [.fn (.func 92) [] []] 0)] (.B r):=(hR.Db h).pcall (by kernel_rfl)
theorem Cc.okR {R:Al} (hR:R.Ok) {p0:List Aa} {r:Int} (h:R.Cc p0=some r):Pr V P 90 [.cv (.ro .Af p0),.cv (.fn (.func 57) [] [.pcs [.fn (.func 92) [] []] 0])] (.I r):=(hR.Cc h).pcall (by kernel_rfl)
theorem Cn.okR {R:Al} (hR:R.Ok) {p0:List Aa} {r:Bool} (h:R.Cn p0=some r):Pr V P 56 [.cv (.ro .Af p0),.cv (.fn (.func 57) [] [.pcs [.fn (.func 92) [] []] 0])] (.B r):=(hR.Cn h).pcall (by kernel_rfl)
theorem Dp.okR {R:Al} (hR:R.Ok) {p0:List Aa} {r:Bool} (h:R.Dp p0=some r):Pr V P 30 [.cv (.ro .Af p0),.cv (.fn (.func 92) [] [])] (.B r):=(hR.Dp h).pcall (by kernel_rfl)
theorem Ci.okR {R:Al} (hR:R.Ok) {p0:Aa} {r:Bool} (h:R.Ci p0=some r):Pr V P 60 [.agg (Ah p0)] (.B r):=(hR.Ci h).pcall (by kernel_rfl)
def Ef.F (K:Nat) (R:Al) (p0:List Aa):Option Bool:=(if (p0.length:Int) < 2 then some false else (if (p0.length:Int) > 3 then some false else (if (0:Int) <(p0.length:Int) then (Option.bind (B4 K (p0.getD (Int.toNat 0) Ca)) (fun a1=>(if a1=true then (if (1:Int) <(p0.length:Int) then (Option.bind (R.Ci (p0.getD (Int.toNat 1) Ca)) (fun a2=>(if a2=true then (if (p0.length:Int)=2 then some true else (if (2:Int) <(p0.length:Int) then (Option.bind (R.Ci (p0.getD (Int.toNat 2) Ca)) (fun a3=>(if a3=true then some true else (if (p0.getD (Int.toNat 2) Ca).Op=42 then (Option.bind (R.C3 (p0.getD (Int.toNat 2) Ca)) (fun a4=>some a4)) else some false)))) else none)) else some false))) else none) else some false))) else none)))
theorem Ef.body {Γ:P4} {K:Nat} {R:Al} (hR:R.Ok) {p0:List Aa} {r:Bool} (h:Ef.F K R p0=some r):P1 V P 47 100 Γ (Tryz.f120.body.getD .skip) (Po P V Tryz.f120 (.B r) []) ⟨Pn 0 [.cv (.ro .Af p0)],[]⟩:=by
 unfold Ef.F at h;refine Pl L 200 <| Pb <| Pb ?_;rcases Pc h with ⟨c1,h⟩ |⟨c1,h⟩
 ·refine rg L 202 [(3,true)] [] [] (Pk (decide_eq_true c1)) ?_;refine tt (b:=true) (rfl) ?_;refine Pl L 225 <| Pd ?_;cases h;exact Pt
 rcases Pc h with ⟨c2,h⟩ |⟨c2,h⟩
 ·refine rg L 202 [(3,false),(8,true)] [] [] (Q2 (decide_eq_false c1) (decide_eq_true c2)) ?_;refine tt (b:=true) (rfl) ?_;refine Pl L 225 <| Pd ?_;cases h;exact Pt
 obtain ⟨g1,h⟩:=Ph h;obtain ⟨a1,h1,h⟩:=bind_some h;rcases Pc h with ⟨c3,h⟩ |⟨c3,h⟩
 ·obtain ⟨g2,h⟩:=Ph h;obtain ⟨a2,h2,h⟩:=bind_some h;refine rg L 202 [(3,false),(8,false),(15,false)] [(12,.B a1),(19,.B a2)] [] (Pf (decide_eq_false c1) (Pf (decide_eq_false c2) (Pf (show (0:Int)≤0 from by decide) (Pf g1 (Pf (B4.ok h1) (Pf trivial (Pf (show (!a1)=false from congrArg Bool.not (c3)) (Pf (show (0:Int)≤1 from by decide) (Pf g2 (Pf (Ci.okR hR h2) (Pk trivial))))))))))) ?_;rcases Pc h with ⟨c4,h⟩ |⟨c4,h⟩
  ·refine ff (b:=(!a2)) (congrArg Bool.not (c4)) ?_;refine Pg <| Pb ?_;rcases Pc h with ⟨c5,h⟩ |⟨c5,h⟩
   ·refine rg L 227 [(3,true)] [] [] (Pk (decide_eq_true c5)) ?_;refine Pd ?_;cases h;exact Pt
   obtain ⟨g3,h⟩:=Ph h;obtain ⟨a3,h3,h⟩:=bind_some h;rcases Pc h with ⟨c6,h⟩ |⟨c6,h⟩
   ·refine rg L 227 [(3,false),(9,true)] [(7,.B a3)] [] (Pf (decide_eq_false c5) (Pf (show (0:Int)≤2 from by decide) (Pf g3 (Pf (Ci.okR hR h3) (Pf trivial (Pk c6)))))) ?_;refine Pd ?_;cases h;exact Pt
   rcases Pc h with ⟨c7,h⟩ |⟨c7,h⟩
   ·obtain ⟨a4,h4,h⟩:=bind_some h;refine rg L 227 [(3,false),(9,false),(15,true)] [(7,.B a3),(19,.B a4)] [] (Pf (decide_eq_false c5) (Pf (show (0:Int)≤2 from by decide) (Pf g3 (Pf (Ci.okR hR h3) (Pf trivial (Pf (eq_false_of_ne_true c6) (Pf (show (0:Int)≤2 from by decide) (Pf g3 (Pf (decide_eq_true c7) (Pf (show (0:Int)≤2 from by decide) (Pf g3 (Pf (C3.okR hR h4) (Pk trivial))))))))))))) ?_;refine Pd ?_;cases h;exact Pt
   refine rg L 227 [(3,false),(9,false),(15,false)] [(7,.B a3)] [] (Pf (decide_eq_false c5) (Pf (show (0:Int)≤2 from by decide) (Pf g3 (Pf (Ci.okR hR h3) (Pf trivial (Pf (eq_false_of_ne_true c6) (Pf (show (0:Int)≤2 from by decide) (Pf g3 (Pk (decide_eq_false c7)))))))))) ?_;refine Pd ?_;cases h;exact Pt
  refine tt (b:=(!a2)) (congrArg Bool.not (eq_false_of_ne_true c4)) ?_;refine Pl L 225 <| Pd ?_;cases h;exact Pt
 refine rg L 202 [(3,false),(8,false),(15,true)] [(12,.B a1)] [] (Pf (decide_eq_false c1) (Pf (decide_eq_false c2) (Pf (show (0:Int)≤0 from by decide) (Pf g1 (Pf (B4.ok h1) (Pf trivial (Pk (show (!a1)=true from congrArg Bool.not (eq_false_of_ne_true c3))))))))) ?_;refine tt (b:=true) (rfl) ?_;refine Pl L 225 <| Pd ?_;cases h;exact Pt
def Df.F (K:Nat) (R:Al) (p0:Aa):Option Bool:=(Option.bind (R.Ci p0) (fun a1=>some (!a1)))
theorem Df.body {Γ:P4} {K:Nat} {R:Al} (hR:R.Ok) {p0:Aa} {r:Bool} (h:Df.F K R p0=some r):P1 V P 8 100 Γ (Tryz.f57.body.getD .skip) (Po P V Tryz.f57 (.B r) []) ⟨Pn 0 [.agg (Ah p0),.cv (.pcs [.fn (.func 60) [] []] 0)],[]⟩:=by
 unfold Df.F at h;refine Pl L 200 <| Pb ?_;obtain ⟨a1,h1,h⟩:=bind_some h;refine rg L 203 [] [(2,.B a1)] [] (Qu (Ci.okR hR h1)) ?_;refine Pd ?_;cases h;exact Pt
def Cf.l7 (K:Nat) (R:Al) (p0:List Aa):Nat→Int→Option (Pq Int Unit)
 | 0,_=>none
 | k+1,a=>(if a <(p0.length:Int) then (if (0:Int)≤a∧(a:Int) <(p0.length:Int) then (Option.bind (R.Df (p0.getD (Int.toNat a) Ca)) (fun a1=>(if a1=true then some (Pq.done a) else Cf.l7 K R p0 k (IntKind.i64.wrap (a+1))))) else none) else some (Pq.go ()))
def Cf.F (K:Nat) (R:Al) (p0:List Aa):Option Int:=(obind (Cf.l7 K R p0 K 0:Option (Pq Int Unit)) (fun r=>r) (fun _=>some (-1)))
theorem Cf.body {Γ:P4} {K:Nat} {R:Al} (hR:R.Ok) {p0:List Aa} {r:Int} (h:Cf.F K R p0=some r):P1 V P 19 100 Γ (Tryz.f90.body.getD .skip) (Po P V Tryz.f90 (.I r) []) ⟨Pn 0 [.cv (.ro .Af p0),.cv (.fn (.func 57) [] [.pcs [.fn (.func 60) [] []] 0])],[]⟩:=by
 unfold Cf.F at h;refine Pl L 200 <| Pb <| Pl L 202 <| Pj <| kp (S':=⟨[(0,.cv (.ro .Af p0)),(1,.cv (.fn (.func 57) [] [.pcs [.fn (.func 60) [] []] 0])),(7,.I (p0.length:Int)),(8,.I 0)],[]⟩) ?_;obtain ⟨o1,hp1,h⟩:=Px h;refine Pu (Q':=fun e S=>(e=.exit 0∧S=⟨[],[]⟩∧Pq.go ()=o1)∨(e=.ret∧∃ a,Pq.done a=o1∧Po P V Tryz.f90 (.I a) [] .ret S)) (Pz (fun k S=>∃ b:Int,S=⟨[(0,.cv (.ro .Af p0)),(1,.cv (.fn (.func 57) [] [.pcs [.fn (.func 60) [] []] 0])),(7,.I (p0.length:Int)),(8,.I b)],[]⟩∧Cf.l7 K R p0 k b=some o1) ?_ ⟨_,rfl,hp1⟩) ?_
 ·clear h hp1;intro k S hS;obtain ⟨b,rfl,h⟩:=hS;cases k with
  | zero=>cases h
  | succ k =>
  unfold Cf.l7 at h;refine Pl L 206 <| Pb ?_;rcases Pc h with ⟨c1,h⟩ |⟨c1,h⟩
  ·refine tT c1 <| Pg <| Pb <| Pj <| Pl L 208 <| Pb ?_;obtain ⟨g1,h⟩:=Ph h;obtain ⟨a1,h1,h⟩:=bind_some h;refine rg L 211 [] [(5,.B a1)] [] (Pf g1.1 (Pf g1.2 (Pf (Df.okR hR h1) (Pk trivial)))) ?_;rcases Pc h with ⟨c2,h⟩ |⟨c2,h⟩
   ·refine tt c2 <| Pl L 218 <| Pd ?_;cases h;exact .inr ⟨rfl,_,rfl,Pt⟩
   refine fN c2 <| Pg <| Se L 221 [] [] [] (S':=⟨[(0,.cv (.ro .Af p0)),(1,.cv (.fn (.func 57) [] [.pcs [.fn (.func 60) [] []] 0])),(7,.I (p0.length:Int)),(8,.I (IntKind.i64.wrap (b+1)))],[]⟩) ?_;exact ⟨k,Nat.lt_succ_self k,_,rfl,h⟩
  refine fF c1 <| ex (S':=⟨[],[]⟩) ?_;cases h;exact .inl ⟨rfl,rfl,rfl⟩
 ·rintro e S (⟨rfl,rfl,rfl⟩ |⟨rfl,a,rfl,hr⟩)
  ·rcases h with ⟨_,e1,h⟩ |⟨_,e1,h⟩
   ·cases e1
   ·have e2:=Pq.go.inj e1;subst e2;refine ⟨_,Pa.refl,?_⟩;refine Pl L 224 <| Pd ?_;cases h;exact Pt
  ·rcases h with ⟨_,e1,h⟩ |⟨_,e1,h⟩
   ·have e2:=Pq.done.inj e1;subst e2;subst h;exact ⟨_,Pa.refl,hr⟩
   ·cases e1
def Ck.F (K:Nat) (R:Al) (p0:List Aa):Option Bool:=(Option.bind (R.Cf p0) (fun a1=>some (decide (a1≥0))))
theorem Ck.body {Γ:P4} {K:Nat} {R:Al} (hR:R.Ok) {p0:List Aa} {r:Bool} (h:Ck.F K R p0=some r):P1 V P 9 100 Γ (Tryz.f56.body.getD .skip) (Po P V Tryz.f56 (.B r) []) ⟨Pn 0 [.cv (.ro .Af p0),.cv (.fn (.func 57) [] [.pcs [.fn (.func 60) [] []] 0])],[]⟩:=by
 unfold Ck.F at h;refine Pl L 200 <| Pb ?_;obtain ⟨a1,h1,h⟩:=bind_some h;refine rg L 202 [] [(2,.I a1)] [] (Qu (Cf.okR hR h1)) ?_;refine Pd ?_;cases h;exact Pt
def Dh.F (K:Nat) (R:Al) (p0:List Aa):Option Bool:=(Option.bind (R.Ck p0) (fun a1=>some (!a1)))
theorem Dh.body {Γ:P4} {K:Nat} {R:Al} (hR:R.Ok) {p0:List Aa} {r:Bool} (h:Dh.F K R p0=some r):P1 V P 9 100 Γ (Tryz.f30.body.getD .skip) (Po P V Tryz.f30 (.B r) []) ⟨Pn 0 [.cv (.ro .Af p0),.cv (.fn (.func 60) [] [])],[]⟩:=by
 unfold Dh.F at h;refine Pl L 200 <| Pb ?_;obtain ⟨a1,h1,h⟩:=bind_some h;refine rg L 203 [] [(2,.B a1)] [] (Qu (Ck.okR hR h1)) ?_;refine Pd ?_;cases h;exact Pt
end Go.Proofs.YtifjagfmfkemmaaGreatDoor
