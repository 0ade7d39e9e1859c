import Derived.Test.YtifjagfmfkemmaaGreatDoorFn3
set_option linter.unusedVariables false
set_option maxHeartbeats 0
namespace Go.Proofs.YtifjagfmfkemmaaGreatDoor
open Eng
def Ba.F (K:Nat) (R:Ag) (p0:Ad):Option (Aa×Ad):=(if p0.bad=true then some ((⟨0,[],0,[],([]:List Aa)⟩:Aa),p0) else (if (0:Int)≤p0.at_∧(p0.at_:Int) <(p0.l.length:Int) then (if (p0.l.getD (Int.toNat p0.at_) Dr).Kind=3 then some ((⟨4,[],(p0.l.getD (Int.toNat p0.at_) Dr).Int,[],([]:List Aa)⟩:Aa),(⟨p0.l,(IntKind.i64.wrap (p0.at_+1)),p0.bad⟩:Ad)) else (if (p0.l.getD (Int.toNat p0.at_) Dr).Kind=4 then some ((⟨5,[],0,(p0.l.getD (Int.toNat p0.at_) Dr).Text,([]:List Aa)⟩:Aa),(⟨p0.l,(IntKind.i64.wrap (p0.at_+1)),p0.bad⟩:Ad)) else (if (p0.l.getD (Int.toNat p0.at_) Dr).Kind=1 then (Option.bind (Ah K ([40]:List UInt8) (⟨p0.l,(IntKind.i64.wrap (p0.at_+1)),p0.bad⟩:Ad)) (fun (a1_0,a1_1)=>(if a1_0=true then (Option.bind (R.A5 ([41]:List UInt8) a1_1) (fun (a2_0,a2_1)=>some ((⟨10,(p0.l.getD (Int.toNat p0.at_) Dr).Text,0,[],a2_0⟩:Aa),a2_1))) else some ((⟨6,(p0.l.getD (Int.toNat p0.at_) Dr).Text,0,[],([]:List Aa)⟩:Aa),a1_1)))) else (Option.bind (Ah K ([116,114,117,101]:List UInt8) p0) (fun (a3_0,a3_1)=>(if a3_0=true then some ((⟨2,[],0,[],([]:List Aa)⟩:Aa),a3_1) else (Option.bind (Ah K ([102,97,108,115,101]:List UInt8) a3_1) (fun (a4_0,a4_1)=>(if a4_0=true then some ((⟨3,[],0,[],([]:List Aa)⟩:Aa),a4_1) else (Option.bind (Ah K ([110,117,108,108]:List UInt8) a4_1) (fun (a5_0,a5_1)=>(if a5_0=true then some ((⟨1,[],0,[],([]:List Aa)⟩:Aa),a5_1) else (Option.bind (Ah K ([91]:List UInt8) a5_1) (fun (a6_0,a6_1)=>(if a6_0=true then (Option.bind (R.A5 ([93]:List UInt8) a6_1) (fun (a7_0,a7_1)=>some ((⟨7,[],0,[],a7_0⟩:Aa),a7_1))) else (Option.bind (Ah K ([123]:List UInt8) a6_1) (fun (a8_0,a8_1)=>(if a8_0=true then (Option.bind (R.A8 a8_1) (fun (a9_0,a9_1)=>some ((⟨8,[],0,[],a9_0⟩:Aa),a9_1))) else (Option.bind (Ah K ([40]:List UInt8) a8_1) (fun (a10_0,a10_1)=>(if a10_0=true then (Option.bind (R.Am a10_1) (fun (a11_0,a11_1)=>(Option.bind (Ar K ([41]:List UInt8) a11_1) (fun a12=>some (a11_0,a12))))) else some ((⟨0,[],0,[],([]:List Aa)⟩:Aa),(⟨a10_1.l,a10_1.at_,true⟩:Ad))))))))))))))))))))))) else none))
theorem Ba.body {Γ:Rm} {K:Nat} {R:Ag} (hR:R.Ok) {p0:Ad} {r:Aa×Ad} (h:Ba.F K R p0=some r):Ri V P 105 100 Γ (Tryz.f115.body.getD .skip) (Q7 P V Tryz.f115 (.agg [.I r.1.Op,.str r.1.Name,.I r.1.Int,.str r.1.Text,.ro .Ae r.1.Kids]) [(0,.raw [.ro .Ak r.2.l,.I r.2.at_,.B r.2.bad])]) ⟨Q6 0 [.P 0],[(0,.raw (Ac p0))]⟩:=by
 unfold Ba.F at h
 refine Q4 L 200 <| Qv <| Q4 L 202 ?_
 rcases Qw h with ⟨c1,h⟩ |⟨c1,h⟩
 ·refine tt c1 <| Q4 L 207 <| Qy (Qu.trans (Qu.kk [2] [0,200]) (Qu.rr [(0,0),(200,100)])) ?_
  refine Qx ?_
  cases h
  exact Rd
 refine fN c1 <| Q0 <| Qv ?_
 obtain ⟨g1,h⟩:=Q1 h
 refine rd L mixed 210 [] [] [] [220] 12 (Sj g1.1 g1.2) ?_
 refine Qv <| Q2 <| Q4 L 223 ?_
 rcases Qw h with ⟨c2,h⟩ |⟨c2,h⟩
 ·refine tT c2 <| Q4 L 228 <| Q4 L 237 <| Qy (Qu.trans (Qu.kk [2] [0,200]) (Qu.rr [(0,0),(200,100)])) ?_
  refine Qx ?_
  cases h
  exact Rd
 refine fF c2 <| Q4 L 242 ?_
 rcases Qw h with ⟨c3,h⟩ |⟨c3,h⟩
 ·refine tT c3 <| Q4 L 247 <| Q4 L 256 <| Qy (Qu.trans (Qu.kk [2] [0,200]) (Qu.rr [(0,0),(200,100)])) ?_
  refine Qx ?_
  cases h
  exact Rd
 refine fF c3 <| Q4 L 261 ?_
 rcases Qw h with ⟨c4,h⟩ |⟨c4,h⟩
 ·refine tT c4 <| Q4 L 266 <| Qv <| Qv ?_
  obtain ⟨⟨a1_0,a1_1⟩,h1,h⟩:=bind_some h
  dsimp only at h
  refine rg L 275 [] [] [(1,(Rc (.B a1_0) [(0,.raw (Ac a1_1))]))] (Q3 (Ah.okE h1)) ?_
  rcases Qw h with ⟨c5,h⟩ |⟨c5,h⟩
  ·refine tt c5 <| Qv ?_
   obtain ⟨⟨a2_0,a2_1⟩,h2,h⟩:=bind_some h
   dsimp only at h
   refine hB L mixed 278 [] [] [(3,(Rc (.cv (.ro .Ae a2_0)) [(0,.raw (Ac a2_1))]))] [0,2] 2 (Sj (hR.A5 h2) (hR.A5 h2)) (S':=⟨[(2,.P 200)],[(0,.raw (Ac a2_1)),(200,.raw [.I 10,.str ((p0.l.getD (Int.toNat p0.at_) Dr).Text),.I 0,.str [],.ro .Ae a2_0])]⟩) ?_
   refine Qy (Qu.trans (Qu.kk [2] [0,200]) (Qu.rr [(0,0),(200,100)])) ?_
   refine Qx ?_
   cases h
   exact Rd
  refine fN c5 <| Q0 <| Q4 L 285 <| Qy (Qu.trans (Qu.kk [2] [0,200]) (Qu.rr [(0,0),(200,100)])) ?_
  refine Qx ?_
  cases h
  exact Rd
 refine fF c4 <| Qv ?_
 obtain ⟨⟨a3_0,a3_1⟩,h3,h⟩:=bind_some h
 dsimp only at h
 refine rg L 290 [] [] [(1,(Rc (.B a3_0) [(0,.raw (Ac a3_1))]))] (Q3 (Ah.okE h3)) ?_
 rcases Qw h with ⟨c6,h⟩ |⟨c6,h⟩
 ·refine tt c6 <| Q4 L 294 <| Qy (Qu.trans (Qu.kk [2] [0,200]) (Qu.rr [(0,0),(200,100)])) ?_
  refine Qx ?_
  cases h
  exact Rd
 refine fN c6 <| Qv ?_
 obtain ⟨⟨a4_0,a4_1⟩,h4,h⟩:=bind_some h
 dsimp only at h
 refine rg L 297 [] [] [(1,(Rc (.B a4_0) [(0,.raw (Ac a4_1))]))] (Q3 (Ah.okE h4)) ?_
 rcases Qw h with ⟨c7,h⟩ |⟨c7,h⟩
 ·refine tt c7 <| Q4 L 301 <| Qy (Qu.trans (Qu.kk [2] [0,200]) (Qu.rr [(0,0),(200,100)])) ?_
  refine Qx ?_
  cases h
  exact Rd
 refine fN c7 <| Qv ?_
 obtain ⟨⟨a5_0,a5_1⟩,h5,h⟩:=bind_some h
 dsimp only at h
 refine rg L 304 [] [] [(1,(Rc (.B a5_0) [(0,.raw (Ac a5_1))]))] (Q3 (Ah.okE h5)) ?_
 rcases Qw h with ⟨c8,h⟩ |⟨c8,h⟩
 ·refine tt c8 <| Q4 L 308 <| Qy (Qu.trans (Qu.kk [2] [0,200]) (Qu.rr [(0,0),(200,100)])) ?_
  refine Qx ?_
  cases h
  exact Rd
 refine fN c8 <| Qv ?_
 obtain ⟨⟨a6_0,a6_1⟩,h6,h⟩:=bind_some h
 dsimp only at h
 refine rg L 311 [] [] [(1,(Rc (.B a6_0) [(0,.raw (Ac a6_1))]))] (Q3 (Ah.okE h6)) ?_
 rcases Qw h with ⟨c9,h⟩ |⟨c9,h⟩
 ·refine tt c9 <| Qv ?_
  obtain ⟨⟨a7_0,a7_1⟩,h7,h⟩:=bind_some h
  dsimp only at h
  refine rg L 315 [] [] [(1,(Rc (.cv (.ro .Ae a7_0)) [(0,.raw (Ac a7_1))]))] (Q3 (hR.A5 h7)) ?_
  refine Qy (Qu.trans (Qu.kk [2] [0,200]) (Qu.rr [(0,0),(200,100)])) ?_
  refine Qx ?_
  cases h
  exact Rd
 refine fN c9 <| Qv ?_
 obtain ⟨⟨a8_0,a8_1⟩,h8,h⟩:=bind_some h
 dsimp only at h
 refine rg L 320 [] [] [(1,(Rc (.B a8_0) [(0,.raw (Ac a8_1))]))] (Q3 (Ah.okE h8)) ?_
 rcases Qw h with ⟨c10,h⟩ |⟨c10,h⟩
 ·refine tt c10 <| Qv ?_
  obtain ⟨⟨a9_0,a9_1⟩,h9,h⟩:=bind_some h
  dsimp only at h
  refine rg L 324 [] [] [(1,(Rc (.cv (.ro .Ae a9_0)) [(0,.raw (Ac a9_1))]))] (Q3 (hR.A8 h9)) ?_
  refine Qy (Qu.trans (Qu.kk [2] [0,200]) (Qu.rr [(0,0),(200,100)])) ?_
  refine Qx ?_
  cases h
  exact Rd
 refine fN c10 <| Qv ?_
 obtain ⟨⟨a10_0,a10_1⟩,h10,h⟩:=bind_some h
 dsimp only at h
 refine rg L 329 [] [] [(1,(Rc (.B a10_0) [(0,.raw (Ac a10_1))]))] (Q3 (Ah.okE h10)) ?_
 rcases Qw h with ⟨c11,h⟩ |⟨c11,h⟩
 ·refine tt c11 <| Qv ?_
  obtain ⟨⟨a11_0,a11_1⟩,h11,h⟩:=bind_some h
  dsimp only at h
  refine rg L 333 [] [] [(1,(Rc (.agg (Aj a11_0)) [(0,.raw (Ac a11_1))]))] (Q3 (hR.Am h11)) ?_
  refine Qv ?_
  obtain ⟨a12,h12,h⟩:=bind_some h
  refine rg L 338 [] [] [(1,(Rc (.tup []) [(0,.raw (Ac a12))]))] (Q3 (Ar.okE h12)) ?_
  refine Q4 L 341 <| Qy (Qu.trans (Qu.kk [2] [0,200]) (Qu.rr [(0,0),(200,100)])) ?_
  refine Qx ?_
  cases h
  exact Rd
 refine fN c11 <| Q0 <| Q4 L 344 <| Q4 L 349 <| Qy (Qu.trans (Qu.kk [2] [0,200]) (Qu.rr [(0,0),(200,100)])) ?_
 refine Qx ?_
 cases h
 exact Rd
def Ag.upto (K:Nat):Nat→Ag
 | 0=>⟨fun _=>none,fun _=>none,fun _=>none,fun _=>none,fun _=>none,fun _=>none,fun _ _=>none,fun _=>none,fun _=>none⟩
 | k+1=>⟨Av.F K (Ag.upto K k),A2.F K (Ag.upto K k),A1.F K (Ag.upto K k),Aw.F K (Ag.upto K k),Bc.F K (Ag.upto K k),Am.F K (Ag.upto K k),A5.F K (Ag.upto K k),A8.F K (Ag.upto K k),Ba.F K (Ag.upto K k)⟩
theorem Ag.upto_ok (K:Nat):∀ k,(Ag.upto K k).Ok
 | 0=>⟨fun h=>(by cases h),fun h=>(by cases h),fun h=>(by cases h),fun h=>(by cases h),fun h=>(by cases h),fun h=>(by cases h),fun h=>(by cases h),fun h=>(by cases h),fun h=>(by cases h)⟩
 | k+1=>⟨fun {p0 r} h=>eo (fn:=Tryz.f153) (n:=43) (m:=100) fun Γ=>Av.body (K:=K) (Ag.upto_ok K k) h,fun {p0 r} h=>eo (fn:=Tryz.f144) (n:=25) (m:=100) fun Γ=>A2.body (K:=K) (Ag.upto_ok K k) h,fun {p0 r} h=>eo (fn:=Tryz.f132) (n:=19) (m:=100) fun Γ=>A1.body (K:=K) (Ag.upto_ok K k) h,fun {p0 r} h=>eo (fn:=Tryz.f117) (n:=37) (m:=100) fun Γ=>Aw.body (K:=K) (Ag.upto_ok K k) h,fun {p0 r} h=>eo (fn:=Tryz.f88) (n:=13) (m:=100) fun Γ=>Bc.body (K:=K) (Ag.upto_ok K k) h,fun {p0 r} h=>eo (fn:=Tryz.f54) (n:=13) (m:=100) fun Γ=>Am.body (K:=K) (Ag.upto_ok K k) h,fun {p0 p1 r} h=>eo (fn:=Tryz.f129) (n:=27) (m:=100) fun Γ=>A5.body (K:=K) (Ag.upto_ok K k) h,fun {p0 r} h=>eo (fn:=Tryz.f130) (n:=56) (m:=100) fun Γ=>A8.body (K:=K) (Ag.upto_ok K k) h,fun {p0 r} h=>eo (fn:=Tryz.f115) (n:=105) (m:=100) fun Γ=>Ba.body (K:=K) (Ag.upto_ok K k) h⟩
def Av (K:Nat) (p0:Ad):Option (Aa×Ad):=(Ag.upto K K).Av p0
theorem Av.okE {K:Nat} {p0:Ad} {r:Aa×Ad} (h:Av K p0=some r):Q5 V P 153 [.P 0] [(0,.raw (Ac p0))] [0] (.agg [.I r.1.Op,.str r.1.Name,.I r.1.Int,.str r.1.Text,.ro .Ae r.1.Kids]) [(0,.raw [.ro .Ak r.2.l,.I r.2.at_,.B r.2.bad])]:=(Ag.upto_ok K K).Av h
def A2 (K:Nat) (p0:Ad):Option (Aa×Ad):=(Ag.upto K K).A2 p0
theorem A2.okE {K:Nat} {p0:Ad} {r:Aa×Ad} (h:A2 K p0=some r):Q5 V P 144 [.P 0] [(0,.raw (Ac p0))] [0] (.agg [.I r.1.Op,.str r.1.Name,.I r.1.Int,.str r.1.Text,.ro .Ae r.1.Kids]) [(0,.raw [.ro .Ak r.2.l,.I r.2.at_,.B r.2.bad])]:=(Ag.upto_ok K K).A2 h
def A1 (K:Nat) (p0:Ad):Option (Aa×Ad):=(Ag.upto K K).A1 p0
theorem A1.okE {K:Nat} {p0:Ad} {r:Aa×Ad} (h:A1 K p0=some r):Q5 V P 132 [.P 0] [(0,.raw (Ac p0))] [0] (.agg [.I r.1.Op,.str r.1.Name,.I r.1.Int,.str r.1.Text,.ro .Ae r.1.Kids]) [(0,.raw [.ro .Ak r.2.l,.I r.2.at_,.B r.2.bad])]:=(Ag.upto_ok K K).A1 h
def Aw (K:Nat) (p0:Ad):Option (Aa×Ad):=(Ag.upto K K).Aw p0
theorem Aw.okE {K:Nat} {p0:Ad} {r:Aa×Ad} (h:Aw K p0=some r):Q5 V P 117 [.P 0] [(0,.raw (Ac p0))] [0] (.agg [.I r.1.Op,.str r.1.Name,.I r.1.Int,.str r.1.Text,.ro .Ae r.1.Kids]) [(0,.raw [.ro .Ak r.2.l,.I r.2.at_,.B r.2.bad])]:=(Ag.upto_ok K K).Aw h
def Bc (K:Nat) (p0:Ad):Option (Aa×Ad):=(Ag.upto K K).Bc p0
theorem Bc.okE {K:Nat} {p0:Ad} {r:Aa×Ad} (h:Bc K p0=some r):Q5 V P 88 [.P 0] [(0,.raw (Ac p0))] [0] (.agg [.I r.1.Op,.str r.1.Name,.I r.1.Int,.str r.1.Text,.ro .Ae r.1.Kids]) [(0,.raw [.ro .Ak r.2.l,.I r.2.at_,.B r.2.bad])]:=(Ag.upto_ok K K).Bc h
def Am (K:Nat) (p0:Ad):Option (Aa×Ad):=(Ag.upto K K).Am p0
theorem Am.okE {K:Nat} {p0:Ad} {r:Aa×Ad} (h:Am K p0=some r):Q5 V P 54 [.P 0] [(0,.raw (Ac p0))] [0] (.agg [.I r.1.Op,.str r.1.Name,.I r.1.Int,.str r.1.Text,.ro .Ae r.1.Kids]) [(0,.raw [.ro .Ak r.2.l,.I r.2.at_,.B r.2.bad])]:=(Ag.upto_ok K K).Am h
def A5 (K:Nat) (p0:List UInt8) (p1:Ad):Option ((List Aa)×Ad):=(Ag.upto K K).A5 p0 p1
theorem A5.okE {K:Nat} {p0:List UInt8} {p1:Ad} {r:(List Aa)×Ad} (h:A5 K p0 p1=some r):Q5 V P 129 [.P 0,.cv (.str p0)] [(0,.raw (Ac p1))] [0] (.cv (.ro .Ae r.1)) [(0,.raw [.ro .Ak r.2.l,.I r.2.at_,.B r.2.bad])]:=(Ag.upto_ok K K).A5 h
def A8 (K:Nat) (p0:Ad):Option ((List Aa)×Ad):=(Ag.upto K K).A8 p0
theorem A8.okE {K:Nat} {p0:Ad} {r:(List Aa)×Ad} (h:A8 K p0=some r):Q5 V P 130 [.P 0] [(0,.raw (Ac p0))] [0] (.cv (.ro .Ae r.1)) [(0,.raw [.ro .Ak r.2.l,.I r.2.at_,.B r.2.bad])]:=(Ag.upto_ok K K).A8 h
def Ba (K:Nat) (p0:Ad):Option (Aa×Ad):=(Ag.upto K K).Ba p0
theorem Ba.okE {K:Nat} {p0:Ad} {r:Aa×Ad} (h:Ba K p0=some r):Q5 V P 115 [.P 0] [(0,.raw (Ac p0))] [0] (.agg [.I r.1.Op,.str r.1.Name,.I r.1.Int,.str r.1.Text,.ro .Ae r.1.Kids]) [(0,.raw [.ro .Ak r.2.l,.I r.2.at_,.B r.2.bad])]:=(Ag.upto_ok K K).Ba h
def D4 (K:Nat) (p0:Ad):Option (Aa×Ad):=(Option.bind (Ah K ([45]:List UInt8) p0) (fun (a1_0,a1_1)=>(Option.bind ((if a1_1.bad=true then some a1_1.bad else (if a1_0=true then (Option.bind (A7 K a1_1 3) (fun a2=>(if a2=true then some a1_1.bad else some true))) else some a1_1.bad)):Option Bool) (fun xh0_2_5=>(if a1_0=true then (Option.bind (Ba K (⟨a1_1.l,a1_1.at_,xh0_2_5⟩:Ad)) (fun (a3_0,a3_1)=>(Option.bind (Ca K 14 a3_0) (fun a4=>some (a4,a3_1))))) else (Option.bind (((Option.bind (A7 K (⟨a1_1.l,a1_1.at_,xh0_2_5⟩:Ad) 3) (fun a5=>(if a5=true then some true else (Option.bind (A7 K (⟨a1_1.l,a1_1.at_,xh0_2_5⟩:Ad) 4) (fun a6=>(if a6=true then some true else (Option.bind (B8 K (⟨a1_1.l,a1_1.at_,xh0_2_5⟩:Ad) ([116,114,117,101]:List UInt8)) (fun a7=>(if a7=true then some true else (Option.bind (B8 K (⟨a1_1.l,a1_1.at_,xh0_2_5⟩:Ad) ([102,97,108,115,101]:List UInt8)) (fun a8=>(if a8=true then some true else (Option.bind (B8 K (⟨a1_1.l,a1_1.at_,xh0_2_5⟩:Ad) ([110,117,108,108]:List UInt8)) (fun a9=>some a9))))))))))))))):Option Bool) (fun xt43_20=>(if xt43_20=true then (Option.bind (Ba K (⟨a1_1.l,a1_1.at_,xh0_2_5⟩:Ad)) (fun (a10_0,a10_1)=>some (a10_0,a10_1))) else some ((⟨0,[],0,[],([]:List Aa)⟩:Aa),(⟨a1_1.l,a1_1.at_,true⟩:Ad))))))))))
theorem D4.body {Γ:Rm} {K:Nat} {p0:Ad} {r:Aa×Ad} (h:D4 K p0=some r):Ri V P 50 100 Γ (Tryz.f84.body.getD .skip) (Q7 P V Tryz.f84 (.agg [.I r.1.Op,.str r.1.Name,.I r.1.Int,.str r.1.Text,.ro .Ae r.1.Kids]) [(0,.raw [.ro .Ak r.2.l,.I r.2.at_,.B r.2.bad])]) ⟨Q6 0 [.P 0],[(0,.raw (Ac p0))]⟩:=by
 unfold D4 at h
 refine Q4 L 200 <| Qv ?_
 obtain ⟨⟨a1_0,a1_1⟩,h1,h⟩:=bind_some h
 dsimp only at h
 refine rg L 202 [] [] [(1,(Rc (.B a1_0) [(0,.raw (Ac a1_1))]))] (Q3 (Ah.okE h1)) ?_
 obtain ⟨o1,hp1,h⟩:=bind_some h
 refine Qv (Rk (Q':=fun e S=>(e=.normal∧∃ xh0_2_5:Bool,S=⟨[(0,.P 0),(2,.P 21000),(3,.B a1_0)],[(0,.raw [.ro .Ak a1_1.l,.I a1_1.at_,.B xh0_2_5]),(21000,.raw [.I 0,.str [],.I 0,.str [],.N])]⟩∧xh0_2_5=o1)) ?_ ?_)
 ·clear h
  replace h:=hp1
  refine Qv ?_
  rcases Qw h with ⟨c1,h⟩ |⟨c1,h⟩
  ·refine rg L 206 [(5,false)] [] [] (Q3 (show (!a1_1.bad)=false from congrArg Bool.not (c1))) ?_
   refine ff (b:=false) (rfl) ?_
   refine Qy (Qu.trans (Qu.kk [0,2,3] [0,200]) (Qu.rr [(0,0),(200,21000)])) ?_
   refine sk (S':=⟨[(0,.P 0),(2,.P 21000),(3,.B a1_0)],[(0,.raw (Ac a1_1)),(21000,.raw [.I 0,.str [],.I 0,.str [],.N])]⟩) ?_
   cases h
   exact ⟨rfl,_,rfl,rfl⟩
  rcases Qw h with ⟨c2,h⟩ |⟨c2,h⟩
  ·obtain ⟨a2,h2,h⟩:=bind_some h
   refine rg L 206 [(5,true),(8,true)] [(10,.B a2)] [] (Qz (show (!a1_1.bad)=true from congrArg Bool.not (eq_false_of_ne_true c1)) (Qz c2 (Qz (A7.ok h2) (Q3 trivial)))) ?_
   rcases Qw h with ⟨c3,h⟩ |⟨c3,h⟩
   ·refine ff (b:=(!a2)) (congrArg Bool.not (c3)) ?_
    refine Qy (Qu.trans (Qu.kk [0,2,3] [0,200]) (Qu.rr [(0,0),(200,21000)])) ?_
    refine sk (S':=⟨[(0,.P 0),(2,.P 21000),(3,.B a1_0)],[(0,.raw (Ac a1_1)),(21000,.raw [.I 0,.str [],.I 0,.str [],.N])]⟩) ?_
    cases h
    exact ⟨rfl,_,rfl,rfl⟩
   refine tt (b:=(!a2)) (congrArg Bool.not (eq_false_of_ne_true c3)) ?_
   refine Q8 (Ul L 220 ⟨rfl,rfl⟩) (Qu.trans (Qu.kk [0,2,3] [0,200]) (Qu.trans (Qu.rr [(0,0),(200,21000)]) (Qu.kp (S':=⟨[(0,.P 0),(2,.P 21000),(3,.B a1_0)],[(0,.raw [.ro .Ak a1_1.l,.I a1_1.at_,.B true]),(21000,.raw [.I 0,.str [],.I 0,.str [],.N])]⟩)))) ?_
   cases h
   exact ⟨rfl,_,rfl,rfl⟩
  refine rg L 206 [(5,true),(8,false)] [] [] (Sj (show (!a1_1.bad)=true from congrArg Bool.not (eq_false_of_ne_true c1)) (eq_false_of_ne_true c2)) ?_
  refine ff (b:=false) (rfl) ?_
  refine Qy (Qu.trans (Qu.kk [0,2,3] [0,200]) (Qu.rr [(0,0),(200,21000)])) ?_
  refine sk (S':=⟨[(0,.P 0),(2,.P 21000),(3,.B a1_0)],[(0,.raw (Ac a1_1)),(21000,.raw [.I 0,.str [],.I 0,.str [],.N])]⟩) ?_
  cases h
  exact ⟨rfl,_,rfl,rfl⟩
 ·rintro e S ⟨rfl,xh0_2_5,rfl,rfl⟩
  refine Qv <| Q4 L 225 ?_
  rcases Qw h with ⟨c4,h⟩ |⟨c4,h⟩
  ·refine tt c4 <| Qv ?_
   obtain ⟨⟨a3_0,a3_1⟩,h3,h⟩:=bind_some h
   dsimp only at h
   obtain ⟨a4,h4,h⟩:=bind_some h
   refine rg L 227 [] [(2,.agg (Aj a4))] [(1,(Rc (.agg (Aj a3_0)) [(0,.raw (Ac a3_1))]))] (Qz (Ba.okE h3) (Qz (Ca.ok h4) (Q3 trivial))) ?_
   refine Qy (Qu.trans (Qu.kk [2] [0,21000]) (Qu.rr [(0,0),(21000,100)])) ?_
   refine Qx ?_
   cases h
   exact Rd
  refine fN c4 <| Q0 <| Qv ?_
  obtain ⟨o2,hp2,h⟩:=bind_some h
  refine Qv (Rk (Q':=fun e S=>(e=.normal∧∃ xt43_20:Bool,S=⟨[(0,.P 0),(2,.P 24000),(43,.B xt43_20)],[(0,.raw [.ro .Ak a1_1.l,.I a1_1.at_,.B xh0_2_5]),(24000,.raw [.I 0,.str [],.I 0,.str [],.N])]⟩∧xt43_20=o2)) ?_ ?_)
  ·clear h
   replace h:=hp2
   obtain ⟨a5,h5,h⟩:=bind_some h
   rcases Qw h with ⟨c5,h⟩ |⟨c5,h⟩
   ·refine Q8 (rg L 232 [(2,true)] [(1,.B a5)] [] (Qz (A7.ok h5) (Qz trivial (Q3 c5))) ⟨rfl,rfl⟩) (Qu.trans (Qu.kk [0,2,43] [0,21000]) (Qu.trans (Qu.rr [(0,0),(21000,24000)]) (Qu.kp (S':=⟨[(0,.P 0),(2,.P 24000),(43,.B true)],[(0,.raw [.ro .Ak a1_1.l,.I a1_1.at_,.B xh0_2_5]),(24000,.raw [.I 0,.str [],.I 0,.str [],.N])]⟩)))) ?_
    cases h
    exact ⟨rfl,_,rfl,rfl⟩
   obtain ⟨a6,h6,h⟩:=bind_some h
   rcases Qw h with ⟨c6,h⟩ |⟨c6,h⟩
   ·refine Q8 (rg L 232 [(2,false),(6,true)] [(1,.B a5),(4,.B a6)] [] (Qz (A7.ok h5) (Qz trivial (Qz (eq_false_of_ne_true c5) (Qz (A7.ok h6) (Qz trivial (Q3 c6)))))) ⟨rfl,rfl⟩) (Qu.trans (Qu.kk [0,2,43] [0,21000]) (Qu.trans (Qu.rr [(0,0),(21000,24000)]) (Qu.kp (S':=⟨[(0,.P 0),(2,.P 24000),(43,.B true)],[(0,.raw [.ro .Ak a1_1.l,.I a1_1.at_,.B xh0_2_5]),(24000,.raw [.I 0,.str [],.I 0,.str [],.N])]⟩)))) ?_
    cases h
    exact ⟨rfl,_,rfl,rfl⟩
   obtain ⟨a7,h7,h⟩:=bind_some h
   rcases Qw h with ⟨c7,h⟩ |⟨c7,h⟩
   ·refine Q8 (rg L 232 [(2,false),(6,false),(10,true)] [(1,.B a5),(4,.B a6),(8,.B a7)] [] (Qz (A7.ok h5) (Qz trivial (Qz (eq_false_of_ne_true c5) (Qz (A7.ok h6) (Qz trivial (Qz (eq_false_of_ne_true c6) (Qz (B8.ok h7) (Qz trivial (Q3 c7))))))))) ⟨rfl,rfl⟩) (Qu.trans (Qu.kk [0,2,43] [0,21000]) (Qu.trans (Qu.rr [(0,0),(21000,24000)]) (Qu.kp (S':=⟨[(0,.P 0),(2,.P 24000),(43,.B true)],[(0,.raw [.ro .Ak a1_1.l,.I a1_1.at_,.B xh0_2_5]),(24000,.raw [.I 0,.str [],.I 0,.str [],.N])]⟩)))) ?_
    cases h
    exact ⟨rfl,_,rfl,rfl⟩
   obtain ⟨a8,h8,h⟩:=bind_some h
   rcases Qw h with ⟨c8,h⟩ |⟨c8,h⟩
   ·refine Q8 (rg L 232 [(2,false),(6,false),(10,false),(14,true)] [(1,.B a5),(4,.B a6),(8,.B a7),(12,.B a8)] [] (Qz (A7.ok h5) (Qz trivial (Qz (eq_false_of_ne_true c5) (Qz (A7.ok h6) (Qz trivial (Qz (eq_false_of_ne_true c6) (Qz (B8.ok h7) (Qz trivial (Qz (eq_false_of_ne_true c7) (Qz (B8.ok h8) (Qz trivial (Q3 c8)))))))))))) ⟨rfl,rfl⟩) (Qu.trans (Qu.kk [0,2,43] [0,21000]) (Qu.trans (Qu.rr [(0,0),(21000,24000)]) (Qu.kp (S':=⟨[(0,.P 0),(2,.P 24000),(43,.B true)],[(0,.raw [.ro .Ak a1_1.l,.I a1_1.at_,.B xh0_2_5]),(24000,.raw [.I 0,.str [],.I 0,.str [],.N])]⟩)))) ?_
    cases h
    exact ⟨rfl,_,rfl,rfl⟩
   obtain ⟨a9,h9,h⟩:=bind_some h
   refine Q8 (rg L 232 [(2,false),(6,false),(10,false),(14,false)] [(1,.B a5),(4,.B a6),(8,.B a7),(12,.B a8),(16,.B a9)] [] (Qz (A7.ok h5) (Qz trivial (Qz (eq_false_of_ne_true c5) (Qz (A7.ok h6) (Qz trivial (Qz (eq_false_of_ne_true c6) (Qz (B8.ok h7) (Qz trivial (Qz (eq_false_of_ne_true c7) (Qz (B8.ok h8) (Qz trivial (Qz (eq_false_of_ne_true c8) (Qz (B8.ok h9) (Q3 trivial)))))))))))))) ⟨rfl,rfl⟩) (Qu.trans (Qu.kk [0,2,43] [0,21000]) (Qu.trans (Qu.rr [(0,0),(21000,24000)]) (Qu.kp (S':=⟨[(0,.P 0),(2,.P 24000),(43,.B a9)],[(0,.raw [.ro .Ak a1_1.l,.I a1_1.at_,.B xh0_2_5]),(24000,.raw [.I 0,.str [],.I 0,.str [],.N])]⟩)))) ?_
   cases h
   exact ⟨rfl,_,rfl,rfl⟩
  ·rintro e S ⟨rfl,xt43_20,rfl,rfl⟩
   rcases Qw h with ⟨c9,h⟩ |⟨c9,h⟩
   ·refine tt c9 <| Qv ?_
    obtain ⟨⟨a10_0,a10_1⟩,h10,h⟩:=bind_some h
    dsimp only at h
    refine rg L 251 [] [] [(1,(Rc (.agg (Aj a10_0)) [(0,.raw (Ac a10_1))]))] (Q3 (Ba.okE h10)) ?_
    refine Qy (Qu.trans (Qu.kk [2] [0,24000]) (Qu.rr [(0,0),(24000,100)])) ?_
    refine Qx ?_
    cases h
    exact Rd
   refine fN c9 <| Q0 <| Q4 L 255 <| Q4 L 260 <| Qy (Qu.trans (Qu.kk [2] [0,24000]) (Qu.rr [(0,0),(24000,100)])) ?_
   refine Qx ?_
   cases h
   exact Rd
theorem D4.okE {K:Nat} {p0:Ad} {r:Aa×Ad} (h:D4 K p0=some r):Q5 V P 84 [.P 0] [(0,.raw (Ac p0))] [0] (.agg [.I r.1.Op,.str r.1.Name,.I r.1.Int,.str r.1.Text,.ro .Ae r.1.Kids]) [(0,.raw [.ro .Ak r.2.l,.I r.2.at_,.B r.2.bad])] :=
 eo (fn:=Tryz.f84) (n:=50) (m:=100) fun Γ=>D4.body h
def Cb (K:Nat) (p0:Aa) (p1:Ad):Option (Aa×Ad):=(Option.bind (Ar K ([59]:List UInt8) p1) (fun a1=>some (p0,a1)))
theorem Cb.body {Γ:Rm} {K:Nat} {p0:Aa} {p1:Ad} {r:Aa×Ad} (h:Cb K p0 p1=some r):Ri V P 8 100 Γ (Tryz.f85.body.getD .skip) (Q7 P V Tryz.f85 (.agg [.I r.1.Op,.str r.1.Name,.I r.1.Int,.str r.1.Text,.ro .Ae r.1.Kids]) [(0,.raw [.ro .Ak r.2.l,.I r.2.at_,.B r.2.bad])]) ⟨Q6 0 [.P 0,.agg (Aj p0)],[(0,.raw (Ac p1))]⟩:=by
 unfold Cb at h
 refine Q4 L 200 <| Qv ?_
 obtain ⟨a1,h1,h⟩:=bind_some h
 refine rg L 203 [] [] [(1,(Rc (.tup []) [(0,.raw (Ac a1))]))] (Q3 (Ar.okE h1)) ?_
 refine Q4 L 206 <| Qy (Qu.trans (Qu.kk [4] [0,201]) (Qu.rr [(0,0),(201,100)])) ?_
 refine Qx ?_
 cases h
 exact Rd
theorem Cb.okE {K:Nat} {p0:Aa} {p1:Ad} {r:Aa×Ad} (h:Cb K p0 p1=some r):Q5 V P 85 [.P 0,.agg (Aj p0)] [(0,.raw (Ac p1))] [0] (.agg [.I r.1.Op,.str r.1.Name,.I r.1.Int,.str r.1.Text,.ro .Ae r.1.Kids]) [(0,.raw [.ro .Ak r.2.l,.I r.2.at_,.B r.2.bad])] :=
 eo (fn:=Tryz.f85) (n:=8) (m:=100) fun Γ=>Cb.body h
def D6 (K:Nat) (p0:Ad) (p1:List UInt8):Option Bool:=(if (IntKind.i64.wrap (p0.at_+1)) <(p0.l.length:Int) then (if (0:Int)≤(IntKind.i64.wrap (p0.at_+1))∧((IntKind.i64.wrap (p0.at_+1)):Int) <(p0.l.length:Int) then (if (p0.l.getD (Int.toNat (IntKind.i64.wrap (p0.at_+1))) Dr).Kind=5 then some ((decide ((p0.l.getD (Int.toNat (IntKind.i64.wrap (p0.at_+1))) Dr).Text=p1))) else some false) else none) else some false)
theorem D6.body {Γ:Rm} {K:Nat} {p0:Ad} {p1:List UInt8} {r:Bool} (h:D6 K p0 p1=some r):Ri V P 47 100 Γ (Tryz.f141.body.getD .skip) (Q7 P V Tryz.f141 (.B r) []) ⟨Q6 0 [.cv (.pcs (Ac p0) 0),.cv (.str p1)],[]⟩:=by
 unfold D6 at h
 refine Q4 L 200 <| Qv ?_
 rcases Qw h with ⟨c1,h⟩ |⟨c1,h⟩
 ·obtain ⟨g1,h⟩:=Q1 h
  rcases Qw h with ⟨c2,h⟩ |⟨c2,h⟩
  ·refine rd L mixed 202 [(11,true),(26,true)] [] [] [] 43 (Qz (decide_eq_true c1) (Qz g1.1 (Qz g1.2 (Qz (decide_eq_true c2) (Qz g1.1 (Q3 g1.2)))))) ?_
   refine Qx ?_
   cases h
   exact Rd
  refine rd L mixed 202 [(11,true),(26,false)] [] [] [] 43 (Qz (decide_eq_true c1) (Qz g1.1 (Qz g1.2 (Q3 (decide_eq_false c2))))) ?_
  refine Qx ?_
  cases h
  exact Rd
 refine rd L mixed 202 [(11,false)] [] [] [] 43 (Q3 (decide_eq_false c1)) ?_
 refine Qx ?_
 cases h
 exact Rd
theorem D6.ok {K:Nat} {p0:Ad} {p1:List UInt8} {r:Bool} (h:D6 K p0 p1=some r):Rb V P 141 [.cv (.pcs (Ac p0) 0),.cv (.str p1)] (.B r):=Q5.pcall (eo (fn:=Tryz.f141) (n:=47) (m:=100) fun Γ=>D6.body h) (by kernel_rfl)
def Dv (K:Nat) (p0:Int) (p1:Aa) (p2:Aa):Option (List Aa):=some ([(⟨p1.Op,p1.Name,p1.Int,p1.Text,p1.Kids⟩:Aa),(⟨p2.Op,p2.Name,p2.Int,p2.Text,p2.Kids⟩:Aa)]:List Aa)
theorem Dv.body {Γ:Rm} {K:Nat} {p0:Int} {p1:Aa} {p2:Aa} {r:List Aa} (h:Dv K p0 p1 p2=some r):Ri V P 12 100 Γ (Tryz.f89.body.getD .skip) (Q7 P V Tryz.f89 (.agg [.I p0,.str [],.I 0,.str [],.own .Ae 100]) [(100,.lst .Ae r)]) ⟨Q6 0 [.I p0,.agg (Aj p1),.agg (Aj p2)],[]⟩:=by
 unfold Dv at h
 refine Q4 L 200 <| Q4 L 100204 <| Qy (Qu.trans (Qu.kk [6] [202,100207]) (Qu.rr [(202,101),(100207,100)])) ?_
 refine Qx ?_
 cases h
 exact Rd
theorem Dv.okE {K:Nat} {p0:Int} {p1:Aa} {p2:Aa} {r:List Aa} (h:Dv K p0 p1 p2=some r):Q5 V P 89 [.I p0,.agg (Aj p1),.agg (Aj p2)] [] [] (.agg [.I p0,.str [],.I 0,.str [],.own .Ae 100]) [(100,.lst .Ae r)] :=
 eo (fn:=Tryz.f89) (n:=12) (m:=100) fun Γ=>Dv.body h
structure A6 where
 Cl:Ad→Option (Aa×Ad)
 Bz:Ad→Option (Aa×Ad)
 C0:Ad→Option (Aa×Ad)
 As:Ad→Option (Aa×Ad)
structure A6.Ok (R:A6):Prop where
 Cl:∀ {p0:Ad} {r:Aa×Ad},R.Cl p0=some r→Q5 V P 142 [.P 0] [(0,.raw (Ac p0))] [0] (.agg [.I r.1.Op,.str r.1.Name,.I r.1.Int,.str r.1.Text,.ro .Ae r.1.Kids]) [(0,.raw [.ro .Ak r.2.l,.I r.2.at_,.B r.2.bad])]
 Bz:∀ {p0:Ad} {r:Aa×Ad},R.Bz p0=some r→Q5 V P 143 [.P 0] [(0,.raw (Ac p0))] [0] (.agg [.I r.1.Op,.str r.1.Name,.I r.1.Int,.str r.1.Text,.ro .Ae r.1.Kids]) [(0,.raw [.ro .Ak r.2.l,.I r.2.at_,.B r.2.bad])]
 C0:∀ {p0:Ad} {r:Aa×Ad},R.C0 p0=some r→Q5 V P 131 [.P 0] [(0,.raw (Ac p0))] [0] (.agg [.I r.1.Op,.str r.1.Name,.I r.1.Int,.str r.1.Text,.ro .Ae r.1.Kids]) [(0,.raw [.ro .Ak r.2.l,.I r.2.at_,.B r.2.bad])]
 As:∀ {p0:Ad} {r:Aa×Ad},R.As p0=some r→Q5 V P 116 [.P 0] [(0,.raw (Ac p0))] [0] (.agg [.I r.1.Op,.str r.1.Name,.I r.1.Int,.str r.1.Text,.ro .Ae r.1.Kids]) [(0,.raw [.ro .Ak r.2.l,.I r.2.at_,.B r.2.bad])]
def Cl.F (K:Nat) (R:A6) (p0:Ad):Option (Aa×Ad):=(Option.bind (Ar K ([105,102]:List UInt8) p0) (fun a1=>(Option.bind (Am K a1) (fun (a2_0,a2_1)=>(Option.bind (R.As a2_1) (fun (a3_0,a3_1)=>(Option.bind (Dv K 42 a2_0 a3_0) (fun a4=>(Option.bind (Ah K ([101,108,115,101]:List UInt8) a3_1) (fun (a5_0,a5_1)=>(if a5_0=true then (Option.bind (B8 K a5_1 ([105,102]:List UInt8)) (fun a6=>(if a6=true then (Option.bind (R.Cl a5_1) (fun (a7_0,a7_1)=>(if (a4.length+([(⟨a7_0.Op,a7_0.Name,a7_0.Int,a7_0.Text,a7_0.Kids⟩:Aa)]:List Aa).length) * 72≤140737488355328 then some ((⟨42,[],0,[],(a4++([(⟨a7_0.Op,a7_0.Name,a7_0.Int,a7_0.Text,a7_0.Kids⟩:Aa)]:List Aa))⟩:Aa),a7_1) else none))) else (Option.bind (R.As a5_1) (fun (a8_0,a8_1)=>(if (a4.length+([(⟨a8_0.Op,a8_0.Name,a8_0.Int,a8_0.Text,a8_0.Kids⟩:Aa)]:List Aa).length) * 72≤140737488355328 then some ((⟨42,[],0,[],(a4++([(⟨a8_0.Op,a8_0.Name,a8_0.Int,a8_0.Text,a8_0.Kids⟩:Aa)]:List Aa))⟩:Aa),a8_1) else none)))))) else some ((⟨42,[],0,[],a4⟩:Aa),a5_1))))))))))))
theorem Cl.body {Γ:Rm} {K:Nat} {R:A6} (hR:R.Ok) {p0:Ad} {r:Aa×Ad} (h:Cl.F K R p0=some r):Ri V P 32 100 Γ (Tryz.f142.body.getD .skip) (Q7 P V Tryz.f142 (.agg [.I r.1.Op,.str r.1.Name,.I r.1.Int,.str r.1.Text,.ro .Ae r.1.Kids]) [(0,.raw [.ro .Ak r.2.l,.I r.2.at_,.B r.2.bad])]) ⟨Q6 0 [.P 0],[(0,.raw (Ac p0))]⟩:=by
 unfold Cl.F at h
 refine Q4 L 200 <| Qv ?_
 obtain ⟨a1,h1,h⟩:=bind_some h
 refine rg L 202 [] [] [(1,(Rc (.tup []) [(0,.raw (Ac a1))]))] (Q3 (Ar.okE h1)) ?_
 refine Qv ?_
 obtain ⟨⟨a2_0,a2_1⟩,h2,h⟩:=bind_some h
 dsimp only at h
 refine rg L 205 [] [] [(1,(Rc (.agg (Aj a2_0)) [(0,.raw (Ac a2_1))]))] (Q3 (Am.okE h2)) ?_
 refine Qv ?_
 obtain ⟨⟨a3_0,a3_1⟩,h3,h⟩:=bind_some h
 dsimp only at h
 obtain ⟨a4,h4,h⟩:=bind_some h
 refine hB L mixed 210 [] [] [(2,(Rc (.agg (Aj a3_0)) [(0,.raw (Ac a3_1))])),(3,(ef [] [] (.agg [.I 42,.str [],.I 0,.str [],.own .Ae 100]) [(100,.lst .Ae a4)] [(100,5104)]))] [1] 8 (Qz (hR.As h3) (Qz (Dv.okE h4) (Qz (Dv.okE h4) (Qz (hR.As h3) (Qz (Dv.okE h4) (Qz (hR.As h3) (Qz (Dv.okE h4) (Qz (Dv.okE h4) (Qz (Dv.okE h4) (Qz (hR.As h3) (Qz (Dv.okE h4) (Qz (hR.As h3) (Q3 (Dv.okE h4)))))))))))))) (S':=⟨[(0,.P 0),(2,.P 200),(4,.P 214)],[(0,.raw (Ac a3_1)),(200,.raw [.I 0,.str [],.I 0,.str [],.N]),(214,.raw [.I 42,.str [],.I 0,.str [],.own .Ae 5104]),(5104,.lst .Ae a4)]⟩) ?_
 refine Qv <| Qv ?_
 obtain ⟨⟨a5_0,a5_1⟩,h5,h⟩:=bind_some h
 dsimp only at h
 refine rg L 217 [] [] [(1,(Rc (.B a5_0) [(0,.raw (Ac a5_1))]))] (Q3 (Ah.okE h5)) ?_
 rcases Qw h with ⟨c1,h⟩ |⟨c1,h⟩
 ·refine tt c1 <| Qv ?_
  obtain ⟨a6,h6,h⟩:=bind_some h
  refine rg L 220 [] [(1,.B a6)] [] (R6 (B8.ok h6)) ?_
  rcases Qw h with ⟨c2,h⟩ |⟨c2,h⟩
  ·refine tt c2 ?_
   obtain ⟨⟨a7_0,a7_1⟩,h7,h⟩:=bind_some h
   dsimp only at h
   obtain ⟨g1,h⟩:=Q1 h
   refine hB L mixed 223 [] [] [(3,(Rc (.agg (Aj a7_0)) [(0,.raw (Ac a7_1))]))] [0,2] 3 (Qz (hR.Cl h7) (Qz g1 (Qz trivial (Qz (hR.Cl h7) (Qz g1 (Qz trivial (Qz g1 (Q3 trivial)))))))) (S':=⟨[(2,.P 200),(4,.P 214)],[(0,.raw (Ac a7_1)),(200,.raw [.I 0,.str [],.I 0,.str [],.N]),(214,.raw [.I 42,.str [],.I 0,.str [],.own .Ae 5104]),(5104,.lst .Ae (a4++([(⟨a7_0.Op,a7_0.Name,a7_0.Int,a7_0.Text,a7_0.Kids⟩:Aa)]:List Aa)))]⟩) ?_
   refine Q4 L 241 <| Qy (Qu.trans (Qu.kk [2] [0,200,5104]) (Qu.trans (Qu.fz 5104) (Qu.rr [(0,0),(200,100)]))) ?_
   refine Qx ?_
   cases h
   exact Rd
  refine fN c2 ?_
  obtain ⟨⟨a8_0,a8_1⟩,h8,h⟩:=bind_some h
  dsimp only at h
  obtain ⟨g2,h⟩:=Q1 h
  refine hB L mixed 232 [] [] [(3,(Rc (.agg (Aj a8_0)) [(0,.raw (Ac a8_1))]))] [0,2] 3 (Qz (hR.As h8) (Qz g2 (Qz trivial (Qz (hR.As h8) (Qz g2 (Qz trivial (Qz g2 (Q3 trivial)))))))) (S':=⟨[(2,.P 200),(4,.P 214)],[(0,.raw (Ac a8_1)),(200,.raw [.I 0,.str [],.I 0,.str [],.N]),(214,.raw [.I 42,.str [],.I 0,.str [],.own .Ae 5104]),(5104,.lst .Ae (a4++([(⟨a8_0.Op,a8_0.Name,a8_0.Int,a8_0.Text,a8_0.Kids⟩:Aa)]:List Aa)))]⟩) ?_
  refine Q4 L 241 <| Qy (Qu.trans (Qu.kk [2] [0,200,5104]) (Qu.trans (Qu.fz 5104) (Qu.rr [(0,0),(200,100)]))) ?_
  refine Qx ?_
  cases h
  exact Rd
 refine fN c1 <| Q0 <| Q4 L 241 <| Qy (Qu.trans (Qu.kk [2] [0,200,5104]) (Qu.trans (Qu.fz 5104) (Qu.rr [(0,0),(200,100)]))) ?_
 refine Qx ?_
 cases h
 exact Rd
def Bz.l9 (K:Nat) (R:A6):Nat→(List Al)→Int→Bool→(List Aa)→Option ((List Al)×Int×Bool×(List Aa))
 | 0,_,_,_,_=>none
 | k+1,xh0_0_9h,xh0_1_9h,xh0_2_9h,x21902=>(if (x21902.length:Int) < 16 then (Option.bind (Ah K ([99,97,115,101]:List UInt8) (⟨xh0_0_9h,xh0_1_9h,xh0_2_9h⟩:Ad)) (fun (a2_0,a2_1)=>(if a2_0=true then (Option.bind (((Option.bind (((Option.bind (A7 K a2_1 1) (fun a3=>(if a3=true then (Option.bind (D6 K a2_1 ([61]:List UInt8)) (fun a4=>some a4)) else some false)))):Option Bool) (fun xt23_20=>(if xt23_20=true then (Option.bind (Bd K a2_1) (fun (a5_0,a5_1)=>(Option.bind (Ar K ([61]:List UInt8) a5_1) (fun a6=>some (a5_0,a6.l,a6.at_,a6.bad))))) else some (([]:List UInt8),a2_1.l,a2_1.at_,a2_1.bad))))):Option ((List UInt8)×(List Al)×Int×Bool)) (fun (xt4_19,xh0_0_19,xh0_1_19,xh0_2_19)=>(Option.bind (Am K (⟨xh0_0_19,xh0_1_19,xh0_2_19⟩:Ad)) (fun (a7_0,a7_1)=>(Option.bind (R.As a7_1) (fun (a8_0,a8_1)=>(Option.bind (A3 K 50 a7_0 a8_0) (fun a9=>(if (x21902.length+([(⟨a9.Op,xt4_19,a9.Int,a9.Text,a9.Kids⟩:Aa)]:List Aa).length) * 72≤140737488355328 then Bz.l9 K R k a8_1.l a8_1.at_ a8_1.bad (x21902++([(⟨a9.Op,xt4_19,a9.Int,a9.Text,a9.Kids⟩:Aa)]:List Aa)) else none))))))))) else some (a2_1.l,a2_1.at_,a2_1.bad,x21902)))) else some (xh0_0_9h,xh0_1_9h,xh0_2_9h,x21902))
def Bz.F (K:Nat) (R:A6) (p0:Ad):Option (Aa×Ad):=(Option.bind (Ar K ([123]:List UInt8) p0) (fun a1=>(Option.bind (Bz.l9 K R K a1.l a1.at_ a1.bad ([]:List Aa):Option ((List Al)×Int×Bool×(List Aa))) (fun (xh0_0_9,xh0_1_9,xh0_2_9,x21802)=>(Option.bind (((Option.bind (Ah K ([101,108,115,101]:List UInt8) (⟨xh0_0_9,xh0_1_9,xh0_2_9⟩:Ad)) (fun (a10_0,a10_1)=>(if a10_0=true then (Option.bind (R.As a10_1) (fun (a11_0,a11_1)=>(Option.bind (Ca K 51 a11_0) (fun a12=>(if (x21802.length+([(⟨a12.Op,a12.Name,a12.Int,a12.Text,a12.Kids⟩:Aa)]:List Aa).length) * 72≤140737488355328 then some (a11_1.l,a11_1.at_,a11_1.bad,(x21802++([(⟨a12.Op,a12.Name,a12.Int,a12.Text,a12.Kids⟩:Aa)]:List Aa))) else none))))) else some (a10_1.l,a10_1.at_,a10_1.bad,x21802))))):Option ((List Al)×Int×Bool×(List Aa))) (fun (xh0_0_34,xh0_1_34,xh0_2_34,x26802)=>(if (x26802.length:Int)=0 then (Option.bind (Ar K ([125]:List UInt8) (⟨xh0_0_34,xh0_1_34,true⟩:Ad)) (fun a13=>some ((⟨49,[],0,[],x26802⟩:Aa),a13))) else (Option.bind (Ar K ([125]:List UInt8) (⟨xh0_0_34,xh0_1_34,xh0_2_34⟩:Ad)) (fun a14=>some ((⟨49,[],0,[],x26802⟩:Aa),a14))))))))))
theorem Bz.body {Γ:Rm} {K:Nat} {R:A6} (hR:R.Ok) {p0:Ad} {r:Aa×Ad} (h:Bz.F K R p0=some r):Ri V P 62 100 Γ (Tryz.f143.body.getD .skip) (Q7 P V Tryz.f143 (.agg [.I r.1.Op,.str r.1.Name,.I r.1.Int,.str r.1.Text,.ro .Ae r.1.Kids]) [(0,.raw [.ro .Ak r.2.l,.I r.2.at_,.B r.2.bad])]) ⟨Q6 0 [.P 0],[(0,.raw (Ac p0))]⟩:=by
 unfold Bz.F at h
 refine Q4 L 200 <| Q4 L 202 <| Qv ?_
 obtain ⟨a1,h1,h⟩:=bind_some h
 refine rg L 206 [] [] [(1,(Rc (.tup []) [(0,.raw (Ac a1))]))] (Q3 (Ar.okE h1)) ?_
 refine Qv <| Q2 <| Qy (Qu.trans (Qu.kk [0,2,3] [0,200,203]) (Qu.trans (Qu.nc 203 4 9500 Tag.Ae) (Qu.trans (Qu.kk [0,2,3] [0,200,203,9500]) (Qu.rr [(0,0),(200,21900),(203,21901),(9500,21902)])))) ?_
 refine kp (S':=⟨[(0,.P 0),(2,.P 21900),(3,.P 21901)],[(0,.raw (Ac a1)),(21900,.raw [.I 0,.str [],.I 0,.str [],.N]),(21901,.raw [.I 49,.str [],.I 0,.str [],.own .Ae 21902]),(21902,.lst .Ae ([]:List Aa))]⟩) ?_
 obtain ⟨o3,hp3,h⟩:=bind_some h
 refine Ra (Q':=fun e S=>(e=.exit 0∧∃ xh0_0_9:List Al,∃ xh0_1_9:Int,∃ xh0_2_9:Bool,∃ x21802:List Aa,S=⟨[(0,.P 0),(2,.P 21800),(3,.P 21801)],[(0,.raw [.ro .Ak xh0_0_9,.I xh0_1_9,.B xh0_2_9]),(21800,.raw [.I 0,.str [],.I 0,.str [],.N]),(21801,.raw [.I 49,.str [],.I 0,.str [],.own .Ae 21802]),(21802,.lst .Ae x21802)]⟩∧(xh0_0_9,xh0_1_9,xh0_2_9,x21802)=o3)) (Rh (fun k S=>∃ xh0_0_9h:List Al,∃ xh0_1_9h:Int,∃ xh0_2_9h:Bool,∃ x21902:List Aa,S=⟨[(0,.P 0),(2,.P 21900),(3,.P 21901)],[(0,.raw [.ro .Ak xh0_0_9h,.I xh0_1_9h,.B xh0_2_9h]),(21900,.raw [.I 0,.str [],.I 0,.str [],.N]),(21901,.raw [.I 49,.str [],.I 0,.str [],.own .Ae 21902]),(21902,.lst .Ae x21902)]⟩∧Bz.l9 K R k xh0_0_9h xh0_1_9h xh0_2_9h x21902=some o3) ?_ ⟨_,_,_,_,rfl,hp3⟩) ?_
 ·clear h hp3
  intro k S hS
  obtain ⟨xh0_0_9h,xh0_1_9h,xh0_2_9h,x21902,rfl,h⟩:=hS
  cases k with
  | zero=>cases h
  | succ k =>
  unfold Bz.l9 at h
  refine Qv <| Qv ?_
  rcases Qw h with ⟨c1,h⟩ |⟨c1,h⟩
  ·obtain ⟨⟨a2_0,a2_1⟩,h2,h⟩:=bind_some h
   dsimp only at h
   refine rg L 209 [(4,true)] [] [(6,(Rc (.B a2_0) [(0,.raw (Ac a2_1))]))] (Sj (decide_eq_true c1) (Ah.okE h2)) ?_
   rcases Qw h with ⟨c2,h⟩ |⟨c2,h⟩
   ·refine tt c2 <| Q0 <| Q2 <| Q4 L 218 ?_
    obtain ⟨o2,hp2,h⟩:=bind_some h
    refine Qv (Rk (Q':=fun e S=>(e=.normal∧∃ xt4_19:List UInt8,∃ xh0_0_19:List Al,∃ xh0_1_19:Int,∃ xh0_2_19:Bool,S=⟨[(0,.P 0),(2,.P 23800),(3,.P 23801),(4,.cv (.str xt4_19))],[(0,.raw [.ro .Ak xh0_0_19,.I xh0_1_19,.B xh0_2_19]),(23800,.raw [.I 0,.str [],.I 0,.str [],.N]),(23801,.raw [.I 49,.str [],.I 0,.str [],.own .Ae 23802]),(23802,.lst .Ae x21902)]⟩∧(xt4_19,xh0_0_19,xh0_1_19,xh0_2_19)=o2)) ?_ ?_)
    ·clear h
     replace h:=hp2
     obtain ⟨o1,hp1,h⟩:=bind_some h
     refine Qv (Rk (Q':=fun e S=>(e=.normal∧∃ xt23_20:Bool,S=⟨[(0,.P 0),(2,.P 24000),(3,.P 24001),(4,.cv (.str ([]:List UInt8))),(23,.B xt23_20)],[(0,.raw (Ac a2_1)),(24000,.raw [.I 0,.str [],.I 0,.str [],.N]),(24001,.raw [.I 49,.str [],.I 0,.str [],.own .Ae 24002]),(24002,.lst .Ae x21902)]⟩∧xt23_20=o1)) ?_ ?_)
     ·clear h
      replace h:=hp1
      obtain ⟨a3,h3,h⟩:=bind_some h
      rcases Qw h with ⟨c3,h⟩ |⟨c3,h⟩
      ·obtain ⟨a4,h4,h⟩:=bind_some h
       refine Q8 (rg L 220 [(2,true)] [(1,.B a3),(4,.B a4)] [] (Qz (A7.ok h3) (Qz trivial (Qz c3 (Qz (D6.ok h4) (Q3 trivial))))) ⟨rfl,rfl⟩) (Qu.trans (Qu.kk [0,2,3,4,23] [0,21900,21901,21902]) (Qu.trans (Qu.rr [(0,0),(21900,24000),(21901,24001),(21902,24002)]) (Qu.kp (S':=⟨[(0,.P 0),(2,.P 24000),(3,.P 24001),(4,.cv (.str ([]:List UInt8))),(23,.B a4)],[(0,.raw (Ac a2_1)),(24000,.raw [.I 0,.str [],.I 0,.str [],.N]),(24001,.raw [.I 49,.str [],.I 0,.str [],.own .Ae 24002]),(24002,.lst .Ae x21902)]⟩)))) ?_
       cases h
       exact ⟨rfl,_,rfl,rfl⟩
      refine Q8 (rg L 220 [(2,false)] [(1,.B a3)] [] (Qz (A7.ok h3) (Qz trivial (Q3 (eq_false_of_ne_true c3)))) ⟨rfl,rfl⟩) (Qu.trans (Qu.kk [0,2,3,4,23] [0,21900,21901,21902]) (Qu.trans (Qu.rr [(0,0),(21900,24000),(21901,24001),(21902,24002)]) (Qu.kp (S':=⟨[(0,.P 0),(2,.P 24000),(3,.P 24001),(4,.cv (.str ([]:List UInt8))),(23,.B false)],[(0,.raw (Ac a2_1)),(24000,.raw [.I 0,.str [],.I 0,.str [],.N]),(24001,.raw [.I 49,.str [],.I 0,.str [],.own .Ae 24002]),(24002,.lst .Ae x21902)]⟩)))) ?_
      cases h
      exact ⟨rfl,_,rfl,rfl⟩
     ·rintro e S ⟨rfl,xt23_20,rfl,rfl⟩
      rcases Qw h with ⟨c4,h⟩ |⟨c4,h⟩
      ·refine tt c4 <| Qv ?_
       obtain ⟨⟨a5_0,a5_1⟩,h5,h⟩:=bind_some h
       dsimp only at h
       refine rg L 227 [] [] [(1,(Rc (.cv (.str a5_0)) [(0,.raw (Ac a5_1))]))] (Q3 (Bd.okE h5)) ?_
       obtain ⟨a6,h6,h⟩:=bind_some h
       refine Q8 (rg L 231 [] [] [(1,(Rc (.tup []) [(0,.raw (Ac a6))]))] (Q3 (Ar.okE h6)) ⟨rfl,rfl⟩) (Qu.trans (Qu.kk [0,2,3,4] [0,24000,24001,24002]) (Qu.trans (Qu.rr [(0,0),(24000,23800),(24001,23801),(24002,23802)]) (Qu.kp (S':=⟨[(0,.P 0),(2,.P 23800),(3,.P 23801),(4,.cv (.str a5_0))],[(0,.raw (Ac a6)),(23800,.raw [.I 0,.str [],.I 0,.str [],.N]),(23801,.raw [.I 49,.str [],.I 0,.str [],.own .Ae 23802]),(23802,.lst .Ae x21902)]⟩)))) ?_
       cases h
       exact ⟨rfl,_,_,_,_,rfl,rfl⟩
      refine fN c4 <| Qy (Qu.trans (Qu.kk [0,2,3,4] [0,24000,24001,24002]) (Qu.rr [(0,0),(24000,23800),(24001,23801),(24002,23802)])) ?_
      refine sk (S':=⟨[(0,.P 0),(2,.P 23800),(3,.P 23801),(4,.cv (.str ([]:List UInt8)))],[(0,.raw (Ac a2_1)),(23800,.raw [.I 0,.str [],.I 0,.str [],.N]),(23801,.raw [.I 49,.str [],.I 0,.str [],.own .Ae 23802]),(23802,.lst .Ae x21902)]⟩) ?_
      cases h
      exact ⟨rfl,_,_,_,_,rfl,rfl⟩
    ·rintro e S ⟨rfl,xt4_19,xh0_0_19,xh0_1_19,xh0_2_19,rfl,rfl⟩
     dsimp only at h
     refine Qv ?_
     obtain ⟨⟨a7_0,a7_1⟩,h7,h⟩:=bind_some h
     dsimp only at h
     refine rg L 234 [] [] [(1,(Rc (.agg (Aj a7_0)) [(0,.raw (Ac a7_1))]))] (Q3 (Am.okE h7)) ?_
     refine Qv ?_
     obtain ⟨⟨a8_0,a8_1⟩,h8,h⟩:=bind_some h
     dsimp only at h
     obtain ⟨a9,h9,h⟩:=bind_some h
     refine hB L mixed 239 [] [(3,.agg (Aj a9))] [(2,(Rc (.agg (Aj a8_0)) [(0,.raw (Ac a8_1))]))] [1] 8 (Qz (hR.As h8) (Qz (A3.ok h9) (Qz trivial (Qz (A3.ok h9) (Qz trivial (Qz (hR.As h8) (Qz (A3.ok h9) (Qz trivial (Qz (hR.As h8) (Qz (A3.ok h9) (Qz trivial (Qz (A3.ok h9) (Qz trivial (Qz (A3.ok h9) (Qz trivial (Qz (hR.As h8) (Qz (A3.ok h9) (Qz trivial (Qz (hR.As h8) (Qz (A3.ok h9) (Q3 trivial))))))))))))))))))))) (S':=⟨[(0,.P 0),(2,.P 23800),(3,.P 23801),(4,.cv (.str xt4_19)),(6,.P 243)],[(0,.raw (Ac a8_1)),(243,.raw (Aj a9)),(23800,.raw [.I 0,.str [],.I 0,.str [],.N]),(23801,.raw [.I 49,.str [],.I 0,.str [],.own .Ae 23802]),(23802,.lst .Ae x21902)]⟩) ?_
     refine Q4 L 246 ?_
     obtain ⟨g1,h⟩:=Q1 h
     refine Q8 (rg L 250 [] [] [] (R6 g1) ⟨rfl,rfl⟩) (Qu.trans (Qu.kk [0,2,3] [0,23800,23801,23802]) (Qu.trans (Qu.rr [(0,0),(23800,21900),(23801,21901),(23802,21902)]) (Qu.kp (S':=⟨[(0,.P 0),(2,.P 21900),(3,.P 21901)],[(0,.raw (Ac a8_1)),(21900,.raw [.I 0,.str [],.I 0,.str [],.N]),(21901,.raw [.I 49,.str [],.I 0,.str [],.own .Ae 21902]),(21902,.lst .Ae (x21902++([(⟨a9.Op,xt4_19,a9.Int,a9.Text,a9.Kids⟩:Aa)]:List Aa)))]⟩)))) ?_
     exact ⟨k,Nat.lt_succ_self k,_,_,_,_,rfl,h⟩
   refine fN c2 <| Qy (Qu.trans (Qu.kk [0,2,3] [0,21900,21901,21902]) (Qu.rr [(0,0),(21900,21800),(21901,21801),(21902,21802)])) ?_
   refine ex (S':=⟨[(0,.P 0),(2,.P 21800),(3,.P 21801)],[(0,.raw (Ac a2_1)),(21800,.raw [.I 0,.str [],.I 0,.str [],.N]),(21801,.raw [.I 49,.str [],.I 0,.str [],.own .Ae 21802]),(21802,.lst .Ae x21902)]⟩) ?_
   cases h
   exact ⟨rfl,_,_,_,_,rfl,rfl⟩
  refine rg L 209 [(4,false)] [] [] (Q3 (decide_eq_false c1)) ?_
  refine ff (b:=false) (rfl) ?_
  refine Qy (Qu.trans (Qu.kk [0,2,3] [0,21900,21901,21902]) (Qu.rr [(0,0),(21900,21800),(21901,21801),(21902,21802)])) ?_
  refine ex (S':=⟨[(0,.P 0),(2,.P 21800),(3,.P 21801)],[(0,.raw [.ro .Ak xh0_0_9h,.I xh0_1_9h,.B xh0_2_9h]),(21800,.raw [.I 0,.str [],.I 0,.str [],.N]),(21801,.raw [.I 49,.str [],.I 0,.str [],.own .Ae 21802]),(21802,.lst .Ae x21902)]⟩) ?_
  cases h
  exact ⟨rfl,_,_,_,_,rfl,rfl⟩
 ·rintro e S ⟨rfl,xh0_0_9,xh0_1_9,xh0_2_9,x21802,rfl,rfl⟩
  dsimp only at h
  refine ⟨_,Qu.refl,?_⟩
  obtain ⟨o4,hp4,h⟩:=bind_some h
  refine Qv (Rk (Q':=fun e S=>(e=.normal∧∃ xh0_0_34:List Al,∃ xh0_1_34:Int,∃ xh0_2_34:Bool,∃ x26802:List Aa,S=⟨[(0,.P 0),(2,.P 26800),(3,.P 26801)],[(0,.raw [.ro .Ak xh0_0_34,.I xh0_1_34,.B xh0_2_34]),(26800,.raw [.I 0,.str [],.I 0,.str [],.N]),(26801,.raw [.I 49,.str [],.I 0,.str [],.own .Ae 26802]),(26802,.lst .Ae x26802)]⟩∧(xh0_0_34,xh0_1_34,xh0_2_34,x26802)=o4)) ?_ ?_)
  ·clear h
   replace h:=hp4
   refine Qv ?_
   obtain ⟨⟨a10_0,a10_1⟩,h10,h⟩:=bind_some h
   dsimp only at h
   refine rg L 258 [] [] [(1,(Rc (.B a10_0) [(0,.raw (Ac a10_1))]))] (Q3 (Ah.okE h10)) ?_
   rcases Qw h with ⟨c5,h⟩ |⟨c5,h⟩
   ·refine tt c5 ?_
    obtain ⟨⟨a11_0,a11_1⟩,h11,h⟩:=bind_some h
    dsimp only at h
    obtain ⟨a12,h12,h⟩:=bind_some h
    obtain ⟨g2,h⟩:=Q1 h
    refine Q8 (hB L mixed 261 [] [(4,.agg (Aj a12))] [(3,(Rc (.agg (Aj a11_0)) [(0,.raw (Ac a11_1))]))] [0,2] 4 (Qz (hR.As h11) (Qz (Ca.ok h12) (Qz trivial (Qz g2 (Qz trivial (Qz (hR.As h11) (Qz (Ca.ok h12) (Qz trivial (Qz g2 (Qz trivial (Qz (Ca.ok h12) (Qz trivial (Qz g2 (Qz trivial (Qz g2 (Q3 trivial)))))))))))))))) (S':=⟨[(0,.P 0),(2,.P 21800),(3,.P 21801)],[(0,.raw (Ac a11_1)),(21800,.raw [.I 0,.str [],.I 0,.str [],.N]),(21801,.raw [.I 49,.str [],.I 0,.str [],.own .Ae 21802]),(21802,.lst .Ae (x21802++([(⟨a12.Op,a12.Name,a12.Int,a12.Text,a12.Kids⟩:Aa)]:List Aa)))]⟩) ⟨rfl,rfl⟩) (Qu.trans (Qu.kk [0,2,3] [0,21800,21801,21802]) (Qu.trans (Qu.rr [(0,0),(21800,26800),(21801,26801),(21802,26802)]) (Qu.kp (S':=⟨[(0,.P 0),(2,.P 26800),(3,.P 26801)],[(0,.raw (Ac a11_1)),(26800,.raw [.I 0,.str [],.I 0,.str [],.N]),(26801,.raw [.I 49,.str [],.I 0,.str [],.own .Ae 26802]),(26802,.lst .Ae (x21802++([(⟨a12.Op,a12.Name,a12.Int,a12.Text,a12.Kids⟩:Aa)]:List Aa)))]⟩)))) ?_
    cases h
    exact ⟨rfl,_,_,_,_,rfl,rfl⟩
   refine fN c5 <| Qy (Qu.trans (Qu.kk [0,2,3] [0,21800,21801,21802]) (Qu.rr [(0,0),(21800,26800),(21801,26801),(21802,26802)])) ?_
   refine sk (S':=⟨[(0,.P 0),(2,.P 26800),(3,.P 26801)],[(0,.raw (Ac a10_1)),(26800,.raw [.I 0,.str [],.I 0,.str [],.N]),(26801,.raw [.I 49,.str [],.I 0,.str [],.own .Ae 26802]),(26802,.lst .Ae x21802)]⟩) ?_
   cases h
   exact ⟨rfl,_,_,_,_,rfl,rfl⟩
  ·rintro e S ⟨rfl,xh0_0_34,xh0_1_34,xh0_2_34,x26802,rfl,rfl⟩
   dsimp only at h
   refine Qv <| Q4 L 271 ?_
   rcases Qw h with ⟨c6,h⟩ |⟨c6,h⟩
   ·refine tT c6 <| Ul L 276 ?_
    refine Qv ?_
    obtain ⟨a13,h13,h⟩:=bind_some h
    refine rg L 281 [] [] [(1,(Rc (.tup []) [(0,.raw (Ac a13))]))] (Q3 (Ar.okE h13)) ?_
    refine Q4 L 284 <| Qy (Qu.trans (Qu.kk [2] [0,26800,26802]) (Qu.trans (Qu.fz 26802) (Qu.rr [(0,0),(26800,100)]))) ?_
    refine Qx ?_
    cases h
    exact Rd
   refine fF c6 <| Q0 <| Qv ?_
   obtain ⟨a14,h14,h⟩:=bind_some h
   refine rg L 281 [] [] [(1,(Rc (.tup []) [(0,.raw (Ac a14))]))] (Q3 (Ar.okE h14)) ?_
   refine Q4 L 284 <| Qy (Qu.trans (Qu.kk [2] [0,26800,26802]) (Qu.trans (Qu.fz 26802) (Qu.rr [(0,0),(26800,100)]))) ?_
   refine Qx ?_
   cases h
   exact Rd
def C0.F (K:Nat) (R:A6) (p0:Ad):Option (Aa×Ad):=(Option.bind (((Option.bind (B8 K p0 ([108,101,116]:List UInt8)) (fun a1=>(if a1=true then some true else (Option.bind (A7 K p0 1) (fun a2=>(if a2=true then (Option.bind (D6 K p0 ([61]:List UInt8)) (fun a3=>some a3)) else some false))))))):Option Bool) (fun xt11_5=>(if xt11_5=true then (Option.bind ((Option.bind (Ah K ([108,101,116]:List UInt8) p0) (fun (a4_0,a4_1)=>(if a4_0=true then some (40,a4_1.l,a4_1.at_,a4_1.bad) else some (41,a4_1.l,a4_1.at_,a4_1.bad)))):Option (Int×(List Al)×Int×Bool)) (fun (xt3_10,xh0_0_10,xh0_1_10,xh0_2_10)=>(Option.bind (Bd K (⟨xh0_0_10,xh0_1_10,xh0_2_10⟩:Ad)) (fun (a5_0,a5_1)=>(Option.bind (Ar K ([61]:List UInt8) a5_1) (fun a6=>(Option.bind (Am K a6) (fun (a7_0,a7_1)=>(Option.bind (Ca K xt3_10 a7_0) (fun a8=>(Option.bind (Cb K (⟨a8.Op,a5_0,a8.Int,a8.Text,a8.Kids⟩:Aa) a7_1) (fun (a9_0,a9_1)=>some (a9_0,a9_1))))))))))))) else (Option.bind (B8 K p0 ([105,102]:List UInt8)) (fun a10=>(if a10=true then (Option.bind (R.Cl p0) (fun (a11_0,a11_1)=>some (a11_0,a11_1))) else (Option.bind (Ah K ([119,104,105,108,101]:List UInt8) p0) (fun (a12_0,a12_1)=>(if a12_0=true then (Option.bind (Am K a12_1) (fun (a13_0,a13_1)=>(Option.bind (R.As a13_1) (fun (a14_0,a14_1)=>(Option.bind (A3 K 43 a13_0 a14_0) (fun a15=>some (a15,a14_1))))))) else (Option.bind (Ah K ([114,101,116,117,114,110]:List UInt8) a12_1) (fun (a16_0,a16_1)=>(if a16_0=true then (Option.bind (Ah K ([59]:List UInt8) a16_1) (fun (a17_0,a17_1)=>(if a17_0=true then some ((⟨44,[],0,[],([]:List Aa)⟩:Aa),a17_1) else (Option.bind (Am K a17_1) (fun (a18_0,a18_1)=>(Option.bind (Ca K 44 a18_0) (fun a19=>(Option.bind (Cb K a19 a18_1) (fun (a20_0,a20_1)=>some (a20_0,a20_1)))))))))) else (Option.bind (Ah K ([116,104,114,111,119]:List UInt8) a16_1) (fun (a21_0,a21_1)=>(if a21_0=true then (Option.bind (Am K a21_1) (fun (a22_0,a22_1)=>(Option.bind (Ca K 45 a22_0) (fun a23=>(Option.bind (Cb K a23 a22_1) (fun (a24_0,a24_1)=>some (a24_0,a24_1))))))) else (Option.bind (Ah K ([116,114,121]:List UInt8) a21_1) (fun (a25_0,a25_1)=>(if a25_0=true then (Option.bind (R.As a25_1) (fun (a26_0,a26_1)=>(Option.bind (Ar K ([99,97,116,99,104]:List UInt8) a26_1) (fun a27=>(Option.bind (Bd K a27) (fun (a28_0,a28_1)=>(Option.bind (R.As a28_1) (fun (a29_0,a29_1)=>(Option.bind (A3 K 46 a26_0 a29_0) (fun a30=>some ((⟨a30.Op,a28_0,a30.Int,a30.Text,a30.Kids⟩:Aa),a29_1))))))))))) else (Option.bind (Ah K ([115,97,103,97]:List UInt8) a25_1) (fun (a31_0,a31_1)=>(if a31_0=true then (Option.bind (R.As a31_1) (fun (a32_0,a32_1)=>(Option.bind (Ca K 47 a32_0) (fun a33=>some (a33,a32_1))))) else (Option.bind (Ah K ([117,110,100,111]:List UInt8) a31_1) (fun (a34_0,a34_1)=>(if a34_0=true then (Option.bind (Bd K a34_1) (fun (a35_0,a35_1)=>(Option.bind (Ar K ([40]:List UInt8) a35_1) (fun a36=>(Option.bind (A5 K ([41]:List UInt8) a36) (fun (a37_0,a37_1)=>(Option.bind (Cb K (⟨48,a35_0,0,[],a37_0⟩:Aa) a37_1) (fun (a38_0,a38_1)=>some (a38_0,a38_1))))))))) else (Option.bind (Ah K ([115,101,108,101,99,116]:List UInt8) a34_1) (fun (a39_0,a39_1)=>(if a39_0=true then (Option.bind (R.Bz a39_1) (fun (a40_0,a40_1)=>some (a40_0,a40_1))) else (Option.bind (Am K a39_1) (fun (a41_0,a41_1)=>(Option.bind (Ca K 52 a41_0) (fun a42=>(Option.bind (Cb K a42 a41_1) (fun (a43_0,a43_1)=>some (a43_0,a43_1))))))))))))))))))))))))))))))))))
theorem C0.body {Γ:Rm} {K:Nat} {R:A6} (hR:R.Ok) {p0:Ad} {r:Aa×Ad} (h:C0.F K R p0=some r):Ri V P 115 100 Γ (Tryz.f131.body.getD .skip) (Q7 P V Tryz.f131 (.agg [.I r.1.Op,.str r.1.Name,.I r.1.Int,.str r.1.Text,.ro .Ae r.1.Kids]) [(0,.raw [.ro .Ak r.2.l,.I r.2.at_,.B r.2.bad])]) ⟨Q6 0 [.P 0],[(0,.raw (Ac p0))]⟩:=by
 unfold C0.F at h
 refine Q4 L 200 <| Qv <| Q2 ?_
 obtain ⟨o1,hp1,h⟩:=bind_some h
 refine Qv (Rk (Q':=fun e S=>(e=.normal∧∃ xt11_5:Bool,S=⟨[(0,.P 0),(2,.P 21000),(11,.B xt11_5)],[(0,.raw (Ac p0)),(21000,.raw [.I 0,.str [],.I 0,.str [],.N])]⟩∧xt11_5=o1)) ?_ ?_)
 ·clear h
  replace h:=hp1
  obtain ⟨a1,h1,h⟩:=bind_some h
  rcases Qw h with ⟨c1,h⟩ |⟨c1,h⟩
  ·refine Q8 (rg L 202 [(2,true)] [(1,.B a1)] [] (Qz (B8.ok h1) (Qz trivial (Q3 c1))) ⟨rfl,rfl⟩) (Qu.trans (Qu.kk [0,2,11] [0,200]) (Qu.trans (Qu.rr [(0,0),(200,21000)]) (Qu.kp (S':=⟨[(0,.P 0),(2,.P 21000),(11,.B true)],[(0,.raw (Ac p0)),(21000,.raw [.I 0,.str [],.I 0,.str [],.N])]⟩)))) ?_
   cases h
   exact ⟨rfl,_,rfl,rfl⟩
  obtain ⟨a2,h2,h⟩:=bind_some h
  rcases Qw h with ⟨c2,h⟩ |⟨c2,h⟩
  ·obtain ⟨a3,h3,h⟩:=bind_some h
   refine Q8 (rg L 202 [(2,false),(5,true)] [(1,.B a1),(4,.B a2),(7,.B a3)] [] (Qz (B8.ok h1) (Qz trivial (Qz (eq_false_of_ne_true c1) (Qz (A7.ok h2) (Qz trivial (Qz c2 (Qz (D6.ok h3) (Q3 trivial)))))))) ⟨rfl,rfl⟩) (Qu.trans (Qu.kk [0,2,11] [0,200]) (Qu.trans (Qu.rr [(0,0),(200,21000)]) (Qu.kp (S':=⟨[(0,.P 0),(2,.P 21000),(11,.B a3)],[(0,.raw (Ac p0)),(21000,.raw [.I 0,.str [],.I 0,.str [],.N])]⟩)))) ?_
   cases h
   exact ⟨rfl,_,rfl,rfl⟩
  refine Q8 (rg L 202 [(2,false),(5,false)] [(1,.B a1),(4,.B a2)] [] (Qz (B8.ok h1) (Qz trivial (Qz (eq_false_of_ne_true c1) (Qz (A7.ok h2) (Qz trivial (Q3 (eq_false_of_ne_true c2))))))) ⟨rfl,rfl⟩) (Qu.trans (Qu.kk [0,2,11] [0,200]) (Qu.trans (Qu.rr [(0,0),(200,21000)]) (Qu.kp (S':=⟨[(0,.P 0),(2,.P 21000),(11,.B false)],[(0,.raw (Ac p0)),(21000,.raw [.I 0,.str [],.I 0,.str [],.N])]⟩)))) ?_
  cases h
  exact ⟨rfl,_,rfl,rfl⟩
 ·rintro e S ⟨rfl,xt11_5,rfl,rfl⟩
  rcases Qw h with ⟨c3,h⟩ |⟨c3,h⟩
  ·refine tt c3 <| Q4 L 214 ?_
   obtain ⟨o2,hp2,h⟩:=bind_some h
   refine Qv (Rk (Q':=fun e S=>(e=.normal∧∃ xt3_10:Int,∃ xh0_0_10:List Al,∃ xh0_1_10:Int,∃ xh0_2_10:Bool,S=⟨[(0,.P 0),(2,.P 22000),(3,.I xt3_10)],[(0,.raw [.ro .Ak xh0_0_10,.I xh0_1_10,.B xh0_2_10]),(22000,.raw [.I 0,.str [],.I 0,.str [],.N])]⟩∧(xt3_10,xh0_0_10,xh0_1_10,xh0_2_10)=o2)) ?_ ?_)
   ·clear h
    replace h:=hp2
    refine Qv ?_
    obtain ⟨⟨a4_0,a4_1⟩,h4,h⟩:=bind_some h
    dsimp only at h
    refine rg L 216 [] [] [(1,(Rc (.B a4_0) [(0,.raw (Ac a4_1))]))] (Q3 (Ah.okE h4)) ?_
    rcases Qw h with ⟨c4,h⟩ |⟨c4,h⟩
    ·refine tt c4 <| Q8 (Ul L 219 ⟨rfl,rfl⟩) (Qu.trans (Qu.kk [0,2,3] [0,21000]) (Qu.trans (Qu.rr [(0,0),(21000,22000)]) (Qu.kp (S':=⟨[(0,.P 0),(2,.P 22000),(3,.I 40)],[(0,.raw (Ac a4_1)),(22000,.raw [.I 0,.str [],.I 0,.str [],.N])]⟩)))) ?_
     cases h
     exact ⟨rfl,_,_,_,_,rfl,rfl⟩
    refine fN c4 <| Qy (Qu.trans (Qu.kk [0,2,3] [0,21000]) (Qu.rr [(0,0),(21000,22000)])) ?_
    refine sk (S':=⟨[(0,.P 0),(2,.P 22000),(3,.I 41)],[(0,.raw (Ac a4_1)),(22000,.raw [.I 0,.str [],.I 0,.str [],.N])]⟩) ?_
    cases h
    exact ⟨rfl,_,_,_,_,rfl,rfl⟩
   ·rintro e S ⟨rfl,xt3_10,xh0_0_10,xh0_1_10,xh0_2_10,rfl,rfl⟩
    dsimp only at h
    refine Qv ?_
    obtain ⟨⟨a5_0,a5_1⟩,h5,h⟩:=bind_some h
    dsimp only at h
    refine rg L 221 [] [] [(1,(Rc (.cv (.str a5_0)) [(0,.raw (Ac a5_1))]))] (Q3 (Bd.okE h5)) ?_
    refine Qv ?_
    obtain ⟨a6,h6,h⟩:=bind_some h
    refine rg L 225 [] [] [(1,(Rc (.tup []) [(0,.raw (Ac a6))]))] (Q3 (Ar.okE h6)) ?_
    refine Qv ?_
    obtain ⟨⟨a7_0,a7_1⟩,h7,h⟩:=bind_some h
    dsimp only at h
    obtain ⟨a8,h8,h⟩:=bind_some h
    refine rg L 228 [] [(3,.agg (Aj a8))] [(2,(Rc (.agg (Aj a7_0)) [(0,.raw (Ac a7_1))]))] (Qz (Am.okE h7) (Qz (Ca.ok h8) (Q3 trivial))) ?_
    refine Q4 L 235 <| Qv ?_
    obtain ⟨⟨a9_0,a9_1⟩,h9,h⟩:=bind_some h
    dsimp only at h
    refine rg L 239 [] [] [(2,(Rc (.agg (Aj a9_0)) [(0,.raw (Ac a9_1))]))] (Q3 (Cb.okE h9)) ?_
    refine Qy (Qu.trans (Qu.kk [2] [0,22000]) (Qu.rr [(0,0),(22000,100)])) ?_
    refine Qx ?_
    cases h
    exact Rd
  refine fN c3 <| Qv ?_
  obtain ⟨a10,h10,h⟩:=bind_some h
  refine rg L 244 [] [(1,.B a10)] [] (R6 (B8.ok h10)) ?_
  rcases Qw h with ⟨c5,h⟩ |⟨c5,h⟩
  ·refine tt c5 <| Qv ?_
   obtain ⟨⟨a11_0,a11_1⟩,h11,h⟩:=bind_some h
   dsimp only at h
   refine rg L 248 [] [] [(1,(Rc (.agg (Aj a11_0)) [(0,.raw (Ac a11_1))]))] (Q3 (hR.Cl h11)) ?_
   refine Qy (Qu.trans (Qu.kk [2] [0,21000]) (Qu.rr [(0,0),(21000,100)])) ?_
   refine Qx ?_
   cases h
   exact Rd
  refine fN c5 <| Qv ?_
  obtain ⟨⟨a12_0,a12_1⟩,h12,h⟩:=bind_some h
  dsimp only at h
  refine rg L 252 [] [] [(1,(Rc (.B a12_0) [(0,.raw (Ac a12_1))]))] (Q3 (Ah.okE h12)) ?_
  rcases Qw h with ⟨c6,h⟩ |⟨c6,h⟩
  ·refine tt c6 <| Qv ?_
   obtain ⟨⟨a13_0,a13_1⟩,h13,h⟩:=bind_some h
   dsimp only at h
   refine rg L 256 [] [] [(1,(Rc (.agg (Aj a13_0)) [(0,.raw (Ac a13_1))]))] (Q3 (Am.okE h13)) ?_
   refine Qv ?_
   obtain ⟨⟨a14_0,a14_1⟩,h14,h⟩:=bind_some h
   dsimp only at h
   obtain ⟨a15,h15,h⟩:=bind_some h
   refine hB L mixed 261 [] [(3,.agg (Aj a15))] [(2,(Rc (.agg (Aj a14_0)) [(0,.raw (Ac a14_1))]))] [1] 2 (Qz (hR.As h14) (Qz (A3.ok h15) (Qz trivial (Qz (hR.As h14) (Qz (A3.ok h15) (Q3 trivial)))))) (S':=⟨[(2,.P 21000)],[(0,.raw (Ac a14_1)),(21000,.raw (Aj a15))]⟩) ?_
   refine Qy (Qu.trans (Qu.kk [2] [0,21000]) (Qu.rr [(0,0),(21000,100)])) ?_
   refine Qx ?_
   cases h
   exact Rd
  refine fN c6 <| Qv ?_
  obtain ⟨⟨a16_0,a16_1⟩,h16,h⟩:=bind_some h
  dsimp only at h
  refine rg L 267 [] [] [(1,(Rc (.B a16_0) [(0,.raw (Ac a16_1))]))] (Q3 (Ah.okE h16)) ?_
  rcases Qw h with ⟨c7,h⟩ |⟨c7,h⟩
  ·refine tt c7 <| Qv <| Qv ?_
   obtain ⟨⟨a17_0,a17_1⟩,h17,h⟩:=bind_some h
   dsimp only at h
   refine rg L 271 [] [] [(1,(Rc (.B a17_0) [(0,.raw (Ac a17_1))]))] (Q3 (Ah.okE h17)) ?_
   rcases Qw h with ⟨c8,h⟩ |⟨c8,h⟩
   ·refine tt c8 <| Q4 L 274 <| Qy (Qu.trans (Qu.kk [2] [0,21000]) (Qu.rr [(0,0),(21000,100)])) ?_
    refine Qx ?_
    cases h
    exact Rd
   refine fN c8 <| Q0 <| Qv ?_
   obtain ⟨⟨a18_0,a18_1⟩,h18,h⟩:=bind_some h
   dsimp only at h
   obtain ⟨a19,h19,h⟩:=bind_some h
   obtain ⟨⟨a20_0,a20_1⟩,h20,h⟩:=bind_some h
   dsimp only at h
   refine rg L 277 [] [(3,.agg (Aj a19))] [(2,(Rc (.agg (Aj a18_0)) [(0,.raw (Ac a18_1))])),(4,(Rc (.agg (Aj a20_0)) [(0,.raw (Ac a20_1))]))] (Qz (Am.okE h18) (Qz (Ca.ok h19) (Qz trivial (Q3 (Cb.okE h20))))) ?_
   refine Qy (Qu.trans (Qu.kk [2] [0,21000]) (Qu.rr [(0,0),(21000,100)])) ?_
   refine Qx ?_
   cases h
   exact Rd
  refine fN c7 <| Qv ?_
  obtain ⟨⟨a21_0,a21_1⟩,h21,h⟩:=bind_some h
  dsimp only at h
  refine rg L 284 [] [] [(1,(Rc (.B a21_0) [(0,.raw (Ac a21_1))]))] (Q3 (Ah.okE h21)) ?_
  rcases Qw h with ⟨c9,h⟩ |⟨c9,h⟩
  ·refine tt c9 <| Qv ?_
   obtain ⟨⟨a22_0,a22_1⟩,h22,h⟩:=bind_some h
   dsimp only at h
   obtain ⟨a23,h23,h⟩:=bind_some h
   obtain ⟨⟨a24_0,a24_1⟩,h24,h⟩:=bind_some h
   dsimp only at h
   refine rg L 288 [] [(3,.agg (Aj a23))] [(2,(Rc (.agg (Aj a22_0)) [(0,.raw (Ac a22_1))])),(4,(Rc (.agg (Aj a24_0)) [(0,.raw (Ac a24_1))]))] (Qz (Am.okE h22) (Qz (Ca.ok h23) (Qz trivial (Q3 (Cb.okE h24))))) ?_
   refine Qy (Qu.trans (Qu.kk [2] [0,21000]) (Qu.rr [(0,0),(21000,100)])) ?_
   refine Qx ?_
   cases h
   exact Rd
  refine fN c9 <| Qv ?_
  obtain ⟨⟨a25_0,a25_1⟩,h25,h⟩:=bind_some h
  dsimp only at h
  refine rg L 295 [] [] [(1,(Rc (.B a25_0) [(0,.raw (Ac a25_1))]))] (Q3 (Ah.okE h25)) ?_
  rcases Qw h with ⟨c10,h⟩ |⟨c10,h⟩
  ·refine tt c10 <| Qv ?_
   obtain ⟨⟨a26_0,a26_1⟩,h26,h⟩:=bind_some h
   dsimp only at h
   refine rg L 299 [] [] [(1,(Rc (.agg (Aj a26_0)) [(0,.raw (Ac a26_1))]))] (Q3 (hR.As h26)) ?_
   refine Qv ?_
   obtain ⟨a27,h27,h⟩:=bind_some h
   refine rg L 304 [] [] [(1,(Rc (.tup []) [(0,.raw (Ac a27))]))] (Q3 (Ar.okE h27)) ?_
   refine Qv ?_
   obtain ⟨⟨a28_0,a28_1⟩,h28,h⟩:=bind_some h
   dsimp only at h
   refine rg L 307 [] [] [(1,(Rc (.cv (.str a28_0)) [(0,.raw (Ac a28_1))]))] (Q3 (Bd.okE h28)) ?_
   refine Qv ?_
   obtain ⟨⟨a29_0,a29_1⟩,h29,h⟩:=bind_some h
   dsimp only at h
   obtain ⟨a30,h30,h⟩:=bind_some h
   refine hB L mixed 311 [] [(3,.agg (Aj a30))] [(2,(Rc (.agg (Aj a29_0)) [(0,.raw (Ac a29_1))]))] [1] 8 (Qz (hR.As h29) (Qz (A3.ok h30) (Qz trivial (Qz (A3.ok h30) (Qz trivial (Qz (hR.As h29) (Qz (A3.ok h30) (Qz trivial (Qz (hR.As h29) (Qz (A3.ok h30) (Qz trivial (Qz (A3.ok h30) (Qz trivial (Qz (A3.ok h30) (Qz trivial (Qz (hR.As h29) (Qz (A3.ok h30) (Qz trivial (Qz (hR.As h29) (Qz (A3.ok h30) (Q3 trivial))))))))))))))))))))) (S':=⟨[(2,.P 21000),(8,.cv (.str a28_0)),(9,.P 315)],[(0,.raw (Ac a29_1)),(315,.raw (Aj a30)),(21000,.raw [.I 0,.str [],.I 0,.str [],.N])]⟩) ?_
   refine Q4 L 318 <| Q4 L 322 <| Qy (Qu.trans (Qu.kk [2] [0,21000]) (Qu.rr [(0,0),(21000,100)])) ?_
   refine Qx ?_
   cases h
   exact Rd
  refine fN c10 <| Qv ?_
  obtain ⟨⟨a31_0,a31_1⟩,h31,h⟩:=bind_some h
  dsimp only at h
  refine rg L 325 [] [] [(1,(Rc (.B a31_0) [(0,.raw (Ac a31_1))]))] (Q3 (Ah.okE h31)) ?_
  rcases Qw h with ⟨c11,h⟩ |⟨c11,h⟩
  ·refine tt c11 <| Qv ?_
   obtain ⟨⟨a32_0,a32_1⟩,h32,h⟩:=bind_some h
   dsimp only at h
   obtain ⟨a33,h33,h⟩:=bind_some h
   refine rg L 329 [] [(2,.agg (Aj a33))] [(1,(Rc (.agg (Aj a32_0)) [(0,.raw (Ac a32_1))]))] (Qz (hR.As h32) (Qz (Ca.ok h33) (Q3 trivial))) ?_
   refine Qy (Qu.trans (Qu.kk [2] [0,21000]) (Qu.rr [(0,0),(21000,100)])) ?_
   refine Qx ?_
   cases h
   exact Rd
  refine fN c11 <| Qv ?_
  obtain ⟨⟨a34_0,a34_1⟩,h34,h⟩:=bind_some h
  dsimp only at h
  refine rg L 334 [] [] [(1,(Rc (.B a34_0) [(0,.raw (Ac a34_1))]))] (Q3 (Ah.okE h34)) ?_
  rcases Qw h with ⟨c12,h⟩ |⟨c12,h⟩
  ·refine tt c12 <| Qv ?_
   obtain ⟨⟨a35_0,a35_1⟩,h35,h⟩:=bind_some h
   dsimp only at h
   refine rg L 338 [] [] [(1,(Rc (.cv (.str a35_0)) [(0,.raw (Ac a35_1))]))] (Q3 (Bd.okE h35)) ?_
   refine Qv ?_
   obtain ⟨a36,h36,h⟩:=bind_some h
   refine rg L 342 [] [] [(1,(Rc (.tup []) [(0,.raw (Ac a36))]))] (Q3 (Ar.okE h36)) ?_
   refine Qv ?_
   obtain ⟨⟨a37_0,a37_1⟩,h37,h⟩:=bind_some h
   dsimp only at h
   obtain ⟨⟨a38_0,a38_1⟩,h38,h⟩:=bind_some h
   dsimp only at h
   refine rg L 345 [] [] [(3,(Rc (.cv (.ro .Ae a37_0)) [(0,.raw (Ac a37_1))])),(5,(Rc (.agg (Aj a38_0)) [(0,.raw (Ac a38_1))]))] (Sj (A5.okE h37) (Cb.okE h38)) ?_
   refine Qy (Qu.trans (Qu.kk [2] [0,21000]) (Qu.rr [(0,0),(21000,100)])) ?_
   refine Qx ?_
   cases h
   exact Rd
  refine fN c12 <| Qv ?_
  obtain ⟨⟨a39_0,a39_1⟩,h39,h⟩:=bind_some h
  dsimp only at h
  refine rg L 353 [] [] [(1,(Rc (.B a39_0) [(0,.raw (Ac a39_1))]))] (Q3 (Ah.okE h39)) ?_
  rcases Qw h with ⟨c13,h⟩ |⟨c13,h⟩
  ·refine tt c13 <| Qv ?_
   obtain ⟨⟨a40_0,a40_1⟩,h40,h⟩:=bind_some h
   dsimp only at h
   refine rg L 357 [] [] [(1,(Rc (.agg (Aj a40_0)) [(0,.raw (Ac a40_1))]))] (Q3 (hR.Bz h40)) ?_
   refine Qy (Qu.trans (Qu.kk [2] [0,21000]) (Qu.rr [(0,0),(21000,100)])) ?_
   refine Qx ?_
   cases h
   exact Rd
  refine fN c13 <| Q0 <| Qv ?_
  obtain ⟨⟨a41_0,a41_1⟩,h41,h⟩:=bind_some h
  dsimp only at h
  obtain ⟨a42,h42,h⟩:=bind_some h
  obtain ⟨⟨a43_0,a43_1⟩,h43,h⟩:=bind_some h
  dsimp only at h
  refine rg L 361 [] [(3,.agg (Aj a42))] [(2,(Rc (.agg (Aj a41_0)) [(0,.raw (Ac a41_1))])),(4,(Rc (.agg (Aj a43_0)) [(0,.raw (Ac a43_1))]))] (Qz (Am.okE h41) (Qz (Ca.ok h42) (Qz trivial (Q3 (Cb.okE h43))))) ?_
  refine Qy (Qu.trans (Qu.kk [2] [0,21000]) (Qu.rr [(0,0),(21000,100)])) ?_
  refine Qx ?_
  cases h
  exact Rd
def As.l9 (K:Nat) (R:A6):Nat→(List Al)→Int→Bool→(List Aa)→Option ((List Al)×Int×Bool×(List Aa))
 | 0,_,_,_,_=>none
 | k+1,xh0_0_9h,xh0_1_9h,xh0_2_9h,x21902=>(if xh0_2_9h=true then some (xh0_0_9h,xh0_1_9h,xh0_2_9h,x21902) else (Option.bind (Ah K ([125]:List UInt8) (⟨xh0_0_9h,xh0_1_9h,xh0_2_9h⟩:Ad)) (fun (a2_0,a2_1)=>(if a2_0=true then some (a2_1.l,a2_1.at_,a2_1.bad,x21902) else (Option.bind (R.C0 a2_1) (fun (a3_0,a3_1)=>(if (x21902.length+([(⟨a3_0.Op,a3_0.Name,a3_0.Int,a3_0.Text,a3_0.Kids⟩:Aa)]:List Aa).length) * 72≤140737488355328 then As.l9 K R k a3_1.l a3_1.at_ a3_1.bad (x21902++([(⟨a3_0.Op,a3_0.Name,a3_0.Int,a3_0.Text,a3_0.Kids⟩:Aa)]:List Aa)) else none)))))))
def As.F (K:Nat) (R:A6) (p0:Ad):Option (Aa×Ad):=(Option.bind (Ar K ([123]:List UInt8) p0) (fun a1=>(Option.bind (As.l9 K R K a1.l a1.at_ a1.bad ([]:List Aa):Option ((List Al)×Int×Bool×(List Aa))) (fun (xh0_0_9,xh0_1_9,xh0_2_9,x21802)=>some ((⟨53,[],0,[],x21802⟩:Aa),(⟨xh0_0_9,xh0_1_9,xh0_2_9⟩:Ad))))))
theorem As.body {Γ:Rm} {K:Nat} {R:A6} (hR:R.Ok) {p0:Ad} {r:Aa×Ad} (h:As.F K R p0=some r):Ri V P 25 100 Γ (Tryz.f116.body.getD .skip) (Q7 P V Tryz.f116 (.agg [.I r.1.Op,.str r.1.Name,.I r.1.Int,.str r.1.Text,.ro .Ae r.1.Kids]) [(0,.raw [.ro .Ak r.2.l,.I r.2.at_,.B r.2.bad])]) ⟨Q6 0 [.P 0],[(0,.raw (Ac p0))]⟩:=by
 unfold As.F at h
 refine Q4 L 200 <| Q4 L 202 <| Qv ?_
 obtain ⟨a1,h1,h⟩:=bind_some h
 refine rg L 206 [] [] [(1,(Rc (.tup []) [(0,.raw (Ac a1))]))] (Q3 (Ar.okE h1)) ?_
 refine Qv <| Q2 <| Qy (Qu.trans (Qu.kk [0,2,3] [0,200,203]) (Qu.trans (Qu.nc 203 4 9500 Tag.Ae) (Qu.trans (Qu.kk [0,2,3] [0,200,203,9500]) (Qu.rr [(0,0),(200,21900),(203,21901),(9500,21902)])))) ?_
 refine kp (S':=⟨[(0,.P 0),(2,.P 21900),(3,.P 21901)],[(0,.raw (Ac a1)),(21900,.raw [.I 0,.str [],.I 0,.str [],.N]),(21901,.raw [.I 53,.str [],.I 0,.str [],.own .Ae 21902]),(21902,.lst .Ae ([]:List Aa))]⟩) ?_
 obtain ⟨o1,hp1,h⟩:=bind_some h
 refine Ra (Q':=fun e S=>(e=.exit 0∧∃ xh0_0_9:List Al,∃ xh0_1_9:Int,∃ xh0_2_9:Bool,∃ x21802:List Aa,S=⟨[(2,.P 21800),(3,.P 21801)],[(0,.raw [.ro .Ak xh0_0_9,.I xh0_1_9,.B xh0_2_9]),(21800,.raw [.I 0,.str [],.I 0,.str [],.N]),(21801,.raw [.I 53,.str [],.I 0,.str [],.own .Ae 21802]),(21802,.lst .Ae x21802)]⟩∧(xh0_0_9,xh0_1_9,xh0_2_9,x21802)=o1)) (Rh (fun k S=>∃ xh0_0_9h:List Al,∃ xh0_1_9h:Int,∃ xh0_2_9h:Bool,∃ x21902:List Aa,S=⟨[(0,.P 0),(2,.P 21900),(3,.P 21901)],[(0,.raw [.ro .Ak xh0_0_9h,.I xh0_1_9h,.B xh0_2_9h]),(21900,.raw [.I 0,.str [],.I 0,.str [],.N]),(21901,.raw [.I 53,.str [],.I 0,.str [],.own .Ae 21902]),(21902,.lst .Ae x21902)]⟩∧As.l9 K R k xh0_0_9h xh0_1_9h xh0_2_9h x21902=some o1) ?_ ⟨_,_,_,_,rfl,hp1⟩) ?_
 ·clear h hp1
  intro k S hS
  obtain ⟨xh0_0_9h,xh0_1_9h,xh0_2_9h,x21902,rfl,h⟩:=hS
  cases k with
  | zero=>cases h
  | succ k =>
  unfold As.l9 at h
  refine Qv <| Qv ?_
  rcases Qw h with ⟨c1,h⟩ |⟨c1,h⟩
  ·refine rg L 209 [(5,false)] [] [] (Q3 (show (!xh0_2_9h)=false from congrArg Bool.not (c1))) ?_
   refine ff (b:=false) (rfl) ?_
   refine Qy (Qu.trans (Qu.kk [2,3] [0,21900,21901,21902]) (Qu.rr [(0,0),(21900,21800),(21901,21801),(21902,21802)])) ?_
   refine ex (S':=⟨[(2,.P 21800),(3,.P 21801)],[(0,.raw [.ro .Ak xh0_0_9h,.I xh0_1_9h,.B xh0_2_9h]),(21800,.raw [.I 0,.str [],.I 0,.str [],.N]),(21801,.raw [.I 53,.str [],.I 0,.str [],.own .Ae 21802]),(21802,.lst .Ae x21902)]⟩) ?_
   cases h
   exact ⟨rfl,_,_,_,_,rfl,rfl⟩
  obtain ⟨⟨a2_0,a2_1⟩,h2,h⟩:=bind_some h
  dsimp only at h
  refine rg L 209 [(5,true)] [] [(7,(Rc (.B a2_0) [(0,.raw (Ac a2_1))]))] (Sj (show (!xh0_2_9h)=true from congrArg Bool.not (eq_false_of_ne_true c1)) (Ah.okE h2)) ?_
  rcases Qw h with ⟨c2,h⟩ |⟨c2,h⟩
  ·refine ff (b:=(!a2_0)) (congrArg Bool.not (c2)) ?_
   refine Qy (Qu.trans (Qu.kk [2,3] [0,21900,21901,21902]) (Qu.rr [(0,0),(21900,21800),(21901,21801),(21902,21802)])) ?_
   refine ex (S':=⟨[(2,.P 21800),(3,.P 21801)],[(0,.raw (Ac a2_1)),(21800,.raw [.I 0,.str [],.I 0,.str [],.N]),(21801,.raw [.I 53,.str [],.I 0,.str [],.own .Ae 21802]),(21802,.lst .Ae x21902)]⟩) ?_
   cases h
   exact ⟨rfl,_,_,_,_,rfl,rfl⟩
  refine tt (b:=(!a2_0)) (congrArg Bool.not (eq_false_of_ne_true c2)) ?_
  refine Q0 <| Q2 ?_
  obtain ⟨⟨a3_0,a3_1⟩,h3,h⟩:=bind_some h
  dsimp only at h
  obtain ⟨g1,h⟩:=Q1 h
  refine hB L mixed 220 [] [] [(3,(Rc (.agg (Aj a3_0)) [(0,.raw (Ac a3_1))]))] [0,2] 3 (Qz (hR.C0 h3) (Qz g1 (Qz trivial (Qz (hR.C0 h3) (Qz g1 (Qz trivial (Qz g1 (Q3 trivial)))))))) (S':=⟨[(0,.P 0),(2,.P 21900),(3,.P 21901)],[(0,.raw (Ac a3_1)),(21900,.raw [.I 0,.str [],.I 0,.str [],.N]),(21901,.raw [.I 53,.str [],.I 0,.str [],.own .Ae 21902]),(21902,.lst .Ae (x21902++([(⟨a3_0.Op,a3_0.Name,a3_0.Int,a3_0.Text,a3_0.Kids⟩:Aa)]:List Aa)))]⟩) ?_
  exact ⟨k,Nat.lt_succ_self k,_,_,_,_,rfl,h⟩
 ·rintro e S ⟨rfl,xh0_0_9,xh0_1_9,xh0_2_9,x21802,rfl,rfl⟩
  dsimp only at h
  refine ⟨_,Qu.refl,?_⟩
  refine Q4 L 229 <| Qy (Qu.trans (Qu.kk [2] [0,21800,21802]) (Qu.trans (Qu.fz 21802) (Qu.rr [(0,0),(21800,100)]))) ?_
  refine Qx ?_
  cases h
  exact Rd
def A6.upto (K:Nat):Nat→A6
 | 0=>⟨fun _=>none,fun _=>none,fun _=>none,fun _=>none⟩
 | k+1=>⟨Cl.F K (A6.upto K k),Bz.F K (A6.upto K k),C0.F K (A6.upto K k),As.F K (A6.upto K k)⟩
theorem A6.upto_ok (K:Nat):∀ k,(A6.upto K k).Ok
 | 0=>⟨fun h=>(by cases h),fun h=>(by cases h),fun h=>(by cases h),fun h=>(by cases h)⟩
 | k+1=>⟨fun {p0 r} h=>eo (fn:=Tryz.f142) (n:=32) (m:=100) fun Γ=>Cl.body (K:=K) (A6.upto_ok K k) h,fun {p0 r} h=>eo (fn:=Tryz.f143) (n:=62) (m:=100) fun Γ=>Bz.body (K:=K) (A6.upto_ok K k) h,fun {p0 r} h=>eo (fn:=Tryz.f131) (n:=115) (m:=100) fun Γ=>C0.body (K:=K) (A6.upto_ok K k) h,fun {p0 r} h=>eo (fn:=Tryz.f116) (n:=25) (m:=100) fun Γ=>As.body (K:=K) (A6.upto_ok K k) h⟩
def Cl (K:Nat) (p0:Ad):Option (Aa×Ad):=(A6.upto K K).Cl p0
theorem Cl.okE {K:Nat} {p0:Ad} {r:Aa×Ad} (h:Cl K p0=some r):Q5 V P 142 [.P 0] [(0,.raw (Ac p0))] [0] (.agg [.I r.1.Op,.str r.1.Name,.I r.1.Int,.str r.1.Text,.ro .Ae r.1.Kids]) [(0,.raw [.ro .Ak r.2.l,.I r.2.at_,.B r.2.bad])]:=(A6.upto_ok K K).Cl h
def Bz (K:Nat) (p0:Ad):Option (Aa×Ad):=(A6.upto K K).Bz p0
theorem Bz.okE {K:Nat} {p0:Ad} {r:Aa×Ad} (h:Bz K p0=some r):Q5 V P 143 [.P 0] [(0,.raw (Ac p0))] [0] (.agg [.I r.1.Op,.str r.1.Name,.I r.1.Int,.str r.1.Text,.ro .Ae r.1.Kids]) [(0,.raw [.ro .Ak r.2.l,.I r.2.at_,.B r.2.bad])]:=(A6.upto_ok K K).Bz h
def C0 (K:Nat) (p0:Ad):Option (Aa×Ad):=(A6.upto K K).C0 p0
theorem C0.okE {K:Nat} {p0:Ad} {r:Aa×Ad} (h:C0 K p0=some r):Q5 V P 131 [.P 0] [(0,.raw (Ac p0))] [0] (.agg [.I r.1.Op,.str r.1.Name,.I r.1.Int,.str r.1.Text,.ro .Ae r.1.Kids]) [(0,.raw [.ro .Ak r.2.l,.I r.2.at_,.B r.2.bad])]:=(A6.upto_ok K K).C0 h
def As (K:Nat) (p0:Ad):Option (Aa×Ad):=(A6.upto K K).As p0
theorem As.okE {K:Nat} {p0:Ad} {r:Aa×Ad} (h:As K p0=some r):Q5 V P 116 [.P 0] [(0,.raw (Ac p0))] [0] (.agg [.I r.1.Op,.str r.1.Name,.I r.1.Int,.str r.1.Text,.ro .Ae r.1.Kids]) [(0,.raw [.ro .Ak r.2.l,.I r.2.at_,.B r.2.bad])]:=(A6.upto_ok K K).As h
def Cx.l12 (K:Nat):Nat→(List Al)→Int→Bool→(List Aa)→Option ((List Al)×Int×Bool×(List Aa))
 | 0,_,_,_,_=>none
 | k+1,xh0_0_12h,xh0_1_12h,xh0_2_12h,x22502=>(if xh0_2_12h=true then some (xh0_0_12h,xh0_1_12h,xh0_2_12h,x22502) else (Option.bind (Bd K (⟨xh0_0_12h,xh0_1_12h,xh0_2_12h⟩:Ad)) (fun (a4_0,a4_1)=>(if (x22502.length+([(⟨6,a4_0,0,[],([]:List Aa)⟩:Aa)]:List Aa).length) * 72≤140737488355328 then (Option.bind (Ah K ([41]:List UInt8) a4_1) (fun (a5_0,a5_1)=>(if a5_0=true then some (a5_1.l,a5_1.at_,a5_1.bad,(x22502++([(⟨6,a4_0,0,[],([]:List Aa)⟩:Aa)]:List Aa))) else (Option.bind (Ar K ([44]:List UInt8) a5_1) (fun a6=>Cx.l12 K k a6.l a6.at_ a6.bad (x22502++([(⟨6,a4_0,0,[],([]:List Aa)⟩:Aa)]:List Aa))))))) else none))))
def Cx (K:Nat) (p0:Ad):Option (Aa×Ad):=(Option.bind (Bd K p0) (fun (a1_0,a1_1)=>(Option.bind (Ar K ([40]:List UInt8) a1_1) (fun a2=>(Option.bind (((Option.bind (Ah K ([41]:List UInt8) a2) (fun (a3_0,a3_1)=>(if a3_0=true then some (a3_1.l,a3_1.at_,a3_1.bad,([]:List Aa)) else (Option.bind (Cx.l12 K K a3_1.l a3_1.at_ a3_1.bad ([]:List Aa):Option ((List Al)×Int×Bool×(List Aa))) (fun (xh0_0_12,xh0_1_12,xh0_2_12,x22402)=>some (xh0_0_12,xh0_1_12,xh0_2_12,x22402))))))):Option ((List Al)×Int×Bool×(List Aa))) (fun (xh0_0_7,xh0_1_7,xh0_2_7,x21402)=>(Option.bind (As K (⟨xh0_0_7,xh0_1_7,xh0_2_7⟩:Ad)) (fun (a7_0,a7_1)=>(if (x21402.length+([(⟨a7_0.Op,a7_0.Name,a7_0.Int,a7_0.Text,a7_0.Kids⟩:Aa)]:List Aa).length) * 72≤140737488355328 then some ((⟨62,a1_0,0,[],(x21402++([(⟨a7_0.Op,a7_0.Name,a7_0.Int,a7_0.Text,a7_0.Kids⟩:Aa)]:List Aa))⟩:Aa),a7_1) else none)))))))))
theorem Cx.body {Γ:Rm} {K:Nat} {p0:Ad} {r:Aa×Ad} (h:Cx K p0=some r):Ri V P 37 100 Γ (Tryz.f86.body.getD .skip) (Q7 P V Tryz.f86 (.agg [.I r.1.Op,.str r.1.Name,.I r.1.Int,.str r.1.Text,.ro .Ae r.1.Kids]) [(0,.raw [.ro .Ak r.2.l,.I r.2.at_,.B r.2.bad])]) ⟨Q6 0 [.P 0],[(0,.raw (Ac p0))]⟩:=by
 unfold Cx at h
 refine Q4 L 200 <| Qv ?_
 obtain ⟨⟨a1_0,a1_1⟩,h1,h⟩:=bind_some h
 dsimp only at h
 refine rg L 202 [] [] [(1,(Rc (.cv (.str a1_0)) [(0,.raw (Ac a1_1))]))] (Q3 (Bd.okE h1)) ?_
 refine Qv ?_
 obtain ⟨a2,h2,h⟩:=bind_some h
 refine rg L 208 [] [] [(1,(Rc (.tup []) [(0,.raw (Ac a2))]))] (Q3 (Ar.okE h2)) ?_
 obtain ⟨o2,hp2,h⟩:=bind_some h
 refine Qv (Rk (Q':=fun e S=>(e=.normal∧∃ xh0_0_7:List Al,∃ xh0_1_7:Int,∃ xh0_2_7:Bool,∃ x21402:List Aa,S=⟨[(0,.P 0),(2,.P 21400),(3,.P 21401)],[(0,.raw [.ro .Ak xh0_0_7,.I xh0_1_7,.B xh0_2_7]),(21400,.raw [.I 0,.str [],.I 0,.str [],.N]),(21401,.raw [.I 62,.str a1_0,.I 0,.str [],.own .Ae 21402]),(21402,.lst .Ae x21402)]⟩∧(xh0_0_7,xh0_1_7,xh0_2_7,x21402)=o2)) ?_ ?_)
 ·clear h
  replace h:=hp2
  refine Qv ?_
  obtain ⟨⟨a3_0,a3_1⟩,h3,h⟩:=bind_some h
  dsimp only at h
  refine rg L 211 [] [] [(1,(Rc (.B a3_0) [(0,.raw (Ac a3_1))]))] (Q3 (Ah.okE h3)) ?_
  rcases Qw h with ⟨c1,h⟩ |⟨c1,h⟩
  ·refine ff (b:=(!a3_0)) (congrArg Bool.not (c1)) ?_
   refine Qy (Qu.trans (Qu.kk [0,2,3] [0,200,205]) (Qu.trans (Qu.nc 205 4 9500 Tag.Ae) (Qu.trans (Qu.kk [0,2,3] [0,200,205,9500]) (Qu.rr [(0,0),(200,21400),(205,21401),(9500,21402)])))) ?_
   refine sk (S':=⟨[(0,.P 0),(2,.P 21400),(3,.P 21401)],[(0,.raw (Ac a3_1)),(21400,.raw [.I 0,.str [],.I 0,.str [],.N]),(21401,.raw [.I 62,.str a1_0,.I 0,.str [],.own .Ae 21402]),(21402,.lst .Ae ([]:List Aa))]⟩) ?_
   cases h
   exact ⟨rfl,_,_,_,_,rfl,rfl⟩
  refine tt (b:=(!a3_0)) (congrArg Bool.not (eq_false_of_ne_true c1)) ?_
  refine Q2 <| Qy (Qu.trans (Qu.kk [0,2,3] [0,200,205]) (Qu.trans (Qu.nc 205 4 9500 Tag.Ae) (Qu.trans (Qu.kk [0,2,3] [0,200,205,9500]) (Qu.rr [(0,0),(200,22500),(205,22501),(9500,22502)])))) ?_
  refine kp (S':=⟨[(0,.P 0),(2,.P 22500),(3,.P 22501)],[(0,.raw (Ac a3_1)),(22500,.raw [.I 0,.str [],.I 0,.str [],.N]),(22501,.raw [.I 62,.str a1_0,.I 0,.str [],.own .Ae 22502]),(22502,.lst .Ae ([]:List Aa))]⟩) ?_
  obtain ⟨o1,hp1,h⟩:=bind_some h
  refine Ra (Q':=fun e S=>(e=.exit 0∧∃ xh0_0_12:List Al,∃ xh0_1_12:Int,∃ xh0_2_12:Bool,∃ x22402:List Aa,S=⟨[(0,.P 0),(2,.P 22400),(3,.P 22401)],[(0,.raw [.ro .Ak xh0_0_12,.I xh0_1_12,.B xh0_2_12]),(22400,.raw [.I 0,.str [],.I 0,.str [],.N]),(22401,.raw [.I 62,.str a1_0,.I 0,.str [],.own .Ae 22402]),(22402,.lst .Ae x22402)]⟩∧(xh0_0_12,xh0_1_12,xh0_2_12,x22402)=o1)) (Rh (fun k S=>∃ xh0_0_12h:List Al,∃ xh0_1_12h:Int,∃ xh0_2_12h:Bool,∃ x22502:List Aa,S=⟨[(0,.P 0),(2,.P 22500),(3,.P 22501)],[(0,.raw [.ro .Ak xh0_0_12h,.I xh0_1_12h,.B xh0_2_12h]),(22500,.raw [.I 0,.str [],.I 0,.str [],.N]),(22501,.raw [.I 62,.str a1_0,.I 0,.str [],.own .Ae 22502]),(22502,.lst .Ae x22502)]⟩∧Cx.l12 K k xh0_0_12h xh0_1_12h xh0_2_12h x22502=some o1) ?_ ⟨_,_,_,_,rfl,hp1⟩) ?_
  ·clear h hp1
   intro k S hS
   obtain ⟨xh0_0_12h,xh0_1_12h,xh0_2_12h,x22502,rfl,h⟩:=hS
   cases k with
   | zero=>cases h
   | succ k =>
   unfold Cx.l12 at h
   refine Qv <| Q4 L 215 ?_
   rcases Qw h with ⟨c2,h⟩ |⟨c2,h⟩
   ·refine ff (b:=(!xh0_2_12h)) (congrArg Bool.not (c2)) ?_
    refine Qy (Qu.trans (Qu.kk [0,2,3] [0,22500,22501,22502]) (Qu.rr [(0,0),(22500,22400),(22501,22401),(22502,22402)])) ?_
    refine ex (S':=⟨[(0,.P 0),(2,.P 22400),(3,.P 22401)],[(0,.raw [.ro .Ak xh0_0_12h,.I xh0_1_12h,.B xh0_2_12h]),(22400,.raw [.I 0,.str [],.I 0,.str [],.N]),(22401,.raw [.I 62,.str a1_0,.I 0,.str [],.own .Ae 22402]),(22402,.lst .Ae x22502)]⟩) ?_
    cases h
    exact ⟨rfl,_,_,_,_,rfl,rfl⟩
   refine tt (b:=(!xh0_2_12h)) (congrArg Bool.not (eq_false_of_ne_true c2)) ?_
   refine Q0 <| Q2 <| Qv ?_
   obtain ⟨⟨a4_0,a4_1⟩,h4,h⟩:=bind_some h
   dsimp only at h
   obtain ⟨g1,h⟩:=Q1 h
   refine hB L mixed 221 [] [] [(3,(Rc (.cv (.str a4_0)) [(0,.raw (Ac a4_1))]))] [0,2] 4 (Qz (Bd.okE h4) (Qz g1 (Qz trivial (Qz (Bd.okE h4) (Qz g1 (Qz trivial (Qz g1 (Qz trivial (Qz g1 (Q3 trivial)))))))))) (S':=⟨[(0,.P 0),(2,.P 22500),(3,.P 22501)],[(0,.raw (Ac a4_1)),(22500,.raw [.I 0,.str [],.I 0,.str [],.N]),(22501,.raw [.I 62,.str a1_0,.I 0,.str [],.own .Ae 22502]),(22502,.lst .Ae (x22502++([(⟨6,a4_0,0,[],([]:List Aa)⟩:Aa)]:List Aa)))]⟩) ?_
   refine Qv <| Qv ?_
   obtain ⟨⟨a5_0,a5_1⟩,h5,h⟩:=bind_some h
   dsimp only at h
   refine rg L 231 [] [] [(1,(Rc (.B a5_0) [(0,.raw (Ac a5_1))]))] (Q3 (Ah.okE h5)) ?_
   rcases Qw h with ⟨c3,h⟩ |⟨c3,h⟩
   ·refine tt c3 <| Qy (Qu.trans (Qu.kk [0,2,3] [0,22500,22501,22502]) (Qu.rr [(0,0),(22500,22400),(22501,22401),(22502,22402)])) ?_
    refine ex (S':=⟨[(0,.P 0),(2,.P 22400),(3,.P 22401)],[(0,.raw (Ac a5_1)),(22400,.raw [.I 0,.str [],.I 0,.str [],.N]),(22401,.raw [.I 62,.str a1_0,.I 0,.str [],.own .Ae 22402]),(22402,.lst .Ae (x22502++([(⟨6,a4_0,0,[],([]:List Aa)⟩:Aa)]:List Aa)))]⟩) ?_
    cases h
    exact ⟨rfl,_,_,_,_,rfl,rfl⟩
   refine fN c3 <| Q0 ?_
   obtain ⟨a6,h6,h⟩:=bind_some h
   refine ar L 234 [] [] [(1,(Rc (.tup []) [(0,.raw (Ac a6))]))] (cs:=[Q5 V P 82 [.P 0,.cv (.str ([44]:List UInt8))] [(0,.raw (Ac a5_1))] [0] (.tup []) [(0,.raw (Ac a6))]]) (S':=⟨[(0,.P 0),(2,.P 22500),(3,.P 22501)],[(0,.raw (Ac a6)),(22500,.raw [.I 0,.str [],.I 0,.str [],.N]),(22501,.raw [.I 62,.str a1_0,.I 0,.str [],.own .Ae 22502]),(22502,.lst .Ae (x22502++([(⟨6,a4_0,0,[],([]:List Aa)⟩:Aa)]:List Aa)))]⟩) (Ar.okE h6) ?_
   exact ⟨k,Nat.lt_succ_self k,_,_,_,_,rfl,h⟩
  ·rintro e S ⟨rfl,xh0_0_12,xh0_1_12,xh0_2_12,x22402,rfl,rfl⟩
   dsimp only at h
   refine ⟨_,Qu.trans (Qu.kk [0,2,3] [0,22400,22401,22402]) (Qu.trans (Qu.rr [(0,0),(22400,21400),(22401,21401),(22402,21402)]) (Qu.kp (S':=⟨[(0,.P 0),(2,.P 21400),(3,.P 21401)],[(0,.raw [.ro .Ak xh0_0_12,.I xh0_1_12,.B xh0_2_12]),(21400,.raw [.I 0,.str [],.I 0,.str [],.N]),(21401,.raw [.I 62,.str a1_0,.I 0,.str [],.own .Ae 21402]),(21402,.lst .Ae x22402)]⟩))),?_⟩
   cases h
   exact ⟨rfl,_,_,_,_,rfl,rfl⟩
 ·rintro e S ⟨rfl,xh0_0_7,xh0_1_7,xh0_2_7,x21402,rfl,rfl⟩
  dsimp only at h
  refine Qv ?_
  obtain ⟨⟨a7_0,a7_1⟩,h7,h⟩:=bind_some h
  dsimp only at h
  obtain ⟨g2,h⟩:=Q1 h
  refine hB L mixed 237 [] [] [(3,(Rc (.agg (Aj a7_0)) [(0,.raw (Ac a7_1))]))] [0,2] 3 (Qz (As.okE h7) (Qz g2 (Qz trivial (Qz (As.okE h7) (Qz g2 (Qz trivial (Qz g2 (Q3 trivial)))))))) (S':=⟨[(2,.P 21400),(3,.P 21401)],[(0,.raw (Ac a7_1)),(21400,.raw [.I 0,.str [],.I 0,.str [],.N]),(21401,.raw [.I 62,.str a1_0,.I 0,.str [],.own .Ae 21402]),(21402,.lst .Ae (x21402++([(⟨a7_0.Op,a7_0.Name,a7_0.Int,a7_0.Text,a7_0.Kids⟩:Aa)]:List Aa)))]⟩) ?_
  refine Q4 L 246 <| Qy (Qu.trans (Qu.kk [2] [0,21400,21402]) (Qu.trans (Qu.fz 21402) (Qu.rr [(0,0),(21400,100)]))) ?_
  refine Qx ?_
  cases h
  exact Rd
theorem Cx.okE {K:Nat} {p0:Ad} {r:Aa×Ad} (h:Cx K p0=some r):Q5 V P 86 [.P 0] [(0,.raw (Ac p0))] [0] (.agg [.I r.1.Op,.str r.1.Name,.I r.1.Int,.str r.1.Text,.ro .Ae r.1.Kids]) [(0,.raw [.ro .Ak r.2.l,.I r.2.at_,.B r.2.bad])] :=
 eo (fn:=Tryz.f86) (n:=37) (m:=100) fun Γ=>Cx.body h
def Dt (K:Nat) (p0:Ad):Option (Aa×Ad):=(Option.bind (((Option.bind (Ah K ([113,117,101,114,121]:List UInt8) p0) (fun (a1_0,a1_1)=>(if a1_0=true then some (a1_1.l,a1_1.at_,a1_1.bad,64) else (Option.bind (Ah K ([117,112,100,97,116,101]:List UInt8) a1_1) (fun (a2_0,a2_1)=>(if a2_0=true then some (a2_1.l,a2_1.at_,a2_1.bad,65) else (Option.bind (Ar K ([115,105,103,110,97,108]:List UInt8) a2_1) (fun a3=>some (a3.l,a3.at_,a3.bad,63)))))))))):Option ((List Al)×Int×Bool×Int)) (fun (xh0_0_5,xh0_1_5,xh0_2_5,x21001_0)=>(Option.bind (Bd K (⟨xh0_0_5,xh0_1_5,xh0_2_5⟩:Ad)) (fun (a4_0,a4_1)=>(Option.bind (Ar K ([40]:List UInt8) a4_1) (fun a5=>(Option.bind (Bd K a5) (fun (a6_0,a6_1)=>(Option.bind (Ar K ([41]:List UInt8) a6_1) (fun a7=>(Option.bind (((Option.bind ((if x21001_0=65 then (Option.bind (Ah K ([99,104,101,99,107]:List UInt8) a7) (fun (a8_0,a8_1)=>some (a8_0,a8_1.l,a8_1.at_,a8_1.bad))) else some (false,a7.l,a7.at_,a7.bad)):Option (Bool×(List Al)×Int×Bool)) (fun (xt29_24,xh0_0_24,xh0_1_24,xh0_2_24)=>(if xt29_24=true then (Option.bind (As K (⟨xh0_0_24,xh0_1_24,xh0_2_24⟩:Ad)) (fun (a9_0,a9_1)=>(if ([(⟨a9_0.Op,a9_0.Name,a9_0.Int,a9_0.Text,a9_0.Kids⟩:Aa)]:List Aa).length * 72≤140737488355328 then some (a9_1.l,a9_1.at_,a9_1.bad,([(⟨a9_0.Op,a9_0.Name,a9_0.Int,a9_0.Text,a9_0.Kids⟩:Aa)]:List Aa)) else none))) else some (xh0_0_24,xh0_1_24,xh0_2_24,([]:List Aa)))))):Option ((List Al)×Int×Bool×(List Aa))) (fun (xh0_0_23,xh0_1_23,xh0_2_23,x24602)=>(Option.bind (As K (⟨xh0_0_23,xh0_1_23,xh0_2_23⟩:Ad)) (fun (a10_0,a10_1)=>(if (x24602.length+([(⟨a10_0.Op,a10_0.Name,a10_0.Int,a10_0.Text,a10_0.Kids⟩:Aa)]:List Aa).length) * 72≤140737488355328 then some ((⟨x21001_0,a4_0,0,a6_0,(x24602++([(⟨a10_0.Op,a10_0.Name,a10_0.Int,a10_0.Text,a10_0.Kids⟩:Aa)]:List Aa))⟩:Aa),a10_1) else none)))))))))))))))
theorem Dt.body {Γ:Rm} {K:Nat} {p0:Ad} {r:Aa×Ad} (h:Dt K p0=some r):Ri V P 45 100 Γ (Tryz.f87.body.getD .skip) (Q7 P V Tryz.f87 (.agg [.I r.1.Op,.str r.1.Name,.I r.1.Int,.str r.1.Text,.ro .Ae r.1.Kids]) [(0,.raw [.ro .Ak r.2.l,.I r.2.at_,.B r.2.bad])]) ⟨Q6 0 [.P 0],[(0,.raw (Ac p0))]⟩:=by
 unfold Dt at h
 refine Q4 L 200 <| Q4 L 202 ?_
 obtain ⟨o1,hp1,h⟩:=bind_some h
 refine Qv (Rk (Q':=fun e S=>(e=.normal∧∃ xh0_0_5:List Al,∃ xh0_1_5:Int,∃ xh0_2_5:Bool,∃ x21001_0:Int,S=⟨[(0,.P 0),(2,.P 21000),(3,.P 21001)],[(0,.raw [.ro .Ak xh0_0_5,.I xh0_1_5,.B xh0_2_5]),(21000,.raw [.I 0,.str [],.I 0,.str [],.N]),(21001,.raw [.I x21001_0,.str [],.I 0,.str [],.N])]⟩∧(xh0_0_5,xh0_1_5,xh0_2_5,x21001_0)=o1)) ?_ ?_)
 ·clear h
  replace h:=hp1
  refine Qv ?_
  obtain ⟨⟨a1_0,a1_1⟩,h1,h⟩:=bind_some h
  dsimp only at h
  refine rg L 206 [] [] [(1,(Rc (.B a1_0) [(0,.raw (Ac a1_1))]))] (Q3 (Ah.okE h1)) ?_
  rcases Qw h with ⟨c1,h⟩ |⟨c1,h⟩
  ·refine tt c1 <| Q8 (Ul L 209 ⟨rfl,rfl⟩) (Qu.trans (Qu.kk [0,2,3] [0,200,203]) (Qu.trans (Qu.rr [(0,0),(200,21000),(203,21001)]) (Qu.kp (S':=⟨[(0,.P 0),(2,.P 21000),(3,.P 21001)],[(0,.raw (Ac a1_1)),(21000,.raw [.I 0,.str [],.I 0,.str [],.N]),(21001,.raw [.I 64,.str [],.I 0,.str [],.N])]⟩)))) ?_
   cases h
   exact ⟨rfl,_,_,_,_,rfl,rfl⟩
  refine fN c1 <| Qv ?_
  obtain ⟨⟨a2_0,a2_1⟩,h2,h⟩:=bind_some h
  dsimp only at h
  refine rg L 212 [] [] [(1,(Rc (.B a2_0) [(0,.raw (Ac a2_1))]))] (Q3 (Ah.okE h2)) ?_
  rcases Qw h with ⟨c2,h⟩ |⟨c2,h⟩
  ·refine tt c2 <| Q8 (Ul L 215 ⟨rfl,rfl⟩) (Qu.trans (Qu.kk [0,2,3] [0,200,203]) (Qu.trans (Qu.rr [(0,0),(200,21000),(203,21001)]) (Qu.kp (S':=⟨[(0,.P 0),(2,.P 21000),(3,.P 21001)],[(0,.raw (Ac a2_1)),(21000,.raw [.I 0,.str [],.I 0,.str [],.N]),(21001,.raw [.I 65,.str [],.I 0,.str [],.N])]⟩)))) ?_
   cases h
   exact ⟨rfl,_,_,_,_,rfl,rfl⟩
  refine fN c2 ?_
  obtain ⟨a3,h3,h⟩:=bind_some h
  refine Q8 (rg L 218 [] [] [(1,(Rc (.tup []) [(0,.raw (Ac a3))]))] (Q3 (Ar.okE h3)) ⟨rfl,rfl⟩) (Qu.trans (Qu.kk [0,2,3] [0,200,203]) (Qu.trans (Qu.rr [(0,0),(200,21000),(203,21001)]) (Qu.kp (S':=⟨[(0,.P 0),(2,.P 21000),(3,.P 21001)],[(0,.raw (Ac a3)),(21000,.raw [.I 0,.str [],.I 0,.str [],.N]),(21001,.raw [.I 63,.str [],.I 0,.str [],.N])]⟩)))) ?_
  cases h
  exact ⟨rfl,_,_,_,_,rfl,rfl⟩
 ·rintro e S ⟨rfl,xh0_0_5,xh0_1_5,xh0_2_5,x21001_0,rfl,rfl⟩
  dsimp only at h
  refine Qv ?_
  obtain ⟨⟨a4_0,a4_1⟩,h4,h⟩:=bind_some h
  dsimp only at h
  refine rg L 221 [] [] [(1,(Rc (.cv (.str a4_0)) [(0,.raw (Ac a4_1))]))] (Q3 (Bd.okE h4)) ?_
  refine Qv ?_
  obtain ⟨a5,h5,h⟩:=bind_some h
  refine rg L 226 [] [] [(1,(Rc (.tup []) [(0,.raw (Ac a5))]))] (Q3 (Ar.okE h5)) ?_
  refine Qv ?_
  obtain ⟨⟨a6_0,a6_1⟩,h6,h⟩:=bind_some h
  dsimp only at h
  refine rg L 229 [] [] [(1,(Rc (.cv (.str a6_0)) [(0,.raw (Ac a6_1))]))] (Q3 (Bd.okE h6)) ?_
  refine Qv ?_
  obtain ⟨a7,h7,h⟩:=bind_some h
  refine rg L 234 [] [] [(1,(Rc (.tup []) [(0,.raw (Ac a7))]))] (Q3 (Ar.okE h7)) ?_
  obtain ⟨o3,hp3,h⟩:=bind_some h
  refine Qv (Rk (Q':=fun e S=>(e=.normal∧∃ xh0_0_23:List Al,∃ xh0_1_23:Int,∃ xh0_2_23:Bool,∃ x24602:List Aa,S=⟨[(0,.P 0),(2,.P 24600),(3,.P 24601)],[(0,.raw [.ro .Ak xh0_0_23,.I xh0_1_23,.B xh0_2_23]),(24600,.raw [.I 0,.str [],.I 0,.str [],.N]),(24601,.raw [.I x21001_0,.str a4_0,.I 0,.str a6_0,.own .Ae 24602]),(24602,.lst .Ae x24602)]⟩∧(xh0_0_23,xh0_1_23,xh0_2_23,x24602)=o3)) ?_ ?_)
  ·clear h
   replace h:=hp3
   obtain ⟨o2,hp2,h⟩:=bind_some h
   refine Qv (Rk (Q':=fun e S=>(e=.normal∧∃ xt29_24:Bool,∃ xh0_0_24:List Al,∃ xh0_1_24:Int,∃ xh0_2_24:Bool,S=⟨[(0,.P 0),(2,.P 24800),(3,.P 24801),(29,.B xt29_24)],[(0,.raw [.ro .Ak xh0_0_24,.I xh0_1_24,.B xh0_2_24]),(24800,.raw [.I 0,.str [],.I 0,.str [],.N]),(24801,.raw [.I x21001_0,.str a4_0,.I 0,.str a6_0,.N])]⟩∧(xt29_24,xh0_0_24,xh0_1_24,xh0_2_24)=o2)) ?_ ?_)
   ·clear h
    replace h:=hp2
    rcases Qw h with ⟨c3,h⟩ |⟨c3,h⟩
    ·obtain ⟨⟨a8_0,a8_1⟩,h8,h⟩:=bind_some h
     dsimp only at h
     refine Q8 (rg L 237 [(3,true)] [] [(5,(Rc (.B a8_0) [(0,.raw (Ac a8_1))]))] (Sj (decide_eq_true c3) (Ah.okE h8)) ⟨rfl,rfl⟩) (Qu.trans (Qu.kk [0,2,3,29] [0,21000,21001]) (Qu.trans (Qu.rr [(0,0),(21000,24800),(21001,24801)]) (Qu.kp (S':=⟨[(0,.P 0),(2,.P 24800),(3,.P 24801),(29,.B a8_0)],[(0,.raw (Ac a8_1)),(24800,.raw [.I 0,.str [],.I 0,.str [],.N]),(24801,.raw [.I x21001_0,.str a4_0,.I 0,.str a6_0,.N])]⟩)))) ?_
     cases h
     exact ⟨rfl,_,_,_,_,rfl,rfl⟩
    refine Q8 (rg L 237 [(3,false)] [] [] (Q3 (decide_eq_false c3)) ⟨rfl,rfl⟩) (Qu.trans (Qu.kk [0,2,3,29] [0,21000,21001]) (Qu.trans (Qu.rr [(0,0),(21000,24800),(21001,24801)]) (Qu.kp (S':=⟨[(0,.P 0),(2,.P 24800),(3,.P 24801),(29,.B false)],[(0,.raw (Ac a7)),(24800,.raw [.I 0,.str [],.I 0,.str [],.N]),(24801,.raw [.I x21001_0,.str a4_0,.I 0,.str a6_0,.N])]⟩)))) ?_
    cases h
    exact ⟨rfl,_,_,_,_,rfl,rfl⟩
   ·rintro e S ⟨rfl,xt29_24,xh0_0_24,xh0_1_24,xh0_2_24,rfl,rfl⟩
    dsimp only at h
    rcases Qw h with ⟨c4,h⟩ |⟨c4,h⟩
    ·refine tt c4 ?_
     obtain ⟨⟨a9_0,a9_1⟩,h9,h⟩:=bind_some h
     dsimp only at h
     obtain ⟨g1,h⟩:=Q1 h
     refine Q8 (hB L mixed 245 [] [] [(3,(Rc (.agg (Aj a9_0)) [(0,.raw (Ac a9_1))]))] [0,2] 3 (Qz (As.okE h9) (Qz g1 (Qz trivial (Qz (As.okE h9) (Qz g1 (Qz trivial (Qz g1 (Q3 trivial)))))))) (S':=⟨[(0,.P 0),(2,.P 24800),(3,.P 24801)],[(0,.raw (Ac a9_1)),(250,.lst .Ae ([(⟨a9_0.Op,a9_0.Name,a9_0.Int,a9_0.Text,a9_0.Kids⟩:Aa)]:List Aa)),(24800,.raw [.I 0,.str [],.I 0,.str [],.N]),(24801,.raw [.I x21001_0,.str a4_0,.I 0,.str a6_0,.own .Ae 250])]⟩) ⟨rfl,rfl⟩) (Qu.trans (Qu.kk [0,2,3] [0,250,24800,24801]) (Qu.trans (Qu.rr [(0,0),(250,24602),(24800,24600),(24801,24601)]) (Qu.kp (S':=⟨[(0,.P 0),(2,.P 24600),(3,.P 24601)],[(0,.raw (Ac a9_1)),(24600,.raw [.I 0,.str [],.I 0,.str [],.N]),(24601,.raw [.I x21001_0,.str a4_0,.I 0,.str a6_0,.own .Ae 24602]),(24602,.lst .Ae ([(⟨a9_0.Op,a9_0.Name,a9_0.Int,a9_0.Text,a9_0.Kids⟩:Aa)]:List Aa))]⟩)))) ?_
     cases h
     exact ⟨rfl,_,_,_,_,rfl,rfl⟩
    refine fN c4 <| Qy (Qu.trans (Qu.kk [0,2,3] [0,24800,24801]) (Qu.trans (Qu.nc 24801 4 9500 Tag.Ae) (Qu.trans (Qu.kk [0,2,3] [0,9500,24800,24801]) (Qu.rr [(0,0),(9500,24602),(24800,24600),(24801,24601)])))) ?_
    refine sk (S':=⟨[(0,.P 0),(2,.P 24600),(3,.P 24601)],[(0,.raw [.ro .Ak xh0_0_24,.I xh0_1_24,.B xh0_2_24]),(24600,.raw [.I 0,.str [],.I 0,.str [],.N]),(24601,.raw [.I x21001_0,.str a4_0,.I 0,.str a6_0,.own .Ae 24602]),(24602,.lst .Ae ([]:List Aa))]⟩) ?_
    cases h
    exact ⟨rfl,_,_,_,_,rfl,rfl⟩
  ·rintro e S ⟨rfl,xh0_0_23,xh0_1_23,xh0_2_23,x24602,rfl,rfl⟩
   dsimp only at h
   refine Qv ?_
   obtain ⟨⟨a10_0,a10_1⟩,h10,h⟩:=bind_some h
   dsimp only at h
   obtain ⟨g2,h⟩:=Q1 h
   refine hB L mixed 254 [] [] [(3,(Rc (.agg (Aj a10_0)) [(0,.raw (Ac a10_1))]))] [0,2] 3 (Qz (As.okE h10) (Qz g2 (Qz trivial (Qz (As.okE h10) (Qz g2 (Qz trivial (Qz g2 (Q3 trivial)))))))) (S':=⟨[(2,.P 24600),(3,.P 24601)],[(0,.raw (Ac a10_1)),(24600,.raw [.I 0,.str [],.I 0,.str [],.N]),(24601,.raw [.I x21001_0,.str a4_0,.I 0,.str a6_0,.own .Ae 24602]),(24602,.lst .Ae (x24602++([(⟨a10_0.Op,a10_0.Name,a10_0.Int,a10_0.Text,a10_0.Kids⟩:Aa)]:List Aa)))]⟩) ?_
   refine Q4 L 263 <| Qy (Qu.trans (Qu.kk [2] [0,24600,24602]) (Qu.trans (Qu.fz 24602) (Qu.rr [(0,0),(24600,100)]))) ?_
   refine Qx ?_
   cases h
   exact Rd
theorem Dt.okE {K:Nat} {p0:Ad} {r:Aa×Ad} (h:Dt K p0=some r):Q5 V P 87 [.P 0] [(0,.raw (Ac p0))] [0] (.agg [.I r.1.Op,.str r.1.Name,.I r.1.Int,.str r.1.Text,.ro .Ae r.1.Kids]) [(0,.raw [.ro .Ak r.2.l,.I r.2.at_,.B r.2.bad])] :=
 eo (fn:=Tryz.f87) (n:=45) (m:=100) fun Γ=>Dt.body h
def Cv.l7 (K:Nat):Nat→(List Al)→Int→Bool→(List Aa)→Option ((List Al)×Int×Bool×(List Aa))
 | 0,_,_,_,_=>none
 | k+1,xh0_0_7h,xh0_1_7h,xh0_2_7h,x21502=>(if xh0_2_7h=true then some (xh0_0_7h,xh0_1_7h,xh0_2_7h,x21502) else (Option.bind (A7 K (⟨xh0_0_7h,xh0_1_7h,xh0_2_7h⟩:Ad) 0) (fun a1=>(if a1=true then some (xh0_0_7h,xh0_1_7h,xh0_2_7h,x21502) else (Option.bind (Ah K ([118,97,114]:List UInt8) (⟨xh0_0_7h,xh0_1_7h,xh0_2_7h⟩:Ad)) (fun (a2_0,a2_1)=>(if a2_0=true then (Option.bind (Bd K a2_1) (fun (a3_0,a3_1)=>(Option.bind (Ar K ([61]:List UInt8) a3_1) (fun a4=>(Option.bind (D4 K a4) (fun (a5_0,a5_1)=>(Option.bind (Ca K 61 a5_0) (fun a6=>(Option.bind (Cb K (⟨a6.Op,a3_0,a6.Int,a6.Text,a6.Kids⟩:Aa) a5_1) (fun (a7_0,a7_1)=>(if (x21502.length+([(⟨a7_0.Op,a7_0.Name,a7_0.Int,a7_0.Text,a7_0.Kids⟩:Aa)]:List Aa).length) * 72≤140737488355328 then Cv.l7 K k a7_1.l a7_1.at_ a7_1.bad (x21502++([(⟨a7_0.Op,a7_0.Name,a7_0.Int,a7_0.Text,a7_0.Kids⟩:Aa)]:List Aa)) else none))))))))))) else (Option.bind (Ah K ([102,117,110,99]:List UInt8) a2_1) (fun (a8_0,a8_1)=>(if a8_0=true then (Option.bind (Cx K a8_1) (fun (a9_0,a9_1)=>(if (x21502.length+([(⟨a9_0.Op,a9_0.Name,a9_0.Int,a9_0.Text,a9_0.Kids⟩:Aa)]:List Aa).length) * 72≤140737488355328 then Cv.l7 K k a9_1.l a9_1.at_ a9_1.bad (x21502++([(⟨a9_0.Op,a9_0.Name,a9_0.Int,a9_0.Text,a9_0.Kids⟩:Aa)]:List Aa)) else none))) else (Option.bind (Ar K ([111,110]:List UInt8) a8_1) (fun a10=>(Option.bind (Dt K a10) (fun (a11_0,a11_1)=>(if (x21502.length+([(⟨a11_0.Op,a11_0.Name,a11_0.Int,a11_0.Text,a11_0.Kids⟩:Aa)]:List Aa).length) * 72≤140737488355328 then Cv.l7 K k a11_1.l a11_1.at_ a11_1.bad (x21502++([(⟨a11_0.Op,a11_0.Name,a11_0.Int,a11_0.Text,a11_0.Kids⟩:Aa)]:List Aa)) else none)))))))))))))))
def Cv (K:Nat) (p0:Ad):Option (Aa×Ad):=(Option.bind (Cv.l7 K K p0.l p0.at_ p0.bad ([]:List Aa):Option ((List Al)×Int×Bool×(List Aa))) (fun (xh0_0_7,xh0_1_7,xh0_2_7,x21402)=>some ((⟨60,[],0,[],x21402⟩:Aa),(⟨xh0_0_7,xh0_1_7,xh0_2_7⟩:Ad))))
theorem Cv.body {Γ:Rm} {K:Nat} {p0:Ad} {r:Aa×Ad} (h:Cv K p0=some r):Ri V P 55 100 Γ (Tryz.f53.body.getD .skip) (Q7 P V Tryz.f53 (.agg [.I r.1.Op,.str r.1.Name,.I r.1.Int,.str r.1.Text,.ro .Ae r.1.Kids]) [(0,.raw [.ro .Ak r.2.l,.I r.2.at_,.B r.2.bad])]) ⟨Q6 0 [.P 0],[(0,.raw (Ac p0))]⟩:=by
 unfold Cv at h
 refine Q4 L 200 <| Q4 L 202 <| Qv <| Q2 <| Qy (Qu.trans (Qu.kk [0,2,3] [0,200,203]) (Qu.trans (Qu.nc 203 4 9500 Tag.Ae) (Qu.trans (Qu.kk [0,2,3] [0,200,203,9500]) (Qu.rr [(0,0),(200,21500),(203,21501),(9500,21502)])))) ?_
 refine kp (S':=⟨[(0,.P 0),(2,.P 21500),(3,.P 21501)],[(0,.raw (Ac p0)),(21500,.raw [.I 0,.str [],.I 0,.str [],.N]),(21501,.raw [.I 60,.str [],.I 0,.str [],.own .Ae 21502]),(21502,.lst .Ae ([]:List Aa))]⟩) ?_
 obtain ⟨o1,hp1,h⟩:=bind_some h
 refine Ra (Q':=fun e S=>(e=.exit 0∧∃ xh0_0_7:List Al,∃ xh0_1_7:Int,∃ xh0_2_7:Bool,∃ x21402:List Aa,S=⟨[(2,.P 21400),(3,.P 21401)],[(0,.raw [.ro .Ak xh0_0_7,.I xh0_1_7,.B xh0_2_7]),(21400,.raw [.I 0,.str [],.I 0,.str [],.N]),(21401,.raw [.I 60,.str [],.I 0,.str [],.own .Ae 21402]),(21402,.lst .Ae x21402)]⟩∧(xh0_0_7,xh0_1_7,xh0_2_7,x21402)=o1)) (Rh (fun k S=>∃ xh0_0_7h:List Al,∃ xh0_1_7h:Int,∃ xh0_2_7h:Bool,∃ x21502:List Aa,S=⟨[(0,.P 0),(2,.P 21500),(3,.P 21501)],[(0,.raw [.ro .Ak xh0_0_7h,.I xh0_1_7h,.B xh0_2_7h]),(21500,.raw [.I 0,.str [],.I 0,.str [],.N]),(21501,.raw [.I 60,.str [],.I 0,.str [],.own .Ae 21502]),(21502,.lst .Ae x21502)]⟩∧Cv.l7 K k xh0_0_7h xh0_1_7h xh0_2_7h x21502=some o1) ?_ ⟨_,_,_,_,rfl,hp1⟩) ?_
 ·clear h hp1
  intro k S hS
  obtain ⟨xh0_0_7h,xh0_1_7h,xh0_2_7h,x21502,rfl,h⟩:=hS
  cases k with
  | zero=>cases h
  | succ k =>
  unfold Cv.l7 at h
  refine Qv <| Qv ?_
  rcases Qw h with ⟨c1,h⟩ |⟨c1,h⟩
  ·refine rg L 206 [(5,false)] [] [] (Q3 (show (!xh0_2_7h)=false from congrArg Bool.not (c1))) ?_
   refine ff (b:=false) (rfl) ?_
   refine Qy (Qu.trans (Qu.kk [2,3] [0,21500,21501,21502]) (Qu.rr [(0,0),(21500,21400),(21501,21401),(21502,21402)])) ?_
   refine ex (S':=⟨[(2,.P 21400),(3,.P 21401)],[(0,.raw [.ro .Ak xh0_0_7h,.I xh0_1_7h,.B xh0_2_7h]),(21400,.raw [.I 0,.str [],.I 0,.str [],.N]),(21401,.raw [.I 60,.str [],.I 0,.str [],.own .Ae 21402]),(21402,.lst .Ae x21502)]⟩) ?_
   cases h
   exact ⟨rfl,_,_,_,_,rfl,rfl⟩
  obtain ⟨a1,h1,h⟩:=bind_some h
  refine rg L 206 [(5,true)] [(7,.B a1)] [] (Qz (show (!xh0_2_7h)=true from congrArg Bool.not (eq_false_of_ne_true c1)) (Qz (A7.ok h1) (Q3 trivial))) ?_
  rcases Qw h with ⟨c2,h⟩ |⟨c2,h⟩
  ·refine ff (b:=(!a1)) (congrArg Bool.not (c2)) ?_
   refine Qy (Qu.trans (Qu.kk [2,3] [0,21500,21501,21502]) (Qu.rr [(0,0),(21500,21400),(21501,21401),(21502,21402)])) ?_
   refine ex (S':=⟨[(2,.P 21400),(3,.P 21401)],[(0,.raw [.ro .Ak xh0_0_7h,.I xh0_1_7h,.B xh0_2_7h]),(21400,.raw [.I 0,.str [],.I 0,.str [],.N]),(21401,.raw [.I 60,.str [],.I 0,.str [],.own .Ae 21402]),(21402,.lst .Ae x21502)]⟩) ?_
   cases h
   exact ⟨rfl,_,_,_,_,rfl,rfl⟩
  refine tt (b:=(!a1)) (congrArg Bool.not (eq_false_of_ne_true c2)) ?_
  refine Q0 <| Q2 <| Qv ?_
  obtain ⟨⟨a2_0,a2_1⟩,h2,h⟩:=bind_some h
  dsimp only at h
  refine rg L 217 [] [] [(1,(Rc (.B a2_0) [(0,.raw (Ac a2_1))]))] (Q3 (Ah.okE h2)) ?_
  rcases Qw h with ⟨c3,h⟩ |⟨c3,h⟩
  ·refine tt c3 <| Qv ?_
   obtain ⟨⟨a3_0,a3_1⟩,h3,h⟩:=bind_some h
   dsimp only at h
   refine rg L 220 [] [] [(1,(Rc (.cv (.str a3_0)) [(0,.raw (Ac a3_1))]))] (Q3 (Bd.okE h3)) ?_
   refine Qv ?_
   obtain ⟨a4,h4,h⟩:=bind_some h
   refine rg L 224 [] [] [(1,(Rc (.tup []) [(0,.raw (Ac a4))]))] (Q3 (Ar.okE h4)) ?_
   refine Qv ?_
   obtain ⟨⟨a5_0,a5_1⟩,h5,h⟩:=bind_some h
   dsimp only at h
   obtain ⟨a6,h6,h⟩:=bind_some h
   refine rg L 227 [] [(2,.agg (Aj a6))] [(1,(Rc (.agg (Aj a5_0)) [(0,.raw (Ac a5_1))]))] (Qz (D4.okE h5) (Qz (Ca.ok h6) (Q3 trivial))) ?_
   refine Q4 L 233 ?_
   obtain ⟨⟨a7_0,a7_1⟩,h7,h⟩:=bind_some h
   dsimp only at h
   obtain ⟨g1,h⟩:=Q1 h
   refine hB L mixed 237 [] [] [(4,(Rc (.agg (Aj a7_0)) [(0,.raw (Ac a7_1))]))] [0,2] 4 (Qz (Cb.okE h7) (Qz g1 (Qz trivial (Qz (Cb.okE h7) (Qz g1 (Qz trivial (Qz (Cb.okE h7) (Qz g1 (Qz trivial (Qz g1 (Q3 trivial))))))))))) (S':=⟨[(0,.P 0),(2,.P 21500),(3,.P 21501)],[(0,.raw (Ac a7_1)),(21500,.raw [.I 0,.str [],.I 0,.str [],.N]),(21501,.raw [.I 60,.str [],.I 0,.str [],.own .Ae 21502]),(21502,.lst .Ae (x21502++([(⟨a7_0.Op,a7_0.Name,a7_0.Int,a7_0.Text,a7_0.Kids⟩:Aa)]:List Aa)))]⟩) ?_
   exact ⟨k,Nat.lt_succ_self k,_,_,_,_,rfl,h⟩
  refine fN c3 <| Qv ?_
  obtain ⟨⟨a8_0,a8_1⟩,h8,h⟩:=bind_some h
  dsimp only at h
  refine rg L 247 [] [] [(1,(Rc (.B a8_0) [(0,.raw (Ac a8_1))]))] (Q3 (Ah.okE h8)) ?_
  rcases Qw h with ⟨c4,h⟩ |⟨c4,h⟩
  ·refine tt c4 ?_
   obtain ⟨⟨a9_0,a9_1⟩,h9,h⟩:=bind_some h
   dsimp only at h
   obtain ⟨g2,h⟩:=Q1 h
   refine hB L mixed 250 [] [] [(3,(Rc (.agg (Aj a9_0)) [(0,.raw (Ac a9_1))]))] [0,2] 3 (Qz (Cx.okE h9) (Qz g2 (Qz trivial (Qz (Cx.okE h9) (Qz g2 (Qz trivial (Qz g2 (Q3 trivial)))))))) (S':=⟨[(0,.P 0),(2,.P 21500),(3,.P 21501)],[(0,.raw (Ac a9_1)),(21500,.raw [.I 0,.str [],.I 0,.str [],.N]),(21501,.raw [.I 60,.str [],.I 0,.str [],.own .Ae 21502]),(21502,.lst .Ae (x21502++([(⟨a9_0.Op,a9_0.Name,a9_0.Int,a9_0.Text,a9_0.Kids⟩:Aa)]:List Aa)))]⟩) ?_
   exact ⟨k,Nat.lt_succ_self k,_,_,_,_,rfl,h⟩
  refine fN c4 <| Qv ?_
  obtain ⟨a10,h10,h⟩:=bind_some h
  refine rg L 259 [] [] [(1,(Rc (.tup []) [(0,.raw (Ac a10))]))] (Q3 (Ar.okE h10)) ?_
  obtain ⟨⟨a11_0,a11_1⟩,h11,h⟩:=bind_some h
  dsimp only at h
  obtain ⟨g3,h⟩:=Q1 h
  refine hB L mixed 262 [] [] [(3,(Rc (.agg (Aj a11_0)) [(0,.raw (Ac a11_1))]))] [0,2] 3 (Qz (Dt.okE h11) (Qz g3 (Qz trivial (Qz (Dt.okE h11) (Qz g3 (Qz trivial (Qz g3 (Q3 trivial)))))))) (S':=⟨[(0,.P 0),(2,.P 21500),(3,.P 21501)],[(0,.raw (Ac a11_1)),(21500,.raw [.I 0,.str [],.I 0,.str [],.N]),(21501,.raw [.I 60,.str [],.I 0,.str [],.own .Ae 21502]),(21502,.lst .Ae (x21502++([(⟨a11_0.Op,a11_0.Name,a11_0.Int,a11_0.Text,a11_0.Kids⟩:Aa)]:List Aa)))]⟩) ?_
  exact ⟨k,Nat.lt_succ_self k,_,_,_,_,rfl,h⟩
 ·rintro e S ⟨rfl,xh0_0_7,xh0_1_7,xh0_2_7,x21402,rfl,rfl⟩
  dsimp only at h
  refine ⟨_,Qu.refl,?_⟩
  refine Q4 L 271 <| Qy (Qu.trans (Qu.kk [2] [0,21400,21402]) (Qu.trans (Qu.fz 21402) (Qu.rr [(0,0),(21400,100)]))) ?_
  refine Qx ?_
  cases h
  exact Rd
theorem Cv.okE {K:Nat} {p0:Ad} {r:Aa×Ad} (h:Cv K p0=some r):Q5 V P 53 [.P 0] [(0,.raw (Ac p0))] [0] (.agg [.I r.1.Op,.str r.1.Name,.I r.1.Int,.str r.1.Text,.ro .Ae r.1.Kids]) [(0,.raw [.ro .Ak r.2.l,.I r.2.at_,.B r.2.bad])] :=
 eo (fn:=Tryz.f53) (n:=55) (m:=100) fun Γ=>Cv.body h
structure Dm where
 B9:Aa→Option Int
structure Dm.Ok (R:Dm):Prop where
 B9:∀ {p0:Aa} {r:Int},R.B9 p0=some r→Q5 V P 14 [.agg (Aj p0)] [] [] (.I r) []
theorem B9.okR {R:Dm} (hR:R.Ok) {p0:Aa} {r:Int} (h:R.B9 p0=some r):Rb V P 14 [.agg (Aj p0)] (.I r):=(hR.B9 h).pcall (by kernel_rfl)
def B9.l9 (K:Nat) (R:Dm) (p0:Aa):Nat→Int→Int→Option Int
 | 0,_,_=>none
 | k+1,xt3_9h,xt4_9h=>(if xt4_9h <(p0.Kids.length:Int) then (if (0:Int)≤xt4_9h∧(xt4_9h:Int) <(p0.Kids.length:Int) then (Option.bind (R.B9 (p0.Kids.getD (Int.toNat xt4_9h) B3)) (fun a1=>B9.l9 K R p0 k (IntKind.i64.wrap (xt3_9h+a1)) (IntKind.i64.wrap (xt4_9h+1)))) else none) else some xt3_9h)
def B9.F (K:Nat) (R:Dm) (p0:Aa):Option Int:=(Option.bind (B9.l9 K R p0 K 1 0:Option Int) (fun xt3_9=>some xt3_9))
theorem B9.body {Γ:Rm} {K:Nat} {R:Dm} (hR:R.Ok) {p0:Aa} {r:Int} (h:B9.F K R p0=some r):Ri V P 21 100 Γ (Tryz.f14.body.getD .skip) (Q7 P V Tryz.f14 (.I r) []) ⟨Q6 0 [.agg (Aj p0)],[]⟩:=by
 unfold B9.F at h
 refine Q4 L 200 <| Q4 L 203 <| Qv <| Q4 L 205 <| Q2 <| Qy (Qu.trans (Qu.kk [1,3,4] [200]) (Qu.rr [(200,21900)])) ?_
 refine kp (S':=⟨[(1,.P 21900),(3,.I 1),(4,.I 0)],[(21900,.raw (Aj p0))]⟩) ?_
 obtain ⟨o1,hp1,h⟩:=bind_some h
 refine Ra (Q':=fun e S=>(e=.exit 0∧∃ xt3_9:Int,S=⟨[(3,.I xt3_9)],[]⟩∧xt3_9=o1)) (Rh (fun k S=>∃ xt3_9h:Int,∃ xt4_9h:Int,S=⟨[(1,.P 21900),(3,.I xt3_9h),(4,.I xt4_9h)],[(21900,.raw (Aj p0))]⟩∧B9.l9 K R p0 k xt3_9h xt4_9h=some o1) ?_ ⟨_,_,rfl,hp1⟩) ?_
 ·clear h hp1
  intro k S hS
  obtain ⟨xt3_9h,xt4_9h,rfl,h⟩:=hS
  cases k with
  | zero=>cases h
  | succ k =>
  unfold B9.l9 at h
  refine Qv <| Q4 L 207 ?_
  rcases Qw h with ⟨c1,h⟩ |⟨c1,h⟩
  ·refine tT c1 <| Q0 <| Qv <| Q2 ?_
   obtain ⟨g1,h⟩:=Q1 h
   obtain ⟨a1,h1,h⟩:=bind_some h
   refine rg L 213 [] [(6,.I a1)] [] (Qz g1.1 (Qz g1.2 (Qz (B9.okR hR h1) (Q3 trivial)))) ?_
   refine Tv L 223 [] [] [] (S':=⟨[(1,.P 21900),(3,.I (IntKind.i64.wrap (xt3_9h+a1))),(4,.I (IntKind.i64.wrap (xt4_9h+1)))],[(21900,.raw (Aj p0))]⟩) ?_
   exact ⟨k,Nat.lt_succ_self k,_,_,rfl,h⟩
  refine fF c1 <| ex (S':=⟨[(3,.I xt3_9h)],[]⟩) ?_
  cases h
  exact ⟨rfl,_,rfl,rfl⟩
 ·rintro e S ⟨rfl,xt3_9,rfl,rfl⟩
  refine ⟨_,Qu.refl,?_⟩
  refine Q4 L 227 <| Qx ?_
  cases h
  exact Rd
def Dm.upto (K:Nat):Nat→Dm
 | 0=>⟨fun _=>none⟩
 | k+1=>⟨B9.F K (Dm.upto K k)⟩
theorem Dm.upto_ok (K:Nat):∀ k,(Dm.upto K k).Ok
 | 0=>⟨fun h=>(by cases h)⟩
 | k+1=>⟨fun {p0 r} h=>eo (fn:=Tryz.f14) (n:=21) (m:=100) fun Γ=>B9.body (K:=K) (Dm.upto_ok K k) h⟩
def B9 (K:Nat) (p0:Aa):Option Int:=(Dm.upto K K).B9 p0
theorem B9.okE {K:Nat} {p0:Aa} {r:Int} (h:B9 K p0=some r):Q5 V P 14 [.agg (Aj p0)] [] [] (.I r) []:=(Dm.upto_ok K K).B9 h
theorem B9.ok {K:Nat} {p0:Aa} {r:Int} (h:B9 K p0=some r):Rb V P 14 [.agg (Aj p0)] (.I r):=(B9.okE h).pcall (by kernel_rfl)
structure De where
 B2:Aa→Option Int
structure De.Ok (R:De):Prop where
 B2:∀ {p0:Aa} {r:Int},R.B2 p0=some r→Q5 V P 23 [.agg (Aj p0)] [] [] (.I r) []
theorem B2.okR {R:De} (hR:R.Ok) {p0:Aa} {r:Int} (h:R.B2 p0=some r):Rb V P 23 [.agg (Aj p0)] (.I r):=(hR.B2 h).pcall (by kernel_rfl)
def B2.l9 (K:Nat) (R:De) (p0:Aa):Nat→Int→Int→Option Int
 | 0,_,_=>none
 | k+1,xt3_9h,xt4_9h=>(if xt4_9h <(p0.Kids.length:Int) then (if (0:Int)≤xt4_9h∧(xt4_9h:Int) <(p0.Kids.length:Int) then (Option.bind (R.B2 (p0.Kids.getD (Int.toNat xt4_9h) B3)) (fun a1=>(if a1 > xt3_9h then B2.l9 K R p0 k a1 (IntKind.i64.wrap (xt4_9h+1)) else B2.l9 K R p0 k xt3_9h (IntKind.i64.wrap (xt4_9h+1))))) else none) else some xt3_9h)
def B2.F (K:Nat) (R:De) (p0:Aa):Option Int:=(Option.bind (B2.l9 K R p0 K 0 0:Option Int) (fun xt3_9=>some (IntKind.i64.wrap (xt3_9+1))))
theorem B2.body {Γ:Rm} {K:Nat} {R:De} (hR:R.Ok) {p0:Aa} {r:Int} (h:B2.F K R p0=some r):Ri V P 25 100 Γ (Tryz.f23.body.getD .skip) (Q7 P V Tryz.f23 (.I r) []) ⟨Q6 0 [.agg (Aj p0)],[]⟩:=by
 unfold B2.F at h
 refine Q4 L 200 <| Q4 L 203 <| Qv <| Q4 L 205 <| Q2 <| Qy (Qu.trans (Qu.kk [1,3,4] [200]) (Qu.rr [(200,21900)])) ?_
 refine kp (S':=⟨[(1,.P 21900),(3,.I 0),(4,.I 0)],[(21900,.raw (Aj p0))]⟩) ?_
 obtain ⟨o1,hp1,h⟩:=bind_some h
 refine Ra (Q':=fun e S=>(e=.exit 0∧∃ xt3_9:Int,S=⟨[(3,.I xt3_9)],[]⟩∧xt3_9=o1)) (Rh (fun k S=>∃ xt3_9h:Int,∃ xt4_9h:Int,S=⟨[(1,.P 21900),(3,.I xt3_9h),(4,.I xt4_9h)],[(21900,.raw (Aj p0))]⟩∧B2.l9 K R p0 k xt3_9h xt4_9h=some o1) ?_ ⟨_,_,rfl,hp1⟩) ?_
 ·clear h hp1
  intro k S hS
  obtain ⟨xt3_9h,xt4_9h,rfl,h⟩:=hS
  cases k with
  | zero=>cases h
  | succ k =>
  unfold B2.l9 at h
  refine Qv <| Q4 L 207 ?_
  rcases Qw h with ⟨c1,h⟩ |⟨c1,h⟩
  ·refine tT c1 <| Q0 <| Qv <| Q2 <| Qv ?_
   obtain ⟨g1,h⟩:=Q1 h
   obtain ⟨a1,h1,h⟩:=bind_some h
   refine rg L 213 [] [(5,.I a1)] [] (Qz g1.1 (Qz g1.2 (Qz (B2.okR hR h1) (Q3 trivial)))) ?_
   refine Q4 L 221 ?_
   rcases Qw h with ⟨c2,h⟩ |⟨c2,h⟩
   ·refine tT c2 <| Ul L 225 ?_
    refine Tv L 228 [] [] [] (S':=⟨[(1,.P 21900),(3,.I a1),(4,.I (IntKind.i64.wrap (xt4_9h+1)))],[(21900,.raw (Aj p0))]⟩) ?_
    exact ⟨k,Nat.lt_succ_self k,_,_,rfl,h⟩
   refine fF c2 <| Q0 <| Tv L 228 [] [] [] (S':=⟨[(1,.P 21900),(3,.I xt3_9h),(4,.I (IntKind.i64.wrap (xt4_9h+1)))],[(21900,.raw (Aj p0))]⟩) ?_
   exact ⟨k,Nat.lt_succ_self k,_,_,rfl,h⟩
  refine fF c1 <| ex (S':=⟨[(3,.I xt3_9h)],[]⟩) ?_
  cases h
  exact ⟨rfl,_,rfl,rfl⟩
 ·rintro e S ⟨rfl,xt3_9,rfl,rfl⟩
  refine ⟨_,Qu.refl,?_⟩
  refine Q4 L 232 <| Qx ?_
  cases h
  exact Rd
def De.upto (K:Nat):Nat→De
 | 0=>⟨fun _=>none⟩
 | k+1=>⟨B2.F K (De.upto K k)⟩
theorem De.upto_ok (K:Nat):∀ k,(De.upto K k).Ok
 | 0=>⟨fun h=>(by cases h)⟩
 | k+1=>⟨fun {p0 r} h=>eo (fn:=Tryz.f23) (n:=25) (m:=100) fun Γ=>B2.body (K:=K) (De.upto_ok K k) h⟩
def B2 (K:Nat) (p0:Aa):Option Int:=(De.upto K K).B2 p0
theorem B2.okE {K:Nat} {p0:Aa} {r:Int} (h:B2 K p0=some r):Q5 V P 23 [.agg (Aj p0)] [] [] (.I r) []:=(De.upto_ok K K).B2 h
theorem B2.ok {K:Nat} {p0:Aa} {r:Int} (h:B2 K p0=some r):Rb V P 23 [.agg (Aj p0)] (.I r):=(B2.okE h).pcall (by kernel_rfl)
def Er (K:Nat) (p0:List UInt8) (p1:Bool):Option (Aa×Int×Int):=(Option.bind (Cz K p0) (fun (a1_0,a1_1,a1_2)=>(if a1_2≠0 then some ((⟨0,[],0,[],([]:List Aa)⟩:Aa),a1_1,a1_2) else (Option.bind ((if p1=true then (Option.bind (Cv K (⟨a1_0,0,false⟩:Ad)) (fun (a2_0,a2_1)=>some (a2_1.l,a2_1.at_,a2_1.bad,a2_0.Op,a2_0.Name,a2_0.Int,a2_0.Text,a2_0.Kids))) else (Option.bind (Am K (⟨a1_0,0,false⟩:Ad)) (fun (a3_0,a3_1)=>some (a3_1.l,a3_1.at_,a3_1.bad,a3_0.Op,a3_0.Name,a3_0.Int,a3_0.Text,a3_0.Kids)))):Option ((List Al)×Int×Bool×Int×(List UInt8)×Int×(List UInt8)×(List Aa))) (fun (x23401_0,x23401_1,x23401_2,x23402_0,x23402_1,x23402_2,x23402_3,x23402_4)=>(Option.bind (A7 K (⟨x23401_0,x23401_1,x23401_2⟩:Ad) 0) (fun a4=>(if a4=true then (Option.bind (B9 K (⟨x23402_0,x23402_1,x23402_2,x23402_3,x23402_4⟩:Aa)) (fun a5=>(if a5 > 4000 then some ((⟨0,[],0,[],([]:List Aa)⟩:Aa),0,6) else (Option.bind (B2 K (⟨x23402_0,x23402_1,x23402_2,x23402_3,x23402_4⟩:Aa)) (fun a6=>(if a6 > 40 then some ((⟨0,[],0,[],([]:List Aa)⟩:Aa),0,7) else some ((⟨x23402_0,x23402_1,x23402_2,x23402_3,x23402_4⟩:Aa),0,0))))))) else (if (0:Int)≤x23401_1∧(x23401_1:Int) <(a1_0.length:Int) then some ((⟨0,[],0,[],([]:List Aa)⟩:Aa),(a1_0.getD (Int.toNat x23401_1) Dr).At,29) else none)))))))))
theorem Er.body {Γ:Rm} {K:Nat} {p0:List UInt8} {p1:Bool} {r:Aa×Int×Int} (h:Er K p0 p1=some r):Ri V P 53 100 Γ (Tryz.f27.body.getD .skip) (Q7 P V Tryz.f27 (.tup [.agg [.I r.1.Op,.str r.1.Name,.I r.1.Int,.str r.1.Text,.ro .Ae r.1.Kids],.I r.2.1,.I r.2.2]) []) ⟨Q6 0 [.cv (.str p0),.B p1],[]⟩:=by
 unfold Er at h
 refine Q4 L 200 <| Qv ?_
 obtain ⟨⟨a1_0,a1_1,a1_2⟩,h1,h⟩:=bind_some h
 dsimp only at h
 refine rg L 204 [] [(1,.tup [.cv (.ro .Ak a1_0),.I a1_1,.I a1_2])] [] (R6 (Cz.ok h1)) ?_
 refine Qv <| Q4 L 214 ?_
 rcases Qw h with ⟨c1,h⟩ |⟨c1,h⟩
 ·refine tT c1 <| Q4 L 217 <| Qy (Qu.trans (Qu.kk [4,5,6] [200]) (Qu.rr [(200,100)])) ?_
  refine Qx ?_
  cases h
  exact Rd
 refine fF c1 <| Q0 <| Q4 L 224 <| Q4 L 229 ?_
 obtain ⟨o1,hp1,h⟩:=bind_some h
 refine Qv (Rk (Q':=fun e S=>(e=.normal∧∃ x23401_0:List Al,∃ x23401_1:Int,∃ x23401_2:Bool,∃ x23402_0:Int,∃ x23402_1:List UInt8,∃ x23402_2:Int,∃ x23402_3:List UInt8,∃ x23402_4:List Aa,S=⟨[(4,.P 23400),(7,.cv (.ro .Ak a1_0)),(10,.P 23401),(11,.P 23402)],[(23400,.raw [.I 0,.str [],.I 0,.str [],.N]),(23401,.raw [.ro .Ak x23401_0,.I x23401_1,.B x23401_2]),(23402,.raw [.I x23402_0,.str x23402_1,.I x23402_2,.str x23402_3,.ro .Ae x23402_4])]⟩∧(x23401_0,x23401_1,x23401_2,x23402_0,x23402_1,x23402_2,x23402_3,x23402_4)=o1)) ?_ ?_)
 ·clear h
  replace h:=hp1
  refine Q4 L 233 ?_
  rcases Qw h with ⟨c2,h⟩ |⟨c2,h⟩
  ·refine tt c2 ?_
   obtain ⟨⟨a2_0,a2_1⟩,h2,h⟩:=bind_some h
   dsimp only at h
   refine Q8 (rg L 235 [] [] [(1,(ef [0] [0] (.agg (Aj a2_0)) [(0,.raw (Ac a2_1))] [(0,226)]))] (Q3 (Cv.okE h2)) ⟨rfl,rfl⟩) (Qu.trans (Qu.kk [4,7,10,11] [200,226,230]) (Qu.trans (Qu.rr [(200,23400),(226,23401),(230,23402)]) (Qu.kp (S':=⟨[(4,.P 23400),(7,.cv (.ro .Ak a1_0)),(10,.P 23401),(11,.P 23402)],[(23400,.raw [.I 0,.str [],.I 0,.str [],.N]),(23401,.raw (Ac a2_1)),(23402,.raw (Aj a2_0))]⟩)))) ?_
   cases h
   exact ⟨rfl,_,_,_,_,_,_,_,_,rfl,rfl⟩
  refine fN c2 ?_
  obtain ⟨⟨a3_0,a3_1⟩,h3,h⟩:=bind_some h
  dsimp only at h
  refine Q8 (rg L 239 [] [] [(1,(ef [0] [0] (.agg (Aj a3_0)) [(0,.raw (Ac a3_1))] [(0,226)]))] (Q3 (Am.okE h3)) ⟨rfl,rfl⟩) (Qu.trans (Qu.kk [4,7,10,11] [200,226,230]) (Qu.trans (Qu.rr [(200,23400),(226,23401),(230,23402)]) (Qu.kp (S':=⟨[(4,.P 23400),(7,.cv (.ro .Ak a1_0)),(10,.P 23401),(11,.P 23402)],[(23400,.raw [.I 0,.str [],.I 0,.str [],.N]),(23401,.raw (Ac a3_1)),(23402,.raw (Aj a3_0))]⟩)))) ?_
  cases h
  exact ⟨rfl,_,_,_,_,_,_,_,_,rfl,rfl⟩
 ·rintro e S ⟨rfl,x23401_0,x23401_1,x23401_2,x23402_0,x23402_1,x23402_2,x23402_3,x23402_4,rfl,rfl⟩
  dsimp only at h
  refine Qv <| Qv ?_
  obtain ⟨a4,h4,h⟩:=bind_some h
  refine rg L 243 [] [(1,.B a4)] [] (R6 (A7.ok h4)) ?_
  rcases Qw h with ⟨c3,h⟩ |⟨c3,h⟩
  ·refine ff (b:=(!a4)) (congrArg Bool.not (c3)) ?_
   refine Q0 <| Qv <| Qv ?_
   obtain ⟨a5,h5,h⟩:=bind_some h
   refine rg L 260 [] [(1,.I a5)] [] (R6 (B9.ok h5)) ?_
   rcases Qw h with ⟨c4,h⟩ |⟨c4,h⟩
   ·refine tT c4 <| Q4 L 264 <| Qy (Qu.trans (Qu.kk [4,5,6] [23400]) (Qu.rr [(23400,100)])) ?_
    refine Qx ?_
    cases h
    exact Rd
   refine fF c4 <| Q0 <| Qv <| Qv ?_
   obtain ⟨a6,h6,h⟩:=bind_some h
   refine rg L 269 [] [(1,.I a6)] [] (R6 (B2.ok h6)) ?_
   rcases Qw h with ⟨c5,h⟩ |⟨c5,h⟩
   ·refine tT c5 <| Q4 L 273 <| Qy (Qu.trans (Qu.kk [4,5,6] [23400]) (Qu.rr [(23400,100)])) ?_
    refine Qx ?_
    cases h
    exact Rd
   refine fF c5 <| Q0 <| Q4 L 278 <| Qy (Qu.trans (Qu.kk [4,5,6] [23400]) (Qu.rr [(23400,100)])) ?_
   refine Qx ?_
   cases h
   exact Rd
  refine tt (b:=(!a4)) (congrArg Bool.not (eq_false_of_ne_true c3)) ?_
  refine Qv ?_
  obtain ⟨g1,h⟩:=Q1 h
  refine rd L mixed 247 [] [] [] [23400] 12 (Sj g1.1 g1.2) ?_
  refine Qy (Qu.trans (Qu.kk [4,5,6] [23400]) (Qu.rr [(23400,100)])) ?_
  refine Qx ?_
  cases h
  exact Rd
theorem Er.ok {K:Nat} {p0:List UInt8} {p1:Bool} {r:Aa×Int×Int} (h:Er K p0 p1=some r):Rb V P 27 [.cv (.str p0),.B p1] (.tup [.agg [.I r.1.Op,.str r.1.Name,.I r.1.Int,.str r.1.Text,.ro .Ae r.1.Kids],.I r.2.1,.I r.2.2]):=Q5.pcall (eo (fn:=Tryz.f27) (n:=53) (m:=100) fun Γ=>Er.body h) (by kernel_rfl)
def Ew (K:Nat) (p0:List UInt8):Option (Aa×Int×Int):=(Option.bind (Er K p0 false) (fun (a1_0,a1_1,a1_2)=>some (a1_0,a1_1,a1_2)))
theorem Ew.body {Γ:Rm} {K:Nat} {p0:List UInt8} {r:Aa×Int×Int} (h:Ew K p0=some r):Ri V P 10 100 Γ (Tryz.f16.body.getD .skip) (Q7 P V Tryz.f16 (.tup [.agg [.I r.1.Op,.str r.1.Name,.I r.1.Int,.str r.1.Text,.ro .Ae r.1.Kids],.I r.2.1,.I r.2.2]) []) ⟨Q6 0 [.cv (.str p0)],[]⟩:=by
 unfold Ew at h
 refine Q4 L 200 <| Qv ?_
 obtain ⟨⟨a1_0,a1_1,a1_2⟩,h1,h⟩:=bind_some h
 dsimp only at h
 refine rg L 204 [] [(1,.tup [.agg (Aj a1_0),.I a1_1,.I a1_2])] [] (R6 (Er.ok h1)) ?_
 refine Qy (Qu.trans (Qu.kk [2,3,4] [200]) (Qu.rr [(200,100)])) ?_
 refine Qx ?_
 cases h
 exact Rd
theorem Ew.ok {K:Nat} {p0:List UInt8} {r:Aa×Int×Int} (h:Ew K p0=some r):Rb V P 16 [.cv (.str p0)] (.tup [.agg [.I r.1.Op,.str r.1.Name,.I r.1.Int,.str r.1.Text,.ro .Ae r.1.Kids],.I r.2.1,.I r.2.2]):=Q5.pcall (eo (fn:=Tryz.f16) (n:=10) (m:=100) fun Γ=>Ew.body h) (by kernel_rfl)
def Ez (K:Nat) (p0:Aa):Option Bool:=(Option.bind (Ex K p0) (fun a1=>(if a1=true then (Option.bind (Bk K p0) (fun a2=>some a2)) else some false)))
theorem Ez.body {Γ:Rm} {K:Nat} {p0:Aa} {r:Bool} (h:Ez K p0=some r):Ri V P 9 100 Γ (Tryz.f17.body.getD .skip) (Q7 P V Tryz.f17 (.B r) []) ⟨Q6 0 [.agg (Aj p0)],[]⟩:=by
 unfold Ez at h
 refine Q4 L 200 <| Qv ?_
 obtain ⟨a1,h1,h⟩:=bind_some h
 rcases Qw h with ⟨c1,h⟩ |⟨c1,h⟩
 ·obtain ⟨a2,h2,h⟩:=bind_some h
  refine rg L 203 [(2,true)] [(1,.B a1),(4,.B a2)] [] (Qz (Ex.ok h1) (Qz trivial (Qz c1 (Qz (Bk.ok h2) (Q3 trivial))))) ?_
  refine Qx ?_
  cases h
  exact Rd
 refine rg L 203 [(2,false)] [(1,.B a1)] [] (Qz (Ex.ok h1) (Qz trivial (Q3 (eq_false_of_ne_true c1)))) ?_
 refine Qx ?_
 cases h
 exact Rd
theorem Ez.ok {K:Nat} {p0:Aa} {r:Bool} (h:Ez K p0=some r):Rb V P 17 [.agg (Aj p0)] (.B r):=Q5.pcall (eo (fn:=Tryz.f17) (n:=9) (m:=100) fun Γ=>Ez.body h) (by kernel_rfl)
def D3 (K:Nat) (p0:List UInt8):Option Bool:=(if (p0.length:Int) > 20000 then (Option.bind (D5 K) (fun a1=>some a1)) else (Option.bind (E8 K p0) (fun (a2_0,a2_1,a2_2)=>(Option.bind (Ew K p0) (fun (a3_0,a3_1,a3_2)=>(if a2_2=a3_2 then (if a2_1=a3_1 then (Option.bind (Bh K a2_0 a3_0) (fun a4=>(if a4=true then (if a2_2≠0 then (Option.bind (D5 K) (fun a5=>some a5)) else (Option.bind (Ez K a2_0) (fun a6=>(if a6=true then (Option.bind (D5 K) (fun a7=>some a7)) else some false)))) else some false))) else some false) else some false))))))
theorem D3.body {Γ:Rm} {K:Nat} {p0:List UInt8} {r:Bool} (h:D3 K p0=some r):Ri V P 49 100 Γ (Tryz.f6.body.getD .skip) (Q7 P V Tryz.f6 (.B r) []) ⟨Q6 0 [.cv (.str p0)],[]⟩:=by
 unfold D3 at h
 refine Q4 L 200 <| Qv <| Q4 L 202 ?_
 rcases Qw h with ⟨c1,h⟩ |⟨c1,h⟩
 ·refine tT c1 <| Qv ?_
  obtain ⟨a1,h1,h⟩:=bind_some h
  refine rg L 206 [] [(0,.B a1)] [] (R6 (D5.ok h1)) ?_
  refine Qx ?_
  cases h
  exact Rd
 refine fF c1 <| Q0 <| Qv ?_
 obtain ⟨⟨a2_0,a2_1,a2_2⟩,h2,h⟩:=bind_some h
 dsimp only at h
 refine rg L 209 [] [(1,.tup [.agg (Aj a2_0),.I a2_1,.I a2_2])] [] (R6 (E8.ok h2)) ?_
 refine Qv ?_
 obtain ⟨⟨a3_0,a3_1,a3_2⟩,h3,h⟩:=bind_some h
 dsimp only at h
 refine rg L 220 [] [(1,.tup [.agg (Aj a3_0),.I a3_1,.I a3_2])] [] (R6 (Ew.ok h3)) ?_
 refine Qv ?_
 rcases Qw h with ⟨c2,h⟩ |⟨c2,h⟩
 ·rcases Qw h with ⟨c3,h⟩ |⟨c3,h⟩
  ·obtain ⟨a4,h4,h⟩:=bind_some h
   rcases Qw h with ⟨c4,h⟩ |⟨c4,h⟩
   ·rcases Qw h with ⟨c5,h⟩ |⟨c5,h⟩
    ·obtain ⟨a5,h5,h⟩:=bind_some h
     refine rg L 231 [(3,true),(8,true),(13,true),(16,true)] [(11,.B a4),(22,.B a5)] [] (Qz (decide_eq_true c2) (Qz (decide_eq_true c3) (Qz (Bh.ok h4) (Qz trivial (Qz c4 (Qz (decide_eq_true c5) (Qz (D5.ok h5) (Q3 trivial)))))))) ?_
     refine Qx ?_
     cases h
     exact Rd
    obtain ⟨a6,h6,h⟩:=bind_some h
    rcases Qw h with ⟨c6,h⟩ |⟨c6,h⟩
    ·obtain ⟨a7,h7,h⟩:=bind_some h
     refine rg L 231 [(3,true),(8,true),(13,true),(16,false),(21,true)] [(11,.B a4),(18,.B a6),(22,.B a7)] [] (Qz (decide_eq_true c2) (Qz (decide_eq_true c3) (Qz (Bh.ok h4) (Qz trivial (Qz c4 (Qz (decide_eq_false c5) (Qz (Ez.ok h6) (Qz trivial (Qz c6 (Qz (D5.ok h7) (Q3 trivial))))))))))) ?_
     refine Qx ?_
     cases h
     exact Rd
    refine rg L 231 [(3,true),(8,true),(13,true),(16,false),(21,false)] [(11,.B a4),(18,.B a6)] [] (Qz (decide_eq_true c2) (Qz (decide_eq_true c3) (Qz (Bh.ok h4) (Qz trivial (Qz c4 (Qz (decide_eq_false c5) (Qz (Ez.ok h6) (Qz trivial (Q3 (eq_false_of_ne_true c6)))))))))) ?_
    refine Qx ?_
    cases h
    exact Rd
   refine rg L 231 [(3,true),(8,true),(13,false)] [(11,.B a4)] [] (Qz (decide_eq_true c2) (Qz (decide_eq_true c3) (Qz (Bh.ok h4) (Qz trivial (Q3 (eq_false_of_ne_true c4)))))) ?_
   refine Qx ?_
   cases h
   exact Rd
  refine rg L 231 [(3,true),(8,false)] [] [] (Sj (decide_eq_true c2) (decide_eq_false c3)) ?_
  refine Qx ?_
  cases h
  exact Rd
 refine rg L 231 [(3,false)] [] [] (Q3 (decide_eq_false c2)) ?_
 refine Qx ?_
 cases h
 exact Rd
theorem D3.ok {K:Nat} {p0:List UInt8} {r:Bool} (h:D3 K p0=some r):Rb V P 6 [.cv (.str p0)] (.B r):=Q5.pcall (eo (fn:=Tryz.f6) (n:=49) (m:=100) fun Γ=>D3.body h) (by kernel_rfl)
end Go.Proofs.YtifjagfmfkemmaaGreatDoor
