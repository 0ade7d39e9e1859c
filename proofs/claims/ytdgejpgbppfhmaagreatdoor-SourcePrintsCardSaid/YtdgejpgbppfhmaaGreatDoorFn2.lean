import Derived.Test.YtdgejpgbppfhmaaGreatDoorFn1
set_option linter.unusedVariables false
set_option maxHeartbeats 0
namespace Go.Proofs.YtdgejpgbppfhmaaGreatDoor
open Eng open Go.IntKind (i64 u8 i32)
def Db.l7 (K:Nat) (R:A2) (p0:List Aa):Nat→Int→Option (Ty Int Unit)
 | 0,_=>none
 | k+1,a=>(if a <(p0.length:Int) then (if (0:Int)≤a∧(a:Int) <(p0.length:Int) then ((R.Er (p0.getD (Int.toNat a) Ah)).bind fun a1=>(if a1=true then some (Ty.done a) else Db.l7 K R p0 k (i64.wrap (a+1)))) else none) else some (Ty.go ()))
def Db.F (K:Nat) (R:A2) (p0:List Aa):Option Int:=(Ub (Db.l7 K R p0 K 0:Option (Ty Int Unit)) (fun r=>r) (fun _=>some (-1)))
theorem Db.body {Γ:Ue} {K:Nat} {R:A2} (hR:R.Ok) {p0:List Aa} {r:Int} (h:Db.F K R p0=some r):Uc V P 19 100 Γ (Tryz.f112.body.getD .skip) (T2 P V Tryz.f112 (.I r) []) ⟨T0 0 [.cv (.ro .Af p0),.cv (.fn (.func 74) [] [.pcs [.fn (.func 44) [] []] 0])],[]⟩:=by
 unfold Db.F at h;refine Tt L 200 <| Tm <| Tt L 202 <| Ts <| kp (S':=⟨[(0,.cv (.ro .Af p0)),(1,.cv (.fn (.func 74) [] [.pcs [.fn (.func 44) [] []] 0])),(7,.I (p0.length:Int)),(8,.I 0)],[]⟩) ?_;obtain ⟨o1,hp1,h⟩:=T7 h;refine Tx (Q':=fun e S=>(e=.exit 0∧S=⟨[],[]⟩∧Ty.go ()=o1)∨(e=.ret∧∃ a,Ty.done a=o1∧T2 P V Tryz.f112 (.I a) [] .ret S)) (T4 (fun k S=>∃ b:Int,S=⟨[(0,.cv (.ro .Af p0)),(1,.cv (.fn (.func 74) [] [.pcs [.fn (.func 44) [] []] 0])),(7,.I (p0.length:Int)),(8,.I b)],[]⟩∧Db.l7 K R p0 k b=some o1) ?_ ⟨_,rfl,hp1⟩) ?_
 ·clear h hp1;intro k S hS;obtain ⟨b,rfl,h⟩:=hS;cases k with
  | zero=>cases h
  | succ k =>
  unfold Db.l7 at h;refine Tt L 206 <| Tm <| iS h (fun c1 h=>tT c1 <| Tq <| Tm <| Ts <| Tt L 208 <| Tm <| gS h fun g1 h=>bS h fun a1 h1 h=>rg L 211 [] [(5,.B a1)] [] (Tp g1.1 (Tp g1.2 (Tp (pc (hR.Er h1)) (Tu trivial)))) <| iS h (fun c2 h=>tt c2 <| Tt L 218 <| To <| sJ h ▸ (ei Tv)) fun c2 h=>fN c2 <| Tq <| Vd L 221 [] [] [] (S':=⟨[(0,.cv (.ro .Af p0)),(1,.cv (.fn (.func 74) [] [.pcs [.fn (.func 44) [] []] 0])),(7,.I (p0.length:Int)),(8,.I (i64.wrap (b+1)))],[]⟩) <|⟨k,Nat.lt_succ_self k,_,rfl,h⟩) fun c1 h=>fF c1 <| ex (S':=⟨[],[]⟩) ?_
  cases h;exact .inl ⟨rfl,rfl,rfl⟩
 ·rintro e S (⟨rfl,rfl,rfl⟩ |⟨rfl,a,rfl,hr⟩)
  ·rcases h with ⟨_,e1,h⟩ |⟨_,e1,h⟩
   ·cases e1
   ·have e2:=Ty.go.inj e1;subst e2;refine ⟨_,Tn.refl,?_⟩;exact Tt L 224 <| To <| sJ h ▸ Tv
  ·rcases h with ⟨_,e1,h⟩ |⟨_,e1,h⟩
   ·have e2:=Ty.done.inj e1;subst e2;subst h;exact ⟨_,Tn.refl,hr⟩
   ·cases e1
def D0.F (K:Nat) (R:A2) (p0:List Aa):Option Bool:=((R.Db p0).bind fun a1=>some (decide (a1≥0)))
theorem D0.body {Γ:Ue} {K:Nat} {R:A2} (hR:R.Ok) {p0:List Aa} {r:Bool} (h:D0.F K R p0=some r):Uc V P 9 100 Γ (Tryz.f73.body.getD .skip) (T2 P V Tryz.f73 (.B r) []) ⟨T0 0 [.cv (.ro .Af p0),.cv (.fn (.func 74) [] [.pcs [.fn (.func 44) [] []] 0])],[]⟩:=by
 unfold D0.F at h;exact Tt L 200 <| Tm <| bS h fun a1 h1 h=>rg L 202 [] [(2,.I a1)] [] (Uq (pc (hR.Db h1))) <| To <| sJ h ▸ Tv
def D4.F (K:Nat) (R:A2) (p0:List Aa):Option Bool:=((R.D0 p0).bind fun a1=>some (!a1))
theorem D4.body {Γ:Ue} {K:Nat} {R:A2} (hR:R.Ok) {p0:List Aa} {r:Bool} (h:D4.F K R p0=some r):Uc V P 9 100 Γ (Tryz.f35.body.getD .skip) (T2 P V Tryz.f35 (.B r) []) ⟨T0 0 [.cv (.ro .Af p0),.cv (.fn (.func 44) [] [])],[]⟩:=by
 unfold D4.F at h;exact Tt L 200 <| Tm <| bS h fun a1 h1 h=>rg L 203 [] [(2,.B a1)] [] (Uq (pc (hR.D0 h1))) <| To <| sJ h ▸ Tv
def Bq.F (K:Nat) (R:A2) (p0:Aa):Option Bool:=(((if p0.Op=1 then some true else (if p0.Op=2 then some true else some (decide (p0.Op=3)))):Option Bool).bind fun d=>(if d=true then (if (p0.Kids.length:Int)=0 then ((A5 K p0 false false false).bind fun a1=>some a1) else some false) else (if p0.Op=4 then (if (p0.Kids.length:Int)=0 then ((A5 K p0 false false true).bind fun a2=>(if a2=true then some (decide (p0.Int≥0)) else some false)) else some false) else (if p0.Op=5 then (if (p0.Kids.length:Int)=0 then ((A5 K p0 false true false).bind fun a3=>(if a3=true then some (decide ((p0.Text.length:Int)≤4096)) else some false)) else some false) else (if p0.Op=6 then (if (p0.Kids.length:Int)=0 then ((A5 K p0 true false false).bind fun a4=>(if a4=true then ((Ca K p0.Name).bind fun a5=>some a5) else some false)) else some false) else (if p0.Op=8 then ((A5 K p0 false false false).bind fun a6=>(if a6=true then ((R.Fx p0.Kids).bind fun a7=>some a7) else some false)) else (if p0.Op=7 then ((A5 K p0 false false false).bind fun a8=>(if a8=true then ((R.D4 p0.Kids).bind fun a9=>some a9) else some false)) else (((if p0.Op=10 then some true else some (decide (p0.Op=11))):Option Bool).bind fun c=>(if c=true then ((A5 K p0 true false false).bind fun a10=>(if a10=true then ((Ca K p0.Name).bind fun a11=>(if a11=true then ((R.D4 p0.Kids).bind fun a12=>some a12) else some false)) else some false)) else (if p0.Op=29 then (if (p0.Kids.length:Int)=1 then ((A5 K p0 true false false).bind fun a13=>(if a13=true then ((Ca K p0.Name).bind fun a14=>(if a14=true then (if (0:Int) <(p0.Kids.length:Int) then ((R.Bq (p0.Kids.getD (Int.toNat 0) Ah)).bind fun a15=>some a15) else none) else some false)) else some false)) else some false) else (((if p0.Op=12 then some true else (if p0.Op=13 then some true else some (decide (p0.Op=14)))):Option Bool).bind fun a=>(if a=true then (if (p0.Kids.length:Int)=1 then ((A5 K p0 false false false).bind fun a16=>(if a16=true then (if (0:Int) <(p0.Kids.length:Int) then ((R.Bq (p0.Kids.getD (Int.toNat 0) Ah)).bind fun a17=>some a17) else none) else some false)) else some false) else (((if p0.Op≥15 then some (decide (p0.Op≤28)) else some false):Option Bool).bind fun b=>(if b=true then (if (p0.Kids.length:Int)=2 then ((A5 K p0 false false false).bind fun a18=>(if a18=true then ((R.D4 p0.Kids).bind fun a19=>some a19) else some false)) else some false) else some false))))))))))))))
theorem Bq.body {Γ:Ue} {K:Nat} {R:A2} (hR:R.Ok) {p0:Aa} {r:Bool} (h:Bq.F K R p0=some r):Uc V P 172 100 Γ (Tryz.f44.body.getD .skip) (T2 P V Tryz.f44 (.B r) []) ⟨T0 0 [.agg (Ag p0)],[]⟩:=by
 unfold Bq.F at h;refine Tt L 200 <| Tt L 203 <| Tm <| Tt L 208 <| Ts <| bS h fun o1 hp1 h=>Tm (T8 (Q':=fun e S=>(e=.normal∧∃ d:Bool,S=⟨[(1,.P 21800),(3,.I (p0.Kids.length:Int)),(4,.I p0.Op),(10,.B d)],[(21800,.raw (Ag p0))]⟩∧d=o1)) ?_ ?_)
 ·clear h;replace h:=hp1;refine iS h (fun c1 h=>?_) fun c1 h=>?_
  ·refine Tw (rg L 212 [(2,true)] [] [] (Tu (Gt c1)) ⟨rfl,rfl⟩) (Tn.trans (Tn.kk [1,3,4,10] [200]) (Tn.trans (Tn.rr [(200,21800)]) (Tn.kp (S':=⟨[(1,.P 21800),(3,.I (p0.Kids.length:Int)),(4,.I p0.Op),(10,.B true)],[(21800,.raw (Ag p0))]⟩)))) ?_;cases h;exact ⟨rfl,_,rfl,rfl⟩
  refine iS h (fun c2 h=>?_) fun c2 h=>?_
  ·refine Tw (rg L 212 [(2,false),(6,true)] [] [] (Ur (Lt c1) (Gt c2)) ⟨rfl,rfl⟩) (Tn.trans (Tn.kk [1,3,4,10] [200]) (Tn.trans (Tn.rr [(200,21800)]) (Tn.kp (S':=⟨[(1,.P 21800),(3,.I (p0.Kids.length:Int)),(4,.I p0.Op),(10,.B true)],[(21800,.raw (Ag p0))]⟩)))) ?_;cases h;exact ⟨rfl,_,rfl,rfl⟩
  refine Tw (rg L 212 [(2,false),(6,false)] [] [] (Ur (Lt c1) (Lt c2)) ⟨rfl,rfl⟩) (Tn.trans (Tn.kk [1,3,4,10] [200]) (Tn.trans (Tn.rr [(200,21800)]) (Tn.kp (S':=⟨[(1,.P 21800),(3,.I (p0.Kids.length:Int)),(4,.I p0.Op),(10,.B (decide (p0.Op=3)))],[(21800,.raw (Ag p0))]⟩)))) ?_;cases h;exact ⟨rfl,_,rfl,rfl⟩
 ·rintro e S ⟨rfl,d,rfl,rfl⟩;refine iS h (fun c3 h=>tt c3 <| Tm <| iS h (fun c4 h=>bS h fun a1 h1 h=>rg L 224 [(2,true)] [(4,.B a1)] [] (Tp (Gt c4) (Tp (A5.ok h1) (Tu trivial))) <| To <| sJ h ▸ Tv) fun c4 h=>rg L 224 [(2,false)] [] [] (Tu (Lt c4)) <| To <| sJ h ▸ Tv) fun c3 h=>fN c3 <| Tt L 232 <| iS h (fun c5 h=>tT c5 <| Tm <| iS h (fun c6 h=>bS h fun a2 h2 h=>iS h (fun c7 h=>rg L 236 [(2,true),(6,true)] [(4,.B a2)] [] (Tp (Gt c6) (Tp (A5.ok h2) (Tp trivial (Tu c7)))) <| To <| sJ h ▸ Tv) fun c7 h=>rg L 236 [(2,true),(6,false)] [(4,.B a2)] [] (Tp (Gt c6) (Tp (A5.ok h2) (Tp trivial (Tu (Xs c7))))) <| To <| sJ h ▸ Tv) fun c6 h=>rg L 236 [(2,false)] [] [] (Tu (Lt c6)) <| To <| sJ h ▸ Tv) fun c5 h=>fF c5 <| Tt L 249 <| iS h (fun c8 h=>tT c8 <| Tm <| iS h (fun c9 h=>bS h fun a3 h3 h=>iS h (fun c10 h=>rg L 253 [(2,true),(6,true)] [(4,.B a3)] [] (Tp (Gt c9) (Tp (A5.ok h3) (Tp trivial (Tu c10)))) <| To <| sJ h ▸ Tv) fun c10 h=>rg L 253 [(2,true),(6,false)] [(4,.B a3)] [] (Tp (Gt c9) (Tp (A5.ok h3) (Tp trivial (Tu (Xs c10))))) <| To <| sJ h ▸ Tv) fun c9 h=>rg L 253 [(2,false)] [] [] (Tu (Lt c9)) <| To <| sJ h ▸ Tv) fun c8 h=>fF c8 <| Tt L 267 <| iS h (fun c11 h=>tT c11 <| Tm <| iS h (fun c12 h=>bS h fun a4 h4 h=>iS h (fun c13 h=>bS h fun a5 h5 h=>rg L 271 [(2,true),(6,true)] [(4,.B a4),(9,.B a5)] [] (Tp (Gt c12) (Tp (A5.ok h4) (Tp trivial (Tp c13 (Tp (Ca.ok h5) (Tu trivial)))))) <| To <| sJ h ▸ Tv) fun c13 h=>rg L 271 [(2,true),(6,false)] [(4,.B a4)] [] (Tp (Gt c12) (Tp (A5.ok h4) (Tp trivial (Tu (Xs c13))))) <| To <| sJ h ▸ Tv) fun c12 h=>rg L 271 [(2,false)] [] [] (Tu (Lt c12)) <| To <| sJ h ▸ Tv) fun c11 h=>fF c11 <| Tt L 284 <| iS h (fun c14 h=>tT c14 <| Tm <| bS h fun a6 h6 h=>iS h (fun c15 h=>bS h fun a7 h7 h=>rg L 288 [(2,true)] [(1,.B a6),(5,.B a7)] [] (Tp (A5.ok h6) (Tp trivial (Tp c15 (Tp (pc (hR.Fx h7)) (Tu trivial))))) <| To <| sJ h ▸ Tv) fun c15 h=>rg L 288 [(2,false)] [(1,.B a6)] [] (Tp (A5.ok h6) (Tp trivial (Tu (Xs c15)))) <| To <| sJ h ▸ Tv) fun c14 h=>fF c14 <| Tt L 297 <| iS h (fun c16 h=>tT c16 <| Tm <| bS h fun a8 h8 h=>iS h (fun c17 h=>bS h fun a9 h9 h=>rg L 301 [(2,true)] [(1,.B a8),(5,.B a9)] [] (Tp (A5.ok h8) (Tp trivial (Tp c17 (Tp (pc (hR.D4 h9)) (Tu trivial))))) <| To <| sJ h ▸ Tv) fun c17 h=>rg L 301 [(2,false)] [(1,.B a8)] [] (Tp (A5.ok h8) (Tp trivial (Tu (Xs c17)))) <| To <| sJ h ▸ Tv) fun c16 h=>fF c16 <| bS h fun o2 hp2 h=>Tm (T8 (Q':=fun e S=>(e=.normal∧∃ c:Bool,S=⟨[(1,.P 29000),(3,.I (p0.Kids.length:Int)),(4,.I p0.Op),(90,.B c)],[(29000,.raw (Ag p0))]⟩∧c=o2)) ?_ ?_)
  ·clear h;replace h:=hp2;refine iS h (fun c18 h=>?_) fun c18 h=>?_
   ·refine Tw (rg L 310 [(2,true)] [] [] (Tu (Gt c18)) ⟨rfl,rfl⟩) (Tn.trans (Tn.kk [1,3,4,90] [21800]) (Tn.trans (Tn.rr [(21800,29000)]) (Tn.kp (S':=⟨[(1,.P 29000),(3,.I (p0.Kids.length:Int)),(4,.I p0.Op),(90,.B true)],[(29000,.raw (Ag p0))]⟩)))) ?_;cases h;exact ⟨rfl,_,rfl,rfl⟩
   refine Tw (rg L 310 [(2,false)] [] [] (Tu (Lt c18)) ⟨rfl,rfl⟩) (Tn.trans (Tn.kk [1,3,4,90] [21800]) (Tn.trans (Tn.rr [(21800,29000)]) (Tn.kp (S':=⟨[(1,.P 29000),(3,.I (p0.Kids.length:Int)),(4,.I p0.Op),(90,.B (decide (p0.Op=11)))],[(29000,.raw (Ag p0))]⟩)))) ?_;cases h;exact ⟨rfl,_,rfl,rfl⟩
  ·rintro e S ⟨rfl,c,rfl,rfl⟩;refine iS h (fun c19 h=>tt c19 <| Tm <| bS h fun a10 h10 h=>iS h (fun c20 h=>bS h fun a11 h11 h=>iS h (fun c21 h=>bS h fun a12 h12 h=>rg L 318 [(2,true),(7,true)] [(1,.B a10),(5,.B a11),(10,.B a12)] [] (Tp (A5.ok h10) (Tp trivial (Tp c20 (Tp (Ca.ok h11) (Tp trivial (Tp c21 (Tp (pc (hR.D4 h12)) (Tu trivial)))))))) <| To <| sJ h ▸ Tv) fun c21 h=>rg L 318 [(2,true),(7,false)] [(1,.B a10),(5,.B a11)] [] (Tp (A5.ok h10) (Tp trivial (Tp c20 (Tp (Ca.ok h11) (Tp trivial (Tu (Xs c21))))))) <| To <| sJ h ▸ Tv) fun c20 h=>rg L 318 [(2,false)] [(1,.B a10)] [] (Tp (A5.ok h10) (Tp trivial (Tu (Xs c20)))) <| To <| sJ h ▸ Tv) fun c19 h=>fN c19 <| Tt L 332 <| iS h (fun c22 h=>tT c22 <| Tm <| iS h (fun c23 h=>bS h fun a13 h13 h=>iS h (fun c24 h=>bS h fun a14 h14 h=>iS h (fun c25 h=>gS h fun g1 h=>bS h fun a15 h15 h=>rg L 336 [(2,true),(6,true),(11,true)] [(4,.B a13),(9,.B a14),(16,.B a15)] [] (Tp (Gt c23) (Tp (A5.ok h13) (Tp trivial (Tp c24 (Tp (Ca.ok h14) (Tp trivial (Tp c25 (Tp (show (0:Int)≤0 from by decide) (Tp g1 (Tp (pc (hR.Bq h15)) (Tu trivial))))))))))) <| To <| sJ h ▸ Tv) fun c25 h=>rg L 336 [(2,true),(6,true),(11,false)] [(4,.B a13),(9,.B a14)] [] (Tp (Gt c23) (Tp (A5.ok h13) (Tp trivial (Tp c24 (Tp (Ca.ok h14) (Tp trivial (Tu (Xs c25)))))))) <| To <| sJ h ▸ Tv) fun c24 h=>rg L 336 [(2,true),(6,false)] [(4,.B a13)] [] (Tp (Gt c23) (Tp (A5.ok h13) (Tp trivial (Tu (Xs c24))))) <| To <| sJ h ▸ Tv) fun c23 h=>rg L 336 [(2,false)] [] [] (Tu (Lt c23)) <| To <| sJ h ▸ Tv) fun c22 h=>fF c22 <| bS h fun o3 hp3 h=>Tm (T8 (Q':=fun e S=>(e=.normal∧∃ a:Bool,S=⟨[(1,.P 31400),(3,.I (p0.Kids.length:Int)),(4,.I p0.Op),(130,.B a)],[(31400,.raw (Ag p0))]⟩∧a=o3)) ?_ ?_)
   ·clear h;replace h:=hp3;refine iS h (fun c26 h=>?_) fun c26 h=>?_
    ·refine Tw (rg L 356 [(2,true)] [] [] (Tu (Gt c26)) ⟨rfl,rfl⟩) (Tn.trans (Tn.kk [1,3,4,130] [29000]) (Tn.trans (Tn.rr [(29000,31400)]) (Tn.kp (S':=⟨[(1,.P 31400),(3,.I (p0.Kids.length:Int)),(4,.I p0.Op),(130,.B true)],[(31400,.raw (Ag p0))]⟩)))) ?_;cases h;exact ⟨rfl,_,rfl,rfl⟩
    refine iS h (fun c27 h=>?_) fun c27 h=>?_
    ·refine Tw (rg L 356 [(2,false),(6,true)] [] [] (Ur (Lt c26) (Gt c27)) ⟨rfl,rfl⟩) (Tn.trans (Tn.kk [1,3,4,130] [29000]) (Tn.trans (Tn.rr [(29000,31400)]) (Tn.kp (S':=⟨[(1,.P 31400),(3,.I (p0.Kids.length:Int)),(4,.I p0.Op),(130,.B true)],[(31400,.raw (Ag p0))]⟩)))) ?_;cases h;exact ⟨rfl,_,rfl,rfl⟩
    refine Tw (rg L 356 [(2,false),(6,false)] [] [] (Ur (Lt c26) (Lt c27)) ⟨rfl,rfl⟩) (Tn.trans (Tn.kk [1,3,4,130] [29000]) (Tn.trans (Tn.rr [(29000,31400)]) (Tn.kp (S':=⟨[(1,.P 31400),(3,.I (p0.Kids.length:Int)),(4,.I p0.Op),(130,.B (decide (p0.Op=14)))],[(31400,.raw (Ag p0))]⟩)))) ?_;cases h;exact ⟨rfl,_,rfl,rfl⟩
   ·rintro e S ⟨rfl,a,rfl,rfl⟩;refine iS h (fun c28 h=>tt c28 <| Tm <| iS h (fun c29 h=>bS h fun a16 h16 h=>iS h (fun c30 h=>gS h fun g2 h=>bS h fun a17 h17 h=>rg L 368 [(2,true),(6,true)] [(4,.B a16),(11,.B a17)] [] (Tp (Gt c29) (Tp (A5.ok h16) (Tp trivial (Tp c30 (Tp (show (0:Int)≤0 from by decide) (Tp g2 (Tp (pc (hR.Bq h17)) (Tu trivial)))))))) <| To <| sJ h ▸ Tv) fun c30 h=>rg L 368 [(2,true),(6,false)] [(4,.B a16)] [] (Tp (Gt c29) (Tp (A5.ok h16) (Tp trivial (Tu (Xs c30))))) <| To <| sJ h ▸ Tv) fun c29 h=>rg L 368 [(2,false)] [] [] (Tu (Lt c29)) <| To <| sJ h ▸ Tv) fun c28 h=>fN c28 <| bS h fun o4 hp4 h=>Tm (T8 (Q':=fun e S=>(e=.normal∧∃ b:Bool,S=⟨[(1,.P 32600),(3,.I (p0.Kids.length:Int)),(154,.B b)],[(32600,.raw (Ag p0))]⟩∧b=o4)) ?_ ?_)
    ·clear h;replace h:=hp4;refine iS h (fun c31 h=>?_) fun c31 h=>?_
     ·refine Tw (rg L 383 [(2,true)] [] [] (Tu (Gt c31)) ⟨rfl,rfl⟩) (Tn.trans (Tn.kk [1,3,154] [31400]) (Tn.trans (Tn.rr [(31400,32600)]) (Tn.kp (S':=⟨[(1,.P 32600),(3,.I (p0.Kids.length:Int)),(154,.B (decide (p0.Op≤28)))],[(32600,.raw (Ag p0))]⟩)))) ?_;cases h;exact ⟨rfl,_,rfl,rfl⟩
     refine Tw (rg L 383 [(2,false)] [] [] (Tu (Lt c31)) ⟨rfl,rfl⟩) (Tn.trans (Tn.kk [1,3,154] [31400]) (Tn.trans (Tn.rr [(31400,32600)]) (Tn.kp (S':=⟨[(1,.P 32600),(3,.I (p0.Kids.length:Int)),(154,.B false)],[(32600,.raw (Ag p0))]⟩)))) ?_;cases h;exact ⟨rfl,_,rfl,rfl⟩
    ·rintro e S ⟨rfl,b,rfl,rfl⟩;exact iS h (fun c32 h=>tt c32 <| Tm <| iS h (fun c33 h=>bS h fun a18 h18 h=>iS h (fun c34 h=>bS h fun a19 h19 h=>rg L 391 [(2,true),(6,true)] [(4,.B a18),(9,.B a19)] [] (Tp (Gt c33) (Tp (A5.ok h18) (Tp trivial (Tp c34 (Tp (pc (hR.D4 h19)) (Tu trivial)))))) <| To <| sJ h ▸ Tv) fun c34 h=>rg L 391 [(2,true),(6,false)] [(4,.B a18)] [] (Tp (Gt c33) (Tp (A5.ok h18) (Tp trivial (Tu (Xs c34))))) <| To <| sJ h ▸ Tv) fun c33 h=>rg L 391 [(2,false)] [] [] (Tu (Lt c33)) <| To <| sJ h ▸ Tv) fun c32 h=>fN c32 <| Tq <| Tt L 404 <| To <| sJ h ▸ Tv
def A2.upto (K:Nat):Nat→A2
 | 0=>⟨fun _=>none,fun _=>none,fun _=>none,fun _=>none,fun _=>none,fun _=>none,fun _=>none,fun _=>none,fun _=>none,fun _=>none⟩
 | k+1=>⟨Fd.F K (A2.upto K k),Fb.F K (A2.upto K k),Du.F K (A2.upto K k),Ec.F K (A2.upto K k),Fx.F K (A2.upto K k),Er.F K (A2.upto K k),Db.F K (A2.upto K k),D0.F K (A2.upto K k),D4.F K (A2.upto K k),Bq.F K (A2.upto K k)⟩
theorem A2.upto_ok (K:Nat):∀ k,(A2.upto K k).Ok
 | 0=>⟨fun h=>(by cases h),fun h=>(by cases h),fun h=>(by cases h),fun h=>(by cases h),fun h=>(by cases h),fun h=>(by cases h),fun h=>(by cases h),fun h=>(by cases h),fun h=>(by cases h),fun h=>(by cases h)⟩
 | k+1=>⟨fun {p0 r} h=>e2 Tryz.f89 29 100 fun Γ=>Fd.body (K:=K) (A2.upto_ok K k) h,fun {p0 r} h=>e2 Tryz.f74 8 100 fun Γ=>Fb.body (K:=K) (A2.upto_ok K k) h,fun {p0 r} h=>e2 Tryz.f112 19 100 fun Γ=>Du.body (K:=K) (A2.upto_ok K k) h,fun {p0 r} h=>e2 Tryz.f73 9 100 fun Γ=>Ec.body (K:=K) (A2.upto_ok K k) h,fun {p0 r} h=>e2 Tryz.f35 9 100 fun Γ=>Fx.body (K:=K) (A2.upto_ok K k) h,fun {p0 r} h=>e2 Tryz.f74 8 100 fun Γ=>Er.body (K:=K) (A2.upto_ok K k) h,fun {p0 r} h=>e2 Tryz.f112 19 100 fun Γ=>Db.body (K:=K) (A2.upto_ok K k) h,fun {p0 r} h=>e2 Tryz.f73 9 100 fun Γ=>D0.body (K:=K) (A2.upto_ok K k) h,fun {p0 r} h=>e2 Tryz.f35 9 100 fun Γ=>D4.body (K:=K) (A2.upto_ok K k) h,fun {p0 r} h=>e2 Tryz.f44 172 100 fun Γ=>Bq.body (K:=K) (A2.upto_ok K k) h⟩
def Fd (K:Nat) (p0:Aa):Option Bool:=(A2.upto K K).Fd p0
theorem Fd.ok {K:Nat} {p0:Aa} {r:Bool} (h:Fd K p0=some r):Tz V P 89 [.agg (Ag p0)] (.B r):=pc ((A2.upto_ok K K).Fd h)
def Fb (K:Nat) (p0:Aa):Option Bool:=(A2.upto K K).Fb p0
theorem Fb.ok {K:Nat} {p0:Aa} {r:Bool} (h:Fb K p0=some r):Tz V P 74 [.agg (Ag p0),.cv (.pcs [.fn (.func 89) [] []] 0)] (.B r):=pc ((A2.upto_ok K K).Fb h)
def Du (K:Nat) (p0:List Aa):Option Int:=(A2.upto K K).Du p0
theorem Du.ok {K:Nat} {p0:List Aa} {r:Int} (h:Du K p0=some r):Tz V P 112 [.cv (.ro .Af p0),.cv (.fn (.func 74) [] [.pcs [.fn (.func 89) [] []] 0])] (.I r):=pc ((A2.upto_ok K K).Du h)
def Ec (K:Nat) (p0:List Aa):Option Bool:=(A2.upto K K).Ec p0
theorem Ec.ok {K:Nat} {p0:List Aa} {r:Bool} (h:Ec K p0=some r):Tz V P 73 [.cv (.ro .Af p0),.cv (.fn (.func 74) [] [.pcs [.fn (.func 89) [] []] 0])] (.B r):=pc ((A2.upto_ok K K).Ec h)
def Fx (K:Nat) (p0:List Aa):Option Bool:=(A2.upto K K).Fx p0
theorem Fx.ok {K:Nat} {p0:List Aa} {r:Bool} (h:Fx K p0=some r):Tz V P 35 [.cv (.ro .Af p0),.cv (.fn (.func 89) [] [])] (.B r):=pc ((A2.upto_ok K K).Fx h)
def Er (K:Nat) (p0:Aa):Option Bool:=(A2.upto K K).Er p0
theorem Er.ok {K:Nat} {p0:Aa} {r:Bool} (h:Er K p0=some r):Tz V P 74 [.agg (Ag p0),.cv (.pcs [.fn (.func 44) [] []] 0)] (.B r):=pc ((A2.upto_ok K K).Er h)
def Db (K:Nat) (p0:List Aa):Option Int:=(A2.upto K K).Db p0
theorem Db.ok {K:Nat} {p0:List Aa} {r:Int} (h:Db K p0=some r):Tz V P 112 [.cv (.ro .Af p0),.cv (.fn (.func 74) [] [.pcs [.fn (.func 44) [] []] 0])] (.I r):=pc ((A2.upto_ok K K).Db h)
def D0 (K:Nat) (p0:List Aa):Option Bool:=(A2.upto K K).D0 p0
theorem D0.ok {K:Nat} {p0:List Aa} {r:Bool} (h:D0 K p0=some r):Tz V P 73 [.cv (.ro .Af p0),.cv (.fn (.func 74) [] [.pcs [.fn (.func 44) [] []] 0])] (.B r):=pc ((A2.upto_ok K K).D0 h)
def D4 (K:Nat) (p0:List Aa):Option Bool:=(A2.upto K K).D4 p0
theorem D4.ok {K:Nat} {p0:List Aa} {r:Bool} (h:D4 K p0=some r):Tz V P 35 [.cv (.ro .Af p0),.cv (.fn (.func 44) [] [])] (.B r):=pc ((A2.upto_ok K K).D4 h)
def Bq (K:Nat) (p0:Aa):Option Bool:=(A2.upto K K).Bq p0
theorem Bq.ok {K:Nat} {p0:Aa} {r:Bool} (h:Bq K p0=some r):Tz V P 44 [.agg (Ag p0)] (.B r):=pc ((A2.upto_ok K K).Bq h)
def G5 (K:Nat) (p0:Aa):Option Bool:=((Gj K p0).bind fun a1=>(if a1=true then ((Bq K p0).bind fun a2=>some a2) else some false))
theorem G5.ok {K:Nat} {p0:Aa} {r:Bool} (h:G5 K p0=some r):Tz V P 25 [.agg (Ag p0)] (.B r):=pc <| e2 Tryz.f25 9 100 fun Γ=>by
 unfold G5 at h;exact Tt L 200 <| Tm <| bS h fun a1 h1 h=>iS h (fun c1 h=>bS h fun a2 h2 h=>rg L 203 [(2,true)] [(1,.B a1),(4,.B a2)] [] (Tp (Gj.ok h1) (Tp trivial (Tp c1 (Tp (Bq.ok h2) (Tu trivial))))) <| To <| sJ h ▸ Tv) fun c1 h=>rg L 203 [(2,false)] [(1,.B a1)] [] (Tp (Gj.ok h1) (Tp trivial (Tu (Xs c1)))) <| To <| sJ h ▸ Tv
def Gp (K:Nat) (p0:Int):Option (Ge×Int):=(if p0=27 then some (([111,114]:Ge),1) else (if p0=26 then some (([97,110,100]:Ge),2) else (if p0=20 then some (([60]:Ge),4) else (if p0=21 then some (([60,61]:Ge),4) else (if p0=22 then some (([62]:Ge),4) else (if p0=23 then some (([62,61]:Ge),4) else (if p0=24 then some (([61,61]:Ge),4) else (if p0=25 then some (([33,61]:Ge),4) else (if p0=18 then some (([43]:Ge),5) else (if p0=19 then some (([45]:Ge),5) else (if p0=15 then some (([42]:Ge),6) else (if p0=16 then some (([47]:Ge),6) else (if p0=17 then some (([37]:Ge),6) else some (([]:Ge),0))))))))))))))
theorem Gp.ok {K:Nat} {p0:Int} {r:Ge×Int} (h:Gp K p0=some r):Tz V P 45 [.I p0] (.tup [.cv (.str r.1),.I r.2]):=pc <| e2 Tryz.f45 31 100 fun Γ=>by
 unfold Gp at h;exact Tt L 200 <| Tm <| Tt L 203 <| Ts <| Tt L 205 <| iS h (fun c1 h=>tT c1 <| Tt L 208 <| To <| sJ h ▸ Tv) fun c1 h=>fF c1 <| Tt L 211 <| iS h (fun c2 h=>tT c2 <| Tt L 214 <| To <| sJ h ▸ Tv) fun c2 h=>fF c2 <| Tt L 217 <| iS h (fun c3 h=>tT c3 <| Tt L 220 <| To <| sJ h ▸ Tv) fun c3 h=>fF c3 <| Tt L 223 <| iS h (fun c4 h=>tT c4 <| Tt L 226 <| To <| sJ h ▸ Tv) fun c4 h=>fF c4 <| Tt L 229 <| iS h (fun c5 h=>tT c5 <| Tt L 232 <| To <| sJ h ▸ Tv) fun c5 h=>fF c5 <| Tt L 235 <| iS h (fun c6 h=>tT c6 <| Tt L 238 <| To <| sJ h ▸ Tv) fun c6 h=>fF c6 <| Tt L 241 <| iS h (fun c7 h=>tT c7 <| Tt L 244 <| To <| sJ h ▸ Tv) fun c7 h=>fF c7 <| Tt L 247 <| iS h (fun c8 h=>tT c8 <| Tt L 250 <| To <| sJ h ▸ Tv) fun c8 h=>fF c8 <| Tt L 253 <| iS h (fun c9 h=>tT c9 <| Tt L 256 <| To <| sJ h ▸ Tv) fun c9 h=>fF c9 <| Tt L 259 <| iS h (fun c10 h=>tT c10 <| Tt L 262 <| To <| sJ h ▸ Tv) fun c10 h=>fF c10 <| Tt L 265 <| iS h (fun c11 h=>tT c11 <| Tt L 268 <| To <| sJ h ▸ Tv) fun c11 h=>fF c11 <| Tt L 271 <| iS h (fun c12 h=>tT c12 <| Tt L 274 <| To <| sJ h ▸ Tv) fun c12 h=>fF c12 <| Tt L 277 <| iS h (fun c13 h=>tT c13 <| Tt L 280 <| To <| sJ h ▸ Tv) fun c13 h=>fF c13 <| Tq <| Tt L 283 <| To <| sJ h ▸ Tv
def Ht (K:Nat) (p0:Aa):Option Int:=((Gp K p0.Op).bind fun (b,a)=>(if a > 0 then some a else (if p0.Op=13 then some 3 else (if p0.Op=14 then some 7 else (if p0.Op=12 then some 7 else (if p0.Op=11 then some 7 else some 8))))))
theorem Ht.ok {K:Nat} {p0:Aa} {r:Int} (h:Ht K p0=some r):Tz V P 90 [.agg (Ag p0)] (.I r):=pc <| e2 Tryz.f90 22 100 fun Γ=>by
 unfold Ht at h;refine Tt L 200 <| Tm <| Tm ?_;obtain ⟨⟨a,b⟩,h1,h⟩:=bind_some h;exact rg L 203 [] [(2,.tup [.cv (.str a),.I b])] [] (Uq (Gp.ok h1)) <| Tt L 212 <| iS h (fun c1 h=>tT c1 <| Tt L 215 <| To <| sJ h ▸ Tv) fun c1 h=>fF c1 <| Tq <| Tm <| Tt L 218 <| Ts <| Tt L 221 <| iS h (fun c2 h=>tT c2 <| Tt L 224 <| To <| sJ h ▸ Tv) fun c2 h=>fF c2 <| Tm <| Tt L 226 <| iS h (fun c3 h=>tT c3 <| Tq <| tT c3 <| Tt L 235 <| To <| sJ h ▸ Tv) fun c3 h=>fF c3 <| Tt L 229 <| iS h (fun c4 h=>tT c4 <| Tq <| tT c4 <| Tt L 235 <| To <| sJ h ▸ Tv) fun c4 h=>fF c4 <| Wh L 232 <| iS h (fun c5 h=>tT c5 <| Tt L 235 <| To <| sJ h ▸ Tv) fun c5 h=>fF c5 <| Tq <| Tt L 237 <| To <| sJ h ▸ Tv
def E8 (K:Nat) (p0:Int):Option Ge:=(if 0≤p0∧p0 < 256 then (if ([(UInt8.ofNat (Int.toNat p0))]:Ge).length * 1≤140737488355328 then some ([(UInt8.ofNat (Int.toNat p0))]:Ge) else none) else none)
theorem E8.body {Γ:Ue} {K:Nat} {p0:Int} {r:Ge} (h:E8 K p0=some r):Uc V P 17 100 Γ (Tryz.f92.body.getD .skip) (T2 P V Tryz.f92 (.cv (.lit .nilIface)) [(0,.raw [.P 0,.own .Cf 100]),(100,.lst .Cf r)]) ⟨T0 0 [.P 0,.cv (.lit (.int .u8 p0))],[(0,.zr 79 [.pointer none,.slice none 0 0])]⟩:=by
 unfold E8 at h;exact Tt L 200 <| sg L 202 [] [] [(1,(T3 (.tup []) [(0,.raw [.P 0,.N])]))] (Tu H0.okZ) <| Tm <| gS h fun g1 h=>gS h fun g2 h=>rg L 205 [] [] [] (Tp g1.1 (Tp g1.2 (Tp g2 (Tu trivial)))) <| Tt L 217 <| Tr (Tn.trans (Tn.kk [4] [0,212]) (Tn.rr [(0,0),(212,100)])) <| To <| sJ h ▸ Tv
theorem E8.okE {K:Nat} {p0:Int} {r:Ge} (h:E8 K p0=some r):T1 V P 92 [.P 0,.cv (.lit (.int .u8 p0))] [(0,.zr 79 [.pointer none,.slice none 0 0])] [0] (.cv (.lit .nilIface)) [(0,.raw [.P 0,.own .Cf 100]),(100,.lst .Cf r)] :=
 e2 Tryz.f92 17 100 fun Γ=>E8.body h
def Ct (K:Nat) (p0:Int) (p1:Ge):Option Ge:=(if 0≤p0∧p0 < 256 then (if (p1.length+([(UInt8.ofNat (Int.toNat p0))]:Ge).length) * 1≤140737488355328 then some (p1++([(UInt8.ofNat (Int.toNat p0))]:Ge)) else none) else none)
theorem Ct.body {Γ:Ue} {K:Nat} {p0:Int} {p1:Ge} {r:Ge} (h:Ct K p0 p1=some r):Uc V P 17 1 Γ (Tryz.f92.body.getD .skip) (T2 P V Tryz.f92 (.cv (.lit .nilIface)) [(0,.raw [.P 0,.own .Cf 1]),(1,.lst .Cf r)]) ⟨T0 0 [.P 0,.cv (.lit (.int .u8 p0))],[(0,.raw [.P 0,.own .Cf 1]),(1,.lst .Cf p1)]⟩:=by
 unfold Ct at h;exact Tt L 200 <| sg L 202 [] [] [(1,(ef [0,1] [0,1] (.tup []) [(0,.raw [.P 0,.own .Cf 1]),(1,.lst .Cf p1)] [(0,0),(1,1)]))] (Tu (show T1 V P 124 [.P 0] [(0,.raw [.P 0,.own .Cf 1]),(1,.lst .Cf p1)] [0,1] (.tup []) [(0,.raw [.P 0,.own .Cf 1]),(1,.lst .Cf p1)] from H0.okE _ rfl _)) <| Tm <| gS h fun g1 h=>gS h fun g2 h=>rg L 205 [] [] [] (Tp g1.1 (Tp g1.2 (Tp g2 (Tu trivial)))) <| Tt L 217 <| To <| sJ h ▸ Tv
theorem Ct.okE {K:Nat} {p0:Int} {p1:Ge} {r:Ge} (h:Ct K p0 p1=some r):T1 V P 92 [.P 0,.cv (.lit (.int .u8 p0))] [(0,.raw [.P 0,.own .Cf 1]),(1,.lst .Cf p1)] [0] (.cv (.lit .nilIface)) [(0,.raw [.P 0,.own .Cf 1]),(1,.lst .Cf r)] :=
 e2 Tryz.f92 17 1 fun Γ=>Ct.body h
def Dx (K:Nat) (p0:Ge) (p1:Ge):Option (Int×Ge):=(if p1.length+p0.length≤140737488355328 then some ((p0.length:Int),(p1++(p0.map (V.ofB Tag.Cf)))) else none)
theorem Dx.body {Γ:Ue} {K:Nat} {p0:Ge} {p1:Ge} {r:Int×Ge} (h:Dx K p0 p1=some r):Uc V P 19 1 Γ (Tryz.f93.body.getD .skip) (T2 P V Tryz.f93 (.tup [.I r.1,.cv (.lit .nilIface)]) [(0,.raw [.P 0,.own .Cf 1]),(1,.lst .Cf r.2)]) ⟨T0 0 [.P 0,.cv (.str p0)],[(0,.raw [.P 0,.own .Cf 1]),(1,.lst .Cf p1)]⟩:=by
 unfold Dx at h;exact Tt L 200 <| sg L 203 [] [] [(1,(ef [0,1] [0,1] (.tup []) [(0,.raw [.P 0,.own .Cf 1]),(1,.lst .Cf p1)] [(0,0),(1,1)]))] (Tu (show T1 V P 124 [.P 0] [(0,.raw [.P 0,.own .Cf 1]),(1,.lst .Cf p1)] [0,1] (.tup []) [(0,.raw [.P 0,.own .Cf 1]),(1,.lst .Cf p1)] from H0.okE _ rfl _)) <| Tm <| gS h fun g1 h=>rg L 206 [] [] [] (Ur g1 Mk) <| Tt L 217 <| To <| sJ h ▸ Tv
theorem Dx.okE {K:Nat} {p0:Ge} {p1:Ge} {r:Int×Ge} (h:Dx K p0 p1=some r):T1 V P 93 [.P 0,.cv (.str p0)] [(0,.raw [.P 0,.own .Cf 1]),(1,.lst .Cf p1)] [0] (.tup [.I r.1,.cv (.lit .nilIface)]) [(0,.raw [.P 0,.own .Cf 1]),(1,.lst .Cf r.2)] :=
 e2 Tryz.f93 19 1 fun Γ=>Dx.body h
def Fh.l11 (K:Nat) (p0:Ge):Nat→Int→Ge→Option Ge
 | 0,_,_=>none
 | k+1,a,b=>(if a <(p0.length:Int) then (if (0:Int)≤a∧(a:Int) <(p0.length:Int) then ((((if ((p0.getD (Int.toNat a) 0).toNat:Int)=34 then some true else some (decide (((p0.getD (Int.toNat a) 0).toNat:Int)=92)))):Option Bool).bind fun c=>(if c=true then ((Ct K 92 b).bind fun a2=>((Ct K ((p0.getD (Int.toNat a) 0).toNat:Int) a2).bind fun a3=>Fh.l11 K p0 k (i64.wrap (a+1)) a3)) else (if ((p0.getD (Int.toNat a) 0).toNat:Int)=10 then ((Dx K ([92,110]:Ge) b).bind fun (h,e)=>Fh.l11 K p0 k (i64.wrap (a+1)) e) else (if ((p0.getD (Int.toNat a) 0).toNat:Int)=9 then ((Dx K ([92,116]:Ge) b).bind fun (i,f)=>Fh.l11 K p0 k (i64.wrap (a+1)) f) else ((((if ((p0.getD (Int.toNat a) 0).toNat:Int)≥32 then some (decide (((p0.getD (Int.toNat a) 0).toNat:Int)≤126)) else some false)):Option Bool).bind fun d=>(if d=true then ((Ct K ((p0.getD (Int.toNat a) 0).toNat:Int) b).bind fun a6=>Fh.l11 K p0 k (i64.wrap (a+1)) a6) else ((Dx K ([92,120]:Ge) b).bind fun (j,g)=>(if (0:Int)≤(Int.fdiv ((p0.getD (Int.toNat a) 0).toNat:Int) (2 ^ (min (Int.toNat 4) 8)))∧((Int.fdiv ((p0.getD (Int.toNat a) 0).toNat:Int) (2 ^ (min (Int.toNat 4) 8))):Int) <(([48,49,50,51,52,53,54,55,56,57,97,98,99,100,101,102]:Ge).length:Int) then ((Ct K (((([48,49,50,51,52,53,54,55,56,57,97,98,99,100,101,102]:Ge).getD (Int.toNat (Int.fdiv ((p0.getD (Int.toNat a) 0).toNat:Int) (2 ^ (min (Int.toNat 4) 8)))) 0).toNat:Int)) g).bind fun a8=>(if (0:Int)≤(u8.wrap ((BitVec.ofInt 8 ((p0.getD (Int.toNat a) 0).toNat:Int) &&& BitVec.ofInt 8 15).toNat:Int))∧((u8.wrap ((BitVec.ofInt 8 ((p0.getD (Int.toNat a) 0).toNat:Int) &&& BitVec.ofInt 8 15).toNat:Int)):Int) <(([48,49,50,51,52,53,54,55,56,57,97,98,99,100,101,102]:Ge).length:Int) then ((Ct K (((([48,49,50,51,52,53,54,55,56,57,97,98,99,100,101,102]:Ge).getD (Int.toNat ((u8.wrap ((BitVec.ofInt 8 ((p0.getD (Int.toNat a) 0).toNat:Int) &&& BitVec.ofInt 8 15).toNat:Int)))) 0).toNat:Int)) a8).bind fun a9=>Fh.l11 K p0 k (i64.wrap (a+1)) a9) else none)) else none)))))))) else none) else some b)
def Fh (K:Nat) (p0:Ge):Option Ge:=((E8 K 34).bind fun a1=>((Fh.l11 K p0 K 0 a1:Option Ge).bind fun a=>((Ct K 34 a).bind fun a10=>(if 0 < a10.length then some a10 else none))))
theorem Fh.ok {K:Nat} {p0:Ge} {r:Ge} (h:Fh K p0=some r):Tz V P 48 [.cv (.str p0)] (.cv (.str r)):=pc <| e2 Tryz.f48 54 100 fun Γ=>by
 unfold Fh at h;refine Tt L 200 <| Tt L 202 <| Tm <| bS h fun a1 h1 h=>rg L 204 [] [] [(0,(ef [0] [0] (.cv (.lit .nilIface)) [(0,.raw [.P 0,.own .Cf 100]),(100,.lst .Cf a1)] [(0,202),(100,5032)]))] (Tu (E8.okE h1)) <| Tm <| Tt L 206 <| Ts <| Tr (Tn.trans (Tn.kk [0,3,8,9] [202,5032]) (Tn.rr [(202,22300),(5032,22301)])) <| kp (S':=⟨[(0,.cv (.str p0)),(3,.P 22300),(8,.I (p0.length:Int)),(9,.I 0)],[(22300,.raw [.P 22300,.own .Cf 22301]),(22301,.lst .Cf a1)]⟩) <| bS h fun o3 hp3 h=>Tx (Q':=fun e S=>(e=.exit 0∧∃ f:Ge,S=⟨[(3,.P 22200)],[(22200,.raw [.P 22200,.own .Cf 22201]),(22201,.lst .Cf f)]⟩∧f=o3)) (T4 (fun k S=>∃ a:Int,∃ b:Ge,S=⟨[(0,.cv (.str p0)),(3,.P 22300),(8,.I (p0.length:Int)),(9,.I a)],[(22300,.raw [.P 22300,.own .Cf 22301]),(22301,.lst .Cf b)]⟩∧Fh.l11 K p0 k a b=some o3) ?_ ⟨_,_,rfl,hp3⟩) ?_
 ·clear h hp3;intro k S hS;obtain ⟨a,b,rfl,h⟩:=hS;cases k with
  | zero=>cases h
  | succ k =>
  unfold Fh.l11 at h;refine Tt L 210 <| Tm <| iS h (fun c1 h=>?_) fun c1 h=>?_
  ·refine tT c1 <| Tq <| Tm <| Ts <| Tt L 212 <| Tm <| gS h fun g1 h=>rg L 215 [] [] [] (Ur g1.1 g1.2) <| Ts <| bS h fun o1 hp1 h=>Tm (T8 (Q':=fun e S=>(e=.normal∧∃ c:Bool,S=⟨[(0,.cv (.str p0)),(3,.P 25000),(5,.cv (.lit (.int .u8 ((p0.getD (Int.toNat a) 0).toNat:Int)))),(8,.I (p0.length:Int)),(9,.I a),(24,.B c)],[(25000,.raw [.P 25000,.own .Cf 25001]),(25001,.lst .Cf b)]⟩∧c=o1)) ?_ ?_)
   ·clear h;replace h:=hp1;refine iS h (fun c2 h=>?_) fun c2 h=>?_
    ·refine Tw (rg L 220 [(2,true)] [] [] (Tu (Gt c2)) ⟨rfl,rfl⟩) (Tn.trans (Tn.kk [0,3,5,8,9,24] [22300,22301]) (Tn.trans (Tn.rr [(22300,25000),(22301,25001)]) (Tn.kp (S':=⟨[(0,.cv (.str p0)),(3,.P 25000),(5,.cv (.lit (.int .u8 ((p0.getD (Int.toNat a) 0).toNat:Int)))),(8,.I (p0.length:Int)),(9,.I a),(24,.B true)],[(25000,.raw [.P 25000,.own .Cf 25001]),(25001,.lst .Cf b)]⟩)))) ?_;cases h;exact ⟨rfl,_,rfl,rfl⟩
    refine Tw (rg L 220 [(2,false)] [] [] (Tu (Lt c2)) ⟨rfl,rfl⟩) (Tn.trans (Tn.kk [0,3,5,8,9,24] [22300,22301]) (Tn.trans (Tn.rr [(22300,25000),(22301,25001)]) (Tn.kp (S':=⟨[(0,.cv (.str p0)),(3,.P 25000),(5,.cv (.lit (.int .u8 ((p0.getD (Int.toNat a) 0).toNat:Int)))),(8,.I (p0.length:Int)),(9,.I a),(24,.B (decide (((p0.getD (Int.toNat a) 0).toNat:Int)=92)))],[(25000,.raw [.P 25000,.own .Cf 25001]),(25001,.lst .Cf b)]⟩)))) ?_;cases h;exact ⟨rfl,_,rfl,rfl⟩
   ·rintro e S ⟨rfl,c,rfl,rfl⟩;refine iS h (fun c3 h=>tt c3 <| Tm <| bS h fun a2 h2 h=>rg L 228 [] [] [(0,(ef [0,1] [0] (.cv (.lit .nilIface)) [(0,.raw [.P 0,.own .Cf 1]),(1,.lst .Cf a2)] [(0,25000),(1,25001)]))] (Tu (Ct.okE h2)) <| bS h fun a3 h3 h=>rg L 230 [] [] [(1,(ef [0,1] [0] (.cv (.lit .nilIface)) [(0,.raw [.P 0,.own .Cf 1]),(1,.lst .Cf a3)] [(0,25000),(1,25001)]))] (Tu (Ct.okE h3)) <| Tw (Wh L 268 ⟨rfl,rfl⟩) (Tn.trans (Tn.kk [0,3,8,9] [25000,25001]) (Tn.trans (Tn.rr [(25000,22300),(25001,22301)]) (Tn.kp (S':=⟨[(0,.cv (.str p0)),(3,.P 22300),(8,.I (p0.length:Int)),(9,.I (i64.wrap (a+1)))],[(22300,.raw [.P 22300,.own .Cf 22301]),(22301,.lst .Cf a3)]⟩)))) <|⟨k,Nat.lt_succ_self k,_,_,rfl,h⟩) fun c3 h=>fN c3 <| Tt L 233 <| iS h (fun c4 h=>?_) fun c4 h=>?_
    ·refine tT c4 ?_;obtain ⟨⟨j,g⟩,h4,h⟩:=bind_some h;exact rg L 237 [] [] [(0,(ef [0,1] [0] (.tup [.I j,.cv (.lit .nilIface)]) [(0,.raw [.P 0,.own .Cf 1]),(1,.lst .Cf g)] [(0,25000),(1,25001)]))] (Tu (Dx.okE h4)) <| Tw (Wh L 268 ⟨rfl,rfl⟩) (Tn.trans (Tn.kk [0,3,8,9] [25000,25001]) (Tn.trans (Tn.rr [(25000,22300),(25001,22301)]) (Tn.kp (S':=⟨[(0,.cv (.str p0)),(3,.P 22300),(8,.I (p0.length:Int)),(9,.I (i64.wrap (a+1)))],[(22300,.raw [.P 22300,.own .Cf 22301]),(22301,.lst .Cf g)]⟩)))) <|⟨k,Nat.lt_succ_self k,_,_,rfl,h⟩
    refine fF c4 <| Tt L 239 <| iS h (fun c5 h=>?_) fun c5 h=>?_
    ·refine tT c5 ?_;obtain ⟨⟨l,i⟩,h5,h⟩:=bind_some h;exact rg L 243 [] [] [(0,(ef [0,1] [0] (.tup [.I l,.cv (.lit .nilIface)]) [(0,.raw [.P 0,.own .Cf 1]),(1,.lst .Cf i)] [(0,25000),(1,25001)]))] (Tu (Dx.okE h5)) <| Tw (Wh L 268 ⟨rfl,rfl⟩) (Tn.trans (Tn.kk [0,3,8,9] [25000,25001]) (Tn.trans (Tn.rr [(25000,22300),(25001,22301)]) (Tn.kp (S':=⟨[(0,.cv (.str p0)),(3,.P 22300),(8,.I (p0.length:Int)),(9,.I (i64.wrap (a+1)))],[(22300,.raw [.P 22300,.own .Cf 22301]),(22301,.lst .Cf i)]⟩)))) <|⟨k,Nat.lt_succ_self k,_,_,rfl,h⟩
    refine fF c5 <| bS h fun o2 hp2 h=>Tm (T8 (Q':=fun e S=>(e=.normal∧∃ d:Bool,S=⟨[(0,.cv (.str p0)),(3,.P 27800),(5,.cv (.lit (.int .u8 ((p0.getD (Int.toNat a) 0).toNat:Int)))),(8,.I (p0.length:Int)),(9,.I a),(42,.B d)],[(27800,.raw [.P 27800,.own .Cf 27801]),(27801,.lst .Cf b)]⟩∧d=o2)) ?_ ?_)
    ·clear h;replace h:=hp2;refine iS h (fun c6 h=>?_) fun c6 h=>?_
     ·refine Tw (rg L 245 [(2,true)] [] [] (Tu (Gt c6)) ⟨rfl,rfl⟩) (Tn.trans (Tn.kk [0,3,5,8,9,42] [25000,25001]) (Tn.trans (Tn.rr [(25000,27800),(25001,27801)]) (Tn.kp (S':=⟨[(0,.cv (.str p0)),(3,.P 27800),(5,.cv (.lit (.int .u8 ((p0.getD (Int.toNat a) 0).toNat:Int)))),(8,.I (p0.length:Int)),(9,.I a),(42,.B (decide (((p0.getD (Int.toNat a) 0).toNat:Int)≤126)))],[(27800,.raw [.P 27800,.own .Cf 27801]),(27801,.lst .Cf b)]⟩)))) ?_;cases h;exact ⟨rfl,_,rfl,rfl⟩
     refine Tw (rg L 245 [(2,false)] [] [] (Tu (Lt c6)) ⟨rfl,rfl⟩) (Tn.trans (Tn.kk [0,3,5,8,9,42] [25000,25001]) (Tn.trans (Tn.rr [(25000,27800),(25001,27801)]) (Tn.kp (S':=⟨[(0,.cv (.str p0)),(3,.P 27800),(5,.cv (.lit (.int .u8 ((p0.getD (Int.toNat a) 0).toNat:Int)))),(8,.I (p0.length:Int)),(9,.I a),(42,.B false)],[(27800,.raw [.P 27800,.own .Cf 27801]),(27801,.lst .Cf b)]⟩)))) ?_;cases h;exact ⟨rfl,_,rfl,rfl⟩
    ·rintro e S ⟨rfl,d,rfl,rfl⟩;refine iS h (fun c7 h=>tt c7 <| bS h fun a6 h6 h=>rg L 253 [] [] [(1,(ef [0,1] [0] (.cv (.lit .nilIface)) [(0,.raw [.P 0,.own .Cf 1]),(1,.lst .Cf a6)] [(0,27800),(1,27801)]))] (Tu (Ct.okE h6)) <| Tw (Wh L 268 ⟨rfl,rfl⟩) (Tn.trans (Tn.kk [0,3,8,9] [27800,27801]) (Tn.trans (Tn.rr [(27800,22300),(27801,22301)]) (Tn.kp (S':=⟨[(0,.cv (.str p0)),(3,.P 22300),(8,.I (p0.length:Int)),(9,.I (i64.wrap (a+1)))],[(22300,.raw [.P 22300,.own .Cf 22301]),(22301,.lst .Cf a6)]⟩)))) <|⟨k,Nat.lt_succ_self k,_,_,rfl,h⟩) fun c7 h=>fN c7 <| Tm ?_
     obtain ⟨⟨m,n⟩,h7,h⟩:=bind_some h;exact rg L 256 [] [] [(0,(ef [0,1] [0] (.tup [.I m,.cv (.lit .nilIface)]) [(0,.raw [.P 0,.own .Cf 1]),(1,.lst .Cf n)] [(0,27800),(1,27801)]))] (Tu (Dx.okE h7)) <| Tm <| gS h fun g2 h=>bS h fun a8 h8 h=>rg L 258 [] [] [(3,(ef [0,1] [0] (.cv (.lit .nilIface)) [(0,.raw [.P 0,.own .Cf 1]),(1,.lst .Cf a8)] [(0,27800),(1,27801)]))] (Tp (show (0:Int)≤4 from by decide) (Tp g2.1 (Tp g2.2 (Tu (Ct.okE h8))))) <| gS h fun g3 h=>bS h fun a9 h9 h=>rg L 263 [] [] [(3,(ef [0,1] [0] (.cv (.lit .nilIface)) [(0,.raw [.P 0,.own .Cf 1]),(1,.lst .Cf a9)] [(0,27800),(1,27801)]))] (Tp g3.1 (Tp g3.2 (Tu (Ct.okE h9)))) <| Tw (Wh L 268 ⟨rfl,rfl⟩) (Tn.trans (Tn.kk [0,3,8,9] [27800,27801]) (Tn.trans (Tn.rr [(27800,22300),(27801,22301)]) (Tn.kp (S':=⟨[(0,.cv (.str p0)),(3,.P 22300),(8,.I (p0.length:Int)),(9,.I (i64.wrap (a+1)))],[(22300,.raw [.P 22300,.own .Cf 22301]),(22301,.lst .Cf a9)]⟩)))) <|⟨k,Nat.lt_succ_self k,_,_,rfl,h⟩
  refine fF c1 <| Tr (Tn.trans (Tn.kk [3] [22300,22301]) (Tn.rr [(22300,22200),(22301,22201)])) <| ex (S':=⟨[(3,.P 22200)],[(22200,.raw [.P 22200,.own .Cf 22201]),(22201,.lst .Cf b)]⟩) ?_;cases h;exact ⟨rfl,_,rfl,rfl⟩
 ·rintro e S ⟨rfl,f,rfl,rfl⟩;refine ⟨_,Tn.refl,?_⟩;exact Tm <| bS h fun a10 h10 h=>rg L 271 [] [] [(0,(ef [0,1] [0] (.cv (.lit .nilIface)) [(0,.raw [.P 0,.own .Cf 1]),(1,.lst .Cf a10)] [(0,22200),(1,22201)]))] (Tu (Ct.okE h10)) <| Tm <| gS h fun g4 h=>rg L 273 [] [] [(0,(ef [0,1] [] (.cv (.str a10)) [] [(0,22200),(1,22201)]))] (Tu (Builder_String.okE g4)) <| To <| sJ h ▸ Tv
structure Dv where
 Dy:Aa→Int→Option Ge
 Dz:(List Aa)→Option Ge
 C0:Aa→Option Ge
structure Dv.Ok (R:Dv):Prop where
 Dy:∀ {p0:Aa} {p1:Int} {r:Ge},R.Dy p0 p1=some r→T1 V P 46 [.agg (Ag p0),.I p1] [] [] (.cv (.str r)) []
 Dz:∀ {p0:List Aa} {r:Ge},R.Dz p0=some r→T1 V P 37 [.cv (.ro .Af p0)] [] [] (.cv (.str r)) []
 C0:∀ {p0:Aa} {r:Ge},R.C0 p0=some r→T1 V P 26 [.agg (Ag p0)] [] [] (.cv (.str r)) []
def Dy.F (K:Nat) (R:Dv) (p0:Aa) (p1:Int):Option Ge:=((Ht K p0).bind fun a1=>(if a1 < p1 then ((R.C0 p0).bind fun a2=>(if ([40]:Ge).length+a2.length≤9223372036854775807 then (if (([40]:Ge)++a2).length+([41]:Ge).length≤9223372036854775807 then some ((([40]:Ge)++a2)++([41]:Ge)) else none) else none)) else ((R.C0 p0).bind fun a3=>some a3)))
theorem Dy.body {Γ:Ue} {K:Nat} {R:Dv} (hR:R.Ok) {p0:Aa} {p1:Int} {r:Ge} (h:Dy.F K R p0 p1=some r):Uc V P 15 100 Γ (Tryz.f46.body.getD .skip) (T2 P V Tryz.f46 (.cv (.str r)) []) ⟨T0 0 [.agg (Ag p0),.I p1],[]⟩:=by
 unfold Dy.F at h;exact Tt L 200 <| Tm <| Tm <| bS h fun a1 h1 h=>rg L 203 [] [(1,.I a1)] [] (Uq (Ht.ok h1)) <| iS h (fun c1 h=>tT c1 <| Tm <| bS h fun a2 h2 h=>gS h fun g1 h=>gS h fun g2 h=>rg L 208 [] [(1,.cv (.str a2))] [] (Tp (pc (hR.C0 h2)) (Tp trivial (Tp g1 (Tu g2)))) <| To <| sJ h ▸ Tv) fun c1 h=>fF c1 <| Tq <| Tm <| bS h fun a3 h3 h=>rg L 214 [] [(1,.cv (.str a3))] [] (Uq (pc (hR.C0 h3))) <| To <| sJ h ▸ Tv
def Dz.l9 (K:Nat) (R:Dv) (p0:List Aa):Nat→Int→(List Ge)→Option (List Ge)
 | 0,_,_=>none
 | k+1,a,b=>(if a <(p0.length:Int) then (if (0:Int)≤a∧(a:Int) <(p0.length:Int) then ((R.C0 (p0.getD (Int.toNat a) Ah)).bind fun a1=>(if (b.length+([a1]:List Ge).length) * 16≤140737488355328 then Dz.l9 K R p0 k (i64.wrap (a+1)) (b++([a1]:List Ge)) else none)) else none) else some b)
def Dz.F (K:Nat) (R:Dv) (p0:List Aa):Option Ge:=((Dz.l9 K R p0 K 0 ([]:List Ge):Option (List Ge)).bind fun a=>(if a.length≤140737488355328∧(Lib.join a ([44,32]:Ge)).length≤140737488355328 then some (Lib.join a ([44,32]:Ge)) else none))
theorem Dz.body {Γ:Ue} {K:Nat} {R:Dv} (hR:R.Ok) {p0:List Aa} {r:Ge} (h:Dz.F K R p0=some r):Uc V P 20 100 Γ (Tryz.f37.body.getD .skip) (T2 P V Tryz.f37 (.cv (.str r)) []) ⟨T0 0 [.cv (.ro .Af p0)],[]⟩:=by
 unfold Dz.F at h;refine Tt L 200 <| Tt L 202 <| Tm <| Tt L 204 <| Ts <| Tr (Tn.trans (Tn.kk [3,6,7,8] []) (Tn.trans (Tn.no 3 9500 Tag.Dr) (Tn.trans (Tn.kk [3,6,7,8] [9500]) (Tn.rr [(9500,21900)])))) <| kp (S':=⟨[(3,.cv (.own .Dr 21900)),(6,.cv (.ro .Af p0)),(7,.I (p0.length:Int)),(8,.I 0)],[(21900,.lst .Dr ([]:List Ge))]⟩) <| bS h fun o1 hp1 h=>Tx (Q':=fun e S=>(e=.exit 0∧∃ a:List Ge,S=⟨[(3,.cv (.own .Dr 21800))],[(21800,.lst .Dr a)]⟩∧a=o1)) (T4 (fun k S=>∃ c:Int,∃ b:List Ge,S=⟨[(3,.cv (.own .Dr 21900)),(6,.cv (.ro .Af p0)),(7,.I (p0.length:Int)),(8,.I c)],[(21900,.lst .Dr b)]⟩∧Dz.l9 K R p0 k c b=some o1) ?_ ⟨_,_,rfl,hp1⟩) ?_
 ·clear h hp1;intro k S hS;obtain ⟨c,b,rfl,h⟩:=hS;cases k with
  | zero=>cases h
  | succ k =>
  unfold Dz.l9 at h;refine Tt L 208 <| Tm <| iS h (fun c1 h=>tT c1 <| Tq <| Tm <| Ts <| Tm <| gS h fun g1 h=>rg L 210 [] [] [] (Ur g1.1 g1.2) <| bS h fun a1 h1 h=>gS h fun g2 h=>rg L 215 [] [(2,.cv (.str a1))] [] (Tp (pc (hR.C0 h1)) (Tp trivial (Tp g2 (Tu trivial)))) <| Vd L 222 [] [] [] (S':=⟨[(3,.cv (.own .Dr 21900)),(6,.cv (.ro .Af p0)),(7,.I (p0.length:Int)),(8,.I (i64.wrap (c+1)))],[(21900,.lst .Dr (b++([a1]:List Ge)))]⟩) <|⟨k,Nat.lt_succ_self k,_,_,rfl,h⟩) fun c1 h=>fF c1 <| Tr (Tn.trans (Tn.kk [3] [21900]) (Tn.rr [(21900,21800)])) <| ex (S':=⟨[(3,.cv (.own .Dr 21800))],[(21800,.lst .Dr b)]⟩) ?_
  cases h;exact ⟨rfl,_,rfl,rfl⟩
 ·rintro e S ⟨rfl,a,rfl,rfl⟩;refine ⟨_,Tn.refl,?_⟩;exact Tm <| gS h fun g3 h=>rg L 225 [] [(1,.cv (.str (Lib.join a ([44,32]:Ge))))] [] (Uq (show Tz V P 79 [.cv (.ro .Dr a),.cv (.str ([44,32]:Ge))] (.cv (.str (Lib.join a ([44,32]:Ge)))) from strings_Join.ok a ([44,32]:Ge) g3.1 g3.2)) <| To <| sJ h ▸ Tv
def C0.F (K:Nat) (R:Dv) (p0:Aa):Option Ge:=((Gp K p0.Op).bind fun (a,b)=>(if b > 0 then (((if b=4 then some 5 else some b):Option Int).bind fun c=>(if (0:Int) <(p0.Kids.length:Int) then ((R.Dy (p0.Kids.getD (Int.toNat 0) Ah) c).bind fun a2=>(if a2.length+([32]:Ge).length≤9223372036854775807 then (if (a2++([32]:Ge)).length+a.length≤9223372036854775807 then (if ((a2++([32]:Ge))++a).length+([32]:Ge).length≤9223372036854775807 then (if (1:Int) <(p0.Kids.length:Int) then ((R.Dy (p0.Kids.getD (Int.toNat 1) Ah) (i64.wrap (b+1))).bind fun a3=>(if (((a2++([32]:Ge))++a)++([32]:Ge)).length+a3.length≤9223372036854775807 then some ((((a2++([32]:Ge))++a)++([32]:Ge))++a3) else none)) else none) else none) else none) else none)) else none)) else (if p0.Op=1 then some ([110,117,108,108]:Ge) else (if p0.Op=2 then some ([116,114,117,101]:Ge) else (if p0.Op=3 then some ([102,97,108,115,101]:Ge) else (if p0.Op=4 then (if (-9223372036854775808:Int)≤p0.Int∧(p0.Int:Int)≤9223372036854775807 then some (Lib.itoa p0.Int) else none) else (if p0.Op=5 then ((Fh K p0.Text).bind fun a4=>some a4) else (if p0.Op=6 then some p0.Name else (if p0.Op=7 then ((R.Dz p0.Kids).bind fun a5=>(if ([91]:Ge).length+a5.length≤9223372036854775807 then (if (([91]:Ge)++a5).length+([93]:Ge).length≤9223372036854775807 then some ((([91]:Ge)++a5)++([93]:Ge)) else none) else none)) else (if p0.Op=8 then ((R.Dz p0.Kids).bind fun a6=>(if ([123]:Ge).length+a6.length≤9223372036854775807 then (if (([123]:Ge)++a6).length+([125]:Ge).length≤9223372036854775807 then some ((([123]:Ge)++a6)++([125]:Ge)) else none) else none)) else (if p0.Op=9 then ((Fh K p0.Text).bind fun a7=>(if a7.length+([58,32]:Ge).length≤9223372036854775807 then (if (0:Int) <(p0.Kids.length:Int) then ((R.C0 (p0.Kids.getD (Int.toNat 0) Ah)).bind fun a8=>(if (a7++([58,32]:Ge)).length+a8.length≤9223372036854775807 then some ((a7++([58,32]:Ge))++a8) else none)) else none) else none)) else (if p0.Op=10 then (if p0.Name.length+([40]:Ge).length≤9223372036854775807 then ((R.Dz p0.Kids).bind fun a9=>(if (p0.Name++([40]:Ge)).length+a9.length≤9223372036854775807 then (if ((p0.Name++([40]:Ge))++a9).length+([41]:Ge).length≤9223372036854775807 then some (((p0.Name++([40]:Ge))++a9)++([41]:Ge)) else none) else none)) else none) else (if p0.Op=11 then (if ([103,111,32]:Ge).length+p0.Name.length≤9223372036854775807 then (if (([103,111,32]:Ge)++p0.Name).length+([40]:Ge).length≤9223372036854775807 then ((R.Dz p0.Kids).bind fun a10=>(if ((([103,111,32]:Ge)++p0.Name)++([40]:Ge)).length+a10.length≤9223372036854775807 then (if (((([103,111,32]:Ge)++p0.Name)++([40]:Ge))++a10).length+([41]:Ge).length≤9223372036854775807 then some ((((([103,111,32]:Ge)++p0.Name)++([40]:Ge))++a10)++([41]:Ge)) else none) else none)) else none) else none) else (if p0.Op=12 then (if (0:Int) <(p0.Kids.length:Int) then ((R.Dy (p0.Kids.getD (Int.toNat 0) Ah) 7).bind fun a11=>(if ([97,119,97,105,116,32]:Ge).length+a11.length≤9223372036854775807 then some (([97,119,97,105,116,32]:Ge)++a11) else none)) else none) else (if p0.Op=13 then (if (0:Int) <(p0.Kids.length:Int) then ((R.Dy (p0.Kids.getD (Int.toNat 0) Ah) 3).bind fun a12=>(if ([110,111,116,32]:Ge).length+a12.length≤9223372036854775807 then some (([110,111,116,32]:Ge)++a12) else none)) else none) else (if p0.Op=14 then (if (0:Int) <(p0.Kids.length:Int) then ((R.Dy (p0.Kids.getD (Int.toNat 0) Ah) 7).bind fun a13=>(if ([45]:Ge).length+a13.length≤9223372036854775807 then some (([45]:Ge)++a13) else none)) else none) else (if p0.Op=28 then (if (0:Int) <(p0.Kids.length:Int) then ((R.Dy (p0.Kids.getD (Int.toNat 0) Ah) 8).bind fun a14=>(if a14.length+([91]:Ge).length≤9223372036854775807 then (if (1:Int) <(p0.Kids.length:Int) then ((R.C0 (p0.Kids.getD (Int.toNat 1) Ah)).bind fun a15=>(if (a14++([91]:Ge)).length+a15.length≤9223372036854775807 then (if ((a14++([91]:Ge))++a15).length+([93]:Ge).length≤9223372036854775807 then some (((a14++([91]:Ge))++a15)++([93]:Ge)) else none) else none)) else none) else none)) else none) else (if (0:Int) <(p0.Kids.length:Int) then ((R.Dy (p0.Kids.getD (Int.toNat 0) Ah) 8).bind fun a16=>(if a16.length+([46]:Ge).length≤9223372036854775807 then (if (a16++([46]:Ge)).length+p0.Name.length≤9223372036854775807 then some ((a16++([46]:Ge))++p0.Name) else none) else none)) else none))))))))))))))))))
theorem C0.body {Γ:Ue} {K:Nat} {R:Dv} (hR:R.Ok) {p0:Aa} {r:Ge} (h:C0.F K R p0=some r):Uc V P 152 100 Γ (Tryz.f26.body.getD .skip) (T2 P V Tryz.f26 (.cv (.str r)) []) ⟨T0 0 [.agg (Ag p0)],[]⟩:=by
 unfold C0.F at h;refine Tt L 200 <| Tm <| Tm ?_;obtain ⟨⟨c,b⟩,h1,h⟩:=bind_some h;refine rg L 203 [] [(2,.tup [.cv (.str c),.I b])] [] (Uq (Gp.ok h1)) <| Tt L 212 <| iS h (fun c1 h=>?_) fun c1 h=>?_
 ·refine tT c1 <| Tt L 215 <| bS h fun o1 hp1 h=>Tm (T8 (Q':=fun e S=>(e=.normal∧∃ a:Int,S=⟨[(1,.P 22200),(3,.cv (.str c)),(4,.I b),(5,.I a)],[(22200,.raw (Ag p0))]⟩∧a=o1)) ?_ ?_)
  ·clear h;replace h:=hp1;refine Tt L 218 <| iS h (fun c2 h=>?_) fun c2 h=>?_
   ·refine tT c2 <| Tw (Wh L 221 ⟨rfl,rfl⟩) (Tn.trans (Tn.kk [1,3,4,5] [200]) (Tn.trans (Tn.rr [(200,22200)]) (Tn.kp (S':=⟨[(1,.P 22200),(3,.cv (.str c)),(4,.I b),(5,.I 5)],[(22200,.raw (Ag p0))]⟩)))) ?_;cases h;exact ⟨rfl,_,rfl,rfl⟩
   refine fF c2 <| Tr (Tn.trans (Tn.kk [1,3,4,5] [200]) (Tn.rr [(200,22200)])) <| sk (S':=⟨[(1,.P 22200),(3,.cv (.str c)),(4,.I b),(5,.I b)],[(22200,.raw (Ag p0))]⟩) ?_;cases h;exact ⟨rfl,_,rfl,rfl⟩
  ·rintro e S ⟨rfl,a,rfl,rfl⟩;exact Tm <| gS h fun g1 h=>bS h fun a2 h2 h=>gS h fun g2 h=>gS h fun g3 h=>gS h fun g4 h=>gS h fun g5 h=>bS h fun a3 h3 h=>gS h fun g6 h=>rd L mixed 223 [] [(5,.cv (.str a2)),(16,.cv (.str a3))] [] [] 19 (Tp (show (0:Int)≤0 from by decide) (Tp g1 (Tp (pc (hR.Dy h2)) (Tp trivial (Tp g2 (Tp g3 (Tp g4 (Tp (show (0:Int)≤1 from by decide) (Tp g5 (Tp (pc (hR.Dy h3)) (Tp trivial (Tu g6)))))))))))) <| To <| sJ h ▸ Tv
 exact fF c1 <| Tq <| Tm <| Tt L 243 <| Ts <| Tt L 246 <| iS h (fun c3 h=>tT c3 <| Tt L 249 <| To <| sJ h ▸ Tv) fun c3 h=>fF c3 <| Tt L 251 <| iS h (fun c4 h=>tT c4 <| Tt L 254 <| To <| sJ h ▸ Tv) fun c4 h=>fF c4 <| Tt L 256 <| iS h (fun c5 h=>tT c5 <| Tt L 259 <| To <| sJ h ▸ Tv) fun c5 h=>fF c5 <| Tt L 261 <| iS h (fun c6 h=>tT c6 <| Tm <| gS h fun g7 h=>rg L 264 [] [(2,.cv (.str (Lib.itoa p0.Int)))] [] (Uq (strconv_Itoa.ok p0.Int g7.1 g7.2)) <| To <| sJ h ▸ Tv) fun c6 h=>fF c6 <| Tt L 269 <| iS h (fun c7 h=>tT c7 <| Tm <| bS h fun a4 h4 h=>rg L 272 [] [(2,.cv (.str a4))] [] (Uq (Fh.ok h4)) <| To <| sJ h ▸ Tv) fun c7 h=>fF c7 <| Tt L 277 <| iS h (fun c8 h=>tT c8 <| Tt L 280 <| To <| sJ h ▸ Tv) fun c8 h=>fF c8 <| Tt L 284 <| iS h (fun c9 h=>tT c9 <| Tm <| bS h fun a5 h5 h=>gS h fun g8 h=>gS h fun g9 h=>rg L 287 [] [(2,.cv (.str a5))] [] (Tp (pc (hR.Dz h5)) (Tp trivial (Tp g8 (Tu g9)))) <| To <| sJ h ▸ Tv) fun c9 h=>fF c9 <| Tt L 294 <| iS h (fun c10 h=>tT c10 <| Tm <| bS h fun a6 h6 h=>gS h fun g10 h=>gS h fun g11 h=>rg L 297 [] [(2,.cv (.str a6))] [] (Tp (pc (hR.Dz h6)) (Tp trivial (Tp g10 (Tu g11)))) <| To <| sJ h ▸ Tv) fun c10 h=>fF c10 <| Tt L 304 <| iS h (fun c11 h=>tT c11 <| Tm <| bS h fun a7 h7 h=>gS h fun g12 h=>gS h fun g13 h=>bS h fun a8 h8 h=>gS h fun g14 h=>rd L mixed 307 [] [(2,.cv (.str a7)),(8,.cv (.str a8))] [] [] 11 (Tp (Fh.ok h7) (Tp trivial (Tp g12 (Tp (show (0:Int)≤0 from by decide) (Tp g13 (Tp (pc (hR.C0 h8)) (Tp trivial (Tu g14)))))))) <| To <| sJ h ▸ Tv) fun c11 h=>fF c11 <| Tt L 319 <| iS h (fun c12 h=>tT c12 <| Tm <| gS h fun g15 h=>bS h fun a9 h9 h=>gS h fun g16 h=>gS h fun g17 h=>rd L mixed 322 [] [(5,.cv (.str a9))] [] [] 9 (Tp g15 (Tp (pc (hR.Dz h9)) (Tp trivial (Tp g16 (Tu g17))))) <| To <| sJ h ▸ Tv) fun c12 h=>fF c12 <| Tt L 332 <| iS h (fun c13 h=>tT c13 <| Tm <| gS h fun g18 h=>gS h fun g19 h=>bS h fun a10 h10 h=>gS h fun g20 h=>gS h fun g21 h=>rd L mixed 335 [] [(6,.cv (.str a10))] [] [] 10 (Tp g18 (Tp g19 (Tp (pc (hR.Dz h10)) (Tp trivial (Tp g20 (Tu g21)))))) <| To <| sJ h ▸ Tv) fun c13 h=>fF c13 <| Tt L 346 <| iS h (fun c14 h=>tT c14 <| Tm <| gS h fun g22 h=>bS h fun a11 h11 h=>gS h fun g23 h=>rg L 349 [] [(4,.cv (.str a11))] [] (Tp (show (0:Int)≤0 from by decide) (Tp g22 (Tp (pc (hR.Dy h11)) (Tp trivial (Tu g23))))) <| To <| sJ h ▸ Tv) fun c14 h=>fF c14 <| Tt L 357 <| iS h (fun c15 h=>tT c15 <| Tm <| gS h fun g24 h=>bS h fun a12 h12 h=>gS h fun g25 h=>rg L 360 [] [(4,.cv (.str a12))] [] (Tp (show (0:Int)≤0 from by decide) (Tp g24 (Tp (pc (hR.Dy h12)) (Tp trivial (Tu g25))))) <| To <| sJ h ▸ Tv) fun c15 h=>fF c15 <| Tt L 368 <| iS h (fun c16 h=>tT c16 <| Tm <| gS h fun g26 h=>bS h fun a13 h13 h=>gS h fun g27 h=>rg L 371 [] [(4,.cv (.str a13))] [] (Tp (show (0:Int)≤0 from by decide) (Tp g26 (Tp (pc (hR.Dy h13)) (Tp trivial (Tu g27))))) <| To <| sJ h ▸ Tv) fun c16 h=>fF c16 <| Tt L 379 <| iS h (fun c17 h=>tT c17 <| Tm <| gS h fun g28 h=>bS h fun a14 h14 h=>gS h fun g29 h=>gS h fun g30 h=>bS h fun a15 h15 h=>gS h fun g31 h=>gS h fun g32 h=>rd L mixed 382 [] [(4,.cv (.str a14)),(10,.cv (.str a15))] [] [] 14 (Tp (show (0:Int)≤0 from by decide) (Tp g28 (Tp (pc (hR.Dy h14)) (Tp trivial (Tp g29 (Tp (show (0:Int)≤1 from by decide) (Tp g30 (Tp (pc (hR.C0 h15)) (Tp trivial (Tp g31 (Tu g32))))))))))) <| To <| sJ h ▸ Tv) fun c17 h=>fF c17 <| Tq <| Tm <| gS h fun g33 h=>bS h fun a16 h16 h=>gS h fun g34 h=>gS h fun g35 h=>rd L mixed 397 [] [(4,.cv (.str a16))] [] [] 10 (Tp (show (0:Int)≤0 from by decide) (Tp g33 (Tp (pc (hR.Dy h16)) (Tp trivial (Tp g34 (Tu g35)))))) <| To <| sJ h ▸ Tv
def Dv.upto (K:Nat):Nat→Dv
 | 0=>⟨fun _ _=>none,fun _=>none,fun _=>none⟩
 | k+1=>⟨Dy.F K (Dv.upto K k),Dz.F K (Dv.upto K k),C0.F K (Dv.upto K k)⟩
theorem Dv.upto_ok (K:Nat):∀ k,(Dv.upto K k).Ok
 | 0=>⟨fun h=>(by cases h),fun h=>(by cases h),fun h=>(by cases h)⟩
 | k+1=>⟨fun {p0 p1 r} h=>e2 Tryz.f46 15 100 fun Γ=>Dy.body (K:=K) (Dv.upto_ok K k) h,fun {p0 r} h=>e2 Tryz.f37 20 100 fun Γ=>Dz.body (K:=K) (Dv.upto_ok K k) h,fun {p0 r} h=>e2 Tryz.f26 152 100 fun Γ=>C0.body (K:=K) (Dv.upto_ok K k) h⟩
def Dy (K:Nat) (p0:Aa) (p1:Int):Option Ge:=(Dv.upto K K).Dy p0 p1
theorem Dy.ok {K:Nat} {p0:Aa} {p1:Int} {r:Ge} (h:Dy K p0 p1=some r):Tz V P 46 [.agg (Ag p0),.I p1] (.cv (.str r)):=pc ((Dv.upto_ok K K).Dy h)
def Dz (K:Nat) (p0:List Aa):Option Ge:=(Dv.upto K K).Dz p0
theorem Dz.ok {K:Nat} {p0:List Aa} {r:Ge} (h:Dz K p0=some r):Tz V P 37 [.cv (.ro .Af p0)] (.cv (.str r)):=pc ((Dv.upto_ok K K).Dz h)
def C0 (K:Nat) (p0:Aa):Option Ge:=(Dv.upto K K).C0 p0
theorem C0.ok {K:Nat} {p0:Aa} {r:Ge} (h:C0 K p0=some r):Tz V P 26 [.agg (Ag p0)] (.cv (.str r)):=pc ((Dv.upto_ok K K).C0 h)
def G8 (K:Nat) (p0:Ge):Option (Ge×Int):=(if (p0.length:Int) > 16384 then some (([]:Ge),6) else some (p0,0))
theorem G8.ok {K:Nat} {p0:Ge} {r:Ge×Int} (h:G8 K p0=some r):Tz V P 22 [.cv (.str p0)] (.tup [.cv (.str r.1),.I r.2]):=pc <| e2 Tryz.f22 8 100 fun Γ=>by
 unfold G8 at h;exact Tt L 200 <| Tm <| Tt L 203 <| iS h (fun c1 h=>tT c1 <| Tt L 207 <| To <| sJ h ▸ Tv) fun c1 h=>fF c1 <| Tq <| Tt L 210 <| To <| sJ h ▸ Tv
def Ha (K:Nat) (p0:Aa):Option (Ge×Int):=((G5 K p0).bind fun a1=>(if a1=true then ((C0 K p0).bind fun a2=>((G8 K a2).bind fun (a,b)=>some (a,b))) else some (([]:Ge),2)))
theorem Ha.ok {K:Nat} {p0:Aa} {r:Ge×Int} (h:Ha K p0=some r):Tz V P 12 [.agg (Ag p0)] (.tup [.cv (.str r.1),.I r.2]):=pc <| e2 Tryz.f12 12 100 fun Γ=>by
 unfold Ha at h;refine Tt L 200 <| Tm <| Tm <| bS h fun a1 h1 h=>rg L 204 [] [(1,.B a1)] [] (Uq (G5.ok h1)) <| iS h (fun c1 h=>?_) fun c1 h=>?_
 ·refine ff (b:=(!a1)) (congrArg Bool.not (c1)) <| Tq <| Tm <| bS h fun a2 h2 h=>?_
  obtain ⟨⟨a,c⟩,h3,h⟩:=bind_some h;exact rg L 211 [] [(1,.cv (.str a2)),(2,.tup [.cv (.str a),.I c])] [] (Tp (C0.ok h2) (Tp trivial (Tp (G8.ok h3) (Tu trivial)))) <| To <| sJ h ▸ Tv
 exact tt (b:=(!a1)) (congrArg Bool.not (Xs c1)) <| Tt L 208 <| To <| sJ h ▸ Tv
def Dq (K:Nat) (p0:Ab):Option (Int ⊕ (Aa×Ab)):=((Ao K ([45]:Ge) p0).bind fun (c,a)=>(if c=true then ((Cj K a).bind fun a2=>(if a2.Kind≠3 then ((Br K a).bind fun a3=>some (Sum.inl a3)) else ((Ei K a).bind fun (d,e)=>((Dn K 14 ([(⟨4,[],d.Int,[],([]:List Aa)⟩:Aa)]:List Aa)).bind fun a5=>some (Sum.inr (a5,e)))))) else ((E2 K a).bind fun (f,g,b)=>(if g=true then some (Sum.inr (f,b)) else ((Br K b).bind fun a7=>some (Sum.inl a7))))))
def Dq.rep (p0:Ab):Int ⊕ (Aa×Ab)→Uz T
 |(Sum.inl v0)=>.pan (Uh 59 v0)
 |(Sum.inr (v0,v1))=>.ret (.agg [.I v0.Op,.str v0.Name,.I v0.Int,.str v0.Text,.ro .Af v0.Kids])
def Dq.post (p0:Ab):Int ⊕ (Aa×Ab)→List (Nat×T9 T)
 |(Sum.inl v0)=>[]
 |(Sum.inr (v0,v1))=>[(0,.raw [.ro .Ap v1.l,.I v1.i])]
theorem Dq.body {Γ:Ue} {K:Nat} {p0:Ab} {r:Int ⊕ (Aa×Ab)} (h:Dq K p0=some r):Uc V P 29 100 Γ (Tryz.f66.body.getD .skip) (Ui P V Tryz.f66 (Dq.rep p0 r) (Dq.post p0 r)) ⟨T0 0 [.P 0],[(0,.raw (Ae p0))]⟩:=by
 unfold Dq at h;refine Tt L 200 <| Tm <| Tm ?_;obtain ⟨⟨c,d⟩,h1,h⟩:=bind_some h;refine rg L 202 [] [] [(1,(T3 (.B c) [(0,.raw (Ae d))]))] (Tu (Ao.okE h1)) <| iS h (fun c1 h=>?_) fun c1 h=>?_
 ·refine tt c1 <| Tm <| Tm <| bS h fun a2 h2 h=>rg L 205 [] [(1,.agg (E6 a2))] [] (Uq (Cj.ok h2)) <| iS h (fun c2 h=>?_) fun c2 h=>?_
  ·refine tT c2 <| bS h fun a3 h3 h=>qn L 210 [] [] [] 1 (T3 (.tup []) []) (Uh 59 a3) (Tu (Br.okE h3)) ?_
   cases h;exact rfl
  refine fF c2 <| Tq <| Tm ?_;obtain ⟨⟨e,f⟩,h4,h⟩:=bind_some h;refine bS h fun a5 h5 h=>rg L 213 [] [(5,.agg (Ag a5))] [(1,(T3 (.agg (E6 e)) [(0,.raw (Ae f))]))] (Tp (Ei.okE h4) (Tp (Dn.ok h5) (Tu trivial))) <| Tr (Tn.trans (Tn.kk [2] [0,200]) (Tn.rr [(0,0),(200,100)])) <| To ?_
  cases h;exact Vr
 refine fN c1 <| Tq <| Tm ?_;obtain ⟨⟨g,a,i⟩,h6,h⟩:=bind_some h;refine rg L 221 [] [] [(1,(T3 (.tup [.agg (Ag g),.B a]) [(0,.raw (Ae i))]))] (Tu (E2.okE h6)) <| Tm <| Tt L 230 <| iS h (fun c3 h=>?_) fun c3 h=>?_
 ·refine ff (b:=(!a)) (congrArg Bool.not (c3)) <| Tq <| Tt L 236 <| Tr (Tn.trans (Tn.kk [2] [0,200]) (Tn.rr [(0,0),(200,100)])) <| To ?_;cases h;exact Vr
 refine tt (b:=(!a)) (congrArg Bool.not (Xs c3)) <| bS h fun a7 h7 h=>qn L 233 [] [] [] 1 (T3 (.tup []) []) (Uh 59 a7) (Tu (Br.okE h7)) ?_
 cases h;exact rfl
theorem Dq.okE {K:Nat} {p0:Ab} {r:Int ⊕ (Aa×Ab)} (h:Dq K p0=some r):Ug V P 66 [.P 0] [(0,.raw (Ae p0))] [0] (Dq.post p0 r) (Dq.rep p0 r) :=
 xo (fn:=Tryz.f66) (n:=29) (m:=100) fun Γ=>Dq.body h
def De (K:Nat) (p0:Ab):Option (Int ⊕ (Aa×Ab)):=((Aw K p0).bind fun a1=>match a1 with |(Sum.inl a1)=>some (Sum.inl a1) |(Sum.inr (a,b))=>some (Sum.inr ((⟨6,a,0,[],([]:List Aa)⟩:Aa),b)))
def De.rep (p0:Ab):Int ⊕ (Aa×Ab)→Uz T
 |(Sum.inl v0)=>.pan (Uh 59 v0)
 |(Sum.inr (v0,v1))=>.ret (.agg [.I v0.Op,.str v0.Name,.I v0.Int,.str v0.Text,.ro .Af v0.Kids])
def De.post (p0:Ab):Int ⊕ (Aa×Ab)→List (Nat×T9 T)
 |(Sum.inl v0)=>[]
 |(Sum.inr (v0,v1))=>[(0,.raw [.ro .Ap v1.l,.I v1.i])]
theorem De.body {Γ:Ue} {K:Nat} {p0:Ab} {r:Int ⊕ (Aa×Ab)} (h:De K p0=some r):Uc V P 6 100 Γ (Tryz.f68.body.getD .skip) (Ui P V Tryz.f68 (De.rep p0 r) (De.post p0 r)) ⟨T0 0 [.P 0],[(0,.raw (Ae p0))]⟩:=by
 unfold De at h;refine Tt L 200 <| Tm <| bS h fun a1 h1 h=>?_
 rcases a1 with a1 | a1
 ·dsimp only at h;refine qn L 202 [] [] [] 1 (T3 (.tup []) []) (Uh 59 a1) (Tu (Aw.okE h1)) ?_;cases h;exact rfl
 ·obtain ⟨a,b⟩:=a1;refine rg L 202 [] [] [(1,(T3 (.cv (.str a)) [(0,.raw (Ae b))]))] (Tu (Aw.okE h1)) <| Tr (Tn.trans (Tn.kk [2] [0,200]) (Tn.rr [(0,0),(200,100)])) <| To ?_;cases h;exact Vr
theorem De.okE {K:Nat} {p0:Ab} {r:Int ⊕ (Aa×Ab)} (h:De K p0=some r):Ug V P 68 [.P 0] [(0,.raw (Ae p0))] [0] (De.post p0 r) (De.rep p0 r) :=
 xo (fn:=Tryz.f68) (n:=6) (m:=100) fun Γ=>De.body h
def Co (K:Nat) (p0:Ab):Option (Int ⊕ (Aa×Ab)):=((Ay K p0).bind fun a1=>match a1 with |(Sum.inl a1)=>some (Sum.inl a1) |(Sum.inr (a,b))=>((Aq K ([59]:Ge) b).bind fun a2=>match a2 with |(Sum.inl a2)=>some (Sum.inr (a,a2)) |(Sum.inr a2)=>some (Sum.inl a2)))
def Co.rep (p0:Ab):Int ⊕ (Aa×Ab)→Uz T
 |(Sum.inl v0)=>.pan (Uh 59 v0)
 |(Sum.inr (v0,v1))=>.ret (.agg [.I v0.Op,.str v0.Name,.I v0.Int,.str v0.Text,.ro .Af v0.Kids])
def Co.post (p0:Ab):Int ⊕ (Aa×Ab)→List (Nat×T9 T)
 |(Sum.inl v0)=>[]
 |(Sum.inr (v0,v1))=>[(0,.raw [.ro .Ap v1.l,.I v1.i])]
theorem Co.body {Γ:Ue} {K:Nat} {p0:Ab} {r:Int ⊕ (Aa×Ab)} (h:Co K p0=some r):Uc V P 9 100 Γ (Tryz.f143.body.getD .skip) (Ui P V Tryz.f143 (Co.rep p0 r) (Co.post p0 r)) ⟨T0 0 [.P 0],[(0,.raw (Ae p0))]⟩:=by
 unfold Co at h;refine Tt L 200 <| Tm <| bS h fun a1 h1 h=>?_
 rcases a1 with a1 | a1
 ·dsimp only at h;refine qn L 202 [] [] [] 1 (T3 (.tup []) []) (Uh 59 a1) (Tu (Ay.okE h1)) ?_;cases h;exact rfl
 ·obtain ⟨a,b⟩:=a1;refine rg L 202 [] [] [(1,(T3 (.agg (Ag a)) [(0,.raw (Ae b))]))] (Tu (Ay.okE h1)) <| Tm <| bS h fun a2 h2 h=>?_
  rcases a2 with a2 | a2
  ·dsimp only at h;refine rg L 207 [] [] [(1,(T3 (.tup []) [(0,.raw (Ae a2))]))] (Tu (Aq.okE h2)) <| Tt L 210 <| Tr (Tn.trans (Tn.kk [2] [0,200]) (Tn.rr [(0,0),(200,100)])) <| To ?_;cases h;exact Vr
  ·obtain ⟨a2,rfl⟩:∃ z,z=a2:=⟨_,rfl⟩
   refine qn L 207 [] [] [] 1 (T3 (.tup []) []) (Uh 59 a2) (Tu (Aq.okE h2)) ?_;cases h;exact rfl
theorem Co.okE {K:Nat} {p0:Ab} {r:Int ⊕ (Aa×Ab)} (h:Co K p0=some r):Ug V P 143 [.P 0] [(0,.raw (Ae p0))] [0] (Co.post p0 r) (Co.rep p0 r) :=
 xo (fn:=Tryz.f143) (n:=9) (m:=100) fun Γ=>Co.body h
def Dt (K:Nat) (p0:Ab):Option (Int ⊕ (Aa×Ab)):=(if (0:Int)≤(if (i64.wrap ((p0.l.length:Int) - 1)) <(i64.wrap (p0.i+1)) then (i64.wrap ((p0.l.length:Int) - 1)) else (i64.wrap (p0.i+1)))∧((if (i64.wrap ((p0.l.length:Int) - 1)) <(i64.wrap (p0.i+1)) then (i64.wrap ((p0.l.length:Int) - 1)) else (i64.wrap (p0.i+1))):Int) <(p0.l.length:Int) then (((((Cj K p0).bind fun a1=>(if a1.Kind=1 then (if ((p0.l.getD (Int.toNat (if (i64.wrap ((p0.l.length:Int) - 1)) <(i64.wrap (p0.i+1)) then (i64.wrap ((p0.l.length:Int) - 1)) else (i64.wrap (p0.i+1)))) Et)).Kind=5 then some ((decide (((p0.l.getD (Int.toNat (if (i64.wrap ((p0.l.length:Int) - 1)) <(i64.wrap (p0.i+1)) then (i64.wrap ((p0.l.length:Int) - 1)) else (i64.wrap (p0.i+1)))) Et)).Text=([61]:Ge)))) else some false) else some false))):Option Bool).bind fun c=>(if c=true then ((Aw K p0).bind fun a2=>match a2 with |(Sum.inl a2)=>some (Sum.inl a2) |(Sum.inr (e,d))=>((Co K (⟨d.l,(i64.wrap (d.i+1))⟩:Ab)).bind fun a3=>match a3 with |(Sum.inl a3)=>some (Sum.inl a3) |(Sum.inr (a,f))=>some (Sum.inr ((⟨41,e,0,[],([(⟨a.Op,a.Name,a.Int,a.Text,a.Kids⟩:Aa)]:List Aa)⟩:Aa),f)))) else ((Co K p0).bind fun a4=>match a4 with |(Sum.inl a4)=>some (Sum.inl a4) |(Sum.inr (b,g))=>((Dn K 52 ([(⟨b.Op,b.Name,b.Int,b.Text,b.Kids⟩:Aa)]:List Aa)).bind fun a5=>some (Sum.inr (a5,g)))))) else none)
def Dt.rep (p0:Ab):Int ⊕ (Aa×Ab)→Uz T
 |(Sum.inl v0)=>.pan (Uh 59 v0)
 |(Sum.inr (v0,v1))=>.ret (.agg [.I v0.Op,.str v0.Name,.I v0.Int,.str v0.Text,.ro .Af v0.Kids])
def Dt.post (p0:Ab):Int ⊕ (Aa×Ab)→List (Nat×T9 T)
 |(Sum.inl v0)=>[]
 |(Sum.inr (v0,v1))=>[(0,.raw [.ro .Ap v1.l,.I v1.i])]
theorem Dt.body {Γ:Ue} {K:Nat} {p0:Ab} {r:Int ⊕ (Aa×Ab)} (h:Dt K p0=some r):Uc V P 55 100 Γ (Tryz.f147.body.getD .skip) (Ui P V Tryz.f147 (Dt.rep p0 r) (Dt.post p0 r)) ⟨T0 0 [.P 0],[(0,.raw (Ae p0))]⟩:=by
 unfold Dt at h;refine Tt L 200 <| Tm <| Tm <| gS h fun g1 h=>rd L mixed 202 [] [] [] [220] 20 (Ur g1.1 g1.2) <| bS h fun o1 hp1 h=>Tm (T8 (Q':=fun e S=>(e=.normal∧∃ a:Bool,S=⟨[(0,.P 0),(2,.P 21200),(36,.B a)],[(0,.raw (Ae p0)),(21200,.raw [.I 0,.str [],.I 0,.str [],.N])]⟩∧a=o1)) ?_ ?_)
 ·clear h;replace h:=hp1;refine bS h fun a1 h1 h=>iS h (fun c1 h=>?_) fun c1 h=>?_
  ·refine iS h (fun c2 h=>?_) fun c2 h=>?_
   ·refine Tw (rg L 223 [(4,true),(9,true)] [(1,.agg (E6 a1))] [] (Tp (Cj.ok h1) (Tp trivial (Tp (Gt c1) (Tu (Gt c2))))) ⟨rfl,rfl⟩) (Tn.trans (Tn.kk [0,2,36] [0,200]) (Tn.trans (Tn.rr [(0,0),(200,21200)]) (Tn.kp (S':=⟨[(0,.P 0),(2,.P 21200),(36,.B ((decide (((p0.l.getD (Int.toNat (if (i64.wrap ((p0.l.length:Int) - 1)) <(i64.wrap (p0.i+1)) then (i64.wrap ((p0.l.length:Int) - 1)) else (i64.wrap (p0.i+1)))) Et)).Text=([61]:Ge)))))],[(0,.raw (Ae p0)),(21200,.raw [.I 0,.str [],.I 0,.str [],.N])]⟩)))) ?_;cases h;exact ⟨rfl,_,rfl,rfl⟩
   refine Tw (rg L 223 [(4,true),(9,false)] [(1,.agg (E6 a1))] [] (Tp (Cj.ok h1) (Tp trivial (Tp (Gt c1) (Tu (Lt c2))))) ⟨rfl,rfl⟩) (Tn.trans (Tn.kk [0,2,36] [0,200]) (Tn.trans (Tn.rr [(0,0),(200,21200)]) (Tn.kp (S':=⟨[(0,.P 0),(2,.P 21200),(36,.B false)],[(0,.raw (Ae p0)),(21200,.raw [.I 0,.str [],.I 0,.str [],.N])]⟩)))) ?_;cases h;exact ⟨rfl,_,rfl,rfl⟩
  refine Tw (rg L 223 [(4,false)] [(1,.agg (E6 a1))] [] (Tp (Cj.ok h1) (Tp trivial (Tu (Lt c1)))) ⟨rfl,rfl⟩) (Tn.trans (Tn.kk [0,2,36] [0,200]) (Tn.trans (Tn.rr [(0,0),(200,21200)]) (Tn.kp (S':=⟨[(0,.P 0),(2,.P 21200),(36,.B false)],[(0,.raw (Ae p0)),(21200,.raw [.I 0,.str [],.I 0,.str [],.N])]⟩)))) ?_;cases h;exact ⟨rfl,_,rfl,rfl⟩
 ·rintro e S ⟨rfl,a,rfl,rfl⟩;refine iS h (fun c3 h=>?_) fun c3 h=>?_
  ·refine tt c3 <| Tm <| bS h fun a2 h2 h=>?_
   rcases a2 with a2 | a2
   ·dsimp only at h;refine qn L 238 [] [] [] 1 (T3 (.tup []) []) (Uh 59 a2) (Tu (Aw.okE h2)) ?_;cases h;exact rfl
   ·obtain ⟨b,c⟩:=a2;refine rg L 238 [] [] [(1,(T3 (.cv (.str b)) [(0,.raw (Ae c))]))] (Tu (Aw.okE h2)) <| Tt L 242 <| Tm <| bS h fun a3 h3 h=>?_
    rcases a3 with a3 | a3
    ·dsimp only at h;refine qn L 251 [] [] [] 2 (T3 (.tup []) []) (Uh 59 a3) (Tu (Co.okE h3)) ?_;cases h;exact rfl
    ·obtain ⟨d,f⟩:=a3;refine rg L 251 [] [] [(2,(T3 (.agg (Ag d)) [(0,.raw (Ae f))]))] (Tu (Co.okE h3)) <| Tr (Tn.trans (Tn.kk [2] [0,21200]) (Tn.rr [(0,0),(21200,100)])) <| To ?_;cases h;exact Vr
  refine fN c3 <| Tq <| Tm <| bS h fun a4 h4 h=>?_
  rcases a4 with a4 | a4
  ·dsimp only at h;refine qn L 258 [] [] [] 1 (T3 (.tup []) []) (Uh 59 a4) (Tu (Co.okE h4)) ?_;cases h;exact rfl
  ·obtain ⟨g,j⟩:=a4;refine bS h fun a5 h5 h=>rg L 258 [] [(3,.agg (Ag a5))] [(1,(T3 (.agg (Ag g)) [(0,.raw (Ae j))]))] (Tp (Co.okE h4) (Tp (Dn.ok h5) (Tu trivial))) <| Tr (Tn.trans (Tn.kk [2] [0,21200]) (Tn.rr [(0,0),(21200,100)])) <| To ?_
   cases h;exact Vr
theorem Dt.okE {K:Nat} {p0:Ab} {r:Int ⊕ (Aa×Ab)} (h:Dt K p0=some r):Ug V P 147 [.P 0] [(0,.raw (Ae p0))] [0] (Dt.post p0 r) (Dt.rep p0 r) :=
 xo (fn:=Tryz.f147) (n:=55) (m:=100) fun Γ=>Dt.body h
def G9 (K:Nat) (p0:Int) (p1:List Aa):Option (List Aa):=some p1
theorem G9.body {Γ:Ue} {K:Nat} {p0:Int} {p1:List Aa} {r:List Aa} (h:G9 K p0 p1=some r):Uc V P 8 100 Γ (Tryz.f107.body.getD .skip) (T2 P V Tryz.f107 (.agg [.I p0,.str [],.I 0,.str [],.own .Af 0]) [(0,.lst .Af r)]) ⟨T0 0 [.I p0,.cv (.own .Af 0)],[(0,.lst .Af p1)]⟩:=by
 unfold G9 at h;exact Tt L 200 <| Tt L 202 <| Tr (Tn.trans (Tn.kk [4] [0,200]) (Tn.rr [(0,0),(200,100)])) <| To <| sJ h ▸ Tv
theorem G9.okE {K:Nat} {p0:Int} {p1:List Aa} {r:List Aa} (h:G9 K p0 p1=some r):T1 V P 107 [.I p0,.cv (.own .Af 0)] [(0,.lst .Af p1)] [0] (.agg [.I p0,.str [],.I 0,.str [],.own .Af 0]) [(0,.lst .Af r)] :=
 e2 Tryz.f107 8 100 fun Γ=>G9.body h
def Bk.rep (p0:Ab):Int ⊕ (Aa×Ab)→Uz T
 |(Sum.inl v0)=>.pan (Uh 59 v0)
 |(Sum.inr (v0,v1))=>.ret (.agg [.I v0.Op,.str v0.Name,.I v0.Int,.str v0.Text,.ro .Af v0.Kids])
def Bk.post (p0:Ab):Int ⊕ (Aa×Ab)→List (Nat×T9 T)
 |(Sum.inl v0)=>[]
 |(Sum.inr (v0,v1))=>[(0,.raw [.ro .Ap v1.l,.I v1.i])]
def Bm.rep (p0:Ab):Int ⊕ (Aa×Ab)→Uz T
 |(Sum.inl v0)=>.pan (Uh 59 v0)
 |(Sum.inr (v0,v1))=>.ret (.agg [.I v0.Op,.str v0.Name,.I v0.Int,.str v0.Text,.ro .Af v0.Kids])
def Bm.post (p0:Ab):Int ⊕ (Aa×Ab)→List (Nat×T9 T)
 |(Sum.inl v0)=>[]
 |(Sum.inr (v0,v1))=>[(0,.raw [.ro .Ap v1.l,.I v1.i])]
def Bz.rep (p0:Ab):Int ⊕ (Aa×Ab)→Uz T
 |(Sum.inl v0)=>.pan (Uh 59 v0)
 |(Sum.inr (v0,v1))=>.ret (.agg [.I v0.Op,.str v0.Name,.I v0.Int,.str v0.Text,.ro .Af v0.Kids])
def Bz.post (p0:Ab):Int ⊕ (Aa×Ab)→List (Nat×T9 T)
 |(Sum.inl v0)=>[]
 |(Sum.inr (v0,v1))=>[(0,.raw [.ro .Ap v1.l,.I v1.i])]
def Ar.rep (p0:Ab):Int ⊕ (Aa×Ab)→Uz T
 |(Sum.inl v0)=>.pan (Uh 59 v0)
 |(Sum.inr (v0,v1))=>.ret (.agg [.I v0.Op,.str v0.Name,.I v0.Int,.str v0.Text,.ro .Af v0.Kids])
def Ar.post (p0:Ab):Int ⊕ (Aa×Ab)→List (Nat×T9 T)
 |(Sum.inl v0)=>[]
 |(Sum.inr (v0,v1))=>[(0,.raw [.ro .Ap v1.l,.I v1.i])]
structure Bo where
 Bk:Ab→Option (Int ⊕ (Aa×Ab))
 Bm:Ab→Option (Int ⊕ (Aa×Ab))
 Bz:Ab→Option (Int ⊕ (Aa×Ab))
 Ar:Ab→Option (Int ⊕ (Aa×Ab))
structure Bo.Ok (R:Bo):Prop where
 Bk:∀ {p0:Ab} {r:Int ⊕ (Aa×Ab)},R.Bk p0=some r→Ug V P 144 [.P 0] [(0,.raw (Ae p0))] [0] (Bk.post p0 r) (Bk.rep p0 r)
 Bm:∀ {p0:Ab} {r:Int ⊕ (Aa×Ab)},R.Bm p0=some r→Ug V P 146 [.P 0] [(0,.raw (Ae p0))] [0] (Bm.post p0 r) (Bm.rep p0 r)
 Bz:∀ {p0:Ab} {r:Int ⊕ (Aa×Ab)},R.Bz p0=some r→Ug V P 109 [.P 0] [(0,.raw (Ae p0))] [0] (Bz.post p0 r) (Bz.rep p0 r)
 Ar:∀ {p0:Ab} {r:Int ⊕ (Aa×Ab)},R.Ar p0=some r→Ug V P 69 [.P 0] [(0,.raw (Ae p0))] [0] (Ar.post p0 r) (Ar.rep p0 r)
def Bk.F (K:Nat) (R:Bo) (p0:Ab):Option (Int ⊕ (Aa×Ab)):=((Ay K p0).bind fun a1=>match a1 with |(Sum.inl a1)=>some (Sum.inl a1) |(Sum.inr (c,g))=>((R.Ar g).bind fun a2=>match a2 with |(Sum.inl a2)=>some (Sum.inl a2) |(Sum.inr (d,h))=>((G9 K 42 ([(⟨c.Op,c.Name,c.Int,c.Text,c.Kids⟩:Aa),(⟨d.Op,d.Name,d.Int,d.Text,d.Kids⟩:Aa)]:List Aa)).bind fun a3=>((Ao K ([101,108,115,101]:Ge) h).bind fun (i,e)=>(if i=true then ((Ao K ([105,102]:Ge) e).bind fun (j,f)=>(if j=true then ((R.Bk f).bind fun a6=>match a6 with |(Sum.inl a6)=>some (Sum.inl a6) |(Sum.inr (a,k))=>(if (a3.length+([(⟨a.Op,a.Name,a.Int,a.Text,a.Kids⟩:Aa)]:List Aa).length) * 72≤140737488355328 then some ((Sum.inr ((⟨42,[],0,[],(a3++([(⟨a.Op,a.Name,a.Int,a.Text,a.Kids⟩:Aa)]:List Aa))⟩:Aa),k))) else none)) else ((R.Ar f).bind fun a7=>match a7 with |(Sum.inl a7)=>some (Sum.inl a7) |(Sum.inr (b,l))=>(if (a3.length+([(⟨b.Op,b.Name,b.Int,b.Text,b.Kids⟩:Aa)]:List Aa).length) * 72≤140737488355328 then some ((Sum.inr ((⟨42,[],0,[],(a3++([(⟨b.Op,b.Name,b.Int,b.Text,b.Kids⟩:Aa)]:List Aa))⟩:Aa),l))) else none)))) else some (Sum.inr ((⟨42,[],0,[],a3⟩:Aa),e)))))))
theorem Bk.body {Γ:Ue} {K:Nat} {R:Bo} (hR:R.Ok) {p0:Ab} {r:Int ⊕ (Aa×Ab)} (h:Bk.F K R p0=some r):Uc V P 31 100 Γ (Tryz.f144.body.getD .skip) (Ui P V Tryz.f144 (Bk.rep p0 r) (Bk.post p0 r)) ⟨T0 0 [.P 0],[(0,.raw (Ae p0))]⟩:=by
 unfold Bk.F at h;refine Tt L 200 <| Tm <| bS h fun a1 h1 h=>?_
 rcases a1 with a1 | a1
 ·dsimp only at h;refine qn L 100202 [] [] [] 1 (T3 (.tup []) []) (Uh 59 a1) (Tu (Ay.okE h1)) ?_;cases h;exact rfl
 ·obtain ⟨e,f⟩:=a1;refine bS h fun a2 h2 h=>?_
  rcases a2 with a2 | a2
  ·dsimp only at h;refine qn L 100202 [] [] [(1,(T3 (.agg (Ag e)) [(0,.raw (Ae f))]))] 3 (T3 (.tup []) []) (Uh 59 a2) (Ur (Ay.okE h1) (hR.Ar h2)) ?_;cases h;exact rfl
  ·obtain ⟨j,k⟩:=a2;refine bS h fun a3 h3 h=>rg L 100202 [] [] [(1,(T3 (.agg (Ag e)) [(0,.raw (Ae f))])),(3,(T3 (.agg (Ag j)) [(0,.raw (Ae k))])),(5,(ef [0] [0] (.agg [.I 42,.str [],.I 0,.str [],.own .Af 0]) [(0,.lst .Af a3)] [(0,100206)]))] (Tp (Ay.okE h1) (Tp (hR.Ar h2) (Tu (G9.okE h3)))) <| Tm <| Tm ?_
   obtain ⟨⟨d,l⟩,h4,h⟩:=bind_some h;refine rg L 211 [] [] [(1,(T3 (.B d) [(0,.raw (Ae l))]))] (Tu (Ao.okE h4)) <| iS h (fun c1 h=>?_) fun c1 h=>?_
   ·refine ff (b:=(!d)) (congrArg Bool.not (c1)) <| Tq <| Tm <| Tm ?_;obtain ⟨⟨m,n⟩,h5,h⟩:=bind_some h;refine rg L 218 [] [] [(1,(T3 (.B m) [(0,.raw (Ae n))]))] (Tu (Ao.okE h5)) <| iS h (fun c2 h=>?_) fun c2 h=>?_
    ·refine tt c2 <| bS h fun a6 h6 h=>?_
     rcases a6 with a6 | a6
     ·dsimp only at h;refine qP L mixed 221 [] [] [] [0,2] 3 (T3 (.tup []) []) (Uh 59 a6) (Ur (hR.Bk h6) (hR.Bk h6)) ?_;cases h;exact rfl
     ·obtain ⟨a,g⟩:=a6;refine gS h fun g1 h=>hB L mixed 221 [] [] [(3,(T3 (.agg (Ag a)) [(0,.raw (Ae g))]))] [0,2] 3 (Tp (hR.Bk h6) (Tp g1 (Tp trivial (Tp (hR.Bk h6) (Tp g1 (Tp trivial (Tp g1 (Tu trivial)))))))) (S':=⟨[(2,.P 200),(3,.P 100208)],[(0,.raw (Ae g)),(200,.raw [.I 0,.str [],.I 0,.str [],.N]),(100206,.lst .Af (a3++([(⟨a.Op,a.Name,a.Int,a.Text,a.Kids⟩:Aa)]:List Aa))),(100208,.raw [.I 42,.str [],.I 0,.str [],.own .Af 100206])]⟩) <| Tt L 239 <| Tr (Tn.trans (Tn.kk [2] [0,200,100206]) (Tn.trans (Tn.fz 100206) (Tn.rr [(0,0),(200,100)]))) <| To ?_
      cases h;exact Vr
    refine fN c2 <| bS h fun a7 h7 h=>?_
    rcases a7 with a7 | a7
    ·dsimp only at h;refine qP L mixed 230 [] [] [] [0,2] 3 (T3 (.tup []) []) (Uh 59 a7) (Ur (hR.Ar h7) (hR.Ar h7)) ?_;cases h;exact rfl
    ·obtain ⟨c,i⟩:=a7;refine gS h fun g2 h=>hB L mixed 230 [] [] [(3,(T3 (.agg (Ag c)) [(0,.raw (Ae i))]))] [0,2] 3 (Tp (hR.Ar h7) (Tp g2 (Tp trivial (Tp (hR.Ar h7) (Tp g2 (Tp trivial (Tp g2 (Tu trivial)))))))) (S':=⟨[(2,.P 200),(3,.P 100208)],[(0,.raw (Ae i)),(200,.raw [.I 0,.str [],.I 0,.str [],.N]),(100206,.lst .Af (a3++([(⟨c.Op,c.Name,c.Int,c.Text,c.Kids⟩:Aa)]:List Aa))),(100208,.raw [.I 42,.str [],.I 0,.str [],.own .Af 100206])]⟩) <| Tt L 239 <| Tr (Tn.trans (Tn.kk [2] [0,200,100206]) (Tn.trans (Tn.fz 100206) (Tn.rr [(0,0),(200,100)]))) <| To ?_
     cases h;exact Vr
   refine tt (b:=(!d)) (congrArg Bool.not (Xs c1)) <| Tt L 215 <| Tr (Tn.trans (Tn.kk [2] [0,200,100206]) (Tn.trans (Tn.fz 100206) (Tn.rr [(0,0),(200,100)]))) <| To ?_;cases h;exact Vr
def Bm.l9 (K:Nat) (R:Bo):Nat→(List Av)→Int→(List Aa)→Option (Ty (Int ⊕ (Aa×Ab)) ((List Av)×Int×(List Aa)))
 | 0,_,_,_=>none
 | k+1,a,b,e=>((Fo K (⟨a,b⟩:Ab) ([99,97,115,101]:Ge)).bind fun a2=>(if a2=true then (if (e.length:Int)=16 then ((Br K (⟨a,b⟩:Ab)).bind fun a3=>some (Ty.done (Sum.inl a3))) else (Ub (((if (0:Int)≤(if (i64.wrap ((a.length:Int) - 1)) <(i64.wrap ((i64.wrap (b+1))+1)) then (i64.wrap ((a.length:Int) - 1)) else (i64.wrap ((i64.wrap (b+1))+1)))∧((if (i64.wrap ((a.length:Int) - 1)) <(i64.wrap ((i64.wrap (b+1))+1)) then (i64.wrap ((a.length:Int) - 1)) else (i64.wrap ((i64.wrap (b+1))+1))):Int) <(a.length:Int) then (((((Cj K (⟨a,(i64.wrap (b+1))⟩:Ab)).bind fun a4=>(if a4.Kind=1 then (if ((a.getD (Int.toNat (if (i64.wrap ((a.length:Int) - 1)) <(i64.wrap ((i64.wrap (b+1))+1)) then (i64.wrap ((a.length:Int) - 1)) else (i64.wrap ((i64.wrap (b+1))+1)))) Et)).Kind=5 then some ((decide (((a.getD (Int.toNat (if (i64.wrap ((a.length:Int) - 1)) <(i64.wrap ((i64.wrap (b+1))+1)) then (i64.wrap ((a.length:Int) - 1)) else (i64.wrap ((i64.wrap (b+1))+1)))) Et)).Text=([61]:Ge)))) else some false) else some false))):Option Bool).bind fun j=>(if j=true then ((Aw K (⟨a,(i64.wrap (b+1))⟩:Ab)).bind fun a5=>match a5 with |(Sum.inl a5)=>some (Ty.done (Sum.inl a5)) |(Sum.inr (o,m))=>some (Ty.go (m.l,(i64.wrap (m.i+1)),o))) else some (Ty.go (a,(i64.wrap (b+1)),[])))) else none)):Option (Ty (Int ⊕ (Aa×Ab)) ((List Av)×Int×Ge))) Ty.done (fun (g,h,f)=>((Ay K (⟨g,h⟩:Ab)).bind fun a6=>match a6 with |(Sum.inl a6)=>some (Ty.done (Sum.inl a6)) |(Sum.inr (c,p))=>((R.Ar p).bind fun a7=>match a7 with |(Sum.inl a7)=>some (Ty.done (Sum.inl a7)) |(Sum.inr (d,n))=>(if (e.length+([(⟨50,f,0,[],([(⟨c.Op,c.Name,c.Int,c.Text,c.Kids⟩:Aa),(⟨d.Op,d.Name,d.Int,d.Text,d.Kids⟩:Aa)]:List Aa)⟩:Aa)]:List Aa).length) * 72≤140737488355328 then Bm.l9 K R k n.l n.i (e++([(⟨50,f,0,[],([(⟨c.Op,c.Name,c.Int,c.Text,c.Kids⟩:Aa),(⟨d.Op,d.Name,d.Int,d.Text,d.Kids⟩:Aa)]:List Aa)⟩:Aa)]:List Aa)) else none)))))) else some (Ty.go (a,b,e))))
def Bm.F (K:Nat) (R:Bo) (p0:Ab):Option (Int ⊕ (Aa×Ab)):=((Aq K ([123]:Ge) p0).bind fun a1=>match a1 with |(Sum.inl a1)=>(Ub (Bm.l9 K R K a1.l a1.i ([]:List Aa):Option (Ty (Int ⊕ (Aa×Ab)) ((List Av)×Int×(List Aa)))) (fun r=>r) (fun (f,g,c)=>(Ub ((((Ao K ([101,108,115,101]:Ge) (⟨f,g⟩:Ab)).bind fun (k,h)=>(if k=true then ((R.Ar h).bind fun a9=>match a9 with |(Sum.inl a9)=>some (Ty.done (Sum.inl a9)) |(Sum.inr (d,j))=>((Dn K 51 ([(⟨d.Op,d.Name,d.Int,d.Text,d.Kids⟩:Aa)]:List Aa)).bind fun a10=>(if (c.length+([(⟨a10.Op,a10.Name,a10.Int,a10.Text,a10.Kids⟩:Aa)]:List Aa).length) * 72≤140737488355328 then some (Ty.go (j.l,j.i,(c++([(⟨a10.Op,a10.Name,a10.Int,a10.Text,a10.Kids⟩:Aa)]:List Aa)))) else none))) else some (Ty.go (h.l,h.i,c))))):Option (Ty (Int ⊕ (Aa×Ab)) ((List Av)×Int×(List Aa)))) (fun r=>r) (fun (a,b,e)=>(if (e.length:Int)=0 then ((Br K (⟨a,b⟩:Ab)).bind fun a11=>some (Sum.inl a11)) else ((Aq K ([125]:Ge) (⟨a,b⟩:Ab)).bind fun a12=>match a12 with |(Sum.inl a12)=>some (Sum.inr ((⟨49,[],0,[],e⟩:Aa),a12)) |(Sum.inr a12)=>some (Sum.inl a12))))))) |(Sum.inr a1)=>some (Sum.inl a1))
theorem Bm.body {Γ:Ue} {K:Nat} {R:Bo} (hR:R.Ok) {p0:Ab} {r:Int ⊕ (Aa×Ab)} (h:Bm.F K R p0=some r):Uc V P 99 100 Γ (Tryz.f146.body.getD .skip) (Ui P V Tryz.f146 (Bm.rep p0 r) (Bm.post p0 r)) ⟨T0 0 [.P 0],[(0,.raw (Ae p0))]⟩:=by
 unfold Bm.F at h;refine Tt L 200 <| Tt L 202 <| Tm <| bS h fun a1 h1 h=>?_
 rcases a1 with a1 | a1
 ·dsimp only at h;refine rg L 206 [] [] [(1,(T3 (.tup []) [(0,.raw (Ae a1))]))] (Tu (Aq.okE h1)) <| Tm <| Ts <| Tr (Tn.trans (Tn.kk [0,2,3] [0,200,203]) (Tn.trans (Tn.nc 203 4 9500 Tag.Af) (Tn.trans (Tn.kk [0,2,3] [0,200,203,9500]) (Tn.rr [(0,0),(200,21900),(203,21901),(9500,21902)])))) <| kp (S':=⟨[(0,.P 0),(2,.P 21900),(3,.P 21901)],[(0,.raw (Ae a1)),(21900,.raw [.I 0,.str [],.I 0,.str [],.N]),(21901,.raw [.I 49,.str [],.I 0,.str [],.own .Af 21902]),(21902,.lst .Af ([]:List Aa))]⟩) ?_;obtain ⟨o3,hp3,h⟩:=T7 h;refine Tx (Q':=fun e S=>(e=.exit 0∧∃ p:List Av,∃ q:Int,∃ f:List Aa,S=⟨[(0,.P 0),(2,.P 21800),(3,.P 21801)],[(0,.raw [.ro .Ap p,.I q]),(21800,.raw [.I 0,.str [],.I 0,.str [],.N]),(21801,.raw [.I 49,.str [],.I 0,.str [],.own .Af 21802]),(21802,.lst .Af f)]⟩∧Ty.go (p,q,f)=o3)∨((e=.ret∨∃ ch,e=.panic ch)∧∃ a,Ty.done a=o3∧Ui P V Tryz.f146 (Bm.rep p0 a) (Bm.post p0 a) e S)) (T4 (fun k S=>∃ b:List Av,∃ c:Int,∃ d:List Aa,S=⟨[(0,.P 0),(2,.P 21900),(3,.P 21901)],[(0,.raw [.ro .Ap b,.I c]),(21900,.raw [.I 0,.str [],.I 0,.str [],.N]),(21901,.raw [.I 49,.str [],.I 0,.str [],.own .Af 21902]),(21902,.lst .Af d)]⟩∧Bm.l9 K R k b c d=some o3) ?_ ⟨_,_,_,rfl,hp3⟩) ?_
  ·clear h hp3;intro k S hS;obtain ⟨b,c,d,rfl,h⟩:=hS;cases k with
   | zero=>cases h
   | succ k =>
   unfold Bm.l9 at h;refine Tm <| Tm <| bS h fun a2 h2 h=>rg L 209 [] [(1,.B a2)] [] (Uq (Fo.ok h2)) <| iS h (fun c1 h=>?_) fun c1 h=>?_
   ·refine tt c1 <| Tq <| Ts <| Tm <| Tt L 212 <| iS h (fun c2 h=>?_) fun c2 h=>?_
    ·refine tT c2 <| bS h fun a3 h3 h=>qn L 217 [] [] [] 1 (T3 (.tup []) []) (Uh 59 a3) (Tu (Br.okE h3)) ?_
     cases h;exact .inr ⟨.inr ⟨_,rfl⟩,_,rfl,rfl⟩
    refine fF c2 <| Tq <| Tt L 220 <| Tt L 229 ?_;obtain ⟨o2,hp2,h⟩:=T7 h;refine Tm (T8 (Q':=fun e S=>(e=.normal∧∃ j:List Av,∃ m:Int,∃ g:Ge,S=⟨[(0,.P 0),(2,.P 25400),(3,.P 25401),(4,.P 25402)],[(0,.raw [.ro .Ap j,.I m]),(25400,.raw [.I 0,.str [],.I 0,.str [],.N]),(25401,.raw [.I 49,.str [],.I 0,.str [],.own .Af 25403]),(25402,.raw [.I 50,.str g,.I 0,.str [],.N]),(25403,.lst .Af d)]⟩∧Ty.go (j,m,g)=o2)∨((e=.ret∨∃ ch,e=.panic ch)∧∃ a,Ty.done a=o2∧Ui P V Tryz.f146 (Bm.rep p0 a) (Bm.post p0 a) e S)) ?_ ?_)
    ·clear h;replace h:=hp2;refine Tm <| gS h fun g1 h=>rd L mixed 233 [] [] [] [251] 20 (Ur g1.1 g1.2) <| bS h fun o1 hp1 h=>Tm (T8 (Q':=fun e S=>(e=.normal∧∃ s:Bool,S=⟨[(0,.P 0),(2,.P 26000),(3,.P 26001),(4,.P 26002),(56,.B s)],[(0,.raw [.ro .Ap b,.I (i64.wrap (c+1))]),(26000,.raw [.I 0,.str [],.I 0,.str [],.N]),(26001,.raw [.I 49,.str [],.I 0,.str [],.own .Af 26003]),(26002,.raw [.I 50,.str [],.I 0,.str [],.N]),(26003,.lst .Af d)]⟩∧s=o1)) ?_ ?_)
     ·clear h;replace h:=hp1;refine bS h fun a4 h4 h=>iS h (fun c3 h=>?_) fun c3 h=>?_
      ·refine iS h (fun c4 h=>?_) fun c4 h=>?_
       ·refine Tw (rg L 254 [(4,true),(9,true)] [(1,.agg (E6 a4))] [] (Tp (Cj.ok h4) (Tp trivial (Tp (Gt c3) (Tu (Gt c4))))) ⟨rfl,rfl⟩) (Tn.trans (Tn.kk [0,2,3,4,56] [0,230,21900,21901,21902]) (Tn.trans (Tn.rr [(0,0),(230,26002),(21900,26000),(21901,26001),(21902,26003)]) (Tn.kp (S':=⟨[(0,.P 0),(2,.P 26000),(3,.P 26001),(4,.P 26002),(56,.B ((decide (((b.getD (Int.toNat (if (i64.wrap ((b.length:Int) - 1)) <(i64.wrap ((i64.wrap (c+1))+1)) then (i64.wrap ((b.length:Int) - 1)) else (i64.wrap ((i64.wrap (c+1))+1)))) Et)).Text=([61]:Ge)))))],[(0,.raw [.ro .Ap b,.I (i64.wrap (c+1))]),(26000,.raw [.I 0,.str [],.I 0,.str [],.N]),(26001,.raw [.I 49,.str [],.I 0,.str [],.own .Af 26003]),(26002,.raw [.I 50,.str [],.I 0,.str [],.N]),(26003,.lst .Af d)]⟩)))) ?_;cases h;exact ⟨rfl,_,rfl,rfl⟩
       refine Tw (rg L 254 [(4,true),(9,false)] [(1,.agg (E6 a4))] [] (Tp (Cj.ok h4) (Tp trivial (Tp (Gt c3) (Tu (Lt c4))))) ⟨rfl,rfl⟩) (Tn.trans (Tn.kk [0,2,3,4,56] [0,230,21900,21901,21902]) (Tn.trans (Tn.rr [(0,0),(230,26002),(21900,26000),(21901,26001),(21902,26003)]) (Tn.kp (S':=⟨[(0,.P 0),(2,.P 26000),(3,.P 26001),(4,.P 26002),(56,.B false)],[(0,.raw [.ro .Ap b,.I (i64.wrap (c+1))]),(26000,.raw [.I 0,.str [],.I 0,.str [],.N]),(26001,.raw [.I 49,.str [],.I 0,.str [],.own .Af 26003]),(26002,.raw [.I 50,.str [],.I 0,.str [],.N]),(26003,.lst .Af d)]⟩)))) ?_;cases h;exact ⟨rfl,_,rfl,rfl⟩
      refine Tw (rg L 254 [(4,false)] [(1,.agg (E6 a4))] [] (Tp (Cj.ok h4) (Tp trivial (Tu (Lt c3)))) ⟨rfl,rfl⟩) (Tn.trans (Tn.kk [0,2,3,4,56] [0,230,21900,21901,21902]) (Tn.trans (Tn.rr [(0,0),(230,26002),(21900,26000),(21901,26001),(21902,26003)]) (Tn.kp (S':=⟨[(0,.P 0),(2,.P 26000),(3,.P 26001),(4,.P 26002),(56,.B false)],[(0,.raw [.ro .Ap b,.I (i64.wrap (c+1))]),(26000,.raw [.I 0,.str [],.I 0,.str [],.N]),(26001,.raw [.I 49,.str [],.I 0,.str [],.own .Af 26003]),(26002,.raw [.I 50,.str [],.I 0,.str [],.N]),(26003,.lst .Af d)]⟩)))) ?_;cases h;exact ⟨rfl,_,rfl,rfl⟩
     ·rintro e S ⟨rfl,s,rfl,rfl⟩;refine iS h (fun c5 h=>?_) fun c5 h=>?_
      ·refine tt c5 <| Tm <| bS h fun a5 h5 h=>?_
       rcases a5 with a5 | a5
       ·dsimp only at h;refine qn L 269 [] [] [] 1 (T3 (.tup []) []) (Uh 59 a5) (Tu (Aw.okE h5)) ?_;cases h;exact .inr ⟨.inr ⟨_,rfl⟩,_,rfl,rfl⟩
       ·obtain ⟨y,w⟩:=a5;refine rg L 269 [] [] [(1,(T3 (.cv (.str y)) [(0,.raw (Ae w))]))] (Tu (Aw.okE h5)) <| Tw (Wh L 274 ⟨rfl,rfl⟩) (Tn.trans (Tn.kk [0,2,3,4] [0,26000,26001,26002,26003]) (Tn.trans (Tn.rr [(0,0),(26000,25400),(26001,25401),(26002,25402),(26003,25403)]) (Tn.kp (S':=⟨[(0,.P 0),(2,.P 25400),(3,.P 25401),(4,.P 25402)],[(0,.raw [.ro .Ap w.l,.I (i64.wrap (w.i+1))]),(25400,.raw [.I 0,.str [],.I 0,.str [],.N]),(25401,.raw [.I 49,.str [],.I 0,.str [],.own .Af 25403]),(25402,.raw [.I 50,.str y,.I 0,.str [],.N]),(25403,.lst .Af d)]⟩)))) ?_;cases h;exact .inl ⟨rfl,_,_,_,rfl,rfl⟩
      refine fN c5 <| Tr (Tn.trans (Tn.kk [0,2,3,4] [0,26000,26001,26002,26003]) (Tn.rr [(0,0),(26000,25400),(26001,25401),(26002,25402),(26003,25403)])) <| sk (S':=⟨[(0,.P 0),(2,.P 25400),(3,.P 25401),(4,.P 25402)],[(0,.raw [.ro .Ap b,.I (i64.wrap (c+1))]),(25400,.raw [.I 0,.str [],.I 0,.str [],.N]),(25401,.raw [.I 49,.str [],.I 0,.str [],.own .Af 25403]),(25402,.raw [.I 50,.str [],.I 0,.str [],.N]),(25403,.lst .Af d)]⟩) ?_;cases h;exact .inl ⟨rfl,_,_,_,rfl,rfl⟩
    ·rintro e S (⟨rfl,j,m,g,rfl,rfl⟩ |⟨he,a,rfl,hr⟩)
     ·rcases h with ⟨_,e1,h⟩ |⟨_,e1,h⟩
      ·cases e1
      ·have e2:=Ty.go.inj e1;subst e2;refine Tm <| bS h fun a6 h6 h=>?_
       rcases a6 with a6 | a6
       ·dsimp only at h;refine qn L 283 [] [] [] 1 (T3 (.tup []) []) (Uh 59 a6) (Tu (Ay.okE h6)) ?_;cases h;exact .inr ⟨.inr ⟨_,rfl⟩,_,rfl,rfl⟩
       ·obtain ⟨t,aa⟩:=a6;refine bS h fun a7 h7 h=>?_
        rcases a7 with a7 | a7
        ·dsimp only at h;refine qn L 283 [] [] [(1,(T3 (.agg (Ag t)) [(0,.raw (Ae aa))]))] 3 (T3 (.tup []) []) (Uh 59 a7) (Ur (Ay.okE h6) (hR.Ar h7)) ?_;cases h;exact .inr ⟨.inr ⟨_,rfl⟩,_,rfl,rfl⟩
        ·obtain ⟨u,ab⟩:=a7;exact rg L 283 [] [] [(1,(T3 (.agg (Ag t)) [(0,.raw (Ae aa))])),(3,(T3 (.agg (Ag u)) [(0,.raw (Ae ab))]))] (Ur (Ay.okE h6) (hR.Ar h7)) <| gS h fun g2 h=>Tw (rg L 291 [] [] [] (Uq g2) ⟨rfl,rfl⟩) (Tn.trans (Tn.kk [0,2,3] [0,25400,25401,25403]) (Tn.trans (Tn.rr [(0,0),(25400,21900),(25401,21901),(25403,21902)]) (Tn.kp (S':=⟨[(0,.P 0),(2,.P 21900),(3,.P 21901)],[(0,.raw (Ae ab)),(21900,.raw [.I 0,.str [],.I 0,.str [],.N]),(21901,.raw [.I 49,.str [],.I 0,.str [],.own .Af 21902]),(21902,.lst .Af (d++([(⟨50,g,0,[],([(⟨t.Op,t.Name,t.Int,t.Text,t.Kids⟩:Aa),(⟨u.Op,u.Name,u.Int,u.Text,u.Kids⟩:Aa)]:List Aa)⟩:Aa)]:List Aa)))]⟩)))) <|⟨k,Nat.lt_succ_self k,_,_,_,rfl,h⟩
     ·rcases h with ⟨_,e1,h⟩ |⟨_,e1,h⟩
      ·have e2:=Ty.done.inj e1;subst e2;subst h;rcases he with rfl |⟨ch,rfl⟩
       ·exact .inr ⟨.inl rfl,_,rfl,hr⟩
       ·exact .inr ⟨.inr ⟨_,rfl⟩,_,rfl,hr⟩
      ·cases e1
   refine fN c1 <| Tr (Tn.trans (Tn.kk [0,2,3] [0,21900,21901,21902]) (Tn.rr [(0,0),(21900,21800),(21901,21801),(21902,21802)])) <| ex (S':=⟨[(0,.P 0),(2,.P 21800),(3,.P 21801)],[(0,.raw [.ro .Ap b,.I c]),(21800,.raw [.I 0,.str [],.I 0,.str [],.N]),(21801,.raw [.I 49,.str [],.I 0,.str [],.own .Af 21802]),(21802,.lst .Af d)]⟩) ?_;cases h;exact .inl ⟨rfl,_,_,_,rfl,rfl⟩
  ·rintro e S (⟨rfl,p,q,f,rfl,rfl⟩ |⟨he,a,rfl,hr⟩)
   ·rcases h with ⟨_,e1,h⟩ |⟨_,e1,h⟩
    ·cases e1
    ·have e2:=Ty.go.inj e1;subst e2;refine ⟨_,Tn.refl,?_⟩;obtain ⟨o4,hp4,h⟩:=T7 h;refine Tm (T8 (Q':=fun e S=>(e=.normal∧∃ n:List Av,∃ o:Int,∃ v:List Aa,S=⟨[(0,.P 0),(2,.P 28000),(3,.P 28001)],[(0,.raw [.ro .Ap n,.I o]),(28000,.raw [.I 0,.str [],.I 0,.str [],.N]),(28001,.raw [.I 49,.str [],.I 0,.str [],.own .Af 28002]),(28002,.lst .Af v)]⟩∧Ty.go (n,o,v)=o4)∨((e=.ret∨∃ ch,e=.panic ch)∧∃ a,Ty.done a=o4∧Ui P V Tryz.f146 (Bm.rep p0 a) (Bm.post p0 a) e S)) ?_ ?_)
     ·clear h;replace h:=hp4;refine Tm ?_;obtain ⟨⟨ae,ad⟩,h8,h⟩:=bind_some h;refine rg L 299 [] [] [(1,(T3 (.B ae) [(0,.raw (Ae ad))]))] (Tu (Ao.okE h8)) <| iS h (fun c6 h=>?_) fun c6 h=>?_
      ·refine tt c6 <| bS h fun a9 h9 h=>?_
       rcases a9 with a9 | a9
       ·dsimp only at h;refine qP L mixed 302 [] [] [] [0,2] 3 (T3 (.tup []) []) (Uh 59 a9) (Ur (hR.Ar h9) (hR.Ar h9)) ?_;cases h;exact .inr ⟨.inr ⟨_,rfl⟩,_,rfl,rfl⟩
       ·obtain ⟨af,x⟩:=a9;refine bS h fun a10 h10 h=>gS h fun g3 h=>Tw (hB L mixed 302 [] [(5,.agg (Ag a10))] [(3,(T3 (.agg (Ag af)) [(0,.raw (Ae x))]))] [0,2] 5 (Tp (hR.Ar h9) (Tp (Dn.ok h10) (Tp trivial (Tp g3 (Tp trivial (Tp (hR.Ar h9) (Tp (Dn.ok h10) (Tp trivial (Tp g3 (Tp trivial (Tp (Dn.ok h10) (Tp trivial (Tp g3 (Tp trivial (Tp (Dn.ok h10) (Tp trivial (Tp g3 (Tp trivial (Tp g3 (Tu trivial)))))))))))))))))))) (S':=⟨[(0,.P 0),(2,.P 21800),(3,.P 21801)],[(0,.raw (Ae x)),(21800,.raw [.I 0,.str [],.I 0,.str [],.N]),(21801,.raw [.I 49,.str [],.I 0,.str [],.own .Af 21802]),(21802,.lst .Af (f++([(⟨a10.Op,a10.Name,a10.Int,a10.Text,a10.Kids⟩:Aa)]:List Aa)))]⟩) ⟨rfl,rfl⟩) (Tn.trans (Tn.kk [0,2,3] [0,21800,21801,21802]) (Tn.trans (Tn.rr [(0,0),(21800,28000),(21801,28001),(21802,28002)]) (Tn.kp (S':=⟨[(0,.P 0),(2,.P 28000),(3,.P 28001)],[(0,.raw (Ae x)),(28000,.raw [.I 0,.str [],.I 0,.str [],.N]),(28001,.raw [.I 49,.str [],.I 0,.str [],.own .Af 28002]),(28002,.lst .Af (f++([(⟨a10.Op,a10.Name,a10.Int,a10.Text,a10.Kids⟩:Aa)]:List Aa)))]⟩)))) ?_
        cases h;exact .inl ⟨rfl,_,_,_,rfl,rfl⟩
      refine fN c6 <| Tr (Tn.trans (Tn.kk [0,2,3] [0,21800,21801,21802]) (Tn.rr [(0,0),(21800,28000),(21801,28001),(21802,28002)])) <| sk (S':=⟨[(0,.P 0),(2,.P 28000),(3,.P 28001)],[(0,.raw (Ae ad)),(28000,.raw [.I 0,.str [],.I 0,.str [],.N]),(28001,.raw [.I 49,.str [],.I 0,.str [],.own .Af 28002]),(28002,.lst .Af f)]⟩) ?_;cases h;exact .inl ⟨rfl,_,_,_,rfl,rfl⟩
     ·rintro e S (⟨rfl,n,o,v,rfl,rfl⟩ |⟨he,a,rfl,hr⟩)
      ·rcases h with ⟨_,e1,h⟩ |⟨_,e1,h⟩
       ·cases e1
       ·have e2:=Ty.go.inj e1;subst e2;refine Tm <| Tt L 313 <| iS h (fun c7 h=>?_) fun c7 h=>?_
        ·refine tT c7 <| bS h fun a11 h11 h=>qn L 318 [] [] [] 1 (T3 (.tup []) []) (Uh 59 a11) (Tu (Br.okE h11)) ?_
         cases h;exact rfl
        refine fF c7 <| Tq <| Tm <| bS h fun a12 h12 h=>?_
        rcases a12 with a12 | a12
        ·dsimp only at h;refine rg L 321 [] [] [(1,(T3 (.tup []) [(0,.raw (Ae a12))]))] (Tu (Aq.okE h12)) <| Tt L 324 <| Tr (Tn.trans (Tn.kk [2] [0,28000,28002]) (Tn.trans (Tn.fz 28002) (Tn.rr [(0,0),(28000,100)]))) <| To ?_;cases h;exact Vr
        ·obtain ⟨a12,rfl⟩:∃ z,z=a12:=⟨_,rfl⟩
         refine qn L 321 [] [] [] 1 (T3 (.tup []) []) (Uh 59 a12) (Tu (Aq.okE h12)) ?_;cases h;exact rfl
      ·rcases h with ⟨_,e1,h⟩ |⟨_,e1,h⟩
       ·have e2:=Ty.done.inj e1;subst e2;subst h;rcases he with rfl |⟨ch,rfl⟩
        ·exact hr
        ·exact hr
       ·cases e1
   ·rcases h with ⟨_,e1,h⟩ |⟨_,e1,h⟩
    ·have e2:=Ty.done.inj e1;subst e2;subst h;rcases he with rfl |⟨ch,rfl⟩
     ·exact ⟨_,Tn.refl,hr⟩
     ·exact ⟨_,Tn.refl,hr⟩
    ·cases e1
 ·obtain ⟨a1,rfl⟩:∃ z,z=a1:=⟨_,rfl⟩
  refine qn L 206 [] [] [] 1 (T3 (.tup []) []) (Uh 59 a1) (Tu (Aq.okE h1)) ?_;cases h;exact rfl
def Bz.F (K:Nat) (R:Bo) (p0:Ab):Option (Int ⊕ (Aa×Ab)):=((Ao K ([108,101,116]:Ge) p0).bind fun (ap,p)=>(if ap=true then ((Aw K p).bind fun a2=>match a2 with |(Sum.inl a2)=>some (Sum.inl a2) |(Sum.inr (aq,ar))=>((Aq K ([61]:Ge) ar).bind fun a3=>match a3 with |(Sum.inl a3)=>((Co K a3).bind fun a4=>match a4 with |(Sum.inl a4)=>some (Sum.inl a4) |(Sum.inr (f,au))=>some (Sum.inr ((⟨40,aq,0,[],([(⟨f.Op,f.Name,f.Int,f.Text,f.Kids⟩:Aa)]:List Aa)⟩:Aa),au))) |(Sum.inr a3)=>some (Sum.inl a3))) else ((Ao K ([105,102]:Ge) p).bind fun (av,q)=>(if av=true then ((R.Bk q).bind fun a6=>match a6 with |(Sum.inl a6)=>some (Sum.inl a6) |(Sum.inr (aw,ax))=>some (Sum.inr (aw,ax))) else ((Ao K ([119,104,105,108,101]:Ge) q).bind fun (ay,r)=>(if ay=true then ((Ay K r).bind fun a8=>match a8 with |(Sum.inl a8)=>some (Sum.inl a8) |(Sum.inr (g,az))=>((R.Ar az).bind fun a9=>match a9 with |(Sum.inl a9)=>some (Sum.inl a9) |(Sum.inr (h,a0))=>((Dn K 43 ([(⟨g.Op,g.Name,g.Int,g.Text,g.Kids⟩:Aa),(⟨h.Op,h.Name,h.Int,h.Text,h.Kids⟩:Aa)]:List Aa)).bind fun a10=>some (Sum.inr (a10,a0))))) else ((Ao K ([114,101,116,117,114,110]:Ge) r).bind fun (s,i)=>(if s=true then ((Ao K ([59]:Ge) i).bind fun (t,j)=>(if t=true then some (Sum.inr ((⟨44,[],0,[],([]:List Aa)⟩:Aa),j)) else ((Co K j).bind fun a13=>match a13 with |(Sum.inl a13)=>some (Sum.inl a13) |(Sum.inr (a,u))=>((Dn K 44 ([(⟨a.Op,a.Name,a.Int,a.Text,a.Kids⟩:Aa)]:List Aa)).bind fun a14=>some (Sum.inr (a14,u)))))) else ((Ao K ([116,104,114,111,119]:Ge) i).bind fun (v,k)=>(if v=true then ((Co K k).bind fun a16=>match a16 with |(Sum.inl a16)=>some (Sum.inl a16) |(Sum.inr (b,w))=>((Dn K 45 ([(⟨b.Op,b.Name,b.Int,b.Text,b.Kids⟩:Aa)]:List Aa)).bind fun a17=>some (Sum.inr (a17,w)))) else ((Ao K ([116,114,121]:Ge) k).bind fun (x,l)=>(if x=true then ((R.Ar l).bind fun a19=>match a19 with |(Sum.inl a19)=>some (Sum.inl a19) |(Sum.inr (c,y))=>((Aq K ([99,97,116,99,104]:Ge) y).bind fun a20=>match a20 with |(Sum.inl a20)=>((Aw K a20).bind fun a21=>match a21 with |(Sum.inl a21)=>some (Sum.inl a21) |(Sum.inr (z,aa))=>((R.Ar aa).bind fun a22=>match a22 with |(Sum.inl a22)=>some (Sum.inl a22) |(Sum.inr (d,ab))=>some (Sum.inr ((⟨46,z,0,[],([(⟨c.Op,c.Name,c.Int,c.Text,c.Kids⟩:Aa),(⟨d.Op,d.Name,d.Int,d.Text,d.Kids⟩:Aa)]:List Aa)⟩:Aa),ab)))) |(Sum.inr a20)=>some (Sum.inl a20))) else ((Ao K ([115,97,103,97]:Ge) l).bind fun (ad,m)=>(if ad=true then ((R.Ar m).bind fun a24=>match a24 with |(Sum.inl a24)=>some (Sum.inl a24) |(Sum.inr (e,ae))=>((Dn K 47 ([(⟨e.Op,e.Name,e.Int,e.Text,e.Kids⟩:Aa)]:List Aa)).bind fun a25=>some (Sum.inr (a25,ae)))) else ((Ao K ([117,110,100,111]:Ge) m).bind fun (af,n)=>(if af=true then ((Aw K n).bind fun a27=>match a27 with |(Sum.inl a27)=>some (Sum.inl a27) |(Sum.inr (ag,ah))=>((Bt K 48 ag ah).bind fun a28=>match a28 with |(Sum.inl (ai,aj))=>((Aq K ([59]:Ge) aj).bind fun a29=>match a29 with |(Sum.inl a29)=>some (Sum.inr (ai,a29)) |(Sum.inr a29)=>some (Sum.inl a29)) |(Sum.inr a28)=>some (Sum.inl a28))) else ((Ao K ([115,101,108,101,99,116]:Ge) n).bind fun (ak,o)=>(if ak=true then ((R.Bm o).bind fun a31=>match a31 with |(Sum.inl a31)=>some (Sum.inl a31) |(Sum.inr (al,am))=>some (Sum.inr (al,am))) else ((Dt K o).bind fun a32=>match a32 with |(Sum.inl a32)=>some (Sum.inl a32) |(Sum.inr (an,ao))=>some (Sum.inr (an,ao)))))))))))))))))))))
theorem Bz.body {Γ:Ue} {K:Nat} {R:Bo} (hR:R.Ok) {p0:Ab} {r:Int ⊕ (Aa×Ab)} (h:Bz.F K R p0=some r):Uc V P 87 100 Γ (Tryz.f109.body.getD .skip) (Ui P V Tryz.f109 (Bz.rep p0 r) (Bz.post p0 r)) ⟨T0 0 [.P 0],[(0,.raw (Ae p0))]⟩:=by
 unfold Bz.F at h;refine Tt L 200 <| Tm <| Ts <| Tm ?_;obtain ⟨⟨ao,ap⟩,h1,h⟩:=bind_some h;refine rg L 202 [] [] [(1,(T3 (.B ao) [(0,.raw (Ae ap))]))] (Tu (Ao.okE h1)) <| iS h (fun c1 h=>?_) fun c1 h=>?_
 ·refine tt c1 <| Tm <| bS h fun a2 h2 h=>?_
  rcases a2 with a2 | a2
  ·dsimp only at h;refine qn L 206 [] [] [] 1 (T3 (.tup []) []) (Uh 59 a2) (Tu (Aw.okE h2)) ?_;cases h;exact rfl
  ·obtain ⟨aq,ar⟩:=a2;refine rg L 206 [] [] [(1,(T3 (.cv (.str aq)) [(0,.raw (Ae ar))]))] (Tu (Aw.okE h2)) <| Tm <| bS h fun a3 h3 h=>?_
   rcases a3 with a3 | a3
   ·dsimp only at h;refine rg L 210 [] [] [(1,(T3 (.tup []) [(0,.raw (Ae a3))]))] (Tu (Aq.okE h3)) <| Tm <| bS h fun a4 h4 h=>?_
    rcases a4 with a4 | a4
    ·dsimp only at h;refine qn L 213 [] [] [] 2 (T3 (.tup []) []) (Uh 59 a4) (Tu (Co.okE h4)) ?_;cases h;exact rfl
    ·obtain ⟨au,av⟩:=a4;refine rg L 213 [] [] [(2,(T3 (.agg (Ag au)) [(0,.raw (Ae av))]))] (Tu (Co.okE h4)) <| Tr (Tn.trans (Tn.kk [2] [0,200]) (Tn.rr [(0,0),(200,100)])) <| To ?_;cases h;exact Vr
   ·obtain ⟨a3,rfl⟩:∃ z,z=a3:=⟨_,rfl⟩
    refine qn L 210 [] [] [] 1 (T3 (.tup []) []) (Uh 59 a3) (Tu (Aq.okE h3)) ?_;cases h;exact rfl
 refine fN c1 <| Tm ?_;obtain ⟨⟨aw,ax⟩,h5,h⟩:=bind_some h;refine rg L 220 [] [] [(1,(T3 (.B aw) [(0,.raw (Ae ax))]))] (Tu (Ao.okE h5)) <| iS h (fun c2 h=>?_) fun c2 h=>?_
 ·refine tt c2 <| Tm <| bS h fun a6 h6 h=>?_
  rcases a6 with a6 | a6
  ·dsimp only at h;refine qn L 224 [] [] [] 1 (T3 (.tup []) []) (Uh 59 a6) (Tu (hR.Bk h6)) ?_;cases h;exact rfl
  ·obtain ⟨ay,az⟩:=a6;refine rg L 224 [] [] [(1,(T3 (.agg (Ag ay)) [(0,.raw (Ae az))]))] (Tu (hR.Bk h6)) <| Tr (Tn.trans (Tn.kk [2] [0,200]) (Tn.rr [(0,0),(200,100)])) <| To ?_;cases h;exact Vr
 refine fN c2 <| Tm ?_;obtain ⟨⟨a0,a1⟩,h7,h⟩:=bind_some h;refine rg L 228 [] [] [(1,(T3 (.B a0) [(0,.raw (Ae a1))]))] (Tu (Ao.okE h7)) <| iS h (fun c3 h=>?_) fun c3 h=>?_
 ·refine tt c3 <| Tm <| bS h fun a8 h8 h=>?_
  rcases a8 with a8 | a8
  ·dsimp only at h;refine qn L 232 [] [] [] 1 (T3 (.tup []) []) (Uh 59 a8) (Tu (Ay.okE h8)) ?_;cases h;exact rfl
  ·obtain ⟨i,j⟩:=a8;refine bS h fun a9 h9 h=>?_
   rcases a9 with a9 | a9
   ·dsimp only at h;refine qn L 232 [] [] [(1,(T3 (.agg (Ag i)) [(0,.raw (Ae j))]))] 3 (T3 (.tup []) []) (Uh 59 a9) (Ur (Ay.okE h8) (hR.Ar h9)) ?_;cases h;exact rfl
   ·obtain ⟨a5,a7⟩:=a9;refine bS h fun a10 h10 h=>rg L 232 [] [(5,.agg (Ag a10))] [(1,(T3 (.agg (Ag i)) [(0,.raw (Ae j))])),(3,(T3 (.agg (Ag a5)) [(0,.raw (Ae a7))]))] (Tp (Ay.okE h8) (Tp (hR.Ar h9) (Tp (Dn.ok h10) (Tu trivial)))) <| Tr (Tn.trans (Tn.kk [2] [0,200]) (Tn.rr [(0,0),(200,100)])) <| To ?_
    cases h;exact Vr
 refine fN c3 <| Tm ?_;obtain ⟨⟨k,l⟩,h11,h⟩:=bind_some h;refine rg L 240 [] [] [(1,(T3 (.B k) [(0,.raw (Ae l))]))] (Tu (Ao.okE h11)) <| iS h (fun c4 h=>?_) fun c4 h=>?_
 ·refine tt c4 <| Tm <| Tm ?_;obtain ⟨⟨m,n⟩,h12,h⟩:=bind_some h;refine rg L 244 [] [] [(1,(T3 (.B m) [(0,.raw (Ae n))]))] (Tu (Ao.okE h12)) <| iS h (fun c5 h=>?_) fun c5 h=>?_
  ·refine tt c5 <| Tt L 247 <| Tr (Tn.trans (Tn.kk [2] [0,200]) (Tn.rr [(0,0),(200,100)])) <| To ?_;cases h;exact Vr
  refine fN c5 <| Tq <| Tm <| bS h fun a13 h13 h=>?_
  rcases a13 with a13 | a13
  ·dsimp only at h;refine qn L 250 [] [] [] 1 (T3 (.tup []) []) (Uh 59 a13) (Tu (Co.okE h13)) ?_;cases h;exact rfl
  ·obtain ⟨o,p⟩:=a13;refine bS h fun a14 h14 h=>rg L 250 [] [(3,.agg (Ag a14))] [(1,(T3 (.agg (Ag o)) [(0,.raw (Ae p))]))] (Tp (Co.okE h13) (Tp (Dn.ok h14) (Tu trivial))) <| Tr (Tn.trans (Tn.kk [2] [0,200]) (Tn.rr [(0,0),(200,100)])) <| To ?_
   cases h;exact Vr
 refine fN c4 <| Tm ?_;obtain ⟨⟨q,s⟩,h15,h⟩:=bind_some h;refine rg L 256 [] [] [(1,(T3 (.B q) [(0,.raw (Ae s))]))] (Tu (Ao.okE h15)) <| iS h (fun c6 h=>?_) fun c6 h=>?_
 ·refine tt c6 <| Tm <| bS h fun a16 h16 h=>?_
  rcases a16 with a16 | a16
  ·dsimp only at h;refine qn L 260 [] [] [] 1 (T3 (.tup []) []) (Uh 59 a16) (Tu (Co.okE h16)) ?_;cases h;exact rfl
  ·obtain ⟨t,u⟩:=a16;refine bS h fun a17 h17 h=>rg L 260 [] [(3,.agg (Ag a17))] [(1,(T3 (.agg (Ag t)) [(0,.raw (Ae u))]))] (Tp (Co.okE h16) (Tp (Dn.ok h17) (Tu trivial))) <| Tr (Tn.trans (Tn.kk [2] [0,200]) (Tn.rr [(0,0),(200,100)])) <| To ?_
   cases h;exact Vr
 refine fN c6 <| Tm ?_;obtain ⟨⟨v,w⟩,h18,h⟩:=bind_some h;refine rg L 266 [] [] [(1,(T3 (.B v) [(0,.raw (Ae w))]))] (Tu (Ao.okE h18)) <| iS h (fun c7 h=>?_) fun c7 h=>?_
 ·refine tt c7 <| Tm <| bS h fun a19 h19 h=>?_
  rcases a19 with a19 | a19
  ·dsimp only at h;refine qn L 270 [] [] [] 1 (T3 (.tup []) []) (Uh 59 a19) (Tu (hR.Ar h19)) ?_;cases h;exact rfl
  ·obtain ⟨a,x⟩:=a19;refine rg L 270 [] [] [(1,(T3 (.agg (Ag a)) [(0,.raw (Ae x))]))] (Tu (hR.Ar h19)) <| Tm <| bS h fun a20 h20 h=>?_
   rcases a20 with a20 | a20
   ·dsimp only at h;refine rg L 275 [] [] [(1,(T3 (.tup []) [(0,.raw (Ae a20))]))] (Tu (Aq.okE h20)) <| Tm <| bS h fun a21 h21 h=>?_
    rcases a21 with a21 | a21
    ·dsimp only at h;refine qP L mixed 278 [] [] [] [0,3] 1 (T3 (.tup []) []) (Uh 59 a21) (Ur (Aw.okE h21) (Aw.okE h21)) ?_;cases h;exact rfl
    ·obtain ⟨c,d⟩:=a21;refine bS h fun a22 h22 h=>?_
     rcases a22 with a22 | a22
     ·dsimp only at h;refine qP L mixed 278 [] [] [(1,(T3 (.cv (.str c)) [(0,.raw (Ae d))]))] [0,3] 4 (T3 (.tup []) []) (Uh 59 a22) (Tp (Aw.okE h21) (Tp (hR.Ar h22) (Tp (hR.Ar h22) (Tp (Aw.okE h21) (Tu (hR.Ar h22)))))) ?_;cases h;exact rfl
     ·obtain ⟨b,e⟩:=a22;refine hB L mixed 278 [] [] [(1,(T3 (.cv (.str c)) [(0,.raw (Ae d))])),(4,(T3 (.agg (Ag b)) [(0,.raw (Ae e))]))] [0,3] 3 (Tp (Aw.okE h21) (Tp (hR.Ar h22) (Tp (hR.Ar h22) (Tp (Aw.okE h21) (Tu (hR.Ar h22)))))) (S':=⟨[(2,.P 200)],[(0,.raw (Ae e)),(200,.raw [.I 46,.str c,.I 0,.str [],.ro .Af ([(⟨a.Op,a.Name,a.Int,a.Text,a.Kids⟩:Aa),(⟨b.Op,b.Name,b.Int,b.Text,b.Kids⟩:Aa)]:List Aa)])]⟩) <| Tr (Tn.trans (Tn.kk [2] [0,200]) (Tn.rr [(0,0),(200,100)])) <| To ?_;cases h;exact Vr
   ·obtain ⟨a20,rfl⟩:∃ z,z=a20:=⟨_,rfl⟩
    refine qn L 275 [] [] [] 1 (T3 (.tup []) []) (Uh 59 a20) (Tu (Aq.okE h20)) ?_;cases h;exact rfl
 refine fN c7 <| Tm ?_;obtain ⟨⟨y,aa⟩,h23,h⟩:=bind_some h;refine rg L 287 [] [] [(1,(T3 (.B y) [(0,.raw (Ae aa))]))] (Tu (Ao.okE h23)) <| iS h (fun c8 h=>?_) fun c8 h=>?_
 ·refine tt c8 <| Tm <| bS h fun a24 h24 h=>?_
  rcases a24 with a24 | a24
  ·dsimp only at h;refine qn L 291 [] [] [] 1 (T3 (.tup []) []) (Uh 59 a24) (Tu (hR.Ar h24)) ?_;cases h;exact rfl
  ·obtain ⟨ab,ad⟩:=a24;refine bS h fun a25 h25 h=>rg L 291 [] [(3,.agg (Ag a25))] [(1,(T3 (.agg (Ag ab)) [(0,.raw (Ae ad))]))] (Tp (hR.Ar h24) (Tp (Dn.ok h25) (Tu trivial))) <| Tr (Tn.trans (Tn.kk [2] [0,200]) (Tn.rr [(0,0),(200,100)])) <| To ?_
   cases h;exact Vr
 refine fN c8 <| Tm ?_;obtain ⟨⟨ae,af⟩,h26,h⟩:=bind_some h;refine rg L 297 [] [] [(1,(T3 (.B ae) [(0,.raw (Ae af))]))] (Tu (Ao.okE h26)) <| iS h (fun c9 h=>?_) fun c9 h=>?_
 ·refine tt c9 <| Tm <| bS h fun a27 h27 h=>?_
  rcases a27 with a27 | a27
  ·dsimp only at h;refine qn L 301 [] [] [] 2 (T3 (.tup []) []) (Uh 59 a27) (Tu (Aw.okE h27)) ?_;cases h;exact rfl
  ·obtain ⟨f,g⟩:=a27;refine bS h fun a28 h28 h=>?_
   rcases a28 with ⟨ag,ah⟩ | a28
   ·dsimp only at h;refine rg L 301 [] [] [(2,(T3 (.cv (.str f)) [(0,.raw (Ae g))])),(3,(T3 (.agg (Ag ag)) [(0,.raw (Ae ah))]))] (Ur (Aw.okE h27) (Bt.okE h28)) <| Tm <| bS h fun a29 h29 h=>?_
    rcases a29 with a29 | a29
    ·dsimp only at h;refine rg L 308 [] [] [(1,(T3 (.tup []) [(0,.raw (Ae a29))]))] (Tu (Aq.okE h29)) <| Tt L 311 <| Tr (Tn.trans (Tn.kk [2] [0,200]) (Tn.rr [(0,0),(200,100)])) <| To ?_;cases h;exact Vr
    ·obtain ⟨a29,rfl⟩:∃ z,z=a29:=⟨_,rfl⟩
     refine qn L 308 [] [] [] 1 (T3 (.tup []) []) (Uh 59 a29) (Tu (Aq.okE h29)) ?_;cases h;exact rfl
   ·obtain ⟨a28,rfl⟩:∃ z,z=a28:=⟨_,rfl⟩
    refine qn L 301 [] [] [(2,(T3 (.cv (.str f)) [(0,.raw (Ae g))]))] 3 (T3 (.tup []) []) (Uh 59 a28) (Ur (Aw.okE h27) (Bt.okE h28)) ?_;cases h;exact rfl
 refine fN c9 <| Tm ?_;obtain ⟨⟨ai,aj⟩,h30,h⟩:=bind_some h;refine rg L 314 [] [] [(1,(T3 (.B ai) [(0,.raw (Ae aj))]))] (Tu (Ao.okE h30)) <| iS h (fun c10 h=>?_) fun c10 h=>?_
 ·refine tt c10 <| Tm <| bS h fun a31 h31 h=>?_
  rcases a31 with a31 | a31
  ·dsimp only at h;refine qn L 318 [] [] [] 1 (T3 (.tup []) []) (Uh 59 a31) (Tu (hR.Bm h31)) ?_;cases h;exact rfl
  ·obtain ⟨ak,al⟩:=a31;refine rg L 318 [] [] [(1,(T3 (.agg (Ag ak)) [(0,.raw (Ae al))]))] (Tu (hR.Bm h31)) <| Tr (Tn.trans (Tn.kk [2] [0,200]) (Tn.rr [(0,0),(200,100)])) <| To ?_;cases h;exact Vr
 refine fN c10 <| Tq <| Tm <| bS h fun a32 h32 h=>?_
 rcases a32 with a32 | a32
 ·dsimp only at h;refine qn L 322 [] [] [] 1 (T3 (.tup []) []) (Uh 59 a32) (Tu (Dt.okE h32)) ?_;cases h;exact rfl
 ·obtain ⟨am,an⟩:=a32;refine rg L 322 [] [] [(1,(T3 (.agg (Ag am)) [(0,.raw (Ae an))]))] (Tu (Dt.okE h32)) <| Tr (Tn.trans (Tn.kk [2] [0,200]) (Tn.rr [(0,0),(200,100)])) <| To ?_;cases h;exact Vr
def Ar.l9 (K:Nat) (R:Bo):Nat→(List Av)→Int→(List Aa)→Option (Ty (Int ⊕ (Aa×Ab)) ((List Av)×Int×(List Aa)))
 | 0,_,_,_=>none
 | k+1,c,d,b=>((Ao K ([125]:Ge) (⟨c,d⟩:Ab)).bind fun (g,e)=>(if g=true then some (Ty.go (e.l,e.i,b)) else ((R.Bz e).bind fun a3=>match a3 with |(Sum.inl a3)=>some (Ty.done (Sum.inl a3)) |(Sum.inr (a,f))=>(if (b.length+([(⟨a.Op,a.Name,a.Int,a.Text,a.Kids⟩:Aa)]:List Aa).length) * 72≤140737488355328 then Ar.l9 K R k f.l f.i (b++([(⟨a.Op,a.Name,a.Int,a.Text,a.Kids⟩:Aa)]:List Aa)) else none))))
def Ar.F (K:Nat) (R:Bo) (p0:Ab):Option (Int ⊕ (Aa×Ab)):=((Aq K ([123]:Ge) p0).bind fun a1=>match a1 with |(Sum.inl a1)=>(Ub (Ar.l9 K R K a1.l a1.i ([]:List Aa):Option (Ty (Int ⊕ (Aa×Ab)) ((List Av)×Int×(List Aa)))) (fun r=>r) (fun (a,b,c)=>some (Sum.inr ((⟨53,[],0,[],c⟩:Aa),(⟨a,b⟩:Ab))))) |(Sum.inr a1)=>some (Sum.inl a1))
theorem Ar.body {Γ:Ue} {K:Nat} {R:Bo} (hR:R.Ok) {p0:Ab} {r:Int ⊕ (Aa×Ab)} (h:Ar.F K R p0=some r):Uc V P 18 100 Γ (Tryz.f69.body.getD .skip) (Ui P V Tryz.f69 (Ar.rep p0 r) (Ar.post p0 r)) ⟨T0 0 [.P 0],[(0,.raw (Ae p0))]⟩:=by
 unfold Ar.F at h;refine Tt L 200 <| Tt L 202 <| Tm <| bS h fun a1 h1 h=>?_
 rcases a1 with a1 | a1
 ·dsimp only at h;refine rg L 206 [] [] [(1,(T3 (.tup []) [(0,.raw (Ae a1))]))] (Tu (Aq.okE h1)) <| Tm <| Ts <| Tr (Tn.trans (Tn.kk [0,2,3] [0,200,203]) (Tn.trans (Tn.nc 203 4 9500 Tag.Af) (Tn.trans (Tn.kk [0,2,3] [0,200,203,9500]) (Tn.rr [(0,0),(200,21900),(203,21901),(9500,21902)])))) <| kp (S':=⟨[(0,.P 0),(2,.P 21900),(3,.P 21901)],[(0,.raw (Ae a1)),(21900,.raw [.I 0,.str [],.I 0,.str [],.N]),(21901,.raw [.I 53,.str [],.I 0,.str [],.own .Af 21902]),(21902,.lst .Af ([]:List Aa))]⟩) ?_;obtain ⟨o1,hp1,h⟩:=T7 h;refine Tx (Q':=fun e S=>(e=.exit 0∧∃ g:List Av,∃ i:Int,∃ l:List Aa,S=⟨[(2,.P 21800),(3,.P 21801)],[(0,.raw [.ro .Ap g,.I i]),(21800,.raw [.I 0,.str [],.I 0,.str [],.N]),(21801,.raw [.I 53,.str [],.I 0,.str [],.own .Af 21802]),(21802,.lst .Af l)]⟩∧Ty.go (g,i,l)=o1)∨((e=.ret∨∃ ch,e=.panic ch)∧∃ a,Ty.done a=o1∧Ui P V Tryz.f69 (Ar.rep p0 a) (Ar.post p0 a) e S)) (T4 (fun k S=>∃ d:List Av,∃ f:Int,∃ c:List Aa,S=⟨[(0,.P 0),(2,.P 21900),(3,.P 21901)],[(0,.raw [.ro .Ap d,.I f]),(21900,.raw [.I 0,.str [],.I 0,.str [],.N]),(21901,.raw [.I 53,.str [],.I 0,.str [],.own .Af 21902]),(21902,.lst .Af c)]⟩∧Ar.l9 K R k d f c=some o1) ?_ ⟨_,_,_,rfl,hp1⟩) ?_
  ·clear h hp1;intro k S hS;obtain ⟨d,f,c,rfl,h⟩:=hS;cases k with
   | zero=>cases h
   | succ k =>
   unfold Ar.l9 at h;refine Tm <| Tm ?_;obtain ⟨⟨m,n⟩,h2,h⟩:=bind_some h;refine rg L 209 [] [] [(1,(T3 (.B m) [(0,.raw (Ae n))]))] (Tu (Ao.okE h2)) <| iS h (fun c1 h=>?_) fun c1 h=>?_
   ·refine ff (b:=(!m)) (congrArg Bool.not (c1)) <| Tr (Tn.trans (Tn.kk [2,3] [0,21900,21901,21902]) (Tn.rr [(0,0),(21900,21800),(21901,21801),(21902,21802)])) <| ex (S':=⟨[(2,.P 21800),(3,.P 21801)],[(0,.raw (Ae n)),(21800,.raw [.I 0,.str [],.I 0,.str [],.N]),(21801,.raw [.I 53,.str [],.I 0,.str [],.own .Af 21802]),(21802,.lst .Af c)]⟩) ?_;cases h;exact .inl ⟨rfl,_,_,_,rfl,rfl⟩
   refine tt (b:=(!m)) (congrArg Bool.not (Xs c1)) <| Tq <| Ts <| bS h fun a3 h3 h=>?_
   rcases a3 with a3 | a3
   ·dsimp only at h;refine qP L mixed 213 [] [] [] [0,2] 3 (T3 (.tup []) []) (Uh 59 a3) (Ur (hR.Bz h3) (hR.Bz h3)) ?_;cases h;exact .inr ⟨.inr ⟨_,rfl⟩,_,rfl,rfl⟩
   ·obtain ⟨j,o⟩:=a3;exact gS h fun g1 h=>hB L mixed 213 [] [] [(3,(T3 (.agg (Ag j)) [(0,.raw (Ae o))]))] [0,2] 3 (Tp (hR.Bz h3) (Tp g1 (Tp trivial (Tp (hR.Bz h3) (Tp g1 (Tp trivial (Tp g1 (Tu trivial)))))))) (S':=⟨[(0,.P 0),(2,.P 21900),(3,.P 21901)],[(0,.raw (Ae o)),(21900,.raw [.I 0,.str [],.I 0,.str [],.N]),(21901,.raw [.I 53,.str [],.I 0,.str [],.own .Af 21902]),(21902,.lst .Af (c++([(⟨j.Op,j.Name,j.Int,j.Text,j.Kids⟩:Aa)]:List Aa)))]⟩) <|⟨k,Nat.lt_succ_self k,_,_,_,rfl,h⟩
  ·rintro e S (⟨rfl,g,i,l,rfl,rfl⟩ |⟨he,a,rfl,hr⟩)
   ·rcases h with ⟨_,e1,h⟩ |⟨_,e1,h⟩
    ·cases e1
    ·have e2:=Ty.go.inj e1;subst e2;refine ⟨_,Tn.refl,?_⟩;refine Tt L 222 <| Tr (Tn.trans (Tn.kk [2] [0,21800,21802]) (Tn.trans (Tn.fz 21802) (Tn.rr [(0,0),(21800,100)]))) <| To ?_;cases h;exact Vr
   ·rcases h with ⟨_,e1,h⟩ |⟨_,e1,h⟩
    ·have e2:=Ty.done.inj e1;subst e2;subst h;rcases he with rfl |⟨ch,rfl⟩
     ·exact ⟨_,Tn.refl,hr⟩
     ·exact ⟨_,Tn.refl,hr⟩
    ·cases e1
 ·obtain ⟨a1,rfl⟩:∃ z,z=a1:=⟨_,rfl⟩
  refine qn L 206 [] [] [] 1 (T3 (.tup []) []) (Uh 59 a1) (Tu (Aq.okE h1)) ?_;cases h;exact rfl
def Bo.upto (K:Nat):Nat→Bo
 | 0=>⟨fun _=>none,fun _=>none,fun _=>none,fun _=>none⟩
 | k+1=>⟨Bk.F K (Bo.upto K k),Bm.F K (Bo.upto K k),Bz.F K (Bo.upto K k),Ar.F K (Bo.upto K k)⟩
theorem Bo.upto_ok (K:Nat):∀ k,(Bo.upto K k).Ok
 | 0=>⟨fun h=>(by cases h),fun h=>(by cases h),fun h=>(by cases h),fun h=>(by cases h)⟩
 | k+1=>⟨fun {p0 r} h=>xo (fn:=Tryz.f144) (n:=31) (m:=100) fun Γ=>Bk.body (K:=K) (Bo.upto_ok K k) h,fun {p0 r} h=>xo (fn:=Tryz.f146) (n:=99) (m:=100) fun Γ=>Bm.body (K:=K) (Bo.upto_ok K k) h,fun {p0 r} h=>xo (fn:=Tryz.f109) (n:=87) (m:=100) fun Γ=>Bz.body (K:=K) (Bo.upto_ok K k) h,fun {p0 r} h=>xo (fn:=Tryz.f69) (n:=18) (m:=100) fun Γ=>Ar.body (K:=K) (Bo.upto_ok K k) h⟩
def Bk (K:Nat) (p0:Ab):Option (Int ⊕ (Aa×Ab)):=(Bo.upto K K).Bk p0
theorem Bk.okE {K:Nat} {p0:Ab} {r:Int ⊕ (Aa×Ab)} (h:Bk K p0=some r):Ug V P 144 [.P 0] [(0,.raw (Ae p0))] [0] (Bk.post p0 r) (Bk.rep p0 r):=(Bo.upto_ok K K).Bk h
def Bm (K:Nat) (p0:Ab):Option (Int ⊕ (Aa×Ab)):=(Bo.upto K K).Bm p0
theorem Bm.okE {K:Nat} {p0:Ab} {r:Int ⊕ (Aa×Ab)} (h:Bm K p0=some r):Ug V P 146 [.P 0] [(0,.raw (Ae p0))] [0] (Bm.post p0 r) (Bm.rep p0 r):=(Bo.upto_ok K K).Bm h
def Bz (K:Nat) (p0:Ab):Option (Int ⊕ (Aa×Ab)):=(Bo.upto K K).Bz p0
theorem Bz.okE {K:Nat} {p0:Ab} {r:Int ⊕ (Aa×Ab)} (h:Bz K p0=some r):Ug V P 109 [.P 0] [(0,.raw (Ae p0))] [0] (Bz.post p0 r) (Bz.rep p0 r):=(Bo.upto_ok K K).Bz h
def Ar (K:Nat) (p0:Ab):Option (Int ⊕ (Aa×Ab)):=(Bo.upto K K).Ar p0
theorem Ar.okE {K:Nat} {p0:Ab} {r:Int ⊕ (Aa×Ab)} (h:Ar K p0=some r):Ug V P 69 [.P 0] [(0,.raw (Ae p0))] [0] (Ar.post p0 r) (Ar.rep p0 r):=(Bo.upto_ok K K).Ar h
def Dl.l15 (K:Nat):Nat→(List Av)→Int→(List Aa)→Option (Ty ((Ab×(List Aa)) ⊕ Int) ((List Av)×Int×(List Aa)))
 | 0,_,_,_=>none
 | k+1,c,d,b=>((Ao K ([44]:Ge) (⟨c,d⟩:Ab)).bind fun (g,e)=>(if g=true then ((De K e).bind fun a4=>match a4 with |(Sum.inl a4)=>some (Ty.done (Sum.inr a4)) |(Sum.inr (a,f))=>(if (b.length+([(⟨a.Op,a.Name,a.Int,a.Text,a.Kids⟩:Aa)]:List Aa).length) * 72≤140737488355328 then Dl.l15 K k f.l f.i (b++([(⟨a.Op,a.Name,a.Int,a.Text,a.Kids⟩:Aa)]:List Aa)) else none)) else some (Ty.go (e.l,e.i,b))))
def Dl (K:Nat) (p0:Ge) (p1:Ab):Option ((Ab×(List Aa)) ⊕ Int):=((Ao K p0 p1).bind fun (g,e)=>(if g=true then some (Sum.inl (e,([]:List Aa))) else ((De K e).bind fun a2=>match a2 with |(Sum.inl a2)=>some (Sum.inr a2) |(Sum.inr (a,f))=>(Ub (Dl.l15 K K f.l f.i ([(⟨a.Op,a.Name,a.Int,a.Text,a.Kids⟩:Aa)]:List Aa):Option (Ty ((Ab×(List Aa)) ⊕ Int) ((List Av)×Int×(List Aa)))) (fun r=>r) (fun (b,c,d)=>((Aq K p0 (⟨b,c⟩:Ab)).bind fun a5=>match a5 with |(Sum.inl a5)=>some (Sum.inl (a5,d)) |(Sum.inr a5)=>some (Sum.inr a5)))))))
def Dl.rep (p0:Ge) (p1:Ab):(Ab×(List Aa)) ⊕ Int→Uz T
 |(Sum.inl (v0,v1))=>.ret (.cv (.own .Af 100))
 |(Sum.inr v0)=>.pan (Uh 59 v0)
def Dl.post (p0:Ge) (p1:Ab):(Ab×(List Aa)) ⊕ Int→List (Nat×T9 T)
 |(Sum.inl (v0,v1))=>[(0,.raw [.ro .Ap v0.l,.I v0.i]),(100,.lst .Af v1)]
 |(Sum.inr v0)=>[]
theorem Dl.body {Γ:Ue} {K:Nat} {p0:Ge} {p1:Ab} {r:(Ab×(List Aa)) ⊕ Int} (h:Dl K p0 p1=some r):Uc V P 25 100 Γ (Tryz.f67.body.getD .skip) (Ui P V Tryz.f67 (Dl.rep p0 p1 r) (Dl.post p0 p1 r)) ⟨T0 0 [.P 0,.cv (.str p0),.cv (.fn (.func 68) [.P 0] [])],[(0,.raw (Ae p1))]⟩:=by
 unfold Dl at h;refine Tt L 200 <| Tm <| Tm ?_;obtain ⟨⟨p,q⟩,h1,h⟩:=bind_some h;refine rg L 202 [] [] [(2,(T3 (.B p) [(0,.raw (Ae q))]))] (Tu (Ao.okE h1)) <| iS h (fun c1 h=>?_) fun c1 h=>?_
 ·refine tt c1 <| Tt L 206 <| Tr (Tn.trans (Tn.kk [6] [0]) (Tn.trans (Tn.no 6 9000 Tag.Af) (Tn.trans (Tn.kk [6] [0,9000]) (Tn.rr [(0,0),(9000,100)])))) <| To ?_;cases h;exact Vr
 refine fN c1 <| Tq <| Tm <| bS h fun a2 h2 h=>?_
 rcases a2 with a2 | a2
 ·dsimp only at h;refine qn L 100208 [] [] [] 1 (T3 (.tup []) []) (Uh 59 a2) (Tu (De.okE h2)) ?_;cases h;exact rfl
 ·obtain ⟨j,o⟩:=a2;refine rg L 100208 [] [] [(1,(T3 (.agg (Ag j)) [(0,.raw (Ae o))]))] (Tu (De.okE h2)) <| Tm <| Ts <| Tr (Tn.trans (Tn.kk [0,1,2,7] [0,100210]) (Tn.rr [(0,0),(100210,23100)])) <| kp (S':=⟨[(0,.P 0),(1,.cv (.str p0)),(2,.cv (.fn (.func 68) [.P 0] [])),(7,.cv (.own .Af 23100))],[(0,.raw (Ae o)),(23100,.lst .Af ([(⟨j.Op,j.Name,j.Int,j.Text,j.Kids⟩:Aa)]:List Aa))]⟩) ?_;obtain ⟨o1,hp1,h⟩:=T7 h;refine Tx (Q':=fun e S=>(e=.exit 0∧∃ g:List Av,∃ i:Int,∃ l:List Aa,S=⟨[(0,.P 0),(1,.cv (.str p0)),(7,.cv (.own .Af 23000))],[(0,.raw [.ro .Ap g,.I i]),(23000,.lst .Af l)]⟩∧Ty.go (g,i,l)=o1)∨((e=.ret∨∃ ch,e=.panic ch)∧∃ a,Ty.done a=o1∧Ui P V Tryz.f67 (Dl.rep p0 p1 a) (Dl.post p0 p1 a) e S)) (T4 (fun k S=>∃ d:List Av,∃ f:Int,∃ c:List Aa,S=⟨[(0,.P 0),(1,.cv (.str p0)),(2,.cv (.fn (.func 68) [.P 0] [])),(7,.cv (.own .Af 23100))],[(0,.raw [.ro .Ap d,.I f]),(23100,.lst .Af c)]⟩∧Dl.l15 K k d f c=some o1) ?_ ⟨_,_,_,rfl,hp1⟩) ?_
  ·clear h hp1;intro k S hS;obtain ⟨d,f,c,rfl,h⟩:=hS;cases k with
   | zero=>cases h
   | succ k =>
   unfold Dl.l15 at h;refine Tm <| Tm ?_;obtain ⟨⟨s,m⟩,h3,h⟩:=bind_some h;refine rg L 213 [] [] [(1,(T3 (.B s) [(0,.raw (Ae m))]))] (Tu (Ao.okE h3)) <| iS h (fun c2 h=>?_) fun c2 h=>?_
   ·refine tt c2 <| Tq <| Ts <| bS h fun a4 h4 h=>?_
    rcases a4 with a4 | a4
    ·dsimp only at h;refine qn L 216 [] [] [] 2 (T3 (.tup []) []) (Uh 59 a4) (Tu (De.okE h4)) ?_;cases h;exact .inr ⟨.inr ⟨_,rfl⟩,_,rfl,rfl⟩
    ·obtain ⟨b,n⟩:=a4;exact gS h fun g1 h=>ar L 216 [] [] [(2,(T3 (.agg (Ag b)) [(0,.raw (Ae n))]))] (cs:=[T1 V P 68 [.P 0] [(0,.raw (Ae m))] [0] (.agg (Ag b)) [(0,.raw (Ae n))],(c.length+([(⟨b.Op,b.Name,b.Int,b.Text,b.Kids⟩:Aa)]:List Aa).length) * 72≤140737488355328,True]) (S':=⟨[(0,.P 0),(1,.cv (.str p0)),(2,.cv (.fn (.func 68) [.P 0] [])),(7,.cv (.own .Af 23100))],[(0,.raw (Ae n)),(23100,.lst .Af (c++([(⟨b.Op,b.Name,b.Int,b.Text,b.Kids⟩:Aa)]:List Aa)))]⟩) (And.intro (De.okE h4) (And.intro g1 trivial)) <|⟨k,Nat.lt_succ_self k,_,_,_,rfl,h⟩
   refine fN c2 <| Tr (Tn.trans (Tn.kk [0,1,7] [0,23100]) (Tn.rr [(0,0),(23100,23000)])) <| ex (S':=⟨[(0,.P 0),(1,.cv (.str p0)),(7,.cv (.own .Af 23000))],[(0,.raw (Ae m)),(23000,.lst .Af c)]⟩) ?_;cases h;exact .inl ⟨rfl,_,_,_,rfl,rfl⟩
  ·rintro e S (⟨rfl,g,i,l,rfl,rfl⟩ |⟨he,a,rfl,hr⟩)
   ·rcases h with ⟨_,e1,h⟩ |⟨_,e1,h⟩
    ·cases e1
    ·have e2:=Ty.go.inj e1;subst e2;refine ⟨_,Tn.refl,?_⟩;refine Tm <| bS h fun a5 h5 h=>?_
     rcases a5 with a5 | a5
     ·dsimp only at h;refine rg L 223 [] [] [(2,(T3 (.tup []) [(0,.raw (Ae a5))]))] (Tu (Aq.okE h5)) <| Tt L 227 <| Tr (Tn.trans (Tn.kk [6] [0,23000]) (Tn.rr [(0,0),(23000,100)])) <| To ?_;cases h;exact Vr
     ·obtain ⟨a5,rfl⟩:∃ z,z=a5:=⟨_,rfl⟩
      refine qn L 223 [] [] [] 2 (T3 (.tup []) []) (Uh 59 a5) (Tu (Aq.okE h5)) ?_;cases h;exact rfl
   ·rcases h with ⟨_,e1,h⟩ |⟨_,e1,h⟩
    ·have e2:=Ty.done.inj e1;subst e2;subst h;rcases he with rfl |⟨ch,rfl⟩
     ·exact ⟨_,Tn.refl,hr⟩
     ·exact ⟨_,Tn.refl,hr⟩
    ·cases e1
theorem Dl.okE {K:Nat} {p0:Ge} {p1:Ab} {r:(Ab×(List Aa)) ⊕ Int} (h:Dl K p0 p1=some r):Ug V P 67 [.P 0,.cv (.str p0),.cv (.fn (.func 68) [.P 0] [])] [(0,.raw (Ae p1))] [0] (Dl.post p0 p1 r) (Dl.rep p0 p1 r) :=
 xo (fn:=Tryz.f67) (n:=25) (m:=100) fun Γ=>Dl.body h
def Dk (K:Nat) (p0:Ab):Option (Int ⊕ (Aa×Ab)):=((Dg K ([([115,105,103,110,97,108]:Ge),([113,117,101,114,121]:Ge),([117,112,100,97,116,101]:Ge)]:List Ge) ([63,64,65]:List Int) p0).bind fun (j,o,k)=>(if o=true then ((Aw K k).bind fun a2=>match a2 with |(Sum.inl a2)=>some (Sum.inl a2) |(Sum.inr (p,q))=>((Aq K ([40]:Ge) q).bind fun a3=>match a3 with |(Sum.inl a3)=>((Aw K a3).bind fun a4=>match a4 with |(Sum.inl a4)=>some (Sum.inl a4) |(Sum.inr (s,t))=>((Aq K ([41]:Ge) t).bind fun a5=>match a5 with |(Sum.inl a5)=>(Ub (((((if j=65 then ((Ao K ([99,104,101,99,107]:Ge) a5).bind fun (u,m)=>some (u,m.l,m.i)) else some (false,a5.l,a5.i)):Option (Bool×(List Av)×Int)).bind fun (h,c,d)=>(if h=true then ((Ar K (⟨c,d⟩:Ab)).bind fun a7=>match a7 with |(Sum.inl a7)=>some (Ty.done (Sum.inl a7)) |(Sum.inr (a,n))=>(if ([(⟨a.Op,a.Name,a.Int,a.Text,a.Kids⟩:Aa)]:List Aa).length * 72≤140737488355328 then some (Ty.go (n.l,n.i,([(⟨a.Op,a.Name,a.Int,a.Text,a.Kids⟩:Aa)]:List Aa))) else none)) else some (Ty.go (c,d,([]:List Aa)))))):Option (Ty (Int ⊕ (Aa×Ab)) ((List Av)×Int×(List Aa)))) (fun r=>r) (fun (f,g,e)=>((Ar K (⟨f,g⟩:Ab)).bind fun a8=>match a8 with |(Sum.inl a8)=>some (Sum.inl a8) |(Sum.inr (b,v))=>(if (e.length+([(⟨b.Op,b.Name,b.Int,b.Text,b.Kids⟩:Aa)]:List Aa).length) * 72≤140737488355328 then some ((Sum.inr ((⟨j,p,0,s,(e++([(⟨b.Op,b.Name,b.Int,b.Text,b.Kids⟩:Aa)]:List Aa))⟩:Aa),v))) else none)))) |(Sum.inr a5)=>some (Sum.inl a5))) |(Sum.inr a3)=>some (Sum.inl a3))) else ((Br K k).bind fun a9=>some (Sum.inl a9))))
def Dk.rep (p0:Ab):Int ⊕ (Aa×Ab)→Uz T
 |(Sum.inl v0)=>.pan (Uh 59 v0)
 |(Sum.inr (v0,v1))=>.ret (.agg [.I v0.Op,.str v0.Name,.I v0.Int,.str v0.Text,.ro .Af v0.Kids])
def Dk.post (p0:Ab):Int ⊕ (Aa×Ab)→List (Nat×T9 T)
 |(Sum.inl v0)=>[]
 |(Sum.inr (v0,v1))=>[(0,.raw [.ro .Ap v1.l,.I v1.i])]
theorem Dk.body {Γ:Ue} {K:Nat} {p0:Ab} {r:Int ⊕ (Aa×Ab)} (h:Dk K p0=some r):Uc V P 49 100 Γ (Tryz.f70.body.getD .skip) (Ui P V Tryz.f70 (Dk.rep p0 r) (Dk.post p0 r)) ⟨T0 0 [.P 0],[(0,.raw (Ae p0))]⟩:=by
 unfold Dk at h;refine Tt L 200 <| Tm ?_;obtain ⟨⟨g,p,v⟩,h1,h⟩:=bind_some h;refine rg L 202 [] [] [(3,(T3 (.tup [.I g,.B p]) [(0,.raw (Ae v))]))] (Tu (Dg.okE h1)) <| Tm <| Tt L 212 <| iS h (fun c1 h=>?_) fun c1 h=>?_
 ·refine ff (b:=(!p)) (congrArg Bool.not (c1)) <| Tq <| Tm <| bS h fun a2 h2 h=>?_
  rcases a2 with a2 | a2
  ·dsimp only at h;refine qn L 218 [] [] [] 2 (T3 (.tup []) []) (Uh 59 a2) (Tu (Aw.okE h2)) ?_;cases h;exact rfl
  ·obtain ⟨i,w⟩:=a2;refine rg L 218 [] [] [(2,(T3 (.cv (.str i)) [(0,.raw (Ae w))]))] (Tu (Aw.okE h2)) <| Tm <| bS h fun a3 h3 h=>?_
   rcases a3 with a3 | a3
   ·dsimp only at h;refine rg L 225 [] [] [(1,(T3 (.tup []) [(0,.raw (Ae a3))]))] (Tu (Aq.okE h3)) <| Tm <| bS h fun a4 h4 h=>?_
    rcases a4 with a4 | a4
    ·dsimp only at h;refine qn L 228 [] [] [] 1 (T3 (.tup []) []) (Uh 59 a4) (Tu (Aw.okE h4)) ?_;cases h;exact rfl
    ·obtain ⟨j,x⟩:=a4;refine rg L 228 [] [] [(1,(T3 (.cv (.str j)) [(0,.raw (Ae x))]))] (Tu (Aw.okE h4)) <| Tm <| bS h fun a5 h5 h=>?_
     rcases a5 with a5 | a5
     ·dsimp only at h;refine rg L 233 [] [] [(1,(T3 (.tup []) [(0,.raw (Ae a5))]))] (Tu (Aq.okE h5)) ?_;obtain ⟨o2,hp2,h⟩:=T7 h;refine Tm (T8 (Q':=fun e S=>(e=.normal∧∃ k:List Av,∃ l:Int,∃ m:List Aa,S=⟨[(0,.P 0),(2,.P 23800),(5,.P 23801)],[(0,.raw [.ro .Ap k,.I l]),(23800,.raw [.I 0,.str [],.I 0,.str [],.N]),(23801,.raw [.I g,.str i,.I 0,.str j,.own .Af 23802]),(23802,.lst .Af m)]⟩∧Ty.go (k,l,m)=o2)∨((e=.ret∨∃ ch,e=.panic ch)∧∃ a,Ty.done a=o2∧Ui P V Tryz.f70 (Dk.rep p0 a) (Dk.post p0 a) e S)) ?_ ?_)
      ·clear h;replace h:=hp2;refine bS h fun o1 hp1 h=>Tm (T8 (Q':=fun e S=>(e=.normal∧∃ n:Bool,∃ d:List Av,∃ f:Int,S=⟨[(0,.P 0),(2,.P 24000),(5,.P 24001),(33,.B n)],[(0,.raw [.ro .Ap d,.I f]),(24000,.raw [.I 0,.str [],.I 0,.str [],.N]),(24001,.raw [.I g,.str i,.I 0,.str j,.N])]⟩∧(n,d,f)=o1)) ?_ ?_)
       ·clear h;replace h:=hp1;refine iS h (fun c2 h=>?_) fun c2 h=>?_
        ·obtain ⟨⟨s,t⟩,h6,h⟩:=bind_some h;refine Tw (rg L 236 [(2,true)] [] [(4,(T3 (.B s) [(0,.raw (Ae t))]))] (Ur (Gt c2) (Ao.okE h6)) ⟨rfl,rfl⟩) (Tn.trans (Tn.kk [0,2,5,33] [0,200,222]) (Tn.trans (Tn.rr [(0,0),(200,24000),(222,24001)]) (Tn.kp (S':=⟨[(0,.P 0),(2,.P 24000),(5,.P 24001),(33,.B s)],[(0,.raw (Ae t)),(24000,.raw [.I 0,.str [],.I 0,.str [],.N]),(24001,.raw [.I g,.str i,.I 0,.str j,.N])]⟩)))) ?_;cases h;exact ⟨rfl,_,_,_,rfl,rfl⟩
        refine Tw (rg L 236 [(2,false)] [] [] (Tu (Lt c2)) ⟨rfl,rfl⟩) (Tn.trans (Tn.kk [0,2,5,33] [0,200,222]) (Tn.trans (Tn.rr [(0,0),(200,24000),(222,24001)]) (Tn.kp (S':=⟨[(0,.P 0),(2,.P 24000),(5,.P 24001),(33,.B false)],[(0,.raw (Ae a5)),(24000,.raw [.I 0,.str [],.I 0,.str [],.N]),(24001,.raw [.I g,.str i,.I 0,.str j,.N])]⟩)))) ?_;cases h;exact ⟨rfl,_,_,_,rfl,rfl⟩
       ·rintro e S ⟨rfl,n,d,f,rfl,rfl⟩;refine iS h (fun c3 h=>?_) fun c3 h=>?_
        ·refine tt c3 <| bS h fun a7 h7 h=>?_
         rcases a7 with a7 | a7
         ·dsimp only at h;refine qP L mixed 243 [] [] [] [0,2] 3 (T3 (.tup []) []) (Uh 59 a7) (Ur (Ar.okE h7) (Ar.okE h7)) ?_;cases h;exact .inr ⟨.inr ⟨_,rfl⟩,_,rfl,rfl⟩
         ·obtain ⟨c,q⟩:=a7;refine gS h fun g1 h=>Tw (hB L mixed 243 [] [] [(3,(T3 (.agg (Ag c)) [(0,.raw (Ae q))]))] [0,2] 3 (Tp (Ar.okE h7) (Tp g1 (Tp trivial (Tp (Ar.okE h7) (Tp g1 (Tp trivial (Tp g1 (Tu trivial)))))))) (S':=⟨[(0,.P 0),(2,.P 24000),(5,.P 24001)],[(0,.raw (Ae q)),(248,.lst .Af ([(⟨c.Op,c.Name,c.Int,c.Text,c.Kids⟩:Aa)]:List Aa)),(24000,.raw [.I 0,.str [],.I 0,.str [],.N]),(24001,.raw [.I g,.str i,.I 0,.str j,.own .Af 248])]⟩) ⟨rfl,rfl⟩) (Tn.trans (Tn.kk [0,2,5] [0,248,24000,24001]) (Tn.trans (Tn.rr [(0,0),(248,23802),(24000,23800),(24001,23801)]) (Tn.kp (S':=⟨[(0,.P 0),(2,.P 23800),(5,.P 23801)],[(0,.raw (Ae q)),(23800,.raw [.I 0,.str [],.I 0,.str [],.N]),(23801,.raw [.I g,.str i,.I 0,.str j,.own .Af 23802]),(23802,.lst .Af ([(⟨c.Op,c.Name,c.Int,c.Text,c.Kids⟩:Aa)]:List Aa))]⟩)))) ?_
          cases h;exact .inl ⟨rfl,_,_,_,rfl,rfl⟩
        refine fN c3 <| Tr (Tn.trans (Tn.kk [0,2,5] [0,24000,24001]) (Tn.trans (Tn.nc 24001 4 9500 Tag.Af) (Tn.trans (Tn.kk [0,2,5] [0,9500,24000,24001]) (Tn.rr [(0,0),(9500,23802),(24000,23800),(24001,23801)])))) <| sk (S':=⟨[(0,.P 0),(2,.P 23800),(5,.P 23801)],[(0,.raw [.ro .Ap d,.I f]),(23800,.raw [.I 0,.str [],.I 0,.str [],.N]),(23801,.raw [.I g,.str i,.I 0,.str j,.own .Af 23802]),(23802,.lst .Af ([]:List Aa))]⟩) ?_;cases h;exact .inl ⟨rfl,_,_,_,rfl,rfl⟩
      ·rintro e S (⟨rfl,k,l,m,rfl,rfl⟩ |⟨he,a,rfl,hr⟩)
       ·rcases h with ⟨_,e1,h⟩ |⟨_,e1,h⟩
        ·cases e1
        ·have e2:=Ty.go.inj e1;subst e2;refine Tm <| bS h fun a8 h8 h=>?_
         rcases a8 with a8 | a8
         ·dsimp only at h;refine qP L mixed 252 [] [] [] [0,2] 3 (T3 (.tup []) []) (Uh 59 a8) (Ur (Ar.okE h8) (Ar.okE h8)) ?_;cases h;exact rfl
         ·obtain ⟨o,u⟩:=a8;refine gS h fun g2 h=>hB L mixed 252 [] [] [(3,(T3 (.agg (Ag o)) [(0,.raw (Ae u))]))] [0,2] 3 (Tp (Ar.okE h8) (Tp g2 (Tp trivial (Tp (Ar.okE h8) (Tp g2 (Tp trivial (Tp g2 (Tu trivial)))))))) (S':=⟨[(2,.P 23800),(5,.P 23801)],[(0,.raw (Ae u)),(23800,.raw [.I 0,.str [],.I 0,.str [],.N]),(23801,.raw [.I g,.str i,.I 0,.str j,.own .Af 23802]),(23802,.lst .Af (m++([(⟨o.Op,o.Name,o.Int,o.Text,o.Kids⟩:Aa)]:List Aa)))]⟩) <| Tt L 261 <| Tr (Tn.trans (Tn.kk [2] [0,23800,23802]) (Tn.trans (Tn.fz 23802) (Tn.rr [(0,0),(23800,100)]))) <| To ?_
          cases h;exact Vr
       ·rcases h with ⟨_,e1,h⟩ |⟨_,e1,h⟩
        ·have e2:=Ty.done.inj e1;subst e2;subst h;rcases he with rfl |⟨ch,rfl⟩
         ·exact hr
         ·exact hr
        ·cases e1
     ·obtain ⟨a5,rfl⟩:∃ z,z=a5:=⟨_,rfl⟩
      refine qn L 233 [] [] [] 1 (T3 (.tup []) []) (Uh 59 a5) (Tu (Aq.okE h5)) ?_;cases h;exact rfl
   ·obtain ⟨a3,rfl⟩:∃ z,z=a3:=⟨_,rfl⟩
    refine qn L 225 [] [] [] 1 (T3 (.tup []) []) (Uh 59 a3) (Tu (Aq.okE h3)) ?_;cases h;exact rfl
 refine tt (b:=(!p)) (congrArg Bool.not (Xs c1)) <| bS h fun a9 h9 h=>qn L 215 [] [] [] 1 (T3 (.tup []) []) (Uh 59 a9) (Tu (Br.okE h9)) ?_
 cases h;exact rfl
theorem Dk.okE {K:Nat} {p0:Ab} {r:Int ⊕ (Aa×Ab)} (h:Dk K p0=some r):Ug V P 70 [.P 0] [(0,.raw (Ae p0))] [0] (Dk.post p0 r) (Dk.rep p0 r) :=
 xo (fn:=Tryz.f70) (n:=49) (m:=100) fun Γ=>Dk.body h
def Cr.l7 (K:Nat):Nat→(List Av)→Int→(List Aa)→Option (Ty (Int ⊕ (Aa×Ab)) ((List Av)×Int×(List Aa)))
 | 0,_,_,_=>none
 | k+1,e,f,c=>((Cj K (⟨e,f⟩:Ab)).bind fun a1=>(if a1.Kind≠0 then ((Ao K ([118,97,114]:Ge) (⟨e,f⟩:Ab)).bind fun (r,m)=>(if r=true then ((Aw K m).bind fun a3=>match a3 with |(Sum.inl a3)=>some (Ty.done (Sum.inl a3)) |(Sum.inr (n,s))=>((Aq K ([61]:Ge) s).bind fun a4=>match a4 with |(Sum.inl a4)=>((Dq K a4).bind fun a5=>match a5 with |(Sum.inl a5)=>some (Ty.done (Sum.inl a5)) |(Sum.inr (d,t))=>(if (c.length+([(⟨61,n,0,[],([(⟨d.Op,d.Name,d.Int,d.Text,d.Kids⟩:Aa)]:List Aa)⟩:Aa)]:List Aa).length) * 72≤140737488355328 then ((Aq K ([59]:Ge) t).bind fun a6=>match a6 with |(Sum.inl a6)=>Cr.l7 K k a6.l a6.i (c++([(⟨61,n,0,[],([(⟨d.Op,d.Name,d.Int,d.Text,d.Kids⟩:Aa)]:List Aa)⟩:Aa)]:List Aa)) |(Sum.inr a6)=>some (Ty.done (Sum.inl a6))) else none)) |(Sum.inr a4)=>some (Ty.done (Sum.inl a4)))) else ((Ao K ([102,117,110,99]:Ge) m).bind fun (u,o)=>(if u=true then ((Aw K o).bind fun a8=>match a8 with |(Sum.inl a8)=>some (Ty.done (Sum.inl a8)) |(Sum.inr (p,v))=>((Aq K ([40]:Ge) v).bind fun a9=>match a9 with |(Sum.inl a9)=>((Dl K ([41]:Ge) a9).bind fun a10=>match a10 with |(Sum.inl (q,g))=>((Ar K q).bind fun a11=>match a11 with |(Sum.inl a11)=>some (Ty.done (Sum.inl a11)) |(Sum.inr (a,h))=>(if (g.length+([(⟨a.Op,a.Name,a.Int,a.Text,a.Kids⟩:Aa)]:List Aa).length) * 72≤140737488355328 then (if (c.length+([(⟨62,p,0,[],(g++([(⟨a.Op,a.Name,a.Int,a.Text,a.Kids⟩:Aa)]:List Aa))⟩:Aa)]:List Aa).length) * 72≤140737488355328 then Cr.l7 K k h.l h.i ((c++([(⟨62,p,0,[],(g++([(⟨a.Op,a.Name,a.Int,a.Text,a.Kids⟩:Aa)]:List Aa))⟩:Aa)]:List Aa))) else none) else none)) |(Sum.inr a10)=>some (Ty.done (Sum.inl a10))) |(Sum.inr a9)=>some (Ty.done (Sum.inl a9)))) else ((Aq K ([111,110]:Ge) o).bind fun a12=>match a12 with |(Sum.inl a12)=>((Dk K a12).bind fun a13=>match a13 with |(Sum.inl a13)=>some (Ty.done (Sum.inl a13)) |(Sum.inr (b,j))=>(if (c.length+([(⟨b.Op,b.Name,b.Int,b.Text,b.Kids⟩:Aa)]:List Aa).length) * 72≤140737488355328 then Cr.l7 K k j.l j.i (c++([(⟨b.Op,b.Name,b.Int,b.Text,b.Kids⟩:Aa)]:List Aa)) else none)) |(Sum.inr a12)=>some (Ty.done (Sum.inl a12))))))) else some (Ty.go (e,f,c))))
def Cr (K:Nat) (p0:Ab):Option (Int ⊕ (Aa×Ab)):=(Ub (Cr.l7 K K p0.l p0.i ([]:List Aa):Option (Ty (Int ⊕ (Aa×Ab)) ((List Av)×Int×(List Aa)))) (fun r=>r) (fun (a,b,c)=>some (Sum.inr ((⟨60,[],0,[],c⟩:Aa),(⟨a,b⟩:Ab)))))
def Cr.rep (p0:Ab):Int ⊕ (Aa×Ab)→Uz T
 |(Sum.inl v0)=>.pan (Uh 59 v0)
 |(Sum.inr (v0,v1))=>.ret (.agg [.I v0.Op,.str v0.Name,.I v0.Int,.str v0.Text,.ro .Af v0.Kids])
def Cr.post (p0:Ab):Int ⊕ (Aa×Ab)→List (Nat×T9 T)
 |(Sum.inl v0)=>[]
 |(Sum.inr (v0,v1))=>[(0,.raw [.ro .Ap v1.l,.I v1.i])]
theorem Cr.body {Γ:Ue} {K:Nat} {p0:Ab} {r:Int ⊕ (Aa×Ab)} (h:Cr K p0=some r):Uc V P 64 100 Γ (Tryz.f31.body.getD .skip) (Ui P V Tryz.f31 (Cr.rep p0 r) (Cr.post p0 r)) ⟨T0 0 [.P 0],[(0,.raw (Ae p0))]⟩:=by
 unfold Cr at h;refine Tt L 200 <| Tt L 202 <| Tm <| Ts <| Tr (Tn.trans (Tn.kk [0,2,3] [0,200,203]) (Tn.trans (Tn.nc 203 4 9500 Tag.Af) (Tn.trans (Tn.kk [0,2,3] [0,200,203,9500]) (Tn.rr [(0,0),(200,21500),(203,21501),(9500,21502)])))) <| kp (S':=⟨[(0,.P 0),(2,.P 21500),(3,.P 21501)],[(0,.raw (Ae p0)),(21500,.raw [.I 0,.str [],.I 0,.str [],.N]),(21501,.raw [.I 60,.str [],.I 0,.str [],.own .Af 21502]),(21502,.lst .Af ([]:List Aa))]⟩) ?_;obtain ⟨o1,hp1,h⟩:=T7 h;refine Tx (Q':=fun e S=>(e=.exit 0∧∃ j:List Av,∃ l:Int,∃ m:List Aa,S=⟨[(2,.P 21400),(3,.P 21401)],[(0,.raw [.ro .Ap j,.I l]),(21400,.raw [.I 0,.str [],.I 0,.str [],.N]),(21401,.raw [.I 60,.str [],.I 0,.str [],.own .Af 21402]),(21402,.lst .Af m)]⟩∧Ty.go (j,l,m)=o1)∨((e=.ret∨∃ ch,e=.panic ch)∧∃ a,Ty.done a=o1∧Ui P V Tryz.f31 (Cr.rep p0 a) (Cr.post p0 a) e S)) (T4 (fun k S=>∃ d:List Av,∃ f:Int,∃ b:List Aa,S=⟨[(0,.P 0),(2,.P 21500),(3,.P 21501)],[(0,.raw [.ro .Ap d,.I f]),(21500,.raw [.I 0,.str [],.I 0,.str [],.N]),(21501,.raw [.I 60,.str [],.I 0,.str [],.own .Af 21502]),(21502,.lst .Af b)]⟩∧Cr.l7 K k d f b=some o1) ?_ ⟨_,_,_,rfl,hp1⟩) ?_
 ·clear h hp1;intro k S hS;obtain ⟨d,f,b,rfl,h⟩:=hS;cases k with
  | zero=>cases h
  | succ k =>
  unfold Cr.l7 at h;refine Tm <| Tm <| bS h fun a1 h1 h=>rg L 206 [] [(1,.agg (E6 a1))] [] (Uq (Cj.ok h1)) <| iS h (fun c1 h=>?_) fun c1 h=>?_
  ·refine tT c1 <| Tq <| Ts <| Ts <| Tm ?_;obtain ⟨⟨v,w⟩,h2,h⟩:=bind_some h;refine rg L 211 [] [] [(1,(T3 (.B v) [(0,.raw (Ae w))]))] (Tu (Ao.okE h2)) <| iS h (fun c2 h=>?_) fun c2 h=>?_
   ·refine tt c2 <| Tm <| bS h fun a3 h3 h=>?_
    rcases a3 with a3 | a3
    ·dsimp only at h;refine qn L 215 [] [] [] 1 (T3 (.tup []) []) (Uh 59 a3) (Tu (Aw.okE h3)) ?_;cases h;exact .inr ⟨.inr ⟨_,rfl⟩,_,rfl,rfl⟩
    ·obtain ⟨n,x⟩:=a3;refine rg L 215 [] [] [(1,(T3 (.cv (.str n)) [(0,.raw (Ae x))]))] (Tu (Aw.okE h3)) <| Tm <| bS h fun a4 h4 h=>?_
     rcases a4 with a4 | a4
     ·dsimp only at h;refine rg L 219 [] [] [(1,(T3 (.tup []) [(0,.raw (Ae a4))]))] (Tu (Aq.okE h4)) <| Tm <| bS h fun a5 h5 h=>?_
      rcases a5 with a5 | a5
      ·dsimp only at h;refine qP L mixed 222 [] [] [] [0,2,3] 4 (T3 (.tup []) []) (Uh 59 a5) (Ur (Dq.okE h5) (Dq.okE h5)) ?_;cases h;exact .inr ⟨.inr ⟨_,rfl⟩,_,rfl,rfl⟩
      ·obtain ⟨c,o⟩:=a5;refine gS h fun g1 h=>hB L mixed 222 [] [] [(4,(T3 (.agg (Ag c)) [(0,.raw (Ae o))]))] [0,2,3] 5 (Tp (Dq.okE h5) (Tp g1 (Tp trivial (Tp (Dq.okE h5) (Tp g1 (Tp trivial (Tp g1 (Tp trivial (Tp g1 (Tp trivial (Tp g1 (Tu trivial)))))))))))) (S':=⟨[(0,.P 0),(2,.P 21500),(3,.P 21501)],[(0,.raw (Ae o)),(21500,.raw [.I 0,.str [],.I 0,.str [],.N]),(21501,.raw [.I 60,.str [],.I 0,.str [],.own .Af 21502]),(21502,.lst .Af (b++([(⟨61,n,0,[],([(⟨c.Op,c.Name,c.Int,c.Text,c.Kids⟩:Aa)]:List Aa)⟩:Aa)]:List Aa)))]⟩) <| bS h fun a6 h6 h=>?_
       rcases a6 with a6 | a6
       ·dsimp only at h;exact ar L 234 [] [] [(1,(T3 (.tup []) [(0,.raw (Ae a6))]))] (cs:=[T1 V P 65 [.P 0,.cv (.str ([59]:Ge))] [(0,.raw (Ae o))] [0] (.tup []) [(0,.raw (Ae a6))]]) (S':=⟨[(0,.P 0),(2,.P 21500),(3,.P 21501)],[(0,.raw (Ae a6)),(21500,.raw [.I 0,.str [],.I 0,.str [],.N]),(21501,.raw [.I 60,.str [],.I 0,.str [],.own .Af 21502]),(21502,.lst .Af (b++([(⟨61,n,0,[],([(⟨c.Op,c.Name,c.Int,c.Text,c.Kids⟩:Aa)]:List Aa)⟩:Aa)]:List Aa)))]⟩) (Aq.okE h6) <|⟨k,Nat.lt_succ_self k,_,_,_,rfl,h⟩
       ·obtain ⟨a6,rfl⟩:∃ z,z=a6:=⟨_,rfl⟩
        refine qn L 234 [] [] [] 1 (T3 (.tup []) []) (Uh 59 a6) (Tu (Aq.okE h6)) ?_;cases h;exact .inr ⟨.inr ⟨_,rfl⟩,_,rfl,rfl⟩
     ·obtain ⟨a4,rfl⟩:∃ z,z=a4:=⟨_,rfl⟩
      refine qn L 219 [] [] [] 1 (T3 (.tup []) []) (Uh 59 a4) (Tu (Aq.okE h4)) ?_;cases h;exact .inr ⟨.inr ⟨_,rfl⟩,_,rfl,rfl⟩
   refine fN c2 <| Tm ?_;obtain ⟨⟨y,aa⟩,h7,h⟩:=bind_some h;refine rg L 237 [] [] [(1,(T3 (.B y) [(0,.raw (Ae aa))]))] (Tu (Ao.okE h7)) <| iS h (fun c3 h=>?_) fun c3 h=>?_
   ·refine tt c3 <| Tm <| bS h fun a8 h8 h=>?_
    rcases a8 with a8 | a8
    ·dsimp only at h;refine qn L 241 [] [] [] 1 (T3 (.tup []) []) (Uh 59 a8) (Tu (Aw.okE h8)) ?_;cases h;exact .inr ⟨.inr ⟨_,rfl⟩,_,rfl,rfl⟩
    ·obtain ⟨t,ab⟩:=a8;refine rg L 241 [] [] [(1,(T3 (.cv (.str t)) [(0,.raw (Ae ab))]))] (Tu (Aw.okE h8)) <| Tm <| bS h fun a9 h9 h=>?_
     rcases a9 with a9 | a9
     ·dsimp only at h;refine rg L 245 [] [] [(1,(T3 (.tup []) [(0,.raw (Ae a9))]))] (Tu (Aq.okE h9)) <| Tm <| bS h fun a10 h10 h=>?_
      rcases a10 with ⟨u,p⟩ | a10
      ·dsimp only at h;refine rg L 248 [] [] [(3,(ef [0] [0] (.cv (.own .Af 100)) [(0,.raw (Ae u)),(100,.lst .Af p)] [(0,0),(100,5408)]))] (Tu (Dl.okE h10)) <| bS h fun a11 h11 h=>?_
       rcases a11 with a11 | a11
       ·dsimp only at h;refine qP L mixed 254 [] [] [] [0,2,3,4] 5 (T3 (.tup []) []) (Uh 59 a11) (Ur (Ar.okE h11) (Ar.okE h11)) ?_;cases h;exact .inr ⟨.inr ⟨_,rfl⟩,_,rfl,rfl⟩
       ·obtain ⟨g,q⟩:=a11;exact gS h fun g2 h=>gS h fun g3 h=>hB L mixed 254 [] [] [(5,(T3 (.agg (Ag g)) [(0,.raw (Ae q))])),(9,{ hids:=[],fx:=[],r:=.tup [],H':=[],σ:=[],fr:=[5408] })] [0,2,3,4] 6 (Tp (Ar.okE h11) (Tp g2 (Tp trivial (Tp g3 (Tp trivial (Tp (Ar.okE h11) (Tp g2 (Tp trivial (Tp g3 (Tp trivial (Tp g2 (Tp trivial (Tp g3 (Tp trivial (Tp g2 (Tp trivial (Tp g3 (Tp trivial (Tp g3 (Tp trivial (Tp g3 (Tu trivial)))))))))))))))))))))) (S':=⟨[(0,.P 0),(2,.P 21500),(3,.P 21501)],[(0,.raw (Ae q)),(21500,.raw [.I 0,.str [],.I 0,.str [],.N]),(21501,.raw [.I 60,.str [],.I 0,.str [],.own .Af 21502]),(21502,.lst .Af ((b++([(⟨62,t,0,[],(p++([(⟨g.Op,g.Name,g.Int,g.Text,g.Kids⟩:Aa)]:List Aa))⟩:Aa)]:List Aa))))]⟩) <|⟨k,Nat.lt_succ_self k,_,_,_,rfl,h⟩
      ·obtain ⟨a10,rfl⟩:∃ z,z=a10:=⟨_,rfl⟩
       refine qn L 248 [] [] [] 3 (T3 (.tup []) []) (Uh 59 a10) (Tu (Dl.okE h10)) ?_;cases h;exact .inr ⟨.inr ⟨_,rfl⟩,_,rfl,rfl⟩
     ·obtain ⟨a9,rfl⟩:∃ z,z=a9:=⟨_,rfl⟩
      refine qn L 245 [] [] [] 1 (T3 (.tup []) []) (Uh 59 a9) (Tu (Aq.okE h9)) ?_;cases h;exact .inr ⟨.inr ⟨_,rfl⟩,_,rfl,rfl⟩
   refine fN c3 <| Tm <| bS h fun a12 h12 h=>?_
   rcases a12 with a12 | a12
   ·dsimp only at h;refine rg L 268 [] [] [(1,(T3 (.tup []) [(0,.raw (Ae a12))]))] (Tu (Aq.okE h12)) <| bS h fun a13 h13 h=>?_
    rcases a13 with a13 | a13
    ·dsimp only at h;refine qP L mixed 271 [] [] [] [0,2] 3 (T3 (.tup []) []) (Uh 59 a13) (Ur (Dk.okE h13) (Dk.okE h13)) ?_;cases h;exact .inr ⟨.inr ⟨_,rfl⟩,_,rfl,rfl⟩
    ·obtain ⟨i,s⟩:=a13;exact gS h fun g4 h=>hB L mixed 271 [] [] [(3,(T3 (.agg (Ag i)) [(0,.raw (Ae s))]))] [0,2] 3 (Tp (Dk.okE h13) (Tp g4 (Tp trivial (Tp (Dk.okE h13) (Tp g4 (Tp trivial (Tp g4 (Tu trivial)))))))) (S':=⟨[(0,.P 0),(2,.P 21500),(3,.P 21501)],[(0,.raw (Ae s)),(21500,.raw [.I 0,.str [],.I 0,.str [],.N]),(21501,.raw [.I 60,.str [],.I 0,.str [],.own .Af 21502]),(21502,.lst .Af (b++([(⟨i.Op,i.Name,i.Int,i.Text,i.Kids⟩:Aa)]:List Aa)))]⟩) <|⟨k,Nat.lt_succ_self k,_,_,_,rfl,h⟩
   ·obtain ⟨a12,rfl⟩:∃ z,z=a12:=⟨_,rfl⟩
    refine qn L 268 [] [] [] 1 (T3 (.tup []) []) (Uh 59 a12) (Tu (Aq.okE h12)) ?_;cases h;exact .inr ⟨.inr ⟨_,rfl⟩,_,rfl,rfl⟩
  refine fF c1 <| Tr (Tn.trans (Tn.kk [2,3] [0,21500,21501,21502]) (Tn.rr [(0,0),(21500,21400),(21501,21401),(21502,21402)])) <| ex (S':=⟨[(2,.P 21400),(3,.P 21401)],[(0,.raw [.ro .Ap d,.I f]),(21400,.raw [.I 0,.str [],.I 0,.str [],.N]),(21401,.raw [.I 60,.str [],.I 0,.str [],.own .Af 21402]),(21402,.lst .Af b)]⟩) ?_;cases h;exact .inl ⟨rfl,_,_,_,rfl,rfl⟩
 ·rintro e S (⟨rfl,j,l,m,rfl,rfl⟩ |⟨he,a,rfl,hr⟩)
  ·rcases h with ⟨_,e1,h⟩ |⟨_,e1,h⟩
   ·cases e1
   ·have e2:=Ty.go.inj e1;subst e2;refine ⟨_,Tn.refl,?_⟩;refine Tt L 280 <| Tr (Tn.trans (Tn.kk [2] [0,21400,21402]) (Tn.trans (Tn.fz 21402) (Tn.rr [(0,0),(21400,100)]))) <| To ?_;cases h;exact Vr
  ·rcases h with ⟨_,e1,h⟩ |⟨_,e1,h⟩
   ·have e2:=Ty.done.inj e1;subst e2;subst h;rcases he with rfl |⟨ch,rfl⟩
    ·exact ⟨_,Tn.refl,hr⟩
    ·exact ⟨_,Tn.refl,hr⟩
   ·cases e1
theorem Cr.okE {K:Nat} {p0:Ab} {r:Int ⊕ (Aa×Ab)} (h:Cr K p0=some r):Ug V P 31 [.P 0] [(0,.raw (Ae p0))] [0] (Cr.post p0 r) (Cr.rep p0 r) :=
 xo (fn:=Tryz.f31) (n:=64) (m:=100) fun Γ=>Cr.body h
def Fm (K:Nat) (p0:List Av) (p1:Int):Option (Int ⊕ (Aa×Int×Int)):=((Cr K (⟨p0,0⟩:Ab)).bind fun a1=>match a1 with |(Sum.inl a1)=>some (Sum.inl a1) |(Sum.inr (a,b))=>((Cj K b).bind fun a2=>(if a2.Kind≠0 then ((Br K b).bind fun a3=>some (Sum.inl a3)) else ((Ee K a).bind fun a4=>(if a4 > 4000 then some (Sum.inr ((⟨0,[],0,[],([]:List Aa)⟩:Aa),0,6)) else ((D6 K a).bind fun a5=>(if a5 > 40 then some (Sum.inr ((⟨0,[],0,[],([]:List Aa)⟩:Aa),0,7)) else some (Sum.inr (a,0,0)))))))))
def Fm.rep (p0:List Av) (p1:Int):Int ⊕ (Aa×Int×Int)→Uz T
 |(Sum.inl v0)=>.pan (Uh 59 v0)
 |(Sum.inr (v0,v1,v2))=>.ret (.tup [.agg [.I v0.Op,.str v0.Name,.I v0.Int,.str v0.Text,.ro .Af v0.Kids],.I v1,.I v2])
theorem Fm.body {Γ:Ue} {K:Nat} {p0:List Av} {p1:Int} {r:Int ⊕ (Aa×Int×Int)} (h:Fm K p0 p1=some r):Uc V P 44 93 Γ (Ud (Ud (Ud (Ud (Tryz.f30.body.getD .skip))))) (Xr P V Tryz.f30 (Fm.rep p0 p1 r)) ⟨[(1,.cv (.fn (.func 31) [] [])),(4,.P 90),(5,.P 91),(6,.P 92),(7,.cv (.ro .Ap p0))],[(90,.raw [.I 0,.str [],.I 0,.str [],.N]),(91,.raw [.I p1]),(92,.raw [.I 0])]⟩:=by
 unfold Fm at h;refine Tt L 200 <| Tm <| bS h fun a1 h1 h=>?_
 rcases a1 with a1 | a1
 ·dsimp only at h;refine pn L 205 [] [] [] 2 [4,5,6] [90,91,92] (ef [0] [0] (.tup []) [] [(0,202)]) (Uh 59 a1) (cs:=[Adf V P 31 [.P 0] [(0,.raw [.ro .Ap p0,.I 0])] (Uh 59 a1)]) (S':=⟨[(4,.P 90),(5,.P 91),(6,.P 92)],[(90,.raw [.I 0,.str [],.I 0,.str [],.N]),(91,.raw [.I p1]),(92,.raw [.I 0])]⟩) (Cr.okE h1) ?_;cases h;exact (rp:Xr P V Tryz.f30 (Fm.rep p0 p1 (Sum.inl a1)) _ _)
 ·obtain ⟨a,b⟩:=a1;refine rg L 205 [] [] [(2,(ef [0] [0] (.agg (Ag a)) [(0,.raw (Ae b))] [(0,202)]))] (Tu (Cr.okE h1)) <| Tm <| Tm <| bS h fun a2 h2 h=>rg L 210 [] [(1,.agg (E6 a2))] [] (Uq (Cj.ok h2)) <| iS h (fun c1 h=>?_) fun c1 h=>?_
  ·refine tT c1 <| bS h fun a3 h3 h=>pn L 215 [] [] [] 1 [4,5,6] [90,91,92] (ef [0] [0] (.tup []) [] [(0,202)]) (Uh 59 a3) (cs:=[Adf V P 60 [.P 0] [(0,.raw (Ae b))] (Uh 59 a3)]) (S':=⟨[(4,.P 90),(5,.P 91),(6,.P 92)],[(90,.raw (Ag a)),(91,.raw [.I p1]),(92,.raw [.I 0])]⟩) (Br.okE h3) ?_
   cases h;exact (rp:Xr P V Tryz.f30 (Fm.rep p0 p1 (Sum.inl a3)) _ _)
  refine fF c1 <| Tq <| Tm <| Ts <| Tm <| bS h fun a4 h4 h=>rg L 218 [] [(1,.I a4)] [] (Uq (Ee.ok h4)) <| iS h (fun c2 h=>?_) fun c2 h=>?_
  ·refine tT c2 <| Tt L 223 <| To ?_;cases h;exact rr0
  refine fF c2 <| Tm <| bS h fun a5 h5 h=>rg L 228 [] [(1,.I a5)] [] (Uq (D6.ok h5)) <| iS h (fun c3 h=>?_) fun c3 h=>?_
  ·refine tT c3 <| Tt L 233 <| To ?_;cases h;exact rr0
  refine fF c3 <| Tq <| Tt L 238 <| To ?_;cases h;exact rr0
def Jj:Int ⊕ (Aa×Int×Int)→Aa×Int×Int
 |(Sum.inl v0)=>(Ah,v0,29)
 |(Sum.inr (v0,v1,v2))=>(v0,v1,v2)
def Hx (K:Nat) (p0:Ge):Option (Aa×Int×Int):=Option.bind (Gy K p0) (fun (c,a,b)=>if b≠0 then some (Ah,a,b) else Option.bind (Fm K c a) (fun x=>some (Jj x)))
theorem Hx.ok {K:Nat} {p0:Ge} {r:Aa×Int×Int} (h:Hx K p0=some r):Tz V P 30 [.cv (.str p0),.cv (.fn (.func 31) [] [])] (.tup [.agg (Ag r.1),.I r.2.1,.I r.2.2]):=by
 unfold Hx at h;obtain ⟨⟨l,at0,e0⟩,h1,h⟩:=bind_some h;dsimp only at h;by_cases he:e0≠0
 ·rw [if_pos he] at h;obtain rfl:=Option.some.inj h;exact Ll (Gy.ok h1) he
 ·rw [if_neg he] at h;refine bS h fun x h2 h=>?_
  obtain rfl:=Option.some.inj h;have he0:e0=0:=Decidable.not_not.1 he;subst he0;refine Lb (o:=Fm.rep l at0 x) (Gy.ok h1) (fun Γ=>Fm.body h2) ?_;rcases x with v0 |⟨v0,v1,v2⟩
  ·exact .inr ⟨v0,rfl,rfl⟩
  ·exact .inl rfl
def Ib (K:Nat) (p0:Ge):Option (Aa×Int×Int):=((Hx K p0).bind fun (a,b,c)=>some (a,b,c))
theorem Ib.ok {K:Nat} {p0:Ge} {r:Aa×Int×Int} (h:Ib K p0=some r):Tz V P 16 [.cv (.str p0)] (.tup [.agg [.I r.1.Op,.str r.1.Name,.I r.1.Int,.str r.1.Text,.ro .Af r.1.Kids],.I r.2.1,.I r.2.2]):=pc <| e2 Tryz.f16 10 100 fun Γ=>by
 unfold Ib at h;refine Tt L 200 <| Tm ?_;obtain ⟨⟨a,b,c⟩,h1,h⟩:=bind_some h;exact rg L 204 [] [(1,.tup [.agg (Ag a),.I b,.I c])] [] (Uq (Hx.ok h1)) <| Tr (Tn.trans (Tn.kk [2,3,4] [200]) (Tn.rr [(200,100)])) <| To <| sJ h ▸ Tv
def Gc (K:Nat) (p0:Aa):Option Bool:=((((if p0.Op=1 then some (decide (p0.Op=1)) else (if p0.Op=2 then some (decide (p0.Op=2)) else (if p0.Op=3 then some (decide (p0.Op=3)) else (if p0.Op=4 then some (decide (p0.Op=4)) else some (decide (p0.Op=5))))))):Option Bool).bind fun a=>(if a=true then ((Bq K p0).bind fun a1=>some a1) else (if p0.Op=14 then ((Bq K p0).bind fun a2=>(if a2=true then (if (0:Int) <(p0.Kids.length:Int) then some (decide ((p0.Kids.getD (Int.toNat 0) Ah).Op=4)) else none) else some false)) else some false)))
theorem Gc.ok {K:Nat} {p0:Aa} {r:Bool} (h:Gc K p0=some r):Tz V P 76 [.agg (Ag p0)] (.B r):=pc <| e2 Tryz.f76 25 100 fun Γ=>by
 unfold Gc at h;refine Tt L 200 <| Tm <| Tt L 203 <| Ts <| bS h fun o1 hp1 h=>Tm (T8 (Q':=fun e S=>(e=.normal∧∃ a:Bool,S=⟨[(1,.P 21400),(4,.I p0.Op),(5,.B a)],[(21400,.raw (Ag p0))]⟩∧a=o1)) ?_ ?_)
 ·clear h;replace h:=hp1;refine Tt L 206 <| iS h (fun c1 h=>?_) fun c1 h=>?_
  ·refine tT c1 <| Tr (Tn.trans (Tn.kk [1,4,5] [200]) (Tn.rr [(200,21400)])) <| sk (S':=⟨[(1,.P 21400),(4,.I p0.Op),(5,.B (decide (p0.Op=1)))],[(21400,.raw (Ag p0))]⟩) ?_;cases h;exact ⟨rfl,_,rfl,rfl⟩
  refine fF c1 <| Tt L 209 <| iS h (fun c2 h=>?_) fun c2 h=>?_
  ·refine tT c2 <| Tr (Tn.trans (Tn.kk [1,4,5] [200]) (Tn.rr [(200,21400)])) <| sk (S':=⟨[(1,.P 21400),(4,.I p0.Op),(5,.B (decide (p0.Op=2)))],[(21400,.raw (Ag p0))]⟩) ?_;cases h;exact ⟨rfl,_,rfl,rfl⟩
  refine fF c2 <| Tt L 212 <| iS h (fun c3 h=>?_) fun c3 h=>?_
  ·refine tT c3 <| Tr (Tn.trans (Tn.kk [1,4,5] [200]) (Tn.rr [(200,21400)])) <| sk (S':=⟨[(1,.P 21400),(4,.I p0.Op),(5,.B (decide (p0.Op=3)))],[(21400,.raw (Ag p0))]⟩) ?_;cases h;exact ⟨rfl,_,rfl,rfl⟩
  refine fF c3 <| Tt L 215 <| iS h (fun c4 h=>?_) fun c4 h=>?_
  ·refine tT c4 <| Tr (Tn.trans (Tn.kk [1,4,5] [200]) (Tn.rr [(200,21400)])) <| sk (S':=⟨[(1,.P 21400),(4,.I p0.Op),(5,.B (decide (p0.Op=4)))],[(21400,.raw (Ag p0))]⟩) ?_;cases h;exact ⟨rfl,_,rfl,rfl⟩
  refine fF c4 <| Tw (Wh L 218 ⟨rfl,rfl⟩) (Tn.trans (Tn.kk [1,4,5] [200]) (Tn.trans (Tn.rr [(200,21400)]) (Tn.kp (S':=⟨[(1,.P 21400),(4,.I p0.Op),(5,.B (decide (p0.Op=5)))],[(21400,.raw (Ag p0))]⟩)))) ?_;cases h;exact ⟨rfl,_,rfl,rfl⟩
 ·rintro e S ⟨rfl,a,rfl,rfl⟩;exact iS h (fun c5 h=>tt c5 <| Tm <| bS h fun a1 h1 h=>rg L 221 [] [(1,.B a1)] [] (Uq (Bq.ok h1)) <| To <| sJ h ▸ Tv) fun c5 h=>fN c5 <| Tt L 225 <| iS h (fun c6 h=>tT c6 <| Tm <| bS h fun a2 h2 h=>iS h (fun c7 h=>gS h fun g1 h=>rg L 228 [(2,true)] [(1,.B a2)] [] (Tp (Bq.ok h2) (Tp trivial (Tp c7 (Tp (show (0:Int)≤0 from by decide) (Tu g1))))) <| To <| sJ h ▸ Tv) fun c7 h=>rg L 228 [(2,false)] [(1,.B a2)] [] (Tp (Bq.ok h2) (Tp trivial (Tu (Xs c7)))) <| To <| sJ h ▸ Tv) fun c6 h=>fF c6 <| Tq <| Tt L 240 <| To <| sJ h ▸ Tv
structure Am where
 Fz:(List Aa)→Option Bool
 En:Aa→Option Bool
 C9:(List Aa)→Option Int
 D3:(List Aa)→Option Bool
 Em:(List Aa)→Option Bool
 E7:Aa→Option Bool
 Ep:Aa→Option Bool
 Da:(List Aa)→Option Int
 D1:(List Aa)→Option Bool
 Ev:(List Aa)→Option Bool
 E1:(List Aa)→Option Bool
 Dw:Aa→Option Bool
 Eo:Aa→Option Bool
 Dc:(List Aa)→Option Int
 D2:(List Aa)→Option Bool
 Fa:(List Aa)→Option Bool
 Bv:Aa→Option Bool
structure Am.Ok (R:Am):Prop where
 Fz:∀ {p0:List Aa} {r:Bool},R.Fz p0=some r→T1 V P 151 [.cv (.ro .Af p0)] [] [] (.B r) []
 En:∀ {p0:Aa} {r:Bool},R.En p0=some r→T1 V P 74 [.agg (Ag p0),.cv (.pcs [.fn (.func 77) [] []] 0)] [] [] (.B r) []
 C9:∀ {p0:List Aa} {r:Int},R.C9 p0=some r→T1 V P 112 [.cv (.ro .Af p0),.cv (.fn (.func 74) [] [.pcs [.fn (.func 77) [] []] 0])] [] [] (.I r) []
 D3:∀ {p0:List Aa} {r:Bool},R.D3 p0=some r→T1 V P 73 [.cv (.ro .Af p0),.cv (.fn (.func 74) [] [.pcs [.fn (.func 77) [] []] 0])] [] [] (.B r) []
 Em:∀ {p0:List Aa} {r:Bool},R.Em p0=some r→T1 V P 35 [.cv (.ro .Af p0),.cv (.fn (.func 77) [] [])] [] [] (.B r) []
 E7:∀ {p0:Aa} {r:Bool},R.E7 p0=some r→T1 V P 177 [.agg (Ag p0)] [] [] (.B r) []
 Ep:∀ {p0:Aa} {r:Bool},R.Ep p0=some r→T1 V P 74 [.agg (Ag p0),.cv (.pcs [.fn (.func 177) [] []] 0)] [] [] (.B r) []
 Da:∀ {p0:List Aa} {r:Int},R.Da p0=some r→T1 V P 112 [.cv (.ro .Af p0),.cv (.fn (.func 74) [] [.pcs [.fn (.func 177) [] []] 0])] [] [] (.I r) []
 D1:∀ {p0:List Aa} {r:Bool},R.D1 p0=some r→T1 V P 73 [.cv (.ro .Af p0),.cv (.fn (.func 74) [] [.pcs [.fn (.func 177) [] []] 0])] [] [] (.B r) []
 Ev:∀ {p0:List Aa} {r:Bool},R.Ev p0=some r→T1 V P 35 [.cv (.ro .Af p0),.cv (.fn (.func 177) [] [])] [] [] (.B r) []
 E1:∀ {p0:List Aa} {r:Bool},R.E1 p0=some r→T1 V P 152 [.cv (.ro .Af p0)] [] [] (.B r) []
 Dw:∀ {p0:Aa} {r:Bool},R.Dw p0=some r→T1 V P 114 [.agg (Ag p0)] [] [] (.B r) []
 Eo:∀ {p0:Aa} {r:Bool},R.Eo p0=some r→T1 V P 74 [.agg (Ag p0),.cv (.pcs [.fn (.func 114) [] []] 0)] [] [] (.B r) []
 Dc:∀ {p0:List Aa} {r:Int},R.Dc p0=some r→T1 V P 112 [.cv (.ro .Af p0),.cv (.fn (.func 74) [] [.pcs [.fn (.func 114) [] []] 0])] [] [] (.I r) []
 D2:∀ {p0:List Aa} {r:Bool},R.D2 p0=some r→T1 V P 73 [.cv (.ro .Af p0),.cv (.fn (.func 74) [] [.pcs [.fn (.func 114) [] []] 0])] [] [] (.B r) []
 Fa:∀ {p0:List Aa} {r:Bool},R.Fa p0=some r→T1 V P 35 [.cv (.ro .Af p0),.cv (.fn (.func 114) [] [])] [] [] (.B r) []
 Bv:∀ {p0:Aa} {r:Bool},R.Bv p0=some r→T1 V P 77 [.agg (Ag p0)] [] [] (.B r) []
def Fz.F (K:Nat) (R:Am) (p0:List Aa):Option Bool:=(if (p0.length:Int) < 2 then some false else (if (p0.length:Int) > 3 then some false else (if (0:Int) <(p0.length:Int) then ((Bq K (p0.getD (Int.toNat 0) Ah)).bind fun a1=>(if a1=true then (if (1:Int) <(p0.length:Int) then ((R.Bv (p0.getD (Int.toNat 1) Ah)).bind fun a2=>(if a2=true then (if (p0.length:Int)=2 then some true else (if (2:Int) <(p0.length:Int) then ((R.Bv (p0.getD (Int.toNat 2) Ah)).bind fun a3=>(if a3=true then some true else (if (p0.getD (Int.toNat 2) Ah).Op=42 then ((R.Dw (p0.getD (Int.toNat 2) Ah)).bind fun a4=>some a4) else some false))) else none)) else some false)) else none) else some false)) else none)))
theorem Fz.body {Γ:Ue} {K:Nat} {R:Am} (hR:R.Ok) {p0:List Aa} {r:Bool} (h:Fz.F K R p0=some r):Uc V P 47 100 Γ (Tryz.f151.body.getD .skip) (T2 P V Tryz.f151 (.B r) []) ⟨T0 0 [.cv (.ro .Af p0)],[]⟩:=by
 unfold Fz.F at h;exact Tt L 200 <| Tm <| Tm <| iS h (fun c1 h=>rg L 202 [(3,true)] [] [] (Tu (Gt c1)) <| tt (b:=true) rfl <| Tt L 225 <| To <| sJ h ▸ Tv) fun c1 h=>iS h (fun c2 h=>rg L 202 [(3,false),(8,true)] [] [] (Ur (Lt c1) (Gt c2)) <| tt (b:=true) rfl <| Tt L 225 <| To <| sJ h ▸ Tv) fun c2 h=>gS h fun g1 h=>bS h fun a1 h1 h=>iS h (fun c3 h=>gS h fun g2 h=>bS h fun a2 h2 h=>rg L 202 [(3,false),(8,false),(15,false)] [(12,.B a1),(19,.B a2)] [] (Tp (Lt c1) (Tp (Lt c2) (Tp (show (0:Int)≤0 from by decide) (Tp g1 (Tp (Bq.ok h1) (Tp trivial (Tp (show (!a1)=false from congrArg Bool.not (c3)) (Tp (show (0:Int)≤1 from by decide) (Tp g2 (Tp (pc (hR.Bv h2)) (Tu trivial))))))))))) <| iS h (fun c4 h=>ff (b:=(!a2)) (congrArg Bool.not (c4)) <| Tq <| Tm <| iS h (fun c5 h=>rg L 227 [(3,true)] [] [] (Tu (Gt c5)) <| To <| sJ h ▸ Tv) fun c5 h=>gS h fun g3 h=>bS h fun a3 h3 h=>iS h (fun c6 h=>rg L 227 [(3,false),(9,true)] [(7,.B a3)] [] (Tp (Lt c5) (Tp (show (0:Int)≤2 from by decide) (Tp g3 (Tp (pc (hR.Bv h3)) (Tp trivial (Tu c6)))))) <| To <| sJ h ▸ Tv) fun c6 h=>iS h (fun c7 h=>bS h fun a4 h4 h=>rg L 227 [(3,false),(9,false),(15,true)] [(7,.B a3),(19,.B a4)] [] (Tp (Lt c5) (Tp (show (0:Int)≤2 from by decide) (Tp g3 (Tp (pc (hR.Bv h3)) (Tp trivial (Tp (Xs c6) (Tp (show (0:Int)≤2 from by decide) (Tp g3 (Tp (Gt c7) (Tp (show (0:Int)≤2 from by decide) (Tp g3 (Tp (pc (hR.Dw h4)) (Tu trivial))))))))))))) <| To <| sJ h ▸ Tv) fun c7 h=>rg L 227 [(3,false),(9,false),(15,false)] [(7,.B a3)] [] (Tp (Lt c5) (Tp (show (0:Int)≤2 from by decide) (Tp g3 (Tp (pc (hR.Bv h3)) (Tp trivial (Tp (Xs c6) (Tp (show (0:Int)≤2 from by decide) (Tp g3 (Tu (Lt c7)))))))))) <| To <| sJ h ▸ Tv) fun c4 h=>tt (b:=(!a2)) (congrArg Bool.not (Xs c4)) <| Tt L 225 <| To <| sJ h ▸ Tv) fun c3 h=>rg L 202 [(3,false),(8,false),(15,true)] [(12,.B a1)] [] (Tp (Lt c1) (Tp (Lt c2) (Tp (show (0:Int)≤0 from by decide) (Tp g1 (Tp (Bq.ok h1) (Tp trivial (Tu (show (!a1)=true from congrArg Bool.not (Xs c3))))))))) <| tt (b:=true) rfl <| Tt L 225 <| To <| sJ h ▸ Tv
def En.F (K:Nat) (R:Am) (p0:Aa):Option Bool:=((R.Bv p0).bind fun a1=>some (!a1))
theorem En.body {Γ:Ue} {K:Nat} {R:Am} (hR:R.Ok) {p0:Aa} {r:Bool} (h:En.F K R p0=some r):Uc V P 8 100 Γ (Tryz.f74.body.getD .skip) (T2 P V Tryz.f74 (.B r) []) ⟨T0 0 [.agg (Ag p0),.cv (.pcs [.fn (.func 77) [] []] 0)],[]⟩:=by
 unfold En.F at h;exact Tt L 200 <| Tm <| bS h fun a1 h1 h=>rg L 203 [] [(2,.B a1)] [] (Uq (pc (hR.Bv h1))) <| To <| sJ h ▸ Tv
def C9.l7 (K:Nat) (R:Am) (p0:List Aa):Nat→Int→Option (Ty Int Unit)
 | 0,_=>none
 | k+1,a=>(if a <(p0.length:Int) then (if (0:Int)≤a∧(a:Int) <(p0.length:Int) then ((R.En (p0.getD (Int.toNat a) Ah)).bind fun a1=>(if a1=true then some (Ty.done a) else C9.l7 K R p0 k (i64.wrap (a+1)))) else none) else some (Ty.go ()))
def C9.F (K:Nat) (R:Am) (p0:List Aa):Option Int:=(Ub (C9.l7 K R p0 K 0:Option (Ty Int Unit)) (fun r=>r) (fun _=>some (-1)))
theorem C9.body {Γ:Ue} {K:Nat} {R:Am} (hR:R.Ok) {p0:List Aa} {r:Int} (h:C9.F K R p0=some r):Uc V P 19 100 Γ (Tryz.f112.body.getD .skip) (T2 P V Tryz.f112 (.I r) []) ⟨T0 0 [.cv (.ro .Af p0),.cv (.fn (.func 74) [] [.pcs [.fn (.func 77) [] []] 0])],[]⟩:=by
 unfold C9.F at h;refine Tt L 200 <| Tm <| Tt L 202 <| Ts <| kp (S':=⟨[(0,.cv (.ro .Af p0)),(1,.cv (.fn (.func 74) [] [.pcs [.fn (.func 77) [] []] 0])),(7,.I (p0.length:Int)),(8,.I 0)],[]⟩) ?_;obtain ⟨o1,hp1,h⟩:=T7 h;refine Tx (Q':=fun e S=>(e=.exit 0∧S=⟨[],[]⟩∧Ty.go ()=o1)∨(e=.ret∧∃ a,Ty.done a=o1∧T2 P V Tryz.f112 (.I a) [] .ret S)) (T4 (fun k S=>∃ b:Int,S=⟨[(0,.cv (.ro .Af p0)),(1,.cv (.fn (.func 74) [] [.pcs [.fn (.func 77) [] []] 0])),(7,.I (p0.length:Int)),(8,.I b)],[]⟩∧C9.l7 K R p0 k b=some o1) ?_ ⟨_,rfl,hp1⟩) ?_
 ·clear h hp1;intro k S hS;obtain ⟨b,rfl,h⟩:=hS;cases k with
  | zero=>cases h
  | succ k =>
  unfold C9.l7 at h;refine Tt L 206 <| Tm <| iS h (fun c1 h=>tT c1 <| Tq <| Tm <| Ts <| Tt L 208 <| Tm <| gS h fun g1 h=>bS h fun a1 h1 h=>rg L 211 [] [(5,.B a1)] [] (Tp g1.1 (Tp g1.2 (Tp (pc (hR.En h1)) (Tu trivial)))) <| iS h (fun c2 h=>tt c2 <| Tt L 218 <| To <| sJ h ▸ (ei Tv)) fun c2 h=>fN c2 <| Tq <| Vd L 221 [] [] [] (S':=⟨[(0,.cv (.ro .Af p0)),(1,.cv (.fn (.func 74) [] [.pcs [.fn (.func 77) [] []] 0])),(7,.I (p0.length:Int)),(8,.I (i64.wrap (b+1)))],[]⟩) <|⟨k,Nat.lt_succ_self k,_,rfl,h⟩) fun c1 h=>fF c1 <| ex (S':=⟨[],[]⟩) ?_
  cases h;exact .inl ⟨rfl,rfl,rfl⟩
 ·rintro e S (⟨rfl,rfl,rfl⟩ |⟨rfl,a,rfl,hr⟩)
  ·rcases h with ⟨_,e1,h⟩ |⟨_,e1,h⟩
   ·cases e1
   ·have e2:=Ty.go.inj e1;subst e2;refine ⟨_,Tn.refl,?_⟩;exact Tt L 224 <| To <| sJ h ▸ Tv
  ·rcases h with ⟨_,e1,h⟩ |⟨_,e1,h⟩
   ·have e2:=Ty.done.inj e1;subst e2;subst h;exact ⟨_,Tn.refl,hr⟩
   ·cases e1
def D3.F (K:Nat) (R:Am) (p0:List Aa):Option Bool:=((R.C9 p0).bind fun a1=>some (decide (a1≥0)))
theorem D3.body {Γ:Ue} {K:Nat} {R:Am} (hR:R.Ok) {p0:List Aa} {r:Bool} (h:D3.F K R p0=some r):Uc V P 9 100 Γ (Tryz.f73.body.getD .skip) (T2 P V Tryz.f73 (.B r) []) ⟨T0 0 [.cv (.ro .Af p0),.cv (.fn (.func 74) [] [.pcs [.fn (.func 77) [] []] 0])],[]⟩:=by
 unfold D3.F at h;exact Tt L 200 <| Tm <| bS h fun a1 h1 h=>rg L 202 [] [(2,.I a1)] [] (Uq (pc (hR.C9 h1))) <| To <| sJ h ▸ Tv
def Em.F (K:Nat) (R:Am) (p0:List Aa):Option Bool:=((R.D3 p0).bind fun a1=>some (!a1))
theorem Em.body {Γ:Ue} {K:Nat} {R:Am} (hR:R.Ok) {p0:List Aa} {r:Bool} (h:Em.F K R p0=some r):Uc V P 9 100 Γ (Tryz.f35.body.getD .skip) (T2 P V Tryz.f35 (.B r) []) ⟨T0 0 [.cv (.ro .Af p0),.cv (.fn (.func 77) [] [])],[]⟩:=by
 unfold Em.F at h;exact Tt L 200 <| Tm <| bS h fun a1 h1 h=>rg L 203 [] [(2,.B a1)] [] (Uq (pc (hR.D3 h1))) <| To <| sJ h ▸ Tv
def E7.F (K:Nat) (R:Am) (p0:Aa):Option Bool:=(if p0.Op=50 then ((A5 K p0 true false false).bind fun a1=>(if a1=true then (if p0.Name=([]:Ge) then (if (p0.Kids.length:Int)=2 then (if (0:Int) <(p0.Kids.length:Int) then ((Bq K (p0.Kids.getD (Int.toNat 0) Ah)).bind fun a2=>(if a2=true then (if (1:Int) <(p0.Kids.length:Int) then ((R.Bv (p0.Kids.getD (Int.toNat 1) Ah)).bind fun a3=>some a3) else none) else some false)) else none) else some false) else ((Ca K p0.Name).bind fun a4=>(if a4=true then (if (p0.Kids.length:Int)=2 then (if (0:Int) <(p0.Kids.length:Int) then ((Bq K (p0.Kids.getD (Int.toNat 0) Ah)).bind fun a5=>(if a5=true then (if (1:Int) <(p0.Kids.length:Int) then ((R.Bv (p0.Kids.getD (Int.toNat 1) Ah)).bind fun a6=>some a6) else none) else some false)) else none) else some false) else some false))) else some false)) else some false)
theorem E7.body {Γ:Ue} {K:Nat} {R:Am} (hR:R.Ok) {p0:Aa} {r:Bool} (h:E7.F K R p0=some r):Uc V P 40 100 Γ (Tryz.f177.body.getD .skip) (T2 P V Tryz.f177 (.B r) []) ⟨T0 0 [.agg (Ag p0)],[]⟩:=by
 unfold E7.F at h;exact Tt L 200 <| Tm <| iS h (fun c1 h=>bS h fun a1 h1 h=>iS h (fun c2 h=>iS h (fun c3 h=>iS h (fun c4 h=>gS h fun g1 h=>bS h fun a2 h2 h=>iS h (fun c5 h=>gS h fun g2 h=>bS h fun a3 h3 h=>rg L 203 [(3,true),(7,true),(11,true),(23,true),(30,true)] [(5,.B a1),(28,.B a2),(35,.B a3)] [] (Tp (Gt c1) (Tp (A5.ok h1) (Tp trivial (Tp c2 (Tp (Gt c3) (Tp (Gt c4) (Tp (show (0:Int)≤0 from by decide) (Tp g1 (Tp (Bq.ok h2) (Tp trivial (Tp c5 (Tp (show (0:Int)≤1 from by decide) (Tp g2 (Tp (pc (hR.Bv h3)) (Tu trivial))))))))))))))) <| To <| sJ h ▸ Tv) fun c5 h=>rg L 203 [(3,true),(7,true),(11,true),(23,true),(30,false)] [(5,.B a1),(28,.B a2)] [] (Tp (Gt c1) (Tp (A5.ok h1) (Tp trivial (Tp c2 (Tp (Gt c3) (Tp (Gt c4) (Tp (show (0:Int)≤0 from by decide) (Tp g1 (Tp (Bq.ok h2) (Tp trivial (Tu (Xs c5)))))))))))) <| To <| sJ h ▸ Tv) fun c4 h=>rg L 203 [(3,true),(7,true),(11,true),(23,false)] [(5,.B a1)] [] (Tp (Gt c1) (Tp (A5.ok h1) (Tp trivial (Tp c2 (Tp (Gt c3) (Tu (Lt c4))))))) <| To <| sJ h ▸ Tv) fun c3 h=>bS h fun a4 h4 h=>iS h (fun c6 h=>iS h (fun c7 h=>gS h fun g3 h=>bS h fun a5 h5 h=>iS h (fun c8 h=>gS h fun g4 h=>bS h fun a6 h6 h=>rg L 203 [(3,true),(7,true),(11,false),(17,true),(23,true),(30,true)] [(5,.B a1),(14,.B a4),(28,.B a5),(35,.B a6)] [] (Tp (Gt c1) (Tp (A5.ok h1) (Tp trivial (Tp c2 (Tp (Lt c3) (Tp (Ca.ok h4) (Tp trivial (Tp c6 (Tp (Gt c7) (Tp (show (0:Int)≤0 from by decide) (Tp g3 (Tp (Bq.ok h5) (Tp trivial (Tp c8 (Tp (show (0:Int)≤1 from by decide) (Tp g4 (Tp (pc (hR.Bv h6)) (Tu trivial)))))))))))))))))) <| To <| sJ h ▸ Tv) fun c8 h=>rg L 203 [(3,true),(7,true),(11,false),(17,true),(23,true),(30,false)] [(5,.B a1),(14,.B a4),(28,.B a5)] [] (Tp (Gt c1) (Tp (A5.ok h1) (Tp trivial (Tp c2 (Tp (Lt c3) (Tp (Ca.ok h4) (Tp trivial (Tp c6 (Tp (Gt c7) (Tp (show (0:Int)≤0 from by decide) (Tp g3 (Tp (Bq.ok h5) (Tp trivial (Tu (Xs c8))))))))))))))) <| To <| sJ h ▸ Tv) fun c7 h=>rg L 203 [(3,true),(7,true),(11,false),(17,true),(23,false)] [(5,.B a1),(14,.B a4)] [] (Tp (Gt c1) (Tp (A5.ok h1) (Tp trivial (Tp c2 (Tp (Lt c3) (Tp (Ca.ok h4) (Tp trivial (Tp c6 (Tu (Lt c7)))))))))) <| To <| sJ h ▸ Tv) fun c6 h=>rg L 203 [(3,true),(7,true),(11,false),(17,false)] [(5,.B a1),(14,.B a4)] [] (Tp (Gt c1) (Tp (A5.ok h1) (Tp trivial (Tp c2 (Tp (Lt c3) (Tp (Ca.ok h4) (Tp trivial (Tu (Xs c6))))))))) <| To <| sJ h ▸ Tv) fun c2 h=>rg L 203 [(3,true),(7,false)] [(5,.B a1)] [] (Tp (Gt c1) (Tp (A5.ok h1) (Tp trivial (Tu (Xs c2))))) <| To <| sJ h ▸ Tv) fun c1 h=>rg L 203 [(3,false)] [] [] (Tu (Lt c1)) <| To <| sJ h ▸ Tv
def Ep.F (K:Nat) (R:Am) (p0:Aa):Option Bool:=((R.E7 p0).bind fun a1=>some (!a1))
theorem Ep.body {Γ:Ue} {K:Nat} {R:Am} (hR:R.Ok) {p0:Aa} {r:Bool} (h:Ep.F K R p0=some r):Uc V P 8 100 Γ (Tryz.f74.body.getD .skip) (T2 P V Tryz.f74 (.B r) []) ⟨T0 0 [.agg (Ag p0),.cv (.pcs [.fn (.func 177) [] []] 0)],[]⟩:=by
 unfold Ep.F at h;exact Tt L 200 <| Tm <| bS h fun a1 h1 h=>rg L 203 [] [(2,.B a1)] [] (Uq (pc (hR.E7 h1))) <| To <| sJ h ▸ Tv
def Da.l7 (K:Nat) (R:Am) (p0:List Aa):Nat→Int→Option (Ty Int Unit)
 | 0,_=>none
 | k+1,a=>(if a <(p0.length:Int) then (if (0:Int)≤a∧(a:Int) <(p0.length:Int) then ((R.Ep (p0.getD (Int.toNat a) Ah)).bind fun a1=>(if a1=true then some (Ty.done a) else Da.l7 K R p0 k (i64.wrap (a+1)))) else none) else some (Ty.go ()))
def Da.F (K:Nat) (R:Am) (p0:List Aa):Option Int:=(Ub (Da.l7 K R p0 K 0:Option (Ty Int Unit)) (fun r=>r) (fun _=>some (-1)))
theorem Da.body {Γ:Ue} {K:Nat} {R:Am} (hR:R.Ok) {p0:List Aa} {r:Int} (h:Da.F K R p0=some r):Uc V P 19 100 Γ (Tryz.f112.body.getD .skip) (T2 P V Tryz.f112 (.I r) []) ⟨T0 0 [.cv (.ro .Af p0),.cv (.fn (.func 74) [] [.pcs [.fn (.func 177) [] []] 0])],[]⟩:=by
 unfold Da.F at h;refine Tt L 200 <| Tm <| Tt L 202 <| Ts <| kp (S':=⟨[(0,.cv (.ro .Af p0)),(1,.cv (.fn (.func 74) [] [.pcs [.fn (.func 177) [] []] 0])),(7,.I (p0.length:Int)),(8,.I 0)],[]⟩) ?_;obtain ⟨o1,hp1,h⟩:=T7 h;refine Tx (Q':=fun e S=>(e=.exit 0∧S=⟨[],[]⟩∧Ty.go ()=o1)∨(e=.ret∧∃ a,Ty.done a=o1∧T2 P V Tryz.f112 (.I a) [] .ret S)) (T4 (fun k S=>∃ b:Int,S=⟨[(0,.cv (.ro .Af p0)),(1,.cv (.fn (.func 74) [] [.pcs [.fn (.func 177) [] []] 0])),(7,.I (p0.length:Int)),(8,.I b)],[]⟩∧Da.l7 K R p0 k b=some o1) ?_ ⟨_,rfl,hp1⟩) ?_
 ·clear h hp1;intro k S hS;obtain ⟨b,rfl,h⟩:=hS;cases k with
  | zero=>cases h
  | succ k =>
  unfold Da.l7 at h;refine Tt L 206 <| Tm <| iS h (fun c1 h=>tT c1 <| Tq <| Tm <| Ts <| Tt L 208 <| Tm <| gS h fun g1 h=>bS h fun a1 h1 h=>rg L 211 [] [(5,.B a1)] [] (Tp g1.1 (Tp g1.2 (Tp (pc (hR.Ep h1)) (Tu trivial)))) <| iS h (fun c2 h=>tt c2 <| Tt L 218 <| To <| sJ h ▸ (ei Tv)) fun c2 h=>fN c2 <| Tq <| Vd L 221 [] [] [] (S':=⟨[(0,.cv (.ro .Af p0)),(1,.cv (.fn (.func 74) [] [.pcs [.fn (.func 177) [] []] 0])),(7,.I (p0.length:Int)),(8,.I (i64.wrap (b+1)))],[]⟩) <|⟨k,Nat.lt_succ_self k,_,rfl,h⟩) fun c1 h=>fF c1 <| ex (S':=⟨[],[]⟩) ?_
  cases h;exact .inl ⟨rfl,rfl,rfl⟩
 ·rintro e S (⟨rfl,rfl,rfl⟩ |⟨rfl,a,rfl,hr⟩)
  ·rcases h with ⟨_,e1,h⟩ |⟨_,e1,h⟩
   ·cases e1
   ·have e2:=Ty.go.inj e1;subst e2;refine ⟨_,Tn.refl,?_⟩;exact Tt L 224 <| To <| sJ h ▸ Tv
  ·rcases h with ⟨_,e1,h⟩ |⟨_,e1,h⟩
   ·have e2:=Ty.done.inj e1;subst e2;subst h;exact ⟨_,Tn.refl,hr⟩
   ·cases e1
def D1.F (K:Nat) (R:Am) (p0:List Aa):Option Bool:=((R.Da p0).bind fun a1=>some (decide (a1≥0)))
theorem D1.body {Γ:Ue} {K:Nat} {R:Am} (hR:R.Ok) {p0:List Aa} {r:Bool} (h:D1.F K R p0=some r):Uc V P 9 100 Γ (Tryz.f73.body.getD .skip) (T2 P V Tryz.f73 (.B r) []) ⟨T0 0 [.cv (.ro .Af p0),.cv (.fn (.func 74) [] [.pcs [.fn (.func 177) [] []] 0])],[]⟩:=by
 unfold D1.F at h;exact Tt L 200 <| Tm <| bS h fun a1 h1 h=>rg L 202 [] [(2,.I a1)] [] (Uq (pc (hR.Da h1))) <| To <| sJ h ▸ Tv
def Ev.F (K:Nat) (R:Am) (p0:List Aa):Option Bool:=((R.D1 p0).bind fun a1=>some (!a1))
theorem Ev.body {Γ:Ue} {K:Nat} {R:Am} (hR:R.Ok) {p0:List Aa} {r:Bool} (h:Ev.F K R p0=some r):Uc V P 9 100 Γ (Tryz.f35.body.getD .skip) (T2 P V Tryz.f35 (.B r) []) ⟨T0 0 [.cv (.ro .Af p0),.cv (.fn (.func 177) [] [])],[]⟩:=by
 unfold Ev.F at h;exact Tt L 200 <| Tm <| bS h fun a1 h1 h=>rg L 203 [] [(2,.B a1)] [] (Uq (pc (hR.D1 h1))) <| To <| sJ h ▸ Tv
def E1.F (K:Nat) (R:Am) (p0:List Aa):Option Bool:=((((if (i64.wrap ((p0.length:Int) - 1))≥0 then (if (0:Int)≤(i64.wrap ((p0.length:Int) - 1))∧((i64.wrap ((p0.length:Int) - 1)):Int) <(p0.length:Int) then some ((decide ((p0.getD (Int.toNat (i64.wrap ((p0.length:Int) - 1))) Ah).Op=51))) else none) else some false)):Option Bool).bind fun a=>(if a=true then (if (0:Int)≤(i64.wrap ((p0.length:Int) - 1))∧((i64.wrap ((p0.length:Int) - 1)):Int) <(p0.length:Int) then ((A5 K (p0.getD (Int.toNat (i64.wrap ((p0.length:Int) - 1))) Ah) false false false).bind fun a1=>(if a1=true then (if (((p0.getD (Int.toNat (i64.wrap ((p0.length:Int) - 1))) Ah).Kids).length:Int)≠1 then some false else (if (0:Int) <(((p0.getD (Int.toNat (i64.wrap ((p0.length:Int) - 1))) Ah).Kids).length:Int) then ((R.Bv ((((p0.getD (Int.toNat (i64.wrap ((p0.length:Int) - 1))) Ah).Kids).getD (Int.toNat 0) Ah))).bind fun a2=>(if a2=true then (if (i64.wrap ((p0.length:Int) - 1))≤16 then (if (i64.wrap ((p0.length:Int) - 1))≤(p0.length:Int) then ((R.Ev (We p0 0 (i64.wrap ((p0.length:Int) - 1)))).bind fun a3=>some a3) else none) else some false) else some false)) else none)) else some false)) else none) else (if (p0.length:Int)≥1 then (if (p0.length:Int)≤16 then ((R.Ev p0).bind fun a4=>some a4) else some false) else some false)))
theorem E1.body {Γ:Ue} {K:Nat} {R:Am} (hR:R.Ok) {p0:List Aa} {r:Bool} (h:E1.F K R p0=some r):Uc V P 59 100 Γ (Tryz.f152.body.getD .skip) (T2 P V Tryz.f152 (.B r) []) ⟨T0 0 [.cv (.ro .Af p0)],[]⟩:=by
 unfold E1.F at h;refine Tt L 200 <| Tm <| Tt L 202 <| bS h fun o1 hp1 h=>Tm (T8 (Q':=fun e S=>(e=.normal∧∃ a:Bool,S=⟨[(0,.cv (.ro .Af p0)),(3,.I (i64.wrap ((p0.length:Int) - 1))),(17,.B a)],[]⟩∧a=o1)) ?_ ?_)
 ·clear h;replace h:=hp1;refine iS h (fun c1 h=>?_) fun c1 h=>?_
  ·refine gS h fun g1 h=>ar L 207 [(2,true)] [] [] (cs:=[(decide ((i64.wrap ((p0.length:Int) - 1))≥0))=true,(0:Int)≤(i64.wrap ((p0.length:Int) - 1)),((i64.wrap ((p0.length:Int) - 1)):Int) <(p0.length:Int)]) (S':=⟨[(0,.cv (.ro .Af p0)),(3,.I (i64.wrap ((p0.length:Int) - 1))),(17,.B ((decide ((p0.getD (Int.toNat (i64.wrap ((p0.length:Int) - 1))) Ah).Op=51))))],[]⟩) (And.intro (Gt c1) (And.intro g1.1 g1.2)) ?_
   cases h;exact ⟨rfl,_,rfl,rfl⟩
  refine ar L 207 [(2,false)] [] [] (cs:=[(decide ((i64.wrap ((p0.length:Int) - 1))≥0))=false]) (S':=⟨[(0,.cv (.ro .Af p0)),(3,.I (i64.wrap ((p0.length:Int) - 1))),(17,.B false)],[]⟩) (Lt c1) ?_;cases h;exact ⟨rfl,_,rfl,rfl⟩
 ·rintro e S ⟨rfl,a,rfl,rfl⟩;exact iS h (fun c2 h=>tt c2 <| Tm <| Tm <| gS h fun g2 h=>rg L 218 [] [] [] (Ur g2.1 g2.2) <| Tm <| bS h fun a1 h1 h=>iS h (fun c3 h=>iS h (fun c4 h=>rg L 225 [(3,false),(9,true)] [(1,.B a1)] [] (Tp (A5.ok h1) (Tp trivial (Tp (show (!a1)=false from congrArg Bool.not (c3)) (Tu (Gt c4))))) <| tt (b:=true) rfl <| Tt L 243 <| To <| sJ h ▸ Tv) fun c4 h=>gS h fun g3 h=>bS h fun a2 h2 h=>rg L 225 [(3,false),(9,false)] [(1,.B a1),(14,.B a2)] [] (Tp (A5.ok h1) (Tp trivial (Tp (show (!a1)=false from congrArg Bool.not (c3)) (Tp (Lt c4) (Tp (show (0:Int)≤0 from by decide) (Tp g3 (Tp (pc (hR.Bv h2)) (Tu trivial)))))))) <| iS h (fun c5 h=>ff (b:=(!a2)) (congrArg Bool.not (c5)) <| Tq <| Tm <| iS h (fun c6 h=>gS h fun g4 h=>bS h fun a3 h3 h=>rg L 245 [(2,true)] [(6,.B a3)] [] (Tp (Gt c6) (Tp (show (0:Int)≤0 from Int.le_refl _) (Tp g2.1 (Tp g4 (Tp (pc (hR.Ev h3)) (Tu trivial)))))) <| To <| sJ h ▸ Tv) fun c6 h=>rg L 245 [(2,false)] [] [] (Tu (Lt c6)) <| To <| sJ h ▸ Tv) fun c5 h=>tt (b:=(!a2)) (congrArg Bool.not (Xs c5)) <| Tt L 243 <| To <| sJ h ▸ Tv) fun c3 h=>rg L 225 [(3,true)] [(1,.B a1)] [] (Tp (A5.ok h1) (Tp trivial (Tu (show (!a1)=true from congrArg Bool.not (Xs c3))))) <| tt (b:=true) rfl <| Tt L 243 <| To <| sJ h ▸ Tv) fun c2 h=>fN c2 <| Tq <| Tm <| iS h (fun c7 h=>iS h (fun c8 h=>bS h fun a4 h4 h=>rg L 255 [(3,true),(8,true)] [(10,.B a4)] [] (Tp (Gt c7) (Tp (Gt c8) (Tp (pc (hR.Ev h4)) (Tu trivial)))) <| To <| sJ h ▸ Tv) fun c8 h=>rg L 255 [(3,true),(8,false)] [] [] (Ur (Gt c7) (Lt c8)) <| To <| sJ h ▸ Tv) fun c7 h=>rg L 255 [(3,false)] [] [] (Tu (Lt c7)) <| To <| sJ h ▸ Tv
end Go.Proofs.YtdgejpgbppfhmaaGreatDoor
