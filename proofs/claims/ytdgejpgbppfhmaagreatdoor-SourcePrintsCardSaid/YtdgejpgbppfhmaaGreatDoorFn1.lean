import Derived.Test.YtdgejpgbppfhmaaGreatDoorPd
set_option linter.unusedVariables false
set_option maxHeartbeats 0
namespace Go.Proofs.YtdgejpgbppfhmaaGreatDoor
open Eng open Go.IntKind (i64 u8 i32)
abbrev Ge:=List UInt8
theorem Gt {p:Prop} [Decidable p] (h:p):decide p=true:=decide_eq_true h
theorem Lt {p:Prop} [Decidable p] (h:¬ p):decide p=false:=decide_eq_false h
theorem Xs {b:Bool} (h:¬ b=true):b=false:=eq_false_of_ne_true h
theorem e2 (fn:Func) (n m:Nat) {f:FuncId} {args:List (AV T)} {H:List (Nat×T9 T)} {fx:List Nat} {r:AV T} {H':List (Nat×T9 T)} (h:∀ Γ:Ue,Uc V P n m Γ (fn.body.getD .skip) (T2 P V fn r H') ⟨T0 0 args,H⟩) (hf:P.funcs[f]? = some fn:=by kernel_rfl) (hb:fn.body=some (fn.body.getD .skip):=by kernel_rfl) (hcal:U7 P f=true:=by kernel_rfl) (hn:fn.ntmps=n:=by rfl) (hle:Nat.ble args.length n=true:=by kernel_rfl) (hids:(H.all (fun p=>Nat.blt p.1 100) && fx.all (fun i=>Nat.blt i m))=true:=by kernel_rfl):T1 V P f args H fx r H':=eo h hf hb hcal hn hle hids
theorem pc {f:FuncId} {args:List (AV T)} {r:AV T} (h:T1 V P f args [] [] r []) (hr:r.clean=true:=by kernel_rfl):Tz V P f args r:=h.pcall hr
theorem bS {α β:Type} {x:Option α} {f:α→Option β} {r:β} {G:Prop} (h:x.bind f=some r) (k:∀ a,x=some a→f a=some r→G):G:=by obtain ⟨a,b,c⟩:=bind_some h; exact k a b c
theorem gS {α:Type} {C:Prop} [Decidable C] {A:Option α} {r:α} {G:Prop} (h:(if C then A else none)=some r) (k:C→A=some r→G):G:=by obtain ⟨a,b⟩:=Ad1 h; exact k a b
theorem iS {α:Type} {C:Prop} [Decidable C] {A B:Option α} {r:α} {G:Prop} (h:(if C then A else B)=some r) (k:C→A=some r→G) (l:¬ C→B=some r→G):G:=by rcases Aff h with ⟨a,b⟩ |⟨a,b⟩; exact k a b; exact l a b
theorem sJ {α:Type} {a r:α} (h:some a=some r):a=r:=Option.some.inj h
theorem ei {A:Prop} {α β:Type} {a:α} {Q:α→Prop} (h:Q a):A∨Exit.ret=.ret∧∃ b,(Ty.done b:Ty α β)=Ty.done a∧Q b:=.inr ⟨rfl,a,rfl,h⟩
structure Ed where
 C8:Aa→Int→Option Int
structure Ed.Ok (R:Ed):Prop where
 C8:∀ {p0:Aa} {p1:Int} {r:Int},R.C8 p0 p1=some r→T1 V P 8 [.agg (Ag p0),.I p1] [] [] (.I r) []
def C8.l9 (K:Nat) (R:Ed) (p0:Aa):Nat→Int→Int→Option Int
 | 0,_,_=>none
 | k+1,b,a=>(if a <(p0.Kids.length:Int) then (if b≥0 then (if (0:Int)≤a∧(a:Int) <(p0.Kids.length:Int) then ((R.C8 (p0.Kids.getD (Int.toNat a) Ah) b).bind fun a1=>C8.l9 K R p0 k a1 (i64.wrap (a+1))) else none) else some b) else some b)
def C8.F (K:Nat) (R:Ed) (p0:Aa) (p1:Int):Option Int:=((C8.l9 K R p0 K ((i64.wrap ((i64.wrap ((i64.wrap (p1 - 1)) - (p0.Name.length:Int))) - (p0.Text.length:Int)))) 0:Option Int).bind fun a=>some a)
theorem C8.body {Γ:Ue} {K:Nat} {R:Ed} (hR:R.Ok) {p0:Aa} {p1:Int} {r:Int} (h:C8.F K R p0 p1=some r):Uc V P 35 100 Γ (Tryz.f8.body.getD .skip) (T2 P V Tryz.f8 (.I r) []) ⟨T0 0 [.agg (Ag p0),.I p1],[]⟩:=by
 unfold C8.F at h;refine Tt L 200 <| Tt L 203 <| Tm <| Tt L 215 <| Ts <| Tr (Tn.trans (Tn.kk [1,2,5] [200]) (Tn.rr [(200,21900)])) <| kp (S':=⟨[(1,.I ((i64.wrap ((i64.wrap ((i64.wrap (p1 - 1)) - (p0.Name.length:Int))) - (p0.Text.length:Int))))),(2,.P 21900),(5,.I 0)],[(21900,.raw (Ag p0))]⟩) <| bS h fun o1 hp1 h=>Tx (Q':=fun e S=>(e=.exit 0∧∃ d:Int,S=⟨[(1,.I d)],[]⟩∧d=o1)) (T4 (fun k S=>∃ a:Int,∃ c:Int,S=⟨[(1,.I a),(2,.P 21900),(5,.I c)],[(21900,.raw (Ag p0))]⟩∧C8.l9 K R p0 k a c=some o1) ?_ ⟨_,_,rfl,hp1⟩) ?_
 ·clear h hp1;intro k S hS;obtain ⟨a,c,rfl,h⟩:=hS;cases k with
  | zero=>cases h
  | succ k =>
  unfold C8.l9 at h;refine Tm <| Tm <| iS h (fun c1 h=>?_) fun c1 h=>?_
  ·refine rg L 217 [(5,true)] [] [] (Tu (Gt c1)) <| iS h (fun c2 h=>tT c2 <| Tq <| Tm <| Ts <| gS h fun g1 h=>bS h fun a1 h1 h=>rg L 227 [] [(6,.I a1)] [] (Tp g1.1 (Tp g1.2 (Tp (pc (hR.C8 h1)) (Tu trivial)))) <| Vd L 236 [] [] [] (S':=⟨[(1,.I a1),(2,.P 21900),(5,.I (i64.wrap (c+1)))],[(21900,.raw (Ag p0))]⟩) <|⟨k,Nat.lt_succ_self k,_,_,rfl,h⟩) fun c2 h=>fF c2 <| ex (S':=⟨[(1,.I a)],[]⟩) ?_
   cases h;exact ⟨rfl,_,rfl,rfl⟩
  refine rg L 217 [(5,false)] [] [] (Tu (Lt c1)) <| ff (b:=false) (rfl) <| ex (S':=⟨[(1,.I a)],[]⟩) ?_;cases h;exact ⟨rfl,_,rfl,rfl⟩
 ·rintro e S ⟨rfl,d,rfl,rfl⟩;refine ⟨_,Tn.refl,?_⟩;exact Tt L 240 <| To <| sJ h ▸ Tv
def Ed.upto (K:Nat):Nat→Ed
 | 0=>⟨fun _ _=>none⟩
 | k+1=>⟨C8.F K (Ed.upto K k)⟩
theorem Ed.upto_ok (K:Nat):∀ k,(Ed.upto K k).Ok
 | 0=>⟨fun h=>(by cases h)⟩
 | k+1=>⟨fun {p0 p1 r} h=>e2 Tryz.f8 35 100 fun Γ=>C8.body (K:=K) (Ed.upto_ok K k) h⟩
def C8 (K:Nat) (p0:Aa) (p1:Int):Option Int:=(Ed.upto K K).C8 p0 p1
theorem C8.ok {K:Nat} {p0:Aa} {p1:Int} {r:Int} (h:C8 K p0 p1=some r):Tz V P 8 [.agg (Ag p0),.I p1] (.I r):=pc ((Ed.upto_ok K K).C8 h)
def Dp (K:Nat) (p0:A4) (p1:Int):Option Int:=(if (i64.wrap (p0.at_+p1))≥(p0.src.length:Int) then some (-1) else (if (0:Int)≤(i64.wrap (p0.at_+p1))∧((i64.wrap (p0.at_+p1)):Int) <(p0.src.length:Int) then some ((i32.wrap ((p0.src.getD (Int.toNat (i64.wrap (p0.at_+p1))) 0).toNat:Int))) else none))
theorem Dp.ok {K:Nat} {p0:A4} {p1:Int} {r:Int} (h:Dp K p0 p1=some r):Tz V P 136 [.cv (.pcs (Be p0) 0),.I p1] (.cv (.lit (.int .i32 r))):=pc <| e2 Tryz.f136 29 100 fun Γ=>by
 unfold Dp at h;exact Tt L 200 <| Tm <| sd' L mixed 202 [] [] [] [] 12 pl0 <| iS h (fun c1 h=>tT c1 <| Tt L 215 <| To <| sJ h ▸ Tv) fun c1 h=>fF c1 <| Tq <| Tm <| gS h fun g1 h=>rd L mixed 217 [] [] [] [] 13 (Ur g1.1 g1.2) <| To <| sJ h ▸ Tv
def H8 (K:Nat) (p0:Int):Option Bool:=(if p0=32 then some true else (if p0=9 then some true else some (decide (p0=10))))
theorem H8.ok {K:Nat} {p0:Int} {r:Bool} (h:H8 K p0=some r):Tz V P 103 [.cv (.lit (.int .i32 p0))] (.B r):=pc <| e2 Tryz.f103 13 100 fun Γ=>by
 unfold H8 at h;exact Tt L 200 <| Tm <| iS h (fun c1 h=>rg L 202 [(2,true)] [] [] (Tu (Gt c1)) <| To <| sJ h ▸ Tv) fun c1 h=>iS h (fun c2 h=>rg L 202 [(2,false),(6,true)] [] [] (Ur (Lt c1) (Gt c2)) <| To <| sJ h ▸ Tv) fun c2 h=>rg L 202 [(2,false),(6,false)] [] [] (Ur (Lt c1) (Lt c2)) <| To <| sJ h ▸ Tv
def El.l7 (K:Nat) (p0:A4):Nat→Int→Option Int
 | 0,_=>none
 | k+1,a=>((Dp K (⟨p0.src,a⟩:A4) 0).bind fun a1=>((H8 K a1).bind fun a2=>(if a2=true then El.l7 K p0 k (i64.wrap (a+1)) else some a)))
def El (K:Nat) (p0:A4):Option (Ge×A4):=((El.l7 K p0 K p0.at_:Option Int).bind fun a=>(if (0:Int)≤p0.at_∧p0.at_≤a∧a≤(p0.src.length:Int) then some ((We p0.src p0.at_ a),(⟨p0.src,a⟩:A4)) else none))
theorem El.body {Γ:Ue} {K:Nat} {p0:A4} {r:Ge×A4} (h:El K p0=some r):Uc V P 31 100 Γ (Tryz.f102.body.getD .skip) (T2 P V Tryz.f102 (.cv (.str r.1)) [(0,.raw [.str r.2.src,.I r.2.at_])]) ⟨T0 0 [.P 0,.cv (.fn (.func 103) [] [])],[(0,.raw (Be p0))]⟩:=by
 unfold El at h;refine Tt L 200 <| Tt L 202 <| Tm <| Ts <| kp (S':=⟨[(0,.P 0),(1,.cv (.fn (.func 103) [] [])),(5,.I p0.at_)],[(0,.raw (Be p0))]⟩) <| bS h fun o1 hp1 h=>Tx (Q':=fun e S=>(e=.exit 0∧∃ b:Int,S=⟨[(0,.P 0),(5,.I p0.at_)],[(0,.raw [.str p0.src,.I b])]⟩∧b=o1)) (T4 (fun k S=>∃ a:Int,S=⟨[(0,.P 0),(1,.cv (.fn (.func 103) [] [])),(5,.I p0.at_)],[(0,.raw [.str p0.src,.I a])]⟩∧El.l7 K p0 k a=some o1) ?_ ⟨_,rfl,hp1⟩) ?_
 ·clear h hp1;intro k S hS;obtain ⟨a,rfl,h⟩:=hS;cases k with
  | zero=>cases h
  | succ k =>
  unfold El.l7 at h;refine Tm <| Tm <| bS h fun a1 h1 h=>bS h fun a2 h2 h=>rg L 208 [] [(2,.cv (.lit (.int .i32 a1))),(3,.B a2)] [] (Tp (Dp.ok h1) (Tp trivial (Tp (H8.ok h2) (Tu trivial)))) <| iS h (fun c1 h=>tt c1 <| Tq <| Ts <| Vd L 213 [] [] [] (S':=⟨[(0,.P 0),(1,.cv (.fn (.func 103) [] [])),(5,.I p0.at_)],[(0,.raw [.str p0.src,.I (i64.wrap (a+1))])]⟩) <|⟨k,Nat.lt_succ_self k,_,rfl,h⟩) fun c1 h=>fN c1 <| ex (S':=⟨[(0,.P 0),(5,.I p0.at_)],[(0,.raw [.str p0.src,.I a])]⟩) ?_
  cases h;exact ⟨rfl,_,rfl,rfl⟩
 ·rintro e S ⟨rfl,b,rfl,rfl⟩;refine ⟨_,Tn.refl,?_⟩;exact Tm <| gS h fun g1 h=>rd L mixed 222 [] [] [] [] 11 (Tp g1.1 (Tp g1.2.1 (Tu g1.2.2))) <| To <| sJ h ▸ Tv
theorem El.okE {K:Nat} {p0:A4} {r:Ge×A4} (h:El K p0=some r):T1 V P 102 [.P 0,.cv (.fn (.func 103) [] [])] [(0,.raw (Be p0))] [0] (.cv (.str r.1)) [(0,.raw [.str r.2.src,.I r.2.at_])] :=
 e2 Tryz.f102 31 100 fun Γ=>El.body h
def Gs (K:Nat) (p0:Int):Option Bool:=(if p0≥97 then (if p0≤122 then some true else (if p0≥65 then (if p0≤90 then some true else some (decide (p0=95))) else some (decide (p0=95)))) else (if p0≥65 then (if p0≤90 then some true else some (decide (p0=95))) else some (decide (p0=95))))
theorem Gs.ok {K:Nat} {p0:Int} {r:Bool} (h:Gs K p0=some r):Tz V P 137 [.cv (.lit (.int .i32 p0))] (.B r):=pc <| e2 Tryz.f137 21 100 fun Γ=>by
 unfold Gs at h;exact Tt L 200 <| Tm <| iS h (fun c1 h=>iS h (fun c2 h=>rg L 202 [(2,true),(6,true)] [] [] (Ur (Gt c1) (Gt c2)) <| To <| sJ h ▸ Tv) fun c2 h=>iS h (fun c3 h=>iS h (fun c4 h=>rg L 202 [(2,true),(6,false),(9,true),(14,true)] [] [] (Tp (Gt c1) (Tp (Lt c2) (Tp (Gt c3) (Tu (Gt c4))))) <| To <| sJ h ▸ Tv) fun c4 h=>rg L 202 [(2,true),(6,false),(9,true),(14,false)] [] [] (Tp (Gt c1) (Tp (Lt c2) (Tp (Gt c3) (Tu (Lt c4))))) <| To <| sJ h ▸ Tv) fun c3 h=>rg L 202 [(2,true),(6,false),(9,false)] [] [] (Tp (Gt c1) (Tp (Lt c2) (Tu (Lt c3)))) <| To <| sJ h ▸ Tv) fun c1 h=>iS h (fun c5 h=>iS h (fun c6 h=>rg L 202 [(2,false),(9,true),(14,true)] [] [] (Tp (Lt c1) (Tp (Gt c5) (Tu (Gt c6)))) <| To <| sJ h ▸ Tv) fun c6 h=>rg L 202 [(2,false),(9,true),(14,false)] [] [] (Tp (Lt c1) (Tp (Gt c5) (Tu (Lt c6)))) <| To <| sJ h ▸ Tv) fun c5 h=>rg L 202 [(2,false),(9,false)] [] [] (Ur (Lt c1) (Lt c5)) <| To <| sJ h ▸ Tv
def Hl (K:Nat) (p0:Int):Option Bool:=(if p0≥48 then some (decide (p0≤57)) else some false)
theorem Hl.ok {K:Nat} {p0:Int} {r:Bool} (h:Hl K p0=some r):Tz V P 139 [.cv (.lit (.int .i32 p0))] (.B r):=pc <| e2 Tryz.f139 9 100 fun Γ=>by
 unfold Hl at h;exact Tt L 200 <| Tm <| iS h (fun c1 h=>rg L 202 [(2,true)] [] [] (Tu (Gt c1)) <| To <| sJ h ▸ Tv) fun c1 h=>rg L 202 [(2,false)] [] [] (Tu (Lt c1)) <| To <| sJ h ▸ Tv
def G2 (K:Nat) (p0:Int):Option Bool:=((Gs K p0).bind fun a1=>(if a1=true then some true else ((Hl K p0).bind fun a2=>some a2)))
theorem G2.ok {K:Nat} {p0:Int} {r:Bool} (h:G2 K p0=some r):Tz V P 170 [.cv (.lit (.int .i32 p0))] (.B r):=pc <| e2 Tryz.f170 9 100 fun Γ=>by
 unfold G2 at h;exact Tt L 200 <| Tm <| bS h fun a1 h1 h=>iS h (fun c1 h=>rg L 202 [(2,true)] [(1,.B a1)] [] (Tp (Gs.ok h1) (Tp trivial (Tu c1))) <| To <| sJ h ▸ Tv) fun c1 h=>bS h fun a2 h2 h=>rg L 202 [(2,false)] [(1,.B a1),(4,.B a2)] [] (Tp (Gs.ok h1) (Tp trivial (Tp (Xs c1) (Tp (Hl.ok h2) (Tu trivial))))) <| To <| sJ h ▸ Tv
def Ej.l7 (K:Nat) (p0:A4):Nat→Int→Option Int
 | 0,_=>none
 | k+1,a=>((Dp K (⟨p0.src,a⟩:A4) 0).bind fun a1=>((G2 K a1).bind fun a2=>(if a2=true then Ej.l7 K p0 k (i64.wrap (a+1)) else some a)))
def Ej (K:Nat) (p0:A4):Option (Ge×A4):=((Ej.l7 K p0 K p0.at_:Option Int).bind fun a=>(if (0:Int)≤p0.at_∧p0.at_≤a∧a≤(p0.src.length:Int) then some ((We p0.src p0.at_ a),(⟨p0.src,a⟩:A4)) else none))
theorem Ej.body {Γ:Ue} {K:Nat} {p0:A4} {r:Ge×A4} (h:Ej K p0=some r):Uc V P 31 100 Γ (Tryz.f102.body.getD .skip) (T2 P V Tryz.f102 (.cv (.str r.1)) [(0,.raw [.str r.2.src,.I r.2.at_])]) ⟨T0 0 [.P 0,.cv (.fn (.func 170) [] [])],[(0,.raw (Be p0))]⟩:=by
 unfold Ej at h;refine Tt L 200 <| Tt L 202 <| Tm <| Ts <| kp (S':=⟨[(0,.P 0),(1,.cv (.fn (.func 170) [] [])),(5,.I p0.at_)],[(0,.raw (Be p0))]⟩) <| bS h fun o1 hp1 h=>Tx (Q':=fun e S=>(e=.exit 0∧∃ b:Int,S=⟨[(0,.P 0),(5,.I p0.at_)],[(0,.raw [.str p0.src,.I b])]⟩∧b=o1)) (T4 (fun k S=>∃ a:Int,S=⟨[(0,.P 0),(1,.cv (.fn (.func 170) [] [])),(5,.I p0.at_)],[(0,.raw [.str p0.src,.I a])]⟩∧Ej.l7 K p0 k a=some o1) ?_ ⟨_,rfl,hp1⟩) ?_
 ·clear h hp1;intro k S hS;obtain ⟨a,rfl,h⟩:=hS;cases k with
  | zero=>cases h
  | succ k =>
  unfold Ej.l7 at h;refine Tm <| Tm <| bS h fun a1 h1 h=>bS h fun a2 h2 h=>rg L 208 [] [(2,.cv (.lit (.int .i32 a1))),(3,.B a2)] [] (Tp (Dp.ok h1) (Tp trivial (Tp (G2.ok h2) (Tu trivial)))) <| iS h (fun c1 h=>tt c1 <| Tq <| Ts <| Vd L 213 [] [] [] (S':=⟨[(0,.P 0),(1,.cv (.fn (.func 170) [] [])),(5,.I p0.at_)],[(0,.raw [.str p0.src,.I (i64.wrap (a+1))])]⟩) <|⟨k,Nat.lt_succ_self k,_,rfl,h⟩) fun c1 h=>fN c1 <| ex (S':=⟨[(0,.P 0),(5,.I p0.at_)],[(0,.raw [.str p0.src,.I a])]⟩) ?_
  cases h;exact ⟨rfl,_,rfl,rfl⟩
 ·rintro e S ⟨rfl,b,rfl,rfl⟩;refine ⟨_,Tn.refl,?_⟩;exact Tm <| gS h fun g1 h=>rd L mixed 222 [] [] [] [] 11 (Tp g1.1 (Tp g1.2.1 (Tu g1.2.2))) <| To <| sJ h ▸ Tv
theorem Ej.okE {K:Nat} {p0:A4} {r:Ge×A4} (h:Ej K p0=some r):T1 V P 102 [.P 0,.cv (.fn (.func 170) [] [])] [(0,.raw (Be p0))] [0] (.cv (.str r.1)) [(0,.raw [.str r.2.src,.I r.2.at_])] :=
 e2 Tryz.f102 31 100 fun Γ=>Ej.body h
def E3.l7 (K:Nat) (p0:List Ge) (p1:Ge):Nat→Int→Option (Ty Int Unit)
 | 0,_=>none
 | k+1,a=>(if a <(p0.length:Int) then (if (0:Int)≤a∧(a:Int) <(p0.length:Int) then (if p1=(p0.getD (Int.toNat a) ([]:Ge)) then some (Ty.done a) else E3.l7 K p0 p1 k (i64.wrap (a+1))) else none) else some (Ty.go ()))
def E3 (K:Nat) (p0:List Ge) (p1:Ge):Option Int:=(Ub (E3.l7 K p0 p1 K 0:Option (Ty Int Unit)) (fun r=>r) (fun _=>some (-1)))
theorem E3.ok {K:Nat} {p0:List Ge} {p1:Ge} {r:Int} (h:E3 K p0 p1=some r):Tz V P 176 [.cv (.ro .Dr p0),.cv (.str p1)] (.I r):=pc <| e2 Tryz.f176 19 100 fun Γ=>by
 unfold E3 at h;refine Tt L 200 <| Tm <| Tt L 202 <| Ts <| kp (S':=⟨[(0,.cv (.ro .Dr p0)),(1,.cv (.str p1)),(7,.I (p0.length:Int)),(8,.I 0)],[]⟩) ?_;obtain ⟨o1,hp1,h⟩:=T7 h;refine Tx (Q':=fun e S=>(e=.exit 0∧S=⟨[],[]⟩∧Ty.go ()=o1)∨(e=.ret∧∃ a,Ty.done a=o1∧T2 P V Tryz.f176 (.I a) [] .ret S)) (T4 (fun k S=>∃ b:Int,S=⟨[(0,.cv (.ro .Dr p0)),(1,.cv (.str p1)),(7,.I (p0.length:Int)),(8,.I b)],[]⟩∧E3.l7 K p0 p1 k b=some o1) ?_ ⟨_,rfl,hp1⟩) ?_
 ·clear h hp1;intro k S hS;obtain ⟨b,rfl,h⟩:=hS;cases k with
  | zero=>cases h
  | succ k =>
  unfold E3.l7 at h;refine Tt L 206 <| Tm <| iS h (fun c1 h=>tT c1 <| Tq <| Tm <| Ts <| Tt L 208 <| Tm <| gS h fun g1 h=>rg L 211 [] [] [] (Ur g1.1 g1.2) <| iS h (fun c2 h=>tT c2 <| Tt L 218 <| To <| sJ h ▸ (ei Tv)) fun c2 h=>fF c2 <| Tq <| Vd L 221 [] [] [] (S':=⟨[(0,.cv (.ro .Dr p0)),(1,.cv (.str p1)),(7,.I (p0.length:Int)),(8,.I (i64.wrap (b+1)))],[]⟩) <|⟨k,Nat.lt_succ_self k,_,rfl,h⟩) fun c1 h=>fF c1 <| ex (S':=⟨[],[]⟩) ?_
  cases h;exact .inl ⟨rfl,rfl,rfl⟩
 ·rintro e S (⟨rfl,rfl,rfl⟩ |⟨rfl,a,rfl,hr⟩)
  ·rcases h with ⟨_,e1,h⟩ |⟨_,e1,h⟩
   ·cases e1
   ·have e2:=Ty.go.inj e1;subst e2;refine ⟨_,Tn.refl,?_⟩;exact Tt L 224 <| To <| sJ h ▸ Tv
  ·rcases h with ⟨_,e1,h⟩ |⟨_,e1,h⟩
   ·have e2:=Ty.done.inj e1;subst e2;subst h;exact ⟨_,Tn.refl,hr⟩
   ·cases e1
def Gn (K:Nat) (p0:List Ge) (p1:Ge):Option Bool:=((E3 K p0 p1).bind fun a1=>some (decide (a1≥0)))
theorem Gn.ok {K:Nat} {p0:List Ge} {p1:Ge} {r:Bool} (h:Gn K p0 p1=some r):Tz V P 150 [.cv (.ro .Dr p0),.cv (.str p1)] (.B r):=pc <| e2 Tryz.f150 9 100 fun Γ=>by
 unfold Gn at h;exact Tt L 200 <| Tm <| bS h fun a1 h1 h=>rg L 202 [] [(2,.I a1)] [] (Uq (E3.ok h1)) <| To <| sJ h ▸ Tv
def Gq (K:Nat) (p0:Ge):Option Bool:=(if ([97,110,100,32,97,119,97,105,116,32,99,97,115,101,32,99,97,116,99,104,32,99,104,101,99,107,32,101,108,115,101,32,102,97,108,115,101,32,102,117,110,99,32,103,111,32,105,102,32,108,101,116,32,110,111,116,32,110,117,108,108,32,111,110,32,111,114,32,113,117,101,114,121,32,114,101,116,117,114,110,32,115,97,103,97,32,115,101,108,101,99,116,32,115,105,103,110,97,108,32,116,104,114,111,119,32,116,114,117,101,32,116,114,121,32,117,110,100,111,32,117,112,100,97,116,101,32,118,97,114,32,119,104,105,108,101]:Ge).length < 4294967281∧(([97,110,100,32,97,119,97,105,116,32,99,97,115,101,32,99,97,116,99,104,32,99,104,101,99,107,32,101,108,115,101,32,102,97,108,115,101,32,102,117,110,99,32,103,111,32,105,102,32,108,101,116,32,110,111,116,32,110,117,108,108,32,111,110,32,111,114,32,113,117,101,114,121,32,114,101,116,117,114,110,32,115,97,103,97,32,115,101,108,101,99,116,32,115,105,103,110,97,108,32,116,104,114,111,119,32,116,114,117,101,32,116,114,121,32,117,110,100,111,32,117,112,100,97,116,101,32,118,97,114,32,119,104,105,108,101]:Ge).all fun b=>decide (b.toNat < 128))=true then ((Gn K (Lib.fields ([97,110,100,32,97,119,97,105,116,32,99,97,115,101,32,99,97,116,99,104,32,99,104,101,99,107,32,101,108,115,101,32,102,97,108,115,101,32,102,117,110,99,32,103,111,32,105,102,32,108,101,116,32,110,111,116,32,110,117,108,108,32,111,110,32,111,114,32,113,117,101,114,121,32,114,101,116,117,114,110,32,115,97,103,97,32,115,101,108,101,99,116,32,115,105,103,110,97,108,32,116,104,114,111,119,32,116,114,117,101,32,116,114,121,32,117,110,100,111,32,117,112,100,97,116,101,32,118,97,114,32,119,104,105,108,101]:Ge)) p0).bind fun a1=>some a1) else none)
theorem Gq.ok {K:Nat} {p0:Ge} {r:Bool} (h:Gq K p0=some r):Tz V P 113 [.cv (.str p0)] (.B r):=pc <| e2 Tryz.f113 8 100 fun Γ=>by
 unfold Gq at h;exact Tt L 200 <| Tm <| gS h fun g1 h=>rg L 202 [] [(0,.cv (.ron .Dr (Lib.fields ([97,110,100,32,97,119,97,105,116,32,99,97,115,101,32,99,97,116,99,104,32,99,104,101,99,107,32,101,108,115,101,32,102,97,108,115,101,32,102,117,110,99,32,103,111,32,105,102,32,108,101,116,32,110,111,116,32,110,117,108,108,32,111,110,32,111,114,32,113,117,101,114,121,32,114,101,116,117,114,110,32,115,97,103,97,32,115,101,108,101,99,116,32,115,105,103,110,97,108,32,116,104,114,111,119,32,116,114,117,101,32,116,114,121,32,117,110,100,111,32,117,112,100,97,116,101,32,118,97,114,32,119,104,105,108,101]:Ge))))] [] (Tu (show Yz V P 149 [.cv (.str ([97,110,100,32,97,119,97,105,116,32,99,97,115,101,32,99,97,116,99,104,32,99,104,101,99,107,32,101,108,115,101,32,102,97,108,115,101,32,102,117,110,99,32,103,111,32,105,102,32,108,101,116,32,110,111,116,32,110,117,108,108,32,111,110,32,111,114,32,113,117,101,114,121,32,114,101,116,117,114,110,32,115,97,103,97,32,115,101,108,101,99,116,32,115,105,103,110,97,108,32,116,104,114,111,119,32,116,114,117,101,32,116,114,121,32,117,110,100,111,32,117,112,100,97,116,101,32,118,97,114,32,119,104,105,108,101]:Ge))] Tag.Dr (Lib.fields ([97,110,100,32,97,119,97,105,116,32,99,97,115,101,32,99,97,116,99,104,32,99,104,101,99,107,32,101,108,115,101,32,102,97,108,115,101,32,102,117,110,99,32,103,111,32,105,102,32,108,101,116,32,110,111,116,32,110,117,108,108,32,111,110,32,111,114,32,113,117,101,114,121,32,114,101,116,117,114,110,32,115,97,103,97,32,115,101,108,101,99,116,32,115,105,103,110,97,108,32,116,104,114,111,119,32,116,114,117,101,32,116,114,121,32,117,110,100,111,32,117,112,100,97,116,101,32,118,97,114,32,119,104,105,108,101]:Ge)) from La.okF ([97,110,100,32,97,119,97,105,116,32,99,97,115,101,32,99,97,116,99,104,32,99,104,101,99,107,32,101,108,115,101,32,102,97,108,115,101,32,102,117,110,99,32,103,111,32,105,102,32,108,101,116,32,110,111,116,32,110,117,108,108,32,111,110,32,111,114,32,113,117,101,114,121,32,114,101,116,117,114,110,32,115,97,103,97,32,115,101,108,101,99,116,32,115,105,103,110,97,108,32,116,104,114,111,119,32,116,114,117,101,32,116,114,121,32,117,110,100,111,32,117,112,100,97,116,101,32,118,97,114,32,119,104,105,108,101]:Ge) g1.1 g1.2)) <| Tm <| bS h fun a1 h1 h=>rg L 205 [] [(2,.B a1)] [] (Uq (Gn.ok h1)) <| To <| sJ h ▸ Tv
def Fy (K:Nat) (p0:A4):Option (Av×Int×A4):=((Ej K p0).bind fun (a,b)=>(if (a.length:Int) > 64 then some ((⟨0,0,[],0⟩:Av),8,b) else ((Gq K a).bind fun a2=>(if a2=true then some ((⟨2,0,a,0⟩:Av),0,b) else some ((⟨1,0,a,0⟩:Av),0,b)))))
theorem Fy.body {Γ:Ue} {K:Nat} {p0:A4} {r:Av×Int×A4} (h:Fy K p0=some r):Uc V P 17 100 Γ (Tryz.f138.body.getD .skip) (T2 P V Tryz.f138 (.tup [.agg [.I r.1.Kind,.I r.1.At,.str r.1.Text,.I r.1.Int],.I r.2.1]) [(0,.raw [.str r.2.2.src,.I r.2.2.at_])]) ⟨T0 0 [.P 0],[(0,.raw (Be p0))]⟩:=by
 unfold Fy at h;refine Tt L 200 <| Tm ?_;obtain ⟨⟨a,b⟩,h1,h⟩:=bind_some h;exact rg L 203 [] [] [(1,(T3 (.cv (.str a)) [(0,.raw (Be b))]))] (Tu (Ej.okE h1)) <| Tm <| Tt L 207 <| iS h (fun c1 h=>tT c1 <| Tt L 211 <| Tr (Tn.trans (Tn.kk [2,3] [0,200]) (Tn.rr [(0,0),(200,100)])) <| To <| sJ h ▸ Tv) fun c1 h=>fF c1 <| Tq <| Tm <| Tm <| bS h fun a2 h2 h=>rg L 215 [] [(1,.B a2)] [] (Uq (Gq.ok h2)) <| iS h (fun c2 h=>tt c2 <| Tt L 218 <| Tr (Tn.trans (Tn.kk [2,3] [0,200]) (Tn.rr [(0,0),(200,100)])) <| To <| sJ h ▸ Tv) fun c2 h=>fN c2 <| Tq <| Tt L 223 <| Tr (Tn.trans (Tn.kk [2,3] [0,200]) (Tn.rr [(0,0),(200,100)])) <| To <| sJ h ▸ Tv
theorem Fy.okE {K:Nat} {p0:A4} {r:Av×Int×A4} (h:Fy K p0=some r):T1 V P 138 [.P 0] [(0,.raw (Be p0))] [0] (.tup [.agg [.I r.1.Kind,.I r.1.At,.str r.1.Text,.I r.1.Int],.I r.2.1]) [(0,.raw [.str r.2.2.src,.I r.2.2.at_])] :=
 e2 Tryz.f138 17 100 fun Γ=>Fy.body h
def Ek.l7 (K:Nat) (p0:A4):Nat→Int→Option Int
 | 0,_=>none
 | k+1,a=>((Dp K (⟨p0.src,a⟩:A4) 0).bind fun a1=>((Hl K a1).bind fun a2=>(if a2=true then Ek.l7 K p0 k (i64.wrap (a+1)) else some a)))
def Ek (K:Nat) (p0:A4):Option (Ge×A4):=((Ek.l7 K p0 K p0.at_:Option Int).bind fun a=>(if (0:Int)≤p0.at_∧p0.at_≤a∧a≤(p0.src.length:Int) then some ((We p0.src p0.at_ a),(⟨p0.src,a⟩:A4)) else none))
theorem Ek.body {Γ:Ue} {K:Nat} {p0:A4} {r:Ge×A4} (h:Ek K p0=some r):Uc V P 31 100 Γ (Tryz.f102.body.getD .skip) (T2 P V Tryz.f102 (.cv (.str r.1)) [(0,.raw [.str r.2.src,.I r.2.at_])]) ⟨T0 0 [.P 0,.cv (.fn (.func 139) [] [])],[(0,.raw (Be p0))]⟩:=by
 unfold Ek at h;refine Tt L 200 <| Tt L 202 <| Tm <| Ts <| kp (S':=⟨[(0,.P 0),(1,.cv (.fn (.func 139) [] [])),(5,.I p0.at_)],[(0,.raw (Be p0))]⟩) <| bS h fun o1 hp1 h=>Tx (Q':=fun e S=>(e=.exit 0∧∃ b:Int,S=⟨[(0,.P 0),(5,.I p0.at_)],[(0,.raw [.str p0.src,.I b])]⟩∧b=o1)) (T4 (fun k S=>∃ a:Int,S=⟨[(0,.P 0),(1,.cv (.fn (.func 139) [] [])),(5,.I p0.at_)],[(0,.raw [.str p0.src,.I a])]⟩∧Ek.l7 K p0 k a=some o1) ?_ ⟨_,rfl,hp1⟩) ?_
 ·clear h hp1;intro k S hS;obtain ⟨a,rfl,h⟩:=hS;cases k with
  | zero=>cases h
  | succ k =>
  unfold Ek.l7 at h;refine Tm <| Tm <| bS h fun a1 h1 h=>bS h fun a2 h2 h=>rg L 208 [] [(2,.cv (.lit (.int .i32 a1))),(3,.B a2)] [] (Tp (Dp.ok h1) (Tp trivial (Tp (Hl.ok h2) (Tu trivial)))) <| iS h (fun c1 h=>tt c1 <| Tq <| Ts <| Vd L 213 [] [] [] (S':=⟨[(0,.P 0),(1,.cv (.fn (.func 139) [] [])),(5,.I p0.at_)],[(0,.raw [.str p0.src,.I (i64.wrap (a+1))])]⟩) <|⟨k,Nat.lt_succ_self k,_,rfl,h⟩) fun c1 h=>fN c1 <| ex (S':=⟨[(0,.P 0),(5,.I p0.at_)],[(0,.raw [.str p0.src,.I a])]⟩) ?_
  cases h;exact ⟨rfl,_,rfl,rfl⟩
 ·rintro e S ⟨rfl,b,rfl,rfl⟩;refine ⟨_,Tn.refl,?_⟩;exact Tm <| gS h fun g1 h=>rd L mixed 222 [] [] [] [] 11 (Tp g1.1 (Tp g1.2.1 (Tu g1.2.2))) <| To <| sJ h ▸ Tv
theorem Ek.okE {K:Nat} {p0:A4} {r:Ge×A4} (h:Ek K p0=some r):T1 V P 102 [.P 0,.cv (.fn (.func 139) [] [])] [(0,.raw (Be p0))] [0] (.cv (.str r.1)) [(0,.raw [.str r.2.src,.I r.2.at_])] :=
 e2 Tryz.f102 31 100 fun Γ=>Ek.body h
def Ft (K:Nat) (p0:A4):Option (Av×Int×A4):=((Ek K p0).bind fun (b,a)=>(Ub (((if (b.length:Int) > 1 then (if (0:Int) <(b.length:Int) then (if ((b.getD (Int.toNat 0) 0).toNat:Int)=48 then some (Ty.done ((⟨0,0,[],0⟩:Av),3,a)) else ((Dp K a 0).bind fun a2=>((Gs K a2).bind fun a3=>(if a3=true then some (Ty.done ((⟨0,0,[],0⟩:Av),3,a)) else some (Ty.go ()))))) else none) else ((Dp K a 0).bind fun a4=>((Gs K a4).bind fun a5=>(if a5=true then some (Ty.done ((⟨0,0,[],0⟩:Av),3,a)) else some (Ty.go ())))))):Option (Ty (Av×Int×A4) Unit)) (fun r=>r) (fun _=>(if b.length≤281474976710656 then (if (Pv b)=true then some ((⟨3,0,[],(Lg b)⟩:Av),0,a) else some ((⟨0,0,[],0⟩:Av),14,a)) else none))))
theorem Ft.body {Γ:Ue} {K:Nat} {p0:A4} {r:Av×Int×A4} (h:Ft K p0=some r):Uc V P 33 100 Γ (Tryz.f140.body.getD .skip) (T2 P V Tryz.f140 (.tup [.agg [.I r.1.Kind,.I r.1.At,.str r.1.Text,.I r.1.Int],.I r.2.1]) [(0,.raw [.str r.2.2.src,.I r.2.2.at_])]) ⟨T0 0 [.P 0],[(0,.raw (Be p0))]⟩:=by
 unfold Ft at h;refine Tt L 200 <| Tm ?_;obtain ⟨⟨c,d⟩,h1,h⟩:=bind_some h;refine rg L 203 [] [] [(1,(T3 (.cv (.str c)) [(0,.raw (Be d))]))] (Tu (Ek.okE h1)) ?_;obtain ⟨o1,hp1,h⟩:=T7 h;refine Tm (T8 (Q':=fun e S=>(e=.normal∧S=⟨[(2,.P 21000),(4,.cv (.str c))],[(0,.raw (Be d)),(21000,.raw [.I 0,.I 0,.str [],.I 0])]⟩∧Ty.go ()=o1)∨(e=.ret∧∃ a,Ty.done a=o1∧T2 P V Tryz.f140 (.tup [.agg [.I a.1.Kind,.I a.1.At,.str a.1.Text,.I a.1.Int],.I a.2.1]) [(0,.raw [.str a.2.2.src,.I a.2.2.at_])] .ret S)) ?_ ?_)
 ·clear h;replace h:=hp1;refine Tm <| iS h (fun c1 h=>?_) fun c1 h=>?_
  ·refine gS h fun g1 h=>iS h (fun c2 h=>rg L 207 [(3,true),(8,true)] [] [] (Tp (Gt c1) (Tp (show (0:Int)≤0 from by decide) (Tp g1 (Tu (Gt c2))))) <| tt (b:=true) rfl <| Tt L 221 <| Tr (Tn.trans (Tn.kk [2,3] [0,200]) (Tn.rr [(0,0),(200,100)])) <| To <| sJ h ▸ (ei Tv)) fun c2 h=>bS h fun a2 h2 h=>bS h fun a3 h3 h=>rg L 207 [(3,true),(8,false)] [(10,.cv (.lit (.int .i32 a2))),(11,.B a3)] [] (Tp (Gt c1) (Tp (show (0:Int)≤0 from by decide) (Tp g1 (Tp (Lt c2) (Tp (Dp.ok h2) (Tp trivial (Tp (Gs.ok h3) (Tu trivial)))))))) <| iS h (fun c3 h=>tt c3 <| Tt L 221 <| Tr (Tn.trans (Tn.kk [2,3] [0,200]) (Tn.rr [(0,0),(200,100)])) <| To <| sJ h ▸ (ei Tv)) fun c3 h=>fN c3 <| Tr (Tn.trans (Tn.kk [2,4] [0,200]) (Tn.rr [(0,0),(200,21000)])) <| sk (S':=⟨[(2,.P 21000),(4,.cv (.str c))],[(0,.raw (Be d)),(21000,.raw [.I 0,.I 0,.str [],.I 0])]⟩) ?_
   cases h;exact .inl ⟨rfl,rfl,rfl⟩
  refine bS h fun a4 h4 h=>bS h fun a5 h5 h=>rg L 207 [(3,false)] [(10,.cv (.lit (.int .i32 a4))),(11,.B a5)] [] (Tp (Lt c1) (Tp (Dp.ok h4) (Tp trivial (Tp (Gs.ok h5) (Tu trivial))))) <| iS h (fun c4 h=>tt c4 <| Tt L 221 <| Tr (Tn.trans (Tn.kk [2,3] [0,200]) (Tn.rr [(0,0),(200,100)])) <| To <| sJ h ▸ (ei Tv)) fun c4 h=>fN c4 <| Tr (Tn.trans (Tn.kk [2,4] [0,200]) (Tn.rr [(0,0),(200,21000)])) <| sk (S':=⟨[(2,.P 21000),(4,.cv (.str c))],[(0,.raw (Be d)),(21000,.raw [.I 0,.I 0,.str [],.I 0])]⟩) ?_
  cases h;exact .inl ⟨rfl,rfl,rfl⟩
 ·rintro e S (⟨rfl,rfl,rfl⟩ |⟨rfl,a,rfl,hr⟩)
  ·rcases h with ⟨_,e1,h⟩ |⟨_,e1,h⟩
   ·cases e1
   ·have e2:=Ty.go.inj e1;subst e2;exact Tm <| gS h fun g2 h=>iS h (fun c5 h=>rg L 225 [] [(1,.tup [.I (Lg c),.cv (.lit .nilIface)])] [] (Uq (show Tz V P 171 [.cv (.str c),.I 10,.I 64] (.tup [.I (Lg c),.cv (.lit .nilIface)]) from Ie.ok c g2 (c5))) <| Tm <| Tt L 233 <| ff (b:=false) (rfl) <| Tq <| Tt L 240 <| Tr (Tn.trans (Tn.kk [2,3] [0,21000]) (Tn.rr [(0,0),(21000,100)])) <| To <| sJ h ▸ Tv) fun c5 h=>rg L 225 [] [(1,.tup [.cv (.any),.cv (.ifc 156 false [.any])])] [] (Uq (show Tz V P 171 [.cv (.str c),.I 10,.I 64] (.tup [.cv (.any),.cv (.ifc 156 false [.any])]) from Ie.no c g2 (Xs c5))) <| Tm <| Tt L 233 <| tt (b:=true) rfl <| Tt L 236 <| Tr (Tn.trans (Tn.kk [2,3] [0,21000]) (Tn.rr [(0,0),(21000,100)])) <| To <| sJ h ▸ Tv
  ·rcases h with ⟨_,e1,h⟩ |⟨_,e1,h⟩
   ·have e2:=Ty.done.inj e1;subst e2;subst h;exact hr
   ·cases e1
theorem Ft.okE {K:Nat} {p0:A4} {r:Av×Int×A4} (h:Ft K p0=some r):T1 V P 140 [.P 0] [(0,.raw (Be p0))] [0] (.tup [.agg [.I r.1.Kind,.I r.1.At,.str r.1.Text,.I r.1.Int],.I r.2.1]) [(0,.raw [.str r.2.2.src,.I r.2.2.at_])] :=
 e2 Tryz.f140 33 100 fun Γ=>Ft.body h
def Fl (K:Nat) (p0:A4):Option (Int×Int×A4):=((Dp K p0 0).bind fun a1=>(if a1 < 0 then some (0,4,p0) else (if (Lib.indexByte ([48,49,50,51,52,53,54,55,56,57,97,98,99,100,101,102]:Ge) (Int.toNat (u8.wrap a1)).toUInt8) < 0 then some (0,3,(⟨p0.src,(i64.wrap (p0.at_+1))⟩:A4)) else some ((Lib.indexByte ([48,49,50,51,52,53,54,55,56,57,97,98,99,100,101,102]:Ge) (Int.toNat (u8.wrap a1)).toUInt8),0,(⟨p0.src,(i64.wrap (p0.at_+1))⟩:A4)))))
theorem Fl.body {Γ:Ue} {K:Nat} {p0:A4} {r:Int×Int×A4} (h:Fl K p0=some r):Uc V P 23 100 Γ (Tryz.f191.body.getD .skip) (T2 P V Tryz.f191 (.tup [.I r.1,.I r.2.1]) [(0,.raw [.str r.2.2.src,.I r.2.2.at_])]) ⟨T0 0 [.P 0],[(0,.raw (Be p0))]⟩:=by
 unfold Fl at h;exact Tt L 200 <| Tm <| bS h fun a1 h1 h=>rg L 203 [] [(1,.cv (.lit (.int .i32 a1)))] [] (Uq (Dp.ok h1)) <| Tm <| Tt L 207 <| iS h (fun c1 h=>tT c1 <| Tt L 210 <| To <| sJ h ▸ Tv) fun c1 h=>fF c1 <| Tq <| Tt L 213 <| sg L 222 [] [(2,.I (Lib.indexByte ([48,49,50,51,52,53,54,55,56,57,97,98,99,100,101,102]:Ge) (Int.toNat (u8.wrap a1)).toUInt8))] [] (Uq (show Tz V P 205 [.cv (.str ([48,49,50,51,52,53,54,55,56,57,97,98,99,100,101,102]:Ge)),.cv (.lit (.int .u8 (u8.wrap a1)))] (.I (Lib.indexByte ([48,49,50,51,52,53,54,55,56,57,97,98,99,100,101,102]:Ge) (Int.toNat (u8.wrap a1)).toUInt8)) from strings_IndexByte.ok ([48,49,50,51,52,53,54,55,56,57,97,98,99,100,101,102]:Ge) (u8.wrap a1))) <| Tm <| Tt L 227 <| iS h (fun c2 h=>tT c2 <| Tt L 230 <| To <| sJ h ▸ Tv) fun c2 h=>fF c2 <| Tq <| Tt L 233 <| To <| sJ h ▸ Tv
theorem Fl.okE {K:Nat} {p0:A4} {r:Int×Int×A4} (h:Fl K p0=some r):T1 V P 191 [.P 0] [(0,.raw (Be p0))] [0] (.tup [.I r.1,.I r.2.1]) [(0,.raw [.str r.2.2.src,.I r.2.2.at_])] :=
 e2 Tryz.f191 23 100 fun Γ=>Fl.body h
def Fu (K:Nat) (p0:A4):Option (Int×Int×A4):=((Dp K p0 0).bind fun a1=>(if a1=(-1) then some (0,4,(⟨p0.src,(i64.wrap (p0.at_+1))⟩:A4)) else (((if a1=34 then some (decide (a1=34)) else some (decide (a1=92))):Option Bool).bind fun a=>(if a=true then some ((u8.wrap a1),0,(⟨p0.src,(i64.wrap (p0.at_+1))⟩:A4)) else (if a1=110 then some (10,0,(⟨p0.src,(i64.wrap (p0.at_+1))⟩:A4)) else (if a1=116 then some (9,0,(⟨p0.src,(i64.wrap (p0.at_+1))⟩:A4)) else (if a1=120 then ((Fl K (⟨p0.src,(i64.wrap (p0.at_+1))⟩:A4)).bind fun (d,b,c)=>(if b≠0 then some (0,b,c) else ((Fl K c).bind fun (e,f,g)=>some (((u8.wrap (i64.wrap ((i64.wrap (16 * d))+e))),f,g))))) else some (0,3,(⟨p0.src,(i64.wrap (p0.at_+1))⟩:A4)))))))))
theorem Fu.body {Γ:Ue} {K:Nat} {p0:A4} {r:Int×Int×A4} (h:Fu K p0=some r):Uc V P 50 100 Γ (Tryz.f172.body.getD .skip) (T2 P V Tryz.f172 (.tup [.cv (.lit (.int .u8 r.1)),.I r.2.1]) [(0,.raw [.str r.2.2.src,.I r.2.2.at_])]) ⟨T0 0 [.P 0],[(0,.raw (Be p0))]⟩:=by
 unfold Fu at h;refine Tt L 200 <| Tm <| bS h fun a1 h1 h=>rg L 203 [] [(1,.cv (.lit (.int .i32 a1)))] [] (Uq (Dp.ok h1)) <| Tt L 207 <| Tm <| Tt L 216 <| Ts <| Tt L 218 <| iS h (fun c1 h=>tT c1 <| Tt L 221 <| To <| sJ h ▸ Tv) fun c1 h=>fF c1 <| bS h fun o1 hp1 h=>Tm (T8 (Q':=fun e S=>(e=.normal∧∃ a:Bool,S=⟨[(0,.P 0),(4,.cv (.lit (.int .i32 a1))),(17,.cv (.lit (.int .i32 a1))),(20,.B a)],[(0,.raw [.str p0.src,.I (i64.wrap (p0.at_+1))])]⟩∧a=o1)) ?_ ?_)
 ·clear h;replace h:=hp1;refine Tt L 224 <| iS h (fun c2 h=>?_) fun c2 h=>?_
  ·refine tT c2 <| sk (S':=⟨[(0,.P 0),(4,.cv (.lit (.int .i32 a1))),(17,.cv (.lit (.int .i32 a1))),(20,.B (decide (a1=34)))],[(0,.raw [.str p0.src,.I (i64.wrap (p0.at_+1))])]⟩) ?_;cases h;exact ⟨rfl,_,rfl,rfl⟩
  refine fF c2 <| Vd L 227 [] [] [] (S':=⟨[(0,.P 0),(4,.cv (.lit (.int .i32 a1))),(17,.cv (.lit (.int .i32 a1))),(20,.B (decide (a1=92)))],[(0,.raw [.str p0.src,.I (i64.wrap (p0.at_+1))])]⟩) ?_;cases h;exact ⟨rfl,_,rfl,rfl⟩
 ·rintro e S ⟨rfl,a,rfl,rfl⟩;refine iS h (fun c3 h=>tt c3 <| Tt L 230 <| To <| sJ h ▸ Tv) fun c3 h=>fN c3 <| Tt L 235 <| iS h (fun c4 h=>tT c4 <| Tt L 238 <| To <| sJ h ▸ Tv) fun c4 h=>fF c4 <| Tt L 241 <| iS h (fun c5 h=>tT c5 <| Tt L 244 <| To <| sJ h ▸ Tv) fun c5 h=>fF c5 <| Tt L 247 <| iS h (fun c6 h=>?_) fun c6 h=>?_
  ·refine tT c6 <| Tm ?_;obtain ⟨⟨b,c,d⟩,h2,h⟩:=bind_some h;refine rg L 250 [] [] [(1,(T3 (.tup [.I b,.I c]) [(0,.raw (Be d))]))] (Tu (Fl.okE h2)) <| Tm <| Tt L 258 <| iS h (fun c7 h=>tT c7 <| Tt L 261 <| To <| sJ h ▸ Tv) fun c7 h=>fF c7 <| Tq <| Tm ?_
   obtain ⟨⟨f,g,i⟩,h3,h⟩:=bind_some h;exact rg L 265 [] [] [(1,(T3 (.tup [.I f,.I g]) [(0,.raw (Be i))]))] (Tu (Fl.okE h3)) <| Tt L 273 <| To <| sJ h ▸ Tv
  exact fF c6 <| Tq <| Tt L 282 <| To <| sJ h ▸ Tv
theorem Fu.okE {K:Nat} {p0:A4} {r:Int×Int×A4} (h:Fu K p0=some r):T1 V P 172 [.P 0] [(0,.raw (Be p0))] [0] (.tup [.cv (.lit (.int .u8 r.1)),.I r.2.1]) [(0,.raw [.str r.2.2.src,.I r.2.2.at_])] :=
 e2 Tryz.f172 50 100 fun Γ=>Fu.body h
def Eh.l8 (K:Nat):Nat→Ge→Int→Ge→Option (Ty (Av×Int×A4) Unit)
 | 0,_,_,_=>none
 | k+1,a,c,d=>((Dp K (⟨a,c⟩:A4) 0).bind fun a1=>(if a1 < 0 then some (Ty.done ((⟨0,0,[],0⟩:Av),4,(⟨a,(i64.wrap (c+1))⟩:A4))) else (if a1=34 then (if (d.length:Int) > 4096 then some (Ty.done ((⟨0,0,[],0⟩:Av),6,(⟨a,(i64.wrap (c+1))⟩:A4))) else some (Ty.done ((⟨4,0,(d.map (fun b=>b)),0⟩:Av),0,(⟨a,(i64.wrap (c+1))⟩:A4)))) else (if a1=92 then ((Fu K (⟨a,(i64.wrap (c+1))⟩:A4)).bind fun (e,h,f)=>(if h≠0 then some (Ty.done ((⟨0,0,[],0⟩:Av),h,f)) else (if 0≤e∧e < 256 then (if (d.length+([(UInt8.ofNat (Int.toNat e))]:Ge).length) * 1≤140737488355328 then Eh.l8 K k f.src f.at_ (d++([(UInt8.ofNat (Int.toNat e))]:Ge)) else none) else none))) else (((if a1≥32 then some (decide (a1≤126)) else some false):Option Bool).bind fun g=>(if g=true then (if 0≤(u8.wrap a1)∧(u8.wrap a1) < 256 then (if (d.length+([(UInt8.ofNat (Int.toNat (u8.wrap a1)))]:Ge).length) * 1≤140737488355328 then Eh.l8 K k a (i64.wrap (c+1)) (d++([(UInt8.ofNat (Int.toNat (u8.wrap a1)))]:Ge)) else none) else none) else some (Ty.done ((⟨0,0,[],0⟩:Av),3,(⟨a,(i64.wrap (c+1))⟩:A4)))))))))
def Eh (K:Nat) (p0:A4):Option (Av×Int×A4):=(Ub (Eh.l8 K K p0.src (i64.wrap (p0.at_+1)) ([]:Ge):Option (Ty (Av×Int×A4) Unit)) (fun r=>r) (fun _=>none))
theorem Eh.body {Γ:Ue} {K:Nat} {p0:A4} {r:Av×Int×A4} (h:Eh K p0=some r):Uc V P 67 100 Γ (Tryz.f141.body.getD .skip) (T2 P V Tryz.f141 (.tup [.agg [.I r.1.Kind,.I r.1.At,.str r.1.Text,.I r.1.Int],.I r.2.1]) [(0,.raw [.str r.2.2.src,.I r.2.2.at_])]) ⟨T0 0 [.P 0],[(0,.raw (Be p0))]⟩:=by
 unfold Eh at h;refine Tt L 200 <| Tt L 203 <| Tt L 212 <| Ts <| Tr (Tn.trans (Tn.kk [0,2,4] [0,200]) (Tn.trans (Tn.no 4 9500 Tag.Cf) (Tn.trans (Tn.kk [0,2,4] [0,200,9500]) (Tn.rr [(0,0),(200,21700),(9500,21701)])))) <| kp (S':=⟨[(0,.P 0),(2,.P 21700),(4,.cv (.own .Cf 21701))],[(0,.raw [.str p0.src,.I (i64.wrap (p0.at_+1))]),(21700,.raw [.I 0,.I 0,.str [],.I 0]),(21701,.lst .Cf ([]:Ge))]⟩) ?_;obtain ⟨o2,hp2,h⟩:=T7 h;refine Tx (Q':=fun e S=>False∨(e=.ret∧∃ a,Ty.done a=o2∧T2 P V Tryz.f141 (.tup [.agg [.I a.1.Kind,.I a.1.At,.str a.1.Text,.I a.1.Int],.I a.2.1]) [(0,.raw [.str a.2.2.src,.I a.2.2.at_])] .ret S)) (T4 (fun k S=>∃ b:Ge,∃ c:Int,∃ d:Ge,S=⟨[(0,.P 0),(2,.P 21700),(4,.cv (.own .Cf 21701))],[(0,.raw [.str b,.I c]),(21700,.raw [.I 0,.I 0,.str [],.I 0]),(21701,.lst .Cf d)]⟩∧Eh.l8 K k b c d=some o2) ?_ ⟨_,_,_,rfl,hp2⟩) ?_
 ·clear h hp2;intro k S hS;obtain ⟨b,c,d,rfl,h⟩:=hS;cases k with
  | zero=>cases h
  | succ k =>
  unfold Eh.l8 at h;refine Ts <| Tm <| bS h fun a1 h1 h=>rg L 214 [] [(1,.cv (.lit (.int .i32 a1)))] [] (Uq (Dp.ok h1)) <| Tt L 218 <| Ts <| Tt L 227 <| iS h (fun c1 h=>tT c1 <| Tt L 231 <| Tr (Tn.trans (Tn.kk [2,3] [0,21700]) (Tn.rr [(0,0),(21700,100)])) <| To <| sJ h ▸ (ei Tv)) fun c1 h=>fF c1 <| Tt L 235 <| iS h (fun c2 h=>tT c2 <| Tm <| Tt L 239 <| iS h (fun c3 h=>tT c3 <| Tt L 243 <| Tr (Tn.trans (Tn.kk [2,3] [0,21700]) (Tn.rr [(0,0),(21700,100)])) <| To <| sJ h ▸ (ei Tv)) fun c3 h=>fF c3 <| Tq <| Tt L 247 <| Tr (Tn.trans (Tn.kk [2,3] [0,21700]) (Tn.rr [(0,0),(21700,100)])) <| To <| sJ h ▸ (ei Tv)) fun c2 h=>fF c2 <| Tt L 253 <| iS h (fun c4 h=>?_) fun c4 h=>?_
  ·refine tT c4 <| Tm ?_;obtain ⟨⟨g,j,i⟩,h2,h⟩:=bind_some h;exact rg L 257 [] [] [(1,(T3 (.tup [.cv (.lit (.int .u8 g)),.I j]) [(0,.raw (Be i))]))] (Tu (Fu.okE h2)) <| Tm <| Tt L 265 <| iS h (fun c5 h=>tT c5 <| Tt L 268 <| Tr (Tn.trans (Tn.kk [2,3] [0,21700]) (Tn.rr [(0,0),(21700,100)])) <| To <| sJ h ▸ (ei Tv)) fun c5 h=>fF c5 <| Tq <| gS h fun g1 h=>gS h fun g2 h=>ar L 273 [] [] [] (cs:=[0≤g,g < 256,(d.length+([(UInt8.ofNat (Int.toNat g))]:Ge).length) * 1≤140737488355328,True]) (S':=⟨[(0,.P 0),(2,.P 21700),(4,.cv (.own .Cf 21701))],[(0,.raw (Be i)),(21700,.raw [.I 0,.I 0,.str [],.I 0]),(21701,.lst .Cf (d++([(UInt8.ofNat (Int.toNat g))]:Ge)))]⟩) (And.intro g1.1 (And.intro g1.2 (And.intro g2 trivial))) <|⟨k,Nat.lt_succ_self k,_,_,_,rfl,h⟩
  refine fF c4 <| bS h fun o1 hp1 h=>Tm (T8 (Q':=fun e S=>(e=.normal∧∃ f:Bool,S=⟨[(0,.P 0),(2,.P 29800),(4,.cv (.own .Cf 29801)),(5,.cv (.lit (.int .i32 a1))),(55,.B f)],[(0,.raw [.str b,.I (i64.wrap (c+1))]),(29800,.raw [.I 0,.I 0,.str [],.I 0]),(29801,.lst .Cf d)]⟩∧f=o1)) ?_ ?_)
  ·clear h;replace h:=hp1;refine iS h (fun c6 h=>?_) fun c6 h=>?_
   ·refine Tw (rg L 279 [(2,true)] [] [] (Tu (Gt c6)) ⟨rfl,rfl⟩) (Tn.trans (Tn.kk [0,2,4,5,55] [0,21700,21701]) (Tn.trans (Tn.rr [(0,0),(21700,29800),(21701,29801)]) (Tn.kp (S':=⟨[(0,.P 0),(2,.P 29800),(4,.cv (.own .Cf 29801)),(5,.cv (.lit (.int .i32 a1))),(55,.B (decide (a1≤126)))],[(0,.raw [.str b,.I (i64.wrap (c+1))]),(29800,.raw [.I 0,.I 0,.str [],.I 0]),(29801,.lst .Cf d)]⟩)))) ?_;cases h;exact ⟨rfl,_,rfl,rfl⟩
   refine Tw (rg L 279 [(2,false)] [] [] (Tu (Lt c6)) ⟨rfl,rfl⟩) (Tn.trans (Tn.kk [0,2,4,5,55] [0,21700,21701]) (Tn.trans (Tn.rr [(0,0),(21700,29800),(21701,29801)]) (Tn.kp (S':=⟨[(0,.P 0),(2,.P 29800),(4,.cv (.own .Cf 29801)),(5,.cv (.lit (.int .i32 a1))),(55,.B false)],[(0,.raw [.str b,.I (i64.wrap (c+1))]),(29800,.raw [.I 0,.I 0,.str [],.I 0]),(29801,.lst .Cf d)]⟩)))) ?_;cases h;exact ⟨rfl,_,rfl,rfl⟩
  ·rintro e S ⟨rfl,f,rfl,rfl⟩;exact iS h (fun c7 h=>tt c7 <| gS h fun g3 h=>gS h fun g4 h=>Tw (rg L 287 [] [] [] (Tp g3.1 (Tp g3.2 (Tp g4 (Tu trivial)))) ⟨rfl,rfl⟩) (Tn.trans (Tn.kk [0,2,4] [0,29800,29801]) (Tn.trans (Tn.rr [(0,0),(29800,21700),(29801,21701)]) (Tn.kp (S':=⟨[(0,.P 0),(2,.P 21700),(4,.cv (.own .Cf 21701))],[(0,.raw [.str b,.I (i64.wrap (c+1))]),(21700,.raw [.I 0,.I 0,.str [],.I 0]),(21701,.lst .Cf (d++([(UInt8.ofNat (Int.toNat (u8.wrap a1)))]:Ge)))]⟩)))) <|⟨k,Nat.lt_succ_self k,_,_,_,rfl,h⟩) fun c7 h=>fN c7 <| Tt L 294 <| Tr (Tn.trans (Tn.kk [2,3] [0,29800]) (Tn.rr [(0,0),(29800,100)])) <| To <| sJ h ▸ (ei Tv)
 ·rintro e S (hf |⟨rfl,a,rfl,hr⟩)
  ·exact hf.elim
  ·rcases h with ⟨_,e1,h⟩ |⟨_,e1,h⟩
   ·have e2:=Ty.done.inj e1;subst e2;subst h;exact ⟨_,Tn.refl,hr⟩
   ·cases e1
theorem Eh.okE {K:Nat} {p0:A4} {r:Av×Int×A4} (h:Eh K p0=some r):T1 V P 141 [.P 0] [(0,.raw (Be p0))] [0] (.tup [.agg [.I r.1.Kind,.I r.1.At,.str r.1.Text,.I r.1.Int],.I r.2.1]) [(0,.raw [.str r.2.2.src,.I r.2.2.at_])] :=
 e2 Tryz.f141 67 100 fun Γ=>Eh.body h
def F1 (K:Nat) (p0:A4):Option (Av×Int×A4):=(((((Dp K p0 0).bind fun a1=>(((if a1=61 then some (decide (a1=61)) else (if a1=60 then some (decide (a1=60)) else (if a1=62 then some (decide (a1=62)) else some (decide (a1=33))))):Option Bool).bind fun b=>(if b=true then ((Dp K p0 1).bind fun a2=>(if a2=61 then some 2 else (if a1≠33 then some 1 else some 0))) else (if a1=40 then some 1 else (if a1=41 then some 1 else (if a1=123 then some 1 else (if a1=125 then some 1 else (if a1=91 then some 1 else (if a1=93 then some 1 else (if a1=44 then some 1 else (if a1=59 then some 1 else (if a1=46 then some 1 else (if a1=58 then some 1 else (if a1=43 then some 1 else (if a1=45 then some 1 else (if a1=42 then some 1 else (if a1=47 then some 1 else (if a1=37 then some 1 else some 0))))))))))))))))))):Option Int).bind fun a=>(if a=0 then some ((⟨0,0,[],0⟩:Av),3,p0) else (if (0:Int)≤p0.at_∧p0.at_≤(i64.wrap (p0.at_+a))∧(i64.wrap (p0.at_+a))≤(p0.src.length:Int) then some ((⟨5,0,(We p0.src p0.at_ (i64.wrap (p0.at_+a))),0⟩:Av),0,(⟨p0.src,(i64.wrap (p0.at_+a))⟩:A4)) else none)))
theorem F1.body {Γ:Ue} {K:Nat} {p0:A4} {r:Av×Int×A4} (h:F1 K p0=some r):Uc V P 64 100 Γ (Tryz.f142.body.getD .skip) (T2 P V Tryz.f142 (.tup [.agg [.I r.1.Kind,.I r.1.At,.str r.1.Text,.I r.1.Int],.I r.2.1]) [(0,.raw [.str r.2.2.src,.I r.2.2.at_])]) ⟨T0 0 [.P 0],[(0,.raw (Be p0))]⟩:=by
 unfold F1 at h;refine Tt L 200 <| Tt L 203 <| bS h fun o2 hp2 h=>Tm (T8 (Q':=fun e S=>(e=.normal∧∃ b:Int,S=⟨[(0,.P 0),(2,.P 21000),(4,.I b)],[(0,.raw (Be p0)),(21000,.raw [.I 0,.I 0,.str [],.I 0])]⟩∧b=o2)) ?_ ?_)
 ·clear h;replace h:=hp2;refine Tm <| bS h fun a1 h1 h=>rg L 205 [] [(1,.cv (.lit (.int .i32 a1)))] [] (Uq (Dp.ok h1)) <| Tt L 209 <| Ts <| bS h fun o1 hp1 h=>Tm (T8 (Q':=fun e S=>(e=.normal∧∃ a:Bool,S=⟨[(0,.P 0),(2,.P 22200),(4,.I 0),(5,.cv (.lit (.int .i32 a1))),(9,.cv (.lit (.int .i32 a1))),(10,.B a)],[(0,.raw (Be p0)),(22200,.raw [.I 0,.I 0,.str [],.I 0])]⟩∧a=o1)) ?_ ?_)
  ·clear h;replace h:=hp1;refine Tt L 211 <| iS h (fun c1 h=>?_) fun c1 h=>?_
   ·refine tT c1 <| Tr (Tn.trans (Tn.kk [0,2,4,5,9,10] [0,200]) (Tn.rr [(0,0),(200,22200)])) <| sk (S':=⟨[(0,.P 0),(2,.P 22200),(4,.I 0),(5,.cv (.lit (.int .i32 a1))),(9,.cv (.lit (.int .i32 a1))),(10,.B (decide (a1=61)))],[(0,.raw (Be p0)),(22200,.raw [.I 0,.I 0,.str [],.I 0])]⟩) ?_;cases h;exact ⟨rfl,_,rfl,rfl⟩
   refine fF c1 <| Tt L 214 <| iS h (fun c2 h=>?_) fun c2 h=>?_
   ·refine tT c2 <| Tr (Tn.trans (Tn.kk [0,2,4,5,9,10] [0,200]) (Tn.rr [(0,0),(200,22200)])) <| sk (S':=⟨[(0,.P 0),(2,.P 22200),(4,.I 0),(5,.cv (.lit (.int .i32 a1))),(9,.cv (.lit (.int .i32 a1))),(10,.B (decide (a1=60)))],[(0,.raw (Be p0)),(22200,.raw [.I 0,.I 0,.str [],.I 0])]⟩) ?_;cases h;exact ⟨rfl,_,rfl,rfl⟩
   refine fF c2 <| Tt L 217 <| iS h (fun c3 h=>?_) fun c3 h=>?_
   ·refine tT c3 <| Tr (Tn.trans (Tn.kk [0,2,4,5,9,10] [0,200]) (Tn.rr [(0,0),(200,22200)])) <| sk (S':=⟨[(0,.P 0),(2,.P 22200),(4,.I 0),(5,.cv (.lit (.int .i32 a1))),(9,.cv (.lit (.int .i32 a1))),(10,.B (decide (a1=62)))],[(0,.raw (Be p0)),(22200,.raw [.I 0,.I 0,.str [],.I 0])]⟩) ?_;cases h;exact ⟨rfl,_,rfl,rfl⟩
   refine fF c3 <| Tw (Wh L 220 ⟨rfl,rfl⟩) (Tn.trans (Tn.kk [0,2,4,5,9,10] [0,200]) (Tn.trans (Tn.rr [(0,0),(200,22200)]) (Tn.kp (S':=⟨[(0,.P 0),(2,.P 22200),(4,.I 0),(5,.cv (.lit (.int .i32 a1))),(9,.cv (.lit (.int .i32 a1))),(10,.B (decide (a1=33)))],[(0,.raw (Be p0)),(22200,.raw [.I 0,.I 0,.str [],.I 0])]⟩)))) ?_;cases h;exact ⟨rfl,_,rfl,rfl⟩
  ·rintro e S ⟨rfl,a,rfl,rfl⟩;refine iS h (fun c4 h=>?_) fun c4 h=>?_
   ·refine tt c4 <| Tm <| bS h fun a2 h2 h=>rg L 223 [] [(1,.cv (.lit (.int .i32 a2)))] [] (Uq (Dp.ok h2)) <| iS h (fun c5 h=>?_) fun c5 h=>?_
    ·refine tT c5 <| Tw (Wh L 227 ⟨rfl,rfl⟩) (Tn.trans (Tn.kk [0,2,4] [0,22200]) (Tn.trans (Tn.rr [(0,0),(22200,21000)]) (Tn.kp (S':=⟨[(0,.P 0),(2,.P 21000),(4,.I 2)],[(0,.raw (Be p0)),(21000,.raw [.I 0,.I 0,.str [],.I 0])]⟩)))) ?_;cases h;exact ⟨rfl,_,rfl,rfl⟩
    refine fF c5 <| Tt L 229 <| iS h (fun c6 h=>?_) fun c6 h=>?_
    ·refine tT c6 <| Tw (Wh L 232 ⟨rfl,rfl⟩) (Tn.trans (Tn.kk [0,2,4] [0,22200]) (Tn.trans (Tn.rr [(0,0),(22200,21000)]) (Tn.kp (S':=⟨[(0,.P 0),(2,.P 21000),(4,.I 1)],[(0,.raw (Be p0)),(21000,.raw [.I 0,.I 0,.str [],.I 0])]⟩)))) ?_;cases h;exact ⟨rfl,_,rfl,rfl⟩
    refine fF c6 <| Tr (Tn.trans (Tn.kk [0,2,4] [0,22200]) (Tn.rr [(0,0),(22200,21000)])) <| sk (S':=⟨[(0,.P 0),(2,.P 21000),(4,.I 0)],[(0,.raw (Be p0)),(21000,.raw [.I 0,.I 0,.str [],.I 0])]⟩) ?_;cases h;exact ⟨rfl,_,rfl,rfl⟩
   refine fN c4 <| Tm <| Tt L 234 <| iS h (fun c7 h=>?_) fun c7 h=>?_
   ·refine tT c7 <| Tq <| tT c7 <| Tw (Wh L 279 ⟨rfl,rfl⟩) (Tn.trans (Tn.kk [0,2,4] [0,22200]) (Tn.trans (Tn.rr [(0,0),(22200,21000)]) (Tn.kp (S':=⟨[(0,.P 0),(2,.P 21000),(4,.I 1)],[(0,.raw (Be p0)),(21000,.raw [.I 0,.I 0,.str [],.I 0])]⟩)))) ?_;cases h;exact ⟨rfl,_,rfl,rfl⟩
   refine fF c7 <| Tt L 237 <| iS h (fun c8 h=>?_) fun c8 h=>?_
   ·refine tT c8 <| Tq <| tT c8 <| Tw (Wh L 279 ⟨rfl,rfl⟩) (Tn.trans (Tn.kk [0,2,4] [0,22200]) (Tn.trans (Tn.rr [(0,0),(22200,21000)]) (Tn.kp (S':=⟨[(0,.P 0),(2,.P 21000),(4,.I 1)],[(0,.raw (Be p0)),(21000,.raw [.I 0,.I 0,.str [],.I 0])]⟩)))) ?_;cases h;exact ⟨rfl,_,rfl,rfl⟩
   refine fF c8 <| Tt L 240 <| iS h (fun c9 h=>?_) fun c9 h=>?_
   ·refine tT c9 <| Tq <| tT c9 <| Tw (Wh L 279 ⟨rfl,rfl⟩) (Tn.trans (Tn.kk [0,2,4] [0,22200]) (Tn.trans (Tn.rr [(0,0),(22200,21000)]) (Tn.kp (S':=⟨[(0,.P 0),(2,.P 21000),(4,.I 1)],[(0,.raw (Be p0)),(21000,.raw [.I 0,.I 0,.str [],.I 0])]⟩)))) ?_;cases h;exact ⟨rfl,_,rfl,rfl⟩
   refine fF c9 <| Tt L 243 <| iS h (fun c10 h=>?_) fun c10 h=>?_
   ·refine tT c10 <| Tq <| tT c10 <| Tw (Wh L 279 ⟨rfl,rfl⟩) (Tn.trans (Tn.kk [0,2,4] [0,22200]) (Tn.trans (Tn.rr [(0,0),(22200,21000)]) (Tn.kp (S':=⟨[(0,.P 0),(2,.P 21000),(4,.I 1)],[(0,.raw (Be p0)),(21000,.raw [.I 0,.I 0,.str [],.I 0])]⟩)))) ?_;cases h;exact ⟨rfl,_,rfl,rfl⟩
   refine fF c10 <| Tt L 246 <| iS h (fun c11 h=>?_) fun c11 h=>?_
   ·refine tT c11 <| Tq <| tT c11 <| Tw (Wh L 279 ⟨rfl,rfl⟩) (Tn.trans (Tn.kk [0,2,4] [0,22200]) (Tn.trans (Tn.rr [(0,0),(22200,21000)]) (Tn.kp (S':=⟨[(0,.P 0),(2,.P 21000),(4,.I 1)],[(0,.raw (Be p0)),(21000,.raw [.I 0,.I 0,.str [],.I 0])]⟩)))) ?_;cases h;exact ⟨rfl,_,rfl,rfl⟩
   refine fF c11 <| Tt L 249 <| iS h (fun c12 h=>?_) fun c12 h=>?_
   ·refine tT c12 <| Tq <| tT c12 <| Tw (Wh L 279 ⟨rfl,rfl⟩) (Tn.trans (Tn.kk [0,2,4] [0,22200]) (Tn.trans (Tn.rr [(0,0),(22200,21000)]) (Tn.kp (S':=⟨[(0,.P 0),(2,.P 21000),(4,.I 1)],[(0,.raw (Be p0)),(21000,.raw [.I 0,.I 0,.str [],.I 0])]⟩)))) ?_;cases h;exact ⟨rfl,_,rfl,rfl⟩
   refine fF c12 <| Tt L 252 <| iS h (fun c13 h=>?_) fun c13 h=>?_
   ·refine tT c13 <| Tq <| tT c13 <| Tw (Wh L 279 ⟨rfl,rfl⟩) (Tn.trans (Tn.kk [0,2,4] [0,22200]) (Tn.trans (Tn.rr [(0,0),(22200,21000)]) (Tn.kp (S':=⟨[(0,.P 0),(2,.P 21000),(4,.I 1)],[(0,.raw (Be p0)),(21000,.raw [.I 0,.I 0,.str [],.I 0])]⟩)))) ?_;cases h;exact ⟨rfl,_,rfl,rfl⟩
   refine fF c13 <| Tt L 255 <| iS h (fun c14 h=>?_) fun c14 h=>?_
   ·refine tT c14 <| Tq <| tT c14 <| Tw (Wh L 279 ⟨rfl,rfl⟩) (Tn.trans (Tn.kk [0,2,4] [0,22200]) (Tn.trans (Tn.rr [(0,0),(22200,21000)]) (Tn.kp (S':=⟨[(0,.P 0),(2,.P 21000),(4,.I 1)],[(0,.raw (Be p0)),(21000,.raw [.I 0,.I 0,.str [],.I 0])]⟩)))) ?_;cases h;exact ⟨rfl,_,rfl,rfl⟩
   refine fF c14 <| Tt L 258 <| iS h (fun c15 h=>?_) fun c15 h=>?_
   ·refine tT c15 <| Tq <| tT c15 <| Tw (Wh L 279 ⟨rfl,rfl⟩) (Tn.trans (Tn.kk [0,2,4] [0,22200]) (Tn.trans (Tn.rr [(0,0),(22200,21000)]) (Tn.kp (S':=⟨[(0,.P 0),(2,.P 21000),(4,.I 1)],[(0,.raw (Be p0)),(21000,.raw [.I 0,.I 0,.str [],.I 0])]⟩)))) ?_;cases h;exact ⟨rfl,_,rfl,rfl⟩
   refine fF c15 <| Tt L 261 <| iS h (fun c16 h=>?_) fun c16 h=>?_
   ·refine tT c16 <| Tq <| tT c16 <| Tw (Wh L 279 ⟨rfl,rfl⟩) (Tn.trans (Tn.kk [0,2,4] [0,22200]) (Tn.trans (Tn.rr [(0,0),(22200,21000)]) (Tn.kp (S':=⟨[(0,.P 0),(2,.P 21000),(4,.I 1)],[(0,.raw (Be p0)),(21000,.raw [.I 0,.I 0,.str [],.I 0])]⟩)))) ?_;cases h;exact ⟨rfl,_,rfl,rfl⟩
   refine fF c16 <| Tt L 264 <| iS h (fun c17 h=>?_) fun c17 h=>?_
   ·refine tT c17 <| Tq <| tT c17 <| Tw (Wh L 279 ⟨rfl,rfl⟩) (Tn.trans (Tn.kk [0,2,4] [0,22200]) (Tn.trans (Tn.rr [(0,0),(22200,21000)]) (Tn.kp (S':=⟨[(0,.P 0),(2,.P 21000),(4,.I 1)],[(0,.raw (Be p0)),(21000,.raw [.I 0,.I 0,.str [],.I 0])]⟩)))) ?_;cases h;exact ⟨rfl,_,rfl,rfl⟩
   refine fF c17 <| Tt L 267 <| iS h (fun c18 h=>?_) fun c18 h=>?_
   ·refine tT c18 <| Tq <| tT c18 <| Tw (Wh L 279 ⟨rfl,rfl⟩) (Tn.trans (Tn.kk [0,2,4] [0,22200]) (Tn.trans (Tn.rr [(0,0),(22200,21000)]) (Tn.kp (S':=⟨[(0,.P 0),(2,.P 21000),(4,.I 1)],[(0,.raw (Be p0)),(21000,.raw [.I 0,.I 0,.str [],.I 0])]⟩)))) ?_;cases h;exact ⟨rfl,_,rfl,rfl⟩
   refine fF c18 <| Tt L 270 <| iS h (fun c19 h=>?_) fun c19 h=>?_
   ·refine tT c19 <| Tq <| tT c19 <| Tw (Wh L 279 ⟨rfl,rfl⟩) (Tn.trans (Tn.kk [0,2,4] [0,22200]) (Tn.trans (Tn.rr [(0,0),(22200,21000)]) (Tn.kp (S':=⟨[(0,.P 0),(2,.P 21000),(4,.I 1)],[(0,.raw (Be p0)),(21000,.raw [.I 0,.I 0,.str [],.I 0])]⟩)))) ?_;cases h;exact ⟨rfl,_,rfl,rfl⟩
   refine fF c19 <| Tt L 273 <| iS h (fun c20 h=>?_) fun c20 h=>?_
   ·refine tT c20 <| Tq <| tT c20 <| Tw (Wh L 279 ⟨rfl,rfl⟩) (Tn.trans (Tn.kk [0,2,4] [0,22200]) (Tn.trans (Tn.rr [(0,0),(22200,21000)]) (Tn.kp (S':=⟨[(0,.P 0),(2,.P 21000),(4,.I 1)],[(0,.raw (Be p0)),(21000,.raw [.I 0,.I 0,.str [],.I 0])]⟩)))) ?_;cases h;exact ⟨rfl,_,rfl,rfl⟩
   refine fF c20 <| Wh L 276 <| iS h (fun c21 h=>?_) fun c21 h=>?_
   ·refine tT c21 <| Tw (Wh L 279 ⟨rfl,rfl⟩) (Tn.trans (Tn.kk [0,2,4] [0,22200]) (Tn.trans (Tn.rr [(0,0),(22200,21000)]) (Tn.kp (S':=⟨[(0,.P 0),(2,.P 21000),(4,.I 1)],[(0,.raw (Be p0)),(21000,.raw [.I 0,.I 0,.str [],.I 0])]⟩)))) ?_;cases h;exact ⟨rfl,_,rfl,rfl⟩
   refine fF c21 <| Tr (Tn.trans (Tn.kk [0,2,4] [0,22200]) (Tn.rr [(0,0),(22200,21000)])) <| sk (S':=⟨[(0,.P 0),(2,.P 21000),(4,.I 0)],[(0,.raw (Be p0)),(21000,.raw [.I 0,.I 0,.str [],.I 0])]⟩) ?_;cases h;exact ⟨rfl,_,rfl,rfl⟩
 ·rintro e S ⟨rfl,b,rfl,rfl⟩;exact Tm <| Tt L 281 <| iS h (fun c22 h=>tT c22 <| Tt L 284 <| Tr (Tn.trans (Tn.kk [2,3] [0,21000]) (Tn.rr [(0,0),(21000,100)])) <| To <| sJ h ▸ Tv) fun c22 h=>fF c22 <| Tq <| Tm <| gS h fun g1 h=>rd L mixed 288 [] [] [] [] 16 (Tp g1.1 (Tp g1.2.1 (Tu g1.2.2))) <| Tt L 305 <| Tt L 315 <| Tr (Tn.trans (Tn.kk [2,3] [0,21000]) (Tn.rr [(0,0),(21000,100)])) <| To <| sJ h ▸ Tv
theorem F1.okE {K:Nat} {p0:A4} {r:Av×Int×A4} (h:F1 K p0=some r):T1 V P 142 [.P 0] [(0,.raw (Be p0))] [0] (.tup [.agg [.I r.1.Kind,.I r.1.At,.str r.1.Text,.I r.1.Int],.I r.2.1]) [(0,.raw [.str r.2.2.src,.I r.2.2.at_])] :=
 e2 Tryz.f142 64 100 fun Γ=>F1.body h
def F0 (K:Nat) (p0:A4):Option (Av×Int×A4):=((Dp K p0 0).bind fun a1=>((Gs K a1).bind fun a2=>(if a2=true then ((Fy K p0).bind fun (a,b,c)=>some (a,b,c)) else ((Hl K a1).bind fun a4=>(if a4=true then ((Ft K p0).bind fun (d,e,f)=>some (d,e,f)) else (if a1=34 then ((Eh K p0).bind fun (g,h,i)=>some (g,h,i)) else ((F1 K p0).bind fun (j,k,l)=>some (j,k,l))))))))
theorem F0.body {Γ:Ue} {K:Nat} {p0:A4} {r:Av×Int×A4} (h:F0 K p0=some r):Uc V P 32 100 Γ (Tryz.f104.body.getD .skip) (T2 P V Tryz.f104 (.tup [.agg [.I r.1.Kind,.I r.1.At,.str r.1.Text,.I r.1.Int],.I r.2.1]) [(0,.raw [.str r.2.2.src,.I r.2.2.at_])]) ⟨T0 0 [.P 0],[(0,.raw (Be p0))]⟩:=by
 unfold F0 at h;refine Tt L 200 <| Tm <| Tm <| bS h fun a1 h1 h=>rg L 203 [] [(1,.cv (.lit (.int .i32 a1)))] [] (Uq (Dp.ok h1)) <| Ts <| Tm <| bS h fun a2 h2 h=>rg L 207 [] [(1,.B a2)] [] (Uq (Gs.ok h2)) <| iS h (fun c1 h=>?_) fun c1 h=>?_
 ·refine tt c1 <| Tm ?_;obtain ⟨⟨a,b,c⟩,h3,h⟩:=bind_some h;exact rg L 211 [] [] [(1,(T3 (.tup [.agg (E6 a),.I b]) [(0,.raw (Be c))]))] (Tu (Fy.okE h3)) <| Tr (Tn.trans (Tn.kk [2,3] [0,200]) (Tn.rr [(0,0),(200,100)])) <| To <| sJ h ▸ Tv
 refine fN c1 <| Tm <| bS h fun a4 h4 h=>rg L 218 [] [(1,.B a4)] [] (Uq (Hl.ok h4)) <| iS h (fun c2 h=>?_) fun c2 h=>?_
 ·refine tt c2 <| Tm ?_;obtain ⟨⟨d,e,f⟩,h5,h⟩:=bind_some h;exact rg L 222 [] [] [(1,(T3 (.tup [.agg (E6 d),.I e]) [(0,.raw (Be f))]))] (Tu (Ft.okE h5)) <| Tr (Tn.trans (Tn.kk [2,3] [0,200]) (Tn.rr [(0,0),(200,100)])) <| To <| sJ h ▸ Tv
 refine fN c2 <| Tt L 229 <| iS h (fun c3 h=>?_) fun c3 h=>?_
 ·refine tT c3 <| Tm ?_;obtain ⟨⟨g,i,j⟩,h6,h⟩:=bind_some h;exact rg L 233 [] [] [(1,(T3 (.tup [.agg (E6 g),.I i]) [(0,.raw (Be j))]))] (Tu (Eh.okE h6)) <| Tr (Tn.trans (Tn.kk [2,3] [0,200]) (Tn.rr [(0,0),(200,100)])) <| To <| sJ h ▸ Tv
 refine fF c3 <| Tq <| Tm ?_;obtain ⟨⟨k,l,m⟩,h7,h⟩:=bind_some h;exact rg L 240 [] [] [(1,(T3 (.tup [.agg (E6 k),.I l]) [(0,.raw (Be m))]))] (Tu (F1.okE h7)) <| Tr (Tn.trans (Tn.kk [2,3] [0,200]) (Tn.rr [(0,0),(200,100)])) <| To <| sJ h ▸ Tv
theorem F0.okE {K:Nat} {p0:A4} {r:Av×Int×A4} (h:F0 K p0=some r):T1 V P 104 [.P 0] [(0,.raw (Be p0))] [0] (.tup [.agg [.I r.1.Kind,.I r.1.At,.str r.1.Text,.I r.1.Int],.I r.2.1]) [(0,.raw [.str r.2.2.src,.I r.2.2.at_])] :=
 e2 Tryz.f104 32 100 fun Γ=>F0.body h
def Gy.l16 (K:Nat) (p0:Ge):Nat→Ge→Int→(List Av)→Option (Ty ((List Av)×Int×Int) Unit)
 | 0,_,_,_=>none
 | k+1,d,e,a=>((El K (⟨d,e⟩:A4)).bind fun (h,b)=>(if b.at_≥(p0.length:Int) then (if (a.length+([(⟨0,b.at_,[],0⟩:Av)]:List Av).length) * 40≤140737488355328 then some (Ty.done ((a++([(⟨0,b.at_,[],0⟩:Av)]:List Av)),0,0)) else none) else ((F0 K b).bind fun (c,f,g)=>(if f≠0 then some (Ty.done (([]:List Av),b.at_,f)) else (if (a.length+([(⟨c.Kind,b.at_,c.Text,c.Int⟩:Av)]:List Av).length) * 40≤140737488355328 then Gy.l16 K p0 k g.src g.at_ (a++([(⟨c.Kind,b.at_,c.Text,c.Int⟩:Av)]:List Av)) else none)))))
def Gy (K:Nat) (p0:Ge):Option ((List Av)×Int×Int):=(if (p0.length:Int) > 16384 then some (([]:List Av),0,6) else (Ub (Gy.l16 K p0 K p0 0 ([]:List Av):Option (Ty ((List Av)×Int×Int) Unit)) (fun r=>r) (fun _=>none)))
theorem Gy.ok {K:Nat} {p0:Ge} {r:(List Av)×Int×Int} (h:Gy K p0=some r):Tz V P 57 [.cv (.str p0)] (.tup [.cv (.ro .Ap r.1),.I r.2.1,.I r.2.2]):=pc <| e2 Tryz.f57 46 100 fun Γ=>by
 unfold Gy at h;refine Tt L 200 <| Tm <| Tt L 204 <| iS h (fun c1 h=>tT c1 <| Tt L 208 <| To <| sJ h ▸ Tv) fun c1 h=>fF c1 <| Tq <| Tt L 212 <| Tt L 217 <| Ts <| Tr (Tn.trans (Tn.kk [0,5,6] [214]) (Tn.trans (Tn.no 6 9500 Tag.Ap) (Tn.trans (Tn.kk [0,5,6] [214,9500]) (Tn.rr [(214,23300),(9500,23301)])))) <| kp (S':=⟨[(0,.cv (.str p0)),(5,.P 23300),(6,.cv (.own .Ap 23301))],[(23300,.raw [.str p0,.I 0]),(23301,.lst .Ap ([]:List Av))]⟩) ?_
 obtain ⟨o1,hp1,h⟩:=T7 h;refine Tx (Q':=fun e S=>False∨(e=.ret∧∃ a,Ty.done a=o1∧T2 P V Tryz.f57 (.tup [.cv (.ro .Ap a.1),.I a.2.1,.I a.2.2]) [] .ret S)) (T4 (fun k S=>∃ c:Ge,∃ d:Int,∃ b:List Av,S=⟨[(0,.cv (.str p0)),(5,.P 23300),(6,.cv (.own .Ap 23301))],[(23300,.raw [.str c,.I d]),(23301,.lst .Ap b)]⟩∧Gy.l16 K p0 k c d b=some o1) ?_ ⟨_,_,_,rfl,hp1⟩) ?_
 ·clear h hp1;intro k S hS;obtain ⟨c,d,b,rfl,h⟩:=hS;cases k with
  | zero=>cases h
  | succ k =>
  unfold Gy.l16 at h;refine Ts <| Tm ?_;obtain ⟨⟨j,g⟩,h1,h⟩:=bind_some h;refine rg L 219 [] [] [(1,(ef [0] [0] (.cv (.str j)) [(0,.raw (Be g))] [(0,23300)]))] (Tu (El.okE h1)) <| Tt L 222 <| Tm <| Tt L 228 <| iS h (fun c2 h=>tT c2 <| Tm <| gS h fun g1 h=>rg L 233 [] [] [] (Uq g1) <| Tr (Tn.trans (Tn.kk [2,3,4] [23301]) (Tn.fz 23301)) <| To <| sJ h ▸ (ei Tv)) fun c2 h=>fF c2 <| Tq <| Tm ?_
  obtain ⟨⟨f,l,i⟩,h2,h⟩:=bind_some h;exact rg L 242 [] [] [(1,(ef [0] [0] (.tup [.agg (E6 f),.I l]) [(0,.raw (Be i))] [(0,23300)]))] (Tu (F0.okE h2)) <| Tm <| Tt L 251 <| iS h (fun c3 h=>tT c3 <| Tt L 254 <| To <| sJ h ▸ (ei Tv)) fun c3 h=>fF c3 <| Tq <| Tt L 260 <| gS h fun g2 h=>ar L 264 [] [] [] (cs:=[(b.length+([(⟨f.Kind,g.at_,f.Text,f.Int⟩:Av)]:List Av).length) * 40≤140737488355328,True]) (S':=⟨[(0,.cv (.str p0)),(5,.P 23300),(6,.cv (.own .Ap 23301))],[(23300,.raw (Be i)),(23301,.lst .Ap (b++([(⟨f.Kind,g.at_,f.Text,f.Int⟩:Av)]:List Av)))]⟩) (And.intro g2 trivial) <|⟨k,Nat.lt_succ_self k,_,_,_,rfl,h⟩
 ·rintro e S (hf |⟨rfl,a,rfl,hr⟩)
  ·exact hf.elim
  ·rcases h with ⟨_,e1,h⟩ |⟨_,e1,h⟩
   ·have e2:=Ty.done.inj e1;subst e2;subst h;exact ⟨_,Tn.refl,hr⟩
   ·cases e1
def Cj (K:Nat) (p0:Ab):Option Av:=(if (0:Int)≤(if (i64.wrap ((p0.l.length:Int) - 1)) < p0.i then (i64.wrap ((p0.l.length:Int) - 1)) else p0.i)∧((if (i64.wrap ((p0.l.length:Int) - 1)) < p0.i then (i64.wrap ((p0.l.length:Int) - 1)) else p0.i):Int) <(p0.l.length:Int) then some ((p0.l.getD (Int.toNat (if (i64.wrap ((p0.l.length:Int) - 1)) < p0.i then (i64.wrap ((p0.l.length:Int) - 1)) else p0.i)) Et)) else none)
theorem Cj.ok {K:Nat} {p0:Ab} {r:Av} (h:Cj K p0=some r):Tz V P 59 [.cv (.pcs (Ae p0) 0)] (.agg [.I r.Kind,.I r.At,.str r.Text,.I r.Int]):=pc <| e2 Tryz.f59 20 100 fun Γ=>by
 unfold Cj at h;exact Tt L 200 <| Tm <| gS h fun g1 h=>rd L mixed 202 [] [] [] [200] 18 (Ur g1.1 g1.2) <| Tr (Tn.trans (Tn.kk [2] [200]) (Tn.rr [(200,100)])) <| To <| sJ h ▸ Tv
def Fo (K:Nat) (p0:Ab) (p1:Ge):Option Bool:=((Cj K p0).bind fun a1=>(if a1.Kind=2 then some (decide (a1.Text=p1)) else (if a1.Kind=5 then some (decide (a1.Text=p1)) else some false)))
theorem Fo.ok {K:Nat} {p0:Ab} {p1:Ge} {r:Bool} (h:Fo K p0 p1=some r):Tz V P 105 [.cv (.pcs (Ae p0) 0),.cv (.str p1)] (.B r):=pc <| e2 Tryz.f105 22 100 fun Γ=>by
 unfold Fo at h;exact Tt L 200 <| Tm <| bS h fun a1 h1 h=>rg L 202 [] [(1,.agg (E6 a1))] [] (Uq (Cj.ok h1)) <| Tm <| iS h (fun c1 h=>rg L 207 [(3,true)] [] [] (Tu (Gt c1)) <| To <| sJ h ▸ Tv) fun c1 h=>iS h (fun c2 h=>rg L 207 [(3,false),(8,true)] [] [] (Ur (Lt c1) (Gt c2)) <| To <| sJ h ▸ Tv) fun c2 h=>rg L 207 [(3,false),(8,false)] [] [] (Ur (Lt c1) (Lt c2)) <| To <| sJ h ▸ Tv
def Ao (K:Nat) (p0:Ge) (p1:Ab):Option (Bool×Ab):=((Fo K p1 p0).bind fun a1=>(if a1=true then some (true,(⟨p1.l,(i64.wrap (p1.i+1))⟩:Ab)) else some (false,p1)))
theorem Ao.body {Γ:Ue} {K:Nat} {p0:Ge} {p1:Ab} {r:Bool×Ab} (h:Ao K p0 p1=some r):Uc V P 16 100 Γ (Tryz.f63.body.getD .skip) (T2 P V Tryz.f63 (.B r.1) [(0,.raw [.ro .Ap r.2.l,.I r.2.i])]) ⟨T0 0 [.P 0,.cv (.str p0)],[(0,.raw (Ae p1))]⟩:=by
 unfold Ao at h;exact Tt L 200 <| Tm <| Tm <| bS h fun a1 h1 h=>rg L 202 [] [(2,.B a1)] [] (Uq (Fo.ok h1)) <| iS h (fun c1 h=>ff (b:=(!a1)) (congrArg Bool.not (c1)) <| Tq <| Tt L 209 <| Tt L 218 <| To <| sJ h ▸ Tv) fun c1 h=>tt (b:=(!a1)) (congrArg Bool.not (Xs c1)) <| Tt L 207 <| To <| sJ h ▸ Tv
theorem Ao.okE {K:Nat} {p0:Ge} {p1:Ab} {r:Bool×Ab} (h:Ao K p0 p1=some r):T1 V P 63 [.P 0,.cv (.str p0)] [(0,.raw (Ae p1))] [0] (.B r.1) [(0,.raw [.ro .Ap r.2.l,.I r.2.i])] :=
 e2 Tryz.f63 16 100 fun Γ=>Ao.body h
def Br (K:Nat) (p0:Ab):Option Int:=((Cj K p0).bind fun a1=>some a1.At)
def Br.rep (p0:Ab):Int→Uz T
 | v0=>.pan (Uh 59 v0)
def Br.post (p0:Ab):Int→List (Nat×T9 T)
 | v0=>[]
theorem Br.body {Γ:Ue} {K:Nat} {p0:Ab} {r:Int} (h:Br K p0=some r):Uc V P 7 100 Γ (Tryz.f60.body.getD .skip) (Ui P V Tryz.f60 (Br.rep p0 r) (Br.post p0 r)) ⟨T0 0 [.P 0],[(0,.raw (Ae p0))]⟩:=by
 unfold Br at h;refine bS h fun a1 h1 h=>qn L 200 [] [(1,.agg (E6 a1))] [] 5 (ef [] [] (.tup []) [] []) (Uh 59 a1.At) (Tp (Cj.ok h1) (Tp trivial (Tu (show (Uh 59 a1.At)=(Uh 59 a1.At) from rfl)))) ?_
 cases h;exact rfl
theorem Br.okE {K:Nat} {p0:Ab} {r:Int} (h:Br K p0=some r):Ug V P 60 [.P 0] [(0,.raw (Ae p0))] [0] (Br.post p0 r) (Br.rep p0 r) :=
 xo (fn:=Tryz.f60) (n:=7) (m:=100) fun Γ=>Br.body h
def Ei (K:Nat) (p0:Ab):Option (Av×Ab):=((Cj K p0).bind fun a1=>some (a1,(⟨p0.l,(i64.wrap (p0.i+1))⟩:Ab)))
theorem Ei.body {Γ:Ue} {K:Nat} {p0:Ab} {r:Av×Ab} (h:Ei K p0=some r):Uc V P 14 100 Γ (Tryz.f106.body.getD .skip) (T2 P V Tryz.f106 (.agg [.I r.1.Kind,.I r.1.At,.str r.1.Text,.I r.1.Int]) [(0,.raw [.ro .Ap r.2.l,.I r.2.i])]) ⟨T0 0 [.P 0],[(0,.raw (Ae p0))]⟩:=by
 unfold Ei at h;exact Tt L 200 <| Tm <| bS h fun a1 h1 h=>rg L 202 [] [(1,.agg (E6 a1))] [] (Uq (Cj.ok h1)) <| Tt L 207 <| Tt L 216 <| Tr (Tn.trans (Tn.kk [2] [0,200]) (Tn.rr [(0,0),(200,100)])) <| To <| sJ h ▸ Tv
theorem Ei.okE {K:Nat} {p0:Ab} {r:Av×Ab} (h:Ei K p0=some r):T1 V P 106 [.P 0] [(0,.raw (Ae p0))] [0] (.agg [.I r.1.Kind,.I r.1.At,.str r.1.Text,.I r.1.Int]) [(0,.raw [.ro .Ap r.2.l,.I r.2.i])] :=
 e2 Tryz.f106 14 100 fun Γ=>Ei.body h
def Aw (K:Nat) (p0:Ab):Option (Int ⊕ (Ge×Ab)):=((Cj K p0).bind fun a1=>(if a1.Kind≠1 then ((Br K p0).bind fun a2=>some (Sum.inl a2)) else ((Ei K p0).bind fun (a,b)=>some (Sum.inr (a.Text,b)))))
def Aw.rep (p0:Ab):Int ⊕ (Ge×Ab)→Uz T
 |(Sum.inl v0)=>.pan (Uh 59 v0)
 |(Sum.inr (v0,v1))=>.ret (.cv (.str v0))
def Aw.post (p0:Ab):Int ⊕ (Ge×Ab)→List (Nat×T9 T)
 |(Sum.inl v0)=>[]
 |(Sum.inr (v0,v1))=>[(0,.raw [.ro .Ap v1.l,.I v1.i])]
theorem Aw.body {Γ:Ue} {K:Nat} {p0:Ab} {r:Int ⊕ (Ge×Ab)} (h:Aw K p0=some r):Uc V P 12 100 Γ (Tryz.f64.body.getD .skip) (Ui P V Tryz.f64 (Aw.rep p0 r) (Aw.post p0 r)) ⟨T0 0 [.P 0],[(0,.raw (Ae p0))]⟩:=by
 unfold Aw at h;refine Tt L 200 <| Tm <| Tm <| bS h fun a1 h1 h=>rg L 202 [] [(1,.agg (E6 a1))] [] (Uq (Cj.ok h1)) <| iS h (fun c1 h=>?_) fun c1 h=>?_
 ·refine tT c1 <| bS h fun a2 h2 h=>qn L 207 [] [] [] 1 (T3 (.tup []) []) (Uh 59 a2) (Tu (Br.okE h2)) ?_
  cases h;exact rfl
 refine fF c1 <| Tq <| Tm ?_;obtain ⟨⟨a,b⟩,h3,h⟩:=bind_some h;refine rg L 210 [] [] [(1,(T3 (.agg (E6 a)) [(0,.raw (Ae b))]))] (Tu (Ei.okE h3)) <| To ?_;cases h;exact Vr
theorem Aw.okE {K:Nat} {p0:Ab} {r:Int ⊕ (Ge×Ab)} (h:Aw K p0=some r):Ug V P 64 [.P 0] [(0,.raw (Ae p0))] [0] (Aw.post p0 r) (Aw.rep p0 r) :=
 xo (fn:=Tryz.f64) (n:=12) (m:=100) fun Γ=>Aw.body h
def Aq (K:Nat) (p0:Ge) (p1:Ab):Option (Ab ⊕ Int):=((Ao K p0 p1).bind fun (b,a)=>(if b=true then some (Sum.inl a) else ((Br K a).bind fun a2=>some (Sum.inr a2))))
def Aq.rep (p0:Ge) (p1:Ab):Ab ⊕ Int→Uz T
 |(Sum.inl v0)=>.ret (.tup [])
 |(Sum.inr v0)=>.pan (Uh 59 v0)
def Aq.post (p0:Ge) (p1:Ab):Ab ⊕ Int→List (Nat×T9 T)
 |(Sum.inl v0)=>[(0,.raw [.ro .Ap v0.l,.I v0.i])]
 |(Sum.inr v0)=>[]
theorem Aq.body {Γ:Ue} {K:Nat} {p0:Ge} {p1:Ab} {r:Ab ⊕ Int} (h:Aq K p0 p1=some r):Uc V P 10 100 Γ (Tryz.f65.body.getD .skip) (Ui P V Tryz.f65 (Aq.rep p0 p1 r) (Aq.post p0 p1 r)) ⟨T0 0 [.P 0,.cv (.str p0)],[(0,.raw (Ae p1))]⟩:=by
 unfold Aq at h;refine Tm ?_;obtain ⟨⟨a,c⟩,h1,h⟩:=bind_some h;refine rg L 200 [] [] [(2,(T3 (.B a) [(0,.raw (Ae c))]))] (Tu (Ao.okE h1)) <| iS h (fun c1 h=>?_) fun c1 h=>?_
 ·refine ff (b:=(!a)) (congrArg Bool.not (c1)) <| sk (S':=⟨[],[(0,.raw (Ae c))]⟩) ?_;cases h;exact xn0
 refine tt (b:=(!a)) (congrArg Bool.not (Xs c1)) <| bS h fun a2 h2 h=>qn L 205 [] [] [] 1 (T3 (.tup []) []) (Uh 59 a2) (Tu (Br.okE h2)) ?_
 cases h;exact rfl
theorem Aq.okE {K:Nat} {p0:Ge} {p1:Ab} {r:Ab ⊕ Int} (h:Aq K p0 p1=some r):Ug V P 65 [.P 0,.cv (.str p0)] [(0,.raw (Ae p1))] [0] (Aq.post p0 p1 r) (Aq.rep p0 p1 r) :=
 xo (fn:=Tryz.f65) (n:=10) (m:=100) fun Γ=>Aq.body h
def Dg.l7 (K:Nat) (p0:List Ge) (p1:List Int) (p2:Ab):Nat→Int→Option (Ty (Int×Bool×Ab) Unit)
 | 0,_=>none
 | k+1,a=>(if a <(p0.length:Int) then (if (0:Int)≤a∧(a:Int) <(p0.length:Int) then ((Fo K p2 (p0.getD (Int.toNat a) ([]:Ge))).bind fun a1=>(if a1=true then (if (a:Int) <(p1.length:Int) then some (Ty.done ((p1.getD (Int.toNat a) (0:Int)),true,(⟨p2.l,(i64.wrap (p2.i+1))⟩:Ab))) else none) else Dg.l7 K p0 p1 p2 k (i64.wrap (a+1)))) else none) else some (Ty.go ()))
def Dg (K:Nat) (p0:List Ge) (p1:List Int) (p2:Ab):Option (Int×Bool×Ab):=(Ub (Dg.l7 K p0 p1 p2 K 0:Option (Ty (Int×Bool×Ab) Unit)) (fun r=>r) (fun _=>some (0,false,p2)))
theorem Dg.body {Γ:Ue} {K:Nat} {p0:List Ge} {p1:List Int} {p2:Ab} {r:Int×Bool×Ab} (h:Dg K p0 p1 p2=some r):Uc V P 32 100 Γ (Tryz.f110.body.getD .skip) (T2 P V Tryz.f110 (.tup [.I r.1,.B r.2.1]) [(0,.raw [.ro .Ap r.2.2.l,.I r.2.2.i])]) ⟨T0 0 [.P 0,.cv (.ro .Dr p0),.cv (.ro .Gz p1)],[(0,.raw (Ae p2))]⟩:=by
 unfold Dg at h;refine Tt L 200 <| Tm <| Tt L 203 <| Ts <| kp (S':=⟨[(0,.P 0),(2,.cv (.ro .Gz p1)),(10,.cv (.ro .Dr p0)),(11,.I (p0.length:Int)),(12,.I 0)],[(0,.raw (Ae p2))]⟩) ?_;obtain ⟨o1,hp1,h⟩:=T7 h;refine Tx (Q':=fun e S=>(e=.exit 0∧S=⟨[],[(0,.raw (Ae p2))]⟩∧Ty.go ()=o1)∨(e=.ret∧∃ a,Ty.done a=o1∧T2 P V Tryz.f110 (.tup [.I a.1,.B a.2.1]) [(0,.raw [.ro .Ap a.2.2.l,.I a.2.2.i])] .ret S)) (T4 (fun k S=>∃ b:Int,S=⟨[(0,.P 0),(2,.cv (.ro .Gz p1)),(10,.cv (.ro .Dr p0)),(11,.I (p0.length:Int)),(12,.I b)],[(0,.raw (Ae p2))]⟩∧Dg.l7 K p0 p1 p2 k b=some o1) ?_ ⟨_,rfl,hp1⟩) ?_
 ·clear h hp1;intro k S hS;obtain ⟨b,rfl,h⟩:=hS;cases k with
  | zero=>cases h
  | succ k =>
  unfold Dg.l7 at h;refine Tt L 207 <| Tm <| iS h (fun c1 h=>tT c1 <| Tq <| Tm <| Ts <| Tm <| gS h fun g1 h=>rg L 209 [] [] [] (Ur g1.1 g1.2) <| Tm <| bS h fun a1 h1 h=>rg L 215 [] [(2,.B a1)] [] (Uq (Fo.ok h1)) <| iS h (fun c2 h=>tt c2 <| Tt L 219 <| Tm <| gS h fun g2 h=>rg L 228 [] [] [] (Ur g1.1 g2) <| To <| sJ h ▸ (ei Tv)) fun c2 h=>fN c2 <| Tq <| Vd L 235 [] [] [] (S':=⟨[(0,.P 0),(2,.cv (.ro .Gz p1)),(10,.cv (.ro .Dr p0)),(11,.I (p0.length:Int)),(12,.I (i64.wrap (b+1)))],[(0,.raw (Ae p2))]⟩) <|⟨k,Nat.lt_succ_self k,_,rfl,h⟩) fun c1 h=>fF c1 <| ex (S':=⟨[],[(0,.raw (Ae p2))]⟩) ?_
  cases h;exact .inl ⟨rfl,rfl,rfl⟩
 ·rintro e S (⟨rfl,rfl,rfl⟩ |⟨rfl,a,rfl,hr⟩)
  ·rcases h with ⟨_,e1,h⟩ |⟨_,e1,h⟩
   ·cases e1
   ·have e2:=Ty.go.inj e1;subst e2;refine ⟨_,Tn.refl,?_⟩;exact Tt L 238 <| To <| sJ h ▸ Tv
  ·rcases h with ⟨_,e1,h⟩ |⟨_,e1,h⟩
   ·have e2:=Ty.done.inj e1;subst e2;subst h;exact ⟨_,Tn.refl,hr⟩
   ·cases e1
theorem Dg.okE {K:Nat} {p0:List Ge} {p1:List Int} {p2:Ab} {r:Int×Bool×Ab} (h:Dg K p0 p1 p2=some r):T1 V P 110 [.P 0,.cv (.ro .Dr p0),.cv (.ro .Gz p1)] [(0,.raw (Ae p2))] [0] (.tup [.I r.1,.B r.2.1]) [(0,.raw [.ro .Ap r.2.2.l,.I r.2.2.i])] :=
 e2 Tryz.f110 32 100 fun Γ=>Dg.body h
def E2 (K:Nat) (p0:Ab):Option (Aa×Bool×Ab):=((Cj K p0).bind fun a1=>(if a1.Kind=3 then some ((⟨4,[],a1.Int,[],([]:List Aa)⟩:Aa),true,(⟨p0.l,(i64.wrap (p0.i+1))⟩:Ab)) else (if a1.Kind=4 then some ((⟨5,[],0,a1.Text,([]:List Aa)⟩:Aa),true,(⟨p0.l,(i64.wrap (p0.i+1))⟩:Ab)) else ((Dg K ([([110,117,108,108]:Ge),([116,114,117,101]:Ge),([102,97,108,115,101]:Ge)]:List Ge) ([1,2,3]:List Int) p0).bind fun (a,b,c)=>some ((⟨a,[],0,[],([]:List Aa)⟩:Aa),b,c)))))
theorem E2.body {Γ:Ue} {K:Nat} {p0:Ab} {r:Aa×Bool×Ab} (h:E2 K p0=some r):Uc V P 47 100 Γ (Tryz.f108.body.getD .skip) (T2 P V Tryz.f108 (.tup [.agg [.I r.1.Op,.str r.1.Name,.I r.1.Int,.str r.1.Text,.ro .Af r.1.Kids],.B r.2.1]) [(0,.raw [.ro .Ap r.2.2.l,.I r.2.2.i])]) ⟨T0 0 [.P 0],[(0,.raw (Ae p0))]⟩:=by
 unfold E2 at h;refine Tt L 200 <| Tm <| Tm <| bS h fun a1 h1 h=>rg L 203 [] [(1,.agg (E6 a1))] [] (Uq (Cj.ok h1)) <| Ts <| Tt L 208 <| iS h (fun c1 h=>tT c1 <| Tt L 213 <| Tt L 222 <| Tr (Tn.trans (Tn.kk [2,3] [0,200]) (Tn.rr [(0,0),(200,100)])) <| To <| sJ h ▸ Tv) fun c1 h=>fF c1 <| Tt L 228 <| iS h (fun c2 h=>tT c2 <| Tt L 233 <| Tt L 242 <| Tr (Tn.trans (Tn.kk [2,3] [0,200]) (Tn.rr [(0,0),(200,100)])) <| To <| sJ h ▸ Tv) fun c2 h=>fF c2 <| Tq <| Tm ?_
 obtain ⟨⟨a,b,c⟩,h2,h⟩:=bind_some h;exact rg L 248 [] [] [(3,(T3 (.tup [.I a,.B b]) [(0,.raw (Ae c))]))] (Tu (Dg.okE h2)) <| Tt L 258 <| Tr (Tn.trans (Tn.kk [2,3] [0,200]) (Tn.rr [(0,0),(200,100)])) <| To <| sJ h ▸ Tv
theorem E2.okE {K:Nat} {p0:Ab} {r:Aa×Bool×Ab} (h:E2 K p0=some r):T1 V P 108 [.P 0] [(0,.raw (Ae p0))] [0] (.tup [.agg [.I r.1.Op,.str r.1.Name,.I r.1.Int,.str r.1.Text,.ro .Af r.1.Kids],.B r.2.1]) [(0,.raw [.ro .Ap r.2.2.l,.I r.2.2.i])] :=
 e2 Tryz.f108 47 100 fun Γ=>E2.body h
def Dn (K:Nat) (p0:Int) (p1:List Aa):Option Aa:=some (⟨p0,[],0,[],p1⟩:Aa)
theorem Dn.ok {K:Nat} {p0:Int} {p1:List Aa} {r:Aa} (h:Dn K p0 p1=some r):Tz V P 107 [.I p0,.cv (.ro .Af p1)] (.agg [.I r.Op,.str r.Name,.I r.Int,.str r.Text,.ro .Af r.Kids]):=pc <| e2 Tryz.f107 8 100 fun Γ=>by
 unfold Dn at h;exact Tt L 200 <| Tt L 202 <| Tr (Tn.trans (Tn.kk [4] [200]) (Tn.rr [(200,100)])) <| To <| sJ h ▸ Tv
def Bp.rep (p0:Ge) (p1:Ab):((List Aa)×Ab) ⊕ Int→Uz T
 |(Sum.inl (v0,v1))=>.ret (.cv (.ro .Af v0))
 |(Sum.inr v0)=>.pan (Uh 59 v0)
def Bp.post (p0:Ge) (p1:Ab):((List Aa)×Ab) ⊕ Int→List (Nat×T9 T)
 |(Sum.inl (v0,v1))=>[(0,.raw [.ro .Ap v1.l,.I v1.i])]
 |(Sum.inr v0)=>[]
def Bt.rep (p0:Int) (p1:Ge) (p2:Ab):(Aa×Ab) ⊕ Int→Uz T
 |(Sum.inl (v0,v1))=>.ret (.agg [.I v0.Op,.str v0.Name,.I v0.Int,.str v0.Text,.ro .Af v0.Kids])
 |(Sum.inr v0)=>.pan (Uh 59 v0)
def Bt.post (p0:Int) (p1:Ge) (p2:Ab):(Aa×Ab) ⊕ Int→List (Nat×T9 T)
 |(Sum.inl (v0,v1))=>[(0,.raw [.ro .Ap v1.l,.I v1.i])]
 |(Sum.inr v0)=>[]
def Cy.rep (p0:Ab):Int ⊕ (Aa×Ab)→Uz T
 |(Sum.inl v0)=>.pan (Uh 59 v0)
 |(Sum.inr (v0,v1))=>.ret (.agg [.I v0.Op,.str v0.Name,.I v0.Int,.str v0.Text,.ro .Af v0.Kids])
def Cy.post (p0:Ab):Int ⊕ (Aa×Ab)→List (Nat×T9 T)
 |(Sum.inl v0)=>[]
 |(Sum.inr (v0,v1))=>[(0,.raw [.ro .Ap v1.l,.I v1.i])]
def Ce.rep (p0:Ge) (p1:Ab):((List Aa)×Ab) ⊕ Int→Uz T
 |(Sum.inl (v0,v1))=>.ret (.cv (.ro .Af v0))
 |(Sum.inr v0)=>.pan (Uh 59 v0)
def Ce.post (p0:Ge) (p1:Ab):((List Aa)×Ab) ⊕ Int→List (Nat×T9 T)
 |(Sum.inl (v0,v1))=>[(0,.raw [.ro .Ap v1.l,.I v1.i])]
 |(Sum.inr v0)=>[]
def Ck.rep (p0:Ab):(Aa×Ab) ⊕ Int→Uz T
 |(Sum.inl (v0,v1))=>.ret (.agg [.I v0.Op,.str v0.Name,.I v0.Int,.str v0.Text,.ro .Af v0.Kids])
 |(Sum.inr v0)=>.pan (Uh 59 v0)
def Ck.post (p0:Ab):(Aa×Ab) ⊕ Int→List (Nat×T9 T)
 |(Sum.inl (v0,v1))=>[(0,.raw [.ro .Ap v1.l,.I v1.i])]
 |(Sum.inr v0)=>[]
def Bh.rep (p0:Ab):Int ⊕ (Aa×Ab)→Uz T
 |(Sum.inl v0)=>.pan (Uh 59 v0)
 |(Sum.inr (v0,v1))=>.ret (.agg [.I v0.Op,.str v0.Name,.I v0.Int,.str v0.Text,.ro .Af v0.Kids])
def Bh.post (p0:Ab):Int ⊕ (Aa×Ab)→List (Nat×T9 T)
 |(Sum.inl v0)=>[]
 |(Sum.inr (v0,v1))=>[(0,.raw [.ro .Ap v1.l,.I v1.i])]
def Bg.rep (p0:Ab):Int ⊕ (Aa×Ab)→Uz T
 |(Sum.inl v0)=>.pan (Uh 59 v0)
 |(Sum.inr (v0,v1))=>.ret (.agg [.I v0.Op,.str v0.Name,.I v0.Int,.str v0.Text,.ro .Af v0.Kids])
def Bg.post (p0:Ab):Int ⊕ (Aa×Ab)→List (Nat×T9 T)
 |(Sum.inl v0)=>[]
 |(Sum.inr (v0,v1))=>[(0,.raw [.ro .Ap v1.l,.I v1.i])]
def B6.rep (p0:List Ge) (p1:List Int) (p2:Ab):Int ⊕ (Aa×Ab)→Uz T
 |(Sum.inl v0)=>.pan (Uh 59 v0)
 |(Sum.inr (v0,v1))=>.ret (.agg [.I v0.Op,.str v0.Name,.I v0.Int,.str v0.Text,.ro .Af v0.Kids])
def B6.post (p0:List Ge) (p1:List Int) (p2:Ab):Int ⊕ (Aa×Ab)→List (Nat×T9 T)
 |(Sum.inl v0)=>[]
 |(Sum.inr (v0,v1))=>[(0,.raw [.ro .Ap v1.l,.I v1.i])]
def Bw.rep (p0:Ab):Int ⊕ (Aa×Ab)→Uz T
 |(Sum.inl v0)=>.pan (Uh 59 v0)
 |(Sum.inr (v0,v1))=>.ret (.agg [.I v0.Op,.str v0.Name,.I v0.Int,.str v0.Text,.ro .Af v0.Kids])
def Bw.post (p0:Ab):Int ⊕ (Aa×Ab)→List (Nat×T9 T)
 |(Sum.inl v0)=>[]
 |(Sum.inr (v0,v1))=>[(0,.raw [.ro .Ap v1.l,.I v1.i])]
def B5.rep (p0:List Ge) (p1:List Int) (p2:Ab):Int ⊕ (Aa×Ab)→Uz T
 |(Sum.inl v0)=>.pan (Uh 59 v0)
 |(Sum.inr (v0,v1))=>.ret (.agg [.I v0.Op,.str v0.Name,.I v0.Int,.str v0.Text,.ro .Af v0.Kids])
def B5.post (p0:List Ge) (p1:List Int) (p2:Ab):Int ⊕ (Aa×Ab)→List (Nat×T9 T)
 |(Sum.inl v0)=>[]
 |(Sum.inr (v0,v1))=>[(0,.raw [.ro .Ap v1.l,.I v1.i])]
def Cx.rep (p0:Ab):Int ⊕ (Aa×Ab)→Uz T
 |(Sum.inl v0)=>.pan (Uh 59 v0)
 |(Sum.inr (v0,v1))=>.ret (.agg [.I v0.Op,.str v0.Name,.I v0.Int,.str v0.Text,.ro .Af v0.Kids])
def Cx.post (p0:Ab):Int ⊕ (Aa×Ab)→List (Nat×T9 T)
 |(Sum.inl v0)=>[]
 |(Sum.inr (v0,v1))=>[(0,.raw [.ro .Ap v1.l,.I v1.i])]
def Cg.rep (p0:Ab):Int ⊕ (Aa×Ab)→Uz T
 |(Sum.inl v0)=>.pan (Uh 59 v0)
 |(Sum.inr (v0,v1))=>.ret (.agg [.I v0.Op,.str v0.Name,.I v0.Int,.str v0.Text,.ro .Af v0.Kids])
def Cg.post (p0:Ab):Int ⊕ (Aa×Ab)→List (Nat×T9 T)
 |(Sum.inl v0)=>[]
 |(Sum.inr (v0,v1))=>[(0,.raw [.ro .Ap v1.l,.I v1.i])]
def B4.rep (p0:List Ge) (p1:List Int) (p2:Ab):Int ⊕ (Aa×Ab)→Uz T
 |(Sum.inl v0)=>.pan (Uh 59 v0)
 |(Sum.inr (v0,v1))=>.ret (.agg [.I v0.Op,.str v0.Name,.I v0.Int,.str v0.Text,.ro .Af v0.Kids])
def B4.post (p0:List Ge) (p1:List Int) (p2:Ab):Int ⊕ (Aa×Ab)→List (Nat×T9 T)
 |(Sum.inl v0)=>[]
 |(Sum.inr (v0,v1))=>[(0,.raw [.ro .Ap v1.l,.I v1.i])]
def Cw.rep (p0:Ab):Int ⊕ (Aa×Ab)→Uz T
 |(Sum.inl v0)=>.pan (Uh 59 v0)
 |(Sum.inr (v0,v1))=>.ret (.agg [.I v0.Op,.str v0.Name,.I v0.Int,.str v0.Text,.ro .Af v0.Kids])
def Cw.post (p0:Ab):Int ⊕ (Aa×Ab)→List (Nat×T9 T)
 |(Sum.inl v0)=>[]
 |(Sum.inr (v0,v1))=>[(0,.raw [.ro .Ap v1.l,.I v1.i])]
def B9.rep (p0:List Ge) (p1:List Int) (p2:Ab):Int ⊕ (Aa×Ab)→Uz T
 |(Sum.inl v0)=>.pan (Uh 59 v0)
 |(Sum.inr (v0,v1))=>.ret (.agg [.I v0.Op,.str v0.Name,.I v0.Int,.str v0.Text,.ro .Af v0.Kids])
def B9.post (p0:List Ge) (p1:List Int) (p2:Ab):Int ⊕ (Aa×Ab)→List (Nat×T9 T)
 |(Sum.inl v0)=>[]
 |(Sum.inr (v0,v1))=>[(0,.raw [.ro .Ap v1.l,.I v1.i])]
def Ay.rep (p0:Ab):Int ⊕ (Aa×Ab)→Uz T
 |(Sum.inl v0)=>.pan (Uh 59 v0)
 |(Sum.inr (v0,v1))=>.ret (.agg [.I v0.Op,.str v0.Name,.I v0.Int,.str v0.Text,.ro .Af v0.Kids])
def Ay.post (p0:Ab):Int ⊕ (Aa×Ab)→List (Nat×T9 T)
 |(Sum.inl v0)=>[]
 |(Sum.inr (v0,v1))=>[(0,.raw [.ro .Ap v1.l,.I v1.i])]
structure Ai where
 Bp:Ge→Ab→Option (((List Aa)×Ab) ⊕ Int)
 Bt:Int→Ge→Ab→Option ((Aa×Ab) ⊕ Int)
 Cy:Ab→Option (Int ⊕ (Aa×Ab))
 Ce:Ge→Ab→Option (((List Aa)×Ab) ⊕ Int)
 Ck:Ab→Option ((Aa×Ab) ⊕ Int)
 Bh:Ab→Option (Int ⊕ (Aa×Ab))
 Bg:Ab→Option (Int ⊕ (Aa×Ab))
 B6:(List Ge)→(List Int)→Ab→Option (Int ⊕ (Aa×Ab))
 Bw:Ab→Option (Int ⊕ (Aa×Ab))
 B5:(List Ge)→(List Int)→Ab→Option (Int ⊕ (Aa×Ab))
 Cx:Ab→Option (Int ⊕ (Aa×Ab))
 Cg:Ab→Option (Int ⊕ (Aa×Ab))
 B4:(List Ge)→(List Int)→Ab→Option (Int ⊕ (Aa×Ab))
 Cw:Ab→Option (Int ⊕ (Aa×Ab))
 B9:(List Ge)→(List Int)→Ab→Option (Int ⊕ (Aa×Ab))
 Ay:Ab→Option (Int ⊕ (Aa×Ab))
structure Ai.Ok (R:Ai):Prop where
 Bp:∀ {p0:Ge} {p1:Ab} {r:((List Aa)×Ab) ⊕ Int},R.Bp p0 p1=some r→Ug V P 67 [.P 0,.cv (.str p0),.cv (.fn (.func 32) [.P 0] [])] [(0,.raw (Ae p1))] [0] (Bp.post p0 p1 r) (Bp.rep p0 p1 r)
 Bt:∀ {p0:Int} {p1:Ge} {p2:Ab} {r:(Aa×Ab) ⊕ Int},R.Bt p0 p1 p2=some r→Ug V P 145 [.P 0,.I p0,.cv (.str p1)] [(0,.raw (Ae p2))] [0] (Bt.post p0 p1 p2 r) (Bt.rep p0 p1 p2 r)
 Cy:∀ {p0:Ab} {r:Int ⊕ (Aa×Ab)},R.Cy p0=some r→Ug V P 217 [.P 0] [(0,.raw (Ae p0))] [0] (Cy.post p0 r) (Cy.rep p0 r)
 Ce:∀ {p0:Ge} {p1:Ab} {r:((List Aa)×Ab) ⊕ Int},R.Ce p0 p1=some r→Ug V P 67 [.P 0,.cv (.str p0),.cv (.fn (.func 217) [.P 0] [])] [(0,.raw (Ae p1))] [0] (Ce.post p0 p1 r) (Ce.rep p0 p1 r)
 Ck:∀ {p0:Ab} {r:(Aa×Ab) ⊕ Int},R.Ck p0=some r→Ug V P 215 [.P 0] [(0,.raw (Ae p0))] [0] (Ck.post p0 r) (Ck.rep p0 r)
 Bh:∀ {p0:Ab} {r:Int ⊕ (Aa×Ab)},R.Bh p0=some r→Ug V P 206 [.P 0] [(0,.raw (Ae p0))] [0] (Bh.post p0 r) (Bh.rep p0 r)
 Bg:∀ {p0:Ab} {r:Int ⊕ (Aa×Ab)},R.Bg p0=some r→Ug V P 192 [.P 0] [(0,.raw (Ae p0))] [0] (Bg.post p0 r) (Bg.rep p0 r)
 B6:∀ {p0:List Ge} {p1:List Int} {p2:Ab} {r:Int ⊕ (Aa×Ab)},R.B6 p0 p1 p2=some r→Ug V P 71 [.P 0,.cv (.fn (.func 192) [.P 0] []),.cv (.ro .Dr p0),.cv (.ro .Gz p1)] [(0,.raw (Ae p2))] [0] (B6.post p0 p1 p2 r) (B6.rep p0 p1 p2 r)
 Bw:∀ {p0:Ab} {r:Int ⊕ (Aa×Ab)},R.Bw p0=some r→Ug V P 173 [.P 0] [(0,.raw (Ae p0))] [0] (Bw.post p0 r) (Bw.rep p0 r)
 B5:∀ {p0:List Ge} {p1:List Int} {p2:Ab} {r:Int ⊕ (Aa×Ab)},R.B5 p0 p1 p2=some r→Ug V P 71 [.P 0,.cv (.fn (.func 173) [.P 0] []),.cv (.ro .Dr p0),.cv (.ro .Gz p1)] [(0,.raw (Ae p2))] [0] (B5.post p0 p1 p2 r) (B5.rep p0 p1 p2 r)
 Cx:∀ {p0:Ab} {r:Int ⊕ (Aa×Ab)},R.Cx p0=some r→Ug V P 148 [.P 0] [(0,.raw (Ae p0))] [0] (Cx.post p0 r) (Cx.rep p0 r)
 Cg:∀ {p0:Ab} {r:Int ⊕ (Aa×Ab)},R.Cg p0=some r→Ug V P 111 [.P 0] [(0,.raw (Ae p0))] [0] (Cg.post p0 r) (Cg.rep p0 r)
 B4:∀ {p0:List Ge} {p1:List Int} {p2:Ab} {r:Int ⊕ (Aa×Ab)},R.B4 p0 p1 p2=some r→Ug V P 71 [.P 0,.cv (.fn (.func 111) [.P 0] []),.cv (.ro .Dr p0),.cv (.ro .Gz p1)] [(0,.raw (Ae p2))] [0] (B4.post p0 p1 p2 r) (B4.rep p0 p1 p2 r)
 Cw:∀ {p0:Ab} {r:Int ⊕ (Aa×Ab)},R.Cw p0=some r→Ug V P 72 [.P 0] [(0,.raw (Ae p0))] [0] (Cw.post p0 r) (Cw.rep p0 r)
 B9:∀ {p0:List Ge} {p1:List Int} {p2:Ab} {r:Int ⊕ (Aa×Ab)},R.B9 p0 p1 p2=some r→Ug V P 71 [.P 0,.cv (.fn (.func 72) [.P 0] []),.cv (.ro .Dr p0),.cv (.ro .Gz p1)] [(0,.raw (Ae p2))] [0] (B9.post p0 p1 p2 r) (B9.rep p0 p1 p2 r)
 Ay:∀ {p0:Ab} {r:Int ⊕ (Aa×Ab)},R.Ay p0=some r→Ug V P 32 [.P 0] [(0,.raw (Ae p0))] [0] (Ay.post p0 r) (Ay.rep p0 r)
def Bp.l15 (K:Nat) (R:Ai):Nat→(List Av)→Int→(List Aa)→Option (Ty (((List Aa)×Ab) ⊕ Int) ((List Av)×Int×(List Aa)))
 | 0,_,_,_=>none
 | k+1,c,d,b=>((Ao K ([44]:Ge) (⟨c,d⟩:Ab)).bind fun (g,e)=>(if g=true then ((R.Ay e).bind fun a4=>match a4 with |(Sum.inl a4)=>some (Ty.done (Sum.inr a4)) |(Sum.inr (a,f))=>(if (b.length+([(⟨a.Op,a.Name,a.Int,a.Text,a.Kids⟩:Aa)]:List Aa).length) * 72≤140737488355328 then Bp.l15 K R k f.l f.i (b++([(⟨a.Op,a.Name,a.Int,a.Text,a.Kids⟩:Aa)]:List Aa)) else none)) else some (Ty.go (e.l,e.i,b))))
def Bp.F (K:Nat) (R:Ai) (p0:Ge) (p1:Ab):Option (((List Aa)×Ab) ⊕ Int):=((Ao K p0 p1).bind fun (g,e)=>(if g=true then some (Sum.inl (([]:List Aa),e)) else ((R.Ay e).bind fun a2=>match a2 with |(Sum.inl a2)=>some (Sum.inr a2) |(Sum.inr (a,f))=>(Ub (Bp.l15 K R K f.l f.i ([(⟨a.Op,a.Name,a.Int,a.Text,a.Kids⟩:Aa)]:List Aa):Option (Ty (((List Aa)×Ab) ⊕ Int) ((List Av)×Int×(List Aa)))) (fun r=>r) (fun (b,c,d)=>((Aq K p0 (⟨b,c⟩:Ab)).bind fun a5=>match a5 with |(Sum.inl a5)=>some (Sum.inl (d,a5)) |(Sum.inr a5)=>some (Sum.inr a5)))))))
theorem Bp.body {Γ:Ue} {K:Nat} {R:Ai} (hR:R.Ok) {p0:Ge} {p1:Ab} {r:((List Aa)×Ab) ⊕ Int} (h:Bp.F K R p0 p1=some r):Uc V P 25 100 Γ (Tryz.f67.body.getD .skip) (Ui P V Tryz.f67 (Bp.rep p0 p1 r) (Bp.post p0 p1 r)) ⟨T0 0 [.P 0,.cv (.str p0),.cv (.fn (.func 32) [.P 0] [])],[(0,.raw (Ae p1))]⟩:=by
 unfold Bp.F at h;refine Tt L 200 <| Tm <| Tm ?_;obtain ⟨⟨p,q⟩,h1,h⟩:=bind_some h;refine rg L 202 [] [] [(2,(T3 (.B p) [(0,.raw (Ae q))]))] (Tu (Ao.okE h1)) <| iS h (fun c1 h=>?_) fun c1 h=>?_
 ·refine tt c1 <| Tt L 206 <| To ?_;cases h;exact Vr
 refine fN c1 <| Tq <| Tm <| bS h fun a2 h2 h=>?_
 rcases a2 with a2 | a2
 ·dsimp only at h;refine qn L 100208 [] [] [] 1 (T3 (.tup []) []) (Uh 59 a2) (Tu (hR.Ay h2)) ?_;cases h;exact rfl
 ·obtain ⟨j,o⟩:=a2;refine rg L 100208 [] [] [(1,(T3 (.agg (Ag j)) [(0,.raw (Ae o))]))] (Tu (hR.Ay h2)) <| Tm <| Ts <| Tr (Tn.trans (Tn.kk [0,1,2,7] [0,100210]) (Tn.rr [(0,0),(100210,23100)])) <| kp (S':=⟨[(0,.P 0),(1,.cv (.str p0)),(2,.cv (.fn (.func 32) [.P 0] [])),(7,.cv (.own .Af 23100))],[(0,.raw (Ae o)),(23100,.lst .Af ([(⟨j.Op,j.Name,j.Int,j.Text,j.Kids⟩:Aa)]:List Aa))]⟩) ?_;obtain ⟨o1,hp1,h⟩:=T7 h;refine Tx (Q':=fun e S=>(e=.exit 0∧∃ g:List Av,∃ i:Int,∃ l:List Aa,S=⟨[(0,.P 0),(1,.cv (.str p0)),(7,.cv (.own .Af 23000))],[(0,.raw [.ro .Ap g,.I i]),(23000,.lst .Af l)]⟩∧Ty.go (g,i,l)=o1)∨((e=.ret∨∃ ch,e=.panic ch)∧∃ a,Ty.done a=o1∧Ui P V Tryz.f67 (Bp.rep p0 p1 a) (Bp.post p0 p1 a) e S)) (T4 (fun k S=>∃ d:List Av,∃ f:Int,∃ c:List Aa,S=⟨[(0,.P 0),(1,.cv (.str p0)),(2,.cv (.fn (.func 32) [.P 0] [])),(7,.cv (.own .Af 23100))],[(0,.raw [.ro .Ap d,.I f]),(23100,.lst .Af c)]⟩∧Bp.l15 K R k d f c=some o1) ?_ ⟨_,_,_,rfl,hp1⟩) ?_
  ·clear h hp1;intro k S hS;obtain ⟨d,f,c,rfl,h⟩:=hS;cases k with
   | zero=>cases h
   | succ k =>
   unfold Bp.l15 at h;refine Tm <| Tm ?_;obtain ⟨⟨s,m⟩,h3,h⟩:=bind_some h;refine rg L 213 [] [] [(1,(T3 (.B s) [(0,.raw (Ae m))]))] (Tu (Ao.okE h3)) <| iS h (fun c2 h=>?_) fun c2 h=>?_
   ·refine tt c2 <| Tq <| Ts <| bS h fun a4 h4 h=>?_
    rcases a4 with a4 | a4
    ·dsimp only at h;refine qn L 216 [] [] [] 2 (T3 (.tup []) []) (Uh 59 a4) (Tu (hR.Ay h4)) ?_;cases h;exact .inr ⟨.inr ⟨_,rfl⟩,_,rfl,rfl⟩
    ·obtain ⟨b,n⟩:=a4;exact gS h fun g1 h=>ar L 216 [] [] [(2,(T3 (.agg (Ag b)) [(0,.raw (Ae n))]))] (cs:=[T1 V P 32 [.P 0] [(0,.raw (Ae m))] [0] (.agg (Ag b)) [(0,.raw (Ae n))],(c.length+([(⟨b.Op,b.Name,b.Int,b.Text,b.Kids⟩:Aa)]:List Aa).length) * 72≤140737488355328,True]) (S':=⟨[(0,.P 0),(1,.cv (.str p0)),(2,.cv (.fn (.func 32) [.P 0] [])),(7,.cv (.own .Af 23100))],[(0,.raw (Ae n)),(23100,.lst .Af (c++([(⟨b.Op,b.Name,b.Int,b.Text,b.Kids⟩:Aa)]:List Aa)))]⟩) (And.intro (hR.Ay h4) (And.intro g1 trivial)) <|⟨k,Nat.lt_succ_self k,_,_,_,rfl,h⟩
   refine fN c2 <| Tr (Tn.trans (Tn.kk [0,1,7] [0,23100]) (Tn.rr [(0,0),(23100,23000)])) <| ex (S':=⟨[(0,.P 0),(1,.cv (.str p0)),(7,.cv (.own .Af 23000))],[(0,.raw (Ae m)),(23000,.lst .Af c)]⟩) ?_;cases h;exact .inl ⟨rfl,_,_,_,rfl,rfl⟩
  ·rintro e S (⟨rfl,g,i,l,rfl,rfl⟩ |⟨he,a,rfl,hr⟩)
   ·rcases h with ⟨_,e1,h⟩ |⟨_,e1,h⟩
    ·cases e1
    ·have e2:=Ty.go.inj e1;subst e2;refine ⟨_,Tn.refl,?_⟩;refine Tm <| bS h fun a5 h5 h=>?_
     rcases a5 with a5 | a5
     ·dsimp only at h;refine rg L 223 [] [] [(2,(T3 (.tup []) [(0,.raw (Ae a5))]))] (Tu (Aq.okE h5)) <| Tt L 227 <| Tr (Tn.trans (Tn.kk [6] [0,23000]) (Tn.fz 23000)) <| To ?_;cases h;exact Vr
     ·obtain ⟨a5,rfl⟩:∃ z,z=a5:=⟨_,rfl⟩
      refine qn L 223 [] [] [] 2 (T3 (.tup []) []) (Uh 59 a5) (Tu (Aq.okE h5)) ?_;cases h;exact rfl
   ·rcases h with ⟨_,e1,h⟩ |⟨_,e1,h⟩
    ·have e2:=Ty.done.inj e1;subst e2;subst h;rcases he with rfl |⟨ch,rfl⟩
     ·exact ⟨_,Tn.refl,hr⟩
     ·exact ⟨_,Tn.refl,hr⟩
    ·cases e1
def Bt.F (K:Nat) (R:Ai) (p0:Int) (p1:Ge) (p2:Ab):Option ((Aa×Ab) ⊕ Int):=((Aq K ([40]:Ge) p2).bind fun a1=>match a1 with |(Sum.inl a1)=>((R.Bp ([41]:Ge) a1).bind fun a2=>match a2 with |(Sum.inl (a,b))=>some (Sum.inl ((⟨p0,p1,0,[],a⟩:Aa),b)) |(Sum.inr a2)=>some (Sum.inr a2)) |(Sum.inr a1)=>some (Sum.inr a1))
theorem Bt.body {Γ:Ue} {K:Nat} {R:Ai} (hR:R.Ok) {p0:Int} {p1:Ge} {p2:Ab} {r:(Aa×Ab) ⊕ Int} (h:Bt.F K R p0 p1 p2=some r):Uc V P 16 100 Γ (Tryz.f145.body.getD .skip) (Ui P V Tryz.f145 (Bt.rep p0 p1 p2 r) (Bt.post p0 p1 p2 r)) ⟨T0 0 [.P 0,.I p0,.cv (.str p1)],[(0,.raw (Ae p2))]⟩:=by
 unfold Bt.F at h;refine Tt L 200 <| Tm <| bS h fun a1 h1 h=>?_
 rcases a1 with a1 | a1
 ·dsimp only at h;refine rg L 202 [] [] [(1,(T3 (.tup []) [(0,.raw (Ae a1))]))] (Tu (Aq.okE h1)) <| Tm <| bS h fun a2 h2 h=>?_
  rcases a2 with ⟨a,b⟩ | a2
  ·dsimp only at h;refine rg L 205 [] [] [(5,(T3 (.cv (.ro .Af a)) [(0,.raw (Ae b))]))] (Tu (hR.Bp h2)) <| Tr (Tn.trans (Tn.kk [6] [0,200]) (Tn.rr [(0,0),(200,100)])) <| To ?_;cases h;exact Vr
  ·obtain ⟨a2,rfl⟩:∃ z,z=a2:=⟨_,rfl⟩
   refine qn L 205 [] [] [] 5 (T3 (.tup []) []) (Uh 59 a2) (Tu (hR.Bp h2)) ?_;cases h;exact rfl
 ·obtain ⟨a1,rfl⟩:∃ z,z=a1:=⟨_,rfl⟩
  refine qn L 202 [] [] [] 1 (T3 (.tup []) []) (Uh 59 a1) (Tu (Aq.okE h1)) ?_;cases h;exact rfl
def Cy.F (K:Nat) (R:Ai) (p0:Ab):Option (Int ⊕ (Aa×Ab)):=((Cj K p0).bind fun a1=>(if a1.Kind≠4 then ((Br K p0).bind fun a2=>some (Sum.inl a2)) else ((Ei K p0).bind fun (b,c)=>((Aq K ([58]:Ge) c).bind fun a4=>match a4 with |(Sum.inl a4)=>((R.Ay a4).bind fun a5=>match a5 with |(Sum.inl a5)=>some (Sum.inl a5) |(Sum.inr (a,d))=>some (Sum.inr ((⟨9,[],0,b.Text,([(⟨a.Op,a.Name,a.Int,a.Text,a.Kids⟩:Aa)]:List Aa)⟩:Aa),d))) |(Sum.inr a4)=>some (Sum.inl a4)))))
theorem Cy.body {Γ:Ue} {K:Nat} {R:Ai} (hR:R.Ok) {p0:Ab} {r:Int ⊕ (Aa×Ab)} (h:Cy.F K R p0=some r):Uc V P 21 100 Γ (Tryz.f217.body.getD .skip) (Ui P V Tryz.f217 (Cy.rep p0 r) (Cy.post p0 r)) ⟨T0 0 [.P 0],[(0,.raw (Ae p0))]⟩:=by
 unfold Cy.F at h;refine Tt L 200 <| Tm <| Tm <| bS h fun a1 h1 h=>rg L 202 [] [(1,.agg (E6 a1))] [] (Uq (Cj.ok h1)) <| iS h (fun c1 h=>?_) fun c1 h=>?_
 ·refine tT c1 <| bS h fun a2 h2 h=>qn L 207 [] [] [] 1 (T3 (.tup []) []) (Uh 59 a2) (Tu (Br.okE h2)) ?_
  cases h;exact rfl
 refine fF c1 <| Tq <| Tm ?_;obtain ⟨⟨a,b⟩,h3,h⟩:=bind_some h;refine rg L 210 [] [] [(1,(T3 (.agg (E6 a)) [(0,.raw (Ae b))]))] (Tu (Ei.okE h3)) <| Tm <| bS h fun a4 h4 h=>?_
 rcases a4 with a4 | a4
 ·dsimp only at h;refine rg L 217 [] [] [(1,(T3 (.tup []) [(0,.raw (Ae a4))]))] (Tu (Aq.okE h4)) <| Tm <| bS h fun a5 h5 h=>?_
  rcases a5 with a5 | a5
  ·dsimp only at h;refine qn L 220 [] [] [] 1 (T3 (.tup []) []) (Uh 59 a5) (Tu (hR.Ay h5)) ?_;cases h;exact rfl
  ·obtain ⟨c,d⟩:=a5;refine rg L 220 [] [] [(1,(T3 (.agg (Ag c)) [(0,.raw (Ae d))]))] (Tu (hR.Ay h5)) <| Tt L 226 <| Tr (Tn.trans (Tn.kk [2] [0,200]) (Tn.rr [(0,0),(200,100)])) <| To ?_;cases h;exact Vr
 ·obtain ⟨a4,rfl⟩:∃ z,z=a4:=⟨_,rfl⟩
  refine qn L 217 [] [] [] 1 (T3 (.tup []) []) (Uh 59 a4) (Tu (Aq.okE h4)) ?_;cases h;exact rfl
def Ce.l15 (K:Nat) (R:Ai):Nat→(List Av)→Int→(List Aa)→Option (Ty (((List Aa)×Ab) ⊕ Int) ((List Av)×Int×(List Aa)))
 | 0,_,_,_=>none
 | k+1,c,d,b=>((Ao K ([44]:Ge) (⟨c,d⟩:Ab)).bind fun (g,e)=>(if g=true then ((R.Cy e).bind fun a4=>match a4 with |(Sum.inl a4)=>some (Ty.done (Sum.inr a4)) |(Sum.inr (a,f))=>(if (b.length+([(⟨a.Op,a.Name,a.Int,a.Text,a.Kids⟩:Aa)]:List Aa).length) * 72≤140737488355328 then Ce.l15 K R k f.l f.i (b++([(⟨a.Op,a.Name,a.Int,a.Text,a.Kids⟩:Aa)]:List Aa)) else none)) else some (Ty.go (e.l,e.i,b))))
def Ce.F (K:Nat) (R:Ai) (p0:Ge) (p1:Ab):Option (((List Aa)×Ab) ⊕ Int):=((Ao K p0 p1).bind fun (g,e)=>(if g=true then some (Sum.inl (([]:List Aa),e)) else ((R.Cy e).bind fun a2=>match a2 with |(Sum.inl a2)=>some (Sum.inr a2) |(Sum.inr (a,f))=>(Ub (Ce.l15 K R K f.l f.i ([(⟨a.Op,a.Name,a.Int,a.Text,a.Kids⟩:Aa)]:List Aa):Option (Ty (((List Aa)×Ab) ⊕ Int) ((List Av)×Int×(List Aa)))) (fun r=>r) (fun (b,c,d)=>((Aq K p0 (⟨b,c⟩:Ab)).bind fun a5=>match a5 with |(Sum.inl a5)=>some (Sum.inl (d,a5)) |(Sum.inr a5)=>some (Sum.inr a5)))))))
theorem Ce.body {Γ:Ue} {K:Nat} {R:Ai} (hR:R.Ok) {p0:Ge} {p1:Ab} {r:((List Aa)×Ab) ⊕ Int} (h:Ce.F K R p0 p1=some r):Uc V P 25 100 Γ (Tryz.f67.body.getD .skip) (Ui P V Tryz.f67 (Ce.rep p0 p1 r) (Ce.post p0 p1 r)) ⟨T0 0 [.P 0,.cv (.str p0),.cv (.fn (.func 217) [.P 0] [])],[(0,.raw (Ae p1))]⟩:=by
 unfold Ce.F at h;refine Tt L 200 <| Tm <| Tm ?_;obtain ⟨⟨p,q⟩,h1,h⟩:=bind_some h;refine rg L 202 [] [] [(2,(T3 (.B p) [(0,.raw (Ae q))]))] (Tu (Ao.okE h1)) <| iS h (fun c1 h=>?_) fun c1 h=>?_
 ·refine tt c1 <| Tt L 206 <| To ?_;cases h;exact Vr
 refine fN c1 <| Tq <| Tm <| bS h fun a2 h2 h=>?_
 rcases a2 with a2 | a2
 ·dsimp only at h;refine qn L 100208 [] [] [] 1 (T3 (.tup []) []) (Uh 59 a2) (Tu (hR.Cy h2)) ?_;cases h;exact rfl
 ·obtain ⟨j,o⟩:=a2;refine rg L 100208 [] [] [(1,(T3 (.agg (Ag j)) [(0,.raw (Ae o))]))] (Tu (hR.Cy h2)) <| Tm <| Ts <| Tr (Tn.trans (Tn.kk [0,1,2,7] [0,100210]) (Tn.rr [(0,0),(100210,23100)])) <| kp (S':=⟨[(0,.P 0),(1,.cv (.str p0)),(2,.cv (.fn (.func 217) [.P 0] [])),(7,.cv (.own .Af 23100))],[(0,.raw (Ae o)),(23100,.lst .Af ([(⟨j.Op,j.Name,j.Int,j.Text,j.Kids⟩:Aa)]:List Aa))]⟩) ?_;obtain ⟨o1,hp1,h⟩:=T7 h;refine Tx (Q':=fun e S=>(e=.exit 0∧∃ g:List Av,∃ i:Int,∃ l:List Aa,S=⟨[(0,.P 0),(1,.cv (.str p0)),(7,.cv (.own .Af 23000))],[(0,.raw [.ro .Ap g,.I i]),(23000,.lst .Af l)]⟩∧Ty.go (g,i,l)=o1)∨((e=.ret∨∃ ch,e=.panic ch)∧∃ a,Ty.done a=o1∧Ui P V Tryz.f67 (Ce.rep p0 p1 a) (Ce.post p0 p1 a) e S)) (T4 (fun k S=>∃ d:List Av,∃ f:Int,∃ c:List Aa,S=⟨[(0,.P 0),(1,.cv (.str p0)),(2,.cv (.fn (.func 217) [.P 0] [])),(7,.cv (.own .Af 23100))],[(0,.raw [.ro .Ap d,.I f]),(23100,.lst .Af c)]⟩∧Ce.l15 K R k d f c=some o1) ?_ ⟨_,_,_,rfl,hp1⟩) ?_
  ·clear h hp1;intro k S hS;obtain ⟨d,f,c,rfl,h⟩:=hS;cases k with
   | zero=>cases h
   | succ k =>
   unfold Ce.l15 at h;refine Tm <| Tm ?_;obtain ⟨⟨s,m⟩,h3,h⟩:=bind_some h;refine rg L 213 [] [] [(1,(T3 (.B s) [(0,.raw (Ae m))]))] (Tu (Ao.okE h3)) <| iS h (fun c2 h=>?_) fun c2 h=>?_
   ·refine tt c2 <| Tq <| Ts <| bS h fun a4 h4 h=>?_
    rcases a4 with a4 | a4
    ·dsimp only at h;refine qn L 216 [] [] [] 2 (T3 (.tup []) []) (Uh 59 a4) (Tu (hR.Cy h4)) ?_;cases h;exact .inr ⟨.inr ⟨_,rfl⟩,_,rfl,rfl⟩
    ·obtain ⟨b,n⟩:=a4;exact gS h fun g1 h=>ar L 216 [] [] [(2,(T3 (.agg (Ag b)) [(0,.raw (Ae n))]))] (cs:=[T1 V P 217 [.P 0] [(0,.raw (Ae m))] [0] (.agg (Ag b)) [(0,.raw (Ae n))],(c.length+([(⟨b.Op,b.Name,b.Int,b.Text,b.Kids⟩:Aa)]:List Aa).length) * 72≤140737488355328,True]) (S':=⟨[(0,.P 0),(1,.cv (.str p0)),(2,.cv (.fn (.func 217) [.P 0] [])),(7,.cv (.own .Af 23100))],[(0,.raw (Ae n)),(23100,.lst .Af (c++([(⟨b.Op,b.Name,b.Int,b.Text,b.Kids⟩:Aa)]:List Aa)))]⟩) (And.intro (hR.Cy h4) (And.intro g1 trivial)) <|⟨k,Nat.lt_succ_self k,_,_,_,rfl,h⟩
   refine fN c2 <| Tr (Tn.trans (Tn.kk [0,1,7] [0,23100]) (Tn.rr [(0,0),(23100,23000)])) <| ex (S':=⟨[(0,.P 0),(1,.cv (.str p0)),(7,.cv (.own .Af 23000))],[(0,.raw (Ae m)),(23000,.lst .Af c)]⟩) ?_;cases h;exact .inl ⟨rfl,_,_,_,rfl,rfl⟩
  ·rintro e S (⟨rfl,g,i,l,rfl,rfl⟩ |⟨he,a,rfl,hr⟩)
   ·rcases h with ⟨_,e1,h⟩ |⟨_,e1,h⟩
    ·cases e1
    ·have e2:=Ty.go.inj e1;subst e2;refine ⟨_,Tn.refl,?_⟩;refine Tm <| bS h fun a5 h5 h=>?_
     rcases a5 with a5 | a5
     ·dsimp only at h;refine rg L 223 [] [] [(2,(T3 (.tup []) [(0,.raw (Ae a5))]))] (Tu (Aq.okE h5)) <| Tt L 227 <| Tr (Tn.trans (Tn.kk [6] [0,23000]) (Tn.fz 23000)) <| To ?_;cases h;exact Vr
     ·obtain ⟨a5,rfl⟩:∃ z,z=a5:=⟨_,rfl⟩
      refine qn L 223 [] [] [] 2 (T3 (.tup []) []) (Uh 59 a5) (Tu (Aq.okE h5)) ?_;cases h;exact rfl
   ·rcases h with ⟨_,e1,h⟩ |⟨_,e1,h⟩
    ·have e2:=Ty.done.inj e1;subst e2;subst h;rcases he with rfl |⟨ch,rfl⟩
     ·exact ⟨_,Tn.refl,hr⟩
     ·exact ⟨_,Tn.refl,hr⟩
    ·cases e1
def Ck.F (K:Nat) (R:Ai) (p0:Ab):Option ((Aa×Ab) ⊕ Int):=((E2 K p0).bind fun (h,i,a)=>(if i=true then some (Sum.inl (h,a)) else ((Cj K a).bind fun a2=>(if a2.Kind=1 then ((Aw K a).bind fun a3=>match a3 with |(Sum.inl a3)=>some (Sum.inr a3) |(Sum.inr (c,b))=>((Fo K b ([40]:Ge)).bind fun a4=>(if a4=true then ((R.Bt 10 c b).bind fun a5=>match a5 with |(Sum.inl (j,k))=>some (Sum.inl (j,k)) |(Sum.inr a5)=>some (Sum.inr a5)) else some (Sum.inl ((⟨6,c,0,[],([]:List Aa)⟩:Aa),b))))) else ((Ao K ([91]:Ge) a).bind fun (l,d)=>(if l=true then ((R.Bp ([93]:Ge) d).bind fun a7=>match a7 with |(Sum.inl (m,n))=>some (Sum.inl ((⟨7,[],0,[],m⟩:Aa),n)) |(Sum.inr a7)=>some (Sum.inr a7)) else ((Ao K ([123]:Ge) d).bind fun (o,e)=>(if o=true then ((R.Ce ([125]:Ge) e).bind fun a9=>match a9 with |(Sum.inl (p,q))=>some (Sum.inl ((⟨8,[],0,[],p⟩:Aa),q)) |(Sum.inr a9)=>some (Sum.inr a9)) else ((Aq K ([40]:Ge) e).bind fun a10=>match a10 with |(Sum.inl a10)=>((R.Ay a10).bind fun a11=>match a11 with |(Sum.inl a11)=>some (Sum.inr a11) |(Sum.inr (f,g))=>((Aq K ([41]:Ge) g).bind fun a12=>match a12 with |(Sum.inl a12)=>some (Sum.inl (f,a12)) |(Sum.inr a12)=>some (Sum.inr a12))) |(Sum.inr a10)=>some (Sum.inr a10))))))))))
theorem Ck.body {Γ:Ue} {K:Nat} {R:Ai} (hR:R.Ok) {p0:Ab} {r:(Aa×Ab) ⊕ Int} (h:Ck.F K R p0=some r):Uc V P 51 100 Γ (Tryz.f215.body.getD .skip) (Ui P V Tryz.f215 (Ck.rep p0 r) (Ck.post p0 r)) ⟨T0 0 [.P 0],[(0,.raw (Ae p0))]⟩:=by
 unfold Ck.F at h;refine Tt L 200 <| Tm <| Tm ?_;obtain ⟨⟨c,d,e⟩,h1,h⟩:=bind_some h;refine rg L 202 [] [] [(1,(T3 (.tup [.agg (Ag c),.B d]) [(0,.raw (Ae e))]))] (Tu (E2.okE h1)) <| Tt L 211 <| iS h (fun c1 h=>?_) fun c1 h=>?_
 ·refine tt c1 <| Tt L 213 <| Tr (Tn.trans (Tn.kk [2] [0,200]) (Tn.rr [(0,0),(200,100)])) <| To ?_;cases h;exact Vr
 refine fN c1 <| Tq <| Tm <| Ts <| Tm <| bS h fun a2 h2 h=>rg L 216 [] [(1,.agg (E6 a2))] [] (Uq (Cj.ok h2)) <| iS h (fun c2 h=>?_) fun c2 h=>?_
 ·refine tT c2 <| Tm <| bS h fun a3 h3 h=>?_
  rcases a3 with a3 | a3
  ·dsimp only at h;refine qn L 222 [] [] [] 1 (T3 (.tup []) []) (Uh 59 a3) (Tu (Aw.okE h3)) ?_;cases h;exact rfl
  ·obtain ⟨f,g⟩:=a3;refine rg L 222 [] [] [(1,(T3 (.cv (.str f)) [(0,.raw (Ae g))]))] (Tu (Aw.okE h3)) <| Tm <| Tm <| bS h fun a4 h4 h=>rg L 226 [] [(1,.B a4)] [] (Uq (Fo.ok h4)) <| iS h (fun c3 h=>?_) fun c3 h=>?_
   ·refine tt c3 <| Tm <| bS h fun a5 h5 h=>?_
    rcases a5 with ⟨i,j⟩ | a5
    ·dsimp only at h;refine rg L 229 [] [] [(2,(T3 (.agg (Ag i)) [(0,.raw (Ae j))]))] (Tu (hR.Bt h5)) <| Tr (Tn.trans (Tn.kk [2] [0,200]) (Tn.rr [(0,0),(200,100)])) <| To ?_;cases h;exact Vr
    ·obtain ⟨a5,rfl⟩:∃ z,z=a5:=⟨_,rfl⟩
     refine qn L 229 [] [] [] 2 (T3 (.tup []) []) (Uh 59 a5) (Tu (hR.Bt h5)) ?_;cases h;exact rfl
   refine fN c3 <| Tq <| Tt L 234 <| Tr (Tn.trans (Tn.kk [2] [0,200]) (Tn.rr [(0,0),(200,100)])) <| To ?_;cases h;exact Vr
 refine fF c2 <| Tm ?_;obtain ⟨⟨k,l⟩,h6,h⟩:=bind_some h;refine rg L 238 [] [] [(1,(T3 (.B k) [(0,.raw (Ae l))]))] (Tu (Ao.okE h6)) <| iS h (fun c4 h=>?_) fun c4 h=>?_
 ·refine tt c4 <| Tm <| bS h fun a7 h7 h=>?_
  rcases a7 with ⟨m,n⟩ | a7
  ·dsimp only at h;refine rg L 242 [] [] [(3,(T3 (.cv (.ro .Af m)) [(0,.raw (Ae n))]))] (Tu (hR.Bp h7)) <| Tr (Tn.trans (Tn.kk [2] [0,200]) (Tn.rr [(0,0),(200,100)])) <| To ?_;cases h;exact Vr
  ·obtain ⟨a7,rfl⟩:∃ z,z=a7:=⟨_,rfl⟩
   refine qn L 242 [] [] [] 3 (T3 (.tup []) []) (Uh 59 a7) (Tu (hR.Bp h7)) ?_;cases h;exact rfl
 refine fN c4 <| Tm ?_;obtain ⟨⟨o,p⟩,h8,h⟩:=bind_some h;refine rg L 249 [] [] [(1,(T3 (.B o) [(0,.raw (Ae p))]))] (Tu (Ao.okE h8)) <| iS h (fun c5 h=>?_) fun c5 h=>?_
 ·refine tt c5 <| Tm <| bS h fun a9 h9 h=>?_
  rcases a9 with ⟨q,s⟩ | a9
  ·dsimp only at h;refine rg L 253 [] [] [(3,(T3 (.cv (.ro .Af q)) [(0,.raw (Ae s))]))] (Tu (hR.Ce h9)) <| Tr (Tn.trans (Tn.kk [2] [0,200]) (Tn.rr [(0,0),(200,100)])) <| To ?_;cases h;exact Vr
  ·obtain ⟨a9,rfl⟩:∃ z,z=a9:=⟨_,rfl⟩
   refine qn L 253 [] [] [] 3 (T3 (.tup []) []) (Uh 59 a9) (Tu (hR.Ce h9)) ?_;cases h;exact rfl
 refine fN c5 <| Tq <| Tm <| bS h fun a10 h10 h=>?_
 rcases a10 with a10 | a10
 ·dsimp only at h;refine rg L 260 [] [] [(1,(T3 (.tup []) [(0,.raw (Ae a10))]))] (Tu (Aq.okE h10)) <| Tm <| bS h fun a11 h11 h=>?_
  rcases a11 with a11 | a11
  ·dsimp only at h;refine qn L 263 [] [] [] 1 (T3 (.tup []) []) (Uh 59 a11) (Tu (hR.Ay h11)) ?_;cases h;exact rfl
  ·obtain ⟨a,b⟩:=a11;refine rg L 263 [] [] [(1,(T3 (.agg (Ag a)) [(0,.raw (Ae b))]))] (Tu (hR.Ay h11)) <| Tm <| bS h fun a12 h12 h=>?_
   rcases a12 with a12 | a12
   ·dsimp only at h;refine rg L 268 [] [] [(1,(T3 (.tup []) [(0,.raw (Ae a12))]))] (Tu (Aq.okE h12)) <| Tt L 271 <| Tr (Tn.trans (Tn.kk [2] [0,200]) (Tn.rr [(0,0),(200,100)])) <| To ?_;cases h;exact Vr
   ·obtain ⟨a12,rfl⟩:∃ z,z=a12:=⟨_,rfl⟩
    refine qn L 268 [] [] [] 1 (T3 (.tup []) []) (Uh 59 a12) (Tu (Aq.okE h12)) ?_;cases h;exact rfl
 ·obtain ⟨a10,rfl⟩:∃ z,z=a10:=⟨_,rfl⟩
  refine qn L 260 [] [] [] 1 (T3 (.tup []) []) (Uh 59 a10) (Tu (Aq.okE h10)) ?_;cases h;exact rfl
def Bh.l6 (K:Nat) (R:Ai):Nat→(List Av)→Int→Int→Ge→Int→Ge→(List Aa)→Option (Ty (Int ⊕ (Aa×Ab)) Unit)
 | 0,_,_,_,_,_,_,_=>none
 | k+1,g,h,a,b,c,d,e=>((Ao K ([46]:Ge) (⟨g,h⟩:Ab)).bind fun (o,j)=>(if o=true then ((Aw K j).bind fun a3=>match a3 with |(Sum.inl a3)=>some (Ty.done (Sum.inl a3)) |(Sum.inr (p,m))=>Bh.l6 K R k m.l m.i 29 p 0 [] ([(⟨a,b,c,d,e⟩:Aa)]:List Aa)) else ((Ao K ([91]:Ge) j).bind fun (q,n)=>(if q=true then ((R.Ay n).bind fun a5=>match a5 with |(Sum.inl a5)=>some (Ty.done (Sum.inl a5)) |(Sum.inr (f,r))=>((Dn K 28 ([(⟨a,b,c,d,e⟩:Aa),(⟨f.Op,f.Name,f.Int,f.Text,f.Kids⟩:Aa)]:List Aa)).bind fun a6=>((Aq K ([93]:Ge) r).bind fun a7=>match a7 with |(Sum.inl a7)=>Bh.l6 K R k a7.l a7.i a6.Op a6.Name a6.Int a6.Text a6.Kids |(Sum.inr a7)=>some (Ty.done (Sum.inl a7))))) else some (Ty.done (Sum.inr ((⟨a,b,c,d,e⟩:Aa),n)))))))
def Bh.F (K:Nat) (R:Ai) (p0:Ab):Option (Int ⊕ (Aa×Ab)):=((R.Ck p0).bind fun a1=>match a1 with |(Sum.inl (a,b))=>(Ub (Bh.l6 K R K b.l b.i a.Op a.Name a.Int a.Text a.Kids:Option (Ty (Int ⊕ (Aa×Ab)) Unit)) (fun r=>r) (fun _=>none)) |(Sum.inr a1)=>some (Sum.inl a1))
theorem Bh.body {Γ:Ue} {K:Nat} {R:Ai} (hR:R.Ok) {p0:Ab} {r:Int ⊕ (Aa×Ab)} (h:Bh.F K R p0=some r):Uc V P 25 100 Γ (Tryz.f206.body.getD .skip) (Ui P V Tryz.f206 (Bh.rep p0 r) (Bh.post p0 r)) ⟨T0 0 [.P 0],[(0,.raw (Ae p0))]⟩:=by
 unfold Bh.F at h;refine Tt L 200 <| Tm <| bS h fun a1 h1 h=>?_
 rcases a1 with ⟨m,n⟩ | a1
 ·dsimp only at h;refine rg L 202 [] [] [(1,(T3 (.agg (Ag m)) [(0,.raw (Ae n))]))] (Tu (hR.Ck h1)) <| Ts <| Tr (Tn.trans (Tn.kk [0,2,3] [0,200,204]) (Tn.rr [(0,0),(200,21300),(204,21301)])) <| kp (S':=⟨[(0,.P 0),(2,.P 21300),(3,.P 21301)],[(0,.raw (Ae n)),(21300,.raw [.I 0,.str [],.I 0,.str [],.N]),(21301,.raw (Ag m))]⟩) ?_;obtain ⟨o1,hp1,h⟩:=T7 h;refine Tx (Q':=fun e S=>False∨((e=.ret∨∃ ch,e=.panic ch)∧∃ a,Ty.done a=o1∧Ui P V Tryz.f206 (Bh.rep p0 a) (Bh.post p0 a) e S)) (T4 (fun k S=>∃ i:List Av,∃ j:Int,∃ b:Int,∃ c:Ge,∃ d:Int,∃ f:Ge,∃ g:List Aa,S=⟨[(0,.P 0),(2,.P 21300),(3,.P 21301)],[(0,.raw [.ro .Ap i,.I j]),(21300,.raw [.I 0,.str [],.I 0,.str [],.N]),(21301,.raw [.I b,.str c,.I d,.str f,.ro .Af g])]⟩∧Bh.l6 K R k i j b c d f g=some o1) ?_ ⟨_,_,_,_,_,_,_,rfl,hp1⟩) ?_
  ·clear h hp1;intro k S hS;obtain ⟨i,j,b,c,d,f,g,rfl,h⟩:=hS;cases k with
   | zero=>cases h
   | succ k =>
   unfold Bh.l6 at h;refine Ts <| Ts <| Tm ?_;obtain ⟨⟨q,s⟩,h2,h⟩:=bind_some h;refine rg L 207 [] [] [(1,(T3 (.B q) [(0,.raw (Ae s))]))] (Tu (Ao.okE h2)) <| iS h (fun c1 h=>?_) fun c1 h=>?_
   ·refine tt c1 <| bS h fun a3 h3 h=>?_
    rcases a3 with a3 | a3
    ·dsimp only at h;refine qP L mixed 211 [] [] [] [0] 1 (T3 (.tup []) []) (Uh 59 a3) (Tp (Aw.okE h3) (Tp (Aw.okE h3) (Tu (Aw.okE h3)))) ?_;cases h;exact .inr ⟨.inr ⟨_,rfl⟩,_,rfl,rfl⟩
    ·obtain ⟨o,p⟩:=a3;exact hB L mixed 211 [] [] [(1,(T3 (.cv (.str o)) [(0,.raw (Ae p))]))] [0] 3 (Tp (Aw.okE h3) (Tp (Aw.okE h3) (Tu (Aw.okE h3)))) (S':=⟨[(0,.P 0),(2,.P 21300),(3,.P 21301)],[(0,.raw (Ae p)),(21300,.raw [.I 0,.str [],.I 0,.str [],.N]),(21301,.raw [.I 29,.str o,.I 0,.str [],.ro .Af ([(⟨b,c,d,f,g⟩:Aa)]:List Aa)])]⟩) <|⟨k,Nat.lt_succ_self k,_,_,_,_,_,_,_,rfl,h⟩
   refine fN c1 <| Tm ?_;obtain ⟨⟨t,u⟩,h4,h⟩:=bind_some h;refine rg L 218 [] [] [(1,(T3 (.B t) [(0,.raw (Ae u))]))] (Tu (Ao.okE h4)) <| iS h (fun c2 h=>?_) fun c2 h=>?_
   ·refine tt c2 <| Tm <| bS h fun a5 h5 h=>?_
    rcases a5 with a5 | a5
    ·dsimp only at h;refine qP L mixed 222 [] [] [] [1] 2 (T3 (.tup []) []) (Uh 59 a5) (Ur (hR.Ay h5) (hR.Ay h5)) ?_;cases h;exact .inr ⟨.inr ⟨_,rfl⟩,_,rfl,rfl⟩
    ·obtain ⟨v,l⟩:=a5;refine bS h fun a6 h6 h=>hB L mixed 222 [] [(4,.agg (Ag a6))] [(2,(T3 (.agg (Ag v)) [(0,.raw (Ae l))]))] [1] 2 (Tp (hR.Ay h5) (Tp (Dn.ok h6) (Tp trivial (Tp (hR.Ay h5) (Tp (Dn.ok h6) (Tu trivial)))))) (S':=⟨[(0,.P 0),(2,.P 21300),(3,.P 21301)],[(0,.raw (Ae l)),(21300,.raw [.I 0,.str [],.I 0,.str [],.N]),(21301,.raw (Ag a6))]⟩) <| bS h fun a7 h7 h=>?_
     rcases a7 with a7 | a7
     ·dsimp only at h;exact ar L 229 [] [] [(1,(T3 (.tup []) [(0,.raw (Ae a7))]))] (cs:=[T1 V P 65 [.P 0,.cv (.str ([93]:Ge))] [(0,.raw (Ae l))] [0] (.tup []) [(0,.raw (Ae a7))]]) (S':=⟨[(0,.P 0),(2,.P 21300),(3,.P 21301)],[(0,.raw (Ae a7)),(21300,.raw [.I 0,.str [],.I 0,.str [],.N]),(21301,.raw (Ag a6))]⟩) (Aq.okE h7) <|⟨k,Nat.lt_succ_self k,_,_,_,_,_,_,_,rfl,h⟩
     ·obtain ⟨a7,rfl⟩:∃ z,z=a7:=⟨_,rfl⟩
      refine qn L 229 [] [] [] 1 (T3 (.tup []) []) (Uh 59 a7) (Tu (Aq.okE h7)) ?_;cases h;exact .inr ⟨.inr ⟨_,rfl⟩,_,rfl,rfl⟩
   refine fN c2 <| Tt L 232 <| Tr (Tn.trans (Tn.kk [2] [0,21300]) (Tn.rr [(0,0),(21300,100)])) <| To ?_;cases h;exact .inr ⟨.inl rfl,_,rfl,Vr⟩
  ·rintro e S (hf |⟨he,a,rfl,hr⟩)
   ·exact hf.elim
   ·rcases h with ⟨_,e1,h⟩ |⟨_,e1,h⟩
    ·have e2:=Ty.done.inj e1;subst e2;subst h;rcases he with rfl |⟨ch,rfl⟩
     ·exact ⟨_,Tn.refl,hr⟩
     ·exact ⟨_,Tn.refl,hr⟩
    ·cases e1
 ·obtain ⟨a1,rfl⟩:∃ z,z=a1:=⟨_,rfl⟩
  refine qn L 202 [] [] [] 1 (T3 (.tup []) []) (Uh 59 a1) (Tu (hR.Ck h1)) ?_;cases h;exact rfl
def Bg.F (K:Nat) (R:Ai) (p0:Ab):Option (Int ⊕ (Aa×Ab)):=((Ao K ([45]:Ge) p0).bind fun (h,c)=>(if h=true then ((R.Bg c).bind fun a2=>match a2 with |(Sum.inl a2)=>some (Sum.inl a2) |(Sum.inr (a,i))=>((Dn K 14 ([(⟨a.Op,a.Name,a.Int,a.Text,a.Kids⟩:Aa)]:List Aa)).bind fun a3=>some (Sum.inr (a3,i)))) else ((Ao K ([97,119,97,105,116]:Ge) c).bind fun (j,d)=>(if j=true then ((R.Bg d).bind fun a5=>match a5 with |(Sum.inl a5)=>some (Sum.inl a5) |(Sum.inr (b,k))=>((Dn K 12 ([(⟨b.Op,b.Name,b.Int,b.Text,b.Kids⟩:Aa)]:List Aa)).bind fun a6=>some (Sum.inr (a6,k)))) else ((Ao K ([103,111]:Ge) d).bind fun (l,e)=>(if l=true then ((Aw K e).bind fun a8=>match a8 with |(Sum.inl a8)=>some (Sum.inl a8) |(Sum.inr (m,n))=>((R.Bt 11 m n).bind fun a9=>match a9 with |(Sum.inl (o,p))=>some (Sum.inr (o,p)) |(Sum.inr a9)=>some (Sum.inl a9))) else ((R.Bh e).bind fun a10=>match a10 with |(Sum.inl a10)=>some (Sum.inl a10) |(Sum.inr (f,g))=>some (Sum.inr (f,g)))))))))
theorem Bg.body {Γ:Ue} {K:Nat} {R:Ai} (hR:R.Ok) {p0:Ab} {r:Int ⊕ (Aa×Ab)} (h:Bg.F K R p0=some r):Uc V P 26 100 Γ (Tryz.f192.body.getD .skip) (Ui P V Tryz.f192 (Bg.rep p0 r) (Bg.post p0 r)) ⟨T0 0 [.P 0],[(0,.raw (Ae p0))]⟩:=by
 unfold Bg.F at h;refine Tt L 200 <| Tm <| Ts <| Tm ?_;obtain ⟨⟨e,f⟩,h1,h⟩:=bind_some h;refine rg L 202 [] [] [(1,(T3 (.B e) [(0,.raw (Ae f))]))] (Tu (Ao.okE h1)) <| iS h (fun c1 h=>?_) fun c1 h=>?_
 ·refine tt c1 <| Tm <| bS h fun a2 h2 h=>?_
  rcases a2 with a2 | a2
  ·dsimp only at h;refine qn L 206 [] [] [] 1 (T3 (.tup []) []) (Uh 59 a2) (Tu (hR.Bg h2)) ?_;cases h;exact rfl
  ·obtain ⟨g,i⟩:=a2;refine bS h fun a3 h3 h=>rg L 206 [] [(3,.agg (Ag a3))] [(1,(T3 (.agg (Ag g)) [(0,.raw (Ae i))]))] (Tp (hR.Bg h2) (Tp (Dn.ok h3) (Tu trivial))) <| Tr (Tn.trans (Tn.kk [2] [0,200]) (Tn.rr [(0,0),(200,100)])) <| To ?_
   cases h;exact Vr
 refine fN c1 <| Tm ?_;obtain ⟨⟨j,k⟩,h4,h⟩:=bind_some h;refine rg L 212 [] [] [(1,(T3 (.B j) [(0,.raw (Ae k))]))] (Tu (Ao.okE h4)) <| iS h (fun c2 h=>?_) fun c2 h=>?_
 ·refine tt c2 <| Tm <| bS h fun a5 h5 h=>?_
  rcases a5 with a5 | a5
  ·dsimp only at h;refine qn L 216 [] [] [] 1 (T3 (.tup []) []) (Uh 59 a5) (Tu (hR.Bg h5)) ?_;cases h;exact rfl
  ·obtain ⟨l,m⟩:=a5;refine bS h fun a6 h6 h=>rg L 216 [] [(3,.agg (Ag a6))] [(1,(T3 (.agg (Ag l)) [(0,.raw (Ae m))]))] (Tp (hR.Bg h5) (Tp (Dn.ok h6) (Tu trivial))) <| Tr (Tn.trans (Tn.kk [2] [0,200]) (Tn.rr [(0,0),(200,100)])) <| To ?_
   cases h;exact Vr
 refine fN c2 <| Tm ?_;obtain ⟨⟨n,o⟩,h7,h⟩:=bind_some h;refine rg L 222 [] [] [(1,(T3 (.B n) [(0,.raw (Ae o))]))] (Tu (Ao.okE h7)) <| iS h (fun c3 h=>?_) fun c3 h=>?_
 ·refine tt c3 <| Tm <| bS h fun a8 h8 h=>?_
  rcases a8 with a8 | a8
  ·dsimp only at h;refine qn L 226 [] [] [] 2 (T3 (.tup []) []) (Uh 59 a8) (Tu (Aw.okE h8)) ?_;cases h;exact rfl
  ·obtain ⟨a,b⟩:=a8;refine bS h fun a9 h9 h=>?_
   rcases a9 with ⟨p,q⟩ | a9
   ·dsimp only at h;refine rg L 226 [] [] [(2,(T3 (.cv (.str a)) [(0,.raw (Ae b))])),(3,(T3 (.agg (Ag p)) [(0,.raw (Ae q))]))] (Ur (Aw.okE h8) (hR.Bt h9)) <| Tr (Tn.trans (Tn.kk [2] [0,200]) (Tn.rr [(0,0),(200,100)])) <| To ?_;cases h;exact Vr
   ·obtain ⟨a9,rfl⟩:∃ z,z=a9:=⟨_,rfl⟩
    refine qn L 226 [] [] [(2,(T3 (.cv (.str a)) [(0,.raw (Ae b))]))] 3 (T3 (.tup []) []) (Uh 59 a9) (Ur (Aw.okE h8) (hR.Bt h9)) ?_;cases h;exact rfl
 refine fN c3 <| Tq <| Tm <| bS h fun a10 h10 h=>?_
 rcases a10 with a10 | a10
 ·dsimp only at h;refine qn L 232 [] [] [] 1 (T3 (.tup []) []) (Uh 59 a10) (Tu (hR.Bh h10)) ?_;cases h;exact rfl
 ·obtain ⟨c,d⟩:=a10;refine rg L 232 [] [] [(1,(T3 (.agg (Ag c)) [(0,.raw (Ae d))]))] (Tu (hR.Bh h10)) <| Tr (Tn.trans (Tn.kk [2] [0,200]) (Tn.rr [(0,0),(200,100)])) <| To ?_;cases h;exact Vr
def B6.l6 (K:Nat) (R:Ai) (p0:List Ge) (p1:List Int):Nat→(List Av)→Int→Int→Ge→Int→Ge→(List Aa)→Option (Ty (Int ⊕ (Aa×Ab)) Unit)
 | 0,_,_,_,_,_,_,_=>none
 | k+1,g,h,a,b,c,d,e=>((Dg K p0 p1 (⟨g,h⟩:Ab)).bind fun (n,o,j)=>(if o=true then ((R.Bg j).bind fun a3=>match a3 with |(Sum.inl a3)=>some (Ty.done (Sum.inl a3)) |(Sum.inr (f,m))=>((Dn K n ([(⟨a,b,c,d,e⟩:Aa),(⟨f.Op,f.Name,f.Int,f.Text,f.Kids⟩:Aa)]:List Aa)).bind fun a4=>B6.l6 K R p0 p1 k m.l m.i a4.Op a4.Name a4.Int a4.Text a4.Kids)) else some (Ty.done (Sum.inr ((⟨a,b,c,d,e⟩:Aa),j)))))
def B6.F (K:Nat) (R:Ai) (p0:List Ge) (p1:List Int) (p2:Ab):Option (Int ⊕ (Aa×Ab)):=((R.Bg p2).bind fun a1=>match a1 with |(Sum.inl a1)=>some (Sum.inl a1) |(Sum.inr (a,b))=>(Ub (B6.l6 K R p0 p1 K b.l b.i a.Op a.Name a.Int a.Text a.Kids:Option (Ty (Int ⊕ (Aa×Ab)) Unit)) (fun r=>r) (fun _=>none)))
theorem B6.body {Γ:Ue} {K:Nat} {R:Ai} (hR:R.Ok) {p0:List Ge} {p1:List Int} {p2:Ab} {r:Int ⊕ (Aa×Ab)} (h:B6.F K R p0 p1 p2=some r):Uc V P 30 100 Γ (Tryz.f71.body.getD .skip) (Ui P V Tryz.f71 (B6.rep p0 p1 p2 r) (B6.post p0 p1 p2 r)) ⟨T0 0 [.P 0,.cv (.fn (.func 192) [.P 0] []),.cv (.ro .Dr p0),.cv (.ro .Gz p1)],[(0,.raw (Ae p2))]⟩:=by
 unfold B6.F at h;refine Tt L 200 <| Tm <| bS h fun a1 h1 h=>?_
 rcases a1 with a1 | a1
 ·dsimp only at h;refine qn L 202 [] [] [] 1 (T3 (.tup []) []) (Uh 59 a1) (Tu (hR.Bg h1)) ?_;cases h;exact rfl
 ·obtain ⟨n,o⟩:=a1;refine rg L 202 [] [] [(1,(T3 (.agg (Ag n)) [(0,.raw (Ae o))]))] (Tu (hR.Bg h1)) <| Ts <| Tr (Tn.trans (Tn.kk [0,1,2,3,8,9] [0,200,204]) (Tn.rr [(0,0),(200,21300),(204,21301)])) <| kp (S':=⟨[(0,.P 0),(1,.cv (.fn (.func 192) [.P 0] [])),(2,.cv (.ro .Dr p0)),(3,.cv (.ro .Gz p1)),(8,.P 21300),(9,.P 21301)],[(0,.raw (Ae o)),(21300,.raw [.I 0,.str [],.I 0,.str [],.N]),(21301,.raw (Ag n))]⟩) ?_;obtain ⟨o1,hp1,h⟩:=T7 h;refine Tx (Q':=fun e S=>False∨((e=.ret∨∃ ch,e=.panic ch)∧∃ a,Ty.done a=o1∧Ui P V Tryz.f71 (B6.rep p0 p1 p2 a) (B6.post p0 p1 p2 a) e S)) (T4 (fun k S=>∃ c:List Av,∃ d:Int,∃ f:Int,∃ g:Ge,∃ i:Int,∃ j:Ge,∃ l:List Aa,S=⟨[(0,.P 0),(1,.cv (.fn (.func 192) [.P 0] [])),(2,.cv (.ro .Dr p0)),(3,.cv (.ro .Gz p1)),(8,.P 21300),(9,.P 21301)],[(0,.raw [.ro .Ap c,.I d]),(21300,.raw [.I 0,.str [],.I 0,.str [],.N]),(21301,.raw [.I f,.str g,.I i,.str j,.ro .Af l])]⟩∧B6.l6 K R p0 p1 k c d f g i j l=some o1) ?_ ⟨_,_,_,_,_,_,_,rfl,hp1⟩) ?_
  ·clear h hp1;intro k S hS;obtain ⟨c,d,f,g,i,j,l,rfl,h⟩:=hS;cases k with
   | zero=>cases h
   | succ k =>
   unfold B6.l6 at h;refine Ts <| Tm ?_;obtain ⟨⟨q,m,s⟩,h2,h⟩:=bind_some h;refine rg L 207 [] [] [(3,(T3 (.tup [.I q,.B m]) [(0,.raw (Ae s))]))] (Tu (Dg.okE h2)) <| Tm <| Tt L 217 <| iS h (fun c1 h=>?_) fun c1 h=>?_
   ·refine ff (b:=(!m)) (congrArg Bool.not (c1)) <| Tq <| bS h fun a3 h3 h=>?_
    rcases a3 with a3 | a3
    ·dsimp only at h;refine qP L mixed 223 [] [] [] [0,2] 3 (T3 (.tup []) []) (Uh 59 a3) (Ur (hR.Bg h3) (hR.Bg h3)) ?_;cases h;exact .inr ⟨.inr ⟨_,rfl⟩,_,rfl,rfl⟩
    ·obtain ⟨t,p⟩:=a3;exact bS h fun a4 h4 h=>hB L mixed 223 [] [(5,.agg (Ag a4))] [(3,(T3 (.agg (Ag t)) [(0,.raw (Ae p))]))] [0,2] 2 (Tp (hR.Bg h3) (Tp (Dn.ok h4) (Tp trivial (Tp (hR.Bg h3) (Tp (Dn.ok h4) (Tu trivial)))))) (S':=⟨[(0,.P 0),(1,.cv (.fn (.func 192) [.P 0] [])),(2,.cv (.ro .Dr p0)),(3,.cv (.ro .Gz p1)),(8,.P 21300),(9,.P 21301)],[(0,.raw (Ae p)),(21300,.raw [.I 0,.str [],.I 0,.str [],.N]),(21301,.raw (Ag a4))]⟩) <|⟨k,Nat.lt_succ_self k,_,_,_,_,_,_,_,rfl,h⟩
   refine tt (b:=(!m)) (congrArg Bool.not (Xs c1)) <| Tt L 220 <| Tr (Tn.trans (Tn.kk [8] [0,21300]) (Tn.rr [(0,0),(21300,100)])) <| To ?_;cases h;exact .inr ⟨.inl rfl,_,rfl,Vr⟩
  ·rintro e S (hf |⟨he,a,rfl,hr⟩)
   ·exact hf.elim
   ·rcases h with ⟨_,e1,h⟩ |⟨_,e1,h⟩
    ·have e2:=Ty.done.inj e1;subst e2;subst h;rcases he with rfl |⟨ch,rfl⟩
     ·exact ⟨_,Tn.refl,hr⟩
     ·exact ⟨_,Tn.refl,hr⟩
    ·cases e1
def Bw.F (K:Nat) (R:Ai) (p0:Ab):Option (Int ⊕ (Aa×Ab)):=((R.B6 ([([42]:Ge),([47]:Ge),([37]:Ge)]:List Ge) ([15,16,17]:List Int) p0).bind fun a1=>match a1 with |(Sum.inl a1)=>some (Sum.inl a1) |(Sum.inr (a,b))=>some (Sum.inr (a,b)))
theorem Bw.body {Γ:Ue} {K:Nat} {R:Ai} (hR:R.Ok) {p0:Ab} {r:Int ⊕ (Aa×Ab)} (h:Bw.F K R p0=some r):Uc V P 9 100 Γ (Tryz.f173.body.getD .skip) (Ui P V Tryz.f173 (Bw.rep p0 r) (Bw.post p0 r)) ⟨T0 0 [.P 0],[(0,.raw (Ae p0))]⟩:=by
 unfold Bw.F at h;refine Tt L 200 <| Tm <| bS h fun a1 h1 h=>?_
 rcases a1 with a1 | a1
 ·dsimp only at h;refine qn L 202 [] [] [] 5 (T3 (.tup []) []) (Uh 59 a1) (Tu (hR.B6 h1)) ?_;cases h;exact rfl
 ·obtain ⟨a,b⟩:=a1;refine rg L 202 [] [] [(5,(T3 (.agg (Ag a)) [(0,.raw (Ae b))]))] (Tu (hR.B6 h1)) <| Tr (Tn.trans (Tn.kk [2] [0,200]) (Tn.rr [(0,0),(200,100)])) <| To ?_;cases h;exact Vr
def B5.l6 (K:Nat) (R:Ai) (p0:List Ge) (p1:List Int):Nat→(List Av)→Int→Int→Ge→Int→Ge→(List Aa)→Option (Ty (Int ⊕ (Aa×Ab)) Unit)
 | 0,_,_,_,_,_,_,_=>none
 | k+1,g,h,a,b,c,d,e=>((Dg K p0 p1 (⟨g,h⟩:Ab)).bind fun (n,o,j)=>(if o=true then ((R.Bw j).bind fun a3=>match a3 with |(Sum.inl a3)=>some (Ty.done (Sum.inl a3)) |(Sum.inr (f,m))=>((Dn K n ([(⟨a,b,c,d,e⟩:Aa),(⟨f.Op,f.Name,f.Int,f.Text,f.Kids⟩:Aa)]:List Aa)).bind fun a4=>B5.l6 K R p0 p1 k m.l m.i a4.Op a4.Name a4.Int a4.Text a4.Kids)) else some (Ty.done (Sum.inr ((⟨a,b,c,d,e⟩:Aa),j)))))
def B5.F (K:Nat) (R:Ai) (p0:List Ge) (p1:List Int) (p2:Ab):Option (Int ⊕ (Aa×Ab)):=((R.Bw p2).bind fun a1=>match a1 with |(Sum.inl a1)=>some (Sum.inl a1) |(Sum.inr (a,b))=>(Ub (B5.l6 K R p0 p1 K b.l b.i a.Op a.Name a.Int a.Text a.Kids:Option (Ty (Int ⊕ (Aa×Ab)) Unit)) (fun r=>r) (fun _=>none)))
theorem B5.body {Γ:Ue} {K:Nat} {R:Ai} (hR:R.Ok) {p0:List Ge} {p1:List Int} {p2:Ab} {r:Int ⊕ (Aa×Ab)} (h:B5.F K R p0 p1 p2=some r):Uc V P 30 100 Γ (Tryz.f71.body.getD .skip) (Ui P V Tryz.f71 (B5.rep p0 p1 p2 r) (B5.post p0 p1 p2 r)) ⟨T0 0 [.P 0,.cv (.fn (.func 173) [.P 0] []),.cv (.ro .Dr p0),.cv (.ro .Gz p1)],[(0,.raw (Ae p2))]⟩:=by
 unfold B5.F at h;refine Tt L 200 <| Tm <| bS h fun a1 h1 h=>?_
 rcases a1 with a1 | a1
 ·dsimp only at h;refine qn L 202 [] [] [] 1 (T3 (.tup []) []) (Uh 59 a1) (Tu (hR.Bw h1)) ?_;cases h;exact rfl
 ·obtain ⟨n,o⟩:=a1;refine rg L 202 [] [] [(1,(T3 (.agg (Ag n)) [(0,.raw (Ae o))]))] (Tu (hR.Bw h1)) <| Ts <| Tr (Tn.trans (Tn.kk [0,1,2,3,8,9] [0,200,204]) (Tn.rr [(0,0),(200,21300),(204,21301)])) <| kp (S':=⟨[(0,.P 0),(1,.cv (.fn (.func 173) [.P 0] [])),(2,.cv (.ro .Dr p0)),(3,.cv (.ro .Gz p1)),(8,.P 21300),(9,.P 21301)],[(0,.raw (Ae o)),(21300,.raw [.I 0,.str [],.I 0,.str [],.N]),(21301,.raw (Ag n))]⟩) ?_;obtain ⟨o1,hp1,h⟩:=T7 h;refine Tx (Q':=fun e S=>False∨((e=.ret∨∃ ch,e=.panic ch)∧∃ a,Ty.done a=o1∧Ui P V Tryz.f71 (B5.rep p0 p1 p2 a) (B5.post p0 p1 p2 a) e S)) (T4 (fun k S=>∃ c:List Av,∃ d:Int,∃ f:Int,∃ g:Ge,∃ i:Int,∃ j:Ge,∃ l:List Aa,S=⟨[(0,.P 0),(1,.cv (.fn (.func 173) [.P 0] [])),(2,.cv (.ro .Dr p0)),(3,.cv (.ro .Gz p1)),(8,.P 21300),(9,.P 21301)],[(0,.raw [.ro .Ap c,.I d]),(21300,.raw [.I 0,.str [],.I 0,.str [],.N]),(21301,.raw [.I f,.str g,.I i,.str j,.ro .Af l])]⟩∧B5.l6 K R p0 p1 k c d f g i j l=some o1) ?_ ⟨_,_,_,_,_,_,_,rfl,hp1⟩) ?_
  ·clear h hp1;intro k S hS;obtain ⟨c,d,f,g,i,j,l,rfl,h⟩:=hS;cases k with
   | zero=>cases h
   | succ k =>
   unfold B5.l6 at h;refine Ts <| Tm ?_;obtain ⟨⟨q,m,s⟩,h2,h⟩:=bind_some h;refine rg L 207 [] [] [(3,(T3 (.tup [.I q,.B m]) [(0,.raw (Ae s))]))] (Tu (Dg.okE h2)) <| Tm <| Tt L 217 <| iS h (fun c1 h=>?_) fun c1 h=>?_
   ·refine ff (b:=(!m)) (congrArg Bool.not (c1)) <| Tq <| bS h fun a3 h3 h=>?_
    rcases a3 with a3 | a3
    ·dsimp only at h;refine qP L mixed 223 [] [] [] [0,2] 3 (T3 (.tup []) []) (Uh 59 a3) (Ur (hR.Bw h3) (hR.Bw h3)) ?_;cases h;exact .inr ⟨.inr ⟨_,rfl⟩,_,rfl,rfl⟩
    ·obtain ⟨t,p⟩:=a3;exact bS h fun a4 h4 h=>hB L mixed 223 [] [(5,.agg (Ag a4))] [(3,(T3 (.agg (Ag t)) [(0,.raw (Ae p))]))] [0,2] 2 (Tp (hR.Bw h3) (Tp (Dn.ok h4) (Tp trivial (Tp (hR.Bw h3) (Tp (Dn.ok h4) (Tu trivial)))))) (S':=⟨[(0,.P 0),(1,.cv (.fn (.func 173) [.P 0] [])),(2,.cv (.ro .Dr p0)),(3,.cv (.ro .Gz p1)),(8,.P 21300),(9,.P 21301)],[(0,.raw (Ae p)),(21300,.raw [.I 0,.str [],.I 0,.str [],.N]),(21301,.raw (Ag a4))]⟩) <|⟨k,Nat.lt_succ_self k,_,_,_,_,_,_,_,rfl,h⟩
   refine tt (b:=(!m)) (congrArg Bool.not (Xs c1)) <| Tt L 220 <| Tr (Tn.trans (Tn.kk [8] [0,21300]) (Tn.rr [(0,0),(21300,100)])) <| To ?_;cases h;exact .inr ⟨.inl rfl,_,rfl,Vr⟩
  ·rintro e S (hf |⟨he,a,rfl,hr⟩)
   ·exact hf.elim
   ·rcases h with ⟨_,e1,h⟩ |⟨_,e1,h⟩
    ·have e2:=Ty.done.inj e1;subst e2;subst h;rcases he with rfl |⟨ch,rfl⟩
     ·exact ⟨_,Tn.refl,hr⟩
     ·exact ⟨_,Tn.refl,hr⟩
    ·cases e1
def Cx.F (K:Nat) (R:Ai) (p0:Ab):Option (Int ⊕ (Aa×Ab)):=((R.B5 ([([43]:Ge),([45]:Ge)]:List Ge) ([18,19]:List Int) p0).bind fun a1=>match a1 with |(Sum.inl a1)=>some (Sum.inl a1) |(Sum.inr (a,b))=>some (Sum.inr (a,b)))
theorem Cx.body {Γ:Ue} {K:Nat} {R:Ai} (hR:R.Ok) {p0:Ab} {r:Int ⊕ (Aa×Ab)} (h:Cx.F K R p0=some r):Uc V P 9 100 Γ (Tryz.f148.body.getD .skip) (Ui P V Tryz.f148 (Cx.rep p0 r) (Cx.post p0 r)) ⟨T0 0 [.P 0],[(0,.raw (Ae p0))]⟩:=by
 unfold Cx.F at h;refine Tt L 200 <| Tm <| bS h fun a1 h1 h=>?_
 rcases a1 with a1 | a1
 ·dsimp only at h;refine qn L 202 [] [] [] 5 (T3 (.tup []) []) (Uh 59 a1) (Tu (hR.B5 h1)) ?_;cases h;exact rfl
 ·obtain ⟨a,b⟩:=a1;refine rg L 202 [] [] [(5,(T3 (.agg (Ag a)) [(0,.raw (Ae b))]))] (Tu (hR.B5 h1)) <| Tr (Tn.trans (Tn.kk [2] [0,200]) (Tn.rr [(0,0),(200,100)])) <| To ?_;cases h;exact Vr
def Cg.F (K:Nat) (R:Ai) (p0:Ab):Option (Int ⊕ (Aa×Ab)):=((Ao K ([110,111,116]:Ge) p0).bind fun (f,d)=>(if f=true then ((R.Cg d).bind fun a2=>match a2 with |(Sum.inl a2)=>some (Sum.inl a2) |(Sum.inr (b,g))=>((Dn K 13 ([(⟨b.Op,b.Name,b.Int,b.Text,b.Kids⟩:Aa)]:List Aa)).bind fun a3=>some (Sum.inr (a3,g)))) else ((R.Cx d).bind fun a4=>match a4 with |(Sum.inl a4)=>some (Sum.inl a4) |(Sum.inr (a,h))=>((Dg K ([([60]:Ge),([60,61]:Ge),([62]:Ge),([62,61]:Ge),([61,61]:Ge),([33,61]:Ge)]:List Ge) ([20,21,22,23,24,25]:List Int) h).bind fun (i,j,e)=>(if j=true then ((R.Cx e).bind fun a6=>match a6 with |(Sum.inl a6)=>some (Sum.inl a6) |(Sum.inr (c,k))=>((Dn K i ([(⟨a.Op,a.Name,a.Int,a.Text,a.Kids⟩:Aa),(⟨c.Op,c.Name,c.Int,c.Text,c.Kids⟩:Aa)]:List Aa)).bind fun a7=>some (Sum.inr (a7,k)))) else some (Sum.inr (a,e)))))))
theorem Cg.body {Γ:Ue} {K:Nat} {R:Ai} (hR:R.Ok) {p0:Ab} {r:Int ⊕ (Aa×Ab)} (h:Cg.F K R p0=some r):Uc V P 29 100 Γ (Tryz.f111.body.getD .skip) (Ui P V Tryz.f111 (Cg.rep p0 r) (Cg.post p0 r)) ⟨T0 0 [.P 0],[(0,.raw (Ae p0))]⟩:=by
 unfold Cg.F at h;refine Tt L 200 <| Tm <| Tm ?_;obtain ⟨⟨b,c⟩,h1,h⟩:=bind_some h;refine rg L 202 [] [] [(1,(T3 (.B b) [(0,.raw (Ae c))]))] (Tu (Ao.okE h1)) <| iS h (fun c1 h=>?_) fun c1 h=>?_
 ·refine tt c1 <| Tm <| bS h fun a2 h2 h=>?_
  rcases a2 with a2 | a2
  ·dsimp only at h;refine qn L 205 [] [] [] 1 (T3 (.tup []) []) (Uh 59 a2) (Tu (hR.Cg h2)) ?_;cases h;exact rfl
  ·obtain ⟨d,e⟩:=a2;refine bS h fun a3 h3 h=>rg L 205 [] [(3,.agg (Ag a3))] [(1,(T3 (.agg (Ag d)) [(0,.raw (Ae e))]))] (Tp (hR.Cg h2) (Tp (Dn.ok h3) (Tu trivial))) <| Tr (Tn.trans (Tn.kk [2] [0,200]) (Tn.rr [(0,0),(200,100)])) <| To ?_
   cases h;exact Vr
 refine fN c1 <| Tq <| Tm <| bS h fun a4 h4 h=>?_
 rcases a4 with a4 | a4
 ·dsimp only at h;refine qn L 211 [] [] [] 1 (T3 (.tup []) []) (Uh 59 a4) (Tu (hR.Cx h4)) ?_;cases h;exact rfl
 ·obtain ⟨f,g⟩:=a4;refine rg L 211 [] [] [(1,(T3 (.agg (Ag f)) [(0,.raw (Ae g))]))] (Tu (hR.Cx h4)) <| Tm <| Tm ?_;obtain ⟨⟨i,j,k⟩,h5,h⟩:=bind_some h;refine rg L 216 [] [] [(3,(T3 (.tup [.I i,.B j]) [(0,.raw (Ae k))]))] (Tu (Dg.okE h5)) <| Tt L 226 <| iS h (fun c2 h=>?_) fun c2 h=>?_
  ·refine tt c2 <| Tm <| bS h fun a6 h6 h=>?_
   rcases a6 with a6 | a6
   ·dsimp only at h;refine qP L mixed 228 [] [] [] [0,2] 3 (T3 (.tup []) []) (Uh 59 a6) (Ur (hR.Cx h6) (hR.Cx h6)) ?_;cases h;exact rfl
   ·obtain ⟨l,a⟩:=a6;refine bS h fun a7 h7 h=>hB L mixed 228 [] [(5,.agg (Ag a7))] [(3,(T3 (.agg (Ag l)) [(0,.raw (Ae a))]))] [0,2] 2 (Tp (hR.Cx h6) (Tp (Dn.ok h7) (Tp trivial (Tp (hR.Cx h6) (Tp (Dn.ok h7) (Tu trivial)))))) (S':=⟨[(2,.P 200)],[(0,.raw (Ae a)),(200,.raw (Ag a7))]⟩) <| Tr (Tn.trans (Tn.kk [2] [0,200]) (Tn.rr [(0,0),(200,100)])) <| To ?_
    cases h;exact Vr
  refine fN c2 <| Tq <| Tt L 236 <| Tr (Tn.trans (Tn.kk [2] [0,200]) (Tn.rr [(0,0),(200,100)])) <| To ?_;cases h;exact Vr
def B4.l6 (K:Nat) (R:Ai) (p0:List Ge) (p1:List Int):Nat→(List Av)→Int→Int→Ge→Int→Ge→(List Aa)→Option (Ty (Int ⊕ (Aa×Ab)) Unit)
 | 0,_,_,_,_,_,_,_=>none
 | k+1,g,h,a,b,c,d,e=>((Dg K p0 p1 (⟨g,h⟩:Ab)).bind fun (n,o,j)=>(if o=true then ((R.Cg j).bind fun a3=>match a3 with |(Sum.inl a3)=>some (Ty.done (Sum.inl a3)) |(Sum.inr (f,m))=>((Dn K n ([(⟨a,b,c,d,e⟩:Aa),(⟨f.Op,f.Name,f.Int,f.Text,f.Kids⟩:Aa)]:List Aa)).bind fun a4=>B4.l6 K R p0 p1 k m.l m.i a4.Op a4.Name a4.Int a4.Text a4.Kids)) else some (Ty.done (Sum.inr ((⟨a,b,c,d,e⟩:Aa),j)))))
def B4.F (K:Nat) (R:Ai) (p0:List Ge) (p1:List Int) (p2:Ab):Option (Int ⊕ (Aa×Ab)):=((R.Cg p2).bind fun a1=>match a1 with |(Sum.inl a1)=>some (Sum.inl a1) |(Sum.inr (a,b))=>(Ub (B4.l6 K R p0 p1 K b.l b.i a.Op a.Name a.Int a.Text a.Kids:Option (Ty (Int ⊕ (Aa×Ab)) Unit)) (fun r=>r) (fun _=>none)))
theorem B4.body {Γ:Ue} {K:Nat} {R:Ai} (hR:R.Ok) {p0:List Ge} {p1:List Int} {p2:Ab} {r:Int ⊕ (Aa×Ab)} (h:B4.F K R p0 p1 p2=some r):Uc V P 30 100 Γ (Tryz.f71.body.getD .skip) (Ui P V Tryz.f71 (B4.rep p0 p1 p2 r) (B4.post p0 p1 p2 r)) ⟨T0 0 [.P 0,.cv (.fn (.func 111) [.P 0] []),.cv (.ro .Dr p0),.cv (.ro .Gz p1)],[(0,.raw (Ae p2))]⟩:=by
 unfold B4.F at h;refine Tt L 200 <| Tm <| bS h fun a1 h1 h=>?_
 rcases a1 with a1 | a1
 ·dsimp only at h;refine qn L 202 [] [] [] 1 (T3 (.tup []) []) (Uh 59 a1) (Tu (hR.Cg h1)) ?_;cases h;exact rfl
 ·obtain ⟨n,o⟩:=a1;refine rg L 202 [] [] [(1,(T3 (.agg (Ag n)) [(0,.raw (Ae o))]))] (Tu (hR.Cg h1)) <| Ts <| Tr (Tn.trans (Tn.kk [0,1,2,3,8,9] [0,200,204]) (Tn.rr [(0,0),(200,21300),(204,21301)])) <| kp (S':=⟨[(0,.P 0),(1,.cv (.fn (.func 111) [.P 0] [])),(2,.cv (.ro .Dr p0)),(3,.cv (.ro .Gz p1)),(8,.P 21300),(9,.P 21301)],[(0,.raw (Ae o)),(21300,.raw [.I 0,.str [],.I 0,.str [],.N]),(21301,.raw (Ag n))]⟩) ?_;obtain ⟨o1,hp1,h⟩:=T7 h;refine Tx (Q':=fun e S=>False∨((e=.ret∨∃ ch,e=.panic ch)∧∃ a,Ty.done a=o1∧Ui P V Tryz.f71 (B4.rep p0 p1 p2 a) (B4.post p0 p1 p2 a) e S)) (T4 (fun k S=>∃ c:List Av,∃ d:Int,∃ f:Int,∃ g:Ge,∃ i:Int,∃ j:Ge,∃ l:List Aa,S=⟨[(0,.P 0),(1,.cv (.fn (.func 111) [.P 0] [])),(2,.cv (.ro .Dr p0)),(3,.cv (.ro .Gz p1)),(8,.P 21300),(9,.P 21301)],[(0,.raw [.ro .Ap c,.I d]),(21300,.raw [.I 0,.str [],.I 0,.str [],.N]),(21301,.raw [.I f,.str g,.I i,.str j,.ro .Af l])]⟩∧B4.l6 K R p0 p1 k c d f g i j l=some o1) ?_ ⟨_,_,_,_,_,_,_,rfl,hp1⟩) ?_
  ·clear h hp1;intro k S hS;obtain ⟨c,d,f,g,i,j,l,rfl,h⟩:=hS;cases k with
   | zero=>cases h
   | succ k =>
   unfold B4.l6 at h;refine Ts <| Tm ?_;obtain ⟨⟨q,m,s⟩,h2,h⟩:=bind_some h;refine rg L 207 [] [] [(3,(T3 (.tup [.I q,.B m]) [(0,.raw (Ae s))]))] (Tu (Dg.okE h2)) <| Tm <| Tt L 217 <| iS h (fun c1 h=>?_) fun c1 h=>?_
   ·refine ff (b:=(!m)) (congrArg Bool.not (c1)) <| Tq <| bS h fun a3 h3 h=>?_
    rcases a3 with a3 | a3
    ·dsimp only at h;refine qP L mixed 223 [] [] [] [0,2] 3 (T3 (.tup []) []) (Uh 59 a3) (Ur (hR.Cg h3) (hR.Cg h3)) ?_;cases h;exact .inr ⟨.inr ⟨_,rfl⟩,_,rfl,rfl⟩
    ·obtain ⟨t,p⟩:=a3;exact bS h fun a4 h4 h=>hB L mixed 223 [] [(5,.agg (Ag a4))] [(3,(T3 (.agg (Ag t)) [(0,.raw (Ae p))]))] [0,2] 2 (Tp (hR.Cg h3) (Tp (Dn.ok h4) (Tp trivial (Tp (hR.Cg h3) (Tp (Dn.ok h4) (Tu trivial)))))) (S':=⟨[(0,.P 0),(1,.cv (.fn (.func 111) [.P 0] [])),(2,.cv (.ro .Dr p0)),(3,.cv (.ro .Gz p1)),(8,.P 21300),(9,.P 21301)],[(0,.raw (Ae p)),(21300,.raw [.I 0,.str [],.I 0,.str [],.N]),(21301,.raw (Ag a4))]⟩) <|⟨k,Nat.lt_succ_self k,_,_,_,_,_,_,_,rfl,h⟩
   refine tt (b:=(!m)) (congrArg Bool.not (Xs c1)) <| Tt L 220 <| Tr (Tn.trans (Tn.kk [8] [0,21300]) (Tn.rr [(0,0),(21300,100)])) <| To ?_;cases h;exact .inr ⟨.inl rfl,_,rfl,Vr⟩
  ·rintro e S (hf |⟨he,a,rfl,hr⟩)
   ·exact hf.elim
   ·rcases h with ⟨_,e1,h⟩ |⟨_,e1,h⟩
    ·have e2:=Ty.done.inj e1;subst e2;subst h;rcases he with rfl |⟨ch,rfl⟩
     ·exact ⟨_,Tn.refl,hr⟩
     ·exact ⟨_,Tn.refl,hr⟩
    ·cases e1
def Cw.F (K:Nat) (R:Ai) (p0:Ab):Option (Int ⊕ (Aa×Ab)):=((R.B4 ([([97,110,100]:Ge)]:List Ge) ([26]:List Int) p0).bind fun a1=>match a1 with |(Sum.inl a1)=>some (Sum.inl a1) |(Sum.inr (a,b))=>some (Sum.inr (a,b)))
theorem Cw.body {Γ:Ue} {K:Nat} {R:Ai} (hR:R.Ok) {p0:Ab} {r:Int ⊕ (Aa×Ab)} (h:Cw.F K R p0=some r):Uc V P 9 100 Γ (Tryz.f72.body.getD .skip) (Ui P V Tryz.f72 (Cw.rep p0 r) (Cw.post p0 r)) ⟨T0 0 [.P 0],[(0,.raw (Ae p0))]⟩:=by
 unfold Cw.F at h;refine Tt L 200 <| Tm <| bS h fun a1 h1 h=>?_
 rcases a1 with a1 | a1
 ·dsimp only at h;refine qn L 202 [] [] [] 5 (T3 (.tup []) []) (Uh 59 a1) (Tu (hR.B4 h1)) ?_;cases h;exact rfl
 ·obtain ⟨a,b⟩:=a1;refine rg L 202 [] [] [(5,(T3 (.agg (Ag a)) [(0,.raw (Ae b))]))] (Tu (hR.B4 h1)) <| Tr (Tn.trans (Tn.kk [2] [0,200]) (Tn.rr [(0,0),(200,100)])) <| To ?_;cases h;exact Vr
def B9.l6 (K:Nat) (R:Ai) (p0:List Ge) (p1:List Int):Nat→(List Av)→Int→Int→Ge→Int→Ge→(List Aa)→Option (Ty (Int ⊕ (Aa×Ab)) Unit)
 | 0,_,_,_,_,_,_,_=>none
 | k+1,g,h,a,b,c,d,e=>((Dg K p0 p1 (⟨g,h⟩:Ab)).bind fun (n,o,j)=>(if o=true then ((R.Cw j).bind fun a3=>match a3 with |(Sum.inl a3)=>some (Ty.done (Sum.inl a3)) |(Sum.inr (f,m))=>((Dn K n ([(⟨a,b,c,d,e⟩:Aa),(⟨f.Op,f.Name,f.Int,f.Text,f.Kids⟩:Aa)]:List Aa)).bind fun a4=>B9.l6 K R p0 p1 k m.l m.i a4.Op a4.Name a4.Int a4.Text a4.Kids)) else some (Ty.done (Sum.inr ((⟨a,b,c,d,e⟩:Aa),j)))))
def B9.F (K:Nat) (R:Ai) (p0:List Ge) (p1:List Int) (p2:Ab):Option (Int ⊕ (Aa×Ab)):=((R.Cw p2).bind fun a1=>match a1 with |(Sum.inl a1)=>some (Sum.inl a1) |(Sum.inr (a,b))=>(Ub (B9.l6 K R p0 p1 K b.l b.i a.Op a.Name a.Int a.Text a.Kids:Option (Ty (Int ⊕ (Aa×Ab)) Unit)) (fun r=>r) (fun _=>none)))
theorem B9.body {Γ:Ue} {K:Nat} {R:Ai} (hR:R.Ok) {p0:List Ge} {p1:List Int} {p2:Ab} {r:Int ⊕ (Aa×Ab)} (h:B9.F K R p0 p1 p2=some r):Uc V P 30 100 Γ (Tryz.f71.body.getD .skip) (Ui P V Tryz.f71 (B9.rep p0 p1 p2 r) (B9.post p0 p1 p2 r)) ⟨T0 0 [.P 0,.cv (.fn (.func 72) [.P 0] []),.cv (.ro .Dr p0),.cv (.ro .Gz p1)],[(0,.raw (Ae p2))]⟩:=by
 unfold B9.F at h;refine Tt L 200 <| Tm <| bS h fun a1 h1 h=>?_
 rcases a1 with a1 | a1
 ·dsimp only at h;refine qn L 202 [] [] [] 1 (T3 (.tup []) []) (Uh 59 a1) (Tu (hR.Cw h1)) ?_;cases h;exact rfl
 ·obtain ⟨n,o⟩:=a1;refine rg L 202 [] [] [(1,(T3 (.agg (Ag n)) [(0,.raw (Ae o))]))] (Tu (hR.Cw h1)) <| Ts <| Tr (Tn.trans (Tn.kk [0,1,2,3,8,9] [0,200,204]) (Tn.rr [(0,0),(200,21300),(204,21301)])) <| kp (S':=⟨[(0,.P 0),(1,.cv (.fn (.func 72) [.P 0] [])),(2,.cv (.ro .Dr p0)),(3,.cv (.ro .Gz p1)),(8,.P 21300),(9,.P 21301)],[(0,.raw (Ae o)),(21300,.raw [.I 0,.str [],.I 0,.str [],.N]),(21301,.raw (Ag n))]⟩) ?_;obtain ⟨o1,hp1,h⟩:=T7 h;refine Tx (Q':=fun e S=>False∨((e=.ret∨∃ ch,e=.panic ch)∧∃ a,Ty.done a=o1∧Ui P V Tryz.f71 (B9.rep p0 p1 p2 a) (B9.post p0 p1 p2 a) e S)) (T4 (fun k S=>∃ c:List Av,∃ d:Int,∃ f:Int,∃ g:Ge,∃ i:Int,∃ j:Ge,∃ l:List Aa,S=⟨[(0,.P 0),(1,.cv (.fn (.func 72) [.P 0] [])),(2,.cv (.ro .Dr p0)),(3,.cv (.ro .Gz p1)),(8,.P 21300),(9,.P 21301)],[(0,.raw [.ro .Ap c,.I d]),(21300,.raw [.I 0,.str [],.I 0,.str [],.N]),(21301,.raw [.I f,.str g,.I i,.str j,.ro .Af l])]⟩∧B9.l6 K R p0 p1 k c d f g i j l=some o1) ?_ ⟨_,_,_,_,_,_,_,rfl,hp1⟩) ?_
  ·clear h hp1;intro k S hS;obtain ⟨c,d,f,g,i,j,l,rfl,h⟩:=hS;cases k with
   | zero=>cases h
   | succ k =>
   unfold B9.l6 at h;refine Ts <| Tm ?_;obtain ⟨⟨q,m,s⟩,h2,h⟩:=bind_some h;refine rg L 207 [] [] [(3,(T3 (.tup [.I q,.B m]) [(0,.raw (Ae s))]))] (Tu (Dg.okE h2)) <| Tm <| Tt L 217 <| iS h (fun c1 h=>?_) fun c1 h=>?_
   ·refine ff (b:=(!m)) (congrArg Bool.not (c1)) <| Tq <| bS h fun a3 h3 h=>?_
    rcases a3 with a3 | a3
    ·dsimp only at h;refine qP L mixed 223 [] [] [] [0,2] 3 (T3 (.tup []) []) (Uh 59 a3) (Ur (hR.Cw h3) (hR.Cw h3)) ?_;cases h;exact .inr ⟨.inr ⟨_,rfl⟩,_,rfl,rfl⟩
    ·obtain ⟨t,p⟩:=a3;exact bS h fun a4 h4 h=>hB L mixed 223 [] [(5,.agg (Ag a4))] [(3,(T3 (.agg (Ag t)) [(0,.raw (Ae p))]))] [0,2] 2 (Tp (hR.Cw h3) (Tp (Dn.ok h4) (Tp trivial (Tp (hR.Cw h3) (Tp (Dn.ok h4) (Tu trivial)))))) (S':=⟨[(0,.P 0),(1,.cv (.fn (.func 72) [.P 0] [])),(2,.cv (.ro .Dr p0)),(3,.cv (.ro .Gz p1)),(8,.P 21300),(9,.P 21301)],[(0,.raw (Ae p)),(21300,.raw [.I 0,.str [],.I 0,.str [],.N]),(21301,.raw (Ag a4))]⟩) <|⟨k,Nat.lt_succ_self k,_,_,_,_,_,_,_,rfl,h⟩
   refine tt (b:=(!m)) (congrArg Bool.not (Xs c1)) <| Tt L 220 <| Tr (Tn.trans (Tn.kk [8] [0,21300]) (Tn.rr [(0,0),(21300,100)])) <| To ?_;cases h;exact .inr ⟨.inl rfl,_,rfl,Vr⟩
  ·rintro e S (hf |⟨he,a,rfl,hr⟩)
   ·exact hf.elim
   ·rcases h with ⟨_,e1,h⟩ |⟨_,e1,h⟩
    ·have e2:=Ty.done.inj e1;subst e2;subst h;rcases he with rfl |⟨ch,rfl⟩
     ·exact ⟨_,Tn.refl,hr⟩
     ·exact ⟨_,Tn.refl,hr⟩
    ·cases e1
def Ay.F (K:Nat) (R:Ai) (p0:Ab):Option (Int ⊕ (Aa×Ab)):=((R.B9 ([([111,114]:Ge)]:List Ge) ([27]:List Int) p0).bind fun a1=>match a1 with |(Sum.inl a1)=>some (Sum.inl a1) |(Sum.inr (a,b))=>some (Sum.inr (a,b)))
theorem Ay.body {Γ:Ue} {K:Nat} {R:Ai} (hR:R.Ok) {p0:Ab} {r:Int ⊕ (Aa×Ab)} (h:Ay.F K R p0=some r):Uc V P 9 100 Γ (Tryz.f32.body.getD .skip) (Ui P V Tryz.f32 (Ay.rep p0 r) (Ay.post p0 r)) ⟨T0 0 [.P 0],[(0,.raw (Ae p0))]⟩:=by
 unfold Ay.F at h;refine Tt L 200 <| Tm <| bS h fun a1 h1 h=>?_
 rcases a1 with a1 | a1
 ·dsimp only at h;refine qn L 202 [] [] [] 5 (T3 (.tup []) []) (Uh 59 a1) (Tu (hR.B9 h1)) ?_;cases h;exact rfl
 ·obtain ⟨a,b⟩:=a1;refine rg L 202 [] [] [(5,(T3 (.agg (Ag a)) [(0,.raw (Ae b))]))] (Tu (hR.B9 h1)) <| Tr (Tn.trans (Tn.kk [2] [0,200]) (Tn.rr [(0,0),(200,100)])) <| To ?_;cases h;exact Vr
def Ai.upto (K:Nat):Nat→Ai
 | 0=>⟨fun _ _=>none,fun _ _ _=>none,fun _=>none,fun _ _=>none,fun _=>none,fun _=>none,fun _=>none,fun _ _ _=>none,fun _=>none,fun _ _ _=>none,fun _=>none,fun _=>none,fun _ _ _=>none,fun _=>none,fun _ _ _=>none,fun _=>none⟩
 | k+1=>⟨Bp.F K (Ai.upto K k),Bt.F K (Ai.upto K k),Cy.F K (Ai.upto K k),Ce.F K (Ai.upto K k),Ck.F K (Ai.upto K k),Bh.F K (Ai.upto K k),Bg.F K (Ai.upto K k),B6.F K (Ai.upto K k),Bw.F K (Ai.upto K k),B5.F K (Ai.upto K k),Cx.F K (Ai.upto K k),Cg.F K (Ai.upto K k),B4.F K (Ai.upto K k),Cw.F K (Ai.upto K k),B9.F K (Ai.upto K k),Ay.F K (Ai.upto K k)⟩
theorem Ai.upto_ok (K:Nat):∀ k,(Ai.upto K k).Ok
 | 0=>⟨fun h=>(by cases h),fun h=>(by cases h),fun h=>(by cases h),fun h=>(by cases h),fun h=>(by cases h),fun h=>(by cases h),fun h=>(by cases h),fun h=>(by cases h),fun h=>(by cases h),fun h=>(by cases h),fun h=>(by cases h),fun h=>(by cases h),fun h=>(by cases h),fun h=>(by cases h),fun h=>(by cases h),fun h=>(by cases h)⟩
 | k+1=>⟨fun {p0 p1 r} h=>xo (fn:=Tryz.f67) (n:=25) (m:=100) fun Γ=>Bp.body (K:=K) (Ai.upto_ok K k) h,fun {p0 p1 p2 r} h=>xo (fn:=Tryz.f145) (n:=16) (m:=100) fun Γ=>Bt.body (K:=K) (Ai.upto_ok K k) h,fun {p0 r} h=>xo (fn:=Tryz.f217) (n:=21) (m:=100) fun Γ=>Cy.body (K:=K) (Ai.upto_ok K k) h,fun {p0 p1 r} h=>xo (fn:=Tryz.f67) (n:=25) (m:=100) fun Γ=>Ce.body (K:=K) (Ai.upto_ok K k) h,fun {p0 r} h=>xo (fn:=Tryz.f215) (n:=51) (m:=100) fun Γ=>Ck.body (K:=K) (Ai.upto_ok K k) h,fun {p0 r} h=>xo (fn:=Tryz.f206) (n:=25) (m:=100) fun Γ=>Bh.body (K:=K) (Ai.upto_ok K k) h,fun {p0 r} h=>xo (fn:=Tryz.f192) (n:=26) (m:=100) fun Γ=>Bg.body (K:=K) (Ai.upto_ok K k) h,fun {p0 p1 p2 r} h=>xo (fn:=Tryz.f71) (n:=30) (m:=100) fun Γ=>B6.body (K:=K) (Ai.upto_ok K k) h,fun {p0 r} h=>xo (fn:=Tryz.f173) (n:=9) (m:=100) fun Γ=>Bw.body (K:=K) (Ai.upto_ok K k) h,fun {p0 p1 p2 r} h=>xo (fn:=Tryz.f71) (n:=30) (m:=100) fun Γ=>B5.body (K:=K) (Ai.upto_ok K k) h,fun {p0 r} h=>xo (fn:=Tryz.f148) (n:=9) (m:=100) fun Γ=>Cx.body (K:=K) (Ai.upto_ok K k) h,fun {p0 r} h=>xo (fn:=Tryz.f111) (n:=29) (m:=100) fun Γ=>Cg.body (K:=K) (Ai.upto_ok K k) h,fun {p0 p1 p2 r} h=>xo (fn:=Tryz.f71) (n:=30) (m:=100) fun Γ=>B4.body (K:=K) (Ai.upto_ok K k) h,fun {p0 r} h=>xo (fn:=Tryz.f72) (n:=9) (m:=100) fun Γ=>Cw.body (K:=K) (Ai.upto_ok K k) h,fun {p0 p1 p2 r} h=>xo (fn:=Tryz.f71) (n:=30) (m:=100) fun Γ=>B9.body (K:=K) (Ai.upto_ok K k) h,fun {p0 r} h=>xo (fn:=Tryz.f32) (n:=9) (m:=100) fun Γ=>Ay.body (K:=K) (Ai.upto_ok K k) h⟩
def Bp (K:Nat) (p0:Ge) (p1:Ab):Option (((List Aa)×Ab) ⊕ Int):=(Ai.upto K K).Bp p0 p1
theorem Bp.okE {K:Nat} {p0:Ge} {p1:Ab} {r:((List Aa)×Ab) ⊕ Int} (h:Bp K p0 p1=some r):Ug V P 67 [.P 0,.cv (.str p0),.cv (.fn (.func 32) [.P 0] [])] [(0,.raw (Ae p1))] [0] (Bp.post p0 p1 r) (Bp.rep p0 p1 r):=(Ai.upto_ok K K).Bp h
def Bt (K:Nat) (p0:Int) (p1:Ge) (p2:Ab):Option ((Aa×Ab) ⊕ Int):=(Ai.upto K K).Bt p0 p1 p2
theorem Bt.okE {K:Nat} {p0:Int} {p1:Ge} {p2:Ab} {r:(Aa×Ab) ⊕ Int} (h:Bt K p0 p1 p2=some r):Ug V P 145 [.P 0,.I p0,.cv (.str p1)] [(0,.raw (Ae p2))] [0] (Bt.post p0 p1 p2 r) (Bt.rep p0 p1 p2 r):=(Ai.upto_ok K K).Bt h
def Cy (K:Nat) (p0:Ab):Option (Int ⊕ (Aa×Ab)):=(Ai.upto K K).Cy p0
theorem Cy.okE {K:Nat} {p0:Ab} {r:Int ⊕ (Aa×Ab)} (h:Cy K p0=some r):Ug V P 217 [.P 0] [(0,.raw (Ae p0))] [0] (Cy.post p0 r) (Cy.rep p0 r):=(Ai.upto_ok K K).Cy h
def Ce (K:Nat) (p0:Ge) (p1:Ab):Option (((List Aa)×Ab) ⊕ Int):=(Ai.upto K K).Ce p0 p1
theorem Ce.okE {K:Nat} {p0:Ge} {p1:Ab} {r:((List Aa)×Ab) ⊕ Int} (h:Ce K p0 p1=some r):Ug V P 67 [.P 0,.cv (.str p0),.cv (.fn (.func 217) [.P 0] [])] [(0,.raw (Ae p1))] [0] (Ce.post p0 p1 r) (Ce.rep p0 p1 r):=(Ai.upto_ok K K).Ce h
def Ck (K:Nat) (p0:Ab):Option ((Aa×Ab) ⊕ Int):=(Ai.upto K K).Ck p0
theorem Ck.okE {K:Nat} {p0:Ab} {r:(Aa×Ab) ⊕ Int} (h:Ck K p0=some r):Ug V P 215 [.P 0] [(0,.raw (Ae p0))] [0] (Ck.post p0 r) (Ck.rep p0 r):=(Ai.upto_ok K K).Ck h
def Bh (K:Nat) (p0:Ab):Option (Int ⊕ (Aa×Ab)):=(Ai.upto K K).Bh p0
theorem Bh.okE {K:Nat} {p0:Ab} {r:Int ⊕ (Aa×Ab)} (h:Bh K p0=some r):Ug V P 206 [.P 0] [(0,.raw (Ae p0))] [0] (Bh.post p0 r) (Bh.rep p0 r):=(Ai.upto_ok K K).Bh h
def Bg (K:Nat) (p0:Ab):Option (Int ⊕ (Aa×Ab)):=(Ai.upto K K).Bg p0
theorem Bg.okE {K:Nat} {p0:Ab} {r:Int ⊕ (Aa×Ab)} (h:Bg K p0=some r):Ug V P 192 [.P 0] [(0,.raw (Ae p0))] [0] (Bg.post p0 r) (Bg.rep p0 r):=(Ai.upto_ok K K).Bg h
def B6 (K:Nat) (p0:List Ge) (p1:List Int) (p2:Ab):Option (Int ⊕ (Aa×Ab)):=(Ai.upto K K).B6 p0 p1 p2
theorem B6.okE {K:Nat} {p0:List Ge} {p1:List Int} {p2:Ab} {r:Int ⊕ (Aa×Ab)} (h:B6 K p0 p1 p2=some r):Ug V P 71 [.P 0,.cv (.fn (.func 192) [.P 0] []),.cv (.ro .Dr p0),.cv (.ro .Gz p1)] [(0,.raw (Ae p2))] [0] (B6.post p0 p1 p2 r) (B6.rep p0 p1 p2 r):=(Ai.upto_ok K K).B6 h
def Bw (K:Nat) (p0:Ab):Option (Int ⊕ (Aa×Ab)):=(Ai.upto K K).Bw p0
theorem Bw.okE {K:Nat} {p0:Ab} {r:Int ⊕ (Aa×Ab)} (h:Bw K p0=some r):Ug V P 173 [.P 0] [(0,.raw (Ae p0))] [0] (Bw.post p0 r) (Bw.rep p0 r):=(Ai.upto_ok K K).Bw h
def B5 (K:Nat) (p0:List Ge) (p1:List Int) (p2:Ab):Option (Int ⊕ (Aa×Ab)):=(Ai.upto K K).B5 p0 p1 p2
theorem B5.okE {K:Nat} {p0:List Ge} {p1:List Int} {p2:Ab} {r:Int ⊕ (Aa×Ab)} (h:B5 K p0 p1 p2=some r):Ug V P 71 [.P 0,.cv (.fn (.func 173) [.P 0] []),.cv (.ro .Dr p0),.cv (.ro .Gz p1)] [(0,.raw (Ae p2))] [0] (B5.post p0 p1 p2 r) (B5.rep p0 p1 p2 r):=(Ai.upto_ok K K).B5 h
def Cx (K:Nat) (p0:Ab):Option (Int ⊕ (Aa×Ab)):=(Ai.upto K K).Cx p0
theorem Cx.okE {K:Nat} {p0:Ab} {r:Int ⊕ (Aa×Ab)} (h:Cx K p0=some r):Ug V P 148 [.P 0] [(0,.raw (Ae p0))] [0] (Cx.post p0 r) (Cx.rep p0 r):=(Ai.upto_ok K K).Cx h
def Cg (K:Nat) (p0:Ab):Option (Int ⊕ (Aa×Ab)):=(Ai.upto K K).Cg p0
theorem Cg.okE {K:Nat} {p0:Ab} {r:Int ⊕ (Aa×Ab)} (h:Cg K p0=some r):Ug V P 111 [.P 0] [(0,.raw (Ae p0))] [0] (Cg.post p0 r) (Cg.rep p0 r):=(Ai.upto_ok K K).Cg h
def B4 (K:Nat) (p0:List Ge) (p1:List Int) (p2:Ab):Option (Int ⊕ (Aa×Ab)):=(Ai.upto K K).B4 p0 p1 p2
theorem B4.okE {K:Nat} {p0:List Ge} {p1:List Int} {p2:Ab} {r:Int ⊕ (Aa×Ab)} (h:B4 K p0 p1 p2=some r):Ug V P 71 [.P 0,.cv (.fn (.func 111) [.P 0] []),.cv (.ro .Dr p0),.cv (.ro .Gz p1)] [(0,.raw (Ae p2))] [0] (B4.post p0 p1 p2 r) (B4.rep p0 p1 p2 r):=(Ai.upto_ok K K).B4 h
def Cw (K:Nat) (p0:Ab):Option (Int ⊕ (Aa×Ab)):=(Ai.upto K K).Cw p0
theorem Cw.okE {K:Nat} {p0:Ab} {r:Int ⊕ (Aa×Ab)} (h:Cw K p0=some r):Ug V P 72 [.P 0] [(0,.raw (Ae p0))] [0] (Cw.post p0 r) (Cw.rep p0 r):=(Ai.upto_ok K K).Cw h
def B9 (K:Nat) (p0:List Ge) (p1:List Int) (p2:Ab):Option (Int ⊕ (Aa×Ab)):=(Ai.upto K K).B9 p0 p1 p2
theorem B9.okE {K:Nat} {p0:List Ge} {p1:List Int} {p2:Ab} {r:Int ⊕ (Aa×Ab)} (h:B9 K p0 p1 p2=some r):Ug V P 71 [.P 0,.cv (.fn (.func 72) [.P 0] []),.cv (.ro .Dr p0),.cv (.ro .Gz p1)] [(0,.raw (Ae p2))] [0] (B9.post p0 p1 p2 r) (B9.rep p0 p1 p2 r):=(Ai.upto_ok K K).B9 h
def Ay (K:Nat) (p0:Ab):Option (Int ⊕ (Aa×Ab)):=(Ai.upto K K).Ay p0
theorem Ay.okE {K:Nat} {p0:Ab} {r:Int ⊕ (Aa×Ab)} (h:Ay K p0=some r):Ug V P 32 [.P 0] [(0,.raw (Ae p0))] [0] (Ay.post p0 r) (Ay.rep p0 r):=(Ai.upto_ok K K).Ay h
structure Fk where
 Ee:Aa→Option Int
structure Fk.Ok (R:Fk):Prop where
 Ee:∀ {p0:Aa} {r:Int},R.Ee p0=some r→T1 V P 61 [.agg (Ag p0)] [] [] (.I r) []
def Ee.l9 (K:Nat) (R:Fk) (p0:Aa):Nat→Int→Int→Option Int
 | 0,_,_=>none
 | k+1,b,a=>(if a <(p0.Kids.length:Int) then (if (0:Int)≤a∧(a:Int) <(p0.Kids.length:Int) then ((R.Ee (p0.Kids.getD (Int.toNat a) Ah)).bind fun a1=>Ee.l9 K R p0 k (i64.wrap (b+a1)) (i64.wrap (a+1))) else none) else some b)
def Ee.F (K:Nat) (R:Fk) (p0:Aa):Option Int:=((Ee.l9 K R p0 K 1 0:Option Int).bind fun a=>some a)
theorem Ee.body {Γ:Ue} {K:Nat} {R:Fk} (hR:R.Ok) {p0:Aa} {r:Int} (h:Ee.F K R p0=some r):Uc V P 19 100 Γ (Tryz.f61.body.getD .skip) (T2 P V Tryz.f61 (.I r) []) ⟨T0 0 [.agg (Ag p0)],[]⟩:=by
 unfold Ee.F at h;refine Tt L 200 <| Tt L 203 <| Tm <| Tt L 205 <| Ts <| kp (S':=⟨[(3,.I 1),(7,.cv (.ro .Af p0.Kids)),(8,.I (p0.Kids.length:Int)),(9,.I 0)],[]⟩) <| bS h fun o1 hp1 h=>Tx (Q':=fun e S=>(e=.exit 0∧∃ c:Int,S=⟨[(3,.I c)],[]⟩∧c=o1)) (T4 (fun k S=>∃ a:Int,∃ b:Int,S=⟨[(3,.I a),(7,.cv (.ro .Af p0.Kids)),(8,.I (p0.Kids.length:Int)),(9,.I b)],[]⟩∧Ee.l9 K R p0 k a b=some o1) ?_ ⟨_,_,rfl,hp1⟩) ?_
 ·clear h hp1;intro k S hS;obtain ⟨a,b,rfl,h⟩:=hS;cases k with
  | zero=>cases h
  | succ k =>
  unfold Ee.l9 at h;refine Tt L 210 <| Tm <| iS h (fun c1 h=>tT c1 <| Tq <| Tm <| Ts <| Tm <| gS h fun g1 h=>rg L 212 [] [] [] (Ur g1.1 g1.2) <| bS h fun a1 h1 h=>rg L 217 [] [(2,.I a1)] [] (Uq (pc (hR.Ee h1))) <| Vd L 223 [] [] [] (S':=⟨[(3,.I (i64.wrap (a+a1))),(7,.cv (.ro .Af p0.Kids)),(8,.I (p0.Kids.length:Int)),(9,.I (i64.wrap (b+1)))],[]⟩) <|⟨k,Nat.lt_succ_self k,_,_,rfl,h⟩) fun c1 h=>fF c1 <| ex (S':=⟨[(3,.I a)],[]⟩) ?_
  cases h;exact ⟨rfl,_,rfl,rfl⟩
 ·rintro e S ⟨rfl,c,rfl,rfl⟩;refine ⟨_,Tn.refl,?_⟩;exact Tt L 226 <| To <| sJ h ▸ Tv
def Fk.upto (K:Nat):Nat→Fk
 | 0=>⟨fun _=>none⟩
 | k+1=>⟨Ee.F K (Fk.upto K k)⟩
theorem Fk.upto_ok (K:Nat):∀ k,(Fk.upto K k).Ok
 | 0=>⟨fun h=>(by cases h)⟩
 | k+1=>⟨fun {p0 r} h=>e2 Tryz.f61 19 100 fun Γ=>Ee.body (K:=K) (Fk.upto_ok K k) h⟩
def Ee (K:Nat) (p0:Aa):Option Int:=(Fk.upto K K).Ee p0
theorem Ee.ok {K:Nat} {p0:Aa} {r:Int} (h:Ee K p0=some r):Tz V P 61 [.agg (Ag p0)] (.I r):=pc ((Fk.upto_ok K K).Ee h)
structure Ff where
 D6:Aa→Option Int
structure Ff.Ok (R:Ff):Prop where
 D6:∀ {p0:Aa} {r:Int},R.D6 p0=some r→T1 V P 62 [.agg (Ag p0)] [] [] (.I r) []
def D6.l9 (K:Nat) (R:Ff) (p0:Aa):Nat→Int→Int→Option Int
 | 0,_,_=>none
 | k+1,b,a=>(if a <(p0.Kids.length:Int) then (if (0:Int)≤a∧(a:Int) <(p0.Kids.length:Int) then ((R.D6 (p0.Kids.getD (Int.toNat a) Ah)).bind fun a1=>D6.l9 K R p0 k (if a1 > b then a1 else b) (i64.wrap (a+1))) else none) else some b)
def D6.F (K:Nat) (R:Ff) (p0:Aa):Option Int:=((D6.l9 K R p0 K 0 0:Option Int).bind fun a=>some (i64.wrap (a+1)))
theorem D6.body {Γ:Ue} {K:Nat} {R:Ff} (hR:R.Ok) {p0:Aa} {r:Int} (h:D6.F K R p0=some r):Uc V P 20 100 Γ (Tryz.f62.body.getD .skip) (T2 P V Tryz.f62 (.I r) []) ⟨T0 0 [.agg (Ag p0)],[]⟩:=by
 unfold D6.F at h;refine Tt L 200 <| Tt L 203 <| Tm <| Tt L 205 <| Ts <| kp (S':=⟨[(3,.I 0),(7,.cv (.ro .Af p0.Kids)),(8,.I (p0.Kids.length:Int)),(9,.I 0)],[]⟩) <| bS h fun o1 hp1 h=>Tx (Q':=fun e S=>(e=.exit 0∧∃ c:Int,S=⟨[(3,.I c)],[]⟩∧c=o1)) (T4 (fun k S=>∃ a:Int,∃ b:Int,S=⟨[(3,.I a),(7,.cv (.ro .Af p0.Kids)),(8,.I (p0.Kids.length:Int)),(9,.I b)],[]⟩∧D6.l9 K R p0 k a b=some o1) ?_ ⟨_,_,rfl,hp1⟩) ?_
 ·clear h hp1;intro k S hS;obtain ⟨a,b,rfl,h⟩:=hS;cases k with
  | zero=>cases h
  | succ k =>
  unfold D6.l9 at h;refine Tt L 210 <| Tm <| iS h (fun c1 h=>tT c1 <| Tq <| Tm <| Ts <| Tm <| gS h fun g1 h=>rg L 212 [] [] [] (Ur g1.1 g1.2) <| bS h fun a1 h1 h=>rg L 217 [] [(2,.I a1)] [] (Uq (pc (hR.D6 h1))) <| Vd L 223 [] [] [] (S':=⟨[(3,.I (if a1 > a then a1 else a)),(7,.cv (.ro .Af p0.Kids)),(8,.I (p0.Kids.length:Int)),(9,.I (i64.wrap (b+1)))],[]⟩) <|⟨k,Nat.lt_succ_self k,_,_,rfl,h⟩) fun c1 h=>fF c1 <| ex (S':=⟨[(3,.I a)],[]⟩) ?_
  cases h;exact ⟨rfl,_,rfl,rfl⟩
 ·rintro e S ⟨rfl,c,rfl,rfl⟩;refine ⟨_,Tn.refl,?_⟩;exact Tt L 226 <| To <| sJ h ▸ Tv
def Ff.upto (K:Nat):Nat→Ff
 | 0=>⟨fun _=>none⟩
 | k+1=>⟨D6.F K (Ff.upto K k)⟩
theorem Ff.upto_ok (K:Nat):∀ k,(Ff.upto K k).Ok
 | 0=>⟨fun h=>(by cases h)⟩
 | k+1=>⟨fun {p0 r} h=>e2 Tryz.f62 20 100 fun Γ=>D6.body (K:=K) (Ff.upto_ok K k) h⟩
def D6 (K:Nat) (p0:Aa):Option Int:=(Ff.upto K K).D6 p0
theorem D6.ok {K:Nat} {p0:Aa} {r:Int} (h:D6 K p0=some r):Tz V P 62 [.agg (Ag p0)] (.I r):=pc ((Ff.upto_ok K K).D6 h)
def F6 (K:Nat) (p0:List Av) (p1:Int):Option (Int ⊕ (Aa×Int×Int)):=((Ay K (⟨p0,0⟩:Ab)).bind fun a1=>match a1 with |(Sum.inl a1)=>some (Sum.inl a1) |(Sum.inr (a,b))=>((Cj K b).bind fun a2=>(if a2.Kind≠0 then ((Br K b).bind fun a3=>some (Sum.inl a3)) else ((Ee K a).bind fun a4=>(if a4 > 4000 then some (Sum.inr ((⟨0,[],0,[],([]:List Aa)⟩:Aa),0,6)) else ((D6 K a).bind fun a5=>(if a5 > 40 then some (Sum.inr ((⟨0,[],0,[],([]:List Aa)⟩:Aa),0,7)) else some (Sum.inr (a,0,0)))))))))
def F6.rep (p0:List Av) (p1:Int):Int ⊕ (Aa×Int×Int)→Uz T
 |(Sum.inl v0)=>.pan (Uh 59 v0)
 |(Sum.inr (v0,v1,v2))=>.ret (.tup [.agg [.I v0.Op,.str v0.Name,.I v0.Int,.str v0.Text,.ro .Af v0.Kids],.I v1,.I v2])
theorem F6.body {Γ:Ue} {K:Nat} {p0:List Av} {p1:Int} {r:Int ⊕ (Aa×Int×Int)} (h:F6 K p0 p1=some r):Uc V P 44 93 Γ (Ud (Ud (Ud (Ud (Tryz.f30.body.getD .skip))))) (Xr P V Tryz.f30 (F6.rep p0 p1 r)) ⟨[(1,.cv (.fn (.func 32) [] [])),(4,.P 90),(5,.P 91),(6,.P 92),(7,.cv (.ro .Ap p0))],[(90,.raw [.I 0,.str [],.I 0,.str [],.N]),(91,.raw [.I p1]),(92,.raw [.I 0])]⟩:=by
 unfold F6 at h;refine Tt L 200 <| Tm <| bS h fun a1 h1 h=>?_
 rcases a1 with a1 | a1
 ·dsimp only at h;refine pn L 205 [] [] [] 2 [4,5,6] [90,91,92] (ef [0] [0] (.tup []) [] [(0,202)]) (Uh 59 a1) (cs:=[Adf V P 32 [.P 0] [(0,.raw [.ro .Ap p0,.I 0])] (Uh 59 a1)]) (S':=⟨[(4,.P 90),(5,.P 91),(6,.P 92)],[(90,.raw [.I 0,.str [],.I 0,.str [],.N]),(91,.raw [.I p1]),(92,.raw [.I 0])]⟩) (Ay.okE h1) ?_;cases h;exact (rp:Xr P V Tryz.f30 (F6.rep p0 p1 (Sum.inl a1)) _ _)
 ·obtain ⟨a,b⟩:=a1;refine rg L 205 [] [] [(2,(ef [0] [0] (.agg (Ag a)) [(0,.raw (Ae b))] [(0,202)]))] (Tu (Ay.okE h1)) <| Tm <| Tm <| bS h fun a2 h2 h=>rg L 210 [] [(1,.agg (E6 a2))] [] (Uq (Cj.ok h2)) <| iS h (fun c1 h=>?_) fun c1 h=>?_
  ·refine tT c1 <| bS h fun a3 h3 h=>pn L 215 [] [] [] 1 [4,5,6] [90,91,92] (ef [0] [0] (.tup []) [] [(0,202)]) (Uh 59 a3) (cs:=[Adf V P 60 [.P 0] [(0,.raw (Ae b))] (Uh 59 a3)]) (S':=⟨[(4,.P 90),(5,.P 91),(6,.P 92)],[(90,.raw (Ag a)),(91,.raw [.I p1]),(92,.raw [.I 0])]⟩) (Br.okE h3) ?_
   cases h;exact (rp:Xr P V Tryz.f30 (F6.rep p0 p1 (Sum.inl a3)) _ _)
  refine fF c1 <| Tq <| Tm <| Ts <| Tm <| bS h fun a4 h4 h=>rg L 218 [] [(1,.I a4)] [] (Uq (Ee.ok h4)) <| iS h (fun c2 h=>?_) fun c2 h=>?_
  ·refine tT c2 <| Tt L 223 <| To ?_;cases h;exact rr0
  refine fF c2 <| Tm <| bS h fun a5 h5 h=>rg L 228 [] [(1,.I a5)] [] (Uq (D6.ok h5)) <| iS h (fun c3 h=>?_) fun c3 h=>?_
  ·refine tT c3 <| Tt L 233 <| To ?_;cases h;exact rr0
  refine fF c3 <| Tq <| Tt L 238 <| To ?_;cases h;exact rr0
def Kc:Int ⊕ (Aa×Int×Int)→Aa×Int×Int
 |(Sum.inl v0)=>(Ah,v0,29)
 |(Sum.inr (v0,v1,v2))=>(v0,v1,v2)
def Ic (K:Nat) (p0:Ge):Option (Aa×Int×Int):=Option.bind (Gy K p0) (fun (c,a,b)=>if b≠0 then some (Ah,a,b) else Option.bind (F6 K c a) (fun x=>some (Kc x)))
theorem Ic.ok {K:Nat} {p0:Ge} {r:Aa×Int×Int} (h:Ic K p0=some r):Tz V P 30 [.cv (.str p0),.cv (.fn (.func 32) [] [])] (.tup [.agg (Ag r.1),.I r.2.1,.I r.2.2]):=by
 unfold Ic at h;obtain ⟨⟨l,at0,e0⟩,h1,h⟩:=bind_some h;dsimp only at h;by_cases he:e0≠0
 ·rw [if_pos he] at h;obtain rfl:=Option.some.inj h;exact Ll (Gy.ok h1) he
 ·rw [if_neg he] at h;refine bS h fun x h2 h=>?_
  obtain rfl:=Option.some.inj h;have he0:e0=0:=Decidable.not_not.1 he;subst he0;refine Lb (o:=F6.rep l at0 x) (Gy.ok h1) (fun Γ=>F6.body h2) ?_;rcases x with v0 |⟨v0,v1,v2⟩
  ·exact .inr ⟨v0,rfl,rfl⟩
  ·exact .inl rfl
def H2 (K:Nat) (p0:Ge):Option (Aa×Int×Int):=((Ic K p0).bind fun (a,b,c)=>some (a,b,c))
theorem H2.ok {K:Nat} {p0:Ge} {r:Aa×Int×Int} (h:H2 K p0=some r):Tz V P 18 [.cv (.str p0)] (.tup [.agg [.I r.1.Op,.str r.1.Name,.I r.1.Int,.str r.1.Text,.ro .Af r.1.Kids],.I r.2.1,.I r.2.2]):=pc <| e2 Tryz.f18 10 100 fun Γ=>by
 unfold H2 at h;refine Tt L 200 <| Tm ?_;obtain ⟨⟨a,b,c⟩,h1,h⟩:=bind_some h;exact rg L 204 [] [(1,.tup [.agg (Ag a),.I b,.I c])] [] (Uq (Ic.ok h1)) <| Tr (Tn.trans (Tn.kk [2,3,4] [200]) (Tn.rr [(200,100)])) <| To <| sJ h ▸ Tv
def Gj (K:Nat) (p0:Aa):Option Bool:=((Ee K p0).bind fun a1=>(if a1≤4000 then ((D6 K p0).bind fun a2=>some (decide (a2≤40))) else some false))
theorem Gj.ok {K:Nat} {p0:Aa} {r:Bool} (h:Gj K p0=some r):Tz V P 33 [.agg (Ag p0)] (.B r):=pc <| e2 Tryz.f33 11 100 fun Γ=>by
 unfold Gj at h;exact Tt L 200 <| Tm <| bS h fun a1 h1 h=>iS h (fun c1 h=>bS h fun a2 h2 h=>rg L 203 [(3,true)] [(1,.I a1),(5,.I a2)] [] (Tp (Ee.ok h1) (Tp trivial (Tp (Gt c1) (Tp (D6.ok h2) (Tu trivial))))) <| To <| sJ h ▸ Tv) fun c1 h=>rg L 203 [(3,false)] [(1,.I a1)] [] (Tp (Ee.ok h1) (Tp trivial (Tu (Lt c1)))) <| To <| sJ h ▸ Tv
def A5 (K:Nat) (p0:Aa) (p1:Bool) (p2:Bool) (p3:Bool):Option Bool:=(if p1=true then (if p2=true then (if p3=true then some true else some (decide (p0.Int=0))) else (if p0.Text=([]:Ge) then (if p3=true then some true else some (decide (p0.Int=0))) else some false)) else (if p0.Name=([]:Ge) then (if p2=true then (if p3=true then some true else some (decide (p0.Int=0))) else (if p0.Text=([]:Ge) then (if p3=true then some true else some (decide (p0.Int=0))) else some false)) else some false))
theorem A5.ok {K:Nat} {p0:Aa} {p1:Bool} {p2:Bool} {p3:Bool} {r:Bool} (h:A5 K p0 p1 p2 p3=some r):Tz V P 34 [.agg (Ag p0),.B p1,.B p2,.B p3] (.B r):=pc <| e2 Tryz.f34 31 100 fun Γ=>by
 unfold A5 at h;exact Tt L 200 <| Tm <| iS h (fun c1 h=>iS h (fun c2 h=>iS h (fun c3 h=>rg L 203 [(1,true),(8,true),(16,true)] [] [] (Tp c1 (Tp c2 (Tu c3))) <| To <| sJ h ▸ Tv) fun c3 h=>rg L 203 [(1,true),(8,true),(16,false)] [] [] (Tp c1 (Tp c2 (Tu (Xs c3)))) <| To <| sJ h ▸ Tv) fun c2 h=>iS h (fun c4 h=>iS h (fun c5 h=>rg L 203 [(1,true),(8,false),(14,true),(16,true)] [] [] (Tp c1 (Tp (Xs c2) (Tp (Gt c4) (Tu c5)))) <| To <| sJ h ▸ Tv) fun c5 h=>rg L 203 [(1,true),(8,false),(14,true),(16,false)] [] [] (Tp c1 (Tp (Xs c2) (Tp (Gt c4) (Tu (Xs c5))))) <| To <| sJ h ▸ Tv) fun c4 h=>rg L 203 [(1,true),(8,false),(14,false)] [] [] (Tp c1 (Tp (Xs c2) (Tu (Lt c4)))) <| To <| sJ h ▸ Tv) fun c1 h=>iS h (fun c6 h=>iS h (fun c7 h=>iS h (fun c8 h=>rg L 203 [(1,false),(6,true),(8,true),(16,true)] [] [] (Tp (Xs c1) (Tp (Gt c6) (Tp c7 (Tu c8)))) <| To <| sJ h ▸ Tv) fun c8 h=>rg L 203 [(1,false),(6,true),(8,true),(16,false)] [] [] (Tp (Xs c1) (Tp (Gt c6) (Tp c7 (Tu (Xs c8))))) <| To <| sJ h ▸ Tv) fun c7 h=>iS h (fun c9 h=>iS h (fun c10 h=>rg L 203 [(1,false),(6,true),(8,false),(14,true),(16,true)] [] [] (Tp (Xs c1) (Tp (Gt c6) (Tp (Xs c7) (Tp (Gt c9) (Tu c10))))) <| To <| sJ h ▸ Tv) fun c10 h=>rg L 203 [(1,false),(6,true),(8,false),(14,true),(16,false)] [] [] (Tp (Xs c1) (Tp (Gt c6) (Tp (Xs c7) (Tp (Gt c9) (Tu (Xs c10)))))) <| To <| sJ h ▸ Tv) fun c9 h=>rg L 203 [(1,false),(6,true),(8,false),(14,false)] [] [] (Tp (Xs c1) (Tp (Gt c6) (Tp (Xs c7) (Tu (Lt c9))))) <| To <| sJ h ▸ Tv) fun c6 h=>rg L 203 [(1,false),(6,false)] [] [] (Ur (Xs c1) (Lt c6)) <| To <| sJ h ▸ Tv
def Ca.l15 (K:Nat) (p0:Ge):Nat→Int→Option (Ty Bool Unit)
 | 0,_=>none
 | k+1,a=>(if a <(p0.length:Int) then (if (0:Int)≤a∧(a:Int) <(p0.length:Int) then (if ((p0.getD (Int.toNat a) 0).toNat:Int)≥97 then (if ((p0.getD (Int.toNat a) 0).toNat:Int)≤122 then Ca.l15 K p0 k (i64.wrap (a+1)) else (if ((p0.getD (Int.toNat a) 0).toNat:Int)≥65 then (if ((p0.getD (Int.toNat a) 0).toNat:Int)≤90 then Ca.l15 K p0 k (i64.wrap (a+1)) else (if ((p0.getD (Int.toNat a) 0).toNat:Int)≥48 then (if ((p0.getD (Int.toNat a) 0).toNat:Int)≤57 then Ca.l15 K p0 k (i64.wrap (a+1)) else (if ((p0.getD (Int.toNat a) 0).toNat:Int)=95 then Ca.l15 K p0 k (i64.wrap (a+1)) else some (Ty.done false))) else (if ((p0.getD (Int.toNat a) 0).toNat:Int)=95 then Ca.l15 K p0 k (i64.wrap (a+1)) else some (Ty.done false)))) else (if ((p0.getD (Int.toNat a) 0).toNat:Int)≥48 then (if ((p0.getD (Int.toNat a) 0).toNat:Int)≤57 then Ca.l15 K p0 k (i64.wrap (a+1)) else (if ((p0.getD (Int.toNat a) 0).toNat:Int)=95 then Ca.l15 K p0 k (i64.wrap (a+1)) else some (Ty.done false))) else (if ((p0.getD (Int.toNat a) 0).toNat:Int)=95 then Ca.l15 K p0 k (i64.wrap (a+1)) else some (Ty.done false))))) else (if ((p0.getD (Int.toNat a) 0).toNat:Int)≥65 then (if ((p0.getD (Int.toNat a) 0).toNat:Int)≤90 then Ca.l15 K p0 k (i64.wrap (a+1)) else (if ((p0.getD (Int.toNat a) 0).toNat:Int)≥48 then (if ((p0.getD (Int.toNat a) 0).toNat:Int)≤57 then Ca.l15 K p0 k (i64.wrap (a+1)) else (if ((p0.getD (Int.toNat a) 0).toNat:Int)=95 then Ca.l15 K p0 k (i64.wrap (a+1)) else some (Ty.done false))) else (if ((p0.getD (Int.toNat a) 0).toNat:Int)=95 then Ca.l15 K p0 k (i64.wrap (a+1)) else some (Ty.done false)))) else (if ((p0.getD (Int.toNat a) 0).toNat:Int)≥48 then (if ((p0.getD (Int.toNat a) 0).toNat:Int)≤57 then Ca.l15 K p0 k (i64.wrap (a+1)) else (if ((p0.getD (Int.toNat a) 0).toNat:Int)=95 then Ca.l15 K p0 k (i64.wrap (a+1)) else some (Ty.done false))) else (if ((p0.getD (Int.toNat a) 0).toNat:Int)=95 then Ca.l15 K p0 k (i64.wrap (a+1)) else some (Ty.done false))))) else none) else some (Ty.go ()))
def Ca (K:Nat) (p0:Ge):Option Bool:=(Ub (((if (p0.length:Int) < 1 then some (Ty.done false) else (if (p0.length:Int) > 64 then some (Ty.done false) else ((Gq K p0).bind fun a1=>(if a1=true then some (Ty.done false) else (if (0:Int) <(p0.length:Int) then (if ((p0.getD (Int.toNat 0) 0).toNat:Int)≥48 then (if ((p0.getD (Int.toNat 0) 0).toNat:Int)≤57 then some (Ty.done false) else some (Ty.go ())) else some (Ty.go ())) else none)))))):Option (Ty Bool Unit)) (fun r=>r) (fun _=>(Ub (Ca.l15 K p0 K 0:Option (Ty Bool Unit)) (fun r=>r) (fun _=>some true))))
theorem Ca.ok {K:Nat} {p0:Ge} {r:Bool} (h:Ca K p0=some r):Tz V P 75 [.cv (.str p0)] (.B r):=pc <| e2 Tryz.f75 63 100 fun Γ=>by
 unfold Ca at h;refine Tt L 200 ?_;obtain ⟨o1,hp1,h⟩:=T7 h;refine Tm (T8 (Q':=fun e S=>(e=.normal∧S=⟨[(0,.cv (.str p0))],[]⟩∧Ty.go ()=o1)∨(e=.ret∧∃ a,Ty.done a=o1∧T2 P V Tryz.f75 (.B a) [] .ret S)) ?_ ?_)
 ·clear h;replace h:=hp1;refine Tm <| iS h (fun c1 h=>rg L 202 [(3,true)] [] [] (Tu (Gt c1)) <| tt (b:=true) rfl <| Tt L 225 <| To <| sJ h ▸ (ei Tv)) fun c1 h=>iS h (fun c2 h=>rg L 202 [(3,false),(8,true)] [] [] (Ur (Lt c1) (Gt c2)) <| tt (b:=true) rfl <| Tt L 225 <| To <| sJ h ▸ (ei Tv)) fun c2 h=>bS h fun a1 h1 h=>iS h (fun c3 h=>rg L 202 [(3,false),(8,false),(12,true)] [(10,.B a1)] [] (Tp (Lt c1) (Tp (Lt c2) (Tp (Gq.ok h1) (Tp trivial (Tu c3))))) <| tt (b:=true) rfl <| Tt L 225 <| To <| sJ h ▸ (ei Tv)) fun c3 h=>gS h fun g1 h=>iS h (fun c4 h=>?_) fun c4 h=>?_
  ·refine rg L 202 [(3,false),(8,false),(12,false),(16,true)] [(10,.B a1)] [] (Tp (Lt c1) (Tp (Lt c2) (Tp (Gq.ok h1) (Tp trivial (Tp (Xs c3) (Tp (show (0:Int)≤0 from by decide) (Tp g1 (Tp (Gt c4) (Tp (show (0:Int)≤0 from by decide) (Tu g1)))))))))) <| iS h (fun c5 h=>tT c5 <| Tt L 225 <| To <| sJ h ▸ (ei Tv)) fun c5 h=>fF c5 <| sk (S':=⟨[(0,.cv (.str p0))],[]⟩) ?_
   cases h;exact .inl ⟨rfl,rfl,rfl⟩
  refine rg L 202 [(3,false),(8,false),(12,false),(16,false)] [(10,.B a1)] [] (Tp (Lt c1) (Tp (Lt c2) (Tp (Gq.ok h1) (Tp trivial (Tp (Xs c3) (Tp (show (0:Int)≤0 from by decide) (Tp g1 (Tu (Lt c4))))))))) <| ff (b:=false) (rfl) <| sk (S':=⟨[(0,.cv (.str p0))],[]⟩) ?_;cases h;exact .inl ⟨rfl,rfl,rfl⟩
 ·rintro e S (⟨rfl,rfl,rfl⟩ |⟨rfl,a,rfl,hr⟩)
  ·rcases h with ⟨_,e1,h⟩ |⟨_,e1,h⟩
   ·cases e1
   ·have e2:=Ty.go.inj e1;subst e2;refine Tm <| Tt L 227 <| Ts <| kp (S':=⟨[(0,.cv (.str p0)),(28,.I (p0.length:Int)),(29,.I 0)],[]⟩) ?_;obtain ⟨o2,hp2,h⟩:=T7 h;refine Tx (Q':=fun e S=>(e=.exit 0∧S=⟨[],[]⟩∧Ty.go ()=o2)∨(e=.ret∧∃ a,Ty.done a=o2∧T2 P V Tryz.f75 (.B a) [] .ret S)) (T4 (fun k S=>∃ c:Int,S=⟨[(0,.cv (.str p0)),(28,.I (p0.length:Int)),(29,.I c)],[]⟩∧Ca.l15 K p0 k c=some o2) ?_ ⟨_,rfl,hp2⟩) ?_
    ·clear h hp2;intro k S hS;obtain ⟨c,rfl,h⟩:=hS;cases k with
     | zero=>cases h
     | succ k =>
     unfold Ca.l15 at h;refine Tt L 231 <| Tm <| iS h (fun c6 h=>tT c6 <| Tq <| Tm <| Ts <| Tt L 233 <| Tm <| gS h fun g2 h=>rg L 236 [] [] [] (Ur g2.1 g2.2) <| Tm <| iS h (fun c7 h=>iS h (fun c8 h=>rg L 241 [(2,true),(6,true)] [] [] (Ur (Gt c7) (Gt c8)) <| ff (b:=false) (rfl) <| Tq <| Vd L 271 [] [] [] (S':=⟨[(0,.cv (.str p0)),(28,.I (p0.length:Int)),(29,.I (i64.wrap (c+1)))],[]⟩) <|⟨k,Nat.lt_succ_self k,_,rfl,h⟩) fun c8 h=>iS h (fun c9 h=>iS h (fun c10 h=>rg L 241 [(2,true),(6,false),(9,true),(14,true)] [] [] (Tp (Gt c7) (Tp (Lt c8) (Tp (Gt c9) (Tu (Gt c10))))) <| ff (b:=false) (rfl) <| Tq <| Vd L 271 [] [] [] (S':=⟨[(0,.cv (.str p0)),(28,.I (p0.length:Int)),(29,.I (i64.wrap (c+1)))],[]⟩) <|⟨k,Nat.lt_succ_self k,_,rfl,h⟩) fun c10 h=>iS h (fun c11 h=>iS h (fun c12 h=>rg L 241 [(2,true),(6,false),(9,true),(14,false),(17,true),(22,true)] [] [] (Tp (Gt c7) (Tp (Lt c8) (Tp (Gt c9) (Tp (Lt c10) (Tp (Gt c11) (Tu (Gt c12))))))) <| ff (b:=false) (rfl) <| Tq <| Vd L 271 [] [] [] (S':=⟨[(0,.cv (.str p0)),(28,.I (p0.length:Int)),(29,.I (i64.wrap (c+1)))],[]⟩) <|⟨k,Nat.lt_succ_self k,_,rfl,h⟩) fun c12 h=>rg L 241 [(2,true),(6,false),(9,true),(14,false),(17,true),(22,false)] [] [] (Tp (Gt c7) (Tp (Lt c8) (Tp (Gt c9) (Tp (Lt c10) (Tp (Gt c11) (Tu (Lt c12))))))) <| iS h (fun c13 h=>ff (b:=(!(decide (((p0.getD (Int.toNat c) 0).toNat:Int)=95)))) (congrArg Bool.not (Gt c13)) <| Tq <| Vd L 271 [] [] [] (S':=⟨[(0,.cv (.str p0)),(28,.I (p0.length:Int)),(29,.I (i64.wrap (c+1)))],[]⟩) <|⟨k,Nat.lt_succ_self k,_,rfl,h⟩) fun c13 h=>tt (b:=(!(decide (((p0.getD (Int.toNat c) 0).toNat:Int)=95)))) (congrArg Bool.not (Lt c13)) <| Tt L 269 <| To <| sJ h ▸ (ei Tv)) fun c11 h=>rg L 241 [(2,true),(6,false),(9,true),(14,false),(17,false)] [] [] (Tp (Gt c7) (Tp (Lt c8) (Tp (Gt c9) (Tp (Lt c10) (Tu (Lt c11)))))) <| iS h (fun c14 h=>ff (b:=(!(decide (((p0.getD (Int.toNat c) 0).toNat:Int)=95)))) (congrArg Bool.not (Gt c14)) <| Tq <| Vd L 271 [] [] [] (S':=⟨[(0,.cv (.str p0)),(28,.I (p0.length:Int)),(29,.I (i64.wrap (c+1)))],[]⟩) <|⟨k,Nat.lt_succ_self k,_,rfl,h⟩) fun c14 h=>tt (b:=(!(decide (((p0.getD (Int.toNat c) 0).toNat:Int)=95)))) (congrArg Bool.not (Lt c14)) <| Tt L 269 <| To <| sJ h ▸ (ei Tv)) fun c9 h=>iS h (fun c15 h=>iS h (fun c16 h=>rg L 241 [(2,true),(6,false),(9,false),(17,true),(22,true)] [] [] (Tp (Gt c7) (Tp (Lt c8) (Tp (Lt c9) (Tp (Gt c15) (Tu (Gt c16)))))) <| ff (b:=false) (rfl) <| Tq <| Vd L 271 [] [] [] (S':=⟨[(0,.cv (.str p0)),(28,.I (p0.length:Int)),(29,.I (i64.wrap (c+1)))],[]⟩) <|⟨k,Nat.lt_succ_self k,_,rfl,h⟩) fun c16 h=>rg L 241 [(2,true),(6,false),(9,false),(17,true),(22,false)] [] [] (Tp (Gt c7) (Tp (Lt c8) (Tp (Lt c9) (Tp (Gt c15) (Tu (Lt c16)))))) <| iS h (fun c17 h=>ff (b:=(!(decide (((p0.getD (Int.toNat c) 0).toNat:Int)=95)))) (congrArg Bool.not (Gt c17)) <| Tq <| Vd L 271 [] [] [] (S':=⟨[(0,.cv (.str p0)),(28,.I (p0.length:Int)),(29,.I (i64.wrap (c+1)))],[]⟩) <|⟨k,Nat.lt_succ_self k,_,rfl,h⟩) fun c17 h=>tt (b:=(!(decide (((p0.getD (Int.toNat c) 0).toNat:Int)=95)))) (congrArg Bool.not (Lt c17)) <| Tt L 269 <| To <| sJ h ▸ (ei Tv)) fun c15 h=>rg L 241 [(2,true),(6,false),(9,false),(17,false)] [] [] (Tp (Gt c7) (Tp (Lt c8) (Tp (Lt c9) (Tu (Lt c15))))) <| iS h (fun c18 h=>ff (b:=(!(decide (((p0.getD (Int.toNat c) 0).toNat:Int)=95)))) (congrArg Bool.not (Gt c18)) <| Tq <| Vd L 271 [] [] [] (S':=⟨[(0,.cv (.str p0)),(28,.I (p0.length:Int)),(29,.I (i64.wrap (c+1)))],[]⟩) <|⟨k,Nat.lt_succ_self k,_,rfl,h⟩) fun c18 h=>tt (b:=(!(decide (((p0.getD (Int.toNat c) 0).toNat:Int)=95)))) (congrArg Bool.not (Lt c18)) <| Tt L 269 <| To <| sJ h ▸ (ei Tv)) fun c7 h=>iS h (fun c19 h=>iS h (fun c20 h=>rg L 241 [(2,false),(9,true),(14,true)] [] [] (Tp (Lt c7) (Tp (Gt c19) (Tu (Gt c20)))) <| ff (b:=false) (rfl) <| Tq <| Vd L 271 [] [] [] (S':=⟨[(0,.cv (.str p0)),(28,.I (p0.length:Int)),(29,.I (i64.wrap (c+1)))],[]⟩) <|⟨k,Nat.lt_succ_self k,_,rfl,h⟩) fun c20 h=>iS h (fun c21 h=>iS h (fun c22 h=>rg L 241 [(2,false),(9,true),(14,false),(17,true),(22,true)] [] [] (Tp (Lt c7) (Tp (Gt c19) (Tp (Lt c20) (Tp (Gt c21) (Tu (Gt c22)))))) <| ff (b:=false) (rfl) <| Tq <| Vd L 271 [] [] [] (S':=⟨[(0,.cv (.str p0)),(28,.I (p0.length:Int)),(29,.I (i64.wrap (c+1)))],[]⟩) <|⟨k,Nat.lt_succ_self k,_,rfl,h⟩) fun c22 h=>rg L 241 [(2,false),(9,true),(14,false),(17,true),(22,false)] [] [] (Tp (Lt c7) (Tp (Gt c19) (Tp (Lt c20) (Tp (Gt c21) (Tu (Lt c22)))))) <| iS h (fun c23 h=>ff (b:=(!(decide (((p0.getD (Int.toNat c) 0).toNat:Int)=95)))) (congrArg Bool.not (Gt c23)) <| Tq <| Vd L 271 [] [] [] (S':=⟨[(0,.cv (.str p0)),(28,.I (p0.length:Int)),(29,.I (i64.wrap (c+1)))],[]⟩) <|⟨k,Nat.lt_succ_self k,_,rfl,h⟩) fun c23 h=>tt (b:=(!(decide (((p0.getD (Int.toNat c) 0).toNat:Int)=95)))) (congrArg Bool.not (Lt c23)) <| Tt L 269 <| To <| sJ h ▸ (ei Tv)) fun c21 h=>rg L 241 [(2,false),(9,true),(14,false),(17,false)] [] [] (Tp (Lt c7) (Tp (Gt c19) (Tp (Lt c20) (Tu (Lt c21))))) <| iS h (fun c24 h=>ff (b:=(!(decide (((p0.getD (Int.toNat c) 0).toNat:Int)=95)))) (congrArg Bool.not (Gt c24)) <| Tq <| Vd L 271 [] [] [] (S':=⟨[(0,.cv (.str p0)),(28,.I (p0.length:Int)),(29,.I (i64.wrap (c+1)))],[]⟩) <|⟨k,Nat.lt_succ_self k,_,rfl,h⟩) fun c24 h=>tt (b:=(!(decide (((p0.getD (Int.toNat c) 0).toNat:Int)=95)))) (congrArg Bool.not (Lt c24)) <| Tt L 269 <| To <| sJ h ▸ (ei Tv)) fun c19 h=>iS h (fun c25 h=>iS h (fun c26 h=>rg L 241 [(2,false),(9,false),(17,true),(22,true)] [] [] (Tp (Lt c7) (Tp (Lt c19) (Tp (Gt c25) (Tu (Gt c26))))) <| ff (b:=false) (rfl) <| Tq <| Vd L 271 [] [] [] (S':=⟨[(0,.cv (.str p0)),(28,.I (p0.length:Int)),(29,.I (i64.wrap (c+1)))],[]⟩) <|⟨k,Nat.lt_succ_self k,_,rfl,h⟩) fun c26 h=>rg L 241 [(2,false),(9,false),(17,true),(22,false)] [] [] (Tp (Lt c7) (Tp (Lt c19) (Tp (Gt c25) (Tu (Lt c26))))) <| iS h (fun c27 h=>ff (b:=(!(decide (((p0.getD (Int.toNat c) 0).toNat:Int)=95)))) (congrArg Bool.not (Gt c27)) <| Tq <| Vd L 271 [] [] [] (S':=⟨[(0,.cv (.str p0)),(28,.I (p0.length:Int)),(29,.I (i64.wrap (c+1)))],[]⟩) <|⟨k,Nat.lt_succ_self k,_,rfl,h⟩) fun c27 h=>tt (b:=(!(decide (((p0.getD (Int.toNat c) 0).toNat:Int)=95)))) (congrArg Bool.not (Lt c27)) <| Tt L 269 <| To <| sJ h ▸ (ei Tv)) fun c25 h=>rg L 241 [(2,false),(9,false),(17,false)] [] [] (Tp (Lt c7) (Tp (Lt c19) (Tu (Lt c25)))) <| iS h (fun c28 h=>ff (b:=(!(decide (((p0.getD (Int.toNat c) 0).toNat:Int)=95)))) (congrArg Bool.not (Gt c28)) <| Tq <| Vd L 271 [] [] [] (S':=⟨[(0,.cv (.str p0)),(28,.I (p0.length:Int)),(29,.I (i64.wrap (c+1)))],[]⟩) <|⟨k,Nat.lt_succ_self k,_,rfl,h⟩) fun c28 h=>tt (b:=(!(decide (((p0.getD (Int.toNat c) 0).toNat:Int)=95)))) (congrArg Bool.not (Lt c28)) <| Tt L 269 <| To <| sJ h ▸ (ei Tv)) fun c6 h=>fF c6 <| ex (S':=⟨[],[]⟩) ?_
     cases h;exact .inl ⟨rfl,rfl,rfl⟩
    ·rintro e S (⟨rfl,rfl,rfl⟩ |⟨rfl,a,rfl,hr⟩)
     ·rcases h with ⟨_,e1,h⟩ |⟨_,e1,h⟩
      ·cases e1
      ·have e2:=Ty.go.inj e1;subst e2;refine ⟨_,Tn.refl,?_⟩;exact Tt L 274 <| To <| sJ h ▸ Tv
     ·rcases h with ⟨_,e1,h⟩ |⟨_,e1,h⟩
      ·have e2:=Ty.done.inj e1;subst e2;subst h;exact ⟨_,Tn.refl,hr⟩
      ·cases e1
  ·rcases h with ⟨_,e1,h⟩ |⟨_,e1,h⟩
   ·have e2:=Ty.done.inj e1;subst e2;subst h;exact hr
   ·cases e1
structure A2 where
 Fd:Aa→Option Bool
 Fb:Aa→Option Bool
 Du:(List Aa)→Option Int
 Ec:(List Aa)→Option Bool
 Fx:(List Aa)→Option Bool
 Er:Aa→Option Bool
 Db:(List Aa)→Option Int
 D0:(List Aa)→Option Bool
 D4:(List Aa)→Option Bool
 Bq:Aa→Option Bool
structure A2.Ok (R:A2):Prop where
 Fd:∀ {p0:Aa} {r:Bool},R.Fd p0=some r→T1 V P 89 [.agg (Ag p0)] [] [] (.B r) []
 Fb:∀ {p0:Aa} {r:Bool},R.Fb p0=some r→T1 V P 74 [.agg (Ag p0),.cv (.pcs [.fn (.func 89) [] []] 0)] [] [] (.B r) []
 Du:∀ {p0:List Aa} {r:Int},R.Du p0=some r→T1 V P 112 [.cv (.ro .Af p0),.cv (.fn (.func 74) [] [.pcs [.fn (.func 89) [] []] 0])] [] [] (.I r) []
 Ec:∀ {p0:List Aa} {r:Bool},R.Ec p0=some r→T1 V P 73 [.cv (.ro .Af p0),.cv (.fn (.func 74) [] [.pcs [.fn (.func 89) [] []] 0])] [] [] (.B r) []
 Fx:∀ {p0:List Aa} {r:Bool},R.Fx p0=some r→T1 V P 35 [.cv (.ro .Af p0),.cv (.fn (.func 89) [] [])] [] [] (.B r) []
 Er:∀ {p0:Aa} {r:Bool},R.Er p0=some r→T1 V P 74 [.agg (Ag p0),.cv (.pcs [.fn (.func 44) [] []] 0)] [] [] (.B r) []
 Db:∀ {p0:List Aa} {r:Int},R.Db p0=some r→T1 V P 112 [.cv (.ro .Af p0),.cv (.fn (.func 74) [] [.pcs [.fn (.func 44) [] []] 0])] [] [] (.I r) []
 D0:∀ {p0:List Aa} {r:Bool},R.D0 p0=some r→T1 V P 73 [.cv (.ro .Af p0),.cv (.fn (.func 74) [] [.pcs [.fn (.func 44) [] []] 0])] [] [] (.B r) []
 D4:∀ {p0:List Aa} {r:Bool},R.D4 p0=some r→T1 V P 35 [.cv (.ro .Af p0),.cv (.fn (.func 44) [] [])] [] [] (.B r) []
 Bq:∀ {p0:Aa} {r:Bool},R.Bq p0=some r→T1 V P 44 [.agg (Ag p0)] [] [] (.B r) []
def Fd.F (K:Nat) (R:A2) (p0:Aa):Option Bool:=(if p0.Op=9 then ((A5 K p0 false true false).bind fun a1=>(if a1=true then (if (p0.Text.length:Int)≤4096 then (if (p0.Kids.length:Int)=1 then (if (0:Int) <(p0.Kids.length:Int) then ((R.Bq (p0.Kids.getD (Int.toNat 0) Ah)).bind fun a2=>some a2) else none) else some false) else some false) else some false)) else some false)
theorem Fd.body {Γ:Ue} {K:Nat} {R:A2} (hR:R.Ok) {p0:Aa} {r:Bool} (h:Fd.F K R p0=some r):Uc V P 29 100 Γ (Tryz.f89.body.getD .skip) (T2 P V Tryz.f89 (.B r) []) ⟨T0 0 [.agg (Ag p0)],[]⟩:=by
 unfold Fd.F at h;exact Tt L 200 <| Tm <| iS h (fun c1 h=>bS h fun a1 h1 h=>iS h (fun c2 h=>iS h (fun c3 h=>iS h (fun c4 h=>gS h fun g1 h=>bS h fun a2 h2 h=>rg L 203 [(3,true),(7,true),(13,true),(19,true)] [(5,.B a1),(24,.B a2)] [] (Tp (Gt c1) (Tp (A5.ok h1) (Tp trivial (Tp c2 (Tp (Gt c3) (Tp (Gt c4) (Tp (show (0:Int)≤0 from by decide) (Tp g1 (Tp (pc (hR.Bq h2)) (Tu trivial)))))))))) <| To <| sJ h ▸ Tv) fun c4 h=>rg L 203 [(3,true),(7,true),(13,true),(19,false)] [(5,.B a1)] [] (Tp (Gt c1) (Tp (A5.ok h1) (Tp trivial (Tp c2 (Tp (Gt c3) (Tu (Lt c4))))))) <| To <| sJ h ▸ Tv) fun c3 h=>rg L 203 [(3,true),(7,true),(13,false)] [(5,.B a1)] [] (Tp (Gt c1) (Tp (A5.ok h1) (Tp trivial (Tp c2 (Tu (Lt c3)))))) <| To <| sJ h ▸ Tv) fun c2 h=>rg L 203 [(3,true),(7,false)] [(5,.B a1)] [] (Tp (Gt c1) (Tp (A5.ok h1) (Tp trivial (Tu (Xs c2))))) <| To <| sJ h ▸ Tv) fun c1 h=>rg L 203 [(3,false)] [] [] (Tu (Lt c1)) <| To <| sJ h ▸ Tv
def Fb.F (K:Nat) (R:A2) (p0:Aa):Option Bool:=((R.Fd p0).bind fun a1=>some (!a1))
theorem Fb.body {Γ:Ue} {K:Nat} {R:A2} (hR:R.Ok) {p0:Aa} {r:Bool} (h:Fb.F K R p0=some r):Uc V P 8 100 Γ (Tryz.f74.body.getD .skip) (T2 P V Tryz.f74 (.B r) []) ⟨T0 0 [.agg (Ag p0),.cv (.pcs [.fn (.func 89) [] []] 0)],[]⟩:=by
 unfold Fb.F at h;exact Tt L 200 <| Tm <| bS h fun a1 h1 h=>rg L 203 [] [(2,.B a1)] [] (Uq (pc (hR.Fd h1))) <| To <| sJ h ▸ Tv
def Du.l7 (K:Nat) (R:A2) (p0:List Aa):Nat→Int→Option (Ty Int Unit)
 | 0,_=>none
 | k+1,a=>(if a <(p0.length:Int) then (if (0:Int)≤a∧(a:Int) <(p0.length:Int) then ((R.Fb (p0.getD (Int.toNat a) Ah)).bind fun a1=>(if a1=true then some (Ty.done a) else Du.l7 K R p0 k (i64.wrap (a+1)))) else none) else some (Ty.go ()))
def Du.F (K:Nat) (R:A2) (p0:List Aa):Option Int:=(Ub (Du.l7 K R p0 K 0:Option (Ty Int Unit)) (fun r=>r) (fun _=>some (-1)))
theorem Du.body {Γ:Ue} {K:Nat} {R:A2} (hR:R.Ok) {p0:List Aa} {r:Int} (h:Du.F K R p0=some r):Uc V P 19 100 Γ (Tryz.f112.body.getD .skip) (T2 P V Tryz.f112 (.I r) []) ⟨T0 0 [.cv (.ro .Af p0),.cv (.fn (.func 74) [] [.pcs [.fn (.func 89) [] []] 0])],[]⟩:=by
 unfold Du.F at h;refine Tt L 200 <| Tm <| Tt L 202 <| Ts <| kp (S':=⟨[(0,.cv (.ro .Af p0)),(1,.cv (.fn (.func 74) [] [.pcs [.fn (.func 89) [] []] 0])),(7,.I (p0.length:Int)),(8,.I 0)],[]⟩) ?_;obtain ⟨o1,hp1,h⟩:=T7 h;refine Tx (Q':=fun e S=>(e=.exit 0∧S=⟨[],[]⟩∧Ty.go ()=o1)∨(e=.ret∧∃ a,Ty.done a=o1∧T2 P V Tryz.f112 (.I a) [] .ret S)) (T4 (fun k S=>∃ b:Int,S=⟨[(0,.cv (.ro .Af p0)),(1,.cv (.fn (.func 74) [] [.pcs [.fn (.func 89) [] []] 0])),(7,.I (p0.length:Int)),(8,.I b)],[]⟩∧Du.l7 K R p0 k b=some o1) ?_ ⟨_,rfl,hp1⟩) ?_
 ·clear h hp1;intro k S hS;obtain ⟨b,rfl,h⟩:=hS;cases k with
  | zero=>cases h
  | succ k =>
  unfold Du.l7 at h;refine Tt L 206 <| Tm <| iS h (fun c1 h=>tT c1 <| Tq <| Tm <| Ts <| Tt L 208 <| Tm <| gS h fun g1 h=>bS h fun a1 h1 h=>rg L 211 [] [(5,.B a1)] [] (Tp g1.1 (Tp g1.2 (Tp (pc (hR.Fb h1)) (Tu trivial)))) <| iS h (fun c2 h=>tt c2 <| Tt L 218 <| To <| sJ h ▸ (ei Tv)) fun c2 h=>fN c2 <| Tq <| Vd L 221 [] [] [] (S':=⟨[(0,.cv (.ro .Af p0)),(1,.cv (.fn (.func 74) [] [.pcs [.fn (.func 89) [] []] 0])),(7,.I (p0.length:Int)),(8,.I (i64.wrap (b+1)))],[]⟩) <|⟨k,Nat.lt_succ_self k,_,rfl,h⟩) fun c1 h=>fF c1 <| ex (S':=⟨[],[]⟩) ?_
  cases h;exact .inl ⟨rfl,rfl,rfl⟩
 ·rintro e S (⟨rfl,rfl,rfl⟩ |⟨rfl,a,rfl,hr⟩)
  ·rcases h with ⟨_,e1,h⟩ |⟨_,e1,h⟩
   ·cases e1
   ·have e2:=Ty.go.inj e1;subst e2;refine ⟨_,Tn.refl,?_⟩;exact Tt L 224 <| To <| sJ h ▸ Tv
  ·rcases h with ⟨_,e1,h⟩ |⟨_,e1,h⟩
   ·have e2:=Ty.done.inj e1;subst e2;subst h;exact ⟨_,Tn.refl,hr⟩
   ·cases e1
def Ec.F (K:Nat) (R:A2) (p0:List Aa):Option Bool:=((R.Du p0).bind fun a1=>some (decide (a1≥0)))
theorem Ec.body {Γ:Ue} {K:Nat} {R:A2} (hR:R.Ok) {p0:List Aa} {r:Bool} (h:Ec.F K R p0=some r):Uc V P 9 100 Γ (Tryz.f73.body.getD .skip) (T2 P V Tryz.f73 (.B r) []) ⟨T0 0 [.cv (.ro .Af p0),.cv (.fn (.func 74) [] [.pcs [.fn (.func 89) [] []] 0])],[]⟩:=by
 unfold Ec.F at h;exact Tt L 200 <| Tm <| bS h fun a1 h1 h=>rg L 202 [] [(2,.I a1)] [] (Uq (pc (hR.Du h1))) <| To <| sJ h ▸ Tv
def Fx.F (K:Nat) (R:A2) (p0:List Aa):Option Bool:=((R.Ec p0).bind fun a1=>some (!a1))
theorem Fx.body {Γ:Ue} {K:Nat} {R:A2} (hR:R.Ok) {p0:List Aa} {r:Bool} (h:Fx.F K R p0=some r):Uc V P 9 100 Γ (Tryz.f35.body.getD .skip) (T2 P V Tryz.f35 (.B r) []) ⟨T0 0 [.cv (.ro .Af p0),.cv (.fn (.func 89) [] [])],[]⟩:=by
 unfold Fx.F at h;exact Tt L 200 <| Tm <| bS h fun a1 h1 h=>rg L 203 [] [(2,.B a1)] [] (Uq (pc (hR.Ec h1))) <| To <| sJ h ▸ Tv
def Er.F (K:Nat) (R:A2) (p0:Aa):Option Bool:=((R.Bq p0).bind fun a1=>some (!a1))
theorem Er.body {Γ:Ue} {K:Nat} {R:A2} (hR:R.Ok) {p0:Aa} {r:Bool} (h:Er.F K R p0=some r):Uc V P 8 100 Γ (Tryz.f74.body.getD .skip) (T2 P V Tryz.f74 (.B r) []) ⟨T0 0 [.agg (Ag p0),.cv (.pcs [.fn (.func 44) [] []] 0)],[]⟩:=by
 unfold Er.F at h;exact Tt L 200 <| Tm <| bS h fun a1 h1 h=>rg L 203 [] [(2,.B a1)] [] (Uq (pc (hR.Bq h1))) <| To <| sJ h ▸ Tv
end Go.Proofs.YtdgejpgbppfhmaaGreatDoor
