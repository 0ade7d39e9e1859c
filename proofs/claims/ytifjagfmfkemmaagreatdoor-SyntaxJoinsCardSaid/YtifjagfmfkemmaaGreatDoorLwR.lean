import Derived.Test.YtifjagfmfkemmaaGreatDoorLwQ
set_option linter.unusedVariables false
set_option linter.unusedSimpArgs false
set_option maxHeartbeats 4000000
namespace Go.Proofs.YtifjagfmfkemmaaGreatDoor
open Eng Go
def sq {α β:Type} (p:List Tk→Rs α) (f:α→List Tk→Rs β) (ts:List Tk):Rs β:=bnd (p ts) f
def al {α:Type} (s:List UInt8) (p q:List Tk→Rs α) (ts:List Tk):Rs α:=if isS s ts=true then p ts.tail else q ts
def fl {α:Type} (ts:List Tk):Rs α:=some (.error ts)
def J8:List Tk→Bool
 | t :: u :: _=>decide (t.Kind=1) && (decide (u.Kind=5) && decide (u.Text=[61]))
 | _=>false
def ia {α:Type} (p q:List Tk→Rs α) (ts:List Tk):Rs α:=if J8 ts=true then p ts else q ts
structure SB where
 bl:List Tk→Rs Nd
 sm:List Tk→Rs Nd
 cd:List Tk→Rs Nd
section
variable (E:SP)
def I9:List Tk→Rs Nd:=sq E.ex fun a=>sq (D5 [59]) fun _=>pok a
def Gh (sm:List Tk→Rs Nd):Nat→List Nd→List Tk→Rs (List Nd)
 | 0,_=>fun _=>none
 | k+1,acc=>al [125] (pok acc) (sq sm fun a=>Gh sm k (acc++[a]))
def blF (R:SB):List Tk→Rs Nd:=sq (D5 [123]) fun _=>sq (fun ts=>Gh R.sm (ts.length+1) [] ts) fun ks=>pok (nd 53 ks)
def cdF (R:SB):List Tk→Rs Nd:=sq E.ex fun a=>sq R.bl fun b=>al [101,108,115,101] (al [105,102] (sq R.cd fun c=>pok (nd 42 [a,b,c])) (sq R.bl fun c=>pok (nd 42 [a,b,c]))) (pok (nd 42 [a,b]))
def Jn (bl:List Tk→Rs Nd) (s:List UInt8):List Tk→Rs Nd:=sq E.ex fun a=>sq bl fun b=>pok ⟨50,s,0,[],[a,b]⟩
def Ja (bl:List Tk→Rs Nd):List Tk→Rs Nd:=ia (sq Fi fun s=>sq (D5 [61]) fun _=>Jn E bl s) (Jn E bl [])
def chL (bl:List Tk→Rs Nd):Nat→List Nd→List Tk→Rs (List Nd)
 | 0,_=>fun _=>none
 | k+1,acc=>fun ts=>if isS [99,97,115,101] ts=true then (if acc.length=16 then fl ts else sq (Ja E bl) (fun a=>chL bl k (acc++[a])) ts.tail) else pok acc ts
def elS (bl:List Tk→Rs Nd) (ks:List Nd):List Tk→Rs (List Nd):=al [101,108,115,101] (sq bl fun b=>pok (ks++[nd 51 [b]])) (pok ks)
def chE (ks:List Nd):List Tk→Rs Nd:=if ks.length=0 then fl else sq (D5 [125]) fun _=>pok (nd 49 ks)
def chS (bl:List Tk→Rs Nd):List Tk→Rs Nd:=sq (D5 [123]) fun _=>sq (fun ts=>chL E bl (ts.length+1) [] ts) fun ks=>sq (elS bl ks) chE
def Mr (op:Int) (s:List UInt8):List Tk→Rs Nd:=sq (D5 [61]) fun _=>sq (I9 E) fun a=>pok ⟨op,s,0,[],[a]⟩
def Mq:List Tk→Rs Nd:=ia (sq Fi (Mr E 41)) (sq (I9 E) fun a=>pok (nd 52 [a]))
def smF (R:SB):List Tk→Rs Nd :=
 al [108,101,116] (sq Fi (Mr E 40)) <|
 al [105,102] R.cd <|
 al [119,104,105,108,101] (sq E.ex fun a=>sq R.bl fun b=>pok (nd 43 [a,b])) <|
 al [114,101,116,117,114,110] (al [59] (pok (nd 44 [])) (sq (I9 E) fun a=>pok (nd 44 [a]))) <|
 al [116,104,114,111,119] (sq (I9 E) fun a=>pok (nd 45 [a])) <|
 al [116,114,121] (sq R.bl fun a=>sq (D5 [99,97,116,99,104]) fun _=>sq Fi fun s=>sq R.bl fun b=>pok ⟨46,s,0,[],[a,b]⟩) <|
 al [115,97,103,97] (sq R.bl fun a=>pok (nd 47 [a])) <|
 al [117,110,100,111] (sq Fi fun s=>sq (Ga E 48 s) fun a=>sq (D5 [59]) fun _=>pok a) <|
 al [115,101,108,101,99,116] (chS E R.bl) (Mq E)
def SBF (R:SB):SB:=⟨blF R,smF E R,cdF E R⟩
def SBu:Nat→SB
 | 0=>⟨fun _=>none,fun _=>none,fun _=>none⟩
 | f+1=>SBF E (SBu f)
end
def Kd (ts:List Tk):Rs Nd:=match Hl ts with
 | some (a,r)=>pok a r
 | none=>fl ts
def Ib:List Tk→Rs Nd:=al [45] (sq (Fo 3) fun t=>pok (nd 14 [⟨4,[],t.Int,[],[]⟩])) Kd
def H6:List Tk→Rs Nd:=sq Fi fun s=>pok ⟨6,s,0,[],[]⟩
def G2:Ops:=[([115,105,103,110,97,108],63),([113,117,101,114,121],64),([117,112,100,97,116,101],65)]
section
variable (bl:List Tk→Rs Nd)
def J9 (op:Int):List Tk→Rs (List Nd):=if op=65 then al [99,104,101,99,107] (sq bl fun b=>pok [b]) (pok []) else pok []
def Mw (op:Int):List Tk→Rs Nd:=sq Fi fun s=>sq (D5 [40]) fun _=>sq Fi fun x=>sq (D5 [41]) fun _=>sq (J9 bl op) fun ks=>sq bl fun b=>pok ⟨op,s,0,x,ks++[b]⟩
def Iz (ts:List Tk):Rs Nd:=match Ev G2 ts with
 | none=>fl ts
 | some op=>Mw bl op ts.tail
def Mx:List Tk→Rs Nd:=sq Fi fun s=>sq (D5 [61]) fun _=>sq Ib fun a=>sq (D5 [59]) fun _=>pok ⟨61,s,0,[],[a]⟩
def fnS:List Tk→Rs Nd:=sq Fi fun s=>sq (D5 [40]) fun _=>sq (Fv [41] H6) fun ks=>sq bl fun b=>pok ⟨62,s,0,[],ks++[b]⟩
def Kc:List Tk→Rs Nd:=al [118,97,114] Mx <| al [102,117,110,99] (fnS bl) <| sq (D5 [111,110]) fun _=>Iz bl
def hdK (k:Int):List Tk→Bool
 | []=>false
 | t :: _=>decide (t.Kind=k)
def Fy:Nat→List Nd→List Tk→Rs (List Nd)
 | 0,_=>fun _=>none
 | k+1,acc=>fun ts=>if hdK 0 ts=true then pok acc ts else sq (Kc bl) (fun a=>Fy k (acc++[a])) ts
def Lp:List Tk→Rs Nd:=sq (fun ts=>Fy bl (ts.length+1) [] ts) fun ks=>pok (nd 60 ks)
end
section
variable {α β:Type}
theorem Snd.le {p:List Tk→Rs α} (h:Snd 1 p):Snd 0 p:=fun ts hg r hr=>(h ts hg r hr).le (by omega)
theorem Snd.sq {d:Nat} {p:List Tk→Rs α} {f:α→List Tk→Rs β} (hp:Snd d p) (hf:∀ a,Snd 0 (f a)):Snd d (sq p f):=fun ts hg r hr=>Snd.bnd (d:=d) (e:=0) (hp ts hg) hf r hr
theorem Snd.al {d:Nat} (hd:d≤1) {s:List UInt8} {p q:List Tk→Rs α} (hp:Snd 0 p) (hq:Snd d q):Snd d (al s p q):=fun ts hg r hr=>by
 unfold Go.Proofs.YtifjagfmfkemmaaGreatDoor.al at hr;split at hr
 ·have h1:=Eat.isS hg (by assumption);exact (Ate.after h1 (hp _ h1.2.2 r hr)).le (by omega)
 ·exact hq ts hg r hr
theorem Snd.ia {d:Nat} {p q:List Tk→Rs α} (hp:Snd d p) (hq:Snd d q):Snd d (ia p q):=fun ts hg r hr=>by
 unfold Go.Proofs.YtifjagfmfkemmaaGreatDoor.ia at hr;split at hr
 ·exact hp ts hg r hr
 ·exact hq ts hg r hr
theorem Ks {d:Nat}:Snd d (fl (α:=α)):=fun ts hg r hr=>by cases hr; exact Eat.self hg
end
structure Iv (R:SB):Prop where
 bl:Snd 1 R.bl
 sm:Snd 1 R.sm
 cd:Snd 1 R.cd
section
variable {E:SP} (hE:Gp E)
include hE
theorem Fg:Snd 1 (I9 E):=hE.ex.sq fun a=>(Cf _).le.sq fun _=>Cn _
omit hE in
theorem Gf {sm:List Tk→Rs Nd} (h:Snd 1 sm):∀ (k:Nat) (acc:List Nd),Snd 1 (Gh sm k acc)
 | 0,acc,ts,hg,r,hr=>by cases hr
 | k+1,acc,ts,hg,r,hr=>Snd.al (d:=1) (by omega) (Cn acc) (h.sq fun a=>(Gf h k _).le) ts hg r hr
omit hE in
theorem Tg {R:SB} (h:Iv R):Snd 1 (blF R):=(Cf _).sq fun _=>Snd.sq (fun ts=>(Gf h.sm _ _).le ts) fun ks=>Cn _
theorem Tb {R:SB} (h:Iv R):Snd 1 (cdF E R):=hE.ex.sq fun a=>h.bl.le.sq fun b=>Snd.al (by omega) (Snd.al (by omega) (h.cd.le.sq fun c=>Cn _) (h.bl.le.sq fun c=>Cn _)) (Cn _)
theorem Hr {bl:List Tk→Rs Nd} (h:Snd 1 bl) (s:List UInt8):Snd 1 (Jn E bl s):=hE.ex.sq fun a=>h.le.sq fun b=>Cn _
theorem Ii {bl:List Tk→Rs Nd} (h:Snd 1 bl):Snd 1 (Ja E bl):=Snd.ia (C6.sq fun s=>(Cf _).le.sq fun _=>(Hr hE h s).le) (Hr hE h [])
theorem He {bl:List Tk→Rs Nd} (h:Snd 1 bl):∀ (k:Nat) (acc:List Nd),Snd 0 (chL E bl k acc)
 | 0,acc,ts,hg,r,hr=>by cases hr
 | k+1,acc,ts,hg,r,hr=>by
  simp only [chL] at hr;split at hr
  ·split at hr
   ·cases hr; exact Eat.self hg
   ·have h1:=Eat.isS hg (by assumption);exact (Ate.after h1 (((Ii hE h).le.sq fun a=>He h k _) _ h1.2.2 r hr)).le (by omega)
  ·cases hr; exact Eat.self hg
omit hE in
theorem Jh {bl:List Tk→Rs Nd} (h:Snd 1 bl) (ks:List Nd):Snd 0 (elS bl ks):=Snd.al (by omega) (h.le.sq fun b=>Cn _) (Cn _)
omit hE in
theorem Q6 (ks:List Nd):Snd 0 (chE ks):=by
 unfold chE;split
 ·exact Ks
 ·exact (Cf _).le.sq fun _=>Cn _
theorem Nh {bl:List Tk→Rs Nd} (h:Snd 1 bl):Snd 1 (chS E bl):=(Cf _).sq fun _=>Snd.sq (fun ts=>He hE h _ _ ts) fun ks=>(Jh h ks).sq fun ks=>Q6 ks
theorem Hu (op:Int) (s:List UInt8):Snd 1 (Mr E op s):=(Cf _).sq fun _=>(Fg hE).le.sq fun a=>Cn _
theorem M8:Snd 1 (Mq E):=Snd.ia (C6.sq fun s=>(Hu hE _ s).le) ((Fg hE).sq fun a=>Cn _)
theorem R5 {R:SB} (h:Iv R):Snd 1 (smF E R) :=
 Snd.al (by omega) (C6.le.sq fun s=>(Hu hE _ s).le) <|
 Snd.al (by omega) h.cd.le <|
 Snd.al (by omega) (hE.ex.le.sq fun a=>h.bl.le.sq fun b=>Cn _) <|
 Snd.al (by omega) (Snd.al (by omega) (Cn _) ((Fg hE).le.sq fun a=>Cn _)) <|
 Snd.al (by omega) ((Fg hE).le.sq fun a=>Cn _) <|
 Snd.al (by omega) (h.bl.le.sq fun a=>(Cf _).le.sq fun _=>C6.le.sq fun s=>h.bl.le.sq fun b=>Cn _) <|
 Snd.al (by omega) (h.bl.le.sq fun a=>Cn _) <|
 Snd.al (by omega) (C6.le.sq fun s=>(F6 hE _ s).le.sq fun a=>(Cf _).le.sq fun _=>Cn _) <|
 Snd.al (by omega) (Nh hE h.bl).le (M8 hE)
theorem Ky:∀ f,Iv (SBu E f)
 | 0=>⟨fun _ _ _ h=>(by cases h),fun _ _ _ h=>(by cases h),fun _ _ _ h=>(by cases h)⟩
 | f+1=>⟨Tg (Ky f),R5 hE (Ky f),Tb hE (Ky f)⟩
end
theorem M3:Snd 1 Kd:=fun ts hg r hr=>by
 unfold Kd at hr;split at hr
 ·rename_i a u hl;cases hr; exact (Jm hg hl).1
 ·cases hr; exact Eat.self hg
theorem Gr:Snd 1 Ib:=Snd.al (by omega) ((Gi (by decide)).le.sq fun t=>Cn _) M3
theorem F3:Snd 1 H6:=C6.sq fun s=>Cn _
section
variable {bl:List Tk→Rs Nd} (h:Snd 1 bl)
include h
theorem Jl (op:Int):Snd 0 (J9 bl op):=by
 unfold J9;split
 ·exact Snd.al (by omega) (h.le.sq fun b=>Cn _) (Cn _)
 ·exact Cn _
theorem Lh (op:Int):Snd 1 (Mw bl op):=C6.sq fun s=>(Cf _).le.sq fun _=>C6.le.sq fun x=>(Cf _).le.sq fun _=>(Jl h op).sq fun ks=>h.le.sq fun b=>Cn _
theorem Je:Snd 1 (Iz bl):=fun ts hg r hr=>by
 unfold Iz at hr;split at hr
 ·cases hr; exact Eat.self hg
 ·rename_i ho;obtain ⟨s,hs⟩:=E4 ho;have h1:=Eat.isS hg hs;exact (Ate.after h1 (Lh h _ _ h1.2.2 r hr)).le (by omega)
omit h in
theorem M1:Snd 1 Mx:=C6.sq fun s=>(Cf _).le.sq fun _=>Gr.le.sq fun a=>(Cf _).le.sq fun _=>Cn _
theorem Mj:Snd 1 (fnS bl):=C6.sq fun s=>(Cf _).le.sq fun _=>(Eo F3).le.sq fun ks=>h.le.sq fun b=>Cn _
theorem Js:Snd 1 (Kc bl):=Snd.al (by omega) M1.le <| Snd.al (by omega) (Mj h).le <|(Cf _).sq fun _=>(Je h).le
theorem Ht:∀ (k:Nat) (acc:List Nd),Snd 0 (Fy bl k acc)
 | 0,acc,ts,hg,r,hr=>by cases hr
 | k+1,acc,ts,hg,r,hr=>by
  simp only [Fy] at hr;split at hr
  ·cases hr; exact Eat.self hg
  ·exact ((Js h).le.sq fun a=>Ht k _) _ hg r hr
theorem Pa:Snd 0 (Lp bl):=Snd.sq (fun ts=>Ht h _ _ ts) fun ks=>Cn _
end
theorem Tot.sq {α β:Type} {n d:Nat} {p:List Tk→Rs α} {f:α→List Tk→Rs β} (hs:Snd d p) (hp:Tot n p) (hf:∀ a,Tot (n - d) (f a)):Tot n (sq p f):=fun ts hg hn=>Et (hp ts hg hn) fun a ts' e=>by
 have h:Eat d ts ts':=hs _ hg _ e
 have:=h.2.1
 exact hf a ts' h.2.2 (by omega)
theorem Tot.al {α:Type} {n:Nat} {s:List UInt8} {p q:List Tk→Rs α} (hp:Tot (n - 1) p) (hq:Tot n q):Tot n (al s p q):=fun ts hg hn=>by
 unfold Go.Proofs.YtifjagfmfkemmaaGreatDoor.al;split
 ·have h1:=Eat.isS hg (by assumption);have h2:=h1.2.1;exact hp _ h1.2.2 (by omega)
 ·exact hq ts hg hn
theorem Tot.ia {α:Type} {n:Nat} {p q:List Tk→Rs α} (hp:Tot n p) (hq:Tot n q):Tot n (ia p q):=fun ts hg hn=>by
 unfold Go.Proofs.YtifjagfmfkemmaaGreatDoor.ia;split
 ·exact hp ts hg hn
 ·exact hq ts hg hn
theorem Sd {α:Type} {n:Nat}:Tot n (fl (α:=α)):=fun ts hg hn=>⟨_,rfl⟩
theorem Fd {α:Type} {n:Nat} (a:α):Tot n (pok a):=fun ts hg hn=>⟨_,rfl⟩
theorem G0 {n:Nat} (s:List UInt8):Tot n (D5 s):=fun ts hg hn=>Gu s ts
theorem H4 {n:Nat}:Tot n Fi:=fun ts hg hn=>J6 hg
section
variable {E:SP} (hE:Gp E) {n:Nat} (tE:Tot n E.ex)
include hE tE
theorem Jg:Tot n (I9 E):=Tot.sq (d:=0) hE.ex.le tE fun a=>Tot.sq (d:=0) (Cf _).le (G0 _) fun _=>Fd _
omit hE tE in
theorem Kb {sm:List Tk→Rs Nd} (hs:Snd 1 sm) (ht:Tot n sm):∀ (k:Nat) (acc:List Nd) (ts:List Tk),Fh ts→ts.length≤n→ts.length < k→∃ r,Gh sm k acc ts=some r
 | 0,acc,ts,hg,hn,hk=>by omega
 | k+1,acc,ts,hg,hn,hk=>by
  simp only [Gh,al];split
  ·exact ⟨_,rfl⟩
  ·refine Et (ht ts hg hn) fun a ts' he=>?_
   have h1:Eat 1 _ ts':=hs _ hg _ he
   have:=h1.2.1
   exact Kb hs ht k _ _ h1.2.2 (by omega) (by omega)
omit hE tE in
theorem R6 {R:SB} (h:Iv R) (ht:Tot (n - 1) R.sm):Tot n (blF R):=Tot.sq (d:=1) (Cf _) (G0 _) fun _=>Tot.sq (d:=0) (fun ts=>(Gf h.sm _ _).le ts) (fun ts hg hn=>Kb h.sm ht _ _ _ hg hn (by omega)) fun ks=>Fd _
theorem Sz {R:SB} (h:Iv R) (ht:Tot (n - 1) R.bl) (hc:Tot (n - 1) R.cd):Tot n (cdF E R):=Tot.sq (d:=1) hE.ex tE fun a=>Tot.sq (d:=0) h.bl.le ht fun b=>Tot.al (Tot.al (Tot.sq (d:=0) h.cd.le (hc.le (by omega)) fun c=>Fd _) (Tot.sq (d:=0) h.bl.le (ht.le (by omega)) fun c=>Fd _)) (Fd _)
theorem L6 {bl:List Tk→Rs Nd} (h:Snd 1 bl) (ht:Tot n bl) (s:List UInt8):Tot n (Jn E bl s):=Tot.sq (d:=0) hE.ex.le tE fun a=>Tot.sq (d:=0) h.le ht fun b=>Fd _
theorem Po {bl:List Tk→Rs Nd} (h:Snd 1 bl) (ht:Tot n bl):Tot n (Ja E bl):=Tot.ia (Tot.sq (d:=0) C6.le H4 fun s=>Tot.sq (d:=0) (Cf _).le (G0 _) fun _=>L6 hE tE h ht s) (L6 hE tE h ht [])
theorem Nr {bl:List Tk→Rs Nd} (h:Snd 1 bl) (ht:Tot n bl):∀ (k:Nat) (acc:List Nd) (ts:List Tk),Fh ts→ts.length≤n→ts.length < k→∃ r,chL E bl k acc ts=some r
 | 0,acc,ts,hg,hn,hk=>by omega
 | k+1,acc,ts,hg,hn,hk=>by
  simp only [chL];split
  ·split
   ·exact ⟨_,rfl⟩
   ·have h1:=Eat.isS hg (by assumption);have h2:=h1.2.1;refine Et (Po hE tE h ht _ h1.2.2 (by omega)) fun a ts' e=>?_
    have h3:Eat 1 _ ts':=Ii hE h _ h1.2.2 _ e
    have:=h3.2.1
    exact Nr h ht k _ _ h3.2.2 (by omega) (by omega)
  ·exact ⟨_,rfl⟩
omit hE tE in
theorem Qz {bl:List Tk→Rs Nd} (h:Snd 1 bl) (ht:Tot n bl) (ks:List Nd):Tot n (elS bl ks):=Tot.al (Tot.sq (d:=0) h.le (ht.le (by omega)) fun b=>Fd _) (Fd _)
omit hE tE in
theorem Q8 (ks:List Nd):Tot n (chE ks):=by
 unfold chE;split
 ·exact Sd
 ·exact Tot.sq (d:=0) (Cf _).le (G0 _) fun _=>Fd _
theorem Qw {bl:List Tk→Rs Nd} (h:Snd 1 bl) (ht:Tot n bl):Tot n (chS E bl):=Tot.sq (d:=0) (Cf _).le (G0 _) fun _=>Tot.sq (d:=0) (fun ts=>He hE h _ _ ts) (fun ts hg hn=>Nr hE tE h ht _ _ _ hg hn (by omega)) fun ks=>Tot.sq (d:=0) (Jh h ks) (Qz h ht ks) fun ks=>Q8 ks
theorem Ng (op:Int) (s:List UInt8):Tot n (Mr E op s):=Tot.sq (d:=0) (Cf _).le (G0 _) fun _=>Tot.sq (d:=0) (Fg hE).le (Jg hE tE) fun a=>Fd _
theorem Qn:Tot n (Mq E):=Tot.ia (Tot.sq (d:=0) C6.le H4 fun s=>Ng hE tE _ s) (Tot.sq (d:=0) (Fg hE).le (Jg hE tE) fun a=>Fd _)
theorem Sa (op:Int) (s:List UInt8):Tot n (Ga E op s):=fun ts hg hn=>Jx (n:=n) hE (tE.le (by omega)) op s hg hn
end
theorem Sm {E:SP} (hE:Gp E) {n:Nat} (tE:Tot n E.ex) {R:SB} (h:Iv R) (ht:Tot (n - 1) R.bl) (hc:Tot (n - 1) R.cd):Tot n (smF E R):=by
 have tE':Tot (n - 1) E.ex:=tE.le (by omega);exact Tot.al (Tot.sq (d:=0) C6.le H4 fun s=>Ng hE tE' _ s) <|
  Tot.al hc <|
  Tot.al (Tot.sq (d:=0) hE.ex.le tE' fun a=>Tot.sq (d:=0) h.bl.le ht fun b=>Fd _) <|
  Tot.al (Tot.al (Fd _) (Tot.sq (d:=0) (Fg hE).le (Jg hE tE') fun a=>Fd _)) <|
  Tot.al (Tot.sq (d:=0) (Fg hE).le (Jg hE tE') fun a=>Fd _) <|
  Tot.al (Tot.sq (d:=0) h.bl.le ht fun a=>Tot.sq (d:=0) (Cf _).le (G0 _) fun _=>Tot.sq (d:=0) C6.le H4 fun s=>Tot.sq (d:=0) h.bl.le ht fun b=>Fd _) <|
  Tot.al (Tot.sq (d:=0) h.bl.le ht fun a=>Fd _) <|
  Tot.al (Tot.sq (d:=0) C6.le H4 fun s=>Tot.sq (d:=0) (F6 hE _ s).le (Sa hE tE' _ s) fun a=>Tot.sq (d:=0) (Cf _).le (G0 _) fun _=>Fd _) <|
  Tot.al (Qw hE tE' h.bl ht) (Qn hE tE)
theorem R9 {E:SP} (hE:Gp E):∀ (f n:Nat),Tot n E.ex→(2 * n+2≤f→Tot n (SBu E f).bl)∧(2 * n+1≤f→Tot n (SBu E f).sm)∧(2 * n+1≤f→Tot n (SBu E f).cd)
 | 0,n,tE=>by refine ⟨?_,?_,?_⟩ <;> intro h <;> omega
 | f+1,n,tE=>by
  obtain ⟨j1,j2,j3⟩:=R9 hE f (n - 1) (tE.le (by omega));obtain ⟨i1,i2,i3⟩:=R9 hE f n tE;have hR:=Ky hE f;refine ⟨fun h=>R6 hR ?_,fun h ts hg hn=>?_,fun h ts hg hn=>?_⟩
  ·exact (i2 (by omega)).le (by omega)
  all_goals have hpos:1≤ts.length:=by obtain ⟨t,u,rfl⟩:=hg.head; simp
  ·exact Sm hE tE hR (j1 (by omega)) (j3 (by omega)) ts hg hn
  ·exact Sz hE tE hR (j1 (by omega)) (j3 (by omega)) ts hg hn
section
variable {bl:List Tk→Rs Nd} (h:Snd 1 bl) {n:Nat} (ht:Tot n bl)
include h ht
omit h ht in
theorem Qr:Tot n Kd:=fun ts hg hn=>by unfold Kd; split <;> exact ⟨_,rfl⟩
omit h ht in
theorem Nv:Tot n Ib:=Tot.al (Tot.sq (d:=0) (Gi (by decide)).le (fun ts hg hn=>Ij 3 hg) fun t=>Fd _) Qr
omit h ht in
theorem Ny:Tot n H6:=Tot.sq (d:=0) C6.le H4 fun s=>Fd _
theorem Rc (op:Int):Tot n (J9 bl op):=by
 unfold J9;split
 ·exact Tot.al (Tot.sq (d:=0) h.le (ht.le (by omega)) fun b=>Fd _) (Fd _)
 ·exact Fd _
theorem Pd (op:Int):Tot n (Mw bl op):=Tot.sq (d:=0) C6.le H4 fun s=>Tot.sq (d:=0) (Cf _).le (G0 _) fun _=>Tot.sq (d:=0) C6.le H4 fun x=>Tot.sq (d:=0) (Cf _).le (G0 _) fun _=>Tot.sq (d:=0) (Jl h op) (Rc h ht op) fun ks=>Tot.sq (d:=0) h.le ht fun b=>Fd _
theorem Qp:Tot n (Iz bl):=fun ts hg hn=>by
 unfold Iz;split
 ·exact ⟨_,rfl⟩
 ·rename_i ho;obtain ⟨s,hs⟩:=E4 ho;have h1:=Eat.isS hg hs
  have:=h1.2.1
  exact Pd h ht _ _ h1.2.2 (by omega)
omit h ht in
theorem Qo:Tot n Mx:=Tot.sq (d:=0) C6.le H4 fun s=>Tot.sq (d:=0) (Cf _).le (G0 _) fun _=>Tot.sq (d:=0) Gr.le Nv fun a=>Tot.sq (d:=0) (Cf _).le (G0 _) fun _=>Fd _
theorem R1:Tot n (fnS bl):=Tot.sq (d:=0) C6.le H4 fun s=>Tot.sq (d:=0) (Cf _).le (G0 _) fun _=>Tot.sq (d:=0) (Eo F3).le (Hx F3 Ny) fun ks=>Tot.sq (d:=0) h.le ht fun b=>Fd _
theorem Pb:Tot n (Kc bl):=Tot.al Qo <| Tot.al (R1 h (ht.le (by omega))) <| Tot.sq (d:=0) (Cf _).le (G0 _) fun _=>Qp h ht
theorem Kk:∀ (k:Nat) (acc:List Nd) (ts:List Tk),Fh ts→ts.length≤n→ts.length < k→∃ r,Fy bl k acc ts=some r
 | 0,acc,ts,hg,hn,hk=>by omega
 | k+1,acc,ts,hg,hn,hk=>by
  simp only [Fy];split
  ·exact ⟨_,rfl⟩
  ·refine Et (Pb h ht _ hg hn) fun a ts' e=>?_
   have h3:Eat 1 _ ts':=Js h _ hg _ e
   have:=h3.2.1
   exact Kk k _ _ h3.2.2 (by omega) (by omega)
theorem Pm:Tot n (Lp bl):=Tot.sq (d:=0) (fun ts=>Ht h _ _ ts) (fun ts hg hn=>Kk h ht _ _ _ hg hn (by omega)) fun ks=>Fd _
end
end Go.Proofs.YtifjagfmfkemmaaGreatDoor
