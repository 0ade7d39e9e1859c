import Derived.Test.YtifjagfmfkemmaaGreatDoorLwQ
set_option linter.unusedVariables false
set_option linter.unusedSimpArgs false
set_option maxHeartbeats 4000000
namespace Go.Proofs.YtifjagfmfkemmaaGreatDoor
open Eng Go
def sq {α β:Type} (p:List Tk→Rs α) (f:α→List Tk→Rs β) (ts:List Tk):Rs β:=bnd (p ts) f
def al {α:Type} (s:List UInt8) (p q:List Tk→Rs α) (ts:List Tk):Rs α:=if isS s ts=true then p ts.tail else q ts
def fl {α:Type} (ts:List Tk):Rs α:=some (.error ts)
def Kc:List Tk→Bool
 | t :: u :: _=>decide (t.Kind=1) && (decide (u.Kind=5) && decide (u.Text=[61]))
 | _=>false
def ia {α:Type} (p q:List Tk→Rs α) (ts:List Tk):Rs α:=if Kc ts=true then p ts else q ts
structure SB where
 bl:List Tk→Rs Nd
 sm:List Tk→Rs Nd
 cd:List Tk→Rs Nd
section
variable (E:SP)
def J6:List Tk→Rs Nd:=sq E.ex fun a=>sq (Ee [59]) fun _=>pok a
def Ib (sm:List Tk→Rs Nd):Nat→List Nd→List Tk→Rs (List Nd)
 | 0,_=>fun _=>none
 | k+1,acc=>al [125] (pok acc) (sq sm fun a=>Ib sm k (acc++[a]))
def blF (R:SB):List Tk→Rs Nd:=sq (Ee [123]) fun _=>sq (fun ts=>Ib R.sm (ts.length+1) [] ts) fun ks=>pok (nd 53 ks)
def cdF (R:SB):List Tk→Rs Nd:=sq E.ex fun a=>sq R.bl fun b=>al [101,108,115,101] (al [105,102] (sq R.cd fun c=>pok (nd 42 [a,b,c])) (sq R.bl fun c=>pok (nd 42 [a,b,c]))) (pok (nd 42 [a,b]))
def Kj (bl:List Tk→Rs Nd) (s:List UInt8):List Tk→Rs Nd:=sq E.ex fun a=>sq bl fun b=>pok ⟨50,s,0,[],[a,b]⟩
def Ln (bl:List Tk→Rs Nd):List Tk→Rs Nd:=ia (sq Gg fun s=>sq (Ee [61]) fun _=>Kj E bl s) (Kj E bl [])
def chL (bl:List Tk→Rs Nd):Nat→List Nd→List Tk→Rs (List Nd)
 | 0,_=>fun _=>none
 | k+1,acc=>fun ts=>if isS [99,97,115,101] ts=true then (if acc.length=16 then fl ts else sq (Ln E bl) (fun a=>chL bl k (acc++[a])) ts.tail) else pok acc ts
def elS (bl:List Tk→Rs Nd) (ks:List Nd):List Tk→Rs (List Nd):=al [101,108,115,101] (sq bl fun b=>pok (ks++[nd 51 [b]])) (pok ks)
def chE (ks:List Nd):List Tk→Rs Nd:=if ks.length=0 then fl else sq (Ee [125]) fun _=>pok (nd 49 ks)
def chS (bl:List Tk→Rs Nd):List Tk→Rs Nd:=sq (Ee [123]) fun _=>sq (fun ts=>chL E bl (ts.length+1) [] ts) fun ks=>sq (elS bl ks) chE
def M7 (op:Int) (s:List UInt8):List Tk→Rs Nd:=sq (Ee [61]) fun _=>sq (J6 E) fun a=>pok ⟨op,s,0,[],[a]⟩
def N2:List Tk→Rs Nd:=ia (sq Gg (M7 E 41)) (sq (J6 E) fun a=>pok (nd 52 [a]))
def smF (R:SB):List Tk→Rs Nd :=
 al [108,101,116] (sq Gg (M7 E 40)) <|
 al [105,102] R.cd <|
 al [119,104,105,108,101] (sq E.ex fun a=>sq R.bl fun b=>pok (nd 43 [a,b])) <|
 al [114,101,116,117,114,110] (al [59] (pok (nd 44 [])) (sq (J6 E) fun a=>pok (nd 44 [a]))) <|
 al [116,104,114,111,119] (sq (J6 E) fun a=>pok (nd 45 [a])) <|
 al [116,114,121] (sq R.bl fun a=>sq (Ee [99,97,116,99,104]) fun _=>sq Gg fun s=>sq R.bl fun b=>pok ⟨46,s,0,[],[a,b]⟩) <|
 al [115,97,103,97] (sq R.bl fun a=>pok (nd 47 [a])) <|
 al [117,110,100,111] (sq Gg fun s=>sq (Hq E 48 s) fun a=>sq (Ee [59]) fun _=>pok a) <|
 al [115,101,108,101,99,116] (chS E R.bl) (N2 E)
def SBF (R:SB):SB:=⟨blF R,smF E R,cdF E R⟩
def SBu:Nat→SB
 | 0=>⟨fun _=>none,fun _=>none,fun _=>none⟩
 | f+1=>SBF E (SBu f)
end
def Mw (ts:List Tk):Rs Nd:=match Jb ts with
 | some (a,r)=>pok a r
 | none=>fl ts
def Jt:List Tk→Rs Nd:=al [45] (sq (Gm 3) fun t=>pok (nd 14 [⟨4,[],t.Int,[],[]⟩])) Mw
def H7:List Tk→Rs Nd:=sq Gg fun s=>pok ⟨6,s,0,[],[]⟩
def Ii:Ops:=[([115,105,103,110,97,108],63),([113,117,101,114,121],64),([117,112,100,97,116,101],65)]
section
variable (bl:List Tk→Rs Nd)
def Ls (op:Int):List Tk→Rs (List Nd):=if op=65 then al [99,104,101,99,107] (sq bl fun b=>pok [b]) (pok []) else pok []
def Rb (op:Int):List Tk→Rs Nd:=sq Gg fun s=>sq (Ee [40]) fun _=>sq Gg fun x=>sq (Ee [41]) fun _=>sq (Ls bl op) fun ks=>sq bl fun b=>pok ⟨op,s,0,x,ks++[b]⟩
def Ko (ts:List Tk):Rs Nd:=match Fl Ii ts with
 | none=>fl ts
 | some op=>Rb bl op ts.tail
def Nx:List Tk→Rs Nd:=sq Gg fun s=>sq (Ee [61]) fun _=>sq Jt fun a=>sq (Ee [59]) fun _=>pok ⟨61,s,0,[],[a]⟩
def fnS:List Tk→Rs Nd:=sq Gg fun s=>sq (Ee [40]) fun _=>sq (Gl [41] H7) fun ks=>sq bl fun b=>pok ⟨62,s,0,[],ks++[b]⟩
def Qc:List Tk→Rs Nd:=al [118,97,114] Nx <| al [102,117,110,99] (fnS bl) <| sq (Ee [111,110]) fun _=>Ko bl
def hdK (k:Int):List Tk→Bool
 | []=>false
 | t :: _=>decide (t.Kind=k)
def Hw:Nat→List Nd→List Tk→Rs (List Nd)
 | 0,_=>fun _=>none
 | k+1,acc=>fun ts=>if hdK 0 ts=true then pok acc ts else sq (Qc bl) (fun a=>Hw k (acc++[a])) ts
def Ma:List Tk→Rs Nd:=sq (fun ts=>Hw bl (ts.length+1) [] ts) fun ks=>pok (nd 60 ks)
end
section
variable {α β:Type}
theorem Snd.le {p:List Tk→Rs α} (h:Snd 1 p):Snd 0 p:=fun ts hg r hr=>(h ts hg r hr).le (by omega)
theorem Snd.sq {d:Nat} {p:List Tk→Rs α} {f:α→List Tk→Rs β} (hp:Snd d p) (hf:∀ a,Snd 0 (f a)):Snd d (sq p f):=fun ts hg r hr=>Snd.bnd (d:=d) (e:=0) (hp ts hg) hf r hr
theorem Snd.al {d:Nat} (hd:d≤1) {s:List UInt8} {p q:List Tk→Rs α} (hp:Snd 0 p) (hq:Snd d q):Snd d (al s p q):=fun ts hg r hr=>by
 unfold Go.Proofs.YtifjagfmfkemmaaGreatDoor.al at hr;split at hr
 ·have h1:=Eat.isS hg (by assumption);exact (Ate.after h1 (hp _ h1.2.2 r hr)).le (by omega)
 ·exact hq ts hg r hr
theorem Snd.ia {d:Nat} {p q:List Tk→Rs α} (hp:Snd d p) (hq:Snd d q):Snd d (ia p q):=fun ts hg r hr=>by
 unfold Go.Proofs.YtifjagfmfkemmaaGreatDoor.ia at hr;split at hr
 ·exact hp ts hg r hr
 ·exact hq ts hg r hr
theorem Xf {d:Nat}:Snd d (fl (α:=α)):=fun ts hg r hr=>by cases hr; exact Eat.self hg
end
structure Ki (R:SB):Prop where
 bl:Snd 1 R.bl
 sm:Snd 1 R.sm
 cd:Snd 1 R.cd
section
variable {E:SP} (hE:Hm E)
include hE
theorem G6:Snd 1 (J6 E):=hE.ex.sq fun a=>(Ef _).le.sq fun _=>Fc _
omit hE in
theorem I7 {sm:List Tk→Rs Nd} (h:Snd 1 sm):∀ (k:Nat) (acc:List Nd),Snd 1 (Ib sm k acc)
 | 0,acc,ts,hg,r,hr=>by cases hr
 | k+1,acc,ts,hg,r,hr=>Snd.al (d:=1) (by omega) (Fc acc) (h.sq fun a=>(I7 h k _).le) ts hg r hr
omit hE in
theorem Wb {R:SB} (h:Ki R):Snd 1 (blF R):=(Ef _).sq fun _=>Snd.sq (fun ts=>(I7 h.sm _ _).le ts) fun ks=>Fc _
theorem Wg {R:SB} (h:Ki R):Snd 1 (cdF E R):=hE.ex.sq fun a=>h.bl.le.sq fun b=>Snd.al (by omega) (Snd.al (by omega) (h.cd.le.sq fun c=>Fc _) (h.bl.le.sq fun c=>Fc _)) (Fc _)
theorem Nj {bl:List Tk→Rs Nd} (h:Snd 1 bl) (s:List UInt8):Snd 1 (Kj E bl s):=hE.ex.sq fun a=>h.le.sq fun b=>Fc _
theorem N6 {bl:List Tk→Rs Nd} (h:Snd 1 bl):Snd 1 (Ln E bl):=Snd.ia (D0.sq fun s=>(Ef _).le.sq fun _=>(Nj hE h s).le) (Nj hE h [])
theorem K4 {bl:List Tk→Rs Nd} (h:Snd 1 bl):∀ (k:Nat) (acc:List Nd),Snd 0 (chL E bl k acc)
 | 0,acc,ts,hg,r,hr=>by cases hr
 | k+1,acc,ts,hg,r,hr=>by
  simp only [chL] at hr;split at hr
  ·split at hr
   ·cases hr; exact Eat.self hg
   ·have h1:=Eat.isS hg (by assumption);exact (Ate.after h1 (((N6 hE h).le.sq fun a=>K4 h k _) _ h1.2.2 r hr)).le (by omega)
  ·cases hr; exact Eat.self hg
omit hE in
theorem Qb {bl:List Tk→Rs Nd} (h:Snd 1 bl) (ks:List Nd):Snd 0 (elS bl ks):=Snd.al (by omega) (h.le.sq fun b=>Fc _) (Fc _)
omit hE in
theorem Um (ks:List Nd):Snd 0 (chE ks):=by
 unfold chE;split
 ·exact Xf
 ·exact (Ef _).le.sq fun _=>Fc _
theorem Ut {bl:List Tk→Rs Nd} (h:Snd 1 bl):Snd 1 (chS E bl):=(Ef _).sq fun _=>Snd.sq (fun ts=>K4 hE h _ _ ts) fun ks=>(Qb h ks).sq fun ks=>Um ks
theorem Ph (op:Int) (s:List UInt8):Snd 1 (M7 E op s):=(Ef _).sq fun _=>(G6 hE).le.sq fun a=>Fc _
theorem Un:Snd 1 (N2 E):=Snd.ia (D0.sq fun s=>(Ph hE _ s).le) ((G6 hE).sq fun a=>Fc _)
theorem Wv {R:SB} (h:Ki R):Snd 1 (smF E R) :=
 Snd.al (by omega) (D0.le.sq fun s=>(Ph hE _ s).le) <|
 Snd.al (by omega) h.cd.le <|
 Snd.al (by omega) (hE.ex.le.sq fun a=>h.bl.le.sq fun b=>Fc _) <|
 Snd.al (by omega) (Snd.al (by omega) (Fc _) ((G6 hE).le.sq fun a=>Fc _)) <|
 Snd.al (by omega) ((G6 hE).le.sq fun a=>Fc _) <|
 Snd.al (by omega) (h.bl.le.sq fun a=>(Ef _).le.sq fun _=>D0.le.sq fun s=>h.bl.le.sq fun b=>Fc _) <|
 Snd.al (by omega) (h.bl.le.sq fun a=>Fc _) <|
 Snd.al (by omega) (D0.le.sq fun s=>(Jf hE _ s).le.sq fun a=>(Ef _).le.sq fun _=>Fc _) <|
 Snd.al (by omega) (Ut hE h.bl).le (Un hE)
theorem Oh:∀ f,Ki (SBu E f)
 | 0=>⟨fun _ _ _ h=>(by cases h),fun _ _ _ h=>(by cases h),fun _ _ _ h=>(by cases h)⟩
 | f+1=>⟨Wb (Oh f),Wv hE (Oh f),Wg hE (Oh f)⟩
end
theorem Vf:Snd 1 Mw:=fun ts hg r hr=>by
 unfold Mw at hr;split at hr
 ·rename_i a u hl;cases hr; exact (Qa hg hl).1
 ·cases hr; exact Eat.self hg
theorem Jn:Snd 1 Jt:=Snd.al (by omega) ((Ic (by decide)).le.sq fun t=>Fc _) Vf
theorem Hf:Snd 1 H7:=D0.sq fun s=>Fc _
section
variable {bl:List Tk→Rs Nd} (h:Snd 1 bl)
include h
theorem M5 (op:Int):Snd 0 (Ls bl op):=by
 unfold Ls;split
 ·exact Snd.al (by omega) (h.le.sq fun b=>Fc _) (Fc _)
 ·exact Fc _
theorem Rk (op:Int):Snd 1 (Rb bl op):=D0.sq fun s=>(Ef _).le.sq fun _=>D0.le.sq fun x=>(Ef _).le.sq fun _=>(M5 h op).sq fun ks=>h.le.sq fun b=>Fc _
theorem My:Snd 1 (Ko bl):=fun ts hg r hr=>by
 unfold Ko at hr;split at hr
 ·cases hr; exact Eat.self hg
 ·rename_i ho;obtain ⟨s,hs⟩:=F0 ho;have h1:=Eat.isS hg hs;exact (Ate.after h1 (Rk h _ _ h1.2.2 r hr)).le (by omega)
omit h in
theorem P5:Snd 1 Nx:=D0.sq fun s=>(Ef _).le.sq fun _=>Jn.le.sq fun a=>(Ef _).le.sq fun _=>Fc _
theorem Sj:Snd 1 (fnS bl):=D0.sq fun s=>(Ef _).le.sq fun _=>(F4 Hf).le.sq fun ks=>h.le.sq fun b=>Fc _
theorem N9:Snd 1 (Qc bl):=Snd.al (by omega) P5.le <| Snd.al (by omega) (Sj h).le <|(Ef _).sq fun _=>(My h).le
theorem Jl:∀ (k:Nat) (acc:List Nd),Snd 0 (Hw bl k acc)
 | 0,acc,ts,hg,r,hr=>by cases hr
 | k+1,acc,ts,hg,r,hr=>by
  simp only [Hw] at hr;split at hr
  ·cases hr; exact Eat.self hg
  ·exact ((N9 h).le.sq fun a=>Jl k _) _ hg r hr
theorem Sz:Snd 0 (Ma bl):=Snd.sq (fun ts=>Jl h _ _ ts) fun ks=>Fc _
end
theorem Tot.sq {α β:Type} {n d:Nat} {p:List Tk→Rs α} {f:α→List Tk→Rs β} (hs:Snd d p) (hp:Tot n p) (hf:∀ a,Tot (n - d) (f a)):Tot n (sq p f):=fun ts hg hn=>Fe (hp ts hg hn) fun a ts' e=>by
 have h:Eat d ts ts':=hs _ hg _ e
 have:=h.2.1
 exact hf a ts' h.2.2 (by omega)
theorem Tot.al {α:Type} {n:Nat} {s:List UInt8} {p q:List Tk→Rs α} (hp:Tot (n - 1) p) (hq:Tot n q):Tot n (al s p q):=fun ts hg hn=>by
 unfold Go.Proofs.YtifjagfmfkemmaaGreatDoor.al;split
 ·have h1:=Eat.isS hg (by assumption);have h2:=h1.2.1;exact hp _ h1.2.2 (by omega)
 ·exact hq ts hg hn
theorem Tot.ia {α:Type} {n:Nat} {p q:List Tk→Rs α} (hp:Tot n p) (hq:Tot n q):Tot n (ia p q):=fun ts hg hn=>by
 unfold Go.Proofs.YtifjagfmfkemmaaGreatDoor.ia;split
 ·exact hp ts hg hn
 ·exact hq ts hg hn
theorem Xg {α:Type} {n:Nat}:Tot n (fl (α:=α)):=fun ts hg hn=>⟨_,rfl⟩
theorem F6 {α:Type} {n:Nat} (a:α):Tot n (pok a):=fun ts hg hn=>⟨_,rfl⟩
theorem Ij {n:Nat} (s:List UInt8):Tot n (Ee s):=fun ts hg hn=>H6 s ts
theorem Jo {n:Nat}:Tot n Gg:=fun ts hg hn=>Ld hg
section
variable {E:SP} (hE:Hm E) {n:Nat} (tE:Tot n E.ex)
include hE tE
theorem K0:Tot n (J6 E):=Tot.sq (d:=0) hE.ex.le tE fun a=>Tot.sq (d:=0) (Ef _).le (Ij _) fun _=>F6 _
omit hE tE in
theorem Lp {sm:List Tk→Rs Nd} (hs:Snd 1 sm) (ht:Tot n sm):∀ (k:Nat) (acc:List Nd) (ts:List Tk),Hj ts→ts.length≤n→ts.length < k→∃ r,Ib sm k acc ts=some r
 | 0,acc,ts,hg,hn,hk=>by omega
 | k+1,acc,ts,hg,hn,hk=>by
  simp only [Ib,al];split
  ·exact ⟨_,rfl⟩
  ·refine Fe (ht ts hg hn) fun a ts' he=>?_
   have h1:Eat 1 _ ts':=hs _ hg _ he
   have:=h1.2.1
   exact Lp hs ht k _ _ h1.2.2 (by omega) (by omega)
omit hE tE in
theorem Wt {R:SB} (h:Ki R) (ht:Tot (n - 1) R.sm):Tot n (blF R):=Tot.sq (d:=1) (Ef _) (Ij _) fun _=>Tot.sq (d:=0) (fun ts=>(I7 h.sm _ _).le ts) (fun ts hg hn=>Lp h.sm ht _ _ _ hg hn (by omega)) fun ks=>F6 _
theorem W8 {R:SB} (h:Ki R) (ht:Tot (n - 1) R.bl) (hc:Tot (n - 1) R.cd):Tot n (cdF E R):=Tot.sq (d:=1) hE.ex tE fun a=>Tot.sq (d:=0) h.bl.le ht fun b=>Tot.al (Tot.al (Tot.sq (d:=0) h.cd.le (hc.le (by omega)) fun c=>F6 _) (Tot.sq (d:=0) h.bl.le (ht.le (by omega)) fun c=>F6 _)) (F6 _)
theorem Ng {bl:List Tk→Rs Nd} (h:Snd 1 bl) (ht:Tot n bl) (s:List UInt8):Tot n (Kj E bl s):=Tot.sq (d:=0) hE.ex.le tE fun a=>Tot.sq (d:=0) h.le ht fun b=>F6 _
theorem R7 {bl:List Tk→Rs Nd} (h:Snd 1 bl) (ht:Tot n bl):Tot n (Ln E bl):=Tot.ia (Tot.sq (d:=0) D0.le Jo fun s=>Tot.sq (d:=0) (Ef _).le (Ij _) fun _=>Ng hE tE h ht s) (Ng hE tE h ht [])
theorem Pk {bl:List Tk→Rs Nd} (h:Snd 1 bl) (ht:Tot n bl):∀ (k:Nat) (acc:List Nd) (ts:List Tk),Hj ts→ts.length≤n→ts.length < k→∃ r,chL E bl k acc ts=some r
 | 0,acc,ts,hg,hn,hk=>by omega
 | k+1,acc,ts,hg,hn,hk=>by
  simp only [chL];split
  ·split
   ·exact ⟨_,rfl⟩
   ·have h1:=Eat.isS hg (by assumption);have h2:=h1.2.1;refine Fe (R7 hE tE h ht _ h1.2.2 (by omega)) fun a ts' e=>?_
    have h3:Eat 1 _ ts':=N6 hE h _ h1.2.2 _ e
    have:=h3.2.1
    exact Pk h ht k _ _ h3.2.2 (by omega) (by omega)
  ·exact ⟨_,rfl⟩
omit hE tE in
theorem Uh {bl:List Tk→Rs Nd} (h:Snd 1 bl) (ht:Tot n bl) (ks:List Nd):Tot n (elS bl ks):=Tot.al (Tot.sq (d:=0) h.le (ht.le (by omega)) fun b=>F6 _) (F6 _)
omit hE tE in
theorem T1 (ks:List Nd):Tot n (chE ks):=by
 unfold chE;split
 ·exact Xg
 ·exact Tot.sq (d:=0) (Ef _).le (Ij _) fun _=>F6 _
theorem T5 {bl:List Tk→Rs Nd} (h:Snd 1 bl) (ht:Tot n bl):Tot n (chS E bl):=Tot.sq (d:=0) (Ef _).le (Ij _) fun _=>Tot.sq (d:=0) (fun ts=>K4 hE h _ _ ts) (fun ts hg hn=>Pk hE tE h ht _ _ _ hg hn (by omega)) fun ks=>Tot.sq (d:=0) (Qb h ks) (Uh h ht ks) fun ks=>T1 ks
theorem Pm (op:Int) (s:List UInt8):Tot n (M7 E op s):=Tot.sq (d:=0) (Ef _).le (Ij _) fun _=>Tot.sq (d:=0) (G6 hE).le (K0 hE tE) fun a=>F6 _
theorem Tr:Tot n (N2 E):=Tot.ia (Tot.sq (d:=0) D0.le Jo fun s=>Pm hE tE _ s) (Tot.sq (d:=0) (G6 hE).le (K0 hE tE) fun a=>F6 _)
theorem Wh (op:Int) (s:List UInt8):Tot n (Hq E op s):=fun ts hg hn=>Li (n:=n) hE (tE.le (by omega)) op s hg hn
end
theorem Wq {E:SP} (hE:Hm E) {n:Nat} (tE:Tot n E.ex) {R:SB} (h:Ki R) (ht:Tot (n - 1) R.bl) (hc:Tot (n - 1) R.cd):Tot n (smF E R):=by
 have tE':Tot (n - 1) E.ex:=tE.le (by omega);exact Tot.al (Tot.sq (d:=0) D0.le Jo fun s=>Pm hE tE' _ s) <|
  Tot.al hc <|
  Tot.al (Tot.sq (d:=0) hE.ex.le tE' fun a=>Tot.sq (d:=0) h.bl.le ht fun b=>F6 _) <|
  Tot.al (Tot.al (F6 _) (Tot.sq (d:=0) (G6 hE).le (K0 hE tE') fun a=>F6 _)) <|
  Tot.al (Tot.sq (d:=0) (G6 hE).le (K0 hE tE') fun a=>F6 _) <|
  Tot.al (Tot.sq (d:=0) h.bl.le ht fun a=>Tot.sq (d:=0) (Ef _).le (Ij _) fun _=>Tot.sq (d:=0) D0.le Jo fun s=>Tot.sq (d:=0) h.bl.le ht fun b=>F6 _) <|
  Tot.al (Tot.sq (d:=0) h.bl.le ht fun a=>F6 _) <|
  Tot.al (Tot.sq (d:=0) D0.le Jo fun s=>Tot.sq (d:=0) (Jf hE _ s).le (Wh hE tE' _ s) fun a=>Tot.sq (d:=0) (Ef _).le (Ij _) fun _=>F6 _) <|
  Tot.al (T5 hE tE' h.bl ht) (Tr hE tE)
theorem Wu {E:SP} (hE:Hm E):∀ (f n:Nat),Tot n E.ex→(2 * n+2≤f→Tot n (SBu E f).bl)∧(2 * n+1≤f→Tot n (SBu E f).sm)∧(2 * n+1≤f→Tot n (SBu E f).cd)
 | 0,n,tE=>by refine ⟨?_,?_,?_⟩ <;> intro h <;> omega
 | f+1,n,tE=>by
  obtain ⟨j1,j2,j3⟩:=Wu hE f (n - 1) (tE.le (by omega));obtain ⟨i1,i2,i3⟩:=Wu hE f n tE;have hR:=Oh hE f;refine ⟨fun h=>Wt hR ?_,fun h ts hg hn=>?_,fun h ts hg hn=>?_⟩
  ·exact (i2 (by omega)).le (by omega)
  all_goals have hpos:1≤ts.length:=by obtain ⟨t,u,rfl⟩:=hg.head; simp
  ·exact Wq hE tE hR (j1 (by omega)) (j3 (by omega)) ts hg hn
  ·exact W8 hE tE hR (j1 (by omega)) (j3 (by omega)) ts hg hn
section
variable {bl:List Tk→Rs Nd} (h:Snd 1 bl) {n:Nat} (ht:Tot n bl)
include h ht
omit h ht in
theorem Uq:Tot n Mw:=fun ts hg hn=>by unfold Mw; split <;> exact ⟨_,rfl⟩
omit h ht in
theorem Q2:Tot n Jt:=Tot.al (Tot.sq (d:=0) (Ic (by decide)).le (fun ts hg hn=>Kf 3 hg) fun t=>F6 _) Uq
omit h ht in
theorem Qt:Tot n H7:=Tot.sq (d:=0) D0.le Jo fun s=>F6 _
theorem Ux (op:Int):Tot n (Ls bl op):=by
 unfold Ls;split
 ·exact Tot.al (Tot.sq (d:=0) h.le (ht.le (by omega)) fun b=>F6 _) (F6 _)
 ·exact F6 _
theorem Q9 (op:Int):Tot n (Rb bl op):=Tot.sq (d:=0) D0.le Jo fun s=>Tot.sq (d:=0) (Ef _).le (Ij _) fun _=>Tot.sq (d:=0) D0.le Jo fun x=>Tot.sq (d:=0) (Ef _).le (Ij _) fun _=>Tot.sq (d:=0) (M5 h op) (Ux h ht op) fun ks=>Tot.sq (d:=0) h.le ht fun b=>F6 _
theorem Vh:Tot n (Ko bl):=fun ts hg hn=>by
 unfold Ko;split
 ·exact ⟨_,rfl⟩
 ·rename_i ho;obtain ⟨s,hs⟩:=F0 ho;have h1:=Eat.isS hg hs
  have:=h1.2.1
  exact Q9 h ht _ _ h1.2.2 (by omega)
omit h ht in
theorem Tz:Tot n Nx:=Tot.sq (d:=0) D0.le Jo fun s=>Tot.sq (d:=0) (Ef _).le (Ij _) fun _=>Tot.sq (d:=0) Jn.le Q2 fun a=>Tot.sq (d:=0) (Ef _).le (Ij _) fun _=>F6 _
theorem W7:Tot n (fnS bl):=Tot.sq (d:=0) D0.le Jo fun s=>Tot.sq (d:=0) (Ef _).le (Ij _) fun _=>Tot.sq (d:=0) (F4 Hf).le (Jm Hf Qt) fun ks=>Tot.sq (d:=0) h.le ht fun b=>F6 _
theorem Sp:Tot n (Qc bl):=Tot.al Tz <| Tot.al (W7 h (ht.le (by omega))) <| Tot.sq (d:=0) (Ef _).le (Ij _) fun _=>Vh h ht
theorem Md:∀ (k:Nat) (acc:List Nd) (ts:List Tk),Hj ts→ts.length≤n→ts.length < k→∃ r,Hw bl k acc ts=some r
 | 0,acc,ts,hg,hn,hk=>by omega
 | k+1,acc,ts,hg,hn,hk=>by
  simp only [Hw];split
  ·exact ⟨_,rfl⟩
  ·refine Fe (Sp h ht _ hg hn) fun a ts' e=>?_
   have h3:Eat 1 _ ts':=N9 h _ hg _ e
   have:=h3.2.1
   exact Md k _ _ h3.2.2 (by omega) (by omega)
theorem Rl:Tot n (Ma bl):=Tot.sq (d:=0) (fun ts=>Jl h _ _ ts) (fun ts hg hn=>Md h ht _ _ _ hg hn (by omega)) fun ks=>F6 _
end
end Go.Proofs.YtifjagfmfkemmaaGreatDoor
