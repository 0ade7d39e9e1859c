import Derived.Test.YtifjagfmfkemmaaGreatDoorLwI
set_option linter.unusedVariables false
set_option linter.unusedSimpArgs false
set_option maxHeartbeats 4000000
namespace Go.Proofs.YtifjagfmfkemmaaGreatDoor
open Eng Go
abbrev Tk:=Ar
abbrev Nd:=Aa
abbrev Rs (α:Type):=Option (Except (List Tk) (α×List Tk))
def isS (s:List UInt8):List Tk→Bool
 | []=>false
 | t :: _=>(decide (t.Kind=2) || decide (t.Kind=5)) && decide (t.Text=s)
def bnd {α β:Type} (x:Rs α) (f:α→List Tk→Rs β):Rs β :=
 match x with
 | none=>none
 | some (.error e)=>some (.error e)
 | some (.ok (a,ts))=>f a ts
abbrev pok {α:Type} (a:α) (ts:List Tk):Rs α:=some (.ok (a,ts))
def Ee (s:List UInt8) (ts:List Tk):Rs Unit:=if isS s ts=true then pok () ts.tail else some (.error ts)
def Gm (k:Int):List Tk→Rs Tk
 | []=>none
 | t :: r=>if t.Kind=k then pok t r else some (.error (t :: r))
def Gg (ts:List Tk):Rs (List UInt8):=bnd (Gm 1 ts) fun t r=>pok t.Text r
abbrev Ops:=List (List UInt8×Int)
def Fl:Ops→List Tk→Option Int
 | [],_=>none
 | o :: l,ts=>if isS o.1 ts=true then some o.2 else Fl l ts
abbrev nd (op:Int) (ks:List Nd):Nd:=⟨op,[],0,[],ks⟩
def Hl (sub:List Tk→Rs Nd) (ops:Ops):Nat→Nd→List Tk→Rs Nd
 | 0,_,_=>none
 | k+1,a,ts=>match Fl ops ts with
  | none=>pok a ts
  | some op=>bnd (sub ts.tail) fun b ts=>Hl sub ops k (nd op [a,b]) ts
def Jr (sub:List Tk→Rs Nd) (ops:Ops) (ts:List Tk):Rs Nd:=bnd (sub ts) fun a ts=>Hl sub ops (ts.length+1) a ts
def Gz (e:List UInt8) (elem:List Tk→Rs Nd):Nat→List Nd→List Tk→Rs (List Nd)
 | 0,_,_=>none
 | k+1,acc,ts=>bnd (elem ts) fun a ts=>if isS e ts=true then pok (acc++[a]) ts.tail else bnd (Ee [44] ts) fun _ ts=>Gz e elem k (acc++[a]) ts
def Gl (e:List UInt8) (elem:List Tk→Rs Nd) (ts:List Tk):Rs (List Nd):=if isS e ts=true then pok [] ts.tail else Gz e elem (ts.length+1) [] ts
def Hu (ex:List Tk→Rs Nd):Nat→Nd→List Tk→Rs Nd
 | 0,_,_=>none
 | k+1,a,ts=>if isS [46] ts=true then bnd (Gg ts.tail) fun s ts=>Hu ex k ⟨29,s,0,[],[a]⟩ ts
  else if isS [91] ts=true then bnd (ex ts.tail) fun b ts=>bnd (Ee [93] ts) fun _ ts=>Hu ex k (nd 28 [a,b]) ts
  else pok a ts
def Iq:Ops:=[([110,117,108,108],1),([116,114,117,101],2),([102,97,108,115,101],3)]
def G4:Ops:=[([60],20),([60,61],21),([62],22),([62,61],23),([61,61],24),([33,61],25)]
def Om:Ops:=[([42],15),([47],16),([37],17)]
def Ot:Ops:=[([43],18),([45],19)]
def Ov:Ops:=[([97,110,100],26)]
def Ri:Ops:=[([111,114],27)]
structure SP where
 ex:List Tk→Rs Nd
 cj:List Tk→Rs Nd
 nt:List Tk→Rs Nd
 sm:List Tk→Rs Nd
 pd:List Tk→Rs Nd
 un:List Tk→Rs Nd
 pm:List Tk→Rs Nd
 pr:List Tk→Rs Nd
def Hq (R:SP) (op:Int) (s:List UInt8) (ts:List Tk):Rs Nd:=bnd (Ee [40] ts) fun _ ts=>bnd (Gl [41] R.ex ts) fun ks ts=>pok ⟨op,s,0,[],ks⟩ ts
def ntF (R:SP) (ts:List Tk):Rs Nd:=if isS [110,111,116] ts=true then bnd (R.nt ts.tail) fun a ts=>pok (nd 13 [a]) ts
 else bnd (R.sm ts) fun a ts=>match Fl G4 ts with
  | none=>pok a ts
  | some op=>bnd (R.sm ts.tail) fun b ts=>pok (nd op [a,b]) ts
def unF (R:SP) (ts:List Tk):Rs Nd:=if isS [45] ts=true then bnd (R.un ts.tail) fun a ts=>pok (nd 14 [a]) ts
 else if isS [97,119,97,105,116] ts=true then bnd (R.un ts.tail) fun a ts=>pok (nd 12 [a]) ts
 else if isS [103,111] ts=true then bnd (Gg ts.tail) fun s ts=>Hq R 11 s ts
 else bnd (R.pm ts) fun a ts=>Hu R.ex (ts.length+1) a ts
def prF (R:SP) (ts:List Tk):Rs Nd:=bnd (Gm 4 ts) fun t ts=>bnd (Ee [58] ts) fun _ ts=>bnd (R.ex ts) fun a ts=>pok ⟨9,[],0,t.Text,[a]⟩ ts
def Jb:List Tk→Option (Nd×List Tk)
 | []=>none
 | t :: r=>if t.Kind=3 then some (⟨4,[],t.Int,[],[]⟩,r) else if t.Kind=4 then some (⟨5,[],0,t.Text,[]⟩,r)
  else match Fl Iq (t :: r) with
   | some op=>some (nd op [],r)
   | none=>none
def pmF (R:SP) (ts:List Tk):Rs Nd:=match Jb ts with
 | some (a,r)=>pok a r
 | none=>match Gm 1 ts with
  | none=>none
  | some (.ok (t,r))=>if isS [40] r=true then Hq R 10 t.Text r else pok ⟨6,t.Text,0,[],[]⟩ r
  | some (.error ts)=>if isS [91] ts=true then bnd (Gl [93] R.ex ts.tail) fun ks ts=>pok (nd 7 ks) ts
   else if isS [123] ts=true then bnd (Gl [125] R.pr ts.tail) fun ks ts=>pok (nd 8 ks) ts
   else bnd (Ee [40] ts) fun _ ts=>bnd (R.ex ts) fun a ts=>bnd (Ee [41] ts) fun _ ts=>pok a ts
def SPF (R:SP):SP:=⟨Jr R.cj Ri,Jr R.nt Ov,ntF R,Jr R.pd Ot,Jr R.un Om,unF R,pmF R,prF R⟩
def SPu:Nat→SP
 | 0=>⟨fun _=>none,fun _=>none,fun _=>none,fun _=>none,fun _=>none,fun _=>none,fun _=>none,fun _=>none⟩
 | f+1=>SPF (SPu f)
def Hj:List Tk→Prop
 | []=>False
 | [t]=>t.Kind=0
 | t :: ts=>Hj ts
theorem Hj.tl {t:Tk} {ts:List Tk} (h:Hj (t :: ts)) (hk:t.Kind≠0):Hj ts:=by
 cases ts with
 | nil=>exact absurd h hk
 | cons u ts=>exact h
theorem Hj.head {ts:List Tk} (h:Hj ts):∃ t r,ts=t :: r:=by
 cases ts with
 | nil=>exact absurd h (by simp [Hj])
 | cons t r=>exact ⟨t,r,rfl⟩
theorem S4 {s:List UInt8} {t:Tk} {r:List Tk} (h:isS s (t :: r)=true):t.Kind≠0:=by
 unfold isS at h; simp at h; omega
theorem Hj.isS {s:List UInt8} {ts:List Tk} (h:Hj ts) (hs:isS s ts=true):Hj ts.tail∧ts.tail.length < ts.length∧ts.tail<:+ts:=by
 obtain ⟨t,r,rfl⟩:=h.head;exact ⟨h.tl (S4 hs),by simp,List.suffix_cons t r⟩
def Eat (d:Nat) (ts ts':List Tk):Prop:=ts'<:+ts∧ts'.length+d≤ts.length∧Hj ts'
theorem Eat.trans {d e:Nat} {a b c:List Tk} (h:Eat d a b) (h':Eat e b c):Eat (d+e) a c:=⟨h'.1.trans h.1,by have:=h.2.1; have:=h'.2.1; omega,h'.2.2⟩
theorem Eat.le {d e:Nat} {a b:List Tk} (h:Eat d a b) (hd:e≤d):Eat e a b:=⟨h.1,by have:=h.2.1; omega,h.2.2⟩
theorem Eat.self {a:List Tk} (h:Hj a):Eat 0 a a:=⟨List.suffix_refl a,by omega,h⟩
theorem Eat.isS {s:List UInt8} {ts:List Tk} (h:Hj ts) (hs:isS s ts=true):Eat 1 ts ts.tail:=by
 obtain ⟨h1,h2,h3⟩:=h.isS hs; exact ⟨h3,by omega,h1⟩
def Ate {α:Type} (d:Nat) (ts:List Tk):Except (List Tk) (α×List Tk)→Prop
 | .ok (_,ts')=>Eat d ts ts'
 | .error ts'=>Eat 0 ts ts'
theorem Ate.le {α:Type} {d e:Nat} {ts:List Tk} {r:Except (List Tk) (α×List Tk)} (h:Ate d ts r) (hd:e≤d):Ate e ts r:=by
 cases r with
 | error t=>exact h
 | ok p=>obtain ⟨a,t⟩:=p; exact Eat.le h hd
theorem Ate.after {α:Type} {d e:Nat} {a b:List Tk} {r:Except (List Tk) (α×List Tk)} (h:Eat d a b) (h':Ate e b r):Ate (d+e) a r:=by
 cases r with
 | error t=>exact Eat.le (Eat.trans h h') (by omega)
 | ok p=>obtain ⟨x,t⟩:=p; exact Eat.trans h h'
def Snd {α:Type} (d:Nat) (p:List Tk→Rs α):Prop:=∀ ts,Hj ts→∀ r,p ts=some r→Ate d ts r
theorem Snd.bnd {α β:Type} {d e:Nat} {ts:List Tk} {x:Rs α} {f:α→List Tk→Rs β} (hx:∀ r,x=some r→Ate d ts r) (hf:∀ a,Snd e (f a)):∀ r,bnd x f=some r→Ate (d+e) ts r:=by
 intro r h
 match x,hx,h with
 | none,_,h=>cases h
 | some (.error t),hx,h=>cases h; exact hx _ rfl
 | some (.ok (a,t)),hx,h =>
  have h1:Eat d ts t:=hx _ rfl;exact Ate.after h1 (hf a t h1.2.2 r h)
theorem Fc {α:Type} (a:α):Snd 0 (pok a):=fun ts hg r h=>by cases h; exact Eat.self hg
theorem Ef (s:List UInt8):Snd 1 (Ee s):=fun ts hg r h=>by
 unfold Ee at h;split at h
 ·cases h; exact Eat.isS hg (by assumption)
 ·cases h; exact Eat.self hg
theorem Ic {k:Int} (hk:k≠0):Snd 1 (Gm k):=fun ts hg r h=>by
 obtain ⟨t,u,rfl⟩:=hg.head;simp only [Gm] at h;by_cases e:t.Kind=k
 ·rw [if_pos e] at h; cases h; exact ⟨List.suffix_cons t u,by simp,hg.tl (by omega)⟩
 ·rw [if_neg e] at h; cases h; exact Eat.self hg
theorem D0:Snd 1 Gg:=fun ts hg r h=>Snd.bnd (e:=0) (Ic (by decide) ts hg) (fun a=>Fc _) r h
theorem F0:∀ {ops:Ops} {ts:List Tk} {op:Int},Fl ops ts=some op→∃ s,isS s ts=true
 | o :: l,ts,op,h=>by
  unfold Fl at h;split at h
  ·exact ⟨_,by assumption⟩
  ·exact F0 h
theorem Lf {sub:List Tk→Rs Nd} (ops:Ops) (hs:Snd 1 sub):∀ (k:Nat) (a:Nd),Snd 0 (Hl sub ops k a)
 | 0,a,ts,hg,r,h=>by cases h
 | k+1,a,ts,hg,r,h=>by
  unfold Hl at h;split at h
  ·cases h; exact Eat.self hg
  ·rename_i op ho;obtain ⟨s,hs'⟩:=F0 ho;have h1:=Eat.isS hg hs';exact (Ate.after h1 (Snd.bnd (e:=0) (hs _ h1.2.2) (fun b=>Lf ops hs k _) r h)).le (by omega)
theorem Jj {sub:List Tk→Rs Nd} (ops:Ops) (hs:Snd 1 sub):Snd 1 (Jr sub ops):=fun ts hg r h =>
 Snd.bnd (e:=0) (hs ts hg) (fun a ts hg r h=>Lf ops hs _ a ts hg r h) r h
theorem L8 {e:List UInt8} {elem:List Tk→Rs Nd} (he:Snd 1 elem):∀ (k:Nat) (acc:List Nd),Snd 1 (Gz e elem k acc)
 | 0,acc,ts,hg,r,h=>by cases h
 | k+1,acc,ts,hg,r,h=>by
  unfold Gz at h;refine Snd.bnd (d:=1) (e:=0) (he ts hg) (fun a ts hg r h=>?_) r h;split at h
  ·cases h; exact (Eat.isS hg (by assumption)).le (by omega)
  ·exact (Snd.bnd (d:=1) (e:=1) (Ef _ ts hg) (fun _=>L8 he k _) r h).le (by omega)
theorem F4 {e:List UInt8} {elem:List Tk→Rs Nd} (he:Snd 1 elem):Snd 1 (Gl e elem):=fun ts hg r h=>by
 unfold Gl at h;split at h
 ·cases h; exact Eat.isS hg (by assumption)
 ·exact L8 he _ _ ts hg r h
theorem Kr {ex:List Tk→Rs Nd} (he:Snd 1 ex):∀ (k:Nat) (a:Nd),Snd 0 (Hu ex k a)
 | 0,a,ts,hg,r,h=>by cases h
 | k+1,a,ts,hg,r,h=>by
  unfold Hu at h;split at h
  ·have h1:=Eat.isS hg (by assumption);exact (Ate.after h1 (Snd.bnd (e:=0) (D0 _ h1.2.2) (fun b=>Kr he k _) r h)).le (by omega)
  ·split at h
   ·have h1:=Eat.isS hg (by assumption);exact (Ate.after h1 (Snd.bnd (e:=1) (he _ h1.2.2) (fun b ts hg r h=>Snd.bnd (e:=0) (Ef _ ts hg) (fun _=>Kr he k _) r h) r h)).le (by omega)
   ·cases h; exact Eat.self hg
structure Hm (R:SP):Prop where
 ex:Snd 1 R.ex
 cj:Snd 1 R.cj
 nt:Snd 1 R.nt
 sm:Snd 1 R.sm
 pd:Snd 1 R.pd
 un:Snd 1 R.un
 pm:Snd 1 R.pm
 pr:Snd 1 R.pr
theorem Jf {R:SP} (hR:Hm R) (op:Int) (s:List UInt8):Snd 1 (Hq R op s):=fun ts hg r h =>
 (Snd.bnd (d:=1) (e:=1) (Ef _ ts hg) (fun _ ts hg r h=>Snd.bnd (e:=0) (F4 hR.ex ts hg) (fun ks=>Fc _) r h) r h).le (by omega)
theorem Qa {ts:List Tk} {a:Nd} {r:List Tk} (hg:Hj ts) (h:Jb ts=some (a,r)):Eat 1 ts r∧r=ts.tail:=by
 obtain ⟨t,u,rfl⟩:=hg.head;simp only [Jb] at h;split at h
 ·cases h; exact ⟨⟨List.suffix_cons t _,by simp,hg.tl (by omega)⟩,rfl⟩
 ·split at h
  ·cases h; exact ⟨⟨List.suffix_cons t _,by simp,hg.tl (by omega)⟩,rfl⟩
  ·split at h
   ·rename_i ho;obtain ⟨s,hs⟩:=F0 ho;cases h; exact ⟨Eat.isS hg hs,rfl⟩
   ·cases h
theorem sndF {R:SP} (hR:Hm R):Hm (SPF R) where
 ex:=Jj _ hR.cj
 cj:=Jj _ hR.nt
 sm:=Jj _ hR.pd
 pd:=Jj _ hR.un
 nt:=fun ts hg r h=>by
  replace h:ntF R ts=some r:=h;unfold ntF at h;split at h
  ·have h1:=Eat.isS hg (by assumption);exact (Ate.after h1 (Snd.bnd (e:=0) (hR.nt _ h1.2.2) (fun a=>Fc _) r h)).le (by omega)
  ·refine Snd.bnd (d:=1) (e:=0) (hR.sm ts hg) (fun a ts hg r h=>?_) r h;split at h
   ·cases h; exact Eat.self hg
   ·rename_i ho;obtain ⟨s,hs⟩:=F0 ho;have h1:=Eat.isS hg hs;exact (Ate.after h1 (Snd.bnd (e:=0) (hR.sm _ h1.2.2) (fun a=>Fc _) r h)).le (by omega)
 un:=fun ts hg r h=>by
  replace h:unF R ts=some r:=h;unfold unF at h;split at h
  ·have h1:=Eat.isS hg (by assumption);exact (Ate.after h1 (Snd.bnd (e:=0) (hR.un _ h1.2.2) (fun a=>Fc _) r h)).le (by omega)
  ·split at h
   ·have h1:=Eat.isS hg (by assumption);exact (Ate.after h1 (Snd.bnd (e:=0) (hR.un _ h1.2.2) (fun a=>Fc _) r h)).le (by omega)
   ·split at h
    ·have h1:=Eat.isS hg (by assumption);exact (Ate.after h1 (Snd.bnd (e:=1) (D0 _ h1.2.2) (fun a=>Jf hR _ _) r h)).le (by omega)
    ·exact Snd.bnd (d:=1) (e:=0) (hR.pm ts hg) (fun a ts hg r h=>Kr hR.ex _ a ts hg r h) r h
 pm:=fun ts hg r h=>by
  replace h:pmF R ts=some r:=h;unfold pmF at h;split at h
  ·rename_i a u hl;cases h; exact (Qa hg hl).1
  ·split at h
   ·cases h
   ·rename_i t u hk;have h1:Eat 1 ts u:=Ic (by decide) ts hg _ hk;split at h
    ·exact (Ate.after h1 (Jf hR _ _ u h1.2.2 r h)).le (by omega)
    ·cases h; exact h1
   ·rename_i u hk;have e:u=ts:=by
     obtain ⟨t,v,rfl⟩:=hg.head;simp only [Gm] at hk;by_cases e:t.Kind=1
     ·rw [if_pos e] at hk; cases hk
     ·rw [if_neg e] at hk; cases hk; rfl
    subst e;split at h
    ·have h1:=Eat.isS hg (by assumption);exact (Ate.after h1 (Snd.bnd (e:=0) (F4 hR.ex _ h1.2.2) (fun ks=>Fc _) r h)).le (by omega)
    ·split at h
     ·have h1:=Eat.isS hg (by assumption);exact (Ate.after h1 (Snd.bnd (e:=0) (F4 hR.pr _ h1.2.2) (fun ks=>Fc _) r h)).le (by omega)
     ·exact (Snd.bnd (d:=1) (e:=2) (Ef _ u hg) (fun _ ts hg r h=>Snd.bnd (d:=1) (e:=1) (hR.ex ts hg) (fun a ts hg r h=>Snd.bnd (d:=1) (e:=0) (Ef _ ts hg) (fun _=>Fc _) r h) r h) r h).le (by omega)
 pr:=fun ts hg r h=>(Snd.bnd (d:=1) (e:=2) (Ic (by decide) ts hg) (fun t ts hg r h=>Snd.bnd (d:=1) (e:=1) (Ef _ ts hg) (fun _ ts hg r h=>Snd.bnd (d:=1) (e:=0) (hR.ex ts hg) (fun _=>Fc _) r h) r h) r h).le (by omega)
theorem So:∀ f,Hm (SPu f)
 | 0=>⟨fun _ _ _ h=>(by cases h),fun _ _ _ h=>(by cases h),fun _ _ _ h=>(by cases h),fun _ _ _ h=>(by cases h),fun _ _ _ h=>(by cases h),fun _ _ _ h=>(by cases h),fun _ _ _ h=>(by cases h),fun _ _ _ h=>(by cases h)⟩
 | f+1=>sndF (So f)
end Go.Proofs.YtifjagfmfkemmaaGreatDoor
