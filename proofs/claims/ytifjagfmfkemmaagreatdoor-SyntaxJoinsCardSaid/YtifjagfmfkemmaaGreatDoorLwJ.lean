import Derived.Test.YtifjagfmfkemmaaGreatDoorLwI
set_option linter.unusedVariables false
set_option linter.unusedSimpArgs false
set_option maxHeartbeats 4000000
namespace Go.Proofs.YtifjagfmfkemmaaGreatDoor
open Eng Go
abbrev Tk:=Aq
abbrev Nd:=Aa
abbrev Rs (α:Type):=Option (Except (List Tk) (α×List Tk))
def isS (s:List UInt8):List Tk→Bool
 | []=>false
 | t :: _=>(decide (t.Kind=2) || decide (t.Kind=5)) && decide (t.Text=s)
def bnd {α β:Type} (x:Rs α) (f:α→List Tk→Rs β):Rs β :=
 match x with
 | none=>none
 | some (.error e)=>some (.error e)
 | some (.ok (a,ts))=>f a ts
abbrev pok {α:Type} (a:α) (ts:List Tk):Rs α:=some (.ok (a,ts))
def D5 (s:List UInt8) (ts:List Tk):Rs Unit:=if isS s ts=true then pok () ts.tail else some (.error ts)
def Fo (k:Int):List Tk→Rs Tk
 | []=>none
 | t :: r=>if t.Kind=k then pok t r else some (.error (t :: r))
def Fi (ts:List Tk):Rs (List UInt8):=bnd (Fo 1 ts) fun t r=>pok t.Text r
abbrev Ops:=List (List UInt8×Int)
def Ev:Ops→List Tk→Option Int
 | [],_=>none
 | o :: l,ts=>if isS o.1 ts=true then some o.2 else Ev l ts
abbrev nd (op:Int) (ks:List Nd):Nd:=⟨op,[],0,[],ks⟩
def Fx (sub:List Tk→Rs Nd) (ops:Ops):Nat→Nd→List Tk→Rs Nd
 | 0,_,_=>none
 | k+1,a,ts=>match Ev ops ts with
  | none=>pok a ts
  | some op=>bnd (sub ts.tail) fun b ts=>Fx sub ops k (nd op [a,b]) ts
def H3 (sub:List Tk→Rs Nd) (ops:Ops) (ts:List Tk):Rs Nd:=bnd (sub ts) fun a ts=>Fx sub ops (ts.length+1) a ts
def F9 (e:List UInt8) (elem:List Tk→Rs Nd):Nat→List Nd→List Tk→Rs (List Nd)
 | 0,_,_=>none
 | k+1,acc,ts=>bnd (elem ts) fun a ts=>if isS e ts=true then pok (acc++[a]) ts.tail else bnd (D5 [44] ts) fun _ ts=>F9 e elem k (acc++[a]) ts
def Fv (e:List UInt8) (elem:List Tk→Rs Nd) (ts:List Tk):Rs (List Nd):=if isS e ts=true then pok [] ts.tail else F9 e elem (ts.length+1) [] ts
def Fw (ex:List Tk→Rs Nd):Nat→Nd→List Tk→Rs Nd
 | 0,_,_=>none
 | k+1,a,ts=>if isS [46] ts=true then bnd (Fi ts.tail) fun s ts=>Fw ex k ⟨29,s,0,[],[a]⟩ ts
  else if isS [91] ts=true then bnd (ex ts.tail) fun b ts=>bnd (D5 [93] ts) fun _ ts=>Fw ex k (nd 28 [a,b]) ts
  else pok a ts
def Hj:Ops:=[([110,117,108,108],1),([116,114,117,101],2),([102,97,108,115,101],3)]
def Gs:Ops:=[([60],20),([60,61],21),([62],22),([62,61],23),([61,61],24),([33,61],25)]
def Mv:Ops:=[([42],15),([47],16),([37],17)]
def Mg:Ops:=[([43],18),([45],19)]
def Mf:Ops:=[([97,110,100],26)]
def Pz:Ops:=[([111,114],27)]
structure SP where
 ex:List Tk→Rs Nd
 cj:List Tk→Rs Nd
 nt:List Tk→Rs Nd
 sm:List Tk→Rs Nd
 pd:List Tk→Rs Nd
 un:List Tk→Rs Nd
 pm:List Tk→Rs Nd
 pr:List Tk→Rs Nd
def Ga (R:SP) (op:Int) (s:List UInt8) (ts:List Tk):Rs Nd:=bnd (D5 [40] ts) fun _ ts=>bnd (Fv [41] R.ex ts) fun ks ts=>pok ⟨op,s,0,[],ks⟩ ts
def ntF (R:SP) (ts:List Tk):Rs Nd:=if isS [110,111,116] ts=true then bnd (R.nt ts.tail) fun a ts=>pok (nd 13 [a]) ts
 else bnd (R.sm ts) fun a ts=>match Ev Gs ts with
  | none=>pok a ts
  | some op=>bnd (R.sm ts.tail) fun b ts=>pok (nd op [a,b]) ts
def unF (R:SP) (ts:List Tk):Rs Nd:=if isS [45] ts=true then bnd (R.un ts.tail) fun a ts=>pok (nd 14 [a]) ts
 else if isS [97,119,97,105,116] ts=true then bnd (R.un ts.tail) fun a ts=>pok (nd 12 [a]) ts
 else if isS [103,111] ts=true then bnd (Fi ts.tail) fun s ts=>Ga R 11 s ts
 else bnd (R.pm ts) fun a ts=>Fw R.ex (ts.length+1) a ts
def prF (R:SP) (ts:List Tk):Rs Nd:=bnd (Fo 4 ts) fun t ts=>bnd (D5 [58] ts) fun _ ts=>bnd (R.ex ts) fun a ts=>pok ⟨9,[],0,t.Text,[a]⟩ ts
def Hl:List Tk→Option (Nd×List Tk)
 | []=>none
 | t :: r=>if t.Kind=3 then some (⟨4,[],t.Int,[],[]⟩,r) else if t.Kind=4 then some (⟨5,[],0,t.Text,[]⟩,r)
  else match Ev Hj (t :: r) with
   | some op=>some (nd op [],r)
   | none=>none
def pmF (R:SP) (ts:List Tk):Rs Nd:=match Hl ts with
 | some (a,r)=>pok a r
 | none=>match Fo 1 ts with
  | none=>none
  | some (.ok (t,r))=>if isS [40] r=true then Ga R 10 t.Text r else pok ⟨6,t.Text,0,[],[]⟩ r
  | some (.error ts)=>if isS [91] ts=true then bnd (Fv [93] R.ex ts.tail) fun ks ts=>pok (nd 7 ks) ts
   else if isS [123] ts=true then bnd (Fv [125] R.pr ts.tail) fun ks ts=>pok (nd 8 ks) ts
   else bnd (D5 [40] ts) fun _ ts=>bnd (R.ex ts) fun a ts=>bnd (D5 [41] ts) fun _ ts=>pok a ts
def SPF (R:SP):SP:=⟨H3 R.cj Pz,H3 R.nt Mf,ntF R,H3 R.pd Mg,H3 R.un Mv,unF R,pmF R,prF R⟩
def SPu:Nat→SP
 | 0=>⟨fun _=>none,fun _=>none,fun _=>none,fun _=>none,fun _=>none,fun _=>none,fun _=>none,fun _=>none⟩
 | f+1=>SPF (SPu f)
def Fh:List Tk→Prop
 | []=>False
 | [t]=>t.Kind=0
 | t :: ts=>Fh ts
theorem Fh.ne {ts:List Tk} (h:Fh ts):ts≠[]:=by intro e; subst e; exact h
theorem Fh.tl {t:Tk} {ts:List Tk} (h:Fh (t :: ts)) (hk:t.Kind≠0):Fh ts:=by
 cases ts with
 | nil=>exact absurd h hk
 | cons u ts=>exact h
theorem Fh.head {ts:List Tk} (h:Fh ts):∃ t r,ts=t :: r:=by
 cases ts with
 | nil=>exact absurd h (by simp [Fh])
 | cons t r=>exact ⟨t,r,rfl⟩
theorem P6 {s:List UInt8} {t:Tk} {r:List Tk} (h:isS s (t :: r)=true):t.Kind≠0:=by
 unfold isS at h; simp at h; omega
theorem Fh.isS {s:List UInt8} {ts:List Tk} (h:Fh ts) (hs:isS s ts=true):Fh ts.tail∧ts.tail.length < ts.length∧ts.tail<:+ts:=by
 obtain ⟨t,r,rfl⟩:=h.head;exact ⟨h.tl (P6 hs),by simp,List.suffix_cons t r⟩
def Eat (d:Nat) (ts ts':List Tk):Prop:=ts'<:+ts∧ts'.length+d≤ts.length∧Fh ts'
theorem Eat.trans {d e:Nat} {a b c:List Tk} (h:Eat d a b) (h':Eat e b c):Eat (d+e) a c:=⟨h'.1.trans h.1,by have:=h.2.1; have:=h'.2.1; omega,h'.2.2⟩
theorem Eat.le {d e:Nat} {a b:List Tk} (h:Eat d a b) (hd:e≤d):Eat e a b:=⟨h.1,by have:=h.2.1; omega,h.2.2⟩
theorem Eat.self {a:List Tk} (h:Fh a):Eat 0 a a:=⟨List.suffix_refl a,by omega,h⟩
theorem Eat.isS {s:List UInt8} {ts:List Tk} (h:Fh ts) (hs:isS s ts=true):Eat 1 ts ts.tail:=by
 obtain ⟨h1,h2,h3⟩:=h.isS hs; exact ⟨h3,by omega,h1⟩
def Ate {α:Type} (d:Nat) (ts:List Tk):Except (List Tk) (α×List Tk)→Prop
 | .ok (_,ts')=>Eat d ts ts'
 | .error ts'=>Eat 0 ts ts'
theorem Ate.le {α:Type} {d e:Nat} {ts:List Tk} {r:Except (List Tk) (α×List Tk)} (h:Ate d ts r) (hd:e≤d):Ate e ts r:=by
 cases r with
 | error t=>exact h
 | ok p=>obtain ⟨a,t⟩:=p; exact Eat.le h hd
theorem Ate.after {α:Type} {d e:Nat} {a b:List Tk} {r:Except (List Tk) (α×List Tk)} (h:Eat d a b) (h':Ate e b r):Ate (d+e) a r:=by
 cases r with
 | error t=>exact Eat.le (Eat.trans h h') (by omega)
 | ok p=>obtain ⟨x,t⟩:=p; exact Eat.trans h h'
def Snd {α:Type} (d:Nat) (p:List Tk→Rs α):Prop:=∀ ts,Fh ts→∀ r,p ts=some r→Ate d ts r
theorem Snd.bnd {α β:Type} {d e:Nat} {ts:List Tk} {x:Rs α} {f:α→List Tk→Rs β} (hx:∀ r,x=some r→Ate d ts r) (hf:∀ a,Snd e (f a)):∀ r,bnd x f=some r→Ate (d+e) ts r:=by
 intro r h
 match x,hx,h with
 | none,_,h=>cases h
 | some (.error t),hx,h=>cases h; exact hx _ rfl
 | some (.ok (a,t)),hx,h =>
  have h1:Eat d ts t:=hx _ rfl;exact Ate.after h1 (hf a t h1.2.2 r h)
theorem Cn {α:Type} (a:α):Snd 0 (pok a):=fun ts hg r h=>by cases h; exact Eat.self hg
theorem Cf (s:List UInt8):Snd 1 (D5 s):=fun ts hg r h=>by
 unfold D5 at h;split at h
 ·cases h; exact Eat.isS hg (by assumption)
 ·cases h; exact Eat.self hg
theorem Gi {k:Int} (hk:k≠0):Snd 1 (Fo k):=fun ts hg r h=>by
 obtain ⟨t,u,rfl⟩:=hg.head;simp only [Fo] at h;by_cases e:t.Kind=k
 ·rw [if_pos e] at h; cases h; exact ⟨List.suffix_cons t u,by simp,hg.tl (by omega)⟩
 ·rw [if_neg e] at h; cases h; exact Eat.self hg
theorem C6:Snd 1 Fi:=fun ts hg r h=>Snd.bnd (e:=0) (Gi (by decide) ts hg) (fun a=>Cn _) r h
theorem E4:∀ {ops:Ops} {ts:List Tk} {op:Int},Ev ops ts=some op→∃ s,isS s ts=true
 | o :: l,ts,op,h=>by
  unfold Ev at h;split at h
  ·exact ⟨_,by assumption⟩
  ·exact E4 h
theorem Gv {sub:List Tk→Rs Nd} (ops:Ops) (hs:Snd 1 sub):∀ (k:Nat) (a:Nd),Snd 0 (Fx sub ops k a)
 | 0,a,ts,hg,r,h=>by cases h
 | k+1,a,ts,hg,r,h=>by
  unfold Fx at h;split at h
  ·cases h; exact Eat.self hg
  ·rename_i op ho;obtain ⟨s,hs'⟩:=E4 ho;have h1:=Eat.isS hg hs';exact (Ate.after h1 (Snd.bnd (e:=0) (hs _ h1.2.2) (fun b=>Gv ops hs k _) r h)).le (by omega)
theorem H2 {sub:List Tk→Rs Nd} (ops:Ops) (hs:Snd 1 sub):Snd 1 (H3 sub ops):=fun ts hg r h =>
 Snd.bnd (e:=0) (hs ts hg) (fun a ts hg r h=>Gv ops hs _ a ts hg r h) r h
theorem Hz {e:List UInt8} {elem:List Tk→Rs Nd} (he:Snd 1 elem):∀ (k:Nat) (acc:List Nd),Snd 1 (F9 e elem k acc)
 | 0,acc,ts,hg,r,h=>by cases h
 | k+1,acc,ts,hg,r,h=>by
  unfold F9 at h;refine Snd.bnd (d:=1) (e:=0) (he ts hg) (fun a ts hg r h=>?_) r h;split at h
  ·cases h; exact (Eat.isS hg (by assumption)).le (by omega)
  ·exact (Snd.bnd (d:=1) (e:=1) (Cf _ ts hg) (fun _=>Hz he k _) r h).le (by omega)
theorem Eo {e:List UInt8} {elem:List Tk→Rs Nd} (he:Snd 1 elem):Snd 1 (Fv e elem):=fun ts hg r h=>by
 unfold Fv at h;split at h
 ·cases h; exact Eat.isS hg (by assumption)
 ·exact Hz he _ _ ts hg r h
theorem Gq {ex:List Tk→Rs Nd} (he:Snd 1 ex):∀ (k:Nat) (a:Nd),Snd 0 (Fw ex k a)
 | 0,a,ts,hg,r,h=>by cases h
 | k+1,a,ts,hg,r,h=>by
  unfold Fw at h;split at h
  ·have h1:=Eat.isS hg (by assumption);exact (Ate.after h1 (Snd.bnd (e:=0) (C6 _ h1.2.2) (fun b=>Gq he k _) r h)).le (by omega)
  ·split at h
   ·have h1:=Eat.isS hg (by assumption);exact (Ate.after h1 (Snd.bnd (e:=1) (he _ h1.2.2) (fun b ts hg r h=>Snd.bnd (e:=0) (Cf _ ts hg) (fun _=>Gq he k _) r h) r h)).le (by omega)
   ·cases h; exact Eat.self hg
structure Gp (R:SP):Prop where
 ex:Snd 1 R.ex
 cj:Snd 1 R.cj
 nt:Snd 1 R.nt
 sm:Snd 1 R.sm
 pd:Snd 1 R.pd
 un:Snd 1 R.un
 pm:Snd 1 R.pm
 pr:Snd 1 R.pr
theorem F6 {R:SP} (hR:Gp R) (op:Int) (s:List UInt8):Snd 1 (Ga R op s):=fun ts hg r h =>
 (Snd.bnd (d:=1) (e:=1) (Cf _ ts hg) (fun _ ts hg r h=>Snd.bnd (e:=0) (Eo hR.ex ts hg) (fun ks=>Cn _) r h) r h).le (by omega)
theorem Jm {ts:List Tk} {a:Nd} {r:List Tk} (hg:Fh ts) (h:Hl ts=some (a,r)):Eat 1 ts r∧r=ts.tail:=by
 obtain ⟨t,u,rfl⟩:=hg.head;simp only [Hl] at h;split at h
 ·cases h; exact ⟨⟨List.suffix_cons t _,by simp,hg.tl (by omega)⟩,rfl⟩
 ·split at h
  ·cases h; exact ⟨⟨List.suffix_cons t _,by simp,hg.tl (by omega)⟩,rfl⟩
  ·split at h
   ·rename_i ho;obtain ⟨s,hs⟩:=E4 ho;cases h; exact ⟨Eat.isS hg hs,rfl⟩
   ·cases h
theorem Sj {R:SP} (hR:Gp R):Gp (SPF R) where
 ex:=H2 _ hR.cj
 cj:=H2 _ hR.nt
 sm:=H2 _ hR.pd
 pd:=H2 _ hR.un
 nt:=fun ts hg r h=>by
  replace h:ntF R ts=some r:=h;unfold ntF at h;split at h
  ·have h1:=Eat.isS hg (by assumption);exact (Ate.after h1 (Snd.bnd (e:=0) (hR.nt _ h1.2.2) (fun a=>Cn _) r h)).le (by omega)
  ·refine Snd.bnd (d:=1) (e:=0) (hR.sm ts hg) (fun a ts hg r h=>?_) r h;split at h
   ·cases h; exact Eat.self hg
   ·rename_i ho;obtain ⟨s,hs⟩:=E4 ho;have h1:=Eat.isS hg hs;exact (Ate.after h1 (Snd.bnd (e:=0) (hR.sm _ h1.2.2) (fun a=>Cn _) r h)).le (by omega)
 un:=fun ts hg r h=>by
  replace h:unF R ts=some r:=h;unfold unF at h;split at h
  ·have h1:=Eat.isS hg (by assumption);exact (Ate.after h1 (Snd.bnd (e:=0) (hR.un _ h1.2.2) (fun a=>Cn _) r h)).le (by omega)
  ·split at h
   ·have h1:=Eat.isS hg (by assumption);exact (Ate.after h1 (Snd.bnd (e:=0) (hR.un _ h1.2.2) (fun a=>Cn _) r h)).le (by omega)
   ·split at h
    ·have h1:=Eat.isS hg (by assumption);exact (Ate.after h1 (Snd.bnd (e:=1) (C6 _ h1.2.2) (fun a=>F6 hR _ _) r h)).le (by omega)
    ·exact Snd.bnd (d:=1) (e:=0) (hR.pm ts hg) (fun a ts hg r h=>Gq hR.ex _ a ts hg r h) r h
 pm:=fun ts hg r h=>by
  replace h:pmF R ts=some r:=h;unfold pmF at h;split at h
  ·rename_i a u hl;cases h; exact (Jm hg hl).1
  ·split at h
   ·cases h
   ·rename_i t u hk;have h1:Eat 1 ts u:=Gi (by decide) ts hg _ hk;split at h
    ·exact (Ate.after h1 (F6 hR _ _ u h1.2.2 r h)).le (by omega)
    ·cases h; exact h1
   ·rename_i u hk;have e:u=ts:=by
     obtain ⟨t,v,rfl⟩:=hg.head;simp only [Fo] at hk;by_cases e:t.Kind=1
     ·rw [if_pos e] at hk; cases hk
     ·rw [if_neg e] at hk; cases hk; rfl
    subst e;split at h
    ·have h1:=Eat.isS hg (by assumption);exact (Ate.after h1 (Snd.bnd (e:=0) (Eo hR.ex _ h1.2.2) (fun ks=>Cn _) r h)).le (by omega)
    ·split at h
     ·have h1:=Eat.isS hg (by assumption);exact (Ate.after h1 (Snd.bnd (e:=0) (Eo hR.pr _ h1.2.2) (fun ks=>Cn _) r h)).le (by omega)
     ·exact (Snd.bnd (d:=1) (e:=2) (Cf _ u hg) (fun _ ts hg r h=>Snd.bnd (d:=1) (e:=1) (hR.ex ts hg) (fun a ts hg r h=>Snd.bnd (d:=1) (e:=0) (Cf _ ts hg) (fun _=>Cn _) r h) r h) r h).le (by omega)
 pr:=fun ts hg r h=>(Snd.bnd (d:=1) (e:=2) (Gi (by decide) ts hg) (fun t ts hg r h=>Snd.bnd (d:=1) (e:=1) (Cf _ ts hg) (fun _ ts hg r h=>Snd.bnd (d:=1) (e:=0) (hR.ex ts hg) (fun _=>Cn _) r h) r h) r h).le (by omega)
theorem P0:∀ f,Gp (SPu f)
 | 0=>⟨fun _ _ _ h=>(by cases h),fun _ _ _ h=>(by cases h),fun _ _ _ h=>(by cases h),fun _ _ _ h=>(by cases h),fun _ _ _ h=>(by cases h),fun _ _ _ h=>(by cases h),fun _ _ _ h=>(by cases h),fun _ _ _ h=>(by cases h)⟩
 | f+1=>Sj (P0 f)
end Go.Proofs.YtifjagfmfkemmaaGreatDoor
