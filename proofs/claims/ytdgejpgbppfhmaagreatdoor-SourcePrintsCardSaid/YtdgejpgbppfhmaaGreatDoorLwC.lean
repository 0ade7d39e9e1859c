import Derived.Test.YtdgejpgbppfhmaaGreatDoorLwB
set_option linter.unusedVariables false
set_option linter.unusedSimpArgs false
set_option maxHeartbeats 4000000
namespace Go.Proofs.YtdgejpgbppfhmaaGreatDoor
open Eng Go
abbrev Tk:=Av
abbrev Nd:=Aa
abbrev Rs (α:Type):=Option (Except (List Tk) (α×List Tk))
def isS (s:Ge):List Tk→Bool
 | []=>false
 | t :: _=>(decide (t.Kind=2) || decide (t.Kind=5)) && decide (t.Text=s)
def bnd {α β:Type} (x:Rs α) (f:α→List Tk→Rs β):Rs β :=
 match x with
 | none=>none
 | some (.error e)=>some (.error e)
 | some (.ok (a,ts))=>f a ts
abbrev pok {α:Type} (a:α) (ts:List Tk):Rs α:=some (.ok (a,ts))
def Ij (s:Ge) (ts:List Tk):Rs Unit:=if isS s ts=true then pok () ts.tail else some (.error ts)
def Jx (k:Int):List Tk→Rs Tk
 | []=>none
 | t :: r=>if t.Kind=k then pok t r else some (.error (t :: r))
def Kj (ts:List Tk):Rs Ge:=bnd (Jx 1 ts) fun t r=>pok t.Text r
abbrev Ops:=List (Ge×Int)
def Hq:Ops→List Tk→Option Int
 | [],_=>none
 | o :: l,ts=>if isS o.1 ts=true then some o.2 else Hq l ts
abbrev nd (op:Int) (ks:List Nd):Nd:=⟨op,[],0,[],ks⟩
def Jg (sub:List Tk→Rs Nd) (ops:Ops):Nat→Nd→List Tk→Rs Nd
 | 0,_,_=>none
 | k+1,a,ts=>match Hq ops ts with
  | none=>pok a ts
  | some op=>bnd (sub ts.tail) fun b ts=>Jg sub ops k (nd op [a,b]) ts
def Lk (sub:List Tk→Rs Nd) (ops:Ops) (ts:List Tk):Rs Nd:=bnd (sub ts) fun a ts=>Jg sub ops (ts.length+1) a ts
def J7 (e:Ge) (elem:List Tk→Rs Nd):Nat→List Nd→List Tk→Rs (List Nd)
 | 0,_,_=>none
 | k+1,acc,ts=>bnd (elem ts) fun a ts=>if isS e ts=true then pok (acc++[a]) ts.tail else bnd (Ij [44] ts) fun _ ts=>J7 e elem k (acc++[a]) ts
def It (e:Ge) (elem:List Tk→Rs Nd) (ts:List Tk):Rs (List Nd):=if isS e ts=true then pok [] ts.tail else J7 e elem (ts.length+1) [] ts
def Il (ex:List Tk→Rs Nd):Nat→Nd→List Tk→Rs Nd
 | 0,_,_=>none
 | k+1,a,ts=>if isS [46] ts=true then bnd (Kj ts.tail) fun s ts=>Il ex k ⟨29,s,0,[],[a]⟩ ts
  else if isS [91] ts=true then bnd (ex ts.tail) fun b ts=>bnd (Ij [93] ts) fun _ ts=>Il ex k (nd 28 [a,b]) ts
  else pok a ts
def Qj:Ops:=[([110,117,108,108],1),([116,114,117,101],2),([102,97,108,115,101],3)]
def K9:Ops:=[([60],20),([60,61],21),([62],22),([62,61],23),([61,61],24),([33,61],25)]
def Lu:Ops:=[([42],15),([47],16),([37],17)]
def L3:Ops:=[([43],18),([45],19)]
def Mf:Ops:=[([97,110,100],26)]
def Pa:Ops:=[([111,114],27)]
structure SP where
 ex:List Tk→Rs Nd
 cj:List Tk→Rs Nd
 nt:List Tk→Rs Nd
 sm:List Tk→Rs Nd
 pd:List Tk→Rs Nd
 un:List Tk→Rs Nd
 pm:List Tk→Rs Nd
 pr:List Tk→Rs Nd
def J6 (R:SP) (op:Int) (s:Ge) (ts:List Tk):Rs Nd:=bnd (Ij [40] ts) fun _ ts=>bnd (It [41] R.ex ts) fun ks ts=>pok ⟨op,s,0,[],ks⟩ ts
def ntF (R:SP) (ts:List Tk):Rs Nd:=if isS [110,111,116] ts=true then bnd (R.nt ts.tail) fun a ts=>pok (nd 13 [a]) ts
 else bnd (R.sm ts) fun a ts=>match Hq K9 ts with
  | none=>pok a ts
  | some op=>bnd (R.sm ts.tail) fun b ts=>pok (nd op [a,b]) ts
def unF (R:SP) (ts:List Tk):Rs Nd:=if isS [45] ts=true then bnd (R.un ts.tail) fun a ts=>pok (nd 14 [a]) ts
 else if isS [97,119,97,105,116] ts=true then bnd (R.un ts.tail) fun a ts=>pok (nd 12 [a]) ts
 else if isS [103,111] ts=true then bnd (Kj ts.tail) fun s ts=>J6 R 11 s ts
 else bnd (R.pm ts) fun a ts=>Il R.ex (ts.length+1) a ts
def prF (R:SP) (ts:List Tk):Rs Nd:=bnd (Jx 4 ts) fun t ts=>bnd (Ij [58] ts) fun _ ts=>bnd (R.ex ts) fun a ts=>pok ⟨9,[],0,t.Text,[a]⟩ ts
def Qn:List Tk→Option (Nd×List Tk)
 | []=>none
 | t :: r=>if t.Kind=3 then some (⟨4,[],t.Int,[],[]⟩,r) else if t.Kind=4 then some (⟨5,[],0,t.Text,[]⟩,r)
  else match Hq Qj (t :: r) with
   | some op=>some (nd op [],r)
   | none=>none
def pmF (R:SP) (ts:List Tk):Rs Nd:=match Qn ts with
 | some (a,r)=>pok a r
 | none=>match Jx 1 ts with
  | none=>none
  | some (.ok (t,r))=>if isS [40] r=true then J6 R 10 t.Text r else pok ⟨6,t.Text,0,[],[]⟩ r
  | some (.error ts)=>if isS [91] ts=true then bnd (It [93] R.ex ts.tail) fun ks ts=>pok (nd 7 ks) ts
   else if isS [123] ts=true then bnd (It [125] R.pr ts.tail) fun ks ts=>pok (nd 8 ks) ts
   else bnd (Ij [40] ts) fun _ ts=>bnd (R.ex ts) fun a ts=>bnd (Ij [41] ts) fun _ ts=>pok a ts
def SPF (R:SP):SP:=⟨Lk R.cj Pa,Lk R.nt Mf,ntF R,Lk R.pd L3,Lk R.un Lu,unF R,pmF R,prF R⟩
def SPu:Nat→SP
 | 0=>⟨fun _=>none,fun _=>none,fun _=>none,fun _=>none,fun _=>none,fun _=>none,fun _=>none,fun _=>none⟩
 | f+1=>SPF (SPu f)
def Iz:List Tk→Prop
 | []=>False
 | [t]=>t.Kind=0
 | t :: ts=>Iz ts
theorem Iz.tl {t:Tk} {ts:List Tk} (h:Iz (t :: ts)) (hk:t.Kind≠0):Iz ts:=by
 cases ts with
 | nil=>exact absurd h hk
 | cons u ts=>exact h
theorem Iz.head {ts:List Tk} (h:Iz ts):∃ t r,ts=t :: r:=by
 cases ts with
 | nil=>exact absurd h (by simp [Iz])
 | cons t r=>exact ⟨t,r,rfl⟩
theorem Qa {s:Ge} {t:Tk} {r:List Tk} (h:isS s (t :: r)=true):t.Kind≠0:=by
 unfold isS at h; simp at h; omega
theorem Iz.isS {s:Ge} {ts:List Tk} (h:Iz ts) (hs:isS s ts=true):Iz ts.tail∧ts.tail.length < ts.length∧ts.tail<:+ts:=by
 obtain ⟨t,r,rfl⟩:=h.head;exact ⟨h.tl (Qa hs),by simp,List.suffix_cons t r⟩
def Eat (d:Nat) (ts ts':List Tk):Prop:=ts'<:+ts∧ts'.length+d≤ts.length∧Iz ts'
theorem Eat.trans {d e:Nat} {a b c:List Tk} (h:Eat d a b) (h':Eat e b c):Eat (d+e) a c:=⟨h'.1.trans h.1,by have:=h.2.1; have:=h'.2.1; omega,h'.2.2⟩
theorem Eat.le {d e:Nat} {a b:List Tk} (h:Eat d a b) (hd:e≤d):Eat e a b:=⟨h.1,by have:=h.2.1; omega,h.2.2⟩
theorem Eat.self {a:List Tk} (h:Iz a):Eat 0 a a:=⟨List.suffix_refl a,by omega,h⟩
theorem Eat.isS {s:Ge} {ts:List Tk} (h:Iz ts) (hs:isS s ts=true):Eat 1 ts ts.tail:=by
 obtain ⟨h1,h2,h3⟩:=h.isS hs; exact ⟨h3,by omega,h1⟩
def Ate {α:Type} (d:Nat) (ts:List Tk):Except (List Tk) (α×List Tk)→Prop
 | .ok (_,ts')=>Eat d ts ts'
 | .error ts'=>Eat 0 ts ts'
theorem Ate.le {α:Type} {d e:Nat} {ts:List Tk} {r:Except (List Tk) (α×List Tk)} (h:Ate d ts r) (hd:e≤d):Ate e ts r:=by
 cases r with
 | error t=>exact h
 | ok p=>obtain ⟨a,t⟩:=p; exact Eat.le h hd
theorem Ate.after {α:Type} {d e:Nat} {a b:List Tk} {r:Except (List Tk) (α×List Tk)} (h:Eat d a b) (h':Ate e b r):Ate (d+e) a r:=by
 cases r with
 | error t=>exact Eat.le (Eat.trans h h') (by omega)
 | ok p=>obtain ⟨x,t⟩:=p; exact Eat.trans h h'
def Snd {α:Type} (d:Nat) (p:List Tk→Rs α):Prop:=∀ ts,Iz ts→∀ r,p ts=some r→Ate d ts r
theorem Snd.bnd {α β:Type} {d e:Nat} {ts:List Tk} {x:Rs α} {f:α→List Tk→Rs β} (hx:∀ r,x=some r→Ate d ts r) (hf:∀ a,Snd e (f a)):∀ r,bnd x f=some r→Ate (d+e) ts r:=by
 intro r h
 match x,hx,h with
 | none,_,h=>cases h
 | some (.error t),hx,h=>cases h; exact hx _ rfl
 | some (.ok (a,t)),hx,h =>
  have h1:Eat d ts t:=hx _ rfl;exact Ate.after h1 (hf a t h1.2.2 r h)
theorem Ti {α:Type} (a:α):Snd 0 (pok a):=fun ts hg r h=>by cases h; exact Eat.self hg
theorem Q3 (s:Ge):Snd 1 (Ij s):=fun ts hg r h=>by
 unfold Ij at h;split at h
 ·cases h; exact Eat.isS hg (by assumption)
 ·cases h; exact Eat.self hg
theorem Qb {k:Int} (hk:k≠0):Snd 1 (Jx k):=fun ts hg r h=>by
 obtain ⟨t,u,rfl⟩:=hg.head;simp only [Jx] at h;by_cases e:t.Kind=k
 ·rw [if_pos e] at h; cases h; exact ⟨List.suffix_cons t u,by simp,hg.tl (by omega)⟩
 ·rw [if_neg e] at h; cases h; exact Eat.self hg
theorem Mu:Snd 1 Kj:=fun ts hg r h=>Snd.bnd (e:=0) (Qb (by decide) ts hg) (fun a=>Ti _) r h
theorem Lr {e:Ge} {elem:List Tk→Rs Nd} (he:Snd 1 elem):∀ (k:Nat) (acc:List Nd),Snd 1 (J7 e elem k acc)
 | 0,acc,ts,hg,r,h=>by cases h
 | k+1,acc,ts,hg,r,h=>by
  unfold J7 at h;refine Snd.bnd (d:=1) (e:=0) (he ts hg) (fun a ts hg r h=>?_) r h;split at h
  ·cases h; exact (Eat.isS hg (by assumption)).le (by omega)
  ·exact (Snd.bnd (d:=1) (e:=1) (Q3 _ ts hg) (fun _=>Lr he k _) r h).le (by omega)
theorem Pr {e:Ge} {elem:List Tk→Rs Nd} (he:Snd 1 elem):Snd 1 (It e elem):=fun ts hg r h=>by
 unfold It at h;split at h
 ·cases h; exact Eat.isS hg (by assumption)
 ·exact Lr he _ _ ts hg r h
structure K3 (R:SP):Prop where
 ex:Snd 1 R.ex
 cj:Snd 1 R.cj
 nt:Snd 1 R.nt
 sm:Snd 1 R.sm
 pd:Snd 1 R.pd
 un:Snd 1 R.un
 pm:Snd 1 R.pm
 pr:Snd 1 R.pr
def Tot {α:Type} (n:Nat) (p:List Tk→Rs α):Prop:=∀ ts,Iz ts→ts.length≤n→∃ r,p ts=some r
theorem Jo (a:Nd):(⟨a.Op,a.Name,a.Int,a.Text,a.Kids⟩:Aa)=a:=by cases a; rfl
abbrev pos (l ts:List Tk):Int:=((l.length - ts.length:Nat):Int)
abbrev st (l ts:List Tk):Ab:=⟨l,pos l ts⟩
def atE (ts:List Tk):Int:=match ts with | []=>0 | t :: _=>t.At
def cR {α:Type} (l:List Tk):Except (List Tk) (α×List Tk)→Int ⊕ (α×Ab)
 | .error ts=>.inl (atE ts)
 | .ok (a,ts)=>.inr (a,st l ts)
def cL {α:Type} (l:List Tk):Except (List Tk) (α×List Tk)→(α×Ab) ⊕ Int
 | .error ts=>.inr (atE ts)
 | .ok (a,ts)=>.inl (a,st l ts)
structure Sx (l ts:List Tk):Prop where
 sf:ts<:+l
 gd:Iz ts
 hl:l.length≤9000000
theorem Sx.eat {l ts ts':List Tk} {d:Nat} (h:Sx l ts) (e:Eat d ts ts'):Sx l ts':=⟨e.1.trans h.sf,e.2.2,h.hl⟩
theorem Sx.is {l ts:List Tk} {s:Ge} (h:Sx l ts) (hs:isS s ts=true):Sx l ts.tail:=h.eat (Eat.isS h.gd hs)
theorem Sx.len {l ts:List Tk} (h:Sx l ts):1≤ts.length∧ts.length≤l.length:=by
 obtain ⟨t,r,rfl⟩:=h.gd.head;exact ⟨by simp,h.sf.length_le⟩
theorem Sx.get {l:List Tk} {t:Tk} {r:List Tk} (h:Sx l (t :: r)):l.getD (l.length - (t :: r).length) Et=t:=by
 obtain ⟨u,rfl⟩:=h.sf;simp [List.getD]
theorem Sx.succ {l ts:List Tk} (h:Sx l ts):IntKind.i64.wrap (pos l ts+1)=pos l ts.tail:=by
 have:=h.len; have:=h.hl
 obtain ⟨t,r,rfl⟩:=h.gd.head;simp only [pos,List.length_cons,List.tail_cons] at *;rw [w64 (by omega) (by omega)]; omega
theorem Kx {K:Nat} {l:List Tk} {t:Tk} {r:List Tk} (h:Sx l (t :: r)):Cj K (st l (t :: r))=some t:=by
 have h1:=h.len; have h2:=h.hl; have h3:=h.get;unfold Cj;dsimp only [st,pos];rw [w64 (by omega) (by omega),if_neg (show ¬ ((l.length:Int) - 1 <((l.length - (t :: r).length:Nat):Int)) by omega),if_pos ⟨by omega,by omega⟩,Int.toNat_natCast,h3]
theorem Qk {K:Nat} {l ts:List Tk} (h:Sx l ts) (s:Ge):Fo K (st l ts) s=some (isS s ts):=by
 obtain ⟨t,r,rfl⟩:=h.gd.head;unfold Fo isS;rw [Kx h,Option.bind_some];by_cases h2:t.Kind=2
 ·simp [h2]
 ·by_cases h5:t.Kind=5
  ·simp [h5]
  ·simp [h2,h5]
theorem Ki {K:Nat} {l ts:List Tk} (h:Sx l ts) {s:Ge} (hs:isS s ts=true):Ao K s (st l ts)=some (true,st l ts.tail):=by
 unfold Ao;rw [Qk h,hs,Option.bind_some,if_pos rfl,h.succ]
theorem J8 {K:Nat} {l ts:List Tk} (h:Sx l ts) {s:Ge} (hs:¬ isS s ts=true):Ao K s (st l ts)=some (false,st l ts):=by
 unfold Ao;rw [Qk h,Option.bind_some,if_neg hs]
theorem O4 {K:Nat} {l ts:List Tk} (h:Sx l ts):Br K (st l ts)=some (atE ts):=by
 obtain ⟨t,r,rfl⟩:=h.gd.head;unfold Br;rw [Kx h]; rfl
theorem P8 {K:Nat} {l:List Tk} {t:Tk} {r:List Tk} (h:Sx l (t :: r)):Ei K (st l (t :: r))=some (t,st l r):=by
 unfold Ei;rw [Kx h,Option.bind_some,h.succ]; rfl
theorem Np {K:Nat} {l ts:List Tk} (h:Sx l ts) {s:Ge} (hs:isS s ts=true):Aq K s (st l ts)=some (.inl (st l ts.tail)):=by
 unfold Aq;rw [Ki h hs]; rfl
theorem Oc {K:Nat} {l ts:List Tk} (h:Sx l ts) {s:Ge} (hs:¬ isS s ts=true):Aq K s (st l ts)=some (.inr (atE ts)):=by
 unfold Aq;rw [J8 h hs];show Option.bind (Br K (st l ts)) _=_;rw [O4 h]; rfl
theorem L0 {K:Nat} {l ts:List Tk} (h:Sx l ts) {r:Except (List Tk) (Ge×List Tk)} (hr:Kj ts=some r):Aw K (st l ts)=some (cR l r):=by
 obtain ⟨t,u,rfl⟩:=h.gd.head;unfold Aw;rw [Kx h,Option.bind_some];simp only [Kj,Jx] at hr;by_cases hk:t.Kind=1
 ·rw [if_pos hk] at hr; cases hr;rw [if_neg (by simpa using hk),P8 h]; rfl
 ·rw [if_neg hk] at hr; cases hr;rw [if_pos hk,O4 h]; rfl
def Kt (l:List Tk) (p:List Tk→Rs Nd) (q:Ab→Option (Int ⊕ (Nd×Ab))):Prop:=∀ ts,Sx l ts→∀ r,p ts=some r→q (st l ts)=some (cR l r)
def Rr {α:Type} (l:List Tk) (p:List Tk→Rs α) (q:Ab→Option ((α×Ab) ⊕ Int)):Prop:=∀ ts,Sx l ts→∀ r,p ts=some r→q (st l ts)=some (cL l r)
theorem Sf {s s':Ge} (hn:s≠s') {ts:List Tk} (h:isS s ts=true):¬ isS s' ts=true:=by
 cases ts with
 | nil=>simp [isS]
 | cons t r=>simp [isS] at h ⊢; intro _ e; exact hn (h.2.symm.trans e)
def Ou (e:Ge) (elem:List Tk→Rs Nd) (k:Nat) (acc:List Nd) (ts:List Tk):Rs (List Nd):=if isS e ts=true then pok acc ts.tail else bnd (Ij [44] ts) fun _ ts=>J7 e elem k acc ts
theorem Sp {K:Nat} {l:List Tk} {e:Ge} (he:e≠[44]) {elem:List Tk→Rs Nd} {q:Ab→Option (Int ⊕ (Nd×Ab))}
  {L:Nat→List Tk→Int→List Nd→Option (Ty ((List Nd×Ab) ⊕ Int) (List Tk×Int×List Nd))}
  (hL:∀ k l i acc,L (k+1) l i acc=((Ao K [44] (⟨l,i⟩:Ab)).bind fun (m,f)=>(if m=true then ((q f).bind fun a4=>match a4 with |(Sum.inl a4)=>some (Ty.done (Sum.inr a4)) |(Sum.inr (b,j))=>(if (acc.length+([(⟨b.Op,b.Name,b.Int,b.Text,b.Kids⟩:Aa)]:List Aa).length) * 72≤140737488355328 then L k j.l j.i (acc++([(⟨b.Op,b.Name,b.Int,b.Text,b.Kids⟩:Aa)]:List Aa)) else none)) else some (Ty.go (f.l,f.i,acc)))))
  (hs:Snd 1 elem) (hq:Kt l elem q):∀ (k' k:Nat) (acc:List Nd) (ts:List Tk),k+1≤k'→acc.length+ts.length≤9000010→Sx l ts→∀ r,Ou e elem k acc ts=some r →
   Ub (L k' l (pos l ts) acc) (fun r=>r) (fun (c,d,g)=>((Aq K e (⟨c,d⟩:Ab)).bind fun a5=>match a5 with |(Sum.inl a5)=>some (Sum.inl (g,a5)) |(Sum.inr a5)=>some (Sum.inr a5)))=some (cL l r):=by
 intro k'
 induction k' with
 | zero=>intro k acc ts hk; omega
 | succ k' ih =>
  intro k acc ts hk hn h r hr;rw [hL];unfold Ou at hr;by_cases h1:isS e ts=true
  ·rw [if_pos h1] at hr;have e1:=J8 (K:=K) h (Sf he h1);change Ao K _ ⟨l,pos l ts⟩=_ at e1;rw [e1];cases hr;show Option.bind (Aq K e (st l ts)) _=_;rw [Np h h1]; rfl
  ·rw [if_neg h1] at hr;by_cases h2:isS [44] ts=true
   ·have e1:=Ki (K:=K) h h2;change Ao K _ ⟨l,pos l ts⟩=_ at e1;rw [e1];unfold Ij at hr;rw [if_pos h2] at hr;replace hr:J7 e elem k acc ts.tail=some r:=hr;cases k with
    | zero=>cases hr
    | succ k =>
     replace hr:bnd (elem ts.tail) (fun a ts=>Ou e elem k (acc++[a]) ts)=some r:=hr;have h3:=h.is h2;show Ub (Option.bind (q (st l ts.tail)) _) _ _=_;cases hb:elem ts.tail with
     | none=>rw [hb] at hr; cases hr
     | some x =>
      rw [hq _ h3 _ hb,Option.bind_some];rw [hb] at hr;have hx:=hs _ h3.gd _ hb
      match x,hr,hx with
      | .error e,hr,hx=>cases hr; rfl
      | .ok (a,ts'),hr,hx =>
       replace hx:Eat 1 _ ts':=hx
       have:=hx.2.1; have:=(Eat.isS h.gd h2).2.1; have:=h.len
       simp only [cR,Jo];rw [if_pos (by simp; omega)];exact ih k (acc++[a]) ts' (by omega) (by simp; omega) (h3.eat hx) r hr
   ·have e1:=J8 (K:=K) h h2;change Ao K _ ⟨l,pos l ts⟩=_ at e1;rw [e1];unfold Ij at hr;rw [if_neg h2] at hr;cases hr;show Option.bind (Aq K e (st l ts)) _=_;rw [Oc h h1]; rfl
theorem Re {K:Nat} (hK:9000010≤K∨True) {l:List Tk} (hKl:l.length+2≤K) {e:Ge} (he:e≠[44]) {elem:List Tk→Rs Nd} {q:Ab→Option (Int ⊕ (Nd×Ab))}
  {L:Nat→List Tk→Int→List Nd→Option (Ty ((List Nd×Ab) ⊕ Int) (List Tk×Int×List Nd))} {Q:Ab→Option ((List Nd×Ab) ⊕ Int)}
  (hL:∀ k l i acc,L (k+1) l i acc=((Ao K [44] (⟨l,i⟩:Ab)).bind fun (p,g)=>(if p=true then ((q g).bind fun a4=>match a4 with |(Sum.inl a4)=>some (Ty.done (Sum.inr a4)) |(Sum.inr (b,m))=>(if (acc.length+([(⟨b.Op,b.Name,b.Int,b.Text,b.Kids⟩:Aa)]:List Aa).length) * 72≤140737488355328 then L k m.l m.i (acc++([(⟨b.Op,b.Name,b.Int,b.Text,b.Kids⟩:Aa)]:List Aa)) else none)) else some (Ty.go (g.l,g.i,acc)))))
  (hQ:∀ p1,Q p1=((Ao K e p1).bind fun (s,n)=>(if s=true then some (Sum.inl (([]:List Aa),n)) else ((q n).bind fun a2=>match a2 with |(Sum.inl a2)=>some (Sum.inr a2) |(Sum.inr (c,o))=>(Ub (L K o.l o.i ([(⟨c.Op,c.Name,c.Int,c.Text,c.Kids⟩:Aa)]:List Aa)) (fun r=>r) (fun (d,f,j)=>((Aq K e (⟨d,f⟩:Ab)).bind fun a5=>match a5 with |(Sum.inl a5)=>some (Sum.inl (j,a5)) |(Sum.inr a5)=>some (Sum.inr a5))))))))
  (hs:Snd 1 elem) (hq:Kt l elem q):Rr l (It e elem) Q:=by
 intro ts h r hr;rw [hQ];unfold It at hr;by_cases h1:isS e ts=true
 ·rw [if_pos h1] at hr; cases hr;rw [Ki h h1]; rfl
 ·rw [if_neg h1] at hr;rw [J8 h h1];replace hr:bnd (elem ts) (fun a ts'=>Ou e elem ts.length ([]++[a]) ts')=some r:=hr;show Option.bind (q (st l ts)) _=_;cases hb:elem ts with
  | none=>rw [hb] at hr; cases hr
  | some x =>
   rw [hq _ h _ hb,Option.bind_some];rw [hb] at hr;have hx:=hs _ h.gd _ hb
   match x,hr,hx with
   | .error e,hr,hx=>cases hr; rfl
   | .ok (a,ts'),hr,hx =>
    replace hx:Eat 1 _ ts':=hx
    have:=hx.2.1; have:=h.len; have:=h.hl
    simp only [cR,Jo];exact Sp he hL hs hq K _ [a] ts' (by omega) (by simp; omega) (h.eat hx) r hr
abbrev GP:=Ai
theorem Su {K:Nat} {l:List Tk} {R:GP} {ex:List Tk→Rs Nd} (hs:Snd 1 ex) (hq:Kt l ex R.Ay):∀ (k k':Nat) (a:Nd) (ts:List Tk),k≤k'→Sx l ts→∀ r,Il ex k a ts=some r →
  Bh.l6 K R k' l (pos l ts) a.Op a.Name a.Int a.Text a.Kids=some (Ty.done (cR l r)):=by
 intro k
 induction k with
 | zero=>intro k' a ts hk h r hr; cases hr
 | succ k ih =>
  intro k' a ts hk h r hr;obtain ⟨k',rfl⟩:∃ j,k'=j+1:=⟨k' - 1,by omega⟩
  rw [Bh.l6];change Option.bind (Ao K _ (st l ts)) _=_;unfold Il at hr;by_cases h1:isS [46] ts=true
  ·rw [if_pos h1] at hr;rw [Ki h h1];have h3:=h.is h1;show Option.bind (Aw K (st l ts.tail)) _=_;cases hb:Kj ts.tail with
   | none=>rw [hb] at hr; cases hr
   | some x =>
    rw [L0 h3 hb,Option.bind_some];rw [hb] at hr;have hx:=Mu _ h3.gd _ hb
    match x,hr,hx with
    | .error e,hr,hx=>cases hr; rfl
    | .ok (s,ts'),hr,hx =>
     simp only [cR,Jo];exact ih k' ⟨29,s,0,[],[a]⟩ ts' (by omega) (h3.eat hx) r hr
  ·rw [if_neg h1] at hr;rw [J8 h h1];show Option.bind (Ao K _ (st l ts)) _=_;by_cases h2:isS [91] ts=true
   ·rw [if_pos h2] at hr;rw [Ki h h2];have h3:=h.is h2;show Option.bind (R.Ay (st l ts.tail)) _=_;cases hb:ex ts.tail with
    | none=>rw [hb] at hr; cases hr
    | some x =>
     rw [hq _ h3 _ hb,Option.bind_some];rw [hb] at hr;have hx:=hs _ h3.gd _ hb
     match x,hr,hx with
     | .error e,hr,hx=>cases hr; rfl
     | .ok (b,ts'),hr,hx =>
      have h4:=h3.eat hx;simp only [cR,Jo,Dn,Option.bind_some];replace hr:bnd (Ij [93] ts') (fun _ ts=>Il ex k (nd 28 [a,b]) ts)=some r:=hr;unfold Ij at hr;by_cases h5:isS [93] ts'=true
      ·rw [if_pos h5] at hr;rw [Np h4 h5];exact ih k' (nd 28 [a,b]) ts'.tail (by omega) (h4.is h5) r hr
      ·rw [if_neg h5] at hr;rw [Oc h4 h5]; cases hr; rfl
   ·rw [if_neg h2] at hr;rw [J8 h h2];cases hr;simp only [Jo]; rfl
theorem Q0 {l:List Tk} (r:Except (List Tk) (Nd×List Tk)):(match cR l r with |(Sum.inl a1)=>some (Sum.inl a1) |(Sum.inr (b,c))=>some (Sum.inr (b,c)):Option (Int ⊕ (Nd×Ab)))=some (cR l r):=by
 match r with
 | .error e=>rfl
 | .ok (a,ts)=>rfl
theorem Jw {α β γ:Type} {l:List Tk} {ts:List Tk} {x:Rs α} {f:α→List Tk→Rs β} {r:Except (List Tk) (β×List Tk)} (h:Sx l ts) {d:Nat} (hx:∀ r,x=some r→Ate d ts r) (hr:bnd x f=some r) :
  (∃ e,x=some (.error e)∧r=.error e)∨∃ a ts',x=some (.ok (a,ts'))∧Sx l ts'∧Eat d ts ts'∧f a ts'=some r:=by
 match x,hx,hr with
 | none,_,hr=>cases hr
 | some (.error e),_,hr=>cases hr; exact .inl ⟨e,rfl,rfl⟩
 | some (.ok (a,t)),hx,hr =>
  have:=hx _ rfl
  exact .inr ⟨a,t,rfl,h.eat this,this,hr⟩
section
variable {K:Nat} {l:List Tk} {S:SP}
theorem Rt (hKl:l.length+2≤K) (hS:K3 S) {g:Nat} (hE:Kt l S.ex (Ai.upto K g).Ay) (op:Int) (s:Ge) :
  Rr l (J6 S op s) ((Ai.upto K (g+2)).Bt op s):=by
 intro ts h r hr;show Bt.F K (Ai.upto K (g+1)) op s (st l ts)=_;unfold Bt.F;unfold J6 Ij at hr;by_cases h1:isS [40] ts=true
 ·rw [if_pos h1] at hr;rw [Np h h1];have h2:=h.is h1;have hl:=Re (.inr trivial) hKl (e:=[41]) (by decide) (L:=Bp.l15 K (Ai.upto K g)) (Q:=(Ai.upto K (g+1)).Bp [41]) (fun k l i acc=>rfl) (fun p=>rfl) hS.ex hE;replace hr:bnd (It [41] S.ex ts.tail) (fun ks ts=>pok ⟨op,s,0,[],ks⟩ ts)=some r:=hr;show Option.bind ((Ai.upto K (g+1)).Bp [41] (st l ts.tail)) _=_;rcases Jw (γ:=Nd) h2 (fun r=>Pr hS.ex _ h2.gd r) hr with ⟨e,hx,rfl⟩ |⟨ks,ts',hx,h3,h4,hr⟩
  ·rw [hl _ h2 _ hx]; rfl
  ·rw [hl _ h2 _ hx]; cases hr; rfl
 ·rw [if_neg h1] at hr;rw [Oc h h1]; cases hr; rfl
theorem un_ok (hKl:l.length+2≤K) (hS:K3 S) {g:Nat} (hE:Kt l S.ex (Ai.upto K g).Ay) (hE1:Kt l S.ex (Ai.upto K (g+1)).Ay) (hU:Kt l S.un (Ai.upto K (g+2)).Bg)
  (hP:Rr l S.pm (Ai.upto K (g+1)).Ck):Kt l (unF S) (Ai.upto K (g+3)).Bg:=by
 intro ts h r hr;show Bg.F K (Ai.upto K (g+2)) (st l ts)=_;unfold Bg.F;unfold unF at hr;by_cases h1:isS [45] ts=true
 ·rw [if_pos h1] at hr;rw [Ki h h1];have h2:=h.is h1;show Option.bind ((Ai.upto K (g+2)).Bg (st l ts.tail)) _=_;rcases Jw (γ:=Nd) h2 (fun r=>hS.un _ h2.gd r) hr with ⟨e,hx,rfl⟩ |⟨a,ts',hx,h4,h5,hr⟩
  ·rw [hU _ h2 _ hx]; rfl
  ·rw [hU _ h2 _ hx]; cases hr; simp only [cR,Jo,Dn,Option.bind_some]
 rw [if_neg h1] at hr;rw [J8 h h1];show Option.bind (Ao K [97,119,97,105,116] (st l ts)) _=_;by_cases h1:isS [97,119,97,105,116] ts=true
 ·rw [if_pos h1] at hr;rw [Ki h h1];have h2:=h.is h1;show Option.bind ((Ai.upto K (g+2)).Bg (st l ts.tail)) _=_;rcases Jw (γ:=Nd) h2 (fun r=>hS.un _ h2.gd r) hr with ⟨e,hx,rfl⟩ |⟨a,ts',hx,h4,h5,hr⟩
  ·rw [hU _ h2 _ hx]; rfl
  ·rw [hU _ h2 _ hx]; cases hr; simp only [cR,Jo,Dn,Option.bind_some]
 rw [if_neg h1] at hr;rw [J8 h h1];show Option.bind (Ao K [103,111] (st l ts)) _=_;by_cases h1:isS [103,111] ts=true
 ·rw [if_pos h1] at hr;rw [Ki h h1];have h2:=h.is h1;show Option.bind (Aw K (st l ts.tail)) _=_;rcases Jw (γ:=Nd) h2 (fun r=>Mu _ h2.gd r) hr with ⟨e,hx,rfl⟩ |⟨s,ts',hx,h4,h5,hr⟩
  ·rw [L0 h2 hx]; rfl
  ·rw [L0 h2 hx];show Option.bind ((Ai.upto K (g+2)).Bt 11 s (st l ts')) _=_;rw [Rt hKl hS hE 11 s _ h4 _ hr]
   match r with
   | .error e=>rfl
   | .ok (a,ts)=>rfl
 rw [if_neg h1] at hr;rw [J8 h h1];show Option.bind (Bh.F K (Ai.upto K (g+1)) (st l ts)) _=_;unfold Bh.F;rcases Jw (γ:=Nd) h (fun r=>hS.pm _ h.gd r) hr with ⟨e,hx,rfl⟩ |⟨a,ts',hx,h4,h5,hr⟩
 ·rw [hP _ h _ hx]; rfl
 ·rw [hP _ h _ hx]
  have:=h4.len
  show Option.bind (Ub (Bh.l6 K (Ai.upto K (g+1)) K l (pos l ts') a.Op a.Name a.Int a.Text a.Kids) _ _) _=_;rw [Su hS.ex hE1 _ K a ts' (by omega) h4 r hr];exact Q0 r
end
abbrev RP:=Ad
abbrev rst (l ts:List Tk) (b:Bool):RP:=⟨l,pos l ts,b⟩
def RefR {α:Type} (l:List Tk) (o:Option (α×RP)):Except (List Tk) (α×List Tk)→Prop
 | .ok (a,ts)=>o=some (a,rst l ts false)
 | .error ts=>∃ a,o=some (a,rst l ts true)
def N4 {α:Type} (l:List Tk) (p:List Tk→Rs α) (q:RP→Option (α×RP)):Prop:=∀ ts,Sx l ts→∀ r,p ts=some r→RefR l (q (rst l ts false)) r
def M7 {α:Type} (l:List Tk) (q:RP→Option (α×RP)):Prop:=∀ ts,Sx l ts→∃ a,q (rst l ts true)=some (a,rst l ts true)
section
variable {K:Nat} {l:List Tk}
end
section
variable {K:Nat} {l:List Tk}
end
section
variable {K:Nat} {l:List Tk}
end
def sq {α β:Type} (p:List Tk→Rs α) (f:α→List Tk→Rs β) (ts:List Tk):Rs β:=bnd (p ts) f
def al {α:Type} (s:Ge) (p q:List Tk→Rs α) (ts:List Tk):Rs α:=if isS s ts=true then p ts.tail else q ts
def fl {α:Type} (ts:List Tk):Rs α:=some (.error ts)
section
variable (E:SP)
end
def litN (ts:List Tk):Rs Nd:=match Qn ts with
 | some (a,r)=>pok a r
 | none=>fl ts
def Td:List Tk→Rs Nd:=al [45] (sq (Jx 3) fun t=>pok (nd 14 [⟨4,[],t.Int,[],[]⟩])) litN
section
variable (bl:List Tk→Rs Nd)
def hdK (k:Int):List Tk→Bool
 | []=>false
 | t :: _=>decide (t.Kind=k)
end
section
variable {α β:Type}
end
section
variable {E:SP} (hE:K3 E)
include hE
end
section
variable {bl:List Tk→Rs Nd} (h:Snd 1 bl)
include h
end
section
variable {E:SP} (hE:K3 E) {n:Nat} (tE:Tot n E.ex)
include hE tE
end
section
variable {bl:List Tk→Rs Nd} (h:Snd 1 bl) {n:Nat} (ht:Tot n bl)
include h ht
end
end Go.Proofs.YtdgejpgbppfhmaaGreatDoor
