import Derived.Test.YtifjagfmfkemmaaGreatDoorLwJ
set_option linter.unusedVariables false
set_option linter.unusedSimpArgs false
set_option maxHeartbeats 4000000
namespace Go.Proofs.YtifjagfmfkemmaaGreatDoor
open Eng Go
def Tot {α:Type} (n:Nat) (p:List Tk→Rs α):Prop:=∀ ts,Fh ts→ts.length≤n→∃ r,p ts=some r
theorem Tot.le {α:Type} {n m:Nat} {p:List Tk→Rs α} (h:Tot n p) (hm:m≤n):Tot m p:=fun ts hg hl=>h ts hg (by omega)
theorem Et {α β:Type} {x:Rs α} {f:α→List Tk→Rs β} (hx:∃ r,x=some r) (hf:∀ a ts,x=some (.ok (a,ts))→∃ r,f a ts=some r):∃ r,bnd x f=some r:=by
 obtain ⟨r,e⟩:=hx
 match r,e with
 | .error t,e=>exact ⟨_,by rw [e]; rfl⟩
 | .ok (a,t),e=>obtain ⟨r,h⟩:=hf a t e; exact ⟨r,by rw [e]; exact h⟩
theorem Gu (s:List UInt8) (ts:List Tk):∃ r,D5 s ts=some r:=by unfold D5; split <;> exact ⟨_,rfl⟩
theorem Ij (k:Int) {ts:List Tk} (hg:Fh ts):∃ r,Fo k ts=some r:=by
 obtain ⟨t,u,rfl⟩:=hg.head;simp only [Fo]; split <;> exact ⟨_,rfl⟩
theorem J6 {ts:List Tk} (hg:Fh ts):∃ r,Fi ts=some r:=Et (Ij 1 hg) fun a ts _=>⟨_,rfl⟩
theorem J2 {sub:List Tk→Rs Nd} {ops:Ops} {n:Nat} (hs:Snd 1 sub) (ht:Tot n sub):∀ (k:Nat) (a:Nd) (ts:List Tk),Fh ts→ts.length≤n→ts.length < k→∃ r,Fx sub ops k a ts=some r
 | 0,a,ts,hg,hn,hk=>by omega
 | k+1,a,ts,hg,hn,hk=>by
  unfold Fx;split
  ·exact ⟨_,rfl⟩
  ·rename_i op ho;obtain ⟨s,hs'⟩:=E4 ho;have h1:=Eat.isS hg hs';have h2:=h1.2.1;refine Et (ht _ h1.2.2 (by omega)) fun b ts' e=>?_
   have h3:Eat 1 _ ts':=hs _ h1.2.2 _ e
   have:=h3.2.1
   exact J2 hs ht k _ _ h3.2.2 (by omega) (by omega)
theorem Hy {sub:List Tk→Rs Nd} {ops:Ops} {n:Nat} (hs:Snd 1 sub) (ht:Tot n sub):Tot n (H3 sub ops):=fun ts hg hn =>
 Et (ht ts hg hn) fun a ts' e=>by
  have h:Eat 1 _ ts':=hs _ hg _ e
  have:=h.2.1
  exact J2 hs ht _ _ _ h.2.2 (by omega) (by omega)
theorem Kr {e:List UInt8} {elem:List Tk→Rs Nd} {n:Nat} (hs:Snd 1 elem) (ht:Tot n elem):∀ (k:Nat) (acc:List Nd) (ts:List Tk),Fh ts→ts.length≤n→ts.length < k→∃ r,F9 e elem k acc ts=some r
 | 0,acc,ts,hg,hn,hk=>by omega
 | k+1,acc,ts,hg,hn,hk=>by
  unfold F9;refine Et (ht ts hg hn) fun a ts' he=>?_
  have h1:Eat 1 _ ts':=hs _ hg _ he
  have:=h1.2.1
  split
  ·exact ⟨_,rfl⟩
  ·refine Et (Gu _ _) fun _ ts'' he=>?_
   have h2:Eat 1 _ ts'':=Cf _ _ h1.2.2 _ he
   have:=h2.2.1
   exact Kr hs ht k _ _ h2.2.2 (by omega) (by omega)
theorem Hx {e:List UInt8} {elem:List Tk→Rs Nd} {n:Nat} (hs:Snd 1 elem) (ht:Tot n elem):Tot n (Fv e elem):=fun ts hg hn=>by
 unfold Fv;split
 ·exact ⟨_,rfl⟩
 ·exact Kr hs ht _ _ _ hg hn (by omega)
theorem I0 {ex:List Tk→Rs Nd} {n:Nat} (hs:Snd 1 ex) (ht:Tot (n - 1) ex):∀ (k:Nat) (a:Nd) (ts:List Tk),Fh ts→ts.length≤n→ts.length < k→∃ r,Fw ex k a ts=some r
 | 0,a,ts,hg,hn,hk=>by omega
 | k+1,a,ts,hg,hn,hk=>by
  unfold Fw;split
  ·have h1:=Eat.isS hg (by assumption);have h2:=h1.2.1;refine Et (J6 h1.2.2) fun s ts' e=>?_
   have h3:Eat 1 _ ts':=C6 _ h1.2.2 _ e
   have:=h3.2.1
   exact I0 hs ht k _ _ h3.2.2 (by omega) (by omega)
  ·split
   ·have h1:=Eat.isS hg (by assumption);have h2:=h1.2.1;refine Et (ht _ h1.2.2 (by omega)) fun b ts' e=>?_
    have h3:Eat 1 _ ts':=hs _ h1.2.2 _ e
    have:=h3.2.1
    refine Et (Gu _ _) fun _ ts'' he=>?_
    have h4:Eat 1 _ ts'':=Cf _ _ h3.2.2 _ he
    have:=h4.2.1
    exact I0 hs ht k _ _ h4.2.2 (by omega) (by omega)
   ·exact ⟨_,rfl⟩
theorem Jx {R:SP} (hR:Gp R) {n:Nat} (ht:Tot (n - 1) R.ex) (op:Int) (s:List UInt8) {ts:List Tk} (hg:Fh ts) (hn:ts.length≤n):∃ r,Ga R op s ts=some r:=by
 refine Et (Gu _ _) fun _ ts' e=>?_
 have h:Eat 1 _ ts':=Cf _ _ hg _ e
 have:=h.2.1
 exact Et (Hx hR.ex ht _ h.2.2 (by omega)) fun _ _ _=>⟨_,rfl⟩
theorem Ti:∀ (f n:Nat),(10 * n+9≤f→Tot n (SPu f).ex)∧(10 * n+8≤f→Tot n (SPu f).cj)∧(10 * n+7≤f→Tot n (SPu f).nt)∧(10 * n+6≤f→Tot n (SPu f).sm)∧(10 * n+5≤f→Tot n (SPu f).pd)∧(10 * n+4≤f→Tot n (SPu f).un)∧(10 * n+3≤f→Tot n (SPu f).pm)∧(10 * n+3≤f→Tot n (SPu f).pr)
 | 0,n=>by refine ⟨?_,?_,?_,?_,?_,?_,?_,?_⟩ <;> intro h <;> omega
 | f+1,n=>by
  obtain ⟨i1,i2,i3,i4,i5,i6,i7,i8⟩:=Ti f n;obtain ⟨j1,j2,j3,j4,j5,j6,j7,j8⟩:=Ti f (n - 1);have hR:=P0 f;refine ⟨fun h=>Hy hR.cj (i2 (by omega)),fun h=>Hy hR.nt (i3 (by omega)),fun h ts hg hn=>?_,fun h=>Hy hR.pd (i5 (by omega)),fun h=>Hy hR.un (i6 (by omega)),fun h ts hg hn=>?_,fun h ts hg hn=>?_,fun h ts hg hn=>?_⟩
  all_goals have hpos:1≤ts.length:=by obtain ⟨t,u,rfl⟩:=hg.head; simp
  ·show ∃ r,ntF _ ts=some r;unfold ntF;split
   ·have h1:=Eat.isS hg (by assumption);have h2:=h1.2.1;exact Et (j3 (by omega) _ h1.2.2 (by omega)) fun _ _ _=>⟨_,rfl⟩
   ·refine Et (i4 (by omega) ts hg hn) fun a ts' e=>?_
    have h3:Eat 1 _ ts':=hR.sm _ hg _ e
    have:=h3.2.1
    split
    ·exact ⟨_,rfl⟩
    ·rename_i ho;obtain ⟨s,hs⟩:=E4 ho;have h1:=Eat.isS h3.2.2 hs
     have:=h1.2.1
     exact Et (i4 (by omega) _ h1.2.2 (by omega)) fun _ _ _=>⟨_,rfl⟩
  ·show ∃ r,unF _ ts=some r;unfold unF;split
   ·have h1:=Eat.isS hg (by assumption);have h2:=h1.2.1;exact Et (j6 (by omega) _ h1.2.2 (by omega)) fun _ _ _=>⟨_,rfl⟩
   ·split
    ·have h1:=Eat.isS hg (by assumption);have h2:=h1.2.1;exact Et (j6 (by omega) _ h1.2.2 (by omega)) fun _ _ _=>⟨_,rfl⟩
    ·split
     ·have h1:=Eat.isS hg (by assumption);have h2:=h1.2.1;refine Et (J6 h1.2.2) fun s ts' e=>?_
      have h3:Eat 1 _ ts':=C6 _ h1.2.2 _ e
      have:=h3.2.1
      exact Jx (n:=n) hR (j1 (by omega)) _ _ h3.2.2 (by omega)
     ·refine Et (i7 (by omega) ts hg hn) fun a ts' e=>?_
      have h3:Eat 1 _ ts':=hR.pm _ hg _ e
      have:=h3.2.1
      exact I0 (n:=n) hR.ex (j1 (by omega)) _ _ _ h3.2.2 (by omega) (by omega)
  ·show ∃ r,pmF _ ts=some r;unfold pmF;split
   ·exact ⟨_,rfl⟩
   ·obtain ⟨r,hk⟩:=Ij 1 hg;rw [hk]
    match r,hk with
    | .ok (t,u),hk =>
     have h1:Eat 1 ts u:=Gi (by decide) ts hg _ hk
     have:=h1.2.1
     dsimp only;split
     ·exact Jx (n:=n) hR (j1 (by omega)) _ _ h1.2.2 (by omega)
     ·exact ⟨_,rfl⟩
    | .error u,hk =>
     have e:u=ts:=by
      obtain ⟨t,v,rfl⟩:=hg.head;simp only [Fo] at hk;by_cases e:t.Kind=1
      ·rw [if_pos e] at hk; cases hk
      ·rw [if_neg e] at hk; cases hk; rfl
     subst e;dsimp only;split
     ·have h1:=Eat.isS hg (by assumption);have h2:=h1.2.1;exact Et (Hx hR.ex (j1 (by omega)) _ h1.2.2 (by omega)) fun _ _ _=>⟨_,rfl⟩
     ·split
      ·have h1:=Eat.isS hg (by assumption);have h2:=h1.2.1;exact Et (Hx hR.pr (j8 (by omega)) _ h1.2.2 (by omega)) fun _ _ _=>⟨_,rfl⟩
      ·refine Et (Gu _ _) fun _ ts' e=>?_
       have h:Eat 1 _ ts':=Cf _ _ hg _ e
       have:=h.2.1
       refine Et (j1 (by omega) _ h.2.2 (by omega)) fun a ts'' e=>?_
       exact Et (Gu _ _) fun _ _ _=>⟨_,rfl⟩
  ·refine Et (Ij 4 hg) fun t ts' e=>?_
   have h:Eat 1 _ ts':=Gi (by decide) ts hg _ e
   have:=h.2.1
   refine Et (Gu _ _) fun _ ts'' e=>?_
   have h:Eat 1 _ ts'':=Cf _ _ h.2.2 _ e
   have:=h.2.1
   exact Et (j1 (by omega) _ h.2.2 (by omega)) fun _ _ _=>⟨_,rfl⟩
end Go.Proofs.YtifjagfmfkemmaaGreatDoor
