import Derived.Test.YtifjagfmfkemmaaGreatDoorLwJ
set_option linter.unusedVariables false
set_option linter.unusedSimpArgs false
set_option maxHeartbeats 4000000
namespace Go.Proofs.YtifjagfmfkemmaaGreatDoor
open Eng Go
def Tot {α:Type} (n:Nat) (p:List Tk→Rs α):Prop:=∀ ts,Fu ts→ts.length≤n→∃ r,p ts=some r
theorem Tot.le {α:Type} {n m:Nat} {p:List Tk→Rs α} (h:Tot n p) (hm:m≤n):Tot m p:=fun ts hg hl=>h ts hg (by omega)
theorem E2 {α β:Type} {x:Rs α} {f:α→List Tk→Rs β} (hx:∃ r,x=some r) (hf:∀ a ts,x=some (.ok (a,ts))→∃ r,f a ts=some r):∃ r,bnd x f=some r:=by
 obtain ⟨r,e⟩:=hx
 match r,e with
 | .error t,e=>exact ⟨_,by rw [e]; rfl⟩
 | .ok (a,t),e=>obtain ⟨r,h⟩:=hf a t e; exact ⟨r,by rw [e]; exact h⟩
theorem Gq (s:List UInt8) (ts:List Tk):∃ r,Ex s ts=some r:=by unfold Ex; split <;> exact ⟨_,rfl⟩
theorem Iq (k:Int) {ts:List Tk} (hg:Fu ts):∃ r,Fr k ts=some r:=by
 obtain ⟨t,u,rfl⟩:=hg.head;simp only [Fr]; split <;> exact ⟨_,rfl⟩
theorem Kj {ts:List Tk} (hg:Fu ts):∃ r,F5 ts=some r:=E2 (Iq 1 hg) fun a ts _=>⟨_,rfl⟩
theorem Iu {sub:List Tk→Rs Nd} {ops:Ops} {n:Nat} (hs:Snd 1 sub) (ht:Tot n sub):∀ (k:Nat) (a:Nd) (ts:List Tk),Fu ts→ts.length≤n→ts.length < k→∃ r,Fj sub ops k a ts=some r
 | 0,a,ts,hg,hn,hk=>by omega
 | k+1,a,ts,hg,hn,hk=>by
  unfold Fj;split
  ·exact ⟨_,rfl⟩
  ·rename_i op ho;obtain ⟨s,hs'⟩:=Fi ho;have h1:=Eat.isS hg hs';have h2:=h1.2.1;refine E2 (ht _ h1.2.2 (by omega)) fun b ts' e=>?_
   have h3:Eat 1 _ ts':=hs _ h1.2.2 _ e
   have:=h3.2.1
   exact Iu hs ht k _ _ h3.2.2 (by omega) (by omega)
theorem Hc {sub:List Tk→Rs Nd} {ops:Ops} {n:Nat} (hs:Snd 1 sub) (ht:Tot n sub):Tot n (Gz sub ops):=fun ts hg hn =>
 E2 (ht ts hg hn) fun a ts' e=>by
  have h:Eat 1 _ ts':=hs _ hg _ e
  have:=h.2.1
  exact Iu hs ht _ _ _ h.2.2 (by omega) (by omega)
theorem Jh {e:List UInt8} {elem:List Tk→Rs Nd} {n:Nat} (hs:Snd 1 elem) (ht:Tot n elem):∀ (k:Nat) (acc:List Nd) (ts:List Tk),Fu ts→ts.length≤n→ts.length < k→∃ r,F2 e elem k acc ts=some r
 | 0,acc,ts,hg,hn,hk=>by omega
 | k+1,acc,ts,hg,hn,hk=>by
  unfold F2;refine E2 (ht ts hg hn) fun a ts' he=>?_
  have h1:Eat 1 _ ts':=hs _ hg _ he
  have:=h1.2.1
  split
  ·exact ⟨_,rfl⟩
  ·refine E2 (Gq _ _) fun _ ts'' he=>?_
   have h2:Eat 1 _ ts'':=Et _ _ h1.2.2 _ he
   have:=h2.2.1
   exact Jh hs ht k _ _ h2.2.2 (by omega) (by omega)
theorem H1 {e:List UInt8} {elem:List Tk→Rs Nd} {n:Nat} (hs:Snd 1 elem) (ht:Tot n elem):Tot n (Fx e elem):=fun ts hg hn=>by
 unfold Fx;split
 ·exact ⟨_,rfl⟩
 ·exact Jh hs ht _ _ _ hg hn (by omega)
theorem H2 {ex:List Tk→Rs Nd} {n:Nat} (hs:Snd 1 ex) (ht:Tot (n - 1) ex):∀ (k:Nat) (a:Nd) (ts:List Tk),Fu ts→ts.length≤n→ts.length < k→∃ r,Fl ex k a ts=some r
 | 0,a,ts,hg,hn,hk=>by omega
 | k+1,a,ts,hg,hn,hk=>by
  unfold Fl;split
  ·have h1:=Eat.isS hg (by assumption);have h2:=h1.2.1;refine E2 (Kj h1.2.2) fun s ts' e=>?_
   have h3:Eat 1 _ ts':=Fy _ h1.2.2 _ e
   have:=h3.2.1
   exact H2 hs ht k _ _ h3.2.2 (by omega) (by omega)
  ·split
   ·have h1:=Eat.isS hg (by assumption);have h2:=h1.2.1;refine E2 (ht _ h1.2.2 (by omega)) fun b ts' e=>?_
    have h3:Eat 1 _ ts':=hs _ h1.2.2 _ e
    have:=h3.2.1
    refine E2 (Gq _ _) fun _ ts'' he=>?_
    have h4:Eat 1 _ ts'':=Et _ _ h3.2.2 _ he
    have:=h4.2.1
    exact H2 hs ht k _ _ h4.2.2 (by omega) (by omega)
   ·exact ⟨_,rfl⟩
theorem Ko {R:SP} (hR:Gk R) {n:Nat} (ht:Tot (n - 1) R.ex) (op:Int) (s:List UInt8) {ts:List Tk} (hg:Fu ts) (hn:ts.length≤n):∃ r,F4 R op s ts=some r:=by
 refine E2 (Gq _ _) fun _ ts' e=>?_
 have h:Eat 1 _ ts':=Et _ _ hg _ e
 have:=h.2.1
 exact E2 (H1 hR.ex ht _ h.2.2 (by omega)) fun _ _ _=>⟨_,rfl⟩
theorem N5:∀ (f n:Nat),(10 * n+9≤f→Tot n (SPu f).ex)∧(10 * n+8≤f→Tot n (SPu f).cj)∧(10 * n+7≤f→Tot n (SPu f).nt)∧(10 * n+6≤f→Tot n (SPu f).sm)∧(10 * n+5≤f→Tot n (SPu f).pd)∧(10 * n+4≤f→Tot n (SPu f).un)∧(10 * n+3≤f→Tot n (SPu f).pm)∧(10 * n+3≤f→Tot n (SPu f).pr)
 | 0,n=>by refine ⟨?_,?_,?_,?_,?_,?_,?_,?_⟩ <;> intro h <;> omega
 | f+1,n=>by
  obtain ⟨i1,i2,i3,i4,i5,i6,i7,i8⟩:=N5 f n;obtain ⟨j1,j2,j3,j4,j5,j6,j7,j8⟩:=N5 f (n - 1);have hR:=Ly f;refine ⟨fun h=>Hc hR.cj (i2 (by omega)),fun h=>Hc hR.nt (i3 (by omega)),fun h ts hg hn=>?_,fun h=>Hc hR.pd (i5 (by omega)),fun h=>Hc hR.un (i6 (by omega)),fun h ts hg hn=>?_,fun h ts hg hn=>?_,fun h ts hg hn=>?_⟩
  all_goals have hpos:1≤ts.length:=by obtain ⟨t,u,rfl⟩:=hg.head; simp
  ·show ∃ r,ntF _ ts=some r;unfold ntF;split
   ·have h1:=Eat.isS hg (by assumption);have h2:=h1.2.1;exact E2 (j3 (by omega) _ h1.2.2 (by omega)) fun _ _ _=>⟨_,rfl⟩
   ·refine E2 (i4 (by omega) ts hg hn) fun a ts' e=>?_
    have h3:Eat 1 _ ts':=hR.sm _ hg _ e
    have:=h3.2.1
    split
    ·exact ⟨_,rfl⟩
    ·rename_i ho;obtain ⟨s,hs⟩:=Fi ho;have h1:=Eat.isS h3.2.2 hs
     have:=h1.2.1
     exact E2 (i4 (by omega) _ h1.2.2 (by omega)) fun _ _ _=>⟨_,rfl⟩
  ·show ∃ r,unF _ ts=some r;unfold unF;split
   ·have h1:=Eat.isS hg (by assumption);have h2:=h1.2.1;exact E2 (j6 (by omega) _ h1.2.2 (by omega)) fun _ _ _=>⟨_,rfl⟩
   ·split
    ·have h1:=Eat.isS hg (by assumption);have h2:=h1.2.1;exact E2 (j6 (by omega) _ h1.2.2 (by omega)) fun _ _ _=>⟨_,rfl⟩
    ·split
     ·have h1:=Eat.isS hg (by assumption);have h2:=h1.2.1;refine E2 (Kj h1.2.2) fun s ts' e=>?_
      have h3:Eat 1 _ ts':=Fy _ h1.2.2 _ e
      have:=h3.2.1
      exact Ko (n:=n) hR (j1 (by omega)) _ _ h3.2.2 (by omega)
     ·refine E2 (i7 (by omega) ts hg hn) fun a ts' e=>?_
      have h3:Eat 1 _ ts':=hR.pm _ hg _ e
      have:=h3.2.1
      exact H2 (n:=n) hR.ex (j1 (by omega)) _ _ _ h3.2.2 (by omega) (by omega)
  ·show ∃ r,pmF _ ts=some r;unfold pmF;split
   ·exact ⟨_,rfl⟩
   ·obtain ⟨r,hk⟩:=Iq 1 hg;rw [hk]
    match r,hk with
    | .ok (t,u),hk =>
     have h1:Eat 1 ts u:=Gp (by decide) ts hg _ hk
     have:=h1.2.1
     dsimp only;split
     ·exact Ko (n:=n) hR (j1 (by omega)) _ _ h1.2.2 (by omega)
     ·exact ⟨_,rfl⟩
    | .error u,hk =>
     have e:u=ts:=by
      obtain ⟨t,v,rfl⟩:=hg.head;simp only [Fr] at hk;by_cases e:t.Kind=1
      ·rw [if_pos e] at hk; cases hk
      ·rw [if_neg e] at hk; cases hk; rfl
     subst e;dsimp only;split
     ·have h1:=Eat.isS hg (by assumption);have h2:=h1.2.1;exact E2 (H1 hR.ex (j1 (by omega)) _ h1.2.2 (by omega)) fun _ _ _=>⟨_,rfl⟩
     ·split
      ·have h1:=Eat.isS hg (by assumption);have h2:=h1.2.1;exact E2 (H1 hR.pr (j8 (by omega)) _ h1.2.2 (by omega)) fun _ _ _=>⟨_,rfl⟩
      ·refine E2 (Gq _ _) fun _ ts' e=>?_
       have h:Eat 1 _ ts':=Et _ _ hg _ e
       have:=h.2.1
       refine E2 (j1 (by omega) _ h.2.2 (by omega)) fun a ts'' e=>?_
       exact E2 (Gq _ _) fun _ _ _=>⟨_,rfl⟩
  ·refine E2 (Iq 4 hg) fun t ts' e=>?_
   have h:Eat 1 _ ts':=Gp (by decide) ts hg _ e
   have:=h.2.1
   refine E2 (Gq _ _) fun _ ts'' e=>?_
   have h:Eat 1 _ ts'':=Et _ _ h.2.2 _ e
   have:=h.2.1
   exact E2 (j1 (by omega) _ h.2.2 (by omega)) fun _ _ _=>⟨_,rfl⟩
end Go.Proofs.YtifjagfmfkemmaaGreatDoor
