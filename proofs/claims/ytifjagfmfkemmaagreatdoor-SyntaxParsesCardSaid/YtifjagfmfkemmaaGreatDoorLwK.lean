import Derived.Test.YtifjagfmfkemmaaGreatDoorLwJ
set_option linter.unusedVariables false
set_option linter.unusedSimpArgs false
set_option maxHeartbeats 4000000
namespace Go.Proofs.YtifjagfmfkemmaaGreatDoor
open Eng Go
def Tot {α:Type} (n:Nat) (p:List Tk→Rs α):Prop:=∀ ts,Hj ts→ts.length≤n→∃ r,p ts=some r
theorem Tot.le {α:Type} {n m:Nat} {p:List Tk→Rs α} (h:Tot n p) (hm:m≤n):Tot m p:=fun ts hg hl=>h ts hg (by omega)
theorem Fe {α β:Type} {x:Rs α} {f:α→List Tk→Rs β} (hx:∃ r,x=some r) (hf:∀ a ts,x=some (.ok (a,ts))→∃ r,f a ts=some r):∃ r,bnd x f=some r:=by
 obtain ⟨r,e⟩:=hx
 match r,e with
 | .error t,e=>exact ⟨_,by rw [e]; rfl⟩
 | .ok (a,t),e=>obtain ⟨r,h⟩:=hf a t e; exact ⟨r,by rw [e]; exact h⟩
theorem H6 (s:List UInt8) (ts:List Tk):∃ r,Ee s ts=some r:=by unfold Ee; split <;> exact ⟨_,rfl⟩
theorem Kf (k:Int) {ts:List Tk} (hg:Hj ts):∃ r,Gm k ts=some r:=by
 obtain ⟨t,u,rfl⟩:=hg.head;simp only [Gm]; split <;> exact ⟨_,rfl⟩
theorem Ld {ts:List Tk} (hg:Hj ts):∃ r,Gg ts=some r:=Fe (Kf 1 hg) fun a ts _=>⟨_,rfl⟩
theorem L0 {sub:List Tk→Rs Nd} {ops:Ops} {n:Nat} (hs:Snd 1 sub) (ht:Tot n sub):∀ (k:Nat) (a:Nd) (ts:List Tk),Hj ts→ts.length≤n→ts.length < k→∃ r,Hl sub ops k a ts=some r
 | 0,a,ts,hg,hn,hk=>by omega
 | k+1,a,ts,hg,hn,hk=>by
  unfold Hl;split
  ·exact ⟨_,rfl⟩
  ·rename_i op ho;obtain ⟨s,hs'⟩:=F0 ho;have h1:=Eat.isS hg hs';have h2:=h1.2.1;refine Fe (ht _ h1.2.2 (by omega)) fun b ts' e=>?_
   have h3:Eat 1 _ ts':=hs _ h1.2.2 _ e
   have:=h3.2.1
   exact L0 hs ht k _ _ h3.2.2 (by omega) (by omega)
theorem Jh {sub:List Tk→Rs Nd} {ops:Ops} {n:Nat} (hs:Snd 1 sub) (ht:Tot n sub):Tot n (Jr sub ops):=fun ts hg hn =>
 Fe (ht ts hg hn) fun a ts' e=>by
  have h:Eat 1 _ ts':=hs _ hg _ e
  have:=h.2.1
  exact L0 hs ht _ _ _ h.2.2 (by omega) (by omega)
theorem Mg {e:List UInt8} {elem:List Tk→Rs Nd} {n:Nat} (hs:Snd 1 elem) (ht:Tot n elem):∀ (k:Nat) (acc:List Nd) (ts:List Tk),Hj ts→ts.length≤n→ts.length < k→∃ r,Gz e elem k acc ts=some r
 | 0,acc,ts,hg,hn,hk=>by omega
 | k+1,acc,ts,hg,hn,hk=>by
  unfold Gz;refine Fe (ht ts hg hn) fun a ts' he=>?_
  have h1:Eat 1 _ ts':=hs _ hg _ he
  have:=h1.2.1
  split
  ·exact ⟨_,rfl⟩
  ·refine Fe (H6 _ _) fun _ ts'' he=>?_
   have h2:Eat 1 _ ts'':=Ef _ _ h1.2.2 _ he
   have:=h2.2.1
   exact Mg hs ht k _ _ h2.2.2 (by omega) (by omega)
theorem Jm {e:List UInt8} {elem:List Tk→Rs Nd} {n:Nat} (hs:Snd 1 elem) (ht:Tot n elem):Tot n (Gl e elem):=fun ts hg hn=>by
 unfold Gl;split
 ·exact ⟨_,rfl⟩
 ·exact Mg hs ht _ _ _ hg hn (by omega)
theorem Kp {ex:List Tk→Rs Nd} {n:Nat} (hs:Snd 1 ex) (ht:Tot (n - 1) ex):∀ (k:Nat) (a:Nd) (ts:List Tk),Hj ts→ts.length≤n→ts.length < k→∃ r,Hu ex k a ts=some r
 | 0,a,ts,hg,hn,hk=>by omega
 | k+1,a,ts,hg,hn,hk=>by
  unfold Hu;split
  ·have h1:=Eat.isS hg (by assumption);have h2:=h1.2.1;refine Fe (Ld h1.2.2) fun s ts' e=>?_
   have h3:Eat 1 _ ts':=D0 _ h1.2.2 _ e
   have:=h3.2.1
   exact Kp hs ht k _ _ h3.2.2 (by omega) (by omega)
  ·split
   ·have h1:=Eat.isS hg (by assumption);have h2:=h1.2.1;refine Fe (ht _ h1.2.2 (by omega)) fun b ts' e=>?_
    have h3:Eat 1 _ ts':=hs _ h1.2.2 _ e
    have:=h3.2.1
    refine Fe (H6 _ _) fun _ ts'' he=>?_
    have h4:Eat 1 _ ts'':=Ef _ _ h3.2.2 _ he
    have:=h4.2.1
    exact Kp hs ht k _ _ h4.2.2 (by omega) (by omega)
   ·exact ⟨_,rfl⟩
theorem Li {R:SP} (hR:Hm R) {n:Nat} (ht:Tot (n - 1) R.ex) (op:Int) (s:List UInt8) {ts:List Tk} (hg:Hj ts) (hn:ts.length≤n):∃ r,Hq R op s ts=some r:=by
 refine Fe (H6 _ _) fun _ ts' e=>?_
 have h:Eat 1 _ ts':=Ef _ _ hg _ e
 have:=h.2.1
 exact Fe (Jm hR.ex ht _ h.2.2 (by omega)) fun _ _ _=>⟨_,rfl⟩
theorem V9:∀ (f n:Nat),(10 * n+9≤f→Tot n (SPu f).ex)∧(10 * n+8≤f→Tot n (SPu f).cj)∧(10 * n+7≤f→Tot n (SPu f).nt)∧(10 * n+6≤f→Tot n (SPu f).sm)∧(10 * n+5≤f→Tot n (SPu f).pd)∧(10 * n+4≤f→Tot n (SPu f).un)∧(10 * n+3≤f→Tot n (SPu f).pm)∧(10 * n+3≤f→Tot n (SPu f).pr)
 | 0,n=>by refine ⟨?_,?_,?_,?_,?_,?_,?_,?_⟩ <;> intro h <;> omega
 | f+1,n=>by
  obtain ⟨i1,i2,i3,i4,i5,i6,i7,i8⟩:=V9 f n;obtain ⟨j1,j2,j3,j4,j5,j6,j7,j8⟩:=V9 f (n - 1);have hR:=So f;refine ⟨fun h=>Jh hR.cj (i2 (by omega)),fun h=>Jh hR.nt (i3 (by omega)),fun h ts hg hn=>?_,fun h=>Jh hR.pd (i5 (by omega)),fun h=>Jh hR.un (i6 (by omega)),fun h ts hg hn=>?_,fun h ts hg hn=>?_,fun h ts hg hn=>?_⟩
  all_goals have hpos:1≤ts.length:=by obtain ⟨t,u,rfl⟩:=hg.head; simp
  ·show ∃ r,ntF _ ts=some r;unfold ntF;split
   ·have h1:=Eat.isS hg (by assumption);have h2:=h1.2.1;exact Fe (j3 (by omega) _ h1.2.2 (by omega)) fun _ _ _=>⟨_,rfl⟩
   ·refine Fe (i4 (by omega) ts hg hn) fun a ts' e=>?_
    have h3:Eat 1 _ ts':=hR.sm _ hg _ e
    have:=h3.2.1
    split
    ·exact ⟨_,rfl⟩
    ·rename_i ho;obtain ⟨s,hs⟩:=F0 ho;have h1:=Eat.isS h3.2.2 hs
     have:=h1.2.1
     exact Fe (i4 (by omega) _ h1.2.2 (by omega)) fun _ _ _=>⟨_,rfl⟩
  ·show ∃ r,unF _ ts=some r;unfold unF;split
   ·have h1:=Eat.isS hg (by assumption);have h2:=h1.2.1;exact Fe (j6 (by omega) _ h1.2.2 (by omega)) fun _ _ _=>⟨_,rfl⟩
   ·split
    ·have h1:=Eat.isS hg (by assumption);have h2:=h1.2.1;exact Fe (j6 (by omega) _ h1.2.2 (by omega)) fun _ _ _=>⟨_,rfl⟩
    ·split
     ·have h1:=Eat.isS hg (by assumption);have h2:=h1.2.1;refine Fe (Ld h1.2.2) fun s ts' e=>?_
      have h3:Eat 1 _ ts':=D0 _ h1.2.2 _ e
      have:=h3.2.1
      exact Li (n:=n) hR (j1 (by omega)) _ _ h3.2.2 (by omega)
     ·refine Fe (i7 (by omega) ts hg hn) fun a ts' e=>?_
      have h3:Eat 1 _ ts':=hR.pm _ hg _ e
      have:=h3.2.1
      exact Kp (n:=n) hR.ex (j1 (by omega)) _ _ _ h3.2.2 (by omega) (by omega)
  ·show ∃ r,pmF _ ts=some r;unfold pmF;split
   ·exact ⟨_,rfl⟩
   ·obtain ⟨r,hk⟩:=Kf 1 hg;rw [hk]
    match r,hk with
    | .ok (t,u),hk =>
     have h1:Eat 1 ts u:=Ic (by decide) ts hg _ hk
     have:=h1.2.1
     dsimp only;split
     ·exact Li (n:=n) hR (j1 (by omega)) _ _ h1.2.2 (by omega)
     ·exact ⟨_,rfl⟩
    | .error u,hk =>
     have e:u=ts:=by
      obtain ⟨t,v,rfl⟩:=hg.head;simp only [Gm] at hk;by_cases e:t.Kind=1
      ·rw [if_pos e] at hk; cases hk
      ·rw [if_neg e] at hk; cases hk; rfl
     subst e;dsimp only;split
     ·have h1:=Eat.isS hg (by assumption);have h2:=h1.2.1;exact Fe (Jm hR.ex (j1 (by omega)) _ h1.2.2 (by omega)) fun _ _ _=>⟨_,rfl⟩
     ·split
      ·have h1:=Eat.isS hg (by assumption);have h2:=h1.2.1;exact Fe (Jm hR.pr (j8 (by omega)) _ h1.2.2 (by omega)) fun _ _ _=>⟨_,rfl⟩
      ·refine Fe (H6 _ _) fun _ ts' e=>?_
       have h:Eat 1 _ ts':=Ef _ _ hg _ e
       have:=h.2.1
       refine Fe (j1 (by omega) _ h.2.2 (by omega)) fun a ts'' e=>?_
       exact Fe (H6 _ _) fun _ _ _=>⟨_,rfl⟩
  ·refine Fe (Kf 4 hg) fun t ts' e=>?_
   have h:Eat 1 _ ts':=Ic (by decide) ts hg _ e
   have:=h.2.1
   refine Fe (H6 _ _) fun _ ts'' e=>?_
   have h:Eat 1 _ ts'':=Ef _ _ h.2.2 _ e
   have:=h.2.1
   exact Fe (j1 (by omega) _ h.2.2 (by omega)) fun _ _ _=>⟨_,rfl⟩
end Go.Proofs.YtifjagfmfkemmaaGreatDoor
