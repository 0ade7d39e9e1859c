import Derived.Test.YtifjagfmfkemmaaGreatDoorLwO
set_option linter.unusedVariables false
set_option linter.unusedSimpArgs false
set_option maxHeartbeats 4000000
namespace Go.Proofs.YtifjagfmfkemmaaGreatDoor
open Eng Go
section
variable {K:Nat} {l:List Tk}
theorem E7 {α β:Type} {ts:List Tk} (h:Sx l ts) {d:Nat} {x:Rs α} {f:α→List Tk→Rs β} {r:Except (List Tk) (β×List Tk)} {o:Option (α×RP)} {g:α×RP→Option (β×RP)}
  (hr:bnd x f=some r) (hx:∀ r,x=some r→Ate d ts r) (hq:∀ r,x=some r→Gs l o r)
  (hok:∀ a ts',Sx l ts'→Eat d ts ts'→f a ts'=some r→Gs l (g (a,rst l ts' false)) r) (hbad:∀ a ts',Sx l ts'→∃ b,g (a,rst l ts' true)=some (b,rst l ts' true)):Gs l (Option.bind o g) r:=by
 rcases Fd (γ:=β) h hx hr with ⟨e,hx',rfl⟩ |⟨a,ts',hx',h3,h4,hr⟩
 ·obtain ⟨a,ha⟩:=hq _ hx';have he:Eat 0 ts e:=hx _ hx';rw [ha];exact hbad a e (h.eat he)
 ·have:=hq _ hx'
  replace this:o=some (a,rst l ts' false):=this;rw [this];exact hok a ts' h3 h4 hr
theorem G0 {β:Type} {ts:List Tk} (h:Sx l ts) {s:List UInt8} {f:Unit→List Tk→Rs β} {r:Except (List Tk) (β×List Tk)} {g:RP→Option (β×RP)}
  (hr:bnd (Ee s ts) f=some r) (hok:isS s ts=true→Sx l ts.tail→f () ts.tail=some r→Gs l (g (rst l ts.tail false)) r) (hbad:∃ b,g (rst l ts true)=some (b,rst l ts true)):Gs l (Option.bind (Aq K s (rst l ts false)) g) r:=by
 unfold Ee at hr;by_cases h1:isS s ts=true
 ·rw [if_pos h1] at hr;rw [H4 h h1];exact hok h1 (h.is h1) hr
 ·rw [if_neg h1] at hr;rw [Iu h h1];cases hr;exact hbad
theorem Fw {β:Type} {ts:List Tk} (h:Sx l ts) {s:List UInt8} {x y:Rs β} {r:Except (List Tk) (β×List Tk)} {g:Bool×RP→Option (β×RP)}
  (hr:(if isS s ts=true then x else y)=some r) (ht:isS s ts=true→Sx l ts.tail→x=some r→Gs l (g (true,rst l ts.tail false)) r) (hf:y=some r→Gs l (g (false,rst l ts false)) r):Gs l (Option.bind (Ag K s (rst l ts false)) g) r:=by
 by_cases h1:isS s ts=true
 ·rw [if_pos h1] at hr;rw [Hk h h1];exact ht h1 (h.is h1) hr
 ·rw [if_neg h1] at hr;rw [He h h1];exact hf hr
theorem Fx {α:Type} {a:α} {ts:List Tk} {r:Except (List Tk) (α×List Tk)} (hr:pok a ts=some r):Gs l (some (a,rst l ts false)) r:=by cases hr; rfl
def I6 {γ:Type} (K:Nat):Ops→RP→(Int→RP→Option γ)→(RP→Option γ)→Option γ
 | [],p,yes,no=>no p
 | o :: l,p,yes,no=>Option.bind (Ag K o.1 p) fun (b,p')=>if b=true then yes o.2 p' else I6 K l p' yes no
theorem Mf {γ:Type} {ts:List Tk} (h:Sx l ts) (yes:Int→RP→Option γ) (no:RP→Option γ):∀ ops:Ops,I6 K ops (rst l ts false) yes no=match Fl ops ts with
  | some op=>yes op (rst l ts.tail false)
  | none=>no (rst l ts false)
 | []=>rfl
 | o :: ops=>by
  unfold I6 Fl;by_cases h1:isS o.1 ts=true
  ·rw [Hk h h1,if_pos h1]; rfl
  ·rw [He h h1,if_neg h1];exact Mf h yes no ops
theorem Lj {γ:Type} {ts:List Tk} (h:Sx l ts) (yes:Int→RP→Option γ) (no:RP→Option γ):∀ ops:Ops,I6 K ops (rst l ts true) yes no=no (rst l ts true)
 | []=>rfl
 | o :: ops=>by
  unfold I6;rw [Gi h];exact Lj h yes no ops
def FinR {γ:Type} (l:List Tk) (fin:Nd→RP→γ) (o:Option γ):Except (List Tk) (Nd×List Tk)→Prop
 | .ok (a,ts)=>o=some (fin a (rst l ts false))
 | .error ts=>∃ a,o=some (fin a (rst l ts true))
theorem Sf {γ:Type} {fin:Nd→RP→γ} {ops:Ops} {sub:List Tk→Rs Nd} {q:RP→Option (Nd×RP)} {L:Nat→List Tk→Int→Bool→Int→List UInt8→Int→List UInt8→List Nd→Option γ}
  (hL:∀ k l i b b0 b1 b2 b3 b4,L (k+1) l i b b0 b1 b2 b3 b4=I6 K ops (⟨l,i,b⟩:RP) (fun op p=>Option.bind (q p) (fun (a,p2)=>Option.bind (A5 K op ⟨b0,b1,b2,b3,b4⟩ a) (fun n=>L k p2.l p2.at_ p2.bad n.Op n.Name n.Int n.Text n.Kids))) (fun p=>some (fin ⟨b0,b1,b2,b3,b4⟩ p)))
  (hs:Snd 1 sub) (hq:Fy l sub q):∀ (k k':Nat) (a:Nd) (ts:List Tk),k < k'→Sx l ts→∀ r,Hl sub ops k a ts=some r→FinR l fin (L k' l (pos l ts) false a.Op a.Name a.Int a.Text a.Kids) r:=by
 intro k
 induction k with
 | zero=>intro k' a ts hk h r hr; cases hr
 | succ k ih =>
  intro k' a ts hk h r hr;obtain ⟨k',rfl⟩:∃ j,k'=j+1:=⟨k' - 1,by omega⟩
  rw [hL];have e:=Mf (K:=K) h (fun op p=>Option.bind (q p) (fun (a',p2)=>Option.bind (A5 K op ⟨a.Op,a.Name,a.Int,a.Text,a.Kids⟩ a') (fun n=>L k' p2.l p2.at_ p2.bad n.Op n.Name n.Int n.Text n.Kids))) (fun p=>some (fin ⟨a.Op,a.Name,a.Int,a.Text,a.Kids⟩ p)) ops;change I6 K ops (⟨l,pos l ts,false⟩:RP) _ _=_ at e;rw [e];unfold Hl at hr;cases hf:Fl ops ts with
  | none=>rw [hf] at hr; cases hr; dsimp only; rw [Ed]; rfl
  | some op =>
   rw [hf] at hr;obtain ⟨s,hs'⟩:=F0 hf;have h1:=h.is hs';dsimp only at hr ⊢;rcases Fd (γ:=Nd) h1 (fun r=>hs _ h1.gd r) hr with ⟨e,hx,rfl⟩ |⟨b,ts',hx,h3,h4,hr⟩
   ·obtain ⟨b,hb⟩:=hq _ h1 _ hx;have he:Eat 0 _ e:=hs _ h1.gd _ hx;have h2:=h1.eat he;rw [hb];simp only [Option.bind_some,Hh];obtain ⟨k',rfl⟩:∃ j,k'=j+1:=⟨k' - 1,by omega⟩
    rw [hL];have e2:=Lj (K:=K) h2 (fun op' p=>Option.bind (q p) (fun (a',p2)=>Option.bind (A5 K op' ⟨(nd op [a,b]).Op,(nd op [a,b]).Name,(nd op [a,b]).Int,(nd op [a,b]).Text,(nd op [a,b]).Kids⟩ a') (fun n=>L k' p2.l p2.at_ p2.bad n.Op n.Name n.Int n.Text n.Kids))) (fun p=>some (fin ⟨(nd op [a,b]).Op,(nd op [a,b]).Name,(nd op [a,b]).Int,(nd op [a,b]).Text,(nd op [a,b]).Kids⟩ p)) ops;refine ⟨nd op [a,b],?_⟩;simp only [Ed] at e2 ⊢;exact e2
   ·have hb:q (rst l ts.tail false)=some (b,rst l ts' false):=hq _ h1 _ hx;rw [hb];simp only [Option.bind_some,Ed,Hh];exact ih k' (nd op [a,b]) ts' (by omega) h3 r hr
theorem Ji (hKl:l.length+20≤K) {γ:Type} {fin:Nd→RP→γ} {T:Option γ→Option (Nd×RP)} (hT:∀ a p,T (some (fin a p))=some (a,p)) {ops:Ops} {sub:List Tk→Rs Nd} {q Q:RP→Option (Nd×RP)} {L:Nat→List Tk→Int→Bool→Int→List UInt8→Int→List UInt8→List Nd→Option γ}
  (hL:∀ k l i b b0 b1 b2 b3 b4,L (k+1) l i b b0 b1 b2 b3 b4=I6 K ops (⟨l,i,b⟩:RP) (fun op p=>Option.bind (q p) (fun (a,p2)=>Option.bind (A5 K op ⟨b0,b1,b2,b3,b4⟩ a) (fun n=>L k p2.l p2.at_ p2.bad n.Op n.Name n.Int n.Text n.Kids))) (fun p=>some (fin ⟨b0,b1,b2,b3,b4⟩ p)))
  (hQ:∀ p,Q p=Option.bind (q p) fun (a,p1)=>T (L K p1.l p1.at_ p1.bad a.Op a.Name a.Int a.Text a.Kids))
  (hs:Snd 1 sub) (hq:Fy l sub q):Fy l (Jr sub ops) Q:=by
 intro ts h r hr;rw [hQ];refine E7 h hr (fun r=>hs _ h.gd r) (fun r hx=>hq _ h _ hx) (fun a ts' h3 h4 hr=>?_) fun a ts' h3=>?_
 ·have:=h3.len
  have:=Sf hL hs hq _ K a ts' (by omega) h3 r hr
  dsimp only
  match r,this with
  | .ok (b,us),this =>
   replace this:L K l (pos l ts') false a.Op a.Name a.Int a.Text a.Kids=_:=this;show T (L K l (pos l ts') false a.Op a.Name a.Int a.Text a.Kids)=_;rw [this,hT]
  | .error us,⟨b,this⟩ =>
   refine ⟨b,?_⟩;show T (L K l (pos l ts') false a.Op a.Name a.Int a.Text a.Kids)=_;rw [this,hT]
 ·obtain ⟨k,rfl⟩:∃ j,K=j+1:=⟨K - 1,by omega⟩
  dsimp only;rw [hL];have e2:=Lj (K:=k+1) h3 (fun op' p=>Option.bind (q p) (fun (a',p2)=>Option.bind (A5 (k+1) op' ⟨a.Op,a.Name,a.Int,a.Text,a.Kids⟩ a') (fun n=>L k p2.l p2.at_ p2.bad n.Op n.Name n.Int n.Text n.Kids))) (fun p=>some (fin ⟨a.Op,a.Name,a.Int,a.Text,a.Kids⟩ p)) ops;refine ⟨a,?_⟩;simp only [Ed] at e2 ⊢;change I6 (k+1) ops (⟨l,pos l ts',true⟩:RP) _ _=_ at e2;rw [e2,hT]
theorem Uy {R:GR} {e:List UInt8} {ex:List Tk→Rs Nd} (hs:Snd 1 ex) (hq:Fy l ex R.Al):∀ (k k':Nat) (acc:List Nd) (ts:List Tk),k < k'→acc.length+ts.length≤9000010→Sx l ts→∀ r,Gz e ex k acc ts=some r →
  Gs l (obind (A8.l15 K R e k' l (pos l ts) false acc) (fun r=>r) (fun (a,b,c,d)=>some (d,(⟨a,b,c⟩:RP)))) r:=by
 intro k
 induction k with
 | zero=>intro k' a ts hk hn h r hr; cases hr
 | succ k ih =>
  intro k' acc ts hk hn h r hr;obtain ⟨k',rfl⟩:∃ j,k'=j+1:=⟨k' - 1,by omega⟩
  rw [A8.l15,if_neg (by simp)];unfold Gz at hr;have hl:=h.len; have hh:=h.hl;rcases Fd (γ:=Nd) h (fun r=>hs _ h.gd r) hr with ⟨er,hx,rfl⟩ |⟨b,ts',hx,h3,h4,hr⟩
  ·obtain ⟨b,hb⟩:=hq _ h _ hx;have he:Eat 0 _ er:=hs _ h.gd _ hx;have h2:=h.eat he;replace hb:R.Al (⟨l,pos l ts,false⟩:RP)=_:=hb;rw [hb,Option.bind_some];dsimp only;rw [if_pos (by simp; omega),Gi h2,Option.bind_some];dsimp only;rw [if_neg (by simp),G9 h2,Option.bind_some];obtain ⟨k',rfl⟩:∃ j,k'=j+1:=⟨k' - 1,by omega⟩
   rw [A8.l15,if_pos rfl];exact ⟨_,rfl⟩
  ·have hb:R.Al (⟨l,pos l ts,false⟩:RP)=some (b,rst l ts' false):=hq _ h _ hx
   have:=h4.2.1
   rw [hb,Option.bind_some];dsimp only;rw [if_pos (by simp; omega),Ed];by_cases h1:isS e ts'=true
   ·rw [if_pos h1] at hr;rw [Hk h3 h1]; cases hr; rfl
   ·rw [if_neg h1] at hr;rw [He h3 h1,Option.bind_some];dsimp only;rw [if_neg (by simp)];unfold Ee at hr;by_cases h5:isS [44] ts'=true
    ·rw [if_pos h5] at hr;rw [H4 h3 h5,Option.bind_some]
     have:=h3.len
     exact ih k' (acc++[b]) ts'.tail (by omega) (by simp; omega) (h3.is h5) r hr
    ·rw [if_neg h5] at hr;rw [Iu h3 h5,Option.bind_some];cases hr;obtain ⟨k',rfl⟩:∃ j,k'=j+1:=⟨k' - 1,by omega⟩
     rw [A8.l15,if_pos rfl];exact ⟨_,rfl⟩
theorem Kd (hKl:l.length+20≤K) {R:GR} {e:List UInt8} {ex:List Tk→Rs Nd} (hs:Snd 1 ex) (hq:Fy l ex R.Al):Fy l (Gl e ex) (A8.F K R e):=by
 intro ts h r hr;unfold A8.F
 have:=h.len; have:=h.hl
 exact Fw h hr (fun h1 h2 hr=>Fx hr) fun hr=>Uy hs hq _ K [] ts (by omega) (by simp; omega) h r hr
theorem Ro {S:SP} {R:GR} (hS:Hm S) (hq:Fy l S.ex R.Al) (hb:Gh l R.Al):∀ (k k':Nat) (acc:List Nd) (ts:List Tk),k < k'→acc.length+ts.length≤9000010→Sx l ts→∀ r,Gz [125] (prF S) k acc ts=some r →
  Gs l (obind (Be.l15 K R k' l (pos l ts) false acc) (fun r=>r) (fun (a,b,c,d)=>some (d,(⟨a,b,c⟩:RP)))) r:=by
 intro k
 induction k with
 | zero=>intro k' a ts hk hn h r hr; cases hr
 | succ k ih =>
  intro k' acc ts hk hn h r hr;obtain ⟨k',rfl⟩:∃ j,k'=j+1:=⟨k' - 1,by omega⟩
  rw [Be.l15,if_neg (by simp)];unfold Gz at hr;have hl:=h.len; have hh:=h.hl;obtain ⟨t,u,rfl⟩:=h.gd.head;have hk4:=Hr (K:=K) h 4;change A4 K (⟨l,pos l (t :: u),false⟩:RP) 4=_ at hk4;rw [hk4,Option.bind_some];unfold prF at hr;simp only [Gm] at hr;by_cases hk':t.Kind=4
  ·rw [if_pos hk'] at hr;obtain ⟨g1,g2,g3⟩:=M0 h;rw [if_pos (by simpa using hk'),if_pos ⟨g1,g2⟩,g3,h.succ];have h1:Sx l u:=h.eat (d:=1) ⟨List.suffix_cons t u,by simp,h.gd.tl (by omega)⟩;have bad:∀ us,Sx l us→∃ b,obind (Option.bind (R.Al (rst l us true)) (fun (f,g)=>(Option.bind (B5 K 9 f) (fun a5=>(if (acc.length+([(⟨a5.Op,a5.Name,a5.Int,t.Text,a5.Kids⟩:Aa)]:List Aa).length) * 72≤140737488355328 then (Option.bind (Ag K [125] g) (fun (i,e)=>(if i=true then some (X3.done (((acc++([(⟨a5.Op,a5.Name,a5.Int,t.Text,a5.Kids⟩:Aa)]:List Aa)),e))) else (Option.bind (Aq K [44] e) (fun a7=>Be.l15 K R k' a7.l a7.at_ a7.bad (acc++([(⟨a5.Op,a5.Name,a5.Int,t.Text,a5.Kids⟩:Aa)]:List Aa))))))) else none))))) (fun r=>r) (fun (a,b,c,d)=>some (d,(⟨a,b,c⟩:RP)))=some (b,rst l us true):=by
    intro us hu;obtain ⟨a,ha⟩:=hb us hu;rw [ha,Option.bind_some];dsimp only;rw [Ga,Option.bind_some];dsimp only;rw [if_pos (by simp; omega),Gi hu,Option.bind_some];dsimp only;rw [if_neg (by simp),G9 hu,Option.bind_some];obtain ⟨k',rfl⟩:∃ j,k'=j+1:=⟨k' - 1,by omega⟩
    rw [Be.l15,if_pos rfl];exact ⟨_,rfl⟩
   replace hr:bnd (bnd (Ee [58] u) (fun _ ts=>bnd (S.ex ts) fun a ts=>pok ⟨9,[],0,t.Text,[a]⟩ ts)) (fun a ts=>if isS [125] ts=true then pok (acc++[a]) ts.tail else bnd (Ee [44] ts) fun _ ts=>Gz [125] (prF S) k (acc++[a]) ts)=some r:=hr;show Gs l (obind (Option.bind (Aq K [58] (rst l u false)) _) _ _) r;by_cases h2:isS [58] u=true
   ·rw [H4 h1 h2];simp only [Ee,if_pos h2] at hr;replace hr:bnd (bnd (S.ex u.tail) fun a ts=>pok ⟨9,[],0,t.Text,[a]⟩ ts) (fun a ts=>if isS [125] ts=true then pok (acc++[a]) ts.tail else bnd (Ee [44] ts) fun _ ts=>Gz [125] (prF S) k (acc++[a]) ts)=some r:=hr;have h3:=h1.is h2;show Gs l (obind (Option.bind (R.Al (rst l u.tail false)) _) _ _) r;cases hx:S.ex u.tail with
    | none=>rw [hx] at hr; cases hr
    | some x =>
     rw [hx] at hr;have hy:=hS.ex _ h3.gd _ hx;have hz:=hq _ h3 _ hx
     match x,hr,hy,hz with
     | .error er,hr,hy,⟨b,hz⟩ =>
      cases hr;have h4:=h3.eat (show Eat 0 _ er from hy);rw [hz,Option.bind_some];dsimp only;rw [Ga,Option.bind_some];dsimp only;rw [if_pos (by simp; omega),Gi h4,Option.bind_some];dsimp only;rw [if_neg (by simp),G9 h4,Option.bind_some];obtain ⟨k',rfl⟩:∃ j,k'=j+1:=⟨k' - 1,by omega⟩
      rw [Be.l15,if_pos rfl];exact ⟨_,rfl⟩
     | .ok (b,ts'),hr,hy,hz =>
      replace hz:R.Al (rst l u.tail false)=some (b,rst l ts' false):=hz;have h4:=h3.eat (show Eat 1 _ ts' from hy);have h5:Eat 1 u.tail ts':=hy
      have:=h5.2.1; have:=h3.len
      replace hr:(if isS [125] ts'=true then pok (acc++[⟨9,[],0,t.Text,[b]⟩]) ts'.tail else bnd (Ee [44] ts') fun _ ts=>Gz [125] (prF S) k (acc++[⟨9,[],0,t.Text,[b]⟩]) ts)=some r:=hr;rw [hz,Option.bind_some];dsimp only;rw [Ga,Option.bind_some];dsimp only;rw [if_pos (by simp; omega)];by_cases h6:isS [125] ts'=true
      ·rw [if_pos h6] at hr;rw [Hk h4 h6]; cases hr; rfl
      ·rw [if_neg h6] at hr;rw [He h4 h6,Option.bind_some];dsimp only;rw [if_neg (by simp)];unfold Ee at hr;by_cases h7:isS [44] ts'=true
       ·rw [if_pos h7] at hr;rw [H4 h4 h7,Option.bind_some]
        have:=h4.len
        have hlen:ts'.tail.length≤ts'.length:=by simp
        simp only [List.length_cons,List.length_tail] at *;replace hr:Gz [125] (prF S) k (acc++[⟨9,[],0,t.Text,[b]⟩]) ts'.tail=some r:=hr;exact ih k' (acc++[⟨9,[],0,t.Text,[b]⟩]) ts'.tail (by omega) (by simp; omega) (h4.is h7) r hr
       ·rw [if_neg h7] at hr;rw [Iu h4 h7,Option.bind_some];cases hr;obtain ⟨k',rfl⟩:∃ j,k'=j+1:=⟨k' - 1,by omega⟩
        rw [Be.l15,if_pos rfl];exact ⟨_,rfl⟩
   ·rw [Iu h1 h2];simp only [Ee,if_neg h2] at hr;cases hr;exact bad u h1
  ·rw [if_neg hk'] at hr;rw [if_neg (by simpa using hk')];cases hr;exact ⟨_,rfl⟩
theorem Qg (hKl:l.length+20≤K) {S:SP} {R:GR} (hS:Hm S) (hq:Fy l S.ex R.Al) (hb:Gh l R.Al):Fy l (Gl [125] (prF S)) (Be.F K R):=by
 intro ts h r hr;unfold Be.F
 have:=h.len; have:=h.hl
 exact Fw h hr (fun h1 h2 hr=>Fx hr) fun hr=>Ro hS hq hb _ K [] ts (by omega) (by simp; omega) h r hr
end
end Go.Proofs.YtifjagfmfkemmaaGreatDoor
