import Derived.Test.YtifjagfmfkemmaaGreatDoorLwW
set_option linter.unusedVariables false
set_option linter.unusedSimpArgs false
set_option maxHeartbeats 4000000
namespace Go.Proofs.YtifjagfmfkemmaaGreatDoor
open Eng Go
section
variable {K:Nat} {l:List Tk}
theorem Gw {α β:Type} {q:RP→Option (α×RP)} (hq:Gh l q) {ts:List Tk} (h:Sx l ts) {g:α×RP→Option (β×RP)} (hg:∀ a,∃ b,g (a,rst l ts true)=some (b,rst l ts true)):∃ b,Option.bind (q (rst l ts true)) g=some (b,rst l ts true):=by
 obtain ⟨a,e⟩:=hq ts h;rw [e]; exact hg a
theorem Gr {β:Type} {s:List UInt8} {ts:List Tk} (h:Sx l ts) {g:RP→Option (β×RP)} (hg:∃ b,g (rst l ts true)=some (b,rst l ts true)):∃ b,Option.bind (Aq K s (rst l ts true)) g=some (b,rst l ts true):=by
 rw [G9 h]; exact hg
theorem Tp {β:Type} {s:List UInt8} {ts:List Tk} (h:Sx l ts) {g:Bool×RP→Option (β×RP)} (hg:∃ b,g (false,rst l ts true)=some (b,rst l ts true)):∃ b,Option.bind (Ag K s (rst l ts true)) g=some (b,rst l ts true):=by
 rw [Gi h]; exact hg
theorem Iz:Gh l (A1 K):=fun ts h=>⟨_,T3⟩
theorem Ig {ts:List Tk} (h:Sx l ts) (a:Nd):∃ b,Option.bind (Bf K a (rst l ts true)) (fun (x,p)=>some (x,p))=some (b,rst l ts true):=by
 unfold Bf;rw [G9 h]; exact ⟨_,rfl⟩
theorem K6 {ts:List Tk} (h:Sx l ts) {a:Nd} {r:Except (List Tk) (Nd×List Tk)} (hr:bnd (Ee [59] ts) (fun _=>pok a)=some r):Gs l (Option.bind (Bf K a (rst l ts false)) (fun (x,p)=>some (x,p))) r:=by
 unfold Bf;unfold Ee at hr;by_cases h1:isS [59] ts=true
 ·rw [if_pos h1] at hr;rw [H4 h h1]; cases hr; rfl
 ·rw [if_neg h1] at hr;rw [Iu h h1]; cases hr; exact ⟨_,rfl⟩
theorem Sy {ts:List Tk} (h:Sx l ts) (b:Bool):Dk K (rst l ts b) [61]=some (match ts with | _ :: u :: _=>decide (u.Kind=5) && decide (u.Text=[61]) | _=>false):=by
 unfold Dk;dsimp only [rst];rw [h.succ];have h1:=h.len
 match ts,h,h1 with
 | [t],h,h1 =>
  rw [if_neg (by simp only [pos,List.tail_cons,List.length_nil]; omega)]
 | t :: u :: r,h,h1 =>
  have h4:Sx l (u :: r):=⟨(List.suffix_cons t _).trans h.sf,h.gd,h.hl⟩
  obtain ⟨g1,g2,g3⟩:=M0 h4;rw [List.tail_cons,if_pos g2,if_pos ⟨g1,g2⟩,g3];by_cases h5:u.Kind=5
  ·simp [h5]
  ·simp [h5]
theorem Pp {ts:List Tk} (h:Sx l ts):Option.bind (A4 K (rst l ts false) 1) (fun a2=>(if a2=true then (Option.bind (Dk K (rst l ts false) [61]) (fun a3=>some a3)) else some false))=some (Kc ts):=by
 obtain ⟨t,r,rfl⟩:=h.gd.head;rw [Hr h,Option.bind_some,Sy h];by_cases h1:t.Kind=1
 ·rw [if_pos (by simpa using h1)];cases r with
  | nil=>rfl
  | cons u r=>simp [Kc,h1]
 ·rw [if_neg (by simpa using h1)];cases r with
  | nil=>rfl
  | cons u r=>simp [Kc,h1]
theorem Ue {ts:List Tk} (h:Kc ts=true) (s:List UInt8):¬ isS s ts=true:=by
 obtain ⟨t,u,r,rfl,hn,he⟩:=J2 h
 have:t.Kind=1:=by simp [Kc] at h; exact h.1
 simp [isS,this]
abbrev BP:=A2
def Iv (l:List Tk) (n:Nat) (o:Option (List Tk×Int×Bool×List Nd)):Except (List Tk) (List Nd×List Tk)→Prop
 | .ok (ks,ts)=>o=some (l,pos l ts,false,ks)
 | .error ts=>∃ ks,ks.length≤n∧o=some (l,pos l ts,true,ks)
theorem Iv.bnd {β:Type} {n:Nat} {ts:List Tk} (h:Sx l ts) {d:Nat} {x:Rs (List Nd)} {f:List Nd→List Tk→Rs β} {r:Except (List Tk) (β×List Tk)} {o:Option (List Tk×Int×Bool×List Nd)} {g:List Tk×Int×Bool×List Nd→Option (β×RP)}
  (hr:bnd x f=some r) (hx:∀ r,x=some r→Ate d ts r) (hq:∀ r,x=some r→Iv l n o r)
  (hok:∀ a ts',x=some (.ok (a,ts'))→Sx l ts'→f a ts'=some r→Gs l (g (l,pos l ts',false,a)) r) (hbad:∀ a ts',a.length≤n→Sx l ts'→∃ b,g (l,pos l ts',true,a)=some (b,rst l ts' true)):Gs l (Option.bind o g) r:=by
 rcases Fd (γ:=β) h hx hr with ⟨e,hx',rfl⟩ |⟨a,ts',hx',h3,h4,hr⟩
 ·obtain ⟨a,hn,ha⟩:=hq _ hx';have he:Eat 0 ts e:=hx _ hx';rw [ha];exact hbad a e hn (h.eat he)
 ·have:=hq _ hx'
  replace this:o=some (l,pos l ts',false,a):=this;rw [this];exact hok a ts' hx' h3 hr
theorem R8 {sm:List Tk→Rs Nd} (hs:Snd 1 sm) {R:BP} (hq:Fy l sm R.Cj):∀ (k k':Nat) (acc:List Nd) (ts:List Tk),k < k'→acc.length+ts.length≤9000010→Sx l ts→∀ r,Ib sm k acc ts=some r →
  Iv l 9000011 (Ak.l9 K R k' l (pos l ts) false acc) r:=by
 intro k
 induction k with
 | zero=>intro k' a ts hk hn h r hr; cases hr
 | succ k ih =>
  intro k' acc ts hk hn h r hr;obtain ⟨k',rfl⟩:∃ j,k'=j+1:=⟨k' - 1,by omega⟩
  rw [Ak.l9,if_neg (by simp)];have hl:=h.len; have hh:=h.hl;replace hr:(if isS [125] ts=true then pok acc ts.tail else bnd (sm ts) fun a ts=>Ib sm k (acc++[a]) ts)=some r:=hr;by_cases h1:isS [125] ts=true
  ·rw [if_pos h1] at hr;have e:=Hk (K:=K) h h1;change Ag K _ (⟨l,pos l ts,false⟩:RP)=_ at e;rw [e]; cases hr; rfl
  ·rw [if_neg h1] at hr;have e:=He (K:=K) h h1;change Ag K _ (⟨l,pos l ts,false⟩:RP)=_ at e;rw [e,Option.bind_some];dsimp only;rw [if_neg (by simp)];rcases Fd (γ:=Nd) h (fun r=>hs _ h.gd r) hr with ⟨er,hx,rfl⟩ |⟨b,ts',hx,h3,h4,hr⟩
   ·obtain ⟨b,hb⟩:=hq _ h _ hx;rw [hb,Option.bind_some];dsimp only;rw [if_pos (by simp; omega)];obtain ⟨k',rfl⟩:∃ j,k'=j+1:=⟨k' - 1,by omega⟩
    rw [Ak.l9,if_pos rfl];exact ⟨_,by simp; omega,rfl⟩
   ·have hb:R.Cj (rst l ts false)=some (b,rst l ts' false):=hq _ h _ hx
    have:=h4.2.1
    rw [hb,Option.bind_some];dsimp only;rw [if_pos (by simp; omega),Ed];exact ih k' (acc++[b]) ts' (by omega) (by simp; omega) h3 r hr
theorem M3 (hK:1≤K) (R:BP):Gh l (Ak.F K R):=fun ts h=>by
 unfold Ak.F;refine Gr h ?_;obtain ⟨k,rfl⟩:∃ j,K=j+1:=⟨K - 1,by omega⟩
 dsimp only;rw [Ak.l9,if_pos rfl];exact ⟨_,rfl⟩
theorem Xk (hKl:l.length+20≤K) {S:SB} (hS:Ki S) {R:BP} (hq:Fy l S.sm R.Cj):Fy l (blF S) (Ak.F K R):=fun ts h r hr=>by
 have hbd:=M3 (K:=K) (l:=l) (by omega) R ts h;unfold Ak.F at hbd ⊢;rw [G9 h] at hbd;refine G0 h hr (fun h1 h hr=>?_) hbd
 have:=h.len; have:=h.hl
 exact Iv.bnd (d:=0) h hr (fun r=>(I7 hS.sm _ _).le _ h.gd r) (fun r hx=>R8 hS.sm hq _ K [] _ (by omega) (by simp only [List.length_nil]; omega) h r hx) (fun ks ts' hx h hr=>Fx hr) fun ks ts' hn h=>⟨_,rfl⟩
section
variable {E:SP} (hE:Hm E) (qE:Fy l E.ex (Al K)) (bE:Gh l (Al K))
include hE qE bE
omit bE in
theorem Wk {S:SB} (hS:Ki S) {R:BP} (hb:Fy l S.bl R.Ak) (bb:Gh l R.Ak) (hc:∀ ts,Sx l ts→isS [105,102] ts=true→∀ r,S.cd ts.tail=some r→Gs l (R.Br (rst l ts false)) r) {ts:List Tk} (h:Sx l ts) (hi:isS [105,102] ts=true) {r:Except (List Tk) (Nd×List Tk)} (hr:cdF E S ts.tail=some r) :
  Gs l (Br.F K R (rst l ts false)) r:=by
 unfold Br.F;rw [H4 h hi,Option.bind_some];replace h:=h.is hi;have last:∀ a b us,Sx l us→∃ c:Nd,Option.bind (Dv K 42 a b) (fun a4=>(Option.bind (Ag K [101,108,115,101] (rst l us true)) (fun (i,g)=>(if i=true then (Option.bind (B2 K g [105,102]) (fun a6=>(if a6=true then (Option.bind (R.Br g) (fun (d,j)=>(if (a4.length+([(⟨d.Op,d.Name,d.Int,d.Text,d.Kids⟩:Aa)]:List Aa).length) * 72≤140737488355328 then some ((⟨42,[],0,[],(a4++([(⟨d.Op,d.Name,d.Int,d.Text,d.Kids⟩:Aa)]:List Aa))⟩:Aa),j) else none))) else (Option.bind (R.Ak g) (fun (f,k)=>(if (a4.length+([(⟨f.Op,f.Name,f.Int,f.Text,f.Kids⟩:Aa)]:List Aa).length) * 72≤140737488355328 then some ((⟨42,[],0,[],(a4++([(⟨f.Op,f.Name,f.Int,f.Text,f.Kids⟩:Aa)]:List Aa))⟩:Aa),k) else none)))))) else some ((⟨42,[],0,[],a4⟩:Aa),g)))))=some (c,rst l us true):=by
  intro a b us h;unfold Dv;rw [Option.bind_some,Gi h];exact ⟨_,rfl⟩
 refine E7 h hr (fun r=>hE.ex _ h.gd r) (fun r hx=>qE _ h _ hx) (fun a ts' h hx hr=>?_) fun a ts' h=>Gw bb h fun b=>last a b _ h
 refine E7 h hr (fun r=>hS.bl _ h.gd r) (fun r hx=>hb _ h _ hx) (fun b ts' h hx hr=>?_) fun b ts' h=>last a b _ h
 unfold Dv;dsimp only;rw [Option.bind_some];refine Fw h hr (fun h1 h hr=>?_) fun hr=>by simp only [Ed]; exact Fx hr
 dsimp only;rw [if_pos rfl,Io h,Option.bind_some];replace hr:(if isS [105,102] ts'.tail=true then bnd (S.cd ts'.tail.tail) (fun c=>pok (nd 42 [a,b,c])) else bnd (S.bl ts'.tail) (fun c=>pok (nd 42 [a,b,c])))=some r:=hr;by_cases h2:isS [105,102] ts'.tail=true
 ·rw [if_pos h2] at hr;rw [if_pos (by simpa using h2)];have h3:=h.is h2;rcases Fd (γ:=Nd) h3 (fun r=>hS.cd _ h3.gd r) hr with ⟨e,hx,rfl⟩ |⟨c,us,hx,h4,h5,hr⟩
  ·obtain ⟨c,hc'⟩:=hc _ h h2 _ hx;rw [hc',Option.bind_some];dsimp only;rw [if_pos (by simp)];exact ⟨_,rfl⟩
  ·have hc':R.Br (rst l ts'.tail false)=some (c,rst l us false):=hc _ h h2 _ hx;rw [hc',Option.bind_some];dsimp only;rw [if_pos (by simp)];simp only [Ed];exact Fx hr
 ·rw [if_neg h2] at hr;rw [if_neg (by simpa using h2)];refine E7 h hr (fun r=>hS.bl _ h.gd r) (fun r hx=>hb _ h _ hx) (fun c ts' h hx hr=>?_) fun c ts' h=>?_
  ·dsimp only;rw [if_pos (by simp)];simp only [Ed];exact Fx hr
  ·dsimp only;rw [if_pos (by simp)];exact ⟨_,rfl⟩
omit bE in
theorem Vd {bl:List Tk→Rs Nd} (hs:Snd 1 bl) {R:BP} (hb:Fy l bl R.Ak) (bb:Gh l R.Ak):∀ (k k':Nat) (acc:List Nd) (ts:List Tk),k < k'→acc.length≤16→Sx l ts→∀ r,chL E bl k acc ts=some r →
  Iv l 17 (A6.l9 K R k' l (pos l ts) false acc) r∨(acc.length≤16∧∃ (ks:List Nd) (us:List Tk),Sx l us∧ks.length=16∧isS [99,97,115,101] us=true∧r=.error us∧A6.l9 K R k' l (pos l ts) false acc=some (l,pos l us,false,ks)):=by
 intro k
 induction k with
 | zero=>intro k' a ts hk hn h r hr; cases hr
 | succ k ih =>
  intro k' acc ts hk hn h r hr;obtain ⟨k',rfl⟩:∃ j,k'=j+1:=⟨k' - 1,by omega⟩
  rw [A6.l9];simp only [chL] at hr;by_cases hn':acc.length=16
  ·rw [if_neg (by omega)];by_cases h1:isS [99,97,115,101] ts=true
   ·rw [if_pos h1,if_pos hn'] at hr;cases hr;exact .inr ⟨hn,acc,ts,h,hn',h1,rfl,rfl⟩
   ·rw [if_neg h1] at hr;cases hr;exact .inl rfl
  rw [if_pos (by omega)];show Iv l 17 (Option.bind (Ag K [99,97,115,101] (rst l ts false)) _) r∨(acc.length≤16∧∃ (ks:List Nd) (us:List Tk),Sx l us∧ks.length=16∧isS [99,97,115,101] us=true∧r=.error us∧Option.bind (Ag K [99,97,115,101] (rst l ts false)) _=some (l,pos l us,false,ks));by_cases h1:isS [99,97,115,101] ts=true
  ·rw [if_pos h1,if_neg hn'] at hr;rw [Hk h h1];replace h:=h.is h1;have tail:∀ (s:List UInt8) (us:List Tk),Sx l us→bnd (Kj E bl s us) (fun a ts=>chL E bl k (acc++[a]) ts)=some r →
     Iv l 17 (Option.bind (Al K (rst l us false)) (fun (f,g)=>(Option.bind (R.Ak g) (fun (i,c)=>(Option.bind (A5 K 50 f i) (fun a9=>(if (acc.length+([(⟨a9.Op,s,a9.Int,a9.Text,a9.Kids⟩:Aa)]:List Aa).length) * 72≤140737488355328 then A6.l9 K R k' c.l c.at_ c.bad (acc++([(⟨a9.Op,s,a9.Int,a9.Text,a9.Kids⟩:Aa)]:List Aa)) else none))))))) r ∨
     (acc.length≤16∧∃ (ks:List Nd) (vs:List Tk),Sx l vs∧ks.length=16∧isS [99,97,115,101] vs=true∧r=.error vs∧Option.bind (Al K (rst l us false)) (fun (f,g)=>(Option.bind (R.Ak g) (fun (i,c)=>(Option.bind (A5 K 50 f i) (fun a9=>(if (acc.length+([(⟨a9.Op,s,a9.Int,a9.Text,a9.Kids⟩:Aa)]:List Aa).length) * 72≤140737488355328 then A6.l9 K R k' c.l c.at_ c.bad (acc++([(⟨a9.Op,s,a9.Int,a9.Text,a9.Kids⟩:Aa)]:List Aa)) else none))))))=some (l,pos l vs,false,ks)):=by
    intro s us h hr;have bad:∀ (x:Nd) (vs:List Tk),Sx l vs→Iv l 17 (if (acc.length+([x]:List Aa).length) * 72≤140737488355328 then A6.l9 K R k' l (pos l vs) true (acc++[x]) else none) (.error vs):=by
     intro x vs hv;rw [if_pos (by simp; omega)];obtain ⟨k',rfl⟩:∃ j,k'=j+1:=⟨k' - 1,by omega⟩
     rw [A6.l9];by_cases h16:acc.length+1 < 16
     ·rw [if_pos (by simp; omega)];have e:=Gi (K:=K) hv [99,97,115,101];change Ag K _ (⟨l,pos l vs,true⟩:RP)=_ at e;rw [e];exact ⟨_,by simp; omega,rfl⟩
     ·rw [if_neg (by simp; omega)];exact ⟨_,by simp; omega,rfl⟩
    unfold Kj sq at hr;simp only [Gv] at hr;rcases Fd (γ:=Nd) h (fun r=>hE.ex _ h.gd r) hr with ⟨e,hx,rfl⟩ |⟨a,ts',hx,h3,h4,hr⟩
    ·obtain ⟨a,ha⟩:=qE _ h _ hx;have he:=h.eat (show Eat 0 _ e from hE.ex _ h.gd _ hx);obtain ⟨b,hb'⟩:=bb e he;left;rw [ha];simp only [Option.bind_some];rw [hb'];simp only [Option.bind_some,Hh];exact bad _ e he
    have ha:Al K (rst l us false)=some (a,rst l ts' false):=qE _ h _ hx;rw [ha];simp only [Option.bind_some];rcases Fd (γ:=Nd) h3 (fun r=>hs _ h3.gd r) hr with ⟨e,hx,rfl⟩ |⟨b,ts'',hx,h5,h6,hr⟩
    ·obtain ⟨b,hb'⟩:=hb _ h3 _ hx;have he:=h3.eat (show Eat 0 _ e from hs _ h3.gd _ hx);left;rw [hb'];simp only [Option.bind_some,Hh];exact bad _ e he
    have hb':R.Ak (rst l ts' false)=some (b,rst l ts'' false):=hb _ h3 _ hx;rw [hb'];simp only [Option.bind_some,Hh];rw [if_pos (by simp; omega)];replace hr:chL E bl k (acc++[⟨50,s,0,[],[a,b]⟩]) ts''=some r:=hr;rcases ih k' (acc++[⟨50,s,0,[],[a,b]⟩]) ts'' (by omega) (by simp; omega) h5 r hr with h |⟨_,h⟩
    ·exact .inl h
    ·exact .inr ⟨by omega,h⟩
   replace hr:bnd (Ln E bl ts.tail) (fun a ts=>chL E bl k (acc++[a]) ts)=some r:=hr;unfold Ln ia at hr;have ha:=Pp (K:=K) h;rw [Option.bind_some];dsimp only;rw [if_pos rfl];change Iv l 17 (Option.bind (Option.bind (Option.bind (A4 K (rst l ts.tail false) 1) (fun a2=>(if a2=true then (Option.bind (Dk K (rst l ts.tail false) [61]) (fun a3=>some a3)) else some false))) _) _) r∨(acc.length≤16∧∃ (ks:List Nd) (us:List Tk),Sx l us∧ks.length=16∧isS [99,97,115,101] us=true∧r=.error us∧(Option.bind (Option.bind (Option.bind (A4 K (rst l ts.tail false) 1) (fun a2=>(if a2=true then (Option.bind (Dk K (rst l ts.tail false) [61]) (fun a3=>some a3)) else some false))) _) _)=some (l,pos l us,false,ks));rw [ha,Option.bind_some];by_cases hA:Kc ts.tail=true
   ·rw [if_pos hA] at hr;rw [if_pos hA];obtain ⟨t,u,v,e,hn'',he⟩:=J2 hA;have h6:Sx l (u :: v):=h.eat (d:=1) (D0 _ h.gd _ hn'');have h7:=h6.is he;have e1:A1 K (rst l ts.tail false)=some (t.Text,rst l (u :: v) false):=Gq h hn'';replace hr:bnd (bnd (Gg ts.tail) fun s=>sq (Ee [61]) fun _=>Kj E bl s) (fun a ts=>chL E bl k (acc++[a]) ts)=some r:=hr;rw [hn''] at hr;replace hr:bnd (bnd (Ee [61] (u :: v)) fun _=>Kj E bl t.Text) (fun a ts=>chL E bl k (acc++[a]) ts)=some r:=hr;unfold Ee at hr;rw [if_pos he] at hr;rw [e1,Option.bind_some];dsimp only;rw [H4 h6 he];exact tail t.Text v h7 hr
   ·rw [if_neg hA] at hr;rw [if_neg hA];exact tail [] ts.tail h hr
  ·rw [if_neg h1] at hr;rw [He h h1];cases hr;exact .inl rfl
end
end
end Go.Proofs.YtifjagfmfkemmaaGreatDoor
