import Derived.Test.YtifjagfmfkemmaaGreatDoorLwU
set_option linter.unusedVariables false
set_option linter.unusedSimpArgs false
set_option maxHeartbeats 4000000
namespace Go.Proofs.YtifjagfmfkemmaaGreatDoor
open Eng Go
section
variable {K:Nat} {l:List Tk}
theorem E1 {α β γ:Type} (Φ:Option γ→Prop) {ts:List Tk} (h:Sx l ts) {d:Nat} {x:Rs α} {f:α→List Tk→Rs β} {r:Except (List Tk) (β×List Tk)} {o:Option (Int ⊕ (α×Ab))} {g:Int ⊕ (α×Ab)→Option γ}
  (hr:bnd x f=some r) (hx:∀ r,x=some r→Ate d ts r) (hq:∀ r,x=some r→o=some (cR l r))
  (hok:∀ a ts',Sx l ts'→Eat d ts ts'→f a ts'=some r→Φ (g (.inr (a,st l ts')))) (hbad:∀ e,r=.error e→Φ (g (.inl (atE e)))):Φ (Option.bind o g):=by
 rcases Fr (γ:=β) h hx hr with ⟨e,hx',he⟩ |⟨a,ts',hx',h3,h4,hr⟩
 ·rw [hq _ hx']; exact hbad e he
 ·rw [hq _ hx']; exact hok a ts' h3 h4 hr
theorem Rb {α β γ:Type} (Φ:Option γ→Prop) {ts:List Tk} (h:Sx l ts) {d:Nat} {x:Rs α} {f:α→List Tk→Rs β} {r:Except (List Tk) (β×List Tk)} {o:Option ((α×Ab) ⊕ Int)} {g:(α×Ab) ⊕ Int→Option γ}
  (hr:bnd x f=some r) (hx:∀ r,x=some r→Ate d ts r) (hq:∀ r,x=some r→o=some (cL l r))
  (hok:∀ a ts',Sx l ts'→Eat d ts ts'→f a ts'=some r→Φ (g (.inl (a,st l ts')))) (hbad:∀ e,r=.error e→Φ (g (.inr (atE e)))):Φ (Option.bind o g):=by
 rcases Fr (γ:=β) h hx hr with ⟨e,hx',he⟩ |⟨a,ts',hx',h3,h4,hr⟩
 ·rw [hq _ hx']; exact hbad e he
 ·rw [hq _ hx']; exact hok a ts' h3 h4 hr
theorem F8 {β γ:Type} (Φ:Option γ→Prop) {ts:List Tk} (h:Sx l ts) {s:List UInt8} {f:Unit→List Tk→Rs β} {r:Except (List Tk) (β×List Tk)} {g:Ab ⊕ Int→Option γ}
  (hr:bnd (D5 s ts) f=some r) (hok:Sx l ts.tail→f () ts.tail=some r→Φ (g (.inl (st l ts.tail)))) (hbad:∀ e,r=.error e→Φ (g (.inr (atE e)))):Φ (Option.bind (Ao K s (st l ts)) g):=by
 unfold D5 at hr;by_cases h1:isS s ts=true
 ·rw [if_pos h1] at hr;rw [H5 h h1];exact hok (h.is h1) hr
 ·rw [if_neg h1] at hr;rw [Ia h h1];cases hr;exact hbad ts rfl
theorem Gd {β γ:Type} (Φ:Option γ→Prop) {ts:List Tk} (h:Sx l ts) {s:List UInt8} {x y:Rs β} {r:Except (List Tk) (β×List Tk)} {g:Bool×Ab→Option γ}
  (hr:(if isS s ts=true then x else y)=some r) (ht:isS s ts=true→Sx l ts.tail→x=some r→Φ (g (true,st l ts.tail))) (hf:y=some r→Φ (g (false,st l ts))):Φ (Option.bind (Ak K s (st l ts)) g):=by
 by_cases h1:isS s ts=true
 ·rw [if_pos h1] at hr;rw [Gy h h1];exact ht h1 (h.is h1) hr
 ·rw [if_neg h1] at hr;rw [Gl h h1];exact hf hr
abbrev Is {α:Type} (l:List Tk) (r:Except (List Tk) (α×List Tk)):Option (Int ⊕ (α×Ab))→Prop:=fun o=>o=some (cR l r)
theorem F7 {α:Type} {a:α} {ts:List Tk} {r:Except (List Tk) (α×List Tk)} (hr:pok a ts=some r):some (Sum.inr (a,st l ts))=some (cR l r):=by cases hr; rfl
theorem Fk {α:Type} {e:List Tk} {r:Except (List Tk) (α×List Tk)} (hr:r=.error e):some (Sum.inl (atE e))=some (cR l r):=by subst hr; rfl
theorem K3 {ts:List Tk} (h:Sx l ts) {d:Nat} {p:List Tk→Rs Nd} {q:Ab→Option (Int ⊕ (Nd×Ab))} (hq:E7 l p q) {r:Except (List Tk) (Nd×List Tk)} (hr:p ts=some r) :
  Option.bind (q (st l ts)) (fun a1=>match a1 with |(Sum.inl a1)=>some (Sum.inl a1) |(Sum.inr (a,b))=>some (Sum.inr (a,b)))=some (cR l r):=by
 rw [hq ts h r hr]; exact J3 r
def jx (l:List Tk) (i:Int):Int:=if IntKind.i64.wrap ((l.length:Int) - 1) < IntKind.i64.wrap (i+1) then IntKind.i64.wrap ((l.length:Int) - 1) else IntKind.i64.wrap (i+1)
theorem Qj {ts:List Tk} (h:Sx l ts):((0:Int)≤jx l (pos l ts)∧jx l (pos l ts) <(l.length:Int))∧∃ u r,(ts=[u]∨∃ t,ts=t :: u :: r)∧l.getD (Int.toNat (jx l (pos l ts))) Dh=u:=by
 have h1:=h.len; have h2:=h.hl;unfold jx;rw [h.succ,w64 (by omega) (by omega)];obtain ⟨t,r,rfl⟩:=h.gd.head
 match r,h,h1,h2 with
 | [],h,h1,h2 =>
  have h3:=rget h;rw [if_pos (by simp only [pos,List.tail_cons,List.length_nil]; omega)];have e:(l.length:Int) - 1=pos l [t]:=by simp only [pos,List.length_cons,List.length_nil] at *; omega
  rw [e];exact ⟨⟨h3.1,h3.2.1⟩,t,[],.inl rfl,h3.2.2⟩
 | u :: r,h,h1,h2 =>
  have h4:Sx l (u :: r):=⟨(List.suffix_cons t _).trans h.sf,h.gd,h.hl⟩
  have h3:=rget h4;have h5:=h4.len;rw [List.tail_cons,if_neg (by have:=h3.2.1; omega)];exact ⟨⟨h3.1,h3.2.1⟩,u,r,.inr ⟨t,rfl⟩,h3.2.2⟩
theorem Ow {ts:List Tk} (h:Sx l ts):Option.bind (Bj K (st l ts)) (fun a1=>if a1.Kind=1 then (if (l.getD (Int.toNat (jx l (pos l ts))) Dh).Kind=5 then some (decide ((l.getD (Int.toNat (jx l (pos l ts))) Dh).Text=[61])) else some false) else some false)=some (J8 ts):=by
 obtain ⟨-,u,r,hc,e⟩:=Qj h;rw [e];rcases hc with rfl |⟨t,rfl⟩
 ·rw [Gb h,Option.bind_some,if_neg (by rw [show u.Kind=0 from h.gd]; decide)]; rfl
 ·rw [Gb h,Option.bind_some];unfold J8;by_cases h1:t.Kind=1
  ·by_cases h2:u.Kind=5
   ·simp [h1,h2]
   ·simp [h1,h2]
  ·simp [h1]
theorem Li {ts:List Tk} (h:J8 ts=true):∃ t u r,ts=t :: u :: r∧Fi ts=some (.ok (t.Text,u :: r))∧isS [61] (u :: r)=true:=by
 unfold J8 at h;split at h
 ·rename_i t u r;simp at h;exact ⟨t,u,r,rfl,by simp [Fi,Fo,h.1,bnd],by simp [isS,h.2]⟩
 ·cases h
section
variable {E:SP} (hE:Gp E) (sE:E7 l E.ex (As K))
include hE sE
theorem K8:E7 l (I9 E) (B1 K):=fun ts h r hr=>by
 unfold B1;refine E1 (Is l r) h hr (fun r=>hE.ex _ h.gd r) (fun r hx=>sE _ h _ hx) (fun a ts' h3 h4 hr=>?_) fun e he=>Fk he
 exact F8 (Is l r) h3 hr (fun h5 hr=>F7 hr) fun e he=>Fk he
theorem p_asn:E7 l (Mq E) (Cz K):=fun ts h r hr=>by
 unfold Cz;have h1:=Qj h;have h2:=Ow (K:=K) h;show (if (0:Int)≤jx l (pos l ts)∧jx l (pos l ts) <(l.length:Int) then (Option.bind (Option.bind (Bj K (st l ts)) (fun a1=>if a1.Kind=1 then (if (l.getD (Int.toNat (jx l (pos l ts))) Dh).Kind=5 then some (decide ((l.getD (Int.toNat (jx l (pos l ts))) Dh).Text=[61])) else some false) else some false)) _) else none)=_;rw [if_pos h1.1,h2,Option.bind_some];unfold Mq ia at hr;by_cases ha:J8 ts=true
 ·rw [if_pos ha] at hr ⊢;obtain ⟨t,u,v,e,hn,he⟩:=Li ha;have h3:Sx l (u :: v):=h.eat (d:=1) (C6 _ h.gd _ hn);have h4:=h3.is he;rw [F5 h hn,Option.bind_some];replace hr:bnd (Fi ts) (Mr E 41)=some r:=hr;rw [hn] at hr;replace hr:bnd (D5 [61] (u :: v)) (fun _=>sq (I9 E) fun a=>pok ⟨41,t.Text,0,[],[a]⟩)=some r:=hr;unfold D5 at hr;rw [if_pos he] at hr;replace hr:bnd (I9 E v) (fun a=>pok ⟨41,t.Text,0,[],[a]⟩)=some r:=hr;show Option.bind (B1 K ⟨l,IntKind.i64.wrap (pos l (u :: v)+1)⟩) _=_;rw [h3.succ];refine E1 (Is l r) h4 hr (fun r=>Fg hE _ h4.gd r) (fun r hx=>K8 hE sE _ h4 _ hx) (fun a ts' h3 h4 hr=>?_) fun e he=>Fk he
  dsimp only;rw [Eu];exact F7 hr
 ·rw [if_neg ha] at hr ⊢;refine E1 (Is l r) h hr (fun r=>Fg hE _ h.gd r) (fun r hx=>K8 hE sE _ h _ hx) (fun a ts' h3 h4 hr=>?_) fun e he=>Fk he
  dsimp only;rw [Eu];exact F7 hr
end
abbrev GB:=A4
section
variable {E:SP} (hE:Gp E) (sE:E7 l E.ex (As K))
theorem P8 {sm:List Tk→Rs Nd} (hs:Snd 1 sm) {R:GB} (hq:E7 l sm R.Ba):∀ (k k':Nat) (acc:List Nd) (ts:List Tk),k≤k'→acc.length+ts.length≤9000010→Sx l ts→∀ r,bnd (Gh sm k acc ts) (fun ks=>pok (nd 53 ks))=some r →
  obind (Al.l9 K R k' l (pos l ts) acc) (fun r=>r) (fun (a,b,c)=>some (Sum.inr (nd 53 c,(⟨a,b⟩:Ab))))=some (cR l r):=by
 intro k
 induction k with
 | zero=>intro k' acc ts hk hn h r hr; cases hr
 | succ k ih =>
  intro k' acc ts hk hn h r hr;obtain ⟨k',rfl⟩:∃ j,k'=j+1:=⟨k' - 1,by omega⟩
  rw [Al.l9];have hl:=h.len; have hh:=h.hl;show obind (Option.bind (Ak K [125] (st l ts)) _) _ _=_;replace hr:bnd (if isS [125] ts=true then pok acc ts.tail else bnd (sm ts) fun a ts=>Gh sm k (acc++[a]) ts) (fun ks=>pok (nd 53 ks))=some r:=hr;by_cases h1:isS [125] ts=true
  ·rw [if_pos h1] at hr;rw [Gy h h1]; cases hr; rfl
  ·rw [if_neg h1] at hr;rw [Gl h h1];have e:bnd (sm ts) (fun a ts=>bnd (Gh sm k (acc++[a]) ts) (fun ks=>pok (nd 53 ks)))=some r:=by
    rw [← hr]
    match sm ts with
    | none=>rfl
    | some (.error e)=>rfl
    | some (.ok (a,ts))=>rfl
   show obind (Option.bind (R.Ba (st l ts)) _) _ _=_;refine E1 (fun o=>obind o (fun r=>r) (fun (a,b,c)=>some (Sum.inr (nd 53 c,(⟨a,b⟩:Ab))))=some (cR l r)) h e (fun r=>hs _ h.gd r) (fun r hx=>hq _ h _ hx) (fun a ts' h3 h4 hr=>?_) (fun e he=>?_)
   rotate_left
   ·subst he; rfl
   have:=h4.2.1
   dsimp only;rw [Eu,if_pos (by simp; omega)];exact ih k' (acc++[a]) ts' (by omega) (by simp; omega) h3 r hr
theorem p_bl (hKl:l.length+2≤K) {S:SB} (hS:Iv S) {R:GB} (hq:E7 l S.sm R.Ba):E7 l (blF S) (Al.F K R):=fun ts h r hr=>by
 unfold Al.F;refine F8 (Is l r) h hr (fun h3 hr=>?_) fun e he=>Fk he
 have:=h3.len; have:=h3.hl
 exact P8 hS.sm hq _ K [] ts.tail (by omega) (by simp only [List.length_nil]; omega) h3 r hr
include hE sE
theorem p_cd {S:SB} (hS:Iv S) {R:GB} (hb:E7 l S.bl R.Al) (hc:E7 l S.cd R.A3):E7 l (cdF E S) (A3.F K R):=fun ts h r hr=>by
 unfold A3.F;refine E1 (Is l r) h hr (fun r=>hE.ex _ h.gd r) (fun r hx=>sE _ h _ hx) (fun a ts' h hx hr=>?_) fun e he=>Fk he
 refine E1 (Is l r) h hr (fun r=>hS.bl _ h.gd r) (fun r hx=>hb _ h _ hx) (fun b ts' h hx hr=>?_) fun e he=>Fk he
 show Option.bind (some [_,_]) _=_;rw [Option.bind_some,Eu,Eu];refine Gd (Is l r) h hr (fun h1 h hr=>?_) fun hr=>F7 hr
 refine Gd (Is l r) h hr (fun h1 h hr=>?_) fun hr=>?_
 ·refine E1 (Is l r) h hr (fun r=>hS.cd _ h.gd r) (fun r hx=>hc _ h _ hx) (fun c ts' h hx hr=>?_) fun e he=>Fk he
  dsimp only;rw [if_pos (by simp),Eu]; exact F7 hr
 ·refine E1 (Is l r) h hr (fun r=>hS.bl _ h.gd r) (fun r hx=>hb _ h _ hx) (fun c ts' h hx hr=>?_) fun e he=>Fk he
  dsimp only;rw [if_pos (by simp),Eu]; exact F7 hr
theorem p_chL {bl:List Tk→Rs Nd} (hs:Snd 1 bl) {R:GB} (hb:E7 l bl R.Al) {F:List Nd→List Tk→Rs Nd} {T:List Tk×Int×List Nd→Option (Int ⊕ (Nd×Ab))} (hT:∀ ks ts,ks.length≤9000010→Sx l ts→∀ r,F ks ts=some r→T (l,pos l ts,ks)=some (cR l r)) :
  ∀ (k k':Nat) (acc:List Nd) (ts:List Tk),k≤k'→acc.length+ts.length≤9000010→Sx l ts→∀ r,bnd (chL E bl k acc ts) F=some r →
  obind (A5.l9 K R k' l (pos l ts) acc) (fun r=>r) T=some (cR l r):=by
 intro k
 induction k with
 | zero=>intro k' acc ts hk hn h r hr; cases hr
 | succ k ih =>
  intro k' acc ts hk hn h r hr;obtain ⟨k',rfl⟩:∃ j,k'=j+1:=⟨k' - 1,by omega⟩
  rw [A5.l9];have hl:=h.len; have hh:=h.hl;show obind (Option.bind (Dw K (st l ts) [99,97,115,101]) _) _ _=_;rw [Jy h,Option.bind_some];simp only [chL] at hr;by_cases h1:isS [99,97,115,101] ts=true
  ·rw [if_pos h1] at hr ⊢;by_cases h2:acc.length=16
   ·rw [if_pos h2] at hr;rw [if_pos (by omega)];show obind (Option.bind (Bf K (st l ts)) _) _ _=_;rw [Gn h]; cases hr; rfl
   ·rw [if_neg h2] at hr;rw [if_neg (by omega),h.succ];have h3:=h.is h1;have h4:=Qj h3;have h5:=Ow (K:=K) h3;have hlt:=(Eat.isS h.gd h1).2.1;have tail:∀ (s:List UInt8) (us:List Tk),Sx l us→us.length≤ts.tail.length→bnd (Jn E bl s us) (fun a ts=>bnd (chL E bl k (acc++[a]) ts) F)=some r →
      obind (Option.bind (As K (st l us)) (fun a6=>match a6 with |(Sum.inl a6)=>some (T5.done (Sum.inl a6)) |(Sum.inr (c,m))=>(Option.bind (R.Al m) (fun a7=>match a7 with |(Sum.inl a7)=>some (T5.done (Sum.inl a7)) |(Sum.inr (f,g))=>(if (acc.length+([(⟨50,s,0,[],([(⟨c.Op,c.Name,c.Int,c.Text,c.Kids⟩:Aa),(⟨f.Op,f.Name,f.Int,f.Text,f.Kids⟩:Aa)]:List Aa)⟩:Aa)]:List Aa).length) * 72≤140737488355328 then A5.l9 K R k' g.l g.i (acc++([(⟨50,s,0,[],([(⟨c.Op,c.Name,c.Int,c.Text,c.Kids⟩:Aa),(⟨f.Op,f.Name,f.Int,f.Text,f.Kids⟩:Aa)]:List Aa)⟩:Aa)]:List Aa)) else none)))):Option (T5 (Int ⊕ (Aa×Ab)) ((List Aq)×Int×(List Aa)))) (fun r=>r) T=some (cR l r):=by
     intro s us hu hlu hr;have e:bnd (E.ex us) (fun a ts=>bnd (bl ts) (fun b ts=>bnd (chL E bl k (acc++[⟨50,s,0,[],[a,b]⟩]) ts) F))=some r:=by
      rw [← hr];unfold Jn sq
      match E.ex us with
      | none=>rfl
      | some (.error e)=>rfl
      | some (.ok (a,ts)) =>
       show bnd (bl ts) _=bnd (bnd (bl ts) _) _
       match bl ts with
       | none=>rfl
       | some (.error e)=>rfl
       | some (.ok (a,ts))=>rfl
     refine E1 (fun o=>obind o (fun r=>r) T=some (cR l r)) hu e (fun r=>hE.ex _ hu.gd r) (fun r hx=>sE _ hu _ hx) (fun a ts' h6 h7 hr=>?_) fun e he=>by subst he; rfl
     refine E1 (fun o=>obind o (fun r=>r) T=some (cR l r)) h6 hr (fun r=>hs _ h6.gd r) (fun r hx=>hb _ h6 _ hx) (fun b ts'' h8 h9 hr=>?_) fun e he=>by subst he; rfl
     have:=h7.2.1; have:=h9.2.1
     dsimp only;rw [Eu,Eu,if_pos (by simp; omega)];exact ih k' _ ts'' (by omega) (by simp; omega) h8 r hr
    show obind (obind (if (0:Int)≤jx l (pos l ts.tail)∧jx l (pos l ts.tail) <(l.length:Int) then (Option.bind (Option.bind (Bj K (st l ts.tail)) (fun a1=>if a1.Kind=1 then (if (l.getD (Int.toNat (jx l (pos l ts.tail))) Dh).Kind=5 then some (decide ((l.getD (Int.toNat (jx l (pos l ts.tail))) Dh).Text=[61])) else some false) else some false)) _) else none) _ _) _ _=_;rw [if_pos h4.1,h5,Option.bind_some];replace hr:bnd (bnd (Ja E bl ts.tail) (fun a ts=>chL E bl k (acc++[a]) ts)) F=some r:=hr;have hr:bnd (Ja E bl ts.tail) (fun a ts=>bnd (chL E bl k (acc++[a]) ts) F)=some r:=by
     rw [← hr]
     match Ja E bl ts.tail with
     | none=>rfl
     | some (.error e)=>rfl
     | some (.ok (a,ts))=>rfl
    unfold Ja ia at hr;by_cases ha:J8 ts.tail=true
    ·rw [if_pos ha] at hr ⊢;obtain ⟨t,u,v,e,hn',he⟩:=Li ha;have h6:Sx l (u :: v):=h3.eat (d:=1) (C6 _ h3.gd _ hn');have h7:=h6.is he;show obind (obind (Option.bind (Au K (st l ts.tail)) _) _ _) _ _=_;rw [F5 h3 hn',Option.bind_some];replace hr:bnd (bnd (Fi ts.tail) fun s=>sq (D5 [61]) fun _=>Jn E bl s) (fun a ts=>bnd (chL E bl k (acc++[a]) ts) F)=some r:=hr;rw [hn'] at hr;replace hr:bnd (bnd (D5 [61] (u :: v)) fun _=>Jn E bl t.Text) (fun a ts=>bnd (chL E bl k (acc++[a]) ts) F)=some r:=hr;unfold D5 at hr;rw [if_pos he] at hr;show obind (Option.bind (As K ⟨l,IntKind.i64.wrap (pos l (u :: v)+1)⟩) _) _ _=_;rw [h6.succ];exact tail t.Text v h7 (by rw [e]; simp; omega) hr
    ·rw [if_neg ha] at hr ⊢;exact tail [] ts.tail h3 (Nat.le_refl _) hr
  ·rw [if_neg h1] at hr ⊢;exact hT acc ts (by omega) h r hr
theorem p_chS (hKl:l.length+2≤K) {bl:List Tk→Rs Nd} (hs:Snd 1 bl) {R:GB} (hb:E7 l bl R.Al):E7 l (chS E bl) (A5.F K R):=fun ts h r hr=>by
 unfold A5.F;refine F8 (Is l r) h hr (fun h3 hr=>?_) fun e he=>Fk he
 have:=h3.len; have:=h3.hl
 refine p_chL hE sE hs hb (F:=fun ks=>sq (elS bl ks) chE) (fun ks us hn h r hr=>?_) _ K [] ts.tail (by omega) (by simp only [List.length_nil]; omega) h3 r hr;have fin:∀ (ks:List Nd) us,Sx l us→chE ks us=some r→(if (ks.length:Int)=0 then (Option.bind (Bf K (st l us)) (fun a11=>some (Sum.inl a11))) else (Option.bind (Ao K [125] (st l us)) (fun a12=>match a12 with |(Sum.inl a12)=>some (Sum.inr ((⟨49,[],0,[],ks⟩:Aa),a12)) |(Sum.inr a12)=>some (Sum.inl a12))))=some (cR l r):=by
  intro ks us h hr;unfold chE at hr;by_cases h0:ks.length=0
  ·rw [if_pos h0] at hr;rw [if_pos (by omega),Gn h]; cases hr; rfl
  ·rw [if_neg h0] at hr;rw [if_neg (by omega)];exact F8 (Is l r) h hr (fun h5 hr=>F7 hr) fun e he=>Fk he
 show obind (Option.bind (Ak K [101,108,115,101] (st l us)) _) _ _=_;replace hr:bnd (if isS [101,108,115,101] us=true then bnd (bl us.tail) (fun b=>pok (ks++[nd 51 [b]])) else pok ks us) chE=some r:=hr;by_cases h1:isS [101,108,115,101] us=true
 ·rw [if_pos h1] at hr;rw [Gy h h1,Option.bind_some];have h2:=h.is h1;have e:bnd (bl us.tail) (fun b=>chE (ks++[nd 51 [b]]))=some r:=by
   rw [← hr]
   match bl us.tail with
   | none=>rfl
   | some (.error e)=>rfl
   | some (.ok (a,ts))=>rfl
  dsimp only;rw [if_pos rfl];refine E1 (fun o=>obind o (fun r=>r) _=some (cR l r)) h2 e (fun r=>hs _ h2.gd r) (fun r hx=>hb _ h2 _ hx) (fun a ts' h6 h7 hr=>?_) (fun e he=>?_)
  rotate_left
  ·subst he; rfl
  dsimp only;show obind (Option.bind (some (nd 51 [_])) _) _ _=_;rw [Option.bind_some,Eu,Eu,if_pos (by simp; omega)];exact fin _ _ h6 hr
 ·rw [if_neg h1] at hr;rw [Gl h h1];exact fin _ _ h hr
end
end
end Go.Proofs.YtifjagfmfkemmaaGreatDoor
